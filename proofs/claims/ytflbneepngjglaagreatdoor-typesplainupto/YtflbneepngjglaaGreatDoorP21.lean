/- What an operation looks at, and what it does to the heap. -/
import Derived.Test.YtflbneepngjglaaGreatDoorP20
set_option linter.all false
namespace Go.Avm
open Go.RowKit
def noT (t : H) : Prop:=∀ x ∈ t,∀ b v T n,x ≠ ABlock.tyd b v T n
theorem noT_nil : noT []:=fun x hx=>by cases hx
theorem noT_append {a b : H} (ha : noT a) (hb : noT b) : noT (a++b):=fun x hx=>(List.mem_append.1 hx).elim (ha x) (hb x)
theorem noT_arr (v sz : Nat) (els : List AV) : noT [.arr v sz els]:=fun x hx b v T n=>by simp at hx; subst hx; simp
def CallPure (call : CallF) (fpol : FuncId→Option Pol) : Prop:=∀ ws f args h r h',(fpol f=some .snap ∨ ∃ b,fpol f=some (.pur b))→call ws f args h=some (r,h')→∃ t,h'=h++t∧noT t
def DrawAll (P : Program) (w0 : World) (fpol : FuncId→Option Pol) (dchk : Nat→DChk) : Prop:=∀ call,CallOk P w0 call→CallKeep call→CallPure call fpol→∀ n,DrawOk P w0 call fpol n (dchk n)
def ExtOk (P : Program) (w0 : World) (f : FuncId) (x : List AV→H→Option (AV × H)) : Prop:=
 (∀ args h r h',x args h=some (r,h')→∃ t,h'=h++t∧noT t) ∧
 ∀ (args : List AV) (h : H) (r : AV) (h' : H) (wr : Nat) (β : Beta) (w : World) (vs : Array Value),x args h=some (r,h')→wr≤h.length→Sim w0 wr β h w→RelL (view wr β h w) β args vs.toList→Invokes P f vs w (Gets w0 wr β h w r h')
structure CfgOk (P : Program) (w0 : World) (dchk : Nat→DChk) (cfg : Cfg) : Prop where
 fn : ∀ f F,cfg.ext f=none→cfg.fn f=some F→FOk P dchk f F
 ext : ∀ f x,cfg.ext f=some x→ExtOk P w0 f x
 draw : DrawAll P w0 cfg.pol dchk
theorem grown {h h' : H} (hl : h.length≤h'.length) (hs : ∀ k,k < h.length→h'[k]? = h[k]?) : ∃ t,h'=h++t:=by
 refine ⟨h'.drop h.length,?_⟩
 have : h=h'.take h.length:=by
  apply List.ext_getElem?
  intro k
  rw [List.getElem?_take]
  split
  ·rename_i hk; exact (hs k hk).symm
  ·rename_i hk; exact List.getElem?_eq_none (by omega)
 calc h'=h'.take h.length++h'.drop h.length:=(List.take_append_drop _ _).symm
  _=h++h'.drop h.length:=by rw [← this]
theorem leave_tail {p : Pol} {h0 h h' : H} {v r : AV} (e : leave p h0 v h=some (r,h')) (hp : p = .snap ∨ ∃ b,p = .pur b) (hl : h0.length≤h.length) : noT (h'.drop h0.length):=by
 rcases hp with rfl | ⟨b,rfl⟩
 ·simp only [leave] at e
  split at e
  ·simp at e; obtain ⟨_,rfl⟩:=e; simp; exact noT_nil
  ·cases e
 ·cases b with
  | false=>
   simp only [leave] at e
   split at e
   ·simp at e; obtain ⟨_,rfl⟩:=e
    rw [List.drop_eq_nil_of_le (by simp; omega)]
    exact noT_nil
   ·cases e
  | true=>
   simp only [leave] at e
   split at e
   ·rename_i v' acc h1 e1
    split at e
    ·rename_i bs hg
     simp at e; obtain ⟨_,rfl⟩:=e
     obtain ⟨a1,_⟩:=own3_mem _ _ _ _ _ _ _ e1
     rw [List.drop_append_of_le_length (by simp; omega),List.drop_eq_nil_of_le (by simp; omega),List.nil_append]
     obtain ⟨q1,q2⟩:=regain_spec hg
     intro x hx b v T n
     obtain ⟨i,hi,rfl⟩:=List.mem_iff_getElem.1 hx
     obtain ⟨z,els,_,q3⟩:=q2 i _ (List.getElem?_eq_getElem (by omega))
     rw [List.getElem?_eq_getElem hi] at q3
     injection q3 with q3
     rw [q3]; simp
    ·cases e
   ·cases e
theorem evF_pure {call : CallF} {lp : LoopF} {fpol : FuncId→Option Pol} {F : F} {ws : Nat} {h h' : H} {args : List AV} {r : AV} (hkeep : CallKeep call) (hlp : LoopOk lp) (ev : evF call lp fpol ws F args h=some (r,h')) (hp : F.pol = .snap ∨ ∃ b,F.pol = .pur b) : ∃ t,h'=h++t∧noT t:=by
 obtain ⟨k1,k2⟩:=evF_keep hkeep hlp ev
 obtain ⟨t,ht⟩:=grown k1.1.1 (k2 hp)
 refine ⟨t,ht,?_⟩
 have hd : h'.drop h.length=t:=by rw [ht]; simp
 rw [← hd]
 unfold evF at ev
 split at ev
 ·cases ev
 ·rename_i args' hargs
  cases hev : evC call lp fpol h.length (wsOf F.pol ws h.length) F.code (argEnv 0 args') h with
  | none=>rw [hev] at ev; simp [finish] at ev
  | some p=>
   obtain ⟨x,e2,h2⟩:=p
   rw [hev] at ev
   have hl:=(evC_keep hkeep hlp F.code x (argEnv 0 args') e2 h h2 hev (Nat.le_refl _)).1.1
   cases x with
   | normal=>
    simp only [finish] at ev
    split at ev
    ·exact leave_tail ev hp hl
    ·cases ev
   | ret=>
    simp only [finish] at ev
    split at ev
    ·exact leave_tail ev hp hl
    ·cases ev
   | exit id=>simp [finish] at ev
theorem loopOk_rounds (n : Nat) : LoopOk (rounds n):=fun _ _ _ _ _ e=>⟨n,e⟩
theorem callN_ok {P : Program} {w0 : World} {dchk : Nat→DChk} {cfg : Cfg} (C : CfgOk P w0 dchk cfg) : ∀ n,CallOk P w0 (callN cfg n)∧CallKeep (callN cfg n)∧CallPure (callN cfg n) cfg.pol:=by
 intro n
 induction n with
 | zero=>
  refine ⟨fun ws f args h r h' wr β w vs e=>?_,fun ws f args h r h' e=>?_,fun ws f args h r h' _ e=>?_⟩ <;> simp [callN] at e
 | succ n ih=>
  obtain ⟨h1,h2,h3⟩:=ih
  have hd:=C.draw _ h1 h2 h3
  refine ⟨fun ws f args h r h' wr β w vs e hws hwl S hr=>?_,fun ws f args h r h' e=>?_,fun ws f args h r h' hp e=>?_⟩
  ·unfold callN at e
   split at e
   ·rename_i x hx; exact (C.ext f x hx).2 args h r h' wr β w vs e (Nat.le_trans hws hwl) S hr
   ·rename_i hx
    split at e
    ·rename_i F hF; exact evF_sound h1 h2 (loopOk_rounds n) hd (C.fn f F hx hF) hws hwl S hr e
    ·cases e
  ·unfold callN at e
   split at e
   ·rename_i x hx
    obtain ⟨t,rfl,_⟩:=(C.ext f x hx).1 _ _ _ _ e
    exact ⟨.append t (Nat.le_refl _),fun k hk _=>List.getElem?_append_left hk⟩
   ·split at e
    ·exact (evF_keep h2 (loopOk_rounds n) e).1
    ·cases e
  ·unfold callN at e
   split at e
   ·rename_i x hx; exact (C.ext f x hx).1 _ _ _ _ e
   ·rename_i hx
    split at e
    ·rename_i F hF
     simp only [Cfg.pol,hx,hF,Option.map_some,Option.some.injEq] at hp
     exact evF_pure h2 (loopOk_rounds n) e hp
    ·cases e
end Go.Avm
namespace Go.Avm
open Go.RowKit
section
variable {P : Program} {w0 w w1 : World} {wr : Nat} {β β1 : Beta} {h h' G : H}
theorem live_of {wr' : Nat} (hd : ∀ b v x,β b v=some x→h'[b]? = h[b]?) {c : Nat} (hl : Live wr' β h' c) : Live wr' β h c:=by
 obtain ⟨b,v,h1,h2,h3⟩:=hl
 refine ⟨b,v,h1,?_,h3⟩
 unfold cur at h2 ⊢
 rwa [hd b v _ h3] at h2
theorem live_agree (hd : ∀ b v x,β b v=some x→b < h'.length∧h'[b]? = h[b]?) (c : Nat) : Live wr β h' c ↔ Live wr β h c:=⟨live_of fun b v x hx=>(hd b v x hx).2,live_of fun b v x hx=>(hd b v x hx).2.symm⟩
theorem sim_agree (S : Sim w0 wr β h w) (hd : ∀ b v x,β b v=some x→b < h'.length∧h'[b]? = h[b]?) (ht : ∀ (k b v T n : Nat),h'[k]? = some (ABlock.tyd b v T n)→h[k]? = some (ABlock.tyd b v T n)) : Sim w0 wr β h' w∧∀ c,Live wr β h' c ↔ Live wr β h c:=by
 have hlive : ∀ c,Live wr β h' c ↔ Live wr β h c:=fun c=>⟨live_of fun b v x hx=>(hd b v x hx).2,live_of fun b v x hx=>(hd b v x hx).2.symm⟩
 have hv:=view_le (w:=w) fun c=>(hlive c).1
 have hc : ∀ {b v v0 x},cur h' b=some v→β b v0=some x→cur h b=some v:=fun {b v v0 x} h1 h2=>by
  unfold cur at h1 ⊢
  rwa [(hd b v0 x h2).2] at h1
 refine ⟨⟨S.below,fun b v c hb=>⟨(hd b v _ hb).1,(S.dom b v c hb).2⟩,fun b v hb=>(hd b v _ hb).1,fun k k' v v' c h1 h2 h3 h4=>S.inj k k' v v' c (hc h1 h3) (hc h2 h4) h3 h4,fun b v sz els c h1 h2=>?_,fun b x v c h1 hcu h2=>?_,fun k b v T n h1=>S.tyd k b v T n (ht k b v T n h1),fun b v v0 h1 h2=>?_,fun b v v0 h1 h2=>?_⟩,hlive⟩
 ·rw [(hd b v _ h2).2] at h1
  obtain ⟨h3,h4,h5⟩:=S.arr b v sz els c h1 h2
  exact ⟨h3,h4,h5.mono (fun _ _ h=>h) hv (Beta.Le.refl _)⟩
 ·rw [(hd b v _ h2).2] at h1
  exact (S.oth b x v c h1 (hc hcu h2) h2).mono rfl hv (Beta.Le.refl _)
 ·cases h3 : β b v with
  | none=>rfl
  | some x=>have:=S.old b v v0 (hc h1 h3) h2; rw [h3] at this; cases this
 ·cases h3 : β b v with
  | none=>rfl
  | some x=>
   rw [(hd b v x h3).2] at h1
   have:=S.oldd b v v0 h1 h2; rw [h3] at this; cases this
theorem dom_lt (S : Sim w0 wr β h w) {b v : Nat} {x : Option Nat} (hx : β b v=some x) : b < h.length:=by
 cases x with
 | none=>exact S.domv b v hx
 | some c=>exact (S.dom b v c hx).1
theorem live_more (S : Sim w0 wr β h w) (t : H) : ∀ c,Live wr β (h++t) c ↔ Live wr β h c:=
 live_agree fun b v x hx=>⟨by have:=dom_lt S hx; simp; omega,List.getElem?_append_left (dom_lt S hx)⟩
theorem sim_more (S : Sim w0 wr β h w) (t : H) (hn : noT t) : Sim w0 wr β (h++t) w∧∀ c,Live wr β (h++t) c ↔ Live wr β h c:=
 sim_agree S (fun b v x hx=>⟨by have:=dom_lt S hx; simp; omega,List.getElem?_append_left (dom_lt S hx)⟩) fun k b v T n hk=>by
  rw [List.getElem?_append] at hk
  split at hk
  ·exact hk
  ·exact absurd rfl (hn _ (List.mem_of_getElem? hk) b v T n)
theorem sim_less {t : H} (S : Sim w0 wr β (h++t) w) (hn : ∀ b v,h.length≤b→β b v=none) : Sim w0 wr β h w∧∀ c,Live wr β h c ↔ Live wr β (h++t) c:=by
 refine sim_agree S (fun b v x hx=>?_) fun k b v T n hk=>(List.getElem?_append_left (List.getElem?_eq_some_iff.1 hk).1).trans hk
 have hb : b < h.length:=by
  rcases Nat.lt_or_ge b h.length with h1 | h1
  ·exact h1
  ·rw [hn b v h1] at hx; cases hx
 exact ⟨hb,(List.getElem?_append_left hb).symm⟩
theorem els_under (S : Sim w0 wr β h w) {b v sz c : Nat} {els : List AV} (hb : h[b]? = some (.arr v sz els)) (hβ : β b v=some (some c)) : underL h.length els=true:=by
 obtain ⟨_,_,hbe⟩:=S.arr b v sz els c hb hβ
 rw [underL_iff]
 intro x hx
 obtain ⟨i,hi,rfl⟩:=List.mem_iff_getElem.1 hx
 have:=(hbe i els[i] (by simp)).2
 rw [← under_cells,underL_iff]
 intro y hy
 obtain ⟨j,hj,rfl⟩:=List.mem_iff_getElem.1 hy
 obtain ⟨u,_,hr⟩:=this j _ (List.getElem?_eq_getElem hj)
 exact Rel.isUnder (fun b v x hx=>dom_lt S hx) _ _ hr
theorem be_narrow {rd : Nat→Nat→Option Value} {V : View} {n c o sz : Nat} {els : List AV} (hb : BE rd V β c o sz els) (hu : underL n els=true) : BE rd V (restr n β) c o sz els:=by
 intro i x hx
 obtain ⟨h5,h6⟩:=hb i x hx
 refine ⟨h5,fun j y hy=>?_⟩
 obtain ⟨u,h7,h8⟩:=h6 j y hy
 have hxu : x.under n=true:=underL_iff.1 hu x (List.mem_of_getElem? hx)
 rw [← under_cells,underL_iff] at hxu
 exact ⟨u,h7,Rel.narrow _ _ (hxu y (List.mem_of_getElem? hy)) h8⟩
def moved (b L : Nat) (β : Beta) : Beta:=fun k v=>if k=b then β L v else if k < L then β k v else none
theorem move_birth {b sz : Nat} {els : List AV} (S : Sim w0 wr β G w) (S1 : Sim w0 wr β1 (G++[.arr 0 sz els]) w1) (E : Ext wr β G w β1 (G++[.arr 0 sz els]) w1) (hb : G[b]? = some (.arr 0 sz els)) (hwr : wr≤b) (hn : ∀ v,β b v=none) (hu : underL G.length els=true) :
    Sim w0 wr (moved b G.length β1) G w1∧Ext0 wr β G w (moved b G.length β1) G w1∧(∀ c,Live wr (moved b G.length β1) G c→Live wr β1 (G++[.arr 0 sz els]) c)∧(restr G.length β1).Le (moved b G.length β1):=by
 have hbl : b < G.length:=(List.getElem?_eq_some_iff.1 hb).1
 have hn1 : ∀ v,β1 b v=none:=E.fresh b hbl hn
 have hlow : ∀ k,k < G.length→(G++[.arr 0 sz els])[k]? = G[k]?:=fun k hk=>List.getElem?_append_left hk
 have hat : (G++[.arr 0 sz els])[G.length]? = some (.arr 0 sz els):=by simp
 have hle : (restr G.length β1).Le (moved b G.length β1):=fun k v x hx=>by
  unfold restr at hx
  split at hx
  ·rename_i hk
   unfold moved
   rw [if_neg (by rintro rfl; rw [hn1 v] at hx; cases hx),if_pos hk]
   exact hx
  ·cases hx
 have cases_of : ∀ k v x,moved b G.length β1 k v=some x→(k=b∧β1 G.length v=some x) ∨ (k ≠ b∧k < G.length∧β1 k v=some x):=fun k v x hx=>by
  unfold moved at hx
  split at hx
  ·rename_i hk; exact .inl ⟨hk,hx⟩
  ·rename_i hk
   split at hx
   ·rename_i hkl; exact .inr ⟨hk,hkl,hx⟩
   ·cases hx
 have hsrc : ∀ k v x,moved b G.length β1 k v=some x→∃ k0,β1 k0 v=some x∧(G++[.arr 0 sz els])[k0]? = G[k]?∧k < G.length∧k≤k0∧((k=b∧k0=G.length) ∨ (k ≠ b∧k0=k)):=fun k v x hx=>by
  rcases cases_of k v x hx with ⟨rfl,h1⟩ | ⟨h1,h2,h3⟩
  ·exact ⟨G.length,h1,by rw [hat,hb],hbl,Nat.le_of_lt hbl,.inl ⟨rfl,rfl⟩⟩
  ·exact ⟨k,h3,hlow k h2,h2,Nat.le_refl _,.inr ⟨h1,rfl⟩⟩
 have hcur : ∀ {k k0 v : Nat},(G++[.arr 0 sz els])[k0]? = G[k]?→cur G k=some v→cur (G++[.arr 0 sz els]) k0=some v:=fun {k k0 v} h1 h2=>by
  unfold cur at h2 ⊢; rwa [h1]
 have hlive : ∀ c,Live wr (moved b G.length β1) G c→Live wr β1 (G++[.arr 0 sz els]) c:=by
  rintro c ⟨k,v,h1,h2,h3⟩
  obtain ⟨k0,h4,h5,_,h6,_⟩:=hsrc k v _ h3
  exact ⟨k0,v,Nat.le_trans h1 h6,hcur h5 h2,h4⟩
 have hv:=view_le (w:=w1) hlive
 refine ⟨⟨S1.below,fun k v c hk=>?_,fun k v hk=>?_,?_,?_,?_,?_,?_,?_⟩,⟨E.os,E.tape,E.output,E.size,Nat.le_refl _,fun k v x hx=>?_,fun c hc hl=>⟨(E.stay c hc hl).1,fun h2=>(E.stay c hc hl).2 (hlive c h2)⟩,E.shape⟩,hlive,hle⟩
 ·obtain ⟨k0,h4,_,h5,_⟩:=hsrc k v _ hk
  exact ⟨h5,(S1.dom k0 v c h4).2⟩
 ·exact (hsrc k v _ hk).choose_spec.2.2.1
 ·intro k k' v v' c h1 h2 h3 h4
  obtain ⟨k0,a1,a2,_,_,a3⟩:=hsrc k v _ h3
  obtain ⟨k1,b1,b2,_,_,b3⟩:=hsrc k' v' _ h4
  have:=S1.inj k0 k1 v v' c (hcur a2 h1) (hcur b2 h2) a1 b1
  subst this
  rcases a3 with ⟨a3,a4⟩ | ⟨a3,a4⟩ <;> rcases b3 with ⟨b3,b4⟩ | ⟨b3,b4⟩
  ·rw [a3,b3]
  ·subst b4
   have h5:=(cases_of _ v' _ h4)
   rcases h5 with ⟨h5,_⟩ | ⟨_,h5,_⟩
   ·exact absurd h5 b3
   ·omega
  ·subst a4
   have h5:=(cases_of _ v _ h3)
   rcases h5 with ⟨h5,_⟩ | ⟨_,h5,_⟩
   ·exact absurd h5 a3
   ·omega
  ·rw [← a4,← b4]
 ·intro k v z es c h1 h2
  obtain ⟨k0,h3,h4,_,_,h5⟩:=hsrc k v _ h2
  rw [← h4] at h1
  obtain ⟨h6,h7,h8⟩:=S1.arr k0 v z es c h1 h3
  refine ⟨h6,h7,(be_narrow h8 (n:=G.length) ?_).mono (fun _ _ h=>h) hv hle⟩
  rcases h5 with ⟨_,rfl⟩ | ⟨hkb,rfl⟩
  ·rw [hat] at h1; simp at h1; obtain ⟨_,_,rfl⟩:=h1; exact hu
  ·have hkl : k0 < G.length:=by
     rcases cases_of k0 v _ h2 with ⟨h9,_⟩ | ⟨_,h9,_⟩
     ·exact absurd h9 hkb
     ·exact h9
   rw [hlow k0 hkl] at h1
   cases h10 : β k0 v with
   | none=>
    have:=E.freshv k0 v hkl (fun v0 h11=>by
     have : cur G k0=some v:=by unfold cur; rw [h1]
     rw [this] at h11; injection h11 with h11; omega) h10
    rw [this] at h3; cases h3
   | some y=>
    have h11:=E.beta k0 v y h10
    rw [h3] at h11
    injection h11 with h11
    subst h11
    exact els_under S h1 h10
 ·intro k x v c h1 hcu h2
  obtain ⟨k0,h3,h4,_⟩:=hsrc k v _ h2
  have h5:=S1.oth k0 x v c (h4.trans h1) (hcur h4 hcu) h3
  cases x with
  | mp l=>
   obtain ⟨es,clock,g1,g2,g3,g4⟩:=h5
   refine ⟨es,clock,g1,g2,fun i a b hi=>?_,g4⟩
   obtain ⟨e,q1,q2,q3,q4,q5,q6⟩:=g3 i a b hi
   exact ⟨e,q1,q2,q3,(Rel.any_beta _ _ q2 q4).to hv (Beta.Le.refl _),(Rel.any_beta _ _ q3 q5).to hv (Beta.Le.refl _),q6⟩
  | sit s p=>exact h5
  | buf T s=>exact h5
  | arr v z l=>exact trivial
  | dead v=>exact trivial
  | tyd a b c d=>exact trivial
 ·intro k b1 v T n h1
  obtain ⟨h2,c,cs,fr,h3,h4,h5⟩:=S.tyd k b1 v T n h1
  obtain ⟨cs',fr',h6,h7⟩:=E.shape c cs T fr h4
  have hk:=dom_lt S h3
  exact ⟨h2,c,cs',fr',hle b1 v _ (by unfold restr; rw [if_pos hk]; exact E.beta b1 v _ h3),h6,h7.trans h5⟩
 ·intro k v v0 h1 h2
  cases h3 : moved b G.length β1 k v with
  | none=>rfl
  | some x=>
   obtain ⟨k0,h4,h5,_⟩:=hsrc k v x h3
   have:=S1.old k0 v v0 (hcur h5 h1) h2
   rw [h4] at this; cases this
 ·intro k v v0 h1 h2
  cases h3 : moved b G.length β1 k v with
  | none=>rfl
  | some x=>
   obtain ⟨k0,h4,h5,_⟩:=hsrc k v x h3
   rw [← h5] at h1
   have:=S1.oldd k0 v v0 h1 h2
   rw [h4] at this; cases this
 ·have hk:=dom_lt S hx
  exact hle k v x (by unfold restr; rw [if_pos hk]; exact E.beta k v x hx)
end
end Go.Avm
namespace Go.Avm
open Go.RowKit
def O.slots : O→List Nat
 | .t n=>[n]
 | .k _=>[]
def I.opds : I→List O
 | .mv x | .box _ x | .ld _ _ x | .nilc x | .un _ x | .conv _ x | .fadr _ x | .fld _ _ _ x | .tupx x _ | .rng x | .nxt x | .len _ x | .boxt _ _ _ _ x | .uns _ x | .sdat x=>[x]
 | .own0 _=>[]
 | .pick c a b=>[c,a,b]
 | .build _ ps=>ps.map fun p=>p.2.2
 | .bsl _ _ _ ps=>ps.map fun p=>p.2
 | .st _ x v=>[x,v]
 | .bin _ x y | .eqk _ _ x y | .idxa _ x y | .idx x y | .idxp _ _ x y | .idxv _ _ _ x y | .app _ _ _ x y | .mnx _ x y | .mks _ _ _ x y | .ustr _ x y | .appb _ _ x y=>[x,y]
 | .mkfn _ _ l=>l
 | .slc _ x lo hi mx=>[x]++lo.toList++hi.toList++mx.toList
 | .call _ l=>l
 | .callv _ f l=>f :: l
def I.slots (i : I) : List Nat:=i.opds.flatMap O.slots
section
variable {e e' : Env} {call : CallF} {fpol : FuncId→Option Pol} {base ws : Nat} {h h' : H} {u : AV}
theorem val_same {x : O} (hs : ∀ n ∈ x.slots,e.get n=e'.get n) : x.val e=x.val e':=by
 cases x with
 | t n=>exact hs n (by simp [O.slots])
 | k v=>rfl
theorem valL_same : ∀ {l : List O},(∀ x ∈ l,x.val e=x.val e')→valL e l=valL e' l
 | [],_=>rfl
 | x :: l,hs=>by
  simp only [Avm.valL,hs x (by simp),valL_same (l:=l) fun y hy=>hs y (by simp [hy])]
theorem partsOf_same : ∀ {l : List (Nat × Nat × O)},(∀ p ∈ l,p.2.2.val e=p.2.2.val e')→partsOf e l=partsOf e' l
 | [],_=>rfl
 | (i,j,x) :: l,hs=>by
  have h1 : x.val e=x.val e':=hs (i,j,x) (by simp)
  simp only [Avm.partsOf,h1,partsOf_same (l:=l) fun y hy=>hs y (by simp [hy])]
theorem bslP_same {sz : Nat} : ∀ {l : List (Nat × O)} {els : List AV} {hh : H},(∀ p ∈ l,p.2.val e=p.2.val e')→bslP base e sz l els hh=bslP base e' sz l els hh
 | [],_,_,_=>rfl
 | (i,x) :: l,els,hh,hs=>by
  have h1 : x.val e=x.val e':=hs (i,x) (by simp)
  simp only [Avm.bslP,h1]
  cases x.val e' with
  | none=>rfl
  | some v=>
   dsimp only
   cases frz base deep v hh with
   | none=>rfl
   | some p=>
    dsimp only
    split
    ·exact bslP_same fun y hy=>hs y (by simp [hy])
    ·rfl
theorem optVal_same {x : Option O} (hs : ∀ y,x=some y→y.val e=y.val e') : optVal e x=optVal e' x:=by
 cases x with
 | none=>rfl
 | some y=>simp only [Avm.optVal,hs y rfl]
theorem opds_same {i : I} (hs : ∀ n ∈ i.slots,e.get n=e'.get n) : ∀ x ∈ i.opds,x.val e=x.val e':=fun x hx=>val_same fun n hn=>hs n (List.mem_flatMap.2 ⟨x,hx,hn⟩)
theorem evI_same_env {i : I} (hs : ∀ x ∈ i.opds,x.val e=x.val e') (hh : H) : evI base ws e hh i=evI base ws e' hh i:=by
 cases i with
 | build zero ps=>simp only [evI,partsOf_same (e:=e) (e':=e') (l:=ps) fun p hp=>hs _ (List.mem_map.2 ⟨p,hp,rfl⟩)]
 | bsl sz n zero ps=>simp only [evI,bslP_same (e:=e) (e':=e') (l:=ps) fun p hp=>hs _ (List.mem_map.2 ⟨p,hp,rfl⟩)]
 | mkfn f k l=>simp only [evI,valL_same (e:=e) (e':=e') (l:=l) hs]
 | slc k x lo hi mx=>
  simp only [evI,hs x (by simp [I.opds]),optVal_same (e:=e) (e':=e') (x:=lo) fun y hy=>hs y (by simp [I.opds,hy]),optVal_same (e:=e) (e':=e') (x:=hi) fun y hy=>hs y (by simp [I.opds,hy]),
   optVal_same (e:=e) (e':=e') (x:=mx) fun y hy=>hs y (by simp [I.opds,hy])]
 | call f l=>rfl
 | callv pu f l=>rfl
 | own0 sz=>rfl
 | pick c a b=>
  simp only [evI,hs c (by simp [I.opds])]
  split
  ·rename_i t _
   cases t
   ·simp only [Bool.false_eq_true,if_false,hs b (by simp [I.opds])]
   ·simp only [if_true,hs a (by simp [I.opds])]
  ·rfl
 | mv x=>simp only [evI,hs x (by simp [I.opds])]
 | box _ x=>simp only [evI,hs x (by simp [I.opds])]
 | ld _ _ x=>simp only [evI,hs x (by simp [I.opds])]
 | nilc x=>simp only [evI,hs x (by simp [I.opds])]
 | un _ x=>simp only [evI,hs x (by simp [I.opds])]
 | conv _ x=>simp only [evI,hs x (by simp [I.opds])]
 | fadr _ x=>simp only [evI,hs x (by simp [I.opds])]
 | fld _ _ _ x=>simp only [evI,hs x (by simp [I.opds])]
 | tupx x _=>simp only [evI,hs x (by simp [I.opds])]
 | rng x=>simp only [evI,hs x (by simp [I.opds])]
 | nxt x=>simp only [evI,hs x (by simp [I.opds])]
 | len _ x=>simp only [evI,hs x (by simp [I.opds])]
 | boxt _ _ _ _ x=>simp only [evI,hs x (by simp [I.opds])]
 | uns _ x=>simp only [evI,hs x (by simp [I.opds])]
 | sdat x=>simp only [evI,hs x (by simp [I.opds])]
 | ustr _ x y=>simp only [evI,hs x (by simp [I.opds]),hs y (by simp [I.opds])]
 | appb _ _ x y=>simp only [evI,hs x (by simp [I.opds]),hs y (by simp [I.opds])]
 | st _ x y=>simp only [evI,hs x (by simp [I.opds]),hs y (by simp [I.opds])]
 | bin _ x y=>simp only [evI,hs x (by simp [I.opds]),hs y (by simp [I.opds])]
 | eqk _ _ x y=>simp only [evI,hs x (by simp [I.opds]),hs y (by simp [I.opds])]
 | idxa _ x y=>simp only [evI,hs x (by simp [I.opds]),hs y (by simp [I.opds])]
 | idx x y=>simp only [evI,hs x (by simp [I.opds]),hs y (by simp [I.opds])]
 | idxp _ _ x y=>simp only [evI,hs x (by simp [I.opds]),hs y (by simp [I.opds])]
 | idxv _ _ _ x y=>simp only [evI,hs x (by simp [I.opds]),hs y (by simp [I.opds])]
 | app _ _ _ x y=>simp only [evI,hs x (by simp [I.opds]),hs y (by simp [I.opds])]
 | mnx _ x y=>simp only [evI,hs x (by simp [I.opds]),hs y (by simp [I.opds])]
 | mks _ _ _ x y=>simp only [evI,hs x (by simp [I.opds]),hs y (by simp [I.opds])]
theorem doOp_same_env {i : I} (hs : ∀ x ∈ i.opds,x.val e=x.val e') (hh : H) : doOp call fpol base ws e hh i=doOp call fpol base ws e' hh i:=by
 cases i with
 | call f l=>simp only [doOp,valL_same (e:=e) (e':=e') (l:=l) hs]
 | callv pu f l=>simp only [doOp,hs f (by simp [I.opds]),valL_same (e:=e) (e':=e') (l:=l) fun y hy=>hs y (by simp [I.opds,hy])]
 | _=>exact evI_same_env (base:=base) (ws:=ws) hs hh
inductive Kd where
 | free
 | read (x : O)
 | birth
 | call
 | touch (x : Option O)
 | ecall
def O.same : O→O→Bool
 | .t n,.t m=>n == m
 | _,_=>false
def isPur (dyn : List Dyn) (x : O) : Bool:=match x with
 | .k v=>v.pure
 | x=>dyn.any fun d=>match d with | .pur y=>O.same x y | _=>false
def kindOf (pf : FuncId→Bool) (dyn : List Dyn) : I→Kd
 | .mv _ | .pick .. | .build .. | .nilc _ | .bin .. | .eqk .. | .un .. | .mkfn .. | .fadr .. | .fld .. | .idxa .. | .idx .. | .idxp .. | .idxv .. | .tupx .. | .len .. | .mnx .. | .sdat _=>.free
 | .ld _ _ x=>.read x
 | .slc k x _ _ _=>(match k with | .str=>.free | .sl _=>.read x)
 | .conv c x=>(match c with | .intk _ | .same=>.free | .b2s=>.read x | .s2b=>.touch none)
 | .box .. | .own0 _=>.birth
 | .bsl _ _ _ ps=>if ps.all (fun p=>isPur dyn p.2)=true then .birth else .touch none
 | .st _ x _=>.touch (some x)
 | .app _ _ _ x _=>.touch (some x)
 | .mks .. | .rng _ | .nxt _ | .boxt .. | .uns .. | .ustr .. | .appb ..=>.touch none
 | .call f _=>if pf f=true then .call else .ecall
 | .callv pu _ _=>if pu=true then .call else .ecall
theorem free_any {pf : FuncId→Bool} {dyn : List Dyn} {i : I} (hk : kindOf pf dyn i = .free) (ev : evI base ws e h i=some (u,h')) : h'=h∧∀ g,evI base ws e g i=some (u,g):=by
 cases i with
 | slc k x lo hi mx=>
  cases k with
  | sl sz=>simp [kindOf] at hk
  | str=>
   simp only [evI] at ev ⊢
   split at ev
   ·split at ev
    ·simp at ev; obtain ⟨rfl,rfl⟩:=ev
     rename_i h1
     refine ⟨rfl,fun g=>?_⟩
     simp only [slcI] at h1 ⊢
     rw [h1]
    ·cases ev
   ·cases ev
 | conv c x=>
  cases c <;> simp [kindOf] at hk
  all_goals
   simp only [evI] at ev ⊢
   repeat' split at ev
   all_goals first
    | (cases ev; done)
    | (simp at ev; obtain ⟨rfl,rfl⟩:=ev; exact ⟨rfl,fun g=>by simp_all⟩)
    | (simp_all; done)
 | mnx b x y=>
  simp only [evI] at ev ⊢
  split at ev
  ·rename_i h1 h2
   simp at ev; obtain ⟨rfl,rfl⟩:=ev
   exact ⟨rfl,fun g=>by simp only [h1,h2]⟩
  ·cases ev
 | call f l=>simp only [kindOf] at hk; split at hk <;> cases hk
 | callv pu f l=>simp only [kindOf] at hk; split at hk <;> cases hk
 | bsl sz n zero ps=>simp only [kindOf] at hk; split at hk <;> cases hk
 | boxt _ _ _ _ _=>simp [kindOf] at hk
 | uns _ _=>simp [kindOf] at hk
 | ustr _ _ _=>simp [kindOf] at hk
 | appb _ _ _ _=>simp [kindOf] at hk
 | ld _ _ _=>simp [kindOf] at hk
 | st _ _ _=>simp [kindOf] at hk
 | app _ _ _ _ _=>simp [kindOf] at hk
 | box _ _=>simp [kindOf] at hk
 | own0 _=>simp [kindOf] at hk
 | mks _ _ _ _ _=>simp [kindOf] at hk
 | rng _=>simp [kindOf] at hk
 | nxt _=>simp [kindOf] at hk
 | _=>
  simp only [evI] at ev ⊢
  repeat' split at ev
  all_goals first
   | (cases ev; done)
   | (simp at ev; obtain ⟨rfl,rfl⟩:=ev; exact ⟨rfl,fun g=>by simp_all⟩)
end
end Go.Avm
