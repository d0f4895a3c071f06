/- Without a number that goes down: what is reckoned from some number on. -/
import Derived.Test.YteihdlcpfghmhaaGreatDoorM20
import Derived.Shelf.SlicesE.Clone
set_option linter.all false
namespace Go.Avm
open Go.RowKit
section
variable {P : Program} {w0 : World} {wr : Nat} {β : Beta} {h : H} {w : World}
theorem sim_owned {w' : World} (S : Sim w0 wr β h w) (hwr : wr≤h.length) {sz g : Nat} {els : List AV} {cs : Array Value} {T : TypeId} (hb : Below w.heap.size w w') (hg : w.heap.size≤g) (hcell : w'.heap[g]? = some (.cells cs T (0,0))) (hsz : els.length * sz≤cs.size)
    (hbe : BE (fun _ o=>cs[o]?) (view wr β h w) β g 0 sz els) :
    ∃ β',Sim w0 wr β' (h++[.arr 0 sz els]) w'∧Ext wr β h w β' (h++[.arr 0 sz els]) w'∧β' h.length 0=some (some g)∧(view wr β' (h++[.arr 0 sz els]) w').S g=cs.size:=by
 have hgl : g < w'.heap.size:=(Array.getElem?_eq_some_iff.1 hcell).1
 obtain ⟨w1,hw1⟩ : ∃ w1 : World,w1 = { w' with heap:=w'.heap.extract 0 g }:=⟨_,rfl⟩
 have hs1 : w1.heap.size=g:=by rw [hw1]; simp; omega
 have hk1 : ∀ k,k < g→w1.heap[k]? = w'.heap[k]?:=fun k hk=>by
  rw [hw1]
  show (w'.heap.extract 0 g)[k]? = _
  rw [Array.getElem?_extract]
  simp only [Nat.zero_add]
  rw [if_pos (by omega)]
 obtain ⟨S1,E1⟩:=sim_grow (w':=w1) S (by rw [hw1]; exact hb.os) (by rw [hw1]; exact hb.tape) (by rw [hw1]; exact hb.output) (by omega) (fun c hc=>(hk1 c (by omega)).trans (hb.block c hc))
 have hfr:=fresh_put (x:=some g) (β:=β) (blk:=.arr 0 sz els) (ver:=0) (h:=h) (fun v hv=>by simpa [cur,eq_comm] using hv) (.inl rfl)
 rw [putB_new] at hfr
 have:=sim_put (w':=w') S1 (b:=h.length) (ver:=0) (sz:=sz) (c:=g) (els:=els) (Nat.le_refl _) hwr (.inl ⟨hs1.symm,.inl (beta_new S (Nat.le_refl _) 0)⟩) (fun v _=>beta_new S (Nat.le_refl _) v) (by rw [hw1]) (by rw [hw1]) (by rw [hw1]) (by omega)
  (fun k hk _=>(hk1 k (by omega)).symm) hcell hsz (fun h=>by omega) (fun o ho=>by unfold World.frozen?; rw [hcell]; simp)
  (hbe.mono (fun p v hp=>by unfold rdw World.cell?; rw [hcell]; simpa using hp) E1.view (Beta.Le.refl _))
 rw [putB_new] at this
 exact ⟨_,this.1,E1.trans ⟨this.2.1,hfr⟩,by simp [bput],this.2.2⟩
theorem rel_owned {w' : World} (S : Sim w0 wr β h w) (hwr : wr≤h.length) {sz : Nat} {els : List AV} {T : TypeId} {v : Value} {news : List Value} (hb : Below w.heap.size w w') (ho : w'.ownsRow w.heap.size T sz v els.length news) (hsz : news.length=els.length * sz)
    (hbe : ∀ c,BE (fun _ p=>news[p]?) (view wr β h w) β c 0 sz els) : Gets w0 wr β h w (.osl h.length 0 sz 0 els.length) (h++[.arr 0 sz els]) v w':=by
 rcases ho.2 with ⟨rfl,hz⟩ | ⟨g,cap,cur,rfl,hbg,hg,h1,h2,h3,h4⟩
 ·have he : els=[]:=List.eq_nil_of_length_eq_zero hz
  subst he
  obtain ⟨S1,E1⟩:=sim_grow S hb.os hb.tape hb.output hb.size hb.block
  obtain ⟨β',S2,E2,hβ⟩:=sim_virt S1 sz
  exact ⟨β',S2,E1.trans E2,by unfold Rel; exact .inr ⟨hβ,rfl,rfl,none,rfl⟩⟩
 ·have hcur : ∀ p v,news[p]? = some v→cur[p]? = some v:=fun p v hp=>by
    rw [← h4,List.getElem?_take] at hp
    split at hp
    ·simpa using hp
    ·cases hp
  obtain ⟨β',S2,E2,hβ,hS⟩:=sim_owned (g:=g) (sz:=sz) (els:=els) S hwr hb hbg hg (by rw [h3]; exact Nat.mul_le_mul_right _ h1) ((hbe g).mono (fun p v hp=>hcur p v hp) (View.Le.refl _) (Beta.Le.refl _))
  refine ⟨β',S2,E2,?_⟩
  unfold Rel
  exact .inl ⟨g,cap,hβ,by simp,h1,by rw [hS,h3]; simp⟩
theorem cells_row {ys : List AV} {sz c p z : Nat} (h0 : 0 < sz) (hz : ∀ v ∈ ys,v.cells.length=sz∧v.ones=true) (hne : ys ≠ []) (hbe : BE (rdw w) (view wr β h w) β c p z ys) :
    ∃ news : List Value,news.length=ys.length * sz∧(∀ j u,news[j]? = some u→w.cell? ⟨c,p + j,none⟩=some u)∧(∀ c,BE (fun _ p=>news[p]?) (view wr β h w) β c 0 sz ys)∧∀ x ∈ news,x.oneCell'=true:=by
 have hzz : z=sz:=by
  cases ys with
  | nil=>exact absurd rfl hne
  | cons x r=>exact ((hbe 0 x rfl).1).symm.trans (hz x (by simp)).1
 subst hzz
 have hcell : ∀ j,j < ys.length * z→∃ u x,rdw w c (p + j)=some u∧x.one=true∧Rel (view wr β h w) β x u:=fun j hj=>by
  have hi : j / z < ys.length:=(Nat.div_lt_iff_lt_mul h0).2 hj
  have hb:=hbe (j / z) ys[j / z] (by simp [hi])
  have hm:=Nat.mod_lt j h0
  obtain ⟨u,h1,h2⟩:=hb.2 (j % z) (ys[j / z].cells[j % z]'(by rw [hb.1]; exact hm)) (by simp)
  refine ⟨u,_,?_,?_,h2⟩
  ·have:=Nat.div_add_mod j z
   rw [← h1]; congr 1
   rw [Nat.mul_comm] at this; omega
  ·have:=(hz ys[j / z] (List.getElem_mem _)).2
   simp only [AV.ones,List.all_eq_true] at this
   exact this _ (List.getElem_mem _)
 refine ⟨(List.range (ys.length * z)).map fun j=>(rdw w c (p + j)).getD undef,by simp,fun j u hj=>?_,fun c' i x hi=>?_,fun x hx=>?_⟩
 ·rw [List.getElem?_map] at hj
  by_cases hlt : j < ys.length * z
  ·rw [List.getElem?_range hlt] at hj
   obtain ⟨v,_,h1,_⟩:=hcell j hlt
   simp only [Option.map_some,h1,Option.getD_some,Option.some.injEq] at hj
   subst hj
   exact h1
  ·rw [List.getElem?_eq_none (by simpa using hlt)] at hj; cases hj
 ·have hb:=hbe i x hi
  have hil : i < ys.length:=(List.getElem?_eq_some_iff.1 hi).1
  refine ⟨hb.1,fun j y hj=>?_⟩
  obtain ⟨u,h1,h2⟩:=hb.2 j y hj
  refine ⟨u,?_,h2⟩
  have hjz : j < z:=by have:=(List.getElem?_eq_some_iff.1 hj).1; omega
  have hlt : i * z + j < ys.length * z:=by
   have : (i + 1) * z≤ys.length * z:=Nat.mul_le_mul_right _ hil
   rw [Nat.succ_mul] at this; omega
  simp only [Nat.zero_add]
  rw [List.getElem?_map,List.getElem?_range hlt]
  simp only [Option.map_some]
  rw [← Nat.add_assoc,h1]; rfl
 ·obtain ⟨j,hj,rfl⟩:=List.mem_map.1 hx
  obtain ⟨u,y,h1,h2,h3⟩:=hcell j (List.mem_range.1 hj)
  rw [h1]
  exact one_rel h2 h3
end
def cloneX (sz lim : Nat) : List AV→H→Option (AV × H)
 | [v],h=>match elsOf h v with
  | some els=>if els.length≤lim∧els.all (fun v=>v.cells.length == sz && v.ones)=true then some (.osl h.length 0 sz 0 els.length,h++[.arr 0 sz els]) else none
  | none=>none
 | _,_=>none
theorem clone_ext {P : Program} {w0 : World} {f : FuncId} {sz lim bytes : Nat} {T : TypeId} (h0 : 0 < sz) (hlim : lim * bytes≤140737488355328) (hl : lim≤maxLen)
    (hrun : ∀ (b off n c : Nat) (news : List Value) (w : World),news.length=n * sz→n≤maxLen→n * bytes≤140737488355328→(∀ j u,news[j]? = some u→w.cell? ⟨b,off + j,none⟩=some u)→(∀ u ∈ news,u.oneCell'=true) →
     Calls P f #[.slice (some ⟨b,off,none⟩) n c] w fun e w'=>∃ v',e = .returned v'∧w'.ownsRow w.heap.size T sz v' n news∧v' ≠ .slice none 0 0∧Below w.heap.size w w')
    (hrun0 : ∀ (a : Option Addr) (c : Nat) (w : World),Calls P f #[.slice a 0 c] w fun e w'=>∃ v',e = .returned v'∧w'.ownsRow w.heap.size T sz v' 0 []∧Below w.heap.size w w')
    (hen : ∀ vs w,(callFunc f vs).run P w = .ok (.enter f vs) w) : ExtOk P w0 f (cloneX sz lim):=by
 refine ⟨fun args h r h' ev=>?_,fun args h r h' wr β w vs ev hwr S hr=>?_⟩
 ·unfold cloneX at ev
  split at ev
  ·split at ev
   ·split at ev
    ·cases ev; exact ⟨_,rfl⟩
    ·cases ev
   ·cases ev
  ·cases ev
 ·unfold cloneX at ev
  split at ev
  ·rename_i x
   split at ev
   ·rename_i els hels
    split at ev
    ·rename_i hc
     obtain ⟨hlen,hall⟩:=hc
     cases ev
     unfold RelL at hr
     obtain ⟨v,r1,e1,hv,hr⟩:=hr
     unfold RelL at hr
     subst hr
     obtain rfl : vs = #[v]:=by cases vs; simp_all
     obtain ⟨q,cap,rfl,hcap,hcase⟩:=elsOf_rel S hels hv
     refine .inl ⟨hen _ _,?_⟩
     by_cases hne : els=[]
     ·subst hne
      refine (hrun0 q cap w).mono ?_
      rintro e w' ⟨v',rfl,ho,hb⟩
      exact ⟨v',rfl,rel_owned (els:=[]) S hwr hb ho (by simp) (fun c i x hi=>by simp at hi)⟩
     ·rcases hcase with hcase | ⟨c,p,z,rfl,hbe⟩
      ·exact absurd hcase hne
      ·obtain ⟨news,h1,h2,h3,h4⟩:=cells_row h0 (fun v hv=>by simpa using List.all_eq_true.1 hall v hv) hne hbe
       refine (hrun c p els.length cap news w h1 (Nat.le_trans hlen hl) (Nat.le_trans (Nat.mul_le_mul_right _ hlen) hlim) h2 h4).mono ?_
       rintro e w' ⟨v',rfl,ho,_,hb⟩
       exact ⟨v',rfl,rel_owned S hwr hb ho h1 h3⟩
    ·cases ev
   ·cases ev
  ·cases ev
end Go.Avm
namespace Go.Avm
open Classical
def Evt {α : Type} (s : Nat→Option α) (r : α) : Prop:=∃ N,∀ n,N≤n→s n=some r
theorem Evt.uniq {α : Type} {s : Nat→Option α} {r r' : α} (a : Evt s r) (b : Evt s r') : r=r':=by
 obtain ⟨N,h1⟩:=a
 obtain ⟨M,h2⟩:=b
 have h3:=h1 (max N M) (Nat.le_max_left _ _)
 have h4:=h2 (max N M) (Nat.le_max_right _ _)
 rw [h3] at h4
 injection h4
noncomputable def lim {α : Type} (s : Nat→Option α) : Option α:=if h : ∃ r,Evt s r then some h.choose else none
theorem lim_some {α : Type} {s : Nat→Option α} {r : α} : lim s=some r ↔ Evt s r:=by
 unfold lim
 constructor
 ·intro h
  split at h
  ·rename_i hx
   injection h with h
   subst h
   exact hx.choose_spec
  ·cases h
 ·intro h
  have hx : ∃ r,Evt s r:=⟨r,h⟩
  rw [dif_pos hx]
  rw [Evt.uniq hx.choose_spec h]
noncomputable def callL (cfg : Cfg) : CallF:=fun ws f args h=>lim fun n=>callN cfg n ws f args h
noncomputable def roundsL : LoopF:=fun f keep e h=>lim fun n=>rounds n f keep e h
theorem rounds_mono {f : Env→H→Out} {keep : List Nat} : ∀ {n : Nat} {e : Env} {h : H} {r : Ex × Env × H},rounds n f keep e h=some r→rounds (n + 1) f keep e h=some r
 | 0,e,h,r,ev=>by simp [rounds] at ev
 | n + 1,e,h,r,ev=>by
  rw [rounds] at ev ⊢
  cases h3 : f (e.keep keep) h with
  | none=>rw [h3] at ev; simp [andThen] at ev
  | some p=>
   obtain ⟨y,e2,h2⟩:=p
   rw [h3] at ev
   cases y with
   | normal=>exact rounds_mono (n:=n) ev
   | exit id=>exact ev
   | ret=>exact ev
theorem rounds_evt {f : Env→H→Out} {keep : List Nat} {n : Nat} {e : Env} {h : H} {r : Ex × Env × H} (ev : rounds n f keep e h=some r) : Evt (fun n=>rounds n f keep e h) r:=by
 refine ⟨n,fun m hm=>?_⟩
 induction m with
 | zero=>have : n=0:=by omega
         subst this; exact ev
 | succ m ih=>
  rcases Nat.lt_or_ge n (m + 1) with h1 | h1
  ·exact rounds_mono (ih (by omega))
  ·have : n=m + 1:=by omega
   subst this; exact ev
theorem roundsL_some {f : Env→H→Out} {keep : List Nat} {e : Env} {h : H} {r : Ex × Env × H} : roundsL f keep e h=some r ↔ ∃ n,rounds n f keep e h=some r:=by
 unfold roundsL
 rw [lim_some]
 constructor
 ·rintro ⟨N,h1⟩; exact ⟨N,h1 N (Nat.le_refl _)⟩
 ·rintro ⟨n,h1⟩; exact rounds_evt h1
theorem roundsL_step {f : Env→H→Out} {keep : List Nat} {e : Env} {h : H} {r : Ex × Env × H} (ev : andThen (f (e.keep keep) h) (fun e' h'=>roundsL f keep e' h')=some r) : roundsL f keep e h=some r:=by
 rw [roundsL_some]
 cases h3 : f (e.keep keep) h with
 | none=>rw [h3] at ev; simp [andThen] at ev
 | some p=>
  obtain ⟨y,e2,h2⟩:=p
  rw [h3] at ev
  cases y with
  | normal=>
   obtain ⟨n,hn⟩:=roundsL_some.1 ev
   exact ⟨n + 1,by rw [rounds,h3]; exact hn⟩
  | exit id=>exact ⟨1,by rw [rounds,h3]; exact ev⟩
  | ret=>exact ⟨1,by rw [rounds,h3]; exact ev⟩
section
variable {cs : Nat→CallF} {call : CallF} {fpol : FuncId→Option Pol} {base ws : Nat}
def Comes (cs : Nat→CallF) (call : CallF) : Prop:=∀ ws f args h r,call ws f args h=some r→Evt (fun n=>cs n ws f args h) r
theorem doOp_evt (hc : Comes cs call) {e : Env} {h : H} {i : I} {r : AV × H} (ev : doOp call fpol base ws e h i=some r) : Evt (fun n=>doOp (cs n) fpol base ws e h i) r:=by
 by_cases h1 : ∃ f args,i = .call f args
 ·obtain ⟨f,args,rfl⟩:=h1
  simp only [doOp] at ev ⊢
  split at ev
  ·exact hc _ _ _ _ _ ev
  ·cases ev
 ·by_cases h2 : ∃ pu f args,i = .callv pu f args
  ·obtain ⟨pu,f,args,rfl⟩:=h2
   simp only [doOp] at ev ⊢
   split at ev
   ·split at ev
    ·rename_i hp
     simp only [hp,if_true]
     split at ev
     ·exact hc _ _ _ _ _ ev
     ·exact hc _ _ _ _ _ ev
     ·cases ev
    ·rename_i hp
     simp only [hp]
     exact hc _ _ _ _ _ ev
   ·cases ev
  ·refine ⟨0,fun n _=>?_⟩
   cases i <;> first | exact ev | exact absurd ⟨_,_,rfl⟩ h1 | exact absurd ⟨_,_,_,rfl⟩ h2
mutual
theorem evS1_evt (hc : Comes cs call) : ∀ (x : S1) (e : Env) (h : H) (r : Env × H),evS1 call fpol base ws x e h=some r→Evt (fun n=>evS1 (cs n) fpol base ws x e h) r
 | .op d i,e,h,r,ev=>by
  unfold evS1 at ev
  cases hx : doOp call fpol base ws e h i with
  | none=>rw [hx] at ev; simp [andV] at ev
  | some p=>
   rw [hx] at ev
   obtain ⟨N,hN⟩:=doOp_evt hc hx
   exact ⟨N,fun n hn=>by
    have:=hN n hn
    dsimp only at this ⊢
    unfold evS1
    rw [this]; exact ev⟩
 | .sc s want body d rr o,e,h,r,ev=>by
  unfold evS1 at ev
  split at ev
  ·rename_i b hb
   split at ev
   ·rename_i hw
    cases hbody : evS call fpol base ws body e h with
    | none=>rw [hbody] at ev; simp [valIn,andV] at ev
    | some p=>
     rw [hbody] at ev
     obtain ⟨N,hN⟩:=evS_evt hc body e h p hbody
     exact ⟨N,fun n hn=>by
      have:=hN n hn
      dsimp only at this ⊢
      unfold evS1
      rw [hb]
      dsimp only
      rw [if_pos hw,this]; exact ev⟩
   ·rename_i hw
    exact ⟨0,fun n _=>by
     dsimp only
     unfold evS1
     rw [hb]
     dsimp only
     rw [if_neg hw]; exact ev⟩
  ·cases ev
theorem evS_evt (hc : Comes cs call) : ∀ (l : List S1) (e : Env) (h : H) (r : Env × H),evS call fpol base ws l e h=some r→Evt (fun n=>evS (cs n) fpol base ws l e h) r
 | [],e,h,r,ev=>⟨0,fun n _=>by dsimp only; unfold evS at ev ⊢; exact ev⟩
 | x :: l,e,h,r,ev=>by
  unfold evS at ev
  cases hx : evS1 call fpol base ws x e h with
  | none=>rw [hx] at ev; cases ev
  | some p=>
   rw [hx] at ev
   obtain ⟨N,hN⟩:=evS1_evt hc x e h p hx
   obtain ⟨M,hM⟩:=evS_evt hc l p.1 p.2 r ev
   exact ⟨max N M,fun n hn=>by
    have h1:=hN n (Nat.le_trans (Nat.le_max_left _ _) hn)
    have h2:=hM n (Nat.le_trans (Nat.le_max_right _ _) hn)
    dsimp only at h1 h2 ⊢
    unfold evS
    rw [h1]; exact h2⟩
end
theorem rounds_comes {f : Env→H→Out} {fs : Nat→Env→H→Out} (hf : ∀ e h r,f e h=some r→Evt (fun n=>fs n e h) r) {keep : List Nat} : ∀ {k : Nat} {e : Env} {h : H} {r : Ex × Env × H},rounds k f keep e h=some r→∃ N,∀ n,N≤n→∀ q,k≤q→rounds q (fs n) keep e h=some r
 | 0,e,h,r,ev=>by simp [rounds] at ev
 | k + 1,e,h,r,ev=>by
  rw [rounds] at ev
  cases h3 : f (e.keep keep) h with
  | none=>rw [h3] at ev; simp [andThen] at ev
  | some p=>
   obtain ⟨y,e2,h2⟩:=p
   rw [h3] at ev
   obtain ⟨N,hN⟩:=hf _ _ _ h3
   cases y with
   | normal=>
    obtain ⟨M,hM⟩:=rounds_comes hf (k:=k) (e:=e2) (h:=h2) (r:=r) ev
    refine ⟨max N M,fun n hn q hq=>?_⟩
    have h1:=hN n (Nat.le_trans (Nat.le_max_left _ _) hn)
    dsimp only at h1
    cases q with
    | zero=>omega
    | succ q=>
     rw [rounds,h1]
     exact hM n (Nat.le_trans (Nat.le_max_right _ _) hn) q (by omega)
   | exit id=>
    refine ⟨N,fun n hn q hq=>?_⟩
    have h1:=hN n hn
    dsimp only at h1
    cases q with
    | zero=>omega
    | succ q=>rw [rounds,h1]; exact ev
   | ret=>
    refine ⟨N,fun n hn q hq=>?_⟩
    have h1:=hN n hn
    dsimp only at h1
    cases q with
    | zero=>omega
    | succ q=>rw [rounds,h1]; exact ev
theorem evC_evt (hc : Comes cs call) : ∀ (c : C) (e : Env) (h : H) (r : Ex × Env × H),evC call roundsL fpol base ws c e h=some r→Evt (fun n=>evC (cs n) (rounds n) fpol base ws c e h) r:=by
 intro c
 induction c with
 | skip=>intro e h r ev; exact ⟨0,fun n _=>by simpa [evC] using ev⟩
 | stuck=>intro e h r ev; simp [evC] at ev
 | ops l=>
  intro e h r ev
  simp only [evC] at ev ⊢
  cases hs : evS call fpol base ws l e h with
  | none=>rw [hs] at ev; simp [done] at ev
  | some p=>
   rw [hs] at ev
   obtain ⟨N,hN⟩:=evS_evt hc l e h p hs
   exact ⟨N,fun n hn=>by have h1:=hN n hn; dsimp only at h1 ⊢; rw [h1]; exact ev⟩
 | dops ord far l=>
  intro e h r ev
  simp only [evC] at ev ⊢
  cases hs : evS call fpol base ws l e h with
  | none=>rw [hs] at ev; simp [ifFar,done] at ev
  | some p=>
   rw [hs] at ev
   obtain ⟨N,hN⟩:=evS_evt hc l e h p hs
   exact ⟨N,fun n hn=>by have h1:=hN n hn; dsimp only at h1 ⊢; rw [h1]; exact ev⟩
 | seq c d ihc ihd=>
  intro e h r ev
  simp only [evC] at ev ⊢
  cases h3 : evC call roundsL fpol base ws c e h with
  | none=>rw [h3] at ev; simp [andThen] at ev
  | some p=>
   obtain ⟨y,e2,h2⟩:=p
   rw [h3] at ev
   obtain ⟨N,hN⟩:=ihc e h _ h3
   cases y with
   | normal=>
    obtain ⟨M,hM⟩:=ihd e2 h2 r ev
    exact ⟨max N M,fun n hn=>by
     have h4:=hN n (Nat.le_trans (Nat.le_max_left _ _) hn)
     have h5:=hM n (Nat.le_trans (Nat.le_max_right _ _) hn)
     dsimp only at h4 h5 ⊢
     rw [h4]; exact h5⟩
   | exit id=>exact ⟨N,fun n hn=>by have h4:=hN n hn; dsimp only at h4 ⊢; rw [h4]; exact ev⟩
   | ret=>exact ⟨N,fun n hn=>by have h4:=hN n hn; dsimp only at h4 ⊢; rw [h4]; exact ev⟩
 | cond v c d ihc ihd=>
  intro e h r ev
  simp only [evC,ifB] at ev ⊢
  split at ev
  ·rename_i t hv
   cases t with
   | true=>
    obtain ⟨N,hN⟩:=ihc e h r (by simpa using ev)
    exact ⟨N,fun n hn=>by have h4:=hN n hn; dsimp only at h4 ⊢; simpa using h4⟩
   | false=>
    obtain ⟨N,hN⟩:=ihd e h r (by simpa using ev)
    exact ⟨N,fun n hn=>by have h4:=hN n hn; dsimp only at h4 ⊢; simpa using h4⟩
  ·cases ev
 | block id c ihc=>
  intro e h r ev
  simp only [evC] at ev ⊢
  cases h3 : evC call roundsL fpol base ws c e h with
  | none=>rw [h3] at ev; simp [inBlock] at ev
  | some p=>
   rw [h3] at ev
   obtain ⟨N,hN⟩:=ihc e h p h3
   exact ⟨N,fun n hn=>by have h4:=hN n hn; dsimp only at h4 ⊢; rw [h4]; exact ev⟩
 | loop keep c ihc=>
  intro e h r ev
  simp only [evC] at ev ⊢
  obtain ⟨k,hk⟩:=roundsL_some.1 ev
  obtain ⟨N,hN⟩:=rounds_comes (fs:=fun n=>evC (cs n) (rounds n) fpol base ws c) ihc hk
  exact ⟨max N k,fun n hn=>hN n (Nat.le_trans (Nat.le_max_left _ _) hn) n (Nat.le_trans (Nat.le_max_right _ _) hn)⟩
 | exit id=>intro e h r ev; exact ⟨0,fun n _=>by simpa [evC] using ev⟩
 | ret=>intro e h r ev; exact ⟨0,fun n _=>by simpa [evC] using ev⟩
 | forget keep c ihc=>
  intro e h r ev
  simp only [evC] at ev ⊢
  cases h3 : evC call roundsL fpol base ws c e h with
  | none=>rw [h3] at ev; simp [keeping] at ev
  | some p=>
   rw [h3] at ev
   obtain ⟨N,hN⟩:=ihc e h p h3
   exact ⟨N,fun n hn=>by have h4:=hN n hn; dsimp only at h4 ⊢; rw [h4]; exact ev⟩
theorem evF_evt (hc : Comes cs call) {f : F} {args : List AV} {h : H} {r : AV × H} (ev : evF call roundsL fpol ws f args h=some r) : Evt (fun n=>evF (cs n) (rounds n) fpol ws f args h) r:=by
 unfold evF at ev ⊢
 cases hargs : enterArgs f.pol h args with
 | none=>rw [hargs] at ev; cases ev
 | some ags=>
  rw [hargs] at ev
  dsimp only at ev ⊢
  cases h3 : evC call roundsL fpol h.length (wsOf f.pol ws h.length) f.code (argEnv 0 ags) h with
  | none=>rw [h3] at ev; simp [finish] at ev
  | some p=>
   rw [h3] at ev
   obtain ⟨N,hN⟩:=evC_evt hc f.code _ h p h3
   exact ⟨N,fun n hn=>by have h4:=hN n hn; dsimp only at h4 ⊢; rw [h4]; exact ev⟩
end
theorem callL_fn {cfg : Cfg} {f : FuncId} {F : F} (hx : cfg.ext f=none) (hf : cfg.fn f=some F) {ws : Nat} {args : List AV} {h : H} {r : AV × H} (ev : evF (callL cfg) roundsL cfg.pol ws F args h=some r) : callL cfg ws f args h=some r:=by
 obtain ⟨N,hN⟩:=evF_evt (cs:=callN cfg) (fun ws f args h r e=>lim_some.1 e) ev
 refine lim_some.2 ⟨N + 1,fun n hn=>?_⟩
 cases n with
 | zero=>omega
 | succ n=>
  show callN cfg (n + 1) ws f args h=some r
  simp only [callN,hx,hf]
  exact hN n (by omega)
theorem callL_ext {cfg : Cfg} {f : FuncId} {x : List AV→H→Option (AV × H)} (hx : cfg.ext f=some x) {ws : Nat} {args : List AV} {h : H} {r : AV × H} (ev : x args h=some r) : callL cfg ws f args h=some r:=by
 refine lim_some.2 ⟨1,fun n hn=>?_⟩
 cases n with
 | zero=>omega
 | succ n=>
  show callN cfg (n + 1) ws f args h=some r
  simp only [callN,hx]
  exact ev
theorem callL_ok {P : Program} {w0 : World} {dchk : Nat→DChk} {cfg : Cfg} (C : CfgOk P w0 dchk cfg) : CallOk P w0 (callL cfg):=by
 intro ws f args h r h' wr β w vs ev hws hwl S hr
 obtain ⟨N,hN⟩:=lim_some.1 ev
 exact (callN_ok C N).1 ws f args h r h' wr β w vs (hN N (Nat.le_refl _)) hws hwl S hr
end Go.Avm
