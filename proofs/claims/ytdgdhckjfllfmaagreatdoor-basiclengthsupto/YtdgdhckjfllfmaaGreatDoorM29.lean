/- Functions that are not looked into: a slice that is handed back in a block of its own; slices.Clone. -/
import Derived.Test.YtdgdhckjfllfmaaGreatDoorM27
import Derived.Shelf.SlicesE.Clone
set_option linter.all false
namespace Go.Avm
open Go.RowKit
section
variable {P : Program} {w0 : World} {wr : Nat} {β : Beta} {h : H} {w : World}
theorem sim_owned {w' : World} (S : Sim w0 wr β h w) (hwr : wr≤h.length) {sz g : Nat} {els : List AV} {cs : Array Value} {T : TypeId} (hb : Below w.heap.size w w') (hg : w.heap.size≤g) (hcell : w'.heap[g]? = some (.cells cs T (0,0))) (hsz : els.length * sz≤cs.size)
    (hbe : BE (fun _ o=>cs[o]?) (view wr β h w) β g 0 sz els) :
    ∃ β',Sim w0 wr β' (h++[.arr 0 sz els]) w'∧Ext wr β h w β' (h++[.arr 0 sz els]) w'∧β' h.length 0=some (some g)∧(view wr β' (h++[.arr 0 sz els]) w').S g=cs.size:=by
 have hgl : g < w'.heap.size:=(Array.getElem?_eq_some_iff.1 hcell).1
 obtain ⟨w1,hw1⟩ : ∃ w1 : World,w1 = { w' with heap:=w'.heap.extract 0 g }:=⟨_,rfl⟩
 have hs1 : w1.heap.size=g:=by rw [hw1]; simp; omega
 have hk1 : ∀ k,k < g→w1.heap[k]? = w'.heap[k]?:=fun k hk=>by
  rw [hw1]
  show (w'.heap.extract 0 g)[k]? = _
  rw [Array.getElem?_extract]
  simp only [Nat.zero_add]
  rw [if_pos (by omega)]
 obtain ⟨S1,E1⟩:=sim_grow (w':=w1) S (by rw [hw1]; exact hb.os) (by rw [hw1]; exact hb.tape) (by rw [hw1]; exact hb.output) (by omega) (fun c hc=>(hk1 c (by omega)).trans (hb.block c hc))
 have hfr:=fresh_put (x:=some g) (β:=β) (blk:=.arr 0 sz els) (ver:=0) (h:=h) (fun v hv=>by simpa [cur,eq_comm] using hv) (.inl rfl)
 rw [putB_new] at hfr
 have:=sim_put (w':=w') S1 (b:=h.length) (ver:=0) (sz:=sz) (c:=g) (els:=els) (Nat.le_refl _) hwr (.inl ⟨hs1.symm,.inl (beta_new S (Nat.le_refl _) 0)⟩) (fun v _=>beta_new S (Nat.le_refl _) v) (by rw [hw1]) (by rw [hw1]) (by rw [hw1]) (by omega)
  (fun k hk _=>(hk1 k (by omega)).symm) hcell hsz (fun h=>by omega) (fun o ho=>by unfold World.frozen?; rw [hcell]; simp)
  (hbe.mono (fun p v hp=>by unfold rdw World.cell?; rw [hcell]; simpa using hp) E1.view (Beta.Le.refl _))
 rw [putB_new] at this
 exact ⟨_,this.1,E1.trans ⟨this.2.1,hfr⟩,by simp [bput],this.2.2⟩
theorem rel_owned {w' : World} (S : Sim w0 wr β h w) (hwr : wr≤h.length) {sz : Nat} {els : List AV} {T : TypeId} {v : Value} {news : List Value} (hb : Below w.heap.size w w') (ho : w'.ownsRow w.heap.size T sz v els.length news) (hsz : news.length=els.length * sz)
    (hbe : ∀ c,BE (fun _ p=>news[p]?) (view wr β h w) β c 0 sz els) : Gets w0 wr β h w (.osl h.length 0 sz 0 els.length) (h++[.arr 0 sz els]) v w':=by
 rcases ho.2 with ⟨rfl,hz⟩ | ⟨g,cap,cur,rfl,hbg,hg,h1,h2,h3,h4⟩
 ·have he : els=[]:=List.eq_nil_of_length_eq_zero hz
  subst he
  obtain ⟨S1,E1⟩:=sim_grow S hb.os hb.tape hb.output hb.size hb.block
  obtain ⟨β',S2,E2,hβ⟩:=sim_virt S1 sz
  exact ⟨β',S2,E1.trans E2,by unfold Rel; exact .inr ⟨hβ,rfl,rfl,none,rfl⟩⟩
 ·have hcur : ∀ p v,news[p]? = some v→cur[p]? = some v:=fun p v hp=>by
    rw [← h4,List.getElem?_take] at hp
    split at hp
    ·simpa using hp
    ·cases hp
  obtain ⟨β',S2,E2,hβ,hS⟩:=sim_owned (g:=g) (sz:=sz) (els:=els) S hwr hb hbg hg (by rw [h3]; exact Nat.mul_le_mul_right _ h1) ((hbe g).mono (fun p v hp=>hcur p v hp) (View.Le.refl _) (Beta.Le.refl _))
  refine ⟨β',S2,E2,?_⟩
  unfold Rel
  exact .inl ⟨g,cap,hβ,by simp,h1,by rw [hS,h3]; simp⟩
theorem cells_row {ys : List AV} {sz c p z : Nat} (h0 : 0 < sz) (hz : ∀ v ∈ ys,v.cells.length=sz∧v.ones=true) (hne : ys ≠ []) (hbe : BE (rdw w) (view wr β h w) β c p z ys) :
    ∃ news : List Value,news.length=ys.length * sz∧(∀ j u,news[j]? = some u→w.cell? ⟨c,p + j,none⟩=some u)∧(∀ c,BE (fun _ p=>news[p]?) (view wr β h w) β c 0 sz ys)∧∀ x ∈ news,x.oneCell'=true:=by
 have hzz : z=sz:=by
  cases ys with
  | nil=>exact absurd rfl hne
  | cons x r=>exact ((hbe 0 x rfl).1).symm.trans (hz x (by simp)).1
 subst hzz
 have hcell : ∀ j,j < ys.length * z→∃ u x,rdw w c (p + j)=some u∧x.one=true∧Rel (view wr β h w) β x u:=fun j hj=>by
  have hi : j / z < ys.length:=(Nat.div_lt_iff_lt_mul h0).2 hj
  have hb:=hbe (j / z) ys[j / z] (by simp [hi])
  have hm:=Nat.mod_lt j h0
  obtain ⟨u,h1,h2⟩:=hb.2 (j % z) (ys[j / z].cells[j % z]'(by rw [hb.1]; exact hm)) (by simp)
  refine ⟨u,_,?_,?_,h2⟩
  ·have:=Nat.div_add_mod j z
   rw [← h1]; congr 1
   rw [Nat.mul_comm] at this; omega
  ·have:=(hz ys[j / z] (List.getElem_mem _)).2
   simp only [AV.ones,List.all_eq_true] at this
   exact this _ (List.getElem_mem _)
 refine ⟨(List.range (ys.length * z)).map fun j=>(rdw w c (p + j)).getD undef,by simp,fun j u hj=>?_,fun c' i x hi=>?_,fun x hx=>?_⟩
 ·rw [List.getElem?_map] at hj
  by_cases hlt : j < ys.length * z
  ·rw [List.getElem?_range hlt] at hj
   obtain ⟨v,_,h1,_⟩:=hcell j hlt
   simp only [Option.map_some,h1,Option.getD_some,Option.some.injEq] at hj
   subst hj
   exact h1
  ·rw [List.getElem?_eq_none (by simpa using hlt)] at hj; cases hj
 ·have hb:=hbe i x hi
  have hil : i < ys.length:=(List.getElem?_eq_some_iff.1 hi).1
  refine ⟨hb.1,fun j y hj=>?_⟩
  obtain ⟨u,h1,h2⟩:=hb.2 j y hj
  refine ⟨u,?_,h2⟩
  have hjz : j < z:=by have:=(List.getElem?_eq_some_iff.1 hj).1; omega
  have hlt : i * z + j < ys.length * z:=by
   have : (i + 1) * z≤ys.length * z:=Nat.mul_le_mul_right _ hil
   rw [Nat.succ_mul] at this; omega
  simp only [Nat.zero_add]
  rw [List.getElem?_map,List.getElem?_range hlt]
  simp only [Option.map_some]
  rw [← Nat.add_assoc,h1]; rfl
 ·obtain ⟨j,hj,rfl⟩:=List.mem_map.1 hx
  obtain ⟨u,y,h1,h2,h3⟩:=hcell j (List.mem_range.1 hj)
  rw [h1]
  exact one_rel h2 h3
end
def cloneX (sz lim : Nat) : List AV→H→Option (AV × H)
 | [v],h=>match elsOf h v with
  | some els=>if els.length≤lim∧els.all (fun v=>v.cells.length == sz && v.ones)=true then some (.osl h.length 0 sz 0 els.length,h++[.arr 0 sz els]) else none
  | none=>none
 | _,_=>none
theorem clone_ext {P : Program} {w0 : World} {f : FuncId} {sz lim bytes : Nat} {T : TypeId} (h0 : 0 < sz) (hlim : lim * bytes≤140737488355328) (hl : lim≤maxLen)
    (hrun : ∀ (b off n c : Nat) (news : List Value) (w : World),news.length=n * sz→n≤maxLen→n * bytes≤140737488355328→(∀ j u,news[j]? = some u→w.cell? ⟨b,off + j,none⟩=some u)→(∀ u ∈ news,u.oneCell'=true) →
     Calls P f #[.slice (some ⟨b,off,none⟩) n c] w fun e w'=>∃ v',e = .returned v'∧w'.ownsRow w.heap.size T sz v' n news∧v' ≠ .slice none 0 0∧Below w.heap.size w w')
    (hrun0 : ∀ (a : Option Addr) (c : Nat) (w : World),Calls P f #[.slice a 0 c] w fun e w'=>∃ v',e = .returned v'∧w'.ownsRow w.heap.size T sz v' 0 []∧Below w.heap.size w w')
    (hen : ∀ vs w,(callFunc f vs).run P w = .ok (.enter f vs) w) : ExtOk P w0 f (cloneX sz lim):=by
 refine ⟨fun args h r h' ev=>?_,fun args h r h' wr β w vs ev hwr S hr=>?_⟩
 ·unfold cloneX at ev
  split at ev
  ·split at ev
   ·split at ev
    ·cases ev; exact ⟨_,rfl⟩
    ·cases ev
   ·cases ev
  ·cases ev
 ·unfold cloneX at ev
  split at ev
  ·rename_i x
   split at ev
   ·rename_i els hels
    split at ev
    ·rename_i hc
     obtain ⟨hlen,hall⟩:=hc
     cases ev
     unfold RelL at hr
     obtain ⟨v,r1,e1,hv,hr⟩:=hr
     unfold RelL at hr
     subst hr
     obtain rfl : vs = #[v]:=by cases vs; simp_all
     obtain ⟨q,cap,rfl,hcap,hcase⟩:=elsOf_rel S hels hv
     refine .inl ⟨hen _ _,?_⟩
     by_cases hne : els=[]
     ·subst hne
      refine (hrun0 q cap w).mono ?_
      rintro e w' ⟨v',rfl,ho,hb⟩
      exact ⟨v',rfl,rel_owned (els:=[]) S hwr hb ho (by simp) (fun c i x hi=>by simp at hi)⟩
     ·rcases hcase with hcase | ⟨c,p,z,rfl,hbe⟩
      ·exact absurd hcase hne
      ·obtain ⟨news,h1,h2,h3,h4⟩:=cells_row h0 (fun v hv=>by simpa using List.all_eq_true.1 hall v hv) hne hbe
       refine (hrun c p els.length cap news w h1 (Nat.le_trans hlen hl) (Nat.le_trans (Nat.mul_le_mul_right _ hlen) hlim) h2 h4).mono ?_
       rintro e w' ⟨v',rfl,ho,_,hb⟩
       exact ⟨v',rfl,rel_owned S hwr hb ho h1 h3⟩
    ·cases ev
   ·cases ev
  ·cases ev
end Go.Avm
