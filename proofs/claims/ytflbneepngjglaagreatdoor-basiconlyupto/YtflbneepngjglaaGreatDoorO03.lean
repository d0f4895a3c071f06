/- Steps of heap and world: a block dies, is made, is written, grows. -/
import Derived.Test.YtflbneepngjglaaGreatDoorO02
import Derived.Laws.IdiomCopy
set_option linter.all false
namespace Go.Avm
open Go.RowKit
theorem Yf {h:H}{b v sz:Nat}{els:List AV}(hb:h[b]? =some (.arr v sz els)):cur h b=some v:=by unfold cur; rw[hb]
theorem QlM {h:H}{b v:Nat}(hc:cur h b=some v):b<h.length:=by
 rcases Nat.lt_or_ge b h.length with h1 | h1
 ·exact h1
 ·unfold cur at hc; rw[List.getElem?_eq_none h1]at hc; cases hc
theorem Jn {wr:Nat}{β:Beta}{h:H}{w:World}{c:Nat}{cs:Array Value}{T:TypeId}{fr:Nat×Nat}(hc:w.heap[c]? =some (.cells cs T fr)):(view wr β h w).S c=cs.size:=by
 unfold view; dsimp only; rw[hc]
theorem QoL {wr:Nat}{β:Beta}{h:H}{w:World}{c o:Nat}{v:Value}(hv:(view wr β h w).M c o=some v):w.cell? ⟨c,o,none⟩=some v/\ ¬Live wr β h c:=by
 unfold view at hv; dsimp only at hv;split at hv
 ·cases hv
 ·rename_i hl; exact⟨hv,hl⟩
theorem WN {wr:Nat}{β:Beta}{h:H}{w:World}{c o:Nat}{v:Value}(hv:w.cell? ⟨c,o,none⟩=some v)(hl: ¬Live wr β h c):(view wr β h w).M c o=some v:=by
 unfold view; dsimp only; rw[if_neg hl]; exact hv
theorem frozen_of_heap {w w':World}{c o:Nat}(h:w'.heap[c]? =w.heap[c]?):w'.frozen? ⟨c,o,none⟩=w.frozen? ⟨c,o,none⟩:=by
 unfold World.frozen?; rw[h]
theorem ZJ {wr wr':Nat}{β β':Beta}{h h':H}{w w':World}{c:Nat}(e:w'.heap[c]? =w.heap[c]?):(view wr' β' h' w').S c=(view wr β h w).S c:=by
 unfold view; dsimp only; rw[e]
theorem Ext.QBU{wr:Nat}{β:Beta}{h h':H}{w:World}(hl:h'.length=h.length)(hlive: ∀c,Live wr β h' c->Live wr β h c)(hcur: ∀k v,cur h' k=some v->cur h k=some v)(hkeep: ∀b,b<h.length->(∀v,β b v=none)->h'[b]? =h[b]?):Ext wr β h w β h' w:=by
 refine⟨?_,⟨fun _ _ h=>h,fun k v _ h=>⟨v,hcur k v h,Nat.le_refl _⟩,fun _ _ _ _ h=>h,hkeep⟩⟩
 exact
 ⟨rfl,rfl,rfl,Nat.le_refl _,by omega,Beta.Le.refl _,fun c _ hc=>⟨rfl,fun h=>hc (hlive c h)⟩,fun _ _ _ _ h=>⟨_,_,h,rfl⟩⟩
theorem ZP {h:H}{b ver k v:Nat}(hc:cur (kill h b ver) k=some v):cur h k=some v/\k≠b:=by
 unfold cur kill at*;by_cases hk:k=b
 ·subst hk;rw[List.getElem?_set]at hc
  by_cases hl:k<h.length<;>simp[hl]at hc
 ·rw[List.getElem?_set_ne (fun e=>hk e.symm)]at hc
  exact⟨hc,hk⟩
theorem Yl {h:H}{b ver k:Nat}(hk:k≠b):(kill h b ver)[k]? =h[k]?:=by unfold kill; rw[List.getElem?_set_ne (fun e=>hk e.symm)]
theorem Wc (h:H)(b ver:Nat):(kill h b ver).length=h.length:=by simp[kill]
theorem QjX {wr:Nat}{β:Beta}{h:H}{b ver c:Nat}(hl:Live wr β (kill h b ver) c):Live wr β h c:=by
 obtain⟨k,v,h1,h2,h3⟩:=hl;exact⟨k,v,h1,(ZP h2).1,h3⟩
theorem QmP {w0:World}{wr:Nat}{β:Beta}{h:H}{w:World}(S:Sim w0 wr β h w){b ver:Nat}(hc:cur h b=some ver)(hy: ∃v y,β b v=some y):
    Sim w0 wr β (kill h b ver) w/\Ext wr β h w β (kill h b ver) w:=by
 have E:Ext wr β h w β (kill h b ver) w:=Ext.QBU (Wc _ _ _) (fun c=>QjX) (fun _ _ h=>(ZP h).1) (fun k _ hn=>Yl (by
  rintro rfl
  obtain⟨v,y,hy⟩:=hy;rw[hn v]at hy; cases hy))
 refine⟨⟨S.below,fun k v c hk=>by rw[Wc]; exact S.dom k v c hk,fun k v hk=>by rw[Wc]; exact S.domv k v hk,?_,?_,?_,?_,?_,?_⟩,E⟩
 ·intro k k' v v' c h1 h2 h3 h4;exact S.inj k k' v v' c (ZP h1).1 (ZP h2).1 h3 h4
 ·intro k v sz els c h1 h2;have hk:k≠b:=(ZP (Yf h1)).2;rw[Yl hk]at h1;obtain⟨⟨cs,T,fr,h3,h4⟩,h5,h6⟩:=S.arr k v sz els c h1 h2;refine⟨⟨cs,T,fr,h3,h4⟩,fun o ho=>h5 o ?_,h6.mono (fun _ _ h=>h) E.view (Beta.Le.refl _)⟩
  rwa[Jn h3]at ho ⊢
 ·intro k x v c h1 hcu h2;obtain⟨h3,hk⟩:=ZP hcu;rw[Yl hk]at h1;exact(S.oth k x v c h1 h3 h2).mono rfl E.view (Beta.Le.refl _)
 ·intro k b1 v T n h1;have hk:k≠b:=fun e=>by subst e; unfold kill at h1; rw[List.getElem?_set]at h1; simp at h1
  rw[Yl hk]at h1;exact S.tyd k b1 v T n h1
 ·intro k v v0 h1 h2;exact S.old k v v0 (ZP h1).1 h2
 ·intro k v v0 h1 h2;by_cases hk:k=b
  ·subst hk;unfold kill at h1;rw[List.getElem?_set]at h1
   simp at h1;obtain⟨_,h1⟩:=h1;exact S.old k v ver hc (by omega)
  ·rw[Yl hk]at h1;exact S.oldd k v v0 h1 h2
def Jd (h:H)(b:Nat)(blk:Qq):H:=if b<h.length then h.set b blk else h++ [blk]
theorem Xw {h:H}{b:Nat}{blk:Qq}(hb:b<=h.length)(k:Nat):(Jd h b blk)[k]? =if k=b then some blk else h[k]?:=by
 unfold Jd;split
 ·rename_i hlt;rw[List.getElem?_set]
  by_cases hk:k=b
  ·subst hk; simp[hlt]
  ·rw[if_neg (fun e=>hk e.symm),if_neg hk]
 ·rename_i hlt;have:b=h.length:=by omega
  subst this;by_cases hk:k=h.length
  ·subst hk; simp
  ·rw[if_neg hk,List.getElem?_append]
   split
   ·rfl
   ·rename_i h1;rw[List.getElem?_eq_none (by simp; omega),List.getElem?_eq_none (by omega)]
theorem Zs {h:H}{b:Nat}{blk:Qq}(hb:b<=h.length):h.length<=(Jd h b blk).length/\b<(Jd h b blk).length:=by
 unfold Jd; split<;>simp<;>omega
def QV (β:Beta)(b v:Nat)(x:Option Nat):Beta:=fun b' v'=>if b'=b/\v'=v then some x else β b' v'
theorem XT {h:H}{β:Beta}{b ver:Nat}{x:Option Nat}{blk:Qq}(hcb: ∀v,cur [blk] 0=some v->v=ver)(hb:b=h.length\/ ∃v0 y,cur h b=some v0/\v0<=ver/\β b v0=some y):Fresh β h (QV β b ver x) (Jd h b blk):=by
 have hbl:b<=h.length:=by
  rcases hb with hb | ⟨v0,_,hc,_⟩
  ·exact Nat.le_of_eq hb
  ·exact Nat.le_of_lt (QlM hc)
 refine⟨fun k hk hn u=>?_,fun k v hk hc=>?_,fun k v hk hv hn=>?_,fun k hk hn=>?_⟩
 ·unfold QV;rw[if_neg]
  ·exact hn u
  ·rintro⟨rfl,_⟩
   rcases hb with hb | ⟨v0,y,_,_,hy⟩
   ·omega
   ·rw[hn v0]at hy; cases hy
 ·unfold cur at hc;rw[Xw hbl]at hc;by_cases hkb:k=b
  ·subst hkb;rw[if_pos rfl]at hc;have:v=ver:=hcb v (by unfold cur; exact hc)
   subst this;rcases hb with hb | ⟨v0,y,h1,h2,_⟩
   ·omega
   ·exact⟨v0,h1,h2⟩
  ·rw[if_neg hkb]at hc;exact⟨v,hc,Nat.le_refl _⟩
 ·unfold QV;split
  ·rename_i hkv;obtain⟨rfl,rfl⟩:=hkv;rcases hb with hb | ⟨v0,y,h1,h2,h3⟩
   ·omega
   ·have:v=v0:=Nat.le_antisymm (hv v0 h1) h2;subst this;rw[hn]at h3; cases h3
  ·exact hn
 ·rw[Xw hbl,if_neg]
  rintro rfl
  rcases hb with hb | ⟨v0,y,_,_,h3⟩
  ·omega
  ·rw[hn v0]at h3; cases h3
theorem QbZ {w0:World}{wr:Nat}{β:Beta}{h:H}{w w':World}(S:Sim w0 wr β h w){b ver sz c:Nat}{els:List AV}(hb:b<=h.length)(hwr:wr<=b)
    (hc:(c=w.heap.size/\(β b ver=none\/False))\/ ∃v0,cur h b=some v0/\β b v0=some (some c)/\v0<=ver/\(ver=v0\/β b ver=none))
    (hold: ∀v,ver<v->β b v=none)
    (os:w'.os=w.os) (tape:w'.tape=w.tape) (output:w'.output=w.output) (size:w.heap.size<=w'.heap.size)
    (same: ∀k,k<w.heap.size->k≠c->w'.heap[k]? =w.heap[k]?)
    {cs:Array Value} {T:TypeId} {fr:Nat×Nat} (hcell:w'.heap[c]? =some (.cells cs T fr)) (hsz:els.length*sz<=cs.size)
    (hshape:c<w.heap.size-> ∀cs0 T0 fr0,w.heap[c]? =some (.cells cs0 T0 fr0)->cs.size=cs0.size/\T=T0)
    (hfr: ∀o,o<cs.size->w'.frozen? ⟨c,o,none⟩=false)
    (hbe:BE (rdw w') (view wr β h w) β c 0 sz els):
    Sim w0 wr (QV β b ver (some c)) (Jd h b (.arr ver sz els)) w'/\Ext0 wr β h w (QV β b ver (some c)) (Jd h b (.arr ver sz els)) w'/\(view wr (QV β b ver (some c)) (Jd h b (.arr ver sz els)) w').S c=cs.size:=by
 have hcsz:c<w'.heap.size:=by
  rcases Nat.lt_or_ge c w'.heap.size with h1 | h1
  ·exact h1
  ·rw[Array.getElem?_eq_none h1]at hcell; cases hcell
 have hc0:w0.heap.size<=c:=by
  rcases hc with⟨h1,_⟩ | ⟨v0,_,h2,_⟩
  ·rw[h1]; exact S.below.size
  ·exact(S.dom b v0 c h2).2.1
 have hoth: ∀k v,k≠b->cur h k=some v->β k v≠some (some c):=by
  intro k v hk h1 h2;rcases hc with⟨h3,_⟩ | ⟨v0,h3,h4,_⟩
  ·have:=(S.dom k v c h2).2.2; omega
  ·exact hk (S.inj k b v v0 c h1 h3 h2 h4)
 have hle:β.Le (QV β b ver (some c)):=by
  intro k v x hx;unfold QV;split
  ·rename_i hkv;obtain⟨rfl,rfl⟩:=hkv;rcases hc with⟨_,h1 | h1⟩ | ⟨v0,h2,h3,h4,h5 | h5⟩
   ·rw[h1]at hx; cases hx
   ·exact h1.elim
   ·subst h5; rw[h3]at hx; exact hx
   ·rw[h5]at hx; cases hx
  ·exact hx
 have hcur: ∀k v,cur (Jd h b (.arr ver sz els)) k=some v->(k=b/\v=ver)\/(k≠b/\cur h k=some v):=by
  intro k v hk;unfold cur at hk;rw[Xw hb]at hk;by_cases hkb:k=b
  ·rw[if_pos hkb]at hk; simp at hk; exact .inl ⟨hkb,hk.symm⟩
  ·rw[if_neg hkb]at hk; exact .inr ⟨hkb,hk⟩
 have hlive: ∀k,k≠c->Live wr (QV β b ver (some c)) (Jd h b (.arr ver sz els)) k->Live wr β h k:=by
  rintro k hk ⟨b1,v1,h1,h2,h3⟩
  rcases hcur b1 v1 h2 with⟨rfl,rfl⟩ | ⟨h4,h5⟩
  ·simp[QV]at h3; exact absurd h3.symm hk
  ·refine⟨b1,v1,h1,h5,?_⟩
   unfold QV at h3
   rwa[if_neg (fun e=>h4 e.1)]at h3
 have E:Ext0 wr β h w (QV β b ver (some c)) (Jd h b (.arr ver sz els)) w':=by
  refine⟨os,tape,output,size,(Zs hb).1,hle,fun k hk hl=>?_,fun k cs0 T0 fr0 hk=>?_⟩
  ·have hkc:k≠c:=by
     rintro rfl
     rcases hc with⟨h1,_⟩ | ⟨v0,h1,h2,_⟩
     ·omega
     ·exact hl ⟨b,v0,hwr,h1,h2⟩
   exact⟨same k hk hkc,fun h=>hl (hlive k hkc h)⟩
  ·by_cases hkc:k=c
   ·subst hkc
    have hlt:k<w.heap.size:=by
     rcases Nat.lt_or_ge k w.heap.size with h1 | h1
     ·exact h1
     ·rw[Array.getElem?_eq_none h1]at hk; cases hk
    obtain⟨hs1,rfl⟩:=hshape hlt cs0 T0 fr0 hk;exact⟨cs,fr,hcell,hs1⟩
   ·have hlt:k<w.heap.size:=by
      rcases Nat.lt_or_ge k w.heap.size with h1 | h1
      ·exact h1
      ·rw[Array.getElem?_eq_none h1]at hk; cases hk
    exact⟨cs0,fr0,(same k hlt hkc).trans hk,rfl⟩
 refine⟨⟨?_,?_,?_,?_,?_,?_,?_,?_,?_⟩,E,Jn hcell⟩
 ·refine S.below.trans ⟨os,tape,output,size,fun k hk=>same k ?_ ?_⟩
  ·exact Nat.lt_of_lt_of_le hk S.below.size
  ·omega
 ·intro k v c1 h1;unfold QV at h1;split at h1
  ·rename_i hkv;simp at h1; subst h1;obtain⟨rfl,rfl⟩:=hkv;exact⟨(Zs hb).2,hc0,hcsz⟩
  ·obtain⟨h2,h3,h4⟩:=S.dom k v c1 h1;exact⟨Nat.lt_of_lt_of_le h2 (Zs hb).1,h3,Nat.lt_of_lt_of_le h4 size⟩
 ·intro k v h1;unfold QV at h1;split at h1
  ·simp at h1
  ·exact Nat.lt_of_lt_of_le (S.domv k v h1) (Zs hb).1
 ·intro k k' v v' c1 h1 h2 h3 h4;rcases hcur k v h1 with⟨rfl,rfl⟩ | ⟨h5,h6⟩<;>rcases hcur k' v' h2 with⟨h7,h7'⟩ | ⟨h7,h8⟩
  ·exact h7.symm
  ·simp[QV]at h3;subst h3;unfold QV at h4;rw[if_neg (fun e=>h7 e.1)]at h4
   exact absurd h4 (hoth k' v' h7 h8)
  ·subst h7 h7';simp[QV]at h4;subst h4;unfold QV at h3;rw[if_neg (fun e=>h5 e.1)]at h3
   exact absurd h3 (hoth k v h5 h6)
  ·unfold QV at h3 h4;rw[if_neg (fun e=>h5 e.1)]at h3
   rw[if_neg (fun e=>h7 e.1)]at h4
   exact S.inj k k' v v' c1 h6 h8 h3 h4
 ·intro k v z es c1 h1 h2;rw[Xw hb]at h1;by_cases hk:k=b
  ·rw[if_pos hk]at h1;simp at h1;obtain⟨rfl,rfl,rfl⟩:=h1;subst hk;simp[QV]at h2;subst h2;exact⟨⟨cs,T,fr,hcell,hsz⟩,fun o ho=>hfr o (by rwa[Jn hcell]at ho),hbe.mono (fun _ _ h=>h) E.view E.beta⟩
  ·rw[if_neg hk]at h1;unfold QV at h2;rw[if_neg (fun e=>hk e.1)]at h2
   have hne:c1≠c:=fun e=>hoth k v hk (Yf h1) (e▸h2)
   obtain⟨⟨cs1,T1,fr1,h3,h4⟩,h5,h6⟩:=S.arr k v z es c1 h1 h2;have hs:=same c1 (S.dom k v c1 h2).2.2 hne;refine⟨⟨cs1,T1,fr1,hs.trans h3,h4⟩,fun o ho=>?_,h6.mono (fun p u hp=>?_) E.view E.beta⟩
   ·rw[frozen_of_heap hs];exact h5 o (by rwa[ZJ (wr:=wr) (β:=β) (h:=h) hs]at ho)
   ·unfold rdw at*; rw[cell_of_heap hs]; exact hp
 ·intro k x v c1 h1 hcu h2;rw[Xw hb]at h1;rcases hcur k v hcu with⟨hk,_⟩ | ⟨hk,hcu⟩
  ·rw[if_pos hk]at h1; injection h1 with h1; subst h1; exact trivial
  ·rw[if_neg hk]at h1;unfold QV at h2;rw[if_neg (fun e=>hk e.1)]at h2
   have hne:c1≠c:=fun e=>hoth k v hk hcu (e▸h2)
   exact(S.oth k x v c1 h1 hcu h2).mono (same c1 (S.dom k v c1 h2).2.2 hne) E.view E.beta
 ·intro k b1 v T1 n h1;rw[Xw hb]at h1;by_cases hk:k=b
  ·rw[if_pos hk]at h1; simp at h1
  ·rw[if_neg hk]at h1; exact E.tyd (S.tyd k b1 v T1 n h1)
 ·intro k v v0 h1 h2;unfold QV;rcases hcur k v0 h1 with⟨rfl,rfl⟩ | ⟨h3,h4⟩
  ·rw[if_neg (by omega)]; exact hold v h2
  ·rw[if_neg (fun e=>h3 e.1)]; exact S.old k v v0 h4 h2
 ·intro k v v0 h1 h2;rw[Xw hb]at h1;by_cases hk:k=b
  ·rw[if_pos hk]at h1; simp at h1
  ·rw[if_neg hk]at h1;unfold QV;rw[if_neg (fun e=>hk e.1)]
   exact S.oldd k v v0 h1 h2
theorem Qla {w0:World}{wr:Nat}{β:Beta}{h:H}{w w':World}(S:Sim w0 wr β h w){b ver c:Nat}{blk:Qq}(hb:b<=h.length)(hwr:b<h.length->wr<=b)
    (hcb: ∀v,cur [blk] 0=some v->v=ver) (hnd: ∀v,blk≠ .dead v) (hnt: ∀x y z t,blk≠ .tyd x y z t)
    (hc:(c=w.heap.size/\β b ver=none)\/ ∃v0,cur h b=some v0/\β b v0=some (some c)/\v0<=ver/\(ver=v0\/β b ver=none))
    (hold: ∀v,ver<v->β b v=none)
    (os:w'.os=w.os) (tape:w'.tape=w.tape) (output:w'.output=w.output) (size:w.heap.size<=w'.heap.size)
    (same: ∀k,k<w.heap.size->k≠c->w'.heap[k]? =w.heap[k]?) (hcsz:c<w'.heap.size)
    (hshape:c<w.heap.size-> ∀cs0 T0 fr0,w.heap[c]? =some (.cells cs0 T0 fr0)-> ∃cs fr,w'.heap[c]? =some (.cells cs T0 fr)/\cs.size=cs0.size)
    (harr: ∀v sz els,blk= .arr v sz els->(∃cs T fr,w'.heap[c]? =some (.cells cs T fr)/\els.length*sz<=cs.size/\ ∀o,o<cs.size->w'.frozen? ⟨c,o,none⟩=false)/\BE (rdw w') (view wr β h w) β c 0 sz els)
    (hoth0:Oth (view wr β h w) β w'.heap[c]? blk):
    Sim w0 wr (QV β b ver (some c)) (Jd h b blk) w'/\Ext0 wr β h w (QV β b ver (some c)) (Jd h b blk) w':=by
 have hc0:w0.heap.size<=c:=by
  rcases hc with⟨h1,_⟩ | ⟨v0,_,h2,_⟩
  ·rw[h1]; exact S.below.size
  ·exact(S.dom b v0 c h2).2.1
 have hoth: ∀k v,k≠b->cur h k=some v->β k v≠some (some c):=by
  intro k v hk h1 h2;rcases hc with⟨h3,_⟩ | ⟨v0,h3,h4,_⟩
  ·have:=(S.dom k v c h2).2.2; omega
  ·exact hk (S.inj k b v v0 c h1 h3 h2 h4)
 have hle:β.Le (QV β b ver (some c)):=by
  intro k v x hx;unfold QV;split
  ·rename_i hkv;obtain⟨rfl,rfl⟩:=hkv;rcases hc with⟨_,h1⟩ | ⟨v0,h2,h3,h4,h5 | h5⟩
   ·rw[h1]at hx; cases hx
   ·subst h5; rw[h3]at hx; exact hx
   ·rw[h5]at hx; cases hx
  ·exact hx
 have hcur: ∀k v,cur (Jd h b blk) k=some v->(k=b/\v=ver)\/(k≠b/\cur h k=some v):=by
  intro k v hk;unfold cur at hk;rw[Xw hb]at hk;by_cases hkb:k=b
  ·rw[if_pos hkb]at hk; exact .inl ⟨hkb,hcb v (by unfold cur; exact hk)⟩
  ·rw[if_neg hkb]at hk; exact .inr ⟨hkb,hk⟩
 have hlive: ∀k,k≠c->Live wr (QV β b ver (some c)) (Jd h b blk) k->Live wr β h k:=by
  rintro k hk ⟨b1,v1,h1,h2,h3⟩
  rcases hcur b1 v1 h2 with⟨rfl,rfl⟩ | ⟨h4,h5⟩
  ·simp[QV]at h3; exact absurd h3.symm hk
  ·refine⟨b1,v1,h1,h5,?_⟩
   unfold QV at h3
   rwa[if_neg (fun e=>h4 e.1)]at h3
 have E:Ext0 wr β h w (QV β b ver (some c)) (Jd h b blk) w':=by
  refine⟨os,tape,output,size,(Zs hb).1,hle,fun k hk hl=>?_,fun k cs0 T0 fr0 hk=>?_⟩
  ·have hkc:k≠c:=by
     rintro rfl
     rcases hc with⟨h1,_⟩ | ⟨v0,h1,h2,_⟩
     ·omega
     ·exact hl ⟨b,v0,hwr (QlM h1),h1,h2⟩
   exact⟨same k hk hkc,fun h=>hl (hlive k hkc h)⟩
  ·by_cases hkc:k=c
   ·subst hkc
    have hlt:k<w.heap.size:=by
     rcases Nat.lt_or_ge k w.heap.size with h1 | h1
     ·exact h1
     ·rw[Array.getElem?_eq_none h1]at hk; cases hk
    exact hshape hlt cs0 T0 fr0 hk
   ·have hlt:k<w.heap.size:=by
      rcases Nat.lt_or_ge k w.heap.size with h1 | h1
      ·exact h1
      ·rw[Array.getElem?_eq_none h1]at hk; cases hk
    exact⟨cs0,fr0,(same k hlt hkc).trans hk,rfl⟩
 refine⟨⟨?_,?_,?_,?_,?_,?_,?_,?_,?_⟩,E⟩
 ·refine S.below.trans ⟨os,tape,output,size,fun k hk=>same k ?_ ?_⟩
  ·exact Nat.lt_of_lt_of_le hk S.below.size
  ·omega
 ·intro k v c1 h1;unfold QV at h1;split at h1
  ·rename_i hkv;simp at h1; subst h1;obtain⟨rfl,rfl⟩:=hkv;exact⟨(Zs hb).2,hc0,hcsz⟩
  ·obtain⟨h2,h3,h4⟩:=S.dom k v c1 h1;exact⟨Nat.lt_of_lt_of_le h2 (Zs hb).1,h3,Nat.lt_of_lt_of_le h4 size⟩
 ·intro k v h1;unfold QV at h1;split at h1
  ·simp at h1
  ·exact Nat.lt_of_lt_of_le (S.domv k v h1) (Zs hb).1
 ·intro k k' v v' c1 h1 h2 h3 h4;rcases hcur k v h1 with⟨rfl,rfl⟩ | ⟨h5,h6⟩<;>rcases hcur k' v' h2 with⟨h7,h7'⟩ | ⟨h7,h8⟩
  ·exact h7.symm
  ·simp[QV]at h3;subst h3;unfold QV at h4;rw[if_neg (fun e=>h7 e.1)]at h4
   exact absurd h4 (hoth k' v' h7 h8)
  ·subst h7 h7';simp[QV]at h4;subst h4;unfold QV at h3;rw[if_neg (fun e=>h5 e.1)]at h3
   exact absurd h3 (hoth k v h5 h6)
  ·unfold QV at h3 h4;rw[if_neg (fun e=>h5 e.1)]at h3
   rw[if_neg (fun e=>h7 e.1)]at h4
   exact S.inj k k' v v' c1 h6 h8 h3 h4
 ·intro k v z es c1 h1 h2;rw[Xw hb]at h1;by_cases hk:k=b
  ·rw[if_pos hk]at h1;injection h1 with h1;subst hk;have hv:v=ver:=hcb v (by rw[h1]; rfl)
   subst hv;simp[QV]at h2;subst h2;obtain⟨⟨cs,T,fr,h3,h4,h5⟩,h6⟩:=harr v z es h1;exact⟨⟨cs,T,fr,h3,h4⟩,fun o ho=>h5 o (by rwa[Jn h3]at ho),h6.mono (fun _ _ h=>h) E.view E.beta⟩
  ·rw[if_neg hk]at h1;unfold QV at h2;rw[if_neg (fun e=>hk e.1)]at h2
   have hne:c1≠c:=fun e=>hoth k v hk (Yf h1) (e▸h2)
   obtain⟨⟨cs1,T1,fr1,h3,h4⟩,h5,h6⟩:=S.arr k v z es c1 h1 h2;have hs:=same c1 (S.dom k v c1 h2).2.2 hne;refine⟨⟨cs1,T1,fr1,hs.trans h3,h4⟩,fun o ho=>?_,h6.mono (fun p u hp=>?_) E.view E.beta⟩
   ·rw[frozen_of_heap hs];exact h5 o (by rwa[ZJ (wr:=wr) (β:=β) (h:=h) hs]at ho)
   ·unfold rdw at*; rw[cell_of_heap hs]; exact hp
 ·intro k x v c1 h1 hcu h2;rw[Xw hb]at h1;rcases hcur k v hcu with⟨hk,hv⟩ | ⟨hk,hcu⟩
  ·rw[if_pos hk]at h1; injection h1 with h1; subst h1;subst hk hv;simp[QV]at h2;subst h2;exact hoth0.mono rfl E.view E.beta
  ·rw[if_neg hk]at h1;unfold QV at h2;rw[if_neg (fun e=>hk e.1)]at h2
   have hne:c1≠c:=fun e=>hoth k v hk hcu (e▸h2)
   exact(S.oth k x v c1 h1 hcu h2).mono (same c1 (S.dom k v c1 h2).2.2 hne) E.view E.beta
 ·intro k b1 v T1 n h1;rw[Xw hb]at h1;by_cases hk:k=b
  ·rw[if_pos hk]at h1; injection h1 with h1; exact absurd h1 (hnt _ _ _ _)
  ·rw[if_neg hk]at h1; exact E.tyd (S.tyd k b1 v T1 n h1)
 ·intro k v v0 h1 h2;unfold QV;rcases hcur k v0 h1 with⟨rfl,rfl⟩ | ⟨h3,h4⟩
  ·rw[if_neg (by omega)]; exact hold v h2
  ·rw[if_neg (fun e=>h3 e.1)]; exact S.old k v v0 h4 h2
 ·intro k v v0 h1 h2;rw[Xw hb]at h1;by_cases hk:k=b
  ·rw[if_pos hk]at h1; injection h1 with h1; exact absurd h1 (hnd _)
  ·rw[if_neg hk]at h1;unfold QV;rw[if_neg (fun e=>hk e.1)]
   exact S.oldd k v v0 h1 h2
theorem QrJ {w0:World}{wr:Nat}{β:Beta}{h:H}{w:World}(S:Sim w0 wr β h w){b v T n c:Nat}{cs:Array Value}{fr:Nat×Nat}(h1:β b v=some (some c))(h2:w.heap[c]? =some (.cells cs T fr))(h3:cs.size=n):
    Sim w0 wr β (h++ [.tyd b v T n]) w/\Ext wr β h w β (h++ [.tyd b v T n]) w/\ ∀c,Live wr β (h++ [.tyd b v T n]) c->Live wr β h c:=by
 have lt: ∀{k u:Nat} {x:Option Nat},β k u=some x->k<h.length:=fun{k u x} hx=>by
  cases x with
  | none=>exact S.domv k u hx
  | some c=>exact(S.dom k u c hx).1
 have get: ∀{k:Nat},k<h.length->(h++ [Qq.tyd b v T n])[k]? =h[k]?:=fun{k} hk=>List.getElem?_append_left hk
 have curs: ∀{k u:Nat},k<h.length->cur (h++ [.tyd b v T n]) k=some u->cur h k=some u:=fun{k u} hk hu=>by unfold cur at hu ⊢; rwa[get hk]at hu
 have hlive: ∀c,Live wr β (h++ [.tyd b v T n]) c->Live wr β h c:=fun c ⟨k,u,g1,g2,g3⟩=>⟨k,u,g1,curs (lt g3) g2,g3⟩
 have E:Ext wr β h w β (h++ [.tyd b v T n]) w:=⟨⟨rfl,rfl,rfl,Nat.le_refl _,by simp,Beta.Le.refl _,fun c _ hl=>⟨rfl,fun hx=>hl (hlive c hx)⟩,fun _ _ _ _ h=>⟨_,_,h,rfl⟩⟩,
  ⟨fun _ _ h=>h,fun k u hk hu=>⟨u,curs hk hu,Nat.le_refl _⟩,fun _ _ _ _ h=>h,fun k hk _=>get hk⟩⟩
 have none_of: ∀{k u:Nat},¬k<h.length->β k u=none:=fun{k u} hk=>by
  cases hx:β k u with
  | none=>rfl
  | some x=>exact absurd (lt hx) hk
 refine⟨⟨S.below,fun k u c hk=>?_,fun k u hk=>?_,fun k k' u u' c a1 a2 a3 a4=>S.inj k k' u u' c (curs (lt a3) a1) (curs (lt a4) a2) a3 a4,fun k u sz els c a1 a2=>?_,fun k x u c a1 a2 a3=>?_,fun k b1 v1 T1 n1 a1=>?_,fun k u v0 a1 a2=>?_,fun k u v0 a1 a2=>?_⟩,E,hlive⟩
 ·obtain⟨a1,a2⟩:=S.dom k u c hk; exact⟨by simp; omega,a2⟩
 ·have:=S.domv k u hk; simp; omega
 ·rw[get (lt a2)]at a1;obtain⟨a3,a4,a5⟩:=S.arr k u sz els c a1 a2;exact⟨a3,a4,a5.mono (fun _ _ h=>h) E.view (Beta.Le.refl _)⟩
 ·rw[get (lt a3)]at a1;exact(S.oth k x u c a1 (curs (lt a3) a2) a3).mono rfl E.view (Beta.Le.refl _)
 ·by_cases hk:k<h.length
  ·rw[get hk]at a1; exact S.tyd k b1 v1 T1 n1 a1
  ·have hke:k=h.length:=by have:=(List.getElem?_eq_some_iff.1 a1).1; simp at this; omega
   subst hke;simp at a1;obtain⟨rfl,rfl,rfl,rfl⟩:=a1;exact⟨lt h1,c,cs,fr,h1,h2,h3⟩
 ·by_cases hk:k<h.length
  ·exact S.old k u v0 (curs hk a1) a2
  ·exact none_of hk
 ·by_cases hk:k<h.length
  ·rw[get hk]at a1; exact S.oldd k u v0 a1 a2
  ·exact none_of hk
theorem XU {w0:World}{wr:Nat}{β:Beta}{h:H}{w:World}(S:Sim w0 wr β h w){b:Nat}(hb:h.length<=b)(v:Nat):β b v=none:=by
 cases hx:β b v with
 | none=>rfl
 | some x=>
  cases x with
  | none=>have:=S.domv b v hx; omega
  | some c=>have:=(S.dom b v c hx).1; omega
theorem ZL (h:H)(blk:Qq):Jd h h.length blk=h++ [blk]:=by unfold Jd; rw[if_neg (by omega)]
theorem Ze {h:H}{b:Nat}(hb:b<h.length)(blk:Qq):Jd h b blk=h.set b blk:=by unfold Jd; rw[if_pos hb]
theorem Qad (w:World)(o:Obj):(w.alloc o).heap[w.heap.size]? =some o:=by show(w.heap.push o)[w.heap.size]? =_; simp
theorem Qee (w:World)(o:Obj){k:Nat}(hk:k<w.heap.size):(w.alloc o).heap[k]? =w.heap[k]?:=by show(w.heap.push o)[k]? =_; rw[Array.getElem?_push,if_neg (by omega)]
theorem Qqy {w0:World}{wr:Nat}{β:Beta}{h:H}{w:World}(S:Sim w0 wr β h w)(hwr:wr<=h.length){sz:Nat}{els:List AV}(cs:Array Value)(T:TypeId)(hsz:els.length*sz<=cs.size)
    (hbe:BE (fun _ o=>cs[o]?) (view wr β h w) β w.heap.size 0 sz els):
    ∃β',Sim w0 wr β' (h++ [.arr 0 sz els]) (w.alloc (.cells cs T))/\Ext wr β h w β' (h++ [.arr 0 sz els]) (w.alloc (.cells cs T))/\β' h.length 0=some (some w.heap.size)/\
     (view wr β' (h++ [.arr 0 sz els]) (w.alloc (.cells cs T))).S w.heap.size=cs.size:=by
 have hcell:(w.alloc (.cells cs T)).heap[w.heap.size]? =some (.cells cs T (0,0)):=Qad _ _;have hfr:=XT (x:=some w.heap.size) (β:=β) (blk:=.arr 0 sz els) (ver:=0) (h:=h) (fun v hv=>by simpa[cur,eq_comm]using hv) (.inl rfl)
 rw[ZL]at hfr
 have:=QbZ (w':=w.alloc (.cells cs T)) S (b:=h.length) (ver:=0) (sz:=sz) (c:=w.heap.size) (els:=els) (Nat.le_refl _) hwr (.inl ⟨rfl,.inl (XU S (Nat.le_refl _) 0)⟩) (fun v _=>XU S (Nat.le_refl _) v) rfl rfl rfl (by simp)
  (fun k hk _=>Qee _ _ hk) hcell hsz (fun h=>by omega) (fun o ho=>by unfold World.frozen?; rw[hcell]; simp)
  (hbe.mono (fun p v hp=>by unfold rdw World.cell?; rw[hcell]; simpa using hp) (View.Le.refl _) (Beta.Le.refl _))
 rw[ZL]at this;exact⟨_,this.1,⟨this.2.1,hfr⟩,by simp[QV],this.2.2⟩
end Go.Avm
