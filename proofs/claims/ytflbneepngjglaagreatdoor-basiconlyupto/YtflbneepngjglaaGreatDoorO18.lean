/- Reading elsewhere, being born elsewhere. -/
import Derived.Test.YtflbneepngjglaaGreatDoorO17
set_option linter.all false
namespace Go.Avm
open Go.RowKit
section
variable {P : Program} {w0 w w1 : World} {wr : Nat} {β β1 : Beta} {h h' G : H}
theorem Qgz {wr':Nat}(hd: ∀b v x,β b v=some x->h'[b]? =h[b]?){c:Nat}(hl:Live wr' β h' c):Live wr' β h c:=by
 obtain⟨b,v,h1,h2,h3⟩:=hl;refine⟨b,v,h1,?_,h3⟩
 unfold cur at h2 ⊢
 rwa[hd b v _ h3]at h2
theorem QpC (hd: ∀b v x,β b v=some x->b<h'.length/\h'[b]? =h[b]?)(c:Nat):Live wr β h' c↔Live wr β h c:=⟨Qgz fun b v x hx=>(hd b v x hx).2,Qgz fun b v x hx=>(hd b v x hx).2.symm⟩
theorem Qjv (S:Sim w0 wr β h w)(hd: ∀b v x,β b v=some x->b<h'.length/\h'[b]? =h[b]?)(ht: ∀(k b v T n:Nat),h'[k]? =some (Qq.tyd b v T n)->h[k]? =some (Qq.tyd b v T n)):Sim w0 wr β h' w/\ ∀c,Live wr β h' c↔Live wr β h c:=by
 have hlive: ∀c,Live wr β h' c↔Live wr β h c:=fun c=>⟨Qgz fun b v x hx=>(hd b v x hx).2,Qgz fun b v x hx=>(hd b v x hx).2.symm⟩
 have hv:=ZV (w:=w) fun c=>(hlive c).1
 have hc: ∀{b v v0 x},cur h' b=some v->β b v0=some x->cur h b=some v:=fun{b v v0 x} h1 h2=>by
  unfold cur at h1 ⊢
  rwa[(hd b v0 x h2).2]at h1
 refine⟨⟨S.below,fun b v c hb=>⟨(hd b v _ hb).1,(S.dom b v c hb).2⟩,fun b v hb=>(hd b v _ hb).1,fun k k' v v' c h1 h2 h3 h4=>S.inj k k' v v' c (hc h1 h3) (hc h2 h4) h3 h4,fun b v sz els c h1 h2=>?_,fun b x v c h1 hcu h2=>?_,fun k b v T n h1=>S.tyd k b v T n (ht k b v T n h1),fun b v v0 h1 h2=>?_,fun b v v0 h1 h2=>?_⟩,hlive⟩
 ·rw[(hd b v _ h2).2]at h1;obtain⟨h3,h4,h5⟩:=S.arr b v sz els c h1 h2;exact⟨h3,h4,h5.mono (fun _ _ h=>h) hv (Beta.Le.refl _)⟩
 ·rw[(hd b v _ h2).2]at h1;exact(S.oth b x v c h1 (hc hcu h2) h2).mono rfl hv (Beta.Le.refl _)
 ·cases h3:β b v with
  | none=>rfl
  | some x=>have:=S.old b v v0 (hc h1 h3) h2; rw[h3]at this; cases this
 ·cases h3:β b v with
  | none=>rfl
  | some x=>
   rw[(hd b v x h3).2]at h1;have:=S.oldd b v v0 h1 h2; rw[h3]at this; cases this
theorem WG (S:Sim w0 wr β h w){b v:Nat}{x:Option Nat}(hx:β b v=some x):b<h.length:=by
 cases x with
 | none=>exact S.domv b v hx
 | some c=>exact(S.dom b v c hx).1
theorem Qsu (S:Sim w0 wr β h w)(t:H): ∀c,Live wr β (h++t) c↔Live wr β h c:=
 QpC fun b v x hx=>⟨by have:=WG S hx; simp; omega,List.getElem?_append_left (WG S hx)⟩
theorem QdM (S:Sim w0 wr β h w)(t:H)(hn:noT t):Sim w0 wr β (h++t) w/\ ∀c,Live wr β (h++t) c↔Live wr β h c:=
 Qjv S (fun b v x hx=>⟨by have:=WG S hx; simp; omega,List.getElem?_append_left (WG S hx)⟩) fun k b v T n hk=>by
  rw[List.getElem?_append]at hk
  split at hk
  ·exact hk
  ·exact absurd rfl (hn _ (List.mem_of_getElem? hk) b v T n)
theorem QtO {t:H}(S:Sim w0 wr β (h++t) w)(hn: ∀b v,h.length<=b->β b v=none):Sim w0 wr β h w/\ ∀c,Live wr β h c↔Live wr β (h++t) c:=by
 refine Qjv S (fun b v x hx=>?_) fun k b v T n hk=>(List.getElem?_append_left (List.getElem?_eq_some_iff.1 hk).1).trans hk
 have hb:b<h.length:=by
  rcases Nat.lt_or_ge b h.length with h1 | h1
  ·exact h1
  ·rw[hn b v h1]at hx; cases hx
 exact⟨hb,(List.getElem?_append_left hb).symm⟩
theorem QsZ (S:Sim w0 wr β h w){b v sz c:Nat}{els:List AV}(hb:h[b]? =some (.arr v sz els))(hβ:β b v=some (some c)):Qj h.length els=true:=by
 obtain⟨_,_,hbe⟩:=S.arr b v sz els c hb hβ;rw[Xc];intro x hx;obtain⟨i,hi,rfl⟩:=List.mem_iff_getElem.1 hx;have:=(hbe i els[i] (by simp)).2
 rw[←Yi,Xc];intro y hy;obtain⟨j,hj,rfl⟩:=List.mem_iff_getElem.1 hy;obtain⟨u,_,hr⟩:=this j _ (List.getElem?_eq_getElem hj)
 exact Rel.Qm (fun b v x hx=>WG S hx) _ _ hr
theorem Qtq {rd:Nat->Nat->Option Value}{V:View}{n c o sz:Nat}{els:List AV}(hb:BE rd V β c o sz els)(hu:Qj n els=true):BE rd V (XK n β) c o sz els:=by
 intro i x hx;obtain⟨h5,h6⟩:=hb i x hx;refine⟨h5,fun j y hy=>?_⟩
 obtain⟨u,h7,h8⟩:=h6 j y hy;have hxu:x.under n=true:=Xc.1 hu x (List.mem_of_getElem? hx);rw[←Yi,Xc]at hxu;exact⟨u,h7,Rel.narrow _ _ (hxu y (List.mem_of_getElem? hy)) h8⟩
def Wb (b L:Nat)(β:Beta):Beta:=fun k v=>if k=b then β L v else if k<L then β k v else none
theorem QpB {b sz:Nat}{els:List AV}(S:Sim w0 wr β G w)(S1:Sim w0 wr β1 (G++ [.arr 0 sz els]) w1)(E:Ext wr β G w β1 (G++ [.arr 0 sz els]) w1)(hb:G[b]? =some (.arr 0 sz els))(hwr:wr<=b)(hn: ∀v,β b v=none)(hu:Qj G.length els=true):
    Sim w0 wr (Wb b G.length β1) G w1/\Ext0 wr β G w (Wb b G.length β1) G w1/\(∀c,Live wr (Wb b G.length β1) G c->Live wr β1 (G++ [.arr 0 sz els]) c)/\(XK G.length β1).Le (Wb b G.length β1):=by
 have hbl:b<G.length:=(List.getElem?_eq_some_iff.1 hb).1
 have hn1: ∀v,β1 b v=none:=E.fresh b hbl hn;have hlow: ∀k,k<G.length->(G++ [.arr 0 sz els])[k]? =G[k]?:=fun k hk=>List.getElem?_append_left hk
 have hat:(G++ [.arr 0 sz els])[G.length]? =some (.arr 0 sz els):=by simp
 have hle:(XK G.length β1).Le (Wb b G.length β1):=fun k v x hx=>by
  unfold XK at hx;split at hx
  ·rename_i hk;unfold Wb;rw[if_neg (by rintro rfl; rw[hn1 v]at hx; cases hx),if_pos hk]
   exact hx
  ·cases hx
 have cases_of: ∀k v x,Wb b G.length β1 k v=some x->(k=b/\β1 G.length v=some x)\/(k≠b/\k<G.length/\β1 k v=some x):=fun k v x hx=>by
  unfold Wb at hx;split at hx
  ·rename_i hk; exact .inl ⟨hk,hx⟩
  ·rename_i hk;split at hx
   ·rename_i hkl; exact .inr ⟨hk,hkl,hx⟩
   ·cases hx
 have hsrc: ∀k v x,Wb b G.length β1 k v=some x-> ∃k0,β1 k0 v=some x/\(G++ [.arr 0 sz els])[k0]? =G[k]? /\k<G.length/\k<=k0/\((k=b/\k0=G.length)\/(k≠b/\k0=k)):=fun k v x hx=>by
  rcases cases_of k v x hx with⟨rfl,h1⟩ | ⟨h1,h2,h3⟩
  ·exact⟨G.length,h1,by rw[hat,hb],hbl,Nat.le_of_lt hbl,.inl ⟨rfl,rfl⟩⟩
  ·exact⟨k,h3,hlow k h2,h2,Nat.le_refl _,.inr ⟨h1,rfl⟩⟩
 have hcur: ∀{k k0 v:Nat},(G++ [.arr 0 sz els])[k0]? =G[k]? ->cur G k=some v->cur (G++ [.arr 0 sz els]) k0=some v:=fun{k k0 v} h1 h2=>by
  unfold cur at h2 ⊢; rwa[h1]
 have hlive: ∀c,Live wr (Wb b G.length β1) G c->Live wr β1 (G++ [.arr 0 sz els]) c:=by
  rintro c ⟨k,v,h1,h2,h3⟩
  obtain⟨k0,h4,h5,_,h6,_⟩:=hsrc k v _ h3;exact⟨k0,v,Nat.le_trans h1 h6,hcur h5 h2,h4⟩
 have hv:=ZV (w:=w1) hlive;refine⟨⟨S1.below,fun k v c hk=>?_,fun k v hk=>?_,?_,?_,?_,?_,?_,?_⟩,⟨E.os,E.tape,E.output,E.size,Nat.le_refl _,fun k v x hx=>?_,fun c hc hl=>⟨(E.stay c hc hl).1,fun h2=>(E.stay c hc hl).2 (hlive c h2)⟩,E.shape⟩,hlive,hle⟩
 ·obtain⟨k0,h4,_,h5,_⟩:=hsrc k v _ hk;exact⟨h5,(S1.dom k0 v c h4).2⟩
 ·exact(hsrc k v _ hk).choose_spec.2.2.1
 ·intro k k' v v' c h1 h2 h3 h4;obtain⟨k0,a1,a2,_,_,a3⟩:=hsrc k v _ h3;obtain⟨k1,b1,b2,_,_,b3⟩:=hsrc k' v' _ h4;have:=S1.inj k0 k1 v v' c (hcur a2 h1) (hcur b2 h2) a1 b1;subst this;rcases a3 with⟨a3,a4⟩ | ⟨a3,a4⟩<;>rcases b3 with⟨b3,b4⟩ | ⟨b3,b4⟩
  ·rw[a3,b3]
  ·subst b4;have h5:=(cases_of _ v' _ h4);rcases h5 with⟨h5,_⟩ | ⟨_,h5,_⟩
   ·exact absurd h5 b3
   ·omega
  ·subst a4;have h5:=(cases_of _ v _ h3);rcases h5 with⟨h5,_⟩ | ⟨_,h5,_⟩
   ·exact absurd h5 a3
   ·omega
  ·rw[←a4,←b4]
 ·intro k v z es c h1 h2;obtain⟨k0,h3,h4,_,_,h5⟩:=hsrc k v _ h2;rw[←h4]at h1;obtain⟨h6,h7,h8⟩:=S1.arr k0 v z es c h1 h3;refine⟨h6,h7,(Qtq h8 (n:=G.length) ?_).mono (fun _ _ h=>h) hv hle⟩
  rcases h5 with⟨_,rfl⟩ | ⟨hkb,rfl⟩
  ·rw[hat]at h1; simp at h1; obtain⟨_,_,rfl⟩:=h1; exact hu
  ·have hkl:k0<G.length:=by
     rcases cases_of k0 v _ h2 with⟨h9,_⟩ | ⟨_,h9,_⟩
     ·exact absurd h9 hkb
     ·exact h9
   rw[hlow k0 hkl]at h1;cases h10:β k0 v with
   | none=>
    have:=E.freshv k0 v hkl (fun v0 h11=>by
     have:cur G k0=some v:=by unfold cur; rw[h1]
     rw[this]at h11; injection h11 with h11; omega) h10
    rw[this]at h3; cases h3
   | some y=>
    have h11:=E.beta k0 v y h10;rw[h3]at h11;injection h11 with h11;subst h11;exact QsZ S h1 h10
 ·intro k x v c h1 hcu h2;obtain⟨k0,h3,h4,_⟩:=hsrc k v _ h2;have h5:=S1.oth k0 x v c (h4.trans h1) (hcur h4 hcu) h3;cases x with
  | mp l=>
   obtain⟨es,clock,g1,g2,g3,g4⟩:=h5;refine⟨es,clock,g1,g2,fun i a b hi=>?_,g4⟩
   obtain⟨e,q1,q2,q3,q4,q5,q6⟩:=g3 i a b hi;exact⟨e,q1,q2,q3,(Rel.Ql _ _ q2 q4).to hv (Beta.Le.refl _),(Rel.Ql _ _ q3 q5).to hv (Beta.Le.refl _),q6⟩
  | sit s p=>exact h5
  | buf T s=>exact h5
  | arr v z l=>exact trivial
  | dead v=>exact trivial
  | tyd a b c d=>exact trivial
 ·intro k b1 v T n h1;obtain⟨h2,c,cs,fr,h3,h4,h5⟩:=S.tyd k b1 v T n h1;obtain⟨cs',fr',h6,h7⟩:=E.shape c cs T fr h4;have hk:=WG S h3;exact⟨h2,c,cs',fr',hle b1 v _ (by unfold XK; rw[if_pos hk]; exact E.beta b1 v _ h3),h6,h7.trans h5⟩
 ·intro k v v0 h1 h2;cases h3:Wb b G.length β1 k v with
  | none=>rfl
  | some x=>
   obtain⟨k0,h4,h5,_⟩:=hsrc k v x h3;have:=S1.old k0 v v0 (hcur h5 h1) h2;rw[h4]at this; cases this
 ·intro k v v0 h1 h2;cases h3:Wb b G.length β1 k v with
  | none=>rfl
  | some x=>
   obtain⟨k0,h4,h5,_⟩:=hsrc k v x h3;rw[←h5]at h1;have:=S1.oldd k0 v v0 h1 h2;rw[h4]at this; cases this
 ·have hk:=WG S hx;exact hle k v x (by unfold XK; rw[if_pos hk]; exact E.beta k v x hx)
end
end Go.Avm
namespace Go.Avm
open Go.RowKit
def O.Qba:O->List Nat
 | .t n=>[n]
 | .k _=>[]
def I.QY:I->List O
 | .mv x | .box _ x | .ld _ _ x | .nilc x | .un _ x | .conv _ x | .fadr _ x | .fld _ _ _ x | .tupx x _ | .rng x | .nxt x | .len _ x | .boxt _ _ _ _ x | .uns _ x | .sdat x=>[x]
 | .own0 _=>[]
 | .pick c a b=>[c,a,b]
 | .build _ ps=>ps.map fun p=>p.2.2
 | .bsl _ _ _ ps=>ps.map fun p=>p.2
 | .st _ x v=>[x,v]
 | .bin _ x y | .eqk _ _ x y | .idxa _ x y | .idx x y | .idxp _ _ x y | .idxv _ _ _ x y | .app _ _ _ x y | .mnx _ x y | .mks _ _ _ x y | .ustr _ x y | .appb _ _ x y=>[x,y]
 | .mkfn _ _ l=>l
 | .slc _ x lo hi mx=>[x]++lo.toList++hi.toList++mx.toList
 | .call _ l=>l
 | .callv _ f l=>f::l
def I.Qba(i:I):List Nat:=i.QY.flatMap O.Qba
section
variable {e e' : Env} {call : Xt} {fpol : FuncId -> Option Pol} {base ws : Nat} {h h' : H} {u : AV}
theorem QdH {x:O}(hs: ∀n∈x.Qba,e.get n=e'.get n):x.val e=x.val e':=by
 cases x with
 | t n=>exact hs n (by simp[O.Qba])
 | k v=>rfl
theorem QbW : ∀{l:List O},(∀x∈l,x.val e=x.val e')->Qbd e l=Qbd e' l
 | [],_=>rfl
 | x::l,hs=>by
  simp only[Avm.Qbd,hs x (by simp),QbW (l:=l) fun y hy=>hs y (by simp[hy])]
theorem Qea : ∀{l:List (Nat×Nat×O)},(∀p∈l,p.2.2.val e=p.2.2.val e')->partsOf e l=partsOf e' l
 | [],_=>rfl
 | (i,j,x)::l,hs=>by
  have h1:x.val e=x.val e':=hs (i,j,x) (by simp)
  simp only[Avm.partsOf,h1,Qea (l:=l) fun y hy=>hs y (by simp[hy])]
theorem QkH {sz:Nat}: ∀{l:List (Nat×O)} {els:List AV} {hh:H},(∀p∈l,p.2.val e=p.2.val e')->QS base e sz l els hh=QS base e' sz l els hh
 | [],_,_,_=>rfl
 | (i,x)::l,els,hh,hs=>by
  have h1:x.val e=x.val e':=hs (i,x) (by simp)
  simp only[Avm.QS,h1];cases x.val e' with
  | none=>rfl
  | some v=>
   dsimp only;cases frz base deep v hh with
   | none=>rfl
   | some p=>
    dsimp only;split
    ·exact QkH fun y hy=>hs y (by simp[hy])
    ·rfl
theorem Qbw {x:Option O}(hs: ∀y,x=some y->y.val e=y.val e'):Jp e x=Jp e' x:=by
 cases x with
 | none=>rfl
 | some y=>simp only[Avm.Jp,hs y rfl]
theorem Qsi {i:I}(hs: ∀n∈i.Qba,e.get n=e'.get n): ∀x∈i.QY,x.val e=x.val e':=fun x hx=>QdH fun n hn=>hs n (List.mem_flatMap.2 ⟨x,hx,hn⟩)
theorem QlI {i:I}(hs: ∀x∈i.QY,x.val e=x.val e')(hh:H):evI base ws e hh i=evI base ws e' hh i:=by
 cases i with
 | build zero ps=>simp only[evI,Qea (e:=e) (e':=e') (l:=ps) fun p hp=>hs _ (List.mem_map.2 ⟨p,hp,rfl⟩)]
 | bsl sz n zero ps=>simp only[evI,QkH (e:=e) (e':=e') (l:=ps) fun p hp=>hs _ (List.mem_map.2 ⟨p,hp,rfl⟩)]
 | mkfn f k l=>simp only[evI,QbW (e:=e) (e':=e') (l:=l) hs]
 | slc k x lo hi mx=>
  simp only[evI,hs x (by simp[I.QY]),Qbw (e:=e) (e':=e') (x:=lo) fun y hy=>hs y (by simp[I.QY,hy]),Qbw (e:=e) (e':=e') (x:=hi) fun y hy=>hs y (by simp[I.QY,hy]),
   Qbw (e:=e) (e':=e') (x:=mx) fun y hy=>hs y (by simp[I.QY,hy])]
 | call f l=>rfl
 | callv pu f l=>rfl
 | own0 sz=>rfl
 | pick c a b=>
  simp only[evI,hs c (by simp[I.QY])]
  split
  ·rename_i t _;cases t
   ·simp only[Bool.false_eq_true,if_false,hs b (by simp[I.QY])]
   ·simp only[if_true,hs a (by simp[I.QY])]
  ·rfl
 | mv x=>simp only[evI,hs x (by simp[I.QY])]
 | box _ x=>simp only[evI,hs x (by simp[I.QY])]
 | ld _ _ x=>simp only[evI,hs x (by simp[I.QY])]
 | nilc x=>simp only[evI,hs x (by simp[I.QY])]
 | un _ x=>simp only[evI,hs x (by simp[I.QY])]
 | conv _ x=>simp only[evI,hs x (by simp[I.QY])]
 | fadr _ x=>simp only[evI,hs x (by simp[I.QY])]
 | fld _ _ _ x=>simp only[evI,hs x (by simp[I.QY])]
 | tupx x _=>simp only[evI,hs x (by simp[I.QY])]
 | rng x=>simp only[evI,hs x (by simp[I.QY])]
 | nxt x=>simp only[evI,hs x (by simp[I.QY])]
 | len _ x=>simp only[evI,hs x (by simp[I.QY])]
 | boxt _ _ _ _ x=>simp only[evI,hs x (by simp[I.QY])]
 | uns _ x=>simp only[evI,hs x (by simp[I.QY])]
 | sdat x=>simp only[evI,hs x (by simp[I.QY])]
 | ustr _ x y=>simp only[evI,hs x (by simp[I.QY]),hs y (by simp[I.QY])]
 | appb _ _ x y=>simp only[evI,hs x (by simp[I.QY]),hs y (by simp[I.QY])]
 | st _ x y=>simp only[evI,hs x (by simp[I.QY]),hs y (by simp[I.QY])]
 | bin _ x y=>simp only[evI,hs x (by simp[I.QY]),hs y (by simp[I.QY])]
 | eqk _ _ x y=>simp only[evI,hs x (by simp[I.QY]),hs y (by simp[I.QY])]
 | idxa _ x y=>simp only[evI,hs x (by simp[I.QY]),hs y (by simp[I.QY])]
 | idx x y=>simp only[evI,hs x (by simp[I.QY]),hs y (by simp[I.QY])]
 | idxp _ _ x y=>simp only[evI,hs x (by simp[I.QY]),hs y (by simp[I.QY])]
 | idxv _ _ _ x y=>simp only[evI,hs x (by simp[I.QY]),hs y (by simp[I.QY])]
 | app _ _ _ x y=>simp only[evI,hs x (by simp[I.QY]),hs y (by simp[I.QY])]
 | mnx _ x y=>simp only[evI,hs x (by simp[I.QY]),hs y (by simp[I.QY])]
 | mks _ _ _ x y=>simp only[evI,hs x (by simp[I.QY]),hs y (by simp[I.QY])]
theorem Qjc {i:I}(hs: ∀x∈i.QY,x.val e=x.val e')(hh:H):XE call fpol base ws e hh i=XE call fpol base ws e' hh i:=by
 cases i with
 | call f l=>simp only[XE,QbW (e:=e) (e':=e') (l:=l) hs]
 | callv pu f l=>simp only[XE,hs f (by simp[I.QY]),QbW (e:=e) (e':=e') (l:=l) fun y hy=>hs y (by simp[I.QY,hy])]
 | _=>exact QlI (base:=base) (ws:=ws) hs hh
inductive Kd where
 | free
 | read (x:O)
 | birth
 | call
 | touch (x:Option O)
 | ecall
def O.same:O->O->Bool
 | .t n,.t m=>n == m
 | _,_=>false
def QnC (dyn:List Dyn)(x:O):Bool:=match x with
 | .k v=>v.pure
 | x=>dyn.any fun d=>match d with | .pur y=>O.same x y | _=>false
def kindOf (pf:FuncId->Bool)(dyn:List Dyn):I->Kd
 | .mv _ | .pick .. | .build .. | .nilc _ | .bin .. | .eqk .. | .un .. | .mkfn .. | .fadr .. | .fld .. | .idxa .. | .idx .. | .idxp .. | .idxv .. | .tupx .. | .len .. | .mnx .. | .sdat _=>.free
 | .ld _ _ x=>.read x
 | .slc k x _ _ _=>(match k with | .str=>.free | .sl _=>.read x)
 | .conv c x=>(match c with | .intk _ | .same=>.free | .b2s=>.read x | .s2b=>.touch none)
 | .box .. | .own0 _=>.birth
 | .bsl _ _ _ ps=>if ps.all (fun p=>QnC dyn p.2)=true then .birth else .touch none
 | .st _ x _=>.touch (some x)
 | .app _ _ _ x _=>.touch (some x)
 | .mks .. | .rng _ | .nxt _ | .boxt .. | .uns .. | .ustr .. | .appb ..=>.touch none
 | .call f _=>if pf f=true then .call else .ecall
 | .callv pu _ _=>if pu=true then .call else .ecall
theorem QhT {pf:FuncId->Bool}{dyn:List Dyn}{i:I}(hk:kindOf pf dyn i= .free)(ev:evI base ws e h i=some (u,h')):h'=h/\ ∀g,evI base ws e g i=some (u,g):=by
 cases i with
 | slc k x lo hi mx=>
  cases k with
  | sl sz=>simp[kindOf]at hk
  | str=>
   simp only[evI]at ev ⊢;split at ev
   ·split at ev
    ·simp at ev; obtain⟨rfl,rfl⟩:=ev;rename_i h1;refine⟨rfl,fun g=>?_⟩
     simp only[QdL]at h1 ⊢;rw[h1]
    ·cases ev
   ·cases ev
 | conv c x=>
  cases c<;>simp[kindOf]at hk
  all_goals
   simp only[evI]at ev ⊢
   repeat' split at ev
   all_goals first
    | (cases ev; done)
    | (simp at ev; obtain⟨rfl,rfl⟩:=ev; exact⟨rfl,fun g=>by simp_all⟩)
    | (simp_all; done)
 | mnx b x y=>
  simp only[evI]at ev ⊢;split at ev
  ·rename_i h1 h2;simp at ev; obtain⟨rfl,rfl⟩:=ev;exact⟨rfl,fun g=>by simp only[h1,h2]⟩
  ·cases ev
 | call f l=>simp only[kindOf]at hk; split at hk<;>cases hk
 | callv pu f l=>simp only[kindOf]at hk; split at hk<;>cases hk
 | bsl sz n zero ps=>simp only[kindOf]at hk; split at hk<;>cases hk
 | boxt _ _ _ _ _=>simp[kindOf]at hk
 | uns _ _=>simp[kindOf]at hk
 | ustr _ _ _=>simp[kindOf]at hk
 | appb _ _ _ _=>simp[kindOf]at hk
 | ld _ _ _=>simp[kindOf]at hk
 | st _ _ _=>simp[kindOf]at hk
 | app _ _ _ _ _=>simp[kindOf]at hk
 | box _ _=>simp[kindOf]at hk
 | own0 _=>simp[kindOf]at hk
 | mks _ _ _ _ _=>simp[kindOf]at hk
 | rng _=>simp[kindOf]at hk
 | nxt _=>simp[kindOf]at hk
 | _=>
  simp only[evI]at ev ⊢
  repeat' split at ev
  all_goals first
   | (cases ev; done)
   | (simp at ev; obtain⟨rfl,rfl⟩:=ev; exact⟨rfl,fun g=>by simp_all⟩)
end
end Go.Avm
namespace Go.Avm
open Go.RowKit
section
variable {e : Env} {base ws : Nat} {h h' : H} {u : AV} {pf : FuncId -> Bool} {dyn : List Dyn}
theorem QjW {g:H}{b ver sz off len:Nat}(hs:g[b]? =h[b]?):look g b ver sz off len=look h b ver sz off len:=by unfold look; rw[hs]
theorem QlX {g:H}{v:AV}(hs: ∀b,XD v=some b->g[b]? =h[b]?):Yg g v=Yg h v:=by
 cases v with
 | ptr b ver sz i o=>simp only[Yg,hs b rfl]
 | _=>rfl
theorem QpS {g:H}{v:AV}(hs: ∀b,XD v=some b->g[b]? =h[b]?):Zv g v=Zv h v:=by
 cases v with
 | osl b ver sz off len=>simp only[Zv,QjW (hs b rfl)]
 | _=>rfl
theorem QrG {g:H}{k:SlK}{v:AV}{lo hi mx:Option AV}(hs: ∀b,XD v=some b->g[b]? =h[b]?):QdL g k v lo hi mx=QdL h k v lo hi mx:=by
 cases k with
 | str=>rfl
 | sl sz=>
  cases v with
  | osl b ver sz' off len=>simp only[QdL,QjW (hs b rfl)]
  | _=>rfl
theorem Qhx {i:I}{x:O}(hk:kindOf pf dyn i= .read x)(ev:evI base ws e h i=some (u,h')):
    h'=h/\x∈i.QY/\ ∀g,(∀v b,x.val e=some v->XD v=some b->g[b]? =h[b]?)->evI base ws e g i=some (u,g):=by
 cases i with
 | ld sz ag y=>
  simp only[kindOf,Kd.read.injEq]at hk; subst hk;simp only[evI]at ev ⊢;split at ev
  ·rename_i v hv;split at ev
   ·rename_i l hl;split at ev
    ·rename_i r hr;simp at ev; obtain⟨rfl,rfl⟩:=ev;refine⟨rfl,by simp[I.QY],fun g hg=>?_⟩
     try simp only[hv]
     rw[QlX fun b hb=>hg v b hv hb,hl]
     simp only[hr]
    ·cases ev
   ·cases ev
  ·cases ev
 | slc k y lo hi mx=>
  cases k with
  | str=>simp[kindOf]at hk
  | sl sz=>
   simp only[kindOf,Kd.read.injEq]at hk; subst hk;simp only[evI]at ev ⊢;split at ev
   ·rename_i v l r m hv h1 h2 h3;split at ev
    ·rename_i w hw;simp at ev; obtain⟨rfl,rfl⟩:=ev;refine⟨rfl,by simp[I.QY],fun g hg=>?_⟩
     rw[QrG fun b hb=>hg v b hv hb,hw]
    ·cases ev
   ·cases ev
 | conv c y=>
  cases c with
  | b2s=>
   simp only[kindOf,Kd.read.injEq]at hk; subst hk;simp only[evI]at ev ⊢;split at ev
   ·rename_i v hv;refine⟨?_,by simp[I.QY],fun g hg=>?_⟩
    ·repeat' split at ev
     all_goals first
      | (cases ev; done)
      | (simp at ev; exact ev.2.symm)
      | (simp_all; done)
    ·have hels:Zv g v=Zv h v:=QpS fun b hb=>hg v b hv hb
     try simp only[hv]
     rw[hels]
     repeat' split at ev
     all_goals first
      | (cases ev; done)
      | (simp at ev; obtain⟨rfl,rfl⟩:=ev; simp only[*]; done)
      | (simp_all; done)
   ·cases ev
  | intk k=>simp[kindOf]at hk
  | same=>simp[kindOf]at hk
  | s2b=>simp[kindOf]at hk
 | call f l=>simp only[kindOf]at hk; split at hk<;>cases hk
 | callv pu f l=>simp only[kindOf]at hk; split at hk<;>cases hk
 | bsl sz n zero ps=>simp only[kindOf]at hk; split at hk<;>cases hk
 | _=>simp[kindOf]at hk
theorem QfF {sz:Nat}: ∀{ps:List (Nat×O)} {els els':List AV},(∀p∈ps,∀v,p.2.val e=some v->v.pure=true)->QS base e sz ps els h=some (els',h')->
    h'=h/\(∀g,QS base e sz ps els g=some (els',g))/\ ∀n,Qj n els=true->Qj n els'=true
 | [],els,els',_,ev=>by
  simp[QS]at ev;obtain⟨rfl,rfl⟩:=ev;exact⟨rfl,fun g=>rfl,fun _ h=>h⟩
 | (i,x)::r,els,els',hp,ev=>by
  unfold QS at ev;split at ev
  ·rename_i v hv;have hpv:=hp (i,x) (by simp) v hv
   have hf: ∀g,frz base deep v g=some (v,g):=fun g=>by unfold deep frz; rw[if_pos hpv]
   rw[hf]at ev;dsimp only at ev;split at ev
   ·rename_i hc;obtain⟨h1,h2,h3⟩:=QfF (fun p hp'=>hp p (by simp[hp'])) ev
    refine⟨h1,fun g=>?_,fun n hn=>h3 n ?_⟩
    ·unfold QS;rw[hv];dsimp only;rw[hf];dsimp only;rw[if_pos hc];exact h2 g
    ·rw[Xc]at hn ⊢;intro y hy;rcases List.mem_or_eq_of_mem_set hy with hy | rfl
     ·exact hn y hy
     ·exact QaE n _ hpv
   ·cases ev
  ·cases ev
variable {P : Program} {o : Oper} {a : Act} {V : View} {β : Beta}
theorem Qtp {i:I}{L:Nat}(hop:Zg P o.op o.type i=true)(hk:kindOf pf dyn i= .birth)(hE:Qo V β e a.tmps)(hdom: ∀b v x,β b v=some x->b<L)
    (hp: ∀x∈i.QY,QnC dyn x=true-> ∀v,x.val e=some v->v.pure=true) (ev:evI base ws e h i=some (u,h')):
    ∃sz els,h'=h++ [.arr 0 sz els]/\Qj L els=true/\ ∀g,∃ug,evI base ws e g i=some (ug,g++ [.arr 0 sz els])/\
     ∀(V':View) (β1 β2:Beta) (v:Value),(∀ver,β2 h.length ver=β1 g.length ver)->Rel V' β1 ug v->Rel V' β2 u v:=by
 cases i with
 | own0 sz=>
  simp only[evI,Option.some.injEq,Prod.mk.injEq]at ev ⊢;obtain⟨rfl,rfl⟩:=ev;refine⟨sz,[],rfl,rfl,fun g=>⟨_,⟨rfl,rfl⟩,fun V' β1 β2 v hb hr=>?_⟩⟩
  unfold Rel at hr ⊢;rw[hb]; exact hr
 | box sz y=>
  simp only[evI]at ev ⊢;split at ev
  ·rename_i v hv;split at ev
   ·rename_i hc;simp at ev; obtain⟨rfl,rfl⟩:=ev;refine⟨sz,[v],rfl,?_,fun g=>⟨_,by rw[if_pos hc],fun V' β1 β2 v hb hr=>?_⟩⟩
    ·have hr: ∃w,Rel V β v w:=by
       simp only[Zg]at hop;split at hop
       ·exact⟨_,Qf hE hop hv⟩
       ·split at hop
        ·obtain⟨zv,_,_,hz⟩:=Jm hop;simp only[O.val]at hv;injection hv with hv;subst hv;exact⟨zv,hz _ _⟩
        ·cases hop
       ·cases hop
     obtain⟨w,hr⟩:=hr;simp[Qj,Rel.Qm hdom _ _ hr]
    ·unfold Rel at hr ⊢;rw[hb]; exact hr
   ·cases ev
  ·cases ev
 | bsl sz n zero ps=>
  simp only[kindOf]at hk;split at hk
  ·rename_i hall;simp only[evI]at ev ⊢;split at ev
   ·rename_i els h1 hb1;simp at ev; obtain⟨rfl,rfl⟩:=ev;obtain⟨rfl,h2,h3⟩:=QfF (fun p hp' v hv=>hp p.2 (List.mem_map.2 ⟨p,hp',rfl⟩) (List.all_eq_true.1 hall p hp') v hv) hb1
    refine⟨sz,els,rfl,h3 L ?_,fun g=>⟨_,by rw[h2 g],fun V' β1 β2 v hb hr=>?_⟩⟩
    ·simp only[Zg]at hop;split at hop
     ·split at hop
      ·simp only[Bool.and_eq_true]at hop;obtain⟨zv,_,_,hz⟩:=Jm hop.1.1.1.1.1.2;rw[Xc];intro y hy;rw[List.eq_of_mem_replicate hy];exact Rel.Qm hdom _ _ (hz V β)
      ·cases hop
     ·cases hop
    ·unfold Rel at hr ⊢;rw[hb]; exact hr
   ·cases ev
  ·cases hk
 | slc k y lo hi mx=>cases k<;>simp[kindOf]at hk
 | conv c y=>cases c<;>simp[kindOf]at hk
 | call f l=>simp only[kindOf]at hk; split at hk<;>cases hk
 | callv pu f l=>simp only[kindOf]at hk; split at hk<;>cases hk
 | _=>simp[kindOf]at hk
end
end Go.Avm
