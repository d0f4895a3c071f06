/- Calls of calls. -/
import Derived.Test.YtflbneepngjglaaGreatDoorO16
set_option linter.all false
namespace Go.Avm
open Go.RowKit
section
variable {P : Program} {w0 wst w : World} {wr : Nat} {β0 β : Beta} {h0 h h1 : H}
theorem Qbr : ∀{acc:List (Nat×Nat)} {bs:List Qq},QaB h acc=some bs->bs.length=acc.length/\ ∀(i:Nat) (p:Nat×Nat),acc[i]? =some p-> ∃z els,h[p.1]? =some (Qq.arr p.2 z els)/\bs[i]? =some (Qq.arr 0 z els)
 | [],bs,e=>by simp[QaB]at e; subst e; simp
 | (b,ver)::l,bs,e=>by
  unfold QaB at e;split at e
  ·rename_i v z els r hb hr;split at e
   ·rename_i hv;subst hv;injection e with e; subst e;obtain⟨h1,h2⟩:=Qbr hr;refine⟨by simp[h1],fun i p hp=>?_⟩
    cases i with
    | zero=>simp at hp; subst hp; exact⟨z,els,hb,by simp⟩
    | succ i=>simpa using h2 i p (by simpa using hp)
   ·cases e
  ·cases e
theorem QwY (S0:Sim w0 wr β0 h0 wst)(E:Ext wr β0 h0 wst β h w)(hlen:h1.length=h.length)(hcur: ∀k v,cur h1 k=some v->cur h k=some v)(S:Sim w0 wr β h1 w)(K:Za h0.length h0 h1)
    {k v sz c:Nat} {els:List AV} (hk:k<h0.length) (hb:h1[k]? =some (Qq.arr v sz els)) (hβ:β k v=some (some c)):BE (rdw w) (view wr β h1 w) (XK h0.length β) c 0 sz els:=by
 have hu1:Qj h0.length els=true:=by
  rcases K.2 k hk v sz els hb with⟨els0,h2,hl,hu⟩ | ⟨hu,_⟩
  rotate_left
  ·exact hu _ hk
  have hc0:cur h0 k=some v:=by unfold cur; rw[h2]
  have hβ0:β0 k v=some (some c):=by
   cases h3:β0 k v with
   | none=>
    have:=E.freshv k v hk (fun v0 h4=>by rw[hc0]at h4; injection h4 with h4; omega) h3
    rw[hβ]at this; cases this
   | some y=>have:=E.beta k v y h3; rw[hβ]at this; rw[this]
  have hdom: ∀b v x,β0 b v=some x->b<h0.length:=fun b v x hx=>by
   cases x with
   | none=>exact S0.domv b v hx
   | some c=>exact(S0.dom b v c hx).1
  obtain⟨_,_,hbe0⟩:=S0.arr k v sz els0 c h2 hβ0
  have hu0:Qj h0.length els0=true:=by
   rw[Xc];intro x hx;obtain⟨i,hi,rfl⟩:=List.mem_iff_getElem.1 hx;have:=(hbe0 i els0[i] (by simp)).2
   rw[←Yi,Xc];intro y hy;obtain⟨j,hj,rfl⟩:=List.mem_iff_getElem.1 hy;obtain⟨u,_,hr⟩:=this j _ (List.getElem?_eq_getElem hj)
   exact Rel.Qm hdom _ _ hr
  exact hu _ hk hu0
 obtain⟨_,_,hbe⟩:=S.arr k v sz els c hb hβ;intro i x hx;obtain⟨h5,h6⟩:=hbe i x hx;refine⟨h5,fun j y hy=>?_⟩
 obtain⟨u,h7,h8⟩:=h6 j y hy;have hxu:x.under h0.length=true:=Xc.1 hu1 x (List.mem_of_getElem? hx);rw[←Yi,Xc]at hxu;exact⟨u,h7,Rel.narrow _ _ (hxu y (List.mem_of_getElem? hy)) h8⟩
theorem Qxp {acc:List (Nat×Nat)}{bs:List Qq}(S0:Sim w0 wr β0 h0 wst)(E:Ext wr β0 h0 wst β h w)(hwr:wr<=h0.length)(G:Yx w0 wr h0.length β w h acc h1)(K:Za h0.length h0 h1)(hr:QaB h1 acc=some bs):
    Sim w0 wr (Zt h0.length β acc) (h1.take h0.length++bs) w/\(∀c,Live wr (Zt h0.length β acc) (h1.take h0.length++bs) c->Live wr β h1 c)/\Ext wr β0 h0 wst (Zt h0.length β acc) (h1.take h0.length++bs) w:=by
 obtain⟨hbl,hbs⟩:=Qbr hr;have hbase:h0.length<=h1.length:=K.1;have htl:(h1.take h0.length).length=h0.length:=by simp; omega
 have hlow: ∀k,k<h0.length->(h1.take h0.length++bs)[k]? =h1[k]?:=fun k hk=>by
  rw[List.getElem?_append_left (by omega),List.getElem?_take,if_pos hk]
 have hhigh: ∀k,¬k<h0.length->(h1.take h0.length++bs)[k]? =bs[k-h0.length]?:=fun k hk=>by
  rw[List.getElem?_append_right (by omega),htl]
 have gl: ∀k v,k<h0.length->Zt h0.length β acc k v=β k v:=fun k v hk=>by unfold Zt; rw[if_pos hk]
 have src: ∀k v,cur (h1.take h0.length++bs) k=some v-> ∃k0 v0,cur h1 k0=some v0/\Zt h0.length β acc k v=β k0 v0/\((k<h0.length/\k0=k)\/(¬k<h0.length/\acc[k-h0.length]? =some (k0,v0))):=by
  intro k v hc;by_cases hk:k<h0.length
  ·unfold cur at hc;rw[hlow k hk]at hc;exact⟨k,v,hc,gl k v hk,.inl ⟨hk,rfl⟩⟩
  ·unfold cur at hc;rw[hhigh k hk]at hc
   have hlt:k-h0.length<acc.length:=by
    rcases Nat.lt_or_ge (k-h0.length) bs.length with h2 | h2
    ·omega
    ·rw[List.getElem?_eq_none h2]at hc; cases hc
   obtain⟨z,els,h2,h3⟩:=hbs (k-h0.length) acc[k-h0.length] (List.getElem?_eq_getElem hlt)
   rw[h3]at hc;simp at hc; subst hc;refine⟨acc[k-h0.length].1,acc[k-h0.length].2,by unfold cur; rw[h2],?_,.inr ⟨hk,List.getElem?_eq_getElem hlt⟩⟩
   unfold Zt;rw[if_neg hk,List.getElem?_eq_getElem hlt]
   simp
 have hlive: ∀c,Live wr (Zt h0.length β acc) (h1.take h0.length++bs) c->Live wr β h1 c:=by
  rintro c ⟨k,v,h2,h3,h4⟩
  obtain⟨k0,v0,h5,h6,h7⟩:=src k v h3;rw[h6]at h4;refine⟨k0,v0,?_,h5,h4⟩
  rcases h7 with⟨_,rfl⟩ | ⟨_,h8⟩
  ·exact h2
  ·exact Nat.le_trans hwr (G.ge _ (List.mem_of_getElem? h8))
 have hv:=ZV (w:=w) hlive
 have some_src: ∀k v x,Zt h0.length β acc k v=some x->(k<h0.length/\β k v=some x)\/(¬k<h0.length/\v=0/\ ∃p,acc[k-h0.length]? =some p/\β p.1 p.2=some x):=by
  intro k v x hx;unfold Zt at hx;split at hx
  ·rename_i hk; exact .inl ⟨hk,hx⟩
  ·rename_i hk;split at hx
   ·rename_i a b hp;split at hx
    ·rename_i hv0; exact .inr ⟨hk,hv0,(a,b),hp,hx⟩
    ·cases hx
   ·cases hx
 have hlen: ∀k,(k<h0.length\/ ∃p,acc[k-h0.length]? =some p)->k<(h1.take h0.length++bs).length:=by
  intro k hk;rw[List.length_append,htl,hbl];rcases hk with hk | ⟨p,hp⟩
  ·omega
  ·have:=(List.getElem?_eq_some_iff.1 hp).1; omega
 have sim:Sim w0 wr (Zt h0.length β acc) (h1.take h0.length++bs) w:=by
  refine⟨G.sim.below,fun k v c hk=>?_,fun k v hk=>?_,?_,?_,?_,?_,?_,?_⟩
  ·rcases some_src k v _ hk with⟨h2,h3⟩ | ⟨h2,_,p,hp,h3⟩
   ·exact⟨hlen k (.inl h2),(G.sim.dom k v c h3).2⟩
   ·exact⟨hlen k (.inr ⟨p,hp⟩),(G.sim.dom p.1 p.2 c h3).2⟩
  ·rcases some_src k v _ hk with⟨h2,h3⟩ | ⟨h2,_,p,hp,h3⟩
   ·exact hlen k (.inl h2)
   ·exact hlen k (.inr ⟨p,hp⟩)
  ·intro k k' v v' c h2 h3 h4 h5;obtain⟨k0,v0,a1,a2,a3⟩:=src k v h2;obtain⟨k0',v0',b1,b2,b3⟩:=src k' v' h3;rw[a2]at h4;rw[b2]at h5;have hkk:=G.sim.inj k0 k0' v0 v0' c a1 b1 h4 h5;subst hkk;rcases a3 with⟨a3,a4⟩ | ⟨a3,a4⟩<;>rcases b3 with⟨b3,b4⟩ | ⟨b3,b4⟩
   ·rw[←a4,←b4]
   ·have:=G.ge _ (List.mem_of_getElem? b4); simp at this; omega
   ·have:=G.ge _ (List.mem_of_getElem? a4); simp at this; omega
   ·have ha:(acc.map (·.1))[k-h0.length]? =some k0:=by rw[List.getElem?_map,a4]; rfl
    have hb:(acc.map (·.1))[k'-h0.length]? =some k0:=by rw[List.getElem?_map,b4]; rfl
    have hlt:=(List.getElem?_eq_some_iff.1 ha).1
    have:=(List.getElem?_inj hlt G.nodup).1 (ha.trans hb.symm)
    omega
  ·intro k v z els c h2 h3;by_cases hk:k<h0.length
   ·rw[hlow k hk]at h2;rw[gl k v hk]at h3;obtain⟨h4,h5,_⟩:=G.sim.arr k v z els c h2 h3;have h6:=QwY S0 E G.len G.cur G.sim K hk h2 h3;exact⟨h4,h5,h6.mono (fun _ _ h=>h) hv (Wp acc)⟩
   ·rw[hhigh k hk]at h2;rcases some_src k v _ h3 with⟨h4,_⟩ | ⟨_,rfl,p,hp,h5⟩
    ·exact absurd h4 hk
    ·obtain⟨z',els',h6,h7⟩:=hbs _ p hp;rw[h2]at h7;simp at h7;obtain⟨rfl,rfl⟩:=h7;obtain⟨h8,h9,_⟩:=G.sim.arr p.1 p.2 z els c h6 h5;exact⟨h8,h9,(G.els p (List.mem_of_getElem? hp) z els c h6 h5).mono (fun _ _ h=>h) hv (Wp acc)⟩
  ·intro k x v c h2 hcu h3;by_cases hk:k<h0.length
   ·unfold cur at hcu;rw[hlow k hk]at h2 hcu;rw[gl k v hk]at h3;have h4:=G.sim.oth k x v c h2 hcu h3;cases x with
    | mp l=>
     obtain⟨es,clock,g1,g2,g3,g4⟩:=h4;refine⟨es,clock,g1,g2,fun i a b hi=>?_,g4⟩
     obtain⟨e,q1,q2,q3,q4,q5,q6⟩:=g3 i a b hi;exact⟨e,q1,q2,q3,(Rel.Ql _ _ q2 q4).to hv (Beta.Le.refl _),(Rel.Ql _ _ q3 q5).to hv (Beta.Le.refl _),q6⟩
    | sit s p=>exact h4
    | buf T s=>exact h4
    | arr v z l=>exact trivial
    | dead v=>exact trivial
    | tyd a b c d=>exact trivial
   ·rw[hhigh k hk]at h2;rcases some_src k v _ h3 with⟨h4,_⟩ | ⟨_,_,p,hp,h5⟩
    ·exact absurd h4 hk
    ·obtain⟨z',els',h6,h7⟩:=hbs _ p hp;rw[h2]at h7; simp at h7; subst h7; exact trivial
  ·intro k b v T n h2;by_cases hk:k<h0.length
   ·rw[hlow k hk]at h2;obtain⟨h4,c,cs,fr,h5,h6,h7⟩:=G.sim.tyd k b v T n h2;exact⟨h4,c,cs,fr,by rw[gl b v (by omega)]; exact h5,h6,h7⟩
   ·rw[hhigh k hk]at h2
    have hlt:k-h0.length<acc.length:=by
     rcases Nat.lt_or_ge (k-h0.length) bs.length with h4 | h4
     ·omega
     ·rw[List.getElem?_eq_none h4]at h2; cases h2
    obtain⟨z',els',h6,h7⟩:=hbs _ _ (List.getElem?_eq_getElem hlt)
    rw[h2]at h7; simp at h7
  ·intro k v v1 h2 h3;by_cases hk:k<h0.length
   ·unfold cur at h2;rw[hlow k hk]at h2;rw[gl k v hk];exact G.sim.old k v v1 h2 h3
   ·unfold Zt;rw[if_neg hk];split
    ·rw[if_neg (by omega)]
    ·rfl
  ·intro k v v1 h2 h3;by_cases hk:k<h0.length
   ·rw[hlow k hk]at h2;rw[gl k v hk];exact G.sim.oldd k v v1 h2 h3
   ·rw[hhigh k hk]at h2
    have hlt:k-h0.length<acc.length:=by
     rcases Nat.lt_or_ge (k-h0.length) bs.length with h4 | h4
     ·omega
     ·rw[List.getElem?_eq_none h4]at h2; cases h2
    obtain⟨z',els',h6,h7⟩:=hbs _ _ (List.getElem?_eq_getElem hlt)
    rw[h2]at h7; simp at h7
 refine⟨sim,hlive,⟨⟨E.os,E.tape,E.output,E.size,by simp; omega,fun b v x hx=>?_,fun c hc hl=>⟨(E.stay c hc hl).1,fun h2=>(E.stay c hc hl).2 (G.live c (hlive c h2))⟩,E.shape⟩,⟨fun b hb hn v=>?_,fun b v hb hc=>?_,fun b v hb hv hn=>?_,fun b hb hn=>?_⟩⟩⟩
 ·have hb:b<h0.length:=by
    cases x with
    | none=>exact S0.domv b v hx
    | some c=>exact(S0.dom b v c hx).1
  rw[gl b v hb];exact E.beta b v x hx
 ·rw[gl b v hb]; exact E.fresh b hb hn v
 ·refine E.ver b v hb (G.cur b v ?_)
  unfold cur at hc ⊢
  rwa[hlow b hb]at hc
 ·rw[gl b v hb]; exact E.freshv b v hb hv hn
 ·rw[hlow b hb]; exact(G.keep b (Nat.lt_of_lt_of_le hb E.len) (E.fresh b hb hn)).trans (E.keep b hb hn)
theorem QuZ {p:Pol}{v r:AV}{x:Value}{h':H}(hp:p≠ .snap)(S0:Sim w0 wr β0 h0 wst)(hwr:wr<=h0.length)(S:Sim w0 wr β h w)(E:Ext wr β0 h0 wst β h w)(K:Za h0.length h0 h)(hr:Rel (view wr β h w) β v x)(e:leave p h0 v h=some (r,h')):
    QiP w0 wr β0 h0 wst r h' x w:=by
 have G0:Yx w0 wr h0.length β w h [] h:=⟨S,fun _ h=>h,rfl,fun _ _ h=>h,fun _ _ _=>rfl,by simp,by simp,by simp⟩
 have keep: ∀{h1:H},h1.length=h.length->(∀k,k<h0.length->h1[k]? =h[k]?)->Za h0.length h0 h1:=fun{h1} hl hs=>⟨by have:=K.1; omega,fun k hk ver sz els hb=>K.2 k hk ver sz els (by rw[←hs k hk]; exact hb)⟩
 have fin: ∀{acc:List (Nat×Nat)} {bs h1:H} {v':AV},Yx w0 wr h0.length β w h acc h1->Za h0.length h0 h1->QaB h1 acc=some bs->Rel (view wr β h1 w) (Zt h0.length β acc) v' x->QiP w0 wr β0 h0 wst v' (h1.take h0.length++bs) x w:=by
  intro acc bs h1 v' G K1 hg hr';obtain⟨S',L',E'⟩:=Qxp S0 E hwr G K1 hg;exact⟨_,S',E',hr'.to (ZV L') (Beta.Le.refl _)⟩
 have own: ∀{r:AV} {h':H},(match Qpv h0.length v [] h with | some (v',acc,h')=>(match QaB h' acc with | some bs=>some (v',h'.take h0.length++bs) | none=>none) | none=>none)=some (r,h')->QiP w0 wr β0 h0 wst r h' x w:=by
  intro r h' e;split at e
  ·rename_i v' acc h1 e1;split at e
   ·rename_i bs hg;simp at e;obtain⟨rfl,rfl⟩:=e;obtain⟨G1,_,_,k1⟩:=QwU hwr h K.1 v [] h v' acc h1 x e1 G0 hr;obtain⟨a1,b1⟩:=QhG _ _ _ _ _ _ _ e1;exact fin G1 (keep a1 b1) hg k1
   ·cases e
  ·cases e
 have frozen: ∀{r:AV} {h':H},(match frz h0.length deep v h with | some (v',h')=>some (v',h'.take h0.length) | none=>none)=some (r,h')->QiP w0 wr β0 h0 wst r h' x w:=by
  intro r h' e;split at e
  ·rename_i v' h1 e1;simp at e;obtain⟨rfl,rfl⟩:=e;obtain⟨S1,E1,n1,_,c1,r1,_⟩:=QhR hwr deep v h v' h1 x e1 S hr;have G1:=G0.frz S1 n1 c1 (Qcp h0.length _ _ _ _ _ e1) E1.keep;obtain⟨a1,b1⟩:=JV _ _ _ _ _ _ e1;have:=fin (bs:=[]) G1 (keep a1 b1) rfl (r1.to (View.Le.refl _) (Wp []))
   rwa[List.append_nil]at this
  ·cases e
 cases p with
 | snap=>exact absurd rfl hp
 | pur b=>cases b with
  | true=>exact own e
  | false=>exact frozen e
 | eff b=>cases b with
  | true=>exact own e
  | false=>exact frozen e
 | raw=>
  simp[leave]at e;obtain⟨rfl,rfl⟩:=e;exact⟨β,S,E,hr⟩
theorem QdN {w':World}(S:Sim w0 wr β h w)(os:w'.os=w.os)(tape:w'.tape=w.tape)(output:w'.output=w.output)(size:w.heap.size<=w'.heap.size)(same: ∀c,c<w.heap.size->w'.heap[c]? =w.heap[c]?):Sim w0 wr β h w'/\Ext wr β h w β h w':=by
 have lt_of: ∀{c:Nat} {x:Obj},w.heap[c]? =some x->c<w.heap.size:=fun{c x} hc=>by
  rcases Nat.lt_or_ge c w.heap.size with h1 | h1
  ·exact h1
  ·rw[Array.getElem?_eq_none h1]at hc; cases hc
 have E:Ext wr β h w β h w':=⟨⟨os,tape,output,size,Nat.le_refl _,Beta.Le.refl _,fun c hc hl=>⟨same c hc,hl⟩,fun c cs T fr hc=>⟨cs,fr,(same c (lt_of hc)).trans hc,rfl⟩⟩,Fresh.refl _ _⟩
 refine⟨⟨S.below.trans ⟨os,tape,output,size,fun k hk=>same k (Nat.lt_of_lt_of_le hk S.below.size)⟩,fun b v c hb=>?_,S.domv,S.inj,fun b v sz els c hb hβ=>?_,fun b x v c hb hcu hβ=>?_,fun k b v T n hk=>E.tyd (S.tyd k b v T n hk),S.old,S.oldd⟩,E⟩
 ·obtain⟨h1,h2,h3⟩:=S.dom b v c hb;exact⟨h1,h2,Nat.lt_of_lt_of_le h3 size⟩
 ·obtain⟨⟨cs,T,fr,h1,h2⟩,h3,h4⟩:=S.arr b v sz els c hb hβ;have hc:=lt_of h1;refine⟨⟨cs,T,fr,(same c hc).trans h1,h2⟩,fun o ho=>?_,h4.mono (fun p u hp=>?_) E.view (Beta.Le.refl _)⟩
  ·rw[frozen_of_heap (same c hc)];exact h3 o (by rw[ZJ (same c hc)]at ho; exact ho)
  ·unfold rdw at hp ⊢;rw[cell_of_heap (same c hc)]; exact hp
 ·exact(S.oth b x v c hb hcu hβ).mono (same c (S.dom b v c hβ).2.2) E.view (Beta.Le.refl _)
theorem QnM {V V':View}{β β':Beta}{x:AV}{v:Value}(hx:x.flat=true)(hr:Rel V β x v):Rel V' β' x v:=by
 cases x<;>simp[AV.flat]at hx<;>(unfold Rel at hr ⊢; exact hr)
theorem QoY {V V':View}{β β':Beta}{x:AV}{v:Value}(hx:x.scalar=true)(hr:Rel V β x v):Rel V' β' x v:=by
 unfold AV.scalar at hx;split at hx
 ·rename_i l;unfold Rel at hr ⊢;obtain⟨vs,rfl,hr⟩:=hr;obtain⟨h1,h2⟩:=Qp.1 hr;refine⟨vs,rfl,Qp.2 ⟨h1,fun j y hj=>?_⟩⟩
  obtain⟨u,h3,h4⟩:=h2 j y hj;exact⟨u,h3,QnM (List.all_eq_true.1 hx y (List.mem_of_getElem? hj)) h4⟩
 ·exact QnM hx hr
end
def FOk (P:Program)(dchk:Nat->QiQ)(f:FuncId)(F:F):Prop:=
 ∃fn k,P.funcs[f]? =some fn/\fn.name≠ "runtime.NumGoroutine" /\fn.body=some k/\Qaj P fn.ntmps (dchk fn.ntmps) F.code k=true/\QdU P F.res fn.results.toList=true
section
variable {P : Program} {w0 : World} {call : Xt} {lp : QcS} {fpol : FuncId -> Option Pol} {dchk : Nat -> QiQ}
theorem YE {f:FuncId}{fn:Func}{k:Code}(hf:P.funcs[f]? =some fn)(hn:fn.name≠ "runtime.NumGoroutine")(hb:fn.body=some k)(vs:Array Value)(w:World):(callFunc f vs).run P w= .ok (.enter f vs) w:=by
 simp[callFunc,hf,hn,hb]
theorem QsV {f:FuncId}{F:F}{wr ws:Nat}{β:Beta}{h h':H}{w:World}{args:List AV}{vs:Array Value}{r:AV}(hcall:WK P w0 call)(hkeep:Xj call)(hlp:QiN lp)(hdr: ∀n,QmF P w0 call fpol n (dchk n))
    (hF:FOk P dchk f F) (hws:wr<=ws) (hwl:ws<=h.length) (S:Sim w0 wr β h w) (hr:Qr (view wr β h w) β args vs.toList) (ev:evF call lp fpol ws F args h=some (r,h')):QaZ P f vs w (QiP w0 wr β h w r h'):=by
 obtain⟨fn,k,hf,hname,hb,hk,hres⟩:=hF;refine .inl ⟨YE hf hname hb vs w,calls_of_wp hf hb ?_⟩
 unfold evF at ev;split at ev
 ·cases ev
 ·rename_i args' hargs;have hsize:fn.ntmps<=(vs++Array.replicate (fn.ntmps-vs.size) undef).size:=by simp; omega
  cases hev:evC call lp fpol h.length (QcT F.pol ws h.length) F.code (Jt 0 args') h with
  | none=>rw[hev]at ev; simp[finish]at ev
  | some p=>
   obtain⟨x,e2,h2⟩:=p;rw[hev]at ev
   have hend:(x= .normal\/x= .ret)/\ ∃l,Qbq e2 h2 F.res=some l/\leave F.pol h (QfQ l) h2=some (r,h'):=by
    cases x with
    | normal=>
     simp only[finish]at ev;split at ev
     ·rename_i l hl; exact⟨.inl rfl,l,hl,ev⟩
     ·cases ev
    | ret=>
     simp only[finish]at ev;split at ev
     ·rename_i l hl; exact⟨.inr rfl,l,hl,ev⟩
     ·cases ev
    | exit id=>simp[finish]at ev
   obtain⟨hx,l,hl,hleave⟩:=hend;have hmem:=QhV hkeep hlp F.code x (Jt 0 args') e2 h h2 hev (Nat.le_refl _);by_cases hs:F.pol= .snap
   ·rw[hs]at hargs hleave hev;simp only[JZ]at hargs;simp only[leave]at hleave;split at hleave
    ·rename_i hsc;simp at hleave;obtain⟨rfl,rfl⟩:=hleave;have hr':=Qce (QtL S deep) hargs hr;refine Qkp (wr:=h.length) hcall hlp (hdr fn.ntmps) (by simp[QcT]) (Nat.le_refl _) F.code k x _ e2 h h2 β _ w _ hk hsize (Nat.le_refl _) (by simp[QcT]) (QiH hr' _) (Qwt S (Nat.le_refl _)) hev fun a' w' hp=>?_
     obtain⟨⟨β2,S2,E2,hE2⟩,hd,_⟩:=hp;obtain⟨v,h3,h4⟩:=QfV (P:=P) hE2 S2 hres hl;obtain⟨S3,E3⟩:=QdN S E2.os E2.tape E2.output E2.size (fun c hc=>(E2.stay c hc (Qck (Nat.le_refl _) c)).1)
     have post:bodyPost P fn (fun e w'=>∃v,e= .returned v/\QiP w0 wr β h w (QfQ l) h v w') .normal a' w':=⟨hd,v,h3,v,rfl,β,S3,E3,QoY hsc h4⟩
     rcases hx with rfl | rfl<;>exact post
    ·cases hleave
   ·have hargs':args'=args.map norm:=by
      unfold JZ at hargs;split at hargs
      ·rename_i h5; exact absurd h5 hs
      ·simp at hargs; exact hargs.symm
    subst hargs';have hwb:wr<=h.length:=Nat.le_trans hws hwl
    have hws2:wr<=QcT F.pol ws h.length:=by
     unfold QcT; split
     ·exact hws
     ·exact hws
     ·exact hwb
    have hws3:QcT F.pol ws h.length<=h.length:=by
     unfold QcT; split
     ·exact hwl
     ·exact hwl
     ·exact Nat.le_refl _
    refine Qkp hcall hlp (hdr fn.ntmps) hws2 hwb F.code k x _ e2 h h2 β _ w _ hk hsize (Nat.le_refl _) hws3 (QiH (Qsp hr) _) S hev fun a' w' hp=>?_
    obtain⟨⟨β2,S2,E2,hE2⟩,hd,_⟩:=hp;obtain⟨v,h3,h4⟩:=QfV (P:=P) hE2 S2 hres hl;have hg:=QuZ hs S hwb S2 E2 hmem.1 h4 hleave;have post:bodyPost P fn (fun e w'=>∃v,e= .returned v/\QiP w0 wr β h w r h' v w') .normal a' w':=⟨hd,v,h3,v,rfl,hg⟩
    rcases hx with rfl | rfl<;>exact post
theorem QnZ {F:F}{ws:Nat}{h h':H}{args:List AV}{r:AV}(hkeep:Xj call)(hlp:QiN lp)(ev:evF call lp fpol ws F args h=some (r,h')):Qbi h.length ws h h'/\((F.pol= .snap\/ ∃b,F.pol= .pur b)-> ∀k,k<h.length->h'[k]? =h[k]?):=by
 unfold evF at ev;split at ev
 ·cases ev
 ·rename_i args' hargs;cases hev:evC call lp fpol h.length (QcT F.pol ws h.length) F.code (Jt 0 args') h with
  | none=>rw[hev]at ev; simp[finish]at ev
  | some p=>
   obtain⟨x,e2,h2⟩:=p;rw[hev]at ev
   have hend: ∃l,leave F.pol h (QfQ l) h2=some (r,h'):=by
    cases x with
    | normal=>
     simp only[finish]at ev;split at ev
     ·rename_i l hl; exact⟨l,ev⟩
     ·cases ev
    | ret=>
     simp only[finish]at ev;split at ev
     ·rename_i l hl; exact⟨l,ev⟩
     ·cases ev
    | exit id=>simp[finish]at ev
   obtain⟨l,hleave⟩:=hend;have hmem:=Qsw hleave (QhV hkeep hlp F.code x (Jt 0 args') e2 h h2 hev (Nat.le_refl _));refine⟨⟨hmem.1,fun k hk hkw=>hmem.2 k hk ?_⟩,fun hp k hk=>hmem.2 k hk ?_⟩
   ·unfold QcT; split
    ·exact hkw
    ·exact hkw
    ·exact hk
   ·unfold QcT;rcases hp with hp | ⟨b,hp⟩<;>rw[hp]<;>exact hk
end
end Go.Avm
namespace Go.Avm
open Go.RowKit
def noT (t:H):Prop:=∀x∈t,∀b v T n,x≠Qq.tyd b v T n
theorem Yc :noT []:=fun x hx=>by cases hx
theorem Qpy {a b:H}(ha:noT a)(hb:noT b):noT (a++b):=fun x hx=>(List.mem_append.1 hx).elim (ha x) (hb x)
theorem Qgu (v sz:Nat)(els:List AV):noT [.arr v sz els]:=fun x hx b v T n=>by simp at hx; subst hx; simp
def JM (call:Xt)(fpol:FuncId->Option Pol):Prop:=∀ws f args h r h',(fpol f=some .snap\/ ∃b,fpol f=some (.pur b))->call ws f args h=some (r,h')-> ∃t,h'=h++t/\noT t
def Qru (P:Program)(w0:World)(fpol:FuncId->Option Pol)(dchk:Nat->QiQ):Prop:=∀call,WK P w0 call->Xj call->JM call fpol-> ∀n,QmF P w0 call fpol n (dchk n)
def Qey (P:Program)(w0:World)(f:FuncId)(x:List AV->H->Option (AV×H)):Prop:=
 (∀args h r h',x args h=some (r,h')-> ∃t,h'=h++t/\noT t)/\
 ∀(args:List AV) (h:H) (r:AV) (h':H) (wr:Nat) (β:Beta) (w:World) (vs:Array Value),x args h=some (r,h')->wr<=h.length->Sim w0 wr β h w->Qr (view wr β h w) β args vs.toList->QaZ P f vs w (QiP w0 wr β h w r h')
structure Qrv (P:Program) (w0:World) (dchk:Nat->QiQ) (cfg:Cfg):Prop where
 fn: ∀f F,cfg.ext f=none->cfg.fn f=some F->FOk P dchk f F
 ext: ∀f x,cfg.ext f=some x->Qey P w0 f x
 draw:Qru P w0 cfg.pol dchk
theorem grown {h h':H}(hl:h.length<=h'.length)(hs: ∀k,k<h.length->h'[k]? =h[k]?): ∃t,h'=h++t:=by
 refine⟨h'.drop h.length,?_⟩
 have:h=h'.take h.length:=by
  apply List.ext_getElem?
  intro k;rw[List.getElem?_take]
  split
  ·rename_i hk; exact(hs k hk).symm
  ·rename_i hk; exact List.getElem?_eq_none (by omega)
 calc h'=h'.take h.length++h'.drop h.length:=(List.take_append_drop _ _).symm
  _=h++h'.drop h.length:=by rw[←this]
theorem QhN {p:Pol}{h0 h h':H}{v r:AV}(e:leave p h0 v h=some (r,h'))(hp:p= .snap\/ ∃b,p= .pur b)(hl:h0.length<=h.length):noT (h'.drop h0.length):=by
 rcases hp with rfl | ⟨b,rfl⟩
 ·simp only[leave]at e;split at e
  ·simp at e; obtain⟨_,rfl⟩:=e; simp; exact Yc
  ·cases e
 ·cases b with
  | false=>
   simp only[leave]at e;split at e
   ·simp at e; obtain⟨_,rfl⟩:=e;rw[List.drop_eq_nil_of_le (by simp; omega)]
    exact Yc
   ·cases e
  | true=>
   simp only[leave]at e;split at e
   ·rename_i v' acc h1 e1;split at e
    ·rename_i bs hg;simp at e; obtain⟨_,rfl⟩:=e;obtain⟨a1,_⟩:=QhG _ _ _ _ _ _ _ e1;rw[List.drop_append_of_le_length (by simp; omega),List.drop_eq_nil_of_le (by simp; omega),List.nil_append]
     obtain⟨q1,q2⟩:=Qbr hg;intro x hx b v T n;obtain⟨i,hi,rfl⟩:=List.mem_iff_getElem.1 hx;obtain⟨z,els,_,q3⟩:=q2 i _ (List.getElem?_eq_getElem (by omega))
     rw[List.getElem?_eq_getElem hi]at q3
     injection q3 with q3;rw[q3]; simp
    ·cases e
   ·cases e
theorem QvB {call:Xt}{lp:QcS}{fpol:FuncId->Option Pol}{F:F}{ws:Nat}{h h':H}{args:List AV}{r:AV}(hkeep:Xj call)(hlp:QiN lp)(ev:evF call lp fpol ws F args h=some (r,h'))(hp:F.pol= .snap\/ ∃b,F.pol= .pur b): ∃t,h'=h++t/\noT t:=by
 obtain⟨k1,k2⟩:=QnZ hkeep hlp ev;obtain⟨t,ht⟩:=grown k1.1.1 (k2 hp);refine⟨t,ht,?_⟩
 have hd:h'.drop h.length=t:=by rw[ht]; simp
 rw[←hd];unfold evF at ev;split at ev
 ·cases ev
 ·rename_i args' hargs;cases hev:evC call lp fpol h.length (QcT F.pol ws h.length) F.code (Jt 0 args') h with
  | none=>rw[hev]at ev; simp[finish]at ev
  | some p=>
   obtain⟨x,e2,h2⟩:=p;rw[hev]at ev;have hl:=(QhV hkeep hlp F.code x (Jt 0 args') e2 h h2 hev (Nat.le_refl _)).1.1;cases x with
   | normal=>
    simp only[finish]at ev;split at ev
    ·exact QhN ev hp hl
    ·cases ev
   | ret=>
    simp only[finish]at ev;split at ev
    ·exact QhN ev hp hl
    ·cases ev
   | exit id=>simp[finish]at ev
theorem WD (n:Nat):QiN (rounds n):=fun _ _ _ _ _ e=>⟨n,e⟩
theorem QvT {P:Program}{w0:World}{dchk:Nat->QiQ}{cfg:Cfg}(C:Qrv P w0 dchk cfg): ∀n,WK P w0 (JB cfg n)/\Xj (JB cfg n)/\JM (JB cfg n) cfg.pol:=by
 intro n
 induction n with
 | zero=>
  refine⟨fun ws f args h r h' wr β w vs e=>?_,fun ws f args h r h' e=>?_,fun ws f args h r h' _ e=>?_⟩<;>simp[JB]at e
 | succ n ih=>
  obtain⟨h1,h2,h3⟩:=ih;have hd:=C.draw _ h1 h2 h3;refine⟨fun ws f args h r h' wr β w vs e hws hwl S hr=>?_,fun ws f args h r h' e=>?_,fun ws f args h r h' hp e=>?_⟩
  ·unfold JB at e;split at e
   ·rename_i x hx; exact(C.ext f x hx).2 args h r h' wr β w vs e (Nat.le_trans hws hwl) S hr
   ·rename_i hx;split at e
    ·rename_i F hF; exact QsV h1 h2 (WD n) hd (C.fn f F hx hF) hws hwl S hr e
    ·cases e
  ·unfold JB at e;split at e
   ·rename_i x hx;obtain⟨t,rfl,_⟩:=(C.ext f x hx).1 _ _ _ _ e;exact⟨.append t (Nat.le_refl _),fun k hk _=>List.getElem?_append_left hk⟩
   ·split at e
    ·exact(QnZ h2 (WD n) e).1
    ·cases e
  ·unfold JB at e;split at e
   ·rename_i x hx; exact(C.ext f x hx).1 _ _ _ _ e
   ·rename_i hx;split at e
    ·rename_i F hF;simp only[Cfg.pol,hx,hF,Option.map_some,Option.some.injEq]at hp;exact QvB h2 (WD n) e hp
    ·cases e
end Go.Avm
