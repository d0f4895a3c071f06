/- Values whose blocks all lie below a bound; heaps whose old blocks get nothing new but pure values. -/
import Derived.Test.YtflbneepngjglaaGreatDoorO04
set_option linter.all false
namespace Go.Avm
open Go.RowKit
section
variable {w0 : World} {wr base : Nat} {β : Beta} {w : World} {h : H}
theorem Rel.to{V V':View}{β β':Beta}(hV:V.Le V')(hβ:β.Le β'){x:AV}{v:Value}(h:Rel V β x v):Rel V' β' x v:=Rel.mono hV hβ x v h
theorem ZV {wr':Nat}{β':Beta}{h':H}(hl: ∀c,Live wr' β' h' c->Live wr β h c):(view wr β h w).Le (view wr' β' h' w):=by
 refine⟨fun c o v hv=>?_,fun c=>Nat.le_refl _⟩
 obtain⟨h1,h2⟩:=QoL hv;exact WN h1 (fun h3=>h2 (hl c h3))
theorem Qws {b ver sz:Nat}{els:List AV}(S:Sim w0 wr β h w)(hc:cur h b=some ver)
    (hnew: ∀c,β b ver=some (some c)->(∃cs T fr,w.heap[c]? =some (.cells cs T fr)/\els.length*sz<=cs.size)/\(∀o,o<(view wr β h w).S c->w.frozen? ⟨c,o,none⟩=false)/\BE (rdw w) (view wr β h w) β c 0 sz els):
    Sim w0 wr β (h.set b (.arr ver sz els)) w/\(∀k v,cur (h.set b (.arr ver sz els)) k=some v->cur h k=some v)/\ ∀c,Live wr β (h.set b (.arr ver sz els)) c->Live wr β h c:=by
 have hb:=QlM hc
 have hcur: ∀k v,cur (h.set b (.arr ver sz els)) k=some v->cur h k=some v:=fun k v hk=>by
  by_cases hkb:k=b
  ·subst hkb;unfold cur at hk;rw[List.getElem?_set_self hb]at hk
   simp at hk; subst hk; exact hc
  ·unfold cur at hk ⊢
   rwa[List.getElem?_set_ne (fun e=>hkb e.symm)]at hk
 have hlive: ∀c,Live wr β (h.set b (.arr ver sz els)) c->Live wr β h c:=fun c ⟨k,v,h1,h2,h3⟩=>⟨k,v,h1,hcur k v h2,h3⟩
 have hv:=ZV (w:=w) hlive;refine⟨⟨S.below,fun k v c hk=>?_,fun k v hk=>?_,?_,?_,?_,?_,?_,?_⟩,hcur,hlive⟩
 ·obtain⟨h1,h2⟩:=S.dom k v c hk; exact⟨by simpa using h1,h2⟩
 ·simpa using S.domv k v hk
 ·exact fun k k' v v' c h1 h2 h3 h4=>S.inj k k' v v' c (hcur k v h1) (hcur k' v' h2) h3 h4
 ·intro k v z es c h1 h2;by_cases hkb:k=b
  ·subst hkb;rw[List.getElem?_set_self hb]at h1
   simp at h1;obtain⟨rfl,rfl,rfl⟩:=h1;obtain⟨h3,h4,h5⟩:=hnew c h2;exact⟨h3,h4,h5.mono (fun _ _ h=>h) hv (Beta.Le.refl _)⟩
  ·rw[List.getElem?_set_ne (fun e=>hkb e.symm)]at h1
   obtain⟨h3,h4,h5⟩:=S.arr k v z es c h1 h2;exact⟨h3,h4,h5.mono (fun _ _ h=>h) hv (Beta.Le.refl _)⟩
 ·intro k x v c h1 hcu h2;by_cases hkb:k=b
  ·subst hkb;rw[List.getElem?_set_self hb]at h1; injection h1 with h1; subst h1; exact trivial
  ·rw[List.getElem?_set_ne (fun e=>hkb e.symm)]at h1
   exact(S.oth k x v c h1 (hcur k v hcu) h2).mono rfl hv (Beta.Le.refl _)
 ·intro k b1 v T n h1;by_cases hkb:k=b
  ·subst hkb;rw[List.getElem?_set_self hb]at h1; simp at h1
  ·rw[List.getElem?_set_ne (fun e=>hkb e.symm)]at h1
   exact S.tyd k b1 v T n h1
 ·intro k v v1 h1 h2;exact S.old k v v1 (hcur k v1 h1) h2
 ·intro k v v1 h1 h2;by_cases hkb:k=b
  ·subst hkb;rw[List.getElem?_set_self hb]at h1; simp at h1
  ·rw[List.getElem?_set_ne (fun e=>hkb e.symm)]at h1
   exact S.oldd k v v1 h1 h2
def Zt (base:Nat)(β:Beta)(acc:List (Nat×Nat)):Beta:=fun b v=>if b<base then β b v else match acc[b-base]? with
 | some (k,ver)=>if v=0 then β k ver else none
 | none=>none
theorem Qvm (acc:List (Nat×Nat))(r:List (Nat×Nat)):(Zt base β acc).Le (Zt base β (acc++r)):=fun b v x hx=>by
 unfold Zt at*;split
 ·rename_i hb; rw[if_pos hb]at hx; exact hx
 ·rename_i hb;rw[if_neg hb]at hx;split at hx
  ·rename_i k ver hk;rw[List.getElem?_append_left (List.getElem?_eq_some_iff.1 hk).1,hk]
   exact hx
  ·cases hx
theorem Wp (acc:List (Nat×Nat)):(XK base β).Le (Zt base β acc):=fun b v x hx=>by
 unfold XK at hx;split at hx
 ·rename_i hb; unfold Zt; rw[if_pos hb]; exact hx
 ·cases hx
structure Yx (w0:World) (wr base:Nat) (β:Beta) (w:World) (h0:H) (acc:List (Nat×Nat)) (h:H):Prop where
 sim:Sim w0 wr β h w
 live: ∀c,Live wr β h c->Live wr β h0 c
 len:h.length=h0.length
 cur: ∀k v,cur h k=some v->cur h0 k=some v
 keep: ∀b,b<h0.length->(∀v,β b v=none)->h[b]? =h0[b]?
 ge: ∀p∈acc,base<=p.1
 nodup:(acc.map (·.1)).Nodup
 els: ∀p∈acc,∀sz els c,h[p.1]? =some (.arr p.2 sz els)->β p.1 p.2=some (some c)->BE (rdw w) (view wr β h w) (XK base β) c 0 sz els
def Qrt (w0:World)(wr base:Nat)(β:Beta)(w:World)(h0:H)(f:AV->List (Nat×Nat)->H->Option (AV×List (Nat×Nat)×H)):Prop:=
 ∀v acc h v' acc' h' x,f v acc h=some (v',acc',h')->Yx w0 wr base β w h0 acc h->Rel (view wr β h w) β v x->
  Yx w0 wr base β w h0 acc' h'/\(∀c,Live wr β h' c->Live wr β h c)/\(∃r,acc'=acc++r)/\Rel (view wr β h' w) (Zt base β acc') v' x
theorem Qlt {h0:H}{f:AV->List (Nat×Nat)->H->Option (AV×List (Nat×Nat)×H)}(hf:Qrt w0 wr base β w h0 f): ∀{l:List AV} {acc:List (Nat×Nat)} {h:H} {l':List AV} {acc':List (Nat×Nat)} {h':H} {xs:List Value},
    QiW f l acc h=some (l',acc',h')->Yx w0 wr base β w h0 acc h->Qr (view wr β h w) β l xs->
    Yx w0 wr base β w h0 acc' h'/\(∀c,Live wr β h' c->Live wr β h c)/\(∃r,acc'=acc++r)/\Qr (view wr β h' w) (Zt base β acc') l' xs
 | [],acc,h,l',acc',h',xs,e,G,hr=>by
  simp[QiW]at e;obtain⟨rfl,rfl,rfl⟩:=e;unfold Qr at hr ⊢;exact⟨G,fun _ h=>h,⟨[],by simp⟩,hr⟩
 | v::l,acc,h,l',acc',h',xs,e,G,hr=>by
  unfold QiW at e;split at e
  ·rename_i v1 acc1 h1 e1;split at e
   ·rename_i l2 acc2 h2 e2;simp at e;obtain⟨rfl,rfl,rfl⟩:=e;unfold Qr at hr;obtain⟨x,r,rfl,hx,hr⟩:=hr;obtain⟨G1,L1,⟨r1,q1⟩,k1⟩:=hf v acc h v1 acc1 h1 x e1 G hx;obtain⟨G2,L2,⟨r2,q2⟩,k2⟩:=Qlt hf e2 G1 (Qr.mono (ZV L1) (Beta.Le.refl _) _ _ hr);refine⟨G2,fun c hc=>L1 c (L2 c hc),⟨r1++r2,by rw[q2,q1,List.append_assoc]⟩,?_⟩
    unfold Qr;exact⟨x,r,rfl,Rel.mono (ZV L2) (by rw[q2]; exact Qvm _ _) _ _ k1,k2⟩
   ·cases e
  ·cases e
theorem Yx.frz{h0:H}{acc:List (Nat×Nat)}{h':H}(G:Yx w0 wr base β w h0 acc h)(S:Sim w0 wr β h' w)(hl:h'.length=h.length)(hc: ∀k v,Avm.cur h' k=some v->Avm.cur h k=some v)
    (hk: ∀(k ver sz:Nat) (els:List AV),h'[k]? =some (Qq.arr ver sz els)->h[k]? =some (Qq.arr ver sz els)) (hkp: ∀b,b<h.length->(∀v,β b v=none)->h'[b]? =h[b]?):Yx w0 wr base β w h0 acc h':=by
 have hlive: ∀c,Live wr β h' c->Live wr β h c:=fun c ⟨k,v,h1,h2,h3⟩=>⟨k,v,h1,hc k v h2,h3⟩
 refine⟨S,fun c h=>G.live c (hlive c h),hl.trans G.len,fun k v h=>G.cur k v (hc k v h),fun b hb hn=>(hkp b (by rw[G.len]; exact hb) hn).trans (G.keep b hb hn),G.ge,G.nodup,fun p hp sz els c h1 h2=>?_⟩
 exact(G.els p hp sz els c (hk _ _ _ _ h1) h2).mono (fun _ _ h=>h) (ZV hlive) (Beta.Le.refl _)
def Qwl (h h':H):Prop:=∀(k ver sz:Nat) (els:List AV),h'[k]? =some (Qq.arr ver sz els)->h[k]? =some (Qq.arr ver sz els)
theorem JW {f:AV->H->Option (AV×H)}(hf: ∀v h v' h',f v h=some (v',h')->Qwl h h'): ∀{l l':List AV} {h h':H},XW f l h=some (l',h')->Qwl h h'
 | [],l',h,h',e=>by
  simp[XW]at e;obtain⟨rfl,rfl⟩:=e;exact fun _ _ _ _ h=>h
 | v::l,l',h,h',e=>by
  unfold XW at e;split at e
  ·rename_i v1 h1 e1;split at e
   ·rename_i l2 h2 e2;simp at e;obtain⟨rfl,rfl⟩:=e;exact fun k ver sz els hk=>hf _ _ _ _ e1 k ver sz els (JW hf e2 k ver sz els hk)
   ·cases e
  ·cases e
theorem Qcp (base:Nat): ∀n v h v' h',frz base n v h=some (v',h')->Qwl h h':=by
 intro n
 induction n with
 | zero=>
  intro v h v' h' e;unfold frz at e;split at e
  ·simp at e; obtain⟨rfl,rfl⟩:=e; exact fun _ _ _ _ h=>h
  ·cases e
 | succ n ih=>
  intro v h v' h' e;unfold frz at e;split at e
  ·simp at e; obtain⟨rfl,rfl⟩:=e; exact fun _ _ _ _ h=>h
  ·split at e
   ·split at e
    ·rename_i h1; simp at e; obtain⟨rfl,rfl⟩:=e; exact JW ih h1
    ·cases e
   ·split at e
    ·rename_i h1; simp at e; obtain⟨rfl,rfl⟩:=e; exact JW ih h1
    ·cases e
   ·split at e
    ·rename_i h1; simp at e; obtain⟨rfl,rfl⟩:=e; exact JW ih h1
    ·cases e
   ·simp at e; obtain⟨rfl,rfl⟩:=e; exact fun _ _ _ _ h=>h
   ·split at e
    ·simp at e; obtain⟨rfl,rfl⟩:=e; exact fun _ _ _ _ h=>h
    ·split at e
     ·split at e
      ·rename_i b ver _ _ _ _ _ _ _ _ _ _ _ h1;simp at e; obtain⟨rfl,rfl⟩:=e;intro k v z es hk;have:=JW ih h1 k v z es hk;by_cases hkb:k=b
       ·subst hkb;unfold kill at this;rcases Nat.lt_or_ge k h.length with hlt | hge
        ·rw[List.getElem?_set_self hlt]at this; simp at this
        ·rw[List.getElem?_eq_none (by simpa using hge)]at this; cases this
       ·rwa[Yl hkb]at this
      ·cases e
     ·cases e
   ·split at e
    ·simp at e; obtain⟨rfl,rfl⟩:=e; exact fun _ _ _ _ h=>h
    ·cases e
   ·split at e
    ·simp at e; obtain⟨rfl,rfl⟩:=e; exact fun _ _ _ _ h=>h
    ·cases e
   ·split at e
    ·simp at e; obtain⟨rfl,rfl⟩:=e; exact fun _ _ _ _ h=>h
    ·cases e
   ·cases e
theorem QkO {h:H}{b ver:Nat}(ha:alive h b ver=true): ∃sz els,h[b]? =some (Qq.arr ver sz els):=by
 unfold alive at ha;split at ha
 ·rename_i v z es hb;have:v=ver:=by simpa using ha
  subst this;exact⟨z,es,hb⟩
 ·cases ha
theorem QqH (hwr:wr<=base)(h0:H)(hh:base<=h0.length):Qrt w0 wr base β w h0 (Qpx base):=by
 have frozen: ∀(v:AV) (acc:List (Nat×Nat)) (h:H) (v':AV) (acc':List (Nat×Nat)) (h':H) (x:Value),(match frz base deep v h with | some (v',h')=>some (v',acc,h') | none=>none)=some (v',acc',h')->Yx w0 wr base β w h0 acc h->Rel (view wr β h w) β v x->
      Yx w0 wr base β w h0 acc' h'/\(∀c,Live wr β h' c->Live wr β h c)/\(∃r,acc'=acc++r)/\Rel (view wr β h' w) (Zt base β acc') v' x:=by
  intro v acc h v' acc' h' x e G hr;split at e
  ·rename_i v1 h1 e1;simp at e;obtain⟨rfl,rfl,rfl⟩:=e;obtain⟨S1,E1,n1,_,c1,r1,_⟩:=QhR hwr deep v h v1 h1 x e1 G.sim hr;exact⟨G.frz S1 n1 c1 (Qcp base _ _ _ _ _ e1) E1.keep,fun c ⟨k,v,g1,g2,g3⟩=>⟨k,v,g1,c1 k v g2,g3⟩,⟨[],by simp⟩,Rel.mono (View.Le.refl _) (Wp _) _ _ r1⟩
  ·cases e
 intro v acc h v' acc' h' x e G hr;unfold Qpx at e;split at e
 ·rename_i b ver sz off len;split at e
  ·rename_i hb;simp at e;obtain⟨rfl,rfl,rfl⟩:=e;refine⟨G,fun _ h=>h,⟨[],by simp⟩,?_⟩
   unfold Rel at hr ⊢;have:Zt base β acc b ver=β b ver:=by unfold Zt; rw[if_pos hb]
   rw[this];exact hr
  ·rename_i hb;split at e
   ·rename_i v0 z els hbk;split at e
    ·rename_i hcnd;obtain⟨rfl,rfl,rfl,rfl,hacc⟩:=hcnd;split at e
     ·rename_i els' h1 e1;split at e
      ·rename_i hal;simp at e;obtain⟨rfl,rfl,rfl⟩:=e;obtain⟨z2,es2,halive⟩:=QkO hal;have hk1:=JW (Qcp base deep) e1;have hold:=hk1 _ _ _ _ halive;rw[hbk]at hold;simp at hold;obtain⟨rfl,rfl⟩:=hold
       have main:Sim w0 wr β h1 w/\h1.length=h.length/\(∀k v,Avm.cur h1 k=some v->Avm.cur h k=some v)/\(∃y,β b v0=some y)/\(∀k,k<h.length->(∀v,β k v=none)->h1[k]? =h[k]?)/\ ∀c,β b v0=some (some c)->BE (rdw w) (view wr β h1 w) (XK base β) c 0 z els':=by
        cases hβ:β b v0 with
        | none=>
         unfold Rel at hr;rcases hr with⟨c,_,h2,_⟩ | ⟨h2,_⟩<;>rw[hβ]at h2<;>cases h2
        | some oc=>
         cases oc with
         | none=>
          unfold Rel at hr;rcases hr with⟨c,_,h2,_⟩ | ⟨_,h2,_⟩
          ·rw[hβ]at h2; cases h2
          ·have:els=[]:=List.eq_nil_of_length_eq_zero h2;subst this;simp[XW]at e1;obtain⟨rfl,rfl⟩:=e1;exact⟨G.sim,rfl,fun _ _ h=>h,⟨_,rfl⟩,fun _ _ _=>rfl,fun c hc=>by cases hc⟩
         | some c=>
          obtain⟨_,_,hbe⟩:=G.sim.arr b v0 z els c hbk hβ;obtain⟨S1,E1,n1,_,c1,r1⟩:=QgD (QhR hwr deep) e1 G.sim hbe;exact⟨S1,n1,c1,⟨_,rfl⟩,E1.keep,fun c' hc=>by injection hc with hc; injection hc with hc; subst hc; exact r1⟩
       obtain⟨S1,n1,c1,⟨y,hy⟩,hkp,hbe'⟩:=main;have G1:=G.frz S1 n1 c1 hk1 hkp;have hcur1:Avm.cur h1 b=some v0:=by unfold Avm.cur; rw[halive]
       obtain⟨S2,c2,l2⟩:=Qws (sz:=z) (els:=els') S1 hcur1 (fun c hc=>by
        obtain⟨⟨cs,T,fr,h3,h4⟩,h5,_⟩:=S1.arr b v0 z els c halive hc;exact⟨⟨cs,T,fr,h3,by rw[QbF e1]; exact h4⟩,h5,(hbe' c hc).mono (fun _ _ h=>h) (View.Le.refl _) (Qhu _ _)⟩)
       have hv2:=ZV (w:=w) l2
       have hlive: ∀c,Live wr β (h1.set b (.arr v0 z els')) c->Live wr β h c:=fun c hc=>by
        obtain⟨k,v,g1,g2,g3⟩:=l2 c hc;exact⟨k,v,g1,c1 k v g2,g3⟩
       have hb1:b<h1.length:=(List.getElem?_eq_some_iff.1 halive).1
       refine⟨⟨S2,fun c hc=>G.live c (hlive c hc),by simp; exact G1.len,fun k v hk=>G1.cur k v (c2 k v hk),fun k hk hn=>?_,?_,?_,?_⟩,hlive,⟨[(b,v0)],rfl⟩,?_⟩
       ·rw[List.getElem?_set_ne (by rintro rfl; rw[hn v0]at hy; cases hy)]
        exact G1.keep k hk hn
       ·intro p hp;simp only[List.mem_append,List.mem_singleton]at hp;rcases hp with hp | rfl
        ·exact G.ge p hp
        ·exact Nat.le_of_not_lt hb
       ·rw[List.map_append,List.nodup_append];refine⟨G.nodup,by simp,fun x hx y hy hxy=>?_⟩
        simp at hy;subst hy hxy;simp only[List.mem_map]at hx;obtain⟨p,hp,hpe⟩:=hx;have:=List.all_eq_true.1 hacc p hp;simp[hpe]at this
       ·intro p hp sz' es c h3 h4;by_cases hpb:p.1=b
        ·rw[hpb,List.getElem?_set_self hb1]at h3
         simp at h3;obtain⟨h3,rfl,rfl⟩:=h3;rw[hpb,←h3]at h4;exact(hbe' c h4).mono (fun _ _ h=>h) hv2 (Beta.Le.refl _)
        ·rw[List.getElem?_set_ne (fun e=>hpb e.symm)]at h3
         simp only[List.mem_append,List.mem_singleton]at hp;rcases hp with hp | rfl
         ·exact(G1.els p hp sz' es c h3 h4).mono (fun _ _ h=>h) hv2 (Beta.Le.refl _)
         ·exact absurd rfl hpb
       ·have hg:Zt base β (acc++ [(b,v0)]) (base+acc.length) 0=β b v0:=by
          unfold Zt;rw[if_neg (by omega),Nat.add_sub_cancel_left,List.getElem?_append_right (Nat.le_refl _)]
          simp
        unfold Rel at hr ⊢;rw[hg];rcases hr with⟨c,cap,g1,g2,g3,g4⟩ | ⟨g1,g2,g3,q⟩
        ·exact .inl ⟨c,cap,g1,g2,g3,g4⟩
        ·exact .inr ⟨g1,g2,rfl,q⟩
      ·cases e
     ·cases e
    ·cases e
   ·cases e
 ·exact frozen _ acc h v' acc' h' x e G hr
theorem QqG (hwr:wr<=base)(h0:H)(hh:base<=h0.length):Qrt w0 wr base β w h0 (Qpw base):=by
 intro v acc h v' acc' h' x e G hr;unfold Qpw at e;split at e
 ·split at e
  ·rename_i l l' acc1 h1 e1;simp at e;obtain⟨rfl,rfl,rfl⟩:=e;unfold Rel at hr;obtain⟨vs,rfl,hr⟩:=hr;obtain⟨G1,L1,r1,k1⟩:=Qlt (QqH hwr h0 hh) e1 G hr;refine⟨G1,L1,r1,?_⟩
   unfold Rel;exact⟨vs,rfl,k1⟩
  ·cases e
 ·exact QqH hwr h0 hh _ _ _ _ _ _ _ e G hr
theorem QwU (hwr:wr<=base)(h0:H)(hh:base<=h0.length):Qrt w0 wr base β w h0 (Qpv base):=by
 intro v acc h v' acc' h' x e G hr;unfold Qpv at e;split at e
 ·split at e
  ·rename_i l l' acc1 h1 e1;simp at e;obtain⟨rfl,rfl,rfl⟩:=e;unfold Rel at hr;obtain⟨vs,rfl,hr⟩:=hr;obtain⟨G1,L1,r1,k1⟩:=Qlt (QqG hwr h0 hh) e1 G hr;refine⟨G1,L1,r1,?_⟩
   unfold Rel;exact⟨vs,rfl,k1⟩
  ·cases e
 ·exact QqG hwr h0 hh _ _ _ _ _ _ _ e G hr
end
end Go.Avm
namespace Go.Avm
open Go.RowKit
mutual
def AV.under(n:Nat):AV->Bool
 | .ptr b ..=>decide (b<n)
 | .osl b ..=>decide (b<n)
 | .mref b | .nbuf b=>decide (b<n)
 | .iptr l | .isl l | .agg l | .tup l | .QI _ _ l=>Qj n l
 | .iface _ v=>v.under n
 | _=>true
def Qj (n:Nat):List AV->Bool
 | []=>true
 | v::l=>v.under n&&Qj n l
end
mutual
theorem QaE (n:Nat): ∀(x:AV),x.pure=true->x.under n=true
 | .any,_=>rfl
 | .bool _,_=>rfl
 | .int _ _,_=>rfl
 | .str _,_=>rfl
 | .nilp,_=>rfl
 | .nilf,_=>rfl
 | .nili,_=>rfl
 | .esl,_=>rfl
 | .nilm,_=>rfl
 | .nils,_=>rfl
 | .mref _,hp=>by simp[AV.pure]at hp
 | .nbuf _,hp=>by simp[AV.pure]at hp
 | .ptr ..,hp=>by simp[AV.pure]at hp
 | .osl ..,hp=>by simp[AV.pure]at hp
 | .iptr l,hp=>by simp only[AV.pure,AV.under]at*; exact Jv n l hp
 | .isl l,hp=>by simp only[AV.pure,AV.under]at*; exact Jv n l hp
 | .agg l,hp=>by simp only[AV.pure,AV.under]at*; exact Jv n l hp
 | .tup l,hp=>by simp only[AV.pure,AV.under]at*; exact Jv n l hp
 | .QI _ _ l,hp=>by simp only[AV.pure,AV.under]at*; exact Jv n l hp
 | .iface _ x,hp=>by simp only[AV.pure,AV.under]at*; exact QaE n x hp
theorem Jv (n:Nat): ∀(l:List AV),Qv l=true->Qj n l=true
 | [],_=>rfl
 | x::l,hp=>by
  simp only[Qv,Qj,Bool.and_eq_true]at*;exact⟨QaE n x hp.1,Jv n l hp.2⟩
end
mutual
theorem Rel.narrow{V:View}{β:Beta}{n:Nat}: ∀(x:AV) (v:Value),x.under n=true->Rel V β x v->Rel V (XK n β) x v
 | .any,_,_,_=>by unfold Rel; trivial
 | .bool _,_,_,h=>by unfold Rel at*; exact h
 | .int _ _,_,_,h=>by unfold Rel at*; exact h
 | .str _,_,_,h=>by unfold Rel at*; exact h
 | .nilp,_,_,h=>by unfold Rel at*; exact h
 | .nilf,_,_,h=>by unfold Rel at*; exact h
 | .nili,_,_,h=>by unfold Rel at*; exact h
 | .esl,_,_,h=>by unfold Rel at*; exact h
 | .nilm,_,_,h=>by unfold Rel at*; exact h
 | .nils,_,_,h=>by unfold Rel at*; exact h
 | .mref b,_,hp,h=>by
  unfold Rel at*;obtain⟨c,h1,h2⟩:=h;exact⟨c,by unfold XK; rw[if_pos (by simpa[AV.under]using hp)]; exact h1,h2⟩
 | .nbuf b,_,hp,h=>by
  unfold Rel at*;exact⟨by unfold XK; rw[if_pos (by simpa[AV.under]using hp)]; exact h.1,h.2⟩
 | .ptr b ver sz i o,_,hp,h=>by
  unfold Rel at*;obtain⟨c,h1,h2⟩:=h;exact⟨c,by unfold XK; rw[if_pos (by simpa[AV.under]using hp)]; exact h1,h2⟩
 | .osl b ver sz off len,_,hp,h=>by
  have hr:XK n β b ver=β b ver:=by unfold XK; rw[if_pos (by simpa[AV.under]using hp)]
  unfold Rel at*;rw[hr];exact h
 | .iptr l,v,hp,h=>by
  unfold Rel at*;obtain⟨c,o,h1,h2⟩:=h;exact⟨c,o,h1,XR.narrow l c o (by simpa[AV.under]using hp) h2⟩
 | .isl l,v,hp,h=>by
  unfold Rel at*;obtain⟨a,cap,h1,h2,h3⟩:=h;refine⟨a,cap,h1,h2,?_⟩
  rcases h3 with h3 | ⟨c,o,sz,h3,h4⟩
  ·exact .inl h3
  ·exact .inr ⟨c,o,sz,h3,Qi.narrow l c o sz (by simpa[AV.under]using hp) h4⟩
 | .agg l,v,hp,h=>by
  unfold Rel at*;obtain⟨vs,h1,h2⟩:=h;exact⟨vs,h1,Qr.narrow l _ (by simpa[AV.under]using hp) h2⟩
 | .tup l,v,hp,h=>by
  unfold Rel at*;obtain⟨vs,h1,h2⟩:=h;exact⟨vs,h1,Qr.narrow l _ (by simpa[AV.under]using hp) h2⟩
 | .QI f k l,v,hp,h=>by
  unfold Rel at*;obtain⟨vs,h1,h2⟩:=h;exact⟨vs,h1,Qr.narrow l _ (by simpa[AV.under]using hp) h2⟩
 | .iface t x,v,hp,h=>by
  unfold Rel at*;obtain⟨y,h1,h2⟩:=h;exact⟨y,h1,Rel.narrow x y (by simpa[AV.under]using hp) h2⟩
theorem Qr.narrow{V:View}{β:Beta}{n:Nat}: ∀(l:List AV) (vs:List Value),Qj n l=true->Qr V β l vs->Qr V (XK n β) l vs
 | [],_,_,h=>by unfold Qr at*; exact h
 | x::l,vs,hp,h=>by
  unfold Qr at*;simp only[Qj,Bool.and_eq_true]at hp;obtain⟨v,r,h1,h2,h3⟩:=h;exact⟨v,r,h1,Rel.narrow x v hp.1 h2,Qr.narrow l r hp.2 h3⟩
theorem XR.narrow{V:View}{β:Beta}{n:Nat}: ∀(l:List AV) (c o:Nat),Qj n l=true->XR V β c o l->XR V (XK n β) c o l
 | [],_,_,_,_=>by unfold XR; trivial
 | x::l,c,o,hp,h=>by
  unfold XR at*;simp only[Qj,Bool.and_eq_true]at hp;obtain⟨⟨v,h1,h2⟩,h3⟩:=h;exact⟨⟨v,h1,Rel.narrow x v hp.1 h2⟩,XR.narrow l c _ hp.2 h3⟩
theorem Qi.narrow{V:View}{β:Beta}{n:Nat}: ∀(l:List AV) (c o sz:Nat),Qj n l=true->Qi V β c o sz l->Qi V (XK n β) c o sz l
 | [],_,_,_,_,_=>by unfold Qi; trivial
 | .agg k::r,c,o,sz,hp,h=>by
  simp only[Qj,AV.under,Bool.and_eq_true]at hp;unfold Qi at*;exact⟨h.1,XR.narrow k c o hp.1 h.2.1,Qi.narrow r c _ sz hp.2 h.2.2⟩
 | .any::r,c,o,sz,hp,h=>by
  simp only[Qj,Bool.and_eq_true]at hp;rw[Qi]at*;obtain⟨h0,⟨v,h1,h2⟩,h3⟩:=h
  ·exact⟨h0,⟨v,h1,Rel.narrow _ v hp.1 h2⟩,Qi.narrow r c _ sz hp.2 h3⟩
  all_goals (intro l h; cases h)
 | .bool b::r,c,o,sz,hp,h=>by
  simp only[Qj,Bool.and_eq_true]at hp;rw[Qi]at*;obtain⟨h0,⟨v,h1,h2⟩,h3⟩:=h
  ·exact⟨h0,⟨v,h1,Rel.narrow _ v hp.1 h2⟩,Qi.narrow r c _ sz hp.2 h3⟩
  all_goals (intro l h; cases h)
 | .int k n::r,c,o,sz,hp,h=>by
  simp only[Qj,Bool.and_eq_true]at hp;rw[Qi]at*;obtain⟨h0,⟨v,h1,h2⟩,h3⟩:=h
  ·exact⟨h0,⟨v,h1,Rel.narrow _ v hp.1 h2⟩,Qi.narrow r c _ sz hp.2 h3⟩
  all_goals (intro l h; cases h)
 | .str s::r,c,o,sz,hp,h=>by
  simp only[Qj,Bool.and_eq_true]at hp;rw[Qi]at*;obtain⟨h0,⟨v,h1,h2⟩,h3⟩:=h
  ·exact⟨h0,⟨v,h1,Rel.narrow _ v hp.1 h2⟩,Qi.narrow r c _ sz hp.2 h3⟩
  all_goals (intro l h; cases h)
 | .nilp::r,c,o,sz,hp,h=>by
  simp only[Qj,Bool.and_eq_true]at hp;rw[Qi]at*;obtain⟨h0,⟨v,h1,h2⟩,h3⟩:=h
  ·exact⟨h0,⟨v,h1,Rel.narrow _ v hp.1 h2⟩,Qi.narrow r c _ sz hp.2 h3⟩
  all_goals (intro l h; cases h)
 | .nilf::r,c,o,sz,hp,h=>by
  simp only[Qj,Bool.and_eq_true]at hp;rw[Qi]at*;obtain⟨h0,⟨v,h1,h2⟩,h3⟩:=h
  ·exact⟨h0,⟨v,h1,Rel.narrow _ v hp.1 h2⟩,Qi.narrow r c _ sz hp.2 h3⟩
  all_goals (intro l h; cases h)
 | .nili::r,c,o,sz,hp,h=>by
  simp only[Qj,Bool.and_eq_true]at hp;rw[Qi]at*;obtain⟨h0,⟨v,h1,h2⟩,h3⟩:=h
  ·exact⟨h0,⟨v,h1,Rel.narrow _ v hp.1 h2⟩,Qi.narrow r c _ sz hp.2 h3⟩
  all_goals (intro l h; cases h)
 | .esl::r,c,o,sz,hp,h=>by
  simp only[Qj,Bool.and_eq_true]at hp;rw[Qi]at*;obtain⟨h0,⟨v,h1,h2⟩,h3⟩:=h
  ·exact⟨h0,⟨v,h1,Rel.narrow _ v hp.1 h2⟩,Qi.narrow r c _ sz hp.2 h3⟩
  all_goals (intro l h; cases h)
 | .nilm::r,c,o,sz,hp,h=>by
  simp only[Qj,Bool.and_eq_true]at hp;rw[Qi]at*;obtain⟨h0,⟨v,h1,h2⟩,h3⟩:=h
  ·exact⟨h0,⟨v,h1,Rel.narrow _ v hp.1 h2⟩,Qi.narrow r c _ sz hp.2 h3⟩
  all_goals (intro l h; cases h)
 | .nils::r,c,o,sz,hp,h=>by
  simp only[Qj,Bool.and_eq_true]at hp;rw[Qi]at*;obtain⟨h0,⟨v,h1,h2⟩,h3⟩:=h
  ·exact⟨h0,⟨v,h1,Rel.narrow _ v hp.1 h2⟩,Qi.narrow r c _ sz hp.2 h3⟩
  all_goals (intro l h; cases h)
 | .mref b::r,c,o,sz,hp,h=>by
  simp only[Qj,Bool.and_eq_true]at hp;rw[Qi]at*;obtain⟨h0,⟨v,h1,h2⟩,h3⟩:=h
  ·exact⟨h0,⟨v,h1,Rel.narrow (.mref b) v hp.1 h2⟩,Qi.narrow r c _ sz hp.2 h3⟩
  all_goals (intro l h; cases h)
 | .nbuf b::r,c,o,sz,hp,h=>by
  simp only[Qj,Bool.and_eq_true]at hp;rw[Qi]at*;obtain⟨h0,⟨v,h1,h2⟩,h3⟩:=h
  ·exact⟨h0,⟨v,h1,Rel.narrow (.nbuf b) v hp.1 h2⟩,Qi.narrow r c _ sz hp.2 h3⟩
  all_goals (intro l h; cases h)
 | .ptr b ver z i q::r,c,o,sz,hp,h=>by
  simp only[Qj,Bool.and_eq_true]at hp;rw[Qi]at*;obtain⟨h0,⟨v,h1,h2⟩,h3⟩:=h
  ·exact⟨h0,⟨v,h1,Rel.narrow _ v hp.1 h2⟩,Qi.narrow r c _ sz hp.2 h3⟩
  all_goals (intro l h; cases h)
 | .osl b ver z q m::r,c,o,sz,hp,h=>by
  simp only[Qj,Bool.and_eq_true]at hp;rw[Qi]at*;obtain⟨h0,⟨v,h1,h2⟩,h3⟩:=h
  ·exact⟨h0,⟨v,h1,Rel.narrow _ v hp.1 h2⟩,Qi.narrow r c _ sz hp.2 h3⟩
  all_goals (intro l h; cases h)
 | .iptr l::r,c,o,sz,hp,h=>by
  simp only[Qj,Bool.and_eq_true]at hp;rw[Qi]at*;obtain⟨h0,⟨v,h1,h2⟩,h3⟩:=h
  ·exact⟨h0,⟨v,h1,Rel.narrow (.iptr l) v hp.1 h2⟩,Qi.narrow r c _ sz hp.2 h3⟩
  all_goals (intro l h; cases h)
 | .isl l::r,c,o,sz,hp,h=>by
  simp only[Qj,Bool.and_eq_true]at hp;rw[Qi]at*;obtain⟨h0,⟨v,h1,h2⟩,h3⟩:=h
  ·exact⟨h0,⟨v,h1,Rel.narrow (.isl l) v hp.1 h2⟩,Qi.narrow r c _ sz hp.2 h3⟩
  all_goals (intro l h; cases h)
 | .tup l::r,c,o,sz,hp,h=>by
  simp only[Qj,Bool.and_eq_true]at hp;rw[Qi]at*;obtain⟨h0,⟨v,h1,h2⟩,h3⟩:=h
  ·exact⟨h0,⟨v,h1,Rel.narrow (.tup l) v hp.1 h2⟩,Qi.narrow r c _ sz hp.2 h3⟩
  all_goals (intro l h; cases h)
 | .QI f k l::r,c,o,sz,hp,h=>by
  simp only[Qj,Bool.and_eq_true]at hp;rw[Qi]at*;obtain⟨h0,⟨v,h1,h2⟩,h3⟩:=h
  ·exact⟨h0,⟨v,h1,Rel.narrow (.QI f k l) v hp.1 h2⟩,Qi.narrow r c _ sz hp.2 h3⟩
  all_goals (intro l h; cases h)
 | .iface t x::r,c,o,sz,hp,h=>by
  simp only[Qj,Bool.and_eq_true]at hp;rw[Qi]at*;obtain⟨h0,⟨v,h1,h2⟩,h3⟩:=h
  ·exact⟨h0,⟨v,h1,Rel.narrow (.iface t x) v hp.1 h2⟩,Qi.narrow r c _ sz hp.2 h3⟩
  all_goals (intro l h; cases h)
end
mutual
theorem Rel.Qm{V:View}{β:Beta}{n:Nat}(hn: ∀b v x,β b v=some x->b<n): ∀(x:AV) (v:Value),Rel V β x v->x.under n=true
 | .any,_,_=>rfl
 | .bool _,_,_=>rfl
 | .int _ _,_,_=>rfl
 | .str _,_,_=>rfl
 | .nilp,_,_=>rfl
 | .nilf,_,_=>rfl
 | .nili,_,_=>rfl
 | .esl,_,_=>rfl
 | .nilm,_,_=>rfl
 | .nils,_,_=>rfl
 | .mref b,_,h=>by
  unfold Rel at h;obtain⟨c,h1,_⟩:=h;simp only[AV.under,decide_eq_true_eq];exact hn _ _ _ h1
 | .nbuf b,_,h=>by
  unfold Rel at h;simp only[AV.under,decide_eq_true_eq];exact hn _ _ _ h.1
 | .ptr b ver sz i o,_,h=>by
  unfold Rel at h;obtain⟨c,h1,_⟩:=h;simp only[AV.under,decide_eq_true_eq];exact hn _ _ _ h1
 | .osl b ver sz off len,_,h=>by
  unfold Rel at h;simp only[AV.under,decide_eq_true_eq];rcases h with⟨c,_,h1,_⟩ | ⟨h1,_⟩<;>exact hn _ _ _ h1
 | .iptr l,v,h=>by
  unfold Rel at h;obtain⟨c,o,_,h2⟩:=h;simp only[AV.under];exact XR.Qm hn l c o h2
 | .isl l,v,h=>by
  unfold Rel at h;obtain⟨a,cap,_,_,h3⟩:=h;simp only[AV.under];rcases h3 with rfl | ⟨c,o,sz,_,h4⟩
  ·rfl
  ·exact Qi.Qm hn l c o sz h4
 | .agg l,v,h=>by
  unfold Rel at h;obtain⟨vs,_,h2⟩:=h;simp only[AV.under];exact Qr.Qm hn l _ h2
 | .tup l,v,h=>by
  unfold Rel at h;obtain⟨vs,_,h2⟩:=h;simp only[AV.under];exact Qr.Qm hn l _ h2
 | .QI f k l,v,h=>by
  unfold Rel at h;obtain⟨vs,_,h2⟩:=h;simp only[AV.under];exact Qr.Qm hn l _ h2
 | .iface t x,v,h=>by
  unfold Rel at h;obtain⟨y,_,h2⟩:=h;simp only[AV.under];exact Rel.Qm hn x y h2
theorem Qr.Qm{V:View}{β:Beta}{n:Nat}(hn: ∀b v x,β b v=some x->b<n): ∀(l:List AV) (vs:List Value),Qr V β l vs->Qj n l=true
 | [],_,_=>rfl
 | x::l,vs,h=>by
  unfold Qr at h;obtain⟨v,r,_,h2,h3⟩:=h;simp only[Qj,Bool.and_eq_true];exact⟨Rel.Qm hn x v h2,Qr.Qm hn l r h3⟩
theorem XR.Qm{V:View}{β:Beta}{n:Nat}(hn: ∀b v x,β b v=some x->b<n): ∀(l:List AV) (c o:Nat),XR V β c o l->Qj n l=true
 | [],_,_,_=>rfl
 | x::l,c,o,h=>by
  unfold XR at h;obtain⟨⟨v,_,h2⟩,h3⟩:=h;simp only[Qj,Bool.and_eq_true];exact⟨Rel.Qm hn x v h2,XR.Qm hn l c _ h3⟩
theorem Qi.Qm{V:View}{β:Beta}{n:Nat}(hn: ∀b v x,β b v=some x->b<n): ∀(l:List AV) (c o sz:Nat),Qi V β c o sz l->Qj n l=true
 | [],_,_,_,_=>rfl
 | .agg k::r,c,o,sz,h=>by
  unfold Qi at h;simp only[Qj,AV.under,Bool.and_eq_true];exact⟨XR.Qm hn k c o h.2.1,Qi.Qm hn r c _ sz h.2.2⟩
 | .any::r,c,o,sz,h=>by
  rw[Qi]at h;obtain⟨_,⟨v,_,h2⟩,h3⟩:=h
  ·rw[Qj,Rel.Qm hn _ v h2,Qi.Qm hn r c _ sz h3]; rfl
  all_goals (intro l h; cases h)
 | .bool b::r,c,o,sz,h=>by
  rw[Qi]at h;obtain⟨_,⟨v,_,h2⟩,h3⟩:=h
  ·rw[Qj,Rel.Qm hn _ v h2,Qi.Qm hn r c _ sz h3]; rfl
  all_goals (intro l h; cases h)
 | .int k m::r,c,o,sz,h=>by
  rw[Qi]at h;obtain⟨_,⟨v,_,h2⟩,h3⟩:=h
  ·rw[Qj,Rel.Qm hn _ v h2,Qi.Qm hn r c _ sz h3]; rfl
  all_goals (intro l h; cases h)
 | .str s::r,c,o,sz,h=>by
  rw[Qi]at h;obtain⟨_,⟨v,_,h2⟩,h3⟩:=h
  ·rw[Qj,Rel.Qm hn _ v h2,Qi.Qm hn r c _ sz h3]; rfl
  all_goals (intro l h; cases h)
 | .nilp::r,c,o,sz,h=>by
  rw[Qi]at h;obtain⟨_,⟨v,_,h2⟩,h3⟩:=h
  ·rw[Qj,Rel.Qm hn _ v h2,Qi.Qm hn r c _ sz h3]; rfl
  all_goals (intro l h; cases h)
 | .nilm::r,c,o,sz,h=>by
  rw[Qi]at h;obtain⟨_,⟨v,_,h2⟩,h3⟩:=h
  ·rw[Qj,Rel.Qm hn _ v h2,Qi.Qm hn r c _ sz h3]; rfl
  all_goals (intro l h; cases h)
 | .nils::r,c,o,sz,h=>by
  rw[Qi]at h;obtain⟨_,⟨v,_,h2⟩,h3⟩:=h
  ·rw[Qj,Rel.Qm hn _ v h2,Qi.Qm hn r c _ sz h3]; rfl
  all_goals (intro l h; cases h)
 | .mref b::r,c,o,sz,h=>by
  rw[Qi]at h;obtain⟨_,⟨v,_,h2⟩,h3⟩:=h
  ·rw[Qj,Rel.Qm hn _ v h2,Qi.Qm hn r c _ sz h3]; rfl
  all_goals (intro l h; cases h)
 | .nbuf b::r,c,o,sz,h=>by
  rw[Qi]at h;obtain⟨_,⟨v,_,h2⟩,h3⟩:=h
  ·rw[Qj,Rel.Qm hn _ v h2,Qi.Qm hn r c _ sz h3]; rfl
  all_goals (intro l h; cases h)
 | .ptr b ver z i q::r,c,o,sz,h=>by
  rw[Qi]at h;obtain⟨_,⟨v,_,h2⟩,h3⟩:=h
  ·rw[Qj,Rel.Qm hn _ v h2,Qi.Qm hn r c _ sz h3]; rfl
  all_goals (intro l h; cases h)
 | .iptr k::r,c,o,sz,h=>by
  rw[Qi]at h;obtain⟨_,⟨v,_,h2⟩,h3⟩:=h
  ·rw[Qj,Rel.Qm hn _ v h2,Qi.Qm hn r c _ sz h3]; rfl
  all_goals (intro l h; cases h)
 | .isl k::r,c,o,sz,h=>by
  rw[Qi]at h;obtain⟨_,⟨v,_,h2⟩,h3⟩:=h
  ·rw[Qj,Rel.Qm hn _ v h2,Qi.Qm hn r c _ sz h3]; rfl
  all_goals (intro l h; cases h)
 | .esl::r,c,o,sz,h=>by
  rw[Qi]at h;obtain⟨_,⟨v,_,h2⟩,h3⟩:=h
  ·rw[Qj,Rel.Qm hn _ v h2,Qi.Qm hn r c _ sz h3]; rfl
  all_goals (intro l h; cases h)
 | .osl b ver z q m::r,c,o,sz,h=>by
  rw[Qi]at h;obtain⟨_,⟨v,_,h2⟩,h3⟩:=h
  ·rw[Qj,Rel.Qm hn _ v h2,Qi.Qm hn r c _ sz h3]; rfl
  all_goals (intro l h; cases h)
 | .tup k::r,c,o,sz,h=>by
  rw[Qi]at h;obtain⟨_,⟨v,_,h2⟩,h3⟩:=h
  ·rw[Qj,Rel.Qm hn _ v h2,Qi.Qm hn r c _ sz h3]; rfl
  all_goals (intro l h; cases h)
 | .QI f q k::r,c,o,sz,h=>by
  rw[Qi]at h;obtain⟨_,⟨v,_,h2⟩,h3⟩:=h
  ·rw[Qj,Rel.Qm hn _ v h2,Qi.Qm hn r c _ sz h3]; rfl
  all_goals (intro l h; cases h)
 | .nilf::r,c,o,sz,h=>by
  rw[Qi]at h;obtain⟨_,⟨v,_,h2⟩,h3⟩:=h
  ·rw[Qj,Rel.Qm hn _ v h2,Qi.Qm hn r c _ sz h3]; rfl
  all_goals (intro l h; cases h)
 | .nili::r,c,o,sz,h=>by
  rw[Qi]at h;obtain⟨_,⟨v,_,h2⟩,h3⟩:=h
  ·rw[Qj,Rel.Qm hn _ v h2,Qi.Qm hn r c _ sz h3]; rfl
  all_goals (intro l h; cases h)
 | .iface t x::r,c,o,sz,h=>by
  rw[Qi]at h;obtain⟨_,⟨v,_,h2⟩,h3⟩:=h
  ·rw[Qj,Rel.Qm hn _ v h2,Qi.Qm hn r c _ sz h3]; rfl
  all_goals (intro l h; cases h)
end
mutual
theorem WO (n:Nat): ∀(x:AV),x.under n=true↔x.top<=n
 | .any | .bool _ | .int _ _ | .str _ | .nilp | .nilf | .nili | .esl | .nilm | .nils=>by simp[AV.under,AV.top]
 | .ptr .. | .osl .. | .mref _ | .nbuf _=>by simp[AV.under,AV.top]; omega
 | .iptr l | .isl l | .agg l | .tup l | .QI _ _ l=>by simp only[AV.under,AV.top]; exact Qav n l
 | .iface _ x=>by simp only[AV.under,AV.top]; exact WO n x
theorem Qav (n:Nat): ∀(l:List AV),Qj n l=true↔QmK l<=n
 | []=>by simp[Qj,QmK]
 | x::l=>by
  simp only[Qj,QmK,Bool.and_eq_true,WO n x,Qav n l];omega
end
theorem QuF {x:AV}(h:x.pure=true):x.top=0:=Nat.le_zero.1 ((WO 0 x).1 (QaE 0 x h))
end Go.Avm
