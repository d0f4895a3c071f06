/- Slices of slices and strings; strings gone through; all operations together. -/
import Derived.Test.YtflbneepngjglaaGreatDoorO11
set_option linter.all false
namespace Go.Avm
open Go.RowKit
section
variable {P : Program} {w0 : World} {wr base ws : Nat} {β : Beta} {h h' : H} {w : World} {e : Env} {a : Act} {u : AV} {o : Oper}
theorem Qqx {w':World}(S:Sim w0 wr β h w)(s:ByteArray)(pos c:Nat){b:Nat}(hwr:b<h.length->wr<=b)(hc:(c=w.heap.size/\b=h.length)\/ ∃s0 p0,h[b]? =some (.sit s0 p0)/\β b 0=some (some c))
    (os:w'.os=w.os) (tape:w'.tape=w.tape) (output:w'.output=w.output) (size:w.heap.size<=w'.heap.size) (same: ∀k,k<w.heap.size->k≠c->w'.heap[k]? =w.heap[k]?) (hcell:w'.heap[c]? =some (.stringIter s pos)):
    ∃β',Sim w0 wr β' (Jd h b (.sit s pos)) w'/\Ext wr β h w β' (Jd h b (.sit s pos)) w'/\β' b 0=some (some c):=by
 have hcurb: ∀s0 p0,h[b]? =some (.sit s0 p0)->cur h b=some 0:=fun s0 p0 h1=>by unfold cur; rw[h1]
 have hb:b<=h.length:=by
  rcases hc with⟨_,rfl⟩ | ⟨_,_,h1,_⟩
  ·exact Nat.le_refl _
  ·exact Nat.le_of_lt (List.getElem?_eq_some_iff.1 h1).1
 obtain⟨S1,E1⟩:=Qla (blk:=.sit s pos) (ver:=0) (c:=c) S hb hwr (fun v hv=>by simpa[cur,eq_comm]using hv) (fun _ h=>by cases h) (fun _ _ _ _ h=>by cases h)
  (hc.imp (fun(h1:c=w.heap.size/\b=h.length)=>⟨h1.1,by rw[h1.2]; exact XU S (Nat.le_refl _) 0⟩) fun⟨s0,p0,h1,h2⟩=>⟨0,hcurb s0 p0 h1,h2,Nat.le_refl _,.inl rfl⟩)
  (fun v hv=>by
   rcases hc with⟨_,rfl⟩ | ⟨s0,p0,h3,_⟩
   ·exact XU S (Nat.le_refl _) v
   ·exact S.old b v 0 (hcurb s0 p0 h3) hv) os tape output size same (by
   rcases Nat.lt_or_ge c w'.heap.size with h1 | h1
   ·exact h1
   ·rw[Array.getElem?_eq_none h1]at hcell; cases hcell) (fun hlt cs0 T0 fr0 h1=>by
   rcases hc with⟨h2,_⟩ | ⟨s0,p0,h3,h4⟩
   ·omega
   ·have:=S.sit b s0 p0 c h3 h4;rw[this]at h1; cases h1) (fun _ _ _ h=>by cases h) hcell
 exact⟨_,S1,⟨E1,XT (fun v hv=>by simpa[cur,eq_comm]using hv) (hc.imp (fun h=>h.2) fun⟨_,_,h1,h⟩=>⟨0,_,hcurb _ _ h1,Nat.le_refl _,h⟩)⟩,by simp[QV]⟩
theorem Qlu {V:View}{x:Option Operand}{y:Option O}{r:Option AV}(hE:Qo V β e a.tmps)(hs:WB x y=true)(hv:Jp e y=some r):(r=none/\x.map a.eval=none)\/ ∃u v,r=some u/\x.map a.eval=some v/\Rel V β u v:=by
 cases x with
 | none=>
  cases y with
  | none=>simp[Jp]at hv; subst hv; exact .inl ⟨rfl,rfl⟩
  | some _=>simp[WB]at hs
 | some x=>
  cases y with
  | none=>simp[WB]at hs
  | some y=>
   simp only[Jp]at hv;split at hv
   ·rename_i u hu;injection hv with hv; subst hv;exact .inr ⟨u,a.eval x,rfl,rfl,Qf hE (by simpa[WB]using hs) hu⟩
   ·cases hv
theorem Qar {V:View}{r:Option AV}{v:Option Value}{d n y:Nat}{code:BoundsCode}(hr:(r=none/\v=none)\/ ∃u x,r=some u/\v=some x/\Rel V β u x)(hb:bound d r=some n)(hn:n<=y):
    (v=none/\n=d)\/ ∃k m,v=some (.int k m)/\(∀w:World,(Instr.sliceBound (.int k m) y code).run P w= .ok n w):=by
 rcases hr with⟨rfl,rfl⟩ | ⟨u,x,rfl,rfl,hr⟩
 ·simp[bound]at hb; exact .inl ⟨rfl,hb.symm⟩
 ·unfold bound at hb;split at hb
  ·rename_i h1; cases h1
  ·rename_i k m h1;injection h1 with h1; subst h1;split at hb
   ·rename_i h0;injection hb with hb; subst hb;unfold Rel at hr; subst hr;exact .inr ⟨k,m,rfl,fun w=>run_sliceBound w k m y code h0 (by omega)⟩
   ·cases hb
  ·cases hb
theorem Wk {V:View}{lo hi:Option AV}{lo' hi':Option Value}{s:Bool}{len cap l r:Nat}(hl:(lo=none/\lo'=none)\/ ∃u x,lo=some u/\lo'=some x/\Rel V β u x)(hh:(hi=none/\hi'=none)\/ ∃u x,hi=some u/\hi'=some x/\Rel V β u x)
    (h1:bound 0 lo=some l) (h2:bound len hi=some r) (h3:l<=r) (h4:r<=cap) (w:World):(Instr.sliceBounds s len cap lo' hi' none).run P w= .ok (l,r,cap) w:=by
 have hhb:=Qar (P:=P) (code:=if s then .sliceAcap else .sliceAlen) hh h2 h4
 have hlb:=Qar (P:=P) (code:=.sliceB) hl h1 h3;rcases hhb with⟨rfl,rfl⟩ | ⟨k,m,rfl,e1⟩<;>rcases hlb with⟨rfl,rfl⟩ | ⟨k2,m2,rfl,e2⟩<;>simp_all [Instr.sliceBounds]
theorem QoA {V:View}{lo hi mx:Option AV}{lo' hi' mx':Option Value}{s:Bool}{len cap l r m:Nat}(hl:(lo=none/\lo'=none)\/ ∃u x,lo=some u/\lo'=some x/\Rel V β u x)(hh:(hi=none/\hi'=none)\/ ∃u x,hi=some u/\hi'=some x/\Rel V β u x)
    (hm:(mx=none/\mx'=none)\/ ∃u x,mx=some u/\mx'=some x/\Rel V β u x) (hhs:hi.isSome=true) (hms:mx.isSome=true)
    (h1:bound 0 lo=some l) (h2:bound len hi=some r) (h5:bound 0 mx=some m) (h3:l<=r) (h4:r<=m) (h6:m<=cap) (w:World):(Instr.sliceBounds s len cap lo' hi' mx').run P w= .ok (l,r,m) w:=by
 have hhb:=Qar (P:=P) (code:=.slice3B) hh h2 h4;have hlb:=Qar (P:=P) (code:=.slice3C) hl h1 h3;have hmb:=Qar (P:=P) (code:=if s then .slice3Acap else .slice3Alen) hm h5 h6
 rcases hhb with⟨rfl,rfl⟩ | ⟨k,i,rfl,e1⟩
 ·rcases hh with⟨rfl,_⟩ | ⟨_,_,_,h,_⟩
  ·cases hhs
  ·cases h
 ·rcases hmb with⟨rfl,rfl⟩ | ⟨k3,i3,rfl,e3⟩
  ·rcases hm with⟨rfl,_⟩ | ⟨_,_,_,h,_⟩
   ·cases hms
   ·cases h
  ·rcases hlb with⟨rfl,rfl⟩ | ⟨k2,i2,rfl,e2⟩<;>simp_all [Instr.sliceBounds]
theorem BE.cut{rd:Nat->Nat->Option Value}{V:View}{c p sz:Nat}{els:List AV}(hb:BE rd V β c p sz els)(l r:Nat):BE rd V β c (p+l*sz) sz ((els.take r).drop l):=fun i x hi=>by
 rw[List.getElem?_drop,List.getElem?_take]at hi
 split at hi
 ·have:=hb (l+i) x hi;refine⟨this.1,?_⟩
  rw[Nat.add_assoc,←Nat.add_mul];exact this.2
 ·cases hi
theorem Qhf {V:View}{c p z sz:Nat}{els:List AV}(hc:Qi V β c p z els)(hs:QkW sz els=true)(hne:els≠ []):z=sz:=by
 cases els with
 | nil=>exact absurd rfl hne
 | cons x r=>
  have h1:=(QfJ.1 hc).1;simp[QkW]at hs;omega
theorem QyH {k:SlK}{x:Operand}{x':O}{lo hi mx:Option Operand}{lo' hi' mx':Option O}{t:TypeId}(ho:o.op= .slice t x lo hi mx)(hx:Qn x x'=true)(hlo:WB lo lo'=true)(hhi:WB hi hi'=true)(hmx:WB mx mx'=true)
    (ht:match k with | .str=>P.underlying t=some .string | .sl sz=>∃el,P.underlying t=some (.slice el)/\JC P el sz=true) (hE:Qo (view wr β h w) β e a.tmps) (S:Sim w0 wr β h w)
    (hev:evI base ws e h (.slc k x' lo' hi' mx')=some (u,h')):Xo P w0 wr β h w (execOp a.eval o) u h':=by
 dsimp only[evI]at hev;split at hev
 ·rename_i v l r m hv hl hr hm;split at hev
  ·rename_i res hres;simp at hev; obtain⟨rfl,rfl⟩:=hev;have hrel:=Qf hE hx hv;have hl:=Qlu hE hlo hl;have hr:=Qlu hE hhi hr;have hm:=Qlu hE hmx hm
   have fin: ∀q,(Instr.sliceAt t (a.eval x) (lo.map a.eval) (hi.map a.eval) (mx.map a.eval)).run P w= .ok q w->Rel (view wr β h w) β res q->Xo P w0 wr β h w (execOp a.eval o) res h:=fun q hq hrq=>
    .val (v:=q) (by simp[execOp,ho,hq]) S hrq
   unfold QdL at hres;split at hres
   ·
    simp only at ht;split at hres
    ·rename_i s _;split at hres
     ·rename_i i j hi hj;split at hres
      ·rename_i hc;injection hres with hres; subst hres;unfold Rel at hrel;rcases hm with⟨_,hm⟩ | ⟨_,_,h,_⟩
       ·have hb:=Wk (P:=P) (s:=false) (cap:=s.size) hl hr hi hj hc.1 hc.2 w;refine fin (.string (s.extract i j)) ?_ (by unfold Rel; rfl)
        rw[hrel,hm];simp[Instr.sliceAt,Instr.slice,run_underlying ht,hb]
       ·cases h
      ·cases hres
     ·cases hres
    ·cases hres
   ·
    rename_i sz;simp only at ht;obtain⟨el,ht,hsz⟩:=ht
    have run: ∀(q:Option Addr) (len cap i j n:Nat),(Instr.sliceBounds true len cap (lo.map a.eval) (hi.map a.eval) (mx.map a.eval)).run P w= .ok (i,j,n) w->
         (Instr.sliceAt t (.slice q len cap) (lo.map a.eval) (hi.map a.eval) (mx.map a.eval)).run P w= .ok (.slice (if n=i then q else q.map (·.add (i*sz))) (j-i) (n-i)) w:=fun q len cap i j n hb=>by
     simp[Instr.sliceAt,Instr.slice,run_underlying ht,hb,JE hsz]
    split at hres
    ·rename_i els;unfold Rel at hrel;obtain⟨q,cap,hq,hcap,hc⟩:=hrel;split at hres
     ·rename_i i j hi hj _;split at hres
      ·rename_i hcnd;have hcso:=hcnd.2.2;injection hres with hres; subst hres;rcases hm with⟨_,hm⟩ | ⟨_,_,h,_⟩
       ·have hb:=Wk (P:=P) (s:=true) (cap:=cap) hl hr hi hj hcnd.1 (by omega) w
        rw[←hm]at hb;refine fin _ (by rw[hq]; exact run _ _ _ _ _ _ hb) ?_
        unfold Rel;have hlen:((els.take j).drop i).length=j-i:=by simp; omega
        refine⟨_,cap-i,by rw[hlen],by rw[hlen]; omega,?_⟩
        by_cases hne:(els.take j).drop i=[]
        ·exact .inl hne
        ·have:0<((els.take j).drop i).length:=List.length_pos_iff.2 hne;rcases hc with rfl | ⟨c,p,z,rfl,hc⟩
         ·simp at hne
         ·have hzs:z=sz:=Qhf hc hcso (fun e=>hne (by rw[e]; simp))
          subst hzs;refine .inr ⟨c,p+i*z,z,?_,Zx.2 ((Zx.1 hc).cut i j)⟩
          rw[if_neg (by omega)]
          simp[Addr.add_lit]
       ·cases h
      ·cases hres
     ·rename_i i j m hi hj _;split at hres
      ·rename_i m2 hm2;split at hres
       ·rename_i hcnd;obtain⟨hhs,h1,h2,h3,hcso⟩:=hcnd;have hb:=QoA (P:=P) (s:=true) (cap:=cap) hl hr hm hhs rfl hi hj hm2 h1 h2 (by omega) w
        split at hres
        ·rename_i hmi;injection hres with hres; subst hres;refine fin _ (by rw[hq]; exact run _ _ _ _ _ _ hb) ?_
         unfold Rel;exact⟨_,by rw[show j-i=0 by omega,show m2-i=0 by omega]⟩
        ·rename_i hmi;injection hres with hres; subst hres;refine fin _ (by rw[hq]; exact run _ _ _ _ _ _ hb) ?_
         unfold Rel;have hlen:((els.take j).drop i).length=j-i:=by simp; omega
         refine⟨_,m2-i,by rw[hlen],by rw[hlen]; omega,?_⟩
         by_cases hne:(els.take j).drop i=[]
         ·exact .inl hne
         ·rcases hc with rfl | ⟨c,p,z,rfl,hc⟩
          ·simp at hne
          ·have hzs:z=sz:=Qhf hc hcso (fun e=>hne (by rw[e]; simp))
           subst hzs;refine .inr ⟨c,p+i*z,z,?_,Zx.2 ((Zx.1 hc).cut i j)⟩
           rw[if_neg (by omega)]
           simp[Addr.add_lit]
       ·cases hres
      ·cases hres
     ·cases hres
    ·unfold Rel at hrel;obtain⟨q,hq⟩:=hrel;split at hres
     ·rename_i hi hj _;injection hres with hres; subst hres;rcases hm with⟨_,hm⟩ | ⟨_,_,h,_⟩
      ·have hb:=Wk (P:=P) (s:=true) (len:=0) (cap:=0) hl hr hi hj (Nat.le_refl _) (Nat.le_refl _) w;rw[←hm]at hb;refine fin _ (by rw[hq]; exact run _ _ _ _ _ _ hb) ?_
       unfold Rel;exact⟨_,rfl⟩
      ·cases h
     ·cases hres
    ·rename_i b ver sz' off len;split at hres
     ·rename_i i j hi hj _;split at hres
      ·rename_i hcnd;obtain⟨rfl,h1,h2,h3⟩:=hcnd;rcases hm with⟨_,hm⟩ | ⟨_,_,h,_⟩
       ·unfold Rel at hrel
        have hval: ∃q cap,a.eval x= .slice q len cap/\len<=cap:=by
         rcases hrel with⟨c,cap,h4,hq,h5,h6⟩ | ⟨h4,rfl,rfl,q,hq⟩
         ·exact⟨_,cap,hq,h5⟩
         ·exact⟨q,0,hq,Nat.le_refl _⟩
        split at hres
        ·rename_i hij;injection hres with hres; subst hres;obtain⟨q,cap,hq,h5⟩:=hval;have hb:=Wk (P:=P) (s:=true) (cap:=cap) hl hr hi hj h1 (by omega) w
         rw[←hm]at hb;refine fin _ (by rw[hq]; exact run _ _ _ _ _ _ hb) ?_
         unfold Rel;exact⟨_,cap-i,by rw[show j-i=0 by omega]; rfl,by simp,.inl rfl⟩
        ·rename_i hij;injection hres with hres; subst hres;rcases hrel with⟨c,cap,h4,hq,h5,h6⟩ | ⟨h4,rfl,rfl,q,hq⟩
         ·have hb:=Wk (P:=P) (s:=true) (cap:=cap) hl hr hi hj h1 (by omega) w
          rw[←hm]at hb;refine fin _ (by rw[hq]; exact run _ _ _ _ _ _ hb) ?_
          unfold Rel;rw[if_neg (by omega)]
          refine .inl ⟨c,cap-i,h4,by simp[Addr.add_lit,Nat.add_mul],by omega,?_⟩
          rw[show off+i+(cap-i)=off+cap by omega]; exact h6
         ·omega
       ·cases h
      ·cases hres
     ·cases hres
    ·cases hres
  ·cases hev
 ·cases hev
theorem QyI {x:Operand}{x':O}{t:TypeId}(ho:o.op= .range t x)(hx:Qn x x'=true)(ht:P.underlying t=some .string)(hE:Qo (view wr β h w) β e a.tmps)(S:Sim w0 wr β h w)
    (hev:evI base ws e h (.rng x')=some (u,h')):Xo P w0 wr β h w (execOp a.eval o) u h':=by
 dsimp only[evI]at hev;split at hev
 ·rename_i s hv;simp at hev; obtain⟨rfl,rfl⟩:=hev;have hr:=Qf hE hx hv;unfold Rel at hr;obtain⟨β',S1,E1,hb⟩:=Qqx S s 0 w.heap.size (b:=h.length) (w':=w.alloc (.stringIter s 0)) (fun h=>absurd h (by omega)) (.inl ⟨rfl,rfl⟩) rfl rfl rfl (by simp) (fun k hk _=>Qee w _ hk) (Qad w _)
  rw[ZL]at S1 E1;refine⟨.value _,.pointer (some ⟨w.heap.size,0,none⟩),_,β',?_,.inl rfl,S1,E1,?_⟩
  ·simp[execOp,ho,hr,Instr.range,run_underlying ht]
  ·unfold Rel; exact⟨_,hb,by simp⟩
 ·cases hev
theorem QyJ {x:Operand}{x':O}(ho:o.op= .next x true)(hx:Qn x x'=true)(hE:Qo (view wr β h w) β e a.tmps)(S:Sim w0 wr β h w)(hwb:wr<=base)
    (hev:evI base ws e h (.nxt x')=some (u,h')):Xo P w0 wr β h w (execOp a.eval o) u h':=by
 dsimp only[evI]at hev;split at hev
 ·rename_i b hv;split at hev
  ·rename_i hbb;split at hev
   ·rename_i s pos hb;have hr:=Qf hE hx hv;unfold Rel at hr;obtain⟨c,hβ,hq⟩:=hr;simp only[Nat.zero_mul,Nat.add_zero]at hq;have hcell:=S.sit b s pos c hb hβ;split at hev
    ·rename_i hlt;simp at hev; obtain⟨rfl,rfl⟩:=hev;have hbl:b<h.length:=(List.getElem?_eq_some_iff.1 hb).1
     have hcl:c<w.heap.size:=(S.dom b 0 c hβ).2.2
     obtain⟨β',S1,E1,_⟩:=Qqx S s (pos+(Utf8.decode s pos).2) c (b:=b) (w':={ w with heap:=w.heap.setIfInBounds c (.stringIter s (pos+(Utf8.decode s pos).2))}) (fun _=>Nat.le_trans hwb hbb) (.inr ⟨s,pos,hb,hβ⟩) rfl rfl rfl (by simp)
      (fun k hk hne=>by simp[Array.getElem?_setIfInBounds_ne (Ne.symm hne)]) (by simp[hcl])
     rw[Ze hbl]at S1 E1;refine⟨.value _,.tuple #[.bool true,.int .i64 pos,.int .i32 (Utf8.decode s pos).1],_,β',?_,.inl rfl,S1,E1,?_⟩
     ·simp[execOp,ho,hq,Instr.next,getObj,setObj,Sem.run,hcell,hlt,goInt]
     ·unfold Rel;refine⟨_,rfl,?_⟩
      simp[Qr,Rel]
    ·rename_i hlt;simp at hev; obtain⟨rfl,rfl⟩:=hev;refine .val (v:=.tuple #[.bool false]) ?_ S ?_
     ·simp[execOp,ho,hq,Instr.next,getObj,Sem.run,hcell,hlt]
     ·unfold Rel;refine⟨_,rfl,?_⟩
      simp[Qr,Rel]
   ·cases hev
  ·cases hev
 ·cases hev
end
end Go.Avm
