/- Operations that write or make memory. -/
import Derived.Test.YtflbneepngjglaaGreatDoorO08
set_option linter.all false
namespace Go.Avm
open Go.RowKit
theorem Qhi {w0:World}{wr:Nat}{β:Beta}{h:H}{w:World}(S:Sim w0 wr β h w):Sim w0 wr β h w.drew/\Ext wr β h w β h w.drew:=by
 refine⟨⟨S.below.drew,S.dom,S.domv,S.inj,S.arr,S.oth,S.tyd,S.old,S.oldd⟩,⟨⟨rfl,rfl,rfl,Nat.le_refl _,Nat.le_refl _,Beta.Le.refl _,fun c _ hc=>⟨rfl,hc⟩,fun _ _ _ _ h=>⟨_,_,h,rfl⟩⟩,Fresh.refl _ _⟩⟩
theorem Yb (b:Nat): ∀(vs:List Value) (o:Nat) (w:World) {cs:Array Value} {T:TypeId} {fr:Nat×Nat},w.heap[b]? =some (.cells cs T fr)->
    (∃cs',(w.setCells b o vs).heap[b]? =some (.cells cs' T fr)/\cs'.size=cs.size/\ ∀p,cs'[p]? =if o<=p/\p<o+vs.length/\p<cs.size then vs[p-o]? else cs[p]?)/\
    (∀k,k≠b->(w.setCells b o vs).heap[k]? =w.heap[k]?)/\(w.setCells b o vs).os=w.os/\(w.setCells b o vs).tape=w.tape/\(w.setCells b o vs).output=w.output/\(w.setCells b o vs).heap.size=w.heap.size
 | [],o,w,cs,T,fr,h=>⟨⟨cs,h,rfl,fun p=>by simp; omega⟩,fun _ _=>rfl,rfl,rfl,rfl,rfl⟩
 | v::r,o,w,cs,T,fr,h=>by
  have h1:(w.setCell ⟨b,o,none⟩ v).heap[b]? =some (.cells (cs.setIfInBounds o v) T fr):=by
   simp[World.setCell,Array.getElem?_modify,h]
  obtain⟨⟨cs',h2,h3,h4⟩,h5,h6,h7,h8,h9⟩:=Yb b r (o+1) (w.setCell ⟨b,o,none⟩ v) h1;refine⟨⟨cs',h2,by simpa using h3,fun p=>?_⟩,fun k hk=>?_,h6,h7,h8,?_⟩
  ·rw[h4 p];simp only[Array.size_setIfInBounds];by_cases hp:p=o
   ·subst hp;rw[if_neg (by omega)]
    by_cases hl:p<cs.size
    ·rw[if_pos ⟨Nat.le_refl _,by simp,hl⟩]; simp[hl]
    ·rw[if_neg (by omega)]; simp[hl,Array.getElem?_eq_none (Nat.le_of_not_lt hl)]
   ·by_cases hc:o+1<=p/\p<o+1+r.length/\p<cs.size
    ·rw[if_pos hc,if_pos ⟨by omega,by simp; omega,hc.2.2⟩]
     rw[show p-o=(p-(o+1))+1 by omega]
     simp
    ·rw[if_neg hc,if_neg (by simp; omega),Array.getElem?_setIfInBounds_ne (fun e=>hp e.symm)]
  ·rw[World.setCells,h5 k hk];simp only[World.setCell,Array.getElem?_modify]
   rw[if_neg (fun e=>hk e.symm)]
  ·rw[World.setCells,h9]; simp[World.setCell]
theorem Yu (b:Nat): ∀(vs:List Value) (o:Nat) (w:World) (p:Addr),(w.setCells b o vs).frozen? p=w.frozen? p
 | [],_,_,_=>rfl
 | v::r,o,w,p=>by rw[World.setCells,Yu b r,World.frozen?_setCell]
theorem QoX {x y:AV}{o:Nat}{vs:List AV}(h:setAt x o vs=some y):o+vs.length<=x.cells.length/\y.cells=x.cells.take o++vs++x.cells.drop (o+vs.length):=by
 unfold setAt at h;split at h
 ·rename_i l;split at h
  ·rename_i hc; injection h with h; subst h; exact⟨hc,rfl⟩
  ·cases h
 ·rename_i hx;rw[Xm (fun l e=>hx l e)]
  split at h
  ·rename_i v;split at h
   ·rename_i ho; subst ho;split at h
    ·cases h
    ·rename_i hv;injection h with h; subst h;rw[Xm (fun l e=>hv l e)]
     simp
   ·cases h
  ·cases h
theorem Qnd {i j p q sz:Nat}(hp:p<sz)(hq:q<sz)(h:i*sz+p=j*sz+q):i=j/\p=q:=by
 have h1:i=j:=by
  rcases Nat.lt_trichotomy i j with h2 | h2 | h2
  ·have:(i+1)*sz<=j*sz:=Nat.mul_le_mul_right _ h2;rw[Nat.succ_mul]at this; omega
  ·exact h2
  ·have:(j+1)*sz<=i*sz:=Nat.mul_le_mul_right _ h2;rw[Nat.succ_mul]at this; omega
 subst h1; omega
section
variable {P : Program} {w0 : World} {wr base ws : Nat} {β : Beta} {h h' : H} {w : World} {e : Env} {a : Act} {u : AV} {o : Oper}
theorem QAn {rd:Nat->Nat->Option Value}{V:View}{c sz:Nat}{els:List AV}(hb:BE rd V β c 0 sz els){i p:Nat}(hi:i<els.length)(hp:p<sz): ∃v,rd c (i*sz+p)=some v:=by
 obtain⟨h1,h2⟩:=hb i els[i] (by simp[hi])
 obtain⟨v,h3,_⟩:=h2 p (els[i].cells[p]'(by omega)) (by simp)
 exact⟨v,by simpa using h3⟩
theorem QrC {t:TypeId}{sz b ver bz i p c:Nat}{els:List AV}{el el' x:AV}{v:Value}(S:Sim w0 wr β h w)(hwr:wr<=b)(hb:h[b]? =some (.arr ver bz els))(hβ:β b ver=some (some c))(hel:els[i]? =some el)
    (hset:setAt el p x.cells=some el') (hx:x.ZF=true) (hxl:x.cells.length=sz) (hr:Rel (view wr β h w) β x v) (hsz:JC P t sz=true):
    ∃w',(storeVar t ⟨c,i*bz+p,none⟩ v).run P w= .ok () w'/\ ∃β',Sim w0 wr β' (h.set b (.arr ver bz (els.set i el'))) w'/\Ext wr β h w β' (h.set b (.arr ver bz (els.set i el'))) w':=by
 obtain⟨⟨cs,T,fr,hcell,hsize⟩,hfro,hbe⟩:=S.arr b ver bz els c hb hβ;obtain⟨hl,hone⟩:=WY hx hr;have hlen:v.cells.toList.length=sz:=by rw[(Qp.1 hl).1,hxl]
 obtain⟨hfit,hcells⟩:=QoX hset;have helz:=(hbe i el hel).1;have hi:i<els.length:=(List.getElem?_eq_some_iff.1 hel).1
 rw[hxl]at hfit
 have hroom:i*bz+p+sz<=cs.size:=by
  have:(i+1)*bz<=els.length*bz:=Nat.mul_le_mul_right _ hi;rw[Nat.succ_mul]at this;omega
 have hst:=run_storeCells_cells (P:=P) c (i*bz+p) v.cells.toList 0 w (fun j hj=>by
      rw[hlen]at hj;obtain⟨q,hq⟩:=QAn hbe hi (p:=p+j) (by omega)
      unfold rdw at hq;simp only[Nat.add_zero,Nat.add_assoc];rw[hq]; rfl) (fun j hj=>by
      rw[hlen]at hj;exact hfro _ (by rw[Jn hcell]; omega)) hone
 simp only[Nat.add_zero]at hst;obtain⟨⟨cs',h1,h2,h3⟩,h4,h5,h6,h7,h8⟩:=Yb c v.cells.toList (i*bz+p) w hcell;rw[hlen]at h3;refine⟨w.setCells c (i*bz+p) v.cells.toList,?_,?_⟩
 ·have hne: ¬(v.cells.size≠sz):=by simp at hlen; omega
  simp only[storeVar,Sem.run_bind,JE hsz,Result.andThen_ok];rw[if_neg hne];simp[hst]
 ·have hb':b<h.length:=(List.getElem?_eq_some_iff.1 hb).1
  have key:=QbZ (w':=w.setCells c (i*bz+p) v.cells.toList) S (b:=b) (ver:=ver) (sz:=bz) (c:=c) (els:=els.set i el') (by omega) hwr (.inr ⟨ver,Yf hb,hβ,Nat.le_refl _,.inl rfl⟩)
   (fun v' hv=>S.old b v' ver (Yf hb) hv) h5 h6 h7 (by omega) (fun k _ hk=>h4 k hk) h1 (by simp; omega) (fun _ cs0 T0 fr0 he=>by rw[hcell]at he; injection he with he; injection he with he he2; exact⟨by rw[h2,he],he2⟩)
   (fun q hq=>by rw[Yu]; exact hfro q (by rw[Jn hcell]; omega)) (fun j y hj=>by
    have hjl:j<els.length:=by have:=(List.getElem?_eq_some_iff.1 hj).1; simpa using this
    have rd: ∀q,rdw (w.setCells c (i*bz+p) v.cells.toList) c q=cs'[q]?:=fun q=>by unfold rdw World.cell?; rw[h1]; simp
    have rd0: ∀q,rdw w c q=cs[q]?:=fun q=>by unfold rdw World.cell?; rw[hcell]; simp
    by_cases hji:j=i
    ·subst hji;rw[List.getElem?_set_self hi]at hj
     injection hj with hj; subst hj;have hcl:el'.cells.length=bz:=by rw[hcells]; simp[hxl]; omega
     refine⟨hcl,fun q z hq=>?_⟩
     have hqb:q<bz:=by have:=(List.getElem?_eq_some_iff.1 hq).1; omega
     have hrow:j*bz+q<cs.size:=by
      have:(j+1)*bz<=els.length*bz:=Nat.mul_le_mul_right _ hjl;rw[Nat.succ_mul]at this; omega
     rw[rd,Nat.zero_add,h3];rw[hcells]at hq;by_cases hin:p<=q/\q<p+sz
     ·rw[if_pos ⟨by omega,by omega,hrow⟩]
      rw[List.append_assoc,List.getElem?_append_right (by simp; omega),List.getElem?_append_left (by simp[hxl]; omega)]at hq
      obtain⟨v1,h9,h10⟩:=(Qp.1 hl).2 _ z hq;refine⟨v1,?_,h10⟩
      rw[←h9]; congr 1; simp; omega
     ·rw[if_neg (by omega)]
      have hq':el.cells[q]? =some z:=by
       rcases Nat.lt_or_ge q p with hlt | hge
       ·rw[List.append_assoc,List.getElem?_append_left (by simp; omega),List.getElem?_take,if_pos hlt]at hq
        exact hq
       ·rw[List.getElem?_append_right (by simp[hxl]; omega),List.getElem?_drop]at hq
        rw[←hq]; congr 1; simp[hxl]; omega
      obtain⟨v1,h9,h10⟩:=(hbe j el hel).2 q z hq';rw[rd0,Nat.zero_add]at h9;exact⟨v1,h9,h10⟩
    ·rw[List.getElem?_set_ne (fun e=>hji e.symm)]at hj
     refine⟨(hbe j y hj).1,fun q z hq=>?_⟩
     have hqb:q<bz:=by have:=(List.getElem?_eq_some_iff.1 hq).1; have:=(hbe j y hj).1; omega
     obtain⟨v1,h9,h10⟩:=(hbe j y hj).2 q z hq;rw[rd0,Nat.zero_add]at h9;refine⟨v1,?_,h10⟩
     rw[rd,Nat.zero_add,h3,if_neg,h9]
     rintro⟨h11,h12,_⟩
     have:=Qnd (i:=j) (j:=i) (p:=q) (q:=j*bz+q-i*bz) (sz:=bz) hqb (by omega) (by omega)
     exact hji this.1)
  rw[Ze hb']at key;have hfr:=XT (x:=some c) (β:=β) (b:=b) (blk:=.arr ver bz (els.set i el')) (ver:=ver) (h:=h) (fun v hv=>by simpa[cur,eq_comm]using hv) (.inr ⟨ver,_,Yf hb,Nat.le_refl _,hβ⟩)
  rw[Ze hb']at hfr;exact⟨_,key.1,⟨key.2.1,hfr⟩⟩
theorem QBD {sz:Nat}{x v:Operand}{x' v':O}{t:TypeId}(ho:o.op= .store t x v)(hx:Qn x x'=true)(hv:Qn v v'=true)(hsz:JC P t sz=true)(hE:Qo (view wr β h w) β e a.tmps)(S:Sim w0 wr β h w)
    (hws:wr<=ws) (hbase:wr<=base) (hev:evI base ws e h (.st sz x' v')=some (u,h')):Xo P w0 wr β h w (execOp a.eval o) u h':=by
 dsimp only[evI]at hev;split at hev
 ·rename_i b ver bz i p r hx1 hv1;have hrx:=Qf hE hx hx1;have hrv:=Qf hE hv hv1;split at hev
  ·rename_i hc;obtain⟨hc1,hc2,hc3⟩:=hc
   have key: ∀r' h1,(if b<base then frz base deep r h else some (r,h))=some (r',h1)->
        Sim w0 wr β h1 w/\Ext wr β h w β h1 w/\Rel (view wr β h1 w) β r' (a.eval v)/\Shape r r'/\r'.ZF=true:=by
    intro r' h1 he;split at he
    ·obtain⟨S1,E1,_,_,_,r1,sh⟩:=QhR hbase deep r h r' h1 (a.eval v) he S hrv;exact⟨S1,E1,Rel.mono (View.Le.refl _) (Qhu _ _) _ _ r1,sh,Qvp he hc3⟩
    ·simp at he; obtain⟨rfl,rfl⟩:=he;exact⟨S,Ext.refl _ _ _ _,hrv,Shape.refl _,hc3⟩
   split at hev
   ·rename_i r' h1 he;obtain⟨S1,E1,r1,sh,ho1⟩:=key r' h1 he;split at hev
    ·rename_i v0 z els hb;split at hev
     ·rename_i hvz;obtain⟨rfl,rfl⟩:=hvz;split at hev
      ·rename_i el hel;split at hev
       ·rename_i el' hset;split at hev
        ·simp at hev; obtain⟨rfl,rfl⟩:=hev;unfold Rel at hrx;obtain⟨c,hβ,hrx⟩:=hrx;obtain⟨w',hrun,β',S2,E2⟩:=QrC (P:=P) S1 (by omega) hb hβ hel hset ho1 (sh.len.trans hc2) r1 hsz
         refine⟨.skip,undef,w',β',?_,.inr ⟨rfl,rfl⟩,S2,E1.trans E2,by unfold Rel; trivial⟩
         simp[execOp,ho,Instr.storeAt,hrx,Instr.sureAddr,hrun]
        ·cases hev
       ·cases hev
      ·cases hev
     ·cases hev
    ·cases hev
   ·cases hev
  ·cases hev
 ·cases hev
end
end Go.Avm
