/- A strings.Builder: the variable, its address through unsafe.Pointer, its bytes. -/
import Derived.Test.YtflbneepngjglaaGreatDoorO12
import Derived.Lib.Builder
import Derived.Lib.UnsafeStr
set_option linter.all false
namespace Go.Avm
open Go.RowKit
section
variable {P : Program} {w0 : World} {wr base ws : Nat} {β : Beta} {h h' : H} {w : World} {e : Env} {a : Act} {u : AV} {o : Oper}
theorem QK {p q:Bool}(h:(p&&q)=true):p=true/\q=true:=by simpa using h
theorem QoU {w':World}(S:Sim w0 wr β h w){b ver c:Nat}{cs:Array Value}{T:TypeId}{fr fr':Nat×Nat}(hcu:cur h b=some ver)(hβ:β b ver=some (some c))(hwr:wr<=b)(hcell:w.heap[c]? =some (.cells cs T fr))
    (os:w'.os=w.os) (tape:w'.tape=w.tape) (output:w'.output=w.output) (size:w'.heap.size=w.heap.size) (same: ∀k,k≠c->w'.heap[k]? =w.heap[k]?) (hcell':w'.heap[c]? =some (.cells cs T fr')):
    Sim w0 wr β (kill h b ver) w'/\Ext wr β h w β (kill h b ver) w':=by
 obtain⟨S1,E1⟩:=QmP S hcu ⟨ver,_,hβ⟩;have hlc:Live wr β h c:=⟨b,ver,hwr,hcu,hβ⟩
 have hno: ∀k v,cur (kill h b ver) k=some v->β k v≠some (some c):=fun k v h1 h2=>by
  obtain⟨h3,h4⟩:=ZP h1;exact h4 (S.inj k b v ver c h3 hcu h2 hβ)
 have E:Ext wr β h w β (kill h b ver) w':=by
  refine⟨⟨os,tape,output,by omega,by rw[Wc]; exact Nat.le_refl _,Beta.Le.refl _,fun k hk hl=>?_,fun k cs0 T0 fr0 hk=>?_⟩,E1.toFresh⟩
  ·have hkc:k≠c:=fun e=>hl (e▸hlc)
   exact⟨same k hkc,fun h1=>hl (QjX h1)⟩
  ·by_cases hkc:k=c
   ·subst hkc;rw[hcell]at hk;injection hk with hk; injection hk with h1 h2 h3;subst h1 h2;exact⟨cs,fr',hcell',rfl⟩
   ·exact⟨cs0,fr0,(same k hkc).trans hk,rfl⟩
 have hv:(view wr β (kill h b ver) w).Le (view wr β (kill h b ver) w'):=by
  refine⟨fun k q v hkv=>?_,fun k=>?_⟩
  ·obtain⟨h1,h2⟩:=QoL hkv;refine WN ?_ h2
   by_cases hkc:k=c
   ·subst hkc;unfold World.cell? at h1 ⊢;rw[hcell'] ; rw[hcell]at h1;exact h1
   ·rw[cell_of_heap (same k hkc)]; exact h1
  ·by_cases hkc:k=c
   ·subst hkc; rw[Jn hcell,Jn hcell']; exact Nat.le_refl _
   ·exact Nat.le_of_eq (ZJ (same k hkc)).symm
 refine⟨⟨S.below.trans ⟨os,tape,output,by omega,fun k hk=>same k (by have:=(S.dom b ver c hβ).2.1; omega)⟩,fun k v c1 h1=>?_,S1.domv,S1.inj,fun k v sz els c1 h1 h2=>?_,fun k x v c1 h1 h2 h3=>?_,fun k b1 v T1 n h1=>?_,S1.old,S1.oldd⟩,E⟩
 ·rw[size]; exact S1.dom k v c1 h1
 ·have hne:c1≠c:=fun e=>hno k v (Yf h1) (e▸h2)
  obtain⟨⟨cs1,T1,fr1,h3,h4⟩,h5,h6⟩:=S1.arr k v sz els c1 h1 h2;have hs:=same c1 hne;refine⟨⟨cs1,T1,fr1,hs.trans h3,h4⟩,fun q hq=>?_,h6.mono (fun p r hp=>?_) hv (Beta.Le.refl _)⟩
  ·rw[frozen_of_heap hs];exact h5 q (by rwa[ZJ (wr:=wr) (β:=β) (h:=kill h b ver) hs]at hq)
  ·unfold rdw at*; rw[cell_of_heap hs]; exact hp
 ·have hne:c1≠c:=fun e=>hno k v h2 (e▸h3)
  exact(S1.oth k x v c1 h1 h2 h3).mono (same c1 hne) hv (Beta.Le.refl _)
 ·obtain⟨g1,c1,cs1,fr1,g2,g3,g4⟩:=S1.tyd k b1 v T1 n h1;refine⟨g1,?_⟩
  by_cases hne:c1=c
  ·subst hne;rw[hcell]at g3;injection g3 with g3; injection g3 with g5 g6 g7;subst g5 g6;exact⟨c1,cs,fr',g2,hcell',g4⟩
  ·exact⟨c1,cs1,fr1,g2,(same c1 hne).trans g3,g4⟩
theorem QqN {T t8 sz off:Nat}{y:O}(ho:(∃x,o.op= .box T x/\Qn x y=true)\/(∃z,o.op= .alloc T/\y= .k z/\Yt P T z=true))(hE:Qo (view wr β h w) β e a.tmps)(S:Sim w0 wr β h w)(hwr:wr<=h.length)
    (hev:evI base ws e h (.boxt T t8 sz off y)=some (u,h')):Xo P w0 wr β h w (execOp a.eval o) u h':=by
 dsimp only[evI]at hev;split at hev
 ·rename_i l hv;split at hev
  ·rename_i hc;split at hev
   ·rename_i hoff;simp at hev; obtain⟨rfl,rfl⟩:=hev
    obtain⟨v,hr,hrun⟩: ∃v,Rel (view wr β h w) β (.agg l) v/\(execOp a.eval o).run P w= .ok (.value (.pointer (some ⟨w.heap.size,0,none⟩))) (w.alloc (.cells v.cells T)):=by
     rcases ho with⟨x,ho,hs⟩ | ⟨z,ho,rfl,hz⟩
     ·exact⟨_,Qf hE hs hv,by simp[execOp,ho,Instr.box,newVar,newRow]⟩
     ·obtain⟨zv,hz1,_,hz2⟩:=Jm hz;simp only[O.val]at hv;injection hv with hv;subst hv;exact⟨zv,hz2 _ _,by simp[execOp,ho,Instr.alloc,newVar,newRow,hz1]⟩
    have hcb0: ∀v,cur [Qq.buf t8 ⟨#[]⟩] 0=some v->v=0:=fun v hv=>by
     have h0:cur [Qq.buf t8 ⟨#[]⟩] 0=some 0:=rfl;rw[h0]at hv; injection hv with hv; exact hv.symm
    have g1:=Qjt (blk:=.buf t8 ⟨#[]⟩) (ver:=0) S (b:=h.length) hcb0 (fun _ h=>by cases h) (fun _ _ _ _ h=>by cases h) (Nat.le_refl _) (XU S (Nat.le_refl _) 0) (fun v _=>XU S (Nat.le_refl _) v)
    have gf:=XT (x:=none) (β:=β) (blk:=.buf t8 ⟨#[]⟩) (ver:=0) (h:=h) hcb0 (.inl rfl);rw[ZL]at g1 gf;obtain⟨S1,E1'⟩:=g1;have E1:Ext wr β h w (QV β h.length 0 none) (h++ [.buf t8 ⟨#[]⟩]) w:=⟨E1',gf⟩;have hb1:QV β h.length 0 none h.length 0=some none:=by simp[QV]
    have hr1:Rel (view wr (QV β h.length 0 none) (h++ [.buf t8 ⟨#[]⟩]) w) (QV β h.length 0 none) (.agg (l.set off (.nbuf h.length))) v:=by
     have hr':=Rel.mono E1.view E1.beta _ _ hr;unfold Rel at hr' ⊢;obtain⟨vs,rfl,hr'⟩:=hr';refine⟨vs,rfl,?_⟩
     obtain⟨q1,q2⟩:=Qp.1 hr';refine Qp.2 ⟨by simpa using q1,fun j x hj=>?_⟩
     by_cases hjo:j=off
     ·subst hjo;have hlt:j<l.length:=(List.getElem?_eq_some_iff.1 hoff).1
      rw[List.getElem?_set_self hlt]at hj
      injection hj with hj; subst hj;obtain⟨u,q3,q4⟩:=q2 j _ hoff;refine⟨u,q3,?_⟩
      unfold Rel at q4 ⊢;subst q4;exact⟨hb1,rfl⟩
     ·rw[List.getElem?_set_ne (fun e=>hjo e.symm)]at hj
      exact q2 j x hj
    have hones:(AV.agg (l.set off (.nbuf h.length))).ZF=true:=by
     simp only[AV.ZF,AV.cells,List.all_eq_true];intro x hx;rcases List.mem_or_eq_of_mem_set hx with hx | rfl
     ·exact List.all_eq_true.1 hc.2 x hx
     ·rfl
    obtain⟨β2,S2,E2,hb2⟩:=Qlx (sz:=sz) S1 (by simp; omega) T hones (by simp[AV.cells,hc.1]) hr1
    have hlen:(h++ [Qq.buf t8 ⟨#[]⟩]).length=h.length+1:=by simp
    rw[hlen]at hb2
    have hcells:v.cells.size=sz:=by
     obtain⟨q1,_⟩:=WY (by simpa[AV.ZF,AV.cells]using hc.2) hr
     have:=(Qp.1 q1).1;simpa[AV.cells,hc.1]using this
    have hheap:(w.alloc (.cells v.cells T)).heap[w.heap.size]? =some (.cells v.cells T (0,0)):=Qad _ _;obtain⟨S3,E3,_⟩:=QrJ S2 (b:=h.length+1) (v:=0) (T:=T) (n:=sz) hb2 hheap hcells;simp only[List.append_assoc,List.singleton_append,List.cons_append,List.nil_append]at S3 E3 E2;refine⟨_,_,_,β2,hrun,.inl rfl,S3,E1.trans (E2.trans E3),?_⟩
    unfold Rel; exact⟨_,hb2,by simp⟩
   ·cases hev
  ·cases hev
 ·cases hev
theorem QyG {ok:List (Nat×Nat×Nat)}{x:Operand}{x':O}{s d:TypeId}(ho:o.op= .convert s d x)(hc:Qty P s d ok=true)(hx:Qn x x'=true)(hE:Qo (view wr β h w) β e a.tmps)(S:Sim w0 wr β h w)
    (hev:evI base ws e h (.uns ok x')=some (u,h')):Xo P w0 wr β h w (execOp a.eval o) u h':=by
 dsimp only[evI]at hev;split at hev
 ·rename_i b ver sz p hv;split at hev
  ·rename_i b' v' T n hb;split at hev
   ·rename_i hcnd;obtain⟨rfl,rfl,hok⟩:=hcnd;simp at hev; obtain⟨rfl,rfl⟩:=hev;have hr:=Qf hE hx hv;have hr':=hr;unfold Rel at hr;obtain⟨c,hβ,hq⟩:=hr;simp only[Nat.zero_mul,Nat.zero_add]at hq;obtain⟨_,c',cs,fr,h1,h2,h3⟩:=S.tyd _ _ _ _ _ hb;rw[hβ]at h1; injection h1 with h1; injection h1 with h1; subst h1;have hsh:w.shape? c=some (T,n):=by unfold World.shape?; rw[h2]; simp[h3]
    have hmem:(T,n,p)∈ok:=by simpa using hok
    unfold Qty at hc;split at hc
    ·rename_i t hs;obtain⟨hc,h6⟩:=QK hc;obtain⟨h4,h5⟩:=QK hc;split at h4
     ·rename_i hd;split at h5
      ·rename_i i hi;have hlt:=List.all_eq_true.1 h6 _ hmem;simp at hlt;have hrun:=Lib.run_to_unsafe (P:=P) w ⟨c,p,none⟩ hs hd hi (by simpa using h5) hsh hlt
       exact .val (v:=.pointer (some ⟨c,p,none⟩)) (by simp[execOp,ho,hq,hrun]) S (by rw[←hq]; exact hr')
      ·cases h5
     ·cases h4
    ·rename_i hs;split at hc
     ·rename_i t hd;obtain⟨h4,h6⟩:=QK hc;obtain⟨i,hi⟩:=Option.isSome_iff_exists.1 h4;have hlies:=List.all_eq_true.1 h6 _ hmem;have hrun:=Lib.run_from_unsafe (P:=P) w ⟨c,p,none⟩ hs hd hi hsh hlies;exact .val (v:=.pointer (some ⟨c,p,none⟩)) (by simp[execOp,ho,hq,hrun]) S (by rw[←hq]; exact hr')
     ·cases hc
    ·cases hc
   ·cases hev
  ·cases hev
 ·cases hev
theorem Qxb {x:Operand}{x':O}{c:Call}(ho:o.op= .call c)(hc:c.callee= .builtin .unsafeSliceData)(ha:c.args.toList=[x])(hx:Qn x x'=true)(hE:Qo (view wr β h w) β e a.tmps)(S:Sim w0 wr β h w)
    (hev:evI base ws e h (.sdat x')=some (u,h')):Xo P w0 wr β h w (execOp a.eval o) u h':=by
 have hargs:c.args= #[x]:=by apply Array.ext'; simpa using ha
 have run: ∀v r,(Builtin.unsafeSliceData_ c.argTypes o.type #[v]).run P w= .ok r w->a.eval x=v->(execOp a.eval o).run P w= .ok (.value r) w:=by
  intro v r h1 h2;simp[execOp,ho,resolve,hc,hargs,invoke,builtin,h2,h1]
 dsimp only[evI]at hev;split at hev
 ·rename_i b hv;have hr:=Qf hE hx hv;simp at hev; obtain⟨rfl,rfl⟩:=hev;unfold Rel at hr;exact .val (run _ _ (Lib.run_unsafeSliceData_nil w _ _ _ _) hr.2) S (by unfold Rel; rfl)
 ·rename_i b ver off len hv;have hr:=Qf hE hx hv;split at hev
  ·cases hev
  ·rename_i hlen;simp at hev; obtain⟨rfl,rfl⟩:=hev;unfold Rel at hr;rcases hr with⟨cc,cap,h1,h2,h3,h4⟩ | ⟨_,h2,_⟩
   ·exact .val (run _ _ (Lib.run_unsafeSliceData_row w _ _ _ _ _ (by omega)) h2) S (by unfold Rel; exact⟨cc,h1,by simp⟩)
   ·exact absurd h2 hlen
 ·cases hev
theorem QwZ {T:TypeId}{x y:Operand}{x' y':O}{c:Call}{t it:TypeId}(ho:o.op= .call c)(hc:c.callee= .builtin .unsafeString)(ha:c.args.toList=[x,y])(htt:c.argTypes.toList=[t,it])(ht:P.underlying t=some (.pointer T))(h1:P.cellsOf T=1)
    (hx:Qn x x'=true) (hy:Qn y y'=true) (hE:Qo (view wr β h w) β e a.tmps) (S:Sim w0 wr β h w) (hws:wr<=ws)
    (hev:evI base ws e h (.ustr T x' y')=some (u,h')):Xo P w0 wr β h w (execOp a.eval o) u h':=by
 have hargs:c.args= #[x,y]:=by apply Array.ext'; simpa using ha
 have htypes:c.argTypes= #[t,it]:=by apply Array.ext'; simpa using htt
 have run: ∀v n r w',(Builtin.unsafeString_ #[t,it] o.type #[v,n]).run P w= .ok r w'->a.eval x=v->a.eval y=n->(execOp a.eval o).run P w= .ok (.value r) w':=by
  intro v n r w' h1 h2 h3;simp[execOp,ho,resolve,hc,hargs,htypes,invoke,builtin,h2,h3,h1]
 dsimp only[evI]at hev;split at hev
 ·rename_i q m hq hm;have hrx:=Qf hE hx hq;have hry:=Qf hE hy hm;unfold Rel at hry;split at hev
  ·rename_i hm0;subst hm0;split at hev
   ·simp at hev; obtain⟨rfl,rfl⟩:=hev;unfold Rel at hrx;exact .val (run _ _ _ _ (Lib.run_unsafeString_none w _ _ _ _) hrx hry) S (by unfold Rel; rfl)
   ·cases hev
  ·rename_i hm0;split at hev
   ·rename_i b ver;split at hev
    ·rename_i T' s hb;split at hev
     ·rename_i hcnd;obtain⟨rfl,rfl,rfl,hwb,hm32⟩:=hcnd;simp at hev; obtain⟨rfl,rfl⟩:=hev;unfold Rel at hrx;obtain⟨cc,hβ,hqv⟩:=hrx;simp only[Nat.zero_mul,Nat.add_zero]at hqv;have hcu:cur h b=some s.size:=by unfold cur; rw[hb]
      obtain⟨cs,hcell,hsz,hby⟩:=S.oth b _ _ cc hb hcu hβ;have hl:s.data.toList.length=s.size:=Array.length_toList;have hpos:s.size≠0:=fun e=>hm0 (by rw[e]; rfl)
      have hlt63:s.size<=9223372036854775807:=by omega
      have hrun:=Lib.run_unsafeString_row (P:=P) w t it o.type T' ht h1 cc cs.size (by unfold World.shape?; rw[hcell]) s.data.toList (fun e=>hpos (by rw[←hl,e]; rfl)) (by omega) (by omega) (fun j v hj=>by
       rw[Addr.add_lit,Nat.zero_add];unfold World.cell?; rw[hcell]; simpa using hby j v hj)
      rw[hl]at hrun
      obtain⟨S1,E1⟩:=QoU (w':=w.freeze ⟨cc,0,none⟩ s.size) (fr':=(0,s.size)) S hcu hβ (by omega) hcell (by unfold World.freeze; split<;>rfl) (by unfold World.freeze; split<;>rfl) (by unfold World.freeze; split<;>rfl)
       (by unfold World.freeze; rw[if_neg hpos]; simp) (fun k hk=>by unfold World.freeze; rw[if_neg hpos]; simp only[Array.getElem?_modify]; rw[if_neg (fun e=>hk e.symm)]) (by unfold World.freeze; rw[if_neg hpos]; simp[Array.getElem?_modify,hcell])
      exact⟨.value _,_,_,β,run _ _ _ _ hrun hqv hry,.inl rfl,S1,E1,by unfold Rel; rfl⟩
     ·cases hev
    ·cases hev
   ·cases hev
 ·cases hev
theorem QjQ : ∀{els:List AV} {l:List UInt8},Qso els=some l->els=l.map fun b=>AV.int .u8 b.toNat
 | [],l,h=>by simp[Qso]at h; subst h; rfl
 | x::r,l,h=>by
  unfold Qso at h;split at h
  ·rename_i h1; cases h1
  ·rename_i n r' h1;injection h1 with h1 h2;subst h1 h2;split at h
   ·rename_i hn;split at h
    ·rename_i q hq;injection h with h; subst h;rw[QjQ hq];simp only[List.map_cons,List.cons.injEq,AV.int.injEq,true_and,and_true];have:(UInt8.ofNat n.toNat).toNat=n.toNat:=by simp; omega
     rw[this]; omega
    ·cases h
   ·cases h
  ·cases h
theorem Qsl {v:AV}{t:ByteArray}(ht:Qxl h v=some t): ∃sb,appended sb h v=some (t.data.toList.map fun b=>AV.int .u8 b.toNat):=by
 unfold Qxl at ht;split at ht
 ·rename_i s; injection ht with ht; subst ht; exact⟨true,rfl⟩
 ·split at ht
  ·rename_i els hels;split at ht
   ·rename_i l hl;injection ht with ht; subst ht;exact⟨false,by simp only[appended]; simp[hels,QjQ hl]⟩
   ·cases ht
  ·cases ht
theorem Qoy {V:View}{b n c cap:Nat}(h0:n≠0)(hβ:β b n=some (some c))(h1:n<=cap)(h2:cap<=V.S c):Rel V β (JP b n) (.slice (some ⟨c,0,none⟩) n cap):=by
 unfold JP;rw[if_neg h0];unfold Rel;exact .inl ⟨c,cap,hβ,by simp,h1,by simpa using h2⟩
theorem Qxk {T lim:Nat}{x y:Operand}{x' y':O}{c:Call}{t u':TypeId}{i:TypeInfo}{z:Value}(ho:o.op= .call c)(hc:c.callee= .builtin .append)(ha:c.args.toList=[x,y])(htt:c.argTypes.toList=[t,u'])(F:QbV P t u' T 1 lim i z)(hzs:z.cells.size=1)
    (hx:Qn x x'=true) (hy:Qn y y'=true) (hE:Qo (view wr β h w) β e a.tmps) (S:Sim w0 wr β h w) (hws:wr<=ws)
    (hev:evI base ws e h (.appb T lim x' y')=some (u,h')):Xo P w0 wr β h w (execOp a.eval o) u h':=by
 have hargs:c.args= #[x,y]:=by apply Array.ext'; simpa using ha
 have htypes:c.argTypes= #[t,u']:=by apply Array.ext'; simpa using htt
 have fin: ∀r w',(Builtin.append_ #[t,u'] o.type #[a.eval x,a.eval y]).run P w= .ok r w'->(execOp a.eval o).run P w= .ok (.value r) w':=fun r w' hr=>by
  simp[execOp,ho,resolve,hc,hargs,htypes,invoke,builtin,hr]
 dsimp only[evI]at hev;split at hev
 ·rename_i xv yv hxv hyv;have hrx:=Qf hE hx hxv;have hry:=Qf hE hy hyv;split at hev
  ·rename_i b n tt hbo hto;split at hev
   ·rename_i T' s hb;split at hev
    ·rename_i hcnd;obtain⟨rfl,rfl,hwb,hlim⟩:=hcnd;simp at hev; obtain⟨rfl,rfl⟩:=hev;obtain⟨sb,hys⟩:=Qsl hto;obtain⟨ys,hysd⟩: ∃ys,ys=tt.data.toList.map fun b=>AV.int .u8 b.toNat:=⟨_,rfl⟩
     rw[←hysd]at hys;have hyl:ys.length=tt.size:=by rw[hysd,List.length_map]; exact Array.length_toList
     obtain⟨news,hlen,hnl,hnews,hbn,hone⟩:=Qev (P:=P) (sz:=1) S hys hry (fun v hv=>by rw[hysd]at hv; simp at hv; obtain⟨q,_,rfl⟩:=hv; exact⟨rfl,rfl⟩) (fun _=>rfl) (by omega)
     rw[hyl]at hlen hnl hnews
     have hnew: ∀(j:Nat) (v:UInt8),tt.data.toList[j]? =some v->news[j]? =some (.int .u8 (v.toNat:Int)):=fun j v hj=>by
      obtain⟨_,q⟩:=hbn 0 j (.int .u8 v.toNat) (by rw[hysd,List.getElem?_map,hj]; rfl)
      obtain⟨r,q1,q2⟩:=q 0 _ rfl;unfold Rel at q2;subst q2;simpa using q1
     have hbl:b<h.length:=(List.getElem?_eq_some_iff.1 hb).1
     have hcu:cur h b=some s.size:=by unfold cur; rw[hb]
     have happ:(s++tt).size=s.size+tt.size:=ByteArray.size_append;have hcub: ∀v,cur [Qq.buf T' (s++tt)] 0=some v->v=s.size+tt.size:=fun v hv=>by simpa[cur,eq_comm,happ]using hv
     have hold: ∀v,s.size+tt.size<v->β b v=none:=fun v hv=>S.old b v _ hcu (by omega)
     have hzc: ∀n,(Builtin.zeroCells z.cells n).size=n:=fun n=>by rw[size_zeroCells,hzs,Nat.mul_one]
     have hgc: ∀n cap,n<=grownCap w n cap T':=fun n cap=>by simp only[grownCap,Question.cut]; omega
     have hdata:(s++tt).data.toList=s.data.toList++tt.data.toList:=by simp
     have hsl:s.data.toList.length=s.size:=Array.length_toList;have htl:tt.data.toList.length=tt.size:=Array.length_toList
     have grown: ∀(olds:List Value) (cap:Nat) (q:Option Addr),tt.size≠0->olds.length=s.size->(∀(j:Nat) (v:UInt8),s.data.toList[j]? =some v->olds[j]? =some (.int .u8 (v.toNat:Int)))->(∃y,β b s.size=some y)->cap<s.size+tt.size->
          (Builtin.firstCells 1 s.size (.slice q s.size cap)).run P w.drew= .ok olds.toArray w.drew->a.eval x= .slice q s.size cap->
          Xo P w0 wr β h w (execOp a.eval o) (JP b (s.size+tt.size)) (h.set b (.buf T' (s++tt))):=by
      intro olds cap q ht0 ho1 ho2 hy0 hcap hload hxe;have hrun:=YF (ty:=o.type) F hlen (hnews w.drew rfl) hload hcap hlim;obtain⟨S1,E1⟩:=Qhi S;obtain⟨row,hrow⟩: ∃row,row=olds.toArray++news.toArray++Builtin.zeroCells z.cells (grownCap w (s.size+tt.size) cap T'-(s.size+tt.size)):=⟨_,rfl⟩;rw[←hrow]at hrun;have hcell:(w.drew.alloc (.cells row T')).heap[w.heap.size]? =some (.cells row T' (0,0)):=Qad w.drew _;have hg:=hgc (s.size+tt.size) cap
      have hrs:row.size=grownCap w (s.size+tt.size) cap T':=by
       rw[hrow]; simp only[Array.size_append,List.size_toArray,ho1,hnl,hzc]; omega
      have hnone:β b (s.size+tt.size)=none:=S.old b _ _ hcu (by omega)
      obtain⟨S2,E2⟩:=Qla (w':=w.drew.alloc (.cells row T')) (blk:=.buf T' (s++tt)) (ver:=s.size+tt.size) (c:=w.heap.size) S1 (Nat.le_of_lt hbl) (fun _=>by omega) hcub (fun _ h=>by cases h) (fun _ _ _ _ h=>by cases h)
       (.inl ⟨rfl,hnone⟩) hold rfl rfl rfl (by simp) (fun k hk _=>Qee w.drew _ hk) (by simp) (fun hlt=>absurd hlt (by simp)) (fun _ _ _ h=>by cases h)
       ⟨row,hcell,by rw[happ,hrs]; exact hg,fun j v hj=>by
        rw[hdata]at hj;rcases Nat.lt_or_ge j s.size with hjs | hjs
        ·rw[List.getElem?_append_left (by omega)]at hj
         rw[hrow,Array.append_assoc,Array.getElem?_append_left (by simp; omega)]
         simpa using ho2 j v hj
        ·rw[List.getElem?_append_right (by omega),hsl]at hj
         have hjt:j-s.size<tt.size:=by have:=(List.getElem?_eq_some_iff.1 hj).1; omega
         rw[hrow,Array.append_assoc,Array.getElem?_append_right (by simp; omega),Array.getElem?_append_left (by simp; omega)]
         simpa[ho1]using hnew _ v hj⟩
      rw[Ze hbl]at S2 E2;have hfr:=XT (x:=some w.heap.size) (β:=β) (b:=b) (blk:=.buf T' (s++tt)) (ver:=s.size+tt.size) (h:=h) hcub (.inr ⟨s.size,_,hcu,by omega,hy0.choose_spec⟩)
      rw[Ze hbl]at hfr;refine⟨.value _,_,_,_,fin _ _ (by rw[hxe]; exact hrun),.inl rfl,S2,E1.trans ⟨E2,hfr⟩,?_⟩
      exact Qoy (by omega) (by simp[QV]) hg (by rw[Jn hcell,hrs]; exact Nat.le_refl _)
     unfold Qox at hbo;split at hbo
     ·
      rename_i b1;injection hbo with hbo; injection hbo with e1 e2;subst e1;unfold Rel at hrx;obtain⟨hβ,hq⟩:=hrx;have hs0:s.size=0:=e2.symm;by_cases ht0:tt.size=0
      ·have hn0:news=[]:=List.eq_nil_of_length_eq_zero (by omega)
       rw[ht0]at hlen hnews;subst hn0
       have hst:s++tt=s:=by
        apply ByteArray.ext
        have:tt.data.toList=[]:=List.eq_nil_of_length_eq_zero (by omega)
        apply Array.ext'
        rw[hdata,this,List.append_nil]
       have hsame:h.set b1 (.buf T' (s++tt))=h:=by
        rw[hst]
        apply List.ext_getElem?
        intro k;by_cases hk:k=b1
        ·subst hk; rw[List.getElem?_set_self hbl,hb]
        ·rw[List.getElem?_set_ne (fun e=>hk e.symm)]
       rw[hsame];refine .val (fin _ _ (by rw[hq]; exact QaX F hlen (hnews w rfl) (Nat.le_refl _))) S ?_
       unfold JP;rw[if_pos (by omega)]
       unfold Rel;exact⟨hβ,rfl⟩
      ·refine grown [] 0 none ht0 (by simp[hs0]) (fun j v hj=>by
         have:=(List.getElem?_eq_some_iff.1 hj).1; omega) ⟨_,by rw[hs0]; exact hβ⟩ (by omega) ?_ (by rw[hs0]; exact hq)
       rw[hs0]; simp[Builtin.firstCells]
     ·
      rename_i b1 ver len;split at hbo
      ·rename_i hvl;obtain⟨rfl,hlen0⟩:=hvl;injection hbo with hbo; injection hbo with e1 e2;subst e1;subst e2;unfold Rel at hrx;rcases hrx with⟨cc,cap,hβ,hq,hcap,hS⟩ | ⟨_,hl0,_⟩
       ·simp only[Nat.zero_mul]at hq;obtain⟨cs,hcell,hsz,hby⟩:=S.oth b1 _ _ cc hb hcu hβ;rw[Jn hcell]at hS;simp only[Nat.zero_add,Nat.mul_one]at hS;by_cases hroom:s.size+tt.size<=cap
        ·have hrun:=Qew (ty:=o.type) (c:=cc) (p:=0) (len:=s.size) (cap:=cap) F hlen (hnews w rfl) hroom (fun j hj=>by
              unfold World.cell?; rw[hcell]; simp; omega) (fun j hj=>by unfold World.frozen?; rw[hcell]; simp) hone
         simp only[Nat.zero_add,Nat.mul_one]at hrun;obtain⟨⟨cs',h1,h2,h3⟩,h4,h5,h6,h7,h8⟩:=Yb cc news s.size w hcell
         obtain⟨S2,E2⟩:=Qla (w':=w.setCells cc s.size news) (blk:=.buf T' (s++tt)) (ver:=s.size+tt.size) (c:=cc) S (Nat.le_of_lt hbl) (fun _=>by omega) hcub (fun _ h=>by cases h) (fun _ _ _ _ h=>by cases h)
          (.inr ⟨s.size,hcu,hβ,by omega,(by
           by_cases ht0:tt.size=0
           ·exact .inl (by omega)
           ·exact .inr (S.old b1 _ _ hcu (by omega)))⟩) hold h5 h6 h7 (by omega) (fun k _ hk=>h4 k hk) (by rw[h8]; exact(S.dom b1 _ cc hβ).2.2) (fun _ cs0 T0 fr0 he=>by
           rw[hcell]at he; injection he with he; injection he with he he2;subst he2;exact⟨cs',_,h1,by rw[h2,he]⟩) (fun _ _ _ h=>by cases h)
          ⟨cs',h1,by rw[happ,h2]; omega,fun j v hj=>by
           rw[hdata]at hj;rw[h3];rcases Nat.lt_or_ge j s.size with hjs | hjs
           ·rw[List.getElem?_append_left (by omega)]at hj
            rw[if_neg (by omega)]
            exact hby j v hj
           ·rw[List.getElem?_append_right (by omega),hsl]at hj
            have hjt:j-s.size<tt.size:=by have:=(List.getElem?_eq_some_iff.1 hj).1; omega
            rw[if_pos ⟨hjs,by omega,by omega⟩]
            exact hnew _ v hj⟩
         rw[Ze hbl]at S2 E2;have hfr:=XT (x:=some cc) (β:=β) (b:=b1) (blk:=.buf T' (s++tt)) (ver:=s.size+tt.size) (h:=h) hcub (.inr ⟨s.size,_,hcu,by omega,hβ⟩)
         rw[Ze hbl]at hfr;refine⟨.value _,_,_,_,fin _ _ (by rw[hq]; exact hrun),.inl rfl,S2,⟨E2,hfr⟩,?_⟩
         exact Qoy (by omega) (by simp[QV]) hroom (by rw[Jn h1,h2]; exact hS)
        ·refine grown ((List.range s.size).map fun j=>(cs[j]?).getD undef) cap (some ⟨cc,0,none⟩) (by omega) (by simp) (fun j v hj=>?_) ⟨_,hβ⟩ (by omega) ?_ hq
         ·have hjl:j<s.size:=by have:=(List.getElem?_eq_some_iff.1 hj).1; omega
          rw[List.getElem?_map,List.getElem?_range hjl]
          simp only[Option.map_some];rw[hby j v hj]; rfl
         ·have:=run_loadCells (P:=P) w.drew ⟨cc,0,none⟩ s.size (fun j=>(cs[j]?).getD undef) (fun j hj=>by
            rw[Addr.add_lit,Nat.zero_add];have hc':w.drew.heap[cc]? =some (.cells cs T' (0,0)):=hcell;unfold World.cell?; rw[hc'];simp only[Option.isSome_none,Bool.false_eq_true,if_false];rw[Array.getElem?_eq_getElem (by omega)]; rfl)
          simpa[Builtin.firstCells]using this
       ·exact absurd hl0 hlen0
      ·cases hbo
     ·cases hbo
    ·cases hev
   ·cases hev
  ·cases hev
 ·cases hev
end
end Go.Avm
