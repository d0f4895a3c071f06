/- Operations that make memory. -/
import Derived.Test.YtflbneepngjglaaGreatDoorO09
import Derived.Laws.MakeOwn
import Derived.Lib.ConvBytes
set_option linter.all false
namespace Go.Avm
open Go.RowKit
section
variable {P : Program} {w0 : World} {wr base ws : Nat} {β : Beta} {h h' : H} {w : World} {e : Env} {a : Act} {u : AV} {o : Oper}
theorem Qet {α γ:Type}(f:α->Sem γ)(g:α->γ)(w:World): ∀(l:List α),(∀x∈l,(f x).run P w= .ok (g x) w)->(l.mapM f).run P w= .ok (l.map g) w
 | [],_=>by simp
 | x::l,h=>by
  rw[List.mapM_cons];simp only[Sem.run_bind,h x (by simp),Result.andThen_ok,Qet f g w l (fun y hy=>h y (by simp[hy]))]
  simp
theorem QiF {α γ:Type}(f:α->Sem γ)(g:α->γ)(w:World)(xs:Array α)(h: ∀x∈xs.toList,(f x).run P w= .ok (g x) w):(xs.mapM f).run P w= .ok (xs.map g) w:=by
 rw[Array.mapM_eq_mapM_toList];show(((fun l:List γ=>l.toArray)<$>xs.toList.mapM f:Sem (Array γ))).run P w=_
 rw[←bind_pure_comp];simp only[Sem.run_bind,Qet f g w xs.toList h,Result.andThen_ok];simp only[Function.comp,Sem.run_pure]
 congr 1
 apply Array.ext'
 simp
theorem Qkc (off:Nat): ∀(l:List Value) (k:Nat) (cs:Array Value),((l.zipIdx k).foldl (fun cs (p:Value×Nat)=>cs.setIfInBounds (off+p.2) p.1) cs).size=cs.size/\
    ∀p,((l.zipIdx k).foldl (fun cs (p:Value×Nat)=>cs.setIfInBounds (off+p.2) p.1) cs)[p]? =if off+k<=p/\p<off+k+l.length/\p<cs.size then l[p-(off+k)]? else cs[p]?
 | [],k,cs=>⟨rfl,fun p=>by simp; omega⟩
 | v::l,k,cs=>by
  obtain⟨h1,h2⟩:=Qkc off l (k+1) (cs.setIfInBounds (off+k) v);simp only[List.zipIdx_cons,List.foldl_cons];refine⟨by rw[h1]; simp,fun p=>?_⟩
  rw[h2];simp only[Array.size_setIfInBounds];by_cases hp:p=off+k
  ·subst hp;rw[if_neg (by omega)]
   by_cases hl:off+k<cs.size
   ·rw[if_pos ⟨Nat.le_refl _,by simp,hl⟩]; simp[hl]
   ·rw[if_neg (by omega)]; simp[hl,Array.getElem?_eq_none (Nat.le_of_not_lt hl)]
  ·by_cases hc:off+(k+1)<=p/\p<off+(k+1)+l.length/\p<cs.size
   ·rw[if_pos hc,if_pos ⟨by omega,by simp; omega,hc.2.2⟩,show p-(off+k)=(p-(off+(k+1)))+1 by omega]
    simp
   ·rw[if_neg hc,if_neg (by simp; omega),Array.getElem?_setIfInBounds_ne (fun e=>hp e.symm)]
theorem Qkm {place:Nat->Option (Nat×Nat)}{cells:Array Value}{i:Nat}{v:Value}{rest:List (Nat×Value)}{off size:Nat}(hp:place i=some (off,size))(hv:v.cells.size=size)(hfit:off+size<=cells.size):
    ∃cells',Instr.fill place cells ((i,v)::rest)=Instr.fill place cells' rest/\cells'.size=cells.size/\ ∀p,cells'[p]? =if off<=p/\p<off+size then v.cells[p-off]? else cells[p]?:=by
 obtain⟨h1,h2⟩:=Qkc off v.cells.toList 0 cells;refine⟨v.cells.zipIdx.foldl (fun cs (c,j)=>cs.setIfInBounds (off+j) c) cells,?_,?_,?_⟩
 ·rw[Instr.fill,hp];dsimp only;rw[if_neg (by simp[hv]; omega)]
 ·rw[←Array.foldl_toList,Array.toList_zipIdx];exact h1
 ·intro p;rw[←Array.foldl_toList,Array.toList_zipIdx];have:=h2 p;simp only[Nat.add_zero]at this;refine this.trans ?_
  by_cases hc:off<=p/\p<off+size
  ·rw[if_pos hc,if_pos ⟨hc.1,by simp[hv]; omega,by omega⟩]; simp
  ·rw[if_neg hc,if_neg (by simp[hv]; omega)]
theorem QdB {s:TypeId}{place:Nat->Option (Nat×Nat)}{V:View}(hpl: ∀f off sz,QeM P s f off sz=true->place f=some (off,sz))(hE:Qo V β e a.tmps): ∀(parts:List (Nat×Operand)) (ps:List (Nat×Nat×O)) (qs:List (Nat×List AV)) (zero l:List AV) (cells:Array Value),
    YX P s parts ps=true->partsOf e ps=some qs->Qkn zero qs=some l->Qr V β zero cells.toList->
    ∃cells',Instr.fill place cells (parts.map fun p=>(p.1,a.eval p.2))=some cells'/\Qr V β l cells'.toList
 | [],[],qs,zero,l,cells,_,hq,hf,hr=>by
  simp[partsOf]at hq; subst hq;simp[Qkn]at hf; subst hf;exact⟨cells,rfl,hr⟩
 | (f,x)::parts,(off,sz,y)::ps,qs,zero,l,cells,hp,hq,hf,hr=>by
  simp only[YX,Bool.and_eq_true]at hp;obtain⟨⟨hfi,hxy⟩,hrest⟩:=hp;unfold partsOf at hq;split at hq
  ·rename_i v r hv hr';split at hq
   ·rename_i hc;injection hq with hq; subst hq;unfold Qkn at hf;split at hf
    ·rename_i hfit
     ·have hpf:=hpl _ _ _ hfi;have hrel:=Qf hE hxy hv;obtain⟨hl,_⟩:=WY hc.2 hrel;have hsz:(a.eval x).cells.size=sz:=by have:=(Qp.1 hl).1; simpa[hc.1]using this
      have hcl:=(Qp.1 hr).1
      obtain⟨cells',h1,h2,h3⟩:=Qkm (place:=place) (cells:=cells) (i:=f) (v:=a.eval x) (rest:=parts.map fun p=>(p.1,a.eval p.2)) (off:=off) (size:=sz)
       hpf hsz (by simp at hcl; omega)
      obtain⟨cells2,h4,h5⟩:=QdB hpl hE parts ps r _ l cells' hrest hr' hf (Qp.2 ⟨by simp at hcl ⊢; omega,fun j z hj=>by
       have hvl:=hc.1;simp only[Array.getElem?_toList,h3]
       by_cases hin:off<=j/\j<off+sz
       ·rw[if_pos hin];rw[List.append_assoc,List.getElem?_append_right (by simp; omega),List.getElem?_append_left (by simp; omega)]at hj
        obtain⟨q,h6,h7⟩:=(Qp.1 hl).2 _ z hj;refine⟨q,?_,h7⟩
        rw[←Array.getElem?_toList,←h6]; congr 1; simp; omega
       ·rw[if_neg hin]
        have:zero[j]? =some z:=by
         rcases Nat.lt_or_ge j off with hlt | hge
         ·rw[List.append_assoc,List.getElem?_append_left (by simp; omega),List.getElem?_take,if_pos hlt]at hj
          exact hj
         ·rw[List.getElem?_append_right (by simp; omega),List.getElem?_drop]at hj
          rw[←hj]; congr 1; simp; omega
        obtain⟨q,h6,h7⟩:=(Qp.1 hr).2 j z this;exact⟨q,by simpa using h6,h7⟩⟩)
      exact⟨cells2,by rw[List.map_cons,h1]; exact h4,h5⟩
    ·cases hf
   ·cases hq
  ·cases hq
 | [],_::_,_,_,_,_,hp,_,_,_=>by simp[YX]at hp
 | _::_,[],_,_,_,_,hp,_,_,_=>by simp[YX]at hp
theorem QuP {zero:List AV}{ps:List (Nat×Nat×O)}{t:TypeId}{parts:Array (Nat×Operand)}(ho:o.op= .build t parts)(hz:Yt P t (.agg zero)=true)(hall:QiJ P t=true)(hp:YX P t parts.toList ps=true)
    (hE:Qo (view wr β h w) β e a.tmps) (S:Sim w0 wr β h w) (hev:evI base ws e h (.build zero ps)=some (u,h')):Xo P w0 wr β h w (execOp a.eval o) u h':=by
 dsimp only[evI]at hev;split at hev
 ·rename_i qs hq;split at hev
  ·rename_i l hl;simp at hev; obtain⟨rfl,rfl⟩:=hev;obtain⟨zv,hz1,_,hz2⟩:=Jm hz;have hzr:=hz2 (view wr β h w) β;unfold Rel at hzr;obtain⟨zs,rfl,hzr⟩:=hzr;unfold QiJ at hall;split at hall
   ·rename_i fs hs
    have hpl: ∀f off sz,QeM P t f off sz=true->((fs.map fun f=>(f.offset,((P.info? f.type).map (·.size)).getD 0))[·]?) f=some (off,sz):=fun f off sz hfi=>by
     unfold QeM QgH at hfi;rw[hs]at hfi;dsimp only at hfi;split at hfi
     ·rename_i fd hfd;rw[Bool.and_eq_true]at hfi;obtain⟨ho,hz⟩:=hfi;simp at ho;obtain⟨i,hi,hiz⟩:=WS hz;simp[hfd,ho,hi,hiz]
     ·cases hfi
    obtain⟨cells',h1,h2⟩:=QdB hpl hE parts.toList ps qs zero l zs hp hq hl hzr;refine .val (v:=.agg cells') ?_ S (by unfold Rel; exact⟨_,rfl,h2⟩)
    have hm:=QiF (P:=P) (fun f:Field=>do pure (f.offset,←sizeOf f.type)) (fun f=>(f.offset,((P.info? f.type).map (·.size)).getD 0)) w fs (fun f hf=>by
     have:=List.all_eq_true.1 hall f hf;obtain⟨i,hi⟩:=Option.isSome_iff_exists.1 this;simp[sizeOf,typeInfo,hi])
    have hparts:(parts.map fun p=>(p.1,a.eval p.2)).toList=parts.toList.map fun p=>(p.1,a.eval p.2):=by simp
    simp only[execOp,ho,Instr.build,Sem.run_bind,hz1,Result.andThen_ok,run_underlying hs,hm,Value.cells,hparts,h1];simp
   ·rename_i n el hs;obtain⟨i,hi⟩:=Option.isSome_iff_exists.1 hall
    have hpl: ∀f off sz,QeM P t f off sz=true->(fun k=>some (k*i.size,i.size)) f=some (off,sz):=fun f off sz hfi=>by
     unfold QeM at hfi;rw[hs]at hfi;dsimp only at hfi;rw[Bool.and_eq_true]at hfi;obtain⟨ho,hz⟩:=hfi;obtain⟨j,hj,hjz⟩:=WS hz;rw[hi]at hj;cases hj;simp at ho;simp[ho,hjz]
    obtain⟨cells',h1,h2⟩:=QdB hpl hE parts.toList ps qs zero l zs hp hq hl hzr;refine .val (v:=.agg cells') ?_ S (by unfold Rel; exact⟨_,rfl,h2⟩)
    have hparts:(parts.map fun p=>(p.1,a.eval p.2)).toList=parts.toList.map fun p=>(p.1,a.eval p.2):=by simp
    have hsz:(sizeOf el).run P w= .ok i.size w:=by simp[sizeOf,typeInfo,hi]
    simp only[execOp,ho,Instr.build,Sem.run_bind,hz1,Result.andThen_ok,run_underlying hs,hsz,Value.cells,hparts,h1];simp
   ·cases hall
  ·cases hev
 ·cases hev
theorem QqS {V:View}{c sz n:Nat}{z:AV}{zv:Value}(hz:Rel V β z zv)(h1:z.ZF=true)(hl:z.cells.length=sz)(h0:0<sz):BE (fun _ o=>(madeCells zv.cells (n*sz))[o]?) V β c 0 sz (List.replicate n z):=by
 intro i x hi;have hi':i<n:=by have:=(List.getElem?_eq_some_iff.1 hi).1; simpa using this
 rw[List.getElem?_replicate,if_pos hi']at hi
 injection hi with hi; subst hi;refine⟨hl,fun j y hj=>?_⟩
 obtain⟨hr,_⟩:=WY h1 hz;have hzl:zv.cells.size=sz:=by have:=(Qp.1 hr).1; simpa[hl]using this
 obtain⟨v,h2,h3⟩:=(Qp.1 hr).2 j y hj;have hj':j<sz:=by have:=(List.getElem?_eq_some_iff.1 hj).1; omega
 refine⟨v,?_,h3⟩
 have hlt:i*sz+j<n*sz:=by
  have:(i+1)*sz<=n*sz:=Nat.mul_le_mul_right _ hi';rw[Nat.succ_mul]at this; omega
 have hmod:(i*sz+j)%zv.cells.size=j:=by rw[hzl,Nat.add_comm,Nat.add_mul_mod_self_right]; exact Nat.mod_eq_of_lt hj'
 simp only[Nat.zero_add,madeCells];rw[Array.getElem?_map]
 simp[hlt,hmod];simp at h2;rw[getElem!_pos _ _ (by omega)]
 rw[Array.getElem?_eq_getElem (by omega)]at h2
 injection h2
theorem QqP (S:Sim w0 wr β h w)(hwr:wr<=h.length)(t:TypeId){els:List AV}{sz:Nat}{cs:Array Value}(hsz:els.length*sz<=cs.size)(hb:BE (fun _ o=>cs[o]?) (view wr β h w) β w.heap.size 0 sz els)(cap:Nat)(hc1:els.length<=cap)(hc2:cap*sz<=cs.size):
    ∃β',Sim w0 wr β' (h++ [.arr 0 sz els]) (w.alloc (.cells cs t))/\Ext wr β h w β' (h++ [.arr 0 sz els]) (w.alloc (.cells cs t))/\
     Rel (view wr β' (h++ [.arr 0 sz els]) (w.alloc (.cells cs t))) β' (.osl h.length 0 sz 0 els.length) (.slice (some ⟨w.heap.size,0,none⟩) els.length cap):=by
 obtain⟨β',S1,E1,hβ,hS⟩:=Qqy S hwr cs t hsz hb;refine⟨β',S1,E1,?_⟩
 unfold Rel;exact .inl ⟨_,cap,hβ,by simp,hc1,by rw[hS]; simpa using hc2⟩
theorem QyK {sz lim:Nat}{zero:AV}{l c:Operand}{l' c':O}{t el:TypeId}(ho:o.op= .makeSlice t l c)(ht:P.underlying t=some (.slice el))(hsz:JC P el sz=true)(hz:Yt P el zero=true)(hz1:zero.ZF=true)(hzl:zero.cells.length=sz)(h0:0<sz)
    (hlim:Wj P el lim 140737488355328=true) (hl:Qn l l'=true) (hc:Qn c c'=true) (hE:Qo (view wr β h w) β e a.tmps) (S:Sim w0 wr β h w) (hwr:wr<=h.length)
    (hev:evI base ws e h (.mks sz lim zero l' c')=some (u,h')):Xo P w0 wr β h w (execOp a.eval o) u h':=by
 dsimp only[evI]at hev;split at hev
 ·rename_i k n k' m hv1 hv2;split at hev
  ·rename_i hcnd;obtain⟨rfl,hn0,hnl,rfl,rfl⟩:=hcnd;simp at hev; obtain⟨rfl,rfl⟩:=hev;have hr1:=Qf hE hl hv1;have hr2:=Qf hE hc hv2;unfold Rel at hr1 hr2;obtain⟨zv,_,⟨i,hi,hiz⟩,hzr⟩:=Jm hz;obtain⟨i2,hi2,hisz⟩:=WS hsz;rw[hi]at hi2; injection hi2 with hi2; subst hi2;unfold Wj at hlim;rw[hi]at hlim;simp at hlim
   have hb:i.bytes*n.toNat<=140737488355328:=by
    have:=Nat.mul_le_mul_right i.bytes hnl;rw[Nat.mul_comm]; omega
   have hnb:n.toNat<=140737488355328:=Nat.le_trans (Nat.le_mul_of_pos_left _ hlim.2) hb
   have hrun:=run_make (P:=P) w t el i zv ht hi hiz .i64 .i64 n n hn0 (Int.le_refl _) (by
    have:((i.bytes*n.toNat:Nat):Int)<=140737488355328:=by omega
    rw[Int.natCast_mul,Int.toNat_of_nonneg hn0]at this;omega) (by omega)
   rw[hisz]at hrun;have hbe:=QqS (V:=view wr β h w) (β:=β) (c:=w.heap.size) (n:=n.toNat) (hzr (view wr β h w) β) hz1 hzl h0;obtain⟨β',S1,E1,r1⟩:=QqP S hwr el (els:=List.replicate n.toNat zero) (sz:=sz) (cs:=madeCells zv.cells (n.toNat*sz)) (by simp[size_madeCells]) hbe n.toNat (by simp) (by simp[size_madeCells])
   refine⟨.value _,.slice (some ⟨w.heap.size,0,none⟩) n.toNat n.toNat,_,β',?_,.inl rfl,S1,E1,by simpa using r1⟩
   simp only[execOp,ho,hr1,hr2,Sem.run_bind,hrun,Result.andThen_ok];rfl
  ·cases hev
 ·cases hev
theorem Qoz {sz n:Nat}(h0:0<sz): ∀(parts:List (Nat×Operand)) (ps:List (Nat×O)) (els els':List AV) (h h':H) (cells:Array Value),
    Qdk parts ps=true->QS base e sz ps els h=some (els',h')->wr<=base->Sim w0 wr β h w->Qo (view wr β h w) β e a.tmps->cells.size=n*sz->els.length=n->BE (fun _ o=>cells[o]?) (view wr β h w) β w.heap.size 0 sz els->
    ∃cells',Instr.fill (fun i=>some (i*sz,sz)) cells (parts.map fun p=>(p.1,a.eval p.2))=some cells'/\cells'.size=n*sz/\els'.length=n/\Sim w0 wr β h' w/\Ext wr β h w β h' w/\BE (fun _ o=>cells'[o]?) (view wr β h' w) β w.heap.size 0 sz els'
 | [],[],els,els',h,h',cells,_,hb,_,S,_,hs,hn,hbe=>by
  simp[QS]at hb;obtain⟨rfl,rfl⟩:=hb;exact⟨cells,rfl,hs,hn,S,Ext.refl _ _ _ _,hbe⟩
 | (i,x)::parts,(i',y)::ps,els,els',h,h',cells,hp,hb,hwb,S,hE,hs,hn,hbe=>by
  simp only[Qdk,Bool.and_eq_true]at hp;obtain⟨⟨hii,hxy⟩,hrest⟩:=hp;simp at hii; subst hii;unfold QS at hb;split at hb
  ·rename_i v hv;split at hb
   ·rename_i v' h1 hf;split at hb
    ·rename_i hc;obtain⟨hc1,hc2,hc3⟩:=hc;have hrel:=Qf hE hxy hv;obtain⟨S1,E1,_,_,_,r1,_⟩:=QhR hwb deep v h v' h1 (a.eval x) hf S hrel;have r1:=Rel.mono (View.Le.refl _) (Qhu base β) _ _ r1;obtain⟨hl,_⟩:=WY hc2 r1;have hsz:(a.eval x).cells.size=sz:=by have:=(Qp.1 hl).1; simpa[hc1]using this
     have hroom:i*sz+sz<=n*sz:=by
      have:(i+1)*sz<=n*sz:=Nat.mul_le_mul_right _ (by omega)
      rwa[Nat.succ_mul]at this
     obtain⟨cells',h2,h3,h4⟩:=Qkm (place:=fun i=>some (i*sz,sz)) (cells:=cells) (i:=i) (v:=a.eval x) (rest:=parts.map fun p=>(p.1,a.eval p.2)) (off:=i*sz) (size:=sz) rfl hsz (by omega)
     obtain⟨cells2,h5,h6,h7,S2,E2,h8⟩:=Qoz (n:=n) h0 parts ps (els.set i v') els' h1 h' cells' hrest hb hwb S1 (hE.mono E1.view E1.beta) (by omega) (by simpa using hn) (fun k z hk=>by
      by_cases hki:k=i
      ·subst hki;rw[List.getElem?_set_self (by omega)]at hk
       injection hk with hk; subst hk;refine⟨hc1,fun q y hq=>?_⟩
       have hqs:q<sz:=by have:=(List.getElem?_eq_some_iff.1 hq).1; omega
       obtain⟨r,h9,h10⟩:=(Qp.1 hl).2 q y hq;refine⟨r,?_,h10⟩
       simp only[Nat.zero_add];rw[h4,if_pos ⟨by omega,by omega⟩,←Array.getElem?_toList,←h9]
       congr 1; omega
      ·rw[List.getElem?_set_ne (fun e=>hki e.symm)]at hk
       refine⟨(hbe k z hk).1,fun q y hq=>?_⟩
       have hqs:q<sz:=by have:=(List.getElem?_eq_some_iff.1 hq).1; have:=(hbe k z hk).1; omega
       obtain⟨r,h9,h10⟩:=(hbe k z hk).2 q y hq;refine⟨r,?_,Rel.mono E1.view E1.beta _ _ h10⟩
       simp only[Nat.zero_add]at h9 ⊢;rw[h4,if_neg,h9]
       rintro⟨h11,h12⟩
       exact hki (Qnd (q:=k*sz+q-i*sz) hqs (by omega) (by omega)).1)
     exact⟨cells2,by rw[List.map_cons,h2]; exact h5,h6,h7,S2,E1.trans E2,h8⟩
    ·cases hb
   ·cases hb
  ·cases hb
 | [],_::_,_,_,_,_,_,hp,_,_,_,_,_,_,_=>by simp[Qdk]at hp
 | _::_,[],_,_,_,_,_,hp,_,_,_,_,_,_,_=>by simp[Qdk]at hp
theorem QyP {sz n:Nat}{zero:AV}{ps:List (Nat×O)}{t el:TypeId}{parts:Array (Nat×Operand)}(ho:o.op= .buildSlice t n parts)(ht:P.underlying t=some (.slice el))(hsz:JC P el sz=true)(hz:Yt P el zero=true)(hz1:zero.ZF=true)(hzl:zero.cells.length=sz)(h0:0<sz)
    (hlim:n*sz<=16777216) (hp:Qdk parts.toList ps=true) (hE:Qo (view wr β h w) β e a.tmps) (S:Sim w0 wr β h w) (hwb:wr<=base) (hwr:wr<=h.length)
    (hev:evI base ws e h (.bsl sz n zero ps)=some (u,h')):Xo P w0 wr β h w (execOp a.eval o) u h':=by
 dsimp only[evI]at hev;split at hev
 ·rename_i els h1 hb;simp at hev; obtain⟨rfl,rfl⟩:=hev;obtain⟨zv,hzv,_,hzr⟩:=Jm hz;have hbe:=QqS (V:=view wr β h w) (β:=β) (c:=w.heap.size) (n:=n) (hzr (view wr β h w) β) hz1 hzl h0;obtain⟨cells',h2,h3,h4,S1,E1,hbe1⟩:=Qoz (n:=n) h0 parts.toList ps (List.replicate n zero) els h h1 (madeCells zv.cells (n*sz)) hp hb hwb S hE (size_madeCells _ _) (by simp) hbe
  obtain⟨β',S2,E2,r2⟩:=QqP S1 (Nat.le_trans hwr E1.len) el (els:=els) (sz:=sz) (cs:=cells') (by rw[h3,h4]; exact Nat.le_refl _) hbe1 n (by omega) (by omega)
  rw[h4]at r2;refine⟨.value _,.slice (some ⟨w.heap.size,0,none⟩) n n,_,β',?_,.inl rfl,S2,E1.trans E2,r2⟩
  have hparts:(parts.map fun p=>(p.1,a.eval p.2)).toList=parts.toList.map fun p=>(p.1,a.eval p.2):=by simp
  simp only[execOp,ho,Instr.buildSlice,Sem.run_bind,run_underlying ht,Result.andThen_ok,JE hsz];rw[if_neg (by omega)]
  by_cases hns:n*sz=0
  ·rw[if_pos hns]
   have hmade:(Array.range (n*sz)).map ((#[]:Array Value)[· %(#[]:Array Value).size]!)=madeCells zv.cells (n*sz):=by
    simp[hns,madeCells,Array.range_zero']
   simp only[pure_bind,hmade,hparts,h2,Sem.run_bind,newRow,run_newObj_alloc,Sem.run_pure,Result.andThen_ok]
  ·rw[if_neg hns];have hmade:(Array.range (n*sz)).map (zv.cells[· %zv.cells.size]!)=madeCells zv.cells (n*sz):=rfl;simp only[Sem.run_bind,hzv,Result.andThen_ok,pure_bind,hmade,hparts,h2,newRow,run_newObj_alloc,Sem.run_pure]
 ·cases hev
theorem Qcr {x:AV}{l:List AV}{v:Value}(S:Sim w0 wr β h w)(hc:Zv h x=some l)(hr:Rel (view wr β h w) β x v):
    ∃q cap,v= .slice q l.length cap/\l.length<=cap/\(l=[]\/ ∃c p sz,q=some ⟨c,p,none⟩/\BE (rdw w) (view wr β h w) β c p sz l):=by
 unfold Zv at hc;split at hc
 ·injection hc with hc; subst hc;unfold Rel at hr;obtain⟨q,cap,h1,h2,h3⟩:=hr;refine⟨q,cap,h1,h2,?_⟩
  rcases h3 with h3 | ⟨c,p,sz,h3,h4⟩
  ·exact .inl h3
  ·exact .inr ⟨c,p,sz,h3,(Zx.1 h4).mono (fun _ _ h=>QmX h) (View.Le.refl _) (Beta.Le.refl _)⟩
 ·injection hc with hc; subst hc;unfold Rel at hr;obtain⟨q,rfl⟩:=hr;exact⟨q,0,rfl,Nat.le_refl _,.inl rfl⟩
 ·rename_i b ver sz off len;obtain⟨all,hb,hoff,rfl⟩:=Qcj hc;have hll:((all.drop off).take len).length=len:=by simp; omega
  unfold Rel at hr;rcases hr with⟨c,cap,h1,rfl,h2,h3⟩ | ⟨h1,rfl,rfl,q,rfl⟩
  ·obtain⟨_,_,hbe⟩:=S.arr b ver sz all c hb h1;exact⟨_,cap,by rw[hll],by omega,.inr ⟨c,off*sz,sz,rfl,hbe.part off len⟩⟩
  ·exact⟨q,0,rfl,by simp,.inl (by simp)⟩
 ·cases hc
theorem Qna : ∀(ns:List Int) (s:ByteArray),ns.foldl (fun r n=>r.push (UInt8.ofNat n.toNat)) s=⟨(s.data.toList++ns.map fun n=>UInt8.ofNat n.toNat).toArray⟩
 | [],s=>by cases s; simp
 | n::ns,s=>by
  rw[List.foldl_cons,Qna ns];cases s with
  | mk d=>simp[ByteArray.push]
theorem Qov {x:AV}{els:List AV}{l:List UInt8}{v:Value}(S:Sim w0 wr β h w)(hels:Zv h x=some els)(hl:Js els=some l)(hr:Rel (view wr β h w) β x v):
    ∃q n cap,v= .slice q n cap/\((q=none/\n=0/\l=[])\/ ∃(ad:Addr) (ns:List Int),q=some ad/\(loadCells ad n).run P w= .ok (ns.map (Value.int .u8)).toArray w/\ns.foldl (fun r n=>r.push (UInt8.ofNat n.toNat)) ByteArray.empty=⟨l.toArray⟩):=by
 have nums: ∀(els:List AV) (l:List UInt8),Js els=some l-> ∃ns:List Int,els=ns.map (AV.int .u8)/\l=ns.map fun n=>UInt8.ofNat n.toNat:=by
  intro els
  induction els with
  | nil=>intro l hl; simp[Js]at hl; subst hl; exact⟨[],rfl,rfl⟩
  | cons y els ih=>
   intro l hl;unfold Js at hl;split at hl
   ·rename_i heq; cases heq
   ·rename_i n l2 heq;injection heq with h1 h2; subst h1 h2;split at hl
    ·rename_i r hr;injection hl with hl; subst hl;obtain⟨ns,rfl,rfl⟩:=ih r hr;exact⟨n::ns,rfl,rfl⟩
    ·cases hl
   ·cases hl
 obtain⟨ns,rfl,rfl⟩:=nums els l hl;obtain⟨q,cap,rfl,hcap,hc⟩:=Qcr S hels hr;refine⟨q,_,cap,rfl,?_⟩
 rcases hc with hnil | ⟨c,p,sz,rfl,hbe⟩
 ·simp at hnil; subst hnil;cases q with
  | none=>exact .inl ⟨rfl,rfl,rfl⟩
  | some ad=>exact .inr ⟨ad,[],rfl,by simp[loadCells,loadCellsFrom],rfl⟩
 ·refine .inr ⟨_,ns,rfl,?_,by rw[Qna]; rfl⟩
  have:=run_loadCells_list (P:=P) w ⟨c,p,none⟩ (ns.map (Value.int .u8)) (fun j u hj=>by
   rw[List.getElem?_map]at hj
   cases hn:ns[j]? with
   | none=>rw[hn]at hj; simp at hj
   | some n=>
    rw[hn]at hj; simp at hj; subst hj;obtain⟨h1,h2⟩:=hbe j (.int .u8 n) (by simp[hn])
    have h1:sz=1:=h1.symm;subst h1;obtain⟨y,h3,h4⟩:=h2 0 (.int .u8 n) rfl;unfold Rel at h4; subst h4;rw[Addr.add_lit];simpa[rdw]using h3)
  simpa using this
theorem Qxj {cv:Conv}{x:Operand}{x':O}{s d:TypeId}(ho:o.op= .convert s d x)(hc:QeZ P s d cv=true)(hx:Qn x x'=true)(hE:Qo (view wr β h w) β e a.tmps)(S:Sim w0 wr β h w)(hwr:wr<=h.length)
    (hev:evI base ws e h (.conv cv x')=some (u,h')):Xo P w0 wr β h w (execOp a.eval o) u h':=by
 dsimp only[evI]at hev;split at hev
 ·rename_i v hv;have hr:=Qf hE hx hv;split at hev
  ·rename_i k k' n;simp at hev; obtain⟨rfl,rfl⟩:=hev;unfold Rel at hr;simp only[QeZ,Bool.and_eq_true]at hc;obtain⟨sd,hs⟩:=Option.isSome_iff_exists.1 hc.1
   have hd:P.underlying d=some (.int k):=by
    have:=hc.2;split at this
    ·rename_i k2 hk; simp at this; rw[hk,this]
    ·cases this
   exact .val (v:=.int k (k.wrap n)) (by simp[execOp,ho,hr,convert,run_underlying hs,run_underlying hd,Conv.intToInt]) S (by unfold Rel; rfl)
  ·rename_i str;simp at hev; obtain⟨rfl,rfl⟩:=hev;unfold Rel at hr;simp only[QeZ,Bool.and_eq_true]at hc;obtain⟨sd,hs⟩:=Option.isSome_iff_exists.1 hc.1;have hd:=YL hc.2;exact .val (v:=.string str) (by simp[execOp,ho,hr,convert,run_underlying hs,run_underlying hd]) S (by unfold Rel; rfl)
  ·rename_i str;simp at hev; obtain⟨rfl,rfl⟩:=hev;unfold Rel at hr;simp only[QeZ,Bool.and_eq_true]at hc;obtain⟨sd,hs⟩:=Option.isSome_iff_exists.1 hc.1;have h2:=hc.2;split at h2
   ·rename_i el hel;have hd:=XH hel;split at h2
    ·rename_i he;have hrun:=Lib.run_convert_string_bytes (P:=P) w s d el str hs hd he;have hcap:str.size<=grownCap w str.size 0 el:=by simp only[grownCap,Question.cut]; omega
     have hcell:=Lib.bytesWorld_at_new w el str
     have hcs:(Lib.bytesCells w el str).size=grownCap w str.size 0 el:=by
      simp only[Lib.bytesCells,Array.size_append,Array.size_map,Array.size_replicate];have:str.data.size=str.size:=rfl;omega
     have key:=QbZ (w':=Lib.bytesWorld w el str) S (b:=h.length) (ver:=0) (sz:=1) (c:=w.heap.size) (els:=str.data.toList.map fun b=>.int .u8 b.toNat) (Nat.le_refl _) hwr (.inl ⟨rfl,.inl (XU S (Nat.le_refl _) 0)⟩)
      (fun v _=>XU S (Nat.le_refl _) v) rfl rfl rfl (by rw[Lib.bytesWorld_size]; omega) (fun k hk _=>Lib.bytesWorld_at_old w el str k hk) hcell (by
       simp only[List.length_map,Array.length_toList,Nat.mul_one,hcs]; exact hcap) (fun hlt=>by omega)
      (fun p hp=>by unfold World.frozen?; rw[hcell]; simp; omega) (fun i z hi=>by
       rw[List.getElem?_map]at hi
       cases hb:str.data.toList[i]? with
       | none=>rw[hb]at hi; simp at hi
       | some b=>
        rw[hb]at hi; simp at hi; subst hi;have hlt:i<str.size:=by have:=(List.getElem?_eq_some_iff.1 hb).1; simpa using this
        refine⟨rfl,fun j y hj=>?_⟩
        cases j with
        | zero=>
         simp[AV.cells]at hj; subst hj;refine⟨.int .u8 b.toNat,?_,by unfold Rel; rfl⟩
         unfold rdw;simp only[Nat.zero_add,Nat.mul_one,Nat.add_zero];rw[Lib.bytesWorld_cell w el str i hlt,List.getD_eq_getElem?_getD,hb]; rfl
        | succ j=>simp[AV.cells]at hj)
     have hfr:=XT (x:=some w.heap.size) (β:=β) (blk:=.arr 0 1 (str.data.toList.map fun b=>.int .u8 b.toNat)) (ver:=0) (h:=h) (fun v hv=>by simpa[cur,eq_comm]using hv) (.inl rfl)
     rw[ZL]at hfr;rw[ZL]at key;refine⟨.value _,.slice (some ⟨w.heap.size,0,none⟩) str.size (grownCap w str.size 0 el),_,_,?_,.inl rfl,key.1,⟨key.2.1,hfr⟩,?_⟩
     ·simp only[execOp,ho,hr,Sem.run_bind,hrun,Result.andThen_ok]; rfl
     ·unfold Rel;exact .inl ⟨w.heap.size,_,by simp[QV],by simp,hcap,by rw[key.2.2,hcs]; simp⟩
    ·cases h2
   ·cases h2
  ·rename_i v1 hcv _;split at hev
   ·rename_i els hels;split at hev
    ·rename_i l hl;simp at hev; obtain⟨rfl,rfl⟩:=hev;simp only[QeZ,Bool.and_eq_true]at hc;have hd:=YL hc.1;have h2:=hc.2;split at h2
     ·rename_i el hel;have hs:=XH hel;split at h2
      ·rename_i he;obtain⟨q,n,cap,hval,hcells⟩:=Qov (P:=P) S hels hl hr;refine .val (v:=.string ⟨l.toArray⟩) ?_ S (by unfold Rel; rfl)
       simp only[execOp,ho,Sem.run_bind,hval];rw[run_convert_bytes_string (P:=P) w s d el q n cap hs he hd];rcases hcells with⟨rfl,rfl,rfl⟩ | ⟨ad,ns,rfl,hload,hns⟩
       ·simp[Conv.bytesToString]; rfl
       ·rw[run_bytesToString (P:=P) w ad n cap ns hload];simp only[Result.andThen_ok,Sem.run_pure];rw[hns]
      ·cases h2
     ·cases h2
    ·cases hev
   ·cases hev
  ·cases hev
 ·cases hev
end
end Go.Avm
