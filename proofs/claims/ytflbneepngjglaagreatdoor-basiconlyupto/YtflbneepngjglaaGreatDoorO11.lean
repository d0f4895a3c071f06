/- append, slices of slices, strings gone through. -/
import Derived.Test.YtflbneepngjglaaGreatDoorO10
set_option linter.all false
namespace Go.Avm
open Go.RowKit
section
variable {P : Program} {w0 : World} {wr base ws : Nat} {β : Beta} {h h' : H} {w : World} {e : Env} {a : Act} {u : AV} {o : Oper}
theorem Qev {y:AV}{ys:List AV}{v:Value}{sz:Nat}{str:Bool}(S:Sim w0 wr β h w)(hys:appended str h y=some ys)(hr:Rel (view wr β h w) β y v)(hz: ∀x∈ys,x.cells.length=sz/\x.ZF=true)(hst:str=true->sz=1)(h0:0<sz):
    ∃news:List Value,(Builtin.lenOf v).run P w= .ok ys.length w/\news.length=ys.length*sz/\(∀w':World,w'.heap=w.heap->(Builtin.firstCells sz ys.length v).run P w'= .ok news.toArray w')/\
     (∀c,BE (fun _ p=>news[p]?) (view wr β h w) β c 0 sz ys)/\ ∀x∈news,x.oneCell'=true:=by
 have gen: ∀(q:Option Addr) (cap:Nat),v= .slice q ys.length cap->(ys=[]\/ ∃c p z,q=some ⟨c,p,none⟩/\BE (rdw w) (view wr β h w) β c p z ys)->
      ∃news:List Value,(Builtin.lenOf v).run P w= .ok ys.length w/\news.length=ys.length*sz/\(∀w':World,w'.heap=w.heap->(Builtin.firstCells sz ys.length v).run P w'= .ok news.toArray w')/\
      (∀c,BE (fun _ p=>news[p]?) (view wr β h w) β c 0 sz ys)/\ ∀x∈news,x.oneCell'=true:=by
  intro q cap hv hc;subst hv;rcases hc with rfl | ⟨c,p,z,rfl,hbe⟩
  ·refine⟨[],by simp[Builtin.lenOf],by simp,fun w' _=>?_,fun c i x hi=>by simp at hi,by simp⟩
   cases q with
   | none=>simp[Builtin.firstCells]
   | some ad=>simp[Builtin.firstCells,loadCells,loadCellsFrom]
  ·have hzs:ys≠ []->z=sz:=fun hne=>by
     cases ys with
     | nil=>exact absurd rfl hne
     | cons x r=>exact((hbe 0 x rfl).1).symm.trans (hz x (by simp)).1
   by_cases hne:ys=[]
   ·subst hne;refine⟨[],by simp[Builtin.lenOf],by simp,fun w' _=>by simp[Builtin.firstCells,loadCells,loadCellsFrom],fun c i x hi=>by simp at hi,by simp⟩
   ·have hzz:=hzs hne;subst hzz
    have hcell: ∀j,j<ys.length*z-> ∃u x,rdw w c (p+j)=some u/\x.one=true/\Rel (view wr β h w) β x u:=fun j hj=>by
     have hi:j/z<ys.length:=(Nat.div_lt_iff_lt_mul h0).2 hj;have hb:=hbe (j/z) ys[j/z] (by simp[hi])
     have hm:=Nat.mod_lt j h0;obtain⟨u,h1,h2⟩:=hb.2 (j%z) (ys[j/z].cells[j%z]'(by rw[hb.1]; exact hm)) (by simp)
     refine⟨u,_,?_,?_,h2⟩
     ·have:=Nat.div_add_mod j z;rw[←h1]; congr 1;rw[Nat.mul_comm]at this; omega
     ·have:=(hz ys[j/z] (List.getElem_mem _)).2;simp only[AV.ZF,List.all_eq_true]at this;exact this _ (List.getElem_mem _)
    refine⟨(List.range (ys.length*z)).map fun j=>(rdw w c (p+j)).getD undef,by simp[Builtin.lenOf],by simp,fun w' hw'=>?_,fun c' i x hi=>?_,fun x hx=>?_⟩
    ·have:=run_loadCells (P:=P) w' ⟨c,p,none⟩ (ys.length*z) (fun j=>(rdw w c (p+j)).getD undef) (fun j hj=>by
       obtain⟨u,_,h1,_⟩:=hcell j hj;rw[Addr.add_lit,h1];unfold rdw at h1;rw[cell_of_heap (w:=w) (by rw[hw'])]
       exact h1)
     simpa[Builtin.firstCells]using this
    ·have hb:=hbe i x hi;have hil:i<ys.length:=(List.getElem?_eq_some_iff.1 hi).1
     refine⟨hb.1,fun j y hj=>?_⟩
     obtain⟨u,h1,h2⟩:=hb.2 j y hj;refine⟨u,?_,h2⟩
     have hjz:j<z:=by have:=(List.getElem?_eq_some_iff.1 hj).1; omega
     have hlt:i*z+j<ys.length*z:=by
      have:(i+1)*z<=ys.length*z:=Nat.mul_le_mul_right _ hil;rw[Nat.succ_mul]at this; omega
     simp only[Nat.zero_add];rw[List.getElem?_map,List.getElem?_range hlt]
     simp only[Option.map_some];rw[←Nat.add_assoc,h1]; rfl
    ·obtain⟨j,hj,rfl⟩:=List.mem_map.1 hx;obtain⟨u,y,h1,h2,h3⟩:=hcell j (List.mem_range.1 hj);rw[h1];exact Qgs h2 h3
 unfold appended at hys;split at hys
 ·rename_i hs0;split at hys
  rotate_left
  ·cases hys
  rename_i s;injection hys with hys; subst hys;unfold Rel at hr; subst hr;have hs1:=hst hs0;subst hs1;refine⟨s.data.toList.map fun b=>.int .u8 b.toNat,by simp[Builtin.lenOf],by simp,fun w' _=>?_,fun c i x hi=>?_,fun x hx=>?_⟩
  ·have hx:s.extract 0 s.size=s:=by cases s; simp[ByteArray.extract,ByteArray.copySlice,ByteArray.size]
   simp only[List.length_map,Array.length_toList,Builtin.firstCells,Sem.run_pure];rw[show s.data.size=s.size from rfl,hx]
   congr 1
   apply Array.ext'; simp
  ·rw[List.getElem?_map]at hi
   cases hb:s.data.toList[i]? with
   | none=>rw[hb]at hi; simp at hi
   | some b=>
    rw[hb]at hi; simp at hi; subst hi;refine⟨rfl,fun j y hj=>?_⟩
    cases j with
    | zero=>simp[AV.cells]at hj; subst hj; exact⟨.int .u8 b.toNat,by simp[hb],by unfold Rel; rfl⟩
    | succ j=>simp[AV.cells]at hj
  ·obtain⟨b,_,rfl⟩:=List.mem_map.1 hx; rfl
 ·obtain⟨q,cap,hv,_,hc⟩:=Qcr S hys hr;exact gen q cap hv hc
theorem QkM {rd rd':Nat->Nat->Option Value}{V:View}{c sz:Nat}{els ys:List AV}{news:List Value}(h1:BE rd V β c 0 sz els)(h2:BE (fun _ p=>news[p]?) V β c 0 sz ys)
    (h3: ∀p v,p<els.length*sz->rd c p=some v->rd' c p=some v) (h4: ∀p v,p<ys.length*sz->news[p]? =some v->rd' c (els.length*sz+p)=some v):BE rd' V β c 0 sz (els++ys):=by
 intro i x hi;rcases Nat.lt_or_ge i els.length with hlt | hge
 ·rw[List.getElem?_append_left hlt]at hi
  obtain⟨h5,h6⟩:=h1 i x hi;refine⟨h5,fun j y hj=>?_⟩
  obtain⟨v,h7,h8⟩:=h6 j y hj;have hj':j<sz:=by have:=(List.getElem?_eq_some_iff.1 hj).1; omega
  simp only[Nat.zero_add]at h7 ⊢;refine⟨v,h3 _ v ?_ h7,h8⟩
  have:(i+1)*sz<=els.length*sz:=Nat.mul_le_mul_right _ hlt;rw[Nat.succ_mul]at this; omega
 ·rw[List.getElem?_append_right hge]at hi
  obtain⟨h5,h6⟩:=h2 _ x hi;refine⟨h5,fun j y hj=>?_⟩
  obtain⟨v,h7,h8⟩:=h6 j y hj;have hj':j<sz:=by have:=(List.getElem?_eq_some_iff.1 hj).1; omega
  have hil:=(List.getElem?_eq_some_iff.1 hi).1
  simp only[Nat.zero_add]at h7 ⊢
  have h9:=h4 _ v (by
   have:(i-els.length+1)*sz<=ys.length*sz:=Nat.mul_le_mul_right _ hil;rw[Nat.succ_mul]at this; omega) h7
  refine⟨v,?_,h8⟩
  rw[←h9]
  congr 1
  rw[←Nat.add_assoc,←Nat.add_mul]
  congr 2; omega
theorem Qwg {i:TypeInfo}{lim n:Nat}(h1:lim*i.bytes<=140737488355328)(h2:n<=lim)(h3:0<i.bytes){old:Nat}(h:old<n):Builtin.nextslicecap n old*i.bytes<=281474976710656/\n<=140737488355328:=by
 have h4:n*i.bytes<=140737488355328:=Nat.le_trans (Nat.mul_le_mul_right _ h2) h1;exact⟨growslice_fits h h4,Nat.le_trans (Nat.le_mul_of_pos_right _ h3) h4⟩
structure QbV (P:Program) (t u el:TypeId) (sz lim:Nat) (i:TypeInfo) (z:Value):Prop where
 ht:P.underlying t=some (.slice el)
 hu:P.underlying u=some .string\/ ∃d,P.underlying u=some (.slice d)
 hi:P.info? el=some i
 hsz:i.size=sz
 hz:i.zero=some z
 h0:0<sz
 hb:lim*i.bytes<=140737488355328
 hb0:0<i.bytes
theorem Qew {t u el:TypeId}{sz lim:Nat}{i:TypeInfo}{z v:Value}(F:QbV P t u el sz lim i z){c p len cap n ty:Nat}{news:List Value}(hlen:(Builtin.lenOf v).run P w= .ok n w)(hnews:(Builtin.firstCells sz n v).run P w= .ok news.toArray w)
    (hroom:len+n<=cap) (hcell: ∀j,j<news.length->(w.cell? ⟨c,p+len*sz+j,none⟩).isSome=true) (hfr: ∀j,j<news.length->w.frozen? ⟨c,p+len*sz+j,none⟩=false) (hone: ∀x∈news,x.oneCell'=true):
    (Builtin.append_ #[t,u] ty #[.slice (some ⟨c,p,none⟩) len cap,v]).run P w= .ok (.slice (some ⟨c,p,none⟩) (len+n) cap) (w.setCells c (p+len*sz) news):=by
 have hst:=run_storeCells_cells (P:=P) c (p+len*sz) news 0 w (by simpa using hcell) (by simpa using hfr) hone
 simp only[Nat.add_zero]at hst;have hsz:(sizeOf el).run P w= .ok sz w:=by simp[sizeOf,typeInfo,F.hi,F.hsz]
 rcases F.hu with hu | ⟨d,hu⟩
 ·simp[Builtin.append_,run_underlying F.ht,run_underlying hu,hsz,hlen,hroom,hnews,Addr.add_lit,hst]
 ·simp[Builtin.append_,run_underlying F.ht,run_underlying hu,hsz,hlen,hroom,hnews,Addr.add_lit,hst]
theorem YF {t u el:TypeId}{sz lim:Nat}{i:TypeInfo}{z v:Value}(F:QbV P t u el sz lim i z){q:Option Addr}{len cap n ty:Nat}{olds news:List Value}(hlen:(Builtin.lenOf v).run P w= .ok n w)(hnews:(Builtin.firstCells sz n v).run P w.drew= .ok news.toArray w.drew)
    (holds:(Builtin.firstCells sz len (.slice q len cap)).run P w.drew= .ok olds.toArray w.drew) (hroom:cap<len+n) (hl:len+n<=lim):
    (Builtin.append_ #[t,u] ty #[.slice q len cap,v]).run P w= .ok (.slice (some ⟨w.heap.size,0,none⟩) (len+n) (grownCap w (len+n) cap el)) (w.drew.alloc (.cells (olds.toArray++news.toArray++Builtin.zeroCells z.cells (grownCap w (len+n) cap el-(len+n))) el)):=by
 have hsz:(sizeOf el).run P w= .ok sz w:=by simp[sizeOf,typeInfo,F.hi,F.hsz]
 obtain⟨hf1,hf2⟩:=Qwg F.hb hl F.hb0 hroom;have hn: ¬(len+n<=cap):=by omega
 have h63: ¬(9223372036854775807<((len:Int)+(n:Int))):=by omega
 have h48: ¬(281474976710656<Builtin.nextslicecap (len+n) cap*i.bytes):=by omega
 have fin: ∀r:Array Value,olds.toArray++(news.toArray++r)=(olds++news).toArray++r:=fun r=>by apply Array.ext'; simp
 rcases F.hu with hu | ⟨d,hu⟩
 ·simp[Builtin.append_,run_underlying F.ht,run_underlying hu,hsz,hlen,hn,h63,h48,hnews,holds,typeInfo,F.hi,F.hz,zeroValue,Question.forced,newRow,grownCap,fin]
 ·simp[Builtin.append_,run_underlying F.ht,run_underlying hu,hsz,hlen,hn,h63,h48,hnews,holds,typeInfo,F.hi,F.hz,zeroValue,Question.forced,newRow,grownCap,fin]
theorem QaX {t u el:TypeId}{sz lim:Nat}{i:TypeInfo}{z v:Value}(F:QbV P t u el sz lim i z){q:Option Addr}{len cap ty:Nat}(hlen:(Builtin.lenOf v).run P w= .ok 0 w)(hnews:(Builtin.firstCells sz 0 v).run P w= .ok #[] w)(hc:len<=cap):
    (Builtin.append_ #[t,u] ty #[.slice q len cap,v]).run P w= .ok (.slice q len cap) w:=by
 have hsz:(sizeOf el).run P w= .ok sz w:=by simp[sizeOf,typeInfo,F.hi,F.hsz]
 rcases F.hu with hu | ⟨d,hu⟩<;>cases q<;>simp[Builtin.append_,run_underlying F.ht,run_underlying hu,hsz,hlen,hc,hnews,storeCells]
theorem QbE {b ver sz:Nat}{els ys:List AV}{olds news:List Value}{el:TypeId}{z:Value}{cap:Nat}{rest:Array Value}(S:Sim w0 wr β h w)(hfr:b=h.length\/ ∃v0 y,cur h b=some v0/\v0<=ver/\β b v0=some y)(hb:b<=h.length)(hwr:wr<=b)(hn:β b ver=none)(hold: ∀v,ver<v->β b v=none)
    (ho:olds.length=els.length*sz) (hbo:BE (fun _ p=>olds[p]?) (view wr β h w) β w.heap.size 0 sz els) (hnl:news.length=ys.length*sz) (hbn:BE (fun _ p=>news[p]?) (view wr β h w) β w.heap.size 0 sz ys)
    (hcap:els.length+ys.length<=cap) (hrest:rest.size=(cap-(els.length+ys.length))*sz):
    ∃β',Sim w0 wr β' (Jd h b (.arr ver sz (els++ys))) (w.drew.alloc (.cells (olds.toArray++news.toArray++rest) el))/\Ext wr β h w β' (Jd h b (.arr ver sz (els++ys))) (w.drew.alloc (.cells (olds.toArray++news.toArray++rest) el))/\
     Rel (view wr β' (Jd h b (.arr ver sz (els++ys))) (w.drew.alloc (.cells (olds.toArray++news.toArray++rest) el))) β' (.osl b ver sz 0 (els.length+ys.length)) (.slice (some ⟨w.heap.size,0,none⟩) (els.length+ys.length) cap):=by
 obtain⟨S1,E1⟩:=Qhi S;have hcell:(w.drew.alloc (.cells (olds.toArray++news.toArray++rest) el)).heap[w.heap.size]? =some (.cells (olds.toArray++news.toArray++rest) el (0,0)):=Qad w.drew _
 have hsize:(olds.toArray++news.toArray++rest).size=cap*sz:=by
  simp only[Array.size_append,List.size_toArray,ho,hnl,hrest];rw[←Nat.add_mul,←Nat.add_mul]
  congr 1; omega
 have hbe:BE (rdw (w.drew.alloc (.cells (olds.toArray++news.toArray++rest) el))) (view wr β h w.drew) β w.heap.size 0 sz (els++ys):=by
  have rd: ∀p,rdw (w.drew.alloc (.cells (olds.toArray++news.toArray++rest) el)) w.heap.size p=(olds.toArray++news.toArray++rest)[p]?:=fun p=>by unfold rdw World.cell?; rw[hcell]; simp
  refine QkM (hbo.mono (fun p v hp=>hp) E1.view (Beta.Le.refl _)) (hbn.mono (fun p v hp=>hp) E1.view (Beta.Le.refl _)) (fun p v hp h1=>?_) (fun p v hp h1=>?_)
  ·rw[rd,Array.append_assoc,Array.getElem?_append_left (by simp; omega)]
   simpa using h1
  ·rw[rd,Array.append_assoc,Array.getElem?_append_right (by simp; omega),Array.getElem?_append_left (by simp; omega)]
   simp only[List.size_toArray,ho,Nat.add_sub_cancel_left];simpa using h1
 have key:=QbZ (w':=w.drew.alloc (.cells (olds.toArray++news.toArray++rest) el)) S1 (b:=b) (ver:=ver) (sz:=sz) (c:=w.heap.size) (els:=els++ys) hb hwr (.inl ⟨rfl,.inl hn⟩) hold rfl rfl rfl (by simp) (fun k hk _=>Qee w.drew _ hk) hcell
  (by rw[hsize]; exact Nat.mul_le_mul_right _ (by simpa using hcap)) (fun hlt=>absurd hlt (by simp)) (fun p _=>by unfold World.frozen?; rw[hcell]; simp) hbe
 refine⟨_,key.1,E1.trans ⟨key.2.1,XT (fun v hv=>by simpa[cur,eq_comm]using hv) hfr⟩,?_⟩
 unfold Rel;exact .inl ⟨w.heap.size,cap,by simp[QV],by simp,hcap,by rw[key.2.2,hsize]; simp⟩
theorem QuR {sz lim:Nat}{str:Bool}{x y:Operand}{x' y':O}{c:Call}{t u' el:TypeId}{i:TypeInfo}{z:Value}(ho:o.op= .call c)(hc:c.callee= .builtin .append)(ha:c.args.toList=[x,y])(htt:c.argTypes.toList=[t,u'])(F:QbV P t u' el sz lim i z)(hzs:z.cells.size=sz)
    (hstr:str=true->sz=1) (hx:Qn x x'=true) (hy:Qn y y'=true) (hE:Qo (view wr β h w) β e a.tmps) (S:Sim w0 wr β h w) (hws:wr<=ws) (hwb:wr<=base) (hbh:base<=h.length)
    (hev:evI base ws e h (.app str sz lim x' y')=some (u,h')):Xo P w0 wr β h w (execOp a.eval o) u h':=by
 have hargs:c.args= #[x,y]:=by apply Array.ext'; simpa using ha
 have htypes:c.argTypes= #[t,u']:=by apply Array.ext'; simpa using htt
 have fin: ∀r w',(Builtin.append_ #[t,u'] o.type #[a.eval x,a.eval y]).run P w= .ok r w'->(execOp a.eval o).run P w= .ok (.value r) w':=fun r w' hr=>by
  simp[execOp,ho,resolve,hc,hargs,htypes,invoke,builtin,hr]
 dsimp only[evI]at hev;split at hev
 ·rename_i xv yv hxv hyv;have hrx:=Qf hE hx hxv;have hry:=Qf hE hy hyv;split at hev
  ·rename_i ys hys
   have hall: ∀v∈ys,v.cells.length=sz/\v.ZF=true:=by
    have:ys.all (fun v=>v.cells.length == sz&&v.ZF)=true:=by
     unfold Ju at hev;split at hev
     ·split at hev
      ·rename_i hc; exact hc.2
      ·cases hev
     ·split at hev
      ·split at hev
       ·rename_i hc; exact hc.2.2.2.2.2.2.2
       ·cases hev
      ·cases hev
     ·cases hev
    intro v hv;have:=List.all_eq_true.1 this v hv;simpa using this
   obtain⟨news,hlen,hnl,hnews,hbn,hone⟩:=Qev (P:=P) S hys hry hall hstr F.h0;have hzc: ∀n,(Builtin.zeroCells z.cells n).size=n*sz:=fun n=>by rw[size_zeroCells,hzs]
   have hgc: ∀n cap,n<=grownCap w n cap el:=fun n cap=>by simp only[grownCap,Question.cut]; omega
   unfold Ju at hev;split at hev
   ·
    split at hev
    ·rename_i hcnd;simp at hev; obtain⟨rfl,rfl⟩:=hev;unfold Rel at hrx;obtain⟨q,hq⟩:=hrx;by_cases hy0:ys=[]
     ·subst hy0;have hn0:news=[]:=List.eq_nil_of_length_eq_zero (by simpa using hnl)
      subst hn0;obtain⟨β',S1,E1,hb⟩:=Qhh S sz;refine⟨.value _,.slice q 0 0,w,β',fin _ _ (by rw[hq]; exact QaX F hlen (hnews w rfl) (Nat.le_refl _)),.inl rfl,S1,E1,?_⟩
      unfold Rel; exact .inr ⟨hb,rfl,rfl,q,rfl⟩
     ·have hpos:0<ys.length:=List.length_pos_iff.2 hy0;have hold0:(Builtin.firstCells sz 0 (.slice q 0 0)).run P w.drew= .ok ([]:List Value).toArray w.drew:=by cases q<;>simp[Builtin.firstCells,loadCells,loadCellsFrom]
      have hrun:=YF (ty:=o.type) F hlen (hnews w.drew rfl) hold0 (by omega) (by simpa using hcnd.1)
      obtain⟨β',S1,E1,r1⟩:=QbE (el:=el) (z:=z) (olds:=[]) (els:=[]) (cap:=grownCap w (0+ys.length) 0 el) (rest:=Builtin.zeroCells z.cells (grownCap w (0+ys.length) 0 el-(0+ys.length))) S (.inl rfl) (Nat.le_refl _) (Nat.le_trans hwb hbh) (XU S (Nat.le_refl _) 0) (fun v _=>XU S (Nat.le_refl _) v)
       (by simp) (fun i x hi=>by simp at hi) hnl (hbn _) (by simpa using hgc (0+ys.length) 0) (by simp[hzc])
      rw[ZL]at S1 E1 r1;simp only[List.nil_append,List.length_nil,Nat.zero_add]at S1 E1 r1 hrun;exact⟨.value _,_,_,β',fin _ _ (by rw[hq]; exact hrun),.inl rfl,S1,E1,r1⟩
    ·cases hev
   ·rename_i b ver sz' off len;split at hev
    ·rename_i v0 z0 els hb;split at hev
     ·rename_i hcnd;obtain⟨rfl,rfl,rfl,rfl,rfl,hbb',hlim,_⟩:=hcnd;have hbb:wr<=b:=by rcases hbb' with h1 | ⟨h1,_⟩<;>omega
      simp at hev; obtain⟨rfl,rfl⟩:=hev;have hbl:b<h.length:=(List.getElem?_eq_some_iff.1 hb).1
      have hcu:=Yf hb;have hnew:β b (v0+1)=none:=S.old b _ _ hcu (by omega)
      have hold: ∀v,v0+1<v->β b v=none:=fun v hv=>S.old b v _ hcu (by omega)
      unfold Rel at hrx;rcases hrx with⟨cc,cap,hβ,hq,hcap,hS⟩ | ⟨hβ,hl0,_,q,hq⟩
      ·simp only[Nat.zero_mul]at hq;obtain⟨⟨cs,T,fr,hcell,hsize⟩,hfro,hbe⟩:=S.arr b v0 sz' els cc hb hβ;rw[Jn hcell]at hS;simp only[Nat.zero_add]at hS;have rd0: ∀p,rdw w cc p=cs[p]?:=fun p=>by unfold rdw World.cell?; rw[hcell]; simp
       by_cases hroom:els.length+ys.length<=cap
       ·
        have hfit:els.length*sz'+news.length<=cs.size:=by
         rw[hnl,←Nat.add_mul];exact Nat.le_trans (Nat.mul_le_mul_right _ hroom) hS
        have hrun:=Qew (ty:=o.type) (c:=cc) (p:=0) (len:=els.length) (cap:=cap) F hlen (hnews w rfl) hroom (fun j hj=>by
             have:=rd0 (0+els.length*sz'+j);unfold rdw at this;rw[this,Array.getElem?_eq_getElem (by omega)]; rfl) (fun j hj=>hfro _ (by rw[Jn hcell]; omega)) hone
        simp only[Nat.zero_add]at hrun;obtain⟨⟨cs',h1,h2,h3⟩,h4,h5,h6,h7,h8⟩:=Yb cc news (els.length*sz') w hcell
        have key:=QbZ (w':=w.setCells cc (els.length*sz') news) S (b:=b) (ver:=v0+1) (sz:=sz') (c:=cc) (els:=els++ys) (by omega) (by omega) (.inr ⟨v0,hcu,hβ,by omega,.inr hnew⟩) hold h5 h6 h7 (by omega) (fun k _ hk=>h4 k hk) h1
         (by rw[h2,List.length_append,Nat.add_mul,←hnl]; exact hfit) (fun _ cs0 T0 fr0 he=>by rw[hcell]at he; injection he with he; injection he with he he2; exact⟨by rw[h2,he],he2⟩)
         (fun p hp=>by rw[Yu]; exact hfro p (by rw[Jn hcell]; omega))
         (QkM (rd:=rdw w) hbe (hbn cc) (fun p v hp h9=>by
          rw[rd0]at h9;unfold rdw World.cell?; rw[h1]; simp only[Option.isSome_none,Bool.false_eq_true,if_false];rw[h3,if_neg (by omega),h9]) (fun p v hp h9=>by
          unfold rdw World.cell?; rw[h1]; simp only[Option.isSome_none,Bool.false_eq_true,if_false];rw[h3,if_pos ⟨by omega,by omega,by omega⟩,Nat.add_sub_cancel_left,h9]))
        rw[Ze hbl]at key;have hfr:=XT (x:=some cc) (β:=β) (b:=b) (blk:=.arr (v0+1) sz' (els++ys)) (ver:=v0+1) (h:=h) (fun v hv=>by simpa[cur,eq_comm]using hv) (.inr ⟨v0,_,hcu,Nat.le_succ _,hβ⟩)
        rw[Ze hbl]at hfr;refine⟨.value _,_,_,_,fin _ _ (by rw[hq]; exact hrun),.inl rfl,key.1,⟨key.2.1,hfr⟩,?_⟩
        unfold Rel;exact .inl ⟨cc,cap,by simp[QV],by simp,hroom,by rw[key.2.2,h2]; simpa using hS⟩
       ·
        have hload: ∀w':World,w'.heap=w.heap->(Builtin.firstCells sz' els.length (.slice (some ⟨cc,0,none⟩) els.length cap)).run P w'= .ok (((List.range (els.length*sz')).map fun j=>(rdw w cc j).getD undef)).toArray w':=fun w' hw'=>by
         have:=run_loadCells (P:=P) w' ⟨cc,0,none⟩ (els.length*sz') (fun j=>(rdw w cc j).getD undef) (fun j hj=>by
          rw[Addr.add_lit,Nat.zero_add];rw[cell_of_heap (w:=w) (by rw[hw'])]
          have:=rd0 j;unfold rdw at this ⊢;rw[this,Array.getElem?_eq_getElem (by omega)]; rfl)
         simpa[Builtin.firstCells]using this
        have hrun:=YF (ty:=o.type) F hlen (hnews w.drew rfl) (hload w.drew rfl) (by omega) hlim
        obtain⟨β',S1,E1,r1⟩:=QbE (el:=el) (z:=z) (els:=els) (cap:=grownCap w (els.length+ys.length) cap el) (rest:=Builtin.zeroCells z.cells (grownCap w (els.length+ys.length) cap el-(els.length+ys.length)))
         (olds:=(List.range (els.length*sz')).map fun j=>(rdw w cc j).getD undef) S (.inr ⟨_,_,hcu,Nat.le_succ _,hβ⟩) (Nat.le_of_lt hbl) (by omega) hnew hold
         (by simp) (fun i x hi=>by
          obtain⟨h1,h2⟩:=hbe i x hi;refine⟨h1,fun j y hj=>?_⟩
          obtain⟨r,h3,h4⟩:=h2 j y hj;have hil:i<els.length:=(List.getElem?_eq_some_iff.1 hi).1
          have hjz:j<sz':=by have:=(List.getElem?_eq_some_iff.1 hj).1; omega
          have hlt:i*sz'+j<els.length*sz':=by
           have:(i+1)*sz'<=els.length*sz':=Nat.mul_le_mul_right _ hil;rw[Nat.succ_mul]at this; omega
          refine⟨r,?_,h4⟩
          simp only[Nat.zero_add]at h3 ⊢;rw[List.getElem?_map,List.getElem?_range hlt]
          simp only[Option.map_some];rw[h3]; rfl) hnl (hbn _) (hgc _ cap) (by simp[hzc])
        rw[Ze hbl]at S1 E1 r1;exact⟨.value _,_,_,β',fin _ _ (by rw[hq]; exact hrun),.inl rfl,S1,E1,r1⟩
      ·have he0:els=[]:=List.eq_nil_of_length_eq_zero hl0;subst he0;simp only[List.length_nil,Nat.zero_add]at hq hlim ⊢;by_cases hy0:ys=[]
       ·subst hy0;have hn0:news=[]:=List.eq_nil_of_length_eq_zero (by simpa using hnl)
        subst hn0;obtain⟨S1,E1⟩:=Qju S (b:=b) (ver:=v0+1) (sz:=sz') (els:=[]++ []) (Nat.le_of_lt hbl) hnew hold;have hfr:=XT (x:=none) (β:=β) (b:=b) (blk:=.arr (v0+1) sz' ([]++ [])) (ver:=v0+1) (h:=h) (fun v hv=>by simpa[cur,eq_comm]using hv) (.inr ⟨v0,_,hcu,Nat.le_succ _,hβ⟩)
        rw[Ze hbl]at hfr;rw[Ze hbl]at S1 E1;refine⟨.value _,.slice q 0 0,w,_,fin _ _ (by rw[hq]; exact QaX F hlen (hnews w rfl) (Nat.le_refl _)),.inl rfl,S1,⟨E1,hfr⟩,?_⟩
        unfold Rel; exact .inr ⟨by simp[QV],rfl,rfl,q,rfl⟩
       ·have hpos:0<ys.length:=List.length_pos_iff.2 hy0;have hold0:(Builtin.firstCells sz' 0 (.slice q 0 0)).run P w.drew= .ok ([]:List Value).toArray w.drew:=by cases q<;>simp[Builtin.firstCells,loadCells,loadCellsFrom]
        have hrun:=YF (ty:=o.type) F hlen (hnews w.drew rfl) hold0 (by omega) (by simpa using hlim)
        obtain⟨β',S1,E1,r1⟩:=QbE (el:=el) (z:=z) (olds:=[]) (els:=[]) (cap:=grownCap w (0+ys.length) 0 el) (rest:=Builtin.zeroCells z.cells (grownCap w (0+ys.length) 0 el-(0+ys.length))) S (.inr ⟨_,_,hcu,Nat.le_succ _,hβ⟩) (Nat.le_of_lt hbl) (by omega) hnew hold
         (by simp) (fun i x hi=>by simp at hi) hnl (hbn _) (by simpa using hgc (0+ys.length) 0) (by simp[hzc])
        rw[Ze hbl]at S1 E1 r1;simp only[List.nil_append,List.length_nil,Nat.zero_add]at S1 E1 r1 hrun;exact⟨.value _,_,_,β',fin _ _ (by rw[hq]; exact hrun),.inl rfl,S1,E1,r1⟩
     ·cases hev
    ·cases hev
   ·cases hev
  ·cases hev
 ·cases hev
end
end Go.Avm
