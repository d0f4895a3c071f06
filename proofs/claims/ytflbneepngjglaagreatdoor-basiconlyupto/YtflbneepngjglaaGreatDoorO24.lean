/- Arguments that read are trees of the abstract machine. -/
import Derived.Test.YtflbneepngjglaaGreatDoorO21
import Derived.Shelf.SlicesE.Clone
import Derived.Test.YtflbneepngjglaaGreatDoorO22
import Derived.DataReads
import Derived.ChangeReads
import Derived.ChangeArms
set_option linter.all false
namespace Go.Avm
open Go.RowKit
section
variable {P : Program} {w0 : World} {wr : Nat} {β : Beta} {h : H} {w : World}
theorem QrI {w':World}(S:Sim w0 wr β h w)(hwr:wr<=h.length){sz g:Nat}{els:List AV}{cs:Array Value}{T:TypeId}(hb:Below w.heap.size w w')(hg:w.heap.size<=g)(hcell:w'.heap[g]? =some (.cells cs T (0,0)))(hsz:els.length*sz<=cs.size)
    (hbe:BE (fun _ o=>cs[o]?) (view wr β h w) β g 0 sz els):
    ∃β',Sim w0 wr β' (h++ [.arr 0 sz els]) w'/\Ext wr β h w β' (h++ [.arr 0 sz els]) w'/\β' h.length 0=some (some g)/\(view wr β' (h++ [.arr 0 sz els]) w').S g=cs.size:=by
 have hgl:g<w'.heap.size:=(Array.getElem?_eq_some_iff.1 hcell).1
 obtain⟨w1,hw1⟩: ∃w1:World,w1={ w' with heap:=w'.heap.extract 0 g}:=⟨_,rfl⟩;have hs1:w1.heap.size=g:=by rw[hw1]; simp; omega
 have hk1: ∀k,k<g->w1.heap[k]? =w'.heap[k]?:=fun k hk=>by
  rw[hw1];show(w'.heap.extract 0 g)[k]? =_;rw[Array.getElem?_extract]
  simp only[Nat.zero_add];rw[if_pos (by omega)]
 obtain⟨S1,E1⟩:=QdN (w':=w1) S (by rw[hw1]; exact hb.os) (by rw[hw1]; exact hb.tape) (by rw[hw1]; exact hb.output) (by omega) (fun c hc=>(hk1 c (by omega)).trans (hb.block c hc))
 have hfr:=XT (x:=some g) (β:=β) (blk:=.arr 0 sz els) (ver:=0) (h:=h) (fun v hv=>by simpa[cur,eq_comm]using hv) (.inl rfl)
 rw[ZL]at hfr
 have:=QbZ (w':=w') S1 (b:=h.length) (ver:=0) (sz:=sz) (c:=g) (els:=els) (Nat.le_refl _) hwr (.inl ⟨hs1.symm,.inl (XU S (Nat.le_refl _) 0)⟩) (fun v _=>XU S (Nat.le_refl _) v) (by rw[hw1]) (by rw[hw1]) (by rw[hw1]) (by omega)
  (fun k hk _=>(hk1 k (by omega)).symm) hcell hsz (fun h=>by omega) (fun o ho=>by unfold World.frozen?; rw[hcell]; simp)
  (hbe.mono (fun p v hp=>by unfold rdw World.cell?; rw[hcell]; simpa using hp) E1.view (Beta.Le.refl _))
 rw[ZL]at this;exact⟨_,this.1,E1.trans ⟨this.2.1,hfr⟩,by simp[QV],this.2.2⟩
theorem QjC {w':World}(S:Sim w0 wr β h w)(hwr:wr<=h.length){sz:Nat}{els:List AV}{T:TypeId}{v:Value}{news:List Value}(hb:Below w.heap.size w w')(ho:w'.ownsRow w.heap.size T sz v els.length news)(hsz:news.length=els.length*sz)
    (hbe: ∀c,BE (fun _ p=>news[p]?) (view wr β h w) β c 0 sz els):QiP w0 wr β h w (.osl h.length 0 sz 0 els.length) (h++ [.arr 0 sz els]) v w':=by
 rcases ho.2 with⟨rfl,hz⟩ | ⟨g,cap,cur,rfl,hbg,hg,h1,h2,h3,h4⟩
 ·have he:els=[]:=List.eq_nil_of_length_eq_zero hz;subst he;obtain⟨S1,E1⟩:=QdN S hb.os hb.tape hb.output hb.size hb.block;obtain⟨β',S2,E2,hβ⟩:=Qhh S1 sz;exact⟨β',S2,E1.trans E2,by unfold Rel; exact .inr ⟨hβ,rfl,rfl,none,rfl⟩⟩
 ·have hcur: ∀p v,news[p]? =some v->cur[p]? =some v:=fun p v hp=>by
    rw[←h4,List.getElem?_take]at hp
    split at hp
    ·simpa using hp
    ·cases hp
  obtain⟨β',S2,E2,hβ,hS⟩:=QrI (g:=g) (sz:=sz) (els:=els) S hwr hb hbg hg (by rw[h3]; exact Nat.mul_le_mul_right _ h1) ((hbe g).mono (fun p v hp=>hcur p v hp) (View.Le.refl _) (Beta.Le.refl _))
  refine⟨β',S2,E2,?_⟩
  unfold Rel;exact .inl ⟨g,cap,hβ,by simp,h1,by rw[hS,h3]; simp⟩
theorem Qtk {ys:List AV}{sz c p z:Nat}(h0:0<sz)(hz: ∀v∈ys,v.cells.length=sz/\v.ZF=true)(hne:ys≠ [])(hbe:BE (rdw w) (view wr β h w) β c p z ys):
    ∃news:List Value,news.length=ys.length*sz/\(∀j u,news[j]? =some u->w.cell? ⟨c,p+j,none⟩=some u)/\(∀c,BE (fun _ p=>news[p]?) (view wr β h w) β c 0 sz ys)/\ ∀x∈news,x.oneCell'=true:=by
 have hzz:z=sz:=by
  cases ys with
  | nil=>exact absurd rfl hne
  | cons x r=>exact((hbe 0 x rfl).1).symm.trans (hz x (by simp)).1
 subst hzz
 have hcell: ∀j,j<ys.length*z-> ∃u x,rdw w c (p+j)=some u/\x.one=true/\Rel (view wr β h w) β x u:=fun j hj=>by
  have hi:j/z<ys.length:=(Nat.div_lt_iff_lt_mul h0).2 hj;have hb:=hbe (j/z) ys[j/z] (by simp[hi])
  have hm:=Nat.mod_lt j h0;obtain⟨u,h1,h2⟩:=hb.2 (j%z) (ys[j/z].cells[j%z]'(by rw[hb.1]; exact hm)) (by simp)
  refine⟨u,_,?_,?_,h2⟩
  ·have:=Nat.div_add_mod j z;rw[←h1]; congr 1;rw[Nat.mul_comm]at this; omega
  ·have:=(hz ys[j/z] (List.getElem_mem _)).2;simp only[AV.ZF,List.all_eq_true]at this;exact this _ (List.getElem_mem _)
 refine⟨(List.range (ys.length*z)).map fun j=>(rdw w c (p+j)).getD undef,by simp,fun j u hj=>?_,fun c' i x hi=>?_,fun x hx=>?_⟩
 ·rw[List.getElem?_map]at hj
  by_cases hlt:j<ys.length*z
  ·rw[List.getElem?_range hlt]at hj
   obtain⟨v,_,h1,_⟩:=hcell j hlt;simp only[Option.map_some,h1,Option.getD_some,Option.some.injEq]at hj;subst hj;exact h1
  ·rw[List.getElem?_eq_none (by simpa using hlt)]at hj; cases hj
 ·have hb:=hbe i x hi;have hil:i<ys.length:=(List.getElem?_eq_some_iff.1 hi).1
  refine⟨hb.1,fun j y hj=>?_⟩
  obtain⟨u,h1,h2⟩:=hb.2 j y hj;refine⟨u,?_,h2⟩
  have hjz:j<z:=by have:=(List.getElem?_eq_some_iff.1 hj).1; omega
  have hlt:i*z+j<ys.length*z:=by
   have:(i+1)*z<=ys.length*z:=Nat.mul_le_mul_right _ hil;rw[Nat.succ_mul]at this; omega
  simp only[Nat.zero_add];rw[List.getElem?_map,List.getElem?_range hlt]
  simp only[Option.map_some];rw[←Nat.add_assoc,h1]; rfl
 ·obtain⟨j,hj,rfl⟩:=List.mem_map.1 hx;obtain⟨u,y,h1,h2,h3⟩:=hcell j (List.mem_range.1 hj);rw[h1];exact Qgs h2 h3
end
def Jr (sz lim:Nat):List AV->H->Option (AV×H)
 | [v],h=>match Zv h v with
  | some els=>if els.length<=lim/\els.all (fun v=>v.cells.length == sz&&v.ZF)=true then some (.osl h.length 0 sz 0 els.length,h++ [.arr 0 sz els])else none
  | none=>none
 | _,_=>none
theorem Qtg {P:Program}{w0:World}{f:FuncId}{sz lim bytes:Nat}{T:TypeId}(h0:0<sz)(hlim:lim*bytes<=140737488355328)(hl:lim<=maxLen)
    (hrun: ∀(b off n c:Nat) (news:List Value) (w:World),news.length=n*sz->n<=maxLen->n*bytes<=140737488355328->(∀j u,news[j]? =some u->w.cell? ⟨b,off+j,none⟩=some u)->(∀u∈news,u.oneCell'=true)->
     Calls P f #[.slice (some ⟨b,off,none⟩) n c] w fun e w'=>∃v',e= .returned v'/\w'.ownsRow w.heap.size T sz v' n news/\v'≠ .slice none 0 0/\Below w.heap.size w w')
    (hrun0: ∀(a:Option Addr) (c:Nat) (w:World),Calls P f #[.slice a 0 c] w fun e w'=>∃v',e= .returned v'/\w'.ownsRow w.heap.size T sz v' 0 []/\Below w.heap.size w w')
    (hen: ∀vs w,(callFunc f vs).run P w= .ok (.enter f vs) w):Qey P w0 f (Jr sz lim):=by
 refine⟨fun args h r h' ev=>?_,fun args h r h' wr β w vs ev hwr S hr=>?_⟩
 ·unfold Jr at ev;split at ev
  ·split at ev
   ·split at ev
    ·cases ev; exact⟨_,rfl,Qgu _ _ _⟩
    ·cases ev
   ·cases ev
  ·cases ev
 ·unfold Jr at ev;split at ev
  ·rename_i x;split at ev
   ·rename_i els hels;split at ev
    ·rename_i hc;obtain⟨hlen,hall⟩:=hc;cases ev;unfold Qr at hr;obtain⟨v,r1,e1,hv,hr⟩:=hr;unfold Qr at hr;subst hr;obtain rfl:vs= #[v]:=by cases vs; simp_all
     obtain⟨q,cap,rfl,hcap,hcase⟩:=Qcr S hels hv;refine .inl ⟨hen _ _,?_⟩
     by_cases hne:els=[]
     ·subst hne;refine(hrun0 q cap w).mono ?_
      rintro e w' ⟨v',rfl,ho,hb⟩
      exact⟨v',rfl,QjC (els:=[]) S hwr hb ho (by simp) (fun c i x hi=>by simp at hi)⟩
     ·rcases hcase with hcase | ⟨c,p,z,rfl,hbe⟩
      ·exact absurd hcase hne
      ·obtain⟨news,h1,h2,h3,h4⟩:=Qtk h0 (fun v hv=>by simpa using List.all_eq_true.1 hall v hv) hne hbe
       refine(hrun c p els.length cap news w h1 (Nat.le_trans hlen hl) (Nat.le_trans (Nat.mul_le_mul_right _ hlen) hlim) h2 h4).mono ?_
       rintro e w' ⟨v',rfl,ho,_,hb⟩
       exact⟨v',rfl,QjC S hwr hb ho h1 h3⟩
    ·cases ev
   ·cases ev
  ·cases ev
end Go.Avm
namespace Go.Avm
open Go.RowKit
def XQ (P:Program)(t:TypeId):Bool:=match P.underlying t with
 | some (.struct _)=>true
 | some (.array _ _)=>true
 | _=>false
def XA (ag:Bool)(xs:List AV):AV:=if ag then .agg xs else xs.headD .any
def tiled (P:Program):Nat->Nat->List Field->Bool
 | o,n,[]=>o == n
 | o,n,g::r=>g.offset == o&&tiled P (o+P.cellsOf g.type) n r
def Qgr (q:TypeId->List AV->Prop):List Field->List AV->Prop
 | [],xs=>xs=[]
 | g::r,xs=>∃ys zs,xs=ys++zs/\q g.type ys/\Qgr q r zs
def Xk (P:Program):Nat->TypeId->List AV->Prop
 | 0,_,_=>False
 | f+1,t,xs=>match P.underlying t with
  | some .bool=>∃b,xs=[.bool b]
  | some (.int k)=>∃n,xs=[.int k n]/\(Lit.int k n).wf=true
  | some .string=>∃s:ByteArray,xs=[.str s]/\s.size<=maxLen
  | some (.pointer e)=>P.cellsOf e≠0->xs=[.nilp]\/ ∃l,xs=[.iptr l]/\l.length=P.cellsOf e/\Xk P f e l
  | some (.slice e)=>P.cellsOf e≠0-> ∃els,xs=[.isl els]/\els.length<=maxLen/\ ∀x∈els,∃l,x=XA (XQ P e) l/\l.length=P.cellsOf e/\Xk P f e l
  | some (.struct fs)=>tiled P 0 (P.cellsOf t) fs.toList=true->Qgr (Xk P f) fs.toList xs
  | _=>True
mutual
def AV.bulk:AV->Nat
 | .any=>0
 | .str s=>s.size+1
 | .iptr l | .isl l | .agg l | .tup l | .QI _ _ l=>QF l+1
 | .iface _ v=>v.bulk+1
 | _=>1
def QF :List AV->Nat
 | []=>0
 | v::l=>v.bulk+QF l
end
theorem Qep : ∀(l r:List AV),QF (l++r)=QF l+QF r
 | [],r=>by simp[QF]
 | x::l,r=>by simp only[List.cons_append,QF,Qep l r]; omega
theorem QiB {α:Type}: ∀(l:List α),QF (l.map fun _=>AV.any)=0
 | []=>rfl
 | _::l=>by simp[QF,AV.bulk,QiB l]
structure QfL {H:Type} (B:DataW H->Nat) (BA:List (DataW H)->Nat):Prop where
 one: ∀d,1<=B d
 str: ∀l,l.length+1<=B (.lit (.string l))
 ptr: ∀d,B d+1<=B (.ptr d)
 slice: ∀es sp,BA es+1<=B (.slice es sp)
 agg: ∀ps,BA ps+1<=B (.agg ps)
 cons: ∀d r,BA (d::r)=B d+BA r
theorem Qow {H:Type}{B:DataW H->Nat}{BA:List (DataW H)->Nat}(K:QfL B BA): ∀(els:List AV) (ds:List (DataW H)),(∀(i:Nat) (x:AV),els[i]? =some x-> ∃d,ds[i]? =some d/\x.bulk<=B d)->QF els<=BA ds
 | [],_,_=>by simp[QF]
 | x::l,ds,h=>by
  obtain⟨d,h1,h2⟩:=h 0 x rfl
  match ds,h1 with
  | d'::r,h1=>
   have h1:d'=d:=by simpa using h1
   subst h1;have:=Qow K l r fun i y hy=>by simpa using h (i+1) y (by simpa using hy)
   simp only[QF,K.cons]; omega
section
variable {H : Type} {enc : TypeId × Value -> H} {P : Program} {w : World} {base : Nat} {spare : Nat -> Bool} {held : Bool} {V : View} {β : Beta}
theorem QmV : ∀(l:List Value),Qr V β (l.map fun _=>AV.any) l
 | []=>by unfold Qr; rfl
 | v::l=>by rw[List.map_cons]; unfold Qr; exact⟨v,l,rfl,by unfold Rel; trivial,QmV l⟩
theorem YU {x:AV}{v:Value}(h:Rel V β x v):Qr V β [x] [v]:=by
 unfold Qr; exact⟨v,[],rfl,h,by unfold Qr; rfl⟩
theorem Qdn (hV: ∀c o v,w.cell? ⟨c,o,none⟩=some v->V.M c o=some v){c:Nat}: ∀{xs:List AV} {o:Nat} {cs:List Value},Qr V β xs cs->(∀i v,cs[i]? =some v->w.cell? ⟨c,o+i,none⟩=some v)->XR V β c o xs
 | [],_,_,_,_=>by unfold XR; trivial
 | x::xs,o,cs,hr,hc=>by
  unfold Qr at hr;obtain⟨v,r,rfl,h1,h2⟩:=hr;unfold XR;refine⟨⟨v,hV _ _ _ (by simpa using hc 0 v rfl),h1⟩,Qdn hV h2 fun i u hu=>?_⟩
  have:=hc (i+1) u (by simpa using hu)
  rwa[Nat.add_assoc,Nat.add_comm 1 i]
theorem Qfb {a:Addr}{n:Nat}{cs:List Value}(h:w.cells? base a n=some cs):cs.length=n/\ ∀i v,cs[i]? =some v->w.cell? (a.add i)=some v:=by
 unfold World.cells? at h;split at h
 ·have h1:=mapM_some_length h;simp at h1;refine⟨h1,fun i v hv=>?_⟩
  have hi:i<n:=by have:=(List.getElem?_eq_some_iff.1 hv).1; omega
  have:=mapM_some_get h i i (by simp[hi])
  rw[hv]at this;exact this
 ·cases h
def QoG (xs:List AV):Prop:=∀y∈xs,∀l,y≠ .agg l
theorem Qhw {B:DataW H->Nat}{BA:List (DataW H)->Nat}(K:QfL B BA){f:TypeId->List Value->Option (DataW H×List MemPlace)}{q:TypeId->List AV->Prop}{cs:List Value}(hf: ∀t l x,f t l=some x-> ∃xs,q t xs/\Qr V β xs l/\QoG xs/\QF xs<=B x.1): ∀(fs:List Field) (xd:List (DataW H×List MemPlace)) (o:Nat),tiled P o cs.length fs=true->
    xd.length=fs.length->(∀(i:Nat) (g:Field),fs[i]? =some g->f g.type ((cs.drop g.offset).take (P.cellsOf g.type))=xd[i]?)->o<=cs.length-> ∃xs,Qgr q fs xs/\Qr V β xs (cs.drop o)/\QoG xs/\QF xs<=BA (xd.map (·.1))
 | [],xd,o,ht,_,_,_=>by
  have:o=cs.length:=by simpa[tiled]using ht
  subst this;exact⟨[],rfl,by rw[List.drop_length]; unfold Qr; rfl,fun y hy=>(by cases hy),by simp[QF]⟩
 | g::r,[],o,ht,hl,hr,ho=>by simp at hl
 | g::r,x::xd,o,ht,hl,hr,ho=>by
  simp only[tiled,Bool.and_eq_true]at ht;obtain⟨h1,h2⟩:=ht;have h1:g.offset=o:=by simpa using h1
  have hx:=hr 0 g rfl;simp only[List.getElem?_cons_zero]at hx
  obtain⟨ys,hy,hry,ny,by1⟩:=hf _ _ _ hx
  have hle:o+P.cellsOf g.type<=cs.length:=by
   have go: ∀(r:List Field) (o:Nat),tiled P o cs.length r=true->o<=cs.length:=by
    intro r
    induction r with
    | nil=>intro o h; simp[tiled]at h; omega
    | cons g r ih=>
     intro o h;simp only[tiled,Bool.and_eq_true]at h;have:=ih _ h.2;omega
   exact go r _ h2
  obtain⟨zs,hz,hrz,nz,by2⟩:=Qhw K hf r xd (o+P.cellsOf g.type) h2 (by simpa using hl) (fun i g' hg'=>by simpa using hr (i+1) g' (by simpa using hg')) hle
  refine⟨ys++zs,⟨ys,zs,rfl,hy,hz⟩,?_,fun y h=>(List.mem_append.1 h).elim (ny y) (nz y),by rw[Qep,List.map_cons,K.cons]; omega⟩
  have hsplit:cs.drop o=(cs.drop o).take (P.cellsOf g.type)++cs.drop (o+P.cellsOf g.type):=by
   rw[←List.drop_drop];exact(List.take_append_drop _ _).symm
  rw[hsplit];rw[h1]at hry;exact Wq hry hrz
theorem QtD {t:TypeId}{fuel:Nat}{cs:List Value}{x:DataW H×List MemPlace}(ha:XQ P t=false)(h:DataW.trod enc P w base spare held fuel t cs=some x):cs.length=1:=by
 cases fuel with
 | zero=>simp[DataW.trod]at h
 | succ n=>
  unfold DataW.trod at h;split at h<;>simp_all [XQ]
theorem QmA {a:Addr}{n:Nat}{cs:List Value}(h:w.cells? base a n=some cs)(hn:n≠0):a=⟨a.block,a.off,none⟩:=by
 obtain⟨h1,h2⟩:=Qfb h;have h3:=h2 0 (cs[0]'(by omega)) (by simp)
 obtain⟨b,o,sp⟩:=a;cases sp with
 | none=>rfl
 | some k=>
  simp[Addr.add,World.cell?]at h3;split at h3<;>simp at h3
theorem QoF {c o k:Nat}:(Addr.mk c o none).add k=⟨c,o+k,none⟩:=Addr.add_lit _ _ _
theorem QfY {α:Type}{Q:Nat->α->Prop}: ∀n,(∀i,i<n-> ∃x,Q i x)-> ∃l:List α,l.length=n/\ ∀i x,l[i]? =some x->Q i x
 | 0,_=>⟨[],rfl,fun i x h=>by simp at h⟩
 | n+1,h=>by
  obtain⟨l,h1,h2⟩:=QfY n fun i hi=>h i (by omega)
  obtain⟨x,hx⟩:=h n (by omega)
  refine⟨l++ [x],by simp[h1],fun i y hy=>?_⟩
  rcases Nat.lt_or_ge i l.length with h3 | h3
  ·rw[List.getElem?_append_left h3]at hy; exact h2 i y hy
  ·rw[List.getElem?_append_right h3]at hy
   have:i-l.length=0:=by
    have:=(List.getElem?_eq_some_iff.1 hy).1; simp at this; omega
   rw[this]at hy; simp at hy; subst hy;have:i=n:=by omega
   subst this; exact hx
theorem QwP {B:DataW H->Nat}{BA:List (DataW H)->Nat}(K:QfL B BA)(hV: ∀c o v,w.cell? ⟨c,o,none⟩=some v->V.M c o=some v): ∀(fuel:Nat) (t:TypeId) (cs:List Value) (x:DataW H×List MemPlace),DataW.trod enc P w base spare held fuel t cs=some x-> ∃xs,Xk P fuel t xs/\Qr V β xs cs/\QoG xs/\QF xs+(if XQ P t then 1 else 0)<=B x.1:=by
 intro fuel
 induction fuel with
 | zero=>intro t cs x h; simp[DataW.trod]at h
 | succ fuel ih=>
  intro t cs x h
  have ih': ∀t l x,DataW.trod enc P w base spare held fuel t l=some x-> ∃xs,Xk P fuel t xs/\Qr V β xs l/\QoG xs/\QF xs<=B x.1:=fun t l x h=>by
   obtain⟨xs,h1,h2,h3,h4⟩:=ih t l x h;exact⟨xs,h1,h2,h3,by omega⟩
  have other:(∀xs,Xk P (fuel+1) t xs)-> ∃xs,Xk P (fuel+1) t xs/\Qr V β xs cs/\QoG xs/\QF xs+(if XQ P t then 1 else 0)<=B x.1:=fun hx=>⟨_,hx _,QmV cs,fun y hy l e=>by subst e; simp at hy,by
   have:=K.one x.1;rw[QiB]; split<;>omega⟩
  cases hu:P.underlying t with
  | none=>exact other fun xs=>by simp[Xk,hu]
  | some D=>
   cases D with
   | bool=>
    obtain⟨b,rfl,rfl⟩:=DataW.trod_bool hu h;exact⟨[.bool b],by simp[Xk,hu],YU (by unfold Rel; rfl),fun y hy l e=>by subst e; simp at hy,by simpa[QF,AV.bulk,XQ,hu]using K.one _⟩
   | int k=>
    obtain⟨n,rfl,rfl,hw⟩:=DataW.trod_int hu h;exact⟨[.int k n],by simp[Xk,hu,hw],YU (by unfold Rel; rfl),fun y hy l e=>by subst e; simp at hy,by simpa[QF,AV.bulk,XQ,hu]using K.one _⟩
   | string=>
    obtain⟨s,rfl,rfl,hs⟩:=DataW.trod_string hu h
    exact⟨[.str s],by simp[Xk,hu,hs],YU (by unfold Rel; rfl),fun y hy l e=>by subst e; simp at hy,by
     have:=K.str s.data.toList;have e:s.data.toList.length=s.size:=by simp
     simp[QF,AV.bulk,XQ,hu]; omega⟩
   | struct fs=>
    obtain⟨xs,n,hn,rfl,hl,hxs,hp⟩:=DataW.trod_struct hu h;have hn:fuel=n:=by omega
    subst hn;have hag:XQ P t=true:=by simp[XQ,hu]
    by_cases ht:tiled P 0 (P.cellsOf t) fs.toList=true
    ·rw[←hl]at ht;obtain⟨ys,h1,h2,h3,h4⟩:=Qhw K (f:=DataW.trod enc P w base spare held fuel) (q:=Xk P fuel) ih' fs.toList xs 0 ht (by simpa using hxs) (fun i g hg=>hp i g (by simpa using hg)) (Nat.zero_le _)
     have h5:=K.agg (xs.map (·.1));exact⟨ys,by simp only[Xk,hu]; exact fun _=>h1,by simpa using h2,h3,by rw[hag]; dsimp only; rw[if_pos rfl]; omega⟩
    ·exact other fun xs=>by simp only[Xk,hu]; exact fun h=>absurd h ht
   | pointer e=>
    have hag:XQ P t=false:=by simp[XQ,hu]
    by_cases h0:P.cellsOf e=0
    ·exact other fun xs=>by simp only[Xk,hu]; exact fun h=>absurd h0 h
    ·rcases DataW.trod_pointer hu h with⟨rfl,rfl⟩ | ⟨a,cs',y,n,hn,rfl,rfl,hc,hy⟩
     ·exact⟨[.nilp],by simp[Xk,hu],YU (by unfold Rel; rfl),fun y hy l e=>by subst e; simp at hy,by simpa[QF,AV.bulk,hag]using K.one _⟩
     ·have hn:fuel=n:=by omega
      subst hn;obtain⟨ys,h1,h2,_,h4⟩:=ih' e cs' y hy;have ha:=QmA hc h0;obtain⟨hl,hg⟩:=Qfb hc;refine⟨[.iptr ys],?_,YU ?_,fun y hy l e=>by subst e; simp at hy,by have:=K.ptr y.1; simp[QF,AV.bulk,hag]; omega⟩
      ·simp only[Xk,hu];exact fun _=>.inr ⟨ys,rfl,by rw[←(Qp.1 h2).1,hl],h1⟩
      ·unfold Rel;refine⟨a.block,a.off,by rw[ha],Qdn hV h2 fun i v hv=>?_⟩
       have:=hg i v hv;rw[ha,QoF]at this;exact this
   | slice e=>
    have hag:XQ P t=false:=by simp[XQ,hu]
    by_cases h0:P.cellsOf e=0
    ·exact other fun xs=>by simp only[Xk,hu]; exact fun h=>absurd h0 h
    ·rcases DataW.trod_slice hu h with⟨rfl,rfl⟩ | ⟨a,len,cap,elems,rest,n,hn,rfl,rfl,_,hlc,hcm,hel,hg,_⟩
     ·refine⟨[.isl []],by simp[Xk,hu],YU ?_,fun y hy l e=>by subst e; simp at hy,by simpa[QF,AV.bulk,hag]using K.one _⟩
      unfold Rel; exact⟨none,0,rfl,by simp,.inl rfl⟩
     ·have hn:fuel=n:=by omega
      subst hn
      obtain⟨els,hl1,hl2⟩:=QfY (Q:=fun i (x:AV)=>(∃l,x=XA (XQ P e) l/\l.length=P.cellsOf e/\Xk P fuel e l)/\(w.cells? base (a.add (i*P.cellsOf e)) (P.cellsOf e)).isSome=true/\
          x.cells.length=P.cellsOf e/\XR V β a.block (a.off+i*P.cellsOf e) x.cells/\ ∃d,(elems.map (·.1))[i]? =some d/\x.bulk<=B d) len fun i hi=>by
       have h1:=hg i hi;have hge:elems[i]? =some elems[i]:=List.getElem?_eq_getElem (by omega)
       rw[hge]at h1;cases hc:w.cells? base (a.add (i*P.cellsOf e)) (P.cellsOf e)with
       | none=>rw[hc]at h1; cases h1
       | some cs'=>
        rw[hc]at h1;obtain⟨ys,k1,k2,k3,k4⟩:=ih e cs' _ h1;obtain⟨hl,hgt⟩:=Qfb hc;have hlen:ys.length=P.cellsOf e:=by rw[←(Qp.1 k2).1,hl]
        have hcb:(XA (XQ P e) ys).cells=ys/\(XA (XQ P e) ys).bulk<=QF ys+(if XQ P e then 1 else 0):=by
         cases hag:XQ P e with
         | true=>exact⟨rfl,by simp[XA,AV.bulk]⟩
         | false=>
          have h5:=QtD hag h1;have:ys.length=1:=by omega
          match ys,this,k3 with
          | [y],_,k3=>exact⟨Xm (k3 y (by simp)),by simp[XA,QF]⟩
        obtain⟨hcells,hbulk⟩:=hcb;have ha:=QmA hc h0
        have hb:(a.add (i*P.cellsOf e)).block=a.block/\(a.add (i*P.cellsOf e)).off=a.off+i*P.cellsOf e:=by
         unfold Addr.add;split
         ·rename_i hz; rw[hz]; exact⟨rfl,rfl⟩
         ·exact⟨rfl,rfl⟩
        refine⟨_,⟨ys,rfl,hlen,k1⟩,rfl,by rw[hcells]; exact hlen,?_,_,by rw[List.getElem?_map,hge]; rfl,by dsimp only; omega⟩
        rw[hcells];refine Qdn hV k2 fun q v hv=>?_
        have:=hgt q v hv;rw[ha,QoF,hb.1,hb.2]at this;exact this
      have hbl:QF els<=BA (elems.map (·.1)):=Qow K _ _ fun i x hx=>(hl2 i x hx).2.2.2.2
      have hsl:=K.slice (elems.map (·.1)) (rest.map (·.1));refine⟨[.isl els],?_,YU ?_,fun y hy l e=>by subst e; simp at hy,by simp[QF,AV.bulk,hag]; omega⟩
      ·simp only[Xk,hu];refine fun _=>⟨els,rfl,by omega,fun x hx=>?_⟩
       obtain⟨i,hi,rfl⟩:=List.mem_iff_getElem.1 hx;exact(hl2 i _ (List.getElem?_eq_getElem hi)).1
      ·unfold Rel;refine⟨some a,cap,by rw[hl1],by omega,?_⟩
       by_cases he:els=[]
       ·exact .inl he
       ·right
        have hpos:0<els.length:=List.length_pos_iff.2 he;have h7:=(hl2 0 _ (List.getElem?_eq_getElem hpos)).2.1
        obtain⟨cs0,hc0⟩:=Option.isSome_iff_exists.1 h7;rw[Nat.zero_mul]at hc0;have ha:=QmA hc0 h0;refine⟨a.block,a.off,P.cellsOf e,?_,Zx.2 fun i x hx=>?_⟩
        ·have hz:a.add 0=a:=by unfold Addr.add; rw[if_pos rfl]
         rw[hz]at ha; exact congrArg some ha
        ·obtain⟨_,_,h8,h9,_⟩:=hl2 i x hx;exact⟨h8,ZQ.1 h9⟩
   | _=>exact other fun xs=>by simp[Xk,hu]
end
end Go.Avm
