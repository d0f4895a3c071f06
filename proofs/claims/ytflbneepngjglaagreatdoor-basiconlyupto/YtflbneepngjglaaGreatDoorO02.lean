/- How the abstract machine's values stand to the model's: Rel; how its heap stands to a world: Sim; how both may go on: Ext. -/
import Derived.Test.YtflbneepngjglaaGreatDoorO01
import Derived.Below
set_option linter.all false
namespace Go.Avm
open Go.RowKit
abbrev Beta :=Nat->Nat->Option (Option Nat)
structure View where
 M:Nat->Nat->Option Value
 S:Nat->Nat
mutual
def Rel (V:View)(β:Beta):AV->Value->Prop
 | .any,_=>True
 | .bool b,v=>v= .bool b
 | .int k n,v=>v= .int k n
 | .str s,v=>v= .string s
 | .nilp,v=>v= .pointer none
 | .ptr b ver sz i o,v=>∃c,β b ver=some (some c)/\v= .pointer (some ⟨c,i*sz+o,none⟩)
 | .iptr l,v=>∃c o,v= .pointer (some ⟨c,o,none⟩)/\XR V β c o l
 | .isl l,v=>∃a cap,v= .slice a l.length cap/\l.length<=cap/\(l=[]\/ ∃c o sz,a=some ⟨c,o,none⟩/\Qi V β c o sz l)
 | .esl,v=>∃a,v= .slice a 0 0
 | .osl b ver sz off len,v=>
  (∃c cap,β b ver=some (some c)/\v= .slice (some ⟨c,off*sz,none⟩) len cap/\len<=cap/\(off+cap)*sz<=V.S c)\/
  (β b ver=some none/\len=0/\off=0/\ ∃a,v= .slice a 0 0)
 | .agg l,v=>∃vs:Array Value,v= .agg vs/\Qr V β l vs.toList
 | .tup l,v=>∃vs:Array Value,v= .tuple vs/\Qr V β l vs.toList
 | .QI f k l,v=>∃vs:Array Value,v= .func (.func f) (vs.extract 0 k) (vs.extract k vs.size)/\Qr V β l vs.toList
 | .nilf,v=>v= .nilFunc
 | .nili,v=>v= .nilIface
 | .iface t x,v=>∃y,v= .iface t y/\Rel V β x y
 | .mref b,v=>∃c,β b 0=some (some c)/\v= .map (some c)
 | .nilm,v=>v= .map none
 | .nbuf b,v=>β b 0=some none/\v= .slice none 0 0
 | .nils,v=>v= .slice none 0 0
def Qr (V:View)(β:Beta):List AV->List Value->Prop
 | [],vs=>vs=[]
 | x::l,vs=>∃v r,vs=v::r/\Rel V β x v/\Qr V β l r
def XR (V:View)(β:Beta)(c o:Nat):List AV->Prop
 | []=>True
 | x::l=>(∃v,V.M c o=some v/\Rel V β x v)/\XR V β c (o+1) l
def Qi (V:View)(β:Beta)(c o sz:Nat):List AV->Prop
 | []=>True
 | .agg l::r=>l.length=sz/\XR V β c o l/\Qi V β c (o+sz) sz r
 | x::r=>sz=1/\(∃v,V.M c o=some v/\Rel V β x v)/\Qi V β c (o+sz) sz r
end
structure View.Le (V V':View):Prop where
 M: ∀c o v,V.M c o=some v->V'.M c o=some v
 S: ∀c,V.S c<=V'.S c
def Beta.Le(β β':Beta):Prop:=∀b v x,β b v=some x->β' b v=some x
theorem View.Le.refl(V:View):V.Le V:=⟨fun _ _ _ h=>h,fun _=>Nat.le_refl _⟩
theorem View.Le.trans{V V' V'':View}(h:V.Le V')(k:V'.Le V''):V.Le V'':=⟨fun c o v x=>k.M c o v (h.M c o v x),fun c=>Nat.le_trans (h.S c) (k.S c)⟩
theorem Beta.Le.refl(β:Beta):β.Le β:=fun _ _ _ h=>h
theorem Beta.Le.trans{a b c:Beta}(h:a.Le b)(k:b.Le c):a.Le c:=fun x y z q=>k x y z (h x y z q)
mutual
theorem Rel.mono{V V':View}{β β':Beta}(hV:V.Le V')(hβ:β.Le β'): ∀(x:AV) (v:Value),Rel V β x v->Rel V' β' x v
 | .any,_,_=>by unfold Rel; trivial
 | .bool _,_,h=>by unfold Rel at*; exact h
 | .int _ _,_,h=>by unfold Rel at*; exact h
 | .str _,_,h=>by unfold Rel at*; exact h
 | .nilp,_,h=>by unfold Rel at*; exact h
 | .nilf,_,h=>by unfold Rel at*; exact h
 | .nili,_,h=>by unfold Rel at*; exact h
 | .nilm,_,h=>by unfold Rel at*; exact h
 | .nils,_,h=>by unfold Rel at*; exact h
 | .mref b,_,h=>by
  unfold Rel at*;obtain⟨c,h1,h2⟩:=h;exact⟨c,hβ _ _ _ h1,h2⟩
 | .nbuf b,_,h=>by
  unfold Rel at*;exact⟨hβ _ _ _ h.1,h.2⟩
 | .esl,_,h=>by unfold Rel at*; exact h
 | .ptr b ver sz i o,v,h=>by
  unfold Rel at*;obtain⟨c,h1,h2⟩:=h;exact⟨c,hβ _ _ _ h1,h2⟩
 | .iptr l,v,h=>by
  unfold Rel at*;obtain⟨c,o,h1,h2⟩:=h;exact⟨c,o,h1,XR.mono hV hβ l c o h2⟩
 | .isl l,v,h=>by
  unfold Rel at*;obtain⟨a,cap,h1,h2,h3⟩:=h;refine⟨a,cap,h1,h2,?_⟩
  rcases h3 with h3 | ⟨c,o,sz,h3,h4⟩
  ·exact .inl h3
  ·exact .inr ⟨c,o,sz,h3,Qi.mono hV hβ l c o sz h4⟩
 | .osl b ver sz off len,v,h=>by
  unfold Rel at*;rcases h with⟨c,cap,h1,h2,h3,h4⟩ | ⟨h1,h2⟩
  ·exact .inl ⟨c,cap,hβ _ _ _ h1,h2,h3,Nat.le_trans h4 (hV.S c)⟩
  ·exact .inr ⟨hβ _ _ _ h1,h2⟩
 | .agg l,v,h=>by
  unfold Rel at*;obtain⟨vs,h1,h2⟩:=h;exact⟨vs,h1,Qr.mono hV hβ l _ h2⟩
 | .tup l,v,h=>by
  unfold Rel at*;obtain⟨vs,h1,h2⟩:=h;exact⟨vs,h1,Qr.mono hV hβ l _ h2⟩
 | .QI f k l,v,h=>by
  unfold Rel at*;obtain⟨vs,h1,h2⟩:=h;exact⟨vs,h1,Qr.mono hV hβ l _ h2⟩
 | .iface t x,v,h=>by
  unfold Rel at*;obtain⟨y,h1,h2⟩:=h;exact⟨y,h1,Rel.mono hV hβ x y h2⟩
theorem Qr.mono{V V':View}{β β':Beta}(hV:V.Le V')(hβ:β.Le β'): ∀(l:List AV) (vs:List Value),Qr V β l vs->Qr V' β' l vs
 | [],_,h=>by unfold Qr at*; exact h
 | x::l,vs,h=>by
  unfold Qr at*;obtain⟨v,r,h1,h2,h3⟩:=h;exact⟨v,r,h1,Rel.mono hV hβ x v h2,Qr.mono hV hβ l r h3⟩
theorem XR.mono{V V':View}{β β':Beta}(hV:V.Le V')(hβ:β.Le β'): ∀(l:List AV) (c o:Nat),XR V β c o l->XR V' β' c o l
 | [],_,_,_=>by unfold XR; trivial
 | x::l,c,o,h=>by
  unfold XR at*;obtain⟨⟨v,h1,h2⟩,h3⟩:=h;exact⟨⟨v,hV.M _ _ _ h1,Rel.mono hV hβ x v h2⟩,XR.mono hV hβ l c _ h3⟩
theorem Qi.mono{V V':View}{β β':Beta}(hV:V.Le V')(hβ:β.Le β'): ∀(l:List AV) (c o sz:Nat),Qi V β c o sz l->Qi V' β' c o sz l
 | [],_,_,_,_=>by unfold Qi; trivial
 | .agg k::r,c,o,sz,h=>by
  unfold Qi at*;exact⟨h.1,XR.mono hV hβ k c o h.2.1,Qi.mono hV hβ r c _ sz h.2.2⟩
 | .any::r,c,o,sz,h=>by
  unfold Qi at*;obtain⟨h0,⟨v,h1,h2⟩,h3⟩:=h;exact⟨h0,⟨v,hV.M _ _ _ h1,Rel.mono hV hβ _ v h2⟩,Qi.mono hV hβ r c _ sz h3⟩
 | .bool _::r,c,o,sz,h=>by
  unfold Qi at*;obtain⟨h0,⟨v,h1,h2⟩,h3⟩:=h;exact⟨h0,⟨v,hV.M _ _ _ h1,Rel.mono hV hβ _ v h2⟩,Qi.mono hV hβ r c _ sz h3⟩
 | .int _ _::r,c,o,sz,h=>by
  unfold Qi at*;obtain⟨h0,⟨v,h1,h2⟩,h3⟩:=h;exact⟨h0,⟨v,hV.M _ _ _ h1,Rel.mono hV hβ _ v h2⟩,Qi.mono hV hβ r c _ sz h3⟩
 | .str _::r,c,o,sz,h=>by
  unfold Qi at*;obtain⟨h0,⟨v,h1,h2⟩,h3⟩:=h;exact⟨h0,⟨v,hV.M _ _ _ h1,Rel.mono hV hβ _ v h2⟩,Qi.mono hV hβ r c _ sz h3⟩
 | .nilp::r,c,o,sz,h=>by
  unfold Qi at*;obtain⟨h0,⟨v,h1,h2⟩,h3⟩:=h;exact⟨h0,⟨v,hV.M _ _ _ h1,Rel.mono hV hβ _ v h2⟩,Qi.mono hV hβ r c _ sz h3⟩
 | .ptr b v' s i p::r,c,o,sz,h=>by
  unfold Qi at*;obtain⟨h0,⟨v,h1,h2⟩,h3⟩:=h;exact⟨h0,⟨v,hV.M _ _ _ h1,Rel.mono hV hβ (.ptr b v' s i p) v h2⟩,Qi.mono hV hβ r c _ sz h3⟩
 | .iptr l::r,c,o,sz,h=>by
  unfold Qi at*;obtain⟨h0,⟨v,h1,h2⟩,h3⟩:=h;exact⟨h0,⟨v,hV.M _ _ _ h1,Rel.mono hV hβ (.iptr l) v h2⟩,Qi.mono hV hβ r c _ sz h3⟩
 | .isl l::r,c,o,sz,h=>by
  unfold Qi at*;obtain⟨h0,⟨v,h1,h2⟩,h3⟩:=h;exact⟨h0,⟨v,hV.M _ _ _ h1,Rel.mono hV hβ (.isl l) v h2⟩,Qi.mono hV hβ r c _ sz h3⟩
 | .esl::r,c,o,sz,h=>by
  unfold Qi at*;obtain⟨h0,⟨v,h1,h2⟩,h3⟩:=h;exact⟨h0,⟨v,hV.M _ _ _ h1,Rel.mono hV hβ _ v h2⟩,Qi.mono hV hβ r c _ sz h3⟩
 | .osl b v' s p n::r,c,o,sz,h=>by
  unfold Qi at*;obtain⟨h0,⟨v,h1,h2⟩,h3⟩:=h;exact⟨h0,⟨v,hV.M _ _ _ h1,Rel.mono hV hβ (.osl b v' s p n) v h2⟩,Qi.mono hV hβ r c _ sz h3⟩
 | .tup l::r,c,o,sz,h=>by
  unfold Qi at*;obtain⟨h0,⟨v,h1,h2⟩,h3⟩:=h;exact⟨h0,⟨v,hV.M _ _ _ h1,Rel.mono hV hβ (.tup l) v h2⟩,Qi.mono hV hβ r c _ sz h3⟩
 | .QI f k l::r,c,o,sz,h=>by
  unfold Qi at*;obtain⟨h0,⟨v,h1,h2⟩,h3⟩:=h;exact⟨h0,⟨v,hV.M _ _ _ h1,Rel.mono hV hβ (.QI f k l) v h2⟩,Qi.mono hV hβ r c _ sz h3⟩
 | .nilf::r,c,o,sz,h=>by
  unfold Qi at*;obtain⟨h0,⟨v,h1,h2⟩,h3⟩:=h;exact⟨h0,⟨v,hV.M _ _ _ h1,Rel.mono hV hβ _ v h2⟩,Qi.mono hV hβ r c _ sz h3⟩
 | .nili::r,c,o,sz,h=>by
  unfold Qi at*;obtain⟨h0,⟨v,h1,h2⟩,h3⟩:=h;exact⟨h0,⟨v,hV.M _ _ _ h1,Rel.mono hV hβ _ v h2⟩,Qi.mono hV hβ r c _ sz h3⟩
 | .iface t x::r,c,o,sz,h=>by
  unfold Qi at*;obtain⟨h0,⟨v,h1,h2⟩,h3⟩:=h;exact⟨h0,⟨v,hV.M _ _ _ h1,Rel.mono hV hβ (.iface t x) v h2⟩,Qi.mono hV hβ r c _ sz h3⟩
 | .mref b::r,c,o,sz,h=>by
  unfold Qi at*;obtain⟨h0,⟨v,h1,h2⟩,h3⟩:=h;exact⟨h0,⟨v,hV.M _ _ _ h1,Rel.mono hV hβ (.mref b) v h2⟩,Qi.mono hV hβ r c _ sz h3⟩
 | .nbuf b::r,c,o,sz,h=>by
  unfold Qi at*;obtain⟨h0,⟨v,h1,h2⟩,h3⟩:=h;exact⟨h0,⟨v,hV.M _ _ _ h1,Rel.mono hV hβ (.nbuf b) v h2⟩,Qi.mono hV hβ r c _ sz h3⟩
 | .nilm::r,c,o,sz,h=>by
  unfold Qi at*;obtain⟨h0,⟨v,h1,h2⟩,h3⟩:=h;exact⟨h0,⟨v,hV.M _ _ _ h1,Rel.mono hV hβ _ v h2⟩,Qi.mono hV hβ r c _ sz h3⟩
 | .nils::r,c,o,sz,h=>by
  unfold Qi at*;obtain⟨h0,⟨v,h1,h2⟩,h3⟩:=h;exact⟨h0,⟨v,hV.M _ _ _ h1,Rel.mono hV hβ _ v h2⟩,Qi.mono hV hβ r c _ sz h3⟩
end
def BC (rd:Nat->Nat->Option Value)(V:View)(β:Beta)(c o:Nat)(l:List AV):Prop:=
 ∀j x,l[j]? =some x-> ∃v,rd c (o+j)=some v/\Rel V β x v
def BE (rd:Nat->Nat->Option Value)(V:View)(β:Beta)(c o sz:Nat)(l:List AV):Prop:=
 ∀i x,l[i]? =some x->x.cells.length=sz/\BC rd V β c (o+i*sz) x.cells
theorem ZQ {V:View}{β:Beta}{c:Nat}: ∀{l:List AV} {o:Nat},XR V β c o l↔BC V.M V β c o l
 | [],o=>by unfold XR BC; simp
 | x::l,o=>by
  unfold XR;rw[ZQ];constructor
  ·rintro⟨h1,h2⟩ j y hj
   cases j with
   | zero=>simp at hj; subst hj; exact h1
   | succ j=>
    simp at hj;have:=h2 j y hj
    rwa[Nat.add_assoc,Nat.add_comm 1 j]at this
  ·intro h;refine⟨h 0 x (by simp),fun j y hj=>?_⟩
   have:=h (j+1) y (by simpa using hj)
   rwa[Nat.add_assoc,Nat.add_comm 1 j]
theorem QfJ {V:View}{β:Beta}{c o sz:Nat}{x:AV}{r:List AV}:Qi V β c o sz (x::r)↔x.cells.length=sz/\XR V β c o x.cells/\Qi V β c (o+sz) sz r:=by
 cases x<;>simp[Qi,AV.cells,XR,eq_comm]
theorem Zx {V:View}{β:Beta}{c sz:Nat}: ∀{l:List AV} {o:Nat},Qi V β c o sz l↔BE V.M V β c o sz l
 | [],o=>by unfold Qi BE; simp
 | x::l,o=>by
  rw[QfJ,Zx];constructor
  ·rintro⟨h0,h1,h2⟩ i y hi
   cases i with
   | zero=>simp at hi; subst hi; exact⟨h0,by simpa using ZQ.1 h1⟩
   | succ i=>
    simp at hi;have:=h2 i y hi;rw[Nat.add_assoc]at this
    rwa[Nat.succ_mul,Nat.add_comm (i*sz) sz]
  ·intro h;have h0:=h 0 x (by simp)
   refine⟨h0.1,ZQ.2 (by simpa using h0.2),fun i y hi=>?_⟩
   have:=h (i+1) y (by simpa using hi)
   rw[Nat.succ_mul,Nat.add_comm (i*sz) sz]at this
   rwa[Nat.add_assoc]
theorem Qp {V:View}{β:Beta}: ∀{l:List AV} {vs:List Value},Qr V β l vs↔vs.length=l.length/\ ∀(j:Nat) (x:AV),l[j]? =some x-> ∃v,vs[j]? =some v/\Rel V β x v
 | [],vs=>by unfold Qr; simp[List.length_eq_zero_iff]
 | x::l,vs=>by
  unfold Qr;constructor
  ·rintro⟨v,r,rfl,h1,h2⟩
   rw[Qp]at h2;refine⟨by simp[h2.1],fun j y hj=>?_⟩
   cases j with
   | zero=>simp at hj; subst hj; exact⟨v,rfl,h1⟩
   | succ j=>simpa using h2.2 j y (by simpa using hj)
  ·rintro⟨h1,h2⟩
   cases vs with
   | nil=>simp at h1
   | cons v r=>
    obtain⟨v',hv,hr⟩:=h2 0 x (by simp)
    simp at hv; subst hv;refine⟨v,r,rfl,hr,Qp.2 ⟨by simpa using h1,fun j y hj=>?_⟩⟩
    simpa using h2 (j+1) y (by simpa using hj)
theorem BC.mono{rd rd':Nat->Nat->Option Value}{V V':View}{β β':Beta}{c o:Nat}{l:List AV}(hrd: ∀j v,j<l.length->rd c (o+j)=some v->rd' c (o+j)=some v)(hV:V.Le V')(hβ:β.Le β')(h:BC rd V β c o l):BC rd' V' β' c o l:=fun j x hj=>by
 obtain⟨v,h1,h2⟩:=h j x hj;exact⟨v,hrd j v (List.getElem?_eq_some_iff.1 hj).1 h1,Rel.mono hV hβ x v h2⟩
theorem BE.mono{rd rd':Nat->Nat->Option Value}{V V':View}{β β':Beta}{c o sz:Nat}{l:List AV}(hrd: ∀p v,rd c p=some v->rd' c p=some v)(hV:V.Le V')(hβ:β.Le β')(h:BE rd V β c o sz l):BE rd' V' β' c o sz l:=fun i x hi=>
 ⟨(h i x hi).1,(h i x hi).2.mono (fun _ v _ hv=>hrd _ v hv) hV hβ⟩
def cur (h:H)(b:Nat):Option Nat:=match h[b]? with
 | some (.arr v _ _)=>some v
 | some (.sit _ _)=>some 0
 | some (.buf _ s)=>some s.size
 | some (.mp _)=>some 0
 | _=>none
def Live (wr:Nat)(β:Beta)(h:H)(c:Nat):Prop:=∃b v,wr<=b/\cur h b=some v/\β b v=some (some c)
open Classical in
noncomputable def view (wr:Nat) (β:Beta) (h:H) (w:World):View where
 M c o:=if Live wr β h c then none else w.cell? ⟨c,o,none⟩
 S c:=match w.heap[c]? with | some (.cells cs _ _)=>cs.size | _=>0
def rdw (w:World):Nat->Nat->Option Value:=fun c o=>w.cell? ⟨c,o,none⟩
def QAo (V:View)(β:Beta)(l:List (AV×AV))(es:Array MapEntry)(clock:Nat):Prop:=
 es.size=l.length/\(∀(i:Nat) k x,l[i]? =some (k,x)-> ∃e,es[i]? =some e/\k.pure=true/\x.pure=true/\Rel V β k e.key/\Rel V β x e.val/\e.born<clock)/\
  ∀(i j:Nat) e f,es[i]? =some e->es[j]? =some f->e.born=f.born->i=j
def Oth (V:View)(β:Beta)(o:Option Obj):Qq->Prop
 | .sit s p=>o=some (.stringIter s p)
 | .buf T s=>∃cs:Array Value,o=some (.cells cs T (0,0))/\s.size<=cs.size/\ ∀(j:Nat) (x:UInt8),s.data.toList[j]? =some x->cs[j]? =some (Value.int .u8 (x.toNat:Int))
 | .mp l=>∃es clock,o=some (.map es clock)/\QAo V β l es clock
 | _=>True
theorem Oth.mono{V V':View}{β β':Beta}{o o':Option Obj}(ho:o'=o)(hV:V.Le V')(hβ:β.Le β'): ∀{x:Qq},Oth V β o x->Oth V' β' o' x
 | .sit ..,h=>by subst ho; exact h
 | .buf ..,h=>by subst ho; exact h
 | .mp l,h=>by
  subst ho;obtain⟨es,clock,h1,h2,h3,h4⟩:=h;refine⟨es,clock,h1,h2,fun i k x hx=>?_,h4⟩
  obtain⟨e,g1,g2,g3,g4,g5,g6⟩:=h3 i k x hx;exact⟨e,g1,g2,g3,Rel.mono hV hβ _ _ g4,Rel.mono hV hβ _ _ g5,g6⟩
 | .arr ..,_=>trivial
 | .dead _,_=>trivial
 | .tyd ..,_=>trivial
structure Sim (w0:World) (wr:Nat) (β:Beta) (h:H) (w:World):Prop where
 below:Below w0.heap.size w0 w
 dom: ∀b v c,β b v=some (some c)->b<h.length/\w0.heap.size<=c/\c<w.heap.size
 domv: ∀b v,β b v=some none->b<h.length
 inj: ∀b b' v v' c,cur h b=some v->cur h b'=some v'->β b v=some (some c)->β b' v'=some (some c)->b=b'
 arr: ∀b v sz els c,h[b]? =some (.arr v sz els)->β b v=some (some c)->
  (∃cs T fr,w.heap[c]? =some (.cells cs T fr)/\els.length*sz<=cs.size)/\(∀o,o<(view wr β h w).S c->w.frozen? ⟨c,o,none⟩=false)/\BE (rdw w) (view wr β h w) β c 0 sz els
 oth: ∀b x v c,h[b]? =some x->cur h b=some v->β b v=some (some c)->Oth (view wr β h w) β w.heap[c]? x
 tyd: ∀k b v T n,h[k]? =some (.tyd b v T n)->b<k/\ ∃c cs fr,β b v=some (some c)/\w.heap[c]? =some (.cells cs T fr)/\cs.size=n
 old: ∀b v v0,cur h b=some v0->v0<v->β b v=none
 oldd: ∀b v v0,h[b]? =some (.dead v0)->v0<=v->β b v=none
structure Ext0 (wr:Nat) (β:Beta) (h:H) (w:World) (β':Beta) (h':H) (w':World):Prop where
 os:w'.os=w.os
 tape:w'.tape=w.tape
 output:w'.output=w.output
 size:w.heap.size<=w'.heap.size
 len:h.length<=h'.length
 beta:β.Le β'
 stay: ∀c,c<w.heap.size-> ¬Live wr β h c->w'.heap[c]? =w.heap[c]? /\ ¬Live wr β' h' c
 shape: ∀(c:Nat) (cs:Array Value) (T:TypeId) (fr:Nat×Nat),w.heap[c]? =some (.cells cs T fr)-> ∃(cs':Array Value) (fr':Nat×Nat),w'.heap[c]? =some (.cells cs' T fr')/\cs'.size=cs.size
structure Fresh (β:Beta) (h:H) (β':Beta) (h':H):Prop where
 fresh: ∀b,b<h.length->(∀v,β b v=none)-> ∀v,β' b v=none
 ver: ∀b v,b<h.length->cur h' b=some v-> ∃v0,cur h b=some v0/\v0<=v
 freshv: ∀b v,b<h.length->(∀v0,cur h b=some v0->v<=v0)->β b v=none->β' b v=none
 keep: ∀b,b<h.length->(∀v,β b v=none)->h'[b]? =h[b]?
theorem Fresh.refl(β:Beta)(h:H):Fresh β h β h:=⟨fun _ _ h=>h,fun _ v _ h=>⟨v,h,Nat.le_refl _⟩,fun _ _ _ _ h=>h,fun _ _ _=>rfl⟩
theorem Fresh.trans{β β1 β2:Beta}{h h1 h2:H}(hl:h.length<=h1.length)(a:Fresh β h β1 h1)(b:Fresh β1 h1 β2 h2):Fresh β h β2 h2:=
 ⟨fun k hk hn=>b.fresh k (Nat.lt_of_lt_of_le hk hl) (a.fresh k hk hn),fun k v hk hc=>by
  obtain⟨v1,h1,l1⟩:=b.ver k v (Nat.lt_of_lt_of_le hk hl) hc;obtain⟨v0,h0,l0⟩:=a.ver k v1 hk h1
  exact⟨v0,h0,Nat.le_trans l0 l1⟩,fun k v hk hv hn=>b.freshv k v (Nat.lt_of_lt_of_le hk hl) (fun v1 h1=>by
   obtain⟨v0,h0,l0⟩:=a.ver k v1 hk h1;exact Nat.le_trans (hv v0 h0) l0) (a.freshv k v hk hv hn),fun k hk hn=>(b.keep k (Nat.lt_of_lt_of_le hk hl) (a.fresh k hk hn)).trans (a.keep k hk hn)⟩
structure Ext (wr:Nat) (β:Beta) (h:H) (w:World) (β':Beta) (h':H) (w':World):Prop extends Ext0 wr β h w β' h' w',Fresh β h β' h'
theorem Ext0.refl(wr:Nat)(β:Beta)(h:H)(w:World):Ext0 wr β h w β h w:=
 ⟨rfl,rfl,rfl,Nat.le_refl _,Nat.le_refl _,Beta.Le.refl _,fun _ _ h=>⟨rfl,h⟩,fun _ _ _ _ h=>⟨_,_,h,rfl⟩⟩
theorem Ext0.trans{wr:Nat}{β β1 β2:Beta}{h h1 h2:H}{w w1 w2:World}(a:Ext0 wr β h w β1 h1 w1)(b:Ext0 wr β1 h1 w1 β2 h2 w2):Ext0 wr β h w β2 h2 w2:=
 ⟨b.os.trans a.os,b.tape.trans a.tape,b.output.trans a.output,Nat.le_trans a.size b.size,Nat.le_trans a.len b.len,a.beta.trans b.beta,
  fun c hc hl=>⟨((b.stay c (Nat.lt_of_lt_of_le hc a.size) (a.stay c hc hl).2).1).trans (a.stay c hc hl).1,(b.stay c (Nat.lt_of_lt_of_le hc a.size) (a.stay c hc hl).2).2⟩,
  fun c cs T fr hc=>by
   obtain⟨cs1,fr1,h1,e1⟩:=a.shape c cs T fr hc;obtain⟨cs2,fr2,h2,e2⟩:=b.shape c cs1 T fr1 h1;exact⟨cs2,fr2,h2,e2.trans e1⟩⟩
theorem Ext.refl(wr:Nat)(β:Beta)(h:H)(w:World):Ext wr β h w β h w:=⟨Ext0.refl _ _ _ _,Fresh.refl _ _⟩
theorem Ext.trans{wr:Nat}{β β1 β2:Beta}{h h1 h2:H}{w w1 w2:World}(a:Ext wr β h w β1 h1 w1)(b:Ext wr β1 h1 w1 β2 h2 w2):Ext wr β h w β2 h2 w2:=
 ⟨a.toExt0.trans b.toExt0,Fresh.trans a.len a.toFresh b.toFresh⟩
theorem QlY {w:World}{c o:Nat}{v:Value}(h:w.cell? ⟨c,o,none⟩=some v):c<w.heap.size:=by
 unfold World.cell? at h;rcases Nat.lt_or_ge c w.heap.size with h1 | h1
 ·exact h1
 ·simp[Array.getElem?_eq_none h1]at h
theorem cell_of_heap {w w':World}{c o:Nat}(h:w'.heap[c]? =w.heap[c]?):w'.cell? ⟨c,o,none⟩=w.cell? ⟨c,o,none⟩:=by
 unfold World.cell?; rw[h]
theorem Ext0.view{wr:Nat}{β β':Beta}{h h':H}{w w':World}(x:Ext0 wr β h w β' h' w'):(view wr β h w).Le (view wr β' h' w'):=by
 refine⟨fun c o v hv=>?_,fun c=>?_⟩
 ·unfold Avm.view at*;dsimp only at*;split at hv
  ·cases hv
  ·rename_i hl;obtain⟨h1,h2⟩:=x.stay c (QlY hv) hl;rw[if_neg h2,cell_of_heap h1];exact hv
 ·unfold Avm.view;dsimp only;cases hc:w.heap[c]? with
  | none=>simp
  | some o=>
   cases o with
   | cells cs T fr=>
    obtain⟨cs',fr',h1,h2⟩:=x.shape c cs T fr hc;rw[h1];simp[h2]
   | _=>simp
theorem Ext0.tyd{wr:Nat}{β β':Beta}{h h':H}{w w':World}(x:Ext0 wr β h w β' h' w'){k b v T n:Nat}(t:b<k/\ ∃c cs fr,β b v=some (some c)/\w.heap[c]? =some (.cells cs T fr)/\cs.size=n):
    b<k/\ ∃c cs fr,β' b v=some (some c)/\w'.heap[c]? =some (.cells cs T fr)/\cs.size=n:=by
 obtain⟨hb,c,cs,fr,h1,h2,h3⟩:=t;obtain⟨cs',fr',h4,h5⟩:=x.shape c cs T fr h2;exact⟨hb,c,cs',fr',x.beta _ _ _ h1,h4,h5.trans h3⟩
theorem Sim.sit{w0:World}{wr:Nat}{β:Beta}{h:H}{w:World}(S:Sim w0 wr β h w)(b:Nat)(s:ByteArray)(p c:Nat)(hb:h[b]? =some (.sit s p))(hc:β b 0=some (some c)):w.heap[c]? =some (.stringIter s p):=
 S.oth b _ 0 c hb (by unfold cur; rw[hb]) hc
theorem Ext0.rel{wr:Nat}{β β':Beta}{h h':H}{w w':World}(x:Ext0 wr β h w β' h' w'){a:AV}{v:Value}(r:Rel (Avm.view wr β h w) β a v):Rel (Avm.view wr β' h' w') β' a v:=
 Rel.mono x.view x.beta a v r
def Qo (V:View)(β:Beta)(e:Env)(tmps:Array Value):Prop:=∀n x,e.get n=some x-> ∃v,tmps[n]? =some v/\Rel V β x v
theorem Qo.mono{V V':View}{β β':Beta}(hV:V.Le V')(hβ:β.Le β'){e:Env}{t:Array Value}(h:Qo V β e t):Qo V' β' e t:=fun n x hx=>by
 obtain⟨v,h1,h2⟩:=h n x hx;exact⟨v,h1,Rel.mono hV hβ x v h2⟩
theorem QaL (e:Env)(n m:Nat)(v:AV):(e.put n v).get m=if n=m then some v else e.get m:=by
 induction e with
 | nil=>simp[Env.put,Env.get]
 | cons p r ih=>
  obtain⟨k,u⟩:=p;unfold Env.put;by_cases h1:n=k
  ·subst h1;rw[if_pos rfl];by_cases h:n=m<;>simp[Env.get,h]
  ·rw[if_neg h1];by_cases h2:n<k
   ·rw[if_pos h2];by_cases h:n=m<;>simp[Env.get,h]
   ·rw[if_neg h2];by_cases h:k=m
    ·subst h;simp[Env.get,h1]
    ·simp only[Env.get,if_neg h];rw[ih]
theorem get_filter (e:Env)(p:Nat->Bool)(n:Nat)(x:AV)(h:Env.get (e.filter fun q=>p q.1) n=some x): ∃y,e.get n=some y/\p n=true:=by
 induction e with
 | nil=>simp[Env.get]at h
 | cons q r ih=>
  obtain⟨k,u⟩:=q;rw[List.filter_cons]at h;by_cases hp:p k=true
  ·rw[if_pos hp]at h;by_cases hk:k=n
   ·subst hk; exact⟨u,by simp[Env.get],hp⟩
   ·simp only[Env.get,if_neg hk]at h ⊢;exact ih h
  ·rw[if_neg hp]at h;obtain⟨y,h1,h2⟩:=ih h;by_cases hk:k=n
   ·subst hk; exact absurd h2 hp
   ·exact⟨y,by simp only[Env.get,if_neg hk]; exact h1,h2⟩
theorem Yd (e:Env)(p:Nat->Bool)(n:Nat)(hp:p n=true):Env.get (e.filter fun q=>p q.1) n=e.get n:=by
 induction e with
 | nil=>rfl
 | cons q r ih=>
  obtain⟨k,u⟩:=q;rw[List.filter_cons];by_cases hk:k=n
  ·subst hk; rw[if_pos hp]; simp[Env.get]
  ·by_cases h:p k=true
   ·rw[if_pos h]; simp only[Env.get,if_neg hk]; exact ih
   ·rw[if_neg h]; simp only[Env.get,if_neg hk]; exact ih
theorem Qo.keep{V:View}{β:Beta}{e:Env}{t:Array Value}(h:Qo V β e t)(l:List Nat):Qo V β (e.keep l) t:=fun n x hx=>by
 obtain⟨y,_,h2⟩:=get_filter e (fun k=>l.contains k) n x hx
 unfold Env.keep at hx;rw[Yd e (fun k=>l.contains k) n h2]at hx
 exact h n x hx
theorem Qo.put{V:View}{β:Beta}{e:Env}{a:Act}(h:Qo V β e a.tmps)(d:Option Nat){x:AV}{v:Value}(hr:Rel V β x v)(hd: ∀n,d=some n->n<a.tmps.size):Qo V β (Jc e d x) (a.put d v).tmps:=by
 cases d with
 | none=>exact h
 | some n=>
  intro m y hy;simp only[Jc]at hy;rw[QaL]at hy;have hn:=hd n rfl;simp only[Act.put];by_cases hm:n=m
  ·subst hm;rw[if_pos rfl]at hy;injection hy with hy;subst hy;exact⟨v,by simp[hn],hr⟩
  ·rw[if_neg hm]at hy;obtain⟨u,h1,h2⟩:=h m y hy;exact⟨u,by simp[Array.getElem?_setIfInBounds_ne hm,h1],h2⟩
end Go.Avm
