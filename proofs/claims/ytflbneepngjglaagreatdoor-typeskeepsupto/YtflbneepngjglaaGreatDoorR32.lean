/- References that name something; items that differ in name. -/
import Derived.Test.YtflbneepngjglaaGreatDoorR31
set_option linter.all false
namespace Go.Proofs.YtflbneepngjglaaGreatDoor
open Go Go.Avm
theorem cloneT_ok (l : List Ty) (hl : l.length≤67108864) (ws : Nat) (h : Avm.H) : callL cfg ws 97 [.isl (l.map Ty.enc)] h=some (.osl h.length 0 8 0 l.length,h++[.arr 0 8 (l.map Ty.enc)]):=by
 refine callL_ext rfl ?_
 have : l.length≤lim:=by unfold lim; omega
 simp [cloneX,this]
theorem kids_loop (t : Ty) (ht : t.wid≤67108864) (h : Avm.H) : ∃ v g,SlcIn h.length 1 8 g ((t.kids++t.items.map It.of).map Ty.enc) v ∧
    roundsL (evC (callL cfg) roundsL cfg.pol h.length h.length c157L0) [3,19,20,21] [(3,.osl (h.length + 1) 0 8 0 t.kids.length),(19,.isl (t.items.map It.enc)),(20,.int .i64 t.items.length),(21,.int .i64 (0 : Nat))] (h++([.arr 0 8 [t.enc]]++[.arr 0 8 (t.kids.map Ty.enc)])) =
     some (.exit 0,[(3,v),(19,.isl (t.items.map It.enc)),(20,.int .i64 t.items.length),(21,.int .i64 t.items.length)],h++([.arr 0 8 [t.enc]]++g)):=by
 have hlp:=loop_post (γ:=AV × Avm.H) (f:=evC (callL cfg) roundsL cfg.pol h.length h.length c157L0) (keep:=[3,19,20,21]) t.items
     (fun i c=>SlcIn h.length 1 8 c.2 ((t.kids++(t.items.take i).map It.of).map Ty.enc) c.1)
     (fun i c=>[(3,c.1),(19,.isl (t.items.map It.enc)),(20,.int .i64 t.items.length),(21,.int .i64 i)])
     (fun _ g=>h++([.arr 0 8 [t.enc]]++g.2))
     (fun _ _ o=>∃ v g,SlcIn h.length 1 8 g ((t.kids++t.items.map It.of).map Ty.enc) v∧o=(.exit 0,[(3,v),(19,.isl (t.items.map It.enc)),(20,.int .i64 t.items.length),(21,.int .i64 t.items.length)],h++([.arr 0 8 [t.enc]]++g))) ?_ ?_
     (.osl (h.length + 1) 0 8 0 t.kids.length,[.arr 0 8 (t.kids.map Ty.enc)]) (.inr ⟨0,0,by simp,by simp⟩)
 ·obtain ⟨o,hl,v,g,hI,ho⟩:=hlp
  exact ⟨v,g,hI,ho ▸ hl⟩
 ·intro i x r c hd hi hx hI K hK
  have h1:=t.wid_items
  have h2:=t.wid_kids
  have hw:=wrap_nat (n:=i + 1) (by omega)
  simp at hw
  have htk : t.items.take (i + 1)=t.items.take i++[x]:=by rw [List.take_succ_eq_append_getElem hi,hx]
  rw [htk] at hK
  obtain ⟨v,g⟩:=c
  dsimp only at hI
  simp [-Prod.exists,c157L0,hi,hx,hw,bslP,appended]
  generalize hA : appI _ _ _ _ _ _ _=r
  obtain ⟨v',g',rfl,h2⟩:=SlcIn.use (pre:=[_]) hI hA (by simp; omega) (by simp)
  obtain ⟨o,h4,h5⟩:=hK (v',g') (by simpa using h2)
  refine ⟨o,?_,by simpa using h5⟩
  simp at h4
  simp [h4,hw]
 ·intro c K hI
  refine ⟨_,?_,c.1,c.2,by simpa using hI,rfl⟩
  simp [c157L0]
theorem kids_ok (t : Ty) (ht : t.wid≤67108864) (ws : Nat) (h : Avm.H) : callL cfg ws 157 [t.enc] h=some (.isl (t.inner.map Ty.enc),h):=by
 refine callL_fn rfl rfl ?_
 have hk:=fun ws h=>cloneT_ok t.kids (Nat.le_trans t.wid_kids ht) ws h
 cases hcomp : t.comp with
 | false=>
  have hin : t.inner=t.kids:=by simp [Ty.inner,hcomp]
  simp [Ty.comp] at hcomp
  rw [hin]
  simp [F157,c157,hk,hcomp]
 | true=>
  have hin : t.inner=t.kids++t.items.map It.of:=by simp [Ty.inner,hcomp]
  obtain ⟨v,g,hI,hl⟩:=kids_loop t ht h
  simp [Ty.comp] at hcomp
  rw [hin]
  have hc:=hI.cells
  have h1:=hI.one
  rcases hcomp with hcomp | hcomp <;> simp [hcomp] at hl <;> simp [F157,c157,hk,hcomp,hl,hc,h1] <;> generalize hA : frz _ _ v _=r <;>
   obtain ⟨g',rfl⟩:=SlcIn.frz_use (pre:=[_]) hI hA (pureL_tys _) <;> simp
theorem size_ok : ∀ (n : Nat) (t : Ty),t.size≤n→t.wid≤67108864→t.nodes≤67108864→∀ ws h,callL cfg ws 149 [t.enc] h=some (.tup [.int .i64 t.nodes,.int .i64 t.depth],h)
 | 0,t,ht,_,_,_,_=>by have:=t.size_pos; omega
 | n + 1,t,ht,hw0,hb,ws,h=>by
  have hk:=kids_ok t hw0
  have hlen:=t.len_inner
  have hdep:=Ty.depth_le _ t (Nat.le_refl _)
  refine callL_fn rfl rfl ?_
  have hlp:=loop_post (γ:=Avm.H) (f:=evC (callL cfg) roundsL cfg.pol h.length h.length c149L0) (keep:=[2,3,9,10,11]) t.inner (fun _ _=>True)
   (fun i _=>[(2,.int .i64 ((1 + ((t.inner.take i).map Ty.nodes).sum : Nat) : Int)),(3,.int .i64 ((maxL ((t.inner.take i).map Ty.depth) : Nat) : Int)),(9,.isl (t.inner.map Ty.enc)),(10,.int .i64 t.inner.length),(11,.int .i64 i)]) (fun _ g=>h++([.arr 0 8 [t.enc]]++g))
   (fun _ _ o=>∃ g,o=(.exit 0,[(2,.int .i64 ((1 + (t.inner.map Ty.nodes).sum : Nat) : Int)),(3,.int .i64 ((maxL (t.inner.map Ty.depth) : Nat) : Int)),(9,.isl (t.inner.map Ty.enc)),(10,.int .i64 t.inner.length),(11,.int .i64 t.inner.length)],h++([.arr 0 8 [t.enc]]++g))) ?_ ?_ [] trivial
  ·obtain ⟨o,h1,g,h2⟩:=hlp
   subst h2
   have hd:=t.depth_eq
   have hn:=t.nodes_eq
   have hw1:=wrap_nat (n:=maxL (t.inner.map Ty.depth) + 1) (by omega)
   rw [show maxL (t.inner.map Ty.depth) + 1=t.depth by omega] at hw1
   rw [hn,hd]
   simp [maxL] at h1
   simp at hk
   simp [F149,c149,hk,h1]
   rw [hd] at hw1
   simp at hw1
   rw [Int.add_comm,hw1]
  ·intro i x r g hd hi hx _ K hK
   have hw:=wrap_nat (n:=i + 1) (by omega)
   have hm1 : x ∈ t.inner:=by rw [← hx]; exact List.getElem_mem hi
   have hsz:=Ty.mem_inner hm1
   have hwx:=Ty.wid_inner hm1
   have hnx:=Ty.nodes_inner hm1
   have htk : t.inner.take (i + 1)=t.inner.take i++[x]:=by rw [List.take_succ_eq_append_getElem hi,hx]
   have hs2:=sum_take Ty.nodes t.inner (i + 1)
   have hn:=t.nodes_eq
   rw [htk] at hK hs2
   simp only [List.map_append,List.map_cons,List.map_nil,List.sum_append,List.sum_cons,List.sum_nil,Nat.add_zero,maxL_snoc] at hK hs2
   have hw2:=wrap_nat (n:=1 + ((t.inner.take i).map Ty.nodes).sum + x.nodes) (by omega)
   have hmx : ∀ a b : Nat,(if a < b then (b : Int) else (a : Int))=((max a b : Nat) : Int):=fun a b=>by split <;> omega
   have hcl:=fun h'=>size_ok n x (by omega) (by omega) (by omega) h.length h'
   simp only [Ty.enc_eq] at hcl
   obtain ⟨o,h4,g2,h5⟩:=hK (g++[.arr 0 8 [x.enc]]) trivial
   refine ⟨o,?_,g2,h5⟩
   rw [← Nat.add_assoc] at h4
   have hm2:=hmx (maxL ((t.inner.take i).map Ty.depth)) x.depth
   generalize maxL ((t.inner.take i).map Ty.depth)=md at h4 hm2 ⊢
   generalize ((t.inner.take i).map Ty.nodes).sum=sm at h4 hw2 ⊢
   generalize x.nodes=xn at h4 hw2 hcl ⊢
   generalize x.depth=xd at h4 hm2 hcl ⊢
   generalize max md xd=mm at h4 hm2 ⊢
   simp at hw hw2 h4
   simp [c149L0,hi,hx,hcl,hw,hw2,hm2,h4]
  ·intro g K _
   refine ⟨_,?_,g,rfl⟩
   simp [c149L0]
theorem containsT_ok {g : FuncId} {k : Nat} {p : Ty→Bool} {cap cap' : List AV} (l : List Ty) (hl : l.length≤67108864) (hs : Still cfg g) (h : Avm.H) (hcap : snapL (snap h 7) cap=some cap') (hcp : pureL cap'=true) (hp : ∀ x ∈ l,∀ ws h',callL cfg ws g (cap'.take k++([x.enc]++cap'.drop k)) h'=some (.bool (p x),h')) (ws : Nat) :
    callL cfg ws 156 [.isl (l.map Ty.enc),.clos g k cap] h=some (.bool (l.any p),h):=
 containsFunc_gen (K:=231) (sz:=8) (ag:=true) rfl rfl rfl rfl hl (by simp) (Ty.henc l) hs hcap hcp hp ws
theorem any_not {α : Type} (p : α→Bool) : ∀ l : List α,(l.any fun x=>!p x) = !l.all p
 | []=>rfl
 | x :: l=>by simp only [List.any_cons,List.all_cons,any_not p l,Bool.not_and]
theorem within_ok {g : FuncId} {k : Nat} {p : Ty→Bool} {cap' : List AV} (hs : Still cfg g) (hcp : pureL cap'=true) : ∀ (n : Nat) (t : Ty),t.size≤n→t.wid≤67108864→t.nodes≤67108864 →
    (∀ x : Ty,x.size≤n→x.wid≤t.wid→x.nodes≤t.nodes→∀ ws h',callL cfg ws g (cap'.take k++([x.enc]++cap'.drop k)) h'=some (.bool (p x),h')) →
    ∀ ws h cap,snapL (snap h 7) cap=some cap'→callL cfg ws 82 [t.enc,.clos g k cap] h=some (.bool (t.allP p),h)
 | 0,t,ht,_,_,_,_,_,_,_=>by have:=t.size_pos; omega
 | n + 1,t,ht,hw0,hb,hp,ws,h,cap,hcap=>by
  have hk:=kids_ok t hw0
  have hpt:=fun ws h=>hp t ht (Nat.le_refl _) (Nat.le_refl _) ws h
  have hlen:=t.len_inner
  have hsub : ∀ x ∈ t.inner,∀ ws h',callL cfg ws 158 [x.enc,.iptr [.clos g k cap']] h'=some (.bool (!(x.allP p)),h'):=fun x hx ws h'=>by
   have h1:=Ty.mem_inner hx
   have h2:=Ty.wid_inner hx
   have h3:=Ty.nodes_inner hx
   have hin:=fun h=>within_ok hs hcp n x (by omega) (by omega) (by omega) (fun y hy hyw hyn ws h'=>hp y (by omega) (by omega) (by omega) ws h') h'.length h cap' (snapL_pure hcp)
   refine callL_fn rfl rfl ?_
   simp at hin
   simp [F158,c158,snapL_pure hcp,hcp,hin]
  have hct:=fun h cap2 (hcap2 : snapL (snap h 7) cap2=some [.iptr [.clos g k cap']])=>containsT_ok (k:=0) t.inner (by omega) (.inl rfl) h hcap2 (by simp [hcp]) (fun x hx ws h'=>by simpa using hsub x hx ws h')
  refine callL_fn rfl rfl ?_
  rw [Ty.allP_eq]
  simp at hk hpt
  have hpol:=hs
  cases hv : p t
  ·rw [hv] at hpt
   rcases hs with hs | ⟨b,hs⟩ <;> simp [F82,c82,hcap,hs,hpt]
  ·rw [hv] at hpt
   rcases hs with hs | ⟨b,hs⟩ <;> simp [F82,c82,hcap,hs,hpt,hk,hct,snapL_pure hcp,any_not]
def limP (x : Ty) : Bool:=decide (x.items.length≤20) && decide (x.kids.length≤20)
def limS (t : Ty) : Bool:=decide (t.nodes≤600) && (decide (t.depth≤30) && t.allP limP)
theorem limf_ok (x : Ty) (ws : Nat) (h : Avm.H) : callL cfg ws 150 [x.enc] h=some (.bool (limP x),h):=by
 refine callL_fn rfl rfl ?_
 simp [F150,c150,limP]
 norm_cast
theorem limits_ok (t : Ty) (hw0 : t.wid≤67108864) (hb : t.nodes≤67108864) (ws : Nat) (h : Avm.H) : callL cfg ws 79 [t.enc] h=some (.bool (limS t),h):=by
 have h1:=size_ok _ t (Nat.le_refl _) hw0 hb
 have h2:=fun ws h=>within_ok (cap':=[]) (k:=0) (.inl rfl) rfl _ t (Nat.le_refl _) hw0 hb (fun x _ _ _ ws h'=>by simpa using limf_ok x ws h') ws h [] rfl
 refine callL_fn rfl rfl ?_
 simp at h1 h2
 unfold limS
 generalize t.nodes=a at h1 ⊢
 generalize t.depth=b at h1 ⊢
 have e1 : ((a : Int)≤600)=(a≤600):=by apply propext; omega
 have e2 : ((b : Int)≤30)=(b≤30):=by apply propext; omega
 by_cases q1 : a≤600 <;> by_cases q2 : b≤30 <;> simp [F79,c79,h1,h2,e1,e2,q1,q2]
end Go.Proofs.YtflbneepngjglaaGreatDoor
namespace Go.Proofs.YtflbneepngjglaaGreatDoor
open Go Go.Avm
theorem maxL_app : ∀ l m : List Nat,maxL (l++m)=max (maxL l) (maxL m)
 | [],m=>by simp [maxL]
 | x :: l,m=>by simp only [List.cons_append,maxL,maxL_app l m]; omega
end Go.Proofs.YtflbneepngjglaaGreatDoor
namespace Go.Proofs.YtflbneepngjglaaGreatDoor
open Go Go.Avm
def ltrI (n : Int) : Bool:=(decide (97≤n) && decide (n≤122)) || ((decide (65≤n) && decide (n≤90)) || (decide (48≤n) && decide (n≤57)))
def byI (b : UInt8) : Int:=(b.toNat : Int)
def okC (c : UInt8) : Bool:=ltrI (byI c) || decide (byI c=45)
def lastB (bs : List UInt8) : Int:=match bs.getLast? with | some c=>byI c | none=>0
def nmB (f l : Int) (bs : List UInt8) : Bool:=match bs with
 | []=>false
 | c :: r=>decide ((c :: r).length≤30) && (decide (f≤byI c) && (decide (byI c≤l) && (!decide (lastB (c :: r)=45) && (!Lib.contains (c :: r) [45,45] && (c :: r).all okC))))
theorem letter_ok (n : Int) (ws : Nat) (h : Avm.H) : callL cfg ws 263 [.int .u8 n] h=some (.bool (ltrI n),h):=by
 refine callL_fn rfl rfl ?_
 have a1 : ∀ a : Int,(!decide (a < n))=decide (n≤a):=fun a=>by by_cases q : n≤a <;> simp [q] <;> omega
 simp [F263,c263,ltrI,Bool.or_assoc,a1]
theorem name_loop (bs : List UInt8) (hb : bs.length≤67108864) (h : Avm.H) : ∃ g,roundsL (evC (callL cfg) roundsL cfg.pol h.length h.length c225L0) [41,42,43] [(41,.osl h.length 0 1 0 bs.length),(42,.int .i64 bs.length),(43,.int .i64 (0 : Nat))] (h++([.arr 0 1 (bs.map fun b=>.int .u8 (byI b))]++[]))=some (if (bs).all okC=true then (.exit 0,[(41,.osl h.length 0 1 0 bs.length),(42,.int .i64 bs.length),(43,.int .i64 (bs).length)],h++([.arr 0 1 (bs.map fun b=>.int .u8 (byI b))]++g)) else (.ret,[(6,.bool false)],h++([.arr 0 1 (bs.map fun b=>.int .u8 (byI b))]++g))):=by
 have hl : (bs).length≤67108864:=hb
 have hlp:=loop_post (γ:=Avm.H) (f:=evC (callL cfg) roundsL cfg.pol h.length h.length c225L0) (keep:=[41,42,43]) (bs) (fun _ _=>True)
     (fun i _=>[(41,.osl h.length 0 1 0 bs.length),(42,.int .i64 bs.length),(43,.int .i64 i)]) (fun _ g=>h++([.arr 0 1 (bs.map fun b=>.int .u8 (byI b))]++g))
     (fun _ r o=>∃ g,o=if r.all okC=true then (.exit 0,[(41,.osl h.length 0 1 0 bs.length),(42,.int .i64 bs.length),(43,.int .i64 (bs).length)],h++([.arr 0 1 (bs.map fun b=>.int .u8 (byI b))]++g)) else (.ret,[(6,.bool false)],h++([.arr 0 1 (bs.map fun b=>.int .u8 (byI b))]++g))) ?_ ?_ [] trivial
 ·obtain ⟨o,h1,g,h2⟩:=hlp
  exact ⟨g,h2 ▸ h1⟩
 ·intro i x r g hd hi hx _ K hK
  have hw:=wrap_nat (n:=i + 1) (by omega)
  simp at hw
  have hm : x ∈ (bs):=by rw [← hx]; exact List.getElem_mem hi
  have hlt:=fun ws h=>letter_ok (byI x) ws h
  have hlt45:=fun ws h=>letter_ok 45 ws h
  have h45 : ltrI 45=false:=by decide
  cases hv : okC x
  ·refine ⟨_,?_,g,by simp only [List.all_cons,hv,Bool.false_and,Bool.false_eq_true,if_false]; rfl⟩
   simp only [okC,Bool.or_eq_false_iff,decide_eq_false_iff_not] at hv
   obtain ⟨hv1,hv2⟩:=hv
   simp [c225L0,hi,hx,hlt,hlt45,h45,hv1,hv2]
  ·obtain ⟨o,h4,g2,h5⟩:=hK g trivial
   refine ⟨o,?_,g2,by simp only [List.all_cons,hv,Bool.true_and]; exact h5⟩
   simp at h4
   simp only [okC,Bool.or_eq_true,decide_eq_true_eq] at hv
   rcases hv with hv | hv <;> simp [c225L0,hi,hx,hlt,hlt45,h45,hv,hw,h4]
 ·intro g K _
  refine ⟨_,?_,g,by simp only [List.all_nil,if_true]; rfl⟩
  simp [c225L0]
theorem name_ok (f l : Int) (s : ByteArray) (hs : s.size≤67108864) (ws : Nat) (h : Avm.H) : callL cfg ws 225 [.str s,.int .u8 f,.int .u8 l] h=some (.bool (nmB f l s.data.toList),h):=by
 obtain ⟨bs,hbs⟩ : ∃ bs,s.data.toList=bs:=⟨_,rfl⟩
 have hsz : s.size=bs.length:=by rw [← hbs,Array.length_toList]; rfl
 have hco:=fun ws h=>callL_ext (cfg:=cfg) (f:=166) (ws:=ws) (args:=[.str s,.str ⟨#[45,45]⟩]) (h:=h) (r:=(.bool (Lib.contains bs [45,45]),h)) rfl (by simp only [containsX,hbs]; rw [if_pos (by omega)])
 obtain ⟨g,hl⟩:=name_loop bs (by omega) h
 simp only [← hsz] at hl
 have hE : s.toList=bs:=by rw [ByteArray.toList_eq,hbs]
 have hE0 : (⟨#[]⟩ : ByteArray).toList=[]:=by rw [ByteArray.toList_eq]
 refine callL_fn rfl rfl ?_
 rw [hbs]
 cases bs with
 | nil=>simp [F225,c225,hE,hE0,nmB]
 | cons c r=>
  have hw : IntKind.wrap .i64 ((s.size : Int) - 1)=r.length:=by rw [hsz]; simp; exact wrap_nat (by simp at hsz; omega)
  have hlast : (c :: r)[r.length]? = (c :: r).getLast?:=by rw [List.getLast?_eq_getElem?]; simp
  obtain ⟨z,hz⟩ : ∃ z,(c :: r).getLast? = some z:=⟨_,List.getLast?_cons⟩
  have hlz : lastB (c :: r)=byI z:=by simp [lastB,hz]
  have e30 : ((30 : Int) < s.size) = ¬ ((c :: r).length≤30):=by apply propext; rw [hsz]; omega
  rw [hz] at hlast
  simp only [nmB,hlz]
  have hc0 : (c :: r)[0]? = some c:=rfl
  have hby : ∀ b : UInt8,((b.toNat : Nat) : Int)=byI b:=fun _=>rfl
  by_cases q1 : (c :: r).length≤30
  ·by_cases q2 : f≤byI c
   ·have n1 : ¬ byI c < f:=by omega
    by_cases q3 : byI c≤l
    ·have n2 : ¬ l < byI c:=by omega
     by_cases q4 : byI z=45
     ·simp [F225,c225,hE,hE0,hbs,hw,hc0,hlast,e30,hco,hby,-List.length_cons,q1,q2,q3,q4,n1,n2]
     ·cases q5 : Lib.contains (c :: r) [45,45] <;> simp only [q5] at hco
      ·cases q6 : (c :: r).all okC <;> simp only [q6] at hl <;> simp at hl <;> simp [F225,c225,hE,hE0,hbs,hw,hc0,hlast,e30,hco,hby,-List.length_cons,q1,q2,q3,q4,n1,n2,hl]
      ·simp [F225,c225,hE,hE0,hbs,hw,hc0,hlast,e30,hco,hby,-List.length_cons,q1,q2,q3,q4,n1,n2]
    ·have n2 : l < byI c:=by omega
     simp [F225,c225,hE,hE0,hbs,hw,hc0,hlast,e30,hco,hby,-List.length_cons,q1,q2,q3,n1,n2]
   ·have n1 : byI c < f:=by omega
    simp [F225,c225,hE,hE0,hbs,hw,hc0,hlast,e30,hco,hby,-List.length_cons,q1,q2,n1]
  ·simp [F225,c225,hE,hE0,hbs,hw,hc0,hlast,e30,hco,hby,-List.length_cons,q1]
end Go.Proofs.YtflbneepngjglaaGreatDoor
namespace Go.Proofs.YtflbneepngjglaaGreatDoor
open Go Go.Avm
def smallB (s : ByteArray) : Bool:=nmB 97 122 s.data.toList
def greatB (s : ByteArray) : Bool:=nmB 65 90 s.data.toList
theorem small_ok (s : ByteArray) (hs : s.size≤67108864) (ws : Nat) (h : Avm.H) : callL cfg ws 153 [.str s] h=some (.bool (smallB s),h):=by
 have hn:=name_ok 97 122 s hs
 refine callL_fn rfl rfl ?_
 simp [F153,c153,hn,smallB]
theorem great_ok (s : ByteArray) (hs : s.size≤67108864) (ws : Nat) (h : Avm.H) : callL cfg ws 144 [.str s] h=some (.bool (greatB s),h):=by
 have hn:=name_ok 65 90 s hs
 refine callL_fn rfl rfl ?_
 simp [F144,c144,hn,greatB]
end Go.Proofs.YtflbneepngjglaaGreatDoor
namespace Go.Proofs.YtflbneepngjglaaGreatDoor
open Go Go.Avm
def eqS (a b : ByteArray) : Bool:=decide (a.toList=b.toList)
theorem eqS_symm (a b : ByteArray) : eqS a b=eqS b a:=by unfold eqS; congr 1; exact propext eq_comm
theorem beq_nat (a b : Nat) : (((a : Int)) == (b : Int))=decide (a=b):=by rw [Bool.eq_iff_iff]; simp; omega
theorem beq_zero (a : Nat) : (((a : Int)) == 0)=decide (a=0):=beq_nat a 0
def inS (ps : List ByteArray) (s : ByteArray) : Bool:=ps.any fun p=>eqS p s
def isD (s : ByteArray) (d : Df) : Bool:=eqS d.name s
theorem find_loop (m : Md) (s : ByteArray) (hm0 : m.defs.length≤67108864) (h : Avm.H) : roundsL (evC (callL cfg) roundsL cfg.pol h.length h.length c141L0) [1,2,5] [(1,.str s),(2,.ptr h.length 0 2 0 0),(5,.int .i64 (0 : Nat))] (h++[.arr 0 2 [m.enc]])=some (match (m.defs).findIdx? (isD s) with | some j=>(.ret,[(4,.int .i64 (j : Nat))],h++[.arr 0 2 [m.enc]]) | none=>(.exit 0,[(1,.str s),(2,.ptr h.length 0 2 0 0),(5,.int .i64 (m.defs).length)],h++[.arr 0 2 [m.enc]])):=by
 have hl : (m.defs).length≤67108864:=hm0
 have hlp:=loop_list (f:=evC (callL cfg) roundsL cfg.pol h.length h.length c141L0) (keep:=[1,2,5]) (m.defs) (fun i=>[(1,.str s),(2,.ptr h.length 0 2 0 0),(5,.int .i64 i)]) (fun _=>h++[.arr 0 2 [m.enc]])
     (fun i r=>match (r).findIdx? (isD s) with | some j=>(.ret,[(4,.int .i64 ((i + j) : Nat))],h++[.arr 0 2 [m.enc]]) | none=>(.exit 0,[(1,.str s),(2,.ptr h.length 0 2 0 0),(5,.int .i64 (m.defs).length)],h++[.arr 0 2 [m.enc]])) ?_ ?_
 ·simp only [Nat.zero_add] at hlp
  exact hlp
 ·intro i x r hd hi hx K hK
  have hw:=wrap_nat (n:=i + 1) (by omega)
  simp at hw
  have hm : x ∈ (m.defs):=by rw [← hx]; exact List.getElem_mem hi
  rw [List.findIdx?_cons]
  cases hv : (isD s) x
  ·simp only [isD,eqS,decide_eq_false_iff_not] at hv
   cases hq : r.findIdx? (isD s) <;> simp [hq,Md.enc] at hK <;> simp [c141L0,hi,hx,Md.enc,hv,hw,hK] <;> omega
  ·simp only [isD,eqS,decide_eq_true_eq] at hv
   simp [c141L0,hi,hx,Md.enc,hv]
 ·intro K
  simp [c141L0,Md.enc]
theorem def_loop (m : Md) (s : ByteArray) (hm0 : m.defs.length≤67108864) (h : Avm.H) : roundsL (evC (callL cfg) roundsL cfg.pol h.length h.length c94L0) [1,2,8,9] [(1,.str s),(2,.ptr h.length 0 2 0 0),(8,.int .i64 m.defs.length),(9,.int .i64 (0 : Nat))] (h++[.arr 0 2 [m.enc]]) =
    some (match m.defs.find? (isD s) with | some d=>(.ret,[(4,.iptr d.cells)],h++[.arr 0 2 [m.enc]]) | none=>(.exit 0,[(1,.str s),(2,.ptr h.length 0 2 0 0),(8,.int .i64 m.defs.length),(9,.int .i64 m.defs.length)],h++[.arr 0 2 [m.enc]])):=by
 refine loop_list (f:=evC (callL cfg) roundsL cfg.pol h.length h.length c94L0) (keep:=[1,2,8,9]) m.defs (fun i=>[(1,.str s),(2,.ptr h.length 0 2 0 0),(8,.int .i64 m.defs.length),(9,.int .i64 i)]) (fun _=>h++[.arr 0 2 [m.enc]])
  (fun _ r=>match r.find? (isD s) with | some d=>(.ret,[(4,.iptr d.cells)],h++[.arr 0 2 [m.enc]]) | none=>(.exit 0,[(1,.str s),(2,.ptr h.length 0 2 0 0),(8,.int .i64 m.defs.length),(9,.int .i64 m.defs.length)],h++[.arr 0 2 [m.enc]])) ?_ ?_
 ·intro i x r hd hi hx K hK
  have hw:=wrap_nat (n:=i + 1) (by omega)
  simp at hw
  rw [List.find?_cons]
  cases hv : isD s x
  ·simp only [isD,eqS,decide_eq_false_iff_not] at hv
   cases hq : r.find? (isD s) <;> simp [hq,Md.enc] at hK <;> simp [Md.enc,c94L0,hi,hx,hv,hw,hK]
  ·simp only [isD,eqS,decide_eq_true_eq] at hv
   simp [Md.enc,c94L0,hi,hx,hv,Df.cells]
 ·intro K
  simp [Md.enc,c94L0]
def dptr (d : Option Df) : AV:=match d with | some d=>.iptr d.cells | none=>.nilp
theorem def_ok (m : Md) (s : ByteArray) (hm0 : m.defs.length≤67108864) (ws : Nat) (h : Avm.H) : callL cfg ws 94 [m.enc,.str s] h=some (dptr (m.defs.find? (isD s)),h):=by
 have hl:=def_loop m s hm0 h
 refine callL_fn rfl rfl ?_
 cases hq : m.defs.find? (isD s) <;> simp [hq,Md.enc,Df.cells] at hl <;> simp [Md.enc,F94,c94,hl,dptr,Df.cells]
theorem has_loop (ps : List ByteArray) (s : ByteArray) (hp : ps.length≤67108864) (h : Avm.H) : roundsL (evC (callL cfg) roundsL cfg.pol h.length h.length c181L0) [0,1,5] [(0,.isl (ps.map .str)),(1,.str s),(5,.int .i64 (0 : Nat))] h =
    some (if inS ps s=true then (.ret,[(4,.bool true)],h) else (.exit 0,[(0,.isl (ps.map .str)),(1,.str s),(5,.int .i64 ps.length)],h)):=by
 refine loop_list (f:=evC (callL cfg) roundsL cfg.pol h.length h.length c181L0) (keep:=[0,1,5]) ps (fun i=>[(0,.isl (ps.map .str)),(1,.str s),(5,.int .i64 i)]) (fun _=>h)
  (fun _ r=>if inS r s=true then (.ret,[(4,.bool true)],h) else (.exit 0,[(0,.isl (ps.map .str)),(1,.str s),(5,.int .i64 ps.length)],h)) ?_ ?_
 ·intro i x r hd hi hx K hK
  have hw:=wrap_nat (n:=i + 1) (by omega)
  simp at hw
  unfold inS at hK ⊢
  rw [List.any_cons]
  cases hv : eqS x s
  ·simp only [eqS,decide_eq_false_iff_not] at hv
   simp only [Bool.false_or]
   rw [← hK]
   simp [c181L0,hi,hx,hv,hw]
  ·simp only [eqS,decide_eq_true_eq] at hv
   simp [c181L0,hi,hx,hv]
 ·intro K
  simp [c181L0,inS]
theorem indexS_loop (ps : List ByteArray) (s : ByteArray) (hp : ps.length≤67108864) (h : Avm.H) : roundsL (evC (callL cfg) roundsL cfg.pol h.length h.length c175L0) [0,1,7,8] [(0,.isl (ps.map .str)),(1,.str s),(7,.int .i64 ps.length),(8,.int .i64 (0 : Nat))] (h)=some (match (ps).findIdx? (eqS s) with | some j=>(.ret,[(4,.int .i64 (j : Nat))],h) | none=>(.exit 0,[(0,.isl (ps.map .str)),(1,.str s),(7,.int .i64 ps.length),(8,.int .i64 (ps).length)],h)):=by
 have hl : (ps).length≤67108864:=hp
 have hlp:=loop_list (f:=evC (callL cfg) roundsL cfg.pol h.length h.length c175L0) (keep:=[0,1,7,8]) (ps) (fun i=>[(0,.isl (ps.map .str)),(1,.str s),(7,.int .i64 ps.length),(8,.int .i64 i)]) (fun _=>h)
     (fun i r=>match (r).findIdx? (eqS s) with | some j=>(.ret,[(4,.int .i64 ((i + j) : Nat))],h) | none=>(.exit 0,[(0,.isl (ps.map .str)),(1,.str s),(7,.int .i64 ps.length),(8,.int .i64 (ps).length)],h)) ?_ ?_
 ·simp only [Nat.zero_add] at hlp
  exact hlp
 ·intro i x r hd hi hx K hK
  have hw:=wrap_nat (n:=i + 1) (by omega)
  simp at hw
  have hm : x ∈ (ps):=by rw [← hx]; exact List.getElem_mem hi
  rw [List.findIdx?_cons]
  cases hv : (eqS s) x
  ·simp only [eqS,decide_eq_false_iff_not] at hv
   cases hq : r.findIdx? (eqS s) <;> simp [hq] at hK <;> simp [c175L0,hi,hx,hv,hw,hK] <;> omega
  ·simp only [eqS,decide_eq_true_eq] at hv
   simp [c175L0,hi,hx,hv]
 ·intro K
  simp [c175L0,]
theorem indexS_ok (ps : List ByteArray) (s : ByteArray) (hp : ps.length≤67108864) (ws : Nat) (h : Avm.H) : callL cfg ws 175 [.isl (ps.map .str),.str s] h=some (.int .i64 (idxOf (eqS s) ps),h):=by
 have hl:=indexS_loop ps s hp h
 refine callL_fn rfl rfl ?_
 unfold idxOf
 cases hq : ps.findIdx? (eqS s) <;> simp [hq] at hl <;> simp [F175,c175,hl]
theorem containsS_ok (ps : List ByteArray) (s : ByteArray) (hp : ps.length≤67108864) (ws : Nat) (h : Avm.H) : callL cfg ws 154 [.isl (ps.map .str),.str s] h=some (.bool (inS ps s),h):=by
 have h1:=fun ws h=>indexS_ok ps s hp ws h
 refine callL_fn rfl rfl ?_
 have : inS ps s=ps.any (eqS s):=by unfold inS; congr 1; funext p; exact eqS_symm p s
 rw [this]
 simp [F154,c154,h1,idxOf_any]
def Ty.withItems (t : Ty) : Bool:=decide (t.kind=3) || (decide (t.kind=8) || decide (t.kind=9))
def Ty.itemsOf (t : Ty) : List It:=if t.withItems then t.items else []
theorem itemsOf_ok (t : Ty) (ws : Nat) (h : Avm.H) : callL cfg ws 152 [t.enc] h=some (.isl (t.itemsOf.map It.enc),h):=by
 refine callL_fn rfl rfl ?_
 by_cases q1 : t.kind=3
 ·simp [F152,c152,Ty.itemsOf,Ty.withItems,q1]
 ·by_cases q2 : t.kind=8
  ·simp [F152,c152,Ty.itemsOf,Ty.withItems,q2]
  ·by_cases q3 : t.kind=9
   ·simp [F152,c152,Ty.itemsOf,Ty.withItems,q3]
   ·simp [F152,c152,Ty.itemsOf,Ty.withItems,q1,q2,q3]
theorem itemsOf_mem {t : Ty} {x : It} (h : x ∈ t.itemsOf) : x ∈ t.items:=by
 unfold Ty.itemsOf at h
 split at h
 ·exact h
 ·cases h
theorem itemsOf_len (t : Ty) : t.itemsOf.length≤t.items.length:=by unfold Ty.itemsOf; split <;> simp
structure Md.ok (m : Md) : Prop where
 name : m.name.size≤67108864
 len : m.defs.length≤67108864
 params : ∀ d ∈ m.defs,d.params.length≤67108864
 pnames : ∀ d ∈ m.defs,∀ p ∈ d.params,p.size≤67108864
 dname : ∀ d ∈ m.defs,d.name.size≤67108864
 of : ∀ d ∈ m.defs,d.of.size≤67108864
def smallI (i : It) : Bool:=smallB i.name
def refP (m : Md) (ps : List ByteArray) (x : Ty) : Bool:=if inS ps x.name then decide (x.kids.length=0) else match m.defs.find? (isD x.name) with | some d=>decide (d.params.length=x.kids.length) | none=>false
def nameP (m : Md) (ps : List ByteArray) (x : Ty) : Bool:=x.itemsOf.all smallI && (!decide (x.kind=10) || (greatB x.name && refP m ps x))
theorem names_loop (t : Ty) (ht : t.wid≤67108864) (h : Avm.H) (c0 : AV) : ∃ g,roundsL (evC (callL cfg) roundsL cfg.pol h.length h.length c151L0) [1,2,8,9,10] [(1,c0),(2,.ptr h.length 0 8 0 0),(8,.isl (t.itemsOf.map It.enc)),(9,.int .i64 t.itemsOf.length),(10,.int .i64 (0 : Nat))] (h++([.arr 0 8 [t.enc]]++[]))=some (if (t.itemsOf).all smallI=true then (.exit 0,[(1,c0),(2,.ptr h.length 0 8 0 0),(8,.isl (t.itemsOf.map It.enc)),(9,.int .i64 t.itemsOf.length),(10,.int .i64 (t.itemsOf).length)],h++([.arr 0 8 [t.enc]]++g)) else (.ret,[(3,.bool false)],h++([.arr 0 8 [t.enc]]++g))):=by
 have hl : (t.itemsOf).length≤67108864:=(by have:=itemsOf_len t; have:=t.wid_items; omega)
 have hlp:=loop_post (γ:=Avm.H) (f:=evC (callL cfg) roundsL cfg.pol h.length h.length c151L0) (keep:=[1,2,8,9,10]) (t.itemsOf) (fun _ _=>True)
     (fun i _=>[(1,c0),(2,.ptr h.length 0 8 0 0),(8,.isl (t.itemsOf.map It.enc)),(9,.int .i64 t.itemsOf.length),(10,.int .i64 i)]) (fun _ g=>h++([.arr 0 8 [t.enc]]++g))
     (fun _ r o=>∃ g,o=if r.all smallI=true then (.exit 0,[(1,c0),(2,.ptr h.length 0 8 0 0),(8,.isl (t.itemsOf.map It.enc)),(9,.int .i64 t.itemsOf.length),(10,.int .i64 (t.itemsOf).length)],h++([.arr 0 8 [t.enc]]++g)) else (.ret,[(3,.bool false)],h++([.arr 0 8 [t.enc]]++g))) ?_ ?_ [] trivial
 ·obtain ⟨o,h1,g,h2⟩:=hlp
  exact ⟨g,h2 ▸ h1⟩
 ·intro i x r g hd hi hx _ K hK
  have hw:=wrap_nat (n:=i + 1) (by omega)
  simp at hw
  have hm : x ∈ (t.itemsOf):=by rw [← hx]; exact List.getElem_mem hi
  have hsm:=small_ok x.name (by have:=Ty.wid_item (itemsOf_mem hm); have:=x.wid_name; omega)
  cases hv : smallI x
  ·refine ⟨_,?_,(g++[.arr 0 12 [x.enc]]),by simp only [List.all_cons,hv,Bool.false_and,Bool.false_eq_true,if_false]; rfl⟩
   unfold smallI at hv
   simp only [hv] at hsm
   simp [c151L0,hi,hx,hsm,]
  ·obtain ⟨o,h4,g2,h5⟩:=hK (g++[.arr 0 12 [x.enc]]) trivial
   refine ⟨o,?_,g2,by simp only [List.all_cons,hv,Bool.true_and]; exact h5⟩
   simp at h4
   unfold smallI at hv
   simp only [hv] at hsm
   simp [c151L0,hi,hx,hsm,hw,h4]
 ·intro g K _
  refine ⟨_,?_,g,by simp only [List.all_nil,if_true]; rfl⟩
  simp [c151L0]
theorem namesf_ok (m : Md) (ps : List ByteArray) (hm : m.ok) (hp : ps.length≤67108864) (t : Ty) (ht : t.wid≤67108864) (ws : Nat) (h : Avm.H) : callL cfg ws 151 [t.enc,.iptr [.str m.name,.isl (m.defs.map Df.enc),.isl (ps.map .str)]] h=some (.bool (nameP m ps t),h):=by
 have h1:=itemsOf_ok t
 have h2:=great_ok t.name (Nat.le_trans t.wid_name ht)
 have h3:=containsS_ok ps t.name hp
 have h4:=def_ok m t.name hm.len
 obtain ⟨g,hl⟩:=names_loop t ht h (.iptr [.str m.name,.isl (m.defs.map Df.enc),.isl (ps.map .str)])
 refine callL_fn rfl rfl ?_
 unfold nameP refP
 simp at h1
 simp [Md.enc] at h4
 cases q1 : t.itemsOf.all smallI
 ·rw [q1] at hl
  simp at hl
  simp [F151,c151,h1,hl]
 ·rw [q1] at hl
  by_cases q2 : t.kind=10
  ·simp [q2] at hl h1
   cases q3 : greatB t.name
   ·rw [q3] at h2
    simp [F151,c151,h1,hl,q2,h2]
   ·rw [q3] at h2
    cases q4 : inS ps t.name
    ·rw [q4] at h3
     cases q5 : m.defs.find? (isD t.name) with
     | none=>
      rw [q5] at h4
      simp [dptr] at h4
      simp [F151,c151,h1,hl,q2,h2,h3,h4]
     | some d=>
      rw [q5] at h4
      simp [dptr,Df.cells] at h4
      simp [F151,c151,h1,hl,q2,h2,h3,h4,beq_nat]
    ·rw [q4] at h3
     have e0 : (((t.kids.length : Nat) : Int) == 0)=decide (t.kids=[]):=by rw [beq_zero]; simp
     simp [F151,c151,h1,hl,q2,h2,h3,e0]
  ·simp at hl
   simp [F151,c151,h1,hl,q2]
theorem names_ok (m : Md) (ps : List ByteArray) (hm : m.ok) (hp : ps.length≤67108864) (t : Ty) (hw0 : t.wid≤67108864) (hb : t.nodes≤67108864) (ws : Nat) (h : Avm.H) : callL cfg ws 80 [.agg [.str m.name,.isl (m.defs.map Df.enc),.isl (ps.map .str)],t.enc] h=some (.bool (t.allP (nameP m ps)),h):=by
 have h2:=fun ws h cap hcap=>within_ok (cap':=[.iptr [.str m.name,.isl (m.defs.map Df.enc),.isl (ps.map .str)]]) (k:=0) (.inl rfl) (by simp) _ t (Nat.le_refl _) hw0 hb (fun x _ hx _ ws h'=>by simpa using namesf_ok m ps hm hp x (Nat.le_trans hx hw0) ws h') ws h cap hcap
 refine callL_fn rfl rfl ?_
 simp at h2
 simp [F80,c80,h2]
end Go.Proofs.YtflbneepngjglaaGreatDoor
