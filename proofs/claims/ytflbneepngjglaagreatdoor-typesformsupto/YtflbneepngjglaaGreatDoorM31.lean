/- What is in a type: the reference's way. -/
import Derived.Test.YtflbneepngjglaaGreatDoorM30
set_option linter.all false
namespace Go.Proofs.YtflbneepngjglaaGreatDoor
open Go Go.Avm
theorem cloneT_ok (l : List Ty) (hl : l.length<=1048576) (ws : Nat) (h : Avm.H) : Qb cfg ws 97 [.isl (l.map Ty.enc)] h=some (.osl h.length 0 8 0 l.length,h++[.arr 0 8 (l.map Ty.enc)]):=by
 refine QN rfl ?_
 have : l.length<=lim:=by unfold lim; omega
 simp [cloneX,this]
theorem kids_loop (t : Ty) (ht : t.wid<=1048576) (h : Avm.H) : ∃ v g,Qu h.length 1 8 g ((t.kids++t.items.map It.of).map Ty.enc) v /\
    Qa (evC (Qb cfg) Qa cfg.pol h.length h.length c157L0) [3,19,20,21] [(3,.osl (h.length + 1) 0 8 0 t.kids.length),(19,.isl (t.items.map It.enc)),(20,.int .i64 t.items.length),(21,.int .i64 (0 : Nat))] (h++([.arr 0 8 [t.enc]]++[.arr 0 8 (t.kids.map Ty.enc)])) =
     some (.exit 0,[(3,v),(19,.isl (t.items.map It.enc)),(20,.int .i64 t.items.length),(21,.int .i64 t.items.length)],h++([.arr 0 8 [t.enc]]++g)):=by
 have hlp:=Qi (γ:=AV × Avm.H) (f:=evC (Qb cfg) Qa cfg.pol h.length h.length c157L0) (keep:=[3,19,20,21]) t.items
     (fun i c=>Qu h.length 1 8 c.2 ((t.kids++(t.items.take i).map It.of).map Ty.enc) c.1)
     (fun i c=>[(3,c.1),(19,.isl (t.items.map It.enc)),(20,.int .i64 t.items.length),(21,.int .i64 i)])
     (fun _ g=>h++([.arr 0 8 [t.enc]]++g.2))
     (fun _ _ o=>∃ v g,Qu h.length 1 8 g ((t.kids++t.items.map It.of).map Ty.enc) v/\o=(.exit 0,[(3,v),(19,.isl (t.items.map It.enc)),(20,.int .i64 t.items.length),(21,.int .i64 t.items.length)],h++([.arr 0 8 [t.enc]]++g))) ?_ ?_
     (.osl (h.length + 1) 0 8 0 t.kids.length,[.arr 0 8 (t.kids.map Ty.enc)]) (.inr ⟨0,0,by simp,by simp⟩)
 ·obtain ⟨o,hl,v,g,hI,ho⟩:=hlp
  exact ⟨v,g,hI,ho ▸ hl⟩
 ·intro i x r c hd hi hx hI K hK
  have h1:=t.Qe
  have h2:=t.wid_kids
  have hw:=Qd (n:=i + 1) (by omega)
  simp at hw
  have htk : t.items.take (i + 1)=t.items.take i++[x]:=by rw [List.take_succ_eq_append_getElem hi,hx]
  rw [htk] at hK
  obtain ⟨v,g⟩:=c
  dsimp only at hI
  simp [-Prod.exists,c157L0,hi,hx,hw,Xr,appended]
  generalize hA : appI _ _ _ _ _ _ _=r
  obtain ⟨v',g',rfl,h2⟩:=Qu.use (pre:=[_]) hI hA (by simp; omega) (by simp)
  obtain ⟨o,h4,h5⟩:=hK (v',g') (by simpa using h2)
  refine ⟨o,?_,by simpa using h5⟩
  simp at h4
  simp [h4,hw]
 ·intro c K hI
  refine ⟨_,?_,c.1,c.2,by simpa using hI,rfl⟩
  simp [c157L0]
theorem kids_ok (t : Ty) (ht : t.wid<=1048576) (ws : Nat) (h : Avm.H) : Qb cfg ws 157 [t.enc] h=some (.isl (t.inner.map Ty.enc),h):=by
 refine Qc rfl rfl ?_
 have hk:=fun ws h=>cloneT_ok t.kids (Nat.le_trans t.wid_kids ht) ws h
 cases hcomp : t.comp with
 | false=>
  have hin : t.inner=t.kids:=by simp [Ty.inner,hcomp]
  simp [Ty.comp] at hcomp
  rw [hin]
  simp [F157,c157,hk,hcomp]
 | true=>
  have hin : t.inner=t.kids++t.items.map It.of:=by simp [Ty.inner,hcomp]
  obtain ⟨v,g,hI,hl⟩:=kids_loop t ht h
  simp [Ty.comp] at hcomp
  rw [hin]
  have hc:=hI.cells
  have h1:=hI.one
  rcases hcomp with hcomp | hcomp <;> simp [hcomp] at hl <;> simp [F157,c157,hk,hcomp,hl,hc,h1] <;> generalize hA : frz _ _ v _=r <;>
   obtain ⟨g',rfl⟩:=Qu.frz_use (pre:=[_]) hI hA (pureL_tys _) <;> simp
theorem size_ok : ∀ (n : Nat) (t : Ty),t.size<=n->t.wid<=1048576->t.nodes<=1048576->∀ ws h,Qb cfg ws 149 [t.enc] h=some (.tup [.int .i64 t.nodes,.int .i64 t.depth],h)
 | 0,t,ht,_,_,_,_=>by have:=t.size_pos; omega
 | n + 1,t,ht,hw0,hb,ws,h=>by
  have hk:=kids_ok t hw0
  have hlen:=t.len_inner
  have hdep:=Ty.depth_le _ t (Nat.le_refl _)
  refine Qc rfl rfl ?_
  have hlp:=Qi (γ:=Avm.H) (f:=evC (Qb cfg) Qa cfg.pol h.length h.length c149L0) (keep:=[2,3,9,10,11]) t.inner (fun _ _=>True)
   (fun i _=>[(2,.int .i64 ((1 + ((t.inner.take i).map Ty.nodes).sum : Nat) : Int)),(3,.int .i64 ((Xv ((t.inner.take i).map Ty.depth) : Nat) : Int)),(9,.isl (t.inner.map Ty.enc)),(10,.int .i64 t.inner.length),(11,.int .i64 i)]) (fun _ g=>h++([.arr 0 8 [t.enc]]++g))
   (fun _ _ o=>∃ g,o=(.exit 0,[(2,.int .i64 ((1 + (t.inner.map Ty.nodes).sum : Nat) : Int)),(3,.int .i64 ((Xv (t.inner.map Ty.depth) : Nat) : Int)),(9,.isl (t.inner.map Ty.enc)),(10,.int .i64 t.inner.length),(11,.int .i64 t.inner.length)],h++([.arr 0 8 [t.enc]]++g))) ?_ ?_ [] trivial
  ·obtain ⟨o,h1,g,h2⟩:=hlp
   subst h2
   have hd:=t.depth_eq
   have hn:=t.QC
   have hw1:=Qd (n:=Xv (t.inner.map Ty.depth) + 1) (by omega)
   rw [show Xv (t.inner.map Ty.depth) + 1=t.depth by omega] at hw1
   rw [hn,hd]
   simp [Xv] at h1
   simp at hk
   simp [F149,c149,hk,h1]
   rw [hd] at hw1
   simp at hw1
   rw [Int.add_comm,hw1]
  ·intro i x r g hd hi hx _ K hK
   have hw:=Qd (n:=i + 1) (by omega)
   have hm1 : x ∈ t.inner:=by rw [← hx]; exact List.getElem_mem hi
   have hsz:=Ty.QQ hm1
   have hwx:=Ty.wid_inner hm1
   have hnx:=Ty.Xt hm1
   have htk : t.inner.take (i + 1)=t.inner.take i++[x]:=by rw [List.take_succ_eq_append_getElem hi,hx]
   have hs2:=sum_take Ty.nodes t.inner (i + 1)
   have hn:=t.QC
   rw [htk] at hK hs2
   simp only [List.map_append,List.map_cons,List.map_nil,List.sum_append,List.sum_cons,List.sum_nil,Nat.add_zero,maxL_snoc] at hK hs2
   have hw2:=Qd (n:=1 + ((t.inner.take i).map Ty.nodes).sum + x.nodes) (by omega)
   have hmx : ∀ a b : Nat,(if a < b then (b : Int) else (a : Int))=((max a b : Nat) : Int):=fun a b=>by split <;> omega
   have hcl:=fun h'=>size_ok n x (by omega) (by omega) (by omega) h.length h'
   simp only [Ty.enc_eq] at hcl
   obtain ⟨o,h4,g2,h5⟩:=hK (g++[.arr 0 8 [x.enc]]) trivial
   refine ⟨o,?_,g2,h5⟩
   rw [← Nat.add_assoc] at h4
   have hm2:=hmx (Xv ((t.inner.take i).map Ty.depth)) x.depth
   generalize Xv ((t.inner.take i).map Ty.depth)=md at h4 hm2 ⊢
   generalize ((t.inner.take i).map Ty.nodes).sum=sm at h4 hw2 ⊢
   generalize x.nodes=xn at h4 hw2 hcl ⊢
   generalize x.depth=xd at h4 hm2 hcl ⊢
   generalize max md xd=mm at h4 hm2 ⊢
   simp at hw hw2 h4
   simp [c149L0,hi,hx,hcl,hw,hw2,hm2,h4]
  ·intro g K _
   refine ⟨_,?_,g,rfl⟩
   simp [c149L0]
theorem containsT_ok {g : FuncId} {k : Nat} {p : Ty->Bool} {cap cap' : List AV} (l : List Ty) (hl : l.length<=1048576) (hs : Still cfg g) (h : Avm.H) (hcap : QF (snap h 7) cap=some cap') (hcp : Qt cap'=true) (hp : ∀ x ∈ l,∀ ws h',Qb cfg ws g (cap'.take k++([x.enc]++cap'.drop k)) h'=some (.bool (p x),h')) (ws : Nat) :
    Qb cfg ws 156 [.isl (l.map Ty.enc),.QI g k cap] h=some (.bool (l.any p),h):=
 containsFunc_gen (K:=231) (sz:=8) (ag:=true) rfl rfl rfl rfl hl (by simp) (Ty.henc l) hs hcap hcp hp ws
theorem any_not {α : Type} (p : α->Bool) : ∀ l : List α,(l.any fun x=>!p x) = !l.all p
 | []=>rfl
 | x :: l=>by simp only [List.any_cons,List.all_cons,any_not p l,Bool.not_and]
theorem within_ok {g : FuncId} {k : Nat} {p : Ty->Bool} {cap' : List AV} (hs : Still cfg g) (hcp : Qt cap'=true) : ∀ (n : Nat) (t : Ty),t.size<=n->t.wid<=1048576->t.nodes<=1048576 ->
    (∀ x : Ty,x.size<=n->x.wid<=t.wid->x.nodes<=t.nodes->∀ ws h',Qb cfg ws g (cap'.take k++([x.enc]++cap'.drop k)) h'=some (.bool (p x),h')) ->
    ∀ ws h cap,QF (snap h 7) cap=some cap'->Qb cfg ws 82 [t.enc,.QI g k cap] h=some (.bool (t.QE p),h)
 | 0,t,ht,_,_,_,_,_,_,_=>by have:=t.size_pos; omega
 | n + 1,t,ht,hw0,hb,hp,ws,h,cap,hcap=>by
  have hk:=kids_ok t hw0
  have hpt:=fun ws h=>hp t ht (Nat.le_refl _) (Nat.le_refl _) ws h
  have hlen:=t.len_inner
  have hsub : ∀ x ∈ t.inner,∀ ws h',Qb cfg ws 158 [x.enc,.iptr [.QI g k cap']] h'=some (.bool (!(x.QE p)),h'):=fun x hx ws h'=>by
   have h1:=Ty.QQ hx
   have h2:=Ty.wid_inner hx
   have h3:=Ty.Xt hx
   have hin:=fun h=>within_ok hs hcp n x (by omega) (by omega) (by omega) (fun y hy hyw hyn ws h'=>hp y (by omega) (by omega) (by omega) ws h') h'.length h cap' (Qx hcp)
   refine Qc rfl rfl ?_
   simp at hin
   simp [F158,c158,Qx hcp,hcp,hin]
  have hct:=fun h cap2 (hcap2 : QF (snap h 7) cap2=some [.iptr [.QI g k cap']])=>containsT_ok (k:=0) t.inner (by omega) (.inl rfl) h hcap2 (by simp [hcp]) (fun x hx ws h'=>by simpa using hsub x hx ws h')
  refine Qc rfl rfl ?_
  rw [Ty.allP_eq]
  simp at hk hpt
  have hpol:=hs
  cases hv : p t
  ·rw [hv] at hpt
   rcases hs with hs | ⟨b,hs⟩ <;> simp [F82,c82,hcap,hs,hpt]
  ·rw [hv] at hpt
   rcases hs with hs | ⟨b,hs⟩ <;> simp [F82,c82,hcap,hs,hpt,hk,hct,Qx hcp,any_not]
def limP (x : Ty) : Bool:=decide (x.items.length<=20) && decide (x.kids.length<=20)
def limS (t : Ty) : Bool:=decide (t.nodes<=600) && (decide (t.depth<=30) && t.QE limP)
theorem limf_ok (x : Ty) (ws : Nat) (h : Avm.H) : Qb cfg ws 150 [x.enc] h=some (.bool (limP x),h):=by
 refine Qc rfl rfl ?_
 simp [F150,c150,limP]
 norm_cast
theorem limits_ok (t : Ty) (hw0 : t.wid<=1048576) (hb : t.nodes<=1048576) (ws : Nat) (h : Avm.H) : Qb cfg ws 79 [t.enc] h=some (.bool (limS t),h):=by
 have h1:=size_ok _ t (Nat.le_refl _) hw0 hb
 have h2:=fun ws h=>within_ok (cap':=[]) (k:=0) (.inl rfl) rfl _ t (Nat.le_refl _) hw0 hb (fun x _ _ _ ws h'=>by simpa using limf_ok x ws h') ws h [] rfl
 refine Qc rfl rfl ?_
 simp at h1 h2
 unfold limS
 generalize t.nodes=a at h1 ⊢
 generalize t.depth=b at h1 ⊢
 have e1 : ((a : Int)<=600)=(a<=600):=by apply propext; omega
 have e2 : ((b : Int)<=30)=(b<=30):=by apply propext; omega
 by_cases q1 : a<=600 <;> by_cases q2 : b<=30 <;> simp [F79,c79,h1,h2,e1,e2,q1,q2]
end Go.Proofs.YtflbneepngjglaaGreatDoor
namespace Go.Proofs.YtflbneepngjglaaGreatDoor
open Go Go.Avm
def Ty.Qy (t : Ty) : List Ty:=(if t.comp then t.items.map It.of else [])++t.kids
theorem rinner_mem (t x : Ty) : x ∈ t.Qy ↔ x ∈ t.inner:=by simp [Ty.Qy,Ty.inner,or_comm]
theorem rinner_sum (f : Ty->Nat) (t : Ty) : (t.Qy.map f).sum=(t.inner.map f).sum:=by simp [Ty.Qy,Ty.inner,List.sum_append,Nat.add_comm]
theorem maxL_app : ∀ l m : List Nat,Xv (l++m)=max (Xv l) (Xv m)
 | [],m=>by simp [Xv]
 | x :: l,m=>by simp only [List.cons_append,Xv,maxL_app l m]; omega
theorem rinner_max (f : Ty->Nat) (t : Ty) : Xv (t.Qy.map f)=Xv (t.inner.map f):=by simp only [Ty.Qy,Ty.inner,List.map_append,maxL_app]; omega
theorem rinner_all (p : Ty->Bool) (t : Ty) : t.Qy.all p=t.inner.all p:=by simp [Ty.Qy,Ty.inner,Bool.and_comm]
theorem rinner_len (t : Ty) : t.Qy.length=t.inner.length:=by simp [Ty.Qy,Ty.inner,Nat.add_comm]
def Ty.QW (t : Ty) : List Ty:=t :: t.Qy.attach.flatMap fun x=>x.1.QW
termination_by t.size
decreasing_by exact Ty.QQ ((rinner_mem _ _).1 x.2)
theorem Ty.rall_eq (t : Ty) : t.QW=t :: t.Qy.flatMap Ty.QW:=by rw [Ty.QW,att_flat t.Qy Ty.QW]
theorem flat_len {f : Ty->List Ty} {g : Ty->Nat} : ∀ l : List Ty,(∀ x ∈ l,(f x).length=g x)->(l.flatMap f).length=(l.map g).sum
 | [],_=>rfl
 | x :: l,h=>by simp only [List.flatMap_cons,List.length_append,List.map_cons,List.sum_cons,h x (by simp),flat_len l fun y hy=>h y (by simp [hy])]
theorem rall_len : ∀ (n : Nat) (t : Ty),t.size<=n->t.QW.length=t.nodes
 | 0,t,h=>by have:=t.size_pos; omega
 | n + 1,t,h=>by
  rw [Ty.rall_eq,Ty.QC,List.length_cons,flat_len (g:=Ty.nodes) t.Qy fun x hx=>rall_len n x (by have:=Ty.QQ ((rinner_mem _ _).1 hx); omega),rinner_sum]
  omega
theorem rall_all (p : Ty->Bool) : ∀ (n : Nat) (t : Ty),t.size<=n->t.QW.all p=t.QE p
 | 0,t,h=>by have:=t.size_pos; omega
 | n + 1,t,h=>by
  rw [Ty.rall_eq,Ty.allP_eq,List.all_cons,← rinner_all]
  congr 1
  have : ∀ l : List Ty,(∀ x ∈ l,x.QW.all p=x.QE p)->(l.flatMap Ty.QW).all p=l.all fun x=>x.QE p:=fun l=>by
   induction l with
   | nil=>intro _; rfl
   | cons x l ih=>intro h; simp only [List.flatMap_cons,List.all_append,List.all_cons,h x (by simp),ih fun y hy=>h y (by simp [hy])]
  exact this t.Qy fun x hx=>rall_all p n x (by have:=Ty.QQ ((rinner_mem _ _).1 hx); omega)
theorem rall_wid : ∀ (n : Nat) (t : Ty),t.size<=n->∀ x ∈ t.QW,x.wid<=t.wid/\x.size<=t.size
 | 0,t,h=>by have:=t.size_pos; omega
 | n + 1,t,h=>by
  intro x hx
  rw [Ty.rall_eq] at hx
  rcases List.mem_cons.1 hx with rfl | hx
  ·exact ⟨Nat.le_refl _,Nat.le_refl _⟩
  ·obtain ⟨y,hy,hxy⟩:=List.mem_flatMap.1 hx
   have hy:=(rinner_mem _ _).1 hy
   have h1:=Ty.QQ hy
   have h2:=Ty.wid_inner hy
   have:=rall_wid n y (by omega) x hxy
   omega
theorem rinner_loop0 (t : Ty) (ht : t.wid<=1048576) (h : Avm.H) : ∃ v g,Qu h.length 1 8 g (([]++(t.items).map It.of).map Ty.enc) v/\Qa (evC (Qb cfg) Qa cfg.pol h.length h.length c224L0) [1,3,4] [(1,.ptr h.length 0 8 0 0),(3,.osl (h.length + 1) 0 8 0 0),(4,.int .i64 (0 : Nat))] (h++([.arr 0 8 [t.enc]]++[.arr 0 8 []]))=some (.exit 0,[(1,.ptr h.length 0 8 0 0),(3,v),(4,.int .i64 (t.items).length)],h++([.arr 0 8 [t.enc]]++g)):=by
 have hl : (t.items).length<=1048576:=Nat.le_trans t.Qe ht
 have hlp:=Qi (γ:=AV × Avm.H) (f:=evC (Qb cfg) Qa cfg.pol h.length h.length c224L0) (keep:=[1,3,4]) (t.items)
     (fun i c=>Qu h.length 1 8 c.2 (([]++((t.items).take i).map It.of).map Ty.enc) c.1)
     (fun i c=>[(1,.ptr h.length 0 8 0 0),(3,c.1),(4,.int .i64 i)]) (fun _ g=>h++([.arr 0 8 [t.enc]]++g.2))
     (fun _ _ o=>∃ v g,Qu h.length 1 8 g (([]++(t.items).map It.of).map Ty.enc) v/\o=(.exit 0,[(1,.ptr h.length 0 8 0 0),(3,v),(4,.int .i64 (t.items).length)],h++([.arr 0 8 [t.enc]]++g))) ?_ ?_ (.osl (h.length + 1) 0 8 0 0,[.arr 0 8 []]) (.inr ⟨0,0,by simp,by simp⟩)
 ·obtain ⟨o,hl,v,g,hI,ho⟩:=hlp
  exact ⟨v,g,hI,ho ▸ hl⟩
 ·intro i x r c hd hi hx hI K hK
  have hw:=Qd (n:=i + 1) (by omega)
  simp at hw
  have hm : x ∈ (t.items):=by rw [← hx]; exact List.getElem_mem hi
  have htk : (t.items).take (i + 1)=(t.items).take i++[x]:=by rw [List.take_succ_eq_append_getElem hi,hx]
  rw [htk] at hK
  obtain ⟨v,g⟩:=c
  dsimp only at hI
  simp [-Prod.exists,c224L0,hi,hx,hw,Xr,appended,]
  generalize hA : appI _ _ _ _ _ _ _=r
  obtain ⟨v',g',rfl,h2⟩:=Qu.use (pre:=[_]) hI hA (by simp; omega) (by simp)
  obtain ⟨o,h4,h5⟩:=hK (v',g') (by simpa using h2)
  refine ⟨o,?_,by simpa using h5⟩
  simp at h4
  simp [h4,hw]
 ·intro c K hI
  refine ⟨_,?_,c.1,c.2,by simpa using hI,rfl⟩
  simp [c224L0]
theorem rinner_loop1 (t : Ty) (ht : t.wid<=1048576) (h : Avm.H) (pre : List Ty) (hpre : pre.length<=1048576) (v0 : AV) (g0 : Avm.H) (hI0 : Qu h.length 1 8 g0 (pre.map Ty.enc) v0) : ∃ v g,Qu h.length 1 8 g ((pre++(t.kids).map id).map Ty.enc) v/\Qa (evC (Qb cfg) Qa cfg.pol h.length h.length c224L1) [1,3,5] [(1,.ptr h.length 0 8 0 0),(3,v0),(5,.int .i64 (0 : Nat))] (h++([.arr 0 8 [t.enc]]++g0))=some (.exit 2,[(1,.ptr h.length 0 8 0 0),(3,v),(5,.int .i64 (t.kids).length)],h++([.arr 0 8 [t.enc]]++g)):=by
 have hl : (t.kids).length<=1048576:=Nat.le_trans t.wid_kids ht
 have hlp:=Qi (γ:=AV × Avm.H) (f:=evC (Qb cfg) Qa cfg.pol h.length h.length c224L1) (keep:=[1,3,5]) (t.kids)
     (fun i c=>Qu h.length 1 8 c.2 ((pre++((t.kids).take i).map id).map Ty.enc) c.1)
     (fun i c=>[(1,.ptr h.length 0 8 0 0),(3,c.1),(5,.int .i64 i)]) (fun _ g=>h++([.arr 0 8 [t.enc]]++g.2))
     (fun _ _ o=>∃ v g,Qu h.length 1 8 g ((pre++(t.kids).map id).map Ty.enc) v/\o=(.exit 2,[(1,.ptr h.length 0 8 0 0),(3,v),(5,.int .i64 (t.kids).length)],h++([.arr 0 8 [t.enc]]++g))) ?_ ?_ (v0,g0) (by simpa using hI0)
 ·obtain ⟨o,hl,v,g,hI,ho⟩:=hlp
  exact ⟨v,g,hI,ho ▸ hl⟩
 ·intro i x r c hd hi hx hI K hK
  have hw:=Qd (n:=i + 1) (by omega)
  simp at hw
  have hm : x ∈ (t.kids):=by rw [← hx]; exact List.getElem_mem hi
  have htk : (t.kids).take (i + 1)=(t.kids).take i++[x]:=by rw [List.take_succ_eq_append_getElem hi,hx]
  rw [htk] at hK
  obtain ⟨v,g⟩:=c
  dsimp only at hI
  simp [-Prod.exists,c224L1,hi,hx,hw,Xr,appended,]
  generalize hA : appI _ _ _ _ _ _ _=r
  obtain ⟨v',g',rfl,h2⟩:=Qu.use (pre:=[_]) hI hA (by simp; omega) (by simp)
  obtain ⟨o,h4,h5⟩:=hK (v',g') (by simpa using h2)
  refine ⟨o,?_,by simpa using h5⟩
  simp at h4
  simp [h4,hw]
 ·intro c K hI
  refine ⟨_,?_,c.1,c.2,by simpa using hI,rfl⟩
  simp [c224L1]
theorem rinner_ok (t : Ty) (ht : t.wid<=1048576) (ws : Nat) (h : Avm.H) : Qb cfg ws 224 [t.enc] h=some (.isl (t.Qy.map Ty.enc),h):=by
 refine Qc rfl rfl ?_
 have hwi:=t.Qe
 cases hcomp : t.comp with
 | false=>
  have hin : t.Qy=t.kids:=by simp [Ty.Qy,hcomp]
  obtain ⟨v,g,hI,hl⟩:=rinner_loop1 t ht h [] (by simp) (.osl (h.length + 1) 0 8 0 0) [.arr 0 8 []] (.inr ⟨0,0,by simp,by simp⟩)
  simp [Ty.comp] at hcomp
  rw [hin]
  simp at hl hI
  have hc:=hI.cells
  have h1:=hI.one
  simp [F224,c224,hcomp,hl]
  generalize hA : frz _ _ v _=r
  obtain ⟨g',rfl⟩:=Qu.frz_use (pre:=[_]) hI hA (pureL_tys _)
  simp
 | true=>
  have hin : t.Qy=t.items.map It.of++t.kids:=by simp [Ty.Qy,hcomp]
  obtain ⟨v0,g0,hI0,hl0⟩:=rinner_loop0 t ht h
  simp only [List.nil_append] at hI0
  obtain ⟨v,g,hI,hl⟩:=rinner_loop1 t ht h (t.items.map It.of) (by simp; omega) v0 g0 hI0
  simp [Ty.comp] at hcomp
  rw [hin]
  simp only [List.map_id] at hI
  rcases hcomp with hcomp | hcomp <;> simp [hcomp] at hl hl0 <;> simp [F224,c224,hcomp,hl,hl0] <;> generalize hA : frz _ _ v _=r <;>
   obtain ⟨g',rfl⟩:=Qu.frz_use (pre:=[_]) hI hA (pureL_tys _) <;> simp
theorem rnodes_ok : ∀ (n : Nat) (t : Ty),t.size<=n->t.wid<=1048576->t.nodes<=1048576->∀ ws h,Qb cfg ws 143 [t.enc] h=some (.tup [.int .i64 t.nodes,.int .i64 t.depth],h)
 | 0,t,ht,_,_,_,_=>by have:=t.size_pos; omega
 | n + 1,t,ht,hw0,hb,ws,h=>by
  have hk:=rinner_ok t hw0
  have hlen:=t.len_inner
  have hrl:=rinner_len t
  have hdep:=Ty.depth_le _ t (Nat.le_refl _)
  have hsm:=rinner_sum Ty.nodes t
  have hmx0:=rinner_max Ty.depth t
  have hd:=t.depth_eq
  have hn:=t.QC
  refine Qc rfl rfl ?_
  have hlp:=Qi (γ:=Avm.H) (f:=evC (Qb cfg) Qa cfg.pol h.length h.length c143L0) (keep:=[4,5,6,7]) t.Qy (fun _ _=>True)
   (fun i _=>[(4,.int .i64 ((1 + ((t.Qy.take i).map Ty.nodes).sum : Nat) : Int)),(5,.int .i64 ((Xv ((t.Qy.take i).map Ty.depth) : Nat) : Int)),(6,.isl (t.Qy.map Ty.enc)),(7,.int .i64 i)]) (fun _ g=>h++([.arr 0 8 [t.enc]]++g))
   (fun _ _ o=>∃ g,o=(.exit 0,[(4,.int .i64 (t.nodes : Int)),(5,.int .i64 ((Xv (t.inner.map Ty.depth) : Nat) : Int)),(6,.isl (t.Qy.map Ty.enc)),(7,.int .i64 t.Qy.length)],h++([.arr 0 8 [t.enc]]++g))) ?_ ?_ [] trivial
  ·obtain ⟨o,h1,g,h2⟩:=hlp
   subst h2
   have hw1:=Qd (n:=Xv (t.inner.map Ty.depth) + 1) (by omega)
   simp [Xv] at h1
   simp at hk hw1
   simp [F143,c143,hk,h1,hw1]
   omega
  ·intro i x r g hd hi hx _ K hK
   have hw:=Qd (n:=i + 1) (by omega)
   have hm1 : x ∈ t.inner:=(rinner_mem _ _).1 (by rw [← hx]; exact List.getElem_mem hi)
   have hsz:=Ty.QQ hm1
   have hwx:=Ty.wid_inner hm1
   have hnx:=Ty.Xt hm1
   have htk : t.Qy.take (i + 1)=t.Qy.take i++[x]:=by rw [List.take_succ_eq_append_getElem hi,hx]
   have hs2:=sum_take Ty.nodes t.Qy (i + 1)
   rw [htk] at hK hs2
   simp only [List.map_append,List.map_cons,List.map_nil,List.sum_append,List.sum_cons,List.sum_nil,Nat.add_zero,maxL_snoc] at hK hs2
   have hw2:=Qd (n:=1 + ((t.Qy.take i).map Ty.nodes).sum + x.nodes) (by omega)
   have hmx : ∀ a b : Nat,(if a < b then (b : Int) else (a : Int))=((max a b : Nat) : Int):=fun a b=>by split <;> omega
   have hcl:=fun h'=>rnodes_ok n x (by omega) (by omega) (by omega) h.length h'
   simp only [Ty.enc_eq] at hcl
   obtain ⟨o,h4,g2,h5⟩:=hK g trivial
   refine ⟨o,?_,g2,h5⟩
   rw [← Nat.add_assoc] at h4
   have hm2:=hmx (Xv ((t.Qy.take i).map Ty.depth)) x.depth
   generalize Xv ((t.Qy.take i).map Ty.depth)=md at h4 hm2 ⊢
   generalize ((t.Qy.take i).map Ty.nodes).sum=sm at h4 hw2 ⊢
   generalize x.nodes=xn at h4 hw2 hcl ⊢
   generalize x.depth=xd at h4 hm2 hcl ⊢
   generalize max md xd=mm at h4 hm2 ⊢
   simp at hw hw2 h4
   simp [c143L0,hi,hx,hcl,hw,hw2,hm2,h4]
  ·intro g K _
   refine ⟨_,?_,g,rfl⟩
   simp [c143L0,hsm,hmx0]
   omega
theorem rall_loop (t : Ty) (ht : t.wid<=1048576) (hb : t.nodes<=1048576) (hcall : ∀ x ∈ t.Qy,∀ ws h,Qb cfg ws 215 [x.enc] h=some (.isl (x.QW.map Ty.enc),h)) (h : Avm.H) : ∃ v g,Qu h.length 1 8 g (([t]++(t.Qy).flatMap Ty.QW).map Ty.enc) v/\Qa (evC (Qb cfg) Qa cfg.pol h.length h.length c215L0) [3,4,5] [(3,.osl (h.length + 1) 0 8 0 1),(4,.isl (t.Qy.map Ty.enc)),(5,.int .i64 (0 : Nat))] (h++([.arr 0 8 [t.enc]]++[.arr 0 8 [t.enc]]))=some (.exit 0,[(3,v),(4,.isl (t.Qy.map Ty.enc)),(5,.int .i64 (t.Qy).length)],h++([.arr 0 8 [t.enc]]++g)):=by
 have hl : (t.Qy).length<=1048576:=(by have:=t.len_inner; rw [rinner_len]; omega)
 have hlp:=Qi (γ:=AV × Avm.H) (f:=evC (Qb cfg) Qa cfg.pol h.length h.length c215L0) (keep:=[3,4,5]) (t.Qy)
     (fun i c=>Qu h.length 1 8 c.2 (([t]++((t.Qy).take i).flatMap Ty.QW).map Ty.enc) c.1)
     (fun i c=>[(3,c.1),(4,.isl (t.Qy.map Ty.enc)),(5,.int .i64 i)]) (fun _ g=>h++([.arr 0 8 [t.enc]]++g.2))
     (fun _ _ o=>∃ v g,Qu h.length 1 8 g (([t]++(t.Qy).flatMap Ty.QW).map Ty.enc) v/\o=(.exit 0,[(3,v),(4,.isl (t.Qy.map Ty.enc)),(5,.int .i64 (t.Qy).length)],h++([.arr 0 8 [t.enc]]++g))) ?_ ?_ (.osl (h.length + 1) 0 8 0 1,[.arr 0 8 [t.enc]]) (.inr ⟨0,0,by simp,by simp⟩)
 ·obtain ⟨o,hl,v,g,hI,ho⟩:=hlp
  exact ⟨v,g,hI,ho ▸ hl⟩
 ·intro i x r c hd hi hx hI K hK
  have hw:=Qd (n:=i + 1) (by omega)
  simp at hw
  have hm : x ∈ (t.Qy):=by rw [← hx]; exact List.getElem_mem hi
  have htk : (t.Qy).take (i + 1)=(t.Qy).take i++[x]:=by rw [List.take_succ_eq_append_getElem hi,hx]
  rw [htk] at hK
  have hcl:=fun h'=>hcall x hm h.length h'
  simp at hcl
  have hle : 1 + ((t.Qy.take i).flatMap Ty.QW).length + x.QW.length<=t.nodes:=by
   rw [flat_len (g:=Ty.nodes) (t.Qy.take i) fun y hy=>rall_len _ y (Nat.le_refl _),rall_len _ x (Nat.le_refl _)]
   have:=sum_take Ty.nodes t.Qy (i + 1)
   rw [htk,rinner_sum] at this
   simp only [List.map_append,List.map_cons,List.map_nil,List.sum_append,List.sum_cons,List.sum_nil,Nat.add_zero] at this
   rw [t.QC]; omega
  obtain ⟨v,g⟩:=c
  dsimp only at hI
  simp [-Prod.exists,c215L0,hi,hx,hw,Xr,appended,hcl]
  generalize hA : appI _ _ _ _ _ _ _=r
  obtain ⟨v',g',rfl,h2⟩:=Qu.use0 (pre:=[_]) hI hA (by simp only [List.length_map,List.length_append,List.length_cons,List.length_nil]; omega) (by simp)
  obtain ⟨o,h4,h5⟩:=hK (v',g') (by simpa using h2)
  refine ⟨o,?_,by simpa using h5⟩
  simp at h4
  simp [h4,hw]
 ·intro c K hI
  refine ⟨_,?_,c.1,c.2,by simpa using hI,rfl⟩
  simp [c215L0]
theorem rall_ok : ∀ (n : Nat) (t : Ty),t.size<=n->t.wid<=1048576->t.nodes<=1048576->∀ ws h,Qb cfg ws 215 [t.enc] h=some (.isl (t.QW.map Ty.enc),h)
 | 0,t,ht,_,_,_,_=>by have:=t.size_pos; omega
 | n + 1,t,ht,hw0,hb,ws,h=>by
  have hk:=rinner_ok t hw0
  obtain ⟨v,g,hI,hl⟩:=rall_loop t hw0 hb (fun x hx ws h=>by
   have hx:=(rinner_mem _ _).1 hx
   have h1:=Ty.QQ hx
   have h2:=Ty.wid_inner hx
   have h3:=Ty.Xt hx
   exact rall_ok n x (by omega) (by omega) (by omega) ws h) h
  refine Qc rfl rfl ?_
  simp at hk hl
  have hre : t.QW=[t]++t.Qy.flatMap Ty.QW:=by rw [Ty.rall_eq]; rfl
  rw [← hre] at hI
  simp [F215,c215,hk,hl,Xr]
  generalize hA : frz _ _ v _=r
  obtain ⟨g',rfl⟩:=Qu.frz_use (pre:=[_]) hI hA (pureL_tys _)
  simp
theorem limited_loop (l : List Ty) (hl0 : l.length<=1048576) (h B : Avm.H) : ∃ g,Qa (evC (Qb cfg) Qa cfg.pol h.length h.length c134L0) [5,6] [(5,.isl (l.map Ty.enc)),(6,.int .i64 (0 : Nat))] (h++(B++[]))=some (if (l).all limP=true then (.exit 0,[(5,.isl (l.map Ty.enc)),(6,.int .i64 (l).length)],h++(B++g)) else (.ret,[(2,.bool false)],h++(B++g))):=by
 have hl : (l).length<=1048576:=hl0
 have hlp:=Qi (γ:=Avm.H) (f:=evC (Qb cfg) Qa cfg.pol h.length h.length c134L0) (keep:=[5,6]) (l) (fun _ _=>True)
     (fun i _=>[(5,.isl (l.map Ty.enc)),(6,.int .i64 i)]) (fun _ g=>h++(B++g))
     (fun _ r o=>∃ g,o=if r.all limP=true then (.exit 0,[(5,.isl (l.map Ty.enc)),(6,.int .i64 (l).length)],h++(B++g)) else (.ret,[(2,.bool false)],h++(B++g))) ?_ ?_ [] trivial
 ·obtain ⟨o,h1,g,h2⟩:=hlp
  exact ⟨g,h2 ▸ h1⟩
 ·intro i x r g hd hi hx _ K hK
  have hw:=Qd (n:=i + 1) (by omega)
  simp at hw
  have hm : x ∈ (l):=by rw [← hx]; exact List.getElem_mem hi
  have e1 : ((20 : Int) < x.items.length) = ¬ (x.items.length<=20):=by apply propext; omega
  have e2 : ((20 : Int) < x.kids.length) = ¬ (x.kids.length<=20):=by apply propext; omega
  cases hv : limP x
  ·refine ⟨_,?_,g,by simp only [List.all_cons,hv,Bool.false_and,Bool.false_eq_true,if_false]; rfl⟩
   by_cases q1 : x.items.length<=20 <;> by_cases q2 : x.kids.length<=20 <;> simp [limP,q1,q2] at hv <;> simp [c134L0,hi,hx,e1,e2,q1,q2]
  ·obtain ⟨o,h4,g2,h5⟩:=hK g trivial
   refine ⟨o,?_,g2,by simp only [List.all_cons,hv,Bool.true_and]; exact h5⟩
   simp at h4
   by_cases q1 : x.items.length<=20 <;> by_cases q2 : x.kids.length<=20 <;> simp [limP,q1,q2] at hv <;> simp [c134L0,hi,hx,e1,e2,q1,q2,hw,h4]
 ·intro g K _
  refine ⟨_,?_,g,by simp only [List.all_nil,if_true]; rfl⟩
  simp [c134L0]
theorem limited_ok (t : Ty) (hw0 : t.wid<=1048576) (hb : t.nodes<=1048576) (ws : Nat) (h : Avm.H) : Qb cfg ws 134 [t.enc] h=some (.bool (limS t),h):=by
 have h1:=rnodes_ok _ t (Nat.le_refl _) hw0 hb
 have h2:=rall_ok _ t (Nat.le_refl _) hw0 hb
 have hlen:=rall_len _ t (Nat.le_refl _)
 obtain ⟨g,hl⟩:=limited_loop t.QW (by omega) h [.arr 0 8 [t.enc]]
 have hal:=rall_all limP _ t (Nat.le_refl _)
 rw [hal] at hl
 refine Qc rfl rfl ?_
 simp at h1 h2
 unfold limS
 generalize t.nodes=a at h1 ⊢
 generalize t.depth=b at h1 ⊢
 have e1 : ((600 : Int) < a) = ¬ (a<=600):=by apply propext; omega
 have e2 : ((30 : Int) < b) = ¬ (b<=30):=by apply propext; omega
 cases q3 : t.QE limP <;> simp [q3] at hl <;> by_cases q1 : a<=600 <;> by_cases q2 : b<=30 <;> simp [F134,c134,h1,h2,e1,e2,q1,q2,hl]
end Go.Proofs.YtflbneepngjglaaGreatDoor
