/- Names. -/
import Derived.Test.YteihdlcpfghmhaaGreatDoorM30
set_option linter.all false
namespace Go.Proofs.YteihdlcpfghmhaaGreatDoor
open Go Go.Avm
def Ty.rinner (t : Ty) : List Ty:=(if t.comp then t.items.map It.of else [])++t.kids
theorem rinner_mem (t x : Ty) : x ∈ t.rinner ↔ x ∈ t.inner:=by simp [Ty.rinner,Ty.inner,or_comm]
theorem rinner_sum (f : Ty→Nat) (t : Ty) : (t.rinner.map f).sum=(t.inner.map f).sum:=by simp [Ty.rinner,Ty.inner,List.sum_append,Nat.add_comm]
theorem maxL_app : ∀ l m : List Nat,maxL (l++m)=max (maxL l) (maxL m)
 | [],m=>by simp [maxL]
 | x :: l,m=>by simp only [List.cons_append,maxL,maxL_app l m]; omega
theorem rinner_max (f : Ty→Nat) (t : Ty) : maxL (t.rinner.map f)=maxL (t.inner.map f):=by simp only [Ty.rinner,Ty.inner,List.map_append,maxL_app]; omega
theorem rinner_all (p : Ty→Bool) (t : Ty) : t.rinner.all p=t.inner.all p:=by simp [Ty.rinner,Ty.inner,Bool.and_comm]
theorem rinner_len (t : Ty) : t.rinner.length=t.inner.length:=by simp [Ty.rinner,Ty.inner,Nat.add_comm]
def Ty.rall (t : Ty) : List Ty:=t :: t.rinner.attach.flatMap fun x=>x.1.rall
termination_by t.size
decreasing_by exact Ty.mem_inner ((rinner_mem _ _).1 x.2)
theorem Ty.rall_eq (t : Ty) : t.rall=t :: t.rinner.flatMap Ty.rall:=by rw [Ty.rall,att_flat t.rinner Ty.rall]
theorem flat_len {f : Ty→List Ty} {g : Ty→Nat} : ∀ l : List Ty,(∀ x ∈ l,(f x).length=g x)→(l.flatMap f).length=(l.map g).sum
 | [],_=>rfl
 | x :: l,h=>by simp only [List.flatMap_cons,List.length_append,List.map_cons,List.sum_cons,h x (by simp),flat_len l fun y hy=>h y (by simp [hy])]
theorem rall_len : ∀ (n : Nat) (t : Ty),t.size≤n→t.rall.length=t.nodes
 | 0,t,h=>by have:=t.size_pos; omega
 | n + 1,t,h=>by
  rw [Ty.rall_eq,Ty.nodes_eq,List.length_cons,flat_len (g:=Ty.nodes) t.rinner fun x hx=>rall_len n x (by have:=Ty.mem_inner ((rinner_mem _ _).1 hx); omega),rinner_sum]
  omega
theorem rall_all (p : Ty→Bool) : ∀ (n : Nat) (t : Ty),t.size≤n→t.rall.all p=t.allP p
 | 0,t,h=>by have:=t.size_pos; omega
 | n + 1,t,h=>by
  rw [Ty.rall_eq,Ty.allP_eq,List.all_cons,← rinner_all]
  congr 1
  have : ∀ l : List Ty,(∀ x ∈ l,x.rall.all p=x.allP p)→(l.flatMap Ty.rall).all p=l.all fun x=>x.allP p:=fun l=>by
   induction l with
   | nil=>intro _; rfl
   | cons x l ih=>intro h; simp only [List.flatMap_cons,List.all_append,List.all_cons,h x (by simp),ih fun y hy=>h y (by simp [hy])]
  exact this t.rinner fun x hx=>rall_all p n x (by have:=Ty.mem_inner ((rinner_mem _ _).1 hx); omega)
theorem rall_wid : ∀ (n : Nat) (t : Ty),t.size≤n→∀ x ∈ t.rall,x.wid≤t.wid∧x.size≤t.size
 | 0,t,h=>by have:=t.size_pos; omega
 | n + 1,t,h=>by
  intro x hx
  rw [Ty.rall_eq] at hx
  rcases List.mem_cons.1 hx with rfl | hx
  ·exact ⟨Nat.le_refl _,Nat.le_refl _⟩
  ·obtain ⟨y,hy,hxy⟩:=List.mem_flatMap.1 hx
   have hy:=(rinner_mem _ _).1 hy
   have h1:=Ty.mem_inner hy
   have h2:=Ty.wid_inner hy
   have:=rall_wid n y (by omega) x hxy
   omega
theorem rinner_loop0 (t : Ty) (ht : t.wid≤1048576) (h : Avm.H) : ∃ v g,SlcIn h.length 1 8 g (([]++(t.items).map It.of).map Ty.enc) v∧roundsL (evC (callL cfg) roundsL cfg.pol h.length h.length c66L0) [1,3,4] [(1,.ptr h.length 0 8 0 0),(3,.osl (h.length + 1) 0 8 0 0),(4,.int .i64 (0 : Nat))] (h++([.arr 0 8 [t.enc]]++[.arr 0 8 []]))=some (.exit 0,[(1,.ptr h.length 0 8 0 0),(3,v),(4,.int .i64 (t.items).length)],h++([.arr 0 8 [t.enc]]++g)):=by
 have hl : (t.items).length≤1048576:=Nat.le_trans t.wid_items ht
 have hlp:=loop_post (γ:=AV × Avm.H) (f:=evC (callL cfg) roundsL cfg.pol h.length h.length c66L0) (keep:=[1,3,4]) (t.items)
     (fun i c=>SlcIn h.length 1 8 c.2 (([]++((t.items).take i).map It.of).map Ty.enc) c.1)
     (fun i c=>[(1,.ptr h.length 0 8 0 0),(3,c.1),(4,.int .i64 i)]) (fun _ g=>h++([.arr 0 8 [t.enc]]++g.2))
     (fun _ _ o=>∃ v g,SlcIn h.length 1 8 g (([]++(t.items).map It.of).map Ty.enc) v∧o=(.exit 0,[(1,.ptr h.length 0 8 0 0),(3,v),(4,.int .i64 (t.items).length)],h++([.arr 0 8 [t.enc]]++g))) ?_ ?_ (.osl (h.length + 1) 0 8 0 0,[.arr 0 8 []]) (.inr ⟨0,0,by simp,by simp⟩)
 ·obtain ⟨o,hl,v,g,hI,ho⟩:=hlp
  exact ⟨v,g,hI,ho ▸ hl⟩
 ·intro i x r c hd hi hx hI K hK
  have hw:=wrap_nat (n:=i + 1) (by omega)
  simp at hw
  have hm : x ∈ (t.items):=by rw [← hx]; exact List.getElem_mem hi
  have htk : (t.items).take (i + 1)=(t.items).take i++[x]:=by rw [List.take_succ_eq_append_getElem hi,hx]
  rw [htk] at hK
  obtain ⟨v,g⟩:=c
  dsimp only at hI
  simp [-Prod.exists,c66L0,hi,hx,hw,bslP,appended,]
  generalize hA : appI _ _ _ _ _ _=r
  obtain ⟨v',g',rfl,h2⟩:=SlcIn.use (pre:=[_]) hI hA (by simp; omega) (by simp)
  obtain ⟨o,h4,h5⟩:=hK (v',g') (by simpa using h2)
  refine ⟨o,?_,by simpa using h5⟩
  simp at h4
  simp [h4,hw]
 ·intro c K hI
  refine ⟨_,?_,c.1,c.2,by simpa using hI,rfl⟩
  simp [c66L0]
theorem rinner_loop1 (t : Ty) (ht : t.wid≤1048576) (h : Avm.H) (pre : List Ty) (hpre : pre.length≤1048576) (v0 : AV) (g0 : Avm.H) (hI0 : SlcIn h.length 1 8 g0 (pre.map Ty.enc) v0) : ∃ v g,SlcIn h.length 1 8 g ((pre++(t.kids).map id).map Ty.enc) v∧roundsL (evC (callL cfg) roundsL cfg.pol h.length h.length c66L1) [1,3,5] [(1,.ptr h.length 0 8 0 0),(3,v0),(5,.int .i64 (0 : Nat))] (h++([.arr 0 8 [t.enc]]++g0))=some (.exit 2,[(1,.ptr h.length 0 8 0 0),(3,v),(5,.int .i64 (t.kids).length)],h++([.arr 0 8 [t.enc]]++g)):=by
 have hl : (t.kids).length≤1048576:=Nat.le_trans t.wid_kids ht
 have hlp:=loop_post (γ:=AV × Avm.H) (f:=evC (callL cfg) roundsL cfg.pol h.length h.length c66L1) (keep:=[1,3,5]) (t.kids)
     (fun i c=>SlcIn h.length 1 8 c.2 ((pre++((t.kids).take i).map id).map Ty.enc) c.1)
     (fun i c=>[(1,.ptr h.length 0 8 0 0),(3,c.1),(5,.int .i64 i)]) (fun _ g=>h++([.arr 0 8 [t.enc]]++g.2))
     (fun _ _ o=>∃ v g,SlcIn h.length 1 8 g ((pre++(t.kids).map id).map Ty.enc) v∧o=(.exit 2,[(1,.ptr h.length 0 8 0 0),(3,v),(5,.int .i64 (t.kids).length)],h++([.arr 0 8 [t.enc]]++g))) ?_ ?_ (v0,g0) (by simpa using hI0)
 ·obtain ⟨o,hl,v,g,hI,ho⟩:=hlp
  exact ⟨v,g,hI,ho ▸ hl⟩
 ·intro i x r c hd hi hx hI K hK
  have hw:=wrap_nat (n:=i + 1) (by omega)
  simp at hw
  have hm : x ∈ (t.kids):=by rw [← hx]; exact List.getElem_mem hi
  have htk : (t.kids).take (i + 1)=(t.kids).take i++[x]:=by rw [List.take_succ_eq_append_getElem hi,hx]
  rw [htk] at hK
  obtain ⟨v,g⟩:=c
  dsimp only at hI
  simp [-Prod.exists,c66L1,hi,hx,hw,bslP,appended,]
  generalize hA : appI _ _ _ _ _ _=r
  obtain ⟨v',g',rfl,h2⟩:=SlcIn.use (pre:=[_]) hI hA (by simp; omega) (by simp)
  obtain ⟨o,h4,h5⟩:=hK (v',g') (by simpa using h2)
  refine ⟨o,?_,by simpa using h5⟩
  simp at h4
  simp [h4,hw]
 ·intro c K hI
  refine ⟨_,?_,c.1,c.2,by simpa using hI,rfl⟩
  simp [c66L1]
theorem rinner_ok (t : Ty) (ht : t.wid≤1048576) (ws : Nat) (h : Avm.H) : callL cfg ws 66 [t.enc] h=some (.isl (t.rinner.map Ty.enc),h):=by
 refine callL_fn rfl rfl ?_
 have hwi:=t.wid_items
 cases hcomp : t.comp with
 | false=>
  have hin : t.rinner=t.kids:=by simp [Ty.rinner,hcomp]
  obtain ⟨v,g,hI,hl⟩:=rinner_loop1 t ht h [] (by simp) (.osl (h.length + 1) 0 8 0 0) [.arr 0 8 []] (.inr ⟨0,0,by simp,by simp⟩)
  simp [Ty.comp] at hcomp
  rw [hin]
  simp at hl hI
  have hc:=hI.cells
  have h1:=hI.one
  simp [F66,c66,hcomp,hl]
  generalize hA : frz _ _ v _=r
  obtain ⟨g',rfl⟩:=SlcIn.frz_use (pre:=[_]) hI hA (pureL_tys _)
  simp
 | true=>
  have hin : t.rinner=t.items.map It.of++t.kids:=by simp [Ty.rinner,hcomp]
  obtain ⟨v0,g0,hI0,hl0⟩:=rinner_loop0 t ht h
  simp only [List.nil_append] at hI0
  obtain ⟨v,g,hI,hl⟩:=rinner_loop1 t ht h (t.items.map It.of) (by simp; omega) v0 g0 hI0
  simp [Ty.comp] at hcomp
  rw [hin]
  simp only [List.map_id] at hI
  rcases hcomp with hcomp | hcomp <;> simp [hcomp] at hl hl0 <;> simp [F66,c66,hcomp,hl,hl0] <;> generalize hA : frz _ _ v _=r <;>
   obtain ⟨g',rfl⟩:=SlcIn.frz_use (pre:=[_]) hI hA (pureL_tys _) <;> simp
theorem rnodes_ok : ∀ (n : Nat) (t : Ty),t.size≤n→t.wid≤1048576→t.nodes≤1048576→∀ ws h,callL cfg ws 35 [t.enc] h=some (.tup [.int .i64 t.nodes,.int .i64 t.depth],h)
 | 0,t,ht,_,_,_,_=>by have:=t.size_pos; omega
 | n + 1,t,ht,hw0,hb,ws,h=>by
  have hk:=rinner_ok t hw0
  have hlen:=t.len_inner
  have hrl:=rinner_len t
  have hdep:=Ty.depth_le _ t (Nat.le_refl _)
  have hsm:=rinner_sum Ty.nodes t
  have hmx0:=rinner_max Ty.depth t
  have hd:=t.depth_eq
  have hn:=t.nodes_eq
  refine callL_fn rfl rfl ?_
  have hlp:=loop_post (γ:=Avm.H) (f:=evC (callL cfg) roundsL cfg.pol h.length h.length c35L0) (keep:=[4,5,6,7]) t.rinner (fun _ _=>True)
   (fun i _=>[(4,.int .i64 ((1 + ((t.rinner.take i).map Ty.nodes).sum : Nat) : Int)),(5,.int .i64 ((maxL ((t.rinner.take i).map Ty.depth) : Nat) : Int)),(6,.isl (t.rinner.map Ty.enc)),(7,.int .i64 i)]) (fun _ g=>h++([.arr 0 8 [t.enc]]++g))
   (fun _ _ o=>∃ g,o=(.exit 0,[(4,.int .i64 (t.nodes : Int)),(5,.int .i64 ((maxL (t.inner.map Ty.depth) : Nat) : Int)),(6,.isl (t.rinner.map Ty.enc)),(7,.int .i64 t.rinner.length)],h++([.arr 0 8 [t.enc]]++g))) ?_ ?_ [] trivial
  ·obtain ⟨o,h1,g,h2⟩:=hlp
   subst h2
   have hw1:=wrap_nat (n:=maxL (t.inner.map Ty.depth) + 1) (by omega)
   simp [maxL] at h1
   simp at hk hw1
   simp [F35,c35,hk,h1,hw1]
   omega
  ·intro i x r g hd hi hx _ K hK
   have hw:=wrap_nat (n:=i + 1) (by omega)
   have hm1 : x ∈ t.inner:=(rinner_mem _ _).1 (by rw [← hx]; exact List.getElem_mem hi)
   have hsz:=Ty.mem_inner hm1
   have hwx:=Ty.wid_inner hm1
   have hnx:=Ty.nodes_inner hm1
   have htk : t.rinner.take (i + 1)=t.rinner.take i++[x]:=by rw [List.take_succ_eq_append_getElem hi,hx]
   have hs2:=sum_take Ty.nodes t.rinner (i + 1)
   rw [htk] at hK hs2
   simp only [List.map_append,List.map_cons,List.map_nil,List.sum_append,List.sum_cons,List.sum_nil,Nat.add_zero,maxL_snoc] at hK hs2
   have hw2:=wrap_nat (n:=1 + ((t.rinner.take i).map Ty.nodes).sum + x.nodes) (by omega)
   have hmx : ∀ a b : Nat,(if a < b then (b : Int) else (a : Int))=((max a b : Nat) : Int):=fun a b=>by split <;> omega
   have hcl:=fun h'=>rnodes_ok n x (by omega) (by omega) (by omega) h.length h'
   simp only [Ty.enc_eq] at hcl
   obtain ⟨o,h4,g2,h5⟩:=hK g trivial
   refine ⟨o,?_,g2,h5⟩
   rw [← Nat.add_assoc] at h4
   have hm2:=hmx (maxL ((t.rinner.take i).map Ty.depth)) x.depth
   generalize maxL ((t.rinner.take i).map Ty.depth)=md at h4 hm2 ⊢
   generalize ((t.rinner.take i).map Ty.nodes).sum=sm at h4 hw2 ⊢
   generalize x.nodes=xn at h4 hw2 hcl ⊢
   generalize x.depth=xd at h4 hm2 hcl ⊢
   generalize max md xd=mm at h4 hm2 ⊢
   simp at hw hw2 h4
   simp [c35L0,hi,hx,hcl,hw,hw2,hm2,h4]
  ·intro g K _
   refine ⟨_,?_,g,rfl⟩
   simp [c35L0,hsm,hmx0]
   omega
theorem rall_loop (t : Ty) (ht : t.wid≤1048576) (hb : t.nodes≤1048576) (hcall : ∀ x ∈ t.rinner,∀ ws h,callL cfg ws 109 [x.enc] h=some (.isl (x.rall.map Ty.enc),h)) (h : Avm.H) : ∃ v g,SlcIn h.length 1 8 g (([t]++(t.rinner).flatMap Ty.rall).map Ty.enc) v∧roundsL (evC (callL cfg) roundsL cfg.pol h.length h.length c109L0) [3,4,5] [(3,.osl (h.length + 1) 0 8 0 1),(4,.isl (t.rinner.map Ty.enc)),(5,.int .i64 (0 : Nat))] (h++([.arr 0 8 [t.enc]]++[.arr 0 8 [t.enc]]))=some (.exit 0,[(3,v),(4,.isl (t.rinner.map Ty.enc)),(5,.int .i64 (t.rinner).length)],h++([.arr 0 8 [t.enc]]++g)):=by
 have hl : (t.rinner).length≤1048576:=(by have:=t.len_inner; rw [rinner_len]; omega)
 have hlp:=loop_post (γ:=AV × Avm.H) (f:=evC (callL cfg) roundsL cfg.pol h.length h.length c109L0) (keep:=[3,4,5]) (t.rinner)
     (fun i c=>SlcIn h.length 1 8 c.2 (([t]++((t.rinner).take i).flatMap Ty.rall).map Ty.enc) c.1)
     (fun i c=>[(3,c.1),(4,.isl (t.rinner.map Ty.enc)),(5,.int .i64 i)]) (fun _ g=>h++([.arr 0 8 [t.enc]]++g.2))
     (fun _ _ o=>∃ v g,SlcIn h.length 1 8 g (([t]++(t.rinner).flatMap Ty.rall).map Ty.enc) v∧o=(.exit 0,[(3,v),(4,.isl (t.rinner.map Ty.enc)),(5,.int .i64 (t.rinner).length)],h++([.arr 0 8 [t.enc]]++g))) ?_ ?_ (.osl (h.length + 1) 0 8 0 1,[.arr 0 8 [t.enc]]) (.inr ⟨0,0,by simp,by simp⟩)
 ·obtain ⟨o,hl,v,g,hI,ho⟩:=hlp
  exact ⟨v,g,hI,ho ▸ hl⟩
 ·intro i x r c hd hi hx hI K hK
  have hw:=wrap_nat (n:=i + 1) (by omega)
  simp at hw
  have hm : x ∈ (t.rinner):=by rw [← hx]; exact List.getElem_mem hi
  have htk : (t.rinner).take (i + 1)=(t.rinner).take i++[x]:=by rw [List.take_succ_eq_append_getElem hi,hx]
  rw [htk] at hK
  have hcl:=fun h'=>hcall x hm h.length h'
  simp at hcl
  have hle : 1 + ((t.rinner.take i).flatMap Ty.rall).length + x.rall.length≤t.nodes:=by
   rw [flat_len (g:=Ty.nodes) (t.rinner.take i) fun y hy=>rall_len _ y (Nat.le_refl _),rall_len _ x (Nat.le_refl _)]
   have:=sum_take Ty.nodes t.rinner (i + 1)
   rw [htk,rinner_sum] at this
   simp only [List.map_append,List.map_cons,List.map_nil,List.sum_append,List.sum_cons,List.sum_nil,Nat.add_zero] at this
   rw [t.nodes_eq]; omega
  obtain ⟨v,g⟩:=c
  dsimp only at hI
  simp [-Prod.exists,c109L0,hi,hx,hw,bslP,appended,hcl]
  generalize hA : appI _ _ _ _ _ _=r
  obtain ⟨v',g',rfl,h2⟩:=SlcIn.use0 (pre:=[_]) hI hA (by simp only [List.length_map,List.length_append,List.length_cons,List.length_nil]; omega) (by simp)
  obtain ⟨o,h4,h5⟩:=hK (v',g') (by simpa using h2)
  refine ⟨o,?_,by simpa using h5⟩
  simp at h4
  simp [h4,hw]
 ·intro c K hI
  refine ⟨_,?_,c.1,c.2,by simpa using hI,rfl⟩
  simp [c109L0]
theorem rall_ok : ∀ (n : Nat) (t : Ty),t.size≤n→t.wid≤1048576→t.nodes≤1048576→∀ ws h,callL cfg ws 109 [t.enc] h=some (.isl (t.rall.map Ty.enc),h)
 | 0,t,ht,_,_,_,_=>by have:=t.size_pos; omega
 | n + 1,t,ht,hw0,hb,ws,h=>by
  have hk:=rinner_ok t hw0
  obtain ⟨v,g,hI,hl⟩:=rall_loop t hw0 hb (fun x hx ws h=>by
   have hx:=(rinner_mem _ _).1 hx
   have h1:=Ty.mem_inner hx
   have h2:=Ty.wid_inner hx
   have h3:=Ty.nodes_inner hx
   exact rall_ok n x (by omega) (by omega) (by omega) ws h) h
  refine callL_fn rfl rfl ?_
  simp at hk hl
  have hre : t.rall=[t]++t.rinner.flatMap Ty.rall:=by rw [Ty.rall_eq]; rfl
  rw [← hre] at hI
  simp [F109,c109,hk,hl,bslP]
  generalize hA : frz _ _ v _=r
  obtain ⟨g',rfl⟩:=SlcIn.frz_use (pre:=[_]) hI hA (pureL_tys _)
  simp
theorem limited_loop (l : List Ty) (hl0 : l.length≤1048576) (h B : Avm.H) : ∃ g,roundsL (evC (callL cfg) roundsL cfg.pol h.length h.length c59L0) [5,6] [(5,.isl (l.map Ty.enc)),(6,.int .i64 (0 : Nat))] (h++(B++[]))=some (if (l).all limP=true then (.exit 0,[(5,.isl (l.map Ty.enc)),(6,.int .i64 (l).length)],h++(B++g)) else (.ret,[(2,.bool false)],h++(B++g))):=by
 have hl : (l).length≤1048576:=hl0
 have hlp:=loop_post (γ:=Avm.H) (f:=evC (callL cfg) roundsL cfg.pol h.length h.length c59L0) (keep:=[5,6]) (l) (fun _ _=>True)
     (fun i _=>[(5,.isl (l.map Ty.enc)),(6,.int .i64 i)]) (fun _ g=>h++(B++g))
     (fun _ r o=>∃ g,o=if r.all limP=true then (.exit 0,[(5,.isl (l.map Ty.enc)),(6,.int .i64 (l).length)],h++(B++g)) else (.ret,[(2,.bool false)],h++(B++g))) ?_ ?_ [] trivial
 ·obtain ⟨o,h1,g,h2⟩:=hlp
  exact ⟨g,h2 ▸ h1⟩
 ·intro i x r g hd hi hx _ K hK
  have hw:=wrap_nat (n:=i + 1) (by omega)
  simp at hw
  have hm : x ∈ (l):=by rw [← hx]; exact List.getElem_mem hi
  have e1 : ((20 : Int) < x.items.length) = ¬ (x.items.length≤20):=by apply propext; omega
  have e2 : ((20 : Int) < x.kids.length) = ¬ (x.kids.length≤20):=by apply propext; omega
  cases hv : limP x
  ·refine ⟨_,?_,g,by simp only [List.all_cons,hv,Bool.false_and,Bool.false_eq_true,if_false]; rfl⟩
   by_cases q1 : x.items.length≤20 <;> by_cases q2 : x.kids.length≤20 <;> simp [limP,q1,q2] at hv <;> simp [c59L0,hi,hx,e1,e2,q1,q2]
  ·obtain ⟨o,h4,g2,h5⟩:=hK g trivial
   refine ⟨o,?_,g2,by simp only [List.all_cons,hv,Bool.true_and]; exact h5⟩
   simp at h4
   by_cases q1 : x.items.length≤20 <;> by_cases q2 : x.kids.length≤20 <;> simp [limP,q1,q2] at hv <;> simp [c59L0,hi,hx,e1,e2,q1,q2,hw,h4]
 ·intro g K _
  refine ⟨_,?_,g,by simp only [List.all_nil,if_true]; rfl⟩
  simp [c59L0]
theorem limited_ok (t : Ty) (hw0 : t.wid≤1048576) (hb : t.nodes≤1048576) (ws : Nat) (h : Avm.H) : callL cfg ws 59 [t.enc] h=some (.bool (limS t),h):=by
 have h1:=rnodes_ok _ t (Nat.le_refl _) hw0 hb
 have h2:=rall_ok _ t (Nat.le_refl _) hw0 hb
 have hlen:=rall_len _ t (Nat.le_refl _)
 obtain ⟨g,hl⟩:=limited_loop t.rall (by omega) h [.arr 0 8 [t.enc]]
 have hal:=rall_all limP _ t (Nat.le_refl _)
 rw [hal] at hl
 refine callL_fn rfl rfl ?_
 simp at h1 h2
 unfold limS
 generalize t.nodes=a at h1 ⊢
 generalize t.depth=b at h1 ⊢
 have e1 : ((600 : Int) < a) = ¬ (a≤600):=by apply propext; omega
 have e2 : ((30 : Int) < b) = ¬ (b≤30):=by apply propext; omega
 cases q3 : t.allP limP <;> simp [q3] at hl <;> by_cases q1 : a≤600 <;> by_cases q2 : b≤30 <;> simp [F59,c59,h1,h2,e1,e2,q1,q2,hl]
end Go.Proofs.YteihdlcpfghmhaaGreatDoor
namespace Go.Proofs.YteihdlcpfghmhaaGreatDoor
open Go Go.Avm
def ltrI (n : Int) : Bool:=(decide (97≤n) && decide (n≤122)) || ((decide (65≤n) && decide (n≤90)) || (decide (48≤n) && decide (n≤57)))
def byI (b : UInt8) : Int:=(b.toNat : Int)
def okC (c : UInt8) : Bool:=ltrI (byI c) || decide (byI c=45)
def lastB (bs : List UInt8) : Int:=match bs.getLast? with | some c=>byI c | none=>0
def nmB (f l : Int) (bs : List UInt8) : Bool:=match bs with
 | []=>false
 | c :: r=>decide ((c :: r).length≤30) && (decide (f≤byI c) && (decide (byI c≤l) && (!decide (lastB (c :: r)=45) && (!Lib.contains (c :: r) [45,45] && (c :: r).all okC))))
theorem letter_ok (n : Int) (ws : Nat) (h : Avm.H) : callL cfg ws 152 [.int .u8 n] h=some (.bool (ltrI n),h):=by
 refine callL_fn rfl rfl ?_
 have a1 : ∀ a : Int,(!decide (a < n))=decide (n≤a):=fun a=>by by_cases q : n≤a <;> simp [q] <;> omega
 simp [F152,c152,ltrI,Bool.or_assoc,a1]
theorem name_loop (bs : List UInt8) (hb : bs.length≤1048576) (h : Avm.H) : ∃ g,roundsL (evC (callL cfg) roundsL cfg.pol h.length h.length c120L0) [41,42,43] [(41,.osl h.length 0 1 0 bs.length),(42,.int .i64 bs.length),(43,.int .i64 (0 : Nat))] (h++([.arr 0 1 (bs.map fun b=>.int .u8 (byI b))]++[]))=some (if (bs).all okC=true then (.exit 0,[(41,.osl h.length 0 1 0 bs.length),(42,.int .i64 bs.length),(43,.int .i64 (bs).length)],h++([.arr 0 1 (bs.map fun b=>.int .u8 (byI b))]++g)) else (.ret,[(6,.bool false)],h++([.arr 0 1 (bs.map fun b=>.int .u8 (byI b))]++g))):=by
 have hl : (bs).length≤1048576:=hb
 have hlp:=loop_post (γ:=Avm.H) (f:=evC (callL cfg) roundsL cfg.pol h.length h.length c120L0) (keep:=[41,42,43]) (bs) (fun _ _=>True)
     (fun i _=>[(41,.osl h.length 0 1 0 bs.length),(42,.int .i64 bs.length),(43,.int .i64 i)]) (fun _ g=>h++([.arr 0 1 (bs.map fun b=>.int .u8 (byI b))]++g))
     (fun _ r o=>∃ g,o=if r.all okC=true then (.exit 0,[(41,.osl h.length 0 1 0 bs.length),(42,.int .i64 bs.length),(43,.int .i64 (bs).length)],h++([.arr 0 1 (bs.map fun b=>.int .u8 (byI b))]++g)) else (.ret,[(6,.bool false)],h++([.arr 0 1 (bs.map fun b=>.int .u8 (byI b))]++g))) ?_ ?_ [] trivial
 ·obtain ⟨o,h1,g,h2⟩:=hlp
  exact ⟨g,h2 ▸ h1⟩
 ·intro i x r g hd hi hx _ K hK
  have hw:=wrap_nat (n:=i + 1) (by omega)
  simp at hw
  have hm : x ∈ (bs):=by rw [← hx]; exact List.getElem_mem hi
  have hlt:=fun ws h=>letter_ok (byI x) ws h
  have hlt45:=fun ws h=>letter_ok 45 ws h
  have h45 : ltrI 45=false:=by decide
  cases hv : okC x
  ·refine ⟨_,?_,g,by simp only [List.all_cons,hv,Bool.false_and,Bool.false_eq_true,if_false]; rfl⟩
   simp only [okC,Bool.or_eq_false_iff,decide_eq_false_iff_not] at hv
   obtain ⟨hv1,hv2⟩:=hv
   simp [c120L0,hi,hx,hlt,hlt45,h45,hv1,hv2]
  ·obtain ⟨o,h4,g2,h5⟩:=hK g trivial
   refine ⟨o,?_,g2,by simp only [List.all_cons,hv,Bool.true_and]; exact h5⟩
   simp at h4
   simp only [okC,Bool.or_eq_true,decide_eq_true_eq] at hv
   rcases hv with hv | hv <;> simp [c120L0,hi,hx,hlt,hlt45,h45,hv,hw,h4]
 ·intro g K _
  refine ⟨_,?_,g,by simp only [List.all_nil,if_true]; rfl⟩
  simp [c120L0]
theorem name_ok (f l : Int) (s : ByteArray) (hs : s.size≤1048576) (ws : Nat) (h : Avm.H) : callL cfg ws 120 [.str s,.int .u8 f,.int .u8 l] h=some (.bool (nmB f l s.data.toList),h):=by
 obtain ⟨bs,hbs⟩ : ∃ bs,s.data.toList=bs:=⟨_,rfl⟩
 have hsz : s.size=bs.length:=by rw [← hbs,Array.length_toList]; rfl
 have hco:=fun ws h=>callL_ext (cfg:=cfg) (f:=92) (ws:=ws) (args:=[.str s,.str ⟨#[45,45]⟩]) (h:=h) (r:=(.bool (Lib.contains bs [45,45]),h)) rfl (by simp only [containsX,hbs]; rw [if_pos (by omega)])
 obtain ⟨g,hl⟩:=name_loop bs (by omega) h
 simp only [← hsz] at hl
 have hE : s.toList=bs:=by rw [ByteArray.toList_eq,hbs]
 have hE0 : (⟨#[]⟩ : ByteArray).toList=[]:=by rw [ByteArray.toList_eq]
 refine callL_fn rfl rfl ?_
 rw [hbs]
 cases bs with
 | nil=>simp [F120,c120,hE,hE0,nmB]
 | cons c r=>
  have hw : IntKind.wrap .i64 ((s.size : Int) - 1)=r.length:=by rw [hsz]; simp; exact wrap_nat (by simp at hsz; omega)
  have hlast : (c :: r)[r.length]? = (c :: r).getLast?:=by rw [List.getLast?_eq_getElem?]; simp
  obtain ⟨z,hz⟩ : ∃ z,(c :: r).getLast? = some z:=⟨_,List.getLast?_cons⟩
  have hlz : lastB (c :: r)=byI z:=by simp [lastB,hz]
  have e30 : ((30 : Int) < s.size) = ¬ ((c :: r).length≤30):=by apply propext; rw [hsz]; omega
  rw [hz] at hlast
  simp only [nmB,hlz]
  have hc0 : (c :: r)[0]? = some c:=rfl
  have hby : ∀ b : UInt8,((b.toNat : Nat) : Int)=byI b:=fun _=>rfl
  by_cases q1 : (c :: r).length≤30
  ·by_cases q2 : f≤byI c
   ·have n1 : ¬ byI c < f:=by omega
    by_cases q3 : byI c≤l
    ·have n2 : ¬ l < byI c:=by omega
     by_cases q4 : byI z=45
     ·simp [F120,c120,hE,hE0,hbs,hw,hc0,hlast,e30,hco,hby,-List.length_cons,q1,q2,q3,q4,n1,n2]
     ·cases q5 : Lib.contains (c :: r) [45,45] <;> simp only [q5] at hco
      ·cases q6 : (c :: r).all okC <;> simp only [q6] at hl <;> simp at hl <;> simp [F120,c120,hE,hE0,hbs,hw,hc0,hlast,e30,hco,hby,-List.length_cons,q1,q2,q3,q4,n1,n2,hl]
      ·simp [F120,c120,hE,hE0,hbs,hw,hc0,hlast,e30,hco,hby,-List.length_cons,q1,q2,q3,q4,n1,n2]
    ·have n2 : l < byI c:=by omega
     simp [F120,c120,hE,hE0,hbs,hw,hc0,hlast,e30,hco,hby,-List.length_cons,q1,q2,q3,n1,n2]
   ·have n1 : byI c < f:=by omega
    simp [F120,c120,hE,hE0,hbs,hw,hc0,hlast,e30,hco,hby,-List.length_cons,q1,q2,n1]
  ·simp [F120,c120,hE,hE0,hbs,hw,hc0,hlast,e30,hco,hby,-List.length_cons,q1]
end Go.Proofs.YteihdlcpfghmhaaGreatDoor
