/- References that name something, items that differ in name: the reference's way. -/
import Derived.Test.YteihdlcpfghmhaaGreatDoorM32
set_option linter.all false
namespace Go.Proofs.YteihdlcpfghmhaaGreatDoor
open Go Go.Avm
theorem idxOf_cases {α : Type} (p : α→Bool) (l : List α) : (idxOf p l = -1∧l.find? p=none) ∨ ∃ (j : Nat) (x : α),idxOf p l=j∧l[j]? = some x∧l.find? p=some x:=by
 unfold idxOf
 cases hq : l.findIdx? p with
 | none=>
  left
  refine ⟨rfl,?_⟩
  rw [List.findIdx?_eq_none_iff] at hq
  rw [List.find?_eq_none]
  intro x hx; simp [hq x hx]
 | some j=>
  right
  rw [List.findIdx?_eq_some_iff_getElem] at hq
  obtain ⟨hj,h1,h2⟩:=hq
  refine ⟨j,l[j],rfl,List.getElem?_eq_getElem hj,?_⟩
  rw [List.find?_eq_some_iff_getElem]
  exact ⟨h1,j,hj,rfl,fun k hk=>by simpa using h2 k hk⟩
theorem known_loop (m : Md) (ps : List ByteArray) (t : Ty) (ht : t.wid≤1048576) (h : Avm.H) : ∃ g,roundsL (evC (callL cfg) roundsL cfg.pol h.length h.length c110L0) [1,3,5,7] [(1,.isl (ps.map .str)),(3,.ptr h.length 0 2 0 0),(5,.ptr (h.length + 1) 0 8 0 0),(7,.int .i64 (0 : Nat))] (h++([.arr 0 2 [m.enc],.arr 0 8 [t.enc]]++[]))=some (if (t.items).all smallI=true then (.exit 0,[(1,.isl (ps.map .str)),(3,.ptr h.length 0 2 0 0),(5,.ptr (h.length + 1) 0 8 0 0),(7,.int .i64 (t.items).length)],h++([.arr 0 2 [m.enc],.arr 0 8 [t.enc]]++g)) else (.ret,[(6,.bool false)],h++([.arr 0 2 [m.enc],.arr 0 8 [t.enc]]++g))):=by
 have hl : (t.items).length≤1048576:=Nat.le_trans t.wid_items ht
 have hlp:=loop_post (γ:=Avm.H) (f:=evC (callL cfg) roundsL cfg.pol h.length h.length c110L0) (keep:=[1,3,5,7]) (t.items) (fun _ _=>True)
     (fun i _=>[(1,.isl (ps.map .str)),(3,.ptr h.length 0 2 0 0),(5,.ptr (h.length + 1) 0 8 0 0),(7,.int .i64 i)]) (fun _ g=>h++([.arr 0 2 [m.enc],.arr 0 8 [t.enc]]++g))
     (fun _ r o=>∃ g,o=if r.all smallI=true then (.exit 0,[(1,.isl (ps.map .str)),(3,.ptr h.length 0 2 0 0),(5,.ptr (h.length + 1) 0 8 0 0),(7,.int .i64 (t.items).length)],h++([.arr 0 2 [m.enc],.arr 0 8 [t.enc]]++g)) else (.ret,[(6,.bool false)],h++([.arr 0 2 [m.enc],.arr 0 8 [t.enc]]++g))) ?_ ?_ [] trivial
 ·obtain ⟨o,h1,g,h2⟩:=hlp
  exact ⟨g,h2 ▸ h1⟩
 ·intro i x r g hd hi hx _ K hK
  have hw:=wrap_nat (n:=i + 1) (by omega)
  simp at hw
  have hm : x ∈ (t.items):=by rw [← hx]; exact List.getElem_mem hi
  have hsm:=rsmall_ok x.name (by have:=Ty.wid_item hm; have:=x.wid_name; omega)
  cases hv : smallI x
  ·refine ⟨_,?_,g,by simp only [List.all_cons,hv,Bool.false_and,Bool.false_eq_true,if_false]; rfl⟩
   unfold smallI at hv
   simp only [hv] at hsm
   simp [c110L0,hi,hx,hsm,Md.enc,]
  ·obtain ⟨o,h4,g2,h5⟩:=hK g trivial
   refine ⟨o,?_,g2,by simp only [List.all_cons,hv,Bool.true_and]; exact h5⟩
   unfold smallI at hv
   simp only [hv] at hsm
   simp [Md.enc] at h4
   simp [c110L0,hi,hx,hsm,Md.enc,hw,h4]
 ·intro g K _
  refine ⟨_,?_,g,by simp only [List.all_nil,if_true]; rfl⟩
  simp [Md.enc,c110L0]
theorem known_ok (m : Md) (ps : List ByteArray) (hm : m.ok) (hp : ps.length≤1048576) (t : Ty) (ht : t.wid≤1048576) (ws : Nat) (h : Avm.H) : callL cfg ws 110 [m.enc,.isl (ps.map .str),t.enc] h=some (.bool (knownP m ps t),h):=by
 have h2:=rgreat_ok t.name (Nat.le_trans t.wid_name ht)
 have h3:=has_ok ps t.name hp
 have h4:=find_ok m t.name hm.len
 refine callL_fn rfl rfl ?_
 simp [Md.enc] at h4
 by_cases q0 : t.kind=3 ∨ t.kind=8 ∨ t.kind=9
 ·have hi : t.itemsOf=t.items:=by rcases q0 with q | q | q <;> simp [Ty.itemsOf,Ty.withItems,q]
  have q10 : decide (t.kind=10)=false:=by rcases q0 with q | q | q <;> simp [q]
  obtain ⟨g,hl⟩:=known_loop m ps t ht h
  unfold knownP
  rw [hi,q10]
  cases q1 : t.items.all smallI <;> rw [q1] at hl <;> simp [Md.enc] at hl <;> rcases q0 with q | q | q <;> simp [q] at hl <;> simp [Md.enc,F110,c110,hl,q]
 ·have n3 : ¬ t.kind=3:=fun e=>q0 (.inl e)
  have n8 : ¬ t.kind=8:=fun e=>q0 (.inr (.inl e))
  have n9 : ¬ t.kind=9:=fun e=>q0 (.inr (.inr e))
  have hi : t.itemsOf=[]:=by simp [Ty.itemsOf,Ty.withItems,n3,n8,n9]
  unfold knownP refP
  rw [hi]
  by_cases q2 : t.kind=10
  ·cases q4 : inS ps t.name
   ·rw [q4] at h3
    cases q3 : greatB t.name
    ·rw [q3] at h2
     rcases idxOf_cases (isD t.name) m.defs with ⟨k1,k2⟩ | ⟨j,x,k1,k2,k3⟩ <;> rw [k1] at h4 <;> simp [Md.enc,F110,c110,q2,h2,h3,h4]
    ·rw [q3] at h2
     rcases idxOf_cases (isD t.name) m.defs with ⟨k1,k2⟩ | ⟨j,x,k1,k2,k3⟩
     ·rw [k1] at h4
      simp [Md.enc,F110,c110,q2,h2,h3,h4,k2]
     ·rw [k1] at h4
      simp [Md.enc,F110,c110,q2,h2,h3,h4,k2,k3,beq_nat]
   ·rw [q4] at h3
    have e0 : (((t.kids.length : Nat) : Int) == 0)=decide (t.kids=[]):=by rw [beq_zero]; simp
    simp [Md.enc,F110,c110,q2,h3,e0]
  ·simp [Md.enc,F110,c110,q2,n3,n8,n9]
theorem named_loop (m : Md) (ps : List ByteArray) (hmk : m.ok) (hp : ps.length≤1048576) (t : Ty) (ht : t.wid≤1048576) (hb : t.nodes≤1048576) (h : Avm.H) : ∃ g,roundsL (evC (callL cfg) roundsL cfg.pol h.length h.length c60L0) [1,3,7,8] [(1,.isl (ps.map .str)),(3,.ptr h.length 0 2 0 0),(7,.isl (t.rall.map Ty.enc)),(8,.int .i64 (0 : Nat))] (h++([.arr 0 2 [m.enc],.arr 0 8 [t.enc]]++[]))=some (if (t.rall).all (knownP m ps)=true then (.exit 0,[(1,.isl (ps.map .str)),(3,.ptr h.length 0 2 0 0),(7,.isl (t.rall.map Ty.enc)),(8,.int .i64 (t.rall).length)],h++([.arr 0 2 [m.enc],.arr 0 8 [t.enc]]++g)) else (.ret,[(6,.bool false)],h++([.arr 0 2 [m.enc],.arr 0 8 [t.enc]]++g))):=by
 have hl : (t.rall).length≤1048576:=(by have:=rall_len _ t (Nat.le_refl _); omega)
 have hlp:=loop_post (γ:=Avm.H) (f:=evC (callL cfg) roundsL cfg.pol h.length h.length c60L0) (keep:=[1,3,7,8]) (t.rall) (fun _ _=>True)
     (fun i _=>[(1,.isl (ps.map .str)),(3,.ptr h.length 0 2 0 0),(7,.isl (t.rall.map Ty.enc)),(8,.int .i64 i)]) (fun _ g=>h++([.arr 0 2 [m.enc],.arr 0 8 [t.enc]]++g))
     (fun _ r o=>∃ g,o=if r.all (knownP m ps)=true then (.exit 0,[(1,.isl (ps.map .str)),(3,.ptr h.length 0 2 0 0),(7,.isl (t.rall.map Ty.enc)),(8,.int .i64 (t.rall).length)],h++([.arr 0 2 [m.enc],.arr 0 8 [t.enc]]++g)) else (.ret,[(6,.bool false)],h++([.arr 0 2 [m.enc],.arr 0 8 [t.enc]]++g))) ?_ ?_ [] trivial
 ·obtain ⟨o,h1,g,h2⟩:=hlp
  exact ⟨g,h2 ▸ h1⟩
 ·intro i x r g hd hi hx _ K hK
  have hw:=wrap_nat (n:=i + 1) (by omega)
  simp at hw
  have hm : x ∈ (t.rall):=by rw [← hx]; exact List.getElem_mem hi
  have hkn:=known_ok m ps hmk hp x (Nat.le_trans (rall_wid _ t (Nat.le_refl _) x hm).1 ht)
  cases hv : (knownP m ps) x
  ·refine ⟨_,?_,g,by simp only [List.all_cons,hv,Bool.false_and,Bool.false_eq_true,if_false]; rfl⟩
   simp only [hv] at hkn
   simp [Md.enc] at hkn
   simp [c60L0,hi,hx,hkn,Md.enc,]
  ·obtain ⟨o,h4,g2,h5⟩:=hK g trivial
   refine ⟨o,?_,g2,by simp only [List.all_cons,hv,Bool.true_and]; exact h5⟩
   simp only [hv] at hkn
   simp [Md.enc] at hkn h4
   simp [c60L0,hi,hx,hkn,Md.enc,hw,h4]
 ·intro g K _
  refine ⟨_,?_,g,by simp only [List.all_nil,if_true]; rfl⟩
  simp [Md.enc,c60L0]
theorem named_ok (m : Md) (ps : List ByteArray) (hm : m.ok) (hp : ps.length≤1048576) (t : Ty) (ht : t.wid≤1048576) (hb : t.nodes≤1048576) (ws : Nat) (h : Avm.H) : callL cfg ws 60 [m.enc,.isl (ps.map .str),t.enc] h=some (.bool (t.allP (knownP m ps)),h):=by
 have h1:=rall_ok _ t (Nat.le_refl _) ht hb
 obtain ⟨g,hl⟩:=named_loop m ps hm hp t ht hb h
 rw [rall_all _ _ t (Nat.le_refl _)] at hl
 refine callL_fn rfl rfl ?_
 simp at h1
 cases q : t.allP (knownP m ps) <;> rw [q] at hl <;> simp [Md.enc] at hl <;> simp [Md.enc,F60,c60,h1,hl]
def difP (x : Ty) : Bool:=distinct (x.itemsOf.map It.name)
theorem strs_map (l : List ByteArray) : strs (l.map .str)=some l:=by
 induction l with
 | nil=>rfl
 | cons x l ih=>simp [strs,ih]
theorem twice_ok (v : AV) (l : List ByteArray) (hl : l.length≤1048576) (ws : Nat) (h : Avm.H) (he : elsOf h v=some (l.map .str)) : callL cfg ws 73 [v] h=some (.bool (!distinct l),h):=by
 refine callL_ext rfl ?_
 simp only [twiceX,he,strs_map,hl,if_true]
theorem differ_loop (t : Ty) (ht : t.wid≤1048576) (h : Avm.H) : ∃ v g,SlcIn h.length 1 1 g (([]++(t.itemsOf).map It.name).map AV.str) v∧roundsL (evC (callL cfg) roundsL cfg.pol h.length h.length c80L0) [3,7,8,9] [(3,.osl (h.length + 1) 0 1 0 0),(7,.isl (t.itemsOf.map It.enc)),(8,.int .i64 t.itemsOf.length),(9,.int .i64 (0 : Nat))] (h++([.arr 0 8 [t.enc]]++[.arr 0 1 []]))=some (.exit 0,[(3,v),(7,.isl (t.itemsOf.map It.enc)),(8,.int .i64 t.itemsOf.length),(9,.int .i64 (t.itemsOf).length)],h++([.arr 0 8 [t.enc]]++g)):=by
 have hl : (t.itemsOf).length≤1048576:=(by have:=itemsOf_len t; have:=t.wid_items; omega)
 have hlp:=loop_post (γ:=AV × Avm.H) (f:=evC (callL cfg) roundsL cfg.pol h.length h.length c80L0) (keep:=[3,7,8,9]) (t.itemsOf)
     (fun i c=>SlcIn h.length 1 1 c.2 (([]++((t.itemsOf).take i).map It.name).map AV.str) c.1)
     (fun i c=>[(3,c.1),(7,.isl (t.itemsOf.map It.enc)),(8,.int .i64 t.itemsOf.length),(9,.int .i64 i)]) (fun _ g=>h++([.arr 0 8 [t.enc]]++g.2))
     (fun _ _ o=>∃ v g,SlcIn h.length 1 1 g (([]++(t.itemsOf).map It.name).map AV.str) v∧o=(.exit 0,[(3,v),(7,.isl (t.itemsOf.map It.enc)),(8,.int .i64 t.itemsOf.length),(9,.int .i64 (t.itemsOf).length)],h++([.arr 0 8 [t.enc]]++g))) ?_ ?_ (.osl (h.length + 1) 0 1 0 0,[.arr 0 1 []]) (.inr ⟨0,0,by simp,by simp⟩)
 ·obtain ⟨o,hl,v,g,hI,ho⟩:=hlp
  exact ⟨v,g,hI,ho ▸ hl⟩
 ·intro i x r c hd hi hx hI K hK
  have hw:=wrap_nat (n:=i + 1) (by omega)
  simp at hw
  have hm : x ∈ (t.itemsOf):=by rw [← hx]; exact List.getElem_mem hi
  have htk : (t.itemsOf).take (i + 1)=(t.itemsOf).take i++[x]:=by rw [List.take_succ_eq_append_getElem hi,hx]
  rw [htk] at hK
  obtain ⟨v,g⟩:=c
  dsimp only at hI
  simp [-Prod.exists,c80L0,hi,hx,hw,bslP,appended,]
  generalize hA : appI _ _ _ _ _ _=r
  obtain ⟨v',g',rfl,h2⟩:=SlcIn.use (pre:=[_]) hI hA (by simp; omega) (by simp)
  obtain ⟨o,h4,h5⟩:=hK (v',g') (by simpa using h2)
  refine ⟨o,?_,by simpa using h5⟩
  simp at h4
  simp [h4,hw]
 ·intro c K hI
  refine ⟨_,?_,c.1,c.2,by simpa using hI,rfl⟩
  simp [c80L0]
theorem differf_ok (t : Ty) (ht : t.wid≤1048576) (ws : Nat) (h : Avm.H) : callL cfg ws 80 [t.enc] h=some (.bool (difP t),h):=by
 have h1:=itemsOf_ok t
 have hlen:=itemsOf_len t
 have hwi:=t.wid_items
 obtain ⟨v,g,hI,hl⟩:=differ_loop t ht h
 simp only [List.nil_append] at hI
 have h2:=fun ws=>twice_ok v (t.itemsOf.map It.name) (by simp; omega) ws _ (SlcIn.els (pre:=[.arr 0 8 [t.enc]]) hI)
 refine callL_fn rfl rfl ?_
 simp at h1 hl h2
 simp [F80,c80,h1,hl,h2,difP]
theorem differ_ok (t : Ty) (hw0 : t.wid≤1048576) (hb : t.nodes≤1048576) (ws : Nat) (h : Avm.H) : callL cfg ws 40 [t.enc] h=some (.bool (t.allP difP),h):=by
 have h2:=fun ws h=>within_ok (cap':=[]) (k:=0) (.inl rfl) rfl _ t (Nat.le_refl _) hw0 hb (fun x _ hx _ ws h'=>by simpa using differf_ok x (Nat.le_trans hx hw0) ws h') ws h [] rfl
 refine callL_fn rfl rfl ?_
 simp at h2
 simp [F40,c40,h2]
def rdup : List ByteArray→List ByteArray→Bool
 | _,[]=>false
 | pre,x :: r=>pre.any (fun y=>eqS x y) || rdup (pre++[x]) r
theorem anyor {α : Type} (f g : α→Bool) : ∀ l : List α,(l.any fun z=>f z || g z)=(l.any f || l.any g)
 | []=>rfl
 | x :: l=>by simp only [List.any_cons,anyor f g l]; cases f x <;> cases g x <;> cases l.any f <;> cases l.any g <;> rfl
theorem all_not {α : Type} (f : α→Bool) : ∀ l : List α,(l.all fun z=>!f z) = !l.any f
 | []=>rfl
 | x :: l=>by simp only [List.any_cons,List.all_cons,all_not f l,Bool.not_or]
theorem rdup_eq : ∀ (l pre : List ByteArray),rdup pre l=(l.any (fun x=>pre.any (fun y=>eqS x y)) || !distinct l)
 | [],pre=>rfl
 | x :: r,pre=>by
  rw [rdup,rdup_eq r (pre++[x]),distinct,List.any_cons]
  have h1 : (r.any fun z=>(pre++[x]).any fun y=>eqS z y)=((r.any fun z=>pre.any fun y=>eqS z y) || r.any fun z=>eqS z x):=by
   rw [← anyor]; congr 1; funext z; simp
  have h2 : (r.all fun y=>!(x.toList == y.toList)) = !(r.any fun z=>eqS z x):=by
   rw [← all_not]; congr 1; funext y
   have : (x.toList == y.toList)=eqS y x:=by
    unfold eqS
    by_cases e : y.toList=x.toList
    ·simp [e]
    ·have e2 : ¬ x.toList=y.toList:=fun q=>e q.symm
     simp [e,e2]
   rw [this]
  rw [h1,h2]
  cases pre.any (fun y=>eqS x y) <;> cases (r.any fun z=>pre.any fun y=>eqS z y) <;> cases (r.any fun z=>eqS z x) <;> cases distinct r <;> rfl
theorem rtwice_inner (t : Ty) (ht : t.wid≤1048576) (k : Nat) (hk : k < t.items.length) (z : It) (hz : t.items[k]? = some z) (h g0 : Avm.H) : ∃ g,roundsL (evC (callL cfg) roundsL cfg.pol h.length h.length c111L0) [1,3,4] [(1,.ptr h.length 0 8 0 0),(3,.int .i64 k),(4,.int .i64 (0 : Nat))] (h++([.arr 0 8 [t.enc]]++g0))=some (if (t.items.take k).all (fun y=>!eqS z.name y.name)=true then (.exit 2,[(1,.ptr h.length 0 8 0 0),(3,.int .i64 k),(4,.int .i64 (t.items.take k).length)],h++([.arr 0 8 [t.enc]]++g)) else (.ret,[(2,.bool true)],h++([.arr 0 8 [t.enc]]++g))):=by
 have hl : (t.items.take k).length≤1048576:=(by have:=t.wid_items; simp; omega)
 have hlp:=loop_post (γ:=Avm.H) (f:=evC (callL cfg) roundsL cfg.pol h.length h.length c111L0) (keep:=[1,3,4]) (t.items.take k) (fun _ _=>True)
     (fun i _=>[(1,.ptr h.length 0 8 0 0),(3,.int .i64 k),(4,.int .i64 i)]) (fun _ g=>h++([.arr 0 8 [t.enc]]++g))
     (fun _ r o=>∃ g,o=if r.all (fun y=>!eqS z.name y.name)=true then (.exit 2,[(1,.ptr h.length 0 8 0 0),(3,.int .i64 k),(4,.int .i64 (t.items.take k).length)],h++([.arr 0 8 [t.enc]]++g)) else (.ret,[(2,.bool true)],h++([.arr 0 8 [t.enc]]++g))) ?_ ?_ g0 trivial
 ·obtain ⟨o,h1,g,h2⟩:=hlp
  exact ⟨g,h2 ▸ h1⟩
 ·intro i x r g hd hi hx _ K hK
  have hw:=wrap_nat (n:=i + 1) (by omega)
  simp at hw
  have hm : x ∈ (t.items.take k):=by rw [← hx]; exact List.getElem_mem hi
  have hik : i < k:=by simp at hi; omega
  have hik2 : i < t.items.length:=by omega
  have hx2 : t.items[i]? = some x:=by rw [List.getElem_take] at hx; rw [List.getElem?_eq_getElem hik2,hx]
  cases hv : (fun y=>!eqS z.name y.name) x
  ·refine ⟨_,?_,g,by simp only [List.all_cons,hv,Bool.false_and,Bool.false_eq_true,if_false]; rfl⟩
   simp [eqS] at hv
   simp [c111L0,hi,hx,hik,hz,hx2,hv]
  ·obtain ⟨o,h4,g2,h5⟩:=hK g trivial
   refine ⟨o,?_,g2,by simp only [List.all_cons,hv,Bool.true_and]; exact h5⟩
   simp at h4
   simp [eqS] at hv
   simp [c111L0,hi,hx,hik,hz,hx2,hv,hw,h4]
 ·intro g K _
  refine ⟨_,?_,g,by simp only [List.all_nil,if_true]; rfl⟩
  have hmin : (t.items.take k).length=k:=by simp; omega
  simp [hmin,c111L0]
theorem rtwice_outer (t : Ty) (ht : t.wid≤1048576) (h : Avm.H) : ∃ g,roundsL (evC (callL cfg) roundsL cfg.pol h.length h.length c111L1) [1,3] [(1,.ptr h.length 0 8 0 0),(3,.int .i64 (0 : Nat))] (h++([.arr 0 8 [t.enc]]++[])) =
    some (if rdup [] (t.items.map It.name)=true then (.ret,[(2,.bool true)],h++([.arr 0 8 [t.enc]]++g)) else (.exit 0,[(1,.ptr h.length 0 8 0 0),(3,.int .i64 t.items.length)],h++([.arr 0 8 [t.enc]]++g))):=by
 have hlp:=loop_post (γ:=Avm.H) (f:=evC (callL cfg) roundsL cfg.pol h.length h.length c111L1) (keep:=[1,3]) t.items (fun _ _=>True)
  (fun i _=>[(1,.ptr h.length 0 8 0 0),(3,.int .i64 i)]) (fun _ g=>h++([.arr 0 8 [t.enc]]++g))
  (fun i r o=>∃ g,o=if rdup ((t.items.take i).map It.name) (r.map It.name)=true then (.ret,[(2,.bool true)],h++([.arr 0 8 [t.enc]]++g)) else (.exit 0,[(1,.ptr h.length 0 8 0 0),(3,.int .i64 t.items.length)],h++([.arr 0 8 [t.enc]]++g))) ?_ ?_ [] trivial
 ·obtain ⟨o,h1,g,h2⟩:=hlp
  exact ⟨g,by rw [h1,h2]; simp⟩
 ·intro i x r g0 hd hi hx _ K hK
  have hwi:=t.wid_items
  have hw:=wrap_nat (n:=i + 1) (by omega)
  simp at hw
  obtain ⟨g,hin⟩:=rtwice_inner t ht i hi x (by rw [List.getElem?_eq_getElem hi,hx]) h g0
  have hany : ((t.items.take i).all fun y=>!eqS x.name y.name) = !((t.items.take i).map It.name).any fun y=>eqS x.name y:=by
   rw [all_not,List.any_map]; rfl
  rw [hany] at hin
  have hmin : min i t.items.length=i:=by omega
  have htk : t.items.take (i + 1)=t.items.take i++[x]:=by rw [List.take_succ_eq_append_getElem hi,hx]
  rw [htk] at hK
  rw [List.map_cons,rdup]
  cases q : ((t.items.take i).map It.name).any fun y=>eqS x.name y
  ·rw [q] at hin
   obtain ⟨o,h4,g2,h5⟩:=hK g trivial
   simp only [List.map_append,List.map_cons,List.map_nil] at h5
   refine ⟨o,?_,g2,by simpa only [Bool.false_or] using h5⟩
   simp [hmin] at hin
   simp at h4
   simp [c111L1,hi,hin,hw,h4]
  ·rw [q] at hin
   refine ⟨_,?_,g,by simp only [Bool.true_or,if_true]; rfl⟩
   simp at hin
   simp [c111L1,hi,hin]
 ·intro g K _
  refine ⟨_,?_,g,by simp only [List.map_nil,rdup,Bool.false_eq_true,if_false]; rfl⟩
  simp [c111L1]
theorem rtwice_ok (t : Ty) (ht : t.wid≤1048576) (ws : Nat) (h : Avm.H) : callL cfg ws 111 [t.enc] h=some (.bool (!difP t),h):=by
 refine callL_fn rfl rfl ?_
 unfold difP
 by_cases q0 : t.kind=3 ∨ t.kind=8 ∨ t.kind=9
 ·have hi : t.itemsOf=t.items:=by rcases q0 with q | q | q <;> simp [Ty.itemsOf,Ty.withItems,q]
  obtain ⟨g,hl⟩:=rtwice_outer t ht h
  have he:=rdup_eq (t.items.map It.name) []
  have hz : ((t.items.map It.name).any fun x=>([] : List ByteArray).any fun y=>eqS x y)=false:=by simp
  rw [hz,Bool.false_or] at he
  rw [he] at hl
  rw [hi]
  cases q1 : distinct (t.items.map It.name) <;> rw [q1] at hl <;> simp at hl <;> rcases q0 with q | q | q <;> simp [q] at hl <;> simp [F111,c111,hl,q]
 ·have n3 : ¬ t.kind=3:=fun e=>q0 (.inl e)
  have n8 : ¬ t.kind=8:=fun e=>q0 (.inr (.inl e))
  have n9 : ¬ t.kind=9:=fun e=>q0 (.inr (.inr e))
  have hi : t.itemsOf=[]:=by simp [Ty.itemsOf,Ty.withItems,n3,n8,n9]
  rw [hi]
  simp [F111,c111,n3,n8,n9,distinct]
theorem once_loop (t : Ty) (ht : t.wid≤1048576) (hb : t.nodes≤1048576) (h : Avm.H) : ∃ g,roundsL (evC (callL cfg) roundsL cfg.pol h.length h.length c61L0) [3,4] [(3,.isl (t.rall.map Ty.enc)),(4,.int .i64 (0 : Nat))] (h++([.arr 0 8 [t.enc]]++[]))=some (if (t.rall).all difP=true then (.exit 0,[(3,.isl (t.rall.map Ty.enc)),(4,.int .i64 (t.rall).length)],h++([.arr 0 8 [t.enc]]++g)) else (.ret,[(2,.bool false)],h++([.arr 0 8 [t.enc]]++g))):=by
 have hl : (t.rall).length≤1048576:=(by have:=rall_len _ t (Nat.le_refl _); omega)
 have hlp:=loop_post (γ:=Avm.H) (f:=evC (callL cfg) roundsL cfg.pol h.length h.length c61L0) (keep:=[3,4]) (t.rall) (fun _ _=>True)
     (fun i _=>[(3,.isl (t.rall.map Ty.enc)),(4,.int .i64 i)]) (fun _ g=>h++([.arr 0 8 [t.enc]]++g))
     (fun _ r o=>∃ g,o=if r.all difP=true then (.exit 0,[(3,.isl (t.rall.map Ty.enc)),(4,.int .i64 (t.rall).length)],h++([.arr 0 8 [t.enc]]++g)) else (.ret,[(2,.bool false)],h++([.arr 0 8 [t.enc]]++g))) ?_ ?_ [] trivial
 ·obtain ⟨o,h1,g,h2⟩:=hlp
  exact ⟨g,h2 ▸ h1⟩
 ·intro i x r g hd hi hx _ K hK
  have hw:=wrap_nat (n:=i + 1) (by omega)
  simp at hw
  have hm : x ∈ (t.rall):=by rw [← hx]; exact List.getElem_mem hi
  have hkn:=rtwice_ok x (Nat.le_trans (rall_wid _ t (Nat.le_refl _) x hm).1 ht)
  cases hv : difP x
  ·refine ⟨_,?_,g,by simp only [List.all_cons,hv,Bool.false_and,Bool.false_eq_true,if_false]; rfl⟩
   simp only [hv] at hkn
   simp at hkn
   simp [c61L0,hi,hx,hkn,]
  ·obtain ⟨o,h4,g2,h5⟩:=hK g trivial
   refine ⟨o,?_,g2,by simp only [List.all_cons,hv,Bool.true_and]; exact h5⟩
   simp at h4
   simp only [hv] at hkn
   simp at hkn
   simp [c61L0,hi,hx,hkn,hw,h4]
 ·intro g K _
  refine ⟨_,?_,g,by simp only [List.all_nil,if_true]; rfl⟩
  simp [c61L0]
theorem once_ok (t : Ty) (ht : t.wid≤1048576) (hb : t.nodes≤1048576) (ws : Nat) (h : Avm.H) : callL cfg ws 61 [t.enc] h=some (.bool (t.allP difP),h):=by
 have h1:=rall_ok _ t (Nat.le_refl _) ht hb
 obtain ⟨g,hl⟩:=once_loop t ht hb h
 rw [rall_all _ _ t (Nat.le_refl _)] at hl
 refine callL_fn rfl rfl ?_
 simp at h1
 cases q : t.allP difP <;> rw [q] at hl <;> simp at hl <;> simp [F61,c61,h1,hl]
end Go.Proofs.YteihdlcpfghmhaaGreatDoor
