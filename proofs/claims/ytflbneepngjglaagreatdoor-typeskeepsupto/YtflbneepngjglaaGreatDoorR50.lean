/- The document's SameType. -/
import Derived.Test.YtflbneepngjglaaGreatDoorR33
import Derived.Test.YtflbneepngjglaaGreatDoorR47
import Derived.Test.YtflbneepngjglaaGreatDoorR46
set_option linter.all false
namespace Go.Proofs.YtflbneepngjglaaGreatDoor
open Go Go.Avm
theorem copyON_ok : ∀ (n : Nat) (v : Val),v.nodes≤n→v.nodes≤67108864→∀ ws h,callL cfg ws 21 [v.enc] h=some (cpV h.length v,h++cpH v)
 | 0,v,hv,_,_,_=>by have:=v.nodes_pos; omega
 | n + 1,v,hv,hb,ws,h=>by
  have hlen:=len_less v
  refine callL_fn rfl rfl ?_
  have hlp:=loop_post (γ:=AV × Avm.H) (f:=evC (callL cfg) roundsL cfg.pol h.length h.length c21L0) (keep:=[1,2,3,4]) v.items
   (fun i c=>SlcIn h.length 3 4 c.2 ((v.items.take i).map Val.enc) c.1∧(c.1 = .esl ∨ v.items ≠ []))
   (fun i _=>[(1,.ptr h.length 0 4 0 0),(2,.ptr (h.length + 1) 0 4 0 0),(3,.ptr (h.length + 2) 0 4 0 0),(4,.int .i64 i)])
   (fun _ g=>h++([.arr 0 4 [v.enc],.arr 0 4 [.agg [.int .i64 0,.int .i64 0,.str ⟨#[]⟩,.esl]],.arr 0 4 [.agg [.int .i64 v.kind,.int .i64 v.int,.str v.bytes,g.1]]]++g.2))
   (fun _ _ o=>∃ v2 g,SlcIn h.length 3 4 g (v.items.map Val.enc) v2∧(v2 = .esl ∨ v.items ≠ [])∧o=(.exit 0,[(1,.ptr h.length 0 4 0 0),(2,.ptr (h.length + 1) 0 4 0 0),(3,.ptr (h.length + 2) 0 4 0 0),(4,.int .i64 v.items.length)],h++([.arr 0 4 [v.enc],.arr 0 4 [.agg [.int .i64 0,.int .i64 0,.str ⟨#[]⟩,.esl]],.arr 0 4 [.agg [.int .i64 v.kind,.int .i64 v.int,.str v.bytes,v2]]]++g))) ?_ ?_ (.esl,[]) ⟨.inl ⟨rfl,rfl⟩,.inl rfl⟩
  ·obtain ⟨o,hl,v2,g,hI,hne,ho⟩:=hlp
   subst ho
   rcases hI with ⟨he,rfl⟩ | ⟨j,ver,rfl,hj⟩
   ·have he : v.items=[]:=by simpa using he
    unfold cpV cpH
    rw [if_pos he,if_pos he]
    simp [he] at hl
    simp [F21,c21,he,hl]
   ·have he : v.items ≠ []:=by simpa using hne
    have hjl:=(List.getElem?_eq_some_iff.1 hj).1
    have hset : ∀ X : ABlock,(List.set g j X)[j]? = some X:=fun X=>List.getElem?_set_self hjl
    unfold cpV cpH
    rw [if_neg he,if_neg he]
    simp at hl
    simp [F21,c21,hl,hj,hset]
  ·intro j x r c2 hd hi hx hII K hK
   obtain ⟨hI,_⟩:=hII
   have hvne : v.items ≠ []:=fun e=>by rw [e] at hi; simp at hi
   have hw:=wrap_nat (n:=j + 1) (by omega)
   simp at hw
   have hm1 : x ∈ v.items:=by rw [← hx]; exact List.getElem_mem hi
   have hsz:=items_less hm1
   have ht : v.items.take (j + 1)=v.items.take j++[x]:=by rw [List.take_succ_eq_append_getElem hi,hx]
   have hll : (v.items.take j).length=j:=by simp; omega
   have hcl:=fun h'=>copyON_ok n x (by omega) (by omega) h.length h'
   rw [ht] at hK
   simp only [List.map_append] at hK
   obtain ⟨v1,g⟩:=c2
   generalize hls : v.items.take j=ls at hK hI hll
   by_cases hx0 : x.items=[]
   ·simp only [cpV,cpH,if_pos hx0] at hcl
    simp [hx0] at hcl
    rcases hI with ⟨he,hv⟩ | ⟨q,ver,hv,hj⟩
    ·dsimp only at hv
     subst hv
     have he : ls=[]:=by simpa using he
     subst he
     obtain ⟨o,h4,h5⟩:=hK (.osl (h.length + ((g.length + 1) + 3)) 0 4 0 1,g++[.arr 0 4 [x.enc],.arr 0 4 [x.enc]]) ⟨.inr ⟨g.length + 1,0,by simp,by simp⟩,.inr hvne⟩
     refine ⟨o,?_,h5⟩
     simp [hx0] at h4
     simp [c21L0,hi,hx,hx0,hcl,hw,bslP,appended,appI,h4]
    ·dsimp only at hv hj
     subst hv
     have hjl:=(List.getElem?_eq_some_iff.1 hj).1
     have hfl' : ls.length + 1≤4294967296:=by omega
     obtain ⟨o,h4,h5⟩:=hK (.osl (h.length + (q + 3)) (ver + 1) 4 0 (ls.length + 1),List.set (g++[ABlock.arr 0 4 [x.enc]]) q (ABlock.arr (ver + 1) 4 (ls.map Val.enc++[x.enc])))
      ⟨.inr ⟨q,ver + 1,by simp,by rw [List.getElem?_set_self (by simp; omega)]; simp⟩,.inr hvne⟩
     refine ⟨o,?_,h5⟩
     have hones : ∀ a ∈ ls,a.enc.cells.length=4:=fun a _=>by simp
     simp [hx0] at h4
     simp [c21L0,hi,hx,hx0,hcl,hw,bslP,appended,appI,h4,hj,hfl',List.getElem?_append_left hjl]
   ·simp only [cpV,cpH,if_neg hx0] at hcl
    simp at hcl
    rcases hI with ⟨he,hv⟩ | ⟨q,ver,hv,hj⟩
    ·dsimp only at hv
     subst hv
     have he : ls=[]:=by simpa using he
     subst he
     obtain ⟨o,h4,h5⟩:=hK (.osl (h.length + ((g.length + 1 + 1) + 3)) 0 4 0 1,g++[.dead 1,.arr 0 4 [x.enc],.arr 0 4 [x.enc]]) ⟨.inr ⟨g.length + 1 + 1,0,by simp,by rw [List.getElem?_append_right (by omega),show g.length + 1 + 1 - g.length=2 by omega]; simp⟩,.inr hvne⟩
     refine ⟨o,?_,h5⟩
     simp at h4
     simp [c21L0,hi,hx,hcl,hw,bslP,appended,appI,h4]
    ·dsimp only at hv hj
     subst hv
     have hjl:=(List.getElem?_eq_some_iff.1 hj).1
     have hfl' : ls.length + 1≤4294967296:=by omega
     obtain ⟨o,h4,h5⟩:=hK (.osl (h.length + (q + 3)) (ver + 1) 4 0 (ls.length + 1),List.set (g++[.dead 1,ABlock.arr 0 4 [x.enc]]) q (ABlock.arr (ver + 1) 4 (ls.map Val.enc++[x.enc])))
      ⟨.inr ⟨q,ver + 1,by simp,by rw [List.getElem?_set_self (by simp; omega)]; simp⟩,.inr hvne⟩
     refine ⟨o,?_,h5⟩
     have hones : ∀ a ∈ ls,a.enc.cells.length=4:=fun a _=>by simp
     simp at h4
     simp [c21L0,hi,hx,hcl,hw,bslP,appended,appI,h4,hj,hfl',List.getElem?_append_left hjl]
  ·intro c2 K hI
   refine ⟨_,?_,c2.1,c2.2,by simpa using hI.1,hI.2,rfl⟩
   simp [c21L0]
end Go.Proofs.YtflbneepngjglaaGreatDoor
namespace Go.Proofs.YtflbneepngjglaaGreatDoor
open Go Go.Avm
theorem copyOA_ok (v : Val) (hb : v.nodes≤67108864) (L : Nat) (ws : Nat) (h : Avm.H) (hL : h[L]? = some (ocB v)) : callL cfg ws 21 [ocV L v] h=some (cpV h.length v,h++cpH v):=by
    have hLL : ∀ X,(h++X)[L]? = some (.arr 0 4 (v.items.map Val.enc)):=fun X=>by rw [List.getElem?_append_left (List.getElem?_eq_some_iff.1 hL).1]; exact hL
    have hlen:=len_less v
    refine callL_fn rfl rfl ?_
    unfold ocV
    have hlp:=loop_post (γ:=AV × Avm.H) (f:=evC (callL cfg) roundsL cfg.pol h.length h.length c21L0) (keep:=[1,2,3,4]) v.items
     (fun i c=>SlcIn h.length 3 4 c.2 ((v.items.take i).map Val.enc) c.1∧(c.1 = .esl ∨ v.items ≠ []))
     (fun i _=>[(1,.ptr h.length 0 4 0 0),(2,.ptr (h.length + 1) 0 4 0 0),(3,.ptr (h.length + 2) 0 4 0 0),(4,.int .i64 i)])
     (fun _ g=>h++([.arr 0 4 [.agg [.int .i64 v.kind,.int .i64 v.int,.str v.bytes,.osl L 0 4 0 v.items.length]],.arr 0 4 [.agg [.int .i64 0,.int .i64 0,.str ⟨#[]⟩,.esl]],.arr 0 4 [.agg [.int .i64 v.kind,.int .i64 v.int,.str v.bytes,g.1]]]++g.2))
     (fun _ _ o=>∃ v2 g,SlcIn h.length 3 4 g (v.items.map Val.enc) v2∧(v2 = .esl ∨ v.items ≠ [])∧o=(.exit 0,[(1,.ptr h.length 0 4 0 0),(2,.ptr (h.length + 1) 0 4 0 0),(3,.ptr (h.length + 2) 0 4 0 0),(4,.int .i64 v.items.length)],h++([.arr 0 4 [.agg [.int .i64 v.kind,.int .i64 v.int,.str v.bytes,.osl L 0 4 0 v.items.length]],.arr 0 4 [.agg [.int .i64 0,.int .i64 0,.str ⟨#[]⟩,.esl]],.arr 0 4 [.agg [.int .i64 v.kind,.int .i64 v.int,.str v.bytes,v2]]]++g))) ?_ ?_ (.esl,[]) ⟨.inl ⟨rfl,rfl⟩,.inl rfl⟩
    ·obtain ⟨o,hl,v2,g,hI,hne,ho⟩:=hlp
     subst ho
     rcases hI with ⟨he,rfl⟩ | ⟨j,ver,rfl,hj⟩
     ·have he : v.items=[]:=by simpa using he
      unfold cpV cpH
      rw [if_pos he,if_pos he]
      simp [he] at hl
      simp [F21,c21,he,hl]
     ·have he : v.items ≠ []:=by simpa using hne
      have hjl:=(List.getElem?_eq_some_iff.1 hj).1
      have hset : ∀ X : ABlock,(List.set g j X)[j]? = some X:=fun X=>List.getElem?_set_self hjl
      unfold cpV cpH
      rw [if_neg he,if_neg he]
      simp at hl
      simp [F21,c21,hl,hj,hset]
    ·intro j x r c2 hd hi hx hII K hK
     obtain ⟨hI,_⟩:=hII
     have hvne : v.items ≠ []:=fun e=>by rw [e] at hi; simp at hi
     have hw:=wrap_nat (n:=j + 1) (by omega)
     simp at hw
     have hm1 : x ∈ v.items:=by rw [← hx]; exact List.getElem_mem hi
     have hsz:=items_less hm1
     have ht : v.items.take (j + 1)=v.items.take j++[x]:=by rw [List.take_succ_eq_append_getElem hi,hx]
     have hll : (v.items.take j).length=j:=by simp; omega
     have hcl:=fun h'=>copyON_ok _ x (Nat.le_refl _) (by omega) h.length h'
     rw [ht] at hK
     simp only [List.map_append] at hK
     obtain ⟨v1,g⟩:=c2
     generalize hls : v.items.take j=ls at hK hI hll
     by_cases hx0 : x.items=[]
     ·simp only [cpV,cpH,if_pos hx0] at hcl
      simp [hx0] at hcl
      rcases hI with ⟨he,hv⟩ | ⟨q,ver,hv,hj⟩
      ·dsimp only at hv
       subst hv
       have he : ls=[]:=by simpa using he
       subst he
       obtain ⟨o,h4,h5⟩:=hK (.osl (h.length + ((g.length + 1) + 3)) 0 4 0 1,g++[.arr 0 4 [x.enc],.arr 0 4 [x.enc]]) ⟨.inr ⟨g.length + 1,0,by simp,by simp⟩,.inr hvne⟩
       refine ⟨o,?_,h5⟩
       simp [hx0] at h4
       simp [c21L0,hLL,hi,hx,hx0,hcl,hw,bslP,appended,appI,h4]
      ·dsimp only at hv hj
       subst hv
       have hjl:=(List.getElem?_eq_some_iff.1 hj).1
       have hfl' : ls.length + 1≤4294967296:=by omega
       obtain ⟨o,h4,h5⟩:=hK (.osl (h.length + (q + 3)) (ver + 1) 4 0 (ls.length + 1),List.set (g++[ABlock.arr 0 4 [x.enc]]) q (ABlock.arr (ver + 1) 4 (ls.map Val.enc++[x.enc])))
        ⟨.inr ⟨q,ver + 1,by simp,by rw [List.getElem?_set_self (by simp; omega)]; simp⟩,.inr hvne⟩
       refine ⟨o,?_,h5⟩
       have hones : ∀ a ∈ ls,a.enc.cells.length=4:=fun a _=>by simp
       simp [hx0] at h4
       simp [c21L0,hLL,hi,hx,hx0,hcl,hw,bslP,appended,appI,h4,hj,hfl',List.getElem?_append_left hjl]
     ·simp only [cpV,cpH,if_neg hx0] at hcl
      simp at hcl
      rcases hI with ⟨he,hv⟩ | ⟨q,ver,hv,hj⟩
      ·dsimp only at hv
       subst hv
       have he : ls=[]:=by simpa using he
       subst he
       obtain ⟨o,h4,h5⟩:=hK (.osl (h.length + ((g.length + 1 + 1) + 3)) 0 4 0 1,g++[.dead 1,.arr 0 4 [x.enc],.arr 0 4 [x.enc]]) ⟨.inr ⟨g.length + 1 + 1,0,by simp,by rw [List.getElem?_append_right (by omega),show g.length + 1 + 1 - g.length=2 by omega]; simp⟩,.inr hvne⟩
       refine ⟨o,?_,h5⟩
       simp at h4
       simp [c21L0,hLL,hi,hx,hcl,hw,bslP,appended,appI,h4]
      ·dsimp only at hv hj
       subst hv
       have hjl:=(List.getElem?_eq_some_iff.1 hj).1
       have hfl' : ls.length + 1≤4294967296:=by omega
       obtain ⟨o,h4,h5⟩:=hK (.osl (h.length + (q + 3)) (ver + 1) 4 0 (ls.length + 1),List.set (g++[.dead 1,ABlock.arr 0 4 [x.enc]]) q (ABlock.arr (ver + 1) 4 (ls.map Val.enc++[x.enc])))
        ⟨.inr ⟨q,ver + 1,by simp,by rw [List.getElem?_set_self (by simp; omega)]; simp⟩,.inr hvne⟩
       refine ⟨o,?_,h5⟩
       have hones : ∀ a ∈ ls,a.enc.cells.length=4:=fun a _=>by simp
       simp at h4
       simp [c21L0,hLL,hi,hx,hcl,hw,bslP,appended,appI,h4,hj,hfl',List.getElem?_append_left hjl]
    ·intro c2 K hI
     refine ⟨_,?_,c2.1,c2.2,by simpa using hI.1,hI.2,rfl⟩
     simp [c21L0,hLL]
end Go.Proofs.YtflbneepngjglaaGreatDoor
namespace Go.Proofs.YtflbneepngjglaaGreatDoor
open Go Go.Avm
theorem rst_dflt (base : Nat) (HH : Avm.H) (bx bz : Nat) (A B C : AV) (x y : It) (hx : HH[bx]? = some (.arr 0 12 [x.enc])) (hy : HH[bz]? = some (.arr 0 12 [y.enc])) (hl : x.dflt.length=y.dflt.length) (hlen : x.dflt.length≤67108864) (hb : ∀ d ∈ x.dflt,d.size≤67108864) :
    roundsL (evC (callL cfg) roundsL cfg.pol base base c24L0) [2,3,5,6,7,8] [(2,A),(3,B),(5,C),(6,.ptr bx 0 12 0 0),(7,.ptr bz 0 12 0 0),(8,.int .i64 (0 : Nat))] HH =
     some (if eqL Val.same x.dflt y.dflt=true then (.exit 2,[(2,A),(3,B),(5,C),(6,.ptr bx 0 12 0 0),(7,.ptr bz 0 12 0 0),(8,.int .i64 x.dflt.length)],HH) else (.ret,[(4,.bool false)],HH)):=by
 have hlp:=loop_list (f:=evC (callL cfg) roundsL cfg.pol base base c24L0) (keep:=[2,3,5,6,7,8]) x.dflt
  (fun i=>[(2,A),(3,B),(5,C),(6,.ptr bx 0 12 0 0),(7,.ptr bz 0 12 0 0),(8,.int .i64 i)]) (fun _=>HH)
  (fun j r=>if eqL Val.same r (y.dflt.drop j)=true then (.exit 2,[(2,A),(3,B),(5,C),(6,.ptr bx 0 12 0 0),(7,.ptr bz 0 12 0 0),(8,.int .i64 x.dflt.length)],HH) else (.ret,[(4,.bool false)],HH)) ?_ ?_
 ·simpa using hlp
 ·intro j d r hd hi hxx K hK
  have hw:=wrap_nat (n:=j + 1) (by omega)
  simp at hw
  have him : j < y.dflt.length:=by omega
  have hdm : y.dflt.drop j=y.dflt[j] :: y.dflt.drop (j + 1):=List.drop_eq_getElem_cons him
  rw [hdm]
  have hm1 : d ∈ x.dflt:=by rw [← hxx]; exact List.getElem_mem hi
  obtain ⟨e,he⟩ : ∃ e,y.dflt[j]=e:=⟨_,rfl⟩
  have hcl:=fun h'=>rsameV_ok _ d e (Nat.le_refl _) (hb d hm1) base h'
  rw [he]
  simp at hcl
  rw [eqL]
  simp only [It.enc_eq] at hx hy
  cases hs : d.same e
  ·rw [hs] at hcl
   simp [c24L0,hi,hxx,him,he,hcl,hx,hy]
  ·rw [hs] at hcl
   simp at hK
   simp [c24L0,hi,hxx,him,he,hcl,hx,hy,hw,hK]
 ·intro K
  have : y.dflt.drop x.dflt.length=[]:=by rw [hl]; simp
  rw [this]
  simp only [It.enc_eq] at hx hy
  simp [c24L0,eqL,hx,hy]
theorem rst_kids (t u : Ty) (h : Avm.H) (g : Avm.H) (hl : t.kids.length=u.kids.length) (hlen : t.kids.length≤67108864) (ih : ∀ x ∈ t.kids,∀ y ws h,callL cfg ws 24 [x.enc,y.enc] h=some (.bool (x.same y),h)) :
    roundsL (evC (callL cfg) roundsL cfg.pol h.length h.length c24L2) [2,3,9] [(2,.ptr h.length 0 8 0 0),(3,.ptr (h.length + 1) 0 8 0 0),(9,.int .i64 (0 : Nat))] (h++([.arr 0 8 [t.enc],.arr 0 8 [u.enc]]++g)) =
     some (if eqL Ty.same t.kids u.kids=true then (.exit 4,[(2,.ptr h.length 0 8 0 0),(3,.ptr (h.length + 1) 0 8 0 0),(9,.int .i64 t.kids.length)],h++([.arr 0 8 [t.enc],.arr 0 8 [u.enc]]++g)) else (.ret,[(4,.bool false)],h++([.arr 0 8 [t.enc],.arr 0 8 [u.enc]]++g))):=by
 have hlp:=loop_list (f:=evC (callL cfg) roundsL cfg.pol h.length h.length c24L2) (keep:=[2,3,9]) t.kids
  (fun i=>[(2,.ptr h.length 0 8 0 0),(3,.ptr (h.length + 1) 0 8 0 0),(9,.int .i64 i)]) (fun _=>h++([.arr 0 8 [t.enc],.arr 0 8 [u.enc]]++g))
  (fun j r=>if eqL Ty.same r (u.kids.drop j)=true then (.exit 4,[(2,.ptr h.length 0 8 0 0),(3,.ptr (h.length + 1) 0 8 0 0),(9,.int .i64 t.kids.length)],h++([.arr 0 8 [t.enc],.arr 0 8 [u.enc]]++g)) else (.ret,[(4,.bool false)],h++([.arr 0 8 [t.enc],.arr 0 8 [u.enc]]++g))) ?_ ?_
 ·simpa using hlp
 ·intro j x r hd hi hxx K hK
  have hw:=wrap_nat (n:=j + 1) (by omega)
  simp at hw
  have him : j < u.kids.length:=by omega
  have hdm : u.kids.drop j=u.kids[j] :: u.kids.drop (j + 1):=List.drop_eq_getElem_cons him
  rw [hdm]
  have hm1 : x ∈ t.kids:=by rw [← hxx]; exact List.getElem_mem hi
  obtain ⟨e,he⟩ : ∃ e,u.kids[j]=e:=⟨_,rfl⟩
  have hcl:=fun h'=>ih x hm1 e h.length h'
  rw [he]
  simp at hcl
  rw [eqL]
  cases hs : x.same e
  ·rw [hs] at hcl
   simp [c24L2,hi,hxx,him,he,hcl]
  ·rw [hs] at hcl
   simp at hK
   simp [c24L2,hi,hxx,him,he,hcl,hw,hK]
 ·intro K
  have : u.kids.drop t.kids.length=[]:=by rw [hl]; simp
  rw [this]
  simp [c24L2,eqL]
theorem rst_items (t u : Ty) (h : Avm.H) (hl : t.items.length=u.items.length) (hwt : t.wid≤67108864) (ih : ∀ x ∈ t.items,∀ y : Ty,∀ ws h,callL cfg ws 24 [x.of.enc,y.enc] h=some (.bool (x.of.same y),h)) :
    ∃ g,roundsL (evC (callL cfg) roundsL cfg.pol h.length h.length c24L1) [2,3,5] [(2,.ptr h.length 0 8 0 0),(3,.ptr (h.length + 1) 0 8 0 0),(5,.int .i64 (0 : Nat))] (h++([.arr 0 8 [t.enc],.arr 0 8 [u.enc]]++[])) =
     some (if eqL It.same t.items u.items=true then (.exit 0,[(2,.ptr h.length 0 8 0 0),(3,.ptr (h.length + 1) 0 8 0 0),(5,.int .i64 t.items.length)],h++([.arr 0 8 [t.enc],.arr 0 8 [u.enc]]++g)) else (.ret,[(4,.bool false)],h++([.arr 0 8 [t.enc],.arr 0 8 [u.enc]]++g))):=by
 have hwi:=t.wid_items
 have hlp:=loop_post (γ:=Avm.H) (f:=evC (callL cfg) roundsL cfg.pol h.length h.length c24L1) (keep:=[2,3,5]) t.items (fun _ _=>True)
  (fun i _=>[(2,.ptr h.length 0 8 0 0),(3,.ptr (h.length + 1) 0 8 0 0),(5,.int .i64 i)]) (fun _ g=>h++([.arr 0 8 [t.enc],.arr 0 8 [u.enc]]++g))
  (fun j r o=>∃ g,o=if eqL It.same r (u.items.drop j)=true then (.exit 0,[(2,.ptr h.length 0 8 0 0),(3,.ptr (h.length + 1) 0 8 0 0),(5,.int .i64 t.items.length)],h++([.arr 0 8 [t.enc],.arr 0 8 [u.enc]]++g)) else (.ret,[(4,.bool false)],h++([.arr 0 8 [t.enc],.arr 0 8 [u.enc]]++g))) ?_ ?_ [] trivial
 ·obtain ⟨o,h1,g,rfl⟩:=hlp
  exact ⟨g,by simpa using h1⟩
 ·intro j x r g hd hi hxx _ K hK
  have hw:=wrap_nat (n:=j + 1) (by omega)
  simp at hw
  have him : j < u.items.length:=by omega
  have hdm : u.items.drop j=u.items[j] :: u.items.drop (j + 1):=List.drop_eq_getElem_cons him
  have hm1 : x ∈ t.items:=by rw [← hxx]; exact List.getElem_mem hi
  obtain ⟨y,hy⟩ : ∃ y,u.items[j]=y:=⟨_,rfl⟩
  have hcl:=fun h'=>ih x hm1 y.of h.length h'
  have hwx:=Ty.wid_item hm1
  have hwd:=x.wid_dflt
  rw [hdm,hy]
  obtain ⟨o,h4,g2,h5⟩:=hK (g++[.arr 0 12 [x.enc],.arr 0 12 [y.enc]]) trivial
  by_cases q1 : x.name.toList=y.name.toList
  ·by_cases q2 : x.opt=y.opt
   ·by_cases q3 : x.extra=y.extra
    ·by_cases q4 : x.dflt.length=y.dflt.length
     ·have q4i : (x.dflt.length : Int)=y.dflt.length:=by omega
      cases q5 : x.of.same y.of
      ·refine ⟨_,?_,g++[.arr 0 12 [x.enc],.arr 0 12 [y.enc]],(if_neg (by rw [eqL]; unfold It.same; rw [q5]; simp)).symm⟩
       rw [q5] at hcl
       simp at hcl
       simp [c24L1,hi,hxx,him,hy,hcl,q1,q2,q3,q4i]
      ·rw [q5] at hcl
       have hin:=rst_dflt h.length (h++([.arr 0 8 [t.enc],.arr 0 8 [u.enc]]++(g++[.arr 0 12 [x.enc],.arr 0 12 [y.enc]]))) (h.length + (g.length + 1 + 1)) (h.length + (g.length + 1 + 1 + 1)) (.ptr h.length 0 8 0 0) (.ptr (h.length + 1) 0 8 0 0) (.int .i64 j) x y
        (by rw [heap_get]; simp) (by rw [heap_get]; simp) q4 (by omega) (fun d hdm=>by have:=It.wid_val hdm; omega)
       cases q6 : eqL Val.same x.dflt y.dflt
       ·refine ⟨_,?_,g++[.arr 0 12 [x.enc],.arr 0 12 [y.enc]],(if_neg (by rw [eqL]; unfold It.same; rw [q6]; simp)).symm⟩
        rw [q6] at hin
        simp at hcl hin
        simp [q2,q3] at hin
        simp [c24L1,hi,hxx,him,hy,hcl,q1,q2,q3,q4i,hin]
       ·refine ⟨o,?_,g2,by
          rw [h5,eqL]
          have : x.same y=true:=by unfold It.same; simp [q1,q2,q3,q5,q6]
          rw [this,Bool.true_and]⟩
        rw [q6] at hin
        simp at hcl hin h4
        simp [q2,q3] at hin h4
        simp [c24L1,hi,hxx,him,hy,hcl,q1,q2,q3,q4i,hin,hw,h4]
     ·have hsd : eqL Val.same x.dflt y.dflt=false:=by
        cases hs : eqL Val.same x.dflt y.dflt with
        | false=>rfl
        | true=>exact absurd (eqL_len hs) q4
      refine ⟨_,?_,g++[.arr 0 12 [x.enc],.arr 0 12 [y.enc]],(if_neg (by rw [eqL]; unfold It.same; rw [hsd]; simp)).symm⟩
      have q4i : ¬ (x.dflt.length : Int)=y.dflt.length:=by omega
      simp [c24L1,hi,hxx,him,hy,q1,q2,q3,q4i]
    ·refine ⟨_,?_,g++[.arr 0 12 [x.enc],.arr 0 12 [y.enc]],(if_neg (by rw [eqL]; unfold It.same; simp [q3])).symm⟩
     simp [c24L1,hi,hxx,him,hy,q1,q2,q3]
   ·refine ⟨_,?_,g++[.arr 0 12 [x.enc],.arr 0 12 [y.enc]],(if_neg (by rw [eqL]; unfold It.same; simp [q2])).symm⟩
    simp [c24L1,hi,hxx,him,hy,q1,q2]
  ·refine ⟨_,?_,g++[.arr 0 12 [x.enc],.arr 0 12 [y.enc]],(if_neg (by rw [eqL]; unfold It.same; simp [q1])).symm⟩
   simp [c24L1,hi,hxx,him,hy,q1]
 ·intro g K _
  have : u.items.drop t.items.length=[]:=by rw [hl]; simp
  refine ⟨_,?_,g,by rw [this,eqL,if_pos rfl]⟩
  simp [c24L1]
set_option maxHeartbeats 3000000 in
theorem rsameT_ok : ∀ (n : Nat) (t u : Ty),t.size≤n→t.wid≤67108864→∀ ws h,callL cfg ws 24 [t.enc,u.enc] h=some (.bool (t.same u),h)
 | 0,t,_,ht,_,_,_=>by have:=t.size_pos; omega
 | n + 1,t,u,ht,hb,ws,h=>by
  have hl1:=t.wid_items
  have hl2:=t.wid_kids
  refine callL_fn rfl rfl ?_
  rw [Ty.same_eq]
  by_cases q1 : t.kind=u.kind
  ·by_cases q2 : t.name.toList=u.name.toList
   ·by_cases q3 : t.lo=u.lo
    ·by_cases q4 : t.hi=u.hi
     ·by_cases q5 : t.free=u.free
      ·by_cases q6 : t.ext=u.ext
       ·by_cases q7 : t.items.length=u.items.length
        ·by_cases q8 : t.kids.length=u.kids.length
         ·obtain ⟨g,e1⟩:=rst_items t u h q7 hb (fun x hx y ws h=>rsameT_ok n x.of y (by have:=Ty.mem_of hx; omega) (by have:=Ty.wid_itof hx; omega) ws h)
          have e2:=rst_kids t u h g q8 (by omega) (fun x hx y ws h=>rsameT_ok n x y (by have:=Ty.mem_kids hx; omega) (by have:=Ty.wid_kid hx; omega) ws h)
          cases q9 : eqL It.same t.items u.items
          ·rw [q9] at e1
           simp at e1
           simp [F24,c24,q1,q2,q3,q4,q5,q6,q7,q8]
           simp [q1,q2,q3,q4,q5,q6,q7,q8] at e1
           simp [e1]
          ·rw [q9] at e1
           cases q10 : eqL Ty.same t.kids u.kids
           ·rw [q10] at e2
            simp at e1 e2
            simp [F24,c24,q1,q2,q3,q4,q5,q6,q7,q8]
            simp [q1,q2,q3,q4,q5,q6,q7,q8] at e1 e2
            simp [e1,e2]
           ·rw [q10] at e2
            simp at e1 e2
            simp [F24,c24,q1,q2,q3,q4,q5,q6,q7,q8]
            simp [q1,q2,q3,q4,q5,q6,q7,q8] at e1 e2
            simp [e1,e2]
         ·have hs : eqL Ty.same t.kids u.kids=false:=by
            cases hs : eqL Ty.same t.kids u.kids with
            | false=>rfl
            | true=>exact absurd (eqL_len hs) q8
          have q8i : ¬ (t.kids.length : Int)=u.kids.length:=by omega
          rw [hs]
          simp [F24,c24,q1,q2,q3,q4,q5,q6,q7,q8i]
        ·have hs : eqL It.same t.items u.items=false:=by
           cases hs : eqL It.same t.items u.items with
           | false=>rfl
           | true=>exact absurd (eqL_len hs) q7
         have q7i : ¬ (t.items.length : Int)=u.items.length:=by omega
         rw [hs]
         simp [F24,c24,q1,q2,q3,q4,q5,q6,q7i]
       ·simp [F24,c24,q1,q2,q3,q4,q5,q6]
      ·simp [F24,c24,q1,q2,q3,q4,q5]
     ·simp [F24,c24,q1,q2,q3,q4]
    ·simp [F24,c24,q1,q2,q3]
   ·simp [F24,c24,q1,q2]
  ·simp [F24,c24,q1]
end Go.Proofs.YtflbneepngjglaaGreatDoor
