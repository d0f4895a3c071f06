/- Values made plain: the document's plainDefault. -/
import Derived.Test.YtflbneepngjglaaGreatDoorM48
set_option linter.all false
namespace Go.Proofs.YtflbneepngjglaaGreatDoor
open Go Go.Avm
theorem rst_dflt (base : Nat) (HH : Avm.H) (bx bz : Nat) (A B C : AV) (x y : It) (hx : HH[bx]? = some (.arr 0 12 [x.enc])) (hy : HH[bz]? = some (.arr 0 12 [y.enc])) (hl : x.Qv.length=y.Qv.length) (hlen : x.Qv.length<=1048576) (hb : ∀ d ∈ x.Qv,d.size<=1048576) :
    Qa (evC (Qb cfg) Qa cfg.pol base base c24L0) [2,3,5,6,7,8] [(2,A),(3,B),(5,C),(6,.ptr bx 0 12 0 0),(7,.ptr bz 0 12 0 0),(8,.int .i64 (0 : Nat))] HH =
     some (if eqL Val.same x.Qv y.Qv=true then (.exit 2,[(2,A),(3,B),(5,C),(6,.ptr bx 0 12 0 0),(7,.ptr bz 0 12 0 0),(8,.int .i64 x.Qv.length)],HH) else (.ret,[(4,.bool false)],HH)):=by
 have hlp:=Qz (f:=evC (Qb cfg) Qa cfg.pol base base c24L0) (keep:=[2,3,5,6,7,8]) x.Qv
  (fun i=>[(2,A),(3,B),(5,C),(6,.ptr bx 0 12 0 0),(7,.ptr bz 0 12 0 0),(8,.int .i64 i)]) (fun _=>HH)
  (fun j r=>if eqL Val.same r (y.Qv.drop j)=true then (.exit 2,[(2,A),(3,B),(5,C),(6,.ptr bx 0 12 0 0),(7,.ptr bz 0 12 0 0),(8,.int .i64 x.Qv.length)],HH) else (.ret,[(4,.bool false)],HH)) ?_ ?_
 ·simpa using hlp
 ·intro j d r hd hi hxx K hK
  have hw:=Qd (n:=j + 1) (by omega)
  simp at hw
  have him : j < y.Qv.length:=by omega
  have hdm : y.Qv.drop j=y.Qv[j] :: y.Qv.drop (j + 1):=List.drop_eq_getElem_cons him
  rw [hdm]
  have hm1 : d ∈ x.Qv:=by rw [← hxx]; exact List.getElem_mem hi
  obtain ⟨e,he⟩ : ∃ e,y.Qv[j]=e:=⟨_,rfl⟩
  have hcl:=fun h'=>rsameV_ok _ d e (Nat.le_refl _) (hb d hm1) base h'
  rw [he]
  simp at hcl
  rw [eqL]
  simp only [It.enc_eq] at hx hy
  cases hs : d.same e
  ·rw [hs] at hcl
   simp [c24L0,hi,hxx,him,he,hcl,hx,hy]
  ·rw [hs] at hcl
   simp at hK
   simp [c24L0,hi,hxx,him,he,hcl,hx,hy,hw,hK]
 ·intro K
  have : y.Qv.drop x.Qv.length=[]:=by rw [hl]; simp
  rw [this]
  simp only [It.enc_eq] at hx hy
  simp [c24L0,eqL,hx,hy]
theorem rst_kids (t u : Ty) (h : Avm.H) (g : Avm.H) (hl : t.kids.length=u.kids.length) (hlen : t.kids.length<=1048576) (ih : ∀ x ∈ t.kids,∀ y ws h,Qb cfg ws 24 [x.enc,y.enc] h=some (.bool (x.same y),h)) :
    Qa (evC (Qb cfg) Qa cfg.pol h.length h.length c24L2) [2,3,9] [(2,.ptr h.length 0 8 0 0),(3,.ptr (h.length + 1) 0 8 0 0),(9,.int .i64 (0 : Nat))] (h++([.arr 0 8 [t.enc],.arr 0 8 [u.enc]]++g)) =
     some (if eqL Ty.same t.kids u.kids=true then (.exit 4,[(2,.ptr h.length 0 8 0 0),(3,.ptr (h.length + 1) 0 8 0 0),(9,.int .i64 t.kids.length)],h++([.arr 0 8 [t.enc],.arr 0 8 [u.enc]]++g)) else (.ret,[(4,.bool false)],h++([.arr 0 8 [t.enc],.arr 0 8 [u.enc]]++g))):=by
 have hlp:=Qz (f:=evC (Qb cfg) Qa cfg.pol h.length h.length c24L2) (keep:=[2,3,9]) t.kids
  (fun i=>[(2,.ptr h.length 0 8 0 0),(3,.ptr (h.length + 1) 0 8 0 0),(9,.int .i64 i)]) (fun _=>h++([.arr 0 8 [t.enc],.arr 0 8 [u.enc]]++g))
  (fun j r=>if eqL Ty.same r (u.kids.drop j)=true then (.exit 4,[(2,.ptr h.length 0 8 0 0),(3,.ptr (h.length + 1) 0 8 0 0),(9,.int .i64 t.kids.length)],h++([.arr 0 8 [t.enc],.arr 0 8 [u.enc]]++g)) else (.ret,[(4,.bool false)],h++([.arr 0 8 [t.enc],.arr 0 8 [u.enc]]++g))) ?_ ?_
 ·simpa using hlp
 ·intro j x r hd hi hxx K hK
  have hw:=Qd (n:=j + 1) (by omega)
  simp at hw
  have him : j < u.kids.length:=by omega
  have hdm : u.kids.drop j=u.kids[j] :: u.kids.drop (j + 1):=List.drop_eq_getElem_cons him
  rw [hdm]
  have hm1 : x ∈ t.kids:=by rw [← hxx]; exact List.getElem_mem hi
  obtain ⟨e,he⟩ : ∃ e,u.kids[j]=e:=⟨_,rfl⟩
  have hcl:=fun h'=>ih x hm1 e h.length h'
  rw [he]
  simp at hcl
  rw [eqL]
  cases hs : x.same e
  ·rw [hs] at hcl
   simp [c24L2,hi,hxx,him,he,hcl]
  ·rw [hs] at hcl
   simp at hK
   simp [c24L2,hi,hxx,him,he,hcl,hw,hK]
 ·intro K
  have : u.kids.drop t.kids.length=[]:=by rw [hl]; simp
  rw [this]
  simp [c24L2,eqL]
theorem rst_items (t u : Ty) (h : Avm.H) (hl : t.items.length=u.items.length) (hwt : t.wid<=1048576) (ih : ∀ x ∈ t.items,∀ y : Ty,∀ ws h,Qb cfg ws 24 [x.of.enc,y.enc] h=some (.bool (x.of.same y),h)) :
    ∃ g,Qa (evC (Qb cfg) Qa cfg.pol h.length h.length c24L1) [2,3,5] [(2,.ptr h.length 0 8 0 0),(3,.ptr (h.length + 1) 0 8 0 0),(5,.int .i64 (0 : Nat))] (h++([.arr 0 8 [t.enc],.arr 0 8 [u.enc]]++[])) =
     some (if eqL It.same t.items u.items=true then (.exit 0,[(2,.ptr h.length 0 8 0 0),(3,.ptr (h.length + 1) 0 8 0 0),(5,.int .i64 t.items.length)],h++([.arr 0 8 [t.enc],.arr 0 8 [u.enc]]++g)) else (.ret,[(4,.bool false)],h++([.arr 0 8 [t.enc],.arr 0 8 [u.enc]]++g))):=by
 have hwi:=t.Qe
 have hlp:=Qi (γ:=Avm.H) (f:=evC (Qb cfg) Qa cfg.pol h.length h.length c24L1) (keep:=[2,3,5]) t.items (fun _ _=>True)
  (fun i _=>[(2,.ptr h.length 0 8 0 0),(3,.ptr (h.length + 1) 0 8 0 0),(5,.int .i64 i)]) (fun _ g=>h++([.arr 0 8 [t.enc],.arr 0 8 [u.enc]]++g))
  (fun j r o=>∃ g,o=if eqL It.same r (u.items.drop j)=true then (.exit 0,[(2,.ptr h.length 0 8 0 0),(3,.ptr (h.length + 1) 0 8 0 0),(5,.int .i64 t.items.length)],h++([.arr 0 8 [t.enc],.arr 0 8 [u.enc]]++g)) else (.ret,[(4,.bool false)],h++([.arr 0 8 [t.enc],.arr 0 8 [u.enc]]++g))) ?_ ?_ [] trivial
 ·obtain ⟨o,h1,g,rfl⟩:=hlp
  exact ⟨g,by simpa using h1⟩
 ·intro j x r g hd hi hxx _ K hK
  have hw:=Qd (n:=j + 1) (by omega)
  simp at hw
  have him : j < u.items.length:=by omega
  have hdm : u.items.drop j=u.items[j] :: u.items.drop (j + 1):=List.drop_eq_getElem_cons him
  have hm1 : x ∈ t.items:=by rw [← hxx]; exact List.getElem_mem hi
  obtain ⟨y,hy⟩ : ∃ y,u.items[j]=y:=⟨_,rfl⟩
  have hcl:=fun h'=>ih x hm1 y.of h.length h'
  have hwx:=Ty.wid_item hm1
  have hwd:=x.wid_dflt
  rw [hdm,hy]
  obtain ⟨o,h4,g2,h5⟩:=hK (g++[.arr 0 12 [x.enc],.arr 0 12 [y.enc]]) trivial
  by_cases q1 : x.name.toList=y.name.toList
  ·by_cases q2 : x.opt=y.opt
   ·by_cases q3 : x.extra=y.extra
    ·by_cases q4 : x.Qv.length=y.Qv.length
     ·have q4i : (x.Qv.length : Int)=y.Qv.length:=by omega
      cases q5 : x.of.same y.of
      ·refine ⟨_,?_,g++[.arr 0 12 [x.enc],.arr 0 12 [y.enc]],(if_neg (by rw [eqL]; unfold It.same; rw [q5]; simp)).symm⟩
       rw [q5] at hcl
       simp at hcl
       simp [c24L1,hi,hxx,him,hy,hcl,q1,q2,q3,q4i]
      ·rw [q5] at hcl
       have hin:=rst_dflt h.length (h++([.arr 0 8 [t.enc],.arr 0 8 [u.enc]]++(g++[.arr 0 12 [x.enc],.arr 0 12 [y.enc]]))) (h.length + (g.length + 1 + 1)) (h.length + (g.length + 1 + 1 + 1)) (.ptr h.length 0 8 0 0) (.ptr (h.length + 1) 0 8 0 0) (.int .i64 j) x y
        (by rw [heap_get]; simp) (by rw [heap_get]; simp) q4 (by omega) (fun d hdm=>by have:=It.wid_val hdm; omega)
       cases q6 : eqL Val.same x.Qv y.Qv
       ·refine ⟨_,?_,g++[.arr 0 12 [x.enc],.arr 0 12 [y.enc]],(if_neg (by rw [eqL]; unfold It.same; rw [q6]; simp)).symm⟩
        rw [q6] at hin
        simp at hcl hin
        simp [q2,q3] at hin
        simp [c24L1,hi,hxx,him,hy,hcl,q1,q2,q3,q4i,hin]
       ·refine ⟨o,?_,g2,by
          rw [h5,eqL]
          have : x.same y=true:=by unfold It.same; simp [q1,q2,q3,q5,q6]
          rw [this,Bool.true_and]⟩
        rw [q6] at hin
        simp at hcl hin h4
        simp [q2,q3] at hin h4
        simp [c24L1,hi,hxx,him,hy,hcl,q1,q2,q3,q4i,hin,hw,h4]
     ·have hsd : eqL Val.same x.Qv y.Qv=false:=by
        cases hs : eqL Val.same x.Qv y.Qv with
        | false=>rfl
        | true=>exact absurd (eqL_len hs) q4
      refine ⟨_,?_,g++[.arr 0 12 [x.enc],.arr 0 12 [y.enc]],(if_neg (by rw [eqL]; unfold It.same; rw [hsd]; simp)).symm⟩
      have q4i : ¬ (x.Qv.length : Int)=y.Qv.length:=by omega
      simp [c24L1,hi,hxx,him,hy,q1,q2,q3,q4i]
    ·refine ⟨_,?_,g++[.arr 0 12 [x.enc],.arr 0 12 [y.enc]],(if_neg (by rw [eqL]; unfold It.same; simp [q3])).symm⟩
     simp [c24L1,hi,hxx,him,hy,q1,q2,q3]
   ·refine ⟨_,?_,g++[.arr 0 12 [x.enc],.arr 0 12 [y.enc]],(if_neg (by rw [eqL]; unfold It.same; simp [q2])).symm⟩
    simp [c24L1,hi,hxx,him,hy,q1,q2]
  ·refine ⟨_,?_,g++[.arr 0 12 [x.enc],.arr 0 12 [y.enc]],(if_neg (by rw [eqL]; unfold It.same; simp [q1])).symm⟩
   simp [c24L1,hi,hxx,him,hy,q1]
 ·intro g K _
  have : u.items.drop t.items.length=[]:=by rw [hl]; simp
  refine ⟨_,?_,g,by rw [this,eqL,if_pos rfl]⟩
  simp [c24L1]
set_option maxHeartbeats 3000000 in
theorem rsameT_ok : ∀ (n : Nat) (t u : Ty),t.size<=n->t.wid<=1048576->∀ ws h,Qb cfg ws 24 [t.enc,u.enc] h=some (.bool (t.same u),h)
 | 0,t,_,ht,_,_,_=>by have:=t.size_pos; omega
 | n + 1,t,u,ht,hb,ws,h=>by
  have hl1:=t.Qe
  have hl2:=t.wid_kids
  refine Qc rfl rfl ?_
  rw [Ty.Xp]
  by_cases q1 : t.kind=u.kind
  ·by_cases q2 : t.name.toList=u.name.toList
   ·by_cases q3 : t.lo=u.lo
    ·by_cases q4 : t.hi=u.hi
     ·by_cases q5 : t.free=u.free
      ·by_cases q6 : t.ext=u.ext
       ·by_cases q7 : t.items.length=u.items.length
        ·by_cases q8 : t.kids.length=u.kids.length
         ·obtain ⟨g,e1⟩:=rst_items t u h q7 hb (fun x hx y ws h=>rsameT_ok n x.of y (by have:=Ty.mem_of hx; omega) (by have:=Ty.wid_itof hx; omega) ws h)
          have e2:=rst_kids t u h g q8 (by omega) (fun x hx y ws h=>rsameT_ok n x y (by have:=Ty.Xc hx; omega) (by have:=Ty.wid_kid hx; omega) ws h)
          cases q9 : eqL It.same t.items u.items
          ·rw [q9] at e1
           simp at e1
           simp [F24,c24,q1,q2,q3,q4,q5,q6,q7,q8]
           simp [q1,q2,q3,q4,q5,q6,q7,q8] at e1
           simp [e1]
          ·rw [q9] at e1
           cases q10 : eqL Ty.same t.kids u.kids
           ·rw [q10] at e2
            simp at e1 e2
            simp [F24,c24,q1,q2,q3,q4,q5,q6,q7,q8]
            simp [q1,q2,q3,q4,q5,q6,q7,q8] at e1 e2
            simp [e1,e2]
           ·rw [q10] at e2
            simp at e1 e2
            simp [F24,c24,q1,q2,q3,q4,q5,q6,q7,q8]
            simp [q1,q2,q3,q4,q5,q6,q7,q8] at e1 e2
            simp [e1,e2]
         ·have hs : eqL Ty.same t.kids u.kids=false:=by
            cases hs : eqL Ty.same t.kids u.kids with
            | false=>rfl
            | true=>exact absurd (eqL_len hs) q8
          have q8i : ¬ (t.kids.length : Int)=u.kids.length:=by omega
          rw [hs]
          simp [F24,c24,q1,q2,q3,q4,q5,q6,q7,q8i]
        ·have hs : eqL It.same t.items u.items=false:=by
           cases hs : eqL It.same t.items u.items with
           | false=>rfl
           | true=>exact absurd (eqL_len hs) q7
         have q7i : ¬ (t.items.length : Int)=u.items.length:=by omega
         rw [hs]
         simp [F24,c24,q1,q2,q3,q4,q5,q6,q7i]
       ·simp [F24,c24,q1,q2,q3,q4,q5,q6]
      ·simp [F24,c24,q1,q2,q3,q4,q5]
     ·simp [F24,c24,q1,q2,q3,q4]
    ·simp [F24,c24,q1,q2,q3]
   ·simp [F24,c24,q1,q2]
  ·simp [F24,c24,q1]
end Go.Proofs.YtflbneepngjglaaGreatDoor
namespace Go.Proofs.YtflbneepngjglaaGreatDoor
open Go Go.Avm
def cpV (L : Nat) (v : Val) : AV:=if v.items=[] then v.enc else .agg [.int .i64 v.kind,.int .i64 v.int,.str v.bytes,.osl L 0 4 0 v.items.length]
def cpH (v : Val) : Avm.H:=if v.items=[] then [] else [.arr 0 4 (v.items.map Val.enc)]
theorem copyO_ok : ∀ (n : Nat) (v : Val),v.size<=n->v.size<=1048576->∀ ws h,Qb cfg ws 21 [v.enc] h=some (cpV h.length v,h++cpH v)
 | 0,v,hv,_,_,_=>by have:=v.size_pos; omega
 | n + 1,v,hv,hb,ws,h=>by
  have hse:=v.size_eq
  have hlen:=Val.QX v.items
  refine Qc rfl rfl ?_
  have hlp:=Qi (γ:=AV × Avm.H) (f:=evC (Qb cfg) Qa cfg.pol h.length h.length c21L0) (keep:=[1,2,3,4]) v.items
   (fun i c=>Qu h.length 3 4 c.2 ((v.items.take i).map Val.enc) c.1/\(c.1 = .esl ∨ v.items ≠ []))
   (fun i _=>[(1,.ptr h.length 0 4 0 0),(2,.ptr (h.length + 1) 0 4 0 0),(3,.ptr (h.length + 2) 0 4 0 0),(4,.int .i64 i)])
   (fun _ g=>h++([.arr 0 4 [v.enc],.arr 0 4 [.agg [.int .i64 0,.int .i64 0,.str ⟨#[]⟩,.esl]],.arr 0 4 [.agg [.int .i64 v.kind,.int .i64 v.int,.str v.bytes,g.1]]]++g.2))
   (fun _ _ o=>∃ v2 g,Qu h.length 3 4 g (v.items.map Val.enc) v2/\(v2 = .esl ∨ v.items ≠ [])/\o=(.exit 0,[(1,.ptr h.length 0 4 0 0),(2,.ptr (h.length + 1) 0 4 0 0),(3,.ptr (h.length + 2) 0 4 0 0),(4,.int .i64 v.items.length)],h++([.arr 0 4 [v.enc],.arr 0 4 [.agg [.int .i64 0,.int .i64 0,.str ⟨#[]⟩,.esl]],.arr 0 4 [.agg [.int .i64 v.kind,.int .i64 v.int,.str v.bytes,v2]]]++g))) ?_ ?_ (.esl,[]) ⟨.inl ⟨rfl,rfl⟩,.inl rfl⟩
  ·obtain ⟨o,hl,v2,g,hI,hne,ho⟩:=hlp
   subst ho
   rcases hI with ⟨he,rfl⟩ | ⟨j,ver,rfl,hj⟩
   ·have he : v.items=[]:=by simpa using he
    unfold cpV cpH
    rw [if_pos he,if_pos he]
    simp [he] at hl
    simp [F21,c21,he,hl]
   ·have he : v.items ≠ []:=by simpa using hne
    have hjl:=(List.getElem?_eq_some_iff.1 hj).1
    have hset : ∀ X : QJ,(List.set g j X)[j]? = some X:=fun X=>List.getElem?_set_self hjl
    unfold cpV cpH
    rw [if_neg he,if_neg he]
    simp at hl
    simp [F21,c21,hl,hj,hset]
  ·intro j x r c2 hd hi hx hII K hK
   obtain ⟨hI,_⟩:=hII
   have hvne : v.items ≠ []:=fun e=>by rw [e] at hi; simp at hi
   have hw:=Qd (n:=j + 1) (by omega)
   simp at hw
   have hm1 : x ∈ v.items:=by rw [← hx]; exact List.getElem_mem hi
   have hsz:=Val.sizeL_mem hm1
   have ht : v.items.take (j + 1)=v.items.take j++[x]:=by rw [List.take_succ_eq_append_getElem hi,hx]
   have hll : (v.items.take j).length=j:=by simp; omega
   have hcl:=fun h'=>copyO_ok n x (by omega) (by omega) h.length h'
   rw [ht] at hK
   simp only [List.map_append] at hK
   obtain ⟨v1,g⟩:=c2
   generalize hls : v.items.take j=ls at hK hI hll
   by_cases hx0 : x.items=[]
   ·simp only [cpV,cpH,if_pos hx0] at hcl
    simp [hx0] at hcl
    rcases hI with ⟨he,hv⟩ | ⟨q,ver,hv,hj⟩
    ·dsimp only at hv
     subst hv
     have he : ls=[]:=by simpa using he
     subst he
     obtain ⟨o,h4,h5⟩:=hK (.osl (h.length + ((g.length + 1) + 3)) 0 4 0 1,g++[.arr 0 4 [x.enc],.arr 0 4 [x.enc]]) ⟨.inr ⟨g.length + 1,0,by simp,by simp⟩,.inr hvne⟩
     refine ⟨o,?_,h5⟩
     simp [hx0] at h4
     simp [c21L0,hi,hx,hx0,hcl,hw,Xr,appended,appI,h4]
    ·dsimp only at hv hj
     subst hv
     have hjl:=(List.getElem?_eq_some_iff.1 hj).1
     have hfl' : ls.length + 1<=4294967296:=by omega
     obtain ⟨o,h4,h5⟩:=hK (.osl (h.length + (q + 3)) (ver + 1) 4 0 (ls.length + 1),List.set (g++[QJ.arr 0 4 [x.enc]]) q (QJ.arr (ver + 1) 4 (ls.map Val.enc++[x.enc])))
      ⟨.inr ⟨q,ver + 1,by simp,by rw [List.getElem?_set_self (by simp; omega)]; simp⟩,.inr hvne⟩
     refine ⟨o,?_,h5⟩
     have hones : ∀ a ∈ ls,a.enc.cells.length=4:=fun a _=>by simp
     simp [hx0] at h4
     simp [c21L0,hi,hx,hx0,hcl,hw,Xr,appended,appI,h4,hj,hfl',List.getElem?_append_left hjl]
   ·simp only [cpV,cpH,if_neg hx0] at hcl
    simp at hcl
    rcases hI with ⟨he,hv⟩ | ⟨q,ver,hv,hj⟩
    ·dsimp only at hv
     subst hv
     have he : ls=[]:=by simpa using he
     subst he
     obtain ⟨o,h4,h5⟩:=hK (.osl (h.length + ((g.length + 1 + 1) + 3)) 0 4 0 1,g++[.dead 1,.arr 0 4 [x.enc],.arr 0 4 [x.enc]]) ⟨.inr ⟨g.length + 1 + 1,0,by simp,by rw [List.getElem?_append_right (by omega),show g.length + 1 + 1 - g.length=2 by omega]; simp⟩,.inr hvne⟩
     refine ⟨o,?_,h5⟩
     simp at h4
     simp [c21L0,hi,hx,hcl,hw,Xr,appended,appI,h4]
    ·dsimp only at hv hj
     subst hv
     have hjl:=(List.getElem?_eq_some_iff.1 hj).1
     have hfl' : ls.length + 1<=4294967296:=by omega
     obtain ⟨o,h4,h5⟩:=hK (.osl (h.length + (q + 3)) (ver + 1) 4 0 (ls.length + 1),List.set (g++[.dead 1,QJ.arr 0 4 [x.enc]]) q (QJ.arr (ver + 1) 4 (ls.map Val.enc++[x.enc])))
      ⟨.inr ⟨q,ver + 1,by simp,by rw [List.getElem?_set_self (by simp; omega)]; simp⟩,.inr hvne⟩
     refine ⟨o,?_,h5⟩
     have hones : ∀ a ∈ ls,a.enc.cells.length=4:=fun a _=>by simp
     simp at h4
     simp [c21L0,hi,hx,hcl,hw,Xr,appended,appI,h4,hj,hfl',List.getElem?_append_left hjl]
  ·intro c2 K hI
   refine ⟨_,?_,c2.1,c2.2,by simpa using hI.1,hI.2,rfl⟩
   simp [c21L0]
end Go.Proofs.YtflbneepngjglaaGreatDoor
namespace Go.Proofs.YtflbneepngjglaaGreatDoor
open Go Go.Avm
def wayE (q : Ty × Val) : AV:=.agg [.int .i64 q.1.kind,.str q.1.name,.int .i64 q.1.lo,.int .i64 q.1.hi,.bool q.1.free,.bool q.1.ext,.isl (q.1.items.map It.enc),.isl (q.1.kids.map Ty.enc),.int .i64 q.2.kind,.int .i64 q.2.int,.str q.2.bytes,.isl (q.2.items.map Val.enc)]
def WaysAt (h : Avm.H) (s : AV) (u : List (Ty × Val)) : Prop:=(u=[]/\s = .isl []) ∨ ∃ c ver,c < h.length/\s = .osl c ver 12 0 u.length/\h[c]? = some (.arr ver 12 (u.map wayE))
theorem WaysAt.more {h : Avm.H} {s : AV} {u : List (Ty × Val)} (A : WaysAt h s u) (g : Avm.H) : WaysAt (h++g) s u:=by
 rcases A with A | ⟨c,ver,h1,h2,h3⟩
 ·exact .inl A
 ·exact .inr ⟨c,ver,by simp; omega,h2,by rw [List.getElem?_append_left h1]; exact h3⟩
structure WayOk (q : Ty × Val) : Prop where
 wid : q.1.wid<=1048576
 size : q.2.size<=1048576
theorem rdef_loop (m : Md) (x : It) (d0 : Val) (dr : List Val) (hd : x.Qv=d0 :: dr) (u : List (Ty × Val)) (hu : ∀ q ∈ u,WayOk q) (hlu : u.length<=1048576) (h : Avm.H) (c ver : Nat) (hc : c < h.length) (hcg : h[c]? = some (.arr ver 12 (u.map wayE))) :
    Qa (evC (Qb cfg) Qa cfg.pol h.length h.length c140L0) [2,3,4,6,7] [(2,.osl c ver 12 0 u.length),(3,.ptr h.length 0 2 0 0),(4,.ptr (h.length + 1) 0 12 0 0),(6,.ptr (h.length + 2) 0 4 0 0),(7,.int .i64 (0 : Nat))]
     (h++[.arr 0 2 [m.enc],.arr 0 12 [x.enc],.arr 0 4 [.agg [.int .i64 0,.int .i64 0,.str ⟨#[]⟩,.esl]]]) =
     some (if metB u x.of d0=true then (.ret,[(6,.ptr (h.length + 2) 0 4 0 0)],h++[.arr 0 2 [m.enc],.arr 0 12 [x.enc],.arr 0 4 [d0.enc]])
      else (.exit 0,[(2,.osl c ver 12 0 u.length),(3,.ptr h.length 0 2 0 0),(4,.ptr (h.length + 1) 0 12 0 0),(6,.ptr (h.length + 2) 0 4 0 0),(7,.int .i64 u.length)],h++[.arr 0 2 [m.enc],.arr 0 12 [x.enc],.arr 0 4 [.agg [.int .i64 0,.int .i64 0,.str ⟨#[]⟩,.esl]]])):=by
 have hlp:=Qz (f:=evC (Qb cfg) Qa cfg.pol h.length h.length c140L0) (keep:=[2,3,4,6,7]) u
  (fun i=>[(2,.osl c ver 12 0 u.length),(3,.ptr h.length 0 2 0 0),(4,.ptr (h.length + 1) 0 12 0 0),(6,.ptr (h.length + 2) 0 4 0 0),(7,.int .i64 i)])
  (fun _=>h++[.arr 0 2 [m.enc],.arr 0 12 [x.enc],.arr 0 4 [.agg [.int .i64 0,.int .i64 0,.str ⟨#[]⟩,.esl]]])
  (fun j r=>if metB r x.of d0=true then (.ret,[(6,.ptr (h.length + 2) 0 4 0 0)],h++[.arr 0 2 [m.enc],.arr 0 12 [x.enc],.arr 0 4 [d0.enc]])
      else (.exit 0,[(2,.osl c ver 12 0 u.length),(3,.ptr h.length 0 2 0 0),(4,.ptr (h.length + 1) 0 12 0 0),(6,.ptr (h.length + 2) 0 4 0 0),(7,.int .i64 u.length)],h++[.arr 0 2 [m.enc],.arr 0 12 [x.enc],.arr 0 4 [.agg [.int .i64 0,.int .i64 0,.str ⟨#[]⟩,.esl]]])) ?_ ?_
 ·exact hlp
 ·intro j q r hdr hi hq K hK
  have hw:=Qd (n:=j + 1) (by omega)
  simp at hw
  have hqm : q ∈ u:=by rw [← hq]; exact List.getElem_mem hi
  obtain ⟨hw1,hs1⟩:=hu q hqm
  have hcg' : ∀ g : Avm.H,(h++g)[c]? = some (.arr ver 12 (u.map wayE)):=fun g=>by rw [List.getElem?_append_left hc]; exact hcg
  have hcne : ∀ k,¬ c=h.length + k:=fun k=>by omega
  have hcne0 : ¬ c=h.length:=by omega
  have e1:=fun ws h=>rsameT_ok _ q.1 x.of (Nat.le_refl _) hw1 ws h
  have e2:=fun ws h=>rsameV_ok _ q.2 d0 (Nat.le_refl _) hs1 ws h
  have hmet : metB (q :: r) x.of d0=((q.1.same x.of && q.2.same d0) || metB r x.of d0):=by
   unfold metB; rw [List.any_cons,Ty.same_comm,Val.same_comm]
  rw [hmet]
  have hgj : (u.map wayE)[j]? = some (wayE q):=by rw [List.getElem?_map,List.getElem?_eq_getElem hi,hq]; rfl
  have hil : j < (u.map wayE).length:=by simpa using hi
  have hlen : (u.map wayE).length=u.length:=by simp
  generalize (u.map wayE)=els at hgj hcg' hil hlen
  unfold wayE at hgj
  obtain ⟨hilx,hgi⟩:=List.getElem?_eq_some_iff.1 hgj
  simp at e1 e2
  cases s1 : q.1.same x.of
  ·rw [s1] at e1
   simp at hK
   simp [c140L0,hi,hcg',hgi,hil,hlen,hcne,hcne0,e1,hw,hK]
  ·rw [s1] at e1
   cases s2 : q.2.same d0
   ·rw [s2] at e2
    simp [c140L0,hi,hcg',hgi,hil,hlen,hcne,hcne0,hd,e1,e2,hw]
    simp [hd] at hK
    simp [hK]
   ·rw [s2] at e2
    simp [c140L0,hi,hcg',hgi,hil,hlen,hcne,hcne0,hd,e1,e2]
 ·intro K
  have : metB ([] : List (Ty × Val)) x.of d0=false:=rfl
  rw [this]
  simp [c140L0]
theorem rdef_ok (m : Md) (x : It) (hx : ItOk x) (u : List (Ty × Val)) (hu : ∀ q ∈ u,WayOk q) (hlu : u.length<=1048575) (f : List (Ty × Val)->Ty->Val->Option Val) (d : Val) (hd : setO f u x=some d)
    (hpl : metB u x.of x.d0=false->∀ d,f (u++[keyI x]) x.of x.d0=some d->∀ S h,WaysAt h S (u++[keyI x])->∀ ws,Qb cfg ws 76 [m.enc,x.of.enc,x.d0.enc,S] h=some (d.enc,h))
    (S : AV) (h : Avm.H) (A : WaysAt h S u) (ws : Nat) : Qb cfg ws 140 [m.enc,x.enc,S] h=some (d.enc,h):=by
 obtain ⟨hwid,d0,dr,hdf,hds⟩:=hx
 unfold setO at hd
 rcases A with ⟨rfl,rfl⟩ | ⟨c,ver,hc,rfl,hcg⟩
 ·have hmet : metB ([] : List (Ty × Val)) x.of x.d0=false:=rfl
  rw [if_neg (by rw [hmet]; simp)] at hd
  have e3:=fun ws=>hpl hmet d hd (.osl (h.length + 3) 2 12 0 1) (h++[.arr 0 2 [m.enc],.arr 0 12 [x.enc],.arr 0 4 [.agg [.int .i64 0,.int .i64 0,.str ⟨#[]⟩,.esl]],.arr 2 12 [wayE (keyI x)],.arr 0 12 [wayE (keyI x)]])
   (.inr ⟨h.length + 3,2,by simp,by simp,by rw [heap_get]; simp⟩) ws
  have e4 : ∀ K : Env->Avm.H->Out,Qa (evC (Qb cfg) Qa cfg.pol h.length h.length c140L0) [2,3,4,6,7] [(2,.isl []),(3,.ptr h.length 0 2 0 0),(4,.ptr (h.length + 1) 0 12 0 0),(6,.ptr (h.length + 2) 0 4 0 0),(7,.int .i64 (0 : Nat))]
   (h++[.arr 0 2 [m.enc],.arr 0 12 [x.enc],.arr 0 4 [.agg [.int .i64 0,.int .i64 0,.str ⟨#[]⟩,.esl]]])=some (.exit 0,[(2,.isl []),(3,.ptr h.length 0 2 0 0),(4,.ptr (h.length + 1) 0 12 0 0),(6,.ptr (h.length + 2) 0 4 0 0),(7,.int .i64 (0 : Nat))],(h++[.arr 0 2 [m.enc],.arr 0 12 [x.enc],.arr 0 4 [.agg [.int .i64 0,.int .i64 0,.str ⟨#[]⟩,.esl]]])):=by
   intro _
   have hlp:=Qz (f:=evC (Qb cfg) Qa cfg.pol h.length h.length c140L0) (keep:=[2,3,4,6,7]) ([] : List Val)
    (fun i=>[(2,.isl []),(3,.ptr h.length 0 2 0 0),(4,.ptr (h.length + 1) 0 12 0 0),(6,.ptr (h.length + 2) 0 4 0 0),(7,.int .i64 i)])
    (fun _=>(h++[.arr 0 2 [m.enc],.arr 0 12 [x.enc],.arr 0 4 [.agg [.int .i64 0,.int .i64 0,.str ⟨#[]⟩,.esl]]]))
    (fun _ _=>(.exit 0,[(2,.isl []),(3,.ptr h.length 0 2 0 0),(4,.ptr (h.length + 1) 0 12 0 0),(6,.ptr (h.length + 2) 0 4 0 0),(7,.int .i64 (0 : Nat))],(h++[.arr 0 2 [m.enc],.arr 0 12 [x.enc],.arr 0 4 [.agg [.int .i64 0,.int .i64 0,.str ⟨#[]⟩,.esl]]]))) ?_ ?_
   ·exact hlp
   ·intro j q r hdr hi; simp at hi
   ·intro K; simp [c140L0]
  have e4:=e4 (fun _ _=>none)
  refine Qc rfl rfl ?_
  have hk : keyI x=(x.of,d0):=by unfold keyI; rw [d0_eq hdf]
  rw [hk,d0_eq hdf] at e3
  unfold wayE at e3
  simp only [Md.enc] at e3 e4
  simp [hdf] at e3 e4
  simp [F140,c140,Md.enc,hdf,e3,e4,appI,appended,Xr]
 ·have e4:=rdef_loop m x d0 dr hdf u hu (by omega) h c ver hc hcg
  have hcg' : ∀ g : Avm.H,(h++g)[c]? = some (.arr ver 12 (u.map wayE)):=fun g=>by rw [List.getElem?_append_left hc]; exact hcg
  have hcne : ∀ k,¬ c=h.length + k:=fun k=>by omega
  have hcne0 : ¬ c=h.length:=by omega
  refine Qc rfl rfl ?_
  by_cases hmet : metB u x.of x.d0=true
  ·rw [if_pos hmet] at hd
   injection hd with hd
   rw [d0_eq hdf] at hmet hd
   subst hd
   rw [if_pos hmet] at e4
   simp only [Md.enc] at e4
   simp [hdf] at e4
   simp [F140,c140,Md.enc,hdf,e4]
  ·rw [if_neg hmet] at hd
   rw [d0_eq hdf] at hmet
   rw [if_neg hmet] at e4
   have hmet : metB u x.of x.d0=false:=by rw [d0_eq hdf]; simpa using hmet
   have e3:=fun ws=>hpl hmet d hd (.osl (h.length + 3) 2 12 0 (u.length + 1)) (h++[.arr 0 2 [m.enc],.arr 0 12 [x.enc],.arr 0 4 [.agg [.int .i64 0,.int .i64 0,.str ⟨#[]⟩,.esl]],.arr 2 12 (u.map wayE++[wayE (keyI x)]),.arr 0 12 [wayE (keyI x)]])
    (.inr ⟨h.length + 3,2,by simp,by simp,by rw [heap_get]; simp⟩) ws
   have hk : keyI x=(x.of,d0):=by unfold keyI; rw [d0_eq hdf]
   rw [hk,d0_eq hdf] at e3
   have hall : ∀ a ∈ u.map wayE,a.cells.length=12/\∀ y ∈ a.cells,y.one=true:=fun a ha=>by
    obtain ⟨q,_,rfl⟩:=List.mem_map.1 ha
    simp [wayE]
   have hlen : (u.map wayE).length=u.length:=by simp
   have htk : (u.map wayE).take u.length=u.map wayE:=List.take_of_length_le (by simp)
   have hlim : u.length<=4294967296:=by omega
   have hlim2 : u.length + 1<=4294967296:=by omega
   generalize (u.map wayE)=els at *
   have hallT:=eq_true hall
   unfold wayE at e3
   simp only [Md.enc] at e3 e4
   simp [hdf] at e3 e4
   simp [F140,c140,Md.enc,hdf,e3,e4,appI,appended,Xr,hcg',hcne,hcne0,hlen,hlim,hlim2,htk,hallT]
end Go.Proofs.YtflbneepngjglaaGreatDoor
