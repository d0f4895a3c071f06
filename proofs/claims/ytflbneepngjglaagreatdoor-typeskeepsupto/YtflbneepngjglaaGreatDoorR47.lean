/- Copies of types: kids, items. -/
import Derived.Test.YtflbneepngjglaaGreatDoorR46
set_option linter.all false
namespace Go.Proofs.YtflbneepngjglaaGreatDoor
open Go Go.Avm
def cpV (L : Nat) (v : Val) : AV:=if v.items=[] then v.enc else .agg [.int .i64 v.kind,.int .i64 v.int,.str v.bytes,.osl L 0 4 0 v.items.length]
def cpH (v : Val) : Avm.H:=if v.items=[] then [] else [.arr 0 4 (v.items.map Val.enc)]
theorem copyO_ok : ∀ (n : Nat) (v : Val),v.size≤n→v.size≤67108864→∀ ws h,callL cfg ws 21 [v.enc] h=some (cpV h.length v,h++cpH v)
 | 0,v,hv,_,_,_=>by have:=v.size_pos; omega
 | n + 1,v,hv,hb,ws,h=>by
  have hse:=v.size_eq
  have hlen:=Val.len_sizeL v.items
  refine callL_fn rfl rfl ?_
  have hlp:=loop_post (γ:=AV × Avm.H) (f:=evC (callL cfg) roundsL cfg.pol h.length h.length c21L0) (keep:=[1,2,3,4]) v.items
   (fun i c=>SlcIn h.length 3 4 c.2 ((v.items.take i).map Val.enc) c.1∧(c.1 = .esl ∨ v.items ≠ []))
   (fun i _=>[(1,.ptr h.length 0 4 0 0),(2,.ptr (h.length + 1) 0 4 0 0),(3,.ptr (h.length + 2) 0 4 0 0),(4,.int .i64 i)])
   (fun _ g=>h++([.arr 0 4 [v.enc],.arr 0 4 [.agg [.int .i64 0,.int .i64 0,.str ⟨#[]⟩,.esl]],.arr 0 4 [.agg [.int .i64 v.kind,.int .i64 v.int,.str v.bytes,g.1]]]++g.2))
   (fun _ _ o=>∃ v2 g,SlcIn h.length 3 4 g (v.items.map Val.enc) v2∧(v2 = .esl ∨ v.items ≠ [])∧o=(.exit 0,[(1,.ptr h.length 0 4 0 0),(2,.ptr (h.length + 1) 0 4 0 0),(3,.ptr (h.length + 2) 0 4 0 0),(4,.int .i64 v.items.length)],h++([.arr 0 4 [v.enc],.arr 0 4 [.agg [.int .i64 0,.int .i64 0,.str ⟨#[]⟩,.esl]],.arr 0 4 [.agg [.int .i64 v.kind,.int .i64 v.int,.str v.bytes,v2]]]++g))) ?_ ?_ (.esl,[]) ⟨.inl ⟨rfl,rfl⟩,.inl rfl⟩
  ·obtain ⟨o,hl,v2,g,hI,hne,ho⟩:=hlp
   subst ho
   rcases hI with ⟨he,rfl⟩ | ⟨j,ver,rfl,hj⟩
   ·have he : v.items=[]:=by simpa using he
    unfold cpV cpH
    rw [if_pos he,if_pos he]
    simp [he] at hl
    simp [F21,c21,he,hl]
   ·have he : v.items ≠ []:=by simpa using hne
    have hjl:=(List.getElem?_eq_some_iff.1 hj).1
    have hset : ∀ X : ABlock,(List.set g j X)[j]? = some X:=fun X=>List.getElem?_set_self hjl
    unfold cpV cpH
    rw [if_neg he,if_neg he]
    simp at hl
    simp [F21,c21,hl,hj,hset]
  ·intro j x r c2 hd hi hx hII K hK
   obtain ⟨hI,_⟩:=hII
   have hvne : v.items ≠ []:=fun e=>by rw [e] at hi; simp at hi
   have hw:=wrap_nat (n:=j + 1) (by omega)
   simp at hw
   have hm1 : x ∈ v.items:=by rw [← hx]; exact List.getElem_mem hi
   have hsz:=Val.sizeL_mem hm1
   have ht : v.items.take (j + 1)=v.items.take j++[x]:=by rw [List.take_succ_eq_append_getElem hi,hx]
   have hll : (v.items.take j).length=j:=by simp; omega
   have hcl:=fun h'=>copyO_ok n x (by omega) (by omega) h.length h'
   rw [ht] at hK
   simp only [List.map_append] at hK
   obtain ⟨v1,g⟩:=c2
   generalize hls : v.items.take j=ls at hK hI hll
   by_cases hx0 : x.items=[]
   ·simp only [cpV,cpH,if_pos hx0] at hcl
    simp [hx0] at hcl
    rcases hI with ⟨he,hv⟩ | ⟨q,ver,hv,hj⟩
    ·dsimp only at hv
     subst hv
     have he : ls=[]:=by simpa using he
     subst he
     obtain ⟨o,h4,h5⟩:=hK (.osl (h.length + ((g.length + 1) + 3)) 0 4 0 1,g++[.arr 0 4 [x.enc],.arr 0 4 [x.enc]]) ⟨.inr ⟨g.length + 1,0,by simp,by simp⟩,.inr hvne⟩
     refine ⟨o,?_,h5⟩
     simp [hx0] at h4
     simp [c21L0,hi,hx,hx0,hcl,hw,bslP,appended,appI,h4]
    ·dsimp only at hv hj
     subst hv
     have hjl:=(List.getElem?_eq_some_iff.1 hj).1
     have hfl' : ls.length + 1≤4294967296:=by omega
     obtain ⟨o,h4,h5⟩:=hK (.osl (h.length + (q + 3)) (ver + 1) 4 0 (ls.length + 1),List.set (g++[ABlock.arr 0 4 [x.enc]]) q (ABlock.arr (ver + 1) 4 (ls.map Val.enc++[x.enc])))
      ⟨.inr ⟨q,ver + 1,by simp,by rw [List.getElem?_set_self (by simp; omega)]; simp⟩,.inr hvne⟩
     refine ⟨o,?_,h5⟩
     have hones : ∀ a ∈ ls,a.enc.cells.length=4:=fun a _=>by simp
     simp [hx0] at h4
     simp [c21L0,hi,hx,hx0,hcl,hw,bslP,appended,appI,h4,hj,hfl',List.getElem?_append_left hjl]
   ·simp only [cpV,cpH,if_neg hx0] at hcl
    simp at hcl
    rcases hI with ⟨he,hv⟩ | ⟨q,ver,hv,hj⟩
    ·dsimp only at hv
     subst hv
     have he : ls=[]:=by simpa using he
     subst he
     obtain ⟨o,h4,h5⟩:=hK (.osl (h.length + ((g.length + 1 + 1) + 3)) 0 4 0 1,g++[.dead 1,.arr 0 4 [x.enc],.arr 0 4 [x.enc]]) ⟨.inr ⟨g.length + 1 + 1,0,by simp,by rw [List.getElem?_append_right (by omega),show g.length + 1 + 1 - g.length=2 by omega]; simp⟩,.inr hvne⟩
     refine ⟨o,?_,h5⟩
     simp at h4
     simp [c21L0,hi,hx,hcl,hw,bslP,appended,appI,h4]
    ·dsimp only at hv hj
     subst hv
     have hjl:=(List.getElem?_eq_some_iff.1 hj).1
     have hfl' : ls.length + 1≤4294967296:=by omega
     obtain ⟨o,h4,h5⟩:=hK (.osl (h.length + (q + 3)) (ver + 1) 4 0 (ls.length + 1),List.set (g++[.dead 1,ABlock.arr 0 4 [x.enc]]) q (ABlock.arr (ver + 1) 4 (ls.map Val.enc++[x.enc])))
      ⟨.inr ⟨q,ver + 1,by simp,by rw [List.getElem?_set_self (by simp; omega)]; simp⟩,.inr hvne⟩
     refine ⟨o,?_,h5⟩
     have hones : ∀ a ∈ ls,a.enc.cells.length=4:=fun a _=>by simp
     simp at h4
     simp [c21L0,hi,hx,hcl,hw,bslP,appended,appI,h4,hj,hfl',List.getElem?_append_left hjl]
  ·intro c2 K hI
   refine ⟨_,?_,c2.1,c2.2,by simpa using hI.1,hI.2,rfl⟩
   simp [c21L0]
end Go.Proofs.YtflbneepngjglaaGreatDoor
namespace Go.Proofs.YtflbneepngjglaaGreatDoor
open Go Go.Avm
def SlcAt (n sz : Nat) (HH : Avm.H) (acc : List AV) (v : AV) : Prop:=(acc=[]∧v = .esl) ∨ ∃ b ver,n≤b∧v = .osl b ver sz 0 acc.length∧HH[b]? = some (.arr ver sz acc)
theorem SlcAt.keep {n sz : Nat} {HH HH' : Avm.H} {acc : List AV} {v : AV} (h : SlcAt n sz HH acc v) (hk : ∀ k x,n≤k→HH[k]? = some x→(∃ ver,x = .arr ver sz acc)→HH'[k]? = some x) : SlcAt n sz HH' acc v:=by
 rcases h with h | ⟨b,ver,h1,h2,h3⟩
 ·exact .inl h
 ·exact .inr ⟨b,ver,h1,h2,hk b _ h1 h3 ⟨ver,rfl⟩⟩
theorem copyD_loop (B : Nat) (HH0 : Avm.H) (bt bx : Nat) (A2 A3 K : AV) (p q : List AV) (it : List It) (i : Nat) (hi : i < it.length) (y0 : It) (d : List Val) (hit : it[i]=y0) (hyd : y0.dflt=d) (hp : p.length=11) (hq : q.length=6) (hlen : d.length≤67108864) (hbd : ∀ y ∈ d,y.size≤67108864)
    (ht : HH0[bt]? = some (.arr 0 8 [.agg (q++[.isl (it.map It.enc),K])])) (hx : HH0[bx]? = some (.arr 0 12 [.agg (p++[.esl])])) (hne : bt ≠ bx) (hB : B≤bx) (hBl : bx < HH0.length) :
    ∃ HH1 v,roundsL (evC (callL cfg) roundsL cfg.pol B B c20L0) [1,2,3,4,5,6] [(1,.ptr bt 0 8 0 0),(2,A2),(3,A3),(4,.int .i64 i),(5,.ptr bx 0 12 0 0),(6,.int .i64 0)] HH0 =
        some (.exit 2,[(1,.ptr bt 0 8 0 0),(2,A2),(3,A3),(4,.int .i64 i),(5,.ptr bx 0 12 0 0),(6,.int .i64 d.length)],HH1) ∧
     HH1[bx]? = some (.arr 0 12 [.agg (p++[v])])∧SlcAt HH0.length 4 HH1 (d.map Val.enc) v∧HH0.length≤HH1.length∧∀ k,k < HH0.length→k ≠ bx→HH1[k]? = HH0[k]?:=by
 have hbxl:=(List.getElem?_eq_some_iff.1 hx).1
 have hbtl:=(List.getElem?_eq_some_iff.1 ht).1
 have hdq : List.drop 6 (q++[AV.isl (it.map It.enc),K])=[AV.isl (it.map It.enc),K]:=by rw [← hq,List.drop_left]
 have hdp : ∀ v : AV,List.drop 11 (p++[v])=[v]:=fun v=>by rw [← hp,List.drop_left]
 have htp : ∀ v : AV,List.take 11 (p++[v])=p:=fun v=>by rw [← hp,List.take_left]
 have hd12 : ∀ v : AV,List.drop 12 (p++[v])=[]:=fun v=>by apply List.drop_eq_nil_of_le; simp [hp]
 have hnb : ¬ bx < B:=by omega
 have hlp:=loop_post (γ:=AV × Avm.H) (f:=evC (callL cfg) roundsL cfg.pol B B c20L0) (keep:=[1,2,3,4,5,6]) d
  (fun j c=>c.2[bx]? = some (.arr 0 12 [.agg (p++[c.1])])∧SlcAt HH0.length 4 c.2 ((d.take j).map Val.enc) c.1∧HH0.length≤c.2.length∧∀ k,k < HH0.length→k ≠ bx→c.2[k]? = HH0[k]?)
  (fun j _=>[(1,.ptr bt 0 8 0 0),(2,A2),(3,A3),(4,.int .i64 i),(5,.ptr bx 0 12 0 0),(6,.int .i64 j)]) (fun _ c=>c.2)
  (fun _ _ r=>∃ v HH1,r=(.exit 2,[(1,.ptr bt 0 8 0 0),(2,A2),(3,A3),(4,.int .i64 i),(5,.ptr bx 0 12 0 0),(6,.int .i64 d.length)],HH1)∧HH1[bx]? = some (.arr 0 12 [.agg (p++[v])])∧SlcAt HH0.length 4 HH1 (d.map Val.enc) v∧HH0.length≤HH1.length∧∀ k,k < HH0.length→k ≠ bx→HH1[k]? = HH0[k]?) ?_ ?_ (.esl,HH0) ⟨hx,.inl ⟨rfl,rfl⟩,Nat.le_refl _,fun _ _ _=>rfl⟩
 ·obtain ⟨r,h1,v,HH1,rfl,h2⟩:=hlp
  exact ⟨HH1,v,by simpa using h1,h2⟩
 ·intro j y r c hd hj hyy hI Kk hK
  have hw:=wrap_nat (n:=j + 1) (by omega)
  simp at hw
  have hm1 : y ∈ d:=by rw [← hyy]; exact List.getElem_mem hj
  have htk : d.take (j + 1)=d.take j++[y]:=by rw [List.take_succ_eq_append_getElem hj,hyy]
  have hll : (d.take j).length=j:=by simp; omega
  have hcl:=fun h'=>copyO_ok _ y (Nat.le_refl _) (hbd y hm1) B h'
  rw [htk] at hK
  simp only [List.map_append] at hK
  obtain ⟨v,HH⟩:=c
  obtain ⟨hbx,hsl,hle,hfr⟩:=hI
  dsimp only at hbx hsl hle hfr
  have hbt : HH[bt]? = some (.arr 0 8 [.agg (q++[.isl (it.map It.enc),K])]):=(hfr bt hbtl hne).trans ht
  have hbxL:=(List.getElem?_eq_some_iff.1 hbx).1
  have hbtL:=(List.getElem?_eq_some_iff.1 hbt).1
  generalize hls : d.take j=ls at hK hsl hll
  by_cases hy0 : y.items=[]
  ·simp only [cpV,cpH,if_pos hy0] at hcl
   simp [hy0] at hcl
   rcases hsl with ⟨he,hv⟩ | ⟨b,ver,hbn,hv,hbl⟩
   ·subst hv
    have he : ls=[]:=by simpa using he
    subst he
    obtain ⟨o',h4,h5⟩:=hK (.osl (HH.length + 1) 0 4 0 1,List.set (HH++[ABlock.arr 0 4 [y.enc],ABlock.arr 0 4 [y.enc]]) bx (.arr 0 12 [.agg (p++[.osl (HH.length + 1) 0 4 0 1])]))
     ⟨by rw [List.getElem?_set_self (by simp; omega)],.inr ⟨HH.length + 1,0,by omega,by simp,by rw [List.getElem?_set_ne (by omega)]; simp⟩,by simp; omega,fun k h1 h2=>by
      rw [List.getElem?_set_ne (fun e=>h2 e.symm),List.getElem?_append_left (by omega)]; exact hfr k h1 h2⟩
    refine ⟨o',?_,h5⟩
    simp [hy0] at h4
    simp [c20L0,hbt,hbx,hq,hp,hdq,hdp,htp,hd12,hi,hit,hyd,hy0,hj,hyy,hcl,hw,bslP,appended,appI,hB,hnb,List.getElem?_append_left hbxL,List.getElem?_append_left hbtL,h4,List.getElem?_set_self']
   ·subst hv
    have hbL:=(List.getElem?_eq_some_iff.1 hbl).1
    have hbne : b ≠ bx:=by omega
    have hfl' : ls.length + 1≤4294967296:=by omega
    obtain ⟨o',h4,h5⟩:=hK (.osl b (ver + 1) 4 0 (ls.length + 1),List.set (List.set (HH++[ABlock.arr 0 4 [y.enc]]) b (.arr (ver + 1) 4 (ls.map Val.enc++[y.enc]))) bx (.arr 0 12 [.agg (p++[.osl b (ver + 1) 4 0 (ls.length + 1)])]))
     ⟨by rw [List.getElem?_set_self (by simp; omega)],.inr ⟨b,ver + 1,hbn,by simp,by rw [List.getElem?_set_ne (fun e=>hbne e.symm),List.getElem?_set_self (by simp; omega)]; simp⟩,by simp; omega,fun k h1 h2=>by
      rw [List.getElem?_set_ne (fun e=>h2 e.symm),List.getElem?_set_ne (by omega),List.getElem?_append_left (by omega)]; exact hfr k h1 h2⟩
    refine ⟨o',?_,h5⟩
    have hBb : B≤b:=by omega
    have hBb2 : ¬ b < B:=by omega
    simp [hy0] at h4
    simp [c20L0,hbt,hbx,hbl,hq,hp,hdq,hdp,htp,hd12,hi,hit,hyd,hy0,hj,hyy,hcl,hw,bslP,appended,appI,hB,hnb,List.getElem?_append_left hbxL,List.getElem?_append_left hbtL,List.getElem?_append_left hbL,h4,List.getElem?_set_self',hBb,hBb2,hfl',hbne,List.getElem?_set_ne hbne]
  ·simp only [cpV,cpH,if_neg hy0] at hcl
   simp at hcl
   have hBHH : B≤HH.length:=by omega
   have hnHH : ¬ HH.length < B:=by omega
   rcases hsl with ⟨he,hv⟩ | ⟨b,ver,hbn,hv,hbl⟩
   ·subst hv
    have he : ls=[]:=by simpa using he
    subst he
    obtain ⟨o',h4,h5⟩:=hK (.osl (HH.length + 2) 0 4 0 1,List.set (HH++[ABlock.dead 1,ABlock.arr 0 4 [y.enc],ABlock.arr 0 4 [y.enc]]) bx (.arr 0 12 [.agg (p++[.osl (HH.length + 2) 0 4 0 1])]))
     ⟨by rw [List.getElem?_set_self (by simp; omega)],.inr ⟨HH.length + 2,0,by omega,by simp,by rw [List.getElem?_set_ne (by omega)]; simp⟩,by simp; omega,fun k h1 h2=>by
      rw [List.getElem?_set_ne (fun e=>h2 e.symm),List.getElem?_append_left (by omega)]; exact hfr k h1 h2⟩
    refine ⟨o',?_,h5⟩
    simp at h4
    simp [c20L0,hbt,hbx,hq,hp,hdq,hdp,htp,hd12,hi,hit,hyd,hBHH,hnHH,hj,hyy,hcl,hw,bslP,appended,appI,hB,hnb,List.getElem?_append_left hbxL,List.getElem?_append_left hbtL,h4,List.getElem?_set_self']
   ·subst hv
    have hbL:=(List.getElem?_eq_some_iff.1 hbl).1
    have hbne : b ≠ bx:=by omega
    have hfl' : ls.length + 1≤4294967296:=by omega
    obtain ⟨o',h4,h5⟩:=hK (.osl b (ver + 1) 4 0 (ls.length + 1),List.set (List.set (HH++[ABlock.dead 1,ABlock.arr 0 4 [y.enc]]) b (.arr (ver + 1) 4 (ls.map Val.enc++[y.enc]))) bx (.arr 0 12 [.agg (p++[.osl b (ver + 1) 4 0 (ls.length + 1)])]))
     ⟨by rw [List.getElem?_set_self (by simp; omega)],.inr ⟨b,ver + 1,hbn,by simp,by rw [List.getElem?_set_ne (fun e=>hbne e.symm),List.getElem?_set_self (by simp; omega)]; simp⟩,by simp; omega,fun k h1 h2=>by
      rw [List.getElem?_set_ne (fun e=>h2 e.symm),List.getElem?_set_ne (by omega),List.getElem?_append_left (by omega)]; exact hfr k h1 h2⟩
    refine ⟨o',?_,h5⟩
    have hBb : B≤b:=by omega
    have hBb2 : ¬ b < B:=by omega
    simp at h4
    simp [c20L0,hbt,hbx,hbl,hq,hp,hdq,hdp,htp,hd12,hi,hit,hyd,hBHH,hnHH,hj,hyy,hcl,hw,bslP,appended,appI,hB,hnb,List.getElem?_append_left hbxL,List.getElem?_append_left hbtL,List.getElem?_append_left hbL,h4,List.getElem?_set_self',hBb,hBb2,hfl',hbne,List.getElem?_set_ne hbne]
 ·intro c Kk hI
  refine ⟨_,?_,c.1,c.2,rfl,by simpa using hI⟩
  obtain ⟨v,HH⟩:=c
  obtain ⟨hbx,hsl,hle,hfr⟩:=hI
  have hbt : HH[bt]? = some (.arr 0 8 [.agg (q++[.isl (it.map It.enc),K])]):=(hfr bt hbtl hne).trans ht
  simp [c20L0,hbt,hq,hdq,hi,hit,hyd]
end Go.Proofs.YtflbneepngjglaaGreatDoor
namespace Go.Proofs.YtflbneepngjglaaGreatDoor
open Go Go.Avm
theorem copyK_loop (B : Nat) (HH0 : Avm.H) (bt bx : Nat) (A2 : AV) (p q : List AV) (d : List Ty) (hp : p.length=7) (hq : q.length=7) (hb : d.length≤67108864)
    (ht : HH0[bt]? = some (.arr 0 8 [.agg (q++[.isl (d.map Ty.enc)])])) (hx : HH0[bx]? = some (.arr 0 8 [.agg (p++[.esl])])) (hne : bt ≠ bx) (hB : B≤bx) (hBl : bx < HH0.length) (ih : ∀ x ∈ d,∀ h',callL cfg B 20 [x.enc] h'=some (x.enc,h')) :
    ∃ HH1 v,roundsL (evC (callL cfg) roundsL cfg.pol B B c20L2) [1,2,3,7] [(1,.ptr bt 0 8 0 0),(2,A2),(3,.ptr bx 0 8 0 0),(7,.int .i64 0)] HH0 =
        some (.exit 4,[(1,.ptr bt 0 8 0 0),(2,A2),(3,.ptr bx 0 8 0 0),(7,.int .i64 d.length)],HH1) ∧
     HH1[bx]? = some (.arr 0 8 [.agg (p++[v])])∧SlcAt HH0.length 8 HH1 (d.map Ty.enc) v∧HH0.length≤HH1.length∧∀ k,k < HH0.length→k ≠ bx→HH1[k]? = HH0[k]?:=by
 have hbxl:=(List.getElem?_eq_some_iff.1 hx).1
 have hbtl:=(List.getElem?_eq_some_iff.1 ht).1
 have hdq : List.drop 7 (q++[AV.isl (d.map Ty.enc)])=[AV.isl (d.map Ty.enc)]:=by rw [← hq,List.drop_left]
 have hdp : ∀ v : AV,List.drop 7 (p++[v])=[v]:=fun v=>by rw [← hp,List.drop_left]
 have htp : ∀ v : AV,List.take 7 (p++[v])=p:=fun v=>by rw [← hp,List.take_left]
 have hd12 : ∀ v : AV,List.drop 8 (p++[v])=[]:=fun v=>by apply List.drop_eq_nil_of_le; simp [hp]
 have hnb : ¬ bx < B:=by omega
 have hlp:=loop_post (γ:=AV × Avm.H) (f:=evC (callL cfg) roundsL cfg.pol B B c20L2) (keep:=[1,2,3,7]) d
  (fun j c=>c.2[bx]? = some (.arr 0 8 [.agg (p++[c.1])])∧SlcAt HH0.length 8 c.2 ((d.take j).map Ty.enc) c.1∧HH0.length≤c.2.length∧∀ k,k < HH0.length→k ≠ bx→c.2[k]? = HH0[k]?)
  (fun j _=>[(1,.ptr bt 0 8 0 0),(2,A2),(3,.ptr bx 0 8 0 0),(7,.int .i64 j)]) (fun _ c=>c.2)
  (fun _ _ r=>∃ v HH1,r=(.exit 4,[(1,.ptr bt 0 8 0 0),(2,A2),(3,.ptr bx 0 8 0 0),(7,.int .i64 d.length)],HH1)∧HH1[bx]? = some (.arr 0 8 [.agg (p++[v])])∧SlcAt HH0.length 8 HH1 (d.map Ty.enc) v∧HH0.length≤HH1.length∧∀ k,k < HH0.length→k ≠ bx→HH1[k]? = HH0[k]?) ?_ ?_ (.esl,HH0) ⟨hx,.inl ⟨rfl,rfl⟩,Nat.le_refl _,fun _ _ _=>rfl⟩
 ·obtain ⟨r,h1,v,HH1,rfl,h2⟩:=hlp
  exact ⟨HH1,v,by simpa using h1,h2⟩
 ·intro j y r c hd hj hyy hI Kk hK
  have hw:=wrap_nat (n:=j + 1) (by omega)
  simp at hw
  have hm1 : y ∈ d:=by rw [← hyy]; exact List.getElem_mem hj
  have htk : d.take (j + 1)=d.take j++[y]:=by rw [List.take_succ_eq_append_getElem hj,hyy]
  have hll : (d.take j).length=j:=by simp; omega
  have hcl:=fun h'=>ih y hm1 h'
  rw [htk] at hK
  simp only [List.map_append] at hK
  obtain ⟨v,HH⟩:=c
  obtain ⟨hbx,hsl,hle,hfr⟩:=hI
  dsimp only at hbx hsl hle hfr
  have hbt : HH[bt]? = some (.arr 0 8 [.agg (q++[.isl (d.map Ty.enc)])]):=(hfr bt hbtl hne).trans ht
  have hbxL:=(List.getElem?_eq_some_iff.1 hbx).1
  have hbtL:=(List.getElem?_eq_some_iff.1 hbt).1
  simp at hcl
  generalize hls : d.take j=ls at hK hsl hll
  rcases hsl with ⟨he,hv⟩ | ⟨b,ver,hbn,hv,hbl⟩
  ·subst hv
   have he : ls=[]:=by simpa using he
   subst he
   obtain ⟨o',h4,h5⟩:=hK (.osl (HH.length + 1) 0 8 0 1,List.set (HH++[ABlock.arr 0 8 [y.enc],ABlock.arr 0 8 [y.enc]]) bx (.arr 0 8 [.agg (p++[.osl (HH.length + 1) 0 8 0 1])]))
    ⟨by rw [List.getElem?_set_self (by simp; omega)],.inr ⟨HH.length + 1,0,by omega,by simp,by rw [List.getElem?_set_ne (by omega)]; simp⟩,by simp; omega,fun k h1 h2=>by
     rw [List.getElem?_set_ne (fun e=>h2 e.symm),List.getElem?_append_left (by omega)]; exact hfr k h1 h2⟩
   refine ⟨o',?_,h5⟩
   simp at h4
   simp [c20L2,hbt,hbx,hq,hp,hdq,hdp,htp,hd12,hj,hyy,hcl,hw,bslP,appended,appI,hB,hnb,List.getElem?_append_left hbxL,List.getElem?_append_left hbtL,h4,List.getElem?_set_self']
  ·subst hv
   have hbL:=(List.getElem?_eq_some_iff.1 hbl).1
   have hbne : b ≠ bx:=by omega
   have hfl' : ls.length + 1≤4294967296:=by omega
   obtain ⟨o',h4,h5⟩:=hK (.osl b (ver + 1) 8 0 (ls.length + 1),List.set (List.set (HH++[ABlock.arr 0 8 [y.enc]]) b (.arr (ver + 1) 8 (ls.map Ty.enc++[y.enc]))) bx (.arr 0 8 [.agg (p++[.osl b (ver + 1) 8 0 (ls.length + 1)])]))
    ⟨by rw [List.getElem?_set_self (by simp; omega)],.inr ⟨b,ver + 1,hbn,by simp,by rw [List.getElem?_set_ne (fun e=>hbne e.symm),List.getElem?_set_self (by simp; omega)]; simp⟩,by simp; omega,fun k h1 h2=>by
     rw [List.getElem?_set_ne (fun e=>h2 e.symm),List.getElem?_set_ne (by omega),List.getElem?_append_left (by omega)]; exact hfr k h1 h2⟩
   refine ⟨o',?_,h5⟩
   have hBb : B≤b:=by omega
   have hBb2 : ¬ b < B:=by omega
   simp at h4
   simp [c20L2,hbt,hbx,hbl,hq,hp,hdq,hdp,htp,hd12,hj,hyy,hcl,hw,bslP,appended,appI,hB,hnb,List.getElem?_append_left hbxL,List.getElem?_append_left hbtL,List.getElem?_append_left hbL,h4,List.getElem?_set_self',hBb,hBb2,hfl',hbne,List.getElem?_set_ne hbne]
 ·intro c Kk hI
  refine ⟨_,?_,c.1,c.2,rfl,by simpa using hI⟩
  obtain ⟨v,HH⟩:=c
  obtain ⟨hbx,hsl,hle,hfr⟩:=hI
  have hbt : HH[bt]? = some (.arr 0 8 [.agg (q++[.isl (d.map Ty.enc)])]):=(hfr bt hbtl hne).trans ht
  simp [c20L2,hbt,hq,hdq]
theorem copyI_loop (B : Nat) (HH0 : Avm.H) (bt bo : Nat) (A2 K K2 : AV) (q p : List AV) (it : List It) (hq : q.length=6) (hp : p.length=6) (hlen : it.length≤67108864) (hbd : ∀ y ∈ it,y.dflt.length≤67108864∧∀ d ∈ y.dflt,d.size≤67108864)
    (ht : HH0[bt]? = some (.arr 0 8 [.agg (q++[.isl (it.map It.enc),K])])) (hx : HH0[bo]? = some (.arr 0 8 [.agg (p++[.esl,K2])])) (hne : bt ≠ bo) (hB : B≤bo) (ih : ∀ y ∈ it,∀ h',callL cfg B 20 [y.of.enc] h'=some (y.of.enc,h')) :
    ∃ HH1 v,roundsL (evC (callL cfg) roundsL cfg.pol B B c20L1) [1,2,3,4] [(1,.ptr bt 0 8 0 0),(2,A2),(3,.ptr bo 0 8 0 0),(4,.int .i64 0)] HH0 =
        some (.exit 0,[(1,.ptr bt 0 8 0 0),(2,A2),(3,.ptr bo 0 8 0 0),(4,.int .i64 it.length)],HH1) ∧
     HH1[bo]? = some (.arr 0 8 [.agg (p++[v,K2])])∧SlcAt HH0.length 12 HH1 (it.map It.enc) v∧HH0.length≤HH1.length∧∀ k,k < HH0.length→k ≠ bo→HH1[k]? = HH0[k]?:=by
 have hbol:=(List.getElem?_eq_some_iff.1 hx).1
 have hbtl:=(List.getElem?_eq_some_iff.1 ht).1
 have hdq : List.drop 6 (q++[AV.isl (it.map It.enc),K])=[AV.isl (it.map It.enc),K]:=by rw [← hq,List.drop_left]
 have hdp : ∀ v : AV,List.drop 6 (p++[v,K2])=[v,K2]:=fun v=>by rw [← hp,List.drop_left]
 have htp : ∀ v : AV,List.take 6 (p++[v,K2])=p:=fun v=>by rw [← hp,List.take_left]
 have hd7 : ∀ v : AV,List.drop 7 (p++[v,K2])=[K2]:=fun v=>by
  have : p++[v,K2]=(p++[v])++[K2]:=by simp
  rw [this,← (show (p++[v]).length=7 by simp [hp]),List.drop_left]
 have hnb : ¬ bo < B:=by omega
 have hlp:=loop_post (γ:=AV × Avm.H) (f:=evC (callL cfg) roundsL cfg.pol B B c20L1) (keep:=[1,2,3,4]) it
  (fun j c=>c.2[bo]? = some (.arr 0 8 [.agg (p++[c.1,K2])])∧SlcAt HH0.length 12 c.2 ((it.take j).map It.enc) c.1∧HH0.length≤c.2.length∧∀ k,k < HH0.length→k ≠ bo→c.2[k]? = HH0[k]?)
  (fun j _=>[(1,.ptr bt 0 8 0 0),(2,A2),(3,.ptr bo 0 8 0 0),(4,.int .i64 j)]) (fun _ c=>c.2)
  (fun _ _ r=>∃ v HH1,r=(.exit 0,[(1,.ptr bt 0 8 0 0),(2,A2),(3,.ptr bo 0 8 0 0),(4,.int .i64 it.length)],HH1)∧HH1[bo]? = some (.arr 0 8 [.agg (p++[v,K2])])∧SlcAt HH0.length 12 HH1 (it.map It.enc) v∧HH0.length≤HH1.length∧∀ k,k < HH0.length→k ≠ bo→HH1[k]? = HH0[k]?) ?_ ?_ (.esl,HH0) ⟨hx,.inl ⟨rfl,rfl⟩,Nat.le_refl _,fun _ _ _=>rfl⟩
 ·obtain ⟨r,h1,v,HH1,rfl,h2⟩:=hlp
  exact ⟨HH1,v,by simpa using h1,h2⟩
 ·intro j y r c hd hj hyy hI Kk hK
  have hw:=wrap_nat (n:=j + 1) (by omega)
  simp at hw
  have hm1 : y ∈ it:=by rw [← hyy]; exact List.getElem_mem hj
  have htk : it.take (j + 1)=it.take j++[y]:=by rw [List.take_succ_eq_append_getElem hj,hyy]
  have hll : (it.take j).length=j:=by simp; omega
  rw [htk] at hK
  simp only [List.map_append] at hK
  obtain ⟨v,HH⟩:=c
  obtain ⟨hbo,hsl,hle,hfr⟩:=hI
  dsimp only at hbo hsl hle hfr
  have hbt : HH[bt]? = some (.arr 0 8 [.agg (q++[.isl (it.map It.enc),K])]):=(hfr bt hbtl hne).trans ht
  have hboL:=(List.getElem?_eq_some_iff.1 hbo).1
  have hbtL:=(List.getElem?_eq_some_iff.1 hbt).1
  have hcl:=fun h'=>ih y hm1 h'
  simp at hcl
  obtain ⟨HH2,vd,hin,hbx2,hsd,hle2,hfr2⟩:=copyD_loop B (HH++[.arr 0 12 [.agg ([.str y.name,.int .i64 y.of.kind,.str y.of.name,.int .i64 y.of.lo,.int .i64 y.of.hi,.bool y.of.free,.bool y.of.ext,.isl (y.of.items.map It.enc),.isl (y.of.kids.map Ty.enc),.bool y.opt,.bool y.extra]++[.esl])]]) bt HH.length A2 (.ptr bo 0 8 0 0) K
   [.str y.name,.int .i64 y.of.kind,.str y.of.name,.int .i64 y.of.lo,.int .i64 y.of.hi,.bool y.of.free,.bool y.of.ext,.isl (y.of.items.map It.enc),.isl (y.of.kids.map Ty.enc),.bool y.opt,.bool y.extra] q it j hj y y.dflt hyy rfl rfl hq (hbd y hm1).1 (hbd y hm1).2
   (by rw [List.getElem?_append_left hbtL]; exact hbt) (by simp) (by omega) (by omega) (by simp)
  simp at hin
  have hbt2 : HH2[bt]? = some (.arr 0 8 [.agg (q++[.isl (it.map It.enc),K])]):=by rw [hfr2 bt (by simp; omega) (by omega),List.getElem?_append_left hbtL]; exact hbt
  have hbo2 : HH2[bo]? = some (.arr 0 8 [.agg (p++[v,K2])]):=by rw [hfr2 bo (by simp; omega) (by omega),List.getElem?_append_left hboL]; exact hbo
  have hl2 : HH.length + 1≤HH2.length:=by simpa using hle2
  have hboL2:=(List.getElem?_eq_some_iff.1 hbo2).1
  have hsl2 : SlcAt HH0.length 12 HH2 ((it.take j).map It.enc) v:=by
   rcases hsl with h | ⟨b,ver,h1,h2,h3⟩
   ·exact .inl h
   ·have hbL:=(List.getElem?_eq_some_iff.1 h3).1
    exact .inr ⟨b,ver,h1,h2,by rw [hfr2 b (by simp; omega) (by omega),List.getElem?_append_left hbL]; exact h3⟩
  obtain ⟨HH3,hfz,hl3,hfr3⟩ : ∃ HH3,frz B 7 vd HH2=some (.isl (y.dflt.map Val.enc),HH3)∧HH3.length=HH2.length∧∀ k,k < HH.length + 1→HH3[k]? = HH2[k]?:=by
   rcases hsd with ⟨he,rfl⟩ | ⟨b,ver,h1,rfl,h3⟩
   ·have he : y.dflt=[]:=by simpa using he
    exact ⟨HH2,by simp [he],rfl,fun _ _=>rfl⟩
   ·refine ⟨HH2.set b (.dead (ver + 1)),?_,by simp,fun k hk=>by
      have : b ≠ k:=by simp at h1; omega
      rw [List.getElem?_set_ne this]⟩
    have : ¬ b < B:=by simp at h1; omega
    simp [h3,this]
  have hbo3 : HH3[bo]? = some (.arr 0 8 [.agg (p++[v,K2])]):=(hfr3 bo (by omega)).trans hbo2
  have hboL3:=(List.getElem?_eq_some_iff.1 hbo3).1
  have hBH : B≤HH.length:=by omega
  have hnH : ¬ HH.length < B:=by omega
  generalize hls : it.take j=ls at hK hsl hsl2 hll
  rcases hsl2 with ⟨he,hv⟩ | ⟨b,ver,hbn,hv,hbl⟩
  ·subst hv
   have he : ls=[]:=by simpa using he
   subst he
   obtain ⟨o',h4,h5⟩:=hK (.osl (HH3.length + 1) 0 12 0 1,List.set (HH3++[ABlock.arr 0 12 [y.enc],ABlock.arr 0 12 [y.enc]]) bo (.arr 0 8 [.agg (p++[.osl (HH3.length + 1) 0 12 0 1,K2])]))
    ⟨by rw [List.getElem?_set_self (by simp; omega)],.inr ⟨HH3.length + 1,0,by omega,by simp,by rw [List.getElem?_set_ne (by omega)]; simp⟩,by simp; omega,fun k h1 h2=>by
     rw [List.getElem?_set_ne (fun e=>h2 e.symm),List.getElem?_append_left (by omega),hfr3 k (by omega),hfr2 k (by simp; omega) (by omega),List.getElem?_append_left (by omega)]; exact hfr k h1 h2⟩
   refine ⟨o',?_,h5⟩
   simp at h4
   simp [c20L1,hbt,hq,hp,hdq,hdp,htp,hd7,hj,hyy,hcl,hw,List.getElem?_append_left hbtL,hBH,hnH,hin,hbo2,hbx2,hfz,hbo3,bslP,appended,appI,List.getElem?_append_left hboL3,hB,hnb,h4]
  ·subst hv
   have hbL:=(List.getElem?_eq_some_iff.1 hbl).1
   have hbne : b ≠ bo:=by omega
   have hbH : b < HH.length:=by
    rcases hsl with ⟨_,h⟩ | ⟨b',ver',h1,h2,h3⟩
    ·cases h
    ·injection h2 with h2; subst h2; exact (List.getElem?_eq_some_iff.1 h3).1
   have hbl3 : HH3[b]? = some (.arr ver 12 (ls.map It.enc)):=(hfr3 b (by omega)).trans hbl
   have hbL3:=(List.getElem?_eq_some_iff.1 hbl3).1
   have hfl' : ls.length + 1≤4294967296:=by omega
   have hBb : B≤b:=by omega
   have hBb2 : ¬ b < B:=by omega
   obtain ⟨o',h4,h5⟩:=hK (.osl b (ver + 1) 12 0 (ls.length + 1),List.set (List.set (HH3++[ABlock.arr 0 12 [y.enc]]) b (.arr (ver + 1) 12 (ls.map It.enc++[y.enc]))) bo (.arr 0 8 [.agg (p++[.osl b (ver + 1) 12 0 (ls.length + 1),K2])]))
    ⟨by rw [List.getElem?_set_self (by simp; omega)],.inr ⟨b,ver + 1,hbn,by simp,by rw [List.getElem?_set_ne (fun e=>hbne e.symm),List.getElem?_set_self (by simp; omega)]; simp⟩,by simp; omega,fun k h1 h2=>by
     rw [List.getElem?_set_ne (fun e=>h2 e.symm),List.getElem?_set_ne (by omega),List.getElem?_append_left (by omega),hfr3 k (by omega),hfr2 k (by simp; omega) (by omega),List.getElem?_append_left (by omega)]; exact hfr k h1 h2⟩
   refine ⟨o',?_,h5⟩
   simp at h4
   simp [c20L1,hbt,hq,hp,hdq,hdp,htp,hd7,hj,hyy,hcl,hw,List.getElem?_append_left hbtL,hBH,hnH,hin,hbo2,hbx2,hfz,hbo3,bslP,appended,appI,List.getElem?_append_left hboL3,hB,hnb,h4,hbl3,List.getElem?_append_left hbL3,hBb,hBb2,hfl',List.getElem?_set_ne hbne]
 ·intro c Kk hI
  refine ⟨_,?_,c.1,c.2,rfl,by simpa using hI⟩
  obtain ⟨v,HH⟩:=c
  obtain ⟨hbx,hsl,hle,hfr⟩:=hI
  have hbt : HH[bt]? = some (.arr 0 8 [.agg (q++[.isl (it.map It.enc),K])]):=(hfr bt hbtl hne).trans ht
  simp [c20L1,hbt,hq,hdq]
end Go.Proofs.YtflbneepngjglaaGreatDoor
