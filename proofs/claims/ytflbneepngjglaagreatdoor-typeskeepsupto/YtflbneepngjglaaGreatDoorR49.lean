/- Copies of types that lie in memory of one's own. -/
import Derived.Test.YtflbneepngjglaaGreatDoorR48
import Derived.Test.YtflbneepngjglaaGreatDoorR34
set_option linter.all false
namespace Go.Proofs.YtflbneepngjglaaGreatDoor
open Go Go.Avm
theorem copyDA_loop (B : Nat) (HH0 : Avm.H) (bt bx : Nat) (A2 A3 K : AV) (p q : List AV) (it : List It) (i : Nat) (hi : i < it.length) (y0 : It) (d : List Val) (hit : it[i]=y0) (hyd : y0.dflt=d) (hp : p.length=11) (hq : q.length=6) (hlen : d.length≤67108864) (hbd : ∀ y ∈ d,y.size≤67108864)
    (P : Nat) (ht : HH0[bt]? = some (.arr 0 8 [.agg (q++[.osl P 0 12 0 it.length,K])])) (hx : HH0[bx]? = some (.arr 0 12 [.agg (p++[.esl])])) (hP : HH0[P]? = some (.arr 0 12 (it.map It.enc))) (hPx : P ≠ bx) (hne : bt ≠ bx) (hB : B≤bx) (hBl : bx < HH0.length) :
    ∃ HH1 v,roundsL (evC (callL cfg) roundsL cfg.pol B B c20L0) [1,2,3,4,5,6] [(1,.ptr bt 0 8 0 0),(2,A2),(3,A3),(4,.int .i64 i),(5,.ptr bx 0 12 0 0),(6,.int .i64 0)] HH0 =
        some (.exit 2,[(1,.ptr bt 0 8 0 0),(2,A2),(3,A3),(4,.int .i64 i),(5,.ptr bx 0 12 0 0),(6,.int .i64 d.length)],HH1) ∧
     HH1[bx]? = some (.arr 0 12 [.agg (p++[v])])∧SlcAt HH0.length 4 HH1 (d.map Val.enc) v∧HH0.length≤HH1.length∧∀ k,k < HH0.length→k ≠ bx→HH1[k]? = HH0[k]?:=by
 have hbxl:=(List.getElem?_eq_some_iff.1 hx).1
 have hbtl:=(List.getElem?_eq_some_iff.1 ht).1
 have hPl:=(List.getElem?_eq_some_iff.1 hP).1
 have hdq : List.drop 6 (q++[AV.osl P 0 12 0 it.length,K])=[AV.osl P 0 12 0 it.length,K]:=by rw [← hq,List.drop_left]
 have hdp : ∀ v : AV,List.drop 11 (p++[v])=[v]:=fun v=>by rw [← hp,List.drop_left]
 have htp : ∀ v : AV,List.take 11 (p++[v])=p:=fun v=>by rw [← hp,List.take_left]
 have hd12 : ∀ v : AV,List.drop 12 (p++[v])=[]:=fun v=>by apply List.drop_eq_nil_of_le; simp [hp]
 have hnb : ¬ bx < B:=by omega
 have hlp:=loop_post (γ:=AV × Avm.H) (f:=evC (callL cfg) roundsL cfg.pol B B c20L0) (keep:=[1,2,3,4,5,6]) d
  (fun j c=>c.2[bx]? = some (.arr 0 12 [.agg (p++[c.1])])∧SlcAt HH0.length 4 c.2 ((d.take j).map Val.enc) c.1∧HH0.length≤c.2.length∧∀ k,k < HH0.length→k ≠ bx→c.2[k]? = HH0[k]?)
  (fun j _=>[(1,.ptr bt 0 8 0 0),(2,A2),(3,A3),(4,.int .i64 i),(5,.ptr bx 0 12 0 0),(6,.int .i64 j)]) (fun _ c=>c.2)
  (fun _ _ r=>∃ v HH1,r=(.exit 2,[(1,.ptr bt 0 8 0 0),(2,A2),(3,A3),(4,.int .i64 i),(5,.ptr bx 0 12 0 0),(6,.int .i64 d.length)],HH1)∧HH1[bx]? = some (.arr 0 12 [.agg (p++[v])])∧SlcAt HH0.length 4 HH1 (d.map Val.enc) v∧HH0.length≤HH1.length∧∀ k,k < HH0.length→k ≠ bx→HH1[k]? = HH0[k]?) ?_ ?_ (.esl,HH0) ⟨hx,.inl ⟨rfl,rfl⟩,Nat.le_refl _,fun _ _ _=>rfl⟩
 ·obtain ⟨r,h1,v,HH1,rfl,h2⟩:=hlp
  exact ⟨HH1,v,by simpa using h1,h2⟩
 ·intro j y r c hd hj hyy hI Kk hK
  have hw:=wrap_nat (n:=j + 1) (by omega)
  simp at hw
  have hm1 : y ∈ d:=by rw [← hyy]; exact List.getElem_mem hj
  have htk : d.take (j + 1)=d.take j++[y]:=by rw [List.take_succ_eq_append_getElem hj,hyy]
  have hll : (d.take j).length=j:=by simp; omega
  have hcl:=fun h'=>copyO_ok _ y (Nat.le_refl _) (hbd y hm1) B h'
  rw [htk] at hK
  simp only [List.map_append] at hK
  obtain ⟨v,HH⟩:=c
  obtain ⟨hbx,hsl,hle,hfr⟩:=hI
  dsimp only at hbx hsl hle hfr
  have hbt : HH[bt]? = some (.arr 0 8 [.agg (q++[.osl P 0 12 0 it.length,K])]):=(hfr bt hbtl hne).trans ht
  have hPP : HH[P]? = some (.arr 0 12 (it.map It.enc)):=(hfr P hPl hPx).trans hP
  have hPL:=(List.getElem?_eq_some_iff.1 hPP).1
  have hbxL:=(List.getElem?_eq_some_iff.1 hbx).1
  have hbtL:=(List.getElem?_eq_some_iff.1 hbt).1
  generalize hls : d.take j=ls at hK hsl hll
  by_cases hy0 : y.items=[]
  ·simp only [cpV,cpH,if_pos hy0] at hcl
   simp [hy0] at hcl
   rcases hsl with ⟨he,hv⟩ | ⟨b,ver,hbn,hv,hbl⟩
   ·subst hv
    have he : ls=[]:=by simpa using he
    subst he
    obtain ⟨o',h4,h5⟩:=hK (.osl (HH.length + 1) 0 4 0 1,List.set (HH++[ABlock.arr 0 4 [y.enc],ABlock.arr 0 4 [y.enc]]) bx (.arr 0 12 [.agg (p++[.osl (HH.length + 1) 0 4 0 1])]))
     ⟨by rw [List.getElem?_set_self (by simp; omega)],.inr ⟨HH.length + 1,0,by omega,by simp,by rw [List.getElem?_set_ne (by omega)]; simp⟩,by simp; omega,fun k h1 h2=>by
      rw [List.getElem?_set_ne (fun e=>h2 e.symm),List.getElem?_append_left (by omega)]; exact hfr k h1 h2⟩
    refine ⟨o',?_,h5⟩
    simp [hy0] at h4
    simp [c20L0,hbt,hPP,List.getElem?_append_left hPL,hbx,hq,hp,hdq,hdp,htp,hd12,hi,hit,hyd,hy0,hj,hyy,hcl,hw,bslP,appended,appI,hB,hnb,List.getElem?_append_left hbxL,List.getElem?_append_left hbtL,h4,List.getElem?_set_self']
   ·subst hv
    have hbL:=(List.getElem?_eq_some_iff.1 hbl).1
    have hbne : b ≠ bx:=by omega
    have hfl' : ls.length + 1≤4294967296:=by omega
    obtain ⟨o',h4,h5⟩:=hK (.osl b (ver + 1) 4 0 (ls.length + 1),List.set (List.set (HH++[ABlock.arr 0 4 [y.enc]]) b (.arr (ver + 1) 4 (ls.map Val.enc++[y.enc]))) bx (.arr 0 12 [.agg (p++[.osl b (ver + 1) 4 0 (ls.length + 1)])]))
     ⟨by rw [List.getElem?_set_self (by simp; omega)],.inr ⟨b,ver + 1,hbn,by simp,by rw [List.getElem?_set_ne (fun e=>hbne e.symm),List.getElem?_set_self (by simp; omega)]; simp⟩,by simp; omega,fun k h1 h2=>by
      rw [List.getElem?_set_ne (fun e=>h2 e.symm),List.getElem?_set_ne (by omega),List.getElem?_append_left (by omega)]; exact hfr k h1 h2⟩
    refine ⟨o',?_,h5⟩
    have hBb : B≤b:=by omega
    have hBb2 : ¬ b < B:=by omega
    simp [hy0] at h4
    simp [c20L0,hbt,hPP,List.getElem?_append_left hPL,hbx,hbl,hq,hp,hdq,hdp,htp,hd12,hi,hit,hyd,hy0,hj,hyy,hcl,hw,bslP,appended,appI,hB,hnb,List.getElem?_append_left hbxL,List.getElem?_append_left hbtL,List.getElem?_append_left hbL,h4,List.getElem?_set_self',hBb,hBb2,hfl',hbne,List.getElem?_set_ne hbne]
  ·simp only [cpV,cpH,if_neg hy0] at hcl
   simp at hcl
   have hBHH : B≤HH.length:=by omega
   have hnHH : ¬ HH.length < B:=by omega
   rcases hsl with ⟨he,hv⟩ | ⟨b,ver,hbn,hv,hbl⟩
   ·subst hv
    have he : ls=[]:=by simpa using he
    subst he
    obtain ⟨o',h4,h5⟩:=hK (.osl (HH.length + 2) 0 4 0 1,List.set (HH++[ABlock.dead 1,ABlock.arr 0 4 [y.enc],ABlock.arr 0 4 [y.enc]]) bx (.arr 0 12 [.agg (p++[.osl (HH.length + 2) 0 4 0 1])]))
     ⟨by rw [List.getElem?_set_self (by simp; omega)],.inr ⟨HH.length + 2,0,by omega,by simp,by rw [List.getElem?_set_ne (by omega)]; simp⟩,by simp; omega,fun k h1 h2=>by
      rw [List.getElem?_set_ne (fun e=>h2 e.symm),List.getElem?_append_left (by omega)]; exact hfr k h1 h2⟩
    refine ⟨o',?_,h5⟩
    simp at h4
    simp [c20L0,hbt,hPP,List.getElem?_append_left hPL,hbx,hq,hp,hdq,hdp,htp,hd12,hi,hit,hyd,hBHH,hnHH,hj,hyy,hcl,hw,bslP,appended,appI,hB,hnb,List.getElem?_append_left hbxL,List.getElem?_append_left hbtL,h4,List.getElem?_set_self']
   ·subst hv
    have hbL:=(List.getElem?_eq_some_iff.1 hbl).1
    have hbne : b ≠ bx:=by omega
    have hfl' : ls.length + 1≤4294967296:=by omega
    obtain ⟨o',h4,h5⟩:=hK (.osl b (ver + 1) 4 0 (ls.length + 1),List.set (List.set (HH++[ABlock.dead 1,ABlock.arr 0 4 [y.enc]]) b (.arr (ver + 1) 4 (ls.map Val.enc++[y.enc]))) bx (.arr 0 12 [.agg (p++[.osl b (ver + 1) 4 0 (ls.length + 1)])]))
     ⟨by rw [List.getElem?_set_self (by simp; omega)],.inr ⟨b,ver + 1,hbn,by simp,by rw [List.getElem?_set_ne (fun e=>hbne e.symm),List.getElem?_set_self (by simp; omega)]; simp⟩,by simp; omega,fun k h1 h2=>by
      rw [List.getElem?_set_ne (fun e=>h2 e.symm),List.getElem?_set_ne (by omega),List.getElem?_append_left (by omega)]; exact hfr k h1 h2⟩
    refine ⟨o',?_,h5⟩
    have hBb : B≤b:=by omega
    have hBb2 : ¬ b < B:=by omega
    simp at h4
    simp [c20L0,hbt,hPP,List.getElem?_append_left hPL,hbx,hbl,hq,hp,hdq,hdp,htp,hd12,hi,hit,hyd,hBHH,hnHH,hj,hyy,hcl,hw,bslP,appended,appI,hB,hnb,List.getElem?_append_left hbxL,List.getElem?_append_left hbtL,List.getElem?_append_left hbL,h4,List.getElem?_set_self',hBb,hBb2,hfl',hbne,List.getElem?_set_ne hbne]
 ·intro c Kk hI
  refine ⟨_,?_,c.1,c.2,rfl,by simpa using hI⟩
  obtain ⟨v,HH⟩:=c
  obtain ⟨hbx,hsl,hle,hfr⟩:=hI
  have hbt : HH[bt]? = some (.arr 0 8 [.agg (q++[.osl P 0 12 0 it.length,K])]):=(hfr bt hbtl hne).trans ht
  have hPP : HH[P]? = some (.arr 0 12 (it.map It.enc)):=(hfr P hPl hPx).trans hP
  simp [c20L0,hbt,hPP,hq,hdq,hi,hit,hyd]
theorem copyKA_loop (B : Nat) (HH0 : Avm.H) (bt bx : Nat) (A2 : AV) (p q : List AV) (d : List Ty) (hp : p.length=7) (hq : q.length=7) (hb : d.length≤67108864)
    (P : Nat) (hP : HH0[P]? = some (.arr 0 8 (d.map Ty.enc))) (hPx : P ≠ bx) (ht : HH0[bt]? = some (.arr 0 8 [.agg (q++[.osl P 0 8 0 d.length])])) (hx : HH0[bx]? = some (.arr 0 8 [.agg (p++[.esl])])) (hne : bt ≠ bx) (hB : B≤bx) (hBl : bx < HH0.length) (ih : ∀ x ∈ d,∀ h',callL cfg B 20 [x.enc] h'=some (x.enc,h')) :
    ∃ HH1 v,roundsL (evC (callL cfg) roundsL cfg.pol B B c20L2) [1,2,3,7] [(1,.ptr bt 0 8 0 0),(2,A2),(3,.ptr bx 0 8 0 0),(7,.int .i64 0)] HH0 =
        some (.exit 4,[(1,.ptr bt 0 8 0 0),(2,A2),(3,.ptr bx 0 8 0 0),(7,.int .i64 d.length)],HH1) ∧
     HH1[bx]? = some (.arr 0 8 [.agg (p++[v])])∧SlcAt HH0.length 8 HH1 (d.map Ty.enc) v∧HH0.length≤HH1.length∧∀ k,k < HH0.length→k ≠ bx→HH1[k]? = HH0[k]?:=by
 have hbxl:=(List.getElem?_eq_some_iff.1 hx).1
 have hbtl:=(List.getElem?_eq_some_iff.1 ht).1
 have hPl:=(List.getElem?_eq_some_iff.1 hP).1
 have hdq : List.drop 7 (q++[AV.osl P 0 8 0 d.length])=[AV.osl P 0 8 0 d.length]:=by rw [← hq,List.drop_left]
 have hdp : ∀ v : AV,List.drop 7 (p++[v])=[v]:=fun v=>by rw [← hp,List.drop_left]
 have htp : ∀ v : AV,List.take 7 (p++[v])=p:=fun v=>by rw [← hp,List.take_left]
 have hd12 : ∀ v : AV,List.drop 8 (p++[v])=[]:=fun v=>by apply List.drop_eq_nil_of_le; simp [hp]
 have hnb : ¬ bx < B:=by omega
 have hlp:=loop_post (γ:=AV × Avm.H) (f:=evC (callL cfg) roundsL cfg.pol B B c20L2) (keep:=[1,2,3,7]) d
  (fun j c=>c.2[bx]? = some (.arr 0 8 [.agg (p++[c.1])])∧SlcAt HH0.length 8 c.2 ((d.take j).map Ty.enc) c.1∧HH0.length≤c.2.length∧∀ k,k < HH0.length→k ≠ bx→c.2[k]? = HH0[k]?)
  (fun j _=>[(1,.ptr bt 0 8 0 0),(2,A2),(3,.ptr bx 0 8 0 0),(7,.int .i64 j)]) (fun _ c=>c.2)
  (fun _ _ r=>∃ v HH1,r=(.exit 4,[(1,.ptr bt 0 8 0 0),(2,A2),(3,.ptr bx 0 8 0 0),(7,.int .i64 d.length)],HH1)∧HH1[bx]? = some (.arr 0 8 [.agg (p++[v])])∧SlcAt HH0.length 8 HH1 (d.map Ty.enc) v∧HH0.length≤HH1.length∧∀ k,k < HH0.length→k ≠ bx→HH1[k]? = HH0[k]?) ?_ ?_ (.esl,HH0) ⟨hx,.inl ⟨rfl,rfl⟩,Nat.le_refl _,fun _ _ _=>rfl⟩
 ·obtain ⟨r,h1,v,HH1,rfl,h2⟩:=hlp
  exact ⟨HH1,v,by simpa using h1,h2⟩
 ·intro j y r c hd hj hyy hI Kk hK
  have hw:=wrap_nat (n:=j + 1) (by omega)
  simp at hw
  have hm1 : y ∈ d:=by rw [← hyy]; exact List.getElem_mem hj
  have htk : d.take (j + 1)=d.take j++[y]:=by rw [List.take_succ_eq_append_getElem hj,hyy]
  have hll : (d.take j).length=j:=by simp; omega
  have hcl:=fun h'=>ih y hm1 h'
  rw [htk] at hK
  simp only [List.map_append] at hK
  obtain ⟨v,HH⟩:=c
  obtain ⟨hbx,hsl,hle,hfr⟩:=hI
  dsimp only at hbx hsl hle hfr
  have hbt : HH[bt]? = some (.arr 0 8 [.agg (q++[.osl P 0 8 0 d.length])]):=(hfr bt hbtl hne).trans ht
  have hPP : HH[P]? = some (.arr 0 8 (d.map Ty.enc)):=(hfr P hPl hPx).trans hP
  have hPL:=(List.getElem?_eq_some_iff.1 hPP).1
  have hbxL:=(List.getElem?_eq_some_iff.1 hbx).1
  have hbtL:=(List.getElem?_eq_some_iff.1 hbt).1
  simp at hcl
  generalize hls : d.take j=ls at hK hsl hll
  rcases hsl with ⟨he,hv⟩ | ⟨b,ver,hbn,hv,hbl⟩
  ·subst hv
   have he : ls=[]:=by simpa using he
   subst he
   obtain ⟨o',h4,h5⟩:=hK (.osl (HH.length + 1) 0 8 0 1,List.set (HH++[ABlock.arr 0 8 [y.enc],ABlock.arr 0 8 [y.enc]]) bx (.arr 0 8 [.agg (p++[.osl (HH.length + 1) 0 8 0 1])]))
    ⟨by rw [List.getElem?_set_self (by simp; omega)],.inr ⟨HH.length + 1,0,by omega,by simp,by rw [List.getElem?_set_ne (by omega)]; simp⟩,by simp; omega,fun k h1 h2=>by
     rw [List.getElem?_set_ne (fun e=>h2 e.symm),List.getElem?_append_left (by omega)]; exact hfr k h1 h2⟩
   refine ⟨o',?_,h5⟩
   simp at h4
   simp [c20L2,hbt,hPP,List.getElem?_append_left hPL,hbx,hq,hp,hdq,hdp,htp,hd12,hj,hyy,hcl,hw,bslP,appended,appI,hB,hnb,List.getElem?_append_left hbxL,List.getElem?_append_left hbtL,h4,List.getElem?_set_self']
  ·subst hv
   have hbL:=(List.getElem?_eq_some_iff.1 hbl).1
   have hbne : b ≠ bx:=by omega
   have hfl' : ls.length + 1≤4294967296:=by omega
   obtain ⟨o',h4,h5⟩:=hK (.osl b (ver + 1) 8 0 (ls.length + 1),List.set (List.set (HH++[ABlock.arr 0 8 [y.enc]]) b (.arr (ver + 1) 8 (ls.map Ty.enc++[y.enc]))) bx (.arr 0 8 [.agg (p++[.osl b (ver + 1) 8 0 (ls.length + 1)])]))
    ⟨by rw [List.getElem?_set_self (by simp; omega)],.inr ⟨b,ver + 1,hbn,by simp,by rw [List.getElem?_set_ne (fun e=>hbne e.symm),List.getElem?_set_self (by simp; omega)]; simp⟩,by simp; omega,fun k h1 h2=>by
     rw [List.getElem?_set_ne (fun e=>h2 e.symm),List.getElem?_set_ne (by omega),List.getElem?_append_left (by omega)]; exact hfr k h1 h2⟩
   refine ⟨o',?_,h5⟩
   have hBb : B≤b:=by omega
   have hBb2 : ¬ b < B:=by omega
   simp at h4
   simp [c20L2,hbt,hPP,List.getElem?_append_left hPL,hbx,hbl,hq,hp,hdq,hdp,htp,hd12,hj,hyy,hcl,hw,bslP,appended,appI,hB,hnb,List.getElem?_append_left hbxL,List.getElem?_append_left hbtL,List.getElem?_append_left hbL,h4,List.getElem?_set_self',hBb,hBb2,hfl',hbne,List.getElem?_set_ne hbne]
 ·intro c Kk hI
  refine ⟨_,?_,c.1,c.2,rfl,by simpa using hI⟩
  obtain ⟨v,HH⟩:=c
  obtain ⟨hbx,hsl,hle,hfr⟩:=hI
  have hbt : HH[bt]? = some (.arr 0 8 [.agg (q++[.osl P 0 8 0 d.length])]):=(hfr bt hbtl hne).trans ht
  have hPP : HH[P]? = some (.arr 0 8 (d.map Ty.enc)):=(hfr P hPl hPx).trans hP
  simp [c20L2,hbt,hPP,hq,hdq]
theorem copyIA_loop (B : Nat) (HH0 : Avm.H) (bt bo : Nat) (A2 K K2 : AV) (q p : List AV) (it : List It) (hq : q.length=6) (hp : p.length=6) (hlen : it.length≤67108864) (hbd : ∀ y ∈ it,y.dflt.length≤67108864∧∀ d ∈ y.dflt,d.size≤67108864)
    (P : Nat) (hP : HH0[P]? = some (.arr 0 12 (it.map It.enc))) (hPx : P ≠ bo) (ht : HH0[bt]? = some (.arr 0 8 [.agg (q++[.osl P 0 12 0 it.length,K])])) (hx : HH0[bo]? = some (.arr 0 8 [.agg (p++[.esl,K2])])) (hne : bt ≠ bo) (hB : B≤bo) (ih : ∀ y ∈ it,∀ h',callL cfg B 20 [y.of.enc] h'=some (y.of.enc,h')) :
    ∃ HH1 v,roundsL (evC (callL cfg) roundsL cfg.pol B B c20L1) [1,2,3,4] [(1,.ptr bt 0 8 0 0),(2,A2),(3,.ptr bo 0 8 0 0),(4,.int .i64 0)] HH0 =
        some (.exit 0,[(1,.ptr bt 0 8 0 0),(2,A2),(3,.ptr bo 0 8 0 0),(4,.int .i64 it.length)],HH1) ∧
     HH1[bo]? = some (.arr 0 8 [.agg (p++[v,K2])])∧SlcAt HH0.length 12 HH1 (it.map It.enc) v∧HH0.length≤HH1.length∧∀ k,k < HH0.length→k ≠ bo→HH1[k]? = HH0[k]?:=by
 have hbol:=(List.getElem?_eq_some_iff.1 hx).1
 have hbtl:=(List.getElem?_eq_some_iff.1 ht).1
 have hPl:=(List.getElem?_eq_some_iff.1 hP).1
 have hdq : List.drop 6 (q++[AV.osl P 0 12 0 it.length,K])=[AV.osl P 0 12 0 it.length,K]:=by rw [← hq,List.drop_left]
 have hdp : ∀ v : AV,List.drop 6 (p++[v,K2])=[v,K2]:=fun v=>by rw [← hp,List.drop_left]
 have htp : ∀ v : AV,List.take 6 (p++[v,K2])=p:=fun v=>by rw [← hp,List.take_left]
 have hd7 : ∀ v : AV,List.drop 7 (p++[v,K2])=[K2]:=fun v=>by
  have : p++[v,K2]=(p++[v])++[K2]:=by simp
  rw [this,← (show (p++[v]).length=7 by simp [hp]),List.drop_left]
 have hnb : ¬ bo < B:=by omega
 have hlp:=loop_post (γ:=AV × Avm.H) (f:=evC (callL cfg) roundsL cfg.pol B B c20L1) (keep:=[1,2,3,4]) it
  (fun j c=>c.2[bo]? = some (.arr 0 8 [.agg (p++[c.1,K2])])∧SlcAt HH0.length 12 c.2 ((it.take j).map It.enc) c.1∧HH0.length≤c.2.length∧∀ k,k < HH0.length→k ≠ bo→c.2[k]? = HH0[k]?)
  (fun j _=>[(1,.ptr bt 0 8 0 0),(2,A2),(3,.ptr bo 0 8 0 0),(4,.int .i64 j)]) (fun _ c=>c.2)
  (fun _ _ r=>∃ v HH1,r=(.exit 0,[(1,.ptr bt 0 8 0 0),(2,A2),(3,.ptr bo 0 8 0 0),(4,.int .i64 it.length)],HH1)∧HH1[bo]? = some (.arr 0 8 [.agg (p++[v,K2])])∧SlcAt HH0.length 12 HH1 (it.map It.enc) v∧HH0.length≤HH1.length∧∀ k,k < HH0.length→k ≠ bo→HH1[k]? = HH0[k]?) ?_ ?_ (.esl,HH0) ⟨hx,.inl ⟨rfl,rfl⟩,Nat.le_refl _,fun _ _ _=>rfl⟩
 ·obtain ⟨r,h1,v,HH1,rfl,h2⟩:=hlp
  exact ⟨HH1,v,by simpa using h1,h2⟩
 ·intro j y r c hd hj hyy hI Kk hK
  have hw:=wrap_nat (n:=j + 1) (by omega)
  simp at hw
  have hm1 : y ∈ it:=by rw [← hyy]; exact List.getElem_mem hj
  have htk : it.take (j + 1)=it.take j++[y]:=by rw [List.take_succ_eq_append_getElem hj,hyy]
  have hll : (it.take j).length=j:=by simp; omega
  rw [htk] at hK
  simp only [List.map_append] at hK
  obtain ⟨v,HH⟩:=c
  obtain ⟨hbo,hsl,hle,hfr⟩:=hI
  dsimp only at hbo hsl hle hfr
  have hbt : HH[bt]? = some (.arr 0 8 [.agg (q++[.osl P 0 12 0 it.length,K])]):=(hfr bt hbtl hne).trans ht
  have hPP : HH[P]? = some (.arr 0 12 (it.map It.enc)):=(hfr P hPl hPx).trans hP
  have hPL:=(List.getElem?_eq_some_iff.1 hPP).1
  have hboL:=(List.getElem?_eq_some_iff.1 hbo).1
  have hbtL:=(List.getElem?_eq_some_iff.1 hbt).1
  have hcl:=fun h'=>ih y hm1 h'
  simp at hcl
  obtain ⟨HH2,vd,hin,hbx2,hsd,hle2,hfr2⟩:=copyDA_loop B (HH++[.arr 0 12 [.agg ([.str y.name,.int .i64 y.of.kind,.str y.of.name,.int .i64 y.of.lo,.int .i64 y.of.hi,.bool y.of.free,.bool y.of.ext,.isl (y.of.items.map It.enc),.isl (y.of.kids.map Ty.enc),.bool y.opt,.bool y.extra]++[.esl])]]) bt HH.length A2 (.ptr bo 0 8 0 0) K
   [.str y.name,.int .i64 y.of.kind,.str y.of.name,.int .i64 y.of.lo,.int .i64 y.of.hi,.bool y.of.free,.bool y.of.ext,.isl (y.of.items.map It.enc),.isl (y.of.kids.map Ty.enc),.bool y.opt,.bool y.extra] q it j hj y y.dflt hyy rfl rfl hq (hbd y hm1).1 (hbd y hm1).2 P
   (by rw [List.getElem?_append_left hbtL]; exact hbt) (by simp) (by rw [List.getElem?_append_left hPL]; exact hPP) (by omega) (by omega) (by omega) (by simp)
  simp at hin
  have hbt2 : HH2[bt]? = some (.arr 0 8 [.agg (q++[.osl P 0 12 0 it.length,K])]):=by rw [hfr2 bt (by simp; omega) (by omega),List.getElem?_append_left hbtL]; exact hbt
  have hbo2 : HH2[bo]? = some (.arr 0 8 [.agg (p++[v,K2])]):=by rw [hfr2 bo (by simp; omega) (by omega),List.getElem?_append_left hboL]; exact hbo
  have hl2 : HH.length + 1≤HH2.length:=by simpa using hle2
  have hboL2:=(List.getElem?_eq_some_iff.1 hbo2).1
  have hsl2 : SlcAt HH0.length 12 HH2 ((it.take j).map It.enc) v:=by
   rcases hsl with h | ⟨b,ver,h1,h2,h3⟩
   ·exact .inl h
   ·have hbL:=(List.getElem?_eq_some_iff.1 h3).1
    exact .inr ⟨b,ver,h1,h2,by rw [hfr2 b (by simp; omega) (by omega),List.getElem?_append_left hbL]; exact h3⟩
  obtain ⟨HH3,hfz,hl3,hfr3⟩ : ∃ HH3,frz B 7 vd HH2=some (.isl (y.dflt.map Val.enc),HH3)∧HH3.length=HH2.length∧∀ k,k < HH.length + 1→HH3[k]? = HH2[k]?:=by
   rcases hsd with ⟨he,rfl⟩ | ⟨b,ver,h1,rfl,h3⟩
   ·have he : y.dflt=[]:=by simpa using he
    exact ⟨HH2,by simp [he],rfl,fun _ _=>rfl⟩
   ·refine ⟨HH2.set b (.dead (ver + 1)),?_,by simp,fun k hk=>by
      have : b ≠ k:=by simp at h1; omega
      rw [List.getElem?_set_ne this]⟩
    have : ¬ b < B:=by simp at h1; omega
    simp [h3,this]
  have hbo3 : HH3[bo]? = some (.arr 0 8 [.agg (p++[v,K2])]):=(hfr3 bo (by omega)).trans hbo2
  have hboL3:=(List.getElem?_eq_some_iff.1 hbo3).1
  have hBH : B≤HH.length:=by omega
  have hnH : ¬ HH.length < B:=by omega
  generalize hls : it.take j=ls at hK hsl hsl2 hll
  rcases hsl2 with ⟨he,hv⟩ | ⟨b,ver,hbn,hv,hbl⟩
  ·subst hv
   have he : ls=[]:=by simpa using he
   subst he
   obtain ⟨o',h4,h5⟩:=hK (.osl (HH3.length + 1) 0 12 0 1,List.set (HH3++[ABlock.arr 0 12 [y.enc],ABlock.arr 0 12 [y.enc]]) bo (.arr 0 8 [.agg (p++[.osl (HH3.length + 1) 0 12 0 1,K2])]))
    ⟨by rw [List.getElem?_set_self (by simp; omega)],.inr ⟨HH3.length + 1,0,by omega,by simp,by rw [List.getElem?_set_ne (by omega)]; simp⟩,by simp; omega,fun k h1 h2=>by
     rw [List.getElem?_set_ne (fun e=>h2 e.symm),List.getElem?_append_left (by omega),hfr3 k (by omega),hfr2 k (by simp; omega) (by omega),List.getElem?_append_left (by omega)]; exact hfr k h1 h2⟩
   refine ⟨o',?_,h5⟩
   simp at h4
   simp [c20L1,hbt,hPP,List.getElem?_append_left hPL,hq,hp,hdq,hdp,htp,hd7,hj,hyy,hcl,hw,List.getElem?_append_left hbtL,hBH,hnH,hin,hbo2,hbx2,hfz,hbo3,bslP,appended,appI,List.getElem?_append_left hboL3,hB,hnb,h4]
  ·subst hv
   have hbL:=(List.getElem?_eq_some_iff.1 hbl).1
   have hbne : b ≠ bo:=by omega
   have hbH : b < HH.length:=by
    rcases hsl with ⟨_,h⟩ | ⟨b',ver',h1,h2,h3⟩
    ·cases h
    ·injection h2 with h2; subst h2; exact (List.getElem?_eq_some_iff.1 h3).1
   have hbl3 : HH3[b]? = some (.arr ver 12 (ls.map It.enc)):=(hfr3 b (by omega)).trans hbl
   have hbL3:=(List.getElem?_eq_some_iff.1 hbl3).1
   have hfl' : ls.length + 1≤4294967296:=by omega
   have hBb : B≤b:=by omega
   have hBb2 : ¬ b < B:=by omega
   obtain ⟨o',h4,h5⟩:=hK (.osl b (ver + 1) 12 0 (ls.length + 1),List.set (List.set (HH3++[ABlock.arr 0 12 [y.enc]]) b (.arr (ver + 1) 12 (ls.map It.enc++[y.enc]))) bo (.arr 0 8 [.agg (p++[.osl b (ver + 1) 12 0 (ls.length + 1),K2])]))
    ⟨by rw [List.getElem?_set_self (by simp; omega)],.inr ⟨b,ver + 1,hbn,by simp,by rw [List.getElem?_set_ne (fun e=>hbne e.symm),List.getElem?_set_self (by simp; omega)]; simp⟩,by simp; omega,fun k h1 h2=>by
     rw [List.getElem?_set_ne (fun e=>h2 e.symm),List.getElem?_set_ne (by omega),List.getElem?_append_left (by omega),hfr3 k (by omega),hfr2 k (by simp; omega) (by omega),List.getElem?_append_left (by omega)]; exact hfr k h1 h2⟩
   refine ⟨o',?_,h5⟩
   simp at h4
   simp [c20L1,hbt,hPP,List.getElem?_append_left hPL,hq,hp,hdq,hdp,htp,hd7,hj,hyy,hcl,hw,List.getElem?_append_left hbtL,hBH,hnH,hin,hbo2,hbx2,hfz,hbo3,bslP,appended,appI,List.getElem?_append_left hboL3,hB,hnb,h4,hbl3,List.getElem?_append_left hbL3,hBb,hBb2,hfl',List.getElem?_set_ne hbne]
 ·intro c Kk hI
  refine ⟨_,?_,c.1,c.2,rfl,by simpa using hI⟩
  obtain ⟨v,HH⟩:=c
  obtain ⟨hbx,hsl,hle,hfr⟩:=hI
  have hbt : HH[bt]? = some (.arr 0 8 [.agg (q++[.osl P 0 12 0 it.length,K])]):=(hfr bt hbtl hne).trans ht
  have hPP : HH[P]? = some (.arr 0 12 (it.map It.enc)):=(hfr P hPl hPx).trans hP
  simp [c20L1,hbt,hPP,hq,hdq]
theorem copyTypeA_ok (t : Ty) (hb : t.wid≤67108864) (L : Nat) (ws : Nat) (h : Avm.H) (h0 : h[L]? = some (.arr 0 12 (t.items.map It.enc))) (h1' : h[L + 1]? = some (.arr 0 8 (t.kids.map Ty.enc))) : callL cfg ws 20 [otV L t] h=some (t.enc,h):=by
    have hLl:=(List.getElem?_eq_some_iff.1 h0).1
    have hLl1:=(List.getElem?_eq_some_iff.1 h1').1
    have hlk:=t.wid_kids
    have hli:=t.wid_items
    have hbd : ∀ y ∈ t.items,y.dflt.length≤67108864∧∀ d ∈ y.dflt,d.size≤67108864:=fun y hy=>by
     have:=Ty.wid_item hy
     have:=y.wid_dflt
     exact ⟨by omega,fun d hd=>by have:=It.wid_val hd; omega⟩
    obtain ⟨HH1,vi,h1,hbo1,hs1,hl1,hf1⟩:=copyIA_loop h.length (h++[.arr 0 8 [.agg [.int .i64 t.kind,.str t.name,.int .i64 t.lo,.int .i64 t.hi,.bool t.free,.bool t.ext,.osl L 0 12 0 t.items.length,.osl (L + 1) 0 8 0 t.kids.length]],.arr 0 8 [.agg [.int .i64 0,.str ⟨#[]⟩,.int .i64 0,.int .i64 0,.bool false,.bool false,.esl,.esl]],.arr 0 8 [.agg [.int .i64 t.kind,.str t.name,.int .i64 t.lo,.int .i64 t.hi,.bool t.free,.bool t.ext,.esl,.osl (L + 1) 0 8 0 t.kids.length]]])
     h.length (h.length + 2) (.ptr (h.length + 1) 0 8 0 0) (.osl (L + 1) 0 8 0 t.kids.length) (.osl (L + 1) 0 8 0 t.kids.length) [.int .i64 t.kind,.str t.name,.int .i64 t.lo,.int .i64 t.hi,.bool t.free,.bool t.ext] [.int .i64 t.kind,.str t.name,.int .i64 t.lo,.int .i64 t.hi,.bool t.free,.bool t.ext] t.items rfl rfl (by omega) hbd L (by rw [List.getElem?_append_left hLl]; exact h0) (by omega)
     (by simp [otV,otC]) (by simp) (by omega) (by omega) (fun y hy h'=>copyType_ok _ y.of (Nat.le_refl _) (Nat.le_trans (Ty.wid_itof hy) hb) h.length h')
    try simp at h1
    have hL1 : h.length + 3≤HH1.length:=by simpa using hl1
    have hbt1 : HH1[h.length]? = some (.arr 0 8 [.agg [.int .i64 t.kind,.str t.name,.int .i64 t.lo,.int .i64 t.hi,.bool t.free,.bool t.ext,.osl L 0 12 0 t.items.length,.osl (L + 1) 0 8 0 t.kids.length]]):=by rw [hf1 _ (by simp) (by omega)]; simp
    have hbz1 : HH1[h.length + 1]? = some (.arr 0 8 [.agg [.int .i64 0,.str ⟨#[]⟩,.int .i64 0,.int .i64 0,.bool false,.bool false,.esl,.esl]]):=by rw [hf1 _ (by simp) (by omega)]; simp
    have hold1 : ∀ q,q < h.length→HH1[q]? = h[q]?:=fun q hq=>by rw [hf1 q (by simp; omega) (by omega),List.getElem?_append_left hq]
    obtain ⟨HH2,hHH2⟩ : ∃ HH2 : Avm.H,HH2=HH1.set (h.length + 2) (.arr 0 8 [.agg [.int .i64 t.kind,.str t.name,.int .i64 t.lo,.int .i64 t.hi,.bool t.free,.bool t.ext,vi,.esl]]):=⟨_,rfl⟩
    have hL2 : HH2.length=HH1.length:=by rw [hHH2]; simp
    have hbo2 : HH2[h.length + 2]? = some (.arr 0 8 [.agg [.int .i64 t.kind,.str t.name,.int .i64 t.lo,.int .i64 t.hi,.bool t.free,.bool t.ext,vi,.esl]]):=by rw [hHH2,List.getElem?_set_self (by omega)]
    have hf2 : ∀ q,q ≠ h.length + 2→HH2[q]? = HH1[q]?:=fun q hq=>by rw [hHH2,List.getElem?_set_ne (fun e=>hq e.symm)]
    obtain ⟨HH3,vk,h3,hbo3,hs3,hl3,hf3⟩:=copyKA_loop h.length HH2 h.length (h.length + 2) (.ptr (h.length + 1) 0 8 0 0) [.int .i64 t.kind,.str t.name,.int .i64 t.lo,.int .i64 t.hi,.bool t.free,.bool t.ext,vi] [.int .i64 t.kind,.str t.name,.int .i64 t.lo,.int .i64 t.hi,.bool t.free,.bool t.ext,.osl L 0 12 0 t.items.length] t.kids rfl rfl (by omega) (L + 1) (by rw [hf2 _ (by omega),hf1 _ (by simp; omega) (by omega),List.getElem?_append_left hLl1]; exact h1') (by omega)
     (by rw [hf2 _ (by omega),hbt1]; simp [otV,otC]) (by rw [hbo2]; simp) (by omega) (by omega) (by omega) (fun x hx h'=>by
      exact copyType_ok _ x (Nat.le_refl _) (Nat.le_trans (Ty.wid_kid hx) hb) h.length h')
    have hbz3 : HH3[h.length + 1]? = some (.arr 0 8 [.agg [.int .i64 0,.str ⟨#[]⟩,.int .i64 0,.int .i64 0,.bool false,.bool false,.esl,.esl]]):=by rw [hf3 _ (by omega) (by omega),hf2 _ (by omega)]; exact hbz1
    have hold3 : ∀ q,q < h.length→HH3[q]? = h[q]?:=fun q hq=>by rw [hf3 q (by omega) (by omega),hf2 q (by omega)]; exact hold1 q hq
    obtain ⟨HH4,hHH4⟩ : ∃ HH4 : Avm.H,HH4=HH3.set (h.length + 1) (.arr 0 8 [.agg [.int .i64 t.kind,.str t.name,.int .i64 t.lo,.int .i64 t.hi,.bool t.free,.bool t.ext,vi,vk]]):=⟨_,rfl⟩
    have hL4 : HH4.length=HH3.length:=by rw [hHH4]; simp
    have hf4 : ∀ q,q ≠ h.length + 1→HH4[q]? = HH3[q]?:=fun q hq=>by rw [hHH4,List.getElem?_set_ne (fun e=>hq e.symm)]
    have hbz4 : HH4[h.length + 1]? = some (.arr 0 8 [.agg [.int .i64 t.kind,.str t.name,.int .i64 t.lo,.int .i64 t.hi,.bool t.free,.bool t.ext,vi,vk]]):=by rw [hHH4,List.getElem?_set_self (by omega)]
    obtain ⟨HH5,hz5,hL5,hf5⟩ : ∃ HH5,frz h.length 7 vi HH4=some (.isl (t.items.map It.enc),HH5)∧HH5.length=HH4.length∧∀ q,(q < h.length ∨ HH2.length≤q)→HH5[q]? = HH4[q]?:=by
     rcases hs1 with ⟨he,rfl⟩ | ⟨b,ver,g1,rfl,g3⟩
     ·have he : t.items=[]:=by simpa using he
      exact ⟨HH4,by simp [he],rfl,fun _ _=>rfl⟩
     ·have hbl:=(List.getElem?_eq_some_iff.1 g3).1
      simp at g1
      have g4 : HH4[b]? = some (.arr ver 12 (t.items.map It.enc)):=by rw [hf4 b (by omega),hf3 b (by omega) (by omega),hf2 b (by omega)]; exact g3
      refine ⟨HH4.set b (.dead (ver + 1)),?_,by simp,fun q hq=>by
       have : b ≠ q:=by omega
       rw [List.getElem?_set_ne this]⟩
      have : ¬ b < h.length:=by omega
      simp [g4,this]
    obtain ⟨HH6,hz6,hL6,hf6⟩ : ∃ HH6,frz h.length 7 vk HH5=some (.isl (t.kids.map Ty.enc),HH6)∧HH6.length=HH5.length∧∀ q,q < h.length→HH6[q]? = HH5[q]?:=by
     rcases hs3 with ⟨he,rfl⟩ | ⟨b,ver,g1,rfl,g3⟩
     ·have he : t.kids=[]:=by simpa using he
      exact ⟨HH5,by simp [he],rfl,fun _ _=>rfl⟩
     ·have g4 : HH5[b]? = some (.arr ver 8 (t.kids.map Ty.enc)):=by rw [hf5 b (.inr g1),hf4 b (by omega)]; exact g3
      refine ⟨HH5.set b (.dead (ver + 1)),?_,by simp,fun q hq=>by
       have : b ≠ q:=by omega
       rw [List.getElem?_set_ne this]⟩
      have : ¬ b < h.length:=by omega
      simp [g4,this]
    have htk : HH6.take h.length=h:=take_frame (by omega) fun q hq=>by rw [hf6 q hq,hf5 q (.inl hq),hf4 q (by omega)]; exact hold3 q hq
    simp at h3 hbo1 hbo3
    have hvi : vi = .esl ∨ ∃ b ver n,vi = .osl b ver 12 0 n:=by
     rcases hs1 with ⟨_,e⟩ | ⟨b,ver,_,e,_⟩
     ·exact .inl e
     ·exact .inr ⟨b,ver,_,e⟩
    have hvk : vk = .esl ∨ ∃ b ver n,vk = .osl b ver 8 0 n:=by
     rcases hs3 with ⟨_,e⟩ | ⟨b,ver,_,e,_⟩
     ·exact .inl e
     ·exact .inr ⟨b,ver,_,e⟩
    clear hs1 hs3
    refine callL_fn rfl rfl ?_
    unfold otV otC
    rcases hvi with rfl | ⟨_,_,_,rfl⟩ <;> rcases hvk with rfl | ⟨_,_,_,rfl⟩ <;>
    simp [F20,c20,h1,hbo1,← hHH2,h3,hbo3,hbz3,← hHH4,hbz4,hz5,hz6,htk]
end Go.Proofs.YtflbneepngjglaaGreatDoor
