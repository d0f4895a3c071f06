/- Arguments stay, results are new memory: the law, case by case. -/
import Derived.Test.YtflbneepngjglaaGreatDoorR48
import Derived.Test.YtflbneepngjglaaGreatDoorR32
import Derived.Test.YtflbneepngjglaaGreatDoorR50
import Derived.Test.YtflbneepngjglaaGreatDoorR46
import Derived.Test.YtflbneepngjglaaGreatDoorR49
set_option linter.all false
namespace Go.Proofs.YtflbneepngjglaaGreatDoor
open Go Go.Avm
theorem copyM_loop (B : Nat) (HH0 : Avm.H) (bt bo : Nat) (A2 : AV) (nm nm2 : ByteArray) (it : List Df) (hlen : it.length≤67108864) (hpar : ∀ y ∈ it,y.params.length≤67108864)
    (ht : HH0[bt]? = some (.arr 0 2 [.agg [.str nm,.isl (it.map Df.enc)]])) (hx : HH0[bo]? = some (.arr 0 2 [.agg [.str nm2,.esl]])) (hne : bt ≠ bo) (hB : B≤bo) (ih : ∀ y ∈ it,∀ h',callL cfg B 20 [y.of.enc] h'=some (y.of.enc,h')) :
    ∃ HH1 v,roundsL (evC (callL cfg) roundsL cfg.pol B B c19L0) [1,2,3,4] [(1,.ptr bt 0 2 0 0),(2,A2),(3,.ptr bo 0 2 0 0),(4,.int .i64 0)] HH0 =
        some (.exit 0,[(1,.ptr bt 0 2 0 0),(2,A2),(3,.ptr bo 0 2 0 0),(4,.int .i64 it.length)],HH1) ∧
     HH1[bo]? = some (.arr 0 2 [.agg [.str nm2,v]])∧SlcAt HH0.length 10 HH1 (it.map Df.enc) v∧HH0.length≤HH1.length∧∀ k,k < HH0.length→k ≠ bo→HH1[k]? = HH0[k]?:=by
 have hbol:=(List.getElem?_eq_some_iff.1 hx).1
 have hbtl:=(List.getElem?_eq_some_iff.1 ht).1
 have hnb : ¬ bo < B:=by omega
 have hlp:=loop_post (γ:=AV × Avm.H) (f:=evC (callL cfg) roundsL cfg.pol B B c19L0) (keep:=[1,2,3,4]) it
  (fun j c=>c.2[bo]? = some (.arr 0 2 [.agg [.str nm2,c.1]])∧SlcAt HH0.length 10 c.2 ((it.take j).map Df.enc) c.1∧HH0.length≤c.2.length∧∀ k,k < HH0.length→k ≠ bo→c.2[k]? = HH0[k]?)
  (fun j _=>[(1,.ptr bt 0 2 0 0),(2,A2),(3,.ptr bo 0 2 0 0),(4,.int .i64 j)]) (fun _ c=>c.2)
  (fun _ _ r=>∃ v HH1,r=(.exit 0,[(1,.ptr bt 0 2 0 0),(2,A2),(3,.ptr bo 0 2 0 0),(4,.int .i64 it.length)],HH1)∧HH1[bo]? = some (.arr 0 2 [.agg [.str nm2,v]])∧SlcAt HH0.length 10 HH1 (it.map Df.enc) v∧HH0.length≤HH1.length∧∀ k,k < HH0.length→k ≠ bo→HH1[k]? = HH0[k]?) ?_ ?_ (.esl,HH0) ⟨hx,.inl ⟨rfl,rfl⟩,Nat.le_refl _,fun _ _ _=>rfl⟩
 ·obtain ⟨r,h1,v,HH1,rfl,h2⟩:=hlp
  exact ⟨HH1,v,by simpa using h1,h2⟩
 ·intro j y r c hd hj hyy hI Kk hK
  have hw:=wrap_nat (n:=j + 1) (by omega)
  simp at hw
  have hm1 : y ∈ it:=by rw [← hyy]; exact List.getElem_mem hj
  have htk : it.take (j + 1)=it.take j++[y]:=by rw [List.take_succ_eq_append_getElem hj,hyy]
  have hll : (it.take j).length=j:=by simp; omega
  have hpl:=hpar y hm1
  have hpl2 : y.params.length≤4294967296:=by omega
  rw [htk] at hK
  simp only [List.map_append] at hK
  obtain ⟨v,HH⟩:=c
  obtain ⟨hbo,hsl,hle,hfr⟩:=hI
  dsimp only at hbo hsl hle hfr
  have hbt : HH[bt]? = some (.arr 0 2 [.agg [.str nm,.isl (it.map Df.enc)]]):=(hfr bt hbtl hne).trans ht
  have hboL:=(List.getElem?_eq_some_iff.1 hbo).1
  have hbtL:=(List.getElem?_eq_some_iff.1 hbt).1
  have hcl:=fun h'=>ih y hm1 h'
  simp at hcl
  have hBH : B≤HH.length:=by omega
  have hnH : ¬ HH.length < B:=by omega
  have hnH1 : ¬ HH.length + 1 < B:=by omega
  have hBH1 : B≤HH.length + 1:=by omega
  have n0 : bo ≠ HH.length:=by omega
  have n1 : ¬ bo=HH.length + 1:=by omega
  have n2 : ¬ HH.length=HH.length + 1:=by omega
  generalize hls : it.take j=ls at hK hsl hll
  rcases hsl with ⟨he,hv⟩ | ⟨b,ver,hbn,hv,hbl⟩
  ·subst hv
   have he : ls=[]:=by simpa using he
   subst he
   obtain ⟨o',h4,h5⟩:=hK (.osl (HH.length + 3) 0 10 0 1,List.set (HH++[ABlock.arr 0 10 [y.enc],.dead 2,.arr 0 10 [y.enc],.arr 0 10 [y.enc]]) bo (.arr 0 2 [.agg [.str nm2,.osl (HH.length + 3) 0 10 0 1]]))
    ⟨by rw [List.getElem?_set_self (by simp; omega)],.inr ⟨HH.length + 3,0,by omega,by simp,by rw [List.getElem?_set_ne (by omega)]; simp⟩,by simp; omega,fun k h1 h2=>by
     rw [List.getElem?_set_ne (fun e=>h2 e.symm),List.getElem?_append_left (by omega)]; exact hfr k h1 h2⟩
   refine ⟨o',?_,h5⟩
   simp at h4
   simp [c19L0,hbt,hj,hyy,hcl,hw,hpl2,List.getElem?_append_left hbtL,hBH,hnH,hBH1,hnH1,hbo,bslP,appended,appI,List.getElem?_append_left hboL,hB,hnb,h4,List.getElem?_set_self',n0,n1,n2,List.getElem?_set_ne n0]
  ·subst hv
   have hbL:=(List.getElem?_eq_some_iff.1 hbl).1
   have hbne : b ≠ bo:=by
    intro e
    rw [e,hbo] at hbl
    cases hbl
   have n3 : b ≠ HH.length:=by omega
   have hfl' : ls.length + 1≤4294967296:=by omega
   have hBb : B≤b:=by omega
   have hBb2 : ¬ b < B:=by omega
   obtain ⟨o',h4,h5⟩:=hK (.osl b (ver + 1) 10 0 (ls.length + 1),List.set (List.set (HH++[ABlock.arr 0 10 [y.enc],.dead 2,.arr 0 10 [y.enc]]) b (.arr (ver + 1) 10 (ls.map Df.enc++[y.enc]))) bo (.arr 0 2 [.agg [.str nm2,.osl b (ver + 1) 10 0 (ls.length + 1)]]))
    ⟨by rw [List.getElem?_set_self (by simp; omega)],.inr ⟨b,ver + 1,hbn,by simp,by rw [List.getElem?_set_ne (fun e=>hbne e.symm),List.getElem?_set_self (by simp; omega)]; simp⟩,by simp; omega,fun k h1 h2=>by
     rw [List.getElem?_set_ne (fun e=>h2 e.symm),List.getElem?_set_ne (by omega),List.getElem?_append_left (by omega)]; exact hfr k h1 h2⟩
   refine ⟨o',?_,h5⟩
   simp at h4
   simp [c19L0,hbt,hj,hyy,hcl,hw,hpl2,List.getElem?_append_left hbtL,hBH,hnH,hBH1,hnH1,hbo,bslP,appended,appI,List.getElem?_append_left hboL,hB,hnb,h4,hbl,List.getElem?_append_left hbL,hBb,hBb2,hfl',List.getElem?_set_ne hbne,List.getElem?_set_self',n0,n1,n2,List.getElem?_set_ne n0,n3,List.getElem?_set_ne n3]
 ·intro c Kk hI
  refine ⟨_,?_,c.1,c.2,rfl,by simpa using hI⟩
  obtain ⟨v,HH⟩:=c
  obtain ⟨hbx,hsl,hle,hfr⟩:=hI
  have hbt : HH[bt]? = some (.arr 0 2 [.agg [.str nm,.isl (it.map Df.enc)]]):=(hfr bt hbtl hne).trans ht
  simp [c19L0,hbt]
theorem copyModule_ok (m : Md) (hm : m.ok) (ws : Nat) (h : Avm.H) : callL cfg ws 19 [m.enc] h=some (m.enc,h):=by
 obtain ⟨HH1,v,h1,hbo,hs,hl,hf⟩:=copyM_loop h.length (h++[.arr 0 2 [.agg [.str m.name,.isl (m.defs.map Df.enc)]],.arr 0 2 [.agg [.str ⟨#[]⟩,.esl]],.arr 0 2 [.agg [.str m.name,.esl]]]) h.length (h.length + 2) (.ptr (h.length + 1) 0 2 0 0) m.name m.name m.defs hm.len (fun y hy=>hm.params y hy)
  (by simp) (by simp) (by omega) (by omega) (fun y hy h'=>copyType_ok _ y.of (Nat.le_refl _) (Nat.le_trans y.of.wid_le (hm.of y hy)) h.length h')
 have hL : h.length + 3≤HH1.length:=by simpa using hl
 have hz : HH1[h.length + 1]? = some (.arr 0 2 [.agg [.str ⟨#[]⟩,.esl]]):=by rw [hf _ (by simp) (by omega)]; simp
 have hold : ∀ q,q < h.length→HH1[q]? = h[q]?:=fun q hq=>by rw [hf q (by simp; omega) (by omega),List.getElem?_append_left hq]
 obtain ⟨HH2,hHH2⟩ : ∃ HH2 : Avm.H,HH2=HH1.set (h.length + 1) (.arr 0 2 [.agg [.str m.name,v]]):=⟨_,rfl⟩
 have hL2 : HH2.length=HH1.length:=by rw [hHH2]; simp
 have hf2 : ∀ q,q ≠ h.length + 1→HH2[q]? = HH1[q]?:=fun q hq=>by rw [hHH2,List.getElem?_set_ne (fun e=>hq e.symm)]
 have hb2 : HH2[h.length + 1]? = some (.arr 0 2 [.agg [.str m.name,v]]):=by rw [hHH2,List.getElem?_set_self (by omega)]
 obtain ⟨HH3,hz3,hL3,hf3⟩ : ∃ HH3,frz h.length 7 v HH2=some (.isl (m.defs.map Df.enc),HH3)∧HH3.length=HH2.length∧∀ q,q < h.length→HH3[q]? = HH2[q]?:=by
  rcases hs with ⟨he,rfl⟩ | ⟨b,ver,g1,rfl,g3⟩
  ·have he : m.defs=[]:=by simpa using he
   exact ⟨HH2,by simp [he],rfl,fun _ _=>rfl⟩
  ·have hbl:=(List.getElem?_eq_some_iff.1 g3).1
   simp at g1
   have g4 : HH2[b]? = some (.arr ver 10 (m.defs.map Df.enc)):=by rw [hf2 b (by omega)]; exact g3
   refine ⟨HH2.set b (.dead (ver + 1)),?_,by simp,fun q hq=>by
    have : b ≠ q:=by omega
    rw [List.getElem?_set_ne this]⟩
   have : ¬ b < h.length:=by omega
   simp [g4,this]
 have htk : HH3.take h.length=h:=take_frame (by omega) fun q hq=>by rw [hf3 q hq,hf2 q (by omega)]; exact hold q hq
 have hv : v = .esl ∨ ∃ b ver n,v = .osl b ver 10 0 n:=by
  rcases hs with ⟨_,e⟩ | ⟨b,ver,_,e,_⟩
  ·exact .inl e
  ·exact .inr ⟨b,ver,_,e⟩
 clear hs
 refine callL_fn rfl rfl ?_
 rcases hv with rfl | ⟨_,_,_,rfl⟩ <;>
 simp [F19,c19,Md.enc,h1,hbo,hz,← hHH2,hb2,hz3,htk]
theorem strings_ok (a : List ByteArray) (ha : a.length≤67108864) (ws : Nat) (h : Avm.H) : callL cfg ws 52 [.isl (a.map .str),.isl (a.map .str)] h=some (.bool true,h):=by
 have hlp:=loop_list (f:=evC (callL cfg) roundsL cfg.pol h.length h.length c52L0) (keep:=[0,1,5]) a (fun i=>[(0,.isl (a.map .str)),(1,.isl (a.map .str)),(5,.int .i64 i)]) (fun _=>h)
  (fun _ _=>(.exit 0,[(0,.isl (a.map .str)),(1,.isl (a.map .str)),(5,.int .i64 a.length)],h)) ?_ ?_
 ·simp at hlp
  refine callL_fn rfl rfl ?_
  simp [F52,c52,hlp]
 ·intro i x r hd hi hx K hK
  have hw:=wrap_nat (n:=i + 1) (by omega)
  simp at hw hK
  simp [c52L0,hi,hx,hw,hK]
 ·intro K
  simp [c52L0]
theorem sameModule_ok (hss : ∀ x : Ty,x.same x=true) (m : Md) (hm : m.ok) (ws : Nat) (h : Avm.H) : callL cfg ws 23 [m.enc,m.enc] h=some (.bool true,h):=by
 have hlp:=loop_post (γ:=Avm.H) (f:=evC (callL cfg) roundsL cfg.pol h.length h.length c23L0) (keep:=[2,3,5]) m.defs (fun _ _=>True) (fun i _=>[(2,.ptr h.length 0 2 0 0),(3,.ptr (h.length + 1) 0 2 0 0),(5,.int .i64 i)]) (fun _ g=>h++([.arr 0 2 [m.enc],.arr 0 2 [m.enc]]++g))
  (fun _ _ o=>∃ g,o=(.exit 0,[(2,.ptr h.length 0 2 0 0),(3,.ptr (h.length + 1) 0 2 0 0),(5,.int .i64 m.defs.length)],h++([.arr 0 2 [m.enc],.arr 0 2 [m.enc]]++g))) ?_ ?_ [] trivial
 ·obtain ⟨o,h1,g,rfl⟩:=hlp
  simp [Md.enc] at h1
  refine callL_fn rfl rfl ?_
  simp [F23,c23,Md.enc,h1]
 ·intro i x r g hd hi hx _ K hK
  have hw:=wrap_nat (n:=i + 1) (by have:=hm.len; omega)
  simp at hw
  have hm1 : x ∈ m.defs:=by rw [← hx]; exact List.getElem_mem hi
  have e1:=fun ws h=>strings_ok x.params (hm.params x hm1) ws h
  have e2:=fun ws h=>rsameT_ok _ x.of x.of (Nat.le_refl _) (Nat.le_trans x.of.wid_le (hm.of x hm1)) ws h
  rw [hss x.of] at e2
  obtain ⟨o,h4,h5⟩:=hK (g++[.arr 0 10 [x.enc],.arr 0 10 [x.enc]]) trivial
  refine ⟨o,?_,h5⟩
  simp [Md.enc] at h4 e2
  simp [c23L0,Md.enc,hi,hx,e1,e2,hw,h4]
 ·intro g K _
  refine ⟨_,?_,g,rfl⟩
  simp [c23L0,Md.enc]
end Go.Proofs.YtflbneepngjglaaGreatDoor
namespace Go.Proofs.YtflbneepngjglaaGreatDoor
open Go Go.Avm
theorem plainN_len {m : Md} {n : Nat} {u : List (Ty × Val)} {t : Ty} {v r : Val} (h : plainN m n u t v=some r) : r.items.length=v.items.length:=by
 cases n with
 | zero=>cases h
 | succ n=>
  unfold plainN at h
  split at h
  ·cases h
  ·rename_i l hl
   have h1:=(mapIO_get hl).1
   split at h
   ·split at h
    ·rename_i r' hr
     cases h
     have h2:=(mapIO_get hr).1
     simp [h2,h1]
    ·cases h
   ·cases h
    simp [h1]
theorem mapS_len {f : Nat→Val→Int→Option (Val × Int)} : ∀ {l r : List Val} {i : Nat} {c c' : Int},mapS f i l c=some (r,c')→r.length=l.length
 | [],r,i,c,c',h=>by simp [mapS] at h; rw [← h.1]
 | x :: l,r,i,c,c',h=>by
  unfold mapS at h
  split at h
  ·cases h
  ·split at h
   ·cases h
   ·rename_i h2
    injection h with h
    injection h with h3 h4
    subst h3
    simp [mapS_len h2]
theorem fullN_len {m : Md} {n : Nat} {t : Ty} {v : Val} {l : Int} {q : Val × Int} (h : fullN m n t v l=some q) : q.1.items.length=v.items.length:=by
 cases n with
 | zero=>cases h
 | succ n=>
  unfold fullN at h
  split at h
  ·cases h
  ·split at h
   ·cases h
   ·rename_i hm
    injection h with h
    subst h
    exact mapS_len hm
theorem pln_len {m : Md} (hm : m.ok) {t : Ty} (hs : t.size≤67108864) {v p : Val} (h : plnQ m t v=some p) : p.items.length=v.items.length∧p.size≤v.size:=by
 unfold plnQ at h
 split at h
 ·rename_i q
  injection h with h
  obtain ⟨q1,q2,q3⟩:=askE_zero q
  obtain ⟨M,T,hS,hSs⟩:=fine_of hm hs q1
  have hpl:=plainV_eq M hS hSs T v
  rw [h] at hpl
  exact ⟨plainN_len hpl,plainN_size hpl⟩
 ·cases h
theorem ful_len {m : Md} {t : Ty} {v f : Val} (h : fulQ m t v=some f) : f.items.length=v.items.length:=by
 unfold fulQ at h
 split at h
 ·cases hf : fullN m 30 t v 600 with
  | none=>rw [hf] at h; cases h
  | some w=>
   rw [hf] at h
   injection h with h
   have:=fullN_len hf
   rw [← h]
   exact this
 ·cases h
theorem ful_pln {m : Md} {t : Ty} {v : Val} (h : plnQ m t v=none) : fulQ m t v=none:=by
 unfold plnQ at h
 unfold fulQ
 split at h
 ·cases h
 ·rename_i q; rw [if_neg q]
theorem pln_beh {m : Md} {t : Ty} {v : Val} (h : behQ m t=none) : plnQ m t v=none:=by
 unfold plnQ
 split
 ·rename_i q
  obtain ⟨q1,q2,q3⟩:=askE_zero q
  unfold behQ at h
  rw [if_pos q1] at h
  cases hk : v.size with
  | zero=>rw [hk] at q3; cases q3
  | succ k=>
   rw [hk] at q3
   unfold fitB at q3
   rw [h] at q3
   cases q3
 ·rfl
theorem ty_same_self (t : Ty) : t.same t=true:=(Ty.same_iff t t).2 rfl
theorem snap_own (x : Val) (L : Nat) (h : Avm.H) (hL : h[L]? = some (.arr 0 4 (x.items.map Val.enc))) : snap h deep (.agg [.int .i64 x.kind,.int .i64 x.int,.str x.bytes,.osl L 0 4 0 x.items.length])=some x.enc:=by
 simp [deep,hL]
theorem snap_tree (x : Val) (h : Avm.H) : snap h deep x.enc=some x.enc:=by simp [deep]
theorem same_snap (x : Val) (hx : x.nodes≤67108864) (a c : AV) (ws : Nat) (h : Avm.H) (ha : snap h deep a=some x.enc) (hc : snap h deep c=some x.enc) : callL cfg ws 13 [a,c] h=some (.bool true,h):=by
 rw [callL_snap (args':=[x.enc,x.enc]) rfl rfl rfl (by simp only [snapL,ha,hc,snap_tree]),rsameN_ok _ x x (Nat.le_refl _) hx ws h,same_self]
theorem same_to (x : Val) (hx : x.nodes≤67108864) (L : Nat) (ws : Nat) (h : Avm.H) (hL : h[L]? = some (.arr 0 4 (x.items.map Val.enc))) : callL cfg ws 13 [x.enc,.agg [.int .i64 x.kind,.int .i64 x.int,.str x.bytes,.osl L 0 4 0 x.items.length]] h=some (.bool true,h):=same_snap x hx _ _ ws h (snap_tree x h) (snap_own x L h hL)
theorem same_ot (x : Val) (hx : x.nodes≤67108864) (L : Nat) (ws : Nat) (h : Avm.H) (hL : h[L]? = some (.arr 0 4 (x.items.map Val.enc))) : callL cfg ws 13 [.agg [.int .i64 x.kind,.int .i64 x.int,.str x.bytes,.osl L 0 4 0 x.items.length],x.enc] h=some (.bool true,h):=same_snap x hx _ _ ws h (snap_own x L h hL) (snap_tree x h)
theorem same_oo (x : Val) (hx : x.nodes≤67108864) (L K : Nat) (ws : Nat) (h : Avm.H) (hL : h[L]? = some (.arr 0 4 (x.items.map Val.enc))) (hK : h[K]? = some (.arr 0 4 (x.items.map Val.enc))) : callL cfg ws 13 [.agg [.int .i64 x.kind,.int .i64 x.int,.str x.bytes,.osl L 0 4 0 x.items.length],.agg [.int .i64 x.kind,.int .i64 x.int,.str x.bytes,.osl K 0 4 0 x.items.length]] h=some (.bool true,h):=same_snap x hx _ _ ws h (snap_own x L h hL) (snap_own x K h hK)
theorem sameT_ot (t : Ty) (ht : t.wid≤67108864) (L K : Nat) (ws : Nat) (h : Avm.H) (h0 : h[L]? = some (.arr 0 12 (t.items.map It.enc))) (h1 : h[K]? = some (.arr 0 8 (t.kids.map Ty.enc))) : callL cfg ws 24 [.agg [.int .i64 t.kind,.str t.name,.int .i64 t.lo,.int .i64 t.hi,.bool t.free,.bool t.ext,.osl L 0 12 0 t.items.length,.osl K 0 8 0 t.kids.length],t.enc] h=some (.bool true,h):=by
 rw [callL_snap (args':=[t.enc,t.enc]) rfl rfl rfl (by simp [deep,h0,h1]),rsameT_ok _ t t (Nat.le_refl _) ht ws h,ty_same_self]
theorem e_size : (⟨#[]⟩ : ByteArray).size=0:=rfl
theorem zsz : zeroV.size≤1:=by simp [zeroV,Val.size_eq,Val.sizeL,e_size]
theorem znd : zeroV.nodes≤1:=by simp [zeroV,Val.nodes_eq]
theorem ful_few {m : Md} (hm : m.ok) {t : Ty} (hs : t.size≤67108864) {v f : Val} (hv : v.size≤67108864) (h : fulQ m t v=some f) : f.nodes≤600:=by
 unfold fulQ at h
 split at h
 ·rename_i q
  obtain ⟨q1,q2,q3⟩:=askE_zero q
  obtain ⟨M,T,hS,hSs⟩:=fine_of hm hs q1
  obtain ⟨r,ok,l',e2,e3⟩:=full_ok M hSs 30 t v (by omega) T ⟨_,q3⟩ hv 600 (by omega) (by omega) 0 0 0 [filB m 0 600] rfl (by omega)
  cases hf : fullN m 30 t v 600 with
  | none=>rw [hf] at h; cases h
  | some w=>
   have:=fullN_few M hSs T ⟨_,q3⟩ hv hf e3
   rw [hf] at h
   injection h with h
   rw [← h]
   exact this
 ·cases h
end Go.Proofs.YtflbneepngjglaaGreatDoor
namespace Go.Proofs.YtflbneepngjglaaGreatDoor
open Go Go.Avm
set_option maxHeartbeats 4000000 in
theorem keeps_NBPF (m : Md) (hm : m.ok) (t : Ty) (hs : t.size≤67108864) (v : Val) (hv : v.size≤67108864) (hv0 : v.items ≠ []) (b : Ty) (hB : behQ m t=some b) (p : Val) (hP : plnQ m t v=some p) (f : Val) (hF : fulQ m t v=some f) : callL cfg 0 5 [m.enc,t.enc,v.enc] []=some (.bool true,[]):=by
 have hw : t.wid≤67108864:=Nat.le_trans t.wid_le hs
 have eM:=fun ws h=>copyModule_ok m hm ws h
 have eT:=fun ws h=>copyType_ok _ t (Nat.le_refl _) hw ws h
 have eV:=fun ws h=>copyO_ok _ v (Nat.le_refl _) hv ws h
 have eSM:=fun ws h=>sameModule_ok ty_same_self m hm ws h
 have eST:=fun ws h=>rsameT_ok _ t t (Nat.le_refl _) hw ws h
 have eSV:=fun ws h=>rsameN_ok _ v v (Nat.le_refl _) (by have:=nodes_size _ v (Nat.le_refl _); omega) ws h
 rw [ty_same_self] at eST
 rw [same_self] at eSV
 have eSV2:=fun L ws h hL=>same_to v (by have:=nodes_size _ v (Nat.le_refl _); omega) L ws h hL
 simp only [cpV,cpH,if_neg hv0] at eV
 have hbw:=behQ_wid hm hs hB
 have eB:=fun ws h=>behO_some m hm t hs b hB ws h
 have eCB:=fun L ws h h0 h1=>copyTypeA_ok b hbw L ws h h0 h1
 have eSB:=fun L K ws h h0 h1=>sameT_ot b hbw L K ws h h0 h1
 have eP:=fun ws h=>plnO_some m hm t hs v hv p hP ws h
 have hPl:=(pln_len hm hs hP).1
 have hPn : p.nodes≤67108864:=Nat.le_trans (nodes_size _ p (Nat.le_refl _)) (Nat.le_trans (pln_len hm hs hP).2 hv)
 have eCP:=fun L ws h h0=>copyOA_ok p hPn L ws h h0
 have eSP:=fun L ws h hL=>same_ot p hPn L ws h hL
 have eTP:=fun L K ws h hL hK=>same_oo p hPn L K ws h hL hK
 have hP0 : p.items ≠ []:=fun e=>hv0 (List.eq_nil_of_length_eq_zero (by rw [← hPl,e]; rfl))
 simp only [cpV,cpH,if_neg hP0] at eCP
 have eF:=fun ws h=>fulO_some m hm t hs v hv f hF ws h
 have hFl:=ful_len hF
 have hFn : f.nodes≤67108864:=Nat.le_trans (ful_few hm hs hv hF) (by omega)
 have eCF:=fun L ws h h0=>copyOA_ok f hFn L ws h h0
 have eSF:=fun L ws h hL=>same_ot f hFn L ws h hL
 have eTF:=fun L K ws h hL hK=>same_oo f hFn L K ws h hL hK
 have hF0 : f.items ≠ []:=fun e=>hv0 (List.eq_nil_of_length_eq_zero (by rw [← hFl,e]; rfl))
 simp only [cpV,cpH,if_neg hF0] at eCF
 refine callL_fn rfl rfl ?_
 unfold ocV ocB at eP eCP
 unfold ocV ocB at eF eCF
 unfold otV otC otB at eB
 unfold otV otC at eCB
 simp only [Md.enc] at eM eSM eB eP eF
 simp at eM eT eV eSM eST eSV eSV2 eB eCB eSB eP eCP eSP eTP eF eCF eSF eTF
 have hbl:=b.wid_items
 have l0:=fun a3 a4 a5 a7 a8 a9 a12 a14 a16 a17 a18 HH A hA hP hne=>keeps_l0 a3 a4 a5 a7 a8 a9 a12 a14 a16 a17 a18 HH A 7 [.int .i64 b.kind,.str b.name,.int .i64 b.lo,.int .i64 b.hi,.bool b.free,.bool b.ext] (.osl 8 0 8 0 b.kids.length) b.items rfl hA hP hne (by omega)
 have hFi:=len_less f
 have l1:=fun a3 a4 a5 a7 a8 a9 a10 a14 a16 a17 a18 HH A hA hP hne=>keeps_l1 a3 a4 a5 a7 a8 a9 a10 a14 a16 a17 a18 HH A 10 f.kind f.int f.bytes f.items hA hP hne (by omega)
 have hPi:=len_less p
 have l2:=fun a3 a4 a5 a7 a8 a9 a10 a12 a16 a17 a18 HH A hA hP hne=>keeps_l2 a3 a4 a5 a7 a8 a9 a10 a12 a16 a17 a18 HH A 12 p.kind p.int p.bytes p.items hA hP hne (by omega)
 unfold kEnv at l0 l1 l2
 simp at l0 l1 l2
 simp [F5,c5,Md.enc,eM,eT,eV,eSM,eST,eSV,eSV2,eB,eCB,eSB,eP,eCP,eSP,eTP,eF,eCF,eSF,eTF,l0,l1,l2,saneK23]
set_option maxHeartbeats 4000000 in
theorem keeps_NBP (m : Md) (hm : m.ok) (t : Ty) (hs : t.size≤67108864) (v : Val) (hv : v.size≤67108864) (hv0 : v.items ≠ []) (b : Ty) (hB : behQ m t=some b) (p : Val) (hP : plnQ m t v=some p) (hF : fulQ m t v=none) : callL cfg 0 5 [m.enc,t.enc,v.enc] []=some (.bool true,[]):=by
 have hw : t.wid≤67108864:=Nat.le_trans t.wid_le hs
 have eM:=fun ws h=>copyModule_ok m hm ws h
 have eT:=fun ws h=>copyType_ok _ t (Nat.le_refl _) hw ws h
 have eV:=fun ws h=>copyO_ok _ v (Nat.le_refl _) hv ws h
 have eSM:=fun ws h=>sameModule_ok ty_same_self m hm ws h
 have eST:=fun ws h=>rsameT_ok _ t t (Nat.le_refl _) hw ws h
 have eSV:=fun ws h=>rsameN_ok _ v v (Nat.le_refl _) (by have:=nodes_size _ v (Nat.le_refl _); omega) ws h
 rw [ty_same_self] at eST
 rw [same_self] at eSV
 have eSV2:=fun L ws h hL=>same_to v (by have:=nodes_size _ v (Nat.le_refl _); omega) L ws h hL
 simp only [cpV,cpH,if_neg hv0] at eV
 have hbw:=behQ_wid hm hs hB
 have eB:=fun ws h=>behO_some m hm t hs b hB ws h
 have eCB:=fun L ws h h0 h1=>copyTypeA_ok b hbw L ws h h0 h1
 have eSB:=fun L K ws h h0 h1=>sameT_ot b hbw L K ws h h0 h1
 have eP:=fun ws h=>plnO_some m hm t hs v hv p hP ws h
 have hPl:=(pln_len hm hs hP).1
 have hPn : p.nodes≤67108864:=Nat.le_trans (nodes_size _ p (Nat.le_refl _)) (Nat.le_trans (pln_len hm hs hP).2 hv)
 have eCP:=fun L ws h h0=>copyOA_ok p hPn L ws h h0
 have eSP:=fun L ws h hL=>same_ot p hPn L ws h hL
 have eTP:=fun L K ws h hL hK=>same_oo p hPn L K ws h hL hK
 have hP0 : p.items ≠ []:=fun e=>hv0 (List.eq_nil_of_length_eq_zero (by rw [← hPl,e]; rfl))
 simp only [cpV,cpH,if_neg hP0] at eCP
 obtain ⟨yF,eF⟩:=fulO_none m hm t hs v hv hF
 have eCF:=fun ws h=>copyO_ok _ zeroV (Nat.le_refl _) (Nat.le_trans (show _≤1 from zsz) (by omega)) ws h
 have eSF:=fun ws h=>rsameN_ok _ zeroV zeroV (Nat.le_refl _) (Nat.le_trans (show _≤1 from znd) (by omega)) ws h
 rw [same_self] at eSF
 simp only [cpV,cpH,if_pos (show zeroV.items=[] from rfl)] at eCF
 unfold zeroV at eF eCF eSF
 refine callL_fn rfl rfl ?_
 unfold ocV ocB at eP eCP
 unfold otV otC otB at eB
 unfold otV otC at eCB
 simp only [Md.enc] at eM eSM eB eP eF
 simp at eM eT eV eSM eST eSV eSV2 eB eCB eSB eP eCP eSP eTP eF eCF eSF
 have hbl:=b.wid_items
 have l0:=fun a3 a4 a5 a7 a8 a9 a12 a14 a16 a17 a18 HH A hA hP hne=>keeps_l0 a3 a4 a5 a7 a8 a9 a12 a14 a16 a17 a18 HH A 7 [.int .i64 b.kind,.str b.name,.int .i64 b.lo,.int .i64 b.hi,.bool b.free,.bool b.ext] (.osl 8 0 8 0 b.kids.length) b.items rfl hA hP hne (by omega)
 have l1:=keeps_l1z
 have hPi:=len_less p
 have l2:=fun a3 a4 a5 a7 a8 a9 a10 a12 a16 a17 a18 HH A hA hP hne=>keeps_l2 a3 a4 a5 a7 a8 a9 a10 a12 a16 a17 a18 HH A 11 p.kind p.int p.bytes p.items hA hP hne (by omega)
 unfold kEnv at l0 l1 l2
 simp at l0 l1 l2
 simp [F5,c5,Md.enc,eM,eT,eV,eSM,eST,eSV,eSV2,eB,eCB,eSB,eP,eCP,eSP,eTP,eF,eCF,eSF,l0,l1,l2,saneK20]
set_option maxHeartbeats 4000000 in
theorem keeps_NB (m : Md) (hm : m.ok) (t : Ty) (hs : t.size≤67108864) (v : Val) (hv : v.size≤67108864) (hv0 : v.items ≠ []) (b : Ty) (hB : behQ m t=some b) (hP : plnQ m t v=none) (hF : fulQ m t v=none) : callL cfg 0 5 [m.enc,t.enc,v.enc] []=some (.bool true,[]):=by
 have hw : t.wid≤67108864:=Nat.le_trans t.wid_le hs
 have eM:=fun ws h=>copyModule_ok m hm ws h
 have eT:=fun ws h=>copyType_ok _ t (Nat.le_refl _) hw ws h
 have eV:=fun ws h=>copyO_ok _ v (Nat.le_refl _) hv ws h
 have eSM:=fun ws h=>sameModule_ok ty_same_self m hm ws h
 have eST:=fun ws h=>rsameT_ok _ t t (Nat.le_refl _) hw ws h
 have eSV:=fun ws h=>rsameN_ok _ v v (Nat.le_refl _) (by have:=nodes_size _ v (Nat.le_refl _); omega) ws h
 rw [ty_same_self] at eST
 rw [same_self] at eSV
 have eSV2:=fun L ws h hL=>same_to v (by have:=nodes_size _ v (Nat.le_refl _); omega) L ws h hL
 simp only [cpV,cpH,if_neg hv0] at eV
 have hbw:=behQ_wid hm hs hB
 have eB:=fun ws h=>behO_some m hm t hs b hB ws h
 have eCB:=fun L ws h h0 h1=>copyTypeA_ok b hbw L ws h h0 h1
 have eSB:=fun L K ws h h0 h1=>sameT_ot b hbw L K ws h h0 h1
 obtain ⟨yP,eP⟩:=plnO_none m hm t hs v hv hP
 have eCP:=fun ws h=>copyO_ok _ zeroV (Nat.le_refl _) (Nat.le_trans (show _≤1 from zsz) (by omega)) ws h
 have eSP:=fun ws h=>rsameN_ok _ zeroV zeroV (Nat.le_refl _) (Nat.le_trans (show _≤1 from znd) (by omega)) ws h
 rw [same_self] at eSP
 simp only [cpV,cpH,if_pos (show zeroV.items=[] from rfl)] at eCP
 unfold zeroV at eP eCP eSP
 obtain ⟨yF,eF⟩:=fulO_none m hm t hs v hv hF
 have eCF:=fun ws h=>copyO_ok _ zeroV (Nat.le_refl _) (Nat.le_trans (show _≤1 from zsz) (by omega)) ws h
 have eSF:=fun ws h=>rsameN_ok _ zeroV zeroV (Nat.le_refl _) (Nat.le_trans (show _≤1 from znd) (by omega)) ws h
 rw [same_self] at eSF
 simp only [cpV,cpH,if_pos (show zeroV.items=[] from rfl)] at eCF
 unfold zeroV at eF eCF eSF
 refine callL_fn rfl rfl ?_
 unfold otV otC otB at eB
 unfold otV otC at eCB
 simp only [Md.enc] at eM eSM eB eP eF
 simp at eM eT eV eSM eST eSV eSV2 eB eCB eSB eP eCP eSP eF eCF eSF
 have hbl:=b.wid_items
 have l0:=fun a3 a4 a5 a7 a8 a9 a12 a14 a16 a17 a18 HH A hA hP hne=>keeps_l0 a3 a4 a5 a7 a8 a9 a12 a14 a16 a17 a18 HH A 7 [.int .i64 b.kind,.str b.name,.int .i64 b.lo,.int .i64 b.hi,.bool b.free,.bool b.ext] (.osl 8 0 8 0 b.kids.length) b.items rfl hA hP hne (by omega)
 have l1:=keeps_l1z
 have l2:=keeps_l2z
 unfold kEnv at l0 l1 l2
 simp at l0 l1 l2
 simp [F5,c5,Md.enc,eM,eT,eV,eSM,eST,eSV,eSV2,eB,eCB,eSB,eP,eCP,eSP,eF,eCF,eSF,l0,l1,l2,saneK17]
set_option maxHeartbeats 4000000 in
theorem keeps_N (m : Md) (hm : m.ok) (t : Ty) (hs : t.size≤67108864) (v : Val) (hv : v.size≤67108864) (hv0 : v.items ≠ []) (hB : behQ m t=none) (hP : plnQ m t v=none) (hF : fulQ m t v=none) : callL cfg 0 5 [m.enc,t.enc,v.enc] []=some (.bool true,[]):=by
 have hw : t.wid≤67108864:=Nat.le_trans t.wid_le hs
 have eM:=fun ws h=>copyModule_ok m hm ws h
 have eT:=fun ws h=>copyType_ok _ t (Nat.le_refl _) hw ws h
 have eV:=fun ws h=>copyO_ok _ v (Nat.le_refl _) hv ws h
 have eSM:=fun ws h=>sameModule_ok ty_same_self m hm ws h
 have eST:=fun ws h=>rsameT_ok _ t t (Nat.le_refl _) hw ws h
 have eSV:=fun ws h=>rsameN_ok _ v v (Nat.le_refl _) (by have:=nodes_size _ v (Nat.le_refl _); omega) ws h
 rw [ty_same_self] at eST
 rw [same_self] at eSV
 have eSV2:=fun L ws h hL=>same_to v (by have:=nodes_size _ v (Nat.le_refl _); omega) L ws h hL
 simp only [cpV,cpH,if_neg hv0] at eV
 obtain ⟨x1,eB⟩:=behO_none m hm t hs hB
 have hbw:=(zero_fine m []).wid
 have eCB:=fun ws h=>copyType_ok _ Ty.zero (Nat.le_refl _) hbw ws h
 have eSB:=fun ws h=>rsameT_ok _ Ty.zero Ty.zero (Nat.le_refl _) hbw ws h
 rw [ty_same_self] at eSB
 unfold Ty.zero at eB eCB eSB
 obtain ⟨yP,eP⟩:=plnO_none m hm t hs v hv hP
 have eCP:=fun ws h=>copyO_ok _ zeroV (Nat.le_refl _) (Nat.le_trans (show _≤1 from zsz) (by omega)) ws h
 have eSP:=fun ws h=>rsameN_ok _ zeroV zeroV (Nat.le_refl _) (Nat.le_trans (show _≤1 from znd) (by omega)) ws h
 rw [same_self] at eSP
 simp only [cpV,cpH,if_pos (show zeroV.items=[] from rfl)] at eCP
 unfold zeroV at eP eCP eSP
 obtain ⟨yF,eF⟩:=fulO_none m hm t hs v hv hF
 have eCF:=fun ws h=>copyO_ok _ zeroV (Nat.le_refl _) (Nat.le_trans (show _≤1 from zsz) (by omega)) ws h
 have eSF:=fun ws h=>rsameN_ok _ zeroV zeroV (Nat.le_refl _) (Nat.le_trans (show _≤1 from znd) (by omega)) ws h
 rw [same_self] at eSF
 simp only [cpV,cpH,if_pos (show zeroV.items=[] from rfl)] at eCF
 unfold zeroV at eF eCF eSF
 refine callL_fn rfl rfl ?_
 simp only [Md.enc] at eM eSM eB eP eF
 simp at eM eT eV eSM eST eSV eSV2 eB eCB eSB eP eCP eSP eF eCF eSF
 have l0:=keeps_l0z
 have l1:=keeps_l1z
 have l2:=keeps_l2z
 unfold kEnv at l0 l1 l2
 simp at l0 l1 l2
 simp [F5,c5,Md.enc,eM,eT,eV,eSM,eST,eSV,eSV2,eB,eCB,eSB,eP,eCP,eSP,eF,eCF,eSF,l0,l1,l2,saneK13]
end Go.Proofs.YtflbneepngjglaaGreatDoor
