/- Plain and full: full again; equal made full is equal made plain. -/
import Derived.Test.YtflbneepngjglaaGreatDoorP50
set_option linter.all false
namespace Go.Proofs.YtflbneepngjglaaGreatDoor
open Go Go.Avm
theorem kind_of_right {b : Ty} (h : rightP b=true) : (b.kind=0 ∨ b.kind=1 ∨ b.kind=2 ∨ b.kind=3 ∨ b.kind=4 ∨ b.kind=5 ∨ b.kind=6 ∨ b.kind=11 ∨ b.kind=7 ∨ b.kind=9 ∨ b.kind=10) ∨ b.kind=8:=by
 unfold rightP at h
 by_cases q : (b.kind=0 ∨ b.kind=1 ∨ b.kind=2 ∨ b.kind=3 ∨ b.kind=4 ∨ b.kind=5 ∨ b.kind=6 ∨ b.kind=11 ∨ b.kind=7 ∨ b.kind=9 ∨ b.kind=10) ∨ b.kind=8
 ·exact q
 ·exfalso
  rw [if_neg (by omega),if_neg (by omega),if_neg (by omega),if_neg (by omega),if_neg (by omega),if_neg (by omega),if_neg (by omega),if_neg (by omega),if_neg (by omega),if_neg (by omega),if_neg (by omega)] at h
  simp only [Bool.and_eq_true,decide_eq_true_eq] at h
  omega
theorem mem_node {v x : Val} {j : Nat} (h : v.items[j]? = some x) : x.nodes < v.nodes:=mem_nodes (List.mem_of_getElem? h)
theorem abs_of {m : Md} {S : List (Ty × Val)} (M : m.fine S) {t b : Ty} (T : t.fine m S) (hb : beh m 21 t=some b) {v : Val} {k : Nat} (hk : fitB m (k + 1) t v=true) (q8 : b.kind=8) {i : Nat} {x : Val} (hx : v.items[i]? = some x) (q12 : x.kind=12) : x=absV:=by
 obtain ⟨B,_⟩:=T.beh M hb
 unfold fitB at hk; rw [hb] at hk
 simp only [Bool.and_eq_true,decide_eq_true_eq] at hk
 have hs:=hk.2
 unfold fitS at hs
 simp only [q8] at hs
 simp at hs
 obtain ⟨_,hl,hs⟩:=hs
 have hi:=(List.getElem?_eq_some_iff.1 hx).1
 have hib : i < b.items.length:=by omega
 have hmem : (b.items[i],x) ∈ b.items.zip v.items:=by
  rw [List.mem_iff_getElem?]
  refine ⟨i,?_⟩
  rw [List.getElem?_zip_eq_some]
  exact ⟨List.getElem?_eq_getElem hib,hx⟩
 have hpb:=hs _ _ hmem
 unfold partB at hpb
 have hxin : b.items[i].of ∈ b.inner:=by unfold Ty.inner Ty.comp; rw [q8]; exact List.mem_append_right _ (List.mem_map_of_mem (List.getElem_mem hib))
 rw [Bool.or_eq_true] at hpb
 rcases hpb with hpb | hpb
 ·simp [hasP] at hpb
  obtain ⟨_,⟨h1,h2,h3⟩,_⟩:=hpb
  unfold eqS at h2
  rw [decide_eq_true_eq,bytes_eq] at h2
  rw [← x.eta,q12,h1,h2,h3]; rfl
 ·exfalso
  have X:=B.inner hxin
  cases hb' : beh m 21 b.items[i].of with
  | none=>cases k with
   | zero=>cases hpb
   | succ k=>unfold fitB at hpb; rw [hb'] at hpb; cases hpb
  | some b'=>exact kind_ne12 hpb hb' (allP_self (X.beh M hb').1.right) q12
theorem beh_of {m : Md} {t : Ty} {v : Val} {k : Nat} (h : fitB m k t v=true) : ∃ k' b,k=k' + 1∧beh m 21 t=some b:=by
 cases k with
 | zero=>cases h
 | succ k=>
  cases hb : beh m 21 t with
  | none=>unfold fitB at h; rw [hb] at h; cases h
  | some b=>exact ⟨k,b,rfl,rfl⟩
theorem full_again {m : Md} {S : List (Ty × Val)} (M : m.fine S) (hSs : ∀ q ∈ S,q.2.size≤67108864) : ∀ (n : Nat) (t : Ty) (v f : Val),t.fine m S→(∃ k,fitB m k t v=true)→v.size≤67108864→FullD m n t v=some f→FullD m n t f=some f
 | 0,_,_,_,_,_,_,h=>by cases h
 | n + 1,t,v,f,T,⟨k,hk⟩,hv,h=>by
  obtain ⟨k,b,rfl,hb⟩:=beh_of hk
  have I:=fill_in M hSs T hb hv hk
  obtain ⟨h1,h2,h3,h4,h5⟩:=FullD_at h
  rw [hb,Option.getD_some] at h5
  refine FullD_mk rfl rfl rfl rfl fun j z' z hz' hz=>?_
  rw [hz'] at hz; injection hz with hz; subst hz
  rw [hb,Option.getD_some]
  have hj : j < v.items.length:=by have:=(List.getElem?_eq_some_iff.1 hz').1; omega
  have hx:=List.getElem?_eq_getElem hj
  obtain ⟨z,h6,h7⟩:=h5 j _ hx
  rw [hz'] at h6; injection h6 with h6; subst h6
  generalize v.items[j]=x at *
  have hq:=I.real j x
  unfold fullP at h7 ⊢
  cases hp : partF b v j x with
  | none=>
   rw [hp] at h7
   dsimp only at h7
   split at h7
   ·cases h7
   ·rename_i hn
    injection h7 with h7; subst h7
    have : partF b f j x=none:=by unfold partF at hp ⊢; rw [h2]; exact hp
    rw [this]
    dsimp only
    rw [if_neg hn]
  | some q=>
   rw [hp] at h7
   dsimp only at h7
   obtain ⟨e1,e2,e3,e4⟩:=hq q hx hp
   have e5:=full_again M hSs n _ _ _ e2 e4 e3 h7
   have hk:=FullD_kind h7
   have : partF b f j z'=some (q.1,z'):=by
    unfold partF at hp ⊢
    rw [h2]
    split at hp
    ·injection hp with hp; subst hp; rename_i q7; rw [if_pos q7]
    ·rename_i q7
     split at hp
     ·injection hp with hp; subst hp; rename_i q9; rw [if_neg q7,if_pos q9]
     ·rename_i q9
      split at hp
      ·rename_i q8
       rw [if_neg q7,if_neg q9,if_pos q8,if_neg (by rw [hk]; exact e1)]
       split at hp
       ·split at hp
        ·cases hp
        ·injection hp with hp; subst hp; rfl
       ·injection hp with hp; subst hp; rfl
      ·cases hp
   rw [this]
   exact e5
theorem full_fits {m : Md} {S : List (Ty × Val)} (M : m.fine S) (hSs : ∀ q ∈ S,q.2.size≤67108864) : ∀ (n : Nat) (t : Ty) (v f : Val),t.fine m S→(∃ k,fitB m k t v=true)→v.size≤67108864→FullD m n t v=some f→fitB m n t f=true
 | 0,_,_,_,_,_,_,h=>by cases h
 | n + 1,t,v,f,T,⟨k,hk⟩,hv,h=>by
  obtain ⟨k,b,rfl,hb⟩:=beh_of hk
  have I:=fill_in M hSs T hb hv hk
  obtain ⟨h1,h2,h3,h4,h5⟩:=FullD_at h
  rw [hb,Option.getD_some] at h5
  unfold fitB at hk ⊢
  rw [hb] at hk ⊢
  dsimp only at hk ⊢
  rw [Bool.and_eq_true] at hk ⊢
  refine ⟨by rw [h1]; exact hk.1,fitS_map h2 h3 h4 (fun i x z t' hx hz h79 hp hf=>?_) (fun h6=>?_) (fun h6 h7 h9 i it x z hit hx hz hf=>?_) hk.2⟩
  ·obtain ⟨z',h6,h7⟩:=h5 i x hx
   rw [hz] at h6; injection h6 with h6; subst h6
   have hpf : partF b v i x=some (t',x):=by
    unfold partO at hp
    unfold partF
    split at hp
    ·rename_i q; rw [if_pos q]; injection hp with hp; rw [hp]
    ·rename_i q
     rw [if_neg q]
     split at hp
     ·rename_i q; rw [if_pos q]; injection hp with hp; rw [hp]
     ·rename_i q9; omega
   unfold fullP at h7
   rw [hpf] at h7
   obtain ⟨e1,e2,e3,e4⟩:=I.real i x _ hx hpf
   exact full_fits M hSs n _ _ _ e2 e4 e3 h7
  ·refine List.ext_getElem? fun i=>?_
   cases hx : v.items[i]? with
   | none=>rw [List.getElem?_eq_none_iff] at hx ⊢; omega
   | some x=>
    obtain ⟨z',h7,h8⟩:=h5 i x hx
    unfold fullP partF at h8
    rw [if_neg (by omega),if_neg (by omega),if_neg (by omega)] at h8
    dsimp only at h8
    split at h8
    ·cases h8
    ·injection h8 with h8; rw [h8]; exact h7
  ·obtain ⟨z',e6,e7⟩:=h5 i x hx
   rw [hz] at e6; injection e6 with e6; subst e6
   unfold fullP at e7
   cases hp : partF b v i x with
   | none=>
    rw [hp] at e7
    dsimp only at e7
    split at e7
    ·cases e7
    ·injection e7 with e7; subst e7
     obtain ⟨_,_,h12⟩:=I.leaf i x hx hp
     have q12 : x.kind=12:=h12.resolve_left (by omega)
     unfold partB at hf ⊢
     rw [Bool.or_eq_true] at hf ⊢
     refine hf.imp_right fun hf=>?_
     exfalso
     obtain ⟨B,hb10⟩:=T.beh M hb
     have q8 : b.kind=8:=(kind_of_right (allP_self B.right)).resolve_left (by omega)
     have X : it.of.fine m S:=B.inner (by unfold Ty.inner Ty.comp; rw [q8]; exact List.mem_append_right _ (List.mem_map_of_mem (List.mem_of_getElem? hit)))
     obtain ⟨k',b',_,hb'⟩:=beh_of hf
     exact kind_ne12 hf hb' (allP_self (X.beh M hb').1.right) q12
   | some q=>
    rw [hp] at e7
    dsimp only at e7
    obtain ⟨e1,e2,e3,e4⟩:=I.real i x _ hx hp
    have:=full_fits M hSs n _ _ _ e2 e4 e3 e7
    unfold partB
    rw [Bool.or_eq_true]
    right
    unfold partF at hp
    rw [if_neg h7,if_neg h9] at hp
    split at hp
    ·rw [hit,Option.getD_some] at hp
     split at hp
     ·split at hp
      ·cases hp
      ·injection hp with hp; subst hp; exact this
     ·injection hp with hp; subst hp; exact this
    ·cases hp
def Big (m : Md) (f : Val) (u : List (Ty × Val)) : Prop:=∀ q ∈ u,∀ k g,FullD m k q.1 q.2=some g→f.nodes≤g.nodes
theorem Big.less {m : Md} {f g : Val} {u : List (Ty × Val)} (h : Big m f u) (hg : g.nodes≤f.nodes) : Big m g u:=fun q hq k g' h'=>Nat.le_trans hg (h q hq k g' h')
theorem Big.more {m : Md} {f : Val} {u : List (Ty × Val)} (h : Big m f u) {n : Nat} {t : Ty} {d : Val} (hd : FullD m n t d=some f) : Big m f (u++[(t,d)]):=fun q hq k g h'=>by
 rcases List.mem_append.1 hq with hq | hq
 ·exact h q hq k g h'
 ·rw [List.mem_singleton] at hq
  subst hq
  rw [FullD_one hd h']
  exact Nat.le_refl _
theorem metB_mem {u : List (Ty × Val)} {t : Ty} {d : Val} (h : metB u t d=true) : (t,d) ∈ u:=by
 unfold metB at h
 rw [List.any_eq_true] at h
 obtain ⟨q,h1,h2⟩:=h
 rw [Bool.and_eq_true,Ty.same_iff,Val.same_iff] at h2
 rw [h2.1,h2.2]
 exact h1
theorem setO_far {m : Md} {f g : Val} {u : List (Ty × Val)} (h : Big m f u) (hg : g.nodes < f.nodes) {n N : Nat} {it : It} {d : Val} (hd : FullD m n it.of it.d0=some g) (hs : setO (plainN m N) u it=some d) : plainN m N (u++[(it.of,it.d0)]) it.of it.d0=some d:=by
 unfold setO at hs
 split at hs
 ·rename_i hm
  have:=h _ (metB_mem hm) n g hd
  omega
 ·exact hs
theorem setO_full {m : Md} {f g : Val} {u : List (Ty × Val)} (h : Big m f u) (hg : g.nodes < f.nodes) {n N : Nat} {it : It} {d : Val} (hd : FullD m n it.of d=some g) (hs : setO (plainN m N) u it=some d) : FullD m n it.of it.d0=some g:=by
 unfold setO at hs
 split at hs
 ·injection hs with hs; rw [hs]; exact hd
 ·rw [← full_plain N n _ _ _ _ hs]; exact hd
theorem dflt_fit {m : Md} {S : List (Ty × Val)} (hSs : ∀ q ∈ S,q.2.size≤67108864) {b : Ty} (B : b.fine m S) (q8 : b.kind=8) {it : It} (hi : it ∈ b.items) (hd : it.dflt ≠ []) : it.of.fine m S∧it.d0.size≤67108864∧∃ k,fitB m k it.of it.d0=true:=by
 obtain ⟨d,h1,h2,h3,_⟩:=goodP_iff.1 (allP_self B.good) q8 it hi hd
 have : it.d0=d:=by unfold It.d0; rw [h1]; rfl
 rw [this]
 exact ⟨B.inner (by unfold Ty.inner Ty.comp; rw [q8]; exact List.mem_append_right _ (List.mem_map_of_mem hi)),hSs _ h2,_,h3⟩
theorem partF8 {b : Ty} (q8 : b.kind=8) (v : Val) (j : Nat) (x : Val) : partF b v j x=if x.kind=12 then (match (b.items[j]?.getD It.zero).dflt with | []=>none | d :: _=>some ((b.items[j]?.getD It.zero).of,d)) else some ((b.items[j]?.getD It.zero).of,x):=by
 unfold partF
 rw [if_neg (by omega),if_neg (by omega),if_pos q8]
 rfl
theorem partO8 {b : Ty} (q8 : b.kind=8) (v : Val) (j : Nat) (x : Val) : partO b v j x=if x.kind=12 then none else some (b.items[j]?.getD It.zero).of:=by
 unfold partO
 rw [if_neg (by omega),if_neg (by omega),it_of]
 by_cases q : x.kind=12
 ·rw [if_neg (by simp [q]),if_pos q]
 ·rw [if_pos ⟨q8,q⟩,if_neg q]
theorem plain_eq {m : Md} {S : List (Ty × Val)} (M : m.fine S) (hSs : ∀ q ∈ S,q.2.size≤67108864) : ∀ (n : Nat) (t : Ty) (v v' f : Val) (u u' : List (Ty × Val)),t.fine m S→(∃ k,fitB m k t v=true)→(∃ k,fitB m k t v'=true)→v.size≤67108864→v'.size≤67108864→FullD m n t v=some f→FullD m n t v'=some f→Big m f u→Big m f u' →
    ∀ (N N' : Nat) (r r' : Val),plainN m N u t v=some r→plainN m N' u' t v'=some r'→r=r'
 | 0,_,_,_,_,_,_,_,_,_,_,_,h,_,_,_=>by cases h
 | n + 1,t,v,v',f,u,u',T,⟨k,hk⟩,⟨k',hk'⟩,hv,hv',h,h',hu,hu'=>fun N N' r r' hp hp'=>by
  obtain ⟨k,b,rfl,hb⟩:=beh_of hk
  obtain ⟨k',b',rfl,hb'⟩:=beh_of hk'
  rw [hb] at hb'; injection hb' with hb'; subst hb'
  obtain ⟨B,hb10⟩:=T.beh M hb
  have I:=fill_in M hSs T hb hv hk
  have I':=fill_in M hSs T hb hv' hk'
  cases N with
  | zero=>cases hp
  | succ N=>
  cases N' with
  | zero=>cases hp'
  | succ N'=>
  obtain ⟨a1,a2,a3,a4,a5⟩:=FullD_at h
  obtain ⟨b1,b2,b3,b4,b5⟩:=FullD_at h'
  obtain ⟨c1,c2,c3,c4,c5⟩:=plainN_at hp
  obtain ⟨d1,d2,d3,d4,d5⟩:=plainN_at hp'
  rw [hb] at a5 b5 c5 d5
  simp only [Option.getD_some] at a5 b5 c5 d5
  have hit : r.items=r'.items:=List.ext_getElem? fun j=>by
   cases hx : v.items[j]? with
   | none=>
    rw [List.getElem?_eq_none_iff] at hx
    rw [List.getElem?_eq_none (by omega),List.getElem?_eq_none (by omega)]
   | some x=>
    have hj : j < v'.items.length:=by have:=(List.getElem?_eq_some_iff.1 hx).1; omega
    have hx':=List.getElem?_eq_getElem hj
    generalize v'.items[j]=x' at hx'
    obtain ⟨g,e1,e2⟩:=a5 j x hx
    obtain ⟨g',e1',e2'⟩:=b5 j x' hx'
    rw [e1] at e1'; injection e1' with e1'; subst e1'
    obtain ⟨y,z,f1,f2,f3⟩:=c5 j x hx
    obtain ⟨y',z',f1',f2',f3'⟩:=d5 j x' hx'
    rw [f1,f1']
    have hg:=mem_node e1
    have hug:=hu.less (Nat.le_of_lt hg)
    have hug':=hu'.less (Nat.le_of_lt hg)
    have hiv : v.int=v'.int:=by rw [← a2,b2]
    congr 1
    have both : ∀ w w' q q' (t' : Ty),t'.fine m S→(∃ k,fitB m k t' w=true)→(∃ k,fitB m k t' w'=true)→w.size≤67108864→w'.size≤67108864→FullD m n t' w=some g→FullD m n t' w'=some g→plainN m N u t' w=some q→plainN m N' u' t' w'=some q'→q=q':=fun w w' q q' t' T' g1 g2 g3 g4 g5 g6 g7 g8=>
     plain_eq M hSs n t' w w' g u u' T' g1 g2 g3 g4 g5 g6 hug hug' N N' q q' g7 g8
    have I1:=I.real j x
    have I1':=I'.real j x'
    unfold fullP at e2 e2'
    unfold eachO at f2 f2'
    by_cases q8 : b.kind=8
    ·rw [if_pos q8] at f3 f3'
     rw [partF8 q8] at e2 e2' I1 I1'
     rw [partO8 q8] at f2 f2'
     have A:=fun q12=>abs_of M T hb hk q8 hx q12
     have A':=fun q12=>abs_of M T hb hk' q8 hx' q12
     have D:=fun hd : (b.items[j]?.getD It.zero).dflt ≠ []=>dflt_fit (S:=S) hSs B q8 (it:=b.items[j]?.getD It.zero) (by
      cases hq : b.items[j]? with
      | none=>rw [hq] at hd; exact absurd rfl hd
      | some w=>exact List.mem_of_getElem? hq) hd
     generalize b.items[j]?.getD It.zero=it at *
     have hd0 : ∀ d0 dr,it.dflt=d0 :: dr→d0=it.d0:=fun d0 dr e=>by unfold It.d0; rw [e]; rfl
     have half : ∀ (w y z : Val) (u : List (Ty × Val)) (N : Nat),Big m f u→it.dflt ≠ []→w.kind ≠ 12→(∃ k,fitB m k it.of w=true)→w.size≤67108864→FullD m n it.of w=some g→FullD m n it.of it.d0=some g→plainN m N u it.of w=some y→normO (setO (plainN m N) u) it y=some z→z=absV:=fun w y z u N hu hd hw g1 g2 g3 g4 g5 g6=>by
      obtain ⟨D1,D2,D3⟩:=D hd
      unfold normO at g6
      rw [if_pos ⟨hd,by rw [plainN_kind g5]; exact hw⟩] at g6
      split at g6
      ·rename_i d hs
       injection g6 with g6
       have hs':=setO_far hu hg g4 hs
       have:=plain_eq M hSs n it.of w it.d0 g u (u++[(it.of,it.d0)]) D1 g1 D3 g2 D2 g3 g4 (hu.less (Nat.le_of_lt hg)) ((hu.less (Nat.le_of_lt hg)).more g4) N N y d g5 hs'
       rw [if_pos ((Val.same_iff _ _).2 this)] at g6
       exact g6.symm
      ·cases g6
     by_cases q12 : x.kind=12
     ·rw [if_pos q12] at e2 f2 I1
      dsimp only at f2
      injection f2 with f2; subst f2
      unfold normO at f3
      rw [if_neg (by simp [q12])] at f3
      injection f3 with f3; subst f3
      by_cases q12' : x'.kind=12
      ·rw [if_pos q12'] at f2'
       dsimp only at f2'
       injection f2' with f2'; subst f2'
       unfold normO at f3'
       rw [if_neg (by simp [q12'])] at f3'
       injection f3' with f3'; subst f3'
       rw [A q12,A' q12']
      ·rw [if_neg q12'] at e2' f2' I1'
       dsimp only at f2'
       obtain ⟨i1,i2,i3,i4⟩:=I1' _ hx' rfl
       rw [A q12]
       cases hd : it.dflt with
       | nil=>
        rw [hd] at e2
        dsimp only at e2 e2'
        split at e2
        ·cases e2
        ·injection e2 with e2; subst e2
         exact absurd (FullD_kind e2') (by rw [q12]; exact fun e=>q12' e.symm)
       | cons d0 dr=>
        rw [hd] at e2
        dsimp only at e2 e2'
        rw [hd0 d0 dr hd] at e2
        exact (half x' y' z' u' N' hu' (by rw [hd]; simp) q12' i4 i3 e2' e2 f2' f3').symm
     ·rw [if_neg q12] at e2 f2 I1
      dsimp only at e2 f2
      obtain ⟨i1,i2,i3,i4⟩:=I1 _ hx rfl
      dsimp only at i1 i2 i3 i4
      by_cases q12' : x'.kind=12
      ·rw [if_pos q12'] at e2' f2' I1'
       dsimp only at f2'
       injection f2' with f2'; subst f2'
       unfold normO at f3'
       rw [if_neg (by simp [q12'])] at f3'
       injection f3' with f3'; subst f3'
       rw [A' q12']
       cases hd : it.dflt with
       | nil=>
        rw [hd] at e2'
        dsimp only at e2 e2'
        split at e2'
        ·cases e2'
        ·injection e2' with e2'; subst e2'
         exact absurd (FullD_kind e2) (by rw [q12']; exact fun e=>q12 e.symm)
       | cons d0 dr=>
        rw [hd] at e2'
        dsimp only at e2 e2'
        rw [hd0 d0 dr hd] at e2'
        exact half x y z u N hu (by rw [hd]; simp) q12 i4 i3 e2 e2' f2 f3
      ·rw [if_neg q12'] at e2' f2' I1'
       dsimp only at e2' f2'
       obtain ⟨i1',i2',i3',i4'⟩:=I1' _ hx' rfl
       dsimp only at i1' i2' i3' i4'
       have hy:=both x x' y y' it.of i2 i4 i4' i3 i3' e2 e2' f2 f2'
       subst hy
       have hyg : FullD m n it.of y=some g:=by rw [full_plain N n u _ _ _ f2]; exact e2
       have over : ∀ (u u' : List (Ty × Val)) (N N' : Nat) (d d' : Val),Big m f u→Big m f u'→it.dflt ≠ []→setO (plainN m N) u it=some d→setO (plainN m N') u' it=some d'→y=d→y=d':=fun u u' N N' d d' hu hu' hd hs hs' e=>by
        subst e
        obtain ⟨D1,D2,D3⟩:=D hd
        have hdg:=setO_full hu hg hyg hs
        exact plain_eq M hSs n it.of it.d0 it.d0 g _ _ D1 D3 D3 D2 D2 hdg hdg ((hu.less (Nat.le_of_lt hg)).more hdg) ((hu'.less (Nat.le_of_lt hg)).more hdg) N N' _ _ (setO_far hu hg hdg hs) (setO_far hu' hg hdg hs')
       unfold normO at f3 f3'
       split at f3
       ·rename_i hc
        rw [if_pos hc] at f3'
        split at f3
        ·rename_i d hs
         split at f3'
         ·rename_i d' hs'
          injection f3 with f3
          injection f3' with f3'
          by_cases hsm : y=d
          ·have hsm':=over u u' N N' d d' hu hu' hc.1 hs hs' hsm
           rw [if_pos ((Val.same_iff _ _).2 hsm)] at f3
           rw [if_pos ((Val.same_iff _ _).2 hsm')] at f3'
           rw [← f3,← f3']
          ·have hsm' : ¬ y=d':=fun e=>hsm (over u' u N' N d' d hu' hu hc.1 hs' hs e)
           rw [if_neg (fun e=>hsm ((Val.same_iff _ _).1 e))] at f3
           rw [if_neg (fun e=>hsm' ((Val.same_iff _ _).1 e))] at f3'
           rw [← f3,← f3']
         ·cases f3'
        ·cases f3
       ·rename_i hc
        rw [if_neg hc] at f3'
        injection f3 with f3
        injection f3' with f3'
        rw [← f3,← f3']
    ·rw [if_neg q8] at f3 f3'
     subst f3; subst f3'
     unfold partF at e2 e2' I1 I1'
     unfold partO at f2 f2'
     rw [← hiv] at e2' f2' I1'
     by_cases q7 : b.kind=7
     ·rw [if_pos q7] at e2 e2' I1 I1' f2 f2'
      obtain ⟨_,i2,i3,i4⟩:=I1 _ hx rfl
      obtain ⟨_,_,i3',i4'⟩:=I1' _ hx' rfl
      exact both x x' _ _ _ i2 i4 i4' i3 i3' e2 e2' f2 f2'
     ·by_cases q9 : b.kind=9
      ·rw [if_neg q7,if_pos q9] at e2 e2' I1 I1' f2 f2'
       obtain ⟨_,i2,i3,i4⟩:=I1 _ hx rfl
       obtain ⟨_,_,i3',i4'⟩:=I1' _ hx' rfl
       exact both x x' _ _ _ i2 i4 i4' i3 i3' e2 e2' f2 f2'
      ·rw [if_neg q7,if_neg q9,if_neg q8] at e2 e2'
       rw [if_neg q7,if_neg q9,if_neg (fun e=>q8 e.1)] at f2 f2'
       injection f2 with f2
       injection f2' with f2'
       dsimp only at e2 e2'
       split at e2
       ·cases e2
       ·rename_i hn
        rw [if_neg hn] at e2'
        injection e2 with e2
        injection e2' with e2'
        rw [← f2,← f2',e2,e2']
  rw [← r.eta,← r'.eta,hit,c1,c2,c3,d1,d2,d3,← a1,← a2,← a3,← b1,← b2,← b3]
end Go.Proofs.YtflbneepngjglaaGreatDoor
