/- What a call hands back: slices that it made become the caller's own. -/
import Derived.Test.YtflbneepngjglaaGreatDoorR04
set_option linter.all false
namespace Go.Avm
open Go.RowKit
section
variable {w0 : World} {wr base : Nat} {β : Beta} {w : World} {h : H}
theorem Rel.to {V V' : View} {β β' : Beta} (hV : V.Le V') (hβ : β.Le β') {x : AV} {v : Value} (h : Rel V β x v) : Rel V' β' x v:=Rel.mono hV hβ x v h
theorem view_le {wr' : Nat} {β' : Beta} {h' : H} (hl : ∀ c,Live wr' β' h' c→Live wr β h c) : (view wr β h w).Le (view wr' β' h' w):=by
 refine ⟨fun c o v hv=>?_,fun c=>Nat.le_refl _⟩
 obtain ⟨h1,h2⟩:=view_M hv
 exact view_M_mk h1 (fun h3=>h2 (hl c h3))
theorem sim_set {b ver sz : Nat} {els : List AV} (S : Sim w0 wr β h w) (hc : cur h b=some ver)
    (hnew : ∀ c,β b ver=some (some c)→(∃ cs T fr,w.heap[c]? = some (.cells cs T fr)∧els.length * sz≤cs.size)∧(∀ o,o < (view wr β h w).S c→w.frozen? ⟨c,o,none⟩=false)∧BE (rdw w) (view wr β h w) β c 0 sz els) :
    Sim w0 wr β (h.set b (.arr ver sz els)) w∧(∀ k v,cur (h.set b (.arr ver sz els)) k=some v→cur h k=some v)∧∀ c,Live wr β (h.set b (.arr ver sz els)) c→Live wr β h c:=by
 have hb:=cur_lt hc
 have hcur : ∀ k v,cur (h.set b (.arr ver sz els)) k=some v→cur h k=some v:=fun k v hk=>by
  by_cases hkb : k=b
  ·subst hkb
   unfold cur at hk
   rw [List.getElem?_set_self hb] at hk
   simp at hk; subst hk; exact hc
  ·unfold cur at hk ⊢
   rwa [List.getElem?_set_ne (fun e=>hkb e.symm)] at hk
 have hlive : ∀ c,Live wr β (h.set b (.arr ver sz els)) c→Live wr β h c:=fun c ⟨k,v,h1,h2,h3⟩=>⟨k,v,h1,hcur k v h2,h3⟩
 have hv:=view_le (w:=w) hlive
 refine ⟨⟨S.below,fun k v c hk=>?_,fun k v hk=>?_,?_,?_,?_,?_,?_,?_⟩,hcur,hlive⟩
 ·obtain ⟨h1,h2⟩:=S.dom k v c hk; exact ⟨by simpa using h1,h2⟩
 ·simpa using S.domv k v hk
 ·exact fun k k' v v' c h1 h2 h3 h4=>S.inj k k' v v' c (hcur k v h1) (hcur k' v' h2) h3 h4
 ·intro k v z es c h1 h2
  by_cases hkb : k=b
  ·subst hkb
   rw [List.getElem?_set_self hb] at h1
   simp at h1
   obtain ⟨rfl,rfl,rfl⟩:=h1
   obtain ⟨h3,h4,h5⟩:=hnew c h2
   exact ⟨h3,h4,h5.mono (fun _ _ h=>h) hv (Beta.Le.refl _)⟩
  ·rw [List.getElem?_set_ne (fun e=>hkb e.symm)] at h1
   obtain ⟨h3,h4,h5⟩:=S.arr k v z es c h1 h2
   exact ⟨h3,h4,h5.mono (fun _ _ h=>h) hv (Beta.Le.refl _)⟩
 ·intro k x v c h1 hcu h2
  by_cases hkb : k=b
  ·subst hkb
   rw [List.getElem?_set_self hb] at h1; injection h1 with h1; subst h1; exact trivial
  ·rw [List.getElem?_set_ne (fun e=>hkb e.symm)] at h1
   exact (S.oth k x v c h1 (hcur k v hcu) h2).mono rfl hv (Beta.Le.refl _)
 ·intro k b1 v T n h1
  by_cases hkb : k=b
  ·subst hkb
   rw [List.getElem?_set_self hb] at h1; simp at h1
  ·rw [List.getElem?_set_ne (fun e=>hkb e.symm)] at h1
   exact S.tyd k b1 v T n h1
 ·intro k v v1 h1 h2
  exact S.old k v v1 (hcur k v1 h1) h2
 ·intro k v v1 h1 h2
  by_cases hkb : k=b
  ·subst hkb
   rw [List.getElem?_set_self hb] at h1; simp at h1
  ·rw [List.getElem?_set_ne (fun e=>hkb e.symm)] at h1
   exact S.oldd k v v1 h1 h2
def giveB (base : Nat) (β : Beta) (acc : List (Nat × Nat)) : Beta:=fun b v=>if b < base then β b v else match acc[b - base]? with
 | some (k,ver)=>if v=0 then β k ver else none
 | none=>none
theorem giveB_le (acc : List (Nat × Nat)) (r : List (Nat × Nat)) : (giveB base β acc).Le (giveB base β (acc++r)):=fun b v x hx=>by
 unfold giveB at *
 split
 ·rename_i hb; rw [if_pos hb] at hx; exact hx
 ·rename_i hb
  rw [if_neg hb] at hx
  split at hx
  ·rename_i k ver hk
   rw [List.getElem?_append_left (List.getElem?_eq_some_iff.1 hk).1,hk]
   exact hx
  ·cases hx
theorem restr_giveB (acc : List (Nat × Nat)) : (restr base β).Le (giveB base β acc):=fun b v x hx=>by
 unfold restr at hx
 split at hx
 ·rename_i hb; unfold giveB; rw [if_pos hb]; exact hx
 ·cases hx
structure Giving (w0 : World) (wr base : Nat) (β : Beta) (w : World) (h0 : H) (acc : List (Nat × Nat)) (h : H) : Prop where
 sim : Sim w0 wr β h w
 live : ∀ c,Live wr β h c→Live wr β h0 c
 len : h.length=h0.length
 cur : ∀ k v,cur h k=some v→cur h0 k=some v
 keep : ∀ b,b < h0.length→(∀ v,β b v=none)→h[b]? = h0[b]?
 ge : ∀ p ∈ acc,base≤p.1
 nodup : (acc.map (·.1)).Nodup
 els : ∀ p ∈ acc,∀ sz els c,h[p.1]? = some (.arr p.2 sz els)→β p.1 p.2=some (some c)→BE (rdw w) (view wr β h w) (restr base β) c 0 sz els
def OwnOk (w0 : World) (wr base : Nat) (β : Beta) (w : World) (h0 : H) (f : AV→List (Nat × Nat)→H→Option (AV × List (Nat × Nat) × H)) : Prop:=
 ∀ v acc h v' acc' h' x,f v acc h=some (v',acc',h')→Giving w0 wr base β w h0 acc h→Rel (view wr β h w) β v x →
  Giving w0 wr base β w h0 acc' h'∧(∀ c,Live wr β h' c→Live wr β h c)∧(∃ r,acc'=acc++r)∧Rel (view wr β h' w) (giveB base β acc') v' x
theorem ownL_ok {h0 : H} {f : AV→List (Nat × Nat)→H→Option (AV × List (Nat × Nat) × H)} (hf : OwnOk w0 wr base β w h0 f) : ∀ {l : List AV} {acc : List (Nat × Nat)} {h : H} {l' : List AV} {acc' : List (Nat × Nat)} {h' : H} {xs : List Value},
    ownL f l acc h=some (l',acc',h')→Giving w0 wr base β w h0 acc h→RelL (view wr β h w) β l xs →
    Giving w0 wr base β w h0 acc' h'∧(∀ c,Live wr β h' c→Live wr β h c)∧(∃ r,acc'=acc++r)∧RelL (view wr β h' w) (giveB base β acc') l' xs
 | [],acc,h,l',acc',h',xs,e,G,hr=>by
  simp [ownL] at e
  obtain ⟨rfl,rfl,rfl⟩:=e
  unfold RelL at hr ⊢
  exact ⟨G,fun _ h=>h,⟨[],by simp⟩,hr⟩
 | v :: l,acc,h,l',acc',h',xs,e,G,hr=>by
  unfold ownL at e
  split at e
  ·rename_i v1 acc1 h1 e1
   split at e
   ·rename_i l2 acc2 h2 e2
    simp at e
    obtain ⟨rfl,rfl,rfl⟩:=e
    unfold RelL at hr
    obtain ⟨x,r,rfl,hx,hr⟩:=hr
    obtain ⟨G1,L1,⟨r1,q1⟩,k1⟩:=hf v acc h v1 acc1 h1 x e1 G hx
    obtain ⟨G2,L2,⟨r2,q2⟩,k2⟩:=ownL_ok hf e2 G1 (RelL.mono (view_le L1) (Beta.Le.refl _) _ _ hr)
    refine ⟨G2,fun c hc=>L1 c (L2 c hc),⟨r1++r2,by rw [q2,q1,List.append_assoc]⟩,?_⟩
    unfold RelL
    exact ⟨x,r,rfl,Rel.mono (view_le L2) (by rw [q2]; exact giveB_le _ _) _ _ k1,k2⟩
   ·cases e
  ·cases e
theorem Giving.frz {h0 : H} {acc : List (Nat × Nat)} {h' : H} (G : Giving w0 wr base β w h0 acc h) (S : Sim w0 wr β h' w) (hl : h'.length=h.length) (hc : ∀ k v,Avm.cur h' k=some v→Avm.cur h k=some v)
    (hk : ∀ (k ver sz : Nat) (els : List AV),h'[k]? = some (ABlock.arr ver sz els)→h[k]? = some (ABlock.arr ver sz els)) (hkp : ∀ b,b < h.length→(∀ v,β b v=none)→h'[b]? = h[b]?) : Giving w0 wr base β w h0 acc h':=by
 have hlive : ∀ c,Live wr β h' c→Live wr β h c:=fun c ⟨k,v,h1,h2,h3⟩=>⟨k,v,h1,hc k v h2,h3⟩
 refine ⟨S,fun c h=>G.live c (hlive c h),hl.trans G.len,fun k v h=>G.cur k v (hc k v h),fun b hb hn=>(hkp b (by rw [G.len]; exact hb) hn).trans (G.keep b hb hn),G.ge,G.nodup,fun p hp sz els c h1 h2=>?_⟩
 exact (G.els p hp sz els c (hk _ _ _ _ h1) h2).mono (fun _ _ h=>h) (view_le hlive) (Beta.Le.refl _)
def Keeps (h h' : H) : Prop:=∀ (k ver sz : Nat) (els : List AV),h'[k]? = some (ABlock.arr ver sz els)→h[k]? = some (ABlock.arr ver sz els)
theorem frzL_keeps {f : AV→H→Option (AV × H)} (hf : ∀ v h v' h',f v h=some (v',h')→Keeps h h') : ∀ {l l' : List AV} {h h' : H},frzL f l h=some (l',h')→Keeps h h'
 | [],l',h,h',e=>by
  simp [frzL] at e
  obtain ⟨rfl,rfl⟩:=e
  exact fun _ _ _ _ h=>h
 | v :: l,l',h,h',e=>by
  unfold frzL at e
  split at e
  ·rename_i v1 h1 e1
   split at e
   ·rename_i l2 h2 e2
    simp at e
    obtain ⟨rfl,rfl⟩:=e
    exact fun k ver sz els hk=>hf _ _ _ _ e1 k ver sz els (frzL_keeps hf e2 k ver sz els hk)
   ·cases e
  ·cases e
theorem frz_keeps (base : Nat) : ∀ n v h v' h',frz base n v h=some (v',h')→Keeps h h':=by
 intro n
 induction n with
 | zero=>
  intro v h v' h' e
  unfold frz at e
  split at e
  ·simp at e; obtain ⟨rfl,rfl⟩:=e; exact fun _ _ _ _ h=>h
  ·cases e
 | succ n ih=>
  intro v h v' h' e
  unfold frz at e
  split at e
  ·simp at e; obtain ⟨rfl,rfl⟩:=e; exact fun _ _ _ _ h=>h
  ·split at e
   ·split at e
    ·rename_i h1; simp at e; obtain ⟨rfl,rfl⟩:=e; exact frzL_keeps ih h1
    ·cases e
   ·split at e
    ·rename_i h1; simp at e; obtain ⟨rfl,rfl⟩:=e; exact frzL_keeps ih h1
    ·cases e
   ·split at e
    ·rename_i h1; simp at e; obtain ⟨rfl,rfl⟩:=e; exact frzL_keeps ih h1
    ·cases e
   ·simp at e; obtain ⟨rfl,rfl⟩:=e; exact fun _ _ _ _ h=>h
   ·split at e
    ·simp at e; obtain ⟨rfl,rfl⟩:=e; exact fun _ _ _ _ h=>h
    ·split at e
     ·split at e
      ·rename_i b ver _ _ _ _ _ _ _ _ _ _ _ h1
       simp at e; obtain ⟨rfl,rfl⟩:=e
       intro k v z es hk
       have:=frzL_keeps ih h1 k v z es hk
       by_cases hkb : k=b
       ·subst hkb
        unfold kill at this
        rcases Nat.lt_or_ge k h.length with hlt | hge
        ·rw [List.getElem?_set_self hlt] at this; simp at this
        ·rw [List.getElem?_eq_none (by simpa using hge)] at this; cases this
       ·rwa [kill_get hkb] at this
      ·cases e
     ·cases e
   ·split at e
    ·simp at e; obtain ⟨rfl,rfl⟩:=e; exact fun _ _ _ _ h=>h
    ·cases e
   ·split at e
    ·simp at e; obtain ⟨rfl,rfl⟩:=e; exact fun _ _ _ _ h=>h
    ·cases e
   ·split at e
    ·simp at e; obtain ⟨rfl,rfl⟩:=e; exact fun _ _ _ _ h=>h
    ·cases e
   ·cases e
theorem alive_arr {h : H} {b ver : Nat} (ha : alive h b ver=true) : ∃ sz els,h[b]? = some (ABlock.arr ver sz els):=by
 unfold alive at ha
 split at ha
 ·rename_i v z es hb
  have : v=ver:=by simpa using ha
  subst this
  exact ⟨z,es,hb⟩
 ·cases ha
theorem own1_ok (hwr : wr≤base) (h0 : H) (hh : base≤h0.length) : OwnOk w0 wr base β w h0 (own1 base):=by
 have frozen : ∀ (v : AV) (acc : List (Nat × Nat)) (h : H) (v' : AV) (acc' : List (Nat × Nat)) (h' : H) (x : Value),(match frz base deep v h with | some (v',h')=>some (v',acc,h') | none=>none)=some (v',acc',h')→Giving w0 wr base β w h0 acc h→Rel (view wr β h w) β v x →
     Giving w0 wr base β w h0 acc' h'∧(∀ c,Live wr β h' c→Live wr β h c)∧(∃ r,acc'=acc++r)∧Rel (view wr β h' w) (giveB base β acc') v' x:=by
  intro v acc h v' acc' h' x e G hr
  split at e
  ·rename_i v1 h1 e1
   simp at e
   obtain ⟨rfl,rfl,rfl⟩:=e
   obtain ⟨S1,E1,n1,_,c1,r1,_⟩:=frz_ok hwr deep v h v1 h1 x e1 G.sim hr
   exact ⟨G.frz S1 n1 c1 (frz_keeps base _ _ _ _ _ e1) E1.keep,fun c ⟨k,v,g1,g2,g3⟩=>⟨k,v,g1,c1 k v g2,g3⟩,⟨[],by simp⟩,Rel.mono (View.Le.refl _) (restr_giveB _) _ _ r1⟩
  ·cases e
 intro v acc h v' acc' h' x e G hr
 unfold own1 at e
 split at e
 ·rename_i b ver sz off len
  split at e
  ·rename_i hb
   simp at e
   obtain ⟨rfl,rfl,rfl⟩:=e
   refine ⟨G,fun _ h=>h,⟨[],by simp⟩,?_⟩
   unfold Rel at hr ⊢
   have : giveB base β acc b ver = β b ver:=by unfold giveB; rw [if_pos hb]
   rw [this]
   exact hr
  ·rename_i hb
   split at e
   ·rename_i v0 z els hbk
    split at e
    ·rename_i hcnd
     obtain ⟨rfl,rfl,rfl,rfl,hacc⟩:=hcnd
     split at e
     ·rename_i els' h1 e1
      split at e
      ·rename_i hal
       simp at e
       obtain ⟨rfl,rfl,rfl⟩:=e
       obtain ⟨z2,es2,halive⟩:=alive_arr hal
       have hk1:=frzL_keeps (frz_keeps base deep) e1
       have hold:=hk1 _ _ _ _ halive
       rw [hbk] at hold
       simp at hold
       obtain ⟨rfl,rfl⟩:=hold
       have main : Sim w0 wr β h1 w∧h1.length=h.length∧(∀ k v,Avm.cur h1 k=some v→Avm.cur h k=some v)∧(∃ y,β b v0=some y)∧(∀ k,k < h.length→(∀ v,β k v=none)→h1[k]? = h[k]?)∧∀ c,β b v0=some (some c)→BE (rdw w) (view wr β h1 w) (restr base β) c 0 z els':=by
        cases hβ : β b v0 with
        | none=>
         unfold Rel at hr
         rcases hr with ⟨c,_,h2,_⟩ | ⟨h2,_⟩ <;> rw [hβ] at h2 <;> cases h2
        | some oc=>
         cases oc with
         | none=>
          unfold Rel at hr
          rcases hr with ⟨c,_,h2,_⟩ | ⟨_,h2,_⟩
          ·rw [hβ] at h2; cases h2
          ·have : els=[]:=List.eq_nil_of_length_eq_zero h2
           subst this
           simp [frzL] at e1
           obtain ⟨rfl,rfl⟩:=e1
           exact ⟨G.sim,rfl,fun _ _ h=>h,⟨_,rfl⟩,fun _ _ _=>rfl,fun c hc=>by cases hc⟩
         | some c=>
          obtain ⟨_,_,hbe⟩:=G.sim.arr b v0 z els c hbk hβ
          obtain ⟨S1,E1,n1,_,c1,r1⟩:=frzL_be (frz_ok hwr deep) e1 G.sim hbe
          exact ⟨S1,n1,c1,⟨_,rfl⟩,E1.keep,fun c' hc=>by injection hc with hc; injection hc with hc; subst hc; exact r1⟩
       obtain ⟨S1,n1,c1,⟨y,hy⟩,hkp,hbe'⟩:=main
       have G1:=G.frz S1 n1 c1 hk1 hkp
       have hcur1 : Avm.cur h1 b=some v0:=by unfold Avm.cur; rw [halive]
       obtain ⟨S2,c2,l2⟩:=sim_set (sz:=z) (els:=els') S1 hcur1 (fun c hc=>by
        obtain ⟨⟨cs,T,fr,h3,h4⟩,h5,_⟩:=S1.arr b v0 z els c halive hc
        exact ⟨⟨cs,T,fr,h3,by rw [frzL_len e1]; exact h4⟩,h5,(hbe' c hc).mono (fun _ _ h=>h) (View.Le.refl _) (restr_le _ _)⟩)
       have hv2:=view_le (w:=w) l2
       have hlive : ∀ c,Live wr β (h1.set b (.arr v0 z els')) c→Live wr β h c:=fun c hc=>by
        obtain ⟨k,v,g1,g2,g3⟩:=l2 c hc
        exact ⟨k,v,g1,c1 k v g2,g3⟩
       have hb1 : b < h1.length:=(List.getElem?_eq_some_iff.1 halive).1
       refine ⟨⟨S2,fun c hc=>G.live c (hlive c hc),by simp; exact G1.len,fun k v hk=>G1.cur k v (c2 k v hk),fun k hk hn=>?_,?_,?_,?_⟩,hlive,⟨[(b,v0)],rfl⟩,?_⟩
       ·rw [List.getElem?_set_ne (by rintro rfl; rw [hn v0] at hy; cases hy)]
        exact G1.keep k hk hn
       ·intro p hp
        simp only [List.mem_append,List.mem_singleton] at hp
        rcases hp with hp | rfl
        ·exact G.ge p hp
        ·exact Nat.le_of_not_lt hb
       ·rw [List.map_append,List.nodup_append]
        refine ⟨G.nodup,by simp,fun x hx y hy hxy=>?_⟩
        simp at hy
        subst hy hxy
        simp only [List.mem_map] at hx
        obtain ⟨p,hp,hpe⟩:=hx
        have:=List.all_eq_true.1 hacc p hp
        simp [hpe] at this
       ·intro p hp sz' es c h3 h4
        by_cases hpb : p.1=b
        ·rw [hpb,List.getElem?_set_self hb1] at h3
         simp at h3
         obtain ⟨h3,rfl,rfl⟩:=h3
         rw [hpb,← h3] at h4
         exact (hbe' c h4).mono (fun _ _ h=>h) hv2 (Beta.Le.refl _)
        ·rw [List.getElem?_set_ne (fun e=>hpb e.symm)] at h3
         simp only [List.mem_append,List.mem_singleton] at hp
         rcases hp with hp | rfl
         ·exact (G1.els p hp sz' es c h3 h4).mono (fun _ _ h=>h) hv2 (Beta.Le.refl _)
         ·exact absurd rfl hpb
       ·have hg : giveB base β (acc++[(b,v0)]) (base + acc.length) 0 = β b v0:=by
          unfold giveB
          rw [if_neg (by omega),Nat.add_sub_cancel_left,List.getElem?_append_right (Nat.le_refl _)]
          simp
        unfold Rel at hr ⊢
        rw [hg]
        rcases hr with ⟨c,cap,g1,g2,g3,g4⟩ | ⟨g1,g2,g3,q⟩
        ·exact .inl ⟨c,cap,g1,g2,g3,g4⟩
        ·exact .inr ⟨g1,g2,rfl,q⟩
      ·cases e
     ·cases e
    ·cases e
   ·cases e
 ·exact frozen _ acc h v' acc' h' x e G hr
theorem own2_ok (hwr : wr≤base) (h0 : H) (hh : base≤h0.length) : OwnOk w0 wr base β w h0 (own2 base):=by
 intro v acc h v' acc' h' x e G hr
 unfold own2 at e
 split at e
 ·split at e
  ·rename_i l l' acc1 h1 e1
   simp at e
   obtain ⟨rfl,rfl,rfl⟩:=e
   unfold Rel at hr
   obtain ⟨vs,rfl,hr⟩:=hr
   obtain ⟨G1,L1,r1,k1⟩:=ownL_ok (own1_ok hwr h0 hh) e1 G hr
   refine ⟨G1,L1,r1,?_⟩
   unfold Rel
   exact ⟨vs,rfl,k1⟩
  ·cases e
 ·exact own1_ok hwr h0 hh _ _ _ _ _ _ _ e G hr
theorem own3_ok (hwr : wr≤base) (h0 : H) (hh : base≤h0.length) : OwnOk w0 wr base β w h0 (own3 base):=by
 intro v acc h v' acc' h' x e G hr
 unfold own3 at e
 split at e
 ·split at e
  ·rename_i l l' acc1 h1 e1
   simp at e
   obtain ⟨rfl,rfl,rfl⟩:=e
   unfold Rel at hr
   obtain ⟨vs,rfl,hr⟩:=hr
   obtain ⟨G1,L1,r1,k1⟩:=ownL_ok (own2_ok hwr h0 hh) e1 G hr
   refine ⟨G1,L1,r1,?_⟩
   unfold Rel
   exact ⟨vs,rfl,k1⟩
  ·cases e
 ·exact own2_ok hwr h0 hh _ _ _ _ _ _ _ e G hr
end
end Go.Avm
