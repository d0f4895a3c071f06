/- Plain and full: plain again; full by depth; what fits. -/
import Derived.Test.YtflbneepngjglaaGreatDoorP49
set_option linter.all false
namespace Go.Proofs.YtflbneepngjglaaGreatDoor
open Go Go.Avm
theorem mapIO_ext {f g : Nat→Val→Option Val} : ∀ {l : List Val} {i : Nat},(∀ (j : Nat) x,l[j]? = some x→f (i + j) x=g (i + j) x)→mapIO f i l=mapIO g i l
 | [],i,_=>rfl
 | x :: l,i,h=>by
  have h0:=h 0 x rfl
  rw [Nat.add_zero] at h0
  have h1:=mapIO_ext (f:=f) (g:=g) (l:=l) (i:=i + 1) fun j y hj=>by
   have:=h (j + 1) y (by simpa using hj)
   rw [show i + 1 + j=i + (j + 1) by omega]; exact this
  simp only [mapIO,h0,h1]
theorem mapIO_id {f : Nat→Val→Option Val} : ∀ {l : List Val} {i : Nat},(∀ (j : Nat) x,l[j]? = some x→f (i + j) x=some x)→mapIO f i l=some l
 | [],i,_=>rfl
 | x :: l,i,h=>by
  have h0:=h 0 x rfl
  rw [Nat.add_zero] at h0
  have h1:=mapIO_id (f:=f) (l:=l) (i:=i + 1) fun j y hj=>by
   have:=h (j + 1) y (by simpa using hj)
   rw [show i + 1 + j=i + (j + 1) by omega]; exact this
  simp only [mapIO,h0,h1]
theorem partO_kind {b : Ty} {v w : Val} {i : Nat} {x y : Val} (hi : v.int=w.int) (hk : b.kind=8→(x.kind=12 ↔ y.kind=12)) : partO b v i x=partO b w i y:=by
 unfold partO
 rw [hi]
 by_cases q7 : b.kind=7
 ·rw [if_pos q7,if_pos q7]
 ·by_cases q9 : b.kind=9
  ·rw [if_neg q7,if_neg q7,if_pos q9,if_pos q9]
  ·rw [if_neg q7,if_neg q7,if_neg q9,if_neg q9]
   by_cases q8 : b.kind=8
   ·have:=hk q8
    by_cases q12 : x.kind=12
    ·rw [if_neg (by simp [q12]),if_neg (by simp [this.1 q12])]
    ·rw [if_pos ⟨q8,q12⟩,if_pos ⟨q8,fun e=>q12 (this.2 e)⟩]
   ·rw [if_neg (by simp [q8]),if_neg (by simp [q8])]
theorem plain_again {m : Md} : ∀ (n : Nat) (u : List (Ty × Val)) (t : Ty) (v r : Val),plainN m n u t v=some r→plainN m n u t r=some r
 | 0,_,_,_,_,h=>by cases h
 | n + 1,u,t,v,r,h=>by
  unfold plainN at h
  split at h
  ·cases h
  ·rename_i l hl
   obtain ⟨hll,hlg⟩:=mapIO_get hl
   have again : ∀ (j : Nat) x y,v.items[j]? = some x→eachO ((beh m 21 t).getD Ty.zero) v (plainN m n u) j x=some y→∀ w : Val,w.int=v.int→eachO ((beh m 21 t).getD Ty.zero) w (plainN m n u) j y=some y:=fun j x y hx he w hw=>by
    unfold eachO at he ⊢
    have hk : y.kind=x.kind:=by
     split at he
     ·exact plainN_kind he
     ·injection he with he; rw [he]
    have hp : partO ((beh m 21 t).getD Ty.zero) w j y=partO ((beh m 21 t).getD Ty.zero) v j x:=partO_kind hw fun _=>by rw [hk]
    rw [hp]
    cases hq : partO ((beh m 21 t).getD Ty.zero) v j x with
    | none=>rfl
    | some t'=>
     rw [hq] at he
     exact plain_again n u t' x y he
   split at h
   ·rename_i q8
    split at h
    ·rename_i r' hr
     cases h
     obtain ⟨hrl,hrg⟩:=mapIO_get hr
     have e1 : mapIO (eachO ((beh m 21 t).getD Ty.zero) (.mk v.kind v.int v.bytes r') (plainN m n u)) 0 r'=some r':=mapIO_id fun j z hz=>by
      have hj:=(List.getElem?_eq_some_iff.1 hz).1
      have hjl : j < l.length:=by omega
      obtain ⟨z',h1,h2⟩:=hrg j l[j] (List.getElem?_eq_getElem hjl)
      rw [hz] at h1; injection h1 with h1; subst h1
      have hjv : j < v.items.length:=by omega
      obtain ⟨y',h3,h4⟩:=hlg j v.items[j] (List.getElem?_eq_getElem hjv)
      rw [List.getElem?_eq_getElem hjl] at h3; injection h3 with h3; subst h3
      rw [Nat.zero_add] at h2 h4 ⊢
      have keep : z=l[j] ∨ z=absV:=by
       unfold normO at h2
       split at h2
       ·split at h2
        ·injection h2 with h2
         split at h2
         ·exact .inr h2.symm
         ·exact .inl h2.symm
        ·cases h2
       ·injection h2 with h2; exact .inl h2.symm
      rcases keep with rfl | rfl
      ·exact again j _ _ (List.getElem?_eq_getElem hjv) h4 _ rfl
      ·unfold eachO partO
       rw [if_neg (by omega),if_neg (by omega),if_neg (by simp [absV])]
     have e2 : mapIO (fun i x=>normO (setO (plainN m n) u) (((beh m 21 t).getD Ty.zero).items[i]?.getD It.zero) x) 0 r'=some r':=mapIO_id fun j z hz=>by
      have hj:=(List.getElem?_eq_some_iff.1 hz).1
      have hjl : j < l.length:=by omega
      obtain ⟨z',h1,h2⟩:=hrg j l[j] (List.getElem?_eq_getElem hjl)
      rw [hz] at h1; injection h1 with h1; subst h1
      rw [Nat.zero_add] at h2 ⊢
      unfold normO at h2 ⊢
      split at h2
      ·rename_i hc
       cases hs : setO (plainN m n) u (((beh m 21 t).getD Ty.zero).items[j]?.getD It.zero) with
       | none=>rw [hs] at h2; cases h2
       | some d=>
        rw [hs] at h2
        injection h2 with h2
        by_cases hsm : l[j].same d=true
        ·rw [if_pos hsm] at h2
         subst h2
         rw [if_neg (by simp [absV])]
        ·rw [if_neg hsm] at h2
         subst h2
         rw [if_pos hc]
         simp [hsm]
      ·rename_i hc
       injection h2 with h2
       subst h2
       rw [if_neg hc]
     unfold plainN
     simp only [Val.items_mk]
     rw [e1]
     dsimp only
     rw [if_pos q8,e2]
     simp
    ·cases h
   ·rename_i q8
    cases h
    have e1 : mapIO (eachO ((beh m 21 t).getD Ty.zero) (.mk v.kind v.int v.bytes l) (plainN m n u)) 0 l=some l:=mapIO_id fun j z hz=>by
     have hj:=(List.getElem?_eq_some_iff.1 hz).1
     have hjv : j < v.items.length:=by omega
     obtain ⟨y',h3,h4⟩:=hlg j v.items[j] (List.getElem?_eq_getElem hjv)
     rw [hz] at h3; injection h3 with h3; subst h3
     rw [Nat.zero_add] at h4 ⊢
     exact again j _ _ (List.getElem?_eq_getElem hjv) h4 _ rfl
    unfold plainN
    simp only [Val.items_mk]
    rw [e1]
    dsimp only
    rw [if_neg q8]
    simp
theorem mapIO_mk {f : Nat→Val→Option Val} : ∀ {l r : List Val} {i : Nat},r.length=l.length→(∀ (j : Nat) x y,l[j]? = some x→r[j]? = some y→f (i + j) x=some y)→mapIO f i l=some r
 | [],[],_,_,_=>rfl
 | [],_ :: _,_,h,_=>by simp at h
 | _ :: _,[],_,h,_=>by simp at h
 | x :: l,y :: r,i,h,hf=>by
  have h0:=hf 0 x y rfl rfl
  rw [Nat.add_zero] at h0
  have h1:=mapIO_mk (f:=f) (l:=l) (r:=r) (i:=i + 1) (by simpa using h) fun j a b ha hb=>by
   have:=hf (j + 1) a b (by simpa using ha) (by simpa using hb)
   rw [show i + 1 + j=i + (j + 1) by omega]; exact this
  simp only [mapIO,h0,h1]
theorem mapIO_eq {f g : Nat→Val→Option Val} : ∀ {l r : List Val} {i : Nat},r.length=l.length→(∀ (j : Nat) x y,l[j]? = some x→r[j]? = some y→g (i + j) y=f (i + j) x)→mapIO g i r=mapIO f i l
 | [],[],_,_,_=>rfl
 | [],_ :: _,_,h,_=>by simp at h
 | _ :: _,[],_,h,_=>by simp at h
 | x :: l,y :: r,i,h,hf=>by
  have h0:=hf 0 x y rfl rfl
  rw [Nat.add_zero] at h0
  have h1:=mapIO_eq (f:=f) (g:=g) (l:=l) (r:=r) (i:=i + 1) (by simpa using h) fun j a b ha hb=>by
   have:=hf (j + 1) a b (by simpa using ha) (by simpa using hb)
   rw [show i + 1 + j=i + (j + 1) by omega]; exact this
  simp only [mapIO,h0,h1]
theorem plainN_at {m : Md} {n : Nat} {u : List (Ty × Val)} {t : Ty} {v r : Val} (h : plainN m (n + 1) u t v=some r) : r.kind=v.kind∧r.int=v.int∧r.bytes=v.bytes∧r.items.length=v.items.length ∧
    ∀ (j : Nat) x,v.items[j]? = some x→∃ y z,r.items[j]? = some z∧eachO ((beh m 21 t).getD Ty.zero) v (plainN m n u) j x=some y ∧
     (if ((beh m 21 t).getD Ty.zero).kind=8 then normO (setO (plainN m n) u) (((beh m 21 t).getD Ty.zero).items[j]?.getD It.zero) y=some z else z=y):=by
 unfold plainN at h
 split at h
 ·cases h
 ·rename_i l hl
  obtain ⟨h1,h2⟩:=mapIO_get hl
  split at h
  ·rename_i q8
   split at h
   ·rename_i r' hr
    cases h
    obtain ⟨h3,h4⟩:=mapIO_get hr
    refine ⟨rfl,rfl,rfl,by simp [h3,h1],fun j x hx=>?_⟩
    obtain ⟨y,h5,h6⟩:=h2 j x hx
    obtain ⟨z,h7,h8⟩:=h4 j y h5
    rw [Nat.zero_add] at h6 h8
    exact ⟨y,z,h7,h6,by rw [if_pos q8]; exact h8⟩
   ·cases h
  ·rename_i q8
   cases h
   refine ⟨rfl,rfl,rfl,by simp [h1],fun j x hx=>?_⟩
   obtain ⟨y,h5,h6⟩:=h2 j x hx
   rw [Nat.zero_add] at h6
   exact ⟨y,y,h5,h6,by rw [if_neg q8]⟩
theorem plainN_more {m : Md} : ∀ (n : Nat) (u : List (Ty × Val)) (t : Ty) (v r : Val),plainN m n u t v=some r→plainN m (n + 1) u t v=some r
 | 0,_,_,_,_,h=>by cases h
 | n + 1,u,t,v,r,h=>by
  unfold plainN at h ⊢
  split at h
  ·cases h
  ·rename_i l hl
   obtain ⟨h1,h2⟩:=mapIO_get hl
   rw [mapIO_mk (r:=l) h1 fun j x y hx hy=>by
    obtain ⟨y',h3,h4⟩:=h2 j x hx
    rw [hy] at h3; injection h3 with h3; subst h3
    unfold eachO at h4 ⊢
    split at h4
    ·exact plainN_more n u _ _ _ h4
    ·exact h4]
   dsimp only
   split at h
   ·rename_i q8
    split at h
    ·rename_i r' hr
     obtain ⟨h3,h4⟩:=mapIO_get hr
     rw [if_pos q8,mapIO_mk (r:=r') h3 fun j x y hx hy=>by
      obtain ⟨y',h5,h6⟩:=h4 j x hx
      rw [hy] at h5; injection h5 with h5; subst h5
      unfold normO at h6 ⊢
      split at h6
      ·rename_i hc
       rw [if_pos hc]
       cases hs : setO (plainN m n) u (((beh m 21 t).getD Ty.zero).items[0 + j]?.getD It.zero) with
       | none=>rw [hs] at h6; cases h6
       | some d=>
        rw [hs] at h6
        have : setO (plainN m (n + 1)) u (((beh m 21 t).getD Ty.zero).items[0 + j]?.getD It.zero)=some d:=by
         unfold setO at hs ⊢
         split at hs
         ·rename_i hm; rw [if_pos hm]; exact hs
         ·rename_i hm; rw [if_neg hm]; exact plainN_more n _ _ _ _ hs
        rw [this]
        exact h6
      ·rename_i hc; rw [if_neg hc]; exact h6]
     exact h
    ·cases h
   ·rename_i q8
    rw [if_neg q8]; exact h
theorem plainN_le {m : Md} {n k : Nat} (hk : n≤k) {u : List (Ty × Val)} {t : Ty} {v r : Val} (h : plainN m n u t v=some r) : plainN m k u t v=some r:=by
 induction hk with
 | refl=>exact h
 | step _ ih=>exact plainN_more _ u t v r ih
def fullP (b : Ty) (v : Val) (n : Nat) (g : Ty→Val→Option Val) (i : Nat) (x : Val) : Option Val:=match partF b v i x with
 | none=>if n=0 then none else some x
 | some q=>g q.1 q.2
def FullD (m : Md) : Nat→Ty→Val→Option Val
 | 0,_,_=>none
 | n + 1,t,v=>(mapIO (fullP ((beh m 21 t).getD Ty.zero) v n (FullD m n)) 0 v.items).map fun l=>.mk v.kind v.int v.bytes l
theorem FullD_at {m : Md} {n : Nat} {t : Ty} {v f : Val} (h : FullD m (n + 1) t v=some f) : f.kind=v.kind∧f.int=v.int∧f.bytes=v.bytes∧f.items.length=v.items.length ∧
    ∀ (j : Nat) x,v.items[j]? = some x→∃ z,f.items[j]? = some z∧fullP ((beh m 21 t).getD Ty.zero) v n (FullD m n) j x=some z:=by
 unfold FullD at h
 cases hl : mapIO (fullP ((beh m 21 t).getD Ty.zero) v n (FullD m n)) 0 v.items with
 | none=>rw [hl] at h; cases h
 | some l=>
  rw [hl] at h
  cases h
  obtain ⟨h1,h2⟩:=mapIO_get hl
  exact ⟨rfl,rfl,rfl,h1,fun j x hx=>by have:=h2 j x hx; rwa [Nat.zero_add] at this⟩
theorem FullD_mk {m : Md} {n : Nat} {t : Ty} {v f : Val} (h1 : f.kind=v.kind) (h2 : f.int=v.int) (h3 : f.bytes=v.bytes) (h4 : f.items.length=v.items.length)
    (h : ∀ (j : Nat) x z,v.items[j]? = some x→f.items[j]? = some z→fullP ((beh m 21 t).getD Ty.zero) v n (FullD m n) j x=some z) : FullD m (n + 1) t v=some f:=by
 unfold FullD
 rw [mapIO_mk (r:=f.items) h4 fun j x y hx hy=>by rw [Nat.zero_add]; exact h j x y hx hy]
 simp only [Option.map_some,← h1,← h2,← h3,f.eta]
theorem FullD_kind {m : Md} {n : Nat} {t : Ty} {v f : Val} (h : FullD m n t v=some f) : f.kind=v.kind:=by
 cases n with
 | zero=>cases h
 | succ n=>exact (FullD_at h).1
theorem FullD_more {m : Md} : ∀ (n : Nat) (t : Ty) (v f : Val),FullD m n t v=some f→FullD m (n + 1) t v=some f
 | 0,_,_,_,h=>by cases h
 | n + 1,t,v,f,h=>by
  obtain ⟨h1,h2,h3,h4,h5⟩:=FullD_at h
  refine FullD_mk h1 h2 h3 h4 fun j x z hx hz=>?_
  obtain ⟨z',h6,h7⟩:=h5 j x hx
  rw [hz] at h6; injection h6 with h6; subst h6
  unfold fullP at h7 ⊢
  split at h7
  ·split at h7
   ·cases h7
   ·rw [if_neg (by omega)]; exact h7
  ·exact FullD_more n _ _ _ h7
theorem FullD_le {m : Md} {n k : Nat} (hk : n≤k) {t : Ty} {v f : Val} (h : FullD m n t v=some f) : FullD m k t v=some f:=by
 induction hk with
 | refl=>exact h
 | step _ ih=>exact FullD_more _ t v f ih
theorem FullD_one {m : Md} {n k : Nat} {t : Ty} {v f g : Val} (h : FullD m n t v=some f) (h' : FullD m k t v=some g) : f=g:=by
 have h1:=FullD_le (Nat.le_max_left n k) h
 have h2:=FullD_le (Nat.le_max_right n k) h'
 rw [h1] at h2; injection h2
theorem it_of (o : Option It) : (o.map It.of).getD Ty.zero=(o.getD It.zero).of:=by cases o <;> rfl
theorem full_plain {m : Md} : ∀ (n k : Nat) (u : List (Ty × Val)) (t : Ty) (v r : Val),plainN m n u t v=some r→FullD m k t r=FullD m k t v
 | 0,_,_,_,_,_,h=>by cases h
 | _ + 1,0,_,_,_,_,_=>rfl
 | n + 1,k + 1,u,t,v,r,h=>by
  obtain ⟨h1,h2,h3,h4,h5⟩:=plainN_at h
  unfold FullD
  rw [h1,h2,h3]
  congr 1
  refine mapIO_eq h4 fun j x z hx hz=>?_
  rw [Nat.zero_add]
  obtain ⟨y,z',h6,h7,h8⟩:=h5 j x hx
  rw [hz] at h6; injection h6 with h6; subst h6
  generalize (beh m 21 t).getD Ty.zero=b at *
  unfold eachO partO at h7
  unfold fullP partF
  rw [h2]
  by_cases q7 : b.kind=7
  ·rw [if_pos q7] at h7
   rw [if_neg (by omega)] at h8
   subst h8
   rw [if_pos q7,if_pos q7]
   exact full_plain n k u _ _ _ h7
  ·by_cases q9 : b.kind=9
   ·rw [if_neg q7,if_pos q9] at h7
    rw [if_neg (by omega)] at h8
    subst h8
    rw [if_neg q7,if_neg q7,if_pos q9,if_pos q9]
    exact full_plain n k u _ _ _ h7
   ·rw [if_neg q7,if_neg q9] at h7
    rw [if_neg q7,if_neg q7,if_neg q9,if_neg q9]
    by_cases q8 : b.kind=8
    ·rw [if_pos q8] at h8
     rw [if_pos q8,if_pos q8]
     by_cases q12 : x.kind=12
     ·rw [if_neg (by simp [q12])] at h7
      injection h7 with h7; subst h7
      unfold normO at h8
      rw [if_neg (by simp [q12])] at h8
      injection h8 with h8; subst h8
      rfl
     ·rw [if_pos ⟨q8,q12⟩] at h7
      dsimp only at h7
      rw [it_of] at h7
      generalize b.items[j]?.getD It.zero=it at *
      have hk : y.kind=x.kind:=plainN_kind h7
      rw [if_neg q12]
      have hy:=full_plain n k u _ _ _ h7
      unfold normO at h8
      by_cases hd : it.dflt ≠ []
      ·rw [if_pos ⟨hd,by rw [hk]; exact q12⟩] at h8
       cases hs : setO (plainN m n) u it with
       | none=>rw [hs] at h8; cases h8
       | some d=>
        rw [hs] at h8
        injection h8 with h8
        by_cases hsm : y.same d=true
        ·rw [if_pos hsm] at h8
         subst h8
         have hyd:=(Val.same_iff y d).1 hsm
         subst hyd
         obtain ⟨d0,dr,hdd⟩ : ∃ d0 dr,it.dflt=d0 :: dr:=by
          cases hq : it.dflt with
          | nil=>exact absurd hq hd
          | cons a l=>exact ⟨a,l,rfl⟩
         have hd0 : it.d0=d0:=by unfold It.d0; rw [hdd]; rfl
         rw [if_pos (by simp [absV]),hdd]
         dsimp only
         rw [← hy]
         unfold setO at hs
         rw [hd0] at hs
         split at hs
         ·injection hs with hs; rw [hs]
         ·exact (full_plain n k _ _ _ _ hs).symm
        ·rw [if_neg hsm] at h8
         subst h8
         rw [if_neg (by rw [hk]; exact q12)]
         exact hy
      ·rw [if_neg (fun e=>hd e.1)] at h8
       injection h8 with h8; subst h8
       rw [if_neg (by rw [hk]; exact q12)]
       exact hy
    ·rw [if_neg q8] at h8
     subst h8
     rw [if_neg (fun e=>q8 e.1)] at h7
     injection h7 with h7; subst h7
     simp only [if_neg q8]
theorem headD_get {α : Type} (a : α) : ∀ (l : List α) (h : 0 < l.length),l.headD a=l[0]
 | _ :: _,_=>rfl
theorem fitS_map {b : Ty} {v r : Val} {f g : Ty→Val→Bool} (hi : r.int=v.int) (hb : r.bytes=v.bytes) (hl : r.items.length=v.items.length)
    (h7 : ∀ (i : Nat) x z t',v.items[i]? = some x→r.items[i]? = some z→b.kind=7 ∨ b.kind=9→partO b v i x=some t'→f t' x=true→g t' z=true)
    (h6 : b.kind=0 ∨ b.kind=1 ∨ b.kind=2 ∨ b.kind=3 ∨ b.kind=4 ∨ b.kind=5 ∨ b.kind=6 ∨ b.kind=11→r.items=v.items)
    (h8 : ¬ (b.kind=0 ∨ b.kind=1 ∨ b.kind=2 ∨ b.kind=3 ∨ b.kind=4 ∨ b.kind=5 ∨ b.kind=6 ∨ b.kind=11)→b.kind ≠ 7→b.kind ≠ 9→∀ (i : Nat) it x z,b.items[i]? = some it→v.items[i]? = some x→r.items[i]? = some z→partB f (it,x)=true→partB g (it,z)=true)
    (h : fitS b v f=true) : fitS b r g=true:=by
 unfold fitS at h ⊢
 by_cases q : b.kind=0 ∨ b.kind=1 ∨ b.kind=2 ∨ b.kind=3 ∨ b.kind=4 ∨ b.kind=5 ∨ b.kind=6 ∨ b.kind=11
 ·have he:=h6 q
  simp only [arcP,hasP,hi,hb,he] at h ⊢
  rcases q with q | q | q | q | q | q | q | q <;> simp only [q] at h ⊢ <;> simpa using h
 ·have q' : b.kind ≠ 0∧b.kind ≠ 1∧b.kind ≠ 2∧b.kind ≠ 3∧b.kind ≠ 4∧b.kind ≠ 5∧b.kind ≠ 6∧b.kind ≠ 11:=by omega
  obtain ⟨q0,q1,q2,q3,q4,q5,q6,q11⟩:=q'
  have eh : ∀ a c,hasP a c true r=hasP a c true v:=fun a c=>by simp only [hasP,hi,hb,Bool.true_or]
  simp only [if_neg q0,if_neg q1,if_neg q2,if_neg q3,if_neg q4,if_neg q5,if_neg q6,if_neg q11] at h ⊢
  by_cases q7 : b.kind=7
  ·rw [if_pos q7] at h ⊢
   simp only [Bool.and_eq_true] at h ⊢
   refine ⟨by rw [eh]; exact h.1,by rw [hl]; exact h.2.1,?_⟩
   rw [List.all_eq_true]
   intro z hz
   obtain ⟨i,hi',hzz⟩:=List.mem_iff_getElem.1 hz
   have hiv : i < v.items.length:=by omega
   have hx:=List.all_eq_true.1 h.2.2 _ (List.getElem_mem hiv)
   exact h7 i _ z _ (List.getElem?_eq_getElem hiv) (by rw [List.getElem?_eq_getElem hi',hzz]) (.inl q7) (by unfold partO; rw [if_pos q7]) hx
  ·by_cases q9 : b.kind=9
   ·rw [if_neg q7,if_pos q9] at h ⊢
    simp only [Bool.and_eq_true,decide_eq_true_eq] at h ⊢
    obtain ⟨ha,hb',hc,hd⟩:=h
    refine ⟨by rw [eh]; exact ha,by rw [hi]; exact hb',by omega,?_⟩
    have hv0 : 0 < v.items.length:=by omega
    have hr0 : 0 < r.items.length:=by omega
    rw [headD_get _ _ hv0] at hd
    rw [headD_get _ _ hr0,hi]
    exact h7 0 _ _ _ (List.getElem?_eq_getElem hv0) (List.getElem?_eq_getElem hr0) (.inr q9) (by unfold partO; rw [if_neg q7,if_pos q9]) hd
   ·rw [if_neg q7,if_neg q9] at h ⊢
    simp only [Bool.and_eq_true,decide_eq_true_eq] at h ⊢
    refine ⟨by rw [eh]; exact h.1,by omega,?_⟩
    rw [List.all_eq_true]
    rintro ⟨it,z⟩ hz
    obtain ⟨i,hiz⟩:=List.mem_iff_getElem?.1 hz
    rw [List.getElem?_zip_eq_some] at hiz
    have hiv : i < v.items.length:=by have:=(List.getElem?_eq_some_iff.1 hiz.2).1; omega
    refine h8 q q7 q9 i it v.items[i] z hiz.1 (List.getElem?_eq_getElem hiv) hiz.2 (List.all_eq_true.1 h.2.2 _ ?_)
    rw [List.mem_iff_getElem?]
    exact ⟨i,by rw [List.getElem?_zip_eq_some]; exact ⟨hiz.1,List.getElem?_eq_getElem hiv⟩⟩
theorem partB_abs {g : Ty→Val→Bool} {it : It} (h : mayP it=true) : partB g (it,absV)=true:=by
 unfold partB
 have : hasP false false false absV=true:=by simp [hasP,absV,eqS]
 simp only [this,h]
 simp [absV]
theorem fitB_size {m : Md} : ∀ (k : Nat) (v : Val) (t : Ty) (n : Nat),v.size≤k→fitB m n t v=true→fitB m k t v=true
 | 0,v,_,_,h,_=>by have:=v.size_pos; omega
 | _ + 1,_,_,0,_,h=>by cases h
 | k + 1,v,t,n + 1,hs,h=>by
  unfold fitB at h ⊢
  split at h
  ·cases h
  ·rename_i b hb
   rw [Bool.and_eq_true] at h ⊢
   refine ⟨h.1,fitS_map rfl rfl rfl (fun i x z t' hx hz _ _ hf=>?_) (fun _=>rfl) (fun _ _ _ i it x z _ hx hz hf=>?_) h.2⟩
   ·rw [hx] at hz; injection hz with hz; subst hz
    exact fitB_size k x t' n (by have:=Val.mem_items (List.mem_of_getElem? hx); omega) hf
   ·rw [hx] at hz; injection hz with hz; subst hz
    unfold partB at hf ⊢
    rw [Bool.or_eq_true] at hf ⊢
    exact hf.imp_right fun hf=>fitB_size k x _ n (by have:=Val.mem_items (List.mem_of_getElem? hx); omega) hf
theorem plain_fits {m : Md} : ∀ (n k : Nat) (u : List (Ty × Val)) (t : Ty) (v r : Val),plainN m n u t v=some r→fitB m k t v=true→fitB m k t r=true
 | 0,_,_,_,_,_,h,_=>by cases h
 | _ + 1,0,_,_,_,_,_,h=>by cases h
 | n + 1,k + 1,u,t,v,r,h,hf=>by
  obtain ⟨h1,h2,h3,h4,h5⟩:=plainN_at h
  unfold fitB at hf ⊢
  split at hf
  ·cases hf
  ·rename_i b hb
   rw [hb] at h5
   simp only [Option.getD_some] at h5
   rw [Bool.and_eq_true] at hf ⊢
   refine ⟨by rw [h1]; exact hf.1,fitS_map h2 h3 h4 (fun i x z t' hx hz h79 hp hf=>?_) (fun h6=>?_) (fun h6 h7 h9 i it x z hit hx hz hf=>?_) hf.2⟩
   ·obtain ⟨y,z',h6,h7,h8⟩:=h5 i x hx
    rw [hz] at h6; injection h6 with h6; subst h6
    rw [if_neg (by omega)] at h8
    subst h8
    unfold eachO at h7
    rw [hp] at h7
    exact plain_fits n k u _ _ _ h7 hf
   ·refine List.ext_getElem? fun i=>?_
    cases hx : v.items[i]? with
    | none=>rw [List.getElem?_eq_none_iff] at hx ⊢; omega
    | some x=>
     obtain ⟨y,z',h7,h8,h9⟩:=h5 i x hx
     rw [if_neg (by omega)] at h9
     subst h9
     unfold eachO partO at h8
     rw [if_neg (by omega),if_neg (by omega),if_neg (by omega)] at h8
     injection h8 with h8; subst h8
     exact h7
   ·obtain ⟨y,z',e6,e7,e8⟩:=h5 i x hx
    rw [hz] at e6; injection e6 with e6; subst e6
    by_cases q8 : b.kind=8
    ·rw [if_pos q8,hit,Option.getD_some] at e8
     have hy : partB (fitB m k) (it,y)=true:=by
      unfold eachO partO at e7
      rw [if_neg h7,if_neg h9] at e7
      by_cases q12 : x.kind=12
      ·rw [if_neg (by simp [q12])] at e7
       injection e7 with e7; subst e7
       exact hf
      ·rw [if_pos ⟨q8,q12⟩,hit] at e7
       unfold partB at hf ⊢
       simp only [q12,decide_false,Bool.false_and,Bool.false_or] at hf
       have:=plain_fits n k u _ _ _ e7 hf
       rw [Bool.or_eq_true]
       exact .inr this
     unfold normO at e8
     split at e8
     ·rename_i hd
      split at e8
      ·injection e8 with e8
       split at e8
       ·subst e8
        refine partB_abs ?_
        unfold mayP
        cases hq : it.dflt with
        | nil=>exact absurd hq hd.1
        | cons a l=>simp
       ·subst e8; exact hy
      ·cases e8
     ·injection e8 with e8; subst e8; exact hy
    ·rw [if_neg q8] at e8
     subst e8
     unfold eachO partO at e7
     rw [if_neg h7,if_neg h9,if_neg (fun e=>q8 e.1)] at e7
     injection e7 with e7; subst e7
     unfold partB at hf ⊢
     rw [Bool.or_eq_true] at hf ⊢
     refine hf.imp_right fun hf=>?_
     exact hf
end Go.Proofs.YtflbneepngjglaaGreatDoor
