/- Values made plain and made full: both sides, and the law that they are the same. -/
import Derived.Test.YtflbneepngjglaaGreatDoorR44
set_option linter.all false
namespace Go.Proofs.YtflbneepngjglaaGreatDoor
open Go Go.Avm
def fullO (b : Ty) (v : Val) (d l : Int) (f : Nat→Val→Int→Option (Val × Int)) : Option (Val × Int):=if l - 1 < 0 ∨ 30 < d then none else match mapS f 0 v.items (l - 1) with
 | none=>none
 | some (ys,l')=>some (.mk v.kind v.int v.bytes ys,l')
set_option maxHeartbeats 4000000 in
theorem full_core (m : Md) (hm : m.ok) (t : Ty) (ht : t.wid≤67108864) (b : Ty) (hb : beh m 21 t=some b) (hbw : b.wid≤67108864) (v : Val) (hv : v.size≤67108864) (hin : PartIn b v) (hdk : b.kind=8→∀ y ∈ b.items,∀ d r,y.dflt=d :: r→d.kind ≠ 12) (d : Int) (hd0 : 0≤d) (hd1 : d≤31) (l : Int) (hl0 : 0≤l) (hl1 : l≤67108864) (f : Nat→Val→Int→Option (Val × Int))
    (hcall : d≤30→∀ i x,v.items[i]? = some x→∀ c,0≤c→c≤67108864→FullAt m (argF b v i x).1 (argF b v i x).2 (d + 1) c (f i x c)) : FullAt m t v d l (fullO b v d l f):=by
 intro p ver ws h hh hws
 have hp : p < h.length:=(List.getElem?_eq_some_iff.1 hh).1
 have hse:=v.size_eq
 have hlen:=Val.len_sizeL v.items
 have hcl:=cloneV_ok v.items (by omega)
 have hbh:=fun ws h=>behind_ok m hm t ht ws h
 rw [hb] at hbh
 have hwn : ∀ n,ws≤h.length + n:=fun n=>by omega
 have hw0 : ws≤h.length:=by omega
 have hpne : ∀ k,¬ p=h.length + k:=fun k=>by omega
 have hpne0 : ¬ p=h.length:=by omega
 have hdec : IntKind.wrap .i64 (l - 1)=l - 1:=wrap_id (by omega) (by omega)
 have hbx : ∀ (c : Int) (X : Avm.H),((h.set p (filB m ver c))++X)[p]? = some (filB m ver c):=fun c X=>by rw [get_app (by simpa using hp),List.getElem?_set_self hp]
 have hb0 : ∀ (X : Avm.H),(h++X)[p]? = some (filB m ver l):=fun X=>by rw [get_app hp,hh]
 have hbs0 : ∀ (d : Int) (X : Avm.H),(h++X).set p (filB m ver d)=(h.set p (filB m ver d))++X:=fun d X=>set_app hp
 have htk : ∀ (c : Int) (X : Avm.H),List.take h.length ((h.set p (filB m ver c))++X)=h.set p (filB m ver c):=fun c X=>by rw [List.take_left' (by simp)]
 have hsl : ∀ c,(h.set p (filB m ver c)).length=h.length:=fun c=>by simp
 unfold fullO
 by_cases hneg : l - 1 < 0
 ·rw [if_pos (.inl hneg)]
  refine ⟨v,false,l - 1,callL_fn rfl rfl ?_,rfl⟩
  simp only [filB] at *
  simp [F43,c43,hb0,hbs0,hbx,hdec,hws,hwn,hw0,htk,hneg,hpne,hpne0]
 ·by_cases hdp : 30 < d
  ·rw [if_pos (.inr hdp)]
   refine ⟨v,false,l - 1,callL_fn rfl rfl ?_,rfl⟩
   simp only [filB] at *
   simp [F43,c43,hb0,hbs0,hbx,hdec,hws,hwn,hw0,htk,hneg,hdp,hpne,hpne0]
  ·rw [if_neg (by omega)]
   obtain ⟨o,e1,e2⟩:=full_loop m b hbw v hv hin hdk d hd0 (by omega) (l - 1) (by omega) (by omega) f (hcall (by omega)) p ver ws h hp hws t.enc
   rcases e2 with ⟨ys,c,g,h1,h2,h3,h4,rfl⟩ | ⟨ys,c,g,h1,h2,rfl⟩
   ·rw [h1]
    refine ⟨.mk v.kind v.int v.bytes ys,true,c,callL_fn rfl rfl ?_,rfl,rfl,rfl,h3,h4⟩
    have htk2 : (ys.map Val.enc).take v.items.length=ys.map Val.enc:=List.take_of_length_le (by simp; omega)
    simp only [filB] at *
    simp at e1 hcl hbh
    simp only [Md.enc] at hbh
    simp [F43,c43,hb0,hbs0,hbx,hdec,hws,hwn,hw0,htk,hneg,hdp,hpne,hpne0,hbh,hcl,e1,h2,htk2]
   ·rw [h1]
    refine ⟨.mk v.kind v.int v.bytes ys,false,c,callL_fn rfl rfl ?_,rfl⟩
    have htk2 : (ys.map Val.enc).take v.items.length=ys.map Val.enc:=List.take_of_length_le (by simp; omega)
    simp only [filB] at *
    simp at e1 hcl hbh
    simp only [Md.enc] at hbh
    simp [F43,c43,hb0,hbs0,hbx,hdec,hws,hwn,hw0,htk,hneg,hdp,hpne,hpne0,hbh,hcl,e1,h2,htk2]
theorem leafT_beh (m : Md) (k : Int) (hk : k ≠ 10) : beh m 21 (leafT k)=some (leafT k):=by
 unfold beh
 rw [if_neg (by unfold leafT; simpa using hk)]
theorem leafT_wid (k : Int) : (leafT k).wid≤67108864:=by simp [leafT,Ty.wid_eq,It.widL,Ty.widL]; exact Nat.zero_le _
theorem full_leaf (m : Md) (hm : m.ok) (x : Val) (hx : x.items=[]) (hk : x.kind=12 ∨ x.kind=2) (hs : x.size≤67108864) (n : Nat) (hn : n≤30) (l : Int) (hl0 : 0≤l) (hl1 : l≤67108864) : FullAt m (leafT x.kind) x (31 - n) l (leafS n x l):=by
 have e:=full_core m hm (leafT x.kind) (leafT_wid _) (leafT x.kind) (leafT_beh m _ (by omega)) (leafT_wid _) x hs
  ⟨fun q=>by simp [leafT] at q; omega,fun q=>by simp [leafT] at q; omega,fun q=>by simp [leafT] at q; omega⟩ (fun q=>by simp [leafT] at q; omega) (31 - n) (by omega) (by omega) l hl0 hl1 (fun _ _ _=>none)
  (fun _ i y hy=>by rw [hx] at hy; simp at hy)
 have he : fullO (leafT x.kind) x (31 - n) l (fun _ _ _=>none)=leafS n x l:=by
  unfold fullO leafS
  rw [hx]
  by_cases h1 : l - 1 < 0
  ·rw [if_pos (.inl h1),if_pos (.inr h1)]
  ·by_cases h2 : n=0
   ·rw [if_pos (.inr (by omega)),if_pos (.inl h2)]
   ·rw [if_neg (by omega),if_neg (by omega)]
    have:=x.eta
    rw [hx] at this
    simp [mapS,this]
 rwa [he] at e
structure FillIn (m : Md) (S : List (Ty × Val)) (b : Ty) (v : Val) : Prop where
 part : PartIn b v
 dk : b.kind=8→∀ y ∈ b.items,∀ d r,y.dflt=d :: r→d.kind ≠ 12
 oth : b.kind ≠ 7→b.kind ≠ 8→b.kind ≠ 9→b.kind=6 ∨ v.items=[]
 real : ∀ i x q,v.items[i]? = some x→partF b v i x=some q→q.2.kind ≠ 12∧q.1.fine m S∧q.2.size≤67108864∧∃ k,fitB m k q.1 q.2=true
 leaf : ∀ i x,v.items[i]? = some x→partF b v i x=none→x.items=[]∧(x.kind=12 ∨ x.kind=2)∧(b.kind=6 ∨ x.kind=12)
theorem kind_ne12 {m : Md} {t b : Ty} {v : Val} {k : Nat} (h : fitB m k t v=true) (hb : beh m 21 t=some b) (hr : rightP b=true) : v.kind ≠ 12:=by
 cases k with
 | zero=>cases h
 | succ k=>
  unfold fitB at h
  rw [hb] at h
  simp only [Bool.and_eq_true,decide_eq_true_eq] at h
  intro e
  rw [h.1] at e
  unfold rightP at hr
  simp [e] at hr
theorem fill_in {m : Md} {S : List (Ty × Val)} (M : m.fine S) (hSs : ∀ q ∈ S,q.2.size≤67108864) {t b : Ty} (T : t.fine m S) (hb : beh m 21 t=some b) {v : Val} (hv : v.size≤67108864) {k : Nat} (hk : fitB m (k + 1) t v=true) : FillIn m S b v:=by
 obtain ⟨B,hb10⟩:=T.beh M hb
 obtain ⟨hkind,hin,hsub⟩:=fits_parts m hk hb (allP_self B.right)
 have ne12 : ∀ {t' : Ty} {x : Val} {k : Nat},t'.fine m S→fitB m k t' x=true→x.kind ≠ 12:=fun {t' x k} T' h=>by
  cases hb' : beh m 21 t' with
  | none=>cases k with
   | zero=>cases h
   | succ k=>unfold fitB at h; rw [hb'] at h; cases h
  | some b'=>exact kind_ne12 h hb' (allP_self (T'.beh M hb').1.right)
 have hdk : b.kind=8→∀ y ∈ b.items,∀ d r,y.dflt=d :: r→d.kind ≠ 12∧y.of.fine m S∧d.size≤67108864∧∃ k,fitB m k y.of d=true:=fun q8 y hy d r hd=>by
  obtain ⟨dd,h1,h2,h3,h4⟩:=goodP_iff.1 (allP_self B.good) q8 y hy (by rw [hd]; simp)
  rw [hd] at h1
  injection h1 with h1 h1'
  subst h1
  have hyin : y.of ∈ b.inner:=by unfold Ty.inner Ty.comp; rw [q8]; exact List.mem_append_right _ (List.mem_map_of_mem hy)
  exact ⟨ne12 (B.inner hyin) h3,B.inner hyin,hSs _ h2,_,h3⟩
 have hitem : ∀ (i : Nat) x,v.items[i]? = some x→x.size≤67108864:=fun i x hx=>by
  have:=Val.mem_items (List.mem_of_getElem? hx); omega
 have hs : fitS b v (fitB m k)=true:=by
  unfold fitB at hk; rw [hb] at hk
  simp only [Bool.and_eq_true,decide_eq_true_eq] at hk
  exact hk.2
 have h12 : b.kind=8→∀ (i : Nat) (x : Val),v.items[i]? = some x→x.kind=12→x.items=[]:=fun q8 i x hx q12=>by
  unfold fitS at hs
  simp only [q8] at hs
  simp at hs
  obtain ⟨_,hl,hs⟩:=hs
  have hi:=(List.getElem?_eq_some_iff.1 hx).1
  have hib : i < b.items.length:=by omega
  have hmem : (b.items[i],x) ∈ b.items.zip v.items:=by
   rw [List.mem_iff_getElem?]
   refine ⟨i,?_⟩
   rw [List.getElem?_zip_eq_some]
   exact ⟨List.getElem?_eq_getElem hib,hx⟩
  have hpb:=hs _ _ hmem
  unfold partB at hpb
  have hxin : b.items[i].of ∈ b.inner:=by unfold Ty.inner Ty.comp; rw [q8]; exact List.mem_append_right _ (List.mem_map_of_mem (List.getElem_mem hib))
  rw [Bool.or_eq_true] at hpb
  rcases hpb with hpb | hpb
  ·simp [hasP] at hpb
   exact hpb.2.1.2.2
  ·exact absurd q12 (ne12 (B.inner hxin) hpb)
 refine ⟨hin,fun q8 y hy d r hd=>(hdk q8 y hy d r hd).1,fun q7 q8 q9=>?_,fun i x q hx hp=>?_,fun i x hx hp=>?_⟩
 ·have hr:=allP_self B.right
  unfold rightP at hr
  unfold fitS at hs
  by_cases q6 : b.kind=6
  ·exact .inl q6
  ·right
   by_cases q0 : b.kind=0
   ·simp [q0,hasP] at hs; exact hs.2.2
   ·by_cases q1 : b.kind=1
    ·simp [q1,hasP] at hs; exact hs.1.2
    ·by_cases q2 : b.kind=2
     ·simp [q2,hasP] at hs; exact hs.1.2
     ·by_cases q3 : b.kind=3
      ·simp [q3,hasP] at hs; exact hs.1.2
      ·by_cases q4 : b.kind=4
       ·simp [q4,hasP] at hs; exact hs.1.2
       ·by_cases q5 : b.kind=5
        ·simp [q5,hasP] at hs; exact hs.1.2
        ·by_cases q11 : b.kind=11
         ·simp [q11,hasP] at hs; exact hs.1.2
         ·simp [q0,q1,q2,q3,q4,q5,q6,q7,q8,q9,q11] at hr
          exact absurd hr.1 hb10
 ·unfold partF at hp
  split at hp
  ·rename_i q7
   injection hp with hp; subst hp
   have h1:=hsub i x (b.kids.headD Ty.zero) hx (by unfold partO; rw [if_pos q7])
   have h2:=partO_fine B (v:=v) (x:=x) (i:=i) (t:=b.kids.headD Ty.zero) (by unfold partO; rw [if_pos q7])
   exact ⟨ne12 h2 h1,h2,hitem i x hx,_,h1⟩
  ·rename_i q7
   split at hp
   ·rename_i q9
    injection hp with hp; subst hp
    have hpo : partO b v i x=some ((b.items[v.int.toNat]?.map It.of).getD Ty.zero):=by unfold partO; rw [if_neg q7,if_pos q9]
    have h1:=hsub i x _ hx hpo
    have h2:=partO_fine B hpo
    exact ⟨ne12 h2 h1,h2,hitem i x hx,_,h1⟩
   ·rename_i q9
    split at hp
    ·rename_i q8
     have hi:=(List.getElem?_eq_some_iff.1 hx).1
     have hib : i < b.items.length:=by rw [← hin.record q8]; exact hi
     rw [List.getElem?_eq_getElem hib] at hp
     simp only [Option.getD_some] at hp
     split at hp
     ·cases hq : b.items[i].dflt with
      | nil=>rw [hq] at hp; cases hp
      | cons d r=>
       rw [hq] at hp
       injection hp with hp; subst hp
       exact hdk q8 _ (List.getElem_mem hib) d r hq
     ·rename_i q12
      injection hp with hp; subst hp
      have hpo : partO b v i x=some b.items[i].of:=by unfold partO; rw [if_neg q7,if_neg q9,if_pos ⟨q8,q12⟩,List.getElem?_eq_getElem hib]; rfl
      exact ⟨q12,partO_fine B hpo,hitem i x hx,_,hsub i x _ hx hpo⟩
    ·cases hp
 ·unfold partF at hp
  split at hp
  ·cases hp
  ·rename_i q7
   split at hp
   ·cases hp
   ·rename_i q9
    split at hp
    ·rename_i q8
     split at hp
     ·rename_i q12
      exact ⟨h12 q8 i x hx q12,.inl q12,.inr q12⟩
     ·cases hp
    ·rename_i q8
     by_cases q6 : b.kind=6
     ·unfold fitS at hs
      simp only [q6] at hs
      simp [arcP] at hs
      have hx1:=hs.2.2.1 x (List.mem_of_getElem? hx)
      simp [arcI,hasP] at hx1
      exact ⟨hx1.2.1.2,.inr hx1.1,.inl q6⟩
     ·exfalso
      have : v.items=[]:=by
       have hr:=allP_self B.right
       unfold rightP at hr
       unfold fitS at hs
       by_cases q0 : b.kind=0
       ·simp [q0,hasP] at hs; exact hs.2.2
       ·by_cases q1 : b.kind=1
        ·simp [q1,hasP] at hs; exact hs.1.2
        ·by_cases q2 : b.kind=2
         ·simp [q2,hasP] at hs; exact hs.1.2
         ·by_cases q3 : b.kind=3
          ·simp [q3,hasP] at hs; exact hs.1.2
          ·by_cases q4 : b.kind=4
           ·simp [q4,hasP] at hs; exact hs.1.2
           ·by_cases q5 : b.kind=5
            ·simp [q5,hasP] at hs; exact hs.1.2
            ·by_cases q11 : b.kind=11
             ·simp [q11,hasP] at hs; exact hs.1.2
             ·simp [q0,q1,q2,q3,q4,q5,q6,q7,q8,q9,q11] at hr
              exact absurd hr.1 hb10
      rw [this] at hx
      simp at hx
theorem full_ok {m : Md} {S : List (Ty × Val)} (M : m.fine S) (hSs : ∀ q ∈ S,q.2.size≤67108864) : ∀ (n : Nat) (t : Ty) (v : Val),n≤31→t.fine m S→(∃ k,fitB m k t v=true)→v.size≤67108864→∀ l,0≤l→l≤67108864→FullAt m t v (31 - n) l (fullN m n t v l)
 | n,t,v,hn,T,⟨k,hk⟩,hv,l,hl0,hl1=>by
  cases k with
  | zero=>cases hk
  | succ k=>
  cases hb : beh m 21 t with
  | none=>unfold fitB at hk; rw [hb] at hk; cases hk
  | some b=>
  have I:=fill_in M hSs T hb hv hk
  obtain ⟨B,hb10⟩:=T.beh M hb
  cases n with
  | zero=>
   have e:=full_core m M.ok t T.wid b hb B.wid v hv I.part I.dk (31 - (0 : Nat)) (by omega) (by omega) l hl0 hl1 (fun _ _ _=>none) (fun h=>by omega)
   have he : fullO b v (31 - (0 : Nat)) l (fun _ _ _=>none)=fullN m 0 t v l:=by unfold fullO fullN; rw [if_pos (.inr (by omega))]
   rwa [he] at e
  | succ n=>
   have e:=full_core m M.ok t T.wid b hb B.wid v hv I.part I.dk (31 - (n + 1 : Nat)) (by omega) (by omega) l hl0 hl1 (fullF b v n (fullN m n)) (fun h i x hx c hc0 hc1=>by
    have hd : (31 : Int) - (n + 1 : Nat) + 1=31 - n:=by omega
    rw [hd]
    unfold fullF argF
    cases hp : partF b v i x with
    | none=>
     obtain ⟨h1,h2,_⟩:=I.leaf i x hx hp
     have hxs : x.size≤67108864:=by have:=Val.mem_items (List.mem_of_getElem? hx); omega
     exact full_leaf m M.ok x h1 h2 hxs n (by omega) c hc0 hc1
    | some q=>
     obtain ⟨h1,h2,h3,h4⟩:=I.real i x q hx hp
     exact full_ok M hSs n q.1 q.2 (by omega) h2 h4 h3 c hc0 hc1)
   have he : fullO b v (31 - (n + 1 : Nat)) l (fullF b v n (fullN m n))=fullN m (n + 1) t v l:=by
    unfold fullO
    rw [fullN,hb,Option.getD_some]
    by_cases h1 : l - 1 < 0
    ·rw [if_pos (.inl h1),if_pos h1]
    ·rw [if_neg (by omega),if_neg h1]
     cases mapS (fullF b v n (fullN m n)) 0 v.items (l - 1) <;> rfl
   rwa [he] at e
termination_by n=>n
end Go.Proofs.YtflbneepngjglaaGreatDoor
namespace Go.Proofs.YtflbneepngjglaaGreatDoor
open Go Go.Avm
theorem dflt_one {m : Md} {ps : List ByteArray} {t : Ty} (hr : rightP t=true) (hs : settleP m ps t=true) : ∀ x ∈ t.items,x.dflt.length≤1:=fun x hx=>by
 by_cases hc : t.comp=true
 ·unfold Ty.comp at hc
  simp only [Bool.or_eq_true,decide_eq_true_eq] at hc
  by_cases q8 : t.kind=8
  ·unfold settleP at hs
   rw [q8] at hs
   simp only [decide_true,Bool.not_true,Bool.false_or] at hs
   have:=List.all_eq_true.1 hs x hx
   unfold dfltB at this
   split at this
   ·rename_i e; rw [e]; simp
   ·rename_i d e; rw [e]; simp
   ·cases this
  ·have q9 : t.kind=9:=by omega
   unfold rightP at hr
   simp [q9] at hr
   have:=hr.2.2 x hx
   unfold plainI at this
   simp at this
   rw [this.2]; simp
 ·rcases right_items hr hc with h | h
  ·rw [h] at hx; cases hx
  ·have:=List.all_eq_true.1 h x hx
   unfold bareI at this
   simp at this
   rw [this.2.2]; simp
theorem sum_len {α β : Type} (f : α→List β) (g : α→Nat) : ∀ (l : List α),(∀ x ∈ l,(f x).length + 1≤g x)→(l.flatMap f).length + l.length≤(l.map g).sum
 | [],_=>by simp
 | x :: l,h=>by
  have h1:=h x (by simp)
  have h2:=sum_len f g l fun y hy=>h y (by simp [hy])
  simp only [List.flatMap_cons,List.length_append,List.length_cons,List.map_cons,List.sum_cons]
  omega
theorem flat_le {α β : Type} (f : α→List β) : ∀ (l : List α),(∀ x ∈ l,(f x).length≤1)→(l.flatMap f).length≤l.length
 | [],_=>by simp
 | x :: l,h=>by
  have h1:=h x (by simp)
  have h2:=flat_le f l fun y hy=>h y (by simp [hy])
  simp only [List.flatMap_cons,List.length_append,List.length_cons]
  omega
theorem prs_len (m : Md) (ps : List ByteArray) : ∀ (n : Nat) (t : Ty),t.size≤n→t.allP rightP=true→t.allP (settleP m ps)=true→t.prs.length + 1≤t.nodes
 | 0,t,h,_,_=>by have:=t.size_pos; omega
 | n + 1,t,h,hr,hs=>by
  have h1:=sum_len Ty.prs Ty.nodes t.inner fun y hy=>prs_len m ps n y (by have:=Ty.mem_inner hy; omega) (allP_inner hr hy) (allP_inner hs hy)
  have hone:=dflt_one (allP_self hr) (allP_self hs)
  have h2 : (t.items.flatMap fun x=>x.dflt.map fun d=>(x.of,d)).length≤t.inner.length:=by
   by_cases hc : t.comp=true
   ·have:=flat_le (fun x : It=>x.dflt.map fun d=>(x.of,d)) t.items fun x hx=>by simpa using hone x hx
    unfold Ty.inner
    rw [if_pos hc,List.length_append,List.length_map]
    omega
   ·rcases right_items (allP_self hr) hc with h | h
    ·rw [h]; simp
    ·have : (t.items.flatMap fun x=>x.dflt.map fun d=>(x.of,d))=[]:=by
       rw [List.flatMap_eq_nil_iff]
       intro x hx
       have:=List.all_eq_true.1 h x hx
       unfold bareI at this
       simp at this
       rw [this.2.2]; rfl
     rw [this]; simp
  rw [Ty.prs_eq,List.length_append,Ty.nodes_eq]
  omega
theorem prs_size : ∀ (n : Nat) (t : Ty),t.size≤n→∀ q ∈ t.prs,q.2.size≤t.wid
 | 0,t,h=>by have:=t.size_pos; omega
 | n + 1,t,h=>fun q hq=>by
  rw [Ty.prs_eq] at hq
  rcases List.mem_append.1 hq with hq | hq
  ·obtain ⟨x,hx,hq⟩:=List.mem_flatMap.1 hq
   obtain ⟨d,hd,rfl⟩:=List.mem_map.1 hq
   have:=It.wid_val hd
   have:=Ty.wid_item hx
   dsimp only
   omega
  ·obtain ⟨y,hy,hq⟩:=List.mem_flatMap.1 hq
   have:=prs_size n y (by have:=Ty.mem_inner hy; omega) q hq
   have:=Ty.wid_inner hy
   omega
def allS (m : Md) (t : Ty) : List (Ty × Val):=(m.defs.flatMap fun d=>d.of.prs)++t.prs
theorem errM_more {m : Md} (h : errM m=0) : m.defs.length≤40∧m.defs.all (setD m)=true:=by
 unfold errM at h
 split at h
 ·cases h
 rename_i hl
 split at h
 ·cases h
 split at h
 ·cases h
 split at h
 ·cases h
 split at h
 ·cases h
 split at h
 ·cases h
 refine ⟨by omega,?_⟩
 cases q : m.defs.all (setD m)
 ·rw [q] at h; cases h
 ·rfl
theorem errT_more {m : Md} {t : Ty} (h : errT m t=0) : t.allP (settleP m [])=true:=by
 unfold errT at h
 split at h
 ·cases h
 split at h
 ·cases h
 split at h
 ·cases h
 split at h
 ·cases h
 cases q : t.allP (settleP m [])
 ·rw [q] at h; simp [toldP] at h
 ·rfl
theorem flat_sum {α β : Type} (f : α→List β) (k : Nat) : ∀ (l : List α),(∀ x ∈ l,(f x).length≤k)→(l.flatMap f).length≤l.length * k
 | [],_=>by simp
 | x :: l,h=>by
  have h1:=h x (by simp)
  have h2:=flat_sum f k l fun y hy=>h y (by simp [hy])
  simp only [List.flatMap_cons,List.length_append,List.length_cons,Nat.succ_mul]
  omega
theorem fine_of {m : Md} (hm : m.ok) {t : Ty} (hs : t.size≤67108864) (h : errC m t=0) : m.fine (allS m t)∧t.fine m (allS m t)∧(allS m t).length≤67108863∧∀ q ∈ allS m t,q.2.size≤67108864:=by
 obtain ⟨h1,h2⟩:=errC_zero h
 obtain ⟨h3,h4⟩:=errM_zero h1
 obtain ⟨h5,h6⟩:=errM_more h1
 obtain ⟨h7,h8⟩:=errT_zero h2
 have h9:=errT_more h2
 have hw : t.wid≤67108864:=Nat.le_trans t.wid_le hs
 have hset : ∀ d ∈ m.defs,d.of.allP (settleP m d.params)=true:=fun d hd=>List.all_eq_true.1 h6 d hd
 have hlim:=lim_of h3
 have hfm:=fm_of h4
 refine ⟨⟨hm,hlim,hfm,hset,fun d hd q hq=>List.mem_append_left _ (List.mem_flatMap.2 ⟨d,hd,hq⟩)⟩,
  ⟨hw,lim_nodes h7,h8,good_of h8 h9 fun q hq=>List.mem_append_right _ hq⟩,?_,fun q hq=>?_⟩
 ·unfold allS
  rw [List.length_append]
  have e1:=flat_sum (fun d : Df=>d.of.prs) 600 m.defs fun d hd=>by
   have:=prs_len m d.params _ d.of (Nat.le_refl _) (hfm d hd) (hset d hd)
   have:=hlim d hd
   omega
  have e2:=prs_len m [] _ t (Nat.le_refl _) h8 h9
  have e3:=lim_nodes h7
  have e4 : m.defs.length * 600≤40 * 600:=Nat.mul_le_mul_right _ h5
  omega
 ·rcases List.mem_append.1 hq with hq | hq
  ·obtain ⟨d,hd,hq⟩:=List.mem_flatMap.1 hq
   have:=prs_size _ d.of (Nat.le_refl _) q hq
   have:=d.of.wid_le
   have:=hm.of d hd
   omega
  ·have:=prs_size _ t (Nat.le_refl _) q hq
   omega
theorem items_nodes {v : Val} : v.items.length < v.nodes:=by
 rw [v.nodes_eq]
 have : ∀ l : List Val,l.length≤(l.map Val.nodes).sum:=by
  intro l
  induction l with
  | nil=>simp
  | cons x l ih=>simp only [List.length_cons,List.map_cons,List.sum_cons]; have:=x.nodes_pos; omega
 have:=this v.items
 omega
theorem mem_nodes {v x : Val} (h : x ∈ v.items) : x.nodes < v.nodes:=by
 rw [v.nodes_eq]
 have : ∀ l : List Val,x ∈ l→x.nodes≤(l.map Val.nodes).sum:=by
  intro l
  induction l with
  | nil=>intro h; cases h
  | cons y l ih=>
   intro h
   simp only [List.map_cons,List.sum_cons]
   rcases List.mem_cons.1 h with rfl | h
   ·omega
   ·have:=ih h; omega
 have:=this v.items h
 omega
theorem sameN_ok : ∀ (n : Nat) (v w : Val),v.nodes≤n→v.nodes≤67108864→∀ ws h,callL cfg ws 17 [v.enc,w.enc] h=some (.bool (v.same w),h)
 | 0,v,_,hv,_,_,_=>by have:=v.nodes_pos; omega
 | n + 1,v,w,hv,hb,ws,h=>by
  have hlen:=items_nodes (v:=v)
  have heq:=fun h'=>eqFuncV_ok v.items w.items (by omega) (fun x hx y ws h=>by
   have:=mem_nodes hx
   exact sameN_ok n x y (by omega) (by omega) ws h) h.length h'
  refine callL_fn rfl rfl ?_
  rw [Val.same_eq]
  simp [F17,c17,heq,Bool.and_assoc]
theorem rsameN_ok : ∀ (n : Nat) (v w : Val),v.nodes≤n→v.nodes≤67108864→∀ ws h,callL cfg ws 13 [v.enc,w.enc] h=some (.bool (v.same w),h)
 | 0,v,_,hv,_,_,_=>by have:=v.nodes_pos; omega
 | n + 1,v,w,hv,hb,ws,h=>by
  have hlen:=items_nodes (v:=v)
  refine callL_fn rfl rfl ?_
  rw [Val.same_eq]
  by_cases h1 : v.kind=w.kind
  ·by_cases h2 : v.int=w.int
   ·by_cases h3 : v.bytes.toList=w.bytes.toList
    ·by_cases h4 : v.items.length=w.items.length
     ·have hl:=loop_list (f:=evC (callL cfg) roundsL cfg.pol h.length h.length c13L0) (keep:=[2,3,5]) v.items (fun i=>[(2,.ptr h.length 0 4 0 0),(3,.ptr (h.length + 1) 0 4 0 0),(5,.int .i64 i)]) (fun _=>h++[.arr 0 4 [v.enc],.arr 0 4 [w.enc]])
        (fun j r=>if eqL Val.same r (w.items.drop j)=true then (.exit 0,[(2,.ptr h.length 0 4 0 0),(3,.ptr (h.length + 1) 0 4 0 0),(5,.int .i64 v.items.length)],h++[.arr 0 4 [v.enc],.arr 0 4 [w.enc]]) else (.ret,[(4,.bool false)],h++[.arr 0 4 [v.enc],.arr 0 4 [w.enc]])) ?_ ?_
      ·simp only [List.drop_zero] at hl
       cases hs : eqL Val.same v.items w.items <;> simp [hs] at hl <;> simp [F13,c13,h1,h2,h3,h4] <;> simp [h1,h2,h3,h4] at hl <;> simp [hl]
      ·intro j x r hd hi hx K hK
       have hw:=wrap_nat (n:=j + 1) (by omega)
       simp at hw
       have him : j < w.items.length:=by omega
       have hdm : w.items.drop j=w.items[j] :: w.items.drop (j + 1):=List.drop_eq_getElem_cons him
       rw [hdm]
       have hm1 : x ∈ v.items:=by rw [← hx]; exact List.getElem_mem hi
       have hsz:=mem_nodes hm1
       obtain ⟨y,hy⟩ : ∃ y,w.items[j]=y:=⟨_,rfl⟩
       have hcl:=fun h'=>rsameN_ok n x y (by omega) (by omega) h.length h'
       rw [hy]
       simp only [Val.enc_eq] at hcl
       rw [eqL]
       cases hs : x.same y
       ·rw [hs] at hcl
        simp [c13L0,hi,hx,him,hy,hcl]
       ·rw [hs] at hcl
        simp at hK
        simp [c13L0,hi,hx,him,hy,hcl,hw,hK]
      ·intro K
       have : w.items.drop v.items.length=[]:=by rw [h4]; simp
       rw [this]
       simp [c13L0,eqL]
     ·have hs : eqL Val.same v.items w.items=false:=by
        cases hs : eqL Val.same v.items w.items with
        | false=>rfl
        | true=>exact absurd (eqL_len hs) h4
      have hn2 : ¬ (v.items.length : Int)=w.items.length:=by omega
      rw [hs]
      simp [F13,c13,h1,h2,h3,hn2]
    ·simp [F13,c13,h1,h2,h3]
   ·simp [F13,c13,h1,h2]
  ·simp [F13,c13,h1]
end Go.Proofs.YtflbneepngjglaaGreatDoor
namespace Go.Proofs.YtflbneepngjglaaGreatDoor
open Go Go.Avm
def askE (m : Md) (t : Ty) (v : Val) : Int:=if errC m t=0 then toldP (fairP v && fitB m v.size t v) 1 else errC m t
theorem asked_ok (m : Md) (hm : m.ok) (t : Ty) (hs : t.size≤67108864) (v : Val) (hv : v.size≤67108864) (ws : Nat) (h : Avm.H) : callL cfg ws 38 [m.enc,t.enc,v.enc] h=some (.int .i64 (askE m t v),h):=by
 have hw : t.wid≤67108864:=Nat.le_trans t.wid_le hs
 have e1:=fun ws h=>ctypeC_ok m hm t hs ws h
 have e2:=fun ws h=>fair_ok v hv ws h
 unfold askE
 refine callL_fn rfl rfl ?_
 by_cases q : errC m t=0
 ·obtain ⟨q1,q2⟩:=errC_zero q
  have e3:=fun ws h=>fits_ok m hm (fm_of (errM_zero q1).2) v.size v (Nat.le_refl _) hv t hw (errT_zero q2).2 ws h
  have e4:=fun b ws h=>told_ok b 1 ws h
  rw [q] at e1 ⊢
  simp [Md.enc] at e1 e2 e3
  simp [F38,c38,Md.enc,e1,e2,e3,e4]
 ·simp [Md.enc] at e1
  simp [F38,c38,Md.enc,e1,q]
theorem askE_zero {m : Md} {t : Ty} {v : Val} (h : askE m t v=0) : errC m t=0∧fairP v=true∧fitB m v.size t v=true:=by
 unfold askE at h
 by_cases q : errC m t=0
 ·rw [if_pos q] at h
  refine ⟨q,?_⟩
  cases q2 : (fairP v && fitB m v.size t v)
  ·rw [q2] at h; simp [toldP] at h
  ·simpa using q2
 ·rw [if_neg q] at h; exact absurd h q
def zeroV : Val:=.mk 0 0 ⟨#[]⟩ []
def fuelP (v : Val) : Nat:=67108863 * (67108864 + 2) + v.size
def plainV (m : Md) (t : Ty) (v : Val) : Val:=(plainN m (fuelP v) [] t v).getD zeroV
theorem plainV_eq {m : Md} {S : List (Ty × Val)} (M : m.fine S) (hS : S.length≤67108863) (hSs : ∀ q ∈ S,q.2.size≤67108864) {t : Ty} (T : t.fine m S) (v : Val) : plainN m (fuelP v) [] t v=some (plainV m t v):=by
 obtain ⟨r,hr⟩:=plainN_some M hSs (fuelP v) [] t v T (by
  have h1 : rest S []≤S.length:=List.length_filter_le _ _
  unfold fuelP
  exact Nat.add_le_add_right (Nat.mul_le_mul_right _ (Nat.le_trans h1 hS)) _)
 unfold plainV
 rw [hr]; rfl
theorem nodes_le_size : ∀ (n : Nat) (v : Val),v.size≤n→v.nodes≤v.size
 | 0,v,h=>by have:=v.size_pos; omega
 | n + 1,v,h=>by
  rw [v.nodes_eq,v.size_eq]
  have : ∀ l : List Val,(∀ x ∈ l,x.nodes≤x.size)→(l.map Val.nodes).sum≤Val.sizeL l:=by
   intro l
   induction l with
   | nil=>intro _; simp [Val.sizeL]
   | cons x l ih=>
    intro hl
    have h1:=hl x (by simp)
    have h2:=ih fun y hy=>hl y (by simp [hy])
    simp only [List.map_cons,List.sum_cons,Val.sizeL]
    omega
  have:=this v.items fun x hx=>nodes_le_size n x (by have:=Val.mem_items hx; omega)
  omega
theorem mapS_nodes {f : Nat→Val→Int→Option (Val × Int)} : ∀ {l r : List Val} {i : Nat} {c c' : Int},(∀ (j : Nat) x,l[j]? = some x→∀ c q,f (i + j) x c=some q→(q.1.nodes : Int) + q.2≤c)→mapS f i l c=some (r,c')→((r.map Val.nodes).sum : Nat) + c'≤c
 | [],r,i,c,c',_,h=>by simp [mapS] at h; obtain ⟨rfl,rfl⟩:=h; simp
 | x :: l,r,i,c,c',hf,h=>by
  unfold mapS at h
  split at h
  ·cases h
  ·rename_i y c1 h1
   split at h
   ·cases h
   ·rename_i ys c2 h2
    injection h with h
    injection h with h3 h4
    subst h3; subst h4
    have e1:=hf 0 x rfl c (y,c1) h1
    have e2:=mapS_nodes (l:=l) (r:=ys) (i:=i + 1) (fun j z hz c q hq=>hf (j + 1) z (by simpa using hz) c q (by rw [show i + (j + 1)=i + 1 + j by omega]; exact hq)) h2
    simp only [List.map_cons,List.sum_cons]
    dsimp only at e1
    push_cast
    omega
theorem fullN_nodes {m : Md} {S : List (Ty × Val)} (M : m.fine S) (hSs : ∀ q ∈ S,q.2.size≤67108864) : ∀ (n : Nat) (t : Ty) (v : Val) (l : Int) (q : Val × Int),t.fine m S→(∃ k,fitB m k t v=true)→v.size≤67108864→fullN m n t v l=some q→(q.1.nodes : Int) + q.2≤l
 | 0,_,_,_,_,_,_,_,h=>by cases h
 | n + 1,t,v,l,q,T,⟨k,hk⟩,hv,h=>by
  cases k with
  | zero=>cases hk
  | succ k=>
  cases hb : beh m 21 t with
  | none=>unfold fitB at hk; rw [hb] at hk; cases hk
  | some b=>
  have I:=fill_in M hSs T hb hv hk
  unfold fullN at h
  split at h
  ·cases h
  ·rw [hb,Option.getD_some] at h
   split at h
   ·cases h
   ·rename_i ys l' hm
    injection h with h
    subst h
    have e:=mapS_nodes (fun j x hx c q hq=>by
     rw [Nat.zero_add] at hq
     unfold fullF at hq
     cases hp : partF b v j x with
     | none=>
      rw [hp] at hq
      dsimp only at hq
      unfold leafS at hq
      split at hq
      ·cases hq
      ·injection hq with hq
       subst hq
       obtain ⟨h1,_,_⟩:=I.leaf j x hx hp
       have : x.nodes=1:=by rw [x.nodes_eq,h1]; simp
       dsimp only
       omega
     | some w=>
      rw [hp] at hq
      obtain ⟨h1,h2,h3,h4⟩:=I.real j x w hx hp
      exact fullN_nodes M hSs n w.1 w.2 c q h2 h4 h3 hq) hm
    rw [Val.nodes_eq]
    simp only [Val.items_mk]
    omega
theorem fullN_few {m : Md} {S : List (Ty × Val)} (M : m.fine S) (hSs : ∀ q ∈ S,q.2.size≤67108864) {t : Ty} {v : Val} (T : t.fine m S) (hk : ∃ k,fitB m k t v=true) (hv : v.size≤67108864) {q : Val × Int} {r : Val} {ok : Bool} {l' : Int} (h : fullN m 30 t v 600=some q) (hF : Fills (fullN m 30 t v 600) r ok l') : q.1.nodes≤600:=by
 have e:=fullN_nodes M hSs 30 t v 600 q T hk hv h
 rw [h] at hF
 obtain ⟨_,_,h1,h2,_⟩:=hF
 omega
theorem same_self (v : Val) : v.same v=true:=(Val.same_iff v v).2 rfl
end Go.Proofs.YtflbneepngjglaaGreatDoor
