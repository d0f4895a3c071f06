/- Copies of values. -/
import Derived.Test.YtflbneepngjglaaGreatDoorR41
set_option linter.all false
namespace Go.Proofs.YtflbneepngjglaaGreatDoor
open Go Go.Avm
theorem check_S5 (m : Md) (hm : m.ok) (A1 A2 A3 : Bool) (h g : Avm.H) (w : AV) (hI : SlcIn h.length 1 1 g ((m.defs.map Df.name).map .str) w) (hl : A1=true→m.defs.all limD=true) : ∃ g',evC (callL cfg) roundsL cfg.pol h.length h.length c78S5 [(1,.ptr h.length 0 2 0 0),(3,.int .i64 (toldP A1 2)),(4,.int .i64 (toldP A2 6)),(5,.int .i64 (toldP A3 7)),(6,.int .i64 0),(7,.int .i64 0),(8,w)] (h++([.arr 0 2 [m.enc]]++g))=some (.ret,[(2,.int .i64 (if A1=false then 2 else if A2=false then 6 else if (A3 && distinct (m.defs.map Df.name))=false then 7 else if m.defs.all (loopD m)=false then 13 else if m.defs.all argD=false then 1 else toldP (m.defs.all (setD m)) 1))],h++([.arr 0 2 [m.enc]]++g')):=by
 have hlen : m.defs.length≤67108864:=hm.len
 have e2:=fun ws=>twice_ok w (m.defs.map Df.name) (by simpa using hlen) ws _ (SlcIn.els (pre:=[.arr 0 2 [m.enc]]) hI)
 obtain ⟨D,hD⟩ : ∃ D,distinct (m.defs.map Df.name)=D:=⟨_,rfl⟩
 rw [hD] at e2 ⊢
 simp [Md.enc] at e2
 cases A1
 ·simp [-Prod.exists,c78S5,Md.enc,e2,told_ok,firstA,i64s,firstP,toldP,bslP]
 ·cases A2
  ·simp [-Prod.exists,c78S5,Md.enc,e2,told_ok,firstA,i64s,firstP,toldP,bslP]
  ·cases A3
   ·simp [-Prod.exists,c78S5,Md.enc,e2,told_ok,firstA,i64s,firstP,toldP,bslP]
   ·cases D
    ·simp [-Prod.exists,c78S5,Md.enc,e2,told_ok,firstA,i64s,firstP,toldP,bslP]
    ·obtain ⟨g2,h1⟩:=check_loop1 m hm h (g++[.arr 0 1 [.int .i64 0,.int .i64 0,.int .i64 0,.int .i64 0]])
     obtain ⟨g3,h2⟩:=check_S4 m hm (m.defs.all (loopD m)) (m.defs.all argD) h g2 (fun _ q2=>⟨fm_of q2,QT_of hm (hl rfl) q2⟩)
     refine ⟨g3,?_⟩
     rw [List.take_length] at h1
     generalize m.defs.all (loopD m)=B1 at *
     generalize m.defs.all argD=B2 at *
     generalize m.defs.all (setD m)=B3 at *
     simp only [Bool.and_self,Bool.true_eq_false,if_false]
     rw [← h2]
     clear h2
     simp [Md.enc] at h1
     simp [c78S5,Md.enc,e2,told_ok,firstA,i64s,firstP,toldP,bslP,h1]
theorem check_ok (m : Md) (hm : m.ok) (ws : Nat) (h : Avm.H) : callL cfg ws 78 [m.enc] h=some (.int .i64 (errM m),h):=by
 have e1:=fun ws h=>great_ok m.name hm.name ws h
 unfold errM
 refine callL_fn rfl rfl ?_
 by_cases q : 40 < m.defs.length
 ·have q2 : (40 : Int) < m.defs.length:=by omega
  simp [F78,c78,Md.enc,q,q2]
 ·have q2 : ¬ (40 : Int) < m.defs.length:=by omega
  obtain ⟨w,g,hI,hl⟩:=check_loop0 m hm h
  obtain ⟨g2,h2⟩:=check_S5 m hm (m.defs.all limD) (greatB m.name && m.defs.all (namD m)) (m.defs.all dupD) h g w hI (fun q=>q)
  rw [List.take_length] at hl
  generalize m.defs.all limD=A1 at *
  generalize m.defs.all (namD m)=A2 at *
  generalize m.defs.all dupD=A3 at *
  generalize m.defs.all (loopD m)=A4 at *
  generalize m.defs.all argD=A5 at *
  generalize m.defs.all (setD m)=A6 at *
  generalize distinct (m.defs.map Df.name)=A7 at *
  generalize greatB m.name=A0 at *
  generalize hR : (if A1=false then 2 else if (A0 && A2)=false then 6 else if (A3 && A7)=false then 7 else if A4=false then 13 else if A5=false then 1 else toldP A6 1 : Int)=R at *
  simp [Md.enc] at hl h2
  simp [F78,c78,c78S6,Md.enc,q,q2,e1,told_ok,hl,h2,hR]
end Go.Proofs.YtflbneepngjglaaGreatDoor
namespace Go.Proofs.YtflbneepngjglaaGreatDoor
open Go Go.Avm
theorem errM_zero {m : Md} (h : errM m=0) : m.defs.all limD=true∧m.defs.all argD=true:=by
 unfold errM at h
 split at h
 ·cases h
 cases q1 : m.defs.all limD
 ·rw [q1] at h; simp at h
 ·refine ⟨rfl,?_⟩
  cases q2 : m.defs.all argD
  ·rw [q1,q2] at h
   simp only [if_true,Bool.true_eq_false,if_false] at h
   split at h
   ·cases h
   split at h
   ·cases h
   split at h
   ·cases h
   ·cases h
  ·rfl
end Go.Proofs.YtflbneepngjglaaGreatDoor
namespace Go.Proofs.YtflbneepngjglaaGreatDoor
open Go Go.Avm
def errC (m : Md) (t : Ty) : Int:=if errM m=0 then errT m t else errM m
theorem errT_zero {m : Md} {t : Ty} (h : errT m t=0) : limS t=true∧t.allP rightP=true:=by
 unfold errT at h
 cases q1 : limS t
 ·rw [q1] at h; simp at h
 ·refine ⟨rfl,?_⟩
  cases q2 : t.allP rightP
  ·rw [q1,q2] at h
   simp only [Bool.true_eq_false,if_false] at h
   split at h
   ·cases h
   split at h
   ·cases h
   split at h
   ·cases h
   ·cases h
  ·rfl
theorem ctypeC_ok (m : Md) (hm : m.ok) (t : Ty) (hs : t.size≤67108864) (ws : Nat) (h : Avm.H) : callL cfg ws 47 [m.enc,t.enc] h=some (.int .i64 (errC m t),h):=by
 unfold errC
 by_cases q : errM m=0
 ·rw [if_pos q]
  exact ctype_ok m hm (fm_of (errM_zero q).2) t hs (fun ws h=>q ▸ check_ok m hm ws h) ws h
 ·rw [if_neg q]
  exact ctype_err m t (errM m) q (fun ws h=>check_ok m hm ws h) ws h
theorem errC_zero {m : Md} {t : Ty} (h : errC m t=0) : errM m=0∧errT m t=0:=by
 unfold errC at h
 by_cases q : errM m=0
 ·rw [if_pos q] at h; exact ⟨q,h⟩
 ·rw [if_neg q] at h; exact absurd h q
end Go.Proofs.YtflbneepngjglaaGreatDoor
namespace Go.Proofs.YtflbneepngjglaaGreatDoor
open Go Go.Avm
theorem eqL_eq {α : Type} {p : α→α→Bool} : ∀ (l m : List α),(∀ x ∈ l,∀ y,p x y=true ↔ x=y)→(eqL p l m=true ↔ l=m)
 | [],[],_=>by simp [eqL]
 | [],_ :: _,_=>by simp [eqL]
 | _ :: _,[],_=>by simp [eqL]
 | x :: l,y :: m,h=>by
  simp only [eqL,Bool.and_eq_true,h x (by simp) y,eqL_eq l m (fun z hz=>h z (by simp [hz])),List.cons.injEq]
theorem bytes_eq (a b : ByteArray) : a.toList=b.toList ↔ a=b:=by
 rw [ByteArray.toList_eq,ByteArray.toList_eq]
 constructor
 ·intro h; apply ByteArray.ext; apply Array.ext'; exact h
 ·rintro rfl; rfl
theorem val_same : ∀ (n : Nat) (v : Val),v.size≤n→∀ w,v.same w=true ↔ v=w
 | 0,v,h,_=>by have:=v.size_pos; omega
 | n + 1,v,h,w=>by
  rw [Val.same_eq]
  simp only [Bool.and_eq_true,decide_eq_true_eq,bytes_eq]
  rw [eqL_eq v.items w.items (fun x hx y=>val_same n x (by have:=Val.mem_items hx; omega) y)]
  constructor
  ·rintro ⟨h1,h2,h3,h4⟩; rw [← v.eta,← w.eta,h1,h2,h3,h4]
  ·rintro rfl; exact ⟨rfl,rfl,rfl,rfl⟩
theorem Val.same_iff (v w : Val) : v.same w=true ↔ v=w:=val_same _ v (Nat.le_refl _) w
theorem ty_same : ∀ n,(∀ t : Ty,t.size≤n→∀ u,t.same u=true ↔ t=u)∧(∀ x : It,x.size≤n→∀ y,x.same y=true ↔ x=y)
 | 0=>⟨fun t h _=>by have:=t.size_pos; omega,fun t h _=>by have:=t.size_pos; omega⟩
 | n + 1=>by
  obtain ⟨ih1,ih2⟩:=ty_same n
  refine ⟨fun t h u=>?_,fun x h y=>?_⟩
  ·rw [Ty.same_eq]
   simp only [Bool.and_eq_true,decide_eq_true_eq,bytes_eq]
   rw [eqL_eq t.items u.items (fun x hx y=>ih2 x (by have:=Ty.mem_items hx; omega) y),eqL_eq t.kids u.kids (fun x hx y=>ih1 x (by have:=Ty.mem_kids hx; omega) y)]
   constructor
   ·rintro ⟨h1,h2,h3,h4,h5,h6,h7,h8⟩; rw [← t.eta,← u.eta,h1,h2,h3,h4,h5,h6,h7,h8]
   ·rintro rfl; simp
  ·unfold It.same
   simp only [Bool.and_eq_true,decide_eq_true_eq,bytes_eq]
   rw [ih1 x.of (by have:=x.of_size; omega),eqL_eq x.dflt y.dflt (fun v _ w=>Val.same_iff v w)]
   constructor
   ·rintro ⟨h1,h2,h3,h4,h5⟩; rw [← x.eta,← y.eta,h1,h2,h3,h4,h5]
   ·rintro rfl; simp
theorem Ty.same_iff (t u : Ty) : t.same u=true ↔ t=u:=(ty_same _).1 t (Nat.le_refl _) u
def absV : Val:=.mk 12 0 ⟨#[]⟩ []
def It.zero : It:=.mk ⟨#[]⟩ Ty.zero false false []
def Ty.prs (t : Ty) : List (Ty × Val):=(t.items.flatMap fun x=>x.dflt.map fun d=>(x.of,d))++t.inner.attach.flatMap fun x=>x.1.prs
termination_by t.size
decreasing_by exact Ty.mem_inner x.2
theorem Ty.prs_eq (t : Ty) : t.prs=(t.items.flatMap fun x=>x.dflt.map fun d=>(x.of,d))++t.inner.flatMap Ty.prs:=by rw [Ty.prs,att_flat t.inner Ty.prs]
def GoodI (m : Md) (S : List (Ty × Val)) (x : It) : Prop:=∃ d,x.dflt=[d]∧(x.of,d) ∈ S∧fitB m d.size x.of d=true∧fairP d=true
open Classical in
noncomputable def goodP (m : Md) (S : List (Ty × Val)) (t : Ty) : Bool:=decide (t.kind=8→∀ x ∈ t.items,x.dflt ≠ []→GoodI m S x)
theorem goodP_iff {m : Md} {S : List (Ty × Val)} {t : Ty} : goodP m S t=true ↔ (t.kind=8→∀ x ∈ t.items,x.dflt ≠ []→GoodI m S x):=by unfold goodP; simp
theorem par_none {ps : List ByteArray} {t : Ty} (h : nrefB ps t=true) : t.par ps=none:=by
 unfold Ty.par
 split
 ·rename_i hk
  rw [List.findIdx?_eq_none_iff]
  intro p hp
  unfold nrefB at h
  simp only [Bool.not_eq_true',Bool.and_eq_false_iff,decide_eq_false_iff_not] at h
  rcases h with h | h
  ·exact absurd hk.1 h
  ·unfold inS at h
   rw [List.any_eq_false] at h
   have:=h p hp
   unfold eqS at this ⊢
   simpa [eq_comm] using this
 ·rfl
theorem put_none (ps : List ByteArray) (args : List Ty) : ∀ (n : Nat) (t : Ty),t.size≤n→t.allP rightP=true→t.allP (nrefB ps)=true→t.put ps args=t
 | 0,t,h,_,_=>by have:=t.size_pos; omega
 | n + 1,t,h,hr,hn=>by
  rw [Ty.put_eq,par_none (allP_self hn)]
  dsimp only
  have h1 : (t.items.map fun x=>x.withOf (x.of.put ps args))=t.items:=by
   conv=>rhs; rw [← List.map_id t.items]
   refine List.map_congr_left fun x hx=>?_
   have hx1 : x.of.put ps args=x.of:=by
    by_cases hc : t.comp=true
    ·have hin : x.of ∈ t.inner:=by unfold Ty.inner; rw [hc]; exact List.mem_append_right _ (List.mem_map_of_mem hx)
     exact put_none ps args n x.of (by have:=Ty.mem_of hx; omega) (allP_inner hr hin) (allP_inner hn hin)
    ·rcases right_items (allP_self hr) hc with h2 | h2
     ·rw [h2] at hx; cases hx
     ·have h3:=List.all_eq_true.1 h2 x hx
      unfold bareI at h3
      simp only [Bool.and_eq_true] at h3
      exact bare_put ps args h3.1
   rw [hx1]; exact withOf_self x
  have h2 : (t.kids.map fun x=>x.put ps args)=t.kids:=by
   conv=>rhs; rw [← List.map_id t.kids]
   refine List.map_congr_left fun x hx=>?_
   have hin : x ∈ t.inner:=List.mem_append_left _ hx
   exact put_none ps args n x (by have:=Ty.mem_kids hx; omega) (allP_inner hr hin) (allP_inner hn hin)
  rw [h1,h2]
  exact t.eta
theorem zero_good (m : Md) (S : List (Ty × Val)) : Ty.zero.allP (goodP m S)=true:=by
 rw [Ty.allP_eq]
 simp [Ty.zero,Ty.inner,Ty.comp,goodP_iff]
theorem put_good (m : Md) (S : List (Ty × Val)) (ps : List ByteArray) (args : List Ty) (ha : ∀ a ∈ args,a.allP (goodP m S)=true) : ∀ (n : Nat) (t : Ty),t.size≤n→t.allP rightP=true→t.allP (settleP m ps)=true→(∀ q ∈ t.prs,q ∈ S)→(t.put ps args).allP (goodP m S)=true
 | 0,t,h,_,_,_=>by have:=t.size_pos; omega
 | n + 1,t,h,hr,hs,hq=>by
  rw [Ty.put_eq]
  cases hp : t.par ps with
  | some i=>
   dsimp only
   cases hi : args[i]? with
   | none=>exact zero_good m S
   | some a=>exact ha a (List.mem_of_getElem? hi)
  | none=>
   dsimp only
   rw [Ty.prs_eq] at hq
   have hsub : ∀ y ∈ t.inner,∀ q ∈ y.prs,q ∈ S:=fun y hy q hqy=>hq q (List.mem_append_right _ (List.mem_flatMap.2 ⟨y,hy,hqy⟩))
   rw [Ty.allP_eq,Bool.and_eq_true]
   refine ⟨?_,?_⟩
   ·rw [goodP_iff]
    intro hk x hx hd
    simp only [Ty.kind_mk] at hk
    simp only [Ty.items_mk] at hx
    obtain ⟨y,hy,rfl⟩:=List.mem_map.1 hx
    have hd' : y.dflt ≠ []:=hd
    have hset:=allP_self hs
    unfold settleP at hset
    rw [hk] at hset
    simp only [decide_true,Bool.not_true,Bool.false_or] at hset
    have hy1:=List.all_eq_true.1 hset y hy
    unfold dfltB at hy1
    have hin : y.of ∈ t.inner:=by
     unfold Ty.inner
     have hc : t.comp=true:=by unfold Ty.comp; rw [hk]; rfl
     rw [hc]; exact List.mem_append_right _ (List.mem_map_of_mem hy)
    split at hy1
    ·rename_i e; exact absurd e hd'
    ·rename_i d hdd
     simp only [Bool.and_eq_true,Bool.not_eq_true'] at hy1
     obtain ⟨_,hnm,hft,hfr⟩:=hy1
     unfold namedP at hnm
     simp only [Bool.not_eq_false'] at hnm
     have hput : y.of.put ps args=y.of:=put_none ps args _ y.of (Nat.le_refl _) (allP_inner hr hin) hnm
     rw [hput,withOf_self]
     exact ⟨d,hdd,hq _ (List.mem_append_left _ (List.mem_flatMap.2 ⟨y,hy,by rw [hdd]; simp⟩)),hft,hfr⟩
    ·cases hy1
   ·rw [List.all_eq_true]
    intro x hx
    unfold Ty.inner at hx
    rcases List.mem_append.1 hx with hx | hx
    ·obtain ⟨y,hy,rfl⟩:=List.mem_map.1 (by simpa using hx : x ∈ t.kids.map fun x=>x.put ps args)
     have hin : y ∈ t.inner:=List.mem_append_left _ hy
     exact put_good m S ps args ha n y (by have:=Ty.mem_kids hy; omega) (allP_inner hr hin) (allP_inner hs hin) (hsub y hin)
    ·split at hx
     ·rename_i hc
      obtain ⟨i,hi,rfl⟩:=List.mem_map.1 hx
      obtain ⟨j,hj,rfl⟩:=List.mem_map.1 (by simpa using hi : i ∈ t.items.map fun x=>x.withOf (x.of.put ps args))
      have hc' : t.comp=true:=hc
      have hin : j.of ∈ t.inner:=by unfold Ty.inner; rw [hc']; exact List.mem_append_right _ (List.mem_map_of_mem hj)
      exact put_good m S ps args ha n j.of (by have:=Ty.mem_of hj; omega) (allP_inner hr hin) (allP_inner hs hin) (hsub j.of hin)
     ·cases hx
theorem good_of {m : Md} {S : List (Ty × Val)} {t : Ty} (hr : t.allP rightP=true) (hs : t.allP (settleP m [])=true) (hq : ∀ q ∈ t.prs,q ∈ S) : t.allP (goodP m S)=true:=by
 have:=put_good m S [] [] (fun _ h=>by cases h) _ t (Nat.le_refl _) hr hs hq
 rwa [put_nil [] _ t (Nat.le_refl _)] at this
structure Md.fine (m : Md) (S : List (Ty × Val)) : Prop where
 ok : m.ok
 lim : m.lim
 fm : m.fm
 set : ∀ d ∈ m.defs,d.of.allP (settleP m d.params)=true
 src : ∀ d ∈ m.defs,∀ q ∈ d.of.prs,q ∈ S
structure Ty.fine (m : Md) (S : List (Ty × Val)) (t : Ty) : Prop where
 wid : t.wid≤67108864
 nodes : t.nodes≤600
 right : t.allP rightP=true
 good : t.allP (goodP m S)=true
theorem step_good {m : Md} {S : List (Ty × Val)} (M : m.fine S) {t u : Ty} (ht : t.allP (goodP m S)=true) (h : stepB m t=some u) : u.allP (goodP m S)=true:=by
 unfold stepB at h
 split at h
 ·cases h
 ·rename_i d hd
  have hdm:=List.mem_of_find?_eq_some hd
  split at h
  ·cases h
  ·split at h
   ·rename_i hps
    cases h
    have hs:=M.set d hdm
    rw [hps] at hs
    exact good_of (M.fm d hdm) hs (M.src d hdm)
   ·split at h
    ·cases h
     exact put_good m S _ _ (fun a ha=>allP_inner ht (List.mem_append_left _ ha)) _ _ (Nat.le_refl _) (M.fm d hdm) (M.set d hdm) (M.src d hdm)
    ·cases h
theorem Ty.fine.beh {m : Md} {S : List (Ty × Val)} (M : m.fine S) {t b : Ty} (T : t.fine m S) (h : beh m 21 t=some b) : b.fine m S∧b.kind ≠ 10:=by
 obtain ⟨h1,h2,h3⟩:=beh_good m M.ok M.fm T.wid T.right h
 have h4:=beh_inv m (fun t=>t.allP (goodP m S)=true) (fun t u ht hs=>step_good M ht hs) 21 t b T.good h
 exact ⟨⟨h1,beh_nodes m M.lim T.nodes h,h2,h4.1⟩,h3⟩
theorem nodes_inner {t x : Ty} (h : x ∈ t.inner) : x.nodes < t.nodes:=by
 rw [Ty.nodes_eq t]
 have : ∀ (l : List Ty),x ∈ l→x.nodes≤(l.map Ty.nodes).sum:=by
  intro l
  induction l with
  | nil=>intro h; cases h
  | cons y r ih=>
   intro h
   simp only [List.map_cons,List.sum_cons]
   rcases List.mem_cons.1 h with rfl | h
   ·omega
   ·have:=ih h; omega
 have:=this _ h
 omega
theorem Ty.fine.inner {m : Md} {S : List (Ty × Val)} {t x : Ty} (T : t.fine m S) (h : x ∈ t.inner) : x.fine m S:=
 ⟨Nat.le_trans (Ty.wid_inner h) T.wid,by have:=nodes_inner h; have:=T.nodes; omega,allP_inner T.right h,allP_inner T.good h⟩
theorem zero_fine (m : Md) (S : List (Ty × Val)) : Ty.zero.fine m S:=⟨by simp [Ty.zero,Ty.wid_eq,It.widL,Ty.widL]; exact Nat.zero_le _,by rw [Ty.nodes_eq]; simp [Ty.zero,Ty.inner,Ty.comp],zero_right,zero_good m S⟩
theorem fine_getD {m : Md} {S : List (Ty × Val)} (M : m.fine S) {t : Ty} (T : t.fine m S) : ((beh m 21 t).getD Ty.zero).fine m S:=by
 cases h : Proofs.YtflbneepngjglaaGreatDoor.beh m 21 t with
 | none=>exact zero_fine m S
 | some b=>exact (T.beh M h).1
def mapIO (f : Nat→Val→Option Val) : Nat→List Val→Option (List Val)
 | _,[]=>some []
 | i,x :: r=>match f i x,mapIO f (i + 1) r with
  | some y,some l=>some (y :: l)
  | _,_=>none
theorem mapIO_get {f : Nat→Val→Option Val} : ∀ {l r : List Val} {i : Nat},mapIO f i l=some r→r.length=l.length∧∀ (j : Nat) x,l[j]? = some x→∃ y,r[j]? = some y∧f (i + j) x=some y
 | [],r,i,h=>by simp [mapIO] at h; subst h; simp
 | a :: l,r,i,h=>by
  unfold mapIO at h
  split at h
  ·rename_i y l' h1 h2
   injection h with h; subst h
   obtain ⟨h3,h4⟩:=mapIO_get h2
   refine ⟨by simp [h3],fun j x hj=>?_⟩
   cases j with
   | zero=>simp at hj; subst hj; exact ⟨y,rfl,h1⟩
   | succ j=>
    obtain ⟨z,h5,h6⟩:=h4 j x (by simpa using hj)
    exact ⟨z,by simpa using h5,by rw [show i + (j + 1)=i + 1 + j by omega]; exact h6⟩
  ·cases h
theorem mapIO_some {f : Nat→Val→Option Val} : ∀ {l : List Val} {i : Nat},(∀ (j : Nat) x,l[j]? = some x→∃ y,f (i + j) x=some y)→∃ r,mapIO f i l=some r
 | [],i,_=>⟨[],rfl⟩
 | a :: l,i,h=>by
  obtain ⟨y,hy⟩:=h 0 a rfl
  obtain ⟨r,hr⟩:=mapIO_some (f:=f) (l:=l) (i:=i + 1) fun j x hj=>by
   obtain ⟨z,hz⟩:=h (j + 1) x (by simpa using hj)
   exact ⟨z,by rw [show i + 1 + j=i + (j + 1) by omega]; exact hz⟩
  simp only [Nat.add_zero] at hy
  exact ⟨y :: r,by simp only [mapIO,hy,hr]⟩
def partO (b : Ty) (v : Val) (i : Nat) (x : Val) : Option Ty:=
 if b.kind=7 then some (b.kids.headD Ty.zero)
 else if b.kind=9 then some ((b.items[v.int.toNat]?.map It.of).getD Ty.zero)
 else if b.kind=8∧x.kind ≠ 12 then some ((b.items[i]?.map It.of).getD Ty.zero)
 else none
def eachO (b : Ty) (v : Val) (f : Ty→Val→Option Val) (i : Nat) (x : Val) : Option Val:=match partO b v i x with
 | some t=>f t x
 | none=>some x
def normO (s : It→Option Val) (i : It) (x : Val) : Option Val:=
 if i.dflt ≠ []∧x.kind ≠ 12 then (match s i with | some d=>some (if x.same d=true then absV else x) | none=>none) else some x
def It.d0 (x : It) : Val:=x.dflt.headD absV
def metB (u : List (Ty × Val)) (t : Ty) (d : Val) : Bool:=u.any fun q=>t.same q.1 && d.same q.2
def setO (f : List (Ty × Val)→Ty→Val→Option Val) (u : List (Ty × Val)) (x : It) : Option Val:=if metB u x.of x.d0=true then some x.d0 else f (u++[(x.of,x.d0)]) x.of x.d0
def plainN (m : Md) : Nat→List (Ty × Val)→Ty→Val→Option Val
 | 0,_,_,_=>none
 | n + 1,u,t,v=>match mapIO (eachO ((beh m 21 t).getD Ty.zero) v (plainN m n u)) 0 v.items with
  | none=>none
  | some l=>if ((beh m 21 t).getD Ty.zero).kind=8 then
      (match mapIO (fun i x=>normO (setO (plainN m n) u) (((beh m 21 t).getD Ty.zero).items[i]?.getD It.zero) x) 0 l with
      | some r=>some (.mk v.kind v.int v.bytes r)
      | none=>none)
   else some (.mk v.kind v.int v.bytes l)
theorem plainN_kind {m : Md} : ∀ {n : Nat} {u : List (Ty × Val)} {t : Ty} {v r : Val},plainN m n u t v=some r→r.kind=v.kind
 | 0,_,_,_,_,h=>by cases h
 | n + 1,u,t,v,r,h=>by
  unfold plainN at h
  split at h
  ·cases h
  ·split at h
   ·split at h
    ·cases h; rfl
    ·cases h
   ·cases h; rfl
theorem sizeL_le : ∀ {l r : List Val},r.length=l.length→(∀ (j : Nat) x y,l[j]? = some x→r[j]? = some y→y.size≤x.size)→Val.sizeL r≤Val.sizeL l
 | [],[],_,_=>Nat.le_refl _
 | [],_ :: _,h,_=>by simp at h
 | _ :: _,[],h,_=>by simp at h
 | x :: l,y :: r,h,hs=>by
  have h1:=hs 0 x y rfl rfl
  have h2:=sizeL_le (l:=l) (r:=r) (by simpa using h) fun j a b ha hb=>hs (j + 1) a b (by simpa using ha) (by simpa using hb)
  simp only [Val.sizeL]; omega
theorem absV_size (x : Val) : absV.size≤x.size:=by
 have:=x.size_pos
 have h : absV.size=1:=by rw [Val.size_eq]; rfl
 omega
theorem plainN_size {m : Md} : ∀ {n : Nat} {u : List (Ty × Val)} {t : Ty} {v r : Val},plainN m n u t v=some r→r.size≤v.size
 | 0,_,_,_,_,h=>by cases h
 | n + 1,u,t,v,r,h=>by
  unfold plainN at h
  split at h
  ·cases h
  ·rename_i l hl
   obtain ⟨h1,h2⟩:=mapIO_get hl
   have hle : Val.sizeL l≤Val.sizeL v.items:=sizeL_le h1 fun j x y hx hy=>by
    obtain ⟨z,h3,h4⟩:=h2 j x hx
    rw [hy] at h3; injection h3 with h3; subst h3
    unfold eachO at h4
    split at h4
    ·exact plainN_size h4
    ·injection h4 with h4; subst h4; exact Nat.le_refl _
   split at h
   ·split at h
    ·rename_i q hq
     cases h
     obtain ⟨h3,h4⟩:=mapIO_get hq
     have hle2 : Val.sizeL q≤Val.sizeL l:=sizeL_le h3 fun j x y hx hy=>by
      obtain ⟨z,h5,h6⟩:=h4 j x hx
      rw [hy] at h5; injection h5 with h5; subst h5
      unfold normO at h6
      split at h6
      ·split at h6
       ·injection h6 with h6; subst h6
        split
        ·exact absV_size x
        ·exact Nat.le_refl _
       ·cases h6
      ·injection h6 with h6; subst h6; exact Nat.le_refl _
     rw [Val.size_eq,Val.size_eq v]
     simp only [Val.items_mk,Val.bytes_mk]; omega
    ·cases h
   ·cases h
    rw [Val.size_eq,Val.size_eq v]
    simp only [Val.items_mk,Val.bytes_mk]; omega
def rest (S u : List (Ty × Val)) : Nat:=(S.filter fun q=>!metB u q.1 q.2).length
theorem filter_lt {α : Type} {p q : α→Bool} (hpq : ∀ x,q x=true→p x=true) : ∀ {l : List α} {x : α},x ∈ l→p x=true→q x=false→(l.filter q).length < (l.filter p).length
 | y :: l,x,hx,h1,h2=>by
  have hle : ∀ l : List α,(l.filter q).length≤(l.filter p).length:=by
   intro l
   induction l with
   | nil=>exact Nat.le_refl _
   | cons z l ih=>
    simp only [List.filter_cons]
    cases hq : q z
    ·simp only [Bool.false_eq_true,if_false]
     split
     ·simp only [List.length_cons]; omega
     ·exact ih
    ·rw [hpq z hq]; simp only [if_true,List.length_cons]; omega
  rcases List.mem_cons.1 hx with rfl | hx
  ·have:=hle l
   simp only [List.filter_cons,h1,h2,Bool.false_eq_true,if_false,if_true,List.length_cons]; omega
  ·have ih:=filter_lt hpq hx h1 h2
   simp only [List.filter_cons]
   cases hq : q y
   ·simp only [Bool.false_eq_true,if_false]
    split
    ·simp only [List.length_cons]; omega
    ·exact ih
   ·rw [hpq y hq]; simp only [if_true,List.length_cons]; omega
theorem metB_more {u : List (Ty × Val)} {p : Ty × Val} {t : Ty} {d : Val} : metB (u++[p]) t d=(metB u t d || (t.same p.1 && d.same p.2)):=by
 unfold metB; simp
theorem rest_lt {S u : List (Ty × Val)} {t : Ty} {d : Val} (h : (t,d) ∈ S) (hm : metB u t d=false) : rest S (u++[(t,d)]) < rest S u:=by
 unfold rest
 refine filter_lt (fun q hq=>?_) h (by simp [hm]) (by
  have h1 : t.same t=true:=(Ty.same_iff t t).2 rfl
  have h2 : d.same d=true:=(Val.same_iff d d).2 rfl
  simp [metB_more,h1,h2])
 simp only [metB_more,Bool.not_eq_true',Bool.or_eq_false_iff] at hq ⊢
 exact hq.1
theorem partO_fine {m : Md} {S : List (Ty × Val)} {b t : Ty} (B : b.fine m S) {v x : Val} {i : Nat} (h : partO b v i x=some t) : t.fine m S:=by
 have item : ∀ k : Nat,b.comp=true→((b.items[k]?.map It.of).getD Ty.zero).fine m S:=fun k hc=>by
  cases hk : b.items[k]? with
  | none=>exact zero_fine m S
  | some y=>exact B.inner (by unfold Ty.inner; rw [hc]; exact List.mem_append_right _ (List.mem_map_of_mem (List.mem_of_getElem? hk)))
 unfold partO at h
 split at h
 ·injection h with h; subst h
  cases hk : b.kids with
  | nil=>exact zero_fine m S
  | cons a l=>exact B.inner (by unfold Ty.inner; rw [hk]; simp)
 ·split at h
  ·rename_i h9
   injection h with h; subst h
   exact item _ (by unfold Ty.comp; rw [h9]; rfl)
  ·split at h
   ·rename_i h8
    injection h with h; subst h
    exact item _ (by unfold Ty.comp; rw [h8.1]; rfl)
   ·cases h
theorem plainN_some {m : Md} {S : List (Ty × Val)} (M : m.fine S) {K : Nat} (hK : ∀ q ∈ S,q.2.size≤K) : ∀ (n : Nat) (u : List (Ty × Val)) (t : Ty) (v : Val),t.fine m S→rest S u * (K + 2) + v.size≤n→∃ r,plainN m n u t v=some r
 | 0,_,_,v,_,h=>by have:=v.size_pos; omega
 | n + 1,u,t,v,T,h=>by
  have B:=fine_getD M T
  unfold plainN
  obtain ⟨l,hl⟩:=mapIO_some (f:=eachO ((beh m 21 t).getD Ty.zero) v (plainN m n u)) (l:=v.items) (i:=0) fun j x hj=>by
   unfold eachO
   split
   ·rename_i t' ht'
    exact plainN_some M hK n u t' x (partO_fine B ht') (by have:=Val.mem_items (List.mem_of_getElem? hj); omega)
   ·exact ⟨x,rfl⟩
  rw [hl]
  dsimp only
  split
  ·rename_i h8
   obtain ⟨r,hr⟩:=mapIO_some (f:=fun i x=>normO (setO (plainN m n) u) (((beh m 21 t).getD Ty.zero).items[i]?.getD It.zero) x) (l:=l) (i:=0) fun j x hj=>by
    unfold normO
    split
    ·rename_i hd
     have hset : ∃ d,setO (plainN m n) u (((beh m 21 t).getD Ty.zero).items[0 + j]?.getD It.zero)=some d:=by
      unfold setO
      split
      ·exact ⟨_,rfl⟩
      ·rename_i hm
       cases hi : ((beh m 21 t).getD Ty.zero).items[0 + j]? with
       | none=>rw [hi] at hd; exact absurd rfl hd.1
       | some y=>
        rw [hi] at hd hm
        simp only [Option.getD_some] at hd hm ⊢
        have hym:=List.mem_of_getElem? hi
        obtain ⟨d,h1,h2,_,_⟩:=goodP_iff.1 (allP_self B.good) h8 y hym hd.1
        have hd0 : y.d0=d:=by unfold It.d0; rw [h1]; rfl
        rw [hd0] at hm ⊢
        have hlt:=rest_lt (u:=u) h2 (by simpa using hm)
        refine plainN_some M hK n _ _ _ (B.inner (by unfold Ty.inner Ty.comp; rw [h8]; exact List.mem_append_right _ (List.mem_map_of_mem hym))) ?_
        have:=hK _ h2
        dsimp only at this
        have h5 : (rest S (u++[(y.of,d)]) + 1) * (K + 2)≤rest S u * (K + 2):=Nat.mul_le_mul_right _ hlt
        rw [Nat.succ_mul] at h5
        omega
     obtain ⟨d,hset⟩:=hset
     rw [hset]
     exact ⟨_,rfl⟩
    ·exact ⟨x,rfl⟩
   rw [hr]
   exact ⟨_,rfl⟩
  ·exact ⟨_,rfl⟩
end Go.Proofs.YtflbneepngjglaaGreatDoor
namespace Go.Proofs.YtflbneepngjglaaGreatDoor
open Go Go.Avm
theorem cloneV_ok (l : List Val) (hl : l.length≤67108864) (ws : Nat) (h : Avm.H) : callL cfg ws 71 [.isl (l.map Val.enc)] h=some (.osl h.length 0 4 0 l.length,h++[.arr 0 4 (l.map Val.enc)]):=by
 refine callL_ext rfl ?_
 have hl2 : l.length≤lim:=by unfold lim; omega
 simp [cloneX,elsOf,hl2]
theorem set_same {α : Type} {l : List α} {i : Nat} {x : α} (h : l[i]? = some x) : l.set i x=l:=by
 apply List.ext_getElem?
 intro j
 by_cases e : i=j
 ·subst e
  rw [List.getElem?_set_self (List.getElem?_eq_some_iff.1 h).1,h]
 ·rw [List.getElem?_set_ne e]
end Go.Proofs.YtflbneepngjglaaGreatDoor
