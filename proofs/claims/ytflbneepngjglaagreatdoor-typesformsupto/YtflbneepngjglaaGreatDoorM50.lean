/- Values made plain: the document's spare. -/
import Derived.Test.YtflbneepngjglaaGreatDoorM49
set_option linter.all false
namespace Go.Proofs.YtflbneepngjglaaGreatDoor
open Go Go.Avm
def SpareOk (m : Md) (f : Ty->Val->Option Val) (S : AV) (h : Avm.H) (v : Val) (i : Nat) (x : Val) (b : Ty) : Prop:=
 ∀ t' y,partO b v i x=some t'->f t' x=some y->∀ ws g,Qb cfg ws 76 [m.enc,t'.enc,x.enc,S] (h++g)=some (y.enc,h++g)
set_option maxHeartbeats 3000000 in
theorem spare_list (m : Md) (b : Ty) (q7 : b.kind=7) (v : Val) (hv : v.size<=1048576) (hin : PartIn b v) (F : Ty->Val->Option Val) (l : List Val) (hl : mapIO (eachO b v F) 0 v.items=some l) (S : AV) (h : Avm.H)
    (hP : ∀ (i : Nat) x,v.items[i]? = some x->SpareOk m F S h v i x b) :
    Qa (evC (Qb cfg) Qa cfg.pol h.length h.length c76L0) [3,4,5,6,8,9,10] [(3,S),(4,.ptr h.length 0 2 0 0),(5,.ptr (h.length + 1) 0 8 0 0),(6,.ptr (h.length + 2) 0 4 0 0),(8,.ptr (h.length + 3) 0 4 0 0),(9,.ptr (h.length + 5) 0 4 0 0),(10,.int .i64 (0 : Nat))]
     (h++[.arr 0 2 [m.enc],.arr 0 8 [b.enc],.arr 0 4 [v.enc],.arr 0 4 [.agg [.int .i64 0,.int .i64 0,.str ⟨#[]⟩,.isl []]],.arr 0 4 (v.items.map Val.enc),.arr 0 4 [.agg [.int .i64 v.kind,.int .i64 v.int,.str v.bytes,.osl (h.length + 4) 0 4 0 v.items.length]]]) =
    some (.exit 1,[(3,S),(4,.ptr h.length 0 2 0 0),(5,.ptr (h.length + 1) 0 8 0 0),(6,.ptr (h.length + 2) 0 4 0 0),(8,.ptr (h.length + 3) 0 4 0 0),(9,.ptr (h.length + 5) 0 4 0 0),(10,.int .i64 v.items.length)],
     h++[.arr 0 2 [m.enc],.arr 0 8 [b.enc],.arr 0 4 [v.enc],.arr 0 4 [.agg [.int .i64 0,.int .i64 0,.str ⟨#[]⟩,.isl []]],.arr 0 4 (l.map Val.enc),.arr 0 4 [.agg [.int .i64 v.kind,.int .i64 v.int,.str v.bytes,.osl (h.length + 4) 0 4 0 v.items.length]]]):=by
 have hse:=v.size_eq
 have hlen:=Val.QX v.items
 obtain ⟨hll,hget⟩:=mapIO_get hl
 have hlp:=Qz (f:=evC (Qb cfg) Qa cfg.pol h.length h.length c76L0) (keep:=[3,4,5,6,8,9,10]) v.items
  (fun i=>[(3,S),(4,.ptr h.length 0 2 0 0),(5,.ptr (h.length + 1) 0 8 0 0),(6,.ptr (h.length + 2) 0 4 0 0),(8,.ptr (h.length + 3) 0 4 0 0),(9,.ptr (h.length + 5) 0 4 0 0),(10,.int .i64 i)])
  (fun i=>h++[.arr 0 2 [m.enc],.arr 0 8 [b.enc],.arr 0 4 [v.enc],.arr 0 4 [.agg [.int .i64 0,.int .i64 0,.str ⟨#[]⟩,.isl []]],.arr 0 4 ((l.take i++v.items.drop i).map Val.enc),.arr 0 4 [.agg [.int .i64 v.kind,.int .i64 v.int,.str v.bytes,.osl (h.length + 4) 0 4 0 v.items.length]]])
  (fun _ _=>(.exit 1,[(3,S),(4,.ptr h.length 0 2 0 0),(5,.ptr (h.length + 1) 0 8 0 0),(6,.ptr (h.length + 2) 0 4 0 0),(8,.ptr (h.length + 3) 0 4 0 0),(9,.ptr (h.length + 5) 0 4 0 0),(10,.int .i64 v.items.length)],
   h++[.arr 0 2 [m.enc],.arr 0 8 [b.enc],.arr 0 4 [v.enc],.arr 0 4 [.agg [.int .i64 0,.int .i64 0,.str ⟨#[]⟩,.isl []]],.arr 0 4 (l.map Val.enc),.arr 0 4 [.agg [.int .i64 v.kind,.int .i64 v.int,.str v.bytes,.osl (h.length + 4) 0 4 0 v.items.length]]])) ?_ ?_
 ·exact hlp
 ·intro i x r hd hi hx K hK
  have hw:=Qd (n:=i + 1) (by omega)
  simp at hw
  obtain ⟨y,hy,hfy⟩:=hget i x (by rw [List.getElem?_eq_getElem hi,hx])
  rw [Nat.zero_add] at hfy
  have hg:=mid_get Val.enc l v.items hll i hi
  rw [hx] at hg
  have hs:=mid_set Val.enc l v.items hll i hi y hy
  have hml:=mid_len l v.items hll i (Nat.le_of_lt hi)
  rw [← hs] at hK
  have hel : ((l.take i++v.items.drop i).map Val.enc).length=v.items.length:=by rw [List.length_map,hml]
  generalize ((l.take i++v.items.drop i).map Val.enc)=els at hK hg hel ⊢
  obtain ⟨hilx,hgi⟩:=List.getElem?_eq_some_iff.1 hg
  have hpo : partO b v i x=some (b.kids.headD Ty.zero):=by unfold partO; rw [if_pos q7]
  unfold eachO at hfy
  rw [hpo] at hfy
  have hcall:=hP i x (by rw [List.getElem?_eq_getElem hi,hx]) _ _ hpo hfy
  obtain ⟨k0,kr,hkids⟩ : ∃ k0 kr,b.kids=k0 :: kr:=by
   cases hk : b.kids with
   | nil=>exact absurd hk (hin.list q7)
   | cons a r=>exact ⟨a,r,rfl⟩
  rw [hkids] at hcall
  simp only [List.headD_cons] at hcall
  simp only [Md.enc] at hcall hK
  simp [q7,hkids] at hcall hK
  simp [c76L0,Md.enc,hi,hx,hgi,hel,q7,hkids,hcall,hw,hK]
 ·intro K
  have he : l.take v.items.length++v.items.drop v.items.length=l:=by rw [List.take_of_length_le (by omega),List.drop_eq_nil_of_le (Nat.le_refl _),List.append_nil]
  rw [he]
  simp [c76L0,Md.enc]
set_option maxHeartbeats 3000000 in
theorem spare_record (m : Md) (b : Ty) (q8 : b.kind=8) (v : Val) (hv : v.size<=1048576) (hin : PartIn b v) (F : Ty->Val->Option Val) (hFk : ∀ t x y,F t x=some y->y.kind=x.kind) (hFs : ∀ t x y,F t x=some y->y.size<=x.size) (D : It->Option Val) (l r : List Val) (hl : mapIO (eachO b v F) 0 v.items=some l) (hr : mapIO (fun i x=>normO D (b.items[i]?.getD It.zero) x) 0 l=some r) (S : AV) (h : Avm.H)
    (hP : ∀ (i : Nat) x,v.items[i]? = some x->SpareOk m F S h v i x b)
    (hD : ∀ x ∈ b.items,x.Qv ≠ []->∀ d,D x=some d->∀ ws g,Qb cfg ws 140 [m.enc,x.enc,S] (h++g)=some (d.enc,h++g)) :
    ∃ g,Qa (evC (Qb cfg) Qa cfg.pol h.length h.length c76L1) [3,4,5,6,8,9,11] [(3,S),(4,.ptr h.length 0 2 0 0),(5,.ptr (h.length + 1) 0 8 0 0),(6,.ptr (h.length + 2) 0 4 0 0),(8,.ptr (h.length + 3) 0 4 0 0),(9,.ptr (h.length + 5) 0 4 0 0),(11,.int .i64 (0 : Nat))]
     (h++([.arr 0 2 [m.enc],.arr 0 8 [b.enc],.arr 0 4 [v.enc],.arr 0 4 [.agg [.int .i64 0,.int .i64 0,.str ⟨#[]⟩,.isl []]],.arr 0 4 (v.items.map Val.enc),.arr 0 4 [.agg [.int .i64 v.kind,.int .i64 v.int,.str v.bytes,.osl (h.length + 4) 0 4 0 v.items.length]]]++[])) =
    some (.exit 3,[(3,S),(4,.ptr h.length 0 2 0 0),(5,.ptr (h.length + 1) 0 8 0 0),(6,.ptr (h.length + 2) 0 4 0 0),(8,.ptr (h.length + 3) 0 4 0 0),(9,.ptr (h.length + 5) 0 4 0 0),(11,.int .i64 v.items.length)],
     h++([.arr 0 2 [m.enc],.arr 0 8 [b.enc],.arr 0 4 [v.enc],.arr 0 4 [.agg [.int .i64 0,.int .i64 0,.str ⟨#[]⟩,.isl []]],.arr 0 4 (r.map Val.enc),.arr 0 4 [.agg [.int .i64 v.kind,.int .i64 v.int,.str v.bytes,.osl (h.length + 4) 0 4 0 v.items.length]]]++g)):=by
 have hse:=v.size_eq
 have hlen:=Val.QX v.items
 obtain ⟨hll,hget⟩:=mapIO_get hl
 obtain ⟨hrl,hget2⟩:=mapIO_get hr
 have hlp:=Qi (γ:=Avm.H) (f:=evC (Qb cfg) Qa cfg.pol h.length h.length c76L1) (keep:=[3,4,5,6,8,9,11]) v.items (fun _ _=>True)
  (fun i _=>[(3,S),(4,.ptr h.length 0 2 0 0),(5,.ptr (h.length + 1) 0 8 0 0),(6,.ptr (h.length + 2) 0 4 0 0),(8,.ptr (h.length + 3) 0 4 0 0),(9,.ptr (h.length + 5) 0 4 0 0),(11,.int .i64 i)])
  (fun i g=>h++([.arr 0 2 [m.enc],.arr 0 8 [b.enc],.arr 0 4 [v.enc],.arr 0 4 [.agg [.int .i64 0,.int .i64 0,.str ⟨#[]⟩,.isl []]],.arr 0 4 ((r.take i++v.items.drop i).map Val.enc),.arr 0 4 [.agg [.int .i64 v.kind,.int .i64 v.int,.str v.bytes,.osl (h.length + 4) 0 4 0 v.items.length]]]++g))
  (fun _ _ o=>∃ g,o=(.exit 3,[(3,S),(4,.ptr h.length 0 2 0 0),(5,.ptr (h.length + 1) 0 8 0 0),(6,.ptr (h.length + 2) 0 4 0 0),(8,.ptr (h.length + 3) 0 4 0 0),(9,.ptr (h.length + 5) 0 4 0 0),(11,.int .i64 v.items.length)],
   h++([.arr 0 2 [m.enc],.arr 0 8 [b.enc],.arr 0 4 [v.enc],.arr 0 4 [.agg [.int .i64 0,.int .i64 0,.str ⟨#[]⟩,.isl []]],.arr 0 4 (r.map Val.enc),.arr 0 4 [.agg [.int .i64 v.kind,.int .i64 v.int,.str v.bytes,.osl (h.length + 4) 0 4 0 v.items.length]]]++g))) ?_ ?_ [] trivial
 ·obtain ⟨o,h1,g,rfl⟩:=hlp
  exact ⟨g,h1⟩
 ·intro i x rr g hd hi hx _ K hK
  have hw:=Qd (n:=i + 1) (by omega)
  simp at hw
  have hxs : x.size<=1048576:=by have:=Val.Qw (v:=v) (x:=x) (by rw [← hx]; exact List.getElem_mem hi); omega
  obtain ⟨z,hz,hfz⟩:=hget i x (by rw [List.getElem?_eq_getElem hi,hx])
  obtain ⟨y,hy,hfy⟩:=hget2 i z hz
  rw [Nat.zero_add] at hfy hfz
  have hib : i < b.items.length:=by rw [← hin.record q8]; exact hi
  obtain ⟨t,ht⟩ : ∃ t,b.items[i]=t:=⟨_,rfl⟩
  have htm : t ∈ b.items:=by rw [← ht]; exact List.getElem_mem hib
  rw [List.getElem?_eq_getElem hib,ht] at hfy
  simp only [Option.getD_some] at hfy
  have hg:=mid_get Val.enc r v.items (by omega) i hi
  rw [hx] at hg
  have hs:=mid_set Val.enc r v.items (by omega) i hi y hy
  have hml:=mid_len r v.items (by omega) i (Nat.le_of_lt hi)
  obtain ⟨o,h4,h5⟩:=hK (g++[.arr 0 12 [t.enc]]) trivial
  refine ⟨o,?_,h5⟩
  rw [← hs] at h4
  have hel : ((r.take i++v.items.drop i).map Val.enc).length=v.items.length:=by rw [List.length_map,hml]
  generalize ((r.take i++v.items.drop i).map Val.enc)=els at hg h4 hel ⊢
  obtain ⟨hilx,hgi⟩:=List.getElem?_eq_some_iff.1 hg
  by_cases q12 : x.kind=12
  ·have hpo : partO b v i x=none:=by unfold partO; simp [q8,q12]
   unfold eachO at hfz
   rw [hpo] at hfz
   injection hfz with hfz
   subst hfz
   unfold normO at hfy
   rw [if_neg (by simp [q12])] at hfy
   injection hfy with hfy
   subst hfy
   have hset : els.set i x.enc=els:=set_same hg
   rw [hset] at h4
   simp only [Md.enc] at h4
   simp [q8] at h4
   simp [c76L1,Md.enc,hi,hib,ht,hx,hgi,hel,q8,q12,hw,h4]
  ·have hpo : partO b v i x=some t.of:=by unfold partO; simp [q8,q12,List.getElem?_eq_getElem hib,ht]
   unfold eachO at hfz
   rw [hpo] at hfz
   have hcall:=hP i x (by rw [List.getElem?_eq_getElem hi,hx]) _ _ hpo hfz
   have hzk:=hFk _ _ _ hfz
   have hzs:=hFs _ _ _ hfz
   simp only [Md.enc] at hcall h4
   simp [q8] at hcall h4
   unfold normO at hfy
   cases hq : t.Qv with
   | nil=>
    rw [if_neg (by simp [hq])] at hfy
    injection hfy with hfy
    subst hfy
    simp [hq] at h4
    simp [c76L1,Md.enc,hi,hib,ht,hx,hgi,hel,q8,q12,hq,hcall,hw,h4]
   | cons d1 dr=>
    rw [if_pos ⟨by simp [hq],by rw [hzk]; exact q12⟩] at hfy
    split at hfy
    ·rename_i d hdd
     injection hfy with hfy
     have e1:=fun ws g=>hD t htm (by simp [hq]) d hdd ws g
     have e2:=fun ws h=>rsameV_ok _ z d (Nat.le_refl _) (by omega) ws h
     have hgt : (0 : Int) < dr.length + 1:=by omega
     simp only [Md.enc] at e1
     by_cases hsm : z.same d=true
     ·rw [if_pos hsm] at hfy
      subst hfy
      rw [hsm] at e2
      simp [absV,hq] at h4
      simp [q8,hq] at e1 e2
      simp [c76L1,Md.enc,hi,hib,ht,hx,hgi,hel,q8,q12,hq,hgt,hcall,e1,e2,hw,h4,List.set_set]
     ·rw [if_neg hsm] at hfy
      subst hfy
      have hsm : z.same d=false:=by simpa using hsm
      rw [hsm] at e2
      simp [hq] at h4
      simp [q8,hq] at e1 e2
      simp [c76L1,Md.enc,hi,hib,ht,hx,hgi,hel,q8,q12,hq,hgt,hcall,e1,e2,hw,h4]
    ·cases hfy
 ·intro g K _
  refine ⟨_,?_,g,rfl⟩
  have he : r.take v.items.length++v.items.drop v.items.length=r:=by rw [List.take_of_length_le (by omega),List.drop_eq_nil_of_le (Nat.le_refl _),List.append_nil]
  rw [he]
  simp [c76L1,Md.enc]
theorem mapIO_none {f : Nat->Val->Option Val} : ∀ {l r : List Val} {i : Nat},(∀ (j : Nat) x,l[j]? = some x->f (i + j) x=some x)->mapIO f i l=some r->r=l
 | [],r,i,_,h=>by simp [mapIO] at h; exact h
 | a :: l,r,i,hf,h=>by
  have h0:=hf 0 a rfl
  rw [Nat.add_zero] at h0
  unfold mapIO at h
  rw [h0] at h
  split at h
  ·rename_i y l' h1 h2
   injection h1 with h1; injection h with h
   subst h1
   have:=mapIO_none (l:=l) (r:=l') (i:=i + 1) (fun j x hj=>by
    have:=hf (j + 1) x (by simpa using hj)
    rw [show i + 1 + j=i + (j + 1) by omega]; exact this) h2
   rw [← h,this]
  ·cases h
theorem mapIO_nil {f : Nat->Val->Option Val} {r : List Val} {i : Nat} (h : mapIO f i []=some r) : r=[]:=by simp [mapIO] at h; exact h
set_option maxHeartbeats 4000000 in
theorem spare_ok {m : Md} {S : List (Ty × Val)} (M : m.fine S) (hS : S.length<=1048575) (hSs : ∀ q ∈ S,q.2.size<=1048576) : ∀ (n : Nat) (u : List (Ty × Val)) (t : Ty) (v r : Val),Xo m n u t v=some r->t.fine m S->(∃ k,Xw m k t v=true)->v.size<=1048576->(∀ q ∈ u,WayOk q)->u.length + rest S u<=S.length ->
    ∀ W h,WaysAt h W u->∀ ws,Qb cfg ws 76 [m.enc,t.enc,v.enc,W] h=some (r.enc,h)
 | 0,_,_,_,_,h,_,_,_,_,_,_,_,_,_=>by cases h
 | n + 1,u,t,v,r,hp,T,⟨k,hk⟩,hv,hu,hlen,W,h,A,ws=>by
  cases k with
  | zero=>cases hk
  | succ k=>
  cases hb : beh m 21 t with
  | none=>unfold Xw at hk; rw [hb] at hk; cases hk
  | some b=>
  obtain ⟨B,hb10⟩:=T.beh M hb
  obtain ⟨hkind,hin,hsub⟩:=fits_parts m hk hb (QO B.right)
  unfold Xo at hp
  rw [hb] at hp
  simp only [Option.getD_some] at hp
  have hse:=v.size_eq
  have hvl:=Val.QX v.items
  have hroot:=fun ws h=>root_beh m M.ok M.lim M.fm t T.wid T.nodes ws h
  have hcopy:=fun ws h=>copyO_ok _ v (Nat.le_refl _) hv ws h
  rw [hb] at hroot
  split at hp
  ·cases hp
  ·rename_i l hl
   obtain ⟨hll,hlget⟩:=mapIO_get hl
   have hitem : ∀ (i : Nat) x,v.items[i]? = some x->x.size<=1048576:=fun i x hx=>by
    have:=Val.Qw (List.mem_of_getElem? hx); omega
   have hP : ∀ (i : Nat) x,v.items[i]? = some x->SpareOk m (Xo m n u) W h v i x b:=fun i x hx t' y hpo hy ws g=>
    spare_ok M hS hSs n u t' x y hy (partO_fine B hpo) ⟨k,hsub i x t' hx hpo⟩ (hitem i x hx) hu hlen W (h++g) (A.more g) ws
   have hWp : norm W=W:=by
    rcases A with ⟨_,rfl⟩ | ⟨c,ver,_,rfl,_⟩ <;> rfl
   unfold norm at hWp
   have hWo : W.one=true:=by
    rcases A with ⟨_,rfl⟩ | ⟨c,ver,_,rfl,_⟩ <;> rfl
   have hD : b.kind=8->∀ x ∈ b.items,x.Qv ≠ []->∀ d,setO (Xo m n) u x=some d->∀ ws g,Qb cfg ws 140 [m.enc,x.enc,W] (h++g)=some (d.enc,h++g):=fun q8 x hx hd d hset ws g=>by
    obtain ⟨dd,h1,h2,h3,h4⟩:=goodP_iff.1 (QO B.good) q8 x hx hd
    have hxin : x.of ∈ b.inner:=by unfold Ty.inner Ty.comp; rw [q8]; exact List.mem_append_right _ (List.mem_map_of_mem hx)
    have hxo : ItOk x:=⟨(B.inner hxin).wid,dd,[],h1,hSs _ h2⟩
    have hd0:=d0_eq h1
    refine rdef_ok m x hxo u hu (by omega) (Xo m n) d hset (fun hmet d' hd' W' H' A' ws'=>?_) W (h++g) (A.more g) ws
    have hkx : keyI x=(x.of,dd):=by unfold keyI; rw [hd0]
    refine spare_ok M hS hSs n (u++[keyI x]) x.of x.d0 d' hd' (B.inner hxin) ⟨dd.size,by rw [hd0]; exact h3⟩ (by rw [hd0]; exact hSs _ h2) (fun q hq=>?_) ?_ W' H' A' ws'
    ·rcases List.mem_append.1 hq with hq | hq
     ·exact hu q hq
     ·simp at hq; subst hq
      rw [hkx]
      exact ⟨(B.inner hxin).wid,hSs _ h2⟩
    ·rw [hd0] at hmet
     have:=rest_lt (u:=u) h2 hmet
     rw [hkx]
     simp only [List.length_append,List.length_singleton]
     omega
   refine Qc rfl rfl ?_
   by_cases h0 : v.items=[]
   ·
    have hl0 : l=[]:=by rw [h0] at hl; exact mapIO_nil hl
    have hr0 : r=v:=by
     subst hl0
     split at hp
     ·rename_i q8
      simp [mapIO] at hp
      rw [← hp,← h0]; exact v.eta
     ·injection hp with hp
      rw [← hp,← h0]; exact v.eta
    subst hr0
    simp only [cpV,cpH,if_pos h0] at hcopy
    have q9 : ¬ b.kind=9:=fun q=>by
     unfold Xw at hk; rw [hb] at hk
     simp only [Bool.and_eq_true,decide_eq_true_eq] at hk
     have:=hk.2
     unfold fitS at this
     simp [q,h0] at this
    simp [h0] at hcopy hroot
    simp only [Md.enc] at hroot
    have eL : Qa (evC (Qb cfg) Qa cfg.pol h.length h.length c76L0) [3,4,5,6,8,9,10] [(3,W),(4,.ptr h.length 0 2 0 0),(5,.ptr (h.length + 1) 0 8 0 0),(6,.ptr (h.length + 2) 0 4 0 0),(8,.ptr (h.length + 3) 0 4 0 0),(9,.ptr (h.length + 4) 0 4 0 0),(10,.int .i64 (0 : Nat))]
        (h++[.arr 0 2 [m.enc],.arr 0 8 [b.enc],.arr 0 4 [r.enc],.arr 0 4 [.agg [.int .i64 0,.int .i64 0,.str ⟨#[]⟩,.isl []]],.arr 0 4 [r.enc]]) =
     some (.exit 1,[(3,W),(4,.ptr h.length 0 2 0 0),(5,.ptr (h.length + 1) 0 8 0 0),(6,.ptr (h.length + 2) 0 4 0 0),(8,.ptr (h.length + 3) 0 4 0 0),(9,.ptr (h.length + 4) 0 4 0 0),(10,.int .i64 (0 : Nat))],
      h++[.arr 0 2 [m.enc],.arr 0 8 [b.enc],.arr 0 4 [r.enc],.arr 0 4 [.agg [.int .i64 0,.int .i64 0,.str ⟨#[]⟩,.isl []]],.arr 0 4 [r.enc]]):=by
     have hlp:=Qz (f:=evC (Qb cfg) Qa cfg.pol h.length h.length c76L0) (keep:=[3,4,5,6,8,9,10]) ([] : List Val)
      (fun i=>[(3,W),(4,.ptr h.length 0 2 0 0),(5,.ptr (h.length + 1) 0 8 0 0),(6,.ptr (h.length + 2) 0 4 0 0),(8,.ptr (h.length + 3) 0 4 0 0),(9,.ptr (h.length + 4) 0 4 0 0),(10,.int .i64 i)])
      (fun _=>h++[.arr 0 2 [m.enc],.arr 0 8 [b.enc],.arr 0 4 [r.enc],.arr 0 4 [.agg [.int .i64 0,.int .i64 0,.str ⟨#[]⟩,.isl []]],.arr 0 4 [r.enc]])
      (fun _ _=>(.exit 1,[(3,W),(4,.ptr h.length 0 2 0 0),(5,.ptr (h.length + 1) 0 8 0 0),(6,.ptr (h.length + 2) 0 4 0 0),(8,.ptr (h.length + 3) 0 4 0 0),(9,.ptr (h.length + 4) 0 4 0 0),(10,.int .i64 (0 : Nat))],
       h++[.arr 0 2 [m.enc],.arr 0 8 [b.enc],.arr 0 4 [r.enc],.arr 0 4 [.agg [.int .i64 0,.int .i64 0,.str ⟨#[]⟩,.isl []]],.arr 0 4 [r.enc]])) ?_ ?_
     ·exact hlp
     ·intro i x rr _ hi; simp at hi
     ·intro K
      simp [c76L0,Md.enc,h0]
    have eR : Qa (evC (Qb cfg) Qa cfg.pol h.length h.length c76L1) [3,4,5,6,8,9,11] [(3,W),(4,.ptr h.length 0 2 0 0),(5,.ptr (h.length + 1) 0 8 0 0),(6,.ptr (h.length + 2) 0 4 0 0),(8,.ptr (h.length + 3) 0 4 0 0),(9,.ptr (h.length + 4) 0 4 0 0),(11,.int .i64 (0 : Nat))]
        (h++[.arr 0 2 [m.enc],.arr 0 8 [b.enc],.arr 0 4 [r.enc],.arr 0 4 [.agg [.int .i64 0,.int .i64 0,.str ⟨#[]⟩,.isl []]],.arr 0 4 [r.enc]]) =
     some (.exit 3,[(3,W),(4,.ptr h.length 0 2 0 0),(5,.ptr (h.length + 1) 0 8 0 0),(6,.ptr (h.length + 2) 0 4 0 0),(8,.ptr (h.length + 3) 0 4 0 0),(9,.ptr (h.length + 4) 0 4 0 0),(11,.int .i64 (0 : Nat))],
      h++[.arr 0 2 [m.enc],.arr 0 8 [b.enc],.arr 0 4 [r.enc],.arr 0 4 [.agg [.int .i64 0,.int .i64 0,.str ⟨#[]⟩,.isl []]],.arr 0 4 [r.enc]]):=by
     have hlp:=Qz (f:=evC (Qb cfg) Qa cfg.pol h.length h.length c76L1) (keep:=[3,4,5,6,8,9,11]) ([] : List Val)
      (fun i=>[(3,W),(4,.ptr h.length 0 2 0 0),(5,.ptr (h.length + 1) 0 8 0 0),(6,.ptr (h.length + 2) 0 4 0 0),(8,.ptr (h.length + 3) 0 4 0 0),(9,.ptr (h.length + 4) 0 4 0 0),(11,.int .i64 i)])
      (fun _=>h++[.arr 0 2 [m.enc],.arr 0 8 [b.enc],.arr 0 4 [r.enc],.arr 0 4 [.agg [.int .i64 0,.int .i64 0,.str ⟨#[]⟩,.isl []]],.arr 0 4 [r.enc]])
      (fun _ _=>(.exit 3,[(3,W),(4,.ptr h.length 0 2 0 0),(5,.ptr (h.length + 1) 0 8 0 0),(6,.ptr (h.length + 2) 0 4 0 0),(8,.ptr (h.length + 3) 0 4 0 0),(9,.ptr (h.length + 4) 0 4 0 0),(11,.int .i64 (0 : Nat))],
       h++[.arr 0 2 [m.enc],.arr 0 8 [b.enc],.arr 0 4 [r.enc],.arr 0 4 [.agg [.int .i64 0,.int .i64 0,.str ⟨#[]⟩,.isl []]],.arr 0 4 [r.enc]])) ?_ ?_
     ·exact hlp
     ·intro i x rr _ hi; simp at hi
     ·intro K
      simp [c76L1,Md.enc,h0]
    simp only [Md.enc] at eL eR
    by_cases q7 : b.kind=7
    ·simp [h0,q7] at eL hroot
     simp [F76,c76,Md.enc,hWp,hWo,h0,hroot,hcopy,q7,eL]
    ·by_cases q8 : b.kind=8
     ·simp [h0,q8] at eR hroot
      simp [F76,c76,Md.enc,hWp,hWo,h0,hroot,hcopy,q8,eR]
     ·simp [F76,c76,Md.enc,hWp,hWo,h0,hroot,hcopy,q7,q8,q9]
   ·simp only [cpV,cpH,if_neg h0] at hcopy
    simp at hcopy hroot
    simp only [Md.enc] at hroot
    by_cases q7 : b.kind=7
    ·rw [if_neg (by omega)] at hp
     injection hp with hp
     have eL:=spare_list m b q7 v hv hin (Xo m n u) l hl W h hP
     have htk : (l.map Val.enc).take v.items.length=l.map Val.enc:=List.take_of_length_le (by simp; omega)
     subst hp
     simp only [Md.enc] at eL
     simp [q7] at eL hroot
     simp [F76,c76,Md.enc,hWp,hWo,hroot,hcopy,q7,eL,hll,htk]
    ·by_cases q8 : b.kind=8
     ·rw [if_pos q8] at hp
      split at hp
      ·rename_i r' hr'
       injection hp with hp
       subst hp
       obtain ⟨hrl,_⟩:=mapIO_get hr'
       obtain ⟨g,eR⟩:=spare_record m b q8 v hv hin (Xo m n u) (fun t x y hy=>plainN_kind hy) (fun t x y hy=>plainN_size hy) (setO (Xo m n) u) l r' hl hr' W h hP (hD q8)
       have htk : (r'.map Val.enc).take v.items.length=r'.map Val.enc:=List.take_of_length_le (by simp; omega)
       have hrn : r'.length=v.items.length:=by omega
       simp only [Md.enc] at eR
       simp [q8] at eR hroot
       simp [F76,c76,Md.enc,hWp,hWo,hroot,hcopy,q8,eR,hrn,htk]
      ·cases hp
     ·rw [if_neg q8] at hp
      injection hp with hp
      subst hp
      have htk : (l.map Val.enc).take v.items.length=l.map Val.enc:=List.take_of_length_le (by simp; omega)
      by_cases q9 : b.kind=9
      ·obtain ⟨hc1,hc2⟩:=hin.choice q9
       obtain ⟨x,xr,hx⟩ : ∃ x xr,v.items=x :: xr:=by
        cases hx : v.items with
        | nil=>exact absurd hx h0
        | cons a q=>exact ⟨a,q,rfl⟩
       have hxr : xr=[]:=by
        unfold Xw at hk; rw [hb] at hk
        simp only [Bool.and_eq_true,decide_eq_true_eq] at hk
        have:=hk.2
        unfold fitS at this
        simp [q9,hx] at this
        exact this.2.2.1
       subst hxr
       obtain ⟨y,hy,hfy⟩:=hlget 0 x (by rw [hx]; rfl)
       have hly : l=[y]:=by
        cases hl' : l with
        | nil=>rw [hl'] at hy; cases hy
        | cons a q=>
         rw [hl',hx] at hll
         simp at hll
         rw [hl'] at hy; simp at hy
         rw [hy,hll]
       have hpo : partO b v 0 x=some b.items[v.int.toNat].of:=by unfold partO; simp [q9,List.getElem?_eq_getElem hc2]
       unfold eachO at hfy
       rw [Nat.zero_add,hpo] at hfy
       have hcall:=hP 0 x (by rw [hx]; rfl) _ _ hpo hfy
       simp only [Md.enc] at hcall
       simp [q9,hx] at hcall hroot hcopy
       simp [F76,c76,Md.enc,hWp,hWo,hroot,hcopy,q9,hx,hly,hc1,hc2,hcall]
      ·have hl' : l=v.items:=mapIO_none (fun j x hj=>by unfold eachO partO; simp [q7,q8,q9]) hl
       subst hl'
       simp [F76,c76,Md.enc,hWp,hWo,hroot,hcopy,q7,q8,q9]
theorem spare0_ok {m : Md} {S : List (Ty × Val)} (M : m.fine S) (hS : S.length<=1048575) (hSs : ∀ q ∈ S,q.2.size<=1048576) (n : Nat) (t : Ty) (v r : Val) (hp : Xo m n [] t v=some r) (T : t.fine m S) (hk : ∃ k,Xw m k t v=true) (hv : v.size<=1048576) (ws : Nat) (h : Avm.H) :
    Qb cfg ws 42 [m.enc,t.enc,v.enc] h=some (r.enc,h):=by
 have hr : rest S []<=S.length:=List.length_filter_le _ _
 have e1:=fun ws h=>spare_ok M hS hSs n [] t v r hp T hk hv (by simp) (by simpa using hr) (.isl []) h (.inl ⟨rfl,rfl⟩) ws
 refine Qc rfl rfl ?_
 simp at e1
 simp only [Md.enc] at e1
 simp [F42,c42,Md.enc,e1]
end Go.Proofs.YtflbneepngjglaaGreatDoor
