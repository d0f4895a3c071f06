/- Values made plain: the program does what is said. -/
import Derived.Test.YtflbneepngjglaaGreatDoorR42
set_option linter.all false
namespace Go.Proofs.YtflbneepngjglaaGreatDoor
open Go Go.Avm
theorem mid_get {α β : Type} (enc : α→β) (l r : List α) (hl : l.length=r.length) (i : Nat) (hi : i < r.length) : ((l.take i++r.drop i).map enc)[i]? = some (enc r[i]):=by
 have h1 : (l.take i).length=i:=by simp; omega
 rw [List.getElem?_map,List.getElem?_append_right (by omega),h1,Nat.sub_self,List.getElem?_drop,Nat.add_zero,List.getElem?_eq_getElem hi]
 rfl
theorem mid_set {α β : Type} (enc : α→β) (l r : List α) (hl : l.length=r.length) (i : Nat) (hi : i < r.length) (y : α) (hy : l[i]? = some y) : ((l.take i++r.drop i).map enc).set i (enc y)=(l.take (i + 1)++r.drop (i + 1)).map enc:=by
 have h1 : (l.take i).length=i:=by simp; omega
 have h2 : l.take (i + 1)=l.take i++[y]:=by
  have hil : i < l.length:=by omega
  rw [List.take_succ_eq_append_getElem hil]
  rw [List.getElem?_eq_getElem hil] at hy
  injection hy with hy; rw [hy]
 rw [h2,List.drop_eq_getElem_cons hi,List.map_append,List.set_append_right _ _ (by simp; omega),List.length_map,h1,Nat.sub_self,List.map_cons,List.set_cons_zero]
 simp
theorem mid_len {α : Type} (l r : List α) (hl : l.length=r.length) (i : Nat) (hi : i≤r.length) : (l.take i++r.drop i).length=r.length:=by simp; omega
structure PartIn (b : Ty) (v : Val) : Prop where
 list : b.kind=7→b.kids ≠ []
 choice : b.kind=9→0≤v.int∧v.int.toNat < b.items.length
 record : b.kind=8→v.items.length=b.items.length
set_option maxHeartbeats 3000000 in
theorem each_ok (m : Md) (hm : m.ok) (t : Ty) (ht : t.wid≤67108864) (b : Ty) (hb : beh m 21 t=some b) (v : Val) (hv : v.size≤67108864) (hin : PartIn b v) (F : Ty→Val→Option Val) (l : List Val) (hl : mapIO (eachO b v F) 0 v.items=some l) (P : AV) (h : Avm.H)
    (hP : ∀ (i : Nat) x t' y,v.items[i]? = some x→partO b v i x=some t'→F t' x=some y→∀ ws g,callL cfg ws 40 [P,t'.enc,x.enc] (h++g)=some (y.enc,h++g)) (ws : Nat) :
    callL cfg ws 72 [m.enc,t.enc,v.enc,.clos 40 1 [P]] h=some (.agg [.int .i64 v.kind,.int .i64 v.int,.str v.bytes,.osl h.length 0 4 0 v.items.length],h++[.arr 0 4 (l.map Val.enc)]):=by
 have hse:=v.size_eq
 have hlen:=Val.len_sizeL v.items
 have hcl:=cloneV_ok v.items (by omega)
 have hbh:=fun ws h=>behind_ok m hm t ht ws h
 have hpol : cfg.pol 40=some (.pur false):=rfl
 obtain ⟨hll,hget⟩:=mapIO_get hl
 refine callL_fn rfl rfl ?_
 have hlp:=loop_post (γ:=Avm.H) (f:=evC (callL cfg) roundsL cfg.pol h.length h.length c72L0) (keep:=[3,5,6,8,22,23,24]) v.items (fun _ _=>True)
  (fun i _=>[(3,.clos 40 1 [P]),(5,.ptr (h.length + 1) 0 8 0 0),(6,.ptr (h.length + 2) 0 4 0 0),(8,.ptr (h.length + 3) 0 4 0 0),(22,.osl (h.length + 4) 0 4 0 v.items.length),(23,.int .i64 v.items.length),(24,.int .i64 i)])
  (fun i g=>h++([.arr 0 2 [m.enc],.arr 0 8 [b.enc],.arr 0 4 [.agg [.int .i64 v.kind,.int .i64 v.int,.str v.bytes,.osl (h.length + 4) 0 4 0 v.items.length]],.arr 0 4 [.agg [.int .i64 0,.int .i64 0,.str ⟨#[]⟩,.isl []]],.arr 0 4 ((l.take i++v.items.drop i).map Val.enc)]++g))
  (fun _ _ o=>∃ g,o=(.exit 0,[(3,.clos 40 1 [P]),(5,.ptr (h.length + 1) 0 8 0 0),(6,.ptr (h.length + 2) 0 4 0 0),(8,.ptr (h.length + 3) 0 4 0 0),(22,.osl (h.length + 4) 0 4 0 v.items.length),(23,.int .i64 v.items.length),(24,.int .i64 v.items.length)],
   h++([.arr 0 2 [m.enc],.arr 0 8 [b.enc],.arr 0 4 [.agg [.int .i64 v.kind,.int .i64 v.int,.str v.bytes,.osl (h.length + 4) 0 4 0 v.items.length]],.arr 0 4 [.agg [.int .i64 0,.int .i64 0,.str ⟨#[]⟩,.isl []]],.arr 0 4 (l.map Val.enc)]++g))) ?_ ?_ [] trivial
 ·obtain ⟨o,h1,g,rfl⟩:=hlp
  simp [hb] at hbh h1 hcl
  simp [Md.enc] at hbh h1
  simp [F72,c72,Md.enc,hbh,hcl,h1,hll]
 ·intro i x r g hd hi hx _ K hK
  have hw:=wrap_nat (n:=i + 1) (by omega)
  simp at hw
  have hmx : x ∈ v.items:=by rw [← hx]; exact List.getElem_mem hi
  obtain ⟨y,hy,hfy⟩:=hget i x (by rw [List.getElem?_eq_getElem hi,hx])
  rw [Nat.zero_add] at hfy
  have hg:=mid_get Val.enc l v.items hll i hi
  have hs:=mid_set Val.enc l v.items hll i hi y hy
  have hml:=mid_len l v.items hll i (Nat.le_of_lt hi)
  rw [hx] at hg
  obtain ⟨o,h4,h5⟩:=hK (g++[.arr 0 4 [x.enc]]) trivial
  refine ⟨o,?_,h5⟩
  rw [← hs] at h4
  have hel : ((l.take i++v.items.drop i).map Val.enc).length=v.items.length:=by rw [List.length_map,hml]
  generalize ((l.take i++v.items.drop i).map Val.enc)=els at hg h4 hel ⊢
  unfold eachO at hfy
  cases hpo : partO b v i x with
  | none=>
   rw [hpo] at hfy
   injection hfy with hfy
   subst hfy
   have hset : els.set i x.enc=els:=set_same hg
   rw [hset] at h4
   unfold partO at hpo
   split at hpo
   ·cases hpo
   ·rename_i q7
    split at hpo
    ·cases hpo
    ·rename_i q9
     split at hpo
     ·cases hpo
     ·rename_i q8
      simp at hg h4
      simp only [Md.enc] at h4
      by_cases q8k : b.kind=8
      ·have q12 : x.kind=12:=by simpa [q8k] using q8
       obtain ⟨hilx,hgi⟩:=List.getElem?_eq_some_iff.1 hg
       simp only [q8k,q12] at h4
       simp [c72L0,Md.enc,hi,hgi,hel,q7,q9,q8k,q12,hw,h4]
      ·obtain ⟨hilx,hgi⟩:=List.getElem?_eq_some_iff.1 hg
       simp [c72L0,Md.enc,hi,hgi,hel,q7,q9,q8k,hw,h4]
  | some t'=>
   rw [hpo] at hfy
   have hcall:=fun ws g=>hP i x t' y (by rw [List.getElem?_eq_getElem hi,hx]) hpo hfy ws g
   unfold partO at hpo
   split at hpo
   ·rename_i q7
    injection hpo with hpo
    obtain ⟨k0,kr,hkids⟩ : ∃ k0 kr,b.kids=k0 :: kr:=by
     cases hk : b.kids with
     | nil=>exact absurd hk (hin.list q7)
     | cons a r=>exact ⟨a,r,rfl⟩
    rw [hkids] at hpo
    simp only [List.headD_cons] at hpo
    subst hpo
    simp at hcall hg h4
    simp only [Md.enc] at h4
    obtain ⟨hilx,hgi⟩:=List.getElem?_eq_some_iff.1 hg
    simp [q7,hkids] at h4
    simp [c72L0,Md.enc,hi,hgi,hel,q7,hpol,hkids,hcall,hw,h4]
   ·rename_i q7
    split at hpo
    ·rename_i q9
     injection hpo with hpo
     obtain ⟨hc1,hc2⟩:=hin.choice q9
     rw [List.getElem?_eq_getElem hc2] at hpo
     simp only [Option.map_some,Option.getD_some] at hpo
     subst hpo
     simp at hcall hg h4
     simp only [Md.enc] at h4
     obtain ⟨hilx,hgi⟩:=List.getElem?_eq_some_iff.1 hg
     simp [q9] at h4
     simp [c72L0,Md.enc,hi,hgi,hel,q9,hpol,hc1,hc2,hcall,hw,h4]
    ·rename_i q9
     split at hpo
     ·rename_i q8
      injection hpo with hpo
      have hib : i < b.items.length:=by rw [← hin.record q8.1]; exact hi
      rw [List.getElem?_eq_getElem hib] at hpo
      simp only [Option.map_some,Option.getD_some] at hpo
      subst hpo
      simp at hcall hg h4
      simp only [Md.enc] at h4
      obtain ⟨hilx,hgi⟩:=List.getElem?_eq_some_iff.1 hg
      simp [q8.1] at h4
      simp [c72L0,Md.enc,hi,hgi,hel,q8.1,q8.2,hpol,hib,hcall,hw,h4]
     ·cases hpo
 ·intro g K _
  refine ⟨_,?_,g,rfl⟩
  have he : l.take v.items.length++v.items.drop v.items.length=l:=by rw [List.take_of_length_le (by omega),List.drop_eq_nil_of_le (Nat.le_refl _),List.append_nil]
  rw [he]
  simp [c72L0,Md.enc]
end Go.Proofs.YtflbneepngjglaaGreatDoor
namespace Go.Proofs.YtflbneepngjglaaGreatDoor
open Go Go.Avm
def keyI (x : It) : Ty × Val:=(x.of,x.d0)
def Recv (h : Avm.H) (P : AV) (m : Md) (xs : List It) : Prop:=
 ∃ b s,P = .ptr b 0 3 0 0∧b < h.length∧h[b]? = some (.arr 0 3 [.agg [.str m.name,.isl (m.defs.map Df.enc),s]]) ∧
  (s = .isl (xs.map It.enc) ∨ ∃ c ver,c < h.length∧s = .osl c ver 12 0 xs.length∧h[c]? = some (.arr ver 12 (xs.map It.enc)))
theorem Recv.more {h : Avm.H} {P : AV} {m : Md} {xs : List It} (R : Recv h P m xs) (g : Avm.H) : Recv (h++g) P m xs:=by
 obtain ⟨b,s,h1,h2,h3,h4⟩:=R
 refine ⟨b,s,h1,by simp; omega,by rw [List.getElem?_append_left h2]; exact h3,?_⟩
 rcases h4 with h4 | ⟨c,ver,h4,h5,h6⟩
 ·exact .inl h4
 ·exact .inr ⟨c,ver,by simp; omega,h5,by rw [List.getElem?_append_left h4]; exact h6⟩
structure ItOk (x : It) : Prop where
 wid : x.of.wid≤67108864
 some : ∃ d r,x.dflt=d :: r∧d.size≤67108864
theorem d0_eq {x : It} {d : Val} {r : List Val} (h : x.dflt=d :: r) : x.d0=d:=by unfold It.d0; rw [h]; rfl
theorem set1_ok (x y : It) (hx : ItOk x) (hy : ItOk y) (ws : Nat) (h : Avm.H) : callL cfg ws 132 [y.enc,.iptr x.cells] h=some (.bool (x.of.same y.of && x.d0.same y.d0),h):=by
 obtain ⟨hw,d,r,hd,hs⟩:=hx
 obtain ⟨hw2,d2,r2,hd2,hs2⟩:=hy
 rw [d0_eq hd,d0_eq hd2]
 have e1:=fun ws h=>sameType_ok x.of y.of hw ws h
 have e2:=fun ws h=>same_ok _ d d2 (Nat.le_refl _) hs ws h
 refine callL_fn rfl rfl ?_
 simp at e1 e2
 cases q : x.of.same y.of
 ·rw [q] at e1
  simp [F132,c132,It.cells_eq,hd,hd2,e1,e2]
 ·rw [q] at e1
  simp [F132,c132,It.cells_eq,hd,hd2,e1,e2]
def ItsAt (h : Avm.H) (s : AV) (xs : List It) : Prop:=s = .isl (xs.map It.enc) ∨ ∃ c ver,c < h.length∧s = .osl c ver 12 0 xs.length∧h[c]? = some (.arr ver 12 (xs.map It.enc))
theorem ItsAt.snap {h : Avm.H} {s : AV} {xs : List It} (A : ItsAt h s xs) (n : Nat) : Avm.snap h (n + 1) s=some (.isl (xs.map It.enc)):=by
 rcases A with rfl | ⟨c,ver,_,rfl,h3⟩
 ·unfold Avm.snap
  rw [if_pos (by simp)]
 ·have hl : Avm.look h c ver 12 0 xs.length=some (xs.map It.enc):=by
    unfold Avm.look
    rw [h3]
    simp
  unfold Avm.snap
  rw [if_neg (by simp)]
  dsimp only
  rw [hl]
  simp
theorem containsU_ok (x : It) (hx : ItOk x) (xs : List It) (hxs : ∀ y ∈ xs,ItOk y) (hl : xs.length≤67108864) (h : Avm.H) (s : AV) (A : ItsAt h s xs) (b : Nat) (hb : h[b]? = some (.arr 0 12 [x.enc])) (ws : Nat) :
    callL cfg ws 131 [s,.clos 132 0 [.ptr b 0 12 0 0]] h=some (.bool (metB (xs.map keyI) x.of x.d0),h):=by
 have h1 : callL cfg ws 131 [s,.clos 132 0 [.ptr b 0 12 0 0]] h=callL cfg ws 131 [.isl (xs.map It.enc),.clos 132 0 [.ptr b 0 12 0 0]] h:=by
  refine callL_snap rfl rfl rfl ?_
  have e1:=A.snap 7
  have e2:=(show ItsAt h (.isl (xs.map It.enc)) xs from .inl rfl).snap 7
  unfold snapL
  rw [show deep=7 + 1 from rfl,e1,e2]
 rw [h1]
 have h2:=containsI_ok (g:=132) (k:=0) (p:=fun y=>x.of.same y.of && x.d0.same y.d0) (cap:=[.ptr b 0 12 0 0]) (cap':=[.iptr x.cells]) xs hl (still_snap rfl) h
  (by
   have hc : snapL (Avm.snap h 6) x.cells=some x.cells:=snapL_pure (It.pure_cells x)
   unfold It.enc at hb
   unfold snapL snapL Avm.snap
   rw [if_neg (by simp)]
   simp [hb,hc]) (by simp [It.pure_cells x]) (fun y hy ws h=>by simpa using set1_ok x y hx (hxs y hy) ws h) ws
 rw [h2]
 unfold metB
 rw [List.any_map]
 rfl
theorem cloneI_at (xs : List It) (hl : xs.length≤67108864) (s : AV) (ws : Nat) (h : Avm.H) (A : ItsAt h s xs) : callL cfg ws 98 [s] h=some (.osl h.length 0 12 0 xs.length,h++[.arr 0 12 (xs.map It.enc)]):=by
 refine callL_ext rfl ?_
 have h1 : xs.length≤lim:=by unfold lim; omega
 rcases A with rfl | ⟨c,ver,_,rfl,h3⟩
 ·simp [cloneX,h1]
 ·have hlk : Avm.look h c ver 12 0 xs.length=some (xs.map It.enc):=by unfold Avm.look; rw [h3]; simp
  have he : elsOf h (.osl c ver 12 0 xs.length)=some (xs.map It.enc):=hlk
  simp only [cloneX,he]
  rw [if_pos ⟨by simpa using h1,by simp⟩]
  simp
theorem set_ok (m : Md) (x : It) (hx : ItOk x) (xs : List It) (hxs : ∀ y ∈ xs,ItOk y) (hl : xs.length≤67108863) (f : List (Ty × Val)→Ty→Val→Option Val) (d : Val) (hd : setO f (xs.map keyI) x=some d)
    (hpl : metB (xs.map keyI) x.of x.d0=false→∀ d,f (xs.map keyI++[keyI x]) x.of x.d0=some d→∀ P h,Recv h P m (xs++[x])→∀ ws,callL cfg ws 40 [P,x.of.enc,x.d0.enc] h=some (d.enc,h))
    (P : AV) (h : Avm.H) (R : Recv h P m xs) (ws : Nat) : callL cfg ws 73 [P,x.enc] h=some (d.enc,h):=by
 obtain ⟨b,s,rfl,hbl,hb,hA⟩:=R
 obtain ⟨_,d0,r0,hd0,hds⟩:=hx
 have hx' : ItOk x:=⟨by assumption,d0,r0,hd0,hds⟩
 have hbt : ∀ g : Avm.H,(h++g)[b]? = some (.arr 0 3 [.agg [.str m.name,.isl (m.defs.map Df.enc),s]]):=fun g=>by rw [List.getElem?_append_left hbl]; exact hb
 have hAt : ∀ g : Avm.H,ItsAt (h++g) s xs:=fun g=>by
  rcases hA with h4 | ⟨c,ver,h4,h5,h6⟩
  ·exact .inl h4
  ·exact .inr ⟨c,ver,by simp; omega,h5,by rw [List.getElem?_append_left h4]; exact h6⟩
 have hnorm : norm s=s:=by
  rcases hA with h4 | ⟨c,ver,h4,h5,h6⟩
  ·rw [h4]; rfl
  ·rw [h5]; rfl
 have hone : s.one=true:=by
  rcases hA with h4 | ⟨c,ver,h4,h5,h6⟩
  ·rw [h4]; rfl
  ·rw [h5]; rfl
 have e1:=fun ws=>containsU_ok x hx' xs hxs (by omega) (h++[.arr 0 12 [x.enc],.arr 0 4 [.agg [.int .i64 0,.int .i64 0,.str ⟨#[]⟩,.esl]]]) s (hAt _) h.length (by simp) ws
 have hbne : ∀ k,¬ b=h.length + k:=fun k=>by omega
 unfold setO at hd
 refine callL_fn rfl rfl ?_
 split at hd
 ·rename_i hmet
  injection hd with hd
  subst hd
  rw [hmet] at e1
  rw [d0_eq hd0]
  simp [hd0] at e1
  simp [F73,c73,hbt,e1,hd0]
 ·rename_i hmet
  have hmet : metB (xs.map keyI) x.of x.d0=false:=by simpa using hmet
  rw [hmet] at e1
  have e2:=fun ws=>cloneI_at xs (by omega) s ws (h++[.arr 0 12 [x.enc],.arr 0 4 [.agg [.int .i64 0,.int .i64 0,.str ⟨#[]⟩,.esl]],.arr 0 12 [x.enc]]) (hAt _)
  have e3:=fun ws=>hpl hmet d hd (.ptr (h.length + 4) 0 3 0 0) (h++[.arr 0 12 [x.enc],.arr 0 4 [.agg [.int .i64 0,.int .i64 0,.str ⟨#[]⟩,.esl]],.arr 0 12 [x.enc],.arr 1 12 ((xs++[x]).map It.enc),.arr 0 3 [.agg [.str m.name,.isl (m.defs.map Df.enc),.osl (h.length + 3) 1 12 0 (xs.length + 1)]]])
   ⟨h.length + 4,.osl (h.length + 3) 1 12 0 (xs.length + 1),rfl,by simp,by simp,.inr ⟨h.length + 3,1,by simp,by simp,by simp⟩⟩ ws
  have hlim : xs.length + 1≤4294967296:=by omega
  have hall : ∀ a ∈ xs,a.enc.cells.length=12:=fun a _=>by simp
  rw [d0_eq hd0] at e3
  simp [hd0] at e1 e2 e3
  simp [F73,c73,hbt,e1,e2,e3,hd0,hbne,appI,appended,bslP,hlim]
end Go.Proofs.YtflbneepngjglaaGreatDoor
namespace Go.Proofs.YtflbneepngjglaaGreatDoor
open Go Go.Avm
theorem fits_parts (m : Md) {n : Nat} {t : Ty} {v : Val} {b : Ty} (h : fitB m (n + 1) t v=true) (hb : beh m 21 t=some b) (hr : rightP b=true) :
    v.kind=b.kind∧PartIn b v∧∀ (i : Nat) x t',v.items[i]? = some x→partO b v i x=some t'→fitB m n t' x=true:=by
 unfold fitB at h
 rw [hb] at h
 simp only [Bool.and_eq_true,decide_eq_true_eq] at h
 obtain ⟨hk,hf⟩:=h
 unfold fitS at hf
 refine ⟨hk,⟨fun q=>?_,fun q=>?_,fun q=>?_⟩,fun i x t' hx hp=>?_⟩
 ·intro hn
  unfold rightP at hr
  simp [q,hn] at hr
 ·simp only [q] at hf
  simp [inP] at hf
  have:=hf.2.1
  omega
 ·simp only [q] at hf
  simp at hf
  exact hf.2.1
 ·unfold partO at hp
  split at hp
  ·rename_i q
   injection hp with hp; subst hp
   simp only [q] at hf
   simp at hf
   have:=hf.2.2 x (List.mem_of_getElem? hx)
   rw [List.headD_eq_head?_getD]
   exact this
  ·rename_i q7
   split at hp
   ·rename_i q
    injection hp with hp; subst hp
    simp only [q] at hf
    simp at hf
    obtain ⟨_,_,hl,hs⟩:=hf
    have h0 : i=0:=by have:=(List.getElem?_eq_some_iff.1 hx).1; omega
    subst h0
    have : v.items.headD (.mk 0 0 ⟨#[]⟩ [])=x:=by
     cases hv : v.items with
     | nil=>rw [hv] at hx; cases hx
     | cons a r=>rw [hv] at hx; simp at hx; subst hx; rfl
    simp only [List.headD_eq_head?_getD] at this
    rw [this] at hs
    simpa using hs
   ·rename_i q9
    split at hp
    ·rename_i q
     injection hp with hp; subst hp
     obtain ⟨q8,q12⟩:=q
     simp only [q8] at hf
     simp at hf
     obtain ⟨_,hl,hs⟩:=hf
     have hi:=(List.getElem?_eq_some_iff.1 hx).1
     have hib : i < b.items.length:=by omega
     have hmem : (b.items[i],x) ∈ b.items.zip v.items:=by
      rw [List.mem_iff_getElem?]
      refine ⟨i,?_⟩
      rw [List.getElem?_zip_eq_some]
      exact ⟨List.getElem?_eq_getElem hib,hx⟩
     have hpb:=hs _ _ hmem
     unfold partB at hpb
     simp [q12] at hpb
     rw [List.getElem?_eq_getElem hib]
     exact hpb
    ·cases hp
set_option maxHeartbeats 3000000 in
theorem plain_loop {m : Md} {S : List (Ty × Val)} (M : m.fine S) (b : Ty) (B : b.fine m S) (q8 : b.kind=8) (t : Ty) (v : Val) (hv : v.size≤67108864) (xs : List It) (l r : List Val) (hlv : l.length=b.items.length) (hls : ∀ x ∈ l,x.size≤67108864)
    (f : List (Ty × Val)→Ty→Val→Option Val) (hr : mapIO (fun i x=>normO (setO f (xs.map keyI)) (b.items[i]?.getD It.zero) x) 0 l=some r) (P : AV) (h : Avm.H) (R : Recv h P m xs)
    (hset : ∀ x ∈ b.items,x.dflt ≠ []→∀ d,setO f (xs.map keyI) x=some d→∀ ws g,callL cfg ws 73 [P,x.enc] (h++g)=some (d.enc,h++g)) :
    ∃ g,roundsL (evC (callL cfg) roundsL cfg.pol h.length h.length c40L0) [0,5,6,34,35,36] [(0,P),(5,.ptr (h.length + 1) 0 4 0 0),(6,.ptr (h.length + 2) 0 4 0 0),(34,.isl (b.items.map It.enc)),(35,.int .i64 b.items.length),(36,.int .i64 (0 : Nat))]
     (h++([.arr 0 8 [t.enc],.arr 0 4 [.agg [.int .i64 v.kind,.int .i64 v.int,.str v.bytes,.osl (h.length + 3) 0 4 0 b.items.length]],.arr 0 4 [.agg [.int .i64 0,.int .i64 0,.str ⟨#[]⟩,.isl []]],.arr 0 4 (l.map Val.enc),.arr 0 8 [b.enc]]++[])) =
     some (.exit 0,[(0,P),(5,.ptr (h.length + 1) 0 4 0 0),(6,.ptr (h.length + 2) 0 4 0 0),(34,.isl (b.items.map It.enc)),(35,.int .i64 b.items.length),(36,.int .i64 b.items.length)],
      h++([.arr 0 8 [t.enc],.arr 0 4 [.agg [.int .i64 v.kind,.int .i64 v.int,.str v.bytes,.osl (h.length + 3) 0 4 0 b.items.length]],.arr 0 4 [.agg [.int .i64 0,.int .i64 0,.str ⟨#[]⟩,.isl []]],.arr 0 4 (r.map Val.enc),.arr 0 8 [b.enc]]++g)):=by
 have hwi:=b.wid_items
 have hBw:=B.wid
 obtain ⟨hrl,hget⟩:=mapIO_get hr
 have hlp:=loop_post (γ:=Avm.H) (f:=evC (callL cfg) roundsL cfg.pol h.length h.length c40L0) (keep:=[0,5,6,34,35,36]) b.items (fun _ _=>True)
  (fun i _=>[(0,P),(5,.ptr (h.length + 1) 0 4 0 0),(6,.ptr (h.length + 2) 0 4 0 0),(34,.isl (b.items.map It.enc)),(35,.int .i64 b.items.length),(36,.int .i64 i)])
  (fun i g=>h++([.arr 0 8 [t.enc],.arr 0 4 [.agg [.int .i64 v.kind,.int .i64 v.int,.str v.bytes,.osl (h.length + 3) 0 4 0 b.items.length]],.arr 0 4 [.agg [.int .i64 0,.int .i64 0,.str ⟨#[]⟩,.isl []]],.arr 0 4 ((r.take i++l.drop i).map Val.enc),.arr 0 8 [b.enc]]++g))
  (fun _ _ o=>∃ g,o=(.exit 0,[(0,P),(5,.ptr (h.length + 1) 0 4 0 0),(6,.ptr (h.length + 2) 0 4 0 0),(34,.isl (b.items.map It.enc)),(35,.int .i64 b.items.length),(36,.int .i64 b.items.length)],
      h++([.arr 0 8 [t.enc],.arr 0 4 [.agg [.int .i64 v.kind,.int .i64 v.int,.str v.bytes,.osl (h.length + 3) 0 4 0 b.items.length]],.arr 0 4 [.agg [.int .i64 0,.int .i64 0,.str ⟨#[]⟩,.isl []]],.arr 0 4 (r.map Val.enc),.arr 0 8 [b.enc]]++g))) ?_ ?_ [] trivial
 ·obtain ⟨o,h1,g,rfl⟩:=hlp
  exact ⟨g,h1⟩
 ·intro i x rr g hd hi hx _ K hK
  have hw:=wrap_nat (n:=i + 1) (by omega)
  simp at hw
  have hil : i < l.length:=by omega
  obtain ⟨y,hy,hfy⟩:=hget i l[i] (List.getElem?_eq_getElem hil)
  rw [Nat.zero_add,List.getElem?_eq_getElem hi,hx] at hfy
  simp only [Option.getD_some] at hfy
  have hg:=mid_get Val.enc r l hrl i hil
  have hs:=mid_set Val.enc r l hrl i hil y hy
  have hml:=mid_len r l hrl i (Nat.le_of_lt hil)
  have hxm : x ∈ b.items:=by rw [← hx]; exact List.getElem_mem hi
  have hsz:=hls l[i] (List.getElem_mem hil)
  obtain ⟨o,h4,h5⟩:=hK (g++[.arr 0 12 [x.enc]]) trivial
  refine ⟨o,?_,h5⟩
  rw [← hs] at h4
  have hel : ((r.take i++l.drop i).map Val.enc).length=b.items.length:=by rw [List.length_map,hml,hlv]
  generalize hlz : l[i]=z at *
  generalize ((r.take i++l.drop i).map Val.enc)=els at hg h4 hel ⊢
  unfold normO at hfy
  have keepz : y=z→els.set i y.enc=els:=fun e=>by rw [e]; exact set_same hg
  split at hfy
  ·rename_i hc
   obtain ⟨hc1,hc2⟩:=hc
   split at hfy
   ·rename_i d hdd
    injection hfy with hfy
    have e1:=fun ws g=>hset x hxm hc1 d hdd ws g
    have e2:=fun ws h=>same_ok _ z d (Nat.le_refl _) hsz ws h
    obtain ⟨d1,dr,hdf⟩ : ∃ d1 dr,x.dflt=d1 :: dr:=by
     cases hq : x.dflt with
     | nil=>exact absurd hq hc1
     | cons a q=>exact ⟨a,q,rfl⟩
    have hgt : (0 : Int) < dr.length + 1:=by omega
    by_cases hsm : z.same d=true
    ·rw [if_pos hsm] at hfy
     subst hfy
     rw [hsm] at e2
     simp [absV,hdf] at h4
     simp [hdf] at e1 e2 hg
     obtain ⟨hilx,hgi⟩:=List.getElem?_eq_some_iff.1 hg
     simp [c40L0,hi,hx,hgi,hel,hdf,hgt,hc2,e1,e2,hw,h4]
    ·rw [if_neg hsm] at hfy
     have hk:=keepz hfy.symm
     rw [hk] at h4
     have hsm : z.same d=false:=by simpa using hsm
     rw [hsm] at e2
     simp [hdf] at h4
     simp [hdf] at e1 e2 hg
     obtain ⟨hilx,hgi⟩:=List.getElem?_eq_some_iff.1 hg
     simp [c40L0,hi,hx,hgi,hel,hdf,hgt,hc2,e1,e2,hw,h4]
   ·cases hfy
  ·rename_i hc
   injection hfy with hfy
   have hk:=keepz hfy.symm
   rw [hk] at h4
   simp at h4 hg
   cases hq : x.dflt with
   | nil=>simp [hq] at h4; obtain ⟨hilx,hgi⟩:=List.getElem?_eq_some_iff.1 hg; simp [c40L0,hi,hx,hgi,hel,hq,hw,h4]
   | cons d1 dr=>
    have hgt : (0 : Int) < dr.length + 1:=by omega
    have hc2 : z.kind=12:=by
     rw [hq] at hc
     simpa using hc
    simp [hq] at h4
    obtain ⟨hilx,hgi⟩:=List.getElem?_eq_some_iff.1 hg
    simp [c40L0,hi,hx,hgi,hel,hq,hgt,hc2,hw,h4]
 ·intro g K _
  refine ⟨_,?_,g,rfl⟩
  have he : r.take b.items.length++l.drop b.items.length=r:=by rw [List.take_of_length_le (by omega),List.drop_eq_nil_of_le (by omega),List.append_nil]
  rw [he]
  simp [c40L0]
set_option maxHeartbeats 3000000 in
theorem plain_ok {m : Md} {S : List (Ty × Val)} (M : m.fine S) (hS : S.length≤67108863) (hSs : ∀ q ∈ S,q.2.size≤67108864) : ∀ (n : Nat) (xs : List It) (t : Ty) (v r : Val),plainN m n (xs.map keyI) t v=some r→t.fine m S→(∃ k,fitB m k t v=true)→v.size≤67108864→(∀ x ∈ xs,ItOk x)→xs.length + rest S (xs.map keyI)≤S.length →
    ∀ P h,Recv h P m xs→∀ ws,callL cfg ws 40 [P,t.enc,v.enc] h=some (r.enc,h)
 | 0,_,_,_,_,h,_,_,_,_,_,_,_,_,_=>by cases h
 | n + 1,xs,t,v,r,hp,T,⟨k,hk⟩,hv,hxs,hlen,P,h,R,ws=>by
  cases k with
  | zero=>cases hk
  | succ k=>
  cases hb : beh m 21 t with
  | none=>unfold fitB at hk; rw [hb] at hk; cases hk
  | some b=>
  obtain ⟨B,hb10⟩:=T.beh M hb
  obtain ⟨hkind,hin,hsub⟩:=fits_parts m hk hb (allP_self B.right)
  unfold plainN at hp
  rw [hb] at hp
  simp only [Option.getD_some] at hp
  split at hp
  ·cases hp
  ·rename_i l hl
   obtain ⟨hll,hlget⟩:=mapIO_get hl
   have hitem : ∀ (i : Nat) x,v.items[i]? = some x→x.size≤67108864:=fun i x hx=>by
    have:=Val.mem_items (List.mem_of_getElem? hx); omega
   have heach:=fun H (RH : Recv H P m xs) ws=>each_ok m M.ok t T.wid b hb v hv hin (plainN m n (xs.map keyI)) l hl P H (fun i x t' y hx hpo hy ws g=>
    plain_ok M hS hSs n xs t' x y hy (partO_fine B hpo) ⟨k,hsub i x t' hx hpo⟩ (hitem i x hx) hxs hlen P (H++g) (RH.more g) ws) ws
   have hls : ∀ x ∈ l,x.size≤67108864:=fun y hy=>by
    obtain ⟨j,hj,rfl⟩:=List.mem_iff_getElem.1 hy
    have hjv : j < v.items.length:=by omega
    obtain ⟨z,h1,h2⟩:=hlget j v.items[j] (List.getElem?_eq_getElem hjv)
    rw [List.getElem?_eq_getElem hj] at h1
    injection h1 with h1
    have h3:=hitem j v.items[j] (List.getElem?_eq_getElem hjv)
    rw [h1]
    unfold eachO at h2
    split at h2
    ·have:=plainN_size h2; omega
    ·injection h2 with h2; rw [← h2]; exact h3
   have hbh:=fun ws h=>behind_ok m M.ok t T.wid ws h
   obtain ⟨b0,s0,hP0,hbl,hb0,hs0⟩:=id R
   have hbt : ∀ g : Avm.H,(h++g)[b0]? = some (.arr 0 3 [.agg [.str m.name,.isl (m.defs.map Df.enc),s0]]):=fun g=>by rw [List.getElem?_append_left hbl]; exact hb0
   have e1:=heach (h++[.arr 0 8 [t.enc],.arr 0 4 [v.enc],.arr 0 4 [.agg [.int .i64 0,.int .i64 0,.str ⟨#[]⟩,.isl []]]]) (R.more _)
   subst hP0
   by_cases q8 : b.kind=8
   ·rw [if_pos q8] at hp
    split at hp
    ·rename_i r' hr'
     cases hp
     obtain ⟨hrl,_⟩:=mapIO_get hr'
     have hvl:=hin.record q8
     obtain ⟨g,hloop⟩:=plain_loop M b B q8 t v hv xs l r' (by omega) hls (plainN m n) hr' (.ptr b0 0 3 0 0) h R (fun x hx hd d hset ws g=>by
      obtain ⟨dd,h1,h2,h3,h4⟩:=goodP_iff.1 (allP_self B.good) q8 x hx hd
      have hxin : x.of ∈ b.inner:=by unfold Ty.inner Ty.comp; rw [q8]; exact List.mem_append_right _ (List.mem_map_of_mem hx)
      have hxo : ItOk x:=⟨(B.inner hxin).wid,dd,[],h1,hSs _ h2⟩
      have hd0:=d0_eq h1
      refine set_ok m x hxo xs hxs (by omega) (plainN m n) d hset (fun hmet d' hd' P' H' R' ws'=>?_) (.ptr b0 0 3 0 0) (h++g) (R.more g) ws
      have hmap : xs.map keyI++[keyI x]=(xs++[x]).map keyI:=by simp
      rw [hmap] at hd'
      refine plain_ok M hS hSs n (xs++[x]) x.of x.d0 d' hd' (B.inner hxin) ⟨dd.size,by rw [hd0]; exact h3⟩ (by rw [hd0]; exact hSs _ h2) (fun y hy=>?_) ?_ P' H' R' ws'
      ·rcases List.mem_append.1 hy with hy | hy
       ·exact hxs y hy
       ·simp at hy; subst hy; exact hxo
      ·rw [← hmap]
       rw [hd0] at hmet
       have:=rest_lt (u:=xs.map keyI) h2 hmet
       have hk : keyI x=(x.of,dd):=by unfold keyI; rw [hd0]
       rw [hk]
       simp only [List.length_append,List.length_singleton]
       omega)
     refine callL_fn rfl rfl ?_
     simp [hb] at hbh
     simp at e1 hloop
     simp only [Md.enc] at hbh e1
     simp only [hvl] at e1
     have hrn : r'.length=b.items.length:=by omega
     have htk : (r'.map Val.enc).take b.items.length=r'.map Val.enc:=List.take_of_length_le (by simp; omega)
     simp [q8] at hloop
     simp [htk,F40,c40,hbt,e1,hbh,q8,hloop,hrn]
    ·cases hp
   ·rw [if_neg q8] at hp
    cases hp
    refine callL_fn rfl rfl ?_
    simp [hb] at hbh
    simp at e1
    simp only [Md.enc] at hbh e1
    have htk : (l.map Val.enc).take v.items.length=l.map Val.enc:=List.take_of_length_le (by simp; omega)
    simp [F40,c40,hbt,e1,hbh,q8,hll,htk]
end Go.Proofs.YtflbneepngjglaaGreatDoor
