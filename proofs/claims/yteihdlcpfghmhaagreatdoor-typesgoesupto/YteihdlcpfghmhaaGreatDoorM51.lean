/- TypesGoes: for every input whose reading holds at most so many values and letters, the law answers true, and what it was given reads as it read before. The conditions are the bound and the two tables of package utf8, which the card ties to the program's text. -/
import Derived.Test.YteihdlcpfghmhaaGreatDoorM50
import Derived.Test.YteihdlcpfghmhaaGreatDoorM30
import Derived.Test.YteihdlcpfghmhaaGreatDoorCards
import Derived.Test.YteihdlcpfghmhaaGreatDoorTie
import Derived.Test.YteihdlcpfghmhaaGreatDoorM33
set_option linter.all false
namespace Go.Proofs.YteihdlcpfghmhaaGreatDoor
open Go Go.Avm
theorem rat_step (m : Md) (hm : m.ok) (hl : m.lim) (hf : m.fm) (hd : m.df) (t1 : Ty) (v1 : Val) (hq : QP m t1) (hv : v1.size≤1048576) (n : Nat) (hfit : fitB m n t1 v1=true) (path : List ByteArray) (hp : path.length≤1048576) (i : Nat) (hi : i < path.length) (x : ByteArray) (hx : path[i]=x) (hsx : x.size≤1048576) (h : Avm.H) (K : Env→Avm.H→Out) (P : Ex × Env × Avm.H→Prop)
    (hgood : ∀ t2 v2,stepP m t1 v1 x=(0,t2,v2)→∃ o,K [(3,.isl (path.map .str)),(4,.ptr h.length 0 2 0 0),(5,.ptr (h.length + 1) 0 8 0 0),(6,.ptr (h.length + 2) 0 4 0 0),(8,.ptr (h.length + 3) 0 4 0 0),(11,.int .i64 ((i + 1 : Nat) : Int))] (h++[.arr 0 2 [m.enc],.arr 0 8 [t2.enc],.arr 0 4 [v2.enc],.arr 0 4 [.agg [.int .i64 0,.int .i64 0,.str ⟨#[]⟩,.isl []]]])=some o∧P o)
    (hbad : ∀ (e : Int) (b t2 : Ty) (v2 : Val),¬ e=0→stepP m t1 v1 x=(e,t2,v2)→P ((.ret,[(8,.ptr (h.length + 3) 0 4 0 0),(9,.int .i64 e)],(h++[.arr 0 2 [m.enc],.arr 0 8 [b.enc],.arr 0 4 [v1.enc],.arr 0 4 [.agg [.int .i64 0,.int .i64 0,.str ⟨#[]⟩,.isl []]]])) : Ex × Env × Avm.H)) : ∃ o,andThen (evC (callL cfg) roundsL cfg.pol h.length h.length c6L1 (Env.keep [3,4,5,6,8,11] [(3,.isl (path.map .str)),(4,.ptr h.length 0 2 0 0),(5,.ptr (h.length + 1) 0 8 0 0),(6,.ptr (h.length + 2) 0 4 0 0),(8,.ptr (h.length + 3) 0 4 0 0),(11,.int .i64 i)]) (h++[.arr 0 2 [m.enc],.arr 0 8 [t1.enc],.arr 0 4 [v1.enc],.arr 0 4 [.agg [.int .i64 0,.int .i64 0,.str ⟨#[]⟩,.isl []]]])) K=some o∧P o:=by
 cases n with
 | zero=>cases hfit
 | succ n=>
 unfold fitB at hfit
 cases hb : beh m 21 t1 with
 | none=>rw [hb] at hfit; cases hfit
 | some b=>
  rw [hb] at hfit
  dsimp only at hfit
  obtain ⟨hqb,hk10⟩:=hq.beh hm hl hf hd hb
  simp only [Bool.and_eq_true,decide_eq_true_eq] at hfit
  obtain ⟨hk,hfs⟩:=hfit
  have hbl : b.items.length≤1048576:=Nat.le_trans b.wid_items hqb.wid
  have hvl : v1.items.length≤1048576:=by have:=Val.len_sizeL v1.items; have:=v1.size_eq; omega
  have hsp : stepP m t1 v1 x=(if b.kind=7 then (if decP x.data.toList=false then (6,t1,v1) else match v1.items[valN 0 x.data.toList]? with | some y=>(0,b.kids.headD Ty.zero,y) | none=>(3,t1,v1))
   else if b.kind=8 then (match b.items.findIdx? (fun i=>eqS i.name x) with
    | none=>(6,t1,v1)
    | some i=>match b.items[i]?,v1.items[i]? with
     | some y,some x=>if x.kind=12 then (3,t1,v1) else (0,y.of,x)
     | _,_=>(3,t1,v1))
   else if b.kind=9 then (match b.items.findIdx? (fun i=>eqS i.name x) with
    | none=>(6,t1,v1)
    | some i=>match b.items[i]?,v1.items with
     | some y,x :: _=>if v1.int=i then (0,y.of,x) else (3,t1,v1)
     | _,_=>(3,t1,v1))
   else (6,t1,v1) : Int × Ty × Val):=by unfold stepP; rw [hb]; rfl
  by_cases q7 : b.kind=7
  ·rw [if_pos q7] at hsp
   cases qd : decP x.data.toList
   ·rw [qd,if_pos rfl] at hsp
    exact ⟨_,rat_7a m hm hl hf t1 b hq hb v1 path hp i hi x hx hsx q7 qd h K,hbad 6 b _ _ (by decide) hsp⟩
   ·rw [qd,if_neg (by simp)] at hsp
    have hsv:=sat_val0 x.data.toList
    cases hxn : v1.items[valN 0 x.data.toList]? with
    | none=>
     rw [hxn] at hsp
     have:=List.getElem?_eq_none_iff.1 hxn
     exact ⟨_,rat_7c m hm hl hf t1 b hq hb v1 path hp i hi x hx hsx q7 qd (by omega) h K,hbad 3 b _ _ (by decide) hsp⟩
    | some y=>
     rw [hxn] at hsp
     have hlt:=(List.getElem?_eq_some_iff.1 hxn).1
     have hr7:=allP_self hqb.right
     unfold rightP at hr7
     rw [if_neg (by omega),if_neg (by omega),if_neg (by omega),if_neg (by omega),if_neg (by omega),if_neg (by omega),if_neg (by omega),if_neg (by omega),if_pos q7] at hr7
     simp only [Bool.and_eq_true,decide_eq_true_eq] at hr7
     cases hks : b.kids with
     | nil=>rw [hks] at hr7; simp at hr7
     | cons k r=>
      rw [hks] at hsp
      obtain ⟨o,h1,h2⟩:=hgood _ _ hsp
      exact ⟨o,rat_7b m hm hl hf t1 b hq hb v1 path hp i hi x hx hsx q7 qd _ y k r rfl (by rw [hsv,Nat.min_eq_left (by omega)]; exact hxn) hks h K o h1,h2⟩
  ·rw [if_neg q7] at hsp
   by_cases q8 : b.kind=8
   ·rw [if_pos q8] at hsp
    have hdis : distinct (b.items.map It.name)=true:=by
     have:=allP_self hqb.dif
     unfold difP at this
     rwa [show b.itemsOf=b.items by simp [Ty.itemsOf,Ty.withItems,q8]] at this
    cases hidx : b.items.findIdx? (fun i=>eqS i.name x) with
    | none=>
     rw [hidx] at hsp
     exact ⟨_,rat_8a m hm hl hf t1 b hq hb v1 path hp i hi x hx hsx hbl q8 (lastI_none x _ 0 (-1) hidx) h K,hbad 6 b _ _ (by decide) hsp⟩
    | some j=>
     rw [hidx] at hsp
     have hla:=lastI_eq x _ 0 (-1) hdis j hidx
     rw [Nat.zero_add] at hla
     have hj : j < b.items.length:=by
      rw [List.findIdx?_eq_some_iff_getElem] at hidx
      exact hidx.1
     unfold fitS at hfs
     rw [if_neg (by omega),if_neg (by omega),if_neg (by omega),if_neg (by omega),if_neg (by omega),if_neg (by omega),if_neg (by omega),if_neg (by omega),if_neg (by omega),if_neg (by omega)] at hfs
     simp only [Bool.and_eq_true,decide_eq_true_eq] at hfs
     have hjv : j < v1.items.length:=by omega
     dsimp only at hsp
     rw [List.getElem?_eq_getElem hj,List.getElem?_eq_getElem hjv] at hsp
     dsimp only at hsp
     by_cases q12 : v1.items[j].kind=12
     ·rw [if_pos q12] at hsp
      exact ⟨_,rat_8b m hm hl hf t1 b hq hb v1 path hp i hi x hx hsx hbl q8 j hla _ (List.getElem?_eq_getElem hjv) q12 h K,hbad 3 b _ _ (by decide) hsp⟩
     ·rw [if_neg q12] at hsp
      obtain ⟨o,h1,h2⟩:=hgood _ _ hsp
      exact ⟨o,rat_8c m hm hl hf t1 b hq hb v1 path hp i hi x hx hsx hbl q8 j hla _ (List.getElem?_eq_getElem hj) _ (List.getElem?_eq_getElem hjv) q12 h K o h1,h2⟩
   ·rw [if_neg q8] at hsp
    by_cases q9 : b.kind=9
    ·rw [if_pos q9] at hsp
     have hdis : distinct (b.items.map It.name)=true:=by
      have:=allP_self hqb.dif
      unfold difP at this
      rwa [show b.itemsOf=b.items by simp [Ty.itemsOf,Ty.withItems,q9]] at this
     cases hidx : b.items.findIdx? (fun i=>eqS i.name x) with
     | none=>
      rw [hidx] at hsp
      exact ⟨_,rat_9a m hm hl hf t1 b hq hb v1 path hp i hi x hx hsx hbl q9 (lastI_none x _ 0 (-1) hidx) h K,hbad 6 b _ _ (by decide) hsp⟩
     | some j=>
      rw [hidx] at hsp
      have hla:=lastI_eq x _ 0 (-1) hdis j hidx
      rw [Nat.zero_add] at hla
      have hj : j < b.items.length:=by
       rw [List.findIdx?_eq_some_iff_getElem] at hidx
       exact hidx.1
      unfold fitS at hfs
      rw [if_neg (by omega),if_neg (by omega),if_neg (by omega),if_neg (by omega),if_neg (by omega),if_neg (by omega),if_neg (by omega),if_neg (by omega),if_neg (by omega),if_pos q9] at hfs
      simp only [Bool.and_eq_true,decide_eq_true_eq] at hfs
      dsimp only at hsp
      rw [List.getElem?_eq_getElem hj] at hsp
      cases hxs : v1.items with
      | nil=>rw [hxs] at hfs; simp at hfs
      | cons y r=>
       rw [hxs] at hsp
       dsimp only at hsp
       by_cases qi : v1.int=j
       ·rw [if_pos qi] at hsp
        obtain ⟨o,h1,h2⟩:=hgood _ _ hsp
        exact ⟨o,rat_9c m hm hl hf t1 b hq hb v1 path hp i hi x hx hsx hbl q9 j hla qi _ (List.getElem?_eq_getElem hj) y r hxs h K o h1,h2⟩
       ·rw [if_neg qi] at hsp
        exact ⟨_,rat_9b m hm hl hf t1 b hq hb v1 path hp i hi x hx hsx hbl q9 j hla qi h K,hbad 3 b _ _ (by decide) hsp⟩
    ·rw [if_neg q9] at hsp
     exact ⟨_,rat_z m hm hl hf t1 b hq hb v1 path hp i hi x hx hsx q7 q8 q9 h K,hbad 6 b _ _ (by decide) hsp⟩
theorem rat_loop (m : Md) (hm : m.ok) (hl : m.lim) (hf : m.fm) (hd : m.df) (t : Ty) (v : Val) (path : List ByteArray) (hp : path.length≤1048576) (hz : ∀ s ∈ path,s.size≤1048576) (h : Avm.H) (h0 : wayI m path (goP m t v path) 0 (t,v)) : ∃ o,roundsL (evC (callL cfg) roundsL cfg.pol h.length h.length c6L1) [3,4,5,6,8,11] [(3,.isl (path.map .str)),(4,.ptr h.length 0 2 0 0),(5,.ptr (h.length + 1) 0 8 0 0),(6,.ptr (h.length + 2) 0 4 0 0),(8,.ptr (h.length + 3) 0 4 0 0),(11,.int .i64 (0 : Nat))] (h++[.arr 0 2 [m.enc],.arr 0 8 [t.enc],.arr 0 4 [v.enc],.arr 0 4 [.agg [.int .i64 0,.int .i64 0,.str ⟨#[]⟩,.isl []]]])=some o∧(if (goP m t v path).1=0 then ∃ T : Ty,o=(.exit 0,[(3,.isl (path.map .str)),(4,.ptr h.length 0 2 0 0),(5,.ptr (h.length + 1) 0 8 0 0),(6,.ptr (h.length + 2) 0 4 0 0),(8,.ptr (h.length + 3) 0 4 0 0),(11,.int .i64 path.length)],(h++[.arr 0 2 [m.enc],.arr 0 8 [T.enc],.arr 0 4 [(goP m t v path).2.enc],.arr 0 4 [.agg [.int .i64 0,.int .i64 0,.str ⟨#[]⟩,.isl []]]])) else ∃ (T : Ty) (V : Val),o=(.ret,[(8,.ptr (h.length + 3) 0 4 0 0),(9,.int .i64 (goP m t v path).1)],(h++[.arr 0 2 [m.enc],.arr 0 8 [T.enc],.arr 0 4 [V.enc],.arr 0 4 [.agg [.int .i64 0,.int .i64 0,.str ⟨#[]⟩,.isl []]]]))):=by
 generalize goP m t v path=R at *
 refine loop_post (γ:=Ty × Val) (f:=evC (callL cfg) roundsL cfg.pol h.length h.length c6L1) (keep:=[3,4,5,6,8,11]) path (wayI m path R)
     (fun i _=>[(3,.isl (path.map .str)),(4,.ptr h.length 0 2 0 0),(5,.ptr (h.length + 1) 0 8 0 0),(6,.ptr (h.length + 2) 0 4 0 0),(8,.ptr (h.length + 3) 0 4 0 0),(11,.int .i64 i)]) (fun _ c=>(h++[.arr 0 2 [m.enc],.arr 0 8 [c.1.enc],.arr 0 4 [c.2.enc],.arr 0 4 [.agg [.int .i64 0,.int .i64 0,.str ⟨#[]⟩,.isl []]]]))
     (fun _ _ o=>if R.1=0 then ∃ T : Ty,o=(.exit 0,[(3,.isl (path.map .str)),(4,.ptr h.length 0 2 0 0),(5,.ptr (h.length + 1) 0 8 0 0),(6,.ptr (h.length + 2) 0 4 0 0),(8,.ptr (h.length + 3) 0 4 0 0),(11,.int .i64 path.length)],(h++[.arr 0 2 [m.enc],.arr 0 8 [T.enc],.arr 0 4 [R.2.enc],.arr 0 4 [.agg [.int .i64 0,.int .i64 0,.str ⟨#[]⟩,.isl []]]])) else ∃ (T : Ty) (V : Val),o=(.ret,[(8,.ptr (h.length + 3) 0 4 0 0),(9,.int .i64 R.1)],(h++[.arr 0 2 [m.enc],.arr 0 8 [T.enc],.arr 0 4 [V.enc],.arr 0 4 [.agg [.int .i64 0,.int .i64 0,.str ⟨#[]⟩,.isl []]]]))) ?_ ?_ (t,v) h0
 ·intro i x r c hdr hi hx hI K hK
  have hmx : x ∈ path:=by rw [← hx]; exact List.getElem_mem hi
  have hsx:=hz x hmx
  obtain ⟨t1,v1⟩:=c
  obtain ⟨hq,hv,⟨k,hfit⟩,hgo⟩:=hI
  dsimp only at hq hv hfit hgo
  rw [hdr,goP] at hgo
  have hdr2 : path.drop (i + 1)=r:=by
   rw [List.drop_eq_getElem_cons hi] at hdr
   injection hdr
  have hgood : ∀ t2 v2,stepP m t1 v1 x=(0,t2,v2)→∃ o,K [(3,.isl (path.map .str)),(4,.ptr h.length 0 2 0 0),(5,.ptr (h.length + 1) 0 8 0 0),(6,.ptr (h.length + 2) 0 4 0 0),(8,.ptr (h.length + 3) 0 4 0 0),(11,.int .i64 ((i + 1 : Nat) : Int))] (h++[.arr 0 2 [m.enc],.arr 0 8 [t2.enc],.arr 0 4 [v2.enc],.arr 0 4 [.agg [.int .i64 0,.int .i64 0,.str ⟨#[]⟩,.isl []]]])=some o∧(if R.1=0 then ∃ T : Ty,o=(.exit 0,[(3,.isl (path.map .str)),(4,.ptr h.length 0 2 0 0),(5,.ptr (h.length + 1) 0 8 0 0),(6,.ptr (h.length + 2) 0 4 0 0),(8,.ptr (h.length + 3) 0 4 0 0),(11,.int .i64 path.length)],(h++[.arr 0 2 [m.enc],.arr 0 8 [T.enc],.arr 0 4 [R.2.enc],.arr 0 4 [.agg [.int .i64 0,.int .i64 0,.str ⟨#[]⟩,.isl []]]])) else ∃ (T : Ty) (V : Val),o=(.ret,[(8,.ptr (h.length + 3) 0 4 0 0),(9,.int .i64 R.1)],(h++[.arr 0 2 [m.enc],.arr 0 8 [T.enc],.arr 0 4 [V.enc],.arr 0 4 [.agg [.int .i64 0,.int .i64 0,.str ⟨#[]⟩,.isl []]]]))):=fun t2 v2 hsp=>by
   rw [hsp] at hgo
   dsimp only at hgo
   rw [if_pos rfl] at hgo
   obtain ⟨hq2,hv2,hfit2⟩:=step_keeps m hm hl hf hd hq hfit hsp
   exact hK (t2,v2) ⟨hq2,by dsimp only; omega,hfit2,by dsimp only; rw [hdr2]; exact hgo⟩
  refine rat_step m hm hl hf hd t1 v1 hq hv k hfit path hp i hi x hx hsx h K _ hgood fun e b t2 v2 he hsp=>?_
  rw [hsp] at hgo
  dsimp only at hgo
  rw [if_neg he] at hgo
  rw [← hgo]
  simp only [he,if_false]
  exact ⟨b,v1,rfl⟩
 ·intro c K hI
  obtain ⟨hq,hv,hfit,hgo⟩:=hI
  rw [List.drop_length,goP] at hgo
  rw [← hgo]
  simp only [if_true]
  refine ⟨_,?_,c.1,rfl⟩
  simp [c6L1,Md.enc]
theorem rat_ok (m : Md) (hm : m.ok) (t : Ty) (hs : t.size≤1048576) (v : Val) (hv : v.size≤1048576) (path : List ByteArray) (hp : path.length≤1048576) (hz : ∀ s ∈ path,s.size≤1048576) (ws : Nat) (h : Avm.H) : callL cfg ws 6 [m.enc,t.enc,v.enc,.isl (path.map .str)] h=some (.tup [(atP m t v path).2.enc,.int .i64 (atP m t v path).1],h):=by
 have e1:=fun ws h=>rasked_ok m hm t hs v hv ws h
 unfold atP
 refine callL_fn rfl rfl ?_
 by_cases q : askE m t v=0
 ·rw [if_pos q]
  rw [q] at e1
  obtain ⟨q1,q2,q3⟩:=askE_zero q
  have hl:=lim_of (errM_zero q1).1
  have hf:=fm_of (errM_zero q1).2
  have hd:=errM_dup q1
  obtain ⟨o,h4,h5⟩:=rat_loop m hm hl hf hd t v path hp hz h ⟨QP_of hs q2,hv,⟨_,q3⟩,rfl⟩
  have hsz:=goP_size m hm hl hf hd path t v _ (QP_of hs q2) hv q3
  have her:=goP_err m path t v
  obtain ⟨E,W,hR⟩ : ∃ E W,goP m t v path=(E,W):=⟨_,_,rfl⟩
  rw [hR] at h5 hsz her ⊢
  dsimp only at h5 hsz her ⊢
  simp [Md.enc] at e1
  by_cases qe : E=0
  ·subst qe
   rw [if_pos rfl] at h5
   obtain ⟨T,rfl⟩:=h5
   have e2:=fun ws h=>copy_ok _ W (Nat.le_refl _) hsz ws h
   simp [Md.enc] at h4 e2
   simp [F6,c6,Md.enc,e1,h4,e2]
  ·rw [if_neg qe] at h5
   obtain ⟨T,V,rfl⟩:=h5
   rw [her qe]
   simp [Md.enc] at h4
   simp [F6,c6,Md.enc,e1,h4]
 ·rw [if_neg q]
  simp [Md.enc] at e1
  simp [F6,c6,Md.enc,e1,q]
end Go.Proofs.YteihdlcpfghmhaaGreatDoor
namespace Go.Proofs.YteihdlcpfghmhaaGreatDoor
open Go Go.Avm
theorem rsameV_ok : ∀ (n : Nat) (v w : Val),v.size≤n→v.size≤1048576→∀ ws h,callL cfg ws 7 [v.enc,w.enc] h=some (.bool (v.same w),h)
 | 0,v,_,hv,_,_,_=>by have:=v.size_pos; omega
 | n + 1,v,w,hv,hb,ws,h=>by
  have hlen:=v.len_items
  refine callL_fn rfl rfl ?_
  rw [Val.same_eq]
  by_cases h1 : v.kind=w.kind
  ·by_cases h2 : v.int=w.int
   ·by_cases h3 : v.bytes.toList=w.bytes.toList
    ·by_cases h4 : v.items.length=w.items.length
     ·have hl:=loop_list (f:=evC (callL cfg) roundsL cfg.pol h.length h.length c7L0) (keep:=[2,3,5]) v.items (fun i=>[(2,.ptr h.length 0 4 0 0),(3,.ptr (h.length + 1) 0 4 0 0),(5,.int .i64 i)]) (fun _=>h++[.arr 0 4 [v.enc],.arr 0 4 [w.enc]])
        (fun j r=>if eqL Val.same r (w.items.drop j)=true then (.exit 0,[(2,.ptr h.length 0 4 0 0),(3,.ptr (h.length + 1) 0 4 0 0),(5,.int .i64 v.items.length)],h++[.arr 0 4 [v.enc],.arr 0 4 [w.enc]]) else (.ret,[(4,.bool false)],h++[.arr 0 4 [v.enc],.arr 0 4 [w.enc]])) ?_ ?_
      ·simp only [List.drop_zero] at hl
       cases hs : eqL Val.same v.items w.items <;> simp [hs] at hl <;> simp [F7,c7,h1,h2,h3,h4] <;> simp [h1,h2,h3,h4] at hl <;> simp [hl]
      ·intro j x r hd hi hx K hK
       have hw:=wrap_nat (n:=j + 1) (by omega)
       simp at hw
       have him : j < w.items.length:=by omega
       have hdm : w.items.drop j=w.items[j] :: w.items.drop (j + 1):=List.drop_eq_getElem_cons him
       rw [hdm]
       have hm1 : x ∈ v.items:=by rw [← hx]; exact List.getElem_mem hi
       have hsz:=Val.mem_items hm1
       obtain ⟨y,hy⟩ : ∃ y,w.items[j]=y:=⟨_,rfl⟩
       have hcl:=fun h'=>rsameV_ok n x y (by omega) (by omega) h.length h'
       rw [hy]
       simp only [Val.enc_eq] at hcl
       rw [eqL]
       cases hs : x.same y
       ·rw [hs] at hcl
        simp [c7L0,hi,hx,him,hy,hcl]
       ·rw [hs] at hcl
        simp at hK
        simp [c7L0,hi,hx,him,hy,hcl,hw,hK]
      ·intro K
       have : w.items.drop v.items.length=[]:=by rw [h4]; simp
       rw [this]
       simp [c7L0,eqL]
     ·have hs : eqL Val.same v.items w.items=false:=by
        cases hs : eqL Val.same v.items w.items with
        | false=>rfl
        | true=>exact absurd (eqL_len hs) h4
      have hn2 : ¬ (v.items.length : Int)=w.items.length:=by omega
      rw [hs]
      simp [F7,c7,h1,h2,h3,hn2]
    ·simp [F7,c7,h1,h2,h3]
   ·simp [F7,c7,h1,h2]
  ·simp [F7,c7,h1]
end Go.Proofs.YteihdlcpfghmhaaGreatDoor
namespace Go.Proofs.YteihdlcpfghmhaaGreatDoor
open Go Go.Avm
theorem eqL_refl {α : Type} {p : α→α→Bool} : ∀ (l : List α),(∀ x ∈ l,p x x=true)→eqL p l l=true
 | [],_=>rfl
 | x :: l,h=>by
  rw [eqL,h x (by simp),eqL_refl l fun y hy=>h y (by simp [hy])]
  rfl
theorem same_refln : ∀ (n : Nat) (v : Val),v.size≤n→v.same v=true
 | 0,v,h=>by have:=v.size_pos; omega
 | n + 1,v,h=>by
  rw [Val.same_eq,eqL_refl v.items fun x hx=>same_refln n x (by have:=Val.sizeL_mem hx; have:=v.size_eq; omega)]
  simp
theorem same_refl (v : Val) : v.same v=true:=same_refln _ v (Nat.le_refl _)
def caseE (m : Md) (t : Ty) (v : Val) (path : List ByteArray) : AV:=.agg [.str m.name,.isl (m.defs.map Df.enc),.int .i64 t.kind,.str t.name,.int .i64 t.lo,.int .i64 t.hi,.bool t.free,.bool t.ext,.isl (t.items.map It.enc),.isl (t.kids.map Ty.enc),.int .i64 v.kind,.int .i64 v.int,.str v.bytes,.isl (v.items.map Val.enc),.isl (path.map .str)]
set_option maxRecDepth 100000 in
theorem sane1 (ws : Nat) (A : ABlock) : callN cfg 100 ws 8 [] [A]=some (.bool true,[A]):=by kernel_rfl
set_option maxRecDepth 100000 in
theorem sane3 (ws : Nat) (A B C : ABlock) : callN cfg 100 ws 8 [] [A,B,C]=some (.bool true,[A,B,C]):=by kernel_rfl
set_option maxRecDepth 100000 in
theorem sane4 (ws : Nat) (A B C D : ABlock) : callN cfg 100 ws 8 [] [A,B,C,D]=some (.bool true,[A,B,C,D]):=by kernel_rfl
theorem sane1_ok (ws : Nat) (A : ABlock) : callL cfg ws 8 [] [A]=some (.bool true,[A]):=callN_L 100 _ _ _ _ _ (sane1 ws A)
theorem sane3_ok (ws : Nat) (A B C : ABlock) : callL cfg ws 8 [] [A,B,C]=some (.bool true,[A,B,C]):=callN_L 100 _ _ _ _ _ (sane3 ws A B C)
theorem sane4_ok (ws : Nat) (A B C D : ABlock) : callL cfg ws 8 [] [A,B,C,D]=some (.bool true,[A,B,C,D]):=callN_L 100 _ _ _ _ _ (sane4 ws A B C D)
theorem atP_size (m : Md) (hm : m.ok) (t : Ty) (hs : t.size≤1048576) (v : Val) (hv : v.size≤1048576) (path : List ByteArray) : (atP m t v path).2.size≤1048576:=by
 unfold atP
 split
 ·rename_i q
  obtain ⟨q1,q2,q3⟩:=askE_zero q
  exact goP_size m hm (lim_of (errM_zero q1).1) (fm_of (errM_zero q1).2) (errM_dup q1) path t v _ (QP_of hs q2) hv q3
 ·exact zero_size
theorem typesPaths_ok (m : Md) (hm : m.ok) (t : Ty) (hs : t.size≤1048576) (v : Val) (hv : v.size≤1048576) (path : List ByteArray) (hp : path.length≤1048576) (hz : ∀ s ∈ path,s.size≤1048576) : callL cfg 0 3 [caseE m t v path] []=some (.bool true,[]):=by
 have e1:=fun ws h=>at_ok m hm t hs v hv path hp hz ws h
 have e2:=fun ws h=>rat_ok m hm t hs v hv path hp hz ws h
 have hsz:=atP_size m hm t hs v hv path
 have e3:=fun ws h=>rsameV_ok _ (atP m t v path).2 (atP m t v path).2 (Nat.le_refl _) hsz ws h
 rw [same_refl] at e3
 refine callL_fn rfl rfl ?_
 generalize (atP m t v path).1=E at *
 generalize (atP m t v path).2=W at *
 simp [Md.enc] at e1 e2 e3
 simp [F3,c3,caseE,e1,e2,e3,sane3_ok]
theorem at_first (m : Md) (t : Ty) (v : Val) (s : ByteArray) (r : List ByteArray) (h : ¬ (atP m t v [s]).1=0) : (atP m t v (s :: r)).1=(atP m t v [s]).1:=by
 unfold atP at h ⊢
 split
 ·rename_i q
  rw [if_pos q] at h
  rw [goP] at h ⊢
  obtain ⟨e,t2,v2,hsp⟩ : ∃ e t2 v2,stepP m t v s=(e,t2,v2):=⟨_,_,_,rfl⟩
  rw [goP,hsp]
  rw [hsp] at h
  dsimp only at h ⊢
  by_cases q2 : e=0
  ·rw [if_pos q2] at h; exact absurd rfl h
  ·rw [if_neg q2,if_neg q2]
 ·rfl
theorem at_whole (m : Md) (t : Ty) (v : Val) (s : ByteArray) (h : (atP m t v [s]).1=0) : atP m t v []=(0,v):=by
 unfold atP at h ⊢
 split
 ·rfl
 ·rename_i q; rw [if_neg q] at h; exact absurd h q
def GoesT (m : Md) (t : Ty) (v : Val) (path : List ByteArray) : Prop:=callL cfg 0 4 [caseE m t v path] []=some (.bool true,[])
theorem goes_nil (m : Md) (t : Ty) (v : Val) : GoesT m t v []:=by
 refine callL_fn rfl rfl ?_
 simp [F4,c4,caseE,sane1_ok]
theorem goes_err (m : Md) (t : Ty) (v : Val) (s : ByteArray) (r : List ByteArray) (E : Int) (W W2 : Val) (hE : ¬ E=0)
    (e1 : ∀ ws h,callL cfg ws 5 [m.enc,t.enc,v.enc,.isl ((s :: r).map .str)] h=some (.tup [W.enc,.int .i64 E],h))
    (e2 : ∀ ws h,callL cfg ws 5 [m.enc,t.enc,v.enc,.isl ([s].map .str)] h=some (.tup [W2.enc,.int .i64 E],h)) : GoesT m t v (s :: r):=by
 have hl1 : ¬ (r.length : Int) + 1 < 1:=by omega
 refine callL_fn rfl rfl ?_
 simp [Md.enc] at e1 e2
 simp [F4,c4,caseE,hl1,slcI,szOk,e1,e2,hE,sane3_ok]
theorem goes_ok (m : Md) (t : Ty) (v : Val) (s : ByteArray) (r : List ByteArray) (E : Int) (W W2 : Val) (hr : r=[]→E=0∧W=W2)
    (e1 : ∀ ws h,callL cfg ws 5 [m.enc,t.enc,v.enc,.isl ((s :: r).map .str)] h=some (.tup [W.enc,.int .i64 E],h))
    (e2 : ∀ ws h,callL cfg ws 5 [m.enc,t.enc,v.enc,.isl ([s].map .str)] h=some (.tup [W2.enc,.int .i64 0],h))
    (e3 : ∀ ws h,callL cfg ws 5 [m.enc,t.enc,v.enc,.isl []] h=some (.tup [v.enc,.int .i64 0],h))
    (e4 : ∀ ws h,callL cfg ws 9 [v.enc,v.enc] h=some (.bool true,h))
    (e5 : ∀ ws h,callL cfg ws 9 [W2.enc,W2.enc] h=some (.bool true,h)) : GoesT m t v (s :: r):=by
 refine callL_fn rfl rfl ?_
 simp [Md.enc] at e1 e2 e3 e4 e5
 cases r with
 | nil=>
  obtain ⟨rfl,rfl⟩:=hr rfl
  simp [F4,c4,caseE,slcI,szOk,e2,e3,e4,e5,sane4_ok]
 | cons s2 r2=>
  have hlt : (1 : Int) < (r2.length : Int) + 1 + 1:=by omega
  have hl1 : ¬ (r2.length : Int) + 1 + 1 < 1:=by omega
  simp at e1
  simp [F4,c4,caseE,hl1,slcI,szOk,e1,e2,e3,e4,hlt,sane4_ok]
theorem typesGoes_ok (m : Md) (hm : m.ok) (t : Ty) (hs : t.size≤1048576) (v : Val) (hv : v.size≤1048576) (path : List ByteArray) (hp : path.length≤1048576) (hz : ∀ s ∈ path,s.size≤1048576) : callL cfg 0 4 [caseE m t v path] []=some (.bool true,[]):=by
 cases path with
 | nil=>exact goes_nil m t v
 | cons s r=>
  have hs1 : ∀ x ∈ [s],x.size≤1048576:=fun x hx=>hz x (by simp at hx; simp [hx])
  have e1:=fun ws h=>at_ok m hm t hs v hv (s :: r) hp hz ws h
  have e2:=fun ws h=>at_ok m hm t hs v hv [s] (by simp) hs1 ws h
  by_cases q : (atP m t v [s]).1=0
  ·have e3:=fun ws h=>at_ok m hm t hs v hv [] (by simp) (by simp) ws h
   rw [at_whole m t v s q] at e3
   have e4:=fun ws h=>same_ok _ v v (Nat.le_refl _) hv ws h
   rw [same_refl] at e4
   have e5:=fun ws h=>same_ok _ (atP m t v [s]).2 (atP m t v [s]).2 (Nat.le_refl _) (atP_size m hm t hs v hv [s]) ws h
   rw [same_refl] at e5
   rw [q] at e2
   exact goes_ok m t v s r _ _ _ (fun hr=>by subst hr; exact ⟨q,rfl⟩) e1 e2 e3 e4 e5
  ·rw [at_first m t v s r q] at e1
   exact goes_err m t v s r _ _ _ q e1 e2
end Go.Proofs.YteihdlcpfghmhaaGreatDoor
namespace Go.Proofs.YteihdlcpfghmhaaGreatDoor
open Go Go.Avm Go.RowKit Go.ChangeShapes Go.WideShapes Go.ChangeAt
theorem law_ev (xs : List AV) (h : argsTy Tryz.prog Tryz.f4.params.toList xs) (hn : bulkL xs≤1048576) : ∃ h',callL cfg 0 4 xs []=some (.bool true,h'):=by
 have hag : aggT Tryz.prog 34=true:=by simp [aggT,Tryz.underlying34]
 rw [Tryz.params4] at h
 obtain ⟨f1,l1,r1,rfl,t1,rfl⟩:=h
 rw [hag] at hn ⊢
 simp only [bulkL,ofCells,if_true,AV.bulk] at hn ⊢
 have h1:=hasTy_struct Tryz.underlying34 (by kernel_rfl) t1
 obtain ⟨y1,z1,rfl,k1,y2,z2,rfl,k2,y3,z3,rfl,k3,y4,z4,rfl,k4,rfl⟩:=h1
 simp only [bulkL_app,bulkL] at hn
 obtain ⟨m,hm,sm⟩:=md_of k1 (by omega)
 obtain ⟨t,rfl,st⟩:=ty_of _ _ _ (Nat.le_refl _) k2
 obtain ⟨v,hv,sv⟩:=val_of _ _ _ (Nat.le_refl _) k3
 obtain ⟨path,rfl⟩:=hasTy_strs Tryz.underlying32 Tryz.underlying9 (by decide +kernel) k4
 obtain ⟨hp1,hp2⟩:=bulk_strs path
 simp only [AV.bulk,bulkL] at hn sv
 have e1 : y1=[.str m.name,.isl (m.defs.map Df.enc)]:=by unfold Md.enc at hm; injection hm
 have e3 : y3=[.int .i64 v.kind,.int .i64 v.int,.str v.bytes,.isl (v.items.map Val.enc)]:=by rw [Val.enc_eq] at hv; injection hv
 have hE : AV.agg (y1++(t.cells++(y3++([.isl (path.map .str)]++[]))))=caseE m t v path:=by
  rw [e1,e3,Ty.cells_eq]
  rfl
 rw [hE]
 exact ⟨[],typesGoes_ok m sm t (by omega) v (by omega) path (by omega) fun s hs=>by have:=hp2 s hs; omega⟩
set_option maxRecDepth 100000 in
theorem contract (H : Type) (enc : TypeId × Value→H) (W : World) (base : Nat) (args : Array Value) (ds gs : List (DataW H)) (before : List MemPlace)
    (hval : ∀ (j : Nat) t v,Tryz.f4.params[j]? = some t→args[j]? = some v→Value.okWide Tryz.prog W .any base t v)
    (hW : DataW.Whole enc Tryz.prog Tryz.f4.params.toList Rows.typesGoesSpec.vars false W args.toList ds gs before) (hk : Rows.uptoSmall H (ds++gs)=true) (hlaid : laidMetH Tryz.prog Rows.typesGoesUptoRow.laid W) (hsh : W.ShapedOpen Tryz.prog) :
    Calls Tryz.prog 4 args W fun e W'=>∃ v,e = .returned v∧Rows.typesGoesSpec.post enc Tryz.prog Tryz.f4 false true false false W args v W':=by
 have hW':=hW
 obtain ⟨m,hm⟩:=Tryz.layCo.s1_3 W hsh
 obtain ⟨htab,tp,p,hvar⟩:=laid_facts hlaid
 obtain ⟨p,q,hA,hV,hps,hfz,hnd⟩:=hW
 obtain ⟨rfl,rfl⟩:=trodVars_none hV
 have hds : ∃ d0,ds=[d0]:=by
  have h:=hA
  rw [Tryz.params4] at h
  obtain ⟨_,_,d0,_,_,_,_,rfl,_,_,r0⟩:=trodAll_cons h
  obtain ⟨_,rfl,_⟩:=trodAll_nil r0
  exact ⟨d0,rfl⟩
 obtain ⟨d0,rfl⟩:=hds
 obtain ⟨N,hN,hb⟩ : ∃ N,N=1048576∧Rows.uptoBulkAll [d0]≤N:=⟨_,rfl,of_decide_eq_true hk⟩
 refine (law_calls (cfg_ok hm htab hvar) Tryz.func4 (by decide +kernel) rfl (bulkOk H) (n:=N) (fun xs h1 h2=>law_ev xs h1 (hN ▸ h2)) hval hA hb).mono fun e W' ⟨he,hbl⟩=>?_
 exact ⟨_,he,law_post hW' rfl rfl rfl Tryz.underlying4 (by kernel_rfl) (by kernel_rfl) hbl⟩
theorem laid_met (os : Os) : laidMet Tryz.prog Rows.typesGoesUptoRow.laid ((laidWorld os).forCall (fun _ _=>0) ⟨#[],#[.agg #[.string ⟨#[]⟩,.slice none 0 0,.int .i64 0,.string ⟨#[]⟩,.int .i64 0,.int .i64 0,.bool false,.bool false,.slice none 0 0,.slice none 0 0,.int .i64 0,.int .i64 0,.string ⟨#[]⟩,.slice none 0 0,.slice none 0 0]],[]⟩).memory:=
 laidMet_of_run' 8 (by kernel_rfl) (by kernel_rfl)
theorem reads (os : Os) {H : Type} (enc : TypeId × Value→H) : ∃ places,DataW.whole enc Tryz.prog ((laidWorld os).forCall (fun _ _=>0) ⟨#[],#[.agg #[.string ⟨#[]⟩,.slice none 0 0,.int .i64 0,.string ⟨#[]⟩,.int .i64 0,.int .i64 0,.bool false,.bool false,.slice none 0 0,.slice none 0 0,.int .i64 0,.int .i64 0,.string ⟨#[]⟩,.slice none 0 0,.slice none 0 0]],[]⟩).memory Tryz.f4.params.toList Rows.typesGoesSpec.vars false (#[.agg #[.string ⟨#[]⟩,.slice none 0 0,.int .i64 0,.string ⟨#[]⟩,.int .i64 0,.int .i64 0,.bool false,.bool false,.slice none 0 0,.slice none 0 0,.int .i64 0,.int .i64 0,.string ⟨#[]⟩,.slice none 0 0,.slice none 0 0]] : Array Value).toList 8=some ([.agg [.agg [.lit (.string []),.nil],.agg [.lit (.int .i64 0),.lit (.string []),.lit (.int .i64 0),.lit (.int .i64 0),.lit (.bool false),.lit (.bool false),.nil,.nil],.agg [.lit (.int .i64 0),.lit (.int .i64 0),.lit (.string []),.nil],.nil]],[],places):=
 ⟨[],by kernel_rfl⟩
set_option maxRecDepth 100000 in
theorem liftedUpto (os : Os) (started : os.Started) (H : Type) (enc : TypeId × Value→H) (F : Stop.Interp) :
    ReturnsInHanded {} Tryz.checked os 4 .any ((Rows.OpenSpec.upto Rows.typesGoesSpec).preRow enc Tryz.prog Tryz.f4 Rows.typesGoesUptoRow.domain false Rows.typesGoesUptoRow.laid) (((Rows.OpenSpec.upto Rows.typesGoesSpec).at F).post enc Tryz.prog Tryz.f4 false true false false):=by
 obtain ⟨places,hx⟩:=reads os enc
 refine returnsInHanded_of_row (C:=Tryz.checked) (s:=Rows.OpenSpec.upto Rows.typesGoesSpec) own started (by kernel_rfl) Tryz.func4
  (witness_row_at (enc:=enc) (C:=Tryz.checked) false (laidWorld os) #[.agg #[.string ⟨#[]⟩,.slice none 0 0,.int .i64 0,.string ⟨#[]⟩,.int .i64 0,.int .i64 0,.bool false,.bool false,.slice none 0 0,.slice none 0 0,.int .i64 0,.int .i64 0,.string ⟨#[]⟩,.slice none 0 0,.slice none 0 0]] rfl (by kernel_rfl) (by kernel_rfl) (by kernel_rfl)
   (OpenSpec.preRow_of_cond 8 hx (by kernel_rfl) (fun k hk=>by cases hk; kernel_rfl) (by kernel_rfl) (laid_met os))) ?_
 intro W base args ds gs before hval hW _ hcond _ hlaid hsh _
 exact contract H enc W base args ds gs before hval hW (hcond _ rfl) hlaid hsh
theorem saidUpto : Rows.TypesGoesUptoSaid:=
 OpenClaim.holds_of_cond 4 Tryz.f4 rfl rfl rfl rfl rfl rfl rfl ⟨rfl,rfl,rfl,rfl,rfl⟩ rfl rfl rfl rfl rfl (by kernel_rfl) Tryz.func4 (by kernel_rfl)
  (of_decide_eq_true (by kernel_rfl)) (by unfold Func.isWrapper; first | (rw [if_pos (by decide +kernel)]; kernel_rfl) | (rw [if_neg (by decide +kernel)]; exact ⟨rfl,rfl⟩))
  (fun os started H enc _ F=>by rw [OpenClaim.pre_eq_preRow]; exact liftedUpto os started H enc F)
theorem plain (f : FuncId) (fn : Func) (hf : Tryz.pinned.checked.prog.funcNamed "heptad/heptadlaw02.TypesGoes" = some f) (hfn : Tryz.pinned.checked.prog.funcs[f]? = some fn) :
    true=Tryz.pinned.checked.prog.looks []∧∀ (j : Nat) t,fn.params[j]? = some t→Tryz.pinned.checked.prog.wantsStandIn t=false:=by
 obtain rfl : f=4:=Option.some.inj ((show Tryz.prog.funcNamed "heptad/heptadlaw02.TypesGoes" = some 4 by kernel_rfl).symm.trans hf) |>.symm
 obtain rfl : fn=Tryz.f4:=(Option.some.inj (Tryz.func4.symm.trans hfn)).symm
 refine ⟨by kernel_rfl,fun j t ht=>?_⟩
 rw [Tryz.params4] at ht
 have hall : ∀ t ∈ (#[34] : Array TypeId),Tryz.prog.wantsStandIn t=false:=by decide +kernel
 exact hall t (Array.mem_of_getElem? ht)
theorem typesGoes_holds : Rows.TypesGoesUptoCardSaid:=
 Claim7.holds_tied_plain_at .later [] _ _ _ _ saidUpto (fun _ h=>by cases h) (by kernel_rfl) (fun _ h=>by cases h) typesGoesUpto_row_tie rfl ⟨rfl,rfl⟩ (by kernel_rfl) rfl plain (by kernel_rfl)
end Go.Proofs.YteihdlcpfghmhaaGreatDoor
