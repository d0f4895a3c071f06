/- The way along a path, the document. -/
import Derived.Test.YteihdlcpfghmhaaGreatDoorM49
set_option linter.all false
namespace Go.Proofs.YteihdlcpfghmhaaGreatDoor
open Go Go.Avm
def wayI (m : Md) (path : List ByteArray) (R : Int × Val) (i : Nat) (c : Ty × Val) : Prop:=QP m c.1∧c.2.size≤1048576∧(∃ k,fitB m k c.1 c.2=true)∧goP m c.1 c.2 (path.drop i)=R
theorem at_loop (m : Md) (hm : m.ok) (hl : m.lim) (hf : m.fm) (hd : m.df) (t : Ty) (v : Val) (path : List ByteArray) (hp : path.length≤1048576) (hz : ∀ s ∈ path,s.size≤1048576) (h : Avm.H) (h0 : wayI m path (goP m t v path) 0 (t,v)) : ∃ o,roundsL (evC (callL cfg) roundsL cfg.pol h.length h.length c5L0) [4,5,6,8,22,23,24] [(4,.ptr h.length 0 2 0 0),(5,.ptr (h.length + 1) 0 8 0 0),(6,.ptr (h.length + 2) 0 4 0 0),(8,.ptr (h.length + 3) 0 4 0 0),(22,.isl (path.map .str)),(23,.int .i64 path.length),(24,.int .i64 (0 : Nat))] (h++[.arr 0 2 [m.enc],.arr 0 8 [t.enc],.arr 0 4 [v.enc],.arr 0 4 [.agg [.int .i64 0,.int .i64 0,.str ⟨#[]⟩,.isl []]]])=some o∧(if (goP m t v path).1=0 then ∃ T : Ty,o=(.exit 0,[(4,.ptr h.length 0 2 0 0),(5,.ptr (h.length + 1) 0 8 0 0),(6,.ptr (h.length + 2) 0 4 0 0),(8,.ptr (h.length + 3) 0 4 0 0),(22,.isl (path.map .str)),(23,.int .i64 path.length),(24,.int .i64 path.length)],(h++[.arr 0 2 [m.enc],.arr 0 8 [T.enc],.arr 0 4 [(goP m t v path).2.enc],.arr 0 4 [.agg [.int .i64 0,.int .i64 0,.str ⟨#[]⟩,.isl []]]])) else ∃ (T : Ty) (V : Val),o=(.ret,[(8,.ptr (h.length + 3) 0 4 0 0),(9,.int .i64 (goP m t v path).1)],(h++[.arr 0 2 [m.enc],.arr 0 8 [T.enc],.arr 0 4 [V.enc],.arr 0 4 [.agg [.int .i64 0,.int .i64 0,.str ⟨#[]⟩,.isl []]]]))):=by
 generalize goP m t v path=R at *
 refine loop_post (γ:=Ty × Val) (f:=evC (callL cfg) roundsL cfg.pol h.length h.length c5L0) (keep:=[4,5,6,8,22,23,24]) path (wayI m path R)
     (fun i _=>[(4,.ptr h.length 0 2 0 0),(5,.ptr (h.length + 1) 0 8 0 0),(6,.ptr (h.length + 2) 0 4 0 0),(8,.ptr (h.length + 3) 0 4 0 0),(22,.isl (path.map .str)),(23,.int .i64 path.length),(24,.int .i64 i)]) (fun _ c=>(h++[.arr 0 2 [m.enc],.arr 0 8 [c.1.enc],.arr 0 4 [c.2.enc],.arr 0 4 [.agg [.int .i64 0,.int .i64 0,.str ⟨#[]⟩,.isl []]]]))
     (fun _ _ o=>if R.1=0 then ∃ T : Ty,o=(.exit 0,[(4,.ptr h.length 0 2 0 0),(5,.ptr (h.length + 1) 0 8 0 0),(6,.ptr (h.length + 2) 0 4 0 0),(8,.ptr (h.length + 3) 0 4 0 0),(22,.isl (path.map .str)),(23,.int .i64 path.length),(24,.int .i64 path.length)],(h++[.arr 0 2 [m.enc],.arr 0 8 [T.enc],.arr 0 4 [R.2.enc],.arr 0 4 [.agg [.int .i64 0,.int .i64 0,.str ⟨#[]⟩,.isl []]]])) else ∃ (T : Ty) (V : Val),o=(.ret,[(8,.ptr (h.length + 3) 0 4 0 0),(9,.int .i64 R.1)],(h++[.arr 0 2 [m.enc],.arr 0 8 [T.enc],.arr 0 4 [V.enc],.arr 0 4 [.agg [.int .i64 0,.int .i64 0,.str ⟨#[]⟩,.isl []]]]))) ?_ ?_ (t,v) h0
 ·intro i x r c hdr hi hx hI K hK
  have hw:=wrap_nat (n:=i + 1) (by omega)
  simp at hw
  have hmx : x ∈ path:=by rw [← hx]; exact List.getElem_mem hi
  obtain ⟨t1,v1⟩:=c
  obtain ⟨hq,hv,⟨k,hfit⟩,hgo⟩:=hI
  dsimp only at hq hv hfit hgo
  rw [hdr,goP] at hgo
  have hst:=fun ws h=>step_ok m hm hl hf hd t1 hq v1 hv k hfit x (hz x hmx) ws h
  obtain ⟨e,t2,v2,hsp⟩ : ∃ e t2 v2,stepP m t1 v1 x=(e,t2,v2):=⟨_,_,_,rfl⟩
  rw [hsp] at hgo hst
  dsimp only at hgo
  obtain ⟨T,V,hcall,hTV⟩:=hst h.length (h++[.arr 0 2 [m.enc],.arr 0 8 [t1.enc],.arr 0 4 [v1.enc],.arr 0 4 [.agg [.int .i64 0,.int .i64 0,.str ⟨#[]⟩,.isl []]]])
  dsimp only at hTV hcall
  simp [Md.enc] at hcall
  by_cases q : e=0
  ·obtain ⟨rfl,rfl⟩:=hTV q
   subst q
   rw [if_pos rfl] at hgo
   obtain ⟨hq2,hv2,hfit2⟩:=step_keeps m hm hl hf hd hq hfit hsp
   have hdr2 : path.drop (i + 1)=r:=by
    rw [List.drop_eq_getElem_cons hi] at hdr
    injection hdr
   obtain ⟨o,h4,h5⟩:=hK (T,V) ⟨hq2,by dsimp only; omega,hfit2,by dsimp only; rw [hdr2]; exact hgo⟩
   refine ⟨o,?_,h5⟩
   simp [Md.enc] at h4
   simp [c5L0,Md.enc,hi,hx,hw,hcall,h4]
  ·rw [if_neg q] at hgo
   rw [← hgo]
   simp only [q,if_false]
   refine ⟨_,?_,T,V,rfl⟩
   simp [c5L0,Md.enc,hi,hx,hcall,q]
 ·intro c K hI
  obtain ⟨hq,hv,hfit,hgo⟩:=hI
  rw [List.drop_length,goP] at hgo
  rw [← hgo]
  simp only [if_true]
  refine ⟨_,?_,c.1,rfl⟩
  simp [c5L0,Md.enc]
def atP (m : Md) (t : Ty) (v : Val) (path : List ByteArray) : Int × Val:=if askE m t v=0 then goP m t v path else (askE m t v,.mk 0 0 ⟨#[]⟩ [])
theorem goP_err (m : Md) : ∀ (path : List ByteArray) (t : Ty) (v : Val),¬ (goP m t v path).1=0→(goP m t v path).2 = .mk 0 0 ⟨#[]⟩ []
 | [],t,v,h=>absurd rfl h
 | s :: r,t,v,h=>by
  rw [goP] at h ⊢
  obtain ⟨e,t2,v2,hsp⟩ : ∃ e t2 v2,stepP m t v s=(e,t2,v2):=⟨_,_,_,rfl⟩
  rw [hsp] at h ⊢
  dsimp only at h ⊢
  split
  ·rename_i q; rw [if_pos q] at h; exact goP_err m r t2 v2 h
  ·rfl
theorem askE_zero {m : Md} {t : Ty} {v : Val} (h : askE m t v=0) : errM m=0∧errT m t=0∧fitB m v.size t v=true:=by
 unfold askE at h
 by_cases q : errC m t=0
 ·rw [if_pos q] at h
  refine ⟨(errC_zero q).1,(errC_zero q).2,?_⟩
  cases hb : fitB m v.size t v
  ·rw [hb] at h; simp [toldP] at h
  ·rfl
 ·rw [if_neg q] at h; exact absurd h q
theorem zero_size : (Val.mk 0 0 ⟨#[]⟩ []).size≤1048576:=by
 rw [Val.size_eq]
 have : (⟨#[]⟩ : ByteArray).size=0:=rfl
 simp only [Val.bytes_mk,Val.items_mk,Val.sizeL,this]
 omega
theorem goP_size (m : Md) (hm : m.ok) (hl : m.lim) (hf : m.fm) (hd : m.df) : ∀ (path : List ByteArray) (t : Ty) (v : Val) (k : Nat),QP m t→v.size≤1048576→fitB m k t v=true→(goP m t v path).2.size≤1048576
 | [],t,v,k,_,hv,_=>hv
 | s :: r,t,v,k,hq,hv,hfit=>by
  rw [goP]
  obtain ⟨e,t2,v2,hsp⟩ : ∃ e t2 v2,stepP m t v s=(e,t2,v2):=⟨_,_,_,rfl⟩
  rw [hsp]
  dsimp only
  split
  ·rename_i q
   subst q
   obtain ⟨h1,h2,j,h3⟩:=step_keeps m hm hl hf hd hq hfit hsp
   exact goP_size m hm hl hf hd r t2 v2 j h1 (by omega) h3
  ·exact zero_size
theorem QP_of {m : Md} {t : Ty} (hs : t.size≤1048576) (h : errT m t=0) : QP m t:=⟨Nat.le_trans t.wid_le hs,lim_nodes (errT_zero h).1,(errT_zero h).2,errT_dif h⟩
theorem at_ok (m : Md) (hm : m.ok) (t : Ty) (hs : t.size≤1048576) (v : Val) (hv : v.size≤1048576) (path : List ByteArray) (hp : path.length≤1048576) (hz : ∀ s ∈ path,s.size≤1048576) (ws : Nat) (h : Avm.H) : callL cfg ws 5 [m.enc,t.enc,v.enc,.isl (path.map .str)] h=some (.tup [(atP m t v path).2.enc,.int .i64 (atP m t v path).1],h):=by
 have e1:=fun ws h=>asked_ok m hm t hs v hv ws h
 unfold atP
 refine callL_fn rfl rfl ?_
 by_cases q : askE m t v=0
 ·rw [if_pos q]
  rw [q] at e1
  obtain ⟨q1,q2,q3⟩:=askE_zero q
  have hl:=lim_of (errM_zero q1).1
  have hf:=fm_of (errM_zero q1).2
  have hd:=errM_dup q1
  obtain ⟨o,h4,h5⟩:=at_loop m hm hl hf hd t v path hp hz h ⟨QP_of hs q2,hv,⟨_,q3⟩,rfl⟩
  have hsz:=goP_size m hm hl hf hd path t v _ (QP_of hs q2) hv q3
  have her:=goP_err m path t v
  obtain ⟨E,W,hR⟩ : ∃ E W,goP m t v path=(E,W):=⟨_,_,rfl⟩
  rw [hR] at h5 hsz her ⊢
  dsimp only at h5 hsz her ⊢
  simp [Md.enc] at e1
  by_cases qe : E=0
  ·subst qe
   rw [if_pos rfl] at h5
   obtain ⟨T,rfl⟩:=h5
   have e2:=fun ws h=>copied_ok _ W (Nat.le_refl _) hsz ws h
   simp [Md.enc] at h4 e2
   simp [F5,c5,Md.enc,e1,h4,e2]
  ·rw [if_neg qe] at h5
   obtain ⟨T,V,rfl⟩:=h5
   rw [her qe]
   simp [Md.enc] at h4
   simp [F5,c5,Md.enc,e1,h4]
 ·rw [if_neg q]
  simp [Md.enc] at e1
  simp [F5,c5,Md.enc,e1,q]
end Go.Proofs.YteihdlcpfghmhaaGreatDoor
namespace Go.Proofs.YteihdlcpfghmhaaGreatDoor
open Go Go.Avm
def lastI (s : ByteArray) : Nat→Int→List It→Int
 | _,a,[]=>a
 | i,a,x :: r=>lastI s (i + 1) (if eqS x.name s then (i : Int) else a) r
theorem lastI_none (s : ByteArray) : ∀ (l : List It) (i : Nat) (a : Int),l.findIdx? (fun i=>eqS i.name s)=none→lastI s i a l=a
 | [],i,a,_=>rfl
 | x :: r,i,a,h=>by
  rw [List.findIdx?_cons] at h
  cases q : eqS x.name s
  ·rw [q] at h
   simp at h
   rw [lastI,q]
   exact lastI_none s r (i + 1) a (by simpa using h)
  ·rw [q] at h; simp at h
theorem lastI_eq (s : ByteArray) : ∀ (l : List It) (i : Nat) (a : Int),distinct (l.map It.name)=true→∀ j,l.findIdx? (fun i=>eqS i.name s)=some j→lastI s i a l=((i + j : Nat) : Int)
 | [],i,a,_,j,h=>by simp at h
 | x :: r,i,a,hd,j,h=>by
  rw [List.map_cons,distinct,Bool.and_eq_true] at hd
  rw [List.findIdx?_cons] at h
  cases q : eqS x.name s
  ·rw [q] at h
   simp only [Bool.false_eq_true,if_false,Option.map_eq_some_iff] at h
   obtain ⟨j',h1,rfl⟩:=h
   rw [lastI,q,lastI_eq s r (i + 1) _ hd.2 j' h1]
   congr 1; omega
  ·rw [q] at h
   simp only [if_true,Option.some.injEq] at h
   subst h
   have hxs:=eqS_eq q
   rw [lastI,q]
   refine (lastI_none s r (i + 1) _ ?_).trans rfl
   rw [List.findIdx?_eq_none_iff]
   intro y hy
   have h2:=List.all_eq_true.1 hd.1 y.name (List.mem_map_of_mem hy)
   cases q2 : eqS y.name s
   ·rfl
   ·have:=eqS_eq q2
    rw [hxs,this] at h2
    simp at h2
theorem rat_inner (m : Md) (b : Ty) (v : Val) (path : List ByteArray) (k : Nat) (s : ByteArray) (hks : k < path.length) (hs : path[k]=s) (hkind : b.kind=8 ∨ b.kind=9) (hl : b.items.length≤1048576) (h : Avm.H) : roundsL (evC (callL cfg) roundsL cfg.pol h.length h.length c6L0) [3,4,5,6,8,11,14,15] [(3,.isl (path.map .str)),(4,.ptr h.length 0 2 0 0),(5,.ptr (h.length + 1) 0 8 0 0),(6,.ptr (h.length + 2) 0 4 0 0),(8,.ptr (h.length + 3) 0 4 0 0),(11,.int .i64 k),(14,.int .i64 (-1)),(15,.int .i64 (0 : Nat))] (h++[.arr 0 2 [m.enc],.arr 0 8 [b.enc],.arr 0 4 [v.enc],.arr 0 4 [.agg [.int .i64 0,.int .i64 0,.str ⟨#[]⟩,.isl []]]])=some (.exit 2,[(3,.isl (path.map .str)),(4,.ptr h.length 0 2 0 0),(5,.ptr (h.length + 1) 0 8 0 0),(6,.ptr (h.length + 2) 0 4 0 0),(8,.ptr (h.length + 3) 0 4 0 0),(11,.int .i64 k),(14,.int .i64 (lastI s 0 (-1) b.items)),(15,.int .i64 b.items.length)],(h++[.arr 0 2 [m.enc],.arr 0 8 [b.enc],.arr 0 4 [v.enc],.arr 0 4 [.agg [.int .i64 0,.int .i64 0,.str ⟨#[]⟩,.isl []]]])):=by
 generalize hL : lastI s 0 (-1) b.items=L
 have hlp:=loop_post (γ:=Int) (f:=evC (callL cfg) roundsL cfg.pol h.length h.length c6L0) (keep:=[3,4,5,6,8,11,14,15]) b.items (fun i c=>lastI s i c (b.items.drop i)=L)
     (fun i c=>[(3,.isl (path.map .str)),(4,.ptr h.length 0 2 0 0),(5,.ptr (h.length + 1) 0 8 0 0),(6,.ptr (h.length + 2) 0 4 0 0),(8,.ptr (h.length + 3) 0 4 0 0),(11,.int .i64 k),(14,.int .i64 c),(15,.int .i64 i)]) (fun _ _=>(h++[.arr 0 2 [m.enc],.arr 0 8 [b.enc],.arr 0 4 [v.enc],.arr 0 4 [.agg [.int .i64 0,.int .i64 0,.str ⟨#[]⟩,.isl []]]]))
     (fun _ _ o=>o=(.exit 2,[(3,.isl (path.map .str)),(4,.ptr h.length 0 2 0 0),(5,.ptr (h.length + 1) 0 8 0 0),(6,.ptr (h.length + 2) 0 4 0 0),(8,.ptr (h.length + 3) 0 4 0 0),(11,.int .i64 k),(14,.int .i64 L),(15,.int .i64 b.items.length)],(h++[.arr 0 2 [m.enc],.arr 0 8 [b.enc],.arr 0 4 [v.enc],.arr 0 4 [.agg [.int .i64 0,.int .i64 0,.str ⟨#[]⟩,.isl []]]]))) ?_ ?_ (-1) hL
 ·obtain ⟨o,h1,h2⟩:=hlp
  rw [h1,h2]
 ·intro i x r c hd hi hx hI K hK
  have hw:=wrap_nat (n:=i + 1) (by omega)
  simp at hw
  have hd2 : b.items.drop (i + 1)=r:=by
   rw [List.drop_eq_getElem_cons hi] at hd
   injection hd
  rw [hd,lastI] at hI
  have hkb : (decide (b.kind=8) || decide (b.kind=9))=true:=by rcases hkind with q | q <;> simp [q]
  cases q : eqS x.name s
  ·rw [q] at hI
   obtain ⟨o,h4,h5⟩:=hK c (by rw [hd2]; exact hI)
   refine ⟨o,?_,h5⟩
   have q' : ¬ x.name.toList=s.toList:=by unfold eqS at q; simpa using q
   rcases hkind with qk | qk <;> simp [Md.enc,qk] at h4 <;> simp [c6L0,Md.enc,qk,hi,hx,hks,hs,q',hw,h4]
  ·rw [q] at hI
   obtain ⟨o,h4,h5⟩:=hK i (by rw [hd2]; exact hI)
   refine ⟨o,?_,h5⟩
   have q' : x.name.toList=s.toList:=by unfold eqS at q; simpa using q
   rcases hkind with qk | qk <;> simp [Md.enc,qk] at h4 <;> simp [c6L0,Md.enc,qk,hi,hx,hks,hs,q',hw,h4]
 ·intro c K hI
  rw [List.drop_length,lastI] at hI
  subst hI
  refine ⟨_,?_,rfl⟩
  rcases hkind with qk | qk <;> simp [c6L0,Md.enc,qk]
theorem rat_inner0 (m : Md) (b : Ty) (v : Val) (path : List ByteArray) (k : Nat) (h8 : ¬ b.kind=8) (h9 : ¬ b.kind=9) (h : Avm.H) : roundsL (evC (callL cfg) roundsL cfg.pol h.length h.length c6L0) [3,4,5,6,8,11,14,15] [(3,.isl (path.map .str)),(4,.ptr h.length 0 2 0 0),(5,.ptr (h.length + 1) 0 8 0 0),(6,.ptr (h.length + 2) 0 4 0 0),(8,.ptr (h.length + 3) 0 4 0 0),(11,.int .i64 k),(14,.int .i64 (-1)),(15,.int .i64 (0 : Nat))] (h++[.arr 0 2 [m.enc],.arr 0 8 [b.enc],.arr 0 4 [v.enc],.arr 0 4 [.agg [.int .i64 0,.int .i64 0,.str ⟨#[]⟩,.isl []]]])=some (.exit 2,[(3,.isl (path.map .str)),(4,.ptr h.length 0 2 0 0),(5,.ptr (h.length + 1) 0 8 0 0),(6,.ptr (h.length + 2) 0 4 0 0),(8,.ptr (h.length + 3) 0 4 0 0),(11,.int .i64 k),(14,.int .i64 (-1)),(15,.int .i64 (0 : Nat))],(h++[.arr 0 2 [m.enc],.arr 0 8 [b.enc],.arr 0 4 [v.enc],.arr 0 4 [.agg [.int .i64 0,.int .i64 0,.str ⟨#[]⟩,.isl []]]])):=
 roundsL_k fun K hK=>by simp [c6L0,Md.enc,h8,h9]
theorem rat_7a (m : Md) (hm : m.ok) (hl : m.lim) (hf : m.fm) (t b : Ty) (hq : QP m t) (hb : beh m 21 t=some b) (v : Val) (path : List ByteArray) (hp : path.length≤1048576) (i : Nat) (hi : i < path.length) (s : ByteArray) (hx : path[i]=s) (hs : s.size≤1048576) (hk : b.kind=7) (hd : decP s.data.toList=false) (h : Avm.H) (K : Env→Avm.H→Out) : andThen (evC (callL cfg) roundsL cfg.pol h.length h.length c6L1 (Env.keep [3,4,5,6,8,11] [(3,.isl (path.map .str)),(4,.ptr h.length 0 2 0 0),(5,.ptr (h.length + 1) 0 8 0 0),(6,.ptr (h.length + 2) 0 4 0 0),(8,.ptr (h.length + 3) 0 4 0 0),(11,.int .i64 i)]) (h++[.arr 0 2 [m.enc],.arr 0 8 [t.enc],.arr 0 4 [v.enc],.arr 0 4 [.agg [.int .i64 0,.int .i64 0,.str ⟨#[]⟩,.isl []]]])) K=some (.ret,[(8,.ptr (h.length + 3) 0 4 0 0),(9,.int .i64 6)],(h++[.arr 0 2 [m.enc],.arr 0 8 [b.enc],.arr 0 4 [v.enc],.arr 0 4 [.agg [.int .i64 0,.int .i64 0,.str ⟨#[]⟩,.isl []]]])):=by
 have hw:=wrap_nat (n:=i + 1) (by omega)
 simp at hw
 have e1:=fun ws h=>root_beh m hm hl hf t hq.wid hq.nodes ws h
 simp [hb,Md.enc] at e1
 have e4:=fun ws h=>rindex_ok s hs ws h
 simp only [hd,Bool.false_eq_true,if_false] at e4
 simp [c6L1,Md.enc,hi,hx,e1,hk,e4]
theorem rat_7b (m : Md) (hm : m.ok) (hl : m.lim) (hf : m.fm) (t b : Ty) (hq : QP m t) (hb : beh m 21 t=some b) (v : Val) (path : List ByteArray) (hp : path.length≤1048576) (i : Nat) (hi : i < path.length) (s : ByteArray) (hx : path[i]=s) (hs : s.size≤1048576) (hk : b.kind=7) (hd : decP s.data.toList=true) (n : Nat) (x : Val) (k : Ty) (r : List Ty) (hn : satN 0 s.data.toList=n) (hxn : v.items[n]? = some x) (hks : b.kids=k :: r) (h : Avm.H) (K : Env→Avm.H→Out) (o : Ex × Env × Avm.H) (hK : K [(3,.isl (path.map .str)),(4,.ptr h.length 0 2 0 0),(5,.ptr (h.length + 1) 0 8 0 0),(6,.ptr (h.length + 2) 0 4 0 0),(8,.ptr (h.length + 3) 0 4 0 0),(11,.int .i64 ((i + 1 : Nat) : Int))] (h++[.arr 0 2 [m.enc],.arr 0 8 [k.enc],.arr 0 4 [x.enc],.arr 0 4 [.agg [.int .i64 0,.int .i64 0,.str ⟨#[]⟩,.isl []]]])=some o) : andThen (evC (callL cfg) roundsL cfg.pol h.length h.length c6L1 (Env.keep [3,4,5,6,8,11] [(3,.isl (path.map .str)),(4,.ptr h.length 0 2 0 0),(5,.ptr (h.length + 1) 0 8 0 0),(6,.ptr (h.length + 2) 0 4 0 0),(8,.ptr (h.length + 3) 0 4 0 0),(11,.int .i64 i)]) (h++[.arr 0 2 [m.enc],.arr 0 8 [t.enc],.arr 0 4 [v.enc],.arr 0 4 [.agg [.int .i64 0,.int .i64 0,.str ⟨#[]⟩,.isl []]]])) K=some o:=by
 have hw:=wrap_nat (n:=i + 1) (by omega)
 simp at hw
 have e1:=fun ws h=>root_beh m hm hl hf t hq.wid hq.nodes ws h
 simp [hb,Md.enc] at e1
 have e4:=fun ws h=>rindex_ok s hs ws h
 simp only [hd,if_true,hn] at e4
 have hlt : n < v.items.length:=(List.getElem?_eq_some_iff.1 hxn).1
 have hxx : v.items[n]=x:=(List.getElem?_eq_some_iff.1 hxn).2
 have hnl : ¬ v.items.length≤n:=by omega
 simp [Md.enc] at hK
 simp [c6L1,Md.enc,hi,hx,hw,e1,hk,e4,hks,hlt,hxn,hxx,hnl,hK]
theorem rat_7c (m : Md) (hm : m.ok) (hl : m.lim) (hf : m.fm) (t b : Ty) (hq : QP m t) (hb : beh m 21 t=some b) (v : Val) (path : List ByteArray) (hp : path.length≤1048576) (i : Nat) (hi : i < path.length) (s : ByteArray) (hx : path[i]=s) (hs : s.size≤1048576) (hk : b.kind=7) (hd : decP s.data.toList=true) (hn : v.items.length≤satN 0 s.data.toList) (h : Avm.H) (K : Env→Avm.H→Out) : andThen (evC (callL cfg) roundsL cfg.pol h.length h.length c6L1 (Env.keep [3,4,5,6,8,11] [(3,.isl (path.map .str)),(4,.ptr h.length 0 2 0 0),(5,.ptr (h.length + 1) 0 8 0 0),(6,.ptr (h.length + 2) 0 4 0 0),(8,.ptr (h.length + 3) 0 4 0 0),(11,.int .i64 i)]) (h++[.arr 0 2 [m.enc],.arr 0 8 [t.enc],.arr 0 4 [v.enc],.arr 0 4 [.agg [.int .i64 0,.int .i64 0,.str ⟨#[]⟩,.isl []]]])) K=some (.ret,[(8,.ptr (h.length + 3) 0 4 0 0),(9,.int .i64 3)],(h++[.arr 0 2 [m.enc],.arr 0 8 [b.enc],.arr 0 4 [v.enc],.arr 0 4 [.agg [.int .i64 0,.int .i64 0,.str ⟨#[]⟩,.isl []]]])):=by
 have hw:=wrap_nat (n:=i + 1) (by omega)
 simp at hw
 have e1:=fun ws h=>root_beh m hm hl hf t hq.wid hq.nodes ws h
 simp [hb,Md.enc] at e1
 have e4:=fun ws h=>rindex_ok s hs ws h
 simp only [hd,if_true] at e4
 generalize satN 0 s.data.toList=n at *
 simp [c6L1,Md.enc,hi,hx,e1,hk,e4,hn]
theorem rat_8a (m : Md) (hm : m.ok) (hl : m.lim) (hf : m.fm) (t b : Ty) (hq : QP m t) (hb : beh m 21 t=some b) (v : Val) (path : List ByteArray) (hp : path.length≤1048576) (i : Nat) (hi : i < path.length) (s : ByteArray) (hx : path[i]=s) (hs : s.size≤1048576) (hbl : b.items.length≤1048576) (hk : b.kind=8) (hla : lastI s 0 (-1) b.items = -1) (h : Avm.H) (K : Env→Avm.H→Out) : andThen (evC (callL cfg) roundsL cfg.pol h.length h.length c6L1 (Env.keep [3,4,5,6,8,11] [(3,.isl (path.map .str)),(4,.ptr h.length 0 2 0 0),(5,.ptr (h.length + 1) 0 8 0 0),(6,.ptr (h.length + 2) 0 4 0 0),(8,.ptr (h.length + 3) 0 4 0 0),(11,.int .i64 i)]) (h++[.arr 0 2 [m.enc],.arr 0 8 [t.enc],.arr 0 4 [v.enc],.arr 0 4 [.agg [.int .i64 0,.int .i64 0,.str ⟨#[]⟩,.isl []]]])) K=some (.ret,[(8,.ptr (h.length + 3) 0 4 0 0),(9,.int .i64 6)],(h++[.arr 0 2 [m.enc],.arr 0 8 [b.enc],.arr 0 4 [v.enc],.arr 0 4 [.agg [.int .i64 0,.int .i64 0,.str ⟨#[]⟩,.isl []]]])):=by
 have hw:=wrap_nat (n:=i + 1) (by omega)
 simp at hw
 have e1:=fun ws h=>root_beh m hm hl hf t hq.wid hq.nodes ws h
 simp [hb,Md.enc] at e1
 have hin:=rat_inner m b v path i s hi hx (.inl hk) hbl h
 rw [hla] at hin
 simp [Md.enc,hk] at hin
 simp [c6L1,Md.enc,hi,hx,e1,hk,hin]
theorem rat_8b (m : Md) (hm : m.ok) (hl : m.lim) (hf : m.fm) (t b : Ty) (hq : QP m t) (hb : beh m 21 t=some b) (v : Val) (path : List ByteArray) (hp : path.length≤1048576) (i : Nat) (hi : i < path.length) (s : ByteArray) (hx : path[i]=s) (hs : s.size≤1048576) (hbl : b.items.length≤1048576) (hk : b.kind=8) (j : Nat) (hla : lastI s 0 (-1) b.items=(j : Int)) (x : Val) (hxj : v.items[j]? = some x) (h12 : x.kind=12) (h : Avm.H) (K : Env→Avm.H→Out) : andThen (evC (callL cfg) roundsL cfg.pol h.length h.length c6L1 (Env.keep [3,4,5,6,8,11] [(3,.isl (path.map .str)),(4,.ptr h.length 0 2 0 0),(5,.ptr (h.length + 1) 0 8 0 0),(6,.ptr (h.length + 2) 0 4 0 0),(8,.ptr (h.length + 3) 0 4 0 0),(11,.int .i64 i)]) (h++[.arr 0 2 [m.enc],.arr 0 8 [t.enc],.arr 0 4 [v.enc],.arr 0 4 [.agg [.int .i64 0,.int .i64 0,.str ⟨#[]⟩,.isl []]]])) K=some (.ret,[(8,.ptr (h.length + 3) 0 4 0 0),(9,.int .i64 3)],(h++[.arr 0 2 [m.enc],.arr 0 8 [b.enc],.arr 0 4 [v.enc],.arr 0 4 [.agg [.int .i64 0,.int .i64 0,.str ⟨#[]⟩,.isl []]]])):=by
 have hw:=wrap_nat (n:=i + 1) (by omega)
 simp at hw
 have e1:=fun ws h=>root_beh m hm hl hf t hq.wid hq.nodes ws h
 simp [hb,Md.enc] at e1
 have hin:=rat_inner m b v path i s hi hx (.inl hk) hbl h
 rw [hla] at hin
 simp [Md.enc,hk] at hin
 have hlt : j < v.items.length:=(List.getElem?_eq_some_iff.1 hxj).1
 have hxx : v.items[j]=x:=(List.getElem?_eq_some_iff.1 hxj).2
 simp [c6L1,Md.enc,hi,hx,e1,hk,hin,hlt,hxj,hxx,h12]
theorem rat_8c (m : Md) (hm : m.ok) (hl : m.lim) (hf : m.fm) (t b : Ty) (hq : QP m t) (hb : beh m 21 t=some b) (v : Val) (path : List ByteArray) (hp : path.length≤1048576) (i : Nat) (hi : i < path.length) (s : ByteArray) (hx : path[i]=s) (hs : s.size≤1048576) (hbl : b.items.length≤1048576) (hk : b.kind=8) (j : Nat) (hla : lastI s 0 (-1) b.items=(j : Int)) (y : It) (hyj : b.items[j]? = some y) (x : Val) (hxj : v.items[j]? = some x) (h12 : ¬ x.kind=12) (h : Avm.H) (K : Env→Avm.H→Out) (o : Ex × Env × Avm.H) (hK : K [(3,.isl (path.map .str)),(4,.ptr h.length 0 2 0 0),(5,.ptr (h.length + 1) 0 8 0 0),(6,.ptr (h.length + 2) 0 4 0 0),(8,.ptr (h.length + 3) 0 4 0 0),(11,.int .i64 ((i + 1 : Nat) : Int))] (h++[.arr 0 2 [m.enc],.arr 0 8 [y.of.enc],.arr 0 4 [x.enc],.arr 0 4 [.agg [.int .i64 0,.int .i64 0,.str ⟨#[]⟩,.isl []]]])=some o) : andThen (evC (callL cfg) roundsL cfg.pol h.length h.length c6L1 (Env.keep [3,4,5,6,8,11] [(3,.isl (path.map .str)),(4,.ptr h.length 0 2 0 0),(5,.ptr (h.length + 1) 0 8 0 0),(6,.ptr (h.length + 2) 0 4 0 0),(8,.ptr (h.length + 3) 0 4 0 0),(11,.int .i64 i)]) (h++[.arr 0 2 [m.enc],.arr 0 8 [t.enc],.arr 0 4 [v.enc],.arr 0 4 [.agg [.int .i64 0,.int .i64 0,.str ⟨#[]⟩,.isl []]]])) K=some o:=by
 have hw:=wrap_nat (n:=i + 1) (by omega)
 simp at hw
 have e1:=fun ws h=>root_beh m hm hl hf t hq.wid hq.nodes ws h
 simp [hb,Md.enc] at e1
 have hin:=rat_inner m b v path i s hi hx (.inl hk) hbl h
 rw [hla] at hin
 simp [Md.enc,hk] at hin
 have hlt : j < v.items.length:=(List.getElem?_eq_some_iff.1 hxj).1
 have hxx : v.items[j]=x:=(List.getElem?_eq_some_iff.1 hxj).2
 have hlt2 : j < b.items.length:=(List.getElem?_eq_some_iff.1 hyj).1
 have hyy : b.items[j]=y:=(List.getElem?_eq_some_iff.1 hyj).2
 simp [Md.enc] at hK
 simp [c6L1,Md.enc,hi,hx,hw,e1,hk,hin,hlt,hxj,hxx,hlt2,hyj,hyy,h12,hK]
theorem rat_9a (m : Md) (hm : m.ok) (hl : m.lim) (hf : m.fm) (t b : Ty) (hq : QP m t) (hb : beh m 21 t=some b) (v : Val) (path : List ByteArray) (hp : path.length≤1048576) (i : Nat) (hi : i < path.length) (s : ByteArray) (hx : path[i]=s) (hs : s.size≤1048576) (hbl : b.items.length≤1048576) (hk : b.kind=9) (hla : lastI s 0 (-1) b.items = -1) (h : Avm.H) (K : Env→Avm.H→Out) : andThen (evC (callL cfg) roundsL cfg.pol h.length h.length c6L1 (Env.keep [3,4,5,6,8,11] [(3,.isl (path.map .str)),(4,.ptr h.length 0 2 0 0),(5,.ptr (h.length + 1) 0 8 0 0),(6,.ptr (h.length + 2) 0 4 0 0),(8,.ptr (h.length + 3) 0 4 0 0),(11,.int .i64 i)]) (h++[.arr 0 2 [m.enc],.arr 0 8 [t.enc],.arr 0 4 [v.enc],.arr 0 4 [.agg [.int .i64 0,.int .i64 0,.str ⟨#[]⟩,.isl []]]])) K=some (.ret,[(8,.ptr (h.length + 3) 0 4 0 0),(9,.int .i64 6)],(h++[.arr 0 2 [m.enc],.arr 0 8 [b.enc],.arr 0 4 [v.enc],.arr 0 4 [.agg [.int .i64 0,.int .i64 0,.str ⟨#[]⟩,.isl []]]])):=by
 have hw:=wrap_nat (n:=i + 1) (by omega)
 simp at hw
 have e1:=fun ws h=>root_beh m hm hl hf t hq.wid hq.nodes ws h
 simp [hb,Md.enc] at e1
 have hin:=rat_inner m b v path i s hi hx (.inr hk) hbl h
 rw [hla] at hin
 simp [Md.enc,hk] at hin
 simp [c6L1,Md.enc,hi,hx,e1,hk,hin]
theorem rat_9b (m : Md) (hm : m.ok) (hl : m.lim) (hf : m.fm) (t b : Ty) (hq : QP m t) (hb : beh m 21 t=some b) (v : Val) (path : List ByteArray) (hp : path.length≤1048576) (i : Nat) (hi : i < path.length) (s : ByteArray) (hx : path[i]=s) (hs : s.size≤1048576) (hbl : b.items.length≤1048576) (hk : b.kind=9) (j : Nat) (hla : lastI s 0 (-1) b.items=(j : Int)) (hne : ¬ v.int=(j : Int)) (h : Avm.H) (K : Env→Avm.H→Out) : andThen (evC (callL cfg) roundsL cfg.pol h.length h.length c6L1 (Env.keep [3,4,5,6,8,11] [(3,.isl (path.map .str)),(4,.ptr h.length 0 2 0 0),(5,.ptr (h.length + 1) 0 8 0 0),(6,.ptr (h.length + 2) 0 4 0 0),(8,.ptr (h.length + 3) 0 4 0 0),(11,.int .i64 i)]) (h++[.arr 0 2 [m.enc],.arr 0 8 [t.enc],.arr 0 4 [v.enc],.arr 0 4 [.agg [.int .i64 0,.int .i64 0,.str ⟨#[]⟩,.isl []]]])) K=some (.ret,[(8,.ptr (h.length + 3) 0 4 0 0),(9,.int .i64 3)],(h++[.arr 0 2 [m.enc],.arr 0 8 [b.enc],.arr 0 4 [v.enc],.arr 0 4 [.agg [.int .i64 0,.int .i64 0,.str ⟨#[]⟩,.isl []]]])):=by
 have hw:=wrap_nat (n:=i + 1) (by omega)
 simp at hw
 have e1:=fun ws h=>root_beh m hm hl hf t hq.wid hq.nodes ws h
 simp [hb,Md.enc] at e1
 have hin:=rat_inner m b v path i s hi hx (.inr hk) hbl h
 rw [hla] at hin
 simp [Md.enc,hk] at hin
 simp [c6L1,Md.enc,hi,hx,e1,hk,hin,hne]
theorem rat_9c (m : Md) (hm : m.ok) (hl : m.lim) (hf : m.fm) (t b : Ty) (hq : QP m t) (hb : beh m 21 t=some b) (v : Val) (path : List ByteArray) (hp : path.length≤1048576) (i : Nat) (hi : i < path.length) (s : ByteArray) (hx : path[i]=s) (hs : s.size≤1048576) (hbl : b.items.length≤1048576) (hk : b.kind=9) (j : Nat) (hla : lastI s 0 (-1) b.items=(j : Int)) (he : v.int=(j : Int)) (y : It) (hyj : b.items[j]? = some y) (x : Val) (r : List Val) (hxs : v.items=x :: r) (h : Avm.H) (K : Env→Avm.H→Out) (o : Ex × Env × Avm.H) (hK : K [(3,.isl (path.map .str)),(4,.ptr h.length 0 2 0 0),(5,.ptr (h.length + 1) 0 8 0 0),(6,.ptr (h.length + 2) 0 4 0 0),(8,.ptr (h.length + 3) 0 4 0 0),(11,.int .i64 ((i + 1 : Nat) : Int))] (h++[.arr 0 2 [m.enc],.arr 0 8 [y.of.enc],.arr 0 4 [x.enc],.arr 0 4 [.agg [.int .i64 0,.int .i64 0,.str ⟨#[]⟩,.isl []]]])=some o) : andThen (evC (callL cfg) roundsL cfg.pol h.length h.length c6L1 (Env.keep [3,4,5,6,8,11] [(3,.isl (path.map .str)),(4,.ptr h.length 0 2 0 0),(5,.ptr (h.length + 1) 0 8 0 0),(6,.ptr (h.length + 2) 0 4 0 0),(8,.ptr (h.length + 3) 0 4 0 0),(11,.int .i64 i)]) (h++[.arr 0 2 [m.enc],.arr 0 8 [t.enc],.arr 0 4 [v.enc],.arr 0 4 [.agg [.int .i64 0,.int .i64 0,.str ⟨#[]⟩,.isl []]]])) K=some o:=by
 have hw:=wrap_nat (n:=i + 1) (by omega)
 simp at hw
 have e1:=fun ws h=>root_beh m hm hl hf t hq.wid hq.nodes ws h
 simp [hb,Md.enc] at e1
 have hin:=rat_inner m b v path i s hi hx (.inr hk) hbl h
 rw [hla] at hin
 simp [Md.enc,hk] at hin
 have hlt2 : j < b.items.length:=(List.getElem?_eq_some_iff.1 hyj).1
 have hyy : b.items[j]=y:=(List.getElem?_eq_some_iff.1 hyj).2
 rw [hxs] at hin
 simp [he] at hin
 simp [Md.enc] at hK
 simp [c6L1,Md.enc,hi,hx,hw,e1,hk,hin,he,hlt2,hyj,hyy,hxs,hK]
theorem rat_z (m : Md) (hm : m.ok) (hl : m.lim) (hf : m.fm) (t b : Ty) (hq : QP m t) (hb : beh m 21 t=some b) (v : Val) (path : List ByteArray) (hp : path.length≤1048576) (i : Nat) (hi : i < path.length) (s : ByteArray) (hx : path[i]=s) (hs : s.size≤1048576) (h7 : ¬ b.kind=7) (h8 : ¬ b.kind=8) (h9 : ¬ b.kind=9) (h : Avm.H) (K : Env→Avm.H→Out) : andThen (evC (callL cfg) roundsL cfg.pol h.length h.length c6L1 (Env.keep [3,4,5,6,8,11] [(3,.isl (path.map .str)),(4,.ptr h.length 0 2 0 0),(5,.ptr (h.length + 1) 0 8 0 0),(6,.ptr (h.length + 2) 0 4 0 0),(8,.ptr (h.length + 3) 0 4 0 0),(11,.int .i64 i)]) (h++[.arr 0 2 [m.enc],.arr 0 8 [t.enc],.arr 0 4 [v.enc],.arr 0 4 [.agg [.int .i64 0,.int .i64 0,.str ⟨#[]⟩,.isl []]]])) K=some (.ret,[(8,.ptr (h.length + 3) 0 4 0 0),(9,.int .i64 6)],(h++[.arr 0 2 [m.enc],.arr 0 8 [b.enc],.arr 0 4 [v.enc],.arr 0 4 [.agg [.int .i64 0,.int .i64 0,.str ⟨#[]⟩,.isl []]]])):=by
 have hw:=wrap_nat (n:=i + 1) (by omega)
 simp at hw
 have e1:=fun ws h=>root_beh m hm hl hf t hq.wid hq.nodes ws h
 simp [hb,Md.enc] at e1
 have hin:=rat_inner0 m b v path i h8 h9 h
 simp [Md.enc] at hin
 simp [c6L1,Md.enc,hi,hx,e1,h7,h8,h9,hin]
end Go.Proofs.YteihdlcpfghmhaaGreatDoor
