/- Check of a module, the document: loops, forms, defaults. -/
import Derived.Test.YtflbneepngjglaaGreatDoorR40
set_option linter.all false
namespace Go.Proofs.YtflbneepngjglaaGreatDoor
open Go Go.Avm
theorem withinQ_ok {g : FuncId} {k : Nat} {p : Ty→Bool} {cap' : List AV} (Q : Ty→Prop) (hQ : ∀ x y : Ty,Q x→y ∈ x.inner→Q y) (hs : Still cfg g) (hcp : pureL cap'=true) : ∀ (n : Nat) (t : Ty),t.size≤n→t.wid≤67108864→t.nodes≤67108864→Q t →
    (∀ x : Ty,Q x→x.size≤n→x.wid≤t.wid→x.nodes≤t.nodes→∀ ws h',callL cfg ws g (cap'.take k++([x.enc]++cap'.drop k)) h'=some (.bool (p x),h')) →
    ∀ ws h cap,snapL (snap h 7) cap=some cap'→callL cfg ws 82 [t.enc,.clos g k cap] h=some (.bool (t.allP p),h)
 | 0,t,ht,_,_,_,_,_,_,_,_=>by have:=t.size_pos; omega
 | n + 1,t,ht,hw0,hb,hq,hp,ws,h,cap,hcap=>by
  have hk:=kids_ok t hw0
  have hpt:=fun ws h=>hp t hq ht (Nat.le_refl _) (Nat.le_refl _) ws h
  have hlen:=t.len_inner
  have hsub : ∀ x ∈ t.inner,∀ ws h',callL cfg ws 158 [x.enc,.iptr [.clos g k cap']] h'=some (.bool (!(x.allP p)),h'):=fun x hx ws h'=>by
   have h1:=Ty.mem_inner hx
   have h2:=Ty.wid_inner hx
   have h3:=Ty.nodes_inner hx
   have hin:=fun h=>withinQ_ok Q hQ hs hcp n x (by omega) (by omega) (by omega) (hQ t x hq hx) (fun y hyq hy hyw hyn ws h'=>hp y hyq (by omega) (by omega) (by omega) ws h') h'.length h cap' (snapL_pure hcp)
   refine callL_fn rfl rfl ?_
   simp at hin
   simp [F158,c158,snapL_pure hcp,hcp,hin]
  have hct:=fun h cap2 (hcap2 : snapL (snap h 7) cap2=some [.iptr [.clos g k cap']])=>containsT_ok (k:=0) t.inner (by omega) (.inl rfl) h hcap2 (by simp [hcp]) (fun x hx ws h'=>by simpa using hsub x hx ws h')
  refine callL_fn rfl rfl ?_
  rw [Ty.allP_eq]
  simp at hk hpt
  have hpol:=hs
  cases hv : p t
  ·rw [hv] at hpt
   rcases hs with hs | ⟨b,hs⟩ <;> simp [F82,c82,hcap,hs,hpt]
  ·rw [hv] at hpt
   rcases hs with hs | ⟨b,hs⟩ <;> simp [F82,c82,hcap,hs,hpt,hk,hct,snapL_pure hcp,any_not]
def settleP (m : Md) (ps : List ByteArray) (t : Ty) : Bool:=!decide (t.kind=8) || t.items.all (dfltB m ps)
structure QT (t : Ty) : Prop where
 wid : t.wid≤67108864
 nodes : t.nodes≤600
 right : t.allP rightP=true
 size : t.size≤67108864
theorem QT.inner {t x : Ty} (h : QT t) (hx : x ∈ t.inner) : QT x:=
 ⟨Nat.le_trans (Ty.wid_inner hx) h.wid,by have:=Ty.nodes_inner hx; have:=h.nodes; omega,allP_inner h.right hx,by have:=Ty.mem_inner hx; have:=h.size; omega⟩
theorem QT.dflt {t : Ty} (h : QT t) {i : It} (hi : i ∈ t.items) : ∀ d ∈ i.dflt,d.size≤67108864:=fun d hd=>by
 have:=It.mem_dflt hd; have:=Ty.mem_items hi; have:=h.size; omega
theorem QT.record {t : Ty} (h : QT t) {i : It} (hi : i ∈ t.items) (hd : i.dflt ≠ []) : t.kind=8:=by
 have hr:=allP_self h.right
 by_cases hc : t.comp=true
 ·by_cases q8 : t.kind=8
  ·exact q8
  ·have q9 : t.kind=9:=by simpa [Ty.comp,q8] using hc
   unfold rightP at hr
   simp [q9] at hr
   have:=hr.2.2 i hi
   simp [plainI] at this
   exact absurd this.2 hd
 ·rcases right_items hr hc with h0 | h0
  ·rw [h0] at hi; cases hi
  ·have:=List.all_eq_true.1 h0 i hi
   simp [bareI] at this
   exact absurd this.2.2 hd
theorem QT.of {t : Ty} (h : QT t) {i : It} (hi : i ∈ t.items) (hd : i.dflt ≠ []) : QT i.of:=
 h.inner (by unfold Ty.inner; rw [if_pos (by unfold Ty.comp; simp [h.record hi hd])]; exact List.mem_append_right _ (List.mem_map_of_mem hi))
theorem settled_ok (m : Md) (hm : m.ok) (hf : m.fm) (ps : List ByteArray) (hp : ps.length≤67108864) (t : Ty) (hq : QT t) (ws : Nat) (h : Avm.H) : callL cfg ws 84 [.agg [.str m.name,.isl (m.defs.map Df.enc),.isl (ps.map .str)],t.enc] h=some (.bool (settleP m ps t),h):=by
 have hwi:=t.wid_items
 have hw:=hq.wid
 have h1 : ∀ i ∈ t.items,∀ ws h',callL cfg ws 164 [i.enc,.iptr [.str m.name,.isl (m.defs.map Df.enc),.isl (ps.map .str)]] h'=some (.bool (!dfltB m ps i),h'):=fun i hi ws h'=>by
  have e0:=fun ws h=>component_ok m hm hf ps hp i (Nat.le_trans (Ty.wid_itof hi) hw) (fun hd=>by have:=(hq.of hi hd).nodes; omega) (fun hd=>(hq.of hi hd).right) (hq.dflt hi) ws h
  simp at e0
  refine callL_fn rfl rfl ?_
  simp [F164,c164,e0]
 have hct:=fun h cap (hcap : snapL (snap h 7) cap=some [.iptr [.str m.name,.isl (m.defs.map Df.enc),.isl (ps.map .str)]]) ws=>containsI_ok (g:=164) (k:=0) (p:=fun i=>!dfltB m ps i) t.items (by omega) (.inl rfl) h hcap (by simp) (fun i hi ws h'=>by simpa using h1 i hi ws h') ws
 simp only [any_not] at hct
 refine callL_fn rfl rfl ?_
 unfold settleP
 generalize t.items.all (dfltB m ps)=A at hct ⊢
 by_cases q : t.kind=8
 ·simp [F84,c84,q,hct]
 ·simp [F84,c84,q]
end Go.Proofs.YtflbneepngjglaaGreatDoor
namespace Go.Proofs.YtflbneepngjglaaGreatDoor
open Go Go.Avm
end Go.Proofs.YtflbneepngjglaaGreatDoor
namespace Go.Proofs.YtflbneepngjglaaGreatDoor
open Go Go.Avm
end Go.Proofs.YtflbneepngjglaaGreatDoor
namespace Go.Proofs.YtflbneepngjglaaGreatDoor
open Go Go.Avm
def toldP (b : Bool) (e : Int) : Int:=if b=true then 0 else e
theorem told_ok (b : Bool) (e : Int) (ws : Nat) (h : Avm.H) : callL cfg ws 70 [.bool b,.int .i64 e] h=some (.int .i64 (toldP b e),h):=by
 refine callL_fn rfl rfl ?_
 unfold toldP
 cases b <;> simp [F70,c70]
def firstP : List Int→Int
 | []=>0
 | e :: l=>if e=0 then firstP l else e
def eI (l : List Int) : List AV:=l.map (.int .i64)
theorem first_loop (l : List Int) (hl0 : l.length≤67108864) (h : Avm.H) : ∃ o,roundsL (evC (callL cfg) roundsL cfg.pol h.length h.length c145L0) [5,6,7] [(5,.isl (eI l)),(6,.int .i64 l.length),(7,.int .i64 (0 : Nat))] h=some o∧(if firstP l=0 then o=(.exit 0,[(5,.isl (eI l)),(6,.int .i64 l.length),(7,.int .i64 l.length)],h) else o=(.ret,[(2,.int .i64 (firstP l))],h)):=by
 refine loop_post (γ:=Unit) (f:=evC (callL cfg) roundsL cfg.pol h.length h.length c145L0) (keep:=[5,6,7]) l (fun _ _=>True) (fun i _=>[(5,.isl (eI l)),(6,.int .i64 l.length),(7,.int .i64 i)]) (fun _ _=>h)
     (fun _ r o=>if firstP r=0 then o=(.exit 0,[(5,.isl (eI l)),(6,.int .i64 l.length),(7,.int .i64 l.length)],h) else o=(.ret,[(2,.int .i64 (firstP r))],h)) ?_ ?_ () trivial
 ·intro i x r c hd hi hx _ K hK
  have hw:=wrap_nat (n:=i + 1) (by omega)
  simp at hw
  by_cases q : x=0
  ·obtain ⟨o,h4,h5⟩:=hK () trivial
   refine ⟨o,?_,by simpa [firstP,q] using h5⟩
   simp [eI] at h4
   simp [c145L0,eI,hi,hx,q,hw,h4]
  ·refine ⟨_,?_,by simp [firstP,q]; rfl⟩
   simp [c145L0,eI,hi,hx,q]
 ·intro c K _
  refine ⟨_,?_,by simp [firstP]; rfl⟩
  simp [c145L0,eI]
theorem first_ok (l : List Int) (hl0 : l.length≤67108864) (ws : Nat) (h : Avm.H) : callL cfg ws 145 [.isl (eI l)] h=some (.int .i64 (firstP l),h):=by
 obtain ⟨o,hlp,ho⟩:=first_loop l hl0 h
 have hsn:=snapL_pure (h:=h) (n:=7) (pure_ints l)
 refine callL_fn rfl rfl ?_
 unfold eI at *
 by_cases q : firstP l=0
 ·rw [if_pos q] at ho
  subst ho
  rw [q]
  simp at hlp
  simp [F145,c145,hsn,hlp]
 ·rw [if_neg q] at ho
  subst ho
  simp at hlp
  simp [F145,c145,hsn,hlp]
end Go.Proofs.YtflbneepngjglaaGreatDoor
namespace Go.Proofs.YtflbneepngjglaaGreatDoor
open Go Go.Avm
def errT (m : Md) (t : Ty) : Int:=if limS t=false then 2 else if t.allP (nameP m [])=false then 6 else if t.allP difP=false then 7 else if (beh m 21 t).isSome=false then 13 else toldP (t.allP rightP && t.allP (settleP m [])) 1
theorem lim_nodes {t : Ty} (h : limS t=true) : t.nodes≤600:=by
 unfold limS at h
 simp only [Bool.and_eq_true,decide_eq_true_eq] at h
 exact h.1
theorem within_right (t : Ty) (hw : t.wid≤67108864) (hb : t.nodes≤67108864) (ws : Nat) (h : Avm.H) : callL cfg ws 82 [t.enc,.clos 83 0 []] h=some (.bool (t.allP rightP),h):=
 within_ok (cap':=[]) (k:=0) (.inl rfl) (by simp) _ t (Nat.le_refl _) hw hb (fun x _ hx _ ws h'=>by simpa using right_ok x (Nat.le_trans hx hw) ws h') ws h [] rfl
theorem within_settled (m : Md) (hm : m.ok) (hf : m.fm) (ps : List ByteArray) (hp : ps.length≤67108864) (t : Ty) (hq : QT t) (ws : Nat) (h : Avm.H) (c : AV) (hc : snap h 7 c=some (.agg [.str m.name,.isl (m.defs.map Df.enc),.isl (ps.map .str)])) : callL cfg ws 82 [t.enc,.clos 84 1 [c]] h=some (.bool (t.allP (settleP m ps)),h):=
 withinQ_ok (cap':=[.agg [.str m.name,.isl (m.defs.map Df.enc),.isl (ps.map .str)]]) (k:=1) QT (fun _ _ h1 h2=>h1.inner h2) (.inl rfl) (by simp) _ t (Nat.le_refl _) hq.wid (by have:=hq.nodes; omega) hq (fun x hxq _ _ _ ws h'=>by simpa using settled_ok m hm hf ps hp x hxq ws h') ws h [c] (by simp [snapL,hc])
theorem ctype_err (m : Md) (t : Ty) (e : Int) (he : e ≠ 0) (hc : ∀ ws h,callL cfg ws 78 [m.enc] h=some (.int .i64 e,h)) (ws : Nat) (h : Avm.H) : callL cfg ws 47 [m.enc,t.enc] h=some (.int .i64 e,h):=by
 simp [Md.enc] at hc
 refine callL_fn rfl rfl ?_
 simp [F47,c47,Md.enc,hc,he]
theorem ctype_ok (m : Md) (hm : m.ok) (hf : m.fm) (t : Ty) (hs : t.size≤67108864) (hc : ∀ ws h,callL cfg ws 78 [m.enc] h=some (.int .i64 0,h)) (ws : Nat) (h : Avm.H) : callL cfg ws 47 [m.enc,t.enc] h=some (.int .i64 (errT m t),h):=by
 have hw : t.wid≤67108864:=Nat.le_trans t.wid_le hs
 have hn : t.nodes≤67108864:=Nat.le_trans (Ty.nodes_le _ t (Nat.le_refl _)) hs
 have e1:=fun ws h=>limits_ok t hw hn ws h
 have e2:=fun ws h=>names_ok m [] hm (by simp) t hw hn ws h
 have e3:=fun ws h=>differ_ok t hw hn ws h
 have e4:=fun ws h=>behind_ok m hm t hw ws h
 have e5:=fun ws h=>within_right t hw hn ws h
 simp [Md.enc,Ty.zero] at hc e1 e2 e3 e4 e5
 refine callL_fn rfl rfl ?_
 unfold errT
 cases q1 : limS t
 ·rw [q1] at e1
  simp [F47,c47,Md.enc,Ty.zero,hc,e1]
 ·rw [q1] at e1
  cases q2 : t.allP (nameP m [])
  ·rw [q2] at e2
   simp [F47,c47,Md.enc,Ty.zero,hc,e1,e2]
  ·rw [q2] at e2
   cases q3 : t.allP difP
   ·rw [q3] at e3
    simp [F47,c47,Md.enc,Ty.zero,hc,e1,e2,e3]
   ·rw [q3] at e3
    cases q4 : (beh m 21 t).isSome
    ·rw [q4] at e4
     simp [F47,c47,Md.enc,Ty.zero,hc,e1,e2,e3,e4]
    ·rw [q4] at e4
     cases q5 : t.allP rightP
     ·rw [q5] at e5
      have e6:=told_ok false 1
      simp [F47,c47,Md.enc,Ty.zero,hc,e1,e2,e3,e4,e5,e6]
     ·rw [q5] at e5
      have hq : QT t:=⟨hw,lim_nodes q1,q5,hs⟩
      have e7:=fun ws h c hc=>within_settled m hm hf [] (by simp) t hq ws h c hc
      have e6:=told_ok (t.allP (settleP m [])) 1
      simp at e7 e6
      simp [F47,c47,Md.enc,Ty.zero,hc,e1,e2,e3,e4,e5,e6,e7]
end Go.Proofs.YtflbneepngjglaaGreatDoor
namespace Go.Proofs.YtflbneepngjglaaGreatDoor
open Go Go.Avm
end Go.Proofs.YtflbneepngjglaaGreatDoor
namespace Go.Proofs.YtflbneepngjglaaGreatDoor
open Go Go.Avm
@[irreducible] noncomputable def callA (ws : Nat) (g : FuncId) (args : List AV) (h : Avm.H) : Option (AV × Avm.H):=callL cfg ws g args h
def i64s : List AV→Option (List Int)
 | []=>some []
 | .int .i64 a :: l=>(i64s l).map (a :: ·)
 | _=>none
theorem i64s_eI : ∀ {l : List AV} {r : List Int},i64s l=some r→l=eI r
 | [],r,h=>by simp only [i64s,Option.some.injEq] at h; subst h; rfl
 | v :: l,r,h=>by
  unfold i64s at h
  split at h
  ·rename_i e; cases e
  ·rename_i a l' e
   cases e
   cases h1 : i64s l with
   | none=>rw [h1] at h; cases h
   | some q=>rw [h1] at h; cases h; rw [i64s_eI h1]; rfl
  ·cases h
theorem firstA (k ver ws n : Nat) (h : Avm.H) (hn : n≤67108864) : callL cfg ws 145 [.osl k ver 1 0 n] h=(match h[k]? with
    | some (.arr v 1 l)=>if v=ver∧l.length=n then (match i64s l with | some r=>some (.int .i64 (firstP r),h) | none=>callA ws 145 [.osl k ver 1 0 n] h) else callA ws 145 [.osl k ver 1 0 n] h
    | _=>callA ws 145 [.osl k ver 1 0 n] h):=by
 have hA : callA ws 145 [.osl k ver 1 0 n] h=callL cfg ws 145 [.osl k ver 1 0 n] h:=by unfold callA; rfl
 rw [hA]
 split
 ·rename_i v l hb
  split
  ·rename_i hv
   split
   ·rename_i r hr
    have hl:=i64s_eI hr
    have hrl : r.length≤67108864:=by have:=hv.2; rw [hl] at this; simp [eI] at this; omega
    rw [callL_snap (F:=F145) rfl rfl rfl (args':=[.isl (eI r)]) (by
     have e1 : snap h deep (.osl k ver 1 0 n)=some (.isl (eI r)):=by
      have hp:=snapL_pure (h:=h) (n:=7) (pure_ints r)
      simp [deep,look,hb,hv.1,← hv.2,hl]
      unfold eI
      rw [hp]
     have e2 : snap h deep (.isl (eI r))=some (.isl (eI r)):=snap_pure (by simpa [eI] using pure_ints r)
     simp only [snapL,e1,e2])]
    exact first_ok r hrl ws h
   ·rfl
  ·rfl
 ·rfl
theorem first_told (a b : Bool) (e : Int) (he : e ≠ 0) : firstP [toldP a e,toldP b e]=toldP (a && b) e:=by
 cases a <;> cases b <;> simp [firstP,toldP,he]
theorem strs_pure : ∀ l : List ByteArray,pureL (l.map .str)=true
 | []=>rfl
 | x :: l=>by simpa using strs_pure l
theorem allgreat_ok (l : List ByteArray) (hl : l.length≤67108864) (hz : ∀ s ∈ l,s.size≤67108864) (ws : Nat) (h : Avm.H) : callL cfg ws 146 [.isl (l.map .str),.clos 147 0 []] h=some (.bool (!l.all greatB),h):=by
 have h1:=containsFunc_gen (K:=226) (J:=146) (cfg:=cfg) (g:=147) (k:=0) (cap:=[]) (cap':=[]) (enc:=AV.str) (p:=fun s=>!greatB s) (l:=l) (sz:=1) (ag:=false) rfl rfl rfl rfl hl (strs_pure l) (fun x _=>by simp) (.inl rfl) (h:=h) rfl rfl (fun x hx ws h'=>by
  have e0:=fun ws h=>great_ok x (hz x hx) ws h
  simp only [List.take_zero,List.drop_zero,List.nil_append,List.append_nil]
  refine callL_fn rfl rfl ?_
  simp [F147,c147,e0]) ws
 rw [h1,any_not]
def limD (d : Df) : Bool:=decide (d.params.length≤20) && limS d.of
def namD (m : Md) (d : Df) : Bool:=greatB d.name && (d.params.all greatB && d.of.allP (nameP m d.params))
def dupD (d : Df) : Bool:=distinct d.params && d.of.allP difP
end Go.Proofs.YtflbneepngjglaaGreatDoor
namespace Go.Proofs.YtflbneepngjglaaGreatDoor
open Go Go.Avm
theorem check_loop0 (m : Md) (hm : m.ok) (h : Avm.H) : ∃ w g,SlcIn h.length 1 1 g (((m.defs).map Df.name).map .str) w∧roundsL (evC (callL cfg) roundsL cfg.pol h.length h.length c78L0) [1,3,4,5,6,7,8,30,31,32] [(1,.ptr h.length 0 2 0 0),(3,.int .i64 0),(4,.int .i64 (toldP (greatB m.name) 6)),(5,.int .i64 0),(6,.int .i64 0),(7,.int .i64 0),(8,.osl (h.length + 1) 0 1 0 0),(30,.isl (m.defs.map Df.enc)),(31,.int .i64 m.defs.length),(32,.int .i64 (0 : Nat))] (h++([.arr 0 2 [m.enc]]++[.arr 0 1 []]))=some (.exit 0,[(1,.ptr h.length 0 2 0 0),(3,.int .i64 (toldP ((m.defs.take m.defs.length).all limD) 2)),(4,.int .i64 (toldP (greatB m.name && (m.defs.take m.defs.length).all (namD m)) 6)),(5,.int .i64 (toldP ((m.defs.take m.defs.length).all dupD) 7)),(6,.int .i64 0),(7,.int .i64 0),(8,w),(30,.isl (m.defs.map Df.enc)),(31,.int .i64 m.defs.length),(32,.int .i64 m.defs.length)],h++([.arr 0 2 [m.enc]]++g)):=by
 have hl : m.defs.length≤67108864:=hm.len
 have hlp:=loop_post (γ:=AV × Avm.H) (f:=evC (callL cfg) roundsL cfg.pol h.length h.length c78L0) (keep:=[1,3,4,5,6,7,8,30,31,32]) m.defs
     (fun i c=>SlcIn h.length 1 1 c.2 (((m.defs.take i).map Df.name).map .str) c.1)
     (fun i c=>[(1,.ptr h.length 0 2 0 0),(3,.int .i64 (toldP ((m.defs.take i).all limD) 2)),(4,.int .i64 (toldP (greatB m.name && (m.defs.take i).all (namD m)) 6)),(5,.int .i64 (toldP ((m.defs.take i).all dupD) 7)),(6,.int .i64 0),(7,.int .i64 0),(8,c.1),(30,.isl (m.defs.map Df.enc)),(31,.int .i64 m.defs.length),(32,.int .i64 i)]) (fun _ c=>h++([.arr 0 2 [m.enc]]++c.2))
     (fun _ _ o=>∃ w g,SlcIn h.length 1 1 g (((m.defs).map Df.name).map .str) w∧o=(.exit 0,[(1,.ptr h.length 0 2 0 0),(3,.int .i64 (toldP ((m.defs.take m.defs.length).all limD) 2)),(4,.int .i64 (toldP (greatB m.name && (m.defs.take m.defs.length).all (namD m)) 6)),(5,.int .i64 (toldP ((m.defs.take m.defs.length).all dupD) 7)),(6,.int .i64 0),(7,.int .i64 0),(8,w),(30,.isl (m.defs.map Df.enc)),(31,.int .i64 m.defs.length),(32,.int .i64 m.defs.length)],h++([.arr 0 2 [m.enc]]++g))) ?_ ?_ (.osl (h.length + 1) 0 1 0 0,[.arr 0 1 []]) (.inr ⟨0,0,by simp,by simp⟩)
 ·obtain ⟨o,hl,w,g,hI,ho⟩:=hlp
  refine ⟨w,g,hI,?_⟩
  rw [ho] at hl
  simpa [toldP] using hl
 ·intro i x r c hd hi hx hI K hK
  have hw:=wrap_nat (n:=i + 1) (by omega)
  simp at hw
  have hmx : x ∈ m.defs:=by rw [← hx]; exact List.getElem_mem hi
  have htk : m.defs.take (i + 1)=m.defs.take i++[x]:=by rw [List.take_succ_eq_append_getElem hi,hx]
  have hos:=hm.of x hmx
  have how : x.of.wid≤67108864:=Nat.le_trans x.of.wid_le hos
  have hon : x.of.nodes≤67108864:=Nat.le_trans (Ty.nodes_le _ x.of (Nat.le_refl _)) hos
  have hpl:=hm.params x hmx
  have e1:=fun ws h=>limits_ok x.of how hon ws h
  have e2:=fun ws h=>great_ok x.name (hm.dname x hmx) ws h
  have e3:=fun ws h=>allgreat_ok x.params hpl (hm.pnames x hmx) ws h
  obtain ⟨G,hG⟩ : ∃ G,x.params.all greatB=G:=⟨_,rfl⟩
  simp only [hG] at e3
  have e4:=fun ws h=>names_ok m x.params hm hpl x.of how hon ws h
  have e5:=fun ws h=>twice_ok (.isl (x.params.map .str)) x.params hpl ws h rfl
  have e6:=fun ws h=>differ_ok x.of how hon ws h
  rw [htk] at hK
  simp only [List.all_append,List.all_cons,List.all_nil,Bool.and_true,List.map_append,List.map_cons,List.map_nil] at hK
  generalize (m.defs.take i).all limD=A1 at *
  generalize (m.defs.take i).all (namD m)=A2 at *
  generalize (m.defs.take i).all dupD=A3 at *
  generalize greatB m.name=A0 at *
  have hlD : limD x=(decide ((x.params.length : Int)≤20) && limS x.of):=by
   have e : ((x.params.length : Int)≤20)=(x.params.length≤20):=propext (by omega)
   unfold limD; simp only [e]
  obtain ⟨w,g⟩:=c
  dsimp only at hI
  simp at e1 e2 e3 e4 e5 e6
  have hne : ∀ (a b : Bool) (e : Int),e ≠ 0→firstP [toldP a e,toldP b e]=toldP (a && b) e:=first_told
  simp [-Prod.exists,c78L0,c78S0,Md.enc,hi,hx,hw,e1,e2,e3,e4,e5,e6,told_ok,firstA,i64s,hne,bslP,appended]
  generalize hA : appI _ _ _ _ _ _ _=r'
  obtain ⟨v',g',rfl,h2⟩:=SlcIn.use (pre:=[_]) hI hA (by simp; omega) (by simp)
  obtain ⟨o,h4,h5⟩:=hK (v',g') (by simpa using h2)
  refine ⟨o,?_,by simpa [Md.enc] using h5⟩
  simp [Md.enc,hlD,namD,hG,dupD,Bool.and_assoc,-List.all_eq_true] at h4
  simp [Bool.and_assoc,h4,hw]
 ·intro c K hI
  rw [List.take_length] at hI
  refine ⟨_,?_,c.1,c.2,hI,rfl⟩
  simp [c78L0]
end Go.Proofs.YtflbneepngjglaaGreatDoor
namespace Go.Proofs.YtflbneepngjglaaGreatDoor
open Go Go.Avm
def loopD (m : Md) (d : Df) : Bool:=!decide (d.params=[]) || (beh m 21 d.of).isSome
def argD (d : Df) : Bool:=d.of.allP rightP
def setD (m : Md) (d : Df) : Bool:=d.of.allP (settleP m d.params)
theorem check_loop1 (m : Md) (hm : m.ok) (h g0 : Avm.H) : ∃ g,roundsL (evC (callL cfg) roundsL cfg.pol h.length h.length c78L1) [1,6,7,104,105,106] [(1,.ptr h.length 0 2 0 0),(6,.int .i64 0),(7,.int .i64 0),(104,.isl (m.defs.map Df.enc)),(105,.int .i64 m.defs.length),(106,.int .i64 (0 : Nat))] (h++([.arr 0 2 [m.enc]]++g0))=some (.exit 2,[(1,.ptr h.length 0 2 0 0),(6,.int .i64 (toldP ((m.defs.take m.defs.length).all (loopD m)) 13)),(7,.int .i64 (toldP ((m.defs.take m.defs.length).all argD) 1)),(104,.isl (m.defs.map Df.enc)),(105,.int .i64 m.defs.length),(106,.int .i64 m.defs.length)],h++([.arr 0 2 [m.enc]]++g)):=by
 have hl : m.defs.length≤67108864:=hm.len
 have hlp:=loop_post (γ:=Avm.H) (f:=evC (callL cfg) roundsL cfg.pol h.length h.length c78L1) (keep:=[1,6,7,104,105,106]) m.defs
     (fun _ _=>True) (fun i _=>[(1,.ptr h.length 0 2 0 0),(6,.int .i64 (toldP ((m.defs.take i).all (loopD m)) 13)),(7,.int .i64 (toldP ((m.defs.take i).all argD) 1)),(104,.isl (m.defs.map Df.enc)),(105,.int .i64 m.defs.length),(106,.int .i64 i)]) (fun _ g=>h++([.arr 0 2 [m.enc]]++g))
     (fun _ _ o=>∃ g,o=(.exit 2,[(1,.ptr h.length 0 2 0 0),(6,.int .i64 (toldP ((m.defs.take m.defs.length).all (loopD m)) 13)),(7,.int .i64 (toldP ((m.defs.take m.defs.length).all argD) 1)),(104,.isl (m.defs.map Df.enc)),(105,.int .i64 m.defs.length),(106,.int .i64 m.defs.length)],h++([.arr 0 2 [m.enc]]++g))) ?_ ?_ g0 trivial
 ·obtain ⟨o,hl,g,ho⟩:=hlp
  refine ⟨g,?_⟩
  rw [ho] at hl
  simpa [toldP] using hl
 ·intro i x r g hd hi hx _ K hK
  have hw:=wrap_nat (n:=i + 1) (by omega)
  simp at hw
  have hmx : x ∈ m.defs:=by rw [← hx]; exact List.getElem_mem hi
  have htk : m.defs.take (i + 1)=m.defs.take i++[x]:=by rw [List.take_succ_eq_append_getElem hi,hx]
  have hos:=hm.of x hmx
  have how : x.of.wid≤67108864:=Nat.le_trans x.of.wid_le hos
  have hon : x.of.nodes≤67108864:=Nat.le_trans (Ty.nodes_le _ x.of (Nat.le_refl _)) hos
  have hpl:=hm.params x hmx
  rw [htk] at hK
  simp only [List.all_append,List.all_cons,List.all_nil,Bool.and_true] at hK
  have hne : ∀ (a b : Bool) (e : Int),e ≠ 0→firstP [toldP a e,toldP b e]=toldP (a && b) e:=first_told
  have e4:=fun ws h=>behind_ok m hm x.of how ws h
  have e5:=fun ws h=>within_right x.of how hon ws h
  simp [Md.enc] at e4 e5
  generalize hA1 : (m.defs.take i).all (loopD m)=A1 at *
  generalize hA2 : (m.defs.take i).all argD=A2 at *
  have hK':=fun c'=>hK c' trivial
  clear hK
  by_cases hp : x.params=[]
  ·have hlD : loopD m x=(beh m 21 x.of).isSome:=by simp [loopD,hp]
   rw [hlD] at hK'
   generalize (beh m 21 x.of).isSome=B1 at *
   simp [-Prod.exists,argD,Md.enc] at hK'
   simp [-Prod.exists,c78L1,c78S2,c78T113,Md.enc,hi,hx,hw,hp,e4,e5,told_ok,firstA,i64s,hne,bslP]
   exact hK' _
  ·have hlD : loopD m x=true:=by simp [loopD,hp]
   have hpz : ¬ (x.params.length : Int)=0:=by
    have:=List.length_pos_iff.2 hp
    omega
   rw [hlD] at hK'
   simp [-Prod.exists,argD,Md.enc] at hK'
   simp [-Prod.exists,c78L1,c78S2,c78T113,Md.enc,hi,hx,hw,hp,hpz,e4,e5,told_ok,firstA,i64s,hne,bslP]
   exact hK' _
 ·intro c K _
  refine ⟨_,?_,c,rfl⟩
  simp [c78L1]
theorem check_loop2 (m : Md) (hm : m.ok) (hf : m.fm) (hq : ∀ d ∈ m.defs,QT d.of) (h g0 : Avm.H) : ∃ g,roundsL (evC (callL cfg) roundsL cfg.pol h.length h.length c78L2) [1,7,142,143,144] [(1,.ptr h.length 0 2 0 0),(7,.int .i64 0),(142,.isl (m.defs.map Df.enc)),(143,.int .i64 m.defs.length),(144,.int .i64 (0 : Nat))] (h++([.arr 0 2 [m.enc]]++g0))=some (.exit 4,[(1,.ptr h.length 0 2 0 0),(7,.int .i64 (toldP ((m.defs.take m.defs.length).all (setD m)) 1)),(142,.isl (m.defs.map Df.enc)),(143,.int .i64 m.defs.length),(144,.int .i64 m.defs.length)],h++([.arr 0 2 [m.enc]]++g)):=by
 have hl : m.defs.length≤67108864:=hm.len
 have hlp:=loop_post (γ:=Avm.H) (f:=evC (callL cfg) roundsL cfg.pol h.length h.length c78L2) (keep:=[1,7,142,143,144]) m.defs
     (fun _ _=>True) (fun i _=>[(1,.ptr h.length 0 2 0 0),(7,.int .i64 (toldP ((m.defs.take i).all (setD m)) 1)),(142,.isl (m.defs.map Df.enc)),(143,.int .i64 m.defs.length),(144,.int .i64 i)]) (fun _ g=>h++([.arr 0 2 [m.enc]]++g))
     (fun _ _ o=>∃ g,o=(.exit 4,[(1,.ptr h.length 0 2 0 0),(7,.int .i64 (toldP ((m.defs.take m.defs.length).all (setD m)) 1)),(142,.isl (m.defs.map Df.enc)),(143,.int .i64 m.defs.length),(144,.int .i64 m.defs.length)],h++([.arr 0 2 [m.enc]]++g))) ?_ ?_ g0 trivial
 ·obtain ⟨o,hl,g,ho⟩:=hlp
  refine ⟨g,?_⟩
  rw [ho] at hl
  simpa [toldP] using hl
 ·intro i x r g hd hi hx _ K hK
  have hw:=wrap_nat (n:=i + 1) (by omega)
  simp at hw
  have hmx : x ∈ m.defs:=by rw [← hx]; exact List.getElem_mem hi
  have htk : m.defs.take (i + 1)=m.defs.take i++[x]:=by rw [List.take_succ_eq_append_getElem hi,hx]
  have hos:=hm.of x hmx
  have how : x.of.wid≤67108864:=Nat.le_trans x.of.wid_le hos
  have hon : x.of.nodes≤67108864:=Nat.le_trans (Ty.nodes_le _ x.of (Nat.le_refl _)) hos
  have hpl:=hm.params x hmx
  rw [htk] at hK
  simp only [List.all_append,List.all_cons,List.all_nil,Bool.and_true] at hK
  have hne : ∀ (a b : Bool) (e : Int),e ≠ 0→firstP [toldP a e,toldP b e]=toldP (a && b) e:=first_told
  have e7:=fun ws h c hc=>within_settled m hm hf x.params hpl x.of (hq x hmx) ws h c hc
  simp at e7
  generalize hA1 : (m.defs.take i).all (setD m)=A1 at *
  have hK':=fun c'=>hK c' trivial
  clear hK
  simp [-Prod.exists,setD,Md.enc] at hK'
  simp [-Prod.exists,c78L2,c78S3,Md.enc,hi,hx,hw,e7,told_ok,firstA,i64s,hne,bslP]
  exact hK' _
 ·intro c K _
  refine ⟨_,?_,c,rfl⟩
  simp [c78L2]
theorem check_S4 (m : Md) (hm : m.ok) (A B : Bool) (h g : Avm.H) (hf : A=true→B=true→m.fm∧∀ d ∈ m.defs,QT d.of) : ∃ g',evC (callL cfg) roundsL cfg.pol h.length h.length c78S4 [(1,.ptr h.length 0 2 0 0),(6,.int .i64 (toldP A 13)),(7,.int .i64 (toldP B 1))] (h++([.arr 0 2 [m.enc]]++g))=some (.ret,[(2,.int .i64 (if A=false then 13 else if B=false then 1 else toldP (m.defs.all (setD m)) 1))],h++([.arr 0 2 [m.enc]]++g')):=by
 cases A
 ·simp [-Prod.exists,c78S4,firstA,i64s,firstP,toldP,bslP]
 ·cases B
  ·simp [-Prod.exists,c78S4,firstA,i64s,firstP,toldP,bslP]
  ·obtain ⟨h1,h2⟩:=hf rfl rfl
   obtain ⟨g2,hl⟩:=check_loop2 m hm h1 h2 h (g++[.arr 0 1 [.int .i64 0,.int .i64 0]])
   refine ⟨g2,?_⟩
   simp [Md.enc] at hl
   simp [c78S4,Md.enc,firstA,i64s,firstP,toldP,bslP,hl]
def errM (m : Md) : Int:=if 40 < m.defs.length then 2 else if m.defs.all limD=false then 2 else if (greatB m.name && m.defs.all (namD m))=false then 6 else if (m.defs.all dupD && distinct (m.defs.map Df.name))=false then 7 else if m.defs.all (loopD m)=false then 13 else if m.defs.all argD=false then 1 else toldP (m.defs.all (setD m)) 1
theorem lim_of {m : Md} (h : m.defs.all limD=true) : m.lim:=fun d hd=>by
 have:=List.all_eq_true.1 h d hd
 simp only [limD,Bool.and_eq_true] at this
 exact lim_nodes this.2
theorem fm_of {m : Md} (h : m.defs.all argD=true) : m.fm:=fun d hd=>List.all_eq_true.1 h d hd
theorem QT_of {m : Md} (hm : m.ok) (h1 : m.defs.all limD=true) (h2 : m.defs.all argD=true) : ∀ d ∈ m.defs,QT d.of:=fun d hd=>
 ⟨Nat.le_trans d.of.wid_le (hm.of d hd),lim_of h1 d hd,fm_of h2 d hd,hm.of d hd⟩
end Go.Proofs.YtflbneepngjglaaGreatDoor
namespace Go.Proofs.YtflbneepngjglaaGreatDoor
open Go Go.Avm
end Go.Proofs.YtflbneepngjglaaGreatDoor
namespace Go.Proofs.YtflbneepngjglaaGreatDoor
open Go Go.Avm
end Go.Proofs.YtflbneepngjglaaGreatDoor
namespace Go.Proofs.YtflbneepngjglaaGreatDoor
open Go Go.Avm
end Go.Proofs.YtflbneepngjglaaGreatDoor
