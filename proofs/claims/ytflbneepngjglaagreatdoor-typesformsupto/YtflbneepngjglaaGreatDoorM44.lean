/- CheckType of the document, once a module is checked. -/
import Derived.Test.YtflbneepngjglaaGreatDoorM43
set_option linter.all false
namespace Go.Proofs.YtflbneepngjglaaGreatDoor
open Go Go.Avm
theorem rfits_ok (m : Md) (hm : m.ok) (hl : m.lim) (hf : m.fm) : ∀ (n : Nat) (v : Val),v.size<=n->v.size<=1048576->∀ t : Ty,t.wid<=1048576->t.nodes<=600->t.QE Qn=true->∀ ws h,Qb cfg ws 139 [m.enc,t.enc,v.enc] h=some (.bool (Xw m n t v),h)
 | 0,v,hn,_,_,_,_,_,_,_=>by have:=v.size_pos; omega
 | n + 1,v,hvn,hv,t,ht,hn,hr,ws,h=>by
  rw [Xw]
  cases hb : beh m 21 t with
  | none=>exact rfits_none m hm hl hf t ht hn v hb ws h
  | some b=>
   dsimp only
   obtain ⟨hbw,hbr,hb10⟩:=beh_good m hm hf ht hr hb
   have hbs:=QO hbr
   have hbn:=beh_nodes m hl hn hb
   by_cases hvk : v.kind=b.kind
   ·rw [decide_eq_true hvk,Bool.true_and]
    have hin : b.comp=true->∀ i ∈ b.items,i.of ∈ b.inner:=fun hc i hi=>by unfold Ty.inner; rw [if_pos hc]; exact List.mem_append_right _ (List.mem_map_of_mem hi)
    have hsubI : b.comp=true->∀ i ∈ b.items,∀ x ∈ v.items,∀ ws h,Qb cfg ws 139 [m.enc,i.of.enc,x.enc] h=some (.bool (Xw m n i.of x),h):=fun hc i hi x hx ws h=>
     rfits_ok m hm hl hf n x (by have:=Val.Qw hx; omega) (by have:=Val.Qw hx; omega) i.of (Nat.le_trans (Ty.wid_itof hi) hbw) (by have:=Ty.Xt (hin hc i hi); omega) (QA hbr (hin hc i hi)) ws h
    unfold fitS
    by_cases q0 : b.kind=0
    ·rw [if_pos q0]; exact rfits_0 m hm hl hf t ht hn v b hb hvk hv hbs q0 ws h
    rw [if_neg q0]
    by_cases q1 : b.kind=1
    ·rw [if_pos q1]; exact rfits_1 m hm hl hf t ht hn v b hb hvk hv hbs q1 ws h
    rw [if_neg q1]
    by_cases q2 : b.kind=2
    ·rw [if_pos q2]; exact rfits_2 m hm hl hf t ht hn v b hb hvk hv hbs q2 ws h
    rw [if_neg q2]
    by_cases q3 : b.kind=3
    ·rw [if_pos q3]; exact rfits_3 m hm hl hf t ht hn v b hb hvk hv hbs q3 ws h
    rw [if_neg q3]
    by_cases q4 : b.kind=4
    ·rw [if_pos q4]; exact rfits_4 m hm hl hf t ht hn v b hb hvk hv hbs q4 ws h
    rw [if_neg q4]
    by_cases q5 : b.kind=5
    ·rw [if_pos q5]; exact rfits_5 m hm hl hf t ht hn v b hb hvk hv hbs q5 ws h
    rw [if_neg q5]
    by_cases q6 : b.kind=6
    ·rw [if_pos q6]; exact rfits_6 m hm hl hf t ht hn v b hb hvk hv hbs q6 ws h
    rw [if_neg q6]
    by_cases q11 : b.kind=11
    ·rw [if_pos q11]; exact rfits_11 m hm hl hf t ht hn v b hb hvk hv hbs q11 ws h
    rw [if_neg q11]
    by_cases q7 : b.kind=7
    ·rw [if_pos q7]
     have hk1:=right_kids hbs q7
     obtain ⟨kd,hkd⟩:=List.length_eq_one_iff.1 hk1
     have hkm : b.kids.headD Ty.zero ∈ b.kids:=by rw [hkd]; simp
     have hki : b.kids.headD Ty.zero ∈ b.inner:=List.mem_append_left _ hkm
     exact rfits_7 m hm hl hf t ht hn v b hb hvk hv hbs (Xw m n) hk1 (fun x hx ws h=>rfits_ok m hm hl hf n x (by have:=Val.Qw hx; omega) (by have:=Val.Qw hx; omega) _ (Nat.le_trans (Ty.wid_kid hkm) hbw) (by have:=Ty.Xt hki; omega) (QA hbr hki) ws h) q7 ws h
    rw [if_neg q7]
    by_cases q9 : b.kind=9
    ·rw [if_pos q9]; exact rfits_9 m hm hl hf t ht hn v b hb hvk hv hbs (Xw m n) (hsubI (by unfold Ty.comp; simp [q9])) q9 ws h
    rw [if_neg q9]
    have q8:=right_kind hbs hb10 q0 q1 q2 q3 q4 q5 q6 q11 q7 q9
    have hc : b.comp=true:=by unfold Ty.comp; simp [q8]
    exact rfits_8 m hm hl hf t ht hn v b hb hvk hv hbs (Xw m n) (fun i hi x hx=>fitB_absent m hm hf n i.of x (Nat.le_trans (Ty.wid_itof hi) hbw) (QA hbr (hin hc i hi)) hx) (hsubI hc) q8 ws h
   ·rw [decide_eq_false hvk,Bool.false_and]
    exact rfits_ne m hm hl hf t ht hn v b hb hvk ws h
theorem fit_ok (m : Md) (hm : m.ok) (hl : m.lim) (hf : m.fm) (t : Ty) (ht : t.wid<=1048576) (hn : t.nodes<=600) (hr : t.QE Qn=true) (v : Val) (hv : v.size<=1048576) (ws : Nat) (h : Avm.H) : Qb cfg ws 75 [m.enc,t.enc,v.enc] h=some (.bool (fairP v && Xw m v.size t v),h):=by
 have e1:=fun ws h=>rcount_ok _ v (Nat.le_refl _) hv ws h
 have e2:=fun ws h=>rfits_ok m hm hl hf _ v (Nat.le_refl _) hv t ht hn hr ws h
 simp [Md.enc] at e1 e2
 refine Qc rfl rfl ?_
 unfold fairP
 by_cases q1 : v.nodes<=600
 ·by_cases q2 : v.depth<=30
  ·have q1' : (v.nodes : Int)<=600:=by omega
   have q2' : (v.depth : Int)<=30:=by omega
   simp [F75,c75,Md.enc,e1,e2,q1,q2,q1',q2']
  ·have q1' : (v.nodes : Int)<=600:=by omega
   have q2' : ¬ (v.depth : Int)<=30:=by omega
   simp [F75,c75,Md.enc,e1,q1,q2,q1',q2']
 ·have q1' : ¬ (v.nodes : Int)<=600:=by omega
  simp [F75,c75,Md.enc,e1,q1,q1']
end Go.Proofs.YtflbneepngjglaaGreatDoor
namespace Go.Proofs.YtflbneepngjglaaGreatDoor
open Go Go.Avm
def nrefB (ps : List ByteArray) (x : Ty) : Bool:=!(decide (x.kind=10) && inS ps x.name)
theorem pnm_loop (ps : List ByteArray) (hp : ps.length<=1048576) (t : Ty) (ht : t.wid<=1048576) (hb : t.nodes<=1048576) (h : Avm.H) : ∃ g,Qa (evC (Qb cfg) Qa cfg.pol h.length h.length c262L0) [1,5,6] [(1,.isl (ps.map .str)),(5,.isl (t.QW.map Ty.enc)),(6,.int .i64 (0 : Nat))] (h++([.arr 0 8 [t.enc]]++[]))=some (if (t.QW).all (nrefB ps)=true then (.exit 0,[(1,.isl (ps.map .str)),(5,.isl (t.QW.map Ty.enc)),(6,.int .i64 (t.QW).length)],h++([.arr 0 8 [t.enc]]++g)) else (.ret,[(4,.bool true)],h++([.arr 0 8 [t.enc]]++g))):=by
 have hl : (t.QW).length<=1048576:=(by have:=rall_len _ t (Nat.le_refl _); omega)
 have hlp:=Qi (γ:=Avm.H) (f:=evC (Qb cfg) Qa cfg.pol h.length h.length c262L0) (keep:=[1,5,6]) (t.QW) (fun _ _=>True)
     (fun i _=>[(1,.isl (ps.map .str)),(5,.isl (t.QW.map Ty.enc)),(6,.int .i64 i)]) (fun _ g=>h++([.arr 0 8 [t.enc]]++g))
     (fun _ r o=>∃ g,o=if r.all (nrefB ps)=true then (.exit 0,[(1,.isl (ps.map .str)),(5,.isl (t.QW.map Ty.enc)),(6,.int .i64 (t.QW).length)],h++([.arr 0 8 [t.enc]]++g)) else (.ret,[(4,.bool true)],h++([.arr 0 8 [t.enc]]++g))) ?_ ?_ [] trivial
 ·obtain ⟨o,h1,g,h2⟩:=hlp
  exact ⟨g,h2 ▸ h1⟩
 ·intro i x r g hd hi hx _ K hK
  have hw:=Qd (n:=i + 1) (by omega)
  simp at hw
  have hm : x ∈ (t.QW):=by rw [← hx]; exact List.getElem_mem hi
  have e0:=fun ws h=>has_ok ps x.name hp ws h
  cases hv : (nrefB ps) x
  ·refine ⟨_,?_,g,by simp only [List.all_cons,hv,Bool.false_and,Bool.false_eq_true,if_false]; rfl⟩
   unfold nrefB at hv
   by_cases q : x.kind=10
   ·have hv2 : inS ps x.name=true:=by simpa [q] using hv
    rw [hv2] at e0
    simp [c262L0,hi,hx,q,e0]
   ·simp [q] at hv
  ·obtain ⟨o,h4,g2,h5⟩:=hK g trivial
   refine ⟨o,?_,g2,by simp only [List.all_cons,hv,Bool.true_and]; exact h5⟩
   simp at h4
   unfold nrefB at hv
   by_cases q : x.kind=10
   ·have hv2 : inS ps x.name=false:=by simpa [q] using hv
    rw [hv2] at e0
    simp [c262L0,hi,hx,q,e0,hw,h4]
   ·simp [c262L0,hi,hx,q,hw,h4]
 ·intro g K _
  refine ⟨_,?_,g,by simp only [List.all_nil,if_true]; rfl⟩
  simp [c262L0]
def namedP (ps : List ByteArray) (t : Ty) : Bool:=!t.QE (nrefB ps)
theorem pnm_ok (t : Ty) (ht : t.wid<=1048576) (hb : t.nodes<=1048576) (ps : List ByteArray) (hp : ps.length<=1048576) (ws : Nat) (h : Avm.H) : Qb cfg ws 262 [t.enc,.isl (ps.map .str)] h=some (.bool (namedP ps t),h):=by
 obtain ⟨g,hl⟩:=pnm_loop ps hp t ht hb h
 have ha:=fun ws h=>rall_ok _ t (Nat.le_refl _) ht hb ws h
 rw [rall_all _ _ t (Nat.le_refl _)] at hl
 refine Qc rfl rfl ?_
 unfold namedP
 simp at ha
 cases q : t.QE (nrefB ps)
 ·rw [q] at hl
  simp at hl
  simp [F262,c262,ha,hl]
 ·rw [q] at hl
  simp at hl
  simp [F262,c262,ha,hl]
end Go.Proofs.YtflbneepngjglaaGreatDoor
namespace Go.Proofs.YtflbneepngjglaaGreatDoor
open Go Go.Avm
theorem cnamedf_ok (m : Md) (ps : List ByteArray) (hp : ps.length<=1048576) (x : Ty) (ws : Nat) (h : Avm.H) : Qb cfg ws 267 [x.enc,.iptr [.str m.name,.isl (m.defs.map Df.enc),.isl (ps.map .str)]] h=some (.bool (nrefB ps x),h):=by
 have e0:=fun ws h=>containsS_ok ps x.name hp ws h
 refine Qc rfl rfl ?_
 unfold nrefB
 by_cases q : x.kind=10
 ·simp [F267,c267,q,e0]
 ·simp [F267,c267,q]
theorem cnamed_ok (m : Md) (ps : List ByteArray) (hp : ps.length<=1048576) (t : Ty) (hw0 : t.wid<=1048576) (hb : t.nodes<=1048576) (ws : Nat) (h : Avm.H) : Qb cfg ws 235 [.agg [.str m.name,.isl (m.defs.map Df.enc),.isl (ps.map .str)],t.enc] h=some (.bool (namedP ps t),h):=by
 have h2:=fun ws h cap hcap=>within_ok (cap':=[.iptr [.str m.name,.isl (m.defs.map Df.enc),.isl (ps.map .str)]]) (k:=0) (.inl rfl) (by simp) _ t (Nat.le_refl _) hw0 hb (fun x _ hx _ ws h'=>by simpa using cnamedf_ok m ps hp x ws h') ws h cap hcap
 refine Qc rfl rfl ?_
 unfold namedP
 simp at h2
 simp [F235,c235,h2]
def dfltB (m : Md) (ps : List ByteArray) (i : It) : Bool:=match i.Qv with
 | []=>true
 | [d]=>!i.opt && (!namedP ps i.of && (Xw m d.size i.of d && fairP d))
 | _=>false
theorem component_ok (m : Md) (hm : m.ok) (hf : m.fm) (ps : List ByteArray) (hp : ps.length<=1048576) (i : It) (hw : i.of.wid<=1048576) (hb : i.Qv ≠ []->i.of.nodes<=1048576) (hr : i.Qv ≠ []->i.of.QE Qn=true) (hd : ∀ d ∈ i.Qv,d.size<=1048576) (ws : Nat) (h : Avm.H) :
    Qb cfg ws 165 [.agg [.str m.name,.isl (m.defs.map Df.enc),.isl (ps.map .str)],i.enc] h=some (.bool (dfltB m ps i),h):=by
 refine Qc rfl rfl ?_
 unfold dfltB
 match hi : i.Qv with
 | []=>simp [F165,c165,hi]
 | [d]=>
  have hne : i.Qv ≠ []:=by rw [hi]; simp
  have hds:=hd d (by rw [hi]; simp)
  have e1:=fun ws h=>cnamed_ok m ps hp i.of hw (hb hne) ws h
  have e2:=fun ws h=>fits_ok m hm hf _ d (Nat.le_refl _) hds i.of hw (hr hne) ws h
  have e3:=fun ws h=>fair_ok d hds ws h
  simp [Md.enc] at e1 e2 e3
  cases q1 : i.opt
  ·cases q2 : namedP ps i.of
   ·rw [q2] at e1
    cases q3 : Xw m d.size i.of d
    ·rw [q3] at e2
     simp [F165,c165,hi,q1,q3,e1,e2]
    ·rw [q3] at e2
     simp [F165,c165,hi,q1,q3,e1,e2,e3]
   ·rw [q2] at e1
    simp [F165,c165,hi,q1,e1]
  ·simp [F165,c165,hi,q1]
 | d :: e :: r=>
  have h1 : (1 : Int) < (r.length : Int) + 1 + 1:=by omega
  have h0 : ((r.length : Int) + 1 + 1 == 0)=false:=by simp; omega
  simp [F165,c165,hi,h1,h0]
end Go.Proofs.YtflbneepngjglaaGreatDoor
namespace Go.Proofs.YtflbneepngjglaaGreatDoor
open Go Go.Avm
theorem withinQ_ok {g : FuncId} {k : Nat} {p : Ty->Bool} {cap' : List AV} (Q : Ty->Prop) (hQ : ∀ x y : Ty,Q x->y ∈ x.inner->Q y) (hs : Still cfg g) (hcp : Qt cap'=true) : ∀ (n : Nat) (t : Ty),t.size<=n->t.wid<=1048576->t.nodes<=1048576->Q t ->
    (∀ x : Ty,Q x->x.size<=n->x.wid<=t.wid->x.nodes<=t.nodes->∀ ws h',Qb cfg ws g (cap'.take k++([x.enc]++cap'.drop k)) h'=some (.bool (p x),h')) ->
    ∀ ws h cap,QF (snap h 7) cap=some cap'->Qb cfg ws 82 [t.enc,.QI g k cap] h=some (.bool (t.QE p),h)
 | 0,t,ht,_,_,_,_,_,_,_,_=>by have:=t.size_pos; omega
 | n + 1,t,ht,hw0,hb,hq,hp,ws,h,cap,hcap=>by
  have hk:=kids_ok t hw0
  have hpt:=fun ws h=>hp t hq ht (Nat.le_refl _) (Nat.le_refl _) ws h
  have hlen:=t.len_inner
  have hsub : ∀ x ∈ t.inner,∀ ws h',Qb cfg ws 158 [x.enc,.iptr [.QI g k cap']] h'=some (.bool (!(x.QE p)),h'):=fun x hx ws h'=>by
   have h1:=Ty.QQ hx
   have h2:=Ty.wid_inner hx
   have h3:=Ty.Xt hx
   have hin:=fun h=>withinQ_ok Q hQ hs hcp n x (by omega) (by omega) (by omega) (hQ t x hq hx) (fun y hyq hy hyw hyn ws h'=>hp y hyq (by omega) (by omega) (by omega) ws h') h'.length h cap' (Qx hcp)
   refine Qc rfl rfl ?_
   simp at hin
   simp [F158,c158,Qx hcp,hcp,hin]
  have hct:=fun h cap2 (hcap2 : QF (snap h 7) cap2=some [.iptr [.QI g k cap']])=>containsT_ok (k:=0) t.inner (by omega) (.inl rfl) h hcap2 (by simp [hcp]) (fun x hx ws h'=>by simpa using hsub x hx ws h')
  refine Qc rfl rfl ?_
  rw [Ty.allP_eq]
  simp at hk hpt
  have hpol:=hs
  cases hv : p t
  ·rw [hv] at hpt
   rcases hs with hs | ⟨b,hs⟩ <;> simp [F82,c82,hcap,hs,hpt]
  ·rw [hv] at hpt
   rcases hs with hs | ⟨b,hs⟩ <;> simp [F82,c82,hcap,hs,hpt,hk,hct,Qx hcp,any_not]
def Xd (m : Md) (ps : List ByteArray) (t : Ty) : Bool:=!decide (t.kind=8) || t.items.all (dfltB m ps)
structure QT (t : Ty) : Prop where
 wid : t.wid<=1048576
 nodes : t.nodes<=600
 right : t.QE Qn=true
 size : t.size<=1048576
theorem QT.inner {t x : Ty} (h : QT t) (hx : x ∈ t.inner) : QT x:=
 ⟨Nat.le_trans (Ty.wid_inner hx) h.wid,by have:=Ty.Xt hx; have:=h.nodes; omega,QA h.right hx,by have:=Ty.QQ hx; have:=h.size; omega⟩
theorem QT.Qv {t : Ty} (h : QT t) {i : It} (hi : i ∈ t.items) : ∀ d ∈ i.Qv,d.size<=1048576:=fun d hd=>by
 have:=It.mem_dflt hd; have:=Ty.Qw hi; have:=h.size; omega
theorem QT.record {t : Ty} (h : QT t) {i : It} (hi : i ∈ t.items) (hd : i.Qv ≠ []) : t.kind=8:=by
 have hr:=QO h.right
 by_cases hc : t.comp=true
 ·by_cases q8 : t.kind=8
  ·exact q8
  ·have q9 : t.kind=9:=by simpa [Ty.comp,q8] using hc
   unfold Qn at hr
   simp [q9] at hr
   have:=hr.2.2 i hi
   simp [XI] at this
   exact absurd this.2 hd
 ·rcases right_items hr hc with h0 | h0
  ·rw [h0] at hi; cases hi
  ·have:=List.all_eq_true.1 h0 i hi
   simp [bareI] at this
   exact absurd this.2.2 hd
theorem QT.of {t : Ty} (h : QT t) {i : It} (hi : i ∈ t.items) (hd : i.Qv ≠ []) : QT i.of:=
 h.inner (by unfold Ty.inner; rw [if_pos (by unfold Ty.comp; simp [h.record hi hd])]; exact List.mem_append_right _ (List.mem_map_of_mem hi))
theorem settle_all (m : Md) (ps : List ByteArray) {t : Ty} (h : QT t) : Xd m ps t=t.items.all (dfltB m ps):=by
 unfold Xd
 by_cases q : t.kind=8
 ·simp [q]
 ·have : t.items.all (dfltB m ps)=true:=List.all_eq_true.2 fun i hi=>by
    unfold dfltB
    cases hd : i.Qv with
    | nil=>rfl
    | cons d r=>exact absurd (h.record hi (by rw [hd]; simp)) q
  rw [this]
  simp
theorem settled_ok (m : Md) (hm : m.ok) (hf : m.fm) (ps : List ByteArray) (hp : ps.length<=1048576) (t : Ty) (hq : QT t) (ws : Nat) (h : Avm.H) : Qb cfg ws 84 [.agg [.str m.name,.isl (m.defs.map Df.enc),.isl (ps.map .str)],t.enc] h=some (.bool (Xd m ps t),h):=by
 have hwi:=t.Qe
 have hw:=hq.wid
 have h1 : ∀ i ∈ t.items,∀ ws h',Qb cfg ws 164 [i.enc,.iptr [.str m.name,.isl (m.defs.map Df.enc),.isl (ps.map .str)]] h'=some (.bool (!dfltB m ps i),h'):=fun i hi ws h'=>by
  have e0:=fun ws h=>component_ok m hm hf ps hp i (Nat.le_trans (Ty.wid_itof hi) hw) (fun hd=>by have:=(hq.of hi hd).nodes; omega) (fun hd=>(hq.of hi hd).right) (hq.Qv hi) ws h
  simp at e0
  refine Qc rfl rfl ?_
  simp [F164,c164,e0]
 have hct:=fun h cap (hcap : QF (snap h 7) cap=some [.iptr [.str m.name,.isl (m.defs.map Df.enc),.isl (ps.map .str)]]) ws=>containsI_ok (g:=164) (k:=0) (p:=fun i=>!dfltB m ps i) t.items (by omega) (.inl rfl) h hcap (by simp) (fun i hi ws h'=>by simpa using h1 i hi ws h') ws
 simp only [any_not] at hct
 refine Qc rfl rfl ?_
 unfold Xd
 generalize t.items.all (dfltB m ps)=A at hct ⊢
 by_cases q : t.kind=8
 ·simp [F84,c84,q,hct]
 ·simp [F84,c84,q]
end Go.Proofs.YtflbneepngjglaaGreatDoor
namespace Go.Proofs.YtflbneepngjglaaGreatDoor
open Go Go.Avm
theorem dflt_loop (m : Md) (hmk : m.ok) (hl : m.lim) (hf : m.fm) (ps : List ByteArray) (hp : ps.length<=1048576) (t : Ty) (hq : QT t) (h : Avm.H) : ∃ g,Qa (evC (Qb cfg) Qa cfg.pol h.length h.length c219L0) [1,3,5,7] [(1,.isl (ps.map .str)),(3,.ptr h.length 0 2 0 0),(5,.ptr (h.length + 1) 0 8 0 0),(7,.int .i64 (0 : Nat))] (h++([.arr 0 2 [m.enc],.arr 0 8 [t.enc]]++[]))=some (if (t.items).all (dfltB m ps)=true then (.exit 0,[(1,.isl (ps.map .str)),(3,.ptr h.length 0 2 0 0),(5,.ptr (h.length + 1) 0 8 0 0),(7,.int .i64 (t.items).length)],h++([.arr 0 2 [m.enc],.arr 0 8 [t.enc]]++g)) else (.ret,[(6,.bool false)],h++([.arr 0 2 [m.enc],.arr 0 8 [t.enc]]++g))):=by
 have hlt : (t.items).length<=1048576:=(Nat.le_trans t.Qe hq.wid)
 have hlp:=Qi (γ:=Avm.H) (f:=evC (Qb cfg) Qa cfg.pol h.length h.length c219L0) (keep:=[1,3,5,7]) (t.items) (fun _ _=>True)
     (fun i _=>[(1,.isl (ps.map .str)),(3,.ptr h.length 0 2 0 0),(5,.ptr (h.length + 1) 0 8 0 0),(7,.int .i64 i)]) (fun _ g=>h++([.arr 0 2 [m.enc],.arr 0 8 [t.enc]]++g))
     (fun _ r o=>∃ g,o=if r.all (dfltB m ps)=true then (.exit 0,[(1,.isl (ps.map .str)),(3,.ptr h.length 0 2 0 0),(5,.ptr (h.length + 1) 0 8 0 0),(7,.int .i64 (t.items).length)],h++([.arr 0 2 [m.enc],.arr 0 8 [t.enc]]++g)) else (.ret,[(6,.bool false)],h++([.arr 0 2 [m.enc],.arr 0 8 [t.enc]]++g))) ?_ ?_ [] trivial
 ·obtain ⟨o,h1,g,h2⟩:=hlp
  exact ⟨g,h2 ▸ h1⟩
 ·intro i x r g hd hi hx _ K hK
  have hw:=Qd (n:=i + 1) (by omega)
  simp at hw
  have hm : x ∈ (t.items):=by rw [← hx]; exact List.getElem_mem hi
  have hq2 : x.Qv ≠ []->QT x.of:=fun hd=>hq.of hm hd
  have hds:=hq.Qv hm
  cases hv : (dfltB m ps) x
  ·refine ⟨_,?_,(g++[.arr 0 12 [x.enc]]),by simp only [List.all_cons,hv,Bool.false_and,Bool.false_eq_true,if_false]; rfl⟩
   rcases hd0 : x.Qv with _ | ⟨d,_ | ⟨e,r2⟩⟩
   ·simp [dfltB,hd0] at hv
   ·have hne : x.Qv ≠ []:=by rw [hd0]; simp
    have hqo:=hq2 hne
    have hdz:=hds d (by rw [hd0]; simp)
    have e1:=fun ws h=>pnm_ok x.of hqo.wid (by have:=hqo.nodes; omega) ps hp ws h
    have e2:=fun ws h=>fit_ok m hmk hl hf x.of hqo.wid hqo.nodes hqo.right d hdz ws h
    simp [Md.enc] at e1 e2
    cases q1 : x.opt
    ·cases q2 : namedP ps x.of
     ·rw [q2] at e1
      have q3 : (fairP d && Xw m d.size x.of d)=false:=by rw [Bool.and_comm]; simpa [dfltB,hd0,q1,q2] using hv
      simp only [q3] at e2
      simp [c219L0,Md.enc,hi,hx,hd0,q1,e1,e2]
     ·rw [q2] at e1
      simp [c219L0,Md.enc,hi,hx,hd0,q1,e1]
    ·simp [c219L0,Md.enc,hi,hx,hd0,q1]
   ·have h1 : (1 : Int) < (r2.length : Int) + 1 + 1:=by omega
    have h0 : ((r2.length : Int) + 1 + 1 == 0)=false:=by simp; omega
    simp [c219L0,Md.enc,hi,hx,hd0,h1,h0]
  ·obtain ⟨o,h4,g2,h5⟩:=hK (g++[.arr 0 12 [x.enc]]) trivial
   refine ⟨o,?_,g2,by simp only [List.all_cons,hv,Bool.true_and]; exact h5⟩
   rcases hd0 : x.Qv with _ | ⟨d,_ | ⟨e,r2⟩⟩
   ·simp [Md.enc,hd0] at h4
    simp [c219L0,Md.enc,hi,hx,hd0,hw,h4]
   ·have hne : x.Qv ≠ []:=by rw [hd0]; simp
    have hqo:=hq2 hne
    have hdz:=hds d (by rw [hd0]; simp)
    have e1:=fun ws h=>pnm_ok x.of hqo.wid (by have:=hqo.nodes; omega) ps hp ws h
    have e2:=fun ws h=>fit_ok m hmk hl hf x.of hqo.wid hqo.nodes hqo.right d hdz ws h
    simp [Md.enc] at e1 e2
    have q0 : x.opt=false/\namedP ps x.of=false/\(Xw m d.size x.of d=true/\fairP d=true):=by simpa [dfltB,hd0] using hv
    have q3 : (fairP d && Xw m d.size x.of d)=true:=by rw [q0.2.2.1,q0.2.2.2]; rfl
    rw [q0.2.1] at e1
    simp only [q3] at e2
    simp [Md.enc,hd0] at h4
    simp [c219L0,Md.enc,hi,hx,hd0,q0.1,e1,e2,hw]
    simp [q0.1] at h4
    simp [h4]
   ·simp [dfltB,hd0] at hv
 ·intro g K _
  refine ⟨_,?_,g,by simp only [List.all_nil,if_true]; rfl⟩
  simp [c219L0]
theorem defaults_ok (m : Md) (hmk : m.ok) (hl : m.lim) (hf : m.fm) (ps : List ByteArray) (hp : ps.length<=1048576) (t : Ty) (hq : QT t) (ws : Nat) (h : Avm.H) : Qb cfg ws 219 [m.enc,.isl (ps.map .str),t.enc] h=some (.bool (Xd m ps t),h):=by
 obtain ⟨g,hlp⟩:=dflt_loop m hmk hl hf ps hp t hq h
 rw [settle_all m ps hq]
 refine Qc rfl rfl ?_
 cases q : t.items.all (dfltB m ps)
 ·rw [q] at hlp
  simp [Md.enc] at hlp
  simp [F219,c219,Md.enc,hlp]
 ·rw [q] at hlp
  simp [Md.enc] at hlp
  simp [F219,c219,Md.enc,hlp]
end Go.Proofs.YtflbneepngjglaaGreatDoor
namespace Go.Proofs.YtflbneepngjglaaGreatDoor
open Go Go.Avm
theorem rall_QT : ∀ (n : Nat) (t : Ty),t.size<=n->QT t->∀ x ∈ t.QW,QT x
 | 0,t,h,_,_,_=>by have:=t.size_pos; omega
 | n + 1,t,h,hq,x,hx=>by
  rw [Ty.rall_eq] at hx
  rcases List.mem_cons.1 hx with rfl | hx
  ·exact hq
  ·obtain ⟨y,hy,hxy⟩:=List.mem_flatMap.1 hx
   have hyi:=(rinner_mem _ _).1 hy
   exact rall_QT n y (by have:=Ty.QQ hyi; omega) (hq.inner hyi) x hxy
theorem whole_loop (m : Md) (hmk : m.ok) (hl0 : m.lim) (hf : m.fm) (ps : List ByteArray) (hp : ps.length<=1048576) (t : Ty) (hq : QT t) (h : Avm.H) : ∃ g,Qa (evC (Qb cfg) Qa cfg.pol h.length h.length c138L0) [1,3,7,8] [(1,.isl (ps.map .str)),(3,.ptr h.length 0 2 0 0),(7,.isl (t.QW.map Ty.enc)),(8,.int .i64 (0 : Nat))] (h++([.arr 0 2 [m.enc],.arr 0 8 [t.enc]]++[]))=some (if (t.QW).all (Xd m ps)=true then (.exit 0,[(1,.isl (ps.map .str)),(3,.ptr h.length 0 2 0 0),(7,.isl (t.QW.map Ty.enc)),(8,.int .i64 (t.QW).length)],h++([.arr 0 2 [m.enc],.arr 0 8 [t.enc]]++g)) else (.ret,[(6,.bool false)],h++([.arr 0 2 [m.enc],.arr 0 8 [t.enc]]++g))):=by
 have hl : (t.QW).length<=1048576:=(by have:=rall_len _ t (Nat.le_refl _); have:=hq.nodes; omega)
 have hlp:=Qi (γ:=Avm.H) (f:=evC (Qb cfg) Qa cfg.pol h.length h.length c138L0) (keep:=[1,3,7,8]) (t.QW) (fun _ _=>True)
     (fun i _=>[(1,.isl (ps.map .str)),(3,.ptr h.length 0 2 0 0),(7,.isl (t.QW.map Ty.enc)),(8,.int .i64 i)]) (fun _ g=>h++([.arr 0 2 [m.enc],.arr 0 8 [t.enc]]++g))
     (fun _ r o=>∃ g,o=if r.all (Xd m ps)=true then (.exit 0,[(1,.isl (ps.map .str)),(3,.ptr h.length 0 2 0 0),(7,.isl (t.QW.map Ty.enc)),(8,.int .i64 (t.QW).length)],h++([.arr 0 2 [m.enc],.arr 0 8 [t.enc]]++g)) else (.ret,[(6,.bool false)],h++([.arr 0 2 [m.enc],.arr 0 8 [t.enc]]++g))) ?_ ?_ [] trivial
 ·obtain ⟨o,h1,g,h2⟩:=hlp
  exact ⟨g,h2 ▸ h1⟩
 ·intro i x r g hd hi hx _ K hK
  have hw:=Qd (n:=i + 1) (by omega)
  simp at hw
  have hm : x ∈ (t.QW):=by rw [← hx]; exact List.getElem_mem hi
  have hkn:=fun ws h=>defaults_ok m hmk hl0 hf ps hp x (rall_QT _ t (Nat.le_refl _) hq x hm) ws h
  cases hv : (Xd m ps) x
  ·refine ⟨_,?_,g,by simp only [List.all_cons,hv,Bool.false_and,Bool.false_eq_true,if_false]; rfl⟩
   simp only [hv] at hkn
   simp [Md.enc] at hkn
   simp [c138L0,hi,hx,hkn,Md.enc,]
  ·obtain ⟨o,h4,g2,h5⟩:=hK g trivial
   refine ⟨o,?_,g2,by simp only [List.all_cons,hv,Bool.true_and]; exact h5⟩
   simp only [hv] at hkn
   simp [Md.enc] at hkn h4
   simp [c138L0,hi,hx,hkn,Md.enc,hw,h4]
 ·intro g K _
  refine ⟨_,?_,g,by simp only [List.all_nil,if_true]; rfl⟩
  simp [Md.enc,c138L0]
theorem whole_ok (m : Md) (hmk : m.ok) (hl0 : m.lim) (hf : m.fm) (ps : List ByteArray) (hp : ps.length<=1048576) (t : Ty) (hq : QT t) (ws : Nat) (h : Avm.H) : Qb cfg ws 138 [m.enc,.isl (ps.map .str),t.enc] h=some (.bool (t.QE (Xd m ps)),h):=by
 have h1:=rall_ok _ t (Nat.le_refl _) hq.wid (by have:=hq.nodes; omega)
 obtain ⟨g,hl⟩:=whole_loop m hmk hl0 hf ps hp t hq h
 rw [rall_all _ _ t (Nat.le_refl _)] at hl
 refine Qc rfl rfl ?_
 simp at h1
 cases q : t.QE (Xd m ps) <;> rw [q] at hl <;> simp [Md.enc] at hl <;> simp [Md.enc,F138,c138,h1,hl]
end Go.Proofs.YtflbneepngjglaaGreatDoor
namespace Go.Proofs.YtflbneepngjglaaGreatDoor
open Go Go.Avm
def QB (b : Bool) (e : Int) : Int:=if b=true then 0 else e
theorem told_ok (b : Bool) (e : Int) (ws : Nat) (h : Avm.H) : Qb cfg ws 70 [.bool b,.int .i64 e] h=some (.int .i64 (QB b e),h):=by
 refine Qc rfl rfl ?_
 unfold QB
 cases b <;> simp [F70,c70]
def XD : List Int->Int
 | []=>0
 | e :: l=>if e=0 then XD l else e
def eI (l : List Int) : List AV:=l.map (.int .i64)
theorem first_loop (l : List Int) (hl0 : l.length<=1048576) (h : Avm.H) : ∃ o,Qa (evC (Qb cfg) Qa cfg.pol h.length h.length c145L0) [5,6,7] [(5,.isl (eI l)),(6,.int .i64 l.length),(7,.int .i64 (0 : Nat))] h=some o/\(if XD l=0 then o=(.exit 0,[(5,.isl (eI l)),(6,.int .i64 l.length),(7,.int .i64 l.length)],h) else o=(.ret,[(2,.int .i64 (XD l))],h)):=by
 refine Qi (γ:=Unit) (f:=evC (Qb cfg) Qa cfg.pol h.length h.length c145L0) (keep:=[5,6,7]) l (fun _ _=>True) (fun i _=>[(5,.isl (eI l)),(6,.int .i64 l.length),(7,.int .i64 i)]) (fun _ _=>h)
     (fun _ r o=>if XD r=0 then o=(.exit 0,[(5,.isl (eI l)),(6,.int .i64 l.length),(7,.int .i64 l.length)],h) else o=(.ret,[(2,.int .i64 (XD r))],h)) ?_ ?_ () trivial
 ·intro i x r c hd hi hx _ K hK
  have hw:=Qd (n:=i + 1) (by omega)
  simp at hw
  by_cases q : x=0
  ·obtain ⟨o,h4,h5⟩:=hK () trivial
   refine ⟨o,?_,by simpa [XD,q] using h5⟩
   simp [eI] at h4
   simp [c145L0,eI,hi,hx,q,hw,h4]
  ·refine ⟨_,?_,by simp [XD,q]; rfl⟩
   simp [c145L0,eI,hi,hx,q]
 ·intro c K _
  refine ⟨_,?_,by simp [XD]; rfl⟩
  simp [c145L0,eI]
theorem first_ok (l : List Int) (hl0 : l.length<=1048576) (ws : Nat) (h : Avm.H) : Qb cfg ws 145 [.isl (eI l)] h=some (.int .i64 (XD l),h):=by
 obtain ⟨o,hlp,ho⟩:=first_loop l hl0 h
 have hsn:=Qx (h:=h) (n:=7) (pure_ints l)
 refine Qc rfl rfl ?_
 unfold eI at *
 by_cases q : XD l=0
 ·rw [if_pos q] at ho
  subst ho
  rw [q]
  simp at hlp
  simp [F145,c145,hsn,hlp]
 ·rw [if_neg q] at ho
  subst ho
  simp at hlp
  simp [F145,c145,hsn,hlp]
end Go.Proofs.YtflbneepngjglaaGreatDoor
namespace Go.Proofs.YtflbneepngjglaaGreatDoor
open Go Go.Avm
def errT (m : Md) (t : Ty) : Int:=if limS t=false then 2 else if t.QE (nameP m [])=false then 6 else if t.QE difP=false then 7 else if (beh m 21 t).isSome=false then 13 else QB (t.QE Qn && t.QE (Xd m [])) 1
theorem lim_nodes {t : Ty} (h : limS t=true) : t.nodes<=600:=by
 unfold limS at h
 simp only [Bool.and_eq_true,decide_eq_true_eq] at h
 exact h.1
theorem within_right (t : Ty) (hw : t.wid<=1048576) (hb : t.nodes<=1048576) (ws : Nat) (h : Avm.H) : Qb cfg ws 82 [t.enc,.QI 83 0 []] h=some (.bool (t.QE Qn),h):=
 within_ok (cap':=[]) (k:=0) (.inl rfl) (by simp) _ t (Nat.le_refl _) hw hb (fun x _ hx _ ws h'=>by simpa using right_ok x (Nat.le_trans hx hw) ws h') ws h [] rfl
theorem within_settled (m : Md) (hm : m.ok) (hf : m.fm) (ps : List ByteArray) (hp : ps.length<=1048576) (t : Ty) (hq : QT t) (ws : Nat) (h : Avm.H) (c : AV) (hc : snap h 7 c=some (.agg [.str m.name,.isl (m.defs.map Df.enc),.isl (ps.map .str)])) : Qb cfg ws 82 [t.enc,.QI 84 1 [c]] h=some (.bool (t.QE (Xd m ps)),h):=
 withinQ_ok (cap':=[.agg [.str m.name,.isl (m.defs.map Df.enc),.isl (ps.map .str)]]) (k:=1) QT (fun _ _ h1 h2=>h1.inner h2) (.inl rfl) (by simp) _ t (Nat.le_refl _) hq.wid (by have:=hq.nodes; omega) hq (fun x hxq _ _ _ ws h'=>by simpa using settled_ok m hm hf ps hp x hxq ws h') ws h [c] (by simp [QF,hc])
theorem ctype_err (m : Md) (t : Ty) (e : Int) (he : e ≠ 0) (hc : ∀ ws h,Qb cfg ws 78 [m.enc] h=some (.int .i64 e,h)) (ws : Nat) (h : Avm.H) : Qb cfg ws 47 [m.enc,t.enc] h=some (.int .i64 e,h):=by
 simp [Md.enc] at hc
 refine Qc rfl rfl ?_
 simp [F47,c47,Md.enc,hc,he]
theorem ctype_ok (m : Md) (hm : m.ok) (hf : m.fm) (t : Ty) (hs : t.size<=1048576) (hc : ∀ ws h,Qb cfg ws 78 [m.enc] h=some (.int .i64 0,h)) (ws : Nat) (h : Avm.H) : Qb cfg ws 47 [m.enc,t.enc] h=some (.int .i64 (errT m t),h):=by
 have hw : t.wid<=1048576:=Nat.le_trans t.XF hs
 have hn : t.nodes<=1048576:=Nat.le_trans (Ty.XJ _ t (Nat.le_refl _)) hs
 have e1:=fun ws h=>limits_ok t hw hn ws h
 have e2:=fun ws h=>names_ok m [] hm (by simp) t hw hn ws h
 have e3:=fun ws h=>differ_ok t hw hn ws h
 have e4:=fun ws h=>behind_ok m hm t hw ws h
 have e5:=fun ws h=>within_right t hw hn ws h
 simp [Md.enc,Ty.zero] at hc e1 e2 e3 e4 e5
 refine Qc rfl rfl ?_
 unfold errT
 cases q1 : limS t
 ·rw [q1] at e1
  simp [F47,c47,Md.enc,Ty.zero,hc,e1]
 ·rw [q1] at e1
  cases q2 : t.QE (nameP m [])
  ·rw [q2] at e2
   simp [F47,c47,Md.enc,Ty.zero,hc,e1,e2]
  ·rw [q2] at e2
   cases q3 : t.QE difP
   ·rw [q3] at e3
    simp [F47,c47,Md.enc,Ty.zero,hc,e1,e2,e3]
   ·rw [q3] at e3
    cases q4 : (beh m 21 t).isSome
    ·rw [q4] at e4
     simp [F47,c47,Md.enc,Ty.zero,hc,e1,e2,e3,e4]
    ·rw [q4] at e4
     cases q5 : t.QE Qn
     ·rw [q5] at e5
      have e6:=told_ok false 1
      simp [F47,c47,Md.enc,Ty.zero,hc,e1,e2,e3,e4,e5,e6]
     ·rw [q5] at e5
      have hq : QT t:=⟨hw,lim_nodes q1,q5,hs⟩
      have e7:=fun ws h c hc=>within_settled m hm hf [] (by simp) t hq ws h c hc
      have e6:=told_ok (t.QE (Xd m [])) 1
      simp at e7 e6
      simp [F47,c47,Md.enc,Ty.zero,hc,e1,e2,e3,e4,e5,e6,e7]
end Go.Proofs.YtflbneepngjglaaGreatDoor
namespace Go.Proofs.YtflbneepngjglaaGreatDoor
open Go Go.Avm
theorem known_nil (m : Md) (x : Ty) : knownP m [] x=nameP m [] x:=by
 unfold knownP nameP
 simp [inS]
theorem allP_congr {p q : Ty->Bool} (h : ∀ x,p x=q x) (t : Ty) : t.QE p=t.QE q:=by
 have : p=q:=funext h
 rw [this]
theorem rctype_err (m : Md) (t : Ty) (e : Int) (he : e ≠ 0) (hc : ∀ ws h,Qb cfg ws 102 [m.enc] h=some (.int .i64 e,h)) (ws : Nat) (h : Avm.H) : Qb cfg ws 74 [m.enc,t.enc] h=some (.int .i64 e,h):=by
 simp [Md.enc] at hc
 refine Qc rfl rfl ?_
 simp [F74,c74,Md.enc,hc,he]
theorem rctype_ok (m : Md) (hm : m.ok) (hl : m.lim) (hf : m.fm) (t : Ty) (hs : t.size<=1048576) (hc : ∀ ws h,Qb cfg ws 102 [m.enc] h=some (.int .i64 0,h)) (ws : Nat) (h : Avm.H) : Qb cfg ws 74 [m.enc,t.enc] h=some (.int .i64 (errT m t),h):=by
 have hw : t.wid<=1048576:=Nat.le_trans t.XF hs
 have hn : t.nodes<=1048576:=Nat.le_trans (Ty.XJ _ t (Nat.le_refl _)) hs
 have e1:=fun ws h=>limited_ok t hw hn ws h
 have e2:=fun ws h=>named_ok m [] hm (by simp) t hw hn ws h
 rw [allP_congr (known_nil m)] at e2
 have e3:=fun ws h=>once_ok t hw hn ws h
 have e5:=fun ws h=>formed_ok t hw hn ws h
 simp [Md.enc,Ty.zero] at hc e1 e2 e3 e5
 refine Qc rfl rfl ?_
 unfold errT
 cases q1 : limS t
 ·rw [q1] at e1
  simp [F74,c74,Md.enc,Ty.zero,hc,e1]
 ·rw [q1] at e1
  have e4:=fun ws h=>root_beh m hm hl hf t hw (lim_nodes q1) ws h
  simp [Md.enc,Ty.zero] at e4
  cases q2 : t.QE (nameP m [])
  ·rw [q2] at e2
   simp [F74,c74,Md.enc,Ty.zero,hc,e1,e2]
  ·rw [q2] at e2
   cases q3 : t.QE difP
   ·rw [q3] at e3
    simp [F74,c74,Md.enc,Ty.zero,hc,e1,e2,e3]
   ·rw [q3] at e3
    cases q4 : (beh m 21 t).isSome
    ·rw [q4] at e4
     simp [F74,c74,Md.enc,Ty.zero,hc,e1,e2,e3,e4]
    ·rw [q4] at e4
     cases q5 : t.QE Qn
     ·rw [q5] at e5
      simp [F74,c74,Md.enc,Ty.zero,hc,e1,e2,e3,e4,e5,QB]
     ·rw [q5] at e5
      have hq : QT t:=⟨hw,lim_nodes q1,q5,hs⟩
      have e7:=fun ws h=>whole_ok m hm hl hf [] (by simp) t hq ws h
      simp [Md.enc] at e7
      cases q6 : t.QE (Xd m [])
      ·rw [q6] at e7
       simp [F74,c74,Md.enc,Ty.zero,hc,e1,e2,e3,e4,e5,e7,QB]
      ·rw [q6] at e7
       simp [F74,c74,Md.enc,Ty.zero,hc,e1,e2,e3,e4,e5,e7,QB]
end Go.Proofs.YtflbneepngjglaaGreatDoor
