/- TypesForms: for every input whose reading holds at most so many values and letters, the law answers true, and what it was given reads as it read before. The conditions are the bound and the two tables of package utf8, which the card ties to the program's text. -/
import Derived.Test.YtflbneepngjglaaGreatDoorM51
import Derived.Test.YtflbneepngjglaaGreatDoorM52
import Derived.Test.YtflbneepngjglaaGreatDoorCards
import Derived.Test.YtflbneepngjglaaGreatDoorTie
import Derived.Test.YtflbneepngjglaaGreatDoorM33
set_option linter.all false
namespace Go.Proofs.YtflbneepngjglaaGreatDoor
open Go Go.Avm
theorem dflt_one {m : Md} {ps : List ByteArray} {t : Ty} (hr : Qn t=true) (hs : Xd m ps t=true) : ∀ x ∈ t.items,x.Qv.length<=1:=fun x hx=>by
 by_cases hc : t.comp=true
 ·unfold Ty.comp at hc
  simp only [Bool.or_eq_true,decide_eq_true_eq] at hc
  by_cases q8 : t.kind=8
  ·unfold Xd at hs
   rw [q8] at hs
   simp only [decide_true,Bool.not_true,Bool.false_or] at hs
   have:=List.all_eq_true.1 hs x hx
   unfold dfltB at this
   split at this
   ·rename_i e; rw [e]; simp
   ·rename_i d e; rw [e]; simp
   ·cases this
  ·have q9 : t.kind=9:=by omega
   unfold Qn at hr
   simp [q9] at hr
   have:=hr.2.2 x hx
   unfold XI at this
   simp at this
   rw [this.2]; simp
 ·rcases right_items hr hc with h | h
  ·rw [h] at hx; cases hx
  ·have:=List.all_eq_true.1 h x hx
   unfold bareI at this
   simp at this
   rw [this.2.2]; simp
theorem sum_len {α β : Type} (f : α->List β) (g : α->Nat) : ∀ (l : List α),(∀ x ∈ l,(f x).length + 1<=g x)->(l.flatMap f).length + l.length<=(l.map g).sum
 | [],_=>by simp
 | x :: l,h=>by
  have h1:=h x (by simp)
  have h2:=sum_len f g l fun y hy=>h y (by simp [hy])
  simp only [List.flatMap_cons,List.length_append,List.length_cons,List.map_cons,List.sum_cons]
  omega
theorem flat_le {α β : Type} (f : α->List β) : ∀ (l : List α),(∀ x ∈ l,(f x).length<=1)->(l.flatMap f).length<=l.length
 | [],_=>by simp
 | x :: l,h=>by
  have h1:=h x (by simp)
  have h2:=flat_le f l fun y hy=>h y (by simp [hy])
  simp only [List.flatMap_cons,List.length_append,List.length_cons]
  omega
theorem prs_len (m : Md) (ps : List ByteArray) : ∀ (n : Nat) (t : Ty),t.size<=n->t.QE Qn=true->t.QE (Xd m ps)=true->t.prs.length + 1<=t.nodes
 | 0,t,h,_,_=>by have:=t.size_pos; omega
 | n + 1,t,h,hr,hs=>by
  have h1:=sum_len Ty.prs Ty.nodes t.inner fun y hy=>prs_len m ps n y (by have:=Ty.QQ hy; omega) (QA hr hy) (QA hs hy)
  have hone:=dflt_one (QO hr) (QO hs)
  have h2 : (t.items.flatMap fun x=>x.Qv.map fun d=>(x.of,d)).length<=t.inner.length:=by
   by_cases hc : t.comp=true
   ·have:=flat_le (fun x : It=>x.Qv.map fun d=>(x.of,d)) t.items fun x hx=>by simpa using hone x hx
    unfold Ty.inner
    rw [if_pos hc,List.length_append,List.length_map]
    omega
   ·rcases right_items (QO hr) hc with h | h
    ·rw [h]; simp
    ·have : (t.items.flatMap fun x=>x.Qv.map fun d=>(x.of,d))=[]:=by
       rw [List.flatMap_eq_nil_iff]
       intro x hx
       have:=List.all_eq_true.1 h x hx
       unfold bareI at this
       simp at this
       rw [this.2.2]; rfl
     rw [this]; simp
  rw [Ty.prs_eq,List.length_append,Ty.QC]
  omega
theorem prs_size : ∀ (n : Nat) (t : Ty),t.size<=n->∀ q ∈ t.prs,q.2.size<=t.wid
 | 0,t,h=>by have:=t.size_pos; omega
 | n + 1,t,h=>fun q hq=>by
  rw [Ty.prs_eq] at hq
  rcases List.mem_append.1 hq with hq | hq
  ·obtain ⟨x,hx,hq⟩:=List.mem_flatMap.1 hq
   obtain ⟨d,hd,rfl⟩:=List.mem_map.1 hq
   have:=It.wid_val hd
   have:=Ty.wid_item hx
   dsimp only
   omega
  ·obtain ⟨y,hy,hq⟩:=List.mem_flatMap.1 hq
   have:=prs_size n y (by have:=Ty.QQ hy; omega) q hq
   have:=Ty.wid_inner hy
   omega
def allS (m : Md) (t : Ty) : List (Ty × Val):=(m.defs.flatMap fun d=>d.of.prs)++t.prs
theorem errM_more {m : Md} (h : errM m=0) : m.defs.length<=40/\m.defs.all (setD m)=true:=by
 unfold errM at h
 split at h
 ·cases h
 rename_i hl
 split at h
 ·cases h
 split at h
 ·cases h
 split at h
 ·cases h
 split at h
 ·cases h
 split at h
 ·cases h
 refine ⟨by omega,?_⟩
 cases q : m.defs.all (setD m)
 ·rw [q] at h; cases h
 ·rfl
theorem errT_more {m : Md} {t : Ty} (h : errT m t=0) : t.QE (Xd m [])=true:=by
 unfold errT at h
 split at h
 ·cases h
 split at h
 ·cases h
 split at h
 ·cases h
 split at h
 ·cases h
 cases q : t.QE (Xd m [])
 ·rw [q] at h; simp [QB] at h
 ·rfl
theorem flat_sum {α β : Type} (f : α->List β) (k : Nat) : ∀ (l : List α),(∀ x ∈ l,(f x).length<=k)->(l.flatMap f).length<=l.length * k
 | [],_=>by simp
 | x :: l,h=>by
  have h1:=h x (by simp)
  have h2:=flat_sum f k l fun y hy=>h y (by simp [hy])
  simp only [List.flatMap_cons,List.length_append,List.length_cons,Nat.succ_mul]
  omega
theorem fine_of {m : Md} (hm : m.ok) {t : Ty} (hs : t.size<=1048576) (h : errC m t=0) : m.fine (allS m t)/\t.fine m (allS m t)/\(allS m t).length<=1048575/\∀ q ∈ allS m t,q.2.size<=1048576:=by
 obtain ⟨h1,h2⟩:=errC_zero h
 obtain ⟨h3,h4⟩:=errM_zero h1
 obtain ⟨h5,h6⟩:=errM_more h1
 obtain ⟨h7,h8⟩:=errT_zero h2
 have h9:=errT_more h2
 have hw : t.wid<=1048576:=Nat.le_trans t.XF hs
 have hset : ∀ d ∈ m.defs,d.of.QE (Xd m d.params)=true:=fun d hd=>List.all_eq_true.1 h6 d hd
 have hlim:=lim_of h3
 have hfm:=fm_of h4
 refine ⟨⟨hm,hlim,hfm,hset,fun d hd q hq=>List.mem_append_left _ (List.mem_flatMap.2 ⟨d,hd,hq⟩)⟩,
  ⟨hw,lim_nodes h7,h8,good_of h8 h9 fun q hq=>List.mem_append_right _ hq⟩,?_,fun q hq=>?_⟩
 ·unfold allS
  rw [List.length_append]
  have e1:=flat_sum (fun d : Df=>d.of.prs) 600 m.defs fun d hd=>by
   have:=prs_len m d.params _ d.of (Nat.le_refl _) (hfm d hd) (hset d hd)
   have:=hlim d hd
   omega
  have e2:=prs_len m [] _ t (Nat.le_refl _) h8 h9
  have e3:=lim_nodes h7
  have e4 : m.defs.length * 600<=40 * 600:=Nat.mul_le_mul_right _ h5
  omega
 ·rcases List.mem_append.1 hq with hq | hq
  ·obtain ⟨d,hd,hq⟩:=List.mem_flatMap.1 hq
   have:=prs_size _ d.of (Nat.le_refl _) q hq
   have:=d.of.XF
   have:=hm.of d hd
   omega
  ·have:=prs_size _ t (Nat.le_refl _) q hq
   omega
theorem items_nodes {v : Val} : v.items.length < v.nodes:=by
 rw [v.QC]
 have : ∀ l : List Val,l.length<=(l.map Val.nodes).sum:=by
  intro l
  induction l with
  | nil=>simp
  | cons x l ih=>simp only [List.length_cons,List.map_cons,List.sum_cons]; have:=x.nodes_pos; omega
 have:=this v.items
 omega
theorem mem_nodes {v x : Val} (h : x ∈ v.items) : x.nodes < v.nodes:=by
 rw [v.QC]
 have : ∀ l : List Val,x ∈ l->x.nodes<=(l.map Val.nodes).sum:=by
  intro l
  induction l with
  | nil=>intro h; cases h
  | cons y l ih=>
   intro h
   simp only [List.map_cons,List.sum_cons]
   rcases List.mem_cons.1 h with rfl | h
   ·omega
   ·have:=ih h; omega
 have:=this v.items h
 omega
theorem copiedN_ok : ∀ (n : Nat) (v : Val),v.nodes<=n->v.nodes<=1048576->∀ ws h,Qb cfg ws 39 [v.enc] h=some (v.enc,h)
 | 0,v,hv,_,_,_=>by have:=v.nodes_pos; omega
 | n + 1,v,hv,hb,ws,h=>by
  have hlen:=items_nodes (v:=v)
  have hcl:=cloneV_ok v.items (by omega)
  have hlp:=Qz (f:=evC (Qb cfg) Qa cfg.pol h.length h.length c39L0) (keep:=[1,2,10,11]) v.items (fun i=>[(1,.ptr h.length 0 4 0 0),(2,.ptr (h.length + 1) 0 4 0 0),(10,.int .i64 v.items.length),(11,.int .i64 i)]) (fun _=>h++[.arr 0 4 [.agg [.int .i64 v.kind,.int .i64 v.int,.str v.bytes,.osl (h.length + 2) 0 4 0 v.items.length]],.arr 0 4 [.agg [.int .i64 0,.int .i64 0,.str ⟨#[]⟩,.isl []]],.arr 0 4 (v.items.map Val.enc)])
   (fun _ _=>(.exit 0,[(1,.ptr h.length 0 4 0 0),(2,.ptr (h.length + 1) 0 4 0 0),(10,.int .i64 v.items.length),(11,.int .i64 v.items.length)],h++[.arr 0 4 [.agg [.int .i64 v.kind,.int .i64 v.int,.str v.bytes,.osl (h.length + 2) 0 4 0 v.items.length]],.arr 0 4 [.agg [.int .i64 0,.int .i64 0,.str ⟨#[]⟩,.isl []]],.arr 0 4 (v.items.map Val.enc)])) ?_ ?_
  ·refine Qc rfl rfl ?_
   simp at hlp hcl
   simp [F39,c39,hcl,hlp]
  ·intro i x r hd hi hx K hK
   have hw:=Qd (n:=i + 1) (by omega)
   simp at hw
   have hm1 : x ∈ v.items:=by rw [← hx]; exact List.getElem_mem hi
   have hsz:=mem_nodes hm1
   have hc:=fun ws h'=>copiedN_ok n x (by omega) (by omega) ws h'
   have hset : (v.items.map Val.enc).set i x.enc=v.items.map Val.enc:=set_same (by rw [List.getElem?_map,List.getElem?_eq_getElem hi,hx]; rfl)
   simp at hc hset hK
   simp [c39L0,hi,hx,hc,hset,hw,hK]
  ·intro K
   simp [c39L0]
theorem sameN_ok : ∀ (n : Nat) (v w : Val),v.nodes<=n->v.nodes<=1048576->∀ ws h,Qb cfg ws 17 [v.enc,w.enc] h=some (.bool (v.same w),h)
 | 0,v,_,hv,_,_,_=>by have:=v.nodes_pos; omega
 | n + 1,v,w,hv,hb,ws,h=>by
  have hlen:=items_nodes (v:=v)
  have heq:=fun h'=>eqFuncV_ok v.items w.items (by omega) (fun x hx y ws h=>by
   have:=mem_nodes hx
   exact sameN_ok n x y (by omega) (by omega) ws h) h.length h'
  refine Qc rfl rfl ?_
  rw [Val.Xp]
  simp [F17,c17,heq,Bool.and_assoc]
theorem rsameN_ok : ∀ (n : Nat) (v w : Val),v.nodes<=n->v.nodes<=1048576->∀ ws h,Qb cfg ws 13 [v.enc,w.enc] h=some (.bool (v.same w),h)
 | 0,v,_,hv,_,_,_=>by have:=v.nodes_pos; omega
 | n + 1,v,w,hv,hb,ws,h=>by
  have hlen:=items_nodes (v:=v)
  refine Qc rfl rfl ?_
  rw [Val.Xp]
  by_cases h1 : v.kind=w.kind
  ·by_cases h2 : v.int=w.int
   ·by_cases h3 : v.bytes.toList=w.bytes.toList
    ·by_cases h4 : v.items.length=w.items.length
     ·have hl:=Qz (f:=evC (Qb cfg) Qa cfg.pol h.length h.length c13L0) (keep:=[2,3,5]) v.items (fun i=>[(2,.ptr h.length 0 4 0 0),(3,.ptr (h.length + 1) 0 4 0 0),(5,.int .i64 i)]) (fun _=>h++[.arr 0 4 [v.enc],.arr 0 4 [w.enc]])
        (fun j r=>if eqL Val.same r (w.items.drop j)=true then (.exit 0,[(2,.ptr h.length 0 4 0 0),(3,.ptr (h.length + 1) 0 4 0 0),(5,.int .i64 v.items.length)],h++[.arr 0 4 [v.enc],.arr 0 4 [w.enc]]) else (.ret,[(4,.bool false)],h++[.arr 0 4 [v.enc],.arr 0 4 [w.enc]])) ?_ ?_
      ·simp only [List.drop_zero] at hl
       cases hs : eqL Val.same v.items w.items <;> simp [hs] at hl <;> simp [F13,c13,h1,h2,h3,h4] <;> simp [h1,h2,h3,h4] at hl <;> simp [hl]
      ·intro j x r hd hi hx K hK
       have hw:=Qd (n:=j + 1) (by omega)
       simp at hw
       have him : j < w.items.length:=by omega
       have hdm : w.items.drop j=w.items[j] :: w.items.drop (j + 1):=List.drop_eq_getElem_cons him
       rw [hdm]
       have hm1 : x ∈ v.items:=by rw [← hx]; exact List.getElem_mem hi
       have hsz:=mem_nodes hm1
       obtain ⟨y,hy⟩ : ∃ y,w.items[j]=y:=⟨_,rfl⟩
       have hcl:=fun h'=>rsameN_ok n x y (by omega) (by omega) h.length h'
       rw [hy]
       simp only [Val.enc_eq] at hcl
       rw [eqL]
       cases hs : x.same y
       ·rw [hs] at hcl
        simp [c13L0,hi,hx,him,hy,hcl]
       ·rw [hs] at hcl
        simp at hK
        simp [c13L0,hi,hx,him,hy,hcl,hw,hK]
      ·intro K
       have : w.items.drop v.items.length=[]:=by rw [h4]; simp
       rw [this]
       simp [c13L0,eqL]
     ·have hs : eqL Val.same v.items w.items=false:=by
        cases hs : eqL Val.same v.items w.items with
        | false=>rfl
        | true=>exact absurd (eqL_len hs) h4
      have hn2 : ¬ (v.items.length : Int)=w.items.length:=by omega
      rw [hs]
      simp [F13,c13,h1,h2,h3,hn2]
    ·simp [F13,c13,h1,h2,h3]
   ·simp [F13,c13,h1,h2]
  ·simp [F13,c13,h1]
end Go.Proofs.YtflbneepngjglaaGreatDoor
namespace Go.Proofs.YtflbneepngjglaaGreatDoor
open Go Go.Avm
def askE (m : Md) (t : Ty) (v : Val) : Int:=if errC m t=0 then QB (fairP v && Xw m v.size t v) 1 else errC m t
theorem asked_ok (m : Md) (hm : m.ok) (t : Ty) (hs : t.size<=1048576) (v : Val) (hv : v.size<=1048576) (ws : Nat) (h : Avm.H) : Qb cfg ws 38 [m.enc,t.enc,v.enc] h=some (.int .i64 (askE m t v),h):=by
 have hw : t.wid<=1048576:=Nat.le_trans t.XF hs
 have e1:=fun ws h=>ctypeC_ok m hm t hs ws h
 have e2:=fun ws h=>fair_ok v hv ws h
 unfold askE
 refine Qc rfl rfl ?_
 by_cases q : errC m t=0
 ·obtain ⟨q1,q2⟩:=errC_zero q
  have e3:=fun ws h=>fits_ok m hm (fm_of (errM_zero q1).2) v.size v (Nat.le_refl _) hv t hw (errT_zero q2).2 ws h
  have e4:=fun b ws h=>told_ok b 1 ws h
  rw [q] at e1 ⊢
  simp [Md.enc] at e1 e2 e3
  simp [F38,c38,Md.enc,e1,e2,e3,e4]
 ·simp [Md.enc] at e1
  simp [F38,c38,Md.enc,e1,q]
theorem rasked_ok (m : Md) (hm : m.ok) (t : Ty) (hs : t.size<=1048576) (v : Val) (hv : v.size<=1048576) (ws : Nat) (h : Avm.H) : Qb cfg ws 41 [m.enc,t.enc,v.enc] h=some (.int .i64 (askE m t v),h):=by
 have hw : t.wid<=1048576:=Nat.le_trans t.XF hs
 have e1:=fun ws h=>rctypeC_ok m hm t hs ws h
 unfold askE
 refine Qc rfl rfl ?_
 by_cases q : errC m t=0
 ·obtain ⟨q1,q2⟩:=errC_zero q
  have e3:=fun ws h=>fit_ok m hm (lim_of (errM_zero q1).1) (fm_of (errM_zero q1).2) t hw (lim_nodes (errT_zero q2).1) (errT_zero q2).2 v hv ws h
  rw [q] at e1 ⊢
  generalize (fairP v && Xw m v.size t v)=B at *
  simp [Md.enc] at e1 e3
  cases B
  ·simp [F41,c41,Md.enc,e1,e3,QB]
  ·simp [F41,c41,Md.enc,e1,e3,QB]
 ·simp [Md.enc] at e1
  simp [F41,c41,Md.enc,e1,q]
theorem askE_zero {m : Md} {t : Ty} {v : Val} (h : askE m t v=0) : errC m t=0/\fairP v=true/\Xw m v.size t v=true:=by
 unfold askE at h
 by_cases q : errC m t=0
 ·rw [if_pos q] at h
  refine ⟨q,?_⟩
  cases q2 : (fairP v && Xw m v.size t v)
  ·rw [q2] at h; simp [QB] at h
  ·simpa using q2
 ·rw [if_neg q] at h; exact absurd h q
def zeroV : Val:=.mk 0 0 ⟨#[]⟩ []
def fuelP (v : Val) : Nat:=1048575 * (1048576 + 2) + v.size
def plainV (m : Md) (t : Ty) (v : Val) : Val:=(Xo m (fuelP v) [] t v).getD zeroV
theorem plainV_eq {m : Md} {S : List (Ty × Val)} (M : m.fine S) (hS : S.length<=1048575) (hSs : ∀ q ∈ S,q.2.size<=1048576) {t : Ty} (T : t.fine m S) (v : Val) : Xo m (fuelP v) [] t v=some (plainV m t v):=by
 obtain ⟨r,hr⟩:=plainN_some M hSs (fuelP v) [] t v T (by
  have h1 : rest S []<=S.length:=List.length_filter_le _ _
  unfold fuelP
  exact Nat.add_le_add_right (Nat.mul_le_mul_right _ (Nat.le_trans h1 hS)) _)
 unfold plainV
 rw [hr]; rfl
def plainE (m : Md) (t : Ty) (v : Val) : Val × Int:=if askE m t v=0 then (plainV m t v,0) else (zeroV,askE m t v)
def fullE (m : Md) (t : Ty) (v : Val) : Val × Int:=if askE m t v=0 then (match fullN m 30 t v 600 with | some q=>(q.1,0) | none=>(zeroV,2)) else (zeroV,askE m t v)
theorem nodes_le_size : ∀ (n : Nat) (v : Val),v.size<=n->v.nodes<=v.size
 | 0,v,h=>by have:=v.size_pos; omega
 | n + 1,v,h=>by
  rw [v.QC,v.size_eq]
  have : ∀ l : List Val,(∀ x ∈ l,x.nodes<=x.size)->(l.map Val.nodes).sum<=Val.QM l:=by
   intro l
   induction l with
   | nil=>intro _; simp [Val.QM]
   | cons x l ih=>
    intro hl
    have h1:=hl x (by simp)
    have h2:=ih fun y hy=>hl y (by simp [hy])
    simp only [List.map_cons,List.sum_cons,Val.QM]
    omega
  have:=this v.items fun x hx=>nodes_le_size n x (by have:=Val.Qw hx; omega)
  omega
theorem pplain_ok (m : Md) (hm : m.ok) (t : Ty) (hs : t.size<=1048576) (v : Val) (hv : v.size<=1048576) (ws : Nat) (h : Avm.H) : Qb cfg ws 11 [m.enc,t.enc,v.enc] h=some (.tup [(plainE m t v).1.enc,.int .i64 (plainE m t v).2],h):=by
 have e1:=fun ws h=>asked_ok m hm t hs v hv ws h
 unfold plainE
 refine Qc rfl rfl ?_
 by_cases q : askE m t v=0
 ·obtain ⟨q1,q2,q3⟩:=askE_zero q
  obtain ⟨M,T,hS,hSs⟩:=fine_of hm hs q1
  have hpl:=plainV_eq M hS hSs T v
  have hr : rest (allS m t) []<=(allS m t).length:=List.length_filter_le _ _
  have e2:=fun ws h'=>plain_ok M hS hSs (fuelP v) [] t v (plainV m t v) hpl T ⟨_,q3⟩ hv (by simp) (by simpa using hr) (.ptr (h.length + 4) 0 3 0 0) (h++([.arr 0 2 [m.enc],.arr 0 8 [t.enc],.arr 0 4 [v.enc],.arr 0 4 [.agg [.int .i64 0,.int .i64 0,.str ⟨#[]⟩,.isl []]],.arr 0 3 [.agg [.str m.name,.isl (m.defs.map Df.enc),.isl []]]]++h')) ⟨h.length + 4,.isl [],rfl,by simp,by simp,.inl rfl⟩ ws
  have e2:=fun ws=>e2 ws []
  have hsz:=plainN_size hpl
  have e3:=fun ws h=>copiedN_ok _ (plainV m t v) (Nat.le_refl _) (by have:=nodes_le_size _ (plainV m t v) (Nat.le_refl _); omega) ws h
  rw [q] at e1 ⊢
  generalize plainV m t v=r at *
  simp at e2 e3
  simp only [Md.enc] at e1 e2
  simp at e1
  simp [F11,c11,Md.enc,e1,e2,e3]
 ·simp only [Md.enc] at e1
  simp at e1
  simp [F11,c11,Md.enc,e1,q,zeroV]
theorem rplain_ok (m : Md) (hm : m.ok) (t : Ty) (hs : t.size<=1048576) (v : Val) (hv : v.size<=1048576) (ws : Nat) (h : Avm.H) : Qb cfg ws 12 [m.enc,t.enc,v.enc] h=some (.tup [(plainE m t v).1.enc,.int .i64 (plainE m t v).2],h):=by
 have e1:=fun ws h=>rasked_ok m hm t hs v hv ws h
 unfold plainE
 refine Qc rfl rfl ?_
 by_cases q : askE m t v=0
 ·obtain ⟨q1,q2,q3⟩:=askE_zero q
  obtain ⟨M,T,hS,hSs⟩:=fine_of hm hs q1
  have hpl:=plainV_eq M hS hSs T v
  have e2:=fun ws h=>spare0_ok M hS hSs (fuelP v) t v (plainV m t v) hpl T ⟨_,q3⟩ hv ws h
  rw [q] at e1 ⊢
  generalize plainV m t v=r at *
  simp only [Md.enc] at e1 e2
  simp at e1 e2
  simp [F12,c12,Md.enc,e1,e2]
 ·simp only [Md.enc] at e1
  simp at e1
  simp [F12,c12,Md.enc,e1,q,zeroV]
theorem mapS_nodes {f : Nat->Val->Int->Option (Val × Int)} : ∀ {l r : List Val} {i : Nat} {c c' : Int},(∀ (j : Nat) x,l[j]? = some x->∀ c q,f (i + j) x c=some q->(q.1.nodes : Int) + q.2<=c)->mapS f i l c=some (r,c')->((r.map Val.nodes).sum : Nat) + c'<=c
 | [],r,i,c,c',_,h=>by simp [mapS] at h; obtain ⟨rfl,rfl⟩:=h; simp
 | x :: l,r,i,c,c',hf,h=>by
  unfold mapS at h
  split at h
  ·cases h
  ·rename_i y c1 h1
   split at h
   ·cases h
   ·rename_i ys c2 h2
    injection h with h
    injection h with h3 h4
    subst h3; subst h4
    have e1:=hf 0 x rfl c (y,c1) h1
    have e2:=mapS_nodes (l:=l) (r:=ys) (i:=i + 1) (fun j z hz c q hq=>hf (j + 1) z (by simpa using hz) c q (by rw [show i + (j + 1)=i + 1 + j by omega]; exact hq)) h2
    simp only [List.map_cons,List.sum_cons]
    dsimp only at e1
    push_cast
    omega
theorem fullN_nodes {m : Md} {S : List (Ty × Val)} (M : m.fine S) (hSs : ∀ q ∈ S,q.2.size<=1048576) : ∀ (n : Nat) (t : Ty) (v : Val) (l : Int) (q : Val × Int),t.fine m S->(∃ k,Xw m k t v=true)->v.size<=1048576->fullN m n t v l=some q->(q.1.nodes : Int) + q.2<=l
 | 0,_,_,_,_,_,_,_,h=>by cases h
 | n + 1,t,v,l,q,T,⟨k,hk⟩,hv,h=>by
  cases k with
  | zero=>cases hk
  | succ k=>
  cases hb : beh m 21 t with
  | none=>unfold Xw at hk; rw [hb] at hk; cases hk
  | some b=>
  have I:=fill_in M hSs T hb hv hk
  unfold fullN at h
  split at h
  ·cases h
  ·rw [hb,Option.getD_some] at h
   split at h
   ·cases h
   ·rename_i ys l' hm
    injection h with h
    subst h
    have e:=mapS_nodes (fun j x hx c q hq=>by
     rw [Nat.zero_add] at hq
     unfold fullF at hq
     cases hp : Xl b v j x with
     | none=>
      rw [hp] at hq
      dsimp only at hq
      unfold leafS at hq
      split at hq
      ·cases hq
      ·injection hq with hq
       subst hq
       obtain ⟨h1,_,_⟩:=I.leaf j x hx hp
       have : x.nodes=1:=by rw [x.QC,h1]; simp
       dsimp only
       omega
     | some w=>
      rw [hp] at hq
      obtain ⟨h1,h2,h3,h4⟩:=I.real j x w hx hp
      exact fullN_nodes M hSs n w.1 w.2 c q h2 h4 h3 hq) hm
    rw [Val.QC]
    simp only [Val.Xf]
    omega
theorem fullN_few {m : Md} {S : List (Ty × Val)} (M : m.fine S) (hSs : ∀ q ∈ S,q.2.size<=1048576) {t : Ty} {v : Val} (T : t.fine m S) (hk : ∃ k,Xw m k t v=true) (hv : v.size<=1048576) {q : Val × Int} {r : Val} {ok : Bool} {l' : Int} (h : fullN m 30 t v 600=some q) (hF : Fills (fullN m 30 t v 600) r ok l') : q.1.nodes<=600:=by
 have e:=fullN_nodes M hSs 30 t v 600 q T hk hv h
 rw [h] at hF
 obtain ⟨_,_,h1,h2,_⟩:=hF
 omega
theorem pfull_ok (m : Md) (hm : m.ok) (t : Ty) (hs : t.size<=1048576) (v : Val) (hv : v.size<=1048576) (ws : Nat) (h : Avm.H) : Qb cfg ws 14 [m.enc,t.enc,v.enc] h=some (.tup [(fullE m t v).1.enc,.int .i64 (fullE m t v).2],h):=by
 have e1:=fun ws h=>asked_ok m hm t hs v hv ws h
 unfold fullE
 refine Qc rfl rfl ?_
 by_cases q : askE m t v=0
 ·obtain ⟨q1,q2,q3⟩:=askE_zero q
  obtain ⟨M,T,hS,hSs⟩:=fine_of hm hs q1
  obtain ⟨r,ok,l',e2,e3⟩:=full_ok M hSs 30 t v (by omega) T ⟨_,q3⟩ hv 600 (by omega) (by omega) (h.length + 4) 0 h.length (h++([.arr 0 2 [m.enc],.arr 0 8 [t.enc],.arr 0 4 [v.enc],.arr 0 4 [.agg [.int .i64 0,.int .i64 0,.str ⟨#[]⟩,.isl []]],filB m 0 600])) (by simp) (by omega)
  rw [q] at e1 ⊢
  simp only [Md.enc] at e1 e2
  simp at e1
  simp only [filB] at e2
  cases hf : fullN m 30 t v 600 with
  | none=>
   rw [hf] at e3
   unfold Fills at e3
   dsimp only at e3
   subst e3
   simp at e2
   simp [F14,c14,Md.enc,e1,e2,zeroV]
  | some w=>
   have hfew:=fullN_few M hSs T ⟨_,q3⟩ hv hf e3
   rw [hf] at e3
   unfold Fills at e3
   dsimp only at e3
   obtain ⟨rfl,rfl,rfl,h1,h2⟩:=e3
   have e4:=fun ws h=>copiedN_ok _ w.1 (Nat.le_refl _) (by omega) ws h
   simp at e2 e4
   simp [F14,c14,Md.enc,e1,e2,e4]
 ·simp only [Md.enc] at e1
  simp at e1
  simp [F14,c14,Md.enc,e1,q,zeroV]
theorem rfull_ok (m : Md) (hm : m.ok) (t : Ty) (hs : t.size<=1048576) (v : Val) (hv : v.size<=1048576) (ws : Nat) (h : Avm.H) : Qb cfg ws 15 [m.enc,t.enc,v.enc] h=some (.tup [(fullE m t v).1.enc,.int .i64 (fullE m t v).2],h):=by
 have e1:=fun ws h=>rasked_ok m hm t hs v hv ws h
 unfold fullE
 refine Qc rfl rfl ?_
 by_cases q : askE m t v=0
 ·obtain ⟨q1,q2,q3⟩:=askE_zero q
  obtain ⟨M,T,hS,hSs⟩:=fine_of hm hs q1
  obtain ⟨r,ok,l',e2,e3⟩:=fill_ok M hSs 30 t v (by omega) T ⟨_,q3⟩ hv 600 (by omega) (by omega) (h.length + 4) 0 h.length (h++([.arr 0 2 [m.enc],.arr 0 8 [t.enc],.arr 0 4 [v.enc],.arr 0 4 [.agg [.int .i64 0,.int .i64 0,.str ⟨#[]⟩,.isl []]],lefB 0 600])) (by simp) (by omega)
  rw [q] at e1 ⊢
  simp only [Md.enc] at e1 e2
  simp at e1
  simp only [lefB] at e2
  cases hf : fullN m 30 t v 600 with
  | none=>
   rw [hf] at e3
   unfold Fills at e3
   dsimp only at e3
   subst e3
   simp at e2
   simp [F15,c15,Md.enc,e1,e2,zeroV]
  | some w=>
   rw [hf] at e3
   unfold Fills at e3
   dsimp only at e3
   obtain ⟨rfl,rfl,rfl,h1,h2⟩:=e3
   simp at e2
   simp [F15,c15,Md.enc,e1,e2]
 ·simp only [Md.enc] at e1
  simp at e1
  simp [F15,c15,Md.enc,e1,q,zeroV]
theorem plainE_few {m : Md} (hm : m.ok) {t : Ty} (hs : t.size<=1048576) {v : Val} (hv : v.size<=1048576) : (plainE m t v).1.nodes<=1048576:=by
 unfold plainE
 split
 ·rename_i q
  obtain ⟨q1,q2,q3⟩:=askE_zero q
  obtain ⟨M,T,hS,hSs⟩:=fine_of hm hs q1
  have:=plainN_size (plainV_eq M hS hSs T v)
  have:=nodes_le_size _ (plainV m t v) (Nat.le_refl _)
  dsimp only
  omega
 ·have : zeroV.nodes=1:=by rw [zeroV,Val.QC]; rfl
  dsimp only
  omega
theorem fullE_few {m : Md} (hm : m.ok) {t : Ty} (hs : t.size<=1048576) {v : Val} (hv : v.size<=1048576) : (fullE m t v).1.nodes<=1048576:=by
 have hz : zeroV.nodes=1:=by rw [zeroV,Val.QC]; rfl
 unfold fullE
 split
 ·rename_i q
  obtain ⟨q1,q2,q3⟩:=askE_zero q
  obtain ⟨M,T,hS,hSs⟩:=fine_of hm hs q1
  obtain ⟨r,ok,l',e2,e3⟩:=full_ok M hSs 30 t v (by omega) T ⟨_,q3⟩ hv 600 (by omega) (by omega) 0 0 0 [filB m 0 600] rfl (by omega)
  split
  ·rename_i w hf
   have:=fullN_few M hSs T ⟨_,q3⟩ hv hf e3
   dsimp only
   omega
  ·dsimp only; omega
 ·dsimp only; omega
theorem same_self (v : Val) : v.same v=true:=(Val.same_iff v v).2 rfl
theorem sane5 (ws : Nat) (A B C D E : QJ) : callN cfg 100 ws 16 [] [A,B,C,D,E]=some (.bool true,[A,B,C,D,E]):=by kernel_rfl
theorem sane5_ok (ws : Nat) (A B C D E : QJ) : Qb cfg ws 16 [] [A,B,C,D,E]=some (.bool true,[A,B,C,D,E]):=callN_L 100 _ _ _ _ _ (sane5 ws A B C D E)
theorem typesForms_ok (m : Md) (hm : m.ok) (t : Ty) (hs : t.size<=1048576) (v : Val) (hv : v.size<=1048576) : Qb cfg 0 3 [m.enc,t.enc,v.enc] []=some (.bool true,[]):=by
 have e1:=fun ws h=>pplain_ok m hm t hs v hv ws h
 have e2:=fun ws h=>rplain_ok m hm t hs v hv ws h
 have e3:=fun ws h=>pfull_ok m hm t hs v hv ws h
 have e4:=fun ws h=>rfull_ok m hm t hs v hv ws h
 have e5:=fun ws h=>rsameN_ok _ (plainE m t v).1 (plainE m t v).1 (Nat.le_refl _) (plainE_few hm hs hv) ws h
 have e6:=fun ws h=>rsameN_ok _ (fullE m t v).1 (fullE m t v).1 (Nat.le_refl _) (fullE_few hm hs hv) ws h
 rw [same_self] at e5 e6
 obtain ⟨p,a⟩:=plainE m t v
 obtain ⟨f,b⟩:=fullE m t v
 refine Qc rfl rfl ?_
 simp only [Md.enc] at e1 e2 e3 e4
 simp at e1 e2 e3 e4 e5 e6
 simp [F3,c3,Md.enc,e1,e2,e3,e4,e5,e6,sane5_ok]
end Go.Proofs.YtflbneepngjglaaGreatDoor
namespace Go.Proofs.YtflbneepngjglaaGreatDoor
open Go Go.Avm Go.RowKit Go.ChangeShapes Go.WideShapes Go.ChangeAt
theorem law_ev (xs : List AV) (h : argsTy Tryz.prog Tryz.f3.params.toList xs) (hn : QG xs<=1048576) : ∃ h',Qb cfg 0 3 xs []=some (.bool true,h'):=by
 have hagM : XK Tryz.prog 24=true:=by simp [XK,Tryz.underlying24]
 have hagT : XK Tryz.prog 28=true:=by simp [XK,Tryz.underlying28]
 have hagV : XK Tryz.prog 31=true:=by simp [XK,Tryz.underlying31]
 rw [Tryz.params3] at h
 obtain ⟨f1,l1,r1,rfl,t1,f2,l2,r2,rfl,t2,f3,l3,r3,rfl,t3,rfl⟩:=h
 rw [hagM,hagT,hagV] at hn ⊢
 simp only [QG,Xy,if_true,AV.bulk] at hn ⊢
 obtain ⟨m,hm,sm⟩:=md_of t1 (by omega)
 obtain ⟨t,ht,st⟩:=ty_of _ _ _ (Nat.le_refl _) t2
 obtain ⟨v,hv,sv⟩:=val_of _ _ _ (Nat.le_refl _) t3
 simp only [AV.bulk] at sv
 rw [hm,hv,ht]
 exact ⟨[],typesForms_ok m sm t (by omega) v (by omega)⟩
set_option maxRecDepth 100000 in
theorem contract (H : Type) (enc : TypeId × Value->H) (W : World) (base : Nat) (args : Array Value) (ds gs : List (DataW H)) (before : List MemPlace)
    (hval : ∀ (j : Nat) t v,Tryz.f3.params[j]? = some t->args[j]? = some v->Value.okWide Tryz.prog W .any base t v)
    (hW : DataW.Whole enc Tryz.prog Tryz.f3.params.toList Rows.typesFormsSpec.vars false W args.toList ds gs before) (hk : Rows.uptoSmall H (ds++gs)=true) (hsh : W.ShapedOpen Tryz.prog) :
    Calls Tryz.prog 3 args W fun e W'=>∃ v,e = .returned v/\Rows.typesFormsSpec.post enc Tryz.prog Tryz.f3 false true false false W args v W':=by
 have hW':=hW
 obtain ⟨m,hm⟩:=Tryz.layCo.s1_3 W hsh
 obtain ⟨p,q,hA,hV,hps,hfz,hnd⟩:=hW
 obtain ⟨rfl,rfl⟩:=trodVars_none hV
 have hds : ∃ d0 d1 d2,ds=[d0,d1,d2]:=by
  have h:=hA
  rw [Tryz.params3] at h
  obtain ⟨_,_,d0,_,_,_,_,rfl,_,_,r0⟩:=trodAll_cons h
  obtain ⟨_,_,d1,_,_,_,_,rfl,_,_,r1⟩:=trodAll_cons r0
  obtain ⟨_,_,d2,_,_,_,_,rfl,_,_,r2⟩:=trodAll_cons r1
  obtain ⟨_,rfl,_⟩:=trodAll_nil r2
  exact ⟨d0,d1,d2,rfl⟩
 obtain ⟨d0,d1,d2,rfl⟩:=hds
 obtain ⟨N,hN,hb⟩ : ∃ N,N=1048576/\Rows.uptoBulkAll [d0,d1,d2]<=N:=⟨_,rfl,of_decide_eq_true hk⟩
 refine (law_calls (cfg_ok hm) Tryz.func3 (by decide +kernel) rfl (bulkOk H) (n:=N) (fun xs h1 h2=>law_ev xs h1 (hN ▸ h2)) hval hA hb).mono fun e W' ⟨he,hbl⟩=>?_
 exact ⟨_,he,law_post hW' rfl rfl rfl Tryz.underlying4 (by kernel_rfl) (by kernel_rfl) hbl⟩
theorem laid_met (os : Os) : laidMet Tryz.prog Rows.typesFormsUptoRow.laid ((laidWorld os).forCall (fun _ _=>0) ⟨#[],#[.agg #[.string ⟨#[]⟩,.slice none 0 0],.agg #[.int .i64 0,.string ⟨#[]⟩,.int .i64 0,.int .i64 0,.bool false,.bool false,.slice none 0 0,.slice none 0 0],.agg #[.int .i64 0,.int .i64 0,.string ⟨#[]⟩,.slice none 0 0]],[]⟩).memory:=
 laidMet_of_run' 8 (by kernel_rfl) (by kernel_rfl)
theorem reads (os : Os) {H : Type} (enc : TypeId × Value->H) : ∃ places,DataW.whole enc Tryz.prog ((laidWorld os).forCall (fun _ _=>0) ⟨#[],#[.agg #[.string ⟨#[]⟩,.slice none 0 0],.agg #[.int .i64 0,.string ⟨#[]⟩,.int .i64 0,.int .i64 0,.bool false,.bool false,.slice none 0 0,.slice none 0 0],.agg #[.int .i64 0,.int .i64 0,.string ⟨#[]⟩,.slice none 0 0]],[]⟩).memory Tryz.f3.params.toList Rows.typesFormsSpec.vars false (#[.agg #[.string ⟨#[]⟩,.slice none 0 0],.agg #[.int .i64 0,.string ⟨#[]⟩,.int .i64 0,.int .i64 0,.bool false,.bool false,.slice none 0 0,.slice none 0 0],.agg #[.int .i64 0,.int .i64 0,.string ⟨#[]⟩,.slice none 0 0]] : Array Value).toList 8=some ([.agg [.lit (.string []),.nil],.agg [.lit (.int .i64 0),.lit (.string []),.lit (.int .i64 0),.lit (.int .i64 0),.lit (.bool false),.lit (.bool false),.nil,.nil],.agg [.lit (.int .i64 0),.lit (.int .i64 0),.lit (.string []),.nil]],[],places):=
 ⟨[],by kernel_rfl⟩
set_option maxRecDepth 100000 in
theorem liftedUpto (os : Os) (started : os.Started) (H : Type) (enc : TypeId × Value->H) (F : Stop.Interp) :
    ReturnsInHanded {} Tryz.checked os 3 .any ((Rows.OpenSpec.upto Rows.typesFormsSpec).preRow enc Tryz.prog Tryz.f3 Rows.typesFormsUptoRow.domain false Rows.typesFormsUptoRow.laid) (((Rows.OpenSpec.upto Rows.typesFormsSpec).at F).post enc Tryz.prog Tryz.f3 false true false false):=by
 obtain ⟨places,hx⟩:=reads os enc
 refine returnsInHanded_of_row (C:=Tryz.checked) (s:=Rows.OpenSpec.upto Rows.typesFormsSpec) own started (by kernel_rfl) Tryz.func3
  (witness_row_at (enc:=enc) (C:=Tryz.checked) false (laidWorld os) #[.agg #[.string ⟨#[]⟩,.slice none 0 0],.agg #[.int .i64 0,.string ⟨#[]⟩,.int .i64 0,.int .i64 0,.bool false,.bool false,.slice none 0 0,.slice none 0 0],.agg #[.int .i64 0,.int .i64 0,.string ⟨#[]⟩,.slice none 0 0]] rfl (by kernel_rfl) (by kernel_rfl) (by kernel_rfl)
   (OpenSpec.preRow_of_cond 8 hx (by kernel_rfl) (fun k hk=>by cases hk; kernel_rfl) (by kernel_rfl) (laid_met os))) ?_
 intro W base args ds gs before hval hW _ hcond _ _ hsh _
 exact contract H enc W base args ds gs before hval hW (hcond _ rfl) hsh
theorem saidUpto : Rows.TypesFormsUptoSaid:=
 OpenClaim.holds_of_cond 3 Tryz.f3 rfl rfl rfl rfl rfl rfl rfl ⟨rfl,rfl,rfl,rfl,rfl⟩ rfl rfl rfl rfl rfl (by kernel_rfl) Tryz.func3 typesForms_joined
  (of_decide_eq_true (by kernel_rfl)) (by unfold Func.isWrapper; first | (rw [if_pos (by decide +kernel)]; kernel_rfl) | (rw [if_neg (by decide +kernel)]; exact ⟨rfl,rfl⟩))
  (fun os started H enc _ F=>by rw [OpenClaim.pre_eq_preRow]; exact liftedUpto os started H enc F)
theorem plain (f : FuncId) (fn : Func) (hf : Tryz.pinned.checked.prog.funcNamed "heptad/heptadlaw02.TypesForms" = some f) (hfn : Tryz.pinned.checked.prog.funcs[f]? = some fn) :
    false=Tryz.pinned.checked.prog.looks []/\∀ (j : Nat) t,fn.params[j]? = some t->Tryz.pinned.checked.prog.wantsStandIn t=false:=by
 obtain rfl : f=3:=Option.some.inj ((show Tryz.prog.funcNamed "heptad/heptadlaw02.TypesForms" = some 3 by kernel_rfl).symm.trans hf) |>.symm
 obtain rfl : fn=Tryz.f3:=(Option.some.inj (Tryz.func3.symm.trans hfn)).symm
 refine ⟨by kernel_rfl,fun j t ht=>?_⟩
 rw [Tryz.params3] at ht
 have hall : ∀ t ∈ (#[24,28,31] : Array TypeId),Tryz.prog.wantsStandIn t=false:=by decide +kernel
 exact hall t (Array.mem_of_getElem? ht)
theorem typesForms_holds : Rows.TypesFormsUptoCardSaid:=
 Claim7.holds_tied_plain_at .later [] _ _ _ _ saidUpto (fun _ h=>by cases h) (by kernel_rfl) (fun _ h=>by cases h) typesFormsUpto_row_tie rfl ⟨rfl,rfl⟩ (by kernel_rfl) rfl plain (by kernel_rfl)
end Go.Proofs.YtflbneepngjglaaGreatDoor
