/- Arguments put in for parameters: the document's way. -/
import Derived.Test.YtflbneepngjglaaGreatDoorM39
import Derived.Test.YtflbneepngjglaaGreatDoorM38
set_option linter.all false
namespace Go.Proofs.YtflbneepngjglaaGreatDoor
open Go Go.Avm
theorem fits_4 (m : Md) (hm : m.ok) (t : Ty) (ht : t.wid<=1048576) (v : Val) (hv : v.size<=1048576) (b : Ty) (hb : beh m 21 t=some b) (hb1 : b.wid<=1048576) (hvk : v.kind=b.kind) (hk : b.kind=4) (ws : Nat) (h : Avm.H) : Qb cfg ws 49 [m.enc,t.enc,v.enc] h=some (.bool (QH false true false v && allowP b (v.bytes.size : Int) 4000),h):=by
 have hwi:=b.Qe
 have hws : IntKind.wrap .i64 ((b.items.length : Int) - 1)=(b.items.length : Int) - 1:=XC (by omega) (by omega)
 have hvb:=v.QK
 have hbb : ((v.bytes.size : Int)<=4000) ↔ v.bytes.size<=4000:=by omega
 have hvi:=v.Qs
 have hvk0:=hvk
 rw [hk] at hvk
 have e0:=fun ws h=>hasB_ok v ws h
 have e1:=fun ws h=>allowed_ok b (v.bytes.size : Int) 4000 ws h
 simp [hk,hvk] at e0 e1
 refine fits_head_4 m hm t ht v b hb hvk0 hk ws h _ [] ?_
 cases p9 : QH false true false v
 ·simp only [p9] at e0 e1
  simp [c49T79,hbb,Md.enc,hk,hvk,hws,e0,e1,p9]
 ·simp only [p9] at e0 e1
  simp [c49T79,hbb,Md.enc,hk,hvk,hws,e0,e1,p9]
theorem fits_6 (m : Md) (hm : m.ok) (t : Ty) (ht : t.wid<=1048576) (v : Val) (hv : v.size<=1048576) (b : Ty) (hb : beh m 21 t=some b) (hb1 : b.wid<=1048576) (hvk : v.kind=b.kind) (hk : b.kind=6) (ws : Nat) (h : Avm.H) : Qb cfg ws 49 [m.enc,t.enc,v.enc] h=some (.bool (arcP v),h):=by
 have hwi:=b.Qe
 have hws : IntKind.wrap .i64 ((b.items.length : Int) - 1)=(b.items.length : Int) - 1:=XC (by omega) (by omega)
 have hvb:=v.QK
 have hbb : ((v.bytes.size : Int)<=4000) ↔ v.bytes.size<=4000:=by omega
 have hvi:=v.Qs
 have hvk0:=hvk
 rw [hk] at hvk
 have e0:=fun ws h=>arcs_ok v hv ws h
 simp [hk,hvk] at e0
 refine fits_head_6 m hm t ht v b hb hvk0 hk ws h _ [] ?_
 simp [c49T107,hbb,Md.enc,hk,hvk,hws,e0]
theorem fits_11 (m : Md) (hm : m.ok) (t : Ty) (ht : t.wid<=1048576) (v : Val) (hv : v.size<=1048576) (b : Ty) (hb : beh m 21 t=some b) (hb1 : b.wid<=1048576) (hvk : v.kind=b.kind) (hk : b.kind=11) (ws : Nat) (h : Avm.H) : Qb cfg ws 49 [m.enc,t.enc,v.enc] h=some (.bool (QH false true false v && decide (v.bytes.size<=4000)),h):=by
 have hwi:=b.Qe
 have hws : IntKind.wrap .i64 ((b.items.length : Int) - 1)=(b.items.length : Int) - 1:=XC (by omega) (by omega)
 have hvb:=v.QK
 have hbb : ((v.bytes.size : Int)<=4000) ↔ v.bytes.size<=4000:=by omega
 have hvi:=v.Qs
 have hvk0:=hvk
 rw [hk] at hvk
 have e0:=fun ws h=>hasB_ok v ws h
 simp [hk,hvk] at e0
 refine fits_head_11 m hm t ht v b hb hvk0 hk ws h _ [] ?_
 cases p9 : QH false true false v
 ·simp only [p9] at e0
  simp [c49T111,hbb,Md.enc,hk,hvk,hws,e0,p9]
 ·simp only [p9] at e0
  simp [c49T111,hbb,Md.enc,hk,hvk,hws,e0,p9]
end Go.Proofs.YtflbneepngjglaaGreatDoor
namespace Go.Proofs.YtflbneepngjglaaGreatDoor
open Go Go.Avm
theorem fits_5 (m : Md) (hm : m.ok) (t : Ty) (ht : t.wid<=1048576) (v : Val) (hv : v.size<=1048576) (b : Ty) (hb : beh m 21 t=some b) (hb1 : b.wid<=1048576) (hvk : v.kind=b.kind) (hk : b.kind=5) (ws : Nat) (h : Avm.H) : Qb cfg ws 49 [m.enc,t.enc,v.enc] h=some (.bool (QH false true false v && (v.bytes.data.toList.all d01 && allowP b (v.bytes.size : Int) 32000)),h):=by
 have hwi:=b.Qe
 have hws : IntKind.wrap .i64 ((b.items.length : Int) - 1)=(b.items.length : Int) - 1:=XC (by omega) (by omega)
 have hvb:=v.QK
 have hbb : ((v.bytes.size : Int)<=4000) ↔ v.bytes.size<=4000:=by omega
 have hvi:=v.Qs
 have hvk0:=hvk
 rw [hk] at hvk
 have e0:=fun ws h=>hasB_ok v ws h
 have e1:=fun ws h=>allowed_ok b (v.bytes.size : Int) 32000 ws h
 obtain ⟨r,e2,hr⟩:=trim01_ok v.bytes (by omega) h.length (h++[.arr 0 2 [m.enc],.arr 0 8 [b.enc],.arr 0 4 [v.enc]])
 have hz : (⟨#[]⟩ : ByteArray).toList=[]:=by rw [ByteArray.toList_eq]
 rw [← ByteArray.toList_eq] at hr
 simp [hk,hvk,Md.enc] at e0 e1 e2
 refine fits_head_5 m hm t ht v b hb hvk0 hk ws h _ [] ?_
 cases p0 : QH false true false v
 ·rw [p0] at e0
  simp [c49T90,Md.enc,hk,hvk,e0]
 ·rw [p0] at e0
  cases p1 : v.bytes.data.toList.all d01
  ·rw [p1] at hr
   have hr' : ¬ r.toList=[]:=fun e=>by have:=hr.1 e; cases this
   simp [c49T90,Md.enc,hk,hvk,e0,e2,hz,hr']
  ·rw [p1] at hr
   have hr' : r.toList=[]:=hr.2 rfl
   simp [c49T90,Md.enc,hk,hvk,e0,e2,hz,hr',e1]
theorem fits_7 (m : Md) (hm : m.ok) (t : Ty) (ht : t.wid<=1048576) (v : Val) (hv : v.size<=1048576) (b : Ty) (hb : beh m 21 t=some b) (hb1 : b.wid<=1048576) (hvk : v.kind=b.kind) (sub : Ty->Val->Bool) (hk1 : b.kids.length=1) (hsub : ∀ x ∈ v.items,∀ ws h,Qb cfg ws 49 [m.enc,(b.kids.headD Ty.zero).enc,x.enc] h=some (.bool (sub (b.kids.headD Ty.zero) x),h)) (hk : b.kind=7) (ws : Nat) (h : Avm.H) : Qb cfg ws 49 [m.enc,t.enc,v.enc] h=some (.bool (QH false false true v && (allowP b (v.items.length : Int) 200 && v.items.all (sub (b.kids.headD Ty.zero)))),h):=by
 have hwi:=b.Qe
 have hws : IntKind.wrap .i64 ((b.items.length : Int) - 1)=(b.items.length : Int) - 1:=XC (by omega) (by omega)
 have hvb:=v.QK
 have hbb : ((v.bytes.size : Int)<=4000) ↔ v.bytes.size<=4000:=by omega
 have hvi:=v.Qs
 have hvk0:=hvk
 rw [hk] at hvk
 have e0:=fun ws h=>hasL_ok v ws h
 have e1:=fun ws h=>allowed_ok b (v.items.length : Int) 200 ws h
 have e2:=fitsK_ok m t v hv b hb1 sub hsub hk1 h.length h
 obtain ⟨A,hA⟩ : ∃ A,v.items.all (sub (b.kids.headD Ty.zero))=A:=⟨_,rfl⟩
 rw [hA] at e2 ⊢
 simp [hk,hvk,Md.enc] at e0 e1
 simp only [Md.enc,Ty.enc_eq,Val.enc_eq,hk,hvk] at e2
 try simp at e2
 refine fits_head_7 m hm t ht v b hb hvk0 hk ws h _ [] ?_
 cases p0 : QH false false true v
 ·rw [p0] at e0
  simp [c49T121,Md.enc,hk,hvk,e0]
 ·rw [p0] at e0
  cases p1 : allowP b (v.items.length : Int) 200
  ·rw [p1] at e1
   simp [c49T121,Md.enc,hk,hvk,e0,e1]
  ·rw [p1] at e1
   simp [c49T121,Md.enc,hk,hvk,e0,e1,e2]
end Go.Proofs.YtflbneepngjglaaGreatDoor
namespace Go.Proofs.YtflbneepngjglaaGreatDoor
open Go Go.Avm
theorem fits_9 (m : Md) (hm : m.ok) (t : Ty) (ht : t.wid<=1048576) (v : Val) (hv : v.size<=1048576) (b : Ty) (hb : beh m 21 t=some b) (hb1 : b.wid<=1048576) (hvk : v.kind=b.kind) (sub : Ty->Val->Bool) (hsub : ∀ i ∈ b.items,∀ x ∈ v.items,∀ ws h,Qb cfg ws 49 [m.enc,i.of.enc,x.enc] h=some (.bool (sub i.of x),h)) (hk : b.kind=9) (ws : Nat) (h : Avm.H) : Qb cfg ws 49 [m.enc,t.enc,v.enc] h=some (.bool (QH true false true v && (inP v.int 0 ((b.items.length : Int) - 1) && (decide (v.items.length=1) && sub ((b.items[v.int.toNat]?.map It.of).getD Ty.zero) (v.items.headD (.mk 0 0 ⟨#[]⟩ []))))),h):=by
 have hwi:=b.Qe
 have hws : IntKind.wrap .i64 ((b.items.length : Int) - 1)=(b.items.length : Int) - 1:=XC (by omega) (by omega)
 have hvb:=v.QK
 have hbb : ((v.bytes.size : Int)<=4000) ↔ v.bytes.size<=4000:=by omega
 have hvi:=v.Qs
 have hvk0:=hvk
 rw [hk] at hvk
 have e0:=fun ws h=>hasIL_ok v ws h
 have e1:=fun ws h=>in_ok v.int 0 ((b.items.length : Int) - 1) ws h
 simp [hk,hvk,Md.enc] at e0 e1
 refine fits_head_9 m hm t ht v b hb hvk0 hk ws h _ [] ?_
 cases p0 : QH true false true v
 ·rw [p0] at e0
  simp [c49T139,Md.enc,hk,hvk,hws,e0]
 ·rw [p0] at e0
  cases p1 : inP v.int 0 ((b.items.length : Int) - 1)
  ·rw [p1] at e1
   simp [c49T139,Md.enc,hk,hvk,hws,e0,e1]
  ·rw [p1] at e1
   simp only [inP,Bool.and_eq_true,decide_eq_true_eq] at p1
   by_cases p2 : v.items.length=1
   ·obtain ⟨x,hx⟩:=List.length_eq_one_iff.1 p2
    obtain ⟨n,hn⟩:=Int.eq_ofNat_of_zero_le p1.1
    have hnb : n < b.items.length:=by omega
    obtain ⟨y,hy⟩ : ∃ y,b.items[n]=y:=⟨_,rfl⟩
    have e2:=fun ws h=>hsub y (by rw [← hy]; exact List.getElem_mem hnb) x (by rw [hx]; simp) ws h
    simp [Md.enc,hx,hn] at e0 e1 e2
    simp [c49T139,Md.enc,hk,hvk,hws,e0,e1,hx,hn,hnb,hy,e2]
   ·have p2' : ¬ ((v.items.length : Nat) : Int)=1:=by omega
    simp [c49T139,Md.enc,hk,hvk,hws,e0,e1,p2,p2']
theorem fits_8 (m : Md) (hm : m.ok) (t : Ty) (ht : t.wid<=1048576) (v : Val) (hv : v.size<=1048576) (b : Ty) (hb : beh m 21 t=some b) (hb1 : b.wid<=1048576) (hvk : v.kind=b.kind) (sub : Ty->Val->Bool) (hsub : ∀ i ∈ b.items,∀ x ∈ v.items,∀ ws h,Qb cfg ws 49 [m.enc,i.of.enc,x.enc] h=some (.bool (sub i.of x),h)) (hk : b.kind=8) (ws : Nat) (h : Avm.H) : Qb cfg ws 49 [m.enc,t.enc,v.enc] h=some (.bool (QH false false true v && (decide (v.items.length=b.items.length) && (b.items.zip v.items).all (partB sub))),h):=by
 have hwi:=b.Qe
 have hws : IntKind.wrap .i64 ((b.items.length : Int) - 1)=(b.items.length : Int) - 1:=XC (by omega) (by omega)
 have hvb:=v.QK
 have hbb : ((v.bytes.size : Int)<=4000) ↔ v.bytes.size<=4000:=by omega
 have hvi:=v.Qs
 have hvk0:=hvk
 rw [hk] at hvk
 have e0:=fun ws h=>hasL_ok v ws h
 simp [hk,hvk,Md.enc] at e0
 cases p0 : QH false false true v
 ·rw [p0] at e0
  refine fits_head_8 m hm t ht v b hb hvk0 hk ws h _ [] ?_
  simp [c49S20,Md.enc,hk,hvk,e0]
 ·rw [p0] at e0
  by_cases p1 : v.items.length=b.items.length
  ·obtain ⟨g,e1⟩:=fits_loop m b v p1 (by omega) sub hsub h
   simp only [Md.enc,Ty.enc_eq,Val.enc_eq,hk,hvk] at e1
   cases p2 : (b.items.zip v.items).all (partB sub)
   ·rw [p2] at e1
    simp [p1] at e1
    refine fits_head_8 m hm t ht v b hb hvk0 hk ws h _ g ?_
    simp [c49S20,Md.enc,hk,hvk,e0,p1,e1]
   ·rw [p2] at e1
    simp [p1] at e1
    refine fits_head_8 m hm t ht v b hb hvk0 hk ws h _ g ?_
    simp [c49S20,Md.enc,hk,hvk,e0,p1,e1]
  ·have p1' : ¬ ((v.items.length : Nat) : Int)=(b.items.length : Nat):=by omega
   refine fits_head_8 m hm t ht v b hb hvk0 hk ws h _ [] ?_
   simp [c49S20,Md.enc,hk,hvk,e0,p1,p1']
theorem fits_none (m : Md) (hm : m.ok) (t : Ty) (ht : t.wid<=1048576) (v : Val) (hb : beh m 21 t=none) (ws : Nat) (h : Avm.H) : Qb cfg ws 49 [m.enc,t.enc,v.enc] h=some (.bool false,h):=by
 have hbe:=fun ws h=>behind_ok m hm t ht ws h
 rw [hb] at hbe
 simp [Md.enc,Ty.zero] at hbe
 refine Qc rfl rfl ?_
 simp [F49,c49,Md.enc,Ty.zero,hbe]
theorem fits_ne (m : Md) (hm : m.ok) (t : Ty) (ht : t.wid<=1048576) (v : Val) (b : Ty) (hb : beh m 21 t=some b) (hvk : ¬ v.kind=b.kind) (ws : Nat) (h : Avm.H) : Qb cfg ws 49 [m.enc,t.enc,v.enc] h=some (.bool false,h):=by
 have hbe:=fun ws h=>behind_ok m hm t ht ws h
 rw [hb] at hbe
 simp [Md.enc,Ty.zero] at hbe
 refine Qc rfl rfl ?_
 simp [F49,c49,Md.enc,Ty.zero,hbe,hvk]
end Go.Proofs.YtflbneepngjglaaGreatDoor
namespace Go.Proofs.YtflbneepngjglaaGreatDoor
open Go Go.Avm
theorem right_kids {t : Ty} (h : Qn t=true) (hk : t.kind=7) : t.kids.length=1:=by
 unfold Qn at h
 simp [hk] at h
 exact h.2.2
theorem right_kind {t : Ty} (h : Qn t=true) (h10 : t.kind ≠ 10) (n0 : ¬ t.kind=0) (n1 : ¬ t.kind=1) (n2 : ¬ t.kind=2) (n3 : ¬ t.kind=3) (n4 : ¬ t.kind=4) (n5 : ¬ t.kind=5) (n6 : ¬ t.kind=6) (n11 : ¬ t.kind=11) (n7 : ¬ t.kind=7) (n9 : ¬ t.kind=9) : t.kind=8:=by
 unfold Qn at h
 rw [if_neg n0,if_neg n1,if_neg n6,if_neg n11,if_neg n2,if_neg n3,if_neg n4,if_neg n5,if_neg n7] at h
 by_cases q8 : t.kind=8
 ·exact q8
 ·rw [if_neg q8,if_neg n9] at h
  simp [h10] at h
theorem fits_ok (m : Md) (hm : m.ok) (hf : m.fm) : ∀ (n : Nat) (v : Val),v.size<=n->v.size<=1048576->∀ t : Ty,t.wid<=1048576->t.QE Qn=true->∀ ws h,Qb cfg ws 49 [m.enc,t.enc,v.enc] h=some (.bool (Xw m n t v),h)
 | 0,v,hn,_,_,_,_,_,_=>by have:=v.size_pos; omega
 | n + 1,v,hn,hv,t,ht,hr,ws,h=>by
  rw [Xw]
  cases hb : beh m 21 t with
  | none=>exact fits_none m hm t ht v hb ws h
  | some b=>
   dsimp only
   obtain ⟨hbw,hbr,hb10⟩:=beh_good m hm hf ht hr hb
   have hbs:=QO hbr
   by_cases hvk : v.kind=b.kind
   ·rw [decide_eq_true hvk,Bool.true_and]
    have hsubI : b.comp=true->∀ i ∈ b.items,∀ x ∈ v.items,∀ ws h,Qb cfg ws 49 [m.enc,i.of.enc,x.enc] h=some (.bool (Xw m n i.of x),h):=fun hc i hi x hx ws h=>
     fits_ok m hm hf n x (by have:=Val.Qw hx; omega) (by have:=Val.Qw hx; omega) i.of (Nat.le_trans (Ty.wid_itof hi) hbw) (QA hbr (by unfold Ty.inner; rw [if_pos hc]; exact List.mem_append_right _ (List.mem_map_of_mem hi))) ws h
    unfold fitS
    by_cases q0 : b.kind=0
    ·rw [if_pos q0]; exact fits_0 m hm t ht v hv b hb hbw hvk q0 ws h
    rw [if_neg q0]
    by_cases q1 : b.kind=1
    ·rw [if_pos q1]; exact fits_1 m hm t ht v hv b hb hbw hvk q1 ws h
    rw [if_neg q1]
    by_cases q2 : b.kind=2
    ·rw [if_pos q2]; exact fits_2 m hm t ht v hv b hb hbw hvk q2 ws h
    rw [if_neg q2]
    by_cases q3 : b.kind=3
    ·rw [if_pos q3]; exact fits_3 m hm t ht v hv b hb hbw hvk q3 ws h
    rw [if_neg q3]
    by_cases q4 : b.kind=4
    ·rw [if_pos q4]; exact fits_4 m hm t ht v hv b hb hbw hvk q4 ws h
    rw [if_neg q4]
    by_cases q5 : b.kind=5
    ·rw [if_pos q5]; exact fits_5 m hm t ht v hv b hb hbw hvk q5 ws h
    rw [if_neg q5]
    by_cases q6 : b.kind=6
    ·rw [if_pos q6]; exact fits_6 m hm t ht v hv b hb hbw hvk q6 ws h
    rw [if_neg q6]
    by_cases q11 : b.kind=11
    ·rw [if_pos q11]; exact fits_11 m hm t ht v hv b hb hbw hvk q11 ws h
    rw [if_neg q11]
    by_cases q7 : b.kind=7
    ·rw [if_pos q7]
     have hk1:=right_kids hbs q7
     obtain ⟨kd,hkd⟩:=List.length_eq_one_iff.1 hk1
     have hkm : b.kids.headD Ty.zero ∈ b.kids:=by rw [hkd]; simp
     exact fits_7 m hm t ht v hv b hb hbw hvk (Xw m n) hk1 (fun x hx ws h=>fits_ok m hm hf n x (by have:=Val.Qw hx; omega) (by have:=Val.Qw hx; omega) _ (Nat.le_trans (Ty.wid_kid hkm) hbw) (QA hbr (List.mem_append_left _ hkm)) ws h) q7 ws h
    rw [if_neg q7]
    by_cases q9 : b.kind=9
    ·rw [if_pos q9]; exact fits_9 m hm t ht v hv b hb hbw hvk (Xw m n) (hsubI (by unfold Ty.comp; simp [q9])) q9 ws h
    rw [if_neg q9]
    have q8:=right_kind hbs hb10 q0 q1 q2 q3 q4 q5 q6 q11 q7 q9
    exact fits_8 m hm t ht v hv b hb hbw hvk (Xw m n) (hsubI (by unfold Ty.comp; simp [q8])) q8 ws h
   ·rw [decide_eq_false hvk,Bool.false_and]
    exact fits_ne m hm t ht v b hb hvk ws h
end Go.Proofs.YtflbneepngjglaaGreatDoor
namespace Go.Proofs.YtflbneepngjglaaGreatDoor
open Go Go.Avm
def Ty.rput (ps : List ByteArray) (args : List Ty) (t : Ty) : Ty:=match t.par ps with
 | some i=>args[i]?.getD Ty.zero
 | none=>.mk t.kind t.name t.lo t.hi t.free t.ext (t.items.attach.map fun x=>if t.comp then x.1.QS (x.1.of.rput ps args) else x.1) (t.kids.attach.map fun x=>x.1.rput ps args)
termination_by t.size
decreasing_by
 ·exact Ty.mem_of x.2
 ·exact Ty.Xc x.2
theorem Ty.rput_eq (ps : List ByteArray) (args : List Ty) (t : Ty) : t.rput ps args=match t.par ps with
 | some i=>args[i]?.getD Ty.zero
 | none=>.mk t.kind t.name t.lo t.hi t.free t.ext (t.items.map fun x=>if t.comp then x.QS (x.of.rput ps args) else x) (t.kids.map fun x=>x.rput ps args):=by
 rw [Ty.rput,att_map t.items (fun x=>if t.comp then x.QS (x.of.rput ps args) else x),att_map t.kids (fun x=>x.rput ps args)]
theorem rput_loop0 (t : Ty) (ht : t.wid<=1048576) (ps : List ByteArray) (args : List Ty) (h : Avm.H) (hp : ps.length<=1048576) (hpa : ps.length=args.length) :
    Qa (evC (Qb cfg) Qa cfg.pol h.length h.length c142L0) [1,2,3,6,7] [(1,.isl (ps.map .str)),(2,.isl (args.map Ty.enc)),(3,.ptr h.length 0 8 0 0),(6,.ptr (h.length + 1) 0 8 0 0),(7,.int .i64 (0 : Nat))] (h++[.arr 0 8 [t.enc],.arr 0 8 [.agg [.int .i64 0,.str ⟨#[]⟩,.int .i64 0,.int .i64 0,.bool false,.bool false,.esl,.esl]]])=some (match (ps).findIdx? (fun p=>eqS p t.name) with | some j=>(.ret,[(6,.ptr (h.length + 1) 0 8 0 0)],h++[.arr 0 8 [t.enc],.arr 0 8 [(args[j]?.getD Ty.zero).enc]]) | none=>(.exit 0,[(1,.isl (ps.map .str)),(2,.isl (args.map Ty.enc)),(3,.ptr h.length 0 8 0 0),(6,.ptr (h.length + 1) 0 8 0 0),(7,.int .i64 ps.length)],h++[.arr 0 8 [t.enc],.arr 0 8 [.agg [.int .i64 0,.str ⟨#[]⟩,.int .i64 0,.int .i64 0,.bool false,.bool false,.esl,.esl]]])):=by
 have hlp:=Qz (f:=evC (Qb cfg) Qa cfg.pol h.length h.length c142L0) (keep:=[1,2,3,6,7]) ps (fun i=>[(1,.isl (ps.map .str)),(2,.isl (args.map Ty.enc)),(3,.ptr h.length 0 8 0 0),(6,.ptr (h.length + 1) 0 8 0 0),(7,.int .i64 i)]) (fun _=>h++[.arr 0 8 [t.enc],.arr 0 8 [.agg [.int .i64 0,.str ⟨#[]⟩,.int .i64 0,.int .i64 0,.bool false,.bool false,.esl,.esl]]])
     (fun i r=>match (r).findIdx? (fun p=>eqS p t.name) with | some j=>(.ret,[(6,.ptr (h.length + 1) 0 8 0 0)],h++[.arr 0 8 [t.enc],.arr 0 8 [(args[(i + j)]?.getD Ty.zero).enc]]) | none=>(.exit 0,[(1,.isl (ps.map .str)),(2,.isl (args.map Ty.enc)),(3,.ptr h.length 0 8 0 0),(6,.ptr (h.length + 1) 0 8 0 0),(7,.int .i64 ps.length)],h++[.arr 0 8 [t.enc],.arr 0 8 [.agg [.int .i64 0,.str ⟨#[]⟩,.int .i64 0,.int .i64 0,.bool false,.bool false,.esl,.esl]]])) ?_ ?_
 ·simp only [Nat.zero_add] at hlp
  exact hlp
 ·intro i x r hd hi hx K hK
  have hw:=Qd (n:=i + 1) (by omega)
  simp at hw
  have hia : i < args.length:=by omega
  rw [List.findIdx?_cons]
  by_cases hv : x.toList=t.name.toList
  ·have hv' : eqS x t.name=true:=by unfold eqS; exact decide_eq_true hv
   simp only [hv',if_true]
   simp [c142L0,hi,hx,hv,hia]
  ·have hv' : eqS x t.name=false:=by unfold eqS; exact decide_eq_false hv
   simp only [hv',Bool.false_eq_true,if_false]
   cases hq : r.findIdx? (fun p=>eqS p t.name) with
   | none=>
    rw [hq] at hK
    simp at hK
    simp [c142L0,hi,hx,hv,hw,hK]
   | some j=>
    rw [hq] at hK
    dsimp only at hK
    rw [show i + 1 + j=i + (j + 1) by omega] at hK
    simp at hK
    simp [c142L0,hi,hx,hv,hw,hK]
 ·intro K
  simp [c142L0]
theorem rput_loop1 (t : Ty) (ht : t.wid<=1048576) (ps : List ByteArray) (args : List Ty) (h : Avm.H) (P : Ty->Ty) (Q : It->It) (hQ : ∀ x,Q x=if t.comp then x.QS (P x.of) else x) (hP : t.comp=true->∀ x ∈ t.items,∀ ws h,Qb cfg ws 142 [x.of.enc,.isl (ps.map .str),.isl (args.map Ty.enc)] h=some ((P x.of).enc,h)) :
    Qa (evC (Qb cfg) Qa cfg.pol h.length h.length c142L1) [1,2,3,6,8,9] [(1,.isl (ps.map .str)),(2,.isl (args.map Ty.enc)),(3,.ptr h.length 0 8 0 0),(6,.ptr (h.length + 1) 0 8 0 0),(8,.ptr (h.length + 2) 0 8 0 0),(9,.int .i64 (0 : Nat))] (h++[.arr 0 8 [t.enc],.arr 0 8 [.agg [.int .i64 0,.str ⟨#[]⟩,.int .i64 0,.int .i64 0,.bool false,.bool false,.esl,.esl]],.arr 0 8 [.agg [.int .i64 t.kind,.str t.name,.int .i64 t.lo,.int .i64 t.hi,.bool t.free,.bool t.ext,.osl (h.length + 3) 1 12 0 t.items.length,.isl (t.kids.map Ty.enc)]],.arr 1 12 ((upto Q t.items 0).map It.enc)])=some (.exit 2,[(1,.isl (ps.map .str)),(2,.isl (args.map Ty.enc)),(3,.ptr h.length 0 8 0 0),(6,.ptr (h.length + 1) 0 8 0 0),(8,.ptr (h.length + 2) 0 8 0 0),(9,.int .i64 t.items.length)],h++[.arr 0 8 [t.enc],.arr 0 8 [.agg [.int .i64 0,.str ⟨#[]⟩,.int .i64 0,.int .i64 0,.bool false,.bool false,.esl,.esl]],.arr 0 8 [.agg [.int .i64 t.kind,.str t.name,.int .i64 t.lo,.int .i64 t.hi,.bool t.free,.bool t.ext,.osl (h.length + 3) 1 12 0 t.items.length,.isl (t.kids.map Ty.enc)]],.arr 1 12 ((upto Q t.items t.items.length).map It.enc)]):=by
 have hwk:=t.Qe
 refine Qz (f:=evC (Qb cfg) Qa cfg.pol h.length h.length c142L1) (keep:=[1,2,3,6,8,9]) t.items (fun i=>[(1,.isl (ps.map .str)),(2,.isl (args.map Ty.enc)),(3,.ptr h.length 0 8 0 0),(6,.ptr (h.length + 1) 0 8 0 0),(8,.ptr (h.length + 2) 0 8 0 0),(9,.int .i64 i)]) (fun i=>h++[.arr 0 8 [t.enc],.arr 0 8 [.agg [.int .i64 0,.str ⟨#[]⟩,.int .i64 0,.int .i64 0,.bool false,.bool false,.esl,.esl]],.arr 0 8 [.agg [.int .i64 t.kind,.str t.name,.int .i64 t.lo,.int .i64 t.hi,.bool t.free,.bool t.ext,.osl (h.length + 3) 1 12 0 t.items.length,.isl (t.kids.map Ty.enc)]],.arr 1 12 ((upto Q t.items i).map It.enc)]) (fun _ _=>(.exit 2,[(1,.isl (ps.map .str)),(2,.isl (args.map Ty.enc)),(3,.ptr h.length 0 8 0 0),(6,.ptr (h.length + 1) 0 8 0 0),(8,.ptr (h.length + 2) 0 8 0 0),(9,.int .i64 t.items.length)],h++[.arr 0 8 [t.enc],.arr 0 8 [.agg [.int .i64 0,.str ⟨#[]⟩,.int .i64 0,.int .i64 0,.bool false,.bool false,.esl,.esl]],.arr 0 8 [.agg [.int .i64 t.kind,.str t.name,.int .i64 t.lo,.int .i64 t.hi,.bool t.free,.bool t.ext,.osl (h.length + 3) 1 12 0 t.items.length,.isl (t.kids.map Ty.enc)]],.arr 1 12 ((upto Q t.items t.items.length).map It.enc)])) ?_ ?_
 ·intro i x r hd hi hx K hK
  have hw:=Qd (n:=i + 1) (by omega)
  simp at hw
  have hm : x ∈ t.items:=by rw [← hx]; exact List.getElem_mem hi
  have hget:=upto_get Q It.enc t.items i hi
  have hset:=upto_set Q It.enc t.items i hi
  have hln:=upto_len Q t.items i
  have hln1:=upto_len Q t.items (i + 1)
  rw [hx] at hget hset
  rw [hQ x] at hset
  cases hc : t.comp
  ·have hsame : (upto Q t.items (i + 1)).map It.enc=(upto Q t.items i).map It.enc:=by
     rw [← hset,hc]
     simp only [Bool.false_eq_true,if_false]
     refine List.ext_getElem? fun k=>?_
     rw [List.getElem?_set]
     split
     ·rename_i e; subst e; rw [hget]; split <;> simp_all
     ·rfl
   rw [hsame] at hK
   generalize (upto Q t.items i).map It.enc=els at hget hK ⊢
   unfold Ty.comp at hc
   simp at hc
   simp at hK
   simp [c142L1,hi,hc.1,hc.2,hw,hK]
  ·have hcl:=fun h'=>hP hc x hm h.length h'
   rw [hc] at hset
   simp only [if_true] at hset
   generalize (upto Q t.items i).map It.enc=els at hget hset ⊢
   simp [It.QS] at hcl hget hset hK
   unfold Ty.comp at hc
   by_cases q8 : t.kind=8
   ·simp [q8] at hK
    simp [c142L1,hi,hx,q8,hcl,hget,hset,hw,hK]
   ·have q9 : t.kind=9:=by simpa [q8] using hc
    simp [q9] at hK
    simp [c142L1,hi,hx,q9,hcl,hget,hset,hw,hK]
 ·intro K
  simp [c142L1]
theorem rput_loop2 (t : Ty) (ht : t.wid<=1048576) (ps : List ByteArray) (args : List Ty) (h : Avm.H) (P : Ty->Ty) (Q : It->It) (hP : ∀ x ∈ t.kids,∀ ws h,Qb cfg ws 142 [x.enc,.isl (ps.map .str),.isl (args.map Ty.enc)] h=some ((P x).enc,h)) :
    Qa (evC (Qb cfg) Qa cfg.pol h.length h.length c142L2) [1,2,3,6,8,10] [(1,.isl (ps.map .str)),(2,.isl (args.map Ty.enc)),(3,.ptr h.length 0 8 0 0),(6,.ptr (h.length + 1) 0 8 0 0),(8,.ptr (h.length + 2) 0 8 0 0),(10,.int .i64 (0 : Nat))] (h++[.arr 0 8 [t.enc],.arr 0 8 [.agg [.int .i64 0,.str ⟨#[]⟩,.int .i64 0,.int .i64 0,.bool false,.bool false,.esl,.esl]],.arr 0 8 [.agg [.int .i64 t.kind,.str t.name,.int .i64 t.lo,.int .i64 t.hi,.bool t.free,.bool t.ext,.osl (h.length + 3) 1 12 0 t.items.length,.osl (h.length + 4) 1 8 0 t.kids.length]],.arr 1 12 ((t.items.map Q).map It.enc),.arr 1 8 ((upto P t.kids 0).map Ty.enc)])=some (.exit 4,[(1,.isl (ps.map .str)),(2,.isl (args.map Ty.enc)),(3,.ptr h.length 0 8 0 0),(6,.ptr (h.length + 1) 0 8 0 0),(8,.ptr (h.length + 2) 0 8 0 0),(10,.int .i64 t.kids.length)],h++[.arr 0 8 [t.enc],.arr 0 8 [.agg [.int .i64 0,.str ⟨#[]⟩,.int .i64 0,.int .i64 0,.bool false,.bool false,.esl,.esl]],.arr 0 8 [.agg [.int .i64 t.kind,.str t.name,.int .i64 t.lo,.int .i64 t.hi,.bool t.free,.bool t.ext,.osl (h.length + 3) 1 12 0 t.items.length,.osl (h.length + 4) 1 8 0 t.kids.length]],.arr 1 12 ((t.items.map Q).map It.enc),.arr 1 8 ((upto P t.kids t.kids.length).map Ty.enc)]):=by
 have hwk:=t.wid_kids
 refine Qz (f:=evC (Qb cfg) Qa cfg.pol h.length h.length c142L2) (keep:=[1,2,3,6,8,10]) t.kids (fun i=>[(1,.isl (ps.map .str)),(2,.isl (args.map Ty.enc)),(3,.ptr h.length 0 8 0 0),(6,.ptr (h.length + 1) 0 8 0 0),(8,.ptr (h.length + 2) 0 8 0 0),(10,.int .i64 i)]) (fun i=>h++[.arr 0 8 [t.enc],.arr 0 8 [.agg [.int .i64 0,.str ⟨#[]⟩,.int .i64 0,.int .i64 0,.bool false,.bool false,.esl,.esl]],.arr 0 8 [.agg [.int .i64 t.kind,.str t.name,.int .i64 t.lo,.int .i64 t.hi,.bool t.free,.bool t.ext,.osl (h.length + 3) 1 12 0 t.items.length,.osl (h.length + 4) 1 8 0 t.kids.length]],.arr 1 12 ((t.items.map Q).map It.enc),.arr 1 8 ((upto P t.kids i).map Ty.enc)]) (fun _ _=>(.exit 4,[(1,.isl (ps.map .str)),(2,.isl (args.map Ty.enc)),(3,.ptr h.length 0 8 0 0),(6,.ptr (h.length + 1) 0 8 0 0),(8,.ptr (h.length + 2) 0 8 0 0),(10,.int .i64 t.kids.length)],h++[.arr 0 8 [t.enc],.arr 0 8 [.agg [.int .i64 0,.str ⟨#[]⟩,.int .i64 0,.int .i64 0,.bool false,.bool false,.esl,.esl]],.arr 0 8 [.agg [.int .i64 t.kind,.str t.name,.int .i64 t.lo,.int .i64 t.hi,.bool t.free,.bool t.ext,.osl (h.length + 3) 1 12 0 t.items.length,.osl (h.length + 4) 1 8 0 t.kids.length]],.arr 1 12 ((t.items.map Q).map It.enc),.arr 1 8 ((upto P t.kids t.kids.length).map Ty.enc)])) ?_ ?_
 ·intro i x r hd hi hx K hK
  have hw:=Qd (n:=i + 1) (by omega)
  simp at hw
  have hm : x ∈ t.kids:=by rw [← hx]; exact List.getElem_mem hi
  have hcl:=fun h'=>hP x hm h.length h'
  have hget:=upto_get P Ty.enc t.kids i hi
  have hset:=upto_set P Ty.enc t.kids i hi
  rw [hx] at hget hset
  generalize (upto P t.kids i).map Ty.enc=els at hget hset ⊢
  generalize (t.items.map Q).map It.enc=its at hK ⊢
  simp at hcl hget hset hK
  simp [c142L2,hi,hx,hcl,hget,hset,hw,hK]
 ·intro K
  simp [c142L2]
theorem rput_ok (ps : List ByteArray) (args : List Ty) (hp : ps.length<=1048576) (hpa : ps.length=args.length) : ∀ (n : Nat) (t : Ty),t.size<=n->t.wid<=1048576->∀ ws h,Qb cfg ws 142 [t.enc,.isl (ps.map .str),.isl (args.map Ty.enc)] h=some ((t.rput ps args).enc,h)
 | 0,t,ht,_,_,_=>by have:=t.size_pos; omega
 | n + 1,t,ht,hw0,ws,h=>by
  have hwk:=t.wid_kids
  have hwi:=t.Qe
  have hli : t.items.length<=4294967296:=by omega
  have hlk : t.kids.length<=4294967296:=by omega
  have l0:=rput_loop0 t hw0 ps args h hp hpa
  have l1:=rput_loop1 t hw0 ps args h (fun x=>x.rput ps args) (fun x=>if t.comp then x.QS (x.of.rput ps args) else x) (fun _=>rfl) (fun _ x hx ws h=>rput_ok ps args hp hpa n x.of (by have:=Ty.mem_of hx; omega) (Nat.le_trans (Ty.wid_itof hx) hw0) ws h)
  have l2:=rput_loop2 t hw0 ps args h (fun x=>x.rput ps args) (fun x=>if t.comp then x.QS (x.of.rput ps args) else x) (fun x hx ws h=>rput_ok ps args hp hpa n x (by have:=Ty.Xc hx; omega) (Nat.le_trans (Ty.wid_kid hx) hw0) ws h)
  rw [upto_zero,upto_all] at l1 l2
  have hfi : ps.findIdx? (fun p=>eqS p t.name)=ps.findIdx? (eqS t.name):=by congr 1; funext p; exact eqS_symm _ _
  rw [hfi] at l0
  refine Qc rfl rfl ?_
  rw [Ty.rput_eq]
  generalize (fun x : It=>if t.comp then x.QS (x.of.rput ps args) else x)=Q at l1 l2 ⊢
  simp [-List.map_map] at l1 l2
  by_cases q10 : t.kind=10
  ·by_cases qk : t.kids=[]
   ·cases qi : ps.findIdx? (eqS t.name) with
    | some i=>
     have hpar : t.par ps=some i:=by simp [Ty.par,q10,qk,qi]
     rw [hpar]
     rw [qi] at l0
     simp [q10,qk] at l0
     simp [F142,c142,q10,qk,l0]
    | none=>
     have hpar : t.par ps=none:=by simp [Ty.par,q10,qk,qi]
     rw [hpar]
     rw [qi] at l0
     simp [q10,qk,-List.map_map] at l0 l1 l2
     simp [F142,c142,q10,qk,l0,l1,l2,hli,hlk,Xr,appended,elsOf,look,appI,-List.map_map,take_map2]
   ·have hpar : t.par ps=none:=by simp [Ty.par,qk]
    rw [hpar]
    simp [q10,-List.map_map] at l1 l2
    simp [F142,c142,q10,qk,l1,l2,hli,hlk,Xr,appended,elsOf,look,appI,-List.map_map,take_map2]
  ·have hpar : t.par ps=none:=by simp [Ty.par,q10]
   rw [hpar]
   simp [F142,c142,q10,l1,l2,hli,hlk,Xr,appended,elsOf,look,appI,-List.map_map,take_map2]
end Go.Proofs.YtflbneepngjglaaGreatDoor
