/- Defaults: the program. -/
import Derived.Test.YtflbneepngjglaaGreatDoorR39
import Derived.Test.YtflbneepngjglaaGreatDoorR38
set_option linter.all false
namespace Go.Proofs.YtflbneepngjglaaGreatDoor
open Go Go.Avm
theorem fits_4 (m : Md) (hm : m.ok) (t : Ty) (ht : t.wid≤67108864) (v : Val) (hv : v.size≤67108864) (b : Ty) (hb : beh m 21 t=some b) (hb1 : b.wid≤67108864) (hvk : v.kind=b.kind) (hk : b.kind=4) (ws : Nat) (h : Avm.H) : callL cfg ws 49 [m.enc,t.enc,v.enc] h=some (.bool (hasP false true false v && allowP b (v.bytes.size : Int) 4000),h):=by
 have hwi:=b.wid_items
 have hws : IntKind.wrap .i64 ((b.items.length : Int) - 1)=(b.items.length : Int) - 1:=wrap_id (by omega) (by omega)
 have hvb:=v.bytes_size
 have hbb : ((v.bytes.size : Int)≤4000) ↔ v.bytes.size≤4000:=by omega
 have hvi:=v.len_items
 have hvk0:=hvk
 rw [hk] at hvk
 have e0:=fun ws h=>hasB_ok v ws h
 have e1:=fun ws h=>allowed_ok b (v.bytes.size : Int) 4000 ws h
 simp [hk,hvk] at e0 e1
 refine fits_head_4 m hm t ht v b hb hvk0 hk ws h _ [] ?_
 cases p9 : hasP false true false v
 ·simp only [p9] at e0 e1
  simp [c49T79,hbb,Md.enc,hk,hvk,hws,e0,e1,p9]
 ·simp only [p9] at e0 e1
  simp [c49T79,hbb,Md.enc,hk,hvk,hws,e0,e1,p9]
theorem fits_6 (m : Md) (hm : m.ok) (t : Ty) (ht : t.wid≤67108864) (v : Val) (hv : v.size≤67108864) (b : Ty) (hb : beh m 21 t=some b) (hb1 : b.wid≤67108864) (hvk : v.kind=b.kind) (hk : b.kind=6) (ws : Nat) (h : Avm.H) : callL cfg ws 49 [m.enc,t.enc,v.enc] h=some (.bool (arcP v),h):=by
 have hwi:=b.wid_items
 have hws : IntKind.wrap .i64 ((b.items.length : Int) - 1)=(b.items.length : Int) - 1:=wrap_id (by omega) (by omega)
 have hvb:=v.bytes_size
 have hbb : ((v.bytes.size : Int)≤4000) ↔ v.bytes.size≤4000:=by omega
 have hvi:=v.len_items
 have hvk0:=hvk
 rw [hk] at hvk
 have e0:=fun ws h=>arcs_ok v hv ws h
 simp [hk,hvk] at e0
 refine fits_head_6 m hm t ht v b hb hvk0 hk ws h _ [] ?_
 simp [c49T107,hbb,Md.enc,hk,hvk,hws,e0]
theorem fits_11 (m : Md) (hm : m.ok) (t : Ty) (ht : t.wid≤67108864) (v : Val) (hv : v.size≤67108864) (b : Ty) (hb : beh m 21 t=some b) (hb1 : b.wid≤67108864) (hvk : v.kind=b.kind) (hk : b.kind=11) (ws : Nat) (h : Avm.H) : callL cfg ws 49 [m.enc,t.enc,v.enc] h=some (.bool (hasP false true false v && decide (v.bytes.size≤4000)),h):=by
 have hwi:=b.wid_items
 have hws : IntKind.wrap .i64 ((b.items.length : Int) - 1)=(b.items.length : Int) - 1:=wrap_id (by omega) (by omega)
 have hvb:=v.bytes_size
 have hbb : ((v.bytes.size : Int)≤4000) ↔ v.bytes.size≤4000:=by omega
 have hvi:=v.len_items
 have hvk0:=hvk
 rw [hk] at hvk
 have e0:=fun ws h=>hasB_ok v ws h
 simp [hk,hvk] at e0
 refine fits_head_11 m hm t ht v b hb hvk0 hk ws h _ [] ?_
 cases p9 : hasP false true false v
 ·simp only [p9] at e0
  simp [c49T111,hbb,Md.enc,hk,hvk,hws,e0,p9]
 ·simp only [p9] at e0
  simp [c49T111,hbb,Md.enc,hk,hvk,hws,e0,p9]
end Go.Proofs.YtflbneepngjglaaGreatDoor
namespace Go.Proofs.YtflbneepngjglaaGreatDoor
open Go Go.Avm
theorem fits_5 (m : Md) (hm : m.ok) (t : Ty) (ht : t.wid≤67108864) (v : Val) (hv : v.size≤67108864) (b : Ty) (hb : beh m 21 t=some b) (hb1 : b.wid≤67108864) (hvk : v.kind=b.kind) (hk : b.kind=5) (ws : Nat) (h : Avm.H) : callL cfg ws 49 [m.enc,t.enc,v.enc] h=some (.bool (hasP false true false v && (v.bytes.data.toList.all d01 && allowP b (v.bytes.size : Int) 32000)),h):=by
 have hwi:=b.wid_items
 have hws : IntKind.wrap .i64 ((b.items.length : Int) - 1)=(b.items.length : Int) - 1:=wrap_id (by omega) (by omega)
 have hvb:=v.bytes_size
 have hbb : ((v.bytes.size : Int)≤4000) ↔ v.bytes.size≤4000:=by omega
 have hvi:=v.len_items
 have hvk0:=hvk
 rw [hk] at hvk
 have e0:=fun ws h=>hasB_ok v ws h
 have e1:=fun ws h=>allowed_ok b (v.bytes.size : Int) 32000 ws h
 obtain ⟨r,e2,hr⟩:=trim01_ok v.bytes (by omega) h.length (h++[.arr 0 2 [m.enc],.arr 0 8 [b.enc],.arr 0 4 [v.enc]])
 have hz : (⟨#[]⟩ : ByteArray).toList=[]:=by rw [ByteArray.toList_eq]
 rw [← ByteArray.toList_eq] at hr
 simp [hk,hvk,Md.enc] at e0 e1 e2
 refine fits_head_5 m hm t ht v b hb hvk0 hk ws h _ [] ?_
 cases p0 : hasP false true false v
 ·rw [p0] at e0
  simp [c49T90,Md.enc,hk,hvk,e0]
 ·rw [p0] at e0
  cases p1 : v.bytes.data.toList.all d01
  ·rw [p1] at hr
   have hr' : ¬ r.toList=[]:=fun e=>by have:=hr.1 e; cases this
   simp [c49T90,Md.enc,hk,hvk,e0,e2,hz,hr']
  ·rw [p1] at hr
   have hr' : r.toList=[]:=hr.2 rfl
   simp [c49T90,Md.enc,hk,hvk,e0,e2,hz,hr',e1]
theorem fits_7 (m : Md) (hm : m.ok) (t : Ty) (ht : t.wid≤67108864) (v : Val) (hv : v.size≤67108864) (b : Ty) (hb : beh m 21 t=some b) (hb1 : b.wid≤67108864) (hvk : v.kind=b.kind) (sub : Ty→Val→Bool) (hk1 : b.kids.length=1) (hsub : ∀ x ∈ v.items,∀ ws h,callL cfg ws 49 [m.enc,(b.kids.headD Ty.zero).enc,x.enc] h=some (.bool (sub (b.kids.headD Ty.zero) x),h)) (hk : b.kind=7) (ws : Nat) (h : Avm.H) : callL cfg ws 49 [m.enc,t.enc,v.enc] h=some (.bool (hasP false false true v && (allowP b (v.items.length : Int) 200 && v.items.all (sub (b.kids.headD Ty.zero)))),h):=by
 have hwi:=b.wid_items
 have hws : IntKind.wrap .i64 ((b.items.length : Int) - 1)=(b.items.length : Int) - 1:=wrap_id (by omega) (by omega)
 have hvb:=v.bytes_size
 have hbb : ((v.bytes.size : Int)≤4000) ↔ v.bytes.size≤4000:=by omega
 have hvi:=v.len_items
 have hvk0:=hvk
 rw [hk] at hvk
 have e0:=fun ws h=>hasL_ok v ws h
 have e1:=fun ws h=>allowed_ok b (v.items.length : Int) 200 ws h
 have e2:=fitsK_ok m t v hv b hb1 sub hsub hk1 h.length h
 obtain ⟨A,hA⟩ : ∃ A,v.items.all (sub (b.kids.headD Ty.zero))=A:=⟨_,rfl⟩
 rw [hA] at e2 ⊢
 simp [hk,hvk,Md.enc] at e0 e1
 simp only [Md.enc,Ty.enc_eq,Val.enc_eq,hk,hvk] at e2
 try simp at e2
 refine fits_head_7 m hm t ht v b hb hvk0 hk ws h _ [] ?_
 cases p0 : hasP false false true v
 ·rw [p0] at e0
  simp [c49T121,Md.enc,hk,hvk,e0]
 ·rw [p0] at e0
  cases p1 : allowP b (v.items.length : Int) 200
  ·rw [p1] at e1
   simp [c49T121,Md.enc,hk,hvk,e0,e1]
  ·rw [p1] at e1
   simp [c49T121,Md.enc,hk,hvk,e0,e1,e2]
end Go.Proofs.YtflbneepngjglaaGreatDoor
namespace Go.Proofs.YtflbneepngjglaaGreatDoor
open Go Go.Avm
theorem fits_9 (m : Md) (hm : m.ok) (t : Ty) (ht : t.wid≤67108864) (v : Val) (hv : v.size≤67108864) (b : Ty) (hb : beh m 21 t=some b) (hb1 : b.wid≤67108864) (hvk : v.kind=b.kind) (sub : Ty→Val→Bool) (hsub : ∀ i ∈ b.items,∀ x ∈ v.items,∀ ws h,callL cfg ws 49 [m.enc,i.of.enc,x.enc] h=some (.bool (sub i.of x),h)) (hk : b.kind=9) (ws : Nat) (h : Avm.H) : callL cfg ws 49 [m.enc,t.enc,v.enc] h=some (.bool (hasP true false true v && (inP v.int 0 ((b.items.length : Int) - 1) && (decide (v.items.length=1) && sub ((b.items[v.int.toNat]?.map It.of).getD Ty.zero) (v.items.headD (.mk 0 0 ⟨#[]⟩ []))))),h):=by
 have hwi:=b.wid_items
 have hws : IntKind.wrap .i64 ((b.items.length : Int) - 1)=(b.items.length : Int) - 1:=wrap_id (by omega) (by omega)
 have hvb:=v.bytes_size
 have hbb : ((v.bytes.size : Int)≤4000) ↔ v.bytes.size≤4000:=by omega
 have hvi:=v.len_items
 have hvk0:=hvk
 rw [hk] at hvk
 have e0:=fun ws h=>hasIL_ok v ws h
 have e1:=fun ws h=>in_ok v.int 0 ((b.items.length : Int) - 1) ws h
 simp [hk,hvk,Md.enc] at e0 e1
 refine fits_head_9 m hm t ht v b hb hvk0 hk ws h _ [] ?_
 cases p0 : hasP true false true v
 ·rw [p0] at e0
  simp [c49T139,Md.enc,hk,hvk,hws,e0]
 ·rw [p0] at e0
  cases p1 : inP v.int 0 ((b.items.length : Int) - 1)
  ·rw [p1] at e1
   simp [c49T139,Md.enc,hk,hvk,hws,e0,e1]
  ·rw [p1] at e1
   simp only [inP,Bool.and_eq_true,decide_eq_true_eq] at p1
   by_cases p2 : v.items.length=1
   ·obtain ⟨x,hx⟩:=List.length_eq_one_iff.1 p2
    obtain ⟨n,hn⟩:=Int.eq_ofNat_of_zero_le p1.1
    have hnb : n < b.items.length:=by omega
    obtain ⟨y,hy⟩ : ∃ y,b.items[n]=y:=⟨_,rfl⟩
    have e2:=fun ws h=>hsub y (by rw [← hy]; exact List.getElem_mem hnb) x (by rw [hx]; simp) ws h
    simp [Md.enc,hx,hn] at e0 e1 e2
    simp [c49T139,Md.enc,hk,hvk,hws,e0,e1,hx,hn,hnb,hy,e2]
   ·have p2' : ¬ ((v.items.length : Nat) : Int)=1:=by omega
    simp [c49T139,Md.enc,hk,hvk,hws,e0,e1,p2,p2']
theorem fits_8 (m : Md) (hm : m.ok) (t : Ty) (ht : t.wid≤67108864) (v : Val) (hv : v.size≤67108864) (b : Ty) (hb : beh m 21 t=some b) (hb1 : b.wid≤67108864) (hvk : v.kind=b.kind) (sub : Ty→Val→Bool) (hsub : ∀ i ∈ b.items,∀ x ∈ v.items,∀ ws h,callL cfg ws 49 [m.enc,i.of.enc,x.enc] h=some (.bool (sub i.of x),h)) (hk : b.kind=8) (ws : Nat) (h : Avm.H) : callL cfg ws 49 [m.enc,t.enc,v.enc] h=some (.bool (hasP false false true v && (decide (v.items.length=b.items.length) && (b.items.zip v.items).all (partB sub))),h):=by
 have hwi:=b.wid_items
 have hws : IntKind.wrap .i64 ((b.items.length : Int) - 1)=(b.items.length : Int) - 1:=wrap_id (by omega) (by omega)
 have hvb:=v.bytes_size
 have hbb : ((v.bytes.size : Int)≤4000) ↔ v.bytes.size≤4000:=by omega
 have hvi:=v.len_items
 have hvk0:=hvk
 rw [hk] at hvk
 have e0:=fun ws h=>hasL_ok v ws h
 simp [hk,hvk,Md.enc] at e0
 cases p0 : hasP false false true v
 ·rw [p0] at e0
  refine fits_head_8 m hm t ht v b hb hvk0 hk ws h _ [] ?_
  simp [c49S20,Md.enc,hk,hvk,e0]
 ·rw [p0] at e0
  by_cases p1 : v.items.length=b.items.length
  ·obtain ⟨g,e1⟩:=fits_loop m b v p1 (by omega) sub hsub h
   simp only [Md.enc,Ty.enc_eq,Val.enc_eq,hk,hvk] at e1
   cases p2 : (b.items.zip v.items).all (partB sub)
   ·rw [p2] at e1
    simp [p1] at e1
    refine fits_head_8 m hm t ht v b hb hvk0 hk ws h _ g ?_
    simp [c49S20,Md.enc,hk,hvk,e0,p1,e1]
   ·rw [p2] at e1
    simp [p1] at e1
    refine fits_head_8 m hm t ht v b hb hvk0 hk ws h _ g ?_
    simp [c49S20,Md.enc,hk,hvk,e0,p1,e1]
  ·have p1' : ¬ ((v.items.length : Nat) : Int)=(b.items.length : Nat):=by omega
   refine fits_head_8 m hm t ht v b hb hvk0 hk ws h _ [] ?_
   simp [c49S20,Md.enc,hk,hvk,e0,p1,p1']
theorem fits_none (m : Md) (hm : m.ok) (t : Ty) (ht : t.wid≤67108864) (v : Val) (hb : beh m 21 t=none) (ws : Nat) (h : Avm.H) : callL cfg ws 49 [m.enc,t.enc,v.enc] h=some (.bool false,h):=by
 have hbe:=fun ws h=>behind_ok m hm t ht ws h
 rw [hb] at hbe
 simp [Md.enc,Ty.zero] at hbe
 refine callL_fn rfl rfl ?_
 simp [F49,c49,Md.enc,Ty.zero,hbe]
theorem fits_ne (m : Md) (hm : m.ok) (t : Ty) (ht : t.wid≤67108864) (v : Val) (b : Ty) (hb : beh m 21 t=some b) (hvk : ¬ v.kind=b.kind) (ws : Nat) (h : Avm.H) : callL cfg ws 49 [m.enc,t.enc,v.enc] h=some (.bool false,h):=by
 have hbe:=fun ws h=>behind_ok m hm t ht ws h
 rw [hb] at hbe
 simp [Md.enc,Ty.zero] at hbe
 refine callL_fn rfl rfl ?_
 simp [F49,c49,Md.enc,Ty.zero,hbe,hvk]
end Go.Proofs.YtflbneepngjglaaGreatDoor
namespace Go.Proofs.YtflbneepngjglaaGreatDoor
open Go Go.Avm
theorem right_kids {t : Ty} (h : rightP t=true) (hk : t.kind=7) : t.kids.length=1:=by
 unfold rightP at h
 simp [hk] at h
 exact h.2.2
theorem right_kind {t : Ty} (h : rightP t=true) (h10 : t.kind ≠ 10) (n0 : ¬ t.kind=0) (n1 : ¬ t.kind=1) (n2 : ¬ t.kind=2) (n3 : ¬ t.kind=3) (n4 : ¬ t.kind=4) (n5 : ¬ t.kind=5) (n6 : ¬ t.kind=6) (n11 : ¬ t.kind=11) (n7 : ¬ t.kind=7) (n9 : ¬ t.kind=9) : t.kind=8:=by
 unfold rightP at h
 rw [if_neg n0,if_neg n1,if_neg n6,if_neg n11,if_neg n2,if_neg n3,if_neg n4,if_neg n5,if_neg n7] at h
 by_cases q8 : t.kind=8
 ·exact q8
 ·rw [if_neg q8,if_neg n9] at h
  simp [h10] at h
theorem fits_ok (m : Md) (hm : m.ok) (hf : m.fm) : ∀ (n : Nat) (v : Val),v.size≤n→v.size≤67108864→∀ t : Ty,t.wid≤67108864→t.allP rightP=true→∀ ws h,callL cfg ws 49 [m.enc,t.enc,v.enc] h=some (.bool (fitB m n t v),h)
 | 0,v,hn,_,_,_,_,_,_=>by have:=v.size_pos; omega
 | n + 1,v,hn,hv,t,ht,hr,ws,h=>by
  rw [fitB]
  cases hb : beh m 21 t with
  | none=>exact fits_none m hm t ht v hb ws h
  | some b=>
   dsimp only
   obtain ⟨hbw,hbr,hb10⟩:=beh_good m hm hf ht hr hb
   have hbs:=allP_self hbr
   by_cases hvk : v.kind=b.kind
   ·rw [decide_eq_true hvk,Bool.true_and]
    have hsubI : b.comp=true→∀ i ∈ b.items,∀ x ∈ v.items,∀ ws h,callL cfg ws 49 [m.enc,i.of.enc,x.enc] h=some (.bool (fitB m n i.of x),h):=fun hc i hi x hx ws h=>
     fits_ok m hm hf n x (by have:=Val.mem_items hx; omega) (by have:=Val.mem_items hx; omega) i.of (Nat.le_trans (Ty.wid_itof hi) hbw) (allP_inner hbr (by unfold Ty.inner; rw [if_pos hc]; exact List.mem_append_right _ (List.mem_map_of_mem hi))) ws h
    unfold fitS
    by_cases q0 : b.kind=0
    ·rw [if_pos q0]; exact fits_0 m hm t ht v hv b hb hbw hvk q0 ws h
    rw [if_neg q0]
    by_cases q1 : b.kind=1
    ·rw [if_pos q1]; exact fits_1 m hm t ht v hv b hb hbw hvk q1 ws h
    rw [if_neg q1]
    by_cases q2 : b.kind=2
    ·rw [if_pos q2]; exact fits_2 m hm t ht v hv b hb hbw hvk q2 ws h
    rw [if_neg q2]
    by_cases q3 : b.kind=3
    ·rw [if_pos q3]; exact fits_3 m hm t ht v hv b hb hbw hvk q3 ws h
    rw [if_neg q3]
    by_cases q4 : b.kind=4
    ·rw [if_pos q4]; exact fits_4 m hm t ht v hv b hb hbw hvk q4 ws h
    rw [if_neg q4]
    by_cases q5 : b.kind=5
    ·rw [if_pos q5]; exact fits_5 m hm t ht v hv b hb hbw hvk q5 ws h
    rw [if_neg q5]
    by_cases q6 : b.kind=6
    ·rw [if_pos q6]; exact fits_6 m hm t ht v hv b hb hbw hvk q6 ws h
    rw [if_neg q6]
    by_cases q11 : b.kind=11
    ·rw [if_pos q11]; exact fits_11 m hm t ht v hv b hb hbw hvk q11 ws h
    rw [if_neg q11]
    by_cases q7 : b.kind=7
    ·rw [if_pos q7]
     have hk1:=right_kids hbs q7
     obtain ⟨kd,hkd⟩:=List.length_eq_one_iff.1 hk1
     have hkm : b.kids.headD Ty.zero ∈ b.kids:=by rw [hkd]; simp
     exact fits_7 m hm t ht v hv b hb hbw hvk (fitB m n) hk1 (fun x hx ws h=>fits_ok m hm hf n x (by have:=Val.mem_items hx; omega) (by have:=Val.mem_items hx; omega) _ (Nat.le_trans (Ty.wid_kid hkm) hbw) (allP_inner hbr (List.mem_append_left _ hkm)) ws h) q7 ws h
    rw [if_neg q7]
    by_cases q9 : b.kind=9
    ·rw [if_pos q9]; exact fits_9 m hm t ht v hv b hb hbw hvk (fitB m n) (hsubI (by unfold Ty.comp; simp [q9])) q9 ws h
    rw [if_neg q9]
    have q8:=right_kind hbs hb10 q0 q1 q2 q3 q4 q5 q6 q11 q7 q9
    exact fits_8 m hm t ht v hv b hb hbw hvk (fitB m n) (hsubI (by unfold Ty.comp; simp [q8])) q8 ws h
   ·rw [decide_eq_false hvk,Bool.false_and]
    exact fits_ne m hm t ht v b hb hvk ws h
end Go.Proofs.YtflbneepngjglaaGreatDoor
namespace Go.Proofs.YtflbneepngjglaaGreatDoor
open Go Go.Avm
end Go.Proofs.YtflbneepngjglaaGreatDoor
namespace Go.Proofs.YtflbneepngjglaaGreatDoor
open Go Go.Avm
def Ty.strip (t : Ty) : Ty:=.mk t.kind t.name t.lo t.hi t.free t.ext (t.items.attach.map fun x=>if t.comp then x.1.withOf x.1.of.strip else x.1.withOf Ty.zero) (t.kids.attach.map fun x=>x.1.strip)
termination_by t.size
decreasing_by
 ·exact Ty.mem_of x.2
 ·exact Ty.mem_kids x.2
theorem Ty.strip_eq (t : Ty) : t.strip = .mk t.kind t.name t.lo t.hi t.free t.ext (t.items.map fun x=>if t.comp then x.withOf x.of.strip else x.withOf Ty.zero) (t.kids.map Ty.strip):=by
 rw [Ty.strip,att_map t.items (fun x=>if t.comp then x.withOf x.of.strip else x.withOf Ty.zero),att_map t.kids Ty.strip]
theorem strip_zero : Ty.zero.strip=Ty.zero:=by rw [Ty.strip_eq]; simp [Ty.zero]
theorem strip_kind (t : Ty) : t.strip.kind=t.kind:=by rw [Ty.strip_eq]; rfl
theorem strip_name (t : Ty) : t.strip.name=t.name:=by rw [Ty.strip_eq]; rfl
theorem strip_kids (t : Ty) : t.strip.kids=t.kids.map Ty.strip:=by rw [Ty.strip_eq]; rfl
theorem strip_par (ps : List ByteArray) (t : Ty) : t.strip.par ps=t.par ps:=by
 unfold Ty.par
 rw [strip_kind,strip_name,strip_kids]
 simp only [List.map_eq_nil_iff]
theorem get_strip (args : List Ty) (i : Nat) : (args[i]?.getD Ty.zero).strip=(args.map Ty.strip)[i]?.getD Ty.zero:=by
 rw [List.getElem?_map]
 cases args[i]? with
 | none=>exact strip_zero
 | some a=>rfl
theorem comp_mk (t : Ty) (x1 : ByteArray) (x2 x3 : Int) (x4 x5 : Bool) (x6 : List It) (x7 : List Ty) : (Ty.mk t.kind x1 x2 x3 x4 x5 x6 x7).comp=t.comp:=rfl
theorem withOf_of (x : It) (t : Ty) : (x.withOf t).of=t:=rfl
theorem withOf_twice (x : It) (t u : Ty) : (x.withOf t).withOf u=x.withOf u:=rfl
theorem withOf_self (x : It) : x.withOf x.of=x:=by cases x; rfl
theorem strip_put (ps : List ByteArray) (args : List Ty) : ∀ (n : Nat) (t : Ty),t.size≤n→(t.put ps args).strip=(t.strip.put ps (args.map Ty.strip)).strip
 | 0,t,h=>by have:=t.size_pos; omega
 | n + 1,t,h=>by
  rw [Ty.put_eq ps args t,Ty.put_eq ps _ t.strip,strip_par]
  cases hp : t.par ps with
  | some i=>
   dsimp only
   rw [← get_strip]
   have hidem : ∀ (k : Nat) (u : Ty),u.size≤k→u.strip.strip=u.strip:=by
    intro k
    induction k with
    | zero=>intro u hu; have:=u.size_pos; omega
    | succ k ih=>
     intro u hu
     conv=>lhs; rw [Ty.strip_eq]
     rw [Ty.strip_eq u]
     simp only [Ty.kind_mk,Ty.name_mk,Ty.lo_mk,Ty.hi_mk,Ty.free_mk,Ty.ext_mk,Ty.items_mk,Ty.kids_mk,comp_mk,List.map_map]
     congr 1
     ·refine List.map_congr_left fun x hx=>?_
      by_cases hc : u.comp=true
      ·simp [hc,withOf_twice,withOf_of,ih x.of (by have:=Ty.mem_of hx; omega)]
      ·simp [hc,withOf_twice]
     ·exact List.map_congr_left fun x hx=>ih x (by have:=Ty.mem_kids hx; omega)
   exact (hidem _ _ (Nat.le_refl _)).symm
  | none=>
   dsimp only
   rw [Ty.strip_eq,Ty.strip_eq (Ty.mk t.strip.kind _ _ _ _ _ _ _)]
   rw [Ty.strip_eq t]
   simp only [Ty.kind_mk,Ty.name_mk,Ty.lo_mk,Ty.hi_mk,Ty.free_mk,Ty.ext_mk,Ty.items_mk,Ty.kids_mk,comp_mk,List.map_map]
   congr 1
   ·refine List.map_congr_left fun x hx=>?_
    by_cases hc : t.comp=true
    ·simp [hc,withOf_twice,withOf_of,strip_put ps args n x.of (by have:=Ty.mem_of hx; omega)]
    ·simp [hc,withOf_twice]
   ·exact List.map_congr_left fun x hx=>strip_put ps args n x (by have:=Ty.mem_kids hx; omega)
theorem put_nil (args : List Ty) : ∀ (n : Nat) (t : Ty),t.size≤n→t.put [] args=t
 | 0,t,h=>by have:=t.size_pos; omega
 | n + 1,t,h=>by
  rw [Ty.put_eq]
  have hp : t.par []=none:=by unfold Ty.par; split <;> rfl
  rw [hp]
  dsimp only
  have h1 : (t.items.map fun x=>x.withOf (x.of.put [] args))=t.items:=by
   conv=>rhs; rw [← List.map_id t.items]
   refine List.map_congr_left fun x hx=>?_
   rw [put_nil args n x.of (by have:=Ty.mem_of hx; omega),withOf_self]; rfl
  have h2 : (t.kids.map fun x=>x.put [] args)=t.kids:=by
   conv=>rhs; rw [← List.map_id t.kids]
   exact List.map_congr_left fun x hx=>put_nil args n x (by have:=Ty.mem_kids hx; omega)
  rw [h1,h2]
  cases t; rfl
def Md.lim (m : Md) : Prop:=∀ d ∈ m.defs,d.of.nodes≤600
end Go.Proofs.YtflbneepngjglaaGreatDoor
namespace Go.Proofs.YtflbneepngjglaaGreatDoor
open Go Go.Avm
theorem bare_put {t : Ty} (ps : List ByteArray) (args : List Ty) (h : t.same Ty.zero=true) : t.put ps args=t:=by
 rw [same_zero] at h
 simp only [Bool.and_eq_true,decide_eq_true_eq] at h
 obtain ⟨h1,h2,h3,h4,h5,h6,h7,h8⟩:=h
 have hp : t.par ps=none:=by unfold Ty.par; rw [if_neg]; rw [h1]; rintro ⟨e,_⟩; cases e
 have h7' : t.items=[]:=by simpa [Ty.i0] using h7
 have h8' : t.kids=[]:=by simpa [Ty.k0] using h8
 rw [Ty.put_eq,hp,h7',h8']
 cases t
 simp only [Ty.items_mk,Ty.kids_mk] at h7' h8'
 subst h7' h8'
 rfl
theorem right_items {t : Ty} (h : rightP t=true) (hc : ¬ t.comp=true) : t.items=[] ∨ t.items.all bareI=true:=by
 have k : ∀ b : Bool,(b && t.i0)=true→t.items=[]:=fun b hb=>by
  simp only [Bool.and_eq_true,Ty.i0,List.isEmpty_iff] at hb
  exact hb.2
 have e0 : t.onone=true→t.items=[]:=fun h=>by
  simp only [Ty.onone,Ty.i0,Bool.and_eq_true,List.isEmpty_iff] at h; exact h.2.2.2.2.2.1
 unfold rightP at h
 unfold Ty.comp at hc
 by_cases q0 : t.kind=0
 ·rw [if_pos q0] at h; exact .inl (e0 h)
 rw [if_neg q0] at h
 by_cases q1 : t.kind=1
 ·rw [if_pos q1] at h; exact .inl (e0 h)
 rw [if_neg q1] at h
 by_cases q6 : t.kind=6
 ·rw [if_pos q6] at h; exact .inl (e0 h)
 rw [if_neg q6] at h
 by_cases q11 : t.kind=11
 ·rw [if_pos q11] at h; exact .inl (e0 h)
 rw [if_neg q11] at h
 by_cases q2 : t.kind=2
 ·rw [if_pos q2] at h; refine .inl ?_; simp [Ty.oLFE,Ty.i0] at h; simp_all
 rw [if_neg q2] at h
 by_cases q3 : t.kind=3
 ·rw [if_pos q3] at h; simp only [Bool.and_eq_true] at h; exact .inr h.2.2
 rw [if_neg q3] at h
 by_cases q4 : t.kind=4
 ·rw [if_pos q4] at h; refine .inl ?_; simp [Ty.oLFE,Ty.i0] at h; simp_all
 rw [if_neg q4] at h
 by_cases q5 : t.kind=5
 ·rw [if_pos q5] at h; refine .inl ?_; simp [Ty.oLFE,Ty.i0] at h; simp_all
 rw [if_neg q5] at h
 by_cases q7 : t.kind=7
 ·rw [if_pos q7] at h; refine .inl ?_; simp [Ty.oLFEK,Ty.i0] at h; simp_all
 rw [if_neg q7] at h
 by_cases q8 : t.kind=8
 ·exact absurd (by simp [q8]) hc
 by_cases q9 : t.kind=9
 ·exact absurd (by simp [q9]) hc
 rw [if_neg q8,if_neg q9] at h
 refine .inl ?_; simp [Ty.oNK,Ty.i0] at h; simp_all
end Go.Proofs.YtflbneepngjglaaGreatDoor
namespace Go.Proofs.YtflbneepngjglaaGreatDoor
open Go Go.Avm
theorem pure_ints : ∀ l : List Int,pureL (l.map (.int .i64))=true
 | []=>rfl
 | x :: l=>by simpa using pure_ints l
end Go.Proofs.YtflbneepngjglaaGreatDoor
namespace Go.Proofs.YtflbneepngjglaaGreatDoor
open Go Go.Avm
theorem beh_nodes (m : Md) (hl : m.lim) {t b : Ty} (ht : t.nodes≤600) (h : beh m 21 t=some b) : b.nodes≤600:=by
 have h1:=beh_inv m (fun t=>t.nodes≤600) (fun t u hp hs=>by
  unfold stepB at hs
  split at hs
  ·cases hs
  ·rename_i d hd
   have hdm:=List.mem_of_find?_eq_some hd
   split at hs
   ·cases hs
   ·split at hs
    ·cases hs; exact hl d hdm
    ·split at hs
     ·rename_i q; cases hs; exact q
     ·cases hs) 21 t b ht h
 exact h1.1
end Go.Proofs.YtflbneepngjglaaGreatDoor
namespace Go.Proofs.YtflbneepngjglaaGreatDoor
open Go Go.Avm
end Go.Proofs.YtflbneepngjglaaGreatDoor
namespace Go.Proofs.YtflbneepngjglaaGreatDoor
open Go Go.Avm
end Go.Proofs.YtflbneepngjglaaGreatDoor
namespace Go.Proofs.YtflbneepngjglaaGreatDoor
open Go Go.Avm
end Go.Proofs.YtflbneepngjglaaGreatDoor
namespace Go.Proofs.YtflbneepngjglaaGreatDoor
open Go Go.Avm
end Go.Proofs.YtflbneepngjglaaGreatDoor
namespace Go.Proofs.YtflbneepngjglaaGreatDoor
open Go Go.Avm
end Go.Proofs.YtflbneepngjglaaGreatDoor
namespace Go.Proofs.YtflbneepngjglaaGreatDoor
open Go Go.Avm
def nrefB (ps : List ByteArray) (x : Ty) : Bool:=!(decide (x.kind=10) && inS ps x.name)
def namedP (ps : List ByteArray) (t : Ty) : Bool:=!t.allP (nrefB ps)
end Go.Proofs.YtflbneepngjglaaGreatDoor
namespace Go.Proofs.YtflbneepngjglaaGreatDoor
open Go Go.Avm
theorem cnamedf_ok (m : Md) (ps : List ByteArray) (hp : ps.length≤67108864) (x : Ty) (ws : Nat) (h : Avm.H) : callL cfg ws 267 [x.enc,.iptr [.str m.name,.isl (m.defs.map Df.enc),.isl (ps.map .str)]] h=some (.bool (nrefB ps x),h):=by
 have e0:=fun ws h=>containsS_ok ps x.name hp ws h
 refine callL_fn rfl rfl ?_
 unfold nrefB
 by_cases q : x.kind=10
 ·simp [F267,c267,q,e0]
 ·simp [F267,c267,q]
theorem cnamed_ok (m : Md) (ps : List ByteArray) (hp : ps.length≤67108864) (t : Ty) (hw0 : t.wid≤67108864) (hb : t.nodes≤67108864) (ws : Nat) (h : Avm.H) : callL cfg ws 235 [.agg [.str m.name,.isl (m.defs.map Df.enc),.isl (ps.map .str)],t.enc] h=some (.bool (namedP ps t),h):=by
 have h2:=fun ws h cap hcap=>within_ok (cap':=[.iptr [.str m.name,.isl (m.defs.map Df.enc),.isl (ps.map .str)]]) (k:=0) (.inl rfl) (by simp) _ t (Nat.le_refl _) hw0 hb (fun x _ hx _ ws h'=>by simpa using cnamedf_ok m ps hp x ws h') ws h cap hcap
 refine callL_fn rfl rfl ?_
 unfold namedP
 simp at h2
 simp [F235,c235,h2]
def dfltB (m : Md) (ps : List ByteArray) (i : It) : Bool:=match i.dflt with
 | []=>true
 | [d]=>!i.opt && (!namedP ps i.of && (fitB m d.size i.of d && fairP d))
 | _=>false
theorem component_ok (m : Md) (hm : m.ok) (hf : m.fm) (ps : List ByteArray) (hp : ps.length≤67108864) (i : It) (hw : i.of.wid≤67108864) (hb : i.dflt ≠ []→i.of.nodes≤67108864) (hr : i.dflt ≠ []→i.of.allP rightP=true) (hd : ∀ d ∈ i.dflt,d.size≤67108864) (ws : Nat) (h : Avm.H) :
    callL cfg ws 165 [.agg [.str m.name,.isl (m.defs.map Df.enc),.isl (ps.map .str)],i.enc] h=some (.bool (dfltB m ps i),h):=by
 refine callL_fn rfl rfl ?_
 unfold dfltB
 match hi : i.dflt with
 | []=>simp [F165,c165,hi]
 | [d]=>
  have hne : i.dflt ≠ []:=by rw [hi]; simp
  have hds:=hd d (by rw [hi]; simp)
  have e1:=fun ws h=>cnamed_ok m ps hp i.of hw (hb hne) ws h
  have e2:=fun ws h=>fits_ok m hm hf _ d (Nat.le_refl _) hds i.of hw (hr hne) ws h
  have e3:=fun ws h=>fair_ok d hds ws h
  simp [Md.enc] at e1 e2 e3
  cases q1 : i.opt
  ·cases q2 : namedP ps i.of
   ·rw [q2] at e1
    cases q3 : fitB m d.size i.of d
    ·rw [q3] at e2
     simp [F165,c165,hi,q1,q3,e1,e2]
    ·rw [q3] at e2
     simp [F165,c165,hi,q1,q3,e1,e2,e3]
   ·rw [q2] at e1
    simp [F165,c165,hi,q1,e1]
  ·simp [F165,c165,hi,q1]
 | d :: e :: r=>
  have h1 : (1 : Int) < (r.length : Int) + 1 + 1:=by omega
  have h0 : ((r.length : Int) + 1 + 1 == 0)=false:=by simp; omega
  simp [F165,c165,hi,h1,h0]
end Go.Proofs.YtflbneepngjglaaGreatDoor
