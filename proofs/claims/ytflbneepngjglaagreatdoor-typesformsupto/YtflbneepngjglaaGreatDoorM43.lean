/- Whether a value fits a type: the document. -/
import Derived.Test.YtflbneepngjglaaGreatDoorM42
set_option linter.all false
namespace Go.Proofs.YtflbneepngjglaaGreatDoor
open Go Go.Avm
theorem rfits_0 (m : Md) (hm : m.ok) (hl : m.lim) (hf : m.fm) (t : Ty) (ht : t.wid<=1048576) (hn : t.nodes<=600) (v : Val) (b : Ty) (hb : beh m 21 t=some b) (hvk : v.kind=b.kind) (hv : v.size<=1048576) (hbs : Qn b=true) (hk : b.kind=0) (ws : Nat) (h : Avm.H) : Qb cfg ws 139 [m.enc,t.enc,v.enc] h=some (.bool (QH false false false v),h):=by
 have hvb:=v.QK
 have hvi:=v.Qs
 have hvk0:=hvk
 rw [hk] at hvk
 have e0:=fun ws h=>alone_ok v false false false ws h
 simp [hk,hvk] at e0
 refine rfits_head_0 m hm hl hf t ht hn v b hb hvk0 hk ws h _ [] ?_
 simp [c139T32,Md.enc,hk,hvk,e0]
theorem rfits_1 (m : Md) (hm : m.ok) (hl : m.lim) (hf : m.fm) (t : Ty) (ht : t.wid<=1048576) (hn : t.nodes<=600) (v : Val) (b : Ty) (hb : beh m 21 t=some b) (hvk : v.kind=b.kind) (hv : v.size<=1048576) (hbs : Qn b=true) (hk : b.kind=1) (ws : Nat) (h : Avm.H) : Qb cfg ws 139 [m.enc,t.enc,v.enc] h=some (.bool (QH true false false v && inP v.int 0 1),h):=by
 have hvb:=v.QK
 have hvi:=v.Qs
 have hvk0:=hvk
 rw [hk] at hvk
 have e0:=fun ws h=>alone_ok v true false false ws h
 simp [hk,hvk] at e0
 refine rfits_head_1 m hm hl hf t ht hn v b hb hvk0 hk ws h _ [] ?_
 cases p0 : QH true false false v
 ·rw [p0] at e0
  simp [c139T36,Md.enc,hk,hvk,e0]
 ·rw [p0] at e0
  by_cases p1 : v.int=0
  ·simp [p1] at e0
   simp [c139T36,Md.enc,hk,hvk,e0,p1,inP]
  ·by_cases p2 : v.int=1
   ·simp [p2] at e0
    simp [c139T36,Md.enc,hk,hvk,e0,p2,inP]
   ·have p3 : inP v.int 0 1=false:=by
      unfold inP
      simp
      omega
    simp [c139T36,Md.enc,hk,hvk,e0,p1,p2,p3]
theorem rfits_2 (m : Md) (hm : m.ok) (hl : m.lim) (hf : m.fm) (t : Ty) (ht : t.wid<=1048576) (hn : t.nodes<=600) (v : Val) (b : Ty) (hb : beh m 21 t=some b) (hvk : v.kind=b.kind) (hv : v.size<=1048576) (hbs : Qn b=true) (hk : b.kind=2) (ws : Nat) (h : Avm.H) : Qb cfg ws 139 [m.enc,t.enc,v.enc] h=some (.bool (QH true false false v && (inP v.int (-1000000000000000) 1000000000000000 && (b.free || (b.ext || inP v.int b.lo b.hi)))),h):=by
 have hvb:=v.QK
 have hvi:=v.Qs
 have hvk0:=hvk
 rw [hk] at hvk
 have hr : XM b (-1000000000000000) 1000000000000000=true:=by
  unfold Qn at hbs
  simp [hk] at hbs
  exact hbs.2
 have e0:=fun ws h=>alone_ok v true false false ws h
 simp [hk,hvk] at e0
 refine rfits_head_2 m hm hl hf t ht hn v b hb hvk0 hk ws h _ [] ?_
 unfold XM at hr
 cases p0 : QH true false false v
 ·rw [p0] at e0
  by_cases p1 : b.lo<=v.int
  ·simp [Xz,Md.enc,hk,hvk,e0,p1]
  ·simp [Xz,Md.enc,hk,hvk,e0,p1]
 ·rw [p0] at e0
  unfold inP
  cases p1 : b.free
  ·rw [p1] at hr
   simp at hr
   cases p2 : b.ext
   ·by_cases p3 : b.lo<=v.int
    ·by_cases p4 : v.int<=b.hi
     ·have p5 : -1000000000000000<=v.int:=by omega
      have p6 : v.int<=1000000000000000:=by omega
      simp [Xz,Md.enc,hk,hvk,e0,p1,p2,p3,p4,p5,p6]
     ·simp [Xz,Md.enc,hk,hvk,e0,p1,p2,p3,p4]
    ·simp [Xz,Md.enc,hk,hvk,e0,p1,p2,p3]
   ·by_cases p5 : -1000000000000000<=v.int
    ·by_cases p6 : v.int<=1000000000000000
     ·by_cases p3 : b.lo<=v.int
      ·by_cases p4 : v.int<=b.hi
       ·simp [Xz,Md.enc,hk,hvk,e0,p1,p2,p3,p4,p5,p6]
       ·simp [Xz,Md.enc,hk,hvk,e0,p1,p2,p3,p4,p5,p6]
      ·simp [Xz,Md.enc,hk,hvk,e0,p1,p2,p3,p5,p6]
     ·have p4 : ¬ v.int<=b.hi:=by omega
      by_cases p3 : b.lo<=v.int
      ·simp [Xz,Md.enc,hk,hvk,e0,p1,p2,p3,p4,p5,p6]
      ·simp [Xz,Md.enc,hk,hvk,e0,p1,p2,p3,p5,p6]
    ·have p3 : ¬ b.lo<=v.int:=by omega
     simp [Xz,Md.enc,hk,hvk,e0,p1,p2,p3,p5]
  ·rw [p1] at hr
   simp at hr
   by_cases p5 : -1000000000000000<=v.int
   ·by_cases p6 : v.int<=1000000000000000
    ·by_cases p3 : b.lo<=v.int
     ·by_cases p4 : v.int<=b.hi
      ·simp [Xz,Md.enc,hk,hvk,e0,p1,p3,p4,p5,p6]
      ·simp [Xz,Md.enc,hk,hvk,e0,p1,p3,p4,p5,p6]
     ·simp [Xz,Md.enc,hk,hvk,e0,p1,p3,p5,p6]
    ·have p4 : ¬ v.int<=b.hi:=by omega
     by_cases p3 : b.lo<=v.int
     ·simp [Xz,Md.enc,hk,hvk,e0,p1,p3,p4,p5,p6]
     ·simp [Xz,Md.enc,hk,hvk,e0,p1,p3,p5,p6]
   ·have p3 : ¬ b.lo<=v.int:=by omega
    simp [Xz,Md.enc,hk,hvk,e0,p1,p3,p5]
theorem rfits_3 (m : Md) (hm : m.ok) (hl : m.lim) (hf : m.fm) (t : Ty) (ht : t.wid<=1048576) (hn : t.nodes<=600) (v : Val) (b : Ty) (hb : beh m 21 t=some b) (hvk : v.kind=b.kind) (hv : v.size<=1048576) (hbs : Qn b=true) (hk : b.kind=3) (ws : Nat) (h : Avm.H) : Qb cfg ws 139 [m.enc,t.enc,v.enc] h=some (.bool (QH true false false v && inP v.int 0 ((b.items.length : Int) - 1)),h):=by
 have hvb:=v.QK
 have hvi:=v.Qs
 have hvk0:=hvk
 rw [hk] at hvk
 have e0:=fun ws h=>alone_ok v true false false ws h
 simp [hk,hvk] at e0
 refine rfits_head_3 m hm hl hf t ht hn v b hb hvk0 hk ws h _ [] ?_
 unfold inP
 cases p0 : QH true false false v
 ·rw [p0] at e0
  simp [c139T87,Md.enc,hk,hvk,e0]
 ·rw [p0] at e0
  by_cases p1 : 0<=v.int
  ·by_cases p2 : v.int < b.items.length
   ·have p3 : v.int<=(b.items.length : Int) - 1:=by omega
    simp [c139T87,Md.enc,hk,hvk,e0,p1,p2,p3]
   ·have p3 : ¬ v.int<=(b.items.length : Int) - 1:=by omega
    simp [c139T87,Md.enc,hk,hvk,e0,p1,p2,p3]
  ·simp [c139T87,Md.enc,hk,hvk,e0,p1]
theorem rfits_4 (m : Md) (hm : m.ok) (hl : m.lim) (hf : m.fm) (t : Ty) (ht : t.wid<=1048576) (hn : t.nodes<=600) (v : Val) (b : Ty) (hb : beh m 21 t=some b) (hvk : v.kind=b.kind) (hv : v.size<=1048576) (hbs : Qn b=true) (hk : b.kind=4) (ws : Nat) (h : Avm.H) : Qb cfg ws 139 [m.enc,t.enc,v.enc] h=some (.bool (QH false true false v && allowP b (v.bytes.size : Int) 4000),h):=by
 have hvb:=v.QK
 have hvi:=v.Qs
 have hvk0:=hvk
 rw [hk] at hvk
 have e0:=fun ws h=>alone_ok v false true false ws h
 have e1:=fun ws h=>long_ok b (v.bytes.size : Int) ws h
 simp [hk,hvk,longest] at e0 e1
 refine rfits_head_4 m hm hl hf t ht hn v b hb hvk0 hk ws h _ [] ?_
 cases p0 : QH false true false v
 ·rw [p0] at e0
  simp [c139T104,Md.enc,hk,hvk,e0]
 ·rw [p0] at e0
  simp [c139T104,Md.enc,hk,hvk,e0,e1]
theorem rfits_5 (m : Md) (hm : m.ok) (hl : m.lim) (hf : m.fm) (t : Ty) (ht : t.wid<=1048576) (hn : t.nodes<=600) (v : Val) (b : Ty) (hb : beh m 21 t=some b) (hvk : v.kind=b.kind) (hv : v.size<=1048576) (hbs : Qn b=true) (hk : b.kind=5) (ws : Nat) (h : Avm.H) : Qb cfg ws 139 [m.enc,t.enc,v.enc] h=some (.bool (QH false true false v && (v.bytes.data.toList.all d01 && allowP b (v.bytes.size : Int) 32000)),h):=by
 have hvb:=v.QK
 have hvi:=v.Qs
 have hvk0:=hvk
 rw [hk] at hvk
 have e0:=fun ws h=>alone_ok v false true false ws h
 have e1:=fun ws h=>long_ok b (v.bytes.size : Int) ws h
 have e2:=fun ws h=>row_ok v.bytes (by omega) ws h
 simp only [hk,longest] at e1
 obtain ⟨A,hA⟩ : ∃ A,v.bytes.data.toList.all d01=A:=⟨_,rfl⟩
 rw [hA]
 simp only [hA] at e2
 simp [hk,hvk] at e0 e1 e2
 refine rfits_head_5 m hm hl hf t ht hn v b hb hvk0 hk ws h _ [] ?_
 cases p0 : QH false true false v
 ·rw [p0] at e0
  simp [c139T115,Md.enc,hk,hvk,e0]
 ·rw [p0] at e0
  cases A
  ·simp [c139T115,Md.enc,hk,hvk,e0,e2]
  ·simp [c139T115,Md.enc,hk,hvk,e0,e2,e1]
theorem rfits_11 (m : Md) (hm : m.ok) (hl : m.lim) (hf : m.fm) (t : Ty) (ht : t.wid<=1048576) (hn : t.nodes<=600) (v : Val) (b : Ty) (hb : beh m 21 t=some b) (hvk : v.kind=b.kind) (hv : v.size<=1048576) (hbs : Qn b=true) (hk : b.kind=11) (ws : Nat) (h : Avm.H) : Qb cfg ws 139 [m.enc,t.enc,v.enc] h=some (.bool (QH false true false v && decide (v.bytes.size<=4000)),h):=by
 have hvb:=v.QK
 have hvi:=v.Qs
 have hvk0:=hvk
 rw [hk] at hvk
 have hbb : ((v.bytes.size : Int)<=4000) ↔ v.bytes.size<=4000:=by omega
 have e0:=fun ws h=>alone_ok v false true false ws h
 simp [hk,hvk] at e0
 refine rfits_head_11 m hm hl hf t ht hn v b hb hvk0 hk ws h _ [] ?_
 cases p0 : QH false true false v
 ·rw [p0] at e0
  simp [c139T131,Md.enc,hk,hvk,e0]
 ·rw [p0] at e0
  simp [c139T131,Md.enc,hk,hvk,e0,hbb]
end Go.Proofs.YtflbneepngjglaaGreatDoor
namespace Go.Proofs.YtflbneepngjglaaGreatDoor
open Go Go.Avm
theorem slc_snap {h pre g : Avm.H} {sz : Nat} {acc : List AV} {v : AV} (hI : Qu h.length pre.length sz g acc v) (hp : Qt acc=true) (n : Nat) : snap (h++(pre++g)) (n + 1) v=some (.isl acc):=by
 rcases hI with ⟨rfl,rfl⟩ | ⟨j,ver,rfl,h2⟩
 ·rfl
 ·have e : (h++(pre++g))[h.length + (j + pre.length)]? = some (.arr ver sz acc):=by
    rw [heap_get,Nat.add_comm,heap_get,h2]
  simp [look,e,Qx hp]
def arcK (x : Val) : Bool:=decide (x.kind=2) && QH true false false x
def ints (l : List Val) : List AV:=(l.map Val.int).map (.int .i64)
theorem oid_loop (m : Md) (b : Ty) (v : Val) (hv : v.size<=1048576) (h : Avm.H) : ∃ o,Qa (evC (Qb cfg) Qa cfg.pol h.length h.length c139L0) [5,9,10] [(5,.ptr (h.length + 2) 0 4 0 0),(9,.osl (h.length + 3) 0 1 0 0),(10,.int .i64 (0 : Nat))] (h++([.arr 0 2 [m.enc],.arr 0 8 [b.enc],.arr 0 4 [v.enc]]++[.arr 0 1 []]))=some o/\((v.items.all arcK=true/\∃ w g,Qu h.length 3 1 g (ints v.items) w/\o=(.exit 1,[(5,.ptr (h.length + 2) 0 4 0 0),(9,w),(10,.int .i64 v.items.length)],h++([.arr 0 2 [m.enc],.arr 0 8 [b.enc],.arr 0 4 [v.enc]]++g))) ∨ (v.items.all arcK=false/\∃ g,o=(.ret,[(6,.bool false)],h++([.arr 0 2 [m.enc],.arr 0 8 [b.enc],.arr 0 4 [v.enc]]++g)))):=by
 have hl : v.items.length<=1048576:=by have:=v.Qs; omega
 refine Qi (γ:=AV × Avm.H) (f:=evC (Qb cfg) Qa cfg.pol h.length h.length c139L0) (keep:=[5,9,10]) v.items
     (fun i c=>Qu h.length 3 1 c.2 (ints (v.items.take i)) c.1)
     (fun i c=>[(5,.ptr (h.length + 2) 0 4 0 0),(9,c.1),(10,.int .i64 i)]) (fun _ c=>h++([.arr 0 2 [m.enc],.arr 0 8 [b.enc],.arr 0 4 [v.enc]]++c.2))
     (fun _ r o=>(r.all arcK=true/\∃ w g,Qu h.length 3 1 g (ints v.items) w/\o=(.exit 1,[(5,.ptr (h.length + 2) 0 4 0 0),(9,w),(10,.int .i64 v.items.length)],h++([.arr 0 2 [m.enc],.arr 0 8 [b.enc],.arr 0 4 [v.enc]]++g))) ∨ (r.all arcK=false/\∃ g,o=(.ret,[(6,.bool false)],h++([.arr 0 2 [m.enc],.arr 0 8 [b.enc],.arr 0 4 [v.enc]]++g)))) ?_ ?_ (.osl (h.length + 3) 0 1 0 0,[.arr 0 1 []]) (.inr ⟨0,0,by simp [ints],by simp [ints]⟩)
 ·intro i x r c hd hi hx hI K hK
  have hw:=Qd (n:=i + 1) (by omega)
  simp at hw
  have htk : v.items.take (i + 1)=v.items.take i++[x]:=by rw [List.take_succ_eq_append_getElem hi,hx]
  rw [htk] at hK
  obtain ⟨w,g⟩:=c
  dsimp only at hI
  have e0:=fun ws h=>alone_ok x true false false ws h
  simp at e0
  by_cases q1 : x.kind=2
  ·cases q2 : QH true false false x
   ·refine ⟨_,?_,.inr ⟨by simp [arcK,q1,q2],g,rfl⟩⟩
    rw [q2] at e0
    simp [q1] at e0
    simp [c139L0,c139S0,hi,hx,q1,e0]
   ·rw [q2] at e0
    simp [q1] at e0
    simp [-Prod.exists,c139L0,c139S0,hi,hx,hw,q1,e0,Xr,appended]
    generalize hA : appI _ _ _ _ _ _ _=r'
    obtain ⟨v',g',rfl,h2⟩:=Qu.use (pre:=[_,_,_]) hI hA (by simp [ints]; omega) (by simp)
    obtain ⟨o,h4,h5⟩:=hK (v',g') (by simpa [ints] using h2)
    refine ⟨o,?_,by simpa [arcK,q1,q2] using h5⟩
    simp at h4
    simp [h4,hw]
  ·refine ⟨_,?_,.inr ⟨by simp [arcK,q1],g,rfl⟩⟩
   simp [c139L0,c139S0,hi,hx,q1]
 ·intro c K hI
  rw [List.take_length] at hI
  refine ⟨_,?_,.inl ⟨rfl,c.1,c.2,hI,rfl⟩⟩
  simp [c139L0]
end Go.Proofs.YtflbneepngjglaaGreatDoor
namespace Go.Proofs.YtflbneepngjglaaGreatDoor
open Go Go.Avm
theorem all_arcI (l : List Val) : l.all arcI=(l.all arcK && (l.map Val.int).all arcN):=by
 induction l with
 | nil=>rfl
 | cons x l ih=>
  simp only [List.all_cons,List.map_cons,ih,arcI,arcK,arcN]
  cases decide (x.kind=2) <;> cases QH true false false x <;> cases inP x.int 0 1000000000 <;> cases l.all arcK <;> simp
theorem arcs_eq (v : Val) : arcP v=(v.items.all arcK && (QH false false true v && rarcB (v.items.map Val.int))):=by
 unfold arcP
 rw [all_arcI]
 generalize QH false false true v=P
 match hi : v.items with
 | []=>simp [rarcB,inP]
 | [a]=>simp [rarcB,inP]
 | a :: b :: r=>
  have e1 : inP ((a :: b :: r).length : Int) 2 10=decide (r.length<=8):=by
   unfold inP
   rw [← Bool.decide_and]
   exact decide_eq_decide.2 (by simp only [List.length_cons]; omega)
  have e2 : arc2 (a :: b :: r)=(decide (a.int<=2) && (decide (a.int=2) || decide (b.int<=39))):=by
   unfold arc2
   by_cases q1 : a.int=2
   ·simp [q1]
   ·by_cases q2 : a.int < 2
    ·have : a.int<=2:=by omega
     simp [q1,q2,this]
    ·have : ¬ a.int<=2:=by omega
     simp [q1,q2,this]
  rw [e1,e2]
  unfold rarcB
  simp only [List.map_cons,List.length_map]
  generalize (a :: b :: r).all arcK=A
  generalize (a.int :: b.int :: r.map Val.int).all arcN=N
  generalize decide (r.length<=8)=X
  generalize (decide (a.int<=2) && (decide (a.int=2) || decide (b.int<=39)))=Y
  cases P <;> cases A <;> cases N <;> cases X <;> cases Y <;> rfl
theorem rfits_6 (m : Md) (hm : m.ok) (hl : m.lim) (hf : m.fm) (t : Ty) (ht : t.wid<=1048576) (hn : t.nodes<=600) (v : Val) (b : Ty) (hb : beh m 21 t=some b) (hvk : v.kind=b.kind) (hv : v.size<=1048576) (hbs : Qn b=true) (hk : b.kind=6) (ws : Nat) (h : Avm.H) : Qb cfg ws 139 [m.enc,t.enc,v.enc] h=some (.bool (arcP v),h):=by
 have hvb:=v.QK
 have hvi:=v.Qs
 have hvk0:=hvk
 rw [hk] at hvk
 rw [arcs_eq]
 have e0:=fun ws h=>alone_ok v false false true ws h
 obtain ⟨o,hlp,ho⟩:=oid_loop m b v hv h
 simp [Md.enc,hk,hvk] at e0 hlp
 rcases ho with ⟨hA,w,g,hI,rfl⟩ | ⟨hA,g,rfl⟩
 ·rw [hA]
  have hsn : snap (h++([.arr 0 2 [m.enc],.arr 0 8 [b.enc],.arr 0 4 [v.enc]]++g)) deep w=some (.isl (ints v.items)):=slc_snap (pre:=[.arr 0 2 [m.enc],.arr 0 8 [b.enc],.arr 0 4 [v.enc]]) hI (pure_ints _) 7
  have e1 : Qb cfg h.length 223 [w] (h++([.arr 0 2 [m.enc],.arr 0 8 [b.enc],.arr 0 4 [v.enc]]++g))=some (.bool (rarcB (v.items.map Val.int)),h++([.arr 0 2 [m.enc],.arr 0 8 [b.enc],.arr 0 4 [v.enc]]++g)):=by
   rw [callL_snap (F:=F223) rfl rfl rfl (args':=[.isl (ints v.items)]) (by
    have h2 : snap (h++([.arr 0 2 [m.enc],.arr 0 8 [b.enc],.arr 0 4 [v.enc]]++g)) deep (.isl (ints v.items))=some (.isl (ints v.items)):=snap_pure (by simpa [ints,-List.map_map] using pure_ints (v.items.map Val.int))
    simp only [QF,hsn,h2])]
   exact rarcs_ok (v.items.map Val.int) (by simp; omega) h.length _
  simp [Md.enc,hk,hvk] at e1
  refine rfits_head_6 m hm hl hf t ht hn v b hb hvk0 hk ws h _ g ?_
  simp [Md.enc] at hlp
  cases p0 : QH false false true v
  ·rw [p0] at e0
   simp [c139T141,Md.enc,hk,hvk,e0,hlp]
  ·rw [p0] at e0
   generalize rarcB (v.items.map Val.int)=R at e1 ⊢
   simp [c139T141,Md.enc,hk,hvk,e0,hlp,e1]
 ·rw [hA]
  refine rfits_head_6 m hm hl hf t ht hn v b hb hvk0 hk ws h _ g ?_
  simp [Md.enc] at hlp
  simp [c139T141,Md.enc,hk,hvk,hlp]
theorem rlist_loop (m : Md) (b : Ty) (v : Val) (hv : v.size<=1048576) (k0 : Ty) (hk : b.kids=[k0]) (p : Val->Bool) (hsub : ∀ x ∈ v.items,∀ ws h,Qb cfg ws 139 [m.enc,k0.enc,x.enc] h=some (.bool (p x),h)) (h : Avm.H) :
    Qa (evC (Qb cfg) Qa cfg.pol h.length h.length c139L1) [3,4,5,11] [(3,.ptr h.length 0 2 0 0),(4,.ptr (h.length + 1) 0 8 0 0),(5,.ptr (h.length + 2) 0 4 0 0),(11,.int .i64 (0 : Nat))] (h++[.arr 0 2 [m.enc],.arr 0 8 [b.enc],.arr 0 4 [v.enc]])=some (if v.items.all p=true then (.exit 3,[(3,.ptr h.length 0 2 0 0),(4,.ptr (h.length + 1) 0 8 0 0),(5,.ptr (h.length + 2) 0 4 0 0),(11,.int .i64 v.items.length)],h++[.arr 0 2 [m.enc],.arr 0 8 [b.enc],.arr 0 4 [v.enc]]) else (.ret,[(6,.bool false)],h++[.arr 0 2 [m.enc],.arr 0 8 [b.enc],.arr 0 4 [v.enc]])):=by
 have hl : v.items.length<=1048576:=by have:=v.Qs; omega
 refine Qz (f:=evC (Qb cfg) Qa cfg.pol h.length h.length c139L1) (keep:=[3,4,5,11]) v.items (fun i=>[(3,.ptr h.length 0 2 0 0),(4,.ptr (h.length + 1) 0 8 0 0),(5,.ptr (h.length + 2) 0 4 0 0),(11,.int .i64 i)]) (fun _=>h++[.arr 0 2 [m.enc],.arr 0 8 [b.enc],.arr 0 4 [v.enc]])
     (fun _ r=>if r.all p=true then (.exit 3,[(3,.ptr h.length 0 2 0 0),(4,.ptr (h.length + 1) 0 8 0 0),(5,.ptr (h.length + 2) 0 4 0 0),(11,.int .i64 v.items.length)],h++[.arr 0 2 [m.enc],.arr 0 8 [b.enc],.arr 0 4 [v.enc]]) else (.ret,[(6,.bool false)],h++[.arr 0 2 [m.enc],.arr 0 8 [b.enc],.arr 0 4 [v.enc]])) ?_ ?_
 ·intro i x r hd hi hx K hK
  have hw:=Qd (n:=i + 1) (by omega)
  simp at hw
  have hm : x ∈ v.items:=by rw [← hx]; exact List.getElem_mem hi
  have e0:=fun ws h=>hsub x hm ws h
  simp [Md.enc] at e0
  cases hp : p x
  ·simp only [List.all_cons,hp,Bool.false_and,Bool.false_eq_true,if_false]
   simp [c139L1,c139S1,Md.enc,hk,hi,hx,e0,hp]
  ·simp only [List.all_cons,hp,Bool.true_and]
   simp [Md.enc,hk] at hK
   simp [c139L1,c139S1,Md.enc,hk,hi,hx,e0,hp,hw,hK]
 ·intro K
  simp [c139L1,Md.enc]
theorem rfits_7 (m : Md) (hm : m.ok) (hl : m.lim) (hf : m.fm) (t : Ty) (ht : t.wid<=1048576) (hn : t.nodes<=600) (v : Val) (b : Ty) (hb : beh m 21 t=some b) (hvk : v.kind=b.kind) (hv : v.size<=1048576) (hbs : Qn b=true) (sub : Ty->Val->Bool) (hk1 : b.kids.length=1) (hsub : ∀ x ∈ v.items,∀ ws h,Qb cfg ws 139 [m.enc,(b.kids.headD Ty.zero).enc,x.enc] h=some (.bool (sub (b.kids.headD Ty.zero) x),h)) (hk : b.kind=7) (ws : Nat) (h : Avm.H) : Qb cfg ws 139 [m.enc,t.enc,v.enc] h=some (.bool (QH false false true v && (allowP b (v.items.length : Int) 200 && v.items.all (sub (b.kids.headD Ty.zero)))),h):=by
 have hvb:=v.QK
 have hvi:=v.Qs
 have hvk0:=hvk
 rw [hk] at hvk
 have e0:=fun ws h=>alone_ok v false false true ws h
 have e1:=fun ws h=>long_ok b (v.items.length : Int) ws h
 obtain ⟨k0,hk0⟩:=List.length_eq_one_iff.1 hk1
 have hh0 : b.kids.headD Ty.zero=k0:=by rw [hk0]; rfl
 rw [hh0] at hsub ⊢
 have e2:=rlist_loop m b v hv k0 hk0 (sub k0) hsub h
 simp only [hk,longest] at e1
 simp [hk,hvk,hk0,Md.enc] at e0 e1
 refine rfits_head_7 m hm hl hf t ht hn v b hb hvk0 hk ws h _ [] ?_
 cases p0 : QH false false true v
 ·rw [p0] at e0
  simp [c139T181,Md.enc,hk,hvk,hk0,e0]
 ·rw [p0] at e0
  cases p1 : allowP b (v.items.length : Int) 200
  ·rw [p1] at e1
   simp [c139T181,Md.enc,hk,hvk,hk0,e0,e1]
  ·rw [p1] at e1
   cases p2 : v.items.all (sub k0)
   ·rw [p2] at e2
    simp [hk,hvk,hk0,Md.enc] at e2
    simp [c139T181,Md.enc,hk,hvk,hk0,e0,e1,e2]
   ·rw [p2] at e2
    simp [hk,hvk,hk0,Md.enc] at e2
    simp [c139T181,Md.enc,hk,hvk,hk0,e0,e1,e2]
theorem rfits_9 (m : Md) (hm : m.ok) (hl : m.lim) (hf : m.fm) (t : Ty) (ht : t.wid<=1048576) (hn : t.nodes<=600) (v : Val) (b : Ty) (hb : beh m 21 t=some b) (hvk : v.kind=b.kind) (hv : v.size<=1048576) (hbs : Qn b=true) (sub : Ty->Val->Bool) (hsub : ∀ i ∈ b.items,∀ x ∈ v.items,∀ ws h,Qb cfg ws 139 [m.enc,i.of.enc,x.enc] h=some (.bool (sub i.of x),h)) (hk : b.kind=9) (ws : Nat) (h : Avm.H) : Qb cfg ws 139 [m.enc,t.enc,v.enc] h=some (.bool (QH true false true v && (inP v.int 0 ((b.items.length : Int) - 1) && (decide (v.items.length=1) && sub ((b.items[v.int.toNat]?.map It.of).getD Ty.zero) (v.items.headD (.mk 0 0 ⟨#[]⟩ []))))),h):=by
 have hvb:=v.QK
 have hvi:=v.Qs
 have hvk0:=hvk
 rw [hk] at hvk
 have e0:=fun ws h=>alone_ok v true false true ws h
 simp [hk,hvk] at e0
 refine rfits_head_9 m hm hl hf t ht hn v b hb hvk0 hk ws h _ [] ?_
 unfold inP
 cases p0 : QH true false true v
 ·rw [p0] at e0
  simp [c139T213,Md.enc,hk,hvk,e0]
 ·rw [p0] at e0
  by_cases p1 : 0<=v.int
  ·by_cases p2 : v.int < b.items.length
   ·have p3 : v.int<=(b.items.length : Int) - 1:=by omega
    by_cases p4 : v.items.length=1
    ·obtain ⟨x,hx⟩:=List.length_eq_one_iff.1 p4
     obtain ⟨n,hn⟩:=Int.eq_ofNat_of_zero_le p1
     have hnb : n < b.items.length:=by omega
     obtain ⟨y,hy⟩ : ∃ y,b.items[n]=y:=⟨_,rfl⟩
     have e2:=fun ws h=>hsub y (by rw [← hy]; exact List.getElem_mem hnb) x (by rw [hx]; simp) ws h
     have p3' : (n : Int)<=(b.items.length : Int) - 1:=by omega
     simp [Md.enc,hx,hn] at e0 e2
     simp [c139T213,Md.enc,hk,hvk,e0,hx,hn,hnb,hy,e2,p3']
    ·have p4' : ¬ ((v.items.length : Nat) : Int)=1:=by omega
     simp [c139T213,Md.enc,hk,hvk,e0,p1,p2,p3,p4,p4']
   ·have p3 : ¬ v.int<=(b.items.length : Int) - 1:=by omega
    simp [c139T213,Md.enc,hk,hvk,e0,p1,p2,p3]
  ·simp [c139T213,Md.enc,hk,hvk,e0,p1]
end Go.Proofs.YtflbneepngjglaaGreatDoor
namespace Go.Proofs.YtflbneepngjglaaGreatDoor
open Go Go.Avm
theorem rrec_loop (m : Md) (b : Ty) (v : Val) (hlen : v.items.length=b.items.length) (hvl : v.items.length<=1048576) (sub : Ty->Val->Bool) (h12 : ∀ i ∈ b.items,∀ x : Val,x.kind=12->sub i.of x=false) (hsub : ∀ i ∈ b.items,∀ x ∈ v.items,∀ ws h,Qb cfg ws 139 [m.enc,i.of.enc,x.enc] h=some (.bool (sub i.of x),h)) (h : Avm.H) :
    ∃ g,Qa (evC (Qb cfg) Qa cfg.pol h.length h.length c139L2) [3,4,5,12] [(3,.ptr h.length 0 2 0 0),(4,.ptr (h.length + 1) 0 8 0 0),(5,.ptr (h.length + 2) 0 4 0 0),(12,.int .i64 (0 : Nat))] (h++([.arr 0 2 [m.enc],.arr 0 8 [b.enc],.arr 0 4 [v.enc]]++[]))=some (if (b.items.zip v.items).all (partB sub)=true then (.exit 5,[(3,.ptr h.length 0 2 0 0),(4,.ptr (h.length + 1) 0 8 0 0),(5,.ptr (h.length + 2) 0 4 0 0),(12,.int .i64 v.items.length)],h++([.arr 0 2 [m.enc],.arr 0 8 [b.enc],.arr 0 4 [v.enc]]++g)) else (.ret,[(6,.bool false)],h++([.arr 0 2 [m.enc],.arr 0 8 [b.enc],.arr 0 4 [v.enc]]++g))):=by
 have hzl : (b.items.zip v.items).length=v.items.length:=by simp [hlen]
 have hl : (b.items.zip v.items).length<=1048576:=by omega
 have hlp:=Qi (γ:=Avm.H) (f:=evC (Qb cfg) Qa cfg.pol h.length h.length c139L2) (keep:=[3,4,5,12]) (b.items.zip v.items) (fun _ _=>True)
     (fun i _=>[(3,.ptr h.length 0 2 0 0),(4,.ptr (h.length + 1) 0 8 0 0),(5,.ptr (h.length + 2) 0 4 0 0),(12,.int .i64 i)]) (fun _ g=>h++([.arr 0 2 [m.enc],.arr 0 8 [b.enc],.arr 0 4 [v.enc]]++g))
     (fun _ r o=>∃ g,o=if r.all (partB sub)=true then (.exit 5,[(3,.ptr h.length 0 2 0 0),(4,.ptr (h.length + 1) 0 8 0 0),(5,.ptr (h.length + 2) 0 4 0 0),(12,.int .i64 v.items.length)],h++([.arr 0 2 [m.enc],.arr 0 8 [b.enc],.arr 0 4 [v.enc]]++g)) else (.ret,[(6,.bool false)],h++([.arr 0 2 [m.enc],.arr 0 8 [b.enc],.arr 0 4 [v.enc]]++g))) ?_ ?_ [] trivial
 ·obtain ⟨o,h1,g,h2⟩:=hlp
  exact ⟨g,h2 ▸ h1⟩
 ·intro i x r g hd hi hx _ K hK
  have hw:=Qd (n:=i + 1) (by omega)
  simp at hw
  have hiv : i < v.items.length:=by omega
  have hib : i < b.items.length:=by omega
  obtain ⟨y,x⟩:=x
  rw [List.getElem_zip] at hx
  have hxv : v.items[i]=x:=congrArg Prod.snd hx
  have hxb : b.items[i]=y:=congrArg Prod.fst hx
  have hmx : x ∈ v.items:=by rw [← hxv]; exact List.getElem_mem hiv
  have hmy : y ∈ b.items:=by rw [← hxb]; exact List.getElem_mem hib
  have e1:=fun ws h=>hsub y hmy x hmx ws h
  have e2:=fun ws h=>alone_ok x false false false ws h
  have hpe : ∀ p : Bool,partB sub (y,x)=p->((if x.kind=12 then (QH false false false x && mayP y) else sub y.of x)=p):=fun p hp=>by
   unfold partB at hp
   by_cases q : x.kind=12
   ·rw [if_pos q]; simpa [q,h12 y hmy x q] using hp
   ·rw [if_neg q]; simpa [q] using hp
  simp [Md.enc] at e1 e2
  cases hv : partB sub (y,x)
  ·refine ⟨_,?_,g++[.arr 0 12 [y.enc],.arr 0 4 [x.enc]],by simp only [List.all_cons,hv,Bool.false_and,Bool.false_eq_true,if_false]; rfl⟩
   have hv2:=hpe _ hv
   by_cases q1 : x.kind=12
   ·rw [if_pos q1] at hv2
    simp [q1] at e2
    cases q2 : QH false false false x
    ·rw [q2] at e2
     simp [c139L2,c139S23,c139T282,c139E282,Md.enc,hiv,hib,hxv,hxb,e2,q1]
    ·rw [q2] at e2 hv2
     simp only [Bool.true_and,mayP,Bool.or_eq_false_iff,Bool.not_eq_false',List.isEmpty_iff] at hv2
     simp [c139L2,c139S23,c139T282,c139E282,Md.enc,hiv,hib,hxv,hxb,e2,q1,hv2.1,hv2.2.1,hv2.2.2]
   ·rw [if_neg q1] at hv2
    rw [hv2] at e1
    simp [c139L2,c139S23,c139T282,c139E282,Md.enc,hiv,hib,hxv,hxb,e1,q1]
  ·obtain ⟨o,h4,g2,h5⟩:=hK (g++[.arr 0 12 [y.enc],.arr 0 4 [x.enc]]) trivial
   refine ⟨o,?_,g2,by simp only [List.all_cons,hv,Bool.true_and]; exact h5⟩
   have hv2:=hpe _ hv
   by_cases q1 : x.kind=12
   ·rw [if_pos q1] at hv2
    simp [q1] at e2
    simp [Md.enc,q1] at h4
    rw [Bool.and_eq_true] at hv2
    rw [hv2.1] at e2
    have hm:=hv2.2
    unfold mayP at hm
    cases c1 : y.opt
    ·cases c2 : y.extra
     ·have c3 : ¬ y.Qv=[]:=by simpa [c1,c2] using hm
      have c3' : ((y.Qv.length : Int) == 0)=false:=by rw [len0]; simpa using c3
      simp [c1,c2] at h4
      simp [c139L2,c139S23,c139T282,c139E282,Md.enc,hiv,hib,hxv,hxb,e2,q1,c1,c2,c3,c3',hw,h4]
     ·simp [c1,c2] at h4
      simp [c139L2,c139S23,c139T282,c139E282,Md.enc,hiv,hib,hxv,hxb,e2,q1,c1,c2,hw,h4]
    ·simp [c1] at h4
     simp [c139L2,c139S23,c139T282,c139E282,Md.enc,hiv,hib,hxv,hxb,e2,q1,c1,hw,h4]
   ·rw [if_neg q1] at hv2
    rw [hv2] at e1
    simp [Md.enc] at h4
    simp [c139L2,c139S23,c139T282,c139E282,Md.enc,hiv,hib,hxv,hxb,e1,q1,hw,h4]
 ·intro g K _
  refine ⟨_,?_,g,by simp only [List.all_nil,if_true]; rfl⟩
  simp [c139L2,Md.enc,hlen]
theorem rfits_8 (m : Md) (hm : m.ok) (hl : m.lim) (hf : m.fm) (t : Ty) (ht : t.wid<=1048576) (hn : t.nodes<=600) (v : Val) (b : Ty) (hb : beh m 21 t=some b) (hvk : v.kind=b.kind) (hv : v.size<=1048576) (hbs : Qn b=true) (sub : Ty->Val->Bool) (h12 : ∀ i ∈ b.items,∀ x : Val,x.kind=12->sub i.of x=false) (hsub : ∀ i ∈ b.items,∀ x ∈ v.items,∀ ws h,Qb cfg ws 139 [m.enc,i.of.enc,x.enc] h=some (.bool (sub i.of x),h)) (hk : b.kind=8) (ws : Nat) (h : Avm.H) : Qb cfg ws 139 [m.enc,t.enc,v.enc] h=some (.bool (QH false false true v && (decide (v.items.length=b.items.length) && (b.items.zip v.items).all (partB sub))),h):=by
 have hvb:=v.QK
 have hvi:=v.Qs
 have hvk0:=hvk
 rw [hk] at hvk
 have e0:=fun ws h=>alone_ok v false false true ws h
 simp [hk,hvk,Md.enc] at e0
 cases p0 : QH false false true v
 ·rw [p0] at e0
  refine rfits_head_8 m hm hl hf t ht hn v b hb hvk0 hk ws h _ [] ?_
  simp [c139S24,Md.enc,hk,hvk,e0]
 ·rw [p0] at e0
  by_cases p1 : v.items.length=b.items.length
  ·obtain ⟨g,e1⟩:=rrec_loop m b v p1 (by omega) sub h12 hsub h
   simp only [Md.enc,Ty.enc_eq,Val.enc_eq,hk,hvk] at e1
   cases p2 : (b.items.zip v.items).all (partB sub)
   ·rw [p2] at e1
    simp [p1] at e1
    refine rfits_head_8 m hm hl hf t ht hn v b hb hvk0 hk ws h _ g ?_
    simp [c139S24,Md.enc,hk,hvk,e0,p1,e1]
   ·rw [p2] at e1
    simp [p1] at e1
    refine rfits_head_8 m hm hl hf t ht hn v b hb hvk0 hk ws h _ g ?_
    simp [c139S24,Md.enc,hk,hvk,e0,p1,e1]
  ·have p1' : ¬ ((v.items.length : Nat) : Int)=(b.items.length : Nat):=by omega
   refine rfits_head_8 m hm hl hf t ht hn v b hb hvk0 hk ws h _ [] ?_
   simp [c139S24,Md.enc,hk,hvk,e0,p1,p1']
theorem fitB_absent (m : Md) (hm : m.ok) (hf : m.fm) (n : Nat) (u : Ty) (x : Val) (hu : u.wid<=1048576) (hr : u.QE Qn=true) (hx : x.kind=12) : Xw m n u x=false:=by
 cases n with
 | zero=>rfl
 | succ n=>
  rw [Xw]
  cases hb : beh m 21 u with
  | none=>rfl
  | some b=>
   dsimp only
   obtain ⟨hbw,hbr,hb10⟩:=beh_good m hm hf hu hr hb
   have hbs:=QO hbr
   have : ¬ x.kind=b.kind:=fun e=>by
    rw [hx] at e
    unfold Qn at hbs
    simp [← e] at hbs
   rw [decide_eq_false this,Bool.false_and]
end Go.Proofs.YtflbneepngjglaaGreatDoor
