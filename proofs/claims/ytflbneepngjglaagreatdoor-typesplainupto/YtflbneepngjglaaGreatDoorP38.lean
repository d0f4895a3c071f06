/- Arguments put in for parameters. -/
import Derived.Test.YtflbneepngjglaaGreatDoorP37
set_option linter.all false
namespace Go.Proofs.YtflbneepngjglaaGreatDoor
open Go Go.Avm
def bareI (i : It) : Bool:=i.of.same Ty.zero && (!i.opt && i.dflt.isEmpty)
def plainI (i : It) : Bool:=!i.opt && i.dflt.isEmpty
theorem pos_len {α : Type} (l : List α) : decide (0 < l.length) = !l.isEmpty:=by cases l <;> simp
theorem bare1_ok (i : It) (hi : i.wid≤67108864) (ws : Nat) (h : Avm.H) : callL cfg ws 234 [i.enc] h=some (.bool (!bareI i),h):=by
 have hs:=sameType_ok i.of Ty.zero (Nat.le_trans i.wid_of hi)
 simp [Ty.zero] at hs
 refine callL_fn rfl rfl ?_
 unfold bareI
 cases q1 : i.of.same Ty.zero <;> simp [Ty.zero] at q1 <;> simp [q1] at hs <;> cases q2 : i.opt <;> simp [F234,c234,hs,q2,pos_len]
theorem bare_ok (l : List It) (hl : l.length≤67108864) (hw : ∀ x ∈ l,x.wid≤67108864) (ws : Nat) (h : Avm.H) : callL cfg ws 162 [.isl (l.map It.enc)] h=some (.bool (l.all bareI),h):=by
 have h1:=fun ws h=>containsI_ok (g:=234) (k:=0) (cap:=[]) l hl (.inl rfl) h rfl rfl (fun x hx ws h=>bare1_ok x (hw x hx) ws h) ws
 simp only [any_not] at h1
 refine callL_fn rfl rfl ?_
 simp [F162,c162,h1]
theorem right1_ok (i : It) (ws : Nat) (h : Avm.H) : callL cfg ws 163 [i.enc] h=some (.bool (!plainI i),h):=by
 refine callL_fn rfl rfl ?_
 unfold plainI
 cases q2 : i.opt <;> simp [F163,c163,q2,pos_len]
def rightP (t : Ty) : Bool:=
 if t.kind=0 then t.onone else if t.kind=1 then t.onone else if t.kind=6 then t.onone else if t.kind=11 then t.onone
 else if t.kind=2 then t.oLFE && rngP t (-1000000000000000) 1000000000000000
 else if t.kind=3 then t.oEI && (itP t 1 && t.items.all bareI)
 else if t.kind=4 then t.oLFE && rngP t 0 4000
 else if t.kind=5 then t.oLFE && rngP t 0 32000
 else if t.kind=7 then t.oLFEK && (rngP t 0 200 && decide (t.kids.length=1))
 else if t.kind=8 then t.oEI && itP t 0
 else if t.kind=9 then t.oEI && (itP t 1 && t.items.all plainI)
 else decide (t.kind=10) && t.oNK
theorem right_0 (t : Ty) (ht : t.wid≤67108864) (q : t.kind=0) (ws : Nat) (h : Avm.H) : callL cfg ws 83 [t.enc] h=some (.bool t.onone,h):=by
 have hwi:=t.wid_items
 have beq1 : (((t.kids.length : Nat) : Int) == 1)=decide (t.kids.length=1):=beq_nat _ 1
 have e0:=onlynone_ok t ht
 simp [q] at e0
 refine callL_fn rfl rfl ?_
 simp [F83,c83,q,e0]
theorem right_1 (t : Ty) (ht : t.wid≤67108864) (q : t.kind=1) (ws : Nat) (h : Avm.H) : callL cfg ws 83 [t.enc] h=some (.bool t.onone,h):=by
 have hwi:=t.wid_items
 have beq1 : (((t.kids.length : Nat) : Int) == 1)=decide (t.kids.length=1):=beq_nat _ 1
 have e0:=onlynone_ok t ht
 simp [q] at e0
 refine callL_fn rfl rfl ?_
 simp [F83,c83,q,e0]
theorem right_6 (t : Ty) (ht : t.wid≤67108864) (q : t.kind=6) (ws : Nat) (h : Avm.H) : callL cfg ws 83 [t.enc] h=some (.bool t.onone,h):=by
 have hwi:=t.wid_items
 have beq1 : (((t.kids.length : Nat) : Int) == 1)=decide (t.kids.length=1):=beq_nat _ 1
 have e0:=onlynone_ok t ht
 simp [q] at e0
 refine callL_fn rfl rfl ?_
 simp [F83,c83,q,e0]
theorem right_11 (t : Ty) (ht : t.wid≤67108864) (q : t.kind=11) (ws : Nat) (h : Avm.H) : callL cfg ws 83 [t.enc] h=some (.bool t.onone,h):=by
 have hwi:=t.wid_items
 have beq1 : (((t.kids.length : Nat) : Int) == 1)=decide (t.kids.length=1):=beq_nat _ 1
 have e0:=onlynone_ok t ht
 simp [q] at e0
 refine callL_fn rfl rfl ?_
 simp [F83,c83,q,e0]
theorem right_2 (t : Ty) (ht : t.wid≤67108864) (q : t.kind=2) (ws : Nat) (h : Avm.H) : callL cfg ws 83 [t.enc] h=some (.bool (t.oLFE && rngP t (-1000000000000000) 1000000000000000),h):=by
 have hwi:=t.wid_items
 have beq1 : (((t.kids.length : Nat) : Int) == 1)=decide (t.kids.length=1):=beq_nat _ 1
 have e0:=onlyLFE_ok t ht
 have e1:=ranged_ok t (-1000000000000000) 1000000000000000
 simp [q] at e0 e1
 refine callL_fn rfl rfl ?_
 simp [F83,c83,q,e0,e1]
theorem right_3 (t : Ty) (ht : t.wid≤67108864) (q : t.kind=3) (ws : Nat) (h : Avm.H) : callL cfg ws 83 [t.enc] h=some (.bool (t.oEI && (itP t 1 && t.items.all bareI)),h):=by
 have hwi:=t.wid_items
 have beq1 : (((t.kids.length : Nat) : Int) == 1)=decide (t.kids.length=1):=beq_nat _ 1
 have e0:=onlyEI_ok t ht
 have e1:=items_ok t ht 1
 have e2:=bare_ok t.items (by omega) fun x hx=>Nat.le_trans (Ty.wid_item hx) ht
 simp [q] at e0 e1 e2
 refine callL_fn rfl rfl ?_
 simp [F83,c83,q,e0,e1,e2]
 first | done | rw [Bool.and_assoc]
theorem right_4 (t : Ty) (ht : t.wid≤67108864) (q : t.kind=4) (ws : Nat) (h : Avm.H) : callL cfg ws 83 [t.enc] h=some (.bool (t.oLFE && rngP t 0 4000),h):=by
 have hwi:=t.wid_items
 have beq1 : (((t.kids.length : Nat) : Int) == 1)=decide (t.kids.length=1):=beq_nat _ 1
 have e0:=onlyLFE_ok t ht
 have e1:=ranged_ok t 0 4000
 simp [q] at e0 e1
 refine callL_fn rfl rfl ?_
 simp [F83,c83,q,e0,e1]
theorem right_5 (t : Ty) (ht : t.wid≤67108864) (q : t.kind=5) (ws : Nat) (h : Avm.H) : callL cfg ws 83 [t.enc] h=some (.bool (t.oLFE && rngP t 0 32000),h):=by
 have hwi:=t.wid_items
 have beq1 : (((t.kids.length : Nat) : Int) == 1)=decide (t.kids.length=1):=beq_nat _ 1
 have e0:=onlyLFE_ok t ht
 have e1:=ranged_ok t 0 32000
 simp [q] at e0 e1
 refine callL_fn rfl rfl ?_
 simp [F83,c83,q,e0,e1]
theorem right_7 (t : Ty) (ht : t.wid≤67108864) (q : t.kind=7) (ws : Nat) (h : Avm.H) : callL cfg ws 83 [t.enc] h=some (.bool (t.oLFEK && (rngP t 0 200 && decide (t.kids.length=1))),h):=by
 have hwi:=t.wid_items
 have beq1 : (((t.kids.length : Nat) : Int) == 1)=decide (t.kids.length=1):=beq_nat _ 1
 have e0:=onlyLFEK_ok t ht
 have e1:=ranged_ok t 0 200
 simp [q] at e0 e1
 refine callL_fn rfl rfl ?_
 simp [F83,c83,q,e0,e1,beq1]
 first | done | rw [Bool.and_assoc]
theorem right_8 (t : Ty) (ht : t.wid≤67108864) (q : t.kind=8) (ws : Nat) (h : Avm.H) : callL cfg ws 83 [t.enc] h=some (.bool (t.oEI && itP t 0),h):=by
 have hwi:=t.wid_items
 have beq1 : (((t.kids.length : Nat) : Int) == 1)=decide (t.kids.length=1):=beq_nat _ 1
 have e0:=onlyEI_ok t ht
 have e1:=items_ok t ht 0
 simp [q] at e0 e1
 refine callL_fn rfl rfl ?_
 simp [F83,c83,q,e0,e1]
theorem right_9 (t : Ty) (ht : t.wid≤67108864) (q : t.kind=9) (ws : Nat) (h : Avm.H) : callL cfg ws 83 [t.enc] h=some (.bool (t.oEI && (itP t 1 && t.items.all plainI)),h):=by
 have hwi:=t.wid_items
 have beq1 : (((t.kids.length : Nat) : Int) == 1)=decide (t.kids.length=1):=beq_nat _ 1
 have e0:=onlyEI_ok t ht
 have e1:=items_ok t ht 1
 have e2:=fun ws h=>containsI_ok (g:=163) (k:=0) (cap:=[]) (p:=fun i=>!plainI i) t.items (by omega) (.inl rfl) h rfl rfl (fun x hx ws h=>right1_ok x ws h) ws
 simp [q] at e0 e1 e2
 refine callL_fn rfl rfl ?_
 simp [F83,c83,q,e0,e1,e2,any_not]
 first | done | rw [Bool.and_assoc]
theorem right_10 (t : Ty) (ht : t.wid≤67108864) (q : t.kind=10) (ws : Nat) (h : Avm.H) : callL cfg ws 83 [t.enc] h=some (.bool t.oNK,h):=by
 have hwi:=t.wid_items
 have beq1 : (((t.kids.length : Nat) : Int) == 1)=decide (t.kids.length=1):=beq_nat _ 1
 have e0:=onlyNK_ok t ht
 simp [q] at e0
 refine callL_fn rfl rfl ?_
 simp [F83,c83,q,e0]
theorem right_ok (t : Ty) (ht : t.wid≤67108864) (ws : Nat) (h : Avm.H) : callL cfg ws 83 [t.enc] h=some (.bool (rightP t),h):=by
 unfold rightP
 split
 ·rename_i q; exact right_0 t ht q ws h
 split
 ·rename_i q; exact right_1 t ht q ws h
 split
 ·rename_i q; exact right_6 t ht q ws h
 split
 ·rename_i q; exact right_11 t ht q ws h
 split
 ·rename_i q; exact right_2 t ht q ws h
 split
 ·rename_i q; exact right_3 t ht q ws h
 split
 ·rename_i q; exact right_4 t ht q ws h
 split
 ·rename_i q; exact right_5 t ht q ws h
 split
 ·rename_i q; exact right_7 t ht q ws h
 split
 ·rename_i q; exact right_8 t ht q ws h
 split
 ·rename_i q; exact right_9 t ht q ws h
 rename_i q0 q1 q6 q11 q2 q3 q4 q5 q7 q8 q9
 by_cases q : t.kind=10
 ·rw [decide_eq_true q,Bool.true_and]; exact right_10 t ht q ws h
 ·refine callL_fn rfl rfl ?_
  simp [F83,c83,q,q0,q1,q6,q11,q2,q3,q4,q5,q7,q8,q9]
end Go.Proofs.YtflbneepngjglaaGreatDoor
namespace Go.Proofs.YtflbneepngjglaaGreatDoor
open Go Go.Avm
def longest (k : Int) : Int:=if k=5 then 32000 else if k=7 then 200 else 4000
theorem same_zero (t : Ty) : t.same Ty.zero=(decide (t.kind=0) && (t.n0 && (t.l0 && (t.h0 && (!t.free && (!t.ext && (t.i0 && t.k0))))))):=by
 by_cases q : t.kind=0
 ·rw [decide_eq_true q,Bool.true_and]; exact same_bare t 0 q
 ·rw [Ty.same_eq]; simp [Ty.zero,q]
theorem decE {α : Type} (l : List α) [Decidable (l=[])] : decide (l=[])=l.isEmpty:=by cases l <;> simp
theorem len0 {α : Type} (l : List α) : ((l.length : Int) == 0)=l.isEmpty:=by rw [beq_zero]; cases l <;> simp
def mono : Bool→List It→Bool
 | _,[]=>true
 | e,x :: r=>!(e && !x.extra) && mono x.extra r
end Go.Proofs.YtflbneepngjglaaGreatDoor
namespace Go.Proofs.YtflbneepngjglaaGreatDoor
open Go Go.Avm
end Go.Proofs.YtflbneepngjglaaGreatDoor
namespace Go.Proofs.YtflbneepngjglaaGreatDoor
open Go Go.Avm
def Ty.par (ps : List ByteArray) (t : Ty) : Option Nat:=if t.kind=10∧t.kids=[] then ps.findIdx? (eqS t.name) else none
def It.withOf (x : It) (t : Ty) : It:=.mk x.name t x.opt x.extra x.dflt
def Ty.put (ps : List ByteArray) (args : List Ty) (t : Ty) : Ty:=match t.par ps with
 | some i=>args[i]?.getD Ty.zero
 | none=>.mk t.kind t.name t.lo t.hi t.free t.ext (t.items.attach.map fun x=>x.1.withOf (x.1.of.put ps args)) (t.kids.attach.map fun x=>x.1.put ps args)
termination_by t.size
decreasing_by
 ·exact Ty.mem_of x.2
 ·exact Ty.mem_kids x.2
theorem Ty.put_eq (ps : List ByteArray) (args : List Ty) (t : Ty) : t.put ps args=match t.par ps with
 | some i=>args[i]?.getD Ty.zero
 | none=>.mk t.kind t.name t.lo t.hi t.free t.ext (t.items.map fun x=>x.withOf (x.of.put ps args)) (t.kids.map fun x=>x.put ps args):=by
 rw [Ty.put,att_map t.items (fun x=>x.withOf (x.of.put ps args)),att_map t.kids (fun x=>x.put ps args)]
theorem cloneI_ok (l : List It) (hl : l.length≤67108864) (ws : Nat) (h : Avm.H) : callL cfg ws 98 [.isl (l.map It.enc)] h=some (.osl h.length 0 12 0 l.length,h++[.arr 0 12 (l.map It.enc)]):=by
 refine callL_ext rfl ?_
 have : l.length≤lim:=by unfold lim; omega
 simp [cloneX,this]
theorem take_map2 {α β γ : Type} (f : β→γ) (g : α→β) (l : List α) : List.take l.length ((l.map g).map f)=(l.map g).map f:=List.take_of_length_le (by simp)
def upto {α : Type} (f : α→α) (l : List α) (i : Nat) : List α:=(l.take i).map f++l.drop i
theorem upto_get {α β : Type} (f : α→α) (enc : α→β) (l : List α) (i : Nat) (hi : i < l.length) : ((upto f l i).map enc)[i]? = some (enc l[i]):=by
 unfold upto
 rw [List.map_append,List.getElem?_append_right (by simp; omega)]
 simp [hi,Nat.min_eq_left (Nat.le_of_lt hi)]
theorem upto_set {α β : Type} (f : α→α) (enc : α→β) (l : List α) (i : Nat) (hi : i < l.length) : ((upto f l i).map enc).set i (enc (f l[i]))=(upto f l (i + 1)).map enc:=by
 unfold upto
 rw [List.map_append,List.set_append_right _ _ (by simp; omega)]
 have h1 : i - (((l.take i).map f).map enc).length=0:=by simp; omega
 rw [h1,List.take_succ_eq_append_getElem hi,List.drop_eq_getElem_cons hi]
 simp only [List.map_append,List.map_cons,List.map_nil,List.set_cons_zero,List.append_assoc,List.cons_append,List.nil_append]
theorem upto_len {α : Type} (f : α→α) (l : List α) (i : Nat) : (upto f l i).length=l.length:=by unfold upto; simp; omega
theorem upto_all {α : Type} (f : α→α) (l : List α) : upto f l l.length=l.map f:=by unfold upto; simp
theorem upto_zero {α : Type} (f : α→α) (l : List α) : upto f l 0=l:=by unfold upto; simp
theorem put_loop0 (t : Ty) (ht : t.wid≤67108864) (ps : List ByteArray) (args : List Ty) (h : Avm.H) (P : Ty→Ty) (hP : ∀ x ∈ t.kids,∀ ws h,callL cfg ws 95 [x.enc,.isl (ps.map .str),.isl (args.map Ty.enc)] h=some ((P x).enc,h)) :
    roundsL (evC (callL cfg) roundsL cfg.pol h.length h.length c95L0) [1,2,3,6,35,36] [(1,.isl (ps.map .str)),(2,.isl (args.map Ty.enc)),(3,.ptr h.length 0 8 0 0),(6,.ptr (h.length + 1) 0 8 0 0),(35,.int .i64 t.kids.length),(36,.int .i64 (0 : Nat))] (h++[.arr 0 8 [.agg [.int .i64 t.kind,.str t.name,.int .i64 t.lo,.int .i64 t.hi,.bool t.free,.bool t.ext,.isl (t.items.map It.enc),.osl (h.length + 2) 0 8 0 t.kids.length]],.arr 0 8 [Ty.zero.enc],.arr 0 8 ((upto P t.kids 0).map Ty.enc)])=some (.exit 0,[(1,.isl (ps.map .str)),(2,.isl (args.map Ty.enc)),(3,.ptr h.length 0 8 0 0),(6,.ptr (h.length + 1) 0 8 0 0),(35,.int .i64 t.kids.length),(36,.int .i64 t.kids.length)],h++[.arr 0 8 [.agg [.int .i64 t.kind,.str t.name,.int .i64 t.lo,.int .i64 t.hi,.bool t.free,.bool t.ext,.isl (t.items.map It.enc),.osl (h.length + 2) 0 8 0 t.kids.length]],.arr 0 8 [Ty.zero.enc],.arr 0 8 ((upto P t.kids t.kids.length).map Ty.enc)]):=by
 have hwk:=t.wid_kids
 refine loop_list (f:=evC (callL cfg) roundsL cfg.pol h.length h.length c95L0) (keep:=[1,2,3,6,35,36]) t.kids (fun i=>[(1,.isl (ps.map .str)),(2,.isl (args.map Ty.enc)),(3,.ptr h.length 0 8 0 0),(6,.ptr (h.length + 1) 0 8 0 0),(35,.int .i64 t.kids.length),(36,.int .i64 i)]) (fun i=>h++[.arr 0 8 [.agg [.int .i64 t.kind,.str t.name,.int .i64 t.lo,.int .i64 t.hi,.bool t.free,.bool t.ext,.isl (t.items.map It.enc),.osl (h.length + 2) 0 8 0 t.kids.length]],.arr 0 8 [Ty.zero.enc],.arr 0 8 ((upto P t.kids i).map Ty.enc)]) (fun _ _=>(.exit 0,[(1,.isl (ps.map .str)),(2,.isl (args.map Ty.enc)),(3,.ptr h.length 0 8 0 0),(6,.ptr (h.length + 1) 0 8 0 0),(35,.int .i64 t.kids.length),(36,.int .i64 t.kids.length)],h++[.arr 0 8 [.agg [.int .i64 t.kind,.str t.name,.int .i64 t.lo,.int .i64 t.hi,.bool t.free,.bool t.ext,.isl (t.items.map It.enc),.osl (h.length + 2) 0 8 0 t.kids.length]],.arr 0 8 [Ty.zero.enc],.arr 0 8 ((upto P t.kids t.kids.length).map Ty.enc)])) ?_ ?_
 ·intro i x r hd hi hx K hK
  have hw:=wrap_nat (n:=i + 1) (by omega)
  simp at hw
  have hm : x ∈ t.kids:=by rw [← hx]; exact List.getElem_mem hi
  have hcl:=fun h'=>hP x hm h.length h'
  have hget:=upto_get P Ty.enc t.kids i hi
  have hset:=upto_set P Ty.enc t.kids i hi
  rw [hx] at hget hset
  have hln:=upto_len P t.kids i
  generalize (upto P t.kids i).map Ty.enc=els at hget hset ⊢
  simp at hcl hget hset hK
  simp [c95L0,hi,hcl,hget,hset,hw,hK]
 ·intro K
  simp [c95L0]
theorem put_loop1 (t : Ty) (ht : t.wid≤67108864) (ps : List ByteArray) (args : List Ty) (h : Avm.H) (P : Ty→Ty) (Q : It→It) (hQ : ∀ x,Q x=x.withOf (P x.of)) (hP : ∀ x ∈ t.items,∀ ws h,callL cfg ws 95 [x.of.enc,.isl (ps.map .str),.isl (args.map Ty.enc)] h=some ((P x.of).enc,h)) :
    roundsL (evC (callL cfg) roundsL cfg.pol h.length h.length c95L1) [1,2,3,6,58,59] [(1,.isl (ps.map .str)),(2,.isl (args.map Ty.enc)),(3,.ptr h.length 0 8 0 0),(6,.ptr (h.length + 1) 0 8 0 0),(58,.int .i64 t.items.length),(59,.int .i64 (0 : Nat))] (h++[.arr 0 8 [.agg [.int .i64 t.kind,.str t.name,.int .i64 t.lo,.int .i64 t.hi,.bool t.free,.bool t.ext,.osl (h.length + 3) 0 12 0 t.items.length,.osl (h.length + 2) 0 8 0 t.kids.length]],.arr 0 8 [Ty.zero.enc],.arr 0 8 ((t.kids.map P).map Ty.enc),.arr 0 12 ((upto Q t.items 0).map It.enc)])=some (.exit 2,[(1,.isl (ps.map .str)),(2,.isl (args.map Ty.enc)),(3,.ptr h.length 0 8 0 0),(6,.ptr (h.length + 1) 0 8 0 0),(58,.int .i64 t.items.length),(59,.int .i64 t.items.length)],h++[.arr 0 8 [.agg [.int .i64 t.kind,.str t.name,.int .i64 t.lo,.int .i64 t.hi,.bool t.free,.bool t.ext,.osl (h.length + 3) 0 12 0 t.items.length,.osl (h.length + 2) 0 8 0 t.kids.length]],.arr 0 8 [Ty.zero.enc],.arr 0 8 ((t.kids.map P).map Ty.enc),.arr 0 12 ((upto Q t.items t.items.length).map It.enc)]):=by
 have hwk:=t.wid_items
 refine loop_list (f:=evC (callL cfg) roundsL cfg.pol h.length h.length c95L1) (keep:=[1,2,3,6,58,59]) t.items (fun i=>[(1,.isl (ps.map .str)),(2,.isl (args.map Ty.enc)),(3,.ptr h.length 0 8 0 0),(6,.ptr (h.length + 1) 0 8 0 0),(58,.int .i64 t.items.length),(59,.int .i64 i)]) (fun i=>h++[.arr 0 8 [.agg [.int .i64 t.kind,.str t.name,.int .i64 t.lo,.int .i64 t.hi,.bool t.free,.bool t.ext,.osl (h.length + 3) 0 12 0 t.items.length,.osl (h.length + 2) 0 8 0 t.kids.length]],.arr 0 8 [Ty.zero.enc],.arr 0 8 ((t.kids.map P).map Ty.enc),.arr 0 12 ((upto Q t.items i).map It.enc)]) (fun _ _=>(.exit 2,[(1,.isl (ps.map .str)),(2,.isl (args.map Ty.enc)),(3,.ptr h.length 0 8 0 0),(6,.ptr (h.length + 1) 0 8 0 0),(58,.int .i64 t.items.length),(59,.int .i64 t.items.length)],h++[.arr 0 8 [.agg [.int .i64 t.kind,.str t.name,.int .i64 t.lo,.int .i64 t.hi,.bool t.free,.bool t.ext,.osl (h.length + 3) 0 12 0 t.items.length,.osl (h.length + 2) 0 8 0 t.kids.length]],.arr 0 8 [Ty.zero.enc],.arr 0 8 ((t.kids.map P).map Ty.enc),.arr 0 12 ((upto Q t.items t.items.length).map It.enc)])) ?_ ?_
 ·intro i x r hd hi hx K hK
  have hw:=wrap_nat (n:=i + 1) (by omega)
  simp at hw
  have hm : x ∈ t.items:=by rw [← hx]; exact List.getElem_mem hi
  have hcl:=fun h'=>hP x hm h.length h'
  have hget:=upto_get Q It.enc t.items i hi
  have hset:=upto_set Q It.enc t.items i hi
  rw [hx] at hget hset
  rw [hQ x] at hset
  generalize (upto Q t.items i).map It.enc=els at hget hset ⊢
  simp [It.withOf] at hcl hget hset hK
  simp [c95L1,hi,hcl,hget,hset,hw,hK]
 ·intro K
  simp [c95L1]
theorem put_ok (ps : List ByteArray) (args : List Ty) (hp : ps.length≤67108864) (hpa : ps.length=args.length) : ∀ (n : Nat) (t : Ty),t.size≤n→t.wid≤67108864→∀ ws h,callL cfg ws 95 [t.enc,.isl (ps.map .str),.isl (args.map Ty.enc)] h=some ((t.put ps args).enc,h)
 | 0,t,ht,_,_,_=>by have:=t.size_pos; omega
 | n + 1,t,ht,hw0,ws,h=>by
  have hwk:=t.wid_kids
  have hwi:=t.wid_items
  have l0:=put_loop0 t hw0 ps args h (fun x=>x.put ps args) (fun x hx ws h=>put_ok ps args hp hpa n x (by have:=Ty.mem_kids hx; omega) (Nat.le_trans (Ty.wid_kid hx) hw0) ws h)
  have l1:=put_loop1 t hw0 ps args h (fun x=>x.put ps args) (fun x=>x.withOf (x.of.put ps args)) (fun _=>rfl) (fun x hx ws h=>put_ok ps args hp hpa n x.of (by have:=Ty.mem_of hx; omega) (Nat.le_trans (Ty.wid_itof hx) hw0) ws h)
  rw [upto_zero,upto_all] at l0
  rw [upto_zero,upto_all] at l1
  have hix:=fun ws h=>indexS_ok ps t.name hp ws h
  have hck:=fun ws h=>cloneT_ok t.kids (by omega) ws h
  have hci:=fun ws h=>cloneI_ok t.items (by omega) ws h
  refine callL_fn rfl rfl ?_
  rw [Ty.put_eq]
  simp [Ty.zero,-List.map_map] at l0 l1
  by_cases q10 : t.kind=10
  ·by_cases qk : t.kids=[]
   ·cases qi : ps.findIdx? (eqS t.name) with
    | some i=>
     have hpar : t.par ps=some i:=by simp [Ty.par,q10,qk,qi]
     have hi : i < args.length:=by
      rw [List.findIdx?_eq_some_iff_getElem] at qi
      obtain ⟨hj,_⟩:=qi
      omega
     have hlk : (((t.kids.length : Nat) : Int) == 0)=true:=by rw [qk]; rfl
     rw [hpar]
     simp [idxOf,qi] at hix
     simp [F95,c95,q10,qk,hix,hi]
    | none=>
     have hpar : t.par ps=none:=by simp [Ty.par,q10,qk,qi]
     rw [hpar]
     simp [idxOf,qi] at hix
     simp [q10,qk,-List.map_map] at l0 l1 hck
     simp [F95,c95,q10,qk,hix,hck,hci,l0,l1,-List.map_map,take_map2]
   ·have hpar : t.par ps=none:=by simp [Ty.par,qk]
    rw [hpar]
    simp [q10,-List.map_map] at l0 l1
    simp [F95,c95,q10,qk,hck,hci,l0,l1,-List.map_map,take_map2]
  ·have hpar : t.par ps=none:=by simp [Ty.par,q10]
   rw [hpar]
   simp [F95,c95,q10,hck,hci,l0,l1,-List.map_map,take_map2]
end Go.Proofs.YtflbneepngjglaaGreatDoor
