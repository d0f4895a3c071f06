/- Fields of kinds: both ways are one. -/
import Derived.Test.YtflbneepngjglaaGreatDoorM34
set_option linter.all false
namespace Go.Proofs.YtflbneepngjglaaGreatDoor
open Go Go.Avm
theorem rranged_ok (t : Ty) (a b : Int) (ws : Nat) (h : Avm.H) : Qb cfg ws 258 [t.enc,.int .i64 a,.int .i64 b] h=some (.bool (XM t a b),h):=by
 refine Qc rfl rfl ?_
 cases hf : t.free <;> simp [F258,c258,hf,XM,Bool.and_assoc]
def longest (k : Int) : Int:=if k=5 then 32000 else if k=7 then 200 else 4000
theorem longest_ok (k : Int) (ws : Nat) (h : Avm.H) : Qb cfg ws 259 [.int .i64 k] h=some (.int .i64 (longest k),h):=by
 refine Qc rfl rfl ?_
 unfold longest
 by_cases q5 : k=5
 ·simp [F259,c259,q5]
 ·by_cases q7 : k=7 <;> simp [F259,c259,q5,q7]
theorem same_zero (t : Ty) : t.same Ty.zero=(decide (t.kind=0) && (t.n0 && (t.l0 && (t.h0 && (!t.free && (!t.ext && (t.i0 && t.k0))))))):=by
 by_cases q : t.kind=0
 ·rw [decide_eq_true q,Bool.true_and]; exact same_bare t 0 q
 ·rw [Ty.Xp]; simp [Ty.zero,q]
theorem decE {α : Type} (l : List α) [Decidable (l=[])] : decide (l=[])=l.isEmpty:=by cases l <;> simp
theorem len0 {α : Type} (l : List α) : ((l.length : Int) == 0)=l.isEmpty:=by rw [beq_zero]; cases l <;> simp
theorem rbare_ok (t : Ty) (ws : Nat) (h : Avm.H) : Qb cfg ws 261 [t.enc] h=some (.bool (t.same Ty.zero),h):=by
 rw [same_zero]
 refine Qc rfl rfl ?_
 simp [F261,c261,Ty.n0,Ty.l0,Ty.h0,Ty.i0,Ty.k0,eqS,decE,len0,Bool.and_assoc]
def mono : Bool->List It->Bool
 | _,[]=>true
 | e,x :: r=>!(e && !x.extra) && mono x.extra r
def lastE : Bool->List It->Bool
 | e,[]=>e
 | _,x :: r=>lastE x.extra r
def prevE (l : List It) : Nat->Bool
 | 0=>false
 | j + 1=>match l[j]? with | some x=>x.extra | none=>false
def headX : List It->Bool
 | []=>false
 | x :: _=>!x.extra
def markP (t : Ty) (ls : Bool) : Bool:=mono false t.items && ((!lastE false t.items || t.ext) && (!ls || headX t.items))
theorem marked_loop (t : Ty) (ht : t.wid<=1048576) (ls : Bool) (h : Avm.H) : Qa (evC (Qb cfg) Qa cfg.pol h.length h.length c260L0) [1,2,5,6] [(1,.bool ls),(2,.ptr h.length 0 8 0 0),(5,.bool false),(6,.int .i64 (0 : Nat))] (h++[.arr 0 8 [t.enc]]) =
    some (if mono false t.items=true then (.exit 0,[(1,.bool ls),(2,.ptr h.length 0 8 0 0),(5,.bool (lastE false t.items)),(6,.int .i64 t.items.length)],h++[.arr 0 8 [t.enc]]) else (.ret,[(4,.bool false)],h++[.arr 0 8 [t.enc]])):=by
 have hwi:=t.Qe
 have hl:=Qz (f:=evC (Qb cfg) Qa cfg.pol h.length h.length c260L0) (keep:=[1,2,5,6]) t.items (fun i=>[(1,.bool ls),(2,.ptr h.length 0 8 0 0),(5,.bool (prevE t.items i)),(6,.int .i64 i)]) (fun _=>h++[.arr 0 8 [t.enc]])
  (fun i r=>if mono (prevE t.items i) r=true then (.exit 0,[(1,.bool ls),(2,.ptr h.length 0 8 0 0),(5,.bool (lastE (prevE t.items i) r)),(6,.int .i64 t.items.length)],h++[.arr 0 8 [t.enc]]) else (.ret,[(4,.bool false)],h++[.arr 0 8 [t.enc]])) ?_ ?_
 ·exact hl
 ·intro i x r hd hi hx K hK
  have hw:=Qd (n:=i + 1) (by omega)
  simp at hw
  have hpn : prevE t.items (i + 1)=x.extra:=by simp [prevE,hi,hx]
  rw [hpn] at hK
  rw [mono,lastE]
  cases prevE t.items i <;> cases q2 : x.extra
  ·rw [q2] at hK; simp at hK; simp [c260L0,hi,hx,q2,hw,hK]
  ·rw [q2] at hK; simp at hK; simp [c260L0,hi,hx,q2,hw,hK]
  ·simp [c260L0,hi,hx,q2]
  ·rw [q2] at hK; simp at hK; simp [c260L0,hi,hx,q2,hw,hK]
 ·intro K
  simp [c260L0,mono,lastE]
theorem marked_ok (t : Ty) (ht : t.wid<=1048576) (ls : Bool) (ws : Nat) (h : Avm.H) : Qb cfg ws 260 [t.enc,.bool ls] h=some (.bool (markP t ls),h):=by
 have hl:=marked_loop t ht ls h
 refine Qc rfl rfl ?_
 unfold markP
 cases q1 : mono false t.items <;> rw [q1] at hl
 ·simp at hl
  simp [F260,c260,hl]
 ·generalize lastE false t.items=la at hl
  cases q2 : t.items with
  | nil=>
   simp [q2] at hl
   cases la <;> cases q3 : t.ext <;> simp [q3] at hl <;> cases ls <;> simp [F260,c260,hl,q2,q3,headX]
  | cons x r=>
   simp [q2] at hl
   cases la <;> cases q3 : t.ext <;> simp [q3] at hl <;> cases ls <;> simp [F260,c260,hl,q2,q3,headX]
theorem shaped_loop (t : Ty) (ht : t.wid<=1048576) (h : Avm.H) : ∃ g,Qa (evC (Qb cfg) Qa cfg.pol h.length h.length c218L0) [1,7] [(1,.ptr h.length 0 8 0 0),(7,.int .i64 (0 : Nat))] (h++([.arr 0 8 [t.enc]]++[]))=some (if (t.items).all (fun x=>XI x && (!decide (t.kind=3) || x.of.same Ty.zero))=true then (.exit 1,[(1,.ptr h.length 0 8 0 0),(7,.int .i64 (t.items).length)],h++([.arr 0 8 [t.enc]]++g)) else (.ret,[(2,.bool false)],h++([.arr 0 8 [t.enc]]++g))):=by
 have hl : (t.items).length<=1048576:=Nat.le_trans t.Qe ht
 have hlp:=Qi (γ:=Avm.H) (f:=evC (Qb cfg) Qa cfg.pol h.length h.length c218L0) (keep:=[1,7]) (t.items) (fun _ _=>True)
     (fun i _=>[(1,.ptr h.length 0 8 0 0),(7,.int .i64 i)]) (fun _ g=>h++([.arr 0 8 [t.enc]]++g))
     (fun _ r o=>∃ g,o=if r.all (fun x=>XI x && (!decide (t.kind=3) || x.of.same Ty.zero))=true then (.exit 1,[(1,.ptr h.length 0 8 0 0),(7,.int .i64 (t.items).length)],h++([.arr 0 8 [t.enc]]++g)) else (.ret,[(2,.bool false)],h++([.arr 0 8 [t.enc]]++g))) ?_ ?_ [] trivial
 ·obtain ⟨o,h1,g,h2⟩:=hlp
  exact ⟨g,h2 ▸ h1⟩
 ·intro i x r g hd hi hx _ K hK
  have hw:=Qd (n:=i + 1) (by omega)
  simp at hw
  have hm : x ∈ (t.items):=by rw [← hx]; exact List.getElem_mem hi
  have hb:=rbare_ok x.of
  simp at hb
  cases hv : (fun x=>XI x && (!decide (t.kind=3) || x.of.same Ty.zero)) x
  ·refine ⟨_,?_,(g++[.arr 0 12 [x.enc]]),by simp only [List.all_cons,hv,Bool.false_and,Bool.false_eq_true,if_false]; rfl⟩
   cases q1 : x.opt <;> cases q2 : x.Qv.isEmpty <;> by_cases q3 : t.kind=3 <;> cases q4 : x.of.same Ty.zero <;> simp [XI,q1,q2,q3,q4] at hv <;> simp [c218L0,hi,hx,hb,QP,q1,q2,q3,q4]
  ·obtain ⟨o,h4,g2,h5⟩:=hK (g++[.arr 0 12 [x.enc]]) trivial
   refine ⟨o,?_,g2,by simp only [List.all_cons,hv,Bool.true_and]; exact h5⟩
   simp at h4
   cases q1 : x.opt <;> cases q2 : x.Qv.isEmpty <;> by_cases q3 : t.kind=3 <;> cases q4 : x.of.same Ty.zero <;> simp [XI,q1,q2,q3,q4] at hv <;> (try simp only [q3] at h4) <;> (try simp only [q1] at h4) <;> simp [c218L0,hi,hx,hb,QP,q1,q2,q3,q4,hw,h4]
 ·intro g K _
  refine ⟨_,?_,g,by simp only [List.all_nil,if_true]; rfl⟩
  simp [c218L0]
theorem shaped_0 (t : Ty) (ht : t.wid<=1048576) (q : t.kind=0) (ws : Nat) (h : Avm.H) : Qb cfg ws 218 [t.enc] h=some (.bool (t.n0 && (t.i0 && (t.k0 && (t.l0 && (t.h0 && (!t.free && !t.ext)))))),h):=by
 have hwi:=t.Qe
 have beq1 : (((t.kids.length : Nat) : Int) == 1)=decide (t.kids.length=1):=QY _ 1
 have hrn : ∀ a b : Int,XM t a b=XM t a b:=fun _ _=>rfl
 refine Qc rfl rfl ?_
 simp [F218,c218,q,QP,decE,beq1,Ty.n0,Ty.l0,Ty.h0,Ty.i0,Ty.k0,eqS]
 first | done | rfl | (simp only [Bool.and_assoc]) | (simp only [Bool.and_assoc]; rfl) | (simp only [Bool.and_assoc]; congr <;> exact Subsingleton.elim _ _)
theorem shaped_1 (t : Ty) (ht : t.wid<=1048576) (q : t.kind=1) (ws : Nat) (h : Avm.H) : Qb cfg ws 218 [t.enc] h=some (.bool (t.n0 && (t.i0 && (t.k0 && (t.l0 && (t.h0 && (!t.free && !t.ext)))))),h):=by
 have hwi:=t.Qe
 have beq1 : (((t.kids.length : Nat) : Int) == 1)=decide (t.kids.length=1):=QY _ 1
 have hrn : ∀ a b : Int,XM t a b=XM t a b:=fun _ _=>rfl
 refine Qc rfl rfl ?_
 simp [F218,c218,q,QP,decE,beq1,Ty.n0,Ty.l0,Ty.h0,Ty.i0,Ty.k0,eqS]
 first | done | rfl | (simp only [Bool.and_assoc]) | (simp only [Bool.and_assoc]; rfl) | (simp only [Bool.and_assoc]; congr <;> exact Subsingleton.elim _ _)
theorem shaped_6 (t : Ty) (ht : t.wid<=1048576) (q : t.kind=6) (ws : Nat) (h : Avm.H) : Qb cfg ws 218 [t.enc] h=some (.bool (t.n0 && (t.i0 && (t.k0 && (t.l0 && (t.h0 && (!t.free && !t.ext)))))),h):=by
 have hwi:=t.Qe
 have beq1 : (((t.kids.length : Nat) : Int) == 1)=decide (t.kids.length=1):=QY _ 1
 have hrn : ∀ a b : Int,XM t a b=XM t a b:=fun _ _=>rfl
 refine Qc rfl rfl ?_
 simp [F218,c218,q,QP,decE,beq1,Ty.n0,Ty.l0,Ty.h0,Ty.i0,Ty.k0,eqS]
 first | done | rfl | (simp only [Bool.and_assoc]) | (simp only [Bool.and_assoc]; rfl) | (simp only [Bool.and_assoc]; congr <;> exact Subsingleton.elim _ _)
theorem shaped_11 (t : Ty) (ht : t.wid<=1048576) (q : t.kind=11) (ws : Nat) (h : Avm.H) : Qb cfg ws 218 [t.enc] h=some (.bool (t.n0 && (t.i0 && (t.k0 && (t.l0 && (t.h0 && (!t.free && !t.ext)))))),h):=by
 have hwi:=t.Qe
 have beq1 : (((t.kids.length : Nat) : Int) == 1)=decide (t.kids.length=1):=QY _ 1
 have hrn : ∀ a b : Int,XM t a b=XM t a b:=fun _ _=>rfl
 refine Qc rfl rfl ?_
 simp [F218,c218,q,QP,decE,beq1,Ty.n0,Ty.l0,Ty.h0,Ty.i0,Ty.k0,eqS]
 first | done | rfl | (simp only [Bool.and_assoc]) | (simp only [Bool.and_assoc]; rfl) | (simp only [Bool.and_assoc]; congr <;> exact Subsingleton.elim _ _)
theorem shaped_2 (t : Ty) (ht : t.wid<=1048576) (q : t.kind=2) (ws : Nat) (h : Avm.H) : Qb cfg ws 218 [t.enc] h=some (.bool (t.n0 && (t.i0 && (t.k0 && XM t (-1000000000000000) 1000000000000000))),h):=by
 have hwi:=t.Qe
 have beq1 : (((t.kids.length : Nat) : Int) == 1)=decide (t.kids.length=1):=QY _ 1
 have hrn : ∀ a b : Int,XM t a b=XM t a b:=fun _ _=>rfl
 have e0:=rranged_ok t (-1000000000000000) 1000000000000000
 simp [q] at e0
 refine Qc rfl rfl ?_
 simp [F218,c218,q,e0,QP,decE,beq1,Ty.n0,Ty.l0,Ty.h0,Ty.i0,Ty.k0,eqS]
 first | done | rfl | (simp only [Bool.and_assoc]) | (simp only [Bool.and_assoc]; rfl) | (simp only [Bool.and_assoc]; congr <;> exact Subsingleton.elim _ _)
theorem shaped_4 (t : Ty) (ht : t.wid<=1048576) (q : t.kind=4) (ws : Nat) (h : Avm.H) : Qb cfg ws 218 [t.enc] h=some (.bool (t.n0 && (t.i0 && (t.k0 && XM t 0 4000))),h):=by
 have hwi:=t.Qe
 have beq1 : (((t.kids.length : Nat) : Int) == 1)=decide (t.kids.length=1):=QY _ 1
 have hrn : ∀ a b : Int,XM t a b=XM t a b:=fun _ _=>rfl
 have e0:=rranged_ok t 0 4000
 have el:=longest_ok 4
 simp [longest] at el
 simp [q] at e0
 refine Qc rfl rfl ?_
 simp [F218,c218,q,e0,el,QP,decE,beq1,Ty.n0,Ty.l0,Ty.h0,Ty.i0,Ty.k0,eqS]
 first | done | rfl | (simp only [Bool.and_assoc]) | (simp only [Bool.and_assoc]; rfl) | (simp only [Bool.and_assoc]; congr <;> exact Subsingleton.elim _ _)
theorem shaped_5 (t : Ty) (ht : t.wid<=1048576) (q : t.kind=5) (ws : Nat) (h : Avm.H) : Qb cfg ws 218 [t.enc] h=some (.bool (t.n0 && (t.i0 && (t.k0 && XM t 0 32000))),h):=by
 have hwi:=t.Qe
 have beq1 : (((t.kids.length : Nat) : Int) == 1)=decide (t.kids.length=1):=QY _ 1
 have hrn : ∀ a b : Int,XM t a b=XM t a b:=fun _ _=>rfl
 have e0:=rranged_ok t 0 32000
 have el:=longest_ok 5
 simp [longest] at el
 simp [q] at e0
 refine Qc rfl rfl ?_
 simp [F218,c218,q,e0,el,QP,decE,beq1,Ty.n0,Ty.l0,Ty.h0,Ty.i0,Ty.k0,eqS]
 first | done | rfl | (simp only [Bool.and_assoc]) | (simp only [Bool.and_assoc]; rfl) | (simp only [Bool.and_assoc]; congr <;> exact Subsingleton.elim _ _)
theorem shaped_7 (t : Ty) (ht : t.wid<=1048576) (q : t.kind=7) (ws : Nat) (h : Avm.H) : Qb cfg ws 218 [t.enc] h=some (.bool (t.n0 && (t.i0 && (decide (t.kids.length=1) && XM t 0 200))),h):=by
 have hwi:=t.Qe
 have beq1 : (((t.kids.length : Nat) : Int) == 1)=decide (t.kids.length=1):=QY _ 1
 have hrn : ∀ a b : Int,XM t a b=XM t a b:=fun _ _=>rfl
 have e0:=rranged_ok t 0 200
 simp [q] at e0
 refine Qc rfl rfl ?_
 simp [F218,c218,q,e0,QP,decE,beq1,Ty.n0,Ty.l0,Ty.h0,Ty.i0,Ty.k0,eqS]
 first | done | rfl | (simp only [Bool.and_assoc]) | (simp only [Bool.and_assoc]; rfl) | (simp only [Bool.and_assoc]; congr <;> exact Subsingleton.elim _ _)
theorem shaped_10 (t : Ty) (ht : t.wid<=1048576) (q : t.kind=10) (ws : Nat) (h : Avm.H) : Qb cfg ws 218 [t.enc] h=some (.bool (t.l0 && (t.h0 && (!t.free && (!t.ext && t.i0)))),h):=by
 have hwi:=t.Qe
 have beq1 : (((t.kids.length : Nat) : Int) == 1)=decide (t.kids.length=1):=QY _ 1
 have hrn : ∀ a b : Int,XM t a b=XM t a b:=fun _ _=>rfl
 refine Qc rfl rfl ?_
 simp [F218,c218,q,QP,decE,beq1,Ty.n0,Ty.l0,Ty.h0,Ty.i0,Ty.k0,eqS]
 first | done | rfl | (simp only [Bool.and_assoc]) | (simp only [Bool.and_assoc]; rfl) | (simp only [Bool.and_assoc]; congr <;> exact Subsingleton.elim _ _)
theorem shaped_3 (t : Ty) (ht : t.wid<=1048576) (q : t.kind=3) (ws : Nat) (h : Avm.H) : Qb cfg ws 218 [t.enc] h=some (.bool (t.n0 && (t.k0 && (t.l0 && (t.h0 && (!t.free && (markP t true && t.items.all (fun x=>XI x && (!decide (t.kind=3) || x.of.same Ty.zero)))))))),h):=by
 have hwi:=t.Qe
 have beq1 : (((t.kids.length : Nat) : Int) == 1)=decide (t.kids.length=1):=QY _ 1
 have hrn : ∀ a b : Int,XM t a b=XM t a b:=fun _ _=>rfl
 have e0:=marked_ok t ht true
 simp [q] at e0
 obtain ⟨g,hl⟩:=shaped_loop t ht h
 refine Qc rfl rfl ?_
 rw [show t.k0 = !decide (0 < t.kids.length) by rw [QP,Bool.not_not]; rfl]
 cases hn : t.n0
 ·simp [Ty.n0,eqS] at hn
  simp [F218,c218,q,QP,decE,beq1,Ty.n0,Ty.l0,Ty.h0,Ty.i0,Ty.k0,eqS,hn]
 ·simp [Ty.n0,eqS] at hn
  by_cases hk : 0 < t.kids.length
  ·simp [F218,c218,q,QP,decE,beq1,Ty.n0,Ty.l0,Ty.h0,Ty.i0,Ty.k0,eqS,hn,hk]
  ·by_cases h1 : t.lo=0
   ·by_cases h2 : t.hi=0
    ·cases h3 : t.free
     ·cases h4 : markP t true
      ·rw [h4] at e0
       simp [h1,h2,h3] at e0
       simp [F218,c218,q,QP,decE,beq1,Ty.n0,Ty.l0,Ty.h0,Ty.i0,Ty.k0,eqS,hn,hk,h1,h2,h3,e0]
      ·rw [h4] at e0
       simp [h1,h2,h3] at e0
       cases qa : t.items.all (fun x=>XI x && (!decide (t.kind=3) || x.of.same Ty.zero)) <;> rw [qa] at hl <;> simp [q,h1,h2,h3] at hl <;> simp [F218,c218,q,QP,decE,beq1,Ty.n0,Ty.l0,Ty.h0,Ty.i0,Ty.k0,eqS,hn,hk,h1,h2,h3,e0,hl]
     ·simp [F218,c218,q,QP,decE,beq1,Ty.n0,Ty.l0,Ty.h0,Ty.i0,Ty.k0,eqS,hn,hk,h1,h2,h3]
    ·simp [F218,c218,q,QP,decE,beq1,Ty.n0,Ty.l0,Ty.h0,Ty.i0,Ty.k0,eqS,hn,hk,h1,h2]
   ·simp [F218,c218,q,QP,decE,beq1,Ty.n0,Ty.l0,Ty.h0,Ty.i0,Ty.k0,eqS,hn,hk,h1]
theorem shaped_9 (t : Ty) (ht : t.wid<=1048576) (q : t.kind=9) (ws : Nat) (h : Avm.H) : Qb cfg ws 218 [t.enc] h=some (.bool (t.n0 && (t.k0 && (t.l0 && (t.h0 && (!t.free && (markP t true && t.items.all (fun x=>XI x && (!decide (t.kind=3) || x.of.same Ty.zero)))))))),h):=by
 have hwi:=t.Qe
 have beq1 : (((t.kids.length : Nat) : Int) == 1)=decide (t.kids.length=1):=QY _ 1
 have hrn : ∀ a b : Int,XM t a b=XM t a b:=fun _ _=>rfl
 have e0:=marked_ok t ht true
 simp [q] at e0
 obtain ⟨g,hl⟩:=shaped_loop t ht h
 refine Qc rfl rfl ?_
 rw [show t.k0 = !decide (0 < t.kids.length) by rw [QP,Bool.not_not]; rfl]
 cases hn : t.n0
 ·simp [Ty.n0,eqS] at hn
  simp [F218,c218,q,QP,decE,beq1,Ty.n0,Ty.l0,Ty.h0,Ty.i0,Ty.k0,eqS,hn]
 ·simp [Ty.n0,eqS] at hn
  by_cases hk : 0 < t.kids.length
  ·simp [F218,c218,q,QP,decE,beq1,Ty.n0,Ty.l0,Ty.h0,Ty.i0,Ty.k0,eqS,hn,hk]
  ·by_cases h1 : t.lo=0
   ·by_cases h2 : t.hi=0
    ·cases h3 : t.free
     ·cases h4 : markP t true
      ·rw [h4] at e0
       simp [h1,h2,h3] at e0
       simp [F218,c218,q,QP,decE,beq1,Ty.n0,Ty.l0,Ty.h0,Ty.i0,Ty.k0,eqS,hn,hk,h1,h2,h3,e0]
      ·rw [h4] at e0
       simp [h1,h2,h3] at e0
       cases qa : t.items.all (fun x=>XI x && (!decide (t.kind=3) || x.of.same Ty.zero)) <;> rw [qa] at hl <;> simp [q,h1,h2,h3] at hl <;> simp [F218,c218,q,QP,decE,beq1,Ty.n0,Ty.l0,Ty.h0,Ty.i0,Ty.k0,eqS,hn,hk,h1,h2,h3,e0,hl]
     ·simp [F218,c218,q,QP,decE,beq1,Ty.n0,Ty.l0,Ty.h0,Ty.i0,Ty.k0,eqS,hn,hk,h1,h2,h3]
    ·simp [F218,c218,q,QP,decE,beq1,Ty.n0,Ty.l0,Ty.h0,Ty.i0,Ty.k0,eqS,hn,hk,h1,h2]
   ·simp [F218,c218,q,QP,decE,beq1,Ty.n0,Ty.l0,Ty.h0,Ty.i0,Ty.k0,eqS,hn,hk,h1]
theorem shaped_8 (t : Ty) (ht : t.wid<=1048576) (q : t.kind=8) (ws : Nat) (h : Avm.H) : Qb cfg ws 218 [t.enc] h=some (.bool (t.n0 && (t.k0 && (t.l0 && (t.h0 && (!t.free && markP t false))))),h):=by
 have hwi:=t.Qe
 have beq1 : (((t.kids.length : Nat) : Int) == 1)=decide (t.kids.length=1):=QY _ 1
 have hrn : ∀ a b : Int,XM t a b=XM t a b:=fun _ _=>rfl
 have e0:=marked_ok t ht false
 simp [q] at e0
 refine Qc rfl rfl ?_
 simp [F218,c218,q,e0,QP,decE,beq1,Ty.n0,Ty.l0,Ty.h0,Ty.i0,Ty.k0,eqS]
 first | done | rfl | (simp only [Bool.and_assoc]) | (simp only [Bool.and_assoc]; rfl) | (simp only [Bool.and_assoc]; congr <;> exact Subsingleton.elim _ _)
end Go.Proofs.YtflbneepngjglaaGreatDoor
namespace Go.Proofs.YtflbneepngjglaaGreatDoor
open Go Go.Avm
theorem mono_true : ∀ l : List It,mono true l=l.all It.extra
 | []=>rfl
 | x :: r=>by
  rw [mono,List.all_cons]
  cases h : x.extra
  ·rfl
  ·simp [mono_true r]
theorem last_all : ∀ (l : List It),l ≠ []->l.all It.extra=true->∀ e,lastE e l=true
 | [],h,_,_=>absurd rfl h
 | [x],_,h,e=>by simpa [lastE] using h
 | x :: y :: r,_,h,e=>by
  rw [List.all_cons,Bool.and_eq_true] at h
  rw [lastE]
  exact last_all (y :: r) (by simp) h.2 _
theorem mark_none : ∀ (l : List It),l.findIdx? It.extra=none->mono false l=true/\lastE false l=false/\headX l = !l.isEmpty
 | [],_=>⟨rfl,rfl,rfl⟩
 | x :: r,h=>by
  rw [List.findIdx?_cons] at h
  cases hx : x.extra
  ·rw [hx] at h
   simp at h
   have hr : r.findIdx? It.extra=none:=by rw [List.findIdx?_eq_none_iff]; exact h
   obtain ⟨h1,h2,h3⟩:=mark_none r hr
   refine ⟨by rw [mono,hx]; simpa using h1,by rw [lastE,hx]; exact h2,by simp [headX,hx]⟩
  ·rw [hx] at h; simp at h
theorem mark_some : ∀ (l : List It) (j : Nat),l.findIdx? It.extra=some j->mono false l=(l.drop j).all It.extra/\((l.drop j).all It.extra=true->lastE false l=true)/\headX l=decide (0 < j)
 | [],j,h=>by simp at h
 | x :: r,j,h=>by
  rw [List.findIdx?_cons] at h
  cases hx : x.extra
  ·rw [hx] at h
   cases hr : r.findIdx? It.extra with
   | none=>rw [hr] at h; simp at h
   | some k=>
    rw [hr] at h
    simp at h
    subst h
    obtain ⟨h1,h2,h3⟩:=mark_some r k hr
    refine ⟨by rw [mono,hx]; simpa using h1,fun h=>?_,by simp [headX,hx]⟩
    rw [lastE,hx]
    exact h2 (by simpa using h)
  ·rw [hx] at h
   simp at h
   subst h
   refine ⟨by rw [mono]; simp [mono_true,hx],fun h=>last_all (x :: r) (by simp) (by simpa using h) false,by simp [headX,hx]⟩
theorem mark_it1 (t : Ty) : markP t true=itP t 1:=by
 unfold markP itP
 cases h : t.items.findIdx? It.extra with
 | none=>
  obtain ⟨h1,h2,h3⟩:=mark_none _ h
  rw [h1,h2,h3]
  cases t.items with
  | nil=>rfl
  | cons x r=>
   have : (1 : Int)<=(r.length : Int) + 1:=by omega
   simp [this]
 | some j=>
  obtain ⟨h1,h2,h3⟩:=mark_some _ j h
  dsimp only
  rw [h1,h3]
  have : decide ((1 : Int)<=(j : Int))=decide (0 < j):=by congr 1; apply propext; omega
  rw [this]
  cases q : (t.items.drop j).all It.extra
  ·simp
  ·rw [h2 q]; cases t.ext <;> simp
theorem mark_it0 (t : Ty) : markP t false=itP t 0:=by
 unfold markP itP
 cases h : t.items.findIdx? It.extra with
 | none=>
  obtain ⟨h1,h2,h3⟩:=mark_none _ h
  rw [h1,h2]
  simp
 | some j=>
  obtain ⟨h1,h2,h3⟩:=mark_some _ j h
  dsimp only
  rw [h1]
  cases q : (t.items.drop j).all It.extra
  ·simp
  ·rw [h2 q]; cases t.ext <;> simp
theorem all_congr {α : Type} {p q : α->Bool} (l : List α) (h : ∀ x,p x=q x) : l.all p=l.all q:=by congr 1; funext x; exact h x
theorem shaped_ok (t : Ty) (ht : t.wid<=1048576) (ws : Nat) (h : Avm.H) : Qb cfg ws 218 [t.enc] h=some (.bool (Qn t),h):=by
 unfold Qn
 split
 ·rename_i q; rw [shaped_0 t ht q ws h]; congr 3; first | done | (unfold Ty.onone; cases t.n0 <;> cases t.i0 <;> cases t.k0 <;> cases t.l0 <;> cases t.h0 <;> cases t.free <;> cases t.ext <;> rfl)
 split
 ·rename_i q; rw [shaped_1 t ht q ws h]; congr 3; first | done | (unfold Ty.onone; cases t.n0 <;> cases t.i0 <;> cases t.k0 <;> cases t.l0 <;> cases t.h0 <;> cases t.free <;> cases t.ext <;> rfl)
 split
 ·rename_i q; rw [shaped_6 t ht q ws h]; congr 3; first | done | (unfold Ty.onone; cases t.n0 <;> cases t.i0 <;> cases t.k0 <;> cases t.l0 <;> cases t.h0 <;> cases t.free <;> cases t.ext <;> rfl)
 split
 ·rename_i q; rw [shaped_11 t ht q ws h]; congr 3; first | done | (unfold Ty.onone; cases t.n0 <;> cases t.i0 <;> cases t.k0 <;> cases t.l0 <;> cases t.h0 <;> cases t.free <;> cases t.ext <;> rfl)
 split
 ·rename_i q; rw [shaped_2 t ht q ws h]; congr 3; first | done | (unfold Ty.oLFE; cases t.n0 <;> cases t.i0 <;> cases t.k0 <;> rfl)
 split
 ·rename_i q; rw [shaped_3 t ht q ws h]; congr 3; first | done | (rw [mark_it1,all_congr (q:=bareI) t.items (fun x=>by rw [q]; unfold XI bareI; cases x.opt <;> cases x.Qv.isEmpty <;> cases x.of.same Ty.zero <;> rfl)]; unfold Ty.oEI; cases t.n0 <;> cases t.k0 <;> cases t.l0 <;> cases t.h0 <;> cases t.free <;> cases itP t 1 <;> rfl)
 split
 ·rename_i q; rw [shaped_4 t ht q ws h]; congr 3; first | done | (unfold Ty.oLFE; cases t.n0 <;> cases t.i0 <;> cases t.k0 <;> rfl)
 split
 ·rename_i q; rw [shaped_5 t ht q ws h]; congr 3; first | done | (unfold Ty.oLFE; cases t.n0 <;> cases t.i0 <;> cases t.k0 <;> rfl)
 split
 ·rename_i q; rw [shaped_7 t ht q ws h]; congr 3; first | done | (unfold Ty.oLFEK; cases t.n0 <;> cases t.i0 <;> cases decide (t.kids.length=1) <;> cases XM t 0 200 <;> rfl)
 split
 ·rename_i q; rw [shaped_8 t ht q ws h]; congr 3; first | done | (rw [mark_it0]; unfold Ty.oEI; cases t.n0 <;> cases t.k0 <;> cases t.l0 <;> cases t.h0 <;> cases t.free <;> cases itP t 0 <;> rfl)
 split
 ·rename_i q; rw [shaped_9 t ht q ws h]; congr 3; first | done | (rw [mark_it1,all_congr (q:=XI) t.items (fun x=>by rw [q]; unfold XI; cases x.opt <;> cases x.Qv.isEmpty <;> cases x.of.same Ty.zero <;> rfl)]; unfold Ty.oEI; cases t.n0 <;> cases t.k0 <;> cases t.l0 <;> cases t.h0 <;> cases t.free <;> cases itP t 1 <;> rfl)
 rename_i q0 q1 q6 q11 q2 q3 q4 q5 q7 q8 q9
 by_cases q : t.kind=10
 ·rw [decide_eq_true q,Bool.true_and,shaped_10 t ht q ws h]; congr 3; first | done | (unfold Ty.oNK; cases t.i0 <;> cases t.l0 <;> cases t.h0 <;> cases t.free <;> cases t.ext <;> rfl)
 ·refine Qc rfl rfl ?_
  simp [F218,c218,q,q0,q1,q6,q11,q2,q3,q4,q5,q7,q8,q9]
theorem formed_loop (t : Ty) (ht : t.wid<=1048576) (hb : t.nodes<=1048576) (h : Avm.H) : ∃ g,Qa (evC (Qb cfg) Qa cfg.pol h.length h.length c137L0) [3,4] [(3,.isl (t.QW.map Ty.enc)),(4,.int .i64 (0 : Nat))] (h++([.arr 0 8 [t.enc]]++[]))=some (if (t.QW).all Qn=true then (.exit 0,[(3,.isl (t.QW.map Ty.enc)),(4,.int .i64 (t.QW).length)],h++([.arr 0 8 [t.enc]]++g)) else (.ret,[(2,.bool false)],h++([.arr 0 8 [t.enc]]++g))):=by
 have hl : (t.QW).length<=1048576:=(by have:=rall_len _ t (Nat.le_refl _); omega)
 have hlp:=Qi (γ:=Avm.H) (f:=evC (Qb cfg) Qa cfg.pol h.length h.length c137L0) (keep:=[3,4]) (t.QW) (fun _ _=>True)
     (fun i _=>[(3,.isl (t.QW.map Ty.enc)),(4,.int .i64 i)]) (fun _ g=>h++([.arr 0 8 [t.enc]]++g))
     (fun _ r o=>∃ g,o=if r.all Qn=true then (.exit 0,[(3,.isl (t.QW.map Ty.enc)),(4,.int .i64 (t.QW).length)],h++([.arr 0 8 [t.enc]]++g)) else (.ret,[(2,.bool false)],h++([.arr 0 8 [t.enc]]++g))) ?_ ?_ [] trivial
 ·obtain ⟨o,h1,g,h2⟩:=hlp
  exact ⟨g,h2 ▸ h1⟩
 ·intro i x r g hd hi hx _ K hK
  have hw:=Qd (n:=i + 1) (by omega)
  simp at hw
  have hm : x ∈ (t.QW):=by rw [← hx]; exact List.getElem_mem hi
  have hkn:=shaped_ok x (Nat.le_trans (rall_wid _ t (Nat.le_refl _) x hm).1 ht)
  cases hv : Qn x
  ·refine ⟨_,?_,g,by simp only [List.all_cons,hv,Bool.false_and,Bool.false_eq_true,if_false]; rfl⟩
   simp only [hv] at hkn
   simp at hkn
   simp [c137L0,hi,hx,hkn,]
  ·obtain ⟨o,h4,g2,h5⟩:=hK g trivial
   refine ⟨o,?_,g2,by simp only [List.all_cons,hv,Bool.true_and]; exact h5⟩
   simp at h4
   simp only [hv] at hkn
   simp at hkn
   simp [c137L0,hi,hx,hkn,hw,h4]
 ·intro g K _
  refine ⟨_,?_,g,by simp only [List.all_nil,if_true]; rfl⟩
  simp [c137L0]
theorem formed_ok (t : Ty) (ht : t.wid<=1048576) (hb : t.nodes<=1048576) (ws : Nat) (h : Avm.H) : Qb cfg ws 137 [t.enc] h=some (.bool (t.QE Qn),h):=by
 have h1:=rall_ok _ t (Nat.le_refl _) ht hb
 obtain ⟨g,hl⟩:=formed_loop t ht hb h
 rw [rall_all _ _ t (Nat.le_refl _)] at hl
 refine Qc rfl rfl ?_
 simp at h1
 cases q : t.QE Qn <;> rw [q] at hl <;> simp at hl <;> simp [F137,c137,h1,hl]
end Go.Proofs.YtflbneepngjglaaGreatDoor
