/- Values made full: the program. -/
import Derived.Test.YtflbneepngjglaaGreatDoorM50
set_option linter.all false
namespace Go.Proofs.YtflbneepngjglaaGreatDoor
open Go Go.Avm
def Xl (b : Ty) (v : Val) (i : Nat) (x : Val) : Option (Ty × Val):=
 if b.kind=7 then some (b.kids.headD Ty.zero,x)
 else if b.kind=9 then some ((b.items[v.int.toNat]?.map It.of).getD Ty.zero,x)
 else if b.kind=8 then
  (if x.kind=12 then (match (b.items[i]?.getD It.zero).Qv with | []=>none | d :: _=>some ((b.items[i]?.getD It.zero).of,d))
  else some ((b.items[i]?.getD It.zero).of,x))
 else none
def mapS (f : Nat->Val->Int->Option (Val × Int)) : Nat->List Val->Int->Option (List Val × Int)
 | _,[],l=>some ([],l)
 | i,x :: r,l=>match f i x l with
  | none=>none
  | some (y,l')=>match mapS f (i + 1) r l' with
   | none=>none
   | some (ys,l2)=>some (y :: ys,l2)
def leafS (n : Nat) (x : Val) (l : Int) : Option (Val × Int):=if n=0 ∨ l - 1 < 0 then none else some (x,l - 1)
def fullF (b : Ty) (v : Val) (n : Nat) (g : Ty->Val->Int->Option (Val × Int)) (i : Nat) (x : Val) (l : Int) : Option (Val × Int):=match Xl b v i x with
 | none=>leafS n x l
 | some q=>g q.1 q.2 l
def fullN (m : Md) : Nat->Ty->Val->Int->Option (Val × Int)
 | 0,_,_,_=>none
 | n + 1,t,v,l=>if l - 1 < 0 then none else match mapS (fullF ((beh m 21 t).getD Ty.zero) v n (fullN m n)) 0 v.items (l - 1) with
  | none=>none
  | some (ys,l')=>some (.mk v.kind v.int v.bytes ys,l')
def Xm (k : Int) : Ty:=.mk k ⟨#[]⟩ 0 0 false false [] []
def argF (b : Ty) (v : Val) (i : Nat) (x : Val) : Ty × Val:=(Xl b v i x).getD (Xm x.kind,x)
def filB (m : Md) (ver : Nat) (c : Int) : QJ:=.arr ver 3 [.agg [.str m.name,.isl (m.defs.map Df.enc),.int .i64 c]]
def Fills (o : Option (Val × Int)) (r : Val) (ok : Bool) (l' : Int) : Prop:=match o with
 | some q=>r=q.1/\ok=true/\l'=q.2/\0<=l'/\l'<=1048576
 | none=>ok=false
def FullAt (m : Md) (t : Ty) (v : Val) (d l : Int) (o : Option (Val × Int)) : Prop:=
 ∀ (p ver ws : Nat) (h : Avm.H),h[p]? = some (filB m ver l)->ws<=p->∃ r ok l',Qb cfg ws 43 [.ptr p ver 3 0 0,t.enc,v.enc,.int .i64 d] h=some (.tup [r.enc,.bool ok],h.set p (filB m ver l'))/\Fills o r ok l'
theorem mapS_step (f : Nat->Val->Int->Option (Val × Int)) (i : Nat) (x : Val) (r : List Val) (l : Int) : mapS f i (x :: r) l=(match f i x l with | none=>none | some q=>(mapS f (i + 1) r q.2).map fun w=>(q.1 :: w.1,w.2)):=by
 simp only [mapS]
 cases f i x l with
 | none=>rfl
 | some q=>
  dsimp only
  cases mapS f (i + 1) r q.2 with
  | none=>rfl
  | some w=>rfl
set_option maxHeartbeats 8000000 in
theorem full_loop (m : Md) (b : Ty) (hbw : b.wid<=1048576) (v : Val) (hv : v.size<=1048576) (hin : PartIn b v) (hdk : b.kind=8->∀ y ∈ b.items,∀ d r,y.Qv=d :: r->d.kind ≠ 12) (d : Int) (hd0 : 0<=d) (hd1 : d<=30) (c0 : Int) (hc0 : 0<=c0) (hc1 : c0<=1048576) (f : Nat->Val->Int->Option (Val × Int))
    (hcall : ∀ i x,v.items[i]? = some x->∀ c,0<=c->c<=1048576->FullAt m (argF b v i x).1 (argF b v i x).2 (d + 1) c (f i x c)) (p ver ws : Nat) (h : Avm.H) (hp : p < h.length) (hws : ws<=p) (A : AV) :
    ∃ o,Qa (evC (Qb cfg) Qa cfg.pol h.length ws c43L0) [0,3,6,8,10,47,48,49] [(0,.ptr p ver 3 0 0),(3,.int .i64 d),(6,.ptr (h.length + 1) 0 4 0 0),(8,.ptr (h.length + 2) 0 4 0 0),(10,.ptr (h.length + 3) 0 8 0 0),(47,.osl (h.length + 4) 0 4 0 v.items.length),(48,.int .i64 v.items.length),(49,.int .i64 (0 : Nat))]
     (h.set p (filB m ver c0)++([.arr 0 8 [A],.arr 0 4 [.agg [.int .i64 v.kind,.int .i64 v.int,.str v.bytes,.osl (h.length + 4) 0 4 0 v.items.length]],.arr 0 4 [.agg [.int .i64 0,.int .i64 0,.str ⟨#[]⟩,.isl []]],.arr 0 8 [b.enc],.arr 0 4 (v.items.map Val.enc)]++[]))=some o /\
     ((∃ (ys : List Val) (c : Int) (g : Avm.H),mapS f 0 v.items c0=some (ys,c)/\ys.length=v.items.length/\0<=c/\c<=1048576/\o=(.exit 0,[(0,.ptr p ver 3 0 0),(3,.int .i64 d),(6,.ptr (h.length + 1) 0 4 0 0),(8,.ptr (h.length + 2) 0 4 0 0),(10,.ptr (h.length + 3) 0 8 0 0),(47,.osl (h.length + 4) 0 4 0 v.items.length),(48,.int .i64 v.items.length),(49,.int .i64 v.items.length)],
      h.set p (filB m ver c)++([.arr 0 8 [A],.arr 0 4 [.agg [.int .i64 v.kind,.int .i64 v.int,.str v.bytes,.osl (h.length + 4) 0 4 0 v.items.length]],.arr 0 4 [.agg [.int .i64 0,.int .i64 0,.str ⟨#[]⟩,.isl []]],.arr 0 8 [b.enc],.arr 0 4 (ys.map Val.enc)]++g))) ∨
     (∃ (ys : List Val) (c : Int) (g : Avm.H),mapS f 0 v.items c0=none/\ys.length=v.items.length/\o=(.ret,[(8,.ptr (h.length + 2) 0 4 0 0),(9,.bool false)],
      h.set p (filB m ver c)++([.arr 0 8 [A],.arr 0 4 [.agg [.int .i64 v.kind,.int .i64 v.int,.str v.bytes,.osl (h.length + 4) 0 4 0 v.items.length]],.arr 0 4 [.agg [.int .i64 v.kind,.int .i64 v.int,.str v.bytes,.osl (h.length + 4) 0 4 0 v.items.length]],.arr 0 8 [b.enc],.arr 0 4 (ys.map Val.enc)]++g)))):=by
 have hse:=v.size_eq
 have hlen:=Val.QX v.items
 refine Qi (γ:=List Val × Int × Avm.H) (f:=evC (Qb cfg) Qa cfg.pol h.length ws c43L0) (keep:=[0,3,6,8,10,47,48,49]) v.items
  (fun i c=>c.1.length=i/\0<=c.2.1/\c.2.1<=1048576/\mapS f 0 v.items c0=(mapS f i (v.items.drop i) c.2.1).map fun w=>(c.1++w.1,w.2))
  (fun i _=>[(0,.ptr p ver 3 0 0),(3,.int .i64 d),(6,.ptr (h.length + 1) 0 4 0 0),(8,.ptr (h.length + 2) 0 4 0 0),(10,.ptr (h.length + 3) 0 8 0 0),(47,.osl (h.length + 4) 0 4 0 v.items.length),(48,.int .i64 v.items.length),(49,.int .i64 i)])
  (fun i c=>h.set p (filB m ver c.2.1)++([.arr 0 8 [A],.arr 0 4 [.agg [.int .i64 v.kind,.int .i64 v.int,.str v.bytes,.osl (h.length + 4) 0 4 0 v.items.length]],.arr 0 4 [.agg [.int .i64 0,.int .i64 0,.str ⟨#[]⟩,.isl []]],.arr 0 8 [b.enc],.arr 0 4 ((c.1++v.items.drop i).map Val.enc)]++c.2.2))
  (fun _ _ o=>(∃ (ys : List Val) (c : Int) (g : Avm.H),mapS f 0 v.items c0=some (ys,c)/\ys.length=v.items.length/\0<=c/\c<=1048576/\o=(.exit 0,[(0,.ptr p ver 3 0 0),(3,.int .i64 d),(6,.ptr (h.length + 1) 0 4 0 0),(8,.ptr (h.length + 2) 0 4 0 0),(10,.ptr (h.length + 3) 0 8 0 0),(47,.osl (h.length + 4) 0 4 0 v.items.length),(48,.int .i64 v.items.length),(49,.int .i64 v.items.length)],
      h.set p (filB m ver c)++([.arr 0 8 [A],.arr 0 4 [.agg [.int .i64 v.kind,.int .i64 v.int,.str v.bytes,.osl (h.length + 4) 0 4 0 v.items.length]],.arr 0 4 [.agg [.int .i64 0,.int .i64 0,.str ⟨#[]⟩,.isl []]],.arr 0 8 [b.enc],.arr 0 4 (ys.map Val.enc)]++g))) ∨
   (∃ (ys : List Val) (c : Int) (g : Avm.H),mapS f 0 v.items c0=none/\ys.length=v.items.length/\o=(.ret,[(8,.ptr (h.length + 2) 0 4 0 0),(9,.bool false)],
    h.set p (filB m ver c)++([.arr 0 8 [A],.arr 0 4 [.agg [.int .i64 v.kind,.int .i64 v.int,.str v.bytes,.osl (h.length + 4) 0 4 0 v.items.length]],.arr 0 4 [.agg [.int .i64 v.kind,.int .i64 v.int,.str v.bytes,.osl (h.length + 4) 0 4 0 v.items.length]],.arr 0 8 [b.enc],.arr 0 4 (ys.map Val.enc)]++g)))) ?_ ?_ ([],c0,[]) ⟨rfl,hc0,hc1,by simp⟩
 ·intro i x r gh hd hi hx hI K hK
  obtain ⟨ys,c,g⟩:=gh
  obtain ⟨hI1,hI2,hI3,hI4⟩:=hI
  dsimp only at hI1 hI2 hI3 hI4
  have hw:=Qd (n:=i + 1) (by omega)
  simp at hw
  have hwd : IntKind.wrap .i64 (d + 1)=d + 1:=XC (by omega) (by omega)
  have hgx : v.items[i]? = some x:=by rw [List.getElem?_eq_getElem hi,hx]
  rw [hd,mapS_step] at hI4
  have hrl : r=v.items.drop (i + 1):=by
   have:=List.drop_eq_getElem_cons hi
   rw [hd] at this
   injection this
  have hbx : ∀ (c : Int) (X : Avm.H),((h.set p (filB m ver c))++X)[p]? = some (filB m ver c):=fun c X=>by rw [get_app (by simpa using hp),List.getElem?_set_self hp]
  have hbs : ∀ (c d : Int) (X : Avm.H),((h.set p (filB m ver c))++X).set p (filB m ver d)=(h.set p (filB m ver d))++X:=fun c d X=>by rw [set_app (by simpa using hp),List.set_set]
  have hwn : ∀ n,ws<=h.length + n:=fun n=>by omega
  have hw0 : ws<=h.length:=by omega
  have hpne : ∀ k,¬ p=h.length + k:=fun k=>by omega
  have hpne0 : ¬ p=h.length:=by omega
  obtain ⟨y,ok,l',hca,hcb⟩:=hcall i x hgx c hI2 hI3 p ver ws ((h.set p (filB m ver c))++([.arr 0 8 [A],.arr 0 4 [.agg [.int .i64 v.kind,.int .i64 v.int,.str v.bytes,.osl (h.length + 4) 0 4 0 v.items.length]],.arr 0 4 [.agg [.int .i64 0,.int .i64 0,.str ⟨#[]⟩,.isl []]],.arr 0 8 [b.enc],.arr 0 4 ((ys++v.items.drop i).map Val.enc)]++(g++[.arr 0 4 [(argF b v i x).2.enc],.arr 0 8 [(argF b v i x).1.enc]]))) (hbx c _) hws
  rw [hbs] at hca
  have hg : ((ys++v.items.drop i).map Val.enc)[i]? = some x.enc:=by
   rw [List.getElem?_map,List.getElem?_append_right (by omega),hI1,Nat.sub_self,hd]; rfl
  have hel : ((ys++v.items.drop i).map Val.enc).length=v.items.length:=by simp; omega
  have hs : ((ys++v.items.drop i).map Val.enc).set i y.enc=(ys++[y]++v.items.drop (i + 1)).map Val.enc:=by
   rw [hd,List.map_append,List.set_append_right _ _ (by simp; omega),List.length_map,hI1,Nat.sub_self,List.map_cons,List.set_cons_zero,hrl]
   simp
  have step : ∃ K',K'=K:=⟨K,rfl⟩
  have fin : ∃ o,(if ok=true then K [(0,.ptr p ver 3 0 0),(3,.int .i64 d),(6,.ptr (h.length + 1) 0 4 0 0),(8,.ptr (h.length + 2) 0 4 0 0),(10,.ptr (h.length + 3) 0 8 0 0),(47,.osl (h.length + 4) 0 4 0 v.items.length),(48,.int .i64 v.items.length),(49,.int .i64 (i + 1 : Nat))]
        (h.set p (filB m ver l')++([.arr 0 8 [A],.arr 0 4 [.agg [.int .i64 v.kind,.int .i64 v.int,.str v.bytes,.osl (h.length + 4) 0 4 0 v.items.length]],.arr 0 4 [.agg [.int .i64 0,.int .i64 0,.str ⟨#[]⟩,.isl []]],.arr 0 8 [b.enc],.arr 0 4 (((ys++v.items.drop i).map Val.enc).set i y.enc)]++(g++[.arr 0 4 [(argF b v i x).2.enc],.arr 0 8 [(argF b v i x).1.enc]])))
      else some (.ret,[(8,.ptr (h.length + 2) 0 4 0 0),(9,.bool false)],
       h.set p (filB m ver l')++([.arr 0 8 [A],.arr 0 4 [.agg [.int .i64 v.kind,.int .i64 v.int,.str v.bytes,.osl (h.length + 4) 0 4 0 v.items.length]],.arr 0 4 [.agg [.int .i64 v.kind,.int .i64 v.int,.str v.bytes,.osl (h.length + 4) 0 4 0 v.items.length]],.arr 0 8 [b.enc],.arr 0 4 (((ys++v.items.drop i).map Val.enc).set i y.enc)]++(g++[.arr 0 4 [(argF b v i x).2.enc],.arr 0 8 [(argF b v i x).1.enc]]))))=some o/\((∃ (ys : List Val) (c : Int) (g : Avm.H),mapS f 0 v.items c0=some (ys,c)/\ys.length=v.items.length/\0<=c/\c<=1048576/\o=(.exit 0,[(0,.ptr p ver 3 0 0),(3,.int .i64 d),(6,.ptr (h.length + 1) 0 4 0 0),(8,.ptr (h.length + 2) 0 4 0 0),(10,.ptr (h.length + 3) 0 8 0 0),(47,.osl (h.length + 4) 0 4 0 v.items.length),(48,.int .i64 v.items.length),(49,.int .i64 v.items.length)],
      h.set p (filB m ver c)++([.arr 0 8 [A],.arr 0 4 [.agg [.int .i64 v.kind,.int .i64 v.int,.str v.bytes,.osl (h.length + 4) 0 4 0 v.items.length]],.arr 0 4 [.agg [.int .i64 0,.int .i64 0,.str ⟨#[]⟩,.isl []]],.arr 0 8 [b.enc],.arr 0 4 (ys.map Val.enc)]++g))) ∨
   (∃ (ys : List Val) (c : Int) (g : Avm.H),mapS f 0 v.items c0=none/\ys.length=v.items.length/\o=(.ret,[(8,.ptr (h.length + 2) 0 4 0 0),(9,.bool false)],
    h.set p (filB m ver c)++([.arr 0 8 [A],.arr 0 4 [.agg [.int .i64 v.kind,.int .i64 v.int,.str v.bytes,.osl (h.length + 4) 0 4 0 v.items.length]],.arr 0 4 [.agg [.int .i64 v.kind,.int .i64 v.int,.str v.bytes,.osl (h.length + 4) 0 4 0 v.items.length]],.arr 0 8 [b.enc],.arr 0 4 (ys.map Val.enc)]++g)))):=by
   unfold Fills at hcb
   cases hfi : f i x c with
   | none=>
    rw [hfi] at hcb hI4
    dsimp only at hcb hI4
    subst hcb
    refine ⟨_,by rw [if_neg (by simp)],.inr ⟨ys++[y]++v.items.drop (i + 1),l',g++[.arr 0 4 [(argF b v i x).2.enc],.arr 0 8 [(argF b v i x).1.enc]],by rw [hI4]; rfl,by simp; omega,by rw [hs]⟩⟩
   | some q=>
    rw [hfi] at hcb hI4
    dsimp only at hcb hI4
    obtain ⟨rfl,rfl,rfl,h1,h2⟩:=hcb
    rw [if_pos rfl,hs]
    refine hK (ys++[q.1],q.2,g++[.arr 0 4 [(argF b v i x).2.enc],.arr 0 8 [(argF b v i x).1.enc]]) ⟨by simp; omega,h1,h2,?_⟩
    dsimp only
    rw [hI4,← hrl]
    cases mapS f (i + 1) r q.2 with
    | none=>rfl
    | some w=>simp
  obtain ⟨o,h4,h5⟩:=fin
  refine ⟨o,?_,h5⟩
  clear hs h5 hK hI4 hcall hcb step
  generalize ((ys++v.items.drop i).map Val.enc)=els at hca hg hel h4 ⊢
  obtain ⟨hilx,hgi⟩:=List.getElem?_eq_some_iff.1 hg
  unfold argF at hca h4
  simp only [filB] at hca h4 hbx ⊢
  by_cases q7 : b.kind=7
  ·obtain ⟨k0,kr,hkids⟩ : ∃ k0 kr,b.kids=k0 :: kr:=by
     cases hk : b.kids with
     | nil=>exact absurd hk (hin.list q7)
     | cons a r=>exact ⟨a,r,rfl⟩
   have hpa : Xl b v i x=some (k0,x):=by unfold Xl; rw [if_pos q7,hkids]; rfl
   rw [hpa] at hca h4
   simp only [Option.getD_some,Option.getD_none] at hca h4
   simp [Xm,q7,hkids] at hca
   cases ok
   ·rw [if_neg (by simp)] at h4
    injection h4 with h4
    subst h4
    simp [c43L0,Xm,hi,hx,hgi,hel,hwd,hwn,hw0,hbx,hpne,hpne0,hws,q7,hkids,hca,hw]
   ·rw [if_pos rfl] at h4
    simp [Xm,q7,hkids] at h4
    simp [c43L0,Xm,hi,hx,hgi,hel,hwd,hwn,hw0,hbx,hpne,hpne0,hws,q7,hkids,hca,hw,h4]
  ·by_cases q9 : b.kind=9
   ·obtain ⟨hc1,hc2⟩:=hin.choice q9
    have hpa : Xl b v i x=some (b.items[v.int.toNat].of,x):=by unfold Xl; rw [if_neg q7,if_pos q9,List.getElem?_eq_getElem hc2]; rfl
    rw [hpa] at hca h4
    simp only [Option.getD_some,Option.getD_none] at hca h4
    simp [Xm,q9,hc1,hc2] at hca
    cases ok
    ·rw [if_neg (by simp)] at h4
     injection h4 with h4
     subst h4
     simp [c43L0,Xm,hi,hx,hgi,hel,hwd,hwn,hw0,hbx,hpne,hpne0,hws,q9,hc1,hc2,hca,hw]
    ·rw [if_pos rfl] at h4
     simp [Xm,q9,hc1,hc2] at h4
     simp [c43L0,Xm,hi,hx,hgi,hel,hwd,hwn,hw0,hbx,hpne,hpne0,hws,q9,hc1,hc2,hca,hw,h4]
   ·by_cases q8 : b.kind=8
    ·have hib : i < b.items.length:=by rw [← hin.record q8]; exact hi
     obtain ⟨t,ht⟩ : ∃ t,b.items[i]=t:=⟨_,rfl⟩
     have htm : t ∈ b.items:=by rw [← ht]; exact List.getElem_mem hib
     by_cases q12 : x.kind=12
     ·cases hq : t.Qv with
      | nil=>
       have hpa : Xl b v i x=none:=by unfold Xl; rw [if_neg q7,if_neg q9,if_pos q8,if_pos q12,List.getElem?_eq_getElem hib,ht]; simp [hq]
       rw [hpa] at hca h4
       simp only [Option.getD_some,Option.getD_none] at hca h4
       simp [Xm,q8,hib,ht,q12,hq] at hca
       cases ok
       ·rw [if_neg (by simp)] at h4
        injection h4 with h4
        subst h4
        simp [c43L0,Xm,hi,hx,hgi,hel,hwd,hwn,hw0,hbx,hpne,hpne0,hws,q8,hib,ht,q12,hq,hca,hw]
       ·rw [if_pos rfl] at h4
        simp [Xm,q8,hib,ht,q12,hq] at h4
        simp [c43L0,Xm,hi,hx,hgi,hel,hwd,hwn,hw0,hbx,hpne,hpne0,hws,q8,hib,ht,q12,hq,hca,hw,h4]
      | cons d1 dr=>
       have hpa : Xl b v i x=some (t.of,d1):=by unfold Xl; rw [if_neg q7,if_neg q9,if_pos q8,if_pos q12,List.getElem?_eq_getElem hib,ht]; simp [hq]
       have hk1:=hdk q8 t htm d1 dr hq
       have hgt : (0 : Int) < dr.length + 1:=by omega
       rw [hpa] at hca h4
       simp only [Option.getD_some,Option.getD_none] at hca h4
       simp [Xm,q8,hib,ht,q12,hq,hk1,hgt] at hca
       cases ok
       ·rw [if_neg (by simp)] at h4
        injection h4 with h4
        subst h4
        simp [c43L0,Xm,hi,hx,hgi,hel,hwd,hwn,hw0,hbx,hpne,hpne0,hws,q8,hib,ht,q12,hq,hk1,hgt,hca,hw]
       ·rw [if_pos rfl] at h4
        simp [Xm,q8,hib,ht,q12,hq,hk1,hgt] at h4
        simp [c43L0,Xm,hi,hx,hgi,hel,hwd,hwn,hw0,hbx,hpne,hpne0,hws,q8,hib,ht,q12,hq,hk1,hgt,hca,hw,h4]
     ·have hpa : Xl b v i x=some (t.of,x):=by unfold Xl; rw [if_neg q7,if_neg q9,if_pos q8,if_neg q12,List.getElem?_eq_getElem hib,ht]; rfl
      rw [hpa] at hca h4
      simp only [Option.getD_some,Option.getD_none] at hca h4
      simp [Xm,q8,hib,ht,q12] at hca
      cases ok
      ·rw [if_neg (by simp)] at h4
       injection h4 with h4
       subst h4
       simp [c43L0,Xm,hi,hx,hgi,hel,hwd,hwn,hw0,hbx,hpne,hpne0,hws,q8,hib,ht,q12,hca,hw]
      ·rw [if_pos rfl] at h4
       simp [Xm,q8,hib,ht,q12] at h4
       simp [c43L0,Xm,hi,hx,hgi,hel,hwd,hwn,hw0,hbx,hpne,hpne0,hws,q8,hib,ht,q12,hca,hw,h4]
    ·have hpa : Xl b v i x=none:=by unfold Xl; rw [if_neg q7,if_neg q9,if_neg q8]
     rw [hpa] at hca h4
     simp only [Option.getD_some,Option.getD_none] at hca h4
     simp [Xm,q7,q8,q9] at hca
     cases ok
     ·rw [if_neg (by simp)] at h4
      injection h4 with h4
      subst h4
      simp [c43L0,Xm,hi,hx,hgi,hel,hwd,hwn,hw0,hbx,hpne,hpne0,hws,q7,q8,q9,hca,hw]
     ·rw [if_pos rfl] at h4
      simp [Xm,q7,q8,q9] at h4
      simp [c43L0,Xm,hi,hx,hgi,hel,hwd,hwn,hw0,hbx,hpne,hpne0,hws,q7,q8,q9,hca,hw,h4]
 ·intro gh K hI
  obtain ⟨ys,c,g⟩:=gh
  obtain ⟨hI1,hI2,hI3,hI4⟩:=hI
  dsimp only at hI1 hI2 hI3 hI4
  rw [List.drop_eq_nil_of_le (Nat.le_refl _)] at hI4
  refine ⟨_,?_,.inl ⟨ys,c,g,by rw [hI4]; simp [mapS],hI1,hI2,hI3,rfl⟩⟩
  rw [List.drop_eq_nil_of_le (Nat.le_refl _),List.append_nil]
  simp [c43L0]
end Go.Proofs.YtflbneepngjglaaGreatDoor
namespace Go.Proofs.YtflbneepngjglaaGreatDoor
open Go Go.Avm
def fullO (b : Ty) (v : Val) (d l : Int) (f : Nat->Val->Int->Option (Val × Int)) : Option (Val × Int):=if l - 1 < 0 ∨ 30 < d then none else match mapS f 0 v.items (l - 1) with
 | none=>none
 | some (ys,l')=>some (.mk v.kind v.int v.bytes ys,l')
set_option maxHeartbeats 4000000 in
theorem full_core (m : Md) (hm : m.ok) (t : Ty) (ht : t.wid<=1048576) (b : Ty) (hb : beh m 21 t=some b) (hbw : b.wid<=1048576) (v : Val) (hv : v.size<=1048576) (hin : PartIn b v) (hdk : b.kind=8->∀ y ∈ b.items,∀ d r,y.Qv=d :: r->d.kind ≠ 12) (d : Int) (hd0 : 0<=d) (hd1 : d<=31) (l : Int) (hl0 : 0<=l) (hl1 : l<=1048576) (f : Nat->Val->Int->Option (Val × Int))
    (hcall : d<=30->∀ i x,v.items[i]? = some x->∀ c,0<=c->c<=1048576->FullAt m (argF b v i x).1 (argF b v i x).2 (d + 1) c (f i x c)) : FullAt m t v d l (fullO b v d l f):=by
 intro p ver ws h hh hws
 have hp : p < h.length:=(List.getElem?_eq_some_iff.1 hh).1
 have hse:=v.size_eq
 have hlen:=Val.QX v.items
 have hcl:=cloneV_ok v.items (by omega)
 have hbh:=fun ws h=>behind_ok m hm t ht ws h
 rw [hb] at hbh
 have hwn : ∀ n,ws<=h.length + n:=fun n=>by omega
 have hw0 : ws<=h.length:=by omega
 have hpne : ∀ k,¬ p=h.length + k:=fun k=>by omega
 have hpne0 : ¬ p=h.length:=by omega
 have hdec : IntKind.wrap .i64 (l - 1)=l - 1:=XC (by omega) (by omega)
 have hbx : ∀ (c : Int) (X : Avm.H),((h.set p (filB m ver c))++X)[p]? = some (filB m ver c):=fun c X=>by rw [get_app (by simpa using hp),List.getElem?_set_self hp]
 have hb0 : ∀ (X : Avm.H),(h++X)[p]? = some (filB m ver l):=fun X=>by rw [get_app hp,hh]
 have hbs0 : ∀ (d : Int) (X : Avm.H),(h++X).set p (filB m ver d)=(h.set p (filB m ver d))++X:=fun d X=>set_app hp
 have htk : ∀ (c : Int) (X : Avm.H),List.take h.length ((h.set p (filB m ver c))++X)=h.set p (filB m ver c):=fun c X=>by rw [List.take_left' (by simp)]
 have hsl : ∀ c,(h.set p (filB m ver c)).length=h.length:=fun c=>by simp
 unfold fullO
 by_cases hneg : l - 1 < 0
 ·rw [if_pos (.inl hneg)]
  refine ⟨v,false,l - 1,Qc rfl rfl ?_,rfl⟩
  simp only [filB] at *
  simp [F43,c43,hb0,hbs0,hbx,hdec,hws,hwn,hw0,htk,hneg,hpne,hpne0]
 ·by_cases hdp : 30 < d
  ·rw [if_pos (.inr hdp)]
   refine ⟨v,false,l - 1,Qc rfl rfl ?_,rfl⟩
   simp only [filB] at *
   simp [F43,c43,hb0,hbs0,hbx,hdec,hws,hwn,hw0,htk,hneg,hdp,hpne,hpne0]
  ·rw [if_neg (by omega)]
   obtain ⟨o,e1,e2⟩:=full_loop m b hbw v hv hin hdk d hd0 (by omega) (l - 1) (by omega) (by omega) f (hcall (by omega)) p ver ws h hp hws t.enc
   rcases e2 with ⟨ys,c,g,h1,h2,h3,h4,rfl⟩ | ⟨ys,c,g,h1,h2,rfl⟩
   ·rw [h1]
    refine ⟨.mk v.kind v.int v.bytes ys,true,c,Qc rfl rfl ?_,rfl,rfl,rfl,h3,h4⟩
    have htk2 : (ys.map Val.enc).take v.items.length=ys.map Val.enc:=List.take_of_length_le (by simp; omega)
    simp only [filB] at *
    simp at e1 hcl hbh
    simp only [Md.enc] at hbh
    simp [F43,c43,hb0,hbs0,hbx,hdec,hws,hwn,hw0,htk,hneg,hdp,hpne,hpne0,hbh,hcl,e1,h2,htk2]
   ·rw [h1]
    refine ⟨.mk v.kind v.int v.bytes ys,false,c,Qc rfl rfl ?_,rfl⟩
    have htk2 : (ys.map Val.enc).take v.items.length=ys.map Val.enc:=List.take_of_length_le (by simp; omega)
    simp only [filB] at *
    simp at e1 hcl hbh
    simp only [Md.enc] at hbh
    simp [F43,c43,hb0,hbs0,hbx,hdec,hws,hwn,hw0,htk,hneg,hdp,hpne,hpne0,hbh,hcl,e1,h2,htk2]
theorem leafT_beh (m : Md) (k : Int) (hk : k ≠ 10) : beh m 21 (Xm k)=some (Xm k):=by
 unfold beh
 rw [if_neg (by unfold Xm; simpa using hk)]
theorem leafT_wid (k : Int) : (Xm k).wid<=1048576:=by simp [Xm,Ty.Xj,It.XL,Ty.XL]; exact Nat.zero_le _
theorem full_leaf (m : Md) (hm : m.ok) (x : Val) (hx : x.items=[]) (hk : x.kind=12 ∨ x.kind=2) (hs : x.size<=1048576) (n : Nat) (hn : n<=30) (l : Int) (hl0 : 0<=l) (hl1 : l<=1048576) : FullAt m (Xm x.kind) x (31 - n) l (leafS n x l):=by
 have e:=full_core m hm (Xm x.kind) (leafT_wid _) (Xm x.kind) (leafT_beh m _ (by omega)) (leafT_wid _) x hs
  ⟨fun q=>by simp [Xm] at q; omega,fun q=>by simp [Xm] at q; omega,fun q=>by simp [Xm] at q; omega⟩ (fun q=>by simp [Xm] at q; omega) (31 - n) (by omega) (by omega) l hl0 hl1 (fun _ _ _=>none)
  (fun _ i y hy=>by rw [hx] at hy; simp at hy)
 have he : fullO (Xm x.kind) x (31 - n) l (fun _ _ _=>none)=leafS n x l:=by
  unfold fullO leafS
  rw [hx]
  by_cases h1 : l - 1 < 0
  ·rw [if_pos (.inl h1),if_pos (.inr h1)]
  ·by_cases h2 : n=0
   ·rw [if_pos (.inr (by omega)),if_pos (.inl h2)]
   ·rw [if_neg (by omega),if_neg (by omega)]
    have:=x.eta
    rw [hx] at this
    simp [mapS,this]
 rwa [he] at e
structure FillIn (m : Md) (S : List (Ty × Val)) (b : Ty) (v : Val) : Prop where
 part : PartIn b v
 dk : b.kind=8->∀ y ∈ b.items,∀ d r,y.Qv=d :: r->d.kind ≠ 12
 oth : b.kind ≠ 7->b.kind ≠ 8->b.kind ≠ 9->b.kind=6 ∨ v.items=[]
 real : ∀ i x q,v.items[i]? = some x->Xl b v i x=some q->q.2.kind ≠ 12/\q.1.fine m S/\q.2.size<=1048576/\∃ k,Xw m k q.1 q.2=true
 leaf : ∀ i x,v.items[i]? = some x->Xl b v i x=none->x.items=[]/\(x.kind=12 ∨ x.kind=2)/\(b.kind=6 ∨ x.kind=12)
theorem kind_ne12 {m : Md} {t b : Ty} {v : Val} {k : Nat} (h : Xw m k t v=true) (hb : beh m 21 t=some b) (hr : Qn b=true) : v.kind ≠ 12:=by
 cases k with
 | zero=>cases h
 | succ k=>
  unfold Xw at h
  rw [hb] at h
  simp only [Bool.and_eq_true,decide_eq_true_eq] at h
  intro e
  rw [h.1] at e
  unfold Qn at hr
  simp [e] at hr
theorem fill_in {m : Md} {S : List (Ty × Val)} (M : m.fine S) (hSs : ∀ q ∈ S,q.2.size<=1048576) {t b : Ty} (T : t.fine m S) (hb : beh m 21 t=some b) {v : Val} (hv : v.size<=1048576) {k : Nat} (hk : Xw m (k + 1) t v=true) : FillIn m S b v:=by
 obtain ⟨B,hb10⟩:=T.beh M hb
 obtain ⟨hkind,hin,hsub⟩:=fits_parts m hk hb (QO B.right)
 have ne12 : ∀ {t' : Ty} {x : Val} {k : Nat},t'.fine m S->Xw m k t' x=true->x.kind ≠ 12:=fun {t' x k} T' h=>by
  cases hb' : beh m 21 t' with
  | none=>cases k with
   | zero=>cases h
   | succ k=>unfold Xw at h; rw [hb'] at h; cases h
  | some b'=>exact kind_ne12 h hb' (QO (T'.beh M hb').1.right)
 have hdk : b.kind=8->∀ y ∈ b.items,∀ d r,y.Qv=d :: r->d.kind ≠ 12/\y.of.fine m S/\d.size<=1048576/\∃ k,Xw m k y.of d=true:=fun q8 y hy d r hd=>by
  obtain ⟨dd,h1,h2,h3,h4⟩:=goodP_iff.1 (QO B.good) q8 y hy (by rw [hd]; simp)
  rw [hd] at h1
  injection h1 with h1 h1'
  subst h1
  have hyin : y.of ∈ b.inner:=by unfold Ty.inner Ty.comp; rw [q8]; exact List.mem_append_right _ (List.mem_map_of_mem hy)
  exact ⟨ne12 (B.inner hyin) h3,B.inner hyin,hSs _ h2,_,h3⟩
 have hitem : ∀ (i : Nat) x,v.items[i]? = some x->x.size<=1048576:=fun i x hx=>by
  have:=Val.Qw (List.mem_of_getElem? hx); omega
 have hs : fitS b v (Xw m k)=true:=by
  unfold Xw at hk; rw [hb] at hk
  simp only [Bool.and_eq_true,decide_eq_true_eq] at hk
  exact hk.2
 have h12 : b.kind=8->∀ (i : Nat) (x : Val),v.items[i]? = some x->x.kind=12->x.items=[]:=fun q8 i x hx q12=>by
  unfold fitS at hs
  simp only [q8] at hs
  simp at hs
  obtain ⟨_,hl,hs⟩:=hs
  have hi:=(List.getElem?_eq_some_iff.1 hx).1
  have hib : i < b.items.length:=by omega
  have hmem : (b.items[i],x) ∈ b.items.zip v.items:=by
   rw [List.mem_iff_getElem?]
   refine ⟨i,?_⟩
   rw [List.getElem?_zip_eq_some]
   exact ⟨List.getElem?_eq_getElem hib,hx⟩
  have hpb:=hs _ _ hmem
  unfold partB at hpb
  have hxin : b.items[i].of ∈ b.inner:=by unfold Ty.inner Ty.comp; rw [q8]; exact List.mem_append_right _ (List.mem_map_of_mem (List.getElem_mem hib))
  rw [Bool.or_eq_true] at hpb
  rcases hpb with hpb | hpb
  ·simp [QH] at hpb
   exact hpb.2.1.2.2
  ·exact absurd q12 (ne12 (B.inner hxin) hpb)
 refine ⟨hin,fun q8 y hy d r hd=>(hdk q8 y hy d r hd).1,fun q7 q8 q9=>?_,fun i x q hx hp=>?_,fun i x hx hp=>?_⟩
 ·have hr:=QO B.right
  unfold Qn at hr
  unfold fitS at hs
  by_cases q6 : b.kind=6
  ·exact .inl q6
  ·right
   by_cases q0 : b.kind=0
   ·simp [q0,QH] at hs; exact hs.2.2
   ·by_cases q1 : b.kind=1
    ·simp [q1,QH] at hs; exact hs.1.2
    ·by_cases q2 : b.kind=2
     ·simp [q2,QH] at hs; exact hs.1.2
     ·by_cases q3 : b.kind=3
      ·simp [q3,QH] at hs; exact hs.1.2
      ·by_cases q4 : b.kind=4
       ·simp [q4,QH] at hs; exact hs.1.2
       ·by_cases q5 : b.kind=5
        ·simp [q5,QH] at hs; exact hs.1.2
        ·by_cases q11 : b.kind=11
         ·simp [q11,QH] at hs; exact hs.1.2
         ·simp [q0,q1,q2,q3,q4,q5,q6,q7,q8,q9,q11] at hr
          exact absurd hr.1 hb10
 ·unfold Xl at hp
  split at hp
  ·rename_i q7
   injection hp with hp; subst hp
   have h1:=hsub i x (b.kids.headD Ty.zero) hx (by unfold partO; rw [if_pos q7])
   have h2:=partO_fine B (v:=v) (x:=x) (i:=i) (t:=b.kids.headD Ty.zero) (by unfold partO; rw [if_pos q7])
   exact ⟨ne12 h2 h1,h2,hitem i x hx,_,h1⟩
  ·rename_i q7
   split at hp
   ·rename_i q9
    injection hp with hp; subst hp
    have hpo : partO b v i x=some ((b.items[v.int.toNat]?.map It.of).getD Ty.zero):=by unfold partO; rw [if_neg q7,if_pos q9]
    have h1:=hsub i x _ hx hpo
    have h2:=partO_fine B hpo
    exact ⟨ne12 h2 h1,h2,hitem i x hx,_,h1⟩
   ·rename_i q9
    split at hp
    ·rename_i q8
     have hi:=(List.getElem?_eq_some_iff.1 hx).1
     have hib : i < b.items.length:=by rw [← hin.record q8]; exact hi
     rw [List.getElem?_eq_getElem hib] at hp
     simp only [Option.getD_some] at hp
     split at hp
     ·cases hq : b.items[i].Qv with
      | nil=>rw [hq] at hp; cases hp
      | cons d r=>
       rw [hq] at hp
       injection hp with hp; subst hp
       exact hdk q8 _ (List.getElem_mem hib) d r hq
     ·rename_i q12
      injection hp with hp; subst hp
      have hpo : partO b v i x=some b.items[i].of:=by unfold partO; rw [if_neg q7,if_neg q9,if_pos ⟨q8,q12⟩,List.getElem?_eq_getElem hib]; rfl
      exact ⟨q12,partO_fine B hpo,hitem i x hx,_,hsub i x _ hx hpo⟩
    ·cases hp
 ·unfold Xl at hp
  split at hp
  ·cases hp
  ·rename_i q7
   split at hp
   ·cases hp
   ·rename_i q9
    split at hp
    ·rename_i q8
     split at hp
     ·rename_i q12
      exact ⟨h12 q8 i x hx q12,.inl q12,.inr q12⟩
     ·cases hp
    ·rename_i q8
     by_cases q6 : b.kind=6
     ·unfold fitS at hs
      simp only [q6] at hs
      simp [arcP] at hs
      have hx1:=hs.2.2.1 x (List.mem_of_getElem? hx)
      simp [arcI,QH] at hx1
      exact ⟨hx1.2.1.2,.inr hx1.1,.inl q6⟩
     ·exfalso
      have : v.items=[]:=by
       have hr:=QO B.right
       unfold Qn at hr
       unfold fitS at hs
       by_cases q0 : b.kind=0
       ·simp [q0,QH] at hs; exact hs.2.2
       ·by_cases q1 : b.kind=1
        ·simp [q1,QH] at hs; exact hs.1.2
        ·by_cases q2 : b.kind=2
         ·simp [q2,QH] at hs; exact hs.1.2
         ·by_cases q3 : b.kind=3
          ·simp [q3,QH] at hs; exact hs.1.2
          ·by_cases q4 : b.kind=4
           ·simp [q4,QH] at hs; exact hs.1.2
           ·by_cases q5 : b.kind=5
            ·simp [q5,QH] at hs; exact hs.1.2
            ·by_cases q11 : b.kind=11
             ·simp [q11,QH] at hs; exact hs.1.2
             ·simp [q0,q1,q2,q3,q4,q5,q6,q7,q8,q9,q11] at hr
              exact absurd hr.1 hb10
      rw [this] at hx
      simp at hx
theorem full_ok {m : Md} {S : List (Ty × Val)} (M : m.fine S) (hSs : ∀ q ∈ S,q.2.size<=1048576) : ∀ (n : Nat) (t : Ty) (v : Val),n<=31->t.fine m S->(∃ k,Xw m k t v=true)->v.size<=1048576->∀ l,0<=l->l<=1048576->FullAt m t v (31 - n) l (fullN m n t v l)
 | n,t,v,hn,T,⟨k,hk⟩,hv,l,hl0,hl1=>by
  cases k with
  | zero=>cases hk
  | succ k=>
  cases hb : beh m 21 t with
  | none=>unfold Xw at hk; rw [hb] at hk; cases hk
  | some b=>
  have I:=fill_in M hSs T hb hv hk
  obtain ⟨B,hb10⟩:=T.beh M hb
  cases n with
  | zero=>
   have e:=full_core m M.ok t T.wid b hb B.wid v hv I.part I.dk (31 - (0 : Nat)) (by omega) (by omega) l hl0 hl1 (fun _ _ _=>none) (fun h=>by omega)
   have he : fullO b v (31 - (0 : Nat)) l (fun _ _ _=>none)=fullN m 0 t v l:=by unfold fullO fullN; rw [if_pos (.inr (by omega))]
   rwa [he] at e
  | succ n=>
   have e:=full_core m M.ok t T.wid b hb B.wid v hv I.part I.dk (31 - (n + 1 : Nat)) (by omega) (by omega) l hl0 hl1 (fullF b v n (fullN m n)) (fun h i x hx c hc0 hc1=>by
    have hd : (31 : Int) - (n + 1 : Nat) + 1=31 - n:=by omega
    rw [hd]
    unfold fullF argF
    cases hp : Xl b v i x with
    | none=>
     obtain ⟨h1,h2,_⟩:=I.leaf i x hx hp
     have hxs : x.size<=1048576:=by have:=Val.Qw (List.mem_of_getElem? hx); omega
     exact full_leaf m M.ok x h1 h2 hxs n (by omega) c hc0 hc1
    | some q=>
     obtain ⟨h1,h2,h3,h4⟩:=I.real i x q hx hp
     exact full_ok M hSs n q.1 q.2 (by omega) h2 h4 h3 c hc0 hc1)
   have he : fullO b v (31 - (n + 1 : Nat)) l (fullF b v n (fullN m n))=fullN m (n + 1) t v l:=by
    unfold fullO
    rw [fullN,hb,Option.getD_some]
    by_cases h1 : l - 1 < 0
    ·rw [if_pos (.inl h1),if_pos h1]
    ·rw [if_neg (by omega),if_neg h1]
     all_goals (cases mapS (fullF b v n (fullN m n)) 0 v.items (l - 1) <;> rfl)
   rwa [he] at e
termination_by n=>n
end Go.Proofs.YtflbneepngjglaaGreatDoor
