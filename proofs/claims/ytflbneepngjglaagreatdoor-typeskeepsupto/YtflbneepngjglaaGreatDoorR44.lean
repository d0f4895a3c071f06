/- Values made full, as a function with an end; the program's walk. -/
import Derived.Test.YtflbneepngjglaaGreatDoorR43
set_option linter.all false
namespace Go.Proofs.YtflbneepngjglaaGreatDoor
open Go Go.Avm
def partF (b : Ty) (v : Val) (i : Nat) (x : Val) : Option (Ty × Val):=
 if b.kind=7 then some (b.kids.headD Ty.zero,x)
 else if b.kind=9 then some ((b.items[v.int.toNat]?.map It.of).getD Ty.zero,x)
 else if b.kind=8 then
  (if x.kind=12 then (match (b.items[i]?.getD It.zero).dflt with | []=>none | d :: _=>some ((b.items[i]?.getD It.zero).of,d))
  else some ((b.items[i]?.getD It.zero).of,x))
 else none
def mapS (f : Nat→Val→Int→Option (Val × Int)) : Nat→List Val→Int→Option (List Val × Int)
 | _,[],l=>some ([],l)
 | i,x :: r,l=>match f i x l with
  | none=>none
  | some (y,l')=>match mapS f (i + 1) r l' with
   | none=>none
   | some (ys,l2)=>some (y :: ys,l2)
def leafS (n : Nat) (x : Val) (l : Int) : Option (Val × Int):=if n=0 ∨ l - 1 < 0 then none else some (x,l - 1)
def fullF (b : Ty) (v : Val) (n : Nat) (g : Ty→Val→Int→Option (Val × Int)) (i : Nat) (x : Val) (l : Int) : Option (Val × Int):=match partF b v i x with
 | none=>leafS n x l
 | some q=>g q.1 q.2 l
def fullN (m : Md) : Nat→Ty→Val→Int→Option (Val × Int)
 | 0,_,_,_=>none
 | n + 1,t,v,l=>if l - 1 < 0 then none else match mapS (fullF ((beh m 21 t).getD Ty.zero) v n (fullN m n)) 0 v.items (l - 1) with
  | none=>none
  | some (ys,l')=>some (.mk v.kind v.int v.bytes ys,l')
def leafT (k : Int) : Ty:=.mk k ⟨#[]⟩ 0 0 false false [] []
def argF (b : Ty) (v : Val) (i : Nat) (x : Val) : Ty × Val:=(partF b v i x).getD (leafT x.kind,x)
def filB (m : Md) (ver : Nat) (c : Int) : ABlock:=.arr ver 3 [.agg [.str m.name,.isl (m.defs.map Df.enc),.int .i64 c]]
def Fills (o : Option (Val × Int)) (r : Val) (ok : Bool) (l' : Int) : Prop:=match o with
 | some q=>r=q.1∧ok=true∧l'=q.2∧0≤l'∧l'≤67108864
 | none=>ok=false
def FullAt (m : Md) (t : Ty) (v : Val) (d l : Int) (o : Option (Val × Int)) : Prop:=
 ∀ (p ver ws : Nat) (h : Avm.H),h[p]? = some (filB m ver l)→ws≤p→∃ r ok l',callL cfg ws 43 [.ptr p ver 3 0 0,t.enc,v.enc,.int .i64 d] h=some (.tup [r.enc,.bool ok],h.set p (filB m ver l'))∧Fills o r ok l'
theorem mapS_step (f : Nat→Val→Int→Option (Val × Int)) (i : Nat) (x : Val) (r : List Val) (l : Int) : mapS f i (x :: r) l=(match f i x l with | none=>none | some q=>(mapS f (i + 1) r q.2).map fun w=>(q.1 :: w.1,w.2)):=by
 simp only [mapS]
 cases f i x l with
 | none=>rfl
 | some q=>
  dsimp only
  cases mapS f (i + 1) r q.2 with
  | none=>rfl
  | some w=>rfl
set_option maxHeartbeats 8000000 in
theorem full_loop (m : Md) (b : Ty) (hbw : b.wid≤67108864) (v : Val) (hv : v.size≤67108864) (hin : PartIn b v) (hdk : b.kind=8→∀ y ∈ b.items,∀ d r,y.dflt=d :: r→d.kind ≠ 12) (d : Int) (hd0 : 0≤d) (hd1 : d≤30) (c0 : Int) (hc0 : 0≤c0) (hc1 : c0≤67108864) (f : Nat→Val→Int→Option (Val × Int))
    (hcall : ∀ i x,v.items[i]? = some x→∀ c,0≤c→c≤67108864→FullAt m (argF b v i x).1 (argF b v i x).2 (d + 1) c (f i x c)) (p ver ws : Nat) (h : Avm.H) (hp : p < h.length) (hws : ws≤p) (A : AV) :
    ∃ o,roundsL (evC (callL cfg) roundsL cfg.pol h.length ws c43L0) [0,3,6,8,10,47,48,49] [(0,.ptr p ver 3 0 0),(3,.int .i64 d),(6,.ptr (h.length + 1) 0 4 0 0),(8,.ptr (h.length + 2) 0 4 0 0),(10,.ptr (h.length + 3) 0 8 0 0),(47,.osl (h.length + 4) 0 4 0 v.items.length),(48,.int .i64 v.items.length),(49,.int .i64 (0 : Nat))]
     (h.set p (filB m ver c0)++([.arr 0 8 [A],.arr 0 4 [.agg [.int .i64 v.kind,.int .i64 v.int,.str v.bytes,.osl (h.length + 4) 0 4 0 v.items.length]],.arr 0 4 [.agg [.int .i64 0,.int .i64 0,.str ⟨#[]⟩,.isl []]],.arr 0 8 [b.enc],.arr 0 4 (v.items.map Val.enc)]++[]))=some o ∧
     ((∃ (ys : List Val) (c : Int) (g : Avm.H),mapS f 0 v.items c0=some (ys,c)∧ys.length=v.items.length∧0≤c∧c≤67108864∧o=(.exit 0,[(0,.ptr p ver 3 0 0),(3,.int .i64 d),(6,.ptr (h.length + 1) 0 4 0 0),(8,.ptr (h.length + 2) 0 4 0 0),(10,.ptr (h.length + 3) 0 8 0 0),(47,.osl (h.length + 4) 0 4 0 v.items.length),(48,.int .i64 v.items.length),(49,.int .i64 v.items.length)],
      h.set p (filB m ver c)++([.arr 0 8 [A],.arr 0 4 [.agg [.int .i64 v.kind,.int .i64 v.int,.str v.bytes,.osl (h.length + 4) 0 4 0 v.items.length]],.arr 0 4 [.agg [.int .i64 0,.int .i64 0,.str ⟨#[]⟩,.isl []]],.arr 0 8 [b.enc],.arr 0 4 (ys.map Val.enc)]++g))) ∨
     (∃ (ys : List Val) (c : Int) (g : Avm.H),mapS f 0 v.items c0=none∧ys.length=v.items.length∧o=(.ret,[(8,.ptr (h.length + 2) 0 4 0 0),(9,.bool false)],
      h.set p (filB m ver c)++([.arr 0 8 [A],.arr 0 4 [.agg [.int .i64 v.kind,.int .i64 v.int,.str v.bytes,.osl (h.length + 4) 0 4 0 v.items.length]],.arr 0 4 [.agg [.int .i64 v.kind,.int .i64 v.int,.str v.bytes,.osl (h.length + 4) 0 4 0 v.items.length]],.arr 0 8 [b.enc],.arr 0 4 (ys.map Val.enc)]++g)))):=by
 have hse:=v.size_eq
 have hlen:=Val.len_sizeL v.items
 refine loop_post (γ:=List Val × Int × Avm.H) (f:=evC (callL cfg) roundsL cfg.pol h.length ws c43L0) (keep:=[0,3,6,8,10,47,48,49]) v.items
  (fun i c=>c.1.length=i∧0≤c.2.1∧c.2.1≤67108864∧mapS f 0 v.items c0=(mapS f i (v.items.drop i) c.2.1).map fun w=>(c.1++w.1,w.2))
  (fun i _=>[(0,.ptr p ver 3 0 0),(3,.int .i64 d),(6,.ptr (h.length + 1) 0 4 0 0),(8,.ptr (h.length + 2) 0 4 0 0),(10,.ptr (h.length + 3) 0 8 0 0),(47,.osl (h.length + 4) 0 4 0 v.items.length),(48,.int .i64 v.items.length),(49,.int .i64 i)])
  (fun i c=>h.set p (filB m ver c.2.1)++([.arr 0 8 [A],.arr 0 4 [.agg [.int .i64 v.kind,.int .i64 v.int,.str v.bytes,.osl (h.length + 4) 0 4 0 v.items.length]],.arr 0 4 [.agg [.int .i64 0,.int .i64 0,.str ⟨#[]⟩,.isl []]],.arr 0 8 [b.enc],.arr 0 4 ((c.1++v.items.drop i).map Val.enc)]++c.2.2))
  (fun _ _ o=>(∃ (ys : List Val) (c : Int) (g : Avm.H),mapS f 0 v.items c0=some (ys,c)∧ys.length=v.items.length∧0≤c∧c≤67108864∧o=(.exit 0,[(0,.ptr p ver 3 0 0),(3,.int .i64 d),(6,.ptr (h.length + 1) 0 4 0 0),(8,.ptr (h.length + 2) 0 4 0 0),(10,.ptr (h.length + 3) 0 8 0 0),(47,.osl (h.length + 4) 0 4 0 v.items.length),(48,.int .i64 v.items.length),(49,.int .i64 v.items.length)],
      h.set p (filB m ver c)++([.arr 0 8 [A],.arr 0 4 [.agg [.int .i64 v.kind,.int .i64 v.int,.str v.bytes,.osl (h.length + 4) 0 4 0 v.items.length]],.arr 0 4 [.agg [.int .i64 0,.int .i64 0,.str ⟨#[]⟩,.isl []]],.arr 0 8 [b.enc],.arr 0 4 (ys.map Val.enc)]++g))) ∨
   (∃ (ys : List Val) (c : Int) (g : Avm.H),mapS f 0 v.items c0=none∧ys.length=v.items.length∧o=(.ret,[(8,.ptr (h.length + 2) 0 4 0 0),(9,.bool false)],
    h.set p (filB m ver c)++([.arr 0 8 [A],.arr 0 4 [.agg [.int .i64 v.kind,.int .i64 v.int,.str v.bytes,.osl (h.length + 4) 0 4 0 v.items.length]],.arr 0 4 [.agg [.int .i64 v.kind,.int .i64 v.int,.str v.bytes,.osl (h.length + 4) 0 4 0 v.items.length]],.arr 0 8 [b.enc],.arr 0 4 (ys.map Val.enc)]++g)))) ?_ ?_ ([],c0,[]) ⟨rfl,hc0,hc1,by simp⟩
 ·intro i x r gh hd hi hx hI K hK
  obtain ⟨ys,c,g⟩:=gh
  obtain ⟨hI1,hI2,hI3,hI4⟩:=hI
  dsimp only at hI1 hI2 hI3 hI4
  have hw:=wrap_nat (n:=i + 1) (by omega)
  simp at hw
  have hwd : IntKind.wrap .i64 (d + 1)=d + 1:=wrap_id (by omega) (by omega)
  have hgx : v.items[i]? = some x:=by rw [List.getElem?_eq_getElem hi,hx]
  rw [hd,mapS_step] at hI4
  have hrl : r=v.items.drop (i + 1):=by
   have:=List.drop_eq_getElem_cons hi
   rw [hd] at this
   injection this
  have hbx : ∀ (c : Int) (X : Avm.H),((h.set p (filB m ver c))++X)[p]? = some (filB m ver c):=fun c X=>by rw [get_app (by simpa using hp),List.getElem?_set_self hp]
  have hbs : ∀ (c d : Int) (X : Avm.H),((h.set p (filB m ver c))++X).set p (filB m ver d)=(h.set p (filB m ver d))++X:=fun c d X=>by rw [set_app (by simpa using hp),List.set_set]
  have hwn : ∀ n,ws≤h.length + n:=fun n=>by omega
  have hw0 : ws≤h.length:=by omega
  have hpne : ∀ k,¬ p=h.length + k:=fun k=>by omega
  have hpne0 : ¬ p=h.length:=by omega
  obtain ⟨y,ok,l',hca,hcb⟩:=hcall i x hgx c hI2 hI3 p ver ws ((h.set p (filB m ver c))++([.arr 0 8 [A],.arr 0 4 [.agg [.int .i64 v.kind,.int .i64 v.int,.str v.bytes,.osl (h.length + 4) 0 4 0 v.items.length]],.arr 0 4 [.agg [.int .i64 0,.int .i64 0,.str ⟨#[]⟩,.isl []]],.arr 0 8 [b.enc],.arr 0 4 ((ys++v.items.drop i).map Val.enc)]++(g++[.arr 0 4 [(argF b v i x).2.enc],.arr 0 8 [(argF b v i x).1.enc]]))) (hbx c _) hws
  rw [hbs] at hca
  have hg : ((ys++v.items.drop i).map Val.enc)[i]? = some x.enc:=by
   rw [List.getElem?_map,List.getElem?_append_right (by omega),hI1,Nat.sub_self,hd]; rfl
  have hel : ((ys++v.items.drop i).map Val.enc).length=v.items.length:=by simp; omega
  have hs : ((ys++v.items.drop i).map Val.enc).set i y.enc=(ys++[y]++v.items.drop (i + 1)).map Val.enc:=by
   rw [hd,List.map_append,List.set_append_right _ _ (by simp; omega),List.length_map,hI1,Nat.sub_self,List.map_cons,List.set_cons_zero,hrl]
   simp
  have step : ∃ K',K'=K:=⟨K,rfl⟩
  have fin : ∃ o,(if ok=true then K [(0,.ptr p ver 3 0 0),(3,.int .i64 d),(6,.ptr (h.length + 1) 0 4 0 0),(8,.ptr (h.length + 2) 0 4 0 0),(10,.ptr (h.length + 3) 0 8 0 0),(47,.osl (h.length + 4) 0 4 0 v.items.length),(48,.int .i64 v.items.length),(49,.int .i64 (i + 1 : Nat))]
        (h.set p (filB m ver l')++([.arr 0 8 [A],.arr 0 4 [.agg [.int .i64 v.kind,.int .i64 v.int,.str v.bytes,.osl (h.length + 4) 0 4 0 v.items.length]],.arr 0 4 [.agg [.int .i64 0,.int .i64 0,.str ⟨#[]⟩,.isl []]],.arr 0 8 [b.enc],.arr 0 4 (((ys++v.items.drop i).map Val.enc).set i y.enc)]++(g++[.arr 0 4 [(argF b v i x).2.enc],.arr 0 8 [(argF b v i x).1.enc]])))
      else some (.ret,[(8,.ptr (h.length + 2) 0 4 0 0),(9,.bool false)],
       h.set p (filB m ver l')++([.arr 0 8 [A],.arr 0 4 [.agg [.int .i64 v.kind,.int .i64 v.int,.str v.bytes,.osl (h.length + 4) 0 4 0 v.items.length]],.arr 0 4 [.agg [.int .i64 v.kind,.int .i64 v.int,.str v.bytes,.osl (h.length + 4) 0 4 0 v.items.length]],.arr 0 8 [b.enc],.arr 0 4 (((ys++v.items.drop i).map Val.enc).set i y.enc)]++(g++[.arr 0 4 [(argF b v i x).2.enc],.arr 0 8 [(argF b v i x).1.enc]]))))=some o∧((∃ (ys : List Val) (c : Int) (g : Avm.H),mapS f 0 v.items c0=some (ys,c)∧ys.length=v.items.length∧0≤c∧c≤67108864∧o=(.exit 0,[(0,.ptr p ver 3 0 0),(3,.int .i64 d),(6,.ptr (h.length + 1) 0 4 0 0),(8,.ptr (h.length + 2) 0 4 0 0),(10,.ptr (h.length + 3) 0 8 0 0),(47,.osl (h.length + 4) 0 4 0 v.items.length),(48,.int .i64 v.items.length),(49,.int .i64 v.items.length)],
      h.set p (filB m ver c)++([.arr 0 8 [A],.arr 0 4 [.agg [.int .i64 v.kind,.int .i64 v.int,.str v.bytes,.osl (h.length + 4) 0 4 0 v.items.length]],.arr 0 4 [.agg [.int .i64 0,.int .i64 0,.str ⟨#[]⟩,.isl []]],.arr 0 8 [b.enc],.arr 0 4 (ys.map Val.enc)]++g))) ∨
   (∃ (ys : List Val) (c : Int) (g : Avm.H),mapS f 0 v.items c0=none∧ys.length=v.items.length∧o=(.ret,[(8,.ptr (h.length + 2) 0 4 0 0),(9,.bool false)],
    h.set p (filB m ver c)++([.arr 0 8 [A],.arr 0 4 [.agg [.int .i64 v.kind,.int .i64 v.int,.str v.bytes,.osl (h.length + 4) 0 4 0 v.items.length]],.arr 0 4 [.agg [.int .i64 v.kind,.int .i64 v.int,.str v.bytes,.osl (h.length + 4) 0 4 0 v.items.length]],.arr 0 8 [b.enc],.arr 0 4 (ys.map Val.enc)]++g)))):=by
   unfold Fills at hcb
   cases hfi : f i x c with
   | none=>
    rw [hfi] at hcb hI4
    dsimp only at hcb hI4
    subst hcb
    refine ⟨_,by rw [if_neg (by simp)],.inr ⟨ys++[y]++v.items.drop (i + 1),l',g++[.arr 0 4 [(argF b v i x).2.enc],.arr 0 8 [(argF b v i x).1.enc]],by rw [hI4]; rfl,by simp; omega,by rw [hs]⟩⟩
   | some q=>
    rw [hfi] at hcb hI4
    dsimp only at hcb hI4
    obtain ⟨rfl,rfl,rfl,h1,h2⟩:=hcb
    rw [if_pos rfl,hs]
    refine hK (ys++[q.1],q.2,g++[.arr 0 4 [(argF b v i x).2.enc],.arr 0 8 [(argF b v i x).1.enc]]) ⟨by simp; omega,h1,h2,?_⟩
    dsimp only
    rw [hI4,← hrl]
    cases mapS f (i + 1) r q.2 with
    | none=>rfl
    | some w=>simp
  obtain ⟨o,h4,h5⟩:=fin
  refine ⟨o,?_,h5⟩
  clear hs h5 hK hI4 hcall hcb step
  generalize ((ys++v.items.drop i).map Val.enc)=els at hca hg hel h4 ⊢
  obtain ⟨hilx,hgi⟩:=List.getElem?_eq_some_iff.1 hg
  unfold argF at hca h4
  simp only [filB] at hca h4 hbx ⊢
  by_cases q7 : b.kind=7
  ·obtain ⟨k0,kr,hkids⟩ : ∃ k0 kr,b.kids=k0 :: kr:=by
     cases hk : b.kids with
     | nil=>exact absurd hk (hin.list q7)
     | cons a r=>exact ⟨a,r,rfl⟩
   have hpa : partF b v i x=some (k0,x):=by unfold partF; rw [if_pos q7,hkids]; rfl
   rw [hpa] at hca h4
   simp only [Option.getD_some,Option.getD_none] at hca h4
   simp [leafT,q7,hkids] at hca
   cases ok
   ·rw [if_neg (by simp)] at h4
    injection h4 with h4
    subst h4
    simp [c43L0,leafT,hi,hx,hgi,hel,hwd,hwn,hw0,hbx,hpne,hpne0,hws,q7,hkids,hca,hw]
   ·rw [if_pos rfl] at h4
    simp [leafT,q7,hkids] at h4
    simp [c43L0,leafT,hi,hx,hgi,hel,hwd,hwn,hw0,hbx,hpne,hpne0,hws,q7,hkids,hca,hw,h4]
  ·by_cases q9 : b.kind=9
   ·obtain ⟨hc1,hc2⟩:=hin.choice q9
    have hpa : partF b v i x=some (b.items[v.int.toNat].of,x):=by unfold partF; rw [if_neg q7,if_pos q9,List.getElem?_eq_getElem hc2]; rfl
    rw [hpa] at hca h4
    simp only [Option.getD_some,Option.getD_none] at hca h4
    simp [leafT,q9,hc1,hc2] at hca
    cases ok
    ·rw [if_neg (by simp)] at h4
     injection h4 with h4
     subst h4
     simp [c43L0,leafT,hi,hx,hgi,hel,hwd,hwn,hw0,hbx,hpne,hpne0,hws,q9,hc1,hc2,hca,hw]
    ·rw [if_pos rfl] at h4
     simp [leafT,q9,hc1,hc2] at h4
     simp [c43L0,leafT,hi,hx,hgi,hel,hwd,hwn,hw0,hbx,hpne,hpne0,hws,q9,hc1,hc2,hca,hw,h4]
   ·by_cases q8 : b.kind=8
    ·have hib : i < b.items.length:=by rw [← hin.record q8]; exact hi
     obtain ⟨t,ht⟩ : ∃ t,b.items[i]=t:=⟨_,rfl⟩
     have htm : t ∈ b.items:=by rw [← ht]; exact List.getElem_mem hib
     by_cases q12 : x.kind=12
     ·cases hq : t.dflt with
      | nil=>
       have hpa : partF b v i x=none:=by unfold partF; rw [if_neg q7,if_neg q9,if_pos q8,if_pos q12,List.getElem?_eq_getElem hib,ht]; simp [hq]
       rw [hpa] at hca h4
       simp only [Option.getD_some,Option.getD_none] at hca h4
       simp [leafT,q8,hib,ht,q12,hq] at hca
       cases ok
       ·rw [if_neg (by simp)] at h4
        injection h4 with h4
        subst h4
        simp [c43L0,leafT,hi,hx,hgi,hel,hwd,hwn,hw0,hbx,hpne,hpne0,hws,q8,hib,ht,q12,hq,hca,hw]
       ·rw [if_pos rfl] at h4
        simp [leafT,q8,hib,ht,q12,hq] at h4
        simp [c43L0,leafT,hi,hx,hgi,hel,hwd,hwn,hw0,hbx,hpne,hpne0,hws,q8,hib,ht,q12,hq,hca,hw,h4]
      | cons d1 dr=>
       have hpa : partF b v i x=some (t.of,d1):=by unfold partF; rw [if_neg q7,if_neg q9,if_pos q8,if_pos q12,List.getElem?_eq_getElem hib,ht]; simp [hq]
       have hk1:=hdk q8 t htm d1 dr hq
       have hgt : (0 : Int) < dr.length + 1:=by omega
       rw [hpa] at hca h4
       simp only [Option.getD_some,Option.getD_none] at hca h4
       simp [leafT,q8,hib,ht,q12,hq,hk1,hgt] at hca
       cases ok
       ·rw [if_neg (by simp)] at h4
        injection h4 with h4
        subst h4
        simp [c43L0,leafT,hi,hx,hgi,hel,hwd,hwn,hw0,hbx,hpne,hpne0,hws,q8,hib,ht,q12,hq,hk1,hgt,hca,hw]
       ·rw [if_pos rfl] at h4
        simp [leafT,q8,hib,ht,q12,hq,hk1,hgt] at h4
        simp [c43L0,leafT,hi,hx,hgi,hel,hwd,hwn,hw0,hbx,hpne,hpne0,hws,q8,hib,ht,q12,hq,hk1,hgt,hca,hw,h4]
     ·have hpa : partF b v i x=some (t.of,x):=by unfold partF; rw [if_neg q7,if_neg q9,if_pos q8,if_neg q12,List.getElem?_eq_getElem hib,ht]; rfl
      rw [hpa] at hca h4
      simp only [Option.getD_some,Option.getD_none] at hca h4
      simp [leafT,q8,hib,ht,q12] at hca
      cases ok
      ·rw [if_neg (by simp)] at h4
       injection h4 with h4
       subst h4
       simp [c43L0,leafT,hi,hx,hgi,hel,hwd,hwn,hw0,hbx,hpne,hpne0,hws,q8,hib,ht,q12,hca,hw]
      ·rw [if_pos rfl] at h4
       simp [leafT,q8,hib,ht,q12] at h4
       simp [c43L0,leafT,hi,hx,hgi,hel,hwd,hwn,hw0,hbx,hpne,hpne0,hws,q8,hib,ht,q12,hca,hw,h4]
    ·have hpa : partF b v i x=none:=by unfold partF; rw [if_neg q7,if_neg q9,if_neg q8]
     rw [hpa] at hca h4
     simp only [Option.getD_some,Option.getD_none] at hca h4
     simp [leafT,q7,q8,q9] at hca
     cases ok
     ·rw [if_neg (by simp)] at h4
      injection h4 with h4
      subst h4
      simp [c43L0,leafT,hi,hx,hgi,hel,hwd,hwn,hw0,hbx,hpne,hpne0,hws,q7,q8,q9,hca,hw]
     ·rw [if_pos rfl] at h4
      simp [leafT,q7,q8,q9] at h4
      simp [c43L0,leafT,hi,hx,hgi,hel,hwd,hwn,hw0,hbx,hpne,hpne0,hws,q7,q8,q9,hca,hw,h4]
 ·intro gh K hI
  obtain ⟨ys,c,g⟩:=gh
  obtain ⟨hI1,hI2,hI3,hI4⟩:=hI
  dsimp only at hI1 hI2 hI3 hI4
  rw [List.drop_eq_nil_of_le (Nat.le_refl _)] at hI4
  refine ⟨_,?_,.inl ⟨ys,c,g,by rw [hI4]; simp [mapS],hI1,hI2,hI3,rfl⟩⟩
  rw [List.drop_eq_nil_of_le (Nat.le_refl _),List.append_nil]
  simp [c43L0]
end Go.Proofs.YtflbneepngjglaaGreatDoor
