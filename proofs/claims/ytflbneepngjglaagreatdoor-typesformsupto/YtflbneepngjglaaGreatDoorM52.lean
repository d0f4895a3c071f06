/- Values made full: the document's Fill does what is said. -/
import Derived.Test.YtflbneepngjglaaGreatDoorM51
set_option linter.all false
namespace Go.Proofs.YtflbneepngjglaaGreatDoor
open Go Go.Avm
def lefB (ver : Nat) (c : Int) : QJ:=.arr ver 1 [.int .i64 c]
def FillAt (m : Md) (t : Ty) (v : Val) (d l : Int) (o : Option (Val × Int)) : Prop:=
 ∀ (p ver ws : Nat) (h : Avm.H),h[p]? = some (lefB ver l)->ws<=p->∃ r ok l',Qb cfg ws 44 [m.enc,t.enc,v.enc,.int .i64 d,.ptr p ver 1 0 0] h=some (.tup [r.enc,.bool ok],h.set p (lefB ver l'))/\Fills o r ok l'
set_option maxHeartbeats 8000000 in
theorem fill_loop (m : Md) (b : Ty) (v : Val) (hv : v.size<=1048576) (hin : PartIn b v) (d : Int) (hd0 : 0<=d) (hd1 : d<=30) (c0 : Int) (hc0 : 0<=c0) (hc1 : c0<=1048576) (f : Nat->Val->Int->Option (Val × Int))
    (hleaf : ∀ i x,v.items[i]? = some x->Xl b v i x=none->(b.kind=6 ∨ x.kind=12)/\∀ c : Int,f i x c=if 30 < d + 1 ∨ c - 1 < 0 then none else some (x,c - 1))
    (hcall : ∀ i x q,v.items[i]? = some x->Xl b v i x=some q->q.2.kind ≠ 12/\∀ c,0<=c->c<=1048576->FillAt m q.1 q.2 (d + 1) c (f i x c)) (p ver ws : Nat) (h : Avm.H) (hp : p < h.length) (hws : ws<=p) :
    ∃ o,Qa (evC (Qb cfg) Qa cfg.pol h.length ws c44L0) [3,4,5,6,7,10,12,13] [(3,.int .i64 d),(4,.ptr p ver 1 0 0),(5,.ptr h.length 0 2 0 0),(6,.ptr (h.length + 1) 0 8 0 0),(7,.ptr (h.length + 2) 0 4 0 0),(10,.ptr (h.length + 3) 0 4 0 0),(12,.ptr (h.length + 5) 0 4 0 0),(13,.int .i64 (0 : Nat))] (h.set p (lefB ver c0)++([.arr 0 2 [m.enc],.arr 0 8 [b.enc],.arr 0 4 [v.enc],.arr 0 4 [.agg [.int .i64 0,.int .i64 0,.str ⟨#[]⟩,.isl []]],.arr 0 4 (v.items.map Val.enc),.arr 0 4 [.agg [.int .i64 v.kind,.int .i64 v.int,.str v.bytes,.osl (h.length + 4) 0 4 0 v.items.length]]]++[]))=some o/\((∃ (ys : List Val) (c : Int) (g : Avm.H),mapS f 0 v.items c0=some (ys,c)/\ys.length=v.items.length/\0<=c/\c<=1048576/\o=(.exit 0,[(3,.int .i64 d),(4,.ptr p ver 1 0 0),(5,.ptr h.length 0 2 0 0),(6,.ptr (h.length + 1) 0 8 0 0),(7,.ptr (h.length + 2) 0 4 0 0),(10,.ptr (h.length + 3) 0 4 0 0),(12,.ptr (h.length + 5) 0 4 0 0),(13,.int .i64 v.items.length)],h.set p (lefB ver c)++([.arr 0 2 [m.enc],.arr 0 8 [b.enc],.arr 0 4 [v.enc],.arr 0 4 [.agg [.int .i64 0,.int .i64 0,.str ⟨#[]⟩,.isl []]],.arr 0 4 (ys.map Val.enc),.arr 0 4 [.agg [.int .i64 v.kind,.int .i64 v.int,.str v.bytes,.osl (h.length + 4) 0 4 0 v.items.length]]]++g))) ∨
     (∃ (E : List AV) (c : Int) (g : Avm.H),mapS f 0 v.items c0=none/\o=(.ret,[(10,.ptr (h.length + 3) 0 4 0 0),(11,.bool false)],h.set p (lefB ver c)++([.arr 0 2 [m.enc],.arr 0 8 [b.enc],.arr 0 4 [v.enc],.arr 0 4 [.agg [.int .i64 0,.int .i64 0,.str ⟨#[]⟩,.isl []]],.arr 0 4 E,.arr 0 4 [.agg [.int .i64 v.kind,.int .i64 v.int,.str v.bytes,.osl (h.length + 4) 0 4 0 v.items.length]]]++g)))):=by
 have hse:=v.size_eq
 have hlen:=Val.QX v.items
 refine Qi (γ:=List Val × Int × Avm.H) (f:=evC (Qb cfg) Qa cfg.pol h.length ws c44L0) (keep:=[3,4,5,6,7,10,12,13]) v.items
  (fun i c=>c.1.length=i/\0<=c.2.1/\c.2.1<=1048576/\mapS f 0 v.items c0=(mapS f i (v.items.drop i) c.2.1).map fun w=>(c.1++w.1,w.2))
  (fun i _=>[(3,.int .i64 d),(4,.ptr p ver 1 0 0),(5,.ptr h.length 0 2 0 0),(6,.ptr (h.length + 1) 0 8 0 0),(7,.ptr (h.length + 2) 0 4 0 0),(10,.ptr (h.length + 3) 0 4 0 0),(12,.ptr (h.length + 5) 0 4 0 0),(13,.int .i64 i)])
  (fun i c=>h.set p (lefB ver c.2.1)++([.arr 0 2 [m.enc],.arr 0 8 [b.enc],.arr 0 4 [v.enc],.arr 0 4 [.agg [.int .i64 0,.int .i64 0,.str ⟨#[]⟩,.isl []]],.arr 0 4 ((c.1++v.items.drop i).map Val.enc),.arr 0 4 [.agg [.int .i64 v.kind,.int .i64 v.int,.str v.bytes,.osl (h.length + 4) 0 4 0 v.items.length]]]++c.2.2))
  (fun _ _ o=>((∃ (ys : List Val) (c : Int) (g : Avm.H),mapS f 0 v.items c0=some (ys,c)/\ys.length=v.items.length/\0<=c/\c<=1048576/\o=(.exit 0,[(3,.int .i64 d),(4,.ptr p ver 1 0 0),(5,.ptr h.length 0 2 0 0),(6,.ptr (h.length + 1) 0 8 0 0),(7,.ptr (h.length + 2) 0 4 0 0),(10,.ptr (h.length + 3) 0 4 0 0),(12,.ptr (h.length + 5) 0 4 0 0),(13,.int .i64 v.items.length)],h.set p (lefB ver c)++([.arr 0 2 [m.enc],.arr 0 8 [b.enc],.arr 0 4 [v.enc],.arr 0 4 [.agg [.int .i64 0,.int .i64 0,.str ⟨#[]⟩,.isl []]],.arr 0 4 (ys.map Val.enc),.arr 0 4 [.agg [.int .i64 v.kind,.int .i64 v.int,.str v.bytes,.osl (h.length + 4) 0 4 0 v.items.length]]]++g))) ∨
   (∃ (E : List AV) (c : Int) (g : Avm.H),mapS f 0 v.items c0=none/\o=(.ret,[(10,.ptr (h.length + 3) 0 4 0 0),(11,.bool false)],h.set p (lefB ver c)++([.arr 0 2 [m.enc],.arr 0 8 [b.enc],.arr 0 4 [v.enc],.arr 0 4 [.agg [.int .i64 0,.int .i64 0,.str ⟨#[]⟩,.isl []]],.arr 0 4 E,.arr 0 4 [.agg [.int .i64 v.kind,.int .i64 v.int,.str v.bytes,.osl (h.length + 4) 0 4 0 v.items.length]]]++g))))) ?_ ?_ ([],c0,[]) ⟨rfl,hc0,hc1,by simp⟩
 ·intro i x r gh hd hi hx hI K hK
  obtain ⟨ys,c,g⟩:=gh
  obtain ⟨hI1,hI2,hI3,hI4⟩:=hI
  dsimp only at hI1 hI2 hI3 hI4
  have hw:=Qd (n:=i + 1) (by omega)
  simp at hw
  have hwd : IntKind.wrap .i64 (d + 1)=d + 1:=XC (by omega) (by omega)
  have hdec : IntKind.wrap .i64 (c - 1)=c - 1:=XC (by omega) (by omega)
  have hgx : v.items[i]? = some x:=by rw [List.getElem?_eq_getElem hi,hx]
  rw [hd,mapS_step] at hI4
  have hrl : r=v.items.drop (i + 1):=by
   have:=List.drop_eq_getElem_cons hi
   rw [hd] at this
   injection this
  have hbx : ∀ (c : Int) (X : Avm.H),((h.set p (lefB ver c))++X)[p]? = some (lefB ver c):=fun c X=>by rw [get_app (by simpa using hp),List.getElem?_set_self hp]
  have hbs : ∀ (c d : Int) (X : Avm.H),((h.set p (lefB ver c))++X).set p (lefB ver d)=(h.set p (lefB ver d))++X:=fun c d X=>by rw [set_app (by simpa using hp),List.set_set]
  have hwn : ∀ n,ws<=h.length + n:=fun n=>by omega
  have hw0 : ws<=h.length:=by omega
  have hpne : ∀ k,¬ p=h.length + k:=fun k=>by omega
  have hpne0 : ¬ p=h.length:=by omega
  have hg : ((ys++v.items.drop i).map Val.enc)[i]? = some x.enc:=by
   rw [List.getElem?_map,List.getElem?_append_right (by omega),hI1,Nat.sub_self,hd]; rfl
  have hel : ((ys++v.items.drop i).map Val.enc).length=v.items.length:=by simp; omega
  have leafK : Xl b v i x=none->∀ G : Avm.H,∃ o,(if 30 < d + 1 ∨ c - 1 < 0 then some (.ret,[(10,.ptr (h.length + 3) 0 4 0 0),(11,.bool false)],h.set p (lefB ver (c - 1))++([.arr 0 2 [m.enc],.arr 0 8 [b.enc],.arr 0 4 [v.enc],.arr 0 4 [.agg [.int .i64 0,.int .i64 0,.str ⟨#[]⟩,.isl []]],.arr 0 4 ((ys++v.items.drop i).map Val.enc),.arr 0 4 [.agg [.int .i64 v.kind,.int .i64 v.int,.str v.bytes,.osl (h.length + 4) 0 4 0 v.items.length]]]++(g++G)))
      else K [(3,.int .i64 d),(4,.ptr p ver 1 0 0),(5,.ptr h.length 0 2 0 0),(6,.ptr (h.length + 1) 0 8 0 0),(7,.ptr (h.length + 2) 0 4 0 0),(10,.ptr (h.length + 3) 0 4 0 0),(12,.ptr (h.length + 5) 0 4 0 0),(13,.int .i64 (i + 1 : Nat))] (h.set p (lefB ver (c - 1))++([.arr 0 2 [m.enc],.arr 0 8 [b.enc],.arr 0 4 [v.enc],.arr 0 4 [.agg [.int .i64 0,.int .i64 0,.str ⟨#[]⟩,.isl []]],.arr 0 4 ((ys++v.items.drop i).map Val.enc),.arr 0 4 [.agg [.int .i64 v.kind,.int .i64 v.int,.str v.bytes,.osl (h.length + 4) 0 4 0 v.items.length]]]++(g++G))))=some o/\((∃ (ys : List Val) (c : Int) (g : Avm.H),mapS f 0 v.items c0=some (ys,c)/\ys.length=v.items.length/\0<=c/\c<=1048576/\o=(.exit 0,[(3,.int .i64 d),(4,.ptr p ver 1 0 0),(5,.ptr h.length 0 2 0 0),(6,.ptr (h.length + 1) 0 8 0 0),(7,.ptr (h.length + 2) 0 4 0 0),(10,.ptr (h.length + 3) 0 4 0 0),(12,.ptr (h.length + 5) 0 4 0 0),(13,.int .i64 v.items.length)],h.set p (lefB ver c)++([.arr 0 2 [m.enc],.arr 0 8 [b.enc],.arr 0 4 [v.enc],.arr 0 4 [.agg [.int .i64 0,.int .i64 0,.str ⟨#[]⟩,.isl []]],.arr 0 4 (ys.map Val.enc),.arr 0 4 [.agg [.int .i64 v.kind,.int .i64 v.int,.str v.bytes,.osl (h.length + 4) 0 4 0 v.items.length]]]++g))) ∨
   (∃ (E : List AV) (c : Int) (g : Avm.H),mapS f 0 v.items c0=none/\o=(.ret,[(10,.ptr (h.length + 3) 0 4 0 0),(11,.bool false)],h.set p (lefB ver c)++([.arr 0 2 [m.enc],.arr 0 8 [b.enc],.arr 0 4 [v.enc],.arr 0 4 [.agg [.int .i64 0,.int .i64 0,.str ⟨#[]⟩,.isl []]],.arr 0 4 E,.arr 0 4 [.agg [.int .i64 v.kind,.int .i64 v.int,.str v.bytes,.osl (h.length + 4) 0 4 0 v.items.length]]]++g)))):=by
   intro hpa G
   have hfi:=(hleaf i x hgx hpa).2 c
   rw [hfi] at hI4
   by_cases hbad : 30 < d + 1 ∨ c - 1 < 0
   ·rw [if_pos hbad] at hI4 ⊢
    exact ⟨_,rfl,.inr ⟨_,c - 1,g++G,by rw [hI4]; rfl,rfl⟩⟩
   ·rw [if_neg hbad] at hI4 ⊢
    dsimp only at hI4
    have hk:=hK (ys++[x],c - 1,g++G) ⟨by simp; omega,by dsimp only; omega,by dsimp only; omega,by
     dsimp only
     rw [hI4,← hrl]
     cases mapS f (i + 1) r (c - 1) with
     | none=>rfl
     | some w=>simp⟩
    have he : ys++[x]++v.items.drop (i + 1)=ys++v.items.drop i:=by rw [hd,← hrl]; simp
    dsimp only at hk
    rw [he] at hk
    exact hk
  have callK : ∀ q,Xl b v i x=some q->q.2.kind ≠ 12/\∃ (y : Val) (ok : Bool) (l' : Int),Qb cfg ws 44 [m.enc,q.1.enc,q.2.enc,.int .i64 (d + 1),.ptr p ver 1 0 0] (h.set p (lefB ver c)++([.arr 0 2 [m.enc],.arr 0 8 [b.enc],.arr 0 4 [v.enc],.arr 0 4 [.agg [.int .i64 0,.int .i64 0,.str ⟨#[]⟩,.isl []]],.arr 0 4 ((ys++v.items.drop i).map Val.enc),.arr 0 4 [.agg [.int .i64 v.kind,.int .i64 v.int,.str v.bytes,.osl (h.length + 4) 0 4 0 v.items.length]]]++(g++[.arr 0 8 [q.1.enc],.arr 0 4 [q.2.enc]])))=some (.tup [y.enc,.bool ok],h.set p (lefB ver l')++([.arr 0 2 [m.enc],.arr 0 8 [b.enc],.arr 0 4 [v.enc],.arr 0 4 [.agg [.int .i64 0,.int .i64 0,.str ⟨#[]⟩,.isl []]],.arr 0 4 ((ys++v.items.drop i).map Val.enc),.arr 0 4 [.agg [.int .i64 v.kind,.int .i64 v.int,.str v.bytes,.osl (h.length + 4) 0 4 0 v.items.length]]]++(g++[.arr 0 8 [q.1.enc],.arr 0 4 [q.2.enc]]))) /\
      ∀ G : Avm.H,∃ o,(if ok=true then K [(3,.int .i64 d),(4,.ptr p ver 1 0 0),(5,.ptr h.length 0 2 0 0),(6,.ptr (h.length + 1) 0 8 0 0),(7,.ptr (h.length + 2) 0 4 0 0),(10,.ptr (h.length + 3) 0 4 0 0),(12,.ptr (h.length + 5) 0 4 0 0),(13,.int .i64 (i + 1 : Nat))] (h.set p (lefB ver l')++([.arr 0 2 [m.enc],.arr 0 8 [b.enc],.arr 0 4 [v.enc],.arr 0 4 [.agg [.int .i64 0,.int .i64 0,.str ⟨#[]⟩,.isl []]],.arr 0 4 (((ys++v.items.drop i).map Val.enc).set i y.enc),.arr 0 4 [.agg [.int .i64 v.kind,.int .i64 v.int,.str v.bytes,.osl (h.length + 4) 0 4 0 v.items.length]]]++(g++G)))
      else some (.ret,[(10,.ptr (h.length + 3) 0 4 0 0),(11,.bool false)],h.set p (lefB ver l')++([.arr 0 2 [m.enc],.arr 0 8 [b.enc],.arr 0 4 [v.enc],.arr 0 4 [.agg [.int .i64 0,.int .i64 0,.str ⟨#[]⟩,.isl []]],.arr 0 4 ((ys++v.items.drop i).map Val.enc),.arr 0 4 [.agg [.int .i64 v.kind,.int .i64 v.int,.str v.bytes,.osl (h.length + 4) 0 4 0 v.items.length]]]++(g++G))))=some o/\((∃ (ys : List Val) (c : Int) (g : Avm.H),mapS f 0 v.items c0=some (ys,c)/\ys.length=v.items.length/\0<=c/\c<=1048576/\o=(.exit 0,[(3,.int .i64 d),(4,.ptr p ver 1 0 0),(5,.ptr h.length 0 2 0 0),(6,.ptr (h.length + 1) 0 8 0 0),(7,.ptr (h.length + 2) 0 4 0 0),(10,.ptr (h.length + 3) 0 4 0 0),(12,.ptr (h.length + 5) 0 4 0 0),(13,.int .i64 v.items.length)],h.set p (lefB ver c)++([.arr 0 2 [m.enc],.arr 0 8 [b.enc],.arr 0 4 [v.enc],.arr 0 4 [.agg [.int .i64 0,.int .i64 0,.str ⟨#[]⟩,.isl []]],.arr 0 4 (ys.map Val.enc),.arr 0 4 [.agg [.int .i64 v.kind,.int .i64 v.int,.str v.bytes,.osl (h.length + 4) 0 4 0 v.items.length]]]++g))) ∨
   (∃ (E : List AV) (c : Int) (g : Avm.H),mapS f 0 v.items c0=none/\o=(.ret,[(10,.ptr (h.length + 3) 0 4 0 0),(11,.bool false)],h.set p (lefB ver c)++([.arr 0 2 [m.enc],.arr 0 8 [b.enc],.arr 0 4 [v.enc],.arr 0 4 [.agg [.int .i64 0,.int .i64 0,.str ⟨#[]⟩,.isl []]],.arr 0 4 E,.arr 0 4 [.agg [.int .i64 v.kind,.int .i64 v.int,.str v.bytes,.osl (h.length + 4) 0 4 0 v.items.length]]]++g)))):=by
   intro q hpa
   obtain ⟨h12,hc⟩:=hcall i x q hgx hpa
   obtain ⟨y,ok,l',hca,hcb⟩:=hc c hI2 hI3 p ver ws (h.set p (lefB ver c)++([.arr 0 2 [m.enc],.arr 0 8 [b.enc],.arr 0 4 [v.enc],.arr 0 4 [.agg [.int .i64 0,.int .i64 0,.str ⟨#[]⟩,.isl []]],.arr 0 4 ((ys++v.items.drop i).map Val.enc),.arr 0 4 [.agg [.int .i64 v.kind,.int .i64 v.int,.str v.bytes,.osl (h.length + 4) 0 4 0 v.items.length]]]++(g++[.arr 0 8 [q.1.enc],.arr 0 4 [q.2.enc]]))) (hbx c _) hws
   rw [hbs] at hca
   refine ⟨h12,y,ok,l',hca,fun G=>?_⟩
   unfold Fills at hcb
   cases hfi : f i x c with
   | none=>
    rw [hfi] at hcb hI4
    dsimp only at hcb hI4
    subst hcb
    exact ⟨_,by rw [if_neg (by simp)],.inr ⟨_,l',g++G,by rw [hI4]; rfl,rfl⟩⟩
   | some w=>
    rw [hfi] at hcb hI4
    dsimp only at hcb hI4
    obtain ⟨rfl,rfl,rfl,h1,h2⟩:=hcb
    have hs : ((ys++v.items.drop i).map Val.enc).set i w.1.enc=(ys++[w.1]++v.items.drop (i + 1)).map Val.enc:=by
     rw [hd,List.map_append,List.set_append_right _ _ (by simp; omega),List.length_map,hI1,Nat.sub_self,List.map_cons,List.set_cons_zero,hrl]
     simp
    rw [if_pos rfl,hs]
    refine hK (ys++[w.1],w.2,g++G) ⟨by simp; omega,h1,h2,?_⟩
    dsimp only
    rw [hI4,← hrl]
    cases mapS f (i + 1) r w.2 with
    | none=>rfl
    | some z=>simp
  clear hK hI4 hcall
  have hleaf:=fun hpa=>(hleaf i x hgx hpa).1
  generalize ((ys++v.items.drop i).map Val.enc)=els at hg hel leafK callK ⊢
  obtain ⟨hilx,hgi⟩:=List.getElem?_eq_some_iff.1 hg
  simp only [lefB] at leafK callK hbx hbs ⊢
  simp only [Md.enc] at leafK callK ⊢
  by_cases q7 : b.kind=7
  ·obtain ⟨k0,kr,hkids⟩ : ∃ k0 kr,b.kids=k0 :: kr:=by
     cases hk : b.kids with
     | nil=>exact absurd hk (hin.list q7)
     | cons a r=>exact ⟨a,r,rfl⟩
   have hpa : Xl b v i x=some (k0,x):=by unfold Xl; rw [if_pos q7,hkids]; rfl
   obtain ⟨h12,y,ok,l',hca,hk⟩:=callK _ hpa
   obtain ⟨o,h4,h5⟩:=hk [.arr 0 8 [k0.enc],.arr 0 4 [x.enc],.arr 0 4 [y.enc]]
   dsimp only at h12
   simp [q7,hkids] at hca
   refine ⟨o,?_,h5⟩
   clear h5
   cases ok
   ·rw [if_neg (by simp)] at h4
    injection h4 with h4
    subst h4
    simp [c44L0,Md.enc,hi,hx,hgi,hel,hwd,hdec,hwn,hw0,hbx,hbs,hpne,hpne0,hws,q7,hkids,h12,hca]
   ·rw [if_pos rfl] at h4
    simp [q7,hkids] at h4
    simp [c44L0,Md.enc,hi,hx,hgi,hel,hwd,hdec,hwn,hw0,hbx,hbs,hpne,hpne0,hws,q7,hkids,h12,hca,hw,h4]
  ·by_cases q9 : b.kind=9
   ·obtain ⟨hc1,hc2⟩:=hin.choice q9
    have hpa : Xl b v i x=some (b.items[v.int.toNat].of,x):=by unfold Xl; rw [if_neg q7,if_pos q9,List.getElem?_eq_getElem hc2]; rfl
    obtain ⟨h12,y,ok,l',hca,hk⟩:=callK _ hpa
    obtain ⟨o,h4,h5⟩:=hk [.arr 0 8 [b.items[v.int.toNat].of.enc],.arr 0 4 [x.enc],.arr 0 4 [y.enc]]
    dsimp only at h12
    simp [q9,hc1,hc2] at hca
    refine ⟨o,?_,h5⟩
    clear h5
    cases ok
    ·rw [if_neg (by simp)] at h4
     injection h4 with h4
     subst h4
     simp [c44L0,Md.enc,hi,hx,hgi,hel,hwd,hdec,hwn,hw0,hbx,hbs,hpne,hpne0,hws,q9,hc1,hc2,h12,hca]
    ·rw [if_pos rfl] at h4
     simp [q9,hc1,hc2] at h4
     simp [c44L0,Md.enc,hi,hx,hgi,hel,hwd,hdec,hwn,hw0,hbx,hbs,hpne,hpne0,hws,q9,hc1,hc2,h12,hca,hw,h4]
   ·by_cases q8 : b.kind=8
    ·have hib : i < b.items.length:=by rw [← hin.record q8]; exact hi
     obtain ⟨t,ht⟩ : ∃ t,b.items[i]=t:=⟨_,rfl⟩
     by_cases q12 : x.kind=12
     ·cases hq : t.Qv with
      | nil=>
       have hpa : Xl b v i x=none:=by unfold Xl; rw [if_neg q7,if_neg q9,if_pos q8,if_pos q12,List.getElem?_eq_getElem hib,ht]; simp [hq]
       obtain ⟨o,h4,h5⟩:=leafK hpa [.arr 0 8 [t.of.enc],.arr 0 4 [x.enc]]
       refine ⟨o,?_,h5⟩
       clear h5
       by_cases b1 : 30 < d + 1
       ·rw [if_pos (.inl b1)] at h4
        injection h4 with h4
        subst h4
        simp [c44L0,Md.enc,hi,hx,hgi,hel,hwd,hdec,hwn,hw0,hbx,hbs,hpne,hpne0,hws,Ty.zero,b1,q8,hib,ht,q12,hq]
       ·by_cases b2 : c - 1 < 0
        ·rw [if_pos (.inr b2)] at h4
         injection h4 with h4
         subst h4
         simp [c44L0,Md.enc,hi,hx,hgi,hel,hwd,hdec,hwn,hw0,hbx,hbs,hpne,hpne0,hws,Ty.zero,b1,b2,q8,hib,ht,q12,hq]
        ·rw [if_neg (by omega)] at h4
         simp [Ty.zero,q8,hib,ht,q12,hq] at h4
         simp [c44L0,Md.enc,hi,hx,hgi,hel,hwd,hdec,hwn,hw0,hbx,hbs,hpne,hpne0,hws,Ty.zero,b1,b2,hw,h4,q8,hib,ht,q12,hq]
      | cons d1 dr=>
       have hpa : Xl b v i x=some (t.of,d1):=by unfold Xl; rw [if_neg q7,if_neg q9,if_pos q8,if_pos q12,List.getElem?_eq_getElem hib,ht]; simp [hq]
       have hgt : (0 : Int) < dr.length + 1:=by omega
       obtain ⟨h12,y,ok,l',hca,hk⟩:=callK _ hpa
       obtain ⟨o,h4,h5⟩:=hk [.arr 0 8 [t.of.enc],.arr 0 4 [d1.enc],.arr 0 4 [y.enc]]
       dsimp only at h12
       simp [q8,hib,ht,q12,hq,hgt] at hca
       refine ⟨o,?_,h5⟩
       clear h5
       cases ok
       ·rw [if_neg (by simp)] at h4
        injection h4 with h4
        subst h4
        simp [c44L0,Md.enc,hi,hx,hgi,hel,hwd,hdec,hwn,hw0,hbx,hbs,hpne,hpne0,hws,q8,hib,ht,q12,hq,hgt,h12,hca]
       ·rw [if_pos rfl] at h4
        simp [q8,hib,ht,q12,hq,hgt] at h4
        simp [c44L0,Md.enc,hi,hx,hgi,hel,hwd,hdec,hwn,hw0,hbx,hbs,hpne,hpne0,hws,q8,hib,ht,q12,hq,hgt,h12,hca,hw,h4]
     ·have hpa : Xl b v i x=some (t.of,x):=by unfold Xl; rw [if_neg q7,if_neg q9,if_pos q8,if_neg q12,List.getElem?_eq_getElem hib,ht]; rfl
      obtain ⟨h12,y,ok,l',hca,hk⟩:=callK _ hpa
      obtain ⟨o,h4,h5⟩:=hk [.arr 0 8 [t.of.enc],.arr 0 4 [x.enc],.arr 0 4 [y.enc]]
      dsimp only at h12
      simp [q8,hib,ht,q12] at hca
      refine ⟨o,?_,h5⟩
      clear h5
      cases ok
      ·rw [if_neg (by simp)] at h4
       injection h4 with h4
       subst h4
       simp [c44L0,Md.enc,hi,hx,hgi,hel,hwd,hdec,hwn,hw0,hbx,hbs,hpne,hpne0,hws,q8,hib,ht,q12,h12,hca]
      ·rw [if_pos rfl] at h4
       simp [q8,hib,ht,q12] at h4
       simp [c44L0,Md.enc,hi,hx,hgi,hel,hwd,hdec,hwn,hw0,hbx,hbs,hpne,hpne0,hws,q8,hib,ht,q12,h12,hca,hw,h4]
    ·have hpa : Xl b v i x=none:=by unfold Xl; rw [if_neg q7,if_neg q9,if_neg q8]
     by_cases q6 : b.kind=6
     ·obtain ⟨o,h4,h5⟩:=leafK hpa [.arr 0 8 [Ty.zero.enc],.arr 0 4 [x.enc]]
      refine ⟨o,?_,h5⟩
      clear h5
      by_cases b1 : 30 < d + 1
      ·rw [if_pos (.inl b1)] at h4
       injection h4 with h4
       subst h4
       simp [c44L0,Md.enc,hi,hx,hgi,hel,hwd,hdec,hwn,hw0,hbx,hbs,hpne,hpne0,hws,Ty.zero,b1,q6]
      ·by_cases b2 : c - 1 < 0
       ·rw [if_pos (.inr b2)] at h4
        injection h4 with h4
        subst h4
        simp [c44L0,Md.enc,hi,hx,hgi,hel,hwd,hdec,hwn,hw0,hbx,hbs,hpne,hpne0,hws,Ty.zero,b1,b2,q6]
       ·rw [if_neg (by omega)] at h4
        simp [Ty.zero,q6] at h4
        simp [c44L0,Md.enc,hi,hx,hgi,hel,hwd,hdec,hwn,hw0,hbx,hbs,hpne,hpne0,hws,Ty.zero,b1,b2,hw,h4,q6]
     ·have q12 : x.kind=12:=(hleaf hpa).resolve_left q6
      obtain ⟨o,h4,h5⟩:=leafK hpa [.arr 0 8 [Ty.zero.enc],.arr 0 4 [x.enc]]
      refine ⟨o,?_,h5⟩
      clear h5
      by_cases b1 : 30 < d + 1
      ·rw [if_pos (.inl b1)] at h4
       injection h4 with h4
       subst h4
       simp [c44L0,Md.enc,hi,hx,hgi,hel,hwd,hdec,hwn,hw0,hbx,hbs,hpne,hpne0,hws,Ty.zero,b1,q6,q7,q8,q9,q12]
      ·by_cases b2 : c - 1 < 0
       ·rw [if_pos (.inr b2)] at h4
        injection h4 with h4
        subst h4
        simp [c44L0,Md.enc,hi,hx,hgi,hel,hwd,hdec,hwn,hw0,hbx,hbs,hpne,hpne0,hws,Ty.zero,b1,b2,q6,q7,q8,q9,q12]
       ·rw [if_neg (by omega)] at h4
        simp [Ty.zero,q6,q7,q8,q9,q12] at h4
        simp [c44L0,Md.enc,hi,hx,hgi,hel,hwd,hdec,hwn,hw0,hbx,hbs,hpne,hpne0,hws,Ty.zero,b1,b2,hw,h4,q6,q7,q8,q9,q12]
 ·intro gh K hI
  obtain ⟨ys,c,g⟩:=gh
  obtain ⟨hI1,hI2,hI3,hI4⟩:=hI
  dsimp only at hI1 hI2 hI3 hI4
  rw [List.drop_eq_nil_of_le (Nat.le_refl _)] at hI4
  refine ⟨_,?_,.inl ⟨ys,c,g,by rw [hI4]; simp [mapS],hI1,hI2,hI3,rfl⟩⟩
  rw [List.drop_eq_nil_of_le (Nat.le_refl _),List.append_nil]
  simp [c44L0,Md.enc]
end Go.Proofs.YtflbneepngjglaaGreatDoor
namespace Go.Proofs.YtflbneepngjglaaGreatDoor
open Go Go.Avm
theorem fullO_nil {b : Ty} {v : Val} {d l : Int} {f : Nat->Val->Int->Option (Val × Int)} (h0 : v.items=[]) (h1 : ¬ l - 1 < 0) (h2 : ¬ 30 < d) : fullO b v d l f=some (v,l - 1):=by
 unfold fullO
 rw [if_neg (by omega),h0]
 have:=v.eta
 rw [h0] at this
 simp [mapS,this]
set_option maxHeartbeats 4000000 in
theorem fill_core (m : Md) (hm : m.ok) (hlm : m.lim) (hfm : m.fm) (t : Ty) (ht : t.wid<=1048576) (hn : t.nodes<=600) (b : Ty) (hb : beh m 21 t=some b) (v : Val) (hv : v.size<=1048576) (hin : PartIn b v) (d : Int) (hd0 : 0<=d) (hd1 : d<=31) (l : Int) (hl0 : 0<=l) (hl1 : l<=1048576) (f : Nat->Val->Int->Option (Val × Int))
    (hleaf : d<=30->∀ i x,v.items[i]? = some x->Xl b v i x=none->(b.kind=6 ∨ x.kind=12)/\∀ c : Int,f i x c=if 30 < d + 1 ∨ c - 1 < 0 then none else some (x,c - 1))
    (hcall : d<=30->∀ i x q,v.items[i]? = some x->Xl b v i x=some q->q.2.kind ≠ 12/\∀ c,0<=c->c<=1048576->FillAt m q.1 q.2 (d + 1) c (f i x c)) : FillAt m t v d l (fullO b v d l f):=by
 intro p ver ws h hh hws
 have hp : p < h.length:=(List.getElem?_eq_some_iff.1 hh).1
 have hse:=v.size_eq
 have hlen:=Val.QX v.items
 have hroot:=fun ws h=>root_beh m hm hlm hfm t ht hn ws h
 have hcopy:=fun ws h=>copyO_ok _ v (Nat.le_refl _) hv ws h
 rw [hb] at hroot
 have hwn : ∀ n,ws<=h.length + n:=fun n=>by omega
 have hw0 : ws<=h.length:=by omega
 have hpne : ∀ k,¬ p=h.length + k:=fun k=>by omega
 have hpne0 : ¬ p=h.length:=by omega
 have hdec : IntKind.wrap .i64 (l - 1)=l - 1:=XC (by omega) (by omega)
 have hbx : ∀ (c : Int) (X : Avm.H),((h.set p (lefB ver c))++X)[p]? = some (lefB ver c):=fun c X=>by rw [get_app (by simpa using hp),List.getElem?_set_self hp]
 have hb0 : ∀ (X : Avm.H),(h++X)[p]? = some (lefB ver l):=fun X=>by rw [get_app hp,hh]
 have hbs0 : ∀ (d : Int) (X : Avm.H),(h++X).set p (lefB ver d)=(h.set p (lefB ver d))++X:=fun d X=>set_app hp
 have htk : ∀ (c : Int) (X : Avm.H),List.take h.length ((h.set p (lefB ver c))++X)=h.set p (lefB ver c):=fun c X=>by rw [List.take_left' (by simp)]
 by_cases hdp : 30 < d
 ·unfold fullO
  rw [if_pos (.inr hdp)]
  refine ⟨.mk 0 0 ⟨#[]⟩ [],false,l - 1,Qc rfl rfl ?_,rfl⟩
  simp only [lefB] at *
  simp [F44,c44,Md.enc,hb0,hbs0,hbx,hdec,hws,hwn,hw0,htk,hdp,hpne,hpne0]
 ·by_cases hneg : l - 1 < 0
  ·unfold fullO
   rw [if_pos (.inl hneg)]
   refine ⟨.mk 0 0 ⟨#[]⟩ [],false,l - 1,Qc rfl rfl ?_,rfl⟩
   simp only [lefB] at *
   simp [F44,c44,Md.enc,hb0,hbs0,hbx,hdec,hws,hwn,hw0,htk,hneg,hdp,hpne,hpne0]
  ·by_cases h0 : v.items=[]
   ·rw [fullO_nil h0 hneg hdp]
    have hlp:=Qz (f:=evC (Qb cfg) Qa cfg.pol h.length ws c44L0) (keep:=[3,4,5,6,7,10,12,13]) ([] : List Val)
     (fun i=>[(3,.int .i64 d),(4,.ptr p ver 1 0 0),(5,.ptr h.length 0 2 0 0),(6,.ptr (h.length + 1) 0 8 0 0),(7,.ptr (h.length + 2) 0 4 0 0),(10,.ptr (h.length + 3) 0 4 0 0),(12,.ptr (h.length + 4) 0 4 0 0),(13,.int .i64 i)])
     (fun _=>h.set p (lefB ver (l - 1))++[.arr 0 2 [m.enc],.arr 0 8 [b.enc],.arr 0 4 [v.enc],.arr 0 4 [.agg [.int .i64 0,.int .i64 0,.str ⟨#[]⟩,.isl []]],.arr 0 4 [v.enc]])
     (fun _ _=>(.exit 0,[(3,.int .i64 d),(4,.ptr p ver 1 0 0),(5,.ptr h.length 0 2 0 0),(6,.ptr (h.length + 1) 0 8 0 0),(7,.ptr (h.length + 2) 0 4 0 0),(10,.ptr (h.length + 3) 0 4 0 0),(12,.ptr (h.length + 4) 0 4 0 0),(13,.int .i64 (0 : Nat))],
      h.set p (lefB ver (l - 1))++[.arr 0 2 [m.enc],.arr 0 8 [b.enc],.arr 0 4 [v.enc],.arr 0 4 [.agg [.int .i64 0,.int .i64 0,.str ⟨#[]⟩,.isl []]],.arr 0 4 [v.enc]])) ?_ ?_
    ·refine ⟨v,true,l - 1,Qc rfl rfl ?_,rfl,rfl,rfl,by omega,by omega⟩
     simp only [cpV,cpH,if_pos h0] at hcopy
     simp only [lefB] at *
     simp [h0] at hlp hcopy hroot
     simp only [Md.enc] at hroot hlp
     simp [F44,c44,Md.enc,hb0,hbs0,hbx,hdec,hws,hwn,hw0,htk,hneg,hdp,hpne,hpne0,hroot,hcopy,h0,hlp]
    ·intro i x r _ hi; simp at hi
    ·intro K
     simp [c44L0,Md.enc,h0]
   ·unfold fullO
    rw [if_neg (by omega)]
    obtain ⟨o,e1,e2⟩:=fill_loop m b v hv hin d hd0 (by omega) (l - 1) (by omega) (by omega) f (hleaf (by omega)) (hcall (by omega)) p ver ws h hp hws
    simp only [cpV,cpH,if_neg h0] at hcopy
    rcases e2 with ⟨ys,c,g,h1,h2,h3,h4,rfl⟩ | ⟨E,c,g,h1,rfl⟩
    ·rw [h1]
     refine ⟨.mk v.kind v.int v.bytes ys,true,c,Qc rfl rfl ?_,rfl,rfl,rfl,h3,h4⟩
     have htk2 : (ys.map Val.enc).take v.items.length=ys.map Val.enc:=List.take_of_length_le (by simp; omega)
     simp only [lefB] at *
     simp at e1 hcopy hroot
     simp only [Md.enc] at hroot e1
     simp [F44,c44,Md.enc,hb0,hbs0,hbx,hdec,hws,hwn,hw0,htk,hneg,hdp,hpne,hpne0,hroot,hcopy,e1,h2,htk2]
    ·rw [h1]
     refine ⟨.mk 0 0 ⟨#[]⟩ [],false,c,Qc rfl rfl ?_,rfl⟩
     simp only [lefB] at *
     simp at e1 hcopy hroot
     simp only [Md.enc] at hroot e1
     simp [F44,c44,Md.enc,hb0,hbs0,hbx,hdec,hws,hwn,hw0,htk,hneg,hdp,hpne,hpne0,hroot,hcopy,e1]
theorem fill_ok {m : Md} {S : List (Ty × Val)} (M : m.fine S) (hSs : ∀ q ∈ S,q.2.size<=1048576) : ∀ (n : Nat) (t : Ty) (v : Val),n<=31->t.fine m S->(∃ k,Xw m k t v=true)->v.size<=1048576->∀ l,0<=l->l<=1048576->FillAt m t v (31 - n) l (fullN m n t v l)
 | n,t,v,hn,T,⟨k,hk⟩,hv,l,hl0,hl1=>by
  cases k with
  | zero=>cases hk
  | succ k=>
  cases hb : beh m 21 t with
  | none=>unfold Xw at hk; rw [hb] at hk; cases hk
  | some b=>
  have I:=fill_in M hSs T hb hv hk
  obtain ⟨B,hb10⟩:=T.beh M hb
  cases n with
  | zero=>
   have e:=fill_core m M.ok M.lim M.fm t T.wid T.nodes b hb v hv I.part (31 - (0 : Nat)) (by omega) (by omega) l hl0 hl1 (fun _ _ _=>none) (fun h=>by omega) (fun h=>by omega)
   have he : fullO b v (31 - (0 : Nat)) l (fun _ _ _=>none)=fullN m 0 t v l:=by unfold fullO fullN; rw [if_pos (.inr (by omega))]
   rwa [he] at e
  | succ n=>
   have hd : (31 : Int) - (n + 1 : Nat) + 1=31 - n:=by omega
   have e:=fill_core m M.ok M.lim M.fm t T.wid T.nodes b hb v hv I.part (31 - (n + 1 : Nat)) (by omega) (by omega) l hl0 hl1 (fullF b v n (fullN m n))
    (fun h i x hx hp=>by
     obtain ⟨h1,h2,h3⟩:=I.leaf i x hx hp
     refine ⟨h3,fun c=>?_⟩
     unfold fullF leafS
     rw [hp]
     dsimp only
     by_cases h1 : c - 1 < 0
     ·rw [if_pos (.inr h1),if_pos (.inr h1)]
     ·by_cases h2 : n=0
      ·rw [if_pos (.inl h2),if_pos (.inl (by omega))]
      ·rw [if_neg (by omega),if_neg (by omega)])
    (fun h i x q hx hp=>by
     obtain ⟨h1,h2,h3,h4⟩:=I.real i x q hx hp
     refine ⟨h1,fun c hc0 hc1=>?_⟩
     rw [hd]
     unfold fullF
     rw [hp]
     exact fill_ok M hSs n q.1 q.2 (by omega) h2 h4 h3 c hc0 hc1)
   have he : fullO b v (31 - (n + 1 : Nat)) l (fullF b v n (fullN m n))=fullN m (n + 1) t v l:=by
    unfold fullO
    rw [fullN,hb,Option.getD_some]
    by_cases h1 : l - 1 < 0
    ·rw [if_pos (.inl h1),if_pos h1]
    ·rw [if_neg (by omega),if_neg h1]
     all_goals (cases mapS (fullF b v n (fullN m n)) 0 v.items (l - 1) <;> rfl)
   rwa [he] at e
termination_by n=>n
end Go.Proofs.YtflbneepngjglaaGreatDoor
