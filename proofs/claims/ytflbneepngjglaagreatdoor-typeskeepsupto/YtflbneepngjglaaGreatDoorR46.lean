/- The reference's comparing of values. -/
import Derived.Test.YtflbneepngjglaaGreatDoorR34
import Derived.Test.YtflbneepngjglaaGreatDoorR45
import Derived.Test.YtflbneepngjglaaGreatDoorR28
import Derived.Test.YtflbneepngjglaaGreatDoorR31
set_option linter.all false
namespace Go.Proofs.YtflbneepngjglaaGreatDoor
open Go Go.Avm
def behQ (m : Md) (t : Ty) : Option Ty:=if errC m t=0 then beh m 21 t else none
def fulQ (m : Md) (t : Ty) (v : Val) : Option Val:=if askE m t v=0 then (fullN m 30 t v 600).map (·.1) else none
def plnQ (m : Md) (t : Ty) (v : Val) : Option Val:=if askE m t v=0 then some (plainV m t v) else none
theorem behQ_wid {m : Md} (hm : m.ok) {t b : Ty} (hs : t.size≤67108864) (h : behQ m t=some b) : b.wid≤67108864:=by
 unfold behQ at h
 split at h
 ·rename_i q
  obtain ⟨M,T,_,_⟩:=fine_of hm hs q
  exact (T.beh M h).1.wid
 ·cases h
theorem behO_some (m : Md) (hm : m.ok) (t : Ty) (hs : t.size≤67108864) (b : Ty) (hb : behQ m t=some b) (ws : Nat) (h : Avm.H) : callL cfg ws 22 [m.enc,t.enc] h=some (.tup [otV h.length b,.int .i64 0],h++otB b):=by
 have hw : t.wid≤67108864:=Nat.le_trans t.wid_le hs
 have hbw:=behQ_wid hm hs hb
 have e1:=fun ws h=>ctypeC_ok m hm t hs ws h
 have e2:=fun ws h=>behind_ok m hm t hw ws h
 have e3:=fun ws h=>ownO_ok _ b (Nat.le_refl _) hbw ws h
 unfold behQ at hb
 split at hb
 ·rename_i q
  rw [q] at e1
  rw [hb] at e2
  refine callL_fn rfl rfl ?_
  unfold otV otC otB at e3 ⊢
  simp only [Md.enc] at e1 e2
  simp at e1 e2 e3
  simp [F22,c22,Md.enc,e1,e2,e3,leave,own3,own2,own1,ownL,deep,Nat.add_assoc]
 ·cases hb
theorem behO_none (m : Md) (hm : m.ok) (t : Ty) (hs : t.size≤67108864) (hb : behQ m t=none) : ∃ e,∀ (ws : Nat) (h : Avm.H),callL cfg ws 22 [m.enc,t.enc] h=some (.tup [Ty.zero.enc,.int .i64 e],h):=by
 have hw : t.wid≤67108864:=Nat.le_trans t.wid_le hs
 have e1:=fun ws h=>ctypeC_ok m hm t hs ws h
 have e2:=fun ws h=>behind_ok m hm t hw ws h
 unfold behQ at hb
 by_cases q : errC m t=0
 ·rw [if_pos q] at hb
  rw [hb] at e2
  rw [q] at e1
  refine ⟨13,fun ws h=>callL_fn rfl rfl ?_⟩
  simp only [Md.enc] at e1 e2
  simp [Ty.zero] at e1 e2
  simp [F22,c22,Md.enc,e1,e2,leave,own3,own2,own1,ownL,deep,Ty.zero]
 ·refine ⟨errC m t,fun ws h=>callL_fn rfl rfl ?_⟩
  simp only [Md.enc] at e1 e2
  simp at e1 e2
  simp [F22,c22,Md.enc,e1,q,leave,own3,own2,own1,ownL,deep,Ty.zero]
theorem plnO_some (m : Md) (hm : m.ok) (t : Ty) (hs : t.size≤67108864) (v : Val) (hv : v.size≤67108864) (r : Val) (hr : plnQ m t v=some r) (ws : Nat) (h : Avm.H) : callL cfg ws 11 [m.enc,t.enc,v.enc] h=some (.tup [ocV h.length r,.int .i64 0],h++[ocB r]):=by
 have e1:=fun ws h=>asked_ok m hm t hs v hv ws h
 unfold plnQ at hr
 split at hr
 ·rename_i q
  injection hr with hr
  refine callL_fn rfl rfl ?_
  obtain ⟨q1,q2,q3⟩:=askE_zero q
  obtain ⟨M,T,hS,hSs⟩:=fine_of hm hs q1
  have hpl:=plainV_eq M hS hSs T v
  have hrr : rest (allS m t) []≤(allS m t).length:=List.length_filter_le _ _
  have e2:=fun ws h'=>plain_ok M hS hSs (fuelP v) [] t v (plainV m t v) hpl T ⟨_,q3⟩ hv (by simp) (by simpa using hrr) (.ptr (h.length + 4) 0 3 0 0) (h++([.arr 0 2 [m.enc],.arr 0 8 [t.enc],.arr 0 4 [v.enc],.arr 0 4 [.agg [.int .i64 0,.int .i64 0,.str ⟨#[]⟩,.isl []]],.arr 0 3 [.agg [.str m.name,.isl (m.defs.map Df.enc),.isl []]]]++h')) ⟨h.length + 4,.isl [],rfl,by simp,by simp,.inl rfl⟩ ws
  have e2:=fun ws=>e2 ws []
  have hsz:=plainN_size hpl
  have e3:=fun ws h=>copiedO_ok _ (plainV m t v) (Nat.le_refl _) (by have:=nodes_le_size _ (plainV m t v) (Nat.le_refl _); omega) ws h
  rw [q] at e1
  rw [hr] at e2 e3
  unfold ocV ocB at e3 ⊢
  simp at e2 e3
  simp only [Md.enc] at e1 e2
  simp at e1
  simp [F11,c11,Md.enc,e1,e2,e3,leave,own3,own2,own1,ownL,deep]
 ·cases hr
theorem plnO_none (m : Md) (hm : m.ok) (t : Ty) (hs : t.size≤67108864) (v : Val) (hv : v.size≤67108864) (hr : plnQ m t v=none) : ∃ e,∀ (ws : Nat) (h : Avm.H),callL cfg ws 11 [m.enc,t.enc,v.enc] h=some (.tup [zeroV.enc,.int .i64 e],h):=by
 have e1:=fun ws h=>asked_ok m hm t hs v hv ws h
 unfold plnQ at hr
 split at hr
 ·cases hr
 ·rename_i q
  refine ⟨askE m t v,fun ws h=>callL_fn rfl rfl ?_⟩
  simp only [Md.enc] at e1
  simp at e1
  simp [F11,c11,Md.enc,e1,q,zeroV,leave,own3,own2,own1,ownL,deep]
theorem fulO_some (m : Md) (hm : m.ok) (t : Ty) (hs : t.size≤67108864) (v : Val) (hv : v.size≤67108864) (r : Val) (hr : fulQ m t v=some r) (ws : Nat) (h : Avm.H) : callL cfg ws 14 [m.enc,t.enc,v.enc] h=some (.tup [ocV h.length r,.int .i64 0],h++[ocB r]):=by
 have e1:=fun ws h=>asked_ok m hm t hs v hv ws h
 unfold fulQ at hr
 split at hr
 ·rename_i q
  refine callL_fn rfl rfl ?_
  obtain ⟨q1,q2,q3⟩:=askE_zero q
  obtain ⟨M,T,hS,hSs⟩:=fine_of hm hs q1
  obtain ⟨r',ok,l',e2,e3⟩:=full_ok M hSs 30 t v (by omega) T ⟨_,q3⟩ hv 600 (by omega) (by omega) (h.length + 4) 0 h.length (h++([.arr 0 2 [m.enc],.arr 0 8 [t.enc],.arr 0 4 [v.enc],.arr 0 4 [.agg [.int .i64 0,.int .i64 0,.str ⟨#[]⟩,.isl []]],filB m 0 600])) (by simp) (by omega)
  rw [q] at e1
  cases hf : fullN m 30 t v 600 with
  | none=>rw [hf] at hr; cases hr
  | some w=>
   have hfew:=fullN_few M hSs T ⟨_,q3⟩ hv hf e3
   rw [hf] at e3 hr
   injection hr with hr
   dsimp only at hr
   unfold Fills at e3
   dsimp only at e3
   obtain ⟨rfl,rfl,rfl,h1,h2⟩:=e3
   rw [hr] at e2 hfew
   have e4:=fun ws h=>copiedO_ok _ r (Nat.le_refl _) (by omega) ws h
   simp only [Md.enc] at e1 e2
   simp at e1
   simp only [filB] at e2
   unfold ocV ocB at e4 ⊢
   simp at e2 e4
   simp [F14,c14,Md.enc,e1,e2,e4,leave,own3,own2,own1,ownL,deep]
 ·cases hr
theorem fulO_none (m : Md) (hm : m.ok) (t : Ty) (hs : t.size≤67108864) (v : Val) (hv : v.size≤67108864) (hr : fulQ m t v=none) : ∃ e,∀ (ws : Nat) (h : Avm.H),callL cfg ws 14 [m.enc,t.enc,v.enc] h=some (.tup [zeroV.enc,.int .i64 e],h):=by
 have e1:=fun ws h=>asked_ok m hm t hs v hv ws h
 unfold fulQ at hr
 by_cases q : askE m t v=0
 ·rw [if_pos q] at hr
  refine ⟨2,fun ws h=>callL_fn rfl rfl ?_⟩
  obtain ⟨q1,q2,q3⟩:=askE_zero q
  obtain ⟨M,T,hS,hSs⟩:=fine_of hm hs q1
  obtain ⟨r',ok,l',e2,e3⟩:=full_ok M hSs 30 t v (by omega) T ⟨_,q3⟩ hv 600 (by omega) (by omega) (h.length + 4) 0 h.length (h++([.arr 0 2 [m.enc],.arr 0 8 [t.enc],.arr 0 4 [v.enc],.arr 0 4 [.agg [.int .i64 0,.int .i64 0,.str ⟨#[]⟩,.isl []]],filB m 0 600])) (by simp) (by omega)
  rw [q] at e1
  cases hf : fullN m 30 t v 600 with
  | some w=>rw [hf] at hr; cases hr
  | none=>
   rw [hf] at e3
   unfold Fills at e3
   dsimp only at e3
   subst e3
   simp only [Md.enc] at e1 e2
   simp at e1
   simp only [filB] at e2
   simp at e2
   simp [F14,c14,Md.enc,e1,e2,zeroV,leave,own3,own2,own1,ownL,deep]
 ·refine ⟨askE m t v,fun ws h=>callL_fn rfl rfl ?_⟩
  simp only [Md.enc] at e1
  simp at e1
  simp [F14,c14,Md.enc,e1,q,zeroV,leave,own3,own2,own1,ownL,deep]
end Go.Proofs.YtflbneepngjglaaGreatDoor
namespace Go.Proofs.YtflbneepngjglaaGreatDoor
open Go Go.Avm
def spoil (x : It) : It:=.mk ⟨#[115,112,111,105,108,116]⟩ x.of x.opt x.extra x.dflt
def kEnv (a3 a4 a5 a7 a8 a9 a10 a12 a14 a16 a17 a18 : AV) (l : Env) : Env:=[(3,a3),(4,a4),(5,a5),(7,a7),(8,a8),(9,a9),(10,a10),(12,a12),(14,a14),(16,a16),(17,a17),(18,a18)]++l
theorem set_here {α : Type} {l : List α} {i : Nat} {x : α} (h : l[i]? = some x) : l.set i x=l:=by
 refine List.ext_getElem? fun j=>?_
 by_cases e : i=j
 ·subst e
  rw [List.getElem?_set_self (List.getElem?_eq_some_iff.1 h).1,h]
 ·rw [List.getElem?_set_ne e]
def bad (k : Int) : AV:=.agg [.int .i64 k,.int .i64 0,.str ⟨#[]⟩,.isl []]
theorem keeps_l0 (a3 a4 a5 a7 a8 a9 a12 a14 a16 a17 a18 : AV) (HH : Avm.H) (A P : Nat) (cs : List AV) (ks : AV) (its : List It) (hcs : cs.length=6) (hA : HH[A]? = some (.arr 0 8 [.agg (cs++[.osl P 0 12 0 its.length,ks])])) (hP : HH[P]? = some (.arr 0 12 (its.map It.enc))) (hne : P ≠ A) (hl : its.length≤67108864) :
    roundsL (evC (callL cfg) roundsL cfg.pol 0 0 c5L0) [3,4,5,7,8,9,10,12,14,16,17,18,19] (kEnv a3 a4 a5 a7 a8 a9 (.ptr A 0 8 0 0) a12 a14 a16 a17 a18 [(19,.int .i64 (0 : Nat))]) HH =
     some (.exit 0,kEnv a3 a4 a5 a7 a8 a9 (.ptr A 0 8 0 0) a12 a14 a16 a17 a18 [(19,.int .i64 its.length)],HH.set P (.arr 0 12 ((its.map spoil).map It.enc))):=by
 have hAl:=(List.getElem?_eq_some_iff.1 hA).1
 have hPl:=(List.getElem?_eq_some_iff.1 hP).1
 match cs,hcs with
 | [c0,c1,c2,c3,c4,c5],_=>
 have hlp:=loop_list (f:=evC (callL cfg) roundsL cfg.pol 0 0 c5L0) (keep:=[3,4,5,7,8,9,10,12,14,16,17,18,19]) its (fun i=>kEnv a3 a4 a5 a7 a8 a9 (.ptr A 0 8 0 0) a12 a14 a16 a17 a18 [(19,.int .i64 i)])
  (fun i=>HH.set P (.arr 0 12 (((its.take i).map spoil).map It.enc++(its.drop i).map It.enc)))
  (fun _ _=>(.exit 0,kEnv a3 a4 a5 a7 a8 a9 (.ptr A 0 8 0 0) a12 a14 a16 a17 a18 [(19,.int .i64 its.length)],HH.set P (.arr 0 12 ((its.map spoil).map It.enc)))) ?_ ?_
 ·have e0 : HH.set P (.arr 0 12 (its.map It.enc))=HH:=set_here hP
  simp only [List.take_zero,List.drop_zero,List.map_nil,List.nil_append,e0] at hlp
  exact hlp
 ·intro i x r hd hi hx K hK
  have hw:=wrap_nat (n:=i + 1) (by omega)
  simp at hw
  have hll : (its.take i).length=i:=by simp; omega
  have ht : its.take (i + 1)=its.take i++[x]:=by rw [List.take_succ_eq_append_getElem hi,hx]
  have hg : (((its.take i).map spoil).map It.enc++(its.drop i).map It.enc)[i]? = some x.enc:=by
   rw [List.getElem?_append_right (by simp; omega),List.length_map,List.length_map,hll,Nat.sub_self,hd]; rfl
  have hel : (((its.take i).map spoil).map It.enc++(its.drop i).map It.enc).length=its.length:=by simp; omega
  have hrl : r=its.drop (i + 1):=by
   have:=List.drop_eq_getElem_cons hi
   rw [hd] at this
   injection this
  have hs : (((its.take i).map spoil).map It.enc++(its.drop i).map It.enc).set i (spoil x).enc=((its.take (i + 1)).map spoil).map It.enc++(its.drop (i + 1)).map It.enc:=by
   rw [hd,List.set_append_right _ _ (by simp; omega),List.length_map,List.length_map,hll,Nat.sub_self,List.map_cons,List.set_cons_zero,ht,hrl]
   simp
  rw [← hs] at hK
  generalize (((its.take i).map spoil).map It.enc++(its.drop i).map It.enc)=es at *
  obtain ⟨hix,hgx⟩:=List.getElem?_eq_some_iff.1 hg
  have hA' : ∀ X : ABlock,(List.set HH P X)[A]? = some (.arr 0 8 [.agg [c0,c1,c2,c3,c4,c5,.osl P 0 12 0 its.length,ks]]):=fun X=>by rw [List.getElem?_set_ne hne]; exact hA
  have hP' : ∀ X : ABlock,(List.set HH P X)[P]? = some X:=fun X=>List.getElem?_set_self hPl
  unfold kEnv at hK ⊢
  rw [show (spoil x).enc = .agg [.str ⟨#[115,112,111,105,108,116]⟩,.int .i64 x.of.kind,.str x.of.name,.int .i64 x.of.lo,.int .i64 x.of.hi,.bool x.of.free,.bool x.of.ext,.isl (x.of.items.map It.enc),.isl (x.of.kids.map Ty.enc),.bool x.opt,.bool x.extra,.isl (x.dflt.map Val.enc)] from It.enc_eq _] at hK
  simp at hK
  simp [c5L0,hA',hP',hi,hel,hgx,hw,hK]
 ·intro K
  have hA' : ∀ X : ABlock,(List.set HH P X)[A]? = some (.arr 0 8 [.agg [c0,c1,c2,c3,c4,c5,.osl P 0 12 0 its.length,ks]]):=fun X=>by rw [List.getElem?_set_ne hne]; exact hA
  simp [c5L0,kEnv,hA']
theorem keeps_l0z (a3 a4 a5 a7 a8 a9 a12 a14 a16 a17 a18 : AV) (HH : Avm.H) (A : Nat) (hA : HH[A]? = some (.arr 0 8 [.agg [.int .i64 0,.str ⟨#[]⟩,.int .i64 0,.int .i64 0,.bool false,.bool false,.isl [],.isl []]])) :
    roundsL (evC (callL cfg) roundsL cfg.pol 0 0 c5L0) [3,4,5,7,8,9,10,12,14,16,17,18,19] (kEnv a3 a4 a5 a7 a8 a9 (.ptr A 0 8 0 0) a12 a14 a16 a17 a18 [(19,.int .i64 (0 : Nat))]) HH =
     some (.exit 0,kEnv a3 a4 a5 a7 a8 a9 (.ptr A 0 8 0 0) a12 a14 a16 a17 a18 [(19,.int .i64 (0 : Nat))],HH):=by
 have hlp:=loop_list (f:=evC (callL cfg) roundsL cfg.pol 0 0 c5L0) (keep:=[3,4,5,7,8,9,10,12,14,16,17,18,19]) ([] : List It) (fun _=>kEnv a3 a4 a5 a7 a8 a9 (.ptr A 0 8 0 0) a12 a14 a16 a17 a18 [(19,.int .i64 (0 : Nat))])
  (fun _=>HH) (fun _ _=>(.exit 0,kEnv a3 a4 a5 a7 a8 a9 (.ptr A 0 8 0 0) a12 a14 a16 a17 a18 [(19,.int .i64 (0 : Nat))],HH)) ?_ ?_
 ·exact hlp
 ·intro i x r hd hi hx K hK
  simp at hi
 ·intro K
  simp [c5L0,kEnv,hA]
theorem keeps_l1 (a3 a4 a5 a7 a8 a9 a10 a14 a16 a17 a18 : AV) (HH : Avm.H) (A P : Nat) (k i : Int) (b : ByteArray) (its : List Val) (hA : HH[A]? = some (.arr 0 4 [.agg [.int .i64 k,.int .i64 i,.str b,.osl P 0 4 0 its.length]])) (hP : HH[P]? = some (.arr 0 4 (its.map Val.enc))) (hne : P ≠ A) (hl : its.length≤67108864) :
    roundsL (evC (callL cfg) roundsL cfg.pol 0 0 c5L1) [3,4,5,7,8,9,10,12,14,16,17,18,20] (kEnv a3 a4 a5 a7 a8 a9 a10 (.ptr A 0 4 0 0) a14 a16 a17 a18 [(20,.int .i64 (0 : Nat))]) HH =
     some (.exit 2,kEnv a3 a4 a5 a7 a8 a9 a10 (.ptr A 0 4 0 0) a14 a16 a17 a18 [(20,.int .i64 its.length)],HH.set P (.arr 0 4 (List.replicate its.length (bad (-1))))):=by
 have hAl:=(List.getElem?_eq_some_iff.1 hA).1
 have hPl:=(List.getElem?_eq_some_iff.1 hP).1
 have hlp:=loop_list (f:=evC (callL cfg) roundsL cfg.pol 0 0 c5L1) (keep:=[3,4,5,7,8,9,10,12,14,16,17,18,20]) its (fun i=>kEnv a3 a4 a5 a7 a8 a9 a10 (.ptr A 0 4 0 0) a14 a16 a17 a18 [(20,.int .i64 i)])
  (fun i=>HH.set P (.arr 0 4 (List.replicate i (bad (-1))++(its.drop i).map Val.enc)))
  (fun _ _=>(.exit 2,kEnv a3 a4 a5 a7 a8 a9 a10 (.ptr A 0 4 0 0) a14 a16 a17 a18 [(20,.int .i64 its.length)],HH.set P (.arr 0 4 (List.replicate its.length (bad (-1)))))) ?_ ?_
 ·have e0 : HH.set P (.arr 0 4 (its.map Val.enc))=HH:=set_here hP
  simp only [List.replicate_zero,List.drop_zero,List.nil_append,e0] at hlp
  exact hlp
 ·intro i x r hd hi hx K hK
  have hw:=wrap_nat (n:=i + 1) (by omega)
  simp at hw
  have hel : (List.replicate i (bad (-1))++(its.drop i).map Val.enc).length=its.length:=by simp; omega
  have hrl : r=its.drop (i + 1):=by
   have:=List.drop_eq_getElem_cons hi
   rw [hd] at this
   injection this
  have hg : (List.replicate i (bad (-1))++(its.drop i).map Val.enc)[i]? = some x.enc:=by
   rw [List.getElem?_append_right (by simp),List.length_replicate,Nat.sub_self,hd]; rfl
  have hs : (List.replicate i (bad (-1))++(its.drop i).map Val.enc).set i (bad (-1))=List.replicate (i + 1) (bad (-1))++(its.drop (i + 1)).map Val.enc:=by
   rw [hd,List.set_append_right _ _ (by simp),List.length_replicate,Nat.sub_self,List.map_cons,List.set_cons_zero,hrl,List.replicate_succ',List.append_assoc]
   rfl
  rw [← hs] at hK
  generalize (List.replicate i (bad (-1))++(its.drop i).map Val.enc)=es at *
  obtain ⟨hix,hgx⟩:=List.getElem?_eq_some_iff.1 hg
  have hA' : ∀ X : ABlock,(List.set HH P X)[A]? = some _:=fun X=>by rw [List.getElem?_set_ne hne]; exact hA
  have hP' : ∀ X : ABlock,(List.set HH P X)[P]? = some X:=fun X=>List.getElem?_set_self hPl
  unfold kEnv at hK ⊢
  generalize (List.replicate its.length (bad (-1)))=fin at *
  unfold bad at hK
  simp at hK
  simp [c5L1,hA',hP',hi,hel,hgx,hw,hK]
 ·intro K
  have hA' : ∀ X : ABlock,(List.set HH P X)[A]? = some _:=fun X=>by rw [List.getElem?_set_ne hne]; exact hA
  simp [c5L1,kEnv,hA']
theorem keeps_l1z (a3 a4 a5 a7 a8 a9 a10 a14 a16 a17 a18 : AV) (HH : Avm.H) (A : Nat) (hA : HH[A]? = some (.arr 0 4 [.agg [.int .i64 0,.int .i64 0,.str ⟨#[]⟩,.isl []]])) :
    roundsL (evC (callL cfg) roundsL cfg.pol 0 0 c5L1) [3,4,5,7,8,9,10,12,14,16,17,18,20] (kEnv a3 a4 a5 a7 a8 a9 a10 (.ptr A 0 4 0 0) a14 a16 a17 a18 [(20,.int .i64 (0 : Nat))]) HH=some (.exit 2,kEnv a3 a4 a5 a7 a8 a9 a10 (.ptr A 0 4 0 0) a14 a16 a17 a18 [(20,.int .i64 (0 : Nat))],HH):=by
 have hlp:=loop_list (f:=evC (callL cfg) roundsL cfg.pol 0 0 c5L1) (keep:=[3,4,5,7,8,9,10,12,14,16,17,18,20]) ([] : List Val) (fun _=>kEnv a3 a4 a5 a7 a8 a9 a10 (.ptr A 0 4 0 0) a14 a16 a17 a18 [(20,.int .i64 (0 : Nat))]) (fun _=>HH) (fun _ _=>(.exit 2,kEnv a3 a4 a5 a7 a8 a9 a10 (.ptr A 0 4 0 0) a14 a16 a17 a18 [(20,.int .i64 (0 : Nat))],HH)) ?_ ?_
 ·exact hlp
 ·intro i x r hd hi hx K hK
  simp at hi
 ·intro K
  simp [c5L1,kEnv,hA]
theorem keeps_l2 (a3 a4 a5 a7 a8 a9 a10 a12 a16 a17 a18 : AV) (HH : Avm.H) (A P : Nat) (k i : Int) (b : ByteArray) (its : List Val) (hA : HH[A]? = some (.arr 0 4 [.agg [.int .i64 k,.int .i64 i,.str b,.osl P 0 4 0 its.length]])) (hP : HH[P]? = some (.arr 0 4 (its.map Val.enc))) (hne : P ≠ A) (hl : its.length≤67108864) :
    roundsL (evC (callL cfg) roundsL cfg.pol 0 0 c5L2) [3,4,5,7,8,9,10,12,14,16,17,18,21] (kEnv a3 a4 a5 a7 a8 a9 a10 a12 (.ptr A 0 4 0 0) a16 a17 a18 [(21,.int .i64 (0 : Nat))]) HH =
     some (.exit 4,kEnv a3 a4 a5 a7 a8 a9 a10 a12 (.ptr A 0 4 0 0) a16 a17 a18 [(21,.int .i64 its.length)],HH.set P (.arr 0 4 (List.replicate its.length (bad (-2))))):=by
 have hAl:=(List.getElem?_eq_some_iff.1 hA).1
 have hPl:=(List.getElem?_eq_some_iff.1 hP).1
 have hlp:=loop_list (f:=evC (callL cfg) roundsL cfg.pol 0 0 c5L2) (keep:=[3,4,5,7,8,9,10,12,14,16,17,18,21]) its (fun i=>kEnv a3 a4 a5 a7 a8 a9 a10 a12 (.ptr A 0 4 0 0) a16 a17 a18 [(21,.int .i64 i)])
  (fun i=>HH.set P (.arr 0 4 (List.replicate i (bad (-2))++(its.drop i).map Val.enc)))
  (fun _ _=>(.exit 4,kEnv a3 a4 a5 a7 a8 a9 a10 a12 (.ptr A 0 4 0 0) a16 a17 a18 [(21,.int .i64 its.length)],HH.set P (.arr 0 4 (List.replicate its.length (bad (-2)))))) ?_ ?_
 ·have e0 : HH.set P (.arr 0 4 (its.map Val.enc))=HH:=set_here hP
  simp only [List.replicate_zero,List.drop_zero,List.nil_append,e0] at hlp
  exact hlp
 ·intro i x r hd hi hx K hK
  have hw:=wrap_nat (n:=i + 1) (by omega)
  simp at hw
  have hel : (List.replicate i (bad (-2))++(its.drop i).map Val.enc).length=its.length:=by simp; omega
  have hrl : r=its.drop (i + 1):=by
   have:=List.drop_eq_getElem_cons hi
   rw [hd] at this
   injection this
  have hg : (List.replicate i (bad (-2))++(its.drop i).map Val.enc)[i]? = some x.enc:=by
   rw [List.getElem?_append_right (by simp),List.length_replicate,Nat.sub_self,hd]; rfl
  have hs : (List.replicate i (bad (-2))++(its.drop i).map Val.enc).set i (bad (-2))=List.replicate (i + 1) (bad (-2))++(its.drop (i + 1)).map Val.enc:=by
   rw [hd,List.set_append_right _ _ (by simp),List.length_replicate,Nat.sub_self,List.map_cons,List.set_cons_zero,hrl,List.replicate_succ',List.append_assoc]
   rfl
  rw [← hs] at hK
  generalize (List.replicate i (bad (-2))++(its.drop i).map Val.enc)=es at *
  obtain ⟨hix,hgx⟩:=List.getElem?_eq_some_iff.1 hg
  have hA' : ∀ X : ABlock,(List.set HH P X)[A]? = some _:=fun X=>by rw [List.getElem?_set_ne hne]; exact hA
  have hP' : ∀ X : ABlock,(List.set HH P X)[P]? = some X:=fun X=>List.getElem?_set_self hPl
  unfold kEnv at hK ⊢
  generalize (List.replicate its.length (bad (-2)))=fin at *
  unfold bad at hK
  simp at hK
  simp [c5L2,hA',hP',hi,hel,hgx,hw,hK]
 ·intro K
  have hA' : ∀ X : ABlock,(List.set HH P X)[A]? = some _:=fun X=>by rw [List.getElem?_set_ne hne]; exact hA
  simp [c5L2,kEnv,hA']
theorem keeps_l2z (a3 a4 a5 a7 a8 a9 a10 a12 a16 a17 a18 : AV) (HH : Avm.H) (A : Nat) (hA : HH[A]? = some (.arr 0 4 [.agg [.int .i64 0,.int .i64 0,.str ⟨#[]⟩,.isl []]])) :
    roundsL (evC (callL cfg) roundsL cfg.pol 0 0 c5L2) [3,4,5,7,8,9,10,12,14,16,17,18,21] (kEnv a3 a4 a5 a7 a8 a9 a10 a12 (.ptr A 0 4 0 0) a16 a17 a18 [(21,.int .i64 (0 : Nat))]) HH=some (.exit 4,kEnv a3 a4 a5 a7 a8 a9 a10 a12 (.ptr A 0 4 0 0) a16 a17 a18 [(21,.int .i64 (0 : Nat))],HH):=by
 have hlp:=loop_list (f:=evC (callL cfg) roundsL cfg.pol 0 0 c5L2) (keep:=[3,4,5,7,8,9,10,12,14,16,17,18,21]) ([] : List Val) (fun _=>kEnv a3 a4 a5 a7 a8 a9 a10 a12 (.ptr A 0 4 0 0) a16 a17 a18 [(21,.int .i64 (0 : Nat))]) (fun _=>HH) (fun _ _=>(.exit 4,kEnv a3 a4 a5 a7 a8 a9 a10 a12 (.ptr A 0 4 0 0) a16 a17 a18 [(21,.int .i64 (0 : Nat))],HH)) ?_ ?_
 ·exact hlp
 ·intro i x r hd hi hx K hK
  simp at hi
 ·intro K
  simp [c5L2,kEnv,hA]
end Go.Proofs.YtflbneepngjglaaGreatDoor
namespace Go.Proofs.YtflbneepngjglaaGreatDoor
open Go Go.Avm
set_option maxRecDepth 100000 in
theorem sane12N (ws : Nat) (A0 A1 A2 A3 A4 A5 A6 A7 A8 A9 A10 A11 : ABlock) : callN cfg 100 ws 16 [] [A0,A1,A2,A3,A4,A5,A6,A7,A8,A9,A10,A11]=some (.bool true,[A0,A1,A2,A3,A4,A5,A6,A7,A8,A9,A10,A11]):=by kernel_rfl
theorem saneK12 (ws : Nat) (A0 A1 A2 A3 A4 A5 A6 A7 A8 A9 A10 A11 : ABlock) : callL cfg ws 16 [] [A0,A1,A2,A3,A4,A5,A6,A7,A8,A9,A10,A11]=some (.bool true,[A0,A1,A2,A3,A4,A5,A6,A7,A8,A9,A10,A11]):=callN_L 100 _ _ _ _ _ (sane12N ws A0 A1 A2 A3 A4 A5 A6 A7 A8 A9 A10 A11)
set_option maxRecDepth 100000 in
theorem sane13N (ws : Nat) (A0 A1 A2 A3 A4 A5 A6 A7 A8 A9 A10 A11 A12 : ABlock) : callN cfg 100 ws 16 [] [A0,A1,A2,A3,A4,A5,A6,A7,A8,A9,A10,A11,A12]=some (.bool true,[A0,A1,A2,A3,A4,A5,A6,A7,A8,A9,A10,A11,A12]):=by kernel_rfl
theorem saneK13 (ws : Nat) (A0 A1 A2 A3 A4 A5 A6 A7 A8 A9 A10 A11 A12 : ABlock) : callL cfg ws 16 [] [A0,A1,A2,A3,A4,A5,A6,A7,A8,A9,A10,A11,A12]=some (.bool true,[A0,A1,A2,A3,A4,A5,A6,A7,A8,A9,A10,A11,A12]):=callN_L 100 _ _ _ _ _ (sane13N ws A0 A1 A2 A3 A4 A5 A6 A7 A8 A9 A10 A11 A12)
set_option maxRecDepth 100000 in
theorem sane16N (ws : Nat) (A0 A1 A2 A3 A4 A5 A6 A7 A8 A9 A10 A11 A12 A13 A14 A15 : ABlock) : callN cfg 100 ws 16 [] [A0,A1,A2,A3,A4,A5,A6,A7,A8,A9,A10,A11,A12,A13,A14,A15]=some (.bool true,[A0,A1,A2,A3,A4,A5,A6,A7,A8,A9,A10,A11,A12,A13,A14,A15]):=by kernel_rfl
theorem saneK16 (ws : Nat) (A0 A1 A2 A3 A4 A5 A6 A7 A8 A9 A10 A11 A12 A13 A14 A15 : ABlock) : callL cfg ws 16 [] [A0,A1,A2,A3,A4,A5,A6,A7,A8,A9,A10,A11,A12,A13,A14,A15]=some (.bool true,[A0,A1,A2,A3,A4,A5,A6,A7,A8,A9,A10,A11,A12,A13,A14,A15]):=callN_L 100 _ _ _ _ _ (sane16N ws A0 A1 A2 A3 A4 A5 A6 A7 A8 A9 A10 A11 A12 A13 A14 A15)
set_option maxRecDepth 100000 in
theorem sane17N (ws : Nat) (A0 A1 A2 A3 A4 A5 A6 A7 A8 A9 A10 A11 A12 A13 A14 A15 A16 : ABlock) : callN cfg 100 ws 16 [] [A0,A1,A2,A3,A4,A5,A6,A7,A8,A9,A10,A11,A12,A13,A14,A15,A16]=some (.bool true,[A0,A1,A2,A3,A4,A5,A6,A7,A8,A9,A10,A11,A12,A13,A14,A15,A16]):=by kernel_rfl
theorem saneK17 (ws : Nat) (A0 A1 A2 A3 A4 A5 A6 A7 A8 A9 A10 A11 A12 A13 A14 A15 A16 : ABlock) : callL cfg ws 16 [] [A0,A1,A2,A3,A4,A5,A6,A7,A8,A9,A10,A11,A12,A13,A14,A15,A16]=some (.bool true,[A0,A1,A2,A3,A4,A5,A6,A7,A8,A9,A10,A11,A12,A13,A14,A15,A16]):=callN_L 100 _ _ _ _ _ (sane17N ws A0 A1 A2 A3 A4 A5 A6 A7 A8 A9 A10 A11 A12 A13 A14 A15 A16)
set_option maxRecDepth 100000 in
theorem sane18N (ws : Nat) (A0 A1 A2 A3 A4 A5 A6 A7 A8 A9 A10 A11 A12 A13 A14 A15 A16 A17 : ABlock) : callN cfg 100 ws 16 [] [A0,A1,A2,A3,A4,A5,A6,A7,A8,A9,A10,A11,A12,A13,A14,A15,A16,A17]=some (.bool true,[A0,A1,A2,A3,A4,A5,A6,A7,A8,A9,A10,A11,A12,A13,A14,A15,A16,A17]):=by kernel_rfl
theorem saneK18 (ws : Nat) (A0 A1 A2 A3 A4 A5 A6 A7 A8 A9 A10 A11 A12 A13 A14 A15 A16 A17 : ABlock) : callL cfg ws 16 [] [A0,A1,A2,A3,A4,A5,A6,A7,A8,A9,A10,A11,A12,A13,A14,A15,A16,A17]=some (.bool true,[A0,A1,A2,A3,A4,A5,A6,A7,A8,A9,A10,A11,A12,A13,A14,A15,A16,A17]):=callN_L 100 _ _ _ _ _ (sane18N ws A0 A1 A2 A3 A4 A5 A6 A7 A8 A9 A10 A11 A12 A13 A14 A15 A16 A17)
set_option maxRecDepth 100000 in
theorem sane20N (ws : Nat) (A0 A1 A2 A3 A4 A5 A6 A7 A8 A9 A10 A11 A12 A13 A14 A15 A16 A17 A18 A19 : ABlock) : callN cfg 100 ws 16 [] [A0,A1,A2,A3,A4,A5,A6,A7,A8,A9,A10,A11,A12,A13,A14,A15,A16,A17,A18,A19]=some (.bool true,[A0,A1,A2,A3,A4,A5,A6,A7,A8,A9,A10,A11,A12,A13,A14,A15,A16,A17,A18,A19]):=by kernel_rfl
theorem saneK20 (ws : Nat) (A0 A1 A2 A3 A4 A5 A6 A7 A8 A9 A10 A11 A12 A13 A14 A15 A16 A17 A18 A19 : ABlock) : callL cfg ws 16 [] [A0,A1,A2,A3,A4,A5,A6,A7,A8,A9,A10,A11,A12,A13,A14,A15,A16,A17,A18,A19]=some (.bool true,[A0,A1,A2,A3,A4,A5,A6,A7,A8,A9,A10,A11,A12,A13,A14,A15,A16,A17,A18,A19]):=callN_L 100 _ _ _ _ _ (sane20N ws A0 A1 A2 A3 A4 A5 A6 A7 A8 A9 A10 A11 A12 A13 A14 A15 A16 A17 A18 A19)
set_option maxRecDepth 100000 in
theorem sane23N (ws : Nat) (A0 A1 A2 A3 A4 A5 A6 A7 A8 A9 A10 A11 A12 A13 A14 A15 A16 A17 A18 A19 A20 A21 A22 : ABlock) : callN cfg 100 ws 16 [] [A0,A1,A2,A3,A4,A5,A6,A7,A8,A9,A10,A11,A12,A13,A14,A15,A16,A17,A18,A19,A20,A21,A22]=some (.bool true,[A0,A1,A2,A3,A4,A5,A6,A7,A8,A9,A10,A11,A12,A13,A14,A15,A16,A17,A18,A19,A20,A21,A22]):=by kernel_rfl
theorem saneK23 (ws : Nat) (A0 A1 A2 A3 A4 A5 A6 A7 A8 A9 A10 A11 A12 A13 A14 A15 A16 A17 A18 A19 A20 A21 A22 : ABlock) : callL cfg ws 16 [] [A0,A1,A2,A3,A4,A5,A6,A7,A8,A9,A10,A11,A12,A13,A14,A15,A16,A17,A18,A19,A20,A21,A22]=some (.bool true,[A0,A1,A2,A3,A4,A5,A6,A7,A8,A9,A10,A11,A12,A13,A14,A15,A16,A17,A18,A19,A20,A21,A22]):=callN_L 100 _ _ _ _ _ (sane23N ws A0 A1 A2 A3 A4 A5 A6 A7 A8 A9 A10 A11 A12 A13 A14 A15 A16 A17 A18 A19 A20 A21 A22)
end Go.Proofs.YtflbneepngjglaaGreatDoor
namespace Go.Proofs.YtflbneepngjglaaGreatDoor
open Go Go.Avm
theorem rsameV_ok : ∀ (n : Nat) (v w : Val),v.size≤n→v.size≤67108864→∀ ws h,callL cfg ws 13 [v.enc,w.enc] h=some (.bool (v.same w),h)
 | 0,v,_,hv,_,_,_=>by have:=v.size_pos; omega
 | n + 1,v,w,hv,hb,ws,h=>by
  have hlen:=v.len_items
  refine callL_fn rfl rfl ?_
  rw [Val.same_eq]
  by_cases h1 : v.kind=w.kind
  ·by_cases h2 : v.int=w.int
   ·by_cases h3 : v.bytes.toList=w.bytes.toList
    ·by_cases h4 : v.items.length=w.items.length
     ·have hl:=loop_list (f:=evC (callL cfg) roundsL cfg.pol h.length h.length c13L0) (keep:=[2,3,5]) v.items (fun i=>[(2,.ptr h.length 0 4 0 0),(3,.ptr (h.length + 1) 0 4 0 0),(5,.int .i64 i)]) (fun _=>h++[.arr 0 4 [v.enc],.arr 0 4 [w.enc]])
        (fun j r=>if eqL Val.same r (w.items.drop j)=true then (.exit 0,[(2,.ptr h.length 0 4 0 0),(3,.ptr (h.length + 1) 0 4 0 0),(5,.int .i64 v.items.length)],h++[.arr 0 4 [v.enc],.arr 0 4 [w.enc]]) else (.ret,[(4,.bool false)],h++[.arr 0 4 [v.enc],.arr 0 4 [w.enc]])) ?_ ?_
      ·simp only [List.drop_zero] at hl
       cases hs : eqL Val.same v.items w.items <;> simp [hs] at hl <;> simp [F13,c13,h1,h2,h3,h4] <;> simp [h1,h2,h3,h4] at hl <;> simp [hl]
      ·intro j x r hd hi hx K hK
       have hw:=wrap_nat (n:=j + 1) (by omega)
       simp at hw
       have him : j < w.items.length:=by omega
       have hdm : w.items.drop j=w.items[j] :: w.items.drop (j + 1):=List.drop_eq_getElem_cons him
       rw [hdm]
       have hm1 : x ∈ v.items:=by rw [← hx]; exact List.getElem_mem hi
       have hsz:=Val.mem_items hm1
       obtain ⟨y,hy⟩ : ∃ y,w.items[j]=y:=⟨_,rfl⟩
       have hcl:=fun h'=>rsameV_ok n x y (by omega) (by omega) h.length h'
       rw [hy]
       simp only [Val.enc_eq] at hcl
       rw [eqL]
       cases hs : x.same y
       ·rw [hs] at hcl
        simp [c13L0,hi,hx,him,hy,hcl]
       ·rw [hs] at hcl
        simp at hK
        simp [c13L0,hi,hx,him,hy,hcl,hw,hK]
      ·intro K
       have : w.items.drop v.items.length=[]:=by rw [h4]; simp
       rw [this]
       simp [c13L0,eqL]
     ·have hs : eqL Val.same v.items w.items=false:=by
        cases hs : eqL Val.same v.items w.items with
        | false=>rfl
        | true=>exact absurd (eqL_len hs) h4
      have hn2 : ¬ (v.items.length : Int)=w.items.length:=by omega
      rw [hs]
      simp [F13,c13,h1,h2,h3,hn2]
    ·simp [F13,c13,h1,h2,h3]
   ·simp [F13,c13,h1,h2]
  ·simp [F13,c13,h1]
end Go.Proofs.YtflbneepngjglaaGreatDoor
