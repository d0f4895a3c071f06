/- One step of a path, the program. -/
import Derived.Test.YteihdlcpfghmhaaGreatDoorM48
import Derived.Lib.AtoiAll
import Derived.Lib.ItoaNum
set_option linter.all false
namespace Go.Proofs.YteihdlcpfghmhaaGreatDoor
open Go Go.Avm
theorem d09_iff (c : UInt8) : d09 c=true ↔ 48≤c.toNat∧c.toNat≤57:=by
 unfold d09 byI
 simp only [Bool.and_eq_true,decide_eq_true_eq]
 omega
theorem valN_app : ∀ (l : List UInt8) (n : Nat) (c : UInt8),valN n (l++[c])=10 * valN n l + digV c
 | [],n,c=>rfl
 | a :: r,n,c=>valN_app r (10 * n + digV a) c
theorem decP_cons {a b : UInt8} {r : List UInt8} (h : decP (a :: b :: r)=true) : a.toNat ≠ 48∧d09 a=true∧(b :: r).all d09=true:=by
 unfold decP at h
 simp only [Bool.and_eq_true,Bool.not_eq_true',decide_eq_false_iff_not] at h
 refine ⟨fun e=>h.1 ?_,h.2.1,h.2.2⟩
 unfold byI; omega
theorem decP_all {l : List UInt8} (h : decP l=true) : l.all d09=true∧l ≠ []:=by
 cases l with
 | nil=>cases h
 | cons a r=>cases r with
  | nil=>exact ⟨by simpa [decP] using h,by simp⟩
  | cons b r=>
   obtain ⟨_,h2,h3⟩:=decP_cons h
   exact ⟨by rw [List.all_cons,h2,h3]; rfl,by simp⟩
theorem decP_split {l : List UInt8} {c : UInt8} (hl : l ≠ []) (h : decP (l++[c])=true) : decP l=true∧1≤valN 0 l∧d09 c=true:=by
 cases l with
 | nil=>exact absurd rfl hl
 | cons a r=>
  have h0 : decP (a :: (r++[c]))=true:=h
  obtain ⟨b,q,hq⟩ : ∃ b q,r++[c]=b :: q:=by
   cases r with
   | nil=>exact ⟨c,[],rfl⟩
   | cons b q=>exact ⟨b,q++[c],rfl⟩
  rw [hq] at h0
  obtain ⟨h1,h2,h3⟩:=decP_cons h0
  rw [← hq,List.all_append,Bool.and_eq_true] at h3
  have ha:=(d09_iff a).1 h2
  refine ⟨?_,?_,by simpa using h3.2⟩
  ·cases r with
   | nil=>simpa [decP] using h2
   | cons b q=>
    unfold decP
    have hb : ¬ byI a=48:=by unfold byI; omega
    simp only [hb,decide_false,Bool.not_false,Bool.true_and,h2,h3.1]
  ·have:=valN_le r (10 * 0 + digV a)
   unfold valN
   unfold digV at this ⊢
   omega
theorem dec_digits : ∀ (n : Nat) (l : List UInt8),l.length≤n→decP l=true→Lib.decDigits (valN 0 l)=l:=by
 intro n
 induction n with
 | zero=>
  intro l hl h
  have : l=[]:=List.eq_nil_of_length_eq_zero (by omega)
  subst this; cases h
 | succ n ih=>
  intro l hl h
  obtain ⟨_,hne⟩:=decP_all h
  obtain ⟨r,c,rfl⟩ : ∃ r c,l=r++[c]:=⟨l.dropLast,l.getLast hne,(List.dropLast_concat_getLast hne).symm⟩
  have hc8 : ∀ c : UInt8,d09 c=true→UInt8.ofNat (48 + digV c)=c:=fun c hc=>by
   have:=(d09_iff c).1 hc
   unfold digV
   rw [show 48 + (c.toNat - 48)=c.toNat by omega]
   exact UInt8.ofNat_toNat
  by_cases hr : r=[]
  ·subst hr
   have hc : d09 c=true:=by simpa [decP] using h
   have h1:=(d09_iff c).1 hc
   have hv : valN 0 ([]++[c])=digV c:=by rw [valN_app]; exact Nat.zero_add _
   rw [hv,Lib.decDigits_one (by unfold digV; omega),hc8 c hc]
   rfl
  ·obtain ⟨h1,h2,h3⟩:=decP_split hr h
   have hd:=(d09_iff c).1 h3
   have hd9 : digV c < 10:=by unfold digV; omega
   rw [valN_app,Lib.decDigits,dif_neg (by omega)]
   have e1 : (10 * valN 0 r + digV c) / 10=valN 0 r:=by omega
   have e2 : (10 * valN 0 r + digV c) % 10=digV c:=by omega
   rw [e1,e2,ih r (by simp at hl; omega) h1,hc8 c h3]
theorem parse_dec : ∀ (l : List UInt8) (acc : Nat),l.all d09=true→acc < 18446744073709551616→Lib.parseUint10 acc l=if valN acc l < 18446744073709551616 then .ok (valN acc l) else .range
 | [],acc,_,h=>by
  unfold Lib.parseUint10 valN
  rw [if_pos h]
 | c :: r,acc,ha,h=>by
  rw [List.all_cons,Bool.and_eq_true] at ha
  have hc:=(d09_iff c).1 ha.1
  have hle:=valN_le r (10 * acc + digV c)
  unfold Lib.parseUint10 valN
  rw [if_pos hc]
  have he : acc * 10 + (c.toNat - 48)=10 * acc + digV c:=by unfold digV; omega
  rw [he]
  split
  ·rw [if_neg (by omega)]
  ·split
   ·rw [if_neg (by omega)]
   ·exact parse_dec r _ ha.2 (by omega)
theorem atoi_dec {l : List UInt8} (h : decP l=true) : Lib.atoiAll l=if valN 0 l < 9223372036854775808 then .ok (valN 0 l : Int) else .range:=by
 obtain ⟨ha,hne⟩:=decP_all h
 cases l with
 | nil=>exact absurd rfl hne
 | cons c r=>
  have ha':=ha
  rw [List.all_cons,Bool.and_eq_true] at ha'
  have hc:=(d09_iff c).1 ha'.1
  have h1 : ¬ (c.toNat=43 ∨ c.toNat=45):=by omega
  have h2 : ¬ c.toNat=45:=by omega
  have hp:=parse_dec (c :: r) 0 ha (by omega)
  unfold Lib.atoiAll Lib.parseMag
  dsimp only
  rw [if_neg h1,if_neg (by simp),hp]
  simp only [h2,if_false,not_false_eq_true,true_and,false_and]
  by_cases q : valN 0 (c :: r) < 18446744073709551616
  ·rw [if_pos q]
   dsimp only
   by_cases q2 : valN 0 (c :: r) < 9223372036854775808
   ·rw [if_pos q2,if_neg (by omega)]
   ·rw [if_neg q2,if_pos (by omega)]
  ·rw [if_neg q,if_neg (by omega)]
theorem itoa_dec {l : List UInt8} (h : decP l=true) : Lib.itoa (valN 0 l : Int)=l:=by
 unfold Lib.itoa
 rw [if_neg (by omega),Int.toNat_natCast]
 exact dec_digits _ l (Nat.le_refl _) h
end Go.Proofs.YteihdlcpfghmhaaGreatDoor
namespace Go.Proofs.YteihdlcpfghmhaaGreatDoor
open Go Go.Avm
theorem byI_inj {a b : UInt8} (h : byI a=byI b) : a=b:=by
 unfold byI at h
 exact UInt8.toNat_inj.1 (by omega)
theorem index_num {s : ByteArray} (hs : s.size≤1048576) (hd : decP s.data.toList=true) (ws : Nat) (h : Avm.H) : callL cfg ws 29 [.str s] h=some (if valN 0 s.data.toList < 9223372036854775808 then .tup [.int .i64 (valN 0 s.data.toList : Nat),.bool true] else .tup [.int .i64 (Lib.atoiSat s.data.toList),.bool false],h):=by
 refine callL_ext rfl ?_
 unfold indexX
 dsimp only
 rw [if_pos hs,atoi_dec hd]
 by_cases q : valN 0 s.data.toList < 9223372036854775808
 ·rw [if_pos q,if_pos q]
  dsimp only
  rw [if_pos ⟨by omega,by omega,itoa_dec hd⟩]
 ·rw [if_neg q,if_neg q]
theorem decimal_ok (s : ByteArray) (hs : s.size≤1048576) (ws : Nat) (h : Avm.H) : callL cfg ws 28 [.str s] h=some (.bool (decP s.data.toList),h):=by
 have hE0 : (⟨#[]⟩ : ByteArray).toList=[]:=by rw [ByteArray.toList_eq]
 have hE1 : (⟨#[48]⟩ : ByteArray).toList=[48]:=by rw [ByteArray.toList_eq]
 have hE : ∀ t : ByteArray,t.toList=t.data.toList:=fun t=>by rw [ByteArray.toList_eq]
 have hsz : s.size=s.data.toList.length:=size_list s
 have hby : ∀ b : UInt8,((b.toNat : Nat) : Int)=byI b:=fun _=>rfl
 have h48 : byI 48=48:=rfl
 cases hl : s.data.toList with
 | nil=>
  refine callL_fn rfl rfl ?_
  simp [F28,c28,hE s,hl,hE0,hE1,decP]
 | cons c r=>
  rw [hl] at hsz
  by_cases hc : c=48
  ·subst hc
   cases r with
   | nil=>
    refine callL_fn rfl rfl ?_
    simp [F28,c28,hE s,hl,hE0,hE1,decP,d09,h48]
   | cons d q=>
    refine callL_fn rfl rfl ?_
    simp [F28,c28,hE s,hl,hE0,hE1,decP,d09,h48,hsz,hby]
  ·have hb : ¬ byI c=48:=fun e=>hc (byI_inj (e.trans h48.symm))
   have hcl : ¬ (c=48∧r=[]):=fun e=>hc e.1
   obtain ⟨t,ht,hq⟩:=trim09_ok s hs h.length h
   rw [hl] at hq
   have hdp : decP (c :: r)=(c :: r).all d09:=by
    cases r with
    | nil=>simp [decP]
    | cons d q=>unfold decP; simp only [hb,decide_false,Bool.not_false,Bool.true_and,List.all_cons]
   rw [hdp]
   refine callL_fn rfl rfl ?_
   cases hqq : (c :: r).all d09
   ·have htn : ¬ t.data.toList=[]:=fun e=>by rw [hq.1 e] at hqq; cases hqq
    simp [F28,c28,hE,hl,hE0,hE1,hsz,hby,hb,hcl,ht,htn]
    exact ⟨fun e=>absurd e hc,fun e=>htn (by rw [e])⟩
   ·have htn : t.data.toList=[]:=hq.2 hqq
    simp [F28,c28,hE,hl,hE0,hE1,hsz,hby,hb,hcl,ht,htn]
theorem wrap_u8 {n : Int} (h0 : 0≤n) (h1 : n < 256) : IntKind.wrap .u8 n=n:=by
 simp [IntKind.wrap,IntKind.bits,IntKind.signed]; omega
theorem satN_app : ∀ (l : List UInt8) (n : Nat) (c : UInt8),satN n (l++[c])=min (10 * satN n l + digV c) 1000000000000000
 | [],n,c=>rfl
 | a :: r,n,c=>satN_app r (min (10 * n + digV a) 1000000000000000) c
theorem satN_le : ∀ (l : List UInt8) (n : Nat),n≤1000000000000000→satN n l≤1000000000000000
 | [],n,h=>h
 | c :: r,n,h=>satN_le r _ (Nat.min_le_right _ _)
theorem rindex_loop (s : ByteArray) (bs : List UInt8) (hbs : s.data.toList=bs) (hb : bs.length≤1048576) (h : Avm.H) : roundsL (evC (callL cfg) roundsL cfg.pol h.length h.length c15L0) [0,4,5] [(0,.str s),(4,.int .i64 (satN 0 (bs.take 0) : Nat)),(5,.int .i64 (0 : Nat))] h =
    some (if bs.all d09=true then (.exit 0,[(0,.str s),(4,.int .i64 (satN 0 bs : Nat)),(5,.int .i64 bs.length)],h) else (.ret,[(2,.int .i64 0),(3,.bool false)],h)):=by
 have hsz : s.size=bs.length:=by rw [← hbs,Array.length_toList]; rfl
 have hby : ∀ b : UInt8,((b.toNat : Nat) : Int)=byI b:=fun _=>rfl
 have hl:=loop_list (f:=evC (callL cfg) roundsL cfg.pol h.length h.length c15L0) (keep:=[0,4,5]) bs (fun i=>[(0,.str s),(4,.int .i64 (satN 0 (bs.take i) : Nat)),(5,.int .i64 i)]) (fun _=>h)
  (fun i r=>if r.all d09=true then (.exit 0,[(0,.str s),(4,.int .i64 (satN 0 bs : Nat)),(5,.int .i64 bs.length)],h) else (.ret,[(2,.int .i64 0),(3,.bool false)],h)) ?_ ?_
 ·exact hl
 ·intro i x r hd hi hx K hK
  have hw:=wrap_nat (n:=i + 1) (by omega)
  simp at hw
  have hx? : bs[i]? = some x:=by rw [List.getElem?_eq_getElem hi,hx]
  have htk : bs.take (i + 1)=bs.take i++[x]:=by rw [List.take_succ_eq_append_getElem hi,hx]
  rw [htk,satN_app] at hK
  have hle:=satN_le (bs.take i) 0 (by omega)
  generalize satN 0 (bs.take i)=n at *
  rw [List.all_cons]
  cases hq : d09 x
  ·have hn : byI x < 48 ∨ 57 < byI x:=by
     unfold d09 at hq
     simp only [Bool.and_eq_false_iff,decide_eq_false_iff_not] at hq
     omega
   simp only [Bool.false_and,Bool.false_eq_true,if_false]
   by_cases q1 : byI x < 48
   ·simp [c15L0,hbs,hx?,hx,hsz,hi,hby,q1]
   ·have q2 : 57 < byI x:=by omega
    simp [c15L0,hbs,hx?,hx,hsz,hi,hby,q1,q2]
  ·have hc:=(d09_iff x).1 hq
   have q1 : ¬ byI x < 48:=by unfold byI; omega
   have q2 : ¬ 57 < byI x:=by unfold byI; omega
   have w1 : IntKind.wrap .u8 (byI x - 48)=byI x - 48:=wrap_u8 (by unfold byI; omega) (by unfold byI; omega)
   have w2 : IntKind.wrap .i64 (byI x - 48)=byI x - 48:=wrap_id (by unfold byI; omega) (by unfold byI; omega)
   have w3 : IntKind.wrap .i64 (10 * (n : Int))=10 * (n : Int):=wrap_id (by omega) (by omega)
   have w4 : IntKind.wrap .i64 (10 * (n : Int) + (byI x - 48))=10 * (n : Int) + (byI x - 48):=wrap_id (by unfold byI; omega) (by unfold byI; omega)
   have w5 : ((min (10 * n + digV x) 1000000000000000 : Nat) : Int)=if 1000000000000000 < 10 * (n : Int) + (byI x - 48) then 1000000000000000 else 10 * (n : Int) + (byI x - 48):=by unfold digV byI; split <;> omega
   simp only [Bool.true_and]
   rw [w5] at hK
   simp at hK
   simp [c15L0,hbs,hx?,hx,hsz,hi,hby,q1,q2,hw,w1,w2,w3,w4,hK]
 ·intro K
  simp [c15L0,hsz]
theorem rindex_ok (s : ByteArray) (hs : s.size≤1048576) (ws : Nat) (h : Avm.H) : callL cfg ws 15 [.str s] h=some (if decP s.data.toList=true then .tup [.int .i64 (satN 0 s.data.toList : Nat),.bool true] else .tup [.int .i64 0,.bool false],h):=by
 have hE0 : (⟨#[]⟩ : ByteArray).toList=[]:=by rw [ByteArray.toList_eq]
 have hE : s.toList=s.data.toList:=by rw [ByteArray.toList_eq]
 have hsz : s.size=s.data.toList.length:=size_list s
 have hby : ∀ b : UInt8,((b.toNat : Nat) : Int)=byI b:=fun _=>rfl
 have h48 : byI 48=48:=rfl
 have hs0 : satN 0 []=0:=rfl
 have hlp:=rindex_loop s s.data.toList rfl (by omega) h
 refine callL_fn rfl rfl ?_
 cases hl : s.data.toList with
 | nil=>simp [F15,c15,hE,hl,hE0,decP]
 | cons c r=>
  rw [hl] at hsz hlp
  cases r with
  | nil=>
   cases hq : d09 c
   ·simp [hq,hs0] at hlp
    simp [F15,c15,hE,hl,hE0,decP,hsz,hq,hlp]
   ·simp [hq,hs0] at hlp
    simp [F15,c15,hE,hl,hE0,decP,hsz,hq,hlp]
  | cons d q=>
   have hgt : (1 : Int) < (q.length : Int) + 1 + 1:=by omega
   by_cases hb : byI c=48
   ·have hdp : decP (c :: d :: q)=false:=by simp [decP,hb]
    rw [hdp]
    simp [F15,c15,hE,hl,hE0,hsz,hby,hb,hgt]
   ·have hdp : decP (c :: d :: q)=(c :: d :: q).all d09:=by unfold decP; simp only [hb,decide_false,Bool.not_false,Bool.true_and,List.all_cons]
    rw [hdp]
    cases hqq : (c :: d :: q).all d09
    ·rw [hqq] at hlp
     simp [hs0] at hlp
     simp [F15,c15,hE,hl,hE0,hsz,hby,hb,hgt,hlp]
    ·rw [hqq] at hlp
     simp [hs0] at hlp
     simp [F15,c15,hE,hl,hE0,hsz,hby,hb,hgt,hlp]
end Go.Proofs.YteihdlcpfghmhaaGreatDoor
namespace Go.Proofs.YteihdlcpfghmhaaGreatDoor
open Go Go.Avm
theorem copy_ok : ∀ (n : Nat) (v : Val),v.size≤n→v.size≤1048576→∀ ws h,callL cfg ws 16 [v.enc] h=some (v.enc,h)
 | 0,v,hv,_,_,_=>by have:=v.size_pos; omega
 | n + 1,v,hv,hb,ws,h=>by
  have hse:=v.size_eq
  have hlen:=Val.len_sizeL v.items
  refine callL_fn rfl rfl ?_
  have hlp:=loop_post (γ:=AV × Avm.H) (f:=evC (callL cfg) roundsL cfg.pol h.length h.length c16L0) (keep:=[1,2,3,4]) v.items
   (fun i c=>SlcIn h.length 3 4 c.2 ((v.items.take i).map Val.enc) c.1)
   (fun i _=>[(1,.ptr h.length 0 4 0 0),(2,.ptr (h.length + 1) 0 4 0 0),(3,.ptr (h.length + 2) 0 4 0 0),(4,.int .i64 i)])
   (fun _ g=>h++([.arr 0 4 [v.enc],.arr 0 4 [.agg [.int .i64 0,.int .i64 0,.str ⟨#[]⟩,.esl]],.arr 0 4 [.agg [.int .i64 v.kind,.int .i64 v.int,.str v.bytes,g.1]]]++g.2))
   (fun _ _ o=>∃ v2 g,SlcIn h.length 3 4 g (v.items.map Val.enc) v2∧o=(.exit 0,[(1,.ptr h.length 0 4 0 0),(2,.ptr (h.length + 1) 0 4 0 0),(3,.ptr (h.length + 2) 0 4 0 0),(4,.int .i64 v.items.length)],h++([.arr 0 4 [v.enc],.arr 0 4 [.agg [.int .i64 0,.int .i64 0,.str ⟨#[]⟩,.esl]],.arr 0 4 [.agg [.int .i64 v.kind,.int .i64 v.int,.str v.bytes,v2]]]++g))) ?_ ?_ (.esl,[]) (.inl ⟨rfl,rfl⟩)
  ·obtain ⟨o,hl,v2,g,hI,ho⟩:=hlp
   subst ho
   rcases hI with ⟨he,rfl⟩ | ⟨j,ver,rfl,hj⟩
   ·have he : v.items=[]:=by simpa using he
    simp [he] at hl
    simp [F16,c16,he,hl]
   ·simp at hl
    simp [F16,c16,hl,hj]
  ·intro j x r c2 hd hi hx hI K hK
   have hw:=wrap_nat (n:=j + 1) (by omega)
   simp at hw
   have hm1 : x ∈ v.items:=by rw [← hx]; exact List.getElem_mem hi
   have hsz:=Val.sizeL_mem hm1
   have ht : v.items.take (j + 1)=v.items.take j++[x]:=by rw [List.take_succ_eq_append_getElem hi,hx]
   have hll : (v.items.take j).length=j:=by simp; omega
   have hcl:=fun h'=>copy_ok n x (by omega) (by omega) h.length h'
   rw [ht] at hK
   simp only [List.map_append] at hK
   obtain ⟨v1,g⟩:=c2
   simp at hcl
   generalize hls : v.items.take j=ls at hK hI hll
   rcases hI with ⟨he,hv⟩ | ⟨q,ver,hv,hj⟩
   ·dsimp only at hv
    subst hv
    have he : ls=[]:=by simpa using he
    subst he
    obtain ⟨o,h4,h5⟩:=hK (.osl (h.length + ((g.length + 1) + 3)) 0 4 0 1,g++[.arr 0 4 [x.enc],.arr 0 4 [x.enc]]) (.inr ⟨g.length + 1,0,by simp,by simp⟩)
    refine ⟨o,?_,h5⟩
    simp at h4
    simp [c16L0,hi,hx,hcl,hw,bslP,appended,appI,h4]
   ·dsimp only at hv hj
    subst hv
    have hjl:=(List.getElem?_eq_some_iff.1 hj).1
    have hfl' : ls.length + 1≤4294967296:=by omega
    obtain ⟨o,h4,h5⟩:=hK (.osl (h.length + (q + 3)) (ver + 1) 4 0 (ls.length + 1),List.set (g++[ABlock.arr 0 4 [x.enc]]) q (ABlock.arr (ver + 1) 4 (ls.map Val.enc++[x.enc])))
     (.inr ⟨q,ver + 1,by simp,by rw [List.getElem?_set_self (by simp; omega)]; simp⟩)
    refine ⟨o,?_,h5⟩
    have hones : ∀ a ∈ ls,a.enc.cells.length=4:=fun a _=>by simp
    simp at h4
    simp [c16L0,hi,hx,hcl,hw,bslP,appended,appI,h4,hj,hfl',List.getElem?_append_left hjl]
  ·intro c2 K hI
   refine ⟨_,?_,c2.1,c2.2,by simpa using hI,rfl⟩
   simp [c16L0]
def askE (m : Md) (t : Ty) (v : Val) : Int:=if errC m t=0 then toldP (fairP v && fitB m v.size t v) 1 else errC m t
theorem asked_ok (m : Md) (hm : m.ok) (t : Ty) (hs : t.size≤1048576) (v : Val) (hv : v.size≤1048576) (ws : Nat) (h : Avm.H) : callL cfg ws 10 [m.enc,t.enc,v.enc] h=some (.int .i64 (askE m t v),h):=by
 have hw : t.wid≤1048576:=Nat.le_trans t.wid_le hs
 have e1:=fun ws h=>ctypeC_ok m hm t hs ws h
 have e2:=fun ws h=>fair_ok v hv ws h
 unfold askE
 refine callL_fn rfl rfl ?_
 by_cases q : errC m t=0
 ·obtain ⟨q1,q2⟩:=errC_zero q
  have e3:=fun ws h=>fits_ok m hm (fm_of (errM_zero q1).2) v.size v (Nat.le_refl _) hv t hw (errT_zero q2).2 ws h
  have e4:=fun b ws h=>told_ok b 1 ws h
  rw [q] at e1 ⊢
  simp [Md.enc] at e1 e2 e3
  simp [F10,c10,Md.enc,e1,e2,e3,e4]
 ·simp [Md.enc] at e1
  simp [F10,c10,Md.enc,e1,q]
theorem rasked_ok (m : Md) (hm : m.ok) (t : Ty) (hs : t.size≤1048576) (v : Val) (hv : v.size≤1048576) (ws : Nat) (h : Avm.H) : callL cfg ws 13 [m.enc,t.enc,v.enc] h=some (.int .i64 (askE m t v),h):=by
 have hw : t.wid≤1048576:=Nat.le_trans t.wid_le hs
 have e1:=fun ws h=>rctypeC_ok m hm t hs ws h
 unfold askE
 refine callL_fn rfl rfl ?_
 by_cases q : errC m t=0
 ·obtain ⟨q1,q2⟩:=errC_zero q
  have e3:=fun ws h=>fit_ok m hm (lim_of (errM_zero q1).1) (fm_of (errM_zero q1).2) t hw (lim_nodes (errT_zero q2).1) (errT_zero q2).2 v hv ws h
  rw [q] at e1 ⊢
  generalize (fairP v && fitB m v.size t v)=B at *
  simp [Md.enc] at e1 e3
  cases B
  ·simp [F13,c13,Md.enc,e1,e3,toldP]
  ·simp [F13,c13,Md.enc,e1,e3,toldP]
 ·simp [Md.enc] at e1
  simp [F13,c13,Md.enc,e1,q]
end Go.Proofs.YteihdlcpfghmhaaGreatDoor
namespace Go.Proofs.YteihdlcpfghmhaaGreatDoor
open Go Go.Avm
theorem stepidx_ok (l : List It) (hl : l.length≤1048576) (s : ByteArray) (c : AV) (h : Avm.H) (hc : snap h 7 c=some (.iptr [.str s])) (ws : Nat) : callL cfg ws 26 [.isl (l.map It.enc),.clos 27 0 [c]] h=some (.int .i64 (idxOf (fun i=>eqS i.name s) l),h):=
 indexFunc_gen (cap':=[.iptr [.str s]]) (sz:=12) (ag:=true) rfl rfl hl (by simp) (It.henc l) (.inl rfl) (by simp [snapL,hc]) (fun x _ ws h'=>by
  simp only [List.take_zero,List.drop_zero,List.nil_append,List.singleton_append]
  refine callL_fn rfl rfl ?_
  simp [F27,c27,eqS]
  by_cases q : x.name.toList=s.toList <;> simp [q]) ws
def StepR (o : Option (AV × Avm.H)) (h : Avm.H) (r : Int × Ty × Val) : Prop:=∃ T V,o=some (.tup [T.enc,V.enc,.int .i64 r.1],h)∧(r.1=0→T=r.2.1∧V=r.2.2)
theorem step_7a (m : Md) (hm : m.ok) (t b : Ty) (ht : t.wid≤1048576) (hbl : b.items.length≤1048576) (hb : beh m 21 t=some b) (v : Val) (s : ByteArray) (hs : s.size≤1048576) (hk : b.kind=7) (hd : decP s.data.toList=false) (ws : Nat) (h : Avm.H) : callL cfg ws 11 [m.enc,t.enc,v.enc,.str s] h=some (.tup [b.enc,v.enc,.int .i64 6],h):=by
 have e1:=fun ws h=>behind_ok m hm t ht ws h
 have e2:=fun h c hc ws=>stepidx_ok b.items hbl s c h hc ws
 have e3:=fun ws h=>decimal_ok s hs ws h
 have e5:=fun b ws h=>told_ok b 3 ws h
 simp [hb,Md.enc] at e1 e2
 rw [hd] at e3
 refine callL_fn rfl rfl ?_
 simp [F11,c11,Md.enc,e1,e2,e3,hk]
theorem step_7b (m : Md) (hm : m.ok) (t b : Ty) (ht : t.wid≤1048576) (hbl : b.items.length≤1048576) (hb : beh m 21 t=some b) (v : Val) (s : ByteArray) (hs : s.size≤1048576) (hk : b.kind=7) (hd : decP s.data.toList=true) (n : Nat) (x : Val) (k : Ty) (r : List Ty) (hn : valN 0 s.data.toList=n) (hx : v.items[n]? = some x) (hks : b.kids=k :: r) (hvl : v.items.length≤1048576) (ws : Nat) (h : Avm.H) : callL cfg ws 11 [m.enc,t.enc,v.enc,.str s] h=some (.tup [k.enc,x.enc,.int .i64 0],h):=by
 have e1:=fun ws h=>behind_ok m hm t ht ws h
 have e2:=fun h c hc ws=>stepidx_ok b.items hbl s c h hc ws
 have e3:=fun ws h=>decimal_ok s hs ws h
 have e5:=fun b ws h=>told_ok b 3 ws h
 simp [hb,Md.enc] at e1 e2
 rw [hd] at e3
 have hlt : n < v.items.length:=(List.getElem?_eq_some_iff.1 hx).1
 have hxx : v.items[n]=x:=(List.getElem?_eq_some_iff.1 hx).2
 have e4:=fun ws h=>index_num hs hd ws h
 rw [hn] at e4
 have h63 : n < 9223372036854775808:=by omega
 simp only [h63,if_true] at e4
 have hnl : ¬ v.items.length≤n:=by omega
 refine callL_fn rfl rfl ?_
 simp [F11,c11,Md.enc,e1,e2,e3,e4,hk,hks,hlt,hx,hxx,hnl]
theorem step_7c (m : Md) (hm : m.ok) (t b : Ty) (ht : t.wid≤1048576) (hbl : b.items.length≤1048576) (hb : beh m 21 t=some b) (v : Val) (s : ByteArray) (hs : s.size≤1048576) (hk : b.kind=7) (hd : decP s.data.toList=true) (hx : v.items.length≤valN 0 s.data.toList) (hvl : v.items.length≤1048576) (ws : Nat) (h : Avm.H) : callL cfg ws 11 [m.enc,t.enc,v.enc,.str s] h=some (.tup [b.enc,v.enc,.int .i64 3],h):=by
 have e1:=fun ws h=>behind_ok m hm t ht ws h
 have e2:=fun h c hc ws=>stepidx_ok b.items hbl s c h hc ws
 have e3:=fun ws h=>decimal_ok s hs ws h
 have e5:=fun b ws h=>told_ok b 3 ws h
 simp [hb,Md.enc] at e1 e2
 rw [hd] at e3
 have e4:=fun ws h=>index_num hs hd ws h
 generalize valN 0 s.data.toList=n at *
 have hnlt : (v.items.length : Int)≤(n : Int):=by omega
 by_cases h63 : n < 9223372036854775808
 ·simp only [h63,if_true] at e4
  refine callL_fn rfl rfl ?_
  simp [F11,c11,Md.enc,e1,e2,e3,e4,hk,hx,hnlt]
 simp only [h63,if_false] at e4
 refine callL_fn rfl rfl ?_
 simp [F11,c11,Md.enc,e1,e2,e3,e4,hk,hx]
theorem step_8a (m : Md) (hm : m.ok) (t b : Ty) (ht : t.wid≤1048576) (hbl : b.items.length≤1048576) (hb : beh m 21 t=some b) (v : Val) (s : ByteArray) (hs : s.size≤1048576) (hk : b.kind=8) (hi : idxOf (fun i=>eqS i.name s) b.items = -1) (ws : Nat) (h : Avm.H) : callL cfg ws 11 [m.enc,t.enc,v.enc,.str s] h=some (.tup [b.enc,v.enc,.int .i64 6],h):=by
 have e1:=fun ws h=>behind_ok m hm t ht ws h
 have e2:=fun h c hc ws=>stepidx_ok b.items hbl s c h hc ws
 have e3:=fun ws h=>decimal_ok s hs ws h
 have e5:=fun b ws h=>told_ok b 3 ws h
 simp [hb,Md.enc] at e1 e2
 rw [hi] at e2
 refine callL_fn rfl rfl ?_
 simp [F11,c11,Md.enc,e1,e2,hk]
theorem step_8b (m : Md) (hm : m.ok) (t b : Ty) (ht : t.wid≤1048576) (hbl : b.items.length≤1048576) (hb : beh m 21 t=some b) (v : Val) (s : ByteArray) (hs : s.size≤1048576) (hk : b.kind=8) (i : Nat) (y : It) (x : Val) (hi : idxOf (fun i=>eqS i.name s) b.items=(i : Int)) (hy : b.items[i]? = some y) (hx : v.items[i]? = some x) (ws : Nat) (h : Avm.H) : callL cfg ws 11 [m.enc,t.enc,v.enc,.str s] h=some (.tup [y.of.enc,x.enc,.int .i64 (toldP (!decide (x.kind=12)) 3)],h):=by
 have e1:=fun ws h=>behind_ok m hm t ht ws h
 have e2:=fun h c hc ws=>stepidx_ok b.items hbl s c h hc ws
 have e3:=fun ws h=>decimal_ok s hs ws h
 have e5:=fun b ws h=>told_ok b 3 ws h
 simp [hb,Md.enc] at e1 e2
 rw [hi] at e2
 have hl1 : i < b.items.length:=(List.getElem?_eq_some_iff.1 hy).1
 have hl2 : i < v.items.length:=(List.getElem?_eq_some_iff.1 hx).1
 have hyy : b.items[i]=y:=(List.getElem?_eq_some_iff.1 hy).2
 have hxx : v.items[i]=x:=(List.getElem?_eq_some_iff.1 hx).2
 refine callL_fn rfl rfl ?_
 simp [F11,c11,Md.enc,e1,e2,e5,hk,hl1,hl2,hyy,hxx,hy,hx]
 rfl
theorem step_9a (m : Md) (hm : m.ok) (t b : Ty) (ht : t.wid≤1048576) (hbl : b.items.length≤1048576) (hb : beh m 21 t=some b) (v : Val) (s : ByteArray) (hs : s.size≤1048576) (hk : b.kind=9) (hi : idxOf (fun i=>eqS i.name s) b.items = -1) (ws : Nat) (h : Avm.H) : callL cfg ws 11 [m.enc,t.enc,v.enc,.str s] h=some (.tup [b.enc,v.enc,.int .i64 6],h):=by
 have e1:=fun ws h=>behind_ok m hm t ht ws h
 have e2:=fun h c hc ws=>stepidx_ok b.items hbl s c h hc ws
 have e3:=fun ws h=>decimal_ok s hs ws h
 have e5:=fun b ws h=>told_ok b 3 ws h
 simp [hb,Md.enc] at e1 e2
 rw [hi] at e2
 refine callL_fn rfl rfl ?_
 simp [F11,c11,Md.enc,e1,e2,hk]
theorem step_9b (m : Md) (hm : m.ok) (t b : Ty) (ht : t.wid≤1048576) (hbl : b.items.length≤1048576) (hb : beh m 21 t=some b) (v : Val) (s : ByteArray) (hs : s.size≤1048576) (hk : b.kind=9) (i : Nat) (y : It) (x : Val) (r : List Val) (hi : idxOf (fun i=>eqS i.name s) b.items=(i : Int)) (hy : b.items[i]? = some y) (hx : v.items=x :: r) (ws : Nat) (h : Avm.H) : callL cfg ws 11 [m.enc,t.enc,v.enc,.str s] h=some (.tup [y.of.enc,x.enc,.int .i64 (toldP (decide (v.int=i)) 3)],h):=by
 have e1:=fun ws h=>behind_ok m hm t ht ws h
 have e2:=fun h c hc ws=>stepidx_ok b.items hbl s c h hc ws
 have e3:=fun ws h=>decimal_ok s hs ws h
 have e5:=fun b ws h=>told_ok b 3 ws h
 simp [hb,Md.enc] at e1 e2
 rw [hi] at e2
 have hl1 : i < b.items.length:=(List.getElem?_eq_some_iff.1 hy).1
 have hyy : b.items[i]=y:=(List.getElem?_eq_some_iff.1 hy).2
 refine callL_fn rfl rfl ?_
 simp [F11,c11,Md.enc,e1,e2,e5,hk,hl1,hyy,hy,hx]
 rfl
theorem step_z (m : Md) (hm : m.ok) (t b : Ty) (ht : t.wid≤1048576) (hbl : b.items.length≤1048576) (hb : beh m 21 t=some b) (v : Val) (s : ByteArray) (hs : s.size≤1048576) (h7 : ¬ b.kind=7) (h8 : ¬ b.kind=8) (h9 : ¬ b.kind=9) (ws : Nat) (h : Avm.H) : callL cfg ws 11 [m.enc,t.enc,v.enc,.str s] h=some (.tup [b.enc,v.enc,.int .i64 6],h):=by
 have e1:=fun ws h=>behind_ok m hm t ht ws h
 have e2:=fun h c hc ws=>stepidx_ok b.items hbl s c h hc ws
 have e3:=fun ws h=>decimal_ok s hs ws h
 have e5:=fun b ws h=>told_ok b 3 ws h
 simp [hb,Md.enc] at e1 e2
 refine callL_fn rfl rfl ?_
 simp [F11,c11,Md.enc,e1,e2,h7,h8,h9]
theorem step_ok (m : Md) (hm : m.ok) (hl : m.lim) (hf : m.fm) (hd : m.df) (t : Ty) (hq : QP m t) (v : Val) (hv : v.size≤1048576) (n : Nat) (hfit : fitB m n t v=true) (s : ByteArray) (hs : s.size≤1048576) (ws : Nat) (h : Avm.H) : StepR (callL cfg ws 11 [m.enc,t.enc,v.enc,.str s] h) h (stepP m t v s):=by
 cases n with
 | zero=>cases hfit
 | succ n=>
 unfold fitB at hfit
 unfold StepR stepP
 cases hb : beh m 21 t with
 | none=>rw [hb] at hfit; cases hfit
 | some b=>
  rw [hb] at hfit
  dsimp only at hfit ⊢
  obtain ⟨hqb,hk10⟩:=hq.beh hm hl hf hd hb
  simp only [Bool.and_eq_true,decide_eq_true_eq] at hfit
  obtain ⟨hk,hfs⟩:=hfit
  have hbl : b.items.length≤1048576:=Nat.le_trans b.wid_items hqb.wid
  have hvl : v.items.length≤1048576:=by have:=Val.len_sizeL v.items; have:=v.size_eq; omega
  by_cases q7 : b.kind=7
  ·rw [if_pos q7]
   cases qd : decP s.data.toList
   ·rw [if_pos rfl]
    exact ⟨b,v,step_7a m hm t b hq.wid hbl hb v s hs q7 qd ws h,fun e=>by cases e⟩
   ·rw [if_neg (by simp)]
    cases hx : v.items[valN 0 s.data.toList]? with
    | none=>
     exact ⟨b,v,step_7c m hm t b hq.wid hbl hb v s hs q7 qd (List.getElem?_eq_none_iff.1 hx) hvl ws h,fun e=>by cases e⟩
    | some x=>
     have hr7:=allP_self hqb.right
     unfold rightP at hr7
     rw [if_neg (by omega),if_neg (by omega),if_neg (by omega),if_neg (by omega),if_neg (by omega),if_neg (by omega),if_neg (by omega),if_neg (by omega),if_pos q7] at hr7
     simp only [Bool.and_eq_true,decide_eq_true_eq] at hr7
     cases hks : b.kids with
     | nil=>rw [hks] at hr7; simp at hr7
     | cons k r=>exact ⟨k,x,step_7b m hm t b hq.wid hbl hb v s hs q7 qd _ x k r rfl hx hks hvl ws h,fun _=>⟨rfl,rfl⟩⟩
  ·rw [if_neg q7]
   have hidx : ∀ i,b.items.findIdx? (fun i=>eqS i.name s)=some i→idxOf (fun i=>eqS i.name s) b.items=(i : Int)∧i < b.items.length:=fun i hi=>by
    unfold idxOf
    rw [hi]
    rw [List.findIdx?_eq_some_iff_getElem] at hi
    exact ⟨rfl,hi.1⟩
   have hidn : b.items.findIdx? (fun i=>eqS i.name s)=none→idxOf (fun i=>eqS i.name s) b.items = -1:=fun hi=>by
    unfold idxOf
    rw [hi]
   by_cases q8 : b.kind=8
   ·rw [if_pos q8]
    cases hi : b.items.findIdx? (fun i=>eqS i.name s) with
    | none=>exact ⟨b,v,step_8a m hm t b hq.wid hbl hb v s hs q8 (hidn hi) ws h,fun e=>by cases e⟩
    | some i=>
     obtain ⟨h1,h2⟩:=hidx i hi
     unfold fitS at hfs
     rw [if_neg (by omega),if_neg (by omega),if_neg (by omega),if_neg (by omega),if_neg (by omega),if_neg (by omega),if_neg (by omega),if_neg (by omega),if_neg (by omega),if_neg (by omega)] at hfs
     simp only [Bool.and_eq_true,decide_eq_true_eq] at hfs
     have h3 : i < v.items.length:=by omega
     dsimp only
     rw [List.getElem?_eq_getElem h2,List.getElem?_eq_getElem h3]
     dsimp only
     have hst:=step_8b m hm t b hq.wid hbl hb v s hs q8 i b.items[i] v.items[i] h1 (List.getElem?_eq_getElem h2) (List.getElem?_eq_getElem h3) ws h
     by_cases q12 : v.items[i].kind=12
     ·rw [if_pos q12]
      refine ⟨_,_,by rw [hst,q12]; rfl,fun e=>by cases e⟩
     ·rw [if_neg q12]
      refine ⟨_,_,by rw [hst,decide_eq_false q12]; rfl,fun _=>⟨rfl,rfl⟩⟩
   ·rw [if_neg q8]
    by_cases q9 : b.kind=9
    ·rw [if_pos q9]
     cases hi : b.items.findIdx? (fun i=>eqS i.name s) with
     | none=>exact ⟨b,v,step_9a m hm t b hq.wid hbl hb v s hs q9 (hidn hi) ws h,fun e=>by cases e⟩
     | some i=>
      obtain ⟨h1,h2⟩:=hidx i hi
      unfold fitS at hfs
      rw [if_neg (by omega),if_neg (by omega),if_neg (by omega),if_neg (by omega),if_neg (by omega),if_neg (by omega),if_neg (by omega),if_neg (by omega),if_neg (by omega),if_pos q9] at hfs
      simp only [Bool.and_eq_true,decide_eq_true_eq] at hfs
      dsimp only
      rw [List.getElem?_eq_getElem h2]
      cases hx : v.items with
      | nil=>rw [hx] at hfs; simp at hfs
      | cons x r=>
       dsimp only
       have hst:=step_9b m hm t b hq.wid hbl hb v s hs q9 i b.items[i] x r h1 (List.getElem?_eq_getElem h2) hx ws h
       by_cases qi : v.int=i
       ·rw [if_pos qi]
        refine ⟨_,_,by rw [hst,decide_eq_true qi]; rfl,fun _=>⟨rfl,rfl⟩⟩
       ·rw [if_neg qi]
        refine ⟨_,_,by rw [hst,decide_eq_false qi]; rfl,fun e=>by cases e⟩
    ·rw [if_neg q9]
     exact ⟨b,v,step_z m hm t b hq.wid hbl hb v s hs q7 q8 q9 ws h,fun e=>by cases e⟩
end Go.Proofs.YteihdlcpfghmhaaGreatDoor
