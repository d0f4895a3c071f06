/- Paths into values: plain laws. -/
import Derived.Test.YteihdlcpfghmhaaGreatDoorM47
import Derived.Test.YteihdlcpfghmhaaGreatDoorM39
set_option linter.all false
namespace Go.Proofs.YteihdlcpfghmhaaGreatDoor
open Go Go.Avm
def A09 : List AV:=List.replicate 48 (.bool false)++.bool true :: .bool true :: .bool true :: .bool true :: .bool true :: .bool true :: .bool true :: .bool true :: .bool true :: .bool true :: List.replicate 198 (.bool false)
theorem A09_len : A09.length=256:=by simp [-List.reduceReplicate,A09]
theorem A09_pure : pureL A09=true:=by kernel_rfl
theorem A09_one : A09.all AV.one=true:=by simp [-List.reduceReplicate,A09]
def d09 (c : UInt8) : Bool:=decide (48≤byI c) && decide (byI c≤57)
theorem A09_get (n : Nat) (hn : n < 256) : A09[n]? = some (.bool (decide (48≤(n : Int)) && decide ((n : Int)≤57))):=by
 have e : A09=List.replicate 48 (.bool false)++(List.replicate 10 (.bool true)++List.replicate 198 (.bool false)):=rfl
 rw [e]
 by_cases q : n < 48
 ·have h1 : ¬ 48≤(n : Int):=by omega
  rw [List.getElem?_append_left (by simpa [-List.reduceReplicate] using q),List.getElem?_replicate,if_pos q,decide_eq_false h1]
  rfl
 ·have h1 : 48≤(n : Int):=by omega
  rw [List.getElem?_append_right (by simp [-List.reduceReplicate]; omega),decide_eq_true h1,List.length_replicate]
  by_cases q2 : n < 58
  ·have h2 : (n : Int)≤57:=by omega
   rw [List.getElem?_append_left (by simp [-List.reduceReplicate]; omega),List.getElem?_replicate,if_pos (by omega),decide_eq_true h2]
   rfl
  ·have h2 : ¬ (n : Int)≤57:=by omega
   rw [List.getElem?_append_right (by simp [-List.reduceReplicate]; omega),List.length_replicate,List.getElem?_replicate,if_pos (by omega),decide_eq_false h2]
   rfl
theorem contains09_ok (c : UInt8) (ws : Nat) (h : Avm.H) : callL cfg ws 132 [.iptr A09,.int .u8 (byI c)] h=some (.bool (d09 c),h):=by
 have hc : c.toNat < 256:=c.toNat_lt
 have hg:=A09_get c.toNat hc
 have h1 : (0 : Int)≤byI c:=by unfold byI; omega
 have h2 : byI c < 256:=by unfold byI; omega
 have h3 : (byI c).toNat=c.toNat:=by unfold byI; omega
 have h4 : c.toNat≤256:=by omega
 refine callL_fn rfl rfl ?_
 have hi : ((c.toNat : Nat) : Int)=byI c:=rfl
 rw [hi] at hg
 simp [-List.reduceReplicate,F132,c132,A09_pure,A09_len,h1,h2,h3,h4,hg,d09]
theorem make09_ok (ws : Nat) (h : Avm.H) : callL cfg ws 95 [.str ⟨#[48,49,50,51,52,53,54,55,56,57]⟩] h=some (.tup [.agg A09,.bool true],h):=by
 have hw1 : IntKind.wrap .i64 1=1:=by decide
 have hw2 : IntKind.wrap .i64 2=2:=by decide
 have hw3 : IntKind.wrap .i64 3=3:=by decide
 have hw4 : IntKind.wrap .i64 4=4:=by decide
 have hw5 : IntKind.wrap .i64 5=5:=by decide
 have hw6 : IntKind.wrap .i64 6=6:=by decide
 have hw7 : IntKind.wrap .i64 7=7:=by decide
 have hw8 : IntKind.wrap .i64 8=8:=by decide
 have hw9 : IntKind.wrap .i64 9=9:=by decide
 have hw10 : IntKind.wrap .i64 10=10:=by decide
 have hx0 : IntKind.wrap .i64 (0 + 1)=1:=by decide
 have hx1 : IntKind.wrap .i64 (1 + 1)=2:=by decide
 have hx2 : IntKind.wrap .i64 (2 + 1)=3:=by decide
 have hx3 : IntKind.wrap .i64 (3 + 1)=4:=by decide
 have hx4 : IntKind.wrap .i64 (4 + 1)=5:=by decide
 have hx5 : IntKind.wrap .i64 (5 + 1)=6:=by decide
 have hx6 : IntKind.wrap .i64 (6 + 1)=7:=by decide
 have hx7 : IntKind.wrap .i64 (7 + 1)=8:=by decide
 have hx8 : IntKind.wrap .i64 (8 + 1)=9:=by decide
 have hx9 : IntKind.wrap .i64 (9 + 1)=10:=by decide
 have hdr : A09.drop 256=[]:=List.drop_eq_nil_iff.2 (by rw [A09_len]; omega)
 have l10 : roundsL (evC (callL cfg) roundsL cfg.pol h.length h.length c95L0) [0,2,4] [(0,.str ⟨#[48,49,50,51,52,53,54,55,56,57]⟩),(2,.ptr h.length 0 256 0 0),(4,.int .i64 10)] (h++[.arr 0 256 [.agg A09]])=some (.exit 0,[(0,.str ⟨#[48,49,50,51,52,53,54,55,56,57]⟩),(2,.ptr h.length 0 256 0 0),(4,.int .i64 10)],h++[.arr 0 256 [.agg A09]]):=
  roundsL_k fun K hK=>by simp [-List.reduceReplicate,c95L0,ByteArray.size]
 have l9 : roundsL (evC (callL cfg) roundsL cfg.pol h.length h.length c95L0) [0,2,4] [(0,.str ⟨#[48,49,50,51,52,53,54,55,56,57]⟩),(2,.ptr h.length 0 256 0 0),(4,.int .i64 9)] (h++[.arr 0 256 [.agg (List.replicate 48 (.bool false)++.bool true :: .bool true :: .bool true :: .bool true :: .bool true :: .bool true :: .bool true :: .bool true :: .bool true :: List.replicate 199 (.bool false))]])=some (.exit 0,[(0,.str ⟨#[48,49,50,51,52,53,54,55,56,57]⟩),(2,.ptr h.length 0 256 0 0),(4,.int .i64 10)],h++[.arr 0 256 [.agg A09]]):=
  roundsL_k fun K hK=>by
   simp [-List.reduceReplicate,c95L0,ByteArray.size,hw10,hx9,List.take_append]
   rw [hK,← l10]
   try rfl
 have l8 : roundsL (evC (callL cfg) roundsL cfg.pol h.length h.length c95L0) [0,2,4] [(0,.str ⟨#[48,49,50,51,52,53,54,55,56,57]⟩),(2,.ptr h.length 0 256 0 0),(4,.int .i64 8)] (h++[.arr 0 256 [.agg (List.replicate 48 (.bool false)++.bool true :: .bool true :: .bool true :: .bool true :: .bool true :: .bool true :: .bool true :: .bool true :: List.replicate 200 (.bool false))]])=some (.exit 0,[(0,.str ⟨#[48,49,50,51,52,53,54,55,56,57]⟩),(2,.ptr h.length 0 256 0 0),(4,.int .i64 10)],h++[.arr 0 256 [.agg A09]]):=
  roundsL_k fun K hK=>by
   simp [-List.reduceReplicate,c95L0,ByteArray.size,hw9,hx8,List.take_append]
   rw [hK,← l9]
   try rfl
 have l7 : roundsL (evC (callL cfg) roundsL cfg.pol h.length h.length c95L0) [0,2,4] [(0,.str ⟨#[48,49,50,51,52,53,54,55,56,57]⟩),(2,.ptr h.length 0 256 0 0),(4,.int .i64 7)] (h++[.arr 0 256 [.agg (List.replicate 48 (.bool false)++.bool true :: .bool true :: .bool true :: .bool true :: .bool true :: .bool true :: .bool true :: List.replicate 201 (.bool false))]])=some (.exit 0,[(0,.str ⟨#[48,49,50,51,52,53,54,55,56,57]⟩),(2,.ptr h.length 0 256 0 0),(4,.int .i64 10)],h++[.arr 0 256 [.agg A09]]):=
  roundsL_k fun K hK=>by
   simp [-List.reduceReplicate,c95L0,ByteArray.size,hw8,hx7,List.take_append]
   rw [hK,← l8]
   try rfl
 have l6 : roundsL (evC (callL cfg) roundsL cfg.pol h.length h.length c95L0) [0,2,4] [(0,.str ⟨#[48,49,50,51,52,53,54,55,56,57]⟩),(2,.ptr h.length 0 256 0 0),(4,.int .i64 6)] (h++[.arr 0 256 [.agg (List.replicate 48 (.bool false)++.bool true :: .bool true :: .bool true :: .bool true :: .bool true :: .bool true :: List.replicate 202 (.bool false))]])=some (.exit 0,[(0,.str ⟨#[48,49,50,51,52,53,54,55,56,57]⟩),(2,.ptr h.length 0 256 0 0),(4,.int .i64 10)],h++[.arr 0 256 [.agg A09]]):=
  roundsL_k fun K hK=>by
   simp [-List.reduceReplicate,c95L0,ByteArray.size,hw7,hx6,List.take_append]
   rw [hK,← l7]
   try rfl
 have l5 : roundsL (evC (callL cfg) roundsL cfg.pol h.length h.length c95L0) [0,2,4] [(0,.str ⟨#[48,49,50,51,52,53,54,55,56,57]⟩),(2,.ptr h.length 0 256 0 0),(4,.int .i64 5)] (h++[.arr 0 256 [.agg (List.replicate 48 (.bool false)++.bool true :: .bool true :: .bool true :: .bool true :: .bool true :: List.replicate 203 (.bool false))]])=some (.exit 0,[(0,.str ⟨#[48,49,50,51,52,53,54,55,56,57]⟩),(2,.ptr h.length 0 256 0 0),(4,.int .i64 10)],h++[.arr 0 256 [.agg A09]]):=
  roundsL_k fun K hK=>by
   simp [-List.reduceReplicate,c95L0,ByteArray.size,hw6,hx5,List.take_append]
   rw [hK,← l6]
   try rfl
 have l4 : roundsL (evC (callL cfg) roundsL cfg.pol h.length h.length c95L0) [0,2,4] [(0,.str ⟨#[48,49,50,51,52,53,54,55,56,57]⟩),(2,.ptr h.length 0 256 0 0),(4,.int .i64 4)] (h++[.arr 0 256 [.agg (List.replicate 48 (.bool false)++.bool true :: .bool true :: .bool true :: .bool true :: List.replicate 204 (.bool false))]])=some (.exit 0,[(0,.str ⟨#[48,49,50,51,52,53,54,55,56,57]⟩),(2,.ptr h.length 0 256 0 0),(4,.int .i64 10)],h++[.arr 0 256 [.agg A09]]):=
  roundsL_k fun K hK=>by
   simp [-List.reduceReplicate,c95L0,ByteArray.size,hw5,hx4,List.take_append]
   rw [hK,← l5]
   try rfl
 have l3 : roundsL (evC (callL cfg) roundsL cfg.pol h.length h.length c95L0) [0,2,4] [(0,.str ⟨#[48,49,50,51,52,53,54,55,56,57]⟩),(2,.ptr h.length 0 256 0 0),(4,.int .i64 3)] (h++[.arr 0 256 [.agg (List.replicate 48 (.bool false)++.bool true :: .bool true :: .bool true :: List.replicate 205 (.bool false))]])=some (.exit 0,[(0,.str ⟨#[48,49,50,51,52,53,54,55,56,57]⟩),(2,.ptr h.length 0 256 0 0),(4,.int .i64 10)],h++[.arr 0 256 [.agg A09]]):=
  roundsL_k fun K hK=>by
   simp [-List.reduceReplicate,c95L0,ByteArray.size,hw4,hx3,List.take_append]
   rw [hK,← l4]
   try rfl
 have l2 : roundsL (evC (callL cfg) roundsL cfg.pol h.length h.length c95L0) [0,2,4] [(0,.str ⟨#[48,49,50,51,52,53,54,55,56,57]⟩),(2,.ptr h.length 0 256 0 0),(4,.int .i64 2)] (h++[.arr 0 256 [.agg (List.replicate 48 (.bool false)++.bool true :: .bool true :: List.replicate 206 (.bool false))]])=some (.exit 0,[(0,.str ⟨#[48,49,50,51,52,53,54,55,56,57]⟩),(2,.ptr h.length 0 256 0 0),(4,.int .i64 10)],h++[.arr 0 256 [.agg A09]]):=
  roundsL_k fun K hK=>by
   simp [-List.reduceReplicate,c95L0,ByteArray.size,hw3,hx2,List.take_append]
   rw [hK,← l3]
   try rfl
 have l1 : roundsL (evC (callL cfg) roundsL cfg.pol h.length h.length c95L0) [0,2,4] [(0,.str ⟨#[48,49,50,51,52,53,54,55,56,57]⟩),(2,.ptr h.length 0 256 0 0),(4,.int .i64 1)] (h++[.arr 0 256 [.agg (List.replicate 48 (.bool false)++.bool true :: List.replicate 207 (.bool false))]])=some (.exit 0,[(0,.str ⟨#[48,49,50,51,52,53,54,55,56,57]⟩),(2,.ptr h.length 0 256 0 0),(4,.int .i64 10)],h++[.arr 0 256 [.agg A09]]):=
  roundsL_k fun K hK=>by
   simp [-List.reduceReplicate,c95L0,ByteArray.size,hw2,hx1,List.take_append]
   rw [hK,← l2]
   try rfl
 have l0 : roundsL (evC (callL cfg) roundsL cfg.pol h.length h.length c95L0) [0,2,4] [(0,.str ⟨#[48,49,50,51,52,53,54,55,56,57]⟩),(2,.ptr h.length 0 256 0 0),(4,.int .i64 0)] (h++[.arr 0 256 [.agg Z256]])=some (.exit 0,[(0,.str ⟨#[48,49,50,51,52,53,54,55,56,57]⟩),(2,.ptr h.length 0 256 0 0),(4,.int .i64 10)],h++[.arr 0 256 [.agg A09]]):=
  roundsL_k fun K hK=>by
   simp [-List.reduceReplicate,c95L0,ByteArray.size,hw1,hx0,List.take_append,Z256]
   rw [hK,← l1]
   try rfl
 have hA1 : A09.length=256:=A09_len
 have hA2:=eq_true (List.all_eq_true.1 A09_one)
 have hA3:=A09_pure
 refine callL_fn rfl rfl ?_
 rw [Z256] at l0
 simp [-List.reduceReplicate,F95,c95,l0,hA1,hA2,List.take_of_length_le,Z256,hdr,frzL_pure A09_pure]
def ends9 (bs : List UInt8) : Prop:=bs=[] ∨ ∃ z,bs.getLast? = some z∧d09 z=false
theorem trimR9_loop (h : Avm.H) : ∀ (n : Nat) (s : ByteArray),s.size≤n→s.size≤1048576→∃ r : ByteArray,roundsL (evC (callL cfg) roundsL cfg.pol h.length h.length c97L0) [0,1] [(0,.str s),(1,.iptr A09)] h=some (.exit 0,[(0,.str r),(1,.iptr A09)],h)∧r.size≤s.size∧r.data.toList.all d09=s.data.toList.all d09∧ends9 r.data.toList:=by
 intro n
 induction n with
 | zero=>
  intro s hs hb
  have h0 : s.size=0:=by omega
  have hl : s.data.toList=[]:=List.eq_nil_of_length_eq_zero (by rw [← size_list]; omega)
  refine ⟨s,roundsL_k fun K hK=>?_,Nat.le_refl _,rfl,.inl hl⟩
  simp [c97L0,h0]
 | succ n ih=>
  intro s hs hb
  by_cases h0 : s.size=0
  ·have hl : s.data.toList=[]:=List.eq_nil_of_length_eq_zero (by rw [← size_list]; omega)
   refine ⟨s,roundsL_k fun K hK=>?_,Nat.le_refl _,rfl,.inl hl⟩
   simp [c97L0,h0]
  ·obtain ⟨k,hk⟩ : ∃ k,s.size=k + 1:=⟨s.size - 1,by omega⟩
   have hwk : IntKind.wrap .i64 (k : Int)=k:=wrap_nat (by omega)
   have hll : s.data.toList.length=k + 1:=by rw [← size_list,hk]
   obtain ⟨z,hz⟩ : ∃ z,s.data.toList[k]? = some z:=⟨s.data.toList[k],List.getElem?_eq_getElem (by omega)⟩
   have hz3 : ∀ hh : k < s.data.size,s.data[k]=z:=fun hh=>by
    have:=hz
    rw [List.getElem?_eq_getElem (by simpa using hh)] at this
    simpa using this
   have hzl : s.data.toList.getLast? = some z:=by rw [List.getLast?_eq_getElem?,hll]; exact hz
   have hdec : s.data.toList=s.data.toList.take k++[z]:=by
    have:=List.take_append_drop k s.data.toList
    have hd : s.data.toList.drop k=[z]:=by
     rw [List.drop_eq_getElem_cons (by omega),List.drop_eq_nil_iff.2 (by omega)]
     rw [List.getElem?_eq_getElem (by omega)] at hz
     cases hz; rfl
    rw [← hd,this]
   have hby : ∀ b : UInt8,((b.toNat : Nat) : Int)=byI b:=fun _=>rfl
   have hct:=contains09_ok z
   cases hq : d09 z
   ·rw [hq] at hct
    refine ⟨s,roundsL_k fun K hK=>?_,Nat.le_refl _,rfl,.inr ⟨z,hzl,hq⟩⟩
    simp [c97L0,hk,hwk,hz,hz3,hby,hct]
   ·rw [hq] at hct
    have hsz : (s.extract 0 k).size=k:=by rw [ByteArray.size_extract]; omega
    obtain ⟨r,h1,h2,h3,h4⟩:=ih (s.extract 0 k) (by omega) (by omega)
    refine ⟨r,roundsL_k fun K hK=>?_,by omega,?_,h4⟩
    ·simp [c97L0,hk,hwk,hz,hz3,hby,hct,slcI]
     rw [hK,← h1]
    ·rw [h3,ext_list]
     conv=>rhs; rw [hdec]
     simp [hq]
theorem trimR9_ok (s : ByteArray) (hb : s.size≤1048576) (u : AV) (ws : Nat) (h : Avm.H) (hu : snap h 8 u=some (.iptr A09)) : ∃ r : ByteArray,callL cfg ws 97 [.str s,u] h=some (.str r,h)∧r.size≤s.size∧r.data.toList.all d09=s.data.toList.all d09∧ends9 r.data.toList:=by
 obtain ⟨r,h1,h2⟩:=trimR9_loop h _ s (Nat.le_refl _) hb
 refine ⟨r,callL_fn rfl rfl ?_,h2⟩
 simp [F97,c97,hu,h1]
theorem trimL9_loop (h : Avm.H) : ∀ (n : Nat) (s : ByteArray),s.size≤n→∃ r : ByteArray,roundsL (evC (callL cfg) roundsL cfg.pol h.length h.length c96L0) [0,1] [(0,.str s),(1,.iptr A09)] h=some (.exit 0,[(0,.str r),(1,.iptr A09)],h)∧(r.data.toList=[] ↔ s.data.toList.all d09=true):=by
 intro n
 induction n with
 | zero=>
  intro s hs
  have h0 : s.size=0:=by omega
  have hl : s.data.toList=[]:=List.eq_nil_of_length_eq_zero (by rw [← size_list]; omega)
  refine ⟨s,roundsL_k fun K hK=>?_,by rw [hl]; simp⟩
  simp [c96L0,h0]
 | succ n ih=>
  intro s hs
  cases hl : s.data.toList with
  | nil=>
   have h0 : s.size=0:=by rw [size_list,hl]; rfl
   refine ⟨s,roundsL_k fun K hK=>?_,by rw [hl]; simp⟩
   simp [c96L0,h0]
  | cons c t=>
   have hk : s.size=t.length + 1:=by rw [size_list,hl]; rfl
   have hby : ∀ b : UInt8,((b.toNat : Nat) : Int)=byI b:=fun _=>rfl
   have hct:=contains09_ok c
   have hc0 : (c :: t)[0]? = some c:=rfl
   cases hq : d09 c
   ·rw [hq] at hct
    refine ⟨s,roundsL_k fun K hK=>?_,by rw [hl]; simp [hq]⟩
    simp [c96L0,hk,hl,hby,hct]
   ·rw [hq] at hct
    have hsz : (s.extract 1 s.size).size=t.length:=by rw [ByteArray.size_extract]; omega
    obtain ⟨r,h1,h2⟩:=ih (s.extract 1 s.size) (by omega)
    refine ⟨r,roundsL_k fun K hK=>?_,?_⟩
    ·rw [hk] at h1
     simp [c96L0,hk,hl,hby,hct,slcI]
     rw [hK,← h1]
    ·rw [h2,ext_list,hl,hk]
     simp [hq]
theorem trimL9_ok (s : ByteArray) (u : AV) (ws : Nat) (h : Avm.H) (hu : snap h 8 u=some (.iptr A09)) : ∃ r : ByteArray,callL cfg ws 96 [.str s,u] h=some (.str r,h)∧(r.data.toList=[] ↔ s.data.toList.all d09=true):=by
 obtain ⟨r,h1,h2⟩:=trimL9_loop h _ s (Nat.le_refl _)
 refine ⟨r,callL_fn rfl rfl ?_,h2⟩
 simp [F96,c96,hu,h1]
theorem ends9_all {bs : List UInt8} (h : ends9 bs) : bs.all d09=true ↔ bs=[]:=by
 rcases h with rfl | ⟨z,hz,hq⟩
 ·simp
 ·have hm : z ∈ bs:=List.mem_of_getLast? hz
  constructor
  ·intro ha
   rw [List.all_eq_true] at ha
   rw [ha z hm] at hq; cases hq
  ·rintro rfl; cases hm
theorem trim09_ok (s : ByteArray) (hb : s.size≤1048576) (ws : Nat) (h : Avm.H) : ∃ r : ByteArray,callL cfg ws 48 [.str s,.str ⟨#[48,49,50,51,52,53,54,55,56,57]⟩] h=some (.str r,h)∧(r.data.toList=[] ↔ s.data.toList.all d09=true):=by
 have hE0 : (⟨#[]⟩ : ByteArray).toList=[]:=by rw [ByteArray.toList_eq]
 have hE2 : (⟨#[48,49,50,51,52,53,54,55,56,57]⟩ : ByteArray).toList=[48,49,50,51,52,53,54,55,56,57]:=by rw [ByteArray.toList_eq]
 have hE : s.toList=s.data.toList:=by rw [ByteArray.toList_eq]
 have hsz2 : (⟨#[48,49,50,51,52,53,54,55,56,57]⟩ : ByteArray).size=10:=rfl
 have hmk:=make09_ok
 have hA1 : A09.length=256:=A09_len
 have hA2:=eq_true (List.all_eq_true.1 A09_one)
 have hdr : A09.drop 256=[]:=List.drop_eq_nil_iff.2 (by rw [A09_len]; omega)
 cases hl : s.data.toList with
 | nil=>
  refine ⟨s,callL_fn rfl rfl ?_,by rw [hl]; simp⟩
  simp [-List.reduceReplicate,F48,c48,hE,hl,hE0]
 | cons c t=>
  have hsn : snap (h++[.arr 0 256 [.agg A09]]) 8 (.ptr h.length 0 256 0 0)=some (.iptr A09):=by
   simp [hA1,snapL_pure A09_pure]
  obtain ⟨r1,q1,q2,q3,q4⟩:=trimR9_ok s hb (.ptr h.length 0 256 0 0) h.length _ hsn
  obtain ⟨r2,p1,p2⟩:=trimL9_ok r1 (.ptr h.length 0 256 0 0) h.length _ hsn
  refine ⟨r2,callL_fn rfl rfl ?_,by rw [p2,q3,hl]⟩
  simp [-List.reduceReplicate,F48,c48,hE,hl,hE0,hE2,hsz2,hmk,hA1,hA2,hdr,List.take_of_length_le,q1,p1]
end Go.Proofs.YteihdlcpfghmhaaGreatDoor
namespace Go.Proofs.YteihdlcpfghmhaaGreatDoor
open Go Go.Avm
theorem zero_dif : Ty.zero.allP difP=true:=by
 rw [Ty.allP_eq]
 simp [Ty.zero,difP,Ty.itemsOf,Ty.withItems,distinct,Ty.inner,Ty.comp]
theorem dif_shell (t : Ty) (f : It→It) (g : Ty→Ty) (hf : ∀ i,(f i).name=i.name) : difP (t.shell f g)=difP t:=by
 have e : (t.shell f g).itemsOf.map It.name=t.itemsOf.map It.name:=by
  unfold Ty.itemsOf
  have e1 : (t.shell f g).withItems=t.withItems:=rfl
  rw [e1]
  split
  ·show (t.items.map f).map It.name=_
   rw [List.map_map]
   exact List.map_congr_left fun i _=>hf i
  ·rfl
 unfold difP
 rw [e]
theorem put_dif (ps : List ByteArray) (args : List Ty) (ha : ∀ a ∈ args,a.allP difP=true) : ∀ (n : Nat) (t : Ty),t.size≤n→t.allP difP=true→(t.put ps args).allP difP=true
 | 0,t,h,_=>by have:=t.size_pos; omega
 | n + 1,t,h,hr=>by
  rw [Ty.put_eq]
  cases hp : t.par ps with
  | some i=>
   dsimp only
   cases hi : args[i]? with
   | none=>exact zero_dif
   | some a=>exact ha a (List.mem_of_getElem? hi)
  | none=>
   dsimp only
   have hsh : (Ty.mk t.kind t.name t.lo t.hi t.free t.ext (t.items.map fun x=>x.withOf (x.of.put ps args)) (t.kids.map fun x=>x.put ps args))=t.shell (fun x=>x.withOf (x.of.put ps args)) (fun x=>x.put ps args):=rfl
   rw [hsh,Ty.allP_eq,Bool.and_eq_true]
   refine ⟨(dif_shell t (fun x=>x.withOf (x.of.put ps args)) _ (fun _=>rfl)).trans (allP_self hr),?_⟩
   rw [List.all_eq_true]
   intro x hx
   unfold Ty.inner Ty.shell at hx
   rcases List.mem_append.1 hx with hx | hx
   ·obtain ⟨y,hy,rfl⟩:=List.mem_map.1 (by simpa using hx : x ∈ t.kids.map fun x=>x.put ps args)
    exact put_dif ps args ha n y (by have:=Ty.mem_kids hy; omega) (allP_inner hr (List.mem_append_left _ hy))
   ·split at hx
    ·rename_i hc
     obtain ⟨i,hi,rfl⟩:=List.mem_map.1 hx
     obtain ⟨j,hj,rfl⟩:=List.mem_map.1 (by simpa using hi : i ∈ t.items.map fun x=>x.withOf (x.of.put ps args))
     have hc' : t.comp=true:=hc
     refine put_dif ps args ha n j.of (by have:=Ty.mem_of hj; omega) (allP_inner hr ?_)
     unfold Ty.inner
     rw [hc']
     exact List.mem_append_right _ (List.mem_map_of_mem hj)
    ·cases hx
def Md.df (m : Md) : Prop:=∀ d ∈ m.defs,d.of.allP difP=true
theorem step_dif (m : Md) (hf : m.df) {t u : Ty} (ht : t.allP difP=true) (h : stepB m t=some u) : u.allP difP=true:=by
 unfold stepB at h
 split at h
 ·cases h
 ·rename_i d hd
  have hdm:=List.mem_of_find?_eq_some hd
  split at h
  ·cases h
  ·split at h
   ·cases h; exact hf d hdm
   ·split at h
    ·cases h
     exact put_dif _ _ (fun a ha=>allP_inner ht (List.mem_append_left _ ha)) _ _ (Nat.le_refl _) (hf d hdm)
    ·cases h
theorem errM_dup {m : Md} (h : errM m=0) : m.df:=fun d hd=>by
 unfold errM at h
 split at h
 ·cases h
 cases q1 : m.defs.all dupD
 ·rw [q1] at h
  simp only [Bool.false_and,if_true] at h
  split at h
  ·cases h
  split at h
  ·cases h
  ·cases h
 ·have:=List.all_eq_true.1 q1 d hd
  simp only [dupD,Bool.and_eq_true] at this
  exact this.2
theorem errT_dif {m : Md} {t : Ty} (h : errT m t=0) : t.allP difP=true:=by
 unfold errT at h
 cases q : t.allP difP
 ·rw [q] at h
  simp only [if_true] at h
  split at h
  ·cases h
  split at h
  ·cases h
  ·cases h
 ·rfl
structure QP (m : Md) (t : Ty) : Prop where
 wid : t.wid≤1048576
 nodes : t.nodes≤600
 right : t.allP rightP=true
 dif : t.allP difP=true
theorem QP.inner {m : Md} {t x : Ty} (h : QP m t) (hx : x ∈ t.inner) : QP m x:=
 ⟨Nat.le_trans (Ty.wid_inner hx) h.wid,by have:=Ty.nodes_inner hx; have:=h.nodes; omega,allP_inner h.right hx,allP_inner h.dif hx⟩
theorem QP.beh {m : Md} (hm : m.ok) (hl : m.lim) (hf : m.fm) (hd : m.df) {t b : Ty} (h : QP m t) (hb : beh m 21 t=some b) : QP m b∧b.kind ≠ 10:=by
 obtain ⟨h1,h2,h3⟩:=beh_good m hm hf h.wid h.right hb
 have h4:=beh_inv m (fun t=>t.allP difP=true) (fun t u hp hs=>step_dif m hd hp hs) 21 t b h.dif hb
 exact ⟨⟨h1,beh_nodes m hl h.nodes hb,h2,h4.1⟩,h3⟩
def digV (c : UInt8) : Nat:=c.toNat - 48
def decP : List UInt8→Bool
 | []=>false
 | [c]=>d09 c
 | c :: d :: r=>!decide (byI c=48) && (d09 c && (d :: r).all d09)
def valN (n : Nat) : List UInt8→Nat
 | []=>n
 | c :: r=>valN (10 * n + digV c) r
def satN (n : Nat) : List UInt8→Nat
 | []=>n
 | c :: r=>satN (min (10 * n + digV c) 1000000000000000) r
theorem valN_le : ∀ (l : List UInt8) (n : Nat),n≤valN n l
 | [],n=>Nat.le_refl _
 | c :: r,n=>by have:=valN_le r (10 * n + digV c); unfold valN; omega
theorem valN_mono : ∀ (l : List UInt8) (n k : Nat),n≤k→valN n l≤valN k l
 | [],n,k,h=>h
 | c :: r,n,k,h=>valN_mono r _ _ (by omega)
theorem sat_val : ∀ (l : List UInt8) (n : Nat),satN (min n 1000000000000000) l=min (valN n l) 1000000000000000
 | [],n=>rfl
 | c :: r,n=>by
  unfold satN valN
  by_cases q : n≤1000000000000000
  ·rw [Nat.min_eq_left q,sat_val r]
  ·rw [Nat.min_eq_right (by omega : 1000000000000000≤n),sat_val r]
   have h1:=valN_le r (10 * 1000000000000000 + digV c)
   have h2:=valN_le r (10 * n + digV c)
   omega
theorem sat_val0 (l : List UInt8) : satN 0 l=min (valN 0 l) 1000000000000000:=sat_val l 0
def stepP (m : Md) (t : Ty) (v : Val) (s : ByteArray) : Int × Ty × Val:=
 match beh m 21 t with
 | none=>(6,t,v)
 | some b=>
  if b.kind=7 then (if decP s.data.toList=false then (6,t,v) else match v.items[valN 0 s.data.toList]? with | some x=>(0,b.kids.headD Ty.zero,x) | none=>(3,t,v))
  else if b.kind=8 then (match b.items.findIdx? (fun i=>eqS i.name s) with
   | none=>(6,t,v)
   | some i=>match b.items[i]?,v.items[i]? with
    | some y,some x=>if x.kind=12 then (3,t,v) else (0,y.of,x)
    | _,_=>(3,t,v))
  else if b.kind=9 then (match b.items.findIdx? (fun i=>eqS i.name s) with
   | none=>(6,t,v)
   | some i=>match b.items[i]?,v.items with
    | some y,x :: _=>if v.int=i then (0,y.of,x) else (3,t,v)
    | _,_=>(3,t,v))
  else (6,t,v)
def goP (m : Md) : Ty→Val→List ByteArray→Int × Val
 | _,v,[]=>(0,v)
 | t,v,s :: r=>match stepP m t v s with
  | (e,t',v')=>if e=0 then goP m t' v' r else (e,.mk 0 0 ⟨#[]⟩ [])
theorem step_keeps (m : Md) (hm : m.ok) (hl : m.lim) (hf : m.fm) (hd : m.df) {t t' : Ty} {v v' : Val} {s : ByteArray} {n : Nat} (hq : QP m t) (hfit : fitB m n t v=true) (h : stepP m t v s=(0,t',v')) : QP m t'∧v'.size < v.size∧∃ k,fitB m k t' v'=true:=by
 cases n with
 | zero=>cases hfit
 | succ n=>
 unfold fitB at hfit
 unfold stepP at h
 cases hb : beh m 21 t with
 | none=>rw [hb] at hfit; cases hfit
 | some b=>
  rw [hb] at hfit h
  dsimp only at hfit h
  obtain ⟨hqb,hk10⟩:=hq.beh hm hl hf hd hb
  simp only [Bool.and_eq_true,decide_eq_true_eq] at hfit
  obtain ⟨hk,hfs⟩:=hfit
  have hin : ∀ x ∈ v.items,x.size < v.size:=fun x hx=>by have:=Val.sizeL_mem hx; have:=v.size_eq; omega
  by_cases q7 : b.kind=7
  ·rw [if_pos q7] at h
   split at h
   ·cases h
   ·split at h
    ·rename_i x hx
     cases h
     have hxm:=List.mem_of_getElem? hx
     have hr7:=allP_self hqb.right
     unfold rightP at hr7
     rw [if_neg (by omega),if_neg (by omega),if_neg (by omega),if_neg (by omega),if_neg (by omega),if_neg (by omega),if_neg (by omega),if_neg (by omega),if_pos q7] at hr7
     simp only [Bool.and_eq_true,decide_eq_true_eq] at hr7
     unfold fitS at hfs
     rw [if_neg (by omega),if_neg (by omega),if_neg (by omega),if_neg (by omega),if_neg (by omega),if_neg (by omega),if_neg (by omega),if_neg (by omega),if_pos q7] at hfs
     simp only [Bool.and_eq_true] at hfs
     have hkid : b.kids.headD Ty.zero ∈ b.inner:=by
      unfold Ty.inner
      refine List.mem_append_left _ ?_
      cases hks : b.kids with
      | nil=>rw [hks] at hr7; simp at hr7
      | cons a l=>simp
     exact ⟨hqb.inner hkid,hin _ hxm,n,List.all_eq_true.1 hfs.2.2 _ hxm⟩
    ·cases h
  ·rw [if_neg q7] at h
   by_cases q8 : b.kind=8
   ·rw [if_pos q8] at h
    split at h
    ·cases h
    ·rename_i i hi
     split at h
     ·rename_i y x hy hx
      split at h
      ·cases h
      ·rename_i hx12
       cases h
       unfold fitS at hfs
       rw [if_neg (by omega),if_neg (by omega),if_neg (by omega),if_neg (by omega),if_neg (by omega),if_neg (by omega),if_neg (by omega),if_neg (by omega),if_neg (by omega),if_neg (by omega)] at hfs
       simp only [Bool.and_eq_true] at hfs
       have hz : (y,v') ∈ b.items.zip v.items:=by
        refine List.mem_of_getElem? (i:=i) ?_
        exact List.getElem?_zip_eq_some.2 ⟨hy,hx⟩
       have hp:=List.all_eq_true.1 hfs.2.2 _ hz
       unfold partB at hp
       simp only [hx12,decide_false,Bool.false_and,Bool.false_or] at hp
       refine ⟨hqb.inner ?_,hin _ (List.mem_of_getElem? hx),n,hp⟩
       unfold Ty.inner
       have hc : b.comp=true:=by simp [Ty.comp,q8]
       rw [hc]
       exact List.mem_append_right _ (List.mem_map_of_mem (List.mem_of_getElem? hy))
     ·cases h
   ·rw [if_neg q8] at h
    by_cases q9 : b.kind=9
    ·rw [if_pos q9] at h
     split at h
     ·cases h
     ·rename_i i hi
      split at h
      ·rename_i y x r hy hx
       split at h
       ·rename_i hvi
        cases h
        unfold fitS at hfs
        rw [if_neg (by omega),if_neg (by omega),if_neg (by omega),if_neg (by omega),if_neg (by omega),if_neg (by omega),if_neg (by omega),if_neg (by omega),if_neg (by omega),if_pos q9] at hfs
        simp only [Bool.and_eq_true] at hfs
        have hp:=hfs.2.2.2
        rw [hvi,Int.toNat_natCast,hy,hx] at hp
        refine ⟨hqb.inner ?_,hin _ (by rw [hx]; simp),n,hp⟩
        unfold Ty.inner
        have hc : b.comp=true:=by simp [Ty.comp,q9]
        rw [hc]
        exact List.mem_append_right _ (List.mem_map_of_mem (List.mem_of_getElem? hy))
       ·cases h
      ·cases h
    ·rw [if_neg q9] at h; cases h
end Go.Proofs.YteihdlcpfghmhaaGreatDoor
