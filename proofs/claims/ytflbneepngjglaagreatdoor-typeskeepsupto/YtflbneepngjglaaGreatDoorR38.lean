/- Whether a value fits a type: the program. -/
import Derived.Test.YtflbneepngjglaaGreatDoorR37
set_option linter.all false
namespace Go.Proofs.YtflbneepngjglaaGreatDoor
open Go Go.Avm
def Z256 : List AV:=List.replicate 256 (.bool false)
def A01 : List AV:=List.replicate 48 (.bool false)++.bool true :: .bool true :: List.replicate 206 (.bool false)
theorem A01_len : A01.length=256:=by simp [-List.reduceReplicate,A01]
theorem A01_pure : pureL A01=true:=by kernel_rfl
theorem A01_one : A01.all AV.one=true:=by simp [-List.reduceReplicate,A01]
def d01 (c : UInt8) : Bool:=decide (byI c=48) || decide (byI c=49)
theorem A01_get (n : Nat) (hn : n < 256) : A01[n]? = some (.bool (decide ((n : Int)=48) || decide ((n : Int)=49))):=by
 unfold A01
 rcases Nat.lt_trichotomy n 48 with q | q | q
 ·rw [List.getElem?_append_left (by simpa [-List.reduceReplicate] using q)]
  have h1 : ¬ (n : Int)=48:=by omega
  have h2 : ¬ (n : Int)=49:=by omega
  simp [-List.reduceReplicate,q,h1,h2]
 ·subst q; simp [-List.reduceReplicate]
 ·rw [List.getElem?_append_right (by simp [-List.reduceReplicate]; omega)]
  obtain ⟨k,rfl⟩ : ∃ k,n=49 + k:=⟨n - 49,by omega⟩
  have e : 49 + k - (List.replicate 48 (AV.bool false)).length=k + 1:=by simp [-List.reduceReplicate]; omega
  rw [e,List.getElem?_cons_succ]
  cases k with
  | zero=>simp [-List.reduceReplicate]
  | succ k=>
   have h1 : ¬ ((49 + (k + 1) : Nat) : Int)=48:=by omega
   have h2 : ¬ ((49 + (k + 1) : Nat) : Int)=49:=by omega
   rw [List.getElem?_cons_succ,List.getElem?_replicate,if_pos (by omega),decide_eq_false h1,decide_eq_false h2]
   rfl
theorem contains01_ok (c : UInt8) (ws : Nat) (h : Avm.H) : callL cfg ws 237 [.iptr A01,.int .u8 (byI c)] h=some (.bool (d01 c),h):=by
 have hc : c.toNat < 256:=c.toNat_lt
 have hg:=A01_get c.toNat hc
 have h1 : (0 : Int)≤byI c:=by unfold byI; omega
 have h2 : byI c < 256:=by unfold byI; omega
 have h3 : (byI c).toNat=c.toNat:=by unfold byI; omega
 have h4 : c.toNat≤256:=by omega
 refine callL_fn rfl rfl ?_
 have hi : ((c.toNat : Nat) : Int)=byI c:=rfl
 rw [hi] at hg
 simp [-List.reduceReplicate,F237,c237,A01_pure,A01_len,h1,h2,h3,h4,hg,d01]
theorem make01_ok (ws : Nat) (h : Avm.H) : callL cfg ws 169 [.str ⟨#[48,49]⟩] h=some (.tup [.agg A01,.bool true],h):=by
 have hw1 : IntKind.wrap .i64 1=1:=by decide
 have hw2 : IntKind.wrap .i64 (1 + 1)=2:=by decide
 have hw3 : IntKind.wrap .i64 2=2:=by decide
 have hdr : A01.drop 256=[]:=List.drop_eq_nil_iff.2 (by rw [A01_len]; omega)
 have l2 : roundsL (evC (callL cfg) roundsL cfg.pol h.length h.length c169L0) [0,2,4] [(0,.str ⟨#[48,49]⟩),(2,.ptr h.length 0 256 0 0),(4,.int .i64 2)] (h++[.arr 0 256 [.agg A01]])=some (.exit 0,[(0,.str ⟨#[48,49]⟩),(2,.ptr h.length 0 256 0 0),(4,.int .i64 2)],h++[.arr 0 256 [.agg A01]]):=
  roundsL_k fun K hK=>by simp [-List.reduceReplicate,c169L0,ByteArray.size]
 have l1 : roundsL (evC (callL cfg) roundsL cfg.pol h.length h.length c169L0) [0,2,4] [(0,.str ⟨#[48,49]⟩),(2,.ptr h.length 0 256 0 0),(4,.int .i64 1)] (h++[.arr 0 256 [.agg (List.replicate 48 (.bool false)++.bool true :: List.replicate 207 (.bool false))]])=some (.exit 0,[(0,.str ⟨#[48,49]⟩),(2,.ptr h.length 0 256 0 0),(4,.int .i64 2)],h++[.arr 0 256 [.agg A01]]):=
  roundsL_k fun K hK=>by
   simp [-List.reduceReplicate,c169L0,ByteArray.size,hw2,hw3,List.take_append]
   rw [hK,← l2]; rfl
 have l0 : roundsL (evC (callL cfg) roundsL cfg.pol h.length h.length c169L0) [0,2,4] [(0,.str ⟨#[48,49]⟩),(2,.ptr h.length 0 256 0 0),(4,.int .i64 0)] (h++[.arr 0 256 [.agg Z256]])=some (.exit 0,[(0,.str ⟨#[48,49]⟩),(2,.ptr h.length 0 256 0 0),(4,.int .i64 2)],h++[.arr 0 256 [.agg A01]]):=
  roundsL_k fun K hK=>by
   simp [-List.reduceReplicate,c169L0,ByteArray.size,hw1,Z256]
   rw [hK,← l1]
 have hA1 : A01.length=256:=A01_len
 have hA2:=eq_true (List.all_eq_true.1 A01_one)
 have hA3:=A01_pure
 refine callL_fn rfl rfl ?_
 rw [Z256] at l0
 simp [-List.reduceReplicate,F169,c169,l0,hA1,hA2,List.take_of_length_le,Z256,hdr,frzL_pure A01_pure]
theorem ext_list (s : ByteArray) (a b : Nat) : (s.extract a b).data.toList=(s.data.toList.drop a).take (b - a):=by simp
theorem size_list (s : ByteArray) : s.size=s.data.toList.length:=by rw [Array.length_toList]; rfl
def ends (bs : List UInt8) : Prop:=bs=[] ∨ ∃ z,bs.getLast? = some z∧d01 z=false
theorem trimR_loop (h : Avm.H) : ∀ (n : Nat) (s : ByteArray),s.size≤n→s.size≤67108864→∃ r : ByteArray,roundsL (evC (callL cfg) roundsL cfg.pol h.length h.length c171L0) [0,1] [(0,.str s),(1,.iptr A01)] h=some (.exit 0,[(0,.str r),(1,.iptr A01)],h)∧r.size≤s.size∧r.data.toList.all d01=s.data.toList.all d01∧ends r.data.toList:=by
 intro n
 induction n with
 | zero=>
  intro s hs hb
  have h0 : s.size=0:=by omega
  have hl : s.data.toList=[]:=List.eq_nil_of_length_eq_zero (by rw [← size_list]; omega)
  refine ⟨s,roundsL_k fun K hK=>?_,Nat.le_refl _,rfl,.inl hl⟩
  simp [c171L0,h0]
 | succ n ih=>
  intro s hs hb
  by_cases h0 : s.size=0
  ·have hl : s.data.toList=[]:=List.eq_nil_of_length_eq_zero (by rw [← size_list]; omega)
   refine ⟨s,roundsL_k fun K hK=>?_,Nat.le_refl _,rfl,.inl hl⟩
   simp [c171L0,h0]
  ·obtain ⟨k,hk⟩ : ∃ k,s.size=k + 1:=⟨s.size - 1,by omega⟩
   have hwk : IntKind.wrap .i64 (k : Int)=k:=wrap_nat (by omega)
   have hll : s.data.toList.length=k + 1:=by rw [← size_list,hk]
   obtain ⟨z,hz⟩ : ∃ z,s.data.toList[k]? = some z:=⟨s.data.toList[k],List.getElem?_eq_getElem (by omega)⟩
   have hz3 : ∀ hh : k < s.data.size,s.data[k]=z:=fun hh=>by
    have:=hz
    rw [List.getElem?_eq_getElem (by simpa using hh)] at this
    simpa using this
   have hzl : s.data.toList.getLast? = some z:=by rw [List.getLast?_eq_getElem?,hll]; exact hz
   have hdec : s.data.toList=s.data.toList.take k++[z]:=by
    have:=List.take_append_drop k s.data.toList
    have hd : s.data.toList.drop k=[z]:=by
     rw [List.drop_eq_getElem_cons (by omega),List.drop_eq_nil_iff.2 (by omega)]
     rw [List.getElem?_eq_getElem (by omega)] at hz
     cases hz; rfl
    rw [← hd,this]
   have hby : ∀ b : UInt8,((b.toNat : Nat) : Int)=byI b:=fun _=>rfl
   have hct:=contains01_ok z
   cases hq : d01 z
   ·rw [hq] at hct
    refine ⟨s,roundsL_k fun K hK=>?_,Nat.le_refl _,rfl,.inr ⟨z,hzl,hq⟩⟩
    simp [c171L0,hk,hwk,hz,hz3,hby,hct]
   ·rw [hq] at hct
    have hsz : (s.extract 0 k).size=k:=by rw [ByteArray.size_extract]; omega
    obtain ⟨r,h1,h2,h3,h4⟩:=ih (s.extract 0 k) (by omega) (by omega)
    refine ⟨r,roundsL_k fun K hK=>?_,by omega,?_,h4⟩
    ·simp [c171L0,hk,hwk,hz,hz3,hby,hct,slcI]
     rw [hK,← h1]
    ·rw [h3,ext_list]
     conv=>rhs; rw [hdec]
     simp [hq]
theorem trimR_ok (s : ByteArray) (hb : s.size≤67108864) (u : AV) (ws : Nat) (h : Avm.H) (hu : snap h 8 u=some (.iptr A01)) : ∃ r : ByteArray,callL cfg ws 171 [.str s,u] h=some (.str r,h)∧r.size≤s.size∧r.data.toList.all d01=s.data.toList.all d01∧ends r.data.toList:=by
 obtain ⟨r,h1,h2⟩:=trimR_loop h _ s (Nat.le_refl _) hb
 refine ⟨r,callL_fn rfl rfl ?_,h2⟩
 simp [F171,c171,hu,h1]
theorem trimL_loop (h : Avm.H) : ∀ (n : Nat) (s : ByteArray),s.size≤n→∃ r : ByteArray,roundsL (evC (callL cfg) roundsL cfg.pol h.length h.length c170L0) [0,1] [(0,.str s),(1,.iptr A01)] h=some (.exit 0,[(0,.str r),(1,.iptr A01)],h)∧(r.data.toList=[] ↔ s.data.toList.all d01=true):=by
 intro n
 induction n with
 | zero=>
  intro s hs
  have h0 : s.size=0:=by omega
  have hl : s.data.toList=[]:=List.eq_nil_of_length_eq_zero (by rw [← size_list]; omega)
  refine ⟨s,roundsL_k fun K hK=>?_,by rw [hl]; simp⟩
  simp [c170L0,h0]
 | succ n ih=>
  intro s hs
  cases hl : s.data.toList with
  | nil=>
   have h0 : s.size=0:=by rw [size_list,hl]; rfl
   refine ⟨s,roundsL_k fun K hK=>?_,by rw [hl]; simp⟩
   simp [c170L0,h0]
  | cons c t=>
   have hk : s.size=t.length + 1:=by rw [size_list,hl]; rfl
   have hby : ∀ b : UInt8,((b.toNat : Nat) : Int)=byI b:=fun _=>rfl
   have hct:=contains01_ok c
   have hc0 : (c :: t)[0]? = some c:=rfl
   cases hq : d01 c
   ·rw [hq] at hct
    refine ⟨s,roundsL_k fun K hK=>?_,by rw [hl]; simp [hq]⟩
    simp [c170L0,hk,hl,hby,hct]
   ·rw [hq] at hct
    have hsz : (s.extract 1 s.size).size=t.length:=by rw [ByteArray.size_extract]; omega
    obtain ⟨r,h1,h2⟩:=ih (s.extract 1 s.size) (by omega)
    refine ⟨r,roundsL_k fun K hK=>?_,?_⟩
    ·rw [hk] at h1
     simp [c170L0,hk,hl,hby,hct,slcI]
     rw [hK,← h1]
    ·rw [h2,ext_list,hl,hk]
     simp [hq]
theorem trimL_ok (s : ByteArray) (u : AV) (ws : Nat) (h : Avm.H) (hu : snap h 8 u=some (.iptr A01)) : ∃ r : ByteArray,callL cfg ws 170 [.str s,u] h=some (.str r,h)∧(r.data.toList=[] ↔ s.data.toList.all d01=true):=by
 obtain ⟨r,h1,h2⟩:=trimL_loop h _ s (Nat.le_refl _)
 refine ⟨r,callL_fn rfl rfl ?_,h2⟩
 simp [F170,c170,hu,h1]
theorem trim01_ok (s : ByteArray) (hb : s.size≤67108864) (ws : Nat) (h : Avm.H) : ∃ r : ByteArray,callL cfg ws 89 [.str s,.str ⟨#[48,49]⟩] h=some (.str r,h)∧(r.data.toList=[] ↔ s.data.toList.all d01=true):=by
 have hE0 : (⟨#[]⟩ : ByteArray).toList=[]:=by rw [ByteArray.toList_eq]
 have hE2 : (⟨#[48,49]⟩ : ByteArray).toList=[48,49]:=by rw [ByteArray.toList_eq]
 have hE : s.toList=s.data.toList:=by rw [ByteArray.toList_eq]
 have hsz2 : (⟨#[48,49]⟩ : ByteArray).size=2:=rfl
 have hmk:=make01_ok
 have hA1 : A01.length=256:=A01_len
 have hA2:=eq_true (List.all_eq_true.1 A01_one)
 have hdr : A01.drop 256=[]:=List.drop_eq_nil_iff.2 (by rw [A01_len]; omega)
 cases hl : s.data.toList with
 | nil=>
  refine ⟨s,callL_fn rfl rfl ?_,by rw [hl]; simp⟩
  simp [-List.reduceReplicate,F89,c89,hE,hl,hE0]
 | cons c t=>
  have hsn : snap (h++[.arr 0 256 [.agg A01]]) 8 (.ptr h.length 0 256 0 0)=some (.iptr A01):=by
   simp [hA1,snapL_pure A01_pure]
  obtain ⟨r1,q1,q2,q3,q4⟩:=trimR_ok s hb (.ptr h.length 0 256 0 0) h.length _ hsn
  obtain ⟨r2,p1,p2⟩:=trimL_ok r1 (.ptr h.length 0 256 0 0) h.length _ hsn
  refine ⟨r2,callL_fn rfl rfl ?_,by rw [p2,q3,hl]⟩
  simp [-List.reduceReplicate,F89,c89,hE,hl,hE0,hE2,hsz2,hmk,hA1,hA2,hdr,List.take_of_length_le,q1,p1]
end Go.Proofs.YtflbneepngjglaaGreatDoor
namespace Go.Proofs.YtflbneepngjglaaGreatDoor
open Go Go.Avm
def arcI (x : Val) : Bool:=decide (x.kind=2) && (hasP true false false x && inP x.int 0 1000000000)
def arc2 : List Val→Bool
 | a :: b :: _=>decide (a.int=2) || (decide (a.int < 2) && decide (b.int≤39))
 | _=>false
def arcP (v : Val) : Bool:=hasP false false true v && (inP (v.items.length : Int) 2 10 && (v.items.all arcI && arc2 v.items))
theorem arcs_loop (v : Val) (hv : v.size≤67108864) (h : Avm.H) : ∃ g,roundsL (evC (callL cfg) roundsL cfg.pol h.length h.length c90L0) [1,18,19,20] [(1,.ptr h.length 0 4 0 0),(18,.isl (v.items.map Val.enc)),(19,.int .i64 v.items.length),(20,.int .i64 (0 : Nat))] (h++([.arr 0 4 [v.enc]]++[]))=some (if (v.items).all arcI=true then (.exit 0,[(1,.ptr h.length 0 4 0 0),(18,.isl (v.items.map Val.enc)),(19,.int .i64 v.items.length),(20,.int .i64 (v.items).length)],h++([.arr 0 4 [v.enc]]++g)) else (.ret,[(2,.bool false)],h++([.arr 0 4 [v.enc]]++g))):=by
 have hl : (v.items).length≤67108864:=(by have:=v.len_items; omega)
 have hlp:=loop_post (γ:=Avm.H) (f:=evC (callL cfg) roundsL cfg.pol h.length h.length c90L0) (keep:=[1,18,19,20]) (v.items) (fun _ _=>True)
     (fun i _=>[(1,.ptr h.length 0 4 0 0),(18,.isl (v.items.map Val.enc)),(19,.int .i64 v.items.length),(20,.int .i64 i)]) (fun _ g=>h++([.arr 0 4 [v.enc]]++g))
     (fun _ r o=>∃ g,o=if r.all arcI=true then (.exit 0,[(1,.ptr h.length 0 4 0 0),(18,.isl (v.items.map Val.enc)),(19,.int .i64 v.items.length),(20,.int .i64 (v.items).length)],h++([.arr 0 4 [v.enc]]++g)) else (.ret,[(2,.bool false)],h++([.arr 0 4 [v.enc]]++g))) ?_ ?_ [] trivial
 ·obtain ⟨o,h1,g,h2⟩:=hlp
  exact ⟨g,h2 ▸ h1⟩
 ·intro i x r g hd hi hx _ K hK
  have hw:=wrap_nat (n:=i + 1) (by omega)
  simp at hw
  have hm : x ∈ (v.items):=by rw [← hx]; exact List.getElem_mem hi
  have hb:=hasI_ok x
  have hin:=fun ws h=>in_ok x.int 0 1000000000 ws h
  simp at hb
  cases hv : arcI x
  ·refine ⟨_,?_,(g++[.arr 0 4 [x.enc]]),by simp only [List.all_cons,hv,Bool.false_and,Bool.false_eq_true,if_false]; rfl⟩
   unfold arcI at hv
   cases q2 : hasP true false false x <;> cases q3 : inP x.int 0 1000000000 <;> by_cases q1 : x.kind=2 <;> simp [q1,q2,q3] at hv <;> (try simp only [q2] at hb) <;> (try simp only [q3] at hin) <;> (try simp only [q1] at hb) <;> simp [c90L0,hi,hx,hin,q1,hb]
  ·obtain ⟨o,h4,g2,h5⟩:=hK (g++[.arr 0 4 [x.enc]]) trivial
   refine ⟨o,?_,g2,by simp only [List.all_cons,hv,Bool.true_and]; exact h5⟩
   simp at h4
   unfold arcI at hv
   cases q2 : hasP true false false x <;> cases q3 : inP x.int 0 1000000000 <;> by_cases q1 : x.kind=2 <;> simp [q1,q2,q3] at hv <;> (try simp only [q2] at hb) <;> (try simp only [q3] at hin) <;> (try simp only [q1] at hb h4) <;> simp [c90L0,hi,hx,hin,q1,hb,hw,h4]
 ·intro g K _
  refine ⟨_,?_,g,by simp only [List.all_nil,if_true]; rfl⟩
  simp [c90L0]
theorem arcs_ok (v : Val) (hv : v.size≤67108864) (ws : Nat) (h : Avm.H) : callL cfg ws 90 [v.enc] h=some (.bool (arcP v),h):=by
 have hh:=hasL_ok v
 have hin:=fun ws h=>in_ok (v.items.length : Int) 2 10 ws h
 obtain ⟨g,hl⟩:=arcs_loop v hv h
 refine callL_fn rfl rfl ?_
 unfold arcP
 simp at hh
 cases q1 : hasP false false true v
 ·rw [q1] at hh
  simp [F90,c90,hh]
 ·rw [q1] at hh
  cases q2 : inP (v.items.length : Int) 2 10
  ·rw [q2] at hin
   simp [F90,c90,hh,hin]
  ·rw [q2] at hin
   cases q3 : v.items.all arcI
   ·rw [q3] at hl
    simp at hl
    simp [F90,c90,hh,hin,hl]
   ·rw [q3] at hl
    simp at hl
    simp only [inP,Bool.and_eq_true,decide_eq_true_eq] at q2
    obtain ⟨a,b,r,hab⟩ : ∃ a b r,v.items=a :: b :: r:=by
     match hvi : v.items with
     | []=>rw [hvi] at q2; simp at q2
     | [a]=>rw [hvi] at q2; simp at q2
     | a :: b :: r=>exact ⟨a,b,r,rfl⟩
    rw [hab] at hl hh hin
    simp at hl hh hin
    by_cases q4 : a.int=2
    ·simp [F90,c90,hh,hin,hl,hab,arc2,q4] <;> simp [q4] at hl hh <;> simp [hh,hin,hl,q4]
    ·simp [F90,c90,hh,hin,hl,hab,arc2,q4]
theorem zero_right : Ty.zero.allP rightP=true:=by
 rw [Ty.allP_eq]
 simp [Ty.zero,Ty.inner,Ty.comp,rightP,Ty.onone,Ty.n0,Ty.l0,Ty.h0,Ty.i0,Ty.k0,eqS]
theorem allP_inner {p : Ty→Bool} {t x : Ty} (h : t.allP p=true) (hx : x ∈ t.inner) : x.allP p=true:=by
 rw [Ty.allP_eq,Bool.and_eq_true,List.all_eq_true] at h
 exact h.2 x hx
theorem allP_self {p : Ty→Bool} {t : Ty} (h : t.allP p=true) : p t=true:=by
 rw [Ty.allP_eq,Bool.and_eq_true] at h
 exact h.1
theorem same_zero_put {t : Ty} (ps : List ByteArray) (args : List Ty) (h : t.same Ty.zero=true) : (t.put ps args).same Ty.zero=true:=by
 rw [same_zero] at h
 simp only [Bool.and_eq_true,decide_eq_true_eq] at h
 obtain ⟨h1,h2,h3,h4,h5,h6,h7,h8⟩:=h
 have hp : t.par ps=none:=by unfold Ty.par; rw [if_neg]; rw [h1]; rintro ⟨e,_⟩; cases e
 rw [Ty.put_eq,hp,same_zero]
 have h7' : t.items=[]:=by simpa [Ty.i0] using h7
 have h8' : t.kids=[]:=by simpa [Ty.k0] using h8
 simp only [Ty.kind_mk,h1,decide_true,Bool.true_and,Ty.n0,Ty.name_mk,Ty.l0,Ty.lo_mk,Ty.h0,Ty.hi_mk,Ty.free_mk,Ty.ext_mk,Ty.i0,Ty.items_mk,Ty.k0,Ty.kids_mk,h7',h8',List.map_nil,List.isEmpty_nil,Bool.and_true] at *
 simp only [h2,h3,h4,h5,h6,Bool.and_true]
theorem ite_imp {c : Prop} [Decidable c] {a a' b b' : Bool} (h : (if c then a else b)=true) (h1 : a=true→a'=true) (h2 : b=true→b'=true) : (if c then a' else b')=true:=by
 by_cases q : c
 ·rw [if_pos q] at h ⊢; exact h1 h
 ·rw [if_neg q] at h ⊢; exact h2 h
def Ty.shell (t : Ty) (f : It→It) (g : Ty→Ty) : Ty:=.mk t.kind t.name t.lo t.hi t.free t.ext (t.items.map f) (t.kids.map g)
theorem right_shell (t : Ty) (f : It→It) (g : Ty→Ty) (he : ∀ i,(f i).extra=i.extra) (ho : ∀ i,plainI (f i)=plainI i) (hb : ∀ i ∈ t.items,bareI i=true→bareI (f i)=true) (h : rightP t=true) : rightP (t.shell f g)=true:=by
 have e1 : (t.items.map f).findIdx? It.extra=t.items.findIdx? It.extra:=by
  rw [List.findIdx?_map]; congr 1; funext i; exact he i
 have e2 : ∀ j,((t.items.map f).drop j).all It.extra=(t.items.drop j).all It.extra:=fun j=>by
  rw [← List.map_drop,List.all_map]; congr 1; funext i; exact he i
 have e3 : (t.items.map f).all plainI=t.items.all plainI:=by
  rw [List.all_map]; congr 1; funext i; exact ho i
 have e4 : t.items.all bareI=true→(t.items.map f).all bareI=true:=fun h=>by
  rw [List.all_eq_true] at h ⊢
  intro x hx
  obtain ⟨i,hi,rfl⟩:=List.mem_map.1 hx
  exact hb i hi (h i hi)
 have e5 : ∀ n,itP (t.shell f g) n=itP t n:=fun n=>by
  unfold itP Ty.shell
  simp only [Ty.items_mk,Ty.ext_mk,e1,e2,List.length_map]
 have e6 : (t.items.map f).isEmpty=t.items.isEmpty:=by cases t.items <;> rfl
 have e7 : (t.kids.map g).isEmpty=t.kids.isEmpty:=by cases t.kids <;> rfl
 have k1 : ∀ a b,rngP (t.shell f g) a b=rngP t a b:=fun _ _=>rfl
 have o1 : (t.shell f g).onone=t.onone:=by simp only [Ty.onone,Ty.shell,Ty.n0,Ty.l0,Ty.h0,Ty.i0,Ty.k0,Ty.name_mk,Ty.lo_mk,Ty.hi_mk,Ty.free_mk,Ty.ext_mk,Ty.items_mk,Ty.kids_mk,e6,e7] <;> rfl
 have o2 : (t.shell f g).oLFE=t.oLFE:=by simp only [Ty.oLFE,Ty.shell,Ty.n0,Ty.l0,Ty.h0,Ty.i0,Ty.k0,Ty.name_mk,Ty.lo_mk,Ty.hi_mk,Ty.free_mk,Ty.ext_mk,Ty.items_mk,Ty.kids_mk,e6,e7] <;> rfl
 have o3 : (t.shell f g).oEI=t.oEI:=by simp only [Ty.oEI,Ty.shell,Ty.n0,Ty.l0,Ty.h0,Ty.i0,Ty.k0,Ty.name_mk,Ty.lo_mk,Ty.hi_mk,Ty.free_mk,Ty.ext_mk,Ty.items_mk,Ty.kids_mk,e6,e7] <;> rfl
 have o4 : (t.shell f g).oLFEK=t.oLFEK:=by simp only [Ty.oLFEK,Ty.shell,Ty.n0,Ty.l0,Ty.h0,Ty.i0,Ty.k0,Ty.name_mk,Ty.lo_mk,Ty.hi_mk,Ty.free_mk,Ty.ext_mk,Ty.items_mk,Ty.kids_mk,e6,e7] <;> rfl
 have o5 : (t.shell f g).oNK=t.oNK:=by simp only [Ty.oNK,Ty.shell,Ty.n0,Ty.l0,Ty.h0,Ty.i0,Ty.k0,Ty.name_mk,Ty.lo_mk,Ty.hi_mk,Ty.free_mk,Ty.ext_mk,Ty.items_mk,Ty.kids_mk,e6,e7] <;> rfl
 have kk : (t.shell f g).kind=t.kind:=rfl
 have kl : (t.shell f g).kids.length=t.kids.length:=by simp [Ty.shell]
 have ki : (t.shell f g).items=t.items.map f:=rfl
 unfold rightP at h ⊢
 rw [o1,o2,o3,o4,o5,kk,kl,ki,e3,e5,e5]
 simp only [k1]
 exact ite_imp h id fun h=>ite_imp h id fun h=>ite_imp h id fun h=>ite_imp h id fun h=>ite_imp h id fun h=>ite_imp h (fun h=>by simp only [Bool.and_eq_true] at h ⊢; exact ⟨h.1,h.2.1,e4 h.2.2⟩) fun h=>h
theorem put_right (ps : List ByteArray) (args : List Ty) (ha : ∀ a ∈ args,a.allP rightP=true) : ∀ (n : Nat) (t : Ty),t.size≤n→t.allP rightP=true→(t.put ps args).allP rightP=true
 | 0,t,h,_=>by have:=t.size_pos; omega
 | n + 1,t,h,hr=>by
  rw [Ty.put_eq]
  cases hp : t.par ps with
  | some i=>
   dsimp only
   cases hi : args[i]? with
   | none=>exact zero_right
   | some a=>exact ha a (List.mem_of_getElem? hi)
  | none=>
   dsimp only
   have hsh : (Ty.mk t.kind t.name t.lo t.hi t.free t.ext (t.items.map fun x=>x.withOf (x.of.put ps args)) (t.kids.map fun x=>x.put ps args))=t.shell (fun x=>x.withOf (x.of.put ps args)) (fun x=>x.put ps args):=rfl
   rw [hsh,Ty.allP_eq,Bool.and_eq_true]
   refine ⟨right_shell t _ _ (fun _=>rfl) (fun _=>rfl) (fun i _ hb=>?_) (allP_self hr),?_⟩
   ·unfold bareI at hb ⊢
    simp only [Bool.and_eq_true] at hb ⊢
    exact ⟨same_zero_put ps args hb.1,hb.2⟩
   ·rw [List.all_eq_true]
    intro x hx
    unfold Ty.inner Ty.shell at hx
    rcases List.mem_append.1 hx with hx | hx
    ·obtain ⟨y,hy,rfl⟩:=List.mem_map.1 (by simpa using hx : x ∈ t.kids.map fun x=>x.put ps args)
     exact put_right ps args ha n y (by have:=Ty.mem_kids hy; omega) (allP_inner hr (List.mem_append_left _ hy))
    ·split at hx
     ·rename_i hc
      obtain ⟨i,hi,rfl⟩:=List.mem_map.1 hx
      obtain ⟨j,hj,rfl⟩:=List.mem_map.1 (by simpa using hi : i ∈ t.items.map fun x=>x.withOf (x.of.put ps args))
      have hc' : t.comp=true:=hc
      refine put_right ps args ha n j.of (by have:=Ty.mem_of hj; omega) (allP_inner hr ?_)
      unfold Ty.inner
      rw [hc']
      exact List.mem_append_right _ (List.mem_map_of_mem hj)
     ·cases hx
def Md.fm (m : Md) : Prop:=∀ d ∈ m.defs,d.of.allP rightP=true
theorem step_right (m : Md) (hf : m.fm) {t u : Ty} (ht : t.allP rightP=true) (h : stepB m t=some u) : u.allP rightP=true:=by
 unfold stepB at h
 split at h
 ·cases h
 ·rename_i d hd
  have hdm:=List.mem_of_find?_eq_some hd
  split at h
  ·cases h
  ·split at h
   ·cases h; exact hf d hdm
   ·split at h
    ·cases h
     exact put_right _ _ (fun a ha=>allP_inner ht (List.mem_append_left _ ha)) _ _ (Nat.le_refl _) (hf d hdm)
    ·cases h
theorem beh_inv (m : Md) (p : Ty→Prop) (hs : ∀ t u,p t→stepB m t=some u→p u) : ∀ (n : Nat) (t b : Ty),p t→beh m n t=some b→p b∧b.kind ≠ 10
 | 0,t,b,_,h=>by cases h
 | n + 1,t,b,hp,h=>by
  unfold beh at h
  split at h
  ·cases hst : stepB m t with
   | none=>rw [hst] at h; cases h
   | some u=>rw [hst] at h; exact beh_inv m p hs n u b (hs t u hp hst) h
  ·rename_i q; cases h; exact ⟨hp,q⟩
theorem beh_good (m : Md) (hm : m.ok) (hf : m.fm) {t b : Ty} (ht : t.wid≤67108864) (hr : t.allP rightP=true) (h : beh m 21 t=some b) : b.wid≤67108864∧b.allP rightP=true∧b.kind ≠ 10:=by
 have h1:=beh_inv m (fun t=>t.wid≤67108864∧t.allP rightP=true) (fun t u hp hs=>⟨step_wid m hm hp.1 hs,step_right m hf hp.2 hs⟩) 21 t b ⟨ht,hr⟩ h
 exact ⟨h1.1.1,h1.1.2,h1.2⟩
end Go.Proofs.YtflbneepngjglaaGreatDoor
namespace Go.Proofs.YtflbneepngjglaaGreatDoor
open Go Go.Avm
def partB (sub : Ty→Val→Bool) (p : It × Val) : Bool:=(decide (p.2.kind=12) && (hasP false false false p.2 && mayP p.1)) || sub p.1.of p.2
def fitS (b : Ty) (v : Val) (sub : Ty→Val→Bool) : Bool:=
 if b.kind=0 then hasP false false false v
 else if b.kind=1 then hasP true false false v && inP v.int 0 1
 else if b.kind=2 then hasP true false false v && (inP v.int (-1000000000000000) 1000000000000000 && (b.free || (b.ext || inP v.int b.lo b.hi)))
 else if b.kind=3 then hasP true false false v && inP v.int 0 ((b.items.length : Int) - 1)
 else if b.kind=4 then hasP false true false v && allowP b (v.bytes.size : Int) 4000
 else if b.kind=5 then hasP false true false v && (v.bytes.data.toList.all d01 && allowP b (v.bytes.size : Int) 32000)
 else if b.kind=6 then arcP v
 else if b.kind=11 then hasP false true false v && decide (v.bytes.size≤4000)
 else if b.kind=7 then hasP false false true v && (allowP b (v.items.length : Int) 200 && v.items.all (sub (b.kids.headD Ty.zero)))
 else if b.kind=9 then hasP true false true v && (inP v.int 0 ((b.items.length : Int) - 1) && (decide (v.items.length=1) && sub ((b.items[v.int.toNat]?.map It.of).getD Ty.zero) (v.items.headD (.mk 0 0 ⟨#[]⟩ []))))
 else hasP false false true v && (decide (v.items.length=b.items.length) && (b.items.zip v.items).all (partB sub))
def fitB (m : Md) : Nat→Ty→Val→Bool
 | 0,_,_=>false
 | n + 1,t,v=>match beh m 21 t with
  | none=>false
  | some b=>decide (v.kind=b.kind) && fitS b v (fitB m n)
theorem containsV_ok {g : FuncId} {k : Nat} {p : Val→Bool} {cap cap' : List AV} (l : List Val) (hl : l.length≤67108864) (hs : Still cfg g) (h : Avm.H) (hcap : snapL (snap h 7) cap=some cap') (hcp : pureL cap'=true) (hp : ∀ x ∈ l,∀ ws h',callL cfg ws g (cap'.take k++([x.enc]++cap'.drop k)) h'=some (.bool (p x),h')) (ws : Nat) :
    callL cfg ws 91 [.isl (l.map Val.enc),.clos g k cap] h=some (.bool (l.any p),h):=
 containsFunc_gen (K:=174) (sz:=4) (ag:=true) rfl rfl rfl rfl hl (by simp) (Val.henc l) hs hcap hcp hp ws
theorem fits_loop (m : Md) (b : Ty) (v : Val) (hlen : v.items.length=b.items.length) (hvl : v.items.length≤67108864) (sub : Ty→Val→Bool) (hsub : ∀ i ∈ b.items,∀ x ∈ v.items,∀ ws h,callL cfg ws 49 [m.enc,i.of.enc,x.enc] h=some (.bool (sub i.of x),h)) (h : Avm.H) :
    ∃ g,roundsL (evC (callL cfg) roundsL cfg.pol h.length h.length c49L0) [3,4,186,187,188] [(3,.ptr h.length 0 2 0 0),(4,.ptr (h.length + 1) 0 8 0 0),(186,.isl (v.items.map Val.enc)),(187,.int .i64 v.items.length),(188,.int .i64 (0 : Nat))] (h++([.arr 0 2 [m.enc],.arr 0 8 [b.enc],.arr 0 4 [v.enc]]++[]))=some (if (b.items.zip v.items).all (partB sub)=true then (.exit 1,[(3,.ptr h.length 0 2 0 0),(4,.ptr (h.length + 1) 0 8 0 0),(186,.isl (v.items.map Val.enc)),(187,.int .i64 v.items.length),(188,.int .i64 v.items.length)],h++([.arr 0 2 [m.enc],.arr 0 8 [b.enc],.arr 0 4 [v.enc]]++g)) else (.ret,[(6,.bool false)],h++([.arr 0 2 [m.enc],.arr 0 8 [b.enc],.arr 0 4 [v.enc]]++g))):=by
 have hzl : (b.items.zip v.items).length=v.items.length:=by simp [hlen]
 have hl : (b.items.zip v.items).length≤67108864:=by omega
 have hlp:=loop_post (γ:=Avm.H) (f:=evC (callL cfg) roundsL cfg.pol h.length h.length c49L0) (keep:=[3,4,186,187,188]) (b.items.zip v.items) (fun _ _=>True)
     (fun i _=>[(3,.ptr h.length 0 2 0 0),(4,.ptr (h.length + 1) 0 8 0 0),(186,.isl (v.items.map Val.enc)),(187,.int .i64 v.items.length),(188,.int .i64 i)]) (fun _ g=>h++([.arr 0 2 [m.enc],.arr 0 8 [b.enc],.arr 0 4 [v.enc]]++g))
     (fun _ r o=>∃ g,o=if r.all (partB sub)=true then (.exit 1,[(3,.ptr h.length 0 2 0 0),(4,.ptr (h.length + 1) 0 8 0 0),(186,.isl (v.items.map Val.enc)),(187,.int .i64 v.items.length),(188,.int .i64 v.items.length)],h++([.arr 0 2 [m.enc],.arr 0 8 [b.enc],.arr 0 4 [v.enc]]++g)) else (.ret,[(6,.bool false)],h++([.arr 0 2 [m.enc],.arr 0 8 [b.enc],.arr 0 4 [v.enc]]++g))) ?_ ?_ [] trivial
 ·obtain ⟨o,h1,g,h2⟩:=hlp
  exact ⟨g,h2 ▸ h1⟩
 ·intro i x r g hd hi hx _ K hK
  have hw:=wrap_nat (n:=i + 1) (by omega)
  simp at hw
  have hiv : i < v.items.length:=by omega
  have hib : i < b.items.length:=by omega
  obtain ⟨y,x⟩:=x
  rw [List.getElem_zip] at hx
  have hxv : v.items[i]=x:=congrArg Prod.snd hx
  have hxb : b.items[i]=y:=congrArg Prod.fst hx
  have hmx : x ∈ v.items:=by rw [← hxv]; exact List.getElem_mem hiv
  have hmy : y ∈ b.items:=by rw [← hxb]; exact List.getElem_mem hib
  have e1:=fun ws h=>hsub y hmy x hmx ws h
  have e2:=fun ws h=>has0_ok x ws h
  have e3:=fun ws h=>may_ok y ws h
  simp [Md.enc] at e1 e2 e3
  cases hv : partB sub (y,x)
  ·refine ⟨_,?_,g++[.arr 0 4 [x.enc]],by simp only [List.all_cons,hv,Bool.false_and,Bool.false_eq_true,if_false]; rfl⟩
   unfold partB at hv
   simp at hv
   by_cases q1 : x.kind=12
   ·simp [q1] at e1 e2
    cases q2 : hasP false false false x
    ·rw [q2] at e2
     simp [c49L0,c49S19,Md.enc,hiv,hib,hxv,hxb,e1,e2,hv,q1]
    ·rw [q2] at e2
     cases q3 : mayP y
     ·rw [q3] at e3
      simp [c49L0,c49S19,Md.enc,hiv,hib,hxv,hxb,e1,e2,e3,hv,q1]
     ·simp [q1,q2,q3] at hv
   ·simp [c49L0,c49S19,Md.enc,hiv,hib,hxv,hxb,e1,hv,q1]
  ·obtain ⟨o,h4,g2,h5⟩:=hK (g++[.arr 0 4 [x.enc]]) trivial
   refine ⟨o,?_,g2,by simp only [List.all_cons,hv,Bool.true_and]; exact h5⟩
   unfold partB at hv
   simp at hv
   by_cases q1 : x.kind=12
   ·simp [q1] at e1 e2
    simp [Md.enc,q1] at h4
    cases q2 : hasP false false false x
    ·rw [q2] at e2
     simp [q1,q2] at hv
     simp [c49L0,c49S19,Md.enc,hiv,hib,hxv,hxb,e1,e2,hv,q1,hw,h4]
    ·rw [q2] at e2
     cases q3 : mayP y
     ·rw [q3] at e3
      simp [q1,q2,q3] at hv
      simp [c49L0,c49S19,Md.enc,hiv,hib,hxv,hxb,e1,e2,e3,hv,q1,hw,h4]
     ·rw [q3] at e3
      simp [c49L0,c49S19,Md.enc,hiv,hib,hxv,hxb,e2,e3,q1,hw,h4]
   ·simp [q1] at hv
    simp [Md.enc] at h4
    simp [c49L0,c49S19,Md.enc,hiv,hib,hxv,hxb,e1,hv,q1,hw,h4]
 ·intro g K _
  refine ⟨_,?_,g,by simp only [List.all_nil,if_true]; rfl⟩
  simp [c49L0,Md.enc,hlen]
theorem fitsK_ok (m : Md) (t : Ty) (v : Val) (hv : v.size≤67108864) (b : Ty) (hb1 : b.wid≤67108864) (sub : Ty→Val→Bool)
    (hsub : ∀ x ∈ v.items,∀ ws h,callL cfg ws 49 [m.enc,(b.kids.headD Ty.zero).enc,x.enc] h=some (.bool (sub (b.kids.headD Ty.zero) x),h)) (hk : b.kids.length=1) (ws : Nat) (h : Avm.H) :
    callL cfg ws 91 [.isl (v.items.map Val.enc),.clos 92 0 [.ptr h.length 0 2 0 0,.ptr (h.length + 1) 0 8 0 0]] (h++[.arr 0 2 [m.enc],.arr 0 8 [b.enc],.arr 0 4 [v.enc]])=some (.bool (!v.items.all (sub (b.kids.headD Ty.zero))),h++[.arr 0 2 [m.enc],.arr 0 8 [b.enc],.arr 0 4 [v.enc]]):=by
 have hl : v.items.length≤67108864:=by have:=v.len_items; omega
 obtain ⟨k,hk⟩:=List.length_eq_one_iff.1 hk
 have hp : ∀ x ∈ v.items,∀ ws h',callL cfg ws 92 [x.enc,.iptr m.enc.cells,.iptr b.enc.cells] h'=some (.bool (!sub (b.kids.headD Ty.zero) x),h'):=fun x hx ws h'=>by
  have e1:=fun ws h=>hsub x hx ws h
  rw [hk] at e1
  simp [Md.enc] at e1
  refine callL_fn rfl rfl ?_
  simp [F92,c92,Md.enc,hk,e1]
 have h1:=containsV_ok (g:=92) (k:=0) (cap:=[.ptr h.length 0 2 0 0,.ptr (h.length + 1) 0 8 0 0]) (cap':=[.iptr m.enc.cells,.iptr b.enc.cells]) (p:=fun x=>!sub (b.kids.headD Ty.zero) x) v.items hl (.inl rfl) (h++[.arr 0 2 [m.enc],.arr 0 8 [b.enc],.arr 0 4 [v.enc]]) (by simp [Md.enc]) (by simp [Md.enc]) (by simpa using hp) ws
 rw [h1]
 simp [List.not_all_eq_any_not]
end Go.Proofs.YtflbneepngjglaaGreatDoor
