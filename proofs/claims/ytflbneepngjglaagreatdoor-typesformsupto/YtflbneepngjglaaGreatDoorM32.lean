/- References that name something; items that differ in name. -/
import Derived.Test.YtflbneepngjglaaGreatDoorM31
set_option linter.all false
namespace Go.Proofs.YtflbneepngjglaaGreatDoor
open Go Go.Avm
def ltrI (n : Int) : Bool:=(decide (97<=n) && decide (n<=122)) || ((decide (65<=n) && decide (n<=90)) || (decide (48<=n) && decide (n<=57)))
def byI (b : UInt8) : Int:=(b.toNat : Int)
def okC (c : UInt8) : Bool:=ltrI (byI c) || decide (byI c=45)
def lastB (bs : List UInt8) : Int:=match bs.getLast? with | some c=>byI c | none=>0
def nmB (f l : Int) (bs : List UInt8) : Bool:=match bs with
 | []=>false
 | c :: r=>decide ((c :: r).length<=30) && (decide (f<=byI c) && (decide (byI c<=l) && (!decide (lastB (c :: r)=45) && (!Lib.contains (c :: r) [45,45] && (c :: r).all okC))))
theorem letter_ok (n : Int) (ws : Nat) (h : Avm.H) : Qb cfg ws 263 [.int .u8 n] h=some (.bool (ltrI n),h):=by
 refine Qc rfl rfl ?_
 have a1 : ∀ a : Int,(!decide (a < n))=decide (n<=a):=fun a=>by by_cases q : n<=a <;> simp [q] <;> omega
 simp [F263,c263,ltrI,Bool.or_assoc,a1]
theorem name_loop (bs : List UInt8) (hb : bs.length<=1048576) (h : Avm.H) : ∃ g,Qa (evC (Qb cfg) Qa cfg.pol h.length h.length c225L0) [41,42,43] [(41,.osl h.length 0 1 0 bs.length),(42,.int .i64 bs.length),(43,.int .i64 (0 : Nat))] (h++([.arr 0 1 (bs.map fun b=>.int .u8 (byI b))]++[]))=some (if (bs).all okC=true then (.exit 0,[(41,.osl h.length 0 1 0 bs.length),(42,.int .i64 bs.length),(43,.int .i64 (bs).length)],h++([.arr 0 1 (bs.map fun b=>.int .u8 (byI b))]++g)) else (.ret,[(6,.bool false)],h++([.arr 0 1 (bs.map fun b=>.int .u8 (byI b))]++g))):=by
 have hl : (bs).length<=1048576:=hb
 have hlp:=Qi (γ:=Avm.H) (f:=evC (Qb cfg) Qa cfg.pol h.length h.length c225L0) (keep:=[41,42,43]) (bs) (fun _ _=>True)
     (fun i _=>[(41,.osl h.length 0 1 0 bs.length),(42,.int .i64 bs.length),(43,.int .i64 i)]) (fun _ g=>h++([.arr 0 1 (bs.map fun b=>.int .u8 (byI b))]++g))
     (fun _ r o=>∃ g,o=if r.all okC=true then (.exit 0,[(41,.osl h.length 0 1 0 bs.length),(42,.int .i64 bs.length),(43,.int .i64 (bs).length)],h++([.arr 0 1 (bs.map fun b=>.int .u8 (byI b))]++g)) else (.ret,[(6,.bool false)],h++([.arr 0 1 (bs.map fun b=>.int .u8 (byI b))]++g))) ?_ ?_ [] trivial
 ·obtain ⟨o,h1,g,h2⟩:=hlp
  exact ⟨g,h2 ▸ h1⟩
 ·intro i x r g hd hi hx _ K hK
  have hw:=Qd (n:=i + 1) (by omega)
  simp at hw
  have hm : x ∈ (bs):=by rw [← hx]; exact List.getElem_mem hi
  have hlt:=fun ws h=>letter_ok (byI x) ws h
  have hlt45:=fun ws h=>letter_ok 45 ws h
  have h45 : ltrI 45=false:=by decide
  cases hv : okC x
  ·refine ⟨_,?_,g,by simp only [List.all_cons,hv,Bool.false_and,Bool.false_eq_true,if_false]; rfl⟩
   simp only [okC,Bool.or_eq_false_iff,decide_eq_false_iff_not] at hv
   obtain ⟨hv1,hv2⟩:=hv
   simp [c225L0,hi,hx,hlt,hlt45,h45,hv1,hv2]
  ·obtain ⟨o,h4,g2,h5⟩:=hK g trivial
   refine ⟨o,?_,g2,by simp only [List.all_cons,hv,Bool.true_and]; exact h5⟩
   simp at h4
   simp only [okC,Bool.or_eq_true,decide_eq_true_eq] at hv
   rcases hv with hv | hv <;> simp [c225L0,hi,hx,hlt,hlt45,h45,hv,hw,h4]
 ·intro g K _
  refine ⟨_,?_,g,by simp only [List.all_nil,if_true]; rfl⟩
  simp [c225L0]
theorem name_ok (f l : Int) (s : ByteArray) (hs : s.size<=1048576) (ws : Nat) (h : Avm.H) : Qb cfg ws 225 [.str s,.int .u8 f,.int .u8 l] h=some (.bool (nmB f l s.data.toList),h):=by
 obtain ⟨bs,hbs⟩ : ∃ bs,s.data.toList=bs:=⟨_,rfl⟩
 have hsz : s.size=bs.length:=by rw [← hbs,Array.length_toList]; rfl
 have hco:=fun ws h=>QN (cfg:=cfg) (f:=166) (ws:=ws) (args:=[.str s,.str ⟨#[45,45]⟩]) (h:=h) (r:=(.bool (Lib.contains bs [45,45]),h)) rfl (by simp only [QU,hbs]; rw [if_pos (by omega)])
 obtain ⟨g,hl⟩:=name_loop bs (by omega) h
 simp only [← hsz] at hl
 have hE : s.toList=bs:=by rw [ByteArray.toList_eq,hbs]
 have hE0 : (⟨#[]⟩ : ByteArray).toList=[]:=by rw [ByteArray.toList_eq]
 refine Qc rfl rfl ?_
 rw [hbs]
 cases bs with
 | nil=>simp [F225,c225,hE,hE0,nmB]
 | cons c r=>
  have hw : IntKind.wrap .i64 ((s.size : Int) - 1)=r.length:=by rw [hsz]; simp; exact Qd (by simp at hsz; omega)
  have hlast : (c :: r)[r.length]? = (c :: r).getLast?:=by rw [List.getLast?_eq_getElem?]; simp
  obtain ⟨z,hz⟩ : ∃ z,(c :: r).getLast? = some z:=⟨_,List.getLast?_cons⟩
  have hlz : lastB (c :: r)=byI z:=by simp [lastB,hz]
  have e30 : ((30 : Int) < s.size) = ¬ ((c :: r).length<=30):=by apply propext; rw [hsz]; omega
  rw [hz] at hlast
  simp only [nmB,hlz]
  have hc0 : (c :: r)[0]? = some c:=rfl
  have hby : ∀ b : UInt8,((b.toNat : Nat) : Int)=byI b:=fun _=>rfl
  by_cases q1 : (c :: r).length<=30
  ·by_cases q2 : f<=byI c
   ·have n1 : ¬ byI c < f:=by omega
    by_cases q3 : byI c<=l
    ·have n2 : ¬ l < byI c:=by omega
     by_cases q4 : byI z=45
     ·simp [F225,c225,hE,hE0,hbs,hw,hc0,hlast,e30,hco,hby,-List.length_cons,q1,q2,q3,q4,n1,n2]
     ·cases q5 : Lib.contains (c :: r) [45,45] <;> simp only [q5] at hco
      ·cases q6 : (c :: r).all okC <;> simp only [q6] at hl <;> simp at hl <;> simp [F225,c225,hE,hE0,hbs,hw,hc0,hlast,e30,hco,hby,-List.length_cons,q1,q2,q3,q4,n1,n2,hl]
      ·simp [F225,c225,hE,hE0,hbs,hw,hc0,hlast,e30,hco,hby,-List.length_cons,q1,q2,q3,q4,n1,n2]
    ·have n2 : l < byI c:=by omega
     simp [F225,c225,hE,hE0,hbs,hw,hc0,hlast,e30,hco,hby,-List.length_cons,q1,q2,q3,n1,n2]
   ·have n1 : byI c < f:=by omega
    simp [F225,c225,hE,hE0,hbs,hw,hc0,hlast,e30,hco,hby,-List.length_cons,q1,q2,n1]
  ·simp [F225,c225,hE,hE0,hbs,hw,hc0,hlast,e30,hco,hby,-List.length_cons,q1]
end Go.Proofs.YtflbneepngjglaaGreatDoor
namespace Go.Proofs.YtflbneepngjglaaGreatDoor
open Go Go.Avm
def dashB (c : UInt8) : Bool:=decide (byI c=45)
def hdD : List UInt8->Bool
 | []=>false
 | d :: _=>dashB d
def rl : Bool->List UInt8->Bool
 | _,[]=>true
 | p,c :: r=>(ltrI (byI c) || (dashB c && !p)) && rl (dashB c) r
def prevD (bs : List UInt8) : Nat->Bool
 | 0=>false
 | j + 1=>match bs[j]? with | some c=>dashB c | none=>false
def rnB (bs : List UInt8) : Bool:=match bs with
 | []=>false
 | c :: r=>decide ((c :: r).length<=30) && (!decide (lastB (c :: r)=45) && rl false (c :: r))
theorem ltr_fold (n : Int) : (decide (97<=n) && !decide (122 < n) || (decide (65<=n) && !decide (90 < n) || decide (48<=n) && decide (n<=57)))=ltrI n:=by
 have a1 : ∀ a : Int,(!decide (a < n))=decide (n<=a):=fun a=>by by_cases q : n<=a <;> simp [q] <;> omega
 rw [a1,a1]; rfl
theorem rname_loop (s : ByteArray) (bs : List UInt8) (hbs : s.data.toList=bs) (hb : bs.length<=1048576) (h : Avm.H) : Qa (evC (Qb cfg) Qa cfg.pol h.length h.length c243L0) [0,3] [(0,.str s),(3,.int .i64 (0 : Nat))] h =
    some (if rl false bs=true then (.exit 0,[(0,.str s),(3,.int .i64 bs.length)],h) else (.ret,[(2,.bool false)],h)):=by
 have hsz : s.size=bs.length:=by rw [← hbs,Array.length_toList]; rfl
 have hby : ∀ b : UInt8,((b.toNat : Nat) : Int)=byI b:=fun _=>rfl
 have hl:=Qz (f:=evC (Qb cfg) Qa cfg.pol h.length h.length c243L0) (keep:=[0,3]) bs (fun i=>[(0,.str s),(3,.int .i64 i)]) (fun _=>h)
  (fun i r=>if rl (prevD bs i) r=true then (.exit 0,[(0,.str s),(3,.int .i64 bs.length)],h) else (.ret,[(2,.bool false)],h)) ?_ ?_
 ·exact hl
 ·intro i x r hd hi hx K hK
  have hw:=Qd (n:=i + 1) (by omega)
  simp at hw
  have hpn : prevD bs (i + 1)=dashB x:=by simp [prevD,hi,hx]
  rw [hpn] at hK
  have hil : (i : Int) < s.size:=by omega
  rw [rl]
  have hx? : bs[i]? = some x:=by rw [List.getElem?_eq_getElem hi,hx]
  cases i with
  | zero=>
   have hil2 : (0 : Int) < (bs.length : Int):=by omega
   simp only [prevD,Bool.not_false,Bool.and_true]
   simp at hK hw
   cases q1 : ltrI (byI x) <;> by_cases q2 : byI x=45
   ·simp only [dashB,q2,decide_true] at hK
    simp [c243L0,hbs,hx?,hx,hsz,hi,hby,hil2,Bool.or_assoc,ltr_fold,q1,dashB,q2,hw]
    have h45 : ltrI 45=false:=by decide
    try simp [ltr_fold,h45,hw,hK]
   ·simp [c243L0,hbs,hx?,hx,hsz,hi,hby,hil2,Bool.or_assoc,ltr_fold,q1,dashB,q2]
   ·rw [q2] at q1; exact absurd q1 (by decide)
   ·simp only [dashB,q2,decide_false] at hK
    simp [c243L0,hbs,hx?,hx,hsz,hi,hby,hil2,Bool.or_assoc,ltr_fold,q1,dashB,q2,hw,hK]
  | succ j=>
   obtain ⟨y,hy⟩ : ∃ y,bs[j]? = some y:=⟨bs[j],List.getElem?_eq_getElem (by omega)⟩
   have hwj : IntKind.wrap .i64 (j : Int)=j:=Qd (by omega)
   have hpj : prevD bs (j + 1)=dashB y:=by simp [prevD,hy]
   have hpos : (0 : Int) < (j : Int) + 1:=by omega
   have hil2 : (j : Int) + 1 < (bs.length : Int):=by omega
   have hnn : (0 : Int)<=(j : Int) + 1:=by omega
   rw [hpj]
   simp at hK hw
   cases q1 : ltrI (byI x) <;> by_cases q2 : byI x=45
   ·have h45 : ltrI 45=false:=by decide
    simp only [dashB,q2,decide_true] at hK
    by_cases q3 : byI y=45
    ·simp [c243L0,hbs,hx?,hx,hsz,hi,hby,hil2,hnn,Bool.or_assoc,dashB,q2,hw,hwj,hy,q3,hpos]
     try simp [ltr_fold,h45,q3]
    ·simp [c243L0,hbs,hx?,hx,hsz,hi,hby,hil2,hnn,Bool.or_assoc,dashB,q2,hw,hwj,hy,q3,hpos]
     try simp [ltr_fold,h45,hw,hK,q3]
   ·simp [c243L0,hbs,hx?,hx,hsz,hi,hby,hil2,hnn,Bool.or_assoc,ltr_fold,q1,dashB,q2]
   ·rw [q2] at q1; exact absurd q1 (by decide)
   ·simp only [dashB,q2,decide_false] at hK
    simp [c243L0,hbs,hx?,hx,hsz,hi,hby,hil2,hnn,Bool.or_assoc,ltr_fold,q1,dashB,q2,hw,hK]
 ·intro K
  simp [c243L0,rl,hsz]
theorem rname_ok (s : ByteArray) (hs : s.size<=1048576) (ws : Nat) (h : Avm.H) : Qb cfg ws 243 [.str s] h=some (.bool (rnB s.data.toList),h):=by
 obtain ⟨bs,hbs⟩ : ∃ bs,s.data.toList=bs:=⟨_,rfl⟩
 have hsz : s.size=bs.length:=by rw [← hbs,Array.length_toList]; rfl
 have hl:=rname_loop s bs hbs (by omega) h
 have hE : s.toList=bs:=by rw [ByteArray.toList_eq,hbs]
 have hE0 : (⟨#[]⟩ : ByteArray).toList=[]:=by rw [ByteArray.toList_eq]
 refine Qc rfl rfl ?_
 rw [hbs]
 cases bs with
 | nil=>simp [F243,c243,hE,hE0,rnB]
 | cons c r=>
  have hw : IntKind.wrap .i64 ((s.size : Int) - 1)=r.length:=by rw [hsz]; simp; exact Qd (by simp at hsz; omega)
  have hlast : (c :: r)[r.length]? = (c :: r).getLast?:=by rw [List.getLast?_eq_getElem?]; simp
  obtain ⟨z,hz⟩ : ∃ z,(c :: r).getLast? = some z:=⟨_,List.getLast?_cons⟩
  have hlz : lastB (c :: r)=byI z:=by simp [lastB,hz]
  have e30 : ((30 : Int) < s.size) = ¬ ((c :: r).length<=30):=by apply propext; rw [hsz]; omega
  rw [hz] at hlast
  simp only [rnB,hlz]
  have hby : ∀ b : UInt8,((b.toNat : Nat) : Int)=byI b:=fun _=>rfl
  by_cases q1 : (c :: r).length<=30
  ·by_cases q4 : byI z=45
   ·simp [F243,c243,hE,hE0,hbs,hw,hlast,e30,hby,-List.length_cons,q1,q4]
   ·cases q6 : rl false (c :: r) <;> simp only [q6] at hl <;> simp at hl <;> simp [F243,c243,hE,hE0,hbs,hw,hlast,e30,hby,-List.length_cons,q1,q4,hl]
  ·simp [F243,c243,hE,hE0,hbs,hw,hlast,e30,hby,-List.length_cons,q1]
theorem index_ge (sub : List UInt8) : ∀ l : List UInt8,-1<=Lib.index l sub
 | []=>by unfold Lib.index; split <;> omega
 | b :: l=>by
  have:=index_ge sub l
  unfold Lib.index
  split
  ·omega
  ·split <;> omega
theorem contains_cons (c : UInt8) (l : List UInt8) : Lib.contains (c :: l) [45,45]=((dashB c && hdD l) || Lib.contains l [45,45]):=by
 have hd : ∀ c : UInt8,(45 == c)=dashB c:=fun c=>by
  unfold dashB byI
  by_cases q : c=45
  ·subst q; rfl
  ·have : ¬ ((c.toNat : Int)=45):=fun e=>q (UInt8.toNat_inj.1 (by simp; omega))
   simp [this,Ne.symm q]
 have hge:=index_ge [45,45] l
 unfold Lib.contains
 conv=>lhs; unfold Lib.index
 have hp : ([45,45] : List UInt8).isPrefixOf (c :: l)=(dashB c && hdD l):=by
  cases l with
  | nil=>simp [List.isPrefixOf,hdD]
  | cons d r=>simp [List.isPrefixOf,hd,hdD]
 rw [hp]
 generalize (dashB c && hdD l)=pp
 cases pp with
 | true=>simp
 | false=>
  by_cases q : Lib.index l [45,45] = -1
  ·simp [q]
  ·have h1 : 0<=Lib.index l [45,45]:=by omega
   have h2 : (Lib.index l [45,45] == -1)=false:=by simpa using q
   simp [h1,h2]; omega
theorem rl_eq : ∀ (bs : List UInt8) (p : Bool),rl p bs=(bs.all okC && (!Lib.contains bs [45,45] && !(p && hdD bs)))
 | [],p=>by simp [rl,Lib.contains,Lib.index,hdD]
 | c :: r,p=>by
  rw [rl,rl_eq r,contains_cons,List.all_cons]
  have h1 : okC c=(ltrI (byI c) || dashB c):=rfl
  have h2 : dashB c=true->ltrI (byI c)=false:=fun h=>by simp only [dashB,decide_eq_true_eq] at h; rw [h]; decide
  have h3 : hdD (c :: r)=dashB c:=rfl
  rw [h1,h3]
  generalize dashB c=x at h2 ⊢
  generalize ltrI (byI c)=y at h2 ⊢
  generalize r.all okC=z
  generalize Lib.contains r [45,45]=w
  generalize hdD r=v
  revert h2
  cases x <;> cases y <;> cases z <;> cases w <;> cases v <;> cases p <;> simp
def smallB (s : ByteArray) : Bool:=nmB 97 122 s.data.toList
def Xa (s : ByteArray) : Bool:=nmB 65 90 s.data.toList
theorem nm_rn (f l : Int) (c : UInt8) (r : List UInt8) : nmB f l (c :: r)=(rnB (c :: r) && (decide (f<=byI c) && decide (byI c<=l))):=by
 simp only [nmB,rnB,rl_eq (c :: r) false,Bool.false_and,Bool.not_false,Bool.and_true]
 cases decide ((c :: r).length<=30) <;> cases decide (f<=byI c) <;> cases decide (byI c<=l) <;> cases decide (lastB (c :: r)=45) <;> cases Lib.contains (c :: r) [45,45] <;> cases (c :: r).all okC <;> rfl
theorem small_ok (s : ByteArray) (hs : s.size<=1048576) (ws : Nat) (h : Avm.H) : Qb cfg ws 153 [.str s] h=some (.bool (smallB s),h):=by
 have hn:=name_ok 97 122 s hs
 refine Qc rfl rfl ?_
 simp [F153,c153,hn,smallB]
theorem great_ok (s : ByteArray) (hs : s.size<=1048576) (ws : Nat) (h : Avm.H) : Qb cfg ws 144 [.str s] h=some (.bool (Xa s),h):=by
 have hn:=name_ok 65 90 s hs
 refine Qc rfl rfl ?_
 simp [F144,c144,hn,Xa]
theorem rsmall_ok (s : ByteArray) (hs : s.size<=1048576) (ws : Nat) (h : Avm.H) : Qb cfg ws 257 [.str s] h=some (.bool (smallB s),h):=by
 have hn:=rname_ok s hs
 refine Qc rfl rfl ?_
 unfold smallB
 cases hbs : s.data.toList with
 | nil=>simp [hbs,rnB] at hn; simp [F257,c257,hn,nmB]
 | cons c r=>
  have hc0 : (c :: r)[0]? = some c:=rfl
  have hby : ∀ b : UInt8,((b.toNat : Nat) : Int)=byI b:=fun _=>rfl
  rw [nm_rn]
  rw [hbs] at hn
  cases q : rnB (c :: r)
  ·rw [q] at hn
   simp [F257,c257,hn]
  ·rw [q] at hn
   simp [F257,c257,hn,hbs,hc0,hby]
theorem rgreat_ok (s : ByteArray) (hs : s.size<=1048576) (ws : Nat) (h : Avm.H) : Qb cfg ws 180 [.str s] h=some (.bool (Xa s),h):=by
 have hn:=rname_ok s hs
 refine Qc rfl rfl ?_
 unfold Xa
 cases hbs : s.data.toList with
 | nil=>simp [hbs,rnB] at hn; simp [F180,c180,hn,nmB]
 | cons c r=>
  have hc0 : (c :: r)[0]? = some c:=rfl
  have hby : ∀ b : UInt8,((b.toNat : Nat) : Int)=byI b:=fun _=>rfl
  rw [nm_rn]
  rw [hbs] at hn
  cases q : rnB (c :: r)
  ·rw [q] at hn
   simp [F180,c180,hn]
  ·rw [q] at hn
   simp [F180,c180,hn,hbs,hc0,hby]
end Go.Proofs.YtflbneepngjglaaGreatDoor
namespace Go.Proofs.YtflbneepngjglaaGreatDoor
open Go Go.Avm
def eqS (a b : ByteArray) : Bool:=decide (a.toList=b.toList)
theorem eqS_symm (a b : ByteArray) : eqS a b=eqS b a:=by unfold eqS; congr 1; exact propext eq_comm
theorem QY (a b : Nat) : (((a : Int)) == (b : Int))=decide (a=b):=by rw [Bool.eq_iff_iff]; simp; omega
theorem beq_zero (a : Nat) : (((a : Int)) == 0)=decide (a=0):=QY a 0
def inS (ps : List ByteArray) (s : ByteArray) : Bool:=ps.any fun p=>eqS p s
def isD (s : ByteArray) (d : Df) : Bool:=eqS d.name s
theorem find_loop (m : Md) (s : ByteArray) (hm0 : m.defs.length<=1048576) (h : Avm.H) : Qa (evC (Qb cfg) Qa cfg.pol h.length h.length c141L0) [1,2,5] [(1,.str s),(2,.ptr h.length 0 2 0 0),(5,.int .i64 (0 : Nat))] (h++[.arr 0 2 [m.enc]])=some (match (m.defs).findIdx? (isD s) with | some j=>(.ret,[(4,.int .i64 (j : Nat))],h++[.arr 0 2 [m.enc]]) | none=>(.exit 0,[(1,.str s),(2,.ptr h.length 0 2 0 0),(5,.int .i64 (m.defs).length)],h++[.arr 0 2 [m.enc]])):=by
 have hl : (m.defs).length<=1048576:=hm0
 have hlp:=Qz (f:=evC (Qb cfg) Qa cfg.pol h.length h.length c141L0) (keep:=[1,2,5]) (m.defs) (fun i=>[(1,.str s),(2,.ptr h.length 0 2 0 0),(5,.int .i64 i)]) (fun _=>h++[.arr 0 2 [m.enc]])
     (fun i r=>match (r).findIdx? (isD s) with | some j=>(.ret,[(4,.int .i64 ((i + j) : Nat))],h++[.arr 0 2 [m.enc]]) | none=>(.exit 0,[(1,.str s),(2,.ptr h.length 0 2 0 0),(5,.int .i64 (m.defs).length)],h++[.arr 0 2 [m.enc]])) ?_ ?_
 ·simp only [Nat.zero_add] at hlp
  exact hlp
 ·intro i x r hd hi hx K hK
  have hw:=Qd (n:=i + 1) (by omega)
  simp at hw
  have hm : x ∈ (m.defs):=by rw [← hx]; exact List.getElem_mem hi
  rw [List.findIdx?_cons]
  cases hv : (isD s) x
  ·simp only [isD,eqS,decide_eq_false_iff_not] at hv
   cases hq : r.findIdx? (isD s) <;> simp [hq,Md.enc] at hK <;> simp [c141L0,hi,hx,Md.enc,hv,hw,hK] <;> omega
  ·simp only [isD,eqS,decide_eq_true_eq] at hv
   simp [c141L0,hi,hx,Md.enc,hv]
 ·intro K
  simp [c141L0,Md.enc]
theorem find_ok (m : Md) (s : ByteArray) (hm0 : m.defs.length<=1048576) (ws : Nat) (h : Avm.H) : Qb cfg ws 141 [m.enc,.str s] h=some (.int .i64 (idxOf (isD s) m.defs),h):=by
 have hl:=find_loop m s hm0 h
 refine Qc rfl rfl ?_
 unfold idxOf
 cases hq : m.defs.findIdx? (isD s) <;> simp [hq,Md.enc] at hl <;> simp [Md.enc,F141,c141,hl]
theorem def_loop (m : Md) (s : ByteArray) (hm0 : m.defs.length<=1048576) (h : Avm.H) : Qa (evC (Qb cfg) Qa cfg.pol h.length h.length c94L0) [1,2,8,9] [(1,.str s),(2,.ptr h.length 0 2 0 0),(8,.int .i64 m.defs.length),(9,.int .i64 (0 : Nat))] (h++[.arr 0 2 [m.enc]]) =
    some (match m.defs.find? (isD s) with | some d=>(.ret,[(4,.iptr d.cells)],h++[.arr 0 2 [m.enc]]) | none=>(.exit 0,[(1,.str s),(2,.ptr h.length 0 2 0 0),(8,.int .i64 m.defs.length),(9,.int .i64 m.defs.length)],h++[.arr 0 2 [m.enc]])):=by
 refine Qz (f:=evC (Qb cfg) Qa cfg.pol h.length h.length c94L0) (keep:=[1,2,8,9]) m.defs (fun i=>[(1,.str s),(2,.ptr h.length 0 2 0 0),(8,.int .i64 m.defs.length),(9,.int .i64 i)]) (fun _=>h++[.arr 0 2 [m.enc]])
  (fun _ r=>match r.find? (isD s) with | some d=>(.ret,[(4,.iptr d.cells)],h++[.arr 0 2 [m.enc]]) | none=>(.exit 0,[(1,.str s),(2,.ptr h.length 0 2 0 0),(8,.int .i64 m.defs.length),(9,.int .i64 m.defs.length)],h++[.arr 0 2 [m.enc]])) ?_ ?_
 ·intro i x r hd hi hx K hK
  have hw:=Qd (n:=i + 1) (by omega)
  simp at hw
  rw [List.find?_cons]
  cases hv : isD s x
  ·simp only [isD,eqS,decide_eq_false_iff_not] at hv
   cases hq : r.find? (isD s) <;> simp [hq,Md.enc] at hK <;> simp [Md.enc,c94L0,hi,hx,hv,hw,hK]
  ·simp only [isD,eqS,decide_eq_true_eq] at hv
   simp [Md.enc,c94L0,hi,hx,hv,Df.cells]
 ·intro K
  simp [Md.enc,c94L0]
def dptr (d : Option Df) : AV:=match d with | some d=>.iptr d.cells | none=>.nilp
theorem def_ok (m : Md) (s : ByteArray) (hm0 : m.defs.length<=1048576) (ws : Nat) (h : Avm.H) : Qb cfg ws 94 [m.enc,.str s] h=some (dptr (m.defs.find? (isD s)),h):=by
 have hl:=def_loop m s hm0 h
 refine Qc rfl rfl ?_
 cases hq : m.defs.find? (isD s) <;> simp [hq,Md.enc,Df.cells] at hl <;> simp [Md.enc,F94,c94,hl,dptr,Df.cells]
theorem has_loop (ps : List ByteArray) (s : ByteArray) (hp : ps.length<=1048576) (h : Avm.H) : Qa (evC (Qb cfg) Qa cfg.pol h.length h.length c181L0) [0,1,5] [(0,.isl (ps.map .str)),(1,.str s),(5,.int .i64 (0 : Nat))] h =
    some (if inS ps s=true then (.ret,[(4,.bool true)],h) else (.exit 0,[(0,.isl (ps.map .str)),(1,.str s),(5,.int .i64 ps.length)],h)):=by
 refine Qz (f:=evC (Qb cfg) Qa cfg.pol h.length h.length c181L0) (keep:=[0,1,5]) ps (fun i=>[(0,.isl (ps.map .str)),(1,.str s),(5,.int .i64 i)]) (fun _=>h)
  (fun _ r=>if inS r s=true then (.ret,[(4,.bool true)],h) else (.exit 0,[(0,.isl (ps.map .str)),(1,.str s),(5,.int .i64 ps.length)],h)) ?_ ?_
 ·intro i x r hd hi hx K hK
  have hw:=Qd (n:=i + 1) (by omega)
  simp at hw
  unfold inS at hK ⊢
  rw [List.any_cons]
  cases hv : eqS x s
  ·simp only [eqS,decide_eq_false_iff_not] at hv
   simp only [Bool.false_or]
   rw [← hK]
   simp [c181L0,hi,hx,hv,hw]
  ·simp only [eqS,decide_eq_true_eq] at hv
   simp [c181L0,hi,hx,hv]
 ·intro K
  simp [c181L0,inS]
theorem has_ok (ps : List ByteArray) (s : ByteArray) (hp : ps.length<=1048576) (ws : Nat) (h : Avm.H) : Qb cfg ws 181 [.isl (ps.map .str),.str s] h=some (.bool (inS ps s),h):=by
 have hl:=has_loop ps s hp h
 refine Qc rfl rfl ?_
 cases hq : inS ps s <;> simp [hq] at hl <;> simp [F181,c181,hl]
theorem indexS_loop (ps : List ByteArray) (s : ByteArray) (hp : ps.length<=1048576) (h : Avm.H) : Qa (evC (Qb cfg) Qa cfg.pol h.length h.length c175L0) [0,1,7,8] [(0,.isl (ps.map .str)),(1,.str s),(7,.int .i64 ps.length),(8,.int .i64 (0 : Nat))] (h)=some (match (ps).findIdx? (eqS s) with | some j=>(.ret,[(4,.int .i64 (j : Nat))],h) | none=>(.exit 0,[(0,.isl (ps.map .str)),(1,.str s),(7,.int .i64 ps.length),(8,.int .i64 (ps).length)],h)):=by
 have hl : (ps).length<=1048576:=hp
 have hlp:=Qz (f:=evC (Qb cfg) Qa cfg.pol h.length h.length c175L0) (keep:=[0,1,7,8]) (ps) (fun i=>[(0,.isl (ps.map .str)),(1,.str s),(7,.int .i64 ps.length),(8,.int .i64 i)]) (fun _=>h)
     (fun i r=>match (r).findIdx? (eqS s) with | some j=>(.ret,[(4,.int .i64 ((i + j) : Nat))],h) | none=>(.exit 0,[(0,.isl (ps.map .str)),(1,.str s),(7,.int .i64 ps.length),(8,.int .i64 (ps).length)],h)) ?_ ?_
 ·simp only [Nat.zero_add] at hlp
  exact hlp
 ·intro i x r hd hi hx K hK
  have hw:=Qd (n:=i + 1) (by omega)
  simp at hw
  have hm : x ∈ (ps):=by rw [← hx]; exact List.getElem_mem hi
  rw [List.findIdx?_cons]
  cases hv : (eqS s) x
  ·simp only [eqS,decide_eq_false_iff_not] at hv
   cases hq : r.findIdx? (eqS s) <;> simp [hq] at hK <;> simp [c175L0,hi,hx,hv,hw,hK] <;> omega
  ·simp only [eqS,decide_eq_true_eq] at hv
   simp [c175L0,hi,hx,hv]
 ·intro K
  simp [c175L0,]
theorem indexS_ok (ps : List ByteArray) (s : ByteArray) (hp : ps.length<=1048576) (ws : Nat) (h : Avm.H) : Qb cfg ws 175 [.isl (ps.map .str),.str s] h=some (.int .i64 (idxOf (eqS s) ps),h):=by
 have hl:=indexS_loop ps s hp h
 refine Qc rfl rfl ?_
 unfold idxOf
 cases hq : ps.findIdx? (eqS s) <;> simp [hq] at hl <;> simp [F175,c175,hl]
theorem containsS_ok (ps : List ByteArray) (s : ByteArray) (hp : ps.length<=1048576) (ws : Nat) (h : Avm.H) : Qb cfg ws 154 [.isl (ps.map .str),.str s] h=some (.bool (inS ps s),h):=by
 have h1:=fun ws h=>indexS_ok ps s hp ws h
 refine Qc rfl rfl ?_
 have : inS ps s=ps.any (eqS s):=by unfold inS; congr 1; funext p; exact eqS_symm p s
 rw [this]
 simp [F154,c154,h1,idxOf_any]
def Ty.withItems (t : Ty) : Bool:=decide (t.kind=3) || (decide (t.kind=8) || decide (t.kind=9))
def Ty.Qg (t : Ty) : List It:=if t.withItems then t.items else []
theorem itemsOf_ok (t : Ty) (ws : Nat) (h : Avm.H) : Qb cfg ws 152 [t.enc] h=some (.isl (t.Qg.map It.enc),h):=by
 refine Qc rfl rfl ?_
 by_cases q1 : t.kind=3
 ·simp [F152,c152,Ty.Qg,Ty.withItems,q1]
 ·by_cases q2 : t.kind=8
  ·simp [F152,c152,Ty.Qg,Ty.withItems,q2]
  ·by_cases q3 : t.kind=9
   ·simp [F152,c152,Ty.Qg,Ty.withItems,q3]
   ·simp [F152,c152,Ty.Qg,Ty.withItems,q1,q2,q3]
theorem itemsOf_mem {t : Ty} {x : It} (h : x ∈ t.Qg) : x ∈ t.items:=by
 unfold Ty.Qg at h
 split at h
 ·exact h
 ·cases h
theorem itemsOf_len (t : Ty) : t.Qg.length<=t.items.length:=by unfold Ty.Qg; split <;> simp
structure Md.ok (m : Md) : Prop where
 name : m.name.size<=1048576
 len : m.defs.length<=1048576
 params : ∀ d ∈ m.defs,d.params.length<=1048576
 pnames : ∀ d ∈ m.defs,∀ p ∈ d.params,p.size<=1048576
 dname : ∀ d ∈ m.defs,d.name.size<=1048576
 of : ∀ d ∈ m.defs,d.of.size<=1048576
def smallI (i : It) : Bool:=smallB i.name
def refP (m : Md) (ps : List ByteArray) (x : Ty) : Bool:=if inS ps x.name then decide (x.kids.length=0) else match m.defs.find? (isD x.name) with | some d=>decide (d.params.length=x.kids.length) | none=>false
def nameP (m : Md) (ps : List ByteArray) (x : Ty) : Bool:=x.Qg.all smallI && (!decide (x.kind=10) || (Xa x.name && refP m ps x))
def knownP (m : Md) (ps : List ByteArray) (x : Ty) : Bool:=x.Qg.all smallI && (!decide (x.kind=10) || (if inS ps x.name then decide (x.kids.length=0) else Xa x.name && refP m ps x))
theorem names_loop (t : Ty) (ht : t.wid<=1048576) (h : Avm.H) (c0 : AV) : ∃ g,Qa (evC (Qb cfg) Qa cfg.pol h.length h.length c151L0) [1,2,8,9,10] [(1,c0),(2,.ptr h.length 0 8 0 0),(8,.isl (t.Qg.map It.enc)),(9,.int .i64 t.Qg.length),(10,.int .i64 (0 : Nat))] (h++([.arr 0 8 [t.enc]]++[]))=some (if (t.Qg).all smallI=true then (.exit 0,[(1,c0),(2,.ptr h.length 0 8 0 0),(8,.isl (t.Qg.map It.enc)),(9,.int .i64 t.Qg.length),(10,.int .i64 (t.Qg).length)],h++([.arr 0 8 [t.enc]]++g)) else (.ret,[(3,.bool false)],h++([.arr 0 8 [t.enc]]++g))):=by
 have hl : (t.Qg).length<=1048576:=(by have:=itemsOf_len t; have:=t.Qe; omega)
 have hlp:=Qi (γ:=Avm.H) (f:=evC (Qb cfg) Qa cfg.pol h.length h.length c151L0) (keep:=[1,2,8,9,10]) (t.Qg) (fun _ _=>True)
     (fun i _=>[(1,c0),(2,.ptr h.length 0 8 0 0),(8,.isl (t.Qg.map It.enc)),(9,.int .i64 t.Qg.length),(10,.int .i64 i)]) (fun _ g=>h++([.arr 0 8 [t.enc]]++g))
     (fun _ r o=>∃ g,o=if r.all smallI=true then (.exit 0,[(1,c0),(2,.ptr h.length 0 8 0 0),(8,.isl (t.Qg.map It.enc)),(9,.int .i64 t.Qg.length),(10,.int .i64 (t.Qg).length)],h++([.arr 0 8 [t.enc]]++g)) else (.ret,[(3,.bool false)],h++([.arr 0 8 [t.enc]]++g))) ?_ ?_ [] trivial
 ·obtain ⟨o,h1,g,h2⟩:=hlp
  exact ⟨g,h2 ▸ h1⟩
 ·intro i x r g hd hi hx _ K hK
  have hw:=Qd (n:=i + 1) (by omega)
  simp at hw
  have hm : x ∈ (t.Qg):=by rw [← hx]; exact List.getElem_mem hi
  have hsm:=small_ok x.name (by have:=Ty.wid_item (itemsOf_mem hm); have:=x.wid_name; omega)
  cases hv : smallI x
  ·refine ⟨_,?_,(g++[.arr 0 12 [x.enc]]),by simp only [List.all_cons,hv,Bool.false_and,Bool.false_eq_true,if_false]; rfl⟩
   unfold smallI at hv
   simp only [hv] at hsm
   simp [c151L0,hi,hx,hsm,]
  ·obtain ⟨o,h4,g2,h5⟩:=hK (g++[.arr 0 12 [x.enc]]) trivial
   refine ⟨o,?_,g2,by simp only [List.all_cons,hv,Bool.true_and]; exact h5⟩
   simp at h4
   unfold smallI at hv
   simp only [hv] at hsm
   simp [c151L0,hi,hx,hsm,hw,h4]
 ·intro g K _
  refine ⟨_,?_,g,by simp only [List.all_nil,if_true]; rfl⟩
  simp [c151L0]
theorem namesf_ok (m : Md) (ps : List ByteArray) (hm : m.ok) (hp : ps.length<=1048576) (t : Ty) (ht : t.wid<=1048576) (ws : Nat) (h : Avm.H) : Qb cfg ws 151 [t.enc,.iptr [.str m.name,.isl (m.defs.map Df.enc),.isl (ps.map .str)]] h=some (.bool (nameP m ps t),h):=by
 have h1:=itemsOf_ok t
 have h2:=great_ok t.name (Nat.le_trans t.wid_name ht)
 have h3:=containsS_ok ps t.name hp
 have h4:=def_ok m t.name hm.len
 obtain ⟨g,hl⟩:=names_loop t ht h (.iptr [.str m.name,.isl (m.defs.map Df.enc),.isl (ps.map .str)])
 refine Qc rfl rfl ?_
 unfold nameP refP
 simp at h1
 simp [Md.enc] at h4
 cases q1 : t.Qg.all smallI
 ·rw [q1] at hl
  simp at hl
  simp [F151,c151,h1,hl]
 ·rw [q1] at hl
  by_cases q2 : t.kind=10
  ·simp [q2] at hl h1
   cases q3 : Xa t.name
   ·rw [q3] at h2
    simp [F151,c151,h1,hl,q2,h2]
   ·rw [q3] at h2
    cases q4 : inS ps t.name
    ·rw [q4] at h3
     cases q5 : m.defs.find? (isD t.name) with
     | none=>
      rw [q5] at h4
      simp [dptr] at h4
      simp [F151,c151,h1,hl,q2,h2,h3,h4]
     | some d=>
      rw [q5] at h4
      simp [dptr,Df.cells] at h4
      simp [F151,c151,h1,hl,q2,h2,h3,h4,QY]
    ·rw [q4] at h3
     have e0 : (((t.kids.length : Nat) : Int) == 0)=decide (t.kids=[]):=by rw [beq_zero]; simp
     simp [F151,c151,h1,hl,q2,h2,h3,e0]
  ·simp at hl
   simp [F151,c151,h1,hl,q2]
theorem names_ok (m : Md) (ps : List ByteArray) (hm : m.ok) (hp : ps.length<=1048576) (t : Ty) (hw0 : t.wid<=1048576) (hb : t.nodes<=1048576) (ws : Nat) (h : Avm.H) : Qb cfg ws 80 [.agg [.str m.name,.isl (m.defs.map Df.enc),.isl (ps.map .str)],t.enc] h=some (.bool (t.QE (nameP m ps)),h):=by
 have h2:=fun ws h cap hcap=>within_ok (cap':=[.iptr [.str m.name,.isl (m.defs.map Df.enc),.isl (ps.map .str)]]) (k:=0) (.inl rfl) (by simp) _ t (Nat.le_refl _) hw0 hb (fun x _ hx _ ws h'=>by simpa using namesf_ok m ps hm hp x (Nat.le_trans hx hw0) ws h') ws h cap hcap
 refine Qc rfl rfl ?_
 simp at h2
 simp [F80,c80,h2]
end Go.Proofs.YtflbneepngjglaaGreatDoor
