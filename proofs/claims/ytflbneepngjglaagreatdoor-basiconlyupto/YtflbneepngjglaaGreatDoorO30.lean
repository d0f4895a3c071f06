/- What reads as values, types and modules, as the machine's; a world for the witness. -/
import Derived.Test.YtflbneepngjglaaGreatDoorO29
import Derived.Test.YtflbneepngjglaaGreatDoorRows
import Derived.Test.YtflbneepngjglaaGreatDoorO27
import Derived.WalkKit
import Derived.ProofKit
import Derived.OpenShut
import Derived.Deep.DeepHandedRow
import Derived.Lib.LaidTab
set_option linter.all false
namespace Go.Proofs.YtflbneepngjglaaGreatDoor
open Go Go.Avm
def Zl (c:UInt8):Bool:=decide (byI c=45)
def hdD :List UInt8->Bool
 | []=>false
 | d::_=>Zl d
def rl :Bool->List UInt8->Bool
 | _,[]=>true
 | p,c::r=>(QeS (byI c)||(Zl c&& !p))&&rl (Zl c) r
def QjL (bs:List UInt8):Nat->Bool
 | 0=>false
 | j+1=>match bs[j]? with | some c=>Zl c | none=>false
def rnB (bs:List UInt8):Bool:=match bs with
 | []=>false
 | c::r=>decide ((c::r).length<=30)&&(!decide (QhO (c::r)=45)&&rl false (c::r))
theorem Yk (n:Int):(decide (97<=n)&& !decide (122<n)||(decide (65<=n)&& !decide (90<n)||decide (48<=n)&&decide (n<=57)))=QeS n:=by
 have a1: ∀a:Int,(!decide (a<n))=decide (n<=a):=fun a=>by by_cases q:n<=a<;>simp[q]<;>omega
 rw[a1,a1]; rfl
theorem Qpe (s:ByteArray)(bs:List UInt8)(hbs:s.data.toList=bs)(hb:bs.length<=67108864)(h:Avm.H):Qa (evC (Qb cfg) Qa cfg.pol h.length h.length Wg) [0,3] [(0,.str s),(3,.int .i64 (0:Nat))] h=
    some (if rl false bs=true then(.exit 0,[(0,.str s),(3,.int .i64 bs.length)],h)else(.ret,[(2,.bool false)],h)):=by
 have hsz:s.size=bs.length:=by rw[←hbs,Array.length_toList]; rfl
 have hby: ∀b:UInt8,((b.toNat:Nat):Int)=byI b:=fun _=>rfl
 have hl:=QE (f:=evC (Qb cfg) Qa cfg.pol h.length h.length Wg) (keep:=[0,3]) bs (fun i=>[(0,.str s),(3,.int .i64 i)]) (fun _=>h)
  (fun i r=>if rl (QjL bs i) r=true then(.exit 0,[(0,.str s),(3,.int .i64 bs.length)],h)else(.ret,[(2,.bool false)],h)) ?_ ?_
 ·exact hl
 ·intro i x r hd hi hx K hK;have hw:=Qd (n:=i+1) (by omega)
  simp at hw;have hpn:QjL bs (i+1)=Zl x:=by simp[QjL,hi,hx]
  rw[hpn]at hK;have hil:(i:Int)<s.size:=by omega
  rw[rl];have hx? :bs[i]? =some x:=by rw[List.getElem?_eq_getElem hi,hx]
  cases i with
  | zero=>
   have hil2:(0:Int)<(bs.length:Int):=by omega
   simp only[QjL,Bool.not_false,Bool.and_true];simp at hK hw;cases q1:QeS (byI x)<;>by_cases q2:byI x=45
   ·simp only[Zl,q2,decide_true]at hK;simp[Wg,hbs,hx?,hx,hsz,hi,hby,hil2,Bool.or_assoc,Yk,q1,Zl,q2,hw];have h45:QeS 45=false:=by decide
    try simp[Yk,h45,hw,hK]
   ·simp[Wg,hbs,hx?,hx,hsz,hi,hby,hil2,Bool.or_assoc,Yk,q1,Zl,q2]
   ·rw[q2]at q1; exact absurd q1 (by decide)
   ·simp only[Zl,q2,decide_false]at hK;simp[Wg,hbs,hx?,hx,hsz,hi,hby,hil2,Bool.or_assoc,Yk,q1,Zl,q2,hw,hK]
  | succ j=>
   obtain⟨y,hy⟩: ∃y,bs[j]? =some y:=⟨bs[j],List.getElem?_eq_getElem (by omega)⟩
   have hwj:IntKind.wrap .i64 (j:Int)=j:=Qd (by omega)
   have hpj:QjL bs (j+1)=Zl y:=by simp[QjL,hy]
   have hpos:(0:Int)<(j:Int)+1:=by omega
   have hil2:(j:Int)+1<(bs.length:Int):=by omega
   have hnn:(0:Int)<=(j:Int)+1:=by omega
   rw[hpj];simp at hK hw;cases q1:QeS (byI x)<;>by_cases q2:byI x=45
   ·have h45:QeS 45=false:=by decide
    simp only[Zl,q2,decide_true]at hK;by_cases q3:byI y=45
    ·simp[Wg,hbs,hx?,hx,hsz,hi,hby,hil2,hnn,Bool.or_assoc,Zl,q2,hw,hwj,hy,q3,hpos];try simp[Yk,h45,q3]
    ·simp[Wg,hbs,hx?,hx,hsz,hi,hby,hil2,hnn,Bool.or_assoc,Zl,q2,hw,hwj,hy,q3,hpos];try simp[Yk,h45,hw,hK,q3]
   ·simp[Wg,hbs,hx?,hx,hsz,hi,hby,hil2,hnn,Bool.or_assoc,Yk,q1,Zl,q2]
   ·rw[q2]at q1; exact absurd q1 (by decide)
   ·simp only[Zl,q2,decide_false]at hK;simp[Wg,hbs,hx?,hx,hsz,hi,hby,hil2,hnn,Bool.or_assoc,Yk,q1,Zl,q2,hw,hK]
 ·intro K;simp[Wg,rl,hsz]
theorem QmT (s:ByteArray)(hs:s.size<=67108864)(ws:Nat)(h:Avm.H):Qb cfg ws 243 [.str s] h=some (.bool (rnB s.data.toList),h):=by
 obtain⟨bs,hbs⟩: ∃bs,s.data.toList=bs:=⟨_,rfl⟩;have hsz:s.size=bs.length:=by rw[←hbs,Array.length_toList]; rfl
 have hl:=Qpe s bs hbs (by omega) h
 have hE:s.toList=bs:=by rw[ByteArray.toList_eq,hbs]
 have hE0:(⟨#[]⟩:ByteArray).toList=[]:=by rw[ByteArray.toList_eq]
 refine Qc rfl rfl ?_
 rw[hbs];cases bs with
 | nil=>simp[Qwn,QvW,hE,hE0,rnB]
 | cons c r=>
  have hw:IntKind.wrap .i64 ((s.size:Int)-1)=r.length:=by rw[hsz]; simp; exact Qd (by simp at hsz; omega)
  have hlast:(c::r)[r.length]? =(c::r).getLast?:=by rw[List.getLast?_eq_getElem?]; simp
  obtain⟨z,hz⟩: ∃z,(c::r).getLast? =some z:=⟨_,List.getLast?_cons⟩
  have hlz:QhO (c::r)=byI z:=by simp[QhO,hz]
  have e30:((30:Int)<s.size)= ¬((c::r).length<=30):=by apply propext; rw[hsz]; omega
  rw[hz]at hlast;simp only[rnB,hlz];have hby: ∀b:UInt8,((b.toNat:Nat):Int)=byI b:=fun _=>rfl
  by_cases q1:(c::r).length<=30
  ·by_cases q4:byI z=45
   ·simp[Qwn,QvW,hE,hE0,hbs,hw,hlast,e30,hby,-List.length_cons,q1,q4]
   ·cases q6:rl false (c::r)<;>simp only[q6]at hl<;>simp at hl<;>simp[Qwn,QvW,hE,hE0,hbs,hw,hlast,e30,hby,-List.length_cons,q1,q4,hl]
  ·simp[Qwn,QvW,hE,hE0,hbs,hw,hlast,e30,hby,-List.length_cons,q1]
theorem index_ge (sub:List UInt8): ∀l:List UInt8,-1<=Lib.index l sub
 | []=>by unfold Lib.index; split<;>omega
 | b::l=>by
  have:=index_ge sub l;unfold Lib.index;split
  ·omega
  ·split<;>omega
theorem contains_cons (c:UInt8)(l:List UInt8):Lib.contains (c::l) [45,45]=((Zl c&&hdD l)||Lib.contains l [45,45]):=by
 have hd: ∀c:UInt8,(45 == c)=Zl c:=fun c=>by
  unfold Zl byI;by_cases q:c=45
  ·subst q; rfl
  ·have: ¬((c.toNat:Int)=45):=fun e=>q (UInt8.toNat_inj.1 (by simp; omega))
   simp[this,Ne.symm q]
 have hge:=index_ge [45,45] l;unfold Lib.contains
 conv=>lhs; unfold Lib.index
 have hp:([45,45]:List UInt8).isPrefixOf (c::l)=(Zl c&&hdD l):=by
  cases l with
  | nil=>simp[List.isPrefixOf,hdD]
  | cons d r=>simp[List.isPrefixOf,hd,hdD]
 rw[hp];generalize (Zl c&&hdD l)=pp;cases pp with
 | true=>simp
 | false=>
  by_cases q:Lib.index l [45,45]= -1
  ·simp[q]
  ·have h1:0<=Lib.index l [45,45]:=by omega
   have h2:(Lib.index l [45,45] == -1)=false:=by simpa using q
   simp[h1,h2]; omega
theorem Qye : ∀(bs:List UInt8) (p:Bool),rl p bs=(bs.all okC&&(!Lib.contains bs [45,45]&& !(p&&hdD bs)))
 | [],p=>by simp[rl,Lib.contains,Lib.index,hdD]
 | c::r,p=>by
  rw[rl,Qye r,contains_cons,List.all_cons];have h1:okC c=(QeS (byI c)||Zl c):=rfl
  have h2:Zl c=true->QeS (byI c)=false:=fun h=>by simp only[Zl,decide_eq_true_eq]at h; rw[h]; decide
  have h3:hdD (c::r)=Zl c:=rfl;rw[h1,h3];generalize Zl c=x at h2 ⊢;generalize QeS (byI c)=y at h2 ⊢;generalize r.all okC=z;generalize Lib.contains r [45,45]=w;generalize hdD r=v
  revert h2
  cases x<;>cases y<;>cases z<;>cases w<;>cases v<;>cases p<;>simp
def Qhe (s:ByteArray):Bool:=nmB 97 122 s.data.toList
def Xe (s:ByteArray):Bool:=nmB 65 90 s.data.toList
theorem Qyi (f l:Int)(c:UInt8)(r:List UInt8):nmB f l (c::r)=(rnB (c::r)&&(decide (f<=byI c)&&decide (byI c<=l))):=by
 simp only[nmB,rnB,Qye (c::r) false,Bool.false_and,Bool.not_false,Bool.and_true];cases decide ((c::r).length<=30)<;>cases decide (f<=byI c)<;>cases decide (byI c<=l)<;>cases decide (QhO (c::r)=45)<;>cases Lib.contains (c::r) [45,45]<;>cases(c::r).all okC<;>rfl
theorem QtM (s:ByteArray)(hs:s.size<=67108864)(ws:Nat)(h:Avm.H):Qb cfg ws 153 [.str s] h=some (.bool (Qhe s),h):=by
 have hn:=QqQ 97 122 s hs;refine Qc rfl rfl ?_
 simp[QDv,QCD,hn,Qhe]
theorem Qef (s:ByteArray)(hs:s.size<=67108864)(ws:Nat)(h:Avm.H):Qb cfg ws 144 [.str s] h=some (.bool (Xe s),h):=by
 have hn:=QqQ 65 90 s hs;refine Qc rfl rfl ?_
 simp[QDz,QCH,hn,Xe]
theorem QrQ (s:ByteArray)(hs:s.size<=67108864)(ws:Nat)(h:Avm.H):Qb cfg ws 257 [.str s] h=some (.bool (Qhe s),h):=by
 have hn:=QmT s hs;refine Qc rfl rfl ?_
 unfold Qhe;cases hbs:s.data.toList with
 | nil=>simp[hbs,rnB]at hn; simp[QxY,QxJ,hn,nmB]
 | cons c r=>
  have hc0:(c::r)[0]? =some c:=rfl;have hby: ∀b:UInt8,((b.toNat:Nat):Int)=byI b:=fun _=>rfl
  rw[Qyi];rw[hbs]at hn;cases q:rnB (c::r)
  ·rw[q]at hn;simp[QxY,QxJ,hn]
  ·rw[q]at hn;simp[QxY,QxJ,hn,hbs,hc0,hby]
theorem Qcd (s:ByteArray)(hs:s.size<=67108864)(ws:Nat)(h:Avm.H):Qb cfg ws 180 [.str s] h=some (.bool (Xe s),h):=by
 have hn:=QmT s hs;refine Qc rfl rfl ?_
 unfold Xe;cases hbs:s.data.toList with
 | nil=>simp[hbs,rnB]at hn; simp[QxZ,QxK,hn,nmB]
 | cons c r=>
  have hc0:(c::r)[0]? =some c:=rfl;have hby: ∀b:UInt8,((b.toNat:Nat):Int)=byI b:=fun _=>rfl
  rw[Qyi];rw[hbs]at hn;cases q:rnB (c::r)
  ·rw[q]at hn;simp[QxZ,QxK,hn]
  ·rw[q]at hn;simp[QxZ,QxK,hn,hbs,hc0,hby]
end Go.Proofs.YtflbneepngjglaaGreatDoor
namespace Go.Proofs.YtflbneepngjglaaGreatDoor
open Go Go.Avm
def eqS (a b:ByteArray):Bool:=decide (a.toList=b.toList)
theorem QhX (a b:ByteArray):eqS a b=eqS b a:=by unfold eqS; congr 1; exact propext eq_comm
theorem Xb (a b:Nat):(((a:Int)) == (b:Int))=decide (a=b):=by rw[Bool.eq_iff_iff]; simp; omega
theorem QiE (a:Nat):(((a:Int)) == 0)=decide (a=0):=Xb a 0
def inS (ps:List ByteArray)(s:ByteArray):Bool:=ps.any fun p=>eqS p s
def isD (s:ByteArray)(d:Df):Bool:=eqS d.name s
theorem QsQ (m:Md)(s:ByteArray)(hm0:m.defs.length<=67108864)(h:Avm.H):Qa (evC (Qb cfg) Qa cfg.pol h.length h.length Qft) [1,2,5] [(1,.str s),(2,.ptr h.length 0 2 0 0),(5,.int .i64 (0:Nat))] (h++ [.arr 0 2 [m.enc]])=some (match (m.defs).findIdx? (isD s)with | some j=>(.ret,[(4,.int .i64 (j:Nat))],h++ [.arr 0 2 [m.enc]]) | none=>(.exit 0,[(1,.str s),(2,.ptr h.length 0 2 0 0),(5,.int .i64 (m.defs).length)],h++ [.arr 0 2 [m.enc]])):=by
 have hl:(m.defs).length<=67108864:=hm0
 have hlp:=QE (f:=evC (Qb cfg) Qa cfg.pol h.length h.length Qft) (keep:=[1,2,5]) (m.defs) (fun i=>[(1,.str s),(2,.ptr h.length 0 2 0 0),(5,.int .i64 i)]) (fun _=>h++ [.arr 0 2 [m.enc]])
      (fun i r=>match (r).findIdx? (isD s)with | some j=>(.ret,[(4,.int .i64 ((i+j):Nat))],h++ [.arr 0 2 [m.enc]]) | none=>(.exit 0,[(1,.str s),(2,.ptr h.length 0 2 0 0),(5,.int .i64 (m.defs).length)],h++ [.arr 0 2 [m.enc]])) ?_ ?_
 ·simp only[Nat.zero_add]at hlp;exact hlp
 ·intro i x r hd hi hx K hK;have hw:=Qd (n:=i+1) (by omega)
  simp at hw;have hm:x∈(m.defs):=by rw[←hx]; exact List.getElem_mem hi
  rw[List.findIdx?_cons]
  cases hv:(isD s) x
  ·simp only[isD,eqS,decide_eq_false_iff_not]at hv;cases hq:r.findIdx? (isD s)<;>simp[hq,Md.enc]at hK<;>simp[Qft,hi,hx,Md.enc,hv,hw,hK]<;>omega
  ·simp only[isD,eqS,decide_eq_true_eq]at hv;simp[Qft,hi,hx,Md.enc,hv]
 ·intro K;simp[Qft,Md.enc]
theorem QgG (m:Md)(s:ByteArray)(hm0:m.defs.length<=67108864)(ws:Nat)(h:Avm.H):Qb cfg ws 141 [m.enc,.str s] h=some (.int .i64 (idxOf (isD s) m.defs),h):=by
 have hl:=QsQ m s hm0 h;refine Qc rfl rfl ?_
 unfold idxOf;cases hq:m.defs.findIdx? (isD s)<;>simp[hq,Md.enc]at hl<;>simp[Md.enc,QDB,QCJ,hl]
theorem QvM (m:Md)(s:ByteArray)(hm0:m.defs.length<=67108864)(h:Avm.H):Qa (evC (Qb cfg) Qa cfg.pol h.length h.length Qku) [1,2,8,9] [(1,.str s),(2,.ptr h.length 0 2 0 0),(8,.int .i64 m.defs.length),(9,.int .i64 (0:Nat))] (h++ [.arr 0 2 [m.enc]])=
    some (match m.defs.find? (isD s)with | some d=>(.ret,[(4,.iptr d.cells)],h++ [.arr 0 2 [m.enc]]) | none=>(.exit 0,[(1,.str s),(2,.ptr h.length 0 2 0 0),(8,.int .i64 m.defs.length),(9,.int .i64 m.defs.length)],h++ [.arr 0 2 [m.enc]])):=by
 refine QE (f:=evC (Qb cfg) Qa cfg.pol h.length h.length Qku) (keep:=[1,2,8,9]) m.defs (fun i=>[(1,.str s),(2,.ptr h.length 0 2 0 0),(8,.int .i64 m.defs.length),(9,.int .i64 i)]) (fun _=>h++ [.arr 0 2 [m.enc]])
  (fun _ r=>match r.find? (isD s)with | some d=>(.ret,[(4,.iptr d.cells)],h++ [.arr 0 2 [m.enc]]) | none=>(.exit 0,[(1,.str s),(2,.ptr h.length 0 2 0 0),(8,.int .i64 m.defs.length),(9,.int .i64 m.defs.length)],h++ [.arr 0 2 [m.enc]])) ?_ ?_
 ·intro i x r hd hi hx K hK;have hw:=Qd (n:=i+1) (by omega)
  simp at hw;rw[List.find?_cons]
  cases hv:isD s x
  ·simp only[isD,eqS,decide_eq_false_iff_not]at hv;cases hq:r.find? (isD s)<;>simp[hq,Md.enc]at hK<;>simp[Md.enc,Qku,hi,hx,hv,hw,hK]
  ·simp only[isD,eqS,decide_eq_true_eq]at hv;simp[Md.enc,Qku,hi,hx,hv,Df.cells]
 ·intro K;simp[Md.enc,Qku]
def Qta (d:Option Df):AV:=match d with | some d=>.iptr d.cells | none=>.nilp
theorem QvL (m:Md)(s:ByteArray)(hm0:m.defs.length<=67108864)(ws:Nat)(h:Avm.H):Qb cfg ws 94 [m.enc,.str s] h=some (Qta (m.defs.find? (isD s)),h):=by
 have hl:=QvM m s hm0 h;refine Qc rfl rfl ?_
 cases hq:m.defs.find? (isD s)<;>simp[hq,Md.enc,Df.cells]at hl<;>simp[Md.enc,F94,c94,hl,Qta,Df.cells]
theorem Qvk (ps:List ByteArray)(s:ByteArray)(hp:ps.length<=67108864)(h:Avm.H):Qa (evC (Qb cfg) Qa cfg.pol h.length h.length Qfn) [0,1,5] [(0,.isl (ps.map .str)),(1,.str s),(5,.int .i64 (0:Nat))] h=
    some (if inS ps s=true then(.ret,[(4,.bool true)],h)else(.exit 0,[(0,.isl (ps.map .str)),(1,.str s),(5,.int .i64 ps.length)],h)):=by
 refine QE (f:=evC (Qb cfg) Qa cfg.pol h.length h.length Qfn) (keep:=[0,1,5]) ps (fun i=>[(0,.isl (ps.map .str)),(1,.str s),(5,.int .i64 i)]) (fun _=>h)
  (fun _ r=>if inS r s=true then(.ret,[(4,.bool true)],h)else(.exit 0,[(0,.isl (ps.map .str)),(1,.str s),(5,.int .i64 ps.length)],h)) ?_ ?_
 ·intro i x r hd hi hx K hK;have hw:=Qd (n:=i+1) (by omega)
  simp at hw;unfold inS at hK ⊢;rw[List.any_cons];cases hv:eqS x s
  ·simp only[eqS,decide_eq_false_iff_not]at hv;simp only[Bool.false_or];rw[←hK];simp[Qfn,hi,hx,hv,hw]
  ·simp only[eqS,decide_eq_true_eq]at hv;simp[Qfn,hi,hx,hv]
 ·intro K;simp[Qfn,inS]
theorem QpJ (ps:List ByteArray)(s:ByteArray)(hp:ps.length<=67108864)(ws:Nat)(h:Avm.H):Qb cfg ws 181 [.isl (ps.map .str),.str s] h=some (.bool (inS ps s),h):=by
 have hl:=Qvk ps s hp h;refine Qc rfl rfl ?_
 cases hq:inS ps s<;>simp[hq]at hl<;>simp[QDh,QCp,hl]
theorem QnG (ps:List ByteArray)(s:ByteArray)(hp:ps.length<=67108864)(h:Avm.H):Qa (evC (Qb cfg) Qa cfg.pol h.length h.length Qfo) [0,1,7,8] [(0,.isl (ps.map .str)),(1,.str s),(7,.int .i64 ps.length),(8,.int .i64 (0:Nat))] (h)=some (match (ps).findIdx? (eqS s)with | some j=>(.ret,[(4,.int .i64 (j:Nat))],h) | none=>(.exit 0,[(0,.isl (ps.map .str)),(1,.str s),(7,.int .i64 ps.length),(8,.int .i64 (ps).length)],h)):=by
 have hl:(ps).length<=67108864:=hp
 have hlp:=QE (f:=evC (Qb cfg) Qa cfg.pol h.length h.length Qfo) (keep:=[0,1,7,8]) (ps) (fun i=>[(0,.isl (ps.map .str)),(1,.str s),(7,.int .i64 ps.length),(8,.int .i64 i)]) (fun _=>h)
      (fun i r=>match (r).findIdx? (eqS s)with | some j=>(.ret,[(4,.int .i64 ((i+j):Nat))],h) | none=>(.exit 0,[(0,.isl (ps.map .str)),(1,.str s),(7,.int .i64 ps.length),(8,.int .i64 (ps).length)],h)) ?_ ?_
 ·simp only[Nat.zero_add]at hlp;exact hlp
 ·intro i x r hd hi hx K hK;have hw:=Qd (n:=i+1) (by omega)
  simp at hw;have hm:x∈(ps):=by rw[←hx]; exact List.getElem_mem hi
  rw[List.findIdx?_cons]
  cases hv:(eqS s) x
  ·simp only[eqS,decide_eq_false_iff_not]at hv;cases hq:r.findIdx? (eqS s)<;>simp[hq]at hK<;>simp[Qfo,hi,hx,hv,hw,hK]<;>omega
  ·simp only[eqS,decide_eq_true_eq]at hv;simp[Qfo,hi,hx,hv]
 ·intro K;simp[Qfo,]
theorem Qke (ps:List ByteArray)(s:ByteArray)(hp:ps.length<=67108864)(ws:Nat)(h:Avm.H):Qb cfg ws 175 [.isl (ps.map .str),.str s] h=some (.int .i64 (idxOf (eqS s) ps),h):=by
 have hl:=QnG ps s hp h;refine Qc rfl rfl ?_
 unfold idxOf;cases hq:ps.findIdx? (eqS s)<;>simp[hq]at hl<;>simp[QDl,QCt,hl]
theorem Qek (ps:List ByteArray)(s:ByteArray)(hp:ps.length<=67108864)(ws:Nat)(h:Avm.H):Qb cfg ws 154 [.isl (ps.map .str),.str s] h=some (.bool (inS ps s),h):=by
 have h1:=fun ws h=>Qke ps s hp ws h
 refine Qc rfl rfl ?_
 have:inS ps s=ps.any (eqS s):=by unfold inS; congr 1; funext p; exact QhX p s
 rw[this];simp[QDu,QCC,h1,Qkf]
def Ty.ZS(t:Ty):Bool:=decide (t.kind=3)||(decide (t.kind=8)||decide (t.kind=9))
def Ty.Qh(t:Ty):List It:=if t.ZS then t.items else []
theorem QhQ (t:Ty)(ws:Nat)(h:Avm.H):Qb cfg ws 152 [t.enc] h=some (.isl (t.Qh.map It.enc),h):=by
 refine Qc rfl rfl ?_
 by_cases q1:t.kind=3
 ·simp[Qwo,QvX,Ty.Qh,Ty.ZS,q1]
 ·by_cases q2:t.kind=8
  ·simp[Qwo,QvX,Ty.Qh,Ty.ZS,q2]
  ·by_cases q3:t.kind=9
   ·simp[Qwo,QvX,Ty.Qh,Ty.ZS,q3]
   ·simp[Qwo,QvX,Ty.Qh,Ty.ZS,q1,q2,q3]
theorem QnB {t:Ty}{x:It}(h:x∈t.Qh):x∈t.items:=by
 unfold Ty.Qh at h;split at h
 ·exact h
 ·cases h
theorem QbC (t:Ty):t.Qh.length<=t.items.length:=by unfold Ty.Qh; split<;>simp
structure Md.ok (m:Md):Prop where
 name:m.name.size<=67108864
 len:m.defs.length<=67108864
 params: ∀d∈m.defs,d.params.length<=67108864
 pnames: ∀d∈m.defs,∀p∈d.params,p.size<=67108864
 dname: ∀d∈m.defs,d.name.size<=67108864
 of: ∀d∈m.defs,d.of.size<=67108864
def JF (i:It):Bool:=Qhe i.name
def Qum (m:Md)(ps:List ByteArray)(x:Ty):Bool:=if inS ps x.name then decide (x.kids.length=0)else match m.defs.find? (isD x.name)with | some d=>decide (d.params.length=x.kids.length) | none=>false
def Qbz (m:Md)(ps:List ByteArray)(x:Ty):Bool:=x.Qh.all JF&&(!decide (x.kind=10)||(Xe x.name&&Qum m ps x))
def JI (m:Md)(ps:List ByteArray)(x:Ty):Bool:=x.Qh.all JF&&(!decide (x.kind=10)||(if inS ps x.name then decide (x.kids.length=0)else Xe x.name&&Qum m ps x))
theorem Qpz (t:Ty)(ht:t.wid<=67108864)(h:Avm.H)(c0:AV): ∃g,Qa (evC (Qb cfg) Qa cfg.pol h.length h.length Qfr) [1,2,8,9,10] [(1,c0),(2,.ptr h.length 0 8 0 0),(8,.isl (t.Qh.map It.enc)),(9,.int .i64 t.Qh.length),(10,.int .i64 (0:Nat))] (h++([.arr 0 8 [t.enc]]++ []))=some (if(t.Qh).all JF=true then(.exit 0,[(1,c0),(2,.ptr h.length 0 8 0 0),(8,.isl (t.Qh.map It.enc)),(9,.int .i64 t.Qh.length),(10,.int .i64 (t.Qh).length)],h++([.arr 0 8 [t.enc]]++g))else(.ret,[(3,.bool false)],h++([.arr 0 8 [t.enc]]++g))):=by
 have hl:(t.Qh).length<=67108864:=(by have:=QbC t; have:=t.Qe; omega)
 have hlp:=Qg (γ:=Avm.H) (f:=evC (Qb cfg) Qa cfg.pol h.length h.length Qfr) (keep:=[1,2,8,9,10]) (t.Qh) (fun _ _=>True)
      (fun i _=>[(1,c0),(2,.ptr h.length 0 8 0 0),(8,.isl (t.Qh.map It.enc)),(9,.int .i64 t.Qh.length),(10,.int .i64 i)]) (fun _ g=>h++([.arr 0 8 [t.enc]]++g))
      (fun _ r o=>∃g,o=if r.all JF=true then(.exit 0,[(1,c0),(2,.ptr h.length 0 8 0 0),(8,.isl (t.Qh.map It.enc)),(9,.int .i64 t.Qh.length),(10,.int .i64 (t.Qh).length)],h++([.arr 0 8 [t.enc]]++g))else(.ret,[(3,.bool false)],h++([.arr 0 8 [t.enc]]++g))) ?_ ?_ [] trivial
 ·obtain⟨o,h1,g,h2⟩:=hlp;exact⟨g,h2▸h1⟩
 ·intro i x r g hd hi hx _ K hK;have hw:=Qd (n:=i+1) (by omega)
  simp at hw;have hm:x∈(t.Qh):=by rw[←hx]; exact List.getElem_mem hi
  have hsm:=QtM x.name (by have:=Ty.Jf (QnB hm); have:=x.Qbl; omega)
  cases hv:JF x
  ·refine⟨_,?_,(g++ [.arr 0 12 [x.enc]]),by simp only[List.all_cons,hv,Bool.false_and,Bool.false_eq_true,if_false]; rfl⟩
   unfold JF at hv;simp only[hv]at hsm;simp[Qfr,hi,hx,hsm,]
  ·obtain⟨o,h4,g2,h5⟩:=hK (g++ [.arr 0 12 [x.enc]]) trivial;refine⟨o,?_,g2,by simp only[List.all_cons,hv,Bool.true_and]; exact h5⟩
   simp at h4;unfold JF at hv;simp only[hv]at hsm;simp[Qfr,hi,hx,hsm,hw,h4]
 ·intro g K _;refine⟨_,?_,g,by simp only[List.all_nil,if_true]; rfl⟩
  simp[Qfr]
theorem Qsq (m:Md)(ps:List ByteArray)(hm:m.ok)(hp:ps.length<=67108864)(t:Ty)(ht:t.wid<=67108864)(ws:Nat)(h:Avm.H):Qb cfg ws 151 [t.enc,.iptr [.str m.name,.isl (m.defs.map Df.enc),.isl (ps.map .str)]] h=some (.bool (Qbz m ps t),h):=by
 have h1:=QhQ t;have h2:=Qef t.name (Nat.le_trans t.Qbl ht);have h3:=Qek ps t.name hp;have h4:=QvL m t.name hm.len;obtain⟨g,hl⟩:=Qpz t ht h (.iptr [.str m.name,.isl (m.defs.map Df.enc),.isl (ps.map .str)]);refine Qc rfl rfl ?_
 unfold Qbz Qum;simp at h1;simp[Md.enc]at h4;cases q1:t.Qh.all JF
 ·rw[q1]at hl;simp at hl;simp[Qqo,Qqd,h1,hl]
 ·rw[q1]at hl;by_cases q2:t.kind=10
  ·simp[q2]at hl h1;cases q3:Xe t.name
   ·rw[q3]at h2;simp[Qqo,Qqd,h1,hl,q2,h2]
   ·rw[q3]at h2;cases q4:inS ps t.name
    ·rw[q4]at h3;cases q5:m.defs.find? (isD t.name)with
     | none=>
      rw[q5]at h4;simp[Qta]at h4;simp[Qqo,Qqd,h1,hl,q2,h2,h3,h4]
     | some d=>
      rw[q5]at h4;simp[Qta,Df.cells]at h4;simp[Qqo,Qqd,h1,hl,q2,h2,h3,h4,Xb]
    ·rw[q4]at h3;have e0:(((t.kids.length:Nat):Int) == 0)=decide (t.kids=[]):=by rw[QiE]; simp
     simp[Qqo,Qqd,h1,hl,q2,h2,h3,e0]
  ·simp at hl;simp[Qqo,Qqd,h1,hl,q2]
theorem Qnn (m:Md)(ps:List ByteArray)(hm:m.ok)(hp:ps.length<=67108864)(t:Ty)(hw0:t.wid<=67108864)(hb:t.nodes<=67108864)(ws:Nat)(h:Avm.H):Qb cfg ws 80 [.agg [.str m.name,.isl (m.defs.map Df.enc),.isl (ps.map .str)],t.enc] h=some (.bool (t.Qz (Qbz m ps)),h):=by
 have h2:=fun ws h cap hcap=>YG (cap':=[.iptr [.str m.name,.isl (m.defs.map Df.enc),.isl (ps.map .str)]]) (k:=0) (.inl rfl) (by simp) _ t (Nat.le_refl _) hw0 hb (fun x _ hx _ ws h'=>by simpa using Qsq m ps hm hp x (Nat.le_trans hx hw0) ws h') ws h cap hcap
 refine Qc rfl rfl ?_
 simp at h2;simp[F80,c80,h2]
end Go.Proofs.YtflbneepngjglaaGreatDoor
namespace Go.Proofs.YtflbneepngjglaaGreatDoor
open Go Go.Avm Go.RowKit Go.ChangeShapes Go.WideShapes Go.ChangeAt
theorem QkS : ∀(els:List AV),(∀x∈els,∃v:Val,x=v.enc/\v.size<=x.bulk)-> ∃l:List Val,els=l.map Val.enc/\Val.QM l<=QF els
 | [],_=>⟨[],rfl,by simp[Val.QM]⟩
 | x::r,h=>by
  obtain⟨v,h1,h2⟩:=h x (by simp)
  obtain⟨l,h3,h4⟩:=QkS r fun y hy=>h y (by simp[hy])
  exact⟨v::l,by rw[List.map_cons,←h1,←h3],by simp only[Val.QM,QF]; omega⟩
set_option maxRecDepth 100000 in
theorem QkT : ∀(n f:Nat) (l:List AV),f<=n->Xk Tryz.prog f 31 l-> ∃v:Val,AV.agg l=v.enc/\v.size<=(AV.agg l).bulk
 | 0,f,l,hf,h=>by
  have:f=0:=by omega
  subst this; cases h
 | n+1,f,l,hf,h=>by
  have hag:XQ Tryz.prog 31=true:=by simp[XQ,Tryz.underlying31]
  have h1:=ZX Tryz.underlying31 (by kernel_rfl) h
  obtain⟨y1,z1,rfl,k1,y2,z2,rfl,k2,y3,z3,rfl,k3,y4,z4,rfl,k4,rfl⟩:=h1;obtain⟨k,rfl,_⟩:=YN Tryz.underlying3 k1;obtain⟨i,rfl,_⟩:=YN Tryz.underlying3 k2;obtain⟨b,rfl⟩:=YM Tryz.underlying9 k3;obtain⟨els,rfl,he⟩:=ZN Tryz.underlying29 (by decide+kernel) k4
  obtain⟨r,rfl,hr⟩:=QkS els fun x hx=>by
   obtain⟨l,rfl,hl⟩:=he x hx;rw[hag];refine QkT n _ l ?_ hl
   have:f≠0:=fun e=>by subst e; cases h
   omega
  refine⟨.mk k i b r,by simp,?_⟩
  simp[AV.bulk,QF,Val.size];omega
theorem QAk (H:Type):QfL (H:=H) Rows.uptoBulk Rows.uptoBulkAll where
 one:=fun d=>by
  cases d with
  | lit l=>cases l<;>simp[Rows.uptoBulk]
  | _=>simp[Rows.uptoBulk]
 str:=fun l=>by simp[Rows.uptoBulk]
 ptr:=fun d=>by simp[Rows.uptoBulk]
 slice:=fun es sp=>by simp only[Rows.uptoBulk]; omega
 agg:=fun ps=>by simp[Rows.uptoBulk]
 cons:=fun d r=>by simp[Rows.uptoBulkAll]
theorem own :ownKnob Tryz.prog.godebug=none:=by kernel_rfl
mutual
def Qvs :DataW Unit->List Value
 | .lit (.int k n)=>[.int k n]
 | .agg l=>Qvr l
 | _=>[]
def Qvr :List (DataW Unit)->List Value
 | []=>[]
 | d::r=>Qvs d++Qvr r
end
def Qyl (cs:Array Value):Obj->Obj
 | .cells _ t frozen=>.cells cs t frozen
 | o=>o
noncomputable def QeU (os:Os):World:=
 { World.holding Tryz.prog os ⟨#[],#[],[]⟩with heap:=((World.holding Tryz.prog os ⟨#[],#[],[]⟩).heap.modify 1 (Qyl (Qvs Rows.laid_unicode_utf8_first).toArray)).modify 2 (Qyl (Qvs Rows.laid_unicode_utf8_acceptRanges).toArray)}
theorem Qvg : ∀(els:List AV),(∀x∈els,∃v:It,x=v.enc/\v.size<=x.bulk)-> ∃l:List It,els=l.map It.enc/\It.QM l<=QF els
 | [],_=>⟨[],rfl,by simp[It.QM]⟩
 | x::r,h=>by
  obtain⟨v,h1,h2⟩:=h x (by simp)
  obtain⟨l,h3,h4⟩:=Qvg r fun y hy=>h y (by simp[hy])
  exact⟨v::l,by rw[List.map_cons,←h1,←h3],by simp only[It.QM,QF]; omega⟩
theorem Qtz : ∀(els:List AV),(∀x∈els,∃v:Ty,x=v.enc/\v.size<=x.bulk)-> ∃l:List Ty,els=l.map Ty.enc/\Ty.QM l<=QF els
 | [],_=>⟨[],rfl,by simp[Ty.QM]⟩
 | x::r,h=>by
  obtain⟨v,h1,h2⟩:=h x (by simp)
  obtain⟨l,h3,h4⟩:=Qtz r fun y hy=>h y (by simp[hy])
  exact⟨v::l,by rw[List.map_cons,←h1,←h3],by simp only[Ty.QM,QF]; omega⟩
theorem QcC : ∀(a b:List AV),QF (a++b)=QF a+QF b
 | [],b=>by simp[QF]
 | x::a,b=>by simp only[List.cons_append,QF,QcC a b]; omega
set_option maxRecDepth 100000 in
theorem Qqr : ∀(n f:Nat) (l:List AV),f<=n->Xk Tryz.prog f 28 l-> ∃t:Ty,l=t.cells/\t.size<=QF l+1
 | 0,f,l,hf,h=>by
  have:f=0:=by omega
  subst this; cases h
 | n+1,f,l,hf,h=>by
  have h0:f≠0:=fun e=>by subst e; cases h
  have hagT:XQ Tryz.prog 28=true:=by simp[XQ,Tryz.underlying28]
  have hagI:XQ Tryz.prog 46=true:=by simp[XQ,Tryz.underlying46]
  have hagV:XQ Tryz.prog 31=true:=by simp[XQ,Tryz.underlying31]
  have h1:=ZX Tryz.underlying28 (by kernel_rfl) h
  obtain⟨y1,z1,rfl,k1,y2,z2,rfl,k2,y3,z3,rfl,k3,y4,z4,rfl,k4,y5,z5,rfl,k5,y6,z6,rfl,k6,y7,z7,rfl,k7,y8,z8,rfl,k8,rfl⟩:=h1;obtain⟨k,rfl,_⟩:=YN Tryz.underlying3 k1;obtain⟨nm,rfl⟩:=YM Tryz.underlying9 k2;obtain⟨lo,rfl,_⟩:=YN Tryz.underlying3 k3;obtain⟨hi,rfl,_⟩:=YN Tryz.underlying3 k4;obtain⟨fr,rfl⟩:=QaJ Tryz.underlying4 k5;obtain⟨ex,rfl⟩:=QaJ Tryz.underlying4 k6;obtain⟨e7,rfl,he7⟩:=ZN Tryz.underlying25 (by decide+kernel) k7
  obtain⟨e8,rfl,he8⟩:=ZN Tryz.underlying26 (by decide+kernel) k8
  obtain⟨its,rfl,hits⟩:=Qvg e7 fun x hx=>by
   obtain⟨l,rfl,hl⟩:=he7 x hx;rw[hagI];have g1:=ZX Tryz.underlying46 (by kernel_rfl) hl
   obtain⟨y1,z1,rfl,k1,y2,z2,rfl,k2,y3,z3,rfl,k3,y4,z4,rfl,k4,y5,z5,rfl,k5,rfl⟩:=g1;obtain⟨nm,rfl⟩:=YM Tryz.underlying9 k1;obtain⟨of,rfl,hof⟩:=Qqr n _ _ (by omega) k2
   obtain⟨o,rfl⟩:=QaJ Tryz.underlying4 k3;obtain⟨x,rfl⟩:=QaJ Tryz.underlying4 k4;obtain⟨els,rfl,he⟩:=ZN Tryz.underlying29 (by decide+kernel) k5
   obtain⟨d,rfl,hd⟩:=QkS els fun x hx=>by
    obtain⟨l,rfl,hl⟩:=he x hx;rw[hagV];exact QkT _ _ l (Nat.le_refl _) hl
   refine⟨.mk nm of o x d,by simp[It.enc,It.cells,XA],?_⟩
   simp[AV.bulk,QF,QcC,It.size,XA];omega
  obtain⟨ks,rfl,hks⟩:=Qtz e8 fun x hx=>by
   obtain⟨l,rfl,hl⟩:=he8 x hx;rw[hagT];obtain⟨t,rfl,ht⟩:=Qqr n _ l (by omega) hl
   exact⟨t,rfl,by simp[XA,AV.bulk]; omega⟩
  refine⟨.mk k nm lo hi fr ex its ks,by simp[Ty.cells,It.Zk,Ty.Zk],?_⟩
  simp[AV.bulk,QF,Ty.size];omega
theorem QkG : ∀l:List ByteArray,l.length<=QF (l.map .str)/\ ∀s∈l,s.size<=QF (l.map .str)
 | []=>⟨Nat.zero_le _,fun _ h=>by cases h⟩
 | x::l=>by
  obtain⟨h1,h2⟩:=QkG l;simp only[List.map_cons,QF,AV.bulk,List.length_cons,List.mem_cons];refine⟨by omega,fun s hs=>?_⟩
  rcases hs with rfl | hs
  ·omega
  ·have:=h2 s hs; omega
set_option maxRecDepth 100000 in
theorem QBW {f:Nat}{l:List AV}(h:Xk Tryz.prog f 83 l): ∃d:Df,AV.agg l=d.enc/\(∀n,(AV.agg l).bulk<=n->d.params.length<=n/\(∀p∈d.params,p.size<=n)/\d.name.size<=n/\d.of.size<=n):=by
 have h1:=ZX Tryz.underlying83 (by kernel_rfl) h
 obtain⟨y1,z1,rfl,k1,y2,z2,rfl,k2,y3,z3,rfl,k3,rfl⟩:=h1;obtain⟨b1,rfl⟩:=YM Tryz.underlying9 k1;obtain⟨ps,rfl⟩:=QpK Tryz.underlying81 Tryz.underlying9 (by decide+kernel) k2
 obtain⟨t,rfl,ht⟩:=Qqr _ _ _ (Nat.le_refl _) k3;obtain⟨hp1,hp2⟩:=QkG ps;refine⟨⟨b1,ps,t⟩,by simp[Df.enc,Df.cells,Ty.XO],fun n hn=>?_⟩
 simp only[AV.bulk,QF,QcC,List.cons_append,List.nil_append,List.append_nil]at hn;refine⟨?_,fun p hp=>?_,?_,?_⟩
 ·dsimp only; omega
 ·have:=hp2 p hp; omega
 ·dsimp only; omega
 ·dsimp only; omega
theorem QvJ : ∀(els:List AV),(∀x∈els,∃d:Df,x=d.enc/\(∀n,x.bulk<=n->d.params.length<=n/\(∀p∈d.params,p.size<=n)/\d.name.size<=n/\d.of.size<=n))-> ∃l:List Df,els=l.map Df.enc/\l.length<=QF els/\ ∀d∈l,∀n,QF els<=n->d.params.length<=n/\(∀p∈d.params,p.size<=n)/\d.name.size<=n/\d.of.size<=n
 | [],_=>⟨[],rfl,Nat.zero_le _,fun _ h=>by cases h⟩
 | x::r,h=>by
  obtain⟨v,h1,h2⟩:=h x (by simp)
  obtain⟨l,h3,h4,h5⟩:=QvJ r fun y hy=>h y (by simp[hy])
  have hp:1<=x.bulk:=by rw[h1]; simp[AV.bulk]
  refine⟨v::l,by rw[List.map_cons,←h1,←h3],by simp only[QF,List.length_cons]; omega,fun d hd n hn=>?_⟩
  simp only[QF]at hn;rcases List.mem_cons.1 hd with rfl | hd
  ·exact h2 n (by omega)
  ·exact h5 d hd n (by omega)
set_option maxRecDepth 100000 in
theorem QBF {f:Nat}{l:List AV}(h:Xk Tryz.prog f 24 l)(hn:QF l<=67108864): ∃m:Md,AV.agg l=m.enc/\m.ok:=by
 have h1:=ZX Tryz.underlying24 (by kernel_rfl) h
 obtain⟨y1,z1,rfl,k1,y2,z2,rfl,k2,rfl⟩:=h1;obtain⟨b1,rfl⟩:=YM Tryz.underlying9 k1;obtain⟨els,rfl,he⟩:=ZN Tryz.underlying22 (by decide+kernel) k2
 have hag:XQ Tryz.prog 83=true:=by simp[XQ,Tryz.underlying83]
 obtain⟨r,hr,hlen,hbs⟩:=QvJ els fun y hy=>by
  obtain⟨l,rfl,hl⟩:=he y hy;rw[hag];obtain⟨d,h1,h2⟩:=QBW hl;exact⟨d,h1,h2⟩
 subst hr
 have hb:b1.size<=67108864/\QF (r.map Df.enc)<=67108864:=by
  simp only[AV.bulk,QF,List.cons_append,List.nil_append]at hn;omega
 exact⟨⟨b1,r⟩,by simp[Md.enc],hb.1,by dsimp only; omega,fun d hd=>(hbs d hd _ hb.2).1,fun d hd=>(hbs d hd _ hb.2).2.1,fun d hd=>(hbs d hd _ hb.2).2.2.1,fun d hd=>(hbs d hd _ hb.2).2.2.2⟩
end Go.Proofs.YtflbneepngjglaaGreatDoor
