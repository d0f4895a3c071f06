/- Arcs; what stays right when arguments are put in. -/
import Derived.Test.YtflbneepngjglaaGreatDoorO36
import Derived.Test.YtflbneepngjglaaGreatDoorO32
set_option linter.all false
namespace Go.Proofs.YtflbneepngjglaaGreatDoor
open Go Go.Avm
def QxW :List AV:=List.replicate 256 (.bool false)
def A01 :List AV:=List.replicate 48 (.bool false)++ .bool true:: .bool true::List.replicate 206 (.bool false)
theorem QeA :A01.length=256:=by simp[-List.reduceReplicate,A01]
theorem Qez :Qv A01=true:=by kernel_rfl
theorem Qrw :A01.all AV.one=true:=by simp[-List.reduceReplicate,A01]
def d01 (c:UInt8):Bool:=decide (byI c=48)||decide (byI c=49)
theorem Qyd (n:Nat)(hn:n<256):A01[n]? =some (.bool (decide ((n:Int)=48)||decide ((n:Int)=49))):=by
 unfold A01;rcases Nat.lt_trichotomy n 48 with q | q | q
 ·rw[List.getElem?_append_left (by simpa[-List.reduceReplicate]using q)]
  have h1: ¬(n:Int)=48:=by omega
  have h2: ¬(n:Int)=49:=by omega
  simp[-List.reduceReplicate,q,h1,h2]
 ·subst q; simp[-List.reduceReplicate]
 ·rw[List.getElem?_append_right (by simp[-List.reduceReplicate]; omega)]
  obtain⟨k,rfl⟩: ∃k,n=49+k:=⟨n-49,by omega⟩
  have e:49+k-(List.replicate 48 (AV.bool false)).length=k+1:=by simp[-List.reduceReplicate]; omega
  rw[e,List.getElem?_cons_succ]
  cases k with
  | zero=>simp[-List.reduceReplicate]
  | succ k=>
   have h1: ¬((49+(k+1):Nat):Int)=48:=by omega
   have h2: ¬((49+(k+1):Nat):Int)=49:=by omega
   rw[List.getElem?_cons_succ,List.getElem?_replicate,if_pos (by omega),decide_eq_false h1,decide_eq_false h2]
   rfl
theorem QcP (c:UInt8)(ws:Nat)(h:Avm.H):Qb cfg ws 237 [.iptr A01,.int .u8 (byI c)] h=some (.bool (d01 c),h):=by
 have hc:c.toNat<256:=c.toNat_lt;have hg:=Qyd c.toNat hc;have h1:(0:Int)<=byI c:=by unfold byI; omega
 have h2:byI c<256:=by unfold byI; omega
 have h3:(byI c).toNat=c.toNat:=by unfold byI; omega
 have h4:c.toNat<=256:=by omega
 refine Qc rfl rfl ?_
 have hi:((c.toNat:Nat):Int)=byI c:=rfl;rw[hi]at hg;simp[-List.reduceReplicate,QCY,QCg,Qez,QeA,h1,h2,h3,h4,hg,d01]
theorem Qst (ws:Nat)(h:Avm.H):Qb cfg ws 169 [.str ⟨#[48,49]⟩] h=some (.tup [.agg A01,.bool true],h):=by
 have hw1:IntKind.wrap .i64 1=1:=by decide
 have hw2:IntKind.wrap .i64 (1+1)=2:=by decide
 have hw3:IntKind.wrap .i64 2=2:=by decide
 have hdr:A01.drop 256=[]:=List.drop_eq_nil_iff.2 (by rw[QeA]; omega)
 have l2:Qa (evC (Qb cfg) Qa cfg.pol h.length h.length Qdu) [0,2,4] [(0,.str ⟨#[48,49]⟩),(2,.ptr h.length 0 256 0 0),(4,.int .i64 2)] (h++ [.arr 0 256 [.agg A01]])=some (.exit 0,[(0,.str ⟨#[48,49]⟩),(2,.ptr h.length 0 256 0 0),(4,.int .i64 2)],h++ [.arr 0 256 [.agg A01]]):=
  QG fun K hK=>by simp[-List.reduceReplicate,Qdu,ByteArray.size]
 have l1:Qa (evC (Qb cfg) Qa cfg.pol h.length h.length Qdu) [0,2,4] [(0,.str ⟨#[48,49]⟩),(2,.ptr h.length 0 256 0 0),(4,.int .i64 1)] (h++ [.arr 0 256 [.agg (List.replicate 48 (.bool false)++ .bool true::List.replicate 207 (.bool false))]])=some (.exit 0,[(0,.str ⟨#[48,49]⟩),(2,.ptr h.length 0 256 0 0),(4,.int .i64 2)],h++ [.arr 0 256 [.agg A01]]):=
  QG fun K hK=>by
   simp[-List.reduceReplicate,Qdu,ByteArray.size,hw2,hw3,List.take_append];rw[hK,←l2]; rfl
 have l0:Qa (evC (Qb cfg) Qa cfg.pol h.length h.length Qdu) [0,2,4] [(0,.str ⟨#[48,49]⟩),(2,.ptr h.length 0 256 0 0),(4,.int .i64 0)] (h++ [.arr 0 256 [.agg QxW]])=some (.exit 0,[(0,.str ⟨#[48,49]⟩),(2,.ptr h.length 0 256 0 0),(4,.int .i64 2)],h++ [.arr 0 256 [.agg A01]]):=
  QG fun K hK=>by
   simp[-List.reduceReplicate,Qdu,ByteArray.size,hw1,QxW];rw[hK,←l1]
 have hA1:A01.length=256:=QeA;have hA2:=eq_true (List.all_eq_true.1 Qrw);have hA3:=Qez;refine Qc rfl rfl ?_
 rw[QxW]at l0;simp[-List.reduceReplicate,QDo,QCw,l0,hA1,hA2,List.take_of_length_le,QxW,hdr,Zj Qez]
theorem QnY (s:ByteArray)(a b:Nat):(s.extract a b).data.toList=(s.data.toList.drop a).take (b-a):=by simp
theorem JR (s:ByteArray):s.size=s.data.toList.length:=by rw[Array.length_toList]; rfl
def ends (bs:List UInt8):Prop:=bs=[]\/ ∃z,bs.getLast? =some z/\d01 z=false
theorem QoM (h:Avm.H): ∀(n:Nat) (s:ByteArray),s.size<=n->s.size<=67108864-> ∃r:ByteArray,Qa (evC (Qb cfg) Qa cfg.pol h.length h.length Qfp) [0,1] [(0,.str s),(1,.iptr A01)] h=some (.exit 0,[(0,.str r),(1,.iptr A01)],h)/\r.size<=s.size/\r.data.toList.all d01=s.data.toList.all d01/\ends r.data.toList:=by
 intro n
 induction n with
 | zero=>
  intro s hs hb;have h0:s.size=0:=by omega
  have hl:s.data.toList=[]:=List.eq_nil_of_length_eq_zero (by rw[←JR]; omega)
  refine⟨s,QG fun K hK=>?_,Nat.le_refl _,rfl,.inl hl⟩
  simp[Qfp,h0]
 | succ n ih=>
  intro s hs hb;by_cases h0:s.size=0
  ·have hl:s.data.toList=[]:=List.eq_nil_of_length_eq_zero (by rw[←JR]; omega)
   refine⟨s,QG fun K hK=>?_,Nat.le_refl _,rfl,.inl hl⟩
   simp[Qfp,h0]
  ·obtain⟨k,hk⟩: ∃k,s.size=k+1:=⟨s.size-1,by omega⟩
   have hwk:IntKind.wrap .i64 (k:Int)=k:=Qd (by omega)
   have hll:s.data.toList.length=k+1:=by rw[←JR,hk]
   obtain⟨z,hz⟩: ∃z,s.data.toList[k]? =some z:=⟨s.data.toList[k],List.getElem?_eq_getElem (by omega)⟩
   have hz3: ∀hh:k<s.data.size,s.data[k]=z:=fun hh=>by
    have:=hz;rw[List.getElem?_eq_getElem (by simpa using hh)]at this
    simpa using this
   have hzl:s.data.toList.getLast? =some z:=by rw[List.getLast?_eq_getElem?,hll]; exact hz
   have hdec:s.data.toList=s.data.toList.take k++ [z]:=by
    have:=List.take_append_drop k s.data.toList
    have hd:s.data.toList.drop k=[z]:=by
     rw[List.drop_eq_getElem_cons (by omega),List.drop_eq_nil_iff.2 (by omega)]
     rw[List.getElem?_eq_getElem (by omega)]at hz
     cases hz; rfl
    rw[←hd,this]
   have hby: ∀b:UInt8,((b.toNat:Nat):Int)=byI b:=fun _=>rfl
   have hct:=QcP z;cases hq:d01 z
   ·rw[hq]at hct;refine⟨s,QG fun K hK=>?_,Nat.le_refl _,rfl,.inr ⟨z,hzl,hq⟩⟩
    simp[Qfp,hk,hwk,hz,hz3,hby,hct]
   ·rw[hq]at hct;have hsz:(s.extract 0 k).size=k:=by rw[ByteArray.size_extract]; omega
    obtain⟨r,h1,h2,h3,h4⟩:=ih (s.extract 0 k) (by omega) (by omega)
    refine⟨r,QG fun K hK=>?_,by omega,?_,h4⟩
    ·simp[Qfp,hk,hwk,hz,hz3,hby,hct,QdL];rw[hK,←h1]
    ·rw[h3,QnY]
     conv=>rhs; rw[hdec]
     simp[hq]
theorem QtE (s:ByteArray)(hb:s.size<=67108864)(u:AV)(ws:Nat)(h:Avm.H)(hu:snap h 8 u=some (.iptr A01)): ∃r:ByteArray,Qb cfg ws 171 [.str s,u] h=some (.str r,h)/\r.size<=s.size/\r.data.toList.all d01=s.data.toList.all d01/\ends r.data.toList:=by
 obtain⟨r,h1,h2⟩:=QoM h _ s (Nat.le_refl _) hb;refine⟨r,Qc rfl rfl ?_,h2⟩
 simp[QDm,QCu,hu,h1]
theorem QoN (h:Avm.H): ∀(n:Nat) (s:ByteArray),s.size<=n-> ∃r:ByteArray,Qa (evC (Qb cfg) Qa cfg.pol h.length h.length Qfq) [0,1] [(0,.str s),(1,.iptr A01)] h=some (.exit 0,[(0,.str r),(1,.iptr A01)],h)/\(r.data.toList=[]↔s.data.toList.all d01=true):=by
 intro n
 induction n with
 | zero=>
  intro s hs;have h0:s.size=0:=by omega
  have hl:s.data.toList=[]:=List.eq_nil_of_length_eq_zero (by rw[←JR]; omega)
  refine⟨s,QG fun K hK=>?_,by rw[hl]; simp⟩
  simp[Qfq,h0]
 | succ n ih=>
  intro s hs;cases hl:s.data.toList with
  | nil=>
   have h0:s.size=0:=by rw[JR,hl]; rfl
   refine⟨s,QG fun K hK=>?_,by rw[hl]; simp⟩
   simp[Qfq,h0]
  | cons c t=>
   have hk:s.size=t.length+1:=by rw[JR,hl]; rfl
   have hby: ∀b:UInt8,((b.toNat:Nat):Int)=byI b:=fun _=>rfl
   have hct:=QcP c;have hc0:(c::t)[0]? =some c:=rfl;cases hq:d01 c
   ·rw[hq]at hct;refine⟨s,QG fun K hK=>?_,by rw[hl]; simp[hq]⟩
    simp[Qfq,hk,hl,hby,hct]
   ·rw[hq]at hct;have hsz:(s.extract 1 s.size).size=t.length:=by rw[ByteArray.size_extract]; omega
    obtain⟨r,h1,h2⟩:=ih (s.extract 1 s.size) (by omega)
    refine⟨r,QG fun K hK=>?_,?_⟩
    ·rw[hk]at h1;simp[Qfq,hk,hl,hby,hct,QdL];rw[hK,←h1]
    ·rw[h2,QnY,hl,hk];simp[hq]
theorem QtF (s:ByteArray)(u:AV)(ws:Nat)(h:Avm.H)(hu:snap h 8 u=some (.iptr A01)): ∃r:ByteArray,Qb cfg ws 170 [.str s,u] h=some (.str r,h)/\(r.data.toList=[]↔s.data.toList.all d01=true):=by
 obtain⟨r,h1,h2⟩:=QoN h _ s (Nat.le_refl _);refine⟨r,Qc rfl rfl ?_,h2⟩
 simp[QDn,QCv,hu,h1]
theorem Qjp (s:ByteArray)(hb:s.size<=67108864)(ws:Nat)(h:Avm.H): ∃r:ByteArray,Qb cfg ws 89 [.str s,.str ⟨#[48,49]⟩] h=some (.str r,h)/\(r.data.toList=[]↔s.data.toList.all d01=true):=by
 have hE0:(⟨#[]⟩:ByteArray).toList=[]:=by rw[ByteArray.toList_eq]
 have hE2:(⟨#[48,49]⟩:ByteArray).toList=[48,49]:=by rw[ByteArray.toList_eq]
 have hE:s.toList=s.data.toList:=by rw[ByteArray.toList_eq]
 have hsz2:(⟨#[48,49]⟩:ByteArray).size=2:=rfl;have hmk:=Qst;have hA1:A01.length=256:=QeA;have hA2:=eq_true (List.all_eq_true.1 Qrw);have hdr:A01.drop 256=[]:=List.drop_eq_nil_iff.2 (by rw[QeA]; omega)
 cases hl:s.data.toList with
 | nil=>
  refine⟨s,Qc rfl rfl ?_,by rw[hl]; simp⟩
  simp[-List.reduceReplicate,F89,c89,hE,hl,hE0]
 | cons c t=>
  have hsn:snap (h++ [.arr 0 256 [.agg A01]]) 8 (.ptr h.length 0 256 0 0)=some (.iptr A01):=by
   simp[hA1,Qx Qez]
  obtain⟨r1,q1,q2,q3,q4⟩:=QtE s hb (.ptr h.length 0 256 0 0) h.length _ hsn;obtain⟨r2,p1,p2⟩:=QtF r1 (.ptr h.length 0 256 0 0) h.length _ hsn;refine⟨r2,Qc rfl rfl ?_,by rw[p2,q3,hl]⟩
  simp[-List.reduceReplicate,F89,c89,hE,hl,hE0,hE2,hsz2,hmk,hA1,hA2,hdr,List.take_of_length_le,q1,p1]
end Go.Proofs.YtflbneepngjglaaGreatDoor
namespace Go.Proofs.YtflbneepngjglaaGreatDoor
open Go Go.Avm
theorem Qto (s:ByteArray)(hs:s.size<=32000)(h01:s.data.toList.all d01=true)(ws:Nat)(h:Avm.H):Qb cfg ws 241 [.str s] h=some (.bool true,h):=by
 obtain⟨r,e1,e2⟩:=Qjp s (by omega) h.length h
 have hr:r=⟨#[]⟩:=by
  have:=e2.2 h01
  apply ByteArray.ext
  apply Array.ext'
  simpa using this
 subst hr;have i1:(s.size:Int)<=32000:=by omega
 refine Qc rfl rfl ?_
 simp[QCX,QCf,e1,i1]
theorem QvZ (s:ByteArray)(hs:s.size<=32000)(h01:s.data.toList.all d01=true)(ws:Nat)(h:Avm.H):Qb cfg ws 178 [.str s] h=some (.tup [.str (Jb s),.int .i64 0],h):=by
 have hsl:s.data.toList.length=s.size:=Array.length_toList;have ev:=fun ws h=>Qto s hs h01 ws h
 have hlp:=QqT (f:=evC (Qb cfg) Qa cfg.pol h.length h.length Qmd) (keep:=[0,4,15,16]) s.size (fun i=>[(0,.str s),(4,.osl h.length 0 1 0 ((s.size+7)/8)),(15,.int .i64 s.size),(16,.int .i64 i)])
  (fun i=>h++ [.arr 0 1 ((Yz s.data.toList ((s.size+7)/8) i).map mk8)])
  (fun _=>(.exit 0,[(0,.str s),(4,.osl h.length 0 1 0 ((s.size+7)/8)),(15,.int .i64 s.size),(16,.int .i64 s.size)],h++ [.arr 0 1 ((Yy s.data.toList).map mk8)])) ?_ ?_
 ·rw[Qpu]at hlp;have hby:=QcB (Yy s.data.toList);have hln:((Yy s.data.toList).map mk8).length=(s.size+7)/8:=by rw[List.length_map,Qch,hsl]
  have htd:Int.tdiv ((s.size:Int)+7) 8=(((s.size+7)/8:Nat):Int):=by rw[Int.tdiv_eq_ediv_of_nonneg (by omega)]; omega
  have w1:IntKind.wrap .i64 ((s.size:Int)+7)=(s.size:Int)+7:=QU (by omega) (by omega)
  have w2:IntKind.wrap .i64 (((s.size+7)/8:Nat):Int)=(((s.size+7)/8:Nat):Int):=Qd (by omega)
  have hn4:(s.size+7)/8<=4294967296:=by omega
  unfold Jb;generalize (Yy s.data.toList).map mk8=els at*;generalize (s.size+7)/8=n at*;have htk:els.take n=els:=List.take_of_length_le (by omega)
  unfold mk8 at hlp;refine Qc rfl rfl ?_
  simp at hlp;simp[QDj,QCr,ev,w1,htd,w2,hn4,hlp,hln,htk,hby]
 ·intro i hi K hK;rw[Qpt]at hK;have hor:=QyF s.data.toList i;have hxl:=QiD (s.data.toList.take i) (8*(i/8)) 8;have hbl:=Qeq s.data.toList i;have hil:i<s.data.toList.length:=by omega
  have hgi:(s.data[i]'hi)=s.data.toList[i]:=(Array.getElem_toList hi).symm
  have hbit:((s.data[i]'hi).toNat:Int)=48+(ZA s.data.toList i:Nat):=by
   have:=List.all_eq_true.1 h01 _ (List.getElem_mem hil);unfold d01 byI at this;simp only[Bool.or_eq_true,decide_eq_true_eq]at this;unfold ZA;rw[List.getElem?_eq_getElem hil,hgi]
   rcases this with h48 | h49
   ·rw[if_neg (fun e=>by injection e with e; rw[e]at h48; exact absurd h48 (by decide))]
    omega
   ·rw[if_pos (by congr 1; exact UInt8.toNat_inj.1 (by have h9:(49:UInt8).toNat=49:=rfl; omega))]
    omega
  have hpn:i/8<(s.size+7)/8:=by omega
  have hget:((Yz s.data.toList ((s.size+7)/8) i).map mk8)[i/8]? =some (.int .u8 ((Xs (s.data.toList.take i) (8*(i/8)) 8:Nat):Int)):=by
   unfold Yz;rw[List.getElem?_map,List.getElem?_map,List.getElem?_range hpn]; rfl
  have hlen:((Yz s.data.toList ((s.size+7)/8) i).map mk8).length=(s.size+7)/8:=by simp[Yz]
  have hpw:2^(7-i%8)<=128:=Nat.le_trans (Nat.pow_le_pow_right (by omega) (show 7-i%8<=7 by omega)) (by decide)
  have hyl:ZA s.data.toList i*2^(7-i%8)<256:=by
   have:=Nat.mul_le_mul hbl hpw;omega
  have horl:Xs (s.data.toList.take i) (8*(i/8)) 8+ZA s.data.toList i*2^(7-i%8)<256:=by
   rw[←hor];exact Nat.or_lt_two_pow (n:=8) hxl hyl
  have w1:IntKind.wrap .u8 (48+((ZA s.data.toList i:Nat):Int)-48)=(ZA s.data.toList i:Nat):=by rw[show 48+((ZA s.data.toList i:Nat):Int)-48=(ZA s.data.toList i:Nat)by omega]; exact wrap_u8 (by omega) (by omega)
  have htd:Int.tdiv (i:Int) 8=((i/8:Nat):Int):=by rw[Int.tdiv_eq_ediv_of_nonneg (by omega)]; omega
  have htm:Int.tmod (i:Int) 8=((i%8:Nat):Int):=by rw[Int.tmod_eq_emod_of_nonneg (by omega)]; omega
  have w2:IntKind.wrap .i64 ((i/8:Nat):Int)=((i/8:Nat):Int):=Qd (by omega)
  have w3:IntKind.wrap .i64 (7-((i%8:Nat):Int))=((7-i%8:Nat):Int):=by rw[show 7-((i%8:Nat):Int)=((7-i%8:Nat):Int)by omega]; exact Qd (by omega)
  have hmin:min (7-i%8) IntKind.u8.bits=7-i%8:=Nat.min_eq_left (show 7-i%8<=8 by omega)
  have w5:IntKind.wrap .i64 ((i:Int)+1)=(i:Int)+1:=QU (by omega) (by omega)
  have w4:IntKind.wrap .u8 (((ZA s.data.toList i:Nat):Int)*2^(7-i%8))=((ZA s.data.toList i*2^(7-i%8):Nat):Int):=by
   rw[show((ZA s.data.toList i:Nat):Int)*2^(7-i%8)=((ZA s.data.toList i*2^(7-i%8):Nat):Int)by rw[Int.natCast_mul,Int.natCast_pow]; rfl]
   exact wrap_u8 (by omega) (by omega)
  have wor:(Xs (s.data.toList.take i) (8*(i/8)) 8%2^IntKind.u8.bits||| (ZA s.data.toList i*2^(7-i%8))%2^IntKind.u8.bits)=Xs (s.data.toList.take i) (8*(i/8)) 8+ZA s.data.toList i*2^(7-i%8):=by
   rw[show 2^IntKind.u8.bits=256 from rfl,Nat.mod_eq_of_lt hxl,Nat.mod_eq_of_lt hyl,hor]
  have w6:IntKind.wrap .u8 ((Xs (s.data.toList.take i) (8*(i/8)) 8+ZA s.data.toList i*2^(7-i%8):Nat):Int)=((Xs (s.data.toList.take i) (8*(i/8)) 8+ZA s.data.toList i*2^(7-i%8):Nat):Int):=wrap_u8 (by omega) (by omega)
  clear hor hxl hyl horl hpw h01 hbl;have hmap:((Yz s.data.toList ((s.size+7)/8) i).set (i/8) ((Xs (s.data.toList.take i) (8*(i/8)) 8+ZA s.data.toList i*2^(7-i%8):Nat):Int)).map mk8=((Yz s.data.toList ((s.size+7)/8) i).map mk8).set (i/8) (.int .u8 ((Xs (s.data.toList.take i) (8*(i/8)) 8+ZA s.data.toList i*2^(7-i%8):Nat):Int)):=by rw[List.map_set]; rfl
  rw[hmap]at hK;clear hmap;generalize hy:ZA s.data.toList i*2^(7-i%8)=y at*;generalize Xs (s.data.toList.take i) (8*(i/8)) 8=x at*;generalize hz:x+y=z at*;generalize (Yz s.data.toList ((s.size+7)/8) i).map mk8=els at*;obtain⟨hgl,hge⟩:=List.getElem?_eq_some_iff.1 hget
  generalize hp:i/8=p at*;generalize hm:i%8=m at*;generalize he:7-m=e at*;generalize ZA s.data.toList i=b at*;simp at hK;simp[Qmd,hi,htd,htm,w1,w2,w3,w5,hbit,hmin,w4,hpn,hlen,hge,hgl,wor,w6,hK]
 ·intro K;rw[show Yz s.data.toList ((s.size+7)/8) s.size=Yy s.data.toList by rw[←hsl]; exact Qsh _]
  simp[Qmd]
end Go.Proofs.YtflbneepngjglaaGreatDoor
namespace Go.Proofs.YtflbneepngjglaaGreatDoor
open Go Go.Avm
def QeN (n:Nat):Nat:=8*((n+7)/8)-n
def QkV (k:Int):Int:=if k=0 then 5 else if k=1 then 1 else if k=2 then 2 else if k=3 then 10 else if k=4 then 4 else if k=5 then 3 else if k=6 then 6 else if k=7 then 48 else if k=8 then 49 else if k=9 then 160 else 8
theorem QBi (ws:Nat)(h:Avm.H):Qb cfg ws 99 [.int .i64 0] h=some (.int .i64 5,h):=by
 refine Qc rfl rfl ?_
 simp[F99,c99,QS]
theorem QBh (ws:Nat)(h:Avm.H):Qb cfg ws 99 [.int .i64 1] h=some (.int .i64 1,h):=by
 refine Qc rfl rfl ?_
 simp[F99,c99,QS]
theorem QBg (ws:Nat)(h:Avm.H):Qb cfg ws 99 [.int .i64 2] h=some (.int .i64 2,h):=by
 refine Qc rfl rfl ?_
 simp[F99,c99,QS]
theorem QBf (ws:Nat)(h:Avm.H):Qb cfg ws 99 [.int .i64 3] h=some (.int .i64 10,h):=by
 refine Qc rfl rfl ?_
 simp[F99,c99,QS]
theorem QBe (ws:Nat)(h:Avm.H):Qb cfg ws 99 [.int .i64 4] h=some (.int .i64 4,h):=by
 refine Qc rfl rfl ?_
 simp[F99,c99,QS]
theorem QBd (ws:Nat)(h:Avm.H):Qb cfg ws 99 [.int .i64 5] h=some (.int .i64 3,h):=by
 refine Qc rfl rfl ?_
 simp[F99,c99,QS]
theorem QBc (ws:Nat)(h:Avm.H):Qb cfg ws 99 [.int .i64 6] h=some (.int .i64 6,h):=by
 refine Qc rfl rfl ?_
 simp[F99,c99,QS]
theorem QBb (ws:Nat)(h:Avm.H):Qb cfg ws 99 [.int .i64 7] h=some (.int .i64 48,h):=by
 refine Qc rfl rfl ?_
 simp[F99,c99,QS]
theorem QBa (ws:Nat)(h:Avm.H):Qb cfg ws 99 [.int .i64 8] h=some (.int .i64 49,h):=by
 refine Qc rfl rfl ?_
 simp[F99,c99,QS]
theorem QAZ (ws:Nat)(h:Avm.H):Qb cfg ws 99 [.int .i64 9] h=some (.int .i64 160,h):=by
 refine Qc rfl rfl ?_
 simp[F99,c99,QS]
theorem Qyv (ws:Nat)(h:Avm.H):Qb cfg ws 99 [.int .i64 11] h=some (.int .i64 8,h):=by
 refine Qc rfl rfl ?_
 simp[F99,c99,QS]
def Kind (k:Int):Prop:=k=0\/k=1\/k=2\/k=3\/k=4\/k=5\/k=6\/k=7\/k=8\/k=9\/k=11
theorem Qyu (k:Int)(hk:Kind k)(ws:Nat)(h:Avm.H):Qb cfg ws 99 [.int .i64 k] h=some (.int .i64 (QkV k),h):=by
 unfold Kind at hk;rcases hk with rfl | rfl | rfl | rfl | rfl | rfl | rfl | rfl | rfl | rfl | rfl
 ·exact QBi ws h
 ·exact QBh ws h
 ·exact QBg ws h
 ·exact QBf ws h
 ·exact QBe ws h
 ·exact QBd ws h
 ·exact QBc ws h
 ·exact QBb ws h
 ·exact QBa ws h
 ·exact QAZ ws h
 ·exact Qyv ws h
end Go.Proofs.YtflbneepngjglaaGreatDoor
namespace Go.Proofs.YtflbneepngjglaaGreatDoor
open Go Go.Avm
def Qeu (x:Val):Bool:=decide (x.kind=2)&&(QL true false false x&&inP x.int 0 1000000000)
def Qqk :List Val->Bool
 | a::b::_=>decide (a.int=2)||(decide (a.int<2)&&decide (b.int<=39))
 | _=>false
def QfH (v:Val):Bool:=QL false false true v&&(inP (v.items.length:Int) 2 10&&(v.items.all Qeu&&Qqk v.items))
theorem Qtr (v:Val)(hv:v.size<=67108864)(h:Avm.H): ∃g,Qa (evC (Qb cfg) Qa cfg.pol h.length h.length Qkv) [1,18,19,20] [(1,.ptr h.length 0 4 0 0),(18,.isl (v.items.map Val.enc)),(19,.int .i64 v.items.length),(20,.int .i64 (0:Nat))] (h++([.arr 0 4 [v.enc]]++ []))=some (if(v.items).all Qeu=true then(.exit 0,[(1,.ptr h.length 0 4 0 0),(18,.isl (v.items.map Val.enc)),(19,.int .i64 v.items.length),(20,.int .i64 (v.items).length)],h++([.arr 0 4 [v.enc]]++g))else(.ret,[(2,.bool false)],h++([.arr 0 4 [v.enc]]++g))):=by
 have hl:(v.items).length<=67108864:=(by have:=v.Qw; omega)
 have hlp:=Qg (γ:=Avm.H) (f:=evC (Qb cfg) Qa cfg.pol h.length h.length Qkv) (keep:=[1,18,19,20]) (v.items) (fun _ _=>True)
      (fun i _=>[(1,.ptr h.length 0 4 0 0),(18,.isl (v.items.map Val.enc)),(19,.int .i64 v.items.length),(20,.int .i64 i)]) (fun _ g=>h++([.arr 0 4 [v.enc]]++g))
      (fun _ r o=>∃g,o=if r.all Qeu=true then(.exit 0,[(1,.ptr h.length 0 4 0 0),(18,.isl (v.items.map Val.enc)),(19,.int .i64 v.items.length),(20,.int .i64 (v.items).length)],h++([.arr 0 4 [v.enc]]++g))else(.ret,[(2,.bool false)],h++([.arr 0 4 [v.enc]]++g))) ?_ ?_ [] trivial
 ·obtain⟨o,h1,g,h2⟩:=hlp;exact⟨g,h2▸h1⟩
 ·intro i x r g hd hi hx _ K hK;have hw:=Qd (n:=i+1) (by omega)
  simp at hw;have hm:x∈(v.items):=by rw[←hx]; exact List.getElem_mem hi
  have hb:=QgB x;have hin:=fun ws h=>Qga x.int 0 1000000000 ws h
  simp at hb;cases hv:Qeu x
  ·refine⟨_,?_,(g++ [.arr 0 4 [x.enc]]),by simp only[List.all_cons,hv,Bool.false_and,Bool.false_eq_true,if_false]; rfl⟩
   unfold Qeu at hv;cases q2:QL true false false x<;>cases q3:inP x.int 0 1000000000<;>by_cases q1:x.kind=2<;>simp[q1,q2,q3]at hv<;>(try simp only[q2]at hb)<;>(try simp only[q3]at hin)<;>(try simp only[q1]at hb)<;>simp[Qkv,hi,hx,hin,q1,hb]
  ·obtain⟨o,h4,g2,h5⟩:=hK (g++ [.arr 0 4 [x.enc]]) trivial;refine⟨o,?_,g2,by simp only[List.all_cons,hv,Bool.true_and]; exact h5⟩
   simp at h4;unfold Qeu at hv;cases q2:QL true false false x<;>cases q3:inP x.int 0 1000000000<;>by_cases q1:x.kind=2<;>simp[q1,q2,q3]at hv<;>(try simp only[q2]at hb)<;>(try simp only[q3]at hin)<;>(try simp only[q1]at hb h4)<;>simp[Qkv,hi,hx,hin,q1,hb,hw,h4]
 ·intro g K _;refine⟨_,?_,g,by simp only[List.all_nil,if_true]; rfl⟩
  simp[Qkv]
theorem QxU (v:Val)(hv:v.size<=67108864)(ws:Nat)(h:Avm.H):Qb cfg ws 90 [v.enc] h=some (.bool (QfH v),h):=by
 have hh:=QlE v;have hin:=fun ws h=>Qga (v.items.length:Int) 2 10 ws h
 obtain⟨g,hl⟩:=Qtr v hv h;refine Qc rfl rfl ?_
 unfold QfH;simp at hh;cases q1:QL false false true v
 ·rw[q1]at hh;simp[F90,c90,hh]
 ·rw[q1]at hh;cases q2:inP (v.items.length:Int) 2 10
  ·rw[q2]at hin;simp[F90,c90,hh,hin]
  ·rw[q2]at hin;cases q3:v.items.all Qeu
   ·rw[q3]at hl;simp at hl;simp[F90,c90,hh,hin,hl]
   ·rw[q3]at hl;simp at hl;simp only[inP,Bool.and_eq_true,decide_eq_true_eq]at q2
    obtain⟨a,b,r,hab⟩: ∃a b r,v.items=a::b::r:=by
     match hvi:v.items with
     | []=>rw[hvi]at q2; simp at q2
     | [a]=>rw[hvi]at q2; simp at q2
     | a::b::r=>exact⟨a,b,r,rfl⟩
    rw[hab]at hl hh hin;simp at hl hh hin;by_cases q4:a.int=2
    ·simp[F90,c90,hh,hin,hl,hab,Qqk,q4]<;>simp[q4]at hl hh<;>simp[hh,hin,hl,q4]
    ·simp[F90,c90,hh,hin,hl,hab,Qqk,q4]
theorem QgP :Ty.zero.Qz Qk=true:=by
 rw[Ty.JL];simp[Ty.zero,Ty.inner,Ty.comp,Qk,Ty.Jy,Ty.n0,Ty.l0,Ty.h0,Ty.i0,Ty.k0,eqS]
theorem Qs {p:Ty->Bool}{t x:Ty}(h:t.Qz p=true)(hx:x∈t.inner):x.Qz p=true:=by
 rw[Ty.JL,Bool.and_eq_true,List.all_eq_true]at h;exact h.2 x hx
theorem QO {p:Ty->Bool}{t:Ty}(h:t.Qz p=true):p t=true:=by
 rw[Ty.JL,Bool.and_eq_true]at h;exact h.1
theorem QiU {t:Ty}(ps:List ByteArray)(args:List Ty)(h:t.same Ty.zero=true):(t.put ps args).same Ty.zero=true:=by
 rw[Qca]at h;simp only[Bool.and_eq_true,decide_eq_true_eq]at h;obtain⟨h1,h2,h3,h4,h5,h6,h7,h8⟩:=h;have hp:t.par ps=none:=by unfold Ty.par; rw[if_neg]; rw[h1]; rintro⟨e,_⟩; cases e
 rw[Ty.put_eq,hp,Qca];have h7':t.items=[]:=by simpa[Ty.i0]using h7
 have h8':t.kids=[]:=by simpa[Ty.k0]using h8
 simp only[Ty.QaI,h1,decide_true,Bool.true_and,Ty.n0,Ty.Zq,Ty.l0,Ty.QcK,Ty.h0,Ty.QcN,Ty.Ye,Ty.We,Ty.i0,Ty.Xl,Ty.k0,Ty.ZC,h7',h8',List.map_nil,List.isEmpty_nil,Bool.and_true]at*;simp only[h2,h3,h4,h5,h6,Bool.and_true]
theorem Qcn {c:Prop} [Decidable c]{a a' b b':Bool}(h:(if c then a else b)=true)(h1:a=true->a'=true)(h2:b=true->b'=true):(if c then a' else b')=true:=by
 by_cases q:c
 ·rw[if_pos q]at h ⊢; exact h1 h
 ·rw[if_neg q]at h ⊢; exact h2 h
def Ty.shell(t:Ty)(f:It->It)(g:Ty->Ty):Ty:=.mk t.kind t.name t.lo t.hi t.free t.ext (t.items.map f) (t.kids.map g)
theorem QmU (t:Ty)(f:It->It)(g:Ty->Ty)(he: ∀i,(f i).extra=i.extra)(ho: ∀i,XM (f i)=XM i)(hb: ∀i∈t.items,JQ i=true->JQ (f i)=true)(h:Qk t=true):Qk (t.shell f g)=true:=by
 have e1:(t.items.map f).findIdx? It.extra=t.items.findIdx? It.extra:=by
  rw[List.findIdx?_map]; congr 1; funext i; exact he i
 have e2: ∀j,((t.items.map f).drop j).all It.extra=(t.items.drop j).all It.extra:=fun j=>by
  rw[←List.map_drop,List.all_map]; congr 1; funext i; exact he i
 have e3:(t.items.map f).all XM=t.items.all XM:=by
  rw[List.all_map]; congr 1; funext i; exact ho i
 have e4:t.items.all JQ=true->(t.items.map f).all JQ=true:=fun h=>by
  rw[List.all_eq_true]at h ⊢;intro x hx;obtain⟨i,hi,rfl⟩:=List.mem_map.1 hx;exact hb i hi (h i hi)
 have e5: ∀n,itP (t.shell f g) n=itP t n:=fun n=>by
  unfold itP Ty.shell;simp only[Ty.Xl,Ty.We,e1,e2,List.length_map]
 have e6:(t.items.map f).isEmpty=t.items.isEmpty:=by cases t.items<;>rfl
 have e7:(t.kids.map g).isEmpty=t.kids.isEmpty:=by cases t.kids<;>rfl
 have k1: ∀a b,XI (t.shell f g) a b=XI t a b:=fun _ _=>rfl
 have o1:(t.shell f g).Jy=t.Jy:=by simp only[Ty.Jy,Ty.shell,Ty.n0,Ty.l0,Ty.h0,Ty.i0,Ty.k0,Ty.Zq,Ty.QcK,Ty.QcN,Ty.Ye,Ty.We,Ty.Xl,Ty.ZC,e6,e7]<;>rfl
 have o2:(t.shell f g).Qby=t.Qby:=by simp only[Ty.Qby,Ty.shell,Ty.n0,Ty.l0,Ty.h0,Ty.i0,Ty.k0,Ty.Zq,Ty.QcK,Ty.QcN,Ty.Ye,Ty.We,Ty.Xl,Ty.ZC,e6,e7]<;>rfl
 have o3:(t.shell f g).oEI=t.oEI:=by simp only[Ty.oEI,Ty.shell,Ty.n0,Ty.l0,Ty.h0,Ty.i0,Ty.k0,Ty.Zq,Ty.QcK,Ty.QcN,Ty.Ye,Ty.We,Ty.Xl,Ty.ZC,e6,e7]<;>rfl
 have o4:(t.shell f g).Qec=t.Qec:=by simp only[Ty.Qec,Ty.shell,Ty.n0,Ty.l0,Ty.h0,Ty.i0,Ty.k0,Ty.Zq,Ty.QcK,Ty.QcN,Ty.Ye,Ty.We,Ty.Xl,Ty.ZC,e6,e7]<;>rfl
 have o5:(t.shell f g).oNK=t.oNK:=by simp only[Ty.oNK,Ty.shell,Ty.n0,Ty.l0,Ty.h0,Ty.i0,Ty.k0,Ty.Zq,Ty.QcK,Ty.QcN,Ty.Ye,Ty.We,Ty.Xl,Ty.ZC,e6,e7]<;>rfl
 have kk:(t.shell f g).kind=t.kind:=rfl;have kl:(t.shell f g).kids.length=t.kids.length:=by simp[Ty.shell]
 have ki:(t.shell f g).items=t.items.map f:=rfl;unfold Qk at h ⊢;rw[o1,o2,o3,o4,o5,kk,kl,ki,e3,e5,e5];simp only[k1];exact Qcn h id fun h=>Qcn h id fun h=>Qcn h id fun h=>Qcn h id fun h=>Qcn h id fun h=>Qcn h (fun h=>by simp only[Bool.and_eq_true]at h ⊢; exact⟨h.1,h.2.1,e4 h.2.2⟩) fun h=>h
theorem QeL (ps:List ByteArray)(args:List Ty)(ha: ∀a∈args,a.Qz Qk=true): ∀(n:Nat) (t:Ty),t.size<=n->t.Qz Qk=true->(t.put ps args).Qz Qk=true
 | 0,t,h,_=>by have:=t.size_pos; omega
 | n+1,t,h,hr=>by
  rw[Ty.put_eq];cases hp:t.par ps with
  | some i=>
   dsimp only;cases hi:args[i]? with
   | none=>exact QgP
   | some a=>exact ha a (List.mem_of_getElem? hi)
  | none=>
   dsimp only;have hsh:(Ty.mk t.kind t.name t.lo t.hi t.free t.ext (t.items.map fun x=>x.QR (x.of.put ps args)) (t.kids.map fun x=>x.put ps args))=t.shell (fun x=>x.QR (x.of.put ps args)) (fun x=>x.put ps args):=rfl
   rw[hsh,Ty.JL,Bool.and_eq_true];refine⟨QmU t _ _ (fun _=>rfl) (fun _=>rfl) (fun i _ hb=>?_) (QO hr),?_⟩
   ·unfold JQ at hb ⊢;simp only[Bool.and_eq_true]at hb ⊢;exact⟨QiU ps args hb.1,hb.2⟩
   ·rw[List.all_eq_true];intro x hx;unfold Ty.inner Ty.shell at hx;rcases List.mem_append.1 hx with hx | hx
    ·obtain⟨y,hy,rfl⟩:=List.mem_map.1 (by simpa using hx:x∈t.kids.map fun x=>x.put ps args)
     exact QeL ps args ha n y (by have:=Ty.Xa hy; omega) (Qs hr (List.mem_append_left _ hy))
    ·split at hx
     ·rename_i hc;obtain⟨i,hi,rfl⟩:=List.mem_map.1 hx;obtain⟨j,hj,rfl⟩:=List.mem_map.1 (by simpa using hi:i∈t.items.map fun x=>x.QR (x.of.put ps args))
      have hc':t.comp=true:=hc;refine QeL ps args ha n j.of (by have:=Ty.mem_of hj; omega) (Qs hr ?_)
      unfold Ty.inner;rw[hc'];exact List.mem_append_right _ (List.mem_map_of_mem hj)
     ·cases hx
def Md.fm(m:Md):Prop:=∀d∈m.defs,d.of.Qz Qk=true
theorem QoR (m:Md)(hf:m.fm){t u:Ty}(ht:t.Qz Qk=true)(h:Ja m t=some u):u.Qz Qk=true:=by
 unfold Ja at h;split at h
 ·cases h
 ·rename_i d hd;have hdm:=List.mem_of_find?_eq_some hd
  split at h
  ·cases h
  ·split at h
   ·cases h; exact hf d hdm
   ·split at h
    ·cases h;exact QeL _ _ (fun a ha=>Qs ht (List.mem_append_left _ ha)) _ _ (Nat.le_refl _) (hf d hdm)
    ·cases h
theorem Qer (m:Md)(p:Ty->Prop)(hs: ∀t u,p t->Ja m t=some u->p u): ∀(n:Nat) (t b:Ty),p t->beh m n t=some b->p b/\b.kind≠10
 | 0,t,b,_,h=>by cases h
 | n+1,t,b,hp,h=>by
  unfold beh at h;split at h
  ·cases hst:Ja m t with
   | none=>rw[hst]at h; cases h
   | some u=>rw[hst]at h; exact Qer m p hs n u b (hs t u hp hst) h
  ·rename_i q; cases h; exact⟨hp,q⟩
theorem Qes (m:Md)(hm:m.ok)(hf:m.fm){t b:Ty}(ht:t.wid<=67108864)(hr:t.Qz Qk=true)(h:beh m 21 t=some b):b.wid<=67108864/\b.Qz Qk=true/\b.kind≠10:=by
 have h1:=Qer m (fun t=>t.wid<=67108864/\t.Qz Qk=true) (fun t u hp hs=>⟨QtI m hm hp.1 hs,QoR m hf hp.2 hs⟩) 21 t b ⟨ht,hr⟩ h
 exact⟨h1.1.1,h1.1.2,h1.2⟩
end Go.Proofs.YtflbneepngjglaaGreatDoor
