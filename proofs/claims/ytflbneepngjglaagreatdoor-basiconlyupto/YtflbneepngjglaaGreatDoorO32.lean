/- References that name something, items that differ in name: the reference's way. -/
import Derived.Test.YtflbneepngjglaaGreatDoorO31
import Derived.Test.YtflbneepngjglaaGreatDoorO30
set_option linter.all false
namespace Go.Proofs.YtflbneepngjglaaGreatDoor
open Go Go.Avm
theorem QcD (s:List UInt8)(i q:Nat):ZA (s.take i) q=if q<i then ZA s q else 0:=by
 unfold ZA;rw[List.getElem?_take]
 by_cases h:q<i
 ·rw[if_pos h,if_pos h]
 ·rw[if_neg h,if_neg h]; simp
theorem QkI (s:List UInt8)(i a:Nat): ∀k,Xs (s.take (i+1)) a k=Xs (s.take i) a k+(if a<=i/\i<a+k then ZA s i*2^(a+k-1-i)else 0)
 | 0=>by simp[Xs]; intro h1 h2; omega
 | k+1=>by
  rw[Xs,Xs,QkI s i a k,QcD,QcD];by_cases h1:a<=i/\i<a+k
  ·have c2: ¬a+k<i+1:=by omega
   have c3: ¬a+k<i:=by omega
   have c4:a<=i/\i<a+(k+1):=by omega
   rw[if_pos h1,if_neg c2,if_neg c3,if_pos c4,show a+(k+1)-1-i=a+k-1-i+1 by omega,Nat.pow_succ]
   generalize 2^(a+k-1-i)=x;have e:ZA s i*(x*2)=2*(ZA s i*x):=by rw[←Nat.mul_assoc,Nat.mul_comm]
   omega
  ·rw[if_neg h1];by_cases h2:i=a+k
   ·subst h2;have c2:a+k<a+k+1:=by omega
    have c3: ¬a+k<a+k:=by omega
    have c4:a<=a+k/\a+k<a+(k+1):=by omega
    rw[if_pos c2,if_neg c3,if_pos c4,show a+(k+1)-1-(a+k)=0 by omega]
    simp
   ·have c4: ¬(a<=i/\i<a+(k+1)):=by omega
    rw[if_neg c4];by_cases h3:a+k<i
    ·have c2:a+k<i+1:=by omega
     rw[if_pos c2,if_pos h3];omega
    ·have c2: ¬a+k<i+1:=by omega
     rw[if_neg c2,if_neg h3];omega
theorem QkJ (s:List UInt8)(i a:Nat)(ha:a<=i): ∀k,i<=a+k-> ∃y,Xs (s.take i) a k=y*2^(a+k-i)
 | 0,h=>⟨Xs (s.take i) a 0,by rw[show a+0-i=0 by omega]; simp⟩
 | k+1,h=>by
  by_cases q:i=a+(k+1)
  ·exact⟨Xs (s.take i) a (k+1),by rw[←q]; simp⟩
  ·obtain⟨y,hy⟩:=QkJ s i a ha k (by omega)
   refine⟨y,?_⟩
   rw[Xs,hy,QcD,if_neg (by omega),show a+(k+1)-i=a+k-i+1 by omega,Nat.pow_succ]
   generalize 2^(a+k-i)=x;have e:y*(x*2)=2*(y*x):=by rw[←Nat.mul_assoc,Nat.mul_comm]
   omega
def Yz (s:List UInt8)(n i:Nat):List Int:=(List.range n).map fun j=>((Xs (s.take i) (8*j) 8:Nat):Int)
theorem Qsh (s:List UInt8):Yz s ((s.length+7)/8) s.length=Yy s:=by
 unfold Yz Yy;rw[List.take_length]
theorem Qpu (s:List UInt8)(n:Nat):Yz s n 0=List.replicate n 0:=by
 unfold Yz
 have: ∀a k,Xs (s.take 0) a k=0:=by
  intro a k
  induction k with
  | zero=>rfl
  | succ k ih=>rw[Xs,ih,QcD,if_neg (by omega)]
 refine List.ext_getElem? fun j=>?_
 rw[List.getElem?_map,List.getElem?_replicate]
 by_cases h:j<n
 ·rw[List.getElem?_range h,if_pos h]; simp only[Option.map_some,this]; rfl
 ·rw[List.getElem?_eq_none (by simp; omega),if_neg h]; rfl
theorem Qpt (s:List UInt8)(n i:Nat):Yz s n (i+1)=(Yz s n i).set (i/8) (((Xs (s.take i) (8*(i/8)) 8+ZA s i*2^(7-i%8):Nat)):Int):=by
 unfold Yz;refine List.ext_getElem? fun j=>?_
 by_cases h:j<n
 ·rw[List.getElem?_map,List.getElem?_range h]
  simp only[Option.map_some];rw[QkI];by_cases q:i/8=j
  ·rw[q,List.getElem?_set_self (by simpa using h),if_pos (by omega),show 8*j+8-1-i=7-i%8 by omega]
  ·rw[List.getElem?_set_ne q,List.getElem?_map,List.getElem?_range h,if_neg (by omega)]
   rfl
 ·rw[List.getElem?_eq_none (by simp; omega),List.getElem?_eq_none (by simp; omega)]
theorem QyF (s:List UInt8)(i:Nat):(Xs (s.take i) (8*(i/8)) 8||| ZA s i*2^(7-i%8))=Xs (s.take i) (8*(i/8)) 8+ZA s i*2^(7-i%8):=by
 obtain⟨y,hy⟩:=QkJ s i (8*(i/8)) (by omega) 8 (by omega)
 rw[hy,show 8*(i/8)+8-i=7-i%8+1 by omega]
 have hb:=Qeq s i
 have hlt:ZA s i*2^(7-i%8)<2^(7-i%8+1):=by
  rw[Nat.pow_succ];have hp:0<2^(7-i%8):=Nat.pow_pos (by omega)
  generalize 2^(7-i%8)=x at*;have:ZA s i*x<=1*x:=Nat.mul_le_mul_right x hb;omega
 have:=Nat.shiftLeft_add_eq_or_of_lt hlt y;rw[Nat.shiftLeft_eq]at this;exact this.symm
end Go.Proofs.YtflbneepngjglaaGreatDoor
namespace Go.Proofs.YtflbneepngjglaaGreatDoor
open Go Go.Avm
theorem Qgc {α:Type}(p:α->Bool)(l:List α):(idxOf p l= -1/\l.find? p=none)\/ ∃(j:Nat) (x:α),idxOf p l=j/\l[j]? =some x/\l.find? p=some x:=by
 unfold idxOf;cases hq:l.findIdx? p with
 | none=>
  left
  refine⟨rfl,?_⟩
  rw[List.findIdx?_eq_none_iff]at hq
  rw[List.find?_eq_none]
  intro x hx; simp[hq x hx]
 | some j=>
  right
  rw[List.findIdx?_eq_some_iff_getElem]at hq
  obtain⟨hj,h1,h2⟩:=hq;refine⟨j,l[j],rfl,List.getElem?_eq_getElem hj,?_⟩
  rw[List.find?_eq_some_iff_getElem]
  exact⟨h1,j,hj,rfl,fun k hk=>by simpa using h2 k hk⟩
theorem QpF (m:Md)(ps:List ByteArray)(t:Ty)(ht:t.wid<=67108864)(h:Avm.H): ∃g,Qa (evC (Qb cfg) Qa cfg.pol h.length h.length Qfm) [1,3,5,7] [(1,.isl (ps.map .str)),(3,.ptr h.length 0 2 0 0),(5,.ptr (h.length+1) 0 8 0 0),(7,.int .i64 (0:Nat))] (h++([.arr 0 2 [m.enc],.arr 0 8 [t.enc]]++ []))=some (if(t.items).all JF=true then(.exit 0,[(1,.isl (ps.map .str)),(3,.ptr h.length 0 2 0 0),(5,.ptr (h.length+1) 0 8 0 0),(7,.int .i64 (t.items).length)],h++([.arr 0 2 [m.enc],.arr 0 8 [t.enc]]++g))else(.ret,[(6,.bool false)],h++([.arr 0 2 [m.enc],.arr 0 8 [t.enc]]++g))):=by
 have hl:(t.items).length<=67108864:=Nat.le_trans t.Qe ht
 have hlp:=Qg (γ:=Avm.H) (f:=evC (Qb cfg) Qa cfg.pol h.length h.length Qfm) (keep:=[1,3,5,7]) (t.items) (fun _ _=>True)
      (fun i _=>[(1,.isl (ps.map .str)),(3,.ptr h.length 0 2 0 0),(5,.ptr (h.length+1) 0 8 0 0),(7,.int .i64 i)]) (fun _ g=>h++([.arr 0 2 [m.enc],.arr 0 8 [t.enc]]++g))
      (fun _ r o=>∃g,o=if r.all JF=true then(.exit 0,[(1,.isl (ps.map .str)),(3,.ptr h.length 0 2 0 0),(5,.ptr (h.length+1) 0 8 0 0),(7,.int .i64 (t.items).length)],h++([.arr 0 2 [m.enc],.arr 0 8 [t.enc]]++g))else(.ret,[(6,.bool false)],h++([.arr 0 2 [m.enc],.arr 0 8 [t.enc]]++g))) ?_ ?_ [] trivial
 ·obtain⟨o,h1,g,h2⟩:=hlp;exact⟨g,h2▸h1⟩
 ·intro i x r g hd hi hx _ K hK;have hw:=Qd (n:=i+1) (by omega)
  simp at hw;have hm:x∈(t.items):=by rw[←hx]; exact List.getElem_mem hi
  have hsm:=QrQ x.name (by have:=Ty.Jf hm; have:=x.Qbl; omega)
  cases hv:JF x
  ·refine⟨_,?_,g,by simp only[List.all_cons,hv,Bool.false_and,Bool.false_eq_true,if_false]; rfl⟩
   unfold JF at hv;simp only[hv]at hsm;simp[Qfm,hi,hx,hsm,Md.enc,]
  ·obtain⟨o,h4,g2,h5⟩:=hK g trivial;refine⟨o,?_,g2,by simp only[List.all_cons,hv,Bool.true_and]; exact h5⟩
   unfold JF at hv;simp only[hv]at hsm;simp[Md.enc]at h4;simp[Qfm,hi,hx,hsm,Md.enc,hw,h4]
 ·intro g K _;refine⟨_,?_,g,by simp only[List.all_nil,if_true]; rfl⟩
  simp[Md.enc,Qfm]
theorem Qvf (m:Md)(ps:List ByteArray)(hm:m.ok)(hp:ps.length<=67108864)(t:Ty)(ht:t.wid<=67108864)(ws:Nat)(h:Avm.H):Qb cfg ws 216 [m.enc,.isl (ps.map .str),t.enc] h=some (.bool (JI m ps t),h):=by
 have h2:=Qcd t.name (Nat.le_trans t.Qbl ht);have h3:=QpJ ps t.name hp;have h4:=QgG m t.name hm.len;refine Qc rfl rfl ?_
 simp[Md.enc]at h4;by_cases q0:t.kind=3\/t.kind=8\/t.kind=9
 ·have hi:t.Qh=t.items:=by rcases q0 with q | q | q<;>simp[Ty.Qh,Ty.ZS,q]
  have q10:decide (t.kind=10)=false:=by rcases q0 with q | q | q<;>simp[q]
  obtain⟨g,hl⟩:=QpF m ps t ht h;unfold JI;rw[hi,q10];cases q1:t.items.all JF<;>rw[q1]at hl<;>simp[Md.enc]at hl<;>rcases q0 with q | q | q<;>simp[q]at hl<;>simp[Md.enc,Qqm,Qqb,hl,q]
 ·have n3: ¬t.kind=3:=fun e=>q0 (.inl e)
  have n8: ¬t.kind=8:=fun e=>q0 (.inr (.inl e))
  have n9: ¬t.kind=9:=fun e=>q0 (.inr (.inr e))
  have hi:t.Qh=[]:=by simp[Ty.Qh,Ty.ZS,n3,n8,n9]
  unfold JI Qum;rw[hi];by_cases q2:t.kind=10
  ·cases q4:inS ps t.name
   ·rw[q4]at h3;cases q3:Xe t.name
    ·rw[q3]at h2;rcases Qgc (isD t.name) m.defs with⟨k1,k2⟩ | ⟨j,x,k1,k2,k3⟩<;>rw[k1]at h4<;>simp[Md.enc,Qqm,Qqb,q2,h2,h3,h4]
    ·rw[q3]at h2;rcases Qgc (isD t.name) m.defs with⟨k1,k2⟩ | ⟨j,x,k1,k2,k3⟩
     ·rw[k1]at h4;simp[Md.enc,Qqm,Qqb,q2,h2,h3,h4,k2]
     ·rw[k1]at h4;simp[Md.enc,Qqm,Qqb,q2,h2,h3,h4,k2,k3,Xb]
   ·rw[q4]at h3;have e0:(((t.kids.length:Nat):Int) == 0)=decide (t.kids=[]):=by rw[QiE]; simp
    simp[Md.enc,Qqm,Qqb,q2,h3,e0]
  ·simp[Md.enc,Qqm,Qqb,q2,n3,n8,n9]
theorem QpA (m:Md)(ps:List ByteArray)(hmk:m.ok)(hp:ps.length<=67108864)(t:Ty)(ht:t.wid<=67108864)(hb:t.nodes<=67108864)(h:Avm.H): ∃g,Qa (evC (Qb cfg) Qa cfg.pol h.length h.length Qfy) [1,3,7,8] [(1,.isl (ps.map .str)),(3,.ptr h.length 0 2 0 0),(7,.isl (t.QZ.map Ty.enc)),(8,.int .i64 (0:Nat))] (h++([.arr 0 2 [m.enc],.arr 0 8 [t.enc]]++ []))=some (if(t.QZ).all (JI m ps)=true then(.exit 0,[(1,.isl (ps.map .str)),(3,.ptr h.length 0 2 0 0),(7,.isl (t.QZ.map Ty.enc)),(8,.int .i64 (t.QZ).length)],h++([.arr 0 2 [m.enc],.arr 0 8 [t.enc]]++g))else(.ret,[(6,.bool false)],h++([.arr 0 2 [m.enc],.arr 0 8 [t.enc]]++g))):=by
 have hl:(t.QZ).length<=67108864:=(by have:=JH _ t (Nat.le_refl _); omega)
 have hlp:=Qg (γ:=Avm.H) (f:=evC (Qb cfg) Qa cfg.pol h.length h.length Qfy) (keep:=[1,3,7,8]) (t.QZ) (fun _ _=>True)
      (fun i _=>[(1,.isl (ps.map .str)),(3,.ptr h.length 0 2 0 0),(7,.isl (t.QZ.map Ty.enc)),(8,.int .i64 i)]) (fun _ g=>h++([.arr 0 2 [m.enc],.arr 0 8 [t.enc]]++g))
      (fun _ r o=>∃g,o=if r.all (JI m ps)=true then(.exit 0,[(1,.isl (ps.map .str)),(3,.ptr h.length 0 2 0 0),(7,.isl (t.QZ.map Ty.enc)),(8,.int .i64 (t.QZ).length)],h++([.arr 0 2 [m.enc],.arr 0 8 [t.enc]]++g))else(.ret,[(6,.bool false)],h++([.arr 0 2 [m.enc],.arr 0 8 [t.enc]]++g))) ?_ ?_ [] trivial
 ·obtain⟨o,h1,g,h2⟩:=hlp;exact⟨g,h2▸h1⟩
 ·intro i x r g hd hi hx _ K hK;have hw:=Qd (n:=i+1) (by omega)
  simp at hw;have hm:x∈(t.QZ):=by rw[←hx]; exact List.getElem_mem hi
  have hkn:=Qvf m ps hmk hp x (Nat.le_trans (QdW _ t (Nat.le_refl _) x hm).1 ht);cases hv:(JI m ps) x
  ·refine⟨_,?_,g,by simp only[List.all_cons,hv,Bool.false_and,Bool.false_eq_true,if_false]; rfl⟩
   simp only[hv]at hkn;simp[Md.enc]at hkn;simp[Qfy,hi,hx,hkn,Md.enc,]
  ·obtain⟨o,h4,g2,h5⟩:=hK g trivial;refine⟨o,?_,g2,by simp only[List.all_cons,hv,Bool.true_and]; exact h5⟩
   simp only[hv]at hkn;simp[Md.enc]at hkn h4;simp[Qfy,hi,hx,hkn,Md.enc,hw,h4]
 ·intro g K _;refine⟨_,?_,g,by simp only[List.all_nil,if_true]; rfl⟩
  simp[Md.enc,Qfy]
theorem Qno (m:Md)(ps:List ByteArray)(hm:m.ok)(hp:ps.length<=67108864)(t:Ty)(ht:t.wid<=67108864)(hb:t.nodes<=67108864)(ws:Nat)(h:Avm.H):Qb cfg ws 135 [m.enc,.isl (ps.map .str),t.enc] h=some (.bool (t.Qz (JI m ps)),h):=by
 have h1:=QaD _ t (Nat.le_refl _) ht hb;obtain⟨g,hl⟩:=QpA m ps hm hp t ht hb h;rw[YV _ _ t (Nat.le_refl _)]at hl;refine Qc rfl rfl ?_
 simp at h1;cases q:t.Qz (JI m ps)<;>rw[q]at hl<;>simp[Md.enc]at hl<;>simp[Md.enc,QDF,QCN,h1,hl]
def Qbg (x:Ty):Bool:=distinct (x.Qh.map It.name)
theorem QtH (l:List ByteArray):strs (l.map .str)=some l:=by
 induction l with
 | nil=>rfl
 | cons x l ih=>simp[strs,ih]
theorem QgX (v:AV)(l:List ByteArray)(hl:l.length<=67108864)(ws:Nat)(h:Avm.H)(he:Zv h v=some (l.map .str)):Qb cfg ws 148 [v] h=some (.bool (!distinct l),h):=by
 refine QN rfl ?_
 simp only[QgY,he,QtH,hl,if_true]
theorem Qoc (t:Ty)(ht:t.wid<=67108864)(h:Avm.H): ∃v g,Qy h.length 1 1 g (([]++(t.Qh).map It.name).map AV.str) v/\Qa (evC (Qb cfg) Qa cfg.pol h.length h.length Qiv) [3,7,8,9] [(3,.osl (h.length+1) 0 1 0 0),(7,.isl (t.Qh.map It.enc)),(8,.int .i64 t.Qh.length),(9,.int .i64 (0:Nat))] (h++([.arr 0 8 [t.enc]]++ [.arr 0 1 []]))=some (.exit 0,[(3,v),(7,.isl (t.Qh.map It.enc)),(8,.int .i64 t.Qh.length),(9,.int .i64 (t.Qh).length)],h++([.arr 0 8 [t.enc]]++g)):=by
 have hl:(t.Qh).length<=67108864:=(by have:=QbC t; have:=t.Qe; omega)
 have hlp:=Qg (γ:=AV×Avm.H) (f:=evC (Qb cfg) Qa cfg.pol h.length h.length Qiv) (keep:=[3,7,8,9]) (t.Qh)
      (fun i c=>Qy h.length 1 1 c.2 (([]++((t.Qh).take i).map It.name).map AV.str) c.1)
      (fun i c=>[(3,c.1),(7,.isl (t.Qh.map It.enc)),(8,.int .i64 t.Qh.length),(9,.int .i64 i)]) (fun _ g=>h++([.arr 0 8 [t.enc]]++g.2))
      (fun _ _ o=>∃v g,Qy h.length 1 1 g (([]++(t.Qh).map It.name).map AV.str) v/\o=(.exit 0,[(3,v),(7,.isl (t.Qh.map It.enc)),(8,.int .i64 t.Qh.length),(9,.int .i64 (t.Qh).length)],h++([.arr 0 8 [t.enc]]++g))) ?_ ?_ (.osl (h.length+1) 0 1 0 0,[.arr 0 1 []]) (.inr ⟨0,0,by simp,by simp⟩)
 ·obtain⟨o,hl,v,g,hI,ho⟩:=hlp;exact⟨v,g,hI,ho▸hl⟩
 ·intro i x r c hd hi hx hI K hK;have hw:=Qd (n:=i+1) (by omega)
  simp at hw;have hm:x∈(t.Qh):=by rw[←hx]; exact List.getElem_mem hi
  have htk:(t.Qh).take (i+1)=(t.Qh).take i++ [x]:=by rw[List.take_succ_eq_append_getElem hi,hx]
  rw[htk]at hK;obtain⟨v,g⟩:=c;dsimp only at hI;simp[-Prod.exists,Qiv,hi,hx,hw,QS,appended,];generalize hA:Ju _ _ _ _ _ _ _=r;obtain⟨v',g',rfl,h2⟩:=Qy.use (pre:=[_]) hI hA (by simp; omega) (by simp)
  obtain⟨o,h4,h5⟩:=hK (v',g') (by simpa using h2)
  refine⟨o,?_,by simpa using h5⟩
  simp at h4;simp[h4,hw]
 ·intro c K hI;refine⟨_,?_,c.1,c.2,by simpa using hI,rfl⟩
  simp[Qiv]
theorem QpT (t:Ty)(ht:t.wid<=67108864)(ws:Nat)(h:Avm.H):Qb cfg ws 155 [t.enc] h=some (.bool (Qbg t),h):=by
 have h1:=QhQ t;have hlen:=QbC t;have hwi:=t.Qe;obtain⟨v,g,hI,hl⟩:=Qoc t ht h;simp only[List.nil_append]at hI;have h2:=fun ws=>QgX v (t.Qh.map It.name) (by simp; omega) ws _ (Qy.els (pre:=[.arr 0 8 [t.enc]]) hI)
 refine Qc rfl rfl ?_
 simp at h1 hl h2;simp[QDt,QCB,h1,hl,h2,Qbg]
theorem Qkq (t:Ty)(hw0:t.wid<=67108864)(hb:t.nodes<=67108864)(ws:Nat)(h:Avm.H):Qb cfg ws 81 [t.enc] h=some (.bool (t.Qz Qbg),h):=by
 have h2:=fun ws h=>YG (cap':=[]) (k:=0) (.inl rfl) rfl _ t (Nat.le_refl _) hw0 hb (fun x _ hx _ ws h'=>by simpa using QpT x (Nat.le_trans hx hw0) ws h') ws h [] rfl
 refine Qc rfl rfl ?_
 simp at h2;simp[F81,c81,h2]
def Qbs :List ByteArray->List ByteArray->Bool
 | _,[]=>false
 | pre,x::r=>pre.any (fun y=>eqS x y)||Qbs (pre++ [x]) r
theorem Qyr {α:Type}(f g:α->Bool): ∀l:List α,(l.any fun z=>f z||g z)=(l.any f||l.any g)
 | []=>rfl
 | x::l=>by simp only[List.any_cons,Qyr f g l]; cases f x<;>cases g x<;>cases l.any f<;>cases l.any g<;>rfl
theorem Qmy {α:Type}(f:α->Bool): ∀l:List α,(l.all fun z=>!f z)= !l.any f
 | []=>rfl
 | x::l=>by simp only[List.any_cons,List.all_cons,Qmy f l,Bool.not_or]
theorem Qlq : ∀(l pre:List ByteArray),Qbs pre l=(l.any (fun x=>pre.any (fun y=>eqS x y))|| !distinct l)
 | [],pre=>rfl
 | x::r,pre=>by
  rw[Qbs,Qlq r (pre++ [x]),distinct,List.any_cons]
  have h1:(r.any fun z=>(pre++ [x]).any fun y=>eqS z y)=((r.any fun z=>pre.any fun y=>eqS z y)||r.any fun z=>eqS z x):=by
   rw[←Qyr]; congr 1; funext z; simp
  have h2:(r.all fun y=>!(x.toList == y.toList))= !(r.any fun z=>eqS z x):=by
   rw[←Qmy]; congr 1; funext y
   have:(x.toList == y.toList)=eqS y x:=by
    unfold eqS;by_cases e:y.toList=x.toList
    ·simp[e]
    ·have e2: ¬x.toList=y.toList:=fun q=>e q.symm
     simp[e,e2]
   rw[this]
  rw[h1,h2];cases pre.any (fun y=>eqS x y)<;>cases(r.any fun z=>pre.any fun y=>eqS z y)<;>cases(r.any fun z=>eqS z x)<;>cases distinct r<;>rfl
theorem Qld (t:Ty)(ht:t.wid<=67108864)(k:Nat)(hk:k<t.items.length)(z:It)(hz:t.items[k]? =some z)(h g0:Avm.H): ∃g,Qa (evC (Qb cfg) Qa cfg.pol h.length h.length Qfl) [1,3,4] [(1,.ptr h.length 0 8 0 0),(3,.int .i64 k),(4,.int .i64 (0:Nat))] (h++([.arr 0 8 [t.enc]]++g0))=some (if(t.items.take k).all (fun y=>!eqS z.name y.name)=true then(.exit 2,[(1,.ptr h.length 0 8 0 0),(3,.int .i64 k),(4,.int .i64 (t.items.take k).length)],h++([.arr 0 8 [t.enc]]++g))else(.ret,[(2,.bool true)],h++([.arr 0 8 [t.enc]]++g))):=by
 have hl:(t.items.take k).length<=67108864:=(by have:=t.Qe; simp; omega)
 have hlp:=Qg (γ:=Avm.H) (f:=evC (Qb cfg) Qa cfg.pol h.length h.length Qfl) (keep:=[1,3,4]) (t.items.take k) (fun _ _=>True)
      (fun i _=>[(1,.ptr h.length 0 8 0 0),(3,.int .i64 k),(4,.int .i64 i)]) (fun _ g=>h++([.arr 0 8 [t.enc]]++g))
      (fun _ r o=>∃g,o=if r.all (fun y=>!eqS z.name y.name)=true then(.exit 2,[(1,.ptr h.length 0 8 0 0),(3,.int .i64 k),(4,.int .i64 (t.items.take k).length)],h++([.arr 0 8 [t.enc]]++g))else(.ret,[(2,.bool true)],h++([.arr 0 8 [t.enc]]++g))) ?_ ?_ g0 trivial
 ·obtain⟨o,h1,g,h2⟩:=hlp;exact⟨g,h2▸h1⟩
 ·intro i x r g hd hi hx _ K hK;have hw:=Qd (n:=i+1) (by omega)
  simp at hw;have hm:x∈(t.items.take k):=by rw[←hx]; exact List.getElem_mem hi
  have hik:i<k:=by simp at hi; omega
  have hik2:i<t.items.length:=by omega
  have hx2:t.items[i]? =some x:=by rw[List.getElem_take]at hx; rw[List.getElem?_eq_getElem hik2,hx]
  cases hv:(fun y=>!eqS z.name y.name) x
  ·refine⟨_,?_,g,by simp only[List.all_cons,hv,Bool.false_and,Bool.false_eq_true,if_false]; rfl⟩
   simp[eqS]at hv;simp[Qfl,hi,hx,hik,hz,hx2,hv]
  ·obtain⟨o,h4,g2,h5⟩:=hK g trivial;refine⟨o,?_,g2,by simp only[List.all_cons,hv,Bool.true_and]; exact h5⟩
   simp at h4;simp[eqS]at hv;simp[Qfl,hi,hx,hik,hz,hx2,hv,hw,h4]
 ·intro g K _;refine⟨_,?_,g,by simp only[List.all_nil,if_true]; rfl⟩
  have hmin:(t.items.take k).length=k:=by simp; omega
  simp[hmin,Qfl]
theorem Qlc (t:Ty)(ht:t.wid<=67108864)(h:Avm.H): ∃g,Qa (evC (Qb cfg) Qa cfg.pol h.length h.length Qfk) [1,3] [(1,.ptr h.length 0 8 0 0),(3,.int .i64 (0:Nat))] (h++([.arr 0 8 [t.enc]]++ []))=
    some (if Qbs [] (t.items.map It.name)=true then(.ret,[(2,.bool true)],h++([.arr 0 8 [t.enc]]++g))else(.exit 0,[(1,.ptr h.length 0 8 0 0),(3,.int .i64 t.items.length)],h++([.arr 0 8 [t.enc]]++g))):=by
 have hlp:=Qg (γ:=Avm.H) (f:=evC (Qb cfg) Qa cfg.pol h.length h.length Qfk) (keep:=[1,3]) t.items (fun _ _=>True)
  (fun i _=>[(1,.ptr h.length 0 8 0 0),(3,.int .i64 i)]) (fun _ g=>h++([.arr 0 8 [t.enc]]++g))
  (fun i r o=>∃g,o=if Qbs ((t.items.take i).map It.name) (r.map It.name)=true then(.ret,[(2,.bool true)],h++([.arr 0 8 [t.enc]]++g))else(.exit 0,[(1,.ptr h.length 0 8 0 0),(3,.int .i64 t.items.length)],h++([.arr 0 8 [t.enc]]++g))) ?_ ?_ [] trivial
 ·obtain⟨o,h1,g,h2⟩:=hlp;exact⟨g,by rw[h1,h2]; simp⟩
 ·intro i x r g0 hd hi hx _ K hK;have hwi:=t.Qe;have hw:=Qd (n:=i+1) (by omega)
  simp at hw;obtain⟨g,hin⟩:=Qld t ht i hi x (by rw[List.getElem?_eq_getElem hi,hx]) h g0
  have hany:((t.items.take i).all fun y=>!eqS x.name y.name)= !((t.items.take i).map It.name).any fun y=>eqS x.name y:=by
   rw[Qmy,List.any_map]; rfl
  rw[hany]at hin;have hmin:min i t.items.length=i:=by omega
  have htk:t.items.take (i+1)=t.items.take i++ [x]:=by rw[List.take_succ_eq_append_getElem hi,hx]
  rw[htk]at hK;rw[List.map_cons,Qbs];cases q:((t.items.take i).map It.name).any fun y=>eqS x.name y
  ·rw[q]at hin;obtain⟨o,h4,g2,h5⟩:=hK g trivial;simp only[List.map_append,List.map_cons,List.map_nil]at h5;refine⟨o,?_,g2,by simpa only[Bool.false_or]using h5⟩
   simp[hmin]at hin;simp at h4;simp[Qfk,hi,hin,hw,h4]
  ·rw[q]at hin;refine⟨_,?_,g,by simp only[Bool.true_or,if_true]; rfl⟩
   simp at hin;simp[Qfk,hi,hin]
 ·intro g K _;refine⟨_,?_,g,by simp only[List.map_nil,Qbs,Bool.false_eq_true,if_false]; rfl⟩
  simp[Qfk]
theorem QrO (t:Ty)(ht:t.wid<=67108864)(ws:Nat)(h:Avm.H):Qb cfg ws 217 [t.enc] h=some (.bool (!Qbg t),h):=by
 refine Qc rfl rfl ?_
 unfold Qbg;by_cases q0:t.kind=3\/t.kind=8\/t.kind=9
 ·have hi:t.Qh=t.items:=by rcases q0 with q | q | q<;>simp[Ty.Qh,Ty.ZS,q]
  obtain⟨g,hl⟩:=Qlc t ht h;have he:=Qlq (t.items.map It.name) [];have hz:((t.items.map It.name).any fun x=>([]:List ByteArray).any fun y=>eqS x y)=false:=by simp
  rw[hz,Bool.false_or]at he;rw[he]at hl;rw[hi];cases q1:distinct (t.items.map It.name)<;>rw[q1]at hl<;>simp at hl<;>rcases q0 with q | q | q<;>simp[q]at hl<;>simp[QAw,QzQ,hl,q]
 ·have n3: ¬t.kind=3:=fun e=>q0 (.inl e)
  have n8: ¬t.kind=8:=fun e=>q0 (.inr (.inl e))
  have n9: ¬t.kind=9:=fun e=>q0 (.inr (.inr e))
  have hi:t.Qh=[]:=by simp[Ty.Qh,Ty.ZS,n3,n8,n9]
  rw[hi];simp[QAw,QzQ,n3,n8,n9,distinct]
theorem Qsk (t:Ty)(ht:t.wid<=67108864)(hb:t.nodes<=67108864)(h:Avm.H): ∃g,Qa (evC (Qb cfg) Qa cfg.pol h.length h.length Qfx) [3,4] [(3,.isl (t.QZ.map Ty.enc)),(4,.int .i64 (0:Nat))] (h++([.arr 0 8 [t.enc]]++ []))=some (if(t.QZ).all Qbg=true then(.exit 0,[(3,.isl (t.QZ.map Ty.enc)),(4,.int .i64 (t.QZ).length)],h++([.arr 0 8 [t.enc]]++g))else(.ret,[(2,.bool false)],h++([.arr 0 8 [t.enc]]++g))):=by
 have hl:(t.QZ).length<=67108864:=(by have:=JH _ t (Nat.le_refl _); omega)
 have hlp:=Qg (γ:=Avm.H) (f:=evC (Qb cfg) Qa cfg.pol h.length h.length Qfx) (keep:=[3,4]) (t.QZ) (fun _ _=>True)
      (fun i _=>[(3,.isl (t.QZ.map Ty.enc)),(4,.int .i64 i)]) (fun _ g=>h++([.arr 0 8 [t.enc]]++g))
      (fun _ r o=>∃g,o=if r.all Qbg=true then(.exit 0,[(3,.isl (t.QZ.map Ty.enc)),(4,.int .i64 (t.QZ).length)],h++([.arr 0 8 [t.enc]]++g))else(.ret,[(2,.bool false)],h++([.arr 0 8 [t.enc]]++g))) ?_ ?_ [] trivial
 ·obtain⟨o,h1,g,h2⟩:=hlp;exact⟨g,h2▸h1⟩
 ·intro i x r g hd hi hx _ K hK;have hw:=Qd (n:=i+1) (by omega)
  simp at hw;have hm:x∈(t.QZ):=by rw[←hx]; exact List.getElem_mem hi
  have hkn:=QrO x (Nat.le_trans (QdW _ t (Nat.le_refl _) x hm).1 ht);cases hv:Qbg x
  ·refine⟨_,?_,g,by simp only[List.all_cons,hv,Bool.false_and,Bool.false_eq_true,if_false]; rfl⟩
   simp only[hv]at hkn;simp at hkn;simp[Qfx,hi,hx,hkn,]
  ·obtain⟨o,h4,g2,h5⟩:=hK g trivial;refine⟨o,?_,g2,by simp only[List.all_cons,hv,Bool.true_and]; exact h5⟩
   simp at h4;simp only[hv]at hkn;simp at hkn;simp[Qfx,hi,hx,hkn,hw,h4]
 ·intro g K _;refine⟨_,?_,g,by simp only[List.all_nil,if_true]; rfl⟩
  simp[Qfx]
theorem QqL (t:Ty)(ht:t.wid<=67108864)(hb:t.nodes<=67108864)(ws:Nat)(h:Avm.H):Qb cfg ws 136 [t.enc] h=some (.bool (t.Qz Qbg),h):=by
 have h1:=QaD _ t (Nat.le_refl _) ht hb;obtain⟨g,hl⟩:=Qsk t ht hb h;rw[YV _ _ t (Nat.le_refl _)]at hl;refine Qc rfl rfl ?_
 simp at h1;cases q:t.Qz Qbg<;>rw[q]at hl<;>simp at hl<;>simp[QDE,QCM,h1,hl]
end Go.Proofs.YtflbneepngjglaaGreatDoor
