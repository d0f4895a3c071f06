/- The document's SameType. -/
import Derived.Test.YtflbneepngjglaaGreatDoorO46
import Derived.Test.YtflbneepngjglaaGreatDoorO28
set_option linter.all false
namespace Go.Proofs.YtflbneepngjglaaGreatDoor
open Go Go.Avm
def JD (x:It):Ty×Val:=(x.of,x.d0)
def Recv (h:Avm.H)(P:AV)(m:Md)(xs:List It):Prop:=
 ∃b s,P= .ptr b 0 3 0 0/\b<h.length/\h[b]? =some (.arr 0 3 [.agg [.str m.name,.isl (m.defs.map Df.enc),s]])/\
  (s= .isl (xs.map It.enc)\/ ∃c ver,c<h.length/\s= .osl c ver 12 0 xs.length/\h[c]? =some (.arr ver 12 (xs.map It.enc)))
theorem Recv.more{h:Avm.H}{P:AV}{m:Md}{xs:List It}(R:Recv h P m xs)(g:Avm.H):Recv (h++g) P m xs:=by
 obtain⟨b,s,h1,h2,h3,h4⟩:=R;refine⟨b,s,h1,by simp; omega,by rw[List.getElem?_append_left h2]; exact h3,?_⟩
 rcases h4 with h4 | ⟨c,ver,h4,h5,h6⟩
 ·exact .inl h4
 ·exact .inr ⟨c,ver,by simp; omega,h5,by rw[List.getElem?_append_left h4]; exact h6⟩
structure QiO (x:It):Prop where
 wid:x.of.wid<=67108864
 some: ∃d r,x.QA=d::r/\d.size<=67108864
theorem Qai {x:It}{d:Val}{r:List Val}(h:x.QA=d::r):x.d0=d:=by unfold It.d0; rw[h]; rfl
theorem Qwu (x y:It)(hx:QiO x)(hy:QiO y)(ws:Nat)(h:Avm.H):Qb cfg ws 132 [y.enc,.iptr x.cells] h=some (.bool (x.of.same y.of&&x.d0.same y.d0),h):=by
 obtain⟨hw,d,r,hd,hs⟩:=hx;obtain⟨hw2,d2,r2,hd2,hs2⟩:=hy;rw[Qai hd,Qai hd2];have e1:=fun ws h=>ZK x.of y.of hw ws h
 have e2:=fun ws h=>Qgp _ d d2 (Nat.le_refl _) hs ws h
 refine Qc rfl rfl ?_
 simp at e1 e2;cases q:x.of.same y.of
 ·rw[q]at e1;simp[QAB,QAg,It.XO,hd,hd2,e1,e2]
 ·rw[q]at e1;simp[QAB,QAg,It.XO,hd,hd2,e1,e2]
def QkQ (h:Avm.H)(s:AV)(xs:List It):Prop:=s= .isl (xs.map It.enc)\/ ∃c ver,c<h.length/\s= .osl c ver 12 0 xs.length/\h[c]? =some (.arr ver 12 (xs.map It.enc))
theorem QkQ.snap{h:Avm.H}{s:AV}{xs:List It}(A:QkQ h s xs)(n:Nat):Avm.snap h (n+1) s=some (.isl (xs.map It.enc)):=by
 rcases A with rfl | ⟨c,ver,_,rfl,h3⟩
 ·unfold Avm.snap;rw[if_pos (by simp)]
 ·have hl:Avm.look h c ver 12 0 xs.length=some (xs.map It.enc):=by
    unfold Avm.look;rw[h3];simp
  unfold Avm.snap;rw[if_neg (by simp)]
  dsimp only;rw[hl];simp
theorem QlU (x:It)(hx:QiO x)(xs:List It)(hxs: ∀y∈xs,QiO y)(hl:xs.length<=67108864)(h:Avm.H)(s:AV)(A:QkQ h s xs)(b:Nat)(hb:h[b]? =some (.arr 0 12 [x.enc]))(ws:Nat):
    Qb cfg ws 131 [s,.QI 132 0 [.ptr b 0 12 0 0]] h=some (.bool (WZ (xs.map JD) x.of x.d0),h):=by
 have h1:Qb cfg ws 131 [s,.QI 132 0 [.ptr b 0 12 0 0]] h=Qb cfg ws 131 [.isl (xs.map It.enc),.QI 132 0 [.ptr b 0 12 0 0]] h:=by
  refine Qdo rfl rfl rfl ?_
  have e1:=A.snap 7;have e2:=(show QkQ h (.isl (xs.map It.enc)) xs from .inl rfl).snap 7;unfold QH;rw[show deep=7+1 from rfl,e1,e2]
 rw[h1]
 have h2:=JK (g:=132) (k:=0) (p:=fun y=>x.of.same y.of&&x.d0.same y.d0) (cap:=[.ptr b 0 12 0 0]) (cap':=[.iptr x.cells]) xs hl (QoQ rfl) h
  (by
   have hc:QH (Avm.snap h 6) x.cells=some x.cells:=Qx (It.ZM x);unfold It.enc at hb;unfold QH QH Avm.snap;rw[if_neg (by simp)]
   simp[hb,hc]) (by simp[It.ZM x]) (fun y hy ws h=>by simpa using Qwu x y hx (hxs y hy) ws h) ws
 rw[h2];unfold WZ;rw[List.any_map];rfl
theorem Qtj (xs:List It)(hl:xs.length<=67108864)(s:AV)(ws:Nat)(h:Avm.H)(A:QkQ h s xs):Qb cfg ws 98 [s] h=some (.osl h.length 0 12 0 xs.length,h++ [.arr 0 12 (xs.map It.enc)]):=by
 refine QN rfl ?_
 have h1:xs.length<=lim:=by unfold lim; omega
 rcases A with rfl | ⟨c,ver,_,rfl,h3⟩
 ·simp[Jr,h1]
 ·have hlk:Avm.look h c ver 12 0 xs.length=some (xs.map It.enc):=by unfold Avm.look; rw[h3]; simp
  have he:Zv h (.osl c ver 12 0 xs.length)=some (xs.map It.enc):=hlk;simp only[Jr,he];rw[if_pos ⟨by simpa using h1,by simp⟩]
  simp
theorem Qyy (m:Md)(x:It)(hx:QiO x)(xs:List It)(hxs: ∀y∈xs,QiO y)(hl:xs.length<=67108863)(f:List (Ty×Val)->Ty->Val->Option Val)(d:Val)(hd:QeF f (xs.map JD) x=some d)
    (hpl:WZ (xs.map JD) x.of x.d0=false-> ∀d,f (xs.map JD++ [JD x]) x.of x.d0=some d-> ∀P h,Recv h P m (xs++ [x])-> ∀ws,Qb cfg ws 40 [P,x.of.enc,x.d0.enc] h=some (d.enc,h))
    (P:AV) (h:Avm.H) (R:Recv h P m xs) (ws:Nat):Qb cfg ws 73 [P,x.enc] h=some (d.enc,h):=by
 obtain⟨b,s,rfl,hbl,hb,hA⟩:=R;obtain⟨_,d0,r0,hd0,hds⟩:=hx;have hx':QiO x:=⟨by assumption,d0,r0,hd0,hds⟩
 have hbt: ∀g:Avm.H,(h++g)[b]? =some (.arr 0 3 [.agg [.str m.name,.isl (m.defs.map Df.enc),s]]):=fun g=>by rw[List.getElem?_append_left hbl]; exact hb
 have hAt: ∀g:Avm.H,QkQ (h++g) s xs:=fun g=>by
  rcases hA with h4 | ⟨c,ver,h4,h5,h6⟩
  ·exact .inl h4
  ·exact .inr ⟨c,ver,by simp; omega,h5,by rw[List.getElem?_append_left h4]; exact h6⟩
 have hnorm:norm s=s:=by
  rcases hA with h4 | ⟨c,ver,h4,h5,h6⟩
  ·rw[h4]; rfl
  ·rw[h5]; rfl
 have hone:s.one=true:=by
  rcases hA with h4 | ⟨c,ver,h4,h5,h6⟩
  ·rw[h4]; rfl
  ·rw[h5]; rfl
 have e1:=fun ws=>QlU x hx' xs hxs (by omega) (h++ [.arr 0 12 [x.enc],.arr 0 4 [.agg [.int .i64 0,.int .i64 0,.str ⟨#[]⟩,.esl]]]) s (hAt _) h.length (by simp) ws
 have hbne: ∀k,¬b=h.length+k:=fun k=>by omega
 unfold QeF at hd;refine Qc rfl rfl ?_
 split at hd
 ·rename_i hmet;injection hd with hd;subst hd;rw[hmet]at e1;rw[Qai hd0];simp[hd0]at e1;simp[F73,c73,hbt,e1,hd0]
 ·rename_i hmet;have hmet:WZ (xs.map JD) x.of x.d0=false:=by simpa using hmet
  rw[hmet]at e1;have e2:=fun ws=>Qtj xs (by omega) s ws (h++ [.arr 0 12 [x.enc],.arr 0 4 [.agg [.int .i64 0,.int .i64 0,.str ⟨#[]⟩,.esl]],.arr 0 12 [x.enc]]) (hAt _)
  have e3:=fun ws=>hpl hmet d hd (.ptr (h.length+4) 0 3 0 0) (h++ [.arr 0 12 [x.enc],.arr 0 4 [.agg [.int .i64 0,.int .i64 0,.str ⟨#[]⟩,.esl]],.arr 0 12 [x.enc],.arr 1 12 ((xs++ [x]).map It.enc),.arr 0 3 [.agg [.str m.name,.isl (m.defs.map Df.enc),.osl (h.length+3) 1 12 0 (xs.length+1)]]])
   ⟨h.length+4,.osl (h.length+3) 1 12 0 (xs.length+1),rfl,by simp,by simp,.inr ⟨h.length+3,1,by simp,by simp,by simp⟩⟩ ws
  have hlim:xs.length+1<=4294967296:=by omega
  have hall: ∀a∈xs,a.enc.cells.length=12:=fun a _=>by simp
  rw[Qai hd0]at e3;simp[hd0]at e1 e2 e3;simp[F73,c73,hbt,e1,e2,e3,hd0,hbne,Ju,appended,QS,hlim]
end Go.Proofs.YtflbneepngjglaaGreatDoor
namespace Go.Proofs.YtflbneepngjglaaGreatDoor
open Go Go.Avm
theorem JY (m:Md){n:Nat}{t:Ty}{v:Val}{b:Ty}(h:Xn m (n+1) t v=true)(hb:beh m 21 t=some b)(hr:Qk b=true):
    v.kind=b.kind/\QmC b v/\ ∀(i:Nat) x t',v.items[i]? =some x->QW b v i x=some t'->Xn m n t' x=true:=by
 unfold Xn at h;rw[hb]at h;simp only[Bool.and_eq_true,decide_eq_true_eq]at h;obtain⟨hk,hf⟩:=h;unfold JO at hf;refine⟨hk,⟨fun q=>?_,fun q=>?_,fun q=>?_⟩,fun i x t' hx hp=>?_⟩
 ·intro hn;unfold Qk at hr;simp[q,hn]at hr
 ·simp only[q]at hf;simp[inP]at hf;have:=hf.2.1;omega
 ·simp only[q]at hf;simp at hf;exact hf.2.1
 ·unfold QW at hp;split at hp
  ·rename_i q;injection hp with hp; subst hp;simp only[q]at hf;simp at hf;have:=hf.2.2 x (List.mem_of_getElem? hx);rw[List.headD_eq_head?_getD]
   exact this
  ·rename_i q7;split at hp
   ·rename_i q;injection hp with hp; subst hp;simp only[q]at hf;simp at hf;obtain⟨_,_,hl,hs⟩:=hf;have h0:i=0:=by have:=(List.getElem?_eq_some_iff.1 hx).1; omega
    subst h0
    have:v.items.headD (.mk 0 0 ⟨#[]⟩ [])=x:=by
     cases hv:v.items with
     | nil=>rw[hv]at hx; cases hx
     | cons a r=>rw[hv]at hx; simp at hx; subst hx; rfl
    simp only[List.headD_eq_head?_getD]at this
    rw[this]at hs;simpa using hs
   ·rename_i q9;split at hp
    ·rename_i q;injection hp with hp; subst hp;obtain⟨q8,q12⟩:=q;simp only[q8]at hf;simp at hf;obtain⟨_,hl,hs⟩:=hf;have hi:=(List.getElem?_eq_some_iff.1 hx).1
     have hib:i<b.items.length:=by omega
     have hmem:(b.items[i],x)∈b.items.zip v.items:=by
      rw[List.mem_iff_getElem?];refine⟨i,?_⟩
      rw[List.getElem?_zip_eq_some]
      exact⟨List.getElem?_eq_getElem hib,hx⟩
     have hpb:=hs _ _ hmem;unfold Zn at hpb;simp[q12]at hpb;rw[List.getElem?_eq_getElem hib]
     exact hpb
    ·cases hp
set_option maxHeartbeats 3000000 in
theorem Qps {m:Md}{S:List (Ty×Val)}(M:m.Zz S)(b:Ty)(B:b.Zz m S)(q8:b.kind=8)(t:Ty)(v:Val)(hv:v.size<=67108864)(xs:List It)(l r:List Val)(hlv:l.length=b.items.length)(hls: ∀x∈l,x.size<=67108864)
    (f:List (Ty×Val)->Ty->Val->Option Val) (hr:mapIO (fun i x=>Qbc (QeF f (xs.map JD)) (b.items[i]?.getD It.zero) x) 0 l=some r) (P:AV) (h:Avm.H) (R:Recv h P m xs)
    (hset: ∀x∈b.items,x.QA≠ []-> ∀d,QeF f (xs.map JD) x=some d-> ∀ws g,Qb cfg ws 73 [P,x.enc] (h++g)=some (d.enc,h++g)):
    ∃g,Qa (evC (Qb cfg) Qa cfg.pol h.length h.length Qgi) [0,5,6,34,35,36] [(0,P),(5,.ptr (h.length+1) 0 4 0 0),(6,.ptr (h.length+2) 0 4 0 0),(34,.isl (b.items.map It.enc)),(35,.int .i64 b.items.length),(36,.int .i64 (0:Nat))]
     (h++([.arr 0 8 [t.enc],.arr 0 4 [.agg [.int .i64 v.kind,.int .i64 v.int,.str v.bytes,.osl (h.length+3) 0 4 0 b.items.length]],.arr 0 4 [.agg [.int .i64 0,.int .i64 0,.str ⟨#[]⟩,.isl []]],.arr 0 4 (l.map Val.enc),.arr 0 8 [b.enc]]++ []))=
     some (.exit 0,[(0,P),(5,.ptr (h.length+1) 0 4 0 0),(6,.ptr (h.length+2) 0 4 0 0),(34,.isl (b.items.map It.enc)),(35,.int .i64 b.items.length),(36,.int .i64 b.items.length)],
      h++([.arr 0 8 [t.enc],.arr 0 4 [.agg [.int .i64 v.kind,.int .i64 v.int,.str v.bytes,.osl (h.length+3) 0 4 0 b.items.length]],.arr 0 4 [.agg [.int .i64 0,.int .i64 0,.str ⟨#[]⟩,.isl []]],.arr 0 4 (r.map Val.enc),.arr 0 8 [b.enc]]++g)):=by
 have hwi:=b.Qe;have hBw:=B.wid;obtain⟨hrl,hget⟩:=XB hr
 have hlp:=Qg (γ:=Avm.H) (f:=evC (Qb cfg) Qa cfg.pol h.length h.length Qgi) (keep:=[0,5,6,34,35,36]) b.items (fun _ _=>True)
  (fun i _=>[(0,P),(5,.ptr (h.length+1) 0 4 0 0),(6,.ptr (h.length+2) 0 4 0 0),(34,.isl (b.items.map It.enc)),(35,.int .i64 b.items.length),(36,.int .i64 i)])
  (fun i g=>h++([.arr 0 8 [t.enc],.arr 0 4 [.agg [.int .i64 v.kind,.int .i64 v.int,.str v.bytes,.osl (h.length+3) 0 4 0 b.items.length]],.arr 0 4 [.agg [.int .i64 0,.int .i64 0,.str ⟨#[]⟩,.isl []]],.arr 0 4 ((r.take i++l.drop i).map Val.enc),.arr 0 8 [b.enc]]++g))
  (fun _ _ o=>∃g,o=(.exit 0,[(0,P),(5,.ptr (h.length+1) 0 4 0 0),(6,.ptr (h.length+2) 0 4 0 0),(34,.isl (b.items.map It.enc)),(35,.int .i64 b.items.length),(36,.int .i64 b.items.length)],
       h++([.arr 0 8 [t.enc],.arr 0 4 [.agg [.int .i64 v.kind,.int .i64 v.int,.str v.bytes,.osl (h.length+3) 0 4 0 b.items.length]],.arr 0 4 [.agg [.int .i64 0,.int .i64 0,.str ⟨#[]⟩,.isl []]],.arr 0 4 (r.map Val.enc),.arr 0 8 [b.enc]]++g))) ?_ ?_ [] trivial
 ·obtain⟨o,h1,g,rfl⟩:=hlp;exact⟨g,h1⟩
 ·intro i x rr g hd hi hx _ K hK;have hw:=Qd (n:=i+1) (by omega)
  simp at hw;have hil:i<l.length:=by omega
  obtain⟨y,hy,hfy⟩:=hget i l[i] (List.getElem?_eq_getElem hil)
  rw[Nat.zero_add,List.getElem?_eq_getElem hi,hx]at hfy
  simp only[Option.getD_some]at hfy;have hg:=Qgx Val.enc r l hrl i hil;have hs:=Qgv Val.enc r l hrl i hil y hy;have hml:=Qgw r l hrl i (Nat.le_of_lt hil);have hxm:x∈b.items:=by rw[←hx]; exact List.getElem_mem hi
  have hsz:=hls l[i] (List.getElem_mem hil);obtain⟨o,h4,h5⟩:=hK (g++ [.arr 0 12 [x.enc]]) trivial;refine⟨o,?_,h5⟩
  rw[←hs]at h4;have hel:((r.take i++l.drop i).map Val.enc).length=b.items.length:=by rw[List.length_map,hml,hlv]
  generalize hlz:l[i]=z at*;generalize ((r.take i++l.drop i).map Val.enc)=els at hg h4 hel ⊢;unfold Qbc at hfy;have keepz:y=z->els.set i y.enc=els:=fun e=>by rw[e]; exact QdO hg
  split at hfy
  ·rename_i hc;obtain⟨hc1,hc2⟩:=hc;split at hfy
   ·rename_i d hdd;injection hfy with hfy;have e1:=fun ws g=>hset x hxm hc1 d hdd ws g
    have e2:=fun ws h=>Qgp _ z d (Nat.le_refl _) hsz ws h
    obtain⟨d1,dr,hdf⟩: ∃d1 dr,x.QA=d1::dr:=by
     cases hq:x.QA with
     | nil=>exact absurd hq hc1
     | cons a q=>exact⟨a,q,rfl⟩
    have hgt:(0:Int)<dr.length+1:=by omega
    by_cases hsm:z.same d=true
    ·rw[if_pos hsm]at hfy;subst hfy;rw[hsm]at e2;simp[QaY,hdf]at h4;simp[hdf]at e1 e2 hg;obtain⟨hilx,hgi⟩:=List.getElem?_eq_some_iff.1 hg
     simp[Qgi,hi,hx,hgi,hel,hdf,hgt,hc2,e1,e2,hw,h4]
    ·rw[if_neg hsm]at hfy;have hk:=keepz hfy.symm;rw[hk]at h4;have hsm:z.same d=false:=by simpa using hsm
     rw[hsm]at e2;simp[hdf]at h4;simp[hdf]at e1 e2 hg;obtain⟨hilx,hgi⟩:=List.getElem?_eq_some_iff.1 hg
     simp[Qgi,hi,hx,hgi,hel,hdf,hgt,hc2,e1,e2,hw,h4]
   ·cases hfy
  ·rename_i hc;injection hfy with hfy;have hk:=keepz hfy.symm;rw[hk]at h4;simp at h4 hg;cases hq:x.QA with
   | nil=>simp[hq]at h4; obtain⟨hilx,hgi⟩:=List.getElem?_eq_some_iff.1 hg; simp[Qgi,hi,hx,hgi,hel,hq,hw,h4]
   | cons d1 dr=>
    have hgt:(0:Int)<dr.length+1:=by omega
    have hc2:z.kind=12:=by
     rw[hq]at hc;simpa using hc
    simp[hq]at h4;obtain⟨hilx,hgi⟩:=List.getElem?_eq_some_iff.1 hg
    simp[Qgi,hi,hx,hgi,hel,hq,hgt,hc2,hw,h4]
 ·intro g K _;refine⟨_,?_,g,rfl⟩
  have he:r.take b.items.length++l.drop b.items.length=r:=by rw[List.take_of_length_le (by omega),List.drop_eq_nil_of_le (by omega),List.append_nil]
  rw[he];simp[Qgi]
set_option maxHeartbeats 3000000 in
theorem QhC {m:Md}{S:List (Ty×Val)}(M:m.Zz S)(hS:S.length<=67108863)(hSs: ∀q∈S,q.2.size<=67108864): ∀(n:Nat) (xs:List It) (t:Ty) (v r:Val),Xd m n (xs.map JD) t v=some r->t.Zz m S->(∃k,Xn m k t v=true)->v.size<=67108864->(∀x∈xs,QiO x)->xs.length+rest S (xs.map JD)<=S.length->
    ∀P h,Recv h P m xs-> ∀ws,Qb cfg ws 40 [P,t.enc,v.enc] h=some (r.enc,h)
 | 0,_,_,_,_,h,_,_,_,_,_,_,_,_,_=>by cases h
 | n+1,xs,t,v,r,hp,T,⟨k,hk⟩,hv,hxs,hlen,P,h,R,ws=>by
  cases k with
  | zero=>cases hk
  | succ k=>
  cases hb:beh m 21 t with
  | none=>unfold Xn at hk; rw[hb]at hk; cases hk
  | some b=>
  obtain⟨B,hb10⟩:=T.beh M hb;obtain⟨hkind,hin,hsub⟩:=JY m hk hb (QO B.right);unfold Xd at hp;rw[hb]at hp;simp only[Option.getD_some]at hp;split at hp
  ·cases hp
  ·rename_i l hl;obtain⟨hll,hlget⟩:=XB hl
   have hitem: ∀(i:Nat) x,v.items[i]? =some x->x.size<=67108864:=fun i x hx=>by
    have:=Val.Qu (List.mem_of_getElem? hx); omega
   have heach:=fun H (RH:Recv H P m xs) ws=>QxA m M.ok t T.wid b hb v hv hin (Xd m n (xs.map JD)) l hl P H (fun i x t' y hx hpo hy ws g=>
    QhC M hS hSs n xs t' x y hy (YY B hpo) ⟨k,hsub i x t' hx hpo⟩ (hitem i x hx) hxs hlen P (H++g) (RH.more g) ws) ws
   have hls: ∀x∈l,x.size<=67108864:=fun y hy=>by
    obtain⟨j,hj,rfl⟩:=List.mem_iff_getElem.1 hy;have hjv:j<v.items.length:=by omega
    obtain⟨z,h1,h2⟩:=hlget j v.items[j] (List.getElem?_eq_getElem hjv)
    rw[List.getElem?_eq_getElem hj]at h1
    injection h1 with h1;have h3:=hitem j v.items[j] (List.getElem?_eq_getElem hjv)
    rw[h1];unfold JA at h2;split at h2
    ·have:=Jw h2; omega
    ·injection h2 with h2; rw[←h2]; exact h3
   have hbh:=fun ws h=>Zy m M.ok t T.wid ws h
   obtain⟨b0,s0,hP0,hbl,hb0,hs0⟩:=id R;have hbt: ∀g:Avm.H,(h++g)[b0]? =some (.arr 0 3 [.agg [.str m.name,.isl (m.defs.map Df.enc),s0]]):=fun g=>by rw[List.getElem?_append_left hbl]; exact hb0
   have e1:=heach (h++ [.arr 0 8 [t.enc],.arr 0 4 [v.enc],.arr 0 4 [.agg [.int .i64 0,.int .i64 0,.str ⟨#[]⟩,.isl []]]]) (R.more _);subst hP0;by_cases q8:b.kind=8
   ·rw[if_pos q8]at hp;split at hp
    ·rename_i r' hr';cases hp;obtain⟨hrl,_⟩:=XB hr';have hvl:=hin.record q8
     obtain⟨g,hloop⟩:=Qps M b B q8 t v hv xs l r' (by omega) hls (Xd m n) hr' (.ptr b0 0 3 0 0) h R (fun x hx hd d hset ws g=>by
      obtain⟨dd,h1,h2,h3,h4⟩:=Qae.1 (QO B.good) q8 x hx hd;have hxin:x.of∈b.inner:=by unfold Ty.inner Ty.comp; rw[q8]; exact List.mem_append_right _ (List.mem_map_of_mem hx)
      have hxo:QiO x:=⟨(B.inner hxin).wid,dd,[],h1,hSs _ h2⟩;have hd0:=Qai h1;refine Qyy m x hxo xs hxs (by omega) (Xd m n) d hset (fun hmet d' hd' P' H' R' ws'=>?_) (.ptr b0 0 3 0 0) (h++g) (R.more g) ws
      have hmap:xs.map JD++ [JD x]=(xs++ [x]).map JD:=by simp
      rw[hmap]at hd';refine QhC M hS hSs n (xs++ [x]) x.of x.d0 d' hd' (B.inner hxin) ⟨dd.size,by rw[hd0]; exact h3⟩ (by rw[hd0]; exact hSs _ h2) (fun y hy=>?_) ?_ P' H' R' ws'
      ·rcases List.mem_append.1 hy with hy | hy
       ·exact hxs y hy
       ·simp at hy; subst hy; exact hxo
      ·rw[←hmap];rw[hd0]at hmet;have:=Qlp (u:=xs.map JD) h2 hmet;have hk:JD x=(x.of,dd):=by unfold JD; rw[hd0]
       rw[hk];simp only[List.length_append,List.length_singleton];omega)
     refine Qc rfl rfl ?_
     simp[hb]at hbh;simp at e1 hloop;simp only[Md.enc]at hbh e1;simp only[hvl]at e1;have hrn:r'.length=b.items.length:=by omega
     have htk:(r'.map Val.enc).take b.items.length=r'.map Val.enc:=List.take_of_length_le (by simp; omega)
     simp[q8]at hloop;simp[htk,F40,c40,hbt,e1,hbh,q8,hloop,hrn]
    ·cases hp
   ·rw[if_neg q8]at hp;cases hp;refine Qc rfl rfl ?_
    simp[hb]at hbh;simp at e1;simp only[Md.enc]at hbh e1;have htk:(l.map Val.enc).take v.items.length=l.map Val.enc:=List.take_of_length_le (by simp; omega)
    simp[F40,c40,hbt,e1,hbh,q8,hll,htk]
end Go.Proofs.YtflbneepngjglaaGreatDoor
namespace Go.Proofs.YtflbneepngjglaaGreatDoor
open Go Go.Avm
theorem Qcb : ∀(n:Nat) (v w:Val),v.size<=n->v.size<=67108864-> ∀ws h,Qb cfg ws 13 [v.enc,w.enc] h=some (.bool (v.same w),h)
 | 0,v,_,hv,_,_,_=>by have:=v.size_pos; omega
 | n+1,v,w,hv,hb,ws,h=>by
  have hlen:=v.Qw;refine Qc rfl rfl ?_
  rw[Val.Xu];by_cases h1:v.kind=w.kind
  ·by_cases h2:v.int=w.int
   ·by_cases h3:v.bytes.toList=w.bytes.toList
    ·by_cases h4:v.items.length=w.items.length
     ·have hl:=QE (f:=evC (Qb cfg) Qa cfg.pol h.length h.length Qen) (keep:=[2,3,5]) v.items (fun i=>[(2,.ptr h.length 0 4 0 0),(3,.ptr (h.length+1) 0 4 0 0),(5,.int .i64 i)]) (fun _=>h++ [.arr 0 4 [v.enc],.arr 0 4 [w.enc]])
        (fun j r=>if eqL Val.same r (w.items.drop j)=true then(.exit 0,[(2,.ptr h.length 0 4 0 0),(3,.ptr (h.length+1) 0 4 0 0),(5,.int .i64 v.items.length)],h++ [.arr 0 4 [v.enc],.arr 0 4 [w.enc]])else(.ret,[(4,.bool false)],h++ [.arr 0 4 [v.enc],.arr 0 4 [w.enc]])) ?_ ?_
      ·simp only[List.drop_zero]at hl;cases hs:eqL Val.same v.items w.items<;>simp[hs]at hl<;>simp[F13,c13,h1,h2,h3,h4]<;>simp[h1,h2,h3,h4]at hl<;>simp[hl]
      ·intro j x r hd hi hx K hK;have hw:=Qd (n:=j+1) (by omega)
       simp at hw;have him:j<w.items.length:=by omega
       have hdm:w.items.drop j=w.items[j]::w.items.drop (j+1):=List.drop_eq_getElem_cons him;rw[hdm];have hm1:x∈v.items:=by rw[←hx]; exact List.getElem_mem hi
       have hsz:=Val.Qu hm1;obtain⟨y,hy⟩: ∃y,w.items[j]=y:=⟨_,rfl⟩;have hcl:=fun h'=>Qcb n x y (by omega) (by omega) h.length h'
       rw[hy];simp only[Val.ZO]at hcl;rw[eqL];cases hs:x.same y
       ·rw[hs]at hcl;simp[Qen,hi,hx,him,hy,hcl]
       ·rw[hs]at hcl;simp at hK;simp[Qen,hi,hx,him,hy,hcl,hw,hK]
      ·intro K;have:w.items.drop v.items.length=[]:=by rw[h4]; simp
       rw[this];simp[Qen,eqL]
     ·have hs:eqL Val.same v.items w.items=false:=by
        cases hs:eqL Val.same v.items w.items with
        | false=>rfl
        | true=>exact absurd (QaO hs) h4
      have hn2: ¬(v.items.length:Int)=w.items.length:=by omega
      rw[hs];simp[F13,c13,h1,h2,h3,hn2]
    ·simp[F13,c13,h1,h2,h3]
   ·simp[F13,c13,h1,h2]
  ·simp[F13,c13,h1]
end Go.Proofs.YtflbneepngjglaaGreatDoor
namespace Go.Proofs.YtflbneepngjglaaGreatDoor
open Go Go.Avm
theorem Que (base:Nat)(HH:Avm.H)(bx bz:Nat)(A B C:AV)(x y:It)(hx:HH[bx]? =some (.arr 0 12 [x.enc]))(hy:HH[bz]? =some (.arr 0 12 [y.enc]))(hl:x.QA.length=y.QA.length)(hlen:x.QA.length<=67108864)(hb: ∀d∈x.QA,d.size<=67108864):
    Qa (evC (Qb cfg) Qa cfg.pol base base QkE) [2,3,5,6,7,8] [(2,A),(3,B),(5,C),(6,.ptr bx 0 12 0 0),(7,.ptr bz 0 12 0 0),(8,.int .i64 (0:Nat))] HH=
     some (if eqL Val.same x.QA y.QA=true then(.exit 2,[(2,A),(3,B),(5,C),(6,.ptr bx 0 12 0 0),(7,.ptr bz 0 12 0 0),(8,.int .i64 x.QA.length)],HH)else(.ret,[(4,.bool false)],HH)):=by
 have hlp:=QE (f:=evC (Qb cfg) Qa cfg.pol base base QkE) (keep:=[2,3,5,6,7,8]) x.QA
  (fun i=>[(2,A),(3,B),(5,C),(6,.ptr bx 0 12 0 0),(7,.ptr bz 0 12 0 0),(8,.int .i64 i)]) (fun _=>HH)
  (fun j r=>if eqL Val.same r (y.QA.drop j)=true then(.exit 2,[(2,A),(3,B),(5,C),(6,.ptr bx 0 12 0 0),(7,.ptr bz 0 12 0 0),(8,.int .i64 x.QA.length)],HH)else(.ret,[(4,.bool false)],HH)) ?_ ?_
 ·simpa using hlp
 ·intro j d r hd hi hxx K hK;have hw:=Qd (n:=j+1) (by omega)
  simp at hw;have him:j<y.QA.length:=by omega
  have hdm:y.QA.drop j=y.QA[j]::y.QA.drop (j+1):=List.drop_eq_getElem_cons him;rw[hdm];have hm1:d∈x.QA:=by rw[←hxx]; exact List.getElem_mem hi
  obtain⟨e,he⟩: ∃e,y.QA[j]=e:=⟨_,rfl⟩;have hcl:=fun h'=>Qcb _ d e (Nat.le_refl _) (hb d hm1) base h'
  rw[he];simp at hcl;rw[eqL];simp only[It.ZO]at hx hy;cases hs:d.same e
  ·rw[hs]at hcl;simp[QkE,hi,hxx,him,he,hcl,hx,hy]
  ·rw[hs]at hcl;simp at hK;simp[QkE,hi,hxx,him,he,hcl,hx,hy,hw,hK]
 ·intro K;have:y.QA.drop x.QA.length=[]:=by rw[hl]; simp
  rw[this];simp only[It.ZO]at hx hy;simp[QkE,eqL,hx,hy]
theorem Qud (t u:Ty)(h:Avm.H)(g:Avm.H)(hl:t.kids.length=u.kids.length)(hlen:t.kids.length<=67108864)(ih: ∀x∈t.kids,∀y ws h,Qb cfg ws 24 [x.enc,y.enc] h=some (.bool (x.same y),h)):
    Qa (evC (Qb cfg) Qa cfg.pol h.length h.length QkD) [2,3,9] [(2,.ptr h.length 0 8 0 0),(3,.ptr (h.length+1) 0 8 0 0),(9,.int .i64 (0:Nat))] (h++([.arr 0 8 [t.enc],.arr 0 8 [u.enc]]++g))=
     some (if eqL Ty.same t.kids u.kids=true then(.exit 4,[(2,.ptr h.length 0 8 0 0),(3,.ptr (h.length+1) 0 8 0 0),(9,.int .i64 t.kids.length)],h++([.arr 0 8 [t.enc],.arr 0 8 [u.enc]]++g))else(.ret,[(4,.bool false)],h++([.arr 0 8 [t.enc],.arr 0 8 [u.enc]]++g))):=by
 have hlp:=QE (f:=evC (Qb cfg) Qa cfg.pol h.length h.length QkD) (keep:=[2,3,9]) t.kids
  (fun i=>[(2,.ptr h.length 0 8 0 0),(3,.ptr (h.length+1) 0 8 0 0),(9,.int .i64 i)]) (fun _=>h++([.arr 0 8 [t.enc],.arr 0 8 [u.enc]]++g))
  (fun j r=>if eqL Ty.same r (u.kids.drop j)=true then(.exit 4,[(2,.ptr h.length 0 8 0 0),(3,.ptr (h.length+1) 0 8 0 0),(9,.int .i64 t.kids.length)],h++([.arr 0 8 [t.enc],.arr 0 8 [u.enc]]++g))else(.ret,[(4,.bool false)],h++([.arr 0 8 [t.enc],.arr 0 8 [u.enc]]++g))) ?_ ?_
 ·simpa using hlp
 ·intro j x r hd hi hxx K hK;have hw:=Qd (n:=j+1) (by omega)
  simp at hw;have him:j<u.kids.length:=by omega
  have hdm:u.kids.drop j=u.kids[j]::u.kids.drop (j+1):=List.drop_eq_getElem_cons him;rw[hdm];have hm1:x∈t.kids:=by rw[←hxx]; exact List.getElem_mem hi
  obtain⟨e,he⟩: ∃e,u.kids[j]=e:=⟨_,rfl⟩;have hcl:=fun h'=>ih x hm1 e h.length h'
  rw[he];simp at hcl;rw[eqL];cases hs:x.same e
  ·rw[hs]at hcl;simp[QkD,hi,hxx,him,he,hcl]
  ·rw[hs]at hcl;simp at hK;simp[QkD,hi,hxx,him,he,hcl,hw,hK]
 ·intro K;have:u.kids.drop t.kids.length=[]:=by rw[hl]; simp
  rw[this];simp[QkD,eqL]
theorem QrP (t u:Ty)(h:Avm.H)(hl:t.items.length=u.items.length)(hwt:t.wid<=67108864)(ih: ∀x∈t.items,∀y:Ty,∀ws h,Qb cfg ws 24 [x.of.enc,y.enc] h=some (.bool (x.of.same y),h)):
    ∃g,Qa (evC (Qb cfg) Qa cfg.pol h.length h.length QbP) [2,3,5] [(2,.ptr h.length 0 8 0 0),(3,.ptr (h.length+1) 0 8 0 0),(5,.int .i64 (0:Nat))] (h++([.arr 0 8 [t.enc],.arr 0 8 [u.enc]]++ []))=
     some (if eqL It.same t.items u.items=true then(.exit 0,[(2,.ptr h.length 0 8 0 0),(3,.ptr (h.length+1) 0 8 0 0),(5,.int .i64 t.items.length)],h++([.arr 0 8 [t.enc],.arr 0 8 [u.enc]]++g))else(.ret,[(4,.bool false)],h++([.arr 0 8 [t.enc],.arr 0 8 [u.enc]]++g))):=by
 have hwi:=t.Qe
 have hlp:=Qg (γ:=Avm.H) (f:=evC (Qb cfg) Qa cfg.pol h.length h.length QbP) (keep:=[2,3,5]) t.items (fun _ _=>True)
  (fun i _=>[(2,.ptr h.length 0 8 0 0),(3,.ptr (h.length+1) 0 8 0 0),(5,.int .i64 i)]) (fun _ g=>h++([.arr 0 8 [t.enc],.arr 0 8 [u.enc]]++g))
  (fun j r o=>∃g,o=if eqL It.same r (u.items.drop j)=true then(.exit 0,[(2,.ptr h.length 0 8 0 0),(3,.ptr (h.length+1) 0 8 0 0),(5,.int .i64 t.items.length)],h++([.arr 0 8 [t.enc],.arr 0 8 [u.enc]]++g))else(.ret,[(4,.bool false)],h++([.arr 0 8 [t.enc],.arr 0 8 [u.enc]]++g))) ?_ ?_ [] trivial
 ·obtain⟨o,h1,g,rfl⟩:=hlp;exact⟨g,by simpa using h1⟩
 ·intro j x r g hd hi hxx _ K hK;have hw:=Qd (n:=j+1) (by omega)
  simp at hw;have him:j<u.items.length:=by omega
  have hdm:u.items.drop j=u.items[j]::u.items.drop (j+1):=List.drop_eq_getElem_cons him;have hm1:x∈t.items:=by rw[←hxx]; exact List.getElem_mem hi
  obtain⟨y,hy⟩: ∃y,u.items[j]=y:=⟨_,rfl⟩;have hcl:=fun h'=>ih x hm1 y.of h.length h'
  have hwx:=Ty.Jf hm1;have hwd:=x.QgS;rw[hdm,hy];obtain⟨o,h4,g2,h5⟩:=hK (g++ [.arr 0 12 [x.enc],.arr 0 12 [y.enc]]) trivial;by_cases q1:x.name.toList=y.name.toList
  ·by_cases q2:x.opt=y.opt
   ·by_cases q3:x.extra=y.extra
    ·by_cases q4:x.QA.length=y.QA.length
     ·have q4i:(x.QA.length:Int)=y.QA.length:=by omega
      cases q5:x.of.same y.of
      ·refine⟨_,?_,g++ [.arr 0 12 [x.enc],.arr 0 12 [y.enc]],(if_neg (by rw[eqL]; unfold It.same; rw[q5]; simp)).symm⟩
       rw[q5]at hcl;simp at hcl;simp[QbP,hi,hxx,him,hy,hcl,q1,q2,q3,q4i]
      ·rw[q5]at hcl
       have hin:=Que h.length (h++([.arr 0 8 [t.enc],.arr 0 8 [u.enc]]++(g++ [.arr 0 12 [x.enc],.arr 0 12 [y.enc]]))) (h.length+(g.length+1+1)) (h.length+(g.length+1+1+1)) (.ptr h.length 0 8 0 0) (.ptr (h.length+1) 0 8 0 0) (.int .i64 j) x y
        (by rw[Zh]; simp) (by rw[Zh]; simp) q4 (by omega) (fun d hdm=>by have:=It.QkR hdm; omega)
       cases q6:eqL Val.same x.QA y.QA
       ·refine⟨_,?_,g++ [.arr 0 12 [x.enc],.arr 0 12 [y.enc]],(if_neg (by rw[eqL]; unfold It.same; rw[q6]; simp)).symm⟩
        rw[q6]at hin;simp at hcl hin;simp[q2,q3]at hin;simp[QbP,hi,hxx,him,hy,hcl,q1,q2,q3,q4i,hin]
       ·refine⟨o,?_,g2,by
          rw[h5,eqL];have:x.same y=true:=by unfold It.same; simp[q1,q2,q3,q5,q6]
          rw[this,Bool.true_and]⟩
        rw[q6]at hin;simp at hcl hin h4;simp[q2,q3]at hin h4;simp[QbP,hi,hxx,him,hy,hcl,q1,q2,q3,q4i,hin,hw,h4]
     ·have hsd:eqL Val.same x.QA y.QA=false:=by
        cases hs:eqL Val.same x.QA y.QA with
        | false=>rfl
        | true=>exact absurd (QaO hs) q4
      refine⟨_,?_,g++ [.arr 0 12 [x.enc],.arr 0 12 [y.enc]],(if_neg (by rw[eqL]; unfold It.same; rw[hsd]; simp)).symm⟩
      have q4i: ¬(x.QA.length:Int)=y.QA.length:=by omega
      simp[QbP,hi,hxx,him,hy,q1,q2,q3,q4i]
    ·refine⟨_,?_,g++ [.arr 0 12 [x.enc],.arr 0 12 [y.enc]],(if_neg (by rw[eqL]; unfold It.same; simp[q3])).symm⟩
     simp[QbP,hi,hxx,him,hy,q1,q2,q3]
   ·refine⟨_,?_,g++ [.arr 0 12 [x.enc],.arr 0 12 [y.enc]],(if_neg (by rw[eqL]; unfold It.same; simp[q2])).symm⟩
    simp[QbP,hi,hxx,him,hy,q1,q2]
  ·refine⟨_,?_,g++ [.arr 0 12 [x.enc],.arr 0 12 [y.enc]],(if_neg (by rw[eqL]; unfold It.same; simp[q1])).symm⟩
   simp[QbP,hi,hxx,him,hy,q1]
 ·intro g K _;have:u.items.drop t.items.length=[]:=by rw[hl]; simp
  refine⟨_,?_,g,by rw[this,eqL,if_pos rfl]⟩
  simp[QbP]
set_option maxHeartbeats 3000000 in
theorem QeI : ∀(n:Nat) (t u:Ty),t.size<=n->t.wid<=67108864-> ∀ws h,Qb cfg ws 24 [t.enc,u.enc] h=some (.bool (t.same u),h)
 | 0,t,_,ht,_,_,_=>by have:=t.size_pos; omega
 | n+1,t,u,ht,hb,ws,h=>by
  have hl1:=t.Qe;have hl2:=t.ZH;refine Qc rfl rfl ?_
  rw[Ty.Xu];by_cases q1:t.kind=u.kind
  ·by_cases q2:t.name.toList=u.name.toList
   ·by_cases q3:t.lo=u.lo
    ·by_cases q4:t.hi=u.hi
     ·by_cases q5:t.free=u.free
      ·by_cases q6:t.ext=u.ext
       ·by_cases q7:t.items.length=u.items.length
        ·by_cases q8:t.kids.length=u.kids.length
         ·obtain⟨g,e1⟩:=QrP t u h q7 hb (fun x hx y ws h=>QeI n x.of y (by have:=Ty.mem_of hx; omega) (by have:=Ty.ZI hx; omega) ws h)
          have e2:=Qud t u h g q8 (by omega) (fun x hx y ws h=>QeI n x y (by have:=Ty.Xa hx; omega) (by have:=Ty.ZT hx; omega) ws h)
          cases q9:eqL It.same t.items u.items
          ·rw[q9]at e1;simp at e1;simp[F24,c24,q1,q2,q3,q4,q5,q6,q7,q8];simp[q1,q2,q3,q4,q5,q6,q7,q8]at e1;simp[e1]
          ·rw[q9]at e1;cases q10:eqL Ty.same t.kids u.kids
           ·rw[q10]at e2;simp at e1 e2;simp[F24,c24,q1,q2,q3,q4,q5,q6,q7,q8];simp[q1,q2,q3,q4,q5,q6,q7,q8]at e1 e2;simp[e1,e2]
           ·rw[q10]at e2;simp at e1 e2;simp[F24,c24,q1,q2,q3,q4,q5,q6,q7,q8];simp[q1,q2,q3,q4,q5,q6,q7,q8]at e1 e2;simp[e1,e2]
         ·have hs:eqL Ty.same t.kids u.kids=false:=by
            cases hs:eqL Ty.same t.kids u.kids with
            | false=>rfl
            | true=>exact absurd (QaO hs) q8
          have q8i: ¬(t.kids.length:Int)=u.kids.length:=by omega
          rw[hs];simp[F24,c24,q1,q2,q3,q4,q5,q6,q7,q8i]
        ·have hs:eqL It.same t.items u.items=false:=by
           cases hs:eqL It.same t.items u.items with
           | false=>rfl
           | true=>exact absurd (QaO hs) q7
         have q7i: ¬(t.items.length:Int)=u.items.length:=by omega
         rw[hs];simp[F24,c24,q1,q2,q3,q4,q5,q6,q7i]
       ·simp[F24,c24,q1,q2,q3,q4,q5,q6]
      ·simp[F24,c24,q1,q2,q3,q4,q5]
     ·simp[F24,c24,q1,q2,q3,q4]
    ·simp[F24,c24,q1,q2,q3]
   ·simp[F24,c24,q1,q2]
  ·simp[F24,c24,q1]
end Go.Proofs.YtflbneepngjglaaGreatDoor
