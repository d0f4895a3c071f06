/- Values made plain: the document's plainDefault. -/
import Derived.Test.YtflbneepngjglaaGreatDoorO47
set_option linter.all false
namespace Go.Proofs.YtflbneepngjglaaGreatDoor
open Go Go.Avm
def cpV (L:Nat)(v:Val):AV:=if v.items=[]then v.enc else .agg [.int .i64 v.kind,.int .i64 v.int,.str v.bytes,.osl L 0 4 0 v.items.length]
def cpH (v:Val):Avm.H:=if v.items=[]then []else [.arr 0 4 (v.items.map Val.enc)]
theorem Qoe : ∀(n:Nat) (v:Val),v.size<=n->v.size<=67108864-> ∀ws h,Qb cfg ws 21 [v.enc] h=some (cpV h.length v,h++cpH v)
 | 0,v,hv,_,_,_=>by have:=v.size_pos; omega
 | n+1,v,hv,hb,ws,h=>by
  have hse:=v.size_eq;have hlen:=Val.Xr v.items;refine Qc rfl rfl ?_
  have hlp:=Qg (γ:=AV×Avm.H) (f:=evC (Qb cfg) Qa cfg.pol h.length h.length Qir) (keep:=[1,2,3,4]) v.items
   (fun i c=>Qy h.length 3 4 c.2 ((v.items.take i).map Val.enc) c.1/\(c.1= .esl\/v.items≠ []))
   (fun i _=>[(1,.ptr h.length 0 4 0 0),(2,.ptr (h.length+1) 0 4 0 0),(3,.ptr (h.length+2) 0 4 0 0),(4,.int .i64 i)])
   (fun _ g=>h++([.arr 0 4 [v.enc],.arr 0 4 [.agg [.int .i64 0,.int .i64 0,.str ⟨#[]⟩,.esl]],.arr 0 4 [.agg [.int .i64 v.kind,.int .i64 v.int,.str v.bytes,g.1]]]++g.2))
   (fun _ _ o=>∃v2 g,Qy h.length 3 4 g (v.items.map Val.enc) v2/\(v2= .esl\/v.items≠ [])/\o=(.exit 0,[(1,.ptr h.length 0 4 0 0),(2,.ptr (h.length+1) 0 4 0 0),(3,.ptr (h.length+2) 0 4 0 0),(4,.int .i64 v.items.length)],h++([.arr 0 4 [v.enc],.arr 0 4 [.agg [.int .i64 0,.int .i64 0,.str ⟨#[]⟩,.esl]],.arr 0 4 [.agg [.int .i64 v.kind,.int .i64 v.int,.str v.bytes,v2]]]++g))) ?_ ?_ (.esl,[]) ⟨.inl ⟨rfl,rfl⟩,.inl rfl⟩
  ·obtain⟨o,hl,v2,g,hI,hne,ho⟩:=hlp;subst ho;rcases hI with⟨he,rfl⟩ | ⟨j,ver,rfl,hj⟩
   ·have he:v.items=[]:=by simpa using he
    unfold cpV cpH;rw[if_pos he,if_pos he];simp[he]at hl;simp[F21,c21,he,hl]
   ·have he:v.items≠ []:=by simpa using hne
    have hjl:=(List.getElem?_eq_some_iff.1 hj).1
    have hset: ∀X:Qq,(List.set g j X)[j]? =some X:=fun X=>List.getElem?_set_self hjl
    unfold cpV cpH;rw[if_neg he,if_neg he];simp at hl;simp[F21,c21,hl,hj,hset]
  ·intro j x r c2 hd hi hx hII K hK;obtain⟨hI,_⟩:=hII;have hvne:v.items≠ []:=fun e=>by rw[e]at hi; simp at hi
   have hw:=Qd (n:=j+1) (by omega)
   simp at hw;have hm1:x∈v.items:=by rw[←hx]; exact List.getElem_mem hi
   have hsz:=Val.Zd hm1;have ht:v.items.take (j+1)=v.items.take j++ [x]:=by rw[List.take_succ_eq_append_getElem hi,hx]
   have hll:(v.items.take j).length=j:=by simp; omega
   have hcl:=fun h'=>Qoe n x (by omega) (by omega) h.length h'
   rw[ht]at hK;simp only[List.map_append]at hK;obtain⟨v1,g⟩:=c2;generalize hls:v.items.take j=ls at hK hI hll;by_cases hx0:x.items=[]
   ·simp only[cpV,cpH,if_pos hx0]at hcl;simp[hx0]at hcl;rcases hI with⟨he,hv⟩ | ⟨q,ver,hv,hj⟩
    ·dsimp only at hv;subst hv;have he:ls=[]:=by simpa using he
     subst he;obtain⟨o,h4,h5⟩:=hK (.osl (h.length+((g.length+1)+3)) 0 4 0 1,g++ [.arr 0 4 [x.enc],.arr 0 4 [x.enc]]) ⟨.inr ⟨g.length+1,0,by simp,by simp⟩,.inr hvne⟩
     refine⟨o,?_,h5⟩
     simp[hx0]at h4;simp[Qir,hi,hx,hx0,hcl,hw,QS,appended,Ju,h4]
    ·dsimp only at hv hj;subst hv;have hjl:=(List.getElem?_eq_some_iff.1 hj).1
     have hfl':ls.length+1<=4294967296:=by omega
     obtain⟨o,h4,h5⟩:=hK (.osl (h.length+(q+3)) (ver+1) 4 0 (ls.length+1),List.set (g++ [Qq.arr 0 4 [x.enc]]) q (Qq.arr (ver+1) 4 (ls.map Val.enc++ [x.enc])))
      ⟨.inr ⟨q,ver+1,by simp,by rw[List.getElem?_set_self (by simp; omega)]; simp⟩,.inr hvne⟩
     refine⟨o,?_,h5⟩
     have hones: ∀a∈ls,a.enc.cells.length=4:=fun a _=>by simp
     simp[hx0]at h4;simp[Qir,hi,hx,hx0,hcl,hw,QS,appended,Ju,h4,hj,hfl',List.getElem?_append_left hjl]
   ·simp only[cpV,cpH,if_neg hx0]at hcl;simp at hcl;rcases hI with⟨he,hv⟩ | ⟨q,ver,hv,hj⟩
    ·dsimp only at hv;subst hv;have he:ls=[]:=by simpa using he
     subst he;obtain⟨o,h4,h5⟩:=hK (.osl (h.length+((g.length+1+1)+3)) 0 4 0 1,g++ [.dead 1,.arr 0 4 [x.enc],.arr 0 4 [x.enc]]) ⟨.inr ⟨g.length+1+1,0,by simp,by rw[List.getElem?_append_right (by omega),show g.length+1+1-g.length=2 by omega]; simp⟩,.inr hvne⟩
     refine⟨o,?_,h5⟩
     simp at h4;simp[Qir,hi,hx,hcl,hw,QS,appended,Ju,h4]
    ·dsimp only at hv hj;subst hv;have hjl:=(List.getElem?_eq_some_iff.1 hj).1
     have hfl':ls.length+1<=4294967296:=by omega
     obtain⟨o,h4,h5⟩:=hK (.osl (h.length+(q+3)) (ver+1) 4 0 (ls.length+1),List.set (g++ [.dead 1,Qq.arr 0 4 [x.enc]]) q (Qq.arr (ver+1) 4 (ls.map Val.enc++ [x.enc])))
      ⟨.inr ⟨q,ver+1,by simp,by rw[List.getElem?_set_self (by simp; omega)]; simp⟩,.inr hvne⟩
     refine⟨o,?_,h5⟩
     have hones: ∀a∈ls,a.enc.cells.length=4:=fun a _=>by simp
     simp at h4;simp[Qir,hi,hx,hcl,hw,QS,appended,Ju,h4,hj,hfl',List.getElem?_append_left hjl]
  ·intro c2 K hI;refine⟨_,?_,c2.1,c2.2,by simpa using hI.1,hI.2,rfl⟩
   simp[Qir]
end Go.Proofs.YtflbneepngjglaaGreatDoor
namespace Go.Proofs.YtflbneepngjglaaGreatDoor
open Go Go.Avm
def YQ (q:Ty×Val):AV:=.agg [.int .i64 q.1.kind,.str q.1.name,.int .i64 q.1.lo,.int .i64 q.1.hi,.bool q.1.free,.bool q.1.ext,.isl (q.1.items.map It.enc),.isl (q.1.kids.map Ty.enc),.int .i64 q.2.kind,.int .i64 q.2.int,.str q.2.bytes,.isl (q.2.items.map Val.enc)]
def QfI (h:Avm.H)(s:AV)(u:List (Ty×Val)):Prop:=(u=[]/\s= .isl [])\/ ∃c ver,c<h.length/\s= .osl c ver 12 0 u.length/\h[c]? =some (.arr ver 12 (u.map YQ))
theorem QfI.more{h:Avm.H}{s:AV}{u:List (Ty×Val)}(A:QfI h s u)(g:Avm.H):QfI (h++g) s u:=by
 rcases A with A | ⟨c,ver,h1,h2,h3⟩
 ·exact .inl A
 ·exact .inr ⟨c,ver,by simp; omega,h2,by rw[List.getElem?_append_left h1]; exact h3⟩
structure Qwj (q:Ty×Val):Prop where
 wid:q.1.wid<=67108864
 size:q.2.size<=67108864
theorem QrV (m:Md)(x:It)(d0:Val)(dr:List Val)(hd:x.QA=d0::dr)(u:List (Ty×Val))(hu: ∀q∈u,Qwj q)(hlu:u.length<=67108864)(h:Avm.H)(c ver:Nat)(hc:c<h.length)(hcg:h[c]? =some (.arr ver 12 (u.map YQ))):
    Qa (evC (Qb cfg) Qa cfg.pol h.length h.length WI) [2,3,4,6,7] [(2,.osl c ver 12 0 u.length),(3,.ptr h.length 0 2 0 0),(4,.ptr (h.length+1) 0 12 0 0),(6,.ptr (h.length+2) 0 4 0 0),(7,.int .i64 (0:Nat))]
     (h++ [.arr 0 2 [m.enc],.arr 0 12 [x.enc],.arr 0 4 [.agg [.int .i64 0,.int .i64 0,.str ⟨#[]⟩,.esl]]])=
     some (if WZ u x.of d0=true then(.ret,[(6,.ptr (h.length+2) 0 4 0 0)],h++ [.arr 0 2 [m.enc],.arr 0 12 [x.enc],.arr 0 4 [d0.enc]])
      else(.exit 0,[(2,.osl c ver 12 0 u.length),(3,.ptr h.length 0 2 0 0),(4,.ptr (h.length+1) 0 12 0 0),(6,.ptr (h.length+2) 0 4 0 0),(7,.int .i64 u.length)],h++ [.arr 0 2 [m.enc],.arr 0 12 [x.enc],.arr 0 4 [.agg [.int .i64 0,.int .i64 0,.str ⟨#[]⟩,.esl]]])):=by
 have hlp:=QE (f:=evC (Qb cfg) Qa cfg.pol h.length h.length WI) (keep:=[2,3,4,6,7]) u
  (fun i=>[(2,.osl c ver 12 0 u.length),(3,.ptr h.length 0 2 0 0),(4,.ptr (h.length+1) 0 12 0 0),(6,.ptr (h.length+2) 0 4 0 0),(7,.int .i64 i)])
  (fun _=>h++ [.arr 0 2 [m.enc],.arr 0 12 [x.enc],.arr 0 4 [.agg [.int .i64 0,.int .i64 0,.str ⟨#[]⟩,.esl]]])
  (fun j r=>if WZ r x.of d0=true then(.ret,[(6,.ptr (h.length+2) 0 4 0 0)],h++ [.arr 0 2 [m.enc],.arr 0 12 [x.enc],.arr 0 4 [d0.enc]])
       else(.exit 0,[(2,.osl c ver 12 0 u.length),(3,.ptr h.length 0 2 0 0),(4,.ptr (h.length+1) 0 12 0 0),(6,.ptr (h.length+2) 0 4 0 0),(7,.int .i64 u.length)],h++ [.arr 0 2 [m.enc],.arr 0 12 [x.enc],.arr 0 4 [.agg [.int .i64 0,.int .i64 0,.str ⟨#[]⟩,.esl]]])) ?_ ?_
 ·exact hlp
 ·intro j q r hdr hi hq K hK;have hw:=Qd (n:=j+1) (by omega)
  simp at hw;have hqm:q∈u:=by rw[←hq]; exact List.getElem_mem hi
  obtain⟨hw1,hs1⟩:=hu q hqm;have hcg': ∀g:Avm.H,(h++g)[c]? =some (.arr ver 12 (u.map YQ)):=fun g=>by rw[List.getElem?_append_left hc]; exact hcg
  have hcne: ∀k,¬c=h.length+k:=fun k=>by omega
  have hcne0: ¬c=h.length:=by omega
  have e1:=fun ws h=>QeI _ q.1 x.of (Nat.le_refl _) hw1 ws h
  have e2:=fun ws h=>Qcb _ q.2 d0 (Nat.le_refl _) hs1 ws h
  have hmet:WZ (q::r) x.of d0=((q.1.same x.of&&q.2.same d0)||WZ r x.of d0):=by
   unfold WZ; rw[List.any_cons,Ty.QeG,Val.QeG]
  rw[hmet];have hgj:(u.map YQ)[j]? =some (YQ q):=by rw[List.getElem?_map,List.getElem?_eq_getElem hi,hq]; rfl
  have hil:j<(u.map YQ).length:=by simpa using hi
  have hlen:(u.map YQ).length=u.length:=by simp
  generalize (u.map YQ)=els at hgj hcg' hil hlen;unfold YQ at hgj;obtain⟨hilx,hgi⟩:=List.getElem?_eq_some_iff.1 hgj
  simp at e1 e2;cases s1:q.1.same x.of
  ·rw[s1]at e1;simp at hK;simp[WI,hi,hcg',hgi,hil,hlen,hcne,hcne0,e1,hw,hK]
  ·rw[s1]at e1;cases s2:q.2.same d0
   ·rw[s2]at e2;simp[WI,hi,hcg',hgi,hil,hlen,hcne,hcne0,hd,e1,e2,hw];simp[hd]at hK;simp[hK]
   ·rw[s2]at e2;simp[WI,hi,hcg',hgi,hil,hlen,hcne,hcne0,hd,e1,e2]
 ·intro K;have:WZ ([]:List (Ty×Val)) x.of d0=false:=rfl;rw[this];simp[WI]
theorem QwQ (m:Md)(x:It)(hx:QiO x)(u:List (Ty×Val))(hu: ∀q∈u,Qwj q)(hlu:u.length<=67108863)(f:List (Ty×Val)->Ty->Val->Option Val)(d:Val)(hd:QeF f u x=some d)
    (hpl:WZ u x.of x.d0=false-> ∀d,f (u++ [JD x]) x.of x.d0=some d-> ∀S h,QfI h S (u++ [JD x])-> ∀ws,Qb cfg ws 76 [m.enc,x.of.enc,x.d0.enc,S] h=some (d.enc,h))
    (S:AV) (h:Avm.H) (A:QfI h S u) (ws:Nat):Qb cfg ws 140 [m.enc,x.enc,S] h=some (d.enc,h):=by
 obtain⟨hwid,d0,dr,hdf,hds⟩:=hx;unfold QeF at hd;rcases A with⟨rfl,rfl⟩ | ⟨c,ver,hc,rfl,hcg⟩
 ·have hmet:WZ ([]:List (Ty×Val)) x.of x.d0=false:=rfl;rw[if_neg (by rw[hmet]; simp)]at hd
  have e3:=fun ws=>hpl hmet d hd (.osl (h.length+3) 2 12 0 1) (h++ [.arr 0 2 [m.enc],.arr 0 12 [x.enc],.arr 0 4 [.agg [.int .i64 0,.int .i64 0,.str ⟨#[]⟩,.esl]],.arr 2 12 [YQ (JD x)],.arr 0 12 [YQ (JD x)]])
   (.inr ⟨h.length+3,2,by simp,by simp,by rw[Zh]; simp⟩) ws
  have e4: ∀K:Env->Avm.H->Out,Qa (evC (Qb cfg) Qa cfg.pol h.length h.length WI) [2,3,4,6,7] [(2,.isl []),(3,.ptr h.length 0 2 0 0),(4,.ptr (h.length+1) 0 12 0 0),(6,.ptr (h.length+2) 0 4 0 0),(7,.int .i64 (0:Nat))]
   (h++ [.arr 0 2 [m.enc],.arr 0 12 [x.enc],.arr 0 4 [.agg [.int .i64 0,.int .i64 0,.str ⟨#[]⟩,.esl]]])=some (.exit 0,[(2,.isl []),(3,.ptr h.length 0 2 0 0),(4,.ptr (h.length+1) 0 12 0 0),(6,.ptr (h.length+2) 0 4 0 0),(7,.int .i64 (0:Nat))],(h++ [.arr 0 2 [m.enc],.arr 0 12 [x.enc],.arr 0 4 [.agg [.int .i64 0,.int .i64 0,.str ⟨#[]⟩,.esl]]])):=by
   intro _
   have hlp:=QE (f:=evC (Qb cfg) Qa cfg.pol h.length h.length WI) (keep:=[2,3,4,6,7]) ([]:List Val)
    (fun i=>[(2,.isl []),(3,.ptr h.length 0 2 0 0),(4,.ptr (h.length+1) 0 12 0 0),(6,.ptr (h.length+2) 0 4 0 0),(7,.int .i64 i)])
    (fun _=>(h++ [.arr 0 2 [m.enc],.arr 0 12 [x.enc],.arr 0 4 [.agg [.int .i64 0,.int .i64 0,.str ⟨#[]⟩,.esl]]]))
    (fun _ _=>(.exit 0,[(2,.isl []),(3,.ptr h.length 0 2 0 0),(4,.ptr (h.length+1) 0 12 0 0),(6,.ptr (h.length+2) 0 4 0 0),(7,.int .i64 (0:Nat))],(h++ [.arr 0 2 [m.enc],.arr 0 12 [x.enc],.arr 0 4 [.agg [.int .i64 0,.int .i64 0,.str ⟨#[]⟩,.esl]]]))) ?_ ?_
   ·exact hlp
   ·intro j q r hdr hi; simp at hi
   ·intro K; simp[WI]
  have e4:=e4 (fun _ _=>none)
  refine Qc rfl rfl ?_
  have hk:JD x=(x.of,d0):=by unfold JD; rw[Qai hdf]
  rw[hk,Qai hdf]at e3;unfold YQ at e3;simp only[Md.enc]at e3 e4;simp[hdf]at e3 e4;simp[Qyc,QxM,Md.enc,hdf,e3,e4,Ju,appended,QS]
 ·have e4:=QrV m x d0 dr hdf u hu (by omega) h c ver hc hcg
  have hcg': ∀g:Avm.H,(h++g)[c]? =some (.arr ver 12 (u.map YQ)):=fun g=>by rw[List.getElem?_append_left hc]; exact hcg
  have hcne: ∀k,¬c=h.length+k:=fun k=>by omega
  have hcne0: ¬c=h.length:=by omega
  refine Qc rfl rfl ?_
  by_cases hmet:WZ u x.of x.d0=true
  ·rw[if_pos hmet]at hd;injection hd with hd;rw[Qai hdf]at hmet hd;subst hd;rw[if_pos hmet]at e4;simp only[Md.enc]at e4;simp[hdf]at e4;simp[Qyc,QxM,Md.enc,hdf,e4]
  ·rw[if_neg hmet]at hd;rw[Qai hdf]at hmet;rw[if_neg hmet]at e4;have hmet:WZ u x.of x.d0=false:=by rw[Qai hdf]; simpa using hmet
   have e3:=fun ws=>hpl hmet d hd (.osl (h.length+3) 2 12 0 (u.length+1)) (h++ [.arr 0 2 [m.enc],.arr 0 12 [x.enc],.arr 0 4 [.agg [.int .i64 0,.int .i64 0,.str ⟨#[]⟩,.esl]],.arr 2 12 (u.map YQ++ [YQ (JD x)]),.arr 0 12 [YQ (JD x)]])
    (.inr ⟨h.length+3,2,by simp,by simp,by rw[Zh]; simp⟩) ws
   have hk:JD x=(x.of,d0):=by unfold JD; rw[Qai hdf]
   rw[hk,Qai hdf]at e3
   have hall: ∀a∈u.map YQ,a.cells.length=12/\ ∀y∈a.cells,y.one=true:=fun a ha=>by
    obtain⟨q,_,rfl⟩:=List.mem_map.1 ha;simp[YQ]
   have hlen:(u.map YQ).length=u.length:=by simp
   have htk:(u.map YQ).take u.length=u.map YQ:=List.take_of_length_le (by simp)
   have hlim:u.length<=4294967296:=by omega
   have hlim2:u.length+1<=4294967296:=by omega
   generalize (u.map YQ)=els at*;have hallT:=eq_true hall;unfold YQ at e3;simp only[Md.enc]at e3 e4;simp[hdf]at e3 e4;simp[Qyc,QxM,Md.enc,hdf,e3,e4,Ju,appended,QS,hcg',hcne,hcne0,hlen,hlim,hlim2,htk,hallT]
end Go.Proofs.YtflbneepngjglaaGreatDoor
