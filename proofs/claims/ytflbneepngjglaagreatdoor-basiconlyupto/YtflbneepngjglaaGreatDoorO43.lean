/- Check of a module: the pieces. -/
import Derived.Test.YtflbneepngjglaaGreatDoorO42
set_option linter.all false
namespace Go.Proofs.YtflbneepngjglaaGreatDoor
open Go Go.Avm
def Qbb (ps:List ByteArray)(x:Ty):Bool:=!(decide (x.kind=10)&&inS ps x.name)
theorem QuH (ps:List ByteArray)(hp:ps.length<=67108864)(t:Ty)(ht:t.wid<=67108864)(hb:t.nodes<=67108864)(h:Avm.H): ∃g,Qa (evC (Qb cfg) Qa cfg.pol h.length h.length Qdr) [1,5,6] [(1,.isl (ps.map .str)),(5,.isl (t.QZ.map Ty.enc)),(6,.int .i64 (0:Nat))] (h++([.arr 0 8 [t.enc]]++ []))=some (if(t.QZ).all (Qbb ps)=true then(.exit 0,[(1,.isl (ps.map .str)),(5,.isl (t.QZ.map Ty.enc)),(6,.int .i64 (t.QZ).length)],h++([.arr 0 8 [t.enc]]++g))else(.ret,[(4,.bool true)],h++([.arr 0 8 [t.enc]]++g))):=by
 have hl:(t.QZ).length<=67108864:=(by have:=JH _ t (Nat.le_refl _); omega)
 have hlp:=Qg (γ:=Avm.H) (f:=evC (Qb cfg) Qa cfg.pol h.length h.length Qdr) (keep:=[1,5,6]) (t.QZ) (fun _ _=>True)
      (fun i _=>[(1,.isl (ps.map .str)),(5,.isl (t.QZ.map Ty.enc)),(6,.int .i64 i)]) (fun _ g=>h++([.arr 0 8 [t.enc]]++g))
      (fun _ r o=>∃g,o=if r.all (Qbb ps)=true then(.exit 0,[(1,.isl (ps.map .str)),(5,.isl (t.QZ.map Ty.enc)),(6,.int .i64 (t.QZ).length)],h++([.arr 0 8 [t.enc]]++g))else(.ret,[(4,.bool true)],h++([.arr 0 8 [t.enc]]++g))) ?_ ?_ [] trivial
 ·obtain⟨o,h1,g,h2⟩:=hlp;exact⟨g,h2▸h1⟩
 ·intro i x r g hd hi hx _ K hK;have hw:=Qd (n:=i+1) (by omega)
  simp at hw;have hm:x∈(t.QZ):=by rw[←hx]; exact List.getElem_mem hi
  have e0:=fun ws h=>QpJ ps x.name hp ws h
  cases hv:(Qbb ps) x
  ·refine⟨_,?_,g,by simp only[List.all_cons,hv,Bool.false_and,Bool.false_eq_true,if_false]; rfl⟩
   unfold Qbb at hv;by_cases q:x.kind=10
   ·have hv2:inS ps x.name=true:=by simpa[q]using hv
    rw[hv2]at e0;simp[Qdr,hi,hx,q,e0]
   ·simp[q]at hv
  ·obtain⟨o,h4,g2,h5⟩:=hK g trivial;refine⟨o,?_,g2,by simp only[List.all_cons,hv,Bool.true_and]; exact h5⟩
   simp at h4;unfold Qbb at hv;by_cases q:x.kind=10
   ·have hv2:inS ps x.name=false:=by simpa[q]using hv
    rw[hv2]at e0;simp[Qdr,hi,hx,q,e0,hw,h4]
   ·simp[Qdr,hi,hx,q,hw,h4]
 ·intro g K _;refine⟨_,?_,g,by simp only[List.all_nil,if_true]; rfl⟩
  simp[Qdr]
def QaG (ps:List ByteArray)(t:Ty):Bool:=!t.Qz (Qbb ps)
theorem QuG (t:Ty)(ht:t.wid<=67108864)(hb:t.nodes<=67108864)(ps:List ByteArray)(hp:ps.length<=67108864)(ws:Nat)(h:Avm.H):Qb cfg ws 262 [t.enc,.isl (ps.map .str)] h=some (.bool (QaG ps t),h):=by
 obtain⟨g,hl⟩:=QuH ps hp t ht hb h;have ha:=fun ws h=>QaD _ t (Nat.le_refl _) ht hb ws h
 rw[YV _ _ t (Nat.le_refl _)]at hl;refine Qc rfl rfl ?_
 unfold QaG;simp at ha;cases q:t.Qz (Qbb ps)
 ·rw[q]at hl;simp at hl;simp[QAr,QzI,ha,hl]
 ·rw[q]at hl;simp at hl;simp[QAr,QzI,ha,hl]
end Go.Proofs.YtflbneepngjglaaGreatDoor
namespace Go.Proofs.YtflbneepngjglaaGreatDoor
open Go Go.Avm
theorem QpW (m:Md)(ps:List ByteArray)(hp:ps.length<=67108864)(x:Ty)(ws:Nat)(h:Avm.H):Qb cfg ws 267 [x.enc,.iptr [.str m.name,.isl (m.defs.map Df.enc),.isl (ps.map .str)]] h=some (.bool (Qbb ps x),h):=by
 have e0:=fun ws h=>Qek ps x.name hp ws h
 refine Qc rfl rfl ?_
 unfold Qbb;by_cases q:x.kind=10
 ·simp[QAq,QzH,q,e0]
 ·simp[QAq,QzH,q]
theorem Qte (m:Md)(ps:List ByteArray)(hp:ps.length<=67108864)(t:Ty)(hw0:t.wid<=67108864)(hb:t.nodes<=67108864)(ws:Nat)(h:Avm.H):Qb cfg ws 235 [.agg [.str m.name,.isl (m.defs.map Df.enc),.isl (ps.map .str)],t.enc] h=some (.bool (QaG ps t),h):=by
 have h2:=fun ws h cap hcap=>YG (cap':=[.iptr [.str m.name,.isl (m.defs.map Df.enc),.isl (ps.map .str)]]) (k:=0) (.inl rfl) (by simp) _ t (Nat.le_refl _) hw0 hb (fun x _ hx _ ws h'=>by simpa using QpW m ps hp x ws h') ws h cap hcap
 refine Qc rfl rfl ?_
 unfold QaG;simp at h2;simp[QCZ,QCh,h2]
def JJ (m:Md)(ps:List ByteArray)(i:It):Bool:=match i.QA with
 | []=>true
 | [d]=>!i.opt&&(!QaG ps i.of&&(Xn m d.size i.of d&&Wd d))
 | _=>false
theorem QlV (m:Md)(hm:m.ok)(hf:m.fm)(ps:List ByteArray)(hp:ps.length<=67108864)(i:It)(hw:i.of.wid<=67108864)(hb:i.QA≠ []->i.of.nodes<=67108864)(hr:i.QA≠ []->i.of.Qz Qk=true)(hd: ∀d∈i.QA,d.size<=67108864)(ws:Nat)(h:Avm.H):
    Qb cfg ws 165 [.agg [.str m.name,.isl (m.defs.map Df.enc),.isl (ps.map .str)],i.enc] h=some (.bool (JJ m ps i),h):=by
 refine Qc rfl rfl ?_
 unfold JJ
 match hi:i.QA with
 | []=>simp[Qqn,Qqc,hi]
 | [d]=>
  have hne:i.QA≠ []:=by rw[hi]; simp
  have hds:=hd d (by rw[hi]; simp)
  have e1:=fun ws h=>Qte m ps hp i.of hw (hb hne) ws h
  have e2:=fun ws h=>QgE m hm hf _ d (Nat.le_refl _) hds i.of hw (hr hne) ws h
  have e3:=fun ws h=>Qrf d hds ws h
  simp[Md.enc]at e1 e2 e3;cases q1:i.opt
  ·cases q2:QaG ps i.of
   ·rw[q2]at e1;cases q3:Xn m d.size i.of d
    ·rw[q3]at e2;simp[Qqn,Qqc,hi,q1,q3,e1,e2]
    ·rw[q3]at e2;simp[Qqn,Qqc,hi,q1,q3,e1,e2,e3]
   ·rw[q2]at e1;simp[Qqn,Qqc,hi,q1,e1]
  ·simp[Qqn,Qqc,hi,q1]
 | d::e::r=>
  have h1:(1:Int)<(r.length:Int)+1+1:=by omega
  have h0:((r.length:Int)+1+1 == 0)=false:=by simp; omega
  simp[Qqn,Qqc,hi,h1,h0]
end Go.Proofs.YtflbneepngjglaaGreatDoor
namespace Go.Proofs.YtflbneepngjglaaGreatDoor
open Go Go.Avm
theorem QgR {g:FuncId}{k:Nat}{p:Ty->Bool}{cap':List AV}(Q:Ty->Prop)(hQ: ∀x y:Ty,Q x->y∈x.inner->Q y)(hs:Still cfg g)(hcp:Qv cap'=true): ∀(n:Nat) (t:Ty),t.size<=n->t.wid<=67108864->t.nodes<=67108864->Q t->
    (∀x:Ty,Q x->x.size<=n->x.wid<=t.wid->x.nodes<=t.nodes-> ∀ws h',Qb cfg ws g (cap'.take k++([x.enc]++cap'.drop k)) h'=some (.bool (p x),h'))->
    ∀ws h cap,QH (snap h 7) cap=some cap'->Qb cfg ws 82 [t.enc,.QI g k cap] h=some (.bool (t.Qz p),h)
 | 0,t,ht,_,_,_,_,_,_,_,_=>by have:=t.size_pos; omega
 | n+1,t,ht,hw0,hb,hq,hp,ws,h,cap,hcap=>by
  have hk:=QlC t hw0;have hpt:=fun ws h=>hp t hq ht (Nat.le_refl _) (Nat.le_refl _) ws h
  have hlen:=t.Qac
  have hsub: ∀x∈t.inner,∀ws h',Qb cfg ws 158 [x.enc,.iptr [.QI g k cap']] h'=some (.bool (!(x.Qz p)),h'):=fun x hx ws h'=>by
   have h1:=Ty.QQ hx;have h2:=Ty.ZU hx;have h3:=Ty.Xx hx;have hin:=fun h=>QgR Q hQ hs hcp n x (by omega) (by omega) (by omega) (hQ t x hq hx) (fun y hyq hy hyw hyn ws h'=>hp y hyq (by omega) (by omega) (by omega) ws h') h'.length h cap' (Qx hcp)
   refine Qc rfl rfl ?_
   simp at hin;simp[QAz,QAd,Qx hcp,hcp,hin]
  have hct:=fun h cap2 (hcap2:QH (snap h 7) cap2=some [.iptr [.QI g k cap']])=>Qej (k:=0) t.inner (by omega) (.inl rfl) h hcap2 (by simp[hcp]) (fun x hx ws h'=>by simpa using hsub x hx ws h')
  refine Qc rfl rfl ?_
  rw[Ty.JL];simp at hk hpt;have hpol:=hs;cases hv:p t
  ·rw[hv]at hpt;rcases hs with hs | ⟨b,hs⟩<;>simp[F82,c82,hcap,hs,hpt]
  ·rw[hv]at hpt;rcases hs with hs | ⟨b,hs⟩<;>simp[F82,c82,hcap,hs,hpt,hk,hct,Qx hcp,WA]
def Xg (m:Md)(ps:List ByteArray)(t:Ty):Bool:=!decide (t.kind=8)||t.items.all (JJ m ps)
structure QT (t:Ty):Prop where
 wid:t.wid<=67108864
 nodes:t.nodes<=600
 right:t.Qz Qk=true
 size:t.size<=67108864
theorem QT.inner{t x:Ty}(h:QT t)(hx:x∈t.inner):QT x:=
 ⟨Nat.le_trans (Ty.ZU hx) h.wid,by have:=Ty.Xx hx; have:=h.nodes; omega,Qs h.right hx,by have:=Ty.QQ hx; have:=h.size; omega⟩
theorem QT.QA{t:Ty}(h:QT t){i:It}(hi:i∈t.items): ∀d∈i.QA,d.size<=67108864:=fun d hd=>by
 have:=It.Qnp hd; have:=Ty.Qu hi; have:=h.size; omega
theorem QT.record{t:Ty}(h:QT t){i:It}(hi:i∈t.items)(hd:i.QA≠ []):t.kind=8:=by
 have hr:=QO h.right;by_cases hc:t.comp=true
 ·by_cases q8:t.kind=8
  ·exact q8
  ·have q9:t.kind=9:=by simpa[Ty.comp,q8]using hc
   unfold Qk at hr;simp[q9]at hr;have:=hr.2.2 i hi;simp[XM]at this;exact absurd this.2 hd
 ·rcases Yj hr hc with h0 | h0
  ·rw[h0]at hi; cases hi
  ·have:=List.all_eq_true.1 h0 i hi;simp[JQ]at this;exact absurd this.2.2 hd
theorem QT.of{t:Ty}(h:QT t){i:It}(hi:i∈t.items)(hd:i.QA≠ []):QT i.of:=
 h.inner (by unfold Ty.inner; rw[if_pos (by unfold Ty.comp; simp[h.record hi hd])]; exact List.mem_append_right _ (List.mem_map_of_mem hi))
theorem QoW (m:Md)(ps:List ByteArray){t:Ty}(h:QT t):Xg m ps t=t.items.all (JJ m ps):=by
 unfold Xg;by_cases q:t.kind=8
 ·simp[q]
 ·have:t.items.all (JJ m ps)=true:=List.all_eq_true.2 fun i hi=>by
    unfold JJ;cases hd:i.QA with
    | nil=>rfl
    | cons d r=>exact absurd (h.record hi (by rw[hd]; simp)) q
  rw[this];simp
theorem QoV (m:Md)(hm:m.ok)(hf:m.fm)(ps:List ByteArray)(hp:ps.length<=67108864)(t:Ty)(hq:QT t)(ws:Nat)(h:Avm.H):Qb cfg ws 84 [.agg [.str m.name,.isl (m.defs.map Df.enc),.isl (ps.map .str)],t.enc] h=some (.bool (Xg m ps t),h):=by
 have hwi:=t.Qe;have hw:=hq.wid
 have h1: ∀i∈t.items,∀ws h',Qb cfg ws 164 [i.enc,.iptr [.str m.name,.isl (m.defs.map Df.enc),.isl (ps.map .str)]] h'=some (.bool (!JJ m ps i),h'):=fun i hi ws h'=>by
  have e0:=fun ws h=>QlV m hm hf ps hp i (Nat.le_trans (Ty.ZI hi) hw) (fun hd=>by have:=(hq.of hi hd).nodes; omega) (fun hd=>(hq.of hi hd).right) (hq.QA hi) ws h
  simp at e0;refine Qc rfl rfl ?_
  simp[QDp,QCx,e0]
 have hct:=fun h cap (hcap:QH (snap h 7) cap=some [.iptr [.str m.name,.isl (m.defs.map Df.enc),.isl (ps.map .str)]]) ws=>JK (g:=164) (k:=0) (p:=fun i=>!JJ m ps i) t.items (by omega) (.inl rfl) h hcap (by simp) (fun i hi ws h'=>by simpa using h1 i hi ws h') ws
 simp only[WA]at hct;refine Qc rfl rfl ?_
 unfold Xg;generalize t.items.all (JJ m ps)=A at hct ⊢;by_cases q:t.kind=8
 ·simp[F84,c84,q,hct]
 ·simp[F84,c84,q]
end Go.Proofs.YtflbneepngjglaaGreatDoor
namespace Go.Proofs.YtflbneepngjglaaGreatDoor
open Go Go.Avm
theorem Qtb (m:Md)(hmk:m.ok)(hl:m.lim)(hf:m.fm)(ps:List ByteArray)(hp:ps.length<=67108864)(t:Ty)(hq:QT t)(h:Avm.H): ∃g,Qa (evC (Qb cfg) Qa cfg.pol h.length h.length WH) [1,3,5,7] [(1,.isl (ps.map .str)),(3,.ptr h.length 0 2 0 0),(5,.ptr (h.length+1) 0 8 0 0),(7,.int .i64 (0:Nat))] (h++([.arr 0 2 [m.enc],.arr 0 8 [t.enc]]++ []))=some (if(t.items).all (JJ m ps)=true then(.exit 0,[(1,.isl (ps.map .str)),(3,.ptr h.length 0 2 0 0),(5,.ptr (h.length+1) 0 8 0 0),(7,.int .i64 (t.items).length)],h++([.arr 0 2 [m.enc],.arr 0 8 [t.enc]]++g))else(.ret,[(6,.bool false)],h++([.arr 0 2 [m.enc],.arr 0 8 [t.enc]]++g))):=by
 have hlt:(t.items).length<=67108864:=(Nat.le_trans t.Qe hq.wid)
 have hlp:=Qg (γ:=Avm.H) (f:=evC (Qb cfg) Qa cfg.pol h.length h.length WH) (keep:=[1,3,5,7]) (t.items) (fun _ _=>True)
      (fun i _=>[(1,.isl (ps.map .str)),(3,.ptr h.length 0 2 0 0),(5,.ptr (h.length+1) 0 8 0 0),(7,.int .i64 i)]) (fun _ g=>h++([.arr 0 2 [m.enc],.arr 0 8 [t.enc]]++g))
      (fun _ r o=>∃g,o=if r.all (JJ m ps)=true then(.exit 0,[(1,.isl (ps.map .str)),(3,.ptr h.length 0 2 0 0),(5,.ptr (h.length+1) 0 8 0 0),(7,.int .i64 (t.items).length)],h++([.arr 0 2 [m.enc],.arr 0 8 [t.enc]]++g))else(.ret,[(6,.bool false)],h++([.arr 0 2 [m.enc],.arr 0 8 [t.enc]]++g))) ?_ ?_ [] trivial
 ·obtain⟨o,h1,g,h2⟩:=hlp;exact⟨g,h2▸h1⟩
 ·intro i x r g hd hi hx _ K hK;have hw:=Qd (n:=i+1) (by omega)
  simp at hw;have hm:x∈(t.items):=by rw[←hx]; exact List.getElem_mem hi
  have hq2:x.QA≠ []->QT x.of:=fun hd=>hq.of hm hd
  have hds:=hq.QA hm;cases hv:(JJ m ps) x
  ·refine⟨_,?_,(g++ [.arr 0 12 [x.enc]]),by simp only[List.all_cons,hv,Bool.false_and,Bool.false_eq_true,if_false]; rfl⟩
   rcases hd0:x.QA with _ | ⟨d,_ | ⟨e,r2⟩⟩
   ·simp[JJ,hd0]at hv
   ·have hne:x.QA≠ []:=by rw[hd0]; simp
    have hqo:=hq2 hne;have hdz:=hds d (by rw[hd0]; simp)
    have e1:=fun ws h=>QuG x.of hqo.wid (by have:=hqo.nodes; omega) ps hp ws h
    have e2:=fun ws h=>QpL m hmk hl hf x.of hqo.wid hqo.nodes hqo.right d hdz ws h
    simp[Md.enc]at e1 e2;cases q1:x.opt
    ·cases q2:QaG ps x.of
     ·rw[q2]at e1;have q3:(Wd d&&Xn m d.size x.of d)=false:=by rw[Bool.and_comm]; simpa[JJ,hd0,q1,q2]using hv
      simp only[q3]at e2;simp[WH,Md.enc,hi,hx,hd0,q1,e1,e2]
     ·rw[q2]at e1;simp[WH,Md.enc,hi,hx,hd0,q1,e1]
    ·simp[WH,Md.enc,hi,hx,hd0,q1]
   ·have h1:(1:Int)<(r2.length:Int)+1+1:=by omega
    have h0:((r2.length:Int)+1+1 == 0)=false:=by simp; omega
    simp[WH,Md.enc,hi,hx,hd0,h1,h0]
  ·obtain⟨o,h4,g2,h5⟩:=hK (g++ [.arr 0 12 [x.enc]]) trivial;refine⟨o,?_,g2,by simp only[List.all_cons,hv,Bool.true_and]; exact h5⟩
   rcases hd0:x.QA with _ | ⟨d,_ | ⟨e,r2⟩⟩
   ·simp[Md.enc,hd0]at h4;simp[WH,Md.enc,hi,hx,hd0,hw,h4]
   ·have hne:x.QA≠ []:=by rw[hd0]; simp
    have hqo:=hq2 hne;have hdz:=hds d (by rw[hd0]; simp)
    have e1:=fun ws h=>QuG x.of hqo.wid (by have:=hqo.nodes; omega) ps hp ws h
    have e2:=fun ws h=>QpL m hmk hl hf x.of hqo.wid hqo.nodes hqo.right d hdz ws h
    simp[Md.enc]at e1 e2;have q0:x.opt=false/\QaG ps x.of=false/\(Xn m d.size x.of d=true/\Wd d=true):=by simpa[JJ,hd0]using hv
    have q3:(Wd d&&Xn m d.size x.of d)=true:=by rw[q0.2.2.1,q0.2.2.2]; rfl
    rw[q0.2.1]at e1;simp only[q3]at e2;simp[Md.enc,hd0]at h4;simp[WH,Md.enc,hi,hx,hd0,q0.1,e1,e2,hw];simp[q0.1]at h4;simp[h4]
   ·simp[JJ,hd0]at hv
 ·intro g K _;refine⟨_,?_,g,by simp only[List.all_nil,if_true]; rfl⟩
  simp[WH]
theorem Qod (m:Md)(hmk:m.ok)(hl:m.lim)(hf:m.fm)(ps:List ByteArray)(hp:ps.length<=67108864)(t:Ty)(hq:QT t)(ws:Nat)(h:Avm.H):Qb cfg ws 219 [m.enc,.isl (ps.map .str),t.enc] h=some (.bool (Xg m ps t),h):=by
 obtain⟨g,hlp⟩:=Qtb m hmk hl hf ps hp t hq h;rw[QoW m ps hq];refine Qc rfl rfl ?_
 cases q:t.items.all (JJ m ps)
 ·rw[q]at hlp;simp[Md.enc]at hlp;simp[QAv,QzP,Md.enc,hlp]
 ·rw[q]at hlp;simp[Md.enc]at hlp;simp[QAv,QzP,Md.enc,hlp]
end Go.Proofs.YtflbneepngjglaaGreatDoor
namespace Go.Proofs.YtflbneepngjglaaGreatDoor
open Go Go.Avm
theorem QqF : ∀(n:Nat) (t:Ty),t.size<=n->QT t-> ∀x∈t.QZ,QT x
 | 0,t,h,_,_,_=>by have:=t.size_pos; omega
 | n+1,t,h,hq,x,hx=>by
  rw[Ty.QdX]at hx;rcases List.mem_cons.1 hx with rfl | hx
  ·exact hq
  ·obtain⟨y,hy,hxy⟩:=List.mem_flatMap.1 hx;have hyi:=(Jo _ _).1 hy;exact QqF n y (by have:=Ty.QQ hyi; omega) (hq.inner hyi) x hxy
theorem QoK (m:Md)(hmk:m.ok)(hl0:m.lim)(hf:m.fm)(ps:List ByteArray)(hp:ps.length<=67108864)(t:Ty)(hq:QT t)(h:Avm.H): ∃g,Qa (evC (Qb cfg) Qa cfg.pol h.length h.length Qfv) [1,3,7,8] [(1,.isl (ps.map .str)),(3,.ptr h.length 0 2 0 0),(7,.isl (t.QZ.map Ty.enc)),(8,.int .i64 (0:Nat))] (h++([.arr 0 2 [m.enc],.arr 0 8 [t.enc]]++ []))=some (if(t.QZ).all (Xg m ps)=true then(.exit 0,[(1,.isl (ps.map .str)),(3,.ptr h.length 0 2 0 0),(7,.isl (t.QZ.map Ty.enc)),(8,.int .i64 (t.QZ).length)],h++([.arr 0 2 [m.enc],.arr 0 8 [t.enc]]++g))else(.ret,[(6,.bool false)],h++([.arr 0 2 [m.enc],.arr 0 8 [t.enc]]++g))):=by
 have hl:(t.QZ).length<=67108864:=(by have:=JH _ t (Nat.le_refl _); have:=hq.nodes; omega)
 have hlp:=Qg (γ:=Avm.H) (f:=evC (Qb cfg) Qa cfg.pol h.length h.length Qfv) (keep:=[1,3,7,8]) (t.QZ) (fun _ _=>True)
      (fun i _=>[(1,.isl (ps.map .str)),(3,.ptr h.length 0 2 0 0),(7,.isl (t.QZ.map Ty.enc)),(8,.int .i64 i)]) (fun _ g=>h++([.arr 0 2 [m.enc],.arr 0 8 [t.enc]]++g))
      (fun _ r o=>∃g,o=if r.all (Xg m ps)=true then(.exit 0,[(1,.isl (ps.map .str)),(3,.ptr h.length 0 2 0 0),(7,.isl (t.QZ.map Ty.enc)),(8,.int .i64 (t.QZ).length)],h++([.arr 0 2 [m.enc],.arr 0 8 [t.enc]]++g))else(.ret,[(6,.bool false)],h++([.arr 0 2 [m.enc],.arr 0 8 [t.enc]]++g))) ?_ ?_ [] trivial
 ·obtain⟨o,h1,g,h2⟩:=hlp;exact⟨g,h2▸h1⟩
 ·intro i x r g hd hi hx _ K hK;have hw:=Qd (n:=i+1) (by omega)
  simp at hw;have hm:x∈(t.QZ):=by rw[←hx]; exact List.getElem_mem hi
  have hkn:=fun ws h=>Qod m hmk hl0 hf ps hp x (QqF _ t (Nat.le_refl _) hq x hm) ws h
  cases hv:(Xg m ps) x
  ·refine⟨_,?_,g,by simp only[List.all_cons,hv,Bool.false_and,Bool.false_eq_true,if_false]; rfl⟩
   simp only[hv]at hkn;simp[Md.enc]at hkn;simp[Qfv,hi,hx,hkn,Md.enc,]
  ·obtain⟨o,h4,g2,h5⟩:=hK g trivial;refine⟨o,?_,g2,by simp only[List.all_cons,hv,Bool.true_and]; exact h5⟩
   simp only[hv]at hkn;simp[Md.enc]at hkn h4;simp[Qfv,hi,hx,hkn,Md.enc,hw,h4]
 ·intro g K _;refine⟨_,?_,g,by simp only[List.all_nil,if_true]; rfl⟩
  simp[Md.enc,Qfv]
theorem QmI (m:Md)(hmk:m.ok)(hl0:m.lim)(hf:m.fm)(ps:List ByteArray)(hp:ps.length<=67108864)(t:Ty)(hq:QT t)(ws:Nat)(h:Avm.H):Qb cfg ws 138 [m.enc,.isl (ps.map .str),t.enc] h=some (.bool (t.Qz (Xg m ps)),h):=by
 have h1:=QaD _ t (Nat.le_refl _) hq.wid (by have:=hq.nodes; omega)
 obtain⟨g,hl⟩:=QoK m hmk hl0 hf ps hp t hq h;rw[YV _ _ t (Nat.le_refl _)]at hl;refine Qc rfl rfl ?_
 simp at h1;cases q:t.Qz (Xg m ps)<;>rw[q]at hl<;>simp[Md.enc]at hl<;>simp[Md.enc,QDC,QCK,h1,hl]
end Go.Proofs.YtflbneepngjglaaGreatDoor
namespace Go.Proofs.YtflbneepngjglaaGreatDoor
open Go Go.Avm
def QD (b:Bool)(e:Int):Int:=if b=true then 0 else e
theorem ZW (b:Bool)(e:Int)(ws:Nat)(h:Avm.H):Qb cfg ws 70 [.bool b,.int .i64 e] h=some (.int .i64 (QD b e),h):=by
 refine Qc rfl rfl ?_
 unfold QD;cases b<;>simp[F70,c70]
def XG :List Int->Int
 | []=>0
 | e::l=>if e=0 then XG l else e
def eI (l:List Int):List AV:=l.map (.int .i64)
theorem QpM (l:List Int)(hl0:l.length<=67108864)(h:Avm.H): ∃o,Qa (evC (Qb cfg) Qa cfg.pol h.length h.length Qfs) [5,6,7] [(5,.isl (eI l)),(6,.int .i64 l.length),(7,.int .i64 (0:Nat))] h=some o/\(if XG l=0 then o=(.exit 0,[(5,.isl (eI l)),(6,.int .i64 l.length),(7,.int .i64 l.length)],h)else o=(.ret,[(2,.int .i64 (XG l))],h)):=by
 refine Qg (γ:=Unit) (f:=evC (Qb cfg) Qa cfg.pol h.length h.length Qfs) (keep:=[5,6,7]) l (fun _ _=>True) (fun i _=>[(5,.isl (eI l)),(6,.int .i64 l.length),(7,.int .i64 i)]) (fun _ _=>h)
     (fun _ r o=>if XG r=0 then o=(.exit 0,[(5,.isl (eI l)),(6,.int .i64 l.length),(7,.int .i64 l.length)],h)else o=(.ret,[(2,.int .i64 (XG r))],h)) ?_ ?_ () trivial
 ·intro i x r c hd hi hx _ K hK;have hw:=Qd (n:=i+1) (by omega)
  simp at hw;by_cases q:x=0
  ·obtain⟨o,h4,h5⟩:=hK () trivial;refine⟨o,?_,by simpa[XG,q]using h5⟩
   simp[eI]at h4;simp[Qfs,eI,hi,hx,q,hw,h4]
  ·refine⟨_,?_,by simp[XG,q]; rfl⟩
   simp[Qfs,eI,hi,hx,q]
 ·intro c K _;refine⟨_,?_,by simp[XG]; rfl⟩
  simp[Qfs,eI]
theorem Qvw (l:List Int)(hl0:l.length<=67108864)(ws:Nat)(h:Avm.H):Qb cfg ws 145 [.isl (eI l)] h=some (.int .i64 (XG l),h):=by
 obtain⟨o,hlp,ho⟩:=QpM l hl0 h;have hsn:=Qx (h:=h) (n:=7) (JS l);refine Qc rfl rfl ?_
 unfold eI at*;by_cases q:XG l=0
 ·rw[if_pos q]at ho;subst ho;rw[q];simp at hlp;simp[Qyb,QAf,hsn,hlp]
 ·rw[if_neg q]at ho;subst ho;simp at hlp;simp[Qyb,QAf,hsn,hlp]
end Go.Proofs.YtflbneepngjglaaGreatDoor
namespace Go.Proofs.YtflbneepngjglaaGreatDoor
open Go Go.Avm
def Qjb (m:Md)(t:Ty):Int:=if Qbe t=false then 2 else if t.Qz (Qbz m [])=false then 6 else if t.Qz Qbg=false then 7 else if(beh m 21 t).isSome=false then 13 else QD (t.Qz Qk&&t.Qz (Xg m [])) 1
theorem JT {t:Ty}(h:Qbe t=true):t.nodes<=600:=by
 unfold Qbe at h;simp only[Bool.and_eq_true,decide_eq_true_eq]at h;exact h.1
theorem QdG (t:Ty)(hw:t.wid<=67108864)(hb:t.nodes<=67108864)(ws:Nat)(h:Avm.H):Qb cfg ws 82 [t.enc,.QI 83 0 []] h=some (.bool (t.Qz Qk),h):=
 YG (cap':=[]) (k:=0) (.inl rfl) (by simp) _ t (Nat.le_refl _) hw hb (fun x _ hx _ ws h'=>by simpa using Quh x (Nat.le_trans hx hw) ws h') ws h [] rfl
theorem Qbk (m:Md)(hm:m.ok)(hf:m.fm)(ps:List ByteArray)(hp:ps.length<=67108864)(t:Ty)(hq:QT t)(ws:Nat)(h:Avm.H)(c:AV)(hc:snap h 7 c=some (.agg [.str m.name,.isl (m.defs.map Df.enc),.isl (ps.map .str)])):Qb cfg ws 82 [t.enc,.QI 84 1 [c]] h=some (.bool (t.Qz (Xg m ps)),h):=
 QgR (cap':=[.agg [.str m.name,.isl (m.defs.map Df.enc),.isl (ps.map .str)]]) (k:=1) QT (fun _ _ h1 h2=>h1.inner h2) (.inl rfl) (by simp) _ t (Nat.le_refl _) hq.wid (by have:=hq.nodes; omega) hq (fun x hxq _ _ _ ws h'=>by simpa using QoV m hm hf ps hp x hxq ws h') ws h [c] (by simp[QH,hc])
theorem Qtc (m:Md)(t:Ty)(e:Int)(he:e≠0)(hc: ∀ws h,Qb cfg ws 78 [m.enc] h=some (.int .i64 e,h))(ws:Nat)(h:Avm.H):Qb cfg ws 47 [m.enc,t.enc] h=some (.int .i64 e,h):=by
 simp[Md.enc]at hc;refine Qc rfl rfl ?_
 simp[F47,c47,Md.enc,hc,he]
theorem QvP (m:Md)(hm:m.ok)(hf:m.fm)(t:Ty)(hs:t.size<=67108864)(hc: ∀ws h,Qb cfg ws 78 [m.enc] h=some (.int .i64 0,h))(ws:Nat)(h:Avm.H):Qb cfg ws 47 [m.enc,t.enc] h=some (.int .i64 (Qjb m t),h):=by
 have hw:t.wid<=67108864:=Nat.le_trans t.XF hs;have hn:t.nodes<=67108864:=Nat.le_trans (Ty.XN _ t (Nat.le_refl _)) hs;have e1:=fun ws h=>QjZ t hw hn ws h
 have e2:=fun ws h=>Qnn m [] hm (by simp) t hw hn ws h
 have e3:=fun ws h=>Qkq t hw hn ws h
 have e4:=fun ws h=>Zy m hm t hw ws h
 have e5:=fun ws h=>QdG t hw hn ws h
 simp[Md.enc,Ty.zero]at hc e1 e2 e3 e4 e5;refine Qc rfl rfl ?_
 unfold Qjb;cases q1:Qbe t
 ·rw[q1]at e1;simp[F47,c47,Md.enc,Ty.zero,hc,e1]
 ·rw[q1]at e1;cases q2:t.Qz (Qbz m [])
  ·rw[q2]at e2;simp[F47,c47,Md.enc,Ty.zero,hc,e1,e2]
  ·rw[q2]at e2;cases q3:t.Qz Qbg
   ·rw[q3]at e3;simp[F47,c47,Md.enc,Ty.zero,hc,e1,e2,e3]
   ·rw[q3]at e3;cases q4:(beh m 21 t).isSome
    ·rw[q4]at e4;simp[F47,c47,Md.enc,Ty.zero,hc,e1,e2,e3,e4]
    ·rw[q4]at e4;cases q5:t.Qz Qk
     ·rw[q5]at e5;have e6:=ZW false 1;simp[F47,c47,Md.enc,Ty.zero,hc,e1,e2,e3,e4,e5,e6]
     ·rw[q5]at e5;have hq:QT t:=⟨hw,JT q1,q5,hs⟩;have e7:=fun ws h c hc=>Qbk m hm hf [] (by simp) t hq ws h c hc
      have e6:=ZW (t.Qz (Xg m [])) 1;simp at e7 e6;simp[F47,c47,Md.enc,Ty.zero,hc,e1,e2,e3,e4,e5,e6,e7]
end Go.Proofs.YtflbneepngjglaaGreatDoor
namespace Go.Proofs.YtflbneepngjglaaGreatDoor
open Go Go.Avm
theorem QsC (m:Md)(x:Ty):JI m [] x=Qbz m [] x:=by
 unfold JI Qbz;simp[inS]
theorem QiK {p q:Ty->Bool}(h: ∀x,p x=q x)(t:Ty):t.Qz p=t.Qz q:=by
 have:p=q:=funext h;rw[this]
theorem Qpn (m:Md)(t:Ty)(e:Int)(he:e≠0)(hc: ∀ws h,Qb cfg ws 102 [m.enc] h=some (.int .i64 e,h))(ws:Nat)(h:Avm.H):Qb cfg ws 74 [m.enc,t.enc] h=some (.int .i64 e,h):=by
 simp[Md.enc]at hc;refine Qc rfl rfl ?_
 simp[F74,c74,Md.enc,hc,he]
theorem QrW (m:Md)(hm:m.ok)(hl:m.lim)(hf:m.fm)(t:Ty)(hs:t.size<=67108864)(hc: ∀ws h,Qb cfg ws 102 [m.enc] h=some (.int .i64 0,h))(ws:Nat)(h:Avm.H):Qb cfg ws 74 [m.enc,t.enc] h=some (.int .i64 (Qjb m t),h):=by
 have hw:t.wid<=67108864:=Nat.le_trans t.XF hs;have hn:t.nodes<=67108864:=Nat.le_trans (Ty.XN _ t (Nat.le_refl _)) hs;have e1:=fun ws h=>QhM t hw hn ws h
 have e2:=fun ws h=>Qno m [] hm (by simp) t hw hn ws h
 rw[QiK (QsC m)]at e2;have e3:=fun ws h=>QqL t hw hn ws h
 have e5:=fun ws h=>Qkl t hw hn ws h
 simp[Md.enc,Ty.zero]at hc e1 e2 e3 e5;refine Qc rfl rfl ?_
 unfold Qjb;cases q1:Qbe t
 ·rw[q1]at e1;simp[F74,c74,Md.enc,Ty.zero,hc,e1]
 ·rw[q1]at e1;have e4:=fun ws h=>YT m hm hl hf t hw (JT q1) ws h
  simp[Md.enc,Ty.zero]at e4;cases q2:t.Qz (Qbz m [])
  ·rw[q2]at e2;simp[F74,c74,Md.enc,Ty.zero,hc,e1,e2]
  ·rw[q2]at e2;cases q3:t.Qz Qbg
   ·rw[q3]at e3;simp[F74,c74,Md.enc,Ty.zero,hc,e1,e2,e3]
   ·rw[q3]at e3;cases q4:(beh m 21 t).isSome
    ·rw[q4]at e4;simp[F74,c74,Md.enc,Ty.zero,hc,e1,e2,e3,e4]
    ·rw[q4]at e4;cases q5:t.Qz Qk
     ·rw[q5]at e5;simp[F74,c74,Md.enc,Ty.zero,hc,e1,e2,e3,e4,e5,QD]
     ·rw[q5]at e5;have hq:QT t:=⟨hw,JT q1,q5,hs⟩;have e7:=fun ws h=>QmI m hm hl hf [] (by simp) t hq ws h
      simp[Md.enc]at e7;cases q6:t.Qz (Xg m [])
      ·rw[q6]at e7;simp[F74,c74,Md.enc,Ty.zero,hc,e1,e2,e3,e4,e5,e7,QD]
      ·rw[q6]at e7;simp[F74,c74,Md.enc,Ty.zero,hc,e1,e2,e3,e4,e5,e7,QD]
end Go.Proofs.YtflbneepngjglaaGreatDoor
namespace Go.Proofs.YtflbneepngjglaaGreatDoor
open Go Go.Avm
@[irreducible] noncomputable def Qom (ws:Nat) (g:FuncId) (args:List AV) (h:Avm.H):Option (AV×Avm.H):=Qb cfg ws g args h
def Qbf :List AV->Option (List Int)
 | []=>some []
 | .int .i64 a::l=>(Qbf l).map (a:: ·)
 | _=>none
theorem QqX : ∀{l:List AV} {r:List Int},Qbf l=some r->l=eI r
 | [],r,h=>by simp only[Qbf,Option.some.injEq]at h; subst h; rfl
 | v::l,r,h=>by
  unfold Qbf at h;split at h
  ·rename_i e; cases e
  ·rename_i a l' e;cases e;cases h1:Qbf l with
   | none=>rw[h1]at h; cases h
   | some q=>rw[h1]at h; cases h; rw[QqX h1]; rfl
  ·cases h
theorem Yv (k ver ws n:Nat)(h:Avm.H)(hn:n<=67108864):Qb cfg ws 145 [.osl k ver 1 0 n] h=(match h[k]? with
    | some (.arr v 1 l)=>if v=ver/\l.length=n then(match Qbf l with | some r=>some (.int .i64 (XG r),h) | none=>Qom ws 145 [.osl k ver 1 0 n] h)else Qom ws 145 [.osl k ver 1 0 n] h
    | _=>Qom ws 145 [.osl k ver 1 0 n] h):=by
 have hA:Qom ws 145 [.osl k ver 1 0 n] h=Qb cfg ws 145 [.osl k ver 1 0 n] h:=by unfold Qom; rfl
 rw[hA];split
 ·rename_i v l hb;split
  ·rename_i hv;split
   ·rename_i r hr;have hl:=QqX hr;have hrl:r.length<=67108864:=by have:=hv.2; rw[hl]at this; simp[eI]at this; omega
    rw[Qdo (F:=Qyb) rfl rfl rfl (args':=[.isl (eI r)]) (by
     have e1:snap h deep (.osl k ver 1 0 n)=some (.isl (eI r)):=by
      have hp:=Qx (h:=h) (n:=7) (JS r);simp[deep,look,hb,hv.1,←hv.2,hl];unfold eI;rw[hp]
     have e2:snap h deep (.isl (eI r))=some (.isl (eI r)):=Zc (by simpa[eI]using JS r)
     simp only[QH,e1,e2])]
    exact Qvw r hrl ws h
   ·rfl
  ·rfl
 ·rfl
theorem Qdi (a b:Bool)(e:Int)(he:e≠0):XG [QD a e,QD b e]=QD (a&&b) e:=by
 cases a<;>cases b<;>simp[XG,QD,he]
theorem Qjr : ∀l:List ByteArray,Qv (l.map .str)=true
 | []=>rfl
 | x::l=>by simpa using Qjr l
theorem QoE (l:List ByteArray)(hl:l.length<=67108864)(hz: ∀s∈l,s.size<=67108864)(ws:Nat)(h:Avm.H):Qb cfg ws 146 [.isl (l.map .str),.QI 147 0 []] h=some (.bool (!l.all Xe),h):=by
 have h1:=ZZ (K:=226) (J:=146) (cfg:=cfg) (g:=147) (k:=0) (cap:=[]) (cap':=[]) (enc:=AV.str) (p:=fun s=>!Xe s) (l:=l) (sz:=1) (ag:=false) rfl rfl rfl rfl hl (Qjr l) (fun x _=>by simp) (.inl rfl) (h:=h) rfl rfl (fun x hx ws h'=>by
  have e0:=fun ws h=>Qef x (hz x hx) ws h
  simp only[List.take_zero,List.drop_zero,List.nil_append,List.append_nil];refine Qc rfl rfl ?_
  simp[QDy,QCG,e0]) ws
 rw[h1,WA]
def YD (d:Df):Bool:=decide (d.params.length<=20)&&Qbe d.of
def Qgl (m:Md)(d:Df):Bool:=Xe d.name&&(d.params.all Xe&&d.of.Qz (Qbz m d.params))
def Qeh (d:Df):Bool:=distinct d.params&&d.of.Qz Qbg
end Go.Proofs.YtflbneepngjglaaGreatDoor
