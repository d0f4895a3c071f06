/- Check of a module, the program: the first loop. -/
import Derived.Test.YtflbneepngjglaaGreatDoorE43
set_option linter.all false
namespace Go.Proofs.YtflbneepngjglaaGreatDoor
open Go Go.Avm
def Qbn (ps:List ByteArray)(x:Ty):Bool:=!(decide (x.kind=10)&&inS ps x.name)
theorem Qvj (ps:List ByteArray)(hp:ps.length<=67108864)(t:Ty)(ht:t.wid<=67108864)(hb:t.nodes<=67108864)(h:Avm.H): ∃g,Qa (evC (Qb cfg) Qa cfg.pol h.length h.length Qdx) [1,5,6] [(1,.isl (ps.map .str)),(5,.isl (t.QX.map Ty.enc)),(6,.int .i64 (0:Nat))] (h++([.arr 0 8 [t.enc]]++ []))=some (if(t.QX).all (Qbn ps)=true then(.exit 0,[(1,.isl (ps.map .str)),(5,.isl (t.QX.map Ty.enc)),(6,.int .i64 (t.QX).length)],h++([.arr 0 8 [t.enc]]++g))else(.ret,[(4,.bool true)],h++([.arr 0 8 [t.enc]]++g))):=by
 have hl:(t.QX).length<=67108864:=(by have:=JK _ t (Nat.le_refl _); omega)
 have hlp:=Qg (γ:=Avm.H) (f:=evC (Qb cfg) Qa cfg.pol h.length h.length Qdx) (keep:=[1,5,6]) (t.QX) (fun _ _=>True)
      (fun i _=>[(1,.isl (ps.map .str)),(5,.isl (t.QX.map Ty.enc)),(6,.int .i64 i)]) (fun _ g=>h++([.arr 0 8 [t.enc]]++g))
      (fun _ r o=>∃g,o=if r.all (Qbn ps)=true then(.exit 0,[(1,.isl (ps.map .str)),(5,.isl (t.QX.map Ty.enc)),(6,.int .i64 (t.QX).length)],h++([.arr 0 8 [t.enc]]++g))else(.ret,[(4,.bool true)],h++([.arr 0 8 [t.enc]]++g))) ?_ ?_ [] trivial
 ·obtain⟨o,h1,g,h2⟩:=hlp;exact⟨g,h2▸h1⟩
 ·intro i x r g hd hi hx _ K hK;have hw:=Qd (n:=i+1) (by omega)
  simp at hw;have hm:x∈(t.QX):=by rw[←hx]; exact List.getElem_mem hi
  have e0:=fun ws h=>Qqo ps x.name hp ws h
  cases hv:(Qbn ps) x
  ·refine⟨_,?_,g,by simp only[List.all_cons,hv,Bool.false_and,Bool.false_eq_true,if_false]; rfl⟩
   unfold Qbn at hv;by_cases q:x.kind=10
   ·have hv2:inS ps x.name=true:=by simpa[q]using hv
    rw[hv2]at e0;simp[Qdx,hi,hx,q,e0]
   ·simp[q]at hv
  ·obtain⟨o,h4,g2,h5⟩:=hK g trivial;refine⟨o,?_,g2,by simp only[List.all_cons,hv,Bool.true_and]; exact h5⟩
   simp at h4;unfold Qbn at hv;by_cases q:x.kind=10
   ·have hv2:inS ps x.name=false:=by simpa[q]using hv
    rw[hv2]at e0;simp[Qdx,hi,hx,q,e0,hw,h4]
   ·simp[Qdx,hi,hx,q,hw,h4]
 ·intro g K _;refine⟨_,?_,g,by simp only[List.all_nil,if_true]; rfl⟩
  simp[Qdx]
def QaQ (ps:List ByteArray)(t:Ty):Bool:=!t.QH (Qbn ps)
theorem Qvi (t:Ty)(ht:t.wid<=67108864)(hb:t.nodes<=67108864)(ps:List ByteArray)(hp:ps.length<=67108864)(ws:Nat)(h:Avm.H):Qb cfg ws 262 [t.enc,.isl (ps.map .str)] h=some (.bool (QaQ ps t),h):=by
 obtain⟨g,hl⟩:=Qvj ps hp t ht hb h;have ha:=fun ws h=>QaN _ t (Nat.le_refl _) ht hb ws h
 rw[Wd _ _ t (Nat.le_refl _)]at hl;refine Qc rfl rfl ?_
 unfold QaQ;simp at ha;cases q:t.QH (Qbn ps)
 ·rw[q]at hl;simp at hl;simp[QBl,QAH,ha,hl]
 ·rw[q]at hl;simp at hl;simp[QBl,QAH,ha,hl]
end Go.Proofs.YtflbneepngjglaaGreatDoor
namespace Go.Proofs.YtflbneepngjglaaGreatDoor
open Go Go.Avm
theorem QqA (m:Md)(ps:List ByteArray)(hp:ps.length<=67108864)(x:Ty)(ws:Nat)(h:Avm.H):Qb cfg ws 267 [x.enc,.iptr [.str m.name,.isl (m.defs.map Df.enc),.isl (ps.map .str)]] h=some (.bool (Qbn ps x),h):=by
 have e0:=fun ws h=>Qev ps x.name hp ws h
 refine Qc rfl rfl ?_
 unfold Qbn;by_cases q:x.kind=10
 ·simp[QBk,QAG,q,e0]
 ·simp[QBk,QAG,q]
theorem QtD (m:Md)(ps:List ByteArray)(hp:ps.length<=67108864)(t:Ty)(hw0:t.wid<=67108864)(hb:t.nodes<=67108864)(ws:Nat)(h:Avm.H):Qb cfg ws 235 [.agg [.str m.name,.isl (m.defs.map Df.enc),.isl (ps.map .str)],t.enc] h=some (.bool (QaQ ps t),h):=by
 have h2:=fun ws h cap hcap=>YO (cap':=[.iptr [.str m.name,.isl (m.defs.map Df.enc),.isl (ps.map .str)]]) (k:=0) (.inl rfl) (by simp) _ t (Nat.le_refl _) hw0 hb (fun x _ hx _ ws h'=>by simpa using QqA m ps hp x ws h') ws h cap hcap
 refine Qc rfl rfl ?_
 unfold QaQ;simp at h2;simp[QEb,QDb,h2]
def JO (m:Md)(ps:List ByteArray)(i:It):Bool:=match i.Qy with
 | []=>true
 | [d]=>!i.opt&&(!QaQ ps i.of&&(Xu m d.size i.of d&&Yu d))
 | _=>false
theorem Qmv (m:Md)(hm:m.ok)(hf:m.fm)(ps:List ByteArray)(hp:ps.length<=67108864)(i:It)(hw:i.of.wid<=67108864)(hb:i.Qy≠ []->i.of.nodes<=67108864)(hr:i.Qy≠ []->i.of.QH Qk=true)(hd: ∀d∈i.Qy,d.size<=67108864)(ws:Nat)(h:Avm.H):
    Qb cfg ws 165 [.agg [.str m.name,.isl (m.defs.map Df.enc),.isl (ps.map .str)],i.enc] h=some (.bool (JO m ps i),h):=by
 refine Qc rfl rfl ?_
 unfold JO
 match hi:i.Qy with
 | []=>simp[QqQ,QqG,hi]
 | [d]=>
  have hne:i.Qy≠ []:=by rw[hi]; simp
  have hds:=hd d (by rw[hi]; simp)
  have e1:=fun ws h=>QtD m ps hp i.of hw (hb hne) ws h
  have e2:=fun ws h=>Qhh m hm hf _ d (Nat.le_refl _) hds i.of hw (hr hne) ws h
  have e3:=fun ws h=>QrA d hds ws h
  simp[Md.enc]at e1 e2 e3;cases q1:i.opt
  ·cases q2:QaQ ps i.of
   ·rw[q2]at e1;cases q3:Xu m d.size i.of d
    ·rw[q3]at e2;simp[QqQ,QqG,hi,q1,q3,e1,e2]
    ·rw[q3]at e2;simp[QqQ,QqG,hi,q1,q3,e1,e2,e3]
   ·rw[q2]at e1;simp[QqQ,QqG,hi,q1,e1]
  ·simp[QqQ,QqG,hi,q1]
 | d::e::r=>
  have h1:(1:Int)<(r.length:Int)+1+1:=by omega
  have h0:((r.length:Int)+1+1 == 0)=false:=by simp; omega
  simp[QqQ,QqG,hi,h1,h0]
end Go.Proofs.YtflbneepngjglaaGreatDoor
namespace Go.Proofs.YtflbneepngjglaaGreatDoor
open Go Go.Avm
theorem Qhu {g:FuncId}{k:Nat}{p:Ty->Bool}{cap':List AV}(Q:Ty->Prop)(hQ: ∀x y:Ty,Q x->y∈x.inner->Q y)(hs:Still cfg g)(hcp:Qw cap'=true): ∀(n:Nat) (t:Ty),t.size<=n->t.wid<=67108864->t.nodes<=67108864->Q t->
    (∀x:Ty,Q x->x.size<=n->x.wid<=t.wid->x.nodes<=t.nodes-> ∀ws h',Qb cfg ws g (cap'.take k++([x.enc]++cap'.drop k)) h'=some (.bool (p x),h'))->
    ∀ws h cap,QG (snap h 7) cap=some cap'->Qb cfg ws 82 [t.enc,.QJ g k cap] h=some (.bool (t.QH p),h)
 | 0,t,ht,_,_,_,_,_,_,_,_=>by have:=t.size_pos; omega
 | n+1,t,ht,hw0,hb,hq,hp,ws,h,cap,hcap=>by
  have hk:=Qma t hw0;have hpt:=fun ws h=>hp t hq ht (Nat.le_refl _) (Nat.le_refl _) ws h
  have hlen:=t.Qal
  have hsub: ∀x∈t.inner,∀ws h',Qb cfg ws 158 [x.enc,.iptr [.QJ g k cap']] h'=some (.bool (!(x.QH p)),h'):=fun x hx ws h'=>by
   have h1:=Ty.QR hx;have h2:=Ty.ZY hx;have h3:=Ty.Xx hx;have hin:=fun h=>Qhu Q hQ hs hcp n x (by omega) (by omega) (by omega) (hQ t x hq hx) (fun y hyq hy hyw hyn ws h'=>hp y hyq (by omega) (by omega) (by omega) ws h') h'.length h cap' (Qz hcp)
   refine Qc rfl rfl ?_
   simp at hin;simp[QBu,QAY,Qz hcp,hcp,hin]
  have hct:=fun h cap2 (hcap2:QG (snap h 7) cap2=some [.iptr [.QJ g k cap']])=>Qeu (k:=0) t.inner (by omega) (.inl rfl) h hcap2 (by simp[hcp]) (fun x hx ws h'=>by simpa using hsub x hx ws h')
  refine Qc rfl rfl ?_
  rw[Ty.YN];simp at hk hpt;have hpol:=hs;cases hv:p t
  ·rw[hv]at hpt;rcases hs with hs | ⟨b,hs⟩<;>simp[F82,c82,hcap,hs,hpt]
  ·rw[hv]at hpt;rcases hs with hs | ⟨b,hs⟩<;>simp[F82,c82,hcap,hs,hpt,hk,hct,Qz hcp,WK]
def Xf (m:Md)(ps:List ByteArray)(t:Ty):Bool:=!decide (t.kind=8)||t.items.all (JO m ps)
structure QT (t:Ty):Prop where
 wid:t.wid<=67108864
 nodes:t.nodes<=600
 right:t.QH Qk=true
 size:t.size<=67108864
theorem QT.inner{t x:Ty}(h:QT t)(hx:x∈t.inner):QT x:=
 ⟨Nat.le_trans (Ty.ZY hx) h.wid,by have:=Ty.Xx hx; have:=h.nodes; omega,QC h.right hx,by have:=Ty.QR hx; have:=h.size; omega⟩
theorem QT.Qy{t:Ty}(h:QT t){i:It}(hi:i∈t.items): ∀d∈i.Qy,d.size<=67108864:=fun d hd=>by
 have:=It.QnI hd; have:=Ty.Qu hi; have:=h.size; omega
theorem QT.record{t:Ty}(h:QT t){i:It}(hi:i∈t.items)(hd:i.Qy≠ []):t.kind=8:=by
 have hr:=QZ h.right;by_cases hc:t.comp=true
 ·by_cases q8:t.kind=8
  ·exact q8
  ·have q9:t.kind=9:=by simpa[Ty.comp,q8]using hc
   unfold Qk at hr;simp[q9]at hr;have:=hr.2.2 i hi;simp[XN]at this;exact absurd this.2 hd
 ·rcases Yo hr hc with h0 | h0
  ·rw[h0]at hi; cases hi
  ·have:=List.all_eq_true.1 h0 i hi;simp[JW]at this;exact absurd this.2.2 hd
theorem QT.of{t:Ty}(h:QT t){i:It}(hi:i∈t.items)(hd:i.Qy≠ []):QT i.of:=
 h.inner (by unfold Ty.inner; rw[if_pos (by unfold Ty.comp; simp[h.record hi hd])]; exact List.mem_append_right _ (List.mem_map_of_mem hi))
theorem Qpw (m:Md)(ps:List ByteArray){t:Ty}(h:QT t):Xf m ps t=t.items.all (JO m ps):=by
 unfold Xf;by_cases q:t.kind=8
 ·simp[q]
 ·have:t.items.all (JO m ps)=true:=List.all_eq_true.2 fun i hi=>by
    unfold JO;cases hd:i.Qy with
    | nil=>rfl
    | cons d r=>exact absurd (h.record hi (by rw[hd]; simp)) q
  rw[this];simp
theorem Qpv (m:Md)(hm:m.ok)(hf:m.fm)(ps:List ByteArray)(hp:ps.length<=67108864)(t:Ty)(hq:QT t)(ws:Nat)(h:Avm.H):Qb cfg ws 84 [.agg [.str m.name,.isl (m.defs.map Df.enc),.isl (ps.map .str)],t.enc] h=some (.bool (Xf m ps t),h):=by
 have hwi:=t.Qe;have hw:=hq.wid
 have h1: ∀i∈t.items,∀ws h',Qb cfg ws 164 [i.enc,.iptr [.str m.name,.isl (m.defs.map Df.enc),.isl (ps.map .str)]] h'=some (.bool (!JO m ps i),h'):=fun i hi ws h'=>by
  have e0:=fun ws h=>Qmv m hm hf ps hp i (Nat.le_trans (Ty.ZL hi) hw) (fun hd=>by have:=(hq.of hi hd).nodes; omega) (fun hd=>(hq.of hi hd).right) (hq.Qy hi) ws h
  simp at e0;refine Qc rfl rfl ?_
  simp[QEu,QDu,e0]
 have hct:=fun h cap (hcap:QG (snap h 7) cap=some [.iptr [.str m.name,.isl (m.defs.map Df.enc),.isl (ps.map .str)]]) ws=>JP (g:=164) (k:=0) (p:=fun i=>!JO m ps i) t.items (by omega) (.inl rfl) h hcap (by simp) (fun i hi ws h'=>by simpa using h1 i hi ws h') ws
 simp only[WK]at hct;refine Qc rfl rfl ?_
 unfold Xf;generalize t.items.all (JO m ps)=A at hct ⊢;by_cases q:t.kind=8
 ·simp[F84,c84,q,hct]
 ·simp[F84,c84,q]
end Go.Proofs.YtflbneepngjglaaGreatDoor
namespace Go.Proofs.YtflbneepngjglaaGreatDoor
open Go Go.Avm
theorem QtA (m:Md)(hmk:m.ok)(hl:m.lim)(hf:m.fm)(ps:List ByteArray)(hp:ps.length<=67108864)(t:Ty)(hq:QT t)(h:Avm.H): ∃g,Qa (evC (Qb cfg) Qa cfg.pol h.length h.length WS) [1,3,5,7] [(1,.isl (ps.map .str)),(3,.ptr h.length 0 2 0 0),(5,.ptr (h.length+1) 0 8 0 0),(7,.int .i64 (0:Nat))] (h++([.arr 0 2 [m.enc],.arr 0 8 [t.enc]]++ []))=some (if(t.items).all (JO m ps)=true then(.exit 0,[(1,.isl (ps.map .str)),(3,.ptr h.length 0 2 0 0),(5,.ptr (h.length+1) 0 8 0 0),(7,.int .i64 (t.items).length)],h++([.arr 0 2 [m.enc],.arr 0 8 [t.enc]]++g))else(.ret,[(6,.bool false)],h++([.arr 0 2 [m.enc],.arr 0 8 [t.enc]]++g))):=by
 have hlt:(t.items).length<=67108864:=(Nat.le_trans t.Qe hq.wid)
 have hlp:=Qg (γ:=Avm.H) (f:=evC (Qb cfg) Qa cfg.pol h.length h.length WS) (keep:=[1,3,5,7]) (t.items) (fun _ _=>True)
      (fun i _=>[(1,.isl (ps.map .str)),(3,.ptr h.length 0 2 0 0),(5,.ptr (h.length+1) 0 8 0 0),(7,.int .i64 i)]) (fun _ g=>h++([.arr 0 2 [m.enc],.arr 0 8 [t.enc]]++g))
      (fun _ r o=>∃g,o=if r.all (JO m ps)=true then(.exit 0,[(1,.isl (ps.map .str)),(3,.ptr h.length 0 2 0 0),(5,.ptr (h.length+1) 0 8 0 0),(7,.int .i64 (t.items).length)],h++([.arr 0 2 [m.enc],.arr 0 8 [t.enc]]++g))else(.ret,[(6,.bool false)],h++([.arr 0 2 [m.enc],.arr 0 8 [t.enc]]++g))) ?_ ?_ [] trivial
 ·obtain⟨o,h1,g,h2⟩:=hlp;exact⟨g,h2▸h1⟩
 ·intro i x r g hd hi hx _ K hK;have hw:=Qd (n:=i+1) (by omega)
  simp at hw;have hm:x∈(t.items):=by rw[←hx]; exact List.getElem_mem hi
  have hq2:x.Qy≠ []->QT x.of:=fun hd=>hq.of hm hd
  have hds:=hq.Qy hm;cases hv:(JO m ps) x
  ·refine⟨_,?_,(g++ [.arr 0 12 [x.enc]]),by simp only[List.all_cons,hv,Bool.false_and,Bool.false_eq_true,if_false]; rfl⟩
   rcases hd0:x.Qy with _ | ⟨d,_ | ⟨e,r2⟩⟩
   ·simp[JO,hd0]at hv
   ·have hne:x.Qy≠ []:=by rw[hd0]; simp
    have hqo:=hq2 hne;have hdz:=hds d (by rw[hd0]; simp)
    have e1:=fun ws h=>Qvi x.of hqo.wid (by have:=hqo.nodes; omega) ps hp ws h
    have e2:=fun ws h=>Qmf m hmk hl hf x.of hqo.wid hqo.nodes hqo.right d hdz ws h
    simp[Md.enc]at e1 e2;cases q1:x.opt
    ·cases q2:QaQ ps x.of
     ·rw[q2]at e1;have q3:(Yu d&&Xu m d.size x.of d)=false:=by rw[Bool.and_comm]; simpa[JO,hd0,q1,q2]using hv
      simp only[q3]at e2;simp[WS,Md.enc,hi,hx,hd0,q1,e1,e2]
     ·rw[q2]at e1;simp[WS,Md.enc,hi,hx,hd0,q1,e1]
    ·simp[WS,Md.enc,hi,hx,hd0,q1]
   ·have h1:(1:Int)<(r2.length:Int)+1+1:=by omega
    have h0:((r2.length:Int)+1+1 == 0)=false:=by simp; omega
    simp[WS,Md.enc,hi,hx,hd0,h1,h0]
  ·obtain⟨o,h4,g2,h5⟩:=hK (g++ [.arr 0 12 [x.enc]]) trivial;refine⟨o,?_,g2,by simp only[List.all_cons,hv,Bool.true_and]; exact h5⟩
   rcases hd0:x.Qy with _ | ⟨d,_ | ⟨e,r2⟩⟩
   ·simp[Md.enc,hd0]at h4;simp[WS,Md.enc,hi,hx,hd0,hw,h4]
   ·have hne:x.Qy≠ []:=by rw[hd0]; simp
    have hqo:=hq2 hne;have hdz:=hds d (by rw[hd0]; simp)
    have e1:=fun ws h=>Qvi x.of hqo.wid (by have:=hqo.nodes; omega) ps hp ws h
    have e2:=fun ws h=>Qmf m hmk hl hf x.of hqo.wid hqo.nodes hqo.right d hdz ws h
    simp[Md.enc]at e1 e2;have q0:x.opt=false/\QaQ ps x.of=false/\(Xu m d.size x.of d=true/\Yu d=true):=by simpa[JO,hd0]using hv
    have q3:(Yu d&&Xu m d.size x.of d)=true:=by rw[q0.2.2.1,q0.2.2.2]; rfl
    rw[q0.2.1]at e1;simp only[q3]at e2;simp[Md.enc,hd0]at h4;simp[WS,Md.enc,hi,hx,hd0,q0.1,e1,e2,hw];simp[q0.1]at h4;simp[h4]
   ·simp[JO,hd0]at hv
 ·intro g K _;refine⟨_,?_,g,by simp only[List.all_nil,if_true]; rfl⟩
  simp[WS]
theorem Qox (m:Md)(hmk:m.ok)(hl:m.lim)(hf:m.fm)(ps:List ByteArray)(hp:ps.length<=67108864)(t:Ty)(hq:QT t)(ws:Nat)(h:Avm.H):Qb cfg ws 219 [m.enc,.isl (ps.map .str),t.enc] h=some (.bool (Xf m ps t),h):=by
 obtain⟨g,hlp⟩:=QtA m hmk hl hf ps hp t hq h;rw[Qpw m ps hq];refine Qc rfl rfl ?_
 cases q:t.items.all (JO m ps)
 ·rw[q]at hlp;simp[Md.enc]at hlp;simp[QBp,QAN,Md.enc,hlp]
 ·rw[q]at hlp;simp[Md.enc]at hlp;simp[QBp,QAN,Md.enc,hlp]
end Go.Proofs.YtflbneepngjglaaGreatDoor
namespace Go.Proofs.YtflbneepngjglaaGreatDoor
open Go Go.Avm
theorem Qrd : ∀(n:Nat) (t:Ty),t.size<=n->QT t-> ∀x∈t.QX,QT x
 | 0,t,h,_,_,_=>by have:=t.size_pos; omega
 | n+1,t,h,hq,x,hx=>by
  rw[Ty.Qee]at hx;rcases List.mem_cons.1 hx with rfl | hx
  ·exact hq
  ·obtain⟨y,hy,hxy⟩:=List.mem_flatMap.1 hx;have hyi:=(Jq _ _).1 hy;exact Qrd n y (by have:=Ty.QR hyi; omega) (hq.inner hyi) x hxy
theorem Qpj (m:Md)(hmk:m.ok)(hl0:m.lim)(hf:m.fm)(ps:List ByteArray)(hp:ps.length<=67108864)(t:Ty)(hq:QT t)(h:Avm.H): ∃g,Qa (evC (Qb cfg) Qa cfg.pol h.length h.length QfK) [1,3,7,8] [(1,.isl (ps.map .str)),(3,.ptr h.length 0 2 0 0),(7,.isl (t.QX.map Ty.enc)),(8,.int .i64 (0:Nat))] (h++([.arr 0 2 [m.enc],.arr 0 8 [t.enc]]++ []))=some (if(t.QX).all (Xf m ps)=true then(.exit 0,[(1,.isl (ps.map .str)),(3,.ptr h.length 0 2 0 0),(7,.isl (t.QX.map Ty.enc)),(8,.int .i64 (t.QX).length)],h++([.arr 0 2 [m.enc],.arr 0 8 [t.enc]]++g))else(.ret,[(6,.bool false)],h++([.arr 0 2 [m.enc],.arr 0 8 [t.enc]]++g))):=by
 have hl:(t.QX).length<=67108864:=(by have:=JK _ t (Nat.le_refl _); have:=hq.nodes; omega)
 have hlp:=Qg (γ:=Avm.H) (f:=evC (Qb cfg) Qa cfg.pol h.length h.length QfK) (keep:=[1,3,7,8]) (t.QX) (fun _ _=>True)
      (fun i _=>[(1,.isl (ps.map .str)),(3,.ptr h.length 0 2 0 0),(7,.isl (t.QX.map Ty.enc)),(8,.int .i64 i)]) (fun _ g=>h++([.arr 0 2 [m.enc],.arr 0 8 [t.enc]]++g))
      (fun _ r o=>∃g,o=if r.all (Xf m ps)=true then(.exit 0,[(1,.isl (ps.map .str)),(3,.ptr h.length 0 2 0 0),(7,.isl (t.QX.map Ty.enc)),(8,.int .i64 (t.QX).length)],h++([.arr 0 2 [m.enc],.arr 0 8 [t.enc]]++g))else(.ret,[(6,.bool false)],h++([.arr 0 2 [m.enc],.arr 0 8 [t.enc]]++g))) ?_ ?_ [] trivial
 ·obtain⟨o,h1,g,h2⟩:=hlp;exact⟨g,h2▸h1⟩
 ·intro i x r g hd hi hx _ K hK;have hw:=Qd (n:=i+1) (by omega)
  simp at hw;have hm:x∈(t.QX):=by rw[←hx]; exact List.getElem_mem hi
  have hkn:=fun ws h=>Qox m hmk hl0 hf ps hp x (Qrd _ t (Nat.le_refl _) hq x hm) ws h
  cases hv:(Xf m ps) x
  ·refine⟨_,?_,g,by simp only[List.all_cons,hv,Bool.false_and,Bool.false_eq_true,if_false]; rfl⟩
   simp only[hv]at hkn;simp[Md.enc]at hkn;simp[QfK,hi,hx,hkn,Md.enc,]
  ·obtain⟨o,h4,g2,h5⟩:=hK g trivial;refine⟨o,?_,g2,by simp only[List.all_cons,hv,Bool.true_and]; exact h5⟩
   simp only[hv]at hkn;simp[Md.enc]at hkn h4;simp[QfK,hi,hx,hkn,Md.enc,hw,h4]
 ·intro g K _;refine⟨_,?_,g,by simp only[List.all_nil,if_true]; rfl⟩
  simp[Md.enc,QfK]
theorem Qnc (m:Md)(hmk:m.ok)(hl0:m.lim)(hf:m.fm)(ps:List ByteArray)(hp:ps.length<=67108864)(t:Ty)(hq:QT t)(ws:Nat)(h:Avm.H):Qb cfg ws 138 [m.enc,.isl (ps.map .str),t.enc] h=some (.bool (t.QH (Xf m ps)),h):=by
 have h1:=QaN _ t (Nat.le_refl _) hq.wid (by have:=hq.nodes; omega)
 obtain⟨g,hl⟩:=Qpj m hmk hl0 hf ps hp t hq h;rw[Wd _ _ t (Nat.le_refl _)]at hl;refine Qc rfl rfl ?_
 simp at h1;cases q:t.QH (Xf m ps)<;>rw[q]at hl<;>simp[Md.enc]at hl<;>simp[Md.enc,QEH,QDH,h1,hl]
end Go.Proofs.YtflbneepngjglaaGreatDoor
namespace Go.Proofs.YtflbneepngjglaaGreatDoor
open Go Go.Avm
def QB (b:Bool)(e:Int):Int:=if b=true then 0 else e
theorem Ja (b:Bool)(e:Int)(ws:Nat)(h:Avm.H):Qb cfg ws 70 [.bool b,.int .i64 e] h=some (.int .i64 (QB b e),h):=by
 refine Qc rfl rfl ?_
 unfold QB;cases b<;>simp[F70,c70]
def XG :List Int->Int
 | []=>0
 | e::l=>if e=0 then XG l else e
def eI (l:List Int):List AV:=l.map (.int .i64)
theorem Qqq (l:List Int)(hl0:l.length<=67108864)(h:Avm.H): ∃o,Qa (evC (Qb cfg) Qa cfg.pol h.length h.length QfH) [5,6,7] [(5,.isl (eI l)),(6,.int .i64 l.length),(7,.int .i64 (0:Nat))] h=some o/\(if XG l=0 then o=(.exit 0,[(5,.isl (eI l)),(6,.int .i64 l.length),(7,.int .i64 l.length)],h)else o=(.ret,[(2,.int .i64 (XG l))],h)):=by
 refine Qg (γ:=Unit) (f:=evC (Qb cfg) Qa cfg.pol h.length h.length QfH) (keep:=[5,6,7]) l (fun _ _=>True) (fun i _=>[(5,.isl (eI l)),(6,.int .i64 l.length),(7,.int .i64 i)]) (fun _ _=>h)
     (fun _ r o=>if XG r=0 then o=(.exit 0,[(5,.isl (eI l)),(6,.int .i64 l.length),(7,.int .i64 l.length)],h)else o=(.ret,[(2,.int .i64 (XG r))],h)) ?_ ?_ () trivial
 ·intro i x r c hd hi hx _ K hK;have hw:=Qd (n:=i+1) (by omega)
  simp at hw;by_cases q:x=0
  ·obtain⟨o,h4,h5⟩:=hK () trivial;refine⟨o,?_,by simpa[XG,q]using h5⟩
   simp[eI]at h4;simp[QfH,eI,hi,hx,q,hw,h4]
  ·refine⟨_,?_,by simp[XG,q]; rfl⟩
   simp[QfH,eI,hi,hx,q]
 ·intro c K _;refine⟨_,?_,by simp[XG]; rfl⟩
  simp[QfH,eI]
theorem QvV (l:List Int)(hl0:l.length<=67108864)(ws:Nat)(h:Avm.H):Qb cfg ws 145 [.isl (eI l)] h=some (.int .i64 (XG l),h):=by
 obtain⟨o,hlp,ho⟩:=Qqq l hl0 h;have hsn:=Qz (h:=h) (n:=7) (JY l);refine Qc rfl rfl ?_
 unfold eI at*;by_cases q:XG l=0
 ·rw[if_pos q]at ho;subst ho;rw[q];simp at hlp;simp[QyT,QBa,hsn,hlp]
 ·rw[if_neg q]at ho;subst ho;simp at hlp;simp[QyT,QBa,hsn,hlp]
end Go.Proofs.YtflbneepngjglaaGreatDoor
namespace Go.Proofs.YtflbneepngjglaaGreatDoor
open Go Go.Avm
def QjG (m:Md)(t:Ty):Int:=if QcN t=false then 2 else if t.QH (QbL m [])=false then 6 else if t.QH Qbt=false then 7 else if(beh m 21 t).isSome=false then 13 else QB (t.QH Qk&&t.QH (Xf m [])) 1
theorem JA {t:Ty}(h:QcN t=true):t.nodes<=600:=by
 unfold QcN at h;simp only[Bool.and_eq_true,decide_eq_true_eq]at h;exact h.1
theorem QdN (t:Ty)(hw:t.wid<=67108864)(hb:t.nodes<=67108864)(ws:Nat)(h:Avm.H):Qb cfg ws 82 [t.enc,.QJ 83 0 []] h=some (.bool (t.QH Qk),h):=
 YO (cap':=[]) (k:=0) (.inl rfl) (by simp) _ t (Nat.le_refl _) hw hb (fun x _ hx _ ws h'=>by simpa using QuI x (Nat.le_trans hx hw) ws h') ws h [] rfl
theorem Qbv (m:Md)(hm:m.ok)(hf:m.fm)(ps:List ByteArray)(hp:ps.length<=67108864)(t:Ty)(hq:QT t)(ws:Nat)(h:Avm.H)(c:AV)(hc:snap h 7 c=some (.agg [.str m.name,.isl (m.defs.map Df.enc),.isl (ps.map .str)])):Qb cfg ws 82 [t.enc,.QJ 84 1 [c]] h=some (.bool (t.QH (Xf m ps)),h):=
 Qhu (cap':=[.agg [.str m.name,.isl (m.defs.map Df.enc),.isl (ps.map .str)]]) (k:=1) QT (fun _ _ h1 h2=>h1.inner h2) (.inl rfl) (by simp) _ t (Nat.le_refl _) hq.wid (by have:=hq.nodes; omega) hq (fun x hxq _ _ _ ws h'=>by simpa using Qpv m hm hf ps hp x hxq ws h') ws h [c] (by simp[QG,hc])
theorem QtB (m:Md)(t:Ty)(e:Int)(he:e≠0)(hc: ∀ws h,Qb cfg ws 78 [m.enc] h=some (.int .i64 e,h))(ws:Nat)(h:Avm.H):Qb cfg ws 47 [m.enc,t.enc] h=some (.int .i64 e,h):=by
 simp[Md.enc]at hc;refine Qc rfl rfl ?_
 simp[F47,c47,Md.enc,hc,he]
theorem Qwm (m:Md)(hm:m.ok)(hf:m.fm)(t:Ty)(hs:t.size<=67108864)(hc: ∀ws h,Qb cfg ws 78 [m.enc] h=some (.int .i64 0,h))(ws:Nat)(h:Avm.H):Qb cfg ws 47 [m.enc,t.enc] h=some (.int .i64 (QjG m t),h):=by
 have hw:t.wid<=67108864:=Nat.le_trans t.XE hs;have hn:t.nodes<=67108864:=Nat.le_trans (Ty.XO _ t (Nat.le_refl _)) hs;have e1:=fun ws h=>QkA t hw hn ws h
 have e2:=fun ws h=>QnG m [] hm (by simp) t hw hn ws h
 have e3:=fun ws h=>QkQ t hw hn ws h
 have e4:=fun ws h=>ZC m hm t hw ws h
 have e5:=fun ws h=>QdN t hw hn ws h
 simp[Md.enc,Ty.zero]at hc e1 e2 e3 e4 e5;refine Qc rfl rfl ?_
 unfold QjG;cases q1:QcN t
 ·rw[q1]at e1;simp[F47,c47,Md.enc,Ty.zero,hc,e1]
 ·rw[q1]at e1;cases q2:t.QH (QbL m [])
  ·rw[q2]at e2;simp[F47,c47,Md.enc,Ty.zero,hc,e1,e2]
  ·rw[q2]at e2;cases q3:t.QH Qbt
   ·rw[q3]at e3;simp[F47,c47,Md.enc,Ty.zero,hc,e1,e2,e3]
   ·rw[q3]at e3;cases q4:(beh m 21 t).isSome
    ·rw[q4]at e4;simp[F47,c47,Md.enc,Ty.zero,hc,e1,e2,e3,e4]
    ·rw[q4]at e4;cases q5:t.QH Qk
     ·rw[q5]at e5;have e6:=Ja false 1;simp[F47,c47,Md.enc,Ty.zero,hc,e1,e2,e3,e4,e5,e6]
     ·rw[q5]at e5;have hq:QT t:=⟨hw,JA q1,q5,hs⟩;have e7:=fun ws h c hc=>Qbv m hm hf [] (by simp) t hq ws h c hc
      have e6:=Ja (t.QH (Xf m [])) 1;simp at e7 e6;simp[F47,c47,Md.enc,Ty.zero,hc,e1,e2,e3,e4,e5,e6,e7]
end Go.Proofs.YtflbneepngjglaaGreatDoor
namespace Go.Proofs.YtflbneepngjglaaGreatDoor
open Go Go.Avm
theorem Qtb (m:Md)(x:Ty):JL m [] x=QbL m [] x:=by
 unfold JL QbL;simp[inS]
theorem Qjp {p q:Ty->Bool}(h: ∀x,p x=q x)(t:Ty):t.QH p=t.QH q:=by
 have:p=q:=funext h;rw[this]
theorem QpQ (m:Md)(t:Ty)(e:Int)(he:e≠0)(hc: ∀ws h,Qb cfg ws 102 [m.enc] h=some (.int .i64 e,h))(ws:Nat)(h:Avm.H):Qb cfg ws 74 [m.enc,t.enc] h=some (.int .i64 e,h):=by
 simp[Md.enc]at hc;refine Qc rfl rfl ?_
 simp[F74,c74,Md.enc,hc,he]
theorem Qsw (m:Md)(hm:m.ok)(hl:m.lim)(hf:m.fm)(t:Ty)(hs:t.size<=67108864)(hc: ∀ws h,Qb cfg ws 102 [m.enc] h=some (.int .i64 0,h))(ws:Nat)(h:Avm.H):Qb cfg ws 74 [m.enc,t.enc] h=some (.int .i64 (QjG m t),h):=by
 have hw:t.wid<=67108864:=Nat.le_trans t.XE hs;have hn:t.nodes<=67108864:=Nat.le_trans (Ty.XO _ t (Nat.le_refl _)) hs;have e1:=fun ws h=>Qio t hw hn ws h
 have e2:=fun ws h=>QnH m [] hm (by simp) t hw hn ws h
 rw[Qjp (Qtb m)]at e2;have e3:=fun ws h=>Qrj t hw hn ws h
 have e5:=fun ws h=>QkK t hw hn ws h
 simp[Md.enc,Ty.zero]at hc e1 e2 e3 e5;refine Qc rfl rfl ?_
 unfold QjG;cases q1:QcN t
 ·rw[q1]at e1;simp[F74,c74,Md.enc,Ty.zero,hc,e1]
 ·rw[q1]at e1;have e4:=fun ws h=>Yn m hm hl hf t hw (JA q1) ws h
  simp[Md.enc,Ty.zero]at e4;cases q2:t.QH (QbL m [])
  ·rw[q2]at e2;simp[F74,c74,Md.enc,Ty.zero,hc,e1,e2]
  ·rw[q2]at e2;cases q3:t.QH Qbt
   ·rw[q3]at e3;simp[F74,c74,Md.enc,Ty.zero,hc,e1,e2,e3]
   ·rw[q3]at e3;cases q4:(beh m 21 t).isSome
    ·rw[q4]at e4;simp[F74,c74,Md.enc,Ty.zero,hc,e1,e2,e3,e4]
    ·rw[q4]at e4;cases q5:t.QH Qk
     ·rw[q5]at e5;simp[F74,c74,Md.enc,Ty.zero,hc,e1,e2,e3,e4,e5,QB]
     ·rw[q5]at e5;have hq:QT t:=⟨hw,JA q1,q5,hs⟩;have e7:=fun ws h=>Qnc m hm hl hf [] (by simp) t hq ws h
      simp[Md.enc]at e7;cases q6:t.QH (Xf m [])
      ·rw[q6]at e7;simp[F74,c74,Md.enc,Ty.zero,hc,e1,e2,e3,e4,e5,e7,QB]
      ·rw[q6]at e7;simp[F74,c74,Md.enc,Ty.zero,hc,e1,e2,e3,e4,e5,e7,QB]
end Go.Proofs.YtflbneepngjglaaGreatDoor
namespace Go.Proofs.YtflbneepngjglaaGreatDoor
open Go Go.Avm
@[irreducible] noncomputable def QoG (ws:Nat) (g:FuncId) (args:List AV) (h:Avm.H):Option (AV×Avm.H):=Qb cfg ws g args h
def Qbr :List AV->Option (List Int)
 | []=>some []
 | .int .i64 a::l=>(Qbr l).map (a:: ·)
 | _=>none
theorem Qru : ∀{l:List AV} {r:List Int},Qbr l=some r->l=eI r
 | [],r,h=>by simp only[Qbr,Option.some.injEq]at h; subst h; rfl
 | v::l,r,h=>by
  unfold Qbr at h;split at h
  ·rename_i e; cases e
  ·rename_i a l' e;cases e;cases h1:Qbr l with
   | none=>rw[h1]at h; cases h
   | some q=>rw[h1]at h; cases h; rw[Qru h1]; rfl
  ·cases h
theorem YF (k ver ws n:Nat)(h:Avm.H)(hn:n<=67108864):Qb cfg ws 145 [.osl k ver 1 0 n] h=(match h[k]? with
    | some (.arr v 1 l)=>if v=ver/\l.length=n then(match Qbr l with | some r=>some (.int .i64 (XG r),h) | none=>QoG ws 145 [.osl k ver 1 0 n] h)else QoG ws 145 [.osl k ver 1 0 n] h
    | _=>QoG ws 145 [.osl k ver 1 0 n] h):=by
 have hA:QoG ws 145 [.osl k ver 1 0 n] h=Qb cfg ws 145 [.osl k ver 1 0 n] h:=by unfold QoG; rfl
 rw[hA];split
 ·rename_i v l hb;split
  ·rename_i hv;split
   ·rename_i r hr;have hl:=Qru hr;have hrl:r.length<=67108864:=by have:=hv.2; rw[hl]at this; simp[eI]at this; omega
    rw[Wn (F:=QyT) rfl rfl rfl (args':=[.isl (eI r)]) (by
     have e1:snap h deep (.osl k ver 1 0 n)=some (.isl (eI r)):=by
      have hp:=Qz (h:=h) (n:=7) (JY r);simp[deep,look,hb,hv.1,←hv.2,hl];unfold eI;rw[hp]
     have e2:snap h deep (.isl (eI r))=some (.isl (eI r)):=Ze (by simpa[eI]using JY r)
     simp only[QG,e1,e2])]
    exact QvV r hrl ws h
   ·rfl
  ·rfl
 ·rfl
theorem Qdp (a b:Bool)(e:Int)(he:e≠0):XG [QB a e,QB b e]=QB (a&&b) e:=by
 cases a<;>cases b<;>simp[XG,QB,he]
theorem QjW : ∀l:List ByteArray,Qw (l.map .str)=true
 | []=>rfl
 | x::l=>by simpa using QjW l
theorem QoZ (l:List ByteArray)(hl:l.length<=67108864)(hz: ∀s∈l,s.size<=67108864)(ws:Nat)(h:Avm.H):Qb cfg ws 146 [.isl (l.map .str),.QJ 147 0 []] h=some (.bool (!l.all Xd),h):=by
 have h1:=Jd (K:=226) (J:=146) (cfg:=cfg) (g:=147) (k:=0) (cap:=[]) (cap':=[]) (enc:=AV.str) (p:=fun s=>!Xd s) (l:=l) (sz:=1) (ag:=false) rfl rfl rfl rfl hl (QjW l) (fun x _=>by simp) (.inl rfl) (h:=h) rfl rfl (fun x hx ws h'=>by
  have e0:=fun ws h=>Qep x (hz x hx) ws h
  simp only[List.take_zero,List.drop_zero,List.nil_append,List.append_nil];refine Qc rfl rfl ?_
  simp[QED,QDD,e0]) ws
 rw[h1,WK]
def Wu (d:Df):Bool:=decide (d.params.length<=20)&&QcN d.of
def QgB (m:Md)(d:Df):Bool:=Xd d.name&&(d.params.all Xd&&d.of.QH (QbL m d.params))
def Qes (d:Df):Bool:=distinct d.params&&d.of.QH Qbt
end Go.Proofs.YtflbneepngjglaaGreatDoor
namespace Go.Proofs.YtflbneepngjglaaGreatDoor
open Go Go.Avm
theorem QoE (m:Md)(hm:m.ok)(h:Avm.H): ∃w g,Qx h.length 1 1 g (((m.defs).map Df.name).map .str) w/\Qa (evC (Qb cfg) Qa cfg.pol h.length h.length QoL) [1,3,4,5,6,7,8,30,31,32] [(1,.ptr h.length 0 2 0 0),(3,.int .i64 0),(4,.int .i64 (QB (Xd m.name) 6)),(5,.int .i64 0),(6,.int .i64 0),(7,.int .i64 0),(8,.osl (h.length+1) 0 1 0 0),(30,.isl (m.defs.map Df.enc)),(31,.int .i64 m.defs.length),(32,.int .i64 (0:Nat))] (h++([.arr 0 2 [m.enc]]++ [.arr 0 1 []]))=some (.exit 0,[(1,.ptr h.length 0 2 0 0),(3,.int .i64 (QB ((m.defs.take m.defs.length).all Wu) 2)),(4,.int .i64 (QB (Xd m.name&&(m.defs.take m.defs.length).all (QgB m)) 6)),(5,.int .i64 (QB ((m.defs.take m.defs.length).all Qes) 7)),(6,.int .i64 0),(7,.int .i64 0),(8,w),(30,.isl (m.defs.map Df.enc)),(31,.int .i64 m.defs.length),(32,.int .i64 m.defs.length)],h++([.arr 0 2 [m.enc]]++g)):=by
 have hl:m.defs.length<=67108864:=hm.len
 have hlp:=Qg (γ:=AV×Avm.H) (f:=evC (Qb cfg) Qa cfg.pol h.length h.length QoL) (keep:=[1,3,4,5,6,7,8,30,31,32]) m.defs
      (fun i c=>Qx h.length 1 1 c.2 (((m.defs.take i).map Df.name).map .str) c.1)
      (fun i c=>[(1,.ptr h.length 0 2 0 0),(3,.int .i64 (QB ((m.defs.take i).all Wu) 2)),(4,.int .i64 (QB (Xd m.name&&(m.defs.take i).all (QgB m)) 6)),(5,.int .i64 (QB ((m.defs.take i).all Qes) 7)),(6,.int .i64 0),(7,.int .i64 0),(8,c.1),(30,.isl (m.defs.map Df.enc)),(31,.int .i64 m.defs.length),(32,.int .i64 i)]) (fun _ c=>h++([.arr 0 2 [m.enc]]++c.2))
      (fun _ _ o=>∃w g,Qx h.length 1 1 g (((m.defs).map Df.name).map .str) w/\o=(.exit 0,[(1,.ptr h.length 0 2 0 0),(3,.int .i64 (QB ((m.defs.take m.defs.length).all Wu) 2)),(4,.int .i64 (QB (Xd m.name&&(m.defs.take m.defs.length).all (QgB m)) 6)),(5,.int .i64 (QB ((m.defs.take m.defs.length).all Qes) 7)),(6,.int .i64 0),(7,.int .i64 0),(8,w),(30,.isl (m.defs.map Df.enc)),(31,.int .i64 m.defs.length),(32,.int .i64 m.defs.length)],h++([.arr 0 2 [m.enc]]++g))) ?_ ?_ (.osl (h.length+1) 0 1 0 0,[.arr 0 1 []]) (.inr ⟨0,0,by simp,by simp⟩)
 ·obtain⟨o,hl,w,g,hI,ho⟩:=hlp;refine⟨w,g,hI,?_⟩
  rw[ho]at hl;simpa[QB]using hl
 ·intro i x r c hd hi hx hI K hK;have hw:=Qd (n:=i+1) (by omega)
  simp at hw;have hmx:x∈m.defs:=by rw[←hx]; exact List.getElem_mem hi
  have htk:m.defs.take (i+1)=m.defs.take i++ [x]:=by rw[List.take_succ_eq_append_getElem hi,hx]
  have hos:=hm.of x hmx;have how:x.of.wid<=67108864:=Nat.le_trans x.of.XE hos;have hon:x.of.nodes<=67108864:=Nat.le_trans (Ty.XO _ x.of (Nat.le_refl _)) hos;have hpl:=hm.params x hmx;have e1:=fun ws h=>QkA x.of how hon ws h
  have e2:=fun ws h=>Qep x.name (hm.dname x hmx) ws h
  have e3:=fun ws h=>QoZ x.params hpl (hm.pnames x hmx) ws h
  obtain⟨G,hG⟩: ∃G,x.params.all Xd=G:=⟨_,rfl⟩;simp only[hG]at e3;have e4:=fun ws h=>QnG m x.params hm hpl x.of how hon ws h
  have e5:=fun ws h=>QhB (.isl (x.params.map .str)) x.params hpl ws h rfl
  have e6:=fun ws h=>QkQ x.of how hon ws h
  rw[htk]at hK;simp only[List.all_append,List.all_cons,List.all_nil,Bool.and_true,List.map_append,List.map_cons,List.map_nil]at hK;generalize (m.defs.take i).all Wu=A1 at*;generalize (m.defs.take i).all (QgB m)=A2 at*;generalize (m.defs.take i).all Qes=A3 at*;generalize Xd m.name=A0 at*
  have hlD:Wu x=(decide ((x.params.length:Int)<=20)&&QcN x.of):=by
   have e:((x.params.length:Int)<=20)=(x.params.length<=20):=propext (by omega)
   unfold Wu; simp only[e]
  obtain⟨w,g⟩:=c;dsimp only at hI;simp at e1 e2 e3 e4 e5 e6;have hne: ∀(a b:Bool) (e:Int),e≠0->XG [QB a e,QB b e]=QB (a&&b) e:=Qdp;simp[-Prod.exists,QoL,Qzi,Md.enc,hi,hx,hw,e1,e2,e3,e4,e5,e6,Ja,YF,Qbr,hne,QN,appended];generalize hA:Jm _ _ _ _ _ _ _=r';obtain⟨v',g',rfl,h2⟩:=Qx.use (pre:=[_]) hI hA (by simp; omega) (by simp)
  obtain⟨o,h4,h5⟩:=hK (v',g') (by simpa using h2)
  refine⟨o,?_,by simpa[Md.enc]using h5⟩
  simp[Md.enc,hlD,QgB,hG,Qes,Bool.and_assoc,-List.all_eq_true]at h4;simp[Bool.and_assoc,h4,hw]
 ·intro c K hI;rw[List.take_length]at hI;refine⟨_,?_,c.1,c.2,hI,rfl⟩
  simp[QoL]
end Go.Proofs.YtflbneepngjglaaGreatDoor
