/- Types and modules whose defaults are few; copies and comparings of values with few nodes. -/
import Derived.Test.YtflbneepngjglaaGreatDoorO48
import Derived.Test.YtflbneepngjglaaGreatDoorO47
set_option linter.all false
namespace Go.Proofs.YtflbneepngjglaaGreatDoor
open Go Go.Avm
def QmB (m:Md)(f:Ty->Val->Option Val)(S:AV)(h:Avm.H)(v:Val)(i:Nat)(x:Val)(b:Ty):Prop:=
 ∀t' y,QW b v i x=some t'->f t' x=some y-> ∀ws g,Qb cfg ws 76 [m.enc,t'.enc,x.enc,S] (h++g)=some (y.enc,h++g)
set_option maxHeartbeats 3000000 in
theorem QoS (m:Md)(b:Ty)(q7:b.kind=7)(v:Val)(hv:v.size<=67108864)(hin:QmC b v)(F:Ty->Val->Option Val)(l:List Val)(hl:mapIO (JA b v F) 0 v.items=some l)(S:AV)(h:Avm.H)
    (hP: ∀(i:Nat) x,v.items[i]? =some x->QmB m F S h v i x b):
    Qa (evC (Qb cfg) Qa cfg.pol h.length h.length Qgg) [3,4,5,6,8,9,10] [(3,S),(4,.ptr h.length 0 2 0 0),(5,.ptr (h.length+1) 0 8 0 0),(6,.ptr (h.length+2) 0 4 0 0),(8,.ptr (h.length+3) 0 4 0 0),(9,.ptr (h.length+5) 0 4 0 0),(10,.int .i64 (0:Nat))]
     (h++ [.arr 0 2 [m.enc],.arr 0 8 [b.enc],.arr 0 4 [v.enc],.arr 0 4 [.agg [.int .i64 0,.int .i64 0,.str ⟨#[]⟩,.isl []]],.arr 0 4 (v.items.map Val.enc),.arr 0 4 [.agg [.int .i64 v.kind,.int .i64 v.int,.str v.bytes,.osl (h.length+4) 0 4 0 v.items.length]]])=
    some (.exit 1,[(3,S),(4,.ptr h.length 0 2 0 0),(5,.ptr (h.length+1) 0 8 0 0),(6,.ptr (h.length+2) 0 4 0 0),(8,.ptr (h.length+3) 0 4 0 0),(9,.ptr (h.length+5) 0 4 0 0),(10,.int .i64 v.items.length)],
     h++ [.arr 0 2 [m.enc],.arr 0 8 [b.enc],.arr 0 4 [v.enc],.arr 0 4 [.agg [.int .i64 0,.int .i64 0,.str ⟨#[]⟩,.isl []]],.arr 0 4 (l.map Val.enc),.arr 0 4 [.agg [.int .i64 v.kind,.int .i64 v.int,.str v.bytes,.osl (h.length+4) 0 4 0 v.items.length]]]):=by
 have hse:=v.size_eq;have hlen:=Val.Xr v.items;obtain⟨hll,hget⟩:=XB hl
 have hlp:=QE (f:=evC (Qb cfg) Qa cfg.pol h.length h.length Qgg) (keep:=[3,4,5,6,8,9,10]) v.items
  (fun i=>[(3,S),(4,.ptr h.length 0 2 0 0),(5,.ptr (h.length+1) 0 8 0 0),(6,.ptr (h.length+2) 0 4 0 0),(8,.ptr (h.length+3) 0 4 0 0),(9,.ptr (h.length+5) 0 4 0 0),(10,.int .i64 i)])
  (fun i=>h++ [.arr 0 2 [m.enc],.arr 0 8 [b.enc],.arr 0 4 [v.enc],.arr 0 4 [.agg [.int .i64 0,.int .i64 0,.str ⟨#[]⟩,.isl []]],.arr 0 4 ((l.take i++v.items.drop i).map Val.enc),.arr 0 4 [.agg [.int .i64 v.kind,.int .i64 v.int,.str v.bytes,.osl (h.length+4) 0 4 0 v.items.length]]])
  (fun _ _=>(.exit 1,[(3,S),(4,.ptr h.length 0 2 0 0),(5,.ptr (h.length+1) 0 8 0 0),(6,.ptr (h.length+2) 0 4 0 0),(8,.ptr (h.length+3) 0 4 0 0),(9,.ptr (h.length+5) 0 4 0 0),(10,.int .i64 v.items.length)],
   h++ [.arr 0 2 [m.enc],.arr 0 8 [b.enc],.arr 0 4 [v.enc],.arr 0 4 [.agg [.int .i64 0,.int .i64 0,.str ⟨#[]⟩,.isl []]],.arr 0 4 (l.map Val.enc),.arr 0 4 [.agg [.int .i64 v.kind,.int .i64 v.int,.str v.bytes,.osl (h.length+4) 0 4 0 v.items.length]]])) ?_ ?_
 ·exact hlp
 ·intro i x r hd hi hx K hK;have hw:=Qd (n:=i+1) (by omega)
  simp at hw;obtain⟨y,hy,hfy⟩:=hget i x (by rw[List.getElem?_eq_getElem hi,hx])
  rw[Nat.zero_add]at hfy;have hg:=Qgx Val.enc l v.items hll i hi;rw[hx]at hg;have hs:=Qgv Val.enc l v.items hll i hi y hy;have hml:=Qgw l v.items hll i (Nat.le_of_lt hi);rw[←hs]at hK;have hel:((l.take i++v.items.drop i).map Val.enc).length=v.items.length:=by rw[List.length_map,hml]
  generalize ((l.take i++v.items.drop i).map Val.enc)=els at hK hg hel ⊢;obtain⟨hilx,hgi⟩:=List.getElem?_eq_some_iff.1 hg
  have hpo:QW b v i x=some (b.kids.headD Ty.zero):=by unfold QW; rw[if_pos q7]
  unfold JA at hfy;rw[hpo]at hfy;have hcall:=hP i x (by rw[List.getElem?_eq_getElem hi,hx]) _ _ hpo hfy
  obtain⟨k0,kr,hkids⟩: ∃k0 kr,b.kids=k0::kr:=by
   cases hk:b.kids with
   | nil=>exact absurd hk (hin.list q7)
   | cons a r=>exact⟨a,r,rfl⟩
  rw[hkids]at hcall;simp only[List.headD_cons]at hcall;simp only[Md.enc]at hcall hK;simp[q7,hkids]at hcall hK;simp[Qgg,Md.enc,hi,hx,hgi,hel,q7,hkids,hcall,hw,hK]
 ·intro K;have he:l.take v.items.length++v.items.drop v.items.length=l:=by rw[List.take_of_length_le (by omega),List.drop_eq_nil_of_le (Nat.le_refl _),List.append_nil]
  rw[he];simp[Qgg,Md.enc]
set_option maxHeartbeats 3000000 in
theorem QkZ (m:Md)(b:Ty)(q8:b.kind=8)(v:Val)(hv:v.size<=67108864)(hin:QmC b v)(F:Ty->Val->Option Val)(hFk: ∀t x y,F t x=some y->y.kind=x.kind)(hFs: ∀t x y,F t x=some y->y.size<=x.size)(D:It->Option Val)(l r:List Val)(hl:mapIO (JA b v F) 0 v.items=some l)(hr:mapIO (fun i x=>Qbc D (b.items[i]?.getD It.zero) x) 0 l=some r)(S:AV)(h:Avm.H)
    (hP: ∀(i:Nat) x,v.items[i]? =some x->QmB m F S h v i x b)
    (hD: ∀x∈b.items,x.QA≠ []-> ∀d,D x=some d-> ∀ws g,Qb cfg ws 140 [m.enc,x.enc,S] (h++g)=some (d.enc,h++g)):
    ∃g,Qa (evC (Qb cfg) Qa cfg.pol h.length h.length QbK) [3,4,5,6,8,9,11] [(3,S),(4,.ptr h.length 0 2 0 0),(5,.ptr (h.length+1) 0 8 0 0),(6,.ptr (h.length+2) 0 4 0 0),(8,.ptr (h.length+3) 0 4 0 0),(9,.ptr (h.length+5) 0 4 0 0),(11,.int .i64 (0:Nat))]
     (h++([.arr 0 2 [m.enc],.arr 0 8 [b.enc],.arr 0 4 [v.enc],.arr 0 4 [.agg [.int .i64 0,.int .i64 0,.str ⟨#[]⟩,.isl []]],.arr 0 4 (v.items.map Val.enc),.arr 0 4 [.agg [.int .i64 v.kind,.int .i64 v.int,.str v.bytes,.osl (h.length+4) 0 4 0 v.items.length]]]++ []))=
    some (.exit 3,[(3,S),(4,.ptr h.length 0 2 0 0),(5,.ptr (h.length+1) 0 8 0 0),(6,.ptr (h.length+2) 0 4 0 0),(8,.ptr (h.length+3) 0 4 0 0),(9,.ptr (h.length+5) 0 4 0 0),(11,.int .i64 v.items.length)],
     h++([.arr 0 2 [m.enc],.arr 0 8 [b.enc],.arr 0 4 [v.enc],.arr 0 4 [.agg [.int .i64 0,.int .i64 0,.str ⟨#[]⟩,.isl []]],.arr 0 4 (r.map Val.enc),.arr 0 4 [.agg [.int .i64 v.kind,.int .i64 v.int,.str v.bytes,.osl (h.length+4) 0 4 0 v.items.length]]]++g)):=by
 have hse:=v.size_eq;have hlen:=Val.Xr v.items;obtain⟨hll,hget⟩:=XB hl;obtain⟨hrl,hget2⟩:=XB hr
 have hlp:=Qg (γ:=Avm.H) (f:=evC (Qb cfg) Qa cfg.pol h.length h.length QbK) (keep:=[3,4,5,6,8,9,11]) v.items (fun _ _=>True)
  (fun i _=>[(3,S),(4,.ptr h.length 0 2 0 0),(5,.ptr (h.length+1) 0 8 0 0),(6,.ptr (h.length+2) 0 4 0 0),(8,.ptr (h.length+3) 0 4 0 0),(9,.ptr (h.length+5) 0 4 0 0),(11,.int .i64 i)])
  (fun i g=>h++([.arr 0 2 [m.enc],.arr 0 8 [b.enc],.arr 0 4 [v.enc],.arr 0 4 [.agg [.int .i64 0,.int .i64 0,.str ⟨#[]⟩,.isl []]],.arr 0 4 ((r.take i++v.items.drop i).map Val.enc),.arr 0 4 [.agg [.int .i64 v.kind,.int .i64 v.int,.str v.bytes,.osl (h.length+4) 0 4 0 v.items.length]]]++g))
  (fun _ _ o=>∃g,o=(.exit 3,[(3,S),(4,.ptr h.length 0 2 0 0),(5,.ptr (h.length+1) 0 8 0 0),(6,.ptr (h.length+2) 0 4 0 0),(8,.ptr (h.length+3) 0 4 0 0),(9,.ptr (h.length+5) 0 4 0 0),(11,.int .i64 v.items.length)],
   h++([.arr 0 2 [m.enc],.arr 0 8 [b.enc],.arr 0 4 [v.enc],.arr 0 4 [.agg [.int .i64 0,.int .i64 0,.str ⟨#[]⟩,.isl []]],.arr 0 4 (r.map Val.enc),.arr 0 4 [.agg [.int .i64 v.kind,.int .i64 v.int,.str v.bytes,.osl (h.length+4) 0 4 0 v.items.length]]]++g))) ?_ ?_ [] trivial
 ·obtain⟨o,h1,g,rfl⟩:=hlp;exact⟨g,h1⟩
 ·intro i x rr g hd hi hx _ K hK;have hw:=Qd (n:=i+1) (by omega)
  simp at hw;have hxs:x.size<=67108864:=by have:=Val.Qu (v:=v) (x:=x) (by rw[←hx]; exact List.getElem_mem hi); omega
  obtain⟨z,hz,hfz⟩:=hget i x (by rw[List.getElem?_eq_getElem hi,hx])
  obtain⟨y,hy,hfy⟩:=hget2 i z hz;rw[Nat.zero_add]at hfy hfz;have hib:i<b.items.length:=by rw[←hin.record q8]; exact hi
  obtain⟨t,ht⟩: ∃t,b.items[i]=t:=⟨_,rfl⟩;have htm:t∈b.items:=by rw[←ht]; exact List.getElem_mem hib
  rw[List.getElem?_eq_getElem hib,ht]at hfy
  simp only[Option.getD_some]at hfy;have hg:=Qgx Val.enc r v.items (by omega) i hi
  rw[hx]at hg;have hs:=Qgv Val.enc r v.items (by omega) i hi y hy
  have hml:=Qgw r v.items (by omega) i (Nat.le_of_lt hi)
  obtain⟨o,h4,h5⟩:=hK (g++ [.arr 0 12 [t.enc]]) trivial;refine⟨o,?_,h5⟩
  rw[←hs]at h4;have hel:((r.take i++v.items.drop i).map Val.enc).length=v.items.length:=by rw[List.length_map,hml]
  generalize ((r.take i++v.items.drop i).map Val.enc)=els at hg h4 hel ⊢;obtain⟨hilx,hgi⟩:=List.getElem?_eq_some_iff.1 hg
  by_cases q12:x.kind=12
  ·have hpo:QW b v i x=none:=by unfold QW; simp[q8,q12]
   unfold JA at hfz;rw[hpo]at hfz;injection hfz with hfz;subst hfz;unfold Qbc at hfy;rw[if_neg (by simp[q12])]at hfy
   injection hfy with hfy;subst hfy;have hset:els.set i x.enc=els:=QdO hg;rw[hset]at h4;simp only[Md.enc]at h4;simp[q8]at h4;simp[QbK,Md.enc,hi,hib,ht,hx,hgi,hel,q8,q12,hw,h4]
  ·have hpo:QW b v i x=some t.of:=by unfold QW; simp[q8,q12,List.getElem?_eq_getElem hib,ht]
   unfold JA at hfz;rw[hpo]at hfz;have hcall:=hP i x (by rw[List.getElem?_eq_getElem hi,hx]) _ _ hpo hfz
   have hzk:=hFk _ _ _ hfz;have hzs:=hFs _ _ _ hfz;simp only[Md.enc]at hcall h4;simp[q8]at hcall h4;unfold Qbc at hfy;cases hq:t.QA with
   | nil=>
    rw[if_neg (by simp[hq])]at hfy
    injection hfy with hfy;subst hfy;simp[hq]at h4;simp[QbK,Md.enc,hi,hib,ht,hx,hgi,hel,q8,q12,hq,hcall,hw,h4]
   | cons d1 dr=>
    rw[if_pos ⟨by simp[hq],by rw[hzk]; exact q12⟩]at hfy
    split at hfy
    ·rename_i d hdd;injection hfy with hfy;have e1:=fun ws g=>hD t htm (by simp[hq]) d hdd ws g
     have e2:=fun ws h=>Qcb _ z d (Nat.le_refl _) (by omega) ws h
     have hgt:(0:Int)<dr.length+1:=by omega
     simp only[Md.enc]at e1;by_cases hsm:z.same d=true
     ·rw[if_pos hsm]at hfy;subst hfy;rw[hsm]at e2;simp[QaY,hq]at h4;simp[q8,hq]at e1 e2;simp[QbK,Md.enc,hi,hib,ht,hx,hgi,hel,q8,q12,hq,hgt,hcall,e1,e2,hw,h4,List.set_set]
     ·rw[if_neg hsm]at hfy;subst hfy;have hsm:z.same d=false:=by simpa using hsm
      rw[hsm]at e2;simp[hq]at h4;simp[q8,hq]at e1 e2;simp[QbK,Md.enc,hi,hib,ht,hx,hgi,hel,q8,q12,hq,hgt,hcall,e1,e2,hw,h4]
    ·cases hfy
 ·intro g K _;refine⟨_,?_,g,rfl⟩
  have he:r.take v.items.length++v.items.drop v.items.length=r:=by rw[List.take_of_length_le (by omega),List.drop_eq_nil_of_le (Nat.le_refl _),List.append_nil]
  rw[he];simp[QbK,Md.enc]
theorem QhL {f:Nat->Val->Option Val}: ∀{l r:List Val} {i:Nat},(∀(j:Nat) x,l[j]? =some x->f (i+j) x=some x)->mapIO f i l=some r->r=l
 | [],r,i,_,h=>by simp[mapIO]at h; exact h
 | a::l,r,i,hf,h=>by
  have h0:=hf 0 a rfl;rw[Nat.add_zero]at h0;unfold mapIO at h;rw[h0]at h;split at h
  ·rename_i y l' h1 h2;injection h1 with h1; injection h with h;subst h1
   have:=QhL (l:=l) (r:=l') (i:=i+1) (fun j x hj=>by
    have:=hf (j+1) x (by simpa using hj)
    rw[show i+1+j=i+(j+1)by omega]; exact this) h2
   rw[←h,this]
  ·cases h
theorem Qss {f:Nat->Val->Option Val}{r:List Val}{i:Nat}(h:mapIO f i []=some r):r=[]:=by simp[mapIO]at h; exact h
set_option maxHeartbeats 4000000 in
theorem Qhc {m:Md}{S:List (Ty×Val)}(M:m.Zz S)(hS:S.length<=67108863)(hSs: ∀q∈S,q.2.size<=67108864): ∀(n:Nat) (u:List (Ty×Val)) (t:Ty) (v r:Val),Xd m n u t v=some r->t.Zz m S->(∃k,Xn m k t v=true)->v.size<=67108864->(∀q∈u,Qwj q)->u.length+rest S u<=S.length->
    ∀W h,QfI h W u-> ∀ws,Qb cfg ws 76 [m.enc,t.enc,v.enc,W] h=some (r.enc,h)
 | 0,_,_,_,_,h,_,_,_,_,_,_,_,_,_=>by cases h
 | n+1,u,t,v,r,hp,T,⟨k,hk⟩,hv,hu,hlen,W,h,A,ws=>by
  cases k with
  | zero=>cases hk
  | succ k=>
  cases hb:beh m 21 t with
  | none=>unfold Xn at hk; rw[hb]at hk; cases hk
  | some b=>
  obtain⟨B,hb10⟩:=T.beh M hb;obtain⟨hkind,hin,hsub⟩:=JY m hk hb (QO B.right);unfold Xd at hp;rw[hb]at hp;simp only[Option.getD_some]at hp;have hse:=v.size_eq;have hvl:=Val.Xr v.items;have hroot:=fun ws h=>YT m M.ok M.lim M.fm t T.wid T.nodes ws h
  have hcopy:=fun ws h=>Qoe _ v (Nat.le_refl _) hv ws h
  rw[hb]at hroot;split at hp
  ·cases hp
  ·rename_i l hl;obtain⟨hll,hlget⟩:=XB hl
   have hitem: ∀(i:Nat) x,v.items[i]? =some x->x.size<=67108864:=fun i x hx=>by
    have:=Val.Qu (List.mem_of_getElem? hx); omega
   have hP: ∀(i:Nat) x,v.items[i]? =some x->QmB m (Xd m n u) W h v i x b:=fun i x hx t' y hpo hy ws g=>
    Qhc M hS hSs n u t' x y hy (YY B hpo) ⟨k,hsub i x t' hx hpo⟩ (hitem i x hx) hu hlen W (h++g) (A.more g) ws
   have hWp:norm W=W:=by
    rcases A with⟨_,rfl⟩ | ⟨c,ver,_,rfl,_⟩<;>rfl
   unfold norm at hWp
   have hWo:W.one=true:=by
    rcases A with⟨_,rfl⟩ | ⟨c,ver,_,rfl,_⟩<;>rfl
   have hD:b.kind=8-> ∀x∈b.items,x.QA≠ []-> ∀d,QeF (Xd m n) u x=some d-> ∀ws g,Qb cfg ws 140 [m.enc,x.enc,W] (h++g)=some (d.enc,h++g):=fun q8 x hx hd d hset ws g=>by
    obtain⟨dd,h1,h2,h3,h4⟩:=Qae.1 (QO B.good) q8 x hx hd;have hxin:x.of∈b.inner:=by unfold Ty.inner Ty.comp; rw[q8]; exact List.mem_append_right _ (List.mem_map_of_mem hx)
    have hxo:QiO x:=⟨(B.inner hxin).wid,dd,[],h1,hSs _ h2⟩;have hd0:=Qai h1;refine QwQ m x hxo u hu (by omega) (Xd m n) d hset (fun hmet d' hd' W' H' A' ws'=>?_) W (h++g) (A.more g) ws
    have hkx:JD x=(x.of,dd):=by unfold JD; rw[hd0]
    refine Qhc M hS hSs n (u++ [JD x]) x.of x.d0 d' hd' (B.inner hxin) ⟨dd.size,by rw[hd0]; exact h3⟩ (by rw[hd0]; exact hSs _ h2) (fun q hq=>?_) ?_ W' H' A' ws'
    ·rcases List.mem_append.1 hq with hq | hq
     ·exact hu q hq
     ·simp at hq; subst hq;rw[hkx];exact⟨(B.inner hxin).wid,hSs _ h2⟩
    ·rw[hd0]at hmet;have:=Qlp (u:=u) h2 hmet;rw[hkx];simp only[List.length_append,List.length_singleton];omega
   refine Qc rfl rfl ?_
   by_cases h0:v.items=[]
   ·
    have hl0:l=[]:=by rw[h0]at hl; exact Qss hl
    have hr0:r=v:=by
     subst hl0;split at hp
     ·rename_i q8;simp[mapIO]at hp;rw[←hp,←h0]; exact v.eta
     ·injection hp with hp;rw[←hp,←h0]; exact v.eta
    subst hr0;simp only[cpV,cpH,if_pos h0]at hcopy
    have q9: ¬b.kind=9:=fun q=>by
     unfold Xn at hk; rw[hb]at hk;simp only[Bool.and_eq_true,decide_eq_true_eq]at hk;have:=hk.2;unfold JO at this;simp[q,h0]at this
    simp[h0]at hcopy hroot;simp only[Md.enc]at hroot
    have eL:Qa (evC (Qb cfg) Qa cfg.pol h.length h.length Qgg) [3,4,5,6,8,9,10] [(3,W),(4,.ptr h.length 0 2 0 0),(5,.ptr (h.length+1) 0 8 0 0),(6,.ptr (h.length+2) 0 4 0 0),(8,.ptr (h.length+3) 0 4 0 0),(9,.ptr (h.length+4) 0 4 0 0),(10,.int .i64 (0:Nat))]
         (h++ [.arr 0 2 [m.enc],.arr 0 8 [b.enc],.arr 0 4 [r.enc],.arr 0 4 [.agg [.int .i64 0,.int .i64 0,.str ⟨#[]⟩,.isl []]],.arr 0 4 [r.enc]])=
     some (.exit 1,[(3,W),(4,.ptr h.length 0 2 0 0),(5,.ptr (h.length+1) 0 8 0 0),(6,.ptr (h.length+2) 0 4 0 0),(8,.ptr (h.length+3) 0 4 0 0),(9,.ptr (h.length+4) 0 4 0 0),(10,.int .i64 (0:Nat))],
      h++ [.arr 0 2 [m.enc],.arr 0 8 [b.enc],.arr 0 4 [r.enc],.arr 0 4 [.agg [.int .i64 0,.int .i64 0,.str ⟨#[]⟩,.isl []]],.arr 0 4 [r.enc]]):=by
     have hlp:=QE (f:=evC (Qb cfg) Qa cfg.pol h.length h.length Qgg) (keep:=[3,4,5,6,8,9,10]) ([]:List Val)
      (fun i=>[(3,W),(4,.ptr h.length 0 2 0 0),(5,.ptr (h.length+1) 0 8 0 0),(6,.ptr (h.length+2) 0 4 0 0),(8,.ptr (h.length+3) 0 4 0 0),(9,.ptr (h.length+4) 0 4 0 0),(10,.int .i64 i)])
      (fun _=>h++ [.arr 0 2 [m.enc],.arr 0 8 [b.enc],.arr 0 4 [r.enc],.arr 0 4 [.agg [.int .i64 0,.int .i64 0,.str ⟨#[]⟩,.isl []]],.arr 0 4 [r.enc]])
      (fun _ _=>(.exit 1,[(3,W),(4,.ptr h.length 0 2 0 0),(5,.ptr (h.length+1) 0 8 0 0),(6,.ptr (h.length+2) 0 4 0 0),(8,.ptr (h.length+3) 0 4 0 0),(9,.ptr (h.length+4) 0 4 0 0),(10,.int .i64 (0:Nat))],
       h++ [.arr 0 2 [m.enc],.arr 0 8 [b.enc],.arr 0 4 [r.enc],.arr 0 4 [.agg [.int .i64 0,.int .i64 0,.str ⟨#[]⟩,.isl []]],.arr 0 4 [r.enc]])) ?_ ?_
     ·exact hlp
     ·intro i x rr _ hi; simp at hi
     ·intro K;simp[Qgg,Md.enc,h0]
    have eR:Qa (evC (Qb cfg) Qa cfg.pol h.length h.length QbK) [3,4,5,6,8,9,11] [(3,W),(4,.ptr h.length 0 2 0 0),(5,.ptr (h.length+1) 0 8 0 0),(6,.ptr (h.length+2) 0 4 0 0),(8,.ptr (h.length+3) 0 4 0 0),(9,.ptr (h.length+4) 0 4 0 0),(11,.int .i64 (0:Nat))]
         (h++ [.arr 0 2 [m.enc],.arr 0 8 [b.enc],.arr 0 4 [r.enc],.arr 0 4 [.agg [.int .i64 0,.int .i64 0,.str ⟨#[]⟩,.isl []]],.arr 0 4 [r.enc]])=
     some (.exit 3,[(3,W),(4,.ptr h.length 0 2 0 0),(5,.ptr (h.length+1) 0 8 0 0),(6,.ptr (h.length+2) 0 4 0 0),(8,.ptr (h.length+3) 0 4 0 0),(9,.ptr (h.length+4) 0 4 0 0),(11,.int .i64 (0:Nat))],
      h++ [.arr 0 2 [m.enc],.arr 0 8 [b.enc],.arr 0 4 [r.enc],.arr 0 4 [.agg [.int .i64 0,.int .i64 0,.str ⟨#[]⟩,.isl []]],.arr 0 4 [r.enc]]):=by
     have hlp:=QE (f:=evC (Qb cfg) Qa cfg.pol h.length h.length QbK) (keep:=[3,4,5,6,8,9,11]) ([]:List Val)
      (fun i=>[(3,W),(4,.ptr h.length 0 2 0 0),(5,.ptr (h.length+1) 0 8 0 0),(6,.ptr (h.length+2) 0 4 0 0),(8,.ptr (h.length+3) 0 4 0 0),(9,.ptr (h.length+4) 0 4 0 0),(11,.int .i64 i)])
      (fun _=>h++ [.arr 0 2 [m.enc],.arr 0 8 [b.enc],.arr 0 4 [r.enc],.arr 0 4 [.agg [.int .i64 0,.int .i64 0,.str ⟨#[]⟩,.isl []]],.arr 0 4 [r.enc]])
      (fun _ _=>(.exit 3,[(3,W),(4,.ptr h.length 0 2 0 0),(5,.ptr (h.length+1) 0 8 0 0),(6,.ptr (h.length+2) 0 4 0 0),(8,.ptr (h.length+3) 0 4 0 0),(9,.ptr (h.length+4) 0 4 0 0),(11,.int .i64 (0:Nat))],
       h++ [.arr 0 2 [m.enc],.arr 0 8 [b.enc],.arr 0 4 [r.enc],.arr 0 4 [.agg [.int .i64 0,.int .i64 0,.str ⟨#[]⟩,.isl []]],.arr 0 4 [r.enc]])) ?_ ?_
     ·exact hlp
     ·intro i x rr _ hi; simp at hi
     ·intro K;simp[QbK,Md.enc,h0]
    simp only[Md.enc]at eL eR;by_cases q7:b.kind=7
    ·simp[h0,q7]at eL hroot;simp[F76,c76,Md.enc,hWp,hWo,h0,hroot,hcopy,q7,eL]
    ·by_cases q8:b.kind=8
     ·simp[h0,q8]at eR hroot;simp[F76,c76,Md.enc,hWp,hWo,h0,hroot,hcopy,q8,eR]
     ·simp[F76,c76,Md.enc,hWp,hWo,h0,hroot,hcopy,q7,q8,q9]
   ·simp only[cpV,cpH,if_neg h0]at hcopy;simp at hcopy hroot;simp only[Md.enc]at hroot;by_cases q7:b.kind=7
    ·rw[if_neg (by omega)]at hp
     injection hp with hp;have eL:=QoS m b q7 v hv hin (Xd m n u) l hl W h hP;have htk:(l.map Val.enc).take v.items.length=l.map Val.enc:=List.take_of_length_le (by simp; omega)
     subst hp;simp only[Md.enc]at eL;simp[q7]at eL hroot;simp[F76,c76,Md.enc,hWp,hWo,hroot,hcopy,q7,eL,hll,htk]
    ·by_cases q8:b.kind=8
     ·rw[if_pos q8]at hp;split at hp
      ·rename_i r' hr';injection hp with hp;subst hp;obtain⟨hrl,_⟩:=XB hr';obtain⟨g,eR⟩:=QkZ m b q8 v hv hin (Xd m n u) (fun t x y hy=>Qnc hy) (fun t x y hy=>Jw hy) (QeF (Xd m n) u) l r' hl hr' W h hP (hD q8)
       have htk:(r'.map Val.enc).take v.items.length=r'.map Val.enc:=List.take_of_length_le (by simp; omega)
       have hrn:r'.length=v.items.length:=by omega
       simp only[Md.enc]at eR;simp[q8]at eR hroot;simp[F76,c76,Md.enc,hWp,hWo,hroot,hcopy,q8,eR,hrn,htk]
      ·cases hp
     ·rw[if_neg q8]at hp;injection hp with hp;subst hp;have htk:(l.map Val.enc).take v.items.length=l.map Val.enc:=List.take_of_length_le (by simp; omega)
      by_cases q9:b.kind=9
      ·obtain⟨hc1,hc2⟩:=hin.choice q9
       obtain⟨x,xr,hx⟩: ∃x xr,v.items=x::xr:=by
        cases hx:v.items with
        | nil=>exact absurd hx h0
        | cons a q=>exact⟨a,q,rfl⟩
       have hxr:xr=[]:=by
        unfold Xn at hk; rw[hb]at hk;simp only[Bool.and_eq_true,decide_eq_true_eq]at hk;have:=hk.2;unfold JO at this;simp[q9,hx]at this;exact this.2.2.1
       subst hxr;obtain⟨y,hy,hfy⟩:=hlget 0 x (by rw[hx]; rfl)
       have hly:l=[y]:=by
        cases hl':l with
        | nil=>rw[hl']at hy; cases hy
        | cons a q=>
         rw[hl',hx]at hll;simp at hll;rw[hl']at hy; simp at hy;rw[hy,hll]
       have hpo:QW b v 0 x=some b.items[v.int.toNat].of:=by unfold QW; simp[q9,List.getElem?_eq_getElem hc2]
       unfold JA at hfy;rw[Nat.zero_add,hpo]at hfy;have hcall:=hP 0 x (by rw[hx]; rfl) _ _ hpo hfy
       simp only[Md.enc]at hcall;simp[q9,hx]at hcall hroot hcopy;simp[F76,c76,Md.enc,hWp,hWo,hroot,hcopy,q9,hx,hly,hc1,hc2,hcall]
      ·have hl':l=v.items:=QhL (fun j x hj=>by unfold JA QW; simp[q7,q8,q9]) hl
       subst hl';simp[F76,c76,Md.enc,hWp,hWo,hroot,hcopy,q7,q8,q9]
theorem QrE {m:Md}{S:List (Ty×Val)}(M:m.Zz S)(hS:S.length<=67108863)(hSs: ∀q∈S,q.2.size<=67108864)(n:Nat)(t:Ty)(v r:Val)(hp:Xd m n [] t v=some r)(T:t.Zz m S)(hk: ∃k,Xn m k t v=true)(hv:v.size<=67108864)(ws:Nat)(h:Avm.H):
    Qb cfg ws 42 [m.enc,t.enc,v.enc] h=some (r.enc,h):=by
 have hr:rest S []<=S.length:=List.length_filter_le _ _;have e1:=fun ws h=>Qhc M hS hSs n [] t v r hp T hk hv (by simp) (by simpa using hr) (.isl []) h (.inl ⟨rfl,rfl⟩) ws
 refine Qc rfl rfl ?_
 simp at e1;simp only[Md.enc]at e1;simp[F42,c42,Md.enc,e1]
end Go.Proofs.YtflbneepngjglaaGreatDoor
namespace Go.Proofs.YtflbneepngjglaaGreatDoor
open Go Go.Avm
theorem QvK {m:Md}{ps:List ByteArray}{t:Ty}(hr:Qk t=true)(hs:Xg m ps t=true): ∀x∈t.items,x.QA.length<=1:=fun x hx=>by
 by_cases hc:t.comp=true
 ·unfold Ty.comp at hc;simp only[Bool.or_eq_true,decide_eq_true_eq]at hc;by_cases q8:t.kind=8
  ·unfold Xg at hs;rw[q8]at hs;simp only[decide_true,Bool.not_true,Bool.false_or]at hs;have:=List.all_eq_true.1 hs x hx;unfold JJ at this;split at this
   ·rename_i e; rw[e]; simp
   ·rename_i d e; rw[e]; simp
   ·cases this
  ·have q9:t.kind=9:=by omega
   unfold Qk at hr;simp[q9]at hr;have:=hr.2.2 x hx;unfold XM at this;simp at this;rw[this.2]; simp
 ·rcases Yj hr hc with h | h
  ·rw[h]at hx; cases hx
  ·have:=List.all_eq_true.1 h x hx;unfold JQ at this;simp at this;rw[this.2.2]; simp
theorem Qqv {α β:Type}(f:α->List β)(g:α->Nat): ∀(l:List α),(∀x∈l,(f x).length+1<=g x)->(l.flatMap f).length+l.length<=(l.map g).sum
 | [],_=>by simp
 | x::l,h=>by
  have h1:=h x (by simp)
  have h2:=Qqv f g l fun y hy=>h y (by simp[hy])
  simp only[List.flatMap_cons,List.length_append,List.length_cons,List.map_cons,List.sum_cons];omega
theorem Qrc {α β:Type}(f:α->List β): ∀(l:List α),(∀x∈l,(f x).length<=1)->(l.flatMap f).length<=l.length
 | [],_=>by simp
 | x::l,h=>by
  have h1:=h x (by simp)
  have h2:=Qrc f l fun y hy=>h y (by simp[hy])
  simp only[List.flatMap_cons,List.length_append,List.length_cons];omega
theorem Qls (m:Md)(ps:List ByteArray): ∀(n:Nat) (t:Ty),t.size<=n->t.Qz Qk=true->t.Qz (Xg m ps)=true->t.prs.length+1<=t.nodes
 | 0,t,h,_,_=>by have:=t.size_pos; omega
 | n+1,t,h,hr,hs=>by
  have h1:=Qqv Ty.prs Ty.nodes t.inner fun y hy=>Qls m ps n y (by have:=Ty.QQ hy; omega) (Qs hr hy) (Qs hs hy)
  have hone:=QvK (QO hr) (QO hs)
  have h2:(t.items.flatMap fun x=>x.QA.map fun d=>(x.of,d)).length<=t.inner.length:=by
   by_cases hc:t.comp=true
   ·have:=Qrc (fun x:It=>x.QA.map fun d=>(x.of,d)) t.items fun x hx=>by simpa using hone x hx
    unfold Ty.inner;rw[if_pos hc,List.length_append,List.length_map];omega
   ·rcases Yj (QO hr) hc with h | h
    ·rw[h]; simp
    ·have:(t.items.flatMap fun x=>x.QA.map fun d=>(x.of,d))=[]:=by
       rw[List.flatMap_eq_nil_iff];intro x hx;have:=List.all_eq_true.1 h x hx;unfold JQ at this;simp at this;rw[this.2.2]; rfl
     rw[this]; simp
  rw[Ty.Qpr,List.length_append,Ty.QC];omega
theorem QhB : ∀(n:Nat) (t:Ty),t.size<=n-> ∀q∈t.prs,q.2.size<=t.wid
 | 0,t,h=>by have:=t.size_pos; omega
 | n+1,t,h=>fun q hq=>by
  rw[Ty.Qpr]at hq;rcases List.mem_append.1 hq with hq | hq
  ·obtain⟨x,hx,hq⟩:=List.mem_flatMap.1 hq;obtain⟨d,hd,rfl⟩:=List.mem_map.1 hq;have:=It.QkR hd;have:=Ty.Jf hx;dsimp only;omega
  ·obtain⟨y,hy,hq⟩:=List.mem_flatMap.1 hq;have:=QhB n y (by have:=Ty.QQ hy; omega) q hq
   have:=Ty.ZU hy;omega
def Qmz (m:Md)(t:Ty):List (Ty×Val):=(m.defs.flatMap fun d=>d.of.prs)++t.prs
theorem QsX {m:Md}(h:QcF m=0):m.defs.length<=40/\m.defs.all (WU m)=true:=by
 unfold QcF at h;split at h
 ·cases h
 rename_i hl;split at h
 ·cases h
 split at h
 ·cases h
 split at h
 ·cases h
 split at h
 ·cases h
 split at h
 ·cases h
 refine⟨by omega,?_⟩
 cases q:m.defs.all (WU m)
 ·rw[q]at h; cases h
 ·rfl
theorem QsW {m:Md}{t:Ty}(h:Qjb m t=0):t.Qz (Xg m [])=true:=by
 unfold Qjb at h;split at h
 ·cases h
 split at h
 ·cases h
 split at h
 ·cases h
 split at h
 ·cases h
 cases q:t.Qz (Xg m [])
 ·rw[q]at h; simp[QD]at h
 ·rfl
theorem QnL {α β:Type}(f:α->List β)(k:Nat): ∀(l:List α),(∀x∈l,(f x).length<=k)->(l.flatMap f).length<=l.length*k
 | [],_=>by simp
 | x::l,h=>by
  have h1:=h x (by simp)
  have h2:=QnL f k l fun y hy=>h y (by simp[hy])
  simp only[List.flatMap_cons,List.length_append,List.length_cons,Nat.succ_mul];omega
theorem QgF {m:Md}(hm:m.ok){t:Ty}(hs:t.size<=67108864)(h:QeX m t=0):m.Zz (Qmz m t)/\t.Zz m (Qmz m t)/\(Qmz m t).length<=67108863/\ ∀q∈Qmz m t,q.2.size<=67108864:=by
 obtain⟨h1,h2⟩:=Qcq h;obtain⟨h3,h4⟩:=Jz h1;obtain⟨h5,h6⟩:=QsX h1;obtain⟨h7,h8⟩:=Qaf h2;have h9:=QsW h2;have hw:t.wid<=67108864:=Nat.le_trans t.XF hs;have hset: ∀d∈m.defs,d.of.Qz (Xg m d.params)=true:=fun d hd=>List.all_eq_true.1 h6 d hd
 have hlim:=QeT h3;have hfm:=Qge h4
 refine⟨⟨hm,hlim,hfm,hset,fun d hd q hq=>List.mem_append_left _ (List.mem_flatMap.2 ⟨d,hd,hq⟩)⟩,
  ⟨hw,JT h7,h8,Qra h8 h9 fun q hq=>List.mem_append_right _ hq⟩,?_,fun q hq=>?_⟩
 ·unfold Qmz;rw[List.length_append]
  have e1:=QnL (fun d:Df=>d.of.prs) 600 m.defs fun d hd=>by
   have:=Qls m d.params _ d.of (Nat.le_refl _) (hfm d hd) (hset d hd);have:=hlim d hd;omega
  have e2:=Qls m [] _ t (Nat.le_refl _) h8 h9;have e3:=JT h7;have e4:m.defs.length*600<=40*600:=Nat.mul_le_mul_right _ h5;omega
 ·rcases List.mem_append.1 hq with hq | hq
  ·obtain⟨d,hd,hq⟩:=List.mem_flatMap.1 hq;have:=QhB _ d.of (Nat.le_refl _) q hq;have:=d.of.XF;have:=hm.of d hd;omega
  ·have:=QhB _ t (Nat.le_refl _) q hq;omega
theorem Ww {v:Val}:v.items.length<v.nodes:=by
 rw[v.QC]
 have: ∀l:List Val,l.length<=(l.map Val.nodes).sum:=by
  intro l
  induction l with
  | nil=>simp
  | cons x l ih=>simp only[List.length_cons,List.map_cons,List.sum_cons]; have:=x.XS; omega
 have:=this v.items;omega
theorem Qaa {v x:Val}(h:x∈v.items):x.nodes<v.nodes:=by
 rw[v.QC]
 have: ∀l:List Val,x∈l->x.nodes<=(l.map Val.nodes).sum:=by
  intro l
  induction l with
  | nil=>intro h; cases h
  | cons y l ih=>
   intro h;simp only[List.map_cons,List.sum_cons];rcases List.mem_cons.1 h with rfl | h
   ·omega
   ·have:=ih h; omega
 have:=this v.items h;omega
theorem Qid : ∀(n:Nat) (v:Val),v.nodes<=n->v.nodes<=67108864-> ∀ws h,Qb cfg ws 39 [v.enc] h=some (v.enc,h)
 | 0,v,hv,_,_,_=>by have:=v.XS; omega
 | n+1,v,hv,hb,ws,h=>by
  have hlen:=Ww (v:=v);have hcl:=Qks v.items (by omega)
  have hlp:=QE (f:=evC (Qb cfg) Qa cfg.pol h.length h.length Qro) (keep:=[1,2,10,11]) v.items (fun i=>[(1,.ptr h.length 0 4 0 0),(2,.ptr (h.length+1) 0 4 0 0),(10,.int .i64 v.items.length),(11,.int .i64 i)]) (fun _=>h++ [.arr 0 4 [.agg [.int .i64 v.kind,.int .i64 v.int,.str v.bytes,.osl (h.length+2) 0 4 0 v.items.length]],.arr 0 4 [.agg [.int .i64 0,.int .i64 0,.str ⟨#[]⟩,.isl []]],.arr 0 4 (v.items.map Val.enc)])
   (fun _ _=>(.exit 0,[(1,.ptr h.length 0 4 0 0),(2,.ptr (h.length+1) 0 4 0 0),(10,.int .i64 v.items.length),(11,.int .i64 v.items.length)],h++ [.arr 0 4 [.agg [.int .i64 v.kind,.int .i64 v.int,.str v.bytes,.osl (h.length+2) 0 4 0 v.items.length]],.arr 0 4 [.agg [.int .i64 0,.int .i64 0,.str ⟨#[]⟩,.isl []]],.arr 0 4 (v.items.map Val.enc)])) ?_ ?_
  ·refine Qc rfl rfl ?_
   simp at hlp hcl;simp[F39,c39,hcl,hlp]
  ·intro i x r hd hi hx K hK;have hw:=Qd (n:=i+1) (by omega)
   simp at hw;have hm1:x∈v.items:=by rw[←hx]; exact List.getElem_mem hi
   have hsz:=Qaa hm1;have hc:=fun ws h'=>Qid n x (by omega) (by omega) ws h'
   have hset:(v.items.map Val.enc).set i x.enc=v.items.map Val.enc:=QdO (by rw[List.getElem?_map,List.getElem?_eq_getElem hi,hx]; rfl)
   simp at hc hset hK;simp[Qro,hi,hx,hc,hset,hw,hK]
  ·intro K;simp[Qro]
theorem Qub : ∀(n:Nat) (v w:Val),v.nodes<=n->v.nodes<=67108864-> ∀ws h,Qb cfg ws 17 [v.enc,w.enc] h=some (.bool (v.same w),h)
 | 0,v,_,hv,_,_,_=>by have:=v.XS; omega
 | n+1,v,w,hv,hb,ws,h=>by
  have hlen:=Ww (v:=v)
  have heq:=fun h'=>Qdj v.items w.items (by omega) (fun x hx y ws h=>by
   have:=Qaa hx;exact Qub n x y (by omega) (by omega) ws h) h.length h'
  refine Qc rfl rfl ?_
  rw[Val.Xu];simp[F17,c17,heq,Bool.and_assoc]
theorem Qjx : ∀(n:Nat) (v w:Val),v.nodes<=n->v.nodes<=67108864-> ∀ws h,Qb cfg ws 13 [v.enc,w.enc] h=some (.bool (v.same w),h)
 | 0,v,_,hv,_,_,_=>by have:=v.XS; omega
 | n+1,v,w,hv,hb,ws,h=>by
  have hlen:=Ww (v:=v);refine Qc rfl rfl ?_
  rw[Val.Xu];by_cases h1:v.kind=w.kind
  ·by_cases h2:v.int=w.int
   ·by_cases h3:v.bytes.toList=w.bytes.toList
    ·by_cases h4:v.items.length=w.items.length
     ·have hl:=QE (f:=evC (Qb cfg) Qa cfg.pol h.length h.length Qen) (keep:=[2,3,5]) v.items (fun i=>[(2,.ptr h.length 0 4 0 0),(3,.ptr (h.length+1) 0 4 0 0),(5,.int .i64 i)]) (fun _=>h++ [.arr 0 4 [v.enc],.arr 0 4 [w.enc]])
        (fun j r=>if eqL Val.same r (w.items.drop j)=true then(.exit 0,[(2,.ptr h.length 0 4 0 0),(3,.ptr (h.length+1) 0 4 0 0),(5,.int .i64 v.items.length)],h++ [.arr 0 4 [v.enc],.arr 0 4 [w.enc]])else(.ret,[(4,.bool false)],h++ [.arr 0 4 [v.enc],.arr 0 4 [w.enc]])) ?_ ?_
      ·simp only[List.drop_zero]at hl;cases hs:eqL Val.same v.items w.items<;>simp[hs]at hl<;>simp[F13,c13,h1,h2,h3,h4]<;>simp[h1,h2,h3,h4]at hl<;>simp[hl]
      ·intro j x r hd hi hx K hK;have hw:=Qd (n:=j+1) (by omega)
       simp at hw;have him:j<w.items.length:=by omega
       have hdm:w.items.drop j=w.items[j]::w.items.drop (j+1):=List.drop_eq_getElem_cons him;rw[hdm];have hm1:x∈v.items:=by rw[←hx]; exact List.getElem_mem hi
       have hsz:=Qaa hm1;obtain⟨y,hy⟩: ∃y,w.items[j]=y:=⟨_,rfl⟩;have hcl:=fun h'=>Qjx n x y (by omega) (by omega) h.length h'
       rw[hy];simp only[Val.ZO]at hcl;rw[eqL];cases hs:x.same y
       ·rw[hs]at hcl;simp[Qen,hi,hx,him,hy,hcl]
       ·rw[hs]at hcl;simp at hK;simp[Qen,hi,hx,him,hy,hcl,hw,hK]
      ·intro K;have:w.items.drop v.items.length=[]:=by rw[h4]; simp
       rw[this];simp[Qen,eqL]
     ·have hs:eqL Val.same v.items w.items=false:=by
        cases hs:eqL Val.same v.items w.items with
        | false=>rfl
        | true=>exact absurd (QaO hs) h4
      have hn2: ¬(v.items.length:Int)=w.items.length:=by omega
      rw[hs];simp[F13,c13,h1,h2,h3,hn2]
    ·simp[F13,c13,h1,h2,h3]
   ·simp[F13,c13,h1,h2]
  ·simp[F13,c13,h1]
end Go.Proofs.YtflbneepngjglaaGreatDoor
