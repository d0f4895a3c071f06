/- Types and modules whose defaults are few; copies and comparings of values with few nodes. -/
import Derived.Test.YtflbneepngjglaaGreatDoorE48
import Derived.Test.YtflbneepngjglaaGreatDoorE47
set_option linter.all false
namespace Go.Proofs.YtflbneepngjglaaGreatDoor
open Go Go.Avm
def QmV (m:Md)(f:Ty->Val->Option Val)(S:AV)(h:Avm.H)(v:Val)(i:Nat)(x:Val)(b:Ty):Prop:=
 ∀t' y,Xp b v i x=some t'->f t' x=some y-> ∀ws g,Qb cfg ws 76 [m.enc,t'.enc,x.enc,S] (h++g)=some (y.enc,h++g)
set_option maxHeartbeats 3000000 in
theorem Qps (m:Md)(b:Ty)(q7:b.kind=7)(v:Val)(hv:v.size<=67108864)(hin:QmW b v)(F:Ty->Val->Option Val)(l:List Val)(hl:mapIO (JC b v F) 0 v.items=some l)(S:AV)(h:Avm.H)
    (hP: ∀(i:Nat) x,v.items[i]? =some x->QmV m F S h v i x b):
    Qa (evC (Qb cfg) Qa cfg.pol h.length h.length Qgx) [3,4,5,6,8,9,10] [(3,S),(4,.ptr h.length 0 2 0 0),(5,.ptr (h.length+1) 0 8 0 0),(6,.ptr (h.length+2) 0 4 0 0),(8,.ptr (h.length+3) 0 4 0 0),(9,.ptr (h.length+5) 0 4 0 0),(10,.int .i64 (0:Nat))]
     (h++ [.arr 0 2 [m.enc],.arr 0 8 [b.enc],.arr 0 4 [v.enc],.arr 0 4 [.agg [.int .i64 0,.int .i64 0,.str ⟨#[]⟩,.isl []]],.arr 0 4 (v.items.map Val.enc),.arr 0 4 [.agg [.int .i64 v.kind,.int .i64 v.int,.str v.bytes,.osl (h.length+4) 0 4 0 v.items.length]]])=
    some (.exit 1,[(3,S),(4,.ptr h.length 0 2 0 0),(5,.ptr (h.length+1) 0 8 0 0),(6,.ptr (h.length+2) 0 4 0 0),(8,.ptr (h.length+3) 0 4 0 0),(9,.ptr (h.length+5) 0 4 0 0),(10,.int .i64 v.items.length)],
     h++ [.arr 0 2 [m.enc],.arr 0 8 [b.enc],.arr 0 4 [v.enc],.arr 0 4 [.agg [.int .i64 0,.int .i64 0,.str ⟨#[]⟩,.isl []]],.arr 0 4 (l.map Val.enc),.arr 0 4 [.agg [.int .i64 v.kind,.int .i64 v.int,.str v.bytes,.osl (h.length+4) 0 4 0 v.items.length]]]):=by
 have hse:=v.size_eq;have hlen:=Val.Xr v.items;obtain⟨hll,hget⟩:=XB hl
 have hlp:=QE (f:=evC (Qb cfg) Qa cfg.pol h.length h.length Qgx) (keep:=[3,4,5,6,8,9,10]) v.items
  (fun i=>[(3,S),(4,.ptr h.length 0 2 0 0),(5,.ptr (h.length+1) 0 8 0 0),(6,.ptr (h.length+2) 0 4 0 0),(8,.ptr (h.length+3) 0 4 0 0),(9,.ptr (h.length+5) 0 4 0 0),(10,.int .i64 i)])
  (fun i=>h++ [.arr 0 2 [m.enc],.arr 0 8 [b.enc],.arr 0 4 [v.enc],.arr 0 4 [.agg [.int .i64 0,.int .i64 0,.str ⟨#[]⟩,.isl []]],.arr 0 4 ((l.take i++v.items.drop i).map Val.enc),.arr 0 4 [.agg [.int .i64 v.kind,.int .i64 v.int,.str v.bytes,.osl (h.length+4) 0 4 0 v.items.length]]])
  (fun _ _=>(.exit 1,[(3,S),(4,.ptr h.length 0 2 0 0),(5,.ptr (h.length+1) 0 8 0 0),(6,.ptr (h.length+2) 0 4 0 0),(8,.ptr (h.length+3) 0 4 0 0),(9,.ptr (h.length+5) 0 4 0 0),(10,.int .i64 v.items.length)],
   h++ [.arr 0 2 [m.enc],.arr 0 8 [b.enc],.arr 0 4 [v.enc],.arr 0 4 [.agg [.int .i64 0,.int .i64 0,.str ⟨#[]⟩,.isl []]],.arr 0 4 (l.map Val.enc),.arr 0 4 [.agg [.int .i64 v.kind,.int .i64 v.int,.str v.bytes,.osl (h.length+4) 0 4 0 v.items.length]]])) ?_ ?_
 ·exact hlp
 ·intro i x r hd hi hx K hK;have hw:=Qd (n:=i+1) (by omega)
  simp at hw;obtain⟨y,hy,hfy⟩:=hget i x (by rw[List.getElem?_eq_getElem hi,hx])
  rw[Nat.zero_add]at hfy;have hg:=Qhc Val.enc l v.items hll i hi;rw[hx]at hg;have hs:=Qha Val.enc l v.items hll i hi y hy;have hml:=Qhb l v.items hll i (Nat.le_of_lt hi);rw[←hs]at hK;have hel:((l.take i++v.items.drop i).map Val.enc).length=v.items.length:=by rw[List.length_map,hml]
  generalize ((l.take i++v.items.drop i).map Val.enc)=els at hK hg hel ⊢;obtain⟨hilx,hgi⟩:=List.getElem?_eq_some_iff.1 hg
  have hpo:Xp b v i x=some (b.kids.headD Ty.zero):=by unfold Xp; rw[if_pos q7]
  unfold JC at hfy;rw[hpo]at hfy;have hcall:=hP i x (by rw[List.getElem?_eq_getElem hi,hx]) _ _ hpo hfy
  obtain⟨k0,kr,hkids⟩: ∃k0 kr,b.kids=k0::kr:=by
   cases hk:b.kids with
   | nil=>exact absurd hk (hin.list q7)
   | cons a r=>exact⟨a,r,rfl⟩
  rw[hkids]at hcall;simp only[List.headD_cons]at hcall;simp only[Md.enc]at hcall hK;simp[q7,hkids]at hcall hK;simp[Qgx,Md.enc,hi,hx,hgi,hel,q7,hkids,hcall,hw,hK]
 ·intro K;have he:l.take v.items.length++v.items.drop v.items.length=l:=by rw[List.take_of_length_le (by omega),List.drop_eq_nil_of_le (Nat.le_refl _),List.append_nil]
  rw[he];simp[Qgx,Md.enc]
set_option maxHeartbeats 3000000 in
theorem Qly (m:Md)(b:Ty)(q8:b.kind=8)(v:Val)(hv:v.size<=67108864)(hin:QmW b v)(F:Ty->Val->Option Val)(hFk: ∀t x y,F t x=some y->y.kind=x.kind)(hFs: ∀t x y,F t x=some y->y.size<=x.size)(D:It->Option Val)(l r:List Val)(hl:mapIO (JC b v F) 0 v.items=some l)(hr:mapIO (fun i x=>Qbo D (b.items[i]?.getD It.zero) x) 0 l=some r)(S:AV)(h:Avm.H)
    (hP: ∀(i:Nat) x,v.items[i]? =some x->QmV m F S h v i x b)
    (hD: ∀x∈b.items,x.Qy≠ []-> ∀d,D x=some d-> ∀ws g,Qb cfg ws 140 [m.enc,x.enc,S] (h++g)=some (d.enc,h++g)):
    ∃g,Qa (evC (Qb cfg) Qa cfg.pol h.length h.length QbV) [3,4,5,6,8,9,11] [(3,S),(4,.ptr h.length 0 2 0 0),(5,.ptr (h.length+1) 0 8 0 0),(6,.ptr (h.length+2) 0 4 0 0),(8,.ptr (h.length+3) 0 4 0 0),(9,.ptr (h.length+5) 0 4 0 0),(11,.int .i64 (0:Nat))]
     (h++([.arr 0 2 [m.enc],.arr 0 8 [b.enc],.arr 0 4 [v.enc],.arr 0 4 [.agg [.int .i64 0,.int .i64 0,.str ⟨#[]⟩,.isl []]],.arr 0 4 (v.items.map Val.enc),.arr 0 4 [.agg [.int .i64 v.kind,.int .i64 v.int,.str v.bytes,.osl (h.length+4) 0 4 0 v.items.length]]]++ []))=
    some (.exit 3,[(3,S),(4,.ptr h.length 0 2 0 0),(5,.ptr (h.length+1) 0 8 0 0),(6,.ptr (h.length+2) 0 4 0 0),(8,.ptr (h.length+3) 0 4 0 0),(9,.ptr (h.length+5) 0 4 0 0),(11,.int .i64 v.items.length)],
     h++([.arr 0 2 [m.enc],.arr 0 8 [b.enc],.arr 0 4 [v.enc],.arr 0 4 [.agg [.int .i64 0,.int .i64 0,.str ⟨#[]⟩,.isl []]],.arr 0 4 (r.map Val.enc),.arr 0 4 [.agg [.int .i64 v.kind,.int .i64 v.int,.str v.bytes,.osl (h.length+4) 0 4 0 v.items.length]]]++g)):=by
 have hse:=v.size_eq;have hlen:=Val.Xr v.items;obtain⟨hll,hget⟩:=XB hl;obtain⟨hrl,hget2⟩:=XB hr
 have hlp:=Qg (γ:=Avm.H) (f:=evC (Qb cfg) Qa cfg.pol h.length h.length QbV) (keep:=[3,4,5,6,8,9,11]) v.items (fun _ _=>True)
  (fun i _=>[(3,S),(4,.ptr h.length 0 2 0 0),(5,.ptr (h.length+1) 0 8 0 0),(6,.ptr (h.length+2) 0 4 0 0),(8,.ptr (h.length+3) 0 4 0 0),(9,.ptr (h.length+5) 0 4 0 0),(11,.int .i64 i)])
  (fun i g=>h++([.arr 0 2 [m.enc],.arr 0 8 [b.enc],.arr 0 4 [v.enc],.arr 0 4 [.agg [.int .i64 0,.int .i64 0,.str ⟨#[]⟩,.isl []]],.arr 0 4 ((r.take i++v.items.drop i).map Val.enc),.arr 0 4 [.agg [.int .i64 v.kind,.int .i64 v.int,.str v.bytes,.osl (h.length+4) 0 4 0 v.items.length]]]++g))
  (fun _ _ o=>∃g,o=(.exit 3,[(3,S),(4,.ptr h.length 0 2 0 0),(5,.ptr (h.length+1) 0 8 0 0),(6,.ptr (h.length+2) 0 4 0 0),(8,.ptr (h.length+3) 0 4 0 0),(9,.ptr (h.length+5) 0 4 0 0),(11,.int .i64 v.items.length)],
   h++([.arr 0 2 [m.enc],.arr 0 8 [b.enc],.arr 0 4 [v.enc],.arr 0 4 [.agg [.int .i64 0,.int .i64 0,.str ⟨#[]⟩,.isl []]],.arr 0 4 (r.map Val.enc),.arr 0 4 [.agg [.int .i64 v.kind,.int .i64 v.int,.str v.bytes,.osl (h.length+4) 0 4 0 v.items.length]]]++g))) ?_ ?_ [] trivial
 ·obtain⟨o,h1,g,rfl⟩:=hlp;exact⟨g,h1⟩
 ·intro i x rr g hd hi hx _ K hK;have hw:=Qd (n:=i+1) (by omega)
  simp at hw;have hxs:x.size<=67108864:=by have:=Val.Qu (v:=v) (x:=x) (by rw[←hx]; exact List.getElem_mem hi); omega
  obtain⟨z,hz,hfz⟩:=hget i x (by rw[List.getElem?_eq_getElem hi,hx])
  obtain⟨y,hy,hfy⟩:=hget2 i z hz;rw[Nat.zero_add]at hfy hfz;have hib:i<b.items.length:=by rw[←hin.record q8]; exact hi
  obtain⟨t,ht⟩: ∃t,b.items[i]=t:=⟨_,rfl⟩;have htm:t∈b.items:=by rw[←ht]; exact List.getElem_mem hib
  rw[List.getElem?_eq_getElem hib,ht]at hfy
  simp only[Option.getD_some]at hfy;have hg:=Qhc Val.enc r v.items (by omega) i hi
  rw[hx]at hg;have hs:=Qha Val.enc r v.items (by omega) i hi y hy
  have hml:=Qhb r v.items (by omega) i (Nat.le_of_lt hi)
  obtain⟨o,h4,h5⟩:=hK (g++ [.arr 0 12 [t.enc]]) trivial;refine⟨o,?_,h5⟩
  rw[←hs]at h4;have hel:((r.take i++v.items.drop i).map Val.enc).length=v.items.length:=by rw[List.length_map,hml]
  generalize ((r.take i++v.items.drop i).map Val.enc)=els at hg h4 hel ⊢;obtain⟨hilx,hgi⟩:=List.getElem?_eq_some_iff.1 hg
  by_cases q12:x.kind=12
  ·have hpo:Xp b v i x=none:=by unfold Xp; simp[q8,q12]
   unfold JC at hfz;rw[hpo]at hfz;injection hfz with hfz;subst hfz;unfold Qbo at hfy;rw[if_neg (by simp[q12])]at hfy
   injection hfy with hfy;subst hfy;have hset:els.set i x.enc=els:=QdV hg;rw[hset]at h4;simp only[Md.enc]at h4;simp[q8]at h4;simp[QbV,Md.enc,hi,hib,ht,hx,hgi,hel,q8,q12,hw,h4]
  ·have hpo:Xp b v i x=some t.of:=by unfold Xp; simp[q8,q12,List.getElem?_eq_getElem hib,ht]
   unfold JC at hfz;rw[hpo]at hfz;have hcall:=hP i x (by rw[List.getElem?_eq_getElem hi,hx]) _ _ hpo hfz
   have hzk:=hFk _ _ _ hfz;have hzs:=hFs _ _ _ hfz;simp only[Md.enc]at hcall h4;simp[q8]at hcall h4;unfold Qbo at hfy;cases hq:t.Qy with
   | nil=>
    rw[if_neg (by simp[hq])]at hfy
    injection hfy with hfy;subst hfy;simp[hq]at h4;simp[QbV,Md.enc,hi,hib,ht,hx,hgi,hel,q8,q12,hq,hcall,hw,h4]
   | cons d1 dr=>
    rw[if_pos ⟨by simp[hq],by rw[hzk]; exact q12⟩]at hfy
    split at hfy
    ·rename_i d hdd;injection hfy with hfy;have e1:=fun ws g=>hD t htm (by simp[hq]) d hdd ws g
     have e2:=fun ws h=>Qcm _ z d (Nat.le_refl _) (by omega) ws h
     have hgt:(0:Int)<dr.length+1:=by omega
     simp only[Md.enc]at e1;by_cases hsm:z.same d=true
     ·rw[if_pos hsm]at hfy;subst hfy;rw[hsm]at e2;simp[Wv,hq]at h4;simp[q8,hq]at e1 e2;simp[QbV,Md.enc,hi,hib,ht,hx,hgi,hel,q8,q12,hq,hgt,hcall,e1,e2,hw,h4,List.set_set]
     ·rw[if_neg hsm]at hfy;subst hfy;have hsm:z.same d=false:=by simpa using hsm
      rw[hsm]at e2;simp[hq]at h4;simp[q8,hq]at e1 e2;simp[QbV,Md.enc,hi,hib,ht,hx,hgi,hel,q8,q12,hq,hgt,hcall,e1,e2,hw,h4]
    ·cases hfy
 ·intro g K _;refine⟨_,?_,g,rfl⟩
  have he:r.take v.items.length++v.items.drop v.items.length=r:=by rw[List.take_of_length_le (by omega),List.drop_eq_nil_of_le (Nat.le_refl _),List.append_nil]
  rw[he];simp[QbV,Md.enc]
theorem Qin {f:Nat->Val->Option Val}: ∀{l r:List Val} {i:Nat},(∀(j:Nat) x,l[j]? =some x->f (i+j) x=some x)->mapIO f i l=some r->r=l
 | [],r,i,_,h=>by simp[mapIO]at h; exact h
 | a::l,r,i,hf,h=>by
  have h0:=hf 0 a rfl;rw[Nat.add_zero]at h0;unfold mapIO at h;rw[h0]at h;split at h
  ·rename_i y l' h1 h2;injection h1 with h1; injection h with h;subst h1
   have:=Qin (l:=l) (r:=l') (i:=i+1) (fun j x hj=>by
    have:=hf (j+1) x (by simpa using hj)
    rw[show i+1+j=i+(j+1)by omega]; exact this) h2
   rw[←h,this]
  ·cases h
theorem QsR {f:Nat->Val->Option Val}{r:List Val}{i:Nat}(h:mapIO f i []=some r):r=[]:=by simp[mapIO]at h; exact h
set_option maxHeartbeats 4000000 in
theorem QhG {m:Md}{S:List (Ty×Val)}(M:m.ZJ S)(hS:S.length<=67108863)(hSs: ∀q∈S,q.2.size<=67108864): ∀(n:Nat) (u:List (Ty×Val)) (t:Ty) (v r:Val),Xc m n u t v=some r->t.ZJ m S->(∃k,Xu m k t v=true)->v.size<=67108864->(∀q∈u,QwH q)->u.length+rest S u<=S.length->
    ∀W h,Qga h W u-> ∀ws,Qb cfg ws 76 [m.enc,t.enc,v.enc,W] h=some (r.enc,h)
 | 0,_,_,_,_,h,_,_,_,_,_,_,_,_,_=>by cases h
 | n+1,u,t,v,r,hp,T,⟨k,hk⟩,hv,hu,hlen,W,h,A,ws=>by
  cases k with
  | zero=>cases hk
  | succ k=>
  cases hb:beh m 21 t with
  | none=>unfold Xu at hk; rw[hb]at hk; cases hk
  | some b=>
  obtain⟨B,hb10⟩:=T.beh M hb;obtain⟨hkind,hin,hsub⟩:=QaZ m hk hb (QZ B.right);unfold Xc at hp;rw[hb]at hp;simp only[Option.getD_some]at hp;have hse:=v.size_eq;have hvl:=Val.Xr v.items;have hroot:=fun ws h=>Yn m M.ok M.lim M.fm t T.wid T.nodes ws h
  have hcopy:=fun ws h=>QiG _ v (Nat.le_refl _) hv ws h
  rw[hb]at hroot;split at hp
  ·cases hp
  ·rename_i l hl;obtain⟨hll,hlget⟩:=XB hl
   have hitem: ∀(i:Nat) x,v.items[i]? =some x->x.size<=67108864:=fun i x hx=>by
    have:=Val.Qu (List.mem_of_getElem? hx); omega
   have hP: ∀(i:Nat) x,v.items[i]? =some x->QmV m (Xc m n u) W h v i x b:=fun i x hx t' y hpo hy ws g=>
    QhG M hS hSs n u t' x y hy (Wf B hpo) ⟨k,hsub i x t' hx hpo⟩ (hitem i x hx) hu hlen W (h++g) (A.more g) ws
   have hWp:norm W=W:=by
    rcases A with⟨_,rfl⟩ | ⟨c,ver,_,rfl,_⟩<;>rfl
   unfold norm at hWp
   have hWo:W.one=true:=by
    rcases A with⟨_,rfl⟩ | ⟨c,ver,_,rfl,_⟩<;>rfl
   have hD:b.kind=8-> ∀x∈b.items,x.Qy≠ []-> ∀d,QeP (Xc m n) u x=some d-> ∀ws g,Qb cfg ws 140 [m.enc,x.enc,W] (h++g)=some (d.enc,h++g):=fun q8 x hx hd d hset ws g=>by
    obtain⟨dd,h1,h2,h3,h4⟩:=Qao.1 (QZ B.good) q8 x hx hd;have hxin:x.of∈b.inner:=by unfold Ty.inner Ty.comp; rw[q8]; exact List.mem_append_right _ (List.mem_map_of_mem hx)
    have hxo:Qjt x:=⟨(B.inner hxin).wid,dd,[],h1,hSs _ h2⟩;have hd0:=Qar h1;refine QxB m x hxo u hu (by omega) (Xc m n) d hset (fun hmet d' hd' W' H' A' ws'=>?_) W (h++g) (A.more g) ws
    have hkx:JE x=(x.of,dd):=by unfold JE; rw[hd0]
    refine QhG M hS hSs n (u++ [JE x]) x.of x.d0 d' hd' (B.inner hxin) ⟨dd.size,by rw[hd0]; exact h3⟩ (by rw[hd0]; exact hSs _ h2) (fun q hq=>?_) ?_ W' H' A' ws'
    ·rcases List.mem_append.1 hq with hq | hq
     ·exact hu q hq
     ·simp at hq; subst hq;rw[hkx];exact⟨(B.inner hxin).wid,hSs _ h2⟩
    ·rw[hd0]at hmet;have:=QlN (u:=u) h2 hmet;rw[hkx];simp only[List.length_append,List.length_singleton];omega
   refine Qc rfl rfl ?_
   by_cases h0:v.items=[]
   ·
    have hl0:l=[]:=by rw[h0]at hl; exact QsR hl
    have hr0:r=v:=by
     subst hl0;split at hp
     ·rename_i q8;simp[mapIO]at hp;rw[←hp,←h0]; exact v.eta
     ·injection hp with hp;rw[←hp,←h0]; exact v.eta
    subst hr0;simp only[cpV,cpH,if_pos h0]at hcopy
    have q9: ¬b.kind=9:=fun q=>by
     unfold Xu at hk; rw[hb]at hk;simp only[Bool.and_eq_true,decide_eq_true_eq]at hk;have:=hk.2;unfold Yt at this;simp[q,h0]at this
    simp[h0]at hcopy hroot;simp only[Md.enc]at hroot
    have eL:Qa (evC (Qb cfg) Qa cfg.pol h.length h.length Qgx) [3,4,5,6,8,9,10] [(3,W),(4,.ptr h.length 0 2 0 0),(5,.ptr (h.length+1) 0 8 0 0),(6,.ptr (h.length+2) 0 4 0 0),(8,.ptr (h.length+3) 0 4 0 0),(9,.ptr (h.length+4) 0 4 0 0),(10,.int .i64 (0:Nat))]
         (h++ [.arr 0 2 [m.enc],.arr 0 8 [b.enc],.arr 0 4 [r.enc],.arr 0 4 [.agg [.int .i64 0,.int .i64 0,.str ⟨#[]⟩,.isl []]],.arr 0 4 [r.enc]])=
     some (.exit 1,[(3,W),(4,.ptr h.length 0 2 0 0),(5,.ptr (h.length+1) 0 8 0 0),(6,.ptr (h.length+2) 0 4 0 0),(8,.ptr (h.length+3) 0 4 0 0),(9,.ptr (h.length+4) 0 4 0 0),(10,.int .i64 (0:Nat))],
      h++ [.arr 0 2 [m.enc],.arr 0 8 [b.enc],.arr 0 4 [r.enc],.arr 0 4 [.agg [.int .i64 0,.int .i64 0,.str ⟨#[]⟩,.isl []]],.arr 0 4 [r.enc]]):=by
     have hlp:=QE (f:=evC (Qb cfg) Qa cfg.pol h.length h.length Qgx) (keep:=[3,4,5,6,8,9,10]) ([]:List Val)
      (fun i=>[(3,W),(4,.ptr h.length 0 2 0 0),(5,.ptr (h.length+1) 0 8 0 0),(6,.ptr (h.length+2) 0 4 0 0),(8,.ptr (h.length+3) 0 4 0 0),(9,.ptr (h.length+4) 0 4 0 0),(10,.int .i64 i)])
      (fun _=>h++ [.arr 0 2 [m.enc],.arr 0 8 [b.enc],.arr 0 4 [r.enc],.arr 0 4 [.agg [.int .i64 0,.int .i64 0,.str ⟨#[]⟩,.isl []]],.arr 0 4 [r.enc]])
      (fun _ _=>(.exit 1,[(3,W),(4,.ptr h.length 0 2 0 0),(5,.ptr (h.length+1) 0 8 0 0),(6,.ptr (h.length+2) 0 4 0 0),(8,.ptr (h.length+3) 0 4 0 0),(9,.ptr (h.length+4) 0 4 0 0),(10,.int .i64 (0:Nat))],
       h++ [.arr 0 2 [m.enc],.arr 0 8 [b.enc],.arr 0 4 [r.enc],.arr 0 4 [.agg [.int .i64 0,.int .i64 0,.str ⟨#[]⟩,.isl []]],.arr 0 4 [r.enc]])) ?_ ?_
     ·exact hlp
     ·intro i x rr _ hi; simp at hi
     ·intro K;simp[Qgx,Md.enc,h0]
    have eR:Qa (evC (Qb cfg) Qa cfg.pol h.length h.length QbV) [3,4,5,6,8,9,11] [(3,W),(4,.ptr h.length 0 2 0 0),(5,.ptr (h.length+1) 0 8 0 0),(6,.ptr (h.length+2) 0 4 0 0),(8,.ptr (h.length+3) 0 4 0 0),(9,.ptr (h.length+4) 0 4 0 0),(11,.int .i64 (0:Nat))]
         (h++ [.arr 0 2 [m.enc],.arr 0 8 [b.enc],.arr 0 4 [r.enc],.arr 0 4 [.agg [.int .i64 0,.int .i64 0,.str ⟨#[]⟩,.isl []]],.arr 0 4 [r.enc]])=
     some (.exit 3,[(3,W),(4,.ptr h.length 0 2 0 0),(5,.ptr (h.length+1) 0 8 0 0),(6,.ptr (h.length+2) 0 4 0 0),(8,.ptr (h.length+3) 0 4 0 0),(9,.ptr (h.length+4) 0 4 0 0),(11,.int .i64 (0:Nat))],
      h++ [.arr 0 2 [m.enc],.arr 0 8 [b.enc],.arr 0 4 [r.enc],.arr 0 4 [.agg [.int .i64 0,.int .i64 0,.str ⟨#[]⟩,.isl []]],.arr 0 4 [r.enc]]):=by
     have hlp:=QE (f:=evC (Qb cfg) Qa cfg.pol h.length h.length QbV) (keep:=[3,4,5,6,8,9,11]) ([]:List Val)
      (fun i=>[(3,W),(4,.ptr h.length 0 2 0 0),(5,.ptr (h.length+1) 0 8 0 0),(6,.ptr (h.length+2) 0 4 0 0),(8,.ptr (h.length+3) 0 4 0 0),(9,.ptr (h.length+4) 0 4 0 0),(11,.int .i64 i)])
      (fun _=>h++ [.arr 0 2 [m.enc],.arr 0 8 [b.enc],.arr 0 4 [r.enc],.arr 0 4 [.agg [.int .i64 0,.int .i64 0,.str ⟨#[]⟩,.isl []]],.arr 0 4 [r.enc]])
      (fun _ _=>(.exit 3,[(3,W),(4,.ptr h.length 0 2 0 0),(5,.ptr (h.length+1) 0 8 0 0),(6,.ptr (h.length+2) 0 4 0 0),(8,.ptr (h.length+3) 0 4 0 0),(9,.ptr (h.length+4) 0 4 0 0),(11,.int .i64 (0:Nat))],
       h++ [.arr 0 2 [m.enc],.arr 0 8 [b.enc],.arr 0 4 [r.enc],.arr 0 4 [.agg [.int .i64 0,.int .i64 0,.str ⟨#[]⟩,.isl []]],.arr 0 4 [r.enc]])) ?_ ?_
     ·exact hlp
     ·intro i x rr _ hi; simp at hi
     ·intro K;simp[QbV,Md.enc,h0]
    simp only[Md.enc]at eL eR;by_cases q7:b.kind=7
    ·simp[h0,q7]at eL hroot;simp[F76,c76,Md.enc,hWp,hWo,h0,hroot,hcopy,q7,eL]
    ·by_cases q8:b.kind=8
     ·simp[h0,q8]at eR hroot;simp[F76,c76,Md.enc,hWp,hWo,h0,hroot,hcopy,q8,eR]
     ·simp[F76,c76,Md.enc,hWp,hWo,h0,hroot,hcopy,q7,q8,q9]
   ·simp only[cpV,cpH,if_neg h0]at hcopy;simp at hcopy hroot;simp only[Md.enc]at hroot;by_cases q7:b.kind=7
    ·rw[if_neg (by omega)]at hp
     injection hp with hp;have eL:=Qps m b q7 v hv hin (Xc m n u) l hl W h hP;have htk:(l.map Val.enc).take v.items.length=l.map Val.enc:=List.take_of_length_le (by simp; omega)
     subst hp;simp only[Md.enc]at eL;simp[q7]at eL hroot;simp[F76,c76,Md.enc,hWp,hWo,hroot,hcopy,q7,eL,hll,htk]
    ·by_cases q8:b.kind=8
     ·rw[if_pos q8]at hp;split at hp
      ·rename_i r' hr';injection hp with hp;subst hp;obtain⟨hrl,_⟩:=XB hr';obtain⟨g,eR⟩:=Qly m b q8 v hv hin (Xc m n u) (fun t x y hy=>Qny hy) (fun t x y hy=>Yp hy) (QeP (Xc m n) u) l r' hl hr' W h hP (hD q8)
       have htk:(r'.map Val.enc).take v.items.length=r'.map Val.enc:=List.take_of_length_le (by simp; omega)
       have hrn:r'.length=v.items.length:=by omega
       simp only[Md.enc]at eR;simp[q8]at eR hroot;simp[F76,c76,Md.enc,hWp,hWo,hroot,hcopy,q8,eR,hrn,htk]
      ·cases hp
     ·rw[if_neg q8]at hp;injection hp with hp;subst hp;have htk:(l.map Val.enc).take v.items.length=l.map Val.enc:=List.take_of_length_le (by simp; omega)
      by_cases q9:b.kind=9
      ·obtain⟨hc1,hc2⟩:=hin.choice q9
       obtain⟨x,xr,hx⟩: ∃x xr,v.items=x::xr:=by
        cases hx:v.items with
        | nil=>exact absurd hx h0
        | cons a q=>exact⟨a,q,rfl⟩
       have hxr:xr=[]:=by
        unfold Xu at hk; rw[hb]at hk;simp only[Bool.and_eq_true,decide_eq_true_eq]at hk;have:=hk.2;unfold Yt at this;simp[q9,hx]at this;exact this.2.2.1
       subst hxr;obtain⟨y,hy,hfy⟩:=hlget 0 x (by rw[hx]; rfl)
       have hly:l=[y]:=by
        cases hl':l with
        | nil=>rw[hl']at hy; cases hy
        | cons a q=>
         rw[hl',hx]at hll;simp at hll;rw[hl']at hy; simp at hy;rw[hy,hll]
       have hpo:Xp b v 0 x=some b.items[v.int.toNat].of:=by unfold Xp; simp[q9,List.getElem?_eq_getElem hc2]
       unfold JC at hfy;rw[Nat.zero_add,hpo]at hfy;have hcall:=hP 0 x (by rw[hx]; rfl) _ _ hpo hfy
       simp only[Md.enc]at hcall;simp[q9,hx]at hcall hroot hcopy;simp[F76,c76,Md.enc,hWp,hWo,hroot,hcopy,q9,hx,hly,hc1,hc2,hcall]
      ·have hl':l=v.items:=Qin (fun j x hj=>by unfold JC Xp; simp[q7,q8,q9]) hl
       subst hl';simp[F76,c76,Md.enc,hWp,hWo,hroot,hcopy,q7,q8,q9]
theorem QrZ {m:Md}{S:List (Ty×Val)}(M:m.ZJ S)(hS:S.length<=67108863)(hSs: ∀q∈S,q.2.size<=67108864)(n:Nat)(t:Ty)(v r:Val)(hp:Xc m n [] t v=some r)(T:t.ZJ m S)(hk: ∃k,Xu m k t v=true)(hv:v.size<=67108864)(ws:Nat)(h:Avm.H):
    Qb cfg ws 42 [m.enc,t.enc,v.enc] h=some (r.enc,h):=by
 have hr:rest S []<=S.length:=List.length_filter_le _ _;have e1:=fun ws h=>QhG M hS hSs n [] t v r hp T hk hv (by simp) (by simpa using hr) (.isl []) h (.inl ⟨rfl,rfl⟩) ws
 refine Qc rfl rfl ?_
 simp at e1;simp only[Md.enc]at e1;simp[F42,c42,Md.enc,e1]
end Go.Proofs.YtflbneepngjglaaGreatDoor
namespace Go.Proofs.YtflbneepngjglaaGreatDoor
open Go Go.Avm
theorem Qwi {m:Md}{ps:List ByteArray}{t:Ty}(hr:Qk t=true)(hs:Xf m ps t=true): ∀x∈t.items,x.Qy.length<=1:=fun x hx=>by
 by_cases hc:t.comp=true
 ·unfold Ty.comp at hc;simp only[Bool.or_eq_true,decide_eq_true_eq]at hc;by_cases q8:t.kind=8
  ·unfold Xf at hs;rw[q8]at hs;simp only[decide_true,Bool.not_true,Bool.false_or]at hs;have:=List.all_eq_true.1 hs x hx;unfold JO at this;split at this
   ·rename_i e; rw[e]; simp
   ·rename_i d e; rw[e]; simp
   ·cases this
  ·have q9:t.kind=9:=by omega
   unfold Qk at hr;simp[q9]at hr;have:=hr.2.2 x hx;unfold XN at this;simp at this;rw[this.2]; simp
 ·rcases Yo hr hc with h | h
  ·rw[h]at hx; cases hx
  ·have:=List.all_eq_true.1 h x hx;unfold JW at this;simp at this;rw[this.2.2]; simp
theorem QqW {α β:Type}(f:α->List β)(g:α->Nat): ∀(l:List α),(∀x∈l,(f x).length+1<=g x)->(l.flatMap f).length+l.length<=(l.map g).sum
 | [],_=>by simp
 | x::l,h=>by
  have h1:=h x (by simp)
  have h2:=QqW f g l fun y hy=>h y (by simp[hy])
  simp only[List.flatMap_cons,List.length_append,List.length_cons,List.map_cons,List.sum_cons];omega
theorem Qrz {α β:Type}(f:α->List β): ∀(l:List α),(∀x∈l,(f x).length<=1)->(l.flatMap f).length<=l.length
 | [],_=>by simp
 | x::l,h=>by
  have h1:=h x (by simp)
  have h2:=Qrz f l fun y hy=>h y (by simp[hy])
  simp only[List.flatMap_cons,List.length_append,List.length_cons];omega
theorem QlP (m:Md)(ps:List ByteArray): ∀(n:Nat) (t:Ty),t.size<=n->t.QH Qk=true->t.QH (Xf m ps)=true->t.prs.length+1<=t.nodes
 | 0,t,h,_,_=>by have:=t.size_pos; omega
 | n+1,t,h,hr,hs=>by
  have h1:=QqW Ty.prs Ty.nodes t.inner fun y hy=>QlP m ps n y (by have:=Ty.QR hy; omega) (QC hr hy) (QC hs hy)
  have hone:=Qwi (QZ hr) (QZ hs)
  have h2:(t.items.flatMap fun x=>x.Qy.map fun d=>(x.of,d)).length<=t.inner.length:=by
   by_cases hc:t.comp=true
   ·have:=Qrz (fun x:It=>x.Qy.map fun d=>(x.of,d)) t.items fun x hx=>by simpa using hone x hx
    unfold Ty.inner;rw[if_pos hc,List.length_append,List.length_map];omega
   ·rcases Yo (QZ hr) hc with h | h
    ·rw[h]; simp
    ·have:(t.items.flatMap fun x=>x.Qy.map fun d=>(x.of,d))=[]:=by
       rw[List.flatMap_eq_nil_iff];intro x hx;have:=List.all_eq_true.1 h x hx;unfold JW at this;simp at this;rw[this.2.2]; rfl
     rw[this]; simp
  rw[Ty.QpU,List.length_append,Ty.QD];omega
theorem Qie : ∀(n:Nat) (t:Ty),t.size<=n-> ∀q∈t.prs,q.2.size<=t.wid
 | 0,t,h=>by have:=t.size_pos; omega
 | n+1,t,h=>fun q hq=>by
  rw[Ty.QpU]at hq;rcases List.mem_append.1 hq with hq | hq
  ·obtain⟨x,hx,hq⟩:=List.mem_flatMap.1 hq;obtain⟨d,hd,rfl⟩:=List.mem_map.1 hq;have:=It.Qlt hd;have:=Ty.Jh hx;dsimp only;omega
  ·obtain⟨y,hy,hq⟩:=List.mem_flatMap.1 hq;have:=Qie n y (by have:=Ty.QR hy; omega) q hq
   have:=Ty.ZY hy;omega
def QmT (m:Md)(t:Ty):List (Ty×Val):=(m.defs.flatMap fun d=>d.of.prs)++t.prs
theorem Qtv {m:Md}(h:Qbs m=0):m.defs.length<=40/\m.defs.all (Qad m)=true:=by
 unfold Qbs at h;split at h
 ·cases h
 rename_i hl;split at h
 ·cases h
 split at h
 ·cases h
 split at h
 ·cases h
 split at h
 ·cases h
 split at h
 ·cases h
 refine⟨by omega,?_⟩
 cases q:m.defs.all (Qad m)
 ·rw[q]at h; cases h
 ·rfl
theorem Qtu {m:Md}{t:Ty}(h:QjG m t=0):t.QH (Xf m [])=true:=by
 unfold QjG at h;split at h
 ·cases h
 split at h
 ·cases h
 split at h
 ·cases h
 split at h
 ·cases h
 cases q:t.QH (Xf m [])
 ·rw[q]at h; simp[QB]at h
 ·rfl
theorem Qod {α β:Type}(f:α->List β)(k:Nat): ∀(l:List α),(∀x∈l,(f x).length<=k)->(l.flatMap f).length<=l.length*k
 | [],_=>by simp
 | x::l,h=>by
  have h1:=h x (by simp)
  have h2:=Qod f k l fun y hy=>h y (by simp[hy])
  simp only[List.flatMap_cons,List.length_append,List.length_cons,Nat.succ_mul];omega
theorem Qmi {m:Md}(hm:m.ok){t:Ty}(hs:t.size<=67108864)(h:WO m t=0):m.ZJ (QmT m t)/\t.ZJ m (QmT m t)/\(QmT m t).length<=67108863/\ ∀q∈QmT m t,q.2.size<=67108864:=by
 obtain⟨h1,h2⟩:=Qcz h;obtain⟨h3,h4⟩:=Jc h1;obtain⟨h5,h6⟩:=Qtv h1;obtain⟨h7,h8⟩:=YV h2;have h9:=Qtu h2;have hw:t.wid<=67108864:=Nat.le_trans t.XE hs;have hset: ∀d∈m.defs,d.of.QH (Xf m d.params)=true:=fun d hd=>List.all_eq_true.1 h6 d hd
 have hlim:=Qdo h3;have hfm:=Qeq h4
 refine⟨⟨hm,hlim,hfm,hset,fun d hd q hq=>List.mem_append_left _ (List.mem_flatMap.2 ⟨d,hd,hq⟩)⟩,
  ⟨hw,JA h7,h8,Qrx h8 h9 fun q hq=>List.mem_append_right _ hq⟩,?_,fun q hq=>?_⟩
 ·unfold QmT;rw[List.length_append]
  have e1:=Qod (fun d:Df=>d.of.prs) 600 m.defs fun d hd=>by
   have:=QlP m d.params _ d.of (Nat.le_refl _) (hfm d hd) (hset d hd);have:=hlim d hd;omega
  have e2:=QlP m [] _ t (Nat.le_refl _) h8 h9;have e3:=JA h7;have e4:m.defs.length*600<=40*600:=Nat.mul_le_mul_right _ h5;omega
 ·rcases List.mem_append.1 hq with hq | hq
  ·obtain⟨d,hd,hq⟩:=List.mem_flatMap.1 hq;have:=Qie _ d.of (Nat.le_refl _) q hq;have:=d.of.XE;have:=hm.of d hd;omega
  ·have:=Qie _ t (Nat.le_refl _) q hq;omega
theorem Ys {v:Val}:v.items.length<v.nodes:=by
 rw[v.QD]
 have: ∀l:List Val,l.length<=(l.map Val.nodes).sum:=by
  intro l
  induction l with
  | nil=>simp
  | cons x l ih=>simp only[List.length_cons,List.map_cons,List.sum_cons]; have:=x.XT; omega
 have:=this v.items;omega
theorem Qaj {v x:Val}(h:x∈v.items):x.nodes<v.nodes:=by
 rw[v.QD]
 have: ∀l:List Val,x∈l->x.nodes<=(l.map Val.nodes).sum:=by
  intro l
  induction l with
  | nil=>intro h; cases h
  | cons y l ih=>
   intro h;simp only[List.map_cons,List.sum_cons];rcases List.mem_cons.1 h with rfl | h
   ·omega
   ·have:=ih h; omega
 have:=this v.items h;omega
theorem QiH : ∀(n:Nat) (v:Val),v.nodes<=n->v.nodes<=67108864-> ∀ws h,Qb cfg ws 39 [v.enc] h=some (v.enc,h)
 | 0,v,hv,_,_,_=>by have:=v.XT; omega
 | n+1,v,hv,hb,ws,h=>by
  have hlen:=Ys (v:=v);have hcl:=QkT v.items (by omega)
  have hlp:=QE (f:=evC (Qb cfg) Qa cfg.pol h.length h.length QrG) (keep:=[1,2,10,11]) v.items (fun i=>[(1,.ptr h.length 0 4 0 0),(2,.ptr (h.length+1) 0 4 0 0),(10,.int .i64 v.items.length),(11,.int .i64 i)]) (fun _=>h++ [.arr 0 4 [.agg [.int .i64 v.kind,.int .i64 v.int,.str v.bytes,.osl (h.length+2) 0 4 0 v.items.length]],.arr 0 4 [.agg [.int .i64 0,.int .i64 0,.str ⟨#[]⟩,.isl []]],.arr 0 4 (v.items.map Val.enc)])
   (fun _ _=>(.exit 0,[(1,.ptr h.length 0 4 0 0),(2,.ptr (h.length+1) 0 4 0 0),(10,.int .i64 v.items.length),(11,.int .i64 v.items.length)],h++ [.arr 0 4 [.agg [.int .i64 v.kind,.int .i64 v.int,.str v.bytes,.osl (h.length+2) 0 4 0 v.items.length]],.arr 0 4 [.agg [.int .i64 0,.int .i64 0,.str ⟨#[]⟩,.isl []]],.arr 0 4 (v.items.map Val.enc)])) ?_ ?_
  ·refine Qc rfl rfl ?_
   simp at hlp hcl;simp[F39,c39,hcl,hlp]
  ·intro i x r hd hi hx K hK;have hw:=Qd (n:=i+1) (by omega)
   simp at hw;have hm1:x∈v.items:=by rw[←hx]; exact List.getElem_mem hi
   have hsz:=Qaj hm1;have hc:=fun ws h'=>QiH n x (by omega) (by omega) ws h'
   have hset:(v.items.map Val.enc).set i x.enc=v.items.map Val.enc:=QdV (by rw[List.getElem?_map,List.getElem?_eq_getElem hi,hx]; rfl)
   simp at hc hset hK;simp[QrG,hi,hx,hc,hset,hw,hK]
  ·intro K;simp[QrG]
theorem QuB : ∀(n:Nat) (v w:Val),v.nodes<=n->v.nodes<=67108864-> ∀ws h,Qb cfg ws 17 [v.enc,w.enc] h=some (.bool (v.same w),h)
 | 0,v,_,hv,_,_,_=>by have:=v.XT; omega
 | n+1,v,w,hv,hb,ws,h=>by
  have hlen:=Ys (v:=v)
  have heq:=fun h'=>Qdq v.items w.items (by omega) (fun x hx y ws h=>by
   have:=Qaj hx;exact QuB n x y (by omega) (by omega) ws h) h.length h'
  refine Qc rfl rfl ?_
  rw[Val.Xt];simp[F17,c17,heq,Bool.and_assoc]
theorem QeT : ∀(n:Nat) (v w:Val),v.nodes<=n->v.nodes<=67108864-> ∀ws h,Qb cfg ws 13 [v.enc,w.enc] h=some (.bool (v.same w),h)
 | 0,v,_,hv,_,_,_=>by have:=v.XT; omega
 | n+1,v,w,hv,hb,ws,h=>by
  have hlen:=Ys (v:=v);refine Qc rfl rfl ?_
  rw[Val.Xt];by_cases h1:v.kind=w.kind
  ·by_cases h2:v.int=w.int
   ·by_cases h3:v.bytes.toList=w.bytes.toList
    ·by_cases h4:v.items.length=w.items.length
     ·have hl:=QE (f:=evC (Qb cfg) Qa cfg.pol h.length h.length Qez) (keep:=[2,3,5]) v.items (fun i=>[(2,.ptr h.length 0 4 0 0),(3,.ptr (h.length+1) 0 4 0 0),(5,.int .i64 i)]) (fun _=>h++ [.arr 0 4 [v.enc],.arr 0 4 [w.enc]])
        (fun j r=>if eqL Val.same r (w.items.drop j)=true then(.exit 0,[(2,.ptr h.length 0 4 0 0),(3,.ptr (h.length+1) 0 4 0 0),(5,.int .i64 v.items.length)],h++ [.arr 0 4 [v.enc],.arr 0 4 [w.enc]])else(.ret,[(4,.bool false)],h++ [.arr 0 4 [v.enc],.arr 0 4 [w.enc]])) ?_ ?_
      ·simp only[List.drop_zero]at hl;cases hs:eqL Val.same v.items w.items<;>simp[hs]at hl<;>simp[F13,c13,h1,h2,h3,h4]<;>simp[h1,h2,h3,h4]at hl<;>simp[hl]
      ·intro j x r hd hi hx K hK;have hw:=Qd (n:=j+1) (by omega)
       simp at hw;have him:j<w.items.length:=by omega
       have hdm:w.items.drop j=w.items[j]::w.items.drop (j+1):=List.drop_eq_getElem_cons him;rw[hdm];have hm1:x∈v.items:=by rw[←hx]; exact List.getElem_mem hi
       have hsz:=Qaj hm1;obtain⟨y,hy⟩: ∃y,w.items[j]=y:=⟨_,rfl⟩;have hcl:=fun h'=>QeT n x y (by omega) (by omega) h.length h'
       rw[hy];simp only[Val.ZS]at hcl;rw[eqL];cases hs:x.same y
       ·rw[hs]at hcl;simp[Qez,hi,hx,him,hy,hcl]
       ·rw[hs]at hcl;simp at hK;simp[Qez,hi,hx,him,hy,hcl,hw,hK]
      ·intro K;have:w.items.drop v.items.length=[]:=by rw[h4]; simp
       rw[this];simp[Qez,eqL]
     ·have hs:eqL Val.same v.items w.items=false:=by
        cases hs:eqL Val.same v.items w.items with
        | false=>rfl
        | true=>exact absurd (Qbb hs) h4
      have hn2: ¬(v.items.length:Int)=w.items.length:=by omega
      rw[hs];simp[F13,c13,h1,h2,h3,hn2]
    ·simp[F13,c13,h1,h2,h3]
   ·simp[F13,c13,h1,h2]
  ·simp[F13,c13,h1]
end Go.Proofs.YtflbneepngjglaaGreatDoor
