/- Encode: both sides. -/
import Derived.Test.YtflbneepngjglaaGreatDoorO50
set_option linter.all false
namespace Go.Proofs.YtflbneepngjglaaGreatDoor
open Go Go.Avm
theorem Qje (m:Md)(b:Ty)(v:Val)(hk:b.kind=7)(k0:Ty)(kr:List Ty)(hkk:b.kids=k0::kr)(hl:v.items.length<=600)(sub:Ty->Val->ByteArray)(F:Nat)(hF:F<=3000000)(hf: ∀x∈v.items,(sub k0 x).size<=F)
    (hel: ∀x∈v.items,∀ws h,Qb cfg ws 55 [m.enc,k0.enc,x.enc] h=some (.str (sub k0 x),h)) (ws:Nat) (h:Avm.H):Qb cfg ws 101 [m.enc,b.enc,v.enc] h=some (.str (ZG b v sub),h):=by
 have hB:=QgO m b v h;obtain⟨H',q',hB3,e3⟩:=Qxn m b k0 kr hkk h.length (h.length+3) h.length (h.length+1) (by omega) (by omega) (by omega) v.items hl (sub k0) F hF hf hel _ (by simp) (by simp) _ _ rfl hB
 have he:(⟨#[]⟩:ByteArray)++XY (v.items.map (sub k0))=XY (v.items.map (sub k0)):=by show ByteArray.empty++_=_; simp
 rw[he]at hB3
 have hsz3:(XY (v.items.map (sub k0))).size<=4294967296:=by
  have:=Qct (l:=v.items.map (sub k0)) (f:=F) (fun z hz=>by
   obtain⟨w,hw,rfl⟩:=List.mem_map.1 hz;exact hf w hw)
  rw[List.length_map]at this;have:v.items.length*F<=600*3000000:=Nat.mul_le_mul hl hF;omega
 obtain⟨H2,e4⟩:=QaV hB3 hsz3 h.length (by omega)
 have hen:ZG b v sub=XY (v.items.map (sub k0)):=by
  unfold ZG;rw[if_neg (by omega),if_neg (by omega),if_neg (by omega),if_neg (by omega),if_neg (by omega),if_pos hk,hkk]
  rfl
 rw[hen];clear hen hB hB3 hsz3 he hf hel;generalize XY (v.items.map (sub k0))=c at*;unfold Yr at*;refine Qc rfl rfl ?_
 simp[Md.enc,hk,Nat.add_assoc]at e3 e4;simp[Qjm,Qjh,Md.enc,hk,e3,e4,Nat.add_assoc]
theorem QjD (b:Ty)(sub:Ty->Val->ByteArray)(F:Nat): ∀(l:List Val) (i:Nat),(∀(j:Nat) x,l[j]? =some x->x.kind≠12->(sub (b.items[i+j]?.getD It.zero).of x).size<=F)->(ZE b sub i l).size<=(F+4)*l.length
 | [],i,_=>Nat.zero_le _
 | x::l,i,h=>by
  have h1:=QjD b sub F l (i+1) fun j y hj hy=>by
   have:=h (j+1) y (by simpa using hj) hy
   rw[show i+1+j=i+(j+1)by omega]; exact this
  rw[ZE,ByteArray.size_append,List.length_cons,Nat.mul_succ];by_cases q:x.kind=12
  ·rw[if_pos q];show 0+_<=_;omega
  ·rw[if_neg q];have h2:=h 0 x rfl q;rw[Nat.add_zero]at h2;have:=(Jk (128+(i:Int)) (sub (b.items[i]?.getD It.zero).of x)).2;omega
theorem QlP (m:Md)(b:Ty)(v:Val)(hk:b.kind=8)(hl:v.items.length<=600)(hlb:v.items.length=b.items.length)(sub:Ty->Val->ByteArray)(F:Nat)(hF:F<=3000000)(hf: ∀(i:Nat) x,v.items[i]? =some x->x.kind≠12->(sub (b.items[i]?.getD It.zero).of x).size<=F)
    (hel: ∀(i:Nat) x,v.items[i]? =some x->x.kind≠12-> ∀ws h,Qb cfg ws 55 [m.enc,(b.items[i]?.getD It.zero).of.enc,x.enc] h=some (.str (sub (b.items[i]?.getD It.zero).of x),h)) (ws:Nat) (h:Avm.H):Qb cfg ws 101 [m.enc,b.enc,v.enc] h=some (.str (ZG b v sub),h):=by
 have hB:=QgO m b v h;obtain⟨H',q',hB3,e3⟩:=QyD m b h.length (h.length+3) h.length (h.length+1) (by omega) (by omega) (by omega) v.items hl hlb sub F hF hf hel _ (by simp) (by simp) _ _ rfl hB
 have he:(⟨#[]⟩:ByteArray)++ZE b sub 0 v.items=ZE b sub 0 v.items:=by show ByteArray.empty++_=_; simp
 rw[he]at hB3
 have hsz3:(ZE b sub 0 v.items).size<=4294967296:=by
  have:=QjD b sub F v.items 0 (fun j x hj hx=>by rw[Nat.zero_add]; exact hf j x hj hx)
  have:(F+4)*v.items.length<=3000004*600:=Nat.mul_le_mul (by omega) hl
  omega
 obtain⟨H2,e4⟩:=QaV hB3 hsz3 h.length (by omega)
 have hen:ZG b v sub=ZE b sub 0 v.items:=by
  unfold ZG;rw[if_neg (by omega),if_neg (by omega),if_neg (by omega),if_neg (by omega),if_neg (by omega),if_neg (by omega),if_pos hk]
 rw[hen];clear hen hB hB3 hsz3 he hf hel;generalize ZE b sub 0 v.items=c at*;unfold Yr at*;refine Qc rfl rfl ?_
 simp[Md.enc,hk,Nat.add_assoc]at e3 e4;simp[Qjm,Qjh,Md.enc,hk,e3,e4,Nat.add_assoc]
theorem Qgn (m:Md)(b:Ty)(v:Val)(hk:b.kind=9)(x:Val)(hx:v.items=[x])(h0:0<=v.int)(h1:v.int<b.items.length)(sub:Ty->Val->ByteArray)
    (hel: ∀ws h,Qb cfg ws 55 [m.enc,(((b.items[v.int.toNat]?.map It.of).getD Ty.zero)).enc,x.enc] h=some (.str (sub ((b.items[v.int.toNat]?.map It.of).getD Ty.zero) x),h)) (ws:Nat) (h:Avm.H):Qb cfg ws 101 [m.enc,b.enc,v.enc] h=some (.str (ZG b v sub),h):=by
 have hen:ZG b v sub=sub ((b.items[v.int.toNat]?.map It.of).getD Ty.zero) x:=by
  unfold ZG;rw[if_neg (by omega),if_neg (by omega),if_neg (by omega),if_neg (by omega),if_neg (by omega),if_neg (by omega),if_neg (by omega),if_pos hk,hx]
  rfl
 rw[hen];have hib:v.int.toNat<b.items.length:=by omega
 have hit:(b.items[v.int.toNat]?.map It.of).getD Ty.zero=b.items[v.int.toNat].of:=by rw[List.getElem?_eq_getElem hib]; rfl
 rw[hit]at hel ⊢;have e1:=hel;generalize sub b.items[v.int.toNat].of x=c at*;have hvn:((v.int.toNat:Nat):Int)=v.int:=by omega
 refine Qc rfl rfl ?_
 simp[Md.enc]at e1;simp[Qjm,Qjh,Md.enc,hk,hx,hib,h0,h1,e1]
end Go.Proofs.YtflbneepngjglaaGreatDoor
namespace Go.Proofs.YtflbneepngjglaaGreatDoor
open Go Go.Avm
theorem QjN {m:Md}{n:Nat}{u:List (Ty×Val)}{t:Ty}{v r:Val}(h:Xd m (n+1) u t v=some r):r.kind=v.kind/\r.int=v.int/\r.bytes=v.bytes/\r.items.length=v.items.length/\
    ∀(j:Nat) x,v.items[j]? =some x-> ∃y z,r.items[j]? =some z/\JA ((beh m 21 t).getD Ty.zero) v (Xd m n u) j x=some y/\
     (if((beh m 21 t).getD Ty.zero).kind=8 then Qbc (QeF (Xd m n) u) (((beh m 21 t).getD Ty.zero).items[j]?.getD It.zero) y=some z else z=y):=by
 unfold Xd at h;split at h
 ·cases h
 ·rename_i l hl;obtain⟨h1,h2⟩:=XB hl;split at h
  ·rename_i q8;split at h
   ·rename_i r' hr;cases h;obtain⟨h3,h4⟩:=XB hr;refine⟨rfl,rfl,rfl,by simp[h3,h1],fun j x hx=>?_⟩
    obtain⟨y,h5,h6⟩:=h2 j x hx;obtain⟨z,h7,h8⟩:=h4 j y h5;rw[Nat.zero_add]at h6 h8;exact⟨y,z,h7,h6,by rw[if_pos q8]; exact h8⟩
   ·cases h
  ·rename_i q8;cases h;refine⟨rfl,rfl,rfl,by simp[h1],fun j x hx=>?_⟩
   obtain⟨y,h5,h6⟩:=h2 j x hx;rw[Nat.zero_add]at h6;exact⟨y,y,h5,h6,by rw[if_neg q8]⟩
theorem Qvi (o:Option It):(o.map It.of).getD Ty.zero=(o.getD It.zero).of:=by cases o<;>rfl
theorem Qkg {α:Type}(a:α): ∀(l:List α) (h:0<l.length),l.headD a=l[0]
 | _::_,_=>rfl
theorem QnW {b:Ty}{v r:Val}{f g:Ty->Val->Bool}(hi:r.int=v.int)(hb:r.bytes=v.bytes)(hl:r.items.length=v.items.length)
    (h7: ∀(i:Nat) x z t',v.items[i]? =some x->r.items[i]? =some z->b.kind=7\/b.kind=9->QW b v i x=some t'->f t' x=true->g t' z=true)
    (h6:b.kind=0\/b.kind=1\/b.kind=2\/b.kind=3\/b.kind=4\/b.kind=5\/b.kind=6\/b.kind=11->r.items=v.items)
    (h8: ¬(b.kind=0\/b.kind=1\/b.kind=2\/b.kind=3\/b.kind=4\/b.kind=5\/b.kind=6\/b.kind=11)->b.kind≠7->b.kind≠9-> ∀(i:Nat) it x z,b.items[i]? =some it->v.items[i]? =some x->r.items[i]? =some z->Zn f (it,x)=true->Zn g (it,z)=true)
    (h:JO b v f=true):JO b r g=true:=by
 unfold JO at h ⊢;by_cases q:b.kind=0\/b.kind=1\/b.kind=2\/b.kind=3\/b.kind=4\/b.kind=5\/b.kind=6\/b.kind=11
 ·have he:=h6 q;simp only[QfH,QL,hi,hb,he]at h ⊢;rcases q with q | q | q | q | q | q | q | q<;>simp only[q]at h ⊢ <;>simpa using h
 ·have q':b.kind≠0/\b.kind≠1/\b.kind≠2/\b.kind≠3/\b.kind≠4/\b.kind≠5/\b.kind≠6/\b.kind≠11:=by omega
  obtain⟨q0,q1,q2,q3,q4,q5,q6,q11⟩:=q';have eh: ∀a c,QL a c true r=QL a c true v:=fun a c=>by simp only[QL,hi,hb,Bool.true_or]
  simp only[if_neg q0,if_neg q1,if_neg q2,if_neg q3,if_neg q4,if_neg q5,if_neg q6,if_neg q11]at h ⊢;by_cases q7:b.kind=7
  ·rw[if_pos q7]at h ⊢;simp only[Bool.and_eq_true]at h ⊢;refine⟨by rw[eh]; exact h.1,by rw[hl]; exact h.2.1,?_⟩
   rw[List.all_eq_true];intro z hz;obtain⟨i,hi',hzz⟩:=List.mem_iff_getElem.1 hz;have hiv:i<v.items.length:=by omega
   have hx:=List.all_eq_true.1 h.2.2 _ (List.getElem_mem hiv);exact h7 i _ z _ (List.getElem?_eq_getElem hiv) (by rw[List.getElem?_eq_getElem hi',hzz]) (.inl q7) (by unfold QW; rw[if_pos q7]) hx
  ·by_cases q9:b.kind=9
   ·rw[if_neg q7,if_pos q9]at h ⊢;simp only[Bool.and_eq_true,decide_eq_true_eq]at h ⊢;obtain⟨ha,hb',hc,hd⟩:=h;refine⟨by rw[eh]; exact ha,by rw[hi]; exact hb',by omega,?_⟩
    have hv0:0<v.items.length:=by omega
    have hr0:0<r.items.length:=by omega
    rw[Qkg _ _ hv0]at hd;rw[Qkg _ _ hr0,hi];exact h7 0 _ _ _ (List.getElem?_eq_getElem hv0) (List.getElem?_eq_getElem hr0) (.inr q9) (by unfold QW; rw[if_neg q7,if_pos q9]) hd
   ·rw[if_neg q7,if_neg q9]at h ⊢;simp only[Bool.and_eq_true,decide_eq_true_eq]at h ⊢;refine⟨by rw[eh]; exact h.1,by omega,?_⟩
    rw[List.all_eq_true]
    rintro⟨it,z⟩ hz
    obtain⟨i,hiz⟩:=List.mem_iff_getElem?.1 hz;rw[List.getElem?_zip_eq_some]at hiz
    have hiv:i<v.items.length:=by have:=(List.getElem?_eq_some_iff.1 hiz.2).1; omega
    refine h8 q q7 q9 i it v.items[i] z hiz.1 (List.getElem?_eq_getElem hiv) hiz.2 (List.all_eq_true.1 h.2.2 _ ?_)
    rw[List.mem_iff_getElem?];exact⟨i,by rw[List.getElem?_zip_eq_some]; exact⟨hiz.1,List.getElem?_eq_getElem hiv⟩⟩
theorem Qse {g:Ty->Val->Bool}{it:It}(h:QiY it=true):Zn g (it,QaY)=true:=by
 unfold Zn;have:QL false false false QaY=true:=by simp[QL,QaY,eqS]
 simp only[this,h];simp[QaY]
theorem QeW {m:Md}: ∀(k:Nat) (v:Val) (t:Ty) (n:Nat),v.size<=k->Xn m n t v=true->Xn m k t v=true
 | 0,v,_,_,h,_=>by have:=v.size_pos; omega
 | _+1,_,_,0,_,h=>by cases h
 | k+1,v,t,n+1,hs,h=>by
  unfold Xn at h ⊢;split at h
  ·cases h
  ·rename_i b hb;rw[Bool.and_eq_true]at h ⊢;refine⟨h.1,QnW rfl rfl rfl (fun i x z t' hx hz _ _ hf=>?_) (fun _=>rfl) (fun _ _ _ i it x z _ hx hz hf=>?_) h.2⟩
   ·rw[hx]at hz; injection hz with hz; subst hz;exact QeW k x t' n (by have:=Val.Qu (List.mem_of_getElem? hx); omega) hf
   ·rw[hx]at hz; injection hz with hz; subst hz;unfold Zn at hf ⊢;rw[Bool.or_eq_true]at hf ⊢;exact hf.imp_right fun hf=>QeW k x _ n (by have:=Val.Qu (List.mem_of_getElem? hx); omega) hf
theorem Qdb {m:Md}: ∀(n k:Nat) (u:List (Ty×Val)) (t:Ty) (v r:Val),Xd m n u t v=some r->Xn m k t v=true->Xn m k t r=true
 | 0,_,_,_,_,_,h,_=>by cases h
 | _+1,0,_,_,_,_,_,h=>by cases h
 | n+1,k+1,u,t,v,r,h,hf=>by
  obtain⟨h1,h2,h3,h4,h5⟩:=QjN h;unfold Xn at hf ⊢;split at hf
  ·cases hf
  ·rename_i b hb;rw[hb]at h5;simp only[Option.getD_some]at h5;rw[Bool.and_eq_true]at hf ⊢;refine⟨by rw[h1]; exact hf.1,QnW h2 h3 h4 (fun i x z t' hx hz h79 hp hf=>?_) (fun h6=>?_) (fun h6 h7 h9 i it x z hit hx hz hf=>?_) hf.2⟩
   ·obtain⟨y,z',h6,h7,h8⟩:=h5 i x hx;rw[hz]at h6; injection h6 with h6; subst h6;rw[if_neg (by omega)]at h8
    subst h8;unfold JA at h7;rw[hp]at h7;exact Qdb n k u _ _ _ h7 hf
   ·refine List.ext_getElem? fun i=>?_
    cases hx:v.items[i]? with
    | none=>rw[List.getElem?_eq_none_iff]at hx ⊢; omega
    | some x=>
     obtain⟨y,z',h7,h8,h9⟩:=h5 i x hx;rw[if_neg (by omega)]at h9
     subst h9;unfold JA QW at h8;rw[if_neg (by omega),if_neg (by omega),if_neg (by omega)]at h8
     injection h8 with h8; subst h8;exact h7
   ·obtain⟨y,z',e6,e7,e8⟩:=h5 i x hx;rw[hz]at e6; injection e6 with e6; subst e6;by_cases q8:b.kind=8
    ·rw[if_pos q8,hit,Option.getD_some]at e8
     have hy:Zn (Xn m k) (it,y)=true:=by
      unfold JA QW at e7;rw[if_neg h7,if_neg h9]at e7;by_cases q12:x.kind=12
      ·rw[if_neg (by simp[q12])]at e7
       injection e7 with e7; subst e7;exact hf
      ·rw[if_pos ⟨q8,q12⟩,hit]at e7;unfold Zn at hf ⊢;simp only[q12,decide_false,Bool.false_and,Bool.false_or]at hf;have:=Qdb n k u _ _ _ e7 hf;rw[Bool.or_eq_true];exact .inr this
     unfold Qbc at e8;split at e8
     ·rename_i hd;split at e8
      ·injection e8 with e8;split at e8
       ·subst e8;refine Qse ?_
        unfold QiY;cases hq:it.QA with
        | nil=>exact absurd hq hd.1
        | cons a l=>simp
       ·subst e8; exact hy
      ·cases e8
     ·injection e8 with e8; subst e8; exact hy
    ·rw[if_neg q8]at e8;subst e8;unfold JA QW at e7;rw[if_neg h7,if_neg h9,if_neg (fun e=>q8 e.1)]at e7
     injection e7 with e7; subst e7;unfold Zn at hf ⊢;rw[Bool.or_eq_true]at hf ⊢;refine hf.imp_right fun hf=>?_
     exact hf
theorem QiZ {b:Ty}(h:Qk b=true):(b.kind=0\/b.kind=1\/b.kind=2\/b.kind=3\/b.kind=4\/b.kind=5\/b.kind=6\/b.kind=11\/b.kind=7\/b.kind=9\/b.kind=10)\/b.kind=8:=by
 unfold Qk at h;by_cases q:(b.kind=0\/b.kind=1\/b.kind=2\/b.kind=3\/b.kind=4\/b.kind=5\/b.kind=6\/b.kind=11\/b.kind=7\/b.kind=9\/b.kind=10)\/b.kind=8
 ·exact q
 ·exfalso;rw[if_neg (by omega),if_neg (by omega),if_neg (by omega),if_neg (by omega),if_neg (by omega),if_neg (by omega),if_neg (by omega),if_neg (by omega),if_neg (by omega),if_neg (by omega),if_neg (by omega)]at h
  simp only[Bool.and_eq_true,decide_eq_true_eq]at h;omega
theorem QuL {x:Val}(h:x.items=[]):x.nodes=1:=by rw[x.QC,h]; rfl
theorem XS (v:Val):1<=v.nodes:=by rw[Val.QC]; omega
theorem Qkr (v:Val):1<=v.depth:=by rw[Val.Zw]; omega
theorem QjO : ∀{l r:List Val},r.length=l.length->(∀(j:Nat) x z,l[j]? =some x->r[j]? =some z->z.nodes<=x.nodes/\z.depth<=x.depth)->(r.map Val.nodes).sum<=(l.map Val.nodes).sum/\Xq (r.map Val.depth)<=Xq (l.map Val.depth)
 | [],[],_,_=>⟨Nat.le_refl _,Nat.le_refl _⟩
 | [],_::_,h,_=>by simp at h
 | _::_,[],h,_=>by simp at h
 | x::l,z::r,h,hf=>by
  have h0:=hf 0 x z rfl rfl;have h1:=QjO (l:=l) (r:=r) (by simpa using h) fun j a b ha hb=>hf (j+1) a b (by simpa using ha) (by simpa using hb)
  simp only[List.map_cons,List.sum_cons,Xq];omega
theorem QjM {m:Md}: ∀(n:Nat) (u:List (Ty×Val)) (t:Ty) (v r:Val),Xd m n u t v=some r->r.nodes<=v.nodes/\r.depth<=v.depth
 | 0,_,_,_,_,h=>by cases h
 | n+1,u,t,v,r,h=>by
  obtain⟨h1,h2,h3,h4,h5⟩:=QjN h
  have:=QjO h4 fun j x z hx hz=>by
   obtain⟨y,z',h6,h7,h8⟩:=h5 j x hx;rw[hz]at h6; injection h6 with h6; subst h6
   have hy:y.nodes<=x.nodes/\y.depth<=x.depth:=by
    unfold JA at h7;split at h7
    ·exact QjM n u _ _ _ h7
    ·injection h7 with h7; subst h7; exact⟨Nat.le_refl _,Nat.le_refl _⟩
   split at h8
   ·unfold Qbc at h8;split at h8
    ·split at h8
     ·injection h8 with h8;split at h8
      ·subst h8;have e1:QaY.nodes=1:=QuL rfl;have e2:QaY.depth=1:=by rw[Val.Zw]; rfl
       have:=XS y; have:=Qkr y;omega
      ·subst h8; exact hy
     ·cases h8
    ·injection h8 with h8; subst h8; exact hy
   ·subst h8; exact hy
  rw[r.QC,v.QC,r.Zw,v.Zw];omega
theorem QvC {a:ByteArray}(h:eqS a ⟨#[]⟩=true):a.size=0:=by
 unfold eqS at h;rw[decide_eq_true_eq,Qeo]at h;rw[h]; rfl
theorem QkF {b:Ty}{v:Val}{f:Ty->Val->Bool}(hr:Qk b=true)(h:JO b v f=true):v.bytes.size<=32000:=by
 have hh: ∀a c,QL a false c v=true->v.bytes.size<=32000:=fun a c e=>by
  simp only[QL,Bool.and_eq_true,Bool.false_or]at e;rw[QvC e.2.1]; omega
 have ha: ∀(a k:Int),k<=32000->XI b a k=true->ZB b (v.bytes.size:Int) k=true->v.bytes.size<=32000:=fun a k hk e1 e2=>by
  unfold XI at e1;unfold ZB inP at e2;cases q1:b.free<;>cases q2:b.ext<;>simp[q1,q2]at e1 e2<;>omega
 unfold JO at h;unfold Qk at hr;by_cases q:b.kind=4\/b.kind=5\/b.kind=11
 ·rcases q with q | q | q
  ·simp only[q]at h hr;simp at h hr;exact ha 0 4000 (by omega) hr.2 h.2
  ·simp only[q]at h hr;simp at h hr;exact ha 0 32000 (by omega) hr.2 h.2.2
  ·simp only[q]at h;simp at h;omega
 ·rw[if_neg (c:=b.kind=4) (by omega),if_neg (c:=b.kind=5) (by omega),if_neg (c:=b.kind=11) (by omega)]at h
  by_cases q0:b.kind=0
  ·rw[if_pos q0]at h; exact hh _ _ h
  rw[if_neg q0]at h;by_cases q0:b.kind=1
  ·rw[if_pos q0,Bool.and_eq_true]at h; exact hh _ _ h.1
  rw[if_neg q0]at h;by_cases q0:b.kind=2
  ·rw[if_pos q0,Bool.and_eq_true]at h; exact hh _ _ h.1
  rw[if_neg q0]at h;by_cases q0:b.kind=3
  ·rw[if_pos q0,Bool.and_eq_true]at h; exact hh _ _ h.1
  rw[if_neg q0]at h;by_cases q0:b.kind=6
  ·rw[if_pos q0]at h; unfold QfH at h; rw[Bool.and_eq_true]at h; exact hh _ _ h.1
  rw[if_neg q0]at h;by_cases q0:b.kind=7
  ·rw[if_pos q0,Bool.and_eq_true]at h; exact hh _ _ h.1
  rw[if_neg q0]at h;by_cases q0:b.kind=9
  ·rw[if_pos q0,Bool.and_eq_true]at h; exact hh _ _ h.1
  rw[if_neg q0,Bool.and_eq_true]at h; exact hh _ _ h.1
theorem Qxu {v:Val}(h:Wd v=true):v.nodes<=600/\v.depth<=30:=of_decide_eq_true h
end Go.Proofs.YtflbneepngjglaaGreatDoor
namespace Go.Proofs.YtflbneepngjglaaGreatDoor
open Go Go.Avm
theorem Qvu {b:Ty}{v:Val}{f:Ty->Val->Bool}(h:JO b v f=true)(hk:b.kind=1):v.int=0\/v.int=1:=by
 unfold JO inP at h;rw[if_neg (by omega),if_pos hk]at h
 simp at h;omega
theorem Qre {b:Ty}{v:Val}{f:Ty->Val->Bool}(h:JO b v f=true)(hk:b.kind=2\/b.kind=3)(hw:b.items.length<=67108864): -1000000000000000<=v.int/\v.int<=1000000000000000:=by
 unfold JO inP at h;rcases hk with hk | hk
 ·rw[if_neg (by omega),if_neg (by omega),if_pos hk]at h
  simp at h;omega
 ·rw[if_neg (by omega),if_neg (by omega),if_neg (by omega),if_pos hk]at h
  simp at h;omega
theorem Qvv {b:Ty}{v:Val}{f:Ty->Val->Bool}(h:JO b v f=true)(hk:b.kind=5):v.bytes.data.toList.all d01=true:=by
 unfold JO at h;rw[if_neg (by omega),if_neg (by omega),if_neg (by omega),if_neg (by omega),if_neg (by omega),if_pos hk]at h
 simp only[Bool.and_eq_true]at h;exact h.2.1
theorem QsO {b:Ty}{v:Val}{f:Ty->Val->Bool}(h:JO b v f=true)(hr:Qk b=true)(hk:b.kind=4\/b.kind=11):v.bytes.size<=4000:=by
 unfold JO at h;unfold Qk at hr;rcases hk with q | q
 ·simp only[q]at h hr;simp at h hr;have e1:=hr.2;have e2:=h.2;unfold XI at e1;unfold ZB inP at e2;cases q1:b.free<;>cases q2:b.ext<;>simp[q1,q2]at e1 e2<;>omega
 ·simp only[q]at h;simp at h;omega
theorem Qrd {b:Ty}{v:Val}{f:Ty->Val->Bool}(h:JO b v f=true)(hk:b.kind=6):2<=v.items.length/\v.items.length<=10/\(∀x∈v.items,0<=x.int/\x.int<=1000000000)/\(v.items.headD QaY).int<=2:=by
 unfold JO at h;rw[if_neg (by omega),if_neg (by omega),if_neg (by omega),if_neg (by omega),if_neg (by omega),if_neg (by omega),if_pos hk]at h
 unfold QfH inP at h;simp only[Bool.and_eq_true,decide_eq_true_eq]at h;obtain⟨_,⟨h1,h2⟩,h3,h4⟩:=h;refine⟨by omega,by omega,fun x hx=>?_,?_⟩
 ·have:=List.all_eq_true.1 h3 x hx;unfold Qeu inP at this;simp only[Bool.and_eq_true,decide_eq_true_eq]at this;omega
 ·match hq:v.items with
  | []=>rw[hq]at h4; cases h4
  | [a]=>rw[hq]at h4; cases h4
  | a::c::l=>
   rw[hq]at h4;unfold Qqk at h4;simp only[Bool.or_eq_true,Bool.and_eq_true,decide_eq_true_eq]at h4;show a.int<=2;omega
theorem Qdh {b:Ty}{v:Val}{f:Ty->Val->Bool}(h:JO b v f=true)(hk:b.kind=9): ∃x,v.items=[x]/\0<=v.int/\v.int<b.items.length:=by
 unfold JO inP at h;simp only[hk]at h;simp at h;obtain⟨_,⟨h1,h2⟩,h3,h4⟩:=h
 match hq:v.items with
 | []=>rw[hq]at h3; simp at h3
 | [a]=>exact⟨a,rfl,by omega,by omega⟩
 | a::c::l=>rw[hq]at h3; simp at h3
theorem QgA {b:Ty}(h:Qk b=true)(h10:b.kind≠10):Kind b.kind:=by
 have:=QiZ h;unfold Kind;omega
theorem Qol {g:Val->ByteArray}: ∀{l:List Val},(∀x∈l,(g x).size<=5000*x.nodes)->(XY (l.map g)).size<=5000*(l.map Val.nodes).sum
 | [],_=>Nat.zero_le _
 | x::l,h=>by
  have h1:=h x (by simp)
  have h2:=Qol (l:=l) fun y hy=>h y (by simp[hy])
  simp only[List.map_cons,XY,ByteArray.size_append,List.sum_cons];omega
theorem QmW {b:Ty}{sub:Ty->Val->ByteArray}: ∀{l:List Val} {i:Nat},(∀(j:Nat) x,l[j]? =some x->x.kind≠12->(sub (b.items[i+j]?.getD It.zero).of x).size+4<=5000*x.nodes)->(ZE b sub i l).size<=5000*(l.map Val.nodes).sum
 | [],_,_=>Nat.zero_le _
 | x::l,i,h=>by
  have h2:=QmW (b:=b) (sub:=sub) (l:=l) (i:=i+1) fun j y hj hy=>by
   have:=h (j+1) y (by simpa using hj) hy
   rw[show i+1+j=i+(j+1)by omega]; exact this
  simp only[ZE,ByteArray.size_append,List.map_cons,List.sum_cons];by_cases q:x.kind=12
  ·rw[if_pos q];show 0+_<=_;omega
  ·rw[if_neg q];have h1:=h 0 x rfl q;simp only[Nat.add_zero]at h1;have:=(Jk (128+(i:Int)) (sub (b.items[i]?.getD It.zero).of x)).2;omega
theorem QsY {b:Ty}{v:Val}{f:Ty->Val->Bool}(hr:Qk b=true)(hw:b.items.length<=67108864)(h:JO b v f=true){sub:Ty->Val->ByteArray}(hsub: ∀(i:Nat) x t',v.items[i]? =some x->QW b v i x=some t'->(sub t' x).size+4<=5000*x.nodes):(ZG b v sub).size+8<=5000*v.nodes:=by
 rw[v.QC];unfold ZG;by_cases q1:b.kind=1
 ·rw[if_pos q1,WR]; omega
 rw[if_neg q1];by_cases q2:b.kind=2\/b.kind=3
 ·rw[if_pos q2];obtain⟨h0,h1⟩:=Qre h q2 hw;have:=Qsn v.int h0 h1;omega
 rw[if_neg q2];by_cases q3:b.kind=4\/b.kind=11
 ·rw[if_pos q3];have:=QsO h hr q3;omega
 rw[if_neg q3];by_cases q5:b.kind=5
 ·rw[if_pos q5,ByteArray.size_append,WR];have:=QkF hr h
  have hps:(Jb v.bytes).size=(v.bytes.size+7)/8:=by
   unfold Jb;rw[Qbp,List.length_map,Qch,show v.bytes.data.toList.length=v.bytes.size from Array.length_toList]
  omega
 rw[if_neg q5];by_cases q6:b.kind=6
 ·rw[if_pos q6];obtain⟨h1,h2,h3,h4⟩:=Qrd h q6;unfold Qts;rw[ByteArray.size_append]
  have e1:=Qct (l:=(v.items.drop 2).map fun x=>Jg x.int.toNat) (f:=10) (fun z hz=>by
   obtain⟨w,hw,rfl⟩:=List.mem_map.1 hz;have:=h3 w (List.mem_of_mem_drop hw);exact WV _ (by omega))
  have e2:=WV (40*(v.items.headD QaY).int+(v.items.tail.headD QaY).int).toNat (by
   match hq:v.items with
   | []=>rw[hq]at h1; simp at h1
   | [a]=>rw[hq]at h1; simp at h1
   | a::c::l=>
    rw[hq]at h3;have g1:=h3 a (by simp)
    have g2:=h3 c (by simp)
    show(40*a.int+c.int).toNat<_;omega)
  simp only[List.length_map,List.length_drop]at e1;omega
 rw[if_neg q6];by_cases q7:b.kind=7
 ·rw[if_pos q7]
  have:=Qol (g:=sub (b.kids.headD Ty.zero)) (l:=v.items) fun x hx=>by
   obtain⟨i,hi⟩:=List.mem_iff_getElem?.1 hx;have:=hsub i x _ hi (by unfold QW; rw[if_pos q7])
   omega
  omega
 rw[if_neg q7];by_cases q8:b.kind=8
 ·rw[if_pos q8]
  have:=QmW (b:=b) (sub:=sub) (l:=v.items) (i:=0) fun j x hj hx=>by
   have:=hsub j x _ hj (by unfold QW; rw[if_neg q7,if_neg (by omega),if_pos ⟨q8,hx⟩])
   rw[Nat.zero_add,←Qvi];exact this
  omega
 rw[if_neg q8];by_cases q9:b.kind=9
 ·rw[if_pos q9];obtain⟨x,hx,_⟩:=Qdh h q9;have:=hsub 0 x _ (by rw[hx]; rfl) (by unfold QW; rw[if_neg q7,if_pos q9])
  rw[hx];simp only[List.map_cons,List.map_nil,List.sum_cons,List.sum_nil,List.headD_cons];omega
 rw[if_neg q9];show 0+8<=_;omega
end Go.Proofs.YtflbneepngjglaaGreatDoor
namespace Go.Proofs.YtflbneepngjglaaGreatDoor
open Go Go.Avm
theorem QjR {v x:Val}{i:Nat}(h:v.items[i]? =some x):x.nodes<v.nodes:=Qaa (List.mem_of_getElem? h)
theorem QfN {m:Md}{S:List (Ty×Val)}(M:m.Zz S): ∀(n:Nat) (t:Ty) (v:Val),t.Zz m S->Xn m n t v=true->v.nodes<=600->(Zr m n t v).size+4<=5000*v.nodes/\ ∀ws h,Qb cfg ws 55 [m.enc,t.enc,v.enc] h=some (.str (Zr m n t v),h)
 | 0,_,_,_,hk,_=>by cases hk
 | n+1,t,v,T,hk,hn=>by
  cases hb:beh m 21 t with
  | none=>unfold Xn at hk; rw[hb]at hk; cases hk
  | some b=>
  obtain⟨B,hb10⟩:=T.beh M hb;have hr:=QO B.right;obtain⟨hkind,hin,hsub⟩:=JY m hk hb hr
  have hs:JO b v (Xn m n)=true:=by
   unfold Xn at hk;rw[hb]at hk;simp only[Bool.and_eq_true]at hk;exact hk.2
  have hwi:=b.Qe;have hBw:=B.wid;have hvi:=Ww (v:=v)
  have hrec: ∀(i:Nat) x t',v.items[i]? =some x->QW b v i x=some t'->(Zr m n t' x).size+4<=5000*x.nodes/\ ∀ws h,Qb cfg ws 55 [m.enc,t'.enc,x.enc] h=some (.str (Zr m n t' x),h):=fun i x t' hx hp=>
   QfN M n t' x (YY B hp) (hsub i x t' hx hp) (by have:=QjR hx; omega)
  have hsz:=QsY hr (by omega) hs (sub:=Zr m n) fun i x t' hx hp=>(hrec i x t' hx hp).1
  have hes:=Jk (QkV b.kind+if b.kind=9 then v.int else 0) (ZG b v (Zr m n))
  have hen:Zr m (n+1) t v=elS (QkV b.kind+if b.kind=9 then v.int else 0) (ZG b v (Zr m n)):=by
   rw[Zr,hb];rfl
  rw[hen];refine⟨by omega,?_⟩
  have hco: ∀ws h,Qb cfg ws 101 [m.enc,b.enc,v.enc] h=some (.str (ZG b v (Zr m n)),h):=by
   have hK:=QgA hr hb10;unfold Kind at hK;by_cases q1:b.kind=1
   ·exact fun ws h=>Qjf m b v q1 (Qvu hs q1) _ ws h
   by_cases q2:b.kind=2\/b.kind=3
   ·obtain⟨h0,h1⟩:=Qre hs q2 (by omega)
    exact fun ws h=>QlR m b v q2 h0 h1 _ ws h
   by_cases q3:b.kind=4\/b.kind=11
   ·exact fun ws h=>Qie m b v q3 _ ws h
   by_cases q5:b.kind=5
   ·exact fun ws h=>Qjg m b v q5 (QkF hr hs) (Qvv hs q5) _ ws h
   by_cases q6:b.kind=6
   ·obtain⟨h1,h2,h3,h4⟩:=Qrd hs q6;exact fun ws h=>QlQ m b v q6 h1 h2 h3 h4 _ ws h
   by_cases q7:b.kind=7
   ·obtain⟨k0,kr,hkk⟩: ∃k0 kr,b.kids=k0::kr:=by
      cases hq:b.kids with
      | nil=>exact absurd hq (hin.list q7)
      | cons a l=>exact⟨a,l,rfl⟩
    have hp: ∀x∈v.items,(Zr m n k0 x).size+4<=5000*x.nodes/\ ∀ws h,Qb cfg ws 55 [m.enc,k0.enc,x.enc] h=some (.str (Zr m n k0 x),h):=fun x hx=>by
     obtain⟨i,hi⟩:=List.mem_iff_getElem?.1 hx;exact hrec i x k0 hi (by unfold QW; rw[if_pos q7,hkk]; rfl)
    exact fun ws h=>Qje m b v q7 k0 kr hkk (by omega) _ 3000000 (Nat.le_refl _) (fun x hx=>by have:=(hp x hx).1; have:=Qaa hx; omega) (fun x hx=>(hp x hx).2) ws h
   by_cases q8:b.kind=8
   ·have hp: ∀(i:Nat) x,v.items[i]? =some x->x.kind≠12->(Zr m n (b.items[i]?.getD It.zero).of x).size+4<=5000*x.nodes/\ ∀ws h,Qb cfg ws 55 [m.enc,(b.items[i]?.getD It.zero).of.enc,x.enc] h=some (.str (Zr m n (b.items[i]?.getD It.zero).of x),h):=fun i x hx h12=>
      hrec i x _ hx (by unfold QW; rw[if_neg q7,if_neg (by omega),if_pos ⟨q8,h12⟩,Qvi])
    exact fun ws h=>QlP m b v q8 (by omega) (hin.record q8) _ 3000000 (Nat.le_refl _) (fun i x hx h12=>by have:=(hp i x hx h12).1; have:=QjR hx; omega) (fun i x hx h12=>(hp i x hx h12).2) ws h
   by_cases q9:b.kind=9
   ·obtain⟨x,hx,h0,h1⟩:=Qdh hs q9;exact fun ws h=>Qgn m b v q9 x hx h0 h1 _ (hrec 0 x _ (by rw[hx]; rfl) (by unfold QW; rw[if_neg q7,if_pos q9])).2 ws h
   exact fun ws h=>Qjd m b v (by omega) _ ws h
  have hbh:=fun ws h=>Zy m M.ok t T.wid ws h
  simp[hb]at hbh;simp only[Md.enc]at hbh hco;have e1:=fun ws h=>Qyu b.kind (QgA hr hb10) ws h
  have e2:=fun k ws h=>QhZ k (ZG b v (Zr m n)) (by omega) ws h
  clear hrec hsub hin;generalize ZG b v (Zr m n)=c at*;intro ws h;refine Qc rfl rfl ?_
  by_cases q9:b.kind=9
  ·obtain⟨x,hx,h0,h1⟩:=Qdh hs q9;have w:IntKind.wrap .i64 (160+v.int)=160+v.int:=QU (by omega) (by omega)
   rw[q9]at e1 ⊢;simp[QkV,q9]at e1 hco;simp[F55,c55,Md.enc,hbh,q9,e1,e2,hco,w,QkV]
  ·simp at hco;simp[F55,c55,Md.enc,hbh,q9,e1,e2,hco]
end Go.Proofs.YtflbneepngjglaaGreatDoor
namespace Go.Proofs.YtflbneepngjglaaGreatDoor
open Go Go.Avm
end Go.Proofs.YtflbneepngjglaaGreatDoor
namespace Go.Proofs.YtflbneepngjglaaGreatDoor
open Go Go.Avm
section
variable {m : Md} {t b : Ty} {v : Val} (hr : ∀ ws h, Qb cfg ws 77 [m.enc, t.enc] h = some (.tup [b.enc, .bool true], h))
include hr
end
end Go.Proofs.YtflbneepngjglaaGreatDoor
namespace Go.Proofs.YtflbneepngjglaaGreatDoor
open Go Go.Avm
section
variable {m : Md} {t b : Ty} {v : Val} (hr : ∀ ws h, Qb cfg ws 77 [m.enc, t.enc] h = some (.tup [b.enc, .bool true], h))
include hr
end
end Go.Proofs.YtflbneepngjglaaGreatDoor
namespace Go.Proofs.YtflbneepngjglaaGreatDoor
open Go Go.Avm
@[irreducible] def Qki :Nat:=67108864
theorem Qvn {n:Nat}(h:n<=67108864):n<=Qki:=by unfold Qki; exact h
def QcG (m:Md)(t:Ty)(v:Val):ByteArray:=Zr m Qki t (XL m t v)
def Yw (m:Md)(t:Ty)(v:Val):ByteArray×Int:=if Qbh m t v=0 then(if 4000<(QcG m t v).size then(⟨#[]⟩,2)else(QcG m t v,0))else(⟨#[]⟩,Qbh m t v)
theorem QaF {m:Md}{t:Ty}{v:Val}(hm:m.ok)(hs:t.size<=67108864)(hv:v.size<=67108864)(q:Qbh m t v=0):m.Zz (Qmz m t)/\t.Zz m (Qmz m t)/\Xn m Qki t (XL m t v)=true/\(XL m t v).nodes<=600:=by
 obtain⟨q1,q2,q3⟩:=Qas q;obtain⟨M,T,hS,hSs⟩:=QgF hm hs q1;have hpl:=Qcg M hS hSs T v;have hf:=Qxu q2;have hp:=QjM _ _ _ _ _ hpl;exact⟨M,T,QeW _ _ _ _ (Qvn (Nat.le_trans (Jw hpl) hv)) (Qdb _ _ _ _ _ _ hpl q3),by omega⟩
theorem QhE (m:Md)(hm:m.ok)(t:Ty)(hs:t.size<=67108864)(v:Val)(hv:v.size<=67108864)(ws:Nat)(h:Avm.H):Qb cfg ws 27 [m.enc,t.enc,v.enc] h=some (.tup [.str (Yw m t v).1,.int .i64 (Yw m t v).2],h):=by
 have e1:=fun ws h=>Qsc m hm t hs v hv ws h
 unfold YW at e1;unfold Yw;refine Qc rfl rfl ?_
 by_cases q:Qbh m t v=0
 ·obtain⟨M,T,hfit,hn⟩:=QaF hm hs hv q;have e2:=(QfN M Qki t (XL m t v) T hfit hn).2;rw[if_pos q];simp only[if_pos q]at e1;unfold QcG;generalize XL m t v=r at*;generalize Zr m Qki t r=x at*;simp only[Md.enc]at e1 e2;simp at e1 e2;by_cases q':4000<x.size
  ·have c2:(4000:Int)<(x.size:Int):=by omega
   rw[if_pos q'];simp[F27,c27,Md.enc,e1,e2,c2]
  ·have c2: ¬(4000:Int)<(x.size:Int):=by omega
   rw[if_neg q'];simp[F27,c27,Md.enc,e1,e2,c2]
 ·rw[if_neg q];simp only[if_neg q]at e1;simp only[Md.enc]at e1;simp at e1;simp[F27,c27,Md.enc,e1,q]
end Go.Proofs.YtflbneepngjglaaGreatDoor
