/- Values made plain: the program. -/
import Derived.Test.YtflbneepngjglaaGreatDoorO45
import Derived.Test.YtflbneepngjglaaGreatDoorO43
set_option linter.all false
namespace Go.Proofs.YtflbneepngjglaaGreatDoor
open Go Go.Avm
theorem QhY {α:Type}{p:α->α->Bool}: ∀(l m:List α),(∀x∈l,∀y,p x y=true↔x=y)->(eqL p l m=true↔l=m)
 | [],[],_=>by simp[eqL]
 | [],_::_,_=>by simp[eqL]
 | _::_,[],_=>by simp[eqL]
 | x::l,y::m,h=>by
  simp only[eqL,Bool.and_eq_true,h x (by simp) y,QhY l m (fun z hz=>h z (by simp[hz])),List.cons.injEq]
theorem Qeo (a b:ByteArray):a.toList=b.toList↔a=b:=by
 rw[ByteArray.toList_eq,ByteArray.toList_eq];constructor
 ·intro h; apply ByteArray.ext; apply Array.ext'; exact h
 ·rintro rfl; rfl
theorem QdH : ∀(n:Nat) (v:Val),v.size<=n-> ∀w,v.same w=true↔v=w
 | 0,v,h,_=>by have:=v.size_pos; omega
 | n+1,v,h,w=>by
  rw[Val.Xu];simp only[Bool.and_eq_true,decide_eq_true_eq,Qeo];rw[QhY v.items w.items (fun x hx y=>QdH n x (by have:=Val.Qu hx; omega) y)]
  constructor
  ·rintro⟨h1,h2,h3,h4⟩; rw[←v.eta,←w.eta,h1,h2,h3,h4]
  ·rintro rfl; exact⟨rfl,rfl,rfl,rfl⟩
theorem Val.Jh(v w:Val):v.same w=true↔v=w:=QdH _ v (Nat.le_refl _) w
theorem Qqq : ∀n,(∀t:Ty,t.size<=n-> ∀u,t.same u=true↔t=u)/\(∀x:It,x.size<=n-> ∀y,x.same y=true↔x=y)
 | 0=>⟨fun t h _=>by have:=t.size_pos; omega,fun t h _=>by have:=t.size_pos; omega⟩
 | n+1=>by
  obtain⟨ih1,ih2⟩:=Qqq n;refine⟨fun t h u=>?_,fun x h y=>?_⟩
  ·rw[Ty.Xu];simp only[Bool.and_eq_true,decide_eq_true_eq,Qeo];rw[QhY t.items u.items (fun x hx y=>ih2 x (by have:=Ty.Qu hx; omega) y),QhY t.kids u.kids (fun x hx y=>ih1 x (by have:=Ty.Xa hx; omega) y)]
   constructor
   ·rintro⟨h1,h2,h3,h4,h5,h6,h7,h8⟩; rw[←t.eta,←u.eta,h1,h2,h3,h4,h5,h6,h7,h8]
   ·rintro rfl; simp
  ·unfold It.same;simp only[Bool.and_eq_true,decide_eq_true_eq,Qeo];rw[ih1 x.of (by have:=x.Qgt; omega),QhY x.QA y.QA (fun v _ w=>Val.Jh v w)]
   constructor
   ·rintro⟨h1,h2,h3,h4,h5⟩; rw[←x.eta,←y.eta,h1,h2,h3,h4,h5]
   ·rintro rfl; simp
theorem Ty.Jh(t u:Ty):t.same u=true↔t=u:=(Qqq _).1 t (Nat.le_refl _) u
theorem Val.QeG(v w:Val):v.same w=w.same v:=by
 rw[Bool.eq_iff_iff,Val.Jh,Val.Jh]; exact eq_comm
theorem Ty.QeG(v w:Ty):v.same w=w.same v:=by
 rw[Bool.eq_iff_iff,Ty.Jh,Ty.Jh]; exact eq_comm
def QaY :Val:=.mk 12 0 ⟨#[]⟩ []
def It.zero:It:=.mk ⟨#[]⟩ Ty.zero false false []
def Ty.prs(t:Ty):List (Ty×Val):=(t.items.flatMap fun x=>x.QA.map fun d=>(x.of,d))++t.inner.attach.flatMap fun x=>x.1.prs
termination_by t.size
decreasing_by exact Ty.QQ x.2
theorem Ty.Qpr(t:Ty):t.prs=(t.items.flatMap fun x=>x.QA.map fun d=>(x.of,d))++t.inner.flatMap Ty.prs:=by rw[Ty.prs,QoD t.inner Ty.prs]
def Qyt (m:Md)(S:List (Ty×Val))(x:It):Prop:=∃d,x.QA=[d]/\(x.of,d)∈S/\Xn m d.size x.of d=true/\Wd d=true
open Classical in
noncomputable def QcO (m:Md) (S:List (Ty×Val)) (t:Ty):Bool:=decide (t.kind=8-> ∀x∈t.items,x.QA≠ []->Qyt m S x)
theorem Qae {m:Md}{S:List (Ty×Val)}{t:Ty}:QcO m S t=true↔(t.kind=8-> ∀x∈t.items,x.QA≠ []->Qyt m S x):=by unfold QcO; simp
theorem QuJ {ps:List ByteArray}{t:Ty}(h:Qbb ps t=true):t.par ps=none:=by
 unfold Ty.par;split
 ·rename_i hk;rw[List.findIdx?_eq_none_iff]
  intro p hp;unfold Qbb at h;simp only[Bool.not_eq_true',Bool.and_eq_false_iff,decide_eq_false_iff_not]at h;rcases h with h | h
  ·exact absurd hk.1 h
  ·unfold inS at h;rw[List.any_eq_false]at h;have:=h p hp;unfold eqS at this ⊢;simpa[eq_comm]using this
 ·rfl
theorem Qhz (ps:List ByteArray)(args:List Ty): ∀(n:Nat) (t:Ty),t.size<=n->t.Qz Qk=true->t.Qz (Qbb ps)=true->t.put ps args=t
 | 0,t,h,_,_=>by have:=t.size_pos; omega
 | n+1,t,h,hr,hn=>by
  rw[Ty.put_eq,QuJ (QO hn)];dsimp only
  have h1:(t.items.map fun x=>x.QR (x.of.put ps args))=t.items:=by
   conv=>rhs; rw[←List.map_id t.items]
   refine List.map_congr_left fun x hx=>?_
   have hx1:x.of.put ps args=x.of:=by
    by_cases hc:t.comp=true
    ·have hin:x.of∈t.inner:=by unfold Ty.inner; rw[hc]; exact List.mem_append_right _ (List.mem_map_of_mem hx)
     exact Qhz ps args n x.of (by have:=Ty.mem_of hx; omega) (Qs hr hin) (Qs hn hin)
    ·rcases Yj (QO hr) hc with h2 | h2
     ·rw[h2]at hx; cases hx
     ·have h3:=List.all_eq_true.1 h2 x hx;unfold JQ at h3;simp only[Bool.and_eq_true]at h3;exact QoC ps args h3.1
   rw[hx1]; exact Wm x
  have h2:(t.kids.map fun x=>x.put ps args)=t.kids:=by
   conv=>rhs; rw[←List.map_id t.kids]
   refine List.map_congr_left fun x hx=>?_
   have hin:x∈t.inner:=List.mem_append_left _ hx;exact Qhz ps args n x (by have:=Ty.Xa hx; omega) (Qs hr hin) (Qs hn hin)
  rw[h1,h2];exact t.eta
theorem Qjn (m:Md)(S:List (Ty×Val)):Ty.zero.Qz (QcO m S)=true:=by
 rw[Ty.JL];simp[Ty.zero,Ty.inner,Ty.comp,Qae]
theorem QdZ (m:Md)(S:List (Ty×Val))(ps:List ByteArray)(args:List Ty)(ha: ∀a∈args,a.Qz (QcO m S)=true): ∀(n:Nat) (t:Ty),t.size<=n->t.Qz Qk=true->t.Qz (Xg m ps)=true->(∀q∈t.prs,q∈S)->(t.put ps args).Qz (QcO m S)=true
 | 0,t,h,_,_,_=>by have:=t.size_pos; omega
 | n+1,t,h,hr,hs,hq=>by
  rw[Ty.put_eq];cases hp:t.par ps with
  | some i=>
   dsimp only;cases hi:args[i]? with
   | none=>exact Qjn m S
   | some a=>exact ha a (List.mem_of_getElem? hi)
  | none=>
   dsimp only;rw[Ty.Qpr]at hq;have hsub: ∀y∈t.inner,∀q∈y.prs,q∈S:=fun y hy q hqy=>hq q (List.mem_append_right _ (List.mem_flatMap.2 ⟨y,hy,hqy⟩))
   rw[Ty.JL,Bool.and_eq_true];refine⟨?_,?_⟩
   ·rw[Qae];intro hk x hx hd;simp only[Ty.QaI]at hk;simp only[Ty.Xl]at hx;obtain⟨y,hy,rfl⟩:=List.mem_map.1 hx;have hd':y.QA≠ []:=hd;have hset:=QO hs;unfold Xg at hset;rw[hk]at hset;simp only[decide_true,Bool.not_true,Bool.false_or]at hset;have hy1:=List.all_eq_true.1 hset y hy;unfold JJ at hy1
    have hin:y.of∈t.inner:=by
     unfold Ty.inner;have hc:t.comp=true:=by unfold Ty.comp; rw[hk]; rfl
     rw[hc]; exact List.mem_append_right _ (List.mem_map_of_mem hy)
    split at hy1
    ·rename_i e; exact absurd e hd'
    ·rename_i d hdd;simp only[Bool.and_eq_true,Bool.not_eq_true']at hy1;obtain⟨_,hnm,hft,hfr⟩:=hy1;unfold QaG at hnm;simp only[Bool.not_eq_false']at hnm;have hput:y.of.put ps args=y.of:=Qhz ps args _ y.of (Nat.le_refl _) (Qs hr hin) hnm;rw[hput,Wm];exact⟨d,hdd,hq _ (List.mem_append_left _ (List.mem_flatMap.2 ⟨y,hy,by rw[hdd]; simp⟩)),hft,hfr⟩
    ·cases hy1
   ·rw[List.all_eq_true];intro x hx;unfold Ty.inner at hx;rcases List.mem_append.1 hx with hx | hx
    ·obtain⟨y,hy,rfl⟩:=List.mem_map.1 (by simpa using hx:x∈t.kids.map fun x=>x.put ps args)
     have hin:y∈t.inner:=List.mem_append_left _ hy;exact QdZ m S ps args ha n y (by have:=Ty.Xa hy; omega) (Qs hr hin) (Qs hs hin) (hsub y hin)
    ·split at hx
     ·rename_i hc;obtain⟨i,hi,rfl⟩:=List.mem_map.1 hx;obtain⟨j,hj,rfl⟩:=List.mem_map.1 (by simpa using hi:i∈t.items.map fun x=>x.QR (x.of.put ps args))
      have hc':t.comp=true:=hc;have hin:j.of∈t.inner:=by unfold Ty.inner; rw[hc']; exact List.mem_append_right _ (List.mem_map_of_mem hj)
      exact QdZ m S ps args ha n j.of (by have:=Ty.mem_of hj; omega) (Qs hr hin) (Qs hs hin) (hsub j.of hin)
     ·cases hx
theorem Qra {m:Md}{S:List (Ty×Val)}{t:Ty}(hr:t.Qz Qk=true)(hs:t.Qz (Xg m [])=true)(hq: ∀q∈t.prs,q∈S):t.Qz (QcO m S)=true:=by
 have:=QdZ m S [] [] (fun _ h=>by cases h) _ t (Nat.le_refl _) hr hs hq
 rwa[QdY [] _ t (Nat.le_refl _)]at this
structure Md.Zz (m:Md) (S:List (Ty×Val)):Prop where
 ok:m.ok
 lim:m.lim
 fm:m.fm
 set: ∀d∈m.defs,d.of.Qz (Xg m d.params)=true
 src: ∀d∈m.defs,∀q∈d.of.prs,q∈S
structure Ty.Zz (m:Md) (S:List (Ty×Val)) (t:Ty):Prop where
 wid:t.wid<=67108864
 nodes:t.nodes<=600
 right:t.Qz Qk=true
 good:t.Qz (QcO m S)=true
theorem QrD {m:Md}{S:List (Ty×Val)}(M:m.Zz S){t u:Ty}(ht:t.Qz (QcO m S)=true)(h:Ja m t=some u):u.Qz (QcO m S)=true:=by
 unfold Ja at h;split at h
 ·cases h
 ·rename_i d hd;have hdm:=List.mem_of_find?_eq_some hd
  split at h
  ·cases h
  ·split at h
   ·rename_i hps;cases h;have hs:=M.set d hdm;rw[hps]at hs;exact Qra (M.fm d hdm) hs (M.src d hdm)
   ·split at h
    ·cases h;exact QdZ m S _ _ (fun a ha=>Qs ht (List.mem_append_left _ ha)) _ _ (Nat.le_refl _) (M.fm d hdm) (M.set d hdm) (M.src d hdm)
    ·cases h
theorem Ty.Zz.beh{m:Md}{S:List (Ty×Val)}(M:m.Zz S){t b:Ty}(T:t.Zz m S)(h:beh m 21 t=some b):b.Zz m S/\b.kind≠10:=by
 obtain⟨h1,h2,h3⟩:=Qes m M.ok M.fm T.wid T.right h;have h4:=Qer m (fun t=>t.Qz (QcO m S)=true) (fun t u ht hs=>QrD M ht hs) 21 t b T.good h
 exact⟨⟨h1,QkL m M.lim T.nodes h,h2,h4.1⟩,h3⟩
theorem Xx {t x:Ty}(h:x∈t.inner):x.nodes<t.nodes:=by
 rw[Ty.QC t]
 have: ∀(l:List Ty),x∈l->x.nodes<=(l.map Ty.nodes).sum:=by
  intro l
  induction l with
  | nil=>intro h; cases h
  | cons y r ih=>
   intro h;simp only[List.map_cons,List.sum_cons];rcases List.mem_cons.1 h with rfl | h
   ·omega
   ·have:=ih h; omega
 have:=this _ h;omega
theorem Ty.Zz.inner{m:Md}{S:List (Ty×Val)}{t x:Ty}(T:t.Zz m S)(h:x∈t.inner):x.Zz m S:=
 ⟨Nat.le_trans (Ty.ZU h) T.wid,by have:=Xx h; have:=T.nodes; omega,Qs T.right h,Qs T.good h⟩
theorem QeB (m:Md)(S:List (Ty×Val)):Ty.zero.Zz m S:=⟨by simp[Ty.zero,Ty.Xp,It.XV,Ty.XV]; exact Nat.zero_le _,by rw[Ty.QC]; simp[Ty.zero,Ty.inner,Ty.comp],QgP,Qjn m S⟩
theorem QsP {m:Md}{S:List (Ty×Val)}(M:m.Zz S){t:Ty}(T:t.Zz m S):((beh m 21 t).getD Ty.zero).Zz m S:=by
 cases h:Proofs.YtflbneepngjglaaGreatDoor.beh m 21 t with
 | none=>exact QeB m S
 | some b=>exact(T.beh M h).1
def mapIO (f:Nat->Val->Option Val):Nat->List Val->Option (List Val)
 | _,[]=>some []
 | i,x::r=>match f i x,mapIO f (i+1) r with
  | some y,some l=>some (y::l)
  | _,_=>none
theorem XB {f:Nat->Val->Option Val}: ∀{l r:List Val} {i:Nat},mapIO f i l=some r->r.length=l.length/\ ∀(j:Nat) x,l[j]? =some x-> ∃y,r[j]? =some y/\f (i+j) x=some y
 | [],r,i,h=>by simp[mapIO]at h; subst h; simp
 | a::l,r,i,h=>by
  unfold mapIO at h;split at h
  ·rename_i y l' h1 h2;injection h with h; subst h;obtain⟨h3,h4⟩:=XB h2;refine⟨by simp[h3],fun j x hj=>?_⟩
   cases j with
   | zero=>simp at hj; subst hj; exact⟨y,rfl,h1⟩
   | succ j=>
    obtain⟨z,h5,h6⟩:=h4 j x (by simpa using hj)
    exact⟨z,by simpa using h5,by rw[show i+(j+1)=i+1+j by omega]; exact h6⟩
  ·cases h
theorem Qdf {f:Nat->Val->Option Val}: ∀{l:List Val} {i:Nat},(∀(j:Nat) x,l[j]? =some x-> ∃y,f (i+j) x=some y)-> ∃r,mapIO f i l=some r
 | [],i,_=>⟨[],rfl⟩
 | a::l,i,h=>by
  obtain⟨y,hy⟩:=h 0 a rfl
  obtain⟨r,hr⟩:=Qdf (f:=f) (l:=l) (i:=i+1) fun j x hj=>by
   obtain⟨z,hz⟩:=h (j+1) x (by simpa using hj)
   exact⟨z,by rw[show i+1+j=i+(j+1)by omega]; exact hz⟩
  simp only[Nat.add_zero]at hy;exact⟨y::r,by simp only[mapIO,hy,hr]⟩
def QW (b:Ty)(v:Val)(i:Nat)(x:Val):Option Ty:=
 if b.kind=7 then some (b.kids.headD Ty.zero)
 else if b.kind=9 then some ((b.items[v.int.toNat]?.map It.of).getD Ty.zero)
 else if b.kind=8/\x.kind≠12 then some ((b.items[i]?.map It.of).getD Ty.zero)
 else none
def JA (b:Ty)(v:Val)(f:Ty->Val->Option Val)(i:Nat)(x:Val):Option Val:=match QW b v i x with
 | some t=>f t x
 | none=>some x
def Qbc (s:It->Option Val)(i:It)(x:Val):Option Val:=
 if i.QA≠ []/\x.kind≠12 then(match s i with | some d=>some (if x.same d=true then QaY else x) | none=>none)else some x
def It.d0(x:It):Val:=x.QA.headD QaY
def WZ (u:List (Ty×Val))(t:Ty)(d:Val):Bool:=u.any fun q=>t.same q.1&&d.same q.2
def QeF (f:List (Ty×Val)->Ty->Val->Option Val)(u:List (Ty×Val))(x:It):Option Val:=if WZ u x.of x.d0=true then some x.d0 else f (u++ [(x.of,x.d0)]) x.of x.d0
def Xd (m:Md):Nat->List (Ty×Val)->Ty->Val->Option Val
 | 0,_,_,_=>none
 | n+1,u,t,v=>match mapIO (JA ((beh m 21 t).getD Ty.zero) v (Xd m n u)) 0 v.items with
  | none=>none
  | some l=>if((beh m 21 t).getD Ty.zero).kind=8 then
      (match mapIO (fun i x=>Qbc (QeF (Xd m n) u) (((beh m 21 t).getD Ty.zero).items[i]?.getD It.zero) x) 0 l with
      | some r=>some (.mk v.kind v.int v.bytes r)
      | none=>none)
   else some (.mk v.kind v.int v.bytes l)
theorem Qnc {m:Md}: ∀{n:Nat} {u:List (Ty×Val)} {t:Ty} {v r:Val},Xd m n u t v=some r->r.kind=v.kind
 | 0,_,_,_,_,h=>by cases h
 | n+1,u,t,v,r,h=>by
  unfold Xd at h;split at h
  ·cases h
  ·split at h
   ·split at h
    ·cases h; rfl
    ·cases h
   ·cases h; rfl
theorem Qhg : ∀{l r:List Val},r.length=l.length->(∀(j:Nat) x y,l[j]? =some x->r[j]? =some y->y.size<=x.size)->Val.QM r<=Val.QM l
 | [],[],_,_=>Nat.le_refl _
 | [],_::_,h,_=>by simp at h
 | _::_,[],h,_=>by simp at h
 | x::l,y::r,h,hs=>by
  have h1:=hs 0 x y rfl rfl;have h2:=Qhg (l:=l) (r:=r) (by simpa using h) fun j a b ha hb=>hs (j+1) a b (by simpa using ha) (by simpa using hb)
  simp only[Val.QM]; omega
theorem Qtt (x:Val):QaY.size<=x.size:=by
 have:=x.size_pos;have h:QaY.size=1:=by rw[Val.size_eq]; rfl
 omega
theorem Jw {m:Md}: ∀{n:Nat} {u:List (Ty×Val)} {t:Ty} {v r:Val},Xd m n u t v=some r->r.size<=v.size
 | 0,_,_,_,_,h=>by cases h
 | n+1,u,t,v,r,h=>by
  unfold Xd at h;split at h
  ·cases h
  ·rename_i l hl;obtain⟨h1,h2⟩:=XB hl
   have hle:Val.QM l<=Val.QM v.items:=Qhg h1 fun j x y hx hy=>by
    obtain⟨z,h3,h4⟩:=h2 j x hx;rw[hy]at h3; injection h3 with h3; subst h3;unfold JA at h4;split at h4
    ·exact Jw h4
    ·injection h4 with h4; subst h4; exact Nat.le_refl _
   split at h
   ·split at h
    ·rename_i q hq;cases h;obtain⟨h3,h4⟩:=XB hq
     have hle2:Val.QM q<=Val.QM l:=Qhg h3 fun j x y hx hy=>by
      obtain⟨z,h5,h6⟩:=h4 j x hx;rw[hy]at h5; injection h5 with h5; subst h5;unfold Qbc at h6;split at h6
      ·split at h6
       ·injection h6 with h6; subst h6;split
        ·exact Qtt x
        ·exact Nat.le_refl _
       ·cases h6
      ·injection h6 with h6; subst h6; exact Nat.le_refl _
     rw[Val.size_eq,Val.size_eq v];simp only[Val.Xl,Val.Qou]; omega
    ·cases h
   ·cases h;rw[Val.size_eq,Val.size_eq v];simp only[Val.Xl,Val.Qou]; omega
def rest (S u:List (Ty×Val)):Nat:=(S.filter fun q=>!WZ u q.1 q.2).length
theorem filter_lt {α:Type}{p q:α->Bool}(hpq: ∀x,q x=true->p x=true): ∀{l:List α} {x:α},x∈l->p x=true->q x=false->(l.filter q).length<(l.filter p).length
 | y::l,x,hx,h1,h2=>by
  have hle: ∀l:List α,(l.filter q).length<=(l.filter p).length:=by
   intro l
   induction l with
   | nil=>exact Nat.le_refl _
   | cons z l ih=>
    simp only[List.filter_cons];cases hq:q z
    ·simp only[Bool.false_eq_true,if_false];split
     ·simp only[List.length_cons]; omega
     ·exact ih
    ·rw[hpq z hq]; simp only[if_true,List.length_cons]; omega
  rcases List.mem_cons.1 hx with rfl | hx
  ·have:=hle l;simp only[List.filter_cons,h1,h2,Bool.false_eq_true,if_false,if_true,List.length_cons]; omega
  ·have ih:=filter_lt hpq hx h1 h2;simp only[List.filter_cons];cases hq:q y
   ·simp only[Bool.false_eq_true,if_false];split
    ·simp only[List.length_cons]; omega
    ·exact ih
   ·rw[hpq y hq]; simp only[if_true,List.length_cons]; omega
theorem QjV {u:List (Ty×Val)}{p:Ty×Val}{t:Ty}{d:Val}:WZ (u++ [p]) t d=(WZ u t d||(t.same p.1&&d.same p.2)):=by
 unfold WZ; simp
theorem Qlp {S u:List (Ty×Val)}{t:Ty}{d:Val}(h:(t,d)∈S)(hm:WZ u t d=false):rest S (u++ [(t,d)])<rest S u:=by
 unfold rest
 refine filter_lt (fun q hq=>?_) h (by simp[hm]) (by
  have h1:t.same t=true:=(Ty.Jh t t).2 rfl;have h2:d.same d=true:=(Val.Jh d d).2 rfl;simp[QjV,h1,h2])
 simp only[QjV,Bool.not_eq_true',Bool.or_eq_false_iff]at hq ⊢;exact hq.1
theorem YY {m:Md}{S:List (Ty×Val)}{b t:Ty}(B:b.Zz m S){v x:Val}{i:Nat}(h:QW b v i x=some t):t.Zz m S:=by
 have item: ∀k:Nat,b.comp=true->((b.items[k]?.map It.of).getD Ty.zero).Zz m S:=fun k hc=>by
  cases hk:b.items[k]? with
  | none=>exact QeB m S
  | some y=>exact B.inner (by unfold Ty.inner; rw[hc]; exact List.mem_append_right _ (List.mem_map_of_mem (List.mem_of_getElem? hk)))
 unfold QW at h;split at h
 ·injection h with h; subst h;cases hk:b.kids with
  | nil=>exact QeB m S
  | cons a l=>exact B.inner (by unfold Ty.inner; rw[hk]; simp)
 ·split at h
  ·rename_i h9;injection h with h; subst h;exact item _ (by unfold Ty.comp; rw[h9]; rfl)
  ·split at h
   ·rename_i h8;injection h with h; subst h;exact item _ (by unfold Ty.comp; rw[h8.1]; rfl)
   ·cases h
theorem Qbv {m:Md}{S:List (Ty×Val)}(M:m.Zz S){K:Nat}(hK: ∀q∈S,q.2.size<=K): ∀(n:Nat) (u:List (Ty×Val)) (t:Ty) (v:Val),t.Zz m S->rest S u*(K+2)+v.size<=n-> ∃r,Xd m n u t v=some r
 | 0,_,_,v,_,h=>by have:=v.size_pos; omega
 | n+1,u,t,v,T,h=>by
  have B:=QsP M T;unfold Xd
  obtain⟨l,hl⟩:=Qdf (f:=JA ((beh m 21 t).getD Ty.zero) v (Xd m n u)) (l:=v.items) (i:=0) fun j x hj=>by
   unfold JA;split
   ·rename_i t' ht';exact Qbv M hK n u t' x (YY B ht') (by have:=Val.Qu (List.mem_of_getElem? hj); omega)
   ·exact⟨x,rfl⟩
  rw[hl];dsimp only;split
  ·rename_i h8
   obtain⟨r,hr⟩:=Qdf (f:=fun i x=>Qbc (QeF (Xd m n) u) (((beh m 21 t).getD Ty.zero).items[i]?.getD It.zero) x) (l:=l) (i:=0) fun j x hj=>by
    unfold Qbc;split
    ·rename_i hd
     have hset: ∃d,QeF (Xd m n) u (((beh m 21 t).getD Ty.zero).items[0+j]?.getD It.zero)=some d:=by
      unfold QeF;split
      ·exact⟨_,rfl⟩
      ·rename_i hm;cases hi:((beh m 21 t).getD Ty.zero).items[0+j]? with
       | none=>rw[hi]at hd; exact absurd rfl hd.1
       | some y=>
        rw[hi]at hd hm;simp only[Option.getD_some]at hd hm ⊢;have hym:=List.mem_of_getElem? hi;obtain⟨d,h1,h2,_,_⟩:=Qae.1 (QO B.good) h8 y hym hd.1;have hd0:y.d0=d:=by unfold It.d0; rw[h1]; rfl
        rw[hd0]at hm ⊢;have hlt:=Qlp (u:=u) h2 (by simpa using hm)
        refine Qbv M hK n _ _ _ (B.inner (by unfold Ty.inner Ty.comp; rw[h8]; exact List.mem_append_right _ (List.mem_map_of_mem hym))) ?_
        have:=hK _ h2;dsimp only at this;have h5:(rest S (u++ [(y.of,d)])+1)*(K+2)<=rest S u*(K+2):=Nat.mul_le_mul_right _ hlt;rw[Nat.succ_mul]at h5;omega
     obtain⟨d,hset⟩:=hset;rw[hset];exact⟨_,rfl⟩
    ·exact⟨x,rfl⟩
   rw[hr];exact⟨_,rfl⟩
  ·exact⟨_,rfl⟩
end Go.Proofs.YtflbneepngjglaaGreatDoor
namespace Go.Proofs.YtflbneepngjglaaGreatDoor
open Go Go.Avm
theorem Qks (l:List Val)(hl:l.length<=67108864)(ws:Nat)(h:Avm.H):Qb cfg ws 71 [.isl (l.map Val.enc)] h=some (.osl h.length 0 4 0 l.length,h++ [.arr 0 4 (l.map Val.enc)]):=by
 refine QN rfl ?_
 have hl2:l.length<=lim:=by unfold lim; omega
 simp[Jr,Zv,hl2]
theorem QdO {α:Type}{l:List α}{i:Nat}{x:α}(h:l[i]? =some x):l.set i x=l:=by
 apply List.ext_getElem?
 intro j;by_cases e:i=j
 ·subst e;rw[List.getElem?_set_self (List.getElem?_eq_some_iff.1 h).1,h]
 ·rw[List.getElem?_set_ne e]
end Go.Proofs.YtflbneepngjglaaGreatDoor
namespace Go.Proofs.YtflbneepngjglaaGreatDoor
open Go Go.Avm
theorem Qgx {α β:Type}(enc:α->β)(l r:List α)(hl:l.length=r.length)(i:Nat)(hi:i<r.length):((l.take i++r.drop i).map enc)[i]? =some (enc r[i]):=by
 have h1:(l.take i).length=i:=by simp; omega
 rw[List.getElem?_map,List.getElem?_append_right (by omega),h1,Nat.sub_self,List.getElem?_drop,Nat.add_zero,List.getElem?_eq_getElem hi]
 rfl
theorem Qgv {α β:Type}(enc:α->β)(l r:List α)(hl:l.length=r.length)(i:Nat)(hi:i<r.length)(y:α)(hy:l[i]? =some y):((l.take i++r.drop i).map enc).set i (enc y)=(l.take (i+1)++r.drop (i+1)).map enc:=by
 have h1:(l.take i).length=i:=by simp; omega
 have h2:l.take (i+1)=l.take i++ [y]:=by
  have hil:i<l.length:=by omega
  rw[List.take_succ_eq_append_getElem hil];rw[List.getElem?_eq_getElem hil]at hy
  injection hy with hy; rw[hy]
 rw[h2,List.drop_eq_getElem_cons hi,List.map_append,List.set_append_right _ _ (by simp; omega),List.length_map,h1,Nat.sub_self,List.map_cons,List.set_cons_zero]
 simp
theorem Qgw {α:Type}(l r:List α)(hl:l.length=r.length)(i:Nat)(hi:i<=r.length):(l.take i++r.drop i).length=r.length:=by simp; omega
structure QmC (b:Ty) (v:Val):Prop where
 list:b.kind=7->b.kids≠ []
 choice:b.kind=9->0<=v.int/\v.int.toNat<b.items.length
 record:b.kind=8->v.items.length=b.items.length
set_option maxHeartbeats 3000000 in
theorem QxA (m:Md)(hm:m.ok)(t:Ty)(ht:t.wid<=67108864)(b:Ty)(hb:beh m 21 t=some b)(v:Val)(hv:v.size<=67108864)(hin:QmC b v)(F:Ty->Val->Option Val)(l:List Val)(hl:mapIO (JA b v F) 0 v.items=some l)(P:AV)(h:Avm.H)
    (hP: ∀(i:Nat) x t' y,v.items[i]? =some x->QW b v i x=some t'->F t' x=some y-> ∀ws g,Qb cfg ws 40 [P,t'.enc,x.enc] (h++g)=some (y.enc,h++g)) (ws:Nat):
    Qb cfg ws 72 [m.enc,t.enc,v.enc,.QI 40 1 [P]] h=some (.agg [.int .i64 v.kind,.int .i64 v.int,.str v.bytes,.osl h.length 0 4 0 v.items.length],h++ [.arr 0 4 (l.map Val.enc)]):=by
 have hse:=v.size_eq;have hlen:=Val.Xr v.items;have hcl:=Qks v.items (by omega)
 have hbh:=fun ws h=>Zy m hm t ht ws h
 have hpol:cfg.pol 40=some (.pur false):=rfl;obtain⟨hll,hget⟩:=XB hl;refine Qc rfl rfl ?_
 have hlp:=Qg (γ:=Avm.H) (f:=evC (Qb cfg) Qa cfg.pol h.length h.length Qgh) (keep:=[3,5,6,8,22,23,24]) v.items (fun _ _=>True)
  (fun i _=>[(3,.QI 40 1 [P]),(5,.ptr (h.length+1) 0 8 0 0),(6,.ptr (h.length+2) 0 4 0 0),(8,.ptr (h.length+3) 0 4 0 0),(22,.osl (h.length+4) 0 4 0 v.items.length),(23,.int .i64 v.items.length),(24,.int .i64 i)])
  (fun i g=>h++([.arr 0 2 [m.enc],.arr 0 8 [b.enc],.arr 0 4 [.agg [.int .i64 v.kind,.int .i64 v.int,.str v.bytes,.osl (h.length+4) 0 4 0 v.items.length]],.arr 0 4 [.agg [.int .i64 0,.int .i64 0,.str ⟨#[]⟩,.isl []]],.arr 0 4 ((l.take i++v.items.drop i).map Val.enc)]++g))
  (fun _ _ o=>∃g,o=(.exit 0,[(3,.QI 40 1 [P]),(5,.ptr (h.length+1) 0 8 0 0),(6,.ptr (h.length+2) 0 4 0 0),(8,.ptr (h.length+3) 0 4 0 0),(22,.osl (h.length+4) 0 4 0 v.items.length),(23,.int .i64 v.items.length),(24,.int .i64 v.items.length)],
   h++([.arr 0 2 [m.enc],.arr 0 8 [b.enc],.arr 0 4 [.agg [.int .i64 v.kind,.int .i64 v.int,.str v.bytes,.osl (h.length+4) 0 4 0 v.items.length]],.arr 0 4 [.agg [.int .i64 0,.int .i64 0,.str ⟨#[]⟩,.isl []]],.arr 0 4 (l.map Val.enc)]++g))) ?_ ?_ [] trivial
 ·obtain⟨o,h1,g,rfl⟩:=hlp;simp[hb]at hbh h1 hcl;simp[Md.enc]at hbh h1;simp[F72,c72,Md.enc,hbh,hcl,h1,hll]
 ·intro i x r g hd hi hx _ K hK;have hw:=Qd (n:=i+1) (by omega)
  simp at hw;have hmx:x∈v.items:=by rw[←hx]; exact List.getElem_mem hi
  obtain⟨y,hy,hfy⟩:=hget i x (by rw[List.getElem?_eq_getElem hi,hx])
  rw[Nat.zero_add]at hfy;have hg:=Qgx Val.enc l v.items hll i hi;have hs:=Qgv Val.enc l v.items hll i hi y hy;have hml:=Qgw l v.items hll i (Nat.le_of_lt hi);rw[hx]at hg;obtain⟨o,h4,h5⟩:=hK (g++ [.arr 0 4 [x.enc]]) trivial;refine⟨o,?_,h5⟩
  rw[←hs]at h4;have hel:((l.take i++v.items.drop i).map Val.enc).length=v.items.length:=by rw[List.length_map,hml]
  generalize ((l.take i++v.items.drop i).map Val.enc)=els at hg h4 hel ⊢;unfold JA at hfy;cases hpo:QW b v i x with
  | none=>
   rw[hpo]at hfy;injection hfy with hfy;subst hfy;have hset:els.set i x.enc=els:=QdO hg;rw[hset]at h4;unfold QW at hpo;split at hpo
   ·cases hpo
   ·rename_i q7;split at hpo
    ·cases hpo
    ·rename_i q9;split at hpo
     ·cases hpo
     ·rename_i q8;simp at hg h4;simp only[Md.enc]at h4;by_cases q8k:b.kind=8
      ·have q12:x.kind=12:=by simpa[q8k]using q8
       obtain⟨hilx,hgi⟩:=List.getElem?_eq_some_iff.1 hg
       simp only[q8k,q12]at h4;simp[Qgh,Md.enc,hi,hgi,hel,q7,q9,q8k,q12,hw,h4]
      ·obtain⟨hilx,hgi⟩:=List.getElem?_eq_some_iff.1 hg
       simp[Qgh,Md.enc,hi,hgi,hel,q7,q9,q8k,hw,h4]
  | some t'=>
   rw[hpo]at hfy;have hcall:=fun ws g=>hP i x t' y (by rw[List.getElem?_eq_getElem hi,hx]) hpo hfy ws g
   unfold QW at hpo;split at hpo
   ·rename_i q7;injection hpo with hpo
    obtain⟨k0,kr,hkids⟩: ∃k0 kr,b.kids=k0::kr:=by
     cases hk:b.kids with
     | nil=>exact absurd hk (hin.list q7)
     | cons a r=>exact⟨a,r,rfl⟩
    rw[hkids]at hpo;simp only[List.headD_cons]at hpo;subst hpo;simp at hcall hg h4;simp only[Md.enc]at h4;obtain⟨hilx,hgi⟩:=List.getElem?_eq_some_iff.1 hg
    simp[q7,hkids]at h4;simp[Qgh,Md.enc,hi,hgi,hel,q7,hpol,hkids,hcall,hw,h4]
   ·rename_i q7;split at hpo
    ·rename_i q9;injection hpo with hpo;obtain⟨hc1,hc2⟩:=hin.choice q9;rw[List.getElem?_eq_getElem hc2]at hpo
     simp only[Option.map_some,Option.getD_some]at hpo;subst hpo;simp at hcall hg h4;simp only[Md.enc]at h4;obtain⟨hilx,hgi⟩:=List.getElem?_eq_some_iff.1 hg
     simp[q9]at h4;simp[Qgh,Md.enc,hi,hgi,hel,q9,hpol,hc1,hc2,hcall,hw,h4]
    ·rename_i q9;split at hpo
     ·rename_i q8;injection hpo with hpo;have hib:i<b.items.length:=by rw[←hin.record q8.1]; exact hi
      rw[List.getElem?_eq_getElem hib]at hpo
      simp only[Option.map_some,Option.getD_some]at hpo;subst hpo;simp at hcall hg h4;simp only[Md.enc]at h4;obtain⟨hilx,hgi⟩:=List.getElem?_eq_some_iff.1 hg
      simp[q8.1]at h4;simp[Qgh,Md.enc,hi,hgi,hel,q8.1,q8.2,hpol,hib,hcall,hw,h4]
     ·cases hpo
 ·intro g K _;refine⟨_,?_,g,rfl⟩
  have he:l.take v.items.length++v.items.drop v.items.length=l:=by rw[List.take_of_length_le (by omega),List.drop_eq_nil_of_le (Nat.le_refl _),List.append_nil]
  rw[he];simp[Qgh,Md.enc]
end Go.Proofs.YtflbneepngjglaaGreatDoor
