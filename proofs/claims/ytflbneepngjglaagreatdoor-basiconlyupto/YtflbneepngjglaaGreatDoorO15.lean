/- Code with its branches and loops. -/
import Derived.Test.YtflbneepngjglaaGreatDoorO14
import Derived.Tactics
import Derived.LoopN
set_option linter.all false
namespace Go.Avm
open Go.RowKit
def QaZ (P:Program)(f:FuncId)(vs:Array Value)(w:World)(K:Value->World->Prop):Prop:=
 ((callFunc f vs).run P w= .ok (.enter f vs) w/\Calls P f vs w (fun e w'=>∃v,e= .returned v/\K v w'))\/
 (∃v w',(callFunc f vs).run P w= .ok (.value v) w'/\K v w')
theorem QaZ.mono{P:Program}{f:FuncId}{vs:Array Value}{w:World}{K K':Value->World->Prop}(h:QaZ P f vs w K)(hk: ∀v w',K v w'->K' v w'):QaZ P f vs w K':=by
 rcases h with⟨h1,h2⟩ | ⟨v,w',h1,h2⟩
 ·exact .inl ⟨h1,h2.mono fun e w' ⟨v,h3,h4⟩=>⟨v,h3,hk _ _ h4⟩⟩
 ·exact .inr ⟨v,w',h1,hk _ _ h2⟩
def QiP (w0:World)(wr:Nat)(β:Beta)(h:H)(w:World)(r:AV)(h':H):Value->World->Prop:=fun v w'=>
 ∃β',Sim w0 wr β' h' w'/\Ext wr β h w β' h' w'/\Rel (view wr β' h' w') β' r v
def WK (P:Program)(w0:World)(call:Xt):Prop:=
 ∀(ws:Nat) (f:FuncId) (args:List AV) (h:H) (r:AV) (h':H) (wr:Nat) (β:Beta) (w:World) (vs:Array Value),call ws f args h=some (r,h')->wr<=ws->ws<=h.length->
  Sim w0 wr β h w->Qr (view wr β h w) β args vs.toList->QaZ P f vs w (QiP w0 wr β h w r h')
section
variable {P : Program} {w0 : World} {wr base ws : Nat} {β : Beta} {h h' : H} {w : World} {e : Env} {a : Act} {u : AV} {o : Oper} {call : Xt} {fpol : FuncId -> Option Pol} {Q : Exit -> Act -> World -> Prop}
theorem QrU {V:View}{β:Beta}{xs:List AV}{cs:List Value}(h:Qr V β xs cs)(k:Nat):Qr V β (xs.take k) (cs.take k):=by
 obtain⟨h1,h2⟩:=Qp.1 h;refine Qp.2 ⟨by simp[h1],fun j x hj=>?_⟩
 rw[List.getElem?_take]at hj ⊢
 split at hj
 ·rename_i hjn;rw[if_pos hjn];exact h2 _ x hj
 ·cases hj
theorem Qpm {V:View}{β:Beta}{xs:List AV}{cs:List Value}(h:Qr V β xs cs)(k:Nat):Qr V β (xs.drop k) (cs.drop k):=by
 obtain⟨h1,h2⟩:=Qp.1 h;refine Qp.2 ⟨by simp[h1],fun j x hj=>?_⟩
 rw[List.getElem?_drop]at hj ⊢
 exact h2 _ x hj
theorem QdK {f:FuncId}{vs:Array Value}{K:Value->World->Prop}{next:Act->World->Prop}(hi:QaZ P f vs w K)(hk: ∀v w',K v w'->next (a.put o.dst v) w')
    (he:(execOp a.eval o).run P w=(callFunc f vs).run P w):o.wp P a w next Q:=by
 unfold Oper.wp;rw[he];rcases hi with⟨h1,h2⟩ | ⟨v,w',h1,h2⟩
 ·rw[h1];simp only[Oper.upon];refine h2.mono fun e w' ⟨v,h3,h4⟩=>?_
  subst h3;exact hk v w' h4
 ·rw[h1];exact hk v w' h2
theorem Wq {V:View}{β:Beta}: ∀{l r:List AV} {vs us:List Value},Qr V β l vs->Qr V β r us->Qr V β (l++r) (vs++us)
 | [],r,vs,us,h1,h2=>by unfold Qr at h1; subst h1; exact h2
 | x::l,r,vs,us,h1,h2=>by
  unfold Qr at h1;obtain⟨v,q,rfl,h3,h4⟩:=h1;simp only[List.cons_append];unfold Qr;exact⟨v,q++us,rfl,h3,Wq h4 h2⟩
theorem YZ {i:I}(hop:Zg P o.op o.type i=true)(hcall:WK P w0 call)(hE:Qo (view wr β h w) β e a.tmps)(S:Sim w0 wr β h w)(hws:wr<=ws)(hwb:wr<=base)(hbh:base<=h.length)(hwsl:ws<=h.length)
    (hev:XE call fpol base ws e h i=some (u,h')) {next:Act->World->Prop} (hn: ∀v w',QiP w0 wr β h w u h' v w'->next (a.put o.dst v) w'):o.wp P a w next Q:=by
 by_cases hc: ∃f args,i= .call f args
 ·obtain⟨f,args,rfl⟩:=hc;simp only[XE]at hev;split at hev
  ·rename_i l hl;simp only[Zg]at hop;split at hop
   ·rename_i c ho;split at hop
    ·rename_i g hg;obtain⟨h1,h2⟩:=QK hop;have h1:f=g:=by simpa using h1
     subst h1;have hr:=Qay hE h2 hl;rw[←Array.toList_map]at hr;refine QdK (hcall ws f l h u h' wr β w (c.args.map a.eval) hev hws hwsl S hr) hn ?_
     simp[execOp,ho,resolve,hg,Act.eval,Deferred.ofValue,invoke]
    ·cases hop
   ·cases hop
  ·cases hev
 ·by_cases hc2: ∃pu f args,i= .callv pu f args
  ·obtain⟨pu,f,args,rfl⟩:=hc2;simp only[XE]at hev;split at hev
   ·rename_i g k cap l hf hl
    have hev':call ws g (cap.take k++(l++cap.drop k)) h=some (u,h'):=by
     split at hev
     ·split at hev
      ·exact hev
      ·exact hev
      ·cases hev
     ·exact hev
    simp only[Zg]at hop;split at hop
    ·rename_i c ho;split at hop
     ·rename_i n hg;obtain⟨h1,h2⟩:=QK hop;have hr:=Qay hE h2 hl;have hrf:=Qf hE h1 hf;unfold Rel at hrf;obtain⟨cs,h3,h4⟩:=hrf;rw[←Array.toList_map]at hr;have h4a:=QrU h4 k;have h4b:=Qpm h4 k;have hr2:=Wq h4a (Wq hr h4b);have e1:(cs.extract 0 k++(c.args.map a.eval++cs.extract k cs.size)).toList=cs.toList.take k++((c.args.map a.eval).toList++cs.toList.drop k):=by simp[List.take_of_length_le]
      refine QdK (hcall ws g (cap.take k++(l++cap.drop k)) h u h' wr β w (cs.extract 0 k++(c.args.map a.eval++cs.extract k cs.size)) hev' hws hwsl S (by rw[e1]; exact hr2)) hn ?_
      simp[execOp,ho,resolve,hg,h3,Deferred.ofValue,invoke]
     ·cases hop
    ·cases hop
   ·cases hev
  ·have hev':evI base ws e h i=some (u,h'):=by
     cases i<;>first | exact hev | exact absurd ⟨_,_,rfl⟩ hc | exact absurd ⟨_,_,_,rfl⟩ hc2
   obtain⟨nx,v,w',β',h1,h2,h3,h4,h5⟩:=QsU hop hE S hws hwb hbh hev';unfold Oper.wp;rw[h1];rcases h2 with rfl | ⟨rfl,rfl⟩
   ·exact hn v w' ⟨β',h3,h4,h5⟩
   ·exact hn undef w' ⟨β',h3,h4,h5⟩
end
def QaK (ops:Array Oper)(g:Option (Nat×Bool)):Option (Nat×Bool)->Bool
 | none=>g.isNone
 | some (s,w)=>match g with
  | some (j,w')=>w == w'&&((ops[j]?).bind (·.dst)) == some s
  | none=>false
def QpI (n:Nat):Option Nat->Bool
 | none=>true
 | some d=>decide (d<n)
def QhH (P:Program)(n:Nat)(ops:Array Oper)(o:Oper)(f:Op1):Bool:=o.dst == f.d&&QpI n f.d&&QaK ops o.guard f.g&&Zg P o.op o.type f.i
def QbH (P:Program)(n:Nat)(ops:Array Oper):List Fl->List Oper->Bool
 | [],os=>os.isEmpty
 | .drop _::l,os=>QbH P n ops l os
 | .op f::l,os=>match os with
  | o::r=>QhH P n ops o f&&QbH P n ops l r
  | []=>false
structure Qat (w0:World) (wr:Nat) (β:Beta) (h:H) (w:World) (a:Act) (e':Env) (h':H) (a':Act) (w':World):Prop where
 ex: ∃β',Sim w0 wr β' h' w'/\Ext wr β h w β' h' w'/\Qo (view wr β' h' w') β' e' a'.tmps
 defers:a'.defers=a.defers
 size:a'.tmps.size=a.tmps.size
section
variable {P : Program} {w0 : World} {wr base ws : Nat} {h h' : H} {e : Env} {call : Xt} {fpol : FuncId -> Option Pol} {Q : Exit -> Act -> World -> Prop} {ops : Array Oper} {n : Nat}
theorem Qbu (a:Act)(d:Option Nat)(v:Value):(a.put d v).tmps.size=a.tmps.size:=by cases d<;>simp[Act.put]
theorem put_defers (a:Act)(d:Option Nat)(v:Value):(a.put d v).defers=a.defers:=by cases d<;>rfl
theorem Qo.drop{V:View}{β:Beta}{e:Env}{t:Array Value}(h:Qo V β e t)(l:List Nat):Qo V β (e.drop l) t:=fun n x hx=>by
 rw[Zu]at hx;split at hx
 ·cases hx
 ·exact h n x hx
theorem QeC {V:View}{β:Beta}{a:Act}{o:Oper}{s:Nat}{b w:Bool}(hg:QaK ops o.guard (some (s,w))=true)(hE:Qo V β e a.tmps)(hs:e.get s=some (.bool b)):Region.wanted o (yielded ops a.tmps)=(b == w):=by
 simp only[QaK]at hg;split at hg
 ·rename_i j w' hj;simp at hg;obtain⟨rfl,h1⟩:=hg;obtain⟨v,h2,h3⟩:=hE s _ hs;unfold Rel at h3;subst h3
  have:yielded ops a.tmps j=some b:=by
   unfold yielded;rw[show(ops[j]?).bind (·.dst)=some s from by simpa using h1]
   simp[h2]
  simp[Region.wanted,hj,this]
 ·cases hg
theorem Qjo {V:View}{β:Beta}{a:Act}{o:Oper}{s:Nat}{w:Bool}(hg:QaK ops o.guard (some (s,w))=true)(hE:Qo V β e a.tmps)(hs:e.get s=some (.tup [])):Region.wanted o (yielded ops a.tmps)=false:=by
 simp only[QaK]at hg;split at hg
 ·rename_i j w' hj;simp at hg;obtain⟨rfl,h1⟩:=hg;obtain⟨v,h2,h3⟩:=hE s _ hs;unfold Rel at h3;obtain⟨vs,rfl,h4⟩:=h3
  have:yielded ops a.tmps j=none:=by
   unfold yielded;rw[show(ops[j]?).bind (·.dst)=some s from by simpa using h1]
   simp[h2]
  simp[Region.wanted,hj,this]
 ·cases hg
theorem QjB {V:View}{β:Beta}:Rel V β (.tup []) undef:=by
 unfold Rel; exact⟨#[],rfl,by unfold Qr; rfl⟩
theorem QaN (hcall:WK P w0 call)(hws:wr<=ws)(hwb:wr<=base): ∀(l:List Fl) (os:List Oper) (e e1:Env) (h h1:H) (β:Beta) (a:Act) (w:World),QbH P n ops l os=true->n<=a.tmps.size->
    base<=h.length->ws<=h.length->Qo (view wr β h w) β e a.tmps->Sim w0 wr β h w->Xv call fpol base ws l e h=some (e1,h1)->(∀a' w',Qat w0 wr β h w a e1 h1 a' w'->Q .normal a' w')->wpList P ops Q os a w
 | [],os,e,e1,h,h1,β,a,w,hf,_,_,_,hE,S,hev,hq=>by
  simp[QbH]at hf; subst hf;simp[Xv]at hev;obtain⟨rfl,rfl⟩:=hev;exact hq a w ⟨⟨β,S,Ext.refl _ _ _ _,hE⟩,rfl,rfl⟩
 | .drop d::l,os,e,e1,h,h1,β,a,w,hf,hn,hb,hwl,hE,S,hev,hq=>by
  simp only[QbH]at hf;simp only[Xv]at hev;exact QaN hcall hws hwb l os (e.drop d) e1 h h1 β a w hf hn hb hwl (hE.drop d) S hev hq
 | .op f::l,os,e,e1,h,h1,β,a,w,hf,hn,hb,hwl,hE,S,hev,hq=>by
  cases os with
  | nil=>simp[QbH]at hf
  | cons o r=>
   simp only[QbH]at hf;obtain⟨hf1,hf2⟩:=QK hf;unfold QhH at hf1;obtain⟨hf1,hop⟩:=QK hf1;obtain⟨hf1,hg⟩:=QK hf1;obtain⟨hd,hin⟩:=QK hf1;have hd:o.dst=f.d:=by simpa using hd
   have hdn: ∀m,f.d=some m->m<a.tmps.size:=fun m hm=>by rw[hm]at hin; simp[QpI]at hin; omega
   have did: ∀u h2,XE call fpol base ws e h f.i=some (u,h2)->Xv call fpol base ws l (Jc e f.d u) h2=some (e1,h1)->o.wp P a w (wpList P ops Q r) Q:=fun u h2 h3 h4=>by
    refine YZ hop hcall hE S hws hwb hb hwl h3 fun v w' ⟨β',S',E',hr⟩=>?_
    refine QaN hcall hws hwb l r (Jc e f.d u) e1 h2 h1 β' _ w' hf2 (by rw[Qbu]; exact hn) (Nat.le_trans hb E'.len) (Nat.le_trans hwl E'.len) ?_ S' h4 fun a' w'' hp=>?_
    ·rw[hd]; exact(hE.mono E'.view E'.beta).put f.d hr hdn
    ·obtain⟨⟨β2,h5,h6,h7⟩,h8,h9⟩:=hp;exact hq a' w'' ⟨⟨β2,h5,E'.trans h6,h7⟩,by rw[h8,put_defers],by rw[h9,Qbu]⟩
   have left:Xv call fpol base ws l (Jc e f.d (.tup [])) h=some (e1,h1)->wpList P ops Q r (a.put o.dst undef) w:=fun h4=>by
    refine QaN hcall hws hwb l r (Jc e f.d (.tup [])) e1 h h1 β _ w hf2 (by rw[Qbu]; exact hn) hb hwl ?_ S h4 fun a' w'' hp=>?_
    ·rw[hd]; exact hE.put f.d QjB hdn
    ·obtain⟨⟨β2,h5,h6,h7⟩,h8,h9⟩:=hp;exact hq a' w'' ⟨⟨β2,h5,h6,h7⟩,by rw[h8,put_defers],by rw[h9,Qbu]⟩
   unfold wpList;simp only[Xv]at hev;cases hfg:f.g with
   | none=>
    rw[hfg]at hev hg;dsimp only at hev;have hno:o.guard=none:=by simpa[QaK]using hg
    rw[if_pos (by simp[Region.wanted,hno])]
    split at hev
    ·rename_i u h2 hdo; exact .inl (did u h2 hdo hev)
    ·cases hev
   | some gw=>
    obtain⟨s,want⟩:=gw;rw[hfg]at hev hg;dsimp only at hev;split at hev
    ·rename_i b hs;have hwt:=QeC hg hE hs;by_cases hbw:b=want
     ·rw[if_pos hbw]at hev;rw[if_pos (by rw[hwt,hbw]; simp)]
      split at hev
      ·rename_i u h2 hdo; exact .inl (did u h2 hdo hev)
      ·cases hev
     ·rw[if_neg hbw]at hev;rw[if_neg (by rw[hwt]; simpa using hbw)]
      exact left hev
    ·rename_i hs;rw[if_neg (by rw[Qjo hg hE hs]; simp)]
     exact left hev
    ·cases hev
end
end Go.Avm
namespace Go.Avm
open Go.RowKit
def Qzk :Ex->Exit
 | .normal=>.normal
 | .exit id=>.exit id
 | .ret=>.ret
def QiN (lp:QcS):Prop:=∀f keep e h r,lp f keep e h=some r-> ∃n,rounds n f keep e h=some r
abbrev QiQ :=Array Oper->List Nat->List Dyn->List S1->Bool
def QmF (P:Program)(w0:World)(call:Xt)(fpol:FuncId->Option Pol)(n:Nat)(dchk:QiQ):Prop:=
 ∀(ops:Array Oper) (ord:List Nat) (far:List Dyn) (l:List S1),dchk ops ord far l=true->
  ∀(wr base ws id:Nat) (β:Beta) (h h1:H) (w:World) (e e1:Env) (a:Act) (Q:Exit->Act->World->Prop),wr<=ws->wr<=base->base<=h.length->ws<=h.length->n<=a.tmps.size->
   Qo (view wr β h w) β e a.tmps->Sim w0 wr β h w->evS call fpol base ws l e h=some (e1,h1)->Je e1 h h1 far=true->(∀a' w',Qat w0 wr β h w a e1 h1 a' w'->Q .normal a' w')->
   (Code.region id ops true).wp P Q a w
def Qaj (P:Program)(n:Nat)(dchk:QiQ):C->Code->Bool
 | .skip,c=>(match c with | .skip=>true | _=>false)
 | .stuck,_=>true
 | .ops l,c=>(match c with | .region _ ops d=>!d&&okL false [] l&&QbH P n ops (Xh none l) ops.toList | _=>false)
 | .dops ord far l,c=>(match c with | .region _ ops d=>d&&dchk ops ord far l | _=>false)
 | .seq x y,c=>(match c with | .seq a b=>Qaj P n dchk x a&&Qaj P n dchk y b | _=>false)
 | .cond v x y,c=>(match c with | .cond o a b=>Qn o v&&Qaj P n dchk x a&&Qaj P n dchk y b | _=>false)
 | .block i x,c=>(match c with | .block j a=>i == j&&Qaj P n dchk x a | _=>false)
 | .loop _ x,c=>(match c with | .loop a=>Qaj P n dchk x a | _=>false)
 | .exit i,c=>(match c with | .exit j=>i == j | _=>false)
 | .ret,c=>(match c with | .ret=>true | _=>false)
 | .forget _ x,c=>Qaj P n dchk x c
section
variable {P : Program} {w0 : World} {wr base ws : Nat} {call : Xt} {lp : QcS} {fpol : FuncId -> Option Pol} {n : Nat} {dchk : QiQ}
theorem Qat.trans{β:Beta}{h h1 h2:H}{w w1 w2:World}{a a1 a2:Act}{e2:Env}{β1:Beta}(E:Ext wr β h w β1 h1 w1)(hd:a1.defers=a.defers)(hs:a1.tmps.size=a.tmps.size)(p:Qat w0 wr β1 h1 w1 a1 e2 h2 a2 w2):Qat w0 wr β h w a e2 h2 a2 w2:=by
 obtain⟨⟨β2,h1,h2,h3⟩,h4,h5⟩:=p;exact⟨⟨β2,h1,E.trans h2,h3⟩,h4.trans hd,h5.trans hs⟩
theorem Qkp (hcall:WK P w0 call)(hlp:QiN lp)(hdr:QmF P w0 call fpol n dchk)(hws:wr<=ws)(hwb:wr<=base):
    ∀(c:C) (k:Code) (x:Ex) (e e1:Env) (h h1:H) (β:Beta) (a:Act) (w:World) (Q:Exit->Act->World->Prop),Qaj P n dchk c k=true->n<=a.tmps.size->base<=h.length->ws<=h.length->
     Qo (view wr β h w) β e a.tmps->Sim w0 wr β h w->evC call lp fpol base ws c e h=some (x,e1,h1)->(∀a' w',Qat w0 wr β h w a e1 h1 a' w'->Q (Qzk x) a' w')->k.wp P Q a w:=by
 intro c
 induction c with
 | skip=>
  intro k x e e1 h h1 β a w Q hk hn hb hwl hE S hev hq;cases k<;>simp[Qaj]at hk;simp[evC]at hev;obtain⟨rfl,rfl,rfl⟩:=hev;exact wp_skip (hq a w ⟨⟨β,S,Ext.refl _ _ _ _,hE⟩,rfl,rfl⟩)
 | stuck=>
  intro k x e e1 h h1 β a w Q hk hn hb hwl hE S hev hq;simp[evC]at hev
 | ops l=>
  intro k x e e1 h h1 β a w Q hk hn hb hwl hE S hev hq;cases k<;>simp[Qaj]at hk;rename_i id ops d;obtain⟨⟨rfl,h2⟩,h3⟩:=hk;simp only[evC]at hev;cases hs:evS call fpol base ws l e h with
  | none=>rw[hs]at hev; simp[done]at hev
  | some p=>
   obtain⟨e2,h4⟩:=p;rw[hs]at hev;simp[done]at hev;obtain⟨rfl,rfl,rfl⟩:=hev;obtain⟨e3,h5,h6,_⟩:=QwX none l false [] e e2 h h4 h2 (fun _ _ h=>by cases h) (fun _ _ h=>by cases h) hs
   refine wp_region_list (QaN hcall hws hwb (Xh none l) ops.toList e e3 h h4 β a w h3 hn hb hwl hE S h5 fun a' w' hp=>hq a' w' ?_)
   obtain⟨⟨β2,g1,g2,g3⟩,g4,g5⟩:=hp;exact⟨⟨β2,g1,g2,fun m v hv=>g3 m v (by rw[←h6 m]; exact hv)⟩,g4,g5⟩
 | dops ord far l=>
  intro k x e e1 h h1 β a w Q hk hn hb hwl hE S hev hq;cases k<;>simp[Qaj]at hk;rename_i id ops d;obtain⟨rfl,h3⟩:=hk;simp only[evC]at hev;cases hs:evS call fpol base ws l e h with
  | none=>rw[hs]at hev; simp[Qgb,done]at hev
  | some p=>
   obtain⟨e2,h4⟩:=p;rw[hs]at hev;simp only[Qgb]at hev;by_cases hf:Je e2 h h4 far=true
   ·rw[if_pos hf]at hev;simp[done]at hev;obtain⟨rfl,rfl,rfl⟩:=hev;exact hdr ops ord far l h3 wr base ws id β h h4 w e e2 a Q hws hwb hb hwl hn hE S hs hf hq
   ·rw[if_neg hf]at hev; simp[done]at hev
 | seq c d ihc ihd=>
  intro k x e e1 h h1 β a w Q hk hn hb hwl hE S hev hq;cases k<;>simp[Qaj]at hk;rename_i k1 k2;simp only[evC]at hev;cases h3:evC call lp fpol base ws c e h with
  | none=>rw[h3]at hev; simp[andThen]at hev
  | some p=>
   obtain⟨y,e2,h2⟩:=p;rw[h3]at hev;refine wp_seq (ihc k1 y e e2 h h2 β a w _ hk.1 hn hb hwl hE S h3 fun a' w' hp=>?_)
   cases y with
   | normal=>
    simp only[andThen]at hev;obtain⟨⟨β2,g1,g2,g3⟩,g4,g5⟩:=hp;exact ihd k2 x e2 e1 h2 h1 β2 a' w' Q hk.2 (by rw[g5]; exact hn) (Nat.le_trans hb g2.len) (Nat.le_trans hwl g2.len) g3 g1 hev fun a'' w'' hp'=>hq a'' w'' (hp'.trans g2 g4 g5)
   | exit id=>
    simp[andThen]at hev;obtain⟨rfl,rfl,rfl⟩:=hev;exact hq a' w' hp
   | ret=>
    simp[andThen]at hev;obtain⟨rfl,rfl,rfl⟩:=hev;exact hq a' w' hp
 | cond v c d ihc ihd=>
  intro k x e e1 h h1 β a w Q hk hn hb hwl hE S hev hq;cases k<;>simp[Qaj]at hk;rename_i o k1 k2;simp only[evC,ifB]at hev;split at hev
  ·rename_i t hv;have hr:=Qf hE hk.1.1 hv;unfold Rel at hr;cases t with
   | true=>exact wp_cond_true hr (ihc k1 x e e1 h h1 β a w Q hk.1.2 hn hb hwl hE S (by simpa using hev) hq)
   | false=>exact wp_cond_false hr (ihd k2 x e e1 h h1 β a w Q hk.2 hn hb hwl hE S (by simpa using hev) hq)
  ·cases hev
 | block id c ihc=>
  intro k x e e1 h h1 β a w Q hk hn hb hwl hE S hev hq;cases k<;>simp[Qaj]at hk;rename_i j k1;obtain⟨rfl,hk⟩:=hk;simp only[evC]at hev;cases h3:evC call lp fpol base ws c e h with
  | none=>rw[h3]at hev; simp[inBlock]at hev
  | some p=>
   obtain⟨y,e2,h2⟩:=p;rw[h3]at hev;refine wp_block (ihc k1 y e e2 h h2 β a w _ hk hn hb hwl hE S h3 fun a' w' hp=>?_)
   cases y with
   | normal=>simp[inBlock]at hev; obtain⟨rfl,rfl,rfl⟩:=hev; exact hq a' w' hp
   | ret=>simp[inBlock]at hev; obtain⟨rfl,rfl,rfl⟩:=hev; exact hq a' w' hp
   | exit j=>
    simp only[inBlock]at hev;simp only[Qzk,Exit.inBlock];split at hev
    ·rename_i hj;rw[if_pos hj];simp at hev; obtain⟨rfl,rfl,rfl⟩:=hev;exact hq a' w' hp
    ·rename_i hj;rw[if_neg hj];simp at hev; obtain⟨rfl,rfl,rfl⟩:=hev;exact hq a' w' hp
 | loop keep c ihc=>
  intro k x e e1 h h1 β a w Q hk hn hb hwl hE S hev hq;cases k<;>simp[Qaj]at hk;rename_i k1;simp only[evC]at hev;obtain⟨m,hm⟩:=hlp _ _ _ _ _ hev
  have go: ∀(m:Nat) (e:Env) (h:H) (β:Beta) (a:Act) (w:World),n<=a.tmps.size->base<=h.length->ws<=h.length->Qo (view wr β h w) β e a.tmps->Sim w0 wr β h w->
       rounds m (evC call lp fpol base ws c) keep e h=some (x,e1,h1)->(∀a' w',Qat w0 wr β h w a e1 h1 a' w'->Q (Qzk x) a' w')->Code.rounds P k1 Q m a w:=by
   intro m
   induction m with
   | zero=>intro e h β a w _ _ _ _ _ hev _; simp[rounds]at hev
   | succ m ih=>
    intro e h β a w hn hb hwl hE S hev hq;simp only[rounds]at hev;rw[rounds_succ];cases h3:evC call lp fpol base ws c (e.keep keep) h with
    | none=>rw[h3]at hev; simp[andThen]at hev
    | some p=>
     obtain⟨y,e2,h2⟩:=p;rw[h3]at hev;refine ihc k1 y (e.keep keep) e2 h h2 β a w _ hk hn hb hwl (hE.keep keep) S h3 fun a' w' hp=>?_
     cases y with
     | normal=>
      simp only[andThen]at hev;obtain⟨⟨β2,g1,g2,g3⟩,g4,g5⟩:=hp;exact ih e2 h2 β2 a' w' (by rw[g5]; exact hn) (Nat.le_trans hb g2.len) (Nat.le_trans hwl g2.len) g3 g1 hev fun a'' w'' hp'=>hq a'' w'' (hp'.trans g2 g4 g5)
     | exit id=>simp[andThen]at hev; obtain⟨rfl,rfl,rfl⟩:=hev; exact hq a' w' hp
     | ret=>simp[andThen]at hev; obtain⟨rfl,rfl,rfl⟩:=hev; exact hq a' w' hp
  exact wp_loop_rounds m (go m e h β a w hn hb hwl hE S hm hq)
 | exit id=>
  intro k x e e1 h h1 β a w Q hk hn hb hwl hE S hev hq;cases k<;>simp[Qaj]at hk;subst hk;simp[evC]at hev;obtain⟨rfl,rfl,rfl⟩:=hev;exact wp_exit (hq a w ⟨⟨β,S,Ext.refl _ _ _ _,hE⟩,rfl,rfl⟩)
 | ret=>
  intro k x e e1 h h1 β a w Q hk hn hb hwl hE S hev hq;cases k<;>simp[Qaj]at hk;simp[evC]at hev;obtain⟨rfl,rfl,rfl⟩:=hev;exact wp_ret (hq a w ⟨⟨β,S,Ext.refl _ _ _ _,hE⟩,rfl,rfl⟩)
 | forget keep c ihc=>
  intro k x e e1 h h1 β a w Q hk hn hb hwl hE S hev hq;simp only[Qaj]at hk;simp only[evC]at hev;cases h3:evC call lp fpol base ws c e h with
  | none=>rw[h3]at hev; simp[Wv]at hev
  | some p=>
   obtain⟨y,e2,h2⟩:=p;rw[h3]at hev;simp[Wv]at hev;obtain⟨rfl,rfl,rfl⟩:=hev;refine ihc k y e e2 h h2 β a w Q hk hn hb hwl hE S h3 fun a' w' hp=>hq a' w' ?_
   obtain⟨⟨β2,g1,g2,g3⟩,g4,g5⟩:=hp;exact⟨⟨β2,g1,g2,g3.keep keep⟩,g4,g5⟩
end
end Go.Avm
