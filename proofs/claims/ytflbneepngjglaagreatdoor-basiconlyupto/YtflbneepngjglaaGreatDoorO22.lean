/- Short words for the machine's commonest commands: code texts are shorter by half. -/
import Derived.Test.YtflbneepngjglaaGreatDoorO21
set_option linter.all false
namespace Go.Avm
open Classical
def Evt {α:Type}(s:Nat->Option α)(r:α):Prop:=∃N,∀n,N<=n->s n=some r
theorem Evt.uniq{α:Type}{s:Nat->Option α}{r r':α}(a:Evt s r)(b:Evt s r'):r=r':=by
 obtain⟨N,h1⟩:=a;obtain⟨M,h2⟩:=b;have h3:=h1 (max N M) (Nat.le_max_left _ _);have h4:=h2 (max N M) (Nat.le_max_right _ _);rw[h3]at h4;injection h4
noncomputable def lim {α:Type} (s:Nat->Option α):Option α:=if h: ∃r,Evt s r then some h.choose else none
theorem QbB {α:Type}{s:Nat->Option α}{r:α}:lim s=some r↔Evt s r:=by
 unfold lim;constructor
 ·intro h;split at h
  ·rename_i hx;injection h with h;subst h;exact hx.choose_spec
  ·cases h
 ·intro h;have hx: ∃r,Evt s r:=⟨r,h⟩;rw[dif_pos hx];rw[Evt.uniq hx.choose_spec h]
noncomputable def Qb (cfg:Cfg):Xt:=fun ws f args h=>lim fun n=>JB cfg n ws f args h
noncomputable def Qa:QcS:=fun f keep e h=>lim fun n=>rounds n f keep e h
theorem QfT {f:Env->H->Out}{keep:List Nat}: ∀{n:Nat} {e:Env} {h:H} {r:Ex×Env×H},rounds n f keep e h=some r->rounds (n+1) f keep e h=some r
 | 0,e,h,r,ev=>by simp[rounds]at ev
 | n+1,e,h,r,ev=>by
  rw[rounds]at ev ⊢;cases h3:f (e.keep keep) h with
  | none=>rw[h3]at ev; simp[andThen]at ev
  | some p=>
   obtain⟨y,e2,h2⟩:=p;rw[h3]at ev;cases y with
   | normal=>exact QfT (n:=n) ev
   | exit id=>exact ev
   | ret=>exact ev
theorem Qpd {f:Env->H->Out}{keep:List Nat}{n:Nat}{e:Env}{h:H}{r:Ex×Env×H}(ev:rounds n f keep e h=some r):Evt (fun n=>rounds n f keep e h) r:=by
 refine⟨n,fun m hm=>?_⟩
 induction m with
 | zero=>have:n=0:=by omega
         subst this; exact ev
 | succ m ih=>
  rcases Nat.lt_or_ge n (m+1)with h1 | h1
  ·exact QfT (ih (by omega))
  ·have:n=m+1:=by omega
   subst this; exact ev
theorem YA {f:Env->H->Out}{keep:List Nat}{e:Env}{h:H}{r:Ex×Env×H}:Qa f keep e h=some r↔ ∃n,rounds n f keep e h=some r:=by
 unfold Qa;rw[QbB];constructor
 ·rintro⟨N,h1⟩; exact⟨N,h1 N (Nat.le_refl _)⟩
 ·rintro⟨n,h1⟩; exact Qpd h1
theorem Zo {f:Env->H->Out}{keep:List Nat}{e:Env}{h:H}{r:Ex×Env×H}(ev:andThen (f (e.keep keep) h) (fun e' h'=>Qa f keep e' h')=some r):Qa f keep e h=some r:=by
 rw[YA];cases h3:f (e.keep keep) h with
 | none=>rw[h3]at ev; simp[andThen]at ev
 | some p=>
  obtain⟨y,e2,h2⟩:=p;rw[h3]at ev;cases y with
  | normal=>
   obtain⟨n,hn⟩:=YA.1 ev;exact⟨n+1,by rw[rounds,h3]; exact hn⟩
  | exit id=>exact⟨1,by rw[rounds,h3]; exact ev⟩
  | ret=>exact⟨1,by rw[rounds,h3]; exact ev⟩
section
variable {cs : Nat -> Xt} {call : Xt} {fpol : FuncId -> Option Pol} {base ws : Nat}
def Comes (cs:Nat->Xt)(call:Xt):Prop:=∀ws f args h r,call ws f args h=some r->Evt (fun n=>cs n ws f args h) r
theorem QvH (hc:Comes cs call){e:Env}{h:H}{i:I}{r:AV×H}(ev:XE call fpol base ws e h i=some r):Evt (fun n=>XE (cs n) fpol base ws e h i) r:=by
 by_cases h1: ∃f args,i= .call f args
 ·obtain⟨f,args,rfl⟩:=h1;simp only[XE]at ev ⊢;split at ev
  ·exact hc _ _ _ _ _ ev
  ·cases ev
 ·by_cases h2: ∃pu f args,i= .callv pu f args
  ·obtain⟨pu,f,args,rfl⟩:=h2;simp only[XE]at ev ⊢;split at ev
   ·split at ev
    ·rename_i hp;simp only[hp,if_true];split at ev
     ·exact hc _ _ _ _ _ ev
     ·exact hc _ _ _ _ _ ev
     ·cases ev
    ·rename_i hp;simp only[hp];exact hc _ _ _ _ _ ev
   ·cases ev
  ·refine⟨0,fun n _=>?_⟩
   cases i<;>first | exact ev | exact absurd ⟨_,_,rfl⟩ h1 | exact absurd ⟨_,_,_,rfl⟩ h2
mutual
theorem Qvy (hc:Comes cs call): ∀(x:S1) (e:Env) (h:H) (r:Env×H),Wf call fpol base ws x e h=some r->Evt (fun n=>Wf (cs n) fpol base ws x e h) r
 | .op d i,e,h,r,ev=>by
  unfold Wf at ev;cases hx:XE call fpol base ws e h i with
  | none=>rw[hx]at ev; simp[WJ]at ev
  | some p=>
   rw[hx]at ev;obtain⟨N,hN⟩:=QvH hc hx
   exact⟨N,fun n hn=>by
    have:=hN n hn;dsimp only at this ⊢;unfold Wf;rw[this]; exact ev⟩
 | .sc s want body d rr o,e,h,r,ev=>by
  unfold Wf at ev;split at ev
  ·rename_i b hb;split at ev
   ·rename_i hw;cases hbody:evS call fpol base ws body e h with
    | none=>rw[hbody]at ev; simp[QfO,WJ]at ev
    | some p=>
     rw[hbody]at ev;obtain⟨N,hN⟩:=QgJ hc body e h p hbody
     exact⟨N,fun n hn=>by
      have:=hN n hn;dsimp only at this ⊢;unfold Wf;rw[hb];dsimp only;rw[if_pos hw,this]; exact ev⟩
   ·rename_i hw
    exact⟨0,fun n _=>by
     dsimp only;unfold Wf;rw[hb];dsimp only;rw[if_neg hw]; exact ev⟩
  ·cases ev
theorem QgJ (hc:Comes cs call): ∀(l:List S1) (e:Env) (h:H) (r:Env×H),evS call fpol base ws l e h=some r->Evt (fun n=>evS (cs n) fpol base ws l e h) r
 | [],e,h,r,ev=>⟨0,fun n _=>by dsimp only; unfold evS at ev ⊢; exact ev⟩
 | x::l,e,h,r,ev=>by
  unfold evS at ev;cases hx:Wf call fpol base ws x e h with
  | none=>rw[hx]at ev; cases ev
  | some p=>
   rw[hx]at ev;obtain⟨N,hN⟩:=Qvy hc x e h p hx;obtain⟨M,hM⟩:=QgJ hc l p.1 p.2 r ev
   exact⟨max N M,fun n hn=>by
    have h1:=hN n (Nat.le_trans (Nat.le_max_left _ _) hn);have h2:=hM n (Nat.le_trans (Nat.le_max_right _ _) hn);dsimp only at h1 h2 ⊢;unfold evS;rw[h1]; exact h2⟩
end
theorem QdR {f:Env->H->Out}{fs:Nat->Env->H->Out}(hf: ∀e h r,f e h=some r->Evt (fun n=>fs n e h) r){keep:List Nat}: ∀{k:Nat} {e:Env} {h:H} {r:Ex×Env×H},rounds k f keep e h=some r-> ∃N,∀n,N<=n-> ∀q,k<=q->rounds q (fs n) keep e h=some r
 | 0,e,h,r,ev=>by simp[rounds]at ev
 | k+1,e,h,r,ev=>by
  rw[rounds]at ev;cases h3:f (e.keep keep) h with
  | none=>rw[h3]at ev; simp[andThen]at ev
  | some p=>
   obtain⟨y,e2,h2⟩:=p;rw[h3]at ev;obtain⟨N,hN⟩:=hf _ _ _ h3;cases y with
   | normal=>
    obtain⟨M,hM⟩:=QdR hf (k:=k) (e:=e2) (h:=h2) (r:=r) ev;refine⟨max N M,fun n hn q hq=>?_⟩
    have h1:=hN n (Nat.le_trans (Nat.le_max_left _ _) hn);dsimp only at h1;cases q with
    | zero=>omega
    | succ q=>
     rw[rounds,h1];exact hM n (Nat.le_trans (Nat.le_max_right _ _) hn) q (by omega)
   | exit id=>
    refine⟨N,fun n hn q hq=>?_⟩
    have h1:=hN n hn;dsimp only at h1;cases q with
    | zero=>omega
    | succ q=>rw[rounds,h1]; exact ev
   | ret=>
    refine⟨N,fun n hn q hq=>?_⟩
    have h1:=hN n hn;dsimp only at h1;cases q with
    | zero=>omega
    | succ q=>rw[rounds,h1]; exact ev
theorem Qxx (hc:Comes cs call): ∀(c:C) (e:Env) (h:H) (r:Ex×Env×H),evC call Qa fpol base ws c e h=some r->Evt (fun n=>evC (cs n) (rounds n) fpol base ws c e h) r:=by
 intro c
 induction c with
 | skip=>intro e h r ev; exact⟨0,fun n _=>by simpa[evC]using ev⟩
 | stuck=>intro e h r ev; simp[evC]at ev
 | ops l=>
  intro e h r ev;simp only[evC]at ev ⊢;cases hs:evS call fpol base ws l e h with
  | none=>rw[hs]at ev; simp[done]at ev
  | some p=>
   rw[hs]at ev;obtain⟨N,hN⟩:=QgJ hc l e h p hs;exact⟨N,fun n hn=>by have h1:=hN n hn; dsimp only at h1 ⊢; rw[h1]; exact ev⟩
 | dops ord far l=>
  intro e h r ev;simp only[evC]at ev ⊢;cases hs:evS call fpol base ws l e h with
  | none=>rw[hs]at ev; simp[Qgb,done]at ev
  | some p=>
   rw[hs]at ev;obtain⟨N,hN⟩:=QgJ hc l e h p hs;exact⟨N,fun n hn=>by have h1:=hN n hn; dsimp only at h1 ⊢; rw[h1]; exact ev⟩
 | seq c d ihc ihd=>
  intro e h r ev;simp only[evC]at ev ⊢;cases h3:evC call Qa fpol base ws c e h with
  | none=>rw[h3]at ev; simp[andThen]at ev
  | some p=>
   obtain⟨y,e2,h2⟩:=p;rw[h3]at ev;obtain⟨N,hN⟩:=ihc e h _ h3;cases y with
   | normal=>
    obtain⟨M,hM⟩:=ihd e2 h2 r ev
    exact⟨max N M,fun n hn=>by
     have h4:=hN n (Nat.le_trans (Nat.le_max_left _ _) hn);have h5:=hM n (Nat.le_trans (Nat.le_max_right _ _) hn);dsimp only at h4 h5 ⊢;rw[h4]; exact h5⟩
   | exit id=>exact⟨N,fun n hn=>by have h4:=hN n hn; dsimp only at h4 ⊢; rw[h4]; exact ev⟩
   | ret=>exact⟨N,fun n hn=>by have h4:=hN n hn; dsimp only at h4 ⊢; rw[h4]; exact ev⟩
 | cond v c d ihc ihd=>
  intro e h r ev;simp only[evC,ifB]at ev ⊢;split at ev
  ·rename_i t hv;cases t with
   | true=>
    obtain⟨N,hN⟩:=ihc e h r (by simpa using ev)
    exact⟨N,fun n hn=>by have h4:=hN n hn; dsimp only at h4 ⊢; simpa using h4⟩
   | false=>
    obtain⟨N,hN⟩:=ihd e h r (by simpa using ev)
    exact⟨N,fun n hn=>by have h4:=hN n hn; dsimp only at h4 ⊢; simpa using h4⟩
  ·cases ev
 | block id c ihc=>
  intro e h r ev;simp only[evC]at ev ⊢;cases h3:evC call Qa fpol base ws c e h with
  | none=>rw[h3]at ev; simp[inBlock]at ev
  | some p=>
   rw[h3]at ev;obtain⟨N,hN⟩:=ihc e h p h3;exact⟨N,fun n hn=>by have h4:=hN n hn; dsimp only at h4 ⊢; rw[h4]; exact ev⟩
 | loop keep c ihc=>
  intro e h r ev;simp only[evC]at ev ⊢;obtain⟨k,hk⟩:=YA.1 ev;obtain⟨N,hN⟩:=QdR (fs:=fun n=>evC (cs n) (rounds n) fpol base ws c) ihc hk
  exact⟨max N k,fun n hn=>hN n (Nat.le_trans (Nat.le_max_left _ _) hn) n (Nat.le_trans (Nat.le_max_right _ _) hn)⟩
 | exit id=>intro e h r ev; exact⟨0,fun n _=>by simpa[evC]using ev⟩
 | ret=>intro e h r ev; exact⟨0,fun n _=>by simpa[evC]using ev⟩
 | forget keep c ihc=>
  intro e h r ev;simp only[evC]at ev ⊢;cases h3:evC call Qa fpol base ws c e h with
  | none=>rw[h3]at ev; simp[Wv]at ev
  | some p=>
   rw[h3]at ev;obtain⟨N,hN⟩:=ihc e h p h3;exact⟨N,fun n hn=>by have h4:=hN n hn; dsimp only at h4 ⊢; rw[h4]; exact ev⟩
theorem Qxw (hc:Comes cs call){f:F}{args:List AV}{h:H}{r:AV×H}(ev:evF call Qa fpol ws f args h=some r):Evt (fun n=>evF (cs n) (rounds n) fpol ws f args h) r:=by
 unfold evF at ev ⊢;cases hargs:JZ f.pol h args with
 | none=>rw[hargs]at ev; cases ev
 | some ags=>
  rw[hargs]at ev;dsimp only at ev ⊢;cases h3:evC call Qa fpol h.length (QcT f.pol ws h.length) f.code (Jt 0 ags) h with
  | none=>rw[h3]at ev; simp[finish]at ev
  | some p=>
   rw[h3]at ev;obtain⟨N,hN⟩:=Qxx hc f.code _ h p h3;exact⟨N,fun n hn=>by have h4:=hN n hn; dsimp only at h4 ⊢; rw[h4]; exact ev⟩
end
theorem Qc {cfg:Cfg}{f:FuncId}{F:F}(hx:cfg.ext f=none)(hf:cfg.fn f=some F){ws:Nat}{args:List AV}{h:H}{r:AV×H}(ev:evF (Qb cfg) Qa cfg.pol ws F args h=some r):Qb cfg ws f args h=some r:=by
 obtain⟨N,hN⟩:=Qxw (cs:=JB cfg) (fun ws f args h r e=>QbB.1 e) ev
 refine QbB.2 ⟨N+1,fun n hn=>?_⟩
 cases n with
 | zero=>omega
 | succ n=>
  show JB cfg (n+1) ws f args h=some r;simp only[JB,hx,hf];exact hN n (by omega)
theorem QN {cfg:Cfg}{f:FuncId}{x:List AV->H->Option (AV×H)}(hx:cfg.ext f=some x){ws:Nat}{args:List AV}{h:H}{r:AV×H}(ev:x args h=some r):Qb cfg ws f args h=some r:=by
 refine QbB.2 ⟨1,fun n hn=>?_⟩
 cases n with
 | zero=>omega
 | succ n=>
  show JB cfg (n+1) ws f args h=some r;simp only[JB,hx];exact ev
theorem QvU {P:Program}{w0:World}{dchk:Nat->QiQ}{cfg:Cfg}(C:Qrv P w0 dchk cfg):WK P w0 (Qb cfg):=by
 intro ws f args h r h' wr β w vs ev hws hwl S hr;obtain⟨N,hN⟩:=QbB.1 ev;exact(QvT C N).1 ws f args h r h' wr β w vs (hN N (Nat.le_refl _)) hws hwl S hr
end Go.Avm
namespace Go.Avm
section
variable {call call' : Xt} {lp lp' : QcS} {fpol : FuncId -> Option Pol} {base ws : Nat}
def QfK (call call':Xt):Prop:=∀ws f args h r,call ws f args h=some r->call' ws f args h=some r
def FLe (f f':Env->H->Out):Prop:=∀e h r,f e h=some r->f' e h=some r
def QAp (lp lp':QcS):Prop:=∀f f' keep e h r,FLe f f'->lp f keep e h=some r->lp' f' keep e h=some r
theorem QxC (hc:QfK call call'){e:Env}{h:H}{i:I}{r:AV×H}(ev:XE call fpol base ws e h i=some r):XE call' fpol base ws e h i=some r:=by
 by_cases h1: ∃f args,i= .call f args
 ·obtain⟨f,args,rfl⟩:=h1;simp only[XE]at ev ⊢;split at ev
  ·exact hc _ _ _ _ _ ev
  ·cases ev
 ·by_cases h2: ∃pu f args,i= .callv pu f args
  ·obtain⟨pu,f,args,rfl⟩:=h2;simp only[XE]at ev ⊢;split at ev
   ·split at ev
    ·rename_i hp;simp only[hp,if_true];split at ev
     ·exact hc _ _ _ _ _ ev
     ·exact hc _ _ _ _ _ ev
     ·cases ev
    ·rename_i hp;simp only[hp];exact hc _ _ _ _ _ ev
   ·cases ev
  ·cases i<;>first | exact ev | exact absurd ⟨_,_,rfl⟩ h1 | exact absurd ⟨_,_,_,rfl⟩ h2
mutual
theorem Qxv (hc:QfK call call'): ∀(x:S1) (e:Env) (h:H) (r:Env×H),Wf call fpol base ws x e h=some r->Wf call' fpol base ws x e h=some r
 | .op d i,e,h,r,ev=>by
  unfold Wf at ev ⊢;cases hx:XE call fpol base ws e h i with
  | none=>rw[hx]at ev; simp[WJ]at ev
  | some p=>rw[hx]at ev; rw[QxC hc hx]; exact ev
 | .sc s want body d rr o,e,h,r,ev=>by
  unfold Wf at ev ⊢;split at ev
  ·rename_i b hb;split at ev
   ·rename_i hw;rw[if_pos hw];cases hbody:evS call fpol base ws body e h with
    | none=>rw[hbody]at ev; simp[QfO,WJ]at ev
    | some p=>rw[hbody]at ev; rw[QlH hc body e h p hbody]; exact ev
   ·rename_i hw;rw[if_neg hw]; exact ev
  ·cases ev
theorem QlH (hc:QfK call call'): ∀(l:List S1) (e:Env) (h:H) (r:Env×H),evS call fpol base ws l e h=some r->evS call' fpol base ws l e h=some r
 | [],e,h,r,ev=>by unfold evS at ev ⊢; exact ev
 | x::l,e,h,r,ev=>by
  unfold evS at ev ⊢;cases hx:Wf call fpol base ws x e h with
  | none=>rw[hx]at ev; cases ev
  | some p=>
   rw[hx]at ev;rw[Qxv hc x e h p hx];exact QlH hc l p.1 p.2 r ev
end
theorem Qzm (hc:QfK call call')(hl:QAp lp lp'): ∀(c:C),FLe (evC call lp fpol base ws c) (evC call' lp' fpol base ws c):=by
 intro c
 induction c with
 | skip=>intro e h r ev; exact ev
 | stuck=>intro e h r ev; simp[evC]at ev
 | ops l=>
  intro e h r ev;simp only[evC]at ev ⊢;cases hs:evS call fpol base ws l e h with
  | none=>rw[hs]at ev; simp[done]at ev
  | some p=>rw[hs]at ev; rw[QlH hc l e h p hs]; exact ev
 | dops ord far l=>
  intro e h r ev;simp only[evC]at ev ⊢;cases hs:evS call fpol base ws l e h with
  | none=>rw[hs]at ev; simp[Qgb,done]at ev
  | some p=>rw[hs]at ev; rw[QlH hc l e h p hs]; exact ev
 | seq c d ihc ihd=>
  intro e h r ev;simp only[evC]at ev ⊢;cases h3:evC call lp fpol base ws c e h with
  | none=>rw[h3]at ev; simp[andThen]at ev
  | some p=>
   obtain⟨y,e2,h2⟩:=p;rw[h3]at ev;rw[ihc e h _ h3];cases y with
   | normal=>exact ihd e2 h2 r ev
   | exit id=>exact ev
   | ret=>exact ev
 | cond v c d ihc ihd=>
  intro e h r ev;simp only[evC,ifB]at ev ⊢;split at ev
  ·rename_i t hv;cases t with
   | true=>simpa using ihc e h r (by simpa using ev)
   | false=>simpa using ihd e h r (by simpa using ev)
  ·cases ev
 | block id c ihc=>
  intro e h r ev;simp only[evC]at ev ⊢;cases h3:evC call lp fpol base ws c e h with
  | none=>rw[h3]at ev; simp[inBlock]at ev
  | some p=>rw[h3]at ev; rw[ihc e h p h3]; exact ev
 | loop keep c ihc=>
  intro e h r ev;simp only[evC]at ev ⊢;exact hl _ _ _ _ _ _ ihc ev
 | exit id=>intro e h r ev; exact ev
 | ret=>intro e h r ev; exact ev
 | forget keep c ihc=>
  intro e h r ev;simp only[evC]at ev ⊢;cases h3:evC call lp fpol base ws c e h with
  | none=>rw[h3]at ev; simp[Wv]at ev
  | some p=>rw[h3]at ev; rw[ihc e h p h3]; exact ev
theorem Qzl (hc:QfK call call')(hl:QAp lp lp'){f:F}{args:List AV}{h:H}{r:AV×H}(ev:evF call lp fpol ws f args h=some r):evF call' lp' fpol ws f args h=some r:=by
 unfold evF at ev ⊢;cases hargs:JZ f.pol h args with
 | none=>rw[hargs]at ev; cases ev
 | some ags=>
  rw[hargs]at ev;dsimp only at ev ⊢;cases h3:evC call lp fpol h.length (QcT f.pol ws h.length) f.code (Jt 0 ags) h with
  | none=>rw[h3]at ev; simp[finish]at ev
  | some p=>rw[h3]at ev; rw[Qzm hc hl f.code _ h p h3]; exact ev
end
theorem Qjz {f f':Env->H->Out}(hf:FLe f f'){keep:List Nat}: ∀{n:Nat} {e:Env} {h:H} {r:Ex×Env×H},rounds n f keep e h=some r->rounds n f' keep e h=some r
 | 0,e,h,r,ev=>by simp[rounds]at ev
 | n+1,e,h,r,ev=>by
  rw[rounds]at ev ⊢;cases h3:f (e.keep keep) h with
  | none=>rw[h3]at ev; simp[andThen]at ev
  | some p=>
   obtain⟨y,e2,h2⟩:=p;rw[h3]at ev;rw[hf _ _ _ h3];cases y with
   | normal=>exact Qjz hf (n:=n) ev
   | exit id=>exact ev
   | ret=>exact ev
theorem QmS (n:Nat):QAp (rounds n) Qa:=fun _ _ _ _ _ _ hf ev=>YA.2 ⟨n,Qjz hf ev⟩
theorem QlZ {cfg:Cfg}: ∀(n:Nat),QfK (JB cfg n) (Qb cfg)
 | 0,ws,f,args,h,r,ev=>by simp[JB]at ev
 | n+1,ws,f,args,h,r,ev=>by
  unfold JB at ev;split at ev
  ·rename_i x hx; exact QN hx ev
  ·rename_i hx;split at ev
   ·rename_i fn hf; exact Qc hx hf (Qzl (QlZ n) (QmS n) ev)
   ·cases ev
end Go.Avm
namespace Go.Avm
attribute [simp] evF finish JZ norm evC Jt Wv andThen done evS Wf WJ XE evI O.val Env.get Jc Env.put Env.keep Env.drop Qbq QfQ leave Qpv Qpw Qpx QiW QaB
 QxP eqI unI QfO Qqp XZ S1.QcH XW QH deep kill AV.pure Qv ifB inBlock QcT Yg ldc Qkn partsOf Jp bound setAt look Zv Qbd QcL QnE QfZ Qgb Je Dyn.ok Qql alive Qxt XD AV.scalar AV.flat AV.ZF QqW Qxl Qso Qox AV.top QmK
@[simp] theorem QyB (l:List AV):Wo l l=true:=Qaz l
@[simp] theorem QzC (b:Nat):AV.cells (AV.mref b)=[(AV.mref b)]:=rfl
@[simp] theorem QBw (b:Nat):AV.one (AV.mref b)=true:=rfl
@[simp] theorem Qzy :AV.cells (AV.nilm)=[(AV.nilm)]:=rfl
@[simp] theorem QBs :AV.one (AV.nilm)=true:=rfl
@[simp] theorem Qzw :AV.cells (AV.nils)=[(AV.nils)]:=rfl
@[simp] theorem QBq :AV.one (AV.nils)=true:=rfl
@[simp] theorem QzB (b:Nat):AV.cells (AV.nbuf b)=[(AV.nbuf b)]:=rfl
@[simp] theorem QBv (b:Nat):AV.one (AV.nbuf b)=true:=rfl
@[simp] theorem QzF (b n:Nat):AV.cells (JP b n)=[JP b n]:=by unfold JP; split<;>rfl
@[simp] theorem QBz (b n:Nat):AV.one (JP b n)=true:=by unfold JP; split<;>rfl
@[simp] theorem QAl (b n:Nat):Qox (JP b n)=some (b,n):=by unfold JP; split<;>simp_all [Qox]
@[simp] theorem QAX :AV.cells (AV.any)=[(AV.any)]:=rfl
@[simp] theorem QDQ :AV.one (AV.any)=false:=rfl
@[simp] theorem QzG (b:Bool):AV.cells (AV.bool b)=[(AV.bool b)]:=rfl
@[simp] theorem QBA (b:Bool):AV.one (AV.bool b)=true:=rfl
@[simp] theorem QAV (k:IntKind)(n:Int):AV.cells (AV.int k n)=[(AV.int k n)]:=rfl
@[simp] theorem QDO (k:IntKind)(n:Int):AV.one (AV.int k n)=true:=rfl
@[simp] theorem QAR (s:ByteArray):AV.cells (AV.str s)=[(AV.str s)]:=rfl
@[simp] theorem QDK (s:ByteArray):AV.one (AV.str s)=true:=rfl
@[simp] theorem Qzx :AV.cells (AV.nilp)=[(AV.nilp)]:=rfl
@[simp] theorem QBr :AV.one (AV.nilp)=true:=rfl
@[simp] theorem QAS (b v z i o:Nat):AV.cells (AV.ptr b v z i o)=[(AV.ptr b v z i o)]:=rfl
@[simp] theorem QDL (b v z i o:Nat):AV.one (AV.ptr b v z i o)=true:=rfl
@[simp] theorem QzD (l:List AV):AV.cells (AV.iptr l)=[(AV.iptr l)]:=rfl
@[simp] theorem QBx (l:List AV):AV.one (AV.iptr l)=true:=rfl
@[simp] theorem QAU (l:List AV):AV.cells (AV.isl l)=[(AV.isl l)]:=rfl
@[simp] theorem QDN (l:List AV):AV.one (AV.isl l)=true:=rfl
@[simp] theorem QAW :AV.cells (AV.esl)=[(AV.esl)]:=rfl
@[simp] theorem QDP :AV.one (AV.esl)=true:=rfl
@[simp] theorem QAT (b v z o l:Nat):AV.cells (AV.osl b v z o l)=[(AV.osl b v z o l)]:=rfl
@[simp] theorem QDM (b v z o l:Nat):AV.one (AV.osl b v z o l)=true:=rfl
@[simp] theorem QAY (l:List AV):AV.cells (AV.agg l)=l:=rfl
@[simp] theorem QDR (l:List AV):AV.one (AV.agg l)=false:=rfl
@[simp] theorem QAQ (l:List AV):AV.cells (AV.tup l)=[(AV.tup l)]:=rfl
@[simp] theorem QDJ (l:List AV):AV.one (AV.tup l)=false:=rfl
@[simp] theorem QzE (f:FuncId)(k:Nat)(l:List AV):AV.cells (AV.QI f k l)=[(AV.QI f k l)]:=rfl
@[simp] theorem QBy (f:FuncId)(k:Nat)(l:List AV):AV.one (AV.QI f k l)=true:=rfl
@[simp] theorem QzA :AV.cells (AV.nilf)=[(AV.nilf)]:=rfl
@[simp] theorem QBu :AV.one (AV.nilf)=true:=rfl
@[simp] theorem Qzz :AV.cells (AV.nili)=[(AV.nili)]:=rfl
@[simp] theorem QBt :AV.one (AV.nili)=true:=rfl
@[simp] theorem Qyn (t:TypeId)(v:AV):AV.cells (AV.iface t v)=[(AV.iface t v)]:=rfl
@[simp] theorem QAL (t:TypeId)(v:AV):AV.one (AV.iface t v)=true:=rfl
theorem Jj {base:Nat}: ∀{n:Nat} {v:AV} {h:H},v.pure=true->frz base n v h=some (v,h)
 | 0,v,h,hp=>by simp only[frz,hp,if_true]
 | n+1,v,h,hp=>by unfold frz; rw[if_pos hp]
theorem Zj {base n:Nat}{h:H}: ∀{l:List AV},Qv l=true->XW (frz base n) l h=some (l,h)
 | [],_=>rfl
 | v::l,hp=>by
  simp only[Qv,Bool.and_eq_true]at hp;simp only[XW,Jj hp.1,Zj hp.2]
@[simp] theorem QEc (base n:Nat)(l:List AV)(h:H):frz base (n+1) (.agg l) h=match XW (frz base n) l h with | some (l',h')=>some (.agg l',h') | none=>none:=by
 by_cases hp:Qv l=true
 ·rw[Jj (by simpa using hp),Zj hp]
 ·rw[frz,if_neg (by simpa using hp)]; rfl
@[simp] theorem QDW (base n:Nat)(l:List AV)(h:H):frz base (n+1) (.tup l) h=match XW (frz base n) l h with | some (l',h')=>some (.tup l',h') | none=>none:=by
 by_cases hp:Qv l=true
 ·rw[Jj (by simpa using hp),Zj hp]
 ·rw[frz,if_neg (by simpa using hp)]; rfl
@[simp] theorem QDZ (base n:Nat)(l:List AV)(h:H):frz base (n+1) (.isl l) h=match XW (frz base n) l h with | some (l',h')=>some (.isl l',h') | none=>none:=by
 by_cases hp:Qv l=true
 ·rw[Jj (by simpa using hp),Zj hp]
 ·rw[frz,if_neg (by simpa using hp)]; rfl
@[simp] theorem QEb (base n:Nat)(h:H):frz base (n+1) .esl h=some (.isl [],h):=rfl
@[simp] theorem Qxq (base n b ver sz off len:Nat)(h:H):frz base (n+1) (.osl b ver sz off len) h=if b<base then some (.osl b ver sz off len,h)else match look h b ver sz off len with
      | some els=>(match XW (frz base n) els (kill h b ver)with | some (l',h')=>some (.isl l',h') | none=>none)
      | none=>none:=rfl
@[simp] theorem QDY (base n b ver sz i o:Nat)(h:H):frz base (n+1) (.ptr b ver sz i o) h=if b<base then some (.ptr b ver sz i o,h)else none:=rfl
@[simp] theorem QEa (base n:Nat)(k:IntKind)(x:Int)(h:H):frz base n (.int k x) h=some (.int k x,h):=Jj rfl
@[simp] theorem QBP (base n:Nat)(b:Bool)(h:H):frz base n (.bool b) h=some (.bool b,h):=Jj rfl
@[simp] theorem QDX (base n:Nat)(s:ByteArray)(h:H):frz base n (.str s) h=some (.str s,h):=Jj rfl
@[simp] theorem QBN (base n:Nat)(h:H):frz base n .nilp h=some (.nilp,h):=Jj rfl
theorem Zc {h:H}: ∀{n:Nat} {v:AV},v.pure=true->snap h n v=some v
 | 0,v,hp=>by simp only[snap,hp,if_true]
 | n+1,v,hp=>by unfold snap; rw[if_pos hp]
theorem Qx {h:H}{n:Nat}: ∀{l:List AV},Qv l=true->QH (snap h n) l=some l
 | [],_=>rfl
 | v::l,hp=>by
  simp only[Qv,Bool.and_eq_true]at hp;simp only[QH,Zc hp.1,Qx hp.2]
@[simp] theorem QBp (h:H)(n:Nat)(l:List AV):snap h (n+1) (.agg l)=(QH (snap h n) l).map .agg:=by
 by_cases hp:Qv l=true
 ·rw[Zc (by simpa using hp),Qx hp]; rfl
 ·rw[snap,if_neg (by simpa using hp)]
@[simp] theorem QBm (h:H)(n:Nat)(l:List AV):snap h (n+1) (.isl l)=(QH (snap h n) l).map .isl:=by
 by_cases hp:Qv l=true
 ·rw[Zc (by simpa using hp),Qx hp]; rfl
 ·rw[snap,if_neg (by simpa using hp)]
@[simp] theorem QAF (h:H)(n:Nat)(f:FuncId)(k:Nat)(l:List AV):snap h (n+1) (.QI f k l)=(QH (snap h n) l).map (.QI f k):=by
 by_cases hp:Qv l=true
 ·rw[Zc (by simpa using hp),Qx hp]; rfl
 ·rw[snap,if_neg (by simpa using hp)]
@[simp] theorem QBo (h:H)(n:Nat):snap h (n+1) .esl=some (.isl []):=rfl
@[simp] theorem QBl (h:H)(n b ver sz off len:Nat):snap h (n+1) (.osl b ver sz off len)=match look h b ver sz off len with
      | some els=>(QH (snap h n) els).map .isl
      | none=>none:=rfl
@[simp] theorem QBn (h:H)(n:Nat)(k:IntKind)(x:Int):snap h n (.int k x)=some (.int k x):=Zc rfl
@[simp] theorem QAG (h:H)(n:Nat)(b:Bool):snap h n (.bool b)=some (.bool b):=Zc rfl
@[simp] theorem QBj (h:H)(n:Nat)(s:ByteArray):snap h n (.str s)=some (.str s):=Zc rfl
@[simp] theorem QAD (h:H)(n:Nat):snap h n .nilp=some .nilp:=Zc rfl
@[simp] theorem Qyx (h:H)(n:Nat)(l:List ByteArray):QH (snap h n) (l.map AV.str)=some (l.map AV.str):=Qx (by induction l<;>simp_all)
@[simp] theorem QAP (base n:Nat)(l:List ByteArray)(h:H):XW (frz base n) (l.map AV.str) h=some (l.map AV.str,h):=Zj (by induction l<;>simp_all)
@[simp] theorem Zh (h x:H)(k:Nat):(h++x)[h.length+k]? =x[k]?:=by rw[List.getElem?_append_right (by omega)]; congr 1; omega
@[simp] theorem QAN (h x:H):(h++x)[h.length]? =x[0]?:=Zh h x 0
@[simp] theorem heap_set (h x:H)(k:Nat)(v:Qq):(h++x).set (h.length+k) v=h++x.set k v:=by
 have:=List.set_append_right (s:=h) (t:=x) (h.length+k) v (by omega)
 rw[Nat.add_sub_cancel_left]at this; exact this
@[simp] theorem QAM (h x:H)(v:Qq):(h++x).set h.length v=h++x.set 0 v:=heap_set h x 0 v
@[simp] theorem Qwq {α β:Type}(f:α->β)(l:List α):List.take l.length (l.map f)=l.map f:=by rw[←List.length_map (f:=f),List.take_length]
@[simp] theorem QyT (n k:Nat):(n+k<n)↔False:=by simp
theorem Qvh {α β:Type}(c:Prop) [Decidable c](a b:α)(h:β):(if c then some (a,h)else some (b,h))=some (if c then a else b,h):=by split<;>rfl
theorem ite_bool (c:Prop) [Decidable c](a b:Bool):(if c then AV.bool a else AV.bool b)=AV.bool (if c then a else b):=by split<;>rfl
attribute [simp] Qvh ite_bool
@[simp] theorem QDV (a b:Bool):(if a=true then b else a)=(a&&b):=by cases a<;>rfl
@[simp] theorem QBM (a b:Bool):(if a=true then b else false)=(a&&b):=by cases a<;>rfl
@[simp] theorem QEg (a b:Bool):(if a=true then a else b)=(a||b):=by cases a<;>rfl
@[simp] theorem QDU (a b:Bool):(if a=false then b else a)=(a||b):=by cases a<;>rfl
@[simp] theorem QDT (a b:Bool):(if a=false then b else true)=(a||b):=by cases a<;>rfl
@[simp] theorem QyE (l:List ByteArray):Qv (l.map AV.str)=true:=by induction l<;>simp_all
theorem QG {f:Env->H->Out}{keep:List Nat}{e:Env}{h:H}{r:Ex×Env×H}(ev: ∀K:Env->H->Out,(∀e h,K e h=Qa f keep e h)->andThen (f (e.keep keep) h) K=some r):Qa f keep e h=some r:=Zo (ev _ fun _ _=>rfl)
theorem Qd {n:Nat}(h:n<9223372036854775808):IntKind.wrap .i64 (n:Int)=n:=by
 simp[IntKind.wrap,IntKind.bits,IntKind.signed]; omega
theorem QU {n:Int}(h1: -9223372036854775808<=n)(h2:n<9223372036854775808):IntKind.wrap .i64 n=n:=by
 simp[IntKind.wrap,IntKind.bits,IntKind.signed]; omega
theorem QqT {f:Env->H->Out}{keep:List Nat}(n:Nat)(S:Nat->Env)(G:Nat->H)(R:Nat->Ex×Env×H)
    (step: ∀i,i<n-> ∀K:Env->H->Out,K (S (i+1)) (G (i+1))=some (R (i+1))->andThen (f ((S i).keep keep) (G i)) K=some (R i))
    (last: ∀K,andThen (f ((S n).keep keep) (G n)) K=some (R n)):Qa f keep (S 0) (G 0)=some (R 0):=by
 have go: ∀k i,i+k=n->Qa f keep (S i) (G i)=some (R i):=by
  intro k
  induction k with
  | zero=>intro i hi; have:i=n:=by omega
          subst this; exact Zo (last _)
  | succ k ih=>intro i hi; exact Zo (step i (by omega) _ (ih (i+1) (by omega)))
 exact go n 0 (by omega)
theorem QE {α:Type}{f:Env->H->Out}{keep:List Nat}(l:List α)(S:Nat->Env)(G:Nat->H)(R:Nat->List α->Ex×Env×H)
    (step: ∀i x r,l.drop i=x::r->(hi:i<l.length)->l[i]=x-> ∀K:Env->H->Out,K (S (i+1)) (G (i+1))=some (R (i+1) r)->andThen (f ((S i).keep keep) (G i)) K=some (R i (x::r)))
    (last: ∀K,andThen (f ((S l.length).keep keep) (G l.length)) K=some (R l.length [])):Qa f keep (S 0) (G 0)=some (R 0 l):=by
 have:=QqT (f:=f) (keep:=keep) l.length S G (fun i=>R i (l.drop i)) (fun i hi K hK=>by
  have hd:l.drop i=l[i]::l.drop (i+1):=List.drop_eq_getElem_cons hi;show _=some (R i (l.drop i));rw[hd];exact step i _ _ hd hi rfl K hK) (fun K=>by simpa using last K)
 simpa using this
theorem Qg {α γ:Type}{f:Env->H->Out}{keep:List Nat}(l:List α)(I:Nat->γ->Prop)(S:Nat->γ->Env)(G:Nat->γ->H)(Qat:Nat->List α->Ex×Env×H->Prop)
    (step: ∀i x r c,l.drop i=x::r->(hi:i<l.length)->l[i]=x->I i c-> ∀K:Env->H->Out,(∀c',I (i+1) c'-> ∃o,K (S (i+1) c') (G (i+1) c')=some o/\Qat (i+1) r o)-> ∃o,andThen (f ((S i c).keep keep) (G i c)) K=some o/\Qat i (x::r) o)
    (last: ∀c K,I l.length c-> ∃o,andThen (f ((S l.length c).keep keep) (G l.length c)) K=some o/\Qat l.length [] o) (c:γ) (h0:I 0 c): ∃o,Qa f keep (S 0 c) (G 0 c)=some o/\Qat 0 l o:=by
 have go: ∀k i c,i+k=l.length->I i c-> ∃o,Qa f keep (S i c) (G i c)=some o/\Qat i (l.drop i) o:=by
  intro k
  induction k with
  | zero=>
   intro i c hi hI;have:i=l.length:=by omega
   subst this;obtain⟨o,h1,h2⟩:=last c _ hI;exact⟨o,Zo h1,by simpa using h2⟩
  | succ k ih=>
   intro i c hi hI;have hlt:i<l.length:=by omega
   have hd:l.drop i=l[i]::l.drop (i+1):=List.drop_eq_getElem_cons hlt;obtain⟨o,h1,h2⟩:=step i _ _ c hd hlt rfl hI _ fun c' hc'=>ih (i+1) c' (by omega) hc'
   exact⟨o,Zo h1,by rw[hd]; exact h2⟩
 simpa using go l.length 0 c (by omega) h0
def Qy (n k sz:Nat)(g:H)(acc:List AV)(v:AV):Prop:=(acc=[]/\v= .esl)\/ ∃j ver,v= .osl (n+(j+k)) ver sz 0 acc.length/\g[j]? =some (.arr ver sz acc)
end Go.Avm
namespace Go.Avm
@[reducible, simp] def O.i(n:Int):O:=.k (.int .i64 n)
@[reducible, simp] def S1.o(d:Nat)(i:I):S1:=.op (some d) i
@[reducible, simp] def S1.n(i:I):S1:=.op none i
@[reducible, simp] def S1.m(d x:Nat):S1:=.op (some d) (.mv (.t x))
@[reducible, simp] def S1.l(d sz x:Nat):S1:=.op (some d) (.ld sz true (.t x))
@[reducible, simp] def S1.c(d x:Nat):S1:=.op (some d) (.ld 1 false (.t x))
@[reducible, simp] def S1.f(d off x:Nat):S1:=.op (some d) (.fadr off (.t x))
@[reducible, simp] def S1.x(d sz x i:Nat):S1:=.op (some d) (.idxa sz (.t x) (.t i))
@[reducible, simp] def S1.b(d:Nat)(op:BinOp)(x y:Nat):S1:=.op (some d) (.bin op (.t x) (.t y))
@[reducible, simp] def S1.s(sz x v:Nat):S1:=.op none (.st sz (.t x) (.t v))
@[reducible, simp] def S1.u(d x i:Nat):S1:=.op (some d) (.tupx (.t x) i)
@[reducible, simp] def S1.e(d x:Nat):S1:=.op (some d) (.len false (.t x))
@[reducible, simp] def S1.j(d:Nat)(op:BinOp)(x:Nat)(n:Int):S1:=.op (some d) (.bin op (.t x) (.k (.int .i64 n)))
@[reducible, simp] def S1.a(d:Nat)(f:FuncId)(l:List Nat):S1:=.op (some d) (.call f (l.map .t))
@[reducible, simp] def C.y(x:Nat)(a b:C):C:=.cond (.t x) a b
end Go.Avm
