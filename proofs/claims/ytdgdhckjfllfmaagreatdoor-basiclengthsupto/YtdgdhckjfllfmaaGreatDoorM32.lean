/- A law's call: from what the abstract machine reckons to what the program does. -/
import Derived.Test.YtdgdhckjfllfmaaGreatDoorM30
import Derived.Test.YtdgdhckjfllfmaaGreatDoorM31
import Derived.Carry
set_option linter.all false
namespace Go.Avm
section
variable {call call' : CallF} {lp lp' : LoopF} {fpol : FuncId→Option Pol} {base ws : Nat}
def CallLe (call call' : CallF) : Prop:=∀ ws f args h r,call ws f args h=some r→call' ws f args h=some r
def FLe (f f' : Env→H→Out) : Prop:=∀ e h r,f e h=some r→f' e h=some r
def LpLe (lp lp' : LoopF) : Prop:=∀ f f' keep e h r,FLe f f'→lp f keep e h=some r→lp' f' keep e h=some r
theorem doOp_le (hc : CallLe call call') {e : Env} {h : H} {i : I} {r : AV × H} (ev : doOp call fpol base ws e h i=some r) : doOp call' fpol base ws e h i=some r:=by
 by_cases h1 : ∃ f args,i = .call f args
 ·obtain ⟨f,args,rfl⟩:=h1
  simp only [doOp] at ev ⊢
  split at ev
  ·exact hc _ _ _ _ _ ev
  ·cases ev
 ·by_cases h2 : ∃ pu f args,i = .callv pu f args
  ·obtain ⟨pu,f,args,rfl⟩:=h2
   simp only [doOp] at ev ⊢
   split at ev
   ·split at ev
    ·rename_i hp
     simp only [hp,if_true]
     split at ev
     ·exact hc _ _ _ _ _ ev
     ·exact hc _ _ _ _ _ ev
     ·cases ev
    ·rename_i hp
     simp only [hp]
     exact hc _ _ _ _ _ ev
   ·cases ev
  ·cases i <;> first | exact ev | exact absurd ⟨_,_,rfl⟩ h1 | exact absurd ⟨_,_,_,rfl⟩ h2
mutual
theorem evS1_le (hc : CallLe call call') : ∀ (x : S1) (e : Env) (h : H) (r : Env × H),evS1 call fpol base ws x e h=some r→evS1 call' fpol base ws x e h=some r
 | .op d i,e,h,r,ev=>by
  unfold evS1 at ev ⊢
  cases hx : doOp call fpol base ws e h i with
  | none=>rw [hx] at ev; simp [andV] at ev
  | some p=>rw [hx] at ev; rw [doOp_le hc hx]; exact ev
 | .sc s want body d rr o,e,h,r,ev=>by
  unfold evS1 at ev ⊢
  split at ev
  ·rename_i b hb
   split at ev
   ·rename_i hw
    rw [if_pos hw]
    cases hbody : evS call fpol base ws body e h with
    | none=>rw [hbody] at ev; simp [valIn,andV] at ev
    | some p=>rw [hbody] at ev; rw [evS_le hc body e h p hbody]; exact ev
   ·rename_i hw
    rw [if_neg hw]; exact ev
  ·cases ev
theorem evS_le (hc : CallLe call call') : ∀ (l : List S1) (e : Env) (h : H) (r : Env × H),evS call fpol base ws l e h=some r→evS call' fpol base ws l e h=some r
 | [],e,h,r,ev=>by unfold evS at ev ⊢; exact ev
 | x :: l,e,h,r,ev=>by
  unfold evS at ev ⊢
  cases hx : evS1 call fpol base ws x e h with
  | none=>rw [hx] at ev; cases ev
  | some p=>
   rw [hx] at ev
   rw [evS1_le hc x e h p hx]
   exact evS_le hc l p.1 p.2 r ev
end
theorem evC_le (hc : CallLe call call') (hl : LpLe lp lp') : ∀ (c : C),FLe (evC call lp fpol base ws c) (evC call' lp' fpol base ws c):=by
 intro c
 induction c with
 | skip=>intro e h r ev; exact ev
 | stuck=>intro e h r ev; simp [evC] at ev
 | ops l=>
  intro e h r ev
  simp only [evC] at ev ⊢
  cases hs : evS call fpol base ws l e h with
  | none=>rw [hs] at ev; simp [done] at ev
  | some p=>rw [hs] at ev; rw [evS_le hc l e h p hs]; exact ev
 | dops ord far l=>
  intro e h r ev
  simp only [evC] at ev ⊢
  cases hs : evS call fpol base ws l e h with
  | none=>rw [hs] at ev; simp [ifFar,done] at ev
  | some p=>rw [hs] at ev; rw [evS_le hc l e h p hs]; exact ev
 | seq c d ihc ihd=>
  intro e h r ev
  simp only [evC] at ev ⊢
  cases h3 : evC call lp fpol base ws c e h with
  | none=>rw [h3] at ev; simp [andThen] at ev
  | some p=>
   obtain ⟨y,e2,h2⟩:=p
   rw [h3] at ev
   rw [ihc e h _ h3]
   cases y with
   | normal=>exact ihd e2 h2 r ev
   | exit id=>exact ev
   | ret=>exact ev
 | cond v c d ihc ihd=>
  intro e h r ev
  simp only [evC,ifB] at ev ⊢
  split at ev
  ·rename_i t hv
   cases t with
   | true=>simpa using ihc e h r (by simpa using ev)
   | false=>simpa using ihd e h r (by simpa using ev)
  ·cases ev
 | block id c ihc=>
  intro e h r ev
  simp only [evC] at ev ⊢
  cases h3 : evC call lp fpol base ws c e h with
  | none=>rw [h3] at ev; simp [inBlock] at ev
  | some p=>rw [h3] at ev; rw [ihc e h p h3]; exact ev
 | loop keep c ihc=>
  intro e h r ev
  simp only [evC] at ev ⊢
  exact hl _ _ _ _ _ _ ihc ev
 | exit id=>intro e h r ev; exact ev
 | ret=>intro e h r ev; exact ev
 | forget keep c ihc=>
  intro e h r ev
  simp only [evC] at ev ⊢
  cases h3 : evC call lp fpol base ws c e h with
  | none=>rw [h3] at ev; simp [keeping] at ev
  | some p=>rw [h3] at ev; rw [ihc e h p h3]; exact ev
theorem evF_le (hc : CallLe call call') (hl : LpLe lp lp') {f : F} {args : List AV} {h : H} {r : AV × H} (ev : evF call lp fpol ws f args h=some r) : evF call' lp' fpol ws f args h=some r:=by
 unfold evF at ev ⊢
 cases hargs : enterArgs f.pol h args with
 | none=>rw [hargs] at ev; cases ev
 | some ags=>
  rw [hargs] at ev
  dsimp only at ev ⊢
  cases h3 : evC call lp fpol h.length (wsOf f.pol ws h.length) f.code (argEnv 0 ags) h with
  | none=>rw [h3] at ev; simp [finish] at ev
  | some p=>rw [h3] at ev; rw [evC_le hc hl f.code _ h p h3]; exact ev
end
theorem rounds_le {f f' : Env→H→Out} (hf : FLe f f') {keep : List Nat} : ∀ {n : Nat} {e : Env} {h : H} {r : Ex × Env × H},rounds n f keep e h=some r→rounds n f' keep e h=some r
 | 0,e,h,r,ev=>by simp [rounds] at ev
 | n + 1,e,h,r,ev=>by
  rw [rounds] at ev ⊢
  cases h3 : f (e.keep keep) h with
  | none=>rw [h3] at ev; simp [andThen] at ev
  | some p=>
   obtain ⟨y,e2,h2⟩:=p
   rw [h3] at ev
   rw [hf _ _ _ h3]
   cases y with
   | normal=>exact rounds_le hf (n:=n) ev
   | exit id=>exact ev
   | ret=>exact ev
theorem rounds_lpLe (n : Nat) : LpLe (rounds n) roundsL:=fun _ _ _ _ _ _ hf ev=>roundsL_some.2 ⟨n,rounds_le hf ev⟩
theorem callN_L {cfg : Cfg} : ∀ (n : Nat),CallLe (callN cfg n) (callL cfg)
 | 0,ws,f,args,h,r,ev=>by simp [callN] at ev
 | n + 1,ws,f,args,h,r,ev=>by
  unfold callN at ev
  split at ev
  ·rename_i x hx; exact callL_ext hx ev
  ·rename_i hx
   split at ev
   ·rename_i fn hf; exact callL_fn hx hf (evF_le (callN_L n) (rounds_lpLe n) ev)
   ·cases ev
end Go.Avm
namespace Go.Avm
open Go.RowKit Go.ChangeShapes
def argsTy (P : Program) : List TypeId→List AV→Prop
 | [],xs=>xs=[]
 | t :: ts,xs=>∃ fuel l r,xs=ofCells (aggT P t) l :: r∧hasTy P fuel t l∧argsTy P ts r
section
variable {H : Type} {enc : TypeId × Value→H} {P : Program} {w : World} {base : Nat} {spare : Nat→Bool} {held : Bool} {V : View} {β : Beta}
theorem okWide_nonagg {t : TypeId} {v : Value} {b : Nat} (ha : aggT P t=false) (h : Value.okWide P w .any b t v) : v.cells = #[v]:=by
 cases v with
 | agg cs=>
  exfalso
  unfold Value.okWide at h
  split at h
  ·rename_i hu; simp [aggT,hu] at ha
  ·rename_i hu; simp [aggT,hu] at ha
  ·unfold Cell.okWide at h
   split at h <;> simp_all [Cell.ok]
 | _=>rfl
theorem read_args {B : DataW H→Nat} {BA : List (DataW H)→Nat} (K : BulkOk B BA) (hV : ∀ c o v,w.cell? ⟨c,o,none⟩=some v→V.M c o=some v) {b0 : Nat} : ∀ (ts : List TypeId) (vs : List Value) (ds : List (DataW H)) (ps : List MemPlace),
    DataW.TrodAll enc P w base spare held ts vs ds ps→(∀ (j : Nat) (t : TypeId) (v : Value),ts[j]? = some t→vs[j]? = some v→Value.okWide P w .any b0 t v) →
    ∃ xs,argsTy P ts xs∧RelL V β xs vs∧bulkL xs≤BA ds
 | [],vs,ds,ps,h,_=>by
  obtain ⟨rfl,rfl,rfl⟩:=trodAll_nil h
  exact ⟨[],rfl,by unfold RelL; rfl,by simp [bulkL]⟩
 | t :: ts,vs,ds,ps,h,hok=>by
  obtain ⟨v,vs',d,ds',p,q,rfl,rfl,rfl,⟨fuel,h1⟩,h2⟩:=trodAll_cons h
  obtain ⟨xs,k1,k2,k3⟩:=read_args K hV ts vs' ds' q h2 fun j t v ht hv=>hok (j + 1) t v (by simpa using ht) (by simpa using hv)
  obtain ⟨ys,m1,m2,m3,m4⟩:=read_of (β:=β) K hV fuel t _ _ h1
  have h0:=hok 0 t v rfl rfl
  have hx : Rel V β (ofCells (aggT P t) ys) v∧(ofCells (aggT P t) ys).bulk≤bulkL ys + (if aggT P t then 1 else 0):=by
   cases hag : aggT P t with
   | true=>
    have hv : ∃ cs,v = .agg cs:=by
     unfold Value.okWide at h0
     split at h0
     ·obtain ⟨cs,e,_⟩:=h0; exact ⟨cs,e⟩
     ·obtain ⟨cs,e,_⟩:=h0; exact ⟨cs,e⟩
     ·exfalso
      unfold aggT at hag
      split at hag <;> simp_all
    obtain ⟨cs,rfl⟩:=hv
    refine ⟨?_,by simp [ofCells,AV.bulk]⟩
    simp only [ofCells,if_true]
    unfold Rel
    exact ⟨cs,rfl,m2⟩
   | false=>
    have hc:=okWide_nonagg hag h0
    rw [hc] at m2
    match ys,m2,(RelL_iff.1 m2).1 with
    | [y],m2,_=>
     unfold RelL at m2
     obtain ⟨u,r,e,hr,_⟩:=m2
     have : v=u:=by simpa using congrArg List.head? e
     subst this
     exact ⟨by simpa [ofCells] using hr,by simp [ofCells,bulkL]⟩
  refine ⟨ofCells (aggT P t) ys :: xs,⟨fuel,ys,xs,rfl,m1,k1⟩,?_,?_⟩
  ·unfold RelL; exact ⟨v,vs',rfl,hx.1,k2⟩
  ·simp only [bulkL,K.cons]; have:=hx.2; dsimp only at m4; omega
end
theorem sim_start (w : World) : Sim w 0 (fun _ _=>none) [] w where
 below:=Below.refl _ _
 dom:=by intro _ _ _ h; cases h
 domv:=by intro _ _ h; cases h
 inj:=by intro _ _ _ _ _ _ _ h; cases h
 arr:=by intro b v sz els c h; simp at h
 sit:=by intro b s p c h; simp at h
 old:=by intros; rfl
 oldd:=by intros; rfl
theorem start_reads (w : World) (c o : Nat) (v : Value) (h : w.cell? ⟨c,o,none⟩=some v) : (view 0 (fun _ _=>none) [] w).M c o=some v:=
 view_M_mk h (live_none (Nat.zero_le _) c)
theorem callL_calls {P : Program} {cfg : Cfg} {f : FuncId} {fn : Func} {k : Code} {dchk : Nat→DChk} (C : ∀ w0,CfgOk P w0 dchk cfg) (hf : P.funcs[f]? = some fn) (hname : fn.name ≠ "runtime.NumGoroutine") (hb : fn.body=some k)
    {xs : List AV} {r : AV} {h' : Avm.H} (ev : callL cfg 0 f xs []=some (r,h')) {W : World} {vs : Array Value} (hr : RelL (view 0 (fun _ _=>none) [] W) (fun _ _=>none) xs vs.toList) :
    Calls P f vs W fun e W'=>∃ v V β,e = .returned v∧Below W.heap.size W W'∧Rel V β r v:=by
 rcases callL_ok (C W) 0 f xs [] r h' 0 (fun _ _=>none) W vs ev (Nat.le_refl _) (Nat.le_refl _) (sim_start W) hr with ⟨_,hc⟩ | ⟨v,w',h4,_⟩
 ·exact hc.mono fun e W' ⟨v,e1,β',S,_,hr⟩=>⟨v,_,_,e1,S.below,hr⟩
 ·rw [callFunc_run hf hname hb] at h4
  cases h4
theorem law_calls {P : Program} {cfg : Cfg} {f : FuncId} {fn : Func} {k : Code} {dchk : Nat→DChk} {W : World} (C : CfgOk P W dchk cfg) (hf : P.funcs[f]? = some fn) (hname : fn.name ≠ "runtime.NumGoroutine") (hb : fn.body=some k)
    {H : Type} {enc : TypeId × Value→H} {B : DataW H→Nat} {BA : List (DataW H)→Nat} (K : BulkOk B BA) {n : Nat} (ev : ∀ xs,argsTy P fn.params.toList xs→bulkL xs≤n→∃ h',callL cfg 0 f xs []=some (.bool true,h'))
    {b0 : Nat} {args : Array Value} {ds : List (DataW H)} {ps : List MemPlace} {spare : Nat→Bool} {held : Bool} (hval : ∀ (j : Nat) (t : TypeId) (v : Value),fn.params[j]? = some t→args[j]? = some v→Value.okWide P W .any b0 t v)
    (hA : DataW.TrodAll enc P W 0 spare held fn.params.toList args.toList ds ps) (hn : BA ds≤n) :
    Calls P f args W fun e W'=>e = .returned (.bool true)∧Below W.heap.size W W':=by
 obtain ⟨xs,h1,h2,h3⟩:=read_args (β:=fun _ _=>none) K (start_reads W) fn.params.toList args.toList ds ps hA fun j t v ht hv=>hval j t v (by simpa using ht) (by simpa using hv)
 obtain ⟨h',he⟩:=ev xs h1 (Nat.le_trans h3 hn)
 have hi:=callL_ok C 0 f xs [] (.bool true) h' 0 (fun _ _=>none) W args he (Nat.le_refl _) (Nat.le_refl _) (sim_start W) h2
 rcases hi with ⟨_,hc⟩ | ⟨v,w',h4,_⟩
 ·refine hc.mono fun e W' ⟨v,e1,β',S,_,hr⟩=>?_
  unfold Rel at hr
  subst hr
  exact ⟨e1,S.below⟩
 ·rw [callFunc_run hf hname hb] at h4
  cases h4
theorem stays {H : Type} {enc : TypeId × Value→H} {P : Program} (hl : laidOutB P=true) {W W' : World} (hb : Below W.heap.size W W') {sp : Nat→Bool} : ∀ {ts : List TypeId} {vs : List Value} {ds : List (DataW H)} {ps : List MemPlace},ts.all (fun t=>P.readableRec t && decide (t < P.types.size))=true →
    DataW.TrodAll enc P W 0 (fun _=>true) true ts vs ds ps→(∀ x ∈ ps,x.block < W.heap.size)→(∀ x ∈ ps,sp x.block=true)→DataW.TrodAll enc P W' 0 sp true ts vs ds ps
 | [],_,_,_,_,h,_,_=>by
  obtain ⟨rfl,rfl,rfl⟩:=trodAll_nil h
  simp [DataW.TrodAll]
 | t :: ts,_,_,_,ht,h,hlt,hs=>by
  obtain ⟨v,vs',d,ds',p,q,rfl,rfl,rfl,h1,h2⟩:=trodAll_cons h
  simp only [List.all_cons,Bool.and_eq_true,decide_eq_true_eq] at ht
  exact ⟨p,q,WideElems.Trod_stays hl ht.1.1 ht.1.2 h1 (fun x hx=>hb.same (hlt x (by simp [hx]))) (fun x hx=>hs x (by simp [hx])),stays hl hb ht.2 h2 (fun x hx=>hlt x (by simp [hx])) (fun x hx=>hs x (by simp [hx])),rfl⟩
theorem law_post {H : Type} {enc : TypeId × Value→H} {P : Program} {f : Func} {s : ChangeSpec} {apart fresh handsOn again : Bool} {W W' : World} {args : Array Value} {ds gs : List (DataW H)} {before : List MemPlace} {tb : TypeId}
    (hW : DataW.Whole enc P f.params.toList s.vars apart W args.toList ds gs before) (hv0 : s.vars=[]) (hfn : s.fn H (ds++gs) = { results:=[.lit (.bool true)],args:=ds }) (hrt : f.resultTypes = #[tb]) (htb : P.underlying tb=some .bool)
    (hl : laidOutB P=true) (hts : f.params.toList.all (fun t=>P.readableRec t && decide (t < P.types.size))=true) (hb : Below W.heap.size W W') : s.post enc P f apart fresh handsOn again W args (.bool true) W':=by
 have hW2:=hW
 obtain ⟨pa,q,hA,hV,hps,hz,hn⟩:=hW
 rw [hv0] at hV
 obtain ⟨rfl,rfl⟩:=trodVars_none hV
 have hpa : before=pa:=by simpa using hps
 subst hpa
 have hlt : ∀ x ∈ before,x.block < W.heap.size:=fun x hx=>hW2.lt x hx
 have hargs : ∀ sp : Nat→Bool,(∀ p ∈ before,sp p.block=true)→DataW.TrodAll enc P W' 0 sp true f.params.toList args.toList (s.fn H (ds++[])).args before:=fun sp hs=>by
  rw [hfn]; exact stays hl hb hts hA hlt hs
 have hres : ∀ (b : Nat) (sp : Nat→Bool) (hd : Bool),DataW.TrodAll enc P W' b sp hd f.resultTypes.toList ((Value.bool true).resultList f.resultTypes.size) (s.fn H (ds++[])).results []:=fun b sp hd=>by
  rw [hfn,hrt]; exact trodAll_mk1 (shut_bool htb true)
 have hvars : ∀ sp : Nat→Bool,DataW.TrodVars enc P W' sp s.vars (s.fn H (ds++[])).vars []:=fun sp=>by rw [hfn,hv0]; rfl
 have hold : ∀ p ∈ before,(fun b=>decide (b < W.heap.size)) p.block=true:=fun p hp=>by simpa using hlt p hp
 refine ⟨ds,[],before,[],before,[],hW2,hres _ _ _,hargs _ hold,hvars _,World.keptBut_mono (fun p hp=>⟨hp,?_⟩) (hb.frame (· ∈ before)),fun _=>?_⟩
 ·simpa using hp
 ·refine ⟨ok_one hrt rfl (okWide_bool_mk htb _),_,_,([]++before)++[],⟨[]++before,[],trodAll_append (hargs _ (fun _ _=>rfl)) (hres _ _ _),hvars _,rfl,?_,?_⟩,?_⟩
  ·intro b off hp
   have hp : MemPlace.cell b off ∈ before:=by simpa using hp
   have h1:=hlt _ hp
   exact (hb.frozen (p:=⟨b,off,none⟩) h1).trans (hz b off (by simpa using hp))
  ·intro ha
   simpa using hn ha
  ·intro p hp _
   simpa using hp
section
variable {P : Program}
theorem hasTy_int {f : Nat} {t : TypeId} {k : IntKind} {xs : List AV} (hu : P.underlying t=some (.int k)) (h : hasTy P f t xs) : ∃ n,xs=[.int k n]∧(Lit.int k n).wf=true:=by
 cases f with
 | zero=>cases h
 | succ f=>simpa only [hasTy,hu] using h
theorem hasTy_bool {f : Nat} {t : TypeId} {xs : List AV} (hu : P.underlying t=some .bool) (h : hasTy P f t xs) : ∃ b,xs=[.bool b]:=by
 cases f with
 | zero=>cases h
 | succ f=>simpa only [hasTy,hu] using h
theorem hasTy_str {f : Nat} {t : TypeId} {xs : List AV} (hu : P.underlying t=some .string) (h : hasTy P f t xs) : ∃ s : ByteArray,xs=[.str s]:=by
 cases f with
 | zero=>cases h
 | succ f=>
  simp only [hasTy,hu] at h
  obtain ⟨s,h1,_⟩:=h
  exact ⟨s,h1⟩
theorem hasTy_slice {f : Nat} {t e : TypeId} {xs : List AV} (hu : P.underlying t=some (.slice e)) (hc : P.cellsOf e ≠ 0) (h : hasTy P f t xs) : ∃ els,xs=[.isl els]∧∀ x ∈ els,∃ l,x=ofCells (aggT P e) l∧hasTy P (f - 1) e l:=by
 cases f with
 | zero=>cases h
 | succ f=>
  simp only [hasTy,hu] at h
  obtain ⟨els,h1,_,h2⟩:=h hc
  exact ⟨els,h1,fun x hx=>by
   obtain ⟨l,k1,_,k2⟩:=h2 x hx
   exact ⟨l,k1,k2⟩⟩
theorem hasTy_struct {f : Nat} {t : TypeId} {fs : Array Field} {xs : List AV} (hu : P.underlying t=some (.struct fs)) (ht : tiled P 0 (P.cellsOf t) fs.toList=true) (h : hasTy P f t xs) : partsTy (hasTy P (f - 1)) fs.toList xs:=by
 cases f with
 | zero=>cases h
 | succ f=>
  simp only [hasTy,hu] at h
  exact h ht
theorem list_of {α : Type} {p : AV→Prop} {g : α→AV} (h : ∀ x,p x→∃ a,x=g a) : ∀ (l : List AV),(∀ x ∈ l,p x)→∃ r : List α,l=r.map g
 | [],_=>⟨[],rfl⟩
 | x :: l,hp=>by
  obtain ⟨a,ha⟩:=h x (hp x (by simp))
  obtain ⟨r,hr⟩:=list_of h l fun y hy=>hp y (by simp [hy])
  exact ⟨a :: r,by rw [List.map_cons,← ha,← hr]⟩
theorem hasTy_strs {f : Nat} {t e : TypeId} {xs : List AV} (hu : P.underlying t=some (.slice e)) (he : P.underlying e=some .string) (hc : P.cellsOf e ≠ 0) (h : hasTy P f t xs) : ∃ l : List ByteArray,xs=[.isl (l.map .str)]:=by
 obtain ⟨els,h1,h2⟩:=hasTy_slice hu hc h
 obtain ⟨l,hl⟩:=list_of (p:=fun x=>∃ s : ByteArray,x = .str s) (g:=AV.str) (fun x hx=>hx) els fun x hx=>by
  obtain ⟨l,rfl,hl⟩:=h2 x hx
  obtain ⟨s,rfl⟩:=hasTy_str he hl
  exact ⟨s,by simp [aggT,he,ofCells]⟩
 exact ⟨l,by rw [h1,hl]⟩
theorem bulkL_ge {α : Type} {g : α→AV} (hg : ∀ a,1≤(g a).bulk) : ∀ (l : List α),l.length≤bulkL (l.map g)
 | []=>by simp
 | x :: l=>by
  have:=hg x
  have:=bulkL_ge hg l
  simp only [List.map_cons,bulkL,List.length_cons]; omega
end
end Go.Avm
