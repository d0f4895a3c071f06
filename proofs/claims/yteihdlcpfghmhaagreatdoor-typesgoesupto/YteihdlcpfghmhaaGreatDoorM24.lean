/- The machine's configuration for the types' functions. -/
import Derived.Test.YteihdlcpfghmhaaGreatDoorM23
import Derived.Carry
import Derived.Test.YteihdlcpfghmhaaGreatDoorM21
import Derived.Test.YteihdlcpfghmhaaGreatDoorProg
import Derived.Test.YteihdlcpfghmhaaGreatDoorM22
import Derived.Lib.IndexMore
import Derived.Lib.AtoiAll
import Derived.Lib.ItoaNum
set_option linter.all false
namespace Go.Avm
open Go.RowKit Go.ChangeShapes
def argsTy (P : Program) : List TypeId→List AV→Prop
 | [],xs=>xs=[]
 | t :: ts,xs=>∃ fuel l r,xs=ofCells (aggT P t) l :: r∧hasTy P fuel t l∧argsTy P ts r
section
variable {H : Type} {enc : TypeId × Value→H} {P : Program} {w : World} {base : Nat} {spare : Nat→Bool} {held : Bool} {V : View} {β : Beta}
theorem okWide_nonagg {t : TypeId} {v : Value} {b : Nat} (ha : aggT P t=false) (h : Value.okWide P w .any b t v) : v.cells = #[v]:=by
 cases v with
 | agg cs=>
  exfalso
  unfold Value.okWide at h
  split at h
  ·rename_i hu; simp [aggT,hu] at ha
  ·rename_i hu; simp [aggT,hu] at ha
  ·unfold Cell.okWide at h
   split at h <;> simp_all [Cell.ok]
 | _=>rfl
theorem read_args {B : DataW H→Nat} {BA : List (DataW H)→Nat} (K : BulkOk B BA) (hV : ∀ c o v,w.cell? ⟨c,o,none⟩=some v→V.M c o=some v) {b0 : Nat} : ∀ (ts : List TypeId) (vs : List Value) (ds : List (DataW H)) (ps : List MemPlace),
    DataW.TrodAll enc P w base spare held ts vs ds ps→(∀ (j : Nat) (t : TypeId) (v : Value),ts[j]? = some t→vs[j]? = some v→Value.okWide P w .any b0 t v) →
    ∃ xs,argsTy P ts xs∧RelL V β xs vs∧bulkL xs≤BA ds
 | [],vs,ds,ps,h,_=>by
  obtain ⟨rfl,rfl,rfl⟩:=trodAll_nil h
  exact ⟨[],rfl,by unfold RelL; rfl,by simp [bulkL]⟩
 | t :: ts,vs,ds,ps,h,hok=>by
  obtain ⟨v,vs',d,ds',p,q,rfl,rfl,rfl,⟨fuel,h1⟩,h2⟩:=trodAll_cons h
  obtain ⟨xs,k1,k2,k3⟩:=read_args K hV ts vs' ds' q h2 fun j t v ht hv=>hok (j + 1) t v (by simpa using ht) (by simpa using hv)
  obtain ⟨ys,m1,m2,m3,m4⟩:=read_of (β:=β) K hV fuel t _ _ h1
  have h0:=hok 0 t v rfl rfl
  have hx : Rel V β (ofCells (aggT P t) ys) v∧(ofCells (aggT P t) ys).bulk≤bulkL ys + (if aggT P t then 1 else 0):=by
   cases hag : aggT P t with
   | true=>
    have hv : ∃ cs,v = .agg cs:=by
     unfold Value.okWide at h0
     split at h0
     ·obtain ⟨cs,e,_⟩:=h0; exact ⟨cs,e⟩
     ·obtain ⟨cs,e,_⟩:=h0; exact ⟨cs,e⟩
     ·exfalso
      unfold aggT at hag
      split at hag <;> simp_all
    obtain ⟨cs,rfl⟩:=hv
    refine ⟨?_,by simp [ofCells,AV.bulk]⟩
    simp only [ofCells,if_true]
    unfold Rel
    exact ⟨cs,rfl,m2⟩
   | false=>
    have hc:=okWide_nonagg hag h0
    rw [hc] at m2
    match ys,m2,(RelL_iff.1 m2).1 with
    | [y],m2,_=>
     unfold RelL at m2
     obtain ⟨u,r,e,hr,_⟩:=m2
     have : v=u:=by simpa using congrArg List.head? e
     subst this
     exact ⟨by simpa [ofCells] using hr,by simp [ofCells,bulkL]⟩
  refine ⟨ofCells (aggT P t) ys :: xs,⟨fuel,ys,xs,rfl,m1,k1⟩,?_,?_⟩
  ·unfold RelL; exact ⟨v,vs',rfl,hx.1,k2⟩
  ·simp only [bulkL,K.cons]; have:=hx.2; dsimp only at m4; omega
end
theorem sim_start (w : World) : Sim w 0 (fun _ _=>none) [] w where
 below:=Below.refl _ _
 dom:=by intro _ _ _ h; cases h
 domv:=by intro _ _ h; cases h
 inj:=by intro _ _ _ _ _ _ _ h; cases h
 arr:=by intro b v sz els c h; simp at h
 sit:=by intro b s p c h; simp at h
 old:=by intros; rfl
 oldd:=by intros; rfl
theorem start_reads (w : World) (c o : Nat) (v : Value) (h : w.cell? ⟨c,o,none⟩=some v) : (view 0 (fun _ _=>none) [] w).M c o=some v:=
 view_M_mk h (live_none (Nat.zero_le _) c)
theorem callL_calls {P : Program} {cfg : Cfg} {f : FuncId} {fn : Func} {k : Code} {dchk : Nat→DChk} (C : ∀ w0,CfgOk P w0 dchk cfg) (hf : P.funcs[f]? = some fn) (hname : fn.name ≠ "runtime.NumGoroutine") (hb : fn.body=some k)
    {xs : List AV} {r : AV} {h' : Avm.H} (ev : callL cfg 0 f xs []=some (r,h')) {W : World} {vs : Array Value} (hr : RelL (view 0 (fun _ _=>none) [] W) (fun _ _=>none) xs vs.toList) :
    Calls P f vs W fun e W'=>∃ v V β,e = .returned v∧Below W.heap.size W W'∧Rel V β r v:=by
 rcases callL_ok (C W) 0 f xs [] r h' 0 (fun _ _=>none) W vs ev (Nat.le_refl _) (Nat.le_refl _) (sim_start W) hr with ⟨_,hc⟩ | ⟨v,w',h4,_⟩
 ·exact hc.mono fun e W' ⟨v,e1,β',S,_,hr⟩=>⟨v,_,_,e1,S.below,hr⟩
 ·rw [callFunc_run hf hname hb] at h4
  cases h4
theorem law_calls {P : Program} {cfg : Cfg} {f : FuncId} {fn : Func} {k : Code} {dchk : Nat→DChk} {W : World} (C : CfgOk P W dchk cfg) (hf : P.funcs[f]? = some fn) (hname : fn.name ≠ "runtime.NumGoroutine") (hb : fn.body=some k)
    {H : Type} {enc : TypeId × Value→H} {B : DataW H→Nat} {BA : List (DataW H)→Nat} (K : BulkOk B BA) {n : Nat} (ev : ∀ xs,argsTy P fn.params.toList xs→bulkL xs≤n→∃ h',callL cfg 0 f xs []=some (.bool true,h'))
    {b0 : Nat} {args : Array Value} {ds : List (DataW H)} {ps : List MemPlace} {spare : Nat→Bool} {held : Bool} (hval : ∀ (j : Nat) (t : TypeId) (v : Value),fn.params[j]? = some t→args[j]? = some v→Value.okWide P W .any b0 t v)
    (hA : DataW.TrodAll enc P W 0 spare held fn.params.toList args.toList ds ps) (hn : BA ds≤n) :
    Calls P f args W fun e W'=>e = .returned (.bool true)∧Below W.heap.size W W':=by
 obtain ⟨xs,h1,h2,h3⟩:=read_args (β:=fun _ _=>none) K (start_reads W) fn.params.toList args.toList ds ps hA fun j t v ht hv=>hval j t v (by simpa using ht) (by simpa using hv)
 obtain ⟨h',he⟩:=ev xs h1 (Nat.le_trans h3 hn)
 have hi:=callL_ok C 0 f xs [] (.bool true) h' 0 (fun _ _=>none) W args he (Nat.le_refl _) (Nat.le_refl _) (sim_start W) h2
 rcases hi with ⟨_,hc⟩ | ⟨v,w',h4,_⟩
 ·refine hc.mono fun e W' ⟨v,e1,β',S,_,hr⟩=>?_
  unfold Rel at hr
  subst hr
  exact ⟨e1,S.below⟩
 ·rw [callFunc_run hf hname hb] at h4
  cases h4
theorem stays {H : Type} {enc : TypeId × Value→H} {P : Program} (hl : laidOutB P=true) {W W' : World} (hb : Below W.heap.size W W') {sp : Nat→Bool} : ∀ {ts : List TypeId} {vs : List Value} {ds : List (DataW H)} {ps : List MemPlace},ts.all (fun t=>P.readableRec t && decide (t < P.types.size))=true →
    DataW.TrodAll enc P W 0 (fun _=>true) true ts vs ds ps→(∀ x ∈ ps,x.block < W.heap.size)→(∀ x ∈ ps,sp x.block=true)→DataW.TrodAll enc P W' 0 sp true ts vs ds ps
 | [],_,_,_,_,h,_,_=>by
  obtain ⟨rfl,rfl,rfl⟩:=trodAll_nil h
  simp [DataW.TrodAll]
 | t :: ts,_,_,_,ht,h,hlt,hs=>by
  obtain ⟨v,vs',d,ds',p,q,rfl,rfl,rfl,h1,h2⟩:=trodAll_cons h
  simp only [List.all_cons,Bool.and_eq_true,decide_eq_true_eq] at ht
  exact ⟨p,q,WideElems.Trod_stays hl ht.1.1 ht.1.2 h1 (fun x hx=>hb.same (hlt x (by simp [hx]))) (fun x hx=>hs x (by simp [hx])),stays hl hb ht.2 h2 (fun x hx=>hlt x (by simp [hx])) (fun x hx=>hs x (by simp [hx])),rfl⟩
theorem law_post {H : Type} {enc : TypeId × Value→H} {P : Program} {f : Func} {s : ChangeSpec} {apart fresh handsOn again : Bool} {W W' : World} {args : Array Value} {ds gs : List (DataW H)} {before : List MemPlace} {tb : TypeId}
    (hW : DataW.Whole enc P f.params.toList s.vars apart W args.toList ds gs before) (hv0 : s.vars=[]) (hfn : s.fn H (ds++gs) = { results:=[.lit (.bool true)],args:=ds }) (hrt : f.resultTypes = #[tb]) (htb : P.underlying tb=some .bool)
    (hl : laidOutB P=true) (hts : f.params.toList.all (fun t=>P.readableRec t && decide (t < P.types.size))=true) (hb : Below W.heap.size W W') : s.post enc P f apart fresh handsOn again W args (.bool true) W':=by
 have hW2:=hW
 obtain ⟨pa,q,hA,hV,hps,hz,hn⟩:=hW
 rw [hv0] at hV
 obtain ⟨rfl,rfl⟩:=trodVars_none hV
 have hpa : before=pa:=by simpa using hps
 subst hpa
 have hlt : ∀ x ∈ before,x.block < W.heap.size:=fun x hx=>hW2.lt x hx
 have hargs : ∀ sp : Nat→Bool,(∀ p ∈ before,sp p.block=true)→DataW.TrodAll enc P W' 0 sp true f.params.toList args.toList (s.fn H (ds++[])).args before:=fun sp hs=>by
  rw [hfn]; exact stays hl hb hts hA hlt hs
 have hres : ∀ (b : Nat) (sp : Nat→Bool) (hd : Bool),DataW.TrodAll enc P W' b sp hd f.resultTypes.toList ((Value.bool true).resultList f.resultTypes.size) (s.fn H (ds++[])).results []:=fun b sp hd=>by
  rw [hfn,hrt]; exact trodAll_mk1 (shut_bool htb true)
 have hvars : ∀ sp : Nat→Bool,DataW.TrodVars enc P W' sp s.vars (s.fn H (ds++[])).vars []:=fun sp=>by rw [hfn,hv0]; rfl
 have hold : ∀ p ∈ before,(fun b=>decide (b < W.heap.size)) p.block=true:=fun p hp=>by simpa using hlt p hp
 refine ⟨ds,[],before,[],before,[],hW2,hres _ _ _,hargs _ hold,hvars _,World.keptBut_mono (fun p hp=>⟨hp,?_⟩) (hb.frame (· ∈ before)),fun _=>?_⟩
 ·simpa using hp
 ·refine ⟨ok_one hrt rfl (okWide_bool_mk htb _),_,_,([]++before)++[],⟨[]++before,[],trodAll_append (hargs _ (fun _ _=>rfl)) (hres _ _ _),hvars _,rfl,?_,?_⟩,?_⟩
  ·intro b off hp
   have hp : MemPlace.cell b off ∈ before:=by simpa using hp
   have h1:=hlt _ hp
   exact (hb.frozen (p:=⟨b,off,none⟩) h1).trans (hz b off (by simpa using hp))
  ·intro ha
   simpa using hn ha
  ·intro p hp _
   simpa using hp
section
variable {P : Program}
theorem hasTy_int {f : Nat} {t : TypeId} {k : IntKind} {xs : List AV} (hu : P.underlying t=some (.int k)) (h : hasTy P f t xs) : ∃ n,xs=[.int k n]∧(Lit.int k n).wf=true:=by
 cases f with
 | zero=>cases h
 | succ f=>simpa only [hasTy,hu] using h
theorem hasTy_bool {f : Nat} {t : TypeId} {xs : List AV} (hu : P.underlying t=some .bool) (h : hasTy P f t xs) : ∃ b,xs=[.bool b]:=by
 cases f with
 | zero=>cases h
 | succ f=>simpa only [hasTy,hu] using h
theorem hasTy_str {f : Nat} {t : TypeId} {xs : List AV} (hu : P.underlying t=some .string) (h : hasTy P f t xs) : ∃ s : ByteArray,xs=[.str s]:=by
 cases f with
 | zero=>cases h
 | succ f=>
  simp only [hasTy,hu] at h
  obtain ⟨s,h1,_⟩:=h
  exact ⟨s,h1⟩
theorem hasTy_slice {f : Nat} {t e : TypeId} {xs : List AV} (hu : P.underlying t=some (.slice e)) (hc : P.cellsOf e ≠ 0) (h : hasTy P f t xs) : ∃ els,xs=[.isl els]∧∀ x ∈ els,∃ l,x=ofCells (aggT P e) l∧hasTy P (f - 1) e l:=by
 cases f with
 | zero=>cases h
 | succ f=>
  simp only [hasTy,hu] at h
  obtain ⟨els,h1,_,h2⟩:=h hc
  exact ⟨els,h1,fun x hx=>by
   obtain ⟨l,k1,_,k2⟩:=h2 x hx
   exact ⟨l,k1,k2⟩⟩
theorem hasTy_struct {f : Nat} {t : TypeId} {fs : Array Field} {xs : List AV} (hu : P.underlying t=some (.struct fs)) (ht : tiled P 0 (P.cellsOf t) fs.toList=true) (h : hasTy P f t xs) : partsTy (hasTy P (f - 1)) fs.toList xs:=by
 cases f with
 | zero=>cases h
 | succ f=>
  simp only [hasTy,hu] at h
  exact h ht
theorem list_of {α : Type} {p : AV→Prop} {g : α→AV} (h : ∀ x,p x→∃ a,x=g a) : ∀ (l : List AV),(∀ x ∈ l,p x)→∃ r : List α,l=r.map g
 | [],_=>⟨[],rfl⟩
 | x :: l,hp=>by
  obtain ⟨a,ha⟩:=h x (hp x (by simp))
  obtain ⟨r,hr⟩:=list_of h l fun y hy=>hp y (by simp [hy])
  exact ⟨a :: r,by rw [List.map_cons,← ha,← hr]⟩
theorem hasTy_strs {f : Nat} {t e : TypeId} {xs : List AV} (hu : P.underlying t=some (.slice e)) (he : P.underlying e=some .string) (hc : P.cellsOf e ≠ 0) (h : hasTy P f t xs) : ∃ l : List ByteArray,xs=[.isl (l.map .str)]:=by
 obtain ⟨els,h1,h2⟩:=hasTy_slice hu hc h
 obtain ⟨l,hl⟩:=list_of (p:=fun x=>∃ s : ByteArray,x = .str s) (g:=AV.str) (fun x hx=>hx) els fun x hx=>by
  obtain ⟨l,rfl,hl⟩:=h2 x hx
  obtain ⟨s,rfl⟩:=hasTy_str he hl
  exact ⟨s,by simp [aggT,he,ofCells]⟩
 exact ⟨l,by rw [h1,hl]⟩
theorem bulkL_ge {α : Type} {g : α→AV} (hg : ∀ a,1≤(g a).bulk) : ∀ (l : List α),l.length≤bulkL (l.map g)
 | []=>by simp
 | x :: l=>by
  have:=hg x
  have:=bulkL_ge hg l
  simp only [List.map_cons,bulkL,List.length_cons]; omega
end
end Go.Avm
namespace Go.Proofs.YteihdlcpfghmhaaGreatDoor
open Go Go.Avm Go.RowKit
def strs : List AV→Option (List ByteArray)
 | []=>some []
 | .str s :: l=>match strs l with | some r=>some (s :: r) | none=>none
 | _=>none
def distinct : List ByteArray→Bool
 | []=>true
 | x :: l=>(l.all fun y=>!(x.toList == y.toList)) && distinct l
def twiceX : List AV→Avm.H→Option (AV × Avm.H)
 | [v],h=>match elsOf h v with
  | some els=>(match strs els with
   | some l=>if l.length≤1048576 then some (.bool (!distinct l),h) else none
   | none=>none)
  | none=>none
 | _,_=>none
def containsX : List AV→Avm.H→Option (AV × Avm.H)
 | [.str s,.str t],h=>if s.size < 4294967281 then some (.bool (Lib.contains s.data.toList t.data.toList),h) else none
 | _,_=>none
def indexX : List AV→Avm.H→Option (AV × Avm.H)
 | [.str s],h=>if s.size≤1048576 then (match Lib.atoiAll s.data.toList with
  | .ok n=>if 0≤n∧n < 9223372036854775808∧Lib.itoa n=s.data.toList then some (.tup [.int .i64 n,.bool true],h) else none
  | .range=>some (.tup [.int .i64 (Lib.atoiSat s.data.toList),.bool false],h)
  | .syntax=>none) else none
 | _,_=>none
def fnOf : List (Nat × F)→FuncId→Option F
 | [],_=>none
 | (k,F) :: l,f=>if f=k then some F else fnOf l f
theorem fnOf_mem : ∀ {l : List (Nat × F)} {f : FuncId} {F : F},fnOf l f=some F→(f,F) ∈ l
 | [],_,_,h=>by cases h
 | (k,G) :: l,f,F,h=>by
  rw [fnOf] at h
  split at h
  ·rename_i e; cases h; subst e; simp
  ·exact List.mem_cons_of_mem _ (fnOf_mem h)
def lim : Nat:=536870912
def extOf (f : FuncId) : Option (List AV→Avm.H→Option (AV × Avm.H)):=
 if f=73 then some twiceX else if f=92 then some containsX
 else if f=30 then some (cloneX 4 lim) else if f=102 then some (cloneX 8 lim)
 else if f=103 then some (cloneX 12 lim)
 else if f=29 then some indexX else none
def cfg : Cfg:=⟨fnOf fnl,extOf⟩
def pf (f : FuncId) : Bool:=match cfg.pol f with | some .snap=>true | some (.pur _)=>true | _=>false
set_option maxRecDepth 100000 in
theorem checked : fnl.all (fun p=>fOkB Tryz.prog pf p.1 p.2)=true:=by kernel_rfl
theorem follows : Tryz.prog.follows .mixedOrders=true:=by kernel_rfl
set_option maxRecDepth 100000 in
theorem sane0 : callN cfg 100 0 8 [] []=some (.bool true,[]):=by kernel_rfl
end Go.Proofs.YteihdlcpfghmhaaGreatDoor
