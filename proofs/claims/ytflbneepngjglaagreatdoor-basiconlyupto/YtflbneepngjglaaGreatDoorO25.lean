/-
  DERIVED: THE SHELF's CONTRACTS AT THIS DUMP, IN PLAIN WORDS (tools/lay-plain.mjs out of 'YtflbneepngjglaaGreatDoorShelf.lean', which tools/lay-shelf.mjs wrote): THE SAME DECLARATIONS UNDER THE SAME NAMES: 'import', 'namespace', 'open', 'def', 'theorem' AND NOTHING ELSE: no command of the shelf's: FOR A HAND-IN. Each laying: the table of numbers ('.._ren') and one theorem, a field a fact of the dump's own or the kernel's comparison; each contract: ONE APPLICATION.
-/
import Derived.Test.YtflbneepngjglaaGreatDoorO24
import Derived.Test.YtflbneepngjglaaGreatDoorO22
import Derived.Carry
import Derived.Test.YtflbneepngjglaaGreatDoorO23
import Derived.Test.YtflbneepngjglaaGreatDoorProg
import Derived.Lib.IndexMore
import Derived.Ground.GgzProg
import Derived.Ground.SlgmProg
import Derived.Ground.NamesProg
import Derived.Ground.SlgnProg
import Derived.Shelf.SlIter.Sorted
import Derived.Shelf.SortM.Plain
import Derived.Shelf.SortM.SortNone
import Derived.Shelf.Slices.In.CompactS
import Derived.Shelf.SlicesE.Clone
import Derived.Shelf.Strings.Shaped
set_option linter.all false
namespace Go.Avm
open Go.RowKit Go.ChangeShapes
def Qmx (P:Program):List TypeId->List AV->Prop
 | [],xs=>xs=[]
 | t::ts,xs=>∃fuel l r,xs=XA (XQ P t) l::r/\Xk P fuel t l/\Qmx P ts r
section
variable {H : Type} {enc : TypeId × Value -> H} {P : Program} {w : World} {base : Nat} {spare : Nat -> Bool} {held : Bool} {V : View} {β : Beta}
theorem QiX {t:TypeId}{v:Value}{b:Nat}(ha:XQ P t=false)(h:Value.okWide P w .any b t v):v.cells= #[v]:=by
 cases v with
 | agg cs=>
  exfalso;unfold Value.okWide at h;split at h
  ·rename_i hu; simp[XQ,hu]at ha
  ·rename_i hu; simp[XQ,hu]at ha
  ·unfold Cell.okWide at h;split at h<;>simp_all [Cell.ok]
 | _=>rfl
theorem QjF {B:DataW H->Nat}{BA:List (DataW H)->Nat}(K:QfL B BA)(hV: ∀c o v,w.cell? ⟨c,o,none⟩=some v->V.M c o=some v){b0:Nat}: ∀(ts:List TypeId) (vs:List Value) (ds:List (DataW H)) (ps:List MemPlace),
    DataW.TrodAll enc P w base spare held ts vs ds ps->(∀(j:Nat) (t:TypeId) (v:Value),ts[j]? =some t->vs[j]? =some v->Value.okWide P w .any b0 t v)->
    ∃xs,Qmx P ts xs/\Qr V β xs vs/\QF xs<=BA ds
 | [],vs,ds,ps,h,_=>by
  obtain⟨rfl,rfl,rfl⟩:=trodAll_nil h;exact⟨[],rfl,by unfold Qr; rfl,by simp[QF]⟩
 | t::ts,vs,ds,ps,h,hok=>by
  obtain⟨v,vs',d,ds',p,q,rfl,rfl,rfl,⟨fuel,h1⟩,h2⟩:=trodAll_cons h;obtain⟨xs,k1,k2,k3⟩:=QjF K hV ts vs' ds' q h2 fun j t v ht hv=>hok (j+1) t v (by simpa using ht) (by simpa using hv)
  obtain⟨ys,m1,m2,m3,m4⟩:=QwP (β:=β) K hV fuel t _ _ h1;have h0:=hok 0 t v rfl rfl
  have hx:Rel V β (XA (XQ P t) ys) v/\(XA (XQ P t) ys).bulk<=QF ys+(if XQ P t then 1 else 0):=by
   cases hag:XQ P t with
   | true=>
    have hv: ∃cs,v= .agg cs:=by
     unfold Value.okWide at h0;split at h0
     ·obtain⟨cs,e,_⟩:=h0; exact⟨cs,e⟩
     ·obtain⟨cs,e,_⟩:=h0; exact⟨cs,e⟩
     ·exfalso;unfold XQ at hag;split at hag<;>simp_all
    obtain⟨cs,rfl⟩:=hv;refine⟨?_,by simp[XA,AV.bulk]⟩
    simp only[XA,if_true];unfold Rel;exact⟨cs,rfl,m2⟩
   | false=>
    have hc:=QiX hag h0;rw[hc]at m2
    match ys,m2,(Qp.1 m2).1 with
    | [y],m2,_=>
     unfold Qr at m2;obtain⟨u,r,e,hr,_⟩:=m2;have:v=u:=by simpa using congrArg List.head? e
     subst this;exact⟨by simpa[XA]using hr,by simp[XA,QF]⟩
  refine⟨XA (XQ P t) ys::xs,⟨fuel,ys,xs,rfl,m1,k1⟩,?_,?_⟩
  ·unfold Qr; exact⟨v,vs',rfl,hx.1,k2⟩
  ·simp only[QF,K.cons]; have:=hx.2; dsimp only at m4; omega
end
theorem QrH (w:World):Sim w 0 (fun _ _=>none) [] w where
 below:=Below.refl _ _
 dom:=by intro _ _ _ h; cases h
 domv:=by intro _ _ h; cases h
 inj:=by intro _ _ _ _ _ _ _ h; cases h
 arr:=by intro b v sz els c h; simp at h
 oth:=by intro b x v c h; simp at h
 tyd:=by intro k b v T n h; simp at h
 old:=by intros; rfl
 oldd:=by intros; rfl
theorem QmM (w:World)(c o:Nat)(v:Value)(h:w.cell? ⟨c,o,none⟩=some v):(view 0 (fun _ _=>none) [] w).M c o=some v:=
 WN h (Qck (Nat.zero_le _) c)
theorem QsB {P:Program}{cfg:Cfg}{f:FuncId}{fn:Func}{k:Code}{dchk:Nat->QiQ}{W:World}(C:Qrv P W dchk cfg)(hf:P.funcs[f]? =some fn)(hname:fn.name≠ "runtime.NumGoroutine")(hb:fn.body=some k)
    {H:Type} {enc:TypeId×Value->H} {B:DataW H->Nat} {BA:List (DataW H)->Nat} (K:QfL B BA) {n:Nat} (ev: ∀xs,Qmx P fn.params.toList xs->QF xs<=n-> ∃h',Qb cfg 0 f xs []=some (.bool true,h'))
    {b0:Nat} {args:Array Value} {ds:List (DataW H)} {ps:List MemPlace} {spare:Nat->Bool} {held:Bool} (hval: ∀(j:Nat) (t:TypeId) (v:Value),fn.params[j]? =some t->args[j]? =some v->Value.okWide P W .any b0 t v)
    (hA:DataW.TrodAll enc P W 0 spare held fn.params.toList args.toList ds ps) (hn:BA ds<=n):
    Calls P f args W fun e W'=>e= .returned (.bool true)/\Below W.heap.size W W':=by
 obtain⟨xs,h1,h2,h3⟩:=QjF (β:=fun _ _=>none) K (QmM W) fn.params.toList args.toList ds ps hA fun j t v ht hv=>hval j t v (by simpa using ht) (by simpa using hv)
 obtain⟨h',he⟩:=ev xs h1 (Nat.le_trans h3 hn);have hi:=QvU C 0 f xs [] (.bool true) h' 0 (fun _ _=>none) W args he (Nat.le_refl _) (Nat.le_refl _) (QrH W) h2
 rcases hi with⟨_,hc⟩ | ⟨v,w',h4,_⟩
 ·refine hc.mono fun e W' ⟨v,e1,β',S,_,hr⟩=>?_
  unfold Rel at hr;subst hr;exact⟨e1,S.below⟩
 ·rw[YE hf hname hb]at h4;cases h4
theorem stays {H:Type}{enc:TypeId×Value->H}{P:Program}(hl:laidOutB P=true){W W':World}(hb:Below W.heap.size W W'){sp:Nat->Bool}: ∀{ts:List TypeId} {vs:List Value} {ds:List (DataW H)} {ps:List MemPlace},ts.all (fun t=>P.readableRec t&&decide (t<P.types.size))=true->
    DataW.TrodAll enc P W 0 (fun _=>true) true ts vs ds ps->(∀x∈ps,x.block<W.heap.size)->(∀x∈ps,sp x.block=true)->DataW.TrodAll enc P W' 0 sp true ts vs ds ps
 | [],_,_,_,_,h,_,_=>by
  obtain⟨rfl,rfl,rfl⟩:=trodAll_nil h;simp[DataW.TrodAll]
 | t::ts,_,_,_,ht,h,hlt,hs=>by
  obtain⟨v,vs',d,ds',p,q,rfl,rfl,rfl,h1,h2⟩:=trodAll_cons h;simp only[List.all_cons,Bool.and_eq_true,decide_eq_true_eq]at ht;exact⟨p,q,WideElems.Trod_stays hl ht.1.1 ht.1.2 h1 (fun x hx=>hb.same (hlt x (by simp[hx]))) (fun x hx=>hs x (by simp[hx])),stays hl hb ht.2 h2 (fun x hx=>hlt x (by simp[hx])) (fun x hx=>hs x (by simp[hx])),rfl⟩
theorem Qvc {H:Type}{enc:TypeId×Value->H}{P:Program}{f:Func}{s:ChangeSpec}{apart fresh handsOn again:Bool}{W W':World}{args:Array Value}{ds gs:List (DataW H)}{before:List MemPlace}{tb:TypeId}
    (hW:DataW.Whole enc P f.params.toList s.vars apart W args.toList ds gs before) (hv0:s.vars=[]) (hfn:s.fn H (ds++gs)={ results:=[.lit (.bool true)],args:=ds}) (hrt:f.resultTypes= #[tb]) (htb:P.underlying tb=some .bool)
    (hl:laidOutB P=true) (hts:f.params.toList.all (fun t=>P.readableRec t&&decide (t<P.types.size))=true) (hb:Below W.heap.size W W'):s.post enc P f apart fresh handsOn again W args (.bool true) W':=by
 have hW2:=hW;obtain⟨pa,q,hA,hV,hps,hz,hn⟩:=hW;rw[hv0]at hV;obtain⟨rfl,rfl⟩:=trodVars_none hV;have hpa:before=pa:=by simpa using hps
 subst hpa;have hlt: ∀x∈before,x.block<W.heap.size:=fun x hx=>hW2.lt x hx
 have hargs: ∀sp:Nat->Bool,(∀p∈before,sp p.block=true)->DataW.TrodAll enc P W' 0 sp true f.params.toList args.toList (s.fn H (ds++ [])).args before:=fun sp hs=>by
  rw[hfn]; exact stays hl hb hts hA hlt hs
 have hres: ∀(b:Nat) (sp:Nat->Bool) (hd:Bool),DataW.TrodAll enc P W' b sp hd f.resultTypes.toList ((Value.bool true).resultList f.resultTypes.size) (s.fn H (ds++ [])).results []:=fun b sp hd=>by
  rw[hfn,hrt]; exact trodAll_mk1 (shut_bool htb true)
 have hvars: ∀sp:Nat->Bool,DataW.TrodVars enc P W' sp s.vars (s.fn H (ds++ [])).vars []:=fun sp=>by rw[hfn,hv0]; rfl
 have hold: ∀p∈before,(fun b=>decide (b<W.heap.size)) p.block=true:=fun p hp=>by simpa using hlt p hp
 refine⟨ds,[],before,[],before,[],hW2,hres _ _ _,hargs _ hold,hvars _,World.keptBut_mono (fun p hp=>⟨hp,?_⟩) (hb.frame (· ∈before)),fun _=>?_⟩
 ·simpa using hp
 ·refine⟨ok_one hrt rfl (okWide_bool_mk htb _),_,_,([]++before)++ [],⟨[]++before,[],trodAll_append (hargs _ (fun _ _=>rfl)) (hres _ _ _),hvars _,rfl,?_,?_⟩,?_⟩
  ·intro b off hp;have hp:MemPlace.cell b off∈before:=by simpa using hp
   have h1:=hlt _ hp;exact(hb.frozen (p:=⟨b,off,none⟩) h1).trans (hz b off (by simpa using hp))
  ·intro ha;simpa using hn ha
  ·intro p hp _;simpa using hp
section
variable {P : Program}
theorem YN {f:Nat}{t:TypeId}{k:IntKind}{xs:List AV}(hu:P.underlying t=some (.int k))(h:Xk P f t xs): ∃n,xs=[.int k n]/\(Lit.int k n).wf=true:=by
 cases f with
 | zero=>cases h
 | succ f=>simpa only[Xk,hu]using h
theorem QaJ {f:Nat}{t:TypeId}{xs:List AV}(hu:P.underlying t=some .bool)(h:Xk P f t xs): ∃b,xs=[.bool b]:=by
 cases f with
 | zero=>cases h
 | succ f=>simpa only[Xk,hu]using h
theorem YM {f:Nat}{t:TypeId}{xs:List AV}(hu:P.underlying t=some .string)(h:Xk P f t xs): ∃s:ByteArray,xs=[.str s]:=by
 cases f with
 | zero=>cases h
 | succ f=>
  simp only[Xk,hu]at h;obtain⟨s,h1,_⟩:=h;exact⟨s,h1⟩
theorem ZN {f:Nat}{t e:TypeId}{xs:List AV}(hu:P.underlying t=some (.slice e))(hc:P.cellsOf e≠0)(h:Xk P f t xs): ∃els,xs=[.isl els]/\ ∀x∈els,∃l,x=XA (XQ P e) l/\Xk P (f-1) e l:=by
 cases f with
 | zero=>cases h
 | succ f=>
  simp only[Xk,hu]at h;obtain⟨els,h1,_,h2⟩:=h hc
  exact⟨els,h1,fun x hx=>by
   obtain⟨l,k1,_,k2⟩:=h2 x hx;exact⟨l,k1,k2⟩⟩
theorem ZX {f:Nat}{t:TypeId}{fs:Array Field}{xs:List AV}(hu:P.underlying t=some (.struct fs))(ht:tiled P 0 (P.cellsOf t) fs.toList=true)(h:Xk P f t xs):Qgr (Xk P (f-1)) fs.toList xs:=by
 cases f with
 | zero=>cases h
 | succ f=>
  simp only[Xk,hu]at h;exact h ht
theorem QqU {α:Type}{p:AV->Prop}{g:α->AV}(h: ∀x,p x-> ∃a,x=g a): ∀(l:List AV),(∀x∈l,p x)-> ∃r:List α,l=r.map g
 | [],_=>⟨[],rfl⟩
 | x::l,hp=>by
  obtain⟨a,ha⟩:=h x (hp x (by simp))
  obtain⟨r,hr⟩:=QqU h l fun y hy=>hp y (by simp[hy])
  exact⟨a::r,by rw[List.map_cons,←ha,←hr]⟩
theorem QpK {f:Nat}{t e:TypeId}{xs:List AV}(hu:P.underlying t=some (.slice e))(he:P.underlying e=some .string)(hc:P.cellsOf e≠0)(h:Xk P f t xs): ∃l:List ByteArray,xs=[.isl (l.map .str)]:=by
 obtain⟨els,h1,h2⟩:=ZN hu hc h
 obtain⟨l,hl⟩:=QqU (p:=fun x=>∃s:ByteArray,x= .str s) (g:=AV.str) (fun x hx=>hx) els fun x hx=>by
  obtain⟨l,rfl,hl⟩:=h2 x hx;obtain⟨s,rfl⟩:=YM he hl;exact⟨s,by simp[XQ,he,XA]⟩
 exact⟨l,by rw[h1,hl]⟩
end
end Go.Avm
namespace Go.Proofs.YtflbneepngjglaaGreatDoor
open Go Go.Avm Go.RowKit
def strs :List AV->Option (List ByteArray)
 | []=>some []
 | .str s::l=>match strs l with | some r=>some (s::r) | none=>none
 | _=>none
def distinct :List ByteArray->Bool
 | []=>true
 | x::l=>(l.all fun y=>!(x.toList == y.toList))&&distinct l
def QgY :List AV->Avm.H->Option (AV×Avm.H)
 | [v],h=>match Zv h v with
  | some els=>(match strs els with
   | some l=>if l.length<=67108864 then some (.bool (!distinct l),h)else none
   | none=>none)
  | none=>none
 | _,_=>none
def QX :List AV->Avm.H->Option (AV×Avm.H)
 | [.str s,.str t],h=>if s.size<4294967281 then some (.bool (Lib.contains s.data.toList t.data.toList),h)else none
 | _,_=>none
def QqB :List AV->Avm.H->Option (AV×Avm.H)
 | [v],h=>some (v,h)
 | _,_=>none
def Qvq :List (Nat×F)->FuncId->Option F
 | [],_=>none
 | (k,F)::l,f=>if f=k then some F else Qvq l f
theorem QnK : ∀{l:List (Nat×F)} {f:FuncId} {F:F},Qvq l f=some F->(f,F)∈l
 | [],_,_,h=>by cases h
 | (k,G)::l,f,F,h=>by
  rw[Qvq]at h;split at h
  ·rename_i e; cases h; subst e; simp
  ·exact List.mem_cons_of_mem _ (QnK h)
def lim :Nat:=536870912
def Qym (f:FuncId):Option (List AV->Avm.H->Option (AV×Avm.H)):=
 if f=148 then some QgY else if f=166 then some QX
 else if f=71 then some (Jr 4 lim)else if f=97 then some (Jr 8 lim)
 else if f=98 then some (Jr 12 lim)else if f=249 then some QqB else none
def cfg :Cfg:=⟨Qvq fnl,Qym⟩
def pf (f:FuncId):Bool:=match cfg.pol f with | some .snap=>true | some (.pur _)=>true | _=>false
set_option maxRecDepth 100000 in
theorem checked :fnl.all (fun p=>Qzj Tryz.prog pf p.1 p.2)=true:=by kernel_rfl
theorem follows :Tryz.prog.follows .mixedOrders=true:=by kernel_rfl
end Go.Proofs.YtflbneepngjglaaGreatDoor
namespace Go.Proofs
open Go.Shelf
def Tryz.Qnw:Go.Shelf.Ren:=⟨fun | 6=>227 | 8=>264 | 9=>265 | 11=>278 | 13=>280 | 12=>279 | 23=>301 | 24=>288 | 14=>292 | 15=>293 | 16=>294 | 17=>295 | 18=>296 | 19=>297 | 20=>298 | 21=>299 | 22=>300 | 25=>306 | 26=>307 | 27=>308 | 28=>309 | 29=>310 | 30=>311 | 31=>312 | n=>n,fun | 26=>9 | 28=>222 | 24=>81 | 0=>0 | 3=>3 | 37=>199 | 48=>238 | 50=>241 | 4=>4 | 40=>271 | 39=>270 | 45=>275 | 5=>5 | 9=>9 | 51=>279 | 55=>76 | 57=>286 | 58=>55 | 33=>175 | n=>n,fun | n=>n⟩
theorem Tryz.QBH:Go.Proofs.SlLaysZ.n6 Tryz.prog Tryz.Qnw:={
 mixed:=by kernel_rfl
 f6:=⟨Tryz.f227.name,by decide,Tryz.func227.trans (congrArg some (by kernel_rfl))⟩
 f8:=⟨Tryz.f264.name,by decide,Tryz.func264.trans (congrArg some (by kernel_rfl))⟩
 f11:=⟨Tryz.f278.name,by decide,Tryz.func278.trans (congrArg some (by kernel_rfl))⟩
 t0:=Tryz.underlying0
 a0:=Tryz.isAgg0
 z0:=Tryz.sizeOf0
 v0:=Tryz.zeroValue0
 t24:=Tryz.underlying81
 a24:=Tryz.isAgg81
 z24:=Tryz.sizeOf81
 v24:=Tryz.zeroValue81
 t26:=Tryz.underlying9
 a26:=Tryz.isAgg9
 z26:=Tryz.sizeOf9
 v26:=Tryz.zeroValue9
 t28:=Tryz.underlying222
 a28:=Tryz.isAgg222
 z28:=Tryz.sizeOf222
 v28:=Tryz.zeroValue222
 i26:=by kernel_rfl}
def Tryz.Qva:Go.Shelf.Ren:=⟨fun | 6=>265 | 8=>280 | 9=>279 | 19=>301 | 20=>288 | 21=>292 | 22=>293 | 23=>294 | 24=>295 | 25=>296 | 26=>297 | 27=>298 | 28=>299 | 29=>300 | 36=>306 | 31=>307 | 32=>308 | 37=>309 | 38=>310 | 39=>311 | 41=>312 | n=>n,fun | 27=>81 | 29=>9 | 3=>3 | 32=>199 | 26=>81 | 0=>0 | 44=>238 | 46=>241 | 4=>4 | 36=>271 | 35=>270 | 41=>275 | 5=>5 | 9=>9 | 53=>279 | 57=>76 | 63=>286 | 64=>55 | n=>n,fun | n=>n⟩
theorem Tryz.QBG:Go.Proofs.SlLaysM.n6 Tryz.prog Tryz.Qva:={
 mixed:=by kernel_rfl
 f6:=⟨Tryz.f265.name,by decide,Tryz.func265.trans (congrArg some (by kernel_rfl))⟩
 f8:=Tryz.func280.trans (congrArg some (by kernel_rfl))
 f9:=⟨Tryz.f279.name,by decide,Tryz.func279.trans (congrArg some (by kernel_rfl))⟩
 f19:=Tryz.func301.trans (congrArg some (by kernel_rfl))
 f20:=Tryz.func288.trans (congrArg some (by kernel_rfl))
 f21:=⟨Tryz.f292.name,by decide,Tryz.func292.trans (congrArg some (by kernel_rfl))⟩
 f22:=⟨Tryz.f293.name,by decide,Tryz.func293.trans (congrArg some (by kernel_rfl))⟩
 f23:=⟨Tryz.f294.name,by decide,Tryz.func294.trans (congrArg some (by kernel_rfl))⟩
 f24:=⟨Tryz.f295.name,by decide,Tryz.func295.trans (congrArg some (by kernel_rfl))⟩
 f25:=⟨Tryz.f296.name,by decide,Tryz.func296.trans (congrArg some (by kernel_rfl))⟩
 f26:=⟨Tryz.f297.name,by decide,Tryz.func297.trans (congrArg some (by kernel_rfl))⟩
 f27:=⟨Tryz.f298.name,by decide,Tryz.func298.trans (congrArg some (by kernel_rfl))⟩
 f28:=⟨Tryz.f299.name,by decide,Tryz.func299.trans (congrArg some (by kernel_rfl))⟩
 f29:=⟨Tryz.f300.name,by decide,Tryz.func300.trans (congrArg some (by kernel_rfl))⟩
 f31:=Tryz.func307.trans (congrArg some (by kernel_rfl))
 f32:=Tryz.func308.trans (congrArg some (by kernel_rfl))
 f36:=⟨Tryz.f306.name,by decide,Tryz.func306.trans (congrArg some (by kernel_rfl))⟩
 f37:=⟨Tryz.f309.name,by decide,Tryz.func309.trans (congrArg some (by kernel_rfl))⟩
 f38:=⟨Tryz.f310.name,by decide,Tryz.func310.trans (congrArg some (by kernel_rfl))⟩
 f39:=⟨Tryz.f311.name,by decide,Tryz.func311.trans (congrArg some (by kernel_rfl))⟩
 f41:=⟨Tryz.f312.name,by decide,Tryz.func312.trans (congrArg some (by kernel_rfl))⟩
 t0:=Tryz.underlying0
 a0:=Tryz.isAgg0
 z0:=Tryz.sizeOf0
 v0:=Tryz.zeroValue0
 t3:=Tryz.underlying3
 a3:=Tryz.isAgg3
 z3:=Tryz.sizeOf3
 v3:=Tryz.zeroValue3
 t4:=Tryz.underlying4
 a4:=Tryz.isAgg4
 z4:=Tryz.sizeOf4
 v4:=Tryz.zeroValue4
 t5:=Tryz.underlying5
 a5:=Tryz.isAgg5
 z5:=Tryz.sizeOf5
 v5:=Tryz.zeroValue5
 t9:=Tryz.underlying9
 a9:=Tryz.isAgg9
 z9:=Tryz.sizeOf9
 v9:=Tryz.zeroValue9
 t26:=Tryz.underlying81
 a26:=Tryz.isAgg81
 z26:=Tryz.sizeOf81
 v26:=Tryz.zeroValue81
 t27:=Tryz.underlying81
 a27:=Tryz.isAgg81
 z27:=Tryz.sizeOf81
 v27:=Tryz.zeroValue81
 t29:=Tryz.underlying9
 a29:=Tryz.isAgg9
 z29:=Tryz.sizeOf9
 v29:=Tryz.zeroValue9
 t32:=Tryz.underlying199
 a32:=Tryz.isAgg199
 z32:=Tryz.sizeOf199
 v32:=Tryz.zeroValue199
 t35:=Tryz.underlying270
 a35:=Tryz.isAgg270
 z35:=Tryz.sizeOf270
 v35:=Tryz.zeroValue270
 t36:=Tryz.underlying271
 a36:=Tryz.isAgg271
 z36:=Tryz.sizeOf271
 v36:=Tryz.zeroValue271
 t41:=Tryz.underlying275
 a41:=Tryz.isAgg275
 z41:=Tryz.sizeOf275
 v41:=Tryz.zeroValue275
 t44:=Tryz.underlying238
 a44:=Tryz.isAgg238
 z44:=Tryz.sizeOf238
 v44:=Tryz.zeroValue238
 t46:=Tryz.underlying241
 a46:=Tryz.isAgg241
 z46:=Tryz.sizeOf241
 v46:=Tryz.zeroValue241
 t53:=Tryz.underlying279
 a53:=Tryz.isAgg279
 z53:=Tryz.sizeOf279
 v53:=Tryz.zeroValue279
 t57:=Tryz.underlying76
 a57:=Tryz.isAgg76
 z57:=Tryz.sizeOf76
 v57:=Tryz.zeroValue76
 t63:=Tryz.underlying286
 a63:=Tryz.isAgg286
 z63:=Tryz.sizeOf286
 v63:=Tryz.zeroValue286
 t64:=Tryz.underlying55
 a64:=Tryz.isAgg55
 z64:=Tryz.sizeOf55
 v64:=Tryz.zeroValue55}
def Tryz.Qvb:Go.Shelf.Ren:=⟨fun | 194=>229 | n=>n,fun | 31=>81 | 9=>9 | 3=>3 | 4=>4 | 0=>0 | n=>n,fun | n=>n⟩
theorem Tryz.QBL:Go.Proofs.Lays.n194 Tryz.prog Tryz.Qvb:={
 mixed:=by kernel_rfl
 f194:=Tryz.func229.trans (congrArg some (by kernel_rfl))
 t0:=Tryz.underlying0
 a0:=Tryz.isAgg0
 z0:=Tryz.sizeOf0
 v0:=Tryz.zeroValue0
 t3:=Tryz.underlying3
 a3:=Tryz.isAgg3
 z3:=Tryz.sizeOf3
 v3:=Tryz.zeroValue3
 t4:=Tryz.underlying4
 a4:=Tryz.isAgg4
 z4:=Tryz.sizeOf4
 v4:=Tryz.zeroValue4
 t9:=Tryz.underlying9
 a9:=Tryz.isAgg9
 z9:=Tryz.sizeOf9
 v9:=Tryz.zeroValue9
 t31:=Tryz.underlying81
 a31:=Tryz.isAgg81
 z31:=Tryz.sizeOf81
 v31:=Tryz.zeroValue81}
def Tryz.Qsz:Go.Shelf.Ren:=⟨fun | 41=>230 | n=>n,fun | 22=>81 | 23=>9 | 4=>4 | n=>n,fun | n=>n⟩
theorem Tryz.Qyj:Go.Proofs.SlLaysE0.n41 Tryz.prog Tryz.Qsz:={
 mixed:=by kernel_rfl
 f41:=⟨Tryz.f230.name,by decide,Tryz.func230.trans (congrArg some (by kernel_rfl))⟩
 t4:=Tryz.underlying4
 a4:=Tryz.isAgg4
 z4:=Tryz.sizeOf4
 v4:=Tryz.zeroValue4
 t22:=Tryz.underlying81
 a22:=Tryz.isAgg81
 z22:=Tryz.sizeOf81
 v22:=Tryz.zeroValue81}
def Tryz.Qsx:Go.Shelf.Ren:=⟨fun | 41=>71 | n=>n,fun | 22=>29 | 23=>31 | 4=>4 | n=>n,fun | n=>n⟩
theorem Tryz.QBI:Go.Proofs.SlLaysE0.n41 Tryz.prog Tryz.Qsx:={
 mixed:=by kernel_rfl
 f41:=⟨Tryz.f71.name,by decide,Tryz.func71.trans (congrArg some (by kernel_rfl))⟩
 t4:=Tryz.underlying4
 a4:=Tryz.isAgg4
 z4:=Tryz.sizeOf4
 v4:=Tryz.zeroValue4
 t22:=Tryz.underlying29
 a22:=Tryz.isAgg29
 z22:=Tryz.sizeOf29
 v22:=Tryz.zeroValue29}
def Tryz.Qsy:Go.Shelf.Ren:=⟨fun | 41=>97 | n=>n,fun | 22=>26 | 23=>28 | 4=>4 | n=>n,fun | n=>n⟩
theorem Tryz.QBJ:Go.Proofs.SlLaysE0.n41 Tryz.prog Tryz.Qsy:={
 mixed:=by kernel_rfl
 f41:=⟨Tryz.f97.name,by decide,Tryz.func97.trans (congrArg some (by kernel_rfl))⟩
 t4:=Tryz.underlying4
 a4:=Tryz.isAgg4
 z4:=Tryz.sizeOf4
 v4:=Tryz.zeroValue4
 t22:=Tryz.underlying26
 a22:=Tryz.isAgg26
 z22:=Tryz.sizeOf26
 v22:=Tryz.zeroValue26}
def Tryz.QsA:Go.Shelf.Ren:=⟨fun | 41=>98 | n=>n,fun | 22=>25 | 23=>46 | 4=>4 | n=>n,fun | n=>n⟩
theorem Tryz.QBK:Go.Proofs.SlLaysE0.n41 Tryz.prog Tryz.QsA:={
 mixed:=by kernel_rfl
 f41:=⟨Tryz.f98.name,by decide,Tryz.func98.trans (congrArg some (by kernel_rfl))⟩
 t4:=Tryz.underlying4
 a4:=Tryz.isAgg4
 z4:=Tryz.sizeOf4
 v4:=Tryz.zeroValue4
 t22:=Tryz.underlying25
 a22:=Tryz.isAgg25
 z22:=Tryz.sizeOf25
 v22:=Tryz.zeroValue25}
def Tryz.Qcl:Go.Shelf.Ren:=⟨fun | 144=>166 | 143=>236 | 219=>268 | 217=>281 | 225=>282 | 224=>283 | 267=>284 | 266=>302 | 314=>303 | n=>n,fun | 9=>9 | 4=>4 | 3=>3 | 5=>5 | 46=>199 | 146=>239 | 51=>238 | n=>n,fun | 1=>0 | n=>n⟩
theorem Tryz.Qyk:Go.Proofs.LaysM.n144 Tryz.prog Tryz.Qcl:={
 mixed:=by kernel_rfl
 f143:=Tryz.func236.trans (congrArg some (by kernel_rfl))
 f144:=Tryz.func166.trans (congrArg some (by kernel_rfl))
 f217:=Tryz.func281.trans (congrArg some (by kernel_rfl))
 f219:=Tryz.func268.trans (congrArg some (by kernel_rfl))
 f224:=Tryz.func283.trans (congrArg some (by kernel_rfl))
 f225:=Tryz.func282.trans (congrArg some (by kernel_rfl))
 f266:=Tryz.func302.trans (congrArg some (by kernel_rfl))
 f267:=Tryz.func284.trans (congrArg some (by kernel_rfl))
 f314:=Tryz.func303.trans (congrArg some (by kernel_rfl))
 t3:=Tryz.underlying3
 a3:=Tryz.isAgg3
 z3:=Tryz.sizeOf3
 v3:=Tryz.zeroValue3
 t4:=Tryz.underlying4
 a4:=Tryz.isAgg4
 z4:=Tryz.sizeOf4
 v4:=Tryz.zeroValue4
 t5:=Tryz.underlying5
 a5:=Tryz.isAgg5
 z5:=Tryz.sizeOf5
 v5:=Tryz.zeroValue5
 t9:=Tryz.underlying9
 a9:=Tryz.isAgg9
 z9:=Tryz.sizeOf9
 v9:=Tryz.zeroValue9
 t46:=Tryz.underlying199
 a46:=Tryz.isAgg199
 z46:=Tryz.sizeOf199
 v46:=Tryz.zeroValue199
 t51:=Tryz.underlying238
 a51:=Tryz.isAgg238
 z51:=Tryz.sizeOf238
 v51:=Tryz.zeroValue238
 t146:=Tryz.underlying239
 a146:=Tryz.isAgg239
 z146:=Tryz.sizeOf239
 v146:=Tryz.zeroValue239
 g1:=by kernel_rfl
 i3:=by kernel_rfl
 i4:=by kernel_rfl
 i5:=by kernel_rfl
 i9:=by kernel_rfl
 i46:=by kernel_rfl
 i51:=by kernel_rfl
 i146:=by kernel_rfl
 m1:=by kernel_rfl
 s1_3:=fun w h=>Go.Proofs.cell_of_shapedOpen_int (zero:=#[.int .i64 0]) (t:=3) h (of_decide_eq_true (by kernel_rfl)) (by kernel_rfl) rfl (by kernel_rfl) (by kernel_rfl) Tryz.underlying3}
end Go.Proofs
