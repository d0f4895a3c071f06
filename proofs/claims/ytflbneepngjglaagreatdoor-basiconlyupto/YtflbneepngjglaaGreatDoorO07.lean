/- Each operation: what the abstract machine says of it, the model does. -/
import Derived.Test.YtflbneepngjglaaGreatDoorO04
import Derived.Laws.Strings
import Derived.Laws.Strings2
import Derived.Laws.Slices
import Derived.Laws.Build
import Derived.Laws.Cells
import Derived.Laws.RangeString
import Derived.Laws.Shifts
import Derived.Laws.Append
set_option linter.all false
namespace Go.Avm
mutual
def Xz (v:Value):AV->Bool
 | .bool b=>(match v with | .bool a=>a == b | _=>false)
 | .int k' m=>(match v with | .int k n=>decide (k=k')&&decide (n=m) | _=>false)
 | .str t=>(match v with | .string s=>decide (s.data.toList=t.data.toList) | _=>false)
 | .nilp=>(match v with | .pointer none=>true | _=>false)
 | .esl=>(match v with | .slice none n c=>n == 0&&c == 0 | _=>false)
 | .isl l=>(match v with | .slice none n c=>n == 0&&c == 0&&l.isEmpty | _=>false)
 | .nilf=>(match v with | .nilFunc=>true | _=>false)
 | .nilm=>(match v with | .map none=>true | _=>false)
 | .nils=>(match v with | .slice none n c=>n == 0&&c == 0 | _=>false)
 | .nili=>(match v with | .nilIface=>true | _=>false)
 | .QI g _ l=>(match v with | .func (.func f) first cap=>f == g&&first.size == 0&&cap.size == 0&&l.isEmpty | _=>false)
 | .agg l=>(match v with | .agg cs=>Qhn cs.toList l | _=>false)
 | _=>false
def Qhn (vs:List Value):List AV->Bool
 | []=>vs.isEmpty
 | x::l=>match vs with
  | v::r=>Xz v x&&Qhn r l
  | []=>false
end
def Qn :Operand->O->Bool
 | .tmp n,.t m=>n == m
 | .const v,.k a=>Xz v a
 | .func f,.k (.QI g _ [])=>f == g
 | _,_=>false
def XJ :List Operand->List O->Bool
 | [],[]=>true
 | x::l,y::r=>Qn x y&&XJ l r
 | _,_=>false
def WB :Option Operand->Option O->Bool
 | none,none=>true
 | some x,some y=>Qn x y
 | _,_=>false
def JC (P:Program)(t:TypeId)(sz:Nat):Bool:=match P.info? t with | some i=>i.size == sz | none=>false
def Yt (P:Program)(t:TypeId)(z:AV):Bool:=match P.info? t with
 | some i=>(match i.zero with | some v=>Xz v z | none=>false)
 | none=>false
def QbU (P:Program)(t:TypeId)(ag:Bool):Bool:=match P.underlying t with
 | some (.struct _)=>ag
 | some (.array _ _)=>ag
 | some _=>!ag
 | none=>false
def JG (P:Program)(t:TypeId):Option TypeId:=match P.underlying t with | some (.slice e)=>some e | _=>none
def arrayOf (P:Program)(t:TypeId):Option (Nat×TypeId):=match P.underlying t with | some (.array n e)=>some (n,e) | _=>none
def isStr (P:Program)(t:TypeId):Bool:=match P.underlying t with | some .string=>true | _=>false
def Wj (P:Program)(t:TypeId)(lim most:Nat):Bool:=match P.info? t with | some i=>decide (lim*i.bytes<=most)&&decide (0<i.bytes) | none=>false
def QgH (P:Program)(s:TypeId)(f off sz:Nat):Bool:=match P.underlying s with
 | some (.struct fs)=>(match fs[f]? with | some x=>x.offset == off&&JC P x.type sz | none=>false)
 | _=>false
def QeM (P:Program)(s:TypeId)(f off sz:Nat):Bool:=match P.underlying s with
 | some (.array _ e)=>off == f*sz&&JC P e sz
 | _=>QgH P s f off sz
def fieldType (P:Program)(s:TypeId)(f:Nat):Option TypeId:=match P.underlying s with
 | some (.struct fs)=>(match fs[f]? with | some x=>some x.type | none=>none)
 | _=>none
def QiJ (P:Program)(s:TypeId):Bool:=match P.underlying s with
 | some (.struct fs)=>fs.toList.all fun f=>(P.info? f.type).isSome
 | some (.array _ e)=>(P.info? e).isSome
 | _=>false
def YX (P:Program)(s:TypeId):List (Nat×Operand)->List (Nat×Nat×O)->Bool
 | [],[]=>true
 | (f,x)::l,(off,sz,y)::r=>QeM P s f off sz&&Qn x y&&YX P s l r
 | _,_=>false
def Qdk :List (Nat×Operand)->List (Nat×O)->Bool
 | [],[]=>true
 | (i,x)::l,(j,y)::r=>i == j&&Qn x y&&Qdk l r
 | _,_=>false
def QeZ (P:Program)(s d:TypeId):Conv->Bool
 | .intk k=>(P.underlying s).isSome&&(match P.underlying d with | some (.int k')=>decide (k=k') | _=>false)
 | .same=>(P.underlying s).isSome&&isStr P d
 | .s2b=>(P.underlying s).isSome&&(match JG P d with | some e=>(match P.underlying e with | some (.int .u8)=>JC P e 1 | _=>false) | none=>false)
 | .b2s=>isStr P d&&(match JG P s with | some e=>(match P.underlying e with | some (.int .u8)=>true | _=>false) | none=>false)
def Qty (P:Program)(s d:TypeId)(ok:List (Nat×Nat×Nat)):Bool:=match P.underlying s with
 | some (.pointer t)=>(match P.underlying d with | some .unsafePointer=>true | _=>false)&&(match P.info? t with | some i=>i.size != 0 | none=>false)&&ok.all fun q=>decide (q.2.2<q.2.1)
 | some .unsafePointer=>(match P.underlying d with | some (.pointer u)=>(P.info? u).isSome&&ok.all fun q=>liesAt P P.depth q.1 (q.2.1/P.cellsOf q.1) q.2.2 u 1 | _=>false)
 | _=>false
def QhW (P:Program)(t:TypeId):EqK->Bool
 | .bool=>(match P.underlying t with | some .bool=>true | _=>false)
 | .ptr=>(match P.underlying t with | some (.pointer el)=>(P.info? el).isSome | _=>false)
 | .fn=>(match P.underlying t with | some (.func ..)=>true | _=>false)
 | .ifc=>(match P.underlying t with | some (.interface _)=>true | _=>false)
def Zg (P:Program)(op:Op)(type:TypeId)(i:I):Bool:=
 match i with
 | .mv y=>(match op with | .move x=>Qn x y | .assign x=>Qn x y | _=>false)
 | .own0 _=>(match op with
  | .move (.const v)=>Xz v .esl
  | .assign (.const v)=>Xz v .esl
  | _=>false)
 | .pick c a b=>(match op with | .pick c' a' b'=>Qn c' c&&Qn a' a&&Qn b' b | _=>false)
 | .box _ y=>(match op with
  | .box _ x=>Qn x y
  | .alloc t=>(match y with | .k z=>Yt P t z | _=>false)
  | _=>false)
 | .build zero ps=>(match op with | .build t parts=>Yt P t (.agg zero)&&QiJ P t&&YX P t parts.toList ps | _=>false)
 | .bsl sz n zero ps=>(match op with
  | .buildSlice t n' parts=>(match JG P t with
   | some e=>n == n'&&JC P e sz&&Yt P e zero&&zero.ZF&&(zero.cells.length == sz)&&decide (0<sz)&&decide (n*sz<=16777216)&&Qdk parts.toList ps
   | none=>false)
  | _=>false)
 | .ld sz ag y=>(match op with | .load t x=>Qn x y&&QbU P t ag&&JC P t sz | _=>false)
 | .st sz y u=>(match op with | .store t x v=>Qn x y&&Qn v u&&JC P t sz | _=>false)
 | .nilc y=>(match op with | .nilCheck x=>Qn x y | _=>false)
 | .bin bop a b=>(match op with | .binOp bop' _ x y _=>decide (bop=bop')&&Qn x a&&Qn y b | _=>false)
 | .eqk k neg a b=>(match op with | .binOp bop t x y _=>decide (bop=(if neg then .neq else .eql))&&QhW P t k&&Qn x a&&Qn y b&&(match k with | .ifc=>(match x with | .const _=>true | _=>(match y with | .const _=>true | _=>false)) | _=>true) | _=>false)
 | .un uop a=>(match op with | .unOp uop' _ x=>decide (uop=uop')&&Qn x a | _=>false)
 | .conv c a=>(match op with | .convert s d x=>QeZ P s d c&&Qn x a | _=>false)
 | .mkfn f k cap=>(match op with | .makeFunc fn first cap'=>(match fn with | .func g=>f == g&&first.size == k&&XJ (first.toList++cap'.toList) cap | _=>false) | _=>false)
 | .mks sz lim zero l c=>(match op with
  | .makeSlice t l' c'=>(match JG P t with
   | some e=>JC P e sz&&Yt P e zero&&zero.ZF&&(zero.cells.length == sz)&&decide (0<sz)&&Wj P e lim 140737488355328&&Qn l' l&&Qn c' c
   | none=>false)
  | _=>false)
 | .slc k y lo hi mx=>(match op with
  | .slice t x lo' hi' mx'=>Qn x y&&WB lo' lo&&WB hi' hi&&WB mx' mx&&(match k with
   | .str=>isStr P t
   | .sl sz=>(match JG P t with | some e=>JC P e sz | none=>false))
  | _=>false)
 | .fadr off y=>(match op with
  | .fieldAddr s x f=>Qn x y&&(match P.underlying s with
   | some (.struct fs)=>(match fs[f]? with
    | some z=>z.offset == off&&(match P.info? z.type with | some i=>i.size != 0 | none=>false)
    | none=>false)
   | _=>false)
  | _=>false)
 | .fld off sz ag y=>(match op with
  | .field s x f=>Qn x y&&QgH P s f off sz&&(match fieldType P s f with | some t=>QbU P t ag | none=>false)
  | _=>false)
 | .idxa sz y j=>(match op with
  | .indexAddr t x i=>Qn x y&&Qn i j&&(match JG P t with | some e=>JC P e sz&&decide (0<sz) | none=>false)
  | _=>false)
 | .idxp n sz y j=>(match op with
  | .indexAddr t x i=>Qn x y&&Qn i j&&(match arrayOf P t with | some (m,e)=>n == m&&JC P e sz&&decide (0<sz) | none=>false)
  | _=>false)
 | .idxv n sz ag y j=>(match op with
  | .index t x i=>Qn x y&&Qn i j&&(match arrayOf P t with | some (m,e)=>n == m&&JC P e sz&&QbU P e ag | none=>false)
  | _=>false)
 | .idx y j=>(match op with | .index t x i=>Qn x y&&Qn i j&&isStr P t | _=>false)
 | .tupx y i=>(match op with | .extract x j=>Qn x y&&i == j | _=>false)
 | .rng y=>(match op with | .range t x=>Qn x y&&isStr P t | _=>false)
 | .nxt y=>(match op with | .next x s=>Qn x y&&s | _=>false)
 | .len s y=>(match op with
  | .call c=>(match c.callee with
   | .builtin .len=>XJ c.args.toList [y]&&(match c.argTypes.toList with | t::_=>(if s then isStr P t else(JG P t).isSome) | []=>false)
   | _=>false)
  | _=>false)
 | .app s sz lim a b=>(match op with
  | .call c=>(match c.callee with
   | .builtin .append=>XJ c.args.toList [a,b]&&(match c.argTypes.toList with
    | [t,u]=>(match JG P t with
     | some e=>JC P e sz&&decide (0<sz)&&(match P.info? e with | some i=>i.zero.isSome | none=>false)&&Wj P e lim 140737488355328&&(match P.underlying u with | some .string=>s&&sz == 1 | some (.slice _)=>!s | _=>false)&&(match P.info? e with | some i=>(match i.zero with | some z=>z.cells.size == sz | none=>false) | none=>false)
     | none=>false)
    | _=>false)
   | _=>false)
  | _=>false)
 | .mnx isMax a b=>(match op with
  | .call c=>(match c.callee with
   | .builtin .max=>isMax&&XJ c.args.toList [a,b]
   | .builtin .min=>!isMax&&XJ c.args.toList [a,b]
   | _=>false)
  | _=>false)
 | .boxt T _ _ _ y=>(match op with
  | .box t x=>t == T&&Qn x y
  | .alloc t=>t == T&&(match y with | .k z=>Yt P t z | _=>false)
  | _=>false)
 | .uns ok y=>(match op with | .convert s d x=>Qty P s d ok&&Qn x y | _=>false)
 | .sdat y=>(match op with
  | .call c=>(match c.callee with
   | .builtin .unsafeSliceData=>XJ c.args.toList [y]
   | _=>false)
  | _=>false)
 | .ustr T p n=>(match op with
  | .call c=>(match c.callee with
   | .builtin .unsafeString=>XJ c.args.toList [p,n]&&(match c.argTypes.toList with
    | [t,_]=>(match P.underlying t with | some (.pointer e)=>e == T&&P.cellsOf e == 1 | _=>false)
    | _=>false)
   | _=>false)
  | _=>false)
 | .appb T lim a b=>(match op with
  | .call c=>(match c.callee with
   | .builtin .append=>XJ c.args.toList [a,b]&&(match c.argTypes.toList with
    | [t,u]=>(match JG P t with
     | some e=>e == T&&JC P e 1&&Wj P e lim 140737488355328&&(match P.underlying u with | some .string=>true | some (.slice _)=>true | _=>false)&&(match P.info? e with | some i=>(match i.zero with | some z=>z.cells.size == 1 | none=>false) | none=>false)&&decide (lim<=9223372036854775807)
     | none=>false)
    | _=>false)
   | _=>false)
  | _=>false)
 | .call f args=>(match op with
  | .call c=>(match c.callee with | .value (.func g)=>f == g&&XJ c.args.toList args | _=>false)
  | _=>false)
 | .callv _ y args=>(match op with
  | .call c=>(match c.callee with | .value (.tmp n)=>Qn (.tmp n) y&&XJ c.args.toList args | _=>false)
  | _=>false)
mutual
theorem QeH {V:View}{β:Beta}: ∀(x:AV) (v:Value),Xz v x=true->Rel V β x v
 | .agg l,v,h=>by
  unfold Xz at h;cases v<;>first | (cases h; done) | skip
  rename_i cs;unfold Rel;exact⟨cs,rfl,Qhm l cs.toList h⟩
 | .any,v,h=>by unfold Rel; trivial
 | .bool b,v,h=>by cases v<;>simp[Xz]at h; unfold Rel; rw[h]
 | .int k n,v,h=>by cases v<;>simp[Xz]at h; unfold Rel; rw[h.1,h.2]
 | .str s,v,h=>by
  cases v<;>simp[Xz]at h;unfold Rel;rename_i t
  congr 1
  cases s; cases t;simp at h;rw[h]
 | .nilp,v,h=>by
  cases v with
  | pointer a=>cases a<;>simp[Xz]at h; unfold Rel; rfl
  | _=>simp[Xz]at h
 | .esl,v,h=>by
  cases v with
  | slice a n c=>
   cases a<;>simp[Xz]at h;unfold Rel;exact⟨none,by rw[h.1,h.2]⟩
  | _=>simp[Xz]at h
 | .isl l,v,h=>by
  cases v with
  | slice a n c=>
   cases a<;>cases l<;>simp[Xz]at h;unfold Rel;exact⟨none,0,by rw[h.1,h.2]; rfl,by simp,.inl rfl⟩
  | _=>simp[Xz]at h
 | .nilf,v,h=>by cases v<;>simp[Xz]at h; unfold Rel; rfl
 | .nilm,v,h=>by
  cases v with
  | map a=>cases a<;>simp[Xz]at h; unfold Rel; rfl
  | _=>simp[Xz]at h
 | .mref _,v,h=>by simp[Xz]at h
 | .nbuf _,v,h=>by simp[Xz]at h
 | .nils,v,h=>by
  cases v with
  | slice a n c=>
   cases a<;>simp[Xz]at h;unfold Rel;rw[h.1,h.2]
  | _=>simp[Xz]at h
 | .nili,v,h=>by cases v<;>simp[Xz]at h; unfold Rel; rfl
 | .QI g k l,v,h=>by
  cases v with
  | func fn first cap=>
   cases fn<;>cases l<;>simp[Xz]at h;unfold Rel;refine⟨#[],by rw[h.1.1,h.1.2,h.2]; simp,by unfold Qr; rfl⟩
  | _=>simp[Xz]at h
 | .ptr ..,v,h=>by simp[Xz]at h
 | .iptr _,v,h=>by simp[Xz]at h
 | .osl ..,v,h=>by simp[Xz]at h
 | .tup _,v,h=>by simp[Xz]at h
 | .iface ..,v,h=>by simp[Xz]at h
theorem Qhm {V:View}{β:Beta}: ∀(l:List AV) (vs:List Value),Qhn vs l=true->Qr V β l vs
 | [],vs,h=>by unfold Qr; unfold Qhn at h; simpa using h
 | x::l,vs,h=>by
  unfold Qhn at h;cases vs with
  | nil=>cases h
  | cons v r=>
   rw[Bool.and_eq_true]at h;unfold Qr;exact⟨v,r,rfl,QeH x v h.1,Qhm l r h.2⟩
end
theorem Qf {V:View}{β:Beta}{e:Env}{a:Act}(hE:Qo V β e a.tmps){x:Operand}{y:O}(h:Qn x y=true){u:AV}(hv:y.val e=some u):Rel V β u (a.eval x):=by
 cases x with
 | tmp n=>
  cases y with
  | t m=>
   simp[Qn]at h;subst h;obtain⟨v,h1,h2⟩:=hE n u hv;simp[Act.eval,Array.getD_eq_getD_getElem?,h1];exact h2
  | k _=>simp[Qn]at h
 | const v=>
  cases y with
  | t _=>simp[Qn]at h
  | k w=>
   simp only[O.val]at hv;injection hv with hv;subst hv;exact QeH w v (by simpa[Qn]using h)
 | global g=>cases y<;>simp[Qn]at h
 | func f=>
  cases y with
  | t _=>simp[Qn]at h
  | k w=>
   simp only[O.val]at hv;injection hv with hv;subst hv;cases w with
   | QI g k l=>
    cases l<;>simp[Qn]at h;subst h;unfold Rel;exact⟨#[],by simp; rfl,by unfold Qr; rfl⟩
   | _=>simp[Qn]at h
theorem Qay {V:View}{β:Beta}{e:Env}{a:Act}(hE:Qo V β e a.tmps): ∀{xs:List Operand} {ys:List O} {us:List AV},XJ xs ys=true->Qbd e ys=some us->Qr V β us (xs.map a.eval)
 | [],[],us,_,hv=>by simp[Qbd]at hv; subst hv; unfold Qr; rfl
 | x::xs,y::ys,us,h,hv=>by
  simp[XJ]at h;unfold Qbd at hv;split at hv
  ·rename_i u r h1 h2;injection hv with hv;subst hv;unfold Qr;exact⟨_,_,rfl,Qf hE h.1 h1,Qay hE h.2 h2⟩
  ·cases hv
 | [],_::_,_,h,_=>by simp[XJ]at h
 | _::_,[],_,h,_=>by simp[XJ]at h
theorem Qgs {V:View}{β:Beta}{y:AV}{u:Value}(hy:y.one=true)(hr:Rel V β y u):u.oneCell'=true:=by
 cases y<;>simp[AV.one]at hy<;>unfold Rel at hr
 all_goals first
  | (subst hr; rfl)
  | (obtain⟨_,_,rfl⟩:=hr; rfl)
  | (obtain⟨_,_,rfl,_⟩:=hr; rfl)
  | (obtain⟨_,rfl⟩:=hr; rfl)
  | (obtain⟨_,rfl,_⟩:=hr; rfl)
  | (rcases hr with⟨_,_,_,rfl,_⟩ | ⟨_,_,_,_,rfl⟩<;>rfl)
theorem WY {V:View}{β:Beta}{x:AV}{v:Value}(h1:x.ZF=true)(hr:Rel V β x v):Qr V β x.cells v.cells.toList/\ ∀u∈v.cells.toList,u.oneCell'=true:=by
 by_cases ha: ∃l,x= .agg l
 ·obtain⟨l,rfl⟩:=ha;unfold Rel at hr;obtain⟨vs,rfl,hr⟩:=hr;refine⟨hr,fun u hu=>?_⟩
  obtain⟨hl,hr⟩:=Qp.1 hr;obtain⟨j,hj,rfl⟩:=List.mem_iff_getElem.1 hu;simp only[Value.cells]at hj;obtain⟨v,h2,h3⟩:=hr j (l[j]'(by omega)) (by simp)
  have h4:(Value.agg vs).cells.toList[j]=v:=by
   have:=h2;rw[List.getElem?_eq_getElem hj]at this
   injection this
  rw[h4];simp only[AV.ZF,AV.cells,List.all_eq_true]at h1;exact Qgs (h1 _ (List.getElem_mem _)) h3
 ·have hx: ∀l,x≠ .agg l:=fun l e=>ha ⟨l,e⟩
  rw[AV.ZF,Xm hx]at h1;simp at h1;have h2:=Qgs h1 hr;have h3:v.cells= #[v]:=by cases v<;>first | rfl | simp[Value.oneCell']at h2
  rw[Xm hx,h3];refine⟨?_,by simp[h2]⟩
  unfold Qr;exact⟨v,[],rfl,hr,by unfold Qr; rfl⟩
end Go.Avm
namespace Go.Avm
open Go.RowKit
def Xo (P:Program)(w0:World)(wr:Nat)(β:Beta)(h:H)(w:World)(s:Sem Next)(u:AV)(h':H):Prop:=
 ∃nx v w' β',s.run P w= .ok nx w'/\(nx= .value v\/(nx= .skip/\v=undef))/\Sim w0 wr β' h' w'/\Ext wr β h w β' h' w'/\Rel (view wr β' h' w') β' u v
section
variable {P : Program} {w0 : World} {wr base ws : Nat} {β : Beta} {h h' : H} {w : World} {e : Env} {a : Act} {u : AV} {o : Oper}
theorem Xo.val{s:Sem Next}{v:Value}(hs:s.run P w= .ok (.value v) w)(S:Sim w0 wr β h w)(hr:Rel (view wr β h w) β u v):Xo P w0 wr β h w s u h:=
 ⟨.value v,v,w,β,hs,.inl rfl,S,Ext.refl _ _ _ _,hr⟩
theorem JE {t:TypeId}{sz:Nat}(hz:JC P t sz=true)(w:World):(sizeOf t).run P w= .ok sz w:=by
 unfold JC at hz;split at hz
 ·rename_i i hi;simp at hz;simp[sizeOf,typeInfo,hi,hz]
 ·cases hz
theorem WS {t:TypeId}{sz:Nat}(hz:JC P t sz=true): ∃i,P.info? t=some i/\i.size=sz:=by
 unfold JC at hz;split at hz
 ·rename_i i hi;exact⟨i,hi,by simpa using hz⟩
 ·cases hz
theorem Jm {t:TypeId}{z:AV}(hz:Yt P t z=true): ∃v,(∀w:World,(zeroValue t).run P w= .ok v w)/\(∃i,P.info? t=some i/\i.zero=some v)/\ ∀V β,Rel V β z v:=by
 unfold Yt at hz;split at hz
 ·rename_i i hi;split at hz
  ·rename_i v hv;exact⟨v,fun w=>by simp[zeroValue,typeInfo,hi,hv],⟨i,hi,hv⟩,fun V β=>QeH _ _ hz⟩
  ·cases hz
 ·cases hz
theorem XH {t e:TypeId}(hs:JG P t=some e):P.underlying t=some (.slice e):=by
 unfold JG at hs;split at hs
 ·rename_i e' he; injection hs with hs; subst hs; exact he
 ·cases hs
theorem Qgk {t e:TypeId}{n:Nat}(hs:arrayOf P t=some (n,e)):P.underlying t=some (.array n e):=by
 unfold arrayOf at hs;split at hs
 ·rename_i n' e' he; injection hs with hs; cases hs; exact he
 ·cases hs
theorem YL {t:TypeId}(hs:isStr P t=true):P.underlying t=some .string:=by
 unfold isStr at hs;split at hs
 ·assumption
 ·cases hs
theorem YO {t:TypeId}{ag:Bool}(ha:QbU P t ag=true)(w:World):(isAgg t).run P w= .ok ag w:=by
 unfold QbU at ha;split at ha
 ·rename_i hu; simp[isAgg,run_underlying hu,ha]
 ·rename_i hu; simp[isAgg,run_underlying hu,ha]
 ·rename_i d hu h1 h2;have:ag=false:=by simpa using ha
  subst this;simp only[isAgg,Sem.run_bind,run_underlying h2,Result.andThen_ok];cases d<;>first | (exact absurd rfl (hu _)) | (exact absurd rfl (h1 _ _)) | rfl
 ·cases ha
theorem Qyf {x:O}{y:Operand}(ho:o.op= .move y\/o.op= .assign y)(hs:Qn y x=true)(hE:Qo (view wr β h w) β e a.tmps)(S:Sim w0 wr β h w)
    (hev:evI base ws e h (.mv x)=some (u,h')):Xo P w0 wr β h w (execOp a.eval o) u h':=by
 dsimp only[evI]at hev;split at hev
 ·rename_i v hv;simp at hev; obtain⟨rfl,rfl⟩:=hev;refine .val (v:=a.eval y) ?_ S (Qf hE hs hv)
  rcases ho with ho | ho<;>simp[execOp,ho]
 ·cases hev
theorem Qjt (S:Sim w0 wr β h w){b ver:Nat}{blk:Qq}(hcb: ∀v,cur [blk] 0=some v->v=ver)(hnd: ∀v,blk≠ .dead v)(hnt: ∀x y z t,blk≠ .tyd x y z t)(hb:b<=h.length)(hn:β b ver=none)(hold: ∀v,ver<v->β b v=none):
    Sim w0 wr (QV β b ver none) (Jd h b blk) w/\Ext0 wr β h w (QV β b ver none) (Jd h b blk) w:=by
 have hcur: ∀k v,cur (Jd h b blk) k=some v->(k=b/\v=ver)\/(k≠b/\cur h k=some v):=by
  intro k v hk;unfold cur at hk;rw[Xw hb]at hk;by_cases hkb:k=b
  ·rw[if_pos hkb]at hk; exact .inl ⟨hkb,hcb v (by unfold cur; exact hk)⟩
  ·rw[if_neg hkb]at hk; exact .inr ⟨hkb,hk⟩
 have hsome: ∀k v c,QV β b ver none k v=some (some c)->β k v=some (some c):=fun k v c hk=>by
  unfold QV at hk; split at hk
  ·simp at hk
  ·exact hk
 have hlive: ∀c,Live wr (QV β b ver none) (Jd h b blk) c->Live wr β h c:=by
  rintro c ⟨k,v,h1,h2,h3⟩
  have h4:=hsome k v c h3;rcases hcur k v h2 with⟨rfl,rfl⟩ | ⟨h5,h6⟩
  ·rw[hn]at h4; cases h4
  ·exact⟨k,v,h1,h6,h4⟩
 have hle:β.Le (QV β b ver none):=fun k v x hx=>by
  unfold QV;split
  ·rename_i hkv; obtain⟨rfl,rfl⟩:=hkv; rw[hn]at hx; cases hx
  ·exact hx
 have E:Ext0 wr β h w (QV β b ver none) (Jd h b blk) w:=
  ⟨rfl,rfl,rfl,Nat.le_refl _,(Zs hb).1,hle,fun c _ hc=>⟨rfl,fun h=>hc (hlive c h)⟩,fun _ _ _ _ h=>⟨_,_,h,rfl⟩⟩
 refine⟨⟨S.below,fun k v c hk=>?_,fun k v hk=>?_,?_,?_,?_,?_,?_,?_⟩,E⟩
 ·obtain⟨h1,h2⟩:=S.dom k v c (hsome k v c hk);exact⟨Nat.lt_of_lt_of_le h1 (Zs hb).1,h2⟩
 ·unfold QV at hk;split at hk
  ·rename_i hkv; obtain⟨rfl,rfl⟩:=hkv; exact(Zs hb).2
  ·exact Nat.lt_of_lt_of_le (S.domv k v hk) (Zs hb).1
 ·intro k k' v v' c h1 h2 h3 h4
  replace h3:=hsome _ _ _ h3
  replace h4:=hsome _ _ _ h4
  rcases hcur k v h1 with⟨rfl,rfl⟩ | ⟨h5,h6⟩
  ·rw[hn]at h3; cases h3
  ·rcases hcur k' v' h2 with⟨rfl,rfl⟩ | ⟨h7,h8⟩
   ·rw[hn]at h4; cases h4
   ·exact S.inj k k' v v' c h6 h8 h3 h4
 ·intro k v z es c h1 h2
  replace h2:=hsome _ _ _ h2
  rw[Xw hb]at h1;by_cases hk:k=b
  ·rw[if_pos hk]at h1;injection h1 with h1;subst hk;have hv:v=ver:=hcb v (by rw[h1]; rfl)
   subst hv;rw[hn]at h2; cases h2
  ·rw[if_neg hk]at h1;obtain⟨⟨cs,T,fr,h3,h4⟩,h5,h6⟩:=S.arr k v z es c h1 h2;exact⟨⟨cs,T,fr,h3,h4⟩,fun o ho=>h5 o (by rwa[Jn h3]at ho ⊢),h6.mono (fun _ _ h=>h) E.view E.beta⟩
 ·intro k x v c h1 hcu h2
  replace h2:=hsome _ _ _ h2
  rw[Xw hb]at h1;rcases hcur k v hcu with⟨rfl,rfl⟩ | ⟨hk,hcu⟩
  ·rw[hn]at h2; cases h2
  ·rw[if_neg hk]at h1; exact(S.oth k x v c h1 hcu h2).mono rfl E.view E.beta
 ·intro k b1 v T n h1;rw[Xw hb]at h1;by_cases hk:k=b
  ·rw[if_pos hk]at h1; injection h1 with h1; exact absurd h1 (hnt _ _ _ _)
  ·rw[if_neg hk]at h1; exact E.tyd (S.tyd k b1 v T n h1)
 ·intro k v v0 h1 h2;rcases hcur k v0 h1 with⟨rfl,rfl⟩ | ⟨h5,h6⟩
  ·unfold QV; rw[if_neg (by omega)]; exact hold v h2
  ·unfold QV; rw[if_neg (fun e=>h5 e.1)]; exact S.old k v v0 h6 h2
 ·intro k v v0 h1 h2;rw[Xw hb]at h1;by_cases hk:k=b
  ·rw[if_pos hk]at h1; injection h1 with h1; exact absurd h1 (hnd _)
  ·rw[if_neg hk]at h1;unfold QV;rw[if_neg (fun e=>hk e.1)]
   exact S.oldd k v v0 h1 h2
theorem Qju (S:Sim w0 wr β h w){b ver sz:Nat}{els:List AV}(hb:b<=h.length)(hn:β b ver=none)(hold: ∀v,ver<v->β b v=none):
    Sim w0 wr (QV β b ver none) (Jd h b (.arr ver sz els)) w/\Ext0 wr β h w (QV β b ver none) (Jd h b (.arr ver sz els)) w:=
 Qjt S (fun v hv=>by simpa[cur,eq_comm]using hv) (fun _ h=>by cases h) (fun _ _ _ _ h=>by cases h) hb hn hold
theorem Qhh (S:Sim w0 wr β h w)(sz:Nat): ∃β',Sim w0 wr β' (h++ [.arr 0 sz []]) w/\Ext wr β h w β' (h++ [.arr 0 sz []]) w/\β' h.length 0=some none:=by
 have:=Qju S (b:=h.length) (ver:=0) (sz:=sz) (els:=[]) (Nat.le_refl _) (XU S (Nat.le_refl _) 0) (fun v _=>XU S (Nat.le_refl _) v)
 rw[ZL]at this;have hfr:=XT (x:=none) (β:=β) (blk:=.arr 0 sz []) (ver:=0) (h:=h) (fun v hv=>by simpa[cur,eq_comm]using hv) (.inl rfl)
 rw[ZL]at hfr;exact⟨_,this.1,⟨this.2,hfr⟩,by simp[QV]⟩
theorem QqM {sz:Nat}{v:Value}(ho:o.op= .move (.const v)\/o.op= .assign (.const v))(hs:Xz v .esl=true)(S:Sim w0 wr β h w)
    (hev:evI base ws e h (.own0 sz)=some (u,h')):Xo P w0 wr β h w (execOp a.eval o) u h':=by
 simp[evI]at hev; obtain⟨rfl,rfl⟩:=hev;obtain⟨β',S1,E1,hb⟩:=Qhh S sz
 have hv:v= .slice none 0 0:=by
  cases v with
  | slice a n c=>
   cases a<;>simp[Xz]at hs;rw[hs.1,hs.2]
  | _=>simp[Xz]at hs
 subst hv;refine⟨.value _,.slice none 0 0,w,β',?_,.inl rfl,S1,E1,?_⟩
 ·rcases ho with ho | ho<;>simp[execOp,ho,Act.eval]
 ·unfold Rel; exact .inr ⟨hb,rfl,rfl,none,rfl⟩
theorem Qxc {c x y:O}{c' x' y':Operand}(ho:o.op= .pick c' x' y')(h1:Qn c' c=true)(h2:Qn x' x=true)(h3:Qn y' y=true)(hE:Qo (view wr β h w) β e a.tmps)(S:Sim w0 wr β h w)
    (hev:evI base ws e h (.pick c x y)=some (u,h')):Xo P w0 wr β h w (execOp a.eval o) u h':=by
 dsimp only[evI]at hev;split at hev
 ·rename_i t ht;have hc:=Qf hE h1 ht;unfold Rel at hc;split at hev
  ·rename_i v hv;simp at hev; obtain⟨rfl,rfl⟩:=hev;cases t
   ·exact .val (v:=a.eval y') (by simp[execOp,ho,hc,asBool]) S (Qf hE h3 hv)
   ·exact .val (v:=a.eval x') (by simp[execOp,ho,hc,asBool]) S (Qf hE h2 hv)
  ·cases hev
 ·cases hev
theorem QAm {V:View}{c sz:Nat}{x:AV}{v:Value}(hr:Qr V β x.cells v.cells.toList)(hz:x.cells.length=sz):BE (fun _ o=>v.cells[o]?) V β c 0 sz [x]:=by
 intro i y hi;cases i with
 | zero=>
  simp at hi; subst hi;refine⟨hz,fun j z hj=>?_⟩
  obtain⟨u,h1,h2⟩:=(Qp.1 hr).2 j z hj;exact⟨u,by simpa using h1,h2⟩
 | succ i=>simp at hi
theorem Qlx (S:Sim w0 wr β h w)(hwr:wr<=h.length)(t:TypeId){x:AV}{v:Value}{sz:Nat}(h1:x.ZF=true)(hz:x.cells.length=sz)(hr:Rel (view wr β h w) β x v):
    ∃β',Sim w0 wr β' (h++ [.arr 0 sz [x]]) (w.alloc (.cells v.cells t))/\Ext wr β h w β' (h++ [.arr 0 sz [x]]) (w.alloc (.cells v.cells t))/\β' h.length 0=some (some w.heap.size):=by
 obtain⟨hl,_⟩:=WY h1 hr;have hlen:v.cells.size=sz:=by have:=(Qp.1 hl).1; simpa[hz]using this
 obtain⟨β',S1,E1,hb,_⟩:=Qqy S hwr (sz:=sz) (els:=[x]) v.cells t (by simp[hlen]) (QAm hl hz)
 exact⟨β',S1,E1,hb⟩
theorem QuQ {sz:Nat}{y:O}(ho:(∃t x,o.op= .box t x/\Qn x y=true)\/(∃t z,o.op= .alloc t/\y= .k z/\Yt P t z=true))(hE:Qo (view wr β h w) β e a.tmps)(S:Sim w0 wr β h w)(hwr:wr<=h.length)
    (hev:evI base ws e h (.box sz y)=some (u,h')):Xo P w0 wr β h w (execOp a.eval o) u h':=by
 dsimp only[evI]at hev;split at hev
 ·rename_i v hv;split at hev
  ·rename_i hc;simp at hev; obtain⟨rfl,rfl⟩:=hev;rcases ho with⟨t,x,ho,hs⟩ | ⟨t,z,ho,rfl,hz⟩
   ·have hr:=Qf hE hs hv;obtain⟨β',S1,E1,hb⟩:=Qlx S hwr t hc.2 hc.1 hr;refine⟨.value _,.pointer (some ⟨w.heap.size,0,none⟩),_,β',?_,.inl rfl,S1,E1,?_⟩
    ·simp[execOp,ho,Instr.box,newVar,newRow]
    ·unfold Rel; exact⟨_,hb,by simp⟩
   ·obtain⟨zv,hz1,_,hz2⟩:=Jm hz;simp only[O.val]at hv;injection hv with hv;subst hv;obtain⟨β',S1,E1,hb⟩:=Qlx S hwr t hc.2 hc.1 (hz2 _ _);refine⟨.value _,.pointer (some ⟨w.heap.size,0,none⟩),_,β',?_,.inl rfl,S1,E1,?_⟩
    ·simp[execOp,ho,Instr.alloc,newVar,newRow,hz1]
    ·unfold Rel; exact⟨_,hb,by simp⟩
  ·cases hev
 ·cases hev
end
end Go.Avm
