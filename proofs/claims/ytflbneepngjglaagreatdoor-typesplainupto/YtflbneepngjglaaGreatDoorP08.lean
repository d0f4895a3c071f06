/- The check that an AVM text is that of a Go function's code. It is decided by the kernel. -/
import Derived.Test.YtflbneepngjglaaGreatDoorP04
set_option linter.all false
namespace Go.Avm
mutual
def sameK (v : Value) : AV→Bool
 | .bool b=>(match v with | .bool a=>a == b | _=>false)
 | .int k' m=>(match v with | .int k n=>decide (k=k') && decide (n=m) | _=>false)
 | .str t=>(match v with | .string s=>decide (s.data.toList=t.data.toList) | _=>false)
 | .nilp=>(match v with | .pointer none=>true | _=>false)
 | .esl=>(match v with | .slice none n c=>n == 0 && c == 0 | _=>false)
 | .isl l=>(match v with | .slice none n c=>n == 0 && c == 0 && l.isEmpty | _=>false)
 | .nilf=>(match v with | .nilFunc=>true | _=>false)
 | .nilm=>(match v with | .map none=>true | _=>false)
 | .nils=>(match v with | .slice none n c=>n == 0 && c == 0 | _=>false)
 | .nili=>(match v with | .nilIface=>true | _=>false)
 | .clos g _ l=>(match v with | .func (.func f) first cap=>f == g && first.size == 0 && cap.size == 0 && l.isEmpty | _=>false)
 | .agg l=>(match v with | .agg cs=>sameKL cs.toList l | _=>false)
 | _=>false
def sameKL (vs : List Value) : List AV→Bool
 | []=>vs.isEmpty
 | x :: l=>match vs with
  | v :: r=>sameK v x && sameKL r l
  | []=>false
end
def sameO : Operand→O→Bool
 | .tmp n,.t m=>n == m
 | .const v,.k a=>sameK v a
 | .func f,.k (.clos g _ [])=>f == g
 | _,_=>false
def sameOs : List Operand→List O→Bool
 | [],[]=>true
 | x :: l,y :: r=>sameO x y && sameOs l r
 | _,_=>false
def sameOo : Option Operand→Option O→Bool
 | none,none=>true
 | some x,some y=>sameO x y
 | _,_=>false
def szIs (P : Program) (t : TypeId) (sz : Nat) : Bool:=match P.info? t with | some i=>i.size == sz | none=>false
def zeroIs (P : Program) (t : TypeId) (z : AV) : Bool:=match P.info? t with
 | some i=>(match i.zero with | some v=>sameK v z | none=>false)
 | none=>false
def aggIs (P : Program) (t : TypeId) (ag : Bool) : Bool:=match P.underlying t with
 | some (.struct _)=>ag
 | some (.array _ _)=>ag
 | some _=>!ag
 | none=>false
def sliceOf (P : Program) (t : TypeId) : Option TypeId:=match P.underlying t with | some (.slice e)=>some e | _=>none
def arrayOf (P : Program) (t : TypeId) : Option (Nat × TypeId):=match P.underlying t with | some (.array n e)=>some (n,e) | _=>none
def isStr (P : Program) (t : TypeId) : Bool:=match P.underlying t with | some .string=>true | _=>false
def bytesLim (P : Program) (t : TypeId) (lim most : Nat) : Bool:=match P.info? t with | some i=>decide (lim * i.bytes≤most) && decide (0 < i.bytes) | none=>false
def fieldIs (P : Program) (s : TypeId) (f off sz : Nat) : Bool:=match P.underlying s with
 | some (.struct fs)=>(match fs[f]? with | some x=>x.offset == off && szIs P x.type sz | none=>false)
 | _=>false
def partIs (P : Program) (s : TypeId) (f off sz : Nat) : Bool:=match P.underlying s with
 | some (.array _ e)=>off == f * sz && szIs P e sz
 | _=>fieldIs P s f off sz
def fieldType (P : Program) (s : TypeId) (f : Nat) : Option TypeId:=match P.underlying s with
 | some (.struct fs)=>(match fs[f]? with | some x=>some x.type | none=>none)
 | _=>none
def allSized (P : Program) (s : TypeId) : Bool:=match P.underlying s with
 | some (.struct fs)=>fs.toList.all fun f=>(P.info? f.type).isSome
 | some (.array _ e)=>(P.info? e).isSome
 | _=>false
def partsAre (P : Program) (s : TypeId) : List (Nat × Operand)→List (Nat × Nat × O)→Bool
 | [],[]=>true
 | (f,x) :: l,(off,sz,y) :: r=>partIs P s f off sz && sameO x y && partsAre P s l r
 | _,_=>false
def elsAre : List (Nat × Operand)→List (Nat × O)→Bool
 | [],[]=>true
 | (i,x) :: l,(j,y) :: r=>i == j && sameO x y && elsAre l r
 | _,_=>false
def convIs (P : Program) (s d : TypeId) : Conv→Bool
 | .intk k=>(P.underlying s).isSome && (match P.underlying d with | some (.int k')=>decide (k=k') | _=>false)
 | .same=>(P.underlying s).isSome && isStr P d
 | .s2b=>(P.underlying s).isSome && (match sliceOf P d with | some e=>(match P.underlying e with | some (.int .u8)=>szIs P e 1 | _=>false) | none=>false)
 | .b2s=>isStr P d && (match sliceOf P s with | some e=>(match P.underlying e with | some (.int .u8)=>true | _=>false) | none=>false)
def unsIs (P : Program) (s d : TypeId) (ok : List (Nat × Nat × Nat)) : Bool:=match P.underlying s with
 | some (.pointer t)=>(match P.underlying d with | some .unsafePointer=>true | _=>false) && (match P.info? t with | some i=>i.size != 0 | none=>false) && ok.all fun q=>decide (q.2.2 < q.2.1)
 | some .unsafePointer=>(match P.underlying d with | some (.pointer u)=>(P.info? u).isSome && ok.all fun q=>liesAt P P.depth q.1 (q.2.1 / P.cellsOf q.1) q.2.2 u 1 | _=>false)
 | _=>false
def eqkIs (P : Program) (t : TypeId) : EqK→Bool
 | .bool=>(match P.underlying t with | some .bool=>true | _=>false)
 | .ptr=>(match P.underlying t with | some (.pointer _)=>true | _=>false)
 | .fn=>(match P.underlying t with | some (.func ..)=>true | _=>false)
 | .ifc=>(match P.underlying t with | some (.interface _)=>true | _=>false)
def opIs (P : Program) (op : Op) (type : TypeId) (i : I) : Bool:=
 match i with
 | .mv y=>(match op with | .move x=>sameO x y | .assign x=>sameO x y | _=>false)
 | .own0 _=>(match op with
  | .move (.const v)=>sameK v .esl
  | .assign (.const v)=>sameK v .esl
  | _=>false)
 | .pick c a b=>(match op with | .pick c' a' b'=>sameO c' c && sameO a' a && sameO b' b | _=>false)
 | .box _ y=>(match op with
  | .box _ x=>sameO x y
  | .alloc t=>(match y with | .k z=>zeroIs P t z | _=>false)
  | _=>false)
 | .build zero ps=>(match op with | .build t parts=>zeroIs P t (.agg zero) && allSized P t && partsAre P t parts.toList ps | _=>false)
 | .bsl sz n zero ps=>(match op with
  | .buildSlice t n' parts=>(match sliceOf P t with
   | some e=>n == n' && szIs P e sz && zeroIs P e zero && zero.ones && (zero.cells.length == sz) && decide (0 < sz) && decide (n * sz≤16777216) && elsAre parts.toList ps
   | none=>false)
  | _=>false)
 | .ld sz ag y=>(match op with | .load t x=>sameO x y && aggIs P t ag && szIs P t sz | _=>false)
 | .st sz y u=>(match op with | .store t x v=>sameO x y && sameO v u && szIs P t sz | _=>false)
 | .nilc y=>(match op with | .nilCheck x=>sameO x y | _=>false)
 | .bin bop a b=>(match op with | .binOp bop' _ x y _=>decide (bop=bop') && sameO x a && sameO y b | _=>false)
 | .eqk k neg a b=>(match op with | .binOp bop t x y _=>decide (bop=(if neg then .neq else .eql)) && eqkIs P t k && sameO x a && sameO y b && (match k with | .ifc=>(match x with | .const _=>true | _=>(match y with | .const _=>true | _=>false)) | _=>true) | _=>false)
 | .un uop a=>(match op with | .unOp uop' _ x=>decide (uop=uop') && sameO x a | _=>false)
 | .conv c a=>(match op with | .convert s d x=>convIs P s d c && sameO x a | _=>false)
 | .mkfn f k cap=>(match op with | .makeFunc fn first cap'=>(match fn with | .func g=>f == g && first.size == k && sameOs (first.toList++cap'.toList) cap | _=>false) | _=>false)
 | .mks sz lim zero l c=>(match op with
  | .makeSlice t l' c'=>(match sliceOf P t with
   | some e=>szIs P e sz && zeroIs P e zero && zero.ones && (zero.cells.length == sz) && decide (0 < sz) && bytesLim P e lim 140737488355328 && sameO l' l && sameO c' c
   | none=>false)
  | _=>false)
 | .slc k y lo hi mx=>(match op with
  | .slice t x lo' hi' mx'=>sameO x y && sameOo lo' lo && sameOo hi' hi && sameOo mx' mx && (match k with
   | .str=>isStr P t
   | .sl sz=>(match sliceOf P t with | some e=>szIs P e sz | none=>false))
  | _=>false)
 | .fadr off y=>(match op with
  | .fieldAddr s x f=>sameO x y && (match P.underlying s with
   | some (.struct fs)=>(match fs[f]? with
    | some z=>z.offset == off && (match P.info? z.type with | some i=>i.size != 0 | none=>false)
    | none=>false)
   | _=>false)
  | _=>false)
 | .fld off sz ag y=>(match op with
  | .field s x f=>sameO x y && fieldIs P s f off sz && (match fieldType P s f with | some t=>aggIs P t ag | none=>false)
  | _=>false)
 | .idxa sz y j=>(match op with
  | .indexAddr t x i=>sameO x y && sameO i j && (match sliceOf P t with | some e=>szIs P e sz && decide (0 < sz) | none=>false)
  | _=>false)
 | .idxp n sz y j=>(match op with
  | .indexAddr t x i=>sameO x y && sameO i j && (match arrayOf P t with | some (m,e)=>n == m && szIs P e sz && decide (0 < sz) | none=>false)
  | _=>false)
 | .idxv n sz ag y j=>(match op with
  | .index t x i=>sameO x y && sameO i j && (match arrayOf P t with | some (m,e)=>n == m && szIs P e sz && aggIs P e ag | none=>false)
  | _=>false)
 | .idx y j=>(match op with | .index t x i=>sameO x y && sameO i j && isStr P t | _=>false)
 | .tupx y i=>(match op with | .extract x j=>sameO x y && i == j | _=>false)
 | .rng y=>(match op with | .range t x=>sameO x y && isStr P t | _=>false)
 | .nxt y=>(match op with | .next x s=>sameO x y && s | _=>false)
 | .len s y=>(match op with
  | .call c=>(match c.callee with
   | .builtin .len=>sameOs c.args.toList [y] && (match c.argTypes.toList with | t :: _=>(if s then isStr P t else (sliceOf P t).isSome) | []=>false)
   | _=>false)
  | _=>false)
 | .app s sz lim a b=>(match op with
  | .call c=>(match c.callee with
   | .builtin .append=>sameOs c.args.toList [a,b] && (match c.argTypes.toList with
    | [t,u]=>(match sliceOf P t with
     | some e=>szIs P e sz && decide (0 < sz) && (match P.info? e with | some i=>i.zero.isSome | none=>false) && bytesLim P e lim 140737488355328 && (match P.underlying u with | some .string=>s && sz == 1 | some (.slice _)=>!s | _=>false) && (match P.info? e with | some i=>(match i.zero with | some z=>z.cells.size == sz | none=>false) | none=>false)
     | none=>false)
    | _=>false)
   | _=>false)
  | _=>false)
 | .mnx isMax a b=>(match op with
  | .call c=>(match c.callee with
   | .builtin .max=>isMax && sameOs c.args.toList [a,b]
   | .builtin .min=>!isMax && sameOs c.args.toList [a,b]
   | _=>false)
  | _=>false)
 | .boxt T _ _ _ y=>(match op with
  | .box t x=>t == T && sameO x y
  | .alloc t=>t == T && (match y with | .k z=>zeroIs P t z | _=>false)
  | _=>false)
 | .uns ok y=>(match op with | .convert s d x=>unsIs P s d ok && sameO x y | _=>false)
 | .sdat y=>(match op with
  | .call c=>(match c.callee with
   | .builtin .unsafeSliceData=>sameOs c.args.toList [y]
   | _=>false)
  | _=>false)
 | .ustr T p n=>(match op with
  | .call c=>(match c.callee with
   | .builtin .unsafeString=>sameOs c.args.toList [p,n] && (match c.argTypes.toList with
    | [t,_]=>(match P.underlying t with | some (.pointer e)=>e == T && P.cellsOf e == 1 | _=>false)
    | _=>false)
   | _=>false)
  | _=>false)
 | .appb T lim a b=>(match op with
  | .call c=>(match c.callee with
   | .builtin .append=>sameOs c.args.toList [a,b] && (match c.argTypes.toList with
    | [t,u]=>(match sliceOf P t with
     | some e=>e == T && szIs P e 1 && bytesLim P e lim 140737488355328 && (match P.underlying u with | some .string=>true | some (.slice _)=>true | _=>false) && (match P.info? e with | some i=>(match i.zero with | some z=>z.cells.size == 1 | none=>false) | none=>false) && decide (lim≤9223372036854775807)
     | none=>false)
    | _=>false)
   | _=>false)
  | _=>false)
 | .call f args=>(match op with
  | .call c=>(match c.callee with | .value (.func g)=>f == g && sameOs c.args.toList args | _=>false)
  | _=>false)
 | .callv _ y args=>(match op with
  | .call c=>(match c.callee with | .value (.tmp n)=>sameO (.tmp n) y && sameOs c.args.toList args | _=>false)
  | _=>false)
mutual
theorem sameK_rel {V : View} {β : Beta} : ∀ (x : AV) (v : Value),sameK v x=true→Rel V β x v
 | .agg l,v,h=>by
  unfold sameK at h
  cases v <;> first | (cases h; done) | skip
  rename_i cs
  unfold Rel
  exact ⟨cs,rfl,sameKL_rel l cs.toList h⟩
 | .any,v,h=>by unfold Rel; trivial
 | .bool b,v,h=>by cases v <;> simp [sameK] at h; unfold Rel; rw [h]
 | .int k n,v,h=>by cases v <;> simp [sameK] at h; unfold Rel; rw [h.1,h.2]
 | .str s,v,h=>by
  cases v <;> simp [sameK] at h
  unfold Rel
  rename_i t
  congr 1
  cases s; cases t
  simp at h
  rw [h]
 | .nilp,v,h=>by
  cases v with
  | pointer a=>cases a <;> simp [sameK] at h; unfold Rel; rfl
  | _=>simp [sameK] at h
 | .esl,v,h=>by
  cases v with
  | slice a n c=>
   cases a <;> simp [sameK] at h
   unfold Rel
   exact ⟨none,by rw [h.1,h.2]⟩
  | _=>simp [sameK] at h
 | .isl l,v,h=>by
  cases v with
  | slice a n c=>
   cases a <;> cases l <;> simp [sameK] at h
   unfold Rel
   exact ⟨none,0,by rw [h.1,h.2]; rfl,by simp,.inl rfl⟩
  | _=>simp [sameK] at h
 | .nilf,v,h=>by cases v <;> simp [sameK] at h; unfold Rel; rfl
 | .nilm,v,h=>by
  cases v with
  | map a=>cases a <;> simp [sameK] at h; unfold Rel; rfl
  | _=>simp [sameK] at h
 | .mref _,v,h=>by simp [sameK] at h
 | .nbuf _,v,h=>by simp [sameK] at h
 | .nils,v,h=>by
  cases v with
  | slice a n c=>
   cases a <;> simp [sameK] at h
   unfold Rel
   rw [h.1,h.2]
  | _=>simp [sameK] at h
 | .nili,v,h=>by cases v <;> simp [sameK] at h; unfold Rel; rfl
 | .clos g k l,v,h=>by
  cases v with
  | func fn first cap=>
   cases fn <;> cases l <;> simp [sameK] at h
   unfold Rel
   refine ⟨#[],by rw [h.1.1,h.1.2,h.2]; simp,by unfold RelL; rfl⟩
  | _=>simp [sameK] at h
 | .ptr ..,v,h=>by simp [sameK] at h
 | .iptr _,v,h=>by simp [sameK] at h
 | .osl ..,v,h=>by simp [sameK] at h
 | .tup _,v,h=>by simp [sameK] at h
 | .iface ..,v,h=>by simp [sameK] at h
theorem sameKL_rel {V : View} {β : Beta} : ∀ (l : List AV) (vs : List Value),sameKL vs l=true→RelL V β l vs
 | [],vs,h=>by unfold RelL; unfold sameKL at h; simpa using h
 | x :: l,vs,h=>by
  unfold sameKL at h
  cases vs with
  | nil=>cases h
  | cons v r=>
   rw [Bool.and_eq_true] at h
   unfold RelL
   exact ⟨v,r,rfl,sameK_rel x v h.1,sameKL_rel l r h.2⟩
end
theorem sameO_rel {V : View} {β : Beta} {e : Env} {a : Act} (hE : EnvRel V β e a.tmps) {x : Operand} {y : O} (h : sameO x y=true) {u : AV} (hv : y.val e=some u) : Rel V β u (a.eval x):=by
 cases x with
 | tmp n=>
  cases y with
  | t m=>
   simp [sameO] at h
   subst h
   obtain ⟨v,h1,h2⟩:=hE n u hv
   simp [Act.eval,Array.getD_eq_getD_getElem?,h1]
   exact h2
  | k _=>simp [sameO] at h
 | const v=>
  cases y with
  | t _=>simp [sameO] at h
  | k w=>
   simp only [O.val] at hv
   injection hv with hv
   subst hv
   exact sameK_rel w v (by simpa [sameO] using h)
 | global g=>cases y <;> simp [sameO] at h
 | func f=>
  cases y with
  | t _=>simp [sameO] at h
  | k w=>
   simp only [O.val] at hv
   injection hv with hv
   subst hv
   cases w with
   | clos g k l=>
    cases l <;> simp [sameO] at h
    subst h
    unfold Rel
    exact ⟨#[],by simp; rfl,by unfold RelL; rfl⟩
   | _=>simp [sameO] at h
theorem sameOs_rel {V : View} {β : Beta} {e : Env} {a : Act} (hE : EnvRel V β e a.tmps) : ∀ {xs : List Operand} {ys : List O} {us : List AV},sameOs xs ys=true→valL e ys=some us→RelL V β us (xs.map a.eval)
 | [],[],us,_,hv=>by simp [valL] at hv; subst hv; unfold RelL; rfl
 | x :: xs,y :: ys,us,h,hv=>by
  simp [sameOs] at h
  unfold valL at hv
  split at hv
  ·rename_i u r h1 h2
   injection hv with hv
   subst hv
   unfold RelL
   exact ⟨_,_,rfl,sameO_rel hE h.1 h1,sameOs_rel hE h.2 h2⟩
  ·cases hv
 | [],_ :: _,_,h,_=>by simp [sameOs] at h
 | _ :: _,[],_,h,_=>by simp [sameOs] at h
theorem one_rel {V : View} {β : Beta} {y : AV} {u : Value} (hy : y.one=true) (hr : Rel V β y u) : u.oneCell'=true:=by
 cases y <;> simp [AV.one] at hy <;> unfold Rel at hr
 all_goals first
  | (subst hr; rfl)
  | (obtain ⟨_,_,rfl⟩:=hr; rfl)
  | (obtain ⟨_,_,rfl,_⟩:=hr; rfl)
  | (obtain ⟨_,rfl⟩:=hr; rfl)
  | (obtain ⟨_,rfl,_⟩:=hr; rfl)
  | (rcases hr with ⟨_,_,_,rfl,_⟩ | ⟨_,_,_,_,rfl⟩ <;> rfl)
theorem ones_rel {V : View} {β : Beta} {x : AV} {v : Value} (h1 : x.ones=true) (hr : Rel V β x v) : RelL V β x.cells v.cells.toList∧∀ u ∈ v.cells.toList,u.oneCell'=true:=by
 by_cases ha : ∃ l,x = .agg l
 ·obtain ⟨l,rfl⟩:=ha
  unfold Rel at hr
  obtain ⟨vs,rfl,hr⟩:=hr
  refine ⟨hr,fun u hu=>?_⟩
  obtain ⟨hl,hr⟩:=RelL_iff.1 hr
  obtain ⟨j,hj,rfl⟩:=List.mem_iff_getElem.1 hu
  simp only [Value.cells] at hj
  obtain ⟨v,h2,h3⟩:=hr j (l[j]'(by omega)) (by simp)
  have h4 : (Value.agg vs).cells.toList[j]=v:=by
   have:=h2
   rw [List.getElem?_eq_getElem hj] at this
   injection this
  rw [h4]
  simp only [AV.ones,AV.cells,List.all_eq_true] at h1
  exact one_rel (h1 _ (List.getElem_mem _)) h3
 ·have hx : ∀ l,x ≠ .agg l:=fun l e=>ha ⟨l,e⟩
  rw [AV.ones,cells_nonagg hx] at h1
  simp at h1
  have h2:=one_rel h1 hr
  have h3 : v.cells = #[v]:=by cases v <;> first | rfl | simp [Value.oneCell'] at h2
  rw [cells_nonagg hx,h3]
  refine ⟨?_,by simp [h2]⟩
  unfold RelL
  exact ⟨v,[],rfl,hr,by unfold RelL; rfl⟩
end Go.Avm
