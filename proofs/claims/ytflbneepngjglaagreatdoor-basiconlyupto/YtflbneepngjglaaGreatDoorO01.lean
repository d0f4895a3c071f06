/- The abstract machine AVM: Go's code over values as trees. Immutable slices are lists ('isl'); slices that a call made itself lie in the blocks
   of a small abstract heap ('osl'); a call is one step. Nothing here speaks of worlds; AvmSound says how it stands to the model. -/
import Derived.Orders
set_option linter.all false
namespace Go.Avm
inductive AV where
 | any
 | bool (b:Bool)
 | int (k:IntKind) (n:Int)
 | str (s:ByteArray)
 | nilp
 | ptr (b ver sz i o:Nat)
 | iptr (cells:List AV)
 | isl (els:List AV)
 | esl
 | osl (b ver sz off len:Nat)
 | agg (cells:List AV)
 | tup (vs:List AV)
 | QI (f:FuncId) (k:Nat) (cap:List AV)
 | nilf
 | nili
 | iface (t:TypeId) (v:AV)
 | mref (b:Nat)
 | nilm
 | nils
 | nbuf (b:Nat)
 deriving Inhabited
def AV.cells:AV->List AV
 | .agg l=>l
 | v=>[v]
def AV.one:AV->Bool
 | .any | .agg _ | .tup _=>false
 | _=>true
def AV.ZF(v:AV):Bool:=v.cells.all AV.one
mutual
def AV.pure:AV->Bool
 | .esl | .osl .. | .ptr .. | .mref _ | .nbuf _=>false
 | .iptr l | .isl l | .agg l | .tup l | .QI _ _ l=>Qv l
 | .iface _ v=>v.pure
 | _=>true
def Qv :List AV->Bool
 | []=>true
 | v::l=>v.pure&&Qv l
end
mutual
def AV.top:AV->Nat
 | .ptr b .. | .osl b .. | .mref b | .nbuf b=>b+1
 | .iptr l | .isl l | .agg l | .tup l | .QI _ _ l=>QmK l
 | .iface _ v=>v.top
 | _=>0
def QmK :List AV->Nat
 | []=>0
 | v::l=>max v.top (QmK l)
end
def AV.flat:AV->Bool
 | .bool _ | .int .. | .str _ | .nilp | .nilf | .nili=>true
 | _=>false
def AV.scalar:AV->Bool
 | .tup l=>l.all AV.flat
 | v=>v.flat
inductive Qq where
 | arr (ver sz:Nat) (els:List AV)
 | sit (s:ByteArray) (pos:Nat)
 | dead (ver:Nat)
 | tyd (b v T n:Nat)
 | buf (T:Nat) (s:ByteArray)
 | mp (l:List (AV×AV))
 deriving Inhabited
abbrev H :=List Qq
abbrev Env :=List (Nat×AV)
def Env.get:Env->Nat->Option AV
 | [],_=>none
 | (k,v)::r,n=>if k=n then some v else Env.get r n
def Env.put:Env->Nat->AV->Env
 | [],n,v=>[(n,v)]
 | (k,u)::r,n,v=>if n=k then(n,v)::r else if n<k then(n,v)::(k,u)::r else(k,u)::Env.put r n v
def Env.keep(l:List Nat)(e:Env):Env:=e.filter fun p=>l.contains p.1
def Env.drop(l:List Nat)(e:Env):Env:=e.filter fun p=>!l.contains p.1
inductive O where
 | t (n:Nat)
 | k (v:AV)
 deriving Inhabited
inductive Conv where
 | intk (k:IntKind) | s2b | b2s | same
 deriving Inhabited,DecidableEq
inductive EqK where
 | bool | ptr | fn | ifc
 deriving Inhabited,DecidableEq
inductive SlK where
 | str | sl (sz:Nat)
 deriving Inhabited,DecidableEq
inductive Pol where
 | snap | pur (own:Bool) | eff (own:Bool) | raw
 deriving Inhabited,DecidableEq
inductive I where
 | mv (x:O)
 | own0 (sz:Nat)
 | pick (c a b:O)
 | box (sz:Nat) (x:O)
 | build (zero:List AV) (parts:List (Nat×Nat×O))
 | bsl (sz n:Nat) (zero:AV) (parts:List (Nat×O))
 | ld (sz:Nat) (ag:Bool) (x:O)
 | st (sz:Nat) (x v:O)
 | nilc (x:O)
 | bin (op:BinOp) (x y:O)
 | eqk (k:EqK) (neg:Bool) (x y:O)
 | un (op:UnOp) (x:O)
 | conv (c:Conv) (x:O)
 | mkfn (f:FuncId) (k:Nat) (cap:List O)
 | mks (sz lim:Nat) (zero:AV) (l c:O)
 | slc (k:SlK) (x:O) (lo hi mx:Option O)
 | fadr (off:Nat) (x:O)
 | fld (off sz:Nat) (ag:Bool) (x:O)
 | idxa (sz:Nat) (x i:O)
 | idx (x i:O)
 | idxp (n sz:Nat) (x i:O)
 | idxv (n sz:Nat) (ag:Bool) (x i:O)
 | tupx (x:O) (i:Nat)
 | rng (x:O)
 | nxt (x:O)
 | len (isStr:Bool) (x:O)
 | app (s:Bool) (sz lim:Nat) (x y:O)
 | mnx (isMax:Bool) (x y:O)
 | call (f:FuncId) (args:List O)
 | callv (pu:Bool) (f:O) (args:List O)
 | boxt (T u sz off:Nat) (x:O)
 | uns (ok:List (Nat×Nat×Nat)) (x:O)
 | sdat (x:O)
 | ustr (T:Nat) (p n:O)
 | appb (T lim:Nat) (x y:O)
 deriving Inhabited
structure Op1 where
 d:Option Nat
 g:Option (Nat×Bool)
 i:I
 deriving Inhabited
inductive S1 where
 | op (d:Option Nat) (i:I)
 | sc (g:Nat) (want:Bool) (body:List S1) (d:Nat) (r o:O)
 deriving Inhabited
inductive Dyn where
 | far (x y:O)
 | pur (x:O)
 | alive (x:O)
 | kept (x:O)
 deriving Inhabited
inductive C where
 | skip
 | stuck
 | ops (l:List S1)
 | dops (ord:List Nat) (far:List Dyn) (l:List S1)
 | seq (a b:C)
 | cond (x:O) (a b:C)
 | block (id:Nat) (c:C)
 | loop (keep:List Nat) (c:C)
 | exit (id:Nat)
 | ret
 | forget (keep:List Nat) (c:C)
 deriving Inhabited
inductive R1 where
 | t (n:Nat)
 | cell (n sz:Nat) (ag:Bool)
 deriving Inhabited
structure F where
 pol:Pol
 ntmps:Nat
 res:List R1
 code:C
 deriving Inhabited
def O.val(e:Env):O->Option AV
 | .t n=>e.get n
 | .k v=>some v
def Qbd (e:Env):List O->Option (List AV)
 | []=>some []
 | x::l=>match x.val e,Qbd e l with
  | some v,some r=>some (v::r)
  | _,_=>none
def look (h:H)(b ver sz off len:Nat):Option (List AV):=
 match h[b]? with
 | some (.arr v z els)=>if v=ver/\z=sz/\off+len<=els.length then some ((els.drop off).take len)else none
 | _=>none
def Zv (h:H):AV->Option (List AV)
 | .isl l=>some l
 | .esl=>some []
 | .osl b ver sz off len=>look h b ver sz off len
 | _=>none
def kill (h:H)(b ver:Nat):H:=h.set b (.dead (ver+1))
def XW (f:AV->H->Option (AV×H)):List AV->H->Option (List AV×H)
 | [],h=>some ([],h)
 | v::l,h=>match f v h with
  | some (v',h1)=>(match XW f l h1 with
   | some (l',h2)=>some (v'::l',h2)
   | none=>none)
  | none=>none
def frz (base:Nat):Nat->AV->H->Option (AV×H)
 | 0,v,h=>if v.pure then some (v,h)else none
 | n+1,v,h=>if v.pure then some (v,h)else match v with
  | .agg l=>(match XW (frz base n) l h with | some (l',h')=>some (.agg l',h') | none=>none)
  | .tup l=>(match XW (frz base n) l h with | some (l',h')=>some (.tup l',h') | none=>none)
  | .isl l=>(match XW (frz base n) l h with | some (l',h')=>some (.isl l',h') | none=>none)
  | .esl=>some (.isl [],h)
  | .osl b ver sz off len=>if b<base then some (v,h)else(match look h b ver sz off len with
   | some els=>(match XW (frz base n) els (kill h b ver)with | some (l',h')=>some (.isl l',h') | none=>none)
   | none=>none)
  | .ptr b _ _ _ _=>if b<base then some (v,h)else none
  | .mref b=>if b<base then some (v,h)else none
  | .nbuf b=>if b<base then some (v,h)else none
  | _=>none
def deep :Nat:=8
def QH (f:AV->Option AV):List AV->Option (List AV)
 | []=>some []
 | v::l=>match f v,QH f l with
  | some v',some l'=>some (v'::l')
  | _,_=>none
def snap (h:H):Nat->AV->Option AV
 | 0,v=>if v.pure then some v else none
 | n+1,v=>if v.pure then some v else match v with
  | .agg l=>(QH (snap h n) l).map .agg
  | .isl l=>(QH (snap h n) l).map .isl
  | .esl=>some (.isl [])
  | .osl b ver sz off len=>match look h b ver sz off len with
   | some els=>(QH (snap h n) els).map .isl
   | none=>none
  | .ptr b ver sz i o=>match h[b]? with
   | some (.arr v z els)=>if v=ver/\z=sz then(match els[i]? with
       | some e=>if o<=e.cells.length then(QH (snap h n) (e.cells.drop o)).map .iptr else none
       | none=>none)else none
   | _=>none
  | .QI f k l=>(QH (snap h n) l).map (.QI f k)
  | _=>none
def norm :AV->AV
 | .esl=>.isl []
 | .agg l=>.agg (l.map fun v=>match v with | .esl=>.isl [] | v=>v)
 | v=>v
def alive (h:H)(b ver:Nat):Bool:=match h[b]? with | some (.arr v _ _)=>v == ver | _=>false
def Qpx (base:Nat)(v:AV)(acc:List (Nat×Nat))(h:H):Option (AV×List (Nat×Nat)×H):=
 match v with
 | .osl b ver sz off len=>
  if b<base then some (v,acc,h)
  else match h[b]? with
   | some (.arr v' z els)=>
    if v'=ver/\z=sz/\off=0/\len=els.length/\(acc.all fun p=>p.1 != b)=true then
     (match XW (frz base deep) els h with
     | some (els',h')=>if alive h' b ver=true then some (.osl (base+acc.length) 0 sz 0 len,acc++ [(b,ver)],h'.set b (.arr ver sz els'))else none
     | none=>none)
    else none
   | _=>none
 | v=>match frz base deep v h with
  | some (v',h')=>some (v',acc,h')
  | none=>none
def QiW (f:AV->List (Nat×Nat)->H->Option (AV×List (Nat×Nat)×H)):List AV->List (Nat×Nat)->H->Option (List AV×List (Nat×Nat)×H)
 | [],acc,h=>some ([],acc,h)
 | v::l,acc,h=>match f v acc h with
  | some (v',acc1,h1)=>(match QiW f l acc1 h1 with
   | some (l',acc2,h2)=>some (v'::l',acc2,h2)
   | none=>none)
  | none=>none
def Qpw (base:Nat)(v:AV)(acc:List (Nat×Nat))(h:H):Option (AV×List (Nat×Nat)×H):=
 match v with
 | .agg l=>match QiW (Qpx base) l acc h with
  | some (l',acc',h')=>some (.agg l',acc',h')
  | none=>none
 | v=>Qpx base v acc h
def Qpv (base:Nat)(v:AV)(acc:List (Nat×Nat))(h:H):Option (AV×List (Nat×Nat)×H):=
 match v with
 | .tup l=>match QiW (Qpw base) l acc h with
  | some (l',acc',h')=>some (.tup l',acc',h')
  | none=>none
 | v=>Qpw base v acc h
def QaB (h:H):List (Nat×Nat)->Option (List Qq)
 | []=>some []
 | (b,ver)::l=>match h[b]?,QaB h l with
  | some (.arr v z els),some r=>if v=ver then some (.arr 0 z els::r)else none
  | _,_=>none
def leave (p:Pol)(h0:H)(v:AV)(h:H):Option (AV×H):=
 match p with
 | .snap=>if v.scalar then some (v,h0)else none
 | .pur true | .eff true=>match Qpv h0.length v [] h with
  | some (v',acc,h')=>(match QaB h' acc with | some bs=>some (v',h'.take h0.length++bs) | none=>none)
  | none=>none
 | .pur false | .eff false=>match frz h0.length deep v h with
  | some (v',h')=>some (v',h'.take h0.length)
  | none=>none
 | .raw=>some (v,h)
def ldc (sz:Nat)(ag:Bool)(o:Nat)(cells:List AV):Option AV:=
 if ag then(if o+sz<=cells.length then some (.agg ((cells.drop o).take sz))else none)else cells[o]?
def Yg (h:H):AV->Option (List AV)
 | .iptr l=>some l
 | .ptr b ver sz i o=>match h[b]? with
  | some (.arr v z els)=>if v=ver/\z=sz then(match els[i]? with
   | some e=>if o<=e.cells.length then some (e.cells.drop o)else none
   | none=>none)else none
  | _=>none
 | _=>none
def setAt (e:AV)(o:Nat)(vs:List AV):Option AV:=
 match e with
 | .agg l=>if o+vs.length<=l.length then some (.agg (l.take o++vs++l.drop (o+vs.length)))else none
 | _=>match vs with
  | [v]=>if o=0 then(match v with | .agg _=>none | v=>some v)else none
  | _=>none
def Qkn :List AV->List (Nat×List AV)->Option (List AV)
 | cs,[]=>some cs
 | cs,(off,vs)::r=>if off+vs.length<=cs.length then Qkn (cs.take off++vs++cs.drop (off+vs.length)) r else none
def partsOf (e:Env):List (Nat×Nat×O)->Option (List (Nat×List AV))
 | []=>some []
 | (off,sz,x)::r=>match x.val e,partsOf e r with
  | some v,some l=>if v.cells.length=sz/\v.ZF=true then some ((off,v.cells)::l)else none
  | _,_=>none
def QS (base:Nat)(e:Env)(sz:Nat):List (Nat×O)->List AV->H->Option (List AV×H)
 | [],els,h=>some (els,h)
 | (i,x)::r,els,h=>match x.val e with
  | some v=>(match frz base deep v h with
   | some (v',h')=>if v'.cells.length=sz/\v'.ZF=true/\i<els.length then QS base e sz r (els.set i v') h' else none
   | none=>none)
  | none=>none
def QxP (op:BinOp)(x y:AV):Option AV:=
 match x,y with
 | .int k a,.int k' b=>
  match op with
  | .shl=>if b<0 then none else some (.int k (k.wrap (a*2^(min b.toNat k.bits))))
  | .shr=>if b<0 then none else some (.int k (a.fdiv (2^(min b.toNat k.bits))))
  | _=>if k≠k' then none else match op with
   | .add=>some (.int k (k.wrap (a+b)))
   | .sub=>some (.int k (k.wrap (a-b)))
   | .mul=>some (.int k (k.wrap (a*b)))
   | .quo=>if b=0 then none else some (.int k (k.wrap (a.tdiv b)))
   | .rem=>if b=0 then none else some (.int k (a.tmod b))
   | .and=>some (.int k (k.wrap (BitVec.ofInt k.bits a&&& BitVec.ofInt k.bits b).toNat))
   | .or=>some (.int k (k.wrap (BitVec.ofInt k.bits a||| BitVec.ofInt k.bits b).toNat))
   | .eql=>some (.bool (a == b))
   | .neq=>some (.bool (a != b))
   | .lss=>some (.bool (a<b))
   | .leq=>some (.bool (a<=b))
   | .gtr=>some (.bool (a>b))
   | .geq=>some (.bool (a ≥ b))
   | _=>none
 | .str a,.str b=>
  match op with
  | .add=>if a.size+b.size<=9223372036854775807 then some (.str (a++b))else none
  | .eql=>some (.bool (a.toList == b.toList))
  | .neq=>some (.bool (!(a.toList == b.toList)))
  | .lss=>some (.bool (Op.bytesLess a.toList b.toList))
  | .leq=>some (.bool (Op.bytesLess a.toList b.toList||a.toList == b.toList))
  | .gtr=>some (.bool (!(Op.bytesLess a.toList b.toList||a.toList == b.toList)))
  | .geq=>some (.bool (!(Op.bytesLess a.toList b.toList)))
  | _=>none
 | _,_=>none
def QcL :AV->Option Bool
 | .nilp=>some true
 | .ptr .. | .iptr _=>some false
 | _=>none
def QnE :AV->Option Bool
 | .nilf=>some true
 | .QI ..=>some false
 | _=>none
def QfZ :AV->Option Bool
 | .nili=>some true
 | .iface ..=>some false
 | _=>none
def eqI (k:EqK)(x y:AV):Option Bool:=
 match k with
 | .bool=>match x,y with | .bool a,.bool b=>some (a == b) | _,_=>none
 | .ptr=>match QcL x,QcL y with
  | some true,some b=>some b
  | some a,some true=>some a
  | _,_=>match x,y with
   | .ptr b v s i o,.ptr b' v' s' i' o'=>if b=b'/\v=v'/\s=s'/\i=i'/\o=o' then some true else none
   | _,_=>none
 | .fn=>match QnE x,QnE y with
  | some true,some b=>some b
  | some a,some true=>some a
  | _,_=>none
 | .ifc=>match QfZ x,QfZ y with
  | some true,some b=>some b
  | some a,some true=>some a
  | _,_=>none
def unI (op:UnOp)(x:AV):Option AV:=
 match op,x with
 | .not,.bool b=>some (.bool (!b))
 | .neg,.int k n=>some (.int k (k.wrap (0-n)))
 | _,_=>none
def Js :List AV->Option (List UInt8)
 | []=>some []
 | .int .u8 n::l=>(match Js l with | some r=>some (UInt8.ofNat n.toNat::r) | none=>none)
 | _::_=>none
def Jp (e:Env):Option O->Option (Option AV)
 | none=>some none
 | some x=>match x.val e with | some v=>some (some v) | none=>none
def bound (d:Nat):Option AV->Option Nat
 | none=>some d
 | some (.int _ n)=>if 0<=n then some n.toNat else none
 | some _=>none
def QkW (sz:Nat)(els:List AV):Bool:=els.all fun v=>v.cells.length == sz
def QdL (h:H)(k:SlK)(x:AV)(lo hi mx:Option AV):Option AV:=
 match k with
 | .str=>match x,mx with
  | .str s,none=>(match bound 0 lo,bound s.size hi with
   | some l,some r=>if l<=r/\r<=s.size then some (.str (s.extract l r))else none
   | _,_=>none)
  | _,_=>none
 | .sl sz=>match x with
  | .isl els=>(match bound 0 lo,bound els.length hi,mx with
   | some l,some r,none=>if l<=r/\r<=els.length/\QkW sz els=true then some (.isl ((els.take r).drop l))else none
   | some l,some r,some m=>(match bound 0 (some m)with
    | some m=>if hi.isSome=true/\l<=r/\r<=m/\m<=els.length/\QkW sz els=true then(if m=l then some .esl else some (.isl ((els.take r).drop l)))else none
    | none=>none)
   | _,_,_=>none)
  | .esl=>(match bound 0 lo,bound 0 hi,mx with
   | some 0,some 0,none=>some .esl
   | _,_,_=>none)
  | .osl b ver sz' off len=>(match bound 0 lo,bound len hi,mx with
   | some l,some r,none=>if sz=sz'/\l<=r/\r<=len/\(look h b ver sz off len).isSome then(if l=r then some (.isl [])else some (.osl b ver sz (off+l) (r-l)))else none
   | _,_,_=>none)
  | _=>none
def Ju (base ws sz lim:Nat)(x:AV)(ys:List AV)(h:H):Option (AV×H):=
 match x with
 | .esl=>if ys.length<=lim/\ys.all (fun v=>v.cells.length == sz&&v.ZF)then some (.osl h.length 0 sz 0 ys.length,h++ [.arr 0 sz ys])else none
 | .osl b ver sz' off len=>match h[b]? with
  | some (.arr v z els)=>
   if v=ver/\z=sz/\sz'=sz/\off=0/\len=els.length/\(base<=b\/(ws<=b/\QmK els=0/\QmK ys=0))/\len+ys.length<=lim/\ys.all (fun v=>v.cells.length == sz&&v.ZF)then
    some (.osl b (ver+1) sz 0 (len+ys.length),h.set b (.arr (ver+1) sz (els++ys)))
   else none
  | _=>none
 | _=>none
def appended (s:Bool)(h:H)(v:AV):Option (List AV):=
 if s then(match v with | .str s=>some (s.data.toList.map fun b=>.int .u8 b.toNat) | _=>none)else Zv h v
def Qso :List AV->Option (List UInt8)
 | []=>some []
 | .int .u8 n::l=>if 0<=n/\n<256 then(match Qso l with | some r=>some (UInt8.ofNat n.toNat::r) | none=>none)else none
 | _::_=>none
def JP (b n:Nat):AV:=if n=0 then .nbuf b else .osl b n 1 0 n
def Qox :AV->Option (Nat×Nat)
 | .nbuf b=>some (b,0)
 | .osl b ver 1 0 len=>if ver=len/\len≠0 then some (b,len)else none
 | _=>none
def Qxl (h:H):AV->Option ByteArray
 | .str t=>some t
 | v=>match Zv h v with
  | some els=>(match Qso els with | some l=>some ⟨l.toArray⟩ | none=>none)
  | none=>none
def evI (base ws:Nat)(e:Env)(h:H):I->Option (AV×H)
 | .mv x=>match x.val e with | some v=>some (v,h) | none=>none
 | .own0 sz=>some (.osl h.length 0 sz 0 0,h++ [.arr 0 sz []])
 | .pick c a b=>match c.val e with
  | some (.bool t)=>(match (if t then a else b).val e with | some v=>some (v,h) | none=>none)
  | _=>none
 | .box sz x=>match x.val e with
  | some v=>if v.cells.length=sz/\v.ZF=true then some (.ptr h.length 0 sz 0 0,h++ [.arr 0 sz [v]])else none
  | none=>none
 | .build zero parts=>match partsOf e parts with
  | some ps=>(match Qkn zero ps with | some l=>some (.agg l,h) | none=>none)
  | none=>none
 | .bsl sz n zero parts=>match QS base e sz parts (List.replicate n zero) h with
  | some (els,h')=>some (.osl h'.length 0 sz 0 n,h'++ [.arr 0 sz els])
  | none=>none
 | .ld sz ag x=>match x.val e with
  | some v=>(match Yg h v with
   | some l=>(match ldc sz ag 0 l with | some u=>some (u,h) | none=>none)
   | none=>none)
  | none=>none
 | .st sz x v=>match x.val e,v.val e with
  | some (.ptr b ver bz i o),some u=>
   if ws<=b/\u.cells.length=sz/\u.ZF=true then
    (match (if b<base then frz base deep u h else some (u,h))with
    | some (u',h1)=>(match h1[b]? with
     | some (.arr v' z els)=>if v'=ver/\z=bz then(match els[i]? with
      | some el=>(match setAt el o u'.cells with
       | some el'=>if base<=b\/u'.pure=true\/u'.top<=max el.top (b+1)then some (.any,h1.set b (.arr ver z (els.set i el')))else none
       | none=>none)
      | none=>none)else none
     | _=>none)
    | none=>none)
   else none
  | _,_=>none
 | .nilc x=>match x.val e with
  | some v=>(match v with
   | .ptr .. | .iptr _ | .QI ..=>some (v,h)
   | _=>none)
  | none=>none
 | .bin op x y=>match x.val e,y.val e with
  | some a,some b=>(match QxP op a b with | some v=>some (v,h) | none=>none)
  | _,_=>none
 | .eqk k neg x y=>match x.val e,y.val e with
  | some a,some b=>(match eqI k a b with | some t=>some (.bool (if neg then !t else t),h) | none=>none)
  | _,_=>none
 | .un op x=>match x.val e with
  | some a=>(match unI op a with | some v=>some (v,h) | none=>none)
  | none=>none
 | .conv c x=>match x.val e with
  | some v=>(match c,v with
   | .intk k,.int _ n=>some (.int k (k.wrap n),h)
   | .same,.str s=>some (.str s,h)
   | .s2b,.str s=>some (.osl h.length 0 1 0 s.size,h++ [.arr 0 1 (s.data.toList.map fun b=>.int .u8 b.toNat)])
   | .b2s,v=>(match Zv h v with
    | some els=>(match Js els with | some l=>some (.str ⟨l.toArray⟩,h) | none=>none)
    | none=>none)
   | _,_=>none)
  | none=>none
 | .mkfn f k cap=>match Qbd e cap with | some l=>some (.QI f k l,h) | none=>none
 | .mks sz lim zero l c=>match l.val e,c.val e with
  | some (.int k n),some (.int k' m)=>
   if n=m/\0<=n/\n.toNat<=lim/\k= .i64/\k'= .i64 then some (.osl h.length 0 sz 0 n.toNat,h++ [.arr 0 sz (List.replicate n.toNat zero)])else none
  | _,_=>none
 | .slc k x lo hi mx=>match x.val e,Jp e lo,Jp e hi,Jp e mx with
  | some v,some l,some r,some m=>(match QdL h k v l r m with | some u=>some (u,h) | none=>none)
  | _,_,_,_=>none
 | .fadr off x=>match x.val e with
  | some (.ptr b ver sz i o)=>some (.ptr b ver sz i (o+off),h)
  | some (.iptr l)=>if off<=l.length then some (.iptr (l.drop off),h)else none
  | _=>none
 | .fld off sz ag x=>match x.val e with
  | some (.agg l)=>(match ldc sz ag off l with | some v=>some (v,h) | none=>none)
  | _=>none
 | .idxa sz x i=>match x.val e,i.val e with
  | some v,some (.int _ n)=>if 0<=n then(match v with
   | .isl l=>(match l[n.toNat]? with | some el=>if el.cells.length=sz then some (.iptr el.cells,h)else none | none=>none)
   | .osl b ver sz' off len=>if sz'=sz/\n.toNat<len then some (.ptr b ver sz (off+n.toNat) 0,h)else none
   | _=>none)else none
  | _,_=>none
 | .idx x i=>match x.val e,i.val e with
  | some (.str s),some (.int _ n)=>if 0<=n then(match s.data.toList[n.toNat]? with | some b=>some (.int .u8 b.toNat,h) | none=>none)else none
  | _,_=>none
 | .idxp n sz x i=>match x.val e,i.val e with
  | some v,some (.int _ m)=>if 0<=m/\m<n then(match v with
   | .ptr b ver sz' k o=>some (.ptr b ver sz' k (o+m.toNat*sz),h)
   | .iptr l=>if m.toNat*sz<=l.length then some (.iptr (l.drop (m.toNat*sz)),h)else none
   | _=>none)else none
  | _,_=>none
 | .idxv n sz ag x i=>match x.val e,i.val e with
  | some (.agg l),some (.int _ m)=>if 0<=m/\m<n then(match ldc sz ag (m.toNat*sz) l with | some v=>some (v,h) | none=>none)else none
  | _,_=>none
 | .tupx x i=>match x.val e with
  | some (.tup l)=>(match l[i]? with | some v=>some (v,h) | none=>none)
  | _=>none
 | .rng x=>match x.val e with
  | some (.str s)=>some (.ptr h.length 0 0 0 0,h++ [.sit s 0])
  | _=>none
 | .nxt x=>match x.val e with
  | some (.ptr b 0 0 0 0)=>if base<=b then(match h[b]? with
   | some (.sit s pos)=>if pos<s.size then
       some (.tup [.bool true,.int .i64 pos,.int .i32 (Utf8.decode s pos).1],h.set b (.sit s (pos+(Utf8.decode s pos).2)))
    else some (.tup [.bool false],h)
   | _=>none)else none
  | _=>none
 | .len isStr x=>match x.val e with
  | some (.str s)=>if isStr then some (.int .i64 s.size,h)else none
  | some .esl=>if isStr then none else some (.int .i64 0,h)
  | some (.nbuf _)=>if isStr then none else some (.int .i64 0,h)
  | some (.isl l)=>if isStr then none else some (.int .i64 l.length,h)
  | some (.osl _ _ _ _ len)=>if isStr then none else some (.int .i64 len,h)
  | _=>none
 | .app s sz lim x y=>match x.val e,y.val e with
  | some v,some u=>(match appended s h u with
   | some ys=>Ju base ws sz lim v ys h
   | none=>none)
  | _,_=>none
 | .mnx isMax x y=>match x.val e,y.val e with
  | some (.int k a),some (.int _ b)=>some (.int k (if isMax then(if b>a then b else a)else(if b<a then b else a)),h)
  | _,_=>none
 | .call .. | .callv ..=>none
 | .boxt T u sz off x=>match x.val e with
  | some (.agg l)=>if l.length=sz/\l.all AV.one=true then(match l[off]? with
   | some .nils=>some (.ptr (h.length+1) 0 sz 0 0,h++ [.buf u ⟨#[]⟩,.arr 0 sz [.agg (l.set off (.nbuf h.length))],.tyd (h.length+1) 0 T sz])
   | _=>none)else none
  | _=>none
 | .uns ok x=>match x.val e with
  | some (.ptr b ver sz 0 o)=>(match h[b+1]? with
   | some (.tyd b' v' T n)=>if b'=b/\v'=ver/\ok.contains (T,n,o)=true then some (.ptr b ver sz 0 o,h)else none
   | _=>none)
  | _=>none
 | .sdat x=>match x.val e with
  | some (.nbuf _)=>some (.nilp,h)
  | some (.osl b ver 1 off len)=>if len=0 then none else some (.ptr b ver 1 off 0,h)
  | _=>none
 | .ustr T p n=>match p.val e,n.val e with
  | some q,some (.int .i64 m)=>if m=0 then(match q with
      | .nilp=>some (.str ⟨#[]⟩,h)
      | _=>none)
   else(match q with
    | .ptr b ver 1 0 0=>(match h[b]? with
     | some (.buf T' s)=>if T'=T/\ver=s.size/\m=s.size/\ws<=b/\m<=4294967296 then some (.str s,h.set b (.dead (ver+1)))else none
     | _=>none)
    | _=>none)
  | _,_=>none
 | .appb T lim x y=>match x.val e,y.val e with
  | some xv,some v=>(match Qox xv,Qxl h v with
   | some (b,n),some t=>(match h[b]? with
    | some (.buf T' s)=>if T'=T/\n=s.size/\ws<=b/\s.size+t.size<=lim then some (JP b (s.size+t.size),h.set b (.buf T (s++t)))else none
    | _=>none)
   | _,_=>none)
  | _,_=>none
mutual
def AV.same:AV->AV->Bool
 | .any,.any=>true
 | .bool a,.bool b=>a == b
 | .int k a,.int k' b=>decide (k=k')&&a == b
 | .str s,.str t=>decide (s=t)
 | .nilp,.nilp=>true
 | .ptr a b c d f,.ptr a' b' c' d' f'=>a == a'&&b == b'&&c == c'&&d == d'&&f == f'
 | .iptr l,.iptr r=>Wo l r
 | .isl l,.isl r=>Wo l r
 | .esl,.esl=>true
 | .osl a b c d f,.osl a' b' c' d' f'=>a == a'&&b == b'&&c == c'&&d == d'&&f == f'
 | .agg l,.agg r=>Wo l r
 | .tup l,.tup r=>Wo l r
 | .QI f k l,.QI g k' r=>f == g&&k == k'&&Wo l r
 | .nilf,.nilf=>true
 | .nili,.nili=>true
 | .iface t v,.iface t' v'=>t == t'&&v.same v'
 | .mref a,.mref b=>a == b
 | .nbuf a,.nbuf b=>a == b
 | .nilm,.nilm=>true
 | .nils,.nils=>true
 | _,_=>false
def Wo :List AV->List AV->Bool
 | [],[]=>true
 | x::l,y::r=>x.same y&&Wo l r
 | _,_=>false
end
mutual
theorem AV.Xu: ∀(x y:AV),x.same y=true->x=y
 | .any,y,h=>by cases y<;>simp[AV.same]at h; rfl
 | .bool _,y,h=>by cases y<;>simp[AV.same]at h; rw[h]
 | .int _ _,y,h=>by cases y<;>simp[AV.same]at h; rw[h.1,h.2]
 | .str _,y,h=>by cases y<;>simp[AV.same]at h; rw[h]
 | .nilp,y,h=>by cases y<;>simp[AV.same]at h; rfl
 | .ptr ..,y,h=>by cases y<;>simp[AV.same]at h; obtain⟨⟨⟨⟨rfl,rfl⟩,rfl⟩,rfl⟩,rfl⟩:=h; rfl
 | .iptr l,y,h=>by cases y<;>simp[AV.same]at h; rw[YS l _ h]
 | .isl l,y,h=>by cases y<;>simp[AV.same]at h; rw[YS l _ h]
 | .esl,y,h=>by cases y<;>simp[AV.same]at h; rfl
 | .osl ..,y,h=>by cases y<;>simp[AV.same]at h; obtain⟨⟨⟨⟨rfl,rfl⟩,rfl⟩,rfl⟩,rfl⟩:=h; rfl
 | .agg l,y,h=>by cases y<;>simp[AV.same]at h; rw[YS l _ h]
 | .tup l,y,h=>by cases y<;>simp[AV.same]at h; rw[YS l _ h]
 | .QI _ _ l,y,h=>by cases y<;>simp[AV.same]at h; obtain⟨⟨rfl,rfl⟩,h⟩:=h; rw[YS l _ h]
 | .nilf,y,h=>by cases y<;>simp[AV.same]at h; rfl
 | .nili,y,h=>by cases y<;>simp[AV.same]at h; rfl
 | .iface _ v,y,h=>by cases y<;>simp[AV.same]at h; obtain⟨rfl,h⟩:=h; rw[AV.Xu v _ h]
 | .mref _,y,h=>by cases y<;>simp[AV.same]at h; rw[h]
 | .nbuf _,y,h=>by cases y<;>simp[AV.same]at h; rw[h]
 | .nilm,y,h=>by cases y<;>simp[AV.same]at h; rfl
 | .nils,y,h=>by cases y<;>simp[AV.same]at h; rfl
theorem YS : ∀(l r:List AV),Wo l r=true->l=r
 | [],r,h=>by cases r<;>simp[Wo]at h; rfl
 | x::l,r,h=>by
  cases r with
  | nil=>simp[Wo]at h
  | cons y r=>
   simp only[Wo,Bool.and_eq_true]at h;rw[AV.Xu x y h.1,YS l r h.2]
end
mutual
theorem AV.Qjw: ∀(x:AV),x.same x=true
 | .any | .bool _ | .int _ _ | .str _ | .nilp | .ptr .. | .esl | .osl .. | .nilf | .nili | .mref _ | .nbuf _ | .nilm | .nils=>by simp[AV.same]
 | .iptr l | .isl l | .agg l | .tup l=>by simp only[AV.same]; exact Qaz l
 | .QI _ _ l=>by simp[AV.same,Qaz l]
 | .iface _ v=>by simp[AV.same,AV.Qjw v]
theorem Qaz : ∀(l:List AV),Wo l l=true
 | []=>rfl
 | x::l=>by simp[Wo,AV.Qjw x,Qaz l]
end
abbrev Xt :=Nat->FuncId->List AV->H->Option (AV×H)
def XE (call:Xt)(fpol:FuncId->Option Pol)(base ws:Nat)(e:Env)(h:H)(i:I):Option (AV×H):=
 match i with
 | .call f args=>match Qbd e args with
  | some l=>call ws f l h
  | none=>none
 | .callv pu f args=>match f.val e,Qbd e args with
  | some (.QI g k cap),some l=>if pu then(match fpol g with
      | some .snap | some (.pur _)=>call ws g (cap.take k++(l++cap.drop k)) h
      | _=>none)else call ws g (cap.take k++(l++cap.drop k)) h
  | _,_=>none
 | i=>evI base ws e h i
def Jc (e:Env)(d:Option Nat)(v:AV):Env:=match d with | some n=>e.put n v | none=>e
mutual
def S1.QcH:S1->List Nat
 | .op (some d) _=>[d]
 | .op none _=>[]
 | .sc _ _ body d _ _=>XZ body++ [d]
def XZ :List S1->List Nat
 | []=>[]
 | x::l=>x.QcH++XZ l
end
def WJ (o:Option (AV×H))(k:AV->H->Option (Env×H)):Option (Env×H):=match o with | some (v,h)=>k v h | none=>none
def QfO (r:O)(o:Option (Env×H)):Option (AV×H):=match o with
 | some (e,h)=>(match r.val e with | some v=>some (v,h) | none=>none)
 | none=>none
def Qqp (r:O)(e:Env)(h:H):Option (AV×H):=match r.val e with | some v=>some (v,h) | none=>none
mutual
def Wf (call:Xt)(fpol:FuncId->Option Pol)(base ws:Nat):S1->Env->H->Option (Env×H)
 | .op d i,e,h=>WJ (XE call fpol base ws e h i) fun v h'=>some (Jc e d v,h')
 | .sc g want body d r o,e,h=>match e.get g with
  | some (.bool b)=>
   WJ (if b=want then QfO r (evS call fpol base ws body e h)else Qqp o e h) fun v h'=>some ((e.drop (XZ body)).put d v,h')
  | _=>none
def evS (call:Xt)(fpol:FuncId->Option Pol)(base ws:Nat):List S1->Env->H->Option (Env×H)
 | [],e,h=>some (e,h)
 | x::l,e,h=>match Wf call fpol base ws x e h with
  | some (e',h')=>evS call fpol base ws l e' h'
  | none=>none
end
inductive Ex where
 | normal | exit (id:Nat) | ret
 deriving Inhabited,DecidableEq
abbrev Out :=Option (Ex×Env×H)
def done (o:Option (Env×H)):Out:=match o with | some (e,h)=>some (.normal,e,h) | none=>none
def andThen (o:Out)(k:Env->H->Out):Out:=match o with | some (.normal,e,h)=>k e h | r=>r
def inBlock (id:Nat)(o:Out):Out:=match o with | some (.exit j,e,h)=>if j=id then some (.normal,e,h)else some (.exit j,e,h) | r=>r
def Wv (l:List Nat)(o:Out):Out:=match o with | some (x,e,h)=>some (x,e.keep l,h) | none=>none
def ifB (v:Option AV)(a b:Out):Out:=match v with | some (.bool t)=>if t=true then a else b | _=>none
def rounds :Nat->(Env->H->Out)->List Nat->Env->H->Out
 | 0,_,_,_,_=>none
 | n+1,f,keep,e,h=>andThen (f (e.keep keep) h) fun e' h'=>rounds n f keep e' h'
def XD :AV->Option Nat
 | .ptr b ..=>some b
 | .osl b ..=>some b
 | _=>none
def Qxt (x y:AV):Bool:=match XD x,XD y with | some b,some c=>b != c | _,_=>true
def Qql (h:H):AV->Bool
 | .ptr b ver ..=>alive h b ver
 | .osl b ver ..=>alive h b ver
 | _=>true
def QqW (h0 h:H):AV->Bool
 | .ptr b ..=>match h0[b]?,h[b]? with
  | some (.arr v sz els),some (.arr v' sz' els')=>v == v'&&sz == sz'&&Wo els els'
  | _,_=>false
 | _=>false
def Dyn.ok(e:Env)(h0 h:H):Dyn->Bool
 | .far x y=>match x.val e,y.val e with | some u,some v=>Qxt u v | _,_=>false
 | .pur x=>match x.val e with | some u=>u.pure | none=>false
 | .alive x=>match x.val e with | some u=>Qql h u | none=>false
 | .kept x=>match x.val e with | some u=>QqW h0 h u | none=>false
def Je (e:Env)(h0 h:H)(l:List Dyn):Bool:=l.all fun d=>d.ok e h0 h
def Qgb (l:List Dyn)(h0:H)(o:Option (Env×H)):Option (Env×H):=match o with | some (e,h)=>if Je e h0 h l=true then some (e,h)else none | none=>none
abbrev QcS :=(Env->H->Out)->List Nat->Env->H->Out
def evC (call:Xt)(lp:QcS)(fpol:FuncId->Option Pol)(base ws:Nat):C->Env->H->Out
 | .skip,e,h=>some (.normal,e,h)
 | .stuck,_,_=>none
 | .ops l,e,h=>done (evS call fpol base ws l e h)
 | .dops _ far l,e,h=>done (Qgb far h (evS call fpol base ws l e h))
 | .seq a b,e,h=>andThen (evC call lp fpol base ws a e h) fun e' h'=>evC call lp fpol base ws b e' h'
 | .cond x a b,e,h=>ifB (x.val e) (evC call lp fpol base ws a e h) (evC call lp fpol base ws b e h)
 | .block id c,e,h=>inBlock id (evC call lp fpol base ws c e h)
 | .loop keep c,e,h=>lp (evC call lp fpol base ws c) keep e h
 | .exit id,e,h=>some (.exit id,e,h)
 | .ret,e,h=>some (.ret,e,h)
 | .forget keep c,e,h=>Wv keep (evC call lp fpol base ws c e h)
def Qbq (e:Env)(h:H):List R1->Option (List AV)
 | []=>some []
 | .t n::r=>match e.get n,Qbq e h r with
  | some v,some l=>some (v::l)
  | _,_=>none
 | .cell n sz ag::r=>match e.get n,Qbq e h r with
  | some p,some l=>(match Yg h p with
   | some cs=>(match ldc sz ag 0 cs with | some v=>some (v::l) | none=>none)
   | none=>none)
  | _,_=>none
def QfQ :List AV->AV
 | [v]=>v
 | l=>.tup l
def Jt :Nat->List AV->Env
 | _,[]=>[]
 | k,v::l=>(k,v)::Jt (k+1) l
def JZ (p:Pol)(h:H)(args:List AV):Option (List AV):=
 match p with
 | .snap=>QH (snap h deep) args
 | _=>some (args.map norm)
structure Cfg where
 fn:FuncId->Option F
 ext:FuncId->Option (List AV->H->Option (AV×H))
def Cfg.pol(cfg:Cfg)(f:FuncId):Option Pol:=match cfg.ext f with | some _=>some (.pur true) | none=>(cfg.fn f).map (·.pol)
def finish (f:F)(h:H)(o:Out):Option (AV×H):=
 match o with
 | some (.normal,e,h')=>(match Qbq e h' f.res with | some l=>leave f.pol h (QfQ l) h' | none=>none)
 | some (.ret,e,h')=>(match Qbq e h' f.res with | some l=>leave f.pol h (QfQ l) h' | none=>none)
 | _=>none
def QcT (p:Pol)(ws base:Nat):Nat:=match p with | .eff _ | .raw=>ws | _=>base
def evF (call:Xt)(lp:QcS)(fpol:FuncId->Option Pol)(ws:Nat)(f:F)(args:List AV)(h:H):Option (AV×H):=
 match JZ f.pol h args with
 | none=>none
 | some args=>finish f h (evC call lp fpol h.length (QcT f.pol ws h.length) f.code (Jt 0 args) h)
def JB (cfg:Cfg):Nat->Xt
 | 0=>fun _ _ _ _=>none
 | n+1=>fun ws f args h=>match cfg.ext f with
  | some x=>x args h
  | none=>match cfg.fn f with
   | some fn=>evF (JB cfg n) (rounds n) cfg.pol ws fn args h
   | none=>none
end Go.Avm
