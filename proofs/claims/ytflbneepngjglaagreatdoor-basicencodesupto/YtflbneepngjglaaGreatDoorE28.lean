/- Comparing values and types. -/
import Derived.Test.YtflbneepngjglaaGreatDoorE25
import Derived.Test.YtflbneepngjglaaGreatDoorE27
set_option linter.all false
namespace Go.Proofs.YtflbneepngjglaaGreatDoor
open Go Go.Avm
theorem Yk {α β:Type}(l:List α)(f:α->β):(l.attach.map fun x=>f x.1)=l.map f:=by simp
theorem QyK {α:Type}(l:List α)(f:α->Bool):(l.attach.all fun x=>f x.1)=l.all f:=by simp
theorem QoY {α β:Type}(l:List α)(f:α->List β):(l.attach.flatMap fun x=>f x.1)=l.flatMap f:=by simp
theorem QrB {α β γ:Type}(p:β->γ->Bool)(g:α->β): ∀(l:List α) (m:List γ),eqL p (l.map g) m=eqL (fun x y=>p (g x) y) l m
 | [],[]=>rfl
 | [],_::_=>rfl
 | _::_,[]=>rfl
 | x::l,y::m=>by simp only[List.map_cons,eqL,QrB p g l m]
theorem QmP {α β:Type}(l:List α)(m:List β)(f:α->β->Bool):eqL (fun(x:{x//x∈l}) y=>f x.1 y) l.attach m=eqL f l m:=by
 rw[←QrB f Subtype.val,List.attach_map_subtype_val]
inductive Val where
 | mk (kind int:Int) (bytes:ByteArray) (items:List Val)
mutual
inductive Ty where
 | mk (kind:Int) (name:ByteArray) (lo hi:Int) (free ext:Bool) (items:List It) (kids:List Ty)
inductive It where
 | mk (name:ByteArray) (of:Ty) (opt extra:Bool) (Qy:List Val)
end
structure Df where
 name:ByteArray
 params:List ByteArray
 of:Ty
structure Md where
 name:ByteArray
 defs:List Df
def Val.kind:Val->Int | .mk x _ _ _=>x
@[simp] theorem Val.QaT(x0:Int)(x1:Int)(x2:ByteArray)(x3:List Val):(Val.mk x0 x1 x2 x3).kind=x0:=rfl
def Val.int:Val->Int | .mk _ x _ _=>x
@[simp] theorem Val.QFq(x0:Int)(x1:Int)(x2:ByteArray)(x3:List Val):(Val.mk x0 x1 x2 x3).int=x1:=rfl
def Val.bytes:Val->ByteArray | .mk _ _ x _=>x
@[simp] theorem Val.QoP(x0:Int)(x1:Int)(x2:ByteArray)(x3:List Val):(Val.mk x0 x1 x2 x3).bytes=x2:=rfl
def Val.items:Val->List Val | .mk _ _ _ x=>x
@[simp] theorem Val.Xl(x0:Int)(x1:Int)(x2:ByteArray)(x3:List Val):(Val.mk x0 x1 x2 x3).items=x3:=rfl
theorem Val.eta(v:Val):Val.mk v.kind v.int v.bytes v.items=v:=by cases v; rfl
def Ty.kind:Ty->Int | .mk x _ _ _ _ _ _ _=>x
@[simp] theorem Ty.QaT(x0:Int)(x1:ByteArray)(x2:Int)(x3:Int)(x4:Bool)(x5:Bool)(x6:List It)(x7:List Ty):(Ty.mk x0 x1 x2 x3 x4 x5 x6 x7).kind=x0:=rfl
def Ty.name:Ty->ByteArray | .mk _ x _ _ _ _ _ _=>x
@[simp] theorem Ty.Zs(x0:Int)(x1:ByteArray)(x2:Int)(x3:Int)(x4:Bool)(x5:Bool)(x6:List It)(x7:List Ty):(Ty.mk x0 x1 x2 x3 x4 x5 x6 x7).name=x1:=rfl
def Ty.lo:Ty->Int | .mk _ _ x _ _ _ _ _=>x
@[simp] theorem Ty.QcS(x0:Int)(x1:ByteArray)(x2:Int)(x3:Int)(x4:Bool)(x5:Bool)(x6:List It)(x7:List Ty):(Ty.mk x0 x1 x2 x3 x4 x5 x6 x7).lo=x2:=rfl
def Ty.hi:Ty->Int | .mk _ _ _ x _ _ _ _=>x
@[simp] theorem Ty.QcV(x0:Int)(x1:ByteArray)(x2:Int)(x3:Int)(x4:Bool)(x5:Bool)(x6:List It)(x7:List Ty):(Ty.mk x0 x1 x2 x3 x4 x5 x6 x7).hi=x3:=rfl
def Ty.free:Ty->Bool | .mk _ _ _ _ x _ _ _=>x
@[simp] theorem Ty.Yh(x0:Int)(x1:ByteArray)(x2:Int)(x3:Int)(x4:Bool)(x5:Bool)(x6:List It)(x7:List Ty):(Ty.mk x0 x1 x2 x3 x4 x5 x6 x7).free=x4:=rfl
def Ty.ext:Ty->Bool | .mk _ _ _ _ _ x _ _=>x
@[simp] theorem Ty.Wl(x0:Int)(x1:ByteArray)(x2:Int)(x3:Int)(x4:Bool)(x5:Bool)(x6:List It)(x7:List Ty):(Ty.mk x0 x1 x2 x3 x4 x5 x6 x7).ext=x5:=rfl
def Ty.items:Ty->List It | .mk _ _ _ _ _ _ x _=>x
@[simp] theorem Ty.Xl(x0:Int)(x1:ByteArray)(x2:Int)(x3:Int)(x4:Bool)(x5:Bool)(x6:List It)(x7:List Ty):(Ty.mk x0 x1 x2 x3 x4 x5 x6 x7).items=x6:=rfl
def Ty.kids:Ty->List Ty | .mk _ _ _ _ _ _ _ x=>x
@[simp] theorem Ty.ZG(x0:Int)(x1:ByteArray)(x2:Int)(x3:Int)(x4:Bool)(x5:Bool)(x6:List It)(x7:List Ty):(Ty.mk x0 x1 x2 x3 x4 x5 x6 x7).kids=x7:=rfl
theorem Ty.eta(v:Ty):Ty.mk v.kind v.name v.lo v.hi v.free v.ext v.items v.kids=v:=by cases v; rfl
def It.name:It->ByteArray | .mk x _ _ _ _=>x
@[simp] theorem It.Zs(x0:ByteArray)(x1:Ty)(x2:Bool)(x3:Bool)(x4:List Val):(It.mk x0 x1 x2 x3 x4).name=x0:=rfl
def It.of:It->Ty | .mk _ x _ _ _=>x
@[simp] theorem It.QyY(x0:ByteArray)(x1:Ty)(x2:Bool)(x3:Bool)(x4:List Val):(It.mk x0 x1 x2 x3 x4).of=x1:=rfl
def It.opt:It->Bool | .mk _ _ x _ _=>x
@[simp] theorem It.QFo(x0:ByteArray)(x1:Ty)(x2:Bool)(x3:Bool)(x4:List Val):(It.mk x0 x1 x2 x3 x4).opt=x2:=rfl
def It.extra:It->Bool | .mk _ _ _ x _=>x
@[simp] theorem It.QCR(x0:ByteArray)(x1:Ty)(x2:Bool)(x3:Bool)(x4:List Val):(It.mk x0 x1 x2 x3 x4).extra=x3:=rfl
def It.Qy:It->List Val | .mk _ _ _ _ x=>x
@[simp] theorem It.QrD(x0:ByteArray)(x1:Ty)(x2:Bool)(x3:Bool)(x4:List Val):(It.mk x0 x1 x2 x3 x4).Qy=x4:=rfl
theorem It.eta(v:It):It.mk v.name v.of v.opt v.extra v.Qy=v:=by cases v; rfl
mutual
def Val.cells:Val->List AV
 | .mk k i b its=>[.int .i64 k,.int .i64 i,.str b,.isl (Val.Yv its)]
def Val.Yv:List Val->List AV
 | []=>[]
 | v::l=>.agg v.cells::Val.Yv l
end
def Val.enc(v:Val):AV:=.agg v.cells
theorem Val.Zm: ∀l,Val.Yv l=l.map Val.enc
 | []=>by rw[Val.Yv]; rfl
 | x::l=>by rw[Val.Yv,Val.Zm l]; rfl
theorem Val.Zy(v:Val):v.cells=[.int .i64 v.kind,.int .i64 v.int,.str v.bytes,.isl (v.items.map Val.enc)]:=by
 cases v; rw[Val.cells,Val.Zm]; rfl
@[simp] theorem Val.ZS(v:Val):v.enc= .agg [.int .i64 v.kind,.int .i64 v.int,.str v.bytes,.isl (v.items.map Val.enc)]:=by rw[Val.enc,Val.Zy]
mutual
theorem Val.ZQ: ∀v:Val,Qw v.cells=true
 | .mk k i b its=>by rw[Val.cells]; simp[Val.Zh its]
theorem Val.Zh: ∀l:List Val,Qw (Val.Yv l)=true
 | []=>by rw[Val.Yv]; rfl
 | v::l=>by rw[Val.Yv]; simp[Val.ZQ v,Val.Zh l]
end
mutual
def Ty.cells:Ty->List AV
 | .mk k n lo hi f e its ks=>[.int .i64 k,.str n,.int .i64 lo,.int .i64 hi,.bool f,.bool e,.isl (It.Yv its),.isl (Ty.Yv ks)]
def It.cells:It->List AV
 | .mk n of o x d=>.str n::(of.cells++ [.bool o,.bool x,.isl (d.map Val.enc)])
def It.Yv:List It->List AV
 | []=>[]
 | x::r=>.agg x.cells::It.Yv r
def Ty.Yv:List Ty->List AV
 | []=>[]
 | x::r=>.agg x.cells::Ty.Yv r
end
def Ty.enc(t:Ty):AV:=.agg t.cells
def It.enc(t:It):AV:=.agg t.cells
theorem It.Zm: ∀l,It.Yv l=l.map It.enc
 | []=>by rw[It.Yv]; rfl
 | x::l=>by rw[It.Yv,It.Zm l]; rfl
theorem Ty.Zm: ∀l,Ty.Yv l=l.map Ty.enc
 | []=>by rw[Ty.Yv]; rfl
 | x::l=>by rw[Ty.Yv,Ty.Zm l]; rfl
theorem Ty.Zy(t:Ty):t.cells=[.int .i64 t.kind,.str t.name,.int .i64 t.lo,.int .i64 t.hi,.bool t.free,.bool t.ext,.isl (t.items.map It.enc),.isl (t.kids.map Ty.enc)]:=by
 cases t; rw[Ty.cells,It.Zm,Ty.Zm]; rfl
theorem It.Zy(x:It):x.cells=[.str x.name,.int .i64 x.of.kind,.str x.of.name,.int .i64 x.of.lo,.int .i64 x.of.hi,.bool x.of.free,.bool x.of.ext,.isl (x.of.items.map It.enc),.isl (x.of.kids.map Ty.enc),.bool x.opt,.bool x.extra,.isl (x.Qy.map Val.enc)]:=by
 cases x; rw[It.cells,Ty.Zy]; rfl
@[simp] theorem Ty.ZS(t:Ty):t.enc= .agg [.int .i64 t.kind,.str t.name,.int .i64 t.lo,.int .i64 t.hi,.bool t.free,.bool t.ext,.isl (t.items.map It.enc),.isl (t.kids.map Ty.enc)]:=by rw[Ty.enc,Ty.Zy]
@[simp] theorem It.ZS(x:It):x.enc= .agg [.str x.name,.int .i64 x.of.kind,.str x.of.name,.int .i64 x.of.lo,.int .i64 x.of.hi,.bool x.of.free,.bool x.of.ext,.isl (x.of.items.map It.enc),.isl (x.of.kids.map Ty.enc),.bool x.opt,.bool x.extra,.isl (x.Qy.map Val.enc)]:=by rw[It.enc,It.Zy]
theorem Qkn : ∀(a b:List AV),Qw (a++b)=(Qw a&&Qw b)
 | [],b=>by simp
 | x::a,b=>by simp[Qkn a b,Bool.and_assoc]
@[simp] theorem Qid (l:List Val):Qw (l.map Val.enc)=true:=by rw[←Val.Zm]; exact Val.Zh l
mutual
theorem Ty.ZQ: ∀t:Ty,Qw t.cells=true
 | .mk k n lo hi f e its ks=>by rw[Ty.cells]; simp[It.Zh its,Ty.Zh ks]
theorem It.ZQ: ∀t:It,Qw t.cells=true
 | .mk n of o x d=>by rw[It.cells]; simp[Qkn,Ty.ZQ of]
theorem It.Zh: ∀l:List It,Qw (It.Yv l)=true
 | []=>by rw[It.Yv]; rfl
 | x::l=>by rw[It.Yv]; simp[It.ZQ x,It.Zh l]
theorem Ty.Zh: ∀l:List Ty,Qw (Ty.Yv l)=true
 | []=>by rw[Ty.Yv]; rfl
 | x::l=>by rw[Ty.Yv]; simp[Ty.ZQ x,Ty.Zh l]
end
@[simp] theorem Qkm (l:List It):Qw (l.map It.enc)=true:=by rw[←It.Zm]; exact It.Zh l
@[simp] theorem YR (l:List Ty):Qw (l.map Ty.enc)=true:=by rw[←Ty.Zm]; exact Ty.Zh l
def Df.cells(d:Df):List AV:=[.str d.name,.isl (d.params.map .str),.int .i64 d.of.kind,.str d.of.name,.int .i64 d.of.lo,.int .i64 d.of.hi,.bool d.of.free,.bool d.of.ext,.isl (d.of.items.map It.enc),.isl (d.of.kids.map Ty.enc)]
def Df.enc(d:Df):AV:=.agg d.cells
@[simp] theorem Df.ZS(d:Df):d.enc= .agg [.str d.name,.isl (d.params.map .str),.int .i64 d.of.kind,.str d.of.name,.int .i64 d.of.lo,.int .i64 d.of.hi,.bool d.of.free,.bool d.of.ext,.isl (d.of.items.map It.enc),.isl (d.of.kids.map Ty.enc)]:=rfl
@[simp] theorem QBG (l:List Df):Qw (l.map Df.enc)=true:=by induction l<;>simp_all
def Md.enc(m:Md):AV:=.agg [.str m.name,.isl (m.defs.map Df.enc)]
@[simp] theorem Qzo (h:Avm.H)(n:Nat)(l:List Val):QG (snap h n) (l.map Val.enc)=some (l.map Val.enc):=Qz (by simp)
@[simp] theorem QBK (base n:Nat)(l:List Val)(h:Avm.H):XY (frz base n) (l.map Val.enc) h=some (l.map Val.enc,h):=Zl (by simp)
@[simp] theorem QBD (h:Avm.H)(n:Nat)(l:List Ty):QG (snap h n) (l.map Ty.enc)=some (l.map Ty.enc):=Qz (by simp)
@[simp] theorem QCM (base n:Nat)(l:List Ty)(h:Avm.H):XY (frz base n) (l.map Ty.enc) h=some (l.map Ty.enc,h):=Zl (by simp)
@[simp] theorem QBE (h:Avm.H)(n:Nat)(l:List It):QG (snap h n) (l.map It.enc)=some (l.map It.enc):=Qz (by simp)
@[simp] theorem QCN (base n:Nat)(l:List It)(h:Avm.H):XY (frz base n) (l.map It.enc) h=some (l.map It.enc,h):=Zl (by simp)
@[simp] theorem QBF (h:Avm.H)(n:Nat)(l:List Df):QG (snap h n) (l.map Df.enc)=some (l.map Df.enc):=Qz (by simp)
@[simp] theorem QCO (base n:Nat)(l:List Df)(h:Avm.H):XY (frz base n) (l.map Df.enc) h=some (l.map Df.enc,h):=Zl (by simp)
theorem Val.QjF(l:List Val): ∀x∈l,x.enc.cells.length=4/\ldc 4 true 0 x.enc.cells=some x.enc:=fun x _=>by simp
theorem Val.hcl(x:Val):x.cells.length=4/\x.cells.all AV.one=true:=by rw[Val.Zy]; simp
theorem Ty.QjF(l:List Ty): ∀x∈l,x.enc.cells.length=8/\ldc 8 true 0 x.enc.cells=some x.enc:=fun x _=>by simp
theorem Ty.hcl(x:Ty):x.cells.length=8/\x.cells.all AV.one=true:=by rw[Ty.Zy]; simp
theorem It.QjF(l:List It): ∀x∈l,x.enc.cells.length=12/\ldc 12 true 0 x.enc.cells=some x.enc:=fun x _=>by simp
theorem It.hcl(x:It):x.cells.length=12/\x.cells.all AV.one=true:=by rw[It.Zy]; simp
mutual
def Val.size:Val->Nat
 | .mk _ _ b l=>Val.QO l+b.size+1
def Val.QO:List Val->Nat
 | []=>0
 | x::r=>x.size+Val.QO r
end
mutual
def Ty.size:Ty->Nat
 | .mk _ nm _ _ _ _ its ks=>It.QO its+Ty.QO ks+nm.size+1
def It.size:It->Nat
 | .mk nm of _ _ d=>of.size+Val.QO d+nm.size+1
def It.QO:List It->Nat
 | []=>0
 | x::r=>x.size+It.QO r
def Ty.QO:List Ty->Nat
 | []=>0
 | x::r=>x.size+Ty.QO r
end
theorem Val.size_eq(v:Val):v.size=Val.QO v.items+v.bytes.size+1:=by cases v; rw[Val.size]; rfl
theorem Ty.size_eq(v:Ty):v.size=It.QO v.items+Ty.QO v.kids+v.name.size+1:=by cases v; rw[Ty.size]; rfl
theorem It.size_eq(v:It):v.size=v.of.size+Val.QO v.Qy+v.name.size+1:=by cases v; rw[It.size]; rfl
theorem Val.size_pos(v:Val):1<=v.size:=by rw[Val.size_eq]; omega
theorem Ty.size_pos(v:Ty):1<=v.size:=by rw[Ty.size_eq]; omega
theorem It.size_pos(v:It):1<=v.size:=by rw[It.size_eq]; omega
theorem Val.Zf: ∀{l:List Val} {x:Val},x∈l->x.size<=Val.QO l
 | y::l,x,h=>by
  rw[Val.QO];rcases List.mem_cons.1 h with rfl | h
  ·omega
  ·have:=Val.Zf h; omega
theorem Val.Xr: ∀(l:List Val),l.length<=Val.QO l
 | []=>by simp
 | x::l=>by have:=Val.size_pos x; have:=Val.Xr l; simp only[Val.QO,List.length_cons]; omega
theorem Ty.Zf: ∀{l:List Ty} {x:Ty},x∈l->x.size<=Ty.QO l
 | y::l,x,h=>by
  rw[Ty.QO];rcases List.mem_cons.1 h with rfl | h
  ·omega
  ·have:=Ty.Zf h; omega
theorem Ty.Xr: ∀(l:List Ty),l.length<=Ty.QO l
 | []=>by simp
 | x::l=>by have:=Ty.size_pos x; have:=Ty.Xr l; simp only[Ty.QO,List.length_cons]; omega
theorem It.Zf: ∀{l:List It} {x:It},x∈l->x.size<=It.QO l
 | y::l,x,h=>by
  rw[It.QO];rcases List.mem_cons.1 h with rfl | h
  ·omega
  ·have:=It.Zf h; omega
theorem It.Xr: ∀(l:List It),l.length<=It.QO l
 | []=>by simp
 | x::l=>by have:=It.size_pos x; have:=It.Xr l; simp only[It.QO,List.length_cons]; omega
theorem Val.Qu{v x:Val}(h:x∈v.items):x.size<v.size:=by have:=Val.Zf h; rw[Val.size_eq v]; omega
theorem Val.Qv(v:Val):v.items.length<v.size:=by have:=Val.Xr v.items; rw[Val.size_eq v]; omega
theorem Val.QK(v:Val):v.bytes.size<v.size:=by rw[Val.size_eq v]; omega
theorem Ty.Xa{v x:Ty}(h:x∈v.kids):x.size<v.size:=by have:=Ty.Zf h; rw[Ty.size_eq v]; omega
theorem Ty.Qu{v:Ty}{x:It}(h:x∈v.items):x.size<v.size:=by have:=It.Zf h; rw[Ty.size_eq v]; omega
theorem Ty.Qv(v:Ty):v.items.length<v.size:=by have:=It.Xr v.items; rw[Ty.size_eq v]; omega
theorem It.QgY(x:It):x.of.size<x.size:=by rw[It.size_eq x]; omega
theorem It.QnI{x:It}{v:Val}(h:v∈x.Qy):v.size<x.size:=by have:=Val.Zf h; rw[It.size_eq x]; omega
theorem Ty.mem_of{v:Ty}{x:It}(h:x∈v.items):x.of.size<v.size:=Nat.lt_trans x.QgY (Ty.Qu h)
def QlU :List Val->Nat
 | []=>0
 | x::r=>max x.size (QlU r)
mutual
def Ty.wid:Ty->Nat
 | .mk _ nm _ _ _ _ its ks=>max (max (max its.length ks.length) nm.size) (max (It.XX its) (Ty.XX ks))
def It.wid:It->Nat
 | .mk nm of _ _ d=>max (max nm.size of.wid) (max d.length (QlU d))
def It.XX:List It->Nat
 | []=>0
 | x::r=>max x.wid (It.XX r)
def Ty.XX:List Ty->Nat
 | []=>0
 | x::r=>max x.wid (Ty.XX r)
end
theorem QnJ : ∀{l:List Val} {x:Val},x∈l->x.size<=QlU l
 | y::l,x,h=>by
  rw[QlU];rcases List.mem_cons.1 h with rfl | h
  ·omega
  ·have:=QnJ h; omega
theorem Ty.Qbx: ∀{l:List Ty} {x:Ty},x∈l->x.wid<=Ty.XX l
 | y::l,x,h=>by
  rw[Ty.XX];rcases List.mem_cons.1 h with rfl | h
  ·omega
  ·have:=Ty.Qbx h; omega
theorem It.Qbx: ∀{l:List It} {x:It},x∈l->x.wid<=It.XX l
 | y::l,x,h=>by
  rw[It.XX];rcases List.mem_cons.1 h with rfl | h
  ·omega
  ·have:=It.Qbx h; omega
theorem Ty.Xo(t:Ty):t.wid=max (max (max t.items.length t.kids.length) t.name.size) (max (It.XX t.items) (Ty.XX t.kids)):=by cases t; rw[Ty.wid]; rfl
theorem It.Xo(t:It):t.wid=max (max t.name.size t.of.wid) (max t.Qy.length (QlU t.Qy)):=by cases t; rw[It.wid]; rfl
theorem Ty.Qe(t:Ty):t.items.length<=t.wid:=by rw[Ty.Xo]; omega
theorem Ty.ZK(t:Ty):t.kids.length<=t.wid:=by rw[Ty.Xo]; omega
theorem Ty.Qbw(t:Ty):t.name.size<=t.wid:=by rw[Ty.Xo]; omega
theorem Ty.Jh{t:Ty}{x:It}(h:x∈t.items):x.wid<=t.wid:=by have:=It.Qbx h; rw[Ty.Xo]; omega
theorem Ty.ZX{t x:Ty}(h:x∈t.kids):x.wid<=t.wid:=by have:=Ty.Qbx h; rw[Ty.Xo t]; omega
theorem It.Qpi(x:It):x.of.wid<=x.wid:=by rw[It.Xo]; omega
theorem It.Qbw(x:It):x.name.size<=x.wid:=by rw[It.Xo]; omega
theorem It.Qhv(x:It):x.Qy.length<=x.wid:=by rw[It.Xo]; omega
theorem It.Qlt{x:It}{v:Val}(h:v∈x.Qy):v.size<=x.wid:=by have:=QnJ h; rw[It.Xo]; omega
theorem Ty.ZL{t:Ty}{x:It}(h:x∈t.items):x.of.wid<=t.wid:=Nat.le_trans x.Qpi (Ty.Jh h)
theorem Qrp {n:Nat}: ∀{l:List Val},(∀x∈l,x.size<=n)->QlU l<=n
 | [],_=>by simp[QlU]
 | x::l,h=>by have:=h x (by simp); have:=Qrp (l:=l) fun y hy=>h y (by simp[hy]); simp only[QlU]; omega
theorem It.QaE{n:Nat}: ∀{l:List It},(∀x∈l,x.wid<=n)->It.XX l<=n
 | [],_=>by simp[It.XX]
 | x::l,h=>by have:=h x (by simp); have:=It.QaE (l:=l) fun y hy=>h y (by simp[hy]); simp only[It.XX]; omega
theorem Ty.QaE{n:Nat}: ∀{l:List Ty},(∀x∈l,x.wid<=n)->Ty.XX l<=n
 | [],_=>by simp[Ty.XX]
 | x::l,h=>by have:=h x (by simp); have:=Ty.QaE (l:=l) fun y hy=>h y (by simp[hy]); simp only[Ty.XX]; omega
mutual
theorem Ty.XE: ∀t:Ty,t.wid<=t.size
 | .mk _ nm _ _ _ _ its ks=>by
  have h1:=It.Xr its; have h2:=Ty.Xr ks; have h3:=It.WY its; have h4:=Ty.WY ks;simp only[Ty.wid,Ty.size]; omega
theorem It.XE: ∀x:It,x.wid<=x.size
 | .mk nm of _ _ d=>by
  have h1:=Ty.XE of; have h2:=Val.Xr d;have h3:QlU d<=Val.QO d:=Qrp fun x hx=>Val.Zf hx
  simp only[It.wid,It.size]; omega
theorem It.WY: ∀l:List It,It.XX l<=It.QO l
 | []=>by simp[It.XX]
 | x::l=>by have h1:=It.XE x; have h2:=It.WY l; simp only[It.XX,It.QO]; omega
theorem Ty.WY: ∀l:List Ty,Ty.XX l<=Ty.QO l
 | []=>by simp[Ty.XX]
 | x::l=>by have h1:=Ty.XE x; have h2:=Ty.WY l; simp only[Ty.XX,Ty.QO]; omega
end
def Ty.comp(t:Ty):Bool:=decide (t.kind=8)||decide (t.kind=9)
def Ty.inner(t:Ty):List Ty:=t.kids++if t.comp then t.items.map It.of else []
theorem Ty.QR{t x:Ty}(h:x∈t.inner):x.size<t.size:=by
 unfold Ty.inner at h;rcases List.mem_append.1 h with h | h
 ·exact Ty.Xa h
 ·split at h
  ·obtain⟨i,hi,rfl⟩:=List.mem_map.1 h;exact Ty.mem_of hi
  ·cases h
theorem Ty.ZY{t x:Ty}(h:x∈t.inner):x.wid<=t.wid:=by
 unfold Ty.inner at h;rcases List.mem_append.1 h with h | h
 ·exact Ty.ZX h
 ·split at h
  ·obtain⟨i,hi,rfl⟩:=List.mem_map.1 h;exact Ty.ZL hi
  ·cases h
def Val.same(v w:Val):Bool:=decide (v.kind=w.kind)&&(decide (v.int=w.int)&&(decide (v.bytes.toList=w.bytes.toList)&&eqL (fun(x:{x//x∈v.items}) y=>x.1.same y) v.items.attach w.items))
termination_by v.size
decreasing_by exact Val.Qu x.2
theorem Val.Xt(v w:Val):v.same w=(decide (v.kind=w.kind)&&(decide (v.int=w.int)&&(decide (v.bytes.toList=w.bytes.toList)&&eqL Val.same v.items w.items))):=by rw[Val.same,QmP v.items w.items Val.same]
def Ty.same(t u:Ty):Bool:=decide (t.kind=u.kind)&&(decide (t.name.toList=u.name.toList)&&(decide (t.lo=u.lo)&&(decide (t.hi=u.hi)&&(decide (t.free=u.free)&&(decide (t.ext=u.ext)&&
 (eqL (fun(x:{x//x∈t.items}) (y:It)=>decide (x.1.name.toList=y.name.toList)&&(decide (x.1.opt=y.opt)&&(decide (x.1.extra=y.extra)&&(x.1.of.same y.of&&eqL Val.same x.1.Qy y.Qy)))) t.items.attach u.items&&
  eqL (fun(x:{x//x∈t.kids}) (y:Ty)=>x.1.same y) t.kids.attach u.kids))))))
termination_by t.size
decreasing_by
 ·exact Ty.mem_of x.2
 ·exact Ty.Xa x.2
def It.same(x y:It):Bool:=decide (x.name.toList=y.name.toList)&&(decide (x.opt=y.opt)&&(decide (x.extra=y.extra)&&(x.of.same y.of&&eqL Val.same x.Qy y.Qy)))
theorem Ty.Xt(t u:Ty):t.same u=(decide (t.kind=u.kind)&&(decide (t.name.toList=u.name.toList)&&(decide (t.lo=u.lo)&&(decide (t.hi=u.hi)&&(decide (t.free=u.free)&&(decide (t.ext=u.ext)&&(eqL It.same t.items u.items&&eqL Ty.same t.kids u.kids))))))):=by
 rw[Ty.same,QmP t.items u.items (fun x y=>decide (x.name.toList=y.name.toList)&&(decide (x.opt=y.opt)&&(decide (x.extra=y.extra)&&(x.of.same y.of&&eqL Val.same x.Qy y.Qy)))),QmP t.kids u.kids Ty.same]
 rfl
def Ty.QH(p:Ty->Bool)(t:Ty):Bool:=p t&&t.inner.attach.all fun x=>x.1.QH p
termination_by t.size
decreasing_by exact Ty.QR x.2
theorem Ty.YN(p:Ty->Bool)(t:Ty):t.QH p=(p t&&t.inner.all fun x=>x.QH p):=by rw[Ty.QH,QyK t.inner fun x=>x.QH p]
def Ty.nodes(t:Ty):Nat:=1+(t.inner.attach.map fun x=>x.1.nodes).sum
termination_by t.size
decreasing_by exact Ty.QR x.2
theorem Ty.QD(t:Ty):t.nodes=1+(t.inner.map Ty.nodes).sum:=by rw[Ty.nodes,Yk t.inner Ty.nodes]
def Xq :List Nat->Nat
 | []=>0
 | x::l=>max x (Xq l)
def Ty.depth(t:Ty):Nat:=1+Xq (t.inner.attach.map fun x=>x.1.depth)
termination_by t.size
decreasing_by exact Ty.QR x.2
theorem Ty.Zx(t:Ty):t.depth=1+Xq (t.inner.map Ty.depth):=by rw[Ty.depth,Yk t.inner Ty.depth]
def Val.nodes(v:Val):Nat:=1+(v.items.attach.map fun x=>x.1.nodes).sum
termination_by v.size
decreasing_by exact Val.Qu x.2
theorem QqV {α:Type}{f:α->Nat}: ∀{l:List α} {x:α},x∈l->f x<=(l.map f).sum
 | y::l,x,h=>by
  simp only[List.map_cons,List.sum_cons];rcases List.mem_cons.1 h with rfl | h
  ·omega
  ·have:=QqV (f:=f) h; omega
theorem Qby {α:Type}(f:α->Nat): ∀(l:List α) (i:Nat),((l.take i).map f).sum<=(l.map f).sum
 | [],i=>by simp
 | x::l,0=>by simp
 | x::l,i+1=>by have:=Qby f l i; simp only[List.take_succ_cons,List.map_cons,List.sum_cons]; omega
theorem Qil {α:Type}{f g:α->Nat}: ∀(l:List α),(∀x∈l,f x<=g x)->Xq (l.map f)<=(l.map g).sum
 | [],_=>by simp[Xq]
 | x::l,h=>by have:=h x (by simp); have:=Qil (f:=f) (g:=g) l fun y hy=>h y (by simp[hy]); simp only[List.map_cons,Xq,List.sum_cons]; omega
theorem Qlw {α:Type}{f g:α->Nat}: ∀(l:List α),(∀x∈l,f x<=g x)->(l.map f).sum<=(l.map g).sum
 | [],_=>by simp
 | x::l,h=>by have:=h x (by simp); have:=Qlw (f:=f) (g:=g) l fun y hy=>h y (by simp[hy]); simp only[List.map_cons,List.sum_cons]; omega
theorem Qak : ∀(l:List Nat) (x:Nat),Xq (l++ [x])=max (Xq l) x
 | [],x=>by simp[Xq]
 | y::l,x=>by simp only[List.cons_append,Xq,Qak l x]; omega
theorem Ty.XT(t:Ty):1<=t.nodes:=by rw[Ty.QD]; omega
theorem Ty.Xx{t x:Ty}(h:x∈t.inner):x.nodes<t.nodes:=by have:=QqV (f:=Ty.nodes) h; rw[Ty.QD t]; omega
theorem Ty.Qal(t:Ty):t.inner.length<t.nodes:=by
 have: ∀l:List Ty,l.length<=(l.map Ty.nodes).sum:=fun l=>by
  induction l with
  | nil=>simp
  | cons x l ih=>have:=x.XT; simp; omega
 have:=this t.inner;rw[Ty.QD]; omega
theorem Val.QD(v:Val):v.nodes=1+(v.items.map Val.nodes).sum:=by rw[Val.nodes,Yk v.items Val.nodes]
def Val.depth(v:Val):Nat:=1+Xq (v.items.attach.map fun x=>x.1.depth)
termination_by v.size
decreasing_by exact Val.Qu x.2
theorem Val.Zx(v:Val):v.depth=1+Xq (v.items.map Val.depth):=by rw[Val.depth,Yk v.items Val.depth]
theorem Ty.Qaq: ∀(n:Nat) (t:Ty),t.size<=n->t.depth<=t.nodes
 | 0,t,h=>by have:=t.size_pos; omega
 | n+1,t,h=>by
  rw[Ty.Zx,Ty.QD];have:=Qil (f:=Ty.depth) (g:=Ty.nodes) t.inner fun x hx=>Ty.Qaq n x (by have:=Ty.QR hx; omega)
  omega
theorem Ty.QkR(t:Ty):1<=t.depth:=by rw[Ty.Zx]; omega
theorem Ty.Qac: ∀l:List Ty,(l.map Ty.size).sum=Ty.QO l
 | []=>rfl
 | x::l=>by simp[Ty.QO,Ty.Qac l]
theorem Ty.QjY: ∀l:List It,((l.map It.of).map Ty.size).sum<=It.QO l
 | []=>by simp
 | x::l=>by have:=Ty.QjY l; have:=x.QgY; simp only[List.map_cons,List.sum_cons,It.QO]; omega
theorem Ty.size_inner(t:Ty):(t.inner.map Ty.size).sum<t.size:=by
 have h1:=Ty.Qac t.kids;have h2:=Ty.QjY t.items;rw[Ty.size_eq];unfold Ty.inner;rw[List.map_append,List.sum_append];split<;>simp at* <;>omega
theorem Ty.XO: ∀(n:Nat) (t:Ty),t.size<=n->t.nodes<=t.size
 | 0,t,h=>by have:=t.size_pos; omega
 | n+1,t,h=>by
  rw[Ty.QD];have h1:=Qlw (f:=Ty.nodes) (g:=Ty.size) t.inner fun x hx=>Ty.XO n x (by have:=Ty.QR hx; omega)
  have:=t.size_inner;omega
theorem Val.XT(t:Val):1<=t.nodes:=by rw[Val.QD]; omega
theorem Val.Qac: ∀l:List Val,(l.map Val.size).sum=Val.QO l
 | []=>rfl
 | x::l=>by simp[Val.QO,Val.Qac l]
theorem Val.XO: ∀(n:Nat) (t:Val),t.size<=n->t.nodes<=t.size
 | 0,t,h=>by have:=t.size_pos; omega
 | n+1,t,h=>by
  rw[Val.QD,Val.size_eq];have h1:=Qlw (f:=Val.nodes) (g:=Val.size) t.items fun x hx=>Val.XO n x (by have:=Val.Qu hx; omega)
  rw[Val.Qac]at h1;omega
theorem Val.Qaq: ∀(n:Nat) (t:Val),t.size<=n->t.depth<=t.nodes
 | 0,t,h=>by have:=t.size_pos; omega
 | n+1,t,h=>by
  rw[Val.Zx,Val.QD];have:=Qil (f:=Val.depth) (g:=Val.nodes) t.items fun x hx=>Val.Qaq n x (by have:=Val.Qu hx; omega)
  omega
end Go.Proofs.YtflbneepngjglaaGreatDoor
namespace Go.Proofs.YtflbneepngjglaaGreatDoor
open Go Go.Avm
theorem Qpq {g:FuncId}(h:cfg.pol g=some .snap):Still cfg g:=.inl h
theorem Qdq (l m:List Val)(hlen:l.length<=67108864)(hl: ∀x∈l,∀y ws h,Qb cfg ws 17 [x.enc,y.enc] h=some (.bool (x.same y),h))(ws:Nat)(h:Avm.H):
    Qb cfg ws 46 [.isl (l.map Val.enc),.isl (m.map Val.enc),.QJ 17 0 []] h=some (.bool (eqL Val.same l m),h):=
 WQ (cl:=Val.cells) (sz:=4) (zs:=[.int .i64 0,.int .i64 0,.str ⟨#[]⟩,.isl []]) rfl rfl hlen (Qid l) (Qid m) Val.hcl rfl rfl (.inl rfl) (fun x hx y _ ws h=>hl x hx y ws h) ws h
theorem QgU : ∀(n:Nat) (v w:Val),v.size<=n->v.size<=67108864-> ∀ws h,Qb cfg ws 17 [v.enc,w.enc] h=some (.bool (v.same w),h)
 | 0,v,_,hv,_,_,_=>by have:=v.size_pos; omega
 | n+1,v,w,hv,hb,ws,h=>by
  have hlen:=v.Qv
  have heq:=fun h'=>Qdq v.items w.items (by omega) (fun x hx y ws h=>by
   have:=Val.Qu hx;exact QgU n x y (by omega) (by omega) ws h) h.length h'
  refine Qc rfl rfl ?_
  rw[Val.Xt];simp[F17,c17,heq,Bool.and_assoc]
theorem Qqv (l m:List It)(hlen:l.length<=67108864)(hl: ∀x∈l,∀y ws h,Qb cfg ws 213 [x.enc,y.enc] h=some (.bool (x.same y),h))(ws:Nat)(h:Avm.H):
    Qb cfg ws 212 [.isl (l.map It.enc),.isl (m.map It.enc),.QJ 213 0 []] h=some (.bool (eqL It.same l m),h):=
 WQ (cl:=It.cells) (sz:=12) (zs:=[.str ⟨#[]⟩,.int .i64 0,.str ⟨#[]⟩,.int .i64 0,.int .i64 0,.bool false,.bool false,.isl [],.isl [],.bool false,.bool false,.isl []]) rfl rfl hlen (Qkm l) (Qkm m) It.hcl rfl rfl (.inl rfl) (fun x hx y _ ws h=>hl x hx y ws h) ws h
theorem Qqu (l m:List Ty)(hlen:l.length<=67108864)(hl: ∀x∈l,∀y ws h,Qb cfg ws 133 [x.enc,y.enc] h=some (.bool (x.same y),h))(ws:Nat)(h:Avm.H):
    Qb cfg ws 214 [.isl (l.map Ty.enc),.isl (m.map Ty.enc),.QJ 133 0 []] h=some (.bool (eqL Ty.same l m),h):=
 WQ (cl:=Ty.cells) (sz:=8) (zs:=[.int .i64 0,.str ⟨#[]⟩,.int .i64 0,.int .i64 0,.bool false,.bool false,.isl [],.isl []]) rfl rfl hlen (YR l) (YR m) Ty.hcl rfl rfl (.inl rfl) (fun x hx y _ ws h=>hl x hx y ws h) ws h
theorem QcR : ∀(n:Nat),(∀(t u:Ty),t.size<=n->t.wid<=67108864-> ∀ws h,Qb cfg ws 133 [t.enc,u.enc] h=some (.bool (t.same u),h))/\
    (∀(t u:It),t.size<=n->t.wid<=67108864-> ∀ws h,Qb cfg ws 213 [t.enc,u.enc] h=some (.bool (t.same u),h))
 | 0=>⟨fun t _ ht _ _ _=>(by have:=t.size_pos; omega),fun t _ ht _ _ _=>(by have:=t.size_pos; omega)⟩
 | n+1=>by
  obtain⟨ih1,ih2⟩:=QcR n;refine⟨fun t u ht hb ws h=>?_,fun t u ht hb ws h=>?_⟩
  ·have hl1:=t.Qe;have hl2:=t.ZK
   have e1:=fun h'=>Qqv t.items u.items (by omega) (fun x hx y ws h=>by
    have:=Ty.Qu hx;have:=Ty.Jh hx;exact ih2 x y (by omega) (by omega) ws h) h.length h'
   have e2:=fun h'=>Qqu t.kids u.kids (by omega) (fun x hx y ws h=>by
    have:=Ty.Xa hx;have:=Ty.ZX hx;exact ih1 x y (by omega) (by omega) ws h) h.length h'
   refine Qc rfl rfl ?_
   rw[Ty.Xt];simp[QEM,QDM,e1,e2,Bool.and_assoc]
  ·have hl1:=t.Qhv;have hof:=t.Qpi;have:=t.QgY;have e1:=fun h'=>ih1 t.of u.of (by omega) (by omega) h.length h'
   have e2:=fun h'=>Qdq t.Qy u.Qy (by omega) (fun x hx y ws h=>by
    have:=It.Qlt hx;exact QgU _ x y (Nat.le_refl _) (by omega) ws h) h.length h'
   simp only[Ty.ZS]at e1;refine Qc rfl rfl ?_
   unfold It.same;simp[QEi,QDi,e1,e2,Bool.and_assoc]
theorem ZO (t u:Ty)(ht:t.wid<=67108864)(ws:Nat)(h:Avm.H):Qb cfg ws 133 [t.enc,u.enc] h=some (.bool (t.same u),h):=(QcR _).1 t u (Nat.le_refl _) ht ws h
end Go.Proofs.YtflbneepngjglaaGreatDoor
