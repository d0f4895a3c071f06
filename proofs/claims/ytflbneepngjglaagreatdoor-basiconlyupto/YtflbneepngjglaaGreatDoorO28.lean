/- Comparing values and types. -/
import Derived.Test.YtflbneepngjglaaGreatDoorO25
import Derived.Test.YtflbneepngjglaaGreatDoorO27
set_option linter.all false
namespace Go.Proofs.YtflbneepngjglaaGreatDoor
open Go Go.Avm
theorem Yh {α β:Type}(l:List α)(f:α->β):(l.attach.map fun x=>f x.1)=l.map f:=by simp
theorem QxT {α:Type}(l:List α)(f:α->Bool):(l.attach.all fun x=>f x.1)=l.all f:=by simp
theorem QoD {α β:Type}(l:List α)(f:α->List β):(l.attach.flatMap fun x=>f x.1)=l.flatMap f:=by simp
theorem Qrg {α β γ:Type}(p:β->γ->Bool)(g:α->β): ∀(l:List α) (m:List γ),eqL p (l.map g) m=eqL (fun x y=>p (g x) y) l m
 | [],[]=>rfl
 | [],_::_=>rfl
 | _::_,[]=>rfl
 | x::l,y::m=>by simp only[List.map_cons,eqL,Qrg p g l m]
theorem Qmw {α β:Type}(l:List α)(m:List β)(f:α->β->Bool):eqL (fun(x:{x//x∈l}) y=>f x.1 y) l.attach m=eqL f l m:=by
 rw[←Qrg f Subtype.val,List.attach_map_subtype_val]
inductive Val where
 | mk (kind int:Int) (bytes:ByteArray) (items:List Val)
mutual
inductive Ty where
 | mk (kind:Int) (name:ByteArray) (lo hi:Int) (free ext:Bool) (items:List It) (kids:List Ty)
inductive It where
 | mk (name:ByteArray) (of:Ty) (opt extra:Bool) (QA:List Val)
end
structure Df where
 name:ByteArray
 params:List ByteArray
 of:Ty
structure Md where
 name:ByteArray
 defs:List Df
def Val.kind:Val->Int | .mk x _ _ _=>x
@[simp] theorem Val.QaI(x0:Int)(x1:Int)(x2:ByteArray)(x3:List Val):(Val.mk x0 x1 x2 x3).kind=x0:=rfl
def Val.int:Val->Int | .mk _ x _ _=>x
@[simp] theorem Val.QEh(x0:Int)(x1:Int)(x2:ByteArray)(x3:List Val):(Val.mk x0 x1 x2 x3).int=x1:=rfl
def Val.bytes:Val->ByteArray | .mk _ _ x _=>x
@[simp] theorem Val.Qou(x0:Int)(x1:Int)(x2:ByteArray)(x3:List Val):(Val.mk x0 x1 x2 x3).bytes=x2:=rfl
def Val.items:Val->List Val | .mk _ _ _ x=>x
@[simp] theorem Val.Xl(x0:Int)(x1:Int)(x2:ByteArray)(x3:List Val):(Val.mk x0 x1 x2 x3).items=x3:=rfl
theorem Val.eta(v:Val):Val.mk v.kind v.int v.bytes v.items=v:=by cases v; rfl
def Ty.kind:Ty->Int | .mk x _ _ _ _ _ _ _=>x
@[simp] theorem Ty.QaI(x0:Int)(x1:ByteArray)(x2:Int)(x3:Int)(x4:Bool)(x5:Bool)(x6:List It)(x7:List Ty):(Ty.mk x0 x1 x2 x3 x4 x5 x6 x7).kind=x0:=rfl
def Ty.name:Ty->ByteArray | .mk _ x _ _ _ _ _ _=>x
@[simp] theorem Ty.Zq(x0:Int)(x1:ByteArray)(x2:Int)(x3:Int)(x4:Bool)(x5:Bool)(x6:List It)(x7:List Ty):(Ty.mk x0 x1 x2 x3 x4 x5 x6 x7).name=x1:=rfl
def Ty.lo:Ty->Int | .mk _ _ x _ _ _ _ _=>x
@[simp] theorem Ty.QcK(x0:Int)(x1:ByteArray)(x2:Int)(x3:Int)(x4:Bool)(x5:Bool)(x6:List It)(x7:List Ty):(Ty.mk x0 x1 x2 x3 x4 x5 x6 x7).lo=x2:=rfl
def Ty.hi:Ty->Int | .mk _ _ _ x _ _ _ _=>x
@[simp] theorem Ty.QcN(x0:Int)(x1:ByteArray)(x2:Int)(x3:Int)(x4:Bool)(x5:Bool)(x6:List It)(x7:List Ty):(Ty.mk x0 x1 x2 x3 x4 x5 x6 x7).hi=x3:=rfl
def Ty.free:Ty->Bool | .mk _ _ _ _ x _ _ _=>x
@[simp] theorem Ty.Ye(x0:Int)(x1:ByteArray)(x2:Int)(x3:Int)(x4:Bool)(x5:Bool)(x6:List It)(x7:List Ty):(Ty.mk x0 x1 x2 x3 x4 x5 x6 x7).free=x4:=rfl
def Ty.ext:Ty->Bool | .mk _ _ _ _ _ x _ _=>x
@[simp] theorem Ty.We(x0:Int)(x1:ByteArray)(x2:Int)(x3:Int)(x4:Bool)(x5:Bool)(x6:List It)(x7:List Ty):(Ty.mk x0 x1 x2 x3 x4 x5 x6 x7).ext=x5:=rfl
def Ty.items:Ty->List It | .mk _ _ _ _ _ _ x _=>x
@[simp] theorem Ty.Xl(x0:Int)(x1:ByteArray)(x2:Int)(x3:Int)(x4:Bool)(x5:Bool)(x6:List It)(x7:List Ty):(Ty.mk x0 x1 x2 x3 x4 x5 x6 x7).items=x6:=rfl
def Ty.kids:Ty->List Ty | .mk _ _ _ _ _ _ _ x=>x
@[simp] theorem Ty.ZC(x0:Int)(x1:ByteArray)(x2:Int)(x3:Int)(x4:Bool)(x5:Bool)(x6:List It)(x7:List Ty):(Ty.mk x0 x1 x2 x3 x4 x5 x6 x7).kids=x7:=rfl
theorem Ty.eta(v:Ty):Ty.mk v.kind v.name v.lo v.hi v.free v.ext v.items v.kids=v:=by cases v; rfl
def It.name:It->ByteArray | .mk x _ _ _ _=>x
@[simp] theorem It.Zq(x0:ByteArray)(x1:Ty)(x2:Bool)(x3:Bool)(x4:List Val):(It.mk x0 x1 x2 x3 x4).name=x0:=rfl
def It.of:It->Ty | .mk _ x _ _ _=>x
@[simp] theorem It.Qyg(x0:ByteArray)(x1:Ty)(x2:Bool)(x3:Bool)(x4:List Val):(It.mk x0 x1 x2 x3 x4).of=x1:=rfl
def It.opt:It->Bool | .mk _ _ x _ _=>x
@[simp] theorem It.QEf(x0:ByteArray)(x1:Ty)(x2:Bool)(x3:Bool)(x4:List Val):(It.mk x0 x1 x2 x3 x4).opt=x2:=rfl
def It.extra:It->Bool | .mk _ _ _ x _=>x
@[simp] theorem It.QBV(x0:ByteArray)(x1:Ty)(x2:Bool)(x3:Bool)(x4:List Val):(It.mk x0 x1 x2 x3 x4).extra=x3:=rfl
def It.QA:It->List Val | .mk _ _ _ _ x=>x
@[simp] theorem It.Qrk(x0:ByteArray)(x1:Ty)(x2:Bool)(x3:Bool)(x4:List Val):(It.mk x0 x1 x2 x3 x4).QA=x4:=rfl
theorem It.eta(v:It):It.mk v.name v.of v.opt v.extra v.QA=v:=by cases v; rfl
mutual
def Val.cells:Val->List AV
 | .mk k i b its=>[.int .i64 k,.int .i64 i,.str b,.isl (Val.Ym its)]
def Val.Ym:List Val->List AV
 | []=>[]
 | v::l=>.agg v.cells::Val.Ym l
end
def Val.enc(v:Val):AV:=.agg v.cells
theorem Val.Zk: ∀l,Val.Ym l=l.map Val.enc
 | []=>by rw[Val.Ym]; rfl
 | x::l=>by rw[Val.Ym,Val.Zk l]; rfl
theorem Val.XO(v:Val):v.cells=[.int .i64 v.kind,.int .i64 v.int,.str v.bytes,.isl (v.items.map Val.enc)]:=by
 cases v; rw[Val.cells,Val.Zk]; rfl
@[simp] theorem Val.ZO(v:Val):v.enc= .agg [.int .i64 v.kind,.int .i64 v.int,.str v.bytes,.isl (v.items.map Val.enc)]:=by rw[Val.enc,Val.XO]
mutual
theorem Val.ZM: ∀v:Val,Qv v.cells=true
 | .mk k i b its=>by rw[Val.cells]; simp[Val.Zf its]
theorem Val.Zf: ∀l:List Val,Qv (Val.Ym l)=true
 | []=>by rw[Val.Ym]; rfl
 | v::l=>by rw[Val.Ym]; simp[Val.ZM v,Val.Zf l]
end
mutual
def Ty.cells:Ty->List AV
 | .mk k n lo hi f e its ks=>[.int .i64 k,.str n,.int .i64 lo,.int .i64 hi,.bool f,.bool e,.isl (It.Ym its),.isl (Ty.Ym ks)]
def It.cells:It->List AV
 | .mk n of o x d=>.str n::(of.cells++ [.bool o,.bool x,.isl (d.map Val.enc)])
def It.Ym:List It->List AV
 | []=>[]
 | x::r=>.agg x.cells::It.Ym r
def Ty.Ym:List Ty->List AV
 | []=>[]
 | x::r=>.agg x.cells::Ty.Ym r
end
def Ty.enc(t:Ty):AV:=.agg t.cells
def It.enc(t:It):AV:=.agg t.cells
theorem It.Zk: ∀l,It.Ym l=l.map It.enc
 | []=>by rw[It.Ym]; rfl
 | x::l=>by rw[It.Ym,It.Zk l]; rfl
theorem Ty.Zk: ∀l,Ty.Ym l=l.map Ty.enc
 | []=>by rw[Ty.Ym]; rfl
 | x::l=>by rw[Ty.Ym,Ty.Zk l]; rfl
theorem Ty.XO(t:Ty):t.cells=[.int .i64 t.kind,.str t.name,.int .i64 t.lo,.int .i64 t.hi,.bool t.free,.bool t.ext,.isl (t.items.map It.enc),.isl (t.kids.map Ty.enc)]:=by
 cases t; rw[Ty.cells,It.Zk,Ty.Zk]; rfl
theorem It.XO(x:It):x.cells=[.str x.name,.int .i64 x.of.kind,.str x.of.name,.int .i64 x.of.lo,.int .i64 x.of.hi,.bool x.of.free,.bool x.of.ext,.isl (x.of.items.map It.enc),.isl (x.of.kids.map Ty.enc),.bool x.opt,.bool x.extra,.isl (x.QA.map Val.enc)]:=by
 cases x; rw[It.cells,Ty.XO]; rfl
@[simp] theorem Ty.ZO(t:Ty):t.enc= .agg [.int .i64 t.kind,.str t.name,.int .i64 t.lo,.int .i64 t.hi,.bool t.free,.bool t.ext,.isl (t.items.map It.enc),.isl (t.kids.map Ty.enc)]:=by rw[Ty.enc,Ty.XO]
@[simp] theorem It.ZO(x:It):x.enc= .agg [.str x.name,.int .i64 x.of.kind,.str x.of.name,.int .i64 x.of.lo,.int .i64 x.of.hi,.bool x.of.free,.bool x.of.ext,.isl (x.of.items.map It.enc),.isl (x.of.kids.map Ty.enc),.bool x.opt,.bool x.extra,.isl (x.QA.map Val.enc)]:=by rw[It.enc,It.XO]
theorem QjJ : ∀(a b:List AV),Qv (a++b)=(Qv a&&Qv b)
 | [],b=>by simp
 | x::a,b=>by simp[QjJ a b,Bool.and_assoc]
@[simp] theorem QhA (l:List Val):Qv (l.map Val.enc)=true:=by rw[←Val.Zk]; exact Val.Zf l
mutual
theorem Ty.ZM: ∀t:Ty,Qv t.cells=true
 | .mk k n lo hi f e its ks=>by rw[Ty.cells]; simp[It.Zf its,Ty.Zf ks]
theorem It.ZM: ∀t:It,Qv t.cells=true
 | .mk n of o x d=>by rw[It.cells]; simp[QjJ,Ty.ZM of]
theorem It.Zf: ∀l:List It,Qv (It.Ym l)=true
 | []=>by rw[It.Ym]; rfl
 | x::l=>by rw[It.Ym]; simp[It.ZM x,It.Zf l]
theorem Ty.Zf: ∀l:List Ty,Qv (Ty.Ym l)=true
 | []=>by rw[Ty.Ym]; rfl
 | x::l=>by rw[Ty.Ym]; simp[Ty.ZM x,Ty.Zf l]
end
@[simp] theorem QjI (l:List It):Qv (l.map It.enc)=true:=by rw[←It.Zk]; exact It.Zf l
@[simp] theorem YJ (l:List Ty):Qv (l.map Ty.enc)=true:=by rw[←Ty.Zk]; exact Ty.Zf l
def Df.cells(d:Df):List AV:=[.str d.name,.isl (d.params.map .str),.int .i64 d.of.kind,.str d.of.name,.int .i64 d.of.lo,.int .i64 d.of.hi,.bool d.of.free,.bool d.of.ext,.isl (d.of.items.map It.enc),.isl (d.of.kids.map Ty.enc)]
def Df.enc(d:Df):AV:=.agg d.cells
@[simp] theorem Df.ZO(d:Df):d.enc= .agg [.str d.name,.isl (d.params.map .str),.int .i64 d.of.kind,.str d.of.name,.int .i64 d.of.lo,.int .i64 d.of.hi,.bool d.of.free,.bool d.of.ext,.isl (d.of.items.map It.enc),.isl (d.of.kids.map Ty.enc)]:=rfl
@[simp] theorem QAK (l:List Df):Qv (l.map Df.enc)=true:=by induction l<;>simp_all
def Md.enc(m:Md):AV:=.agg [.str m.name,.isl (m.defs.map Df.enc)]
@[simp] theorem Qyw (h:Avm.H)(n:Nat)(l:List Val):QH (snap h n) (l.map Val.enc)=some (l.map Val.enc):=Qx (by simp)
@[simp] theorem QAO (base n:Nat)(l:List Val)(h:Avm.H):XW (frz base n) (l.map Val.enc) h=some (l.map Val.enc,h):=Zj (by simp)
@[simp] theorem QAH (h:Avm.H)(n:Nat)(l:List Ty):QH (snap h n) (l.map Ty.enc)=some (l.map Ty.enc):=Qx (by simp)
@[simp] theorem QBQ (base n:Nat)(l:List Ty)(h:Avm.H):XW (frz base n) (l.map Ty.enc) h=some (l.map Ty.enc,h):=Zj (by simp)
@[simp] theorem QAI (h:Avm.H)(n:Nat)(l:List It):QH (snap h n) (l.map It.enc)=some (l.map It.enc):=Qx (by simp)
@[simp] theorem QBR (base n:Nat)(l:List It)(h:Avm.H):XW (frz base n) (l.map It.enc) h=some (l.map It.enc,h):=Zj (by simp)
@[simp] theorem QAJ (h:Avm.H)(n:Nat)(l:List Df):QH (snap h n) (l.map Df.enc)=some (l.map Df.enc):=Qx (by simp)
@[simp] theorem QBS (base n:Nat)(l:List Df)(h:Avm.H):XW (frz base n) (l.map Df.enc) h=some (l.map Df.enc,h):=Zj (by simp)
theorem Val.Qja(l:List Val): ∀x∈l,x.enc.cells.length=4/\ldc 4 true 0 x.enc.cells=some x.enc:=fun x _=>by simp
theorem Val.hcl(x:Val):x.cells.length=4/\x.cells.all AV.one=true:=by rw[Val.XO]; simp
theorem Ty.Qja(l:List Ty): ∀x∈l,x.enc.cells.length=8/\ldc 8 true 0 x.enc.cells=some x.enc:=fun x _=>by simp
theorem Ty.hcl(x:Ty):x.cells.length=8/\x.cells.all AV.one=true:=by rw[Ty.XO]; simp
theorem It.Qja(l:List It): ∀x∈l,x.enc.cells.length=12/\ldc 12 true 0 x.enc.cells=some x.enc:=fun x _=>by simp
theorem It.hcl(x:It):x.cells.length=12/\x.cells.all AV.one=true:=by rw[It.XO]; simp
mutual
def Val.size:Val->Nat
 | .mk _ _ b l=>Val.QM l+b.size+1
def Val.QM:List Val->Nat
 | []=>0
 | x::r=>x.size+Val.QM r
end
mutual
def Ty.size:Ty->Nat
 | .mk _ nm _ _ _ _ its ks=>It.QM its+Ty.QM ks+nm.size+1
def It.size:It->Nat
 | .mk nm of _ _ d=>of.size+Val.QM d+nm.size+1
def It.QM:List It->Nat
 | []=>0
 | x::r=>x.size+It.QM r
def Ty.QM:List Ty->Nat
 | []=>0
 | x::r=>x.size+Ty.QM r
end
theorem Val.size_eq(v:Val):v.size=Val.QM v.items+v.bytes.size+1:=by cases v; rw[Val.size]; rfl
theorem Ty.size_eq(v:Ty):v.size=It.QM v.items+Ty.QM v.kids+v.name.size+1:=by cases v; rw[Ty.size]; rfl
theorem It.size_eq(v:It):v.size=v.of.size+Val.QM v.QA+v.name.size+1:=by cases v; rw[It.size]; rfl
theorem Val.size_pos(v:Val):1<=v.size:=by rw[Val.size_eq]; omega
theorem Ty.size_pos(v:Ty):1<=v.size:=by rw[Ty.size_eq]; omega
theorem It.size_pos(v:It):1<=v.size:=by rw[It.size_eq]; omega
theorem Val.Zd: ∀{l:List Val} {x:Val},x∈l->x.size<=Val.QM l
 | y::l,x,h=>by
  rw[Val.QM];rcases List.mem_cons.1 h with rfl | h
  ·omega
  ·have:=Val.Zd h; omega
theorem Val.Xr: ∀(l:List Val),l.length<=Val.QM l
 | []=>by simp
 | x::l=>by have:=Val.size_pos x; have:=Val.Xr l; simp only[Val.QM,List.length_cons]; omega
theorem Ty.Zd: ∀{l:List Ty} {x:Ty},x∈l->x.size<=Ty.QM l
 | y::l,x,h=>by
  rw[Ty.QM];rcases List.mem_cons.1 h with rfl | h
  ·omega
  ·have:=Ty.Zd h; omega
theorem Ty.Xr: ∀(l:List Ty),l.length<=Ty.QM l
 | []=>by simp
 | x::l=>by have:=Ty.size_pos x; have:=Ty.Xr l; simp only[Ty.QM,List.length_cons]; omega
theorem It.Zd: ∀{l:List It} {x:It},x∈l->x.size<=It.QM l
 | y::l,x,h=>by
  rw[It.QM];rcases List.mem_cons.1 h with rfl | h
  ·omega
  ·have:=It.Zd h; omega
theorem It.Xr: ∀(l:List It),l.length<=It.QM l
 | []=>by simp
 | x::l=>by have:=It.size_pos x; have:=It.Xr l; simp only[It.QM,List.length_cons]; omega
theorem Val.Qu{v x:Val}(h:x∈v.items):x.size<v.size:=by have:=Val.Zd h; rw[Val.size_eq v]; omega
theorem Val.Qw(v:Val):v.items.length<v.size:=by have:=Val.Xr v.items; rw[Val.size_eq v]; omega
theorem Val.QJ(v:Val):v.bytes.size<v.size:=by rw[Val.size_eq v]; omega
theorem Ty.Xa{v x:Ty}(h:x∈v.kids):x.size<v.size:=by have:=Ty.Zd h; rw[Ty.size_eq v]; omega
theorem Ty.Qu{v:Ty}{x:It}(h:x∈v.items):x.size<v.size:=by have:=It.Zd h; rw[Ty.size_eq v]; omega
theorem Ty.Qw(v:Ty):v.items.length<v.size:=by have:=It.Xr v.items; rw[Ty.size_eq v]; omega
theorem It.Qgt(x:It):x.of.size<x.size:=by rw[It.size_eq x]; omega
theorem It.Qnp{x:It}{v:Val}(h:v∈x.QA):v.size<x.size:=by have:=Val.Zd h; rw[It.size_eq x]; omega
theorem Ty.mem_of{v:Ty}{x:It}(h:x∈v.items):x.of.size<v.size:=Nat.lt_trans x.Qgt (Ty.Qu h)
def Qly :List Val->Nat
 | []=>0
 | x::r=>max x.size (Qly r)
mutual
def Ty.wid:Ty->Nat
 | .mk _ nm _ _ _ _ its ks=>max (max (max its.length ks.length) nm.size) (max (It.XV its) (Ty.XV ks))
def It.wid:It->Nat
 | .mk nm of _ _ d=>max (max nm.size of.wid) (max d.length (Qly d))
def It.XV:List It->Nat
 | []=>0
 | x::r=>max x.wid (It.XV r)
def Ty.XV:List Ty->Nat
 | []=>0
 | x::r=>max x.wid (Ty.XV r)
end
theorem Qnq : ∀{l:List Val} {x:Val},x∈l->x.size<=Qly l
 | y::l,x,h=>by
  rw[Qly];rcases List.mem_cons.1 h with rfl | h
  ·omega
  ·have:=Qnq h; omega
theorem Ty.Qbm: ∀{l:List Ty} {x:Ty},x∈l->x.wid<=Ty.XV l
 | y::l,x,h=>by
  rw[Ty.XV];rcases List.mem_cons.1 h with rfl | h
  ·omega
  ·have:=Ty.Qbm h; omega
theorem It.Qbm: ∀{l:List It} {x:It},x∈l->x.wid<=It.XV l
 | y::l,x,h=>by
  rw[It.XV];rcases List.mem_cons.1 h with rfl | h
  ·omega
  ·have:=It.Qbm h; omega
theorem Ty.Xp(t:Ty):t.wid=max (max (max t.items.length t.kids.length) t.name.size) (max (It.XV t.items) (Ty.XV t.kids)):=by cases t; rw[Ty.wid]; rfl
theorem It.Xp(t:It):t.wid=max (max t.name.size t.of.wid) (max t.QA.length (Qly t.QA)):=by cases t; rw[It.wid]; rfl
theorem Ty.Qe(t:Ty):t.items.length<=t.wid:=by rw[Ty.Xp]; omega
theorem Ty.ZH(t:Ty):t.kids.length<=t.wid:=by rw[Ty.Xp]; omega
theorem Ty.Qbl(t:Ty):t.name.size<=t.wid:=by rw[Ty.Xp]; omega
theorem Ty.Jf{t:Ty}{x:It}(h:x∈t.items):x.wid<=t.wid:=by have:=It.Qbm h; rw[Ty.Xp]; omega
theorem Ty.ZT{t x:Ty}(h:x∈t.kids):x.wid<=t.wid:=by have:=Ty.Qbm h; rw[Ty.Xp t]; omega
theorem It.QoJ(x:It):x.of.wid<=x.wid:=by rw[It.Xp]; omega
theorem It.Qbl(x:It):x.name.size<=x.wid:=by rw[It.Xp]; omega
theorem It.QgS(x:It):x.QA.length<=x.wid:=by rw[It.Xp]; omega
theorem It.QkR{x:It}{v:Val}(h:v∈x.QA):v.size<=x.wid:=by have:=Qnq h; rw[It.Xp]; omega
theorem Ty.ZI{t:Ty}{x:It}(h:x∈t.items):x.of.wid<=t.wid:=Nat.le_trans x.QoJ (Ty.Jf h)
theorem QqR {n:Nat}: ∀{l:List Val},(∀x∈l,x.size<=n)->Qly l<=n
 | [],_=>by simp[Qly]
 | x::l,h=>by have:=h x (by simp); have:=QqR (l:=l) fun y hy=>h y (by simp[hy]); simp only[Qly]; omega
theorem It.Qau{n:Nat}: ∀{l:List It},(∀x∈l,x.wid<=n)->It.XV l<=n
 | [],_=>by simp[It.XV]
 | x::l,h=>by have:=h x (by simp); have:=It.Qau (l:=l) fun y hy=>h y (by simp[hy]); simp only[It.XV]; omega
theorem Ty.Qau{n:Nat}: ∀{l:List Ty},(∀x∈l,x.wid<=n)->Ty.XV l<=n
 | [],_=>by simp[Ty.XV]
 | x::l,h=>by have:=h x (by simp); have:=Ty.Qau (l:=l) fun y hy=>h y (by simp[hy]); simp only[Ty.XV]; omega
mutual
theorem Ty.XF: ∀t:Ty,t.wid<=t.size
 | .mk _ nm _ _ _ _ its ks=>by
  have h1:=It.Xr its; have h2:=Ty.Xr ks; have h3:=It.WM its; have h4:=Ty.WM ks;simp only[Ty.wid,Ty.size]; omega
theorem It.XF: ∀x:It,x.wid<=x.size
 | .mk nm of _ _ d=>by
  have h1:=Ty.XF of; have h2:=Val.Xr d;have h3:Qly d<=Val.QM d:=QqR fun x hx=>Val.Zd hx
  simp only[It.wid,It.size]; omega
theorem It.WM: ∀l:List It,It.XV l<=It.QM l
 | []=>by simp[It.XV]
 | x::l=>by have h1:=It.XF x; have h2:=It.WM l; simp only[It.XV,It.QM]; omega
theorem Ty.WM: ∀l:List Ty,Ty.XV l<=Ty.QM l
 | []=>by simp[Ty.XV]
 | x::l=>by have h1:=Ty.XF x; have h2:=Ty.WM l; simp only[Ty.XV,Ty.QM]; omega
end
def Ty.comp(t:Ty):Bool:=decide (t.kind=8)||decide (t.kind=9)
def Ty.inner(t:Ty):List Ty:=t.kids++if t.comp then t.items.map It.of else []
theorem Ty.QQ{t x:Ty}(h:x∈t.inner):x.size<t.size:=by
 unfold Ty.inner at h;rcases List.mem_append.1 h with h | h
 ·exact Ty.Xa h
 ·split at h
  ·obtain⟨i,hi,rfl⟩:=List.mem_map.1 h;exact Ty.mem_of hi
  ·cases h
theorem Ty.ZU{t x:Ty}(h:x∈t.inner):x.wid<=t.wid:=by
 unfold Ty.inner at h;rcases List.mem_append.1 h with h | h
 ·exact Ty.ZT h
 ·split at h
  ·obtain⟨i,hi,rfl⟩:=List.mem_map.1 h;exact Ty.ZI hi
  ·cases h
def Val.same(v w:Val):Bool:=decide (v.kind=w.kind)&&(decide (v.int=w.int)&&(decide (v.bytes.toList=w.bytes.toList)&&eqL (fun(x:{x//x∈v.items}) y=>x.1.same y) v.items.attach w.items))
termination_by v.size
decreasing_by exact Val.Qu x.2
theorem Val.Xu(v w:Val):v.same w=(decide (v.kind=w.kind)&&(decide (v.int=w.int)&&(decide (v.bytes.toList=w.bytes.toList)&&eqL Val.same v.items w.items))):=by rw[Val.same,Qmw v.items w.items Val.same]
def Ty.same(t u:Ty):Bool:=decide (t.kind=u.kind)&&(decide (t.name.toList=u.name.toList)&&(decide (t.lo=u.lo)&&(decide (t.hi=u.hi)&&(decide (t.free=u.free)&&(decide (t.ext=u.ext)&&
 (eqL (fun(x:{x//x∈t.items}) (y:It)=>decide (x.1.name.toList=y.name.toList)&&(decide (x.1.opt=y.opt)&&(decide (x.1.extra=y.extra)&&(x.1.of.same y.of&&eqL Val.same x.1.QA y.QA)))) t.items.attach u.items&&
  eqL (fun(x:{x//x∈t.kids}) (y:Ty)=>x.1.same y) t.kids.attach u.kids))))))
termination_by t.size
decreasing_by
 ·exact Ty.mem_of x.2
 ·exact Ty.Xa x.2
def It.same(x y:It):Bool:=decide (x.name.toList=y.name.toList)&&(decide (x.opt=y.opt)&&(decide (x.extra=y.extra)&&(x.of.same y.of&&eqL Val.same x.QA y.QA)))
theorem Ty.Xu(t u:Ty):t.same u=(decide (t.kind=u.kind)&&(decide (t.name.toList=u.name.toList)&&(decide (t.lo=u.lo)&&(decide (t.hi=u.hi)&&(decide (t.free=u.free)&&(decide (t.ext=u.ext)&&(eqL It.same t.items u.items&&eqL Ty.same t.kids u.kids))))))):=by
 rw[Ty.same,Qmw t.items u.items (fun x y=>decide (x.name.toList=y.name.toList)&&(decide (x.opt=y.opt)&&(decide (x.extra=y.extra)&&(x.of.same y.of&&eqL Val.same x.QA y.QA)))),Qmw t.kids u.kids Ty.same]
 rfl
def Ty.Qz(p:Ty->Bool)(t:Ty):Bool:=p t&&t.inner.attach.all fun x=>x.1.Qz p
termination_by t.size
decreasing_by exact Ty.QQ x.2
theorem Ty.JL(p:Ty->Bool)(t:Ty):t.Qz p=(p t&&t.inner.all fun x=>x.Qz p):=by rw[Ty.Qz,QxT t.inner fun x=>x.Qz p]
def Ty.nodes(t:Ty):Nat:=1+(t.inner.attach.map fun x=>x.1.nodes).sum
termination_by t.size
decreasing_by exact Ty.QQ x.2
theorem Ty.QC(t:Ty):t.nodes=1+(t.inner.map Ty.nodes).sum:=by rw[Ty.nodes,Yh t.inner Ty.nodes]
def Xq :List Nat->Nat
 | []=>0
 | x::l=>max x (Xq l)
def Ty.depth(t:Ty):Nat:=1+Xq (t.inner.attach.map fun x=>x.1.depth)
termination_by t.size
decreasing_by exact Ty.QQ x.2
theorem Ty.Zw(t:Ty):t.depth=1+Xq (t.inner.map Ty.depth):=by rw[Ty.depth,Yh t.inner Ty.depth]
def Val.nodes(v:Val):Nat:=1+(v.items.attach.map fun x=>x.1.nodes).sum
termination_by v.size
decreasing_by exact Val.Qu x.2
theorem Qqu {α:Type}{f:α->Nat}: ∀{l:List α} {x:α},x∈l->f x<=(l.map f).sum
 | y::l,x,h=>by
  simp only[List.map_cons,List.sum_cons];rcases List.mem_cons.1 h with rfl | h
  ·omega
  ·have:=Qqu (f:=f) h; omega
theorem Qbn {α:Type}(f:α->Nat): ∀(l:List α) (i:Nat),((l.take i).map f).sum<=(l.map f).sum
 | [],i=>by simp
 | x::l,0=>by simp
 | x::l,i+1=>by have:=Qbn f l i; simp only[List.take_succ_cons,List.map_cons,List.sum_cons]; omega
theorem QhJ {α:Type}{f g:α->Nat}: ∀(l:List α),(∀x∈l,f x<=g x)->Xq (l.map f)<=(l.map g).sum
 | [],_=>by simp[Xq]
 | x::l,h=>by have:=h x (by simp); have:=QhJ (f:=f) (g:=g) l fun y hy=>h y (by simp[hy]); simp only[List.map_cons,Xq,List.sum_cons]; omega
theorem QkX {α:Type}{f g:α->Nat}: ∀(l:List α),(∀x∈l,f x<=g x)->(l.map f).sum<=(l.map g).sum
 | [],_=>by simp
 | x::l,h=>by have:=h x (by simp); have:=QkX (f:=f) (g:=g) l fun y hy=>h y (by simp[hy]); simp only[List.map_cons,List.sum_cons]; omega
theorem Qab : ∀(l:List Nat) (x:Nat),Xq (l++ [x])=max (Xq l) x
 | [],x=>by simp[Xq]
 | y::l,x=>by simp only[List.cons_append,Xq,Qab l x]; omega
theorem Ty.XS(t:Ty):1<=t.nodes:=by rw[Ty.QC]; omega
theorem Ty.Xx{t x:Ty}(h:x∈t.inner):x.nodes<t.nodes:=by have:=Qqu (f:=Ty.nodes) h; rw[Ty.QC t]; omega
theorem Ty.Qac(t:Ty):t.inner.length<t.nodes:=by
 have: ∀l:List Ty,l.length<=(l.map Ty.nodes).sum:=fun l=>by
  induction l with
  | nil=>simp
  | cons x l ih=>have:=x.XS; simp; omega
 have:=this t.inner;rw[Ty.QC]; omega
theorem Val.QC(v:Val):v.nodes=1+(v.items.map Val.nodes).sum:=by rw[Val.nodes,Yh v.items Val.nodes]
def Val.depth(v:Val):Nat:=1+Xq (v.items.attach.map fun x=>x.1.depth)
termination_by v.size
decreasing_by exact Val.Qu x.2
theorem Val.Zw(v:Val):v.depth=1+Xq (v.items.map Val.depth):=by rw[Val.depth,Yh v.items Val.depth]
theorem Ty.Qah: ∀(n:Nat) (t:Ty),t.size<=n->t.depth<=t.nodes
 | 0,t,h=>by have:=t.size_pos; omega
 | n+1,t,h=>by
  rw[Ty.Zw,Ty.QC];have:=QhJ (f:=Ty.depth) (g:=Ty.nodes) t.inner fun x hx=>Ty.Qah n x (by have:=Ty.QQ hx; omega)
  omega
theorem Ty.Qkr(t:Ty):1<=t.depth:=by rw[Ty.Zw]; omega
theorem Ty.WT: ∀l:List Ty,(l.map Ty.size).sum=Ty.QM l
 | []=>rfl
 | x::l=>by simp[Ty.QM,Ty.WT l]
theorem Ty.Qjs: ∀l:List It,((l.map It.of).map Ty.size).sum<=It.QM l
 | []=>by simp
 | x::l=>by have:=Ty.Qjs l; have:=x.Qgt; simp only[List.map_cons,List.sum_cons,It.QM]; omega
theorem Ty.size_inner(t:Ty):(t.inner.map Ty.size).sum<t.size:=by
 have h1:=Ty.WT t.kids;have h2:=Ty.Qjs t.items;rw[Ty.size_eq];unfold Ty.inner;rw[List.map_append,List.sum_append];split<;>simp at* <;>omega
theorem Ty.XN: ∀(n:Nat) (t:Ty),t.size<=n->t.nodes<=t.size
 | 0,t,h=>by have:=t.size_pos; omega
 | n+1,t,h=>by
  rw[Ty.QC];have h1:=QkX (f:=Ty.nodes) (g:=Ty.size) t.inner fun x hx=>Ty.XN n x (by have:=Ty.QQ hx; omega)
  have:=t.size_inner;omega
theorem Val.XS(t:Val):1<=t.nodes:=by rw[Val.QC]; omega
theorem Val.WT: ∀l:List Val,(l.map Val.size).sum=Val.QM l
 | []=>rfl
 | x::l=>by simp[Val.QM,Val.WT l]
theorem Val.XN: ∀(n:Nat) (t:Val),t.size<=n->t.nodes<=t.size
 | 0,t,h=>by have:=t.size_pos; omega
 | n+1,t,h=>by
  rw[Val.QC,Val.size_eq];have h1:=QkX (f:=Val.nodes) (g:=Val.size) t.items fun x hx=>Val.XN n x (by have:=Val.Qu hx; omega)
  rw[Val.WT]at h1;omega
theorem Val.Qah: ∀(n:Nat) (t:Val),t.size<=n->t.depth<=t.nodes
 | 0,t,h=>by have:=t.size_pos; omega
 | n+1,t,h=>by
  rw[Val.Zw,Val.QC];have:=QhJ (f:=Val.depth) (g:=Val.nodes) t.items fun x hx=>Val.Qah n x (by have:=Val.Qu hx; omega)
  omega
end Go.Proofs.YtflbneepngjglaaGreatDoor
namespace Go.Proofs.YtflbneepngjglaaGreatDoor
open Go Go.Avm
theorem QoQ {g:FuncId}(h:cfg.pol g=some .snap):Still cfg g:=.inl h
theorem Qdj (l m:List Val)(hlen:l.length<=67108864)(hl: ∀x∈l,∀y ws h,Qb cfg ws 17 [x.enc,y.enc] h=some (.bool (x.same y),h))(ws:Nat)(h:Avm.H):
    Qb cfg ws 46 [.isl (l.map Val.enc),.isl (m.map Val.enc),.QI 17 0 []] h=some (.bool (eqL Val.same l m),h):=
 WE (cl:=Val.cells) (sz:=4) (zs:=[.int .i64 0,.int .i64 0,.str ⟨#[]⟩,.isl []]) rfl rfl hlen (QhA l) (QhA m) Val.hcl rfl rfl (.inl rfl) (fun x hx y _ ws h=>hl x hx y ws h) ws h
theorem Qgp : ∀(n:Nat) (v w:Val),v.size<=n->v.size<=67108864-> ∀ws h,Qb cfg ws 17 [v.enc,w.enc] h=some (.bool (v.same w),h)
 | 0,v,_,hv,_,_,_=>by have:=v.size_pos; omega
 | n+1,v,w,hv,hb,ws,h=>by
  have hlen:=v.Qw
  have heq:=fun h'=>Qdj v.items w.items (by omega) (fun x hx y ws h=>by
   have:=Val.Qu hx;exact Qgp n x y (by omega) (by omega) ws h) h.length h'
  refine Qc rfl rfl ?_
  rw[Val.Xu];simp[F17,c17,heq,Bool.and_assoc]
theorem QpR (l m:List It)(hlen:l.length<=67108864)(hl: ∀x∈l,∀y ws h,Qb cfg ws 213 [x.enc,y.enc] h=some (.bool (x.same y),h))(ws:Nat)(h:Avm.H):
    Qb cfg ws 212 [.isl (l.map It.enc),.isl (m.map It.enc),.QI 213 0 []] h=some (.bool (eqL It.same l m),h):=
 WE (cl:=It.cells) (sz:=12) (zs:=[.str ⟨#[]⟩,.int .i64 0,.str ⟨#[]⟩,.int .i64 0,.int .i64 0,.bool false,.bool false,.isl [],.isl [],.bool false,.bool false,.isl []]) rfl rfl hlen (QjI l) (QjI m) It.hcl rfl rfl (.inl rfl) (fun x hx y _ ws h=>hl x hx y ws h) ws h
theorem QpQ (l m:List Ty)(hlen:l.length<=67108864)(hl: ∀x∈l,∀y ws h,Qb cfg ws 133 [x.enc,y.enc] h=some (.bool (x.same y),h))(ws:Nat)(h:Avm.H):
    Qb cfg ws 214 [.isl (l.map Ty.enc),.isl (m.map Ty.enc),.QI 133 0 []] h=some (.bool (eqL Ty.same l m),h):=
 WE (cl:=Ty.cells) (sz:=8) (zs:=[.int .i64 0,.str ⟨#[]⟩,.int .i64 0,.int .i64 0,.bool false,.bool false,.isl [],.isl []]) rfl rfl hlen (YJ l) (YJ m) Ty.hcl rfl rfl (.inl rfl) (fun x hx y _ ws h=>hl x hx y ws h) ws h
theorem QcI : ∀(n:Nat),(∀(t u:Ty),t.size<=n->t.wid<=67108864-> ∀ws h,Qb cfg ws 133 [t.enc,u.enc] h=some (.bool (t.same u),h))/\
    (∀(t u:It),t.size<=n->t.wid<=67108864-> ∀ws h,Qb cfg ws 213 [t.enc,u.enc] h=some (.bool (t.same u),h))
 | 0=>⟨fun t _ ht _ _ _=>(by have:=t.size_pos; omega),fun t _ ht _ _ _=>(by have:=t.size_pos; omega)⟩
 | n+1=>by
  obtain⟨ih1,ih2⟩:=QcI n;refine⟨fun t u ht hb ws h=>?_,fun t u ht hb ws h=>?_⟩
  ·have hl1:=t.Qe;have hl2:=t.ZH
   have e1:=fun h'=>QpR t.items u.items (by omega) (fun x hx y ws h=>by
    have:=Ty.Qu hx;have:=Ty.Jf hx;exact ih2 x y (by omega) (by omega) ws h) h.length h'
   have e2:=fun h'=>QpQ t.kids u.kids (by omega) (fun x hx y ws h=>by
    have:=Ty.Xa hx;have:=Ty.ZT hx;exact ih1 x y (by omega) (by omega) ws h) h.length h'
   refine Qc rfl rfl ?_
   rw[Ty.Xu];simp[QDH,QCP,e1,e2,Bool.and_assoc]
  ·have hl1:=t.QgS;have hof:=t.QoJ;have:=t.Qgt;have e1:=fun h'=>ih1 t.of u.of (by omega) (by omega) h.length h'
   have e2:=fun h'=>Qdj t.QA u.QA (by omega) (fun x hx y ws h=>by
    have:=It.QkR hx;exact Qgp _ x y (Nat.le_refl _) (by omega) ws h) h.length h'
   simp only[Ty.ZO]at e1;refine Qc rfl rfl ?_
   unfold It.same;simp[QDg,QCo,e1,e2,Bool.and_assoc]
theorem ZK (t u:Ty)(ht:t.wid<=67108864)(ws:Nat)(h:Avm.H):Qb cfg ws 133 [t.enc,u.enc] h=some (.bool (t.same u),h):=(QcI _).1 t u (Nat.le_refl _) ht ws h
end Go.Proofs.YtflbneepngjglaaGreatDoor
