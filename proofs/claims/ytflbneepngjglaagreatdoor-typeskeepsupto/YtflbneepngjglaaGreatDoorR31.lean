/- Comparing values and types. -/
import Derived.Test.YtflbneepngjglaaGreatDoorR28
import Derived.Test.YtflbneepngjglaaGreatDoorR30
set_option linter.all false
namespace Go.Proofs.YtflbneepngjglaaGreatDoor
open Go Go.Avm
theorem att_map {α β : Type} (l : List α) (f : α→β) : (l.attach.map fun x=>f x.1)=l.map f:=by simp
theorem att_all {α : Type} (l : List α) (f : α→Bool) : (l.attach.all fun x=>f x.1)=l.all f:=by simp
theorem att_flat {α β : Type} (l : List α) (f : α→List β) : (l.attach.flatMap fun x=>f x.1)=l.flatMap f:=by simp
theorem eqL_map {α β γ : Type} (p : β→γ→Bool) (g : α→β) : ∀ (l : List α) (m : List γ),eqL p (l.map g) m=eqL (fun x y=>p (g x) y) l m
 | [],[]=>rfl
 | [],_ :: _=>rfl
 | _ :: _,[]=>rfl
 | x :: l,y :: m=>by simp only [List.map_cons,eqL,eqL_map p g l m]
theorem att_eqL {α β : Type} (l : List α) (m : List β) (f : α→β→Bool) : eqL (fun (x : {x // x ∈ l}) y=>f x.1 y) l.attach m=eqL f l m:=by
 rw [← eqL_map f Subtype.val,List.attach_map_subtype_val]
inductive Val where
 | mk (kind int : Int) (bytes : ByteArray) (items : List Val)
mutual
inductive Ty where
 | mk (kind : Int) (name : ByteArray) (lo hi : Int) (free ext : Bool) (items : List It) (kids : List Ty)
inductive It where
 | mk (name : ByteArray) (of : Ty) (opt extra : Bool) (dflt : List Val)
end
structure Df where
 name : ByteArray
 params : List ByteArray
 of : Ty
structure Md where
 name : ByteArray
 defs : List Df
def Val.kind : Val→Int | .mk x _ _ _=>x
@[simp] theorem Val.kind_mk (x0 : Int) (x1 : Int) (x2 : ByteArray) (x3 : List Val) : (Val.mk x0 x1 x2 x3).kind=x0:=rfl
def Val.int : Val→Int | .mk _ x _ _=>x
@[simp] theorem Val.int_mk (x0 : Int) (x1 : Int) (x2 : ByteArray) (x3 : List Val) : (Val.mk x0 x1 x2 x3).int=x1:=rfl
def Val.bytes : Val→ByteArray | .mk _ _ x _=>x
@[simp] theorem Val.bytes_mk (x0 : Int) (x1 : Int) (x2 : ByteArray) (x3 : List Val) : (Val.mk x0 x1 x2 x3).bytes=x2:=rfl
def Val.items : Val→List Val | .mk _ _ _ x=>x
@[simp] theorem Val.items_mk (x0 : Int) (x1 : Int) (x2 : ByteArray) (x3 : List Val) : (Val.mk x0 x1 x2 x3).items=x3:=rfl
theorem Val.eta (v : Val) : Val.mk v.kind v.int v.bytes v.items=v:=by cases v; rfl
def Ty.kind : Ty→Int | .mk x _ _ _ _ _ _ _=>x
@[simp] theorem Ty.kind_mk (x0 : Int) (x1 : ByteArray) (x2 : Int) (x3 : Int) (x4 : Bool) (x5 : Bool) (x6 : List It) (x7 : List Ty) : (Ty.mk x0 x1 x2 x3 x4 x5 x6 x7).kind=x0:=rfl
def Ty.name : Ty→ByteArray | .mk _ x _ _ _ _ _ _=>x
@[simp] theorem Ty.name_mk (x0 : Int) (x1 : ByteArray) (x2 : Int) (x3 : Int) (x4 : Bool) (x5 : Bool) (x6 : List It) (x7 : List Ty) : (Ty.mk x0 x1 x2 x3 x4 x5 x6 x7).name=x1:=rfl
def Ty.lo : Ty→Int | .mk _ _ x _ _ _ _ _=>x
@[simp] theorem Ty.lo_mk (x0 : Int) (x1 : ByteArray) (x2 : Int) (x3 : Int) (x4 : Bool) (x5 : Bool) (x6 : List It) (x7 : List Ty) : (Ty.mk x0 x1 x2 x3 x4 x5 x6 x7).lo=x2:=rfl
def Ty.hi : Ty→Int | .mk _ _ _ x _ _ _ _=>x
@[simp] theorem Ty.hi_mk (x0 : Int) (x1 : ByteArray) (x2 : Int) (x3 : Int) (x4 : Bool) (x5 : Bool) (x6 : List It) (x7 : List Ty) : (Ty.mk x0 x1 x2 x3 x4 x5 x6 x7).hi=x3:=rfl
def Ty.free : Ty→Bool | .mk _ _ _ _ x _ _ _=>x
@[simp] theorem Ty.free_mk (x0 : Int) (x1 : ByteArray) (x2 : Int) (x3 : Int) (x4 : Bool) (x5 : Bool) (x6 : List It) (x7 : List Ty) : (Ty.mk x0 x1 x2 x3 x4 x5 x6 x7).free=x4:=rfl
def Ty.ext : Ty→Bool | .mk _ _ _ _ _ x _ _=>x
@[simp] theorem Ty.ext_mk (x0 : Int) (x1 : ByteArray) (x2 : Int) (x3 : Int) (x4 : Bool) (x5 : Bool) (x6 : List It) (x7 : List Ty) : (Ty.mk x0 x1 x2 x3 x4 x5 x6 x7).ext=x5:=rfl
def Ty.items : Ty→List It | .mk _ _ _ _ _ _ x _=>x
@[simp] theorem Ty.items_mk (x0 : Int) (x1 : ByteArray) (x2 : Int) (x3 : Int) (x4 : Bool) (x5 : Bool) (x6 : List It) (x7 : List Ty) : (Ty.mk x0 x1 x2 x3 x4 x5 x6 x7).items=x6:=rfl
def Ty.kids : Ty→List Ty | .mk _ _ _ _ _ _ _ x=>x
@[simp] theorem Ty.kids_mk (x0 : Int) (x1 : ByteArray) (x2 : Int) (x3 : Int) (x4 : Bool) (x5 : Bool) (x6 : List It) (x7 : List Ty) : (Ty.mk x0 x1 x2 x3 x4 x5 x6 x7).kids=x7:=rfl
theorem Ty.eta (v : Ty) : Ty.mk v.kind v.name v.lo v.hi v.free v.ext v.items v.kids=v:=by cases v; rfl
def It.name : It→ByteArray | .mk x _ _ _ _=>x
@[simp] theorem It.name_mk (x0 : ByteArray) (x1 : Ty) (x2 : Bool) (x3 : Bool) (x4 : List Val) : (It.mk x0 x1 x2 x3 x4).name=x0:=rfl
def It.of : It→Ty | .mk _ x _ _ _=>x
@[simp] theorem It.of_mk (x0 : ByteArray) (x1 : Ty) (x2 : Bool) (x3 : Bool) (x4 : List Val) : (It.mk x0 x1 x2 x3 x4).of=x1:=rfl
def It.opt : It→Bool | .mk _ _ x _ _=>x
@[simp] theorem It.opt_mk (x0 : ByteArray) (x1 : Ty) (x2 : Bool) (x3 : Bool) (x4 : List Val) : (It.mk x0 x1 x2 x3 x4).opt=x2:=rfl
def It.extra : It→Bool | .mk _ _ _ x _=>x
@[simp] theorem It.extra_mk (x0 : ByteArray) (x1 : Ty) (x2 : Bool) (x3 : Bool) (x4 : List Val) : (It.mk x0 x1 x2 x3 x4).extra=x3:=rfl
def It.dflt : It→List Val | .mk _ _ _ _ x=>x
@[simp] theorem It.dflt_mk (x0 : ByteArray) (x1 : Ty) (x2 : Bool) (x3 : Bool) (x4 : List Val) : (It.mk x0 x1 x2 x3 x4).dflt=x4:=rfl
theorem It.eta (v : It) : It.mk v.name v.of v.opt v.extra v.dflt=v:=by cases v; rfl
mutual
def Val.cells : Val→List AV
 | .mk k i b its=>[.int .i64 k,.int .i64 i,.str b,.isl (Val.encL its)]
def Val.encL : List Val→List AV
 | []=>[]
 | v :: l=>.agg v.cells :: Val.encL l
end
def Val.enc (v : Val) : AV:=.agg v.cells
theorem Val.encL_map : ∀ l,Val.encL l=l.map Val.enc
 | []=>by rw [Val.encL]; rfl
 | x :: l=>by rw [Val.encL,Val.encL_map l]; rfl
theorem Val.cells_eq (v : Val) : v.cells=[.int .i64 v.kind,.int .i64 v.int,.str v.bytes,.isl (v.items.map Val.enc)]:=by
 cases v; rw [Val.cells,Val.encL_map]; rfl
@[simp] theorem Val.enc_eq (v : Val) : v.enc = .agg [.int .i64 v.kind,.int .i64 v.int,.str v.bytes,.isl (v.items.map Val.enc)]:=by rw [Val.enc,Val.cells_eq]
mutual
theorem Val.pure_cells : ∀ v : Val,pureL v.cells=true
 | .mk k i b its=>by rw [Val.cells]; simp [Val.pure_encL its]
theorem Val.pure_encL : ∀ l : List Val,pureL (Val.encL l)=true
 | []=>by rw [Val.encL]; rfl
 | v :: l=>by rw [Val.encL]; simp [Val.pure_cells v,Val.pure_encL l]
end
mutual
def Ty.cells : Ty→List AV
 | .mk k n lo hi f e its ks=>[.int .i64 k,.str n,.int .i64 lo,.int .i64 hi,.bool f,.bool e,.isl (It.encL its),.isl (Ty.encL ks)]
def It.cells : It→List AV
 | .mk n of o x d=>.str n :: (of.cells++[.bool o,.bool x,.isl (d.map Val.enc)])
def It.encL : List It→List AV
 | []=>[]
 | x :: r=>.agg x.cells :: It.encL r
def Ty.encL : List Ty→List AV
 | []=>[]
 | x :: r=>.agg x.cells :: Ty.encL r
end
def Ty.enc (t : Ty) : AV:=.agg t.cells
def It.enc (t : It) : AV:=.agg t.cells
theorem It.encL_map : ∀ l,It.encL l=l.map It.enc
 | []=>by rw [It.encL]; rfl
 | x :: l=>by rw [It.encL,It.encL_map l]; rfl
theorem Ty.encL_map : ∀ l,Ty.encL l=l.map Ty.enc
 | []=>by rw [Ty.encL]; rfl
 | x :: l=>by rw [Ty.encL,Ty.encL_map l]; rfl
theorem Ty.cells_eq (t : Ty) : t.cells=[.int .i64 t.kind,.str t.name,.int .i64 t.lo,.int .i64 t.hi,.bool t.free,.bool t.ext,.isl (t.items.map It.enc),.isl (t.kids.map Ty.enc)]:=by
 cases t; rw [Ty.cells,It.encL_map,Ty.encL_map]; rfl
theorem It.cells_eq (x : It) : x.cells=[.str x.name,.int .i64 x.of.kind,.str x.of.name,.int .i64 x.of.lo,.int .i64 x.of.hi,.bool x.of.free,.bool x.of.ext,.isl (x.of.items.map It.enc),.isl (x.of.kids.map Ty.enc),.bool x.opt,.bool x.extra,.isl (x.dflt.map Val.enc)]:=by
 cases x; rw [It.cells,Ty.cells_eq]; rfl
@[simp] theorem Ty.enc_eq (t : Ty) : t.enc = .agg [.int .i64 t.kind,.str t.name,.int .i64 t.lo,.int .i64 t.hi,.bool t.free,.bool t.ext,.isl (t.items.map It.enc),.isl (t.kids.map Ty.enc)]:=by rw [Ty.enc,Ty.cells_eq]
@[simp] theorem It.enc_eq (x : It) : x.enc = .agg [.str x.name,.int .i64 x.of.kind,.str x.of.name,.int .i64 x.of.lo,.int .i64 x.of.hi,.bool x.of.free,.bool x.of.ext,.isl (x.of.items.map It.enc),.isl (x.of.kids.map Ty.enc),.bool x.opt,.bool x.extra,.isl (x.dflt.map Val.enc)]:=by rw [It.enc,It.cells_eq]
theorem pureL_app : ∀ (a b : List AV),pureL (a++b)=(pureL a && pureL b)
 | [],b=>by simp
 | x :: a,b=>by simp [pureL_app a b,Bool.and_assoc]
@[simp] theorem pureL_vals (l : List Val) : pureL (l.map Val.enc)=true:=by rw [← Val.encL_map]; exact Val.pure_encL l
mutual
theorem Ty.pure_cells : ∀ t : Ty,pureL t.cells=true
 | .mk k n lo hi f e its ks=>by rw [Ty.cells]; simp [It.pure_encL its,Ty.pure_encL ks]
theorem It.pure_cells : ∀ t : It,pureL t.cells=true
 | .mk n of o x d=>by rw [It.cells]; simp [pureL_app,Ty.pure_cells of]
theorem It.pure_encL : ∀ l : List It,pureL (It.encL l)=true
 | []=>by rw [It.encL]; rfl
 | x :: l=>by rw [It.encL]; simp [It.pure_cells x,It.pure_encL l]
theorem Ty.pure_encL : ∀ l : List Ty,pureL (Ty.encL l)=true
 | []=>by rw [Ty.encL]; rfl
 | x :: l=>by rw [Ty.encL]; simp [Ty.pure_cells x,Ty.pure_encL l]
end
@[simp] theorem pureL_its (l : List It) : pureL (l.map It.enc)=true:=by rw [← It.encL_map]; exact It.pure_encL l
@[simp] theorem pureL_tys (l : List Ty) : pureL (l.map Ty.enc)=true:=by rw [← Ty.encL_map]; exact Ty.pure_encL l
def Df.cells (d : Df) : List AV:=[.str d.name,.isl (d.params.map .str),.int .i64 d.of.kind,.str d.of.name,.int .i64 d.of.lo,.int .i64 d.of.hi,.bool d.of.free,.bool d.of.ext,.isl (d.of.items.map It.enc),.isl (d.of.kids.map Ty.enc)]
def Df.enc (d : Df) : AV:=.agg d.cells
@[simp] theorem Df.enc_eq (d : Df) : d.enc = .agg [.str d.name,.isl (d.params.map .str),.int .i64 d.of.kind,.str d.of.name,.int .i64 d.of.lo,.int .i64 d.of.hi,.bool d.of.free,.bool d.of.ext,.isl (d.of.items.map It.enc),.isl (d.of.kids.map Ty.enc)]:=rfl
@[simp] theorem pureL_dfs (l : List Df) : pureL (l.map Df.enc)=true:=by induction l <;> simp_all
def Md.enc (m : Md) : AV:=.agg [.str m.name,.isl (m.defs.map Df.enc)]
@[simp] theorem snapL_vals (h : Avm.H) (n : Nat) (l : List Val) : snapL (snap h n) (l.map Val.enc)=some (l.map Val.enc):=snapL_pure (by simp)
@[simp] theorem frzL_vals (base n : Nat) (l : List Val) (h : Avm.H) : frzL (frz base n) (l.map Val.enc) h=some (l.map Val.enc,h):=frzL_pure (by simp)
@[simp] theorem snapL_tys (h : Avm.H) (n : Nat) (l : List Ty) : snapL (snap h n) (l.map Ty.enc)=some (l.map Ty.enc):=snapL_pure (by simp)
@[simp] theorem frzL_tys (base n : Nat) (l : List Ty) (h : Avm.H) : frzL (frz base n) (l.map Ty.enc) h=some (l.map Ty.enc,h):=frzL_pure (by simp)
@[simp] theorem snapL_its (h : Avm.H) (n : Nat) (l : List It) : snapL (snap h n) (l.map It.enc)=some (l.map It.enc):=snapL_pure (by simp)
@[simp] theorem frzL_its (base n : Nat) (l : List It) (h : Avm.H) : frzL (frz base n) (l.map It.enc) h=some (l.map It.enc,h):=frzL_pure (by simp)
@[simp] theorem snapL_dfs (h : Avm.H) (n : Nat) (l : List Df) : snapL (snap h n) (l.map Df.enc)=some (l.map Df.enc):=snapL_pure (by simp)
@[simp] theorem frzL_dfs (base n : Nat) (l : List Df) (h : Avm.H) : frzL (frz base n) (l.map Df.enc) h=some (l.map Df.enc,h):=frzL_pure (by simp)
theorem Val.henc (l : List Val) : ∀ x ∈ l,x.enc.cells.length=4∧ldc 4 true 0 x.enc.cells=some x.enc:=fun x _=>by simp
theorem Val.hcl (x : Val) : x.cells.length=4∧x.cells.all AV.one=true:=by rw [Val.cells_eq]; simp
theorem Ty.henc (l : List Ty) : ∀ x ∈ l,x.enc.cells.length=8∧ldc 8 true 0 x.enc.cells=some x.enc:=fun x _=>by simp
theorem Ty.hcl (x : Ty) : x.cells.length=8∧x.cells.all AV.one=true:=by rw [Ty.cells_eq]; simp
theorem It.henc (l : List It) : ∀ x ∈ l,x.enc.cells.length=12∧ldc 12 true 0 x.enc.cells=some x.enc:=fun x _=>by simp
theorem It.hcl (x : It) : x.cells.length=12∧x.cells.all AV.one=true:=by rw [It.cells_eq]; simp
mutual
def Val.size : Val→Nat
 | .mk _ _ b l=>Val.sizeL l + b.size + 1
def Val.sizeL : List Val→Nat
 | []=>0
 | x :: r=>x.size + Val.sizeL r
end
mutual
def Ty.size : Ty→Nat
 | .mk _ nm _ _ _ _ its ks=>It.sizeL its + Ty.sizeL ks + nm.size + 1
def It.size : It→Nat
 | .mk nm of _ _ d=>of.size + Val.sizeL d + nm.size + 1
def It.sizeL : List It→Nat
 | []=>0
 | x :: r=>x.size + It.sizeL r
def Ty.sizeL : List Ty→Nat
 | []=>0
 | x :: r=>x.size + Ty.sizeL r
end
theorem Val.size_eq (v : Val) : v.size=Val.sizeL v.items + v.bytes.size + 1:=by cases v; rw [Val.size]; rfl
theorem Ty.size_eq (v : Ty) : v.size=It.sizeL v.items + Ty.sizeL v.kids + v.name.size + 1:=by cases v; rw [Ty.size]; rfl
theorem It.size_eq (v : It) : v.size=v.of.size + Val.sizeL v.dflt + v.name.size + 1:=by cases v; rw [It.size]; rfl
theorem Val.size_pos (v : Val) : 1≤v.size:=by rw [Val.size_eq]; omega
theorem Ty.size_pos (v : Ty) : 1≤v.size:=by rw [Ty.size_eq]; omega
theorem It.size_pos (v : It) : 1≤v.size:=by rw [It.size_eq]; omega
theorem Val.sizeL_mem : ∀ {l : List Val} {x : Val},x ∈ l→x.size≤Val.sizeL l
 | y :: l,x,h=>by
  rw [Val.sizeL]
  rcases List.mem_cons.1 h with rfl | h
  ·omega
  ·have:=Val.sizeL_mem h; omega
theorem Val.len_sizeL : ∀ (l : List Val),l.length≤Val.sizeL l
 | []=>by simp
 | x :: l=>by have:=Val.size_pos x; have:=Val.len_sizeL l; simp only [Val.sizeL,List.length_cons]; omega
theorem Ty.sizeL_mem : ∀ {l : List Ty} {x : Ty},x ∈ l→x.size≤Ty.sizeL l
 | y :: l,x,h=>by
  rw [Ty.sizeL]
  rcases List.mem_cons.1 h with rfl | h
  ·omega
  ·have:=Ty.sizeL_mem h; omega
theorem Ty.len_sizeL : ∀ (l : List Ty),l.length≤Ty.sizeL l
 | []=>by simp
 | x :: l=>by have:=Ty.size_pos x; have:=Ty.len_sizeL l; simp only [Ty.sizeL,List.length_cons]; omega
theorem It.sizeL_mem : ∀ {l : List It} {x : It},x ∈ l→x.size≤It.sizeL l
 | y :: l,x,h=>by
  rw [It.sizeL]
  rcases List.mem_cons.1 h with rfl | h
  ·omega
  ·have:=It.sizeL_mem h; omega
theorem It.len_sizeL : ∀ (l : List It),l.length≤It.sizeL l
 | []=>by simp
 | x :: l=>by have:=It.size_pos x; have:=It.len_sizeL l; simp only [It.sizeL,List.length_cons]; omega
theorem Val.mem_items {v x : Val} (h : x ∈ v.items) : x.size < v.size:=by have:=Val.sizeL_mem h; rw [Val.size_eq v]; omega
theorem Val.len_items (v : Val) : v.items.length < v.size:=by have:=Val.len_sizeL v.items; rw [Val.size_eq v]; omega
theorem Val.bytes_size (v : Val) : v.bytes.size < v.size:=by rw [Val.size_eq v]; omega
theorem Ty.mem_kids {v x : Ty} (h : x ∈ v.kids) : x.size < v.size:=by have:=Ty.sizeL_mem h; rw [Ty.size_eq v]; omega
theorem Ty.mem_items {v : Ty} {x : It} (h : x ∈ v.items) : x.size < v.size:=by have:=It.sizeL_mem h; rw [Ty.size_eq v]; omega
theorem Ty.len_items (v : Ty) : v.items.length < v.size:=by have:=It.len_sizeL v.items; rw [Ty.size_eq v]; omega
theorem It.of_size (x : It) : x.of.size < x.size:=by rw [It.size_eq x]; omega
theorem It.mem_dflt {x : It} {v : Val} (h : v ∈ x.dflt) : v.size < x.size:=by have:=Val.sizeL_mem h; rw [It.size_eq x]; omega
theorem Ty.mem_of {v : Ty} {x : It} (h : x ∈ v.items) : x.of.size < v.size:=Nat.lt_trans x.of_size (Ty.mem_items h)
def maxV : List Val→Nat
 | []=>0
 | x :: r=>max x.size (maxV r)
mutual
def Ty.wid : Ty→Nat
 | .mk _ nm _ _ _ _ its ks=>max (max (max its.length ks.length) nm.size) (max (It.widL its) (Ty.widL ks))
def It.wid : It→Nat
 | .mk nm of _ _ d=>max (max nm.size of.wid) (max d.length (maxV d))
def It.widL : List It→Nat
 | []=>0
 | x :: r=>max x.wid (It.widL r)
def Ty.widL : List Ty→Nat
 | []=>0
 | x :: r=>max x.wid (Ty.widL r)
end
theorem maxV_mem : ∀ {l : List Val} {x : Val},x ∈ l→x.size≤maxV l
 | y :: l,x,h=>by
  rw [maxV]
  rcases List.mem_cons.1 h with rfl | h
  ·omega
  ·have:=maxV_mem h; omega
theorem Ty.widL_mem : ∀ {l : List Ty} {x : Ty},x ∈ l→x.wid≤Ty.widL l
 | y :: l,x,h=>by
  rw [Ty.widL]
  rcases List.mem_cons.1 h with rfl | h
  ·omega
  ·have:=Ty.widL_mem h; omega
theorem It.widL_mem : ∀ {l : List It} {x : It},x ∈ l→x.wid≤It.widL l
 | y :: l,x,h=>by
  rw [It.widL]
  rcases List.mem_cons.1 h with rfl | h
  ·omega
  ·have:=It.widL_mem h; omega
theorem Ty.wid_eq (t : Ty) : t.wid=max (max (max t.items.length t.kids.length) t.name.size) (max (It.widL t.items) (Ty.widL t.kids)):=by cases t; rw [Ty.wid]; rfl
theorem It.wid_eq (t : It) : t.wid=max (max t.name.size t.of.wid) (max t.dflt.length (maxV t.dflt)):=by cases t; rw [It.wid]; rfl
theorem Ty.wid_items (t : Ty) : t.items.length≤t.wid:=by rw [Ty.wid_eq]; omega
theorem Ty.wid_kids (t : Ty) : t.kids.length≤t.wid:=by rw [Ty.wid_eq]; omega
theorem Ty.wid_name (t : Ty) : t.name.size≤t.wid:=by rw [Ty.wid_eq]; omega
theorem Ty.wid_item {t : Ty} {x : It} (h : x ∈ t.items) : x.wid≤t.wid:=by have:=It.widL_mem h; rw [Ty.wid_eq]; omega
theorem Ty.wid_kid {t x : Ty} (h : x ∈ t.kids) : x.wid≤t.wid:=by have:=Ty.widL_mem h; rw [Ty.wid_eq t]; omega
theorem It.wid_of (x : It) : x.of.wid≤x.wid:=by rw [It.wid_eq]; omega
theorem It.wid_name (x : It) : x.name.size≤x.wid:=by rw [It.wid_eq]; omega
theorem It.wid_dflt (x : It) : x.dflt.length≤x.wid:=by rw [It.wid_eq]; omega
theorem It.wid_val {x : It} {v : Val} (h : v ∈ x.dflt) : v.size≤x.wid:=by have:=maxV_mem h; rw [It.wid_eq]; omega
theorem Ty.wid_itof {t : Ty} {x : It} (h : x ∈ t.items) : x.of.wid≤t.wid:=Nat.le_trans x.wid_of (Ty.wid_item h)
theorem maxV_le {n : Nat} : ∀ {l : List Val},(∀ x ∈ l,x.size≤n)→maxV l≤n
 | [],_=>by simp [maxV]
 | x :: l,h=>by have:=h x (by simp); have:=maxV_le (l:=l) fun y hy=>h y (by simp [hy]); simp only [maxV]; omega
theorem It.widL_le {n : Nat} : ∀ {l : List It},(∀ x ∈ l,x.wid≤n)→It.widL l≤n
 | [],_=>by simp [It.widL]
 | x :: l,h=>by have:=h x (by simp); have:=It.widL_le (l:=l) fun y hy=>h y (by simp [hy]); simp only [It.widL]; omega
theorem Ty.widL_le {n : Nat} : ∀ {l : List Ty},(∀ x ∈ l,x.wid≤n)→Ty.widL l≤n
 | [],_=>by simp [Ty.widL]
 | x :: l,h=>by have:=h x (by simp); have:=Ty.widL_le (l:=l) fun y hy=>h y (by simp [hy]); simp only [Ty.widL]; omega
mutual
theorem Ty.wid_le : ∀ t : Ty,t.wid≤t.size
 | .mk _ nm _ _ _ _ its ks=>by
  have h1:=It.len_sizeL its; have h2:=Ty.len_sizeL ks; have h3:=It.widL_size its; have h4:=Ty.widL_size ks
  simp only [Ty.wid,Ty.size]; omega
theorem It.wid_le : ∀ x : It,x.wid≤x.size
 | .mk nm of _ _ d=>by
  have h1:=Ty.wid_le of; have h2:=Val.len_sizeL d
  have h3 : maxV d≤Val.sizeL d:=maxV_le fun x hx=>Val.sizeL_mem hx
  simp only [It.wid,It.size]; omega
theorem It.widL_size : ∀ l : List It,It.widL l≤It.sizeL l
 | []=>by simp [It.widL]
 | x :: l=>by have h1:=It.wid_le x; have h2:=It.widL_size l; simp only [It.widL,It.sizeL]; omega
theorem Ty.widL_size : ∀ l : List Ty,Ty.widL l≤Ty.sizeL l
 | []=>by simp [Ty.widL]
 | x :: l=>by have h1:=Ty.wid_le x; have h2:=Ty.widL_size l; simp only [Ty.widL,Ty.sizeL]; omega
end
def Ty.comp (t : Ty) : Bool:=decide (t.kind=8) || decide (t.kind=9)
def Ty.inner (t : Ty) : List Ty:=t.kids++if t.comp then t.items.map It.of else []
theorem Ty.mem_inner {t x : Ty} (h : x ∈ t.inner) : x.size < t.size:=by
 unfold Ty.inner at h
 rcases List.mem_append.1 h with h | h
 ·exact Ty.mem_kids h
 ·split at h
  ·obtain ⟨i,hi,rfl⟩:=List.mem_map.1 h
   exact Ty.mem_of hi
  ·cases h
theorem Ty.wid_inner {t x : Ty} (h : x ∈ t.inner) : x.wid≤t.wid:=by
 unfold Ty.inner at h
 rcases List.mem_append.1 h with h | h
 ·exact Ty.wid_kid h
 ·split at h
  ·obtain ⟨i,hi,rfl⟩:=List.mem_map.1 h
   exact Ty.wid_itof hi
  ·cases h
def Val.same (v w : Val) : Bool:=decide (v.kind=w.kind) && (decide (v.int=w.int) && (decide (v.bytes.toList=w.bytes.toList) && eqL (fun (x : {x // x ∈ v.items}) y=>x.1.same y) v.items.attach w.items))
termination_by v.size
decreasing_by exact Val.mem_items x.2
theorem Val.same_eq (v w : Val) : v.same w=(decide (v.kind=w.kind) && (decide (v.int=w.int) && (decide (v.bytes.toList=w.bytes.toList) && eqL Val.same v.items w.items))):=by rw [Val.same,att_eqL v.items w.items Val.same]
def Ty.same (t u : Ty) : Bool:=decide (t.kind=u.kind) && (decide (t.name.toList=u.name.toList) && (decide (t.lo=u.lo) && (decide (t.hi=u.hi) && (decide (t.free=u.free) && (decide (t.ext=u.ext) &&
 (eqL (fun (x : {x // x ∈ t.items}) (y : It)=>decide (x.1.name.toList=y.name.toList) && (decide (x.1.opt=y.opt) && (decide (x.1.extra=y.extra) && (x.1.of.same y.of && eqL Val.same x.1.dflt y.dflt)))) t.items.attach u.items &&
  eqL (fun (x : {x // x ∈ t.kids}) (y : Ty)=>x.1.same y) t.kids.attach u.kids))))))
termination_by t.size
decreasing_by
 ·exact Ty.mem_of x.2
 ·exact Ty.mem_kids x.2
def It.same (x y : It) : Bool:=decide (x.name.toList=y.name.toList) && (decide (x.opt=y.opt) && (decide (x.extra=y.extra) && (x.of.same y.of && eqL Val.same x.dflt y.dflt)))
theorem Ty.same_eq (t u : Ty) : t.same u=(decide (t.kind=u.kind) && (decide (t.name.toList=u.name.toList) && (decide (t.lo=u.lo) && (decide (t.hi=u.hi) && (decide (t.free=u.free) && (decide (t.ext=u.ext) && (eqL It.same t.items u.items && eqL Ty.same t.kids u.kids))))))):=by
 rw [Ty.same,att_eqL t.items u.items (fun x y=>decide (x.name.toList=y.name.toList) && (decide (x.opt=y.opt) && (decide (x.extra=y.extra) && (x.of.same y.of && eqL Val.same x.dflt y.dflt)))),att_eqL t.kids u.kids Ty.same]
 rfl
def Ty.allP (p : Ty→Bool) (t : Ty) : Bool:=p t && t.inner.attach.all fun x=>x.1.allP p
termination_by t.size
decreasing_by exact Ty.mem_inner x.2
theorem Ty.allP_eq (p : Ty→Bool) (t : Ty) : t.allP p=(p t && t.inner.all fun x=>x.allP p):=by rw [Ty.allP,att_all t.inner fun x=>x.allP p]
def Ty.nodes (t : Ty) : Nat:=1 + (t.inner.attach.map fun x=>x.1.nodes).sum
termination_by t.size
decreasing_by exact Ty.mem_inner x.2
theorem Ty.nodes_eq (t : Ty) : t.nodes=1 + (t.inner.map Ty.nodes).sum:=by rw [Ty.nodes,att_map t.inner Ty.nodes]
def maxL : List Nat→Nat
 | []=>0
 | x :: l=>max x (maxL l)
def Ty.depth (t : Ty) : Nat:=1 + maxL (t.inner.attach.map fun x=>x.1.depth)
termination_by t.size
decreasing_by exact Ty.mem_inner x.2
theorem Ty.depth_eq (t : Ty) : t.depth=1 + maxL (t.inner.map Ty.depth):=by rw [Ty.depth,att_map t.inner Ty.depth]
def Val.nodes (v : Val) : Nat:=1 + (v.items.attach.map fun x=>x.1.nodes).sum
termination_by v.size
decreasing_by exact Val.mem_items x.2
theorem sum_mem {α : Type} {f : α→Nat} : ∀ {l : List α} {x : α},x ∈ l→f x≤(l.map f).sum
 | y :: l,x,h=>by
  simp only [List.map_cons,List.sum_cons]
  rcases List.mem_cons.1 h with rfl | h
  ·omega
  ·have:=sum_mem (f:=f) h; omega
theorem sum_take {α : Type} (f : α→Nat) : ∀ (l : List α) (i : Nat),((l.take i).map f).sum≤(l.map f).sum
 | [],i=>by simp
 | x :: l,0=>by simp
 | x :: l,i + 1=>by have:=sum_take f l i; simp only [List.take_succ_cons,List.map_cons,List.sum_cons]; omega
theorem maxL_sum {α : Type} {f g : α→Nat} : ∀ (l : List α),(∀ x ∈ l,f x≤g x)→maxL (l.map f)≤(l.map g).sum
 | [],_=>by simp [maxL]
 | x :: l,h=>by have:=h x (by simp); have:=maxL_sum (f:=f) (g:=g) l fun y hy=>h y (by simp [hy]); simp only [List.map_cons,maxL,List.sum_cons]; omega
theorem sum_le {α : Type} {f g : α→Nat} : ∀ (l : List α),(∀ x ∈ l,f x≤g x)→(l.map f).sum≤(l.map g).sum
 | [],_=>by simp
 | x :: l,h=>by have:=h x (by simp); have:=sum_le (f:=f) (g:=g) l fun y hy=>h y (by simp [hy]); simp only [List.map_cons,List.sum_cons]; omega
theorem maxL_snoc : ∀ (l : List Nat) (x : Nat),maxL (l++[x])=max (maxL l) x
 | [],x=>by simp [maxL]
 | y :: l,x=>by simp only [List.cons_append,maxL,maxL_snoc l x]; omega
theorem Ty.nodes_pos (t : Ty) : 1≤t.nodes:=by rw [Ty.nodes_eq]; omega
theorem Ty.nodes_inner {t x : Ty} (h : x ∈ t.inner) : x.nodes < t.nodes:=by have:=sum_mem (f:=Ty.nodes) h; rw [Ty.nodes_eq t]; omega
theorem Ty.len_inner (t : Ty) : t.inner.length < t.nodes:=by
 have : ∀ l : List Ty,l.length≤(l.map Ty.nodes).sum:=fun l=>by
  induction l with
  | nil=>simp
  | cons x l ih=>have:=x.nodes_pos; simp; omega
 have:=this t.inner
 rw [Ty.nodes_eq]; omega
theorem Val.nodes_eq (v : Val) : v.nodes=1 + (v.items.map Val.nodes).sum:=by rw [Val.nodes,att_map v.items Val.nodes]
def Val.depth (v : Val) : Nat:=1 + maxL (v.items.attach.map fun x=>x.1.depth)
termination_by v.size
decreasing_by exact Val.mem_items x.2
theorem Val.depth_eq (v : Val) : v.depth=1 + maxL (v.items.map Val.depth):=by rw [Val.depth,att_map v.items Val.depth]
theorem Ty.depth_le : ∀ (n : Nat) (t : Ty),t.size≤n→t.depth≤t.nodes
 | 0,t,h=>by have:=t.size_pos; omega
 | n + 1,t,h=>by
  rw [Ty.depth_eq,Ty.nodes_eq]
  have:=maxL_sum (f:=Ty.depth) (g:=Ty.nodes) t.inner fun x hx=>Ty.depth_le n x (by have:=Ty.mem_inner hx; omega)
  omega
theorem Ty.sizeL_sum : ∀ l : List Ty,(l.map Ty.size).sum=Ty.sizeL l
 | []=>rfl
 | x :: l=>by simp [Ty.sizeL,Ty.sizeL_sum l]
theorem Ty.sizeI_sum : ∀ l : List It,((l.map It.of).map Ty.size).sum≤It.sizeL l
 | []=>by simp
 | x :: l=>by have:=Ty.sizeI_sum l; have:=x.of_size; simp only [List.map_cons,List.sum_cons,It.sizeL]; omega
theorem Ty.size_inner (t : Ty) : (t.inner.map Ty.size).sum < t.size:=by
 have h1:=Ty.sizeL_sum t.kids
 have h2:=Ty.sizeI_sum t.items
 rw [Ty.size_eq]
 unfold Ty.inner
 rw [List.map_append,List.sum_append]
 split <;> simp at * <;> omega
theorem Ty.nodes_le : ∀ (n : Nat) (t : Ty),t.size≤n→t.nodes≤t.size
 | 0,t,h=>by have:=t.size_pos; omega
 | n + 1,t,h=>by
  rw [Ty.nodes_eq]
  have h1:=sum_le (f:=Ty.nodes) (g:=Ty.size) t.inner fun x hx=>Ty.nodes_le n x (by have:=Ty.mem_inner hx; omega)
  have:=t.size_inner
  omega
theorem Val.nodes_pos (t : Val) : 1≤t.nodes:=by rw [Val.nodes_eq]; omega
theorem Val.sizeL_sum : ∀ l : List Val,(l.map Val.size).sum=Val.sizeL l
 | []=>rfl
 | x :: l=>by simp [Val.sizeL,Val.sizeL_sum l]
theorem Val.nodes_le : ∀ (n : Nat) (t : Val),t.size≤n→t.nodes≤t.size
 | 0,t,h=>by have:=t.size_pos; omega
 | n + 1,t,h=>by
  rw [Val.nodes_eq,Val.size_eq]
  have h1:=sum_le (f:=Val.nodes) (g:=Val.size) t.items fun x hx=>Val.nodes_le n x (by have:=Val.mem_items hx; omega)
  rw [Val.sizeL_sum] at h1
  omega
theorem Val.depth_le : ∀ (n : Nat) (t : Val),t.size≤n→t.depth≤t.nodes
 | 0,t,h=>by have:=t.size_pos; omega
 | n + 1,t,h=>by
  rw [Val.depth_eq,Val.nodes_eq]
  have:=maxL_sum (f:=Val.depth) (g:=Val.nodes) t.items fun x hx=>Val.depth_le n x (by have:=Val.mem_items hx; omega)
  omega
end Go.Proofs.YtflbneepngjglaaGreatDoor
namespace Go.Proofs.YtflbneepngjglaaGreatDoor
open Go Go.Avm
theorem still_snap {g : FuncId} (h : cfg.pol g=some .snap) : Still cfg g:=.inl h
theorem eqFuncV_ok (l m : List Val) (hlen : l.length≤67108864) (hl : ∀ x ∈ l,∀ y ws h,callL cfg ws 17 [x.enc,y.enc] h=some (.bool (x.same y),h)) (ws : Nat) (h : Avm.H) :
    callL cfg ws 46 [.isl (l.map Val.enc),.isl (m.map Val.enc),.clos 17 0 []] h=some (.bool (eqL Val.same l m),h):=
 equalFunc_gen (cl:=Val.cells) (sz:=4) (zs:=[.int .i64 0,.int .i64 0,.str ⟨#[]⟩,.isl []]) rfl rfl hlen (pureL_vals l) (pureL_vals m) Val.hcl rfl rfl (.inl rfl) (fun x hx y _ ws h=>hl x hx y ws h) ws h
theorem same_ok : ∀ (n : Nat) (v w : Val),v.size≤n→v.size≤67108864→∀ ws h,callL cfg ws 17 [v.enc,w.enc] h=some (.bool (v.same w),h)
 | 0,v,_,hv,_,_,_=>by have:=v.size_pos; omega
 | n + 1,v,w,hv,hb,ws,h=>by
  have hlen:=v.len_items
  have heq:=fun h'=>eqFuncV_ok v.items w.items (by omega) (fun x hx y ws h=>by
   have:=Val.mem_items hx
   exact same_ok n x y (by omega) (by omega) ws h) h.length h'
  refine callL_fn rfl rfl ?_
  rw [Val.same_eq]
  simp [F17,c17,heq,Bool.and_assoc]
theorem eqFuncI_ok (l m : List It) (hlen : l.length≤67108864) (hl : ∀ x ∈ l,∀ y ws h,callL cfg ws 213 [x.enc,y.enc] h=some (.bool (x.same y),h)) (ws : Nat) (h : Avm.H) :
    callL cfg ws 212 [.isl (l.map It.enc),.isl (m.map It.enc),.clos 213 0 []] h=some (.bool (eqL It.same l m),h):=
 equalFunc_gen (cl:=It.cells) (sz:=12) (zs:=[.str ⟨#[]⟩,.int .i64 0,.str ⟨#[]⟩,.int .i64 0,.int .i64 0,.bool false,.bool false,.isl [],.isl [],.bool false,.bool false,.isl []]) rfl rfl hlen (pureL_its l) (pureL_its m) It.hcl rfl rfl (.inl rfl) (fun x hx y _ ws h=>hl x hx y ws h) ws h
theorem eqFuncT_ok (l m : List Ty) (hlen : l.length≤67108864) (hl : ∀ x ∈ l,∀ y ws h,callL cfg ws 133 [x.enc,y.enc] h=some (.bool (x.same y),h)) (ws : Nat) (h : Avm.H) :
    callL cfg ws 214 [.isl (l.map Ty.enc),.isl (m.map Ty.enc),.clos 133 0 []] h=some (.bool (eqL Ty.same l m),h):=
 equalFunc_gen (cl:=Ty.cells) (sz:=8) (zs:=[.int .i64 0,.str ⟨#[]⟩,.int .i64 0,.int .i64 0,.bool false,.bool false,.isl [],.isl []]) rfl rfl hlen (pureL_tys l) (pureL_tys m) Ty.hcl rfl rfl (.inl rfl) (fun x hx y _ ws h=>hl x hx y ws h) ws h
theorem sameType_both : ∀ (n : Nat),(∀ (t u : Ty),t.size≤n→t.wid≤67108864→∀ ws h,callL cfg ws 133 [t.enc,u.enc] h=some (.bool (t.same u),h)) ∧
    (∀ (t u : It),t.size≤n→t.wid≤67108864→∀ ws h,callL cfg ws 213 [t.enc,u.enc] h=some (.bool (t.same u),h))
 | 0=>⟨fun t _ ht _ _ _=>(by have:=t.size_pos; omega),fun t _ ht _ _ _=>(by have:=t.size_pos; omega)⟩
 | n + 1=>by
  obtain ⟨ih1,ih2⟩:=sameType_both n
  refine ⟨fun t u ht hb ws h=>?_,fun t u ht hb ws h=>?_⟩
  ·have hl1:=t.wid_items
   have hl2:=t.wid_kids
   have e1:=fun h'=>eqFuncI_ok t.items u.items (by omega) (fun x hx y ws h=>by
    have:=Ty.mem_items hx
    have:=Ty.wid_item hx
    exact ih2 x y (by omega) (by omega) ws h) h.length h'
   have e2:=fun h'=>eqFuncT_ok t.kids u.kids (by omega) (fun x hx y ws h=>by
    have:=Ty.mem_kids hx
    have:=Ty.wid_kid hx
    exact ih1 x y (by omega) (by omega) ws h) h.length h'
   refine callL_fn rfl rfl ?_
   rw [Ty.same_eq]
   simp [F133,c133,e1,e2,Bool.and_assoc]
  ·have hl1:=t.wid_dflt
   have hof:=t.wid_of
   have:=t.of_size
   have e1:=fun h'=>ih1 t.of u.of (by omega) (by omega) h.length h'
   have e2:=fun h'=>eqFuncV_ok t.dflt u.dflt (by omega) (fun x hx y ws h=>by
    have:=It.wid_val hx
    exact same_ok _ x y (Nat.le_refl _) (by omega) ws h) h.length h'
   simp only [Ty.enc_eq] at e1
   refine callL_fn rfl rfl ?_
   unfold It.same
   simp [F213,c213,e1,e2,Bool.and_assoc]
theorem sameType_ok (t u : Ty) (ht : t.wid≤67108864) (ws : Nat) (h : Avm.H) : callL cfg ws 133 [t.enc,u.enc] h=some (.bool (t.same u),h):=(sameType_both _).1 t u (Nat.le_refl _) ht ws h
end Go.Proofs.YtflbneepngjglaaGreatDoor
