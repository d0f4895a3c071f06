/- What the listed variables give. -/
import Derived.Test.YteihdlcpfghmhaaGreatDoorRows
import Derived.Test.YteihdlcpfghmhaaGreatDoorM27
import Derived.Test.YteihdlcpfghmhaaGreatDoorM32
import Derived.WalkKit
import Derived.ProofKit
import Derived.OpenShut
import Derived.Deep.DeepHandedRow
import Derived.Lib.LaidTab
import Derived.Stop.LaidErr
import Derived.LaidSub
set_option linter.all false
namespace Go.Proofs.YteihdlcpfghmhaaGreatDoor
open Go Go.Avm Go.RowKit Go.ChangeShapes Go.WideShapes Go.ChangeAt
theorem vals_of : ∀ (els : List AV),(∀ x ∈ els,∃ v : Val,x=v.enc∧v.size≤x.bulk)→∃ l : List Val,els=l.map Val.enc∧Val.sizeL l≤bulkL els
 | [],_=>⟨[],rfl,by simp [Val.sizeL]⟩
 | x :: r,h=>by
  obtain ⟨v,h1,h2⟩:=h x (by simp)
  obtain ⟨l,h3,h4⟩:=vals_of r fun y hy=>h y (by simp [hy])
  exact ⟨v :: l,by rw [List.map_cons,← h1,← h3],by simp only [Val.sizeL,bulkL]; omega⟩
set_option maxRecDepth 100000 in
theorem val_of : ∀ (n f : Nat) (l : List AV),f≤n→hasTy Tryz.prog f 31 l→∃ v : Val,AV.agg l=v.enc∧v.size≤(AV.agg l).bulk
 | 0,f,l,hf,h=>by
  have : f=0:=by omega
  subst this; cases h
 | n + 1,f,l,hf,h=>by
  have hag : aggT Tryz.prog 31=true:=by simp [aggT,Tryz.underlying31]
  have h1:=hasTy_struct Tryz.underlying31 (by kernel_rfl) h
  obtain ⟨y1,z1,rfl,k1,y2,z2,rfl,k2,y3,z3,rfl,k3,y4,z4,rfl,k4,rfl⟩:=h1
  obtain ⟨k,rfl,_⟩:=hasTy_int Tryz.underlying3 k1
  obtain ⟨i,rfl,_⟩:=hasTy_int Tryz.underlying3 k2
  obtain ⟨b,rfl⟩:=hasTy_str Tryz.underlying9 k3
  obtain ⟨els,rfl,he⟩:=hasTy_slice Tryz.underlying29 (by decide +kernel) k4
  obtain ⟨r,rfl,hr⟩:=vals_of els fun x hx=>by
   obtain ⟨l,rfl,hl⟩:=he x hx
   rw [hag]
   refine val_of n _ l ?_ hl
   have : f ≠ 0:=fun e=>by subst e; cases h
   omega
  refine ⟨.mk k i b r,by simp,?_⟩
  simp [AV.bulk,bulkL,Val.size]
  omega
theorem bulkOk (H : Type) : BulkOk (H:=H) Rows.uptoBulk Rows.uptoBulkAll where
 one:=fun d=>by
  cases d with
  | lit l=>cases l <;> simp [Rows.uptoBulk]
  | _=>simp [Rows.uptoBulk]
 str:=fun l=>by simp [Rows.uptoBulk]
 ptr:=fun d=>by simp [Rows.uptoBulk]
 slice:=fun es sp=>by simp only [Rows.uptoBulk]; omega
 agg:=fun ps=>by simp [Rows.uptoBulk]
 cons:=fun d r=>by simp [Rows.uptoBulkAll]
theorem own : ownKnob Tryz.prog.godebug=none:=by kernel_rfl
mutual
def flatD : DataW Unit→List Value
 | .lit (.int k n)=>[.int k n]
 | .agg l=>flatDL l
 | _=>[]
def flatDL : List (DataW Unit)→List Value
 | []=>[]
 | d :: r=>flatD d++flatDL r
end
def layAs (cs : Array Value) : Obj→Obj
 | .cells _ t frozen=>.cells cs t frozen
 | o=>o
noncomputable def low : Nat:=(World.holding Tryz.prog default ⟨#[],#[],[]⟩).heap.size
noncomputable def laidWorld (os : Os) : World:=
 let w0:=World.holding Tryz.prog os ⟨#[.cells #[.string ⟨#[118,97,108,117,101,32,111,117,116,32,111,102,32,114,97,110,103,101]⟩] 182,.cells #[.string ⟨#[105,110,118,97,108,105,100,32,115,121,110,116,97,120]⟩] 182],#[],[]⟩
 { w0 with heap:=((((((w0.heap.modify 0 (layAs #[.iface 180 (.pointer (some ⟨low + 1,0,none⟩))])).modify 1 (layAs #[.iface 180 (.pointer (some ⟨low,0,none⟩))])).modify 3 (layAs (flatD Rows.laid_unicode_utf8_first).toArray)).modify 4 (layAs (flatD Rows.laid_unicode_utf8_acceptRanges).toArray)).modify 5 (layAs (flatD Rows.laid_internal_strconv_uint64pow10).toArray)).modify 6 (layAs (flatD Rows.laid_math_bits_deBruijn32tab).toArray)).modify 7 (layAs (flatD Rows.laid_math_bits_deBruijn64tab).toArray) }
theorem its_of : ∀ (els : List AV),(∀ x ∈ els,∃ v : It,x=v.enc∧v.size≤x.bulk)→∃ l : List It,els=l.map It.enc∧It.sizeL l≤bulkL els
 | [],_=>⟨[],rfl,by simp [It.sizeL]⟩
 | x :: r,h=>by
  obtain ⟨v,h1,h2⟩:=h x (by simp)
  obtain ⟨l,h3,h4⟩:=its_of r fun y hy=>h y (by simp [hy])
  exact ⟨v :: l,by rw [List.map_cons,← h1,← h3],by simp only [It.sizeL,bulkL]; omega⟩
theorem tys_of : ∀ (els : List AV),(∀ x ∈ els,∃ v : Ty,x=v.enc∧v.size≤x.bulk)→∃ l : List Ty,els=l.map Ty.enc∧Ty.sizeL l≤bulkL els
 | [],_=>⟨[],rfl,by simp [Ty.sizeL]⟩
 | x :: r,h=>by
  obtain ⟨v,h1,h2⟩:=h x (by simp)
  obtain ⟨l,h3,h4⟩:=tys_of r fun y hy=>h y (by simp [hy])
  exact ⟨v :: l,by rw [List.map_cons,← h1,← h3],by simp only [Ty.sizeL,bulkL]; omega⟩
theorem bulkL_app : ∀ (a b : List AV),bulkL (a++b)=bulkL a + bulkL b
 | [],b=>by simp [bulkL]
 | x :: a,b=>by simp only [List.cons_append,bulkL,bulkL_app a b]; omega
set_option maxRecDepth 100000 in
theorem ty_of : ∀ (n f : Nat) (l : List AV),f≤n→hasTy Tryz.prog f 28 l→∃ t : Ty,l=t.cells∧t.size≤bulkL l + 1
 | 0,f,l,hf,h=>by
  have : f=0:=by omega
  subst this; cases h
 | n + 1,f,l,hf,h=>by
  have h0 : f ≠ 0:=fun e=>by subst e; cases h
  have hagT : aggT Tryz.prog 28=true:=by simp [aggT,Tryz.underlying28]
  have hagI : aggT Tryz.prog 50=true:=by simp [aggT,Tryz.underlying50]
  have hagV : aggT Tryz.prog 31=true:=by simp [aggT,Tryz.underlying31]
  have h1:=hasTy_struct Tryz.underlying28 (by kernel_rfl) h
  obtain ⟨y1,z1,rfl,k1,y2,z2,rfl,k2,y3,z3,rfl,k3,y4,z4,rfl,k4,y5,z5,rfl,k5,y6,z6,rfl,k6,y7,z7,rfl,k7,y8,z8,rfl,k8,rfl⟩:=h1
  obtain ⟨k,rfl,_⟩:=hasTy_int Tryz.underlying3 k1
  obtain ⟨nm,rfl⟩:=hasTy_str Tryz.underlying9 k2
  obtain ⟨lo,rfl,_⟩:=hasTy_int Tryz.underlying3 k3
  obtain ⟨hi,rfl,_⟩:=hasTy_int Tryz.underlying3 k4
  obtain ⟨fr,rfl⟩:=hasTy_bool Tryz.underlying4 k5
  obtain ⟨ex,rfl⟩:=hasTy_bool Tryz.underlying4 k6
  obtain ⟨e7,rfl,he7⟩:=hasTy_slice Tryz.underlying25 (by decide +kernel) k7
  obtain ⟨e8,rfl,he8⟩:=hasTy_slice Tryz.underlying26 (by decide +kernel) k8
  obtain ⟨its,rfl,hits⟩:=its_of e7 fun x hx=>by
   obtain ⟨l,rfl,hl⟩:=he7 x hx
   rw [hagI]
   have g1:=hasTy_struct Tryz.underlying50 (by kernel_rfl) hl
   obtain ⟨y1,z1,rfl,k1,y2,z2,rfl,k2,y3,z3,rfl,k3,y4,z4,rfl,k4,y5,z5,rfl,k5,rfl⟩:=g1
   obtain ⟨nm,rfl⟩:=hasTy_str Tryz.underlying9 k1
   obtain ⟨of,rfl,hof⟩:=ty_of n _ _ (by omega) k2
   obtain ⟨o,rfl⟩:=hasTy_bool Tryz.underlying4 k3
   obtain ⟨x,rfl⟩:=hasTy_bool Tryz.underlying4 k4
   obtain ⟨els,rfl,he⟩:=hasTy_slice Tryz.underlying29 (by decide +kernel) k5
   obtain ⟨d,rfl,hd⟩:=vals_of els fun x hx=>by
    obtain ⟨l,rfl,hl⟩:=he x hx
    rw [hagV]
    exact val_of _ _ l (Nat.le_refl _) hl
   refine ⟨.mk nm of o x d,by simp [It.enc,It.cells,ofCells],?_⟩
   simp [AV.bulk,bulkL,bulkL_app,It.size,ofCells]
   omega
  obtain ⟨ks,rfl,hks⟩:=tys_of e8 fun x hx=>by
   obtain ⟨l,rfl,hl⟩:=he8 x hx
   rw [hagT]
   obtain ⟨t,rfl,ht⟩:=ty_of n _ l (by omega) hl
   exact ⟨t,rfl,by simp [ofCells,AV.bulk]; omega⟩
  refine ⟨.mk k nm lo hi fr ex its ks,by simp [Ty.cells,It.encL_map,Ty.encL_map],?_⟩
  simp [AV.bulk,bulkL,Ty.size]
  omega
theorem bulkL_mem : ∀ {els : List AV} {x : AV},x ∈ els→x.bulk≤bulkL els
 | [],x,h=>by cases h
 | y :: els,x,h=>by
  simp only [bulkL]
  rcases List.mem_cons.1 h with rfl | h
  ·omega
  ·have:=bulkL_mem h; omega
theorem bulk_strs : ∀ l : List ByteArray,l.length≤bulkL (l.map .str)∧∀ s ∈ l,s.size≤bulkL (l.map .str)
 | []=>⟨Nat.zero_le _,fun _ h=>by cases h⟩
 | x :: l=>by
  obtain ⟨h1,h2⟩:=bulk_strs l
  simp only [List.map_cons,bulkL,AV.bulk,List.length_cons,List.mem_cons]
  refine ⟨by omega,fun s hs=>?_⟩
  rcases hs with rfl | hs
  ·omega
  ·have:=h2 s hs; omega
set_option maxRecDepth 100000 in
theorem df_of {f : Nat} {l : List AV} (h : hasTy Tryz.prog f 66 l) : ∃ d : Df,AV.agg l=d.enc∧(∀ n,(AV.agg l).bulk≤n→d.params.length≤n∧(∀ p ∈ d.params,p.size≤n)∧d.name.size≤n∧d.of.size≤n):=by
 have h1:=hasTy_struct Tryz.underlying66 (by kernel_rfl) h
 obtain ⟨y1,z1,rfl,k1,y2,z2,rfl,k2,y3,z3,rfl,k3,rfl⟩:=h1
 obtain ⟨b1,rfl⟩:=hasTy_str Tryz.underlying9 k1
 obtain ⟨ps,rfl⟩:=hasTy_strs Tryz.underlying32 Tryz.underlying9 (by decide +kernel) k2
 obtain ⟨t,rfl,ht⟩:=ty_of _ _ _ (Nat.le_refl _) k3
 obtain ⟨hp1,hp2⟩:=bulk_strs ps
 refine ⟨⟨b1,ps,t⟩,by simp [Df.enc,Df.cells,Ty.cells_eq],fun n hn=>?_⟩
 simp only [AV.bulk,bulkL,bulkL_app,List.cons_append,List.nil_append,List.append_nil] at hn
 refine ⟨?_,fun p hp=>?_,?_,?_⟩
 ·dsimp only; omega
 ·have:=hp2 p hp; omega
 ·dsimp only; omega
 ·dsimp only; omega
theorem dfs_of : ∀ (els : List AV),(∀ x ∈ els,∃ d : Df,x=d.enc∧(∀ n,x.bulk≤n→d.params.length≤n∧(∀ p ∈ d.params,p.size≤n)∧d.name.size≤n∧d.of.size≤n))→∃ l : List Df,els=l.map Df.enc∧l.length≤bulkL els∧∀ d ∈ l,∀ n,bulkL els≤n→d.params.length≤n∧(∀ p ∈ d.params,p.size≤n)∧d.name.size≤n∧d.of.size≤n
 | [],_=>⟨[],rfl,Nat.zero_le _,fun _ h=>by cases h⟩
 | x :: r,h=>by
  obtain ⟨v,h1,h2⟩:=h x (by simp)
  obtain ⟨l,h3,h4,h5⟩:=dfs_of r fun y hy=>h y (by simp [hy])
  have hp : 1≤x.bulk:=by rw [h1]; simp [AV.bulk]
  refine ⟨v :: l,by rw [List.map_cons,← h1,← h3],by simp only [bulkL,List.length_cons]; omega,fun d hd n hn=>?_⟩
  simp only [bulkL] at hn
  rcases List.mem_cons.1 hd with rfl | hd
  ·exact h2 n (by omega)
  ·exact h5 d hd n (by omega)
set_option maxRecDepth 100000 in
theorem md_of {f : Nat} {l : List AV} (h : hasTy Tryz.prog f 24 l) (hn : bulkL l≤1048576) : ∃ m : Md,AV.agg l=m.enc∧m.ok:=by
 have h1:=hasTy_struct Tryz.underlying24 (by kernel_rfl) h
 obtain ⟨y1,z1,rfl,k1,y2,z2,rfl,k2,rfl⟩:=h1
 obtain ⟨b1,rfl⟩:=hasTy_str Tryz.underlying9 k1
 obtain ⟨els,rfl,he⟩:=hasTy_slice Tryz.underlying22 (by decide +kernel) k2
 have hag : aggT Tryz.prog 66=true:=by simp [aggT,Tryz.underlying66]
 obtain ⟨r,hr,hlen,hbs⟩:=dfs_of els fun y hy=>by
  obtain ⟨l,rfl,hl⟩:=he y hy
  rw [hag]
  obtain ⟨d,h1,h2⟩:=df_of hl
  exact ⟨d,h1,h2⟩
 subst hr
 have hb : b1.size≤1048576∧bulkL (r.map Df.enc)≤1048576:=by
  simp only [AV.bulk,bulkL,List.cons_append,List.nil_append] at hn
  omega
 exact ⟨⟨b1,r⟩,by simp [Md.enc],hb.1,by dsimp only; omega,fun d hd=>(hbs d hd _ hb.2).1,fun d hd=>(hbs d hd _ hb.2).2.1,fun d hd=>(hbs d hd _ hb.2).2.2.1,fun d hd=>(hbs d hd _ hb.2).2.2.2⟩
end Go.Proofs.YteihdlcpfghmhaaGreatDoor
namespace Go.Proofs.YteihdlcpfghmhaaGreatDoor
open Go Go.RowKit
theorem star : "*"++"errors.errorString" = "*errors.errorString":=by decide
theorem rowES (u : TypeId) (h : Tryz.prog.typeName? 3 u=some "*errors.errorString") : u=180:=
 typeName_ptr_named (nm:="errors.errorString") (by rw [star]; kernel_rfl) (by kernel_rfl) (by decide) u (by rw [star]; exact h)
def listed : List (String × DataW Unit):=[("math/bits.deBruijn32tab",Rows.laid_math_bits_deBruijn32tab),("math/bits.deBruijn64tab",Rows.laid_math_bits_deBruijn64tab),("internal/strconv.uint64pow10",Rows.laid_internal_strconv_uint64pow10),("unicode/utf8.acceptRanges",Rows.laid_unicode_utf8_acceptRanges),("strconv.ErrRange",Rows.laid_strconv_ErrRange),("strconv.ErrSyntax",Rows.laid_strconv_ErrSyntax),("unicode/utf8.first",Rows.laid_unicode_utf8_first)]
theorem no_handles : (listed.filter fun x=>x.2.handleName?.isSome)=[]:=by kernel_rfl
theorem laid_facts {W : World} (h : laidMetH Tryz.prog listed W) : Lib.TabIs Tryz.prog W "internal/strconv.uint64pow10" .u64 Lib.pow10Tab∧∃ tp p,W.var? Tryz.prog "strconv.ErrRange" = some #[.iface tp p]:=by
 unfold laidMetH at h
 rw [no_handles] at h
 have hL : laidMet Tryz.prog listed W:=h
 unfold listed at hL
 refine ⟨Lib.tabIs_of_head (zs:=Lib.pow10Tab) (g:=5) (t:=184) (e:=156) (n:=20) (by kernel_rfl) (by kernel_rfl) (by kernel_rfl) (by kernel_rfl) (by kernel_rfl) (by kernel_rfl) hL.tail.tail,?_⟩
 obtain ⟨a1,s1,hv1,-,-,-⟩:=laid_sentinel (g:=1) (ti:=90) (tp:=180) (te:=182) (ts:=9) hL.tail.tail.tail.tail (by kernel_rfl) (by kernel_rfl) Tryz.underlying90 rowES (by kernel_rfl) Tryz.underlying182 rfl rfl (by kernel_rfl) (by kernel_rfl) (by kernel_rfl)
 exact ⟨_,_,hv1⟩
end Go.Proofs.YteihdlcpfghmhaaGreatDoor
