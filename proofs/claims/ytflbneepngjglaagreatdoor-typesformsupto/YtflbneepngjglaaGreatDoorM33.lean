/- References that name something, items that differ in name: the reference's way. -/
import Derived.Test.YtflbneepngjglaaGreatDoorRows
import Derived.Test.YtflbneepngjglaaGreatDoorM29
import Derived.Test.YtflbneepngjglaaGreatDoorM32
import Derived.WalkKit
import Derived.ProofKit
import Derived.OpenShut
import Derived.Deep.DeepHandedRow
import Derived.Lib.LaidTab
import Derived.Test.YtflbneepngjglaaGreatDoorCards
import Derived.Test.YtflbneepngjglaaGreatDoorTie
set_option linter.all false
namespace Go.Proofs.YtflbneepngjglaaGreatDoor
open Go Go.Avm Go.RowKit Go.ChangeShapes Go.WideShapes Go.ChangeAt
theorem vals_of : ∀ (els : List AV),(∀ x ∈ els,∃ v : Val,x=v.enc/\v.size<=x.bulk)->∃ l : List Val,els=l.map Val.enc/\Val.QM l<=QG els
 | [],_=>⟨[],rfl,by simp [Val.QM]⟩
 | x :: r,h=>by
  obtain ⟨v,h1,h2⟩:=h x (by simp)
  obtain ⟨l,h3,h4⟩:=vals_of r fun y hy=>h y (by simp [hy])
  exact ⟨v :: l,by rw [List.map_cons,← h1,← h3],by simp only [Val.QM,QG]; omega⟩
set_option maxRecDepth 100000 in
theorem val_of : ∀ (n f : Nat) (l : List AV),f<=n->Xi Tryz.prog f 31 l->∃ v : Val,AV.agg l=v.enc/\v.size<=(AV.agg l).bulk
 | 0,f,l,hf,h=>by
  have : f=0:=by omega
  subst this; cases h
 | n + 1,f,l,hf,h=>by
  have hag : XK Tryz.prog 31=true:=by simp [XK,Tryz.underlying31]
  have h1:=hasTy_struct Tryz.underlying31 (by kernel_rfl) h
  obtain ⟨y1,z1,rfl,k1,y2,z2,rfl,k2,y3,z3,rfl,k3,y4,z4,rfl,k4,rfl⟩:=h1
  obtain ⟨k,rfl,_⟩:=hasTy_int Tryz.underlying3 k1
  obtain ⟨i,rfl,_⟩:=hasTy_int Tryz.underlying3 k2
  obtain ⟨b,rfl⟩:=hasTy_str Tryz.underlying9 k3
  obtain ⟨els,rfl,he⟩:=hasTy_slice Tryz.underlying29 (by decide +kernel) k4
  obtain ⟨r,rfl,hr⟩:=vals_of els fun x hx=>by
   obtain ⟨l,rfl,hl⟩:=he x hx
   rw [hag]
   refine val_of n _ l ?_ hl
   have : f ≠ 0:=fun e=>by subst e; cases h
   omega
  refine ⟨.mk k i b r,by simp,?_⟩
  simp [AV.bulk,QG,Val.size]
  omega
theorem bulkOk (H : Type) : BulkOk (H:=H) Rows.uptoBulk Rows.uptoBulkAll where
 one:=fun d=>by
  cases d with
  | lit l=>cases l <;> simp [Rows.uptoBulk]
  | _=>simp [Rows.uptoBulk]
 str:=fun l=>by simp [Rows.uptoBulk]
 ptr:=fun d=>by simp [Rows.uptoBulk]
 slice:=fun es sp=>by simp only [Rows.uptoBulk]; omega
 agg:=fun ps=>by simp [Rows.uptoBulk]
 cons:=fun d r=>by simp [Rows.uptoBulkAll]
theorem own : ownKnob Tryz.prog.godebug=none:=by kernel_rfl
mutual
def flatD : DataW Unit->List Value
 | .lit (.int k n)=>[.int k n]
 | .agg l=>flatDL l
 | _=>[]
def flatDL : List (DataW Unit)->List Value
 | []=>[]
 | d :: r=>flatD d++flatDL r
end
def layAs (cs : Array Value) : Obj->Obj
 | .cells _ t frozen=>.cells cs t frozen
 | o=>o
noncomputable def laidWorld (os : Os) : World:=
 { World.holding Tryz.prog os ⟨#[],#[],[]⟩ with heap:=((World.holding Tryz.prog os ⟨#[],#[],[]⟩).heap.modify 1 (layAs (flatD Rows.laid_unicode_utf8_first).toArray)).modify 2 (layAs (flatD Rows.laid_unicode_utf8_acceptRanges).toArray) }
theorem its_of : ∀ (els : List AV),(∀ x ∈ els,∃ v : It,x=v.enc/\v.size<=x.bulk)->∃ l : List It,els=l.map It.enc/\It.QM l<=QG els
 | [],_=>⟨[],rfl,by simp [It.QM]⟩
 | x :: r,h=>by
  obtain ⟨v,h1,h2⟩:=h x (by simp)
  obtain ⟨l,h3,h4⟩:=its_of r fun y hy=>h y (by simp [hy])
  exact ⟨v :: l,by rw [List.map_cons,← h1,← h3],by simp only [It.QM,QG]; omega⟩
theorem tys_of : ∀ (els : List AV),(∀ x ∈ els,∃ v : Ty,x=v.enc/\v.size<=x.bulk)->∃ l : List Ty,els=l.map Ty.enc/\Ty.QM l<=QG els
 | [],_=>⟨[],rfl,by simp [Ty.QM]⟩
 | x :: r,h=>by
  obtain ⟨v,h1,h2⟩:=h x (by simp)
  obtain ⟨l,h3,h4⟩:=tys_of r fun y hy=>h y (by simp [hy])
  exact ⟨v :: l,by rw [List.map_cons,← h1,← h3],by simp only [Ty.QM,QG]; omega⟩
theorem bulkL_app : ∀ (a b : List AV),QG (a++b)=QG a + QG b
 | [],b=>by simp [QG]
 | x :: a,b=>by simp only [List.cons_append,QG,bulkL_app a b]; omega
set_option maxRecDepth 100000 in
theorem ty_of : ∀ (n f : Nat) (l : List AV),f<=n->Xi Tryz.prog f 28 l->∃ t : Ty,l=t.cells/\t.size<=QG l + 1
 | 0,f,l,hf,h=>by
  have : f=0:=by omega
  subst this; cases h
 | n + 1,f,l,hf,h=>by
  have h0 : f ≠ 0:=fun e=>by subst e; cases h
  have hagT : XK Tryz.prog 28=true:=by simp [XK,Tryz.underlying28]
  have hagI : XK Tryz.prog 46=true:=by simp [XK,Tryz.underlying46]
  have hagV : XK Tryz.prog 31=true:=by simp [XK,Tryz.underlying31]
  have h1:=hasTy_struct Tryz.underlying28 (by kernel_rfl) h
  obtain ⟨y1,z1,rfl,k1,y2,z2,rfl,k2,y3,z3,rfl,k3,y4,z4,rfl,k4,y5,z5,rfl,k5,y6,z6,rfl,k6,y7,z7,rfl,k7,y8,z8,rfl,k8,rfl⟩:=h1
  obtain ⟨k,rfl,_⟩:=hasTy_int Tryz.underlying3 k1
  obtain ⟨nm,rfl⟩:=hasTy_str Tryz.underlying9 k2
  obtain ⟨lo,rfl,_⟩:=hasTy_int Tryz.underlying3 k3
  obtain ⟨hi,rfl,_⟩:=hasTy_int Tryz.underlying3 k4
  obtain ⟨fr,rfl⟩:=hasTy_bool Tryz.underlying4 k5
  obtain ⟨ex,rfl⟩:=hasTy_bool Tryz.underlying4 k6
  obtain ⟨e7,rfl,he7⟩:=hasTy_slice Tryz.underlying25 (by decide +kernel) k7
  obtain ⟨e8,rfl,he8⟩:=hasTy_slice Tryz.underlying26 (by decide +kernel) k8
  obtain ⟨its,rfl,hits⟩:=its_of e7 fun x hx=>by
   obtain ⟨l,rfl,hl⟩:=he7 x hx
   rw [hagI]
   have g1:=hasTy_struct Tryz.underlying46 (by kernel_rfl) hl
   obtain ⟨y1,z1,rfl,k1,y2,z2,rfl,k2,y3,z3,rfl,k3,y4,z4,rfl,k4,y5,z5,rfl,k5,rfl⟩:=g1
   obtain ⟨nm,rfl⟩:=hasTy_str Tryz.underlying9 k1
   obtain ⟨of,rfl,hof⟩:=ty_of n _ _ (by omega) k2
   obtain ⟨o,rfl⟩:=hasTy_bool Tryz.underlying4 k3
   obtain ⟨x,rfl⟩:=hasTy_bool Tryz.underlying4 k4
   obtain ⟨els,rfl,he⟩:=hasTy_slice Tryz.underlying29 (by decide +kernel) k5
   obtain ⟨d,rfl,hd⟩:=vals_of els fun x hx=>by
    obtain ⟨l,rfl,hl⟩:=he x hx
    rw [hagV]
    exact val_of _ _ l (Nat.le_refl _) hl
   refine ⟨.mk nm of o x d,by simp [It.enc,It.cells,Xy],?_⟩
   simp [AV.bulk,QG,bulkL_app,It.size,Xy]
   omega
  obtain ⟨ks,rfl,hks⟩:=tys_of e8 fun x hx=>by
   obtain ⟨l,rfl,hl⟩:=he8 x hx
   rw [hagT]
   obtain ⟨t,rfl,ht⟩:=ty_of n _ l (by omega) hl
   exact ⟨t,rfl,by simp [Xy,AV.bulk]; omega⟩
  refine ⟨.mk k nm lo hi fr ex its ks,by simp [Ty.cells,It.encL_map,Ty.encL_map],?_⟩
  simp [AV.bulk,QG,Ty.size]
  omega
theorem bulk_strs : ∀ l : List ByteArray,l.length<=QG (l.map .str)/\∀ s ∈ l,s.size<=QG (l.map .str)
 | []=>⟨Nat.zero_le _,fun _ h=>by cases h⟩
 | x :: l=>by
  obtain ⟨h1,h2⟩:=bulk_strs l
  simp only [List.map_cons,QG,AV.bulk,List.length_cons,List.mem_cons]
  refine ⟨by omega,fun s hs=>?_⟩
  rcases hs with rfl | hs
  ·omega
  ·have:=h2 s hs; omega
set_option maxRecDepth 100000 in
theorem df_of {f : Nat} {l : List AV} (h : Xi Tryz.prog f 83 l) : ∃ d : Df,AV.agg l=d.enc/\(∀ n,(AV.agg l).bulk<=n->d.params.length<=n/\(∀ p ∈ d.params,p.size<=n)/\d.name.size<=n/\d.of.size<=n):=by
 have h1:=hasTy_struct Tryz.underlying83 (by kernel_rfl) h
 obtain ⟨y1,z1,rfl,k1,y2,z2,rfl,k2,y3,z3,rfl,k3,rfl⟩:=h1
 obtain ⟨b1,rfl⟩:=hasTy_str Tryz.underlying9 k1
 obtain ⟨ps,rfl⟩:=hasTy_strs Tryz.underlying81 Tryz.underlying9 (by decide +kernel) k2
 obtain ⟨t,rfl,ht⟩:=ty_of _ _ _ (Nat.le_refl _) k3
 obtain ⟨hp1,hp2⟩:=bulk_strs ps
 refine ⟨⟨b1,ps,t⟩,by simp [Df.enc,Df.cells,Ty.cells_eq],fun n hn=>?_⟩
 simp only [AV.bulk,QG,bulkL_app,List.cons_append,List.nil_append,List.append_nil] at hn
 refine ⟨?_,fun p hp=>?_,?_,?_⟩
 ·dsimp only; omega
 ·have:=hp2 p hp; omega
 ·dsimp only; omega
 ·dsimp only; omega
theorem dfs_of : ∀ (els : List AV),(∀ x ∈ els,∃ d : Df,x=d.enc/\(∀ n,x.bulk<=n->d.params.length<=n/\(∀ p ∈ d.params,p.size<=n)/\d.name.size<=n/\d.of.size<=n))->∃ l : List Df,els=l.map Df.enc/\l.length<=QG els/\∀ d ∈ l,∀ n,QG els<=n->d.params.length<=n/\(∀ p ∈ d.params,p.size<=n)/\d.name.size<=n/\d.of.size<=n
 | [],_=>⟨[],rfl,Nat.zero_le _,fun _ h=>by cases h⟩
 | x :: r,h=>by
  obtain ⟨v,h1,h2⟩:=h x (by simp)
  obtain ⟨l,h3,h4,h5⟩:=dfs_of r fun y hy=>h y (by simp [hy])
  have hp : 1<=x.bulk:=by rw [h1]; simp [AV.bulk]
  refine ⟨v :: l,by rw [List.map_cons,← h1,← h3],by simp only [QG,List.length_cons]; omega,fun d hd n hn=>?_⟩
  simp only [QG] at hn
  rcases List.mem_cons.1 hd with rfl | hd
  ·exact h2 n (by omega)
  ·exact h5 d hd n (by omega)
set_option maxRecDepth 100000 in
theorem md_of {f : Nat} {l : List AV} (h : Xi Tryz.prog f 24 l) (hn : QG l<=1048576) : ∃ m : Md,AV.agg l=m.enc/\m.ok:=by
 have h1:=hasTy_struct Tryz.underlying24 (by kernel_rfl) h
 obtain ⟨y1,z1,rfl,k1,y2,z2,rfl,k2,rfl⟩:=h1
 obtain ⟨b1,rfl⟩:=hasTy_str Tryz.underlying9 k1
 obtain ⟨els,rfl,he⟩:=hasTy_slice Tryz.underlying22 (by decide +kernel) k2
 have hag : XK Tryz.prog 83=true:=by simp [XK,Tryz.underlying83]
 obtain ⟨r,hr,hlen,hbs⟩:=dfs_of els fun y hy=>by
  obtain ⟨l,rfl,hl⟩:=he y hy
  rw [hag]
  obtain ⟨d,h1,h2⟩:=df_of hl
  exact ⟨d,h1,h2⟩
 subst hr
 have hb : b1.size<=1048576/\QG (r.map Df.enc)<=1048576:=by
  simp only [AV.bulk,QG,List.cons_append,List.nil_append] at hn
  omega
 exact ⟨⟨b1,r⟩,by simp [Md.enc],hb.1,by dsimp only; omega,fun d hd=>(hbs d hd _ hb.2).1,fun d hd=>(hbs d hd _ hb.2).2.1,fun d hd=>(hbs d hd _ hb.2).2.2.1,fun d hd=>(hbs d hd _ hb.2).2.2.2⟩
end Go.Proofs.YtflbneepngjglaaGreatDoor
namespace Go.Proofs.YtflbneepngjglaaGreatDoor
open Go Go.Avm Go.RowKit Go.ChangeShapes Go.WideShapes Go.ChangeAt
theorem typesForms_j1 : (Rows.typesFormsUptoRow.inPlace == Tryz.pinned.checked.prog.inPlace 3)=true:=by kernel_rfl
theorem typesForms_j2 : (Rows.typesFormsUptoRow.unfollowed == Tryz.pinned.checked.prog.unfollowed 3)=true:=by kernel_rfl
theorem typesForms_j3 : (Rows.typesFormsUptoRow.recurses == Tryz.pinned.checked.prog.recurses 3)=true:=by kernel_rfl
theorem typesForms_j4 : (Rows.typesFormsUptoRow.named == Tryz.pinned.checked.prog.varsNamed 3)=true:=by kernel_rfl
theorem typesForms_j5 : laidOutB Tryz.pinned.checked.prog=true:=by kernel_rfl
theorem typesForms_j6 : mapsRowed Tryz.pinned.checked.prog=true:=by kernel_rfl
theorem typesForms_j7 : Tryz.pinned.checked.prog.stopsHeard=true:=by kernel_rfl
theorem typesForms_j8 : Tryz.pinned.checked.prog.mayEnter=true:=by kernel_rfl
theorem typesForms_j9 : (Rows.typesFormsUptoRow.lifted == Tryz.pinned.checked.prog.liftsFinal)=true:=by kernel_rfl
theorem typesForms_j10 : (Tryz.pinned.checked.prog.make == some Rows.typesFormsUptoRow.make)=true:=by kernel_rfl
theorem typesForms_j11 : (Rows.typesFormsUptoRow.plainKeys == Tryz.pinned.checked.prog.plainKeys)=true:=by kernel_rfl
theorem typesForms_joined : joinedFacts Tryz.pinned.checked.prog 3 Tryz.f3 (Rows.OpenSpec.upto Rows.typesFormsSpec).bare Rows.typesFormsUptoRow=true:=by
 unfold joinedFacts
 simp only [Bool.and_eq_true]
 and_intros
 ·kernel_rfl
 ·exact typesForms_j5
 ·exact typesForms_j6
 ·kernel_rfl
 ·kernel_rfl
 ·kernel_rfl
 ·kernel_rfl
 ·kernel_rfl
 ·kernel_rfl
 ·exact typesForms_j1
 ·exact typesForms_j2
 ·exact typesForms_j3
 ·exact typesForms_j4
 ·kernel_rfl
 ·kernel_rfl
 ·kernel_rfl
 ·kernel_rfl
 ·kernel_rfl
 ·kernel_rfl
 ·kernel_rfl
 ·kernel_rfl
 ·kernel_rfl
 ·exact typesForms_j11
 ·kernel_rfl
 ·exact typesForms_j7
 ·exact typesForms_j8
 ·exact typesForms_j9
 ·exact typesForms_j10
 ·kernel_rfl
 ·kernel_rfl
 ·kernel_rfl
 ·kernel_rfl
end Go.Proofs.YtflbneepngjglaaGreatDoor
namespace Go.Proofs.YtflbneepngjglaaGreatDoor
open Go Go.Avm
theorem idxOf_cases {α : Type} (p : α->Bool) (l : List α) : (idxOf p l = -1/\l.find? p=none) ∨ ∃ (j : Nat) (x : α),idxOf p l=j/\l[j]? = some x/\l.find? p=some x:=by
 unfold idxOf
 cases hq : l.findIdx? p with
 | none=>
  left
  refine ⟨rfl,?_⟩
  rw [List.findIdx?_eq_none_iff] at hq
  rw [List.find?_eq_none]
  intro x hx; simp [hq x hx]
 | some j=>
  right
  rw [List.findIdx?_eq_some_iff_getElem] at hq
  obtain ⟨hj,h1,h2⟩:=hq
  refine ⟨j,l[j],rfl,List.getElem?_eq_getElem hj,?_⟩
  rw [List.find?_eq_some_iff_getElem]
  exact ⟨h1,j,hj,rfl,fun k hk=>by simpa using h2 k hk⟩
theorem known_loop (m : Md) (ps : List ByteArray) (t : Ty) (ht : t.wid<=1048576) (h : Avm.H) : ∃ g,Qa (evC (Qb cfg) Qa cfg.pol h.length h.length c216L0) [1,3,5,7] [(1,.isl (ps.map .str)),(3,.ptr h.length 0 2 0 0),(5,.ptr (h.length + 1) 0 8 0 0),(7,.int .i64 (0 : Nat))] (h++([.arr 0 2 [m.enc],.arr 0 8 [t.enc]]++[]))=some (if (t.items).all smallI=true then (.exit 0,[(1,.isl (ps.map .str)),(3,.ptr h.length 0 2 0 0),(5,.ptr (h.length + 1) 0 8 0 0),(7,.int .i64 (t.items).length)],h++([.arr 0 2 [m.enc],.arr 0 8 [t.enc]]++g)) else (.ret,[(6,.bool false)],h++([.arr 0 2 [m.enc],.arr 0 8 [t.enc]]++g))):=by
 have hl : (t.items).length<=1048576:=Nat.le_trans t.Qe ht
 have hlp:=Qi (γ:=Avm.H) (f:=evC (Qb cfg) Qa cfg.pol h.length h.length c216L0) (keep:=[1,3,5,7]) (t.items) (fun _ _=>True)
     (fun i _=>[(1,.isl (ps.map .str)),(3,.ptr h.length 0 2 0 0),(5,.ptr (h.length + 1) 0 8 0 0),(7,.int .i64 i)]) (fun _ g=>h++([.arr 0 2 [m.enc],.arr 0 8 [t.enc]]++g))
     (fun _ r o=>∃ g,o=if r.all smallI=true then (.exit 0,[(1,.isl (ps.map .str)),(3,.ptr h.length 0 2 0 0),(5,.ptr (h.length + 1) 0 8 0 0),(7,.int .i64 (t.items).length)],h++([.arr 0 2 [m.enc],.arr 0 8 [t.enc]]++g)) else (.ret,[(6,.bool false)],h++([.arr 0 2 [m.enc],.arr 0 8 [t.enc]]++g))) ?_ ?_ [] trivial
 ·obtain ⟨o,h1,g,h2⟩:=hlp
  exact ⟨g,h2 ▸ h1⟩
 ·intro i x r g hd hi hx _ K hK
  have hw:=Qd (n:=i + 1) (by omega)
  simp at hw
  have hm : x ∈ (t.items):=by rw [← hx]; exact List.getElem_mem hi
  have hsm:=rsmall_ok x.name (by have:=Ty.wid_item hm; have:=x.wid_name; omega)
  cases hv : smallI x
  ·refine ⟨_,?_,g,by simp only [List.all_cons,hv,Bool.false_and,Bool.false_eq_true,if_false]; rfl⟩
   unfold smallI at hv
   simp only [hv] at hsm
   simp [c216L0,hi,hx,hsm,Md.enc,]
  ·obtain ⟨o,h4,g2,h5⟩:=hK g trivial
   refine ⟨o,?_,g2,by simp only [List.all_cons,hv,Bool.true_and]; exact h5⟩
   unfold smallI at hv
   simp only [hv] at hsm
   simp [Md.enc] at h4
   simp [c216L0,hi,hx,hsm,Md.enc,hw,h4]
 ·intro g K _
  refine ⟨_,?_,g,by simp only [List.all_nil,if_true]; rfl⟩
  simp [Md.enc,c216L0]
theorem known_ok (m : Md) (ps : List ByteArray) (hm : m.ok) (hp : ps.length<=1048576) (t : Ty) (ht : t.wid<=1048576) (ws : Nat) (h : Avm.H) : Qb cfg ws 216 [m.enc,.isl (ps.map .str),t.enc] h=some (.bool (knownP m ps t),h):=by
 have h2:=rgreat_ok t.name (Nat.le_trans t.wid_name ht)
 have h3:=has_ok ps t.name hp
 have h4:=find_ok m t.name hm.len
 refine Qc rfl rfl ?_
 simp [Md.enc] at h4
 by_cases q0 : t.kind=3 ∨ t.kind=8 ∨ t.kind=9
 ·have hi : t.Qg=t.items:=by rcases q0 with q | q | q <;> simp [Ty.Qg,Ty.withItems,q]
  have q10 : decide (t.kind=10)=false:=by rcases q0 with q | q | q <;> simp [q]
  obtain ⟨g,hl⟩:=known_loop m ps t ht h
  unfold knownP
  rw [hi,q10]
  cases q1 : t.items.all smallI <;> rw [q1] at hl <;> simp [Md.enc] at hl <;> rcases q0 with q | q | q <;> simp [q] at hl <;> simp [Md.enc,F216,c216,hl,q]
 ·have n3 : ¬ t.kind=3:=fun e=>q0 (.inl e)
  have n8 : ¬ t.kind=8:=fun e=>q0 (.inr (.inl e))
  have n9 : ¬ t.kind=9:=fun e=>q0 (.inr (.inr e))
  have hi : t.Qg=[]:=by simp [Ty.Qg,Ty.withItems,n3,n8,n9]
  unfold knownP refP
  rw [hi]
  by_cases q2 : t.kind=10
  ·cases q4 : inS ps t.name
   ·rw [q4] at h3
    cases q3 : Xa t.name
    ·rw [q3] at h2
     rcases idxOf_cases (isD t.name) m.defs with ⟨k1,k2⟩ | ⟨j,x,k1,k2,k3⟩ <;> rw [k1] at h4 <;> simp [Md.enc,F216,c216,q2,h2,h3,h4]
    ·rw [q3] at h2
     rcases idxOf_cases (isD t.name) m.defs with ⟨k1,k2⟩ | ⟨j,x,k1,k2,k3⟩
     ·rw [k1] at h4
      simp [Md.enc,F216,c216,q2,h2,h3,h4,k2]
     ·rw [k1] at h4
      simp [Md.enc,F216,c216,q2,h2,h3,h4,k2,k3,QY]
   ·rw [q4] at h3
    have e0 : (((t.kids.length : Nat) : Int) == 0)=decide (t.kids=[]):=by rw [beq_zero]; simp
    simp [Md.enc,F216,c216,q2,h3,e0]
  ·simp [Md.enc,F216,c216,q2,n3,n8,n9]
theorem named_loop (m : Md) (ps : List ByteArray) (hmk : m.ok) (hp : ps.length<=1048576) (t : Ty) (ht : t.wid<=1048576) (hb : t.nodes<=1048576) (h : Avm.H) : ∃ g,Qa (evC (Qb cfg) Qa cfg.pol h.length h.length c135L0) [1,3,7,8] [(1,.isl (ps.map .str)),(3,.ptr h.length 0 2 0 0),(7,.isl (t.QW.map Ty.enc)),(8,.int .i64 (0 : Nat))] (h++([.arr 0 2 [m.enc],.arr 0 8 [t.enc]]++[]))=some (if (t.QW).all (knownP m ps)=true then (.exit 0,[(1,.isl (ps.map .str)),(3,.ptr h.length 0 2 0 0),(7,.isl (t.QW.map Ty.enc)),(8,.int .i64 (t.QW).length)],h++([.arr 0 2 [m.enc],.arr 0 8 [t.enc]]++g)) else (.ret,[(6,.bool false)],h++([.arr 0 2 [m.enc],.arr 0 8 [t.enc]]++g))):=by
 have hl : (t.QW).length<=1048576:=(by have:=rall_len _ t (Nat.le_refl _); omega)
 have hlp:=Qi (γ:=Avm.H) (f:=evC (Qb cfg) Qa cfg.pol h.length h.length c135L0) (keep:=[1,3,7,8]) (t.QW) (fun _ _=>True)
     (fun i _=>[(1,.isl (ps.map .str)),(3,.ptr h.length 0 2 0 0),(7,.isl (t.QW.map Ty.enc)),(8,.int .i64 i)]) (fun _ g=>h++([.arr 0 2 [m.enc],.arr 0 8 [t.enc]]++g))
     (fun _ r o=>∃ g,o=if r.all (knownP m ps)=true then (.exit 0,[(1,.isl (ps.map .str)),(3,.ptr h.length 0 2 0 0),(7,.isl (t.QW.map Ty.enc)),(8,.int .i64 (t.QW).length)],h++([.arr 0 2 [m.enc],.arr 0 8 [t.enc]]++g)) else (.ret,[(6,.bool false)],h++([.arr 0 2 [m.enc],.arr 0 8 [t.enc]]++g))) ?_ ?_ [] trivial
 ·obtain ⟨o,h1,g,h2⟩:=hlp
  exact ⟨g,h2 ▸ h1⟩
 ·intro i x r g hd hi hx _ K hK
  have hw:=Qd (n:=i + 1) (by omega)
  simp at hw
  have hm : x ∈ (t.QW):=by rw [← hx]; exact List.getElem_mem hi
  have hkn:=known_ok m ps hmk hp x (Nat.le_trans (rall_wid _ t (Nat.le_refl _) x hm).1 ht)
  cases hv : (knownP m ps) x
  ·refine ⟨_,?_,g,by simp only [List.all_cons,hv,Bool.false_and,Bool.false_eq_true,if_false]; rfl⟩
   simp only [hv] at hkn
   simp [Md.enc] at hkn
   simp [c135L0,hi,hx,hkn,Md.enc,]
  ·obtain ⟨o,h4,g2,h5⟩:=hK g trivial
   refine ⟨o,?_,g2,by simp only [List.all_cons,hv,Bool.true_and]; exact h5⟩
   simp only [hv] at hkn
   simp [Md.enc] at hkn h4
   simp [c135L0,hi,hx,hkn,Md.enc,hw,h4]
 ·intro g K _
  refine ⟨_,?_,g,by simp only [List.all_nil,if_true]; rfl⟩
  simp [Md.enc,c135L0]
theorem named_ok (m : Md) (ps : List ByteArray) (hm : m.ok) (hp : ps.length<=1048576) (t : Ty) (ht : t.wid<=1048576) (hb : t.nodes<=1048576) (ws : Nat) (h : Avm.H) : Qb cfg ws 135 [m.enc,.isl (ps.map .str),t.enc] h=some (.bool (t.QE (knownP m ps)),h):=by
 have h1:=rall_ok _ t (Nat.le_refl _) ht hb
 obtain ⟨g,hl⟩:=named_loop m ps hm hp t ht hb h
 rw [rall_all _ _ t (Nat.le_refl _)] at hl
 refine Qc rfl rfl ?_
 simp at h1
 cases q : t.QE (knownP m ps) <;> rw [q] at hl <;> simp [Md.enc] at hl <;> simp [Md.enc,F135,c135,h1,hl]
def difP (x : Ty) : Bool:=distinct (x.Qg.map It.name)
theorem strs_map (l : List ByteArray) : strs (l.map .str)=some l:=by
 induction l with
 | nil=>rfl
 | cons x l ih=>simp [strs,ih]
theorem twice_ok (v : AV) (l : List ByteArray) (hl : l.length<=1048576) (ws : Nat) (h : Avm.H) (he : elsOf h v=some (l.map .str)) : Qb cfg ws 148 [v] h=some (.bool (!distinct l),h):=by
 refine QN rfl ?_
 simp only [twiceX,he,strs_map,hl,if_true]
theorem differ_loop (t : Ty) (ht : t.wid<=1048576) (h : Avm.H) : ∃ v g,Qu h.length 1 1 g (([]++(t.Qg).map It.name).map AV.str) v/\Qa (evC (Qb cfg) Qa cfg.pol h.length h.length c155L0) [3,7,8,9] [(3,.osl (h.length + 1) 0 1 0 0),(7,.isl (t.Qg.map It.enc)),(8,.int .i64 t.Qg.length),(9,.int .i64 (0 : Nat))] (h++([.arr 0 8 [t.enc]]++[.arr 0 1 []]))=some (.exit 0,[(3,v),(7,.isl (t.Qg.map It.enc)),(8,.int .i64 t.Qg.length),(9,.int .i64 (t.Qg).length)],h++([.arr 0 8 [t.enc]]++g)):=by
 have hl : (t.Qg).length<=1048576:=(by have:=itemsOf_len t; have:=t.Qe; omega)
 have hlp:=Qi (γ:=AV × Avm.H) (f:=evC (Qb cfg) Qa cfg.pol h.length h.length c155L0) (keep:=[3,7,8,9]) (t.Qg)
     (fun i c=>Qu h.length 1 1 c.2 (([]++((t.Qg).take i).map It.name).map AV.str) c.1)
     (fun i c=>[(3,c.1),(7,.isl (t.Qg.map It.enc)),(8,.int .i64 t.Qg.length),(9,.int .i64 i)]) (fun _ g=>h++([.arr 0 8 [t.enc]]++g.2))
     (fun _ _ o=>∃ v g,Qu h.length 1 1 g (([]++(t.Qg).map It.name).map AV.str) v/\o=(.exit 0,[(3,v),(7,.isl (t.Qg.map It.enc)),(8,.int .i64 t.Qg.length),(9,.int .i64 (t.Qg).length)],h++([.arr 0 8 [t.enc]]++g))) ?_ ?_ (.osl (h.length + 1) 0 1 0 0,[.arr 0 1 []]) (.inr ⟨0,0,by simp,by simp⟩)
 ·obtain ⟨o,hl,v,g,hI,ho⟩:=hlp
  exact ⟨v,g,hI,ho ▸ hl⟩
 ·intro i x r c hd hi hx hI K hK
  have hw:=Qd (n:=i + 1) (by omega)
  simp at hw
  have hm : x ∈ (t.Qg):=by rw [← hx]; exact List.getElem_mem hi
  have htk : (t.Qg).take (i + 1)=(t.Qg).take i++[x]:=by rw [List.take_succ_eq_append_getElem hi,hx]
  rw [htk] at hK
  obtain ⟨v,g⟩:=c
  dsimp only at hI
  simp [-Prod.exists,c155L0,hi,hx,hw,Xr,appended,]
  generalize hA : appI _ _ _ _ _ _ _=r
  obtain ⟨v',g',rfl,h2⟩:=Qu.use (pre:=[_]) hI hA (by simp; omega) (by simp)
  obtain ⟨o,h4,h5⟩:=hK (v',g') (by simpa using h2)
  refine ⟨o,?_,by simpa using h5⟩
  simp at h4
  simp [h4,hw]
 ·intro c K hI
  refine ⟨_,?_,c.1,c.2,by simpa using hI,rfl⟩
  simp [c155L0]
theorem differf_ok (t : Ty) (ht : t.wid<=1048576) (ws : Nat) (h : Avm.H) : Qb cfg ws 155 [t.enc] h=some (.bool (difP t),h):=by
 have h1:=itemsOf_ok t
 have hlen:=itemsOf_len t
 have hwi:=t.Qe
 obtain ⟨v,g,hI,hl⟩:=differ_loop t ht h
 simp only [List.nil_append] at hI
 have h2:=fun ws=>twice_ok v (t.Qg.map It.name) (by simp; omega) ws _ (Qu.els (pre:=[.arr 0 8 [t.enc]]) hI)
 refine Qc rfl rfl ?_
 simp at h1 hl h2
 simp [F155,c155,h1,hl,h2,difP]
theorem differ_ok (t : Ty) (hw0 : t.wid<=1048576) (hb : t.nodes<=1048576) (ws : Nat) (h : Avm.H) : Qb cfg ws 81 [t.enc] h=some (.bool (t.QE difP),h):=by
 have h2:=fun ws h=>within_ok (cap':=[]) (k:=0) (.inl rfl) rfl _ t (Nat.le_refl _) hw0 hb (fun x _ hx _ ws h'=>by simpa using differf_ok x (Nat.le_trans hx hw0) ws h') ws h [] rfl
 refine Qc rfl rfl ?_
 simp at h2
 simp [F81,c81,h2]
def rdup : List ByteArray->List ByteArray->Bool
 | _,[]=>false
 | pre,x :: r=>pre.any (fun y=>eqS x y) || rdup (pre++[x]) r
theorem anyor {α : Type} (f g : α->Bool) : ∀ l : List α,(l.any fun z=>f z || g z)=(l.any f || l.any g)
 | []=>rfl
 | x :: l=>by simp only [List.any_cons,anyor f g l]; cases f x <;> cases g x <;> cases l.any f <;> cases l.any g <;> rfl
theorem all_not {α : Type} (f : α->Bool) : ∀ l : List α,(l.all fun z=>!f z) = !l.any f
 | []=>rfl
 | x :: l=>by simp only [List.any_cons,List.all_cons,all_not f l,Bool.not_or]
theorem rdup_eq : ∀ (l pre : List ByteArray),rdup pre l=(l.any (fun x=>pre.any (fun y=>eqS x y)) || !distinct l)
 | [],pre=>rfl
 | x :: r,pre=>by
  rw [rdup,rdup_eq r (pre++[x]),distinct,List.any_cons]
  have h1 : (r.any fun z=>(pre++[x]).any fun y=>eqS z y)=((r.any fun z=>pre.any fun y=>eqS z y) || r.any fun z=>eqS z x):=by
   rw [← anyor]; congr 1; funext z; simp
  have h2 : (r.all fun y=>!(x.toList == y.toList)) = !(r.any fun z=>eqS z x):=by
   rw [← all_not]; congr 1; funext y
   have : (x.toList == y.toList)=eqS y x:=by
    unfold eqS
    by_cases e : y.toList=x.toList
    ·simp [e]
    ·have e2 : ¬ x.toList=y.toList:=fun q=>e q.symm
     simp [e,e2]
   rw [this]
  rw [h1,h2]
  cases pre.any (fun y=>eqS x y) <;> cases (r.any fun z=>pre.any fun y=>eqS z y) <;> cases (r.any fun z=>eqS z x) <;> cases distinct r <;> rfl
theorem rtwice_inner (t : Ty) (ht : t.wid<=1048576) (k : Nat) (hk : k < t.items.length) (z : It) (hz : t.items[k]? = some z) (h g0 : Avm.H) : ∃ g,Qa (evC (Qb cfg) Qa cfg.pol h.length h.length c217L0) [1,3,4] [(1,.ptr h.length 0 8 0 0),(3,.int .i64 k),(4,.int .i64 (0 : Nat))] (h++([.arr 0 8 [t.enc]]++g0))=some (if (t.items.take k).all (fun y=>!eqS z.name y.name)=true then (.exit 2,[(1,.ptr h.length 0 8 0 0),(3,.int .i64 k),(4,.int .i64 (t.items.take k).length)],h++([.arr 0 8 [t.enc]]++g)) else (.ret,[(2,.bool true)],h++([.arr 0 8 [t.enc]]++g))):=by
 have hl : (t.items.take k).length<=1048576:=(by have:=t.Qe; simp; omega)
 have hlp:=Qi (γ:=Avm.H) (f:=evC (Qb cfg) Qa cfg.pol h.length h.length c217L0) (keep:=[1,3,4]) (t.items.take k) (fun _ _=>True)
     (fun i _=>[(1,.ptr h.length 0 8 0 0),(3,.int .i64 k),(4,.int .i64 i)]) (fun _ g=>h++([.arr 0 8 [t.enc]]++g))
     (fun _ r o=>∃ g,o=if r.all (fun y=>!eqS z.name y.name)=true then (.exit 2,[(1,.ptr h.length 0 8 0 0),(3,.int .i64 k),(4,.int .i64 (t.items.take k).length)],h++([.arr 0 8 [t.enc]]++g)) else (.ret,[(2,.bool true)],h++([.arr 0 8 [t.enc]]++g))) ?_ ?_ g0 trivial
 ·obtain ⟨o,h1,g,h2⟩:=hlp
  exact ⟨g,h2 ▸ h1⟩
 ·intro i x r g hd hi hx _ K hK
  have hw:=Qd (n:=i + 1) (by omega)
  simp at hw
  have hm : x ∈ (t.items.take k):=by rw [← hx]; exact List.getElem_mem hi
  have hik : i < k:=by simp at hi; omega
  have hik2 : i < t.items.length:=by omega
  have hx2 : t.items[i]? = some x:=by rw [List.getElem_take] at hx; rw [List.getElem?_eq_getElem hik2,hx]
  cases hv : (fun y=>!eqS z.name y.name) x
  ·refine ⟨_,?_,g,by simp only [List.all_cons,hv,Bool.false_and,Bool.false_eq_true,if_false]; rfl⟩
   simp [eqS] at hv
   simp [c217L0,hi,hx,hik,hz,hx2,hv]
  ·obtain ⟨o,h4,g2,h5⟩:=hK g trivial
   refine ⟨o,?_,g2,by simp only [List.all_cons,hv,Bool.true_and]; exact h5⟩
   simp at h4
   simp [eqS] at hv
   simp [c217L0,hi,hx,hik,hz,hx2,hv,hw,h4]
 ·intro g K _
  refine ⟨_,?_,g,by simp only [List.all_nil,if_true]; rfl⟩
  have hmin : (t.items.take k).length=k:=by simp; omega
  simp [hmin,c217L0]
theorem rtwice_outer (t : Ty) (ht : t.wid<=1048576) (h : Avm.H) : ∃ g,Qa (evC (Qb cfg) Qa cfg.pol h.length h.length c217L1) [1,3] [(1,.ptr h.length 0 8 0 0),(3,.int .i64 (0 : Nat))] (h++([.arr 0 8 [t.enc]]++[])) =
    some (if rdup [] (t.items.map It.name)=true then (.ret,[(2,.bool true)],h++([.arr 0 8 [t.enc]]++g)) else (.exit 0,[(1,.ptr h.length 0 8 0 0),(3,.int .i64 t.items.length)],h++([.arr 0 8 [t.enc]]++g))):=by
 have hlp:=Qi (γ:=Avm.H) (f:=evC (Qb cfg) Qa cfg.pol h.length h.length c217L1) (keep:=[1,3]) t.items (fun _ _=>True)
  (fun i _=>[(1,.ptr h.length 0 8 0 0),(3,.int .i64 i)]) (fun _ g=>h++([.arr 0 8 [t.enc]]++g))
  (fun i r o=>∃ g,o=if rdup ((t.items.take i).map It.name) (r.map It.name)=true then (.ret,[(2,.bool true)],h++([.arr 0 8 [t.enc]]++g)) else (.exit 0,[(1,.ptr h.length 0 8 0 0),(3,.int .i64 t.items.length)],h++([.arr 0 8 [t.enc]]++g))) ?_ ?_ [] trivial
 ·obtain ⟨o,h1,g,h2⟩:=hlp
  exact ⟨g,by rw [h1,h2]; simp⟩
 ·intro i x r g0 hd hi hx _ K hK
  have hwi:=t.Qe
  have hw:=Qd (n:=i + 1) (by omega)
  simp at hw
  obtain ⟨g,hin⟩:=rtwice_inner t ht i hi x (by rw [List.getElem?_eq_getElem hi,hx]) h g0
  have hany : ((t.items.take i).all fun y=>!eqS x.name y.name) = !((t.items.take i).map It.name).any fun y=>eqS x.name y:=by
   rw [all_not,List.any_map]; rfl
  rw [hany] at hin
  have hmin : min i t.items.length=i:=by omega
  have htk : t.items.take (i + 1)=t.items.take i++[x]:=by rw [List.take_succ_eq_append_getElem hi,hx]
  rw [htk] at hK
  rw [List.map_cons,rdup]
  cases q : ((t.items.take i).map It.name).any fun y=>eqS x.name y
  ·rw [q] at hin
   obtain ⟨o,h4,g2,h5⟩:=hK g trivial
   simp only [List.map_append,List.map_cons,List.map_nil] at h5
   refine ⟨o,?_,g2,by simpa only [Bool.false_or] using h5⟩
   simp [hmin] at hin
   simp at h4
   simp [c217L1,hi,hin,hw,h4]
  ·rw [q] at hin
   refine ⟨_,?_,g,by simp only [Bool.true_or,if_true]; rfl⟩
   simp at hin
   simp [c217L1,hi,hin]
 ·intro g K _
  refine ⟨_,?_,g,by simp only [List.map_nil,rdup,Bool.false_eq_true,if_false]; rfl⟩
  simp [c217L1]
theorem rtwice_ok (t : Ty) (ht : t.wid<=1048576) (ws : Nat) (h : Avm.H) : Qb cfg ws 217 [t.enc] h=some (.bool (!difP t),h):=by
 refine Qc rfl rfl ?_
 unfold difP
 by_cases q0 : t.kind=3 ∨ t.kind=8 ∨ t.kind=9
 ·have hi : t.Qg=t.items:=by rcases q0 with q | q | q <;> simp [Ty.Qg,Ty.withItems,q]
  obtain ⟨g,hl⟩:=rtwice_outer t ht h
  have he:=rdup_eq (t.items.map It.name) []
  have hz : ((t.items.map It.name).any fun x=>([] : List ByteArray).any fun y=>eqS x y)=false:=by simp
  rw [hz,Bool.false_or] at he
  rw [he] at hl
  rw [hi]
  cases q1 : distinct (t.items.map It.name) <;> rw [q1] at hl <;> simp at hl <;> rcases q0 with q | q | q <;> simp [q] at hl <;> simp [F217,c217,hl,q]
 ·have n3 : ¬ t.kind=3:=fun e=>q0 (.inl e)
  have n8 : ¬ t.kind=8:=fun e=>q0 (.inr (.inl e))
  have n9 : ¬ t.kind=9:=fun e=>q0 (.inr (.inr e))
  have hi : t.Qg=[]:=by simp [Ty.Qg,Ty.withItems,n3,n8,n9]
  rw [hi]
  simp [F217,c217,n3,n8,n9,distinct]
theorem once_loop (t : Ty) (ht : t.wid<=1048576) (hb : t.nodes<=1048576) (h : Avm.H) : ∃ g,Qa (evC (Qb cfg) Qa cfg.pol h.length h.length c136L0) [3,4] [(3,.isl (t.QW.map Ty.enc)),(4,.int .i64 (0 : Nat))] (h++([.arr 0 8 [t.enc]]++[]))=some (if (t.QW).all difP=true then (.exit 0,[(3,.isl (t.QW.map Ty.enc)),(4,.int .i64 (t.QW).length)],h++([.arr 0 8 [t.enc]]++g)) else (.ret,[(2,.bool false)],h++([.arr 0 8 [t.enc]]++g))):=by
 have hl : (t.QW).length<=1048576:=(by have:=rall_len _ t (Nat.le_refl _); omega)
 have hlp:=Qi (γ:=Avm.H) (f:=evC (Qb cfg) Qa cfg.pol h.length h.length c136L0) (keep:=[3,4]) (t.QW) (fun _ _=>True)
     (fun i _=>[(3,.isl (t.QW.map Ty.enc)),(4,.int .i64 i)]) (fun _ g=>h++([.arr 0 8 [t.enc]]++g))
     (fun _ r o=>∃ g,o=if r.all difP=true then (.exit 0,[(3,.isl (t.QW.map Ty.enc)),(4,.int .i64 (t.QW).length)],h++([.arr 0 8 [t.enc]]++g)) else (.ret,[(2,.bool false)],h++([.arr 0 8 [t.enc]]++g))) ?_ ?_ [] trivial
 ·obtain ⟨o,h1,g,h2⟩:=hlp
  exact ⟨g,h2 ▸ h1⟩
 ·intro i x r g hd hi hx _ K hK
  have hw:=Qd (n:=i + 1) (by omega)
  simp at hw
  have hm : x ∈ (t.QW):=by rw [← hx]; exact List.getElem_mem hi
  have hkn:=rtwice_ok x (Nat.le_trans (rall_wid _ t (Nat.le_refl _) x hm).1 ht)
  cases hv : difP x
  ·refine ⟨_,?_,g,by simp only [List.all_cons,hv,Bool.false_and,Bool.false_eq_true,if_false]; rfl⟩
   simp only [hv] at hkn
   simp at hkn
   simp [c136L0,hi,hx,hkn,]
  ·obtain ⟨o,h4,g2,h5⟩:=hK g trivial
   refine ⟨o,?_,g2,by simp only [List.all_cons,hv,Bool.true_and]; exact h5⟩
   simp at h4
   simp only [hv] at hkn
   simp at hkn
   simp [c136L0,hi,hx,hkn,hw,h4]
 ·intro g K _
  refine ⟨_,?_,g,by simp only [List.all_nil,if_true]; rfl⟩
  simp [c136L0]
theorem once_ok (t : Ty) (ht : t.wid<=1048576) (hb : t.nodes<=1048576) (ws : Nat) (h : Avm.H) : Qb cfg ws 136 [t.enc] h=some (.bool (t.QE difP),h):=by
 have h1:=rall_ok _ t (Nat.le_refl _) ht hb
 obtain ⟨g,hl⟩:=once_loop t ht hb h
 rw [rall_all _ _ t (Nat.le_refl _)] at hl
 refine Qc rfl rfl ?_
 simp at h1
 cases q : t.QE difP <;> rw [q] at hl <;> simp at hl <;> simp [F136,c136,h1,hl]
end Go.Proofs.YtflbneepngjglaaGreatDoor
