/- Copies of values in memory of one's own. -/
import Derived.Test.YtflbneepngjglaaGreatDoorRows
import Derived.Test.YtflbneepngjglaaGreatDoorR30
import Derived.Test.YtflbneepngjglaaGreatDoorR32
import Derived.WalkKit
import Derived.ProofKit
import Derived.OpenShut
import Derived.Deep.DeepHandedRow
import Derived.Lib.LaidTab
import Derived.Test.YtflbneepngjglaaGreatDoorCards
import Derived.Test.YtflbneepngjglaaGreatDoorTie
import Derived.Test.YtflbneepngjglaaGreatDoorR25
import Derived.Test.YtflbneepngjglaaGreatDoorR31
set_option linter.all false
namespace Go.Proofs.YtflbneepngjglaaGreatDoor
open Go Go.Avm Go.RowKit Go.ChangeShapes Go.WideShapes Go.ChangeAt
theorem vals_of : ∀ (els : List AV),(∀ x ∈ els,∃ v : Val,x=v.enc∧v.size≤x.bulk)→∃ l : List Val,els=l.map Val.enc∧Val.sizeL l≤bulkL els
 | [],_=>⟨[],rfl,by simp [Val.sizeL]⟩
 | x :: r,h=>by
  obtain ⟨v,h1,h2⟩:=h x (by simp)
  obtain ⟨l,h3,h4⟩:=vals_of r fun y hy=>h y (by simp [hy])
  exact ⟨v :: l,by rw [List.map_cons,← h1,← h3],by simp only [Val.sizeL,bulkL]; omega⟩
set_option maxRecDepth 100000 in
theorem val_of : ∀ (n f : Nat) (l : List AV),f≤n→hasTy Tryz.prog f 31 l→∃ v : Val,AV.agg l=v.enc∧v.size≤(AV.agg l).bulk
 | 0,f,l,hf,h=>by
  have : f=0:=by omega
  subst this; cases h
 | n + 1,f,l,hf,h=>by
  have hag : aggT Tryz.prog 31=true:=by simp [aggT,Tryz.underlying31]
  have h1:=hasTy_struct Tryz.underlying31 (by kernel_rfl) h
  obtain ⟨y1,z1,rfl,k1,y2,z2,rfl,k2,y3,z3,rfl,k3,y4,z4,rfl,k4,rfl⟩:=h1
  obtain ⟨k,rfl,_⟩:=hasTy_int Tryz.underlying3 k1
  obtain ⟨i,rfl,_⟩:=hasTy_int Tryz.underlying3 k2
  obtain ⟨b,rfl⟩:=hasTy_str Tryz.underlying9 k3
  obtain ⟨els,rfl,he⟩:=hasTy_slice Tryz.underlying29 (by decide +kernel) k4
  obtain ⟨r,rfl,hr⟩:=vals_of els fun x hx=>by
   obtain ⟨l,rfl,hl⟩:=he x hx
   rw [hag]
   refine val_of n _ l ?_ hl
   have : f ≠ 0:=fun e=>by subst e; cases h
   omega
  refine ⟨.mk k i b r,by simp,?_⟩
  simp [AV.bulk,bulkL,Val.size]
  omega
theorem bulkOk (H : Type) : BulkOk (H:=H) Rows.uptoBulk Rows.uptoBulkAll where
 one:=fun d=>by
  cases d with
  | lit l=>cases l <;> simp [Rows.uptoBulk]
  | _=>simp [Rows.uptoBulk]
 str:=fun l=>by simp [Rows.uptoBulk]
 ptr:=fun d=>by simp [Rows.uptoBulk]
 slice:=fun es sp=>by simp only [Rows.uptoBulk]; omega
 agg:=fun ps=>by simp [Rows.uptoBulk]
 cons:=fun d r=>by simp [Rows.uptoBulkAll]
theorem own : ownKnob Tryz.prog.godebug=none:=by kernel_rfl
mutual
def flatD : DataW Unit→List Value
 | .lit (.int k n)=>[.int k n]
 | .agg l=>flatDL l
 | _=>[]
def flatDL : List (DataW Unit)→List Value
 | []=>[]
 | d :: r=>flatD d++flatDL r
end
def layAs (cs : Array Value) : Obj→Obj
 | .cells _ t frozen=>.cells cs t frozen
 | o=>o
noncomputable def laidWorld (os : Os) : World:=
 { World.holding Tryz.prog os ⟨#[],#[],[]⟩ with heap:=((World.holding Tryz.prog os ⟨#[],#[],[]⟩).heap.modify 1 (layAs (flatD Rows.laid_unicode_utf8_first).toArray)).modify 2 (layAs (flatD Rows.laid_unicode_utf8_acceptRanges).toArray) }
theorem its_of : ∀ (els : List AV),(∀ x ∈ els,∃ v : It,x=v.enc∧v.size≤x.bulk)→∃ l : List It,els=l.map It.enc∧It.sizeL l≤bulkL els
 | [],_=>⟨[],rfl,by simp [It.sizeL]⟩
 | x :: r,h=>by
  obtain ⟨v,h1,h2⟩:=h x (by simp)
  obtain ⟨l,h3,h4⟩:=its_of r fun y hy=>h y (by simp [hy])
  exact ⟨v :: l,by rw [List.map_cons,← h1,← h3],by simp only [It.sizeL,bulkL]; omega⟩
theorem tys_of : ∀ (els : List AV),(∀ x ∈ els,∃ v : Ty,x=v.enc∧v.size≤x.bulk)→∃ l : List Ty,els=l.map Ty.enc∧Ty.sizeL l≤bulkL els
 | [],_=>⟨[],rfl,by simp [Ty.sizeL]⟩
 | x :: r,h=>by
  obtain ⟨v,h1,h2⟩:=h x (by simp)
  obtain ⟨l,h3,h4⟩:=tys_of r fun y hy=>h y (by simp [hy])
  exact ⟨v :: l,by rw [List.map_cons,← h1,← h3],by simp only [Ty.sizeL,bulkL]; omega⟩
theorem bulkL_app : ∀ (a b : List AV),bulkL (a++b)=bulkL a + bulkL b
 | [],b=>by simp [bulkL]
 | x :: a,b=>by simp only [List.cons_append,bulkL,bulkL_app a b]; omega
set_option maxRecDepth 100000 in
theorem ty_of : ∀ (n f : Nat) (l : List AV),f≤n→hasTy Tryz.prog f 28 l→∃ t : Ty,l=t.cells∧t.size≤bulkL l + 1
 | 0,f,l,hf,h=>by
  have : f=0:=by omega
  subst this; cases h
 | n + 1,f,l,hf,h=>by
  have h0 : f ≠ 0:=fun e=>by subst e; cases h
  have hagT : aggT Tryz.prog 28=true:=by simp [aggT,Tryz.underlying28]
  have hagI : aggT Tryz.prog 46=true:=by simp [aggT,Tryz.underlying46]
  have hagV : aggT Tryz.prog 31=true:=by simp [aggT,Tryz.underlying31]
  have h1:=hasTy_struct Tryz.underlying28 (by kernel_rfl) h
  obtain ⟨y1,z1,rfl,k1,y2,z2,rfl,k2,y3,z3,rfl,k3,y4,z4,rfl,k4,y5,z5,rfl,k5,y6,z6,rfl,k6,y7,z7,rfl,k7,y8,z8,rfl,k8,rfl⟩:=h1
  obtain ⟨k,rfl,_⟩:=hasTy_int Tryz.underlying3 k1
  obtain ⟨nm,rfl⟩:=hasTy_str Tryz.underlying9 k2
  obtain ⟨lo,rfl,_⟩:=hasTy_int Tryz.underlying3 k3
  obtain ⟨hi,rfl,_⟩:=hasTy_int Tryz.underlying3 k4
  obtain ⟨fr,rfl⟩:=hasTy_bool Tryz.underlying4 k5
  obtain ⟨ex,rfl⟩:=hasTy_bool Tryz.underlying4 k6
  obtain ⟨e7,rfl,he7⟩:=hasTy_slice Tryz.underlying25 (by decide +kernel) k7
  obtain ⟨e8,rfl,he8⟩:=hasTy_slice Tryz.underlying26 (by decide +kernel) k8
  obtain ⟨its,rfl,hits⟩:=its_of e7 fun x hx=>by
   obtain ⟨l,rfl,hl⟩:=he7 x hx
   rw [hagI]
   have g1:=hasTy_struct Tryz.underlying46 (by kernel_rfl) hl
   obtain ⟨y1,z1,rfl,k1,y2,z2,rfl,k2,y3,z3,rfl,k3,y4,z4,rfl,k4,y5,z5,rfl,k5,rfl⟩:=g1
   obtain ⟨nm,rfl⟩:=hasTy_str Tryz.underlying9 k1
   obtain ⟨of,rfl,hof⟩:=ty_of n _ _ (by omega) k2
   obtain ⟨o,rfl⟩:=hasTy_bool Tryz.underlying4 k3
   obtain ⟨x,rfl⟩:=hasTy_bool Tryz.underlying4 k4
   obtain ⟨els,rfl,he⟩:=hasTy_slice Tryz.underlying29 (by decide +kernel) k5
   obtain ⟨d,rfl,hd⟩:=vals_of els fun x hx=>by
    obtain ⟨l,rfl,hl⟩:=he x hx
    rw [hagV]
    exact val_of _ _ l (Nat.le_refl _) hl
   refine ⟨.mk nm of o x d,by simp [It.enc,It.cells,ofCells],?_⟩
   simp [AV.bulk,bulkL,bulkL_app,It.size,ofCells]
   omega
  obtain ⟨ks,rfl,hks⟩:=tys_of e8 fun x hx=>by
   obtain ⟨l,rfl,hl⟩:=he8 x hx
   rw [hagT]
   obtain ⟨t,rfl,ht⟩:=ty_of n _ l (by omega) hl
   exact ⟨t,rfl,by simp [ofCells,AV.bulk]; omega⟩
  refine ⟨.mk k nm lo hi fr ex its ks,by simp [Ty.cells,It.encL_map,Ty.encL_map],?_⟩
  simp [AV.bulk,bulkL,Ty.size]
  omega
theorem bulk_strs : ∀ l : List ByteArray,l.length≤bulkL (l.map .str)∧∀ s ∈ l,s.size≤bulkL (l.map .str)
 | []=>⟨Nat.zero_le _,fun _ h=>by cases h⟩
 | x :: l=>by
  obtain ⟨h1,h2⟩:=bulk_strs l
  simp only [List.map_cons,bulkL,AV.bulk,List.length_cons,List.mem_cons]
  refine ⟨by omega,fun s hs=>?_⟩
  rcases hs with rfl | hs
  ·omega
  ·have:=h2 s hs; omega
set_option maxRecDepth 100000 in
theorem df_of {f : Nat} {l : List AV} (h : hasTy Tryz.prog f 83 l) : ∃ d : Df,AV.agg l=d.enc∧(∀ n,(AV.agg l).bulk≤n→d.params.length≤n∧(∀ p ∈ d.params,p.size≤n)∧d.name.size≤n∧d.of.size≤n):=by
 have h1:=hasTy_struct Tryz.underlying83 (by kernel_rfl) h
 obtain ⟨y1,z1,rfl,k1,y2,z2,rfl,k2,y3,z3,rfl,k3,rfl⟩:=h1
 obtain ⟨b1,rfl⟩:=hasTy_str Tryz.underlying9 k1
 obtain ⟨ps,rfl⟩:=hasTy_strs Tryz.underlying81 Tryz.underlying9 (by decide +kernel) k2
 obtain ⟨t,rfl,ht⟩:=ty_of _ _ _ (Nat.le_refl _) k3
 obtain ⟨hp1,hp2⟩:=bulk_strs ps
 refine ⟨⟨b1,ps,t⟩,by simp [Df.enc,Df.cells,Ty.cells_eq],fun n hn=>?_⟩
 simp only [AV.bulk,bulkL,bulkL_app,List.cons_append,List.nil_append,List.append_nil] at hn
 refine ⟨?_,fun p hp=>?_,?_,?_⟩
 ·dsimp only; omega
 ·have:=hp2 p hp; omega
 ·dsimp only; omega
 ·dsimp only; omega
theorem dfs_of : ∀ (els : List AV),(∀ x ∈ els,∃ d : Df,x=d.enc∧(∀ n,x.bulk≤n→d.params.length≤n∧(∀ p ∈ d.params,p.size≤n)∧d.name.size≤n∧d.of.size≤n))→∃ l : List Df,els=l.map Df.enc∧l.length≤bulkL els∧∀ d ∈ l,∀ n,bulkL els≤n→d.params.length≤n∧(∀ p ∈ d.params,p.size≤n)∧d.name.size≤n∧d.of.size≤n
 | [],_=>⟨[],rfl,Nat.zero_le _,fun _ h=>by cases h⟩
 | x :: r,h=>by
  obtain ⟨v,h1,h2⟩:=h x (by simp)
  obtain ⟨l,h3,h4,h5⟩:=dfs_of r fun y hy=>h y (by simp [hy])
  have hp : 1≤x.bulk:=by rw [h1]; simp [AV.bulk]
  refine ⟨v :: l,by rw [List.map_cons,← h1,← h3],by simp only [bulkL,List.length_cons]; omega,fun d hd n hn=>?_⟩
  simp only [bulkL] at hn
  rcases List.mem_cons.1 hd with rfl | hd
  ·exact h2 n (by omega)
  ·exact h5 d hd n (by omega)
set_option maxRecDepth 100000 in
theorem md_of {f : Nat} {l : List AV} (h : hasTy Tryz.prog f 24 l) (hn : bulkL l≤67108864) : ∃ m : Md,AV.agg l=m.enc∧m.ok:=by
 have h1:=hasTy_struct Tryz.underlying24 (by kernel_rfl) h
 obtain ⟨y1,z1,rfl,k1,y2,z2,rfl,k2,rfl⟩:=h1
 obtain ⟨b1,rfl⟩:=hasTy_str Tryz.underlying9 k1
 obtain ⟨els,rfl,he⟩:=hasTy_slice Tryz.underlying22 (by decide +kernel) k2
 have hag : aggT Tryz.prog 83=true:=by simp [aggT,Tryz.underlying83]
 obtain ⟨r,hr,hlen,hbs⟩:=dfs_of els fun y hy=>by
  obtain ⟨l,rfl,hl⟩:=he y hy
  rw [hag]
  obtain ⟨d,h1,h2⟩:=df_of hl
  exact ⟨d,h1,h2⟩
 subst hr
 have hb : b1.size≤67108864∧bulkL (r.map Df.enc)≤67108864:=by
  simp only [AV.bulk,bulkL,List.cons_append,List.nil_append] at hn
  omega
 exact ⟨⟨b1,r⟩,by simp [Md.enc],hb.1,by dsimp only; omega,fun d hd=>(hbs d hd _ hb.2).1,fun d hd=>(hbs d hd _ hb.2).2.1,fun d hd=>(hbs d hd _ hb.2).2.2.1,fun d hd=>(hbs d hd _ hb.2).2.2.2⟩
end Go.Proofs.YtflbneepngjglaaGreatDoor
namespace Go.Proofs.YtflbneepngjglaaGreatDoor
open Go Go.Avm Go.RowKit Go.ChangeShapes Go.WideShapes Go.ChangeAt
theorem typesKeeps_j1 : (Rows.typesKeepsUptoRow.inPlace == Tryz.pinned.checked.prog.inPlace 5)=true:=by kernel_rfl
theorem typesKeeps_j2 : (Rows.typesKeepsUptoRow.unfollowed == Tryz.pinned.checked.prog.unfollowed 5)=true:=by kernel_rfl
theorem typesKeeps_j3 : (Rows.typesKeepsUptoRow.recurses == Tryz.pinned.checked.prog.recurses 5)=true:=by kernel_rfl
theorem typesKeeps_j4 : (Rows.typesKeepsUptoRow.named == Tryz.pinned.checked.prog.varsNamed 5)=true:=by kernel_rfl
theorem typesKeeps_j5 : laidOutB Tryz.pinned.checked.prog=true:=by kernel_rfl
theorem typesKeeps_j6 : mapsRowed Tryz.pinned.checked.prog=true:=by kernel_rfl
theorem typesKeeps_j7 : Tryz.pinned.checked.prog.stopsHeard=true:=by kernel_rfl
theorem typesKeeps_j8 : Tryz.pinned.checked.prog.mayEnter=true:=by kernel_rfl
theorem typesKeeps_j9 : (Rows.typesKeepsUptoRow.lifted == Tryz.pinned.checked.prog.liftsFinal)=true:=by kernel_rfl
theorem typesKeeps_j10 : (Tryz.pinned.checked.prog.make == some Rows.typesKeepsUptoRow.make)=true:=by kernel_rfl
theorem typesKeeps_j11 : (Rows.typesKeepsUptoRow.plainKeys == Tryz.pinned.checked.prog.plainKeys)=true:=by kernel_rfl
theorem typesKeeps_joined : joinedFacts Tryz.pinned.checked.prog 5 Tryz.f5 (Rows.OpenSpec.upto Rows.typesKeepsSpec).bare Rows.typesKeepsUptoRow=true:=by
 unfold joinedFacts
 simp only [Bool.and_eq_true]
 and_intros
 ·kernel_rfl
 ·exact typesKeeps_j5
 ·exact typesKeeps_j6
 ·kernel_rfl
 ·kernel_rfl
 ·kernel_rfl
 ·kernel_rfl
 ·kernel_rfl
 ·kernel_rfl
 ·exact typesKeeps_j1
 ·exact typesKeeps_j2
 ·exact typesKeeps_j3
 ·exact typesKeeps_j4
 ·kernel_rfl
 ·kernel_rfl
 ·kernel_rfl
 ·kernel_rfl
 ·kernel_rfl
 ·kernel_rfl
 ·kernel_rfl
 ·kernel_rfl
 ·kernel_rfl
 ·exact typesKeeps_j11
 ·kernel_rfl
 ·exact typesKeeps_j7
 ·exact typesKeeps_j8
 ·exact typesKeeps_j9
 ·exact typesKeeps_j10
 ·kernel_rfl
 ·kernel_rfl
 ·kernel_rfl
 ·kernel_rfl
end Go.Proofs.YtflbneepngjglaaGreatDoor
namespace Go.Proofs.YtflbneepngjglaaGreatDoor
open Go Go.Avm
def Fz (f : AV→Avm.H→Option (AV × Avm.H)) (lo hi : Nat) (H : Avm.H) (a e : AV) : Prop:=
 ∀ H' : Avm.H,(∀ b,lo≤b→b < hi→H'[b]? = H[b]?)→∃ G,f a H'=some (e,G)∧G.length=H'.length∧∀ b,(b < lo ∨ hi≤b)→G[b]? = H'[b]?
def FzL (f : AV→Avm.H→Option (AV × Avm.H)) (lo hi : Nat) (H : Avm.H) (xs es : List AV) : Prop:=
 ∀ H' : Avm.H,(∀ b,lo≤b→b < hi→H'[b]? = H[b]?)→∃ G,frzL f xs H'=some (es,G)∧G.length=H'.length∧∀ b,(b < lo ∨ hi≤b)→G[b]? = H'[b]?
theorem Fz.pure {base n lo hi : Nat} {H : Avm.H} {a : AV} (h : a.pure=true) : Fz (frz base n) lo hi H a a:=fun H' _=>⟨H',frz_pure h,rfl,fun _ _=>rfl⟩
theorem FzL.pure {base n lo hi : Nat} {H : Avm.H} {xs : List AV} (h : pureL xs=true) : FzL (frz base n) lo hi H xs xs:=fun H' _=>⟨H',frzL_pure h,rfl,fun _ _=>rfl⟩
theorem FzL.nil {f : AV→Avm.H→Option (AV × Avm.H)} {lo hi : Nat} {H : Avm.H} : FzL f lo hi H [] []:=fun H' _=>⟨H',rfl,rfl,fun _ _=>rfl⟩
theorem Fz.on {f : AV→Avm.H→Option (AV × Avm.H)} {lo hi : Nat} {H G : Avm.H} {a e : AV} (h : Fz f lo hi H a e) (hg : ∀ b,lo≤b→b < hi→H[b]? = G[b]?) : Fz f lo hi G a e:=fun H' h'=>h H' fun b h1 h2=>(h' b h1 h2).trans (hg b h1 h2).symm
theorem FzL.on {f : AV→Avm.H→Option (AV × Avm.H)} {lo hi : Nat} {H G : Avm.H} {a e : List AV} (h : FzL f lo hi H a e) (hg : ∀ b,lo≤b→b < hi→H[b]? = G[b]?) : FzL f lo hi G a e:=fun H' h'=>h H' fun b h1 h2=>(h' b h1 h2).trans (hg b h1 h2).symm
theorem FzL.cons {f : AV→Avm.H→Option (AV × Avm.H)} {lo mid hi : Nat} {H : Avm.H} {a e : AV} {xs es : List AV} (h1 : lo≤mid) (h2 : mid≤hi) (ha : Fz f lo mid H a e) (hl : FzL f mid hi H xs es) : FzL f lo hi H (a :: xs) (e :: es):=fun H' h'=>by
 obtain ⟨G,g1,g2,g3⟩:=ha H' fun b hb1 hb2=>h' b hb1 (by omega)
 obtain ⟨G',g4,g5,g6⟩:=hl G fun b hb1 hb2=>(g3 b (by omega)).trans (h' b (by omega) hb2)
 refine ⟨G',by simp only [frzL,g1,g4],by omega,fun b hb=>(g6 b (by omega)).trans (g3 b (by omega))⟩
theorem frzL_app {f : AV→Avm.H→Option (AV × Avm.H)} : ∀ (xs bs : List AV) (h : Avm.H),frzL f (xs++bs) h=match frzL f xs h with | some (es,g)=>(match frzL f bs g with | some (fs,g')=>some (es++fs,g') | none=>none) | none=>none
 | [],bs,h=>by simp only [List.nil_append,frzL]; cases frzL f bs h with | none=>rfl | some q=>rfl
 | a :: xs,bs,h=>by
  simp only [List.cons_append,frzL]
  cases f a h with
  | none=>rfl
  | some q=>
   dsimp only
   rw [frzL_app xs bs]
   cases frzL f xs q.2 with
   | none=>rfl
   | some w=>
    dsimp only
    cases frzL f bs w.2 with
    | none=>rfl
    | some z=>rfl
theorem FzL.app {f : AV→Avm.H→Option (AV × Avm.H)} {lo mid hi : Nat} {H : Avm.H} {xs es bs fs : List AV} (h1 : lo≤mid) (h2 : mid≤hi) (ha : FzL f lo mid H xs es) (hl : FzL f mid hi H bs fs) : FzL f lo hi H (xs++bs) (es++fs):=fun H' h'=>by
 obtain ⟨G,g1,g2,g3⟩:=ha H' fun b hb1 hb2=>h' b hb1 (by omega)
 obtain ⟨G',g4,g5,g6⟩:=hl G fun b hb1 hb2=>(g3 b (by omega)).trans (h' b (by omega) hb2)
 refine ⟨G',by rw [frzL_app,g1]; simp only [g4],by omega,fun b hb=>(g6 b (by omega)).trans (g3 b (by omega))⟩
theorem Fz.agg {base n lo hi : Nat} {H : Avm.H} {xs es : List AV} (h : FzL (frz base n) lo hi H xs es) : Fz (frz base (n + 1)) lo hi H (.agg xs) (.agg es):=fun H' h'=>by
 obtain ⟨G,g1,g2,g3⟩:=h H' h'
 exact ⟨G,by rw [frz_agg,g1],g2,g3⟩
theorem Fz.osl {base n lo hi sz : Nat} {H : Avm.H} {els es : List AV} {k : Nat} (hb : base≤lo) (hlo : lo < hi) (hH : H[lo]? = some (.arr 0 sz els)) (hk : k=els.length) (h : FzL (frz base n) (lo + 1) hi H els es) : Fz (frz base (n + 1)) lo hi H (.osl lo 0 sz 0 k) (.isl es):=fun H' h'=>by
 have hl : Avm.look H' lo 0 sz 0 k=some els:=by
  unfold Avm.look
  rw [h' lo (Nat.le_refl _) hlo,hH,hk]
  simp
 have hlt : lo < H'.length:=by
  have:=h' lo (Nat.le_refl _) hlo
  rw [hH] at this
  exact (List.getElem?_eq_some_iff.1 this).1
 obtain ⟨G,g1,g2,g3⟩:=h (Avm.kill H' lo 0) fun b hb1 hb2=>by
  unfold Avm.kill
  rw [List.getElem?_set_ne (by omega)]
  exact h' b (by omega) hb2
 refine ⟨G,?_,by rw [g2]; unfold Avm.kill; simp,fun b hb=>?_⟩
 ·rw [frz_osl,if_neg (by omega),hl]
  simp only [g1]
 ·rw [g3 b (by omega)]
  unfold Avm.kill
  rw [List.getElem?_set_ne (by omega)]
end Go.Proofs.YtflbneepngjglaaGreatDoor
namespace Go.Proofs.YtflbneepngjglaaGreatDoor
open Go Go.Avm
def ocV (L : Nat) (v : Val) : AV:=.agg [.int .i64 v.kind,.int .i64 v.int,.str v.bytes,.osl L 0 4 0 v.items.length]
def ocB (v : Val) : ABlock:=.arr 0 4 (v.items.map Val.enc)
def ocL (L : Nat) : List Val→List AV
 | []=>[]
 | x :: r=>ocV L x :: ocL (L + 1) r
@[simp] theorem ocL_len : ∀ (l : List Val) (L : Nat),(ocL L l).length=l.length
 | [],_=>rfl
 | _ :: l,L=>by simp [ocL,ocL_len l (L + 1)]
theorem ocL_snoc (x : Val) : ∀ (l : List Val) (L : Nat),ocL L (l++[x])=ocL L l++[ocV (L + l.length) x]
 | [],_=>rfl
 | y :: l,L=>by simp only [List.cons_append,ocL,ocL_snoc x l (L + 1),List.length_cons]; rw [show L + 1 + l.length=L + (l.length + 1) by omega]
theorem ocV_fz {base n L : Nat} {H : Avm.H} {x : Val} (hb : base≤L) (hH : H[L]? = some (ocB x)) : Fz (frz base (n + 2)) L (L + 1) H (ocV L x) x.enc:=by
 rw [Val.enc_eq]
 have hi : L < L + 1:=Nat.lt_succ_self L
 have hm : L≤L + 1:=Nat.le_succ L
 exact Fz.agg (FzL.cons (Nat.le_refl L) hm (Fz.pure rfl) (FzL.cons (Nat.le_refl L) hm (Fz.pure rfl) (FzL.cons (Nat.le_refl L) hm (Fz.pure rfl) (FzL.cons hm (Nat.le_refl (L + 1)) (Fz.osl hb hi hH (by simp) (FzL.pure (by simp))) FzL.nil))))
theorem ocL_fz {base n : Nat} {H : Avm.H} : ∀ (l : List Val) (L : Nat),base≤L→(∀ (j : Nat) x,l[j]? = some x→H[L + j]? = some (ocB x))→FzL (frz base (n + 2)) L (L + l.length) H (ocL L l) (l.map Val.enc)
 | [],_,_,_=>FzL.nil
 | x :: l,L,hb,hH=>by
  have h:=ocL_fz (base:=base) (n:=n) l (L + 1) (by omega) fun j y hy=>by rw [show L + 1 + j=L + (j + 1) by omega]; exact hH (j + 1) y (by simpa using hy)
  rw [show L + 1 + l.length=L + (x :: l).length by simp only [List.length_cons]; omega] at h
  exact FzL.cons (mid:=L + 1) (by omega) (by simp only [List.length_cons]; omega) (ocV_fz hb (hH 0 x rfl)) h
theorem cloneO_ok {f : FuncId} {sz : Nat} {lm : Nat} (hx : cfg.ext f=some (cloneX sz lm)) (l : List AV) (hl : l.length≤lm) (ho : (l.all fun v=>v.cells.length == sz && v.ones)=true) (ws : Nat) (h : Avm.H) : callL cfg ws f [.isl l] h=some (.osl h.length 0 sz 0 l.length,h++[.arr 0 sz l]):=by
 refine callL_ext hx ?_
 unfold cloneX
 dsimp only [elsOf]
 rw [if_pos ⟨hl,ho⟩]
theorem items_less {v x : Val} (h : x ∈ v.items) : x.nodes < v.nodes:=by have:=sum_mem (f:=Val.nodes) h; rw [v.nodes_eq]; omega
theorem len_less (v : Val) : v.items.length < v.nodes:=by
 have : ∀ l : List Val,l.length≤(l.map Val.nodes).sum:=fun l=>by
  induction l with
  | nil=>simp
  | cons x l ih=>have:=x.nodes_pos; simp; omega
 have:=this v.items
 rw [v.nodes_eq]; omega
theorem cloneVO_ok (l : List Val) (hl : l.length≤67108864) (ws : Nat) (h : Avm.H) : callL cfg ws 71 [.isl (l.map Val.enc)] h=some (.osl h.length 0 4 0 l.length,h++[.arr 0 4 (l.map Val.enc)]):=by
 have:=cloneO_ok (f:=71) rfl (l.map Val.enc) (by unfold lim; simp; omega) (by simp) ws h
 simpa using this
theorem copiedO_ok : ∀ (n : Nat) (v : Val),v.nodes≤n→v.nodes≤67108864→∀ ws h,callL cfg ws 39 [v.enc] h=some (ocV h.length v,h++[ocB v])
 | 0,v,hv,_,_,_=>by have:=v.nodes_pos; omega
 | n + 1,v,hv,hb,ws,h=>by
  have hlen:=len_less v
  have hcl:=cloneVO_ok v.items (by omega)
  have hlp:=loop_list (f:=evC (callL cfg) roundsL cfg.pol h.length h.length c39L0) (keep:=[1,2,10,11]) v.items (fun i=>[(1,.ptr h.length 0 4 0 0),(2,.ptr (h.length + 1) 0 4 0 0),(10,.int .i64 v.items.length),(11,.int .i64 i)])
   (fun i=>h++([.arr 0 4 [.agg [.int .i64 v.kind,.int .i64 v.int,.str v.bytes,.osl (h.length + 2) 0 4 0 v.items.length]],.arr 0 4 [.agg [.int .i64 0,.int .i64 0,.str ⟨#[]⟩,.isl []]],.arr 0 4 (ocL (h.length + 3) (v.items.take i)++(v.items.drop i).map Val.enc)]++(v.items.take i).map ocB))
   (fun _ _=>(.exit 0,[(1,.ptr h.length 0 4 0 0),(2,.ptr (h.length + 1) 0 4 0 0),(10,.int .i64 v.items.length),(11,.int .i64 v.items.length)],h++([.arr 0 4 [.agg [.int .i64 v.kind,.int .i64 v.int,.str v.bytes,.osl (h.length + 2) 0 4 0 v.items.length]],.arr 0 4 [.agg [.int .i64 0,.int .i64 0,.str ⟨#[]⟩,.isl []]],.arr 0 4 (ocL (h.length + 3) v.items)]++v.items.map ocB))) ?_ ?_
  ·refine callL_fn rfl rfl ?_
   obtain ⟨G,hz,hG1,hG2⟩:=ocL_fz (base:=h.length) (n:=6) (H:=h++([.arr 0 4 [.agg [.int .i64 v.kind,.int .i64 v.int,.str v.bytes,.osl (h.length + 2) 0 4 0 v.items.length]],.arr 0 4 [.agg [.int .i64 v.kind,.int .i64 v.int,.str v.bytes,.osl (h.length + 2) 0 4 0 v.items.length]],.arr 0 4 (ocL (h.length + 3) v.items)]++v.items.map ocB)) v.items (h.length + 3) (by omega) (fun j x hj=>by
    rw [List.getElem?_append_right (by omega),List.getElem?_append_right (by simp; omega)]
    simp only [List.length_cons,List.length_nil]
    rw [show h.length + 3 + j - h.length - (0 + 1 + 1 + 1)=j by omega,List.getElem?_map,hj]; rfl) _ (fun _ _ _=>rfl)
   have hG3:=hG2 (h.length + 2) (.inl (by omega))
   rw [List.getElem?_append_right (by omega),show h.length + 2 - h.length=2 by omega] at hG3
   have hG4 : G.take h.length=h:=List.ext_getElem? fun b=>by
    by_cases hb : b < h.length
    ·rw [List.getElem?_take_of_lt hb,hG2 b (.inl (by omega)),List.getElem?_append_left hb]
    ·rw [List.getElem?_eq_none (by simp; omega),List.getElem?_eq_none (by omega)]
   simp only [List.cons_append,List.getElem?_cons_succ,List.getElem?_cons_zero,List.nil_append] at hG3
   have hGl:=(List.getElem?_eq_some_iff.1 hG3).1
   clear hG1 hG2
   have hrg : ∀ X : ABlock,(List.set G (h.length + 2) X)[h.length + 2]? = some X:=fun X=>List.getElem?_set_self hGl
   have hG4 : ∀ X : ABlock,(List.set G (h.length + 2) X).take h.length=h:=fun X=>by rw [List.take_set,hG4,List.set_eq_of_length_le (by omega)]
   clear hGl
   simp [ocL] at hlp hcl
   simp at hz
   unfold ocV ocB
   simp [F39,c39,hcl,hlp,leave,own3,own2,own1,ownL,deep,hz,hG3,hrg,hG4]
  ·intro i x r hd hi hx K hK
   have hw:=wrap_nat (n:=i + 1) (by omega)
   simp at hw
   have hm1 : x ∈ v.items:=by rw [← hx]; exact List.getElem_mem hi
   have hsz:=items_less hm1
   have hc:=fun ws h'=>copiedO_ok n x (by omega) (by omega) ws h'
   have hll : (v.items.take i).length=i:=by simp; omega
   have ht : v.items.take (i + 1)=v.items.take i++[x]:=by rw [List.take_succ_eq_append_getElem hi,hx]
   have hg : (ocL (h.length + 3) (v.items.take i)++(v.items.drop i).map Val.enc)[i]? = some x.enc:=by
    rw [List.getElem?_append_right (by simp; omega),ocL_len,hll,Nat.sub_self,hd]; rfl
   have hel : (ocL (h.length + 3) (v.items.take i)++(v.items.drop i).map Val.enc).length=v.items.length:=by simp; omega
   have hrl : r=v.items.drop (i + 1):=by
    have:=List.drop_eq_getElem_cons hi
    rw [hd] at this
    injection this
   have hs : (ocL (h.length + 3) (v.items.take i)++(v.items.drop i).map Val.enc).set i (ocV (h.length + 3 + i) x)=ocL (h.length + 3) (v.items.take (i + 1))++(v.items.drop (i + 1)).map Val.enc:=by
    rw [hd,List.set_append_right _ _ (by simp; omega),ocL_len,hll,Nat.sub_self,List.map_cons,List.set_cons_zero,ht,ocL_snoc,hll,hrl]
    simp
   have hb : (v.items.take i).map ocB++[ocB x]=(v.items.take (i + 1)).map ocB:=by rw [ht]; simp
   rw [← hs,← hb] at hK
   have hlb : ((v.items.take i).map ocB).length=i:=by simp; omega
   generalize (ocL (h.length + 3) (v.items.take i)++(v.items.drop i).map Val.enc)=els at *
   generalize (v.items.take i).map ocB=bs at *
   obtain ⟨hix,hgx⟩:=List.getElem?_eq_some_iff.1 hg
   rw [show h.length + 3 + i=h.length + (i + 1 + 1 + 1) by omega] at hK
   unfold ocV at hc hK
   simp at hc hK
   simp [c39L0,hi,hx,hc,hgx,hel,hlb,hw,hK]
  ·intro K
   simp [c39L0]
end Go.Proofs.YtflbneepngjglaaGreatDoor
