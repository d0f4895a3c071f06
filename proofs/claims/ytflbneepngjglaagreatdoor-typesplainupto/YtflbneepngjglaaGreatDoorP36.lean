/- What the row's form asks of the program's text, one question at a time: all at once it wants too much memory. -/
import Derived.Test.YtflbneepngjglaaGreatDoorP35
import Derived.Test.YtflbneepngjglaaGreatDoorRows
import Derived.Test.YtflbneepngjglaaGreatDoorP32
import Derived.WalkKit
import Derived.ProofKit
import Derived.OpenShut
import Derived.Deep.DeepHandedRow
import Derived.Lib.LaidTab
import Derived.Test.YtflbneepngjglaaGreatDoorCards
import Derived.Test.YtflbneepngjglaaGreatDoorTie
set_option linter.all false
namespace Go.Proofs.YtflbneepngjglaaGreatDoor
open Go Go.Avm
def eqS (a b : ByteArray) : Bool:=decide (a.toList=b.toList)
theorem eqS_symm (a b : ByteArray) : eqS a b=eqS b a:=by unfold eqS; congr 1; exact propext eq_comm
theorem beq_nat (a b : Nat) : (((a : Int)) == (b : Int))=decide (a=b):=by rw [Bool.eq_iff_iff]; simp; omega
theorem beq_zero (a : Nat) : (((a : Int)) == 0)=decide (a=0):=beq_nat a 0
def inS (ps : List ByteArray) (s : ByteArray) : Bool:=ps.any fun p=>eqS p s
def isD (s : ByteArray) (d : Df) : Bool:=eqS d.name s
theorem find_loop (m : Md) (s : ByteArray) (hm0 : m.defs.length≤67108864) (h : Avm.H) : roundsL (evC (callL cfg) roundsL cfg.pol h.length h.length c141L0) [1,2,5] [(1,.str s),(2,.ptr h.length 0 2 0 0),(5,.int .i64 (0 : Nat))] (h++[.arr 0 2 [m.enc]])=some (match (m.defs).findIdx? (isD s) with | some j=>(.ret,[(4,.int .i64 (j : Nat))],h++[.arr 0 2 [m.enc]]) | none=>(.exit 0,[(1,.str s),(2,.ptr h.length 0 2 0 0),(5,.int .i64 (m.defs).length)],h++[.arr 0 2 [m.enc]])):=by
 have hl : (m.defs).length≤67108864:=hm0
 have hlp:=loop_list (f:=evC (callL cfg) roundsL cfg.pol h.length h.length c141L0) (keep:=[1,2,5]) (m.defs) (fun i=>[(1,.str s),(2,.ptr h.length 0 2 0 0),(5,.int .i64 i)]) (fun _=>h++[.arr 0 2 [m.enc]])
     (fun i r=>match (r).findIdx? (isD s) with | some j=>(.ret,[(4,.int .i64 ((i + j) : Nat))],h++[.arr 0 2 [m.enc]]) | none=>(.exit 0,[(1,.str s),(2,.ptr h.length 0 2 0 0),(5,.int .i64 (m.defs).length)],h++[.arr 0 2 [m.enc]])) ?_ ?_
 ·simp only [Nat.zero_add] at hlp
  exact hlp
 ·intro i x r hd hi hx K hK
  have hw:=wrap_nat (n:=i + 1) (by omega)
  simp at hw
  have hm : x ∈ (m.defs):=by rw [← hx]; exact List.getElem_mem hi
  rw [List.findIdx?_cons]
  cases hv : (isD s) x
  ·simp only [isD,eqS,decide_eq_false_iff_not] at hv
   cases hq : r.findIdx? (isD s) <;> simp [hq,Md.enc] at hK <;> simp [c141L0,hi,hx,Md.enc,hv,hw,hK] <;> omega
  ·simp only [isD,eqS,decide_eq_true_eq] at hv
   simp [c141L0,hi,hx,Md.enc,hv]
 ·intro K
  simp [c141L0,Md.enc]
theorem def_loop (m : Md) (s : ByteArray) (hm0 : m.defs.length≤67108864) (h : Avm.H) : roundsL (evC (callL cfg) roundsL cfg.pol h.length h.length c94L0) [1,2,8,9] [(1,.str s),(2,.ptr h.length 0 2 0 0),(8,.int .i64 m.defs.length),(9,.int .i64 (0 : Nat))] (h++[.arr 0 2 [m.enc]]) =
    some (match m.defs.find? (isD s) with | some d=>(.ret,[(4,.iptr d.cells)],h++[.arr 0 2 [m.enc]]) | none=>(.exit 0,[(1,.str s),(2,.ptr h.length 0 2 0 0),(8,.int .i64 m.defs.length),(9,.int .i64 m.defs.length)],h++[.arr 0 2 [m.enc]])):=by
 refine loop_list (f:=evC (callL cfg) roundsL cfg.pol h.length h.length c94L0) (keep:=[1,2,8,9]) m.defs (fun i=>[(1,.str s),(2,.ptr h.length 0 2 0 0),(8,.int .i64 m.defs.length),(9,.int .i64 i)]) (fun _=>h++[.arr 0 2 [m.enc]])
  (fun _ r=>match r.find? (isD s) with | some d=>(.ret,[(4,.iptr d.cells)],h++[.arr 0 2 [m.enc]]) | none=>(.exit 0,[(1,.str s),(2,.ptr h.length 0 2 0 0),(8,.int .i64 m.defs.length),(9,.int .i64 m.defs.length)],h++[.arr 0 2 [m.enc]])) ?_ ?_
 ·intro i x r hd hi hx K hK
  have hw:=wrap_nat (n:=i + 1) (by omega)
  simp at hw
  rw [List.find?_cons]
  cases hv : isD s x
  ·simp only [isD,eqS,decide_eq_false_iff_not] at hv
   cases hq : r.find? (isD s) <;> simp [hq,Md.enc] at hK <;> simp [Md.enc,c94L0,hi,hx,hv,hw,hK]
  ·simp only [isD,eqS,decide_eq_true_eq] at hv
   simp [Md.enc,c94L0,hi,hx,hv,Df.cells]
 ·intro K
  simp [Md.enc,c94L0]
def dptr (d : Option Df) : AV:=match d with | some d=>.iptr d.cells | none=>.nilp
theorem def_ok (m : Md) (s : ByteArray) (hm0 : m.defs.length≤67108864) (ws : Nat) (h : Avm.H) : callL cfg ws 94 [m.enc,.str s] h=some (dptr (m.defs.find? (isD s)),h):=by
 have hl:=def_loop m s hm0 h
 refine callL_fn rfl rfl ?_
 cases hq : m.defs.find? (isD s) <;> simp [hq,Md.enc,Df.cells] at hl <;> simp [Md.enc,F94,c94,hl,dptr,Df.cells]
theorem has_loop (ps : List ByteArray) (s : ByteArray) (hp : ps.length≤67108864) (h : Avm.H) : roundsL (evC (callL cfg) roundsL cfg.pol h.length h.length c181L0) [0,1,5] [(0,.isl (ps.map .str)),(1,.str s),(5,.int .i64 (0 : Nat))] h =
    some (if inS ps s=true then (.ret,[(4,.bool true)],h) else (.exit 0,[(0,.isl (ps.map .str)),(1,.str s),(5,.int .i64 ps.length)],h)):=by
 refine loop_list (f:=evC (callL cfg) roundsL cfg.pol h.length h.length c181L0) (keep:=[0,1,5]) ps (fun i=>[(0,.isl (ps.map .str)),(1,.str s),(5,.int .i64 i)]) (fun _=>h)
  (fun _ r=>if inS r s=true then (.ret,[(4,.bool true)],h) else (.exit 0,[(0,.isl (ps.map .str)),(1,.str s),(5,.int .i64 ps.length)],h)) ?_ ?_
 ·intro i x r hd hi hx K hK
  have hw:=wrap_nat (n:=i + 1) (by omega)
  simp at hw
  unfold inS at hK ⊢
  rw [List.any_cons]
  cases hv : eqS x s
  ·simp only [eqS,decide_eq_false_iff_not] at hv
   simp only [Bool.false_or]
   rw [← hK]
   simp [c181L0,hi,hx,hv,hw]
  ·simp only [eqS,decide_eq_true_eq] at hv
   simp [c181L0,hi,hx,hv]
 ·intro K
  simp [c181L0,inS]
theorem indexS_loop (ps : List ByteArray) (s : ByteArray) (hp : ps.length≤67108864) (h : Avm.H) : roundsL (evC (callL cfg) roundsL cfg.pol h.length h.length c175L0) [0,1,7,8] [(0,.isl (ps.map .str)),(1,.str s),(7,.int .i64 ps.length),(8,.int .i64 (0 : Nat))] (h)=some (match (ps).findIdx? (eqS s) with | some j=>(.ret,[(4,.int .i64 (j : Nat))],h) | none=>(.exit 0,[(0,.isl (ps.map .str)),(1,.str s),(7,.int .i64 ps.length),(8,.int .i64 (ps).length)],h)):=by
 have hl : (ps).length≤67108864:=hp
 have hlp:=loop_list (f:=evC (callL cfg) roundsL cfg.pol h.length h.length c175L0) (keep:=[0,1,7,8]) (ps) (fun i=>[(0,.isl (ps.map .str)),(1,.str s),(7,.int .i64 ps.length),(8,.int .i64 i)]) (fun _=>h)
     (fun i r=>match (r).findIdx? (eqS s) with | some j=>(.ret,[(4,.int .i64 ((i + j) : Nat))],h) | none=>(.exit 0,[(0,.isl (ps.map .str)),(1,.str s),(7,.int .i64 ps.length),(8,.int .i64 (ps).length)],h)) ?_ ?_
 ·simp only [Nat.zero_add] at hlp
  exact hlp
 ·intro i x r hd hi hx K hK
  have hw:=wrap_nat (n:=i + 1) (by omega)
  simp at hw
  have hm : x ∈ (ps):=by rw [← hx]; exact List.getElem_mem hi
  rw [List.findIdx?_cons]
  cases hv : (eqS s) x
  ·simp only [eqS,decide_eq_false_iff_not] at hv
   cases hq : r.findIdx? (eqS s) <;> simp [hq] at hK <;> simp [c175L0,hi,hx,hv,hw,hK] <;> omega
  ·simp only [eqS,decide_eq_true_eq] at hv
   simp [c175L0,hi,hx,hv]
 ·intro K
  simp [c175L0,]
theorem indexS_ok (ps : List ByteArray) (s : ByteArray) (hp : ps.length≤67108864) (ws : Nat) (h : Avm.H) : callL cfg ws 175 [.isl (ps.map .str),.str s] h=some (.int .i64 (idxOf (eqS s) ps),h):=by
 have hl:=indexS_loop ps s hp h
 refine callL_fn rfl rfl ?_
 unfold idxOf
 cases hq : ps.findIdx? (eqS s) <;> simp [hq] at hl <;> simp [F175,c175,hl]
theorem containsS_ok (ps : List ByteArray) (s : ByteArray) (hp : ps.length≤67108864) (ws : Nat) (h : Avm.H) : callL cfg ws 154 [.isl (ps.map .str),.str s] h=some (.bool (inS ps s),h):=by
 have h1:=fun ws h=>indexS_ok ps s hp ws h
 refine callL_fn rfl rfl ?_
 have : inS ps s=ps.any (eqS s):=by unfold inS; congr 1; funext p; exact eqS_symm p s
 rw [this]
 simp [F154,c154,h1,idxOf_any]
def Ty.withItems (t : Ty) : Bool:=decide (t.kind=3) || (decide (t.kind=8) || decide (t.kind=9))
def Ty.itemsOf (t : Ty) : List It:=if t.withItems then t.items else []
theorem itemsOf_ok (t : Ty) (ws : Nat) (h : Avm.H) : callL cfg ws 152 [t.enc] h=some (.isl (t.itemsOf.map It.enc),h):=by
 refine callL_fn rfl rfl ?_
 by_cases q1 : t.kind=3
 ·simp [F152,c152,Ty.itemsOf,Ty.withItems,q1]
 ·by_cases q2 : t.kind=8
  ·simp [F152,c152,Ty.itemsOf,Ty.withItems,q2]
  ·by_cases q3 : t.kind=9
   ·simp [F152,c152,Ty.itemsOf,Ty.withItems,q3]
   ·simp [F152,c152,Ty.itemsOf,Ty.withItems,q1,q2,q3]
theorem itemsOf_mem {t : Ty} {x : It} (h : x ∈ t.itemsOf) : x ∈ t.items:=by
 unfold Ty.itemsOf at h
 split at h
 ·exact h
 ·cases h
theorem itemsOf_len (t : Ty) : t.itemsOf.length≤t.items.length:=by unfold Ty.itemsOf; split <;> simp
structure Md.ok (m : Md) : Prop where
 name : m.name.size≤67108864
 len : m.defs.length≤67108864
 params : ∀ d ∈ m.defs,d.params.length≤67108864
 pnames : ∀ d ∈ m.defs,∀ p ∈ d.params,p.size≤67108864
 dname : ∀ d ∈ m.defs,d.name.size≤67108864
 of : ∀ d ∈ m.defs,d.of.size≤67108864
def smallI (i : It) : Bool:=smallB i.name
def refP (m : Md) (ps : List ByteArray) (x : Ty) : Bool:=if inS ps x.name then decide (x.kids.length=0) else match m.defs.find? (isD x.name) with | some d=>decide (d.params.length=x.kids.length) | none=>false
def nameP (m : Md) (ps : List ByteArray) (x : Ty) : Bool:=x.itemsOf.all smallI && (!decide (x.kind=10) || (greatB x.name && refP m ps x))
theorem names_loop (t : Ty) (ht : t.wid≤67108864) (h : Avm.H) (c0 : AV) : ∃ g,roundsL (evC (callL cfg) roundsL cfg.pol h.length h.length c151L0) [1,2,8,9,10] [(1,c0),(2,.ptr h.length 0 8 0 0),(8,.isl (t.itemsOf.map It.enc)),(9,.int .i64 t.itemsOf.length),(10,.int .i64 (0 : Nat))] (h++([.arr 0 8 [t.enc]]++[]))=some (if (t.itemsOf).all smallI=true then (.exit 0,[(1,c0),(2,.ptr h.length 0 8 0 0),(8,.isl (t.itemsOf.map It.enc)),(9,.int .i64 t.itemsOf.length),(10,.int .i64 (t.itemsOf).length)],h++([.arr 0 8 [t.enc]]++g)) else (.ret,[(3,.bool false)],h++([.arr 0 8 [t.enc]]++g))):=by
 have hl : (t.itemsOf).length≤67108864:=(by have:=itemsOf_len t; have:=t.wid_items; omega)
 have hlp:=loop_post (γ:=Avm.H) (f:=evC (callL cfg) roundsL cfg.pol h.length h.length c151L0) (keep:=[1,2,8,9,10]) (t.itemsOf) (fun _ _=>True)
     (fun i _=>[(1,c0),(2,.ptr h.length 0 8 0 0),(8,.isl (t.itemsOf.map It.enc)),(9,.int .i64 t.itemsOf.length),(10,.int .i64 i)]) (fun _ g=>h++([.arr 0 8 [t.enc]]++g))
     (fun _ r o=>∃ g,o=if r.all smallI=true then (.exit 0,[(1,c0),(2,.ptr h.length 0 8 0 0),(8,.isl (t.itemsOf.map It.enc)),(9,.int .i64 t.itemsOf.length),(10,.int .i64 (t.itemsOf).length)],h++([.arr 0 8 [t.enc]]++g)) else (.ret,[(3,.bool false)],h++([.arr 0 8 [t.enc]]++g))) ?_ ?_ [] trivial
 ·obtain ⟨o,h1,g,h2⟩:=hlp
  exact ⟨g,h2 ▸ h1⟩
 ·intro i x r g hd hi hx _ K hK
  have hw:=wrap_nat (n:=i + 1) (by omega)
  simp at hw
  have hm : x ∈ (t.itemsOf):=by rw [← hx]; exact List.getElem_mem hi
  have hsm:=small_ok x.name (by have:=Ty.wid_item (itemsOf_mem hm); have:=x.wid_name; omega)
  cases hv : smallI x
  ·refine ⟨_,?_,(g++[.arr 0 12 [x.enc]]),by simp only [List.all_cons,hv,Bool.false_and,Bool.false_eq_true,if_false]; rfl⟩
   unfold smallI at hv
   simp only [hv] at hsm
   simp [c151L0,hi,hx,hsm,]
  ·obtain ⟨o,h4,g2,h5⟩:=hK (g++[.arr 0 12 [x.enc]]) trivial
   refine ⟨o,?_,g2,by simp only [List.all_cons,hv,Bool.true_and]; exact h5⟩
   simp at h4
   unfold smallI at hv
   simp only [hv] at hsm
   simp [c151L0,hi,hx,hsm,hw,h4]
 ·intro g K _
  refine ⟨_,?_,g,by simp only [List.all_nil,if_true]; rfl⟩
  simp [c151L0]
theorem namesf_ok (m : Md) (ps : List ByteArray) (hm : m.ok) (hp : ps.length≤67108864) (t : Ty) (ht : t.wid≤67108864) (ws : Nat) (h : Avm.H) : callL cfg ws 151 [t.enc,.iptr [.str m.name,.isl (m.defs.map Df.enc),.isl (ps.map .str)]] h=some (.bool (nameP m ps t),h):=by
 have h1:=itemsOf_ok t
 have h2:=great_ok t.name (Nat.le_trans t.wid_name ht)
 have h3:=containsS_ok ps t.name hp
 have h4:=def_ok m t.name hm.len
 obtain ⟨g,hl⟩:=names_loop t ht h (.iptr [.str m.name,.isl (m.defs.map Df.enc),.isl (ps.map .str)])
 refine callL_fn rfl rfl ?_
 unfold nameP refP
 simp at h1
 simp [Md.enc] at h4
 cases q1 : t.itemsOf.all smallI
 ·rw [q1] at hl
  simp at hl
  simp [F151,c151,h1,hl]
 ·rw [q1] at hl
  by_cases q2 : t.kind=10
  ·simp [q2] at hl h1
   cases q3 : greatB t.name
   ·rw [q3] at h2
    simp [F151,c151,h1,hl,q2,h2]
   ·rw [q3] at h2
    cases q4 : inS ps t.name
    ·rw [q4] at h3
     cases q5 : m.defs.find? (isD t.name) with
     | none=>
      rw [q5] at h4
      simp [dptr] at h4
      simp [F151,c151,h1,hl,q2,h2,h3,h4]
     | some d=>
      rw [q5] at h4
      simp [dptr,Df.cells] at h4
      simp [F151,c151,h1,hl,q2,h2,h3,h4,beq_nat]
    ·rw [q4] at h3
     have e0 : (((t.kids.length : Nat) : Int) == 0)=decide (t.kids=[]):=by rw [beq_zero]; simp
     simp [F151,c151,h1,hl,q2,h2,h3,e0]
  ·simp at hl
   simp [F151,c151,h1,hl,q2]
theorem names_ok (m : Md) (ps : List ByteArray) (hm : m.ok) (hp : ps.length≤67108864) (t : Ty) (hw0 : t.wid≤67108864) (hb : t.nodes≤67108864) (ws : Nat) (h : Avm.H) : callL cfg ws 80 [.agg [.str m.name,.isl (m.defs.map Df.enc),.isl (ps.map .str)],t.enc] h=some (.bool (t.allP (nameP m ps)),h):=by
 have h2:=fun ws h cap hcap=>within_ok (cap':=[.iptr [.str m.name,.isl (m.defs.map Df.enc),.isl (ps.map .str)]]) (k:=0) (.inl rfl) (by simp) _ t (Nat.le_refl _) hw0 hb (fun x _ hx _ ws h'=>by simpa using namesf_ok m ps hm hp x (Nat.le_trans hx hw0) ws h') ws h cap hcap
 refine callL_fn rfl rfl ?_
 simp at h2
 simp [F80,c80,h2]
end Go.Proofs.YtflbneepngjglaaGreatDoor
namespace Go.Proofs.YtflbneepngjglaaGreatDoor
open Go Go.Avm Go.RowKit Go.ChangeShapes Go.WideShapes Go.ChangeAt
theorem vals_of : ∀ (els : List AV),(∀ x ∈ els,∃ v : Val,x=v.enc∧v.size≤x.bulk)→∃ l : List Val,els=l.map Val.enc∧Val.sizeL l≤bulkL els
 | [],_=>⟨[],rfl,by simp [Val.sizeL]⟩
 | x :: r,h=>by
  obtain ⟨v,h1,h2⟩:=h x (by simp)
  obtain ⟨l,h3,h4⟩:=vals_of r fun y hy=>h y (by simp [hy])
  exact ⟨v :: l,by rw [List.map_cons,← h1,← h3],by simp only [Val.sizeL,bulkL]; omega⟩
set_option maxRecDepth 100000 in
theorem val_of : ∀ (n f : Nat) (l : List AV),f≤n→hasTy Tryz.prog f 31 l→∃ v : Val,AV.agg l=v.enc∧v.size≤(AV.agg l).bulk
 | 0,f,l,hf,h=>by
  have : f=0:=by omega
  subst this; cases h
 | n + 1,f,l,hf,h=>by
  have hag : aggT Tryz.prog 31=true:=by simp [aggT,Tryz.underlying31]
  have h1:=hasTy_struct Tryz.underlying31 (by kernel_rfl) h
  obtain ⟨y1,z1,rfl,k1,y2,z2,rfl,k2,y3,z3,rfl,k3,y4,z4,rfl,k4,rfl⟩:=h1
  obtain ⟨k,rfl,_⟩:=hasTy_int Tryz.underlying3 k1
  obtain ⟨i,rfl,_⟩:=hasTy_int Tryz.underlying3 k2
  obtain ⟨b,rfl⟩:=hasTy_str Tryz.underlying9 k3
  obtain ⟨els,rfl,he⟩:=hasTy_slice Tryz.underlying29 (by decide +kernel) k4
  obtain ⟨r,rfl,hr⟩:=vals_of els fun x hx=>by
   obtain ⟨l,rfl,hl⟩:=he x hx
   rw [hag]
   refine val_of n _ l ?_ hl
   have : f ≠ 0:=fun e=>by subst e; cases h
   omega
  refine ⟨.mk k i b r,by simp,?_⟩
  simp [AV.bulk,bulkL,Val.size]
  omega
theorem bulkOk (H : Type) : BulkOk (H:=H) Rows.uptoBulk Rows.uptoBulkAll where
 one:=fun d=>by
  cases d with
  | lit l=>cases l <;> simp [Rows.uptoBulk]
  | _=>simp [Rows.uptoBulk]
 str:=fun l=>by simp [Rows.uptoBulk]
 ptr:=fun d=>by simp [Rows.uptoBulk]
 slice:=fun es sp=>by simp only [Rows.uptoBulk]; omega
 agg:=fun ps=>by simp [Rows.uptoBulk]
 cons:=fun d r=>by simp [Rows.uptoBulkAll]
theorem own : ownKnob Tryz.prog.godebug=none:=by kernel_rfl
mutual
def flatD : DataW Unit→List Value
 | .lit (.int k n)=>[.int k n]
 | .agg l=>flatDL l
 | _=>[]
def flatDL : List (DataW Unit)→List Value
 | []=>[]
 | d :: r=>flatD d++flatDL r
end
def layAs (cs : Array Value) : Obj→Obj
 | .cells _ t frozen=>.cells cs t frozen
 | o=>o
noncomputable def laidWorld (os : Os) : World:=
 { World.holding Tryz.prog os ⟨#[],#[],[]⟩ with heap:=((World.holding Tryz.prog os ⟨#[],#[],[]⟩).heap.modify 1 (layAs (flatD Rows.laid_unicode_utf8_first).toArray)).modify 2 (layAs (flatD Rows.laid_unicode_utf8_acceptRanges).toArray) }
theorem its_of : ∀ (els : List AV),(∀ x ∈ els,∃ v : It,x=v.enc∧v.size≤x.bulk)→∃ l : List It,els=l.map It.enc∧It.sizeL l≤bulkL els
 | [],_=>⟨[],rfl,by simp [It.sizeL]⟩
 | x :: r,h=>by
  obtain ⟨v,h1,h2⟩:=h x (by simp)
  obtain ⟨l,h3,h4⟩:=its_of r fun y hy=>h y (by simp [hy])
  exact ⟨v :: l,by rw [List.map_cons,← h1,← h3],by simp only [It.sizeL,bulkL]; omega⟩
theorem tys_of : ∀ (els : List AV),(∀ x ∈ els,∃ v : Ty,x=v.enc∧v.size≤x.bulk)→∃ l : List Ty,els=l.map Ty.enc∧Ty.sizeL l≤bulkL els
 | [],_=>⟨[],rfl,by simp [Ty.sizeL]⟩
 | x :: r,h=>by
  obtain ⟨v,h1,h2⟩:=h x (by simp)
  obtain ⟨l,h3,h4⟩:=tys_of r fun y hy=>h y (by simp [hy])
  exact ⟨v :: l,by rw [List.map_cons,← h1,← h3],by simp only [Ty.sizeL,bulkL]; omega⟩
theorem bulkL_app : ∀ (a b : List AV),bulkL (a++b)=bulkL a + bulkL b
 | [],b=>by simp [bulkL]
 | x :: a,b=>by simp only [List.cons_append,bulkL,bulkL_app a b]; omega
set_option maxRecDepth 100000 in
theorem ty_of : ∀ (n f : Nat) (l : List AV),f≤n→hasTy Tryz.prog f 28 l→∃ t : Ty,l=t.cells∧t.size≤bulkL l + 1
 | 0,f,l,hf,h=>by
  have : f=0:=by omega
  subst this; cases h
 | n + 1,f,l,hf,h=>by
  have h0 : f ≠ 0:=fun e=>by subst e; cases h
  have hagT : aggT Tryz.prog 28=true:=by simp [aggT,Tryz.underlying28]
  have hagI : aggT Tryz.prog 46=true:=by simp [aggT,Tryz.underlying46]
  have hagV : aggT Tryz.prog 31=true:=by simp [aggT,Tryz.underlying31]
  have h1:=hasTy_struct Tryz.underlying28 (by kernel_rfl) h
  obtain ⟨y1,z1,rfl,k1,y2,z2,rfl,k2,y3,z3,rfl,k3,y4,z4,rfl,k4,y5,z5,rfl,k5,y6,z6,rfl,k6,y7,z7,rfl,k7,y8,z8,rfl,k8,rfl⟩:=h1
  obtain ⟨k,rfl,_⟩:=hasTy_int Tryz.underlying3 k1
  obtain ⟨nm,rfl⟩:=hasTy_str Tryz.underlying9 k2
  obtain ⟨lo,rfl,_⟩:=hasTy_int Tryz.underlying3 k3
  obtain ⟨hi,rfl,_⟩:=hasTy_int Tryz.underlying3 k4
  obtain ⟨fr,rfl⟩:=hasTy_bool Tryz.underlying4 k5
  obtain ⟨ex,rfl⟩:=hasTy_bool Tryz.underlying4 k6
  obtain ⟨e7,rfl,he7⟩:=hasTy_slice Tryz.underlying25 (by decide +kernel) k7
  obtain ⟨e8,rfl,he8⟩:=hasTy_slice Tryz.underlying26 (by decide +kernel) k8
  obtain ⟨its,rfl,hits⟩:=its_of e7 fun x hx=>by
   obtain ⟨l,rfl,hl⟩:=he7 x hx
   rw [hagI]
   have g1:=hasTy_struct Tryz.underlying46 (by kernel_rfl) hl
   obtain ⟨y1,z1,rfl,k1,y2,z2,rfl,k2,y3,z3,rfl,k3,y4,z4,rfl,k4,y5,z5,rfl,k5,rfl⟩:=g1
   obtain ⟨nm,rfl⟩:=hasTy_str Tryz.underlying9 k1
   obtain ⟨of,rfl,hof⟩:=ty_of n _ _ (by omega) k2
   obtain ⟨o,rfl⟩:=hasTy_bool Tryz.underlying4 k3
   obtain ⟨x,rfl⟩:=hasTy_bool Tryz.underlying4 k4
   obtain ⟨els,rfl,he⟩:=hasTy_slice Tryz.underlying29 (by decide +kernel) k5
   obtain ⟨d,rfl,hd⟩:=vals_of els fun x hx=>by
    obtain ⟨l,rfl,hl⟩:=he x hx
    rw [hagV]
    exact val_of _ _ l (Nat.le_refl _) hl
   refine ⟨.mk nm of o x d,by simp [It.enc,It.cells,ofCells],?_⟩
   simp [AV.bulk,bulkL,bulkL_app,It.size,ofCells]
   omega
  obtain ⟨ks,rfl,hks⟩:=tys_of e8 fun x hx=>by
   obtain ⟨l,rfl,hl⟩:=he8 x hx
   rw [hagT]
   obtain ⟨t,rfl,ht⟩:=ty_of n _ l (by omega) hl
   exact ⟨t,rfl,by simp [ofCells,AV.bulk]; omega⟩
  refine ⟨.mk k nm lo hi fr ex its ks,by simp [Ty.cells,It.encL_map,Ty.encL_map],?_⟩
  simp [AV.bulk,bulkL,Ty.size]
  omega
theorem bulk_strs : ∀ l : List ByteArray,l.length≤bulkL (l.map .str)∧∀ s ∈ l,s.size≤bulkL (l.map .str)
 | []=>⟨Nat.zero_le _,fun _ h=>by cases h⟩
 | x :: l=>by
  obtain ⟨h1,h2⟩:=bulk_strs l
  simp only [List.map_cons,bulkL,AV.bulk,List.length_cons,List.mem_cons]
  refine ⟨by omega,fun s hs=>?_⟩
  rcases hs with rfl | hs
  ·omega
  ·have:=h2 s hs; omega
set_option maxRecDepth 100000 in
theorem df_of {f : Nat} {l : List AV} (h : hasTy Tryz.prog f 83 l) : ∃ d : Df,AV.agg l=d.enc∧(∀ n,(AV.agg l).bulk≤n→d.params.length≤n∧(∀ p ∈ d.params,p.size≤n)∧d.name.size≤n∧d.of.size≤n):=by
 have h1:=hasTy_struct Tryz.underlying83 (by kernel_rfl) h
 obtain ⟨y1,z1,rfl,k1,y2,z2,rfl,k2,y3,z3,rfl,k3,rfl⟩:=h1
 obtain ⟨b1,rfl⟩:=hasTy_str Tryz.underlying9 k1
 obtain ⟨ps,rfl⟩:=hasTy_strs Tryz.underlying81 Tryz.underlying9 (by decide +kernel) k2
 obtain ⟨t,rfl,ht⟩:=ty_of _ _ _ (Nat.le_refl _) k3
 obtain ⟨hp1,hp2⟩:=bulk_strs ps
 refine ⟨⟨b1,ps,t⟩,by simp [Df.enc,Df.cells,Ty.cells_eq],fun n hn=>?_⟩
 simp only [AV.bulk,bulkL,bulkL_app,List.cons_append,List.nil_append,List.append_nil] at hn
 refine ⟨?_,fun p hp=>?_,?_,?_⟩
 ·dsimp only; omega
 ·have:=hp2 p hp; omega
 ·dsimp only; omega
 ·dsimp only; omega
theorem dfs_of : ∀ (els : List AV),(∀ x ∈ els,∃ d : Df,x=d.enc∧(∀ n,x.bulk≤n→d.params.length≤n∧(∀ p ∈ d.params,p.size≤n)∧d.name.size≤n∧d.of.size≤n))→∃ l : List Df,els=l.map Df.enc∧l.length≤bulkL els∧∀ d ∈ l,∀ n,bulkL els≤n→d.params.length≤n∧(∀ p ∈ d.params,p.size≤n)∧d.name.size≤n∧d.of.size≤n
 | [],_=>⟨[],rfl,Nat.zero_le _,fun _ h=>by cases h⟩
 | x :: r,h=>by
  obtain ⟨v,h1,h2⟩:=h x (by simp)
  obtain ⟨l,h3,h4,h5⟩:=dfs_of r fun y hy=>h y (by simp [hy])
  have hp : 1≤x.bulk:=by rw [h1]; simp [AV.bulk]
  refine ⟨v :: l,by rw [List.map_cons,← h1,← h3],by simp only [bulkL,List.length_cons]; omega,fun d hd n hn=>?_⟩
  simp only [bulkL] at hn
  rcases List.mem_cons.1 hd with rfl | hd
  ·exact h2 n (by omega)
  ·exact h5 d hd n (by omega)
set_option maxRecDepth 100000 in
theorem md_of {f : Nat} {l : List AV} (h : hasTy Tryz.prog f 24 l) (hn : bulkL l≤67108864) : ∃ m : Md,AV.agg l=m.enc∧m.ok:=by
 have h1:=hasTy_struct Tryz.underlying24 (by kernel_rfl) h
 obtain ⟨y1,z1,rfl,k1,y2,z2,rfl,k2,rfl⟩:=h1
 obtain ⟨b1,rfl⟩:=hasTy_str Tryz.underlying9 k1
 obtain ⟨els,rfl,he⟩:=hasTy_slice Tryz.underlying22 (by decide +kernel) k2
 have hag : aggT Tryz.prog 83=true:=by simp [aggT,Tryz.underlying83]
 obtain ⟨r,hr,hlen,hbs⟩:=dfs_of els fun y hy=>by
  obtain ⟨l,rfl,hl⟩:=he y hy
  rw [hag]
  obtain ⟨d,h1,h2⟩:=df_of hl
  exact ⟨d,h1,h2⟩
 subst hr
 have hb : b1.size≤67108864∧bulkL (r.map Df.enc)≤67108864:=by
  simp only [AV.bulk,bulkL,List.cons_append,List.nil_append] at hn
  omega
 exact ⟨⟨b1,r⟩,by simp [Md.enc],hb.1,by dsimp only; omega,fun d hd=>(hbs d hd _ hb.2).1,fun d hd=>(hbs d hd _ hb.2).2.1,fun d hd=>(hbs d hd _ hb.2).2.2.1,fun d hd=>(hbs d hd _ hb.2).2.2.2⟩
end Go.Proofs.YtflbneepngjglaaGreatDoor
namespace Go.Proofs.YtflbneepngjglaaGreatDoor
open Go Go.Avm Go.RowKit Go.ChangeShapes Go.WideShapes Go.ChangeAt
theorem typesPlain_j1 : (Rows.typesPlainUptoRow.inPlace == Tryz.pinned.checked.prog.inPlace 4)=true:=by kernel_rfl
theorem typesPlain_j2 : (Rows.typesPlainUptoRow.unfollowed == Tryz.pinned.checked.prog.unfollowed 4)=true:=by kernel_rfl
theorem typesPlain_j3 : (Rows.typesPlainUptoRow.recurses == Tryz.pinned.checked.prog.recurses 4)=true:=by kernel_rfl
theorem typesPlain_j4 : (Rows.typesPlainUptoRow.named == Tryz.pinned.checked.prog.varsNamed 4)=true:=by kernel_rfl
theorem typesPlain_j5 : laidOutB Tryz.pinned.checked.prog=true:=by kernel_rfl
theorem typesPlain_j6 : mapsRowed Tryz.pinned.checked.prog=true:=by kernel_rfl
theorem typesPlain_j7 : Tryz.pinned.checked.prog.stopsHeard=true:=by kernel_rfl
theorem typesPlain_j8 : Tryz.pinned.checked.prog.mayEnter=true:=by kernel_rfl
theorem typesPlain_j9 : (Rows.typesPlainUptoRow.lifted == Tryz.pinned.checked.prog.liftsFinal)=true:=by kernel_rfl
theorem typesPlain_j10 : (Tryz.pinned.checked.prog.make == some Rows.typesPlainUptoRow.make)=true:=by kernel_rfl
theorem typesPlain_j11 : (Rows.typesPlainUptoRow.plainKeys == Tryz.pinned.checked.prog.plainKeys)=true:=by kernel_rfl
theorem typesPlain_joined : joinedFacts Tryz.pinned.checked.prog 4 Tryz.f4 (Rows.OpenSpec.upto Rows.typesPlainSpec).bare Rows.typesPlainUptoRow=true:=by
 unfold joinedFacts
 simp only [Bool.and_eq_true]
 and_intros
 ·kernel_rfl
 ·exact typesPlain_j5
 ·exact typesPlain_j6
 ·kernel_rfl
 ·kernel_rfl
 ·kernel_rfl
 ·kernel_rfl
 ·kernel_rfl
 ·kernel_rfl
 ·exact typesPlain_j1
 ·exact typesPlain_j2
 ·exact typesPlain_j3
 ·exact typesPlain_j4
 ·kernel_rfl
 ·kernel_rfl
 ·kernel_rfl
 ·kernel_rfl
 ·kernel_rfl
 ·kernel_rfl
 ·kernel_rfl
 ·kernel_rfl
 ·kernel_rfl
 ·exact typesPlain_j11
 ·kernel_rfl
 ·exact typesPlain_j7
 ·exact typesPlain_j8
 ·exact typesPlain_j9
 ·exact typesPlain_j10
 ·kernel_rfl
 ·kernel_rfl
 ·kernel_rfl
 ·kernel_rfl
end Go.Proofs.YtflbneepngjglaaGreatDoor
