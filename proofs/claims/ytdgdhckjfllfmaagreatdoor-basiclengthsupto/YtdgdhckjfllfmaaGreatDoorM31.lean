/- Arguments that read are trees of the abstract machine. -/
import Derived.Test.YtdgdhckjfllfmaaGreatDoorM30
import Derived.DataReads
import Derived.ChangeReads
import Derived.ChangeArms
set_option linter.all false
namespace Go.Avm
open Go.RowKit
def aggT (P : Program) (t : TypeId) : Bool:=match P.underlying t with
 | some (.struct _)=>true
 | some (.array _ _)=>true
 | _=>false
def ofCells (ag : Bool) (xs : List AV) : AV:=if ag then .agg xs else xs.headD .any
def tiled (P : Program) : Nat→Nat→List Field→Bool
 | o,n,[]=>o == n
 | o,n,g :: r=>g.offset == o && tiled P (o + P.cellsOf g.type) n r
def partsTy (q : TypeId→List AV→Prop) : List Field→List AV→Prop
 | [],xs=>xs=[]
 | g :: r,xs=>∃ ys zs,xs=ys++zs∧q g.type ys∧partsTy q r zs
def hasTy (P : Program) : Nat→TypeId→List AV→Prop
 | 0,_,_=>False
 | f + 1,t,xs=>match P.underlying t with
  | some .bool=>∃ b,xs=[.bool b]
  | some (.int k)=>∃ n,xs=[.int k n]∧(Lit.int k n).wf=true
  | some .string=>∃ s : ByteArray,xs=[.str s]∧s.size≤maxLen
  | some (.pointer e)=>P.cellsOf e ≠ 0→xs=[.nilp] ∨ ∃ l,xs=[.iptr l]∧l.length=P.cellsOf e∧hasTy P f e l
  | some (.slice e)=>P.cellsOf e ≠ 0→∃ els,xs=[.isl els]∧els.length≤maxLen∧∀ x ∈ els,∃ l,x=ofCells (aggT P e) l∧l.length=P.cellsOf e∧hasTy P f e l
  | some (.struct fs)=>tiled P 0 (P.cellsOf t) fs.toList=true→partsTy (hasTy P f) fs.toList xs
  | _=>True
mutual
def AV.bulk : AV→Nat
 | .any=>0
 | .str s=>s.size + 1
 | .iptr l | .isl l | .agg l | .tup l | .clos _ _ l=>bulkL l + 1
 | .iface _ v=>v.bulk + 1
 | _=>1
def bulkL : List AV→Nat
 | []=>0
 | v :: l=>v.bulk + bulkL l
end
theorem bulkL_append : ∀ (l r : List AV),bulkL (l++r)=bulkL l + bulkL r
 | [],r=>by simp [bulkL]
 | x :: l,r=>by simp only [List.cons_append,bulkL,bulkL_append l r]; omega
theorem bulkL_anys {α : Type} : ∀ (l : List α),bulkL (l.map fun _=>AV.any)=0
 | []=>rfl
 | _ :: l=>by simp [bulkL,AV.bulk,bulkL_anys l]
structure BulkOk {H : Type} (B : DataW H→Nat) (BA : List (DataW H)→Nat) : Prop where
 one : ∀ d,1≤B d
 str : ∀ l,l.length + 1≤B (.lit (.string l))
 ptr : ∀ d,B d + 1≤B (.ptr d)
 slice : ∀ es sp,BA es + 1≤B (.slice es sp)
 agg : ∀ ps,BA ps + 1≤B (.agg ps)
 cons : ∀ d r,BA (d :: r)=B d + BA r
theorem bulkL_le {H : Type} {B : DataW H→Nat} {BA : List (DataW H)→Nat} (K : BulkOk B BA) : ∀ (els : List AV) (ds : List (DataW H)),(∀ (i : Nat) (x : AV),els[i]? = some x→∃ d,ds[i]? = some d∧x.bulk≤B d)→bulkL els≤BA ds
 | [],_,_=>by simp [bulkL]
 | x :: l,ds,h=>by
  obtain ⟨d,h1,h2⟩:=h 0 x rfl
  match ds,h1 with
  | d' :: r,h1=>
   have h1 : d'=d:=by simpa using h1
   subst h1
   have:=bulkL_le K l r fun i y hy=>by simpa using h (i + 1) y (by simpa using hy)
   simp only [bulkL,K.cons]; omega
section
variable {H : Type} {enc : TypeId × Value→H} {P : Program} {w : World} {base : Nat} {spare : Nat→Bool} {held : Bool} {V : View} {β : Beta}
theorem rel_anys : ∀ (l : List Value),RelL V β (l.map fun _=>AV.any) l
 | []=>by unfold RelL; rfl
 | v :: l=>by rw [List.map_cons]; unfold RelL; exact ⟨v,l,rfl,by unfold Rel; trivial,rel_anys l⟩
theorem relL_one {x : AV} {v : Value} (h : Rel V β x v) : RelL V β [x] [v]:=by
 unfold RelL; exact ⟨v,[],rfl,h,by unfold RelL; rfl⟩
theorem cells_relC (hV : ∀ c o v,w.cell? ⟨c,o,none⟩=some v→V.M c o=some v) {c : Nat} : ∀ {xs : List AV} {o : Nat} {cs : List Value},RelL V β xs cs→(∀ i v,cs[i]? = some v→w.cell? ⟨c,o + i,none⟩=some v)→RelC V β c o xs
 | [],_,_,_,_=>by unfold RelC; trivial
 | x :: xs,o,cs,hr,hc=>by
  unfold RelL at hr
  obtain ⟨v,r,rfl,h1,h2⟩:=hr
  unfold RelC
  refine ⟨⟨v,hV _ _ _ (by simpa using hc 0 v rfl),h1⟩,cells_relC hV h2 fun i u hu=>?_⟩
  have:=hc (i + 1) u (by simpa using hu)
  rwa [Nat.add_assoc,Nat.add_comm 1 i]
theorem cells_get {a : Addr} {n : Nat} {cs : List Value} (h : w.cells? base a n=some cs) : cs.length=n∧∀ i v,cs[i]? = some v→w.cell? (a.add i)=some v:=by
 unfold World.cells? at h
 split at h
 ·have h1:=mapM_some_length h
  simp at h1
  refine ⟨h1,fun i v hv=>?_⟩
  have hi : i < n:=by have:=(List.getElem?_eq_some_iff.1 hv).1; omega
  have:=mapM_some_get h i i (by simp [hi])
  rw [hv] at this
  exact this
 ·cases h
theorem relL_drop {xs : List AV} {cs : List Value} (h : RelL V β xs cs) (k n : Nat) : RelL V β ((xs.drop k).take n) ((cs.drop k).take n):=by
 obtain ⟨h1,h2⟩:=RelL_iff.1 h
 refine RelL_iff.2 ⟨by simp [h1],fun j x hj=>?_⟩
 rw [List.getElem?_take] at hj ⊢
 split at hj
 ·rename_i hjn
  rw [if_pos hjn]
  rw [List.getElem?_drop] at hj ⊢
  exact h2 _ x hj
 ·cases hj
def NoAgg (xs : List AV) : Prop:=∀ y ∈ xs,∀ l,y ≠ .agg l
theorem read_parts {B : DataW H→Nat} {BA : List (DataW H)→Nat} (K : BulkOk B BA) {f : TypeId→List Value→Option (DataW H × List MemPlace)} {q : TypeId→List AV→Prop} {cs : List Value} (hf : ∀ t l x,f t l=some x→∃ xs,q t xs∧RelL V β xs l∧NoAgg xs∧bulkL xs≤B x.1) : ∀ (fs : List Field) (xd : List (DataW H × List MemPlace)) (o : Nat),tiled P o cs.length fs=true →
    xd.length=fs.length→(∀ (i : Nat) (g : Field),fs[i]? = some g→f g.type ((cs.drop g.offset).take (P.cellsOf g.type))=xd[i]?)→o≤cs.length→∃ xs,partsTy q fs xs∧RelL V β xs (cs.drop o)∧NoAgg xs∧bulkL xs≤BA (xd.map (·.1))
 | [],xd,o,ht,_,_,_=>by
  have : o=cs.length:=by simpa [tiled] using ht
  subst this
  exact ⟨[],rfl,by rw [List.drop_length]; unfold RelL; rfl,fun y hy=>(by cases hy),by simp [bulkL]⟩
 | g :: r,[],o,ht,hl,hr,ho=>by simp at hl
 | g :: r,x :: xd,o,ht,hl,hr,ho=>by
  simp only [tiled,Bool.and_eq_true] at ht
  obtain ⟨h1,h2⟩:=ht
  have h1 : g.offset=o:=by simpa using h1
  have hx:=hr 0 g rfl
  simp only [List.getElem?_cons_zero] at hx
  obtain ⟨ys,hy,hry,ny,by1⟩:=hf _ _ _ hx
  have hle : o + P.cellsOf g.type≤cs.length:=by
   have go : ∀ (r : List Field) (o : Nat),tiled P o cs.length r=true→o≤cs.length:=by
    intro r
    induction r with
    | nil=>intro o h; simp [tiled] at h; omega
    | cons g r ih=>
     intro o h
     simp only [tiled,Bool.and_eq_true] at h
     have:=ih _ h.2
     omega
   exact go r _ h2
  obtain ⟨zs,hz,hrz,nz,by2⟩:=read_parts K hf r xd (o + P.cellsOf g.type) h2 (by simpa using hl) (fun i g' hg'=>by simpa using hr (i + 1) g' (by simpa using hg')) hle
  refine ⟨ys++zs,⟨ys,zs,rfl,hy,hz⟩,?_,fun y h=>(List.mem_append.1 h).elim (ny y) (nz y),by rw [bulkL_append,List.map_cons,K.cons]; omega⟩
  have hsplit : cs.drop o=(cs.drop o).take (P.cellsOf g.type)++cs.drop (o + P.cellsOf g.type):=by
   rw [← List.drop_drop]
   exact (List.take_append_drop _ _).symm
  rw [hsplit]
  rw [h1] at hry
  exact relL_append hry hrz
theorem trod_one {t : TypeId} {fuel : Nat} {cs : List Value} {x : DataW H × List MemPlace} (ha : aggT P t=false) (h : DataW.trod enc P w base spare held fuel t cs=some x) : cs.length=1:=by
 cases fuel with
 | zero=>simp [DataW.trod] at h
 | succ n=>
  unfold DataW.trod at h
  split at h <;> simp_all [aggT]
theorem addr_of {a : Addr} {n : Nat} {cs : List Value} (h : w.cells? base a n=some cs) (hn : n ≠ 0) : a=⟨a.block,a.off,none⟩:=by
 obtain ⟨h1,h2⟩:=cells_get h
 have h3:=h2 0 (cs[0]'(by omega)) (by simp)
 obtain ⟨b,o,sp⟩:=a
 cases sp with
 | none=>rfl
 | some k=>
  simp [Addr.add,World.cell?] at h3
  split at h3 <;> simp at h3
theorem addr_add {c o k : Nat} : (Addr.mk c o none).add k=⟨c,o + k,none⟩:=Addr.add_lit _ _ _
theorem list_choice {α : Type} {Q : Nat→α→Prop} : ∀ n,(∀ i,i < n→∃ x,Q i x)→∃ l : List α,l.length=n∧∀ i x,l[i]? = some x→Q i x
 | 0,_=>⟨[],rfl,fun i x h=>by simp at h⟩
 | n + 1,h=>by
  obtain ⟨l,h1,h2⟩:=list_choice n fun i hi=>h i (by omega)
  obtain ⟨x,hx⟩:=h n (by omega)
  refine ⟨l++[x],by simp [h1],fun i y hy=>?_⟩
  rcases Nat.lt_or_ge i l.length with h3 | h3
  ·rw [List.getElem?_append_left h3] at hy; exact h2 i y hy
  ·rw [List.getElem?_append_right h3] at hy
   have : i - l.length=0:=by
    have:=(List.getElem?_eq_some_iff.1 hy).1; simp at this; omega
   rw [this] at hy; simp at hy; subst hy
   have : i=n:=by omega
   subst this; exact hx
theorem read_of {B : DataW H→Nat} {BA : List (DataW H)→Nat} (K : BulkOk B BA) (hV : ∀ c o v,w.cell? ⟨c,o,none⟩=some v→V.M c o=some v) : ∀ (fuel : Nat) (t : TypeId) (cs : List Value) (x : DataW H × List MemPlace),DataW.trod enc P w base spare held fuel t cs=some x→∃ xs,hasTy P fuel t xs∧RelL V β xs cs∧NoAgg xs∧bulkL xs + (if aggT P t then 1 else 0)≤B x.1:=by
 intro fuel
 induction fuel with
 | zero=>intro t cs x h; simp [DataW.trod] at h
 | succ fuel ih=>
  intro t cs x h
  have ih' : ∀ t l x,DataW.trod enc P w base spare held fuel t l=some x→∃ xs,hasTy P fuel t xs∧RelL V β xs l∧NoAgg xs∧bulkL xs≤B x.1:=fun t l x h=>by
   obtain ⟨xs,h1,h2,h3,h4⟩:=ih t l x h
   exact ⟨xs,h1,h2,h3,by omega⟩
  have other : (∀ xs,hasTy P (fuel + 1) t xs)→∃ xs,hasTy P (fuel + 1) t xs∧RelL V β xs cs∧NoAgg xs∧bulkL xs + (if aggT P t then 1 else 0)≤B x.1:=fun hx=>⟨_,hx _,rel_anys cs,fun y hy l e=>by subst e; simp at hy,by
   have:=K.one x.1
   rw [bulkL_anys]; split <;> omega⟩
  cases hu : P.underlying t with
  | none=>exact other fun xs=>by simp [hasTy,hu]
  | some D=>
   cases D with
   | bool=>
    obtain ⟨b,rfl,rfl⟩:=DataW.trod_bool hu h
    exact ⟨[.bool b],by simp [hasTy,hu],relL_one (by unfold Rel; rfl),fun y hy l e=>by subst e; simp at hy,by simpa [bulkL,AV.bulk,aggT,hu] using K.one _⟩
   | int k=>
    obtain ⟨n,rfl,rfl,hw⟩:=DataW.trod_int hu h
    exact ⟨[.int k n],by simp [hasTy,hu,hw],relL_one (by unfold Rel; rfl),fun y hy l e=>by subst e; simp at hy,by simpa [bulkL,AV.bulk,aggT,hu] using K.one _⟩
   | string=>
    obtain ⟨s,rfl,rfl,hs⟩:=DataW.trod_string hu h
    exact ⟨[.str s],by simp [hasTy,hu,hs],relL_one (by unfold Rel; rfl),fun y hy l e=>by subst e; simp at hy,by
     have:=K.str s.data.toList
     have e : s.data.toList.length=s.size:=by simp
     simp [bulkL,AV.bulk,aggT,hu]; omega⟩
   | struct fs=>
    obtain ⟨xs,n,hn,rfl,hl,hxs,hp⟩:=DataW.trod_struct hu h
    have hn : fuel=n:=by omega
    subst hn
    have hag : aggT P t=true:=by simp [aggT,hu]
    by_cases ht : tiled P 0 (P.cellsOf t) fs.toList=true
    ·rw [← hl] at ht
     obtain ⟨ys,h1,h2,h3,h4⟩:=read_parts K (f:=DataW.trod enc P w base spare held fuel) (q:=hasTy P fuel) ih' fs.toList xs 0 ht (by simpa using hxs) (fun i g hg=>hp i g (by simpa using hg)) (Nat.zero_le _)
     have h5:=K.agg (xs.map (·.1))
     exact ⟨ys,by simp only [hasTy,hu]; exact fun _=>h1,by simpa using h2,h3,by rw [hag]; dsimp only; rw [if_pos rfl]; omega⟩
    ·exact other fun xs=>by simp only [hasTy,hu]; exact fun h=>absurd h ht
   | pointer e=>
    have hag : aggT P t=false:=by simp [aggT,hu]
    by_cases h0 : P.cellsOf e=0
    ·exact other fun xs=>by simp only [hasTy,hu]; exact fun h=>absurd h0 h
    ·rcases DataW.trod_pointer hu h with ⟨rfl,rfl⟩ | ⟨a,cs',y,n,hn,rfl,rfl,hc,hy⟩
     ·exact ⟨[.nilp],by simp [hasTy,hu],relL_one (by unfold Rel; rfl),fun y hy l e=>by subst e; simp at hy,by simpa [bulkL,AV.bulk,hag] using K.one _⟩
     ·have hn : fuel=n:=by omega
      subst hn
      obtain ⟨ys,h1,h2,_,h4⟩:=ih' e cs' y hy
      have ha:=addr_of hc h0
      obtain ⟨hl,hg⟩:=cells_get hc
      refine ⟨[.iptr ys],?_,relL_one ?_,fun y hy l e=>by subst e; simp at hy,by have:=K.ptr y.1; simp [bulkL,AV.bulk,hag]; omega⟩
      ·simp only [hasTy,hu]
       exact fun _=>.inr ⟨ys,rfl,by rw [← (RelL_iff.1 h2).1,hl],h1⟩
      ·unfold Rel
       refine ⟨a.block,a.off,by rw [ha],cells_relC hV h2 fun i v hv=>?_⟩
       have:=hg i v hv
       rw [ha,addr_add] at this
       exact this
   | slice e=>
    have hag : aggT P t=false:=by simp [aggT,hu]
    by_cases h0 : P.cellsOf e=0
    ·exact other fun xs=>by simp only [hasTy,hu]; exact fun h=>absurd h0 h
    ·rcases DataW.trod_slice hu h with ⟨rfl,rfl⟩ | ⟨a,len,cap,elems,rest,n,hn,rfl,rfl,_,hlc,hcm,hel,hg,_⟩
     ·refine ⟨[.isl []],by simp [hasTy,hu],relL_one ?_,fun y hy l e=>by subst e; simp at hy,by simpa [bulkL,AV.bulk,hag] using K.one _⟩
      unfold Rel; exact ⟨none,0,rfl,by simp,.inl rfl⟩
     ·have hn : fuel=n:=by omega
      subst hn
      obtain ⟨els,hl1,hl2⟩:=list_choice (Q:=fun i (x : AV)=>(∃ l,x=ofCells (aggT P e) l∧l.length=P.cellsOf e∧hasTy P fuel e l)∧(w.cells? base (a.add (i * P.cellsOf e)) (P.cellsOf e)).isSome=true ∧
          x.cells.length=P.cellsOf e∧RelC V β a.block (a.off + i * P.cellsOf e) x.cells∧∃ d,(elems.map (·.1))[i]? = some d∧x.bulk≤B d) len fun i hi=>by
       have h1:=hg i hi
       have hge : elems[i]? = some elems[i]:=List.getElem?_eq_getElem (by omega)
       rw [hge] at h1
       cases hc : w.cells? base (a.add (i * P.cellsOf e)) (P.cellsOf e) with
       | none=>rw [hc] at h1; cases h1
       | some cs'=>
        rw [hc] at h1
        obtain ⟨ys,k1,k2,k3,k4⟩:=ih e cs' _ h1
        obtain ⟨hl,hgt⟩:=cells_get hc
        have hlen : ys.length=P.cellsOf e:=by rw [← (RelL_iff.1 k2).1,hl]
        have hcb : (ofCells (aggT P e) ys).cells=ys∧(ofCells (aggT P e) ys).bulk≤bulkL ys + (if aggT P e then 1 else 0):=by
         cases hag : aggT P e with
         | true=>exact ⟨rfl,by simp [ofCells,AV.bulk]⟩
         | false=>
          have h5:=trod_one hag h1
          have : ys.length=1:=by omega
          match ys,this,k3 with
          | [y],_,k3=>exact ⟨cells_nonagg (k3 y (by simp)),by simp [ofCells,bulkL]⟩
        obtain ⟨hcells,hbulk⟩:=hcb
        have ha:=addr_of hc h0
        have hb : (a.add (i * P.cellsOf e)).block=a.block∧(a.add (i * P.cellsOf e)).off=a.off + i * P.cellsOf e:=by
         unfold Addr.add
         split
         ·rename_i hz; rw [hz]; exact ⟨rfl,rfl⟩
         ·exact ⟨rfl,rfl⟩
        refine ⟨_,⟨ys,rfl,hlen,k1⟩,rfl,by rw [hcells]; exact hlen,?_,_,by rw [List.getElem?_map,hge]; rfl,by dsimp only; omega⟩
        rw [hcells]
        refine cells_relC hV k2 fun q v hv=>?_
        have:=hgt q v hv
        rw [ha,addr_add,hb.1,hb.2] at this
        exact this
      have hbl : bulkL els≤BA (elems.map (·.1)):=bulkL_le K _ _ fun i x hx=>(hl2 i x hx).2.2.2.2
      have hsl:=K.slice (elems.map (·.1)) (rest.map (·.1))
      refine ⟨[.isl els],?_,relL_one ?_,fun y hy l e=>by subst e; simp at hy,by simp [bulkL,AV.bulk,hag]; omega⟩
      ·simp only [hasTy,hu]
       refine fun _=>⟨els,rfl,by omega,fun x hx=>?_⟩
       obtain ⟨i,hi,rfl⟩:=List.mem_iff_getElem.1 hx
       exact (hl2 i _ (List.getElem?_eq_getElem hi)).1
      ·unfold Rel
       refine ⟨some a,cap,by rw [hl1],by omega,?_⟩
       by_cases he : els=[]
       ·exact .inl he
       ·right
        have hpos : 0 < els.length:=List.length_pos_iff.2 he
        have h7:=(hl2 0 _ (List.getElem?_eq_getElem hpos)).2.1
        obtain ⟨cs0,hc0⟩:=Option.isSome_iff_exists.1 h7
        rw [Nat.zero_mul] at hc0
        have ha:=addr_of hc0 h0
        refine ⟨a.block,a.off,P.cellsOf e,?_,RelE_iff.2 fun i x hx=>?_⟩
        ·have hz : a.add 0=a:=by unfold Addr.add; rw [if_pos rfl]
         rw [hz] at ha; exact congrArg some ha
        ·obtain ⟨_,_,h8,h9,_⟩:=hl2 i x hx
         exact ⟨h8,RelC_iff.1 h9⟩
   | _=>exact other fun xs=>by simp [hasTy,hu]
end
end Go.Avm
