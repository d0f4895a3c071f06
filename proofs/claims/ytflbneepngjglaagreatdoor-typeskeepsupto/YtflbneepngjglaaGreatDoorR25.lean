/- Short words for the machine's commonest commands: code texts are shorter by half. -/
import Derived.Test.YtflbneepngjglaaGreatDoorR24
set_option linter.all false
namespace Go.Avm
attribute [simp] evF finish enterArgs norm evC argEnv keeping andThen done evS evS1 andV doOp evI O.val Env.get putD Env.put Env.keep Env.drop resOf tupOf leave own3 own2 own1 ownL regain
 binI eqI unI valIn valAt dstsL S1.dsts frzL snapL deep kill AV.pure pureL ifB inBlock wsOf cellsAt ldc fillP partsOf optVal bound setAt look elsOf valL isPtr isFn isIfc ifFar farAll Dyn.ok aliveV alive farV blockOf AV.scalar AV.flat AV.ones keptV octs octL bufOf AV.top topL
@[simp] theorem sameL_self (l : List AV) : sameL l l=true:=sameL_refl l
@[simp] theorem cells_mref (b : Nat) : AV.cells (AV.mref b)=[(AV.mref b)]:=rfl
@[simp] theorem one_mref (b : Nat) : AV.one (AV.mref b)=true:=rfl
@[simp] theorem cells_nilm : AV.cells (AV.nilm)=[(AV.nilm)]:=rfl
@[simp] theorem one_nilm : AV.one (AV.nilm)=true:=rfl
@[simp] theorem cells_nils : AV.cells (AV.nils)=[(AV.nils)]:=rfl
@[simp] theorem one_nils : AV.one (AV.nils)=true:=rfl
@[simp] theorem cells_nbuf (b : Nat) : AV.cells (AV.nbuf b)=[(AV.nbuf b)]:=rfl
@[simp] theorem one_nbuf (b : Nat) : AV.one (AV.nbuf b)=true:=rfl
@[simp] theorem cells_bufC (b n : Nat) : AV.cells (bufC b n)=[bufC b n]:=by unfold bufC; split <;> rfl
@[simp] theorem one_bufC (b n : Nat) : AV.one (bufC b n)=true:=by unfold bufC; split <;> rfl
@[simp] theorem bufOf_bufC (b n : Nat) : bufOf (bufC b n)=some (b,n):=by unfold bufC; split <;> simp_all [bufOf]
@[simp] theorem cells_any  : AV.cells (AV.any)=[(AV.any)]:=rfl
@[simp] theorem one_any  : AV.one (AV.any)=false:=rfl
@[simp] theorem cells_bool (b : Bool) : AV.cells (AV.bool b)=[(AV.bool b)]:=rfl
@[simp] theorem one_bool (b : Bool) : AV.one (AV.bool b)=true:=rfl
@[simp] theorem cells_int (k : IntKind) (n : Int) : AV.cells (AV.int k n)=[(AV.int k n)]:=rfl
@[simp] theorem one_int (k : IntKind) (n : Int) : AV.one (AV.int k n)=true:=rfl
@[simp] theorem cells_str (s : ByteArray) : AV.cells (AV.str s)=[(AV.str s)]:=rfl
@[simp] theorem one_str (s : ByteArray) : AV.one (AV.str s)=true:=rfl
@[simp] theorem cells_nilp  : AV.cells (AV.nilp)=[(AV.nilp)]:=rfl
@[simp] theorem one_nilp  : AV.one (AV.nilp)=true:=rfl
@[simp] theorem cells_ptr (b v z i o : Nat) : AV.cells (AV.ptr b v z i o)=[(AV.ptr b v z i o)]:=rfl
@[simp] theorem one_ptr (b v z i o : Nat) : AV.one (AV.ptr b v z i o)=true:=rfl
@[simp] theorem cells_iptr (l : List AV) : AV.cells (AV.iptr l)=[(AV.iptr l)]:=rfl
@[simp] theorem one_iptr (l : List AV) : AV.one (AV.iptr l)=true:=rfl
@[simp] theorem cells_isl (l : List AV) : AV.cells (AV.isl l)=[(AV.isl l)]:=rfl
@[simp] theorem one_isl (l : List AV) : AV.one (AV.isl l)=true:=rfl
@[simp] theorem cells_esl  : AV.cells (AV.esl)=[(AV.esl)]:=rfl
@[simp] theorem one_esl  : AV.one (AV.esl)=true:=rfl
@[simp] theorem cells_osl (b v z o l : Nat) : AV.cells (AV.osl b v z o l)=[(AV.osl b v z o l)]:=rfl
@[simp] theorem one_osl (b v z o l : Nat) : AV.one (AV.osl b v z o l)=true:=rfl
@[simp] theorem cells_agg (l : List AV) : AV.cells (AV.agg l)=l:=rfl
@[simp] theorem one_agg (l : List AV) : AV.one (AV.agg l)=false:=rfl
@[simp] theorem cells_tup (l : List AV) : AV.cells (AV.tup l)=[(AV.tup l)]:=rfl
@[simp] theorem one_tup (l : List AV) : AV.one (AV.tup l)=false:=rfl
@[simp] theorem cells_clos (f : FuncId) (k : Nat) (l : List AV) : AV.cells (AV.clos f k l)=[(AV.clos f k l)]:=rfl
@[simp] theorem one_clos (f : FuncId) (k : Nat) (l : List AV) : AV.one (AV.clos f k l)=true:=rfl
@[simp] theorem cells_nilf  : AV.cells (AV.nilf)=[(AV.nilf)]:=rfl
@[simp] theorem one_nilf  : AV.one (AV.nilf)=true:=rfl
@[simp] theorem cells_nili  : AV.cells (AV.nili)=[(AV.nili)]:=rfl
@[simp] theorem one_nili  : AV.one (AV.nili)=true:=rfl
@[simp] theorem cells_iface (t : TypeId) (v : AV) : AV.cells (AV.iface t v)=[(AV.iface t v)]:=rfl
@[simp] theorem one_iface (t : TypeId) (v : AV) : AV.one (AV.iface t v)=true:=rfl
theorem frz_pure {base : Nat} : ∀ {n : Nat} {v : AV} {h : H},v.pure=true→frz base n v h=some (v,h)
 | 0,v,h,hp=>by simp only [frz,hp,if_true]
 | n + 1,v,h,hp=>by unfold frz; rw [if_pos hp]
theorem frzL_pure {base n : Nat} {h : H} : ∀ {l : List AV},pureL l=true→frzL (frz base n) l h=some (l,h)
 | [],_=>rfl
 | v :: l,hp=>by
  simp only [pureL,Bool.and_eq_true] at hp
  simp only [frzL,frz_pure hp.1,frzL_pure hp.2]
@[simp] theorem frz_agg (base n : Nat) (l : List AV) (h : H) : frz base (n + 1) (.agg l) h=match frzL (frz base n) l h with | some (l',h')=>some (.agg l',h') | none=>none:=by
 by_cases hp : pureL l=true
 ·rw [frz_pure (by simpa using hp),frzL_pure hp]
 ·rw [frz,if_neg (by simpa using hp)]; rfl
@[simp] theorem frz_tup (base n : Nat) (l : List AV) (h : H) : frz base (n + 1) (.tup l) h=match frzL (frz base n) l h with | some (l',h')=>some (.tup l',h') | none=>none:=by
 by_cases hp : pureL l=true
 ·rw [frz_pure (by simpa using hp),frzL_pure hp]
 ·rw [frz,if_neg (by simpa using hp)]; rfl
@[simp] theorem frz_isl (base n : Nat) (l : List AV) (h : H) : frz base (n + 1) (.isl l) h=match frzL (frz base n) l h with | some (l',h')=>some (.isl l',h') | none=>none:=by
 by_cases hp : pureL l=true
 ·rw [frz_pure (by simpa using hp),frzL_pure hp]
 ·rw [frz,if_neg (by simpa using hp)]; rfl
@[simp] theorem frz_esl (base n : Nat) (h : H) : frz base (n + 1) .esl h=some (.isl [],h):=rfl
@[simp] theorem frz_osl (base n b ver sz off len : Nat) (h : H) : frz base (n + 1) (.osl b ver sz off len) h=if b < base then some (.osl b ver sz off len,h) else match look h b ver sz off len with
      | some els=>(match frzL (frz base n) els (kill h b ver) with | some (l',h')=>some (.isl l',h') | none=>none)
      | none=>none:=rfl
@[simp] theorem frz_ptr (base n b ver sz i o : Nat) (h : H) : frz base (n + 1) (.ptr b ver sz i o) h=if b < base then some (.ptr b ver sz i o,h) else none:=rfl
@[simp] theorem frz_int (base n : Nat) (k : IntKind) (x : Int) (h : H) : frz base n (.int k x) h=some (.int k x,h):=frz_pure rfl
@[simp] theorem frz_bool (base n : Nat) (b : Bool) (h : H) : frz base n (.bool b) h=some (.bool b,h):=frz_pure rfl
@[simp] theorem frz_str (base n : Nat) (s : ByteArray) (h : H) : frz base n (.str s) h=some (.str s,h):=frz_pure rfl
@[simp] theorem frz_nilp (base n : Nat) (h : H) : frz base n .nilp h=some (.nilp,h):=frz_pure rfl
theorem snap_pure {h : H} : ∀ {n : Nat} {v : AV},v.pure=true→snap h n v=some v
 | 0,v,hp=>by simp only [snap,hp,if_true]
 | n + 1,v,hp=>by unfold snap; rw [if_pos hp]
theorem snapL_pure {h : H} {n : Nat} : ∀ {l : List AV},pureL l=true→snapL (snap h n) l=some l
 | [],_=>rfl
 | v :: l,hp=>by
  simp only [pureL,Bool.and_eq_true] at hp
  simp only [snapL,snap_pure hp.1,snapL_pure hp.2]
@[simp] theorem snap_agg (h : H) (n : Nat) (l : List AV) : snap h (n + 1) (.agg l)=(snapL (snap h n) l).map .agg:=by
 by_cases hp : pureL l=true
 ·rw [snap_pure (by simpa using hp),snapL_pure hp]; rfl
 ·rw [snap,if_neg (by simpa using hp)]
@[simp] theorem snap_isl (h : H) (n : Nat) (l : List AV) : snap h (n + 1) (.isl l)=(snapL (snap h n) l).map .isl:=by
 by_cases hp : pureL l=true
 ·rw [snap_pure (by simpa using hp),snapL_pure hp]; rfl
 ·rw [snap,if_neg (by simpa using hp)]
@[simp] theorem snap_clos (h : H) (n : Nat) (f : FuncId) (k : Nat) (l : List AV) : snap h (n + 1) (.clos f k l)=(snapL (snap h n) l).map (.clos f k):=by
 by_cases hp : pureL l=true
 ·rw [snap_pure (by simpa using hp),snapL_pure hp]; rfl
 ·rw [snap,if_neg (by simpa using hp)]
@[simp] theorem snap_esl (h : H) (n : Nat) : snap h (n + 1) .esl=some (.isl []):=rfl
@[simp] theorem snap_osl (h : H) (n b ver sz off len : Nat) : snap h (n + 1) (.osl b ver sz off len)=match look h b ver sz off len with
      | some els=>(snapL (snap h n) els).map .isl
      | none=>none:=rfl
@[simp] theorem snap_int (h : H) (n : Nat) (k : IntKind) (x : Int) : snap h n (.int k x)=some (.int k x):=snap_pure rfl
@[simp] theorem snap_bool (h : H) (n : Nat) (b : Bool) : snap h n (.bool b)=some (.bool b):=snap_pure rfl
@[simp] theorem snap_str (h : H) (n : Nat) (s : ByteArray) : snap h n (.str s)=some (.str s):=snap_pure rfl
@[simp] theorem snap_nilp (h : H) (n : Nat) : snap h n .nilp=some .nilp:=snap_pure rfl
@[simp] theorem snapL_strs (h : H) (n : Nat) (l : List ByteArray) : snapL (snap h n) (l.map AV.str)=some (l.map AV.str):=snapL_pure (by induction l <;> simp_all)
@[simp] theorem frzL_strs (base n : Nat) (l : List ByteArray) (h : H) : frzL (frz base n) (l.map AV.str) h=some (l.map AV.str,h):=frzL_pure (by induction l <;> simp_all)
@[simp] theorem heap_get (h x : H) (k : Nat) : (h++x)[h.length + k]? = x[k]?:=by rw [List.getElem?_append_right (by omega)]; congr 1; omega
@[simp] theorem heap_get0 (h x : H) : (h++x)[h.length]? = x[0]?:=heap_get h x 0
@[simp] theorem heap_set (h x : H) (k : Nat) (v : ABlock) : (h++x).set (h.length + k) v=h++x.set k v:=by
 have:=List.set_append_right (s:=h) (t:=x) (h.length + k) v (by omega)
 rw [Nat.add_sub_cancel_left] at this; exact this
@[simp] theorem heap_set0 (h x : H) (v : ABlock) : (h++x).set h.length v=h++x.set 0 v:=heap_set h x 0 v
@[simp] theorem take_len_map {α β : Type} (f : α→β) (l : List α) : List.take l.length (l.map f)=l.map f:=by rw [← List.length_map (f:=f),List.take_length]
@[simp] theorem not_add_lt (n k : Nat) : (n + k < n) ↔ False:=by simp
theorem ite_pair {α β : Type} (c : Prop) [Decidable c] (a b : α) (h : β) : (if c then some (a,h) else some (b,h))=some (if c then a else b,h):=by split <;> rfl
theorem ite_bool (c : Prop) [Decidable c] (a b : Bool) : (if c then AV.bool a else AV.bool b)=AV.bool (if c then a else b):=by split <;> rfl
attribute [simp] ite_pair ite_bool
@[simp] theorem ite_and (a b : Bool) : (if a=true then b else a)=(a && b):=by cases a <;> rfl
@[simp] theorem ite_and' (a b : Bool) : (if a=true then b else false)=(a && b):=by cases a <;> rfl
@[simp] theorem ite_or (a b : Bool) : (if a=true then a else b)=(a || b):=by cases a <;> rfl
@[simp] theorem ite_or' (a b : Bool) : (if a=false then b else a)=(a || b):=by cases a <;> rfl
@[simp] theorem ite_orn (a b : Bool) : (if a=false then b else true)=(a || b):=by cases a <;> rfl
@[simp] theorem pureL_strs (l : List ByteArray) : pureL (l.map AV.str)=true:=by induction l <;> simp_all
theorem roundsL_k {f : Env→H→Out} {keep : List Nat} {e : Env} {h : H} {r : Ex × Env × H} (ev : ∀ K : Env→H→Out,(∀ e h,K e h=roundsL f keep e h)→andThen (f (e.keep keep) h) K=some r) : roundsL f keep e h=some r:=roundsL_step (ev _ fun _ _=>rfl)
theorem wrap_nat {n : Nat} (h : n < 9223372036854775808) : IntKind.wrap .i64 (n : Int)=n:=by
 simp [IntKind.wrap,IntKind.bits,IntKind.signed]; omega
theorem wrap_id {n : Int} (h1 : -9223372036854775808≤n) (h2 : n < 9223372036854775808) : IntKind.wrap .i64 n=n:=by
 simp [IntKind.wrap,IntKind.bits,IntKind.signed]; omega
theorem loop_up {f : Env→H→Out} {keep : List Nat} (n : Nat) (S : Nat→Env) (G : Nat→H) (R : Nat→Ex × Env × H)
    (step : ∀ i,i < n→∀ K : Env→H→Out,K (S (i + 1)) (G (i + 1))=some (R (i + 1))→andThen (f ((S i).keep keep) (G i)) K=some (R i))
    (last : ∀ K,andThen (f ((S n).keep keep) (G n)) K=some (R n)) : roundsL f keep (S 0) (G 0)=some (R 0):=by
 have go : ∀ k i,i + k=n→roundsL f keep (S i) (G i)=some (R i):=by
  intro k
  induction k with
  | zero=>intro i hi; have : i=n:=by omega
          subst this; exact roundsL_step (last _)
  | succ k ih=>intro i hi; exact roundsL_step (step i (by omega) _ (ih (i + 1) (by omega)))
 exact go n 0 (by omega)
theorem loop_list {α : Type} {f : Env→H→Out} {keep : List Nat} (l : List α) (S : Nat→Env) (G : Nat→H) (R : Nat→List α→Ex × Env × H)
    (step : ∀ i x r,l.drop i=x :: r→(hi : i < l.length)→l[i]=x→∀ K : Env→H→Out,K (S (i + 1)) (G (i + 1))=some (R (i + 1) r)→andThen (f ((S i).keep keep) (G i)) K=some (R i (x :: r)))
    (last : ∀ K,andThen (f ((S l.length).keep keep) (G l.length)) K=some (R l.length [])) : roundsL f keep (S 0) (G 0)=some (R 0 l):=by
 have:=loop_up (f:=f) (keep:=keep) l.length S G (fun i=>R i (l.drop i)) (fun i hi K hK=>by
  have hd : l.drop i=l[i] :: l.drop (i + 1):=List.drop_eq_getElem_cons hi
  show _=some (R i (l.drop i))
  rw [hd]
  exact step i _ _ hd hi rfl K hK) (fun K=>by simpa using last K)
 simpa using this
theorem loop_post {α γ : Type} {f : Env→H→Out} {keep : List Nat} (l : List α) (I : Nat→γ→Prop) (S : Nat→γ→Env) (G : Nat→γ→H) (Post : Nat→List α→Ex × Env × H→Prop)
    (step : ∀ i x r c,l.drop i=x :: r→(hi : i < l.length)→l[i]=x→I i c→∀ K : Env→H→Out,(∀ c',I (i + 1) c'→∃ o,K (S (i + 1) c') (G (i + 1) c')=some o∧Post (i + 1) r o)→∃ o,andThen (f ((S i c).keep keep) (G i c)) K=some o∧Post i (x :: r) o)
    (last : ∀ c K,I l.length c→∃ o,andThen (f ((S l.length c).keep keep) (G l.length c)) K=some o∧Post l.length [] o) (c : γ) (h0 : I 0 c) : ∃ o,roundsL f keep (S 0 c) (G 0 c)=some o∧Post 0 l o:=by
 have go : ∀ k i c,i + k=l.length→I i c→∃ o,roundsL f keep (S i c) (G i c)=some o∧Post i (l.drop i) o:=by
  intro k
  induction k with
  | zero=>
   intro i c hi hI
   have : i=l.length:=by omega
   subst this
   obtain ⟨o,h1,h2⟩:=last c _ hI
   exact ⟨o,roundsL_step h1,by simpa using h2⟩
  | succ k ih=>
   intro i c hi hI
   have hlt : i < l.length:=by omega
   have hd : l.drop i=l[i] :: l.drop (i + 1):=List.drop_eq_getElem_cons hlt
   obtain ⟨o,h1,h2⟩:=step i _ _ c hd hlt rfl hI _ fun c' hc'=>ih (i + 1) c' (by omega) hc'
   exact ⟨o,roundsL_step h1,by rw [hd]; exact h2⟩
 simpa using go l.length 0 c (by omega) h0
def SlcIn (n k sz : Nat) (g : H) (acc : List AV) (v : AV) : Prop:=(acc=[]∧v = .esl) ∨ ∃ j ver,v = .osl (n + (j + k)) ver sz 0 acc.length∧g[j]? = some (.arr ver sz acc)
end Go.Avm
namespace Go.Avm
@[reducible,simp] def O.i (n : Int) : O:=.k (.int .i64 n)
@[reducible,simp] def S1.o (d : Nat) (i : I) : S1:=.op (some d) i
@[reducible,simp] def S1.n (i : I) : S1:=.op none i
@[reducible,simp] def S1.m (d x : Nat) : S1:=.op (some d) (.mv (.t x))
@[reducible,simp] def S1.l (d sz x : Nat) : S1:=.op (some d) (.ld sz true (.t x))
@[reducible,simp] def S1.c (d x : Nat) : S1:=.op (some d) (.ld 1 false (.t x))
@[reducible,simp] def S1.f (d off x : Nat) : S1:=.op (some d) (.fadr off (.t x))
@[reducible,simp] def S1.x (d sz x i : Nat) : S1:=.op (some d) (.idxa sz (.t x) (.t i))
@[reducible,simp] def S1.b (d : Nat) (op : BinOp) (x y : Nat) : S1:=.op (some d) (.bin op (.t x) (.t y))
@[reducible,simp] def S1.s (sz x v : Nat) : S1:=.op none (.st sz (.t x) (.t v))
@[reducible,simp] def S1.u (d x i : Nat) : S1:=.op (some d) (.tupx (.t x) i)
@[reducible,simp] def S1.e (d x : Nat) : S1:=.op (some d) (.len false (.t x))
@[reducible,simp] def S1.j (d : Nat) (op : BinOp) (x : Nat) (n : Int) : S1:=.op (some d) (.bin op (.t x) (.k (.int .i64 n)))
@[reducible,simp] def S1.a (d : Nat) (f : FuncId) (l : List Nat) : S1:=.op (some d) (.call f (l.map .t))
@[reducible,simp] def C.y (x : Nat) (a b : C) : C:=.cond (.t x) a b
end Go.Avm
