/- Each operation: what the abstract machine says of it, the model does. -/
import Derived.Test.YtflbneepngjglaaGreatDoorP08
import Derived.Laws.Strings
import Derived.Laws.Strings2
import Derived.Laws.Slices
import Derived.Laws.Build
import Derived.Laws.Cells
import Derived.Laws.RangeString
import Derived.Laws.Shifts
import Derived.Laws.Append
set_option linter.all false
namespace Go.Avm
open Go.RowKit
def OpRes (P : Program) (w0 : World) (wr : Nat) (β : Beta) (h : H) (w : World) (s : Sem Next) (u : AV) (h' : H) : Prop:=
 ∃ nx v w' β',s.run P w = .ok nx w'∧(nx = .value v ∨ (nx = .skip∧v=undef))∧Sim w0 wr β' h' w'∧Ext wr β h w β' h' w'∧Rel (view wr β' h' w') β' u v
section
variable {P : Program} {w0 : World} {wr base ws : Nat} {β : Beta} {h h' : H} {w : World} {e : Env} {a : Act} {u : AV} {o : Oper}
theorem OpRes.val {s : Sem Next} {v : Value} (hs : s.run P w = .ok (.value v) w) (S : Sim w0 wr β h w) (hr : Rel (view wr β h w) β u v) : OpRes P w0 wr β h w s u h:=
 ⟨.value v,v,w,β,hs,.inl rfl,S,Ext.refl _ _ _ _,hr⟩
theorem szIs_run {t : TypeId} {sz : Nat} (hz : szIs P t sz=true) (w : World) : (sizeOf t).run P w = .ok sz w:=by
 unfold szIs at hz
 split at hz
 ·rename_i i hi
  simp at hz
  simp [sizeOf,typeInfo,hi,hz]
 ·cases hz
theorem szIs_info {t : TypeId} {sz : Nat} (hz : szIs P t sz=true) : ∃ i,P.info? t=some i∧i.size=sz:=by
 unfold szIs at hz
 split at hz
 ·rename_i i hi
  exact ⟨i,hi,by simpa using hz⟩
 ·cases hz
theorem zeroIs_run {t : TypeId} {z : AV} (hz : zeroIs P t z=true) : ∃ v,(∀ w : World,(zeroValue t).run P w = .ok v w)∧(∃ i,P.info? t=some i∧i.zero=some v)∧∀ V β,Rel V β z v:=by
 unfold zeroIs at hz
 split at hz
 ·rename_i i hi
  split at hz
  ·rename_i v hv
   exact ⟨v,fun w=>by simp [zeroValue,typeInfo,hi,hv],⟨i,hi,hv⟩,fun V β=>sameK_rel _ _ hz⟩
  ·cases hz
 ·cases hz
theorem sliceOf_run {t e : TypeId} (hs : sliceOf P t=some e) : P.underlying t=some (.slice e):=by
 unfold sliceOf at hs
 split at hs
 ·rename_i e' he; injection hs with hs; subst hs; exact he
 ·cases hs
theorem arrayOf_run {t e : TypeId} {n : Nat} (hs : arrayOf P t=some (n,e)) : P.underlying t=some (.array n e):=by
 unfold arrayOf at hs
 split at hs
 ·rename_i n' e' he; injection hs with hs; cases hs; exact he
 ·cases hs
theorem isStr_run {t : TypeId} (hs : isStr P t=true) : P.underlying t=some .string:=by
 unfold isStr at hs
 split at hs
 ·assumption
 ·cases hs
theorem aggIs_run {t : TypeId} {ag : Bool} (ha : aggIs P t ag=true) (w : World) : (isAgg t).run P w = .ok ag w:=by
 unfold aggIs at ha
 split at ha
 ·rename_i hu; simp [isAgg,run_underlying hu,ha]
 ·rename_i hu; simp [isAgg,run_underlying hu,ha]
 ·rename_i d hu h1 h2
  have : ag=false:=by simpa using ha
  subst this
  simp only [isAgg,Sem.run_bind,run_underlying h2,Result.andThen_ok]
  cases d <;> first | (exact absurd rfl (hu _)) | (exact absurd rfl (h1 _ _)) | rfl
 ·cases ha
theorem ok_mv {x : O} {y : Operand} (ho : o.op = .move y ∨ o.op = .assign y) (hs : sameO y x=true) (hE : EnvRel (view wr β h w) β e a.tmps) (S : Sim w0 wr β h w)
    (hev : evI base ws e h (.mv x)=some (u,h')) : OpRes P w0 wr β h w (execOp a.eval o) u h':=by
 dsimp only [evI] at hev
 split at hev
 ·rename_i v hv
  simp at hev; obtain ⟨rfl,rfl⟩:=hev
  refine .val (v:=a.eval y) ?_ S (sameO_rel hE hs hv)
  rcases ho with ho | ho <;> simp [execOp,ho]
 ·cases hev
theorem sim_virtg (S : Sim w0 wr β h w) {b ver : Nat} {blk : ABlock} (hcb : ∀ v,cur [blk] 0=some v→v=ver) (hnd : ∀ v,blk ≠ .dead v) (hnt : ∀ x y z t,blk ≠ .tyd x y z t) (hb : b≤h.length) (hn : β b ver=none) (hold : ∀ v,ver < v→β b v=none) :
    Sim w0 wr (bput β b ver none) (putB h b blk) w∧Ext0 wr β h w (bput β b ver none) (putB h b blk) w:=by
 have hcur : ∀ k v,cur (putB h b blk) k=some v→(k=b∧v=ver) ∨ (k ≠ b∧cur h k=some v):=by
  intro k v hk
  unfold cur at hk
  rw [putB_get hb] at hk
  by_cases hkb : k=b
  ·rw [if_pos hkb] at hk; exact .inl ⟨hkb,hcb v (by unfold cur; exact hk)⟩
  ·rw [if_neg hkb] at hk; exact .inr ⟨hkb,hk⟩
 have hsome : ∀ k v c,bput β b ver none k v=some (some c)→β k v=some (some c):=fun k v c hk=>by
  unfold bput at hk; split at hk
  ·simp at hk
  ·exact hk
 have hlive : ∀ c,Live wr (bput β b ver none) (putB h b blk) c→Live wr β h c:=by
  rintro c ⟨k,v,h1,h2,h3⟩
  have h4:=hsome k v c h3
  rcases hcur k v h2 with ⟨rfl,rfl⟩ | ⟨h5,h6⟩
  ·rw [hn] at h4; cases h4
  ·exact ⟨k,v,h1,h6,h4⟩
 have hle : β.Le (bput β b ver none):=fun k v x hx=>by
  unfold bput
  split
  ·rename_i hkv; obtain ⟨rfl,rfl⟩:=hkv; rw [hn] at hx; cases hx
  ·exact hx
 have E : Ext0 wr β h w (bput β b ver none) (putB h b blk) w:=
  ⟨rfl,rfl,rfl,Nat.le_refl _,(putB_len hb).1,hle,fun c _ hc=>⟨rfl,fun h=>hc (hlive c h)⟩,fun _ _ _ _ h=>⟨_,_,h,rfl⟩⟩
 refine ⟨⟨S.below,fun k v c hk=>?_,fun k v hk=>?_,?_,?_,?_,?_,?_,?_⟩,E⟩
 ·obtain ⟨h1,h2⟩:=S.dom k v c (hsome k v c hk)
  exact ⟨Nat.lt_of_lt_of_le h1 (putB_len hb).1,h2⟩
 ·unfold bput at hk
  split at hk
  ·rename_i hkv; obtain ⟨rfl,rfl⟩:=hkv; exact (putB_len hb).2
  ·exact Nat.lt_of_lt_of_le (S.domv k v hk) (putB_len hb).1
 ·intro k k' v v' c h1 h2 h3 h4
  replace h3:=hsome _ _ _ h3
  replace h4:=hsome _ _ _ h4
  rcases hcur k v h1 with ⟨rfl,rfl⟩ | ⟨h5,h6⟩
  ·rw [hn] at h3; cases h3
  ·rcases hcur k' v' h2 with ⟨rfl,rfl⟩ | ⟨h7,h8⟩
   ·rw [hn] at h4; cases h4
   ·exact S.inj k k' v v' c h6 h8 h3 h4
 ·intro k v z es c h1 h2
  replace h2:=hsome _ _ _ h2
  rw [putB_get hb] at h1
  by_cases hk : k=b
  ·rw [if_pos hk] at h1
   injection h1 with h1
   subst hk
   have hv : v=ver:=hcb v (by rw [h1]; rfl)
   subst hv
   rw [hn] at h2; cases h2
  ·rw [if_neg hk] at h1
   obtain ⟨⟨cs,T,fr,h3,h4⟩,h5,h6⟩:=S.arr k v z es c h1 h2
   exact ⟨⟨cs,T,fr,h3,h4⟩,fun o ho=>h5 o (by rwa [view_S h3] at ho ⊢),h6.mono (fun _ _ h=>h) E.view E.beta⟩
 ·intro k x v c h1 hcu h2
  replace h2:=hsome _ _ _ h2
  rw [putB_get hb] at h1
  rcases hcur k v hcu with ⟨rfl,rfl⟩ | ⟨hk,hcu⟩
  ·rw [hn] at h2; cases h2
  ·rw [if_neg hk] at h1; exact (S.oth k x v c h1 hcu h2).mono rfl E.view E.beta
 ·intro k b1 v T n h1
  rw [putB_get hb] at h1
  by_cases hk : k=b
  ·rw [if_pos hk] at h1; injection h1 with h1; exact absurd h1 (hnt _ _ _ _)
  ·rw [if_neg hk] at h1; exact E.tyd (S.tyd k b1 v T n h1)
 ·intro k v v0 h1 h2
  rcases hcur k v0 h1 with ⟨rfl,rfl⟩ | ⟨h5,h6⟩
  ·unfold bput; rw [if_neg (by omega)]; exact hold v h2
  ·unfold bput; rw [if_neg (fun e=>h5 e.1)]; exact S.old k v v0 h6 h2
 ·intro k v v0 h1 h2
  rw [putB_get hb] at h1
  by_cases hk : k=b
  ·rw [if_pos hk] at h1; injection h1 with h1; exact absurd h1 (hnd _)
  ·rw [if_neg hk] at h1
   unfold bput
   rw [if_neg (fun e=>hk e.1)]
   exact S.oldd k v v0 h1 h2
theorem sim_virtb (S : Sim w0 wr β h w) {b ver sz : Nat} {els : List AV} (hb : b≤h.length) (hn : β b ver=none) (hold : ∀ v,ver < v→β b v=none) :
    Sim w0 wr (bput β b ver none) (putB h b (.arr ver sz els)) w∧Ext0 wr β h w (bput β b ver none) (putB h b (.arr ver sz els)) w:=
 sim_virtg S (fun v hv=>by simpa [cur,eq_comm] using hv) (fun _ h=>by cases h) (fun _ _ _ _ h=>by cases h) hb hn hold
theorem sim_virt (S : Sim w0 wr β h w) (sz : Nat) : ∃ β',Sim w0 wr β' (h++[.arr 0 sz []]) w∧Ext wr β h w β' (h++[.arr 0 sz []]) w∧β' h.length 0=some none:=by
 have:=sim_virtb S (b:=h.length) (ver:=0) (sz:=sz) (els:=[]) (Nat.le_refl _) (beta_new S (Nat.le_refl _) 0) (fun v _=>beta_new S (Nat.le_refl _) v)
 rw [putB_new] at this
 have hfr:=fresh_put (x:=none) (β:=β) (blk:=.arr 0 sz []) (ver:=0) (h:=h) (fun v hv=>by simpa [cur,eq_comm] using hv) (.inl rfl)
 rw [putB_new] at hfr
 exact ⟨_,this.1,⟨this.2,hfr⟩,by simp [bput]⟩
theorem ok_own0 {sz : Nat} {v : Value} (ho : o.op = .move (.const v) ∨ o.op = .assign (.const v)) (hs : sameK v .esl=true) (S : Sim w0 wr β h w)
    (hev : evI base ws e h (.own0 sz)=some (u,h')) : OpRes P w0 wr β h w (execOp a.eval o) u h':=by
 simp [evI] at hev; obtain ⟨rfl,rfl⟩:=hev
 obtain ⟨β',S1,E1,hb⟩:=sim_virt S sz
 have hv : v = .slice none 0 0:=by
  cases v with
  | slice a n c=>
   cases a <;> simp [sameK] at hs
   rw [hs.1,hs.2]
  | _=>simp [sameK] at hs
 subst hv
 refine ⟨.value _,.slice none 0 0,w,β',?_,.inl rfl,S1,E1,?_⟩
 ·rcases ho with ho | ho <;> simp [execOp,ho,Act.eval]
 ·unfold Rel; exact .inr ⟨hb,rfl,rfl,none,rfl⟩
theorem ok_pick {c x y : O} {c' x' y' : Operand} (ho : o.op = .pick c' x' y') (h1 : sameO c' c=true) (h2 : sameO x' x=true) (h3 : sameO y' y=true) (hE : EnvRel (view wr β h w) β e a.tmps) (S : Sim w0 wr β h w)
    (hev : evI base ws e h (.pick c x y)=some (u,h')) : OpRes P w0 wr β h w (execOp a.eval o) u h':=by
 dsimp only [evI] at hev
 split at hev
 ·rename_i t ht
  have hc:=sameO_rel hE h1 ht
  unfold Rel at hc
  split at hev
  ·rename_i v hv
   simp at hev; obtain ⟨rfl,rfl⟩:=hev
   cases t
   ·exact .val (v:=a.eval y') (by simp [execOp,ho,hc,asBool]) S (sameO_rel hE h3 hv)
   ·exact .val (v:=a.eval x') (by simp [execOp,ho,hc,asBool]) S (sameO_rel hE h2 hv)
  ·cases hev
 ·cases hev
theorem be_one {V : View} {c sz : Nat} {x : AV} {v : Value} (hr : RelL V β x.cells v.cells.toList) (hz : x.cells.length=sz) : BE (fun _ o=>v.cells[o]?) V β c 0 sz [x]:=by
 intro i y hi
 cases i with
 | zero=>
  simp at hi; subst hi
  refine ⟨hz,fun j z hj=>?_⟩
  obtain ⟨u,h1,h2⟩:=(RelL_iff.1 hr).2 j z hj
  exact ⟨u,by simpa using h1,h2⟩
 | succ i=>simp at hi
theorem new_box (S : Sim w0 wr β h w) (hwr : wr≤h.length) (t : TypeId) {x : AV} {v : Value} {sz : Nat} (h1 : x.ones=true) (hz : x.cells.length=sz) (hr : Rel (view wr β h w) β x v) :
    ∃ β',Sim w0 wr β' (h++[.arr 0 sz [x]]) (w.alloc (.cells v.cells t))∧Ext wr β h w β' (h++[.arr 0 sz [x]]) (w.alloc (.cells v.cells t))∧β' h.length 0=some (some w.heap.size):=by
 obtain ⟨hl,_⟩:=ones_rel h1 hr
 have hlen : v.cells.size=sz:=by have:=(RelL_iff.1 hl).1; simpa [hz] using this
 obtain ⟨β',S1,E1,hb,_⟩:=sim_new S hwr (sz:=sz) (els:=[x]) v.cells t (by simp [hlen]) (be_one hl hz)
 exact ⟨β',S1,E1,hb⟩
theorem ok_box {sz : Nat} {y : O} (ho : (∃ t x,o.op = .box t x∧sameO x y=true) ∨ (∃ t z,o.op = .alloc t∧y = .k z∧zeroIs P t z=true)) (hE : EnvRel (view wr β h w) β e a.tmps) (S : Sim w0 wr β h w) (hwr : wr≤h.length)
    (hev : evI base ws e h (.box sz y)=some (u,h')) : OpRes P w0 wr β h w (execOp a.eval o) u h':=by
 dsimp only [evI] at hev
 split at hev
 ·rename_i v hv
  split at hev
  ·rename_i hc
   simp at hev; obtain ⟨rfl,rfl⟩:=hev
   rcases ho with ⟨t,x,ho,hs⟩ | ⟨t,z,ho,rfl,hz⟩
   ·have hr:=sameO_rel hE hs hv
    obtain ⟨β',S1,E1,hb⟩:=new_box S hwr t hc.2 hc.1 hr
    refine ⟨.value _,.pointer (some ⟨w.heap.size,0,none⟩),_,β',?_,.inl rfl,S1,E1,?_⟩
    ·simp [execOp,ho,Instr.box,newVar,newRow]
    ·unfold Rel; exact ⟨_,hb,by simp⟩
   ·obtain ⟨zv,hz1,_,hz2⟩:=zeroIs_run hz
    simp only [O.val] at hv
    injection hv with hv
    subst hv
    obtain ⟨β',S1,E1,hb⟩:=new_box S hwr t hc.2 hc.1 (hz2 _ _)
    refine ⟨.value _,.pointer (some ⟨w.heap.size,0,none⟩),_,β',?_,.inl rfl,S1,E1,?_⟩
    ·simp [execOp,ho,Instr.alloc,newVar,newRow,hz1]
    ·unfold Rel; exact ⟨_,hb,by simp⟩
  ·cases hev
 ·cases hev
end
end Go.Avm
