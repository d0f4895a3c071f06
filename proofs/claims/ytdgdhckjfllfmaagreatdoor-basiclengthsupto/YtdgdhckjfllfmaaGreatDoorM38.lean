/- What reads as values, as the machine's values; a world for the witness. -/
import Derived.Test.YtdgdhckjfllfmaaGreatDoorM29
import Derived.Test.YtdgdhckjfllfmaaGreatDoorM13
import Derived.WalkKit
import Derived.Test.YtdgdhckjfllfmaaGreatDoorM33
import Derived.Test.YtdgdhckjfllfmaaGreatDoorM35
import Derived.Test.YtdgdhckjfllfmaaGreatDoorM37
import Derived.Test.YtdgdhckjfllfmaaGreatDoorRows
import Derived.ProofKit
import Derived.OpenShut
import Derived.Deep.DeepHandedRow
import Derived.Lib.LaidTab
set_option linter.all false
namespace Go.Proofs
open Go.Shelf Go.RowKit Go.Lib
variable {P : Program} {ρ : Ren}
theorem app_none {P : Program} {t : TypeId} {q r : Option Addr} {len cap c sz : Nat} {i : TypeInfo} {e : TypeId} (ht : P.underlying t=some (.slice e)) (hi : P.info? e=some i) (hsz : i.size=sz) (hc : len≤cap) (ty : TypeId) (w : World) :
    (Builtin.append_ #[t,t] ty #[.slice q len cap,.slice r 0 c]).run P w = .ok (.slice q len cap) w:=by
 have hs : (sizeOf e).run P w = .ok sz w:=by simp [sizeOf,typeInfo,hi,hsz]
 cases q <;> cases r <;> simp [Builtin.append_,run_underlying ht,hs,Builtin.lenOf,hc,Builtin.firstCells,loadCells,loadCellsFrom,storeCells]
set_option maxHeartbeats 2000000 in
set_option maxRecDepth 100000 in
theorem clone_none (L : SlLaysE0.n41 P ρ) (i0 : TypeInfo) (size : Nat) (hi : P.info? (ρ.t 23)=some i0) (hz1 : i0.size=size) (z23 : ∀ w,(Go.sizeOf (ρ.t 23)).run P w = .ok size w) (q : Addr) (c : Nat) (w : World) :
    Calls P (ρ.f 41) #[.slice (some q) 0 c] w fun e w'=>∃ v',e = .returned v'∧w'.ownsRow w.heap.size (ρ.t 23) size v' 0 []∧Below w.heap.size w w':=by
 have mixed:=L.mixed; have t4:=L.t4; have a4:=L.a4; have z4:=L.z4; have v4:=L.v4; have t22:=L.t22; have a22:=L.a22; have z22:=L.z22; have v22:=L.v22
 have q22 : ∀ (w : World) (a : Option Addr) (n c n' c' : Nat),(binOp .eql (ρ.t 22) (.slice a n c) (.slice none n' c')).run P w = .ok (.bool a.isNone) w:=fun w a n c n' c'=>Lib.run_eql_slice_nil w _ _ a n c n' c' L.t22
 have u22 : ∀ w,Sem.run P (underlying (ρ.t 22)) w = .ok (TypeDesc.slice (ρ.t 23)) w:=run_underlying t22
 have happ:=fun (g : Nat) (ty : TypeId) (w : World)=>app_none (P:=P) (q:=some ⟨g,0,none⟩) (r:=some q) (len:=0) (cap:=0) (c:=c) t22 hi hz1 (Nat.le_refl 0) ty w
 obtain ⟨_,_,FG⟩:=L.f41
 go_enter FG,SlBodyN.n41_ntmps ρ
 go_wp2
 go_ret
 refine ⟨_,rfl,⟨by simp,.inr ⟨w.heap.size,0,#[],rfl,Nat.le_refl _,Avm.heap_new w _,Nat.le_refl _,Nat.zero_le _,by simp,by simp⟩⟩,(Below.refl _ w).alloc (Nat.le_refl _) _⟩
theorem clone_ok (L : SlLaysE0.n41 P ρ) (i0 : TypeInfo) (z : Value) (size bytes lim : Nat) (hi : P.info? (ρ.t 23)=some i0) (hz0 : i0.zero=some z) (hz1 : i0.size=size) (hz2 : i0.bytes=bytes) (hzs : z.cells.size=size) (hsz : 0 < size)
    (z23 : ∀ w,(Go.sizeOf (ρ.t 23)).run P w = .ok size w) (hlim : lim * bytes≤140737488355328) (hl : lim≤maxLen) (hen : ∀ vs w,(callFunc (ρ.f 41) vs).run P w = .ok (.enter (ρ.f 41) vs) w) (w0 : World) : Avm.ExtOk P w0 (ρ.f 41) (Avm.cloneX size lim):=
 Avm.clone_ext hsz hlim hl (fun b off n c news w h1 h2 h3 h4 h5=>AnyE.slices_Clone L i0 z size bytes hi hz0 hz1 hz2 hzs hsz z23 b off n c news w h1 h2 h3 h4 h5)
  (fun a c w=>by
   cases a with
   | none=>
    refine (AnyE.slices_Clone_nil L 0 c w).mono ?_
    rintro e w' ⟨rfl,rfl⟩
    exact ⟨_,rfl,⟨by simp,.inl ⟨rfl,rfl⟩⟩,Below.refl _ _⟩
   | some q=>exact clone_none L i0 size hi hz1 z23 q c w) hen
end Go.Proofs
namespace Go.Proofs.YtdgdhckjfllfmaaGreatDoor
open Go Go.Avm Go.RowKit
theorem strs_some : ∀ {els : List AV} {l : List ByteArray},strs els=some l→els=l.map .str
 | [],l,h=>by cases h; rfl
 | x :: r,l,h=>by
  cases x with
  | str s=>
   simp only [strs] at h
   cases hr : strs r with
   | none=>rw [hr] at h; cases h
   | some q=>rw [hr] at h; cases h; rw [strs_some hr]; rfl
  | _=>simp [strs] at h
theorem distinct_iff : ∀ (l : List ByteArray),distinct l=true ↔ (l.map (·.data.toList)).Nodup
 | []=>by simp [distinct]
 | x :: l=>by
  simp only [distinct,Bool.and_eq_true,List.all_eq_true,Bool.not_eq_true',beq_eq_false_iff_ne,List.map_cons,List.nodup_cons,distinct_iff l,List.mem_map,not_exists,not_and,ByteArray.toList_eq]
  exact ⟨fun h=>⟨fun y hy e=>h.1 y hy e.symm,h.2⟩,fun h=>⟨fun y hy e=>h.1 y hy e.symm,h.2⟩⟩
theorem strsAt_of {w0 w : World} {wr : Nat} {β : Beta} {h : Avm.H} {x : AV} {v : Value} {l : List ByteArray} (S : Sim w0 wr β h w) (he : elsOf h x=some (l.map .str)) (hr : Rel (view wr β h w) β x v) : StrsAt w v (l.map (·.data.toList)):=by
 obtain ⟨a,cap,rfl,hcap,hq⟩:=elsOf_rel S he hr
 by_cases hl : l=[]
 ·subst hl; exact .inl ⟨rfl,a,cap,rfl⟩
 ·rcases hq with hq | ⟨c,o,sz,rfl,hbe⟩
  ·exact absurd (by simpa using hq) hl
  ·have hg : ∀ j s,l[j]? = some s→w.cell? ⟨c,o + j,none⟩=some (.string s):=fun j s hj=>by
     obtain ⟨h1,h2⟩:=hbe j (.str s) (by rw [List.getElem?_map,hj]; rfl)
     have hsz : sz=1:=h1.symm
     subst hsz
     obtain ⟨u,h3,h4⟩:=h2 0 (.str s) rfl
     unfold Rel at h4
     subst h4
     unfold rdw at h3
     simpa using h3
   refine .inr ⟨c,o,cap,by simp,by simpa using hcap,?_,fun j hj=>?_⟩
   ·have hp : 0 < l.length:=List.length_pos_iff.2 hl
    exact cell_lt (hg 0 _ (List.getElem?_eq_getElem hp))
   ·have hj' : j < l.length:=by simpa using hj
    rw [hg j _ (List.getElem?_eq_getElem hj')]
    simp [Go.Proofs.encStr,hj']
theorem twice_ext (w0 : World) : ExtOk Tryz.prog w0 72 twiceX:=by
 refine ⟨fun args h r h' ev=>?_,fun args h r h' wr β w vs ev hwr S hr=>?_⟩
 ·unfold twiceX at ev
  split at ev
  ·split at ev
   ·split at ev
    ·split at ev
     ·cases ev; exact ⟨[],by simp⟩
     ·cases ev
    ·cases ev
   ·cases ev
  ·cases ev
 ·unfold twiceX at ev
  split at ev
  ·split at ev
   ·rename_i els hels
    split at ev
    ·rename_i l hl
     split at ev
     ·rename_i hlen
      cases ev
      rw [strs_some hl] at hels
      unfold RelL at hr
      obtain ⟨v,r1,e1,hv,hr⟩:=hr
      unfold RelL at hr
      subst hr
      obtain rfl : vs = #[v]:=by cases vs; simp_all
      refine .inl ⟨callFunc_run Tryz.func72 (by decide +kernel) rfl _ w,(twice_calls _ v w (strsAt_of S hels hv) (by simpa using hlen)).mono ?_⟩
      rintro e w' ⟨rfl,hb⟩
      obtain ⟨S',E⟩:=sim_grow S hb.os hb.tape hb.output hb.size hb.block
      refine ⟨_,rfl,β,S',E,?_⟩
      unfold Rel
      congr 1
      have:=distinct_iff l
      cases hd : distinct l <;> simp_all
     ·cases ev
    ·cases ev
   ·cases ev
  ·cases ev
theorem contains_ext {w0 : World} {m : Int} (hm : w0.cell? ⟨Tryz.layCo_ren.g 1,0,none⟩=some (.int .i64 m)) : ExtOk Tryz.prog w0 90 containsX:=by
 refine ⟨fun args h r h' ev=>?_,fun args h r h' wr β w vs ev hwr S hr=>?_⟩
 ·unfold containsX at ev
  split at ev
  ·split at ev
   ·cases ev; exact ⟨[],by simp⟩
   ·cases ev
  ·cases ev
 ·unfold containsX at ev
  split at ev
  ·rename_i s t
   split at ev
   ·rename_i hs
    cases ev
    unfold RelL at hr
    obtain ⟨v,r1,e1,hv,hr⟩:=hr
    unfold RelL at hr
    obtain ⟨v2,r2,rfl,hv2,hr⟩:=hr
    unfold RelL at hr
    subst hr
    unfold Rel at hv hv2
    subst hv hv2
    obtain rfl : vs = #[.string s,.string t]:=by cases vs; simp_all
    have hmw : w.cell? ⟨Tryz.layCo_ren.g 1,0,none⟩=some (.int .i64 m):=(S.below.cell (cell_lt hm)).trans hm
    refine .inl ⟨callFunc_run Tryz.func90 (by decide +kernel) rfl _ w,(Any.strings_Contains { Tryz.layCo with } s t m w hs hmw).mono ?_⟩
    rintro e w' ⟨rfl,rfl⟩
    exact ⟨_,rfl,β,S,Ext.refl _ _ _ _,by unfold Rel; rfl⟩
   ·cases ev
  ·cases ev
theorem cloneV_ext (w0 : World) : ExtOk Tryz.prog w0 30 (cloneX 4 lim):=
 clone_ok Tryz.layCv Tryz.t43 _ 4 56 lim (by kernel_rfl) rfl rfl rfl rfl (by decide) Tryz.sizeOf43 (by unfold lim; omega) (by unfold lim maxLen; omega) (enters_of Tryz.func30 (by kernel_rfl) rfl) w0
theorem cloneT_ext (w0 : World) : ExtOk Tryz.prog w0 64 (cloneX 8 lim):=
 clone_ok Tryz.layCt Tryz.t40 _ 8 96 lim (by kernel_rfl) rfl rfl rfl rfl (by decide) Tryz.sizeOf40 (by unfold lim; omega) (by unfold lim maxLen; omega) (enters_of Tryz.func64 (by kernel_rfl) rfl) w0
theorem cloneI_ext (w0 : World) : ExtOk Tryz.prog w0 62 (cloneX 12 lim):=
 clone_ok Tryz.layCi Tryz.t45 _ 12 144 lim (by kernel_rfl) rfl rfl rfl rfl (by decide) Tryz.sizeOf45 (by unfold lim; omega) (by unfold lim maxLen; omega) (enters_of Tryz.func62 (by kernel_rfl) rfl) w0
theorem fn_ok {f : FuncId} {F : F} (hF : fnOf fnl f=some F) : FOk Tryz.prog (drawIs Tryz.prog pf) f F:=by
 have h:=List.all_eq_true.1 checked (f,F) (fnOf_mem hF)
 exact fOk_of h
theorem cfg_ok {w0 : World} {m : Int} (hm : w0.cell? ⟨Tryz.layCo_ren.g 1,0,none⟩=some (.int .i64 m)) : CfgOk Tryz.prog w0 (drawIs Tryz.prog pf) cfg where
 fn:=fun f F _ hF=>fn_ok hF
 ext:=fun f x hx=>by
  simp only [cfg,extOf] at hx
  split at hx
  ·rename_i hf; cases hx; subst hf; exact twice_ext w0
  ·split at hx
   ·rename_i hf; cases hx; subst hf; exact contains_ext hm
   ·split at hx
    ·rename_i hf; cases hx; subst hf; exact cloneV_ext w0
    ·split at hx
     ·rename_i hf; cases hx; subst hf; exact cloneT_ext w0
     ·split at hx
      ·rename_i hf; cases hx; subst hf; exact cloneI_ext w0
      ·split at hx
       ·rename_i hf; cases hx; subst hf; exact contents_ext w0
       ·cases hx
 draw:=drawAll follows fun g hg=>by
  unfold pf at hg
  split at hg
  ·rename_i h; exact .inl h
  ·rename_i b h; exact .inr ⟨b,h⟩
  ·cases hg
end Go.Proofs.YtdgdhckjfllfmaaGreatDoor
namespace Go.Proofs.YtdgdhckjfllfmaaGreatDoor
open Go Go.Avm Go.RowKit Go.ChangeShapes Go.WideShapes Go.ChangeAt
theorem bulkOk (H : Type) : BulkOk (H:=H) Rows.uptoBulk Rows.uptoBulkAll where
 one:=fun d=>by
  cases d with
  | lit l=>cases l <;> simp [Rows.uptoBulk]
  | _=>simp [Rows.uptoBulk]
 str:=fun l=>by simp [Rows.uptoBulk]
 ptr:=fun d=>by simp [Rows.uptoBulk]
 slice:=fun es sp=>by simp only [Rows.uptoBulk]; omega
 agg:=fun ps=>by simp [Rows.uptoBulk]
 cons:=fun d r=>by simp [Rows.uptoBulkAll]
theorem own : ownKnob Tryz.prog.godebug=none:=by kernel_rfl
mutual
def flatD : DataW Unit→List Value
 | .lit (.int k n)=>[.int k n]
 | .agg l=>flatDL l
 | _=>[]
def flatDL : List (DataW Unit)→List Value
 | []=>[]
 | d :: r=>flatD d++flatDL r
end
def layAs (cs : Array Value) : Obj→Obj
 | .cells _ t frozen=>.cells cs t frozen
 | o=>o
noncomputable def laidWorld (os : Os) : World:=
 { World.holding Tryz.prog os ⟨#[],#[],[]⟩ with heap:=((World.holding Tryz.prog os ⟨#[],#[],[]⟩).heap.modify 1 (layAs (flatD Rows.laid_unicode_utf8_first).toArray)).modify 2 (layAs (flatD Rows.laid_unicode_utf8_acceptRanges).toArray) }
end Go.Proofs.YtdgdhckjfllfmaaGreatDoor
