/- Symbolic runs of the abstract machine: rules of rewriting. -/
import Derived.Test.YteihdlcpfghmhaaGreatDoorM22
import Derived.Test.YteihdlcpfghmhaaGreatDoorM11
import Derived.WalkKit
import Derived.Test.YteihdlcpfghmhaaGreatDoorM24
import Derived.Test.YteihdlcpfghmhaaGreatDoorM26
import Derived.Test.YteihdlcpfghmhaaGreatDoorM23
set_option linter.all false
namespace Go.Proofs
open Go.Shelf Go.RowKit Go.Lib
variable {P : Program} {ρ : Ren}
theorem app_none {P : Program} {t : TypeId} {q r : Option Addr} {len cap c sz : Nat} {i : TypeInfo} {e : TypeId} (ht : P.underlying t=some (.slice e)) (hi : P.info? e=some i) (hsz : i.size=sz) (hc : len≤cap) (ty : TypeId) (w : World) :
    (Builtin.append_ #[t,t] ty #[.slice q len cap,.slice r 0 c]).run P w = .ok (.slice q len cap) w:=by
 have hs : (sizeOf e).run P w = .ok sz w:=by simp [sizeOf,typeInfo,hi,hsz]
 cases q <;> cases r <;> simp [Builtin.append_,run_underlying ht,hs,Builtin.lenOf,hc,Builtin.firstCells,loadCells,loadCellsFrom,storeCells]
set_option maxHeartbeats 2000000 in
set_option maxRecDepth 100000 in
theorem clone_none (L : SlLaysE0.n41 P ρ) (i0 : TypeInfo) (size : Nat) (hi : P.info? (ρ.t 23)=some i0) (hz1 : i0.size=size) (z23 : ∀ w,(Go.sizeOf (ρ.t 23)).run P w = .ok size w) (q : Addr) (c : Nat) (w : World) :
    Calls P (ρ.f 41) #[.slice (some q) 0 c] w fun e w'=>∃ v',e = .returned v'∧w'.ownsRow w.heap.size (ρ.t 23) size v' 0 []∧Below w.heap.size w w':=by
 have mixed:=L.mixed; have t4:=L.t4; have a4:=L.a4; have z4:=L.z4; have v4:=L.v4; have t22:=L.t22; have a22:=L.a22; have z22:=L.z22; have v22:=L.v22
 have q22 : ∀ (w : World) (a : Option Addr) (n c n' c' : Nat),(binOp .eql (ρ.t 22) (.slice a n c) (.slice none n' c')).run P w = .ok (.bool a.isNone) w:=fun w a n c n' c'=>Lib.run_eql_slice_nil w _ _ a n c n' c' L.t22
 have u22 : ∀ w,Sem.run P (underlying (ρ.t 22)) w = .ok (TypeDesc.slice (ρ.t 23)) w:=run_underlying t22
 have happ:=fun (g : Nat) (ty : TypeId) (w : World)=>app_none (P:=P) (q:=some ⟨g,0,none⟩) (r:=some q) (len:=0) (cap:=0) (c:=c) t22 hi hz1 (Nat.le_refl 0) ty w
 obtain ⟨_,_,FG⟩:=L.f41
 go_enter FG,SlBodyN.n41_ntmps ρ
 go_wp2
 go_ret
 refine ⟨_,rfl,⟨by simp,.inr ⟨w.heap.size,0,#[],rfl,Nat.le_refl _,Avm.heap_new w _,Nat.le_refl _,Nat.zero_le _,by simp,by simp⟩⟩,(Below.refl _ w).alloc (Nat.le_refl _) _⟩
theorem clone_ok (L : SlLaysE0.n41 P ρ) (i0 : TypeInfo) (z : Value) (size bytes lim : Nat) (hi : P.info? (ρ.t 23)=some i0) (hz0 : i0.zero=some z) (hz1 : i0.size=size) (hz2 : i0.bytes=bytes) (hzs : z.cells.size=size) (hsz : 0 < size)
    (z23 : ∀ w,(Go.sizeOf (ρ.t 23)).run P w = .ok size w) (hlim : lim * bytes≤140737488355328) (hl : lim≤maxLen) (hen : ∀ vs w,(callFunc (ρ.f 41) vs).run P w = .ok (.enter (ρ.f 41) vs) w) (w0 : World) : Avm.ExtOk P w0 (ρ.f 41) (Avm.cloneX size lim):=
 Avm.clone_ext hsz hlim hl (fun b off n c news w h1 h2 h3 h4 h5=>AnyE.slices_Clone L i0 z size bytes hi hz0 hz1 hz2 hzs hsz z23 b off n c news w h1 h2 h3 h4 h5)
  (fun a c w=>by
   cases a with
   | none=>
    refine (AnyE.slices_Clone_nil L 0 c w).mono ?_
    rintro e w' ⟨rfl,rfl⟩
    exact ⟨_,rfl,⟨by simp,.inl ⟨rfl,rfl⟩⟩,Below.refl _ _⟩
   | some q=>exact clone_none L i0 size hi hz1 z23 q c w) hen
end Go.Proofs
namespace Go.Proofs.YteihdlcpfghmhaaGreatDoor
open Go Go.Avm Go.RowKit
theorem strs_some : ∀ {els : List AV} {l : List ByteArray},strs els=some l→els=l.map .str
 | [],l,h=>by cases h; rfl
 | x :: r,l,h=>by
  cases x with
  | str s=>
   simp only [strs] at h
   cases hr : strs r with
   | none=>rw [hr] at h; cases h
   | some q=>rw [hr] at h; cases h; rw [strs_some hr]; rfl
  | _=>simp [strs] at h
theorem distinct_iff : ∀ (l : List ByteArray),distinct l=true ↔ (l.map (·.data.toList)).Nodup
 | []=>by simp [distinct]
 | x :: l=>by
  simp only [distinct,Bool.and_eq_true,List.all_eq_true,Bool.not_eq_true',beq_eq_false_iff_ne,List.map_cons,List.nodup_cons,distinct_iff l,List.mem_map,not_exists,not_and,ByteArray.toList_eq]
  exact ⟨fun h=>⟨fun y hy e=>h.1 y hy e.symm,h.2⟩,fun h=>⟨fun y hy e=>h.1 y hy e.symm,h.2⟩⟩
theorem strsAt_of {w0 w : World} {wr : Nat} {β : Beta} {h : Avm.H} {x : AV} {v : Value} {l : List ByteArray} (S : Sim w0 wr β h w) (he : elsOf h x=some (l.map .str)) (hr : Rel (view wr β h w) β x v) : StrsAt w v (l.map (·.data.toList)):=by
 obtain ⟨a,cap,rfl,hcap,hq⟩:=elsOf_rel S he hr
 by_cases hl : l=[]
 ·subst hl; exact .inl ⟨rfl,a,cap,rfl⟩
 ·rcases hq with hq | ⟨c,o,sz,rfl,hbe⟩
  ·exact absurd (by simpa using hq) hl
  ·have hg : ∀ j s,l[j]? = some s→w.cell? ⟨c,o + j,none⟩=some (.string s):=fun j s hj=>by
     obtain ⟨h1,h2⟩:=hbe j (.str s) (by rw [List.getElem?_map,hj]; rfl)
     have hsz : sz=1:=h1.symm
     subst hsz
     obtain ⟨u,h3,h4⟩:=h2 0 (.str s) rfl
     unfold Rel at h4
     subst h4
     unfold rdw at h3
     simpa using h3
   refine .inr ⟨c,o,cap,by simp,by simpa using hcap,?_,fun j hj=>?_⟩
   ·have hp : 0 < l.length:=List.length_pos_iff.2 hl
    exact cell_lt (hg 0 _ (List.getElem?_eq_getElem hp))
   ·have hj' : j < l.length:=by simpa using hj
    rw [hg j _ (List.getElem?_eq_getElem hj')]
    simp [Go.Proofs.encStr,hj']
theorem twice_ext (w0 : World) : ExtOk Tryz.prog w0 73 twiceX:=by
 refine ⟨fun args h r h' ev=>?_,fun args h r h' wr β w vs ev hwr S hr=>?_⟩
 ·unfold twiceX at ev
  split at ev
  ·split at ev
   ·split at ev
    ·split at ev
     ·cases ev; exact ⟨[],by simp⟩
     ·cases ev
    ·cases ev
   ·cases ev
  ·cases ev
 ·unfold twiceX at ev
  split at ev
  ·split at ev
   ·rename_i els hels
    split at ev
    ·rename_i l hl
     split at ev
     ·rename_i hlen
      cases ev
      rw [strs_some hl] at hels
      unfold RelL at hr
      obtain ⟨v,r1,e1,hv,hr⟩:=hr
      unfold RelL at hr
      subst hr
      obtain rfl : vs = #[v]:=by cases vs; simp_all
      refine .inl ⟨callFunc_run Tryz.func73 (by decide +kernel) rfl _ w,(twice_calls _ v w (strsAt_of S hels hv) (by simpa using hlen)).mono ?_⟩
      rintro e w' ⟨rfl,hb⟩
      obtain ⟨S',E⟩:=sim_grow S hb.os hb.tape hb.output hb.size hb.block
      refine ⟨_,rfl,β,S',E,?_⟩
      unfold Rel
      congr 1
      have:=distinct_iff l
      cases hd : distinct l <;> simp_all
     ·cases ev
    ·cases ev
   ·cases ev
  ·cases ev
theorem contains_ext {w0 : World} {m : Int} (hm : w0.cell? ⟨Tryz.layCo_ren.g 1,0,none⟩=some (.int .i64 m)) : ExtOk Tryz.prog w0 92 containsX:=by
 refine ⟨fun args h r h' ev=>?_,fun args h r h' wr β w vs ev hwr S hr=>?_⟩
 ·unfold containsX at ev
  split at ev
  ·split at ev
   ·cases ev; exact ⟨[],by simp⟩
   ·cases ev
  ·cases ev
 ·unfold containsX at ev
  split at ev
  ·rename_i s t
   split at ev
   ·rename_i hs
    cases ev
    unfold RelL at hr
    obtain ⟨v,r1,e1,hv,hr⟩:=hr
    unfold RelL at hr
    obtain ⟨v2,r2,rfl,hv2,hr⟩:=hr
    unfold RelL at hr
    subst hr
    unfold Rel at hv hv2
    subst hv hv2
    obtain rfl : vs = #[.string s,.string t]:=by cases vs; simp_all
    have hmw : w.cell? ⟨Tryz.layCo_ren.g 1,0,none⟩=some (.int .i64 m):=(S.below.cell (cell_lt hm)).trans hm
    refine .inl ⟨callFunc_run Tryz.func92 (by decide +kernel) rfl _ w,(Any.strings_Contains { Tryz.layCo with } s t m w hs hmw).mono ?_⟩
    rintro e w' ⟨rfl,rfl⟩
    exact ⟨_,rfl,β,S,Ext.refl _ _ _ _,by unfold Rel; rfl⟩
   ·cases ev
  ·cases ev
theorem cloneV_ext (w0 : World) : ExtOk Tryz.prog w0 30 (cloneX 4 lim):=
 clone_ok Tryz.layCv Tryz.t31 _ 4 56 lim (by kernel_rfl) rfl rfl rfl rfl (by decide) Tryz.sizeOf31 (by unfold lim; omega) (by unfold lim maxLen; omega) (enters_of Tryz.func30 (by kernel_rfl) rfl) w0
theorem cloneT_ext (w0 : World) : ExtOk Tryz.prog w0 102 (cloneX 8 lim):=
 clone_ok Tryz.layCt Tryz.t28 _ 8 96 lim (by kernel_rfl) rfl rfl rfl rfl (by decide) Tryz.sizeOf28 (by unfold lim; omega) (by unfold lim maxLen; omega) (enters_of Tryz.func102 (by kernel_rfl) rfl) w0
theorem cloneI_ext (w0 : World) : ExtOk Tryz.prog w0 103 (cloneX 12 lim):=
 clone_ok Tryz.layCi Tryz.t50 _ 12 144 lim (by kernel_rfl) rfl rfl rfl rfl (by decide) Tryz.sizeOf50 (by unfold lim; omega) (by unfold lim maxLen; omega) (enters_of Tryz.func103 (by kernel_rfl) rfl) w0
theorem var_stays {P : Program} {w w' : World} {n : String} {cs : Array Value} (h : w.var? P n=some cs) (hb : Below w.heap.size w w') : w'.var? P n=some cs:=by
 unfold World.var? at h ⊢
 cases hg : P.globalNamed n with
 | none=>rw [hg] at h; cases h
 | some g=>
  rw [hg] at h
  simp only [Option.bind_some] at h ⊢
  have hlt : g < w.heap.size:=by
   rcases Nat.lt_or_ge g w.heap.size with q | q
   ·exact q
   ·rw [Array.getElem?_eq_none q] at h; cases h
  rw [hb.block g hlt]
  exact h
theorem index_rel {w0 w : World} {wr : Nat} {β : Beta} {h : Avm.H} {vs : Array Value} {s : ByteArray} {n : Int} {b : Bool} (S : Sim w0 wr β h w) (hr : RelL (view wr β h w) β [.str s] vs.toList)
    (hc : Calls Tryz.prog 29 #[.string s] w fun e W'=>e = .returned (.tuple #[.int .i64 n,.bool b])∧Below w.heap.size w W') : ∃ (_ : vs = #[.string s]),Calls Tryz.prog 29 vs w fun e W'=>∃ v,e = .returned v∧∃ β',Sim w0 wr β' h W'∧Ext wr β h w β' h W'∧Rel (view wr β' h W') β' (.tup [.int .i64 n,.bool b]) v:=by
 unfold RelL at hr
 obtain ⟨v,r1,e1,hv,hr⟩:=hr
 unfold RelL at hr
 subst hr
 unfold Rel at hv
 subst hv
 obtain rfl : vs = #[.string s]:=by cases vs; simp_all
 refine ⟨rfl,hc.mono ?_⟩
 rintro e w' ⟨rfl,hb⟩
 obtain ⟨S',E⟩:=sim_grow S hb.os hb.tape hb.output hb.size hb.block
 exact ⟨_,rfl,β,S',E,by unfold Rel; exact ⟨_,rfl,by simp [RelL,Rel]⟩⟩
theorem index_ext (w0 : World) {tp : TypeId} {p : Value} (htab : Lib.TabIs Tryz.prog w0 "internal/strconv.uint64pow10" .u64 Lib.pow10Tab) (hvar : w0.var? Tryz.prog "strconv.ErrRange" = some #[.iface tp p]) : ExtOk Tryz.prog w0 29 indexX:=by
 refine ⟨fun args h r h' ev=>?_,fun args h r h' wr β w vs ev hwr S hr=>?_⟩
 ·unfold indexX at ev
  split at ev
  ·split at ev
   ·split at ev
    ·split at ev
     ·cases ev; exact ⟨[],by simp⟩
     ·cases ev
    ·cases ev; exact ⟨[],by simp⟩
    ·cases ev
   ·cases ev
  ·cases ev
 ·unfold indexX at ev
  split at ev
  ·rename_i s
   split at ev
   ·rename_i hs
    split at ev
    ·rename_i n hn
     split at ev
     ·rename_i hq
      cases ev
      obtain ⟨rfl,hc⟩:=index_rel S hr (index_ok_calls s n w hs hn hq.1 hq.2.1 hq.2.2 (Lib.tabBelow_of_tabIs htab w S.below))
      exact .inl ⟨callFunc_run Tryz.func29 (by decide +kernel) rfl _ w,hc⟩
     ·cases ev
    ·rename_i hn
     cases ev
     obtain ⟨rfl,hc⟩:=index_rel S hr (index_range_calls s w hs hn tp p (var_stays hvar S.below))
     exact .inl ⟨callFunc_run Tryz.func29 (by decide +kernel) rfl _ w,hc⟩
    ·cases ev
   ·cases ev
  ·cases ev
theorem fn_ok {f : FuncId} {F : F} (hF : fnOf fnl f=some F) : FOk Tryz.prog (drawIs Tryz.prog pf) f F:=by
 have h:=List.all_eq_true.1 checked (f,F) (fnOf_mem hF)
 exact fOk_of h
theorem cfg_ok {w0 : World} {m : Int} {tp : TypeId} {p : Value} (hm : w0.cell? ⟨Tryz.layCo_ren.g 1,0,none⟩=some (.int .i64 m)) (htab : Lib.TabIs Tryz.prog w0 "internal/strconv.uint64pow10" .u64 Lib.pow10Tab) (hvar : w0.var? Tryz.prog "strconv.ErrRange" = some #[.iface tp p]) : CfgOk Tryz.prog w0 (drawIs Tryz.prog pf) cfg where
 fn:=fun f F _ hF=>fn_ok hF
 ext:=fun f x hx=>by
  simp only [cfg,extOf] at hx
  split at hx
  ·rename_i hf; cases hx; subst hf; exact twice_ext w0
  ·split at hx
   ·rename_i hf; cases hx; subst hf; exact contains_ext hm
   ·split at hx
    ·rename_i hf; cases hx; subst hf; exact cloneV_ext w0
    ·split at hx
     ·rename_i hf; cases hx; subst hf; exact cloneT_ext w0
     ·split at hx
      ·rename_i hf; cases hx; subst hf; exact cloneI_ext w0
      ·split at hx
       ·rename_i hf; cases hx; subst hf; exact index_ext w0 htab hvar
       ·cases hx
 draw:=drawAll follows fun g hg=>by
  unfold pf at hg
  split at hg
  ·rename_i h; exact .inl h
  ·rename_i b h; exact .inr ⟨b,h⟩
  ·cases hg
end Go.Proofs.YteihdlcpfghmhaaGreatDoor
namespace Go.Avm
attribute [simp] evF finish enterArgs norm evC argEnv keeping andThen done evS evS1 andV doOp evI O.val Env.get putD Env.put Env.keep Env.drop resOf tupOf leave own3 own2 own1 ownL regain
 binI eqI unI valIn valAt dstsL S1.dsts frzL snapL deep kill AV.pure pureL ifB inBlock wsOf cellsAt ldc fillP partsOf optVal bound setAt look elsOf valL isPtr isFn isIfc ifFar farAll Dyn.ok aliveV alive farV blockOf AV.scalar AV.flat AV.ones
@[simp] theorem cells_any  : AV.cells (AV.any)=[(AV.any)]:=rfl
@[simp] theorem one_any  : AV.one (AV.any)=false:=rfl
@[simp] theorem cells_bool (b : Bool) : AV.cells (AV.bool b)=[(AV.bool b)]:=rfl
@[simp] theorem one_bool (b : Bool) : AV.one (AV.bool b)=true:=rfl
@[simp] theorem cells_int (k : IntKind) (n : Int) : AV.cells (AV.int k n)=[(AV.int k n)]:=rfl
@[simp] theorem one_int (k : IntKind) (n : Int) : AV.one (AV.int k n)=true:=rfl
@[simp] theorem cells_str (s : ByteArray) : AV.cells (AV.str s)=[(AV.str s)]:=rfl
@[simp] theorem one_str (s : ByteArray) : AV.one (AV.str s)=true:=rfl
@[simp] theorem cells_nilp  : AV.cells (AV.nilp)=[(AV.nilp)]:=rfl
@[simp] theorem one_nilp  : AV.one (AV.nilp)=true:=rfl
@[simp] theorem cells_ptr (b v z i o : Nat) : AV.cells (AV.ptr b v z i o)=[(AV.ptr b v z i o)]:=rfl
@[simp] theorem one_ptr (b v z i o : Nat) : AV.one (AV.ptr b v z i o)=true:=rfl
@[simp] theorem cells_iptr (l : List AV) : AV.cells (AV.iptr l)=[(AV.iptr l)]:=rfl
@[simp] theorem one_iptr (l : List AV) : AV.one (AV.iptr l)=true:=rfl
@[simp] theorem cells_isl (l : List AV) : AV.cells (AV.isl l)=[(AV.isl l)]:=rfl
@[simp] theorem one_isl (l : List AV) : AV.one (AV.isl l)=true:=rfl
@[simp] theorem cells_esl  : AV.cells (AV.esl)=[(AV.esl)]:=rfl
@[simp] theorem one_esl  : AV.one (AV.esl)=true:=rfl
@[simp] theorem cells_osl (b v z o l : Nat) : AV.cells (AV.osl b v z o l)=[(AV.osl b v z o l)]:=rfl
@[simp] theorem one_osl (b v z o l : Nat) : AV.one (AV.osl b v z o l)=true:=rfl
@[simp] theorem cells_agg (l : List AV) : AV.cells (AV.agg l)=l:=rfl
@[simp] theorem one_agg (l : List AV) : AV.one (AV.agg l)=false:=rfl
@[simp] theorem cells_tup (l : List AV) : AV.cells (AV.tup l)=[(AV.tup l)]:=rfl
@[simp] theorem one_tup (l : List AV) : AV.one (AV.tup l)=false:=rfl
@[simp] theorem cells_clos (f : FuncId) (k : Nat) (l : List AV) : AV.cells (AV.clos f k l)=[(AV.clos f k l)]:=rfl
@[simp] theorem one_clos (f : FuncId) (k : Nat) (l : List AV) : AV.one (AV.clos f k l)=true:=rfl
@[simp] theorem cells_nilf  : AV.cells (AV.nilf)=[(AV.nilf)]:=rfl
@[simp] theorem one_nilf  : AV.one (AV.nilf)=true:=rfl
@[simp] theorem cells_nili  : AV.cells (AV.nili)=[(AV.nili)]:=rfl
@[simp] theorem one_nili  : AV.one (AV.nili)=true:=rfl
@[simp] theorem cells_iface (t : TypeId) (v : AV) : AV.cells (AV.iface t v)=[(AV.iface t v)]:=rfl
@[simp] theorem one_iface (t : TypeId) (v : AV) : AV.one (AV.iface t v)=true:=rfl
theorem frz_pure {base : Nat} : ∀ {n : Nat} {v : AV} {h : H},v.pure=true→frz base n v h=some (v,h)
 | 0,v,h,hp=>by simp only [frz,hp,if_true]
 | n + 1,v,h,hp=>by unfold frz; rw [if_pos hp]
theorem frzL_pure {base n : Nat} {h : H} : ∀ {l : List AV},pureL l=true→frzL (frz base n) l h=some (l,h)
 | [],_=>rfl
 | v :: l,hp=>by
  simp only [pureL,Bool.and_eq_true] at hp
  simp only [frzL,frz_pure hp.1,frzL_pure hp.2]
@[simp] theorem frz_agg (base n : Nat) (l : List AV) (h : H) : frz base (n + 1) (.agg l) h=match frzL (frz base n) l h with | some (l',h')=>some (.agg l',h') | none=>none:=by
 by_cases hp : pureL l=true
 ·rw [frz_pure (by simpa using hp),frzL_pure hp]
 ·rw [frz,if_neg (by simpa using hp)]; rfl
@[simp] theorem frz_tup (base n : Nat) (l : List AV) (h : H) : frz base (n + 1) (.tup l) h=match frzL (frz base n) l h with | some (l',h')=>some (.tup l',h') | none=>none:=by
 by_cases hp : pureL l=true
 ·rw [frz_pure (by simpa using hp),frzL_pure hp]
 ·rw [frz,if_neg (by simpa using hp)]; rfl
@[simp] theorem frz_isl (base n : Nat) (l : List AV) (h : H) : frz base (n + 1) (.isl l) h=match frzL (frz base n) l h with | some (l',h')=>some (.isl l',h') | none=>none:=by
 by_cases hp : pureL l=true
 ·rw [frz_pure (by simpa using hp),frzL_pure hp]
 ·rw [frz,if_neg (by simpa using hp)]; rfl
@[simp] theorem frz_esl (base n : Nat) (h : H) : frz base (n + 1) .esl h=some (.isl [],h):=rfl
@[simp] theorem frz_osl (base n b ver sz off len : Nat) (h : H) : frz base (n + 1) (.osl b ver sz off len) h=if b < base then some (.osl b ver sz off len,h) else match look h b ver sz off len with
      | some els=>(match frzL (frz base n) els (kill h b ver) with | some (l',h')=>some (.isl l',h') | none=>none)
      | none=>none:=rfl
@[simp] theorem frz_ptr (base n b ver sz i o : Nat) (h : H) : frz base (n + 1) (.ptr b ver sz i o) h=if b < base then some (.ptr b ver sz i o,h) else none:=rfl
@[simp] theorem frz_int (base n : Nat) (k : IntKind) (x : Int) (h : H) : frz base n (.int k x) h=some (.int k x,h):=frz_pure rfl
@[simp] theorem frz_bool (base n : Nat) (b : Bool) (h : H) : frz base n (.bool b) h=some (.bool b,h):=frz_pure rfl
@[simp] theorem frz_str (base n : Nat) (s : ByteArray) (h : H) : frz base n (.str s) h=some (.str s,h):=frz_pure rfl
@[simp] theorem frz_nilp (base n : Nat) (h : H) : frz base n .nilp h=some (.nilp,h):=frz_pure rfl
theorem snap_pure {h : H} : ∀ {n : Nat} {v : AV},v.pure=true→snap h n v=some v
 | 0,v,hp=>by simp only [snap,hp,if_true]
 | n + 1,v,hp=>by unfold snap; rw [if_pos hp]
theorem snapL_pure {h : H} {n : Nat} : ∀ {l : List AV},pureL l=true→snapL (snap h n) l=some l
 | [],_=>rfl
 | v :: l,hp=>by
  simp only [pureL,Bool.and_eq_true] at hp
  simp only [snapL,snap_pure hp.1,snapL_pure hp.2]
@[simp] theorem snap_agg (h : H) (n : Nat) (l : List AV) : snap h (n + 1) (.agg l)=(snapL (snap h n) l).map .agg:=by
 by_cases hp : pureL l=true
 ·rw [snap_pure (by simpa using hp),snapL_pure hp]; rfl
 ·rw [snap,if_neg (by simpa using hp)]
@[simp] theorem snap_isl (h : H) (n : Nat) (l : List AV) : snap h (n + 1) (.isl l)=(snapL (snap h n) l).map .isl:=by
 by_cases hp : pureL l=true
 ·rw [snap_pure (by simpa using hp),snapL_pure hp]; rfl
 ·rw [snap,if_neg (by simpa using hp)]
@[simp] theorem snap_clos (h : H) (n : Nat) (f : FuncId) (k : Nat) (l : List AV) : snap h (n + 1) (.clos f k l)=(snapL (snap h n) l).map (.clos f k):=by
 by_cases hp : pureL l=true
 ·rw [snap_pure (by simpa using hp),snapL_pure hp]; rfl
 ·rw [snap,if_neg (by simpa using hp)]
@[simp] theorem snap_esl (h : H) (n : Nat) : snap h (n + 1) .esl=some (.isl []):=rfl
@[simp] theorem snap_osl (h : H) (n b ver sz off len : Nat) : snap h (n + 1) (.osl b ver sz off len)=match look h b ver sz off len with
      | some els=>(snapL (snap h n) els).map .isl
      | none=>none:=rfl
@[simp] theorem snap_int (h : H) (n : Nat) (k : IntKind) (x : Int) : snap h n (.int k x)=some (.int k x):=snap_pure rfl
@[simp] theorem snap_bool (h : H) (n : Nat) (b : Bool) : snap h n (.bool b)=some (.bool b):=snap_pure rfl
@[simp] theorem snap_str (h : H) (n : Nat) (s : ByteArray) : snap h n (.str s)=some (.str s):=snap_pure rfl
@[simp] theorem snap_nilp (h : H) (n : Nat) : snap h n .nilp=some .nilp:=snap_pure rfl
@[simp] theorem snapL_strs (h : H) (n : Nat) (l : List ByteArray) : snapL (snap h n) (l.map AV.str)=some (l.map AV.str):=snapL_pure (by induction l <;> simp_all)
@[simp] theorem frzL_strs (base n : Nat) (l : List ByteArray) (h : H) : frzL (frz base n) (l.map AV.str) h=some (l.map AV.str,h):=frzL_pure (by induction l <;> simp_all)
@[simp] theorem heap_get (h x : H) (k : Nat) : (h++x)[h.length + k]? = x[k]?:=by rw [List.getElem?_append_right (by omega)]; congr 1; omega
@[simp] theorem heap_get0 (h x : H) : (h++x)[h.length]? = x[0]?:=heap_get h x 0
@[simp] theorem heap_set (h x : H) (k : Nat) (v : ABlock) : (h++x).set (h.length + k) v=h++x.set k v:=by
 have:=List.set_append_right (s:=h) (t:=x) (h.length + k) v (by omega)
 rw [Nat.add_sub_cancel_left] at this; exact this
@[simp] theorem heap_set0 (h x : H) (v : ABlock) : (h++x).set h.length v=h++x.set 0 v:=heap_set h x 0 v
@[simp] theorem take_len_map {α β : Type} (f : α→β) (l : List α) : List.take l.length (l.map f)=l.map f:=by rw [← List.length_map (f:=f),List.take_length]
@[simp] theorem not_add_lt (n k : Nat) : (n + k < n) ↔ False:=by simp
theorem ite_pair {α β : Type} (c : Prop) [Decidable c] (a b : α) (h : β) : (if c then some (a,h) else some (b,h))=some (if c then a else b,h):=by split <;> rfl
theorem ite_bool (c : Prop) [Decidable c] (a b : Bool) : (if c then AV.bool a else AV.bool b)=AV.bool (if c then a else b):=by split <;> rfl
attribute [simp] ite_pair ite_bool
@[simp] theorem ite_and (a b : Bool) : (if a=true then b else a)=(a && b):=by cases a <;> rfl
@[simp] theorem ite_and' (a b : Bool) : (if a=true then b else false)=(a && b):=by cases a <;> rfl
@[simp] theorem ite_or (a b : Bool) : (if a=true then a else b)=(a || b):=by cases a <;> rfl
@[simp] theorem ite_or' (a b : Bool) : (if a=false then b else a)=(a || b):=by cases a <;> rfl
@[simp] theorem ite_orn (a b : Bool) : (if a=false then b else true)=(a || b):=by cases a <;> rfl
@[simp] theorem pureL_strs (l : List ByteArray) : pureL (l.map AV.str)=true:=by induction l <;> simp_all
theorem roundsL_k {f : Env→H→Out} {keep : List Nat} {e : Env} {h : H} {r : Ex × Env × H} (ev : ∀ K : Env→H→Out,(∀ e h,K e h=roundsL f keep e h)→andThen (f (e.keep keep) h) K=some r) : roundsL f keep e h=some r:=roundsL_step (ev _ fun _ _=>rfl)
theorem wrap_nat {n : Nat} (h : n < 9223372036854775808) : IntKind.wrap .i64 (n : Int)=n:=by
 simp [IntKind.wrap,IntKind.bits,IntKind.signed]; omega
theorem wrap_id {n : Int} (h1 : -9223372036854775808≤n) (h2 : n < 9223372036854775808) : IntKind.wrap .i64 n=n:=by
 simp [IntKind.wrap,IntKind.bits,IntKind.signed]; omega
theorem loop_up {f : Env→H→Out} {keep : List Nat} (n : Nat) (S : Nat→Env) (G : Nat→H) (R : Nat→Ex × Env × H)
    (step : ∀ i,i < n→∀ K : Env→H→Out,K (S (i + 1)) (G (i + 1))=some (R (i + 1))→andThen (f ((S i).keep keep) (G i)) K=some (R i))
    (last : ∀ K,andThen (f ((S n).keep keep) (G n)) K=some (R n)) : roundsL f keep (S 0) (G 0)=some (R 0):=by
 have go : ∀ k i,i + k=n→roundsL f keep (S i) (G i)=some (R i):=by
  intro k
  induction k with
  | zero=>intro i hi; have : i=n:=by omega
          subst this; exact roundsL_step (last _)
  | succ k ih=>intro i hi; exact roundsL_step (step i (by omega) _ (ih (i + 1) (by omega)))
 exact go n 0 (by omega)
theorem loop_list {α : Type} {f : Env→H→Out} {keep : List Nat} (l : List α) (S : Nat→Env) (G : Nat→H) (R : Nat→List α→Ex × Env × H)
    (step : ∀ i x r,l.drop i=x :: r→(hi : i < l.length)→l[i]=x→∀ K : Env→H→Out,K (S (i + 1)) (G (i + 1))=some (R (i + 1) r)→andThen (f ((S i).keep keep) (G i)) K=some (R i (x :: r)))
    (last : ∀ K,andThen (f ((S l.length).keep keep) (G l.length)) K=some (R l.length [])) : roundsL f keep (S 0) (G 0)=some (R 0 l):=by
 have:=loop_up (f:=f) (keep:=keep) l.length S G (fun i=>R i (l.drop i)) (fun i hi K hK=>by
  have hd : l.drop i=l[i] :: l.drop (i + 1):=List.drop_eq_getElem_cons hi
  show _=some (R i (l.drop i))
  rw [hd]
  exact step i _ _ hd hi rfl K hK) (fun K=>by simpa using last K)
 simpa using this
theorem loop_post {α γ : Type} {f : Env→H→Out} {keep : List Nat} (l : List α) (I : Nat→γ→Prop) (S : Nat→γ→Env) (G : Nat→γ→H) (Post : Nat→List α→Ex × Env × H→Prop)
    (step : ∀ i x r c,l.drop i=x :: r→(hi : i < l.length)→l[i]=x→I i c→∀ K : Env→H→Out,(∀ c',I (i + 1) c'→∃ o,K (S (i + 1) c') (G (i + 1) c')=some o∧Post (i + 1) r o)→∃ o,andThen (f ((S i c).keep keep) (G i c)) K=some o∧Post i (x :: r) o)
    (last : ∀ c K,I l.length c→∃ o,andThen (f ((S l.length c).keep keep) (G l.length c)) K=some o∧Post l.length [] o) (c : γ) (h0 : I 0 c) : ∃ o,roundsL f keep (S 0 c) (G 0 c)=some o∧Post 0 l o:=by
 have go : ∀ k i c,i + k=l.length→I i c→∃ o,roundsL f keep (S i c) (G i c)=some o∧Post i (l.drop i) o:=by
  intro k
  induction k with
  | zero=>
   intro i c hi hI
   have : i=l.length:=by omega
   subst this
   obtain ⟨o,h1,h2⟩:=last c _ hI
   exact ⟨o,roundsL_step h1,by simpa using h2⟩
  | succ k ih=>
   intro i c hi hI
   have hlt : i < l.length:=by omega
   have hd : l.drop i=l[i] :: l.drop (i + 1):=List.drop_eq_getElem_cons hlt
   obtain ⟨o,h1,h2⟩:=step i _ _ c hd hlt rfl hI _ fun c' hc'=>ih (i + 1) c' (by omega) hc'
   exact ⟨o,roundsL_step h1,by rw [hd]; exact h2⟩
 simpa using go l.length 0 c (by omega) h0
def SlcIn (n k sz : Nat) (g : H) (acc : List AV) (v : AV) : Prop:=(acc=[]∧v = .esl) ∨ ∃ j ver,v = .osl (n + (j + k)) ver sz 0 acc.length∧g[j]? = some (.arr ver sz acc)
end Go.Avm
