/- What is not looked into keeps its word. -/
import Derived.Test.YtflbneepngjglaaGreatDoorP31
import Derived.Test.YtflbneepngjglaaGreatDoorP30
import Derived.Test.YtflbneepngjglaaGreatDoorP29
import Derived.Test.YtflbneepngjglaaGreatDoorP13
import Derived.WalkKit
set_option linter.all false
namespace Go.Proofs.YtflbneepngjglaaGreatDoor
open Go.RowKit Go.Maps Go.Sort Go.Shelf Go.Avm
theorem cloneS_in (n B : Nat) (ss : List (List UInt8)) (u : Value) (W : World) (hrow : W.ownsRow B 9 1 u ss.length (ss.map encStr)) (hz : ss.length≤67108864) :
    CallsIn Fence.wide n Tryz.prog 230 #[u] W fun e w'=>∃ u',e = .returned u'∧w'.ownsRow W.heap.size 9 1 u' ss.length (ss.map encStr)∧Below W.heap.size W w':=by
 refine callsIn_wide.2 ?_
 by_cases hu : u = .slice none 0 0
 ·subst hu
  have h0 : ss=[]:=by
   rcases hrow.2 with ⟨_,h⟩ | ⟨g,cap,cur,h,_⟩
   ·exact List.eq_nil_of_length_eq_zero h
   ·cases h
  subst h0
  refine (AnyE.slices_Clone_nil Tryz.layCs 0 0 W).mono ?_
  rintro e w' ⟨rfl,rfl⟩
  exact ⟨_,rfl,⟨rfl,.inl ⟨rfl,rfl⟩⟩,Below.refl _ _⟩
 ·obtain ⟨g,cap,rfl,hbg,hgl,hncap,hcm,hlen,hH⟩:=Lib.holds_of_ownsRow hrow hu
  have hc : ∀ (j : Nat) (u : Value),(ss.map encStr)[j]? = some u→W.cell? ⟨g,0 + j,none⟩=some u:=fun j u hj=>by
   rcases hrow.2 with ⟨h,_⟩ | ⟨g',cap',cur,h,_,hg',h1,_,h3,h4⟩
   ·cases h
   ·cases h
    have hj' : cur[j]? = some u:=by
     rw [← h4,List.getElem?_take] at hj
     split at hj
     ·simpa using hj
     ·cases hj
    simp [World.cell?,hg',hj']
  obtain ⟨i0,hi,hz0,hz1,hz2⟩:=info_parts Tryz.layS.i26
  refine (AnyE.slices_Clone Tryz.layCs i0 (.string ⟨#[]⟩) 1 16 hi hz0 hz1 hz2 rfl (by decide) Tryz.sizeOf9 g 0 ss.length cap (ss.map encStr) W (by simp) (by unfold maxLen; omega) (by omega) hc (fun u hu=>by
   obtain ⟨x,_,rfl⟩:=List.mem_map.1 hu; rfl)).mono ?_
  rintro e w' ⟨v',rfl,ho,_,hb⟩
  exact ⟨v',rfl,ho,hb⟩
set_option maxRecDepth 100000 in
set_option maxHeartbeats 4000000 in
theorem twice_calls (ns : List (List UInt8)) (v : Value) (W : World) (hv : StrsAt W v ns) (hz : ns.length≤67108864) :
    Calls Tryz.prog 148 #[v] W fun e W'=>e = .returned (.bool (!decide ns.Nodup))∧Below W.heap.size W W':=by
 refine (callsIn_wide (n:=10)).1 ?_
 obtain ⟨ad,cap,hve⟩:=hv.slice
 have hS:=sorted_in _ v W hv (by simpa using hz)
 have hl : (srt ns).length=ns.length:=List.length_mergeSort ns
 subst hve
 have hK:=fun (u : Value) (w1 : World) (h : w1.ownsRow W.heap.size 9 1 u (srt ns).length ((srt ns).map encStr))=>cloneS_in 9 W.heap.size (srt ns) u w1 h (by omega)
 have hC:=fun (B : Nat) (u : Value) (w1 : World) (h : w1.ownsRow B 9 1 u (srt ns).length ((srt ns).map encStr))=>compact_in 9 B (srt ns) u w1 h (by omega)
 have hO : ∀ (u : Value) (w1 : World),w1.ownsRow W.heap.size 9 1 u (srt ns).length ((srt ns).map encStr)→∃ a c,u = .slice a ns.length c:=fun u w1 h=>by
  rcases h.2 with ⟨rfl,h0⟩ | ⟨g,cap',cur,rfl,_⟩
  ·exact ⟨none,0,by rw [← hl,h0]⟩
  ·exact ⟨_,_,by rw [hl]⟩
 have hcl:=compact_len ns
 have hle:=compact_le ns
 obtain ⟨q,hq⟩ : ∃ q,(Lib.compact (srt ns)).length=q:=⟨_,rfl⟩
 rw [hq] at hC hcl hle
 clear hv
 have hfa : Fence.wide.fn 228:=trivial
 have hfb : Fence.wide.fn 227:=trivial
 have hfc : Fence.wide.fn 229:=trivial
 have hfd : Fence.wide.fn 230:=trivial
 refine callsIn_of_wp Tryz.func148 rfl trivial ?_ rfl
 simp only [Tryz.ntmps148,List.size_toArray,List.length_cons,List.length_nil,Nat.reduceAdd,Nat.reduceSub,Array.replicate_succ,Array.replicate_zero,List.push_toArray,List.append_toArray,List.nil_append,List.cons_append]
 gi_wp2_with (first
  | (gi_at_call 228; refine (values_in 9 _ _ _ _).mono ?_; rintro e w' ⟨rfl,rfl⟩)
  | (gi_at_call 227; refine hS.mono ?_; rintro e w1 ⟨u,rfl,hrow,hnil,hb1⟩; obtain ⟨a1,c1,hu⟩:=hO _ _ hrow; rw [hu] at hrow; rw [hu])
  | (gi_at_call 230; refine (hK _ _ hrow).mono ?_; rintro e w2 ⟨u2,rfl,hrow2,hb2⟩)
  | (gi_at_call 229; refine (hC _ _ _ hrow2).mono ?_; rintro e w3 ⟨a3,cap3,rfl,hb3⟩))
 all_goals go_ret
 refine ⟨?_,hb1.trans ((hb2.trans hb3).mono hb1.size)⟩
 show Ending.returned (Value.bool (decide (q < ns.length)))=Ending.returned (Value.bool (!decide ns.Nodup))
 congr 2
 by_cases hn : ns.Nodup
 ·have:=hcl.2 hn
  simp [hn]; omega
 ·have : q ≠ ns.length:=fun e=>hn (hcl.1 e)
  simp [hn]; omega
end Go.Proofs.YtflbneepngjglaaGreatDoor
namespace Go.Proofs
open Go.Shelf Go.RowKit Go.Lib
variable {P : Program} {ρ : Ren}
theorem app_none {P : Program} {t : TypeId} {q r : Option Addr} {len cap c sz : Nat} {i : TypeInfo} {e : TypeId} (ht : P.underlying t=some (.slice e)) (hi : P.info? e=some i) (hsz : i.size=sz) (hc : len≤cap) (ty : TypeId) (w : World) :
    (Builtin.append_ #[t,t] ty #[.slice q len cap,.slice r 0 c]).run P w = .ok (.slice q len cap) w:=by
 have hs : (sizeOf e).run P w = .ok sz w:=by simp [sizeOf,typeInfo,hi,hsz]
 cases q <;> cases r <;> simp [Builtin.append_,run_underlying ht,hs,Builtin.lenOf,hc,Builtin.firstCells,loadCells,loadCellsFrom,storeCells]
set_option maxHeartbeats 2000000 in
set_option maxRecDepth 100000 in
theorem clone_none (L : SlLaysE0.n41 P ρ) (i0 : TypeInfo) (size : Nat) (hi : P.info? (ρ.t 23)=some i0) (hz1 : i0.size=size) (z23 : ∀ w,(Go.sizeOf (ρ.t 23)).run P w = .ok size w) (q : Addr) (c : Nat) (w : World) :
    Calls P (ρ.f 41) #[.slice (some q) 0 c] w fun e w'=>∃ v',e = .returned v'∧w'.ownsRow w.heap.size (ρ.t 23) size v' 0 []∧Below w.heap.size w w':=by
 have mixed:=L.mixed; have t4:=L.t4; have a4:=L.a4; have z4:=L.z4; have v4:=L.v4; have t22:=L.t22; have a22:=L.a22; have z22:=L.z22; have v22:=L.v22
 have q22 : ∀ (w : World) (a : Option Addr) (n c n' c' : Nat),(binOp .eql (ρ.t 22) (.slice a n c) (.slice none n' c')).run P w = .ok (.bool a.isNone) w:=fun w a n c n' c'=>Lib.run_eql_slice_nil w _ _ a n c n' c' L.t22
 have u22 : ∀ w,Sem.run P (underlying (ρ.t 22)) w = .ok (TypeDesc.slice (ρ.t 23)) w:=run_underlying t22
 have happ:=fun (g : Nat) (ty : TypeId) (w : World)=>app_none (P:=P) (q:=some ⟨g,0,none⟩) (r:=some q) (len:=0) (cap:=0) (c:=c) t22 hi hz1 (Nat.le_refl 0) ty w
 obtain ⟨_,_,FG⟩:=L.f41
 go_enter FG,SlBodyN.n41_ntmps ρ
 go_wp2
 go_ret
 refine ⟨_,rfl,⟨by simp,.inr ⟨w.heap.size,0,#[],rfl,Nat.le_refl _,Avm.heap_new w _,Nat.le_refl _,Nat.zero_le _,by simp,by simp⟩⟩,(Below.refl _ w).alloc (Nat.le_refl _) _⟩
theorem clone_ok (L : SlLaysE0.n41 P ρ) (i0 : TypeInfo) (z : Value) (size bytes lim : Nat) (hi : P.info? (ρ.t 23)=some i0) (hz0 : i0.zero=some z) (hz1 : i0.size=size) (hz2 : i0.bytes=bytes) (hzs : z.cells.size=size) (hsz : 0 < size)
    (z23 : ∀ w,(Go.sizeOf (ρ.t 23)).run P w = .ok size w) (hlim : lim * bytes≤140737488355328) (hl : lim≤maxLen) (hen : ∀ vs w,(callFunc (ρ.f 41) vs).run P w = .ok (.enter (ρ.f 41) vs) w) (w0 : World) : Avm.ExtOk P w0 (ρ.f 41) (Avm.cloneX size lim):=
 Avm.clone_ext hsz hlim hl (fun b off n c news w h1 h2 h3 h4 h5=>AnyE.slices_Clone L i0 z size bytes hi hz0 hz1 hz2 hzs hsz z23 b off n c news w h1 h2 h3 h4 h5)
  (fun a c w=>by
   cases a with
   | none=>
    refine (AnyE.slices_Clone_nil L 0 c w).mono ?_
    rintro e w' ⟨rfl,rfl⟩
    exact ⟨_,rfl,⟨by simp,.inl ⟨rfl,rfl⟩⟩,Below.refl _ _⟩
   | some q=>exact clone_none L i0 size hi hz1 z23 q c w) hen
end Go.Proofs
namespace Go.Proofs.YtflbneepngjglaaGreatDoor
open Go Go.Avm Go.RowKit
theorem strs_some : ∀ {els : List AV} {l : List ByteArray},strs els=some l→els=l.map .str
 | [],l,h=>by cases h; rfl
 | x :: r,l,h=>by
  cases x with
  | str s=>
   simp only [strs] at h
   cases hr : strs r with
   | none=>rw [hr] at h; cases h
   | some q=>rw [hr] at h; cases h; rw [strs_some hr]; rfl
  | _=>simp [strs] at h
theorem distinct_iff : ∀ (l : List ByteArray),distinct l=true ↔ (l.map (·.data.toList)).Nodup
 | []=>by simp [distinct]
 | x :: l=>by
  simp only [distinct,Bool.and_eq_true,List.all_eq_true,Bool.not_eq_true',beq_eq_false_iff_ne,List.map_cons,List.nodup_cons,distinct_iff l,List.mem_map,not_exists,not_and,ByteArray.toList_eq]
  exact ⟨fun h=>⟨fun y hy e=>h.1 y hy e.symm,h.2⟩,fun h=>⟨fun y hy e=>h.1 y hy e.symm,h.2⟩⟩
theorem strsAt_of {w0 w : World} {wr : Nat} {β : Beta} {h : Avm.H} {x : AV} {v : Value} {l : List ByteArray} (S : Sim w0 wr β h w) (he : elsOf h x=some (l.map .str)) (hr : Rel (view wr β h w) β x v) : StrsAt w v (l.map (·.data.toList)):=by
 obtain ⟨a,cap,rfl,hcap,hq⟩:=elsOf_rel S he hr
 by_cases hl : l=[]
 ·subst hl; exact .inl ⟨rfl,a,cap,rfl⟩
 ·rcases hq with hq | ⟨c,o,sz,rfl,hbe⟩
  ·exact absurd (by simpa using hq) hl
  ·have hg : ∀ j s,l[j]? = some s→w.cell? ⟨c,o + j,none⟩=some (.string s):=fun j s hj=>by
     obtain ⟨h1,h2⟩:=hbe j (.str s) (by rw [List.getElem?_map,hj]; rfl)
     have hsz : sz=1:=h1.symm
     subst hsz
     obtain ⟨u,h3,h4⟩:=h2 0 (.str s) rfl
     unfold Rel at h4
     subst h4
     unfold rdw at h3
     simpa using h3
   refine .inr ⟨c,o,cap,by simp,by simpa using hcap,?_,fun j hj=>?_⟩
   ·have hp : 0 < l.length:=List.length_pos_iff.2 hl
    exact cell_lt (hg 0 _ (List.getElem?_eq_getElem hp))
   ·have hj' : j < l.length:=by simpa using hj
    rw [hg j _ (List.getElem?_eq_getElem hj')]
    simp [Go.Proofs.encStr,hj']
theorem twice_ext (w0 : World) : ExtOk Tryz.prog w0 148 twiceX:=by
 refine ⟨fun args h r h' ev=>?_,fun args h r h' wr β w vs ev hwr S hr=>?_⟩
 ·unfold twiceX at ev
  split at ev
  ·split at ev
   ·split at ev
    ·split at ev
     ·cases ev; exact ⟨[],by simp,noT_nil⟩
     ·cases ev
    ·cases ev
   ·cases ev
  ·cases ev
 ·unfold twiceX at ev
  split at ev
  ·split at ev
   ·rename_i els hels
    split at ev
    ·rename_i l hl
     split at ev
     ·rename_i hlen
      cases ev
      rw [strs_some hl] at hels
      unfold RelL at hr
      obtain ⟨v,r1,e1,hv,hr⟩:=hr
      unfold RelL at hr
      subst hr
      obtain rfl : vs = #[v]:=by cases vs; simp_all
      refine .inl ⟨callFunc_run Tryz.func148 (by decide +kernel) rfl _ w,(twice_calls _ v w (strsAt_of S hels hv) (by simpa using hlen)).mono ?_⟩
      rintro e w' ⟨rfl,hb⟩
      obtain ⟨S',E⟩:=sim_grow S hb.os hb.tape hb.output hb.size hb.block
      refine ⟨_,rfl,β,S',E,?_⟩
      unfold Rel
      congr 1
      have:=distinct_iff l
      cases hd : distinct l <;> simp_all
     ·cases ev
    ·cases ev
   ·cases ev
  ·cases ev
theorem contains_ext {w0 : World} {m : Int} (hm : w0.cell? ⟨Tryz.layCo_ren.g 1,0,none⟩=some (.int .i64 m)) : ExtOk Tryz.prog w0 166 containsX:=by
 refine ⟨fun args h r h' ev=>?_,fun args h r h' wr β w vs ev hwr S hr=>?_⟩
 ·unfold containsX at ev
  split at ev
  ·split at ev
   ·cases ev; exact ⟨[],by simp,noT_nil⟩
   ·cases ev
  ·cases ev
 ·unfold containsX at ev
  split at ev
  ·rename_i s t
   split at ev
   ·rename_i hs
    cases ev
    unfold RelL at hr
    obtain ⟨v,r1,e1,hv,hr⟩:=hr
    unfold RelL at hr
    obtain ⟨v2,r2,rfl,hv2,hr⟩:=hr
    unfold RelL at hr
    subst hr
    unfold Rel at hv hv2
    subst hv hv2
    obtain rfl : vs = #[.string s,.string t]:=by cases vs; simp_all
    have hmw : w.cell? ⟨Tryz.layCo_ren.g 1,0,none⟩=some (.int .i64 m):=(S.below.cell (cell_lt hm)).trans hm
    refine .inl ⟨callFunc_run Tryz.func166 (by decide +kernel) rfl _ w,(Any.strings_Contains { Tryz.layCo with } s t m w hs hmw).mono ?_⟩
    rintro e w' ⟨rfl,rfl⟩
    exact ⟨_,rfl,β,S,Ext.refl _ _ _ _,by unfold Rel; rfl⟩
   ·cases ev
  ·cases ev
theorem cloneV_ext (w0 : World) : ExtOk Tryz.prog w0 71 (cloneX 4 lim):=
 clone_ok Tryz.layCv Tryz.t31 _ 4 56 lim (by kernel_rfl) rfl rfl rfl rfl (by decide) Tryz.sizeOf31 (by unfold lim; omega) (by unfold lim maxLen; omega) (enters_of Tryz.func71 (by kernel_rfl) rfl) w0
theorem cloneT_ext (w0 : World) : ExtOk Tryz.prog w0 97 (cloneX 8 lim):=
 clone_ok Tryz.layCt Tryz.t28 _ 8 96 lim (by kernel_rfl) rfl rfl rfl rfl (by decide) Tryz.sizeOf28 (by unfold lim; omega) (by unfold lim maxLen; omega) (enters_of Tryz.func97 (by kernel_rfl) rfl) w0
theorem cloneI_ext (w0 : World) : ExtOk Tryz.prog w0 98 (cloneX 12 lim):=
 clone_ok Tryz.layCi Tryz.t46 _ 12 144 lim (by kernel_rfl) rfl rfl rfl rfl (by decide) Tryz.sizeOf46 (by unfold lim; omega) (by unfold lim maxLen; omega) (enters_of Tryz.func98 (by kernel_rfl) rfl) w0
theorem fn_ok {f : FuncId} {F : F} (hF : fnOf fnl f=some F) : FOk Tryz.prog (drawIs Tryz.prog pf) f F:=by
 have h:=List.all_eq_true.1 checked (f,F) (fnOf_mem hF)
 exact fOk_of h
theorem cfg_ok {w0 : World} {m : Int} (hm : w0.cell? ⟨Tryz.layCo_ren.g 1,0,none⟩=some (.int .i64 m)) : CfgOk Tryz.prog w0 (drawIs Tryz.prog pf) cfg where
 fn:=fun f F _ hF=>fn_ok hF
 ext:=fun f x hx=>by
  simp only [cfg,extOf] at hx
  split at hx
  ·rename_i hf; cases hx; subst hf; exact twice_ext w0
  ·split at hx
   ·rename_i hf; cases hx; subst hf; exact contains_ext hm
   ·split at hx
    ·rename_i hf; cases hx; subst hf; exact cloneV_ext w0
    ·split at hx
     ·rename_i hf; cases hx; subst hf; exact cloneT_ext w0
     ·split at hx
      ·rename_i hf; cases hx; subst hf; exact cloneI_ext w0
      ·cases hx
 draw:=drawAll follows fun g hg=>by
  unfold pf at hg
  split at hg
  ·rename_i h; exact .inl h
  ·rename_i b h; exact .inr ⟨b,h⟩
  ·cases hg
end Go.Proofs.YtflbneepngjglaaGreatDoor
