/- Calls of what (basic.writer).contents calls. -/
import Derived.Test.YtdgdhckjfllfmaaGreatDoorM33
import Derived.RangeFuncBox
import Derived.WalkKit
import Derived.TacticsInMore
import Derived.Lib.SlBytesRow
import Derived.Test.YtdgdhckjfllfmaaGreatDoorM32
set_option linter.all false
namespace Go.Proofs.YtdgdhckjfllfmaaGreatDoor
open Go.RowKit Go.Maps Go.Sort Go.Shelf
theorem bld_size : (Tryz.prog.info? 88).map (·.size)=some 2:=by kernel_rfl
theorem bld_lies : liesAt Tryz.prog Tryz.prog.depth 88 (2 / Tryz.prog.cellsOf 88) 0 88 1=true:=by kernel_rfl
set_option maxHeartbeats 1000000 in
set_option maxRecDepth 100000 in
theorem copyCheck_used (b : Nat) (w : World) (h0 : w.cell? ⟨b,0,none⟩=some (.pointer (some ⟨b,0,none⟩))) :
    Calls Tryz.prog 66 #[.pointer (some ⟨b,0,none⟩)] w fun e w'=>e = .returned (.tuple #[])∧w'=w:=by
 obtain ⟨j,hj,_⟩:=Option.map_eq_some_iff.1 bld_size
 go_enter Tryz.func66,Tryz.ntmps66
 go_wp2
 rw [Lib.run_neq_ptr_same w _ Tryz.underlying86 hj]
 go_wp2
 go_end0
 exact ⟨rfl,rfl⟩
set_option maxHeartbeats 1000000 in
set_option maxRecDepth 100000 in
theorem copyCheck_fresh (b : Nat) (w : World) (h0 : w.cell? ⟨b,0,none⟩=some (.pointer none)) (hsh : w.shape? b=some (88,2)) (hfz : w.frozen? ⟨b,0,none⟩=false) :
    Calls Tryz.prog 66 #[.pointer (some ⟨b,0,none⟩)] w fun e w'=>e = .returned (.tuple #[])∧w'=w.setCell ⟨b,0,none⟩ (.pointer (some ⟨b,0,none⟩)):=by
 obtain ⟨j,hj,hjs⟩:=Option.map_eq_some_iff.1 bld_size
 go_enter Tryz.func66,Tryz.ntmps66
 go_wp2
 rw [Lib.run_to_unsafe w ⟨b,0,none⟩ Tryz.underlying86 Tryz.underlying141 hj (by rw [hjs]; decide) hsh (Nat.zero_lt_succ 1)]
 simp only [Result.andThen]
 rw [Oper.upon_value]
 go_wp2
 rw [run_callFunc_extern Tryz.func103 (by kernel_rfl) (by kernel_rfl) (by kernel_rfl) (e:=Extern.AbiNoEscape.same) (by kernel_rfl)]
 rw [Lib.run_noEscape]
 simp only [Result.andThen]
 rw [Oper.upon_value]
 go_wp2
 rw [Lib.run_from_unsafe w ⟨b,0,none⟩ Tryz.underlying141 Tryz.underlying86 hj hsh bld_lies]
 simp only [Result.andThen]
 rw [Oper.upon_value]
 go_wp2
 go_end0
 exact ⟨rfl,rfl⟩
theorem copyCheck_any (B b : Nat) (bs : List Value) (w : World) (h : Lib.IsBuilder 88 5 B b bs w) :
    Calls Tryz.prog 66 #[.pointer (some ⟨b,0,none⟩)] w fun e w'=>e = .returned (.tuple #[])∧(Lib.BuilderAt 88 5 B b (.pointer (some ⟨b,0,none⟩)) bs w'∧Below B w w'):=by
 rcases h with h | h
 ·refine (copyCheck_fresh b w h.cell0 h.shape h.frozen0).mono ?_
  rintro e w' ⟨rfl,rfl⟩
  exact ⟨rfl,h.used _,(Below.refl B w).setCell (p:=⟨b,0,none⟩) h.1 _⟩
 ·refine (copyCheck_used b w h.cell0).mono ?_
  rintro e w' ⟨rfl,rfl⟩
  exact ⟨rfl,h,Below.refl B _⟩
theorem byte_info : (Tryz.prog.info? 5).map (fun i=>(i.zero,i.size,i.bytes))=some (some (.int .u8 0),1,1):=by kernel_rfl
set_option maxHeartbeats 2000000 in
set_option maxRecDepth 100000 in
theorem writeString_calls (B b : Nat) (bs : List Value) (s : ByteArray) (w : World) (h : Lib.IsBuilder 88 5 B b bs w) (hlen : bs.length + s.size≤140737488355328) (hBw : B≤w.heap.size) :
    Calls Tryz.prog 39 #[.pointer (some ⟨b,0,none⟩),.string s] w fun e w'=>e = .returned (.tuple #[.int .i64 s.size,.nilIface])∧(Lib.BuilderAt 88 5 B b (.pointer (some ⟨b,0,none⟩)) (bs++Lib.strCells s) w'∧Below B w w'):=by
 obtain ⟨i0,hi,hz0,hz1,hz2⟩:=info_parts byte_info
 go_enter Tryz.func39,Tryz.ntmps39
 go_wp2_with (go_at_call 66; refine (copyCheck_any B b bs _ h).mono ?_)
 rintro e w1 ⟨rfl,h1,hb1⟩
 obtain ⟨hB,v,hbk,hown,hne⟩:=h1
 have c0 : w1.cell? ⟨b,0,none⟩=some (.pointer (some ⟨b,0,none⟩)):=by rw [Lib.cell_of_heap hbk]; rfl
 have c1 : w1.cell? ⟨b,1,none⟩=some v:=by rw [Lib.cell_of_heap hbk]; rfl
 go_wp2_with (at_builtin; refine Lib.wpList_append_own_string _ rfl _ _ 26 9 rfl B 5 i0 Tryz.underlying26 Tryz.underlying9 hi hz0 hz1 hz2 _ _ _ rfl hown s rfl ?c3 ?c4 ?c5 ?_)
 case c3=>unfold maxLen; omega
 case c4=>omega
 case c5=>have:=hb1.size; omega
 intro v' w2 hown' hgrow _
 have hlt : b < w1.heap.size:=by
  rcases Nat.lt_or_ge b w1.heap.size with h' | h'
  ·exact h'
  ·simp [Array.getElem?_eq_none h'] at hbk
 have hb2 : w2.heap[b]? = some (.cells #[.pointer (some ⟨b,0,none⟩),v] 88 (0,0)):=by
  rw [hgrow.block b hlt (fun e=>hne e.symm)]
  exact hbk
 have d0 : w2.cell? ⟨b,0,none⟩=some (.pointer (some ⟨b,0,none⟩)):=by rw [Lib.cell_of_heap hb2]; rfl
 have d1 : w2.cell? ⟨b,1,none⟩=some v:=by rw [Lib.cell_of_heap hb2]; rfl
 have f1 : w2.frozen? ⟨b,1,none⟩=false:=Lib.frozen_of_heap hb2 1
 obtain ⟨ao,n',cap,rfl⟩ : ∃ ao n' cap,v' = .slice ao n' cap:=by
  rcases hown'.2 with ⟨hv,_⟩ | ⟨g,cap,cur,hv,_⟩
  ·exact ⟨_,_,_,hv⟩
  ·exact ⟨_,_,_,hv⟩
 go_wp2
 go_ret2
 refine ⟨rfl,?_,?_⟩
 ·exact Lib.BuilderAt.put (T:=88) (e:=5) hB hb2 (bs':=bs++Lib.strCells s) (by simpa [Lib.strCells_length] using hown') (by decide)
 ·exact (hb1.grown hgrow (by have:=hb1.size; omega) (fun k hk=>(hown.lt k hk).1)).setCell (p:=⟨b,1,none⟩) hB _
theorem bldX : Builder.Extra Tryz.prog Tryz.layG_ren where
 sizeBuilder:=by kernel_rfl
 liesBuilder:=by kernel_rfl
 t5:=by kernel_rfl
 a5:=Tryz.isAgg5
 z5:=Tryz.sizeOf5
 v5:=Tryz.zeroValue5
 infoByte:=by kernel_rfl
 cellsByte:=by kernel_rfl
 sizeByte:=by kernel_rfl
 neB5:=by decide
theorem string_calls (B b : Nat) (l : List UInt8) (w : World) (h : Lib.IsBuilder 88 5 B b (Lib.byteCells l) w) (h0 : l ≠ []) :
    Calls Tryz.prog 41 #[.pointer (some ⟨b,0,none⟩)] w fun e w'=>e = .returned (.string ⟨l.toArray⟩)∧Below B w w':=
 Any.Builder_String Tryz.layG bldX B b l w h h0
end Go.Proofs.YtdgdhckjfllfmaaGreatDoor
namespace Go.Proofs.YtdgdhckjfllfmaaGreatDoor
open Go.RowKit Go.Maps Go.Sort Go.Shelf
theorem bytes1 {w : World} {b : Nat} {x : UInt8} {v : Int} {T : TypeId} (hb : b=w.heap.size) (hv : v=x.toNat) : Lib.Bytes (w.alloc (.cells #[.int .u8 v] T)) b 0 ⟨#[x]⟩:=by
 intro j hj
 have hj0 : j=0:=by have : (⟨#[x]⟩ : ByteArray).size=1:=rfl; omega
 subst hj0 hb hv
 have h1 : (w.alloc (.cells #[.int .u8 (x.toNat : Int)] T)).heap[w.heap.size]? = some (.cells #[.int .u8 (x.toNat : Int)] T (0,0)):=by
  show (w.heap.push _)[w.heap.size]? = _
  rw [Array.getElem?_push_size]
 rw [Lib.cell_of_heap h1]
 rfl
theorem conv1 (w : World) (b : Nat) (x : UInt8) (cap : Nat) (h : Lib.Bytes w b 0 ⟨#[x]⟩) : (convert 26 9 (.slice (some ⟨b,0,none⟩) 1 cap)).run Tryz.prog w = .ok (.string ⟨#[x]⟩) w:=
 Lib.run_convert_whole w 26 5 9 Tryz.underlying26 Tryz.underlying5 Tryz.underlying9 b 0 ⟨#[x]⟩ h cap
set_option maxHeartbeats 4000000 in
set_option maxRecDepth 100000 in
theorem contents_bool (nm n2 s : ByteArray) (lo hi : Int) (f e0 : Bool) (a a2 a3 a4 : Option Addr) (c c2 c3 c4 : Nat) (w : World) :
    Calls Tryz.prog 23 #[.agg #[.string nm,.slice a 0 c],.agg #[.int .i64 1,.string n2,.int .i64 lo,.int .i64 hi,.bool f,.bool e0,.slice a2 0 c2,.slice a3 0 c3],.agg #[.int .i64 1,.int .i64 1,.string s,.slice a4 0 c4]] w fun e W'=>e = .returned (.string ⟨#[255]⟩)∧Below w.heap.size w W':=by
 go_enter Tryz.func23,Tryz.ntmps23
 go_wp2
 rw [conv1 _ _ 255 1 ?hc]
 case hc=>exact bytes1 (by simp) rfl
 simp only [Result.andThen]
 rw [Oper.upon_value]
 go_wp2
 go_ret
 exact ⟨rfl,(((((Below.refl _ w).alloc (Nat.le_refl _) _).alloc (by simp) _).alloc (by simp; try omega) _).alloc (by simp; try omega) _).alloc (by simp; try omega) _⟩
end Go.Proofs.YtdgdhckjfllfmaaGreatDoor
namespace Go.Proofs.YtdgdhckjfllfmaaGreatDoor
open Go Go.Avm Go.RowKit
def contentsB : List AV→Avm.H→Option (AV × Avm.H)
 | [.agg [.str _,.isl []],.agg [.int .i64 1,.str _,.int .i64 _,.int .i64 _,.bool _,.bool _,.isl [],.isl []],.agg [.int .i64 1,.int .i64 1,.str _,.isl []]],h=>some (.str ⟨#[255]⟩,h)
 | _,_=>none
def extB (f : FuncId) : Option (List AV→Avm.H→Option (AV × Avm.H)):=if f=23 then some contentsB else none
def fnlB : List (Nat × F):=fnl.filter fun p=>[14,20,34,35,36,63,21,22,9,37].contains p.1
def cfgB : Cfg:=⟨fnOf fnlB,extB⟩
def pfB (f : FuncId) : Bool:=match cfgB.pol f with | some .snap=>true | some (.pur _)=>true | _=>false
set_option maxRecDepth 100000 in
theorem checkedB : fnlB.all (fun p=>fOkB Tryz.prog pfB p.1 p.2)=true:=by kernel_rfl
theorem arr_of {vs : Array Value} {l : List Value} (h : vs.toList=l) : vs=l.toArray:=by rw [← h]
theorem writer_inv {V : View} {β : Beta} {s : ByteArray} {v : Value} (h : Rel V β (.agg [.str s,.isl []]) v) : ∃ a c,v = .agg #[.string s,.slice a 0 c]:=by
 simp only [Rel,RelL] at h
 obtain ⟨vs,rfl,_,_,e1,rfl,_,_,rfl,⟨a,c,rfl,_⟩,rfl⟩:=h
 exact ⟨a,c,by rw [arr_of e1]; rfl⟩
theorem type_inv {V : View} {β : Beta} {k lo hi : Int} {s : ByteArray} {f x : Bool} {v : Value} (h : Rel V β (.agg [.int .i64 k,.str s,.int .i64 lo,.int .i64 hi,.bool f,.bool x,.isl [],.isl []]) v) : ∃ a c a2 c2,v = .agg #[.int .i64 k,.string s,.int .i64 lo,.int .i64 hi,.bool f,.bool x,.slice a 0 c,.slice a2 0 c2]:=by
 simp only [Rel,RelL] at h
 obtain ⟨vs,rfl,_,_,e1,rfl,_,_,rfl,rfl,_,_,rfl,rfl,_,_,rfl,rfl,_,_,rfl,rfl,_,_,rfl,rfl,_,_,rfl,⟨a,c,rfl,_⟩,_,_,rfl,⟨a2,c2,rfl,_⟩,rfl⟩:=h
 exact ⟨a,c,a2,c2,by rw [arr_of e1]; rfl⟩
theorem value_inv {V : View} {β : Beta} {k i : Int} {s : ByteArray} {v : Value} (h : Rel V β (.agg [.int .i64 k,.int .i64 i,.str s,.isl []]) v) : ∃ a c,v = .agg #[.int .i64 k,.int .i64 i,.string s,.slice a 0 c]:=by
 simp only [Rel,RelL] at h
 obtain ⟨vs,rfl,_,_,e1,rfl,_,_,rfl,rfl,_,_,rfl,rfl,_,_,rfl,⟨a,c,rfl,_⟩,rfl⟩:=h
 exact ⟨a,c,by rw [arr_of e1]; rfl⟩
theorem three_inv {V : View} {β : Beta} {x y z : AV} {vs : Array Value} (h : RelL V β [x,y,z] vs.toList) : ∃ a b c,vs = #[a,b,c]∧Rel V β x a∧Rel V β y b∧Rel V β z c:=by
 simp only [RelL] at h
 obtain ⟨a,_,e1,h1,b,_,rfl,h2,c,_,rfl,h3,rfl⟩:=h
 exact ⟨a,b,c,by rw [arr_of e1],h1,h2,h3⟩
theorem str_done {w0 w : World} {wr : Nat} {β : Beta} {h : Avm.H} {f : FuncId} {args : Array Value} {s : ByteArray} (S : Sim w0 wr β h w) (hc : Calls Tryz.prog f args w fun e W'=>e = .returned (.string s)∧Below w.heap.size w W') :
    Calls Tryz.prog f args w fun e W'=>∃ v,e = .returned v∧∃ β',Sim w0 wr β' h W'∧Ext wr β h w β' h W'∧Rel (view wr β' h W') β' (.str s) v:=by
 refine hc.mono ?_
 rintro e w' ⟨rfl,hb⟩
 obtain ⟨S',E⟩:=sim_grow S hb.os hb.tape hb.output hb.size hb.block
 exact ⟨_,rfl,β,S',E,by unfold Rel; rfl⟩
theorem contents_extB (w0 : World) : ExtOk Tryz.prog w0 23 contentsB:=by
 refine ⟨fun args h r h' ev=>?_,fun args h r h' wr β w vs ev hwr S hr=>?_⟩
 ·unfold contentsB at ev
  split at ev
  ·cases ev; exact ⟨[],by simp⟩
  ·cases ev
 ·unfold contentsB at ev
  split at ev
  ·cases ev
   obtain ⟨_,_,_,rfl,h1,h2,h3⟩:=three_inv hr
   obtain ⟨_,_,rfl⟩:=writer_inv h1
   obtain ⟨_,_,_,_,rfl⟩:=type_inv h2
   obtain ⟨_,_,rfl⟩:=value_inv h3
   exact .inl ⟨callFunc_run Tryz.func23 (by decide +kernel) rfl _ w,str_done S (contents_bool _ _ _ _ _ _ _ _ _ _ _ _ _ _ _ w)⟩
  ·cases ev
theorem fn_okB {f : FuncId} {F : F} (hF : fnOf fnlB f=some F) : FOk Tryz.prog (drawIs Tryz.prog pfB) f F:=by
 have h:=List.all_eq_true.1 checkedB (f,F) (fnOf_mem hF)
 exact fOk_of h
theorem cfgB_ok (w0 : World) : CfgOk Tryz.prog w0 (drawIs Tryz.prog pfB) cfgB where
 fn:=fun f F _ hF=>fn_okB hF
 ext:=fun f x hx=>by
  simp only [cfgB,extB] at hx
  split at hx
  ·rename_i hf; cases hx; subst hf; exact contents_extB w0
  ·cases hx
 draw:=drawAll follows fun g hg=>by
  unfold pfB at hg
  split at hg
  ·rename_i h; exact .inl h
  ·rename_i b h; exact .inr ⟨b,h⟩
  ·cases hg
set_option maxRecDepth 100000 in
theorem octets5 : callN cfgB 60 0 37 [.int .i64 5] []=some (.tup [.str ⟨#[5]⟩,.int .i64 0],[]):=by kernel_rfl
theorem octets5_calls (W : World) : Calls Tryz.prog 37 #[.int .i64 5] W fun e W'=>e = .returned (.tuple #[.string ⟨#[5]⟩,.int .i64 0])∧Below W.heap.size W W':=by
 refine (callL_calls cfgB_ok Tryz.func37 (by decide +kernel) rfl (callN_L 60 _ _ _ _ _ octets5) (W:=W) (by simp [RelL,Rel])).mono ?_
 rintro e W' ⟨v,V,β,rfl,hb,hr⟩
 refine ⟨?_,hb⟩
 simp only [Rel,RelL] at hr
 obtain ⟨vs,rfl,_,_,e1,rfl,_,_,rfl,rfl,rfl⟩:=hr
 rw [arr_of e1]
set_option maxRecDepth 100000 in
theorem lift128 : callN cfgB 60 0 22 [.int .i64 128,.str ⟨#[1,1,255]⟩] []=some (.str ⟨#[128,3,1,1,255]⟩,[]):=by kernel_rfl
theorem lift128_calls (W : World) : Calls Tryz.prog 22 #[.int .i64 128,.string ⟨#[1,1,255]⟩] W fun e W'=>e = .returned (.string ⟨#[128,3,1,1,255]⟩)∧Below W.heap.size W W':=by
 refine (callL_calls cfgB_ok Tryz.func22 (by decide +kernel) rfl (callN_L 60 _ _ _ _ _ lift128) (W:=W) (by simp [RelL,Rel])).mono ?_
 rintro e W' ⟨v,V,β,rfl,hb,hr⟩
 unfold Rel at hr
 exact ⟨by rw [hr],hb⟩
set_option maxRecDepth 100000 in
theorem elemB (nm n2 s : ByteArray) (lo hi : Int) (f e0 : Bool) : callN cfgB 60 0 14 [.agg [.str nm,.isl []],.agg [.int .i64 1,.str n2,.int .i64 lo,.int .i64 hi,.bool f,.bool e0,.isl [],.isl []],.agg [.int .i64 1,.int .i64 1,.str s,.isl []]] []=some (.str ⟨#[1,1,255]⟩,[]):=by kernel_rfl
end Go.Proofs.YtdgdhckjfllfmaaGreatDoor
