/-
  DERIVED: THE SHELF's CONTRACTS AT THIS DUMP, IN PLAIN WORDS (tools/lay-plain.mjs out of 'YtdgdhckjfllfmaaGreatDoorShelf.lean', which tools/lay-shelf.mjs wrote): THE SAME DECLARATIONS UNDER THE SAME NAMES: 'import', 'namespace', 'open', 'def', 'theorem' AND NOTHING ELSE: no command of the shelf's: FOR A HAND-IN. Each laying: the table of numbers ('.._ren') and one theorem, a field a fact of the dump's own or the kernel's comparison; each contract: ONE APPLICATION.
-/
import Derived.Test.YtdgdhckjfllfmaaGreatDoorM28
import Derived.Test.YtdgdhckjfllfmaaGreatDoorProg
import Derived.Test.YtdgdhckjfllfmaaGreatDoorM29
import Derived.Test.YtdgdhckjfllfmaaGreatDoorM32
import Derived.Lib.IndexMore
import Derived.Ground.GgzProg
import Derived.Ground.SlgmProg
import Derived.Ground.NamesProg
import Derived.Ground.SlgnProg
import Derived.Shelf.SlIter.Sorted
import Derived.Shelf.SortM.Plain
import Derived.Shelf.SortM.SortNone
import Derived.Shelf.Slices.In.CompactS
import Derived.Shelf.SlicesE.Clone
import Derived.Shelf.Strings.Shaped
import Derived.Shelf.Strings.Builder1
set_option linter.all false
namespace Go.Proofs.YtdgdhckjfllfmaaGreatDoor
open Go Go.Avm Go.RowKit
def strs : List AV→Option (List ByteArray)
 | []=>some []
 | .str s :: l=>match strs l with | some r=>some (s :: r) | none=>none
 | _=>none
def distinct : List ByteArray→Bool
 | []=>true
 | x :: l=>(l.all fun y=>!(x.toList == y.toList)) && distinct l
def twiceX : List AV→Avm.H→Option (AV × Avm.H)
 | [v],h=>match elsOf h v with
  | some els=>(match strs els with
   | some l=>if l.length≤1048576 then some (.bool (!distinct l),h) else none
   | none=>none)
  | none=>none
 | _,_=>none
def containsX : List AV→Avm.H→Option (AV × Avm.H)
 | [.str s,.str t],h=>if s.size < 4294967281 then some (.bool (Lib.contains s.data.toList t.data.toList),h) else none
 | _,_=>none
def contentsX : List AV→Avm.H→Option (AV × Avm.H)
 | [.agg [.str _,.isl []],.agg [.int .i64 2,.str _,.int .i64 _,.int .i64 _,.bool _,.bool _,.isl [],.isl []],.agg [.int .i64 2,.int .i64 5,.str _,.isl []]],h=>some (.str ⟨#[5]⟩,h)
 | [.agg [.str _,.isl []],.agg [.int .i64 1,.str _,.int .i64 _,.int .i64 _,.bool _,.bool _,.isl [],.isl []],.agg [.int .i64 1,.int .i64 1,.str _,.isl []]],h=>some (.str ⟨#[255]⟩,h)
 | [.agg [.str _,.isl []],.agg [.int .i64 8,.str _,.int .i64 _,.int .i64 _,.bool _,.bool _,.isl [.agg [.str _,.int .i64 1,.str _,.int .i64 _,.int .i64 _,.bool _,.bool _,.isl [],.isl [],.bool _,.bool _,.isl []]],.isl []],.agg [.int .i64 8,.int .i64 0,.str _,.isl [.agg [.int .i64 1,.int .i64 1,.str _,.isl []]]]],h=>some (.str ⟨#[128,3,1,1,255]⟩,h)
 | _,_=>none
def fnOf : List (Nat × F)→FuncId→Option F
 | [],_=>none
 | (k,F) :: l,f=>if f=k then some F else fnOf l f
theorem fnOf_mem : ∀ {l : List (Nat × F)} {f : FuncId} {F : F},fnOf l f=some F→(f,F) ∈ l
 | [],_,_,h=>by cases h
 | (k,G) :: l,f,F,h=>by
  rw [fnOf] at h
  split at h
  ·rename_i e; cases h; subst e; simp
  ·exact List.mem_cons_of_mem _ (fnOf_mem h)
def lim : Nat:=536870912
def extOf (f : FuncId) : Option (List AV→Avm.H→Option (AV × Avm.H)):=
 if f=72 then some twiceX else if f=90 then some containsX
 else if f=30 then some (cloneX 4 lim) else if f=64 then some (cloneX 8 lim)
 else if f=62 then some (cloneX 12 lim)
 else if f=23 then some contentsX else none
def cfg : Cfg:=⟨fnOf fnl,extOf⟩
def pf (f : FuncId) : Bool:=match cfg.pol f with | some .snap=>true | some (.pur _)=>true | _=>false
set_option maxRecDepth 100000 in
theorem checked : fnl.all (fun p=>fOkB Tryz.prog pf p.1 p.2)=true:=by kernel_rfl
theorem follows : Tryz.prog.follows .mixedOrders=true:=by kernel_rfl
set_option maxRecDepth 100000 in
theorem sane0 : callN cfg 100 0 6 [] []=some (.bool true,[]):=by kernel_rfl
end Go.Proofs.YtdgdhckjfllfmaaGreatDoor
namespace Go.Proofs
open Go.Shelf
def Tryz.layS_ren : Go.Shelf.Ren:=⟨fun | 6=>106 | 8=>121 | 9=>122 | 11=>129 | 13=>131 | 12=>130 | 23=>147 | 24=>148 | 14=>138 | 15=>139 | 16=>140 | 17=>141 | 18=>142 | 19=>143 | 20=>144 | 21=>145 | 22=>146 | 25=>151 | 26=>152 | 27=>153 | 28=>154 | 29=>155 | 30=>156 | 31=>157 | n=>n,fun | 26=>9 | 28=>148 | 24=>80 | 0=>0 | 3=>3 | 37=>50 | 48=>177 | 50=>179 | 4=>4 | 40=>170 | 39=>169 | 45=>174 | 5=>5 | 9=>9 | 51=>182 | 55=>85 | 57=>187 | 58=>119 | 33=>113 | n=>n,fun | n=>n⟩
theorem Tryz.layS : Go.Proofs.SlLaysZ.n6 Tryz.prog Tryz.layS_ren:={
 mixed:=by kernel_rfl
 f6:=⟨Tryz.f106.name,by decide,Tryz.func106.trans (congrArg some (by kernel_rfl))⟩
 f8:=⟨Tryz.f121.name,by decide,Tryz.func121.trans (congrArg some (by kernel_rfl))⟩
 f11:=⟨Tryz.f129.name,by decide,Tryz.func129.trans (congrArg some (by kernel_rfl))⟩
 t0:=Tryz.underlying0
 a0:=Tryz.isAgg0
 z0:=Tryz.sizeOf0
 v0:=Tryz.zeroValue0
 t24:=Tryz.underlying80
 a24:=Tryz.isAgg80
 z24:=Tryz.sizeOf80
 v24:=Tryz.zeroValue80
 t26:=Tryz.underlying9
 a26:=Tryz.isAgg9
 z26:=Tryz.sizeOf9
 v26:=Tryz.zeroValue9
 t28:=Tryz.underlying148
 a28:=Tryz.isAgg148
 z28:=Tryz.sizeOf148
 v28:=Tryz.zeroValue148
 i26:=by kernel_rfl }
def Tryz.layT_ren : Go.Shelf.Ren:=⟨fun | 6=>122 | 8=>131 | 9=>130 | 19=>147 | 20=>148 | 21=>138 | 22=>139 | 23=>140 | 24=>141 | 25=>142 | 26=>143 | 27=>144 | 28=>145 | 29=>146 | 36=>151 | 31=>152 | 32=>153 | 37=>154 | 38=>155 | 39=>156 | 41=>157 | n=>n,fun | 27=>80 | 29=>9 | 3=>3 | 32=>50 | 26=>80 | 0=>0 | 44=>177 | 46=>179 | 4=>4 | 36=>170 | 35=>169 | 41=>174 | 5=>5 | 9=>9 | 53=>182 | 57=>85 | 63=>187 | 64=>119 | n=>n,fun | n=>n⟩
theorem Tryz.layT : Go.Proofs.SlLaysM.n6 Tryz.prog Tryz.layT_ren:={
 mixed:=by kernel_rfl
 f6:=⟨Tryz.f122.name,by decide,Tryz.func122.trans (congrArg some (by kernel_rfl))⟩
 f8:=Tryz.func131.trans (congrArg some (by kernel_rfl))
 f9:=⟨Tryz.f130.name,by decide,Tryz.func130.trans (congrArg some (by kernel_rfl))⟩
 f19:=Tryz.func147.trans (congrArg some (by kernel_rfl))
 f20:=Tryz.func148.trans (congrArg some (by kernel_rfl))
 f21:=⟨Tryz.f138.name,by decide,Tryz.func138.trans (congrArg some (by kernel_rfl))⟩
 f22:=⟨Tryz.f139.name,by decide,Tryz.func139.trans (congrArg some (by kernel_rfl))⟩
 f23:=⟨Tryz.f140.name,by decide,Tryz.func140.trans (congrArg some (by kernel_rfl))⟩
 f24:=⟨Tryz.f141.name,by decide,Tryz.func141.trans (congrArg some (by kernel_rfl))⟩
 f25:=⟨Tryz.f142.name,by decide,Tryz.func142.trans (congrArg some (by kernel_rfl))⟩
 f26:=⟨Tryz.f143.name,by decide,Tryz.func143.trans (congrArg some (by kernel_rfl))⟩
 f27:=⟨Tryz.f144.name,by decide,Tryz.func144.trans (congrArg some (by kernel_rfl))⟩
 f28:=⟨Tryz.f145.name,by decide,Tryz.func145.trans (congrArg some (by kernel_rfl))⟩
 f29:=⟨Tryz.f146.name,by decide,Tryz.func146.trans (congrArg some (by kernel_rfl))⟩
 f31:=Tryz.func152.trans (congrArg some (by kernel_rfl))
 f32:=Tryz.func153.trans (congrArg some (by kernel_rfl))
 f36:=⟨Tryz.f151.name,by decide,Tryz.func151.trans (congrArg some (by kernel_rfl))⟩
 f37:=⟨Tryz.f154.name,by decide,Tryz.func154.trans (congrArg some (by kernel_rfl))⟩
 f38:=⟨Tryz.f155.name,by decide,Tryz.func155.trans (congrArg some (by kernel_rfl))⟩
 f39:=⟨Tryz.f156.name,by decide,Tryz.func156.trans (congrArg some (by kernel_rfl))⟩
 f41:=⟨Tryz.f157.name,by decide,Tryz.func157.trans (congrArg some (by kernel_rfl))⟩
 t0:=Tryz.underlying0
 a0:=Tryz.isAgg0
 z0:=Tryz.sizeOf0
 v0:=Tryz.zeroValue0
 t3:=Tryz.underlying3
 a3:=Tryz.isAgg3
 z3:=Tryz.sizeOf3
 v3:=Tryz.zeroValue3
 t4:=Tryz.underlying4
 a4:=Tryz.isAgg4
 z4:=Tryz.sizeOf4
 v4:=Tryz.zeroValue4
 t5:=Tryz.underlying5
 a5:=Tryz.isAgg5
 z5:=Tryz.sizeOf5
 v5:=Tryz.zeroValue5
 t9:=Tryz.underlying9
 a9:=Tryz.isAgg9
 z9:=Tryz.sizeOf9
 v9:=Tryz.zeroValue9
 t26:=Tryz.underlying80
 a26:=Tryz.isAgg80
 z26:=Tryz.sizeOf80
 v26:=Tryz.zeroValue80
 t27:=Tryz.underlying80
 a27:=Tryz.isAgg80
 z27:=Tryz.sizeOf80
 v27:=Tryz.zeroValue80
 t29:=Tryz.underlying9
 a29:=Tryz.isAgg9
 z29:=Tryz.sizeOf9
 v29:=Tryz.zeroValue9
 t32:=Tryz.underlying50
 a32:=Tryz.isAgg50
 z32:=Tryz.sizeOf50
 v32:=Tryz.zeroValue50
 t35:=Tryz.underlying169
 a35:=Tryz.isAgg169
 z35:=Tryz.sizeOf169
 v35:=Tryz.zeroValue169
 t36:=Tryz.underlying170
 a36:=Tryz.isAgg170
 z36:=Tryz.sizeOf170
 v36:=Tryz.zeroValue170
 t41:=Tryz.underlying174
 a41:=Tryz.isAgg174
 z41:=Tryz.sizeOf174
 v41:=Tryz.zeroValue174
 t44:=Tryz.underlying177
 a44:=Tryz.isAgg177
 z44:=Tryz.sizeOf177
 v44:=Tryz.zeroValue177
 t46:=Tryz.underlying179
 a46:=Tryz.isAgg179
 z46:=Tryz.sizeOf179
 v46:=Tryz.zeroValue179
 t53:=Tryz.underlying182
 a53:=Tryz.isAgg182
 z53:=Tryz.sizeOf182
 v53:=Tryz.zeroValue182
 t57:=Tryz.underlying85
 a57:=Tryz.isAgg85
 z57:=Tryz.sizeOf85
 v57:=Tryz.zeroValue85
 t63:=Tryz.underlying187
 a63:=Tryz.isAgg187
 z63:=Tryz.sizeOf187
 v63:=Tryz.zeroValue187
 t64:=Tryz.underlying119
 a64:=Tryz.isAgg119
 z64:=Tryz.sizeOf119
 v64:=Tryz.zeroValue119 }
def Tryz.layC_ren : Go.Shelf.Ren:=⟨fun | 194=>108 | n=>n,fun | 31=>80 | 9=>9 | 3=>3 | 4=>4 | 0=>0 | n=>n,fun | n=>n⟩
theorem Tryz.layC : Go.Proofs.Lays.n194 Tryz.prog Tryz.layC_ren:={
 mixed:=by kernel_rfl
 f194:=Tryz.func108.trans (congrArg some (by kernel_rfl))
 t0:=Tryz.underlying0
 a0:=Tryz.isAgg0
 z0:=Tryz.sizeOf0
 v0:=Tryz.zeroValue0
 t3:=Tryz.underlying3
 a3:=Tryz.isAgg3
 z3:=Tryz.sizeOf3
 v3:=Tryz.zeroValue3
 t4:=Tryz.underlying4
 a4:=Tryz.isAgg4
 z4:=Tryz.sizeOf4
 v4:=Tryz.zeroValue4
 t9:=Tryz.underlying9
 a9:=Tryz.isAgg9
 z9:=Tryz.sizeOf9
 v9:=Tryz.zeroValue9
 t31:=Tryz.underlying80
 a31:=Tryz.isAgg80
 z31:=Tryz.sizeOf80
 v31:=Tryz.zeroValue80 }
def Tryz.layCs_ren : Go.Shelf.Ren:=⟨fun | 41=>109 | n=>n,fun | 22=>80 | 23=>9 | 4=>4 | n=>n,fun | n=>n⟩
theorem Tryz.layCs : Go.Proofs.SlLaysE0.n41 Tryz.prog Tryz.layCs_ren:={
 mixed:=by kernel_rfl
 f41:=⟨Tryz.f109.name,by decide,Tryz.func109.trans (congrArg some (by kernel_rfl))⟩
 t4:=Tryz.underlying4
 a4:=Tryz.isAgg4
 z4:=Tryz.sizeOf4
 v4:=Tryz.zeroValue4
 t22:=Tryz.underlying80
 a22:=Tryz.isAgg80
 z22:=Tryz.sizeOf80
 v22:=Tryz.zeroValue80 }
def Tryz.layCv_ren : Go.Shelf.Ren:=⟨fun | 41=>30 | n=>n,fun | 22=>41 | 23=>43 | 4=>4 | n=>n,fun | n=>n⟩
theorem Tryz.layCv : Go.Proofs.SlLaysE0.n41 Tryz.prog Tryz.layCv_ren:={
 mixed:=by kernel_rfl
 f41:=⟨Tryz.f30.name,by decide,Tryz.func30.trans (congrArg some (by kernel_rfl))⟩
 t4:=Tryz.underlying4
 a4:=Tryz.isAgg4
 z4:=Tryz.sizeOf4
 v4:=Tryz.zeroValue4
 t22:=Tryz.underlying41
 a22:=Tryz.isAgg41
 z22:=Tryz.sizeOf41
 v22:=Tryz.zeroValue41 }
def Tryz.layCt_ren : Go.Shelf.Ren:=⟨fun | 41=>64 | n=>n,fun | 22=>38 | 23=>40 | 4=>4 | n=>n,fun | n=>n⟩
theorem Tryz.layCt : Go.Proofs.SlLaysE0.n41 Tryz.prog Tryz.layCt_ren:={
 mixed:=by kernel_rfl
 f41:=⟨Tryz.f64.name,by decide,Tryz.func64.trans (congrArg some (by kernel_rfl))⟩
 t4:=Tryz.underlying4
 a4:=Tryz.isAgg4
 z4:=Tryz.sizeOf4
 v4:=Tryz.zeroValue4
 t22:=Tryz.underlying38
 a22:=Tryz.isAgg38
 z22:=Tryz.sizeOf38
 v22:=Tryz.zeroValue38 }
def Tryz.layCi_ren : Go.Shelf.Ren:=⟨fun | 41=>62 | n=>n,fun | 22=>37 | 23=>45 | 4=>4 | n=>n,fun | n=>n⟩
theorem Tryz.layCi : Go.Proofs.SlLaysE0.n41 Tryz.prog Tryz.layCi_ren:={
 mixed:=by kernel_rfl
 f41:=⟨Tryz.f62.name,by decide,Tryz.func62.trans (congrArg some (by kernel_rfl))⟩
 t4:=Tryz.underlying4
 a4:=Tryz.isAgg4
 z4:=Tryz.sizeOf4
 v4:=Tryz.zeroValue4
 t22:=Tryz.underlying37
 a22:=Tryz.isAgg37
 z22:=Tryz.sizeOf37
 v22:=Tryz.zeroValue37 }
def Tryz.layCo_ren : Go.Shelf.Ren:=⟨fun | 144=>90 | 143=>115 | 219=>125 | 217=>132 | 225=>133 | 224=>134 | 267=>135 | 266=>149 | 314=>150 | n=>n,fun | 9=>9 | 4=>4 | 3=>3 | 5=>5 | 46=>50 | 146=>180 | 51=>177 | n=>n,fun | 1=>0 | n=>n⟩
theorem Tryz.layCo : Go.Proofs.LaysM.n144 Tryz.prog Tryz.layCo_ren:={
 mixed:=by kernel_rfl
 f143:=Tryz.func115.trans (congrArg some (by kernel_rfl))
 f144:=Tryz.func90.trans (congrArg some (by kernel_rfl))
 f217:=Tryz.func132.trans (congrArg some (by kernel_rfl))
 f219:=Tryz.func125.trans (congrArg some (by kernel_rfl))
 f224:=Tryz.func134.trans (congrArg some (by kernel_rfl))
 f225:=Tryz.func133.trans (congrArg some (by kernel_rfl))
 f266:=Tryz.func149.trans (congrArg some (by kernel_rfl))
 f267:=Tryz.func135.trans (congrArg some (by kernel_rfl))
 f314:=Tryz.func150.trans (congrArg some (by kernel_rfl))
 t3:=Tryz.underlying3
 a3:=Tryz.isAgg3
 z3:=Tryz.sizeOf3
 v3:=Tryz.zeroValue3
 t4:=Tryz.underlying4
 a4:=Tryz.isAgg4
 z4:=Tryz.sizeOf4
 v4:=Tryz.zeroValue4
 t5:=Tryz.underlying5
 a5:=Tryz.isAgg5
 z5:=Tryz.sizeOf5
 v5:=Tryz.zeroValue5
 t9:=Tryz.underlying9
 a9:=Tryz.isAgg9
 z9:=Tryz.sizeOf9
 v9:=Tryz.zeroValue9
 t46:=Tryz.underlying50
 a46:=Tryz.isAgg50
 z46:=Tryz.sizeOf50
 v46:=Tryz.zeroValue50
 t51:=Tryz.underlying177
 a51:=Tryz.isAgg177
 z51:=Tryz.sizeOf177
 v51:=Tryz.zeroValue177
 t146:=Tryz.underlying180
 a146:=Tryz.isAgg180
 z146:=Tryz.sizeOf180
 v146:=Tryz.zeroValue180
 g1:=by kernel_rfl
 i3:=by kernel_rfl
 i4:=by kernel_rfl
 i5:=by kernel_rfl
 i9:=by kernel_rfl
 i46:=by kernel_rfl
 i51:=by kernel_rfl
 i146:=by kernel_rfl
 m1:=by kernel_rfl
 s1_3:=fun w h=>Go.Proofs.cell_of_shapedOpen_int (zero:=#[.int .i64 0]) (t:=3) h (of_decide_eq_true (by kernel_rfl)) (by kernel_rfl) rfl (by kernel_rfl) (by kernel_rfl) Tryz.underlying3 }
def Tryz.layG_ren : Go.Shelf.Ren:=⟨fun | 169=>41 | n=>n,fun | 70=>86 | 9=>9 | 0=>0 | 72=>88 | 37=>26 | 127=>115 | 3=>3 | 5=>5 | n=>n,fun | n=>n⟩
theorem Tryz.layG : Go.Proofs.Lays.n169 Tryz.prog Tryz.layG_ren:={
 mixed:=by kernel_rfl
 f169:=Tryz.func41.trans (congrArg some (by kernel_rfl))
 t0:=Tryz.underlying0
 a0:=Tryz.isAgg0
 z0:=Tryz.sizeOf0
 v0:=Tryz.zeroValue0
 t3:=Tryz.underlying3
 a3:=Tryz.isAgg3
 z3:=Tryz.sizeOf3
 v3:=Tryz.zeroValue3
 t9:=Tryz.underlying9
 a9:=Tryz.isAgg9
 z9:=Tryz.sizeOf9
 v9:=Tryz.zeroValue9
 t37:=Tryz.underlying26
 a37:=Tryz.isAgg26
 z37:=Tryz.sizeOf26
 v37:=Tryz.zeroValue26
 t70:=Tryz.underlying86
 a70:=Tryz.isAgg86
 z70:=Tryz.sizeOf86
 v70:=Tryz.zeroValue86
 t72:=Tryz.underlying88
 a72:=Tryz.isAgg88
 z72:=Tryz.sizeOf88
 v72:=Tryz.zeroValue88
 t127:=Tryz.underlying115
 a127:=Tryz.isAgg115
 z127:=Tryz.sizeOf115
 v127:=Tryz.zeroValue115 }
end Go.Proofs
