/- BasicLengths: for every input whose reading holds at most so many values and letters, the law answers true, and what it was given reads as it read before. The conditions are the bound and the two tables of package utf8, which the card ties to the program's text. -/
import Derived.Test.YtdgdhckjfllfmaaGreatDoorM41
import Derived.Test.YtdgdhckjfllfmaaGreatDoorCards
import Derived.Test.YtdgdhckjfllfmaaGreatDoorTie
import Derived.Test.YtdgdhckjfllfmaaGreatDoorM38
set_option linter.all false
namespace Go.Proofs.YtdgdhckjfllfmaaGreatDoor
open Go Go.Avm
theorem spans_ok (b : ByteArray) (p n : Nat) (hp : p≤4) (hn : n≤65535) (hh : ∀ ws h,callL cfg ws 15 [.str b,.int .i64 0,.int .i64 b.size] h=some (.tup [.agg [.int .i64 4,.int .i64 p,.int .i64 n],.int .i64 0],h)) (ws : Nat) (h : Avm.H) : callL cfg ws 12 [.str b,.int .i64 0,.int .i64 b.size] h=some (.tup [.agg [.int .i64 4,.int .i64 p,.int .i64 n],.int .i64 (p + n : Nat),.int .i64 (p + n : Nat),.int .i64 0],h):=by
 have w1 : IntKind.wrap .i64 ((p : Int) + n)=p + n:=wrap_id (by omega) (by omega)
 have i1 : (0 : Int)≤n:=by omega
 refine callL_fn rfl rfl ?_
 simp [F12,c12,hh,w1,i1]
theorem element_ok (b : ByteArray) (p n : Nat) (hp : p≤4) (hn : n≤65535) (hb : b.size≤4000) (hh : ∀ ws h,callL cfg ws 15 [.str b,.int .i64 0,.int .i64 b.size] h=some (.tup [.agg [.int .i64 4,.int .i64 p,.int .i64 n],.int .i64 0],h)) (ws : Nat) (h : Avm.H) : callL cfg ws 7 [.str b,.int .i64 0] h=some (.tup [.int .i64 4,.int .i64 p,.int .i64 (p + n : Nat),.int .i64 (p + n : Nat),.int .i64 0],h):=by
 have e1:=fun ws h=>spans_ok b p n hp hn hh ws h
 have i1 : ¬ (b.size : Int) < 0:=by omega
 have i2 : ¬ (4000 : Int) < b.size:=by omega
 refine callL_fn rfl rfl ?_
 simp at e1
 simp [F7,c7,e1,i1,i2]
theorem ints1_ok (x : Int) (ws : Nat) (h : Avm.H) : callL cfg ws 8 [.isl [.int .i64 x],.isl [.int .i64 x]] h=some (.bool true,h):=by
 have l1 : roundsL (evC (callL cfg) roundsL cfg.pol h.length h.length c8L0) [0,1,5] [(0,.isl [.int .i64 x]),(1,.isl [.int .i64 x]),(5,.int .i64 1)] h=some (.exit 0,[(0,.isl [.int .i64 x]),(1,.isl [.int .i64 x]),(5,.int .i64 1)],h):=
  roundsL_k fun K hK=>by simp [c8L0]
 have l0 : roundsL (evC (callL cfg) roundsL cfg.pol h.length h.length c8L0) [0,1,5] [(0,.isl [.int .i64 x]),(1,.isl [.int .i64 x]),(5,.int .i64 0)] h=some (.exit 0,[(0,.isl [.int .i64 x]),(1,.isl [.int .i64 x]),(5,.int .i64 1)],h):=
  roundsL_k fun K hK=>by
   simp [c8L0,wk1]
   rw [hK,← l1]
 refine callL_fn rfl rfl ?_
 simp [F8,c8,l0]
theorem intsO_ok (x : Int) (k k2 : Nat) (ws : Nat) (h : Avm.H) (h1 : h[k]? = some (.arr 0 1 [.int .i64 x])) (h2 : h[k2]? = some (.arr 0 1 [.int .i64 x])) : callL cfg ws 8 [.osl k 0 1 0 1,.osl k2 0 1 0 1] h=some (.bool true,h):=by
 rw [callL_snap (F:=F8) rfl rfl rfl (args':=[.isl [.int .i64 x],.isl [.int .i64 x]]) (by
  have e1 : snap h deep (.osl k 0 1 0 1)=some (.isl [.int .i64 x]):=by simp [deep,look,h1,snapL]
  have e2 : snap h deep (.osl k2 0 1 0 1)=some (.isl [.int .i64 x]):=by simp [deep,look,h2,snapL]
  have e3 : snap h deep (.isl [.int .i64 x])=some (.isl [.int .i64 x]):=snap_pure (by simp)
  simp only [snapL,e1,e2,e3])]
 exact ints1_ok x ws h
theorem bytes_rep : ∀ n : Nat,bytesL (List.replicate n (.int .u8 0))=some (List.replicate n 0)
 | 0=>rfl
 | n + 1=>by rw [List.replicate_succ,bytesL,bytes_rep n]; rfl
theorem rep_len (n : Nat) : (List.replicate n (AV.int .u8 0)).length=n:=List.length_replicate
set_option maxRecDepth 100000 in
theorem sane0' (ws : Nat) : callN cfg 100 ws 6 [] []=some (.bool true,[]):=by kernel_rfl
set_option maxRecDepth 100000 in
theorem sane3 (ws : Nat) (A B C : ABlock) : callN cfg 100 ws 6 [] [A,B,C]=some (.bool true,[A,B,C]):=by kernel_rfl
theorem sane0_ok (ws : Nat) : callL cfg ws 6 [] []=some (.bool true,[]):=callN_L 100 _ _ _ _ _ (sane0' ws)
theorem sane3_ok (ws : Nat) (A B C : ABlock) : callL cfg ws 6 [] [A,B,C]=some (.bool true,[A,B,C]):=callN_L 100 _ _ _ _ _ (sane3 ws A B C)
theorem elem_list (n : Nat) : ((⟨#[4]⟩ : ByteArray)++lenS n++⟨(List.replicate n 0).toArray⟩).data.toList=elemL n:=by
 simp [elemL,lenS]
theorem lenL_len (n : Nat) : (lenL n).length≤3:=by
 unfold lenL; split
 ·simp
 ·split <;> simp
theorem basicLengths_ok (n : Int) : callL cfg 0 3 [.int .i64 n] []=some (.bool true,[]):=by
 have e1:=fun ws h=>Length_ok n ws h
 have e2:=fun ws h=>rLength_ok n ws h
 refine callL_fn rfl rfl ?_
 by_cases q1 : n < 0 ∨ 65535 < n
 ·have hP : lenP n=(⟨#[]⟩,1):=by unfold lenP; rw [if_pos q1]
  rw [hP] at e1 e2
  simp [F3,c3,e1,e2,sane0_ok]
 ·have hP : lenP n=(lenS n.toNat,0):=by unfold lenP; rw [if_neg q1]
  rw [hP] at e1 e2
  by_cases q2 : 3992 < n
  ·simp [F3,c3,e1,e2,q2,sane0_ok]
  ·obtain ⟨k,rfl⟩ : ∃ k : Nat,n=k:=⟨n.toNat,by omega⟩
   rw [Int.toNat_natCast] at e1 e2
   have hk : k≤3992:=by omega
   generalize hb : (⟨#[4]⟩ : ByteArray)++lenS k++⟨(List.replicate k 0).toArray⟩=b
   have hbl : b.data.toList=elemL k:=by rw [← hb]; exact elem_list k
   have hls : (lenS k).size=(lenL k).length:=by unfold lenS; simp [ByteArray.size]
   have hll:=lenL_len k
   have hbs : b.size=1 + (lenS k).size + k:=by
    have : b.size=b.data.toList.length:=by rw [Array.length_toList]; rfl
    rw [this,hbl,hls]; simp [elemL]; omega
   have hh : ∀ ws h,callL cfg ws 15 [.str b,.int .i64 0,.int .i64 b.size] h=some (.tup [.agg [.int .i64 4,.int .i64 (1 + (lenS k).size : Nat),.int .i64 k],.int .i64 0],h):=fun ws h=>by
    rw [hls]
    by_cases c1 : k < 128
    ·have : (lenL k).length=1:=by simp [lenL,c1]
     rw [this]; exact headed_1 b k c1 hbl ws h
    ·by_cases c2 : k < 256
     ·have : (lenL k).length=2:=by simp [lenL,c1,c2]
      rw [this]; exact headed_2 b k c1 c2 hbl ws h
     ·have : (lenL k).length=3:=by simp [lenL,c1,c2]
      rw [this]; exact headed_3 b k c1 c2 (by omega) hbl ws h
   have e3:=fun ws h=>element_ok b (1 + (lenS k).size) k (by omega) (by omega) (by omega) hh ws h
   have e4:=fun a c ws h h1 h2=>intsO_ok ((1 + (lenS k).size + k : Nat) : Int) a c ws h h1 h2
   have s1 : (⟨#[4]⟩ : ByteArray).size=1:=rfl
   have s2 : ((⟨#[4]⟩ : ByteArray)++lenS k).size=1 + (lenS k).size:=by rw [ByteArray.size_append,s1]
   have s3 : (⟨Array.replicate k 0⟩ : ByteArray).size=k:=by simp [ByteArray.size]
   have hb2 : (⟨#[4]⟩ : ByteArray)++lenS k++⟨Array.replicate k 0⟩=b:=by rw [← hb]; simp
   have hbr:=bytes_rep k
   have hz : (lenS k).size≤3:=by omega
   have i1 : ¬ (3992 : Int) < k:=by omega
   have i2 : k≤4294967296:=by omega
   have i3 : 1 + (lenS k).size≤9223372036854775807:=by omega
   have i4 : 1 + (lenS k).size + k≤9223372036854775807:=by omega
   have w1 : IntKind.wrap .i64 ((1 : Int) + (lenS k).size)=1 + (lenS k).size:=wrap_id (by omega) (by omega)
   have w2 : IntKind.wrap .i64 ((1 : Int) + (lenS k).size + k - (1 + (lenS k).size))=k:=by rw [wrap_id (by omega) (by omega)]; omega
   simp at e3 e4
   simp [-List.reduceReplicate,F3,c3,e1,e2,i1,i2,hbr,s1,s2,s3,i3,i4,hb2,e3,hbs,w1,w2,bslP,e4,sane3_ok]
end Go.Proofs.YtdgdhckjfllfmaaGreatDoor
namespace Go.Proofs.YtdgdhckjfllfmaaGreatDoor
open Go Go.Avm Go.RowKit Go.ChangeShapes Go.WideShapes Go.ChangeAt
theorem law_ev (xs : List AV) (h : argsTy Tryz.prog Tryz.f3.params.toList xs) (hn : bulkL xs≤1048576) : ∃ h',callL cfg 0 3 xs []=some (.bool true,h'):=by
 have hag : aggT Tryz.prog 3=false:=by simp [aggT,Tryz.underlying3]
 rw [Tryz.params3] at h
 obtain ⟨f1,l1,r1,rfl,t1,rfl⟩:=h
 obtain ⟨n,rfl,_⟩:=hasTy_int Tryz.underlying3 t1
 rw [hag]
 exact ⟨[],basicLengths_ok n⟩
set_option maxRecDepth 100000 in
theorem contract (H : Type) (enc : TypeId × Value→H) (W : World) (base : Nat) (args : Array Value) (ds gs : List (DataW H)) (before : List MemPlace)
    (hval : ∀ (j : Nat) t v,Tryz.f3.params[j]? = some t→args[j]? = some v→Value.okWide Tryz.prog W .any base t v)
    (hW : DataW.Whole enc Tryz.prog Tryz.f3.params.toList Rows.basicLengthsSpec.vars false W args.toList ds gs before) (hk : Rows.uptoSmall H (ds++gs)=true) (hsh : W.ShapedOpen Tryz.prog) :
    Calls Tryz.prog 3 args W fun e W'=>∃ v,e = .returned v∧Rows.basicLengthsSpec.post enc Tryz.prog Tryz.f3 false true false false W args v W':=by
 have hW':=hW
 obtain ⟨m,hm⟩:=Tryz.layCo.s1_3 W hsh
 obtain ⟨p,q,hA,hV,hps,hfz,hnd⟩:=hW
 obtain ⟨rfl,rfl⟩:=trodVars_none hV
 have hds : ∃ d0,ds=[d0]:=by
  have h:=hA
  rw [Tryz.params3] at h
  obtain ⟨_,_,d0,_,_,_,_,rfl,_,_,r0⟩:=trodAll_cons h
  obtain ⟨_,rfl,_⟩:=trodAll_nil r0
  exact ⟨d0,rfl⟩
 obtain ⟨d0,rfl⟩:=hds
 obtain ⟨N,hN,hb⟩ : ∃ N,N=1048576∧Rows.uptoBulkAll [d0]≤N:=⟨_,rfl,of_decide_eq_true hk⟩
 refine (law_calls (cfg_ok hm) Tryz.func3 (by decide +kernel) rfl (bulkOk H) (n:=N) (fun xs h1 h2=>law_ev xs h1 (hN ▸ h2)) hval hA hb).mono fun e W' ⟨he,hbl⟩=>?_
 exact ⟨_,he,law_post hW' rfl rfl rfl Tryz.underlying4 (by kernel_rfl) (by kernel_rfl) hbl⟩
theorem laid_met (os : Os) : laidMet Tryz.prog Rows.basicLengthsUptoRow.laid ((laidWorld os).forCall (fun _ _=>0) ⟨#[],#[.int .i64 0],[]⟩).memory:=
 laidMet_of_run' 8 (by kernel_rfl) (by kernel_rfl)
theorem reads (os : Os) {H : Type} (enc : TypeId × Value→H) : ∃ places,DataW.whole enc Tryz.prog ((laidWorld os).forCall (fun _ _=>0) ⟨#[],#[.int .i64 0],[]⟩).memory Tryz.f3.params.toList Rows.basicLengthsSpec.vars false (#[.int .i64 0] : Array Value).toList 8=some ([.lit (.int .i64 0)],[],places):=
 ⟨[],by kernel_rfl⟩
set_option maxRecDepth 100000 in
theorem liftedUpto (os : Os) (started : os.Started) (H : Type) (enc : TypeId × Value→H) (F : Stop.Interp) :
    ReturnsInHanded {} Tryz.checked os 3 .any ((Rows.OpenSpec.upto Rows.basicLengthsSpec).preRow enc Tryz.prog Tryz.f3 Rows.basicLengthsUptoRow.domain false Rows.basicLengthsUptoRow.laid) (((Rows.OpenSpec.upto Rows.basicLengthsSpec).at F).post enc Tryz.prog Tryz.f3 false true false false):=by
 obtain ⟨places,hx⟩:=reads os enc
 refine returnsInHanded_of_row (C:=Tryz.checked) (s:=Rows.OpenSpec.upto Rows.basicLengthsSpec) own started (by kernel_rfl) Tryz.func3
  (witness_row_at (enc:=enc) (C:=Tryz.checked) false (laidWorld os) #[.int .i64 0] rfl (by kernel_rfl) (by kernel_rfl) (by kernel_rfl)
   (OpenSpec.preRow_of_cond 8 hx (by kernel_rfl) (fun k hk=>by cases hk; kernel_rfl) (by kernel_rfl) (laid_met os))) ?_
 intro W base args ds gs before hval hW _ hcond _ _ hsh _
 exact contract H enc W base args ds gs before hval hW (hcond _ rfl) hsh
theorem saidUpto : Rows.BasicLengthsUptoSaid:=
 OpenClaim.holds_of_cond 3 Tryz.f3 rfl rfl rfl rfl rfl rfl rfl ⟨rfl,rfl,rfl,rfl,rfl⟩ rfl rfl rfl rfl rfl (by kernel_rfl) Tryz.func3 (by kernel_rfl)
  (of_decide_eq_true (by kernel_rfl)) (by unfold Func.isWrapper; first | (rw [if_pos (by decide +kernel)]; kernel_rfl) | (rw [if_neg (by decide +kernel)]; exact ⟨rfl,rfl⟩))
  (fun os started H enc _ F=>by rw [OpenClaim.pre_eq_preRow]; exact liftedUpto os started H enc F)
theorem plain (f : FuncId) (fn : Func) (hf : Tryz.pinned.checked.prog.funcNamed "heptad/heptadlaw05.BasicLengths" = some f) (hfn : Tryz.pinned.checked.prog.funcs[f]? = some fn) :
    false=Tryz.pinned.checked.prog.looks []∧∀ (j : Nat) t,fn.params[j]? = some t→Tryz.pinned.checked.prog.wantsStandIn t=false:=by
 obtain rfl : f=3:=Option.some.inj ((show Tryz.prog.funcNamed "heptad/heptadlaw05.BasicLengths" = some 3 by kernel_rfl).symm.trans hf) |>.symm
 obtain rfl : fn=Tryz.f3:=(Option.some.inj (Tryz.func3.symm.trans hfn)).symm
 refine ⟨by kernel_rfl,fun j t ht=>?_⟩
 rw [Tryz.params3] at ht
 have hall : ∀ t ∈ (#[3] : Array TypeId),Tryz.prog.wantsStandIn t=false:=by decide +kernel
 exact hall t (Array.mem_of_getElem? ht)
theorem basicLengths_holds : Rows.BasicLengthsUptoCardSaid:=
 Claim7.holds_tied_plain_at .later [] _ _ _ _ saidUpto (fun _ h=>by cases h) (by kernel_rfl) (fun _ h=>by cases h) basicLengthsUpto_row_tie rfl ⟨rfl,rfl⟩ (by kernel_rfl) rfl plain (by kernel_rfl)
end Go.Proofs.YtdgdhckjfllfmaaGreatDoor
