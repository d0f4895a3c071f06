/- slices.Clone of nothing. -/
import Derived.Shelf.SlIter.Sorted
import Derived.Shelf.SortM.Plain
import Derived.Shelf.SortM.SortNone
import Derived.WalkKit
import Derived.Test.YtflbneepngjglaaGreatDoorO25
import Derived.Ground.GgzProg
import Derived.Ground.SlgmProg
import Derived.RangeFuncBox
import Derived.RangeFuncLeaves
import Derived.Shelf.Abstract
import Derived.OwnWalkIn
import Derived.TacticsInMore
import Derived.LoopNIn
import Derived.LoopIn
import Derived.Ground.NamesProg
import Derived.Shelf.Slices.In.CompactS
import Derived.Lib.OwnBridge
import Derived.Lib.RowBridge
import Derived.Sort.EveryDepth
import Derived.Shelf.SlicesE.Clone
import Derived.Test.YtflbneepngjglaaGreatDoorO24
import Derived.Test.YtflbneepngjglaaGreatDoorO11
set_option linter.all false
namespace Go.Proofs
open Go.RowKit Go.Maps Go.Sort Go.Shelf
variable {P : Program} {ρ : Ren}
def YP {α:Type}(F:Fence)(n:Nat)(P:Program)(g:Nat)(lb:Array Value)(enc:α->Value)(S:List α->Prop)(N:Nat)(w:World):Prop:=
 ∀(l:Nat) (J:List α->World->Prop) (W:World),Below w.heap.size w W->AbidesFrom W.heap.size J->(∀pre W,J pre W->Below w.heap.size w W)->
  (∀pre x W1,J pre W1->pre.length<N->YieldAt F (n-1) P l #[enc x] W1 fun e W'=>e= .returned (.bool true)/\J (pre++ [x]) W'/\KeepsWalks W1 W')->
  J [] W->
  CallsIn F n P g (#[.func (.yield l) #[] #[]]++lb) W fun e W'=>(∃v,e= .returned v)/\ ∃xs,S xs/\J xs W'
set_option maxRecDepth 100000 in
set_option maxHeartbeats 2000000 in
theorem Qjl (L:SlLaysZ.n11 P ρ)(F:Fence)(n:Nat)(h11:F.fn (ρ.f 11))(hro:F.round=none)(hn:2<=n)(g:Nat)(lb:Array Value)(hFg:F.fn g)(eg: ∀args w,(callFunc g args).run P w= .ok (.enter g args) w)
    (S:List (List UInt8)->Prop) (N:Nat) (hN:N<=maxLen) (hNb:N*16<=140737488355328) (w:World) (hseq:YP F (n-1) P g lb encStr S N w):
    CallsIn F n P (ρ.f 11) #[.slice none 0 0,.func (.func g) #[] lb] w fun e w'=>∃(v:Value) (ss:List (List UInt8)),e= .returned v/\S ss/\w'.ownsRow w.heap.size (ρ.t 26) 1 v ss.length (ss.map encStr)/\(v= .slice none 0 0↔ss=[])/\Below w.heap.size w w':=by
 have h1:1<=n:=by omega
 have mixed:=L.mixed; have t0:=L.t0; have a0:=L.a0; have z0:=L.z0; have v0:=L.v0; have t24:=L.t24; have a24:=L.a24; have z24:=L.z24; have v24:=L.v24; have t26:=L.t26; have a26:=L.a26; have z26:=L.z26; have v26:=L.v26; have t28:=L.t28; have a28:=L.a28; have z28:=L.z28; have v28:=L.v28;have hne:ρ.t 24≠ρ.t 26:=fun e=>by have h:=L.t24; rw[e,L.t26]at h; cases h
 have u0:=run_underlying L.t0; have u24:=run_underlying L.t24; have u26:=run_underlying L.t26; have u28:=run_underlying L.t28;obtain⟨_,_,FG⟩:=L.f11;refine callsIn_of_wp_marks FG rfl h11 ?_ hro
 simp only[SlBodyZ.n11_ntmps ρ,List.size_toArray,List.length_cons,List.length_nil,Nat.reduceAdd,Nat.reduceSub,Array.replicate_succ,Array.replicate_zero,List.push_toArray,List.append_toArray,List.nil_append,List.cons_append]
 gi_wp2
 refine wpIn_rangeFunc ?_
 intro fn hfn;rw[hro];obtain⟨W0,hW0⟩: ∃W0,w.alloc (.cells #[.slice none 0 0] (ρ.t 24))=W0:=⟨_,rfl⟩;have hs0:W0.heap.size=w.heap.size+1:=by rw[←hW0]; simp
 have hv0:W0.heap[w.heap.size]? =some (.cells #[.slice none 0 0] (ρ.t 24) (0,0)):=by rw[←hW0]; exact World.alloc_heap_new w _
 have hb0:Below w.heap.size w W0:=by rw[←hW0]; exact(Below.refl _ w).alloc (Nat.le_refl _) _
 rw[hW0];obtain⟨W1,hW1⟩: ∃W1,(W0.alloc (.deferred (some []))).alloc (.loop (AnyZ.apRec ρ fn (.func (.func g) #[] lb) w.heap.size W0.heap.size .ready none))=W1:=⟨_,rfl⟩
 have hold: ∀k,k<W0.heap.size->W1.heap[k]? =W0.heap[k]?:=fun k hk=>by
  rw[←hW1]; exact(Below.heap_alloc _ _ k (by simp; omega)).trans (Below.heap_alloc _ _ k hk)
 have hb1:Below w.heap.size w W1:=by rw[←hW1]; exact(hb0.alloc hb0.size _).alloc (by have:=hb0.size; simp; omega) _
 have hs1:W1.heap.size=W0.heap.size+2:=by rw[←hW1]; simp
 have hM:AnyZ.ApAt ρ w fn (.func (.func g) #[] lb) w.heap.size (W0.heap.size+1) W0.heap.size [] W1:=
  ⟨⟨_,(hold w.heap.size (by omega)).trans hv0,⟨rfl,.inl ⟨rfl,rfl⟩⟩,by simp⟩,
   by rw[←hW1]; have:=World.alloc_heap_new (W0.alloc (.deferred (some []))) (.loop (AnyZ.apRec ρ fn (.func (.func g) #[] lb) w.heap.size W0.heap.size .ready none)); rwa[World.size_alloc]at this,
   by rw[←hW1]; exact(Below.heap_alloc _ _ _ (by simp)).trans (World.alloc_heap_new W0 _),hb1⟩
 refine⟨W0.heap.size+1,[{ target:=.collected W0.heap.size,args:=#[]}],W1,{ target:=.fn (.func g) lb,args:=#[.func (.yield (W0.heap.size+1)) #[] #[]]},W1,g,
  #[.func (.yield (W0.heap.size+1)) #[] #[]]++lb,W1,?_,?_,?_,?_,fun _=>h1,?_⟩
 ·rw[←hW1]; exact run_enterLoop_outer _ _ _ _ _
 ·simp[resolve,go_sem]
 ·intro f' hf'; simp[Target.leads]at hf'; subst hf'; exact hFg
 ·simp[invoke,go_sem,eg]
 ·refine(hseq (W0.heap.size+1) (AnyZ.ApAt ρ w fn (.func (.func g) #[] lb) w.heap.size (W0.heap.size+1) W0.heap.size) W1 hb1 (AnyZ.ap_abides ρ _ _ _ _ _ _ _ hb1.size) (fun pre W hJ=>hJ.below)
    (fun pre x W hJ hl=>AnyZ.apYield { L with} F (n-1-1) w fn hfn _ w.heap.size (W0.heap.size+1) W0.heap.size (by omega) (by omega) (by omega) (Nat.le_refl _) (by omega) N hN hNb pre x W hJ hl) hM).mono ?_
  rintro e W2 ⟨⟨v0,rfl⟩,ss,hS,h2⟩
  obtain⟨v,hv,hrow,hnil⟩:=h2.box;have hend:=run_endLoop (P:=P) h2.L (by simp[AnyZ.apRec])
  obtain⟨W3,hW3⟩: ∃W3,W2.putObj (W0.heap.size+1) (.loop { AnyZ.apRec ρ fn (.func (.func g) #[] lb) w.heap.size W0.heap.size .ready none with state:=.exhausted})=W3:=⟨_,rfl⟩;rw[hW3]at hend;have hg3:W2.grownBy W3 (some (W0.heap.size+1)):=by rw[←hW3]; exact grownBy_putObj_a _ _ _
  have hv3:W3.heap[w.heap.size]? =some (.cells #[v] (ρ.t 24) (0,0)):=by rw[←hW3]; exact(World.putObj_heap_other (by omega)).trans hv
  have hK3:W3.heap[W0.heap.size]? =some (.deferred (some [])):=by rw[←hW3]; exact(World.putObj_heap_other (by omega)).trans h2.K
  have hrow3:=hrow.kept hg3 (ownsRow_ne_a hrow h2.L (fun cur e=>by first | cases e | exact hne (Obj.cells.inj e).2.1))
  have hb3:Below w.heap.size w W3:=h2.below.grown hg3 h2.below.size (fun k e=>by cases e; omega)
  obtain⟨hc3,hf3⟩:=cell_of_box_a hv3;clear hW3;refine⟨none,W3,hend,?_⟩
  gi_wp2
  rw[←hs0];refine⟨by simp,.inl ⟨_,_,rfl,run_takeDeferred hK3,?_⟩⟩
  exact⟨_,results_tmp rfl _ _ _,v,ss,rfl,hS,hrow3.kept (grownBy_putObj_a _ _ _) (ownsRow_ne_a hrow3 hK3 (fun cur e=>by first | cases e | exact hne (Obj.cells.inj e).2.1)),hnil,hb3.grown (grownBy_putObj_a _ _ _) hb3.size (fun k e=>by cases e; omega)⟩
set_option maxHeartbeats 1000000 in
theorem Qog (L:SlLaysZ.n8 P ρ)(F:Fence)(n:Nat)(h8:F.fn (ρ.f 8))(h11:F.fn (ρ.f 11))(hro:F.round=none)(hn:3<=n)(g:Nat)(lb:Array Value)(hFg:F.fn g)(eg: ∀args w,(callFunc g args).run P w= .ok (.enter g args) w)
    (S:List (List UInt8)->Prop) (N:Nat) (hN:N<=maxLen) (hNb:N*16<=140737488355328) (w:World) (hseq:YP F (n-1-1) P g lb encStr S N w):
    CallsIn F n P (ρ.f 8) #[.func (.func g) #[] lb] w fun e w'=>∃(v:Value) (ss:List (List UInt8)),e= .returned v/\S ss/\w'.ownsRow w.heap.size (ρ.t 26) 1 v ss.length (ss.map encStr)/\(v= .slice none 0 0↔ss=[])/\Below w.heap.size w w':=by
 have h1:1<=n:=by omega
 have e11: ∀args w,(callFunc (ρ.f 11) args).run P w= .ok (.enter (ρ.f 11) args) w:=L.f11.enters rfl;have mixed:=L.mixed; have t0:=L.t0; have a0:=L.a0; have z0:=L.z0; have v0:=L.v0; have t24:=L.t24; have a24:=L.a24; have z24:=L.z24; have v24:=L.v24; have t26:=L.t26; have a26:=L.a26; have z26:=L.z26; have v26:=L.v26; have t28:=L.t28; have a28:=L.a28; have z28:=L.z28; have v28:=L.v28;have u0:=run_underlying L.t0; have u24:=run_underlying L.t24; have u26:=run_underlying L.t26; have u28:=run_underlying L.t28;obtain⟨_,_,FG⟩:=L.f8;refine callsIn_of_wp FG rfl h8 ?_ hro
 simp only[SlBodyZ.n8_ntmps ρ,List.size_toArray,List.length_cons,List.length_nil,Nat.reduceAdd,Nat.reduceSub,Array.replicate_succ,Array.replicate_zero,List.push_toArray,List.append_toArray,List.nil_append,List.cons_append]
 gi_wp2_with (gi_at_fn (ρ.f 11); refine(Qjl { L with} F (n-1) h11 hro (by omega) g lb hFg eg S N hN hNb _ hseq).mono ?_; rintro e w' ⟨v,ss,rfl,hS,hrow,hnil,hb⟩)
 go_ret
 exact⟨v,ss,rfl,hS,hrow,hnil,hb⟩
set_option maxRecDepth 100000 in
set_option maxHeartbeats 2000000 in
theorem QoT (L:SlLaysZ.n6 P ρ)(F:Fence)(n:Nat)(h6:F.fn (ρ.f 6))(h8:F.fn (ρ.f 8))(h9:F.fn (ρ.f 9))(h11:F.fn (ρ.f 11))(hro:F.round=none)(hn:4<=n)(hsort:AnyZ.SortsIn P ρ F (n-1))(e9: ∀args w,(callFunc (ρ.f 9) args).run P w= .ok (.enter (ρ.f 9) args) w)(g:Nat)(lb:Array Value)(hFg:F.fn g)(eg: ∀args w,(callFunc g args).run P w= .ok (.enter g args) w)
    (S:List (List UInt8)->Prop) (N:Nat) (hN:N<=maxLen) (hNb:N*16<=140737488355328) (w:World) (hSN: ∀ss,S ss->ss.length<=N) (hseq:YP F (n-1-1-1) P g lb encStr S N w):
    CallsIn F n P (ρ.f 6) #[.func (.func g) #[] lb] w fun e w'=>∃(v:Value) (ss:List (List UInt8)),e= .returned v/\S ss/\
     w'.ownsRow w.heap.size (ρ.t 26) 1 v ss.length ((ss.mergeSort (fun x y=>decide (x<=y))).map encStr)/\(v= .slice none 0 0↔ss=[])/\Below w.heap.size w w':=by
 have h1:1<=n:=by omega
 have e8: ∀args w,(callFunc (ρ.f 8) args).run P w= .ok (.enter (ρ.f 8) args) w:=L.f8.enters rfl;have mixed:=L.mixed; have t0:=L.t0; have a0:=L.a0; have z0:=L.z0; have v0:=L.v0; have t24:=L.t24; have a24:=L.a24; have z24:=L.z24; have v24:=L.v24; have t26:=L.t26; have a26:=L.a26; have z26:=L.z26; have v26:=L.v26; have t28:=L.t28; have a28:=L.a28; have z28:=L.z28; have v28:=L.v28;have u0:=run_underlying L.t0; have u24:=run_underlying L.t24; have u26:=run_underlying L.t26; have u28:=run_underlying L.t28;obtain⟨_,_,FG⟩:=L.f6;refine callsIn_of_wp FG rfl h6 ?_ hro
 simp only[SlBodyZ.n6_ntmps ρ,List.size_toArray,List.length_cons,List.length_nil,Nat.reduceAdd,Nat.reduceSub,Array.replicate_succ,Array.replicate_zero,List.push_toArray,List.append_toArray,List.nil_append,List.cons_append]
 gi_wp2_with (gi_at_fn (ρ.f 8); refine(Qog { L with} F (n-1) h8 h11 hro (by omega) g lb hFg eg _ N hN hNb _ hseq).mono ?_; rintro e W ⟨v,ss,rfl,hS,hrow,hnil,hb⟩; have hlen:=hSN ss hS)
 rcases hrow.2 with⟨rfl,hz⟩ | ⟨gb,cap,cur,rfl,hbase,hgb,r1,r2,r3,r4⟩
 ·
  have hss:ss=[]:=List.eq_nil_of_length_eq_zero hz;subst hss
  gi_wp2_with (gi_at_fn (ρ.f 9); refine(hsort.2 none 0 W).mono ?_; rintro e w' ⟨rfl,rfl⟩)
  go_ret
  exact⟨.slice none 0 0,[],rfl,hS,by simpa using hrow,by simp,hb⟩
 ·have hH:Holds encStr W gb 0 ss.toArray:=holds_of_block hgb (by simpa using r4)
  have hgl:gb<W.heap.size:=(Array.getElem?_eq_some_iff.1 hgb).1
  have hsz:ss.length<4611686018427387904:=by omega
  have cS:=hsort.1 gb 0 cap ss W hH hgl hsz
  gi_wp2_with (gi_at_fn (ρ.f 9); refine cS.mono ?_; rintro e w' ⟨rfl,nn,os,rfl⟩)
  go_ret
  exact⟨_,ss,rfl,hS,ownsRow_sorted (by simp) hbase hgb r1 r2 r3,hnil,hb.grown (grownBy_sorted _) hb.size (fun j hj=>by cases hj; exact hbase)⟩
end Go.Proofs
namespace Go.Proofs.YtflbneepngjglaaGreatDoor
open Go.RowKit Go.Maps Go.Sort Go.Shelf
attribute [local go_sem] Oper.semAt_some
set_option maxRecDepth 100000 in
set_option maxHeartbeats 2000000 in
theorem QiS (F:Fence)(n:Nat)(h53:F.fn 266)(hro:F.round=none)(hn:1<=n)(Bs b off cap:Nat)(zs:List (List UInt8))(w:World)(hreach:zs.length*16<=140737488351232)(hBs:w.cell? ⟨Bs,0,none⟩=some (.slice (some ⟨b,off,none⟩) zs.length cap))(hB:Bs<w.heap.size)(hb:b<w.heap.size)
    (hc: ∀j,j<zs.length->w.cell? ⟨b,off+j,none⟩=some (encStr (zs[j]?.getD []))):YP F n Tryz.prog 266 #[.pointer (some ⟨Bs,0,none⟩)] encStr (fun ss=>ss=zs) zs.length w:=by
 intro l J W hW hJ hJB hY h0;have hBsW:=(hW.cell (p:=⟨Bs,0,none⟩) hB).trans hBs;show CallsIn F n Tryz.prog 266 #[.func (.yield l) #[] #[],.pointer (some ⟨Bs,0,none⟩)] W _;refine callsIn_of_wp Tryz.func266 rfl h53 ?_ hro
 simp only[Tryz.ntmps266,List.size_toArray,List.length_cons,List.length_nil,Nat.reduceAdd,Nat.reduceSub,Array.replicate_succ,Array.replicate_zero,List.push_toArray,List.append_toArray,List.nil_append,List.cons_append]
 gi_wp2
 gi_loopw [7] (fun i wr=>∃k:Nat,k<=zs.length/\i= .int .i64 k/\J (zs.take k) wr)
  (fun i _=>zs.length-(intOf i).toNat)
 case atStart=>exact⟨0,Nat.zero_le _,rfl,by simpa using h0⟩
 case round=>
  obtain⟨k,hk,rfl,hJs⟩:=hrel;have hbe:=hJB _ _ hJs;have hcx:k<zs.length->wr.cell? ⟨b,off+k,none⟩=some (encStr (zs[k]?.getD [])):=fun h=>(hbe.cell (p:=⟨b,off+k,none⟩) hb).trans (hc k h)
  by_cases hlt:k<zs.length
  ·have hcx':=hcx hlt
   have hnext: ∀x,zs[k]?.getD []=x->zs.take (k+1)=zs.take k++ [x]:=fun x hx=>by
    have hx':zs[k]=x:=by simpa[hlt]using hx
    rw[List.take_succ_eq_append_getElem hlt,hx']
   clear hcx;obtain⟨x,hx⟩: ∃x,zs[k]?.getD []=x:=⟨_,rfl⟩;rw[hx]at hcx';have hnext:=hnext x hx;clear hx;obtain⟨fn,tmps,assign,body,hy,hR⟩:=hY _ x wr hJs (by simp; omega)
   gi_wp2
   refine hR.mono ?_
   rintro e W3 ⟨rfl,hJ3,hk3⟩
   gi_wp2
   go_roundw
   case rel=>exact⟨k+1,by omega,by simp,by rw[hnext]; exact hJ3⟩
   case measure=>simp[intOf]; omega
  ·obtain rfl:k=zs.length:=by omega
   gi_wp2
   go_end0
   exact⟨⟨_,rfl⟩,_,rfl,by simpa using hJs⟩
set_option maxRecDepth 100000 in
set_option maxHeartbeats 2000000 in
theorem QiT (F:Fence)(n:Nat)(h53:F.fn 266)(hro:F.round=none)(hn:1<=n)(Bs cap:Nat)(a:Option Addr)(w:World)(hBs:w.cell? ⟨Bs,0,none⟩=some (.slice a 0 cap))(hB:Bs<w.heap.size):YP F n Tryz.prog 266 #[.pointer (some ⟨Bs,0,none⟩)] encStr (fun ss=>ss=[]) 0 w:=by
 intro l J W hW hJ hJB hY h0;have hBsW:=(hW.cell (p:=⟨Bs,0,none⟩) hB).trans hBs;show CallsIn F n Tryz.prog 266 #[.func (.yield l) #[] #[],.pointer (some ⟨Bs,0,none⟩)] W _;refine callsIn_of_wp Tryz.func266 rfl h53 ?_ hro
 simp only[Tryz.ntmps266,List.size_toArray,List.length_cons,List.length_nil,Nat.reduceAdd,Nat.reduceSub,Array.replicate_succ,Array.replicate_zero,List.push_toArray,List.append_toArray,List.nil_append,List.cons_append]
 gi_wp2
 gi_loopw [7] (fun i wr=>i= .int .i64 0/\J [] wr) (fun _ _=>0)
 case atStart=>exact⟨rfl,h0⟩
 case round=>
  obtain⟨rfl,hJs⟩:=hrel
  gi_wp2
  go_end0
  exact⟨⟨_,rfl⟩,_,rfl,hJs⟩
set_option maxHeartbeats 1000000 in
theorem Qry (n:Nat)(a:Option Addr)(len cap:Nat)(w:World):
    CallsIn Fence.wide n Tryz.prog 228 #[.slice a len cap] w fun e w'=>e= .returned (.func (.func 266) #[] #[.pointer (some ⟨w.heap.size,0,none⟩)])/\w'=w.alloc (.cells #[.slice a len cap] 81):=by
 refine callsIn_of_wp Tryz.func228 rfl trivial ?_ rfl
 simp only[Tryz.ntmps228,List.size_toArray,List.length_cons,List.length_nil,Nat.reduceAdd,Nat.reduceSub,Array.replicate_succ,Array.replicate_zero,List.push_toArray,List.append_toArray,List.nil_append,List.cons_append]
 gi_wp2
 go_ret
 exact⟨rfl,rfl⟩
def QiM (W:World)(v:Value)(zs:List (List UInt8)):Prop:=(zs=[]/\ ∃a cap,v= .slice a 0 cap)\/ ∃b off cap,v= .slice (some ⟨b,off,none⟩) zs.length cap/\zs.length<=cap/\b<W.heap.size/\ ∀j,j<zs.length->W.cell? ⟨b,off+j,none⟩=some (encStr (zs[j]?.getD []))
theorem QiM.slice{W:World}{v:Value}{zs:List (List UInt8)}(h:QiM W v zs): ∃a cap,v= .slice a zs.length cap:=by
 rcases h with⟨rfl,a,cap,rfl⟩ | ⟨b,off,cap,rfl,_⟩
 ·exact⟨a,cap,rfl⟩
 ·exact⟨_,_,rfl⟩
theorem QrF (m:Nat):AnyZ.SortsIn Tryz.prog Tryz.Qnw Fence.wide m:=
 ⟨fun blk off cap ss W hH hblk hsz=>callsIn_wide.2 (AnyM.slices_Sort_string Tryz.QBG blk off cap ss W hH hblk hsz),
  fun p cap W=>callsIn_wide.2 (AnyM.slices_Sort_string_none Tryz.QBG p cap W)⟩
abbrev srt (zs:List (List UInt8)):List (List UInt8):=zs.mergeSort fun x y=>decide (x<=y)
theorem sorted_in (zs:List (List UInt8))(v:Value)(W:World)(hv:QiM W v zs)(hz:zs.length<=67108864):
    CallsIn Fence.wide 9 Tryz.prog 227 #[.func (.func 266) #[] #[.pointer (some ⟨W.heap.size,0,none⟩)]] (W.alloc (.cells #[v] 81)) fun e w'=>∃u,e= .returned u/\
     w'.ownsRow W.heap.size 9 1 u (srt zs).length ((srt zs).map encStr)/\(u= .slice none 0 0↔zs=[])/\Below W.heap.size W w':=by
 have hal:Below W.heap.size W (W.alloc (.cells #[v] 81)):=(Below.refl _ W).alloc (Nat.le_refl _) _;have hcell:(W.alloc (.cells #[v] 81)).cell? ⟨W.heap.size,0,none⟩=some v:=(cell_of_box_a (World.alloc_heap_new W _)).1;have hsz:W.heap.size<(W.alloc (.cells #[v] 81)).heap.size:=by simp
 have hg:YP Fence.wide (9-1-1-1) Tryz.prog 266 #[.pointer (some ⟨W.heap.size,0,none⟩)] encStr (fun ss=>ss=zs) zs.length (W.alloc (.cells #[v] 81)):=by
  rcases hv with⟨rfl,a,cap,rfl⟩ | ⟨b,off,cap,rfl,_,hb,hc⟩
  ·exact QiT Fence.wide _ trivial rfl (by omega) _ cap a _ hcell hsz
  ·exact QiS Fence.wide _ trivial rfl (by omega) _ b off cap zs _ (by omega) hcell hsz (by omega) fun j hj=>(hal.cell (p:=⟨b,off+j,none⟩) hb).trans (hc j hj)
 refine(QoT Tryz.QBH Fence.wide 9 trivial trivial trivial trivial rfl (by omega) (QrF _) (enters_of Tryz.func265 (by kernel_rfl) rfl) 266 #[.pointer (some ⟨W.heap.size,0,none⟩)] trivial (enters_of Tryz.func266 (by kernel_rfl) rfl)
  (fun ss=>ss=zs) zs.length (by unfold maxLen; omega) (by omega) _ (fun ss h=>by rw[h]; exact Nat.le_refl _) hg).mono ?_
 rintro e w' ⟨u,ss,rfl,rfl,hrow,hnil,hb⟩
 refine⟨u,rfl,?_,hnil,hal.trans (hb.mono (by omega))⟩
 have hl:(srt ss).length=ss.length:=List.length_mergeSort ss;rw[hl];exact ownsRow_base_a hrow (by omega)
theorem QpV (n B:Nat)(ss:List (List UInt8))(u:Value)(W:World)(hrow:W.ownsRow B 9 1 u ss.length (ss.map encStr))(hz:ss.length<=67108864):
    CallsIn Fence.wide n Tryz.prog 229 #[u] W fun e w'=>∃a cap,e= .returned (.slice a (Lib.compact ss).length cap)/\Below B W w':=by
 refine callsIn_wide.2 ?_
 by_cases hu:u= .slice none 0 0
 ·subst hu
  have h0:ss=[]:=by
   have:=hrow.1;rcases hrow.2 with⟨_,h⟩ | ⟨g,cap,cur,h,_⟩
   ·exact List.eq_nil_of_length_eq_zero h
   ·cases h
  subst h0;refine(calls_of_every_depth fun D=>AnyS.slices_Compact_string_empty_in Tryz.QBL D none 0 W).mono ?_
  rintro e w' ⟨rfl,rfl⟩
  exact⟨none,0,rfl,Below.refl _ _⟩
 ·obtain⟨g,cap,rfl,hbg,hgl,hncap,hcm,hlen,hH⟩:=Lib.holds_of_ownsRow hrow hu;refine(calls_of_every_depth fun D=>AnyS.slices_Compact_string_in Tryz.QBL D g 0 cap ss W hH (by omega) hncap).mono ?_
  rintro e w' ⟨rfl,q,rfl⟩
  exact⟨_,_,rfl,Lib.below_putRow (Below.refl _ _) hbg⟩
theorem Qnt {α:Type} [Inhabited α] [DecidableEq α](d:Array α): ∀m,(Lib.compactUpTo d m).length<=m/\((Lib.compactUpTo d m).length=m-> ∀j,j<m->Lib.keeps d j=true)
 | 0=>by simp[Lib.compactUpTo]
 | m+1=>by
  obtain⟨h1,h2⟩:=Qnt d m;rw[Lib.compactUpTo_succ];split
  ·rename_i hk;refine⟨by simp; omega,fun e j hj=>?_⟩
   rcases Nat.lt_or_ge j m with h | h
   ·exact h2 (by simp at e; omega) j h
   ·have:j=m:=by omega
    subst this; exact hk
  ·refine⟨by simp; omega,fun e=>?_⟩
   simp at e; omega
theorem QkP : ∀(l:List (List UInt8)),l.Pairwise (fun a b=>decide (a<=b)=true)->(∀i (h:i+1<l.length),l[i+1]≠l[i])->l.Nodup
 | [],_,_=>List.nodup_nil
 | [x],_,_=>by simp
 | x::y::r,hp,ha=>by
  have hxy:y≠x:=ha 0 (by simp)
  have hp2:=(List.pairwise_cons.1 hp).2;rw[List.nodup_cons];refine⟨fun hm=>?_,QkP (y::r) hp2 fun i h=>ha (i+1) (by simpa using h)⟩
  rcases List.mem_cons.1 hm with e | hm
  ·exact hxy e.symm
  ·have h1:=(List.pairwise_cons.1 hp2).1 x hm;have h2:=(List.pairwise_cons.1 hp).1 y (by simp)
   simp only[decide_eq_true_eq]at h1 h2;exact hxy (List.le_antisymm h1 h2)
theorem QkY (zs:List (List UInt8)):(srt zs).Pairwise (fun a b=>decide (a<=b)=true):=
 List.pairwise_mergeSort (fun a b c h1 h2=>by simp only[decide_eq_true_eq]at*; exact List.le_trans h1 h2) (fun a b=>by simp only[Bool.or_eq_true,decide_eq_true_eq]; exact List.le_total a b) zs
theorem QxS {α:Type} [Inhabited α](l:List α)(j:Nat)(h:j<l.length):l.toArray[j]! =l[j]:=by
 rw[getElem!_pos l.toArray j (by simpa using h)]; simp
theorem Qof (zs:List (List UInt8)):(Lib.compact (srt zs)).length=zs.length↔zs.Nodup:=by
 have hl:(srt zs).length=zs.length:=List.length_mergeSort zs;have hpm:(srt zs).Perm zs:=List.mergeSort_perm _ _;rw[←hpm.nodup_iff,←hl];constructor
 ·intro h;refine QkP _ (QkY zs) fun i hi=>?_
  have hk:=(Qnt (srt zs).toArray (srt zs).length).2 h (i+1) hi;simp only[Lib.keeps,decide_eq_true_eq]at hk;rcases hk with hk | hk
  ·omega
  ·rw[QxS _ _ hi,Nat.add_sub_cancel,QxS _ _ (by omega)]at hk
   exact hk
 ·intro h;rw[Lib.compact_all];intro j hj;simp only[Lib.keeps,decide_eq_true_eq];rcases Nat.eq_zero_or_pos j with h0 | h0
  ·exact .inl h0
  ·refine .inr ?_
   rw[QxS _ _ hj,QxS _ _ (by omega)]
   exact fun e=>by
    have:=(List.getElem_inj h).1 e;omega
theorem QpU (zs:List (List UInt8)):(Lib.compact (srt zs)).length<=zs.length:=by
 have hl:(srt zs).length=zs.length:=List.length_mergeSort zs;have:=Lib.compact_length_le (srt zs);omega
end Go.Proofs.YtflbneepngjglaaGreatDoor
namespace Go.Proofs.YtflbneepngjglaaGreatDoor
open Go.RowKit Go.Maps Go.Sort Go.Shelf Go.Avm
theorem Qth (n B:Nat)(ss:List (List UInt8))(u:Value)(W:World)(hrow:W.ownsRow B 9 1 u ss.length (ss.map encStr))(hz:ss.length<=67108864):
    CallsIn Fence.wide n Tryz.prog 230 #[u] W fun e w'=>∃u',e= .returned u'/\w'.ownsRow W.heap.size 9 1 u' ss.length (ss.map encStr)/\Below W.heap.size W w':=by
 refine callsIn_wide.2 ?_
 by_cases hu:u= .slice none 0 0
 ·subst hu
  have h0:ss=[]:=by
   rcases hrow.2 with⟨_,h⟩ | ⟨g,cap,cur,h,_⟩
   ·exact List.eq_nil_of_length_eq_zero h
   ·cases h
  subst h0;refine(AnyE.slices_Clone_nil Tryz.Qyj 0 0 W).mono ?_
  rintro e w' ⟨rfl,rfl⟩
  exact⟨_,rfl,⟨rfl,.inl ⟨rfl,rfl⟩⟩,Below.refl _ _⟩
 ·obtain⟨g,cap,rfl,hbg,hgl,hncap,hcm,hlen,hH⟩:=Lib.holds_of_ownsRow hrow hu
  have hc: ∀(j:Nat) (u:Value),(ss.map encStr)[j]? =some u->W.cell? ⟨g,0+j,none⟩=some u:=fun j u hj=>by
   rcases hrow.2 with⟨h,_⟩ | ⟨g',cap',cur,h,_,hg',h1,_,h3,h4⟩
   ·cases h
   ·cases h
    have hj':cur[j]? =some u:=by
     rw[←h4,List.getElem?_take]at hj
     split at hj
     ·simpa using hj
     ·cases hj
    simp[World.cell?,hg',hj']
  obtain⟨i0,hi,hz0,hz1,hz2⟩:=info_parts Tryz.QBH.i26
  refine(AnyE.slices_Clone Tryz.Qyj i0 (.string ⟨#[]⟩) 1 16 hi hz0 hz1 hz2 rfl (by decide) Tryz.sizeOf9 g 0 ss.length cap (ss.map encStr) W (by simp) (by unfold maxLen; omega) (by omega) hc (fun u hu=>by
   obtain⟨x,_,rfl⟩:=List.mem_map.1 hu; rfl)).mono ?_
  rintro e w' ⟨v',rfl,ho,_,hb⟩
  exact⟨v',rfl,ho,hb⟩
set_option maxRecDepth 100000 in
set_option maxHeartbeats 4000000 in
theorem QmJ (ns:List (List UInt8))(v:Value)(W:World)(hv:QiM W v ns)(hz:ns.length<=67108864):
    Calls Tryz.prog 148 #[v] W fun e W'=>e= .returned (.bool (!decide ns.Nodup))/\Below W.heap.size W W':=by
 refine(callsIn_wide (n:=10)).1 ?_
 obtain⟨ad,cap,hve⟩:=hv.slice;have hS:=sorted_in _ v W hv (by simpa using hz)
 have hl:(srt ns).length=ns.length:=List.length_mergeSort ns;subst hve;have hK:=fun(u:Value) (w1:World) (h:w1.ownsRow W.heap.size 9 1 u (srt ns).length ((srt ns).map encStr))=>Qth 9 W.heap.size (srt ns) u w1 h (by omega)
 have hC:=fun(B:Nat) (u:Value) (w1:World) (h:w1.ownsRow B 9 1 u (srt ns).length ((srt ns).map encStr))=>QpV 9 B (srt ns) u w1 h (by omega)
 have hO: ∀(u:Value) (w1:World),w1.ownsRow W.heap.size 9 1 u (srt ns).length ((srt ns).map encStr)-> ∃a c,u= .slice a ns.length c:=fun u w1 h=>by
  rcases h.2 with⟨rfl,h0⟩ | ⟨g,cap',cur,rfl,_⟩
  ·exact⟨none,0,by rw[←hl,h0]⟩
  ·exact⟨_,_,by rw[hl]⟩
 have hcl:=Qof ns;have hle:=QpU ns;obtain⟨q,hq⟩: ∃q,(Lib.compact (srt ns)).length=q:=⟨_,rfl⟩;rw[hq]at hC hcl hle;clear hv;have hfa:Fence.wide.fn 228:=trivial;have hfb:Fence.wide.fn 227:=trivial;have hfc:Fence.wide.fn 229:=trivial;have hfd:Fence.wide.fn 230:=trivial;refine callsIn_of_wp Tryz.func148 rfl trivial ?_ rfl
 simp only[Tryz.ntmps148,List.size_toArray,List.length_cons,List.length_nil,Nat.reduceAdd,Nat.reduceSub,Array.replicate_succ,Array.replicate_zero,List.push_toArray,List.append_toArray,List.nil_append,List.cons_append]
 gi_wp2_with (first
  | (gi_at_call 228; refine(Qry 9 _ _ _ _).mono ?_; rintro e w' ⟨rfl,rfl⟩)
  | (gi_at_call 227; refine hS.mono ?_; rintro e w1 ⟨u,rfl,hrow,hnil,hb1⟩; obtain⟨a1,c1,hu⟩:=hO _ _ hrow; rw[hu]at hrow; rw[hu])
  | (gi_at_call 230; refine(hK _ _ hrow).mono ?_; rintro e w2 ⟨u2,rfl,hrow2,hb2⟩)
  | (gi_at_call 229; refine(hC _ _ _ hrow2).mono ?_; rintro e w3 ⟨a3,cap3,rfl,hb3⟩))
 all_goals go_ret
 refine⟨?_,hb1.trans ((hb2.trans hb3).mono hb1.size)⟩
 show Ending.returned (Value.bool (decide (q<ns.length)))=Ending.returned (Value.bool (!decide ns.Nodup))
 congr 2
 by_cases hn:ns.Nodup
 ·have:=hcl.2 hn;simp[hn]; omega
 ·have:q≠ns.length:=fun e=>hn (hcl.1 e)
  simp[hn]; omega
end Go.Proofs.YtflbneepngjglaaGreatDoor
namespace Go.Proofs
open Go.Shelf Go.RowKit Go.Lib
variable {P : Program} {ρ : Ren}
theorem Qwf {P:Program}{t:TypeId}{q r:Option Addr}{len cap c sz:Nat}{i:TypeInfo}{e:TypeId}(ht:P.underlying t=some (.slice e))(hi:P.info? e=some i)(hsz:i.size=sz)(hc:len<=cap)(ty:TypeId)(w:World):
    (Builtin.append_ #[t,t] ty #[.slice q len cap,.slice r 0 c]).run P w= .ok (.slice q len cap) w:=by
 have hs:(sizeOf e).run P w= .ok sz w:=by simp[sizeOf,typeInfo,hi,hsz]
 cases q<;>cases r<;>simp[Builtin.append_,run_underlying ht,hs,Builtin.lenOf,hc,Builtin.firstCells,loadCells,loadCellsFrom,storeCells]
set_option maxHeartbeats 2000000 in
set_option maxRecDepth 100000 in
theorem QpX (L:SlLaysE0.n41 P ρ)(i0:TypeInfo)(size:Nat)(hi:P.info? (ρ.t 23)=some i0)(hz1:i0.size=size)(z23: ∀w,(Go.sizeOf (ρ.t 23)).run P w= .ok size w)(q:Addr)(c:Nat)(w:World):
    Calls P (ρ.f 41) #[.slice (some q) 0 c] w fun e w'=>∃v',e= .returned v'/\w'.ownsRow w.heap.size (ρ.t 23) size v' 0 []/\Below w.heap.size w w':=by
 have mixed:=L.mixed; have t4:=L.t4; have a4:=L.a4; have z4:=L.z4; have v4:=L.v4; have t22:=L.t22; have a22:=L.a22; have z22:=L.z22; have v22:=L.v22;have q22: ∀(w:World) (a:Option Addr) (n c n' c':Nat),(binOp .eql (ρ.t 22) (.slice a n c) (.slice none n' c')).run P w= .ok (.bool a.isNone) w:=fun w a n c n' c'=>Lib.run_eql_slice_nil w _ _ a n c n' c' L.t22
 have u22: ∀w,Sem.run P (underlying (ρ.t 22)) w= .ok (TypeDesc.slice (ρ.t 23)) w:=run_underlying t22;have happ:=fun(g:Nat) (ty:TypeId) (w:World)=>Qwf (P:=P) (q:=some ⟨g,0,none⟩) (r:=some q) (len:=0) (cap:=0) (c:=c) t22 hi hz1 (Nat.le_refl 0) ty w
 obtain⟨_,_,FG⟩:=L.f41
 go_enter FG,SlBodyN.n41_ntmps ρ
 go_wp2
 go_ret
 refine⟨_,rfl,⟨by simp,.inr ⟨w.heap.size,0,#[],rfl,Nat.le_refl _,Avm.Qad w _,Nat.le_refl _,Nat.zero_le _,by simp,by simp⟩⟩,(Below.refl _ w).alloc (Nat.le_refl _) _⟩
theorem Qig (L:SlLaysE0.n41 P ρ)(i0:TypeInfo)(z:Value)(size bytes lim:Nat)(hi:P.info? (ρ.t 23)=some i0)(hz0:i0.zero=some z)(hz1:i0.size=size)(hz2:i0.bytes=bytes)(hzs:z.cells.size=size)(hsz:0<size)
    (z23: ∀w,(Go.sizeOf (ρ.t 23)).run P w= .ok size w) (hlim:lim*bytes<=140737488355328) (hl:lim<=maxLen) (hen: ∀vs w,(callFunc (ρ.f 41) vs).run P w= .ok (.enter (ρ.f 41) vs) w) (w0:World):Avm.Qey P w0 (ρ.f 41) (Avm.Jr size lim):=
 Avm.Qtg hsz hlim hl (fun b off n c news w h1 h2 h3 h4 h5=>AnyE.slices_Clone L i0 z size bytes hi hz0 hz1 hz2 hzs hsz z23 b off n c news w h1 h2 h3 h4 h5)
  (fun a c w=>by
   cases a with
   | none=>
    refine(AnyE.slices_Clone_nil L 0 c w).mono ?_
    rintro e w' ⟨rfl,rfl⟩
    exact⟨_,rfl,⟨by simp,.inl ⟨rfl,rfl⟩⟩,Below.refl _ _⟩
   | some q=>exact QpX L i0 size hi hz1 z23 q c w) hen
end Go.Proofs
