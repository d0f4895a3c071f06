/- types.twice: does a text stand in a list twice? -/
import Derived.Test.YtdgdhckjfllfmaaGreatDoorM33
import Derived.Test.YtdgdhckjfllfmaaGreatDoorM34
import Derived.Ground.GgzProg
import Derived.Ground.SlgmProg
import Derived.RangeFuncBox
import Derived.RangeFuncLeaves
import Derived.Shelf.Abstract
import Derived.WalkKit
import Derived.OwnWalkIn
import Derived.TacticsInMore
import Derived.LoopNIn
import Derived.LoopIn
import Derived.Ground.NamesProg
import Derived.Shelf.Slices.In.CompactS
import Derived.Lib.OwnBridge
import Derived.Lib.RowBridge
import Derived.Sort.EveryDepth
import Derived.Shelf.SlicesE.Clone
import Derived.Test.YtdgdhckjfllfmaaGreatDoorM32
import Derived.Test.YtdgdhckjfllfmaaGreatDoorM29
set_option linter.all false
namespace Go.Proofs.YtdgdhckjfllfmaaGreatDoor
open Go.RowKit Go.Maps Go.Sort Go.Shelf
attribute [local go_sem] Oper.semAt_some
set_option maxRecDepth 100000 in
set_option maxHeartbeats 2000000 in
theorem values1_gives (F : Fence) (n : Nat) (h53 : F.fn 123) (hro : F.round=none) (hn : 1≤n) (Bs b off cap : Nat) (zs : List (List UInt8)) (w : World) (hreach : zs.length * 16≤140737488351232) (hBs : w.cell? ⟨Bs,0,none⟩=some (.slice (some ⟨b,off,none⟩) zs.length cap)) (hB : Bs < w.heap.size) (hb : b < w.heap.size)
    (hc : ∀ j,j < zs.length→w.cell? ⟨b,off + j,none⟩=some (encStr (zs[j]?.getD []))) : SeqGivesB F n Tryz.prog 123 #[.pointer (some ⟨Bs,0,none⟩)] encStr (fun ss=>ss=zs) zs.length w:=by
 intro l J W hW hJ hJB hY h0
 have hBsW:=(hW.cell (p:=⟨Bs,0,none⟩) hB).trans hBs
 show CallsIn F n Tryz.prog 123 #[.func (.yield l) #[] #[],.pointer (some ⟨Bs,0,none⟩)] W _
 refine callsIn_of_wp Tryz.func123 rfl h53 ?_ hro
 simp only [Tryz.ntmps123,List.size_toArray,List.length_cons,List.length_nil,Nat.reduceAdd,Nat.reduceSub,Array.replicate_succ,Array.replicate_zero,List.push_toArray,List.append_toArray,List.nil_append,List.cons_append]
 gi_wp2
 gi_loopw [7] (fun i wr=>∃ k : Nat,k≤zs.length∧i = .int .i64 k∧J (zs.take k) wr)
  (fun i _=>zs.length - (intOf i).toNat)
 case atStart=>exact ⟨0,Nat.zero_le _,rfl,by simpa using h0⟩
 case round=>
  obtain ⟨k,hk,rfl,hJs⟩:=hrel
  have hbe:=hJB _ _ hJs
  have hcx : k < zs.length→wr.cell? ⟨b,off + k,none⟩=some (encStr (zs[k]?.getD [])):=fun h=>(hbe.cell (p:=⟨b,off + k,none⟩) hb).trans (hc k h)
  by_cases hlt : k < zs.length
  ·have hcx':=hcx hlt
   have hnext : ∀ x,zs[k]?.getD []=x→zs.take (k + 1)=zs.take k++[x]:=fun x hx=>by
    have hx' : zs[k]=x:=by simpa [hlt] using hx
    rw [List.take_succ_eq_append_getElem hlt,hx']
   clear hcx
   obtain ⟨x,hx⟩ : ∃ x,zs[k]?.getD []=x:=⟨_,rfl⟩
   rw [hx] at hcx'
   have hnext:=hnext x hx
   clear hx
   obtain ⟨fn,tmps,assign,body,hy,hR⟩:=hY _ x wr hJs (by simp; omega)
   gi_wp2
   refine hR.mono ?_
   rintro e W3 ⟨rfl,hJ3,hk3⟩
   gi_wp2
   go_roundw
   case rel=>exact ⟨k + 1,by omega,by simp,by rw [hnext]; exact hJ3⟩
   case measure=>simp [intOf]; omega
  ·obtain rfl : k=zs.length:=by omega
   gi_wp2
   go_end0
   exact ⟨⟨_,rfl⟩,_,rfl,by simpa using hJs⟩
set_option maxRecDepth 100000 in
set_option maxHeartbeats 2000000 in
theorem values0_gives (F : Fence) (n : Nat) (h53 : F.fn 123) (hro : F.round=none) (hn : 1≤n) (Bs cap : Nat) (a : Option Addr) (w : World) (hBs : w.cell? ⟨Bs,0,none⟩=some (.slice a 0 cap)) (hB : Bs < w.heap.size) : SeqGivesB F n Tryz.prog 123 #[.pointer (some ⟨Bs,0,none⟩)] encStr (fun ss=>ss=[]) 0 w:=by
 intro l J W hW hJ hJB hY h0
 have hBsW:=(hW.cell (p:=⟨Bs,0,none⟩) hB).trans hBs
 show CallsIn F n Tryz.prog 123 #[.func (.yield l) #[] #[],.pointer (some ⟨Bs,0,none⟩)] W _
 refine callsIn_of_wp Tryz.func123 rfl h53 ?_ hro
 simp only [Tryz.ntmps123,List.size_toArray,List.length_cons,List.length_nil,Nat.reduceAdd,Nat.reduceSub,Array.replicate_succ,Array.replicate_zero,List.push_toArray,List.append_toArray,List.nil_append,List.cons_append]
 gi_wp2
 gi_loopw [7] (fun i wr=>i = .int .i64 0∧J [] wr) (fun _ _=>0)
 case atStart=>exact ⟨rfl,h0⟩
 case round=>
  obtain ⟨rfl,hJs⟩:=hrel
  gi_wp2
  go_end0
  exact ⟨⟨_,rfl⟩,_,rfl,hJs⟩
set_option maxHeartbeats 1000000 in
theorem values_in (n : Nat) (a : Option Addr) (len cap : Nat) (w : World) :
    CallsIn Fence.wide n Tryz.prog 107 #[.slice a len cap] w fun e w'=>e = .returned (.func (.func 123) #[] #[.pointer (some ⟨w.heap.size,0,none⟩)])∧w'=w.alloc (.cells #[.slice a len cap] 80):=by
 refine callsIn_of_wp Tryz.func107 rfl trivial ?_ rfl
 simp only [Tryz.ntmps107,List.size_toArray,List.length_cons,List.length_nil,Nat.reduceAdd,Nat.reduceSub,Array.replicate_succ,Array.replicate_zero,List.push_toArray,List.append_toArray,List.nil_append,List.cons_append]
 gi_wp2
 go_ret
 exact ⟨rfl,rfl⟩
def StrsAt (W : World) (v : Value) (zs : List (List UInt8)) : Prop:=(zs=[]∧∃ a cap,v = .slice a 0 cap) ∨ ∃ b off cap,v = .slice (some ⟨b,off,none⟩) zs.length cap∧zs.length≤cap∧b < W.heap.size∧∀ j,j < zs.length→W.cell? ⟨b,off + j,none⟩=some (encStr (zs[j]?.getD []))
theorem StrsAt.slice {W : World} {v : Value} {zs : List (List UInt8)} (h : StrsAt W v zs) : ∃ a cap,v = .slice a zs.length cap:=by
 rcases h with ⟨rfl,a,cap,rfl⟩ | ⟨b,off,cap,rfl,_⟩
 ·exact ⟨a,cap,rfl⟩
 ·exact ⟨_,_,rfl⟩
theorem sorts_all (m : Nat) : AnyZ.SortsIn Tryz.prog Tryz.layS_ren Fence.wide m:=
 ⟨fun blk off cap ss W hH hblk hsz=>callsIn_wide.2 (AnyM.slices_Sort_string Tryz.layT blk off cap ss W hH hblk hsz),
  fun p cap W=>callsIn_wide.2 (AnyM.slices_Sort_string_none Tryz.layT p cap W)⟩
abbrev srt (zs : List (List UInt8)) : List (List UInt8):=zs.mergeSort fun x y=>decide (x≤y)
theorem sorted_in (zs : List (List UInt8)) (v : Value) (W : World) (hv : StrsAt W v zs) (hz : zs.length≤1048576) :
    CallsIn Fence.wide 9 Tryz.prog 106 #[.func (.func 123) #[] #[.pointer (some ⟨W.heap.size,0,none⟩)]] (W.alloc (.cells #[v] 80)) fun e w'=>∃ u,e = .returned u ∧
     w'.ownsRow W.heap.size 9 1 u (srt zs).length ((srt zs).map encStr)∧(u = .slice none 0 0 ↔ zs=[])∧Below W.heap.size W w':=by
 have hal : Below W.heap.size W (W.alloc (.cells #[v] 80)):=(Below.refl _ W).alloc (Nat.le_refl _) _
 have hcell : (W.alloc (.cells #[v] 80)).cell? ⟨W.heap.size,0,none⟩=some v:=(cell_of_box_a (World.alloc_heap_new W _)).1
 have hsz : W.heap.size < (W.alloc (.cells #[v] 80)).heap.size:=by simp
 have hg : SeqGivesB Fence.wide (9 - 1 - 1 - 1) Tryz.prog 123 #[.pointer (some ⟨W.heap.size,0,none⟩)] encStr (fun ss=>ss=zs) zs.length (W.alloc (.cells #[v] 80)):=by
  rcases hv with ⟨rfl,a,cap,rfl⟩ | ⟨b,off,cap,rfl,_,hb,hc⟩
  ·exact values0_gives Fence.wide _ trivial rfl (by omega) _ cap a _ hcell hsz
  ·exact values1_gives Fence.wide _ trivial rfl (by omega) _ b off cap zs _ (by omega) hcell hsz (by omega) fun j hj=>(hal.cell (p:=⟨b,off + j,none⟩) hb).trans (hc j hj)
 refine (sortedB_in Tryz.layS Fence.wide 9 trivial trivial trivial trivial rfl (by omega) (sorts_all _) (enters_of Tryz.func122 (by kernel_rfl) rfl) 123 #[.pointer (some ⟨W.heap.size,0,none⟩)] trivial (enters_of Tryz.func123 (by kernel_rfl) rfl)
  (fun ss=>ss=zs) zs.length (by unfold maxLen; omega) (by omega) _ (fun ss h=>by rw [h]; exact Nat.le_refl _) hg).mono ?_
 rintro e w' ⟨u,ss,rfl,rfl,hrow,hnil,hb⟩
 refine ⟨u,rfl,?_,hnil,hal.trans (hb.mono (by omega))⟩
 have hl : (srt ss).length=ss.length:=List.length_mergeSort ss
 rw [hl]
 exact ownsRow_base_a hrow (by omega)
theorem compact_in (n B : Nat) (ss : List (List UInt8)) (u : Value) (W : World) (hrow : W.ownsRow B 9 1 u ss.length (ss.map encStr)) (hz : ss.length≤1048576) :
    CallsIn Fence.wide n Tryz.prog 108 #[u] W fun e w'=>∃ a cap,e = .returned (.slice a (Lib.compact ss).length cap)∧Below B W w':=by
 refine callsIn_wide.2 ?_
 by_cases hu : u = .slice none 0 0
 ·subst hu
  have h0 : ss=[]:=by
   have:=hrow.1
   rcases hrow.2 with ⟨_,h⟩ | ⟨g,cap,cur,h,_⟩
   ·exact List.eq_nil_of_length_eq_zero h
   ·cases h
  subst h0
  refine (calls_of_every_depth fun D=>AnyS.slices_Compact_string_empty_in Tryz.layC D none 0 W).mono ?_
  rintro e w' ⟨rfl,rfl⟩
  exact ⟨none,0,rfl,Below.refl _ _⟩
 ·obtain ⟨g,cap,rfl,hbg,hgl,hncap,hcm,hlen,hH⟩:=Lib.holds_of_ownsRow hrow hu
  refine (calls_of_every_depth fun D=>AnyS.slices_Compact_string_in Tryz.layC D g 0 cap ss W hH (by omega) hncap).mono ?_
  rintro e w' ⟨rfl,q,rfl⟩
  exact ⟨_,_,rfl,Lib.below_putRow (Below.refl _ _) hbg⟩
theorem len_upTo {α : Type} [Inhabited α] [DecidableEq α] (d : Array α) : ∀ m,(Lib.compactUpTo d m).length≤m∧((Lib.compactUpTo d m).length=m→∀ j,j < m→Lib.keeps d j=true)
 | 0=>by simp [Lib.compactUpTo]
 | m + 1=>by
  obtain ⟨h1,h2⟩:=len_upTo d m
  rw [Lib.compactUpTo_succ]
  split
  ·rename_i hk
   refine ⟨by simp; omega,fun e j hj=>?_⟩
   rcases Nat.lt_or_ge j m with h | h
   ·exact h2 (by simp at e; omega) j h
   ·have : j=m:=by omega
    subst this; exact hk
  ·refine ⟨by simp; omega,fun e=>?_⟩
   simp at e; omega
theorem adj_nodup : ∀ (l : List (List UInt8)),l.Pairwise (fun a b=>decide (a≤b)=true)→(∀ i (h : i + 1 < l.length),l[i + 1] ≠ l[i])→l.Nodup
 | [],_,_=>List.nodup_nil
 | [x],_,_=>by simp
 | x :: y :: r,hp,ha=>by
  have hxy : y ≠ x:=ha 0 (by simp)
  have hp2:=(List.pairwise_cons.1 hp).2
  rw [List.nodup_cons]
  refine ⟨fun hm=>?_,adj_nodup (y :: r) hp2 fun i h=>ha (i + 1) (by simpa using h)⟩
  rcases List.mem_cons.1 hm with e | hm
  ·exact hxy e.symm
  ·have h1:=(List.pairwise_cons.1 hp2).1 x hm
   have h2:=(List.pairwise_cons.1 hp).1 y (by simp)
   simp only [decide_eq_true_eq] at h1 h2
   exact hxy (List.le_antisymm h1 h2)
theorem srt_pairwise (zs : List (List UInt8)) : (srt zs).Pairwise (fun a b=>decide (a≤b)=true):=
 List.pairwise_mergeSort (fun a b c h1 h2=>by simp only [decide_eq_true_eq] at *; exact List.le_trans h1 h2) (fun a b=>by simp only [Bool.or_eq_true,decide_eq_true_eq]; exact List.le_total a b) zs
theorem bang {α : Type} [Inhabited α] (l : List α) (j : Nat) (h : j < l.length) : l.toArray[j]! = l[j]:=by
 rw [getElem!_pos l.toArray j (by simpa using h)]; simp
theorem compact_len (zs : List (List UInt8)) : (Lib.compact (srt zs)).length=zs.length ↔ zs.Nodup:=by
 have hl : (srt zs).length=zs.length:=List.length_mergeSort zs
 have hpm : (srt zs).Perm zs:=List.mergeSort_perm _ _
 rw [← hpm.nodup_iff,← hl]
 constructor
 ·intro h
  refine adj_nodup _ (srt_pairwise zs) fun i hi=>?_
  have hk:=(len_upTo (srt zs).toArray (srt zs).length).2 h (i + 1) hi
  simp only [Lib.keeps,decide_eq_true_eq] at hk
  rcases hk with hk | hk
  ·omega
  ·rw [bang _ _ hi,Nat.add_sub_cancel,bang _ _ (by omega)] at hk
   exact hk
 ·intro h
  rw [Lib.compact_all]
  intro j hj
  simp only [Lib.keeps,decide_eq_true_eq]
  rcases Nat.eq_zero_or_pos j with h0 | h0
  ·exact .inl h0
  ·refine .inr ?_
   rw [bang _ _ hj,bang _ _ (by omega)]
   exact fun e=>by
    have:=(List.getElem_inj h).1 e
    omega
theorem compact_le (zs : List (List UInt8)) : (Lib.compact (srt zs)).length≤zs.length:=by
 have hl : (srt zs).length=zs.length:=List.length_mergeSort zs
 have:=Lib.compact_length_le (srt zs)
 omega
end Go.Proofs.YtdgdhckjfllfmaaGreatDoor
namespace Go.Proofs.YtdgdhckjfllfmaaGreatDoor
open Go.RowKit Go.Maps Go.Sort Go.Shelf Go.Avm
theorem cloneS_in (n B : Nat) (ss : List (List UInt8)) (u : Value) (W : World) (hrow : W.ownsRow B 9 1 u ss.length (ss.map encStr)) (hz : ss.length≤1048576) :
    CallsIn Fence.wide n Tryz.prog 109 #[u] W fun e w'=>∃ u',e = .returned u'∧w'.ownsRow W.heap.size 9 1 u' ss.length (ss.map encStr)∧Below W.heap.size W w':=by
 refine callsIn_wide.2 ?_
 by_cases hu : u = .slice none 0 0
 ·subst hu
  have h0 : ss=[]:=by
   rcases hrow.2 with ⟨_,h⟩ | ⟨g,cap,cur,h,_⟩
   ·exact List.eq_nil_of_length_eq_zero h
   ·cases h
  subst h0
  refine (AnyE.slices_Clone_nil Tryz.layCs 0 0 W).mono ?_
  rintro e w' ⟨rfl,rfl⟩
  exact ⟨_,rfl,⟨rfl,.inl ⟨rfl,rfl⟩⟩,Below.refl _ _⟩
 ·obtain ⟨g,cap,rfl,hbg,hgl,hncap,hcm,hlen,hH⟩:=Lib.holds_of_ownsRow hrow hu
  have hc : ∀ (j : Nat) (u : Value),(ss.map encStr)[j]? = some u→W.cell? ⟨g,0 + j,none⟩=some u:=fun j u hj=>by
   rcases hrow.2 with ⟨h,_⟩ | ⟨g',cap',cur,h,_,hg',h1,_,h3,h4⟩
   ·cases h
   ·cases h
    have hj' : cur[j]? = some u:=by
     rw [← h4,List.getElem?_take] at hj
     split at hj
     ·simpa using hj
     ·cases hj
    simp [World.cell?,hg',hj']
  obtain ⟨i0,hi,hz0,hz1,hz2⟩:=info_parts Tryz.layS.i26
  refine (AnyE.slices_Clone Tryz.layCs i0 (.string ⟨#[]⟩) 1 16 hi hz0 hz1 hz2 rfl (by decide) Tryz.sizeOf9 g 0 ss.length cap (ss.map encStr) W (by simp) (by unfold maxLen; omega) (by omega) hc (fun u hu=>by
   obtain ⟨x,_,rfl⟩:=List.mem_map.1 hu; rfl)).mono ?_
  rintro e w' ⟨v',rfl,ho,_,hb⟩
  exact ⟨v',rfl,ho,hb⟩
set_option maxRecDepth 100000 in
set_option maxHeartbeats 4000000 in
theorem twice_calls (ns : List (List UInt8)) (v : Value) (W : World) (hv : StrsAt W v ns) (hz : ns.length≤1048576) :
    Calls Tryz.prog 72 #[v] W fun e W'=>e = .returned (.bool (!decide ns.Nodup))∧Below W.heap.size W W':=by
 refine (callsIn_wide (n:=10)).1 ?_
 obtain ⟨ad,cap,hve⟩:=hv.slice
 have hS:=sorted_in _ v W hv (by simpa using hz)
 have hl : (srt ns).length=ns.length:=List.length_mergeSort ns
 subst hve
 have hK:=fun (u : Value) (w1 : World) (h : w1.ownsRow W.heap.size 9 1 u (srt ns).length ((srt ns).map encStr))=>cloneS_in 9 W.heap.size (srt ns) u w1 h (by omega)
 have hC:=fun (B : Nat) (u : Value) (w1 : World) (h : w1.ownsRow B 9 1 u (srt ns).length ((srt ns).map encStr))=>compact_in 9 B (srt ns) u w1 h (by omega)
 have hO : ∀ (u : Value) (w1 : World),w1.ownsRow W.heap.size 9 1 u (srt ns).length ((srt ns).map encStr)→∃ a c,u = .slice a ns.length c:=fun u w1 h=>by
  rcases h.2 with ⟨rfl,h0⟩ | ⟨g,cap',cur,rfl,_⟩
  ·exact ⟨none,0,by rw [← hl,h0]⟩
  ·exact ⟨_,_,by rw [hl]⟩
 have hcl:=compact_len ns
 have hle:=compact_le ns
 obtain ⟨q,hq⟩ : ∃ q,(Lib.compact (srt ns)).length=q:=⟨_,rfl⟩
 rw [hq] at hC hcl hle
 clear hv
 have hfa : Fence.wide.fn 107:=trivial
 have hfb : Fence.wide.fn 106:=trivial
 have hfc : Fence.wide.fn 108:=trivial
 have hfd : Fence.wide.fn 109:=trivial
 refine callsIn_of_wp Tryz.func72 rfl trivial ?_ rfl
 simp only [Tryz.ntmps72,List.size_toArray,List.length_cons,List.length_nil,Nat.reduceAdd,Nat.reduceSub,Array.replicate_succ,Array.replicate_zero,List.push_toArray,List.append_toArray,List.nil_append,List.cons_append]
 gi_wp2_with (first
  | (gi_at_call 107; refine (values_in 9 _ _ _ _).mono ?_; rintro e w' ⟨rfl,rfl⟩)
  | (gi_at_call 106; refine hS.mono ?_; rintro e w1 ⟨u,rfl,hrow,hnil,hb1⟩; obtain ⟨a1,c1,hu⟩:=hO _ _ hrow; rw [hu] at hrow; rw [hu])
  | (gi_at_call 109; refine (hK _ _ hrow).mono ?_; rintro e w2 ⟨u2,rfl,hrow2,hb2⟩)
  | (gi_at_call 108; refine (hC _ _ _ hrow2).mono ?_; rintro e w3 ⟨a3,cap3,rfl,hb3⟩))
 all_goals go_ret
 refine ⟨?_,hb1.trans ((hb2.trans hb3).mono hb1.size)⟩
 show Ending.returned (Value.bool (decide (q < ns.length)))=Ending.returned (Value.bool (!decide ns.Nodup))
 congr 2
 by_cases hn : ns.Nodup
 ·have:=hcl.2 hn
  simp [hn]; omega
 ·have : q ≠ ns.length:=fun e=>hn (hcl.1 e)
  simp [hn]; omega
end Go.Proofs.YtdgdhckjfllfmaaGreatDoor
