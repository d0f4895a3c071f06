/- What is not looked into keeps its word. -/
import Derived.Test.YtflbneepngjglaaGreatDoorE25
import Derived.Ground.GgzProg
import Derived.Ground.SlgmProg
import Derived.RangeFuncBox
import Derived.RangeFuncLeaves
import Derived.Shelf.Abstract
import Derived.WalkKit
import Derived.OwnWalkIn
import Derived.TacticsInMore
import Derived.LoopNIn
import Derived.LoopIn
import Derived.Ground.NamesProg
import Derived.Shelf.Slices.In.CompactS
import Derived.Lib.OwnBridge
import Derived.Lib.RowBridge
import Derived.Sort.EveryDepth
import Derived.Shelf.SlicesE.Clone
import Derived.Test.YtflbneepngjglaaGreatDoorE24
import Derived.Test.YtflbneepngjglaaGreatDoorE11
import Derived.Lib.Builder
import Derived.Laws.Externs
set_option linter.all false
namespace Go.Proofs.YtflbneepngjglaaGreatDoor
open Go.RowKit Go.Maps Go.Sort Go.Shelf
attribute [local go_sem] Oper.semAt_some
set_option maxRecDepth 100000 in
set_option maxHeartbeats 2000000 in
theorem Qjw (F:Fence)(n:Nat)(h53:F.fn 266)(hro:F.round=none)(hn:1<=n)(Bs b off cap:Nat)(zs:List (List UInt8))(w:World)(hreach:zs.length*16<=140737488351232)(hBs:w.cell? ⟨Bs,0,none⟩=some (.slice (some ⟨b,off,none⟩) zs.length cap))(hB:Bs<w.heap.size)(hb:b<w.heap.size)
    (hc: ∀j,j<zs.length->w.cell? ⟨b,off+j,none⟩=some (encStr (zs[j]?.getD []))):YY F n Tryz.prog 266 #[.pointer (some ⟨Bs,0,none⟩)] encStr (fun ss=>ss=zs) zs.length w:=by
 intro l J W hW hJ hJB hY h0;have hBsW:=(hW.cell (p:=⟨Bs,0,none⟩) hB).trans hBs;show CallsIn F n Tryz.prog 266 #[.func (.yield l) #[] #[],.pointer (some ⟨Bs,0,none⟩)] W _;refine callsIn_of_wp Tryz.func266 rfl h53 ?_ hro
 simp only[Tryz.ntmps266,List.size_toArray,List.length_cons,List.length_nil,Nat.reduceAdd,Nat.reduceSub,Array.replicate_succ,Array.replicate_zero,List.push_toArray,List.append_toArray,List.nil_append,List.cons_append]
 gi_wp2
 gi_loopw [7] (fun i wr=>∃k:Nat,k<=zs.length/\i= .int .i64 k/\J (zs.take k) wr)
  (fun i _=>zs.length-(intOf i).toNat)
 case atStart=>exact⟨0,Nat.zero_le _,rfl,by simpa using h0⟩
 case round=>
  obtain⟨k,hk,rfl,hJs⟩:=hrel;have hbe:=hJB _ _ hJs;have hcx:k<zs.length->wr.cell? ⟨b,off+k,none⟩=some (encStr (zs[k]?.getD [])):=fun h=>(hbe.cell (p:=⟨b,off+k,none⟩) hb).trans (hc k h)
  by_cases hlt:k<zs.length
  ·have hcx':=hcx hlt
   have hnext: ∀x,zs[k]?.getD []=x->zs.take (k+1)=zs.take k++ [x]:=fun x hx=>by
    have hx':zs[k]=x:=by simpa[hlt]using hx
    rw[List.take_succ_eq_append_getElem hlt,hx']
   clear hcx;obtain⟨x,hx⟩: ∃x,zs[k]?.getD []=x:=⟨_,rfl⟩;rw[hx]at hcx';have hnext:=hnext x hx;clear hx;obtain⟨fn,tmps,assign,body,hy,hR⟩:=hY _ x wr hJs (by simp; omega)
   gi_wp2
   refine hR.mono ?_
   rintro e W3 ⟨rfl,hJ3,hk3⟩
   gi_wp2
   go_roundw
   case rel=>exact⟨k+1,by omega,by simp,by rw[hnext]; exact hJ3⟩
   case measure=>simp[intOf]; omega
  ·obtain rfl:k=zs.length:=by omega
   gi_wp2
   go_end0
   exact⟨⟨_,rfl⟩,_,rfl,by simpa using hJs⟩
set_option maxRecDepth 100000 in
set_option maxHeartbeats 2000000 in
theorem Qjx (F:Fence)(n:Nat)(h53:F.fn 266)(hro:F.round=none)(hn:1<=n)(Bs cap:Nat)(a:Option Addr)(w:World)(hBs:w.cell? ⟨Bs,0,none⟩=some (.slice a 0 cap))(hB:Bs<w.heap.size):YY F n Tryz.prog 266 #[.pointer (some ⟨Bs,0,none⟩)] encStr (fun ss=>ss=[]) 0 w:=by
 intro l J W hW hJ hJB hY h0;have hBsW:=(hW.cell (p:=⟨Bs,0,none⟩) hB).trans hBs;show CallsIn F n Tryz.prog 266 #[.func (.yield l) #[] #[],.pointer (some ⟨Bs,0,none⟩)] W _;refine callsIn_of_wp Tryz.func266 rfl h53 ?_ hro
 simp only[Tryz.ntmps266,List.size_toArray,List.length_cons,List.length_nil,Nat.reduceAdd,Nat.reduceSub,Array.replicate_succ,Array.replicate_zero,List.push_toArray,List.append_toArray,List.nil_append,List.cons_append]
 gi_wp2
 gi_loopw [7] (fun i wr=>i= .int .i64 0/\J [] wr) (fun _ _=>0)
 case atStart=>exact⟨rfl,h0⟩
 case round=>
  obtain⟨rfl,hJs⟩:=hrel
  gi_wp2
  go_end0
  exact⟨⟨_,rfl⟩,_,rfl,hJs⟩
set_option maxHeartbeats 1000000 in
theorem QrT (n:Nat)(a:Option Addr)(len cap:Nat)(w:World):
    CallsIn Fence.wide n Tryz.prog 228 #[.slice a len cap] w fun e w'=>e= .returned (.func (.func 266) #[] #[.pointer (some ⟨w.heap.size,0,none⟩)])/\w'=w.alloc (.cells #[.slice a len cap] 81):=by
 refine callsIn_of_wp Tryz.func228 rfl trivial ?_ rfl
 simp only[Tryz.ntmps228,List.size_toArray,List.length_cons,List.length_nil,Nat.reduceAdd,Nat.reduceSub,Array.replicate_succ,Array.replicate_zero,List.push_toArray,List.append_toArray,List.nil_append,List.cons_append]
 gi_wp2
 go_ret
 exact⟨rfl,rfl⟩
def Qjr (W:World)(v:Value)(zs:List (List UInt8)):Prop:=(zs=[]/\ ∃a cap,v= .slice a 0 cap)\/ ∃b off cap,v= .slice (some ⟨b,off,none⟩) zs.length cap/\zs.length<=cap/\b<W.heap.size/\ ∀j,j<zs.length->W.cell? ⟨b,off+j,none⟩=some (encStr (zs[j]?.getD []))
theorem Qjr.slice{W:World}{v:Value}{zs:List (List UInt8)}(h:Qjr W v zs): ∃a cap,v= .slice a zs.length cap:=by
 rcases h with⟨rfl,a,cap,rfl⟩ | ⟨b,off,cap,rfl,_⟩
 ·exact⟨a,cap,rfl⟩
 ·exact⟨_,_,rfl⟩
theorem Qsa (m:Nat):AnyZ.SortsIn Tryz.prog Tryz.QnP Fence.wide m:=
 ⟨fun blk off cap ss W hH hblk hsz=>callsIn_wide.2 (AnyM.slices_Sort_string Tryz.QCC blk off cap ss W hH hblk hsz),
  fun p cap W=>callsIn_wide.2 (AnyM.slices_Sort_string_none Tryz.QCC p cap W)⟩
abbrev srt (zs:List (List UInt8)):List (List UInt8):=zs.mergeSort fun x y=>decide (x<=y)
theorem sorted_in (zs:List (List UInt8))(v:Value)(W:World)(hv:Qjr W v zs)(hz:zs.length<=67108864):
    CallsIn Fence.wide 9 Tryz.prog 227 #[.func (.func 266) #[] #[.pointer (some ⟨W.heap.size,0,none⟩)]] (W.alloc (.cells #[v] 81)) fun e w'=>∃u,e= .returned u/\
     w'.ownsRow W.heap.size 9 1 u (srt zs).length ((srt zs).map encStr)/\(u= .slice none 0 0↔zs=[])/\Below W.heap.size W w':=by
 have hal:Below W.heap.size W (W.alloc (.cells #[v] 81)):=(Below.refl _ W).alloc (Nat.le_refl _) _;have hcell:(W.alloc (.cells #[v] 81)).cell? ⟨W.heap.size,0,none⟩=some v:=(cell_of_box_a (World.alloc_heap_new W _)).1;have hsz:W.heap.size<(W.alloc (.cells #[v] 81)).heap.size:=by simp
 have hg:YY Fence.wide (9-1-1-1) Tryz.prog 266 #[.pointer (some ⟨W.heap.size,0,none⟩)] encStr (fun ss=>ss=zs) zs.length (W.alloc (.cells #[v] 81)):=by
  rcases hv with⟨rfl,a,cap,rfl⟩ | ⟨b,off,cap,rfl,_,hb,hc⟩
  ·exact Qjx Fence.wide _ trivial rfl (by omega) _ cap a _ hcell hsz
  ·exact Qjw Fence.wide _ trivial rfl (by omega) _ b off cap zs _ (by omega) hcell hsz (by omega) fun j hj=>(hal.cell (p:=⟨b,off+j,none⟩) hb).trans (hc j hj)
 refine(Qpt Tryz.QCD Fence.wide 9 trivial trivial trivial trivial rfl (by omega) (Qsa _) (enters_of Tryz.func265 (by kernel_rfl) rfl) 266 #[.pointer (some ⟨W.heap.size,0,none⟩)] trivial (enters_of Tryz.func266 (by kernel_rfl) rfl)
  (fun ss=>ss=zs) zs.length (by unfold maxLen; omega) (by omega) _ (fun ss h=>by rw[h]; exact Nat.le_refl _) hg).mono ?_
 rintro e w' ⟨u,ss,rfl,rfl,hrow,hnil,hb⟩
 refine⟨u,rfl,?_,hnil,hal.trans (hb.mono (by omega))⟩
 have hl:(srt ss).length=ss.length:=List.length_mergeSort ss;rw[hl];exact ownsRow_base_a hrow (by omega)
theorem Qqz (n B:Nat)(ss:List (List UInt8))(u:Value)(W:World)(hrow:W.ownsRow B 9 1 u ss.length (ss.map encStr))(hz:ss.length<=67108864):
    CallsIn Fence.wide n Tryz.prog 229 #[u] W fun e w'=>∃a cap,e= .returned (.slice a (Lib.compact ss).length cap)/\Below B W w':=by
 refine callsIn_wide.2 ?_
 by_cases hu:u= .slice none 0 0
 ·subst hu
  have h0:ss=[]:=by
   have:=hrow.1;rcases hrow.2 with⟨_,h⟩ | ⟨g,cap,cur,h,_⟩
   ·exact List.eq_nil_of_length_eq_zero h
   ·cases h
  subst h0;refine(calls_of_every_depth fun D=>AnyS.slices_Compact_string_empty_in Tryz.QCH D none 0 W).mono ?_
  rintro e w' ⟨rfl,rfl⟩
  exact⟨none,0,rfl,Below.refl _ _⟩
 ·obtain⟨g,cap,rfl,hbg,hgl,hncap,hcm,hlen,hH⟩:=Lib.holds_of_ownsRow hrow hu;refine(calls_of_every_depth fun D=>AnyS.slices_Compact_string_in Tryz.QCH D g 0 cap ss W hH (by omega) hncap).mono ?_
  rintro e w' ⟨rfl,q,rfl⟩
  exact⟨_,_,rfl,Lib.below_putRow (Below.refl _ _) hbg⟩
theorem QnN {α:Type} [Inhabited α] [DecidableEq α](d:Array α): ∀m,(Lib.compactUpTo d m).length<=m/\((Lib.compactUpTo d m).length=m-> ∀j,j<m->Lib.keeps d j=true)
 | 0=>by simp[Lib.compactUpTo]
 | m+1=>by
  obtain⟨h1,h2⟩:=QnN d m;rw[Lib.compactUpTo_succ];split
  ·rename_i hk;refine⟨by simp; omega,fun e j hj=>?_⟩
   rcases Nat.lt_or_ge j m with h | h
   ·exact h2 (by simp at e; omega) j h
   ·have:j=m:=by omega
    subst this; exact hk
  ·refine⟨by simp; omega,fun e=>?_⟩
   simp at e; omega
theorem Qlq : ∀(l:List (List UInt8)),l.Pairwise (fun a b=>decide (a<=b)=true)->(∀i (h:i+1<l.length),l[i+1]≠l[i])->l.Nodup
 | [],_,_=>List.nodup_nil
 | [x],_,_=>by simp
 | x::y::r,hp,ha=>by
  have hxy:y≠x:=ha 0 (by simp)
  have hp2:=(List.pairwise_cons.1 hp).2;rw[List.nodup_cons];refine⟨fun hm=>?_,Qlq (y::r) hp2 fun i h=>ha (i+1) (by simpa using h)⟩
  rcases List.mem_cons.1 hm with e | hm
  ·exact hxy e.symm
  ·have h1:=(List.pairwise_cons.1 hp2).1 x hm;have h2:=(List.pairwise_cons.1 hp).1 y (by simp)
   simp only[decide_eq_true_eq]at h1 h2;exact hxy (List.le_antisymm h1 h2)
theorem Qlx (zs:List (List UInt8)):(srt zs).Pairwise (fun a b=>decide (a<=b)=true):=
 List.pairwise_mergeSort (fun a b c h1 h2=>by simp only[decide_eq_true_eq]at*; exact List.le_trans h1 h2) (fun a b=>by simp only[Bool.or_eq_true,decide_eq_true_eq]; exact List.le_total a b) zs
theorem QyJ {α:Type} [Inhabited α](l:List α)(j:Nat)(h:j<l.length):l.toArray[j]! =l[j]:=by
 rw[getElem!_pos l.toArray j (by simpa using h)]; simp
theorem Qoz (zs:List (List UInt8)):(Lib.compact (srt zs)).length=zs.length↔zs.Nodup:=by
 have hl:(srt zs).length=zs.length:=List.length_mergeSort zs;have hpm:(srt zs).Perm zs:=List.mergeSort_perm _ _;rw[←hpm.nodup_iff,←hl];constructor
 ·intro h;refine Qlq _ (Qlx zs) fun i hi=>?_
  have hk:=(QnN (srt zs).toArray (srt zs).length).2 h (i+1) hi;simp only[Lib.keeps,decide_eq_true_eq]at hk;rcases hk with hk | hk
  ·omega
  ·rw[QyJ _ _ hi,Nat.add_sub_cancel,QyJ _ _ (by omega)]at hk
   exact hk
 ·intro h;rw[Lib.compact_all];intro j hj;simp only[Lib.keeps,decide_eq_true_eq];rcases Nat.eq_zero_or_pos j with h0 | h0
  ·exact .inl h0
  ·refine .inr ?_
   rw[QyJ _ _ hj,QyJ _ _ (by omega)]
   exact fun e=>by
    have:=(List.getElem_inj h).1 e;omega
theorem Qqy (zs:List (List UInt8)):(Lib.compact (srt zs)).length<=zs.length:=by
 have hl:(srt zs).length=zs.length:=List.length_mergeSort zs;have:=Lib.compact_length_le (srt zs);omega
end Go.Proofs.YtflbneepngjglaaGreatDoor
namespace Go.Proofs.YtflbneepngjglaaGreatDoor
open Go.RowKit Go.Maps Go.Sort Go.Shelf Go.Avm
theorem QtG (n B:Nat)(ss:List (List UInt8))(u:Value)(W:World)(hrow:W.ownsRow B 9 1 u ss.length (ss.map encStr))(hz:ss.length<=67108864):
    CallsIn Fence.wide n Tryz.prog 230 #[u] W fun e w'=>∃u',e= .returned u'/\w'.ownsRow W.heap.size 9 1 u' ss.length (ss.map encStr)/\Below W.heap.size W w':=by
 refine callsIn_wide.2 ?_
 by_cases hu:u= .slice none 0 0
 ·subst hu
  have h0:ss=[]:=by
   rcases hrow.2 with⟨_,h⟩ | ⟨g,cap,cur,h,_⟩
   ·exact List.eq_nil_of_length_eq_zero h
   ·cases h
  subst h0;refine(AnyE.slices_Clone_nil Tryz.Qzb 0 0 W).mono ?_
  rintro e w' ⟨rfl,rfl⟩
  exact⟨_,rfl,⟨rfl,.inl ⟨rfl,rfl⟩⟩,Below.refl _ _⟩
 ·obtain⟨g,cap,rfl,hbg,hgl,hncap,hcm,hlen,hH⟩:=Lib.holds_of_ownsRow hrow hu
  have hc: ∀(j:Nat) (u:Value),(ss.map encStr)[j]? =some u->W.cell? ⟨g,0+j,none⟩=some u:=fun j u hj=>by
   rcases hrow.2 with⟨h,_⟩ | ⟨g',cap',cur,h,_,hg',h1,_,h3,h4⟩
   ·cases h
   ·cases h
    have hj':cur[j]? =some u:=by
     rw[←h4,List.getElem?_take]at hj
     split at hj
     ·simpa using hj
     ·cases hj
    simp[World.cell?,hg',hj']
  obtain⟨i0,hi,hz0,hz1,hz2⟩:=info_parts Tryz.QCD.i26
  refine(AnyE.slices_Clone Tryz.Qzb i0 (.string ⟨#[]⟩) 1 16 hi hz0 hz1 hz2 rfl (by decide) Tryz.sizeOf9 g 0 ss.length cap (ss.map encStr) W (by simp) (by unfold maxLen; omega) (by omega) hc (fun u hu=>by
   obtain⟨x,_,rfl⟩:=List.mem_map.1 hu; rfl)).mono ?_
  rintro e w' ⟨v',rfl,ho,_,hb⟩
  exact⟨v',rfl,ho,hb⟩
set_option maxRecDepth 100000 in
set_option maxHeartbeats 4000000 in
theorem Qnd (ns:List (List UInt8))(v:Value)(W:World)(hv:Qjr W v ns)(hz:ns.length<=67108864):
    Calls Tryz.prog 148 #[v] W fun e W'=>e= .returned (.bool (!decide ns.Nodup))/\Below W.heap.size W W':=by
 refine(callsIn_wide (n:=10)).1 ?_
 obtain⟨ad,cap,hve⟩:=hv.slice;have hS:=sorted_in _ v W hv (by simpa using hz)
 have hl:(srt ns).length=ns.length:=List.length_mergeSort ns;subst hve;have hK:=fun(u:Value) (w1:World) (h:w1.ownsRow W.heap.size 9 1 u (srt ns).length ((srt ns).map encStr))=>QtG 9 W.heap.size (srt ns) u w1 h (by omega)
 have hC:=fun(B:Nat) (u:Value) (w1:World) (h:w1.ownsRow B 9 1 u (srt ns).length ((srt ns).map encStr))=>Qqz 9 B (srt ns) u w1 h (by omega)
 have hO: ∀(u:Value) (w1:World),w1.ownsRow W.heap.size 9 1 u (srt ns).length ((srt ns).map encStr)-> ∃a c,u= .slice a ns.length c:=fun u w1 h=>by
  rcases h.2 with⟨rfl,h0⟩ | ⟨g,cap',cur,rfl,_⟩
  ·exact⟨none,0,by rw[←hl,h0]⟩
  ·exact⟨_,_,by rw[hl]⟩
 have hcl:=Qoz ns;have hle:=Qqy ns;obtain⟨q,hq⟩: ∃q,(Lib.compact (srt ns)).length=q:=⟨_,rfl⟩;rw[hq]at hC hcl hle;clear hv;have hfa:Fence.wide.fn 228:=trivial;have hfb:Fence.wide.fn 227:=trivial;have hfc:Fence.wide.fn 229:=trivial;have hfd:Fence.wide.fn 230:=trivial;refine callsIn_of_wp Tryz.func148 rfl trivial ?_ rfl
 simp only[Tryz.ntmps148,List.size_toArray,List.length_cons,List.length_nil,Nat.reduceAdd,Nat.reduceSub,Array.replicate_succ,Array.replicate_zero,List.push_toArray,List.append_toArray,List.nil_append,List.cons_append]
 gi_wp2_with (first
  | (gi_at_call 228; refine(QrT 9 _ _ _ _).mono ?_; rintro e w' ⟨rfl,rfl⟩)
  | (gi_at_call 227; refine hS.mono ?_; rintro e w1 ⟨u,rfl,hrow,hnil,hb1⟩; obtain⟨a1,c1,hu⟩:=hO _ _ hrow; rw[hu]at hrow; rw[hu])
  | (gi_at_call 230; refine(hK _ _ hrow).mono ?_; rintro e w2 ⟨u2,rfl,hrow2,hb2⟩)
  | (gi_at_call 229; refine(hC _ _ _ hrow2).mono ?_; rintro e w3 ⟨a3,cap3,rfl,hb3⟩))
 all_goals go_ret
 refine⟨?_,hb1.trans ((hb2.trans hb3).mono hb1.size)⟩
 show Ending.returned (Value.bool (decide (q<ns.length)))=Ending.returned (Value.bool (!decide ns.Nodup))
 congr 2
 by_cases hn:ns.Nodup
 ·have:=hcl.2 hn;simp[hn]; omega
 ·have:q≠ns.length:=fun e=>hn (hcl.1 e)
  simp[hn]; omega
end Go.Proofs.YtflbneepngjglaaGreatDoor
namespace Go.Proofs
open Go.Shelf Go.RowKit Go.Lib
variable {P : Program} {ρ : Ren}
theorem QwD {P:Program}{t:TypeId}{q r:Option Addr}{len cap c sz:Nat}{i:TypeInfo}{e:TypeId}(ht:P.underlying t=some (.slice e))(hi:P.info? e=some i)(hsz:i.size=sz)(hc:len<=cap)(ty:TypeId)(w:World):
    (Builtin.append_ #[t,t] ty #[.slice q len cap,.slice r 0 c]).run P w= .ok (.slice q len cap) w:=by
 have hs:(sizeOf e).run P w= .ok sz w:=by simp[sizeOf,typeInfo,hi,hsz]
 cases q<;>cases r<;>simp[Builtin.append_,run_underlying ht,hs,Builtin.lenOf,hc,Builtin.firstCells,loadCells,loadCellsFrom,storeCells]
set_option maxHeartbeats 2000000 in
set_option maxRecDepth 100000 in
theorem QqB (L:SlLaysE0.n41 P ρ)(i0:TypeInfo)(size:Nat)(hi:P.info? (ρ.t 23)=some i0)(hz1:i0.size=size)(z23: ∀w,(Go.sizeOf (ρ.t 23)).run P w= .ok size w)(q:Addr)(c:Nat)(w:World):
    Calls P (ρ.f 41) #[.slice (some q) 0 c] w fun e w'=>∃v',e= .returned v'/\w'.ownsRow w.heap.size (ρ.t 23) size v' 0 []/\Below w.heap.size w w':=by
 have mixed:=L.mixed; have t4:=L.t4; have a4:=L.a4; have z4:=L.z4; have v4:=L.v4; have t22:=L.t22; have a22:=L.a22; have z22:=L.z22; have v22:=L.v22;have q22: ∀(w:World) (a:Option Addr) (n c n' c':Nat),(binOp .eql (ρ.t 22) (.slice a n c) (.slice none n' c')).run P w= .ok (.bool a.isNone) w:=fun w a n c n' c'=>Lib.run_eql_slice_nil w _ _ a n c n' c' L.t22
 have u22: ∀w,Sem.run P (underlying (ρ.t 22)) w= .ok (TypeDesc.slice (ρ.t 23)) w:=run_underlying t22;have happ:=fun(g:Nat) (ty:TypeId) (w:World)=>QwD (P:=P) (q:=some ⟨g,0,none⟩) (r:=some q) (len:=0) (cap:=0) (c:=c) t22 hi hz1 (Nat.le_refl 0) ty w
 obtain⟨_,_,FG⟩:=L.f41
 go_enter FG,SlBodyN.n41_ntmps ρ
 go_wp2
 go_ret
 refine⟨_,rfl,⟨by simp,.inr ⟨w.heap.size,0,#[],rfl,Nat.le_refl _,Avm.Qam w _,Nat.le_refl _,Nat.zero_le _,by simp,by simp⟩⟩,(Below.refl _ w).alloc (Nat.le_refl _) _⟩
theorem QiK (L:SlLaysE0.n41 P ρ)(i0:TypeInfo)(z:Value)(size bytes lim:Nat)(hi:P.info? (ρ.t 23)=some i0)(hz0:i0.zero=some z)(hz1:i0.size=size)(hz2:i0.bytes=bytes)(hzs:z.cells.size=size)(hsz:0<size)
    (z23: ∀w,(Go.sizeOf (ρ.t 23)).run P w= .ok size w) (hlim:lim*bytes<=140737488355328) (hl:lim<=maxLen) (hen: ∀vs w,(callFunc (ρ.f 41) vs).run P w= .ok (.enter (ρ.f 41) vs) w) (w0:World):Avm.QeI P w0 (ρ.f 41) (Avm.Ju size lim):=
 Avm.QtF hsz hlim hl (fun b off n c news w h1 h2 h3 h4 h5=>AnyE.slices_Clone L i0 z size bytes hi hz0 hz1 hz2 hzs hsz z23 b off n c news w h1 h2 h3 h4 h5)
  (fun a c w=>by
   cases a with
   | none=>
    refine(AnyE.slices_Clone_nil L 0 c w).mono ?_
    rintro e w' ⟨rfl,rfl⟩
    exact⟨_,rfl,⟨by simp,.inl ⟨rfl,rfl⟩⟩,Below.refl _ _⟩
   | some q=>exact QqB L i0 size hi hz1 z23 q c w) hen
end Go.Proofs
namespace Go.Proofs.YtflbneepngjglaaGreatDoor
open Go Go.Avm Go.RowKit
theorem QjV : ∀{els:List AV} {l:List ByteArray},strs els=some l->els=l.map .str
 | [],l,h=>by cases h; rfl
 | x::r,l,h=>by
  cases x with
  | str s=>
   simp only[strs]at h;cases hr:strs r with
   | none=>rw[hr]at h; cases h
   | some q=>rw[hr]at h; cases h; rw[QjV hr]; rfl
  | _=>simp[strs]at h
theorem Qet : ∀(l:List ByteArray),distinct l=true↔(l.map (·.data.toList)).Nodup
 | []=>by simp[distinct]
 | x::l=>by
  simp only[distinct,Bool.and_eq_true,List.all_eq_true,Bool.not_eq_true',beq_eq_false_iff_ne,List.map_cons,List.nodup_cons,Qet l,List.mem_map,not_exists,not_and,ByteArray.toList_eq];exact⟨fun h=>⟨fun y hy e=>h.1 y hy e.symm,h.2⟩,fun h=>⟨fun y hy e=>h.1 y hy e.symm,h.2⟩⟩
theorem QrV {w0 w:World}{wr:Nat}{β:Beta}{h:Avm.H}{x:AV}{v:Value}{l:List ByteArray}(S:Sim w0 wr β h w)(he:Zw h x=some (l.map .str))(hr:Rel (view wr β h w) β x v):Qjr w v (l.map (·.data.toList)):=by
 obtain⟨a,cap,rfl,hcap,hq⟩:=QcA S he hr;by_cases hl:l=[]
 ·subst hl; exact .inl ⟨rfl,a,cap,rfl⟩
 ·rcases hq with hq | ⟨c,o,sz,rfl,hbe⟩
  ·exact absurd (by simpa using hq) hl
  ·have hg: ∀j s,l[j]? =some s->w.cell? ⟨c,o+j,none⟩=some (.string s):=fun j s hj=>by
     obtain⟨h1,h2⟩:=hbe j (.str s) (by rw[List.getElem?_map,hj]; rfl)
     have hsz:sz=1:=h1.symm;subst hsz;obtain⟨u,h3,h4⟩:=h2 0 (.str s) rfl;unfold Rel at h4;subst h4;unfold rdw at h3;simpa using h3
   refine .inr ⟨c,o,cap,by simp,by simpa using hcap,?_,fun j hj=>?_⟩
   ·have hp:0<l.length:=List.length_pos_iff.2 hl;exact Qmy (hg 0 _ (List.getElem?_eq_getElem hp))
   ·have hj':j<l.length:=by simpa using hj
    rw[hg j _ (List.getElem?_eq_getElem hj')]
    simp[Go.Proofs.encStr,hj']
theorem QrU (w0:World):QeI Tryz.prog w0 148 QhC:=by
 refine⟨fun args h r h' ev=>?_,fun args h r h' wr β w vs ev hwr S hr=>?_⟩
 ·unfold QhC at ev;split at ev
  ·split at ev
   ·split at ev
    ·split at ev
     ·cases ev; exact⟨[],by simp,Yf⟩
     ·cases ev
    ·cases ev
   ·cases ev
  ·cases ev
 ·unfold QhC at ev;split at ev
  ·split at ev
   ·rename_i els hels;split at ev
    ·rename_i l hl;split at ev
     ·rename_i hlen;cases ev;rw[QjV hl]at hels;unfold Qs at hr;obtain⟨v,r1,e1,hv,hr⟩:=hr;unfold Qs at hr;subst hr;obtain rfl:vs= #[v]:=by cases vs; simp_all
      refine .inl ⟨YL Tryz.func148 (by decide+kernel) rfl _ w,(Qnd _ v w (QrV S hels hv) (by simpa using hlen)).mono ?_⟩
      rintro e w' ⟨rfl,hb⟩
      obtain⟨S',E⟩:=QdU S hb.os hb.tape hb.output hb.size hb.block;refine⟨_,rfl,β,S',E,?_⟩
      unfold Rel
      congr 1
      have:=Qet l;cases hd:distinct l<;>simp_all
     ·cases ev
    ·cases ev
   ·cases ev
  ·cases ev
theorem Qms {w0:World}{m:Int}(hm:w0.cell? ⟨Tryz.Qcu.g 1,0,none⟩=some (.int .i64 m)):QeI Tryz.prog w0 166 QV:=by
 refine⟨fun args h r h' ev=>?_,fun args h r h' wr β w vs ev hwr S hr=>?_⟩
 ·unfold QV at ev;split at ev
  ·split at ev
   ·cases ev; exact⟨[],by simp,Yf⟩
   ·cases ev
  ·cases ev
 ·unfold QV at ev;split at ev
  ·rename_i s t;split at ev
   ·rename_i hs;cases ev;unfold Qs at hr;obtain⟨v,r1,e1,hv,hr⟩:=hr;unfold Qs at hr;obtain⟨v2,r2,rfl,hv2,hr⟩:=hr;unfold Qs at hr;subst hr;unfold Rel at hv hv2;subst hv hv2;obtain rfl:vs= #[.string s,.string t]:=by cases vs; simp_all
    have hmw:w.cell? ⟨Tryz.Qcu.g 1,0,none⟩=some (.int .i64 m):=(S.below.cell (Qmy hm)).trans hm;refine .inl ⟨YL Tryz.func166 (by decide+kernel) rfl _ w,(Any.strings_Contains { Tryz.Qzc with} s t m w hs hmw).mono ?_⟩
    rintro e w' ⟨rfl,rfl⟩
    exact⟨_,rfl,β,S,Ext.refl _ _ _ _,by unfold Rel; rfl⟩
   ·cases ev
  ·cases ev
theorem QqC (w0:World):QeI Tryz.prog w0 71 (Ju 4 lim):=
 QiK Tryz.QCE Tryz.t31 _ 4 56 lim (by kernel_rfl) rfl rfl rfl rfl (by decide) Tryz.sizeOf31 (by unfold lim; omega) (by unfold lim maxLen; omega) (enters_of Tryz.func71 (by kernel_rfl) rfl) w0
theorem QqD (w0:World):QeI Tryz.prog w0 97 (Ju 8 lim):=
 QiK Tryz.QCF Tryz.t28 _ 8 96 lim (by kernel_rfl) rfl rfl rfl rfl (by decide) Tryz.sizeOf28 (by unfold lim; omega) (by unfold lim maxLen; omega) (enters_of Tryz.func97 (by kernel_rfl) rfl) w0
theorem QqE (w0:World):QeI Tryz.prog w0 98 (Ju 12 lim):=
 QiK Tryz.QCG Tryz.t46 _ 12 144 lim (by kernel_rfl) rfl rfl rfl rfl (by decide) Tryz.sizeOf46 (by unfold lim; omega) (by unfold lim maxLen; omega) (enters_of Tryz.func98 (by kernel_rfl) rfl) w0
theorem QuA (w0:World):QeI Tryz.prog w0 249 Qra:=by
 refine⟨fun args h r h' ev=>?_,fun args h r h' wr β w vs ev hwr S hr=>?_⟩
 ·unfold Qra at ev;split at ev
  ·cases ev; exact⟨[],by simp,Yf⟩
  ·cases ev
 ·unfold Qra at ev;split at ev
  ·cases ev;unfold Qs at hr;obtain⟨v,r1,e1,hv,hr⟩:=hr;unfold Qs at hr;subst hr;obtain rfl:vs= #[v]:=by cases vs; simp_all
   refine .inr ⟨v,w,?_,β,S,Ext.refl _ _ _ _,hv⟩
   rw[run_callFunc_extern Tryz.func249 (by kernel_rfl) (by kernel_rfl) (by kernel_rfl) (e:=Extern.AbiNoEscape.same) (by kernel_rfl),Lib.run_noEscape]
   rfl
  ·cases ev
theorem QCP {f:FuncId}{F:F}(hF:QvR fnl f=some F):FOk Tryz.prog (QbT Tryz.prog pf) f F:=by
 have h:=List.all_eq_true.1 checked (f,F) (Qoc hF);exact QAg h
theorem QAu {w0:World}{m:Int}(hm:w0.cell? ⟨Tryz.Qcu.g 1,0,none⟩=some (.int .i64 m)):QrN Tryz.prog w0 (QbT Tryz.prog pf) cfg where
 fn:=fun f F _ hF=>QCP hF
 ext:=fun f x hx=>by
  simp only[cfg,Qze]at hx;split at hx
  ·rename_i hf; cases hx; subst hf; exact QrU w0
  ·split at hx
   ·rename_i hf; cases hx; subst hf; exact Qms hm
   ·split at hx
    ·rename_i hf; cases hx; subst hf; exact QqC w0
    ·split at hx
     ·rename_i hf; cases hx; subst hf; exact QqD w0
     ·split at hx
      ·rename_i hf; cases hx; subst hf; exact QqE w0
      ·split at hx
       ·rename_i hf; cases hx; subst hf; exact QuA w0
       ·cases hx
 draw:=Qyr follows fun g hg=>by
  unfold pf at hg;split at hg
  ·rename_i h; exact .inl h
  ·rename_i b h; exact .inr ⟨b,h⟩
  ·cases hg
end Go.Proofs.YtflbneepngjglaaGreatDoor
