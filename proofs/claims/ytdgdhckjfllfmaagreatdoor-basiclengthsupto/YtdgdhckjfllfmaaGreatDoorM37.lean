/- (basic.writer).contents keeps its word at the chapter's examples. -/
import Derived.Test.YtdgdhckjfllfmaaGreatDoorM36
import Derived.LoopIn
import Derived.Deep.RegionHeld3
import Derived.Deep.AppendLies
set_option linter.all false
namespace Go.Proofs.YtdgdhckjfllfmaaGreatDoor
open Go Go.Avm Go.RowKit Go.Maps Go.Sort Go.Shelf
theorem fresh_at {b : Nat} {w : World} (hz : w.heap[b]? = some (.cells #[.pointer none,.slice none 0 0] 88 (0,0))) : Lib.BuilderAt 88 5 b b (.pointer none) [] w:=
 ⟨Nat.le_refl _,.slice none 0 0,hz,World.ownsRow_nil _ _ _ _,by simp [Value.ownBlock]⟩
set_option maxHeartbeats 2000000 in
set_option maxRecDepth 100000 in
theorem writeString_first (b : Nat) (s : ByteArray) (w : World) (hz : w.heap[b]? = some (.cells #[.pointer none,.slice none 0 0] 88 (0,0))) (hlen : s.size≤140737488355328) (hBw : b≤w.heap.size) :
    Calls Tryz.prog 39 #[.pointer (some ⟨b,0,none⟩),.string s] w fun e w'=>e = .returned (.tuple #[.int .i64 s.size,.nilIface])∧(Lib.BuilderAt 88 5 b b (.pointer (some ⟨b,0,none⟩)) (Lib.strCells s) w'∧Below b w w')∧∀ (a : Addr) (x : Value),a.block ≠ b→w.cell? a=some x→w'.cell? a=some x:=by
 obtain ⟨i0,hi,hz0,hz1,hz2⟩:=info_parts byte_info
 have h:=fresh_at hz
 go_enter Tryz.func39,Tryz.ntmps39
 go_wp2_with (go_at_call 66; refine (copyCheck_fresh b w h.cell0 h.shape h.frozen0).mono ?_)
 rintro e w1 ⟨rfl,hw1⟩
 have hs : ∀ (a : Addr) (x : Value),a.block ≠ b→w.cell? a=some x→w1.cell? a=some x:=fun a x ha hx=>by
  rw [hw1,World.cell?_setCell_far _ _ _ _ (fun e=>ha e.symm)]; exact hx
 have hb1 : Below b w w1:=by rw [hw1]; exact (Below.refl b w).setCell (p:=⟨b,0,none⟩) h.1 _
 have h1:=h.used (.pointer (some ⟨b,0,none⟩))
 rw [← hw1] at h1
 have hz1' : w1.heap[b]? = some (.cells #[.pointer (some ⟨b,0,none⟩),.slice none 0 0] 88 (0,0)):=by
  rw [hw1]
  simp [World.setCell,Array.getElem?_modify,hz]
 clear hw1
 obtain ⟨hB,v,hbk,hown,hne⟩:=h1
 obtain rfl : v = .slice none 0 0:=by rw [hz1'] at hbk; cases hbk; rfl
 have c0 : w1.cell? ⟨b,0,none⟩=some (.pointer (some ⟨b,0,none⟩)):=by rw [Lib.cell_of_heap hbk]; rfl
 have c1 : w1.cell? ⟨b,1,none⟩=some (.slice none 0 0):=by rw [Lib.cell_of_heap hbk]; rfl
 go_wp2_with (at_builtin; refine Lib.wpList_append_own_string _ rfl _ _ 26 9 rfl b 5 i0 Tryz.underlying26 Tryz.underlying9 hi hz0 hz1 hz2 _ _ _ rfl hown s rfl ?c3 ?c4 ?c5 ?_)
 case c3=>unfold maxLen; simp; omega
 case c4=>simp; omega
 case c5=>have:=hb1.size; omega
 intro v' w2 hown' hgrow _
 have hlt : b < w1.heap.size:=by
  rcases Nat.lt_or_ge b w1.heap.size with h' | h'
  ·exact h'
  ·simp [Array.getElem?_eq_none h'] at hbk
 have hb2 : w2.heap[b]? = some (.cells #[.pointer (some ⟨b,0,none⟩),.slice none 0 0] 88 (0,0)):=by
  rw [hgrow.block b hlt (fun e=>hne e.symm)]
  exact hbk
 have d0 : w2.cell? ⟨b,0,none⟩=some (.pointer (some ⟨b,0,none⟩)):=by rw [Lib.cell_of_heap hb2]; rfl
 have d1 : w2.cell? ⟨b,1,none⟩=some (.slice none 0 0):=by rw [Lib.cell_of_heap hb2]; rfl
 have f1 : w2.frozen? ⟨b,1,none⟩=false:=Lib.frozen_of_heap hb2 1
 obtain ⟨ao,n',cap,rfl⟩ : ∃ ao n' cap,v' = .slice ao n' cap:=by
  rcases hown'.2 with ⟨hv,_⟩ | ⟨g,cap,cur,hv,_⟩
  ·exact ⟨_,_,_,hv⟩
  ·exact ⟨_,_,_,hv⟩
 go_wp2
 go_ret2
 refine ⟨rfl,⟨?_,?_⟩,?_⟩
 ·exact Lib.BuilderAt.put (T:=88) (e:=5) hB hb2 (bs':=Lib.strCells s) (by simpa [Lib.strCells_length] using hown') (by decide)
 ·exact (hb1.grown hgrow (by have:=hb1.size; omega) (fun k hk=>(hown.lt k hk).1)).setCell (p:=⟨b,1,none⟩) hB _
 ·intro a x ha hx
  rw [World.cell?_setCell_far _ _ _ _ (fun e=>ha e.symm),hgrow.cell_far a (World.block_lt_of_cell? _ _ (hs a x ha hx)) (by simp [Value.ownBlock])]
  exact hs a x ha hx
theorem agg_rel {V : View} {β : Beta} {l : List AV} {vs : Array Value} (h : RelL V β l vs.toList) : Rel V β (.agg l) (.agg vs):=by unfold Rel; exact ⟨vs,rfl,h⟩
theorem cons_rel {V : View} {β : Beta} {x : AV} {v : Value} {l : List AV} {r : List Value} (h : Rel V β x v) (k : RelL V β l r) : RelL V β (x :: l) (v :: r):=by unfold RelL; exact ⟨v,r,rfl,h,k⟩
theorem nil_rel {V : View} {β : Beta} : RelL V β [] []:=by unfold RelL; rfl
theorem lit_rel {V : View} {β : Beta} : (∀ s,Rel V β (.str s) (.string s))∧(∀ k i,Rel V β (.int k i) (.int k i))∧(∀ b,Rel V β (.bool b) (.bool b))∧(∀ a c,Rel V β (.isl []) (.slice a 0 c)):=by simp [Rel]
theorem elemB_args {V : View} {β : Beta} {nm n2 s : ByteArray} {lo hi : Int} {f e0 : Bool} {a a2 a3 a4 : Option Addr} {c c2 c3 c4 : Nat} : RelL V β [.agg [.str nm,.isl []],.agg [.int .i64 1,.str n2,.int .i64 lo,.int .i64 hi,.bool f,.bool e0,.isl [],.isl []],.agg [.int .i64 1,.int .i64 1,.str s,.isl []]]
    #[.agg #[.string nm,.slice a 0 c],.agg #[.int .i64 1,.string n2,.int .i64 lo,.int .i64 hi,.bool f,.bool e0,.slice a2 0 c2,.slice a3 0 c3],.agg #[.int .i64 1,.int .i64 1,.string s,.slice a4 0 c4]].toList:=by
 obtain ⟨S,I,B,E⟩:=@lit_rel V β
 exact cons_rel (agg_rel (cons_rel (S _) (cons_rel (E _ _) nil_rel))) (cons_rel (agg_rel (cons_rel (I _ _) (cons_rel (S _) (cons_rel (I _ _) (cons_rel (I _ _) (cons_rel (B _) (cons_rel (B _) (cons_rel (E _ _) (cons_rel (E _ _) nil_rel))))))))) (cons_rel (agg_rel (cons_rel (I _ _) (cons_rel (I _ _) (cons_rel (S _) (cons_rel (E _ _) nil_rel))))) nil_rel))
theorem elemB_calls (nm n2 s : ByteArray) (lo hi : Int) (f e0 : Bool) (a a2 a3 a4 : Option Addr) (c c2 c3 c4 : Nat) (W : World) :
    Calls Tryz.prog 14 #[.agg #[.string nm,.slice a 0 c],.agg #[.int .i64 1,.string n2,.int .i64 lo,.int .i64 hi,.bool f,.bool e0,.slice a2 0 c2,.slice a3 0 c3],.agg #[.int .i64 1,.int .i64 1,.string s,.slice a4 0 c4]] W fun e W'=>e = .returned (.string ⟨#[1,1,255]⟩)∧Below W.heap.size W W':=by
 refine (callL_calls cfgB_ok Tryz.func14 (by decide +kernel) rfl (callN_L 60 _ _ _ _ _ (elemB nm n2 s lo hi f e0)) (W:=W) elemB_args).mono ?_
 rintro e W' ⟨v,V,β,rfl,hb,hr⟩
 unfold Rel at hr
 exact ⟨by rw [hr],hb⟩
set_option maxHeartbeats 4000000 in
set_option maxRecDepth 100000 in
theorem contents_int (nm n2 s : ByteArray) (lo hi : Int) (f e0 : Bool) (a a2 a3 a4 : Option Addr) (c c2 c3 c4 : Nat) (w : World) :
    Calls Tryz.prog 23 #[.agg #[.string nm,.slice a 0 c],.agg #[.int .i64 2,.string n2,.int .i64 lo,.int .i64 hi,.bool f,.bool e0,.slice a2 0 c2,.slice a3 0 c3],.agg #[.int .i64 2,.int .i64 5,.string s,.slice a4 0 c4]] w fun e W'=>e = .returned (.string ⟨#[5]⟩)∧Below w.heap.size w W':=by
 go_enter Tryz.func23,Tryz.ntmps23
 have b4:=(((((Below.refl _ w).alloc (Nat.le_refl _) (.cells #[.string nm,.slice a 0 c] 54)).alloc (by simp) (.cells #[.int .i64 2,.string n2,.int .i64 lo,.int .i64 hi,.bool f,.bool e0,.slice a2 0 c2,.slice a3 0 c3] 40)).alloc (by simp; try omega) (.cells #[.int .i64 2,.int .i64 5,.string s,.slice a4 0 c4] 43)).alloc (by simp; try omega) (.cells #[.pointer none,.slice none 0 0] 88))
 go_wp2_with (go_at_call 37; refine (octets5_calls _).mono ?_)
 rintro e w1 ⟨rfl,hb1⟩
 go_wp2
 go_ret
 exact ⟨rfl,b4.trans (hb1.mono b4.size)⟩
set_option maxHeartbeats 4000000 in
set_option maxRecDepth 100000 in
theorem contents_rec (nm n2 n3 s s2 : ByteArray) (lo hi lo2 hi2 : Int) (f e0 f2 e2 : Bool) (a a2 a4 a5 a7 : Option Addr) (c c2 c4 c5 c7 : Nat) (bi oi ci bv ov cv : Nat) (n1 : ByteArray) (w : World)
    (ki0 : w.cell? ⟨bi,oi,none⟩=some (.string n1)) (ki1 : w.cell? ⟨bi,oi + 1,none⟩=some (.int .i64 1)) (ki2 : w.cell? ⟨bi,oi + 2,none⟩=some (.string n3)) (ki3 : w.cell? ⟨bi,oi + 3,none⟩=some (.int .i64 lo2)) (ki4 : w.cell? ⟨bi,oi + 4,none⟩=some (.int .i64 hi2))
    (ki5 : w.cell? ⟨bi,oi + 5,none⟩=some (.bool f2)) (ki6 : w.cell? ⟨bi,oi + 6,none⟩=some (.bool e2)) (ki7 : w.cell? ⟨bi,oi + 7,none⟩=some (.slice a4 0 c4)) (ki8 : w.cell? ⟨bi,oi + 8,none⟩=some (.slice a5 0 c5))
    (hv0 : w.cell? ⟨bv,ov,none⟩=some (.int .i64 1)) (hv1 : w.cell? ⟨bv,ov + 1,none⟩=some (.int .i64 1)) (hv2 : w.cell? ⟨bv,ov + 2,none⟩=some (.string s2)) (hv3 : w.cell? ⟨bv,ov + 3,none⟩=some (.slice a7 0 c7)) :
    Calls Tryz.prog 23 #[.agg #[.string nm,.slice a 0 c],.agg #[.int .i64 8,.string n2,.int .i64 lo,.int .i64 hi,.bool f,.bool e0,.slice (some ⟨bi,oi,none⟩) 1 ci,.slice a2 0 c2],.agg #[.int .i64 8,.int .i64 0,.string s,.slice (some ⟨bv,ov,none⟩) 1 cv]] w fun e W'=>e = .returned (.string ⟨#[128,3,1,1,255]⟩)∧Below w.heap.size w W':=by
 go_enter Tryz.func23,Tryz.ntmps23
 go_wp2
 refine wp_loop_rounds 2 ?_
 obtain ⟨W4,hW4⟩ : ∃ W,W=((((w.alloc (.cells #[.string nm,.slice a 0 c] 54)).alloc (.cells #[.int .i64 8,.string n2,.int .i64 lo,.int .i64 hi,.bool f,.bool e0,.slice (some ⟨bi,oi,none⟩) 1 ci,.slice a2 0 c2] 40)).alloc (.cells #[.int .i64 8,.int .i64 0,.string s,.slice (some ⟨bv,ov,none⟩) 1 cv] 43)).alloc (.cells #[.pointer none,.slice none 0 0] 88)):=⟨_,rfl⟩
 rw [← hW4]
 have b4 : Below w.heap.size w W4:=by
  subst hW4
  exact ((((Below.refl _ w).alloc (Nat.le_refl _) _).alloc (by simp) _).alloc (by simp; try omega) _).alloc (by simp; try omega) _
 have z4 : W4.heap.size=w.heap.size + 4:=by subst hW4; simp
 have l0 : W4.cell? ⟨w.heap.size,0,none⟩=some (.string nm):=by subst hW4; go_simp
 have l1 : W4.cell? ⟨w.heap.size,1,none⟩=some (.slice a 0 c):=by subst hW4; go_simp
 have l2 : W4.cell? ⟨w.heap.size + 1,6,none⟩=some (.slice (some ⟨bi,oi,none⟩) 1 ci):=by subst hW4; go_simp
 have hz4 : W4.heap[w.heap.size + 3]? = some (.cells #[.pointer none,.slice none 0 0] 88 (0,0)):=by
  subst hW4
  have:=heap_alloc_new (((w.alloc (.cells #[.string nm,.slice a 0 c] 54)).alloc (.cells #[.int .i64 8,.string n2,.int .i64 lo,.int .i64 hi,.bool f,.bool e0,.slice (some ⟨bi,oi,none⟩) 1 ci,.slice a2 0 c2] 40)).alloc (.cells #[.int .i64 8,.int .i64 0,.string s,.slice (some ⟨bv,ov,none⟩) 1 cv] 43)) (.cells #[.pointer none,.slice none 0 0] 88)
  simpa using this
 clear hW4
 have j0:=(b4.cell (World.block_lt_of_cell? _ _ ki0)).trans ki0
 have j1:=(b4.cell (World.block_lt_of_cell? _ _ ki1)).trans ki1
 have j2:=(b4.cell (World.block_lt_of_cell? _ _ ki2)).trans ki2
 have j3:=(b4.cell (World.block_lt_of_cell? _ _ ki3)).trans ki3
 have j4:=(b4.cell (World.block_lt_of_cell? _ _ ki4)).trans ki4
 have j5:=(b4.cell (World.block_lt_of_cell? _ _ ki5)).trans ki5
 have j6:=(b4.cell (World.block_lt_of_cell? _ _ ki6)).trans ki6
 have j7:=(b4.cell (World.block_lt_of_cell? _ _ ki7)).trans ki7
 have j8:=(b4.cell (World.block_lt_of_cell? _ _ ki8)).trans ki8
 have u0:=(b4.cell (World.block_lt_of_cell? _ _ hv0)).trans hv0
 have u1:=(b4.cell (World.block_lt_of_cell? _ _ hv1)).trans hv1
 have u2:=(b4.cell (World.block_lt_of_cell? _ _ hv2)).trans hv2
 have u3:=(b4.cell (World.block_lt_of_cell? _ _ hv3)).trans hv3
 rw [rounds_succ]
 go_wp2
 obtain ⟨W5,hW5⟩ : ∃ W,W=W4.alloc (.cells #[.int .i64 1,.int .i64 1,.string s2,.slice a7 0 c7] 43):=⟨_,rfl⟩
 rw [← hW5]
 have b5 : Below W4.heap.size W4 W5:=by subst hW5; exact (Below.refl _ W4).alloc (Nat.le_refl _) _
 have z5 : W5.heap.size=w.heap.size + 5:=by subst hW5; simp [z4]
 have x0 : W5.cell? ⟨w.heap.size + 4,0,none⟩=some (.int .i64 1):=by subst hW5; rw [← z4]; go_simp
 have x1 : W5.cell? ⟨w.heap.size + 4,1,none⟩=some (.int .i64 1):=by subst hW5; rw [← z4]; go_simp
 have x2 : W5.cell? ⟨w.heap.size + 4,2,none⟩=some (.string s2):=by subst hW5; rw [← z4]; go_simp
 have x3 : W5.cell? ⟨w.heap.size + 4,3,none⟩=some (.slice a7 0 c7):=by subst hW5; rw [← z4]; go_simp
 replace l0:=(b5.cell (World.block_lt_of_cell? _ _ l0)).trans l0
 replace l1:=(b5.cell (World.block_lt_of_cell? _ _ l1)).trans l1
 replace l2:=(b5.cell (World.block_lt_of_cell? _ _ l2)).trans l2
 replace j0:=(b5.cell (World.block_lt_of_cell? _ _ j0)).trans j0
 replace j1:=(b5.cell (World.block_lt_of_cell? _ _ j1)).trans j1
 replace j2:=(b5.cell (World.block_lt_of_cell? _ _ j2)).trans j2
 replace j3:=(b5.cell (World.block_lt_of_cell? _ _ j3)).trans j3
 replace j4:=(b5.cell (World.block_lt_of_cell? _ _ j4)).trans j4
 replace j5:=(b5.cell (World.block_lt_of_cell? _ _ j5)).trans j5
 replace j6:=(b5.cell (World.block_lt_of_cell? _ _ j6)).trans j6
 replace j7:=(b5.cell (World.block_lt_of_cell? _ _ j7)).trans j7
 replace j8:=(b5.cell (World.block_lt_of_cell? _ _ j8)).trans j8
 have hz5 : W5.heap[w.heap.size + 3]? = some (.cells #[.pointer none,.slice none 0 0] 88 (0,0)):=(b5.block _ (by omega)).trans hz4
 have lbi : bi < w.heap.size:=World.block_lt_of_cell? _ _ ki0
 clear hW5 j0 u0 u1 u2 u3 ki0 ki1 ki2 ki3 ki4 ki5 ki6 ki7 ki8 hv0 hv1 hv2 hv3
 go_region_held3 (fun w'=>w'.cell? ⟨w.heap.size,0,none⟩=some (.string nm)∧w'.cell? ⟨w.heap.size,1,none⟩=some (.slice a 0 c)∧w'.cell? ⟨w.heap.size + 1,6,none⟩=some (.slice (some ⟨bi,oi,none⟩) 1 ci)∧w'.cell? ⟨bi,oi + 1,none⟩=some (.int .i64 1)∧w'.cell? ⟨bi,oi + 2,none⟩=some (.string n3)∧w'.cell? ⟨bi,oi + 3,none⟩=some (.int .i64 lo2)∧w'.cell? ⟨bi,oi + 4,none⟩=some (.int .i64 hi2)∧w'.cell? ⟨bi,oi + 5,none⟩=some (.bool f2)∧w'.cell? ⟨bi,oi + 6,none⟩=some (.bool e2)∧w'.cell? ⟨bi,oi + 7,none⟩=some (.slice a4 0 c4)∧w'.cell? ⟨bi,oi + 8,none⟩=some (.slice a5 0 c5)∧w'.cell? ⟨w.heap.size + 4,0,none⟩=some (.int .i64 1)∧w'.cell? ⟨w.heap.size + 4,1,none⟩=some (.int .i64 1)∧w'.cell? ⟨w.heap.size + 4,2,none⟩=some (.string s2)∧w'.cell? ⟨w.heap.size + 4,3,none⟩=some (.slice a7 0 c7))
  (first
   | (go_keep; done)
   | (go_split_ands
      refine ⟨?_,?_,?_,?_,?_,?_,?_,?_,?_,?_,?_,?_,?_,?_,?_⟩ <;> (refine hK _ _ ?_ ?_ <;> first | assumption | (dsimp only; omega)))
   | (go_split_ands
      refine ⟨?_,?_,?_,?_,?_,?_,?_,?_,?_,?_,?_,?_,?_,?_,?_⟩ <;> (refine (hC.cell ?_).trans ?_ <;> first | assumption | (exact World.block_lt_of_cell? _ _ (by assumption))))
   | (go_split_ands
      refine ⟨?_,?_,?_,?_,?_,?_,?_,?_,?_,?_,?_,?_,?_,?_,?_⟩ <;> (refine (hA.cell ?_).trans ?_ <;> first | assumption | (exact World.block_lt_of_cell? _ _ (by assumption)))))
  (first
   | (go_at_call 14; refine (elemB_calls _ _ _ _ _ _ _ _ _ _ _ _ _ _ _ _).mono ?_; rintro e w6 ⟨rfl,hA⟩)
   | (go_at_call 22; refine (lift128_calls _).mono ?_; rintro e w7 ⟨rfl,hC⟩)
   | (go_at_call 39; refine (writeString_first (w.heap.size + 3) _ _ ?_ ?_ ?_).mono ?_; exact (hC.block _ (by have:=hA.size; simp at this; omega)).trans ((hA.block _ (by simp; omega)).trans hz5); decide; have h1:=hC.size; have h2:=hA.size; simp at h2; omega; rintro e w8 ⟨rfl,⟨h8,hW⟩,hK⟩))
 go_wp2
 rw [rounds_succ]
 go_wp2_with (go_at_call 41; refine (string_calls (w.heap.size + 3) (w.heap.size + 3) [128,3,1,1,255] _ ?_ ?_).mono ?_)
 ·exact .inr (by rw [Lib.strCells_eq] at h8; exact h8)
 ·simp
 rintro e w9 ⟨rfl,h9⟩
 go_wp2
 go_ret
 refine ⟨rfl,?_⟩
 have d5 : Below w.heap.size W5 W5.drew:=⟨rfl,rfl,rfl,Nat.le_refl _,fun _ _=>rfl⟩
 have s6:=hA.size
 have s7:=hC.size
 have s5 : W5.drew.heap.size=w.heap.size + 5:=z5
 exact b4.trans ((b5.mono (by omega)).trans (d5.trans ((hA.mono (by omega)).trans ((hC.mono (by omega)).trans ((hW.mono (by omega)).trans (h9.mono (by omega)))))))
end Go.Proofs.YtdgdhckjfllfmaaGreatDoor
namespace Go.Proofs.YtdgdhckjfllfmaaGreatDoor
open Go Go.Avm Go.RowKit
theorem type_inv6 {V : View} {β : Beta} {k lo hi : Int} {s : ByteArray} {f x : Bool} {y : AV} {v : Value} (h : Rel V β (.agg [.int .i64 k,.str s,.int .i64 lo,.int .i64 hi,.bool f,.bool x,y,.isl []]) v) : ∃ u a2 c2,v = .agg #[.int .i64 k,.string s,.int .i64 lo,.int .i64 hi,.bool f,.bool x,u,.slice a2 0 c2]∧Rel V β y u:=by
 simp only [Rel,RelL] at h
 obtain ⟨vs,rfl,_,_,e1,rfl,_,_,rfl,rfl,_,_,rfl,rfl,_,_,rfl,rfl,_,_,rfl,rfl,_,_,rfl,rfl,u,_,rfl,hu,_,_,rfl,⟨a2,c2,rfl,_⟩,rfl⟩:=h
 exact ⟨u,a2,c2,by rw [arr_of e1]; rfl,hu⟩
theorem value_inv3 {V : View} {β : Beta} {k i : Int} {s : ByteArray} {y : AV} {v : Value} (h : Rel V β (.agg [.int .i64 k,.int .i64 i,.str s,y]) v) : ∃ u,v = .agg #[.int .i64 k,.int .i64 i,.string s,u]∧Rel V β y u:=by
 simp only [Rel,RelL] at h
 obtain ⟨vs,rfl,_,_,e1,rfl,_,_,rfl,rfl,_,_,rfl,rfl,u,_,rfl,hu,rfl⟩:=h
 exact ⟨u,by rw [arr_of e1],hu⟩
theorem isl1 {w0 w : World} {wr : Nat} {β : Beta} {h : Avm.H} {l : List AV} {v : Value} (S : Sim w0 wr β h w) (hr : Rel (view wr β h w) β (.isl [.agg l]) v) :
    ∃ c o cap,v = .slice (some ⟨c,o,none⟩) 1 cap∧∀ j x,l[j]? = some x→∃ u,w.cell? ⟨c,o + j,none⟩=some u∧Rel (view wr β h w) β x u:=by
 obtain ⟨q,cap,rfl,_,hq⟩:=elsOf_rel S (x:=.isl [.agg l]) (l:=[.agg l]) rfl hr
 rcases hq with hq | ⟨c,o,sz,rfl,hb⟩
 ·cases hq
 ·refine ⟨c,o,cap,rfl,fun j x hx=>?_⟩
  obtain ⟨_,h2⟩:=hb 0 (.agg l) rfl
  obtain ⟨u,h3,h4⟩:=h2 j x hx
  exact ⟨u,by simpa [rdw] using h3,h4⟩
theorem str_inv {V : View} {β : Beta} {s : ByteArray} {v : Value} (h : Rel V β (.str s) v) : v = .string s:=by unfold Rel at h; exact h
theorem int_inv {V : View} {β : Beta} {k : IntKind} {s : Int} {v : Value} (h : Rel V β (.int k s) v) : v = .int k s:=by unfold Rel at h; exact h
theorem bool_inv {V : View} {β : Beta} {s : Bool} {v : Value} (h : Rel V β (.bool s) v) : v = .bool s:=by unfold Rel at h; exact h
theorem nils_inv {V : View} {β : Beta} {v : Value} (h : Rel V β (.isl []) v) : ∃ a c,v = .slice a 0 c:=by unfold Rel at h; obtain ⟨a,c,h1,_⟩:=h; exact ⟨a,c,h1⟩
theorem contents_ext (w0 : World) : ExtOk Tryz.prog w0 23 contentsX:=by
 refine ⟨fun args h r h' ev=>?_,fun args h r h' wr β w vs ev hwr S hr=>?_⟩
 ·unfold contentsX at ev
  split at ev
  ·cases ev; exact ⟨[],by simp⟩
  ·cases ev; exact ⟨[],by simp⟩
  ·cases ev; exact ⟨[],by simp⟩
  ·cases ev
 ·unfold contentsX at ev
  split at ev
  ·cases ev
   obtain ⟨_,_,_,rfl,h1,h2,h3⟩:=three_inv hr
   obtain ⟨_,_,rfl⟩:=writer_inv h1
   obtain ⟨_,_,_,_,rfl⟩:=type_inv h2
   obtain ⟨_,_,rfl⟩:=value_inv h3
   exact .inl ⟨callFunc_run Tryz.func23 (by decide +kernel) rfl _ w,str_done S (contents_int _ _ _ _ _ _ _ _ _ _ _ _ _ _ _ w)⟩
  ·cases ev
   obtain ⟨_,_,_,rfl,h1,h2,h3⟩:=three_inv hr
   obtain ⟨_,_,rfl⟩:=writer_inv h1
   obtain ⟨_,_,_,_,rfl⟩:=type_inv h2
   obtain ⟨_,_,rfl⟩:=value_inv h3
   exact .inl ⟨callFunc_run Tryz.func23 (by decide +kernel) rfl _ w,str_done S (contents_bool _ _ _ _ _ _ _ _ _ _ _ _ _ _ _ w)⟩
  ·cases ev
   obtain ⟨_,_,_,rfl,h1,h2,h3⟩:=three_inv hr
   obtain ⟨_,_,rfl⟩:=writer_inv h1
   obtain ⟨_,_,_,rfl,hu⟩:=type_inv6 h2
   obtain ⟨_,rfl,hv⟩:=value_inv3 h3
   obtain ⟨bi,oi,ci,rfl,hi⟩:=isl1 S hu
   obtain ⟨bv,ov,cv,rfl,hw⟩:=isl1 S hv
   obtain ⟨_,i0,r0⟩:=hi 0 _ rfl
   obtain ⟨_,i1,r1⟩:=hi 1 _ rfl
   obtain ⟨_,i2,r2⟩:=hi 2 _ rfl
   obtain ⟨_,i3,r3⟩:=hi 3 _ rfl
   obtain ⟨_,i4,r4⟩:=hi 4 _ rfl
   obtain ⟨_,i5,r5⟩:=hi 5 _ rfl
   obtain ⟨_,i6,r6⟩:=hi 6 _ rfl
   obtain ⟨_,i7,r7⟩:=hi 7 _ rfl
   obtain ⟨_,i8,r8⟩:=hi 8 _ rfl
   obtain ⟨_,v0,q0⟩:=hw 0 _ rfl
   obtain ⟨_,v1,q1⟩:=hw 1 _ rfl
   obtain ⟨_,v2,q2⟩:=hw 2 _ rfl
   obtain ⟨_,v3,q3⟩:=hw 3 _ rfl
   cases str_inv r0; cases int_inv r1; cases str_inv r2; cases int_inv r3; cases int_inv r4; cases bool_inv r5; cases bool_inv r6
   obtain ⟨_,_,rfl⟩:=nils_inv r7
   obtain ⟨_,_,rfl⟩:=nils_inv r8
   cases int_inv q0; cases int_inv q1; cases str_inv q2
   obtain ⟨_,_,rfl⟩:=nils_inv q3
   refine .inl ⟨callFunc_run Tryz.func23 (by decide +kernel) rfl _ w,str_done S ?_⟩
   have i0 : w.cell? ⟨bi,oi,none⟩=some _:=i0
   have v0 : w.cell? ⟨bv,ov,none⟩=some _:=v0
   exact contents_rec _ _ _ _ _ _ _ _ _ _ _ _ _ _ _ _ _ _ _ _ _ _ _ _ _ _ _ _ _ _ w i0 i1 i2 i3 i4 i5 i6 i7 i8 v0 v1 v2 v3
  ·cases ev
end Go.Proofs.YtdgdhckjfllfmaaGreatDoor
