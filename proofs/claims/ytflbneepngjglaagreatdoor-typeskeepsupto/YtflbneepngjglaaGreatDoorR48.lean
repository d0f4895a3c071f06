/- Copies of types, whole. -/
import Derived.Test.YtflbneepngjglaaGreatDoorR47
set_option linter.all false
namespace Go.Proofs.YtflbneepngjglaaGreatDoor
open Go Go.Avm
theorem take_frame {h X : Avm.H} (hl : h.length≤X.length) (hf : ∀ k,k < h.length→X[k]? = h[k]?) : X.take h.length=h:=by
 apply List.ext_getElem?
 intro k
 rw [List.getElem?_take]
 split
 ·rename_i hk; exact hf k hk
 ·rename_i hk; exact (List.getElem?_eq_none (by omega)).symm
theorem copyType_ok : ∀ (n : Nat) (t : Ty),t.size≤n→t.wid≤67108864→∀ ws h,callL cfg ws 20 [t.enc] h=some (t.enc,h)
 | 0,t,ht,_,_,_=>by have:=t.size_pos; omega
 | n + 1,t,ht,hb,ws,h=>by
  have hlk:=t.wid_kids
  have hli:=t.wid_items
  have hbd : ∀ y ∈ t.items,y.dflt.length≤67108864∧∀ d ∈ y.dflt,d.size≤67108864:=fun y hy=>by
   have:=Ty.wid_item hy
   have:=y.wid_dflt
   exact ⟨by omega,fun d hd=>by have:=It.wid_val hd; omega⟩
  obtain ⟨HH1,vi,h1,hbo1,hs1,hl1,hf1⟩:=copyI_loop h.length (h++[.arr 0 8 [t.enc],.arr 0 8 [.agg [.int .i64 0,.str ⟨#[]⟩,.int .i64 0,.int .i64 0,.bool false,.bool false,.esl,.esl]],.arr 0 8 [.agg [.int .i64 t.kind,.str t.name,.int .i64 t.lo,.int .i64 t.hi,.bool t.free,.bool t.ext,.esl,.isl (t.kids.map Ty.enc)]]])
   h.length (h.length + 2) (.ptr (h.length + 1) 0 8 0 0) (.isl (t.kids.map Ty.enc)) (.isl (t.kids.map Ty.enc)) [.int .i64 t.kind,.str t.name,.int .i64 t.lo,.int .i64 t.hi,.bool t.free,.bool t.ext] [.int .i64 t.kind,.str t.name,.int .i64 t.lo,.int .i64 t.hi,.bool t.free,.bool t.ext] t.items rfl rfl (by omega) hbd
   (by simp) (by simp) (by omega) (by omega) (fun y hy h'=>copyType_ok n y.of (by have:=Ty.mem_of hy; omega) (Nat.le_trans (Ty.wid_itof hy) hb) h.length h')
  simp at h1
  have hL1 : h.length + 3≤HH1.length:=by simpa using hl1
  have hbt1 : HH1[h.length]? = some (.arr 0 8 [t.enc]):=by rw [hf1 _ (by simp) (by omega)]; simp
  have hbz1 : HH1[h.length + 1]? = some (.arr 0 8 [.agg [.int .i64 0,.str ⟨#[]⟩,.int .i64 0,.int .i64 0,.bool false,.bool false,.esl,.esl]]):=by rw [hf1 _ (by simp) (by omega)]; simp
  have hold1 : ∀ q,q < h.length→HH1[q]? = h[q]?:=fun q hq=>by rw [hf1 q (by simp; omega) (by omega),List.getElem?_append_left hq]
  obtain ⟨HH2,hHH2⟩ : ∃ HH2 : Avm.H,HH2=HH1.set (h.length + 2) (.arr 0 8 [.agg [.int .i64 t.kind,.str t.name,.int .i64 t.lo,.int .i64 t.hi,.bool t.free,.bool t.ext,vi,.esl]]):=⟨_,rfl⟩
  have hL2 : HH2.length=HH1.length:=by rw [hHH2]; simp
  have hbo2 : HH2[h.length + 2]? = some (.arr 0 8 [.agg [.int .i64 t.kind,.str t.name,.int .i64 t.lo,.int .i64 t.hi,.bool t.free,.bool t.ext,vi,.esl]]):=by rw [hHH2,List.getElem?_set_self (by omega)]
  have hf2 : ∀ q,q ≠ h.length + 2→HH2[q]? = HH1[q]?:=fun q hq=>by rw [hHH2,List.getElem?_set_ne (fun e=>hq e.symm)]
  obtain ⟨HH3,vk,h3,hbo3,hs3,hl3,hf3⟩:=copyK_loop h.length HH2 h.length (h.length + 2) (.ptr (h.length + 1) 0 8 0 0) [.int .i64 t.kind,.str t.name,.int .i64 t.lo,.int .i64 t.hi,.bool t.free,.bool t.ext,vi] [.int .i64 t.kind,.str t.name,.int .i64 t.lo,.int .i64 t.hi,.bool t.free,.bool t.ext,.isl (t.items.map It.enc)] t.kids rfl rfl (by omega)
   (by rw [hf2 _ (by omega),hbt1]; simp) (by rw [hbo2]; simp) (by omega) (by omega) (by omega) (fun x hx h'=>by
    have:=Ty.mem_kids hx
    exact copyType_ok n x (by omega) (Nat.le_trans (Ty.wid_kid hx) hb) h.length h')
  have hbz3 : HH3[h.length + 1]? = some (.arr 0 8 [.agg [.int .i64 0,.str ⟨#[]⟩,.int .i64 0,.int .i64 0,.bool false,.bool false,.esl,.esl]]):=by rw [hf3 _ (by omega) (by omega),hf2 _ (by omega)]; exact hbz1
  have hold3 : ∀ q,q < h.length→HH3[q]? = h[q]?:=fun q hq=>by rw [hf3 q (by omega) (by omega),hf2 q (by omega)]; exact hold1 q hq
  obtain ⟨HH4,hHH4⟩ : ∃ HH4 : Avm.H,HH4=HH3.set (h.length + 1) (.arr 0 8 [.agg [.int .i64 t.kind,.str t.name,.int .i64 t.lo,.int .i64 t.hi,.bool t.free,.bool t.ext,vi,vk]]):=⟨_,rfl⟩
  have hL4 : HH4.length=HH3.length:=by rw [hHH4]; simp
  have hf4 : ∀ q,q ≠ h.length + 1→HH4[q]? = HH3[q]?:=fun q hq=>by rw [hHH4,List.getElem?_set_ne (fun e=>hq e.symm)]
  have hbz4 : HH4[h.length + 1]? = some (.arr 0 8 [.agg [.int .i64 t.kind,.str t.name,.int .i64 t.lo,.int .i64 t.hi,.bool t.free,.bool t.ext,vi,vk]]):=by rw [hHH4,List.getElem?_set_self (by omega)]
  obtain ⟨HH5,hz5,hL5,hf5⟩ : ∃ HH5,frz h.length 7 vi HH4=some (.isl (t.items.map It.enc),HH5)∧HH5.length=HH4.length∧∀ q,(q < h.length ∨ HH2.length≤q)→HH5[q]? = HH4[q]?:=by
   rcases hs1 with ⟨he,rfl⟩ | ⟨b,ver,g1,rfl,g3⟩
   ·have he : t.items=[]:=by simpa using he
    exact ⟨HH4,by simp [he],rfl,fun _ _=>rfl⟩
   ·have hbl:=(List.getElem?_eq_some_iff.1 g3).1
    simp at g1
    have g4 : HH4[b]? = some (.arr ver 12 (t.items.map It.enc)):=by rw [hf4 b (by omega),hf3 b (by omega) (by omega),hf2 b (by omega)]; exact g3
    refine ⟨HH4.set b (.dead (ver + 1)),?_,by simp,fun q hq=>by
     have : b ≠ q:=by omega
     rw [List.getElem?_set_ne this]⟩
    have : ¬ b < h.length:=by omega
    simp [g4,this]
  obtain ⟨HH6,hz6,hL6,hf6⟩ : ∃ HH6,frz h.length 7 vk HH5=some (.isl (t.kids.map Ty.enc),HH6)∧HH6.length=HH5.length∧∀ q,q < h.length→HH6[q]? = HH5[q]?:=by
   rcases hs3 with ⟨he,rfl⟩ | ⟨b,ver,g1,rfl,g3⟩
   ·have he : t.kids=[]:=by simpa using he
    exact ⟨HH5,by simp [he],rfl,fun _ _=>rfl⟩
   ·have g4 : HH5[b]? = some (.arr ver 8 (t.kids.map Ty.enc)):=by rw [hf5 b (.inr g1),hf4 b (by omega)]; exact g3
    refine ⟨HH5.set b (.dead (ver + 1)),?_,by simp,fun q hq=>by
     have : b ≠ q:=by omega
     rw [List.getElem?_set_ne this]⟩
    have : ¬ b < h.length:=by omega
    simp [g4,this]
  have htk : HH6.take h.length=h:=take_frame (by omega) fun q hq=>by rw [hf6 q hq,hf5 q (.inl hq),hf4 q (by omega)]; exact hold3 q hq
  simp at h3 hbo1 hbo3
  have hvi : vi = .esl ∨ ∃ b ver n,vi = .osl b ver 12 0 n:=by
   rcases hs1 with ⟨_,e⟩ | ⟨b,ver,_,e,_⟩
   ·exact .inl e
   ·exact .inr ⟨b,ver,_,e⟩
  have hvk : vk = .esl ∨ ∃ b ver n,vk = .osl b ver 8 0 n:=by
   rcases hs3 with ⟨_,e⟩ | ⟨b,ver,_,e,_⟩
   ·exact .inl e
   ·exact .inr ⟨b,ver,_,e⟩
  clear hs1 hs3
  refine callL_fn rfl rfl ?_
  rcases hvi with rfl | ⟨_,_,_,rfl⟩ <;> rcases hvk with rfl | ⟨_,_,_,rfl⟩ <;>
  simp [F20,c20,h1,hbo1,← hHH2,h3,hbo3,hbz3,← hHH4,hbz4,hz5,hz6,htk]
end Go.Proofs.YtflbneepngjglaaGreatDoor
