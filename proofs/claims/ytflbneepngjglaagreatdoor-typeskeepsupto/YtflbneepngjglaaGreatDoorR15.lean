/- All operations that call nothing, together. -/
import Derived.Test.YtflbneepngjglaaGreatDoorR14
set_option linter.all false
namespace Go.Avm
open Go.RowKit
section
variable {P : Program} {w0 : World} {wr base ws : Nat} {β : Beta} {h h' : H} {w : World} {e : Env} {a : Act} {u : AV} {o : Oper}
theorem sameOs_one {xs : List Operand} {y : O} (h : sameOs xs [y]=true) : ∃ x,xs=[x]∧sameO x y=true:=by
 cases xs with
 | nil=>simp [sameOs] at h
 | cons x r=>
  simp [sameOs] at h
  cases r with
  | nil=>exact ⟨x,rfl,h.1⟩
  | cons _ _=>simp [sameOs] at h
theorem sameOs_two {xs : List Operand} {y z : O} (h : sameOs xs [y,z]=true) : ∃ x q,xs=[x,q]∧sameO x y=true∧sameO q z=true:=by
 cases xs with
 | nil=>simp [sameOs] at h
 | cons x r=>
  rw [sameOs] at h
  obtain ⟨h1,h2⟩:=and2 h
  obtain ⟨q,rfl,h3⟩:=sameOs_one h2
  exact ⟨x,q,rfl,h1,h3⟩
theorem evI_sound {i : I} (hop : opIs P o.op o.type i=true) (hE : EnvRel (view wr β h w) β e a.tmps) (S : Sim w0 wr β h w) (hws : wr≤ws) (hwb : wr≤base) (hbh : base≤h.length)
    (hev : evI base ws e h i=some (u,h')) : OpRes P w0 wr β h w (execOp a.eval o) u h':=by
 have hwr : wr≤h.length:=Nat.le_trans hwb hbh
 cases i with
 | mv y=>
  simp only [opIs] at hop
  split at hop
  ·rename_i x ho; exact ok_mv (.inl ho) hop hE S hev
  ·rename_i x ho; exact ok_mv (.inr ho) hop hE S hev
  ·cases hop
 | own0 sz=>
  simp only [opIs] at hop
  split at hop
  ·rename_i v ho; exact ok_own0 (.inl ho) hop S hev
  ·rename_i v ho; exact ok_own0 (.inr ho) hop S hev
  ·cases hop
 | pick c x y=>
  simp only [opIs] at hop
  split at hop
  ·rename_i ho
   obtain ⟨h1,h3⟩:=and2 hop
   obtain ⟨h1,h2⟩:=and2 h1
   exact ok_pick ho h1 h2 h3 hE S hev
  ·cases hop
 | box sz y=>
  simp only [opIs] at hop
  split at hop
  ·rename_i t x ho; exact ok_box (.inl ⟨_,_,ho,hop⟩) hE S hwr hev
  ·rename_i t ho
   split at hop
   ·exact ok_box (.inr ⟨_,_,ho,rfl,hop⟩) hE S hwr hev
   ·cases hop
  ·cases hop
 | build zero ps=>
  simp only [opIs] at hop
  split at hop
  ·rename_i ho
   obtain ⟨h1,h3⟩:=and2 hop
   obtain ⟨h1,h2⟩:=and2 h1
   exact ok_build ho h1 h2 h3 hE S hev
  ·cases hop
 | bsl sz n zero ps=>
  simp only [opIs] at hop
  split at hop
  ·rename_i ho
   split at hop
   ·rename_i el hel
    simp only [Bool.and_eq_true,decide_eq_true_eq,beq_iff_eq] at hop
    obtain ⟨⟨⟨⟨⟨⟨⟨hn,h1⟩,h2⟩,h3⟩,h4⟩,h5⟩,h6⟩,h7⟩:=hop
    subst hn
    exact ok_bsl ho (sliceOf_run hel) h1 h2 h3 h4 h5 h6 h7 hE S hwb hwr hev
   ·cases hop
  ·cases hop
 | ld sz ag y=>
  simp only [opIs] at hop
  split at hop
  ·rename_i ho
   obtain ⟨h1,h3⟩:=and2 hop
   obtain ⟨h1,h2⟩:=and2 h1
   exact ok_ld ho h1 h2 h3 hE S hev
  ·cases hop
 | st sz y v=>
  simp only [opIs] at hop
  split at hop
  ·rename_i ho
   obtain ⟨h1,h3⟩:=and2 hop
   obtain ⟨h1,h2⟩:=and2 h1
   exact ok_st ho h1 h2 h3 hE S hws hwb hev
  ·cases hop
 | nilc y=>
  simp only [opIs] at hop
  split at hop
  ·rename_i ho; exact ok_nilc ho hop hE S hev
  ·cases hop
 | bin bop x y=>
  simp only [opIs] at hop
  split at hop
  ·rename_i ho
   obtain ⟨h1,h3⟩:=and2 hop
   obtain ⟨h1,h2⟩:=and2 h1
   have h1:=of_decide_eq_true h1
   subst h1
   exact ok_bin ho h2 h3 hE S hev
  ·cases hop
 | eqk k neg x y=>
  simp only [opIs] at hop
  split at hop
  ·rename_i ho
   obtain ⟨h1,h5⟩:=and2 hop
   obtain ⟨h1,h4⟩:=and2 h1
   obtain ⟨h1,h3⟩:=and2 h1
   obtain ⟨h1,h2⟩:=and2 h1
   refine ok_eqk ho (of_decide_eq_true h1) h2 (fun hk=>?_) h3 h4 hE S hev
   subst hk
   simp only at h5
   split at h5
   ·exact .inl ⟨_,rfl⟩
   ·split at h5
    ·exact .inr ⟨_,rfl⟩
    ·cases h5
  ·cases hop
 | un uop x=>
  simp only [opIs] at hop
  split at hop
  ·rename_i ho
   obtain ⟨h1,h2⟩:=and2 hop
   have h1:=of_decide_eq_true h1
   subst h1
   exact ok_un ho h2 hE S hev
  ·cases hop
 | conv c x=>
  simp only [opIs] at hop
  split at hop
  ·rename_i ho
   obtain ⟨h1,h2⟩:=and2 hop
   exact ok_conv ho h1 h2 hE S hwr hev
  ·cases hop
 | mkfn f k cap=>
  simp only [opIs] at hop
  split at hop
  ·rename_i ho
   split at hop
   ·obtain ⟨h1,h3⟩:=and2 hop
    obtain ⟨h1,h2⟩:=and2 h1
    simp at h1 h2
    subst h1
    exact ok_mkfn ho h2 h3 hE S hev
   ·cases hop
  ·cases hop
 | mks sz lim zero l c=>
  simp only [opIs] at hop
  split at hop
  ·rename_i ho
   split at hop
   ·rename_i el hel
    simp only [Bool.and_eq_true,decide_eq_true_eq,beq_iff_eq] at hop
    obtain ⟨⟨⟨⟨⟨⟨⟨h1,h2⟩,h3⟩,h4⟩,h5⟩,h6⟩,h7⟩,h8⟩:=hop
    exact ok_mks ho (sliceOf_run hel) h1 h2 h3 h4 h5 h6 h7 h8 hE S hwr hev
   ·cases hop
  ·cases hop
 | slc k x lo hi mx=>
  simp only [opIs] at hop
  split at hop
  ·rename_i ho
   obtain ⟨h1,h5⟩:=and2 hop
   obtain ⟨h1,h4⟩:=and2 h1
   obtain ⟨h1,h3⟩:=and2 h1
   obtain ⟨h1,h2⟩:=and2 h1
   refine ok_slc ho h1 h2 h3 h4 ?_ hE S hev
   cases k with
   | str=>exact isStr_run h5
   | sl sz=>
    simp only at h5
    split at h5
    ·rename_i el hel; exact ⟨el,sliceOf_run hel,h5⟩
    ·cases h5
  ·cases hop
 | fadr off x=>
  simp only [opIs] at hop
  split at hop
  ·rename_i ho
   obtain ⟨h1,h2⟩:=and2 hop
   split at h2
   ·rename_i fs hs
    split at h2
    ·rename_i z hz
     obtain ⟨h3,h4⟩:=and2 h2
     split at h4
     ·rename_i i hi
      simp at h3 h4
      exact ok_fadr ho h1 hs hz h3 hi h4 hE S hev
     ·cases h4
    ·cases h2
   ·cases h2
  ·cases hop
 | fld off sz ag x=>
  simp only [opIs] at hop
  split at hop
  ·rename_i ho
   obtain ⟨h1,h3⟩:=and2 hop
   obtain ⟨h1,h2⟩:=and2 h1
   unfold fieldIs at h2
   split at h2
   ·rename_i fs hs
    split at h2
    ·rename_i z hz
     obtain ⟨h4,h5⟩:=and2 h2
     simp at h4
     simp only [fieldType,hs,hz] at h3
     exact ok_fld ho h1 hs hz h4 rfl h5 h3 hE S hev
    ·cases h2
   ·cases h2
  ·cases hop
 | idxa sz x j=>
  simp only [opIs] at hop
  split at hop
  ·rename_i ho
   obtain ⟨h1,h3⟩:=and2 hop
   obtain ⟨h1,h2⟩:=and2 h1
   split at h3
   ·rename_i el hel
    exact ok_idxa ho h1 h2 (sliceOf_run hel) (and2 h3).1 hE S hev
   ·cases h3
  ·cases hop
 | idxp n sz x j=>
  simp only [opIs] at hop
  split at hop
  ·rename_i ho
   obtain ⟨h1,h3⟩:=and2 hop
   obtain ⟨h1,h2⟩:=and2 h1
   split at h3
   ·rename_i m el hel
    obtain ⟨h3,_⟩:=and2 h3
    obtain ⟨h3,h4⟩:=and2 h3
    obtain rfl : n=m:=by simpa using h3
    exact ok_idxp ho h1 h2 (arrayOf_run hel) h4 hE S hev
   ·cases h3
  ·cases hop
 | idxv n sz ag x j=>
  simp only [opIs] at hop
  split at hop
  ·rename_i ho
   obtain ⟨h1,h3⟩:=and2 hop
   obtain ⟨h1,h2⟩:=and2 h1
   split at h3
   ·rename_i m el hel
    obtain ⟨h3,h5⟩:=and2 h3
    obtain ⟨h3,h4⟩:=and2 h3
    obtain rfl : n=m:=by simpa using h3
    exact ok_idxv ho h1 h2 (arrayOf_run hel) h4 h5 hE S hev
   ·cases h3
  ·cases hop
 | idx x j=>
  simp only [opIs] at hop
  split at hop
  ·rename_i ho
   obtain ⟨h1,h3⟩:=and2 hop
   obtain ⟨h1,h2⟩:=and2 h1
   exact ok_idx ho h1 h2 (isStr_run h3) hE S hev
  ·cases hop
 | tupx x i=>
  simp only [opIs] at hop
  split at hop
  ·rename_i ho
   obtain ⟨h1,h2⟩:=and2 hop
   simp at h2; subst h2
   exact ok_tupx ho h1 hE S hev
  ·cases hop
 | rng x=>
  simp only [opIs] at hop
  split at hop
  ·rename_i ho
   obtain ⟨h1,h2⟩:=and2 hop
   exact ok_rng ho h1 (isStr_run h2) hE S hev
  ·cases hop
 | nxt x=>
  simp only [opIs] at hop
  split at hop
  ·rename_i y s ho
   obtain ⟨h1,h2⟩:=and2 hop
   have h2 : s=true:=h2
   subst h2
   exact ok_nxt ho h1 hE S hwb hev
  ·cases hop
 | len s x=>
  simp only [opIs] at hop
  split at hop
  ·rename_i c ho
   split at hop
   ·rename_i hc
    obtain ⟨h1,h2⟩:=and2 hop
    obtain ⟨y,h3,h4⟩:=sameOs_one h1
    split at h2
    ·rename_i t r ht
     refine ok_len ho hc h3 ⟨r,ht⟩ h4 ?_ hE S hev
     cases s
     ·simp at h2 ⊢
      obtain ⟨el,hel⟩:=Option.isSome_iff_exists.1 h2
      exact ⟨el,sliceOf_run hel⟩
     ·simp at h2 ⊢
      exact isStr_run h2
    ·cases h2
   ·cases hop
  ·cases hop
 | app s sz lim x y=>
  simp only [opIs] at hop
  split at hop
  ·rename_i c ho
   split at hop
   ·rename_i hc
    obtain ⟨h1,h2⟩:=and2 hop
    obtain ⟨p,q,h3,h4,h5⟩:=sameOs_two h1
    split at h2
    ·rename_i t u' ht
     split at h2
     ·rename_i el hel
      obtain ⟨h2,h10⟩:=and2 h2
      obtain ⟨h2,h9⟩:=and2 h2
      obtain ⟨h2,h8⟩:=and2 h2
      obtain ⟨h2,h7⟩:=and2 h2
      obtain ⟨h2,h6⟩:=and2 h2
      obtain ⟨i,hi,hsz⟩:=szIs_info h2
      rw [hi] at h7 h10
      simp only at h7 h10
      unfold bytesLim at h8
      rw [hi] at h8
      simp at h8
      split at h10
      ·rename_i z hz
       have h0 : 0 < sz:=by simpa using h6
       split at h9
       ·rename_i hu
        obtain ⟨hs,hs1⟩:=and2 h9
        exact ok_app ho hc h3 ht ⟨sliceOf_run hel,.inl hu,hi,hsz,hz,h0,h8.1,h8.2⟩ (by simpa using h10) (fun _=>by simpa using hs1) h4 h5 hE S hws hwb hbh hev
       ·rename_i d hu
        exact ok_app ho hc h3 ht ⟨sliceOf_run hel,.inr ⟨d,hu⟩,hi,hsz,hz,h0,h8.1,h8.2⟩ (by simpa using h10) (fun h=>by rw [h] at h9; cases h9) h4 h5 hE S hws hwb hbh hev
       ·cases h9
      ·cases h10
     ·cases h2
    ·cases h2
   ·cases hop
  ·cases hop
 | mnx mx x y=>
  simp only [opIs] at hop
  split at hop
  ·rename_i c ho
   split at hop
   ·rename_i hc
    obtain ⟨h1,h2⟩:=and2 hop
    have h1 : mx=true:=h1
    subst h1
    obtain ⟨p,q,h3,h4,h5⟩:=sameOs_two h2
    exact ok_mnx (mx:=true) ho (by simpa using hc) h3 h4 h5 hE S hev
   ·rename_i hc
    obtain ⟨h1,h2⟩:=and2 hop
    simp at h1
    subst h1
    obtain ⟨p,q,h3,h4,h5⟩:=sameOs_two h2
    exact ok_mnx (mx:=false) ho (by simpa using hc) h3 h4 h5 hE S hev
   ·cases hop
  ·cases hop
 | boxt T t8 sz off y=>
  simp only [opIs] at hop
  split at hop
  ·rename_i t x ho
   obtain ⟨h1,h2⟩:=and2 hop
   obtain rfl : t=T:=by simpa using h1
   exact ok_boxt (.inl ⟨_,ho,h2⟩) hE S hwr hev
  ·rename_i t ho
   obtain ⟨h1,h2⟩:=and2 hop
   obtain rfl : t=T:=by simpa using h1
   split at h2
   ·exact ok_boxt (.inr ⟨_,ho,rfl,h2⟩) hE S hwr hev
   ·cases h2
  ·cases hop
 | uns ok x=>
  simp only [opIs] at hop
  split at hop
  ·rename_i ho
   obtain ⟨h1,h2⟩:=and2 hop
   exact ok_uns ho h1 h2 hE S hev
  ·cases hop
 | sdat x=>
  simp only [opIs] at hop
  split at hop
  ·rename_i c ho
   split at hop
   ·rename_i hc
    obtain ⟨y,h3,h4⟩:=sameOs_one hop
    exact ok_sdat ho hc h3 h4 hE S hev
   ·cases hop
  ·cases hop
 | ustr T p n=>
  simp only [opIs] at hop
  split at hop
  ·rename_i c ho
   split at hop
   ·rename_i hc
    obtain ⟨h1,h2⟩:=and2 hop
    obtain ⟨x,y,h3,h4,h5⟩:=sameOs_two h1
    split at h2
    ·rename_i t it ht
     split at h2
     ·rename_i el hel
      obtain ⟨h6,h7⟩:=and2 h2
      obtain rfl : el=T:=by simpa using h6
      exact ok_ustr ho hc h3 ht hel (by simpa using h7) h4 h5 hE S hws hev
     ·cases h2
    ·cases h2
   ·cases hop
  ·cases hop
 | appb T lim x y=>
  simp only [opIs] at hop
  split at hop
  ·rename_i c ho
   split at hop
   ·rename_i hc
    obtain ⟨h1,h2⟩:=and2 hop
    obtain ⟨p,q,h3,h4,h5⟩:=sameOs_two h1
    split at h2
    ·rename_i t u' ht
     split at h2
     ·rename_i el hel
      obtain ⟨h2,h11⟩:=and2 h2
      obtain ⟨h2,h10⟩:=and2 h2
      obtain ⟨h2,h9⟩:=and2 h2
      obtain ⟨h2,h8⟩:=and2 h2
      obtain ⟨h2,h7⟩:=and2 h2
      obtain rfl : el=T:=by simpa using h2
      obtain ⟨i,hi,hsz⟩:=szIs_info h7
      rw [hi] at h10
      simp only at h10
      unfold bytesLim at h8
      rw [hi] at h8
      simp at h8
      split at h10
      ·rename_i z hz
       refine ok_appb ho hc h3 ht (i:=i) (z:=z) ⟨sliceOf_run hel,?_,hi,hsz,hz,by omega,h8.1,h8.2⟩ (by simpa using h10) h4 h5 hE S hws hev
       split at h9
       ·rename_i hu; exact .inl hu
       ·rename_i d hu; exact .inr ⟨d,hu⟩
       ·cases h9
      ·cases h10
     ·cases h2
    ·cases h2
   ·cases hop
  ·cases hop
 | call f args=>simp [evI] at hev
 | callv pu f args=>simp [evI] at hev
end
end Go.Avm
