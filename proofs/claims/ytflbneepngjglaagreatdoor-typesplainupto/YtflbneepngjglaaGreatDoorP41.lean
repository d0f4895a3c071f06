/- Whether a value fits a type: the program. -/
import Derived.Test.YtflbneepngjglaaGreatDoorP40
set_option linter.all false
namespace Go.Proofs.YtflbneepngjglaaGreatDoor
open Go Go.Avm
def arcI (x : Val) : Bool:=decide (x.kind=2) && (hasP true false false x && inP x.int 0 1000000000)
def arc2 : List Val→Bool
 | a :: b :: _=>decide (a.int=2) || (decide (a.int < 2) && decide (b.int≤39))
 | _=>false
def arcP (v : Val) : Bool:=hasP false false true v && (inP (v.items.length : Int) 2 10 && (v.items.all arcI && arc2 v.items))
theorem arcs_loop (v : Val) (hv : v.size≤67108864) (h : Avm.H) : ∃ g,roundsL (evC (callL cfg) roundsL cfg.pol h.length h.length c90L0) [1,18,19,20] [(1,.ptr h.length 0 4 0 0),(18,.isl (v.items.map Val.enc)),(19,.int .i64 v.items.length),(20,.int .i64 (0 : Nat))] (h++([.arr 0 4 [v.enc]]++[]))=some (if (v.items).all arcI=true then (.exit 0,[(1,.ptr h.length 0 4 0 0),(18,.isl (v.items.map Val.enc)),(19,.int .i64 v.items.length),(20,.int .i64 (v.items).length)],h++([.arr 0 4 [v.enc]]++g)) else (.ret,[(2,.bool false)],h++([.arr 0 4 [v.enc]]++g))):=by
 have hl : (v.items).length≤67108864:=(by have:=v.len_items; omega)
 have hlp:=loop_post (γ:=Avm.H) (f:=evC (callL cfg) roundsL cfg.pol h.length h.length c90L0) (keep:=[1,18,19,20]) (v.items) (fun _ _=>True)
     (fun i _=>[(1,.ptr h.length 0 4 0 0),(18,.isl (v.items.map Val.enc)),(19,.int .i64 v.items.length),(20,.int .i64 i)]) (fun _ g=>h++([.arr 0 4 [v.enc]]++g))
     (fun _ r o=>∃ g,o=if r.all arcI=true then (.exit 0,[(1,.ptr h.length 0 4 0 0),(18,.isl (v.items.map Val.enc)),(19,.int .i64 v.items.length),(20,.int .i64 (v.items).length)],h++([.arr 0 4 [v.enc]]++g)) else (.ret,[(2,.bool false)],h++([.arr 0 4 [v.enc]]++g))) ?_ ?_ [] trivial
 ·obtain ⟨o,h1,g,h2⟩:=hlp
  exact ⟨g,h2 ▸ h1⟩
 ·intro i x r g hd hi hx _ K hK
  have hw:=wrap_nat (n:=i + 1) (by omega)
  simp at hw
  have hm : x ∈ (v.items):=by rw [← hx]; exact List.getElem_mem hi
  have hb:=hasI_ok x
  have hin:=fun ws h=>in_ok x.int 0 1000000000 ws h
  simp at hb
  cases hv : arcI x
  ·refine ⟨_,?_,(g++[.arr 0 4 [x.enc]]),by simp only [List.all_cons,hv,Bool.false_and,Bool.false_eq_true,if_false]; rfl⟩
   unfold arcI at hv
   cases q2 : hasP true false false x <;> cases q3 : inP x.int 0 1000000000 <;> by_cases q1 : x.kind=2 <;> simp [q1,q2,q3] at hv <;> (try simp only [q2] at hb) <;> (try simp only [q3] at hin) <;> (try simp only [q1] at hb) <;> simp [c90L0,hi,hx,hin,q1,hb]
  ·obtain ⟨o,h4,g2,h5⟩:=hK (g++[.arr 0 4 [x.enc]]) trivial
   refine ⟨o,?_,g2,by simp only [List.all_cons,hv,Bool.true_and]; exact h5⟩
   simp at h4
   unfold arcI at hv
   cases q2 : hasP true false false x <;> cases q3 : inP x.int 0 1000000000 <;> by_cases q1 : x.kind=2 <;> simp [q1,q2,q3] at hv <;> (try simp only [q2] at hb) <;> (try simp only [q3] at hin) <;> (try simp only [q1] at hb h4) <;> simp [c90L0,hi,hx,hin,q1,hb,hw,h4]
 ·intro g K _
  refine ⟨_,?_,g,by simp only [List.all_nil,if_true]; rfl⟩
  simp [c90L0]
theorem arcs_ok (v : Val) (hv : v.size≤67108864) (ws : Nat) (h : Avm.H) : callL cfg ws 90 [v.enc] h=some (.bool (arcP v),h):=by
 have hh:=hasL_ok v
 have hin:=fun ws h=>in_ok (v.items.length : Int) 2 10 ws h
 obtain ⟨g,hl⟩:=arcs_loop v hv h
 refine callL_fn rfl rfl ?_
 unfold arcP
 simp at hh
 cases q1 : hasP false false true v
 ·rw [q1] at hh
  simp [F90,c90,hh]
 ·rw [q1] at hh
  cases q2 : inP (v.items.length : Int) 2 10
  ·rw [q2] at hin
   simp [F90,c90,hh,hin]
  ·rw [q2] at hin
   cases q3 : v.items.all arcI
   ·rw [q3] at hl
    simp at hl
    simp [F90,c90,hh,hin,hl]
   ·rw [q3] at hl
    simp at hl
    simp only [inP,Bool.and_eq_true,decide_eq_true_eq] at q2
    obtain ⟨a,b,r,hab⟩ : ∃ a b r,v.items=a :: b :: r:=by
     match hvi : v.items with
     | []=>rw [hvi] at q2; simp at q2
     | [a]=>rw [hvi] at q2; simp at q2
     | a :: b :: r=>exact ⟨a,b,r,rfl⟩
    rw [hab] at hl hh hin
    simp at hl hh hin
    by_cases q4 : a.int=2
    ·simp [F90,c90,hh,hin,hl,hab,arc2,q4] <;> simp [q4] at hl hh <;> simp [hh,hin,hl,q4]
    ·simp [F90,c90,hh,hin,hl,hab,arc2,q4]
theorem zero_right : Ty.zero.allP rightP=true:=by
 rw [Ty.allP_eq]
 simp [Ty.zero,Ty.inner,Ty.comp,rightP,Ty.onone,Ty.n0,Ty.l0,Ty.h0,Ty.i0,Ty.k0,eqS]
theorem allP_inner {p : Ty→Bool} {t x : Ty} (h : t.allP p=true) (hx : x ∈ t.inner) : x.allP p=true:=by
 rw [Ty.allP_eq,Bool.and_eq_true,List.all_eq_true] at h
 exact h.2 x hx
theorem allP_self {p : Ty→Bool} {t : Ty} (h : t.allP p=true) : p t=true:=by
 rw [Ty.allP_eq,Bool.and_eq_true] at h
 exact h.1
theorem same_zero_put {t : Ty} (ps : List ByteArray) (args : List Ty) (h : t.same Ty.zero=true) : (t.put ps args).same Ty.zero=true:=by
 rw [same_zero] at h
 simp only [Bool.and_eq_true,decide_eq_true_eq] at h
 obtain ⟨h1,h2,h3,h4,h5,h6,h7,h8⟩:=h
 have hp : t.par ps=none:=by unfold Ty.par; rw [if_neg]; rw [h1]; rintro ⟨e,_⟩; cases e
 rw [Ty.put_eq,hp,same_zero]
 have h7' : t.items=[]:=by simpa [Ty.i0] using h7
 have h8' : t.kids=[]:=by simpa [Ty.k0] using h8
 simp only [Ty.kind_mk,h1,decide_true,Bool.true_and,Ty.n0,Ty.name_mk,Ty.l0,Ty.lo_mk,Ty.h0,Ty.hi_mk,Ty.free_mk,Ty.ext_mk,Ty.i0,Ty.items_mk,Ty.k0,Ty.kids_mk,h7',h8',List.map_nil,List.isEmpty_nil,Bool.and_true] at *
 simp only [h2,h3,h4,h5,h6,Bool.and_true]
theorem ite_imp {c : Prop} [Decidable c] {a a' b b' : Bool} (h : (if c then a else b)=true) (h1 : a=true→a'=true) (h2 : b=true→b'=true) : (if c then a' else b')=true:=by
 by_cases q : c
 ·rw [if_pos q] at h ⊢; exact h1 h
 ·rw [if_neg q] at h ⊢; exact h2 h
def Ty.shell (t : Ty) (f : It→It) (g : Ty→Ty) : Ty:=.mk t.kind t.name t.lo t.hi t.free t.ext (t.items.map f) (t.kids.map g)
theorem right_shell (t : Ty) (f : It→It) (g : Ty→Ty) (he : ∀ i,(f i).extra=i.extra) (ho : ∀ i,plainI (f i)=plainI i) (hb : ∀ i ∈ t.items,bareI i=true→bareI (f i)=true) (h : rightP t=true) : rightP (t.shell f g)=true:=by
 have e1 : (t.items.map f).findIdx? It.extra=t.items.findIdx? It.extra:=by
  rw [List.findIdx?_map]; congr 1; funext i; exact he i
 have e2 : ∀ j,((t.items.map f).drop j).all It.extra=(t.items.drop j).all It.extra:=fun j=>by
  rw [← List.map_drop,List.all_map]; congr 1; funext i; exact he i
 have e3 : (t.items.map f).all plainI=t.items.all plainI:=by
  rw [List.all_map]; congr 1; funext i; exact ho i
 have e4 : t.items.all bareI=true→(t.items.map f).all bareI=true:=fun h=>by
  rw [List.all_eq_true] at h ⊢
  intro x hx
  obtain ⟨i,hi,rfl⟩:=List.mem_map.1 hx
  exact hb i hi (h i hi)
 have e5 : ∀ n,itP (t.shell f g) n=itP t n:=fun n=>by
  unfold itP Ty.shell
  simp only [Ty.items_mk,Ty.ext_mk,e1,e2,List.length_map]
 have e6 : (t.items.map f).isEmpty=t.items.isEmpty:=by cases t.items <;> rfl
 have e7 : (t.kids.map g).isEmpty=t.kids.isEmpty:=by cases t.kids <;> rfl
 have k1 : ∀ a b,rngP (t.shell f g) a b=rngP t a b:=fun _ _=>rfl
 have o1 : (t.shell f g).onone=t.onone:=by simp only [Ty.onone,Ty.shell,Ty.n0,Ty.l0,Ty.h0,Ty.i0,Ty.k0,Ty.name_mk,Ty.lo_mk,Ty.hi_mk,Ty.free_mk,Ty.ext_mk,Ty.items_mk,Ty.kids_mk,e6,e7] <;> rfl
 have o2 : (t.shell f g).oLFE=t.oLFE:=by simp only [Ty.oLFE,Ty.shell,Ty.n0,Ty.l0,Ty.h0,Ty.i0,Ty.k0,Ty.name_mk,Ty.lo_mk,Ty.hi_mk,Ty.free_mk,Ty.ext_mk,Ty.items_mk,Ty.kids_mk,e6,e7] <;> rfl
 have o3 : (t.shell f g).oEI=t.oEI:=by simp only [Ty.oEI,Ty.shell,Ty.n0,Ty.l0,Ty.h0,Ty.i0,Ty.k0,Ty.name_mk,Ty.lo_mk,Ty.hi_mk,Ty.free_mk,Ty.ext_mk,Ty.items_mk,Ty.kids_mk,e6,e7] <;> rfl
 have o4 : (t.shell f g).oLFEK=t.oLFEK:=by simp only [Ty.oLFEK,Ty.shell,Ty.n0,Ty.l0,Ty.h0,Ty.i0,Ty.k0,Ty.name_mk,Ty.lo_mk,Ty.hi_mk,Ty.free_mk,Ty.ext_mk,Ty.items_mk,Ty.kids_mk,e6,e7] <;> rfl
 have o5 : (t.shell f g).oNK=t.oNK:=by simp only [Ty.oNK,Ty.shell,Ty.n0,Ty.l0,Ty.h0,Ty.i0,Ty.k0,Ty.name_mk,Ty.lo_mk,Ty.hi_mk,Ty.free_mk,Ty.ext_mk,Ty.items_mk,Ty.kids_mk,e6,e7] <;> rfl
 have kk : (t.shell f g).kind=t.kind:=rfl
 have kl : (t.shell f g).kids.length=t.kids.length:=by simp [Ty.shell]
 have ki : (t.shell f g).items=t.items.map f:=rfl
 unfold rightP at h ⊢
 rw [o1,o2,o3,o4,o5,kk,kl,ki,e3,e5,e5]
 simp only [k1]
 exact ite_imp h id fun h=>ite_imp h id fun h=>ite_imp h id fun h=>ite_imp h id fun h=>ite_imp h id fun h=>ite_imp h (fun h=>by simp only [Bool.and_eq_true] at h ⊢; exact ⟨h.1,h.2.1,e4 h.2.2⟩) fun h=>h
theorem put_right (ps : List ByteArray) (args : List Ty) (ha : ∀ a ∈ args,a.allP rightP=true) : ∀ (n : Nat) (t : Ty),t.size≤n→t.allP rightP=true→(t.put ps args).allP rightP=true
 | 0,t,h,_=>by have:=t.size_pos; omega
 | n + 1,t,h,hr=>by
  rw [Ty.put_eq]
  cases hp : t.par ps with
  | some i=>
   dsimp only
   cases hi : args[i]? with
   | none=>exact zero_right
   | some a=>exact ha a (List.mem_of_getElem? hi)
  | none=>
   dsimp only
   have hsh : (Ty.mk t.kind t.name t.lo t.hi t.free t.ext (t.items.map fun x=>x.withOf (x.of.put ps args)) (t.kids.map fun x=>x.put ps args))=t.shell (fun x=>x.withOf (x.of.put ps args)) (fun x=>x.put ps args):=rfl
   rw [hsh,Ty.allP_eq,Bool.and_eq_true]
   refine ⟨right_shell t _ _ (fun _=>rfl) (fun _=>rfl) (fun i _ hb=>?_) (allP_self hr),?_⟩
   ·unfold bareI at hb ⊢
    simp only [Bool.and_eq_true] at hb ⊢
    exact ⟨same_zero_put ps args hb.1,hb.2⟩
   ·rw [List.all_eq_true]
    intro x hx
    unfold Ty.inner Ty.shell at hx
    rcases List.mem_append.1 hx with hx | hx
    ·obtain ⟨y,hy,rfl⟩:=List.mem_map.1 (by simpa using hx : x ∈ t.kids.map fun x=>x.put ps args)
     exact put_right ps args ha n y (by have:=Ty.mem_kids hy; omega) (allP_inner hr (List.mem_append_left _ hy))
    ·split at hx
     ·rename_i hc
      obtain ⟨i,hi,rfl⟩:=List.mem_map.1 hx
      obtain ⟨j,hj,rfl⟩:=List.mem_map.1 (by simpa using hi : i ∈ t.items.map fun x=>x.withOf (x.of.put ps args))
      have hc' : t.comp=true:=hc
      refine put_right ps args ha n j.of (by have:=Ty.mem_of hj; omega) (allP_inner hr ?_)
      unfold Ty.inner
      rw [hc']
      exact List.mem_append_right _ (List.mem_map_of_mem hj)
     ·cases hx
def Md.fm (m : Md) : Prop:=∀ d ∈ m.defs,d.of.allP rightP=true
theorem step_right (m : Md) (hf : m.fm) {t u : Ty} (ht : t.allP rightP=true) (h : stepB m t=some u) : u.allP rightP=true:=by
 unfold stepB at h
 split at h
 ·cases h
 ·rename_i d hd
  have hdm:=List.mem_of_find?_eq_some hd
  split at h
  ·cases h
  ·split at h
   ·cases h; exact hf d hdm
   ·split at h
    ·cases h
     exact put_right _ _ (fun a ha=>allP_inner ht (List.mem_append_left _ ha)) _ _ (Nat.le_refl _) (hf d hdm)
    ·cases h
theorem beh_inv (m : Md) (p : Ty→Prop) (hs : ∀ t u,p t→stepB m t=some u→p u) : ∀ (n : Nat) (t b : Ty),p t→beh m n t=some b→p b∧b.kind ≠ 10
 | 0,t,b,_,h=>by cases h
 | n + 1,t,b,hp,h=>by
  unfold beh at h
  split at h
  ·cases hst : stepB m t with
   | none=>rw [hst] at h; cases h
   | some u=>rw [hst] at h; exact beh_inv m p hs n u b (hs t u hp hst) h
  ·rename_i q; cases h; exact ⟨hp,q⟩
theorem beh_good (m : Md) (hm : m.ok) (hf : m.fm) {t b : Ty} (ht : t.wid≤67108864) (hr : t.allP rightP=true) (h : beh m 21 t=some b) : b.wid≤67108864∧b.allP rightP=true∧b.kind ≠ 10:=by
 have h1:=beh_inv m (fun t=>t.wid≤67108864∧t.allP rightP=true) (fun t u hp hs=>⟨step_wid m hm hp.1 hs,step_right m hf hp.2 hs⟩) 21 t b ⟨ht,hr⟩ h
 exact ⟨h1.1.1,h1.1.2,h1.2⟩
end Go.Proofs.YtflbneepngjglaaGreatDoor
namespace Go.Proofs.YtflbneepngjglaaGreatDoor
open Go Go.Avm
def partB (sub : Ty→Val→Bool) (p : It × Val) : Bool:=(decide (p.2.kind=12) && (hasP false false false p.2 && mayP p.1)) || sub p.1.of p.2
def fitS (b : Ty) (v : Val) (sub : Ty→Val→Bool) : Bool:=
 if b.kind=0 then hasP false false false v
 else if b.kind=1 then hasP true false false v && inP v.int 0 1
 else if b.kind=2 then hasP true false false v && (inP v.int (-1000000000000000) 1000000000000000 && (b.free || (b.ext || inP v.int b.lo b.hi)))
 else if b.kind=3 then hasP true false false v && inP v.int 0 ((b.items.length : Int) - 1)
 else if b.kind=4 then hasP false true false v && allowP b (v.bytes.size : Int) 4000
 else if b.kind=5 then hasP false true false v && (v.bytes.data.toList.all d01 && allowP b (v.bytes.size : Int) 32000)
 else if b.kind=6 then arcP v
 else if b.kind=11 then hasP false true false v && decide (v.bytes.size≤4000)
 else if b.kind=7 then hasP false false true v && (allowP b (v.items.length : Int) 200 && v.items.all (sub (b.kids.headD Ty.zero)))
 else if b.kind=9 then hasP true false true v && (inP v.int 0 ((b.items.length : Int) - 1) && (decide (v.items.length=1) && sub ((b.items[v.int.toNat]?.map It.of).getD Ty.zero) (v.items.headD (.mk 0 0 ⟨#[]⟩ []))))
 else hasP false false true v && (decide (v.items.length=b.items.length) && (b.items.zip v.items).all (partB sub))
def fitB (m : Md) : Nat→Ty→Val→Bool
 | 0,_,_=>false
 | n + 1,t,v=>match beh m 21 t with
  | none=>false
  | some b=>decide (v.kind=b.kind) && fitS b v (fitB m n)
theorem containsV_ok {g : FuncId} {k : Nat} {p : Val→Bool} {cap cap' : List AV} (l : List Val) (hl : l.length≤67108864) (hs : Still cfg g) (h : Avm.H) (hcap : snapL (snap h 7) cap=some cap') (hcp : pureL cap'=true) (hp : ∀ x ∈ l,∀ ws h',callL cfg ws g (cap'.take k++([x.enc]++cap'.drop k)) h'=some (.bool (p x),h')) (ws : Nat) :
    callL cfg ws 91 [.isl (l.map Val.enc),.clos g k cap] h=some (.bool (l.any p),h):=
 containsFunc_gen (K:=174) (sz:=4) (ag:=true) rfl rfl rfl rfl hl (by simp) (Val.henc l) hs hcap hcp hp ws
theorem fits_loop (m : Md) (b : Ty) (v : Val) (hlen : v.items.length=b.items.length) (hvl : v.items.length≤67108864) (sub : Ty→Val→Bool) (hsub : ∀ i ∈ b.items,∀ x ∈ v.items,∀ ws h,callL cfg ws 49 [m.enc,i.of.enc,x.enc] h=some (.bool (sub i.of x),h)) (h : Avm.H) :
    ∃ g,roundsL (evC (callL cfg) roundsL cfg.pol h.length h.length c49L0) [3,4,186,187,188] [(3,.ptr h.length 0 2 0 0),(4,.ptr (h.length + 1) 0 8 0 0),(186,.isl (v.items.map Val.enc)),(187,.int .i64 v.items.length),(188,.int .i64 (0 : Nat))] (h++([.arr 0 2 [m.enc],.arr 0 8 [b.enc],.arr 0 4 [v.enc]]++[]))=some (if (b.items.zip v.items).all (partB sub)=true then (.exit 1,[(3,.ptr h.length 0 2 0 0),(4,.ptr (h.length + 1) 0 8 0 0),(186,.isl (v.items.map Val.enc)),(187,.int .i64 v.items.length),(188,.int .i64 v.items.length)],h++([.arr 0 2 [m.enc],.arr 0 8 [b.enc],.arr 0 4 [v.enc]]++g)) else (.ret,[(6,.bool false)],h++([.arr 0 2 [m.enc],.arr 0 8 [b.enc],.arr 0 4 [v.enc]]++g))):=by
 have hzl : (b.items.zip v.items).length=v.items.length:=by simp [hlen]
 have hl : (b.items.zip v.items).length≤67108864:=by omega
 have hlp:=loop_post (γ:=Avm.H) (f:=evC (callL cfg) roundsL cfg.pol h.length h.length c49L0) (keep:=[3,4,186,187,188]) (b.items.zip v.items) (fun _ _=>True)
     (fun i _=>[(3,.ptr h.length 0 2 0 0),(4,.ptr (h.length + 1) 0 8 0 0),(186,.isl (v.items.map Val.enc)),(187,.int .i64 v.items.length),(188,.int .i64 i)]) (fun _ g=>h++([.arr 0 2 [m.enc],.arr 0 8 [b.enc],.arr 0 4 [v.enc]]++g))
     (fun _ r o=>∃ g,o=if r.all (partB sub)=true then (.exit 1,[(3,.ptr h.length 0 2 0 0),(4,.ptr (h.length + 1) 0 8 0 0),(186,.isl (v.items.map Val.enc)),(187,.int .i64 v.items.length),(188,.int .i64 v.items.length)],h++([.arr 0 2 [m.enc],.arr 0 8 [b.enc],.arr 0 4 [v.enc]]++g)) else (.ret,[(6,.bool false)],h++([.arr 0 2 [m.enc],.arr 0 8 [b.enc],.arr 0 4 [v.enc]]++g))) ?_ ?_ [] trivial
 ·obtain ⟨o,h1,g,h2⟩:=hlp
  exact ⟨g,h2 ▸ h1⟩
 ·intro i x r g hd hi hx _ K hK
  have hw:=wrap_nat (n:=i + 1) (by omega)
  simp at hw
  have hiv : i < v.items.length:=by omega
  have hib : i < b.items.length:=by omega
  obtain ⟨y,x⟩:=x
  rw [List.getElem_zip] at hx
  have hxv : v.items[i]=x:=congrArg Prod.snd hx
  have hxb : b.items[i]=y:=congrArg Prod.fst hx
  have hmx : x ∈ v.items:=by rw [← hxv]; exact List.getElem_mem hiv
  have hmy : y ∈ b.items:=by rw [← hxb]; exact List.getElem_mem hib
  have e1:=fun ws h=>hsub y hmy x hmx ws h
  have e2:=fun ws h=>has0_ok x ws h
  have e3:=fun ws h=>may_ok y ws h
  simp [Md.enc] at e1 e2 e3
  cases hv : partB sub (y,x)
  ·refine ⟨_,?_,g++[.arr 0 4 [x.enc]],by simp only [List.all_cons,hv,Bool.false_and,Bool.false_eq_true,if_false]; rfl⟩
   unfold partB at hv
   simp at hv
   by_cases q1 : x.kind=12
   ·simp [q1] at e1 e2
    cases q2 : hasP false false false x
    ·rw [q2] at e2
     simp [c49L0,c49S19,Md.enc,hiv,hib,hxv,hxb,e1,e2,hv,q1]
    ·rw [q2] at e2
     cases q3 : mayP y
     ·rw [q3] at e3
      simp [c49L0,c49S19,Md.enc,hiv,hib,hxv,hxb,e1,e2,e3,hv,q1]
     ·simp [q1,q2,q3] at hv
   ·simp [c49L0,c49S19,Md.enc,hiv,hib,hxv,hxb,e1,hv,q1]
  ·obtain ⟨o,h4,g2,h5⟩:=hK (g++[.arr 0 4 [x.enc]]) trivial
   refine ⟨o,?_,g2,by simp only [List.all_cons,hv,Bool.true_and]; exact h5⟩
   unfold partB at hv
   simp at hv
   by_cases q1 : x.kind=12
   ·simp [q1] at e1 e2
    simp [Md.enc,q1] at h4
    cases q2 : hasP false false false x
    ·rw [q2] at e2
     simp [q1,q2] at hv
     simp [c49L0,c49S19,Md.enc,hiv,hib,hxv,hxb,e1,e2,hv,q1,hw,h4]
    ·rw [q2] at e2
     cases q3 : mayP y
     ·rw [q3] at e3
      simp [q1,q2,q3] at hv
      simp [c49L0,c49S19,Md.enc,hiv,hib,hxv,hxb,e1,e2,e3,hv,q1,hw,h4]
     ·rw [q3] at e3
      simp [c49L0,c49S19,Md.enc,hiv,hib,hxv,hxb,e2,e3,q1,hw,h4]
   ·simp [q1] at hv
    simp [Md.enc] at h4
    simp [c49L0,c49S19,Md.enc,hiv,hib,hxv,hxb,e1,hv,q1,hw,h4]
 ·intro g K _
  refine ⟨_,?_,g,by simp only [List.all_nil,if_true]; rfl⟩
  simp [c49L0,Md.enc,hlen]
theorem fitsK_ok (m : Md) (t : Ty) (v : Val) (hv : v.size≤67108864) (b : Ty) (hb1 : b.wid≤67108864) (sub : Ty→Val→Bool)
    (hsub : ∀ x ∈ v.items,∀ ws h,callL cfg ws 49 [m.enc,(b.kids.headD Ty.zero).enc,x.enc] h=some (.bool (sub (b.kids.headD Ty.zero) x),h)) (hk : b.kids.length=1) (ws : Nat) (h : Avm.H) :
    callL cfg ws 91 [.isl (v.items.map Val.enc),.clos 92 0 [.ptr h.length 0 2 0 0,.ptr (h.length + 1) 0 8 0 0]] (h++[.arr 0 2 [m.enc],.arr 0 8 [b.enc],.arr 0 4 [v.enc]])=some (.bool (!v.items.all (sub (b.kids.headD Ty.zero))),h++[.arr 0 2 [m.enc],.arr 0 8 [b.enc],.arr 0 4 [v.enc]]):=by
 have hl : v.items.length≤67108864:=by have:=v.len_items; omega
 obtain ⟨k,hk⟩:=List.length_eq_one_iff.1 hk
 have hp : ∀ x ∈ v.items,∀ ws h',callL cfg ws 92 [x.enc,.iptr m.enc.cells,.iptr b.enc.cells] h'=some (.bool (!sub (b.kids.headD Ty.zero) x),h'):=fun x hx ws h'=>by
  have e1:=fun ws h=>hsub x hx ws h
  rw [hk] at e1
  simp [Md.enc] at e1
  refine callL_fn rfl rfl ?_
  simp [F92,c92,Md.enc,hk,e1]
 have h1:=containsV_ok (g:=92) (k:=0) (cap:=[.ptr h.length 0 2 0 0,.ptr (h.length + 1) 0 8 0 0]) (cap':=[.iptr m.enc.cells,.iptr b.enc.cells]) (p:=fun x=>!sub (b.kids.headD Ty.zero) x) v.items hl (.inl rfl) (h++[.arr 0 2 [m.enc],.arr 0 8 [b.enc],.arr 0 4 [v.enc]]) (by simp [Md.enc]) (by simp [Md.enc]) (by simpa using hp) ws
 rw [h1]
 simp [List.not_all_eq_any_not]
end Go.Proofs.YtflbneepngjglaaGreatDoor
