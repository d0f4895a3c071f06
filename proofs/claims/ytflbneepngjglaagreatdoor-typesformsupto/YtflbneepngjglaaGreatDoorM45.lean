/- Check of a module, the document: what is there twice. -/
import Derived.Test.YtflbneepngjglaaGreatDoorM44
set_option linter.all false
namespace Go.Proofs.YtflbneepngjglaaGreatDoor
open Go Go.Avm
@[irreducible] noncomputable def callA (ws : Nat) (g : FuncId) (args : List AV) (h : Avm.H) : Option (AV × Avm.H):=Qb cfg ws g args h
def i64s : List AV->Option (List Int)
 | []=>some []
 | .int .i64 a :: l=>(i64s l).map (a :: ·)
 | _=>none
theorem i64s_eI : ∀ {l : List AV} {r : List Int},i64s l=some r->l=eI r
 | [],r,h=>by simp only [i64s,Option.some.injEq] at h; subst h; rfl
 | v :: l,r,h=>by
  unfold i64s at h
  split at h
  ·rename_i e; cases e
  ·rename_i a l' e
   cases e
   cases h1 : i64s l with
   | none=>rw [h1] at h; cases h
   | some q=>rw [h1] at h; cases h; rw [i64s_eI h1]; rfl
  ·cases h
theorem firstA (k ver ws n : Nat) (h : Avm.H) (hn : n<=1048576) : Qb cfg ws 145 [.osl k ver 1 0 n] h=(match h[k]? with
    | some (.arr v 1 l)=>if v=ver/\l.length=n then (match i64s l with | some r=>some (.int .i64 (XD r),h) | none=>callA ws 145 [.osl k ver 1 0 n] h) else callA ws 145 [.osl k ver 1 0 n] h
    | _=>callA ws 145 [.osl k ver 1 0 n] h):=by
 have hA : callA ws 145 [.osl k ver 1 0 n] h=Qb cfg ws 145 [.osl k ver 1 0 n] h:=by unfold callA; rfl
 rw [hA]
 split
 ·rename_i v l hb
  split
  ·rename_i hv
   split
   ·rename_i r hr
    have hl:=i64s_eI hr
    have hrl : r.length<=1048576:=by have:=hv.2; rw [hl] at this; simp [eI] at this; omega
    rw [callL_snap (F:=F145) rfl rfl rfl (args':=[.isl (eI r)]) (by
     have e1 : snap h deep (.osl k ver 1 0 n)=some (.isl (eI r)):=by
      have hp:=Qx (h:=h) (n:=7) (pure_ints r)
      simp [deep,look,hb,hv.1,← hv.2,hl]
      unfold eI
      rw [hp]
     have e2 : snap h deep (.isl (eI r))=some (.isl (eI r)):=snap_pure (by simpa [eI] using pure_ints r)
     simp only [QF,e1,e2])]
    exact first_ok r hrl ws h
   ·rfl
  ·rfl
 ·rfl
theorem first_told (a b : Bool) (e : Int) (he : e ≠ 0) : XD [QB a e,QB b e]=QB (a && b) e:=by
 cases a <;> cases b <;> simp [XD,QB,he]
theorem strs_pure : ∀ l : List ByteArray,Qt (l.map .str)=true
 | []=>rfl
 | x :: l=>by simpa using strs_pure l
theorem allgreat_ok (l : List ByteArray) (hl : l.length<=1048576) (hz : ∀ s ∈ l,s.size<=1048576) (ws : Nat) (h : Avm.H) : Qb cfg ws 146 [.isl (l.map .str),.QI 147 0 []] h=some (.bool (!l.all Xa),h):=by
 have h1:=containsFunc_gen (K:=226) (J:=146) (cfg:=cfg) (g:=147) (k:=0) (cap:=[]) (cap':=[]) (enc:=AV.str) (p:=fun s=>!Xa s) (l:=l) (sz:=1) (ag:=false) rfl rfl rfl rfl hl (strs_pure l) (fun x _=>by simp) (.inl rfl) (h:=h) rfl rfl (fun x hx ws h'=>by
  have e0:=fun ws h=>great_ok x (hz x hx) ws h
  simp only [List.take_zero,List.drop_zero,List.nil_append,List.append_nil]
  refine Qc rfl rfl ?_
  simp [F147,c147,e0]) ws
 rw [h1,any_not]
def limD (d : Df) : Bool:=decide (d.params.length<=20) && limS d.of
def namD (m : Md) (d : Df) : Bool:=Xa d.name && (d.params.all Xa && d.of.QE (nameP m d.params))
def dupD (d : Df) : Bool:=distinct d.params && d.of.QE difP
end Go.Proofs.YtflbneepngjglaaGreatDoor
namespace Go.Proofs.YtflbneepngjglaaGreatDoor
open Go Go.Avm
theorem check_loop0 (m : Md) (hm : m.ok) (h : Avm.H) : ∃ w g,Qu h.length 1 1 g (((m.defs).map Df.name).map .str) w/\Qa (evC (Qb cfg) Qa cfg.pol h.length h.length c78L0) [1,3,4,5,6,7,8,30,31,32] [(1,.ptr h.length 0 2 0 0),(3,.int .i64 0),(4,.int .i64 (QB (Xa m.name) 6)),(5,.int .i64 0),(6,.int .i64 0),(7,.int .i64 0),(8,.osl (h.length + 1) 0 1 0 0),(30,.isl (m.defs.map Df.enc)),(31,.int .i64 m.defs.length),(32,.int .i64 (0 : Nat))] (h++([.arr 0 2 [m.enc]]++[.arr 0 1 []]))=some (.exit 0,[(1,.ptr h.length 0 2 0 0),(3,.int .i64 (QB ((m.defs.take m.defs.length).all limD) 2)),(4,.int .i64 (QB (Xa m.name && (m.defs.take m.defs.length).all (namD m)) 6)),(5,.int .i64 (QB ((m.defs.take m.defs.length).all dupD) 7)),(6,.int .i64 0),(7,.int .i64 0),(8,w),(30,.isl (m.defs.map Df.enc)),(31,.int .i64 m.defs.length),(32,.int .i64 m.defs.length)],h++([.arr 0 2 [m.enc]]++g)):=by
 have hl : m.defs.length<=1048576:=hm.len
 have hlp:=Qi (γ:=AV × Avm.H) (f:=evC (Qb cfg) Qa cfg.pol h.length h.length c78L0) (keep:=[1,3,4,5,6,7,8,30,31,32]) m.defs
     (fun i c=>Qu h.length 1 1 c.2 (((m.defs.take i).map Df.name).map .str) c.1)
     (fun i c=>[(1,.ptr h.length 0 2 0 0),(3,.int .i64 (QB ((m.defs.take i).all limD) 2)),(4,.int .i64 (QB (Xa m.name && (m.defs.take i).all (namD m)) 6)),(5,.int .i64 (QB ((m.defs.take i).all dupD) 7)),(6,.int .i64 0),(7,.int .i64 0),(8,c.1),(30,.isl (m.defs.map Df.enc)),(31,.int .i64 m.defs.length),(32,.int .i64 i)]) (fun _ c=>h++([.arr 0 2 [m.enc]]++c.2))
     (fun _ _ o=>∃ w g,Qu h.length 1 1 g (((m.defs).map Df.name).map .str) w/\o=(.exit 0,[(1,.ptr h.length 0 2 0 0),(3,.int .i64 (QB ((m.defs.take m.defs.length).all limD) 2)),(4,.int .i64 (QB (Xa m.name && (m.defs.take m.defs.length).all (namD m)) 6)),(5,.int .i64 (QB ((m.defs.take m.defs.length).all dupD) 7)),(6,.int .i64 0),(7,.int .i64 0),(8,w),(30,.isl (m.defs.map Df.enc)),(31,.int .i64 m.defs.length),(32,.int .i64 m.defs.length)],h++([.arr 0 2 [m.enc]]++g))) ?_ ?_ (.osl (h.length + 1) 0 1 0 0,[.arr 0 1 []]) (.inr ⟨0,0,by simp,by simp⟩)
 ·obtain ⟨o,hl,w,g,hI,ho⟩:=hlp
  refine ⟨w,g,hI,?_⟩
  rw [ho] at hl
  simpa [QB] using hl
 ·intro i x r c hd hi hx hI K hK
  have hw:=Qd (n:=i + 1) (by omega)
  simp at hw
  have hmx : x ∈ m.defs:=by rw [← hx]; exact List.getElem_mem hi
  have htk : m.defs.take (i + 1)=m.defs.take i++[x]:=by rw [List.take_succ_eq_append_getElem hi,hx]
  have hos:=hm.of x hmx
  have how : x.of.wid<=1048576:=Nat.le_trans x.of.XF hos
  have hon : x.of.nodes<=1048576:=Nat.le_trans (Ty.XJ _ x.of (Nat.le_refl _)) hos
  have hpl:=hm.params x hmx
  have e1:=fun ws h=>limits_ok x.of how hon ws h
  have e2:=fun ws h=>great_ok x.name (hm.dname x hmx) ws h
  have e3:=fun ws h=>allgreat_ok x.params hpl (hm.pnames x hmx) ws h
  obtain ⟨G,hG⟩ : ∃ G,x.params.all Xa=G:=⟨_,rfl⟩
  simp only [hG] at e3
  have e4:=fun ws h=>names_ok m x.params hm hpl x.of how hon ws h
  have e5:=fun ws h=>twice_ok (.isl (x.params.map .str)) x.params hpl ws h rfl
  have e6:=fun ws h=>differ_ok x.of how hon ws h
  rw [htk] at hK
  simp only [List.all_append,List.all_cons,List.all_nil,Bool.and_true,List.map_append,List.map_cons,List.map_nil] at hK
  generalize (m.defs.take i).all limD=A1 at *
  generalize (m.defs.take i).all (namD m)=A2 at *
  generalize (m.defs.take i).all dupD=A3 at *
  generalize Xa m.name=A0 at *
  have hlD : limD x=(decide ((x.params.length : Int)<=20) && limS x.of):=by
   have e : ((x.params.length : Int)<=20)=(x.params.length<=20):=propext (by omega)
   unfold limD; simp only [e]
  obtain ⟨w,g⟩:=c
  dsimp only at hI
  simp at e1 e2 e3 e4 e5 e6
  have hne : ∀ (a b : Bool) (e : Int),e ≠ 0->XD [QB a e,QB b e]=QB (a && b) e:=first_told
  simp [-Prod.exists,c78L0,c78S0,Md.enc,hi,hx,hw,e1,e2,e3,e4,e5,e6,told_ok,firstA,i64s,hne,Xr,appended]
  generalize hA : appI _ _ _ _ _ _ _=r'
  obtain ⟨v',g',rfl,h2⟩:=Qu.use (pre:=[_]) hI hA (by simp; omega) (by simp)
  obtain ⟨o,h4,h5⟩:=hK (v',g') (by simpa using h2)
  refine ⟨o,?_,by simpa [Md.enc] using h5⟩
  simp [Md.enc,hlD,namD,hG,dupD,Bool.and_assoc,-List.all_eq_true] at h4
  simp [Bool.and_assoc,h4,hw]
 ·intro c K hI
  rw [List.take_length] at hI
  refine ⟨_,?_,c.1,c.2,hI,rfl⟩
  simp [c78L0]
end Go.Proofs.YtflbneepngjglaaGreatDoor
namespace Go.Proofs.YtflbneepngjglaaGreatDoor
open Go Go.Avm
def loopD (m : Md) (d : Df) : Bool:=!decide (d.params=[]) || (beh m 21 d.of).isSome
def argD (d : Df) : Bool:=d.of.QE Qn
def setD (m : Md) (d : Df) : Bool:=d.of.QE (Xd m d.params)
theorem check_loop1 (m : Md) (hm : m.ok) (h g0 : Avm.H) : ∃ g,Qa (evC (Qb cfg) Qa cfg.pol h.length h.length c78L1) [1,6,7,104,105,106] [(1,.ptr h.length 0 2 0 0),(6,.int .i64 0),(7,.int .i64 0),(104,.isl (m.defs.map Df.enc)),(105,.int .i64 m.defs.length),(106,.int .i64 (0 : Nat))] (h++([.arr 0 2 [m.enc]]++g0))=some (.exit 2,[(1,.ptr h.length 0 2 0 0),(6,.int .i64 (QB ((m.defs.take m.defs.length).all (loopD m)) 13)),(7,.int .i64 (QB ((m.defs.take m.defs.length).all argD) 1)),(104,.isl (m.defs.map Df.enc)),(105,.int .i64 m.defs.length),(106,.int .i64 m.defs.length)],h++([.arr 0 2 [m.enc]]++g)):=by
 have hl : m.defs.length<=1048576:=hm.len
 have hlp:=Qi (γ:=Avm.H) (f:=evC (Qb cfg) Qa cfg.pol h.length h.length c78L1) (keep:=[1,6,7,104,105,106]) m.defs
     (fun _ _=>True) (fun i _=>[(1,.ptr h.length 0 2 0 0),(6,.int .i64 (QB ((m.defs.take i).all (loopD m)) 13)),(7,.int .i64 (QB ((m.defs.take i).all argD) 1)),(104,.isl (m.defs.map Df.enc)),(105,.int .i64 m.defs.length),(106,.int .i64 i)]) (fun _ g=>h++([.arr 0 2 [m.enc]]++g))
     (fun _ _ o=>∃ g,o=(.exit 2,[(1,.ptr h.length 0 2 0 0),(6,.int .i64 (QB ((m.defs.take m.defs.length).all (loopD m)) 13)),(7,.int .i64 (QB ((m.defs.take m.defs.length).all argD) 1)),(104,.isl (m.defs.map Df.enc)),(105,.int .i64 m.defs.length),(106,.int .i64 m.defs.length)],h++([.arr 0 2 [m.enc]]++g))) ?_ ?_ g0 trivial
 ·obtain ⟨o,hl,g,ho⟩:=hlp
  refine ⟨g,?_⟩
  rw [ho] at hl
  simpa [QB] using hl
 ·intro i x r g hd hi hx _ K hK
  have hw:=Qd (n:=i + 1) (by omega)
  simp at hw
  have hmx : x ∈ m.defs:=by rw [← hx]; exact List.getElem_mem hi
  have htk : m.defs.take (i + 1)=m.defs.take i++[x]:=by rw [List.take_succ_eq_append_getElem hi,hx]
  have hos:=hm.of x hmx
  have how : x.of.wid<=1048576:=Nat.le_trans x.of.XF hos
  have hon : x.of.nodes<=1048576:=Nat.le_trans (Ty.XJ _ x.of (Nat.le_refl _)) hos
  have hpl:=hm.params x hmx
  rw [htk] at hK
  simp only [List.all_append,List.all_cons,List.all_nil,Bool.and_true] at hK
  have hne : ∀ (a b : Bool) (e : Int),e ≠ 0->XD [QB a e,QB b e]=QB (a && b) e:=first_told
  have e4:=fun ws h=>behind_ok m hm x.of how ws h
  have e5:=fun ws h=>within_right x.of how hon ws h
  simp [Md.enc] at e4 e5
  generalize hA1 : (m.defs.take i).all (loopD m)=A1 at *
  generalize hA2 : (m.defs.take i).all argD=A2 at *
  have hK':=fun c'=>hK c' trivial
  clear hK
  by_cases hp : x.params=[]
  ·have hlD : loopD m x=(beh m 21 x.of).isSome:=by simp [loopD,hp]
   rw [hlD] at hK'
   generalize (beh m 21 x.of).isSome=B1 at *
   simp [-Prod.exists,argD,Md.enc] at hK'
   simp [-Prod.exists,c78L1,c78S2,c78T113,Md.enc,hi,hx,hw,hp,e4,e5,told_ok,firstA,i64s,hne,Xr]
   exact hK' _
  ·have hlD : loopD m x=true:=by simp [loopD,hp]
   have hpz : ¬ (x.params.length : Int)=0:=by
    have:=List.length_pos_iff.2 hp
    omega
   rw [hlD] at hK'
   simp [-Prod.exists,argD,Md.enc] at hK'
   simp [-Prod.exists,c78L1,c78S2,c78T113,Md.enc,hi,hx,hw,hp,hpz,e4,e5,told_ok,firstA,i64s,hne,Xr]
   exact hK' _
 ·intro c K _
  refine ⟨_,?_,c,rfl⟩
  simp [c78L1]
theorem check_loop2 (m : Md) (hm : m.ok) (hf : m.fm) (hq : ∀ d ∈ m.defs,QT d.of) (h g0 : Avm.H) : ∃ g,Qa (evC (Qb cfg) Qa cfg.pol h.length h.length c78L2) [1,7,142,143,144] [(1,.ptr h.length 0 2 0 0),(7,.int .i64 0),(142,.isl (m.defs.map Df.enc)),(143,.int .i64 m.defs.length),(144,.int .i64 (0 : Nat))] (h++([.arr 0 2 [m.enc]]++g0))=some (.exit 4,[(1,.ptr h.length 0 2 0 0),(7,.int .i64 (QB ((m.defs.take m.defs.length).all (setD m)) 1)),(142,.isl (m.defs.map Df.enc)),(143,.int .i64 m.defs.length),(144,.int .i64 m.defs.length)],h++([.arr 0 2 [m.enc]]++g)):=by
 have hl : m.defs.length<=1048576:=hm.len
 have hlp:=Qi (γ:=Avm.H) (f:=evC (Qb cfg) Qa cfg.pol h.length h.length c78L2) (keep:=[1,7,142,143,144]) m.defs
     (fun _ _=>True) (fun i _=>[(1,.ptr h.length 0 2 0 0),(7,.int .i64 (QB ((m.defs.take i).all (setD m)) 1)),(142,.isl (m.defs.map Df.enc)),(143,.int .i64 m.defs.length),(144,.int .i64 i)]) (fun _ g=>h++([.arr 0 2 [m.enc]]++g))
     (fun _ _ o=>∃ g,o=(.exit 4,[(1,.ptr h.length 0 2 0 0),(7,.int .i64 (QB ((m.defs.take m.defs.length).all (setD m)) 1)),(142,.isl (m.defs.map Df.enc)),(143,.int .i64 m.defs.length),(144,.int .i64 m.defs.length)],h++([.arr 0 2 [m.enc]]++g))) ?_ ?_ g0 trivial
 ·obtain ⟨o,hl,g,ho⟩:=hlp
  refine ⟨g,?_⟩
  rw [ho] at hl
  simpa [QB] using hl
 ·intro i x r g hd hi hx _ K hK
  have hw:=Qd (n:=i + 1) (by omega)
  simp at hw
  have hmx : x ∈ m.defs:=by rw [← hx]; exact List.getElem_mem hi
  have htk : m.defs.take (i + 1)=m.defs.take i++[x]:=by rw [List.take_succ_eq_append_getElem hi,hx]
  have hos:=hm.of x hmx
  have how : x.of.wid<=1048576:=Nat.le_trans x.of.XF hos
  have hon : x.of.nodes<=1048576:=Nat.le_trans (Ty.XJ _ x.of (Nat.le_refl _)) hos
  have hpl:=hm.params x hmx
  rw [htk] at hK
  simp only [List.all_append,List.all_cons,List.all_nil,Bool.and_true] at hK
  have hne : ∀ (a b : Bool) (e : Int),e ≠ 0->XD [QB a e,QB b e]=QB (a && b) e:=first_told
  have e7:=fun ws h c hc=>within_settled m hm hf x.params hpl x.of (hq x hmx) ws h c hc
  simp at e7
  generalize hA1 : (m.defs.take i).all (setD m)=A1 at *
  have hK':=fun c'=>hK c' trivial
  clear hK
  simp [-Prod.exists,setD,Md.enc] at hK'
  simp [-Prod.exists,c78L2,c78S3,Md.enc,hi,hx,hw,e7,told_ok,firstA,i64s,hne,Xr]
  exact hK' _
 ·intro c K _
  refine ⟨_,?_,c,rfl⟩
  simp [c78L2]
theorem check_S4 (m : Md) (hm : m.ok) (A B : Bool) (h g : Avm.H) (hf : A=true->B=true->m.fm/\∀ d ∈ m.defs,QT d.of) : ∃ g',evC (Qb cfg) Qa cfg.pol h.length h.length c78S4 [(1,.ptr h.length 0 2 0 0),(6,.int .i64 (QB A 13)),(7,.int .i64 (QB B 1))] (h++([.arr 0 2 [m.enc]]++g))=some (.ret,[(2,.int .i64 (if A=false then 13 else if B=false then 1 else QB (m.defs.all (setD m)) 1))],h++([.arr 0 2 [m.enc]]++g')):=by
 cases A
 ·simp [-Prod.exists,c78S4,firstA,i64s,XD,QB,Xr]
 ·cases B
  ·simp [-Prod.exists,c78S4,firstA,i64s,XD,QB,Xr]
  ·obtain ⟨h1,h2⟩:=hf rfl rfl
   obtain ⟨g2,hl⟩:=check_loop2 m hm h1 h2 h (g++[.arr 0 1 [.int .i64 0,.int .i64 0]])
   refine ⟨g2,?_⟩
   simp [Md.enc] at hl
   simp [c78S4,Md.enc,firstA,i64s,XD,QB,Xr,hl]
def errM (m : Md) : Int:=if 40 < m.defs.length then 2 else if m.defs.all limD=false then 2 else if (Xa m.name && m.defs.all (namD m))=false then 6 else if (m.defs.all dupD && distinct (m.defs.map Df.name))=false then 7 else if m.defs.all (loopD m)=false then 13 else if m.defs.all argD=false then 1 else QB (m.defs.all (setD m)) 1
theorem lim_of {m : Md} (h : m.defs.all limD=true) : m.lim:=fun d hd=>by
 have:=List.all_eq_true.1 h d hd
 simp only [limD,Bool.and_eq_true] at this
 exact lim_nodes this.2
theorem fm_of {m : Md} (h : m.defs.all argD=true) : m.fm:=fun d hd=>List.all_eq_true.1 h d hd
theorem QT_of {m : Md} (hm : m.ok) (h1 : m.defs.all limD=true) (h2 : m.defs.all argD=true) : ∀ d ∈ m.defs,QT d.of:=fun d hd=>
 ⟨Nat.le_trans d.of.XF (hm.of d hd),lim_of h1 d hd,fm_of h2 d hd,hm.of d hd⟩
end Go.Proofs.YtflbneepngjglaaGreatDoor
namespace Go.Proofs.YtflbneepngjglaaGreatDoor
open Go Go.Avm
theorem rcheck_0 (m : Md) (hm : m.ok) (h g0 : Avm.H) : ∃ g,Qa (evC (Qb cfg) Qa cfg.pol h.length h.length c102L0) [1,3] [(1,.ptr h.length 0 2 0 0),(3,.int .i64 (0 : Nat))] (h++([.arr 0 2 [m.enc]]++g0))=some (if m.defs.all limD=true then (.exit 0,[(1,.ptr h.length 0 2 0 0),(3,.int .i64 m.defs.length)],h++([.arr 0 2 [m.enc]]++g)) else (.ret,[(2,.int .i64 2)],h++([.arr 0 2 [m.enc]]++g))):=by
 have hl : m.defs.length<=1048576:=hm.len
 have hlp:=Qi (γ:=Avm.H) (f:=evC (Qb cfg) Qa cfg.pol h.length h.length c102L0) (keep:=[1,3]) m.defs (fun _ _=>True)
     (fun i _=>[(1,.ptr h.length 0 2 0 0),(3,.int .i64 i)]) (fun _ g=>h++([.arr 0 2 [m.enc]]++g))
     (fun _ r o=>∃ g,o=if r.all limD=true then (.exit 0,[(1,.ptr h.length 0 2 0 0),(3,.int .i64 m.defs.length)],h++([.arr 0 2 [m.enc]]++g)) else (.ret,[(2,.int .i64 2)],h++([.arr 0 2 [m.enc]]++g))) ?_ ?_ g0 trivial
 ·obtain ⟨o,h1,g,h2⟩:=hlp
  exact ⟨g,h2 ▸ h1⟩
 ·intro i x r g hd hi hx _ K hK
  have hw:=Qd (n:=i + 1) (by omega)
  simp at hw
  have hmx : x ∈ m.defs:=by rw [← hx]; exact List.getElem_mem hi
  have hos:=hm.of x hmx
  have how : x.of.wid<=1048576:=Nat.le_trans x.of.XF hos
  have hon : x.of.nodes<=1048576:=Nat.le_trans (Ty.XJ _ x.of (Nat.le_refl _)) hos
  have hpl:=hm.params x hmx
  have e1:=fun ws h=>limited_ok x.of how hon ws h
  simp at e1
  have hlD : limD x=(decide ((x.params.length : Int)<=20) && limS x.of):=by
   have e : ((x.params.length : Int)<=20)=(x.params.length<=20):=propext (by omega)
   unfold limD; simp only [e]
  cases hv : limD x
  ·have hlD':=hlD
   rw [hv] at hlD'
   replace hlD':=hlD'.symm
   refine ⟨_,?_,g,by simp only [List.all_cons,hv,Bool.false_and,Bool.false_eq_true,if_false]; rfl⟩
   by_cases q : (20 : Int) < x.params.length
   ·simp [c102L0,c102S0,Md.enc,hi,hx,q]
   ·have hl2 : limS x.of=false:=by
      have q2 : (x.params.length : Int)<=20:=by omega
      simpa [q2] using hlD'
    rw [hl2] at e1
    simp [c102L0,c102S0,Md.enc,hi,hx,q,e1]
  ·have hlD':=hlD
   rw [hv] at hlD'
   replace hlD':=hlD'.symm
   obtain ⟨o,h4,g2,h5⟩:=hK (g) trivial
   refine ⟨o,?_,g2,by simp only [List.all_cons,hv,Bool.true_and]; exact h5⟩
   simp [Md.enc] at h4
   have q2 : ¬ (20 : Int) < x.params.length:=by
    simp at hlD'
    omega
   have hl2 : limS x.of=true:=by
    simp at hlD'
    exact hlD'.2
   rw [hl2] at e1
   simp [c102L0,c102S0,Md.enc,hi,hx,q2,e1,hw,h4]
 ·intro g K _
  refine ⟨_,?_,g,by simp only [List.all_nil,if_true]; rfl⟩
  simp [c102L0,Md.enc]
theorem rcheck_1 (m : Md) (x : Df) (k : Nat) (hp : x.params.length<=1048576) (hz : ∀ p ∈ x.params,p.size<=1048576) (h g0 : Avm.H) : Qa (evC (Qb cfg) Qa cfg.pol h.length h.length c102L1) [1,4,5,6] [(1,.ptr h.length 0 2 0 0),(4,.int .i64 k),(5,.ptr (h.length + (g0.length + 1)) 0 10 0 0),(6,.int .i64 (0 : Nat))] (h++([.arr 0 2 [m.enc]]++(g0++[.arr 0 10 [x.enc]])))=some (if x.params.all Xa=true then (.exit 4,[(1,.ptr h.length 0 2 0 0),(4,.int .i64 k),(5,.ptr (h.length + (g0.length + 1)) 0 10 0 0),(6,.int .i64 x.params.length)],h++([.arr 0 2 [m.enc]]++(g0++[.arr 0 10 [x.enc]]))) else (.ret,[(2,.int .i64 6)],h++([.arr 0 2 [m.enc]]++(g0++[.arr 0 10 [x.enc]])))):=by
 have hl : x.params.length<=1048576:=hp
 refine Qz (f:=evC (Qb cfg) Qa cfg.pol h.length h.length c102L1) (keep:=[1,4,5,6]) x.params (fun i=>[(1,.ptr h.length 0 2 0 0),(4,.int .i64 k),(5,.ptr (h.length + (g0.length + 1)) 0 10 0 0),(6,.int .i64 i)]) (fun _=>h++([.arr 0 2 [m.enc]]++(g0++[.arr 0 10 [x.enc]])))
     (fun i r=>if r.all Xa=true then (.exit 4,[(1,.ptr h.length 0 2 0 0),(4,.int .i64 k),(5,.ptr (h.length + (g0.length + 1)) 0 10 0 0),(6,.int .i64 x.params.length)],h++([.arr 0 2 [m.enc]]++(g0++[.arr 0 10 [x.enc]]))) else (.ret,[(2,.int .i64 6)],h++([.arr 0 2 [m.enc]]++(g0++[.arr 0 10 [x.enc]])))) ?_ ?_
 ·intro i y r hd hi hx K hK
  have hw:=Qd (n:=i + 1) (by omega)
  simp at hw
  have hmy : y ∈ x.params:=by rw [← hx]; exact List.getElem_mem hi
  have e2:=fun ws h=>rgreat_ok y (hz y hmy) ws h
  rw [List.all_cons]
  cases q : Xa y
  ·rw [q] at e2
   simp [c102L1,Md.enc,hi,hx,e2]
  ·rw [q] at e2
   simp [Md.enc] at hK
   simp [c102L1,Md.enc,hi,hx,e2,hw,hK]
 ·intro K
  simp [c102L1,Md.enc]
def rnamD (m : Md) (d : Df) : Bool:=Xa d.name && (d.of.QE (knownP m d.params) && d.params.all Xa)
theorem rcheck_2 (m : Md) (hm : m.ok) (h g0 : Avm.H) : ∃ g,Qa (evC (Qb cfg) Qa cfg.pol h.length h.length c102L2) [1,4] [(1,.ptr h.length 0 2 0 0),(4,.int .i64 (0 : Nat))] (h++([.arr 0 2 [m.enc]]++g0))=some (if m.defs.all (rnamD m)=true then (.exit 2,[(1,.ptr h.length 0 2 0 0),(4,.int .i64 m.defs.length)],h++([.arr 0 2 [m.enc]]++g)) else (.ret,[(2,.int .i64 6)],h++([.arr 0 2 [m.enc]]++g))):=by
 have hl : m.defs.length<=1048576:=hm.len
 have hlp:=Qi (γ:=Avm.H) (f:=evC (Qb cfg) Qa cfg.pol h.length h.length c102L2) (keep:=[1,4]) m.defs (fun _ _=>True)
     (fun i _=>[(1,.ptr h.length 0 2 0 0),(4,.int .i64 i)]) (fun _ g=>h++([.arr 0 2 [m.enc]]++g))
     (fun _ r o=>∃ g,o=if r.all (rnamD m)=true then (.exit 2,[(1,.ptr h.length 0 2 0 0),(4,.int .i64 m.defs.length)],h++([.arr 0 2 [m.enc]]++g)) else (.ret,[(2,.int .i64 6)],h++([.arr 0 2 [m.enc]]++g))) ?_ ?_ g0 trivial
 ·obtain ⟨o,h1,g,h2⟩:=hlp
  exact ⟨g,h2 ▸ h1⟩
 ·intro i x r g hd hi hx _ K hK
  have hw:=Qd (n:=i + 1) (by omega)
  simp at hw
  have hmx : x ∈ m.defs:=by rw [← hx]; exact List.getElem_mem hi
  have hos:=hm.of x hmx
  have how : x.of.wid<=1048576:=Nat.le_trans x.of.XF hos
  have hon : x.of.nodes<=1048576:=Nat.le_trans (Ty.XJ _ x.of (Nat.le_refl _)) hos
  have hpl:=hm.params x hmx
  have e1:=fun ws h=>rgreat_ok x.name (hm.dname x hmx) ws h
  have e2:=fun ws h=>named_ok m x.params hm hpl x.of how hon ws h
  have e3:=rcheck_1 m x i hpl (hm.pnames x hmx) h g
  simp [Md.enc] at e1 e2
  cases hv : (rnamD m) x
  ·refine ⟨_,?_,g++[.arr 0 10 [x.enc]],by simp only [List.all_cons,hv,Bool.false_and,Bool.false_eq_true,if_false]; rfl⟩
   cases q1 : Xa x.name
   ·rw [q1] at e1
    simp [c102L2,c102S1,Md.enc,hi,hx,e1]
   ·rw [q1] at e1
    cases q2 : x.of.QE (knownP m x.params)
    ·rw [q2] at e2
     simp [c102L2,c102S1,Md.enc,hi,hx,e1,e2]
    ·rw [q2] at e2
     have q3 : x.params.all Xa=false:=by rw [rnamD,q1,q2] at hv; simpa only [Bool.true_and] using hv
     rw [q3] at e3
     simp [Md.enc] at e3
     simp [c102L2,c102S1,Md.enc,hi,hx,e1,e2,e3]
  ·obtain ⟨o,h4,g2,h5⟩:=hK (g++[.arr 0 10 [x.enc]]) trivial
   refine ⟨o,?_,g2,by simp only [List.all_cons,hv,Bool.true_and]; exact h5⟩
   simp [Md.enc] at h4
   simp only [rnamD,Bool.and_eq_true] at hv
   obtain ⟨q1,q2,q3⟩:=hv
   rw [q1] at e1
   rw [q2] at e2
   rw [q3] at e3
   simp [Md.enc] at e3
   simp [c102L2,c102S1,Md.enc,hi,hx,e1,e2,e3,hw,h4]
 ·intro g K _
  refine ⟨_,?_,g,by simp only [List.all_nil,if_true]; rfl⟩
  simp [c102L2,Md.enc]
end Go.Proofs.YtflbneepngjglaaGreatDoor
namespace Go.Proofs.YtflbneepngjglaaGreatDoor
open Go Go.Avm
theorem rcheck_3 (m : Md) (x : Df) (k : Nat) (hp : x.params.length<=1048576) (h g0 : Avm.H) : Qa (evC (Qb cfg) Qa cfg.pol h.length h.length c102L3) [1,7,8,9] [(1,.ptr h.length 0 2 0 0),(7,.int .i64 k),(8,.ptr (h.length + (g0.length + 1)) 0 10 0 0),(9,.int .i64 (0 : Nat))] (h++([.arr 0 2 [m.enc]]++(g0++[.arr 0 10 [x.enc]])))=some (if rdup [] x.params=true then (.ret,[(2,.int .i64 7)],h++([.arr 0 2 [m.enc]]++(g0++[.arr 0 10 [x.enc]]))) else (.exit 8,[(1,.ptr h.length 0 2 0 0),(7,.int .i64 k),(8,.ptr (h.length + (g0.length + 1)) 0 10 0 0),(9,.int .i64 x.params.length)],h++([.arr 0 2 [m.enc]]++(g0++[.arr 0 10 [x.enc]])))):=by
 have hl : x.params.length<=1048576:=hp
 have hlp:=Qz (f:=evC (Qb cfg) Qa cfg.pol h.length h.length c102L3) (keep:=[1,7,8,9]) x.params (fun i=>[(1,.ptr h.length 0 2 0 0),(7,.int .i64 k),(8,.ptr (h.length + (g0.length + 1)) 0 10 0 0),(9,.int .i64 i)]) (fun _=>h++([.arr 0 2 [m.enc]]++(g0++[.arr 0 10 [x.enc]])))
     (fun i r=>if rdup (x.params.take i) r=true then (.ret,[(2,.int .i64 7)],h++([.arr 0 2 [m.enc]]++(g0++[.arr 0 10 [x.enc]]))) else (.exit 8,[(1,.ptr h.length 0 2 0 0),(7,.int .i64 k),(8,.ptr (h.length + (g0.length + 1)) 0 10 0 0),(9,.int .i64 x.params.length)],h++([.arr 0 2 [m.enc]]++(g0++[.arr 0 10 [x.enc]])))) ?_ ?_
 ·exact hlp
 ·intro i y r hd hi hx K hK
  have hw:=Qd (n:=i + 1) (by omega)
  simp at hw
  have hmy : y ∈ x.params:=by rw [← hx]; exact List.getElem_mem hi
  have e2:=fun ws h=>has_ok (x.params.take i) y (by simp; omega) ws h
  have hmin : min i x.params.length=i:=by omega
  have hle : i<=x.params.length:=by omega
  have hle2 : (i : Int)<=x.params.length:=by omega
  have hso : szOk 1 (x.params.map AV.str)=true:=by simp [szOk]
  have htk : x.params.take (i + 1)=x.params.take i++[y]:=by rw [List.take_succ_eq_append_getElem hi,hx]
  rw [htk] at hK
  rw [rdup]
  unfold inS at e2
  have hany : (x.params.take i).any (fun p=>eqS p y)=(x.params.take i).any (fun p=>eqS y p):=by
   congr 1; funext p; unfold eqS
   by_cases e : y.toList=p.toList
   ·simp [e]
   ·have e2 : ¬ p.toList=y.toList:=fun q=>e q.symm
    simp [e,e2]
  rw [hany] at e2
  simp only [List.map_take] at e2
  cases q : (x.params.take i).any fun p=>eqS y p
  ·rw [q] at e2
   rw [Bool.false_or]
   simp [Md.enc] at hK
   simp [c102L3,c102S2,Md.enc,hi,hx,slcI,hso,e2,hw,hle,hle2,hmin,hK]
  ·rw [q] at e2
   simp [c102L3,c102S2,Md.enc,hi,hx,slcI,hso,e2,hle,hle2,hmin]
 ·intro K
  simp [c102L3,Md.enc,rdup]
def dupR (m : Md) : Nat->List Df->Bool
 | _,[]=>true
 | i,x :: r=>(decide (idxOf (isD x.name) m.defs=(i : Int)) && (x.of.QE difP && !rdup [] x.params)) && dupR m (i + 1) r
theorem rcheck_4 (m : Md) (hm : m.ok) (h g0 : Avm.H) : ∃ g,Qa (evC (Qb cfg) Qa cfg.pol h.length h.length c102L4) [1,7] [(1,.ptr h.length 0 2 0 0),(7,.int .i64 (0 : Nat))] (h++([.arr 0 2 [m.enc]]++g0))=some (if dupR m 0 m.defs=true then (.exit 6,[(1,.ptr h.length 0 2 0 0),(7,.int .i64 m.defs.length)],h++([.arr 0 2 [m.enc]]++g)) else (.ret,[(2,.int .i64 7)],h++([.arr 0 2 [m.enc]]++g))):=by
 have hl : m.defs.length<=1048576:=hm.len
 have hlp:=Qi (γ:=Avm.H) (f:=evC (Qb cfg) Qa cfg.pol h.length h.length c102L4) (keep:=[1,7]) m.defs (fun _ _=>True)
     (fun i _=>[(1,.ptr h.length 0 2 0 0),(7,.int .i64 i)]) (fun _ g=>h++([.arr 0 2 [m.enc]]++g))
     (fun i r o=>∃ g,o=if dupR m i r=true then (.exit 6,[(1,.ptr h.length 0 2 0 0),(7,.int .i64 m.defs.length)],h++([.arr 0 2 [m.enc]]++g)) else (.ret,[(2,.int .i64 7)],h++([.arr 0 2 [m.enc]]++g))) ?_ ?_ g0 trivial
 ·obtain ⟨o,h1,g,h2⟩:=hlp
  exact ⟨g,h2 ▸ h1⟩
 ·intro i x r g hd hi hx _ K hK
  have hw:=Qd (n:=i + 1) (by omega)
  simp at hw
  have hmx : x ∈ m.defs:=by rw [← hx]; exact List.getElem_mem hi
  have hos:=hm.of x hmx
  have how : x.of.wid<=1048576:=Nat.le_trans x.of.XF hos
  have hon : x.of.nodes<=1048576:=Nat.le_trans (Ty.XJ _ x.of (Nat.le_refl _)) hos
  have hpl:=hm.params x hmx
  have e1:=fun ws h=>find_ok m x.name hm.len ws h
  have e2:=fun ws h=>once_ok x.of how hon ws h
  have e3:=rcheck_3 m x i hpl h g
  simp [Md.enc] at e1 e2
  by_cases q1 : idxOf (isD x.name) m.defs=(i : Int)
  ·cases q2 : x.of.QE difP
   ·refine ⟨_,?_,g++[.arr 0 10 [x.enc]],by simp only [dupR,q2,Bool.false_and,Bool.and_false,Bool.false_eq_true,if_false]; rfl⟩
    rw [q2] at e2
    simp [c102L4,c102S3,Md.enc,hi,hx,e1,e2,q1]
   ·rw [q2] at e2
    cases q3 : rdup [] x.params
    ·rw [q3] at e3
     simp [Md.enc] at e3
     obtain ⟨o,h4,g2,h5⟩:=hK (g++[.arr 0 10 [x.enc]]) trivial
     refine ⟨o,?_,g2,by simp only [dupR,q1,q2,q3,decide_true,Bool.not_false,Bool.true_and]; exact h5⟩
     simp [Md.enc] at h4
     simp [c102L4,c102S3,Md.enc,hi,hx,e1,e2,e3,q1,hw,h4]
    ·rw [q3] at e3
     simp [Md.enc] at e3
     refine ⟨_,?_,g++[.arr 0 10 [x.enc]],by simp only [dupR,q2,q3,Bool.not_true,Bool.false_and,Bool.and_false,Bool.false_eq_true,if_false]; rfl⟩
     simp [c102L4,c102S3,Md.enc,hi,hx,e1,e2,e3,q1]
  ·refine ⟨_,?_,g++[.arr 0 10 [x.enc]],by simp only [dupR,q1,decide_false,Bool.false_and,Bool.false_eq_true,if_false]; rfl⟩
   simp [c102L4,c102S3,Md.enc,hi,hx,e1,q1]
 ·intro g K _
  refine ⟨_,?_,g,by simp only [dupR,if_true]; rfl⟩
  simp [c102L4,Md.enc]
theorem rdup_nil (l : List ByteArray) : rdup [] l = !distinct l:=by
 rw [rdup_eq]; simp
theorem idxOf_pre {α : Type} (p : α->Bool) (pre : List α) (x : α) (r : List α) (hx : p x=true) : decide (idxOf p (pre++x :: r)=(pre.length : Int)) = !pre.any p:=by
 unfold idxOf
 rw [List.findIdx?_append]
 cases q : pre.findIdx? p with
 | none=>
  rw [List.findIdx?_eq_none_iff] at q
  have : pre.any p=false:=by
   rw [List.any_eq_false]
   intro y hy; simp [q y hy]
  simp [this,List.findIdx?_cons,hx]
 | some j=>
  rw [List.findIdx?_eq_some_iff_getElem] at q
  obtain ⟨hj,h1,_⟩:=q
  have : pre.any p=true:=List.any_eq_true.2 ⟨_,List.getElem_mem hj,h1⟩
  rw [this,Option.some_or]
  exact decide_eq_false (by dsimp only; omega)
theorem dupR_eq (m : Md) : ∀ (r pre : List Df),m.defs=pre++r->dupR m pre.length r=(r.all dupD && !rdup (pre.map Df.name) (r.map Df.name))
 | [],_,_=>rfl
 | x :: r,pre,h=>by
  have ih:=dupR_eq m r (pre++[x]) (by simp [h])
  rw [List.length_append,List.length_singleton] at ih
  rw [dupR,ih,List.all_cons,List.map_cons,rdup,h,idxOf_pre _ _ _ _ (by simp [isD,eqS]),rdup_nil]
  have e1 : pre.any (isD x.name)=(pre.map Df.name).any (fun y=>eqS x.name y):=by
   rw [List.any_map]; congr 1; funext y; simp only [isD,Function.comp]; exact eqS_symm _ _
  rw [e1,List.map_append,List.map_cons,List.map_nil]
  rw [show dupD x=(distinct x.params && x.of.QE difP) from rfl]
  generalize r.all dupD=Z
  cases (pre.map Df.name).any (fun y=>eqS x.name y) <;> cases x.of.QE difP <;> cases distinct x.params <;> cases Z <;> cases rdup (pre.map Df.name++[x.name]) (r.map Df.name) <;> rfl
theorem dupR_all (m : Md) : dupR m 0 m.defs=(m.defs.all dupD && distinct (m.defs.map Df.name)):=by
 have:=dupR_eq m m.defs [] rfl
 rw [List.length_nil,List.map_nil,rdup_nil,Bool.not_not] at this
 exact this
end Go.Proofs.YtflbneepngjglaaGreatDoor
