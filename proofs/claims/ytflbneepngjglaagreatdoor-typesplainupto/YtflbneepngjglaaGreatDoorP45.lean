/- The error of a type in a module. -/
import Derived.Test.YtflbneepngjglaaGreatDoorP44
set_option linter.all false
namespace Go.Proofs.YtflbneepngjglaaGreatDoor
open Go Go.Avm
theorem check_loop0 (m : Md) (hm : m.ok) (h : Avm.H) : ∃ w g,SlcIn h.length 1 1 g (((m.defs).map Df.name).map .str) w∧roundsL (evC (callL cfg) roundsL cfg.pol h.length h.length c78L0) [1,3,4,5,6,7,8,30,31,32] [(1,.ptr h.length 0 2 0 0),(3,.int .i64 0),(4,.int .i64 (toldP (greatB m.name) 6)),(5,.int .i64 0),(6,.int .i64 0),(7,.int .i64 0),(8,.osl (h.length + 1) 0 1 0 0),(30,.isl (m.defs.map Df.enc)),(31,.int .i64 m.defs.length),(32,.int .i64 (0 : Nat))] (h++([.arr 0 2 [m.enc]]++[.arr 0 1 []]))=some (.exit 0,[(1,.ptr h.length 0 2 0 0),(3,.int .i64 (toldP ((m.defs.take m.defs.length).all limD) 2)),(4,.int .i64 (toldP (greatB m.name && (m.defs.take m.defs.length).all (namD m)) 6)),(5,.int .i64 (toldP ((m.defs.take m.defs.length).all dupD) 7)),(6,.int .i64 0),(7,.int .i64 0),(8,w),(30,.isl (m.defs.map Df.enc)),(31,.int .i64 m.defs.length),(32,.int .i64 m.defs.length)],h++([.arr 0 2 [m.enc]]++g)):=by
 have hl : m.defs.length≤67108864:=hm.len
 have hlp:=loop_post (γ:=AV × Avm.H) (f:=evC (callL cfg) roundsL cfg.pol h.length h.length c78L0) (keep:=[1,3,4,5,6,7,8,30,31,32]) m.defs
     (fun i c=>SlcIn h.length 1 1 c.2 (((m.defs.take i).map Df.name).map .str) c.1)
     (fun i c=>[(1,.ptr h.length 0 2 0 0),(3,.int .i64 (toldP ((m.defs.take i).all limD) 2)),(4,.int .i64 (toldP (greatB m.name && (m.defs.take i).all (namD m)) 6)),(5,.int .i64 (toldP ((m.defs.take i).all dupD) 7)),(6,.int .i64 0),(7,.int .i64 0),(8,c.1),(30,.isl (m.defs.map Df.enc)),(31,.int .i64 m.defs.length),(32,.int .i64 i)]) (fun _ c=>h++([.arr 0 2 [m.enc]]++c.2))
     (fun _ _ o=>∃ w g,SlcIn h.length 1 1 g (((m.defs).map Df.name).map .str) w∧o=(.exit 0,[(1,.ptr h.length 0 2 0 0),(3,.int .i64 (toldP ((m.defs.take m.defs.length).all limD) 2)),(4,.int .i64 (toldP (greatB m.name && (m.defs.take m.defs.length).all (namD m)) 6)),(5,.int .i64 (toldP ((m.defs.take m.defs.length).all dupD) 7)),(6,.int .i64 0),(7,.int .i64 0),(8,w),(30,.isl (m.defs.map Df.enc)),(31,.int .i64 m.defs.length),(32,.int .i64 m.defs.length)],h++([.arr 0 2 [m.enc]]++g))) ?_ ?_ (.osl (h.length + 1) 0 1 0 0,[.arr 0 1 []]) (.inr ⟨0,0,by simp,by simp⟩)
 ·obtain ⟨o,hl,w,g,hI,ho⟩:=hlp
  refine ⟨w,g,hI,?_⟩
  rw [ho] at hl
  simpa [toldP] using hl
 ·intro i x r c hd hi hx hI K hK
  have hw:=wrap_nat (n:=i + 1) (by omega)
  simp at hw
  have hmx : x ∈ m.defs:=by rw [← hx]; exact List.getElem_mem hi
  have htk : m.defs.take (i + 1)=m.defs.take i++[x]:=by rw [List.take_succ_eq_append_getElem hi,hx]
  have hos:=hm.of x hmx
  have how : x.of.wid≤67108864:=Nat.le_trans x.of.wid_le hos
  have hon : x.of.nodes≤67108864:=Nat.le_trans (Ty.nodes_le _ x.of (Nat.le_refl _)) hos
  have hpl:=hm.params x hmx
  have e1:=fun ws h=>limits_ok x.of how hon ws h
  have e2:=fun ws h=>great_ok x.name (hm.dname x hmx) ws h
  have e3:=fun ws h=>allgreat_ok x.params hpl (hm.pnames x hmx) ws h
  obtain ⟨G,hG⟩ : ∃ G,x.params.all greatB=G:=⟨_,rfl⟩
  simp only [hG] at e3
  have e4:=fun ws h=>names_ok m x.params hm hpl x.of how hon ws h
  have e5:=fun ws h=>twice_ok (.isl (x.params.map .str)) x.params hpl ws h rfl
  have e6:=fun ws h=>differ_ok x.of how hon ws h
  rw [htk] at hK
  simp only [List.all_append,List.all_cons,List.all_nil,Bool.and_true,List.map_append,List.map_cons,List.map_nil] at hK
  generalize (m.defs.take i).all limD=A1 at *
  generalize (m.defs.take i).all (namD m)=A2 at *
  generalize (m.defs.take i).all dupD=A3 at *
  generalize greatB m.name=A0 at *
  have hlD : limD x=(decide ((x.params.length : Int)≤20) && limS x.of):=by
   have e : ((x.params.length : Int)≤20)=(x.params.length≤20):=propext (by omega)
   unfold limD; simp only [e]
  obtain ⟨w,g⟩:=c
  dsimp only at hI
  simp at e1 e2 e3 e4 e5 e6
  have hne : ∀ (a b : Bool) (e : Int),e ≠ 0→firstP [toldP a e,toldP b e]=toldP (a && b) e:=first_told
  simp [-Prod.exists,c78L0,c78S0,Md.enc,hi,hx,hw,e1,e2,e3,e4,e5,e6,told_ok,firstA,i64s,hne,bslP,appended]
  generalize hA : appI _ _ _ _ _ _ _=r'
  obtain ⟨v',g',rfl,h2⟩:=SlcIn.use (pre:=[_]) hI hA (by simp; omega) (by simp)
  obtain ⟨o,h4,h5⟩:=hK (v',g') (by simpa using h2)
  refine ⟨o,?_,by simpa [Md.enc] using h5⟩
  simp [Md.enc,hlD,namD,hG,dupD,Bool.and_assoc,-List.all_eq_true] at h4
  simp [Bool.and_assoc,h4,hw]
 ·intro c K hI
  rw [List.take_length] at hI
  refine ⟨_,?_,c.1,c.2,hI,rfl⟩
  simp [c78L0]
end Go.Proofs.YtflbneepngjglaaGreatDoor
namespace Go.Proofs.YtflbneepngjglaaGreatDoor
open Go Go.Avm
def loopD (m : Md) (d : Df) : Bool:=!decide (d.params=[]) || (beh m 21 d.of).isSome
def argD (d : Df) : Bool:=d.of.allP rightP
def setD (m : Md) (d : Df) : Bool:=d.of.allP (settleP m d.params)
theorem check_loop1 (m : Md) (hm : m.ok) (h g0 : Avm.H) : ∃ g,roundsL (evC (callL cfg) roundsL cfg.pol h.length h.length c78L1) [1,6,7,104,105,106] [(1,.ptr h.length 0 2 0 0),(6,.int .i64 0),(7,.int .i64 0),(104,.isl (m.defs.map Df.enc)),(105,.int .i64 m.defs.length),(106,.int .i64 (0 : Nat))] (h++([.arr 0 2 [m.enc]]++g0))=some (.exit 2,[(1,.ptr h.length 0 2 0 0),(6,.int .i64 (toldP ((m.defs.take m.defs.length).all (loopD m)) 13)),(7,.int .i64 (toldP ((m.defs.take m.defs.length).all argD) 1)),(104,.isl (m.defs.map Df.enc)),(105,.int .i64 m.defs.length),(106,.int .i64 m.defs.length)],h++([.arr 0 2 [m.enc]]++g)):=by
 have hl : m.defs.length≤67108864:=hm.len
 have hlp:=loop_post (γ:=Avm.H) (f:=evC (callL cfg) roundsL cfg.pol h.length h.length c78L1) (keep:=[1,6,7,104,105,106]) m.defs
     (fun _ _=>True) (fun i _=>[(1,.ptr h.length 0 2 0 0),(6,.int .i64 (toldP ((m.defs.take i).all (loopD m)) 13)),(7,.int .i64 (toldP ((m.defs.take i).all argD) 1)),(104,.isl (m.defs.map Df.enc)),(105,.int .i64 m.defs.length),(106,.int .i64 i)]) (fun _ g=>h++([.arr 0 2 [m.enc]]++g))
     (fun _ _ o=>∃ g,o=(.exit 2,[(1,.ptr h.length 0 2 0 0),(6,.int .i64 (toldP ((m.defs.take m.defs.length).all (loopD m)) 13)),(7,.int .i64 (toldP ((m.defs.take m.defs.length).all argD) 1)),(104,.isl (m.defs.map Df.enc)),(105,.int .i64 m.defs.length),(106,.int .i64 m.defs.length)],h++([.arr 0 2 [m.enc]]++g))) ?_ ?_ g0 trivial
 ·obtain ⟨o,hl,g,ho⟩:=hlp
  refine ⟨g,?_⟩
  rw [ho] at hl
  simpa [toldP] using hl
 ·intro i x r g hd hi hx _ K hK
  have hw:=wrap_nat (n:=i + 1) (by omega)
  simp at hw
  have hmx : x ∈ m.defs:=by rw [← hx]; exact List.getElem_mem hi
  have htk : m.defs.take (i + 1)=m.defs.take i++[x]:=by rw [List.take_succ_eq_append_getElem hi,hx]
  have hos:=hm.of x hmx
  have how : x.of.wid≤67108864:=Nat.le_trans x.of.wid_le hos
  have hon : x.of.nodes≤67108864:=Nat.le_trans (Ty.nodes_le _ x.of (Nat.le_refl _)) hos
  have hpl:=hm.params x hmx
  rw [htk] at hK
  simp only [List.all_append,List.all_cons,List.all_nil,Bool.and_true] at hK
  have hne : ∀ (a b : Bool) (e : Int),e ≠ 0→firstP [toldP a e,toldP b e]=toldP (a && b) e:=first_told
  have e4:=fun ws h=>behind_ok m hm x.of how ws h
  have e5:=fun ws h=>within_right x.of how hon ws h
  simp [Md.enc] at e4 e5
  generalize hA1 : (m.defs.take i).all (loopD m)=A1 at *
  generalize hA2 : (m.defs.take i).all argD=A2 at *
  have hK':=fun c'=>hK c' trivial
  clear hK
  by_cases hp : x.params=[]
  ·have hlD : loopD m x=(beh m 21 x.of).isSome:=by simp [loopD,hp]
   rw [hlD] at hK'
   generalize (beh m 21 x.of).isSome=B1 at *
   simp [-Prod.exists,argD,Md.enc] at hK'
   simp [-Prod.exists,c78L1,c78S2,c78T113,Md.enc,hi,hx,hw,hp,e4,e5,told_ok,firstA,i64s,hne,bslP]
   exact hK' _
  ·have hlD : loopD m x=true:=by simp [loopD,hp]
   have hpz : ¬ (x.params.length : Int)=0:=by
    have:=List.length_pos_iff.2 hp
    omega
   rw [hlD] at hK'
   simp [-Prod.exists,argD,Md.enc] at hK'
   simp [-Prod.exists,c78L1,c78S2,c78T113,Md.enc,hi,hx,hw,hp,hpz,e4,e5,told_ok,firstA,i64s,hne,bslP]
   exact hK' _
 ·intro c K _
  refine ⟨_,?_,c,rfl⟩
  simp [c78L1]
theorem check_loop2 (m : Md) (hm : m.ok) (hf : m.fm) (hq : ∀ d ∈ m.defs,QT d.of) (h g0 : Avm.H) : ∃ g,roundsL (evC (callL cfg) roundsL cfg.pol h.length h.length c78L2) [1,7,142,143,144] [(1,.ptr h.length 0 2 0 0),(7,.int .i64 0),(142,.isl (m.defs.map Df.enc)),(143,.int .i64 m.defs.length),(144,.int .i64 (0 : Nat))] (h++([.arr 0 2 [m.enc]]++g0))=some (.exit 4,[(1,.ptr h.length 0 2 0 0),(7,.int .i64 (toldP ((m.defs.take m.defs.length).all (setD m)) 1)),(142,.isl (m.defs.map Df.enc)),(143,.int .i64 m.defs.length),(144,.int .i64 m.defs.length)],h++([.arr 0 2 [m.enc]]++g)):=by
 have hl : m.defs.length≤67108864:=hm.len
 have hlp:=loop_post (γ:=Avm.H) (f:=evC (callL cfg) roundsL cfg.pol h.length h.length c78L2) (keep:=[1,7,142,143,144]) m.defs
     (fun _ _=>True) (fun i _=>[(1,.ptr h.length 0 2 0 0),(7,.int .i64 (toldP ((m.defs.take i).all (setD m)) 1)),(142,.isl (m.defs.map Df.enc)),(143,.int .i64 m.defs.length),(144,.int .i64 i)]) (fun _ g=>h++([.arr 0 2 [m.enc]]++g))
     (fun _ _ o=>∃ g,o=(.exit 4,[(1,.ptr h.length 0 2 0 0),(7,.int .i64 (toldP ((m.defs.take m.defs.length).all (setD m)) 1)),(142,.isl (m.defs.map Df.enc)),(143,.int .i64 m.defs.length),(144,.int .i64 m.defs.length)],h++([.arr 0 2 [m.enc]]++g))) ?_ ?_ g0 trivial
 ·obtain ⟨o,hl,g,ho⟩:=hlp
  refine ⟨g,?_⟩
  rw [ho] at hl
  simpa [toldP] using hl
 ·intro i x r g hd hi hx _ K hK
  have hw:=wrap_nat (n:=i + 1) (by omega)
  simp at hw
  have hmx : x ∈ m.defs:=by rw [← hx]; exact List.getElem_mem hi
  have htk : m.defs.take (i + 1)=m.defs.take i++[x]:=by rw [List.take_succ_eq_append_getElem hi,hx]
  have hos:=hm.of x hmx
  have how : x.of.wid≤67108864:=Nat.le_trans x.of.wid_le hos
  have hon : x.of.nodes≤67108864:=Nat.le_trans (Ty.nodes_le _ x.of (Nat.le_refl _)) hos
  have hpl:=hm.params x hmx
  rw [htk] at hK
  simp only [List.all_append,List.all_cons,List.all_nil,Bool.and_true] at hK
  have hne : ∀ (a b : Bool) (e : Int),e ≠ 0→firstP [toldP a e,toldP b e]=toldP (a && b) e:=first_told
  have e7:=fun ws h c hc=>within_settled m hm hf x.params hpl x.of (hq x hmx) ws h c hc
  simp at e7
  generalize hA1 : (m.defs.take i).all (setD m)=A1 at *
  have hK':=fun c'=>hK c' trivial
  clear hK
  simp [-Prod.exists,setD,Md.enc] at hK'
  simp [-Prod.exists,c78L2,c78S3,Md.enc,hi,hx,hw,e7,told_ok,firstA,i64s,hne,bslP]
  exact hK' _
 ·intro c K _
  refine ⟨_,?_,c,rfl⟩
  simp [c78L2]
theorem check_S4 (m : Md) (hm : m.ok) (A B : Bool) (h g : Avm.H) (hf : A=true→B=true→m.fm∧∀ d ∈ m.defs,QT d.of) : ∃ g',evC (callL cfg) roundsL cfg.pol h.length h.length c78S4 [(1,.ptr h.length 0 2 0 0),(6,.int .i64 (toldP A 13)),(7,.int .i64 (toldP B 1))] (h++([.arr 0 2 [m.enc]]++g))=some (.ret,[(2,.int .i64 (if A=false then 13 else if B=false then 1 else toldP (m.defs.all (setD m)) 1))],h++([.arr 0 2 [m.enc]]++g')):=by
 cases A
 ·simp [-Prod.exists,c78S4,firstA,i64s,firstP,toldP,bslP]
 ·cases B
  ·simp [-Prod.exists,c78S4,firstA,i64s,firstP,toldP,bslP]
  ·obtain ⟨h1,h2⟩:=hf rfl rfl
   obtain ⟨g2,hl⟩:=check_loop2 m hm h1 h2 h (g++[.arr 0 1 [.int .i64 0,.int .i64 0]])
   refine ⟨g2,?_⟩
   simp [Md.enc] at hl
   simp [c78S4,Md.enc,firstA,i64s,firstP,toldP,bslP,hl]
def errM (m : Md) : Int:=if 40 < m.defs.length then 2 else if m.defs.all limD=false then 2 else if (greatB m.name && m.defs.all (namD m))=false then 6 else if (m.defs.all dupD && distinct (m.defs.map Df.name))=false then 7 else if m.defs.all (loopD m)=false then 13 else if m.defs.all argD=false then 1 else toldP (m.defs.all (setD m)) 1
theorem lim_of {m : Md} (h : m.defs.all limD=true) : m.lim:=fun d hd=>by
 have:=List.all_eq_true.1 h d hd
 simp only [limD,Bool.and_eq_true] at this
 exact lim_nodes this.2
theorem fm_of {m : Md} (h : m.defs.all argD=true) : m.fm:=fun d hd=>List.all_eq_true.1 h d hd
theorem QT_of {m : Md} (hm : m.ok) (h1 : m.defs.all limD=true) (h2 : m.defs.all argD=true) : ∀ d ∈ m.defs,QT d.of:=fun d hd=>
 ⟨Nat.le_trans d.of.wid_le (hm.of d hd),lim_of h1 d hd,fm_of h2 d hd,hm.of d hd⟩
end Go.Proofs.YtflbneepngjglaaGreatDoor
namespace Go.Proofs.YtflbneepngjglaaGreatDoor
open Go Go.Avm
end Go.Proofs.YtflbneepngjglaaGreatDoor
namespace Go.Proofs.YtflbneepngjglaaGreatDoor
open Go Go.Avm
end Go.Proofs.YtflbneepngjglaaGreatDoor
namespace Go.Proofs.YtflbneepngjglaaGreatDoor
open Go Go.Avm
end Go.Proofs.YtflbneepngjglaaGreatDoor
namespace Go.Proofs.YtflbneepngjglaaGreatDoor
open Go Go.Avm
theorem check_S5 (m : Md) (hm : m.ok) (A1 A2 A3 : Bool) (h g : Avm.H) (w : AV) (hI : SlcIn h.length 1 1 g ((m.defs.map Df.name).map .str) w) (hl : A1=true→m.defs.all limD=true) : ∃ g',evC (callL cfg) roundsL cfg.pol h.length h.length c78S5 [(1,.ptr h.length 0 2 0 0),(3,.int .i64 (toldP A1 2)),(4,.int .i64 (toldP A2 6)),(5,.int .i64 (toldP A3 7)),(6,.int .i64 0),(7,.int .i64 0),(8,w)] (h++([.arr 0 2 [m.enc]]++g))=some (.ret,[(2,.int .i64 (if A1=false then 2 else if A2=false then 6 else if (A3 && distinct (m.defs.map Df.name))=false then 7 else if m.defs.all (loopD m)=false then 13 else if m.defs.all argD=false then 1 else toldP (m.defs.all (setD m)) 1))],h++([.arr 0 2 [m.enc]]++g')):=by
 have hlen : m.defs.length≤67108864:=hm.len
 have e2:=fun ws=>twice_ok w (m.defs.map Df.name) (by simpa using hlen) ws _ (SlcIn.els (pre:=[.arr 0 2 [m.enc]]) hI)
 obtain ⟨D,hD⟩ : ∃ D,distinct (m.defs.map Df.name)=D:=⟨_,rfl⟩
 rw [hD] at e2 ⊢
 simp [Md.enc] at e2
 cases A1
 ·simp [-Prod.exists,c78S5,Md.enc,e2,told_ok,firstA,i64s,firstP,toldP,bslP]
 ·cases A2
  ·simp [-Prod.exists,c78S5,Md.enc,e2,told_ok,firstA,i64s,firstP,toldP,bslP]
  ·cases A3
   ·simp [-Prod.exists,c78S5,Md.enc,e2,told_ok,firstA,i64s,firstP,toldP,bslP]
   ·cases D
    ·simp [-Prod.exists,c78S5,Md.enc,e2,told_ok,firstA,i64s,firstP,toldP,bslP]
    ·obtain ⟨g2,h1⟩:=check_loop1 m hm h (g++[.arr 0 1 [.int .i64 0,.int .i64 0,.int .i64 0,.int .i64 0]])
     obtain ⟨g3,h2⟩:=check_S4 m hm (m.defs.all (loopD m)) (m.defs.all argD) h g2 (fun _ q2=>⟨fm_of q2,QT_of hm (hl rfl) q2⟩)
     refine ⟨g3,?_⟩
     rw [List.take_length] at h1
     generalize m.defs.all (loopD m)=B1 at *
     generalize m.defs.all argD=B2 at *
     generalize m.defs.all (setD m)=B3 at *
     simp only [Bool.and_self,Bool.true_eq_false,if_false]
     rw [← h2]
     clear h2
     simp [Md.enc] at h1
     simp [c78S5,Md.enc,e2,told_ok,firstA,i64s,firstP,toldP,bslP,h1]
theorem check_ok (m : Md) (hm : m.ok) (ws : Nat) (h : Avm.H) : callL cfg ws 78 [m.enc] h=some (.int .i64 (errM m),h):=by
 have e1:=fun ws h=>great_ok m.name hm.name ws h
 unfold errM
 refine callL_fn rfl rfl ?_
 by_cases q : 40 < m.defs.length
 ·have q2 : (40 : Int) < m.defs.length:=by omega
  simp [F78,c78,Md.enc,q,q2]
 ·have q2 : ¬ (40 : Int) < m.defs.length:=by omega
  obtain ⟨w,g,hI,hl⟩:=check_loop0 m hm h
  obtain ⟨g2,h2⟩:=check_S5 m hm (m.defs.all limD) (greatB m.name && m.defs.all (namD m)) (m.defs.all dupD) h g w hI (fun q=>q)
  rw [List.take_length] at hl
  generalize m.defs.all limD=A1 at *
  generalize m.defs.all (namD m)=A2 at *
  generalize m.defs.all dupD=A3 at *
  generalize m.defs.all (loopD m)=A4 at *
  generalize m.defs.all argD=A5 at *
  generalize m.defs.all (setD m)=A6 at *
  generalize distinct (m.defs.map Df.name)=A7 at *
  generalize greatB m.name=A0 at *
  generalize hR : (if A1=false then 2 else if (A0 && A2)=false then 6 else if (A3 && A7)=false then 7 else if A4=false then 13 else if A5=false then 1 else toldP A6 1 : Int)=R at *
  simp [Md.enc] at hl h2
  simp [F78,c78,c78S6,Md.enc,q,q2,e1,told_ok,hl,h2,hR]
end Go.Proofs.YtflbneepngjglaaGreatDoor
namespace Go.Proofs.YtflbneepngjglaaGreatDoor
open Go Go.Avm
theorem errM_zero {m : Md} (h : errM m=0) : m.defs.all limD=true∧m.defs.all argD=true:=by
 unfold errM at h
 split at h
 ·cases h
 cases q1 : m.defs.all limD
 ·rw [q1] at h; simp at h
 ·refine ⟨rfl,?_⟩
  cases q2 : m.defs.all argD
  ·rw [q1,q2] at h
   simp only [if_true,Bool.true_eq_false,if_false] at h
   split at h
   ·cases h
   split at h
   ·cases h
   split at h
   ·cases h
   ·cases h
  ·rfl
end Go.Proofs.YtflbneepngjglaaGreatDoor
namespace Go.Proofs.YtflbneepngjglaaGreatDoor
open Go Go.Avm
def errC (m : Md) (t : Ty) : Int:=if errM m=0 then errT m t else errM m
def ansF (m : Md) (t : Ty) (v : Val) : Bool:=decide (errC m t=0) && (fairP v && fitB m v.size t v)
theorem errT_zero {m : Md} {t : Ty} (h : errT m t=0) : limS t=true∧t.allP rightP=true:=by
 unfold errT at h
 cases q1 : limS t
 ·rw [q1] at h; simp at h
 ·refine ⟨rfl,?_⟩
  cases q2 : t.allP rightP
  ·rw [q1,q2] at h
   simp only [Bool.true_eq_false,if_false] at h
   split at h
   ·cases h
   split at h
   ·cases h
   split at h
   ·cases h
   ·cases h
  ·rfl
theorem ctypeC_ok (m : Md) (hm : m.ok) (t : Ty) (hs : t.size≤67108864) (ws : Nat) (h : Avm.H) : callL cfg ws 47 [m.enc,t.enc] h=some (.int .i64 (errC m t),h):=by
 unfold errC
 by_cases q : errM m=0
 ·rw [if_pos q]
  exact ctype_ok m hm (fm_of (errM_zero q).2) t hs (fun ws h=>q ▸ check_ok m hm ws h) ws h
 ·rw [if_neg q]
  exact ctype_err m t (errM m) q (fun ws h=>check_ok m hm ws h) ws h
theorem errC_zero {m : Md} {t : Ty} (h : errC m t=0) : errM m=0∧errT m t=0:=by
 unfold errC at h
 by_cases q : errM m=0
 ·rw [if_pos q] at h; exact ⟨q,h⟩
 ·rw [if_neg q] at h; exact absurd h q
end Go.Proofs.YtflbneepngjglaaGreatDoor
