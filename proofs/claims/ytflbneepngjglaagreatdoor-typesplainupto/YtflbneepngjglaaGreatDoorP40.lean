/- Texts of noughts and ones: strings.Trim. -/
import Derived.Test.YtflbneepngjglaaGreatDoorP39
set_option linter.all false
namespace Go.Proofs.YtflbneepngjglaaGreatDoor
open Go Go.Avm
theorem counted_loop (v : Val) (hv : v.size≤67108864) (d : Int) (hd0 : 0≤d) (hd1 : d≤30) (c0 : Int) (hc0 : 0≤c0) (hc1 : c0≤67108864) (b ver ws : Nat) (h g0 : Avm.H) (hb : b < h.length) (hws : ws≤b) (hcall : ∀ x ∈ v.items,∀ (left : Int),0≤left→left≤67108864→∀ (b ver ws : Nat) (h : Avm.H),h[b]? = some (.arr ver 1 [.int .i64 left])→ws≤b→∃ l' : Int,callL cfg ws 85 [x.enc,.int .i64 (d + 1),.ptr b ver 1 0 0] h=some (.bool (decide ((x.nodes : Int)≤left∧(d + 1) + x.depth≤31)),h.set b (.arr ver 1 [.int .i64 l']))∧((x.nodes : Int)≤left∧(d + 1) + x.depth≤31→l'=left - x.nodes)) :
    ∃ (o : Ex × Env × Avm.H),roundsL (evC (callL cfg) roundsL cfg.pol h.length ws c85L0) [1,2,23,24,25] [(1,.int .i64 d),(2,.ptr b ver 1 0 0),(23,.isl (v.items.map Val.enc)),(24,.int .i64 v.items.length),(25,.int .i64 (0 : Nat))] ((h.set b (.arr ver 1 [.int .i64 c0]))++([.arr 0 4 [v.enc]]++g0))=some o∧∃ (c : Int) (g : Avm.H),(c=c0 - ((v.items.map Val.nodes).sum : Nat)∧(v.items=[] ∨ ((((v.items.map Val.nodes).sum : Nat) : Int)≤c0∧d + 1 + (maxL (v.items.map Val.depth) : Nat)≤31))∧o=(.exit 0,[(1,.int .i64 d),(2,.ptr b ver 1 0 0),(23,.isl (v.items.map Val.enc)),(24,.int .i64 v.items.length),(25,.int .i64 v.items.length)],(h.set b (.arr ver 1 [.int .i64 c]))++([.arr 0 4 [v.enc]]++g))) ∨ (¬ ((((v.items.map Val.nodes).sum : Nat) : Int)≤c0∧d + 1 + (maxL (v.items.map Val.depth) : Nat)≤31)∧v.items ≠ []∧o=(.ret,[(6,.bool false)],(h.set b (.arr ver 1 [.int .i64 c]))++([.arr 0 4 [v.enc]]++g))):=by
 have hl : v.items.length≤67108864:=by have:=v.len_items; omega
 refine loop_post (γ:=Int × Avm.H) (f:=evC (callL cfg) roundsL cfg.pol h.length ws c85L0) (keep:=[1,2,23,24,25]) v.items
     (fun i c=>c.1=c0 - (((v.items.take i).map Val.nodes).sum : Nat)∧0≤c.1∧(i=0 ∨ d + 1 + (maxL ((v.items.take i).map Val.depth) : Nat)≤31))
     (fun i _=>[(1,.int .i64 d),(2,.ptr b ver 1 0 0),(23,.isl (v.items.map Val.enc)),(24,.int .i64 v.items.length),(25,.int .i64 i)]) (fun _ c=>(h.set b (.arr ver 1 [.int .i64 c.1]))++([.arr 0 4 [v.enc]]++c.2))
     (fun _ _ o=>∃ (c : Int) (g : Avm.H),(c=c0 - ((v.items.map Val.nodes).sum : Nat)∧(v.items=[] ∨ ((((v.items.map Val.nodes).sum : Nat) : Int)≤c0∧d + 1 + (maxL (v.items.map Val.depth) : Nat)≤31))∧o=(.exit 0,[(1,.int .i64 d),(2,.ptr b ver 1 0 0),(23,.isl (v.items.map Val.enc)),(24,.int .i64 v.items.length),(25,.int .i64 v.items.length)],(h.set b (.arr ver 1 [.int .i64 c]))++([.arr 0 4 [v.enc]]++g))) ∨ (¬ ((((v.items.map Val.nodes).sum : Nat) : Int)≤c0∧d + 1 + (maxL (v.items.map Val.depth) : Nat)≤31)∧v.items ≠ []∧o=(.ret,[(6,.bool false)],(h.set b (.arr ver 1 [.int .i64 c]))++([.arr 0 4 [v.enc]]++g)))) ?_ ?_ (c0,g0) ⟨by simp,hc0,.inl rfl⟩
 ·intro i x r c hd hi hx hI K hK
  obtain ⟨c,g⟩:=c
  obtain ⟨hI1,hI2,hI3⟩:=hI
  dsimp only at hI1 hI2
  have hw:=wrap_nat (n:=i + 1) (by omega)
  simp at hw
  have hm : x ∈ v.items:=by rw [← hx]; exact List.getElem_mem hi
  have hne : v.items ≠ []:=fun e=>by rw [e] at hm; cases hm
  have htk : v.items.take (i + 1)=v.items.take i++[x]:=by rw [List.take_succ_eq_append_getElem hi,hx]
  have hall : (v.items.map Val.nodes).sum=((v.items.take i).map Val.nodes).sum + (x.nodes + (r.map Val.nodes).sum):=by
   conv=>lhs; rw [← List.take_append_drop i v.items,hd]
   simp [List.sum_append]
  have hallm : maxL (v.items.map Val.depth)=max (maxL ((v.items.take i).map Val.depth)) (max x.depth (maxL (r.map Val.depth))):=by
   conv=>lhs; rw [← List.take_append_drop i v.items,hd]
   simp [maxL_app,maxL]
  have hxp:=x.nodes_pos
  have hwd : IntKind.wrap .i64 (d + 1)=d + 1:=wrap_id (by omega) (by omega)
  rw [htk] at hK
  simp only [List.map_append,List.map_cons,List.map_nil,List.sum_append,List.sum_cons,List.sum_nil,Nat.add_zero,maxL_snoc] at hK
  have hsd : i=0→maxL ((v.items.take i).map Val.depth)=0:=fun e=>by rw [e]; rfl
  generalize ((v.items.take i).map Val.nodes).sum=sm at *
  generalize (r.map Val.nodes).sum=rm at *
  generalize (v.items.map Val.nodes).sum=tot at *
  generalize maxL ((v.items.take i).map Val.depth)=sd at *
  generalize maxL (r.map Val.depth)=rd at *
  generalize maxL (v.items.map Val.depth)=totd at *
  have hbx : ∀ (c : Int) (X : Avm.H),((h.set b (.arr ver 1 [.int .i64 c]))++X)[b]? = some (.arr ver 1 [.int .i64 c]):=fun c X=>by rw [get_app (by simpa using hb),List.getElem?_set_self hb]
  have hbs : ∀ (c d : Int) (X : Avm.H),((h.set b (.arr ver 1 [.int .i64 c]))++X).set b (.arr ver 1 [.int .i64 d])=(h.set b (.arr ver 1 [.int .i64 d]))++X:=fun c d X=>by rw [set_app (by simpa using hb),List.set_set]
  have hwn : ∀ n,ws≤h.length + n:=fun n=>by omega
  have hw0 : ws≤h.length:=by omega
  obtain ⟨l',hca,hcb⟩:=hcall x hm c (by omega) (by omega) b ver ws ((h.set b (.arr ver 1 [.int .i64 c]))++([.arr 0 4 [v.enc]]++(g++[.arr 0 4 [x.enc]]))) (hbx c _) hws
  rw [hbs] at hca
  by_cases hle : (x.nodes : Int)≤c∧(d + 1) + x.depth≤31
  ·have hl':=hcb hle
   rw [decide_eq_true hle] at hca
   simp at hca
   obtain ⟨o,h4,h5⟩:=hK (l',g++[.arr 0 4 [x.enc]]) ⟨by dsimp only; omega,by dsimp only; omega,.inr (by have:=hsd; omega)⟩
   refine ⟨o,?_,h5⟩
   simp at h4
   simp [c85L0,hi,hx,hwd,hwn,hw0,hca,hw,h4]
  ·rw [decide_eq_false hle] at hca
   simp at hca
   refine ⟨_,?_,l',g++[.arr 0 4 [x.enc]],.inr ⟨by omega,hne,rfl⟩⟩
   simp [c85L0,hi,hx,hwd,hwn,hw0,hca]
 ·intro c K hI
  rw [List.take_length] at hI
  refine ⟨_,?_,c.1,c.2,.inl ⟨hI.1,?_,rfl⟩⟩
  ·simp [c85L0]
  ·rcases hI.2.2 with h | h
   ·exact .inl (List.eq_nil_of_length_eq_zero h)
   ·exact .inr ⟨by have:=hI.1; have:=hI.2.1; omega,h⟩
theorem counted_ok : ∀ (n : Nat) (v : Val),v.size≤n→v.size≤67108864→∀ (d : Int),0≤d→d≤31→∀ (left : Int),0≤left→left≤67108864→∀ (b ver ws : Nat) (h : Avm.H),h[b]? = some (.arr ver 1 [.int .i64 left])→ws≤b→∃ l' : Int,callL cfg ws 85 [v.enc,.int .i64 d,.ptr b ver 1 0 0] h=some (.bool (decide ((v.nodes : Int)≤left∧d + v.depth≤31)),h.set b (.arr ver 1 [.int .i64 l']))∧((v.nodes : Int)≤left∧d + v.depth≤31→l'=left - v.nodes)
 | 0,v,hv,_,_,_,_,_,_,_,_,_,_,_,_,_=>by have:=v.size_pos; omega
 | n + 1,v,hv,hv2,d,hd0,hd1,left,hl0,hl1,b,ver,ws,h,hhb,hws=>by
  have hb : b < h.length:=(List.getElem?_eq_some_iff.1 hhb).1
  have hwn : ∀ n,ws≤h.length + n:=fun n=>by omega
  have hw0' : ws≤h.length:=by omega
  have hdec : IntKind.wrap .i64 (left - 1)=left - 1:=wrap_id (by omega) (by omega)
  have hbx : ∀ (c : Int) (X : Avm.H),((h.set b (.arr ver 1 [.int .i64 c]))++X)[b]? = some (.arr ver 1 [.int .i64 c]):=fun c X=>by rw [get_app (by simpa using hb),List.getElem?_set_self hb]
  have hb0 : ∀ (X : Avm.H),(h++X)[b]? = some (.arr ver 1 [.int .i64 left]):=fun X=>by rw [get_app hb,hhb]
  have hbs0 : ∀ (d : Int) (X : Avm.H),(h++X).set b (.arr ver 1 [.int .i64 d])=(h.set b (.arr ver 1 [.int .i64 d]))++X:=fun d X=>set_app hb
  have htk : ∀ (c : Int) (X : Avm.H),List.take h.length ((h.set b (.arr ver 1 [.int .i64 c]))++X)=h.set b (.arr ver 1 [.int .i64 c]):=fun c X=>by rw [List.take_left' (by simp)]
  have hnod:=v.nodes_eq
  have hdep:=v.depth_eq
  by_cases hneg : left - 1 < 0
  ·have hd : decide ((v.nodes : Int)≤left∧d + v.depth≤31)=false:=by apply decide_eq_false; omega
   refine ⟨left - 1,callL_fn rfl rfl ?_,fun _=>by omega⟩
   rw [hd]
   simp [F85,c85,hb0,hbs0,hbx,hdec,hws,hwn,hw0',htk,hneg]
  ·by_cases hdp : 30 < d
   ·have hd : decide ((v.nodes : Int)≤left∧d + v.depth≤31)=false:=by apply decide_eq_false; omega
    refine ⟨left - 1,callL_fn rfl rfl ?_,fun _=>by omega⟩
    rw [hd]
    simp [F85,c85,hb0,hbs0,hbx,hdec,hws,hwn,hw0',htk,hneg,hdp]
   ·obtain ⟨o0,e0,c,g,p0⟩:=counted_loop v hv2 d hd0 (by omega) (left - 1) (by omega) (by omega) b ver ws h [] hb hws (fun x hx left a1 a2 b ver ws h a3 a4=>by
      have:=Val.mem_items hx
      exact counted_ok n x (by omega) (by omega) (d + 1) (by omega) (by omega) left a1 a2 b ver ws h a3 a4)
    rcases p0 with ⟨hc,hk0,rfl⟩ | ⟨hlt,hne,rfl⟩
    ·have hd : decide ((v.nodes : Int)≤left∧d + v.depth≤31)=true:=by
       apply decide_eq_true
       rcases hk0 with q | q
       ·rw [q] at hnod hdep; simp [maxL] at hnod hdep; omega
       ·omega
     refine ⟨c,callL_fn rfl rfl ?_,fun _=>by omega⟩
     rw [hd]
     simp at e0
     simp [F85,c85,hb0,hbs0,hbx,hdec,hws,hwn,hw0',htk,hneg,hdp,e0]
    ·have hd : decide ((v.nodes : Int)≤left∧d + v.depth≤31)=false:=by apply decide_eq_false; omega
     refine ⟨c,callL_fn rfl rfl ?_,fun hh=>by rw [decide_eq_true hh] at hd; cases hd⟩
     rw [hd]
     simp at e0
     simp [F85,c85,hb0,hbs0,hbx,hdec,hws,hwn,hw0',htk,hneg,hdp,e0]
def fairP (v : Val) : Bool:=decide (v.nodes≤600∧v.depth≤30)
theorem fair_ok (v : Val) (hv : v.size≤67108864) (ws : Nat) (h : Avm.H) : callL cfg ws 48 [v.enc] h=some (.bool (fairP v),h):=by
 obtain ⟨l',hc,_⟩:=counted_ok _ v (Nat.le_refl _) hv 1 (by omega) (by omega) 600 (by omega) (by omega) (h.length + 1) 0 h.length (h++[.arr 0 4 [v.enc],.arr 0 1 [.int .i64 600]]) (by simp) (by omega)
 have he : decide ((v.nodes : Int)≤600∧1 + (v.depth : Int)≤31)=fairP v:=by unfold fairP; congr 1; apply propext; omega
 rw [he] at hc
 refine callL_fn rfl rfl ?_
 simp at hc
 simp [F48,c48,hc]
def inP (n a b : Int) : Bool:=decide (a≤n) && decide (n≤b)
theorem in_ok (n a b : Int) (ws : Nat) (h : Avm.H) : callL cfg ws 87 [.int .i64 n,.int .i64 a,.int .i64 b] h=some (.bool (inP n a b),h):=by
 refine callL_fn rfl rfl ?_
 simp [F87,c87,inP]
def allowP (t : Ty) (n most : Int) : Bool:=if (t.free || t.ext)=true then decide (n≤most) else inP n t.lo t.hi
theorem allowed_ok (t : Ty) (n most : Int) (ws : Nat) (h : Avm.H) : callL cfg ws 88 [t.enc,.int .i64 n,.int .i64 most] h=some (.bool (allowP t n most),h):=by
 have h1:=fun ws h=>in_ok n t.lo t.hi ws h
 refine callL_fn rfl rfl ?_
 cases q1 : t.free <;> cases q2 : t.ext <;> simp [F88,c88,allowP,q1,q2,h1]
def mayP (i : It) : Bool:=i.opt || (i.extra || !i.dflt.isEmpty)
theorem may_ok (i : It) (ws : Nat) (h : Avm.H) : callL cfg ws 93 [i.enc] h=some (.bool (mayP i),h):=by
 refine callL_fn rfl rfl ?_
 cases q1 : i.opt <;> cases q2 : i.extra <;> simp [F93,c93,mayP,q1,q2,pos_len]
def hasP (a b c : Bool) (v : Val) : Bool:=(a || decide (v.int=0)) && ((b || eqS v.bytes ⟨#[]⟩) && (c || v.items.isEmpty))
theorem has0_ok (v : Val) (ws : Nat) (h : Avm.H) : callL cfg ws 86 [v.enc,.str ⟨#[]⟩] h=some (.bool (hasP false false false v),h):=by
 have kI:=fun ws h=>callL_ext (cfg:=cfg) (f:=166) (ws:=ws) (args:=[.str ⟨#[]⟩,.str ⟨#[73]⟩]) (h:=h) (r:=(.bool false,h)) rfl (by simp only [containsX]; rw [if_pos (by decide)]; rfl)
 have kB:=fun ws h=>callL_ext (cfg:=cfg) (f:=166) (ws:=ws) (args:=[.str ⟨#[]⟩,.str ⟨#[66]⟩]) (h:=h) (r:=(.bool false,h)) rfl (by simp only [containsX]; rw [if_pos (by decide)]; rfl)
 have kL:=fun ws h=>callL_ext (cfg:=cfg) (f:=166) (ws:=ws) (args:=[.str ⟨#[]⟩,.str ⟨#[76]⟩]) (h:=h) (r:=(.bool false,h)) rfl (by simp only [containsX]; rw [if_pos (by decide)]; rfl)
 refine callL_fn rfl rfl ?_
 simp [F86,c86,kI,kB,kL,hasP,eqS,decE,len0]
 first | done | rfl | (simp only [Bool.and_assoc]) | (simp only [Bool.and_assoc]; rfl) | (congr <;> exact Subsingleton.elim _ _)
theorem hasI_ok (v : Val) (ws : Nat) (h : Avm.H) : callL cfg ws 86 [v.enc,.str ⟨#[73]⟩] h=some (.bool (hasP true false false v),h):=by
 have kI:=fun ws h=>callL_ext (cfg:=cfg) (f:=166) (ws:=ws) (args:=[.str ⟨#[73]⟩,.str ⟨#[73]⟩]) (h:=h) (r:=(.bool true,h)) rfl (by simp only [containsX]; rw [if_pos (by decide)]; rfl)
 have kB:=fun ws h=>callL_ext (cfg:=cfg) (f:=166) (ws:=ws) (args:=[.str ⟨#[73]⟩,.str ⟨#[66]⟩]) (h:=h) (r:=(.bool false,h)) rfl (by simp only [containsX]; rw [if_pos (by decide)]; rfl)
 have kL:=fun ws h=>callL_ext (cfg:=cfg) (f:=166) (ws:=ws) (args:=[.str ⟨#[73]⟩,.str ⟨#[76]⟩]) (h:=h) (r:=(.bool false,h)) rfl (by simp only [containsX]; rw [if_pos (by decide)]; rfl)
 refine callL_fn rfl rfl ?_
 simp [F86,c86,kI,kB,kL,hasP,eqS,decE,len0]
 first | done | rfl | (simp only [Bool.and_assoc]) | (simp only [Bool.and_assoc]; rfl) | (congr <;> exact Subsingleton.elim _ _)
theorem hasB_ok (v : Val) (ws : Nat) (h : Avm.H) : callL cfg ws 86 [v.enc,.str ⟨#[66]⟩] h=some (.bool (hasP false true false v),h):=by
 have kI:=fun ws h=>callL_ext (cfg:=cfg) (f:=166) (ws:=ws) (args:=[.str ⟨#[66]⟩,.str ⟨#[73]⟩]) (h:=h) (r:=(.bool false,h)) rfl (by simp only [containsX]; rw [if_pos (by decide)]; rfl)
 have kB:=fun ws h=>callL_ext (cfg:=cfg) (f:=166) (ws:=ws) (args:=[.str ⟨#[66]⟩,.str ⟨#[66]⟩]) (h:=h) (r:=(.bool true,h)) rfl (by simp only [containsX]; rw [if_pos (by decide)]; rfl)
 have kL:=fun ws h=>callL_ext (cfg:=cfg) (f:=166) (ws:=ws) (args:=[.str ⟨#[66]⟩,.str ⟨#[76]⟩]) (h:=h) (r:=(.bool false,h)) rfl (by simp only [containsX]; rw [if_pos (by decide)]; rfl)
 refine callL_fn rfl rfl ?_
 simp [F86,c86,kI,kB,kL,hasP,eqS,decE,len0]
 first | done | rfl | (simp only [Bool.and_assoc]) | (simp only [Bool.and_assoc]; rfl) | (congr <;> exact Subsingleton.elim _ _)
theorem hasL_ok (v : Val) (ws : Nat) (h : Avm.H) : callL cfg ws 86 [v.enc,.str ⟨#[76]⟩] h=some (.bool (hasP false false true v),h):=by
 have kI:=fun ws h=>callL_ext (cfg:=cfg) (f:=166) (ws:=ws) (args:=[.str ⟨#[76]⟩,.str ⟨#[73]⟩]) (h:=h) (r:=(.bool false,h)) rfl (by simp only [containsX]; rw [if_pos (by decide)]; rfl)
 have kB:=fun ws h=>callL_ext (cfg:=cfg) (f:=166) (ws:=ws) (args:=[.str ⟨#[76]⟩,.str ⟨#[66]⟩]) (h:=h) (r:=(.bool false,h)) rfl (by simp only [containsX]; rw [if_pos (by decide)]; rfl)
 have kL:=fun ws h=>callL_ext (cfg:=cfg) (f:=166) (ws:=ws) (args:=[.str ⟨#[76]⟩,.str ⟨#[76]⟩]) (h:=h) (r:=(.bool true,h)) rfl (by simp only [containsX]; rw [if_pos (by decide)]; rfl)
 refine callL_fn rfl rfl ?_
 simp [F86,c86,kI,kB,kL,hasP,eqS,decE,len0]
 first | done | rfl | (simp only [Bool.and_assoc]) | (simp only [Bool.and_assoc]; rfl) | (congr <;> exact Subsingleton.elim _ _)
theorem hasIL_ok (v : Val) (ws : Nat) (h : Avm.H) : callL cfg ws 86 [v.enc,.str ⟨#[73,76]⟩] h=some (.bool (hasP true false true v),h):=by
 have kI:=fun ws h=>callL_ext (cfg:=cfg) (f:=166) (ws:=ws) (args:=[.str ⟨#[73,76]⟩,.str ⟨#[73]⟩]) (h:=h) (r:=(.bool true,h)) rfl (by simp only [containsX]; rw [if_pos (by decide)]; rfl)
 have kB:=fun ws h=>callL_ext (cfg:=cfg) (f:=166) (ws:=ws) (args:=[.str ⟨#[73,76]⟩,.str ⟨#[66]⟩]) (h:=h) (r:=(.bool false,h)) rfl (by simp only [containsX]; rw [if_pos (by decide)]; rfl)
 have kL:=fun ws h=>callL_ext (cfg:=cfg) (f:=166) (ws:=ws) (args:=[.str ⟨#[73,76]⟩,.str ⟨#[76]⟩]) (h:=h) (r:=(.bool true,h)) rfl (by simp only [containsX]; rw [if_pos (by decide)]; rfl)
 refine callL_fn rfl rfl ?_
 simp [F86,c86,kI,kB,kL,hasP,eqS,decE,len0]
 first | done | rfl | (simp only [Bool.and_assoc]) | (simp only [Bool.and_assoc]; rfl) | (congr <;> exact Subsingleton.elim _ _)
end Go.Proofs.YtflbneepngjglaaGreatDoor
namespace Go.Proofs.YtflbneepngjglaaGreatDoor
open Go Go.Avm
def Z256 : List AV:=List.replicate 256 (.bool false)
def A01 : List AV:=List.replicate 48 (.bool false)++.bool true :: .bool true :: List.replicate 206 (.bool false)
theorem A01_len : A01.length=256:=by simp [-List.reduceReplicate,A01]
theorem A01_pure : pureL A01=true:=by kernel_rfl
theorem A01_one : A01.all AV.one=true:=by simp [-List.reduceReplicate,A01]
def d01 (c : UInt8) : Bool:=decide (byI c=48) || decide (byI c=49)
theorem A01_get (n : Nat) (hn : n < 256) : A01[n]? = some (.bool (decide ((n : Int)=48) || decide ((n : Int)=49))):=by
 unfold A01
 rcases Nat.lt_trichotomy n 48 with q | q | q
 ·rw [List.getElem?_append_left (by simpa [-List.reduceReplicate] using q)]
  have h1 : ¬ (n : Int)=48:=by omega
  have h2 : ¬ (n : Int)=49:=by omega
  simp [-List.reduceReplicate,q,h1,h2]
 ·subst q; simp [-List.reduceReplicate]
 ·rw [List.getElem?_append_right (by simp [-List.reduceReplicate]; omega)]
  obtain ⟨k,rfl⟩ : ∃ k,n=49 + k:=⟨n - 49,by omega⟩
  have e : 49 + k - (List.replicate 48 (AV.bool false)).length=k + 1:=by simp [-List.reduceReplicate]; omega
  rw [e,List.getElem?_cons_succ]
  cases k with
  | zero=>simp [-List.reduceReplicate]
  | succ k=>
   have h1 : ¬ ((49 + (k + 1) : Nat) : Int)=48:=by omega
   have h2 : ¬ ((49 + (k + 1) : Nat) : Int)=49:=by omega
   rw [List.getElem?_cons_succ,List.getElem?_replicate,if_pos (by omega),decide_eq_false h1,decide_eq_false h2]
   rfl
theorem contains01_ok (c : UInt8) (ws : Nat) (h : Avm.H) : callL cfg ws 237 [.iptr A01,.int .u8 (byI c)] h=some (.bool (d01 c),h):=by
 have hc : c.toNat < 256:=c.toNat_lt
 have hg:=A01_get c.toNat hc
 have h1 : (0 : Int)≤byI c:=by unfold byI; omega
 have h2 : byI c < 256:=by unfold byI; omega
 have h3 : (byI c).toNat=c.toNat:=by unfold byI; omega
 have h4 : c.toNat≤256:=by omega
 refine callL_fn rfl rfl ?_
 have hi : ((c.toNat : Nat) : Int)=byI c:=rfl
 rw [hi] at hg
 simp [-List.reduceReplicate,F237,c237,A01_pure,A01_len,h1,h2,h3,h4,hg,d01]
theorem make01_ok (ws : Nat) (h : Avm.H) : callL cfg ws 169 [.str ⟨#[48,49]⟩] h=some (.tup [.agg A01,.bool true],h):=by
 have hw1 : IntKind.wrap .i64 1=1:=by decide
 have hw2 : IntKind.wrap .i64 (1 + 1)=2:=by decide
 have hw3 : IntKind.wrap .i64 2=2:=by decide
 have hdr : A01.drop 256=[]:=List.drop_eq_nil_iff.2 (by rw [A01_len]; omega)
 have l2 : roundsL (evC (callL cfg) roundsL cfg.pol h.length h.length c169L0) [0,2,4] [(0,.str ⟨#[48,49]⟩),(2,.ptr h.length 0 256 0 0),(4,.int .i64 2)] (h++[.arr 0 256 [.agg A01]])=some (.exit 0,[(0,.str ⟨#[48,49]⟩),(2,.ptr h.length 0 256 0 0),(4,.int .i64 2)],h++[.arr 0 256 [.agg A01]]):=
  roundsL_k fun K hK=>by simp [-List.reduceReplicate,c169L0,ByteArray.size]
 have l1 : roundsL (evC (callL cfg) roundsL cfg.pol h.length h.length c169L0) [0,2,4] [(0,.str ⟨#[48,49]⟩),(2,.ptr h.length 0 256 0 0),(4,.int .i64 1)] (h++[.arr 0 256 [.agg (List.replicate 48 (.bool false)++.bool true :: List.replicate 207 (.bool false))]])=some (.exit 0,[(0,.str ⟨#[48,49]⟩),(2,.ptr h.length 0 256 0 0),(4,.int .i64 2)],h++[.arr 0 256 [.agg A01]]):=
  roundsL_k fun K hK=>by
   simp [-List.reduceReplicate,c169L0,ByteArray.size,hw2,hw3,List.take_append]
   rw [hK,← l2]; rfl
 have l0 : roundsL (evC (callL cfg) roundsL cfg.pol h.length h.length c169L0) [0,2,4] [(0,.str ⟨#[48,49]⟩),(2,.ptr h.length 0 256 0 0),(4,.int .i64 0)] (h++[.arr 0 256 [.agg Z256]])=some (.exit 0,[(0,.str ⟨#[48,49]⟩),(2,.ptr h.length 0 256 0 0),(4,.int .i64 2)],h++[.arr 0 256 [.agg A01]]):=
  roundsL_k fun K hK=>by
   simp [-List.reduceReplicate,c169L0,ByteArray.size,hw1,Z256]
   rw [hK,← l1]
 have hA1 : A01.length=256:=A01_len
 have hA2:=eq_true (List.all_eq_true.1 A01_one)
 have hA3:=A01_pure
 refine callL_fn rfl rfl ?_
 rw [Z256] at l0
 simp [-List.reduceReplicate,F169,c169,l0,hA1,hA2,List.take_of_length_le,Z256,hdr,frzL_pure A01_pure]
theorem ext_list (s : ByteArray) (a b : Nat) : (s.extract a b).data.toList=(s.data.toList.drop a).take (b - a):=by simp
theorem size_list (s : ByteArray) : s.size=s.data.toList.length:=by rw [Array.length_toList]; rfl
def ends (bs : List UInt8) : Prop:=bs=[] ∨ ∃ z,bs.getLast? = some z∧d01 z=false
theorem trimR_loop (h : Avm.H) : ∀ (n : Nat) (s : ByteArray),s.size≤n→s.size≤67108864→∃ r : ByteArray,roundsL (evC (callL cfg) roundsL cfg.pol h.length h.length c171L0) [0,1] [(0,.str s),(1,.iptr A01)] h=some (.exit 0,[(0,.str r),(1,.iptr A01)],h)∧r.size≤s.size∧r.data.toList.all d01=s.data.toList.all d01∧ends r.data.toList:=by
 intro n
 induction n with
 | zero=>
  intro s hs hb
  have h0 : s.size=0:=by omega
  have hl : s.data.toList=[]:=List.eq_nil_of_length_eq_zero (by rw [← size_list]; omega)
  refine ⟨s,roundsL_k fun K hK=>?_,Nat.le_refl _,rfl,.inl hl⟩
  simp [c171L0,h0]
 | succ n ih=>
  intro s hs hb
  by_cases h0 : s.size=0
  ·have hl : s.data.toList=[]:=List.eq_nil_of_length_eq_zero (by rw [← size_list]; omega)
   refine ⟨s,roundsL_k fun K hK=>?_,Nat.le_refl _,rfl,.inl hl⟩
   simp [c171L0,h0]
  ·obtain ⟨k,hk⟩ : ∃ k,s.size=k + 1:=⟨s.size - 1,by omega⟩
   have hwk : IntKind.wrap .i64 (k : Int)=k:=wrap_nat (by omega)
   have hll : s.data.toList.length=k + 1:=by rw [← size_list,hk]
   obtain ⟨z,hz⟩ : ∃ z,s.data.toList[k]? = some z:=⟨s.data.toList[k],List.getElem?_eq_getElem (by omega)⟩
   have hz3 : ∀ hh : k < s.data.size,s.data[k]=z:=fun hh=>by
    have:=hz
    rw [List.getElem?_eq_getElem (by simpa using hh)] at this
    simpa using this
   have hzl : s.data.toList.getLast? = some z:=by rw [List.getLast?_eq_getElem?,hll]; exact hz
   have hdec : s.data.toList=s.data.toList.take k++[z]:=by
    have:=List.take_append_drop k s.data.toList
    have hd : s.data.toList.drop k=[z]:=by
     rw [List.drop_eq_getElem_cons (by omega),List.drop_eq_nil_iff.2 (by omega)]
     rw [List.getElem?_eq_getElem (by omega)] at hz
     cases hz; rfl
    rw [← hd,this]
   have hby : ∀ b : UInt8,((b.toNat : Nat) : Int)=byI b:=fun _=>rfl
   have hct:=contains01_ok z
   cases hq : d01 z
   ·rw [hq] at hct
    refine ⟨s,roundsL_k fun K hK=>?_,Nat.le_refl _,rfl,.inr ⟨z,hzl,hq⟩⟩
    simp [c171L0,hk,hwk,hz,hz3,hby,hct]
   ·rw [hq] at hct
    have hsz : (s.extract 0 k).size=k:=by rw [ByteArray.size_extract]; omega
    obtain ⟨r,h1,h2,h3,h4⟩:=ih (s.extract 0 k) (by omega) (by omega)
    refine ⟨r,roundsL_k fun K hK=>?_,by omega,?_,h4⟩
    ·simp [c171L0,hk,hwk,hz,hz3,hby,hct,slcI]
     rw [hK,← h1]
    ·rw [h3,ext_list]
     conv=>rhs; rw [hdec]
     simp [hq]
theorem trimR_ok (s : ByteArray) (hb : s.size≤67108864) (u : AV) (ws : Nat) (h : Avm.H) (hu : snap h 8 u=some (.iptr A01)) : ∃ r : ByteArray,callL cfg ws 171 [.str s,u] h=some (.str r,h)∧r.size≤s.size∧r.data.toList.all d01=s.data.toList.all d01∧ends r.data.toList:=by
 obtain ⟨r,h1,h2⟩:=trimR_loop h _ s (Nat.le_refl _) hb
 refine ⟨r,callL_fn rfl rfl ?_,h2⟩
 simp [F171,c171,hu,h1]
theorem trimL_loop (h : Avm.H) : ∀ (n : Nat) (s : ByteArray),s.size≤n→∃ r : ByteArray,roundsL (evC (callL cfg) roundsL cfg.pol h.length h.length c170L0) [0,1] [(0,.str s),(1,.iptr A01)] h=some (.exit 0,[(0,.str r),(1,.iptr A01)],h)∧(r.data.toList=[] ↔ s.data.toList.all d01=true):=by
 intro n
 induction n with
 | zero=>
  intro s hs
  have h0 : s.size=0:=by omega
  have hl : s.data.toList=[]:=List.eq_nil_of_length_eq_zero (by rw [← size_list]; omega)
  refine ⟨s,roundsL_k fun K hK=>?_,by rw [hl]; simp⟩
  simp [c170L0,h0]
 | succ n ih=>
  intro s hs
  cases hl : s.data.toList with
  | nil=>
   have h0 : s.size=0:=by rw [size_list,hl]; rfl
   refine ⟨s,roundsL_k fun K hK=>?_,by rw [hl]; simp⟩
   simp [c170L0,h0]
  | cons c t=>
   have hk : s.size=t.length + 1:=by rw [size_list,hl]; rfl
   have hby : ∀ b : UInt8,((b.toNat : Nat) : Int)=byI b:=fun _=>rfl
   have hct:=contains01_ok c
   have hc0 : (c :: t)[0]? = some c:=rfl
   cases hq : d01 c
   ·rw [hq] at hct
    refine ⟨s,roundsL_k fun K hK=>?_,by rw [hl]; simp [hq]⟩
    simp [c170L0,hk,hl,hby,hct]
   ·rw [hq] at hct
    have hsz : (s.extract 1 s.size).size=t.length:=by rw [ByteArray.size_extract]; omega
    obtain ⟨r,h1,h2⟩:=ih (s.extract 1 s.size) (by omega)
    refine ⟨r,roundsL_k fun K hK=>?_,?_⟩
    ·rw [hk] at h1
     simp [c170L0,hk,hl,hby,hct,slcI]
     rw [hK,← h1]
    ·rw [h2,ext_list,hl,hk]
     simp [hq]
theorem trimL_ok (s : ByteArray) (u : AV) (ws : Nat) (h : Avm.H) (hu : snap h 8 u=some (.iptr A01)) : ∃ r : ByteArray,callL cfg ws 170 [.str s,u] h=some (.str r,h)∧(r.data.toList=[] ↔ s.data.toList.all d01=true):=by
 obtain ⟨r,h1,h2⟩:=trimL_loop h _ s (Nat.le_refl _)
 refine ⟨r,callL_fn rfl rfl ?_,h2⟩
 simp [F170,c170,hu,h1]
theorem trim01_ok (s : ByteArray) (hb : s.size≤67108864) (ws : Nat) (h : Avm.H) : ∃ r : ByteArray,callL cfg ws 89 [.str s,.str ⟨#[48,49]⟩] h=some (.str r,h)∧(r.data.toList=[] ↔ s.data.toList.all d01=true):=by
 have hE0 : (⟨#[]⟩ : ByteArray).toList=[]:=by rw [ByteArray.toList_eq]
 have hE2 : (⟨#[48,49]⟩ : ByteArray).toList=[48,49]:=by rw [ByteArray.toList_eq]
 have hE : s.toList=s.data.toList:=by rw [ByteArray.toList_eq]
 have hsz2 : (⟨#[48,49]⟩ : ByteArray).size=2:=rfl
 have hmk:=make01_ok
 have hA1 : A01.length=256:=A01_len
 have hA2:=eq_true (List.all_eq_true.1 A01_one)
 have hdr : A01.drop 256=[]:=List.drop_eq_nil_iff.2 (by rw [A01_len]; omega)
 cases hl : s.data.toList with
 | nil=>
  refine ⟨s,callL_fn rfl rfl ?_,by rw [hl]; simp⟩
  simp [-List.reduceReplicate,F89,c89,hE,hl,hE0]
 | cons c t=>
  have hsn : snap (h++[.arr 0 256 [.agg A01]]) 8 (.ptr h.length 0 256 0 0)=some (.iptr A01):=by
   simp [hA1,snapL_pure A01_pure]
  obtain ⟨r1,q1,q2,q3,q4⟩:=trimR_ok s hb (.ptr h.length 0 256 0 0) h.length _ hsn
  obtain ⟨r2,p1,p2⟩:=trimL_ok r1 (.ptr h.length 0 256 0 0) h.length _ hsn
  refine ⟨r2,callL_fn rfl rfl ?_,by rw [p2,q3,hl]⟩
  simp [-List.reduceReplicate,F89,c89,hE,hl,hE0,hE2,hsz2,hmk,hA1,hA2,hdr,List.take_of_length_le,q1,p1]
end Go.Proofs.YtflbneepngjglaaGreatDoor
