/- BasicEncodes: for every input whose reading holds at most so many values and letters, the law answers true, and what it was given reads as it read before. The conditions are the bound and the two tables of package utf8, which the card ties to the program's text. -/
import Derived.Test.YtflbneepngjglaaGreatDoorE30
import Derived.Test.YtflbneepngjglaaGreatDoorE25
import Derived.Test.YtflbneepngjglaaGreatDoorE52
import Derived.Test.YtflbneepngjglaaGreatDoorCards
import Derived.Test.YtflbneepngjglaaGreatDoorTie
set_option linter.all false
namespace Go.Proofs.YtflbneepngjglaaGreatDoor
open Go Go.Avm
theorem QrS (v:Val)(hl:v.items.length<=67108864)(hel: ∀x∈v.items,∀k:Int,1<=k->k<=1500-> ∀ws h,∃r:Int,r<=1500/\Qb cfg ws 54 [x.enc,.int .i64 k] h=some (.int .i64 r,h))(c0:Int)(hc0:c0<=1500)(h:Avm.H):
    ∃(c:Int) (i:Nat),c<=1500/\Qa (evC (Qb cfg) Qa cfg.pol h.length h.length Qla) [1,2,5] [(1,.int .i64 c0),(2,.ptr h.length 0 4 0 0),(5,.int .i64 (0:Nat))] (h++ [.arr 0 4 [v.enc]])=
     some (.exit 0,[(1,.int .i64 c),(2,.ptr h.length 0 4 0 0),(5,.int .i64 i)],h++ [.arr 0 4 [v.enc]]):=by
 have hlp:=Qg (γ:=Int) (f:=evC (Qb cfg) Qa cfg.pol h.length h.length Qla) (keep:=[1,2,5]) v.items
  (fun _ c=>c<=1500)
  (fun i c=>[(1,.int .i64 c),(2,.ptr h.length 0 4 0 0),(5,.int .i64 i)]) (fun _ _=>h++ [.arr 0 4 [v.enc]])
  (fun _ _ o=>∃(c:Int) (i:Nat),c<=1500/\o=(.exit 0,[(1,.int .i64 c),(2,.ptr h.length 0 4 0 0),(5,.int .i64 i)],h++ [.arr 0 4 [v.enc]])) ?_ ?_ c0 hc0
 ·obtain⟨o,h1,c,i,h2,rfl⟩:=hlp;exact⟨c,i,h2,h1⟩
 ·intro i x r c hd hi hx hI K hK;have hm1:x∈v.items:=by rw[←hx]; exact List.getElem_mem hi
  have hw:=Qd (n:=i+1) (by omega)
  by_cases q:0<c
  ·obtain⟨r',r1,e1⟩:=hel x hm1 c (by omega) hI h.length (h++ [.arr 0 4 [v.enc]])
   obtain⟨o,h4,h5⟩:=hK r' r1;refine⟨o,?_,h5⟩
   simp at hw h4 e1;simp[Qla,hi,hx,q,e1,hw,h4]
  ·refine⟨_,?_,c,i,hI,rfl⟩
   simp[Qla,hi,hx,q]
 ·intro c K hI;refine⟨_,?_,c,v.items.length,hI,rfl⟩
  simp[Qla]
theorem QeN : ∀(n:Nat) (v:Val),v.size<=n->v.size<=67108864-> ∀k:Int,-2147483648<=k->k<=1500-> ∀ws h,∃r:Int,r<=1500/\Qb cfg ws 54 [v.enc,.int .i64 k] h=some (.int .i64 r,h)
 | 0,v,hv,_,_,_,_,_,_=>by have:=v.size_pos; omega
 | n+1,v,hv,hb,k,k0,k1,ws,h=>by
  have hlen:=v.Qv;obtain⟨c,i,hc,e4⟩:=QrS v (by omega) (fun x hx k k2 k3 ws h=>QeN n x (by have:=Val.Qu hx; omega) (by have:=Val.Qu hx; omega) k (by omega) k3 ws h) (k-1) (by omega) h
  refine⟨c,hc,Qc rfl rfl ?_⟩
  have w:IntKind.wrap .i64 (k-1)=k-1:=Qo (by omega) (by omega)
  simp at e4;simp[F54,c54,w,e4]
section
variable (t : Ty) (ht : t.wid <= 67108864)
 (hel: ∀x:Ty,x∈t.kids\/(∃y∈t.items,y.of=x)-> ∀k:Int,-2147483648<=k->k<=1500-> ∀ws h,∃r:Int,r<=1500/\Qb cfg ws 53 [x.enc,.int .i64 k] h=some (.int .i64 r,h))
 (hev: ∀y∈t.items,∀x∈y.Qy,∀k:Int,-2147483648<=k->k<=1500-> ∀ws h,∃r:Int,r<=1500/\Qb cfg ws 54 [x.enc,.int .i64 k] h=some (.int .i64 r,h))
include ht hel in
theorem Qud (c0:Int)(hc0:c0<=1500)(h:Avm.H):
    ∃(c:Int) (i:Nat),c<=1500/\Qa (evC (Qb cfg) Qa cfg.pol h.length h.length Qld) [1,2,5] [(1,.int .i64 c0),(2,.ptr h.length 0 8 0 0),(5,.int .i64 (0:Nat))] (h++ [.arr 0 8 [t.enc]])=
     some (.exit 0,[(1,.int .i64 c),(2,.ptr h.length 0 8 0 0),(5,.int .i64 i)],h++ [.arr 0 8 [t.enc]]):=by
 have hkl:=t.ZK
 have hlp:=Qg (γ:=Int) (f:=evC (Qb cfg) Qa cfg.pol h.length h.length Qld) (keep:=[1,2,5]) t.kids
  (fun _ c=>c<=1500)
  (fun i c=>[(1,.int .i64 c),(2,.ptr h.length 0 8 0 0),(5,.int .i64 i)]) (fun _ _=>h++ [.arr 0 8 [t.enc]])
  (fun _ _ o=>∃(c:Int) (i:Nat),c<=1500/\o=(.exit 0,[(1,.int .i64 c),(2,.ptr h.length 0 8 0 0),(5,.int .i64 i)],h++ [.arr 0 8 [t.enc]])) ?_ ?_ c0 hc0
 ·obtain⟨o,h1,c,i,h2,rfl⟩:=hlp;exact⟨c,i,h2,h1⟩
 ·intro i x r c hd hi hx hI K hK;have hm1:x∈t.kids:=by rw[←hx]; exact List.getElem_mem hi
  have hw:=Qd (n:=i+1) (by omega)
  by_cases q:0<c
  ·obtain⟨r',r1,e1⟩:=hel x (.inl hm1) c (by omega) hI h.length (h++ [.arr 0 8 [t.enc]])
   obtain⟨o,h4,h5⟩:=hK r' r1;refine⟨o,?_,h5⟩
   simp at hw h4 e1;simp[Qld,hi,hx,q,e1,hw,h4]
  ·refine⟨_,?_,c,i,hI,rfl⟩
   simp[Qld,hi,hx,q]
 ·intro c K hI;refine⟨_,?_,c,t.kids.length,hI,rfl⟩
  simp[Qld]
include ht hev in
theorem Quc (i:Nat)(y:It)(hi:i<t.items.length)(hy:t.items[i]=y)(c0:Int)(hc0:c0<=1500)(h:Avm.H):
    ∃(c:Int) (j:Nat),c<=1500/\Qa (evC (Qb cfg) Qa cfg.pol h.length h.length Qlc) [1,2,6,7] [(1,.int .i64 c0),(2,.ptr h.length 0 8 0 0),(6,.int .i64 i),(7,.int .i64 (0:Nat))] (h++ [.arr 0 8 [t.enc]])=
     some (.exit 4,[(1,.int .i64 c),(2,.ptr h.length 0 8 0 0),(6,.int .i64 i),(7,.int .i64 j)],h++ [.arr 0 8 [t.enc]]):=by
 have hwi:=t.Qe;have hmy:y∈t.items:=by rw[←hy]; exact List.getElem_mem hi
 have hyl:y.Qy.length<=67108864:=by
  have h1:=Ty.Jh hmy;have h2:=y.Qhv;omega
 have hlp:=Qg (γ:=Int) (f:=evC (Qb cfg) Qa cfg.pol h.length h.length Qlc) (keep:=[1,2,6,7]) y.Qy
  (fun _ c=>c<=1500)
  (fun j c=>[(1,.int .i64 c),(2,.ptr h.length 0 8 0 0),(6,.int .i64 i),(7,.int .i64 j)]) (fun _ _=>h++ [.arr 0 8 [t.enc]])
  (fun _ _ o=>∃(c:Int) (j:Nat),c<=1500/\o=(.exit 4,[(1,.int .i64 c),(2,.ptr h.length 0 8 0 0),(6,.int .i64 i),(7,.int .i64 j)],h++ [.arr 0 8 [t.enc]])) ?_ ?_ c0 hc0
 ·obtain⟨o,h1,c,j,h2,rfl⟩:=hlp;exact⟨c,j,h2,h1⟩
 ·intro j x r c hd hj hx hI K hK;have hm1:x∈y.Qy:=by rw[←hx]; exact List.getElem_mem hj
  have hw:=Qd (n:=j+1) (by omega)
  by_cases q:0<c
  ·obtain⟨r',r1,e1⟩:=hev y hmy x hm1 c (by omega) hI h.length (h++ [.arr 0 8 [t.enc]])
   obtain⟨o,h4,h5⟩:=hK r' r1;refine⟨o,?_,h5⟩
   simp at hw h4 e1;simp[Qlc,hi,hy,hj,hx,q,e1,hw,h4]
  ·refine⟨_,?_,c,j,hI,rfl⟩
   simp[Qlc,hi,hy,hj,hx,q]
 ·intro c K hI;refine⟨_,?_,c,y.Qy.length,hI,rfl⟩
  simp[Qlc,hi,hy]
include ht hel hev in
theorem Qub (c0:Int)(hc0:c0<=1500)(h:Avm.H):
    ∃(c:Int) (i:Nat),c<=1500/\Qa (evC (Qb cfg) Qa cfg.pol h.length h.length Qlb) [1,2,6] [(1,.int .i64 c0),(2,.ptr h.length 0 8 0 0),(6,.int .i64 (0:Nat))] (h++ [.arr 0 8 [t.enc]])=
     some (.exit 2,[(1,.int .i64 c),(2,.ptr h.length 0 8 0 0),(6,.int .i64 i)],h++ [.arr 0 8 [t.enc]]):=by
 have hwi:=t.Qe
 have hlp:=Qg (γ:=Int) (f:=evC (Qb cfg) Qa cfg.pol h.length h.length Qlb) (keep:=[1,2,6]) t.items
  (fun _ c=>c<=1500)
  (fun i c=>[(1,.int .i64 c),(2,.ptr h.length 0 8 0 0),(6,.int .i64 i)]) (fun _ _=>h++ [.arr 0 8 [t.enc]])
  (fun _ _ o=>∃(c:Int) (i:Nat),c<=1500/\o=(.exit 2,[(1,.int .i64 c),(2,.ptr h.length 0 8 0 0),(6,.int .i64 i)],h++ [.arr 0 8 [t.enc]])) ?_ ?_ c0 hc0
 ·obtain⟨o,h1,c,i,h2,rfl⟩:=hlp;exact⟨c,i,h2,h1⟩
 ·intro i x r c hd hi hx hI K hK;have hm1:x∈t.items:=by rw[←hx]; exact List.getElem_mem hi
  have hw:=Qd (n:=i+1) (by omega)
  by_cases q:0<c
  ·obtain⟨r',r1,e1⟩:=hel x.of (.inr ⟨x,hm1,rfl⟩) c (by omega) hI h.length (h++ [.arr 0 8 [t.enc]])
   obtain⟨c2,j,r2,e2⟩:=Quc t ht hev i x hi hx r' r1 h;obtain⟨o,h4,h5⟩:=hK c2 r2;refine⟨o,?_,h5⟩
   simp at hw h4 e1 e2;simp[Qlb,hi,hx,q,e1,e2,hw,h4]
  ·refine⟨_,?_,c,i,hI,rfl⟩
   simp[Qlb,hi,hx,q]
 ·intro c K hI;refine⟨_,?_,c,t.items.length,hI,rfl⟩
  simp[Qlb]
end
theorem Qhz : ∀(n:Nat) (t:Ty),t.size<=n->t.size<=67108864-> ∀k:Int,-2147483648<=k->k<=1500-> ∀ws h,∃r:Int,r<=1500/\Qb cfg ws 53 [t.enc,.int .i64 k] h=some (.int .i64 r,h)
 | 0,t,hv,_,_,_,_,_,_=>by have:=t.size_pos; omega
 | n+1,t,hv,hb,k,k0,k1,ws,h=>by
  have ht:t.wid<=67108864:=Nat.le_trans t.XE hb
  have hel: ∀x:Ty,x∈t.kids\/(∃y∈t.items,y.of=x)-> ∀k:Int,-2147483648<=k->k<=1500-> ∀ws h,∃r:Int,r<=1500/\Qb cfg ws 53 [x.enc,.int .i64 k] h=some (.int .i64 r,h):=fun x hx=>by
   have hlt:x.size<t.size:=by
    rcases hx with hx | ⟨y,hy,rfl⟩
    ·exact Ty.Xa hx
    ·exact Ty.mem_of hy
   exact Qhz n x (by omega) (by omega)
  have hev: ∀y∈t.items,∀x∈y.Qy,∀k:Int,-2147483648<=k->k<=1500-> ∀ws h,∃r:Int,r<=1500/\Qb cfg ws 54 [x.enc,.int .i64 k] h=some (.int .i64 r,h):=fun y hy x hx=>by
   have h1:=It.QnI hx;have h2:=Ty.Qu hy;exact QeN _ x (Nat.le_refl _) (by omega)
  obtain⟨c,i,hc,e3⟩:=Qud t ht hel (k-1) (by omega) h
  obtain⟨c',i',hc',e4⟩:=Qub t ht hel hev c hc h;refine⟨c',hc',Qc rfl rfl ?_⟩
  have w:IntKind.wrap .i64 (k-1)=k-1:=Qo (by omega) (by omega)
  simp at e3 e4;simp[F53,c53,w,e3,e4]
theorem QvE (m:Md)(hm:m.ok)(t:Ty)(v:Val)(h:Avm.H):
    ∃(c:Int) (i:Nat),c<=1500/\Qa (evC (Qb cfg) Qa cfg.pol h.length h.length Qle) [3,4,5,7,8] [(3,.ptr h.length 0 2 0 0),(4,.ptr (h.length+1) 0 8 0 0),(5,.ptr (h.length+2) 0 4 0 0),(7,.int .i64 1500),(8,.int .i64 (0:Nat))] (h++ [.arr 0 2 [m.enc],.arr 0 8 [t.enc],.arr 0 4 [v.enc]])=
     some (.exit 0,[(3,.ptr h.length 0 2 0 0),(4,.ptr (h.length+1) 0 8 0 0),(5,.ptr (h.length+2) 0 4 0 0),(7,.int .i64 c),(8,.int .i64 i)],h++ [.arr 0 2 [m.enc],.arr 0 8 [t.enc],.arr 0 4 [v.enc]]):=by
 have hlen:=hm.len
 have hlp:=Qg (γ:=Int) (f:=evC (Qb cfg) Qa cfg.pol h.length h.length Qle) (keep:=[3,4,5,7,8]) m.defs
  (fun _ c=>c<=1500)
  (fun i c=>[(3,.ptr h.length 0 2 0 0),(4,.ptr (h.length+1) 0 8 0 0),(5,.ptr (h.length+2) 0 4 0 0),(7,.int .i64 c),(8,.int .i64 i)]) (fun _ _=>h++ [.arr 0 2 [m.enc],.arr 0 8 [t.enc],.arr 0 4 [v.enc]])
  (fun _ _ o=>∃(c:Int) (i:Nat),c<=1500/\o=(.exit 0,[(3,.ptr h.length 0 2 0 0),(4,.ptr (h.length+1) 0 8 0 0),(5,.ptr (h.length+2) 0 4 0 0),(7,.int .i64 c),(8,.int .i64 i)],h++ [.arr 0 2 [m.enc],.arr 0 8 [t.enc],.arr 0 4 [v.enc]])) ?_ ?_ 1500 (by omega)
 ·obtain⟨o,h1,c,i,h2,rfl⟩:=hlp;exact⟨c,i,h2,h1⟩
 ·intro i x r c hd hi hx hI K hK;have hm1:x∈m.defs:=by rw[←hx]; exact List.getElem_mem hi
  have hw:=Qd (n:=i+1) (by omega)
  have hps:=hm.params x hm1;by_cases q:0<c
  ·have w1:IntKind.wrap .i64 (c-1)=c-1:=Qo (by omega) (by omega)
   have w2:IntKind.wrap .i64 (c-1-(x.params.length:Int))=c-1-(x.params.length:Int):=Qo (by omega) (by omega)
   obtain⟨r',r1,e1⟩:=Qhz _ x.of (Nat.le_refl _) (hm.of x hm1) (c-1-(x.params.length:Int)) (by omega) (by omega) h.length (h++ [.arr 0 2 [m.enc],.arr 0 8 [t.enc],.arr 0 4 [v.enc]])
   obtain⟨o,h4,h5⟩:=hK r' r1;refine⟨o,?_,h5⟩
   simp only[Md.enc]at*;simp at hw h4 e1;simp[Qle,hi,hx,q,e1,hw,h4,w1,w2]
  ·refine⟨_,?_,c,i,hI,rfl⟩
   simp[Qle,hi,hx,q,Md.enc]
 ·intro c K hI;refine⟨_,?_,c,m.defs.length,hI,rfl⟩
  simp[Qle,Md.enc]
theorem QvD (m:Md)(hm:m.ok)(t:Ty)(hs:t.size<=67108864)(v:Val)(hv:v.size<=67108864)(ws:Nat)(h:Avm.H): ∃b,Qb cfg ws 25 [m.enc,t.enc,v.enc] h=some (.bool b,h):=by
 obtain⟨c,i,hc,e3⟩:=QvE m hm t v h;simp only[Md.enc]at e3;simp at e3;by_cases q:0<c
 ·obtain⟨c2,hc2,e4⟩:=Qhz _ t (Nat.le_refl _) hs c (by omega) hc h.length (h++ [.arr 0 2 [m.enc],.arr 0 8 [t.enc],.arr 0 4 [v.enc]])
  simp only[Md.enc]at e4;simp at e4;by_cases q2:0<c2
  ·obtain⟨c3,hc3,e5⟩:=QeN _ v (Nat.le_refl _) hv c2 (by omega) hc2 h.length (h++ [.arr 0 2 [m.enc],.arr 0 8 [t.enc],.arr 0 4 [v.enc]])
   simp only[Md.enc]at e5;simp at e5;refine⟨decide (c3<=0),Qc rfl rfl ?_⟩
   simp[F25,c25,Md.enc,e3,e4,e5,q,q2]
  ·refine⟨decide (c2<=0),Qc rfl rfl ?_⟩
   simp[F25,c25,Md.enc,e3,e4,q,q2]
 ·refine⟨decide (c<=0),Qc rfl rfl ?_⟩
  simp[F25,c25,Md.enc,e3,q]
end Go.Proofs.YtflbneepngjglaaGreatDoor
namespace Go.Proofs.YtflbneepngjglaaGreatDoor
open Go Go.Avm
set_option maxRecDepth 100000 in
theorem Qzw (ws:Nat)(A0 A1 A2:Qp):Jl cfg 100 ws 26 [] [A0,A1,A2]=some (.bool true,[A0,A1,A2]):=by kernel_rfl
theorem Qzt (ws:Nat)(A0 A1 A2:Qp):Qb cfg ws 26 [] [A0,A1,A2]=some (.bool true,[A0,A1,A2]):=Qho 100 _ _ _ _ _ (Qzw ws A0 A1 A2)
set_option maxRecDepth 100000 in
theorem Qzv (ws:Nat)(A0 A1 A2 A3:Qp):Jl cfg 100 ws 26 [] [A0,A1,A2,A3]=some (.bool true,[A0,A1,A2,A3]):=by kernel_rfl
theorem Qzs (ws:Nat)(A0 A1 A2 A3:Qp):Qb cfg ws 26 [] [A0,A1,A2,A3]=some (.bool true,[A0,A1,A2,A3]):=Qho 100 _ _ _ _ _ (Qzv ws A0 A1 A2 A3)
set_option maxRecDepth 100000 in
theorem Qzu (ws:Nat)(A0 A1 A2 A3 A4:Qp):Jl cfg 100 ws 26 [] [A0,A1,A2,A3,A4]=some (.bool true,[A0,A1,A2,A3,A4]):=by kernel_rfl
theorem Qzr (ws:Nat)(A0 A1 A2 A3 A4:Qp):Qb cfg ws 26 [] [A0,A1,A2,A3,A4]=some (.bool true,[A0,A1,A2,A3,A4]):=Qho 100 _ _ _ _ _ (Qzu ws A0 A1 A2 A3 A4)
end Go.Proofs.YtflbneepngjglaaGreatDoor
namespace Go.Proofs.YtflbneepngjglaaGreatDoor
open Go Go.Avm
theorem Qni (x:Val)(L:Nat)(h:Avm.H)(hL:h[L]? =some (.arr 0 4 (x.items.map Val.enc))):snap h deep (.agg [.int .i64 x.kind,.int .i64 x.int,.str x.bytes,.osl L 0 4 0 x.items.length])=some x.enc:=by
 simp[deep,hL]
theorem QjX (x:Val)(h:Avm.H):snap h deep x.enc=some x.enc:=by simp[deep]
theorem Qxa (x:Ty)(h:Avm.H):snap h deep x.enc=some x.enc:=by simp[deep]
theorem Qxb (m:Md)(h:Avm.H):snap h deep m.enc=some m.enc:=by simp[deep,Md.enc]
theorem Qxf (x:Val)(hx:x.nodes<=67108864)(L:Nat)(ws:Nat)(h:Avm.H)(hL:h[L]? =some (.arr 0 4 (x.items.map Val.enc))):Qb cfg ws 13 [x.enc,.agg [.int .i64 x.kind,.int .i64 x.int,.str x.bytes,.osl L 0 4 0 x.items.length]] h=some (.bool true,h):=by
 rw[Wn (args':=[x.enc,x.enc]) rfl rfl rfl (by simp only[QG,Qni x L h hL,QjX]),QeT _ x x (Nat.le_refl _) hx ws h,Qkc]
theorem Qnp (m:Md)(hm:m.ok)(t:Ty)(hs:t.size<=67108864)(v:Val)(hv:v.size<=67108864)(L:Nat)(ws:Nat)(h:Avm.H)(hL:h[L]? =some (.arr 0 4 (v.items.map Val.enc))):
    Qb cfg ws 28 [m.enc,t.enc,.agg [.int .i64 v.kind,.int .i64 v.int,.str v.bytes,.osl L 0 4 0 v.items.length]] h=some (.tup [.str (WU m t v).1,.int .i64 (WU m t v).2],h):=by
 rw[Wn (args':=[m.enc,t.enc,v.enc]) rfl rfl rfl (by simp only[QG,Qni v L h hL,QjX,Qxa,Qxb]),QhY m hm t hs v hv ws h]
theorem QgF (m:Md)(hm:m.ok)(t:Ty)(hs:t.size<=67108864)(v:Val)(hv:v.size<=67108864):Qb cfg 0 6 [m.enc,t.enc,v.enc] []=some (.bool true,[]):=by
 obtain⟨b,e0⟩:=QvD m hm t hs v hv 0 [.arr 0 2 [m.enc],.arr 0 8 [t.enc],.arr 0 4 [v.enc]];refine Qc rfl rfl ?_
 cases b with
 | true=>
  simp only[Md.enc]at e0;simp at e0;simp[F6,c6,Md.enc,e0,Qzt]
 | false=>
  have e1:=QiG _ v (Nat.le_refl _) hv 0 [.arr 0 2 [m.enc],.arr 0 8 [t.enc],.arr 0 4 [v.enc]];have e2:=fun ws h=>QpW m hm t hs v hv ws h
  have hvn:=WM _ v (Nat.le_refl _);by_cases q:v.items=[]
  ·have e3:=fun ws h=>QhY m hm t hs v hv ws h
   have e4:=fun ws h=>QeT _ v v (Nat.le_refl _) (by omega) ws h
   rw[Qkc]at e4;simp only[cpV,cpH,if_pos q]at e1;generalize WU m t v=r at*;obtain⟨b,e⟩:=r;simp only[Md.enc]at*;simp at e0 e1 e2 e3 e4;simp[F6,c6,Md.enc,e0,e1,e2,e3,e4,Qzs]
  ·have e3:=Qnp m hm t hs v hv 3 0 [.arr 0 2 [m.enc],.arr 0 8 [t.enc],.arr 0 4 [v.enc],.arr 0 4 (v.items.map Val.enc),.arr 0 4 [.agg [.int .i64 v.kind,.int .i64 v.int,.str v.bytes,.osl 3 0 4 0 v.items.length]]] rfl;have e4:=Qxf v (by omega) 3 0 [.arr 0 2 [m.enc],.arr 0 8 [t.enc],.arr 0 4 [v.enc],.arr 0 4 (v.items.map Val.enc),.arr 0 4 [.agg [.int .i64 v.kind,.int .i64 v.int,.str v.bytes,.osl 3 0 4 0 v.items.length]]] rfl
   simp only[cpV,cpH,if_neg q]at e1;generalize WU m t v=r at*;obtain⟨b,e⟩:=r;simp only[Md.enc]at*;simp at e0 e1 e2 e3 e4;simp[F6,c6,Md.enc,e0,e1,e2,e3,e4,Qzr]
end Go.Proofs.YtflbneepngjglaaGreatDoor
namespace Go.Proofs.YtflbneepngjglaaGreatDoor
open Go Go.Avm Go.RowKit Go.ChangeShapes Go.WideShapes Go.ChangeAt
theorem QzU (xs:List AV)(h:QmQ Tryz.prog Tryz.f6.params.toList xs)(hn:QI xs<=1048576): ∃h',Qb cfg 0 6 xs []=some (.bool true,h'):=by
 have hagM:XP Tryz.prog 24=true:=by simp[XP,Tryz.underlying24]
 have hagT:XP Tryz.prog 28=true:=by simp[XP,Tryz.underlying28]
 have hagV:XP Tryz.prog 31=true:=by simp[XP,Tryz.underlying31]
 rw[Tryz.params6]at h;obtain⟨f1,l1,r1,rfl,t1,f2,l2,r2,rfl,t2,f3,l3,r3,rfl,t3,rfl⟩:=h;rw[hagM,hagT,hagV]at hn ⊢;simp only[QI,XA,if_true,AV.bulk]at hn ⊢;obtain⟨m,hm,sm⟩:=QCB t1 (by omega)
 obtain⟨t,ht,st⟩:=QqU _ _ _ (Nat.le_refl _) t2;obtain⟨v,hv,sv⟩:=Qpl _ _ _ (Nat.le_refl _) t3;simp only[AV.bulk]at sv;rw[hm,hv,ht];exact⟨[],QgF m sm t (by omega) v (by omega)⟩
set_option maxRecDepth 100000 in
theorem Qwn (H:Type)(enc:TypeId×Value->H)(W:World)(base:Nat)(args:Array Value)(ds gs:List (DataW H))(before:List MemPlace)
    (hval: ∀(j:Nat) t v,Tryz.f6.params[j]? =some t->args[j]? =some v->Value.okWide Tryz.prog W .any base t v)
    (hW:DataW.Whole enc Tryz.prog Tryz.f6.params.toList Rows.basicEncodesSpec.vars false W args.toList ds gs before) (hk:Rows.uptoSmall H (ds++gs)=true) (hsh:W.ShapedOpen Tryz.prog):
    Calls Tryz.prog 6 args W fun e W'=>∃v,e= .returned v/\Rows.basicEncodesSpec.post enc Tryz.prog Tryz.f6 false true false false W args v W':=by
 have hW':=hW;obtain⟨m,hm⟩:=Tryz.Qzc.s1_3 W hsh;obtain⟨p,q,hA,hV,hps,hfz,hnd⟩:=hW;obtain⟨rfl,rfl⟩:=trodVars_none hV
 have hds: ∃d0 d1 d2,ds=[d0,d1,d2]:=by
  have h:=hA;rw[Tryz.params6]at h;obtain⟨_,_,d0,_,_,_,_,rfl,_,_,r0⟩:=trodAll_cons h;obtain⟨_,_,d1,_,_,_,_,rfl,_,_,r1⟩:=trodAll_cons r0;obtain⟨_,_,d2,_,_,_,_,rfl,_,_,r2⟩:=trodAll_cons r1;obtain⟨_,rfl,_⟩:=trodAll_nil r2;exact⟨d0,d1,d2,rfl⟩
 obtain⟨d0,d1,d2,rfl⟩:=hds;obtain⟨N,hN,hb⟩: ∃N,N=1048576/\Rows.uptoBulkAll [d0,d1,d2]<=N:=⟨_,rfl,of_decide_eq_true hk⟩;refine(Qta (QAu hm) Tryz.func6 (by decide+kernel) rfl (QBe H) (n:=N) (fun xs h1 h2=>QzU xs h1 (hN▸h2)) hval hA hb).mono fun e W' ⟨he,hbl⟩=>?_
 exact⟨_,he,QvC hW' rfl rfl rfl Tryz.underlying4 (by kernel_rfl) (by kernel_rfl) hbl⟩
theorem QvF (os:Os):laidMet Tryz.prog Rows.basicEncodesUptoRow.laid ((Qfk os).forCall (fun _ _=>0) ⟨#[],#[.agg #[.string ⟨#[]⟩,.slice none 0 0],.agg #[.int .i64 0,.string ⟨#[]⟩,.int .i64 0,.int .i64 0,.bool false,.bool false,.slice none 0 0,.slice none 0 0],.agg #[.int .i64 0,.int .i64 0,.string ⟨#[]⟩,.slice none 0 0]],[]⟩).memory:=
 laidMet_of_run' 8 (by kernel_rfl) (by kernel_rfl)
theorem reads (os:Os){H:Type}(enc:TypeId×Value->H): ∃places,DataW.whole enc Tryz.prog ((Qfk os).forCall (fun _ _=>0) ⟨#[],#[.agg #[.string ⟨#[]⟩,.slice none 0 0],.agg #[.int .i64 0,.string ⟨#[]⟩,.int .i64 0,.int .i64 0,.bool false,.bool false,.slice none 0 0,.slice none 0 0],.agg #[.int .i64 0,.int .i64 0,.string ⟨#[]⟩,.slice none 0 0]],[]⟩).memory Tryz.f6.params.toList Rows.basicEncodesSpec.vars false (#[.agg #[.string ⟨#[]⟩,.slice none 0 0],.agg #[.int .i64 0,.string ⟨#[]⟩,.int .i64 0,.int .i64 0,.bool false,.bool false,.slice none 0 0,.slice none 0 0],.agg #[.int .i64 0,.int .i64 0,.string ⟨#[]⟩,.slice none 0 0]]:Array Value).toList 8=some ([.agg [.lit (.string []),.nil],.agg [.lit (.int .i64 0),.lit (.string []),.lit (.int .i64 0),.lit (.int .i64 0),.lit (.bool false),.lit (.bool false),.nil,.nil],.agg [.lit (.int .i64 0),.lit (.int .i64 0),.lit (.string []),.nil]],[],places):=
 ⟨[],by kernel_rfl⟩
set_option maxRecDepth 100000 in
theorem Qqj (os:Os)(started:os.Started)(H:Type)(enc:TypeId×Value->H)(F:Stop.Interp):
    ReturnsInHanded {} Tryz.checked os 6 .any ((Rows.OpenSpec.upto Rows.basicEncodesSpec).preRow enc Tryz.prog Tryz.f6 Rows.basicEncodesUptoRow.domain false Rows.basicEncodesUptoRow.laid) (((Rows.OpenSpec.upto Rows.basicEncodesSpec).at F).post enc Tryz.prog Tryz.f6 false true false false):=by
 obtain⟨places,hx⟩:=reads os enc
 refine returnsInHanded_of_row (C:=Tryz.checked) (s:=Rows.OpenSpec.upto Rows.basicEncodesSpec) own started (by kernel_rfl) Tryz.func6
  (witness_row_at (enc:=enc) (C:=Tryz.checked) false (Qfk os) #[.agg #[.string ⟨#[]⟩,.slice none 0 0],.agg #[.int .i64 0,.string ⟨#[]⟩,.int .i64 0,.int .i64 0,.bool false,.bool false,.slice none 0 0,.slice none 0 0],.agg #[.int .i64 0,.int .i64 0,.string ⟨#[]⟩,.slice none 0 0]] rfl (by kernel_rfl) (by kernel_rfl) (by kernel_rfl)
   (OpenSpec.preRow_of_cond 8 hx (by kernel_rfl) (fun k hk=>by cases hk; kernel_rfl) (by kernel_rfl) (QvF os))) ?_
 intro W base args ds gs before hval hW _ hcond _ _ hsh _;exact Qwn H enc W base args ds gs before hval hW (hcond _ rfl) hsh
theorem QuC :Rows.BasicEncodesUptoSaid:=
 OpenClaim.holds_of_cond 6 Tryz.f6 rfl rfl rfl rfl rfl rfl rfl ⟨rfl,rfl,rfl,rfl,rfl⟩ rfl rfl rfl rfl rfl (by kernel_rfl) Tryz.func6 QcQ
  (of_decide_eq_true (by kernel_rfl)) (by unfold Func.isWrapper; first | (rw[if_pos (by decide+kernel)]; kernel_rfl) | (rw[if_neg (by decide+kernel)]; exact⟨rfl,rfl⟩))
  (fun os started H enc _ F=>by rw[OpenClaim.pre_eq_preRow]; exact Qqj os started H enc F)
theorem plain (f:FuncId)(fn:Func)(hf:Tryz.pinned.checked.prog.funcNamed "heptad/heptadlaw05.BasicEncodes" =some f)(hfn:Tryz.pinned.checked.prog.funcs[f]? =some fn):
    false=Tryz.pinned.checked.prog.looks []/\ ∀(j:Nat) t,fn.params[j]? =some t->Tryz.pinned.checked.prog.wantsStandIn t=false:=by
 obtain rfl:f=6:=Option.some.inj ((show Tryz.prog.funcNamed "heptad/heptadlaw05.BasicEncodes" =some 6 by kernel_rfl).symm.trans hf) |>.symm
 obtain rfl:fn=Tryz.f6:=(Option.some.inj (Tryz.func6.symm.trans hfn)).symm;refine⟨by kernel_rfl,fun j t ht=>?_⟩
 rw[Tryz.params6]at ht;have hall: ∀t∈(#[24,28,31]:Array TypeId),Tryz.prog.wantsStandIn t=false:=by decide+kernel
 exact hall t (Array.mem_of_getElem? ht)
theorem basicEncodes_holds :Rows.BasicEncodesUptoCardSaid:=
 Claim7.holds_tied_plain_at .later [] _ _ _ _ QuC (fun _ h=>by cases h) (by kernel_rfl) (fun _ h=>by cases h) basicEncodesUpto_row_tie rfl ⟨rfl,rfl⟩ (by kernel_rfl) rfl plain (by kernel_rfl)
end Go.Proofs.YtflbneepngjglaaGreatDoor
