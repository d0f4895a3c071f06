/- Two values that are written alike are the same: the parts. -/
import Derived.Test.YtflbneepngjglaaGreatDoorO30
import Derived.Test.YtflbneepngjglaaGreatDoorO25
import Derived.Test.YtflbneepngjglaaGreatDoorO50
import Derived.Test.YtflbneepngjglaaGreatDoorO51
set_option linter.all false
namespace Go.Proofs.YtflbneepngjglaaGreatDoor
open Go Go.Avm
theorem Qrx (v:Val)(hl:v.items.length<=67108864)(hel: ∀x∈v.items,∀k:Int,1<=k->k<=1500-> ∀ws h,∃r:Int,r<=1500/\Qb cfg ws 54 [x.enc,.int .i64 k] h=some (.int .i64 r,h))(c0:Int)(hc0:c0<=1500)(h:Avm.H):
    ∃(c:Int) (i:Nat),c<=1500/\Qa (evC (Qb cfg) Qa cfg.pol h.length h.length Qky) [1,2,5] [(1,.int .i64 c0),(2,.ptr h.length 0 4 0 0),(5,.int .i64 (0:Nat))] (h++ [.arr 0 4 [v.enc]])=
     some (.exit 0,[(1,.int .i64 c),(2,.ptr h.length 0 4 0 0),(5,.int .i64 i)],h++ [.arr 0 4 [v.enc]]):=by
 have hlp:=Qg (γ:=Int) (f:=evC (Qb cfg) Qa cfg.pol h.length h.length Qky) (keep:=[1,2,5]) v.items
  (fun _ c=>c<=1500)
  (fun i c=>[(1,.int .i64 c),(2,.ptr h.length 0 4 0 0),(5,.int .i64 i)]) (fun _ _=>h++ [.arr 0 4 [v.enc]])
  (fun _ _ o=>∃(c:Int) (i:Nat),c<=1500/\o=(.exit 0,[(1,.int .i64 c),(2,.ptr h.length 0 4 0 0),(5,.int .i64 i)],h++ [.arr 0 4 [v.enc]])) ?_ ?_ c0 hc0
 ·obtain⟨o,h1,c,i,h2,rfl⟩:=hlp;exact⟨c,i,h2,h1⟩
 ·intro i x r c hd hi hx hI K hK;have hm1:x∈v.items:=by rw[←hx]; exact List.getElem_mem hi
  have hw:=Qd (n:=i+1) (by omega)
  by_cases q:0<c
  ·obtain⟨r',r1,e1⟩:=hel x hm1 c (by omega) hI h.length (h++ [.arr 0 4 [v.enc]])
   obtain⟨o,h4,h5⟩:=hK r' r1;refine⟨o,?_,h5⟩
   simp at hw h4 e1;simp[Qky,hi,hx,q,e1,hw,h4]
  ·refine⟨_,?_,c,i,hI,rfl⟩
   simp[Qky,hi,hx,q]
 ·intro c K hI;refine⟨_,?_,c,v.items.length,hI,rfl⟩
  simp[Qky]
theorem QeD : ∀(n:Nat) (v:Val),v.size<=n->v.size<=67108864-> ∀k:Int,-2147483648<=k->k<=1500-> ∀ws h,∃r:Int,r<=1500/\Qb cfg ws 54 [v.enc,.int .i64 k] h=some (.int .i64 r,h)
 | 0,v,hv,_,_,_,_,_,_=>by have:=v.size_pos; omega
 | n+1,v,hv,hb,k,k0,k1,ws,h=>by
  have hlen:=v.Qw;obtain⟨c,i,hc,e4⟩:=Qrx v (by omega) (fun x hx k k2 k3 ws h=>QeD n x (by have:=Val.Qu hx; omega) (by have:=Val.Qu hx; omega) k (by omega) k3 ws h) (k-1) (by omega) h
  refine⟨c,hc,Qc rfl rfl ?_⟩
  have w:IntKind.wrap .i64 (k-1)=k-1:=QU (by omega) (by omega)
  simp at e4;simp[F54,c54,w,e4]
section
variable (t : Ty) (ht : t.wid <= 67108864)
 (hel: ∀x:Ty,x∈t.kids\/(∃y∈t.items,y.of=x)-> ∀k:Int,-2147483648<=k->k<=1500-> ∀ws h,∃r:Int,r<=1500/\Qb cfg ws 53 [x.enc,.int .i64 k] h=some (.int .i64 r,h))
 (hev: ∀y∈t.items,∀x∈y.QA,∀k:Int,-2147483648<=k->k<=1500-> ∀ws h,∃r:Int,r<=1500/\Qb cfg ws 54 [x.enc,.int .i64 k] h=some (.int .i64 r,h))
include ht hel in
theorem QtC (c0:Int)(hc0:c0<=1500)(h:Avm.H):
    ∃(c:Int) (i:Nat),c<=1500/\Qa (evC (Qb cfg) Qa cfg.pol h.length h.length QkB) [1,2,5] [(1,.int .i64 c0),(2,.ptr h.length 0 8 0 0),(5,.int .i64 (0:Nat))] (h++ [.arr 0 8 [t.enc]])=
     some (.exit 0,[(1,.int .i64 c),(2,.ptr h.length 0 8 0 0),(5,.int .i64 i)],h++ [.arr 0 8 [t.enc]]):=by
 have hkl:=t.ZH
 have hlp:=Qg (γ:=Int) (f:=evC (Qb cfg) Qa cfg.pol h.length h.length QkB) (keep:=[1,2,5]) t.kids
  (fun _ c=>c<=1500)
  (fun i c=>[(1,.int .i64 c),(2,.ptr h.length 0 8 0 0),(5,.int .i64 i)]) (fun _ _=>h++ [.arr 0 8 [t.enc]])
  (fun _ _ o=>∃(c:Int) (i:Nat),c<=1500/\o=(.exit 0,[(1,.int .i64 c),(2,.ptr h.length 0 8 0 0),(5,.int .i64 i)],h++ [.arr 0 8 [t.enc]])) ?_ ?_ c0 hc0
 ·obtain⟨o,h1,c,i,h2,rfl⟩:=hlp;exact⟨c,i,h2,h1⟩
 ·intro i x r c hd hi hx hI K hK;have hm1:x∈t.kids:=by rw[←hx]; exact List.getElem_mem hi
  have hw:=Qd (n:=i+1) (by omega)
  by_cases q:0<c
  ·obtain⟨r',r1,e1⟩:=hel x (.inl hm1) c (by omega) hI h.length (h++ [.arr 0 8 [t.enc]])
   obtain⟨o,h4,h5⟩:=hK r' r1;refine⟨o,?_,h5⟩
   simp at hw h4 e1;simp[QkB,hi,hx,q,e1,hw,h4]
  ·refine⟨_,?_,c,i,hI,rfl⟩
   simp[QkB,hi,hx,q]
 ·intro c K hI;refine⟨_,?_,c,t.kids.length,hI,rfl⟩
  simp[QkB]
include ht hev in
theorem QtB (i:Nat)(y:It)(hi:i<t.items.length)(hy:t.items[i]=y)(c0:Int)(hc0:c0<=1500)(h:Avm.H):
    ∃(c:Int) (j:Nat),c<=1500/\Qa (evC (Qb cfg) Qa cfg.pol h.length h.length QkA) [1,2,6,7] [(1,.int .i64 c0),(2,.ptr h.length 0 8 0 0),(6,.int .i64 i),(7,.int .i64 (0:Nat))] (h++ [.arr 0 8 [t.enc]])=
     some (.exit 4,[(1,.int .i64 c),(2,.ptr h.length 0 8 0 0),(6,.int .i64 i),(7,.int .i64 j)],h++ [.arr 0 8 [t.enc]]):=by
 have hwi:=t.Qe;have hmy:y∈t.items:=by rw[←hy]; exact List.getElem_mem hi
 have hyl:y.QA.length<=67108864:=by
  have h1:=Ty.Jf hmy;have h2:=y.QgS;omega
 have hlp:=Qg (γ:=Int) (f:=evC (Qb cfg) Qa cfg.pol h.length h.length QkA) (keep:=[1,2,6,7]) y.QA
  (fun _ c=>c<=1500)
  (fun j c=>[(1,.int .i64 c),(2,.ptr h.length 0 8 0 0),(6,.int .i64 i),(7,.int .i64 j)]) (fun _ _=>h++ [.arr 0 8 [t.enc]])
  (fun _ _ o=>∃(c:Int) (j:Nat),c<=1500/\o=(.exit 4,[(1,.int .i64 c),(2,.ptr h.length 0 8 0 0),(6,.int .i64 i),(7,.int .i64 j)],h++ [.arr 0 8 [t.enc]])) ?_ ?_ c0 hc0
 ·obtain⟨o,h1,c,j,h2,rfl⟩:=hlp;exact⟨c,j,h2,h1⟩
 ·intro j x r c hd hj hx hI K hK;have hm1:x∈y.QA:=by rw[←hx]; exact List.getElem_mem hj
  have hw:=Qd (n:=j+1) (by omega)
  by_cases q:0<c
  ·obtain⟨r',r1,e1⟩:=hev y hmy x hm1 c (by omega) hI h.length (h++ [.arr 0 8 [t.enc]])
   obtain⟨o,h4,h5⟩:=hK r' r1;refine⟨o,?_,h5⟩
   simp at hw h4 e1;simp[QkA,hi,hy,hj,hx,q,e1,hw,h4]
  ·refine⟨_,?_,c,j,hI,rfl⟩
   simp[QkA,hi,hy,hj,hx,q]
 ·intro c K hI;refine⟨_,?_,c,y.QA.length,hI,rfl⟩
  simp[QkA,hi,hy]
include ht hel hev in
theorem QtA (c0:Int)(hc0:c0<=1500)(h:Avm.H):
    ∃(c:Int) (i:Nat),c<=1500/\Qa (evC (Qb cfg) Qa cfg.pol h.length h.length Qkz) [1,2,6] [(1,.int .i64 c0),(2,.ptr h.length 0 8 0 0),(6,.int .i64 (0:Nat))] (h++ [.arr 0 8 [t.enc]])=
     some (.exit 2,[(1,.int .i64 c),(2,.ptr h.length 0 8 0 0),(6,.int .i64 i)],h++ [.arr 0 8 [t.enc]]):=by
 have hwi:=t.Qe
 have hlp:=Qg (γ:=Int) (f:=evC (Qb cfg) Qa cfg.pol h.length h.length Qkz) (keep:=[1,2,6]) t.items
  (fun _ c=>c<=1500)
  (fun i c=>[(1,.int .i64 c),(2,.ptr h.length 0 8 0 0),(6,.int .i64 i)]) (fun _ _=>h++ [.arr 0 8 [t.enc]])
  (fun _ _ o=>∃(c:Int) (i:Nat),c<=1500/\o=(.exit 2,[(1,.int .i64 c),(2,.ptr h.length 0 8 0 0),(6,.int .i64 i)],h++ [.arr 0 8 [t.enc]])) ?_ ?_ c0 hc0
 ·obtain⟨o,h1,c,i,h2,rfl⟩:=hlp;exact⟨c,i,h2,h1⟩
 ·intro i x r c hd hi hx hI K hK;have hm1:x∈t.items:=by rw[←hx]; exact List.getElem_mem hi
  have hw:=Qd (n:=i+1) (by omega)
  by_cases q:0<c
  ·obtain⟨r',r1,e1⟩:=hel x.of (.inr ⟨x,hm1,rfl⟩) c (by omega) hI h.length (h++ [.arr 0 8 [t.enc]])
   obtain⟨c2,j,r2,e2⟩:=QtB t ht hev i x hi hx r' r1 h;obtain⟨o,h4,h5⟩:=hK c2 r2;refine⟨o,?_,h5⟩
   simp at hw h4 e1 e2;simp[Qkz,hi,hx,q,e1,e2,hw,h4]
  ·refine⟨_,?_,c,i,hI,rfl⟩
   simp[Qkz,hi,hx,q]
 ·intro c K hI;refine⟨_,?_,c,t.items.length,hI,rfl⟩
  simp[Qkz]
end
theorem QgW : ∀(n:Nat) (t:Ty),t.size<=n->t.size<=67108864-> ∀k:Int,-2147483648<=k->k<=1500-> ∀ws h,∃r:Int,r<=1500/\Qb cfg ws 53 [t.enc,.int .i64 k] h=some (.int .i64 r,h)
 | 0,t,hv,_,_,_,_,_,_=>by have:=t.size_pos; omega
 | n+1,t,hv,hb,k,k0,k1,ws,h=>by
  have ht:t.wid<=67108864:=Nat.le_trans t.XF hb
  have hel: ∀x:Ty,x∈t.kids\/(∃y∈t.items,y.of=x)-> ∀k:Int,-2147483648<=k->k<=1500-> ∀ws h,∃r:Int,r<=1500/\Qb cfg ws 53 [x.enc,.int .i64 k] h=some (.int .i64 r,h):=fun x hx=>by
   have hlt:x.size<t.size:=by
    rcases hx with hx | ⟨y,hy,rfl⟩
    ·exact Ty.Xa hx
    ·exact Ty.mem_of hy
   exact QgW n x (by omega) (by omega)
  have hev: ∀y∈t.items,∀x∈y.QA,∀k:Int,-2147483648<=k->k<=1500-> ∀ws h,∃r:Int,r<=1500/\Qb cfg ws 54 [x.enc,.int .i64 k] h=some (.int .i64 r,h):=fun y hy x hx=>by
   have h1:=It.Qnp hx;have h2:=Ty.Qu hy;exact QeD _ x (Nat.le_refl _) (by omega)
  obtain⟨c,i,hc,e3⟩:=QtC t ht hel (k-1) (by omega) h
  obtain⟨c',i',hc',e4⟩:=QtA t ht hel hev c hc h;refine⟨c',hc',Qc rfl rfl ?_⟩
  have w:IntKind.wrap .i64 (k-1)=k-1:=QU (by omega) (by omega)
  simp at e3 e4;simp[F53,c53,w,e3,e4]
theorem Qvd (m:Md)(hm:m.ok)(t:Ty)(v:Val)(h:Avm.H):
    ∃(c:Int) (i:Nat),c<=1500/\Qa (evC (Qb cfg) Qa cfg.pol h.length h.length QkC) [3,4,5,7,8] [(3,.ptr h.length 0 2 0 0),(4,.ptr (h.length+1) 0 8 0 0),(5,.ptr (h.length+2) 0 4 0 0),(7,.int .i64 1500),(8,.int .i64 (0:Nat))] (h++ [.arr 0 2 [m.enc],.arr 0 8 [t.enc],.arr 0 4 [v.enc]])=
     some (.exit 0,[(3,.ptr h.length 0 2 0 0),(4,.ptr (h.length+1) 0 8 0 0),(5,.ptr (h.length+2) 0 4 0 0),(7,.int .i64 c),(8,.int .i64 i)],h++ [.arr 0 2 [m.enc],.arr 0 8 [t.enc],.arr 0 4 [v.enc]]):=by
 have hlen:=hm.len
 have hlp:=Qg (γ:=Int) (f:=evC (Qb cfg) Qa cfg.pol h.length h.length QkC) (keep:=[3,4,5,7,8]) m.defs
  (fun _ c=>c<=1500)
  (fun i c=>[(3,.ptr h.length 0 2 0 0),(4,.ptr (h.length+1) 0 8 0 0),(5,.ptr (h.length+2) 0 4 0 0),(7,.int .i64 c),(8,.int .i64 i)]) (fun _ _=>h++ [.arr 0 2 [m.enc],.arr 0 8 [t.enc],.arr 0 4 [v.enc]])
  (fun _ _ o=>∃(c:Int) (i:Nat),c<=1500/\o=(.exit 0,[(3,.ptr h.length 0 2 0 0),(4,.ptr (h.length+1) 0 8 0 0),(5,.ptr (h.length+2) 0 4 0 0),(7,.int .i64 c),(8,.int .i64 i)],h++ [.arr 0 2 [m.enc],.arr 0 8 [t.enc],.arr 0 4 [v.enc]])) ?_ ?_ 1500 (by omega)
 ·obtain⟨o,h1,c,i,h2,rfl⟩:=hlp;exact⟨c,i,h2,h1⟩
 ·intro i x r c hd hi hx hI K hK;have hm1:x∈m.defs:=by rw[←hx]; exact List.getElem_mem hi
  have hw:=Qd (n:=i+1) (by omega)
  have hps:=hm.params x hm1;by_cases q:0<c
  ·have w1:IntKind.wrap .i64 (c-1)=c-1:=QU (by omega) (by omega)
   have w2:IntKind.wrap .i64 (c-1-(x.params.length:Int))=c-1-(x.params.length:Int):=QU (by omega) (by omega)
   obtain⟨r',r1,e1⟩:=QgW _ x.of (Nat.le_refl _) (hm.of x hm1) (c-1-(x.params.length:Int)) (by omega) (by omega) h.length (h++ [.arr 0 2 [m.enc],.arr 0 8 [t.enc],.arr 0 4 [v.enc]])
   obtain⟨o,h4,h5⟩:=hK r' r1;refine⟨o,?_,h5⟩
   simp only[Md.enc]at*;simp at hw h4 e1;simp[QkC,hi,hx,q,e1,hw,h4,w1,w2]
  ·refine⟨_,?_,c,i,hI,rfl⟩
   simp[QkC,hi,hx,q,Md.enc]
 ·intro c K hI;refine⟨_,?_,c,m.defs.length,hI,rfl⟩
  simp[QkC,Md.enc]
theorem Qny (m:Md)(hm:m.ok)(t:Ty)(hs:t.size<=67108864)(v:Val)(hv:v.size<=67108864)(ws:Nat)(h:Avm.H): ∃b,Qb cfg ws 25 [m.enc,t.enc,v.enc] h=some (.bool b,h):=by
 obtain⟨c,i,hc,e3⟩:=Qvd m hm t v h;simp only[Md.enc]at e3;simp at e3;by_cases q:0<c
 ·obtain⟨c2,hc2,e4⟩:=QgW _ t (Nat.le_refl _) hs c (by omega) hc h.length (h++ [.arr 0 2 [m.enc],.arr 0 8 [t.enc],.arr 0 4 [v.enc]])
  simp only[Md.enc]at e4;simp at e4;by_cases q2:0<c2
  ·obtain⟨c3,hc3,e5⟩:=QeD _ v (Nat.le_refl _) hv c2 (by omega) hc2 h.length (h++ [.arr 0 2 [m.enc],.arr 0 8 [t.enc],.arr 0 4 [v.enc]])
   simp only[Md.enc]at e5;simp at e5;refine⟨decide (c3<=0),Qc rfl rfl ?_⟩
   simp[F25,c25,Md.enc,e3,e4,e5,q,q2]
  ·refine⟨decide (c2<=0),Qc rfl rfl ?_⟩
   simp[F25,c25,Md.enc,e3,e4,q,q2]
 ·refine⟨decide (c<=0),Qc rfl rfl ?_⟩
  simp[F25,c25,Md.enc,e3,q]
end Go.Proofs.YtflbneepngjglaaGreatDoor
namespace Go.Proofs.YtflbneepngjglaaGreatDoor
open Go Go.Avm
set_option maxRecDepth 100000 in
theorem QyA (ws:Nat)(A0:Qq):JB cfg 100 ws 26 [] [A0]=some (.bool true,[A0]):=by kernel_rfl
theorem Qlb (ws:Nat)(A0:Qq):Qb cfg ws 26 [] [A0]=some (.bool true,[A0]):=QlZ 100 _ _ _ _ _ (QyA ws A0)
set_option maxRecDepth 100000 in
theorem Qyz (ws:Nat)(A0 A1 A2:Qq):JB cfg 100 ws 26 [] [A0,A1,A2]=some (.bool true,[A0,A1,A2]):=by kernel_rfl
theorem QtZ (ws:Nat)(A0 A1 A2:Qq):Qb cfg ws 26 [] [A0,A1,A2]=some (.bool true,[A0,A1,A2]):=QlZ 100 _ _ _ _ _ (Qyz ws A0 A1 A2)
end Go.Proofs.YtflbneepngjglaaGreatDoor
namespace Go.Proofs.YtflbneepngjglaaGreatDoor
open Go Go.Avm
def BL (x:ByteArray):List UInt8:=x.data.toList
theorem QdE {x y:ByteArray}(h:BL x=BL y):x=y:=by
 cases x; cases y;unfold BL at h
 congr 1
 exact Array.toList_inj.1 h
theorem XP (a b:ByteArray):BL (a++b)=BL a++BL b:=by
 unfold BL;rw[ByteArray.data_append,Array.toList_append]
theorem QiR (l:List UInt8):BL ⟨l.toArray⟩=l:=rfl
theorem QfM (x:ByteArray):(BL x).length=x.size:=Array.length_toList
theorem QmG :BL ⟨#[]⟩=[]:=rfl
theorem WQ {a b:Nat}(h:UInt8.ofNat a=UInt8.ofNat b):a%256=b%256:=by
 have:=congrArg UInt8.toNat h;simpa using this
theorem QuY {n n':Nat}(h:n<=65535)(h':n'<=65535){x x':List UInt8}(e:QpE n++x=QpE n'++x'):n=n'/\x=x':=by
 have k1:(129:UInt8)=UInt8.ofNat 129:=rfl;have k2:(130:UInt8)=UInt8.ofNat 130:=rfl;unfold QpE at e;rw[k1,k2]at e;by_cases q:n<128
 ·by_cases q':n'<128
  ·rw[if_pos q,if_pos q']at e;simp only[List.cons_append,List.nil_append,List.cons.injEq]at e;have:=WQ e.1;exact⟨by omega,e.2⟩
  ·rw[if_pos q,if_neg q']at e;exfalso;split at e<;>(simp only[List.cons_append,List.nil_append,List.cons.injEq]at e; have:=WQ e.1; omega)
 ·by_cases q':n'<128
  ·rw[if_neg q,if_pos q']at e;exfalso;split at e<;>(simp only[List.cons_append,List.nil_append,List.cons.injEq]at e; have:=WQ e.1; omega)
  ·rw[if_neg q,if_neg q']at e;by_cases c:n<256
   ·by_cases c':n'<256
    ·rw[if_pos c,if_pos c']at e;simp only[List.cons_append,List.nil_append,List.cons.injEq]at e;have:=WQ e.2.1;exact⟨by omega,e.2.2⟩
    ·rw[if_pos c,if_neg c']at e;simp only[List.cons_append,List.nil_append,List.cons.injEq]at e;have:=WQ e.1;omega
   ·by_cases c':n'<256
    ·rw[if_neg c,if_pos c']at e;simp only[List.cons_append,List.nil_append,List.cons.injEq]at e;have:=WQ e.1;omega
    ·rw[if_neg c,if_neg c']at e;simp only[List.cons_append,List.nil_append,List.cons.injEq]at e;have h1:=WQ e.2.1;have h2:=WQ e.2.2.1;exact⟨by omega,e.2.2.2⟩
theorem QlK (k:Int)(c:ByteArray):BL (elS k c)=UInt8.ofNat (k%256).toNat::(QpE c.size++BL c):=by
 unfold elS QcU Qnu;rw[XP,XP,QiR];rfl
theorem Qri {k k':Int}{c c':ByteArray}(h:c.size<=65535)(h':c'.size<=65535){r r':List UInt8}(e:BL (elS k c)++r=BL (elS k' c')++r'):k%256=k'%256/\c=c'/\r=r':=by
 rw[QlK,QlK,List.cons_append,List.cons_append,List.cons.injEq,List.append_assoc,List.append_assoc]at e;have h1:=WQ e.1;obtain⟨h2,h3⟩:=QuY h h' e.2;obtain⟨h4,h5⟩:=List.append_inj h3 (by rw[QfM,QfM]; exact h2)
 exact⟨by omega,QdE h4,h5⟩
def QlL :Nat->List UInt8->Option (Nat×List UInt8)
 | _,[]=>none
 | a,b::l=>if b.toNat<128 then some (a*128+b.toNat,l)else QlL (a*128+(b.toNat-128)) l
theorem QvN : ∀(k n:Nat),n<=k-> ∀l,QlL 0 (hiL n++l)=QlL n l
 | 0,n,h,l=>by
  rw[show n=0 by omega,QbD]; rfl
 | k+1,n,h,l=>by
  by_cases q:n=0
  ·rw[q,QbD]; rfl
  ·rw[QlD (by omega),List.append_assoc,QvN k (n/128) (by omega)]
   show QlL (n/128) (UInt8.ofNat (n%128+128)::l)=_;have hb:(UInt8.ofNat (n%128+128)).toNat=n%128+128:=by simp; omega
   rw[QlL,hb,if_neg (by omega),show n/128*128+(n%128+128-128)=n by omega]
theorem Qrl (n:Nat)(l:List UInt8):QlL 0 (QdQ n++l)=some (n,l):=by
 unfold QdQ;rw[List.append_assoc,QvN _ _ (Nat.le_refl _)];show QlL (n/128) (UInt8.ofNat (n%128)::l)=_;have hb:(UInt8.ofNat (n%128)).toNat=n%128:=by simp; omega
 rw[QlL,hb,if_pos (by omega),show n/128*128+n%128=n by omega]
theorem Qqz {n n':Nat}{l l':List UInt8}(e:QdQ n++l=QdQ n'++l'):n=n'/\l=l':=by
 have h:=congrArg (QlL 0) e;rw[Qrl,Qrl]at h;injection h with h;injection h with h1 h2;exact⟨h1,h2⟩
theorem QqA (n:Nat):QdQ n≠ []:=by unfold QdQ; simp
theorem Qci (n:Int):Wa n=if n/128=0\/n/128= -1 then [n%256]else(n%256)::Wa (n/256):=by
 unfold Wa;split
 ·rename_i h; rw[YK h]
 ·rename_i h;rw[QaH h];have e1:n/128/2=n/256:=by omega
  have e2:n/128/256=n/256/128:=by omega
  rw[e1,e2]
theorem Qlw (n:Int):Wa n≠ []:=by unfold Wa; simp
theorem Qnk : ∀(k:Nat) (n n':Int),n.natAbs<=k->Wa n=Wa n'->n=n'
 | 0,n,n',hk,h=>by
  rw[Qci n,Qci n']at h;rw[if_pos (by omega)]at h
  split at h
  ·rename_i c;injection h with h1 _;omega
  ·injection h with h1 h2;exact absurd h2.symm (Qlw _)
 | k+1,n,n',hk,h=>by
  rw[Qci n,Qci n']at h;split at h
  ·split at h
   ·injection h with h1 _;omega
   ·injection h with h1 h2;exact absurd h2.symm (Qlw _)
  ·split at h
   ·injection h with h1 h2;exact absurd h2 (Qlw _)
   ·injection h with h1 h2;have:=Qnk k (n/256) (n'/256) (by omega) h2
    omega
theorem QjS : ∀(k:Nat) (r:Int),r.natAbs<=k-> ∀x∈QcJ r,0<=x/\x<256
 | 0,r,hk,x,hx=>by
  rw[YK (by omega)]at hx; cases hx
 | k+1,r,hk,x,hx=>by
  by_cases q:r=0\/r= -1
  ·rw[YK q]at hx; cases hx
  ·rw[QaH q]at hx;rcases List.mem_cons.1 hx with rfl | hx
   ·omega
   ·exact QjS k (r/256) (by omega) x hx
theorem Qni (n:Int): ∀x∈Wa n,0<=x/\x<256:=fun x hx=>by
 unfold Wa at hx;rcases List.mem_cons.1 hx with rfl | hx
 ·omega
 ·exact QjS _ _ (Nat.le_refl _) x hx
theorem Qde : ∀{l l':List Int},(∀x∈l,0<=x/\x<256)->(∀x∈l',0<=x/\x<256)->l.map (fun x=>UInt8.ofNat x.toNat)=l'.map (fun x=>UInt8.ofNat x.toNat)->l=l'
 | [],[],_,_,_=>rfl
 | [],_::_,_,_,e=>by cases e
 | _::_,[],_,_,e=>by cases e
 | a::l,b::l',h,h',e=>by
  simp only[List.map_cons,List.cons.injEq]at e;have h1:=WQ e.1;have h2:=h a (by simp)
  have h3:=h' b (by simp)
  rw[Qde (fun x hx=>h x (by simp[hx])) (fun x hx=>h' x (by simp[hx])) e.2,show a=b by omega]
theorem QuV {n n':Int}(h:Qnh n=Qnh n'):n=n':=by
 have h1:=congrArg BL h;unfold Qnh at h1;rw[QiR,QiR]at h1;have h2:=Qde (fun x hx=>Qni n x (List.mem_reverse.1 hx)) (fun x hx=>Qni n' x (List.mem_reverse.1 hx)) h1
 exact Qnk _ _ _ (Nat.le_refl _) (List.reverse_inj.1 h2)
theorem QkK {s s':List UInt8}{a:Nat}: ∀{k:Nat},Xs s a k=Xs s' a k-> ∀i,i<k->ZA s (a+i)=ZA s' (a+i)
 | 0,_,i,hi=>by omega
 | k+1,h,i,hi=>by
  rw[Xs,Xs]at h;have h1:=Qeq s (a+k);have h2:=Qeq s' (a+k);by_cases q:i=k
  ·subst q; omega
  ·exact QkK (k:=k) (by omega) i (by omega)
theorem QvO {c:UInt8}(h:d01 c=true):c=48\/c=49:=by
 unfold d01 byI at h;simp only[Bool.or_eq_true,decide_eq_true_eq]at h;rcases h with h | h
 ·exact .inl (UInt8.toNat_inj.1 (by show c.toNat=48; omega))
 ·exact .inr (UInt8.toNat_inj.1 (by show c.toNat=49; omega))
theorem Qsg {s s':List UInt8}(hl:s.length=s'.length)(h:s.all d01=true)(h':s'.all d01=true)(e:Yy s=Yy s'):s=s':=by
 refine List.ext_getElem hl fun i h1 h2=>?_
 have hk:i/8<(s.length+7)/8:=by omega
 have g1:=QjP s hk;have g2:=QjP s' (k:=i/8) (by omega)
 rw[e,g2]at g1;injection g1 with g1;have g3:Xs s' (8*(i/8)) 8=Xs s (8*(i/8)) 8:=by exact_mod_cast g1
 have g4:=QkK g3 (i%8) (by omega)
 rw[show 8*(i/8)+i%8=i by omega]at g4
 unfold ZA at g4;rw[List.getElem?_eq_getElem h1,List.getElem?_eq_getElem h2]at g4
 have c1:=QvO (List.all_eq_true.1 h _ (List.getElem_mem h1));have c2:=QvO (List.all_eq_true.1 h' _ (List.getElem_mem h2));rcases c1 with c1 | c1<;>rcases c2 with c2 | c2<;>rw[c1,c2]at g4 ⊢ <;>simp at g4
theorem Qsf {s s':ByteArray}(hl:s.size=s'.size)(h:s.data.toList.all d01=true)(h':s'.data.toList.all d01=true)(e:Jb s=Jb s'):s=s':=by
 have h1:=congrArg BL e;unfold Jb at h1;rw[QiR,QiR]at h1
 have hr: ∀(t:List UInt8),∀x∈Yy t,0<=x/\x<256:=fun t x hx=>by
  unfold Yy at hx;obtain⟨j,_,rfl⟩:=List.mem_map.1 hx;have:=QiD t (8*j) 8;omega
 have h2:=Qde (hr _) (hr _) h1;exact QdE (Qsg (by show(BL s).length=(BL s').length; rw[QfM,QfM,hl]) h h' h2)
theorem QuK {s s':ByteArray}(h:s.data.toList.all d01=true)(h':s'.data.toList.all d01=true)(e:QcU (QeN s.size:Nat)++Jb s=QcU (QeN s'.size:Nat)++Jb s'):s=s':=by
 have h1:=congrArg BL e;rw[XP,XP]at h1;unfold QcU at h1;have h2:UInt8.ofNat (((QeN s.size:Nat):Int)%256).toNat::BL (Jb s)=UInt8.ofNat (((QeN s'.size:Nat):Int)%256).toNat::BL (Jb s'):=h1;injection h2 with h3 h4;have h5:=WQ h3
 have hps: ∀t:ByteArray,(Jb t).size=(t.size+7)/8:=fun t=>by
  unfold Jb;rw[Qbp,List.length_map,Qch,show t.data.toList.length=t.size from Array.length_toList]
 have h6:=QdE h4;have h7:=congrArg ByteArray.size h6;rw[hps,hps]at h7;unfold QeN at h5;exact Qsf (by omega) h h' h6
end Go.Proofs.YtflbneepngjglaaGreatDoor
namespace Go.Proofs.YtflbneepngjglaaGreatDoor
open Go Go.Avm
theorem QgQ :Ty.zero.Qz JU=true:=by
 rw[Ty.JL];simp[Ty.zero,Ty.inner,Ty.comp,JU]
theorem Qlr (ps:List ByteArray)(args:List Ty)(ha: ∀a∈args,a.Qz JU=true): ∀(n:Nat) (t:Ty),t.size<=n->t.Qz JU=true->(t.put ps args).Qz JU=true
 | 0,t,h,_=>by have:=t.size_pos; omega
 | n+1,t,h,hr=>by
  rw[Ty.put_eq];cases hp:t.par ps with
  | some i=>
   dsimp only;cases hi:args[i]? with
   | none=>exact QgQ
   | some a=>exact ha a (List.mem_of_getElem? hi)
  | none=>
   dsimp only;rw[Ty.JL,Bool.and_eq_true];refine⟨?_,?_⟩
   ·have:=QO hr;unfold JU at this ⊢;simpa using this
   ·rw[List.all_eq_true];intro x hx;unfold Ty.inner at hx;rcases List.mem_append.1 hx with hx | hx
    ·obtain⟨y,hy,rfl⟩:=List.mem_map.1 (by simpa using hx:x∈t.kids.map fun x=>x.put ps args)
     exact Qlr ps args ha n y (by have:=Ty.Xa hy; omega) (Qs hr (List.mem_append_left _ hy))
    ·split at hx
     ·rename_i hc;obtain⟨i,hi,rfl⟩:=List.mem_map.1 hx;obtain⟨j,hj,rfl⟩:=List.mem_map.1 (by simpa using hi:i∈t.items.map fun x=>x.QR (x.of.put ps args))
      have hc':t.comp=true:=hc;refine Qlr ps args ha n j.of (by have:=Ty.mem_of hj; omega) (Qs hr ?_)
      unfold Ty.inner;rw[hc'];exact List.mem_append_right _ (List.mem_map_of_mem hj)
     ·cases hx
def Md.few(m:Md):Prop:=∀d∈m.defs,d.of.Qz JU=true
theorem Qzh {m:Md}(h:m.defs.all YD=true):m.few:=fun d hd=>by
 have:=List.all_eq_true.1 h d hd;simp only[YD,Qbe,Bool.and_eq_true]at this;exact this.2.2.2
theorem QtK {m:Md}(hf:m.few){t u:Ty}(ht:t.Qz JU=true)(h:Ja m t=some u):u.Qz JU=true:=by
 unfold Ja at h;split at h
 ·cases h
 ·rename_i d hd;have hdm:=List.mem_of_find?_eq_some hd
  split at h
  ·cases h
  ·split at h
   ·cases h; exact hf d hdm
   ·split at h
    ·cases h;exact Qlr _ _ (fun a ha=>Qs ht (List.mem_append_left _ ha)) _ _ (Nat.le_refl _) (hf d hdm)
    ·cases h
theorem QxQ {m:Md}(hf:m.few){t b:Ty}(ht:t.Qz JU=true)(h:beh m 21 t=some b):b.Qz JU=true:=
 (Qer m (fun t=>t.Qz JU=true) (fun t u ht hs=>QtK hf ht hs) 21 t b ht h).1
theorem Qsd {b t:Ty}(B:b.Qz JU=true){v x:Val}{i:Nat}(h:QW b v i x=some t):t.Qz JU=true:=by
 have item: ∀k:Nat,b.comp=true->((b.items[k]?.map It.of).getD Ty.zero).Qz JU=true:=fun k hc=>by
  cases hk:b.items[k]? with
  | none=>exact QgQ
  | some y=>exact Qs B (by unfold Ty.inner; rw[hc]; exact List.mem_append_right _ (List.mem_map_of_mem (List.mem_of_getElem? hk)))
 unfold QW at h;split at h
 ·injection h with h; subst h;cases hk:b.kids with
  | nil=>exact QgQ
  | cons y r=>exact Qs B (by unfold Ty.inner; rw[hk]; simp)
 ·split at h
  ·rename_i q;injection h with h; subst h;exact item _ (by unfold Ty.comp; rw[q]; rfl)
  ·split at h
   ·rename_i q;injection h with h; subst h;exact item _ (by unfold Ty.comp; rw[q.1]; rfl)
   ·cases h
theorem has_eq {a b c:Bool}{p q:Val}(hp:QL a b c p=true)(hq:QL a b c q=true)(k:p.kind=q.kind)(h1:a=true->p.int=q.int)(h2:b=true->p.bytes=q.bytes)(h3:c=true->p.items=q.items):p=q:=by
 unfold QL at hp hq;simp only[Bool.and_eq_true,Bool.or_eq_true,decide_eq_true_eq,List.isEmpty_iff]at hp hq
 have e1:p.int=q.int:=by
  cases a with
  | true=>exact h1 rfl
  | false=>rw[hp.1.resolve_left (by simp),hq.1.resolve_left (by simp)]
 have hb: ∀v:Val,eqS v.bytes ⟨#[]⟩=true->v.bytes=⟨#[]⟩:=fun v hv=>by
  unfold eqS at hv;have:=of_decide_eq_true hv;rw[ByteArray.toList_eq,ByteArray.toList_eq]at this;exact QdE this
 have e2:p.bytes=q.bytes:=by
  cases b with
  | true=>exact h2 rfl
  | false=>rw[hb p (hp.2.1.resolve_left (by simp)),hb q (hq.2.1.resolve_left (by simp))]
 have e3:p.items=q.items:=by
  cases c with
  | true=>exact h3 rfl
  | false=>rw[hp.2.2.resolve_left (by simp),hq.2.2.resolve_left (by simp)]
 rw[←p.eta,←q.eta,k,e1,e2,e3]
theorem QmR : ∀{l l':List Val},(∀x∈l,Qeu x=true)->(∀x∈l',Qeu x=true)->BL (XY (l.map fun x=>Jg x.int.toNat))=BL (XY (l'.map fun x=>Jg x.int.toNat))->l=l'
 | [],[],_,_,_=>rfl
 | [],y::l',_,_,e=>by
  rw[List.map_cons,XY,XP]at e;have h1:BL (Jg y.int.toNat)=QdQ y.int.toNat:=rfl;rw[h1]at e;have h2:=congrArg List.length e;have h3:=List.length_pos_iff.2 (QqA y.int.toNat);rw[List.length_append]at h2;have h4:(BL (XY ([].map fun x:Val=>Jg x.int.toNat))).length=0:=rfl
  omega
 | x::l,[],_,_,e=>by
  rw[List.map_cons,XY,XP]at e;have h1:BL (Jg x.int.toNat)=QdQ x.int.toNat:=rfl;rw[h1]at e;have h2:=congrArg List.length e;have h3:=List.length_pos_iff.2 (QqA x.int.toNat);rw[List.length_append]at h2;have h4:(BL (XY ([].map fun x:Val=>Jg x.int.toNat))).length=0:=rfl
  omega
 | x::l,y::l',h,h',e=>by
  rw[List.map_cons,List.map_cons,XY,XY,XP,XP]at e;obtain⟨h1,h2⟩:=Qqz (n:=x.int.toNat) (n':=y.int.toNat) e;have hx:=h x (by simp)
  have hy:=h' y (by simp)
  unfold Qeu inP at hx hy;simp only[Bool.and_eq_true,decide_eq_true_eq]at hx hy;rw[has_eq hx.2.1 hy.2.1 (by rw[hx.1,hy.1]) (fun _=>by omega) (fun h=>by cases h) (fun h=>by cases h),QmR (fun z hz=>h z (by simp[hz])) (fun z hz=>h' z (by simp[hz])) h2]
theorem Qwe {p q:Val}(hp:QfH p=true)(hq:QfH q=true)(k:p.kind=q.kind)(e:Qts p.items=Qts q.items):p=q:=by
 unfold QfH at hp hq;simp only[Bool.and_eq_true,List.all_eq_true]at hp hq;obtain⟨hp1,hp2,hp3,hp4⟩:=hp;obtain⟨hq1,hq2,hq3,hq4⟩:=hq;refine has_eq hp1 hq1 k (fun h=>by cases h) (fun h=>by cases h) fun _=>?_
 generalize p.items=l at*;generalize q.items=l' at*
 match l,l' with
 | [],_=>cases hp4
 | [_],_=>cases hp4
 | _::_::_,[]=>cases hq4
 | _::_::_,[_]=>cases hq4
 | a::b::l,c::d::l'=>
  have h1:=congrArg BL e;unfold Qts at h1;rw[XP,XP]at h1;obtain⟨h2,h3⟩:=Qqz (n:=(40*a.int+b.int).toNat) (n':=(40*c.int+d.int).toNat) h1;have ha:=hp3 a (by simp)
  have hb:=hp3 b (by simp)
  have hc:=hq3 c (by simp)
  have hd:=hq3 d (by simp)
  unfold Qeu inP at ha hb hc hd;unfold Qqk at hp4 hq4;simp only[Bool.and_eq_true,Bool.or_eq_true,decide_eq_true_eq]at ha hb hc hd hp4 hq4;have e1:a.int=c.int:=by omega
  have e2:b.int=d.int:=by omega
  rw[has_eq ha.2.1 hc.2.1 (by rw[ha.1,hc.1]) (fun _=>e1) (fun h=>by cases h) (fun h=>by cases h),
   has_eq hb.2.1 hd.2.1 (by rw[hb.1,hd.1]) (fun _=>e2) (fun h=>by cases h) (fun h=>by cases h),
   QmR (l:=l) (l':=l') (fun x hx=>hp3 x (by simp[hx])) (fun x hx=>hq3 x (by simp[hx])) h3]
theorem Qrn {f:Val->ByteArray}: ∀{l l':List Val},(∀x∈l,∀y∈l',∀r r',BL (f x)++r=BL (f y)++r'->x=y/\r=r')->(∀x∈l,0<(f x).size)->(∀x∈l',0<(f x).size)->BL (XY (l.map f))=BL (XY (l'.map f))->l=l'
 | [],[],_,_,_,_=>rfl
 | [],y::l',_,_,h',e=>by
  rw[List.map_cons,XY,XP]at e;have h2:=congrArg List.length e;have h3:=h' y (by simp)
  rw[List.length_append,QfM (f y)]at h2;have h4:(BL (XY ([].map f))).length=0:=rfl;omega
 | x::l,[],_,h,_,e=>by
  rw[List.map_cons,XY,XP]at e;have h2:=congrArg List.length e;have h3:=h x (by simp)
  rw[List.length_append,QfM (f x)]at h2;have h4:(BL (XY ([].map f))).length=0:=rfl;omega
 | x::l,y::l',hi,h,h',e=>by
  rw[List.map_cons,List.map_cons,XY,XY,XP,XP]at e;obtain⟨h1,h2⟩:=hi x (by simp) y (by simp) _ _ e
  rw[h1,Qrn (fun a ha b hb=>hi a (by simp[ha]) b (by simp[hb])) (fun a ha=>h a (by simp[ha])) (fun a ha=>h' a (by simp[ha])) h2]
theorem QjE {b:Ty}{sub:Ty->Val->ByteArray}: ∀(l:List Val) (i:Nat),i+l.length<=100->BL (ZE b sub i l)=[]\/ ∃j r,i<=j/\j<100/\BL (ZE b sub i l)=UInt8.ofNat (128+j)::r
 | [],_,_=>.inl rfl
 | x::l,i,h=>by
  rw[List.length_cons]at h;rw[ZE,XP];by_cases q:x.kind=12
  ·rw[if_pos q,QmG,List.nil_append];rcases QjE (b:=b) (sub:=sub) l (i+1) (by omega)with h1 | ⟨j,r,h1,h2,h3⟩
   ·exact .inl h1
   ·exact .inr ⟨j,r,by omega,h2,h3⟩
  ·rw[if_neg q,QlK];exact .inr ⟨i,_,Nat.le_refl _,by omega,by rw[show((128+(i:Int))%256).toNat=128+i by omega]; rfl⟩
theorem QqE {b:Ty}{sub:Ty->Val->ByteArray}: ∀{l l':List Val} {i:Nat},l.length=l'.length->i+l.length<=100->
    (∀(j:Nat) x y,l[j]? =some x->l'[j]? =some y->x.kind≠12->y.kind≠12->sub (b.items[i+j]?.getD It.zero).of x=sub (b.items[i+j]?.getD It.zero).of y->x=y)->
    (∀(j:Nat) x y,l[j]? =some x->l'[j]? =some y->x.kind=12->y.kind=12->x=y)->(ZE b sub i l).size<=65535->(ZE b sub i l').size<=65535->ZE b sub i l=ZE b sub i l'->l=l'
 | [],[],_,_,_,_,_,_,_,_=>rfl
 | [],_::_,_,h,_,_,_,_,_,_=>by simp at h
 | _::_,[],_,h,_,_,_,_,_,_=>by simp at h
 | x::l,y::l',i,hl,hi,h,h12,hs,hs',e=>by
  rw[List.length_cons]at hi;rw[List.length_cons,List.length_cons]at hl;rw[ZE,ByteArray.size_append]at hs hs';rw[ZE,ZE]at e
  have rest:ZE b sub (i+1) l=ZE b sub (i+1) l'->l=l':=QqE (i:=i+1) (by omega) (by omega)
   (fun j a c ha hc=>by have:=h (j+1) a c (by simpa using ha) (by simpa using hc); rwa[show i+(j+1)=i+1+j by omega]at this)
   (fun j a c ha hc=>h12 (j+1) a c (by simpa using ha) (by simpa using hc)) (by omega) (by omega)
  have clash: ∀(k:List Val) (u:ByteArray) (r:List UInt8),i+1+k.length<=100->BL (elS (128+(i:Int)) u)++r=BL (ZE b sub (i+1) k)->False:=fun k u r hk he=>by
   rw[QlK,show((128+(i:Int))%256).toNat=128+i by omega]at he
   rcases QjE (b:=b) (sub:=sub) k (i+1) hk with h1 | ⟨j,r',h1,h2,h3⟩
   ·rw[h1]at he; cases he
   ·rw[h3]at he;injection he with h4 _;have:=WQ h4;omega
  by_cases q:x.kind=12
  ·by_cases q':y.kind=12
   ·rw[if_pos q,if_pos q']at e
    have e':ZE b sub (i+1) l=ZE b sub (i+1) l':=by
     have:=congrArg BL e;rw[XP,XP,QmG,List.nil_append,List.nil_append]at this;exact QdE this
    rw[h12 0 x y rfl rfl q q',rest e']
   ·exfalso;rw[if_pos q,if_neg q']at e;have:=congrArg BL e;rw[XP,XP,QmG,List.nil_append]at this;exact clash l _ _ (by omega) this.symm
  ·by_cases q':y.kind=12
   ·exfalso;rw[if_neg q,if_pos q']at e;have:=congrArg BL e;rw[XP,XP,QmG,List.nil_append]at this;exact clash l' _ _ (by omega) this
   ·rw[if_neg q]at hs;rw[if_neg q']at hs';rw[if_neg q,if_neg q']at e;have s1:=Jk (128+(i:Int)) (sub (b.items[i]?.getD It.zero).of x);have s2:=Jk (128+(i:Int)) (sub (b.items[i]?.getD It.zero).of y);have e1:=congrArg BL e;rw[XP,XP]at e1;obtain⟨_,e2,e3⟩:=Qri (by omega) (by omega) e1
    rw[h 0 x y rfl rfl q q' e2,rest (QdE e3)]
end Go.Proofs.YtflbneepngjglaaGreatDoor
