/- References that name something, items that differ in name: the reference's way. -/
import Derived.Test.YtflbneepngjglaaGreatDoorR33
import Derived.Test.YtflbneepngjglaaGreatDoorR32
set_option linter.all false
namespace Go.Proofs.YtflbneepngjglaaGreatDoor
open Go Go.Avm
def otC (L : Nat) (t : Ty) : List AV:=[.int .i64 t.kind,.str t.name,.int .i64 t.lo,.int .i64 t.hi,.bool t.free,.bool t.ext,.osl L 0 12 0 t.items.length,.osl (L + 1) 0 8 0 t.kids.length]
def otV (L : Nat) (t : Ty) : AV:=.agg (otC L t)
def otB (t : Ty) : Avm.H:=[.arr 0 12 (t.items.map It.enc),.arr 0 8 (t.kids.map Ty.enc)]
def otL (L : Nat) : List Ty→List AV
 | []=>[]
 | x :: r=>otV L x :: otL (L + 2) r
def otBs : List Ty→Avm.H
 | []=>[]
 | x :: r=>otB x++otBs r
def oiV (L : Nat) (x : It) : AV:=.agg (.str x.name :: (otC L x.of++[.bool x.opt,.bool x.extra,.osl (L + 2) 0 4 0 x.dflt.length]))
def oiB (L : Nat) (x : It) : Avm.H:=otB x.of++(.arr 0 4 (ocL (L + 3) x.dflt) :: x.dflt.map ocB)
def oiL (L : Nat) : List It→List AV
 | []=>[]
 | x :: r=>oiV L x :: oiL (L + (3 + x.dflt.length)) r
def oiBs (L : Nat) : List It→Avm.H
 | []=>[]
 | x :: r=>oiB L x++oiBs (L + (3 + x.dflt.length)) r
theorem otB_len (t : Ty) : (otB t).length=2:=rfl
theorem oiB_len (L : Nat) (x : It) : (oiB L x).length=3 + x.dflt.length:=by simp [oiB,otB]; omega
@[simp] theorem otL_len : ∀ (l : List Ty) (L : Nat),(otL L l).length=l.length
 | [],_=>rfl
 | _ :: l,L=>by simp [otL,otL_len l (L + 2)]
theorem otBs_len : ∀ (l : List Ty),(otBs l).length=2 * l.length
 | []=>rfl
 | x :: l=>by simp only [otBs,List.length_append,otB_len,otBs_len l,List.length_cons]; omega
@[simp] theorem oiL_len : ∀ (l : List It) (L : Nat),(oiL L l).length=l.length
 | [],_=>rfl
 | x :: l,L=>by simp [oiL,oiL_len l _]
theorem otL_snoc (x : Ty) : ∀ (l : List Ty) (L : Nat),otL L (l++[x])=otL L l++[otV (L + (otBs l).length) x]
 | [],_=>rfl
 | y :: l,L=>by
  simp only [List.cons_append,otL,otL_snoc x l (L + 2),otBs,List.length_append,otB_len]
  rw [show L + 2 + (otBs l).length=L + (2 + (otBs l).length) by omega]
theorem otBs_snoc (x : Ty) : ∀ (l : List Ty),otBs (l++[x])=otBs l++otB x
 | []=>by simp [otBs]
 | y :: l=>by simp only [List.cons_append,otBs,otBs_snoc x l,List.append_assoc]
theorem oiL_snoc (x : It) : ∀ (l : List It) (L : Nat),oiL L (l++[x])=oiL L l++[oiV (L + (oiBs L l).length) x]
 | [],_=>rfl
 | y :: l,L=>by
  simp only [List.cons_append,oiL,oiL_snoc x l _,oiBs,List.length_append,oiB_len]
  rw [Nat.add_assoc L]
theorem oiBs_snoc (x : It) : ∀ (l : List It) (L : Nat),oiBs L (l++[x])=oiBs L l++oiB (L + (oiBs L l).length) x
 | [],_=>by simp [oiBs]
 | y :: l,L=>by
  simp only [List.cons_append,oiBs,oiBs_snoc x l _,List.append_assoc,List.length_append,oiB_len]
  rw [Nat.add_assoc L]
theorem otV_fz {base n L : Nat} {H : Avm.H} {x : Ty} (hb : base≤L) (h0 : H[L]? = some (.arr 0 12 (x.items.map It.enc))) (h1 : H[L + 1]? = some (.arr 0 8 (x.kids.map Ty.enc))) : FzL (frz base (n + 1)) L (L + 2) H (otC L x) x.cells:=by
 rw [Ty.cells_eq]
 unfold otC
 have a0 : L≤L + 2:=by omega
 have a1 : L < L + 1:=by omega
 have a2 : L + 1 < L + 2:=by omega
 have a3 : base≤L + 1:=by omega
 have p : ∀ {a : AV} {xs es : List AV},a.pure=true→FzL (frz base (n + 1)) L (L + 2) H xs es→FzL (frz base (n + 1)) L (L + 2) H (a :: xs) (a :: es):=fun ha hs=>FzL.cons (Nat.le_refl L) a0 (Fz.pure ha) hs
 exact p rfl (p rfl (p rfl (p rfl (p rfl (p rfl (FzL.cons (mid:=L + 1) (Nat.le_of_lt a1) (Nat.le_of_lt a2) (Fz.osl hb a1 h0 (by simp) (FzL.pure (by simp))) (FzL.cons (Nat.le_of_lt a2) (Nat.le_refl _) (Fz.osl a3 a2 h1 (by simp) (FzL.pure (by simp))) FzL.nil)))))))
def At (H : Avm.H) (L : Nat) (bs : Avm.H) : Prop:=∀ j b,bs[j]? = some b→H[L + j]? = some b
theorem At.left {H : Avm.H} {L : Nat} {xs bs : Avm.H} (h : At H L (xs++bs)) : At H L xs:=fun j b hj=>h j b (by rw [List.getElem?_append_left (List.getElem?_eq_some_iff.1 hj).1]; exact hj)
theorem At.right {H : Avm.H} {L : Nat} {xs bs : Avm.H} (h : At H L (xs++bs)) : At H (L + xs.length) bs:=fun j b hj=>by
 rw [Nat.add_assoc]
 exact h (xs.length + j) b (by rw [List.getElem?_append_right (by omega),Nat.add_sub_cancel_left]; exact hj)
theorem At.on {H G : Avm.H} {L : Nat} {bs : Avm.H} (h : At H L bs) (hg : ∀ b,L≤b→b < L + bs.length→G[b]? = H[b]?) : At G L bs:=fun j b hj=>by
 rw [hg (L + j) (by omega) (by have:=(List.getElem?_eq_some_iff.1 hj).1; omega)]
 exact h j b hj
theorem At.mid (xs bs cs : Avm.H) : At (xs++(bs++cs)) xs.length bs:=fun j b hj=>by
 rw [List.getElem?_append_right (by omega),Nat.add_sub_cancel_left,List.getElem?_append_left (List.getElem?_eq_some_iff.1 hj).1]
 exact hj
theorem otL_fz {base n : Nat} {H : Avm.H} : ∀ (l : List Ty) (L : Nat),base≤L→At H L (otBs l)→FzL (frz base (n + 2)) L (L + (otBs l).length) H (otL L l) (l.map Ty.enc)
 | [],_,_,_=>FzL.nil
 | x :: l,L,hb,hH=>by
  have h:=otL_fz (base:=base) (n:=n) l (L + 2) (by omega) hH.right
  have h0:=hH.left 0 _ rfl
  have h1:=hH.left 1 _ rfl
  simp only [otL,otBs,List.map_cons,List.length_append,otB_len]
  rw [show L + (2 + (otBs l).length)=L + 2 + (otBs l).length by omega]
  exact FzL.cons (mid:=L + 2) (by omega) (by omega) (Fz.agg (otV_fz hb h0 h1)) h
theorem FzL.wide {f : AV→Avm.H→Option (AV × Avm.H)} {lo hi hi' : Nat} {H : Avm.H} {xs es : List AV} (h : FzL f lo hi H xs es) (hh : hi≤hi') : FzL f lo hi' H xs es:=fun H' h'=>by
 obtain ⟨G,g1,g2,g3⟩:=h H' fun b h1 h2=>h' b h1 (by omega)
 exact ⟨G,g1,g2,fun b hb=>g3 b (by omega)⟩
theorem oiV_fz {base n L : Nat} {H : Avm.H} {x : It} (hb : base≤L) (hH : At H L (oiB L x)) : Fz (frz base (n + 4)) L (L + (3 + x.dflt.length)) H (oiV L x) x.enc:=by
 have h0:=hH.left 0 _ rfl
 have h1:=hH.left 1 _ rfl
 have hr:=hH.right
 rw [otB_len] at hr
 have h2:=hr 0 _ rfl
 have hd : FzL (frz base (n + 2)) (L + 2 + 1) (L + (3 + x.dflt.length)) H (ocL (L + 3) x.dflt) (x.dflt.map Val.enc):=by
  rw [show L + (3 + x.dflt.length)=L + 2 + 1 + x.dflt.length by omega]
  exact ocL_fz x.dflt (L + 3) (by omega) fun j y hj=>by
   have:=hr (j + 1) (ocB y) (by simp [hj])
   rwa [show L + 2 + (j + 1)=L + 3 + j by omega] at this
 unfold oiV
 unfold It.enc
 rw [show x.cells = .str x.name :: (x.of.cells++[.bool x.opt,.bool x.extra,.isl (x.dflt.map Val.enc)]) by rw [It.cells_eq,Ty.cells_eq]; rfl]
 refine Fz.agg (FzL.cons (mid:=L) (Nat.le_refl L) (by omega) (Fz.pure rfl) (FzL.app (mid:=L + 2) (by omega) (by omega) (otV_fz hb h0 h1) ?_))
 refine FzL.cons (mid:=L + 2) (Nat.le_refl _) (by omega) (Fz.pure rfl) (FzL.cons (mid:=L + 2) (Nat.le_refl _) (by omega) (Fz.pure rfl) ?_)
 exact FzL.cons (mid:=L + (3 + x.dflt.length)) (by omega) (Nat.le_refl _) (Fz.osl (by omega) (by omega) h2 (by simp) hd) FzL.nil
theorem oiL_fz {base n : Nat} {H : Avm.H} : ∀ (l : List It) (L : Nat),base≤L→At H L (oiBs L l)→FzL (frz base (n + 4)) L (L + (oiBs L l).length) H (oiL L l) (l.map It.enc)
 | [],_,_,_=>FzL.nil
 | x :: l,L,hb,hH=>by
  have hr:=hH.right
  rw [oiB_len] at hr
  have h:=oiL_fz (base:=base) (n:=n) l (L + (3 + x.dflt.length)) (by omega) hr
  simp only [oiL,oiBs,List.map_cons,List.length_append,oiB_len]
  rw [show L + (3 + x.dflt.length + (oiBs (L + (3 + x.dflt.length)) l).length)=L + (3 + x.dflt.length) + (oiBs (L + (3 + x.dflt.length)) l).length by omega]
  exact FzL.cons (mid:=L + (3 + x.dflt.length)) (by omega) (by omega) (oiV_fz hb hH.left) h
end Go.Proofs.YtflbneepngjglaaGreatDoor
namespace Go.Proofs.YtflbneepngjglaaGreatDoor
open Go Go.Avm
theorem cloneTO_ok (l : List Ty) (hl : l.length≤67108864) (ws : Nat) (h : Avm.H) : callL cfg ws 97 [.isl (l.map Ty.enc)] h=some (.osl h.length 0 8 0 l.length,h++[.arr 0 8 (l.map Ty.enc)]):=by
 have:=cloneO_ok (f:=97) rfl (l.map Ty.enc) (by unfold lim; simp; omega) (by simp) ws h
 simpa using this
theorem cloneIO_ok (l : List It) (hl : l.length≤67108864) (ws : Nat) (h : Avm.H) : callL cfg ws 98 [.isl (l.map It.enc)] h=some (.osl h.length 0 12 0 l.length,h++[.arr 0 12 (l.map It.enc)]):=by
 have:=cloneO_ok (f:=98) rfl (l.map It.enc) (by unfold lim; simp; omega) (by simp) ws h
 simpa using this
def oBox (t : Ty) (P n K k : Nat) : ABlock:=.arr 0 8 [.agg [.int .i64 t.kind,.str t.name,.int .i64 t.lo,.int .i64 t.hi,.bool t.free,.bool t.ext,.osl P 0 12 0 n,.osl K 0 8 0 k]]
def oEnv (B i n : Nat) (l : Env) : Env:=[(1,.ptr B 0 8 0 0),(2,.ptr (B + 1) 0 8 0 0),(4,.int .i64 i),(33,.int .i64 n),(34,.int .i64 i)]++l
theorem own_l1 (t : Ty) (P K nk B : Nat) (g : Avm.H) (els cs : List AV) (i : Nat) (ds : List Val) (hB : B≤g.length) (hbx : g[B]? = some (oBox t P els.length K nk)) (hP : g[P]? = some (.arr 0 12 els)) (hPB : B≤P) (hcs : cs.length=11) (hi : els[i]? = some (.agg (cs++[.osl g.length 0 4 0 ds.length]))) (hil : i < 67108864) (hds : ds.length≤67108864) (hdn : ∀ d ∈ ds,d.nodes≤67108864) :
    roundsL (evC (callL cfg) roundsL cfg.pol B B c51L1) [1,2,4,33,34,67,68] (oEnv B i els.length [(67,.int .i64 ds.length),(68,.int .i64 (0 : Nat))]) (g++[.arr 0 4 (ds.map Val.enc)]) =
     some (.exit 4,oEnv B i els.length [(67,.int .i64 ds.length),(68,.int .i64 ds.length)],g++(.arr 0 4 (ocL (g.length + 1) ds) :: ds.map ocB)):=by
 have hlp:=loop_list (f:=evC (callL cfg) roundsL cfg.pol B B c51L1) (keep:=[1,2,4,33,34,67,68]) ds (fun k=>oEnv B i els.length [(67,.int .i64 ds.length),(68,.int .i64 k)])
     (fun k=>g++(.arr 0 4 (ocL (g.length + 1) (ds.take k)++(ds.drop k).map Val.enc) :: (ds.take k).map ocB))
     (fun _ _=>(.exit 4,oEnv B i els.length [(67,.int .i64 ds.length),(68,.int .i64 ds.length)],g++(.arr 0 4 (ocL (g.length + 1) ds) :: ds.map ocB))) ?_ ?_
 ·simpa [ocL] using hlp
 ·intro k x r hd hk hx K' hK
  have hw:=wrap_nat (n:=k + 1) (by omega)
  simp at hw
  have hm1 : x ∈ ds:=by rw [← hx]; exact List.getElem_mem hk
  have hc:=fun ws h'=>copiedO_ok _ x (Nat.le_refl _) (hdn x hm1) ws h'
  have hll : (ds.take k).length=k:=by simp; omega
  have ht : ds.take (k + 1)=ds.take k++[x]:=by rw [List.take_succ_eq_append_getElem hk,hx]
  have hg : (ocL (g.length + 1) (ds.take k)++(ds.drop k).map Val.enc)[k]? = some x.enc:=by
   rw [List.getElem?_append_right (by simp; omega),ocL_len,hll,Nat.sub_self,hd]; rfl
  have hel : (ocL (g.length + 1) (ds.take k)++(ds.drop k).map Val.enc).length=ds.length:=by simp; omega
  have hrl : r=ds.drop (k + 1):=by
   have:=List.drop_eq_getElem_cons hk
   rw [hd] at this
   injection this
  have hs : (ocL (g.length + 1) (ds.take k)++(ds.drop k).map Val.enc).set k (ocV (g.length + 1 + k) x)=ocL (g.length + 1) (ds.take (k + 1))++(ds.drop (k + 1)).map Val.enc:=by
   rw [hd,List.set_append_right _ _ (by simp; omega),ocL_len,hll,Nat.sub_self,List.map_cons,List.set_cons_zero,ht,ocL_snoc,hll,hrl]
   simp
  have hb : (ds.take k).map ocB++[ocB x]=(ds.take (k + 1)).map ocB:=by rw [ht]; simp
  rw [← hs,← hb] at hK
  have hlb : ((ds.take k).map ocB).length=k:=by simp; omega
  generalize (ocL (g.length + 1) (ds.take k)++(ds.drop k).map Val.enc)=es at *
  generalize (ds.take k).map ocB=bs at *
  obtain ⟨hix,hgx⟩:=List.getElem?_eq_some_iff.1 hg
  have hPl:=(List.getElem?_eq_some_iff.1 hP).1
  have hbx' : ∀ X,(g++X)[B]? = some (oBox t P els.length K nk):=fun X=>by rw [List.getElem?_append_left (List.getElem?_eq_some_iff.1 hbx).1]; exact hbx
  have hP' : ∀ X,(g++X)[P]? = some (.arr 0 12 els):=fun X=>by rw [List.getElem?_append_left hPl]; exact hP
  obtain ⟨hii,hi2⟩:=List.getElem?_eq_some_iff.1 hi
  rw [show g.length + 1 + k=g.length + (k + 1) by omega] at hK
  unfold ocV at hc hK
  unfold oEnv at hK ⊢
  unfold oBox at hbx'
  match cs,hcs with
  | [a0,a1,a2,a3,a4,a5,a6,a7,a8,a9,a10],_=>
   have hnB : ¬ g.length < B:=by omega
   simp at hc hK hi2
   simp [c51L1,hbx',hP',hi2,hii,hB,hnB,hk,hx,hc,hgx,hel,hlb,hw,hK]
 ·intro K'
  simp [c51L1,oEnv]
theorem own_l0 (t : Ty) (B : Nat) (g : Avm.H) (ks : List Ty) (its : AV) (hB : B≤g.length) (hbx : g[B]? = some (.arr 0 8 [.agg [.int .i64 t.kind,.str t.name,.int .i64 t.lo,.int .i64 t.hi,.bool t.free,.bool t.ext,its,.osl g.length 0 8 0 ks.length]])) (hks : ks.length≤67108864)
    (hown : ∀ x ∈ ks,∀ ws h,callL cfg ws 51 [x.enc] h=some (otV h.length x,h++otB x)) :
    roundsL (evC (callL cfg) roundsL cfg.pol B B c51L0) [1,2,12,13] [(1,.ptr B 0 8 0 0),(2,.ptr (B + 1) 0 8 0 0),(12,.int .i64 ks.length),(13,.int .i64 (0 : Nat))] (g++[.arr 0 8 (ks.map Ty.enc)]) =
     some (.exit 0,[(1,.ptr B 0 8 0 0),(2,.ptr (B + 1) 0 8 0 0),(12,.int .i64 ks.length),(13,.int .i64 ks.length)],g++(.arr 0 8 (otL (g.length + 1) ks) :: otBs ks)):=by
 have hlp:=loop_list (f:=evC (callL cfg) roundsL cfg.pol B B c51L0) (keep:=[1,2,12,13]) ks (fun k=>[(1,.ptr B 0 8 0 0),(2,.ptr (B + 1) 0 8 0 0),(12,.int .i64 ks.length),(13,.int .i64 k)])
     (fun k=>g++(.arr 0 8 (otL (g.length + 1) (ks.take k)++(ks.drop k).map Ty.enc) :: otBs (ks.take k)))
     (fun _ _=>(.exit 0,[(1,.ptr B 0 8 0 0),(2,.ptr (B + 1) 0 8 0 0),(12,.int .i64 ks.length),(13,.int .i64 ks.length)],g++(.arr 0 8 (otL (g.length + 1) ks) :: otBs ks))) ?_ ?_
 ·simpa [otL,otBs] using hlp
 ·intro k x r hd hk hx K' hK
  have hw:=wrap_nat (n:=k + 1) (by omega)
  simp at hw
  have hm1 : x ∈ ks:=by rw [← hx]; exact List.getElem_mem hk
  have hc:=fun ws h'=>hown x hm1 ws h'
  have hll : (ks.take k).length=k:=by simp; omega
  have ht : ks.take (k + 1)=ks.take k++[x]:=by rw [List.take_succ_eq_append_getElem hk,hx]
  have hg : (otL (g.length + 1) (ks.take k)++(ks.drop k).map Ty.enc)[k]? = some x.enc:=by
   rw [List.getElem?_append_right (by simp; omega),otL_len,hll,Nat.sub_self,hd]; rfl
  have hel : (otL (g.length + 1) (ks.take k)++(ks.drop k).map Ty.enc).length=ks.length:=by simp; omega
  have hrl : r=ks.drop (k + 1):=by
   have:=List.drop_eq_getElem_cons hk
   rw [hd] at this
   injection this
  have hlb : (otBs (ks.take k)).length=2 * k:=by rw [otBs_len,hll]
  have hs : (otL (g.length + 1) (ks.take k)++(ks.drop k).map Ty.enc).set k (otV (g.length + (2 * k + 1)) x)=otL (g.length + 1) (ks.take (k + 1))++(ks.drop (k + 1)).map Ty.enc:=by
   rw [hd,List.set_append_right _ _ (by simp; omega),otL_len,hll,Nat.sub_self,List.map_cons,List.set_cons_zero,ht,otL_snoc,hlb,hrl,show g.length + (2 * k + 1)=g.length + 1 + 2 * k by omega]
   simp
  have hb : otBs (ks.take k)++otB x=otBs (ks.take (k + 1)):=by rw [ht,otBs_snoc]
  rw [← hs,← hb] at hK
  generalize (otL (g.length + 1) (ks.take k)++(ks.drop k).map Ty.enc)=es at *
  generalize otBs (ks.take k)=bs at *
  obtain ⟨hix,hgx⟩:=List.getElem?_eq_some_iff.1 hg
  have hbx' : ∀ X,(g++X)[B]? = some (.arr 0 8 [.agg [.int .i64 t.kind,.str t.name,.int .i64 t.lo,.int .i64 t.hi,.bool t.free,.bool t.ext,its,.osl g.length 0 8 0 ks.length]]):=fun X=>by rw [List.getElem?_append_left (List.getElem?_eq_some_iff.1 hbx).1]; exact hbx
  unfold otV otC at hc hK
  have hnB : ¬ g.length < B:=by omega
  simp at hc hK
  simp [c51L0,hbx',hk,hx,hc,hgx,hel,hlb,hw,hK,hB,hnB]
 ·intro K'
  simp [c51L0]
end Go.Proofs.YtflbneepngjglaaGreatDoor
namespace Go.Proofs.YtflbneepngjglaaGreatDoor
open Go Go.Avm
set_option maxHeartbeats 1000000 in
theorem own_l2 (t : Ty) (B K nk : Nat) (g : Avm.H) (ts : List It) (hB : B≤g.length) (hbx : g[B]? = some (oBox t g.length ts.length K nk)) (hts : ts.length≤67108864) (hds : ∀ x ∈ ts,x.dflt.length≤67108864) (hdn : ∀ x ∈ ts,∀ d ∈ x.dflt,d.nodes≤67108864)
    (hown : ∀ x ∈ ts,∀ ws h,callL cfg ws 51 [x.of.enc] h=some (otV h.length x.of,h++otB x.of)) :
    roundsL (evC (callL cfg) roundsL cfg.pol B B c51L2) [1,2,33,34] [(1,.ptr B 0 8 0 0),(2,.ptr (B + 1) 0 8 0 0),(33,.int .i64 ts.length),(34,.int .i64 (0 : Nat))] (g++[.arr 0 12 (ts.map It.enc)]) =
     some (.exit 2,[(1,.ptr B 0 8 0 0),(2,.ptr (B + 1) 0 8 0 0),(33,.int .i64 ts.length),(34,.int .i64 ts.length)],g++(.arr 0 12 (oiL (g.length + 1) ts) :: oiBs (g.length + 1) ts)):=by
 have hlp:=loop_list (f:=evC (callL cfg) roundsL cfg.pol B B c51L2) (keep:=[1,2,33,34]) ts (fun k=>[(1,.ptr B 0 8 0 0),(2,.ptr (B + 1) 0 8 0 0),(33,.int .i64 ts.length),(34,.int .i64 k)])
     (fun k=>g++(.arr 0 12 (oiL (g.length + 1) (ts.take k)++(ts.drop k).map It.enc) :: oiBs (g.length + 1) (ts.take k)))
     (fun _ _=>(.exit 2,[(1,.ptr B 0 8 0 0),(2,.ptr (B + 1) 0 8 0 0),(33,.int .i64 ts.length),(34,.int .i64 ts.length)],g++(.arr 0 12 (oiL (g.length + 1) ts) :: oiBs (g.length + 1) ts))) ?_ ?_
 ·simpa [oiL,oiBs] using hlp
 ·intro k x r hd hk hx K' hK
  have hw:=wrap_nat (n:=k + 1) (by omega)
  simp at hw
  have hm1 : x ∈ ts:=by rw [← hx]; exact List.getElem_mem hk
  have hc:=fun ws h'=>hown x hm1 ws h'
  have hcl:=fun ws h'=>cloneVO_ok x.dflt (hds x hm1) ws h'
  have hll : (ts.take k).length=k:=by simp; omega
  have ht : ts.take (k + 1)=ts.take k++[x]:=by rw [List.take_succ_eq_append_getElem hk,hx]
  have hg : (oiL (g.length + 1) (ts.take k)++(ts.drop k).map It.enc)[k]? = some x.enc:=by
   rw [List.getElem?_append_right (by simp; omega),oiL_len,hll,Nat.sub_self,hd]; rfl
  have hel : (oiL (g.length + 1) (ts.take k)++(ts.drop k).map It.enc).length=ts.length:=by simp; omega
  have hrl : r=ts.drop (k + 1):=by
   have:=List.drop_eq_getElem_cons hk
   rw [hd] at this
   injection this
  have hs : (oiL (g.length + 1) (ts.take k)++(ts.drop k).map It.enc).set k (oiV (g.length + 1 + (oiBs (g.length + 1) (ts.take k)).length) x)=oiL (g.length + 1) (ts.take (k + 1))++(ts.drop (k + 1)).map It.enc:=by
   rw [hd,List.set_append_right _ _ (by simp; omega),oiL_len,hll,Nat.sub_self,List.map_cons,List.set_cons_zero,ht,oiL_snoc,hrl]
   simp
  have hb : oiBs (g.length + 1) (ts.take k)++oiB (g.length + 1 + (oiBs (g.length + 1) (ts.take k)).length) x=oiBs (g.length + 1) (ts.take (k + 1)):=by rw [ht,oiBs_snoc]
  rw [← hs,← hb] at hK
  generalize (oiL (g.length + 1) (ts.take k)++(ts.drop k).map It.enc)=es at *
  generalize oiBs (g.length + 1) (ts.take k)=bs at *
  have hl1:=own_l1 t g.length K nk B (g++(.arr 0 12 (es.set k (oiV (g.length + 1 + bs.length) x)) :: (bs++otB x.of))) (es.set k (oiV (g.length + 1 + bs.length) x)) (.str x.name :: (otC (g.length + 1 + bs.length) x.of++[.bool x.opt,.bool x.extra])) k x.dflt (by simp; omega) (by rw [List.getElem?_append_left (List.getElem?_eq_some_iff.1 hbx).1,hbx,List.length_set,hel]) (by simp) hB rfl (by
   rw [List.getElem?_set_self (by omega)]
   unfold oiV otB
   simp only [List.cons_append,List.append_assoc,List.nil_append,List.length_append,List.length_cons,List.length_nil]
   rw [show g.length + (bs.length + (0 + 1 + 1) + 1)=g.length + 1 + bs.length + 2 by omega]) (by omega) (hds x hm1) (hdn x hm1)
  obtain ⟨hix,hgx⟩:=List.getElem?_eq_some_iff.1 hg
  have hbx' : ∀ X,(g++X)[B]? = some (oBox t g.length ts.length K nk):=fun X=>by rw [List.getElem?_append_left (List.getElem?_eq_some_iff.1 hbx).1]; exact hbx
  unfold oEnv at hl1
  unfold oBox at hbx'
  unfold oiV at hl1 hK
  unfold oiB at hK
  unfold otV at hc
  unfold otC at hc hl1 hK
  unfold otB at hc hl1 hK
  have hnB : ¬ g.length < B:=by omega
  rw [show g.length + 1 + bs.length=g.length + (bs.length + 1) by omega] at hl1 hK
  simp at hc hK hl1 hcl
  have eL2 : g.length + (bs.length + 1) + 2=g.length + (bs.length + 2 + 1):=by omega
  have eL3 : g.length + (bs.length + 1) + 3=g.length + (bs.length + 2 + 1) + 1:=by omega
  rw [eL2] at hl1 hK
  rw [eL3] at hK
  rw [hel] at hl1
  simp [c51L2,hbx',hk,hx,hc,hcl,hgx,hel,hw,hl1,hK,hB,hnB]
 ·intro K'
  simp [c51L2]
end Go.Proofs.YtflbneepngjglaaGreatDoor
namespace Go.Proofs.YtflbneepngjglaaGreatDoor
open Go Go.Avm
theorem own_leave (t : Ty) (h H : Avm.H) (P K : Nat) (hK : h.length≤K) (hPK : P=K + 1 + (otBs t.kids).length) (h1 : H[P]? = some (.arr 0 12 (oiL (P + 1) t.items))) (h2 : At H (P + 1) (oiBs (P + 1) t.items)) (h3 : H[K]? = some (.arr 0 8 (otL (K + 1) t.kids))) (h4 : At H (K + 1) (otBs t.kids)) (h5 : ∀ b,b < h.length→H[b]? = h[b]?) :
    leave (.pur true) h (.agg [.int .i64 t.kind,.str t.name,.int .i64 t.lo,.int .i64 t.hi,.bool t.free,.bool t.ext,.osl P 0 12 0 t.items.length,.osl K 0 8 0 t.kids.length]) H=some (otV h.length t,h++otB t):=by
 obtain ⟨G1,z1,z2,z3⟩:=oiL_fz (base:=h.length) (n:=4) t.items (P + 1) (by omega) h2 H fun _ _ _=>rfl
 have hPl:=(List.getElem?_eq_some_iff.1 h1).1
 have hP1:=z3 P (.inl (by omega))
 rw [h1] at hP1
 have hset : ∀ b,b ≠ P→(List.set G1 P (.arr 0 12 (t.items.map It.enc)))[b]? = G1[b]?:=fun b hb=>List.getElem?_set_ne (fun e=>hb e.symm)
 obtain ⟨G2,y1,y2,y3⟩:=otL_fz (base:=h.length) (n:=6) t.kids (K + 1) (by omega) (H:=List.set G1 P (.arr 0 12 (t.items.map It.enc))) (h4.on fun b hb1 hb2=>by rw [hset b (by omega),z3 b (.inl (by omega))]) (List.set G1 P (.arr 0 12 (t.items.map It.enc))) fun _ _ _=>rfl
 have hK1 : (List.set G1 P (.arr 0 12 (t.items.map It.enc)))[K]? = some (.arr 0 8 (otL (K + 1) t.kids)):=by rw [hset K (by omega),z3 K (.inl (by omega)),h3]
 have hK2:=y3 K (.inl (by omega))
 rw [hK1] at hK2
 have hP2:=y3 P (.inr (by omega))
 rw [List.getElem?_set_self (by rw [z2]; exact hPl)] at hP2
 have hKl:=(List.getElem?_eq_some_iff.1 hK2).1
 have f1 : ∀ X : ABlock,(List.set G2 K X)[K]? = some X:=fun X=>List.getElem?_set_self hKl
 have f2 : ∀ X : ABlock,(List.set G2 K X)[P]? = some (.arr 0 12 (t.items.map It.enc)):=fun X=>by rw [List.getElem?_set_ne (by omega)]; exact hP2
 have f3 : ∀ X : ABlock,(List.set G2 K X).take h.length=h:=fun X=>by
  refine List.ext_getElem? fun b=>?_
  by_cases hb : b < h.length
  ·rw [List.getElem?_take_of_lt hb,List.getElem?_set_ne (by omega),y3 b (.inl (by omega)),hset b (by omega),z3 b (.inl (by omega)),h5 b hb]
  ·rw [List.getElem?_eq_none (by rw [List.length_take]; omega),List.getElem?_eq_none (by omega)]
 have f4 : (P == K)=false:=by simp; omega
 have f5 : ¬ P < h.length:=by omega
 have f6 : ¬ K < h.length:=by omega
 have f7 : ¬ P=K:=by omega
 unfold otV otC otB
 simp at z1 y1
 simp [leave,own3,own2,own1,ownL,deep,h1,z1,hP1,hK1,y1,hK2,f1,f2,f3,f4,f5,f6,f7]
theorem nodes_size : ∀ (n : Nat) (v : Val),v.size≤n→v.nodes≤v.size
 | 0,v,h=>by have:=v.size_pos; omega
 | n + 1,v,h=>by
  rw [v.nodes_eq,v.size_eq]
  have : ∀ l : List Val,(∀ x ∈ l,x.nodes≤x.size)→(l.map Val.nodes).sum≤Val.sizeL l:=by
   intro l
   induction l with
   | nil=>intro _; simp [Val.sizeL]
   | cons x l ih=>
    intro hl
    have h1:=hl x (by simp)
    have h2:=ih fun y hy=>hl y (by simp [hy])
    simp only [List.map_cons,List.sum_cons,Val.sizeL]
    omega
  have:=this v.items fun x hx=>nodes_size n x (by have:=Val.mem_items hx; omega)
  omega
set_option maxHeartbeats 1000000 in
theorem ownO_ok : ∀ (n : Nat) (t : Ty),t.size≤n→t.wid≤67108864→∀ ws h,callL cfg ws 51 [t.enc] h=some (otV h.length t,h++otB t)
 | 0,t,hn,_,_,_=>by have:=t.size_pos; omega
 | n + 1,t,hn,hb,ws,h=>by
  have hlk:=t.wid_kids
  have hli:=t.wid_items
  have hck:=fun ws h'=>cloneTO_ok t.kids (by omega) ws h'
  have hci:=fun ws h'=>cloneIO_ok t.items (by omega) ws h'
  refine callL_fn rfl rfl ?_
  have e0:=own_l0 t h.length (h++[.arr 0 8 [.agg [.int .i64 t.kind,.str t.name,.int .i64 t.lo,.int .i64 t.hi,.bool t.free,.bool t.ext,.isl (t.items.map It.enc),.osl (h.length + 2) 0 8 0 t.kids.length]],.arr 0 8 [.agg [.int .i64 0,.str ⟨#[]⟩,.int .i64 0,.int .i64 0,.bool false,.bool false,.isl [],.isl []]]]) t.kids (.isl (t.items.map It.enc)) (by simp) (by simp) (by omega)
   (fun x hx ws h'=>ownO_ok n x (by have:=Ty.mem_kids hx; omega) (Nat.le_trans (Ty.wid_kid hx) hb) ws h')
  have e2:=own_l2 t h.length (h.length + 2) t.kids.length (h++([oBox t (h.length + ((otBs t.kids).length + 1 + 1 + 1)) t.items.length (h.length + 2) t.kids.length,.arr 0 8 [.agg [.int .i64 0,.str ⟨#[]⟩,.int .i64 0,.int .i64 0,.bool false,.bool false,.isl [],.isl []]],.arr 0 8 (otL (h.length + 2 + 1) t.kids)]++otBs t.kids)) t.items (by simp) (by simp) (by omega)
   (fun x hx=>by have:=Ty.wid_item hx; have:=x.wid_dflt; omega) (fun x hx d hd=>by have:=Ty.wid_item hx; have:=It.wid_val hd; have:=nodes_size _ d (Nat.le_refl _); omega)
   (fun x hx ws h'=>ownO_ok n x.of (by have:=Ty.mem_of hx; omega) (Nat.le_trans (Ty.wid_itof hx) hb) ws h')
  have elv:=fun A C=>own_leave t h (h++([A,C,.arr 0 8 (otL (h.length + 2 + 1) t.kids)]++(otBs t.kids++([.arr 0 12 (oiL (h.length + ((otBs t.kids).length + 1 + 1 + 1) + 1) t.items)]++oiBs (h.length + ((otBs t.kids).length + 1 + 1 + 1) + 1) t.items)))) (h.length + ((otBs t.kids).length + 1 + 1 + 1)) (h.length + 2) (by omega) (by omega)
   (by simp)
   (fun j b hj=>by
    rw [List.getElem?_append_right (by omega),List.getElem?_append_right (by simp; omega),List.getElem?_append_right (by simp; omega),List.getElem?_append_right (by simp; omega)]
    simp only [List.length_cons,List.length_nil]
    rw [show h.length + ((otBs t.kids).length + 1 + 1 + 1) + 1 + j - h.length - (0 + 1 + 1 + 1) - (otBs t.kids).length - (0 + 1)=j by omega]
    exact hj)
   (by simp)
   (fun j b hj=>by
    have:=(List.getElem?_eq_some_iff.1 hj).1
    rw [List.getElem?_append_right (by omega),List.getElem?_append_right (by simp; omega),List.getElem?_append_left (by simp; omega)]
    simp only [List.length_cons,List.length_nil]
    rw [show h.length + 2 + 1 + j - h.length - (0 + 1 + 1 + 1)=j by omega]
    exact hj)
   (fun b hb=>List.getElem?_append_left hb)
  unfold oBox at e2
  simp at hck hci e0 e2
  simp at elv
  simp [F51,c51,hck,hci,e0,e2,elv]
end Go.Proofs.YtflbneepngjglaaGreatDoor
namespace Go.Proofs.YtflbneepngjglaaGreatDoor
open Go Go.Avm
def difP (x : Ty) : Bool:=distinct (x.itemsOf.map It.name)
theorem strs_map (l : List ByteArray) : strs (l.map .str)=some l:=by
 induction l with
 | nil=>rfl
 | cons x l ih=>simp [strs,ih]
theorem twice_ok (v : AV) (l : List ByteArray) (hl : l.length≤67108864) (ws : Nat) (h : Avm.H) (he : elsOf h v=some (l.map .str)) : callL cfg ws 148 [v] h=some (.bool (!distinct l),h):=by
 refine callL_ext rfl ?_
 simp only [twiceX,he,strs_map,hl,if_true]
theorem differ_loop (t : Ty) (ht : t.wid≤67108864) (h : Avm.H) : ∃ v g,SlcIn h.length 1 1 g (([]++(t.itemsOf).map It.name).map AV.str) v∧roundsL (evC (callL cfg) roundsL cfg.pol h.length h.length c155L0) [3,7,8,9] [(3,.osl (h.length + 1) 0 1 0 0),(7,.isl (t.itemsOf.map It.enc)),(8,.int .i64 t.itemsOf.length),(9,.int .i64 (0 : Nat))] (h++([.arr 0 8 [t.enc]]++[.arr 0 1 []]))=some (.exit 0,[(3,v),(7,.isl (t.itemsOf.map It.enc)),(8,.int .i64 t.itemsOf.length),(9,.int .i64 (t.itemsOf).length)],h++([.arr 0 8 [t.enc]]++g)):=by
 have hl : (t.itemsOf).length≤67108864:=(by have:=itemsOf_len t; have:=t.wid_items; omega)
 have hlp:=loop_post (γ:=AV × Avm.H) (f:=evC (callL cfg) roundsL cfg.pol h.length h.length c155L0) (keep:=[3,7,8,9]) (t.itemsOf)
     (fun i c=>SlcIn h.length 1 1 c.2 (([]++((t.itemsOf).take i).map It.name).map AV.str) c.1)
     (fun i c=>[(3,c.1),(7,.isl (t.itemsOf.map It.enc)),(8,.int .i64 t.itemsOf.length),(9,.int .i64 i)]) (fun _ g=>h++([.arr 0 8 [t.enc]]++g.2))
     (fun _ _ o=>∃ v g,SlcIn h.length 1 1 g (([]++(t.itemsOf).map It.name).map AV.str) v∧o=(.exit 0,[(3,v),(7,.isl (t.itemsOf.map It.enc)),(8,.int .i64 t.itemsOf.length),(9,.int .i64 (t.itemsOf).length)],h++([.arr 0 8 [t.enc]]++g))) ?_ ?_ (.osl (h.length + 1) 0 1 0 0,[.arr 0 1 []]) (.inr ⟨0,0,by simp,by simp⟩)
 ·obtain ⟨o,hl,v,g,hI,ho⟩:=hlp
  exact ⟨v,g,hI,ho ▸ hl⟩
 ·intro i x r c hd hi hx hI K hK
  have hw:=wrap_nat (n:=i + 1) (by omega)
  simp at hw
  have hm : x ∈ (t.itemsOf):=by rw [← hx]; exact List.getElem_mem hi
  have htk : (t.itemsOf).take (i + 1)=(t.itemsOf).take i++[x]:=by rw [List.take_succ_eq_append_getElem hi,hx]
  rw [htk] at hK
  obtain ⟨v,g⟩:=c
  dsimp only at hI
  simp [-Prod.exists,c155L0,hi,hx,hw,bslP,appended,]
  generalize hA : appI _ _ _ _ _ _ _=r
  obtain ⟨v',g',rfl,h2⟩:=SlcIn.use (pre:=[_]) hI hA (by simp; omega) (by simp)
  obtain ⟨o,h4,h5⟩:=hK (v',g') (by simpa using h2)
  refine ⟨o,?_,by simpa using h5⟩
  simp at h4
  simp [h4,hw]
 ·intro c K hI
  refine ⟨_,?_,c.1,c.2,by simpa using hI,rfl⟩
  simp [c155L0]
theorem differf_ok (t : Ty) (ht : t.wid≤67108864) (ws : Nat) (h : Avm.H) : callL cfg ws 155 [t.enc] h=some (.bool (difP t),h):=by
 have h1:=itemsOf_ok t
 have hlen:=itemsOf_len t
 have hwi:=t.wid_items
 obtain ⟨v,g,hI,hl⟩:=differ_loop t ht h
 simp only [List.nil_append] at hI
 have h2:=fun ws=>twice_ok v (t.itemsOf.map It.name) (by simp; omega) ws _ (SlcIn.els (pre:=[.arr 0 8 [t.enc]]) hI)
 refine callL_fn rfl rfl ?_
 simp at h1 hl h2
 simp [F155,c155,h1,hl,h2,difP]
theorem differ_ok (t : Ty) (hw0 : t.wid≤67108864) (hb : t.nodes≤67108864) (ws : Nat) (h : Avm.H) : callL cfg ws 81 [t.enc] h=some (.bool (t.allP difP),h):=by
 have h2:=fun ws h=>within_ok (cap':=[]) (k:=0) (.inl rfl) rfl _ t (Nat.le_refl _) hw0 hb (fun x _ hx _ ws h'=>by simpa using differf_ok x (Nat.le_trans hx hw0) ws h') ws h [] rfl
 refine callL_fn rfl rfl ?_
 simp at h2
 simp [F81,c81,h2]
end Go.Proofs.YtflbneepngjglaaGreatDoor
