/- Plain and full fit, each is its own, and that of the other: the law. -/
import Derived.Test.YtflbneepngjglaaGreatDoorP51
set_option linter.all false
namespace Go.Proofs.YtflbneepngjglaaGreatDoor
open Go Go.Avm
theorem mapS_D {f : Nat→Val→Int→Option (Val × Int)} {g : Nat→Val→Option Val} : ∀ {l r : List Val} {i : Nat} {c c' : Int},(∀ (j : Nat) x,l[j]? = some x→∀ c q,0≤c→f (i + j) x c=some q→g (i + j) x=some q.1∧(q.1.nodes : Int) + q.2=c∧0≤q.2)→0≤c→mapS f i l c=some (r,c')→mapIO g i l=some r∧((r.map Val.nodes).sum : Nat) + c'=c∧0≤c'
 | [],r,i,c,c',_,hc,h=>by simp [mapS] at h; obtain ⟨rfl,rfl⟩:=h; simp [mapIO,hc]
 | x :: l,r,i,c,c',hf,hc,h=>by
  unfold mapS at h
  split at h
  ·cases h
  ·rename_i y c1 h1
   split at h
   ·cases h
   ·rename_i ys c2 h2
    injection h with h
    injection h with h3 h4
    subst h3; subst h4
    obtain ⟨a1,a2,a3⟩:=hf 0 x rfl c (y,c1) hc h1
    obtain ⟨b1,b2,b3⟩:=mapS_D (f:=f) (g:=g) (l:=l) (r:=ys) (i:=i + 1) (fun j z hz c q hc hq=>by
     have:=hf (j + 1) z (by simpa using hz) c q hc (by rw [show i + (j + 1)=i + 1 + j by omega]; exact hq)
     rwa [show i + (j + 1)=i + 1 + j by omega] at this) a3 h2
    rw [Nat.add_zero] at a1
    dsimp only at a1 a2 a3
    refine ⟨by simp only [mapIO,a1,b1],?_,b3⟩
    simp only [List.map_cons,List.sum_cons]
    push_cast
    push_cast at b2
    omega
theorem mapS_of {f : Nat→Val→Int→Option (Val × Int)} {g : Nat→Val→Option Val} : ∀ {l r : List Val} {i : Nat} {c : Int},(∀ (j : Nat) x,l[j]? = some x→∀ c z,g (i + j) x=some z→(z.nodes : Int)≤c→f (i + j) x c=some (z,c - z.nodes))→mapIO g i l=some r→(((r.map Val.nodes).sum : Nat) : Int)≤c→mapS f i l c=some (r,c - ((r.map Val.nodes).sum : Nat))
 | [],r,i,c,_,h,_=>by simp [mapIO] at h; subst h; simp [mapS]
 | x :: l,r,i,c,hf,h,hc=>by
  unfold mapIO at h
  split at h
  ·rename_i y ys h1 h2
   injection h with h; subst h
   simp only [List.map_cons,List.sum_cons] at hc ⊢
   push_cast at hc ⊢
   have a:=hf 0 x rfl c y h1 (by omega)
   have b:=mapS_of (f:=f) (g:=g) (l:=l) (r:=ys) (i:=i + 1) (c:=c - y.nodes) (fun j z hz c q hq hc=>by
    have:=hf (j + 1) z (by simpa using hz) c q (by rw [show i + (j + 1)=i + 1 + j by omega]; exact hq) hc
    rwa [show i + (j + 1)=i + 1 + j by omega] at this) h2 (by push_cast; omega)
   rw [Nat.add_zero] at a
   simp only [mapS,a,b]
   congr 2
   push_cast
   omega
  ·cases h
theorem one_node {x : Val} (h : x.items=[]) : x.nodes=1:=by rw [x.nodes_eq,h]; rfl
theorem fullN_D {m : Md} {S : List (Ty × Val)} (M : m.fine S) (hSs : ∀ q ∈ S,q.2.size≤67108864) : ∀ (n : Nat) (t : Ty) (v : Val) (l : Int) (q : Val × Int),t.fine m S→(∃ k,fitB m k t v=true)→v.size≤67108864→fullN m n t v l=some q→FullD m n t v=some q.1∧(q.1.nodes : Int) + q.2=l∧0≤q.2
 | 0,_,_,_,_,_,_,_,h=>by cases h
 | n + 1,t,v,l,q,T,⟨k,hk⟩,hv,h=>by
  obtain ⟨k,b,rfl,hb⟩:=beh_of hk
  have I:=fill_in M hSs T hb hv hk
  unfold fullN at h
  split at h
  ·cases h
  ·rename_i hl
   rw [hb,Option.getD_some] at h
   split at h
   ·cases h
   ·rename_i ys l' hm
    injection h with h
    subst h
    obtain ⟨e1,e2,e3⟩:=mapS_D (g:=fullP b v n (FullD m n)) (fun j x hx c q hc hq=>by
     rw [Nat.zero_add] at hq ⊢
     unfold fullF at hq
     unfold fullP
     cases hp : partF b v j x with
     | none=>
      rw [hp] at hq
      dsimp only at hq ⊢
      unfold leafS at hq
      split at hq
      ·cases hq
      ·rename_i hn
       injection hq with hq
       subst hq
       have:=one_node (I.leaf j x hx hp).1
       rw [if_neg (fun e=>hn (.inl e))]
       dsimp only
       exact ⟨rfl,by omega,by omega⟩
     | some w=>
      rw [hp] at hq
      obtain ⟨_,h2,h3,h4⟩:=I.real j x w hx hp
      exact fullN_D M hSs n w.1 w.2 c q h2 h4 h3 hq) (by omega) hm
    refine ⟨?_,?_,e3⟩
    ·unfold FullD
     rw [hb,Option.getD_some,e1]
     rfl
    ·rw [Val.nodes_eq]
     simp only [Val.items_mk]
     push_cast at e2 ⊢
     omega
theorem fullN_of {m : Md} {S : List (Ty × Val)} (M : m.fine S) (hSs : ∀ q ∈ S,q.2.size≤67108864) : ∀ (n : Nat) (t : Ty) (v f : Val) (l : Int),t.fine m S→(∃ k,fitB m k t v=true)→v.size≤67108864→FullD m n t v=some f→(f.nodes : Int)≤l→fullN m n t v l=some (f,l - f.nodes)
 | 0,_,_,_,_,_,_,_,h,_=>by cases h
 | n + 1,t,v,f,l,T,⟨k,hk⟩,hv,h,hl=>by
  obtain ⟨k,b,rfl,hb⟩:=beh_of hk
  have I:=fill_in M hSs T hb hv hk
  unfold FullD at h
  rw [hb,Option.getD_some] at h
  cases hm : mapIO (fullP b v n (FullD m n)) 0 v.items with
  | none=>rw [hm] at h; cases h
  | some ys=>
   rw [hm] at h
   injection h with h
   subst h
   rw [Val.nodes_eq] at hl ⊢
   simp only [Val.items_mk] at hl ⊢
   push_cast at hl ⊢
   have e:=mapS_of (f:=fullF b v n (fullN m n)) (c:=l - 1) (fun j x hx c z hz hc=>by
    rw [Nat.zero_add] at hz ⊢
    unfold fullP at hz
    unfold fullF
    cases hp : partF b v j x with
    | none=>
     rw [hp] at hz
     dsimp only at hz ⊢
     split at hz
     ·cases hz
     ·rename_i hn
      injection hz with hz
      subst hz
      have:=one_node (I.leaf j x hx hp).1
      unfold leafS
      rw [if_neg (by omega),this]
      rfl
    | some w=>
     rw [hp] at hz
     obtain ⟨_,h2,h3,h4⟩:=I.real j x w hx hp
     exact fullN_of M hSs n w.1 w.2 z c h2 h4 h3 hz hc) hm (by push_cast; omega)
   unfold fullN
   rw [if_neg (by omega),hb,Option.getD_some,e]
   dsimp only
   congr 2
   push_cast
   omega
theorem maxL_all {f : Val→Nat} {k : Nat} : ∀ {l : List Val},(∀ x ∈ l,f x≤k)→maxL (l.map f)≤k
 | [],_=>Nat.zero_le _
 | x :: l,h=>by
  have h1:=h x (by simp)
  have h2:=maxL_all (f:=f) (k:=k) (l:=l) fun y hy=>h y (by simp [hy])
  simp only [List.map_cons,maxL]; omega
theorem FullD_depth {m : Md} {S : List (Ty × Val)} (M : m.fine S) (hSs : ∀ q ∈ S,q.2.size≤67108864) : ∀ (n : Nat) (t : Ty) (v f : Val),t.fine m S→(∃ k,fitB m k t v=true)→v.size≤67108864→FullD m n t v=some f→f.depth≤n
 | 0,_,_,_,_,_,_,h=>by cases h
 | n + 1,t,v,f,T,⟨k,hk⟩,hv,h=>by
  obtain ⟨k,b,rfl,hb⟩:=beh_of hk
  have I:=fill_in M hSs T hb hv hk
  obtain ⟨h1,h2,h3,h4,h5⟩:=FullD_at h
  rw [hb,Option.getD_some] at h5
  rw [Val.depth_eq]
  have:=maxL_all (f:=Val.depth) (k:=n) (l:=f.items) fun z hz=>by
   obtain ⟨j,hj⟩:=List.mem_iff_getElem?.1 hz
   have hjl : j < v.items.length:=by have:=(List.getElem?_eq_some_iff.1 hj).1; omega
   have hx:=List.getElem?_eq_getElem hjl
   generalize v.items[j]=x at hx
   obtain ⟨z',h6,h7⟩:=h5 j x hx
   rw [hj] at h6; injection h6 with h6; subst h6
   unfold fullP at h7
   cases hp : partF b v j x with
   | none=>
    rw [hp] at h7
    dsimp only at h7
    split at h7
    ·cases h7
    ·injection h7 with h7; subst h7
     have : x.depth=1:=by rw [x.depth_eq,(I.leaf j x hx hp).1]; rfl
     omega
   | some q=>
    rw [hp] at h7
    obtain ⟨_,e2,e3,e4⟩:=I.real j x q hx hp
    exact FullD_depth M hSs n _ _ _ e2 e4 e3 h7
  omega
theorem nodes_pos (v : Val) : 1≤v.nodes:=by rw [Val.nodes_eq]; omega
theorem depth_pos (v : Val) : 1≤v.depth:=by rw [Val.depth_eq]; omega
theorem parts_few : ∀ {l r : List Val},r.length=l.length→(∀ (j : Nat) x z,l[j]? = some x→r[j]? = some z→z.nodes≤x.nodes∧z.depth≤x.depth)→(r.map Val.nodes).sum≤(l.map Val.nodes).sum∧maxL (r.map Val.depth)≤maxL (l.map Val.depth)
 | [],[],_,_=>⟨Nat.le_refl _,Nat.le_refl _⟩
 | [],_ :: _,h,_=>by simp at h
 | _ :: _,[],h,_=>by simp at h
 | x :: l,z :: r,h,hf=>by
  have h0:=hf 0 x z rfl rfl
  have h1:=parts_few (l:=l) (r:=r) (by simpa using h) fun j a b ha hb=>hf (j + 1) a b (by simpa using ha) (by simpa using hb)
  simp only [List.map_cons,List.sum_cons,maxL]
  omega
theorem plain_few {m : Md} : ∀ (n : Nat) (u : List (Ty × Val)) (t : Ty) (v r : Val),plainN m n u t v=some r→r.nodes≤v.nodes∧r.depth≤v.depth
 | 0,_,_,_,_,h=>by cases h
 | n + 1,u,t,v,r,h=>by
  obtain ⟨h1,h2,h3,h4,h5⟩:=plainN_at h
  have:=parts_few h4 fun j x z hx hz=>by
   obtain ⟨y,z',h6,h7,h8⟩:=h5 j x hx
   rw [hz] at h6; injection h6 with h6; subst h6
   have hy : y.nodes≤x.nodes∧y.depth≤x.depth:=by
    unfold eachO at h7
    split at h7
    ·exact plain_few n u _ _ _ h7
    ·injection h7 with h7; subst h7; exact ⟨Nat.le_refl _,Nat.le_refl _⟩
   split at h8
   ·unfold normO at h8
    split at h8
    ·split at h8
     ·injection h8 with h8
      split at h8
      ·subst h8
       have e1 : absV.nodes=1:=one_node rfl
       have e2 : absV.depth=1:=by rw [Val.depth_eq]; rfl
       have:=nodes_pos y; have:=depth_pos y
       omega
      ·subst h8; exact hy
     ·cases h8
    ·injection h8 with h8; subst h8; exact hy
   ·subst h8; exact hy
  rw [r.nodes_eq,v.nodes_eq,r.depth_eq,v.depth_eq]
  omega
theorem eqS_size {a : ByteArray} (h : eqS a ⟨#[]⟩=true) : a.size=0:=by
 unfold eqS at h
 rw [decide_eq_true_eq,bytes_eq] at h
 rw [h]; rfl
theorem bytes_few {b : Ty} {v : Val} {f : Ty→Val→Bool} (hr : rightP b=true) (h : fitS b v f=true) : v.bytes.size≤32000:=by
 have hh : ∀ a c,hasP a false c v=true→v.bytes.size≤32000:=fun a c e=>by
  simp only [hasP,Bool.and_eq_true,Bool.false_or] at e
  rw [eqS_size e.2.1]; omega
 have ha : ∀ (a k : Int),k≤32000→rngP b a k=true→allowP b (v.bytes.size : Int) k=true→v.bytes.size≤32000:=fun a k hk e1 e2=>by
  unfold rngP at e1
  unfold allowP inP at e2
  cases q1 : b.free <;> cases q2 : b.ext <;> simp [q1,q2] at e1 e2 <;> omega
 unfold fitS at h
 unfold rightP at hr
 by_cases q : b.kind=4 ∨ b.kind=5 ∨ b.kind=11
 ·rcases q with q | q | q
  ·simp only [q] at h hr
   simp at h hr
   exact ha 0 4000 (by omega) hr.2 h.2
  ·simp only [q] at h hr
   simp at h hr
   exact ha 0 32000 (by omega) hr.2 h.2.2
  ·simp only [q] at h
   simp at h
   omega
 ·rw [if_neg (c:=b.kind=4) (by omega),if_neg (c:=b.kind=5) (by omega),if_neg (c:=b.kind=11) (by omega)] at h
  by_cases q0 : b.kind=0
  ·rw [if_pos q0] at h; exact hh _ _ h
  rw [if_neg q0] at h
  by_cases q0 : b.kind=1
  ·rw [if_pos q0,Bool.and_eq_true] at h; exact hh _ _ h.1
  rw [if_neg q0] at h
  by_cases q0 : b.kind=2
  ·rw [if_pos q0,Bool.and_eq_true] at h; exact hh _ _ h.1
  rw [if_neg q0] at h
  by_cases q0 : b.kind=3
  ·rw [if_pos q0,Bool.and_eq_true] at h; exact hh _ _ h.1
  rw [if_neg q0] at h
  by_cases q0 : b.kind=6
  ·rw [if_pos q0] at h; unfold arcP at h; rw [Bool.and_eq_true] at h; exact hh _ _ h.1
  rw [if_neg q0] at h
  by_cases q0 : b.kind=7
  ·rw [if_pos q0,Bool.and_eq_true] at h; exact hh _ _ h.1
  rw [if_neg q0] at h
  by_cases q0 : b.kind=9
  ·rw [if_pos q0,Bool.and_eq_true] at h; exact hh _ _ h.1
  rw [if_neg q0,Bool.and_eq_true] at h; exact hh _ _ h.1
theorem leaf_one {b : Ty} {v : Val} {f : Ty→Val→Bool} (hr : rightP b=true) (h10 : b.kind ≠ 10) (hp8 : ∀ (i : Nat) x,b.kind=8→v.items[i]? = some x→x.kind=12→x=absV) (h : fitS b v f=true) {i : Nat} {x : Val} (hx : v.items[i]? = some x) (hp : partO b v i x=none) : x.size=1:=by
 have hn : ∀ a c,hasP a c false v=true→False:=fun a c e=>by
  simp only [hasP,Bool.and_eq_true,Bool.false_or,List.isEmpty_iff] at e
  rw [e.2.2] at hx
  simp at hx
 have hs : ∀ a,hasP a false false x=true→x.size=1:=fun a e=>by
  simp only [hasP,Bool.and_eq_true,Bool.false_or,List.isEmpty_iff] at e
  rw [x.size_eq,eqS_size e.2.1,e.2.2]; rfl
 have h8:=kind_of_right hr
 unfold partO at hp
 unfold fitS at h
 by_cases q : b.kind=6
 ·simp only [q] at h
  simp [arcP] at h
  have:=h.2.2.1 x (List.mem_of_getElem? hx)
  unfold arcI at this
  simp only [Bool.and_eq_true] at this
  exact hs _ this.2.1
 by_cases q8 : b.kind=8
 ·rw [if_neg (by omega),if_neg (by omega)] at hp
  by_cases q12 : x.kind=12
  ·rw [hp8 i x q8 hx q12,Val.size_eq]; rfl
  ·rw [if_pos ⟨q8,q12⟩] at hp; cases hp
 by_cases q7 : b.kind=7
 ·rw [if_pos q7] at hp; cases hp
 by_cases q9 : b.kind=9
 ·rw [if_neg q7,if_pos q9] at hp; cases hp
 exfalso
 rcases h8 with (q0 | q0 | q0 | q0 | q0 | q0 | q0 | q0 | q0 | q0 | q0) | q0 <;> first | omega | (simp only [q0] at h; simp at h)
 ·exact hn _ _ h
 ·exact hn _ _ h.1
 ·exact hn _ _ h.1
 ·exact hn _ _ h.1
 ·exact hn _ _ h.1
 ·exact hn _ _ h.1
 ·exact hn _ _ h.1
theorem sizeL_nodes : ∀ {l : List Val},(∀ x ∈ l,x.size≤32001 * x.nodes)→Val.sizeL l≤32001 * (l.map Val.nodes).sum
 | [],_=>Nat.zero_le _
 | x :: l,h=>by
  have h1:=h x (by simp)
  have h2:=sizeL_nodes (l:=l) fun y hy=>h y (by simp [hy])
  simp only [Val.sizeL,List.map_cons,List.sum_cons]
  omega
theorem fit_size {m : Md} {S : List (Ty × Val)} (M : m.fine S) : ∀ (k : Nat) (t : Ty) (v : Val),t.fine m S→fitB m k t v=true→v.size≤32001 * v.nodes
 | 0,_,_,_,h=>by cases h
 | k + 1,t,v,T,h=>by
  obtain ⟨k',b,e,hb⟩:=beh_of h
  obtain ⟨B,hb10⟩:=T.beh M hb
  have h':=h
  unfold fitB at h'
  rw [hb] at h'
  simp only [Bool.and_eq_true,decide_eq_true_eq] at h'
  have hby:=bytes_few (allP_self B.right) h'.2
  obtain ⟨_,_,hsub⟩:=fits_parts m h hb (allP_self B.right)
  have:=sizeL_nodes (l:=v.items) fun x hx=>by
   obtain ⟨i,hi⟩:=List.mem_iff_getElem?.1 hx
   cases hp : partO b v i x with
   | none=>
    have:=leaf_one (allP_self B.right) hb10 (fun i x q8 hx q12=>abs_of M T hb h q8 hx q12) h'.2 hi hp
    have:=nodes_pos x
    omega
   | some t'=>exact fit_size M k t' x (partO_fine B hp) (hsub i x t' hi hp)
  rw [v.size_eq,v.nodes_eq]
  omega
end Go.Proofs.YtflbneepngjglaaGreatDoor
namespace Go.Proofs.YtflbneepngjglaaGreatDoor
open Go Go.Avm
def askE (m : Md) (t : Ty) (v : Val) : Int:=if errC m t=0 then toldP (fairP v && fitB m v.size t v) 1 else errC m t
theorem asked_ok (m : Md) (hm : m.ok) (t : Ty) (hs : t.size≤67108864) (v : Val) (hv : v.size≤67108864) (ws : Nat) (h : Avm.H) : callL cfg ws 38 [m.enc,t.enc,v.enc] h=some (.int .i64 (askE m t v),h):=by
 have hw : t.wid≤67108864:=Nat.le_trans t.wid_le hs
 have e1:=fun ws h=>ctypeC_ok m hm t hs ws h
 have e2:=fun ws h=>fair_ok v hv ws h
 unfold askE
 refine callL_fn rfl rfl ?_
 by_cases q : errC m t=0
 ·obtain ⟨q1,q2⟩:=errC_zero q
  have e3:=fun ws h=>fits_ok m hm (fm_of (errM_zero q1).2) v.size v (Nat.le_refl _) hv t hw (errT_zero q2).2 ws h
  have e4:=fun b ws h=>told_ok b 1 ws h
  rw [q] at e1 ⊢
  simp [Md.enc] at e1 e2 e3
  simp [F38,c38,Md.enc,e1,e2,e3,e4]
 ·simp [Md.enc] at e1
  simp [F38,c38,Md.enc,e1,q]
theorem askE_zero {m : Md} {t : Ty} {v : Val} (h : askE m t v=0) : errC m t=0∧fairP v=true∧fitB m v.size t v=true:=by
 unfold askE at h
 by_cases q : errC m t=0
 ·rw [if_pos q] at h
  refine ⟨q,?_⟩
  cases q2 : (fairP v && fitB m v.size t v)
  ·rw [q2] at h; simp [toldP] at h
  ·simpa using q2
 ·rw [if_neg q] at h; exact absurd h q
def zeroV : Val:=.mk 0 0 ⟨#[]⟩ []
def fuelP (v : Val) : Nat:=67108863 * (67108864 + 2) + v.size
def plainV (m : Md) (t : Ty) (v : Val) : Val:=(plainN m (fuelP v) [] t v).getD zeroV
theorem plainV_eq {m : Md} {S : List (Ty × Val)} (M : m.fine S) (hS : S.length≤67108863) (hSs : ∀ q ∈ S,q.2.size≤67108864) {t : Ty} (T : t.fine m S) (v : Val) : plainN m (fuelP v) [] t v=some (plainV m t v):=by
 obtain ⟨r,hr⟩:=plainN_some M hSs (fuelP v) [] t v T (by
  have h1 : rest S []≤S.length:=List.length_filter_le _ _
  unfold fuelP
  exact Nat.add_le_add_right (Nat.mul_le_mul_right _ (Nat.le_trans h1 hS)) _)
 unfold plainV
 rw [hr]; rfl
def plainE (m : Md) (t : Ty) (v : Val) : Val × Int:=if askE m t v=0 then (plainV m t v,0) else (zeroV,askE m t v)
def fullE (m : Md) (t : Ty) (v : Val) : Val × Int:=if askE m t v=0 then (match fullN m 30 t v 600 with | some q=>(q.1,0) | none=>(zeroV,2)) else (zeroV,askE m t v)
theorem nodes_le_size : ∀ (n : Nat) (v : Val),v.size≤n→v.nodes≤v.size
 | 0,v,h=>by have:=v.size_pos; omega
 | n + 1,v,h=>by
  rw [v.nodes_eq,v.size_eq]
  have : ∀ l : List Val,(∀ x ∈ l,x.nodes≤x.size)→(l.map Val.nodes).sum≤Val.sizeL l:=by
   intro l
   induction l with
   | nil=>intro _; simp [Val.sizeL]
   | cons x l ih=>
    intro hl
    have h1:=hl x (by simp)
    have h2:=ih fun y hy=>hl y (by simp [hy])
    simp only [List.map_cons,List.sum_cons,Val.sizeL]
    omega
  have:=this v.items fun x hx=>nodes_le_size n x (by have:=Val.mem_items hx; omega)
  omega
theorem pplain_ok (m : Md) (hm : m.ok) (t : Ty) (hs : t.size≤67108864) (v : Val) (hv : v.size≤67108864) (ws : Nat) (h : Avm.H) : callL cfg ws 11 [m.enc,t.enc,v.enc] h=some (.tup [(plainE m t v).1.enc,.int .i64 (plainE m t v).2],h):=by
 have e1:=fun ws h=>asked_ok m hm t hs v hv ws h
 unfold plainE
 refine callL_fn rfl rfl ?_
 by_cases q : askE m t v=0
 ·obtain ⟨q1,q2,q3⟩:=askE_zero q
  obtain ⟨M,T,hS,hSs⟩:=fine_of hm hs q1
  have hpl:=plainV_eq M hS hSs T v
  have hr : rest (allS m t) []≤(allS m t).length:=List.length_filter_le _ _
  have e2:=fun ws h'=>plain_ok M hS hSs (fuelP v) [] t v (plainV m t v) hpl T ⟨_,q3⟩ hv (by simp) (by simpa using hr) (.ptr (h.length + 4) 0 3 0 0) (h++([.arr 0 2 [m.enc],.arr 0 8 [t.enc],.arr 0 4 [v.enc],.arr 0 4 [.agg [.int .i64 0,.int .i64 0,.str ⟨#[]⟩,.isl []]],.arr 0 3 [.agg [.str m.name,.isl (m.defs.map Df.enc),.isl []]]]++h')) ⟨h.length + 4,.isl [],rfl,by simp,by simp,.inl rfl⟩ ws
  have e2:=fun ws=>e2 ws []
  have hsz:=plainN_size hpl
  have e3:=fun ws h=>copiedN_ok _ (plainV m t v) (Nat.le_refl _) (by have:=nodes_le_size _ (plainV m t v) (Nat.le_refl _); omega) ws h
  rw [q] at e1 ⊢
  generalize plainV m t v=r at *
  simp at e2 e3
  simp only [Md.enc] at e1 e2
  simp at e1
  simp [F11,c11,Md.enc,e1,e2,e3]
 ·simp only [Md.enc] at e1
  simp at e1
  simp [F11,c11,Md.enc,e1,q,zeroV]
theorem fullN_few {m : Md} {S : List (Ty × Val)} (M : m.fine S) (hSs : ∀ q ∈ S,q.2.size≤67108864) {t : Ty} {v : Val} (T : t.fine m S) (hk : ∃ k,fitB m k t v=true) (hv : v.size≤67108864) {q : Val × Int} {r : Val} {ok : Bool} {l' : Int} (h : fullN m 30 t v 600=some q) (_ : Fills (fullN m 30 t v 600) r ok l') : q.1.nodes≤600:=by
 obtain ⟨_,e1,e2⟩:=fullN_D M hSs 30 t v 600 q T hk hv h
 omega
theorem pfull_ok (m : Md) (hm : m.ok) (t : Ty) (hs : t.size≤67108864) (v : Val) (hv : v.size≤67108864) (ws : Nat) (h : Avm.H) : callL cfg ws 14 [m.enc,t.enc,v.enc] h=some (.tup [(fullE m t v).1.enc,.int .i64 (fullE m t v).2],h):=by
 have e1:=fun ws h=>asked_ok m hm t hs v hv ws h
 unfold fullE
 refine callL_fn rfl rfl ?_
 by_cases q : askE m t v=0
 ·obtain ⟨q1,q2,q3⟩:=askE_zero q
  obtain ⟨M,T,hS,hSs⟩:=fine_of hm hs q1
  obtain ⟨r,ok,l',e2,e3⟩:=full_ok M hSs 30 t v (by omega) T ⟨_,q3⟩ hv 600 (by omega) (by omega) (h.length + 4) 0 h.length (h++([.arr 0 2 [m.enc],.arr 0 8 [t.enc],.arr 0 4 [v.enc],.arr 0 4 [.agg [.int .i64 0,.int .i64 0,.str ⟨#[]⟩,.isl []]],filB m 0 600])) (by simp) (by omega)
  rw [q] at e1 ⊢
  simp only [Md.enc] at e1 e2
  simp at e1
  simp only [filB] at e2
  cases hf : fullN m 30 t v 600 with
  | none=>
   rw [hf] at e3
   unfold Fills at e3
   dsimp only at e3
   subst e3
   simp at e2
   simp [F14,c14,Md.enc,e1,e2,zeroV]
  | some w=>
   have hfew:=fullN_few M hSs T ⟨_,q3⟩ hv hf e3
   rw [hf] at e3
   unfold Fills at e3
   dsimp only at e3
   obtain ⟨rfl,rfl,rfl,h1,h2⟩:=e3
   have e4:=fun ws h=>copiedN_ok _ w.1 (Nat.le_refl _) (by omega) ws h
   simp at e2 e4
   simp [F14,c14,Md.enc,e1,e2,e4]
 ·simp only [Md.enc] at e1
  simp at e1
  simp [F14,c14,Md.enc,e1,q,zeroV]
theorem same_self (v : Val) : v.same v=true:=(Val.same_iff v v).2 rfl
theorem pfits_ok (m : Md) (hm : m.ok) (t : Ty) (hs : t.size≤67108864) (v : Val) (hv : v.size≤67108864) (ws : Nat) (h : Avm.H) : callL cfg ws 18 [m.enc,t.enc,v.enc] h=some (.tup [.bool (ansF m t v),.int .i64 (errC m t)],h):=by
 have hw : t.wid≤67108864:=Nat.le_trans t.wid_le hs
 have e1:=fun ws h=>ctypeC_ok m hm t hs ws h
 have e2:=fun ws h=>fair_ok v hv ws h
 unfold ansF
 refine callL_fn rfl rfl ?_
 by_cases q : errC m t=0
 ·obtain ⟨q1,q2⟩:=errC_zero q
  have e3:=fun ws h=>fits_ok m hm (fm_of (errM_zero q1).2) v.size v (Nat.le_refl _) hv t hw (errT_zero q2).2 ws h
  rw [q] at e1 ⊢
  simp [Md.enc] at e1 e2 e3
  simp [F18,c18,Md.enc,e1,e2,e3]
 ·simp [Md.enc] at e1
  simp [F18,c18,Md.enc,e1,q]
end Go.Proofs.YtflbneepngjglaaGreatDoor
namespace Go.Proofs.YtflbneepngjglaaGreatDoor
open Go Go.Avm
theorem askE_of {m : Md} {t : Ty} {v : Val} (h1 : errC m t=0) (h2 : fairP v=true) (h3 : fitB m v.size t v=true) : askE m t v=0:=by
 unfold askE
 rw [if_pos h1,h2,h3]; rfl
theorem fair_of {v : Val} (h : fairP v=true) : v.nodes≤600∧v.depth≤30:=of_decide_eq_true h
theorem plain_asked {m : Md} (hm : m.ok) {t : Ty} (hs : t.size≤67108864) {v : Val} (h : askE m t v=0) : askE m t (plainV m t v)=0∧plainV m t (plainV m t v)=plainV m t v∧(plainV m t v).size≤v.size:=by
 obtain ⟨q1,q2,q3⟩:=askE_zero h
 obtain ⟨M,T,hS,hSs⟩:=fine_of hm hs q1
 have hp:=plainV_eq M hS hSs T v
 have hp':=plainV_eq M hS hSs T (plainV m t v)
 have hsz:=plainN_size hp
 refine ⟨askE_of q1 ?_ (fitB_size _ _ _ _ (Nat.le_refl _) (plain_fits _ _ _ _ _ _ hp q3)),?_,hsz⟩
 ·have:=plain_few _ _ _ _ _ hp
  have:=fair_of q2
  unfold fairP
  exact decide_eq_true (by omega)
 ·have e1:=plain_again _ _ _ _ _ hp
  have e2:=plainN_le (k:=fuelP v) (by unfold fuelP; exact Nat.add_le_add_left hsz _) hp'
  rw [e1] at e2
  injection e2 with e2
  exact e2.symm
theorem Big.nil {m : Md} {f : Val} : Big m f []:=fun _ h=>by cases h
theorem full_asked {m : Md} (hm : m.ok) {t : Ty} (hs : t.size≤67108864) {v : Val} (hv : v.size≤67108864) (h : askE m t v=0) {q : Val × Int} (hf : fullN m 30 t v 600=some q) : askE m t q.1=0∧q.1.size≤19200600∧q.1.nodes≤600∧plainV m t q.1=plainV m t v∧∃ l,fullN m 30 t (plainV m t v) 600=some (q.1,l):=by
 obtain ⟨q1,q2,q3⟩:=askE_zero h
 obtain ⟨M,T,hS,hSs⟩:=fine_of hm hs q1
 obtain ⟨D,e1,e2⟩:=fullN_D M hSs 30 t v 600 q T ⟨_,q3⟩ hv hf
 have hp:=plainV_eq M hS hSs T v
 have hfit:=full_fits M hSs 30 t v q.1 T ⟨_,q3⟩ hv D
 have hn : q.1.nodes≤600:=by omega
 have hsz : q.1.size≤19200600:=by have:=fit_size M 30 t q.1 T hfit; omega
 have hdep:=FullD_depth M hSs 30 t v q.1 T ⟨_,q3⟩ hv D
 refine ⟨askE_of q1 (by unfold fairP; exact decide_eq_true ⟨hn,hdep⟩) (fitB_size _ _ _ _ (Nat.le_refl _) hfit),hsz,hn,?_,?_⟩
 ·exact plain_eq M hSs 30 t q.1 v q.1 [] [] T ⟨_,hfit⟩ ⟨_,q3⟩ (Nat.le_trans hsz (by omega)) hv (full_again M hSs 30 t v q.1 T ⟨_,q3⟩ hv D) D Big.nil Big.nil _ _ _ _ (plainV_eq M hS hSs T q.1) hp
 ·refine ⟨_,fullN_of M hSs 30 t (plainV m t v) q.1 600 T ⟨_,plain_fits _ _ _ _ _ _ hp q3⟩ (Nat.le_trans (plainN_size hp) hv) ?_ (by omega)⟩
  rw [full_plain _ 30 _ _ _ _ hp]
  exact D
theorem sane4 (ws : Nat) (A B C D : ABlock) : callN cfg 100 ws 16 [] [A,B,C,D]=some (.bool true,[A,B,C,D]):=by kernel_rfl
theorem sane4_ok (ws : Nat) (A B C D : ABlock) : callL cfg ws 16 [] [A,B,C,D]=some (.bool true,[A,B,C,D]):=callN_L 100 _ _ _ _ _ (sane4 ws A B C D)
theorem sane6 (ws : Nat) (A B C D E F : ABlock) : callN cfg 100 ws 16 [] [A,B,C,D,E,F]=some (.bool true,[A,B,C,D,E,F]):=by kernel_rfl
theorem sane6_ok (ws : Nat) (A B C D E F : ABlock) : callL cfg ws 16 [] [A,B,C,D,E,F]=some (.bool true,[A,B,C,D,E,F]):=callN_L 100 _ _ _ _ _ (sane6 ws A B C D E F)
theorem typesPlain_ok (m : Md) (hm : m.ok) (t : Ty) (hs : t.size≤67108864) (v : Val) (hv : v.size≤67108864) : callL cfg 0 4 [m.enc,t.enc,v.enc] []=some (.bool true,[]):=by
 have e1:=fun ws h=>pplain_ok m hm t hs v hv ws h
 refine callL_fn rfl rfl ?_
 unfold plainE at e1
 by_cases q : askE m t v=0
 ·obtain ⟨p1,p2,p3⟩:=plain_asked hm hs q
  have hps : (plainV m t v).size≤67108864:=Nat.le_trans p3 hv
  have hpn:=nodes_le_size _ (plainV m t v) (Nat.le_refl _)
  have e2:=fun ws h=>pplain_ok m hm t hs (plainV m t v) hps ws h
  have e3:=fun ws h=>pfull_ok m hm t hs v hv ws h
  have e7:=fun ws h=>sameN_ok _ (plainV m t v) (plainV m t v) (Nat.le_refl _) (by omega) ws h
  rw [same_self] at e7
  unfold plainE at e2
  unfold fullE at e3
  rw [if_pos q] at e1 e3
  rw [if_pos p1,p2] at e2
  cases hf : fullN m 30 t v 600 with
  | none=>
   rw [hf] at e3
   clear p1 p2 p3 hps hpn
   generalize plainV m t v=p at *
   simp only [Md.enc] at e1 e2 e3
   simp at e1 e2 e3 e7
   simp [F4,c4,Md.enc,e1,e2,e3,e7,sane6_ok]
  | some w=>
   obtain ⟨f1,f2,f3,f4,l,f5⟩:=full_asked hm hs hv q hf
   have hfs : w.1.size≤67108864:=by omega
   have e4:=fun ws h=>pfits_ok m hm t hs w.1 hfs ws h
   have e5:=fun ws h=>pplain_ok m hm t hs w.1 hfs ws h
   have e6:=fun ws h=>pfull_ok m hm t hs (plainV m t v) hps ws h
   have e8:=fun ws h=>sameN_ok _ w.1 w.1 (Nat.le_refl _) (by omega) ws h
   rw [same_self] at e8
   obtain ⟨g1,g2,g3⟩:=askE_zero f1
   have ha : ansF m t w.1=true:=by unfold ansF; rw [g1,g2,g3]; rfl
   rw [ha,g1] at e4
   unfold plainE at e5
   rw [if_pos f1,f4] at e5
   unfold fullE at e6
   rw [if_pos p1,f5] at e6
   rw [hf] at e3
   obtain ⟨f,l'⟩:=w
   dsimp only at *
   clear p1 p2 p3 hps hpn f1 f2 f3 f4 f5 hfs g1 g2 g3 ha hf
   generalize plainV m t v=p at *
   simp only [Md.enc] at e1 e2 e3 e4 e5 e6
   simp at e1 e2 e3 e4 e5 e6 e7 e8
   simp [F4,c4,Md.enc,e1,e2,e3,e4,e5,e6,e7,e8,sane6_ok]
 ·rw [if_neg q] at e1
  simp only [Md.enc] at e1
  simp at e1
  simp [F4,c4,Md.enc,e1,q,sane4_ok]
end Go.Proofs.YtflbneepngjglaaGreatDoor
