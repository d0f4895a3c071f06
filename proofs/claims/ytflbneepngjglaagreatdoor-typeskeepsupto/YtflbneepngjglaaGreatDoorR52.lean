/- TypesKeeps: for every input whose reading holds at most so many values and letters, the law answers true, and what it was given reads as it read before. The conditions are the bound and the two tables of package utf8, which the card ties to the program's text. -/
import Derived.Test.YtflbneepngjglaaGreatDoorR51
import Derived.Test.YtflbneepngjglaaGreatDoorCards
import Derived.Test.YtflbneepngjglaaGreatDoorTie
import Derived.Test.YtflbneepngjglaaGreatDoorR33
set_option linter.all false
namespace Go.Proofs.YtflbneepngjglaaGreatDoor
open Go Go.Avm
set_option maxHeartbeats 4000000 in
theorem keeps_EBPF (m : Md) (hm : m.ok) (t : Ty) (hs : t.size≤67108864) (v : Val) (hv : v.size≤67108864) (hv0 : v.items=[]) (b : Ty) (hB : behQ m t=some b) (p : Val) (hP : plnQ m t v=some p) (f : Val) (hF : fulQ m t v=some f) : callL cfg 0 5 [m.enc,t.enc,v.enc] []=some (.bool true,[]):=by
 have hw : t.wid≤67108864:=Nat.le_trans t.wid_le hs
 have eM:=fun ws h=>copyModule_ok m hm ws h
 have eT:=fun ws h=>copyType_ok _ t (Nat.le_refl _) hw ws h
 have eV:=fun ws h=>copyO_ok _ v (Nat.le_refl _) hv ws h
 have eSM:=fun ws h=>sameModule_ok ty_same_self m hm ws h
 have eST:=fun ws h=>rsameT_ok _ t t (Nat.le_refl _) hw ws h
 have eSV:=fun ws h=>rsameN_ok _ v v (Nat.le_refl _) (by have:=nodes_size _ v (Nat.le_refl _); omega) ws h
 rw [ty_same_self] at eST
 rw [same_self] at eSV
 have eSV2:=fun L ws h hL=>same_to v (by have:=nodes_size _ v (Nat.le_refl _); omega) L ws h hL
 simp only [cpV,cpH,if_pos hv0] at eV
 have hbw:=behQ_wid hm hs hB
 have eB:=fun ws h=>behO_some m hm t hs b hB ws h
 have eCB:=fun L ws h h0 h1=>copyTypeA_ok b hbw L ws h h0 h1
 have eSB:=fun L K ws h h0 h1=>sameT_ot b hbw L K ws h h0 h1
 have eP:=fun ws h=>plnO_some m hm t hs v hv p hP ws h
 have hPl:=(pln_len hm hs hP).1
 have hPn : p.nodes≤67108864:=Nat.le_trans (nodes_size _ p (Nat.le_refl _)) (Nat.le_trans (pln_len hm hs hP).2 hv)
 have eCP:=fun L ws h h0=>copyOA_ok p hPn L ws h h0
 have eSP:=fun L ws h hL=>same_ot p hPn L ws h hL
 have eTP:=fun L K ws h hL hK=>same_oo p hPn L K ws h hL hK
 have hP0 : p.items=[]:=List.eq_nil_of_length_eq_zero (by rw [hPl,hv0]; rfl)
 simp only [cpV,cpH,if_pos hP0] at eCP
 have eF:=fun ws h=>fulO_some m hm t hs v hv f hF ws h
 have hFl:=ful_len hF
 have hFn : f.nodes≤67108864:=Nat.le_trans (ful_few hm hs hv hF) (by omega)
 have eCF:=fun L ws h h0=>copyOA_ok f hFn L ws h h0
 have eSF:=fun L ws h hL=>same_ot f hFn L ws h hL
 have eTF:=fun L K ws h hL hK=>same_oo f hFn L K ws h hL hK
 have hF0 : f.items=[]:=List.eq_nil_of_length_eq_zero (by rw [hFl,hv0]; rfl)
 simp only [cpV,cpH,if_pos hF0] at eCF
 refine callL_fn rfl rfl ?_
 unfold ocV ocB at eP eCP
 unfold ocV ocB at eF eCF
 unfold otV otC otB at eB
 unfold otV otC at eCB
 simp only [Md.enc] at eM eSM eB eP eF
 simp [hv0,hP0,hF0] at eM eT eV eSM eST eSV eSV2 eB eCB eSB eP eCP eSP eTP eF eCF eSF eTF
 have hbl:=b.wid_items
 have l0:=fun a3 a4 a5 a7 a8 a9 a12 a14 a16 a17 a18 HH A hA hP hne=>keeps_l0 a3 a4 a5 a7 a8 a9 a12 a14 a16 a17 a18 HH A 6 [.int .i64 b.kind,.str b.name,.int .i64 b.lo,.int .i64 b.hi,.bool b.free,.bool b.ext] (.osl 7 0 8 0 b.kids.length) b.items rfl hA hP hne (by omega)
 have hFi:=len_less f
 have l1:=fun a3 a4 a5 a7 a8 a9 a10 a14 a16 a17 a18 HH A hA hP hne=>keeps_l1 a3 a4 a5 a7 a8 a9 a10 a14 a16 a17 a18 HH A 9 f.kind f.int f.bytes f.items hA hP hne (by omega)
 have hPi:=len_less p
 have l2:=fun a3 a4 a5 a7 a8 a9 a10 a12 a16 a17 a18 HH A hA hP hne=>keeps_l2 a3 a4 a5 a7 a8 a9 a10 a12 a16 a17 a18 HH A 11 p.kind p.int p.bytes p.items hA hP hne (by omega)
 unfold kEnv at l0 l1 l2
 simp [hP0,hF0] at l0 l1 l2
 simp [F5,c5,Md.enc,hv0,hP0,hF0,eM,eT,eV,eSM,eST,eSV,eSV2,eB,eCB,eSB,eP,eCP,eSP,eTP,eF,eCF,eSF,eTF,l0,l1,l2,saneK20]
set_option maxHeartbeats 4000000 in
theorem keeps_EBP (m : Md) (hm : m.ok) (t : Ty) (hs : t.size≤67108864) (v : Val) (hv : v.size≤67108864) (hv0 : v.items=[]) (b : Ty) (hB : behQ m t=some b) (p : Val) (hP : plnQ m t v=some p) (hF : fulQ m t v=none) : callL cfg 0 5 [m.enc,t.enc,v.enc] []=some (.bool true,[]):=by
 have hw : t.wid≤67108864:=Nat.le_trans t.wid_le hs
 have eM:=fun ws h=>copyModule_ok m hm ws h
 have eT:=fun ws h=>copyType_ok _ t (Nat.le_refl _) hw ws h
 have eV:=fun ws h=>copyO_ok _ v (Nat.le_refl _) hv ws h
 have eSM:=fun ws h=>sameModule_ok ty_same_self m hm ws h
 have eST:=fun ws h=>rsameT_ok _ t t (Nat.le_refl _) hw ws h
 have eSV:=fun ws h=>rsameN_ok _ v v (Nat.le_refl _) (by have:=nodes_size _ v (Nat.le_refl _); omega) ws h
 rw [ty_same_self] at eST
 rw [same_self] at eSV
 have eSV2:=fun L ws h hL=>same_to v (by have:=nodes_size _ v (Nat.le_refl _); omega) L ws h hL
 simp only [cpV,cpH,if_pos hv0] at eV
 have hbw:=behQ_wid hm hs hB
 have eB:=fun ws h=>behO_some m hm t hs b hB ws h
 have eCB:=fun L ws h h0 h1=>copyTypeA_ok b hbw L ws h h0 h1
 have eSB:=fun L K ws h h0 h1=>sameT_ot b hbw L K ws h h0 h1
 have eP:=fun ws h=>plnO_some m hm t hs v hv p hP ws h
 have hPl:=(pln_len hm hs hP).1
 have hPn : p.nodes≤67108864:=Nat.le_trans (nodes_size _ p (Nat.le_refl _)) (Nat.le_trans (pln_len hm hs hP).2 hv)
 have eCP:=fun L ws h h0=>copyOA_ok p hPn L ws h h0
 have eSP:=fun L ws h hL=>same_ot p hPn L ws h hL
 have eTP:=fun L K ws h hL hK=>same_oo p hPn L K ws h hL hK
 have hP0 : p.items=[]:=List.eq_nil_of_length_eq_zero (by rw [hPl,hv0]; rfl)
 simp only [cpV,cpH,if_pos hP0] at eCP
 obtain ⟨yF,eF⟩:=fulO_none m hm t hs v hv hF
 have eCF:=fun ws h=>copyO_ok _ zeroV (Nat.le_refl _) (Nat.le_trans (show _≤1 from zsz) (by omega)) ws h
 have eSF:=fun ws h=>rsameN_ok _ zeroV zeroV (Nat.le_refl _) (Nat.le_trans (show _≤1 from znd) (by omega)) ws h
 rw [same_self] at eSF
 simp only [cpV,cpH,if_pos (show zeroV.items=[] from rfl)] at eCF
 unfold zeroV at eF eCF eSF
 refine callL_fn rfl rfl ?_
 unfold ocV ocB at eP eCP
 unfold otV otC otB at eB
 unfold otV otC at eCB
 simp only [Md.enc] at eM eSM eB eP eF
 simp [hv0,hP0] at eM eT eV eSM eST eSV eSV2 eB eCB eSB eP eCP eSP eTP eF eCF eSF
 have hbl:=b.wid_items
 have l0:=fun a3 a4 a5 a7 a8 a9 a12 a14 a16 a17 a18 HH A hA hP hne=>keeps_l0 a3 a4 a5 a7 a8 a9 a12 a14 a16 a17 a18 HH A 6 [.int .i64 b.kind,.str b.name,.int .i64 b.lo,.int .i64 b.hi,.bool b.free,.bool b.ext] (.osl 7 0 8 0 b.kids.length) b.items rfl hA hP hne (by omega)
 have l1:=keeps_l1z
 have hPi:=len_less p
 have l2:=fun a3 a4 a5 a7 a8 a9 a10 a12 a16 a17 a18 HH A hA hP hne=>keeps_l2 a3 a4 a5 a7 a8 a9 a10 a12 a16 a17 a18 HH A 10 p.kind p.int p.bytes p.items hA hP hne (by omega)
 unfold kEnv at l0 l1 l2
 simp [hP0] at l0 l1 l2
 simp [F5,c5,Md.enc,hv0,hP0,eM,eT,eV,eSM,eST,eSV,eSV2,eB,eCB,eSB,eP,eCP,eSP,eTP,eF,eCF,eSF,l0,l1,l2,saneK18]
set_option maxHeartbeats 4000000 in
theorem keeps_EB (m : Md) (hm : m.ok) (t : Ty) (hs : t.size≤67108864) (v : Val) (hv : v.size≤67108864) (hv0 : v.items=[]) (b : Ty) (hB : behQ m t=some b) (hP : plnQ m t v=none) (hF : fulQ m t v=none) : callL cfg 0 5 [m.enc,t.enc,v.enc] []=some (.bool true,[]):=by
 have hw : t.wid≤67108864:=Nat.le_trans t.wid_le hs
 have eM:=fun ws h=>copyModule_ok m hm ws h
 have eT:=fun ws h=>copyType_ok _ t (Nat.le_refl _) hw ws h
 have eV:=fun ws h=>copyO_ok _ v (Nat.le_refl _) hv ws h
 have eSM:=fun ws h=>sameModule_ok ty_same_self m hm ws h
 have eST:=fun ws h=>rsameT_ok _ t t (Nat.le_refl _) hw ws h
 have eSV:=fun ws h=>rsameN_ok _ v v (Nat.le_refl _) (by have:=nodes_size _ v (Nat.le_refl _); omega) ws h
 rw [ty_same_self] at eST
 rw [same_self] at eSV
 have eSV2:=fun L ws h hL=>same_to v (by have:=nodes_size _ v (Nat.le_refl _); omega) L ws h hL
 simp only [cpV,cpH,if_pos hv0] at eV
 have hbw:=behQ_wid hm hs hB
 have eB:=fun ws h=>behO_some m hm t hs b hB ws h
 have eCB:=fun L ws h h0 h1=>copyTypeA_ok b hbw L ws h h0 h1
 have eSB:=fun L K ws h h0 h1=>sameT_ot b hbw L K ws h h0 h1
 obtain ⟨yP,eP⟩:=plnO_none m hm t hs v hv hP
 have eCP:=fun ws h=>copyO_ok _ zeroV (Nat.le_refl _) (Nat.le_trans (show _≤1 from zsz) (by omega)) ws h
 have eSP:=fun ws h=>rsameN_ok _ zeroV zeroV (Nat.le_refl _) (Nat.le_trans (show _≤1 from znd) (by omega)) ws h
 rw [same_self] at eSP
 simp only [cpV,cpH,if_pos (show zeroV.items=[] from rfl)] at eCP
 unfold zeroV at eP eCP eSP
 obtain ⟨yF,eF⟩:=fulO_none m hm t hs v hv hF
 have eCF:=fun ws h=>copyO_ok _ zeroV (Nat.le_refl _) (Nat.le_trans (show _≤1 from zsz) (by omega)) ws h
 have eSF:=fun ws h=>rsameN_ok _ zeroV zeroV (Nat.le_refl _) (Nat.le_trans (show _≤1 from znd) (by omega)) ws h
 rw [same_self] at eSF
 simp only [cpV,cpH,if_pos (show zeroV.items=[] from rfl)] at eCF
 unfold zeroV at eF eCF eSF
 refine callL_fn rfl rfl ?_
 unfold otV otC otB at eB
 unfold otV otC at eCB
 simp only [Md.enc] at eM eSM eB eP eF
 simp [hv0] at eM eT eV eSM eST eSV eSV2 eB eCB eSB eP eCP eSP eF eCF eSF
 have hbl:=b.wid_items
 have l0:=fun a3 a4 a5 a7 a8 a9 a12 a14 a16 a17 a18 HH A hA hP hne=>keeps_l0 a3 a4 a5 a7 a8 a9 a12 a14 a16 a17 a18 HH A 6 [.int .i64 b.kind,.str b.name,.int .i64 b.lo,.int .i64 b.hi,.bool b.free,.bool b.ext] (.osl 7 0 8 0 b.kids.length) b.items rfl hA hP hne (by omega)
 have l1:=keeps_l1z
 have l2:=keeps_l2z
 unfold kEnv at l0 l1 l2
 simp at l0 l1 l2
 simp [F5,c5,Md.enc,hv0,eM,eT,eV,eSM,eST,eSV,eSV2,eB,eCB,eSB,eP,eCP,eSP,eF,eCF,eSF,l0,l1,l2,saneK16]
set_option maxHeartbeats 4000000 in
theorem keeps_E (m : Md) (hm : m.ok) (t : Ty) (hs : t.size≤67108864) (v : Val) (hv : v.size≤67108864) (hv0 : v.items=[]) (hB : behQ m t=none) (hP : plnQ m t v=none) (hF : fulQ m t v=none) : callL cfg 0 5 [m.enc,t.enc,v.enc] []=some (.bool true,[]):=by
 have hw : t.wid≤67108864:=Nat.le_trans t.wid_le hs
 have eM:=fun ws h=>copyModule_ok m hm ws h
 have eT:=fun ws h=>copyType_ok _ t (Nat.le_refl _) hw ws h
 have eV:=fun ws h=>copyO_ok _ v (Nat.le_refl _) hv ws h
 have eSM:=fun ws h=>sameModule_ok ty_same_self m hm ws h
 have eST:=fun ws h=>rsameT_ok _ t t (Nat.le_refl _) hw ws h
 have eSV:=fun ws h=>rsameN_ok _ v v (Nat.le_refl _) (by have:=nodes_size _ v (Nat.le_refl _); omega) ws h
 rw [ty_same_self] at eST
 rw [same_self] at eSV
 have eSV2:=fun L ws h hL=>same_to v (by have:=nodes_size _ v (Nat.le_refl _); omega) L ws h hL
 simp only [cpV,cpH,if_pos hv0] at eV
 obtain ⟨x1,eB⟩:=behO_none m hm t hs hB
 have hbw:=(zero_fine m []).wid
 have eCB:=fun ws h=>copyType_ok _ Ty.zero (Nat.le_refl _) hbw ws h
 have eSB:=fun ws h=>rsameT_ok _ Ty.zero Ty.zero (Nat.le_refl _) hbw ws h
 rw [ty_same_self] at eSB
 unfold Ty.zero at eB eCB eSB
 obtain ⟨yP,eP⟩:=plnO_none m hm t hs v hv hP
 have eCP:=fun ws h=>copyO_ok _ zeroV (Nat.le_refl _) (Nat.le_trans (show _≤1 from zsz) (by omega)) ws h
 have eSP:=fun ws h=>rsameN_ok _ zeroV zeroV (Nat.le_refl _) (Nat.le_trans (show _≤1 from znd) (by omega)) ws h
 rw [same_self] at eSP
 simp only [cpV,cpH,if_pos (show zeroV.items=[] from rfl)] at eCP
 unfold zeroV at eP eCP eSP
 obtain ⟨yF,eF⟩:=fulO_none m hm t hs v hv hF
 have eCF:=fun ws h=>copyO_ok _ zeroV (Nat.le_refl _) (Nat.le_trans (show _≤1 from zsz) (by omega)) ws h
 have eSF:=fun ws h=>rsameN_ok _ zeroV zeroV (Nat.le_refl _) (Nat.le_trans (show _≤1 from znd) (by omega)) ws h
 rw [same_self] at eSF
 simp only [cpV,cpH,if_pos (show zeroV.items=[] from rfl)] at eCF
 unfold zeroV at eF eCF eSF
 refine callL_fn rfl rfl ?_
 simp only [Md.enc] at eM eSM eB eP eF
 simp [hv0] at eM eT eV eSM eST eSV eSV2 eB eCB eSB eP eCP eSP eF eCF eSF
 have l0:=keeps_l0z
 have l1:=keeps_l1z
 have l2:=keeps_l2z
 unfold kEnv at l0 l1 l2
 simp at l0 l1 l2
 simp [F5,c5,Md.enc,hv0,eM,eT,eV,eSM,eST,eSV,eSV2,eB,eCB,eSB,eP,eCP,eSP,eF,eCF,eSF,l0,l1,l2,saneK12]
end Go.Proofs.YtflbneepngjglaaGreatDoor
namespace Go.Proofs.YtflbneepngjglaaGreatDoor
open Go Go.Avm
theorem typesKeeps_ok (m : Md) (hm : m.ok) (t : Ty) (hs : t.size≤67108864) (v : Val) (hv : v.size≤67108864) : callL cfg 0 5 [m.enc,t.enc,v.enc] []=some (.bool true,[]):=by
 by_cases h0 : v.items=[]
 ·cases hB : behQ m t with
  | none=>exact keeps_E m hm t hs v hv h0 hB (pln_beh hB) (ful_pln (pln_beh hB))
  | some b=>
   cases hP : plnQ m t v with
   | none=>exact keeps_EB m hm t hs v hv h0 b hB hP (ful_pln hP)
   | some p=>
    cases hF : fulQ m t v with
    | none=>exact keeps_EBP m hm t hs v hv h0 b hB p hP hF
    | some f=>exact keeps_EBPF m hm t hs v hv h0 b hB p hP f hF
 ·cases hB : behQ m t with
  | none=>exact keeps_N m hm t hs v hv h0 hB (pln_beh hB) (ful_pln (pln_beh hB))
  | some b=>
   cases hP : plnQ m t v with
   | none=>exact keeps_NB m hm t hs v hv h0 b hB hP (ful_pln hP)
   | some p=>
    cases hF : fulQ m t v with
    | none=>exact keeps_NBP m hm t hs v hv h0 b hB p hP hF
    | some f=>exact keeps_NBPF m hm t hs v hv h0 b hB p hP f hF
end Go.Proofs.YtflbneepngjglaaGreatDoor
namespace Go.Proofs.YtflbneepngjglaaGreatDoor
open Go Go.Avm Go.RowKit Go.ChangeShapes Go.WideShapes Go.ChangeAt
theorem law_ev (xs : List AV) (h : argsTy Tryz.prog Tryz.f5.params.toList xs) (hn : bulkL xs≤1048576) : ∃ h',callL cfg 0 5 xs []=some (.bool true,h'):=by
 have hagM : aggT Tryz.prog 24=true:=by simp [aggT,Tryz.underlying24]
 have hagT : aggT Tryz.prog 28=true:=by simp [aggT,Tryz.underlying28]
 have hagV : aggT Tryz.prog 31=true:=by simp [aggT,Tryz.underlying31]
 rw [Tryz.params5] at h
 obtain ⟨f1,l1,r1,rfl,t1,f2,l2,r2,rfl,t2,f3,l3,r3,rfl,t3,rfl⟩:=h
 rw [hagM,hagT,hagV] at hn ⊢
 simp only [bulkL,ofCells,if_true,AV.bulk] at hn ⊢
 obtain ⟨m,hm,sm⟩:=md_of t1 (by omega)
 obtain ⟨t,ht,st⟩:=ty_of _ _ _ (Nat.le_refl _) t2
 obtain ⟨v,hv,sv⟩:=val_of _ _ _ (Nat.le_refl _) t3
 simp only [AV.bulk] at sv
 rw [hm,hv,ht]
 exact ⟨[],typesKeeps_ok m sm t (by omega) v (by omega)⟩
set_option maxRecDepth 100000 in
theorem contract (H : Type) (enc : TypeId × Value→H) (W : World) (base : Nat) (args : Array Value) (ds gs : List (DataW H)) (before : List MemPlace)
    (hval : ∀ (j : Nat) t v,Tryz.f5.params[j]? = some t→args[j]? = some v→Value.okWide Tryz.prog W .any base t v)
    (hW : DataW.Whole enc Tryz.prog Tryz.f5.params.toList Rows.typesKeepsSpec.vars false W args.toList ds gs before) (hk : Rows.uptoSmall H (ds++gs)=true) (hsh : W.ShapedOpen Tryz.prog) :
    Calls Tryz.prog 5 args W fun e W'=>∃ v,e = .returned v∧Rows.typesKeepsSpec.post enc Tryz.prog Tryz.f5 false true false false W args v W':=by
 have hW':=hW
 obtain ⟨m,hm⟩:=Tryz.layCo.s1_3 W hsh
 obtain ⟨p,q,hA,hV,hps,hfz,hnd⟩:=hW
 obtain ⟨rfl,rfl⟩:=trodVars_none hV
 have hds : ∃ d0 d1 d2,ds=[d0,d1,d2]:=by
  have h:=hA
  rw [Tryz.params5] at h
  obtain ⟨_,_,d0,_,_,_,_,rfl,_,_,r0⟩:=trodAll_cons h
  obtain ⟨_,_,d1,_,_,_,_,rfl,_,_,r1⟩:=trodAll_cons r0
  obtain ⟨_,_,d2,_,_,_,_,rfl,_,_,r2⟩:=trodAll_cons r1
  obtain ⟨_,rfl,_⟩:=trodAll_nil r2
  exact ⟨d0,d1,d2,rfl⟩
 obtain ⟨d0,d1,d2,rfl⟩:=hds
 obtain ⟨N,hN,hb⟩ : ∃ N,N=1048576∧Rows.uptoBulkAll [d0,d1,d2]≤N:=⟨_,rfl,of_decide_eq_true hk⟩
 refine (law_calls (cfg_ok hm) Tryz.func5 (by decide +kernel) rfl (bulkOk H) (n:=N) (fun xs h1 h2=>law_ev xs h1 (hN ▸ h2)) hval hA hb).mono fun e W' ⟨he,hbl⟩=>?_
 exact ⟨_,he,law_post hW' rfl rfl rfl Tryz.underlying4 (by kernel_rfl) (by kernel_rfl) hbl⟩
theorem laid_met (os : Os) : laidMet Tryz.prog Rows.typesKeepsUptoRow.laid ((laidWorld os).forCall (fun _ _=>0) ⟨#[],#[.agg #[.string ⟨#[]⟩,.slice none 0 0],.agg #[.int .i64 0,.string ⟨#[]⟩,.int .i64 0,.int .i64 0,.bool false,.bool false,.slice none 0 0,.slice none 0 0],.agg #[.int .i64 0,.int .i64 0,.string ⟨#[]⟩,.slice none 0 0]],[]⟩).memory:=
 laidMet_of_run' 8 (by kernel_rfl) (by kernel_rfl)
theorem reads (os : Os) {H : Type} (enc : TypeId × Value→H) : ∃ places,DataW.whole enc Tryz.prog ((laidWorld os).forCall (fun _ _=>0) ⟨#[],#[.agg #[.string ⟨#[]⟩,.slice none 0 0],.agg #[.int .i64 0,.string ⟨#[]⟩,.int .i64 0,.int .i64 0,.bool false,.bool false,.slice none 0 0,.slice none 0 0],.agg #[.int .i64 0,.int .i64 0,.string ⟨#[]⟩,.slice none 0 0]],[]⟩).memory Tryz.f5.params.toList Rows.typesKeepsSpec.vars false (#[.agg #[.string ⟨#[]⟩,.slice none 0 0],.agg #[.int .i64 0,.string ⟨#[]⟩,.int .i64 0,.int .i64 0,.bool false,.bool false,.slice none 0 0,.slice none 0 0],.agg #[.int .i64 0,.int .i64 0,.string ⟨#[]⟩,.slice none 0 0]] : Array Value).toList 8=some ([.agg [.lit (.string []),.nil],.agg [.lit (.int .i64 0),.lit (.string []),.lit (.int .i64 0),.lit (.int .i64 0),.lit (.bool false),.lit (.bool false),.nil,.nil],.agg [.lit (.int .i64 0),.lit (.int .i64 0),.lit (.string []),.nil]],[],places):=
 ⟨[],by kernel_rfl⟩
set_option maxRecDepth 100000 in
theorem liftedUpto (os : Os) (started : os.Started) (H : Type) (enc : TypeId × Value→H) (F : Stop.Interp) :
    ReturnsInHanded {} Tryz.checked os 5 .any ((Rows.OpenSpec.upto Rows.typesKeepsSpec).preRow enc Tryz.prog Tryz.f5 Rows.typesKeepsUptoRow.domain false Rows.typesKeepsUptoRow.laid) (((Rows.OpenSpec.upto Rows.typesKeepsSpec).at F).post enc Tryz.prog Tryz.f5 false true false false):=by
 obtain ⟨places,hx⟩:=reads os enc
 refine returnsInHanded_of_row (C:=Tryz.checked) (s:=Rows.OpenSpec.upto Rows.typesKeepsSpec) own started (by kernel_rfl) Tryz.func5
  (witness_row_at (enc:=enc) (C:=Tryz.checked) false (laidWorld os) #[.agg #[.string ⟨#[]⟩,.slice none 0 0],.agg #[.int .i64 0,.string ⟨#[]⟩,.int .i64 0,.int .i64 0,.bool false,.bool false,.slice none 0 0,.slice none 0 0],.agg #[.int .i64 0,.int .i64 0,.string ⟨#[]⟩,.slice none 0 0]] rfl (by kernel_rfl) (by kernel_rfl) (by kernel_rfl)
   (OpenSpec.preRow_of_cond 8 hx (by kernel_rfl) (fun k hk=>by cases hk; kernel_rfl) (by kernel_rfl) (laid_met os))) ?_
 intro W base args ds gs before hval hW _ hcond _ _ hsh _
 exact contract H enc W base args ds gs before hval hW (hcond _ rfl) hsh
theorem saidUpto : Rows.TypesKeepsUptoSaid:=
 OpenClaim.holds_of_cond 5 Tryz.f5 rfl rfl rfl rfl rfl rfl rfl ⟨rfl,rfl,rfl,rfl,rfl⟩ rfl rfl rfl rfl rfl (by kernel_rfl) Tryz.func5 typesKeeps_joined
  (of_decide_eq_true (by kernel_rfl)) (by unfold Func.isWrapper; first | (rw [if_pos (by decide +kernel)]; kernel_rfl) | (rw [if_neg (by decide +kernel)]; exact ⟨rfl,rfl⟩))
  (fun os started H enc _ F=>by rw [OpenClaim.pre_eq_preRow]; exact liftedUpto os started H enc F)
theorem plain (f : FuncId) (fn : Func) (hf : Tryz.pinned.checked.prog.funcNamed "heptad/heptadlaw02.TypesKeeps" = some f) (hfn : Tryz.pinned.checked.prog.funcs[f]? = some fn) :
    false=Tryz.pinned.checked.prog.looks []∧∀ (j : Nat) t,fn.params[j]? = some t→Tryz.pinned.checked.prog.wantsStandIn t=false:=by
 obtain rfl : f=5:=Option.some.inj ((show Tryz.prog.funcNamed "heptad/heptadlaw02.TypesKeeps" = some 5 by kernel_rfl).symm.trans hf) |>.symm
 obtain rfl : fn=Tryz.f5:=(Option.some.inj (Tryz.func5.symm.trans hfn)).symm
 refine ⟨by kernel_rfl,fun j t ht=>?_⟩
 rw [Tryz.params5] at ht
 have hall : ∀ t ∈ (#[24,28,31] : Array TypeId),Tryz.prog.wantsStandIn t=false:=by decide +kernel
 exact hall t (Array.mem_of_getElem? ht)
theorem typesKeeps_holds : Rows.TypesKeepsUptoCardSaid:=
 Claim7.holds_tied_plain_at .later [] _ _ _ _ saidUpto (fun _ h=>by cases h) (by kernel_rfl) (fun _ h=>by cases h) typesKeepsUpto_row_tie rfl ⟨rfl,rfl⟩ (by kernel_rfl) rfl plain (by kernel_rfl)
end Go.Proofs.YtflbneepngjglaaGreatDoor
