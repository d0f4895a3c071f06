/- Whether a value fits a type: the document, the branches. -/
import Derived.Test.YtflbneepngjglaaGreatDoorM40
import Derived.Test.YtflbneepngjglaaGreatDoorM41
set_option linter.all false
namespace Go.Proofs.YtflbneepngjglaaGreatDoor
open Go Go.Avm
theorem root_beh (m : Md) (hm : m.ok) (hl : m.lim) (hf : m.fm) (t : Ty) (ht : t.wid<=1048576) (hn : t.nodes<=600) (ws : Nat) (h : Avm.H) : Qb cfg ws 77 [m.enc,t.enc] h=some (.tup [((beh m 21 t).getD Ty.zero).enc,.bool (beh m 21 t).isSome],h):=by
 rw [root_ok m hm hl t ht hn ws h,beh_eq m hl hf 20 t]
theorem beh_nodes (m : Md) (hl : m.lim) {t b : Ty} (ht : t.nodes<=600) (h : beh m 21 t=some b) : b.nodes<=600:=by
 have h1:=beh_inv m (fun t=>t.nodes<=600) (fun t u hp hs=>by
  unfold stepB at hs
  split at hs
  ·cases hs
  ·rename_i d hd
   have hdm:=List.mem_of_find?_eq_some hd
   split at hs
   ·cases hs
   ·split at hs
    ·cases hs; exact hl d hdm
    ·split at hs
     ·rename_i q; cases hs; exact q
     ·cases hs) 21 t b ht h
 exact h1.1
theorem rchY_36 (m : Md) (b : Ty) (v : Val) (h : Avm.H) (o : Ex × Env × Avm.H) (hk : b.kind=1) (hT : evC (Qb cfg) Qa cfg.pol h.length h.length c139T36 [(3,.ptr h.length 0 2 0 0),(4,.ptr (h.length + 1) 0 8 0 0),(5,.ptr (h.length + 2) 0 4 0 0),(31,.int .i64 b.kind),(36,.bool true)] (h++[.arr 0 2 [m.enc],.arr 0 8 [b.enc],.arr 0 4 [v.enc]])=some o) : evC (Qb cfg) Qa cfg.pol h.length h.length c139E32 [(3,.ptr h.length 0 2 0 0),(4,.ptr (h.length + 1) 0 8 0 0),(5,.ptr (h.length + 2) 0 4 0 0),(31,.int .i64 b.kind),(32,.bool false)] (h++[.arr 0 2 [m.enc],.arr 0 8 [b.enc],.arr 0 4 [v.enc]])=some o:=by
 simp only [hk] at hT ⊢
 simp [c139E32] at hT ⊢
 exact hT
theorem rchN_36 (m : Md) (b : Ty) (v : Val) (h : Avm.H) (o : Ex × Env × Avm.H) (hk : ¬ b.kind=1) (hT : evC (Qb cfg) Qa cfg.pol h.length h.length c139E36 [(3,.ptr h.length 0 2 0 0),(4,.ptr (h.length + 1) 0 8 0 0),(5,.ptr (h.length + 2) 0 4 0 0),(31,.int .i64 b.kind),(36,.bool false)] (h++[.arr 0 2 [m.enc],.arr 0 8 [b.enc],.arr 0 4 [v.enc]])=some o) : evC (Qb cfg) Qa cfg.pol h.length h.length c139E32 [(3,.ptr h.length 0 2 0 0),(4,.ptr (h.length + 1) 0 8 0 0),(5,.ptr (h.length + 2) 0 4 0 0),(31,.int .i64 b.kind),(32,.bool false)] (h++[.arr 0 2 [m.enc],.arr 0 8 [b.enc],.arr 0 4 [v.enc]])=some o:=by
 have hkb : (b.kind == 1)=false:=by simpa using hk
 simp [hk] at hT
 simp [c139E32,hk,hkb]
 exact hT
theorem rchY_50 (m : Md) (b : Ty) (v : Val) (h : Avm.H) (o : Ex × Env × Avm.H) (hk : b.kind=2) (hT : evC (Qb cfg) Qa cfg.pol h.length h.length Xz [(3,.ptr h.length 0 2 0 0),(4,.ptr (h.length + 1) 0 8 0 0),(5,.ptr (h.length + 2) 0 4 0 0),(31,.int .i64 b.kind),(50,.bool true)] (h++[.arr 0 2 [m.enc],.arr 0 8 [b.enc],.arr 0 4 [v.enc]])=some o) : evC (Qb cfg) Qa cfg.pol h.length h.length c139E36 [(3,.ptr h.length 0 2 0 0),(4,.ptr (h.length + 1) 0 8 0 0),(5,.ptr (h.length + 2) 0 4 0 0),(31,.int .i64 b.kind),(36,.bool false)] (h++[.arr 0 2 [m.enc],.arr 0 8 [b.enc],.arr 0 4 [v.enc]])=some o:=by
 simp only [hk] at hT ⊢
 simp [c139E36] at hT ⊢
 exact hT
theorem rchN_50 (m : Md) (b : Ty) (v : Val) (h : Avm.H) (o : Ex × Env × Avm.H) (hk : ¬ b.kind=2) (hT : evC (Qb cfg) Qa cfg.pol h.length h.length c139E50 [(3,.ptr h.length 0 2 0 0),(4,.ptr (h.length + 1) 0 8 0 0),(5,.ptr (h.length + 2) 0 4 0 0),(31,.int .i64 b.kind),(50,.bool false)] (h++[.arr 0 2 [m.enc],.arr 0 8 [b.enc],.arr 0 4 [v.enc]])=some o) : evC (Qb cfg) Qa cfg.pol h.length h.length c139E36 [(3,.ptr h.length 0 2 0 0),(4,.ptr (h.length + 1) 0 8 0 0),(5,.ptr (h.length + 2) 0 4 0 0),(31,.int .i64 b.kind),(36,.bool false)] (h++[.arr 0 2 [m.enc],.arr 0 8 [b.enc],.arr 0 4 [v.enc]])=some o:=by
 have hkb : (b.kind == 2)=false:=by simpa using hk
 simp [hk] at hT
 simp [c139E36,hk,hkb]
 exact hT
theorem rchY_87 (m : Md) (b : Ty) (v : Val) (h : Avm.H) (o : Ex × Env × Avm.H) (hk : b.kind=3) (hT : evC (Qb cfg) Qa cfg.pol h.length h.length c139T87 [(3,.ptr h.length 0 2 0 0),(4,.ptr (h.length + 1) 0 8 0 0),(5,.ptr (h.length + 2) 0 4 0 0),(31,.int .i64 b.kind),(87,.bool true)] (h++[.arr 0 2 [m.enc],.arr 0 8 [b.enc],.arr 0 4 [v.enc]])=some o) : evC (Qb cfg) Qa cfg.pol h.length h.length c139E50 [(3,.ptr h.length 0 2 0 0),(4,.ptr (h.length + 1) 0 8 0 0),(5,.ptr (h.length + 2) 0 4 0 0),(31,.int .i64 b.kind),(50,.bool false)] (h++[.arr 0 2 [m.enc],.arr 0 8 [b.enc],.arr 0 4 [v.enc]])=some o:=by
 simp only [hk] at hT ⊢
 simp [c139E50] at hT ⊢
 exact hT
theorem rchN_87 (m : Md) (b : Ty) (v : Val) (h : Avm.H) (o : Ex × Env × Avm.H) (hk : ¬ b.kind=3) (hT : evC (Qb cfg) Qa cfg.pol h.length h.length c139E87 [(3,.ptr h.length 0 2 0 0),(4,.ptr (h.length + 1) 0 8 0 0),(5,.ptr (h.length + 2) 0 4 0 0),(31,.int .i64 b.kind),(87,.bool false)] (h++[.arr 0 2 [m.enc],.arr 0 8 [b.enc],.arr 0 4 [v.enc]])=some o) : evC (Qb cfg) Qa cfg.pol h.length h.length c139E50 [(3,.ptr h.length 0 2 0 0),(4,.ptr (h.length + 1) 0 8 0 0),(5,.ptr (h.length + 2) 0 4 0 0),(31,.int .i64 b.kind),(50,.bool false)] (h++[.arr 0 2 [m.enc],.arr 0 8 [b.enc],.arr 0 4 [v.enc]])=some o:=by
 have hkb : (b.kind == 3)=false:=by simpa using hk
 simp [hk] at hT
 simp [c139E50,hk,hkb]
 exact hT
theorem rchY_104 (m : Md) (b : Ty) (v : Val) (h : Avm.H) (o : Ex × Env × Avm.H) (hk : b.kind=4) (hT : evC (Qb cfg) Qa cfg.pol h.length h.length c139T104 [(3,.ptr h.length 0 2 0 0),(4,.ptr (h.length + 1) 0 8 0 0),(5,.ptr (h.length + 2) 0 4 0 0),(31,.int .i64 b.kind),(104,.bool true)] (h++[.arr 0 2 [m.enc],.arr 0 8 [b.enc],.arr 0 4 [v.enc]])=some o) : evC (Qb cfg) Qa cfg.pol h.length h.length c139E87 [(3,.ptr h.length 0 2 0 0),(4,.ptr (h.length + 1) 0 8 0 0),(5,.ptr (h.length + 2) 0 4 0 0),(31,.int .i64 b.kind),(87,.bool false)] (h++[.arr 0 2 [m.enc],.arr 0 8 [b.enc],.arr 0 4 [v.enc]])=some o:=by
 simp only [hk] at hT ⊢
 simp [c139E87] at hT ⊢
 exact hT
theorem rchN_104 (m : Md) (b : Ty) (v : Val) (h : Avm.H) (o : Ex × Env × Avm.H) (hk : ¬ b.kind=4) (hT : evC (Qb cfg) Qa cfg.pol h.length h.length c139E104 [(3,.ptr h.length 0 2 0 0),(4,.ptr (h.length + 1) 0 8 0 0),(5,.ptr (h.length + 2) 0 4 0 0),(31,.int .i64 b.kind),(104,.bool false)] (h++[.arr 0 2 [m.enc],.arr 0 8 [b.enc],.arr 0 4 [v.enc]])=some o) : evC (Qb cfg) Qa cfg.pol h.length h.length c139E87 [(3,.ptr h.length 0 2 0 0),(4,.ptr (h.length + 1) 0 8 0 0),(5,.ptr (h.length + 2) 0 4 0 0),(31,.int .i64 b.kind),(87,.bool false)] (h++[.arr 0 2 [m.enc],.arr 0 8 [b.enc],.arr 0 4 [v.enc]])=some o:=by
 have hkb : (b.kind == 4)=false:=by simpa using hk
 simp [hk] at hT
 simp [c139E87,hk,hkb]
 exact hT
theorem rchY_115 (m : Md) (b : Ty) (v : Val) (h : Avm.H) (o : Ex × Env × Avm.H) (hk : b.kind=5) (hT : evC (Qb cfg) Qa cfg.pol h.length h.length c139T115 [(3,.ptr h.length 0 2 0 0),(4,.ptr (h.length + 1) 0 8 0 0),(5,.ptr (h.length + 2) 0 4 0 0),(31,.int .i64 b.kind),(115,.bool true)] (h++[.arr 0 2 [m.enc],.arr 0 8 [b.enc],.arr 0 4 [v.enc]])=some o) : evC (Qb cfg) Qa cfg.pol h.length h.length c139E104 [(3,.ptr h.length 0 2 0 0),(4,.ptr (h.length + 1) 0 8 0 0),(5,.ptr (h.length + 2) 0 4 0 0),(31,.int .i64 b.kind),(104,.bool false)] (h++[.arr 0 2 [m.enc],.arr 0 8 [b.enc],.arr 0 4 [v.enc]])=some o:=by
 simp only [hk] at hT ⊢
 simp [c139E104] at hT ⊢
 exact hT
theorem rchN_115 (m : Md) (b : Ty) (v : Val) (h : Avm.H) (o : Ex × Env × Avm.H) (hk : ¬ b.kind=5) (hT : evC (Qb cfg) Qa cfg.pol h.length h.length c139E115 [(3,.ptr h.length 0 2 0 0),(4,.ptr (h.length + 1) 0 8 0 0),(5,.ptr (h.length + 2) 0 4 0 0),(31,.int .i64 b.kind),(115,.bool false)] (h++[.arr 0 2 [m.enc],.arr 0 8 [b.enc],.arr 0 4 [v.enc]])=some o) : evC (Qb cfg) Qa cfg.pol h.length h.length c139E104 [(3,.ptr h.length 0 2 0 0),(4,.ptr (h.length + 1) 0 8 0 0),(5,.ptr (h.length + 2) 0 4 0 0),(31,.int .i64 b.kind),(104,.bool false)] (h++[.arr 0 2 [m.enc],.arr 0 8 [b.enc],.arr 0 4 [v.enc]])=some o:=by
 have hkb : (b.kind == 5)=false:=by simpa using hk
 simp [hk] at hT
 simp [c139E104,hk,hkb]
 exact hT
theorem rchY_131 (m : Md) (b : Ty) (v : Val) (h : Avm.H) (o : Ex × Env × Avm.H) (hk : b.kind=11) (hT : evC (Qb cfg) Qa cfg.pol h.length h.length c139T131 [(3,.ptr h.length 0 2 0 0),(4,.ptr (h.length + 1) 0 8 0 0),(5,.ptr (h.length + 2) 0 4 0 0),(31,.int .i64 b.kind),(131,.bool true)] (h++[.arr 0 2 [m.enc],.arr 0 8 [b.enc],.arr 0 4 [v.enc]])=some o) : evC (Qb cfg) Qa cfg.pol h.length h.length c139E115 [(3,.ptr h.length 0 2 0 0),(4,.ptr (h.length + 1) 0 8 0 0),(5,.ptr (h.length + 2) 0 4 0 0),(31,.int .i64 b.kind),(115,.bool false)] (h++[.arr 0 2 [m.enc],.arr 0 8 [b.enc],.arr 0 4 [v.enc]])=some o:=by
 simp only [hk] at hT ⊢
 simp [c139E115] at hT ⊢
 exact hT
theorem rchN_131 (m : Md) (b : Ty) (v : Val) (h : Avm.H) (o : Ex × Env × Avm.H) (hk : ¬ b.kind=11) (hT : evC (Qb cfg) Qa cfg.pol h.length h.length c139E131 [(3,.ptr h.length 0 2 0 0),(4,.ptr (h.length + 1) 0 8 0 0),(5,.ptr (h.length + 2) 0 4 0 0),(31,.int .i64 b.kind),(131,.bool false)] (h++[.arr 0 2 [m.enc],.arr 0 8 [b.enc],.arr 0 4 [v.enc]])=some o) : evC (Qb cfg) Qa cfg.pol h.length h.length c139E115 [(3,.ptr h.length 0 2 0 0),(4,.ptr (h.length + 1) 0 8 0 0),(5,.ptr (h.length + 2) 0 4 0 0),(31,.int .i64 b.kind),(115,.bool false)] (h++[.arr 0 2 [m.enc],.arr 0 8 [b.enc],.arr 0 4 [v.enc]])=some o:=by
 have hkb : (b.kind == 11)=false:=by simpa using hk
 simp [hk] at hT
 simp [c139E115,hk,hkb]
 exact hT
theorem rchY_141 (m : Md) (b : Ty) (v : Val) (h : Avm.H) (o : Ex × Env × Avm.H) (hk : b.kind=6) (hT : evC (Qb cfg) Qa cfg.pol h.length h.length c139T141 [(3,.ptr h.length 0 2 0 0),(4,.ptr (h.length + 1) 0 8 0 0),(5,.ptr (h.length + 2) 0 4 0 0),(31,.int .i64 b.kind),(141,.bool true)] (h++[.arr 0 2 [m.enc],.arr 0 8 [b.enc],.arr 0 4 [v.enc]])=some o) : evC (Qb cfg) Qa cfg.pol h.length h.length c139E131 [(3,.ptr h.length 0 2 0 0),(4,.ptr (h.length + 1) 0 8 0 0),(5,.ptr (h.length + 2) 0 4 0 0),(31,.int .i64 b.kind),(131,.bool false)] (h++[.arr 0 2 [m.enc],.arr 0 8 [b.enc],.arr 0 4 [v.enc]])=some o:=by
 simp only [hk] at hT ⊢
 simp [c139E131] at hT ⊢
 exact hT
theorem rchN_141 (m : Md) (b : Ty) (v : Val) (h : Avm.H) (o : Ex × Env × Avm.H) (hk : ¬ b.kind=6) (hT : evC (Qb cfg) Qa cfg.pol h.length h.length c139E141 [(3,.ptr h.length 0 2 0 0),(4,.ptr (h.length + 1) 0 8 0 0),(5,.ptr (h.length + 2) 0 4 0 0),(31,.int .i64 b.kind),(141,.bool false)] (h++[.arr 0 2 [m.enc],.arr 0 8 [b.enc],.arr 0 4 [v.enc]])=some o) : evC (Qb cfg) Qa cfg.pol h.length h.length c139E131 [(3,.ptr h.length 0 2 0 0),(4,.ptr (h.length + 1) 0 8 0 0),(5,.ptr (h.length + 2) 0 4 0 0),(31,.int .i64 b.kind),(131,.bool false)] (h++[.arr 0 2 [m.enc],.arr 0 8 [b.enc],.arr 0 4 [v.enc]])=some o:=by
 have hkb : (b.kind == 6)=false:=by simpa using hk
 simp [hk] at hT
 simp [c139E131,hk,hkb]
 exact hT
theorem rchY_181 (m : Md) (b : Ty) (v : Val) (h : Avm.H) (o : Ex × Env × Avm.H) (hk : b.kind=7) (hT : evC (Qb cfg) Qa cfg.pol h.length h.length c139T181 [(3,.ptr h.length 0 2 0 0),(4,.ptr (h.length + 1) 0 8 0 0),(5,.ptr (h.length + 2) 0 4 0 0),(31,.int .i64 b.kind),(181,.bool true)] (h++[.arr 0 2 [m.enc],.arr 0 8 [b.enc],.arr 0 4 [v.enc]])=some o) : evC (Qb cfg) Qa cfg.pol h.length h.length c139E141 [(3,.ptr h.length 0 2 0 0),(4,.ptr (h.length + 1) 0 8 0 0),(5,.ptr (h.length + 2) 0 4 0 0),(31,.int .i64 b.kind),(141,.bool false)] (h++[.arr 0 2 [m.enc],.arr 0 8 [b.enc],.arr 0 4 [v.enc]])=some o:=by
 simp only [hk] at hT ⊢
 simp [c139E141] at hT ⊢
 exact hT
theorem rchN_181 (m : Md) (b : Ty) (v : Val) (h : Avm.H) (o : Ex × Env × Avm.H) (hk : ¬ b.kind=7) (hT : evC (Qb cfg) Qa cfg.pol h.length h.length c139E181 [(3,.ptr h.length 0 2 0 0),(4,.ptr (h.length + 1) 0 8 0 0),(5,.ptr (h.length + 2) 0 4 0 0),(31,.int .i64 b.kind),(181,.bool false)] (h++[.arr 0 2 [m.enc],.arr 0 8 [b.enc],.arr 0 4 [v.enc]])=some o) : evC (Qb cfg) Qa cfg.pol h.length h.length c139E141 [(3,.ptr h.length 0 2 0 0),(4,.ptr (h.length + 1) 0 8 0 0),(5,.ptr (h.length + 2) 0 4 0 0),(31,.int .i64 b.kind),(141,.bool false)] (h++[.arr 0 2 [m.enc],.arr 0 8 [b.enc],.arr 0 4 [v.enc]])=some o:=by
 have hkb : (b.kind == 7)=false:=by simpa using hk
 simp [hk] at hT
 simp [c139E141,hk,hkb]
 exact hT
theorem rchY_213 (m : Md) (b : Ty) (v : Val) (h : Avm.H) (o : Ex × Env × Avm.H) (hk : b.kind=9) (hT : evC (Qb cfg) Qa cfg.pol h.length h.length c139T213 [(3,.ptr h.length 0 2 0 0),(4,.ptr (h.length + 1) 0 8 0 0),(5,.ptr (h.length + 2) 0 4 0 0),(213,.bool true)] (h++[.arr 0 2 [m.enc],.arr 0 8 [b.enc],.arr 0 4 [v.enc]])=some o) : evC (Qb cfg) Qa cfg.pol h.length h.length c139E181 [(3,.ptr h.length 0 2 0 0),(4,.ptr (h.length + 1) 0 8 0 0),(5,.ptr (h.length + 2) 0 4 0 0),(31,.int .i64 b.kind),(181,.bool false)] (h++[.arr 0 2 [m.enc],.arr 0 8 [b.enc],.arr 0 4 [v.enc]])=some o:=by
 simp only [hk] at hT ⊢
 simp [c139E181] at hT ⊢
 exact hT
theorem rchN_213 (m : Md) (b : Ty) (v : Val) (h : Avm.H) (o : Ex × Env × Avm.H) (hk : ¬ b.kind=9) (hT : evC (Qb cfg) Qa cfg.pol h.length h.length .skip [(3,.ptr h.length 0 2 0 0),(4,.ptr (h.length + 1) 0 8 0 0),(5,.ptr (h.length + 2) 0 4 0 0),(213,.bool false)] (h++[.arr 0 2 [m.enc],.arr 0 8 [b.enc],.arr 0 4 [v.enc]])=some o) : evC (Qb cfg) Qa cfg.pol h.length h.length c139E181 [(3,.ptr h.length 0 2 0 0),(4,.ptr (h.length + 1) 0 8 0 0),(5,.ptr (h.length + 2) 0 4 0 0),(31,.int .i64 b.kind),(181,.bool false)] (h++[.arr 0 2 [m.enc],.arr 0 8 [b.enc],.arr 0 4 [v.enc]])=some o:=by
 have hkb : (b.kind == 9)=false:=by simpa using hk
 simp [hk] at hT
 simp [c139E181,hk,hkb]
 exact hT
theorem rfits_top0 (m : Md) (hm : m.ok) (hl : m.lim) (hf : m.fm) (t : Ty) (ht : t.wid<=1048576) (hn : t.nodes<=600) (v : Val) (b : Ty) (hb : beh m 21 t=some b) (hvk : v.kind=b.kind) (hk : b.kind=0) (ws : Nat) (h : Avm.H) (r : Bool) (g : Avm.H) (hT : evC (Qb cfg) Qa cfg.pol h.length h.length c139T32 [(3,.ptr h.length 0 2 0 0),(4,.ptr (h.length + 1) 0 8 0 0),(5,.ptr (h.length + 2) 0 4 0 0),(31,.int .i64 b.kind),(32,.bool true)] (h++[.arr 0 2 [m.enc],.arr 0 8 [b.enc],.arr 0 4 [v.enc]])=some (.ret,[(6,.bool r)],h++([.arr 0 2 [m.enc],.arr 0 8 [b.enc],.arr 0 4 [v.enc]]++g))) : Qb cfg ws 139 [m.enc,t.enc,v.enc] h=some (.bool r,h):=by
 rw [hk] at hvk
 have hbe:=fun ws h=>root_beh m hm hl hf t ht hn ws h
 rw [hb] at hbe
 simp [Md.enc,Ty.zero,hk,hvk] at hbe hT
 refine Qc rfl rfl ?_
 simp [F139,c139,Md.enc,hbe,hk,hvk,hT]
theorem rfits_top1 (m : Md) (hm : m.ok) (hl : m.lim) (hf : m.fm) (t : Ty) (ht : t.wid<=1048576) (hn : t.nodes<=600) (v : Val) (b : Ty) (hb : beh m 21 t=some b) (hvk : v.kind=b.kind) (hk : ¬ b.kind=0) (ws : Nat) (h : Avm.H) (r : Bool) (g : Avm.H) (hT : evC (Qb cfg) Qa cfg.pol h.length h.length c139E32 [(3,.ptr h.length 0 2 0 0),(4,.ptr (h.length + 1) 0 8 0 0),(5,.ptr (h.length + 2) 0 4 0 0),(31,.int .i64 b.kind),(32,.bool false)] (h++[.arr 0 2 [m.enc],.arr 0 8 [b.enc],.arr 0 4 [v.enc]])=some (.ret,[(6,.bool r)],h++([.arr 0 2 [m.enc],.arr 0 8 [b.enc],.arr 0 4 [v.enc]]++g))) : Qb cfg ws 139 [m.enc,t.enc,v.enc] h=some (.bool r,h):=by
 have hkb : (b.kind == 0)=false:=by simpa using hk
 have hbe:=fun ws h=>root_beh m hm hl hf t ht hn ws h
 rw [hb] at hbe
 simp [Md.enc,Ty.zero,hvk] at hbe hT
 refine Qc rfl rfl ?_
 simp [F139,c139,Md.enc,hbe,hk,hkb,hvk,hT]
theorem rfits_top8 (m : Md) (hm : m.ok) (hl : m.lim) (hf : m.fm) (t : Ty) (ht : t.wid<=1048576) (hn : t.nodes<=600) (v : Val) (b : Ty) (hb : beh m 21 t=some b) (hvk : v.kind=b.kind) (hk : ¬ b.kind=0) (ws : Nat) (h : Avm.H) (r : Bool) (g : Avm.H) (hE : evC (Qb cfg) Qa cfg.pol h.length h.length c139E32 [(3,.ptr h.length 0 2 0 0),(4,.ptr (h.length + 1) 0 8 0 0),(5,.ptr (h.length + 2) 0 4 0 0),(31,.int .i64 b.kind),(32,.bool false)] (h++[.arr 0 2 [m.enc],.arr 0 8 [b.enc],.arr 0 4 [v.enc]])=some (.normal,[(3,.ptr h.length 0 2 0 0),(4,.ptr (h.length + 1) 0 8 0 0),(5,.ptr (h.length + 2) 0 4 0 0),(213,.bool false)],(h++[.arr 0 2 [m.enc],.arr 0 8 [b.enc],.arr 0 4 [v.enc]])))
    (hT : evC (Qb cfg) Qa cfg.pol h.length h.length c139S24 [(3,.ptr h.length 0 2 0 0),(4,.ptr (h.length + 1) 0 8 0 0),(5,.ptr (h.length + 2) 0 4 0 0)] (h++[.arr 0 2 [m.enc],.arr 0 8 [b.enc],.arr 0 4 [v.enc]])=some (.ret,[(6,.bool r)],h++([.arr 0 2 [m.enc],.arr 0 8 [b.enc],.arr 0 4 [v.enc]]++g))) : Qb cfg ws 139 [m.enc,t.enc,v.enc] h=some (.bool r,h):=by
 have hkb : (b.kind == 0)=false:=by simpa using hk
 have hbe:=fun ws h=>root_beh m hm hl hf t ht hn ws h
 rw [hb] at hbe
 simp [Md.enc,Ty.zero,hvk] at hbe hE hT
 refine Qc rfl rfl ?_
 simp [F139,c139,Md.enc,hbe,hk,hkb,hvk,hE,hT]
theorem rfits_head_0 (m : Md) (hm : m.ok) (hl : m.lim) (hf : m.fm) (t : Ty) (ht : t.wid<=1048576) (hn : t.nodes<=600) (v : Val) (b : Ty) (hb : beh m 21 t=some b) (hvk : v.kind=b.kind) (hk : b.kind=0) (ws : Nat) (h : Avm.H) (r : Bool) (g : Avm.H) (hT : evC (Qb cfg) Qa cfg.pol h.length h.length c139T32 [(3,.ptr h.length 0 2 0 0),(4,.ptr (h.length + 1) 0 8 0 0),(5,.ptr (h.length + 2) 0 4 0 0),(31,.int .i64 b.kind),(32,.bool true)] (h++[.arr 0 2 [m.enc],.arr 0 8 [b.enc],.arr 0 4 [v.enc]])=some (.ret,[(6,.bool r)],h++([.arr 0 2 [m.enc],.arr 0 8 [b.enc],.arr 0 4 [v.enc]]++g))) : Qb cfg ws 139 [m.enc,t.enc,v.enc] h=some (.bool r,h):=by
 exact rfits_top0 m hm hl hf t ht hn v b hb hvk hk ws h r g hT
theorem rfits_head_1 (m : Md) (hm : m.ok) (hl : m.lim) (hf : m.fm) (t : Ty) (ht : t.wid<=1048576) (hn : t.nodes<=600) (v : Val) (b : Ty) (hb : beh m 21 t=some b) (hvk : v.kind=b.kind) (hk : b.kind=1) (ws : Nat) (h : Avm.H) (r : Bool) (g : Avm.H) (hT : evC (Qb cfg) Qa cfg.pol h.length h.length c139T36 [(3,.ptr h.length 0 2 0 0),(4,.ptr (h.length + 1) 0 8 0 0),(5,.ptr (h.length + 2) 0 4 0 0),(31,.int .i64 b.kind),(36,.bool true)] (h++[.arr 0 2 [m.enc],.arr 0 8 [b.enc],.arr 0 4 [v.enc]])=some (.ret,[(6,.bool r)],h++([.arr 0 2 [m.enc],.arr 0 8 [b.enc],.arr 0 4 [v.enc]]++g))) : Qb cfg ws 139 [m.enc,t.enc,v.enc] h=some (.bool r,h):=by
 have n0 : ¬ b.kind=0:=by omega
 refine rfits_top1 m hm hl hf t ht hn v b hb hvk n0 ws h r g ?_
 exact rchY_36 m b v h _ hk hT
theorem rfits_head_2 (m : Md) (hm : m.ok) (hl : m.lim) (hf : m.fm) (t : Ty) (ht : t.wid<=1048576) (hn : t.nodes<=600) (v : Val) (b : Ty) (hb : beh m 21 t=some b) (hvk : v.kind=b.kind) (hk : b.kind=2) (ws : Nat) (h : Avm.H) (r : Bool) (g : Avm.H) (hT : evC (Qb cfg) Qa cfg.pol h.length h.length Xz [(3,.ptr h.length 0 2 0 0),(4,.ptr (h.length + 1) 0 8 0 0),(5,.ptr (h.length + 2) 0 4 0 0),(31,.int .i64 b.kind),(50,.bool true)] (h++[.arr 0 2 [m.enc],.arr 0 8 [b.enc],.arr 0 4 [v.enc]])=some (.ret,[(6,.bool r)],h++([.arr 0 2 [m.enc],.arr 0 8 [b.enc],.arr 0 4 [v.enc]]++g))) : Qb cfg ws 139 [m.enc,t.enc,v.enc] h=some (.bool r,h):=by
 have n0 : ¬ b.kind=0:=by omega
 refine rfits_top1 m hm hl hf t ht hn v b hb hvk n0 ws h r g ?_
 refine rchN_36 m b v h _ (by omega) ?_
 exact rchY_50 m b v h _ hk hT
theorem rfits_head_3 (m : Md) (hm : m.ok) (hl : m.lim) (hf : m.fm) (t : Ty) (ht : t.wid<=1048576) (hn : t.nodes<=600) (v : Val) (b : Ty) (hb : beh m 21 t=some b) (hvk : v.kind=b.kind) (hk : b.kind=3) (ws : Nat) (h : Avm.H) (r : Bool) (g : Avm.H) (hT : evC (Qb cfg) Qa cfg.pol h.length h.length c139T87 [(3,.ptr h.length 0 2 0 0),(4,.ptr (h.length + 1) 0 8 0 0),(5,.ptr (h.length + 2) 0 4 0 0),(31,.int .i64 b.kind),(87,.bool true)] (h++[.arr 0 2 [m.enc],.arr 0 8 [b.enc],.arr 0 4 [v.enc]])=some (.ret,[(6,.bool r)],h++([.arr 0 2 [m.enc],.arr 0 8 [b.enc],.arr 0 4 [v.enc]]++g))) : Qb cfg ws 139 [m.enc,t.enc,v.enc] h=some (.bool r,h):=by
 have n0 : ¬ b.kind=0:=by omega
 refine rfits_top1 m hm hl hf t ht hn v b hb hvk n0 ws h r g ?_
 refine rchN_36 m b v h _ (by omega) ?_
 refine rchN_50 m b v h _ (by omega) ?_
 exact rchY_87 m b v h _ hk hT
theorem rfits_head_4 (m : Md) (hm : m.ok) (hl : m.lim) (hf : m.fm) (t : Ty) (ht : t.wid<=1048576) (hn : t.nodes<=600) (v : Val) (b : Ty) (hb : beh m 21 t=some b) (hvk : v.kind=b.kind) (hk : b.kind=4) (ws : Nat) (h : Avm.H) (r : Bool) (g : Avm.H) (hT : evC (Qb cfg) Qa cfg.pol h.length h.length c139T104 [(3,.ptr h.length 0 2 0 0),(4,.ptr (h.length + 1) 0 8 0 0),(5,.ptr (h.length + 2) 0 4 0 0),(31,.int .i64 b.kind),(104,.bool true)] (h++[.arr 0 2 [m.enc],.arr 0 8 [b.enc],.arr 0 4 [v.enc]])=some (.ret,[(6,.bool r)],h++([.arr 0 2 [m.enc],.arr 0 8 [b.enc],.arr 0 4 [v.enc]]++g))) : Qb cfg ws 139 [m.enc,t.enc,v.enc] h=some (.bool r,h):=by
 have n0 : ¬ b.kind=0:=by omega
 refine rfits_top1 m hm hl hf t ht hn v b hb hvk n0 ws h r g ?_
 refine rchN_36 m b v h _ (by omega) ?_
 refine rchN_50 m b v h _ (by omega) ?_
 refine rchN_87 m b v h _ (by omega) ?_
 exact rchY_104 m b v h _ hk hT
theorem rfits_head_5 (m : Md) (hm : m.ok) (hl : m.lim) (hf : m.fm) (t : Ty) (ht : t.wid<=1048576) (hn : t.nodes<=600) (v : Val) (b : Ty) (hb : beh m 21 t=some b) (hvk : v.kind=b.kind) (hk : b.kind=5) (ws : Nat) (h : Avm.H) (r : Bool) (g : Avm.H) (hT : evC (Qb cfg) Qa cfg.pol h.length h.length c139T115 [(3,.ptr h.length 0 2 0 0),(4,.ptr (h.length + 1) 0 8 0 0),(5,.ptr (h.length + 2) 0 4 0 0),(31,.int .i64 b.kind),(115,.bool true)] (h++[.arr 0 2 [m.enc],.arr 0 8 [b.enc],.arr 0 4 [v.enc]])=some (.ret,[(6,.bool r)],h++([.arr 0 2 [m.enc],.arr 0 8 [b.enc],.arr 0 4 [v.enc]]++g))) : Qb cfg ws 139 [m.enc,t.enc,v.enc] h=some (.bool r,h):=by
 have n0 : ¬ b.kind=0:=by omega
 refine rfits_top1 m hm hl hf t ht hn v b hb hvk n0 ws h r g ?_
 refine rchN_36 m b v h _ (by omega) ?_
 refine rchN_50 m b v h _ (by omega) ?_
 refine rchN_87 m b v h _ (by omega) ?_
 refine rchN_104 m b v h _ (by omega) ?_
 exact rchY_115 m b v h _ hk hT
theorem rfits_head_6 (m : Md) (hm : m.ok) (hl : m.lim) (hf : m.fm) (t : Ty) (ht : t.wid<=1048576) (hn : t.nodes<=600) (v : Val) (b : Ty) (hb : beh m 21 t=some b) (hvk : v.kind=b.kind) (hk : b.kind=6) (ws : Nat) (h : Avm.H) (r : Bool) (g : Avm.H) (hT : evC (Qb cfg) Qa cfg.pol h.length h.length c139T141 [(3,.ptr h.length 0 2 0 0),(4,.ptr (h.length + 1) 0 8 0 0),(5,.ptr (h.length + 2) 0 4 0 0),(31,.int .i64 b.kind),(141,.bool true)] (h++[.arr 0 2 [m.enc],.arr 0 8 [b.enc],.arr 0 4 [v.enc]])=some (.ret,[(6,.bool r)],h++([.arr 0 2 [m.enc],.arr 0 8 [b.enc],.arr 0 4 [v.enc]]++g))) : Qb cfg ws 139 [m.enc,t.enc,v.enc] h=some (.bool r,h):=by
 have n0 : ¬ b.kind=0:=by omega
 refine rfits_top1 m hm hl hf t ht hn v b hb hvk n0 ws h r g ?_
 refine rchN_36 m b v h _ (by omega) ?_
 refine rchN_50 m b v h _ (by omega) ?_
 refine rchN_87 m b v h _ (by omega) ?_
 refine rchN_104 m b v h _ (by omega) ?_
 refine rchN_115 m b v h _ (by omega) ?_
 refine rchN_131 m b v h _ (by omega) ?_
 exact rchY_141 m b v h _ hk hT
theorem rfits_head_11 (m : Md) (hm : m.ok) (hl : m.lim) (hf : m.fm) (t : Ty) (ht : t.wid<=1048576) (hn : t.nodes<=600) (v : Val) (b : Ty) (hb : beh m 21 t=some b) (hvk : v.kind=b.kind) (hk : b.kind=11) (ws : Nat) (h : Avm.H) (r : Bool) (g : Avm.H) (hT : evC (Qb cfg) Qa cfg.pol h.length h.length c139T131 [(3,.ptr h.length 0 2 0 0),(4,.ptr (h.length + 1) 0 8 0 0),(5,.ptr (h.length + 2) 0 4 0 0),(31,.int .i64 b.kind),(131,.bool true)] (h++[.arr 0 2 [m.enc],.arr 0 8 [b.enc],.arr 0 4 [v.enc]])=some (.ret,[(6,.bool r)],h++([.arr 0 2 [m.enc],.arr 0 8 [b.enc],.arr 0 4 [v.enc]]++g))) : Qb cfg ws 139 [m.enc,t.enc,v.enc] h=some (.bool r,h):=by
 have n0 : ¬ b.kind=0:=by omega
 refine rfits_top1 m hm hl hf t ht hn v b hb hvk n0 ws h r g ?_
 refine rchN_36 m b v h _ (by omega) ?_
 refine rchN_50 m b v h _ (by omega) ?_
 refine rchN_87 m b v h _ (by omega) ?_
 refine rchN_104 m b v h _ (by omega) ?_
 refine rchN_115 m b v h _ (by omega) ?_
 exact rchY_131 m b v h _ hk hT
theorem rfits_head_7 (m : Md) (hm : m.ok) (hl : m.lim) (hf : m.fm) (t : Ty) (ht : t.wid<=1048576) (hn : t.nodes<=600) (v : Val) (b : Ty) (hb : beh m 21 t=some b) (hvk : v.kind=b.kind) (hk : b.kind=7) (ws : Nat) (h : Avm.H) (r : Bool) (g : Avm.H) (hT : evC (Qb cfg) Qa cfg.pol h.length h.length c139T181 [(3,.ptr h.length 0 2 0 0),(4,.ptr (h.length + 1) 0 8 0 0),(5,.ptr (h.length + 2) 0 4 0 0),(31,.int .i64 b.kind),(181,.bool true)] (h++[.arr 0 2 [m.enc],.arr 0 8 [b.enc],.arr 0 4 [v.enc]])=some (.ret,[(6,.bool r)],h++([.arr 0 2 [m.enc],.arr 0 8 [b.enc],.arr 0 4 [v.enc]]++g))) : Qb cfg ws 139 [m.enc,t.enc,v.enc] h=some (.bool r,h):=by
 have n0 : ¬ b.kind=0:=by omega
 refine rfits_top1 m hm hl hf t ht hn v b hb hvk n0 ws h r g ?_
 refine rchN_36 m b v h _ (by omega) ?_
 refine rchN_50 m b v h _ (by omega) ?_
 refine rchN_87 m b v h _ (by omega) ?_
 refine rchN_104 m b v h _ (by omega) ?_
 refine rchN_115 m b v h _ (by omega) ?_
 refine rchN_131 m b v h _ (by omega) ?_
 refine rchN_141 m b v h _ (by omega) ?_
 exact rchY_181 m b v h _ hk hT
theorem rfits_head_9 (m : Md) (hm : m.ok) (hl : m.lim) (hf : m.fm) (t : Ty) (ht : t.wid<=1048576) (hn : t.nodes<=600) (v : Val) (b : Ty) (hb : beh m 21 t=some b) (hvk : v.kind=b.kind) (hk : b.kind=9) (ws : Nat) (h : Avm.H) (r : Bool) (g : Avm.H) (hT : evC (Qb cfg) Qa cfg.pol h.length h.length c139T213 [(3,.ptr h.length 0 2 0 0),(4,.ptr (h.length + 1) 0 8 0 0),(5,.ptr (h.length + 2) 0 4 0 0),(213,.bool true)] (h++[.arr 0 2 [m.enc],.arr 0 8 [b.enc],.arr 0 4 [v.enc]])=some (.ret,[(6,.bool r)],h++([.arr 0 2 [m.enc],.arr 0 8 [b.enc],.arr 0 4 [v.enc]]++g))) : Qb cfg ws 139 [m.enc,t.enc,v.enc] h=some (.bool r,h):=by
 have n0 : ¬ b.kind=0:=by omega
 refine rfits_top1 m hm hl hf t ht hn v b hb hvk n0 ws h r g ?_
 refine rchN_36 m b v h _ (by omega) ?_
 refine rchN_50 m b v h _ (by omega) ?_
 refine rchN_87 m b v h _ (by omega) ?_
 refine rchN_104 m b v h _ (by omega) ?_
 refine rchN_115 m b v h _ (by omega) ?_
 refine rchN_131 m b v h _ (by omega) ?_
 refine rchN_141 m b v h _ (by omega) ?_
 refine rchN_181 m b v h _ (by omega) ?_
 exact rchY_213 m b v h _ hk hT
theorem rfits_head_8 (m : Md) (hm : m.ok) (hl : m.lim) (hf : m.fm) (t : Ty) (ht : t.wid<=1048576) (hn : t.nodes<=600) (v : Val) (b : Ty) (hb : beh m 21 t=some b) (hvk : v.kind=b.kind) (hk : b.kind=8) (ws : Nat) (h : Avm.H) (r : Bool) (g : Avm.H) (hT : evC (Qb cfg) Qa cfg.pol h.length h.length c139S24 [(3,.ptr h.length 0 2 0 0),(4,.ptr (h.length + 1) 0 8 0 0),(5,.ptr (h.length + 2) 0 4 0 0)] (h++[.arr 0 2 [m.enc],.arr 0 8 [b.enc],.arr 0 4 [v.enc]])=some (.ret,[(6,.bool r)],h++([.arr 0 2 [m.enc],.arr 0 8 [b.enc],.arr 0 4 [v.enc]]++g))) : Qb cfg ws 139 [m.enc,t.enc,v.enc] h=some (.bool r,h):=by
 have n0 : ¬ b.kind=0:=by omega
 refine rfits_top8 m hm hl hf t ht hn v b hb hvk n0 ws h r g ?_ hT
 refine rchN_36 m b v h _ (by omega) ?_
 refine rchN_50 m b v h _ (by omega) ?_
 refine rchN_87 m b v h _ (by omega) ?_
 refine rchN_104 m b v h _ (by omega) ?_
 refine rchN_115 m b v h _ (by omega) ?_
 refine rchN_131 m b v h _ (by omega) ?_
 refine rchN_141 m b v h _ (by omega) ?_
 refine rchN_181 m b v h _ (by omega) ?_
 refine rchN_213 m b v h _ (by omega) ?_
 simp
theorem rfits_none (m : Md) (hm : m.ok) (hl : m.lim) (hf : m.fm) (t : Ty) (ht : t.wid<=1048576) (hn : t.nodes<=600) (v : Val) (hb : beh m 21 t=none) (ws : Nat) (h : Avm.H) : Qb cfg ws 139 [m.enc,t.enc,v.enc] h=some (.bool false,h):=by
 have hbe:=fun ws h=>root_beh m hm hl hf t ht hn ws h
 rw [hb] at hbe
 simp [Md.enc,Ty.zero] at hbe
 refine Qc rfl rfl ?_
 simp [F139,c139,Md.enc,Ty.zero,hbe]
theorem rfits_ne (m : Md) (hm : m.ok) (hl : m.lim) (hf : m.fm) (t : Ty) (ht : t.wid<=1048576) (hn : t.nodes<=600) (v : Val) (b : Ty) (hb : beh m 21 t=some b) (hvk : ¬ v.kind=b.kind) (ws : Nat) (h : Avm.H) : Qb cfg ws 139 [m.enc,t.enc,v.enc] h=some (.bool false,h):=by
 have hbe:=fun ws h=>root_beh m hm hl hf t ht hn ws h
 rw [hb] at hbe
 simp [Md.enc,Ty.zero] at hbe
 refine Qc rfl rfl ?_
 simp [F139,c139,Md.enc,Ty.zero,hbe,hvk]
end Go.Proofs.YtflbneepngjglaaGreatDoor
