/- Whether a value fits a type: the program, some kinds. -/
import Derived.Test.YtflbneepngjglaaGreatDoorR38
set_option linter.all false
namespace Go.Proofs.YtflbneepngjglaaGreatDoor
open Go Go.Avm
theorem chY_31 (m : Md) (b : Ty) (v : Val) (h : Avm.H) (o : Ex × Env × Avm.H) (hk : b.kind=1) (hT : evC (callL cfg) roundsL cfg.pol h.length h.length c49T31 [(3,.ptr h.length 0 2 0 0),(4,.ptr (h.length + 1) 0 8 0 0),(5,.ptr (h.length + 2) 0 4 0 0),(26,.int .i64 b.kind),(31,.bool true)] (h++[.arr 0 2 [m.enc],.arr 0 8 [b.enc],.arr 0 4 [v.enc]])=some o) : evC (callL cfg) roundsL cfg.pol h.length h.length c49E27 [(3,.ptr h.length 0 2 0 0),(4,.ptr (h.length + 1) 0 8 0 0),(5,.ptr (h.length + 2) 0 4 0 0),(26,.int .i64 b.kind),(27,.bool false)] (h++[.arr 0 2 [m.enc],.arr 0 8 [b.enc],.arr 0 4 [v.enc]])=some o:=by
 simp only [hk] at hT ⊢
 simp [c49E27] at hT ⊢
 exact hT
theorem chN_31 (m : Md) (b : Ty) (v : Val) (h : Avm.H) (o : Ex × Env × Avm.H) (hk : ¬ b.kind=1) (hT : evC (callL cfg) roundsL cfg.pol h.length h.length c49E31 [(3,.ptr h.length 0 2 0 0),(4,.ptr (h.length + 1) 0 8 0 0),(5,.ptr (h.length + 2) 0 4 0 0),(26,.int .i64 b.kind),(31,.bool false)] (h++[.arr 0 2 [m.enc],.arr 0 8 [b.enc],.arr 0 4 [v.enc]])=some o) : evC (callL cfg) roundsL cfg.pol h.length h.length c49E27 [(3,.ptr h.length 0 2 0 0),(4,.ptr (h.length + 1) 0 8 0 0),(5,.ptr (h.length + 2) 0 4 0 0),(26,.int .i64 b.kind),(27,.bool false)] (h++[.arr 0 2 [m.enc],.arr 0 8 [b.enc],.arr 0 4 [v.enc]])=some o:=by
 have hkb : (b.kind == 1)=false:=by simpa using hk
 simp [hk] at hT
 simp [c49E27,hk,hkb]
 exact hT
theorem chY_40 (m : Md) (b : Ty) (v : Val) (h : Avm.H) (o : Ex × Env × Avm.H) (hk : b.kind=2) (hT : evC (callL cfg) roundsL cfg.pol h.length h.length c49T40 [(3,.ptr h.length 0 2 0 0),(4,.ptr (h.length + 1) 0 8 0 0),(5,.ptr (h.length + 2) 0 4 0 0),(26,.int .i64 b.kind),(40,.bool true)] (h++[.arr 0 2 [m.enc],.arr 0 8 [b.enc],.arr 0 4 [v.enc]])=some o) : evC (callL cfg) roundsL cfg.pol h.length h.length c49E31 [(3,.ptr h.length 0 2 0 0),(4,.ptr (h.length + 1) 0 8 0 0),(5,.ptr (h.length + 2) 0 4 0 0),(26,.int .i64 b.kind),(31,.bool false)] (h++[.arr 0 2 [m.enc],.arr 0 8 [b.enc],.arr 0 4 [v.enc]])=some o:=by
 simp only [hk] at hT ⊢
 simp [c49E31] at hT ⊢
 exact hT
theorem chN_40 (m : Md) (b : Ty) (v : Val) (h : Avm.H) (o : Ex × Env × Avm.H) (hk : ¬ b.kind=2) (hT : evC (callL cfg) roundsL cfg.pol h.length h.length c49E40 [(3,.ptr h.length 0 2 0 0),(4,.ptr (h.length + 1) 0 8 0 0),(5,.ptr (h.length + 2) 0 4 0 0),(26,.int .i64 b.kind),(40,.bool false)] (h++[.arr 0 2 [m.enc],.arr 0 8 [b.enc],.arr 0 4 [v.enc]])=some o) : evC (callL cfg) roundsL cfg.pol h.length h.length c49E31 [(3,.ptr h.length 0 2 0 0),(4,.ptr (h.length + 1) 0 8 0 0),(5,.ptr (h.length + 2) 0 4 0 0),(26,.int .i64 b.kind),(31,.bool false)] (h++[.arr 0 2 [m.enc],.arr 0 8 [b.enc],.arr 0 4 [v.enc]])=some o:=by
 have hkb : (b.kind == 2)=false:=by simpa using hk
 simp [hk] at hT
 simp [c49E31,hk,hkb]
 exact hT
theorem chY_66 (m : Md) (b : Ty) (v : Val) (h : Avm.H) (o : Ex × Env × Avm.H) (hk : b.kind=3) (hT : evC (callL cfg) roundsL cfg.pol h.length h.length c49T66 [(3,.ptr h.length 0 2 0 0),(4,.ptr (h.length + 1) 0 8 0 0),(5,.ptr (h.length + 2) 0 4 0 0),(26,.int .i64 b.kind),(66,.bool true)] (h++[.arr 0 2 [m.enc],.arr 0 8 [b.enc],.arr 0 4 [v.enc]])=some o) : evC (callL cfg) roundsL cfg.pol h.length h.length c49E40 [(3,.ptr h.length 0 2 0 0),(4,.ptr (h.length + 1) 0 8 0 0),(5,.ptr (h.length + 2) 0 4 0 0),(26,.int .i64 b.kind),(40,.bool false)] (h++[.arr 0 2 [m.enc],.arr 0 8 [b.enc],.arr 0 4 [v.enc]])=some o:=by
 simp only [hk] at hT ⊢
 simp [c49E40] at hT ⊢
 exact hT
theorem chN_66 (m : Md) (b : Ty) (v : Val) (h : Avm.H) (o : Ex × Env × Avm.H) (hk : ¬ b.kind=3) (hT : evC (callL cfg) roundsL cfg.pol h.length h.length c49E66 [(3,.ptr h.length 0 2 0 0),(4,.ptr (h.length + 1) 0 8 0 0),(5,.ptr (h.length + 2) 0 4 0 0),(26,.int .i64 b.kind),(66,.bool false)] (h++[.arr 0 2 [m.enc],.arr 0 8 [b.enc],.arr 0 4 [v.enc]])=some o) : evC (callL cfg) roundsL cfg.pol h.length h.length c49E40 [(3,.ptr h.length 0 2 0 0),(4,.ptr (h.length + 1) 0 8 0 0),(5,.ptr (h.length + 2) 0 4 0 0),(26,.int .i64 b.kind),(40,.bool false)] (h++[.arr 0 2 [m.enc],.arr 0 8 [b.enc],.arr 0 4 [v.enc]])=some o:=by
 have hkb : (b.kind == 3)=false:=by simpa using hk
 simp [hk] at hT
 simp [c49E40,hk,hkb]
 exact hT
theorem chY_79 (m : Md) (b : Ty) (v : Val) (h : Avm.H) (o : Ex × Env × Avm.H) (hk : b.kind=4) (hT : evC (callL cfg) roundsL cfg.pol h.length h.length c49T79 [(3,.ptr h.length 0 2 0 0),(4,.ptr (h.length + 1) 0 8 0 0),(5,.ptr (h.length + 2) 0 4 0 0),(26,.int .i64 b.kind),(79,.bool true)] (h++[.arr 0 2 [m.enc],.arr 0 8 [b.enc],.arr 0 4 [v.enc]])=some o) : evC (callL cfg) roundsL cfg.pol h.length h.length c49E66 [(3,.ptr h.length 0 2 0 0),(4,.ptr (h.length + 1) 0 8 0 0),(5,.ptr (h.length + 2) 0 4 0 0),(26,.int .i64 b.kind),(66,.bool false)] (h++[.arr 0 2 [m.enc],.arr 0 8 [b.enc],.arr 0 4 [v.enc]])=some o:=by
 simp only [hk] at hT ⊢
 simp [c49E66] at hT ⊢
 exact hT
theorem chN_79 (m : Md) (b : Ty) (v : Val) (h : Avm.H) (o : Ex × Env × Avm.H) (hk : ¬ b.kind=4) (hT : evC (callL cfg) roundsL cfg.pol h.length h.length c49E79 [(3,.ptr h.length 0 2 0 0),(4,.ptr (h.length + 1) 0 8 0 0),(5,.ptr (h.length + 2) 0 4 0 0),(26,.int .i64 b.kind),(79,.bool false)] (h++[.arr 0 2 [m.enc],.arr 0 8 [b.enc],.arr 0 4 [v.enc]])=some o) : evC (callL cfg) roundsL cfg.pol h.length h.length c49E66 [(3,.ptr h.length 0 2 0 0),(4,.ptr (h.length + 1) 0 8 0 0),(5,.ptr (h.length + 2) 0 4 0 0),(26,.int .i64 b.kind),(66,.bool false)] (h++[.arr 0 2 [m.enc],.arr 0 8 [b.enc],.arr 0 4 [v.enc]])=some o:=by
 have hkb : (b.kind == 4)=false:=by simpa using hk
 simp [hk] at hT
 simp [c49E66,hk,hkb]
 exact hT
theorem chY_90 (m : Md) (b : Ty) (v : Val) (h : Avm.H) (o : Ex × Env × Avm.H) (hk : b.kind=5) (hT : evC (callL cfg) roundsL cfg.pol h.length h.length c49T90 [(3,.ptr h.length 0 2 0 0),(4,.ptr (h.length + 1) 0 8 0 0),(5,.ptr (h.length + 2) 0 4 0 0),(26,.int .i64 b.kind),(90,.bool true)] (h++[.arr 0 2 [m.enc],.arr 0 8 [b.enc],.arr 0 4 [v.enc]])=some o) : evC (callL cfg) roundsL cfg.pol h.length h.length c49E79 [(3,.ptr h.length 0 2 0 0),(4,.ptr (h.length + 1) 0 8 0 0),(5,.ptr (h.length + 2) 0 4 0 0),(26,.int .i64 b.kind),(79,.bool false)] (h++[.arr 0 2 [m.enc],.arr 0 8 [b.enc],.arr 0 4 [v.enc]])=some o:=by
 simp only [hk] at hT ⊢
 simp [c49E79] at hT ⊢
 exact hT
theorem chN_90 (m : Md) (b : Ty) (v : Val) (h : Avm.H) (o : Ex × Env × Avm.H) (hk : ¬ b.kind=5) (hT : evC (callL cfg) roundsL cfg.pol h.length h.length c49E90 [(3,.ptr h.length 0 2 0 0),(4,.ptr (h.length + 1) 0 8 0 0),(5,.ptr (h.length + 2) 0 4 0 0),(26,.int .i64 b.kind),(90,.bool false)] (h++[.arr 0 2 [m.enc],.arr 0 8 [b.enc],.arr 0 4 [v.enc]])=some o) : evC (callL cfg) roundsL cfg.pol h.length h.length c49E79 [(3,.ptr h.length 0 2 0 0),(4,.ptr (h.length + 1) 0 8 0 0),(5,.ptr (h.length + 2) 0 4 0 0),(26,.int .i64 b.kind),(79,.bool false)] (h++[.arr 0 2 [m.enc],.arr 0 8 [b.enc],.arr 0 4 [v.enc]])=some o:=by
 have hkb : (b.kind == 5)=false:=by simpa using hk
 simp [hk] at hT
 simp [c49E79,hk,hkb]
 exact hT
theorem chY_107 (m : Md) (b : Ty) (v : Val) (h : Avm.H) (o : Ex × Env × Avm.H) (hk : b.kind=6) (hT : evC (callL cfg) roundsL cfg.pol h.length h.length c49T107 [(3,.ptr h.length 0 2 0 0),(4,.ptr (h.length + 1) 0 8 0 0),(5,.ptr (h.length + 2) 0 4 0 0),(26,.int .i64 b.kind),(107,.bool true)] (h++[.arr 0 2 [m.enc],.arr 0 8 [b.enc],.arr 0 4 [v.enc]])=some o) : evC (callL cfg) roundsL cfg.pol h.length h.length c49E90 [(3,.ptr h.length 0 2 0 0),(4,.ptr (h.length + 1) 0 8 0 0),(5,.ptr (h.length + 2) 0 4 0 0),(26,.int .i64 b.kind),(90,.bool false)] (h++[.arr 0 2 [m.enc],.arr 0 8 [b.enc],.arr 0 4 [v.enc]])=some o:=by
 simp only [hk] at hT ⊢
 simp [c49E90] at hT ⊢
 exact hT
theorem chN_107 (m : Md) (b : Ty) (v : Val) (h : Avm.H) (o : Ex × Env × Avm.H) (hk : ¬ b.kind=6) (hT : evC (callL cfg) roundsL cfg.pol h.length h.length c49E107 [(3,.ptr h.length 0 2 0 0),(4,.ptr (h.length + 1) 0 8 0 0),(5,.ptr (h.length + 2) 0 4 0 0),(26,.int .i64 b.kind),(107,.bool false)] (h++[.arr 0 2 [m.enc],.arr 0 8 [b.enc],.arr 0 4 [v.enc]])=some o) : evC (callL cfg) roundsL cfg.pol h.length h.length c49E90 [(3,.ptr h.length 0 2 0 0),(4,.ptr (h.length + 1) 0 8 0 0),(5,.ptr (h.length + 2) 0 4 0 0),(26,.int .i64 b.kind),(90,.bool false)] (h++[.arr 0 2 [m.enc],.arr 0 8 [b.enc],.arr 0 4 [v.enc]])=some o:=by
 have hkb : (b.kind == 6)=false:=by simpa using hk
 simp [hk] at hT
 simp [c49E90,hk,hkb]
 exact hT
theorem chY_111 (m : Md) (b : Ty) (v : Val) (h : Avm.H) (o : Ex × Env × Avm.H) (hk : b.kind=11) (hT : evC (callL cfg) roundsL cfg.pol h.length h.length c49T111 [(3,.ptr h.length 0 2 0 0),(4,.ptr (h.length + 1) 0 8 0 0),(5,.ptr (h.length + 2) 0 4 0 0),(26,.int .i64 b.kind),(111,.bool true)] (h++[.arr 0 2 [m.enc],.arr 0 8 [b.enc],.arr 0 4 [v.enc]])=some o) : evC (callL cfg) roundsL cfg.pol h.length h.length c49E107 [(3,.ptr h.length 0 2 0 0),(4,.ptr (h.length + 1) 0 8 0 0),(5,.ptr (h.length + 2) 0 4 0 0),(26,.int .i64 b.kind),(107,.bool false)] (h++[.arr 0 2 [m.enc],.arr 0 8 [b.enc],.arr 0 4 [v.enc]])=some o:=by
 simp only [hk] at hT ⊢
 simp [c49E107] at hT ⊢
 exact hT
theorem chN_111 (m : Md) (b : Ty) (v : Val) (h : Avm.H) (o : Ex × Env × Avm.H) (hk : ¬ b.kind=11) (hT : evC (callL cfg) roundsL cfg.pol h.length h.length c49E111 [(3,.ptr h.length 0 2 0 0),(4,.ptr (h.length + 1) 0 8 0 0),(5,.ptr (h.length + 2) 0 4 0 0),(26,.int .i64 b.kind),(111,.bool false)] (h++[.arr 0 2 [m.enc],.arr 0 8 [b.enc],.arr 0 4 [v.enc]])=some o) : evC (callL cfg) roundsL cfg.pol h.length h.length c49E107 [(3,.ptr h.length 0 2 0 0),(4,.ptr (h.length + 1) 0 8 0 0),(5,.ptr (h.length + 2) 0 4 0 0),(26,.int .i64 b.kind),(107,.bool false)] (h++[.arr 0 2 [m.enc],.arr 0 8 [b.enc],.arr 0 4 [v.enc]])=some o:=by
 have hkb : (b.kind == 11)=false:=by simpa using hk
 simp [hk] at hT
 simp [c49E107,hk,hkb]
 exact hT
theorem chY_121 (m : Md) (b : Ty) (v : Val) (h : Avm.H) (o : Ex × Env × Avm.H) (hk : b.kind=7) (hT : evC (callL cfg) roundsL cfg.pol h.length h.length c49T121 [(3,.ptr h.length 0 2 0 0),(4,.ptr (h.length + 1) 0 8 0 0),(5,.ptr (h.length + 2) 0 4 0 0),(26,.int .i64 b.kind),(121,.bool true)] (h++[.arr 0 2 [m.enc],.arr 0 8 [b.enc],.arr 0 4 [v.enc]])=some o) : evC (callL cfg) roundsL cfg.pol h.length h.length c49E111 [(3,.ptr h.length 0 2 0 0),(4,.ptr (h.length + 1) 0 8 0 0),(5,.ptr (h.length + 2) 0 4 0 0),(26,.int .i64 b.kind),(111,.bool false)] (h++[.arr 0 2 [m.enc],.arr 0 8 [b.enc],.arr 0 4 [v.enc]])=some o:=by
 simp only [hk] at hT ⊢
 simp [c49E111] at hT ⊢
 exact hT
theorem chN_121 (m : Md) (b : Ty) (v : Val) (h : Avm.H) (o : Ex × Env × Avm.H) (hk : ¬ b.kind=7) (hT : evC (callL cfg) roundsL cfg.pol h.length h.length c49E121 [(3,.ptr h.length 0 2 0 0),(4,.ptr (h.length + 1) 0 8 0 0),(5,.ptr (h.length + 2) 0 4 0 0),(26,.int .i64 b.kind),(121,.bool false)] (h++[.arr 0 2 [m.enc],.arr 0 8 [b.enc],.arr 0 4 [v.enc]])=some o) : evC (callL cfg) roundsL cfg.pol h.length h.length c49E111 [(3,.ptr h.length 0 2 0 0),(4,.ptr (h.length + 1) 0 8 0 0),(5,.ptr (h.length + 2) 0 4 0 0),(26,.int .i64 b.kind),(111,.bool false)] (h++[.arr 0 2 [m.enc],.arr 0 8 [b.enc],.arr 0 4 [v.enc]])=some o:=by
 have hkb : (b.kind == 7)=false:=by simpa using hk
 simp [hk] at hT
 simp [c49E111,hk,hkb]
 exact hT
theorem chY_139 (m : Md) (b : Ty) (v : Val) (h : Avm.H) (o : Ex × Env × Avm.H) (hk : b.kind=9) (hT : evC (callL cfg) roundsL cfg.pol h.length h.length c49T139 [(3,.ptr h.length 0 2 0 0),(4,.ptr (h.length + 1) 0 8 0 0),(5,.ptr (h.length + 2) 0 4 0 0),(139,.bool true)] (h++[.arr 0 2 [m.enc],.arr 0 8 [b.enc],.arr 0 4 [v.enc]])=some o) : evC (callL cfg) roundsL cfg.pol h.length h.length c49E121 [(3,.ptr h.length 0 2 0 0),(4,.ptr (h.length + 1) 0 8 0 0),(5,.ptr (h.length + 2) 0 4 0 0),(26,.int .i64 b.kind),(121,.bool false)] (h++[.arr 0 2 [m.enc],.arr 0 8 [b.enc],.arr 0 4 [v.enc]])=some o:=by
 simp only [hk] at hT ⊢
 simp [c49E121] at hT ⊢
 exact hT
theorem chN_139 (m : Md) (b : Ty) (v : Val) (h : Avm.H) (o : Ex × Env × Avm.H) (hk : ¬ b.kind=9) (hT : evC (callL cfg) roundsL cfg.pol h.length h.length .skip [(3,.ptr h.length 0 2 0 0),(4,.ptr (h.length + 1) 0 8 0 0),(5,.ptr (h.length + 2) 0 4 0 0),(139,.bool false)] (h++[.arr 0 2 [m.enc],.arr 0 8 [b.enc],.arr 0 4 [v.enc]])=some o) : evC (callL cfg) roundsL cfg.pol h.length h.length c49E121 [(3,.ptr h.length 0 2 0 0),(4,.ptr (h.length + 1) 0 8 0 0),(5,.ptr (h.length + 2) 0 4 0 0),(26,.int .i64 b.kind),(121,.bool false)] (h++[.arr 0 2 [m.enc],.arr 0 8 [b.enc],.arr 0 4 [v.enc]])=some o:=by
 have hkb : (b.kind == 9)=false:=by simpa using hk
 simp [hk] at hT
 simp [c49E121,hk,hkb]
 exact hT
theorem fits_top0 (m : Md) (hm : m.ok) (t : Ty) (ht : t.wid≤67108864) (v : Val) (b : Ty) (hb : beh m 21 t=some b) (hvk : v.kind=b.kind) (hk : b.kind=0) (ws : Nat) (h : Avm.H) (r : Bool) (g : Avm.H) (hT : evC (callL cfg) roundsL cfg.pol h.length h.length c49T27 [(3,.ptr h.length 0 2 0 0),(4,.ptr (h.length + 1) 0 8 0 0),(5,.ptr (h.length + 2) 0 4 0 0),(26,.int .i64 b.kind),(27,.bool true)] (h++[.arr 0 2 [m.enc],.arr 0 8 [b.enc],.arr 0 4 [v.enc]])=some (.ret,[(6,.bool r)],h++([.arr 0 2 [m.enc],.arr 0 8 [b.enc],.arr 0 4 [v.enc]]++g))) : callL cfg ws 49 [m.enc,t.enc,v.enc] h=some (.bool r,h):=by
 rw [hk] at hvk
 have hbe:=fun ws h=>behind_ok m hm t ht ws h
 rw [hb] at hbe
 simp [Md.enc,Ty.zero,hk,hvk] at hbe hT
 refine callL_fn rfl rfl ?_
 simp [F49,c49,Md.enc,hbe,hk,hvk,hT]
theorem fits_top1 (m : Md) (hm : m.ok) (t : Ty) (ht : t.wid≤67108864) (v : Val) (b : Ty) (hb : beh m 21 t=some b) (hvk : v.kind=b.kind) (hk : ¬ b.kind=0) (ws : Nat) (h : Avm.H) (r : Bool) (g : Avm.H) (hT : evC (callL cfg) roundsL cfg.pol h.length h.length c49E27 [(3,.ptr h.length 0 2 0 0),(4,.ptr (h.length + 1) 0 8 0 0),(5,.ptr (h.length + 2) 0 4 0 0),(26,.int .i64 b.kind),(27,.bool false)] (h++[.arr 0 2 [m.enc],.arr 0 8 [b.enc],.arr 0 4 [v.enc]])=some (.ret,[(6,.bool r)],h++([.arr 0 2 [m.enc],.arr 0 8 [b.enc],.arr 0 4 [v.enc]]++g))) : callL cfg ws 49 [m.enc,t.enc,v.enc] h=some (.bool r,h):=by
 have hkb : (b.kind == 0)=false:=by simpa using hk
 have hbe:=fun ws h=>behind_ok m hm t ht ws h
 rw [hb] at hbe
 simp [Md.enc,Ty.zero,hvk] at hbe hT
 refine callL_fn rfl rfl ?_
 simp [F49,c49,Md.enc,hbe,hk,hkb,hvk,hT]
theorem fits_top8 (m : Md) (hm : m.ok) (t : Ty) (ht : t.wid≤67108864) (v : Val) (b : Ty) (hb : beh m 21 t=some b) (hvk : v.kind=b.kind) (hk : ¬ b.kind=0) (ws : Nat) (h : Avm.H) (r : Bool) (g : Avm.H) (hE : evC (callL cfg) roundsL cfg.pol h.length h.length c49E27 [(3,.ptr h.length 0 2 0 0),(4,.ptr (h.length + 1) 0 8 0 0),(5,.ptr (h.length + 2) 0 4 0 0),(26,.int .i64 b.kind),(27,.bool false)] (h++[.arr 0 2 [m.enc],.arr 0 8 [b.enc],.arr 0 4 [v.enc]])=some (.normal,[(3,.ptr h.length 0 2 0 0),(4,.ptr (h.length + 1) 0 8 0 0),(5,.ptr (h.length + 2) 0 4 0 0),(139,.bool false)],(h++[.arr 0 2 [m.enc],.arr 0 8 [b.enc],.arr 0 4 [v.enc]])))
    (hT : evC (callL cfg) roundsL cfg.pol h.length h.length c49S20 [(3,.ptr h.length 0 2 0 0),(4,.ptr (h.length + 1) 0 8 0 0),(5,.ptr (h.length + 2) 0 4 0 0)] (h++[.arr 0 2 [m.enc],.arr 0 8 [b.enc],.arr 0 4 [v.enc]])=some (.ret,[(6,.bool r)],h++([.arr 0 2 [m.enc],.arr 0 8 [b.enc],.arr 0 4 [v.enc]]++g))) : callL cfg ws 49 [m.enc,t.enc,v.enc] h=some (.bool r,h):=by
 have hkb : (b.kind == 0)=false:=by simpa using hk
 have hbe:=fun ws h=>behind_ok m hm t ht ws h
 rw [hb] at hbe
 simp [Md.enc,Ty.zero,hvk] at hbe hE hT
 refine callL_fn rfl rfl ?_
 simp [F49,c49,Md.enc,hbe,hk,hkb,hvk,hE,hT]
theorem fits_head_0 (m : Md) (hm : m.ok) (t : Ty) (ht : t.wid≤67108864) (v : Val) (b : Ty) (hb : beh m 21 t=some b) (hvk : v.kind=b.kind) (hk : b.kind=0) (ws : Nat) (h : Avm.H) (r : Bool) (g : Avm.H) (hT : evC (callL cfg) roundsL cfg.pol h.length h.length c49T27 [(3,.ptr h.length 0 2 0 0),(4,.ptr (h.length + 1) 0 8 0 0),(5,.ptr (h.length + 2) 0 4 0 0),(26,.int .i64 b.kind),(27,.bool true)] (h++[.arr 0 2 [m.enc],.arr 0 8 [b.enc],.arr 0 4 [v.enc]])=some (.ret,[(6,.bool r)],h++([.arr 0 2 [m.enc],.arr 0 8 [b.enc],.arr 0 4 [v.enc]]++g))) : callL cfg ws 49 [m.enc,t.enc,v.enc] h=some (.bool r,h):=by
 exact fits_top0 m hm t ht v b hb hvk hk ws h r g hT
theorem fits_head_1 (m : Md) (hm : m.ok) (t : Ty) (ht : t.wid≤67108864) (v : Val) (b : Ty) (hb : beh m 21 t=some b) (hvk : v.kind=b.kind) (hk : b.kind=1) (ws : Nat) (h : Avm.H) (r : Bool) (g : Avm.H) (hT : evC (callL cfg) roundsL cfg.pol h.length h.length c49T31 [(3,.ptr h.length 0 2 0 0),(4,.ptr (h.length + 1) 0 8 0 0),(5,.ptr (h.length + 2) 0 4 0 0),(26,.int .i64 b.kind),(31,.bool true)] (h++[.arr 0 2 [m.enc],.arr 0 8 [b.enc],.arr 0 4 [v.enc]])=some (.ret,[(6,.bool r)],h++([.arr 0 2 [m.enc],.arr 0 8 [b.enc],.arr 0 4 [v.enc]]++g))) : callL cfg ws 49 [m.enc,t.enc,v.enc] h=some (.bool r,h):=by
 have n0 : ¬ b.kind=0:=by omega
 refine fits_top1 m hm t ht v b hb hvk n0 ws h r g ?_
 exact chY_31 m b v h _ hk hT
theorem fits_head_2 (m : Md) (hm : m.ok) (t : Ty) (ht : t.wid≤67108864) (v : Val) (b : Ty) (hb : beh m 21 t=some b) (hvk : v.kind=b.kind) (hk : b.kind=2) (ws : Nat) (h : Avm.H) (r : Bool) (g : Avm.H) (hT : evC (callL cfg) roundsL cfg.pol h.length h.length c49T40 [(3,.ptr h.length 0 2 0 0),(4,.ptr (h.length + 1) 0 8 0 0),(5,.ptr (h.length + 2) 0 4 0 0),(26,.int .i64 b.kind),(40,.bool true)] (h++[.arr 0 2 [m.enc],.arr 0 8 [b.enc],.arr 0 4 [v.enc]])=some (.ret,[(6,.bool r)],h++([.arr 0 2 [m.enc],.arr 0 8 [b.enc],.arr 0 4 [v.enc]]++g))) : callL cfg ws 49 [m.enc,t.enc,v.enc] h=some (.bool r,h):=by
 have n0 : ¬ b.kind=0:=by omega
 refine fits_top1 m hm t ht v b hb hvk n0 ws h r g ?_
 refine chN_31 m b v h _ (by omega) ?_
 exact chY_40 m b v h _ hk hT
theorem fits_head_3 (m : Md) (hm : m.ok) (t : Ty) (ht : t.wid≤67108864) (v : Val) (b : Ty) (hb : beh m 21 t=some b) (hvk : v.kind=b.kind) (hk : b.kind=3) (ws : Nat) (h : Avm.H) (r : Bool) (g : Avm.H) (hT : evC (callL cfg) roundsL cfg.pol h.length h.length c49T66 [(3,.ptr h.length 0 2 0 0),(4,.ptr (h.length + 1) 0 8 0 0),(5,.ptr (h.length + 2) 0 4 0 0),(26,.int .i64 b.kind),(66,.bool true)] (h++[.arr 0 2 [m.enc],.arr 0 8 [b.enc],.arr 0 4 [v.enc]])=some (.ret,[(6,.bool r)],h++([.arr 0 2 [m.enc],.arr 0 8 [b.enc],.arr 0 4 [v.enc]]++g))) : callL cfg ws 49 [m.enc,t.enc,v.enc] h=some (.bool r,h):=by
 have n0 : ¬ b.kind=0:=by omega
 refine fits_top1 m hm t ht v b hb hvk n0 ws h r g ?_
 refine chN_31 m b v h _ (by omega) ?_
 refine chN_40 m b v h _ (by omega) ?_
 exact chY_66 m b v h _ hk hT
theorem fits_head_4 (m : Md) (hm : m.ok) (t : Ty) (ht : t.wid≤67108864) (v : Val) (b : Ty) (hb : beh m 21 t=some b) (hvk : v.kind=b.kind) (hk : b.kind=4) (ws : Nat) (h : Avm.H) (r : Bool) (g : Avm.H) (hT : evC (callL cfg) roundsL cfg.pol h.length h.length c49T79 [(3,.ptr h.length 0 2 0 0),(4,.ptr (h.length + 1) 0 8 0 0),(5,.ptr (h.length + 2) 0 4 0 0),(26,.int .i64 b.kind),(79,.bool true)] (h++[.arr 0 2 [m.enc],.arr 0 8 [b.enc],.arr 0 4 [v.enc]])=some (.ret,[(6,.bool r)],h++([.arr 0 2 [m.enc],.arr 0 8 [b.enc],.arr 0 4 [v.enc]]++g))) : callL cfg ws 49 [m.enc,t.enc,v.enc] h=some (.bool r,h):=by
 have n0 : ¬ b.kind=0:=by omega
 refine fits_top1 m hm t ht v b hb hvk n0 ws h r g ?_
 refine chN_31 m b v h _ (by omega) ?_
 refine chN_40 m b v h _ (by omega) ?_
 refine chN_66 m b v h _ (by omega) ?_
 exact chY_79 m b v h _ hk hT
theorem fits_head_5 (m : Md) (hm : m.ok) (t : Ty) (ht : t.wid≤67108864) (v : Val) (b : Ty) (hb : beh m 21 t=some b) (hvk : v.kind=b.kind) (hk : b.kind=5) (ws : Nat) (h : Avm.H) (r : Bool) (g : Avm.H) (hT : evC (callL cfg) roundsL cfg.pol h.length h.length c49T90 [(3,.ptr h.length 0 2 0 0),(4,.ptr (h.length + 1) 0 8 0 0),(5,.ptr (h.length + 2) 0 4 0 0),(26,.int .i64 b.kind),(90,.bool true)] (h++[.arr 0 2 [m.enc],.arr 0 8 [b.enc],.arr 0 4 [v.enc]])=some (.ret,[(6,.bool r)],h++([.arr 0 2 [m.enc],.arr 0 8 [b.enc],.arr 0 4 [v.enc]]++g))) : callL cfg ws 49 [m.enc,t.enc,v.enc] h=some (.bool r,h):=by
 have n0 : ¬ b.kind=0:=by omega
 refine fits_top1 m hm t ht v b hb hvk n0 ws h r g ?_
 refine chN_31 m b v h _ (by omega) ?_
 refine chN_40 m b v h _ (by omega) ?_
 refine chN_66 m b v h _ (by omega) ?_
 refine chN_79 m b v h _ (by omega) ?_
 exact chY_90 m b v h _ hk hT
theorem fits_head_6 (m : Md) (hm : m.ok) (t : Ty) (ht : t.wid≤67108864) (v : Val) (b : Ty) (hb : beh m 21 t=some b) (hvk : v.kind=b.kind) (hk : b.kind=6) (ws : Nat) (h : Avm.H) (r : Bool) (g : Avm.H) (hT : evC (callL cfg) roundsL cfg.pol h.length h.length c49T107 [(3,.ptr h.length 0 2 0 0),(4,.ptr (h.length + 1) 0 8 0 0),(5,.ptr (h.length + 2) 0 4 0 0),(26,.int .i64 b.kind),(107,.bool true)] (h++[.arr 0 2 [m.enc],.arr 0 8 [b.enc],.arr 0 4 [v.enc]])=some (.ret,[(6,.bool r)],h++([.arr 0 2 [m.enc],.arr 0 8 [b.enc],.arr 0 4 [v.enc]]++g))) : callL cfg ws 49 [m.enc,t.enc,v.enc] h=some (.bool r,h):=by
 have n0 : ¬ b.kind=0:=by omega
 refine fits_top1 m hm t ht v b hb hvk n0 ws h r g ?_
 refine chN_31 m b v h _ (by omega) ?_
 refine chN_40 m b v h _ (by omega) ?_
 refine chN_66 m b v h _ (by omega) ?_
 refine chN_79 m b v h _ (by omega) ?_
 refine chN_90 m b v h _ (by omega) ?_
 exact chY_107 m b v h _ hk hT
theorem fits_head_11 (m : Md) (hm : m.ok) (t : Ty) (ht : t.wid≤67108864) (v : Val) (b : Ty) (hb : beh m 21 t=some b) (hvk : v.kind=b.kind) (hk : b.kind=11) (ws : Nat) (h : Avm.H) (r : Bool) (g : Avm.H) (hT : evC (callL cfg) roundsL cfg.pol h.length h.length c49T111 [(3,.ptr h.length 0 2 0 0),(4,.ptr (h.length + 1) 0 8 0 0),(5,.ptr (h.length + 2) 0 4 0 0),(26,.int .i64 b.kind),(111,.bool true)] (h++[.arr 0 2 [m.enc],.arr 0 8 [b.enc],.arr 0 4 [v.enc]])=some (.ret,[(6,.bool r)],h++([.arr 0 2 [m.enc],.arr 0 8 [b.enc],.arr 0 4 [v.enc]]++g))) : callL cfg ws 49 [m.enc,t.enc,v.enc] h=some (.bool r,h):=by
 have n0 : ¬ b.kind=0:=by omega
 refine fits_top1 m hm t ht v b hb hvk n0 ws h r g ?_
 refine chN_31 m b v h _ (by omega) ?_
 refine chN_40 m b v h _ (by omega) ?_
 refine chN_66 m b v h _ (by omega) ?_
 refine chN_79 m b v h _ (by omega) ?_
 refine chN_90 m b v h _ (by omega) ?_
 refine chN_107 m b v h _ (by omega) ?_
 exact chY_111 m b v h _ hk hT
theorem fits_head_7 (m : Md) (hm : m.ok) (t : Ty) (ht : t.wid≤67108864) (v : Val) (b : Ty) (hb : beh m 21 t=some b) (hvk : v.kind=b.kind) (hk : b.kind=7) (ws : Nat) (h : Avm.H) (r : Bool) (g : Avm.H) (hT : evC (callL cfg) roundsL cfg.pol h.length h.length c49T121 [(3,.ptr h.length 0 2 0 0),(4,.ptr (h.length + 1) 0 8 0 0),(5,.ptr (h.length + 2) 0 4 0 0),(26,.int .i64 b.kind),(121,.bool true)] (h++[.arr 0 2 [m.enc],.arr 0 8 [b.enc],.arr 0 4 [v.enc]])=some (.ret,[(6,.bool r)],h++([.arr 0 2 [m.enc],.arr 0 8 [b.enc],.arr 0 4 [v.enc]]++g))) : callL cfg ws 49 [m.enc,t.enc,v.enc] h=some (.bool r,h):=by
 have n0 : ¬ b.kind=0:=by omega
 refine fits_top1 m hm t ht v b hb hvk n0 ws h r g ?_
 refine chN_31 m b v h _ (by omega) ?_
 refine chN_40 m b v h _ (by omega) ?_
 refine chN_66 m b v h _ (by omega) ?_
 refine chN_79 m b v h _ (by omega) ?_
 refine chN_90 m b v h _ (by omega) ?_
 refine chN_107 m b v h _ (by omega) ?_
 refine chN_111 m b v h _ (by omega) ?_
 exact chY_121 m b v h _ hk hT
theorem fits_head_9 (m : Md) (hm : m.ok) (t : Ty) (ht : t.wid≤67108864) (v : Val) (b : Ty) (hb : beh m 21 t=some b) (hvk : v.kind=b.kind) (hk : b.kind=9) (ws : Nat) (h : Avm.H) (r : Bool) (g : Avm.H) (hT : evC (callL cfg) roundsL cfg.pol h.length h.length c49T139 [(3,.ptr h.length 0 2 0 0),(4,.ptr (h.length + 1) 0 8 0 0),(5,.ptr (h.length + 2) 0 4 0 0),(139,.bool true)] (h++[.arr 0 2 [m.enc],.arr 0 8 [b.enc],.arr 0 4 [v.enc]])=some (.ret,[(6,.bool r)],h++([.arr 0 2 [m.enc],.arr 0 8 [b.enc],.arr 0 4 [v.enc]]++g))) : callL cfg ws 49 [m.enc,t.enc,v.enc] h=some (.bool r,h):=by
 have n0 : ¬ b.kind=0:=by omega
 refine fits_top1 m hm t ht v b hb hvk n0 ws h r g ?_
 refine chN_31 m b v h _ (by omega) ?_
 refine chN_40 m b v h _ (by omega) ?_
 refine chN_66 m b v h _ (by omega) ?_
 refine chN_79 m b v h _ (by omega) ?_
 refine chN_90 m b v h _ (by omega) ?_
 refine chN_107 m b v h _ (by omega) ?_
 refine chN_111 m b v h _ (by omega) ?_
 refine chN_121 m b v h _ (by omega) ?_
 exact chY_139 m b v h _ hk hT
theorem fits_head_8 (m : Md) (hm : m.ok) (t : Ty) (ht : t.wid≤67108864) (v : Val) (b : Ty) (hb : beh m 21 t=some b) (hvk : v.kind=b.kind) (hk : b.kind=8) (ws : Nat) (h : Avm.H) (r : Bool) (g : Avm.H) (hT : evC (callL cfg) roundsL cfg.pol h.length h.length c49S20 [(3,.ptr h.length 0 2 0 0),(4,.ptr (h.length + 1) 0 8 0 0),(5,.ptr (h.length + 2) 0 4 0 0)] (h++[.arr 0 2 [m.enc],.arr 0 8 [b.enc],.arr 0 4 [v.enc]])=some (.ret,[(6,.bool r)],h++([.arr 0 2 [m.enc],.arr 0 8 [b.enc],.arr 0 4 [v.enc]]++g))) : callL cfg ws 49 [m.enc,t.enc,v.enc] h=some (.bool r,h):=by
 have n0 : ¬ b.kind=0:=by omega
 refine fits_top8 m hm t ht v b hb hvk n0 ws h r g ?_ hT
 refine chN_31 m b v h _ (by omega) ?_
 refine chN_40 m b v h _ (by omega) ?_
 refine chN_66 m b v h _ (by omega) ?_
 refine chN_79 m b v h _ (by omega) ?_
 refine chN_90 m b v h _ (by omega) ?_
 refine chN_107 m b v h _ (by omega) ?_
 refine chN_111 m b v h _ (by omega) ?_
 refine chN_121 m b v h _ (by omega) ?_
 refine chN_139 m b v h _ (by omega) ?_
 simp
end Go.Proofs.YtflbneepngjglaaGreatDoor
namespace Go.Proofs.YtflbneepngjglaaGreatDoor
open Go Go.Avm
theorem fits_0 (m : Md) (hm : m.ok) (t : Ty) (ht : t.wid≤67108864) (v : Val) (hv : v.size≤67108864) (b : Ty) (hb : beh m 21 t=some b) (hb1 : b.wid≤67108864) (hvk : v.kind=b.kind) (hk : b.kind=0) (ws : Nat) (h : Avm.H) : callL cfg ws 49 [m.enc,t.enc,v.enc] h=some (.bool (hasP false false false v),h):=by
 have hwi:=b.wid_items
 have hws : IntKind.wrap .i64 ((b.items.length : Int) - 1)=(b.items.length : Int) - 1:=wrap_id (by omega) (by omega)
 have hvb:=v.bytes_size
 have hbb : ((v.bytes.size : Int)≤4000) ↔ v.bytes.size≤4000:=by omega
 have hvi:=v.len_items
 have hvk0:=hvk
 rw [hk] at hvk
 have e0:=fun ws h=>has0_ok v ws h
 simp [hk,hvk] at e0
 refine fits_head_0 m hm t ht v b hb hvk0 hk ws h _ [] ?_
 cases p9 : hasP false false false v
 ·simp only [p9] at e0
  simp [c49T27,hbb,Md.enc,hk,hvk,hws,e0,p9]
 ·simp only [p9] at e0
  simp [c49T27,hbb,Md.enc,hk,hvk,hws,e0,p9]
theorem fits_1 (m : Md) (hm : m.ok) (t : Ty) (ht : t.wid≤67108864) (v : Val) (hv : v.size≤67108864) (b : Ty) (hb : beh m 21 t=some b) (hb1 : b.wid≤67108864) (hvk : v.kind=b.kind) (hk : b.kind=1) (ws : Nat) (h : Avm.H) : callL cfg ws 49 [m.enc,t.enc,v.enc] h=some (.bool (hasP true false false v && inP v.int 0 1),h):=by
 have hwi:=b.wid_items
 have hws : IntKind.wrap .i64 ((b.items.length : Int) - 1)=(b.items.length : Int) - 1:=wrap_id (by omega) (by omega)
 have hvb:=v.bytes_size
 have hbb : ((v.bytes.size : Int)≤4000) ↔ v.bytes.size≤4000:=by omega
 have hvi:=v.len_items
 have hvk0:=hvk
 rw [hk] at hvk
 have e0:=fun ws h=>hasI_ok v ws h
 have e1:=fun ws h=>in_ok v.int 0 1 ws h
 simp [hk,hvk] at e0 e1
 refine fits_head_1 m hm t ht v b hb hvk0 hk ws h _ [] ?_
 cases p9 : hasP true false false v
 ·simp only [p9] at e0 e1
  simp [c49T31,hbb,Md.enc,hk,hvk,hws,e0,e1,p9]
 ·simp only [p9] at e0 e1
  simp [c49T31,hbb,Md.enc,hk,hvk,hws,e0,e1,p9]
theorem fits_2 (m : Md) (hm : m.ok) (t : Ty) (ht : t.wid≤67108864) (v : Val) (hv : v.size≤67108864) (b : Ty) (hb : beh m 21 t=some b) (hb1 : b.wid≤67108864) (hvk : v.kind=b.kind) (hk : b.kind=2) (ws : Nat) (h : Avm.H) : callL cfg ws 49 [m.enc,t.enc,v.enc] h=some (.bool (hasP true false false v && (inP v.int (-1000000000000000) 1000000000000000 && (b.free || (b.ext || inP v.int b.lo b.hi)))),h):=by
 have hwi:=b.wid_items
 have hws : IntKind.wrap .i64 ((b.items.length : Int) - 1)=(b.items.length : Int) - 1:=wrap_id (by omega) (by omega)
 have hvb:=v.bytes_size
 have hbb : ((v.bytes.size : Int)≤4000) ↔ v.bytes.size≤4000:=by omega
 have hvi:=v.len_items
 have hvk0:=hvk
 rw [hk] at hvk
 have e0:=fun ws h=>hasI_ok v ws h
 have e1:=fun ws h=>in_ok v.int (-1000000000000000) 1000000000000000 ws h
 have e2:=fun ws h=>in_ok v.int b.lo b.hi ws h
 simp [hk,hvk] at e0 e1 e2
 refine fits_head_2 m hm t ht v b hb hvk0 hk ws h _ [] ?_
 cases p6 : hasP true false false v
 ·simp only [p6] at e0 e1 e2
  simp [c49T40,hbb,Md.enc,hk,hvk,hws,e0,e1,e2,p6]
 ·simp only [p6] at e0 e1 e2
  cases p7 : inP v.int (-1000000000000000) 1000000000000000
  ·simp only [p7] at e0 e1 e2
   simp [c49T40,hbb,Md.enc,hk,hvk,hws,e0,e1,e2,p6,p7]
  ·simp only [p7] at e0 e1 e2
   cases p8 : b.free
   ·skip
    cases p9 : b.ext
    ·skip
     simp [c49T40,hbb,Md.enc,hk,hvk,hws,e0,e1,e2,p6,p7,p8,p9]
    ·skip
     simp [c49T40,hbb,Md.enc,hk,hvk,hws,e0,e1,e2,p6,p7,p8,p9]
   ·skip
    simp [c49T40,hbb,Md.enc,hk,hvk,hws,e0,e1,e2,p6,p7,p8]
theorem fits_3 (m : Md) (hm : m.ok) (t : Ty) (ht : t.wid≤67108864) (v : Val) (hv : v.size≤67108864) (b : Ty) (hb : beh m 21 t=some b) (hb1 : b.wid≤67108864) (hvk : v.kind=b.kind) (hk : b.kind=3) (ws : Nat) (h : Avm.H) : callL cfg ws 49 [m.enc,t.enc,v.enc] h=some (.bool (hasP true false false v && inP v.int 0 ((b.items.length : Int) - 1)),h):=by
 have hwi:=b.wid_items
 have hws : IntKind.wrap .i64 ((b.items.length : Int) - 1)=(b.items.length : Int) - 1:=wrap_id (by omega) (by omega)
 have hvb:=v.bytes_size
 have hbb : ((v.bytes.size : Int)≤4000) ↔ v.bytes.size≤4000:=by omega
 have hvi:=v.len_items
 have hvk0:=hvk
 rw [hk] at hvk
 have e0:=fun ws h=>hasI_ok v ws h
 have e1:=fun ws h=>in_ok v.int 0 ((b.items.length : Int) - 1) ws h
 simp [hk,hvk] at e0 e1
 refine fits_head_3 m hm t ht v b hb hvk0 hk ws h _ [] ?_
 cases p9 : hasP true false false v
 ·simp only [p9] at e0 e1
  simp [c49T66,hbb,Md.enc,hk,hvk,hws,e0,e1,p9]
 ·simp only [p9] at e0 e1
  simp [c49T66,hbb,Md.enc,hk,hvk,hws,e0,e1,p9]
end Go.Proofs.YtflbneepngjglaaGreatDoor
