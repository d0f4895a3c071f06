/- Values whose blocks all lie below a bound; heaps whose old blocks get nothing new but pure values. -/
import Derived.Test.YtflbneepngjglaaGreatDoorR05
set_option linter.all false
namespace Go.Avm
open Go.RowKit
mutual
def AV.under (n : Nat) : AV→Bool
 | .ptr b ..=>decide (b < n)
 | .osl b ..=>decide (b < n)
 | .mref b | .nbuf b=>decide (b < n)
 | .iptr l | .isl l | .agg l | .tup l | .clos _ _ l=>underL n l
 | .iface _ v=>v.under n
 | _=>true
def underL (n : Nat) : List AV→Bool
 | []=>true
 | v :: l=>v.under n && underL n l
end
mutual
theorem pure_under (n : Nat) : ∀ (x : AV),x.pure=true→x.under n=true
 | .any,_=>rfl
 | .bool _,_=>rfl
 | .int _ _,_=>rfl
 | .str _,_=>rfl
 | .nilp,_=>rfl
 | .nilf,_=>rfl
 | .nili,_=>rfl
 | .esl,_=>rfl
 | .nilm,_=>rfl
 | .nils,_=>rfl
 | .mref _,hp=>by simp [AV.pure] at hp
 | .nbuf _,hp=>by simp [AV.pure] at hp
 | .ptr ..,hp=>by simp [AV.pure] at hp
 | .osl ..,hp=>by simp [AV.pure] at hp
 | .iptr l,hp=>by simp only [AV.pure,AV.under] at *; exact pureL_under n l hp
 | .isl l,hp=>by simp only [AV.pure,AV.under] at *; exact pureL_under n l hp
 | .agg l,hp=>by simp only [AV.pure,AV.under] at *; exact pureL_under n l hp
 | .tup l,hp=>by simp only [AV.pure,AV.under] at *; exact pureL_under n l hp
 | .clos _ _ l,hp=>by simp only [AV.pure,AV.under] at *; exact pureL_under n l hp
 | .iface _ x,hp=>by simp only [AV.pure,AV.under] at *; exact pure_under n x hp
theorem pureL_under (n : Nat) : ∀ (l : List AV),pureL l=true→underL n l=true
 | [],_=>rfl
 | x :: l,hp=>by
  simp only [pureL,underL,Bool.and_eq_true] at *
  exact ⟨pure_under n x hp.1,pureL_under n l hp.2⟩
end
mutual
theorem Rel.narrow {V : View} {β : Beta} {n : Nat} : ∀ (x : AV) (v : Value),x.under n=true→Rel V β x v→Rel V (restr n β) x v
 | .any,_,_,_=>by unfold Rel; trivial
 | .bool _,_,_,h=>by unfold Rel at *; exact h
 | .int _ _,_,_,h=>by unfold Rel at *; exact h
 | .str _,_,_,h=>by unfold Rel at *; exact h
 | .nilp,_,_,h=>by unfold Rel at *; exact h
 | .nilf,_,_,h=>by unfold Rel at *; exact h
 | .nili,_,_,h=>by unfold Rel at *; exact h
 | .esl,_,_,h=>by unfold Rel at *; exact h
 | .nilm,_,_,h=>by unfold Rel at *; exact h
 | .nils,_,_,h=>by unfold Rel at *; exact h
 | .mref b,_,hp,h=>by
  unfold Rel at *
  obtain ⟨c,h1,h2⟩:=h
  exact ⟨c,by unfold restr; rw [if_pos (by simpa [AV.under] using hp)]; exact h1,h2⟩
 | .nbuf b,_,hp,h=>by
  unfold Rel at *
  exact ⟨by unfold restr; rw [if_pos (by simpa [AV.under] using hp)]; exact h.1,h.2⟩
 | .ptr b ver sz i o,_,hp,h=>by
  unfold Rel at *
  obtain ⟨c,h1,h2⟩:=h
  exact ⟨c,by unfold restr; rw [if_pos (by simpa [AV.under] using hp)]; exact h1,h2⟩
 | .osl b ver sz off len,_,hp,h=>by
  have hr : restr n β b ver = β b ver:=by unfold restr; rw [if_pos (by simpa [AV.under] using hp)]
  unfold Rel at *
  rw [hr]
  exact h
 | .iptr l,v,hp,h=>by
  unfold Rel at *
  obtain ⟨c,o,h1,h2⟩:=h
  exact ⟨c,o,h1,RelC.narrow l c o (by simpa [AV.under] using hp) h2⟩
 | .isl l,v,hp,h=>by
  unfold Rel at *
  obtain ⟨a,cap,h1,h2,h3⟩:=h
  refine ⟨a,cap,h1,h2,?_⟩
  rcases h3 with h3 | ⟨c,o,sz,h3,h4⟩
  ·exact .inl h3
  ·exact .inr ⟨c,o,sz,h3,RelE.narrow l c o sz (by simpa [AV.under] using hp) h4⟩
 | .agg l,v,hp,h=>by
  unfold Rel at *
  obtain ⟨vs,h1,h2⟩:=h
  exact ⟨vs,h1,RelL.narrow l _ (by simpa [AV.under] using hp) h2⟩
 | .tup l,v,hp,h=>by
  unfold Rel at *
  obtain ⟨vs,h1,h2⟩:=h
  exact ⟨vs,h1,RelL.narrow l _ (by simpa [AV.under] using hp) h2⟩
 | .clos f k l,v,hp,h=>by
  unfold Rel at *
  obtain ⟨vs,h1,h2⟩:=h
  exact ⟨vs,h1,RelL.narrow l _ (by simpa [AV.under] using hp) h2⟩
 | .iface t x,v,hp,h=>by
  unfold Rel at *
  obtain ⟨y,h1,h2⟩:=h
  exact ⟨y,h1,Rel.narrow x y (by simpa [AV.under] using hp) h2⟩
theorem RelL.narrow {V : View} {β : Beta} {n : Nat} : ∀ (l : List AV) (vs : List Value),underL n l=true→RelL V β l vs→RelL V (restr n β) l vs
 | [],_,_,h=>by unfold RelL at *; exact h
 | x :: l,vs,hp,h=>by
  unfold RelL at *
  simp only [underL,Bool.and_eq_true] at hp
  obtain ⟨v,r,h1,h2,h3⟩:=h
  exact ⟨v,r,h1,Rel.narrow x v hp.1 h2,RelL.narrow l r hp.2 h3⟩
theorem RelC.narrow {V : View} {β : Beta} {n : Nat} : ∀ (l : List AV) (c o : Nat),underL n l=true→RelC V β c o l→RelC V (restr n β) c o l
 | [],_,_,_,_=>by unfold RelC; trivial
 | x :: l,c,o,hp,h=>by
  unfold RelC at *
  simp only [underL,Bool.and_eq_true] at hp
  obtain ⟨⟨v,h1,h2⟩,h3⟩:=h
  exact ⟨⟨v,h1,Rel.narrow x v hp.1 h2⟩,RelC.narrow l c _ hp.2 h3⟩
theorem RelE.narrow {V : View} {β : Beta} {n : Nat} : ∀ (l : List AV) (c o sz : Nat),underL n l=true→RelE V β c o sz l→RelE V (restr n β) c o sz l
 | [],_,_,_,_,_=>by unfold RelE; trivial
 | .agg k :: r,c,o,sz,hp,h=>by
  simp only [underL,AV.under,Bool.and_eq_true] at hp
  unfold RelE at *
  exact ⟨h.1,RelC.narrow k c o hp.1 h.2.1,RelE.narrow r c _ sz hp.2 h.2.2⟩
 | .any :: r,c,o,sz,hp,h=>by
  simp only [underL,Bool.and_eq_true] at hp
  rw [RelE] at *
  obtain ⟨h0,⟨v,h1,h2⟩,h3⟩:=h
  ·exact ⟨h0,⟨v,h1,Rel.narrow _ v hp.1 h2⟩,RelE.narrow r c _ sz hp.2 h3⟩
  all_goals (intro l h; cases h)
 | .bool b :: r,c,o,sz,hp,h=>by
  simp only [underL,Bool.and_eq_true] at hp
  rw [RelE] at *
  obtain ⟨h0,⟨v,h1,h2⟩,h3⟩:=h
  ·exact ⟨h0,⟨v,h1,Rel.narrow _ v hp.1 h2⟩,RelE.narrow r c _ sz hp.2 h3⟩
  all_goals (intro l h; cases h)
 | .int k n :: r,c,o,sz,hp,h=>by
  simp only [underL,Bool.and_eq_true] at hp
  rw [RelE] at *
  obtain ⟨h0,⟨v,h1,h2⟩,h3⟩:=h
  ·exact ⟨h0,⟨v,h1,Rel.narrow _ v hp.1 h2⟩,RelE.narrow r c _ sz hp.2 h3⟩
  all_goals (intro l h; cases h)
 | .str s :: r,c,o,sz,hp,h=>by
  simp only [underL,Bool.and_eq_true] at hp
  rw [RelE] at *
  obtain ⟨h0,⟨v,h1,h2⟩,h3⟩:=h
  ·exact ⟨h0,⟨v,h1,Rel.narrow _ v hp.1 h2⟩,RelE.narrow r c _ sz hp.2 h3⟩
  all_goals (intro l h; cases h)
 | .nilp :: r,c,o,sz,hp,h=>by
  simp only [underL,Bool.and_eq_true] at hp
  rw [RelE] at *
  obtain ⟨h0,⟨v,h1,h2⟩,h3⟩:=h
  ·exact ⟨h0,⟨v,h1,Rel.narrow _ v hp.1 h2⟩,RelE.narrow r c _ sz hp.2 h3⟩
  all_goals (intro l h; cases h)
 | .nilf :: r,c,o,sz,hp,h=>by
  simp only [underL,Bool.and_eq_true] at hp
  rw [RelE] at *
  obtain ⟨h0,⟨v,h1,h2⟩,h3⟩:=h
  ·exact ⟨h0,⟨v,h1,Rel.narrow _ v hp.1 h2⟩,RelE.narrow r c _ sz hp.2 h3⟩
  all_goals (intro l h; cases h)
 | .nili :: r,c,o,sz,hp,h=>by
  simp only [underL,Bool.and_eq_true] at hp
  rw [RelE] at *
  obtain ⟨h0,⟨v,h1,h2⟩,h3⟩:=h
  ·exact ⟨h0,⟨v,h1,Rel.narrow _ v hp.1 h2⟩,RelE.narrow r c _ sz hp.2 h3⟩
  all_goals (intro l h; cases h)
 | .esl :: r,c,o,sz,hp,h=>by
  simp only [underL,Bool.and_eq_true] at hp
  rw [RelE] at *
  obtain ⟨h0,⟨v,h1,h2⟩,h3⟩:=h
  ·exact ⟨h0,⟨v,h1,Rel.narrow _ v hp.1 h2⟩,RelE.narrow r c _ sz hp.2 h3⟩
  all_goals (intro l h; cases h)
 | .nilm :: r,c,o,sz,hp,h=>by
  simp only [underL,Bool.and_eq_true] at hp
  rw [RelE] at *
  obtain ⟨h0,⟨v,h1,h2⟩,h3⟩:=h
  ·exact ⟨h0,⟨v,h1,Rel.narrow _ v hp.1 h2⟩,RelE.narrow r c _ sz hp.2 h3⟩
  all_goals (intro l h; cases h)
 | .nils :: r,c,o,sz,hp,h=>by
  simp only [underL,Bool.and_eq_true] at hp
  rw [RelE] at *
  obtain ⟨h0,⟨v,h1,h2⟩,h3⟩:=h
  ·exact ⟨h0,⟨v,h1,Rel.narrow _ v hp.1 h2⟩,RelE.narrow r c _ sz hp.2 h3⟩
  all_goals (intro l h; cases h)
 | .mref b :: r,c,o,sz,hp,h=>by
  simp only [underL,Bool.and_eq_true] at hp
  rw [RelE] at *
  obtain ⟨h0,⟨v,h1,h2⟩,h3⟩:=h
  ·exact ⟨h0,⟨v,h1,Rel.narrow (.mref b) v hp.1 h2⟩,RelE.narrow r c _ sz hp.2 h3⟩
  all_goals (intro l h; cases h)
 | .nbuf b :: r,c,o,sz,hp,h=>by
  simp only [underL,Bool.and_eq_true] at hp
  rw [RelE] at *
  obtain ⟨h0,⟨v,h1,h2⟩,h3⟩:=h
  ·exact ⟨h0,⟨v,h1,Rel.narrow (.nbuf b) v hp.1 h2⟩,RelE.narrow r c _ sz hp.2 h3⟩
  all_goals (intro l h; cases h)
 | .ptr b ver z i q :: r,c,o,sz,hp,h=>by
  simp only [underL,Bool.and_eq_true] at hp
  rw [RelE] at *
  obtain ⟨h0,⟨v,h1,h2⟩,h3⟩:=h
  ·exact ⟨h0,⟨v,h1,Rel.narrow _ v hp.1 h2⟩,RelE.narrow r c _ sz hp.2 h3⟩
  all_goals (intro l h; cases h)
 | .osl b ver z q m :: r,c,o,sz,hp,h=>by
  simp only [underL,Bool.and_eq_true] at hp
  rw [RelE] at *
  obtain ⟨h0,⟨v,h1,h2⟩,h3⟩:=h
  ·exact ⟨h0,⟨v,h1,Rel.narrow _ v hp.1 h2⟩,RelE.narrow r c _ sz hp.2 h3⟩
  all_goals (intro l h; cases h)
 | .iptr l :: r,c,o,sz,hp,h=>by
  simp only [underL,Bool.and_eq_true] at hp
  rw [RelE] at *
  obtain ⟨h0,⟨v,h1,h2⟩,h3⟩:=h
  ·exact ⟨h0,⟨v,h1,Rel.narrow (.iptr l) v hp.1 h2⟩,RelE.narrow r c _ sz hp.2 h3⟩
  all_goals (intro l h; cases h)
 | .isl l :: r,c,o,sz,hp,h=>by
  simp only [underL,Bool.and_eq_true] at hp
  rw [RelE] at *
  obtain ⟨h0,⟨v,h1,h2⟩,h3⟩:=h
  ·exact ⟨h0,⟨v,h1,Rel.narrow (.isl l) v hp.1 h2⟩,RelE.narrow r c _ sz hp.2 h3⟩
  all_goals (intro l h; cases h)
 | .tup l :: r,c,o,sz,hp,h=>by
  simp only [underL,Bool.and_eq_true] at hp
  rw [RelE] at *
  obtain ⟨h0,⟨v,h1,h2⟩,h3⟩:=h
  ·exact ⟨h0,⟨v,h1,Rel.narrow (.tup l) v hp.1 h2⟩,RelE.narrow r c _ sz hp.2 h3⟩
  all_goals (intro l h; cases h)
 | .clos f k l :: r,c,o,sz,hp,h=>by
  simp only [underL,Bool.and_eq_true] at hp
  rw [RelE] at *
  obtain ⟨h0,⟨v,h1,h2⟩,h3⟩:=h
  ·exact ⟨h0,⟨v,h1,Rel.narrow (.clos f k l) v hp.1 h2⟩,RelE.narrow r c _ sz hp.2 h3⟩
  all_goals (intro l h; cases h)
 | .iface t x :: r,c,o,sz,hp,h=>by
  simp only [underL,Bool.and_eq_true] at hp
  rw [RelE] at *
  obtain ⟨h0,⟨v,h1,h2⟩,h3⟩:=h
  ·exact ⟨h0,⟨v,h1,Rel.narrow (.iface t x) v hp.1 h2⟩,RelE.narrow r c _ sz hp.2 h3⟩
  all_goals (intro l h; cases h)
end
mutual
theorem Rel.isUnder {V : View} {β : Beta} {n : Nat} (hn : ∀ b v x,β b v=some x→b < n) : ∀ (x : AV) (v : Value),Rel V β x v→x.under n=true
 | .any,_,_=>rfl
 | .bool _,_,_=>rfl
 | .int _ _,_,_=>rfl
 | .str _,_,_=>rfl
 | .nilp,_,_=>rfl
 | .nilf,_,_=>rfl
 | .nili,_,_=>rfl
 | .esl,_,_=>rfl
 | .nilm,_,_=>rfl
 | .nils,_,_=>rfl
 | .mref b,_,h=>by
  unfold Rel at h
  obtain ⟨c,h1,_⟩:=h
  simp only [AV.under,decide_eq_true_eq]
  exact hn _ _ _ h1
 | .nbuf b,_,h=>by
  unfold Rel at h
  simp only [AV.under,decide_eq_true_eq]
  exact hn _ _ _ h.1
 | .ptr b ver sz i o,_,h=>by
  unfold Rel at h
  obtain ⟨c,h1,_⟩:=h
  simp only [AV.under,decide_eq_true_eq]
  exact hn _ _ _ h1
 | .osl b ver sz off len,_,h=>by
  unfold Rel at h
  simp only [AV.under,decide_eq_true_eq]
  rcases h with ⟨c,_,h1,_⟩ | ⟨h1,_⟩ <;> exact hn _ _ _ h1
 | .iptr l,v,h=>by
  unfold Rel at h
  obtain ⟨c,o,_,h2⟩:=h
  simp only [AV.under]
  exact RelC.isUnder hn l c o h2
 | .isl l,v,h=>by
  unfold Rel at h
  obtain ⟨a,cap,_,_,h3⟩:=h
  simp only [AV.under]
  rcases h3 with rfl | ⟨c,o,sz,_,h4⟩
  ·rfl
  ·exact RelE.isUnder hn l c o sz h4
 | .agg l,v,h=>by
  unfold Rel at h
  obtain ⟨vs,_,h2⟩:=h
  simp only [AV.under]
  exact RelL.isUnder hn l _ h2
 | .tup l,v,h=>by
  unfold Rel at h
  obtain ⟨vs,_,h2⟩:=h
  simp only [AV.under]
  exact RelL.isUnder hn l _ h2
 | .clos f k l,v,h=>by
  unfold Rel at h
  obtain ⟨vs,_,h2⟩:=h
  simp only [AV.under]
  exact RelL.isUnder hn l _ h2
 | .iface t x,v,h=>by
  unfold Rel at h
  obtain ⟨y,_,h2⟩:=h
  simp only [AV.under]
  exact Rel.isUnder hn x y h2
theorem RelL.isUnder {V : View} {β : Beta} {n : Nat} (hn : ∀ b v x,β b v=some x→b < n) : ∀ (l : List AV) (vs : List Value),RelL V β l vs→underL n l=true
 | [],_,_=>rfl
 | x :: l,vs,h=>by
  unfold RelL at h
  obtain ⟨v,r,_,h2,h3⟩:=h
  simp only [underL,Bool.and_eq_true]
  exact ⟨Rel.isUnder hn x v h2,RelL.isUnder hn l r h3⟩
theorem RelC.isUnder {V : View} {β : Beta} {n : Nat} (hn : ∀ b v x,β b v=some x→b < n) : ∀ (l : List AV) (c o : Nat),RelC V β c o l→underL n l=true
 | [],_,_,_=>rfl
 | x :: l,c,o,h=>by
  unfold RelC at h
  obtain ⟨⟨v,_,h2⟩,h3⟩:=h
  simp only [underL,Bool.and_eq_true]
  exact ⟨Rel.isUnder hn x v h2,RelC.isUnder hn l c _ h3⟩
theorem RelE.isUnder {V : View} {β : Beta} {n : Nat} (hn : ∀ b v x,β b v=some x→b < n) : ∀ (l : List AV) (c o sz : Nat),RelE V β c o sz l→underL n l=true
 | [],_,_,_,_=>rfl
 | .agg k :: r,c,o,sz,h=>by
  unfold RelE at h
  simp only [underL,AV.under,Bool.and_eq_true]
  exact ⟨RelC.isUnder hn k c o h.2.1,RelE.isUnder hn r c _ sz h.2.2⟩
 | .any :: r,c,o,sz,h=>by
  rw [RelE] at h
  obtain ⟨_,⟨v,_,h2⟩,h3⟩:=h
  ·rw [underL,Rel.isUnder hn _ v h2,RelE.isUnder hn r c _ sz h3]; rfl
  all_goals (intro l h; cases h)
 | .bool b :: r,c,o,sz,h=>by
  rw [RelE] at h
  obtain ⟨_,⟨v,_,h2⟩,h3⟩:=h
  ·rw [underL,Rel.isUnder hn _ v h2,RelE.isUnder hn r c _ sz h3]; rfl
  all_goals (intro l h; cases h)
 | .int k m :: r,c,o,sz,h=>by
  rw [RelE] at h
  obtain ⟨_,⟨v,_,h2⟩,h3⟩:=h
  ·rw [underL,Rel.isUnder hn _ v h2,RelE.isUnder hn r c _ sz h3]; rfl
  all_goals (intro l h; cases h)
 | .str s :: r,c,o,sz,h=>by
  rw [RelE] at h
  obtain ⟨_,⟨v,_,h2⟩,h3⟩:=h
  ·rw [underL,Rel.isUnder hn _ v h2,RelE.isUnder hn r c _ sz h3]; rfl
  all_goals (intro l h; cases h)
 | .nilp :: r,c,o,sz,h=>by
  rw [RelE] at h
  obtain ⟨_,⟨v,_,h2⟩,h3⟩:=h
  ·rw [underL,Rel.isUnder hn _ v h2,RelE.isUnder hn r c _ sz h3]; rfl
  all_goals (intro l h; cases h)
 | .nilm :: r,c,o,sz,h=>by
  rw [RelE] at h
  obtain ⟨_,⟨v,_,h2⟩,h3⟩:=h
  ·rw [underL,Rel.isUnder hn _ v h2,RelE.isUnder hn r c _ sz h3]; rfl
  all_goals (intro l h; cases h)
 | .nils :: r,c,o,sz,h=>by
  rw [RelE] at h
  obtain ⟨_,⟨v,_,h2⟩,h3⟩:=h
  ·rw [underL,Rel.isUnder hn _ v h2,RelE.isUnder hn r c _ sz h3]; rfl
  all_goals (intro l h; cases h)
 | .mref b :: r,c,o,sz,h=>by
  rw [RelE] at h
  obtain ⟨_,⟨v,_,h2⟩,h3⟩:=h
  ·rw [underL,Rel.isUnder hn _ v h2,RelE.isUnder hn r c _ sz h3]; rfl
  all_goals (intro l h; cases h)
 | .nbuf b :: r,c,o,sz,h=>by
  rw [RelE] at h
  obtain ⟨_,⟨v,_,h2⟩,h3⟩:=h
  ·rw [underL,Rel.isUnder hn _ v h2,RelE.isUnder hn r c _ sz h3]; rfl
  all_goals (intro l h; cases h)
 | .ptr b ver z i q :: r,c,o,sz,h=>by
  rw [RelE] at h
  obtain ⟨_,⟨v,_,h2⟩,h3⟩:=h
  ·rw [underL,Rel.isUnder hn _ v h2,RelE.isUnder hn r c _ sz h3]; rfl
  all_goals (intro l h; cases h)
 | .iptr k :: r,c,o,sz,h=>by
  rw [RelE] at h
  obtain ⟨_,⟨v,_,h2⟩,h3⟩:=h
  ·rw [underL,Rel.isUnder hn _ v h2,RelE.isUnder hn r c _ sz h3]; rfl
  all_goals (intro l h; cases h)
 | .isl k :: r,c,o,sz,h=>by
  rw [RelE] at h
  obtain ⟨_,⟨v,_,h2⟩,h3⟩:=h
  ·rw [underL,Rel.isUnder hn _ v h2,RelE.isUnder hn r c _ sz h3]; rfl
  all_goals (intro l h; cases h)
 | .esl :: r,c,o,sz,h=>by
  rw [RelE] at h
  obtain ⟨_,⟨v,_,h2⟩,h3⟩:=h
  ·rw [underL,Rel.isUnder hn _ v h2,RelE.isUnder hn r c _ sz h3]; rfl
  all_goals (intro l h; cases h)
 | .osl b ver z q m :: r,c,o,sz,h=>by
  rw [RelE] at h
  obtain ⟨_,⟨v,_,h2⟩,h3⟩:=h
  ·rw [underL,Rel.isUnder hn _ v h2,RelE.isUnder hn r c _ sz h3]; rfl
  all_goals (intro l h; cases h)
 | .tup k :: r,c,o,sz,h=>by
  rw [RelE] at h
  obtain ⟨_,⟨v,_,h2⟩,h3⟩:=h
  ·rw [underL,Rel.isUnder hn _ v h2,RelE.isUnder hn r c _ sz h3]; rfl
  all_goals (intro l h; cases h)
 | .clos f q k :: r,c,o,sz,h=>by
  rw [RelE] at h
  obtain ⟨_,⟨v,_,h2⟩,h3⟩:=h
  ·rw [underL,Rel.isUnder hn _ v h2,RelE.isUnder hn r c _ sz h3]; rfl
  all_goals (intro l h; cases h)
 | .nilf :: r,c,o,sz,h=>by
  rw [RelE] at h
  obtain ⟨_,⟨v,_,h2⟩,h3⟩:=h
  ·rw [underL,Rel.isUnder hn _ v h2,RelE.isUnder hn r c _ sz h3]; rfl
  all_goals (intro l h; cases h)
 | .nili :: r,c,o,sz,h=>by
  rw [RelE] at h
  obtain ⟨_,⟨v,_,h2⟩,h3⟩:=h
  ·rw [underL,Rel.isUnder hn _ v h2,RelE.isUnder hn r c _ sz h3]; rfl
  all_goals (intro l h; cases h)
 | .iface t x :: r,c,o,sz,h=>by
  rw [RelE] at h
  obtain ⟨_,⟨v,_,h2⟩,h3⟩:=h
  ·rw [underL,Rel.isUnder hn _ v h2,RelE.isUnder hn r c _ sz h3]; rfl
  all_goals (intro l h; cases h)
end
mutual
theorem under_top (n : Nat) : ∀ (x : AV),x.under n=true ↔ x.top≤n
 | .any | .bool _ | .int _ _ | .str _ | .nilp | .nilf | .nili | .esl | .nilm | .nils=>by simp [AV.under,AV.top]
 | .ptr .. | .osl .. | .mref _ | .nbuf _=>by simp [AV.under,AV.top]; omega
 | .iptr l | .isl l | .agg l | .tup l | .clos _ _ l=>by simp only [AV.under,AV.top]; exact underL_top n l
 | .iface _ x=>by simp only [AV.under,AV.top]; exact under_top n x
theorem underL_top (n : Nat) : ∀ (l : List AV),underL n l=true ↔ topL l≤n
 | []=>by simp [underL,topL]
 | x :: l=>by
  simp only [underL,topL,Bool.and_eq_true,under_top n x,underL_top n l]
  omega
end
theorem pure_top {x : AV} (h : x.pure=true) : x.top=0:=Nat.le_zero.1 ((under_top 0 x).1 (pure_under 0 x h))
end Go.Avm
