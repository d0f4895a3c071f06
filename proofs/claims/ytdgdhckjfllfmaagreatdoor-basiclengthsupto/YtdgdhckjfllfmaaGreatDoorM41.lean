/- The head of an element with a length: the program. -/
import Derived.Test.YtdgdhckjfllfmaaGreatDoorM33
import Derived.Test.YtdgdhckjfllfmaaGreatDoorM40
set_option linter.all false
namespace Go.Proofs.YtdgdhckjfllfmaaGreatDoor
open Go Go.Avm
theorem wrap_u8 {n : Int} (h0 : 0≤n) (h1 : n < 256) : IntKind.wrap .u8 n=n:=by
 simp [IntKind.wrap,IntKind.bits,IntKind.signed]; omega
theorem wrap_u8m (n : Nat) : IntKind.wrap .u8 (n : Int)=(n % 256 : Nat):=by
 simp [IntKind.wrap,IntKind.bits,IntKind.signed]
def lenL (n : Nat) : List UInt8:=if n < 128 then [UInt8.ofNat n] else if n < 256 then [129,UInt8.ofNat n] else [130,UInt8.ofNat (n / 256),UInt8.ofNat (n % 256)]
def lenS (n : Nat) : ByteArray:=⟨(lenL n).toArray⟩
theorem length_ok (n : Nat) (hn : n≤65535) (ws : Nat) (h : Avm.H) : callL cfg ws 9 [.int .i64 n] h=some (.str (lenS n),h):=by
 refine callL_fn rfl rfl ?_
 unfold lenS lenL
 by_cases q1 : n < 128
 ·have i1 : (n : Int) < 128:=by omega
  have w1 : IntKind.wrap .u8 (n : Int)=n:=wrap_u8 (by omega) (by omega)
  simp [F9,c9,q1,i1,w1,bslP,bytesL]
 ·have i1 : ¬ (n : Int) < 128:=by omega
  by_cases q2 : n < 256
  ·have i2 : (n : Int) < 256:=by omega
   have w1 : IntKind.wrap .u8 (n : Int)=n:=wrap_u8 (by omega) (by omega)
   simp [F9,c9,q1,i1,q2,i2,w1,bslP,bytesL]
  ·have i2 : ¬ (n : Int) < 256:=by omega
   have hs : Int.fdiv (n : Int) 256=((n / 256 : Nat) : Int):=by rw [Int.fdiv_eq_ediv_of_nonneg _ (by omega)]; omega
   have w1 : IntKind.wrap .u8 ((n / 256 : Nat) : Int)=((n / 256 : Nat) : Int):=wrap_u8 (by omega) (by omega)
   have w2:=wrap_u8m n
   simp [F9,c9,q1,i1,q2,i2,hs,w1,w2,bslP,bytesL]
   refine ⟨?_,?_⟩
   ·rw [show (2 : Int) ^ min 8 IntKind.i64.bits=256 by decide,hs,w1,Int.toNat_natCast]
   ·congr 1
theorem rlength_ok (n : Nat) (hn : n≤65535) (ws : Nat) (h : Avm.H) : callL cfg ws 10 [.int .i64 n] h=some (.str (lenS n),h):=by
 refine callL_fn rfl rfl ?_
 unfold lenS lenL
 by_cases q1 : n < 128
 ·have i1 : (n : Int) < 128:=by omega
  have w1 : IntKind.wrap .u8 (n : Int)=n:=wrap_u8 (by omega) (by omega)
  simp [F10,c10,q1,i1,w1,bslP,bytesL]
 ·have i1 : ¬ (n : Int) < 128:=by omega
  by_cases q2 : n < 256
  ·have i2 : (n : Int) < 256:=by omega
   have w1 : IntKind.wrap .u8 (n : Int)=n:=wrap_u8 (by omega) (by omega)
   simp [F10,c10,q1,i1,q2,i2,w1,bslP,bytesL]
  ·have i2 : ¬ (n : Int) < 256:=by omega
   have hs : Int.tdiv (n : Int) 256=((n / 256 : Nat) : Int):=by rw [Int.tdiv_eq_ediv_of_nonneg (by omega)]; omega
   have hm : Int.tmod (n : Int) 256=((n % 256 : Nat) : Int):=by rw [Int.tmod_eq_emod_of_nonneg (by omega)]; omega
   have w0 : IntKind.wrap .i64 ((n / 256 : Nat) : Int)=((n / 256 : Nat) : Int):=wrap_nat (by omega)
   have w1 : IntKind.wrap .u8 ((n / 256 : Nat) : Int)=((n / 256 : Nat) : Int):=wrap_u8 (by omega) (by omega)
   have w2 : IntKind.wrap .u8 ((n % 256 : Nat) : Int)=((n % 256 : Nat) : Int):=wrap_u8 (by omega) (by omega)
   simp [F10,c10,q1,i1,q2,i2,hs,hm,w0,w1,w2,bslP,bytesL]
   refine ⟨?_,?_⟩
   ·rw [show (n : Int) / 256=((n / 256 : Nat) : Int) by omega,w0,w1,Int.toNat_natCast]
   ·rw [show (n : Int) % 256=((n % 256 : Nat) : Int) by omega,w2,Int.toNat_natCast]
def lenP (n : Int) : ByteArray × Int:=if n < 0 ∨ 65535 < n then (⟨#[]⟩,1) else (lenS n.toNat,0)
theorem Length_ok (n : Int) (ws : Nat) (h : Avm.H) : callL cfg ws 4 [.int .i64 n] h=some (.tup [.str (lenP n).1,.int .i64 (lenP n).2],h):=by
 unfold lenP
 refine callL_fn rfl rfl ?_
 by_cases q1 : n < 0
 ·simp [F4,c4,q1]
 ·by_cases q2 : 65535 < n
  ·simp [F4,c4,q1,q2]
  ·have e1:=fun ws h=>length_ok n.toNat (by omega) ws h
   have hn : ((n.toNat : Nat) : Int)=n:=by omega
   rw [hn] at e1
   simp [F4,c4,q1,q2,e1]
theorem rLength_ok (n : Int) (ws : Nat) (h : Avm.H) : callL cfg ws 5 [.int .i64 n] h=some (.tup [.str (lenP n).1,.int .i64 (lenP n).2],h):=by
 unfold lenP
 refine callL_fn rfl rfl ?_
 by_cases q1 : n < 0
 ·simp [F5,c5,q1]
 ·by_cases q2 : 65535 < n
  ·simp [F5,c5,q1,q2]
  ·have e1:=fun ws h=>rlength_ok n.toNat (by omega) ws h
   have hn : ((n.toNat : Nat) : Int)=n:=by omega
   rw [hn] at e1
   simp [F5,c5,q1,q2,e1]
theorem told_ok (b : Bool) (e : Int) (ws : Nat) (h : Avm.H) : callL cfg ws 24 [.bool b,.int .i64 e] h=some (.int .i64 (if b=true then 0 else e),h):=by
 refine callL_fn rfl rfl ?_
 cases b <;> simp [F24,c24]
theorem or_zero (n : Nat) (hn : n < 256) : (BitVec.ofInt 64 0 ||| BitVec.ofInt 64 (n : Int)).toNat=n:=by
 simp
 omega
theorem or_bytes (a b : Nat) (ha : a < 256) (hb : b < 256) : (BitVec.ofInt 64 ((a * 256 : Nat) : Int) ||| BitVec.ofInt 64 (b : Int)).toNat=a * 256 + b:=by
 have h1 : (BitVec.ofInt 64 ((a * 256 : Nat) : Int)).toNat=a * 256:=by simp; omega
 have h2 : (BitVec.ofInt 64 (b : Int)).toNat=b:=by simp; omega
 rw [BitVec.toNat_or,h1,h2]
 have h3:=Nat.shiftLeft_add_eq_or_of_lt (i:=8) (b:=b) (by omega) a
 rw [Nat.shiftLeft_eq] at h3
 exact h3.symm
end Go.Proofs.YtdgdhckjfllfmaaGreatDoor
namespace Go.Proofs.YtdgdhckjfllfmaaGreatDoor
open Go Go.Avm
def elemL (n : Nat) : List UInt8:=4 :: (lenL n++List.replicate n 0)
theorem pow8 : (2 : Int) ^ min 8 IntKind.i64.bits=256:=by decide
theorem bits64 : IntKind.i64.bits=64:=rfl
theorem wk0 : IntKind.wrap .i64 0=0:=by decide
theorem wk1 : IntKind.wrap .i64 1=1:=by decide
theorem wk2 : IntKind.wrap .i64 2=2:=by decide
theorem wk3 : IntKind.wrap .i64 3=3:=by decide
theorem wk4 : IntKind.wrap .i64 4=4:=by decide
theorem wk128 : IntKind.wrap .i64 128=128:=by decide
theorem wk129 : IntKind.wrap .i64 129=129:=by decide
theorem wk130 : IntKind.wrap .i64 130=130:=by decide
theorem b4 : (UInt8.toNat 4 : Int)=4:=rfl
theorem toNat8 {n : Nat} (h : n < 256) : (UInt8.ofNat n).toNat=n:=by
 simp; omega
theorem headed_1 (b : ByteArray) (n : Nat) (hn : n < 128) (hb : b.data.toList=elemL n) (ws : Nat) (h : Avm.H) : callL cfg ws 15 [.str b,.int .i64 0,.int .i64 b.size] h=some (.tup [.agg [.int .i64 4,.int .i64 2,.int .i64 n],.int .i64 0],h):=by
 have hl : elemL n=4 :: UInt8.ofNat n :: List.replicate n 0:=by simp [elemL,lenL,hn]
 rw [hl] at hb
 have hsz : b.size=n + 2:=by
  have : b.size=b.data.toList.length:=by rw [Array.length_toList]; rfl
  rw [this,hb]; simp
 have t1:=fun b e ws h=>told_ok b e ws h
 have n8 : (UInt8.ofNat n).toNat=n:=toNat8 (by omega)
 have w1 : IntKind.wrap .i64 (n : Int)=n:=wrap_nat (by omega)
 have w2 : IntKind.wrap .i64 ((n : Int) + 2)=n + 2:=wrap_id (by omega) (by omega)
 have w3 : IntKind.wrap .i64 (2 + (n : Int))=2 + n:=wrap_id (by omega) (by omega)
 have i1 : (n : Int) < 128:=by omega
 have i2 : ¬ (n : Int) + 2 < 2:=by omega
 have i3 : (2 : Int) + n≤n + 2:=by omega
 refine callL_fn rfl rfl ?_
 simp [-List.reduceReplicate,F15,c15,wk0,wk1,wk2,wk3,wk4,wk128,wk129,wk130,hb,hsz,n8,w1,w2,w3,i1,i2,i3,t1]
theorem headed_2 (b : ByteArray) (n : Nat) (h0 : ¬ n < 128) (hn : n < 256) (hb : b.data.toList=elemL n) (ws : Nat) (h : Avm.H) : callL cfg ws 15 [.str b,.int .i64 0,.int .i64 b.size] h=some (.tup [.agg [.int .i64 4,.int .i64 3,.int .i64 n],.int .i64 0],h):=by
 have hl : elemL n=4 :: 129 :: UInt8.ofNat n :: List.replicate n 0:=by simp [elemL,lenL,h0,hn]
 rw [hl] at hb
 have hsz : b.size=n + 3:=by
  have : b.size=b.data.toList.length:=by rw [Array.length_toList]; rfl
  rw [this,hb]; simp
 have t1:=fun b e ws h=>told_ok b e ws h
 have n8 : (UInt8.ofNat n).toNat=n:=toNat8 (by omega)
 have w1 : IntKind.wrap .i64 (n : Int)=n:=wrap_nat (by omega)
 have w2 : IntKind.wrap .i64 ((n : Int) + 3)=n + 3:=wrap_id (by omega) (by omega)
 have w3 : IntKind.wrap .i64 (3 + (n : Int))=3 + n:=wrap_id (by omega) (by omega)
 have w4 : IntKind.wrap .i64 ((n : Int) + 3 - 2)=n + 1:=by rw [wrap_id (by omega) (by omega)]; omega
 have i2 : ¬ (n : Int) + 3 < 2:=by omega
 have i3 : (3 : Int) + n≤n + 3:=by omega
 have i4 : ¬ (n : Int) + 1 < 1:=by omega
 have m64 : (n : Int) % 2 ^ IntKind.i64.bits=n:=by rw [show (2 : Int) ^ IntKind.i64.bits=18446744073709551616 by decide]; omega
 have l1 : roundsL (evC (callL cfg) roundsL cfg.pol h.length h.length c15L0) [0,2,6,8,61,62] [(0,.str b),(2,.int .i64 ((n : Int) + 3)),(6,.ptr h.length 0 3 0 0),(8,.ptr (h.length + 1) 0 3 0 0),(61,.int .i64 1),(62,.int .i64 1)] (h++[.arr 0 3 [.agg [.int .i64 0,.int .i64 0,.int .i64 0]],.arr 0 3 [.agg [.int .i64 4,.int .i64 3,.int .i64 n]]])=some (.exit 0,[(0,.str b),(2,.int .i64 ((n : Int) + 3)),(6,.ptr h.length 0 3 0 0),(8,.ptr (h.length + 1) 0 3 0 0),(61,.int .i64 1),(62,.int .i64 1)],(h++[.arr 0 3 [.agg [.int .i64 0,.int .i64 0,.int .i64 0]],.arr 0 3 [.agg [.int .i64 4,.int .i64 3,.int .i64 n]]])):=
  roundsL_k fun K hK=>by simp [c15L0]
 have l0 : roundsL (evC (callL cfg) roundsL cfg.pol h.length h.length c15L0) [0,2,6,8,61,62] [(0,.str b),(2,.int .i64 ((n : Int) + 3)),(6,.ptr h.length 0 3 0 0),(8,.ptr (h.length + 1) 0 3 0 0),(61,.int .i64 1),(62,.int .i64 0)] (h++[.arr 0 3 [.agg [.int .i64 0,.int .i64 0,.int .i64 0]],.arr 0 3 [.agg [.int .i64 4,.int .i64 2,.int .i64 0]]])=some (.exit 0,[(0,.str b),(2,.int .i64 ((n : Int) + 3)),(6,.ptr h.length 0 3 0 0),(8,.ptr (h.length + 1) 0 3 0 0),(61,.int .i64 1),(62,.int .i64 1)],(h++[.arr 0 3 [.agg [.int .i64 0,.int .i64 0,.int .i64 0]],.arr 0 3 [.agg [.int .i64 4,.int .i64 3,.int .i64 n]]])):=
  roundsL_k fun K hK=>by
   simp [-List.reduceReplicate,c15L0,wk0,wk1,wk2,wk3,wk4,wk128,wk129,wk130,hb,n8,w1,pow8,m64]
   rw [hK,← l1]
 refine callL_fn rfl rfl ?_
 simp [-List.reduceReplicate,F15,c15,wk0,wk1,wk2,wk3,wk4,wk128,wk129,wk130,hb,hsz,n8,w1,w2,w3,w4,i2,i3,i4,t1,l0]
theorem headed_3 (b : ByteArray) (n : Nat) (h0 : ¬ n < 128) (h1 : ¬ n < 256) (hn : n≤65535) (hb : b.data.toList=elemL n) (ws : Nat) (h : Avm.H) : callL cfg ws 15 [.str b,.int .i64 0,.int .i64 b.size] h=some (.tup [.agg [.int .i64 4,.int .i64 4,.int .i64 n],.int .i64 0],h):=by
 have hl : elemL n=4 :: 130 :: UInt8.ofNat (n / 256) :: UInt8.ofNat (n % 256) :: List.replicate n 0:=by simp [elemL,lenL,h0,h1]
 rw [hl] at hb
 have hsz : b.size=n + 4:=by
  have : b.size=b.data.toList.length:=by rw [Array.length_toList]; rfl
  rw [this,hb]; simp
 have t1:=fun b e ws h=>told_ok b e ws h
 obtain ⟨x,hx⟩ : ∃ x,n / 256=x:=⟨_,rfl⟩
 obtain ⟨y,hy⟩ : ∃ y,n % 256=y:=⟨_,rfl⟩
 have hxy : n=x * 256 + y:=by omega
 rw [hx,hy] at hb
 have n8 : (UInt8.ofNat x).toNat=x:=toNat8 (by omega)
 have m8 : (UInt8.ofNat y).toNat=y:=toNat8 (by omega)
 have wx : IntKind.wrap .i64 (x : Int)=x:=wrap_nat (by omega)
 have wy : IntKind.wrap .i64 (y : Int)=y:=wrap_nat (by omega)
 have wz : IntKind.wrap .i64 ((x : Int) * 256)=((x * 256 : Nat) : Int):=by rw [wrap_id (by omega) (by omega)]; omega
 have w1 : IntKind.wrap .i64 (n : Int)=n:=wrap_nat (by omega)
 have w2 : IntKind.wrap .i64 ((n : Int) + 4)=n + 4:=wrap_id (by omega) (by omega)
 have w3 : IntKind.wrap .i64 (4 + (n : Int))=4 + n:=wrap_id (by omega) (by omega)
 have w4 : IntKind.wrap .i64 ((n : Int) + 4 - 2)=n + 2:=by rw [wrap_id (by omega) (by omega)]; omega
 have i2 : ¬ (n : Int) + 4 < 2:=by omega
 have i3 : (4 : Int) + n≤n + 4:=by omega
 have i4 : ¬ (n : Int) + 2 < 2:=by omega
 have m64 : (x : Int) % 2 ^ IntKind.i64.bits=x:=by rw [show (2 : Int) ^ IntKind.i64.bits=18446744073709551616 by decide]; omega
 have p0 : (2 : Int) ^ IntKind.i64.bits=18446744073709551616:=by decide
 have p1 : ((x : Int) * 256 % 2 ^ IntKind.i64.bits).toNat=x * 256:=by rw [p0]; omega
 have p2 : y % 2 ^ IntKind.i64.bits=y:=by rw [show 2 ^ IntKind.i64.bits=18446744073709551616 by decide]; omega
 have p3 : x * 256 ||| y=n:=by
  have h3:=Nat.shiftLeft_add_eq_or_of_lt (i:=8) (b:=y) (by omega) x
  rw [Nat.shiftLeft_eq] at h3
  rw [← h3]; omega
 have l2 : roundsL (evC (callL cfg) roundsL cfg.pol h.length h.length c15L0) [0,2,6,8,61,62] [(0,.str b),(2,.int .i64 ((n : Int) + 4)),(6,.ptr h.length 0 3 0 0),(8,.ptr (h.length + 1) 0 3 0 0),(61,.int .i64 2),(62,.int .i64 2)] (h++[.arr 0 3 [.agg [.int .i64 0,.int .i64 0,.int .i64 0]],.arr 0 3 [.agg [.int .i64 4,.int .i64 4,.int .i64 n]]])=some (.exit 0,[(0,.str b),(2,.int .i64 ((n : Int) + 4)),(6,.ptr h.length 0 3 0 0),(8,.ptr (h.length + 1) 0 3 0 0),(61,.int .i64 2),(62,.int .i64 2)],(h++[.arr 0 3 [.agg [.int .i64 0,.int .i64 0,.int .i64 0]],.arr 0 3 [.agg [.int .i64 4,.int .i64 4,.int .i64 n]]])):=
  roundsL_k fun K hK=>by simp [c15L0]
 have l1 : roundsL (evC (callL cfg) roundsL cfg.pol h.length h.length c15L0) [0,2,6,8,61,62] [(0,.str b),(2,.int .i64 ((n : Int) + 4)),(6,.ptr h.length 0 3 0 0),(8,.ptr (h.length + 1) 0 3 0 0),(61,.int .i64 2),(62,.int .i64 1)] (h++[.arr 0 3 [.agg [.int .i64 0,.int .i64 0,.int .i64 0]],.arr 0 3 [.agg [.int .i64 4,.int .i64 3,.int .i64 x]]])=some (.exit 0,[(0,.str b),(2,.int .i64 ((n : Int) + 4)),(6,.ptr h.length 0 3 0 0),(8,.ptr (h.length + 1) 0 3 0 0),(61,.int .i64 2),(62,.int .i64 2)],(h++[.arr 0 3 [.agg [.int .i64 0,.int .i64 0,.int .i64 0]],.arr 0 3 [.agg [.int .i64 4,.int .i64 4,.int .i64 n]]])):=
  roundsL_k fun K hK=>by
   simp [-List.reduceReplicate,c15L0,wk0,wk1,wk2,wk3,wk4,wk128,wk129,wk130,hb,m8,wy,wz,pow8,p1,p2,p3,w1]
   rw [hK,← l2]
 have l0 : roundsL (evC (callL cfg) roundsL cfg.pol h.length h.length c15L0) [0,2,6,8,61,62] [(0,.str b),(2,.int .i64 ((n : Int) + 4)),(6,.ptr h.length 0 3 0 0),(8,.ptr (h.length + 1) 0 3 0 0),(61,.int .i64 2),(62,.int .i64 0)] (h++[.arr 0 3 [.agg [.int .i64 0,.int .i64 0,.int .i64 0]],.arr 0 3 [.agg [.int .i64 4,.int .i64 2,.int .i64 0]]])=some (.exit 0,[(0,.str b),(2,.int .i64 ((n : Int) + 4)),(6,.ptr h.length 0 3 0 0),(8,.ptr (h.length + 1) 0 3 0 0),(61,.int .i64 2),(62,.int .i64 2)],(h++[.arr 0 3 [.agg [.int .i64 0,.int .i64 0,.int .i64 0]],.arr 0 3 [.agg [.int .i64 4,.int .i64 4,.int .i64 n]]])):=
  roundsL_k fun K hK=>by
   simp [-List.reduceReplicate,c15L0,wk0,wk1,wk2,wk3,wk4,wk128,wk129,wk130,hb,n8,wx,pow8,m64]
   rw [hK,← l1]
 refine callL_fn rfl rfl ?_
 simp [-List.reduceReplicate,F15,c15,wk0,wk1,wk2,wk3,wk4,wk128,wk129,wk130,hb,hsz,w1,w2,w3,w4,i2,i3,i4,t1,l0]
end Go.Proofs.YtdgdhckjfllfmaaGreatDoor
