/- The functions of the program, as the abstract machine has them. Printed by a program of our own. -/
import Derived.Test.YtpnnkjhofkignaaGreatDoorAvmFin
set_option linter.all false
namespace Go.Proofs.YtpnnkjhofkignaaGreatDoor
open Go Go.Avm
-- 3: heptad/heptadlaw24.AssocNil
/-- heptad/heptadlaw24.AssocNil -/
def c3 : C := .seq (.forget [1, 40, 41, 44, 45, 48, 49, 52, 53, 54, 57, 58, 59, 62, 63, 64, 67] (.ops [.op (some 1) (.box 6 (.t 0)), .op (some 2) (.mv (.k (.bool false)))]))
  (.seq (.forget [1, 3, 40, 41, 44, 45, 48, 49, 52, 53, 54, 57, 58, 59, 62, 63, 64, 67] (.ops [.op (some 3) (.mv (.k (.nilp)))]))
  (.seq (.forget [1, 3, 4, 40, 41, 44, 45, 48, 49, 52, 53, 54, 57, 58, 59, 62, 63, 64, 67] (.ops [.op (some 13) (.build [.int .i64 0, .isl [], .isl [], .str ⟨#[]⟩, .str ⟨#[]⟩, .isl [], .int .i64 0, .int .i64 0, .str ⟨#[]⟩, .isl [], .nilp, .bool false, .bool false, .bool false, .isl []] []), .op (some 14) (.box 15 (.t 13)), .op (some 4) (.mv (.t 14))]))
  (.seq (.forget [1, 3, 4, 6, 40, 41, 44, 45, 48, 49, 52, 53, 54, 57, 58, 59, 62, 63, 64, 67] (.ops [.op (some 16) (.mv (.t 3)), .op (some 17) (.ld 6 true (.t 1)), .op (some 18) (.call 4 [(.t 16), (.t 17)]), .op (some 15) (.mv (.t 18)), .op (some 19) (.tupx (.t 15) 0), .op (some 20) (.tupx (.t 15) 1), .op (some 5) (.mv (.t 19)), .op (some 6) (.mv (.t 20))]))
  (.seq (.forget [3, 4, 6, 8, 40, 41, 44, 45, 48, 49, 52, 53, 54, 57, 58, 59, 62, 63, 64, 67] (.ops [.op (some 22) (.mv (.t 4)), .op (some 23) (.ld 6 true (.t 1)), .op (some 24) (.call 4 [(.t 22), (.t 23)]), .op (some 21) (.mv (.t 24)), .op (some 25) (.tupx (.t 21) 0), .op (some 26) (.tupx (.t 21) 1), .op (some 7) (.mv (.t 25)), .op (some 8) (.mv (.t 26))]))
  (.seq (.forget [3, 4, 6, 8, 10, 40, 41, 44, 45, 48, 49, 52, 53, 54, 57, 58, 59, 62, 63, 64, 67] (.ops [.op (some 28) (.mv (.t 3)), .op (some 29) (.call 5 [(.t 28)]), .op (some 27) (.mv (.t 29)), .op (some 30) (.tupx (.t 27) 0), .op (some 31) (.tupx (.t 27) 1), .op (some 9) (.box 3 (.k (.agg [.int .i64 0, .str ⟨#[]⟩, .isl []]))), .op none (.st 3 (.t 9) (.t 30)), .op (some 10) (.mv (.t 31))]))
  (.seq (.forget [3, 4, 6, 8, 10, 12, 40, 41, 44, 45, 48, 49, 52, 53, 54, 57, 58, 59, 62, 63, 64, 67] (.ops [.op (some 33) (.mv (.t 4)), .op (some 34) (.call 5 [(.t 33)]), .op (some 32) (.mv (.t 34)), .op (some 35) (.tupx (.t 32) 0), .op (some 36) (.tupx (.t 32) 1), .op (some 11) (.box 3 (.k (.agg [.int .i64 0, .str ⟨#[]⟩, .isl []]))), .op none (.st 3 (.t 11) (.t 35)), .op (some 12) (.mv (.t 36))]))
  (.seq (.forget [2] (.ops [.op (some 37) (.mv (.t 6)), .op (some 38) (.bin .eql (.t 37) (.k (.int .i64 1))), .op (some 39) (.mv (.t 38)), .sc 39 true [.op (some 40) (.mv (.t 8)), .op (some 41) (.bin .eql (.t 40) (.k (.int .i64 1)))] 42 (.t 41) (.k (.bool false)), .op (some 43) (.mv (.t 42)), .sc 43 true [.op (some 44) (.mv (.t 10)), .op (some 45) (.bin .eql (.t 44) (.k (.int .i64 1)))] 46 (.t 45) (.k (.bool false)), .op (some 47) (.mv (.t 46)), .sc 47 true [.op (some 48) (.mv (.t 12)), .op (some 49) (.bin .eql (.t 48) (.k (.int .i64 1)))] 50 (.t 49) (.k (.bool false)), .op (some 51) (.mv (.t 50)), .sc 51 true [.op (some 52) (.mv (.t 3)), .op (some 53) (.call 6 [(.t 52)]), .op (some 54) (.bin .eql (.t 53) (.k (.int .i64 0)))] 55 (.t 54) (.k (.bool false)), .op (some 56) (.mv (.t 55)), .sc 56 true [.op (some 57) (.mv (.t 3)), .op (some 58) (.call 7 [(.t 57)]), .op (some 59) (.eqk .ptr false (.t 58) (.k (.nilp)))] 60 (.t 59) (.k (.bool false)), .op (some 61) (.mv (.t 60)), .sc 61 true [.op (some 62) (.mv (.t 4)), .op (some 63) (.call 7 [(.t 62)]), .op (some 64) (.eqk .ptr false (.t 63) (.k (.nilp)))] 65 (.t 64) (.k (.bool false)), .op (some 66) (.mv (.t 65)), .sc 66 true [.op (some 67) (.call 8 [])] 68 (.t 67) (.k (.bool false)), .op (some 2) (.mv (.t 68))]))
  (.ret))))))))
def F3 : F := ⟨.snap, 69, [.t 2], c3⟩
-- 4: (*heptad/assoc.Side).On
/-- (*heptad/assoc.Side).On -/
def c4 : C := .seq (.forget [0, 3, 27, 28, 29] (.ops [.op (some 3) (.box 6 (.t 1)), .op (some 4) (.mv (.k (.isl []))), .op (some 5) (.mv (.k (.int .i64 0)))]))
  (.seq (.forget [0, 3, 4, 5, 27, 28, 29] (.seq (.forget [0, 3, 8, 27, 28, 29] (.ops [.op (some 7) (.mv (.t 0)), .op (some 8) (.call 9 [(.t 7)])]))
  (.cond (.t 8) (.seq (.forget [4, 5] (.ops [.op (some 4) (.mv (.k (.isl []))), .op (some 5) (.mv (.k (.int .i64 1)))]))
  (.ret))
  (.skip))))
  (.seq (.forget [0, 3, 27, 28, 29] (.ops [.op (some 9) (.mv (.t 0)), .op (some 10) (.nilc (.t 9)), .op (some 11) (.fadr 14 (.t 10)), .op none (.st 1 (.t 11) (.k (.isl [])))]))
  (.seq (.forget [0, 4, 5] (.block 0 (.seq (.forget [0, 3, 12, 27, 28, 29] (.ops [.op (some 13) (.fadr 0 (.t 3)), .op (some 14) (.ld 1 false (.t 13)), .op (some 15) (.bin .eql (.t 14) (.k (.int .i64 0))), .op (some 12) (.mv (.t 15))]))
  (.cond (.t 12) (.seq (.forget [0, 6] (.ops [.op (some 16) (.mv (.t 0)), .op (some 17) (.ld 6 true (.t 3)), .op (some 18) (.call 10 [(.t 16), (.t 17)]), .op (some 6) (.mv (.t 18))]))
  (.seq (.forget [0, 6, 20] (.ops [.op (some 19) (.mv (.t 6)), .op (some 20) (.bin .neq (.t 19) (.k (.int .i64 0)))]))
  (.cond (.t 20) (.seq (.forget [4, 5] (.ops [.op (some 21) (.mv (.t 6)), .op (some 4) (.mv (.k (.isl []))), .op (some 5) (.mv (.t 21))]))
  (.ret))
  (.skip))))
  (.seq (.forget [0, 3, 22] (.ops [.op (some 23) (.fadr 0 (.t 3)), .op (some 24) (.ld 1 false (.t 23)), .op (some 25) (.bin .eql (.t 24) (.k (.int .i64 1))), .op (some 26) (.mv (.t 25)), .sc 26 true [.op (some 27) (.fadr 1 (.t 3)), .op (some 28) (.ld 1 false (.t 27)), .op (some 29) (.bin .eql (.t 28) (.k (.int .i64 0)))] 30 (.t 29) (.k (.bool false)), .op (some 22) (.mv (.t 30))]))
  (.cond (.t 22) (.ops [.op (some 31) (.mv (.t 0)), .op (some 32) (.fadr 5 (.t 3)), .op (some 33) (.ld 1 false (.t 32)), .op (some 34) (.call 11 [(.t 31), (.t 33)])])
  (.seq (.forget [4, 5] (.ops [.op (some 4) (.mv (.k (.isl []))), .op (some 5) (.mv (.k (.int .i64 1)))]))
  (.ret))))))))
  (.seq (.forget [4, 5] (.ops [.op (some 35) (.mv (.t 0)), .op (some 36) (.nilc (.t 35)), .op (some 37) (.fadr 14 (.t 36)), .op (some 38) (.ld 1 false (.t 37)), .op (some 4) (.mv (.t 38)), .op (some 5) (.mv (.k (.int .i64 0)))]))
  (.ret)))))
def F4 : F := ⟨.pur false, 39, [.t 4, .t 5], c4⟩
-- 5: (*heptad/assoc.Side).Terms
/-- (*heptad/assoc.Side).Terms -/
def c5 : C := .seq (.forget [0, 2] (.ops [.op (some 2) (.box 3 (.k (.agg [.int .i64 0, .str ⟨#[]⟩, .isl []]))), .op (some 3) (.mv (.k (.int .i64 0)))]))
  (.seq (.forget [0, 2, 3] (.block 0 (.seq (.forget [0, 2, 5] (.ops [.op (some 6) (.mv (.t 0)), .op (some 7) (.call 9 [(.t 6)]), .op (some 5) (.mv (.t 7))]))
  (.cond (.t 5) (.seq (.forget [2, 3] (.ops [.op (some 8) (.build [.int .i64 0, .str ⟨#[]⟩, .isl []] []), .op none (.st 3 (.t 2) (.t 8)), .op (some 3) (.mv (.k (.int .i64 1)))]))
  (.ret))
  (.seq (.forget [0, 2, 9] (.ops [.op (some 10) (.mv (.t 0)), .op (some 11) (.nilc (.t 10)), .op (some 12) (.fadr 10 (.t 11)), .op (some 13) (.ld 1 false (.t 12)), .op (some 14) (.eqk .ptr false (.t 13) (.k (.nilp))), .op (some 9) (.mv (.t 14))]))
  (.cond (.t 9) (.seq (.forget [2, 3] (.ops [.op (some 15) (.build [.int .i64 0, .str ⟨#[]⟩, .isl []] []), .op none (.st 3 (.t 2) (.t 15)), .op (some 3) (.mv (.k (.int .i64 8)))]))
  (.ret))
  (.skip)))))))
  (.seq (.forget [2, 4] (.ops [.op (some 16) (.mv (.t 0)), .op (some 17) (.nilc (.t 16)), .op (some 18) (.fadr 10 (.t 17)), .op (some 19) (.ld 1 false (.t 18)), .op (some 20) (.nilc (.t 19)), .op (some 21) (.ld 3 true (.t 20)), .op (some 4) (.box 3 (.k (.agg [.int .i64 0, .str ⟨#[]⟩, .isl []]))), .op none (.st 3 (.t 4) (.t 21))]))
  (.seq (.forget [2, 4] (.ops [.op (some 22) (.fadr 2 (.t 4)), .op (some 23) (.ld 1 false (.t 22)), .op (some 24) (.call 12 [(.t 23)]), .op (some 25) (.fadr 2 (.t 4)), .op none (.st 1 (.t 25) (.t 24))]))
  (.seq (.forget [2, 3] (.ops [.op (some 26) (.ld 3 true (.t 4)), .op none (.st 3 (.t 2) (.t 26)), .op (some 3) (.mv (.k (.int .i64 0)))]))
  (.ret)))))
def F5 : F := ⟨.pur false, 27, [.cell 2 3 true, .t 3], c5⟩
-- 6: (*heptad/assoc.Side).State
/-- (*heptad/assoc.Side).State -/
def c6 : C := .seq (.forget [0] (.ops [.op (some 2) (.mv (.k (.int .i64 0)))]))
  (.seq (.forget [0, 2] (.seq (.forget [0, 4] (.ops [.op (some 3) (.mv (.t 0)), .op (some 4) (.call 9 [(.t 3)])]))
  (.cond (.t 4) (.seq (.forget [2] (.ops [.op (some 2) (.mv (.k (.int .i64 0)))]))
  (.ret))
  (.skip))))
  (.seq (.forget [2] (.ops [.op (some 5) (.mv (.t 0)), .op (some 6) (.nilc (.t 5)), .op (some 7) (.fadr 6 (.t 6)), .op (some 8) (.ld 1 false (.t 7)), .op (some 2) (.mv (.t 8))]))
  (.ret)))
def F6 : F := ⟨.snap, 9, [.t 2], c6⟩
-- 7: (*heptad/assoc.Side).Copy
/-- (*heptad/assoc.Side).Copy -/
def c7 : C := .seq (.forget [0] (.ops [.op (some 2) (.mv (.k (.nilp)))]))
  (.seq (.forget [0, 2] (.seq (.forget [0, 5] (.ops [.op (some 4) (.mv (.t 0)), .op (some 5) (.call 9 [(.t 4)])]))
  (.cond (.t 5) (.seq (.forget [2] (.ops [.op (some 2) (.mv (.k (.nilp)))]))
  (.ret))
  (.skip))))
  (.seq (.forget [3] (.ops [.op (some 6) (.mv (.t 0)), .op (some 7) (.nilc (.t 6)), .op (some 8) (.ld 15 true (.t 7)), .op (some 3) (.box 15 (.k (.agg [.int .i64 0, .isl [], .isl [], .str ⟨#[]⟩, .str ⟨#[]⟩, .isl [], .int .i64 0, .int .i64 0, .str ⟨#[]⟩, .isl [], .nilp, .bool false, .bool false, .bool false, .isl []]))), .op none (.st 15 (.t 3) (.t 8))]))
  (.seq (.forget [3] (.ops [.op (some 9) (.fadr 14 (.t 3)), .op none (.st 1 (.t 9) (.k (.isl [])))]))
  (.seq (.forget [2] (.ops [.op (some 2) (.mv (.t 3))]))
  (.ret)))))
def F7 : F := ⟨.pur false, 10, [.t 2], c7⟩
-- 8: heptad/heptadlaw24.sane
/-- heptad/heptadlaw24.sane -/
def c8 : C := .seq (.forget [16, 19, 20, 21, 24, 25, 26, 29, 30, 31, 32] (.ops [.op (some 0) (.mv (.k (.bool false)))]))
  (.seq (.forget [1, 2, 3, 16, 19, 20, 21, 24, 25, 26, 29, 30, 31, 32] (.ops [.op (some 5) (.bsl 1 1 (.str ⟨#[]⟩) [(0, (.k (.str ⟨#[99]⟩)))]), .op (some 6) (.build [.int .i64 0, .isl [], .isl [], .str ⟨#[]⟩] [(0, 1, (.k (.int .i64 1))), (1, 1, (.t 5)), (3, 1, (.k (.str ⟨#[97]⟩)))]), .op (some 7) (.bsl 1 1 (.str ⟨#[]⟩) [(0, (.k (.str ⟨#[99]⟩)))]), .op (some 8) (.build [.int .i64 0, .isl [], .isl [], .str ⟨#[]⟩] [(0, 1, (.k (.int .i64 2))), (1, 1, (.t 7)), (3, 1, (.k (.str ⟨#[98]⟩)))]), .op (some 9) (.call 13 [(.t 6), (.t 8)]), .op (some 4) (.mv (.t 9)), .op (some 10) (.tupx (.t 4) 0), .op (some 11) (.tupx (.t 4) 1), .op (some 12) (.tupx (.t 4) 2), .op (some 1) (.box 3 (.k (.agg [.int .i64 0, .str ⟨#[]⟩, .isl []]))), .op none (.st 3 (.t 1) (.t 10)), .op (some 2) (.mv (.t 11)), .op (some 3) (.mv (.t 12))]))
  (.seq (.forget [0] (.ops [.op (some 13) (.mv (.t 3)), .op (some 14) (.bin .eql (.t 13) (.k (.int .i64 0))), .op (some 15) (.mv (.t 14)), .sc 15 true [.op (some 16) (.mv (.t 2))] 17 (.t 16) (.k (.bool false)), .op (some 18) (.mv (.t 17)), .sc 18 true [.op (some 19) (.fadr 0 (.t 1)), .op (some 20) (.ld 1 false (.t 19)), .op (some 21) (.bin .eql (.t 20) (.k (.int .i64 1)))] 22 (.t 21) (.k (.bool false)), .op (some 23) (.mv (.t 22)), .sc 23 true [.op (some 24) (.fadr 1 (.t 1)), .op (some 25) (.ld 1 false (.t 24)), .op (some 26) (.bin .eql (.t 25) (.k (.str ⟨#[99]⟩)))] 27 (.t 26) (.k (.bool false)), .op (some 28) (.mv (.t 27)), .sc 28 true [.op (some 29) (.fadr 2 (.t 1)), .op (some 30) (.ld 1 false (.t 29)), .op (some 31) (.len false (.t 30)), .op (some 32) (.bin .eql (.t 31) (.k (.int .i64 0)))] 33 (.t 32) (.k (.bool false)), .op (some 0) (.mv (.t 33))]))
  (.ret)))
def F8 : F := ⟨.snap, 34, [.t 0], c8⟩
-- 9: (*heptad/assoc.Side).none
/-- (*heptad/assoc.Side).none -/
def c9 : C := .seq (.forget [0, 6, 7, 8, 9, 10, 11] (.ops [.op (some 2) (.mv (.k (.bool false)))]))
  (.seq (.forget [2] (.ops [.op (some 3) (.mv (.t 0)), .op (some 4) (.eqk .ptr false (.t 3) (.k (.nilp))), .op (some 5) (.mv (.t 4)), .sc 5 false [.op (some 6) (.mv (.t 0)), .op (some 7) (.nilc (.t 6)), .op (some 8) (.fadr 0 (.t 7)), .op (some 9) (.fadr 0 (.t 8)), .op (some 10) (.ld 1 false (.t 9)), .op (some 11) (.bin .eql (.t 10) (.k (.int .i64 0)))] 12 (.t 11) (.k (.bool true)), .op (some 2) (.mv (.t 12))]))
  (.ret))
def F9 : F := ⟨.snap, 13, [.t 2], c9⟩
-- 13: heptad/assoc.Agree
/-- heptad/assoc.Agree -/
def c13 : C := .seq (.forget [2, 3, 4, 12, 13, 14] (.ops [.op (some 2) (.box 4 (.t 0)), .op (some 3) (.box 4 (.t 1)), .op (some 4) (.box 3 (.k (.agg [.int .i64 0, .str ⟨#[]⟩, .isl []]))), .op (some 5) (.mv (.k (.bool false))), .op (some 6) (.mv (.k (.int .i64 0)))]))
  (.seq (.forget [2, 3, 4, 5, 6] (.seq (.forget [2, 3, 4, 15] (.ops [.op (some 8) (.ld 4 true (.t 2)), .op (some 9) (.call 28 [(.t 8)]), .op (some 10) (.un .not (.t 9)), .op (some 11) (.mv (.t 10)), .sc 11 false [.op (some 12) (.ld 4 true (.t 3)), .op (some 13) (.call 28 [(.t 12)]), .op (some 14) (.un .not (.t 13))] 15 (.t 14) (.k (.bool true))]))
  (.cond (.t 15) (.seq (.forget [4, 5, 6] (.ops [.op (some 16) (.build [.int .i64 0, .str ⟨#[]⟩, .isl []] []), .op none (.st 3 (.t 4) (.t 16)), .op (some 5) (.mv (.k (.bool false))), .op (some 6) (.mv (.k (.int .i64 1)))]))
  (.ret))
  (.skip))))
  (.seq (.forget [2, 4, 7] (.dops [1, 3, 7, 10, 0, 2, 4, 5, 6, 8, 9, 11] [] [.op (some 18) (.fadr 0 (.t 2)), .op (some 20) (.fadr 1 (.t 2)), .op (some 24) (.fadr 2 (.t 2)), .op (some 7) (.box 3 (.k (.agg [.int .i64 0, .str ⟨#[]⟩, .isl []]))), .op (some 17) (.ld 4 true (.t 3)), .op (some 19) (.ld 1 false (.t 18)), .op (some 21) (.ld 1 false (.t 20)), .op (some 22) (.idxa 1 (.t 21) (.k (.int .i64 0))), .op (some 23) (.ld 1 false (.t 22)), .op (some 25) (.ld 1 false (.t 24)), .op (some 26) (.call 29 [(.t 17), (.t 19), (.t 23), (.t 25)]), .op none (.st 3 (.t 7) (.t 26))]))
  (.seq (.forget [4, 5, 6] (.dops [1, 3, 0, 2, 4, 5, 6, 7, 8] [] [.op (some 28) (.fadr 1 (.t 2)), .op (some 30) (.fadr 1 (.t 7)), .op (some 27) (.ld 3 true (.t 7)), .op (some 29) (.ld 1 false (.t 28)), .op (some 31) (.ld 1 false (.t 30)), .op (some 32) (.call 30 [(.t 29), (.t 31)]), .op none (.st 3 (.t 4) (.t 27)), .op (some 5) (.mv (.t 32)), .op (some 6) (.mv (.k (.int .i64 0)))]))
  (.ret))))
def F13 : F := ⟨.pur false, 33, [.cell 4 3 true, .t 5, .t 6], c13⟩
-- 28: (heptad/assoc.Able).valid
/-- (heptad/assoc.Able).valid -/
def c28 : C := .seq (.forget [1, 7, 8, 9, 12, 13, 14, 17, 18, 19, 22, 23, 24] (.ops [.op (some 1) (.box 4 (.t 0)), .op (some 2) (.mv (.k (.bool false)))]))
  (.seq (.forget [2] (.ops [.op (some 3) (.fadr 0 (.t 1)), .op (some 4) (.ld 1 false (.t 3)), .op (some 5) (.bin .geq (.t 4) (.k (.int .i64 1))), .op (some 6) (.mv (.t 5)), .sc 6 true [.op (some 7) (.fadr 0 (.t 1)), .op (some 8) (.ld 1 false (.t 7)), .op (some 9) (.bin .leq (.t 8) (.k (.int .i64 9)))] 10 (.t 9) (.k (.bool false)), .op (some 11) (.mv (.t 10)), .sc 11 true [.op (some 12) (.fadr 1 (.t 1)), .op (some 13) (.ld 1 false (.t 12)), .op (some 14) (.call 37 [(.t 13), (.k (.int .i64 1)), (.k (.int .i64 5))])] 15 (.t 14) (.k (.bool false)), .op (some 16) (.mv (.t 15)), .sc 16 true [.op (some 17) (.fadr 2 (.t 1)), .op (some 18) (.ld 1 false (.t 17)), .op (some 19) (.call 37 [(.t 18), (.k (.int .i64 0)), (.k (.int .i64 10))])] 20 (.t 19) (.k (.bool false)), .op (some 21) (.mv (.t 20)), .sc 21 true [.op (some 22) (.fadr 3 (.t 1)), .op (some 23) (.ld 1 false (.t 22)), .op (some 24) (.call 31 [(.t 23)])] 25 (.t 24) (.k (.bool false)), .op (some 2) (.mv (.t 25))]))
  (.ret))
def F28 : F := ⟨.snap, 26, [.t 2], c28⟩
-- 29: (heptad/assoc.Able).terms
def c29L0 : C := .forget [4, 8, 9, 27, 28, 29] (.seq (.forget [4, 8, 9, 27, 28, 29, 30] (.ops [.op (some 30) (.bin .lss (.t 29) (.t 28))]))
  (.seq (.forget [4, 8, 9, 27, 28, 29] (.cond (.t 30) (.skip)
  (.exit 0)))
  (.seq (.forget [4, 8, 9, 27, 28, 29] (.block 1 (.seq (.forget [4, 8, 9, 11, 27, 28, 29] (.ops [.op (some 31) (.idxa 1 (.t 27) (.t 29)), .op (some 32) (.ld 1 false (.t 31)), .op (some 11) (.mv (.t 32))]))
  (.seq (.forget [4, 8, 9, 11, 27, 28, 29, 36] (.ops [.op (some 33) (.fadr 2 (.t 4)), .op (some 34) (.ld 1 false (.t 33)), .op (some 35) (.mv (.t 11)), .op (some 36) (.call 30 [(.t 34), (.t 35)])]))
  (.cond (.t 36) (.ops [.op (some 37) (.fadr 2 (.t 9)), .op (some 38) (.ld 1 false (.t 37)), .op (some 39) (.mv (.t 11)), .op (some 40) (.bsl 1 1 (.str ⟨#[]⟩) [(0, (.t 39))]), .op (some 41) (.app false 1 4294967296 (.t 38) (.t 40)), .op (some 42) (.fadr 2 (.t 9)), .op none (.st 1 (.t 42) (.t 41))])
  (.skip))))))
  (.ops [.op (some 43) (.bin .add (.t 29) (.k (.int .i64 1))), .op (some 29) (.mv (.t 43))]))))
def c29 : C := .seq (.forget [1, 2, 3, 4, 8] (.ops [.op (some 4) (.box 4 (.t 0)), .op (some 8) (.box 3 (.k (.agg [.int .i64 0, .str ⟨#[]⟩, .esl])))]))
  (.seq (.forget [2, 3, 4, 8, 9] (.dops [0, 2, 4, 9, 1, 3, 5, 6, 7, 8, 10] [] [.op (some 12) (.fadr 0 (.t 4)), .op (some 14) (.mv (.t 1)), .op (some 16) (.fadr 1 (.t 4)), .op (some 9) (.box 3 (.k (.agg [.int .i64 0, .str ⟨#[]⟩, .esl]))), .op (some 13) (.ld 1 false (.t 12)), .op (some 15) (.mnx false (.t 13) (.t 14)), .op (some 17) (.ld 1 false (.t 16)), .op (some 18) (.idxa 1 (.t 17) (.k (.int .i64 0))), .op (some 19) (.ld 1 false (.t 18)), .op (some 20) (.build [.int .i64 0, .str ⟨#[]⟩, .esl] [(0, 1, (.t 15)), (1, 1, (.t 19))]), .op none (.st 3 (.t 9) (.t 20))]))
  (.seq (.forget [3, 4, 8, 9] (.seq (.forget [2, 3, 4, 8, 9, 24] (.ops [.op (some 21) (.fadr 1 (.t 4)), .op (some 22) (.ld 1 false (.t 21)), .op (some 23) (.mv (.t 2)), .op (some 24) (.call 30 [(.t 22), (.t 23)])]))
  (.cond (.t 24) (.ops [.op (some 25) (.mv (.t 2)), .op (some 26) (.fadr 1 (.t 9)), .op none (.st 1 (.t 26) (.t 25))])
  (.skip))))
  (.seq (.forget [8, 9] (.seq (.forget [4, 8, 9, 27, 28, 29] (.ops [.op (some 27) (.mv (.t 3)), .op (some 28) (.len false (.t 27)), .op (some 29) (.mv (.k (.int .i64 0)))]))
  (.block 0 (.loop [4, 8, 9, 27, 28, 29] c29L0))))
  (.seq (.forget [8] (.ops [.op (some 44) (.ld 3 true (.t 9)), .op none (.st 3 (.t 8) (.t 44))]))
  (.ret)))))
def F29 : F := ⟨.pur false, 45, [.cell 8 3 true], c29⟩
-- 30: slices.Contains[[]string,string]
/-- slices.Contains[[]string,string] -/
def c30 : C := .seq (.forget [0, 1] (.ops [.op (some 4) (.mv (.k (.bool false)))]))
  (.seq (.forget [4] (.ops [.op (some 5) (.mv (.t 0)), .op (some 6) (.mv (.t 1)), .op (some 7) (.call 38 [(.t 5), (.t 6)]), .op (some 8) (.bin .geq (.t 7) (.k (.int .i64 0))), .op (some 4) (.mv (.t 8))]))
  (.ret))
def F30 : F := ⟨.snap, 9, [.t 4], c30⟩
-- 31: heptad/assoc.named
/-- heptad/assoc.named -/
def c31 : C := .seq (.forget [0, 7, 8, 9] (.ops [.op (some 2) (.mv (.k (.bool false)))]))
  (.seq (.forget [2] (.ops [.op (some 3) (.mv (.t 0)), .op (some 4) (.len true (.t 3)), .op (some 5) (.bin .geq (.t 4) (.k (.int .i64 1))), .op (some 6) (.mv (.t 5)), .sc 6 true [.op (some 7) (.mv (.t 0)), .op (some 8) (.len true (.t 7)), .op (some 9) (.bin .leq (.t 8) (.k (.int .i64 30)))] 10 (.t 9) (.k (.bool false)), .op (some 2) (.mv (.t 10))]))
  (.ret))
def F31 : F := ⟨.snap, 11, [.t 2], c31⟩
-- 38: slices.Index[[]string,string]
def c38L0 : C := .forget [0, 1, 4, 7, 8] (.seq (.forget [0, 1, 7, 8, 9] (.ops [.op (some 9) (.bin .lss (.t 8) (.t 7))]))
  (.seq (.forget [0, 1, 7, 8] (.cond (.t 9) (.skip)
  (.exit 0)))
  (.seq (.forget [0, 1, 4, 7, 8] (.block 1 (.seq (.forget [0, 1, 5, 7, 8] (.ops [.op (some 10) (.mv (.t 8)), .op (some 5) (.mv (.t 10))]))
  (.seq (.forget [0, 1, 5, 7, 8, 16] (.ops [.op (some 11) (.mv (.t 1)), .op (some 12) (.mv (.t 0)), .op (some 13) (.mv (.t 5)), .op (some 14) (.idxa 1 (.t 12) (.t 13)), .op (some 15) (.ld 1 false (.t 14)), .op (some 16) (.bin .eql (.t 11) (.t 15))]))
  (.cond (.t 16) (.seq (.forget [4] (.ops [.op (some 17) (.mv (.t 5)), .op (some 4) (.mv (.t 17))]))
  (.ret))
  (.skip))))))
  (.ops [.op (some 18) (.bin .add (.t 8) (.k (.int .i64 1))), .op (some 8) (.mv (.t 18))]))))
def c38 : C := .seq (.forget [0, 1] (.ops [.op (some 4) (.mv (.k (.int .i64 0)))]))
  (.seq (.forget [4] (.seq (.forget [0, 1, 7, 8] (.ops [.op (some 6) (.mv (.t 0)), .op (some 7) (.len false (.t 6)), .op (some 8) (.mv (.k (.int .i64 0)))]))
  (.block 0 (.loop [0, 1, 7, 8] c38L0))))
  (.seq (.forget [4] (.ops [.op (some 4) (.mv (.k (.int .i64 (-1))))]))
  (.ret)))
def F38 : F := ⟨.snap, 19, [.t 4], c38⟩
-- 47: slices.ContainsFunc[[]string,string]
/-- slices.ContainsFunc[[]string,string] -/
def c47 : C := .seq (.forget [0, 1] (.ops [.op (some 4) (.mv (.k (.bool false)))]))
  (.seq (.forget [4] (.ops [.op (some 5) (.mv (.t 0)), .op (some 6) (.mv (.t 1)), .op (some 7) (.call 71 [(.t 5), (.t 6)]), .op (some 8) (.bin .geq (.t 7) (.k (.int .i64 0))), .op (some 4) (.mv (.t 8))]))
  (.ret))
def F47 : F := ⟨.snap, 9, [.t 4], c47⟩
-- 48: heptad/assoc.names$1
/-- heptad/assoc.names$1 -/
def c48 : C := .seq (.forget [0] (.ops [.op (some 2) (.mv (.k (.bool false)))]))
  (.seq (.forget [2] (.ops [.op (some 3) (.mv (.t 0)), .op (some 4) (.call 31 [(.t 3)]), .op (some 5) (.un .not (.t 4)), .op (some 2) (.mv (.t 5))]))
  (.ret))
def F48 : F := ⟨.snap, 6, [.t 2], c48⟩
-- 71: slices.IndexFunc[[]string,string]
def c71L0 : C := .forget [0, 1, 4, 7, 8] (.seq (.forget [0, 1, 7, 8, 9] (.ops [.op (some 9) (.bin .lss (.t 8) (.t 7))]))
  (.seq (.forget [0, 1, 7, 8] (.cond (.t 9) (.skip)
  (.exit 0)))
  (.seq (.forget [0, 1, 4, 7, 8] (.block 1 (.seq (.forget [0, 1, 5, 7, 8] (.ops [.op (some 10) (.mv (.t 8)), .op (some 5) (.mv (.t 10))]))
  (.seq (.forget [0, 1, 5, 7, 8, 16] (.ops [.op (some 11) (.mv (.t 1)), .op (some 12) (.mv (.t 0)), .op (some 13) (.mv (.t 5)), .op (some 14) (.idxa 1 (.t 12) (.t 13)), .op (some 15) (.ld 1 false (.t 14)), .op (some 16) (.callv true (.t 11) [(.t 15)])]))
  (.cond (.t 16) (.seq (.forget [4] (.ops [.op (some 17) (.mv (.t 5)), .op (some 4) (.mv (.t 17))]))
  (.ret))
  (.skip))))))
  (.ops [.op (some 18) (.bin .add (.t 8) (.k (.int .i64 1))), .op (some 8) (.mv (.t 18))]))))
def c71 : C := .seq (.forget [0, 1] (.ops [.op (some 4) (.mv (.k (.int .i64 0)))]))
  (.seq (.forget [4] (.seq (.forget [0, 1, 7, 8] (.ops [.op (some 6) (.mv (.t 0)), .op (some 7) (.len false (.t 6)), .op (some 8) (.mv (.k (.int .i64 0)))]))
  (.block 0 (.loop [0, 1, 7, 8] c71L0))))
  (.seq (.forget [4] (.ops [.op (some 4) (.mv (.k (.int .i64 (-1))))]))
  (.ret)))
def F71 : F := ⟨.snap, 19, [.t 4], c71⟩
def fnl : List (Nat × F) := [(3, F3), (4, F4), (5, F5), (6, F6), (7, F7), (8, F8), (9, F9), (13, F13), (28, F28), (29, F29), (30, F30), (31, F31), (38, F38), (47, F47), (48, F48), (71, F71)]
end Go.Proofs.YtpnnkjhofkignaaGreatDoor
