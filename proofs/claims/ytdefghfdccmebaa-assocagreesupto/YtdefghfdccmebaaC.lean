/- The functions of the program, as the abstract machine has them. Printed by a program of our own. -/
import Derived.Test.YtdefghfdccmebaaAvmFin
set_option linter.all false
namespace Go.Proofs.Ytdefghfdccmebaa
open Go Go.Avm
-- 3: heptad/heptadlaw24.AssocAgrees
/-- heptad/heptadlaw24.AssocAgrees -/
def c3 : C := .seq (.forget [2, 3, 31, 32, 33, 36, 37, 38, 39, 42] (.ops [.op (some 2) (.box 4 (.t 0)), .op (some 3) (.box 4 (.t 1)), .op (some 4) (.mv (.k (.bool false)))]))
  (.seq (.forget [2, 3, 5, 6, 7, 31, 32, 33, 36, 37, 38, 39, 42] (.ops [.op (some 12) (.ld 4 true (.t 2)), .op (some 13) (.ld 4 true (.t 3)), .op (some 14) (.call 5 [(.t 12), (.t 13)]), .op (some 11) (.mv (.t 14)), .op (some 15) (.tupx (.t 11) 0), .op (some 16) (.tupx (.t 11) 1), .op (some 17) (.tupx (.t 11) 2), .op (some 5) (.box 3 (.k (.agg [.int .i64 0, .str ⟨#[]⟩, .isl []]))), .op none (.st 3 (.t 5) (.t 15)), .op (some 6) (.mv (.t 16)), .op (some 7) (.mv (.t 17))]))
  (.seq (.forget [5, 6, 7, 8, 9, 10, 31, 32, 33, 36, 37, 38, 39, 42] (.dops [9, 0, 2, 1, 3, 4, 5, 6, 7, 8, 10, 11, 12] [] [.op (some 8) (.box 3 (.k (.agg [.int .i64 0, .str ⟨#[]⟩, .isl []]))), .op (some 19) (.ld 4 true (.t 2)), .op (some 21) (.ld 4 true (.t 3)), .op (some 20) (.call 7 [(.t 19)]), .op (some 22) (.call 7 [(.t 21)]), .op (some 23) (.call 6 [(.t 20), (.t 22)]), .op (some 18) (.mv (.t 23)), .op (some 24) (.tupx (.t 18) 0), .op (some 25) (.tupx (.t 18) 1), .op (some 26) (.tupx (.t 18) 2), .op none (.st 3 (.t 8) (.t 24)), .op (some 9) (.mv (.t 25)), .op (some 10) (.mv (.t 26))]))
  (.seq (.forget [4] (.dops [0, 1, 2, 3, 4, 5, 6, 7, 0, 8, 9, 10, 11, 12, 13, 0, 14, 15, 16, 0, 17] [] [.op (some 27) (.mv (.t 6)), .op (some 28) (.mv (.t 9)), .op (some 29) (.eqk .bool false (.t 27) (.t 28)), .op (some 30) (.mv (.t 29)), .sc 30 true [.op (some 31) (.mv (.t 7)), .op (some 32) (.mv (.t 10)), .op (some 33) (.bin .eql (.t 31) (.t 32))] 34 (.t 33) (.k (.bool false)), .op (some 35) (.mv (.t 34)), .sc 35 true [.op (some 36) (.ld 3 true (.t 5)), .op (some 37) (.call 9 [(.t 36)]), .op (some 38) (.ld 3 true (.t 8)), .op (some 39) (.call 8 [(.t 37), (.t 38)])] 40 (.t 39) (.k (.bool false)), .op (some 41) (.mv (.t 40)), .sc 41 true [.op (some 42) (.call 10 [])] 43 (.t 42) (.k (.bool false)), .op (some 4) (.mv (.t 43))]))
  (.ret))))
def F3 : F := ⟨.snap, 44, [.t 4], c3⟩
-- 5: heptad/assoc.Agree
/-- heptad/assoc.Agree -/
def c5 : C := .seq (.forget [2, 3, 4, 12, 13, 14] (.ops [.op (some 2) (.box 4 (.t 0)), .op (some 3) (.box 4 (.t 1)), .op (some 4) (.box 3 (.k (.agg [.int .i64 0, .str ⟨#[]⟩, .isl []]))), .op (some 5) (.mv (.k (.bool false))), .op (some 6) (.mv (.k (.int .i64 0)))]))
  (.seq (.forget [2, 3, 4, 5, 6] (.seq (.forget [2, 3, 4, 15] (.ops [.op (some 8) (.ld 4 true (.t 2)), .op (some 9) (.call 18 [(.t 8)]), .op (some 10) (.un .not (.t 9)), .op (some 11) (.mv (.t 10)), .sc 11 false [.op (some 12) (.ld 4 true (.t 3)), .op (some 13) (.call 18 [(.t 12)]), .op (some 14) (.un .not (.t 13))] 15 (.t 14) (.k (.bool true))]))
  (.cond (.t 15) (.seq (.forget [4, 5, 6] (.ops [.op (some 16) (.build [.int .i64 0, .str ⟨#[]⟩, .isl []] []), .op none (.st 3 (.t 4) (.t 16)), .op (some 5) (.mv (.k (.bool false))), .op (some 6) (.mv (.k (.int .i64 1)))]))
  (.ret))
  (.skip))))
  (.seq (.forget [2, 4, 7] (.dops [1, 3, 7, 10, 0, 2, 4, 5, 6, 8, 9, 11] [] [.op (some 18) (.fadr 0 (.t 2)), .op (some 20) (.fadr 1 (.t 2)), .op (some 24) (.fadr 2 (.t 2)), .op (some 7) (.box 3 (.k (.agg [.int .i64 0, .str ⟨#[]⟩, .isl []]))), .op (some 17) (.ld 4 true (.t 3)), .op (some 19) (.ld 1 false (.t 18)), .op (some 21) (.ld 1 false (.t 20)), .op (some 22) (.idxa 1 (.t 21) (.k (.int .i64 0))), .op (some 23) (.ld 1 false (.t 22)), .op (some 25) (.ld 1 false (.t 24)), .op (some 26) (.call 19 [(.t 17), (.t 19), (.t 23), (.t 25)]), .op none (.st 3 (.t 7) (.t 26))]))
  (.seq (.forget [4, 5, 6] (.dops [1, 3, 0, 2, 4, 5, 6, 7, 8] [] [.op (some 28) (.fadr 1 (.t 2)), .op (some 30) (.fadr 1 (.t 7)), .op (some 27) (.ld 3 true (.t 7)), .op (some 29) (.ld 1 false (.t 28)), .op (some 31) (.ld 1 false (.t 30)), .op (some 32) (.call 20 [(.t 29), (.t 31)]), .op none (.st 3 (.t 4) (.t 27)), .op (some 5) (.mv (.t 32)), .op (some 6) (.mv (.k (.int .i64 0)))]))
  (.ret))))
def F5 : F := ⟨.pur false, 33, [.cell 4 3 true, .t 5, .t 6], c5⟩
-- 6: heptad/heptadref24.Agree
/-- heptad/heptadref24.Agree -/
def c6 : C := .seq (.forget [2, 3, 4, 12, 13, 14] (.ops [.op (some 2) (.box 4 (.t 0)), .op (some 3) (.box 4 (.t 1)), .op (some 4) (.box 3 (.k (.agg [.int .i64 0, .str ⟨#[]⟩, .isl []]))), .op (some 5) (.mv (.k (.bool false))), .op (some 6) (.mv (.k (.int .i64 0)))]))
  (.seq (.forget [2, 3, 4, 5, 6] (.seq (.forget [2, 3, 4, 15] (.ops [.op (some 8) (.ld 4 true (.t 2)), .op (some 9) (.call 21 [(.t 8)]), .op (some 10) (.un .not (.t 9)), .op (some 11) (.mv (.t 10)), .sc 11 false [.op (some 12) (.ld 4 true (.t 3)), .op (some 13) (.call 21 [(.t 12)]), .op (some 14) (.un .not (.t 13))] 15 (.t 14) (.k (.bool true))]))
  (.cond (.t 15) (.seq (.forget [4, 5, 6] (.ops [.op (some 16) (.build [.int .i64 0, .str ⟨#[]⟩, .isl []] []), .op none (.st 3 (.t 4) (.t 16)), .op (some 5) (.mv (.k (.bool false))), .op (some 6) (.mv (.k (.int .i64 1)))]))
  (.ret))
  (.skip))))
  (.seq (.forget [2, 4, 7] (.dops [0, 2, 6, 10, 1, 3, 4, 5, 7, 8, 9, 11] [] [.op (some 17) (.fadr 0 (.t 2)), .op (some 19) (.fadr 1 (.t 2)), .op (some 23) (.fadr 2 (.t 2)), .op (some 7) (.box 3 (.k (.agg [.int .i64 0, .str ⟨#[]⟩, .isl []]))), .op (some 18) (.ld 1 false (.t 17)), .op (some 20) (.ld 1 false (.t 19)), .op (some 21) (.idxa 1 (.t 20) (.k (.int .i64 0))), .op (some 22) (.ld 1 false (.t 21)), .op (some 24) (.ld 1 false (.t 23)), .op (some 25) (.ld 4 true (.t 3)), .op (some 26) (.call 22 [(.t 18), (.t 22), (.t 24), (.t 25)]), .op none (.st 3 (.t 7) (.t 26))]))
  (.seq (.forget [4, 5, 6] (.dops [1, 3, 0, 2, 4, 5, 6, 7, 8] [] [.op (some 28) (.fadr 1 (.t 2)), .op (some 30) (.fadr 1 (.t 7)), .op (some 27) (.ld 3 true (.t 7)), .op (some 29) (.ld 1 false (.t 28)), .op (some 31) (.ld 1 false (.t 30)), .op (some 32) (.call 23 [(.t 29), (.t 31)]), .op none (.st 3 (.t 4) (.t 27)), .op (some 5) (.mv (.t 32)), .op (some 6) (.mv (.k (.int .i64 0)))]))
  (.ret))))
def F6 : F := ⟨.pur false, 33, [.cell 4 3 true, .t 5, .t 6], c6⟩
-- 7: heptad/heptadlaw24.To
/-- heptad/heptadlaw24.To -/
def c7 : C := .seq (.forget [1, 2] (.ops [.op (some 1) (.box 4 (.t 0)), .op (some 2) (.box 4 (.k (.agg [.int .i64 0, .esl, .esl, .str ⟨#[]⟩])))]))
  (.seq (.forget [2] (.dops [0, 2, 3, 6, 7, 10, 1, 4, 8, 11, 5, 9, 12, 13] [.alive (.t 3), .far (.t 3) (.t 5), .far (.t 3) (.t 9), .alive (.t 10), .far (.t 10) (.t 5), .alive (.t 13), .far (.t 13) (.t 5), .far (.t 13) (.t 9)] [.op (some 3) (.fadr 0 (.t 1)), .op (some 5) (.bsl 1 0 (.str ⟨#[]⟩) []), .op (some 6) (.fadr 1 (.t 1)), .op (some 9) (.bsl 1 0 (.str ⟨#[]⟩) []), .op (some 10) (.fadr 2 (.t 1)), .op (some 13) (.fadr 3 (.t 1)), .op (some 4) (.ld 1 false (.t 3)), .op (some 7) (.ld 1 false (.t 6)), .op (some 11) (.ld 1 false (.t 10)), .op (some 14) (.ld 1 false (.t 13)), .op (some 8) (.app false 1 4294967296 (.t 5) (.t 7)), .op (some 12) (.app false 1 4294967296 (.t 9) (.t 11)), .op (some 15) (.build [.int .i64 0, .esl, .esl, .str ⟨#[]⟩] [(0, 1, (.t 4)), (1, 1, (.t 8)), (2, 1, (.t 12)), (3, 1, (.t 14))]), .op none (.st 4 (.t 2) (.t 15))]))
  (.ret))
def F7 : F := ⟨.pur false, 16, [.cell 2 4 true], c7⟩
-- 8: heptad/heptadref24.Same
/-- heptad/heptadref24.Same -/
def c8 : C := .seq (.forget [2, 3, 11, 12, 13, 14, 15, 18, 19, 20, 21, 22] (.ops [.op (some 2) (.box 3 (.t 0)), .op (some 3) (.box 3 (.t 1)), .op (some 4) (.mv (.k (.bool false)))]))
  (.seq (.forget [4] (.ops [.op (some 5) (.fadr 0 (.t 2)), .op (some 6) (.ld 1 false (.t 5)), .op (some 7) (.fadr 0 (.t 3)), .op (some 8) (.ld 1 false (.t 7)), .op (some 9) (.bin .eql (.t 6) (.t 8)), .op (some 10) (.mv (.t 9)), .sc 10 true [.op (some 11) (.fadr 1 (.t 2)), .op (some 12) (.ld 1 false (.t 11)), .op (some 13) (.fadr 1 (.t 3)), .op (some 14) (.ld 1 false (.t 13)), .op (some 15) (.bin .eql (.t 12) (.t 14))] 16 (.t 15) (.k (.bool false)), .op (some 17) (.mv (.t 16)), .sc 17 true [.op (some 18) (.fadr 2 (.t 2)), .op (some 19) (.ld 1 false (.t 18)), .op (some 20) (.fadr 2 (.t 3)), .op (some 21) (.ld 1 false (.t 20)), .op (some 22) (.call 24 [(.t 19), (.t 21)])] 23 (.t 22) (.k (.bool false)), .op (some 4) (.mv (.t 23))]))
  (.ret))
def F8 : F := ⟨.snap, 24, [.t 4], c8⟩
-- 9: heptad/heptadlaw24.terms
/-- heptad/heptadlaw24.terms -/
def c9 : C := .seq (.forget [1, 2] (.ops [.op (some 1) (.box 3 (.t 0)), .op (some 2) (.box 3 (.k (.agg [.int .i64 0, .str ⟨#[]⟩, .esl])))]))
  (.seq (.forget [2] (.dops [0, 2, 4, 5, 1, 3, 6, 7, 8, 9] [.alive (.t 3), .far (.t 3) (.t 7), .alive (.t 5), .far (.t 5) (.t 7)] [.op (some 3) (.fadr 0 (.t 1)), .op (some 5) (.fadr 1 (.t 1)), .op (some 7) (.bsl 1 0 (.str ⟨#[]⟩) []), .op (some 8) (.fadr 2 (.t 1)), .op (some 4) (.ld 1 false (.t 3)), .op (some 6) (.ld 1 false (.t 5)), .op (some 9) (.ld 1 false (.t 8)), .op (some 10) (.app false 1 4294967296 (.t 7) (.t 9)), .op (some 11) (.build [.int .i64 0, .str ⟨#[]⟩, .esl] [(0, 1, (.t 4)), (1, 1, (.t 6)), (2, 1, (.t 10))]), .op none (.st 3 (.t 2) (.t 11))]))
  (.ret))
def F9 : F := ⟨.pur false, 12, [.cell 2 3 true], c9⟩
-- 10: heptad/heptadlaw24.sane
/-- heptad/heptadlaw24.sane -/
def c10 : C := .seq (.forget [16, 19, 20, 21, 24, 25, 26, 29, 30, 31, 32] (.ops [.op (some 0) (.mv (.k (.bool false)))]))
  (.seq (.forget [1, 2, 3, 16, 19, 20, 21, 24, 25, 26, 29, 30, 31, 32] (.ops [.op (some 5) (.bsl 1 1 (.str ⟨#[]⟩) [(0, (.k (.str ⟨#[99]⟩)))]), .op (some 6) (.build [.int .i64 0, .isl [], .isl [], .str ⟨#[]⟩] [(0, 1, (.k (.int .i64 1))), (1, 1, (.t 5)), (3, 1, (.k (.str ⟨#[97]⟩)))]), .op (some 7) (.bsl 1 1 (.str ⟨#[]⟩) [(0, (.k (.str ⟨#[99]⟩)))]), .op (some 8) (.build [.int .i64 0, .isl [], .isl [], .str ⟨#[]⟩] [(0, 1, (.k (.int .i64 2))), (1, 1, (.t 7)), (3, 1, (.k (.str ⟨#[98]⟩)))]), .op (some 9) (.call 5 [(.t 6), (.t 8)]), .op (some 4) (.mv (.t 9)), .op (some 10) (.tupx (.t 4) 0), .op (some 11) (.tupx (.t 4) 1), .op (some 12) (.tupx (.t 4) 2), .op (some 1) (.box 3 (.k (.agg [.int .i64 0, .str ⟨#[]⟩, .isl []]))), .op none (.st 3 (.t 1) (.t 10)), .op (some 2) (.mv (.t 11)), .op (some 3) (.mv (.t 12))]))
  (.seq (.forget [0] (.ops [.op (some 13) (.mv (.t 3)), .op (some 14) (.bin .eql (.t 13) (.k (.int .i64 0))), .op (some 15) (.mv (.t 14)), .sc 15 true [.op (some 16) (.mv (.t 2))] 17 (.t 16) (.k (.bool false)), .op (some 18) (.mv (.t 17)), .sc 18 true [.op (some 19) (.fadr 0 (.t 1)), .op (some 20) (.ld 1 false (.t 19)), .op (some 21) (.bin .eql (.t 20) (.k (.int .i64 1)))] 22 (.t 21) (.k (.bool false)), .op (some 23) (.mv (.t 22)), .sc 23 true [.op (some 24) (.fadr 1 (.t 1)), .op (some 25) (.ld 1 false (.t 24)), .op (some 26) (.bin .eql (.t 25) (.k (.str ⟨#[99]⟩)))] 27 (.t 26) (.k (.bool false)), .op (some 28) (.mv (.t 27)), .sc 28 true [.op (some 29) (.fadr 2 (.t 1)), .op (some 30) (.ld 1 false (.t 29)), .op (some 31) (.len false (.t 30)), .op (some 32) (.bin .eql (.t 31) (.k (.int .i64 0)))] 33 (.t 32) (.k (.bool false)), .op (some 0) (.mv (.t 33))]))
  (.ret)))
def F10 : F := ⟨.snap, 34, [.t 0], c10⟩
-- 18: (heptad/assoc.Able).valid
/-- (heptad/assoc.Able).valid -/
def c18 : C := .seq (.forget [1, 7, 8, 9, 12, 13, 14, 17, 18, 19, 22, 23, 24] (.ops [.op (some 1) (.box 4 (.t 0)), .op (some 2) (.mv (.k (.bool false)))]))
  (.seq (.forget [2] (.ops [.op (some 3) (.fadr 0 (.t 1)), .op (some 4) (.ld 1 false (.t 3)), .op (some 5) (.bin .geq (.t 4) (.k (.int .i64 1))), .op (some 6) (.mv (.t 5)), .sc 6 true [.op (some 7) (.fadr 0 (.t 1)), .op (some 8) (.ld 1 false (.t 7)), .op (some 9) (.bin .leq (.t 8) (.k (.int .i64 9)))] 10 (.t 9) (.k (.bool false)), .op (some 11) (.mv (.t 10)), .sc 11 true [.op (some 12) (.fadr 1 (.t 1)), .op (some 13) (.ld 1 false (.t 12)), .op (some 14) (.call 31 [(.t 13), (.k (.int .i64 1)), (.k (.int .i64 5))])] 15 (.t 14) (.k (.bool false)), .op (some 16) (.mv (.t 15)), .sc 16 true [.op (some 17) (.fadr 2 (.t 1)), .op (some 18) (.ld 1 false (.t 17)), .op (some 19) (.call 31 [(.t 18), (.k (.int .i64 0)), (.k (.int .i64 10))])] 20 (.t 19) (.k (.bool false)), .op (some 21) (.mv (.t 20)), .sc 21 true [.op (some 22) (.fadr 3 (.t 1)), .op (some 23) (.ld 1 false (.t 22)), .op (some 24) (.call 32 [(.t 23)])] 25 (.t 24) (.k (.bool false)), .op (some 2) (.mv (.t 25))]))
  (.ret))
def F18 : F := ⟨.snap, 26, [.t 2], c18⟩
-- 19: (heptad/assoc.Able).terms
def c19L0 : C := .forget [4, 8, 9, 27, 28, 29] (.seq (.forget [4, 8, 9, 27, 28, 29, 30] (.ops [.op (some 30) (.bin .lss (.t 29) (.t 28))]))
  (.seq (.forget [4, 8, 9, 27, 28, 29] (.cond (.t 30) (.skip)
  (.exit 0)))
  (.seq (.forget [4, 8, 9, 27, 28, 29] (.block 1 (.seq (.forget [4, 8, 9, 11, 27, 28, 29] (.ops [.op (some 31) (.idxa 1 (.t 27) (.t 29)), .op (some 32) (.ld 1 false (.t 31)), .op (some 11) (.mv (.t 32))]))
  (.seq (.forget [4, 8, 9, 11, 27, 28, 29, 36] (.ops [.op (some 33) (.fadr 2 (.t 4)), .op (some 34) (.ld 1 false (.t 33)), .op (some 35) (.mv (.t 11)), .op (some 36) (.call 20 [(.t 34), (.t 35)])]))
  (.cond (.t 36) (.ops [.op (some 37) (.fadr 2 (.t 9)), .op (some 38) (.ld 1 false (.t 37)), .op (some 39) (.mv (.t 11)), .op (some 40) (.bsl 1 1 (.str ⟨#[]⟩) [(0, (.t 39))]), .op (some 41) (.app false 1 4294967296 (.t 38) (.t 40)), .op (some 42) (.fadr 2 (.t 9)), .op none (.st 1 (.t 42) (.t 41))])
  (.skip))))))
  (.ops [.op (some 43) (.bin .add (.t 29) (.k (.int .i64 1))), .op (some 29) (.mv (.t 43))]))))
def c19 : C := .seq (.forget [1, 2, 3, 4, 8] (.ops [.op (some 4) (.box 4 (.t 0)), .op (some 8) (.box 3 (.k (.agg [.int .i64 0, .str ⟨#[]⟩, .esl])))]))
  (.seq (.forget [2, 3, 4, 8, 9] (.dops [0, 2, 4, 9, 1, 3, 5, 6, 7, 8, 10] [] [.op (some 12) (.fadr 0 (.t 4)), .op (some 14) (.mv (.t 1)), .op (some 16) (.fadr 1 (.t 4)), .op (some 9) (.box 3 (.k (.agg [.int .i64 0, .str ⟨#[]⟩, .esl]))), .op (some 13) (.ld 1 false (.t 12)), .op (some 15) (.mnx false (.t 13) (.t 14)), .op (some 17) (.ld 1 false (.t 16)), .op (some 18) (.idxa 1 (.t 17) (.k (.int .i64 0))), .op (some 19) (.ld 1 false (.t 18)), .op (some 20) (.build [.int .i64 0, .str ⟨#[]⟩, .esl] [(0, 1, (.t 15)), (1, 1, (.t 19))]), .op none (.st 3 (.t 9) (.t 20))]))
  (.seq (.forget [3, 4, 8, 9] (.seq (.forget [2, 3, 4, 8, 9, 24] (.ops [.op (some 21) (.fadr 1 (.t 4)), .op (some 22) (.ld 1 false (.t 21)), .op (some 23) (.mv (.t 2)), .op (some 24) (.call 20 [(.t 22), (.t 23)])]))
  (.cond (.t 24) (.ops [.op (some 25) (.mv (.t 2)), .op (some 26) (.fadr 1 (.t 9)), .op none (.st 1 (.t 26) (.t 25))])
  (.skip))))
  (.seq (.forget [8, 9] (.seq (.forget [4, 8, 9, 27, 28, 29] (.ops [.op (some 27) (.mv (.t 3)), .op (some 28) (.len false (.t 27)), .op (some 29) (.mv (.k (.int .i64 0)))]))
  (.block 0 (.loop [4, 8, 9, 27, 28, 29] c19L0))))
  (.seq (.forget [8] (.ops [.op (some 44) (.ld 3 true (.t 9)), .op none (.st 3 (.t 8) (.t 44))]))
  (.ret)))))
def F19 : F := ⟨.pur false, 45, [.cell 8 3 true], c19⟩
-- 20: slices.Contains[[]string,string]
/-- slices.Contains[[]string,string] -/
def c20 : C := .seq (.forget [0, 1] (.ops [.op (some 4) (.mv (.k (.bool false)))]))
  (.seq (.forget [4] (.ops [.op (some 5) (.mv (.t 0)), .op (some 6) (.mv (.t 1)), .op (some 7) (.call 33 [(.t 5), (.t 6)]), .op (some 8) (.bin .geq (.t 7) (.k (.int .i64 0))), .op (some 4) (.mv (.t 8))]))
  (.ret))
def F20 : F := ⟨.snap, 9, [.t 4], c20⟩
-- 21: heptad/heptadref24.Valid
/-- heptad/heptadref24.Valid -/
def c21 : C := .seq (.forget [1, 7, 8, 9, 12, 13, 14, 17, 18, 19, 22, 23, 24] (.ops [.op (some 1) (.box 4 (.t 0)), .op (some 2) (.mv (.k (.bool false)))]))
  (.seq (.forget [2] (.ops [.op (some 3) (.fadr 0 (.t 1)), .op (some 4) (.ld 1 false (.t 3)), .op (some 5) (.bin .geq (.t 4) (.k (.int .i64 1))), .op (some 6) (.mv (.t 5)), .sc 6 true [.op (some 7) (.fadr 0 (.t 1)), .op (some 8) (.ld 1 false (.t 7)), .op (some 9) (.bin .leq (.t 8) (.k (.int .i64 9)))] 10 (.t 9) (.k (.bool false)), .op (some 11) (.mv (.t 10)), .sc 11 true [.op (some 12) (.fadr 1 (.t 1)), .op (some 13) (.ld 1 false (.t 12)), .op (some 14) (.call 34 [(.t 13), (.k (.int .i64 1)), (.k (.int .i64 5))])] 15 (.t 14) (.k (.bool false)), .op (some 16) (.mv (.t 15)), .sc 16 true [.op (some 17) (.fadr 2 (.t 1)), .op (some 18) (.ld 1 false (.t 17)), .op (some 19) (.call 34 [(.t 18), (.k (.int .i64 0)), (.k (.int .i64 10))])] 20 (.t 19) (.k (.bool false)), .op (some 21) (.mv (.t 20)), .sc 21 true [.op (some 22) (.fadr 3 (.t 1)), .op (some 23) (.ld 1 false (.t 22)), .op (some 24) (.call 35 [(.t 23)])] 25 (.t 24) (.k (.bool false)), .op (some 2) (.mv (.t 25))]))
  (.ret))
def F21 : F := ⟨.snap, 26, [.t 2], c21⟩
-- 22: heptad/heptadref24.terms
def c22L0 : C := .forget [2, 7, 8, 9, 10] (.seq (.forget [2, 7, 8, 9, 10] (.seq (.forget [2, 7, 8, 9, 10, 29] (.ops [.op (some 26) (.mv (.t 10)), .op (some 27) (.mv (.t 2)), .op (some 28) (.len false (.t 27)), .op (some 29) (.bin .lss (.t 26) (.t 28))]))
  (.cond (.t 29) (.skip)
  (.exit 0))))
  (.seq (.forget [2, 7, 8, 9, 10] (.block 1 (.seq (.forget [2, 7, 8, 9, 10, 38] (.dops [0, 2, 3, 4, 1, 5, 6] [] [.op (some 32) (.fadr 2 (.t 7)), .op (some 34) (.mv (.t 2)), .op (some 35) (.mv (.t 10)), .op (some 36) (.idxa 1 (.t 34) (.t 35)), .op (some 33) (.ld 1 false (.t 32)), .op (some 37) (.ld 1 false (.t 36)), .op (some 38) (.call 23 [(.t 33), (.t 37)])]))
  (.cond (.t 38) (.dops [0, 2, 3, 4, 1, 5, 6, 7, 8, 9] [.alive (.t 39)] [.op (some 39) (.fadr 2 (.t 9)), .op (some 41) (.mv (.t 2)), .op (some 42) (.mv (.t 10)), .op (some 43) (.idxa 1 (.t 41) (.t 42)), .op (some 40) (.ld 1 false (.t 39)), .op (some 44) (.ld 1 false (.t 43)), .op (some 45) (.bsl 1 1 (.str ⟨#[]⟩) [(0, (.t 44))]), .op (some 46) (.app false 1 4294967296 (.t 40) (.t 45)), .op (some 47) (.fadr 2 (.t 9)), .op none (.st 1 (.t 47) (.t 46))])
  (.skip)))))
  (.ops [.op (some 30) (.mv (.t 10)), .op (some 31) (.bin .add (.t 30) (.k (.int .i64 1))), .op (some 10) (.mv (.t 31))])))
def c22 : C := .seq (.forget [0, 1, 2, 7, 8] (.ops [.op (some 7) (.box 4 (.t 3)), .op (some 8) (.box 3 (.k (.agg [.int .i64 0, .str ⟨#[]⟩, .esl])))]))
  (.seq (.forget [1, 2, 7, 8, 9] (.dops [0, 1, 4, 9, 2, 3, 5, 6, 7, 8, 10] [] [.op (some 11) (.mv (.t 0)), .op (some 12) (.fadr 0 (.t 7)), .op (some 15) (.fadr 1 (.t 7)), .op (some 9) (.box 3 (.k (.agg [.int .i64 0, .str ⟨#[]⟩, .esl]))), .op (some 13) (.ld 1 false (.t 12)), .op (some 14) (.mnx false (.t 11) (.t 13)), .op (some 16) (.ld 1 false (.t 15)), .op (some 17) (.idxa 1 (.t 16) (.k (.int .i64 0))), .op (some 18) (.ld 1 false (.t 17)), .op (some 19) (.build [.int .i64 0, .str ⟨#[]⟩, .esl] [(0, 1, (.t 14)), (1, 1, (.t 18))]), .op none (.st 3 (.t 9) (.t 19))]))
  (.seq (.forget [2, 7, 8, 9] (.seq (.forget [1, 2, 7, 8, 9, 23] (.ops [.op (some 20) (.fadr 1 (.t 7)), .op (some 21) (.ld 1 false (.t 20)), .op (some 22) (.mv (.t 1)), .op (some 23) (.call 23 [(.t 21), (.t 22)])]))
  (.cond (.t 23) (.ops [.op (some 24) (.mv (.t 1)), .op (some 25) (.fadr 1 (.t 9)), .op none (.st 1 (.t 25) (.t 24))])
  (.skip))))
  (.seq (.forget [8, 9] (.seq (.forget [2, 7, 8, 9, 10] (.ops [.op (some 10) (.mv (.k (.int .i64 0)))]))
  (.block 0 (.loop [2, 7, 8, 9, 10] c22L0))))
  (.seq (.forget [8] (.ops [.op (some 48) (.ld 3 true (.t 9)), .op none (.st 3 (.t 8) (.t 48))]))
  (.ret)))))
def F22 : F := ⟨.pur false, 49, [.cell 8 3 true], c22⟩
-- 23: heptad/heptadref24.has
def c23L0 : C := .forget [0, 1, 4, 5] (.seq (.forget [0, 1, 5] (.seq (.forget [0, 1, 5, 9] (.ops [.op (some 6) (.mv (.t 5)), .op (some 7) (.mv (.t 0)), .op (some 8) (.len false (.t 7)), .op (some 9) (.bin .lss (.t 6) (.t 8))]))
  (.cond (.t 9) (.skip)
  (.exit 0))))
  (.seq (.forget [0, 1, 4, 5] (.block 1 (.seq (.forget [0, 1, 5, 17] (.ops [.op (some 12) (.mv (.t 0)), .op (some 13) (.mv (.t 5)), .op (some 14) (.idxa 1 (.t 12) (.t 13)), .op (some 15) (.ld 1 false (.t 14)), .op (some 16) (.mv (.t 1)), .op (some 17) (.bin .eql (.t 15) (.t 16))]))
  (.cond (.t 17) (.seq (.forget [4] (.ops [.op (some 4) (.mv (.k (.bool true)))]))
  (.ret))
  (.skip)))))
  (.ops [.op (some 10) (.mv (.t 5)), .op (some 11) (.bin .add (.t 10) (.k (.int .i64 1))), .op (some 5) (.mv (.t 11))])))
def c23 : C := .seq (.forget [0, 1] (.ops [.op (some 4) (.mv (.k (.bool false)))]))
  (.seq (.forget [4] (.seq (.forget [0, 1, 5] (.ops [.op (some 5) (.mv (.k (.int .i64 0)))]))
  (.block 0 (.loop [0, 1, 5] c23L0))))
  (.seq (.forget [4] (.ops [.op (some 4) (.mv (.k (.bool false)))]))
  (.ret)))
def F23 : F := ⟨.snap, 18, [.t 4], c23⟩
-- 24: heptad/heptadref01.Strings
def c24L0 : C := .forget [0, 1, 4, 5] (.seq (.forget [0, 1, 5] (.seq (.forget [0, 1, 5, 14] (.ops [.op (some 11) (.mv (.t 5)), .op (some 12) (.mv (.t 0)), .op (some 13) (.len false (.t 12)), .op (some 14) (.bin .lss (.t 11) (.t 13))]))
  (.cond (.t 14) (.skip)
  (.exit 0))))
  (.seq (.forget [0, 1, 4, 5] (.block 1 (.seq (.forget [0, 1, 5, 25] (.dops [0, 1, 2, 4, 5, 6, 3, 7, 8] [] [.op (some 17) (.mv (.t 0)), .op (some 18) (.mv (.t 5)), .op (some 19) (.idxa 1 (.t 17) (.t 18)), .op (some 21) (.mv (.t 1)), .op (some 22) (.mv (.t 5)), .op (some 23) (.idxa 1 (.t 21) (.t 22)), .op (some 20) (.ld 1 false (.t 19)), .op (some 24) (.ld 1 false (.t 23)), .op (some 25) (.bin .neq (.t 20) (.t 24))]))
  (.cond (.t 25) (.seq (.forget [4] (.ops [.op (some 4) (.mv (.k (.bool false)))]))
  (.ret))
  (.skip)))))
  (.ops [.op (some 15) (.mv (.t 5)), .op (some 16) (.bin .add (.t 15) (.k (.int .i64 1))), .op (some 5) (.mv (.t 16))])))
def c24 : C := .seq (.forget [0, 1] (.ops [.op (some 4) (.mv (.k (.bool false)))]))
  (.seq (.forget [0, 1, 4] (.seq (.forget [0, 1, 10] (.ops [.op (some 6) (.mv (.t 0)), .op (some 7) (.len false (.t 6)), .op (some 8) (.mv (.t 1)), .op (some 9) (.len false (.t 8)), .op (some 10) (.bin .neq (.t 7) (.t 9))]))
  (.cond (.t 10) (.seq (.forget [4] (.ops [.op (some 4) (.mv (.k (.bool false)))]))
  (.ret))
  (.skip))))
  (.seq (.forget [4] (.seq (.forget [0, 1, 5] (.ops [.op (some 5) (.mv (.k (.int .i64 0)))]))
  (.block 0 (.loop [0, 1, 5] c24L0))))
  (.seq (.forget [4] (.ops [.op (some 4) (.mv (.k (.bool true)))]))
  (.ret))))
def F24 : F := ⟨.snap, 26, [.t 4], c24⟩
-- 32: heptad/assoc.named
/-- heptad/assoc.named -/
def c32 : C := .seq (.forget [0, 7, 8, 9] (.ops [.op (some 2) (.mv (.k (.bool false)))]))
  (.seq (.forget [2] (.ops [.op (some 3) (.mv (.t 0)), .op (some 4) (.len true (.t 3)), .op (some 5) (.bin .geq (.t 4) (.k (.int .i64 1))), .op (some 6) (.mv (.t 5)), .sc 6 true [.op (some 7) (.mv (.t 0)), .op (some 8) (.len true (.t 7)), .op (some 9) (.bin .leq (.t 8) (.k (.int .i64 30)))] 10 (.t 9) (.k (.bool false)), .op (some 2) (.mv (.t 10))]))
  (.ret))
def F32 : F := ⟨.snap, 11, [.t 2], c32⟩
-- 33: slices.Index[[]string,string]
def c33L0 : C := .forget [0, 1, 4, 7, 8] (.seq (.forget [0, 1, 7, 8, 9] (.ops [.op (some 9) (.bin .lss (.t 8) (.t 7))]))
  (.seq (.forget [0, 1, 7, 8] (.cond (.t 9) (.skip)
  (.exit 0)))
  (.seq (.forget [0, 1, 4, 7, 8] (.block 1 (.seq (.forget [0, 1, 5, 7, 8] (.ops [.op (some 10) (.mv (.t 8)), .op (some 5) (.mv (.t 10))]))
  (.seq (.forget [0, 1, 5, 7, 8, 16] (.ops [.op (some 11) (.mv (.t 1)), .op (some 12) (.mv (.t 0)), .op (some 13) (.mv (.t 5)), .op (some 14) (.idxa 1 (.t 12) (.t 13)), .op (some 15) (.ld 1 false (.t 14)), .op (some 16) (.bin .eql (.t 11) (.t 15))]))
  (.cond (.t 16) (.seq (.forget [4] (.ops [.op (some 17) (.mv (.t 5)), .op (some 4) (.mv (.t 17))]))
  (.ret))
  (.skip))))))
  (.ops [.op (some 18) (.bin .add (.t 8) (.k (.int .i64 1))), .op (some 8) (.mv (.t 18))]))))
def c33 : C := .seq (.forget [0, 1] (.ops [.op (some 4) (.mv (.k (.int .i64 0)))]))
  (.seq (.forget [4] (.seq (.forget [0, 1, 7, 8] (.ops [.op (some 6) (.mv (.t 0)), .op (some 7) (.len false (.t 6)), .op (some 8) (.mv (.k (.int .i64 0)))]))
  (.block 0 (.loop [0, 1, 7, 8] c33L0))))
  (.seq (.forget [4] (.ops [.op (some 4) (.mv (.k (.int .i64 (-1))))]))
  (.ret)))
def F33 : F := ⟨.snap, 19, [.t 4], c33⟩
-- 34: heptad/heptadref24.differ
def c34L0 : C := .forget [0, 1, 2, 6, 7, 8, 40, 41, 42, 43] (.seq (.forget [0, 1, 2, 7, 8, 40, 41, 42, 43] (.seq (.forget [0, 1, 2, 7, 8, 23, 40, 41, 42, 43] (.ops [.op (some 21) (.mv (.t 8)), .op (some 22) (.mv (.t 7)), .op (some 23) (.bin .lss (.t 21) (.t 22))]))
  (.cond (.t 23) (.skip)
  (.exit 2))))
  (.seq (.forget [0, 1, 2, 6, 7, 8, 40, 41, 42, 43] (.block 3 (.seq (.forget [0, 1, 2, 7, 8, 34, 40, 41, 42, 43] (.dops [0, 1, 2, 4, 5, 6, 3, 7, 8] [] [.op (some 26) (.mv (.t 0)), .op (some 27) (.mv (.t 7)), .op (some 28) (.idxa 1 (.t 26) (.t 27)), .op (some 30) (.mv (.t 0)), .op (some 31) (.mv (.t 8)), .op (some 32) (.idxa 1 (.t 30) (.t 31)), .op (some 29) (.ld 1 false (.t 28)), .op (some 33) (.ld 1 false (.t 32)), .op (some 34) (.bin .eql (.t 29) (.t 33))]))
  (.cond (.t 34) (.seq (.forget [6] (.ops [.op (some 6) (.mv (.k (.bool false)))]))
  (.ret))
  (.skip)))))
  (.ops [.op (some 24) (.mv (.t 8)), .op (some 25) (.bin .add (.t 24) (.k (.int .i64 1))), .op (some 8) (.mv (.t 25))])))
def c34L1 : C := .forget [0, 1, 2, 6, 7, 40, 41, 42, 43] (.seq (.forget [0, 1, 2, 7, 40, 41, 42, 43] (.seq (.forget [0, 1, 2, 7, 12, 40, 41, 42, 43] (.ops [.op (some 9) (.mv (.t 7)), .op (some 10) (.mv (.t 0)), .op (some 11) (.len false (.t 10)), .op (some 12) (.bin .lss (.t 9) (.t 11))]))
  (.cond (.t 12) (.skip)
  (.exit 0))))
  (.seq (.forget [0, 1, 2, 6, 7, 40, 41, 42, 43] (.block 1 (.seq (.forget [0, 1, 2, 6, 7, 40, 41, 42, 43] (.seq (.forget [0, 1, 2, 7, 20, 40, 41, 42, 43] (.ops [.op (some 15) (.mv (.t 0)), .op (some 16) (.mv (.t 7)), .op (some 17) (.idxa 1 (.t 15) (.t 16)), .op (some 18) (.ld 1 false (.t 17)), .op (some 19) (.call 35 [(.t 18)]), .op (some 20) (.un .not (.t 19))]))
  (.cond (.t 20) (.seq (.forget [6] (.ops [.op (some 6) (.mv (.k (.bool false)))]))
  (.ret))
  (.skip))))
  (.seq (.forget [0, 1, 2, 7, 8, 40, 41, 42, 43] (.ops [.op (some 8) (.mv (.k (.int .i64 0)))]))
  (.block 2 (.loop [0, 1, 2, 7, 8, 40, 41, 42, 43] c34L0))))))
  (.ops [.op (some 13) (.mv (.t 7)), .op (some 14) (.bin .add (.t 13) (.k (.int .i64 1))), .op (some 7) (.mv (.t 14))])))
def c34 : C := .seq (.forget [0, 1, 2, 40, 41, 42, 43] (.ops [.op (some 6) (.mv (.k (.bool false)))]))
  (.seq (.forget [0, 1, 2, 6, 40, 41, 42, 43] (.seq (.forget [0, 1, 2, 7, 40, 41, 42, 43] (.ops [.op (some 7) (.mv (.k (.int .i64 0)))]))
  (.block 0 (.loop [0, 1, 2, 7, 40, 41, 42, 43] c34L1))))
  (.seq (.forget [6] (.ops [.op (some 35) (.mv (.t 0)), .op (some 36) (.len false (.t 35)), .op (some 37) (.mv (.t 1)), .op (some 38) (.bin .geq (.t 36) (.t 37)), .op (some 39) (.mv (.t 38)), .sc 39 true [.op (some 40) (.mv (.t 0)), .op (some 41) (.len false (.t 40)), .op (some 42) (.mv (.t 2)), .op (some 43) (.bin .leq (.t 41) (.t 42))] 44 (.t 43) (.k (.bool false)), .op (some 6) (.mv (.t 44))]))
  (.ret)))
def F34 : F := ⟨.snap, 45, [.t 6], c34⟩
-- 35: heptad/heptadref24.isName
/-- heptad/heptadref24.isName -/
def c35 : C := .seq (.forget [0, 7, 8, 9] (.ops [.op (some 2) (.mv (.k (.bool false)))]))
  (.seq (.forget [2] (.ops [.op (some 3) (.mv (.t 0)), .op (some 4) (.len true (.t 3)), .op (some 5) (.bin .geq (.t 4) (.k (.int .i64 1))), .op (some 6) (.mv (.t 5)), .sc 6 true [.op (some 7) (.mv (.t 0)), .op (some 8) (.len true (.t 7)), .op (some 9) (.bin .leq (.t 8) (.k (.int .i64 30)))] 10 (.t 9) (.k (.bool false)), .op (some 2) (.mv (.t 10))]))
  (.ret))
def F35 : F := ⟨.snap, 11, [.t 2], c35⟩
-- 45: slices.ContainsFunc[[]string,string]
/-- slices.ContainsFunc[[]string,string] -/
def c45 : C := .seq (.forget [0, 1] (.ops [.op (some 4) (.mv (.k (.bool false)))]))
  (.seq (.forget [4] (.ops [.op (some 5) (.mv (.t 0)), .op (some 6) (.mv (.t 1)), .op (some 7) (.call 54 [(.t 5), (.t 6)]), .op (some 8) (.bin .geq (.t 7) (.k (.int .i64 0))), .op (some 4) (.mv (.t 8))]))
  (.ret))
def F45 : F := ⟨.snap, 9, [.t 4], c45⟩
-- 46: heptad/assoc.names$1
/-- heptad/assoc.names$1 -/
def c46 : C := .seq (.forget [0] (.ops [.op (some 2) (.mv (.k (.bool false)))]))
  (.seq (.forget [2] (.ops [.op (some 3) (.mv (.t 0)), .op (some 4) (.call 32 [(.t 3)]), .op (some 5) (.un .not (.t 4)), .op (some 2) (.mv (.t 5))]))
  (.ret))
def F46 : F := ⟨.snap, 6, [.t 2], c46⟩
-- 54: slices.IndexFunc[[]string,string]
def c54L0 : C := .forget [0, 1, 4, 7, 8] (.seq (.forget [0, 1, 7, 8, 9] (.ops [.op (some 9) (.bin .lss (.t 8) (.t 7))]))
  (.seq (.forget [0, 1, 7, 8] (.cond (.t 9) (.skip)
  (.exit 0)))
  (.seq (.forget [0, 1, 4, 7, 8] (.block 1 (.seq (.forget [0, 1, 5, 7, 8] (.ops [.op (some 10) (.mv (.t 8)), .op (some 5) (.mv (.t 10))]))
  (.seq (.forget [0, 1, 5, 7, 8, 16] (.ops [.op (some 11) (.mv (.t 1)), .op (some 12) (.mv (.t 0)), .op (some 13) (.mv (.t 5)), .op (some 14) (.idxa 1 (.t 12) (.t 13)), .op (some 15) (.ld 1 false (.t 14)), .op (some 16) (.callv true (.t 11) [(.t 15)])]))
  (.cond (.t 16) (.seq (.forget [4] (.ops [.op (some 17) (.mv (.t 5)), .op (some 4) (.mv (.t 17))]))
  (.ret))
  (.skip))))))
  (.ops [.op (some 18) (.bin .add (.t 8) (.k (.int .i64 1))), .op (some 8) (.mv (.t 18))]))))
def c54 : C := .seq (.forget [0, 1] (.ops [.op (some 4) (.mv (.k (.int .i64 0)))]))
  (.seq (.forget [4] (.seq (.forget [0, 1, 7, 8] (.ops [.op (some 6) (.mv (.t 0)), .op (some 7) (.len false (.t 6)), .op (some 8) (.mv (.k (.int .i64 0)))]))
  (.block 0 (.loop [0, 1, 7, 8] c54L0))))
  (.seq (.forget [4] (.ops [.op (some 4) (.mv (.k (.int .i64 (-1))))]))
  (.ret)))
def F54 : F := ⟨.snap, 19, [.t 4], c54⟩
def fnl : List (Nat × F) := [(3, F3), (5, F5), (6, F6), (7, F7), (8, F8), (9, F9), (10, F10), (18, F18), (19, F19), (20, F20), (21, F21), (22, F22), (23, F23), (24, F24), (32, F32), (33, F33), (34, F34), (35, F35), (45, F45), (46, F46), (54, F54)]
end Go.Proofs.Ytdefghfdccmebaa
