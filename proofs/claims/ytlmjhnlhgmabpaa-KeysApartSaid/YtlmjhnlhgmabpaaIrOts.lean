/- The abstract code of functions, printed by gen_ir.py out of the program's form in Lean; each is checked against it. -/
import Derived.Test.YtlmjhnlhgmabpaaProg
import Derived.Test.YtlmjhnlhgmabpaaAbs2
set_option linter.unusedVariables false
set_option linter.unusedSimpArgs false
set_option maxRecDepth 100000
namespace Go.Proofs.Ytlmjhnlhgmabpaa
open Go.Abs
-- ots.cut
-- ots.cut: args [33]; lent []; rs [.cell 2 (some (16, true))]; loops: 
def irOtsCut : IR := (.seq (.region [
    (.alloc 2 (.pagg (List.replicate 16 (.int .u8 0))), none)])
 (.seq (.kill [0, 2] [2] (.region [
     (.mv 4 0, none),
     (.call 5 34 [.t 4] [] [] [], none),
     (.alloc 3 (.pagg (List.replicate 32 (.int .u8 0))), none),
     (.store (some (32, true)) (some 3) (.t 3) (.t 5), none)]))
  (.seq (.kill [2, 3] [2, 3] (.region [
      (.p 6 (.slice (some 32) 1 false true) [.t 3, .c (.pv (.int .i64 16))], none),
      (.p 7 (.s2ap 16) [.t 6], none),
      (.load 8 (some (16, false)) (some 3) (.t 7), none),
      (.store (some (16, true)) (some 2) (.t 2) (.t 8), none)]))
   .ret)))
theorem okOtsCut : okFn Try.prog Try.f58 irOtsCut [.cell 2 (some (16, true))] [] 1 = true := by kernel_rfl

-- ots.step
-- ots.step: args [70, 3, 3]; lent []; rs [.cell 6 (some (16, true))]; loops: 
def irOtsStep : IR := (.seq (.region [
    (.rbox 3 (.t 0), none),
    (.alloc 6 (.pagg (List.replicate 16 (.int .u8 0))), none)])
 (.seq (.kill [1, 2, 3, 6] [6] (.region [
     (.bslice 7 5 1 0 [.int .u8 0] [], none),
     (.p 8 (.slice (some 16) 1 false false) [.t 3], none),
     (.app 9 5 1 7 none (.t 8), none),
     (.p 10 .id [.t 1], none),
     (.p 11 (.conv .u8) [.t 10], none),
     (.p 12 .id [.t 2], none),
     (.p 13 (.conv .u8) [.t 12], none),
     (.bslice 14 5 1 2 [.int .u8 0] [(0, .t 11), (1, .t 13)], none),
     (.app 15 5 1 9 none (.t 14), none),
     (.call 16 58 [.t 15] [] [] [], none),
     (.store (some (16, true)) (some 6) (.t 6) (.t 16), none)]))
  .ret))
theorem okOtsStep : okFn Try.prog Try.f56 irOtsStep [.cell 6 (some (16, true))] [] 3 = true := by kernel_rfl

-- ots.walk
-- ots.walk: args [70, 3, 3, 3]; lent []; rs [.cell 8 (some (16, true))]; loops: L1 keeps [1, 3, 4, 8, 9] [4, 8]
def irOtsWalk_L1 : IR := (.seq (.seq (.kill [1, 3, 4, 8, 9] [4, 8] (.region [
      (.p 11 .id [.t 9], none),
      (.p 12 .id [.t 3], none),
      (.p 13 (.bin .lss) [.t 11, .t 12], none)]))
   (.cond (.t 13)
    .skip
    (.exit 0)))
  (.seq (.block 1 (.kill [1, 3, 4, 8, 9] [4, 8] (.region [
       (.load 16 (some (16, true)) (some 4) (.t 4), none),
       (.p 17 .id [.t 1], none),
       (.p 18 .id [.t 9], none),
       (.call 19 56 [.t 16, .t 17, .t 18] [] [] [], none),
       (.store (some (16, true)) (some 4) (.t 4) (.t 19), none)])))
   (.kill [1, 3, 4, 8, 9] [4, 8] (.region [
      (.p 14 .id [.t 9], none),
      (.p 15 (.bin .add) [.t 14, .c (.pv (.int .i64 1))], none),
      (.p 9 .id [.t 15], none)]))))
def irOtsWalk : IR := (.seq (.region [
    (.box 4 (.t 0), none),
    (.alloc 8 (.pagg (List.replicate 16 (.int .u8 0))), none)])
 (.seq (.seq (.kill [1, 2, 3, 4, 8] [4, 8] (.region [
      (.p 10 .id [.t 2], none),
      (.p 9 .id [.t 10], none)]))
   (.block 0 (.loop (.kill [1, 3, 4, 8, 9] [4, 8] irOtsWalk_L1))))
  (.seq (.kill [4, 8] [4, 8] (.region [
      (.load 20 (some (16, true)) (some 4) (.t 4), none),
      (.store (some (16, true)) (some 8) (.t 8) (.t 20), none)]))
   .ret)))
theorem okOtsWalk : okFn Try.prog Try.f39 irOtsWalk [.cell 8 (some (16, true))] [] 4 = true := by kernel_rfl

-- ots.secret
-- ots.secret: args [23, 3, 3]; lent []; rs [.cell 6 (some (16, true))]; loops: 
def irOtsSecret : IR := (.seq (.region [
    (.rbox 3 (.t 0), none),
    (.alloc 6 (.pagg (List.replicate 16 (.int .u8 0))), none)])
 (.seq (.kill [1, 2, 3, 6] [6] (.region [
     (.p 8 (.slice (some 32) 1 false false) [.t 3], none),
     (.p 9 .id [.t 1], none),
     (.p 10 (.conv .u64) [.t 9], none),
     (.call 11 33 [.t 8, .t 10, .c (.pv (.int .i64 8))] [] [] [], none),
     (.mv 7 11, none)]))
  (.seq (.kill [2, 6, 7] [6] (.region [
      (.mv 12 7, none),
      (.p 13 .id [.t 2], none),
      (.p 14 (.conv .u8) [.t 13], none),
      (.bslice 15 5 1 1 [.int .u8 0] [(0, .t 14)], none),
      (.app 16 5 1 12 none (.t 15), none),
      (.call 17 58 [.t 16] [] [] [], none),
      (.store (some (16, true)) (some 6) (.t 6) (.t 17), none)]))
   .ret)))
theorem okOtsSecret : okFn Try.prog Try.f45 irOtsSecret [.cell 6 (some (16, true))] [] 3 = true := by kernel_rfl

-- ots.Public
-- ots.Public: args [23, 3]; lent []; rs [.cell 4 (some (32, true))]; loops: L1 keeps [1, 2, 4, 5, 8] [4]
def irOtsPublic_L1 : IR := (.seq (.kill [1, 2, 4, 5, 8] [4] (.region [
     (.p 9 (.bin .lss) [.t 8, .c (.pv (.int .i64 35))], none)]))
  (.seq (.cond (.t 9)
    .skip
    (.exit 0))
   (.seq (.block 1 (.seq (.kill [1, 2, 4, 5, 8] [4] (.region [
         (.p 10 .id [.t 8], none),
         (.p 6 .id [.t 10], none)]))
      (.seq (.kill [1, 2, 4, 5, 6, 8] [4] (.region [
          (.load 11 (some (32, true)) (some 9999) (.t 2), none),
          (.p 12 .id [.t 1], none),
          (.p 13 .id [.t 6], none),
          (.call 14 45 [.t 11, .t 12, .t 13] [] [] [], none),
          (.p 15 .id [.t 6], none),
          (.call 16 39 [.t 14, .t 15, .c (.pv (.int .i64 0)), .c (.pv (.int .i64 15))] [] [] [], none),
          (.alloc 7 (.pagg (List.replicate 16 (.int .u8 0))), none),
          (.store (some (16, true)) (some 7) (.t 7) (.t 16), none)]))
       (.kill [1, 2, 4, 5, 7, 8] [4, 7] (.region [
          (.mv 17 5, none),
          (.p 18 (.slice (some 16) 1 false false) [.t 7], none),
          (.app 19 5 1 17 (some 7) (.t 18), none),
          (.mv 5 19, none)])))))
    (.kill [1, 2, 4, 5, 8] [4] (.region [
       (.p 20 (.bin .add) [.t 8, .c (.pv (.int .i64 1))], none),
       (.p 8 .id [.t 20], none)])))))
def irOtsPublic : IR := (.seq (.region [
    (.rbox 2 (.t 0), none),
    (.alloc 4 (.pagg (List.replicate 32 (.int .u8 0))), none)])
 (.seq (.kill [1, 2, 4] [4] (.region [
     (.p 5 .id [.c (.os 5 1 [])], none)]))
  (.seq (.seq (.kill [1, 2, 4, 5] [4] (.region [
       (.p 8 .id [.c (.pv (.int .i64 0))], none)]))
    (.block 0 (.loop (.kill [1, 2, 4, 5, 8] [4] irOtsPublic_L1))))
   (.seq (.kill [4, 5] [4] (.region [
       (.mv 21 5, none),
       (.call 22 34 [.t 21] [] [] [], none),
       (.store (some (32, true)) (some 4) (.t 4) (.t 22), none)]))
    .ret))))
theorem okOtsPublic : okFn Try.prog Try.f35 irOtsPublic [.cell 4 (some (32, true))] [] 2 = true := by kernel_rfl

-- ots.Sign
-- ots.Sign: args [23, 3, 33]; lent []; rs [.t 6]; loops: L1 keeps [1, 3, 7, 13, 14] []
def irOtsSign_L1 : IR := (.seq (.kill [1, 3, 7, 13, 14] [] (.region [
     (.p 15 (.bin .lss) [.t 14, .c (.pv (.int .i64 35))], none)]))
  (.seq (.cond (.t 15)
    .skip
    (.exit 0))
   (.seq (.block 1 (.seq (.kill [1, 3, 7, 13, 14] [] (.region [
         (.p 16 .id [.t 14], none),
         (.p 17 (.index 35 1 none) [.t 13, .t 14], none),
         (.p 8 .id [.t 16], none),
         (.p 9 .id [.t 17], none)]))
      (.seq (.kill [1, 3, 7, 8, 9, 13, 14] [] (.region [
          (.load 18 (some (32, true)) (some 9999) (.t 3), none),
          (.p 19 .id [.t 1], none),
          (.p 20 .id [.t 8], none),
          (.call 21 45 [.t 18, .t 19, .t 20] [] [] [], none),
          (.p 22 .id [.t 8], none),
          (.p 23 .id [.t 9], none),
          (.call 24 39 [.t 21, .t 22, .c (.pv (.int .i64 0)), .t 23] [] [] [], none),
          (.alloc 10 (.pagg (List.replicate 16 (.int .u8 0))), none),
          (.store (some (16, true)) (some 10) (.t 10) (.t 24), none)]))
       (.kill [1, 3, 7, 10, 13, 14] [10] (.region [
          (.mv 25 7, none),
          (.p 26 (.slice (some 16) 1 false false) [.t 10], none),
          (.app 27 5 1 25 (some 10) (.t 26), none),
          (.mv 7 27, none)])))))
    (.kill [1, 3, 7, 13, 14] [] (.region [
       (.p 28 (.bin .add) [.t 14, .c (.pv (.int .i64 1))], none),
       (.p 14 .id [.t 28], none)])))))
def irOtsSign : IR := (.seq (.region [
    (.rbox 3 (.t 0), none),
    (.p 6 .id [.c (.os 5 1 [])], none)])
 (.seq (.kill [1, 2, 3] [] (.region [
     (.p 7 .id [.c (.os 5 1 [])], none)]))
  (.seq (.seq (.kill [1, 2, 3, 7] [] (.region [
       (.mv 11 2, none),
       (.call 12 34 [.t 11] [] [] [], none),
       (.call 13 38 [.t 12] [] [] [], none),
       (.p 14 .id [.c (.pv (.int .i64 0))], none)]))
    (.block 0 (.loop (.kill [1, 3, 7, 13, 14] [] irOtsSign_L1))))
   (.seq (.kill [7] [] (.region [
       (.mv 29 7, none),
       (.mv 6 29, none)]))
    .ret))))
theorem okOtsSign : okFn Try.prog Try.f32 irOtsSign [.t 6] [] 3 = true := by kernel_rfl

-- ots.Recover
-- ots.Recover: args [33, 33]; lent []; rs [.cell 4 (some (32, true)), .t 5]; loops: L1 keeps [1, 4, 6, 16, 17] [4]
def irOtsRecover_L1 : IR := (.seq (.kill [1, 4, 6, 16, 17] [4] (.region [
     (.p 18 (.bin .lss) [.t 17, .c (.pv (.int .i64 35))], none)]))
  (.seq (.cond (.t 18)
    .skip
    (.exit 0))
   (.seq (.block 1 (.seq (.kill [1, 4, 6, 16, 17] [4] (.region [
         (.p 19 .id [.t 17], none),
         (.p 20 (.index 35 1 none) [.t 16, .t 17], none),
         (.p 7 .id [.t 19], none),
         (.p 8 .id [.t 20], none)]))
      (.seq (.kill [1, 4, 6, 7, 8, 16, 17] [4] (.region [
          (.p 21 .id [.t 1], none),
          (.p 22 .id [.t 7], none),
          (.p 23 (.bin .mul) [.c (.pv (.int .i64 16)), .t 22], none),
          (.p 24 .id [.t 7], none),
          (.p 25 (.bin .mul) [.c (.pv (.int .i64 16)), .t 24], none),
          (.p 26 (.bin .add) [.t 25, .c (.pv (.int .i64 16))], none),
          (.p 27 (.slice none 1 true true) [.t 21, .t 23, .t 26], none),
          (.p 28 (.s2ap 16) [.t 27], none),
          (.load 29 (some (16, true)) (some 9999) (.t 28), none),
          (.p 30 .id [.t 7], none),
          (.p 31 .id [.t 8], none),
          (.call 32 39 [.t 29, .t 30, .t 31, .c (.pv (.int .i64 15))] [] [] [], none),
          (.alloc 9 (.pagg (List.replicate 16 (.int .u8 0))), none),
          (.store (some (16, true)) (some 9) (.t 9) (.t 32), none)]))
       (.kill [1, 4, 6, 9, 16, 17] [4, 9] (.region [
          (.mv 33 6, none),
          (.p 34 (.slice (some 16) 1 false false) [.t 9], none),
          (.app 35 5 1 33 (some 9) (.t 34), none),
          (.mv 6 35, none)])))))
    (.kill [1, 4, 6, 16, 17] [4] (.region [
       (.p 36 (.bin .add) [.t 17, .c (.pv (.int .i64 1))], none),
       (.p 17 .id [.t 36], none)])))))
def irOtsRecover : IR := (.seq (.region [
    (.alloc 4 (.pagg (List.replicate 32 (.int .u8 0))), none),
    (.p 5 .id [.c (.pv (.int .i64 0))], none)])
 (.seq (.seq (.kill [0, 1, 4] [4] (.region [
      (.p 10 .id [.t 1], none),
      (.p 11 (.len none) [.t 10], none),
      (.p 12 (.bin .neq) [.t 11, .c (.pv (.int .i64 560))], none)]))
   (.cond (.t 12)
    (.seq (.kill [4] [4] (.region [
        (.build 13 (.pagg (List.replicate 32 (.int .u8 0))) [], none),
        (.store (some (32, true)) (some 4) (.t 4) (.t 13), none),
        (.p 5 .id [.c (.pv (.int .i64 2))], none)]))
     .ret)
    .skip))
  (.seq (.kill [0, 1, 4] [4] (.region [
      (.p 6 .id [.c (.os 5 1 [])], none)]))
   (.seq (.seq (.kill [0, 1, 4, 6] [4] (.region [
        (.mv 14 0, none),
        (.call 15 34 [.t 14] [] [] [], none),
        (.call 16 38 [.t 15] [] [] [], none),
        (.p 17 .id [.c (.pv (.int .i64 0))], none)]))
     (.block 0 (.loop (.kill [1, 4, 6, 16, 17] [4] irOtsRecover_L1))))
    (.seq (.kill [4, 6] [4] (.region [
        (.mv 37 6, none),
        (.call 38 34 [.t 37] [] [] [], none),
        (.store (some (32, true)) (some 4) (.t 4) (.t 38), none),
        (.p 5 .id [.c (.pv (.int .i64 0))], none)]))
     .ret)))))
theorem okOtsRecover : okFn Try.prog Try.f25 irOtsRecover [.cell 4 (some (32, true)), .t 5] [] 2 = true := by kernel_rfl

-- consistoryref04.Piece
-- consistoryref04.Piece: args [33]; lent []; rs [.t 2]; loops: 
def irRef04Piece : IR := (.seq (.region [
    (.p 2 .id [.c (.os 5 1 [])], none)])
 (.seq (.kill [0] [] (.region [
     (.mv 3 0, none),
     (.call 4 24 [.t 3] [] [] [], none),
     (.call 5 22 [.t 4] [] [] [], none),
     (.p 6 (.slice none 1 false true) [.t 5, .c (.pv (.int .i64 16))], none),
     (.mv 2 6, none)]))
  .ret))
theorem okRef04Piece : okFn Try.prog Try.f57 irRef04Piece [.t 2] [] 1 = true := by kernel_rfl

-- consistoryref04.Walk
-- consistoryref04.Walk: args [33, 3, 3, 3]; lent []; rs [.t 8]; loops: L1 keeps [0, 1, 3, 9] []
def irRef04Walk_L1 : IR := (.seq (.seq (.kill [0, 1, 3, 9] [] (.region [
      (.p 12 .id [.t 9], none),
      (.p 13 .id [.t 3], none),
      (.p 14 (.bin .lss) [.t 12, .t 13], none)]))
   (.cond (.t 14)
    .skip
    (.exit 0)))
  (.seq (.block 1 (.seq (.kill [0, 1, 3, 9] [] (.region [
        (.p 10 .id [.c (.os 5 1 [])], none)]))
     (.seq (.kill [0, 1, 3, 9, 10] [] (.region [
         (.mv 17 10, none),
         (.mv 18 0, none),
         (.app 19 5 1 17 none (.t 18), none),
         (.mv 10 19, none)]))
      (.seq (.kill [1, 3, 9, 10] [] (.region [
          (.mv 20 10, none),
          (.p 21 .id [.t 1], none),
          (.p 22 (.conv .u8) [.t 21], none),
          (.p 23 .id [.t 9], none),
          (.p 24 (.conv .u8) [.t 23], none),
          (.bslice 25 5 1 2 [.int .u8 0] [(0, .t 22), (1, .t 24)], none),
          (.app 26 5 1 20 none (.t 25), none),
          (.mv 10 26, none)]))
       (.kill [1, 3, 9, 10] [] (.region [
          (.mv 27 10, none),
          (.call 28 57 [.t 27] [] [] [], none),
          (.mv 0 28, none)]))))))
   (.kill [0, 1, 3, 9] [] (.region [
      (.p 15 .id [.t 9], none),
      (.p 16 (.bin .add) [.t 15, .c (.pv (.int .i64 1))], none),
      (.p 9 .id [.t 16], none)]))))
def irRef04Walk : IR := (.seq (.region [
    (.p 8 .id [.c (.os 5 1 [])], none)])
 (.seq (.seq (.kill [0, 1, 2, 3] [] (.region [
      (.p 11 .id [.t 2], none),
      (.p 9 .id [.t 11], none)]))
   (.block 0 (.loop (.kill [0, 1, 3, 9] [] irRef04Walk_L1))))
  (.seq (.kill [0] [] (.region [
      (.mv 29 0, none),
      (.mv 8 29, none)]))
   .ret)))
theorem okRef04Walk : okFn Try.prog Try.f42 irRef04Walk [.t 8] [] 4 = true := by kernel_rfl

-- consistoryref04.Secret
-- consistoryref04.Secret: args [23, 3, 3]; lent []; rs [.t 6]; loops: 
def irRef04Secret : IR := (.seq (.region [
    (.rbox 3 (.t 0), none),
    (.p 6 .id [.c (.os 5 1 [])], none)])
 (.seq (.kill [1, 2, 3] [] (.region [
     (.load 8 (some (32, true)) (some 9999) (.t 3), none),
     (.call 9 22 [.t 8] [] [] [], none),
     (.mv 7 9, none)]))
  (.seq (.kill [1, 2, 7] [] (.region [
      (.mv 10 7, none),
      (.p 11 .id [.t 1], none),
      (.p 12 (.conv .u64) [.t 11], none),
      (.call 13 23 [.t 12, .c (.pv (.int .i64 8))] [] [] [], none),
      (.app 14 5 1 10 none (.t 13), none),
      (.mv 7 14, none)]))
   (.seq (.kill [2, 7] [] (.region [
       (.mv 15 7, none),
       (.p 16 .id [.t 2], none),
       (.p 17 (.conv .u8) [.t 16], none),
       (.bslice 18 5 1 1 [.int .u8 0] [(0, .t 17)], none),
       (.app 19 5 1 15 none (.t 18), none),
       (.mv 7 19, none)]))
    (.seq (.kill [7] [] (.region [
        (.mv 20 7, none),
        (.call 21 57 [.t 20] [] [] [], none),
        (.mv 6 21, none)]))
     .ret)))))
theorem okRef04Secret : okFn Try.prog Try.f44 irRef04Secret [.t 6] [] 3 = true := by kernel_rfl

-- consistoryref04.Public
-- consistoryref04.Public: args [23, 3]; lent []; rs [.cell 4 (some (32, true))]; loops: L1 keeps [1, 2, 4, 5, 6] [4]
def irRef04Public_L1 : IR := (.seq (.seq (.kill [1, 2, 4, 5, 6] [4] (.region [
      (.p 7 .id [.t 6], none),
      (.p 8 (.bin .lss) [.t 7, .c (.pv (.int .i64 35))], none)]))
   (.cond (.t 8)
    .skip
    (.exit 0)))
  (.seq (.block 1 (.kill [1, 2, 4, 5, 6] [4] (.region [
       (.mv 11 5, none),
       (.load 12 (some (32, true)) (some 9999) (.t 2), none),
       (.p 13 .id [.t 1], none),
       (.p 14 .id [.t 6], none),
       (.call 15 44 [.t 12, .t 13, .t 14] [] [] [], none),
       (.p 16 .id [.t 6], none),
       (.call 17 42 [.t 15, .t 16, .c (.pv (.int .i64 0)), .c (.pv (.int .i64 15))] [] [] [], none),
       (.app 18 5 1 11 none (.t 17), none),
       (.mv 5 18, none)])))
   (.kill [1, 2, 4, 5, 6] [4] (.region [
      (.p 9 .id [.t 6], none),
      (.p 10 (.bin .add) [.t 9, .c (.pv (.int .i64 1))], none),
      (.p 6 .id [.t 10], none)]))))
def irRef04Public : IR := (.seq (.region [
    (.rbox 2 (.t 0), none),
    (.alloc 4 (.pagg (List.replicate 32 (.int .u8 0))), none)])
 (.seq (.kill [1, 2, 4] [4] (.region [
     (.p 5 .id [.c (.os 5 1 [])], none)]))
  (.seq (.seq (.kill [1, 2, 4, 5] [4] (.region [
       (.p 6 .id [.c (.pv (.int .i64 0))], none)]))
    (.block 0 (.loop (.kill [1, 2, 4, 5, 6] [4] irRef04Public_L1))))
   (.seq (.kill [4, 5] [4] (.region [
       (.mv 19 5, none),
       (.call 20 24 [.t 19] [] [] [], none),
       (.store (some (32, true)) (some 4) (.t 4) (.t 20), none)]))
    .ret))))
theorem okRef04Public : okFn Try.prog Try.f31 irRef04Public [.cell 4 (some (32, true))] [] 2 = true := by kernel_rfl

-- consistoryref04.Sign
-- consistoryref04.Sign: args [23, 3, 33]; lent []; rs [.t 6]; loops: L1 keeps [1, 3, 7, 8, 9] []
def irRef04Sign_L1 : IR := (.seq (.seq (.kill [1, 3, 7, 8, 9] [] (.region [
      (.p 13 .id [.t 9], none),
      (.p 14 (.bin .lss) [.t 13, .c (.pv (.int .i64 35))], none)]))
   (.cond (.t 14)
    .skip
    (.exit 0)))
  (.seq (.block 1 (.kill [1, 3, 7, 8, 9] [] (.region [
       (.mv 17 8, none),
       (.load 18 (some (32, true)) (some 9999) (.t 3), none),
       (.p 19 .id [.t 1], none),
       (.p 20 .id [.t 9], none),
       (.call 21 44 [.t 18, .t 19, .t 20] [] [] [], none),
       (.p 22 .id [.t 9], none),
       (.p 23 .id [.t 7], none),
       (.p 24 .id [.t 9], none),
       (.p 25 (.indexAddr none 1) [.t 23, .t 24], none),
       (.load 26 none (some 9999) (.t 25), none),
       (.call 27 42 [.t 21, .t 22, .c (.pv (.int .i64 0)), .t 26] [] [] [], none),
       (.app 28 5 1 17 none (.t 27), none),
       (.mv 8 28, none)])))
   (.kill [1, 3, 7, 8, 9] [] (.region [
      (.p 15 .id [.t 9], none),
      (.p 16 (.bin .add) [.t 15, .c (.pv (.int .i64 1))], none),
      (.p 9 .id [.t 16], none)]))))
def irRef04Sign : IR := (.seq (.region [
    (.rbox 3 (.t 0), none),
    (.p 6 .id [.c (.os 5 1 [])], none)])
 (.seq (.kill [1, 2, 3] [] (.region [
     (.mv 10 2, none),
     (.call 11 24 [.t 10] [] [] [], none),
     (.call 12 41 [.t 11] [] [] [], none),
     (.mv 7 12, none)]))
  (.seq (.kill [1, 3, 7] [] (.region [
      (.p 8 .id [.c (.os 5 1 [])], none)]))
   (.seq (.seq (.kill [1, 3, 7, 8] [] (.region [
        (.p 9 .id [.c (.pv (.int .i64 0))], none)]))
     (.block 0 (.loop (.kill [1, 3, 7, 8, 9] [] irRef04Sign_L1))))
    (.seq (.kill [8] [] (.region [
        (.mv 29 8, none),
        (.mv 6 29, none)]))
     .ret)))))
theorem okRef04Sign : okFn Try.prog Try.f29 irRef04Sign [.t 6] [] 3 = true := by kernel_rfl

-- consistoryref04.Recover
-- consistoryref04.Recover: args [33, 33]; lent []; rs [.cell 4 (some (32, true)), .t 5]; loops: L1 keeps [1, 4, 6, 7, 8] [4]
def irRef04Recover_L1 : IR := (.seq (.seq (.kill [1, 4, 6, 7, 8] [4] (.region [
      (.p 16 .id [.t 8], none),
      (.p 17 (.bin .lss) [.t 16, .c (.pv (.int .i64 35))], none)]))
   (.cond (.t 17)
    .skip
    (.exit 0)))
  (.seq (.block 1 (.kill [1, 4, 6, 7, 8] [4] (.region [
       (.mv 20 7, none),
       (.p 21 .id [.t 1], none),
       (.p 22 .id [.t 8], none),
       (.p 23 (.bin .mul) [.c (.pv (.int .i64 16)), .t 22], none),
       (.p 24 .id [.t 8], none),
       (.p 25 (.bin .mul) [.c (.pv (.int .i64 16)), .t 24], none),
       (.p 26 (.bin .add) [.t 25, .c (.pv (.int .i64 16))], none),
       (.p 27 (.slice none 1 true true) [.t 21, .t 23, .t 26], none),
       (.p 28 .id [.t 8], none),
       (.p 29 .id [.t 6], none),
       (.p 30 .id [.t 8], none),
       (.p 31 (.indexAddr none 1) [.t 29, .t 30], none),
       (.load 32 none (some 9999) (.t 31), none),
       (.call 33 42 [.t 27, .t 28, .t 32, .c (.pv (.int .i64 15))] [] [] [], none),
       (.app 34 5 1 20 none (.t 33), none),
       (.mv 7 34, none)])))
   (.kill [1, 4, 6, 7, 8] [4] (.region [
      (.p 18 .id [.t 8], none),
      (.p 19 (.bin .add) [.t 18, .c (.pv (.int .i64 1))], none),
      (.p 8 .id [.t 19], none)]))))
def irRef04Recover : IR := (.seq (.region [
    (.alloc 4 (.pagg (List.replicate 32 (.int .u8 0))), none),
    (.p 5 .id [.c (.pv (.int .i64 0))], none)])
 (.seq (.seq (.kill [0, 1, 4] [4] (.region [
      (.p 9 .id [.t 1], none),
      (.p 10 (.len none) [.t 9], none),
      (.p 11 (.bin .neq) [.t 10, .c (.pv (.int .i64 560))], none)]))
   (.cond (.t 11)
    (.seq (.kill [4] [4] (.region [
        (.build 12 (.pagg (List.replicate 32 (.int .u8 0))) [], none),
        (.store (some (32, true)) (some 4) (.t 4) (.t 12), none),
        (.p 5 .id [.c (.pv (.int .i64 2))], none)]))
     .ret)
    .skip))
  (.seq (.kill [0, 1, 4] [4] (.region [
      (.mv 13 0, none),
      (.call 14 24 [.t 13] [] [] [], none),
      (.call 15 41 [.t 14] [] [] [], none),
      (.mv 6 15, none)]))
   (.seq (.kill [1, 4, 6] [4] (.region [
       (.p 7 .id [.c (.os 5 1 [])], none)]))
    (.seq (.seq (.kill [1, 4, 6, 7] [4] (.region [
         (.p 8 .id [.c (.pv (.int .i64 0))], none)]))
      (.block 0 (.loop (.kill [1, 4, 6, 7, 8] [4] irRef04Recover_L1))))
     (.seq (.kill [4, 7] [4] (.region [
         (.mv 35 7, none),
         (.call 36 24 [.t 35] [] [] [], none),
         (.store (some (32, true)) (some 4) (.t 4) (.t 36), none),
         (.p 5 .id [.c (.pv (.int .i64 0))], none)]))
      .ret))))))
theorem okRef04Recover : okFn Try.prog Try.f27 irRef04Recover [.cell 4 (some (32, true)), .t 5] [] 2 = true := by kernel_rfl

end Go.Proofs.Ytlmjhnlhgmabpaa
