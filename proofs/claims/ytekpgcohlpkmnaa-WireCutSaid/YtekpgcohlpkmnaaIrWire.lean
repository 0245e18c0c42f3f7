/- The abstract code of functions, printed by gen_ir.py out of the program's form in Lean; each is checked against it. -/
import Derived.Test.YtekpgcohlpkmnaaProg
import Derived.Test.YtekpgcohlpkmnaaAbs2
set_option linter.unusedVariables false
set_option linter.unusedSimpArgs false
set_option maxRecDepth 100000
namespace Go.Proofs.Ytekpgcohlpkmnaa
open Go.Abs
-- wire.packed
-- wire.packed: args [3]; lent []; rs [.t 2]; loops: 
def irWirePacked : IR := (.seq (.region [
    (.p 2 .id [.c (.pv (.int .i64 0))], none)])
 (.seq (.kill [0] [] (.region [
     (.p 3 .id [.t 0], none),
     (.p 4 (.conv .u64) [.t 3], none),
     (.call 5 26 [.c (.os 5 1 []), .t 4] [] [] [], none),
     (.p 6 (.len none) [.t 5], none),
     (.p 2 .id [.t 6], none)]))
  .ret))
theorem okWirePacked : okFn Try.prog Try.f17 irWirePacked [.t 2] [] 1 = true := by kernel_rfl

-- wire.text
-- wire.text: args [24]; lent []; rs [.t 2]; loops: 
def irWireText : IR := (.seq (.region [
    (.p 2 .id [.c (.pv (.int .i64 0))], none)])
 (.seq (.kill [0] [] (.region [
     (.p 3 .id [.t 0], none),
     (.p 4 (.len none) [.t 3], none),
     (.call 5 17 [.t 4] [] [] [], none),
     (.p 6 .id [.t 0], none),
     (.p 7 (.len none) [.t 6], none),
     (.p 8 (.bin .add) [.t 5, .t 7], none),
     (.p 2 .id [.t 8], none)]))
  .ret))
theorem okWireText : okFn Try.prog Try.f16 irWireText [.t 2] [] 1 = true := by kernel_rfl

-- wire.Size
-- wire.Size: args [27]; lent []; rs [.t 2]; loops: L1 keeps [3, 16, 17, 18] []
def irWireSize_L1 : IR := (.seq (.kill [3, 16, 17, 18] [] (.region [
     (.p 19 (.bin .lss) [.t 18, .t 17], none)]))
  (.seq (.cond (.t 19)
    .skip
    (.exit 0))
   (.seq (.block 1 (.seq (.kill [3, 16, 17, 18] [] (.region [
         (.p 20 (.indexAddr none 1) [.t 16, .t 18], none),
         (.load 21 none (some 9999) (.t 20), none),
         (.mv 5 21, none)]))
      (.kill [3, 5, 16, 17, 18] [] (.region [
         (.p 22 .id [.t 3], none),
         (.mv 23 5, none),
         (.call 24 16 [.t 23] [] [] [], none),
         (.p 25 (.bin .add) [.t 22, .t 24], none),
         (.p 3 .id [.t 25], none)]))))
    (.kill [3, 16, 17, 18] [] (.region [
       (.p 26 (.bin .add) [.t 18, .c (.pv (.int .i64 1))], none),
       (.p 18 .id [.t 26], none)])))))
def irWireSize : IR := (.seq (.region [
    (.box 1 (.t 0), none),
    (.p 2 .id [.c (.pv (.int .i64 0))], none)])
 (.seq (.kill [1] [1] (.region [
     (.p 6 (.fieldAddr 37) [.t 1], none),
     (.load 7 none (some 1) (.t 6), none),
     (.call 8 16 [.t 7] [] [] [], none),
     (.p 9 (.bin .add) [.c (.pv (.int .i64 40)), .t 8], none),
     (.p 10 (.fieldAddr 38) [.t 1], none),
     (.load 11 none (some 1) (.t 10), none),
     (.p 12 (.len none) [.t 11], none),
     (.call 13 17 [.t 12] [] [] [], none),
     (.p 14 (.bin .add) [.t 9, .t 13], none),
     (.p 3 .id [.t 14], none)]))
  (.seq (.seq (.kill [1, 3] [1] (.region [
       (.p 15 (.fieldAddr 38) [.t 1], none),
       (.load 16 none (some 1) (.t 15), none),
       (.p 17 (.len none) [.t 16], none),
       (.p 18 .id [.c (.pv (.int .i64 0))], none)]))
    (.block 0 (.loop (.kill [3, 16, 17, 18] [] irWireSize_L1))))
   (.seq (.kill [3] [] (.region [
       (.p 27 .id [.t 3], none),
       (.p 2 .id [.t 27], none)]))
    .ret))))
theorem okWireSize : okFn Try.prog Try.f8 irWireSize [.t 2] [] 1 = true := by kernel_rfl

-- wire.within
-- wire.within: args [3, 3]; lent []; rs [.t 4]; loops: 
def irWireWithin : IR := (.seq (.region [
    (.p 4 .id [.c (.pv (.bool false))], none)])
 (.seq (.kill [0, 1] [] (.region [
     (.p 5 .id [.t 0], none),
     (.p 6 (.bin .geq) [.t 5, .c (.pv (.int .i64 0))], none),
     (.p 7 .id [.t 6], none),
     (.p 8 .id [.t 0], some (7, true)),
     (.p 9 .id [.t 1], some (7, true)),
     (.p 10 (.bin .leq) [.t 8, .t 9], some (7, true)),
     (.p 11 .pick [.t 7, .t 10, .c (.pv (.bool false))], none),
     (.p 4 .id [.t 11], none)]))
  .ret))
theorem okWireWithin : okFn Try.prog Try.f33 irWireWithin [.t 4] [] 2 = true := by kernel_rfl

-- wire.formed
-- wire.formed: args [27]; lent []; rs [.t 2]; loops: 
def irWireFormed : IR := (.seq (.region [
    (.box 1 (.t 0), none),
    (.p 2 .id [.c (.pv (.bool false))], none)])
 (.seq (.kill [1] [1] (.region [
     (.p 3 (.fieldAddr 0) [.t 1], none),
     (.load 4 none (some 1) (.t 3), none),
     (.p 5 (.bin .geq) [.t 4, .c (.pv (.int .i64 1))], none),
     (.p 6 .id [.t 5], none),
     (.p 7 (.fieldAddr 0) [.t 1], some (6, true)),
     (.load 8 none (some 1) (.t 7), some (6, true)),
     (.p 9 (.bin .leq) [.t 8, .c (.pv (.int .i64 12))], some (6, true)),
     (.p 10 .pick [.t 6, .t 9, .c (.pv (.bool false))], none),
     (.p 11 .id [.t 10], none),
     (.p 12 (.fieldAddr 1) [.t 1], some (11, true)),
     (.load 13 none (some 1) (.t 12), some (11, true)),
     (.call 14 33 [.t 13, .c (.pv (.int .i64 15))] [] [] [], some (11, true)),
     (.p 15 .pick [.t 11, .t 14, .c (.pv (.bool false))], none),
     (.p 16 .id [.t 15], none),
     (.p 17 (.fieldAddr 2) [.t 1], some (16, true)),
     (.load 18 none (some 1) (.t 17), some (16, true)),
     (.call 19 33 [.t 18, .c (.pv (.int .i64 60))] [] [] [], some (16, true)),
     (.p 20 .pick [.t 16, .t 19, .c (.pv (.bool false))], none),
     (.p 21 .id [.t 20], none),
     (.p 22 (.fieldAddr 3) [.t 1], some (21, true)),
     (.load 23 none (some 1) (.t 22), some (21, true)),
     (.call 24 33 [.t 23, .c (.pv (.int .i64 40))] [] [] [], some (21, true)),
     (.p 25 .pick [.t 21, .t 24, .c (.pv (.bool false))], none),
     (.p 26 .id [.t 25], none),
     (.p 27 (.fieldAddr 4) [.t 1], some (26, true)),
     (.load 28 none (some 1) (.t 27), some (26, true)),
     (.call 29 33 [.t 28, .c (.pv (.int .i64 60))] [] [] [], some (26, true)),
     (.p 30 .pick [.t 26, .t 29, .c (.pv (.bool false))], none),
     (.p 2 .id [.t 30], none)]))
  .ret))
theorem okWireFormed : okFn Try.prog Try.f22 irWireFormed [.t 2] [] 1 = true := by kernel_rfl

-- wire.widths
-- wire.widths: args []; lent []; rs [.cell 0 (some (5, true))]; loops: 
def irWireWidths : IR := (.seq (.region [
    (.alloc 0 (.pagg (List.replicate 5 (.int .i64 0))), none)])
 (.seq (.kill [0] [0] (.region [
     (.build 1 (.pagg (List.replicate 5 (.int .i64 0))) [(0, 1, .c (.pv (.int .i64 1))), (1, 1, .c (.pv (.int .i64 1))), (2, 1, .c (.pv (.int .i64 2))), (3, 1, .c (.pv (.int .i64 2))), (4, 1, .c (.pv (.int .i64 2)))], none),
     (.store (some (5, true)) (some 0) (.t 0) (.t 1), none)]))
  .ret))
theorem okWireWidths : okFn Try.prog Try.f23 irWireWidths [.cell 0 (some (5, true))] [] 0 = true := by kernel_rfl

-- wire.Put
-- wire.Put: args [27]; lent []; rs [.t 2, .t 3]; loops: L1 keeps [1, 4, 5, 35, 36] [1, 5]; L2 keeps [4, 62, 63, 64] []
def irWirePut_L1 : IR := (.seq (.kill [1, 4, 5, 35, 36] [1, 5] (.region [
     (.p 37 (.bin .lss) [.t 36, .c (.pv (.int .i64 5))], none)]))
  (.seq (.cond (.t 37)
    .skip
    (.exit 1))
   (.seq (.block 2 (.seq (.kill [1, 4, 5, 35, 36] [1, 5] (.region [
         (.p 38 .id [.t 36], none),
         (.p 39 (.index 5 1 none) [.t 35, .t 36], none),
         (.p 6 .id [.t 38], none),
         (.p 7 .id [.t 39], none)]))
      (.kill [1, 4, 5, 6, 7, 35, 36] [1, 5] (.region [
         (.mv 40 4, none),
         (.p 41 .id [.t 7], none),
         (.p 42 (.conv .u64) [.t 41], none),
         (.p 43 .id [.t 6], none),
         (.p 44 (.indexAddr (some 5) 1) [.t 5, .t 43], none),
         (.load 45 none (some 5) (.t 44), none),
         (.call 46 24 [.t 40, .t 42, .t 45] [] [] [], none),
         (.mv 4 46, none)]))))
    (.kill [1, 4, 5, 35, 36] [1, 5] (.region [
       (.p 47 (.bin .add) [.t 36, .c (.pv (.int .i64 1))], none),
       (.p 36 .id [.t 47], none)])))))
def irWirePut_L2 : IR := (.seq (.kill [4, 62, 63, 64] [] (.region [
     (.p 65 (.bin .lss) [.t 64, .t 63], none)]))
  (.seq (.cond (.t 65)
    .skip
    (.exit 3))
   (.seq (.block 4 (.seq (.kill [4, 62, 63, 64] [] (.region [
         (.p 66 (.indexAddr none 1) [.t 62, .t 64], none),
         (.load 67 none (some 9999) (.t 66), none),
         (.mv 9 67, none)]))
      (.kill [4, 9, 62, 63, 64] [] (.region [
         (.mv 68 4, none),
         (.mv 69 9, none),
         (.call 70 25 [.t 68, .t 69] [] [] [], none),
         (.mv 4 70, none)]))))
    (.kill [4, 62, 63, 64] [] (.region [
       (.p 71 (.bin .add) [.t 64, .c (.pv (.int .i64 1))], none),
       (.p 64 .id [.t 71], none)])))))
def irWirePut : IR := (.seq (.region [
    (.box 1 (.t 0), none),
    (.p 2 .id [.c (.os 5 1 [])], none),
    (.p 3 .id [.c (.pv (.int .i64 0))], none)])
 (.seq (.block 0 (.seq (.kill [1] [1] (.region [
       (.p 11 (.fieldAddr 38) [.t 1], none),
       (.load 12 none (some 1) (.t 11), none),
       (.p 13 (.len none) [.t 12], none),
       (.p 14 (.bin .gtr) [.t 13, .c (.pv (.int .i64 16))], none),
       (.p 15 .id [.t 14], none),
       (.load 16 (some (39, true)) (some 1) (.t 1), some (15, false)),
       (.call 17 8 [.t 16] [] [] [], some (15, false)),
       (.p 18 (.bin .gtr) [.t 17, .c (.pv (.int .i64 65504))], some (15, false)),
       (.p 19 .pick [.t 15, .c (.pv (.bool true)), .t 18], none),
       (.p 10 .id [.t 19], none)]))
    (.cond (.t 10)
     (.seq (.kill [] [] (.region [
         (.p 2 .id [.c (.os 5 1 [])], none),
         (.p 3 .id [.c (.pv (.int .i64 4))], none)]))
      .ret)
     (.seq (.kill [1] [1] (.region [
         (.load 21 (some (39, true)) (some 1) (.t 1), none),
         (.call 22 22 [.t 21] [] [] [], none),
         (.p 23 (.un .not) [.t 22], none),
         (.p 20 .id [.t 23], none)]))
      (.cond (.t 20)
       (.seq (.kill [] [] (.region [
           (.p 2 .id [.c (.os 5 1 [])], none),
           (.p 3 .id [.c (.pv (.int .i64 15))], none)]))
        .ret)
       .skip)))))
  (.seq (.kill [1] [1] (.region [
      (.p 4 .id [.c (.os 5 1 [])], none)]))
   (.seq (.kill [1, 4] [1] (.region [
       (.call 24 23 [] [] [] [], none),
       (.alloc 5 (.pagg (List.replicate 5 (.int .i64 0))), none),
       (.store (some (5, true)) (some 5) (.t 5) (.t 24), none)]))
    (.seq (.seq (.kill [1, 4, 5] [1, 5] (.region [
         (.p 25 (.fieldAddr 0) [.t 1], none),
         (.load 26 none (some 1) (.t 25), none),
         (.p 27 (.fieldAddr 1) [.t 1], none),
         (.load 28 none (some 1) (.t 27), none),
         (.p 29 (.fieldAddr 2) [.t 1], none),
         (.load 30 none (some 1) (.t 29), none),
         (.p 31 (.fieldAddr 3) [.t 1], none),
         (.load 32 none (some 1) (.t 31), none),
         (.p 33 (.fieldAddr 4) [.t 1], none),
         (.load 34 none (some 1) (.t 33), none),
         (.build 35 (.pagg (List.replicate 5 (.int .i64 0))) [(0, 1, .t 26), (1, 1, .t 28), (2, 1, .t 30), (3, 1, .t 32), (4, 1, .t 34)], none),
         (.p 36 .id [.c (.pv (.int .i64 0))], none)]))
      (.block 1 (.loop (.kill [1, 4, 5, 35, 36] [1, 5] irWirePut_L1))))
     (.seq (.kill [1, 4] [1] (.region [
         (.mv 48 4, none),
         (.p 49 (.fieldAddr 5) [.t 1], none),
         (.p 50 (.slice (some 32) 1 false false) [.t 49], none),
         (.app 51 5 1 48 (some 1) (.t 50), none),
         (.p 52 (.fieldAddr 37) [.t 1], none),
         (.load 53 none (some 1) (.t 52), none),
         (.call 54 25 [.t 51, .t 53] [] [] [], none),
         (.mv 4 54, none)]))
      (.seq (.kill [1, 4] [1] (.region [
          (.mv 55 4, none),
          (.p 56 (.fieldAddr 38) [.t 1], none),
          (.load 57 none (some 1) (.t 56), none),
          (.p 58 (.len none) [.t 57], none),
          (.p 59 (.conv .u64) [.t 58], none),
          (.call 60 26 [.t 55, .t 59] [] [] [], none),
          (.mv 4 60, none)]))
       (.seq (.seq (.kill [1, 4] [1] (.region [
            (.p 61 (.fieldAddr 38) [.t 1], none),
            (.load 62 none (some 1) (.t 61), none),
            (.p 63 (.len none) [.t 62], none),
            (.p 64 .id [.c (.pv (.int .i64 0))], none)]))
         (.block 3 (.loop (.kill [4, 62, 63, 64] [] irWirePut_L2))))
        (.seq (.kill [4] [] (.region [
            (.mv 72 4, none),
            (.mv 2 72, none),
            (.p 3 .id [.c (.pv (.int .i64 0))], none)]))
         .ret)))))))))
theorem okWirePut : okFn Try.prog Try.f11 irWirePut [.t 2, .t 3] [] 1 = true := by kernel_rfl

-- consistoryref08.Long
-- consistoryref08.Long: args [27]; lent []; rs [.t 2]; loops: L1 keeps [1, 3] [1]
def irRef08Long_L1 : IR := (.seq (.seq (.kill [1, 3] [1] (.region [
      (.p 14 .id [.t 3], none),
      (.p 15 (.fieldAddr 38) [.t 1], none),
      (.load 16 none (some 1) (.t 15), none),
      (.p 17 (.len none) [.t 16], none),
      (.p 18 (.bin .lss) [.t 14, .t 17], none)]))
   (.cond (.t 18)
    .skip
    (.exit 0)))
  (.seq (.block 1 (.seq (.kill [1, 3] [1] (.region [
        (.p 21 (.fieldAddr 38) [.t 1], none),
        (.load 22 none (some 1) (.t 21), none),
        (.p 23 .id [.t 3], none),
        (.p 24 (.indexAddr none 1) [.t 22, .t 23], none),
        (.load 25 none (some 9999) (.t 24), none),
        (.p 26 (.len none) [.t 25], none),
        (.p 27 (.bin .gtr) [.t 26, .c (.pv (.int .i64 3000))], none)]))
     (.cond (.t 27)
      (.seq (.kill [] [] (.region [
          (.p 2 .id [.c (.pv (.bool true))], none)]))
       .ret)
      .skip)))
   (.kill [1, 3] [1] (.region [
      (.p 19 .id [.t 3], none),
      (.p 20 (.bin .add) [.t 19, .c (.pv (.int .i64 1))], none),
      (.p 3 .id [.t 20], none)]))))
def irRef08Long : IR := (.seq (.region [
    (.box 1 (.t 0), none),
    (.p 2 .id [.c (.pv (.bool false))], none)])
 (.seq (.seq (.kill [1] [1] (.region [
      (.p 4 (.fieldAddr 37) [.t 1], none),
      (.load 5 none (some 1) (.t 4), none),
      (.p 6 (.len none) [.t 5], none),
      (.p 7 (.bin .gtr) [.t 6, .c (.pv (.int .i64 3000))], none),
      (.p 8 .id [.t 7], none),
      (.p 9 (.fieldAddr 38) [.t 1], some (8, false)),
      (.load 10 none (some 1) (.t 9), some (8, false)),
      (.p 11 (.len none) [.t 10], some (8, false)),
      (.p 12 (.bin .gtr) [.t 11, .c (.pv (.int .i64 20))], some (8, false)),
      (.p 13 .pick [.t 8, .c (.pv (.bool true)), .t 12], none)]))
   (.cond (.t 13)
    (.seq (.kill [] [] (.region [
        (.p 2 .id [.c (.pv (.bool true))], none)]))
     .ret)
    .skip))
  (.seq (.seq (.kill [1] [1] (.region [
       (.p 3 .id [.c (.pv (.int .i64 0))], none)]))
    (.block 0 (.loop (.kill [1, 3] [1] irRef08Long_L1))))
   (.seq (.kill [] [] (.region [
       (.p 2 .id [.c (.pv (.bool false))], none)]))
    .ret))))
theorem okRef08Long : okFn Try.prog Try.f7 irRef08Long [.t 2] [] 1 = true := by kernel_rfl

-- consistoryref08.Bytes
-- consistoryref08.Bytes: args [27]; lent []; rs [.t 2]; loops: L1 keeps [1, 3, 4] [1]
def irRef08Bytes_L1 : IR := (.seq (.seq (.kill [1, 3, 4] [1] (.region [
      (.p 52 .id [.t 4], none),
      (.p 53 (.fieldAddr 38) [.t 1], none),
      (.load 54 none (some 1) (.t 53), none),
      (.p 55 (.len none) [.t 54], none),
      (.p 56 (.bin .lss) [.t 52, .t 55], none)]))
   (.cond (.t 56)
    .skip
    (.exit 0)))
  (.seq (.block 1 (.kill [1, 3, 4] [1] (.region [
       (.mv 59 3, none),
       (.p 60 (.fieldAddr 38) [.t 1], none),
       (.load 61 none (some 1) (.t 60), none),
       (.p 62 .id [.t 4], none),
       (.p 63 (.indexAddr none 1) [.t 61, .t 62], none),
       (.load 64 none (some 9999) (.t 63), none),
       (.call 65 20 [.t 64] [] [] [], none),
       (.app 66 5 1 59 none (.t 65), none),
       (.mv 3 66, none)])))
   (.kill [1, 3, 4] [1] (.region [
      (.p 57 .id [.t 4], none),
      (.p 58 (.bin .add) [.t 57, .c (.pv (.int .i64 1))], none),
      (.p 4 .id [.t 58], none)]))))
def irRef08Bytes : IR := (.seq (.region [
    (.box 1 (.t 0), none),
    (.p 2 .id [.c (.os 5 1 [])], none)])
 (.seq (.kill [1] [1] (.region [
     (.p 3 .id [.c (.os 5 1 [])], none)]))
  (.seq (.kill [1, 3] [1] (.region [
      (.mv 5 3, none),
      (.p 6 (.fieldAddr 0) [.t 1], none),
      (.load 7 none (some 1) (.t 6), none),
      (.p 8 (.conv .u64) [.t 7], none),
      (.call 9 18 [.t 8, .c (.pv (.int .i64 1))] [] [] [], none),
      (.app 10 5 1 5 none (.t 9), none),
      (.mv 3 10, none)]))
   (.seq (.kill [1, 3] [1] (.region [
       (.mv 11 3, none),
       (.p 12 (.fieldAddr 1) [.t 1], none),
       (.load 13 none (some 1) (.t 12), none),
       (.p 14 (.conv .u64) [.t 13], none),
       (.call 15 18 [.t 14, .c (.pv (.int .i64 1))] [] [] [], none),
       (.app 16 5 1 11 none (.t 15), none),
       (.mv 3 16, none)]))
    (.seq (.kill [1, 3] [1] (.region [
        (.mv 17 3, none),
        (.p 18 (.fieldAddr 2) [.t 1], none),
        (.load 19 none (some 1) (.t 18), none),
        (.p 20 (.conv .u64) [.t 19], none),
        (.call 21 18 [.t 20, .c (.pv (.int .i64 2))] [] [] [], none),
        (.app 22 5 1 17 none (.t 21), none),
        (.mv 3 22, none)]))
     (.seq (.kill [1, 3] [1] (.region [
         (.mv 23 3, none),
         (.p 24 (.fieldAddr 3) [.t 1], none),
         (.load 25 none (some 1) (.t 24), none),
         (.p 26 (.conv .u64) [.t 25], none),
         (.call 27 18 [.t 26, .c (.pv (.int .i64 2))] [] [] [], none),
         (.app 28 5 1 23 none (.t 27), none),
         (.mv 3 28, none)]))
      (.seq (.kill [1, 3] [1] (.region [
          (.mv 29 3, none),
          (.p 30 (.fieldAddr 4) [.t 1], none),
          (.load 31 none (some 1) (.t 30), none),
          (.p 32 (.conv .u64) [.t 31], none),
          (.call 33 18 [.t 32, .c (.pv (.int .i64 2))] [] [] [], none),
          (.app 34 5 1 29 none (.t 33), none),
          (.mv 3 34, none)]))
       (.seq (.kill [1, 3] [1] (.region [
           (.mv 35 3, none),
           (.p 36 (.fieldAddr 5) [.t 1], none),
           (.load 37 (some (32, false)) (some 1) (.t 36), none),
           (.call 38 19 [.t 37] [] [] [], none),
           (.app 39 5 1 35 none (.t 38), none),
           (.mv 3 39, none)]))
        (.seq (.kill [1, 3] [1] (.region [
            (.mv 40 3, none),
            (.p 41 (.fieldAddr 37) [.t 1], none),
            (.load 42 none (some 1) (.t 41), none),
            (.call 43 20 [.t 42] [] [] [], none),
            (.app 44 5 1 40 none (.t 43), none),
            (.mv 3 44, none)]))
         (.seq (.kill [1, 3] [1] (.region [
             (.mv 45 3, none),
             (.p 46 (.fieldAddr 38) [.t 1], none),
             (.load 47 none (some 1) (.t 46), none),
             (.p 48 (.len none) [.t 47], none),
             (.p 49 (.conv .u64) [.t 48], none),
             (.call 50 21 [.t 49] [] [] [], none),
             (.app 51 5 1 45 none (.t 50), none),
             (.mv 3 51, none)]))
          (.seq (.seq (.kill [1, 3] [1] (.region [
               (.p 4 .id [.c (.pv (.int .i64 0))], none)]))
            (.block 0 (.loop (.kill [1, 3, 4] [1] irRef08Bytes_L1))))
           (.seq (.kill [3] [] (.region [
               (.mv 67 3, none),
               (.mv 2 67, none)]))
            .ret))))))))))))
theorem okRef08Bytes : okFn Try.prog Try.f9 irRef08Bytes [.t 2] [] 1 = true := by kernel_rfl

-- consistorylaw08.wakes
-- consistorylaw08.wakes: args []; lent []; rs [.t 0]; loops: 
def irLaw08Wakes : IR := (.seq (.region [
    (.p 0 .id [.c (.pv (.bool false))], none)])
 (.seq (.kill [] [] (.region [
     (.build 4 (.pagg [.int .i64 0, .int .i64 0, .int .i64 0, .int .i64 0, .int .i64 0, .int .u8 0, .int .u8 0, .int .u8 0, .int .u8 0, .int .u8 0, .int .u8 0, .int .u8 0, .int .u8 0, .int .u8 0, .int .u8 0, .int .u8 0, .int .u8 0, .int .u8 0, .int .u8 0, .int .u8 0, .int .u8 0, .int .u8 0, .int .u8 0, .int .u8 0, .int .u8 0, .int .u8 0, .int .u8 0, .int .u8 0, .int .u8 0, .int .u8 0, .int .u8 0, .int .u8 0, .int .u8 0, .int .u8 0, .int .u8 0, .int .u8 0, .int .u8 0, .sl 1 [], .sl 1 []]) [(0, 1, .c (.pv (.int .i64 2))), (1, 1, .c (.pv (.int .i64 3)))], none),
     (.call 5 11 [.t 4] [] [] [], none),
     (.p 3 .id [.t 5], none),
     (.p 6 (.ext 0) [.t 3], none),
     (.p 7 (.ext 1) [.t 3], none),
     (.mv 1 6, none),
     (.p 2 .id [.t 7], none)]))
  (.seq (.kill [1, 2] [] (.region [
      (.p 8 .id [.t 2], none),
      (.p 9 (.bin .eql) [.t 8, .c (.pv (.int .i64 0))], none),
      (.p 10 .id [.t 9], none),
      (.p 11 .id [.t 1], some (10, true)),
      (.p 12 (.len none) [.t 11], some (10, true)),
      (.p 13 (.bin .eql) [.t 12, .c (.pv (.int .i64 42))], some (10, true)),
      (.p 14 .pick [.t 10, .t 13, .c (.pv (.bool false))], none),
      (.p 15 .id [.t 14], none),
      (.p 16 .id [.t 1], some (15, true)),
      (.p 17 (.indexAddr none 1) [.t 16, .c (.pv (.int .i64 0))], some (15, true)),
      (.load 18 none (some 9999) (.t 17), some (15, true)),
      (.p 19 (.bin .eql) [.t 18, .c (.pv (.int .u8 2))], some (15, true)),
      (.p 20 .pick [.t 15, .t 19, .c (.pv (.bool false))], none),
      (.p 21 .id [.t 20], none),
      (.p 22 .id [.t 1], some (21, true)),
      (.p 23 (.indexAddr none 1) [.t 22, .c (.pv (.int .i64 1))], some (21, true)),
      (.load 24 none (some 9999) (.t 23), some (21, true)),
      (.p 25 (.bin .eql) [.t 24, .c (.pv (.int .u8 3))], some (21, true)),
      (.p 26 .pick [.t 21, .t 25, .c (.pv (.bool false))], none),
      (.p 27 .id [.t 26], none),
      (.p 28 .id [.t 1], some (27, true)),
      (.p 29 (.indexAddr none 1) [.t 28, .c (.pv (.int .i64 41))], some (27, true)),
      (.load 30 none (some 9999) (.t 29), some (27, true)),
      (.p 31 (.bin .eql) [.t 30, .c (.pv (.int .u8 0))], some (27, true)),
      (.p 32 .pick [.t 27, .t 31, .c (.pv (.bool false))], none),
      (.p 0 .id [.t 32], none)]))
   .ret)))
theorem okLaw08Wakes : okFn Try.prog Try.f6 irLaw08Wakes [.t 0] [] 0 = true := by kernel_rfl

-- consistorylaw08.WireSize
-- consistorylaw08.WireSize: args [27]; lent []; rs [.t 2]; loops: 
def irLaw08WireSize : IR := (.seq (.region [
    (.box 1 (.t 0), none),
    (.p 2 .id [.c (.pv (.bool false))], none)])
 (.seq (.seq (.kill [1] [1] (.region [
      (.call 3 6 [] [] [] [], none),
      (.p 4 (.un .not) [.t 3], none)]))
   (.cond (.t 4)
    (.seq (.kill [] [] (.region [
        (.p 2 .id [.c (.pv (.bool false))], none)]))
     .ret)
    .skip))
  (.seq (.kill [1] [1] (.region [
      (.load 5 (some (39, true)) (some 1) (.t 1), none),
      (.call 6 7 [.t 5] [] [] [], none),
      (.p 7 .id [.t 6], none),
      (.load 8 (some (39, true)) (some 1) (.t 1), some (7, false)),
      (.call 9 8 [.t 8] [] [] [], some (7, false)),
      (.load 10 (some (39, true)) (some 1) (.t 1), some (7, false)),
      (.call 11 9 [.t 10] [] [] [], some (7, false)),
      (.p 12 (.len none) [.t 11], some (7, false)),
      (.p 13 (.bin .eql) [.t 9, .t 12], some (7, false)),
      (.p 14 .pick [.t 7, .c (.pv (.bool true)), .t 13], none),
      (.p 2 .id [.t 14], none)]))
   .ret)))
theorem okLaw08WireSize : okFn Try.prog Try.f3 irLaw08WireSize [.t 2] [] 1 = true := by kernel_rfl

end Go.Proofs.Ytekpgcohlpkmnaa
