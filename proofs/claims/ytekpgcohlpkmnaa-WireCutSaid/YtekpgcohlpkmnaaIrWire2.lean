/- The abstract code of functions, printed by gen_ir.py out of the program's form in Lean; each is checked against it. -/
import Derived.Test.YtekpgcohlpkmnaaProg
import Derived.Test.YtekpgcohlpkmnaaIrWire
set_option linter.unusedVariables false
set_option linter.unusedSimpArgs false
set_option maxRecDepth 100000
namespace Go.Proofs.Ytekpgcohlpkmnaa
open Go.Abs
-- consistoryref08.Copied
-- consistoryref08.Copied: args [27]; lent []; rs [.cell 2 (some (39, true))]; loops: L1 keeps [1, 2, 3, 4, 5] [1, 2]
def irRef08Copied_L1 : IR := (.seq (.seq (.kill [1, 2, 3, 4, 5] [1, 2] (.region [
      (.p 11 .id [.t 5], none),
      (.p 12 (.fieldAddr 38) [.t 1], none),
      (.load 13 none (some 1) (.t 12), none),
      (.p 14 (.len none) [.t 13], none),
      (.p 15 (.bin .lss) [.t 11, .t 14], none)]))
   (.cond (.t 15)
    .skip
    (.exit 0)))
  (.seq (.block 1 (.seq (.kill [1, 2, 3, 4, 5] [1, 2] (.region [
        (.p 6 .id [.c (.os 5 1 [])], none)]))
     (.seq (.kill [1, 2, 3, 4, 5, 6] [1, 2] (.region [
         (.mv 18 6, none),
         (.p 19 (.fieldAddr 38) [.t 1], none),
         (.load 20 none (some 1) (.t 19), none),
         (.p 21 .id [.t 5], none),
         (.p 22 (.indexAddr none 1) [.t 20, .t 21], none),
         (.load 23 none (some 9999) (.t 22), none),
         (.app 24 5 1 18 none (.t 23), none),
         (.mv 6 24, none)]))
      (.kill [1, 2, 3, 4, 5, 6] [1, 2] (.region [
         (.mv 25 4, none),
         (.mv 26 6, none),
         (.bslice 27 24 1 1 [.sl 1 []] [(0, .t 26)], none),
         (.app 28 24 1 25 none (.t 27), none),
         (.mv 4 28, none)])))))
   (.kill [1, 2, 3, 4, 5] [1, 2] (.region [
      (.p 16 .id [.t 5], none),
      (.p 17 (.bin .add) [.t 16, .c (.pv (.int .i64 1))], none),
      (.p 5 .id [.t 17], none)]))))
def irRef08Copied : IR := (.seq (.region [
    (.box 1 (.t 0), none),
    (.alloc 2 (.pagg [.int .i64 0, .int .i64 0, .int .i64 0, .int .i64 0, .int .i64 0, .int .u8 0, .int .u8 0, .int .u8 0, .int .u8 0, .int .u8 0, .int .u8 0, .int .u8 0, .int .u8 0, .int .u8 0, .int .u8 0, .int .u8 0, .int .u8 0, .int .u8 0, .int .u8 0, .int .u8 0, .int .u8 0, .int .u8 0, .int .u8 0, .int .u8 0, .int .u8 0, .int .u8 0, .int .u8 0, .int .u8 0, .int .u8 0, .int .u8 0, .int .u8 0, .int .u8 0, .int .u8 0, .int .u8 0, .int .u8 0, .int .u8 0, .int .u8 0, .sl 1 [], .sl 1 []]), none)])
 (.seq (.kill [1, 2] [1, 2] (.region [
     (.p 3 .id [.c (.os 5 1 [])], none)]))
  (.seq (.kill [1, 2, 3] [1, 2] (.region [
      (.mv 7 3, none),
      (.p 8 (.fieldAddr 37) [.t 1], none),
      (.load 9 none (some 1) (.t 8), none),
      (.app 10 5 1 7 none (.t 9), none),
      (.mv 3 10, none)]))
   (.seq (.kill [1, 2, 3] [1, 2] (.region [
       (.p 4 .id [.c (.os 24 1 [])], none)]))
    (.seq (.seq (.kill [1, 2, 3, 4] [1, 2] (.region [
         (.p 5 .id [.c (.pv (.int .i64 0))], none)]))
      (.block 0 (.loop (.kill [1, 2, 3, 4, 5] [1, 2] irRef08Copied_L1))))
     (.seq (.kill [1, 2, 3, 4] [1, 2] (.region [
         (.mv 29 3, none),
         (.p 30 (.fieldAddr 37) [.t 1], none),
         (.store none (some 1) (.t 30) (.t 29), none)]))
      (.seq (.kill [1, 2, 4] [1, 2] (.region [
          (.mv 31 4, none),
          (.p 32 (.fieldAddr 38) [.t 1], none),
          (.store none (some 1) (.t 32) (.t 31), none)]))
       (.seq (.kill [1, 2] [1, 2] (.region [
           (.load 33 (some (39, true)) (some 1) (.t 1), none),
           (.store (some (39, true)) (some 2) (.t 2) (.t 33), none)]))
        .ret))))))))
theorem okRef08Copied : okFn Try.prog Try.f10 irRef08Copied [.cell 2 (some (39, true))] [] 1 = true := by kernel_rfl

-- consistoryref08.Numbers
-- consistoryref08.Numbers: args [27]; lent []; rs [.t 2]; loops: 
def irRef08Numbers : IR := (.seq (.region [
    (.box 1 (.t 0), none),
    (.p 2 .id [.c (.pv (.bool false))], none)])
 (.seq (.kill [1] [1] (.region [
     (.p 3 (.fieldAddr 0) [.t 1], none),
     (.load 4 none (some 1) (.t 3), none),
     (.p 5 (.bin .geq) [.t 4, .c (.pv (.int .i64 1))], none),
     (.p 6 .id [.t 5], none),
     (.p 7 (.fieldAddr 0) [.t 1], some (6, true)),
     (.load 8 none (some 1) (.t 7), some (6, true)),
     (.p 9 (.bin .leq) [.t 8, .c (.pv (.int .i64 12))], some (6, true)),
     (.p 10 .pick [.t 6, .t 9, .c (.pv (.bool false))], none),
     (.p 11 .id [.t 10], none),
     (.p 12 (.fieldAddr 1) [.t 1], some (11, true)),
     (.load 13 none (some 1) (.t 12), some (11, true)),
     (.p 14 (.bin .geq) [.t 13, .c (.pv (.int .i64 0))], some (11, true)),
     (.p 15 .pick [.t 11, .t 14, .c (.pv (.bool false))], none),
     (.p 16 .id [.t 15], none),
     (.p 17 (.fieldAddr 1) [.t 1], some (16, true)),
     (.load 18 none (some 1) (.t 17), some (16, true)),
     (.p 19 (.bin .leq) [.t 18, .c (.pv (.int .i64 15))], some (16, true)),
     (.p 20 .pick [.t 16, .t 19, .c (.pv (.bool false))], none),
     (.p 21 .id [.t 20], none),
     (.p 22 (.fieldAddr 2) [.t 1], some (21, true)),
     (.load 23 none (some 1) (.t 22), some (21, true)),
     (.p 24 (.bin .geq) [.t 23, .c (.pv (.int .i64 0))], some (21, true)),
     (.p 25 .pick [.t 21, .t 24, .c (.pv (.bool false))], none),
     (.p 26 .id [.t 25], none),
     (.p 27 (.fieldAddr 2) [.t 1], some (26, true)),
     (.load 28 none (some 1) (.t 27), some (26, true)),
     (.p 29 (.bin .leq) [.t 28, .c (.pv (.int .i64 60))], some (26, true)),
     (.p 30 .pick [.t 26, .t 29, .c (.pv (.bool false))], none),
     (.p 31 .id [.t 30], none),
     (.p 32 (.fieldAddr 3) [.t 1], some (31, true)),
     (.load 33 none (some 1) (.t 32), some (31, true)),
     (.p 34 (.bin .geq) [.t 33, .c (.pv (.int .i64 0))], some (31, true)),
     (.p 35 .pick [.t 31, .t 34, .c (.pv (.bool false))], none),
     (.p 36 .id [.t 35], none),
     (.p 37 (.fieldAddr 3) [.t 1], some (36, true)),
     (.load 38 none (some 1) (.t 37), some (36, true)),
     (.p 39 (.bin .leq) [.t 38, .c (.pv (.int .i64 40))], some (36, true)),
     (.p 40 .pick [.t 36, .t 39, .c (.pv (.bool false))], none),
     (.p 41 .id [.t 40], none),
     (.p 42 (.fieldAddr 4) [.t 1], some (41, true)),
     (.load 43 none (some 1) (.t 42), some (41, true)),
     (.p 44 (.bin .geq) [.t 43, .c (.pv (.int .i64 0))], some (41, true)),
     (.p 45 .pick [.t 41, .t 44, .c (.pv (.bool false))], none),
     (.p 46 .id [.t 45], none),
     (.p 47 (.fieldAddr 4) [.t 1], some (46, true)),
     (.load 48 none (some 1) (.t 47), some (46, true)),
     (.p 49 (.bin .leq) [.t 48, .c (.pv (.int .i64 60))], some (46, true)),
     (.p 50 .pick [.t 46, .t 49, .c (.pv (.bool false))], none),
     (.p 2 .id [.t 50], none)]))
  .ret))
theorem okRef08Numbers : okFn Try.prog Try.f27 irRef08Numbers [.t 2] [] 1 = true := by kernel_rfl

-- consistoryref08.Put
-- consistoryref08.Put: args [27]; lent []; rs [.t 2, .t 3]; loops: 
def irRef08Put : IR := (.seq (.region [
    (.box 1 (.t 0), none),
    (.p 2 .id [.c (.os 5 1 [])], none),
    (.p 3 .id [.c (.pv (.int .i64 0))], none)])
 (.seq (.kill [1] [1] (.region [
     (.load 5 (some (39, true)) (some 1) (.t 1), none),
     (.call 6 9 [.t 5] [] [] [], none),
     (.mv 4 6, none)]))
  (.seq (.seq (.kill [1, 4] [1] (.region [
       (.p 7 (.fieldAddr 38) [.t 1], none),
       (.load 8 none (some 1) (.t 7), none),
       (.p 9 (.len none) [.t 8], none),
       (.p 10 (.bin .gtr) [.t 9, .c (.pv (.int .i64 16))], none),
       (.p 11 .id [.t 10], none),
       (.p 12 .id [.t 4], some (11, false)),
       (.p 13 (.len none) [.t 12], some (11, false)),
       (.p 14 (.bin .gtr) [.t 13, .c (.pv (.int .i64 65504))], some (11, false)),
       (.p 15 .pick [.t 11, .c (.pv (.bool true)), .t 14], none)]))
    (.cond (.t 15)
     (.seq (.kill [] [] (.region [
         (.p 2 .id [.c (.os 5 1 [])], none),
         (.p 3 .id [.c (.pv (.int .i64 4))], none)]))
      .ret)
     .skip))
   (.seq (.seq (.kill [1, 4] [1] (.region [
        (.load 16 (some (39, true)) (some 1) (.t 1), none),
        (.call 17 27 [.t 16] [] [] [], none),
        (.p 18 (.un .not) [.t 17], none)]))
     (.cond (.t 18)
      (.seq (.kill [] [] (.region [
          (.p 2 .id [.c (.os 5 1 [])], none),
          (.p 3 .id [.c (.pv (.int .i64 15))], none)]))
       .ret)
      .skip))
    (.seq (.kill [4] [] (.region [
        (.mv 19 4, none),
        (.mv 2 19, none),
        (.p 3 .id [.c (.pv (.int .i64 0))], none)]))
     .ret)))))
theorem okRef08Put : okFn Try.prog Try.f12 irRef08Put [.t 2, .t 3] [] 1 = true := by kernel_rfl

-- consistoryref08.Same
-- consistoryref08.Same: args [27, 27]; lent []; rs [.t 4]; loops: 
def irRef08Same : IR := (.seq (.region [
    (.box 2 (.t 0), none),
    (.box 3 (.t 1), none),
    (.p 4 .id [.c (.pv (.bool false))], none)])
 (.seq (.kill [2, 3] [2, 3] (.region [
     (.p 5 (.fieldAddr 0) [.t 2], none),
     (.load 6 none (some 2) (.t 5), none),
     (.p 7 (.fieldAddr 0) [.t 3], none),
     (.load 8 none (some 3) (.t 7), none),
     (.p 9 (.bin .eql) [.t 6, .t 8], none),
     (.p 10 .id [.t 9], none),
     (.p 11 (.fieldAddr 1) [.t 2], some (10, true)),
     (.load 12 none (some 2) (.t 11), some (10, true)),
     (.p 13 (.fieldAddr 1) [.t 3], some (10, true)),
     (.load 14 none (some 3) (.t 13), some (10, true)),
     (.p 15 (.bin .eql) [.t 12, .t 14], some (10, true)),
     (.p 16 .pick [.t 10, .t 15, .c (.pv (.bool false))], none),
     (.p 17 .id [.t 16], none),
     (.p 18 (.fieldAddr 2) [.t 2], some (17, true)),
     (.load 19 none (some 2) (.t 18), some (17, true)),
     (.p 20 (.fieldAddr 2) [.t 3], some (17, true)),
     (.load 21 none (some 3) (.t 20), some (17, true)),
     (.p 22 (.bin .eql) [.t 19, .t 21], some (17, true)),
     (.p 23 .pick [.t 17, .t 22, .c (.pv (.bool false))], none),
     (.p 24 .id [.t 23], none),
     (.p 25 (.fieldAddr 3) [.t 2], some (24, true)),
     (.load 26 none (some 2) (.t 25), some (24, true)),
     (.p 27 (.fieldAddr 3) [.t 3], some (24, true)),
     (.load 28 none (some 3) (.t 27), some (24, true)),
     (.p 29 (.bin .eql) [.t 26, .t 28], some (24, true)),
     (.p 30 .pick [.t 24, .t 29, .c (.pv (.bool false))], none),
     (.p 31 .id [.t 30], none),
     (.p 32 (.fieldAddr 4) [.t 2], some (31, true)),
     (.load 33 none (some 2) (.t 32), some (31, true)),
     (.p 34 (.fieldAddr 4) [.t 3], some (31, true)),
     (.load 35 none (some 3) (.t 34), some (31, true)),
     (.p 36 (.bin .eql) [.t 33, .t 35], some (31, true)),
     (.p 37 .pick [.t 31, .t 36, .c (.pv (.bool false))], none),
     (.p 38 .id [.t 37], none),
     (.p 39 (.fieldAddr 5) [.t 2], some (38, true)),
     (.load 40 (some (32, false)) (some 2) (.t 39), some (38, true)),
     (.p 41 (.fieldAddr 5) [.t 3], some (38, true)),
     (.load 42 (some (32, false)) (some 3) (.t 41), some (38, true)),
     (.p 43 (.aeq false 32 .u8) [.t 40, .t 42], some (38, true)),
     (.p 44 .pick [.t 38, .t 43, .c (.pv (.bool false))], none),
     (.p 45 .id [.t 44], none),
     (.p 46 (.fieldAddr 37) [.t 2], some (45, true)),
     (.load 47 none (some 2) (.t 46), some (45, true)),
     (.p 48 (.fieldAddr 37) [.t 3], some (45, true)),
     (.load 49 none (some 3) (.t 48), some (45, true)),
     (.call 50 13 [.t 47, .t 49] [] [] [], some (45, true)),
     (.p 51 .pick [.t 45, .t 50, .c (.pv (.bool false))], none),
     (.p 52 .id [.t 51], none),
     (.p 53 (.fieldAddr 38) [.t 2], some (52, true)),
     (.load 54 none (some 2) (.t 53), some (52, true)),
     (.p 55 (.fieldAddr 38) [.t 3], some (52, true)),
     (.load 56 none (some 3) (.t 55), some (52, true)),
     (.call 57 28 [.t 54, .t 56] [] [] [], some (52, true)),
     (.p 58 .pick [.t 52, .t 57, .c (.pv (.bool false))], none),
     (.p 4 .id [.t 58], none)]))
  .ret))
theorem okRef08Same : okFn Try.prog Try.f14 irRef08Same [.t 4] [] 2 = true := by kernel_rfl

-- consistoryref08.SameParts
-- consistoryref08.SameParts: args [25, 25]; lent []; rs [.t 4]; loops: L1 keeps [0, 1, 5] []
def irRef08SameParts_L1 : IR := (.seq (.seq (.kill [0, 1, 5] [] (.region [
      (.p 11 .id [.t 5], none),
      (.p 12 .id [.t 0], none),
      (.p 13 (.len none) [.t 12], none),
      (.p 14 (.bin .lss) [.t 11, .t 13], none)]))
   (.cond (.t 14)
    .skip
    (.exit 0)))
  (.seq (.block 1 (.seq (.kill [0, 1, 5] [] (.region [
        (.p 17 .id [.t 0], none),
        (.p 18 .id [.t 5], none),
        (.p 19 (.indexAddr none 1) [.t 17, .t 18], none),
        (.load 20 none (some 9999) (.t 19), none),
        (.p 21 .id [.t 1], none),
        (.p 22 .id [.t 5], none),
        (.p 23 (.indexAddr none 1) [.t 21, .t 22], none),
        (.load 24 none (some 9999) (.t 23), none),
        (.call 25 13 [.t 20, .t 24] [] [] [], none),
        (.p 26 (.un .not) [.t 25], none)]))
     (.cond (.t 26)
      (.seq (.kill [] [] (.region [
          (.p 4 .id [.c (.pv (.bool false))], none)]))
       .ret)
      .skip)))
   (.kill [0, 1, 5] [] (.region [
      (.p 15 .id [.t 5], none),
      (.p 16 (.bin .add) [.t 15, .c (.pv (.int .i64 1))], none),
      (.p 5 .id [.t 16], none)]))))
def irRef08SameParts : IR := (.seq (.region [
    (.p 4 .id [.c (.pv (.bool false))], none)])
 (.seq (.seq (.kill [0, 1] [] (.region [
      (.p 6 .id [.t 0], none),
      (.p 7 (.len none) [.t 6], none),
      (.p 8 .id [.t 1], none),
      (.p 9 (.len none) [.t 8], none),
      (.p 10 (.bin .neq) [.t 7, .t 9], none)]))
   (.cond (.t 10)
    (.seq (.kill [] [] (.region [
        (.p 4 .id [.c (.pv (.bool false))], none)]))
     .ret)
    .skip))
  (.seq (.seq (.kill [0, 1] [] (.region [
       (.p 5 .id [.c (.pv (.int .i64 0))], none)]))
    (.block 0 (.loop (.kill [0, 1, 5] [] irRef08SameParts_L1))))
   (.seq (.kill [] [] (.region [
       (.p 4 .id [.c (.pv (.bool true))], none)]))
    .ret))))
theorem okRef08SameParts : okFn Try.prog Try.f28 irRef08SameParts [.t 4] [] 2 = true := by kernel_rfl

-- wire.reader.number
-- wire.reader.number: args [62, 3]; lent [0]; rs [.t 4]; loops: 
def irWireReaderNumber : IR := (.seq (.region [
    (.box 2 (.t 0), none),
    (.p 4 .id [.c (.pv (.int .i64 0))], none)])
 (.seq (.kill [0, 1, 2] [2, 1000] (.region [
     (.p 8 (.fieldAddr 0) [.t 2], none),
     (.load 9 none (some 2) (.t 8), none),
     (.p 10 .id [.t 1], none),
     (.call 11 41 [.t 9, .t 10] [1000] [] [], none),
     (.p 7 .id [.t 11], none),
     (.p 12 (.ext 0) [.t 7], none),
     (.p 13 (.ext 1) [.t 7], none),
     (.p 5 .id [.t 12], none),
     (.p 6 .id [.t 13], none)]))
  (.seq (.kill [0, 5, 6] [1000] (.regionE [
      (.p 14 .id [.t 6], none),
      (.call 15 39 [.t 14] [] [] [], none)]))
   (.seq (.kill [0, 5] [1000] (.region [
       (.p 16 .id [.t 5], none),
       (.p 17 (.conv .i64) [.t 16], none),
       (.p 4 .id [.t 17], none)]))
    .ret))))
theorem okWireReaderNumber : okFn Try.prog Try.f36 irWireReaderNumber [.t 4] [] 2 = true := by kernel_rfl

-- wire.reader.text
-- wire.reader.text: args [62]; lent [0]; rs [.t 2]; loops: 
def irWireReaderText : IR := (.seq (.region [
    (.box 1 (.t 0), none),
    (.p 2 .id [.c (.os 5 1 [])], none)])
 (.seq (.kill [0, 1] [1, 1000] (.region [
     (.p 6 (.fieldAddr 0) [.t 1], none),
     (.load 7 none (some 1) (.t 6), none),
     (.call 8 42 [.t 7, .c (.pv (.int .i64 65536))] [1000] [] [], none),
     (.p 5 .id [.t 8], none),
     (.p 9 (.ext 0) [.t 5], none),
     (.p 10 (.ext 1) [.t 5], none),
     (.mv 3 9, none),
     (.p 4 .id [.t 10], none)]))
  (.seq (.kill [0, 3, 4] [1000] (.regionE [
      (.p 11 .id [.t 4], none),
      (.call 12 39 [.t 11] [] [] [], none)]))
   (.seq (.kill [0, 3] [1000] (.region [
       (.mv 13 3, none),
       (.mv 2 13, none)]))
    .ret))))
theorem okWireReaderText : okFn Try.prog Try.f37 irWireReaderText [.t 2] [] 1 = true := by kernel_rfl

-- wire.reader.parts
-- wire.reader.parts: args [62]; lent [0]; rs [.t 2]; loops: L1 keeps [0, 1, 5, 14, 15] [1, 1000]
def irWireReaderParts_L1 : IR := (.seq (.kill [0, 1, 5, 14, 15] [1, 1000] (.region [
     (.p 16 (.bin .lss) [.t 15, .t 14], none)]))
  (.seq (.cond (.t 16)
    .skip
    (.exit 0))
   (.seq (.block 1 (.kill [0, 1, 5, 14, 15] [1, 1000] (.regionE [
        (.mv 17 5, none),
        (.load 18 (some (1, true)) (some 1) (.t 1), none),
        (.call 19 37 [.t 18] [1000] [] [], none),
        (.bslice 20 24 1 1 [.sl 1 []] [(0, .t 19)], none),
        (.app 21 24 1 17 none (.t 20), none),
        (.mv 5 21, none)])))
    (.kill [0, 1, 5, 14, 15] [1, 1000] (.region [
       (.p 22 (.bin .add) [.t 15, .c (.pv (.int .i64 1))], none),
       (.p 15 .id [.t 22], none)])))))
def irWireReaderParts : IR := (.seq (.region [
    (.box 1 (.t 0), none),
    (.p 2 .id [.c (.os 24 1 [])], none)])
 (.seq (.kill [0, 1] [1, 1000] (.region [
     (.p 7 (.fieldAddr 0) [.t 1], none),
     (.load 8 none (some 1) (.t 7), none),
     (.call 9 43 [.t 8, .c (.pv (.int .i64 16))] [1000] [] [], none),
     (.p 6 .id [.t 9], none),
     (.p 10 (.ext 0) [.t 6], none),
     (.p 11 (.ext 1) [.t 6], none),
     (.p 3 .id [.t 10], none),
     (.p 4 .id [.t 11], none)]))
  (.seq (.kill [0, 1, 3, 4] [1, 1000] (.regionE [
      (.p 12 .id [.t 4], none),
      (.call 13 39 [.t 12] [] [] [], none)]))
   (.seq (.kill [0, 1, 3] [1, 1000] (.region [
       (.p 5 .id [.c (.os 24 1 [])], none)]))
    (.seq (.seq (.kill [0, 1, 3, 5] [1, 1000] (.region [
         (.p 14 .id [.t 3], none),
         (.p 15 .id [.c (.pv (.int .i64 0))], none)]))
      (.block 0 (.loop (.kill [0, 1, 5, 14, 15] [1, 1000] irWireReaderParts_L1))))
     (.seq (.kill [0, 5] [1000] (.region [
         (.mv 23 5, none),
         (.mv 2 23, none)]))
      .ret))))))
theorem okWireReaderParts : okFn Try.prog Try.f38 irWireReaderParts [.t 2] [] 1 = true := by kernel_rfl

-- wire.reader.message
-- wire.reader.message: args [62]; lent [0]; rs [.cell 2 (some (39, true))]; loops: L1 keeps [0, 1, 2, 3, 4, 14, 15] [1, 2, 3, 4, 1000]; L2 keeps [0, 1, 2, 3, 27] [1, 2, 3, 1000]
def irWireReaderMessage_L1 : IR := (.seq (.kill [0, 1, 2, 3, 4, 14, 15] [1, 2, 3, 4, 1000] (.region [
     (.p 16 (.bin .lss) [.t 15, .c (.pv (.int .i64 5))], none)]))
  (.seq (.cond (.t 16)
    .skip
    (.exit 0))
   (.seq (.block 1 (.seq (.kill [0, 1, 2, 3, 4, 14, 15] [1, 2, 3, 4, 1000] (.region [
         (.p 17 .id [.t 15], none),
         (.p 18 (.index 5 1 none) [.t 14, .t 15], none),
         (.p 5 .id [.t 17], none),
         (.p 6 .id [.t 18], none)]))
      (.kill [0, 1, 2, 3, 4, 5, 6, 14, 15] [1, 2, 3, 4, 1000] (.regionD [
         (.p 19 .id [.t 6], none),
         (.load 20 (some (1, true)) (some 1) (.t 1), none),
         (.p 21 .id [.t 5], none),
         (.p 22 (.indexAddr (some 5) 1) [.t 4, .t 21], none),
         (.load 23 none (some 4) (.t 22), none),
         (.call 24 36 [.t 20, .t 23] [1000] [] [], none),
         (.p 25 .nilc [.t 19], none),
         (.store none (some 3) (.t 25) (.t 24), none)] [false, false, false, false, false, true, true, true] 5))))
    (.kill [0, 1, 2, 3, 4, 14, 15] [1, 2, 3, 4, 1000] (.region [
       (.p 26 (.bin .add) [.t 15, .c (.pv (.int .i64 1))], none),
       (.p 15 .id [.t 26], none)])))))
def irWireReaderMessage_L2 : IR := (.seq (.kill [0, 1, 2, 3, 27] [1, 2, 3, 1000] (.region [
     (.p 28 (.bin .lss) [.t 27, .c (.pv (.int .i64 32))], none)]))
  (.seq (.cond (.t 28)
    .skip
    (.exit 2))
   (.seq (.block 3 (.seq (.kill [0, 1, 2, 3, 27] [1, 2, 3, 1000] (.region [
         (.p 29 .id [.t 27], none),
         (.p 7 .id [.t 29], none)]))
      (.kill [0, 1, 2, 3, 7, 27] [1, 2, 3, 1000] (.regionE [
         (.p 30 .id [.t 7], none),
         (.load 31 (some (1, true)) (some 1) (.t 1), none),
         (.call 32 36 [.t 31, .c (.pv (.int .i64 1))] [1000] [] [], none),
         (.p 33 (.conv .u8) [.t 32], none),
         (.p 34 (.fieldAddr 5) [.t 3], none),
         (.p 35 (.indexAddr (some 32) 1) [.t 34, .t 30], none),
         (.store none (some 3) (.t 35) (.t 33), none)]))))
    (.kill [0, 1, 2, 3, 27] [1, 2, 3, 1000] (.region [
       (.p 36 (.bin .add) [.t 27, .c (.pv (.int .i64 1))], none),
       (.p 27 .id [.t 36], none)])))))
def irWireReaderMessage : IR := (.seq (.region [
    (.box 1 (.t 0), none),
    (.alloc 2 (.pagg [.int .i64 0, .int .i64 0, .int .i64 0, .int .i64 0, .int .i64 0, .int .u8 0, .int .u8 0, .int .u8 0, .int .u8 0, .int .u8 0, .int .u8 0, .int .u8 0, .int .u8 0, .int .u8 0, .int .u8 0, .int .u8 0, .int .u8 0, .int .u8 0, .int .u8 0, .int .u8 0, .int .u8 0, .int .u8 0, .int .u8 0, .int .u8 0, .int .u8 0, .int .u8 0, .int .u8 0, .int .u8 0, .int .u8 0, .int .u8 0, .int .u8 0, .int .u8 0, .int .u8 0, .int .u8 0, .int .u8 0, .int .u8 0, .int .u8 0, .sl 1 [], .sl 1 []]), none)])
 (.seq (.kill [0, 1, 2] [1, 2, 1000] (.region [
     (.alloc 3 (.pagg [.int .i64 0, .int .i64 0, .int .i64 0, .int .i64 0, .int .i64 0, .int .u8 0, .int .u8 0, .int .u8 0, .int .u8 0, .int .u8 0, .int .u8 0, .int .u8 0, .int .u8 0, .int .u8 0, .int .u8 0, .int .u8 0, .int .u8 0, .int .u8 0, .int .u8 0, .int .u8 0, .int .u8 0, .int .u8 0, .int .u8 0, .int .u8 0, .int .u8 0, .int .u8 0, .int .u8 0, .int .u8 0, .int .u8 0, .int .u8 0, .int .u8 0, .int .u8 0, .int .u8 0, .int .u8 0, .int .u8 0, .int .u8 0, .int .u8 0, .sl 1 [], .sl 1 []]), none)]))
  (.seq (.kill [0, 1, 2, 3] [1, 2, 3, 1000] (.region [
      (.call 8 23 [] [] [] [], none),
      (.alloc 4 (.pagg (List.replicate 5 (.int .i64 0))), none),
      (.store (some (5, true)) (some 4) (.t 4) (.t 8), none)]))
   (.seq (.seq (.kill [0, 1, 2, 3, 4] [1, 2, 3, 4, 1000] (.region [
        (.p 9 (.fieldAddr 0) [.t 3], none),
        (.p 10 (.fieldAddr 1) [.t 3], none),
        (.p 11 (.fieldAddr 2) [.t 3], none),
        (.p 12 (.fieldAddr 3) [.t 3], none),
        (.p 13 (.fieldAddr 4) [.t 3], none),
        (.build 14 (.agg [.pv .nilp, .pv .nilp, .pv .nilp, .pv .nilp, .pv .nilp]) [(0, 1, .t 9), (1, 1, .t 10), (2, 1, .t 11), (3, 1, .t 12), (4, 1, .t 13)], none),
        (.p 15 .id [.c (.pv (.int .i64 0))], none)]))
     (.block 0 (.loop (.kill [0, 1, 2, 3, 4, 14, 15] [1, 2, 3, 4, 1000] irWireReaderMessage_L1))))
    (.seq (.seq (.kill [0, 1, 2, 3] [1, 2, 3, 1000] (.region [
         (.p 27 .id [.c (.pv (.int .i64 0))], none)]))
      (.block 2 (.loop (.kill [0, 1, 2, 3, 27] [1, 2, 3, 1000] irWireReaderMessage_L2))))
     (.seq (.kill [0, 1, 2, 3] [1, 2, 3, 1000] (.regionE [
         (.load 37 (some (1, true)) (some 1) (.t 1), none),
         (.call 38 37 [.t 37] [1000] [] [], none),
         (.p 39 (.fieldAddr 37) [.t 3], none),
         (.store none (some 3) (.t 39) (.t 38), none)]))
      (.seq (.kill [0, 1, 2, 3] [1, 2, 3, 1000] (.regionE [
          (.load 40 (some (1, true)) (some 1) (.t 1), none),
          (.call 41 38 [.t 40] [1000] [] [], none),
          (.p 42 (.fieldAddr 38) [.t 3], none),
          (.store none (some 3) (.t 42) (.t 41), none)]))
       (.seq (.kill [0, 1, 2, 3] [1, 2, 3, 1000] (.regionE [
           (.p 43 (.fieldAddr 0) [.t 1], none),
           (.load 44 none (some 1) (.t 43), none),
           (.call 45 40 [.t 44] [1000] [] [], none),
           (.call 46 39 [.t 45] [] [] [], none)]))
        (.seq (.seq (.kill [0, 2, 3] [2, 3, 1000] (.region [
             (.load 47 (some (39, true)) (some 3) (.t 3), none),
             (.call 48 22 [.t 47] [] [] [], none),
             (.p 49 (.un .not) [.t 48], none)]))
          (.cond (.t 49)
           (.kill [0, 2, 3] [2, 3, 1000] (.regionE [
              (.call 50 39 [.c (.pv (.int .i64 15))] [] [] [], none)]))
           .skip))
         (.seq (.kill [0, 2, 3] [2, 3, 1000] (.region [
             (.load 51 (some (39, true)) (some 3) (.t 3), none),
             (.store (some (39, true)) (some 2) (.t 2) (.t 51), none)]))
          .ret))))))))))
theorem okWireReaderMessage : okFn Try.prog Try.f31 irWireReaderMessage [.cell 2 (some (39, true))] [] 1 = true := by kernel_rfl

-- consistorylaw08.WirePuts
-- consistorylaw08.WirePuts: args [27]; lent []; rs [.t 2]; loops: 
def irLaw08WirePuts : IR := (.seq (.region [
    (.box 1 (.t 0), none),
    (.p 2 .id [.c (.pv (.bool false))], none)])
 (.seq (.seq (.kill [1] [1] (.region [
      (.call 10 6 [] [] [] [], none),
      (.p 11 (.un .not) [.t 10], none)]))
   (.cond (.t 11)
    (.seq (.kill [] [] (.region [
        (.p 2 .id [.c (.pv (.bool false))], none)]))
     .ret)
    .skip))
  (.seq (.seq (.kill [1] [1] (.region [
       (.load 12 (some (39, true)) (some 1) (.t 1), none),
       (.call 13 7 [.t 12] [] [] [], none)]))
    (.cond (.t 13)
     (.seq (.kill [] [] (.region [
         (.p 2 .id [.c (.pv (.bool true))], none)]))
      .ret)
     .skip))
   (.seq (.kill [1] [1] (.region [
       (.load 14 (some (39, true)) (some 1) (.t 1), none),
       (.call 15 10 [.t 14] [] [] [], none),
       (.alloc 3 (.agg [.pv (.int .i64 0), .pv (.int .i64 0), .pv (.int .i64 0), .pv (.int .i64 0), .pv (.int .i64 0), .pv (.int .u8 0), .pv (.int .u8 0), .pv (.int .u8 0), .pv (.int .u8 0), .pv (.int .u8 0), .pv (.int .u8 0), .pv (.int .u8 0), .pv (.int .u8 0), .pv (.int .u8 0), .pv (.int .u8 0), .pv (.int .u8 0), .pv (.int .u8 0), .pv (.int .u8 0), .pv (.int .u8 0), .pv (.int .u8 0), .pv (.int .u8 0), .pv (.int .u8 0), .pv (.int .u8 0), .pv (.int .u8 0), .pv (.int .u8 0), .pv (.int .u8 0), .pv (.int .u8 0), .pv (.int .u8 0), .pv (.int .u8 0), .pv (.int .u8 0), .pv (.int .u8 0), .pv (.int .u8 0), .pv (.int .u8 0), .pv (.int .u8 0), .pv (.int .u8 0), .pv (.int .u8 0), .pv (.int .u8 0), .os 5 1 [], .os 24 1 []]), none),
       (.store (some (39, true)) (some 3) (.t 3) (.t 15), none)]))
    (.seq (.kill [1, 3] [1, 3] (.region [
        (.load 17 (some (39, true)) (some 3) (.t 3), none),
        (.call 18 11 [.t 17] [] [] [], none),
        (.p 16 .id [.t 18], none),
        (.p 19 (.ext 0) [.t 16], none),
        (.p 20 (.ext 1) [.t 16], none),
        (.mv 4 19, none),
        (.p 5 .id [.t 20], none)]))
     (.seq (.kill [1, 3, 4, 5] [1, 3] (.region [
         (.load 22 (some (39, true)) (some 1) (.t 1), none),
         (.call 23 12 [.t 22] [] [] [], none),
         (.p 21 .id [.t 23], none),
         (.p 24 (.ext 0) [.t 21], none),
         (.p 25 (.ext 1) [.t 21], none),
         (.mv 6 24, none),
         (.p 7 .id [.t 25], none)]))
      (.seq (.seq (.kill [1, 3, 4, 5, 6, 7] [1, 3] (.region [
           (.p 26 .id [.t 4], none),
           (.mv 27 6, none),
           (.call 28 13 [.t 26, .t 27] [] [] [], none),
           (.p 29 (.un .not) [.t 28], none),
           (.p 30 .id [.t 29], none),
           (.p 31 .id [.t 5], some (30, false)),
           (.p 32 .id [.t 7], some (30, false)),
           (.p 33 (.bin .neq) [.t 31, .t 32], some (30, false)),
           (.p 34 .pick [.t 30, .c (.pv (.bool true)), .t 33], none),
           (.p 35 .id [.t 34], none),
           (.load 36 (some (39, true)) (some 3) (.t 3), some (35, false)),
           (.load 37 (some (39, true)) (some 1) (.t 1), some (35, false)),
           (.call 38 14 [.t 36, .t 37] [] [] [], some (35, false)),
           (.p 39 (.un .not) [.t 38], some (35, false)),
           (.p 40 .pick [.t 35, .c (.pv (.bool true)), .t 39], none)]))
        (.cond (.t 40)
         (.seq (.kill [] [] (.region [
             (.p 2 .id [.c (.pv (.bool false))], none)]))
          .ret)
         .skip))
       (.seq (.seq (.kill [1, 4, 5] [1] (.region [
            (.p 41 .id [.t 5], none),
            (.p 42 (.bin .neq) [.t 41, .c (.pv (.int .i64 0))], none)]))
         (.cond (.t 42)
          (.seq (.kill [] [] (.region [
              (.p 2 .id [.c (.pv (.bool true))], none)]))
           .ret)
          .skip))
        (.seq (.kill [1, 4] [1] (.region [
            (.mv 44 4, none),
            (.call 45 15 [.t 44] [] [] [], none),
            (.p 43 .id [.t 45], none),
            (.p 46 (.ext 0) [.t 43], none),
            (.p 47 (.ext 1) [.t 43], none),
            (.alloc 8 (.agg [.pv (.int .i64 0), .pv (.int .i64 0), .pv (.int .i64 0), .pv (.int .i64 0), .pv (.int .i64 0), .pv (.int .u8 0), .pv (.int .u8 0), .pv (.int .u8 0), .pv (.int .u8 0), .pv (.int .u8 0), .pv (.int .u8 0), .pv (.int .u8 0), .pv (.int .u8 0), .pv (.int .u8 0), .pv (.int .u8 0), .pv (.int .u8 0), .pv (.int .u8 0), .pv (.int .u8 0), .pv (.int .u8 0), .pv (.int .u8 0), .pv (.int .u8 0), .pv (.int .u8 0), .pv (.int .u8 0), .pv (.int .u8 0), .pv (.int .u8 0), .pv (.int .u8 0), .pv (.int .u8 0), .pv (.int .u8 0), .pv (.int .u8 0), .pv (.int .u8 0), .pv (.int .u8 0), .pv (.int .u8 0), .pv (.int .u8 0), .pv (.int .u8 0), .pv (.int .u8 0), .pv (.int .u8 0), .pv (.int .u8 0), .os 5 1 [], .os 24 1 []]), none),
            (.store (some (39, true)) (some 8) (.t 8) (.t 46), none),
            (.p 9 .id [.t 47], none)]))
         (.seq (.kill [1, 8, 9] [1, 8] (.region [
             (.p 48 .id [.t 9], none),
             (.p 49 (.bin .eql) [.t 48, .c (.pv (.int .i64 0))], none),
             (.p 50 .id [.t 49], none),
             (.load 51 (some (39, true)) (some 8) (.t 8), some (50, true)),
             (.load 52 (some (39, true)) (some 1) (.t 1), some (50, true)),
             (.call 53 14 [.t 51, .t 52] [] [] [], some (50, true)),
             (.p 54 .pick [.t 50, .t 53, .c (.pv (.bool false))], none),
             (.p 2 .id [.t 54], none)]))
          .ret))))))))))
theorem okLaw08WirePuts : okFn Try.prog Try.f4 irLaw08WirePuts [.t 2] [] 1 = true := by kernel_rfl

-- consistorylaw08.WireCut
-- consistorylaw08.WireCut: args [27, 42, 5]; lent []; rs [.t 6]; loops: 
def irLaw08WireCut : IR := (.seq (.region [
    (.box 3 (.t 0), none),
    (.p 6 .id [.c (.pv (.bool false))], none)])
 (.seq (.seq (.kill [1, 2, 3] [3] (.region [
      (.call 13 6 [] [] [] [], none),
      (.p 14 (.un .not) [.t 13], none)]))
   (.cond (.t 14)
    (.seq (.kill [] [] (.region [
        (.p 6 .id [.c (.pv (.bool false))], none)]))
     .ret)
    .skip))
  (.seq (.seq (.kill [1, 2, 3] [3] (.region [
       (.load 15 (some (39, true)) (some 3) (.t 3), none),
       (.call 16 7 [.t 15] [] [] [], none)]))
    (.cond (.t 16)
     (.seq (.kill [] [] (.region [
         (.p 6 .id [.c (.pv (.bool true))], none)]))
      .ret)
     .skip))
   (.seq (.kill [1, 2, 3] [3] (.region [
       (.load 18 (some (39, true)) (some 3) (.t 3), none),
       (.call 19 11 [.t 18] [] [] [], none),
       (.p 17 .id [.t 19], none),
       (.p 20 (.ext 0) [.t 17], none),
       (.p 21 (.ext 1) [.t 17], none),
       (.mv 7 20, none),
       (.p 8 .id [.t 21], none)]))
    (.seq (.seq (.kill [1, 2, 7, 8] [] (.region [
         (.p 22 .id [.t 8], none),
         (.p 23 (.bin .neq) [.t 22, .c (.pv (.int .i64 0))], none)]))
      (.cond (.t 23)
       (.seq (.kill [7] [] (.region [
           (.mv 24 7, none),
           (.p 25 (.len none) [.t 24], none),
           (.p 26 (.bin .eql) [.t 25, .c (.pv (.int .i64 0))], none),
           (.p 6 .id [.t 26], none)]))
        .ret)
       .skip))
     (.seq (.kill [1, 2, 7] [] (.region [
         (.p 28 .id [.t 7], none),
         (.p 29 .id [.t 1], none),
         (.p 30 (.conv .i64) [.t 29], none),
         (.p 31 .id [.t 7], none),
         (.p 32 (.len none) [.t 31], none),
         (.p 33 (.bin .rem) [.t 30, .t 32], none),
         (.p 34 (.slice none 1 false true) [.t 28, .t 33], none),
         (.call 35 15 [.t 34] [] [] [], none),
         (.p 27 .id [.t 35], none),
         (.p 36 (.ext 0) [.t 27], none),
         (.p 37 (.ext 1) [.t 27], none),
         (.alloc 9 (.agg [.pv (.int .i64 0), .pv (.int .i64 0), .pv (.int .i64 0), .pv (.int .i64 0), .pv (.int .i64 0), .pv (.int .u8 0), .pv (.int .u8 0), .pv (.int .u8 0), .pv (.int .u8 0), .pv (.int .u8 0), .pv (.int .u8 0), .pv (.int .u8 0), .pv (.int .u8 0), .pv (.int .u8 0), .pv (.int .u8 0), .pv (.int .u8 0), .pv (.int .u8 0), .pv (.int .u8 0), .pv (.int .u8 0), .pv (.int .u8 0), .pv (.int .u8 0), .pv (.int .u8 0), .pv (.int .u8 0), .pv (.int .u8 0), .pv (.int .u8 0), .pv (.int .u8 0), .pv (.int .u8 0), .pv (.int .u8 0), .pv (.int .u8 0), .pv (.int .u8 0), .pv (.int .u8 0), .pv (.int .u8 0), .pv (.int .u8 0), .pv (.int .u8 0), .pv (.int .u8 0), .pv (.int .u8 0), .pv (.int .u8 0), .os 5 1 [], .os 24 1 []]), none),
         (.store (some (39, true)) (some 9) (.t 9) (.t 36), none),
         (.p 10 .id [.t 37], none)]))
      (.seq (.kill [2, 7, 10] [] (.region [
          (.bslice 39 5 1 0 [.int .u8 0] [], none),
          (.mv 40 7, none),
          (.app 41 5 1 39 none (.t 40), none),
          (.p 42 .id [.t 2], none),
          (.bslice 43 5 1 1 [.int .u8 0] [(0, .t 42)], none),
          (.app 44 5 1 41 none (.t 43), none),
          (.call 45 15 [.t 44] [] [] [], none),
          (.p 38 .id [.t 45], none),
          (.p 46 (.ext 0) [.t 38], none),
          (.p 47 (.ext 1) [.t 38], none),
          (.alloc 11 (.agg [.pv (.int .i64 0), .pv (.int .i64 0), .pv (.int .i64 0), .pv (.int .i64 0), .pv (.int .i64 0), .pv (.int .u8 0), .pv (.int .u8 0), .pv (.int .u8 0), .pv (.int .u8 0), .pv (.int .u8 0), .pv (.int .u8 0), .pv (.int .u8 0), .pv (.int .u8 0), .pv (.int .u8 0), .pv (.int .u8 0), .pv (.int .u8 0), .pv (.int .u8 0), .pv (.int .u8 0), .pv (.int .u8 0), .pv (.int .u8 0), .pv (.int .u8 0), .pv (.int .u8 0), .pv (.int .u8 0), .pv (.int .u8 0), .pv (.int .u8 0), .pv (.int .u8 0), .pv (.int .u8 0), .pv (.int .u8 0), .pv (.int .u8 0), .pv (.int .u8 0), .pv (.int .u8 0), .pv (.int .u8 0), .pv (.int .u8 0), .pv (.int .u8 0), .pv (.int .u8 0), .pv (.int .u8 0), .pv (.int .u8 0), .os 5 1 [], .os 24 1 []]), none),
          (.store (some (39, true)) (some 11) (.t 11) (.t 46), none),
          (.p 12 .id [.t 47], none)]))
       (.seq (.kill [10, 12] [] (.region [
           (.p 48 .id [.t 10], none),
           (.p 49 (.bin .eql) [.t 48, .c (.pv (.int .i64 1))], none),
           (.p 50 .id [.t 49], none),
           (.p 51 .id [.t 12], some (50, true)),
           (.p 52 (.bin .eql) [.t 51, .c (.pv (.int .i64 2))], some (50, true)),
           (.p 53 .id [.t 52], some (50, true)),
           (.p 54 .id [.t 12], some (53, false)),
           (.p 55 (.bin .eql) [.t 54, .c (.pv (.int .i64 4))], some (53, false)),
           (.p 56 .pick [.t 53, .c (.pv (.bool true)), .t 55], some (50, true)),
           (.p 57 .pick [.t 50, .t 56, .c (.pv (.bool false))], none),
           (.p 6 .id [.t 57], none)]))
        .ret))))))))
theorem okLaw08WireCut : okFn Try.prog Try.f5 irLaw08WireCut [.t 6] [] 3 = true := by kernel_rfl

end Go.Proofs.Ytekpgcohlpkmnaa
