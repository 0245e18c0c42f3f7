/- The abstract code of functions, printed by gen_ir.py out of the program's form in Lean; each is checked against it. -/
import Derived.Test.YtekpgcohlpkmnaaProg
import Derived.Test.YtekpgcohlpkmnaaLibClone
set_option linter.unusedVariables false
set_option linter.unusedSimpArgs false
set_option maxRecDepth 100000
namespace Go.Proofs.Ytekpgcohlpkmnaa
open Go.Abs
-- nums.wide
-- nums.wide: args [3]; lent []; rs [.t 2]; loops: 
def irNumsWide : IR := (.seq (.region [
    (.p 2 .id [.c (.pv (.bool false))], none)])
 (.seq (.kill [0] [] (.region [
     (.p 3 .id [.t 0], none),
     (.p 4 (.bin .eql) [.t 3, .c (.pv (.int .i64 1))], none),
     (.p 5 .id [.t 4], none),
     (.p 6 .id [.t 0], some (5, false)),
     (.p 7 (.bin .eql) [.t 6, .c (.pv (.int .i64 2))], some (5, false)),
     (.p 8 .pick [.t 5, .c (.pv (.bool true)), .t 7], none),
     (.p 9 .id [.t 8], none),
     (.p 10 .id [.t 0], some (9, false)),
     (.p 11 (.bin .eql) [.t 10, .c (.pv (.int .i64 4))], some (9, false)),
     (.p 12 .pick [.t 9, .c (.pv (.bool true)), .t 11], none),
     (.p 13 .id [.t 12], none),
     (.p 14 .id [.t 0], some (13, false)),
     (.p 15 (.bin .eql) [.t 14, .c (.pv (.int .i64 8))], some (13, false)),
     (.p 16 .pick [.t 13, .c (.pv (.bool true)), .t 15], none),
     (.p 2 .id [.t 16], none)]))
  .ret))
theorem okNumsWide : okFn Try.prog Try.f35 irNumsWide [.t 2] [] 1 = true := by kernel_rfl

-- nums.PutFixed
-- nums.PutFixed: args [24, 47, 3]; lent []; rs [.t 6]; loops: L1 keeps [1, 2, 7, 15, 16] []
def irNumsPutFixed_L1 : IR := (.seq (.kill [1, 2, 7, 15, 16] [] (.region [
     (.p 17 (.bin .lss) [.t 16, .t 15], none)]))
  (.seq (.cond (.t 17)
    .skip
    (.exit 0))
   (.seq (.block 1 (.seq (.kill [1, 2, 7, 15, 16] [] (.region [
         (.p 18 .id [.t 16], none),
         (.p 8 .id [.t 18], none)]))
      (.kill [1, 2, 7, 8, 15, 16] [] (.region [
         (.mv 19 7, none),
         (.p 20 .id [.t 1], none),
         (.p 21 .id [.t 2], none),
         (.p 22 (.bin .sub) [.t 21, .c (.pv (.int .i64 1))], none),
         (.p 23 .id [.t 8], none),
         (.p 24 (.bin .sub) [.t 22, .t 23], none),
         (.p 25 (.bin .mul) [.c (.pv (.int .i64 8)), .t 24], none),
         (.p 26 (.bin .shr) [.t 20, .t 25], none),
         (.p 27 (.conv .u8) [.t 26], none),
         (.bslice 28 5 1 1 [.int .u8 0] [(0, .t 27)], none),
         (.app 29 5 1 19 none (.t 28), none),
         (.mv 7 29, none)]))))
    (.kill [1, 2, 7, 15, 16] [] (.region [
       (.p 30 (.bin .add) [.t 16, .c (.pv (.int .i64 1))], none),
       (.p 16 .id [.t 30], none)])))))
def irNumsPutFixed : IR := (.seq (.region [
    (.p 6 .id [.c (.os 5 1 [])], none)])
 (.seq (.kill [0, 1, 2] [] (.region [
     (.mv 9 0, none),
     (.call 10 34 [.t 9] [] [] [], none),
     (.mv 7 10, none)]))
  (.seq (.seq (.kill [1, 2, 7] [] (.region [
       (.p 11 .id [.t 2], none),
       (.call 12 35 [.t 11] [] [] [], none),
       (.p 13 (.un .not) [.t 12], none)]))
    (.cond (.t 13)
     (.seq (.kill [7] [] (.region [
         (.mv 14 7, none),
         (.mv 6 14, none)]))
      .ret)
     .skip))
   (.seq (.seq (.kill [1, 2, 7] [] (.region [
        (.p 15 .id [.t 2], none),
        (.p 16 .id [.c (.pv (.int .i64 0))], none)]))
     (.block 0 (.loop (.kill [1, 2, 7, 15, 16] [] irNumsPutFixed_L1))))
    (.seq (.kill [7] [] (.region [
        (.mv 31 7, none),
        (.mv 6 31, none)]))
     .ret)))))
theorem okNumsPutFixed : okFn Try.prog Try.f24 irNumsPutFixed [.t 6] [] 3 = true := by kernel_rfl

-- nums.PutPacked
-- nums.PutPacked: args [24, 47]; lent []; rs [.t 4]; loops: L1 keeps [1, 5] []
def irNumsPutPacked_L1 : IR := (.seq (.seq (.kill [1, 5] [] (.region [
      (.p 8 .id [.t 1], none),
      (.p 9 (.bin .geq) [.t 8, .c (.pv (.int .u64 128))], none)]))
   (.cond (.t 9)
    .skip
    (.exit 0)))
  (.block 1 (.seq (.kill [1, 5] [] (.region [
       (.mv 10 5, none),
       (.p 11 .id [.t 1], none),
       (.p 12 (.conv .u8) [.t 11], none),
       (.p 13 (.bin .or) [.t 12, .c (.pv (.int .u8 128))], none),
       (.bslice 14 5 1 1 [.int .u8 0] [(0, .t 13)], none),
       (.app 15 5 1 10 none (.t 14), none),
       (.mv 5 15, none)]))
    (.kill [1, 5] [] (.region [
       (.p 16 .id [.t 1], none),
       (.p 17 (.bin .shr) [.t 16, .c (.pv (.int .u64 7))], none),
       (.p 1 .id [.t 17], none)])))))
def irNumsPutPacked : IR := (.seq (.region [
    (.p 4 .id [.c (.os 5 1 [])], none)])
 (.seq (.kill [0, 1] [] (.region [
     (.mv 6 0, none),
     (.call 7 34 [.t 6] [] [] [], none),
     (.mv 5 7, none)]))
  (.seq (.block 0 (.loop (.kill [1, 5] [] irNumsPutPacked_L1)))
   (.seq (.kill [1, 5] [] (.region [
       (.mv 18 5, none),
       (.p 19 .id [.t 1], none),
       (.p 20 (.conv .u8) [.t 19], none),
       (.bslice 21 5 1 1 [.int .u8 0] [(0, .t 20)], none),
       (.app 22 5 1 18 none (.t 21), none),
       (.mv 4 22, none)]))
    .ret))))
theorem okNumsPutPacked : okFn Try.prog Try.f26 irNumsPutPacked [.t 4] [] 2 = true := by kernel_rfl

-- nums.PutText
-- nums.PutText: args [24, 24]; lent []; rs [.t 4]; loops: 
def irNumsPutText : IR := (.seq (.region [
    (.p 4 .id [.c (.os 5 1 [])], none)])
 (.seq (.kill [0, 1] [] (.region [
     (.mv 5 0, none),
     (.p 6 .id [.t 1], none),
     (.p 7 (.len none) [.t 6], none),
     (.p 8 (.conv .u64) [.t 7], none),
     (.call 9 26 [.t 5, .t 8] [] [] [], none),
     (.p 10 .id [.t 1], none),
     (.app 11 5 1 9 none (.t 10), none),
     (.mv 4 11, none)]))
  .ret))
theorem okNumsPutText : okFn Try.prog Try.f25 irNumsPutText [.t 4] [] 2 = true := by kernel_rfl

-- nums.New
-- nums.New: args [24]; lent []; rs [.t 2]; loops: 
def irNumsNew : IR := (.seq (.region [
    (.p 2 .id [.c (.pv .nilp)], none)])
 (.seq (.kill [0] [] (.region [
     (.mv 3 0, none),
     (.call 4 34 [.t 3] [] [] [], none),
     (.build 5 (.pagg [.sl 1 [], .int .i64 0]) [(0, 1, .t 4)], none),
     (.box 6 (.t 5), none),
     (.p 2 .id [.t 6], none)]))
  .ret))
theorem okNumsNew : okFn Try.prog Try.f30 irNumsNew [.t 2] [6] 1 = true := by kernel_rfl

-- nums.Reader.Left
-- nums.Reader.Left: args [59]; lent [0]; rs [.t 2]; loops: 
def irNumsReaderLeft : IR := (.seq (.region [
    (.p 2 .id [.c (.pv (.int .i64 0))], none)])
 (.seq (.seq (.kill [0] [1000] (.region [
      (.p 3 .id [.t 0], none),
      (.p 4 (.peq false) [.t 3, .c (.pv .nilp)], none)]))
   (.cond (.t 4)
    (.seq (.kill [0] [1000] (.region [
        (.p 2 .id [.c (.pv (.int .i64 0))], none)]))
     .ret)
    .skip))
  (.seq (.kill [0] [1000] (.region [
      (.p 5 .id [.t 0], none),
      (.p 6 .nilc [.t 5], none),
      (.p 7 (.fieldAddr 0) [.t 6], none),
      (.load 8 none (some 1000) (.t 7), none),
      (.p 9 (.len none) [.t 8], none),
      (.p 10 .id [.t 0], none),
      (.p 11 .nilc [.t 10], none),
      (.p 12 (.fieldAddr 1) [.t 11], none),
      (.load 13 none (some 1000) (.t 12), none),
      (.p 14 (.bin .sub) [.t 9, .t 13], none),
      (.p 2 .id [.t 14], none)]))
   .ret)))
theorem okNumsReaderLeft : okFn Try.prog Try.f44 irNumsReaderLeft [.t 2] [] 1 = true := by kernel_rfl

-- nums.Reader.Done
-- nums.Reader.Done: args [59]; lent [0]; rs [.t 2]; loops: 
def irNumsReaderDone : IR := (.seq (.region [
    (.p 2 .id [.c (.pv (.int .i64 0))], none)])
 (.seq (.block 0 (.seq (.kill [0] [1000] (.region [
       (.p 4 .id [.t 0], none),
       (.p 5 (.peq false) [.t 4, .c (.pv .nilp)], none),
       (.p 3 .id [.t 5], none)]))
    (.cond (.t 3)
     (.seq (.kill [0] [1000] (.region [
         (.p 2 .id [.c (.pv (.int .i64 16))], none)]))
      .ret)
     (.seq (.kill [0] [1000] (.region [
         (.p 7 .id [.t 0], none),
         (.call 8 44 [.t 7] [1000] [] [], none),
         (.p 9 (.bin .gtr) [.t 8, .c (.pv (.int .i64 0))], none),
         (.p 6 .id [.t 9], none)]))
      (.cond (.t 6)
       (.seq (.kill [0] [1000] (.region [
           (.p 2 .id [.c (.pv (.int .i64 2))], none)]))
        .ret)
       .skip)))))
  (.seq (.kill [0] [1000] (.region [
      (.p 2 .id [.c (.pv (.int .i64 0))], none)]))
   .ret)))
theorem okNumsReaderDone : okFn Try.prog Try.f40 irNumsReaderDone [.t 2] [] 1 = true := by kernel_rfl

-- nums.Reader.Fixed
-- nums.Reader.Fixed: args [59, 3]; lent [0]; rs [.t 4, .t 5]; loops: L1 keeps [0, 6, 19, 20] [1000]
def irNumsReaderFixed_L1 : IR := (.seq (.kill [0, 6, 19, 20] [1000] (.region [
     (.p 21 (.bin .lss) [.t 20, .t 19], none)]))
  (.seq (.cond (.t 21)
    .skip
    (.exit 1))
   (.seq (.block 2 (.seq (.kill [0, 6, 19, 20] [1000] (.region [
         (.p 22 .id [.t 6], none),
         (.p 23 (.bin .shl) [.t 22, .c (.pv (.int .u64 8))], none),
         (.p 24 .id [.t 0], none),
         (.p 25 .nilc [.t 24], none),
         (.p 26 (.fieldAddr 0) [.t 25], none),
         (.load 27 none (some 1000) (.t 26), none),
         (.p 28 .id [.t 0], none),
         (.p 29 .nilc [.t 28], none),
         (.p 30 (.fieldAddr 1) [.t 29], none),
         (.load 31 none (some 1000) (.t 30), none),
         (.p 32 (.indexAddr none 1) [.t 27, .t 31], none),
         (.load 33 none (some 9999) (.t 32), none),
         (.p 34 (.conv .u64) [.t 33], none),
         (.p 35 (.bin .or) [.t 23, .t 34], none),
         (.p 6 .id [.t 35], none)]))
      (.kill [0, 6, 19, 20] [1000] (.region [
         (.p 36 .id [.t 0], none),
         (.p 37 .nilc [.t 36], none),
         (.p 38 (.fieldAddr 1) [.t 37], none),
         (.load 39 none (some 1000) (.t 38), none),
         (.p 40 (.bin .add) [.t 39, .c (.pv (.int .i64 1))], none),
         (.p 41 .nilc [.t 36], none),
         (.p 42 (.fieldAddr 1) [.t 41], none),
         (.store none (some 1000) (.t 42) (.t 40), none)]))))
    (.kill [0, 6, 19, 20] [1000] (.region [
       (.p 43 (.bin .add) [.t 20, .c (.pv (.int .i64 1))], none),
       (.p 20 .id [.t 43], none)])))))
def irNumsReaderFixed : IR := (.seq (.region [
    (.p 4 .id [.c (.pv (.int .u64 0))], none),
    (.p 5 .id [.c (.pv (.int .i64 0))], none)])
 (.seq (.block 0 (.seq (.kill [0, 1] [1000] (.region [
       (.p 8 .id [.t 0], none),
       (.p 9 (.peq false) [.t 8, .c (.pv .nilp)], none),
       (.p 7 .id [.t 9], none)]))
    (.cond (.t 7)
     (.seq (.kill [0] [1000] (.region [
         (.p 4 .id [.c (.pv (.int .u64 0))], none),
         (.p 5 .id [.c (.pv (.int .i64 16))], none)]))
      .ret)
     (.seq (.kill [0, 1] [1000] (.region [
         (.p 11 .id [.t 1], none),
         (.call 12 35 [.t 11] [] [] [], none),
         (.p 13 (.un .not) [.t 12], none),
         (.p 10 .id [.t 13], none)]))
      (.cond (.t 10)
       (.seq (.kill [0] [1000] (.region [
           (.p 4 .id [.c (.pv (.int .u64 0))], none),
           (.p 5 .id [.c (.pv (.int .i64 15))], none)]))
        .ret)
       (.seq (.kill [0, 1] [1000] (.region [
           (.p 15 .id [.t 0], none),
           (.call 16 44 [.t 15] [1000] [] [], none),
           (.p 17 .id [.t 1], none),
           (.p 18 (.bin .lss) [.t 16, .t 17], none),
           (.p 14 .id [.t 18], none)]))
        (.cond (.t 14)
         (.seq (.kill [0] [1000] (.region [
             (.p 4 .id [.c (.pv (.int .u64 0))], none),
             (.p 5 .id [.c (.pv (.int .i64 1))], none)]))
          .ret)
         .skip)))))))
  (.seq (.kill [0, 1] [1000] (.region [
      (.p 6 .id [.c (.pv (.int .u64 0))], none)]))
   (.seq (.seq (.kill [0, 1, 6] [1000] (.region [
        (.p 19 .id [.t 1], none),
        (.p 20 .id [.c (.pv (.int .i64 0))], none)]))
     (.block 1 (.loop (.kill [0, 6, 19, 20] [1000] irNumsReaderFixed_L1))))
    (.seq (.kill [0, 6] [1000] (.region [
        (.p 44 .id [.t 6], none),
        (.p 4 .id [.t 44], none),
        (.p 5 .id [.c (.pv (.int .i64 0))], none)]))
     .ret)))))
theorem okNumsReaderFixed : okFn Try.prog Try.f41 irNumsReaderFixed [.t 4, .t 5] [] 2 = true := by kernel_rfl

-- nums.Reader.Packed
-- nums.Reader.Packed: args [59]; lent [0]; rs [.t 2, .t 3]; loops: L1 keeps [0, 4, 9] [1000]
def irNumsReaderPacked_L1 : IR := (.seq (.kill [0, 4, 9] [1000] (.region [
     (.p 10 (.bin .lss) [.t 9, .c (.pv (.int .i64 10))], none)]))
  (.seq (.cond (.t 10)
    .skip
    (.exit 0))
   (.seq (.block 1 (.seq (.kill [0, 4, 9] [1000] (.region [
         (.p 11 .id [.t 9], none),
         (.p 5 .id [.t 11], none)]))
      (.seq (.seq (.kill [0, 4, 5, 9] [1000] (.region [
           (.p 12 .id [.t 0], none),
           (.p 13 .nilc [.t 12], none),
           (.p 14 (.fieldAddr 1) [.t 13], none),
           (.load 15 none (some 1000) (.t 14), none),
           (.p 16 .id [.t 5], none),
           (.p 17 (.bin .add) [.t 15, .t 16], none),
           (.p 18 .id [.t 0], none),
           (.p 19 .nilc [.t 18], none),
           (.p 20 (.fieldAddr 0) [.t 19], none),
           (.load 21 none (some 1000) (.t 20), none),
           (.p 22 (.len none) [.t 21], none),
           (.p 23 (.bin .geq) [.t 17, .t 22], none)]))
        (.cond (.t 23)
         (.seq (.kill [0] [1000] (.region [
             (.p 2 .id [.c (.pv (.int .u64 0))], none),
             (.p 3 .id [.c (.pv (.int .i64 1))], none)]))
          .ret)
         .skip))
       (.seq (.kill [0, 4, 5, 9] [1000] (.region [
           (.p 24 .id [.t 0], none),
           (.p 25 .nilc [.t 24], none),
           (.p 26 (.fieldAddr 0) [.t 25], none),
           (.load 27 none (some 1000) (.t 26), none),
           (.p 28 .id [.t 0], none),
           (.p 29 .nilc [.t 28], none),
           (.p 30 (.fieldAddr 1) [.t 29], none),
           (.load 31 none (some 1000) (.t 30), none),
           (.p 32 .id [.t 5], none),
           (.p 33 (.bin .add) [.t 31, .t 32], none),
           (.p 34 (.indexAddr none 1) [.t 27, .t 33], none),
           (.load 35 none (some 9999) (.t 34), none),
           (.p 6 .id [.t 35], none)]))
        (.seq (.seq (.kill [0, 4, 5, 6, 9] [1000] (.region [
             (.p 36 .id [.t 5], none),
             (.p 37 (.bin .eql) [.t 36, .c (.pv (.int .i64 9))], none),
             (.p 38 .id [.t 37], none),
             (.p 39 .id [.t 6], some (38, true)),
             (.p 40 (.bin .gtr) [.t 39, .c (.pv (.int .u8 1))], some (38, true)),
             (.p 41 .pick [.t 38, .t 40, .c (.pv (.bool false))], none)]))
          (.cond (.t 41)
           (.seq (.kill [0] [1000] (.region [
               (.p 2 .id [.c (.pv (.int .u64 0))], none),
               (.p 3 .id [.c (.pv (.int .i64 2))], none)]))
            .ret)
           .skip))
         (.seq (.kill [0, 4, 5, 6, 9] [1000] (.region [
             (.p 42 .id [.t 4], none),
             (.p 43 .id [.t 6], none),
             (.p 44 (.bin .and) [.t 43, .c (.pv (.int .u8 127))], none),
             (.p 45 (.conv .u64) [.t 44], none),
             (.p 46 .id [.t 5], none),
             (.p 47 (.bin .mul) [.c (.pv (.int .i64 7)), .t 46], none),
             (.p 48 (.bin .shl) [.t 45, .t 47], none),
             (.p 49 (.bin .or) [.t 42, .t 48], none),
             (.p 4 .id [.t 49], none)]))
          (.seq (.kill [0, 4, 5, 6, 9] [1000] (.region [
              (.p 50 .id [.t 6], none),
              (.p 51 (.bin .lss) [.t 50, .c (.pv (.int .u8 128))], none)]))
           (.cond (.t 51)
            (.seq (.seq (.kill [0, 4, 5, 6] [1000] (.region [
                 (.p 52 .id [.t 6], none),
                 (.p 53 (.bin .eql) [.t 52, .c (.pv (.int .u8 0))], none),
                 (.p 54 .id [.t 53], none),
                 (.p 55 .id [.t 5], some (54, true)),
                 (.p 56 (.bin .gtr) [.t 55, .c (.pv (.int .i64 0))], some (54, true)),
                 (.p 57 .pick [.t 54, .t 56, .c (.pv (.bool false))], none)]))
              (.cond (.t 57)
               (.seq (.kill [0] [1000] (.region [
                   (.p 2 .id [.c (.pv (.int .u64 0))], none),
                   (.p 3 .id [.c (.pv (.int .i64 2))], none)]))
                .ret)
               .skip))
             (.seq (.kill [0, 4, 5] [1000] (.region [
                 (.p 58 .id [.t 0], none),
                 (.p 59 .nilc [.t 58], none),
                 (.p 60 (.fieldAddr 1) [.t 59], none),
                 (.load 61 none (some 1000) (.t 60), none),
                 (.p 62 .id [.t 5], none),
                 (.p 63 (.bin .add) [.t 62, .c (.pv (.int .i64 1))], none),
                 (.p 64 (.bin .add) [.t 61, .t 63], none),
                 (.p 65 .nilc [.t 58], none),
                 (.p 66 (.fieldAddr 1) [.t 65], none),
                 (.store none (some 1000) (.t 66) (.t 64), none)]))
              (.seq (.kill [0, 4] [1000] (.region [
                  (.p 67 .id [.t 4], none),
                  (.p 2 .id [.t 67], none),
                  (.p 3 .id [.c (.pv (.int .i64 0))], none)]))
               .ret)))
            .skip))))))))
    (.kill [0, 4, 9] [1000] (.region [
       (.p 68 (.bin .add) [.t 9, .c (.pv (.int .i64 1))], none),
       (.p 9 .id [.t 68], none)])))))
def irNumsReaderPacked : IR := (.seq (.region [
    (.p 2 .id [.c (.pv (.int .u64 0))], none),
    (.p 3 .id [.c (.pv (.int .i64 0))], none)])
 (.seq (.seq (.kill [0] [1000] (.region [
      (.p 7 .id [.t 0], none),
      (.p 8 (.peq false) [.t 7, .c (.pv .nilp)], none)]))
   (.cond (.t 8)
    (.seq (.kill [0] [1000] (.region [
        (.p 2 .id [.c (.pv (.int .u64 0))], none),
        (.p 3 .id [.c (.pv (.int .i64 16))], none)]))
     .ret)
    .skip))
  (.seq (.kill [0] [1000] (.region [
      (.p 4 .id [.c (.pv (.int .u64 0))], none)]))
   (.seq (.seq (.kill [0, 4] [1000] (.region [
        (.p 9 .id [.c (.pv (.int .i64 0))], none)]))
     (.block 0 (.loop (.kill [0, 4, 9] [1000] irNumsReaderPacked_L1))))
    (.seq (.kill [0] [1000] (.region [
        (.p 2 .id [.c (.pv (.int .u64 0))], none),
        (.p 3 .id [.c (.pv (.int .i64 2))], none)]))
     .ret)))))
theorem okNumsReaderPacked : okFn Try.prog Try.f45 irNumsReaderPacked [.t 2, .t 3] [] 1 = true := by kernel_rfl

-- nums.Reader.Count
-- nums.Reader.Count: args [59, 3]; lent [0]; rs [.t 4, .t 5]; loops: 
def irNumsReaderCount : IR := (.seq (.region [
    (.p 4 .id [.c (.pv (.int .i64 0))], none),
    (.p 5 .id [.c (.pv (.int .i64 0))], none)])
 (.seq (.seq (.kill [0, 1] [1000] (.region [
      (.p 9 .id [.t 0], none),
      (.p 10 (.peq false) [.t 9, .c (.pv .nilp)], none)]))
   (.cond (.t 10)
    (.seq (.kill [0] [1000] (.region [
        (.p 4 .id [.c (.pv (.int .i64 0))], none),
        (.p 5 .id [.c (.pv (.int .i64 16))], none)]))
     .ret)
    .skip))
  (.seq (.kill [0, 1] [1000] (.region [
      (.p 11 .id [.t 0], none),
      (.p 12 .nilc [.t 11], none),
      (.p 13 (.fieldAddr 1) [.t 12], none),
      (.load 14 none (some 1000) (.t 13), none),
      (.p 6 .id [.t 14], none)]))
   (.seq (.kill [0, 1, 6] [1000] (.region [
       (.p 16 .id [.t 0], none),
       (.call 17 45 [.t 16] [1000] [] [], none),
       (.p 15 .id [.t 17], none),
       (.p 18 (.ext 0) [.t 15], none),
       (.p 19 (.ext 1) [.t 15], none),
       (.p 7 .id [.t 18], none),
       (.p 8 .id [.t 19], none)]))
    (.seq (.seq (.kill [0, 1, 6, 7, 8] [1000] (.region [
         (.p 20 .id [.t 8], none),
         (.p 21 (.bin .neq) [.t 20, .c (.pv (.int .i64 0))], none)]))
      (.cond (.t 21)
       (.seq (.kill [0, 8] [1000] (.region [
           (.p 22 .id [.t 8], none),
           (.p 4 .id [.c (.pv (.int .i64 0))], none),
           (.p 5 .id [.t 22], none)]))
        .ret)
       .skip))
     (.seq (.seq (.kill [0, 1, 6, 7] [1000] (.region [
          (.p 23 .id [.t 1], none),
          (.p 24 (.bin .lss) [.t 23, .c (.pv (.int .i64 0))], none),
          (.p 25 .id [.t 24], none),
          (.p 26 .id [.t 7], some (25, false)),
          (.p 27 .id [.t 1], some (25, false)),
          (.p 28 (.conv .u64) [.t 27], some (25, false)),
          (.p 29 (.bin .gtr) [.t 26, .t 28], some (25, false)),
          (.p 30 .pick [.t 25, .c (.pv (.bool true)), .t 29], none)]))
       (.cond (.t 30)
        (.seq (.kill [0, 6] [1000] (.region [
            (.p 31 .id [.t 0], none),
            (.p 32 .id [.t 6], none),
            (.p 33 .nilc [.t 31], none),
            (.p 34 (.fieldAddr 1) [.t 33], none),
            (.store none (some 1000) (.t 34) (.t 32), none)]))
         (.seq (.kill [0] [1000] (.region [
             (.p 4 .id [.c (.pv (.int .i64 0))], none),
             (.p 5 .id [.c (.pv (.int .i64 3))], none)]))
          .ret))
        .skip))
      (.seq (.kill [0, 7] [1000] (.region [
          (.p 35 .id [.t 7], none),
          (.p 36 (.conv .i64) [.t 35], none),
          (.p 4 .id [.t 36], none),
          (.p 5 .id [.c (.pv (.int .i64 0))], none)]))
       .ret)))))))
theorem okNumsReaderCount : okFn Try.prog Try.f43 irNumsReaderCount [.t 4, .t 5] [] 2 = true := by kernel_rfl

-- nums.Reader.Text
-- nums.Reader.Text: args [59, 3]; lent [0]; rs [.t 4, .t 5]; loops: 
def irNumsReaderText : IR := (.seq (.region [
    (.p 4 .id [.c (.os 5 1 [])], none),
    (.p 5 .id [.c (.pv (.int .i64 0))], none)])
 (.seq (.seq (.kill [0, 1] [1000] (.region [
      (.p 9 .id [.t 0], none),
      (.p 10 (.peq false) [.t 9, .c (.pv .nilp)], none)]))
   (.cond (.t 10)
    (.seq (.kill [0] [1000] (.region [
        (.p 4 .id [.c (.os 5 1 [])], none),
        (.p 5 .id [.c (.pv (.int .i64 16))], none)]))
     .ret)
    .skip))
  (.seq (.kill [0, 1] [1000] (.region [
      (.p 11 .id [.t 0], none),
      (.p 12 .nilc [.t 11], none),
      (.p 13 (.fieldAddr 1) [.t 12], none),
      (.load 14 none (some 1000) (.t 13), none),
      (.p 6 .id [.t 14], none)]))
   (.seq (.kill [0, 1, 6] [1000] (.region [
       (.p 16 .id [.t 0], none),
       (.p 17 .id [.t 1], none),
       (.call 18 43 [.t 16, .t 17] [1000] [] [], none),
       (.p 15 .id [.t 18], none),
       (.p 19 (.ext 0) [.t 15], none),
       (.p 20 (.ext 1) [.t 15], none),
       (.p 7 .id [.t 19], none),
       (.p 8 .id [.t 20], none)]))
    (.seq (.seq (.kill [0, 6, 7, 8] [1000] (.region [
         (.p 21 .id [.t 8], none),
         (.p 22 (.bin .neq) [.t 21, .c (.pv (.int .i64 0))], none)]))
      (.cond (.t 22)
       (.seq (.kill [0, 8] [1000] (.region [
           (.p 23 .id [.t 8], none),
           (.p 4 .id [.c (.os 5 1 [])], none),
           (.p 5 .id [.t 23], none)]))
        .ret)
       .skip))
     (.seq (.seq (.kill [0, 6, 7] [1000] (.region [
          (.p 24 .id [.t 7], none),
          (.p 25 .id [.t 0], none),
          (.call 26 44 [.t 25] [1000] [] [], none),
          (.p 27 (.bin .gtr) [.t 24, .t 26], none)]))
       (.cond (.t 27)
        (.seq (.kill [0, 6] [1000] (.region [
            (.p 28 .id [.t 0], none),
            (.p 29 .id [.t 6], none),
            (.p 30 .nilc [.t 28], none),
            (.p 31 (.fieldAddr 1) [.t 30], none),
            (.store none (some 1000) (.t 31) (.t 29), none)]))
         (.seq (.kill [0] [1000] (.region [
             (.p 4 .id [.c (.os 5 1 [])], none),
             (.p 5 .id [.c (.pv (.int .i64 1))], none)]))
          .ret))
        .skip))
      (.seq (.kill [0, 7] [1000] (.region [
          (.p 32 .id [.t 0], none),
          (.p 33 .nilc [.t 32], none),
          (.p 34 (.fieldAddr 1) [.t 33], none),
          (.load 35 none (some 1000) (.t 34), none),
          (.p 36 .id [.t 7], none),
          (.p 37 (.bin .add) [.t 35, .t 36], none),
          (.p 38 .nilc [.t 32], none),
          (.p 39 (.fieldAddr 1) [.t 38], none),
          (.store none (some 1000) (.t 39) (.t 37), none)]))
       (.seq (.kill [0, 7] [1000] (.region [
           (.p 40 .id [.t 0], none),
           (.p 41 .nilc [.t 40], none),
           (.p 42 (.fieldAddr 0) [.t 41], none),
           (.load 43 none (some 1000) (.t 42), none),
           (.p 44 .id [.t 0], none),
           (.p 45 .nilc [.t 44], none),
           (.p 46 (.fieldAddr 1) [.t 45], none),
           (.load 47 none (some 1000) (.t 46), none),
           (.p 48 .id [.t 7], none),
           (.p 49 (.bin .sub) [.t 47, .t 48], none),
           (.p 50 .id [.t 0], none),
           (.p 51 .nilc [.t 50], none),
           (.p 52 (.fieldAddr 1) [.t 51], none),
           (.load 53 none (some 1000) (.t 52), none),
           (.p 54 (.slice none 1 true true) [.t 43, .t 49, .t 53], none),
           (.call 55 34 [.t 54] [] [] [], none),
           (.mv 4 55, none),
           (.p 5 .id [.c (.pv (.int .i64 0))], none)]))
        .ret))))))))
theorem okNumsReaderText : okFn Try.prog Try.f42 irNumsReaderText [.t 4, .t 5] [] 2 = true := by kernel_rfl

-- consistoryref01.Wide
-- consistoryref01.Wide: args [3]; lent []; rs [.t 2]; loops: 
def irRef01Wide : IR := (.seq (.region [
    (.p 2 .id [.c (.pv (.bool false))], none)])
 (.seq (.kill [0] [] (.region [
     (.p 3 .id [.t 0], none),
     (.p 4 (.bin .eql) [.t 3, .c (.pv (.int .i64 1))], none),
     (.p 5 .id [.t 4], none),
     (.p 6 .id [.t 0], some (5, false)),
     (.p 7 (.bin .eql) [.t 6, .c (.pv (.int .i64 2))], some (5, false)),
     (.p 8 .pick [.t 5, .c (.pv (.bool true)), .t 7], none),
     (.p 9 .id [.t 8], none),
     (.p 10 .id [.t 0], some (9, false)),
     (.p 11 (.bin .eql) [.t 10, .c (.pv (.int .i64 4))], some (9, false)),
     (.p 12 .pick [.t 9, .c (.pv (.bool true)), .t 11], none),
     (.p 13 .id [.t 12], none),
     (.p 14 .id [.t 0], some (13, false)),
     (.p 15 (.bin .eql) [.t 14, .c (.pv (.int .i64 8))], some (13, false)),
     (.p 16 .pick [.t 13, .c (.pv (.bool true)), .t 15], none),
     (.p 2 .id [.t 16], none)]))
  .ret))
theorem okRef01Wide : okFn Try.prog Try.f32 irRef01Wide [.t 2] [] 1 = true := by kernel_rfl

-- consistoryref01.Fixed
-- consistoryref01.Fixed: args [47, 3]; lent []; rs [.t 4]; loops: L2 keeps [0, 1, 5, 6, 7, 8] []; L1 keeps [0, 1, 5, 6] []
def irRef01Fixed_L2 : IR := (.seq (.seq (.kill [0, 1, 5, 6, 7, 8] [] (.region [
      (.p 20 .id [.t 8], none),
      (.p 21 .id [.t 1], none),
      (.p 22 (.bin .sub) [.t 21, .c (.pv (.int .i64 1))], none),
      (.p 23 (.bin .lss) [.t 20, .t 22], none)]))
   (.cond (.t 23)
    .skip
    (.exit 2)))
  (.seq (.block 3 (.kill [0, 1, 5, 6, 7, 8] [] (.region [
       (.p 26 .id [.t 7], none),
       (.p 27 (.bin .quo) [.t 26, .c (.pv (.int .u64 256))], none),
       (.p 7 .id [.t 27], none)])))
   (.kill [0, 1, 5, 6, 7, 8] [] (.region [
      (.p 24 .id [.t 8], none),
      (.p 25 (.bin .add) [.t 24, .c (.pv (.int .i64 1))], none),
      (.p 8 .id [.t 25], none)]))))
def irRef01Fixed_L1 : IR := (.seq (.seq (.kill [0, 1, 5, 6] [] (.region [
      (.p 13 .id [.t 6], none),
      (.p 14 .id [.t 1], none),
      (.p 15 (.bin .lss) [.t 13, .t 14], none)]))
   (.cond (.t 15)
    .skip
    (.exit 0)))
  (.seq (.block 1 (.seq (.kill [0, 1, 5, 6] [] (.region [
        (.p 18 .id [.t 0], none),
        (.p 7 .id [.t 18], none)]))
     (.seq (.seq (.kill [0, 1, 5, 6, 7] [] (.region [
          (.p 19 .id [.t 6], none),
          (.p 8 .id [.t 19], none)]))
       (.block 2 (.loop (.kill [0, 1, 5, 6, 7, 8] [] irRef01Fixed_L2))))
      (.kill [0, 1, 5, 6, 7] [] (.region [
         (.mv 28 5, none),
         (.p 29 .id [.t 7], none),
         (.p 30 (.bin .rem) [.t 29, .c (.pv (.int .u64 256))], none),
         (.p 31 (.conv .u8) [.t 30], none),
         (.bslice 32 5 1 1 [.int .u8 0] [(0, .t 31)], none),
         (.app 33 5 1 28 none (.t 32), none),
         (.mv 5 33, none)])))))
   (.kill [0, 1, 5, 6] [] (.region [
      (.p 16 .id [.t 6], none),
      (.p 17 (.bin .add) [.t 16, .c (.pv (.int .i64 1))], none),
      (.p 6 .id [.t 17], none)]))))
def irRef01Fixed : IR := (.seq (.region [
    (.p 4 .id [.c (.os 5 1 [])], none)])
 (.seq (.kill [0, 1] [] (.region [
     (.p 5 .id [.c (.os 5 1 [])], none)]))
  (.seq (.seq (.kill [0, 1, 5] [] (.region [
       (.p 9 .id [.t 1], none),
       (.call 10 32 [.t 9] [] [] [], none),
       (.p 11 (.un .not) [.t 10], none)]))
    (.cond (.t 11)
     (.seq (.kill [5] [] (.region [
         (.mv 12 5, none),
         (.mv 4 12, none)]))
      .ret)
     .skip))
   (.seq (.seq (.kill [0, 1, 5] [] (.region [
        (.p 6 .id [.c (.pv (.int .i64 0))], none)]))
     (.block 0 (.loop (.kill [0, 1, 5, 6] [] irRef01Fixed_L1))))
    (.seq (.kill [5] [] (.region [
        (.mv 34 5, none),
        (.mv 4 34, none)]))
     .ret)))))
theorem okRef01Fixed : okFn Try.prog Try.f18 irRef01Fixed [.t 4] [] 2 = true := by kernel_rfl

-- consistoryref01.Packed
-- consistoryref01.Packed: args [47]; lent []; rs [.t 2]; loops: L1 keeps [0, 3] []
def irRef01Packed_L1 : IR := (.seq (.seq (.kill [0, 3] [] (.region [
      (.p 4 .id [.t 0], none),
      (.p 5 (.bin .gtr) [.t 4, .c (.pv (.int .u64 127))], none)]))
   (.cond (.t 5)
    .skip
    (.exit 0)))
  (.block 1 (.seq (.kill [0, 3] [] (.region [
       (.mv 6 3, none),
       (.p 7 .id [.t 0], none),
       (.p 8 (.bin .rem) [.t 7, .c (.pv (.int .u64 128))], none),
       (.p 9 (.bin .add) [.t 8, .c (.pv (.int .u64 128))], none),
       (.p 10 (.conv .u8) [.t 9], none),
       (.bslice 11 5 1 1 [.int .u8 0] [(0, .t 10)], none),
       (.app 12 5 1 6 none (.t 11), none),
       (.mv 3 12, none)]))
    (.kill [0, 3] [] (.region [
       (.p 13 .id [.t 0], none),
       (.p 14 (.bin .quo) [.t 13, .c (.pv (.int .u64 128))], none),
       (.p 0 .id [.t 14], none)])))))
def irRef01Packed : IR := (.seq (.region [
    (.p 2 .id [.c (.os 5 1 [])], none)])
 (.seq (.kill [0] [] (.region [
     (.p 3 .id [.c (.os 5 1 [])], none)]))
  (.seq (.block 0 (.loop (.kill [0, 3] [] irRef01Packed_L1)))
   (.seq (.kill [0, 3] [] (.region [
       (.mv 15 3, none),
       (.p 16 .id [.t 0], none),
       (.p 17 (.conv .u8) [.t 16], none),
       (.bslice 18 5 1 1 [.int .u8 0] [(0, .t 17)], none),
       (.app 19 5 1 15 none (.t 18), none),
       (.mv 3 19, none)]))
    (.seq (.kill [3] [] (.region [
        (.mv 20 3, none),
        (.mv 2 20, none)]))
     .ret)))))
theorem okRef01Packed : okFn Try.prog Try.f21 irRef01Packed [.t 2] [] 1 = true := by kernel_rfl

-- consistoryref01.Text
-- consistoryref01.Text: args [24]; lent []; rs [.t 2]; loops: 
def irRef01Text : IR := (.seq (.region [
    (.p 2 .id [.c (.os 5 1 [])], none)])
 (.seq (.kill [0] [] (.region [
     (.p 4 .id [.t 0], none),
     (.p 5 (.len none) [.t 4], none),
     (.p 6 (.conv .u64) [.t 5], none),
     (.call 7 21 [.t 6] [] [] [], none),
     (.mv 3 7, none)]))
  (.seq (.kill [0, 3] [] (.region [
      (.mv 8 3, none),
      (.mv 9 0, none),
      (.app 10 5 1 8 none (.t 9), none),
      (.mv 3 10, none)]))
   (.seq (.kill [3] [] (.region [
       (.mv 11 3, none),
       (.mv 2 11, none)]))
    .ret))))
theorem okRef01Text : okFn Try.prog Try.f20 irRef01Text [.t 2] [] 1 = true := by kernel_rfl

-- consistoryref01.Same
-- consistoryref01.Same: args [24, 24]; lent []; rs [.t 4]; loops: L1 keeps [0, 1, 5] []
def irRef01Same_L1 : IR := (.seq (.seq (.kill [0, 1, 5] [] (.region [
      (.p 11 .id [.t 5], none),
      (.p 12 .id [.t 0], none),
      (.p 13 (.len none) [.t 12], none),
      (.p 14 (.bin .lss) [.t 11, .t 13], none)]))
   (.cond (.t 14)
    .skip
    (.exit 0)))
  (.seq (.block 1 (.seq (.kill [0, 1, 5] [] (.region [
        (.p 17 .id [.t 0], none),
        (.p 18 .id [.t 5], none),
        (.p 19 (.indexAddr none 1) [.t 17, .t 18], none),
        (.load 20 none (some 9999) (.t 19), none),
        (.p 21 .id [.t 1], none),
        (.p 22 .id [.t 5], none),
        (.p 23 (.indexAddr none 1) [.t 21, .t 22], none),
        (.load 24 none (some 9999) (.t 23), none),
        (.p 25 (.bin .neq) [.t 20, .t 24], none)]))
     (.cond (.t 25)
      (.seq (.kill [] [] (.region [
          (.p 4 .id [.c (.pv (.bool false))], none)]))
       .ret)
      .skip)))
   (.kill [0, 1, 5] [] (.region [
      (.p 15 .id [.t 5], none),
      (.p 16 (.bin .add) [.t 15, .c (.pv (.int .i64 1))], none),
      (.p 5 .id [.t 16], none)]))))
def irRef01Same : IR := (.seq (.region [
    (.p 4 .id [.c (.pv (.bool false))], none)])
 (.seq (.seq (.kill [0, 1] [] (.region [
      (.p 6 .id [.t 0], none),
      (.p 7 (.len none) [.t 6], none),
      (.p 8 .id [.t 1], none),
      (.p 9 (.len none) [.t 8], none),
      (.p 10 (.bin .neq) [.t 7, .t 9], none)]))
   (.cond (.t 10)
    (.seq (.kill [] [] (.region [
        (.p 4 .id [.c (.pv (.bool false))], none)]))
     .ret)
    .skip))
  (.seq (.seq (.kill [0, 1] [] (.region [
       (.p 5 .id [.c (.pv (.int .i64 0))], none)]))
    (.block 0 (.loop (.kill [0, 1, 5] [] irRef01Same_L1))))
   (.seq (.kill [] [] (.region [
       (.p 4 .id [.c (.pv (.bool true))], none)]))
    .ret))))
theorem okRef01Same : okFn Try.prog Try.f13 irRef01Same [.t 4] [] 2 = true := by kernel_rfl

-- consistoryref02.Bytes
-- consistoryref02.Bytes: args [23]; lent []; rs [.t 2]; loops: L1 keeps [1, 3, 4] [1]
def irRef02Bytes_L1 : IR := (.seq (.seq (.kill [1, 3, 4] [1] (.region [
      (.p 5 .id [.t 4], none),
      (.p 6 (.bin .lss) [.t 5, .c (.pv (.int .i64 32))], none)]))
   (.cond (.t 6)
    .skip
    (.exit 0)))
  (.seq (.block 1 (.kill [1, 3, 4] [1] (.region [
       (.mv 9 3, none),
       (.p 10 .id [.t 4], none),
       (.p 11 (.indexAddr (some 32) 1) [.t 1, .t 10], none),
       (.load 12 none (some 1) (.t 11), none),
       (.bslice 13 5 1 1 [.int .u8 0] [(0, .t 12)], none),
       (.app 14 5 1 9 none (.t 13), none),
       (.mv 3 14, none)])))
   (.kill [1, 3, 4] [1] (.region [
      (.p 7 .id [.t 4], none),
      (.p 8 (.bin .add) [.t 7, .c (.pv (.int .i64 1))], none),
      (.p 4 .id [.t 8], none)]))))
def irRef02Bytes : IR := (.seq (.region [
    (.box 1 (.t 0), none),
    (.p 2 .id [.c (.os 5 1 [])], none)])
 (.seq (.kill [1] [1] (.region [
     (.p 3 .id [.c (.os 5 1 [])], none)]))
  (.seq (.seq (.kill [1, 3] [1] (.region [
       (.p 4 .id [.c (.pv (.int .i64 0))], none)]))
    (.block 0 (.loop (.kill [1, 3, 4] [1] irRef02Bytes_L1))))
   (.seq (.kill [3] [] (.region [
       (.mv 15 3, none),
       (.mv 2 15, none)]))
    .ret))))
theorem okRef02Bytes : okFn Try.prog Try.f19 irRef02Bytes [.t 2] [] 1 = true := by kernel_rfl

end Go.Proofs.Ytekpgcohlpkmnaa
