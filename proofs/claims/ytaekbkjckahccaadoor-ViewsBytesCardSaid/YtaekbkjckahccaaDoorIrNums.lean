/- The abstract code of functions, printed by gen_ir.py out of the program's form in Lean; each is checked against it. -/
import Derived.Test.YtaekbkjckahccaaDoorProg
import Derived.Test.YtaekbkjckahccaaDoorLibClone
set_option linter.unusedVariables false
set_option linter.unusedSimpArgs false
set_option maxRecDepth 100000
namespace Go.Proofs.YtaekbkjckahccaaDoor
open Go.Abs
-- nums.wide
-- nums.wide: args [3]; lent []; rs [.t 2]; loops: 
def irNumsWide : IR := (.seq (.region [
    (.p 2 .id [.c (.pv (.bool false))], none)])
 (.seq (.kill [0] [] (.region [
     (.p 3 .id [.t 0], none),
     (.p 4 (.bin .eql) [.t 3, .c (.pv (.int .i64 1))], none),
     (.p 5 .id [.t 4], none),
     (.p 6 .id [.t 0], some (5, false)),
     (.p 7 (.bin .eql) [.t 6, .c (.pv (.int .i64 2))], some (5, false)),
     (.p 8 .pick [.t 5, .c (.pv (.bool true)), .t 7], none),
     (.p 9 .id [.t 8], none),
     (.p 10 .id [.t 0], some (9, false)),
     (.p 11 (.bin .eql) [.t 10, .c (.pv (.int .i64 4))], some (9, false)),
     (.p 12 .pick [.t 9, .c (.pv (.bool true)), .t 11], none),
     (.p 13 .id [.t 12], none),
     (.p 14 .id [.t 0], some (13, false)),
     (.p 15 (.bin .eql) [.t 14, .c (.pv (.int .i64 8))], some (13, false)),
     (.p 16 .pick [.t 13, .c (.pv (.bool true)), .t 15], none),
     (.p 2 .id [.t 16], none)]))
  .ret))
theorem okNumsWide : okFn Tryd.prog Tryd.f47 irNumsWide [.t 2] [] 1 = true := by kernel_rfl

-- nums.PutFixed
-- nums.PutFixed: args [43, 50, 3]; lent []; rs [.t 6]; loops: L1 keeps [1, 2, 7, 15, 16] []
def irNumsPutFixed_L1 : IR := (.seq (.kill [1, 2, 7, 15, 16] [] (.region [
     (.p 17 (.bin .lss) [.t 16, .t 15], none)]))
  (.seq (.cond (.t 17)
    .skip
    (.exit 0))
   (.seq (.block 1 (.seq (.kill [1, 2, 7, 15, 16] [] (.region [
         (.p 18 .id [.t 16], none),
         (.p 8 .id [.t 18], none)]))
      (.kill [1, 2, 7, 8, 15, 16] [] (.region [
         (.mv 19 7, none),
         (.p 20 .id [.t 1], none),
         (.p 21 .id [.t 2], none),
         (.p 22 (.bin .sub) [.t 21, .c (.pv (.int .i64 1))], none),
         (.p 23 .id [.t 8], none),
         (.p 24 (.bin .sub) [.t 22, .t 23], none),
         (.p 25 (.bin .mul) [.c (.pv (.int .i64 8)), .t 24], none),
         (.p 26 (.bin .shr) [.t 20, .t 25], none),
         (.p 27 (.conv .u8) [.t 26], none),
         (.bslice 28 5 1 1 [.int .u8 0] [(0, .t 27)], none),
         (.app 29 5 1 19 none (.t 28), none),
         (.mv 7 29, none)]))))
    (.kill [1, 2, 7, 15, 16] [] (.region [
       (.p 30 (.bin .add) [.t 16, .c (.pv (.int .i64 1))], none),
       (.p 16 .id [.t 30], none)])))))
def irNumsPutFixed : IR := (.seq (.region [
    (.p 6 .id [.c (.os 5 1 [])], none)])
 (.seq (.kill [0, 1, 2] [] (.region [
     (.mv 9 0, none),
     (.call 10 46 [.t 9] [] [] [], none),
     (.mv 7 10, none)]))
  (.seq (.seq (.kill [1, 2, 7] [] (.region [
       (.p 11 .id [.t 2], none),
       (.call 12 47 [.t 11] [] [] [], none),
       (.p 13 (.un .not) [.t 12], none)]))
    (.cond (.t 13)
     (.seq (.kill [7] [] (.region [
         (.mv 14 7, none),
         (.mv 6 14, none)]))
      .ret)
     .skip))
   (.seq (.seq (.kill [1, 2, 7] [] (.region [
        (.p 15 .id [.t 2], none),
        (.p 16 .id [.c (.pv (.int .i64 0))], none)]))
     (.block 0 (.loop (.kill [1, 2, 7, 15, 16] [] irNumsPutFixed_L1))))
    (.seq (.kill [7] [] (.region [
        (.mv 31 7, none),
        (.mv 6 31, none)]))
     .ret)))))
theorem okNumsPutFixed : okFn Tryd.prog Tryd.f38 irNumsPutFixed [.t 6] [] 3 = true := by kernel_rfl

-- nums.New
-- nums.New: args [43]; lent []; rs [.t 2]; loops: 
def irNumsNew : IR := (.seq (.region [
    (.p 2 .id [.c (.pv .nilp)], none)])
 (.seq (.kill [0] [] (.region [
     (.mv 3 0, none),
     (.call 4 46 [.t 3] [] [] [], none),
     (.build 5 (.pagg [.sl 1 [], .int .i64 0]) [(0, 1, .t 4)], none),
     (.box 6 (.t 5), none),
     (.p 2 .id [.t 6], none)]))
  .ret))
theorem okNumsNew : okFn Tryd.prog Tryd.f39 irNumsNew [.t 2] [6] 1 = true := by kernel_rfl

-- nums.Reader.Left
-- nums.Reader.Left: args [51]; lent [0]; rs [.t 2]; loops: 
def irNumsReaderLeft : IR := (.seq (.region [
    (.p 2 .id [.c (.pv (.int .i64 0))], none)])
 (.seq (.seq (.kill [0] [1000] (.region [
      (.p 3 .id [.t 0], none),
      (.p 4 (.peq false) [.t 3, .c (.pv .nilp)], none)]))
   (.cond (.t 4)
    (.seq (.kill [0] [1000] (.region [
        (.p 2 .id [.c (.pv (.int .i64 0))], none)]))
     .ret)
    .skip))
  (.seq (.kill [0] [1000] (.region [
      (.p 5 .id [.t 0], none),
      (.p 6 .nilc [.t 5], none),
      (.p 7 (.fieldAddr 0) [.t 6], none),
      (.load 8 none (some 1000) (.t 7), none),
      (.p 9 (.len none) [.t 8], none),
      (.p 10 .id [.t 0], none),
      (.p 11 .nilc [.t 10], none),
      (.p 12 (.fieldAddr 1) [.t 11], none),
      (.load 13 none (some 1000) (.t 12), none),
      (.p 14 (.bin .sub) [.t 9, .t 13], none),
      (.p 2 .id [.t 14], none)]))
   .ret)))
theorem okNumsReaderLeft : okFn Tryd.prog Tryd.f48 irNumsReaderLeft [.t 2] [] 1 = true := by kernel_rfl

-- nums.Reader.Done
-- nums.Reader.Done: args [51]; lent [0]; rs [.t 2]; loops: 
def irNumsReaderDone : IR := (.seq (.region [
    (.p 2 .id [.c (.pv (.int .i64 0))], none)])
 (.seq (.block 0 (.seq (.kill [0] [1000] (.region [
       (.p 4 .id [.t 0], none),
       (.p 5 (.peq false) [.t 4, .c (.pv .nilp)], none),
       (.p 3 .id [.t 5], none)]))
    (.cond (.t 3)
     (.seq (.kill [0] [1000] (.region [
         (.p 2 .id [.c (.pv (.int .i64 16))], none)]))
      .ret)
     (.seq (.kill [0] [1000] (.region [
         (.p 7 .id [.t 0], none),
         (.call 8 48 [.t 7] [1000] [] [], none),
         (.p 9 (.bin .gtr) [.t 8, .c (.pv (.int .i64 0))], none),
         (.p 6 .id [.t 9], none)]))
      (.cond (.t 6)
       (.seq (.kill [0] [1000] (.region [
           (.p 2 .id [.c (.pv (.int .i64 2))], none)]))
        .ret)
       .skip)))))
  (.seq (.kill [0] [1000] (.region [
      (.p 2 .id [.c (.pv (.int .i64 0))], none)]))
   .ret)))
theorem okNumsReaderDone : okFn Tryd.prog Tryd.f41 irNumsReaderDone [.t 2] [] 1 = true := by kernel_rfl

-- nums.Reader.Fixed
-- nums.Reader.Fixed: args [51, 3]; lent [0]; rs [.t 4, .t 5]; loops: L1 keeps [0, 6, 19, 20] [1000]
def irNumsReaderFixed_L1 : IR := (.seq (.kill [0, 6, 19, 20] [1000] (.region [
     (.p 21 (.bin .lss) [.t 20, .t 19], none)]))
  (.seq (.cond (.t 21)
    .skip
    (.exit 1))
   (.seq (.block 2 (.seq (.kill [0, 6, 19, 20] [1000] (.region [
         (.p 22 .id [.t 6], none),
         (.p 23 (.bin .shl) [.t 22, .c (.pv (.int .u64 8))], none),
         (.p 24 .id [.t 0], none),
         (.p 25 .nilc [.t 24], none),
         (.p 26 (.fieldAddr 0) [.t 25], none),
         (.load 27 none (some 1000) (.t 26), none),
         (.p 28 .id [.t 0], none),
         (.p 29 .nilc [.t 28], none),
         (.p 30 (.fieldAddr 1) [.t 29], none),
         (.load 31 none (some 1000) (.t 30), none),
         (.p 32 (.indexAddr none 1) [.t 27, .t 31], none),
         (.load 33 none (some 9999) (.t 32), none),
         (.p 34 (.conv .u64) [.t 33], none),
         (.p 35 (.bin .or) [.t 23, .t 34], none),
         (.p 6 .id [.t 35], none)]))
      (.kill [0, 6, 19, 20] [1000] (.region [
         (.p 36 .id [.t 0], none),
         (.p 37 .nilc [.t 36], none),
         (.p 38 (.fieldAddr 1) [.t 37], none),
         (.load 39 none (some 1000) (.t 38), none),
         (.p 40 (.bin .add) [.t 39, .c (.pv (.int .i64 1))], none),
         (.p 41 .nilc [.t 36], none),
         (.p 42 (.fieldAddr 1) [.t 41], none),
         (.store none (some 1000) (.t 42) (.t 40), none)]))))
    (.kill [0, 6, 19, 20] [1000] (.region [
       (.p 43 (.bin .add) [.t 20, .c (.pv (.int .i64 1))], none),
       (.p 20 .id [.t 43], none)])))))
def irNumsReaderFixed : IR := (.seq (.region [
    (.p 4 .id [.c (.pv (.int .u64 0))], none),
    (.p 5 .id [.c (.pv (.int .i64 0))], none)])
 (.seq (.block 0 (.seq (.kill [0, 1] [1000] (.region [
       (.p 8 .id [.t 0], none),
       (.p 9 (.peq false) [.t 8, .c (.pv .nilp)], none),
       (.p 7 .id [.t 9], none)]))
    (.cond (.t 7)
     (.seq (.kill [0] [1000] (.region [
         (.p 4 .id [.c (.pv (.int .u64 0))], none),
         (.p 5 .id [.c (.pv (.int .i64 16))], none)]))
      .ret)
     (.seq (.kill [0, 1] [1000] (.region [
         (.p 11 .id [.t 1], none),
         (.call 12 47 [.t 11] [] [] [], none),
         (.p 13 (.un .not) [.t 12], none),
         (.p 10 .id [.t 13], none)]))
      (.cond (.t 10)
       (.seq (.kill [0] [1000] (.region [
           (.p 4 .id [.c (.pv (.int .u64 0))], none),
           (.p 5 .id [.c (.pv (.int .i64 15))], none)]))
        .ret)
       (.seq (.kill [0, 1] [1000] (.region [
           (.p 15 .id [.t 0], none),
           (.call 16 48 [.t 15] [1000] [] [], none),
           (.p 17 .id [.t 1], none),
           (.p 18 (.bin .lss) [.t 16, .t 17], none),
           (.p 14 .id [.t 18], none)]))
        (.cond (.t 14)
         (.seq (.kill [0] [1000] (.region [
             (.p 4 .id [.c (.pv (.int .u64 0))], none),
             (.p 5 .id [.c (.pv (.int .i64 1))], none)]))
          .ret)
         .skip)))))))
  (.seq (.kill [0, 1] [1000] (.region [
      (.p 6 .id [.c (.pv (.int .u64 0))], none)]))
   (.seq (.seq (.kill [0, 1, 6] [1000] (.region [
        (.p 19 .id [.t 1], none),
        (.p 20 .id [.c (.pv (.int .i64 0))], none)]))
     (.block 1 (.loop (.kill [0, 6, 19, 20] [1000] irNumsReaderFixed_L1))))
    (.seq (.kill [0, 6] [1000] (.region [
        (.p 44 .id [.t 6], none),
        (.p 4 .id [.t 44], none),
        (.p 5 .id [.c (.pv (.int .i64 0))], none)]))
     .ret)))))
theorem okNumsReaderFixed : okFn Tryd.prog Tryd.f40 irNumsReaderFixed [.t 4, .t 5] [] 2 = true := by kernel_rfl

-- consistoryref01.Wide
-- consistoryref01.Wide: args [3]; lent []; rs [.t 2]; loops: 
def irRef01Wide : IR := (.seq (.region [
    (.p 2 .id [.c (.pv (.bool false))], none)])
 (.seq (.kill [0] [] (.region [
     (.p 3 .id [.t 0], none),
     (.p 4 (.bin .eql) [.t 3, .c (.pv (.int .i64 1))], none),
     (.p 5 .id [.t 4], none),
     (.p 6 .id [.t 0], some (5, false)),
     (.p 7 (.bin .eql) [.t 6, .c (.pv (.int .i64 2))], some (5, false)),
     (.p 8 .pick [.t 5, .c (.pv (.bool true)), .t 7], none),
     (.p 9 .id [.t 8], none),
     (.p 10 .id [.t 0], some (9, false)),
     (.p 11 (.bin .eql) [.t 10, .c (.pv (.int .i64 4))], some (9, false)),
     (.p 12 .pick [.t 9, .c (.pv (.bool true)), .t 11], none),
     (.p 13 .id [.t 12], none),
     (.p 14 .id [.t 0], some (13, false)),
     (.p 15 (.bin .eql) [.t 14, .c (.pv (.int .i64 8))], some (13, false)),
     (.p 16 .pick [.t 13, .c (.pv (.bool true)), .t 15], none),
     (.p 2 .id [.t 16], none)]))
  .ret))
theorem okRef01Wide : okFn Tryd.prog Tryd.f49 irRef01Wide [.t 2] [] 1 = true := by kernel_rfl

-- consistoryref01.Fixed
-- consistoryref01.Fixed: args [50, 3]; lent []; rs [.t 4]; loops: L2 keeps [0, 1, 5, 6, 7, 8] []; L1 keeps [0, 1, 5, 6] []
def irRef01Fixed_L2 : IR := (.seq (.seq (.kill [0, 1, 5, 6, 7, 8] [] (.region [
      (.p 20 .id [.t 8], none),
      (.p 21 .id [.t 1], none),
      (.p 22 (.bin .sub) [.t 21, .c (.pv (.int .i64 1))], none),
      (.p 23 (.bin .lss) [.t 20, .t 22], none)]))
   (.cond (.t 23)
    .skip
    (.exit 2)))
  (.seq (.block 3 (.kill [0, 1, 5, 6, 7, 8] [] (.region [
       (.p 26 .id [.t 7], none),
       (.p 27 (.bin .quo) [.t 26, .c (.pv (.int .u64 256))], none),
       (.p 7 .id [.t 27], none)])))
   (.kill [0, 1, 5, 6, 7, 8] [] (.region [
      (.p 24 .id [.t 8], none),
      (.p 25 (.bin .add) [.t 24, .c (.pv (.int .i64 1))], none),
      (.p 8 .id [.t 25], none)]))))
def irRef01Fixed_L1 : IR := (.seq (.seq (.kill [0, 1, 5, 6] [] (.region [
      (.p 13 .id [.t 6], none),
      (.p 14 .id [.t 1], none),
      (.p 15 (.bin .lss) [.t 13, .t 14], none)]))
   (.cond (.t 15)
    .skip
    (.exit 0)))
  (.seq (.block 1 (.seq (.kill [0, 1, 5, 6] [] (.region [
        (.p 18 .id [.t 0], none),
        (.p 7 .id [.t 18], none)]))
     (.seq (.seq (.kill [0, 1, 5, 6, 7] [] (.region [
          (.p 19 .id [.t 6], none),
          (.p 8 .id [.t 19], none)]))
       (.block 2 (.loop (.kill [0, 1, 5, 6, 7, 8] [] irRef01Fixed_L2))))
      (.kill [0, 1, 5, 6, 7] [] (.region [
         (.mv 28 5, none),
         (.p 29 .id [.t 7], none),
         (.p 30 (.bin .rem) [.t 29, .c (.pv (.int .u64 256))], none),
         (.p 31 (.conv .u8) [.t 30], none),
         (.bslice 32 5 1 1 [.int .u8 0] [(0, .t 31)], none),
         (.app 33 5 1 28 none (.t 32), none),
         (.mv 5 33, none)])))))
   (.kill [0, 1, 5, 6] [] (.region [
      (.p 16 .id [.t 6], none),
      (.p 17 (.bin .add) [.t 16, .c (.pv (.int .i64 1))], none),
      (.p 6 .id [.t 17], none)]))))
def irRef01Fixed : IR := (.seq (.region [
    (.p 4 .id [.c (.os 5 1 [])], none)])
 (.seq (.kill [0, 1] [] (.region [
     (.p 5 .id [.c (.os 5 1 [])], none)]))
  (.seq (.seq (.kill [0, 1, 5] [] (.region [
       (.p 9 .id [.t 1], none),
       (.call 10 49 [.t 9] [] [] [], none),
       (.p 11 (.un .not) [.t 10], none)]))
    (.cond (.t 11)
     (.seq (.kill [5] [] (.region [
         (.mv 12 5, none),
         (.mv 4 12, none)]))
      .ret)
     .skip))
   (.seq (.seq (.kill [0, 1, 5] [] (.region [
        (.p 6 .id [.c (.pv (.int .i64 0))], none)]))
     (.block 0 (.loop (.kill [0, 1, 5, 6] [] irRef01Fixed_L1))))
    (.seq (.kill [5] [] (.region [
        (.mv 34 5, none),
        (.mv 4 34, none)]))
     .ret)))))
theorem okRef01Fixed : okFn Tryd.prog Tryd.f44 irRef01Fixed [.t 4] [] 2 = true := by kernel_rfl

-- consistoryref01.ReadFixed
-- consistoryref01.ReadFixed: args [43, 3, 3]; lent []; rs [.cell 6 (some (4, true))]; loops: L1 keeps [0, 1, 2, 6, 7, 8] [6]
def irRef01ReadFixed_L1 : IR := (.seq (.seq (.kill [0, 1, 2, 6, 7, 8] [6] (.region [
      (.p 20 .id [.t 8], none),
      (.p 21 .id [.t 2], none),
      (.p 22 (.bin .lss) [.t 20, .t 21], none)]))
   (.cond (.t 22)
    .skip
    (.exit 0)))
  (.seq (.block 1 (.kill [0, 1, 2, 6, 7, 8] [6] (.region [
       (.p 25 .id [.t 7], none),
       (.p 26 (.bin .mul) [.c (.pv (.int .u64 256)), .t 25], none),
       (.p 27 .id [.t 0], none),
       (.p 28 .id [.t 1], none),
       (.p 29 .id [.t 8], none),
       (.p 30 (.bin .add) [.t 28, .t 29], none),
       (.p 31 (.indexAddr none 1) [.t 27, .t 30], none),
       (.load 32 none (some 9999) (.t 31), none),
       (.p 33 (.conv .u64) [.t 32], none),
       (.p 34 (.bin .add) [.t 26, .t 33], none),
       (.p 7 .id [.t 34], none)])))
   (.kill [0, 1, 2, 6, 7, 8] [6] (.region [
      (.p 23 .id [.t 8], none),
      (.p 24 (.bin .add) [.t 23, .c (.pv (.int .i64 1))], none),
      (.p 8 .id [.t 24], none)]))))
def irRef01ReadFixed : IR := (.seq (.region [
    (.alloc 6 (.agg [.pv (.int .u64 0), .os 5 1 [], .pv (.int .i64 0), .pv (.int .i64 0)]), none)])
 (.seq (.seq (.kill [0, 1, 2, 6] [6] (.region [
      (.p 9 .id [.t 2], none),
      (.call 10 49 [.t 9] [] [] [], none),
      (.p 11 (.un .not) [.t 10], none)]))
   (.cond (.t 11)
    (.seq (.kill [6] [6] (.region [
        (.build 12 (.pagg [.int .u64 0, .sl 1 [], .int .i64 0, .int .i64 0]) [(3, 1, .c (.pv (.int .i64 15)))], none),
        (.store (some (4, true)) (some 6) (.t 6) (.t 12), none)]))
     .ret)
    .skip))
  (.seq (.seq (.kill [0, 1, 2, 6] [6] (.region [
       (.p 13 .id [.t 0], none),
       (.p 14 (.len none) [.t 13], none),
       (.p 15 .id [.t 1], none),
       (.p 16 (.bin .sub) [.t 14, .t 15], none),
       (.p 17 .id [.t 2], none),
       (.p 18 (.bin .lss) [.t 16, .t 17], none)]))
    (.cond (.t 18)
     (.seq (.kill [6] [6] (.region [
         (.build 19 (.pagg [.int .u64 0, .sl 1 [], .int .i64 0, .int .i64 0]) [(3, 1, .c (.pv (.int .i64 1)))], none),
         (.store (some (4, true)) (some 6) (.t 6) (.t 19), none)]))
      .ret)
     .skip))
   (.seq (.kill [0, 1, 2, 6] [6] (.region [
       (.p 7 .id [.c (.pv (.int .u64 0))], none)]))
    (.seq (.seq (.kill [0, 1, 2, 6, 7] [6] (.region [
         (.p 8 .id [.c (.pv (.int .i64 0))], none)]))
      (.block 0 (.loop (.kill [0, 1, 2, 6, 7, 8] [6] irRef01ReadFixed_L1))))
     (.seq (.kill [2, 6, 7] [6] (.region [
         (.p 35 .id [.t 7], none),
         (.p 36 .id [.t 2], none),
         (.build 37 (.pagg [.int .u64 0, .sl 1 [], .int .i64 0, .int .i64 0]) [(0, 1, .t 35), (2, 1, .t 36)], none),
         (.store (some (4, true)) (some 6) (.t 6) (.t 37), none)]))
      .ret))))))
theorem okRef01ReadFixed : okFn Tryd.prog Tryd.f42 irRef01ReadFixed [.cell 6 (some (4, true))] [] 3 = true := by kernel_rfl

-- consistoryref01.Join
-- consistoryref01.Join: args [43, 43]; lent []; rs [.t 4]; loops: 
def irRef01Join : IR := (.seq (.region [
    (.p 4 .id [.c (.os 5 1 [])], none)])
 (.seq (.kill [0, 1] [] (.region [
     (.p 5 .id [.c (.os 5 1 [])], none)]))
  (.seq (.kill [0, 1, 5] [] (.region [
      (.mv 6 5, none),
      (.mv 7 0, none),
      (.app 8 5 1 6 none (.t 7), none),
      (.mv 5 8, none)]))
   (.seq (.kill [1, 5] [] (.region [
       (.mv 9 5, none),
       (.mv 10 1, none),
       (.app 11 5 1 9 none (.t 10), none),
       (.mv 5 11, none)]))
    (.seq (.kill [5] [] (.region [
        (.mv 12 5, none),
        (.mv 4 12, none)]))
     .ret)))))
theorem okRef01Join : okFn Tryd.prog Tryd.f43 irRef01Join [.t 4] [] 2 = true := by kernel_rfl

-- consistoryref01.Same
-- consistoryref01.Same: args [43, 43]; lent []; rs [.t 4]; loops: L1 keeps [0, 1, 5] []
def irRef01Same_L1 : IR := (.seq (.seq (.kill [0, 1, 5] [] (.region [
      (.p 11 .id [.t 5], none),
      (.p 12 .id [.t 0], none),
      (.p 13 (.len none) [.t 12], none),
      (.p 14 (.bin .lss) [.t 11, .t 13], none)]))
   (.cond (.t 14)
    .skip
    (.exit 0)))
  (.seq (.block 1 (.seq (.kill [0, 1, 5] [] (.region [
        (.p 17 .id [.t 0], none),
        (.p 18 .id [.t 5], none),
        (.p 19 (.indexAddr none 1) [.t 17, .t 18], none),
        (.load 20 none (some 9999) (.t 19), none),
        (.p 21 .id [.t 1], none),
        (.p 22 .id [.t 5], none),
        (.p 23 (.indexAddr none 1) [.t 21, .t 22], none),
        (.load 24 none (some 9999) (.t 23), none),
        (.p 25 (.bin .neq) [.t 20, .t 24], none)]))
     (.cond (.t 25)
      (.seq (.kill [] [] (.region [
          (.p 4 .id [.c (.pv (.bool false))], none)]))
       .ret)
      .skip)))
   (.kill [0, 1, 5] [] (.region [
      (.p 15 .id [.t 5], none),
      (.p 16 (.bin .add) [.t 15, .c (.pv (.int .i64 1))], none),
      (.p 5 .id [.t 16], none)]))))
def irRef01Same : IR := (.seq (.region [
    (.p 4 .id [.c (.pv (.bool false))], none)])
 (.seq (.seq (.kill [0, 1] [] (.region [
      (.p 6 .id [.t 0], none),
      (.p 7 (.len none) [.t 6], none),
      (.p 8 .id [.t 1], none),
      (.p 9 (.len none) [.t 8], none),
      (.p 10 (.bin .neq) [.t 7, .t 9], none)]))
   (.cond (.t 10)
    (.seq (.kill [] [] (.region [
        (.p 4 .id [.c (.pv (.bool false))], none)]))
     .ret)
    .skip))
  (.seq (.seq (.kill [0, 1] [] (.region [
       (.p 5 .id [.c (.pv (.int .i64 0))], none)]))
    (.block 0 (.loop (.kill [0, 1, 5] [] irRef01Same_L1))))
   (.seq (.kill [] [] (.region [
       (.p 4 .id [.c (.pv (.bool true))], none)]))
    .ret))))
theorem okRef01Same : okFn Tryd.prog Tryd.f32 irRef01Same [.t 4] [] 2 = true := by kernel_rfl

end Go.Proofs.YtaekbkjckahccaaDoor
