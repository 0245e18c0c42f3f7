/- The abstract code of functions, printed by gen_ir.py out of the program's form in Lean; each is checked against it. -/
import Derived.Test.YtekpgcohlpkmnaaProg
import Derived.Test.YtekpgcohlpkmnaaLibClone
set_option linter.unusedVariables false
set_option linter.unusedSimpArgs false
set_option maxRecDepth 100000
namespace Go.Proofs.Ytekpgcohlpkmnaa
open Go.Abs
-- nums.wide
-- nums.wide: args [3]; lent []; rs [.t 2]; loops: 
def irNumsWide : IR := (.seq (.region [
    (.p 2 .id [.c (.pv (.bool false))], none)])
 (.seq (.kill [0] [] (.region [
     (.p 3 .id [.t 0], none),
     (.p 4 (.bin .eql) [.t 3, .c (.pv (.int .i64 1))], none),
     (.p 5 .id [.t 4], none),
     (.p 6 .id [.t 0], some (5, false)),
     (.p 7 (.bin .eql) [.t 6, .c (.pv (.int .i64 2))], some (5, false)),
     (.p 8 .pick [.t 5, .c (.pv (.bool true)), .t 7], none),
     (.p 9 .id [.t 8], none),
     (.p 10 .id [.t 0], some (9, false)),
     (.p 11 (.bin .eql) [.t 10, .c (.pv (.int .i64 4))], some (9, false)),
     (.p 12 .pick [.t 9, .c (.pv (.bool true)), .t 11], none),
     (.p 13 .id [.t 12], none),
     (.p 14 .id [.t 0], some (13, false)),
     (.p 15 (.bin .eql) [.t 14, .c (.pv (.int .i64 8))], some (13, false)),
     (.p 16 .pick [.t 13, .c (.pv (.bool true)), .t 15], none),
     (.p 2 .id [.t 16], none)]))
  .ret))
theorem okNumsWide : okFn Try.prog Try.f35 irNumsWide [.t 2] [] 1 = true := by kernel_rfl

-- nums.PutFixed
-- nums.PutFixed: args [24, 47, 3]; lent []; rs [.t 6]; loops: L1 keeps [1, 2, 7, 15, 16] []
def irNumsPutFixed_L1 : IR := (.seq (.kill [1, 2, 7, 15, 16] [] (.region [
     (.p 17 (.bin .lss) [.t 16, .t 15], none)]))
  (.seq (.cond (.t 17)
    .skip
    (.exit 0))
   (.seq (.block 1 (.seq (.kill [1, 2, 7, 15, 16] [] (.region [
         (.p 18 .id [.t 16], none),
         (.p 8 .id [.t 18], none)]))
      (.kill [1, 2, 7, 8, 15, 16] [] (.region [
         (.mv 19 7, none),
         (.p 20 .id [.t 1], none),
         (.p 21 .id [.t 2], none),
         (.p 22 (.bin .sub) [.t 21, .c (.pv (.int .i64 1))], none),
         (.p 23 .id [.t 8], none),
         (.p 24 (.bin .sub) [.t 22, .t 23], none),
         (.p 25 (.bin .mul) [.c (.pv (.int .i64 8)), .t 24], none),
         (.p 26 (.bin .shr) [.t 20, .t 25], none),
         (.p 27 (.conv .u8) [.t 26], none),
         (.bslice 28 5 1 1 [.int .u8 0] [(0, .t 27)], none),
         (.app 29 5 1 19 none (.t 28), none),
         (.mv 7 29, none)]))))
    (.kill [1, 2, 7, 15, 16] [] (.region [
       (.p 30 (.bin .add) [.t 16, .c (.pv (.int .i64 1))], none),
       (.p 16 .id [.t 30], none)])))))
def irNumsPutFixed : IR := (.seq (.region [
    (.p 6 .id [.c (.os 5 1 [])], none)])
 (.seq (.kill [0, 1, 2] [] (.region [
     (.mv 9 0, none),
     (.call 10 34 [.t 9] [] [] [], none),
     (.mv 7 10, none)]))
  (.seq (.seq (.kill [1, 2, 7] [] (.region [
       (.p 11 .id [.t 2], none),
       (.call 12 35 [.t 11] [] [] [], none),
       (.p 13 (.un .not) [.t 12], none)]))
    (.cond (.t 13)
     (.seq (.kill [7] [] (.region [
         (.mv 14 7, none),
         (.mv 6 14, none)]))
      .ret)
     .skip))
   (.seq (.seq (.kill [1, 2, 7] [] (.region [
        (.p 15 .id [.t 2], none),
        (.p 16 .id [.c (.pv (.int .i64 0))], none)]))
     (.block 0 (.loop (.kill [1, 2, 7, 15, 16] [] irNumsPutFixed_L1))))
    (.seq (.kill [7] [] (.region [
        (.mv 31 7, none),
        (.mv 6 31, none)]))
     .ret)))))
theorem okNumsPutFixed : okFn Try.prog Try.f24 irNumsPutFixed [.t 6] [] 3 = true := by kernel_rfl

-- nums.PutPacked
-- nums.PutPacked: args [24, 47]; lent []; rs [.t 4]; loops: L1 keeps [1, 5] []
def irNumsPutPacked_L1 : IR := (.seq (.seq (.kill [1, 5] [] (.region [
      (.p 8 .id [.t 1], none),
      (.p 9 (.bin .geq) [.t 8, .c (.pv (.int .u64 128))], none)]))
   (.cond (.t 9)
    .skip
    (.exit 0)))
  (.block 1 (.seq (.kill [1, 5] [] (.region [
       (.mv 10 5, none),
       (.p 11 .id [.t 1], none),
       (.p 12 (.conv .u8) [.t 11], none),
       (.p 13 (.bin .or) [.t 12, .c (.pv (.int .u8 128))], none),
       (.bslice 14 5 1 1 [.int .u8 0] [(0, .t 13)], none),
       (.app 15 5 1 10 none (.t 14), none),
       (.mv 5 15, none)]))
    (.kill [1, 5] [] (.region [
       (.p 16 .id [.t 1], none),
       (.p 17 (.bin .shr) [.t 16, .c (.pv (.int .u64 7))], none),
       (.p 1 .id [.t 17], none)])))))
def irNumsPutPacked : IR := (.seq (.region [
    (.p 4 .id [.c (.os 5 1 [])], none)])
 (.seq (.kill [0, 1] [] (.region [
     (.mv 6 0, none),
     (.call 7 34 [.t 6] [] [] [], none),
     (.mv 5 7, none)]))
  (.seq (.block 0 (.loop (.kill [1, 5] [] irNumsPutPacked_L1)))
   (.seq (.kill [1, 5] [] (.region [
       (.mv 18 5, none),
       (.p 19 .id [.t 1], none),
       (.p 20 (.conv .u8) [.t 19], none),
       (.bslice 21 5 1 1 [.int .u8 0] [(0, .t 20)], none),
       (.app 22 5 1 18 none (.t 21), none),
       (.mv 4 22, none)]))
    .ret))))
theorem okNumsPutPacked : okFn Try.prog Try.f26 irNumsPutPacked [.t 4] [] 2 = true := by kernel_rfl

-- nums.PutText
-- nums.PutText: args [24, 24]; lent []; rs [.t 4]; loops: 
def irNumsPutText : IR := (.seq (.region [
    (.p 4 .id [.c (.os 5 1 [])], none)])
 (.seq (.kill [0, 1] [] (.region [
     (.mv 5 0, none),
     (.p 6 .id [.t 1], none),
     (.p 7 (.len none) [.t 6], none),
     (.p 8 (.conv .u64) [.t 7], none),
     (.call 9 26 [.t 5, .t 8] [] [] [], none),
     (.p 10 .id [.t 1], none),
     (.app 11 5 1 9 none (.t 10), none),
     (.mv 4 11, none)]))
  .ret))
theorem okNumsPutText : okFn Try.prog Try.f25 irNumsPutText [.t 4] [] 2 = true := by kernel_rfl

-- consistoryref01.Wide
-- consistoryref01.Wide: args [3]; lent []; rs [.t 2]; loops: 
def irRef01Wide : IR := (.seq (.region [
    (.p 2 .id [.c (.pv (.bool false))], none)])
 (.seq (.kill [0] [] (.region [
     (.p 3 .id [.t 0], none),
     (.p 4 (.bin .eql) [.t 3, .c (.pv (.int .i64 1))], none),
     (.p 5 .id [.t 4], none),
     (.p 6 .id [.t 0], some (5, false)),
     (.p 7 (.bin .eql) [.t 6, .c (.pv (.int .i64 2))], some (5, false)),
     (.p 8 .pick [.t 5, .c (.pv (.bool true)), .t 7], none),
     (.p 9 .id [.t 8], none),
     (.p 10 .id [.t 0], some (9, false)),
     (.p 11 (.bin .eql) [.t 10, .c (.pv (.int .i64 4))], some (9, false)),
     (.p 12 .pick [.t 9, .c (.pv (.bool true)), .t 11], none),
     (.p 13 .id [.t 12], none),
     (.p 14 .id [.t 0], some (13, false)),
     (.p 15 (.bin .eql) [.t 14, .c (.pv (.int .i64 8))], some (13, false)),
     (.p 16 .pick [.t 13, .c (.pv (.bool true)), .t 15], none),
     (.p 2 .id [.t 16], none)]))
  .ret))
theorem okRef01Wide : okFn Try.prog Try.f32 irRef01Wide [.t 2] [] 1 = true := by kernel_rfl

-- consistoryref01.Fixed
-- consistoryref01.Fixed: args [47, 3]; lent []; rs [.t 4]; loops: L2 keeps [0, 1, 5, 6, 7, 8] []; L1 keeps [0, 1, 5, 6] []
def irRef01Fixed_L2 : IR := (.seq (.seq (.kill [0, 1, 5, 6, 7, 8] [] (.region [
      (.p 20 .id [.t 8], none),
      (.p 21 .id [.t 1], none),
      (.p 22 (.bin .sub) [.t 21, .c (.pv (.int .i64 1))], none),
      (.p 23 (.bin .lss) [.t 20, .t 22], none)]))
   (.cond (.t 23)
    .skip
    (.exit 2)))
  (.seq (.block 3 (.kill [0, 1, 5, 6, 7, 8] [] (.region [
       (.p 26 .id [.t 7], none),
       (.p 27 (.bin .quo) [.t 26, .c (.pv (.int .u64 256))], none),
       (.p 7 .id [.t 27], none)])))
   (.kill [0, 1, 5, 6, 7, 8] [] (.region [
      (.p 24 .id [.t 8], none),
      (.p 25 (.bin .add) [.t 24, .c (.pv (.int .i64 1))], none),
      (.p 8 .id [.t 25], none)]))))
def irRef01Fixed_L1 : IR := (.seq (.seq (.kill [0, 1, 5, 6] [] (.region [
      (.p 13 .id [.t 6], none),
      (.p 14 .id [.t 1], none),
      (.p 15 (.bin .lss) [.t 13, .t 14], none)]))
   (.cond (.t 15)
    .skip
    (.exit 0)))
  (.seq (.block 1 (.seq (.kill [0, 1, 5, 6] [] (.region [
        (.p 18 .id [.t 0], none),
        (.p 7 .id [.t 18], none)]))
     (.seq (.seq (.kill [0, 1, 5, 6, 7] [] (.region [
          (.p 19 .id [.t 6], none),
          (.p 8 .id [.t 19], none)]))
       (.block 2 (.loop (.kill [0, 1, 5, 6, 7, 8] [] irRef01Fixed_L2))))
      (.kill [0, 1, 5, 6, 7] [] (.region [
         (.mv 28 5, none),
         (.p 29 .id [.t 7], none),
         (.p 30 (.bin .rem) [.t 29, .c (.pv (.int .u64 256))], none),
         (.p 31 (.conv .u8) [.t 30], none),
         (.bslice 32 5 1 1 [.int .u8 0] [(0, .t 31)], none),
         (.app 33 5 1 28 none (.t 32), none),
         (.mv 5 33, none)])))))
   (.kill [0, 1, 5, 6] [] (.region [
      (.p 16 .id [.t 6], none),
      (.p 17 (.bin .add) [.t 16, .c (.pv (.int .i64 1))], none),
      (.p 6 .id [.t 17], none)]))))
def irRef01Fixed : IR := (.seq (.region [
    (.p 4 .id [.c (.os 5 1 [])], none)])
 (.seq (.kill [0, 1] [] (.region [
     (.p 5 .id [.c (.os 5 1 [])], none)]))
  (.seq (.seq (.kill [0, 1, 5] [] (.region [
       (.p 9 .id [.t 1], none),
       (.call 10 32 [.t 9] [] [] [], none),
       (.p 11 (.un .not) [.t 10], none)]))
    (.cond (.t 11)
     (.seq (.kill [5] [] (.region [
         (.mv 12 5, none),
         (.mv 4 12, none)]))
      .ret)
     .skip))
   (.seq (.seq (.kill [0, 1, 5] [] (.region [
        (.p 6 .id [.c (.pv (.int .i64 0))], none)]))
     (.block 0 (.loop (.kill [0, 1, 5, 6] [] irRef01Fixed_L1))))
    (.seq (.kill [5] [] (.region [
        (.mv 34 5, none),
        (.mv 4 34, none)]))
     .ret)))))
theorem okRef01Fixed : okFn Try.prog Try.f18 irRef01Fixed [.t 4] [] 2 = true := by kernel_rfl

-- consistoryref01.Packed
-- consistoryref01.Packed: args [47]; lent []; rs [.t 2]; loops: L1 keeps [0, 3] []
def irRef01Packed_L1 : IR := (.seq (.seq (.kill [0, 3] [] (.region [
      (.p 4 .id [.t 0], none),
      (.p 5 (.bin .gtr) [.t 4, .c (.pv (.int .u64 127))], none)]))
   (.cond (.t 5)
    .skip
    (.exit 0)))
  (.block 1 (.seq (.kill [0, 3] [] (.region [
       (.mv 6 3, none),
       (.p 7 .id [.t 0], none),
       (.p 8 (.bin .rem) [.t 7, .c (.pv (.int .u64 128))], none),
       (.p 9 (.bin .add) [.t 8, .c (.pv (.int .u64 128))], none),
       (.p 10 (.conv .u8) [.t 9], none),
       (.bslice 11 5 1 1 [.int .u8 0] [(0, .t 10)], none),
       (.app 12 5 1 6 none (.t 11), none),
       (.mv 3 12, none)]))
    (.kill [0, 3] [] (.region [
       (.p 13 .id [.t 0], none),
       (.p 14 (.bin .quo) [.t 13, .c (.pv (.int .u64 128))], none),
       (.p 0 .id [.t 14], none)])))))
def irRef01Packed : IR := (.seq (.region [
    (.p 2 .id [.c (.os 5 1 [])], none)])
 (.seq (.kill [0] [] (.region [
     (.p 3 .id [.c (.os 5 1 [])], none)]))
  (.seq (.block 0 (.loop (.kill [0, 3] [] irRef01Packed_L1)))
   (.seq (.kill [0, 3] [] (.region [
       (.mv 15 3, none),
       (.p 16 .id [.t 0], none),
       (.p 17 (.conv .u8) [.t 16], none),
       (.bslice 18 5 1 1 [.int .u8 0] [(0, .t 17)], none),
       (.app 19 5 1 15 none (.t 18), none),
       (.mv 3 19, none)]))
    (.seq (.kill [3] [] (.region [
        (.mv 20 3, none),
        (.mv 2 20, none)]))
     .ret)))))
theorem okRef01Packed : okFn Try.prog Try.f21 irRef01Packed [.t 2] [] 1 = true := by kernel_rfl

-- consistoryref01.Text
-- consistoryref01.Text: args [24]; lent []; rs [.t 2]; loops: 
def irRef01Text : IR := (.seq (.region [
    (.p 2 .id [.c (.os 5 1 [])], none)])
 (.seq (.kill [0] [] (.region [
     (.p 4 .id [.t 0], none),
     (.p 5 (.len none) [.t 4], none),
     (.p 6 (.conv .u64) [.t 5], none),
     (.call 7 21 [.t 6] [] [] [], none),
     (.mv 3 7, none)]))
  (.seq (.kill [0, 3] [] (.region [
      (.mv 8 3, none),
      (.mv 9 0, none),
      (.app 10 5 1 8 none (.t 9), none),
      (.mv 3 10, none)]))
   (.seq (.kill [3] [] (.region [
       (.mv 11 3, none),
       (.mv 2 11, none)]))
    .ret))))
theorem okRef01Text : okFn Try.prog Try.f20 irRef01Text [.t 2] [] 1 = true := by kernel_rfl

-- consistoryref02.Bytes
-- consistoryref02.Bytes: args [23]; lent []; rs [.t 2]; loops: L1 keeps [1, 3, 4] [1]
def irRef02Bytes_L1 : IR := (.seq (.seq (.kill [1, 3, 4] [1] (.region [
      (.p 5 .id [.t 4], none),
      (.p 6 (.bin .lss) [.t 5, .c (.pv (.int .i64 32))], none)]))
   (.cond (.t 6)
    .skip
    (.exit 0)))
  (.seq (.block 1 (.kill [1, 3, 4] [1] (.region [
       (.mv 9 3, none),
       (.p 10 .id [.t 4], none),
       (.p 11 (.indexAddr (some 32) 1) [.t 1, .t 10], none),
       (.load 12 none (some 1) (.t 11), none),
       (.bslice 13 5 1 1 [.int .u8 0] [(0, .t 12)], none),
       (.app 14 5 1 9 none (.t 13), none),
       (.mv 3 14, none)])))
   (.kill [1, 3, 4] [1] (.region [
      (.p 7 .id [.t 4], none),
      (.p 8 (.bin .add) [.t 7, .c (.pv (.int .i64 1))], none),
      (.p 4 .id [.t 8], none)]))))
def irRef02Bytes : IR := (.seq (.region [
    (.box 1 (.t 0), none),
    (.p 2 .id [.c (.os 5 1 [])], none)])
 (.seq (.kill [1] [1] (.region [
     (.p 3 .id [.c (.os 5 1 [])], none)]))
  (.seq (.seq (.kill [1, 3] [1] (.region [
       (.p 4 .id [.c (.pv (.int .i64 0))], none)]))
    (.block 0 (.loop (.kill [1, 3, 4] [1] irRef02Bytes_L1))))
   (.seq (.kill [3] [] (.region [
       (.mv 15 3, none),
       (.mv 2 15, none)]))
    .ret))))
theorem okRef02Bytes : okFn Try.prog Try.f19 irRef02Bytes [.t 2] [] 1 = true := by kernel_rfl

end Go.Proofs.Ytekpgcohlpkmnaa
