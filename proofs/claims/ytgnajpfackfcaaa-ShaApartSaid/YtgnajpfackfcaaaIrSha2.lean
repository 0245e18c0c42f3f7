/- The abstract code of functions, printed by gen_ir.py out of the program's form in Lean; each is checked against it. -/
import Derived.Test.YtgnajpfackfcaaaProg
import Derived.Test.YtgnajpfackfcaaaAbs2
set_option linter.unusedVariables false
set_option linter.unusedSimpArgs false
set_option maxRecDepth 100000
namespace Go.Proofs.Ytgnajpfackfcaaa
open Go.Abs
-- sha.All
-- sha.All: args [32]; lent []; rs [.cell 2 (some (32, true))]; loops: L1 keeps [2, 3, 6, 7, 8] [2]
def irShaAll_L1 : IR := (.seq (.kill [2, 3, 6, 7, 8] [2] (.region [
     (.p 9 (.bin .lss) [.t 8, .t 7], none)]))
  (.seq (.cond (.t 9)
    .skip
    (.exit 0))
   (.seq (.block 1 (.seq (.kill [2, 3, 6, 7, 8] [2] (.region [
         (.p 10 (.indexAddr none 1) [.t 6, .t 8], none),
         (.load 11 none (some 9999) (.t 10), none),
         (.mv 5 11, none)]))
      (.kill [2, 3, 5, 6, 7, 8] [2] (.region [
         (.mv 12 3, none),
         (.mv 13 5, none),
         (.call 14 26 [.t 12, .t 13] [] [] [], none),
         (.mv 3 14, none)]))))
    (.kill [2, 3, 6, 7, 8] [2] (.region [
       (.p 15 (.bin .add) [.t 8, .c (.pv (.int .i64 1))], none),
       (.p 8 .id [.t 15], none)])))))
def irShaAll : IR := (.seq (.region [
    (.alloc 2 (.pagg (List.replicate 32 (.int .u8 0))), none)])
 (.seq (.kill [0, 2] [2] (.region [
     (.p 3 .id [.c (.os 5 1 [])], none)]))
  (.seq (.seq (.kill [0, 2, 3] [2] (.region [
       (.mv 6 0, none),
       (.p 7 (.len none) [.t 6], none),
       (.p 8 .id [.c (.pv (.int .i64 0))], none)]))
    (.block 0 (.loop (.kill [2, 3, 6, 7, 8] [2] irShaAll_L1))))
   (.seq (.kill [2, 3] [2] (.region [
       (.mv 16 3, none),
       (.call 17 8 [.t 16] [] [] [], none),
       (.store (some (32, true)) (some 2) (.t 2) (.t 17), none)]))
    .ret))))
theorem okShaAll : okFn Try.prog Try.f13 irShaAll [.cell 2 (some (32, true))] [] 1 = true := by kernel_rfl

-- consistoryref02.All
-- consistoryref02.All: args [32]; lent []; rs [.cell 2 (some (32, true))]; loops: L1 keeps [0, 2, 3, 4] [2]
def irRef02All_L1 : IR := (.seq (.seq (.kill [0, 2, 3, 4] [2] (.region [
      (.p 5 .id [.t 4], none),
      (.p 6 .id [.t 0], none),
      (.p 7 (.len none) [.t 6], none),
      (.p 8 (.bin .lss) [.t 5, .t 7], none)]))
   (.cond (.t 8)
    .skip
    (.exit 0)))
  (.seq (.block 1 (.kill [0, 2, 3, 4] [2] (.region [
       (.mv 11 3, none),
       (.p 12 .id [.t 0], none),
       (.p 13 .id [.t 4], none),
       (.p 14 (.indexAddr none 1) [.t 12, .t 13], none),
       (.load 15 none (some 9999) (.t 14), none),
       (.call 16 15 [.t 15] [] [] [], none),
       (.app 17 5 1 11 none (.t 16), none),
       (.mv 3 17, none)])))
   (.kill [0, 2, 3, 4] [2] (.region [
      (.p 9 .id [.t 4], none),
      (.p 10 (.bin .add) [.t 9, .c (.pv (.int .i64 1))], none),
      (.p 4 .id [.t 10], none)]))))
def irRef02All : IR := (.seq (.region [
    (.alloc 2 (.pagg (List.replicate 32 (.int .u8 0))), none)])
 (.seq (.kill [0, 2] [2] (.region [
     (.p 3 .id [.c (.os 5 1 [])], none)]))
  (.seq (.seq (.kill [0, 2, 3] [2] (.region [
       (.p 4 .id [.c (.pv (.int .i64 0))], none)]))
    (.block 0 (.loop (.kill [0, 2, 3, 4] [2] irRef02All_L1))))
   (.seq (.kill [2, 3] [2] (.region [
       (.mv 18 3, none),
       (.call 19 9 [.t 18] [] [] [], none),
       (.store (some (32, true)) (some 2) (.t 2) (.t 19), none)]))
    .ret))))
theorem okRef02All : okFn Try.prog Try.f14 irRef02All [.cell 2 (some (32, true))] [] 1 = true := by kernel_rfl

-- consistoryref01.Text
-- consistoryref01.Text: args [22]; lent []; rs [.t 2]; loops: 
def irRef01Text : IR := (.seq (.region [
    (.p 2 .id [.c (.os 5 1 [])], none)])
 (.seq (.kill [0] [] (.region [
     (.p 4 .id [.t 0], none),
     (.p 5 (.len none) [.t 4], none),
     (.p 6 (.conv .u64) [.t 5], none),
     (.call 7 27 [.t 6] [] [] [], none),
     (.mv 3 7, none)]))
  (.seq (.kill [0, 3] [] (.region [
      (.mv 8 3, none),
      (.mv 9 0, none),
      (.app 10 5 1 8 none (.t 9), none),
      (.mv 3 10, none)]))
   (.seq (.kill [3] [] (.region [
       (.mv 11 3, none),
       (.mv 2 11, none)]))
    .ret))))
theorem okRef01Text : okFn Try.prog Try.f15 irRef01Text [.t 2] [] 1 = true := by kernel_rfl

-- sha.Pair
-- sha.Pair: args [25, 25]; lent []; rs [.cell 4 (some (32, true))]; loops: 
def irShaPair : IR := (.seq (.region [
    (.rbox 2 (.t 0), none),
    (.rbox 3 (.t 1), none),
    (.alloc 4 (.pagg (List.replicate 32 (.int .u8 0))), none)])
 (.seq (.kill [2, 3, 4] [4] (.region [
     (.p 5 (.slice (some 32) 1 false false) [.t 2], none),
     (.p 6 (.slice (some 32) 1 false false) [.t 3], none),
     (.bslice 7 22 1 2 [.sl 1 []] [(0, .t 5), (1, .t 6)], none),
     (.call 8 28 [.t 7] [] [] [], none),
     (.call 9 8 [.t 8] [] [] [], none),
     (.store (some (32, true)) (some 4) (.t 4) (.t 9), none)]))
  .ret))
theorem okShaPair : okFn Try.prog Try.f16 irShaPair [.cell 4 (some (32, true))] [] 2 = true := by kernel_rfl

-- consistoryref02.Pair
-- consistoryref02.Pair: args [25, 25]; lent []; rs [.cell 4 (some (32, true))]; loops: 
def irRef02Pair : IR := (.seq (.region [
    (.rbox 2 (.t 0), none),
    (.rbox 3 (.t 1), none),
    (.alloc 4 (.pagg (List.replicate 32 (.int .u8 0))), none)])
 (.seq (.kill [2, 3, 4] [4] (.region [
     (.load 5 (some (32, true)) (some 9999) (.t 2), none),
     (.call 6 25 [.t 5] [] [] [], none),
     (.load 7 (some (32, true)) (some 9999) (.t 3), none),
     (.call 8 25 [.t 7] [] [] [], none),
     (.call 9 29 [.t 6, .t 8] [] [] [], none),
     (.call 10 9 [.t 9] [] [] [], none),
     (.store (some (32, true)) (some 4) (.t 4) (.t 10), none)]))
  .ret))
theorem okRef02Pair : okFn Try.prog Try.f17 irRef02Pair [.cell 4 (some (32, true))] [] 2 = true := by kernel_rfl

-- consistoryref02.Bytes
-- consistoryref02.Bytes: args [25]; lent []; rs [.t 2]; loops: L1 keeps [1, 3, 4] []
def irRef02Bytes_L1 : IR := (.seq (.seq (.kill [1, 3, 4] [] (.region [
      (.p 5 .id [.t 4], none),
      (.p 6 (.bin .lss) [.t 5, .c (.pv (.int .i64 32))], none)]))
   (.cond (.t 6)
    .skip
    (.exit 0)))
  (.seq (.block 1 (.kill [1, 3, 4] [] (.region [
       (.mv 9 3, none),
       (.p 10 .id [.t 4], none),
       (.p 11 (.indexAddr (some 32) 1) [.t 1, .t 10], none),
       (.load 12 none (some 9999) (.t 11), none),
       (.bslice 13 5 1 1 [.int .u8 0] [(0, .t 12)], none),
       (.app 14 5 1 9 none (.t 13), none),
       (.mv 3 14, none)])))
   (.kill [1, 3, 4] [] (.region [
      (.p 7 .id [.t 4], none),
      (.p 8 (.bin .add) [.t 7, .c (.pv (.int .i64 1))], none),
      (.p 4 .id [.t 8], none)]))))
def irRef02Bytes : IR := (.seq (.region [
    (.rbox 1 (.t 0), none),
    (.p 2 .id [.c (.os 5 1 [])], none)])
 (.seq (.kill [1] [] (.region [
     (.p 3 .id [.c (.os 5 1 [])], none)]))
  (.seq (.seq (.kill [1, 3] [] (.region [
       (.p 4 .id [.c (.pv (.int .i64 0))], none)]))
    (.block 0 (.loop (.kill [1, 3, 4] [] irRef02Bytes_L1))))
   (.seq (.kill [3] [] (.region [
       (.mv 15 3, none),
       (.mv 2 15, none)]))
    .ret))))
theorem okRef02Bytes : okFn Try.prog Try.f25 irRef02Bytes [.t 2] [] 1 = true := by kernel_rfl

-- nums.PutText
-- nums.PutText: args [22, 22]; lent []; rs [.t 4]; loops: 
def irNumsPutText : IR := (.seq (.region [
    (.p 4 .id [.c (.os 5 1 [])], none)])
 (.seq (.kill [0, 1] [] (.region [
     (.mv 5 0, none),
     (.p 6 .id [.t 1], none),
     (.p 7 (.len none) [.t 6], none),
     (.p 8 (.conv .u64) [.t 7], none),
     (.call 9 37 [.t 5, .t 8] [] [] [], none),
     (.p 10 .id [.t 1], none),
     (.app 11 5 1 9 none (.t 10), none),
     (.mv 4 11, none)]))
  .ret))
theorem okNumsPutText : okFn Try.prog Try.f26 irNumsPutText [.t 4] [] 2 = true := by kernel_rfl

-- consistoryref01.Packed
-- consistoryref01.Packed: args [47]; lent []; rs [.t 2]; loops: L1 keeps [0, 3] []
def irRef01Packed_L1 : IR := (.seq (.seq (.kill [0, 3] [] (.region [
      (.p 4 .id [.t 0], none),
      (.p 5 (.bin .gtr) [.t 4, .c (.pv (.int .u64 127))], none)]))
   (.cond (.t 5)
    .skip
    (.exit 0)))
  (.block 1 (.seq (.kill [0, 3] [] (.region [
       (.mv 6 3, none),
       (.p 7 .id [.t 0], none),
       (.p 8 (.bin .rem) [.t 7, .c (.pv (.int .u64 128))], none),
       (.p 9 (.bin .add) [.t 8, .c (.pv (.int .u64 128))], none),
       (.p 10 (.conv .u8) [.t 9], none),
       (.bslice 11 5 1 1 [.int .u8 0] [(0, .t 10)], none),
       (.app 12 5 1 6 none (.t 11), none),
       (.mv 3 12, none)]))
    (.kill [0, 3] [] (.region [
       (.p 13 .id [.t 0], none),
       (.p 14 (.bin .quo) [.t 13, .c (.pv (.int .u64 128))], none),
       (.p 0 .id [.t 14], none)])))))
def irRef01Packed : IR := (.seq (.region [
    (.p 2 .id [.c (.os 5 1 [])], none)])
 (.seq (.kill [0] [] (.region [
     (.p 3 .id [.c (.os 5 1 [])], none)]))
  (.seq (.block 0 (.loop (.kill [0, 3] [] irRef01Packed_L1)))
   (.seq (.kill [0, 3] [] (.region [
       (.mv 15 3, none),
       (.p 16 .id [.t 0], none),
       (.p 17 (.conv .u8) [.t 16], none),
       (.bslice 18 5 1 1 [.int .u8 0] [(0, .t 17)], none),
       (.app 19 5 1 15 none (.t 18), none),
       (.mv 3 19, none)]))
    (.seq (.kill [3] [] (.region [
        (.mv 20 3, none),
        (.mv 2 20, none)]))
     .ret)))))
theorem okRef01Packed : okFn Try.prog Try.f27 irRef01Packed [.t 2] [] 1 = true := by kernel_rfl

-- sha.joined
-- sha.joined: args [32]; lent []; rs [.t 2]; loops: L1 keeps [3, 6, 7, 8] []
def irShaJoined_L1 : IR := (.seq (.kill [3, 6, 7, 8] [] (.region [
     (.p 9 (.bin .lss) [.t 8, .t 7], none)]))
  (.seq (.cond (.t 9)
    .skip
    (.exit 0))
   (.seq (.block 1 (.seq (.kill [3, 6, 7, 8] [] (.region [
         (.p 10 (.indexAddr none 1) [.t 6, .t 8], none),
         (.load 11 none (some 9999) (.t 10), none),
         (.mv 5 11, none)]))
      (.kill [3, 5, 6, 7, 8] [] (.region [
         (.mv 12 3, none),
         (.mv 13 5, none),
         (.app 14 5 1 12 none (.t 13), none),
         (.mv 3 14, none)]))))
    (.kill [3, 6, 7, 8] [] (.region [
       (.p 15 (.bin .add) [.t 8, .c (.pv (.int .i64 1))], none),
       (.p 8 .id [.t 15], none)])))))
def irShaJoined : IR := (.seq (.region [
    (.p 2 .id [.c (.os 5 1 [])], none)])
 (.seq (.kill [0] [] (.region [
     (.p 3 .id [.c (.os 5 1 [])], none)]))
  (.seq (.seq (.kill [0, 3] [] (.region [
       (.mv 6 0, none),
       (.p 7 (.len none) [.t 6], none),
       (.p 8 .id [.c (.pv (.int .i64 0))], none)]))
    (.block 0 (.loop (.kill [3, 6, 7, 8] [] irShaJoined_L1))))
   (.seq (.kill [3] [] (.region [
       (.mv 16 3, none),
       (.mv 2 16, none)]))
    .ret))))
theorem okShaJoined : okFn Try.prog Try.f28 irShaJoined [.t 2] [] 1 = true := by kernel_rfl

-- consistoryref01.Join
-- consistoryref01.Join: args [22, 22]; lent []; rs [.t 4]; loops: 
def irRef01Join : IR := (.seq (.region [
    (.p 4 .id [.c (.os 5 1 [])], none)])
 (.seq (.kill [0, 1] [] (.region [
     (.p 5 .id [.c (.os 5 1 [])], none)]))
  (.seq (.kill [0, 1, 5] [] (.region [
      (.mv 6 5, none),
      (.mv 7 0, none),
      (.app 8 5 1 6 none (.t 7), none),
      (.mv 5 8, none)]))
   (.seq (.kill [1, 5] [] (.region [
       (.mv 9 5, none),
       (.mv 10 1, none),
       (.app 11 5 1 9 none (.t 10), none),
       (.mv 5 11, none)]))
    (.seq (.kill [5] [] (.region [
        (.mv 12 5, none),
        (.mv 4 12, none)]))
     .ret)))))
theorem okRef01Join : okFn Try.prog Try.f29 irRef01Join [.t 4] [] 2 = true := by kernel_rfl

-- nums.PutPacked
-- nums.PutPacked: args [22, 47]; lent []; rs [.t 4]; loops: L1 keeps [1, 5] []
def irNumsPutPacked_L1 : IR := (.seq (.seq (.kill [1, 5] [] (.region [
      (.p 8 .id [.t 1], none),
      (.p 9 (.bin .geq) [.t 8, .c (.pv (.int .u64 128))], none)]))
   (.cond (.t 9)
    .skip
    (.exit 0)))
  (.block 1 (.seq (.kill [1, 5] [] (.region [
       (.mv 10 5, none),
       (.p 11 .id [.t 1], none),
       (.p 12 (.conv .u8) [.t 11], none),
       (.p 13 (.bin .or) [.t 12, .c (.pv (.int .u8 128))], none),
       (.bslice 14 5 1 1 [.int .u8 0] [(0, .t 13)], none),
       (.app 15 5 1 10 none (.t 14), none),
       (.mv 5 15, none)]))
    (.kill [1, 5] [] (.region [
       (.p 16 .id [.t 1], none),
       (.p 17 (.bin .shr) [.t 16, .c (.pv (.int .u64 7))], none),
       (.p 1 .id [.t 17], none)])))))
def irNumsPutPacked : IR := (.seq (.region [
    (.p 4 .id [.c (.os 5 1 [])], none)])
 (.seq (.kill [0, 1] [] (.region [
     (.mv 6 0, none),
     (.call 7 39 [.t 6] [] [] [], none),
     (.mv 5 7, none)]))
  (.seq (.block 0 (.loop (.kill [1, 5] [] irNumsPutPacked_L1)))
   (.seq (.kill [1, 5] [] (.region [
       (.mv 18 5, none),
       (.p 19 .id [.t 1], none),
       (.p 20 (.conv .u8) [.t 19], none),
       (.bslice 21 5 1 1 [.int .u8 0] [(0, .t 20)], none),
       (.app 22 5 1 18 none (.t 21), none),
       (.mv 4 22, none)]))
    .ret))))
theorem okNumsPutPacked : okFn Try.prog Try.f37 irNumsPutPacked [.t 4] [] 2 = true := by kernel_rfl

-- sha.Chain
-- sha.Chain: args [25, 3]; lent []; rs [.cell 4 (some (32, true))]; loops: L1 keeps [2, 4, 7, 8] [2, 4]
def irShaChain_L1 : IR := (.seq (.kill [2, 4, 7, 8] [2, 4] (.region [
     (.p 9 (.bin .lss) [.t 8, .t 7], none)]))
  (.seq (.cond (.t 9)
    .skip
    (.exit 0))
   (.seq (.block 1 (.kill [2, 4, 7, 8] [2, 4] (.region [
        (.p 10 (.slice (some 32) 1 false false) [.t 2], none),
        (.call 11 8 [.t 10] [] [] [2], none),
        (.store (some (32, true)) (some 2) (.t 2) (.t 11), none)])))
    (.kill [2, 4, 7, 8] [2, 4] (.region [
       (.p 12 (.bin .add) [.t 8, .c (.pv (.int .i64 1))], none),
       (.p 8 .id [.t 12], none)])))))
def irShaChain : IR := (.seq (.region [
    (.box 2 (.t 0), none),
    (.alloc 4 (.pagg (List.replicate 32 (.int .u8 0))), none)])
 (.seq (.seq (.kill [1, 2, 4] [2, 4] (.region [
      (.p 5 .id [.t 1], none),
      (.p 6 (.mm false) [.t 5, .c (.pv (.int .i64 4096))], none),
      (.p 7 (.mm true) [.c (.pv (.int .i64 0)), .t 6], none),
      (.p 8 .id [.c (.pv (.int .i64 0))], none)]))
   (.block 0 (.loop (.kill [2, 4, 7, 8] [2, 4] irShaChain_L1))))
  (.seq (.kill [2, 4] [2, 4] (.region [
      (.load 13 (some (32, true)) (some 2) (.t 2), none),
      (.store (some (32, true)) (some 4) (.t 4) (.t 13), none)]))
   .ret)))
theorem okShaChain : okFn Try.prog Try.f11 irShaChain [.cell 4 (some (32, true))] [] 2 = true := by kernel_rfl

-- consistoryref02.Chain
-- consistoryref02.Chain: args [25, 3]; lent []; rs [.cell 4 (some (32, true))]; loops: L1 keeps [1, 2, 4, 5] [2, 4]
def irRef02Chain_L1 : IR := (.seq (.seq (.kill [1, 2, 4, 5] [2, 4] (.region [
      (.p 8 .id [.t 5], none),
      (.p 9 .id [.t 1], none),
      (.p 10 (.bin .lss) [.t 8, .t 9], none)]))
   (.cond (.t 10)
    .skip
    (.exit 0)))
  (.seq (.block 1 (.kill [1, 2, 4, 5] [2, 4] (.region [
       (.load 13 (some (32, true)) (some 2) (.t 2), none),
       (.call 14 25 [.t 13] [] [] [], none),
       (.call 15 9 [.t 14] [] [] [], none),
       (.store (some (32, true)) (some 2) (.t 2) (.t 15), none)])))
   (.kill [1, 2, 4, 5] [2, 4] (.region [
      (.p 11 .id [.t 5], none),
      (.p 12 (.bin .add) [.t 11, .c (.pv (.int .i64 1))], none),
      (.p 5 .id [.t 12], none)]))))
def irRef02Chain : IR := (.seq (.region [
    (.box 2 (.t 0), none),
    (.alloc 4 (.pagg (List.replicate 32 (.int .u8 0))), none)])
 (.seq (.seq (.kill [1, 2, 4] [2, 4] (.region [
      (.p 6 .id [.t 1], none),
      (.p 7 (.bin .gtr) [.t 6, .c (.pv (.int .i64 4096))], none)]))
   (.cond (.t 7)
    (.kill [2, 4] [2, 4] (.region [
       (.p 1 .id [.c (.pv (.int .i64 4096))], none)]))
    .skip))
  (.seq (.seq (.kill [1, 2, 4] [2, 4] (.region [
       (.p 5 .id [.c (.pv (.int .i64 0))], none)]))
    (.block 0 (.loop (.kill [1, 2, 4, 5] [2, 4] irRef02Chain_L1))))
   (.seq (.kill [2, 4] [2, 4] (.region [
       (.load 16 (some (32, true)) (some 2) (.t 2), none),
       (.store (some (32, true)) (some 4) (.t 4) (.t 16), none)]))
    .ret))))
theorem okRef02Chain : okFn Try.prog Try.f12 irRef02Chain [.cell 4 (some (32, true))] [] 2 = true := by kernel_rfl

end Go.Proofs.Ytgnajpfackfcaaa
