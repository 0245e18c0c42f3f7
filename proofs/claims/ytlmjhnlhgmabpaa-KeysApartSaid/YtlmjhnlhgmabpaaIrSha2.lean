/- The abstract code of functions, printed by gen_ir.py out of the program's form in Lean; each is checked against it. -/
import Derived.Test.YtlmjhnlhgmabpaaProg
import Derived.Test.YtlmjhnlhgmabpaaAbs2
set_option linter.unusedVariables false
set_option linter.unusedSimpArgs false
set_option maxRecDepth 100000
namespace Go.Proofs.Ytlmjhnlhgmabpaa
open Go.Abs
-- sha.Pair
-- sha.Pair: args [23, 23]; lent []; rs [.cell 4 (some (32, true))]; loops: 
def irShaPair : IR := (.seq (.region [
    (.rbox 2 (.t 0), none),
    (.rbox 3 (.t 1), none),
    (.alloc 4 (.pagg (List.replicate 32 (.int .u8 0))), none)])
 (.seq (.kill [2, 3, 4] [4] (.region [
     (.p 5 (.slice (some 32) 1 false false) [.t 2], none),
     (.p 6 (.slice (some 32) 1 false false) [.t 3], none),
     (.bslice 7 33 1 2 [.sl 1 []] [(0, .t 5), (1, .t 6)], none),
     (.call 8 40 [.t 7] [] [] [], none),
     (.call 9 34 [.t 8] [] [] [], none),
     (.store (some (32, true)) (some 4) (.t 4) (.t 9), none)]))
  .ret))
theorem okShaPair : okFn Try.prog Try.f26 irShaPair [.cell 4 (some (32, true))] [] 2 = true := by kernel_rfl

-- consistoryref02.Pair
-- consistoryref02.Pair: args [23, 23]; lent []; rs [.cell 4 (some (32, true))]; loops: 
def irRef02Pair : IR := (.seq (.region [
    (.rbox 2 (.t 0), none),
    (.rbox 3 (.t 1), none),
    (.alloc 4 (.pagg (List.replicate 32 (.int .u8 0))), none)])
 (.seq (.kill [2, 3, 4] [4] (.region [
     (.load 5 (some (32, true)) (some 9999) (.t 2), none),
     (.call 6 22 [.t 5] [] [] [], none),
     (.load 7 (some (32, true)) (some 9999) (.t 3), none),
     (.call 8 22 [.t 7] [] [] [], none),
     (.call 9 43 [.t 6, .t 8] [] [] [], none),
     (.call 10 24 [.t 9] [] [] [], none),
     (.store (some (32, true)) (some 4) (.t 4) (.t 10), none)]))
  .ret))
theorem okRef02Pair : okFn Try.prog Try.f28 irRef02Pair [.cell 4 (some (32, true))] [] 2 = true := by kernel_rfl

-- consistoryref02.Bytes
-- consistoryref02.Bytes: args [23]; lent []; rs [.t 2]; loops: L1 keeps [1, 3, 4] []
def irRef02Bytes_L1 : IR := (.seq (.seq (.kill [1, 3, 4] [] (.region [
      (.p 5 .id [.t 4], none),
      (.p 6 (.bin .lss) [.t 5, .c (.pv (.int .i64 32))], none)]))
   (.cond (.t 6)
    .skip
    (.exit 0)))
  (.seq (.block 1 (.kill [1, 3, 4] [] (.region [
       (.mv 9 3, none),
       (.p 10 .id [.t 4], none),
       (.p 11 (.indexAddr (some 32) 1) [.t 1, .t 10], none),
       (.load 12 none (some 9999) (.t 11), none),
       (.bslice 13 5 1 1 [.int .u8 0] [(0, .t 12)], none),
       (.app 14 5 1 9 none (.t 13), none),
       (.mv 3 14, none)])))
   (.kill [1, 3, 4] [] (.region [
      (.p 7 .id [.t 4], none),
      (.p 8 (.bin .add) [.t 7, .c (.pv (.int .i64 1))], none),
      (.p 4 .id [.t 8], none)]))))
def irRef02Bytes : IR := (.seq (.region [
    (.rbox 1 (.t 0), none),
    (.p 2 .id [.c (.os 5 1 [])], none)])
 (.seq (.kill [1] [] (.region [
     (.p 3 .id [.c (.os 5 1 [])], none)]))
  (.seq (.seq (.kill [1, 3] [] (.region [
       (.p 4 .id [.c (.pv (.int .i64 0))], none)]))
    (.block 0 (.loop (.kill [1, 3, 4] [] irRef02Bytes_L1))))
   (.seq (.kill [3] [] (.region [
       (.mv 15 3, none),
       (.mv 2 15, none)]))
    .ret))))
theorem okRef02Bytes : okFn Try.prog Try.f22 irRef02Bytes [.t 2] [] 1 = true := by kernel_rfl

-- sha.joined
-- sha.joined: args [25]; lent []; rs [.t 2]; loops: L1 keeps [3, 6, 7, 8] []
def irShaJoined_L1 : IR := (.seq (.kill [3, 6, 7, 8] [] (.region [
     (.p 9 (.bin .lss) [.t 8, .t 7], none)]))
  (.seq (.cond (.t 9)
    .skip
    (.exit 0))
   (.seq (.block 1 (.seq (.kill [3, 6, 7, 8] [] (.region [
         (.p 10 (.indexAddr none 1) [.t 6, .t 8], none),
         (.load 11 none (some 9999) (.t 10), none),
         (.mv 5 11, none)]))
      (.kill [3, 5, 6, 7, 8] [] (.region [
         (.mv 12 3, none),
         (.mv 13 5, none),
         (.app 14 5 1 12 none (.t 13), none),
         (.mv 3 14, none)]))))
    (.kill [3, 6, 7, 8] [] (.region [
       (.p 15 (.bin .add) [.t 8, .c (.pv (.int .i64 1))], none),
       (.p 8 .id [.t 15], none)])))))
def irShaJoined : IR := (.seq (.region [
    (.p 2 .id [.c (.os 5 1 [])], none)])
 (.seq (.kill [0] [] (.region [
     (.p 3 .id [.c (.os 5 1 [])], none)]))
  (.seq (.seq (.kill [0, 3] [] (.region [
       (.mv 6 0, none),
       (.p 7 (.len none) [.t 6], none),
       (.p 8 .id [.c (.pv (.int .i64 0))], none)]))
    (.block 0 (.loop (.kill [3, 6, 7, 8] [] irShaJoined_L1))))
   (.seq (.kill [3] [] (.region [
       (.mv 16 3, none),
       (.mv 2 16, none)]))
    .ret))))
theorem okShaJoined : okFn Try.prog Try.f40 irShaJoined [.t 2] [] 1 = true := by kernel_rfl

-- consistoryref01.Join
-- consistoryref01.Join: args [33, 33]; lent []; rs [.t 4]; loops: 
def irRef01Join : IR := (.seq (.region [
    (.p 4 .id [.c (.os 5 1 [])], none)])
 (.seq (.kill [0, 1] [] (.region [
     (.p 5 .id [.c (.os 5 1 [])], none)]))
  (.seq (.kill [0, 1, 5] [] (.region [
      (.mv 6 5, none),
      (.mv 7 0, none),
      (.app 8 5 1 6 none (.t 7), none),
      (.mv 5 8, none)]))
   (.seq (.kill [1, 5] [] (.region [
       (.mv 9 5, none),
       (.mv 10 1, none),
       (.app 11 5 1 9 none (.t 10), none),
       (.mv 5 11, none)]))
    (.seq (.kill [5] [] (.region [
        (.mv 12 5, none),
        (.mv 4 12, none)]))
     .ret)))))
theorem okRef01Join : okFn Try.prog Try.f43 irRef01Join [.t 4] [] 2 = true := by kernel_rfl

end Go.Proofs.Ytlmjhnlhgmabpaa
