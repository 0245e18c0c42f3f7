/- The abstract code of functions, printed by gen_ir.py out of the program's form in Lean; each is checked against it. -/
import Derived.Test.YtlbfpnckoblppaaProg
import Derived.Test.YtlbfpnckoblppaaAbs2
set_option linter.unusedVariables false
set_option linter.unusedSimpArgs false
set_option maxRecDepth 100000
namespace Go.Proofs.Ytlbfpnckoblppaa
open Go.Abs
-- consistoryref01.Text
-- consistoryref01.Text: args [22]; lent []; rs [.t 2]; loops: 
def irRef01Text : IR := (.seq (.region [
    (.p 2 .id [.c (.os 5 1 [])], none)])
 (.seq (.kill [0] [] (.region [
     (.p 4 .id [.t 0], none),
     (.p 5 (.len none) [.t 4], none),
     (.p 6 (.conv .u64) [.t 5], none),
     (.call 7 49 [.t 6] [] [] [], none),
     (.mv 3 7, none)]))
  (.seq (.kill [0, 3] [] (.region [
      (.mv 8 3, none),
      (.mv 9 0, none),
      (.app 10 5 1 8 none (.t 9), none),
      (.mv 3 10, none)]))
   (.seq (.kill [3] [] (.region [
       (.mv 11 3, none),
       (.mv 2 11, none)]))
    .ret))))
theorem okRef01Text : okFn Try.prog Try.f34 irRef01Text [.t 2] [] 1 = true := by kernel_rfl

-- consistoryref02.Bytes
-- consistoryref02.Bytes: args [71]; lent []; rs [.t 2]; loops: L1 keeps [1, 3, 4] []
def irRef02Bytes_L1 : IR := (.seq (.seq (.kill [1, 3, 4] [] (.region [
      (.p 5 .id [.t 4], none),
      (.p 6 (.bin .lss) [.t 5, .c (.pv (.int .i64 32))], none)]))
   (.cond (.t 6)
    .skip
    (.exit 0)))
  (.seq (.block 1 (.kill [1, 3, 4] [] (.region [
       (.mv 9 3, none),
       (.p 10 .id [.t 4], none),
       (.p 11 (.indexAddr (some 32) 1) [.t 1, .t 10], none),
       (.load 12 none (some 9999) (.t 11), none),
       (.bslice 13 5 1 1 [.int .u8 0] [(0, .t 12)], none),
       (.app 14 5 1 9 none (.t 13), none),
       (.mv 3 14, none)])))
   (.kill [1, 3, 4] [] (.region [
      (.p 7 .id [.t 4], none),
      (.p 8 (.bin .add) [.t 7, .c (.pv (.int .i64 1))], none),
      (.p 4 .id [.t 8], none)]))))
def irRef02Bytes : IR := (.seq (.region [
    (.rbox 1 (.t 0), none),
    (.p 2 .id [.c (.os 5 1 [])], none)])
 (.seq (.kill [1] [] (.region [
     (.p 3 .id [.c (.os 5 1 [])], none)]))
  (.seq (.seq (.kill [1, 3] [] (.region [
       (.p 4 .id [.c (.pv (.int .i64 0))], none)]))
    (.block 0 (.loop (.kill [1, 3, 4] [] irRef02Bytes_L1))))
   (.seq (.kill [3] [] (.region [
       (.mv 15 3, none),
       (.mv 2 15, none)]))
    .ret))))
theorem okRef02Bytes : okFn Try.prog Try.f35 irRef02Bytes [.t 2] [] 1 = true := by kernel_rfl

-- nums.PutText
-- nums.PutText: args [22, 22]; lent []; rs [.t 4]; loops: 
def irNumsPutText : IR := (.seq (.region [
    (.p 4 .id [.c (.os 5 1 [])], none)])
 (.seq (.kill [0, 1] [] (.region [
     (.mv 5 0, none),
     (.p 6 .id [.t 1], none),
     (.p 7 (.len none) [.t 6], none),
     (.p 8 (.conv .u64) [.t 7], none),
     (.call 9 57 [.t 5, .t 8] [] [] [], none),
     (.p 10 .id [.t 1], none),
     (.app 11 5 1 9 none (.t 10), none),
     (.mv 4 11, none)]))
  .ret))
theorem okNumsPutText : okFn Try.prog Try.f46 irNumsPutText [.t 4] [] 2 = true := by kernel_rfl

-- consistoryref01.Packed
-- consistoryref01.Packed: args [42]; lent []; rs [.t 2]; loops: L1 keeps [0, 3] []
def irRef01Packed_L1 : IR := (.seq (.seq (.kill [0, 3] [] (.region [
      (.p 4 .id [.t 0], none),
      (.p 5 (.bin .gtr) [.t 4, .c (.pv (.int .u64 127))], none)]))
   (.cond (.t 5)
    .skip
    (.exit 0)))
  (.block 1 (.seq (.kill [0, 3] [] (.region [
       (.mv 6 3, none),
       (.p 7 .id [.t 0], none),
       (.p 8 (.bin .rem) [.t 7, .c (.pv (.int .u64 128))], none),
       (.p 9 (.bin .add) [.t 8, .c (.pv (.int .u64 128))], none),
       (.p 10 (.conv .u8) [.t 9], none),
       (.bslice 11 5 1 1 [.int .u8 0] [(0, .t 10)], none),
       (.app 12 5 1 6 none (.t 11), none),
       (.mv 3 12, none)]))
    (.kill [0, 3] [] (.region [
       (.p 13 .id [.t 0], none),
       (.p 14 (.bin .quo) [.t 13, .c (.pv (.int .u64 128))], none),
       (.p 0 .id [.t 14], none)])))))
def irRef01Packed : IR := (.seq (.region [
    (.p 2 .id [.c (.os 5 1 [])], none)])
 (.seq (.kill [0] [] (.region [
     (.p 3 .id [.c (.os 5 1 [])], none)]))
  (.seq (.block 0 (.loop (.kill [0, 3] [] irRef01Packed_L1)))
   (.seq (.kill [0, 3] [] (.region [
       (.mv 15 3, none),
       (.p 16 .id [.t 0], none),
       (.p 17 (.conv .u8) [.t 16], none),
       (.bslice 18 5 1 1 [.int .u8 0] [(0, .t 17)], none),
       (.app 19 5 1 15 none (.t 18), none),
       (.mv 3 19, none)]))
    (.seq (.kill [3] [] (.region [
        (.mv 20 3, none),
        (.mv 2 20, none)]))
     .ret)))))
theorem okRef01Packed : okFn Try.prog Try.f49 irRef01Packed [.t 2] [] 1 = true := by kernel_rfl

-- nums.PutPacked
-- nums.PutPacked: args [22, 42]; lent []; rs [.t 4]; loops: L1 keeps [1, 5] []
def irNumsPutPacked_L1 : IR := (.seq (.seq (.kill [1, 5] [] (.region [
      (.p 8 .id [.t 1], none),
      (.p 9 (.bin .geq) [.t 8, .c (.pv (.int .u64 128))], none)]))
   (.cond (.t 9)
    .skip
    (.exit 0)))
  (.block 1 (.seq (.kill [1, 5] [] (.region [
       (.mv 10 5, none),
       (.p 11 .id [.t 1], none),
       (.p 12 (.conv .u8) [.t 11], none),
       (.p 13 (.bin .or) [.t 12, .c (.pv (.int .u8 128))], none),
       (.bslice 14 5 1 1 [.int .u8 0] [(0, .t 13)], none),
       (.app 15 5 1 10 none (.t 14), none),
       (.mv 5 15, none)]))
    (.kill [1, 5] [] (.region [
       (.p 16 .id [.t 1], none),
       (.p 17 (.bin .shr) [.t 16, .c (.pv (.int .u64 7))], none),
       (.p 1 .id [.t 17], none)])))))
def irNumsPutPacked : IR := (.seq (.region [
    (.p 4 .id [.c (.os 5 1 [])], none)])
 (.seq (.kill [0, 1] [] (.region [
     (.mv 6 0, none),
     (.call 7 26 [.t 6] [] [] [], none),
     (.mv 5 7, none)]))
  (.seq (.block 0 (.loop (.kill [1, 5] [] irNumsPutPacked_L1)))
   (.seq (.kill [1, 5] [] (.region [
       (.mv 18 5, none),
       (.p 19 .id [.t 1], none),
       (.p 20 (.conv .u8) [.t 19], none),
       (.bslice 21 5 1 1 [.int .u8 0] [(0, .t 20)], none),
       (.app 22 5 1 18 none (.t 21), none),
       (.mv 4 22, none)]))
    .ret))))
theorem okNumsPutPacked : okFn Try.prog Try.f57 irNumsPutPacked [.t 4] [] 2 = true := by kernel_rfl

end Go.Proofs.Ytlbfpnckoblppaa
