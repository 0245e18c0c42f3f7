/- The abstract code of functions, printed by gen_ir.py out of the program's form in Lean; each is checked against it. -/
import Derived.Test.YtljnacchbbdahaaProg
import Derived.Test.YtljnacchbbdahaaAbs2
set_option linter.unusedVariables false
set_option linter.unusedSimpArgs false
set_option maxRecDepth 100000
namespace Go.Proofs.Ytljnacchbbdahaa
open Go.Abs
-- consistoryref02.Bytes
-- consistoryref02.Bytes: args [23]; lent []; rs [.t 2]; loops: L1 keeps [1, 3, 4] []
def irRef02Bytes_L1 : IR := (.seq (.seq (.kill [1, 3, 4] [] (.region [
      (.p 5 .id [.t 4], none),
      (.p 6 (.bin .lss) [.t 5, .c (.pv (.int .i64 32))], none)]))
   (.cond (.t 6)
    .skip
    (.exit 0)))
  (.seq (.block 1 (.kill [1, 3, 4] [] (.region [
       (.mv 9 3, none),
       (.p 10 .id [.t 4], none),
       (.p 11 (.indexAddr (some 32) 1) [.t 1, .t 10], none),
       (.load 12 none (some 9999) (.t 11), none),
       (.bslice 13 5 1 1 [.int .u8 0] [(0, .t 12)], none),
       (.app 14 5 1 9 none (.t 13), none),
       (.mv 3 14, none)])))
   (.kill [1, 3, 4] [] (.region [
      (.p 7 .id [.t 4], none),
      (.p 8 (.bin .add) [.t 7, .c (.pv (.int .i64 1))], none),
      (.p 4 .id [.t 8], none)]))))
def irRef02Bytes : IR := (.seq (.region [
    (.rbox 1 (.t 0), none),
    (.p 2 .id [.c (.os 5 1 [])], none)])
 (.seq (.kill [1] [] (.region [
     (.p 3 .id [.c (.os 5 1 [])], none)]))
  (.seq (.seq (.kill [1, 3] [] (.region [
       (.p 4 .id [.c (.pv (.int .i64 0))], none)]))
    (.block 0 (.loop (.kill [1, 3, 4] [] irRef02Bytes_L1))))
   (.seq (.kill [3] [] (.region [
       (.mv 15 3, none),
       (.mv 2 15, none)]))
    .ret))))
theorem okRef02Bytes : okFn Try.prog Try.f36 irRef02Bytes [.t 2] [] 1 = true := by kernel_rfl

end Go.Proofs.Ytljnacchbbdahaa
