/- The abstract code of functions, printed by gen_ir.py out of the program's form in Lean; each is checked against it. -/
import Derived.Test.YtaekbkjckahccaaDoorProg
import Derived.Test.YtaekbkjckahccaaDoorAbs2
set_option linter.unusedVariables false
set_option linter.unusedSimpArgs false
set_option maxRecDepth 100000
namespace Go.Proofs.YtaekbkjckahccaaDoor
open Go.Abs
-- math/bits.OnesCount16
-- math/bits.OnesCount16: args [22]; lent []; rs [.t 2]; loops: 
def strMathBitsOnesCount16_1 : ByteArray := ⟨#[0, 1, 1, 2, 1, 2, 2, 3, 1, 2, 2, 3, 2, 3, 3, 4, 1, 2, 2, 3, 2, 3, 3, 4, 2, 3, 3, 4, 3, 4, 4, 5, 1, 2, 2, 3, 2, 3, 3, 4, 2, 3, 3, 4, 3, 4, 4, 5, 2, 3, 3, 4, 3, 4, 4, 5, 3, 4, 4, 5, 4, 5, 5, 6, 1, 2, 2, 3, 2, 3, 3, 4, 2, 3, 3, 4, 3, 4, 4, 5, 2, 3, 3, 4, 3, 4, 4, 5, 3, 4, 4, 5, 4, 5, 5, 6, 2, 3, 3, 4, 3, 4, 4, 5, 3, 4, 4, 5, 4, 5, 5, 6, 3, 4, 4, 5, 4, 5, 5, 6, 4, 5, 5, 6, 5, 6, 6, 7, 1, 2, 2, 3, 2, 3, 3, 4, 2, 3, 3, 4, 3, 4, 4, 5, 2, 3, 3, 4, 3, 4, 4, 5, 3, 4, 4, 5, 4, 5, 5, 6, 2, 3, 3, 4, 3, 4, 4, 5, 3, 4, 4, 5, 4, 5, 5, 6, 3, 4, 4, 5, 4, 5, 5, 6, 4, 5, 5, 6, 5, 6, 6, 7, 2, 3, 3, 4, 3, 4, 4, 5, 3, 4, 4, 5, 4, 5, 5, 6, 3, 4, 4, 5, 4, 5, 5, 6, 4, 5, 5, 6, 5, 6, 6, 7, 3, 4, 4, 5, 4, 5, 5, 6, 4, 5, 5, 6, 5, 6, 6, 7, 4, 5, 5, 6, 5, 6, 6, 7, 5, 6, 6, 7, 6, 7, 7, 8]⟩
def irMathBitsOnesCount16 : IR := (.seq (.region [
    (.p 2 .id [.c (.pv (.int .i64 0))], none)])
 (.seq (.kill [0] [] (.region [
     (.p 3 .id [.t 0], none),
     (.p 4 (.bin .shr) [.t 3, .c (.pv (.int .u64 8))], none),
     (.p 5 .sidx [.c (.pv (.str strMathBitsOnesCount16_1)), .t 4], none),
     (.p 6 .id [.t 0], none),
     (.p 7 (.bin .and) [.t 6, .c (.pv (.int .u16 255))], none),
     (.p 8 .sidx [.c (.pv (.str strMathBitsOnesCount16_1)), .t 7], none),
     (.p 9 (.bin .add) [.t 5, .t 8], none),
     (.p 10 (.conv .i64) [.t 9], none),
     (.p 2 .id [.t 10], none)]))
  .ret))
theorem okMathBitsOnesCount16 : okFn Tryd.prog Tryd.f45 irMathBitsOnesCount16 [.t 2] [] 1 = true := by kernel_rfl

-- math/bits.TrailingZeros16
-- math/bits.TrailingZeros16: args [22]; lent []; rs [.t 2]; loops: 
def irMathBitsTrailingZeros16 : IR := (.seq (.region [
    (.p 2 .id [.c (.pv (.int .i64 0))], none)])
 (.seq (.seq (.kill [0] [] (.region [
      (.p 3 .id [.t 0], none),
      (.p 4 (.bin .eql) [.t 3, .c (.pv (.int .u16 0))], none)]))
   (.cond (.t 4)
    (.seq (.kill [] [] (.region [
        (.p 2 .id [.c (.pv (.int .i64 16))], none)]))
     .ret)
    .skip))
  (.seq (.kill [0] [] (.region [
      (.p 5 .id [.t 0], none),
      (.p 6 .id [.t 0], none),
      (.p 7 (.un .neg) [.t 6], none),
      (.p 8 (.bin .and) [.t 5, .t 7], none),
      (.p 9 (.conv .u32) [.t 8], none),
      (.p 10 (.bin .mul) [.t 9, .c (.pv (.int .u32 125613361))], none),
      (.p 11 (.bin .shr) [.t 10, .c (.pv (.int .u64 27))], none),
      (.gidx 12 deBruijn (.t 11), none),
      (.load 13 none (some 9999) (.t 12), none),
      (.p 14 (.conv .i64) [.t 13], none),
      (.p 2 .id [.t 14], none)]))
   .ret)))
theorem okMathBitsTrailingZeros16 : okFn Tryd.prog Tryd.f36 irMathBitsTrailingZeros16 [.t 2] [] 1 = true := by kernel_rfl

-- views.count
-- views.count: args [24]; lent []; rs [.t 2]; loops: 
def irViewsCount : IR := (.seq (.region [
    (.box 1 (.t 0), none),
    (.p 2 .id [.c (.pv (.int .i64 0))], none)])
 (.seq (.kill [1] [1] (.region [
     (.p 3 (.fieldAddr 1) [.t 1], none),
     (.load 4 none (some 1) (.t 3), none),
     (.call 5 45 [.t 4] [] [] [], none),
     (.p 2 .id [.t 5], none)]))
  .ret))
theorem okViewsCount : okFn Tryd.prog Tryd.f34 irViewsCount [.t 2] [] 1 = true := by kernel_rfl

-- views.Right
-- views.Right: args [24]; lent []; rs [.t 2]; loops: 
def irViewsRight : IR := (.seq (.region [
    (.box 1 (.t 0), none),
    (.p 2 .id [.c (.pv (.bool false))], none)])
 (.seq (.kill [1] [1] (.region [
     (.load 4 (some (2, true)) (some 1) (.t 1), none),
     (.call 5 34 [.t 4] [] [] [], none),
     (.p 3 .id [.t 5], none)]))
  (.seq (.kill [1, 3] [1] (.region [
      (.p 6 (.fieldAddr 0) [.t 1], none),
      (.load 7 none (some 1) (.t 6), none),
      (.p 8 (.bin .geq) [.t 7, .c (.pv (.int .i64 0))], none),
      (.p 9 .id [.t 8], none),
      (.p 10 (.fieldAddr 0) [.t 1], some (9, true)),
      (.load 11 none (some 1) (.t 10), some (9, true)),
      (.p 12 (.bin .leq) [.t 11, .c (.pv (.int .i64 60))], some (9, true)),
      (.p 13 .pick [.t 9, .t 12, .c (.pv (.bool false))], none),
      (.p 14 .id [.t 13], none),
      (.p 15 .id [.t 3], some (14, true)),
      (.p 16 (.bin .geq) [.t 15, .c (.pv (.int .i64 4))], some (14, true)),
      (.p 17 .pick [.t 14, .t 16, .c (.pv (.bool false))], none),
      (.p 18 .id [.t 17], none),
      (.p 19 .id [.t 3], some (18, true)),
      (.p 20 (.bin .leq) [.t 19, .c (.pv (.int .i64 7))], some (18, true)),
      (.p 21 .pick [.t 18, .t 20, .c (.pv (.bool false))], none),
      (.p 2 .id [.t 21], none)]))
   .ret)))
theorem okViewsRight : okFn Tryd.prog Tryd.f9 irViewsRight [.t 2] [] 1 = true := by kernel_rfl

-- views.Next
-- views.Next: args [24, 2]; lent []; rs [.cell 4 (some (2, true)), .t 5]; loops: 
def irViewsNext : IR := (.seq (.region [
    (.box 2 (.t 0), none),
    (.alloc 4 (.pagg [.int .i64 0, .int .u16 0]), none),
    (.p 5 .id [.c (.pv (.int .i64 0))], none)])
 (.seq (.seq (.kill [1, 2, 4] [2, 4] (.region [
      (.load 7 (some (2, true)) (some 2) (.t 2), none),
      (.call 8 9 [.t 7] [] [] [], none),
      (.p 9 (.un .not) [.t 8], none),
      (.p 10 .id [.t 9], none),
      (.p 11 .id [.t 1], some (10, false)),
      (.p 12 (.bin .lss) [.t 11, .c (.pv (.int .i64 0))], some (10, false)),
      (.p 13 .pick [.t 10, .c (.pv (.bool true)), .t 12], none),
      (.p 14 .id [.t 13], none),
      (.p 15 .id [.t 1], some (14, false)),
      (.p 16 (.bin .gtr) [.t 15, .c (.pv (.int .i64 65535))], some (14, false)),
      (.p 17 .pick [.t 14, .c (.pv (.bool true)), .t 16], none)]))
   (.cond (.t 17)
    (.seq (.kill [4] [4] (.region [
        (.build 18 (.pagg [.int .i64 0, .int .u16 0]) [], none),
        (.store (some (2, true)) (some 4) (.t 4) (.t 18), none),
        (.p 5 .id [.c (.pv (.int .i64 3))], none)]))
     .ret)
    .skip))
  (.seq (.kill [1, 2, 4] [2, 4] (.region [
      (.p 19 (.fieldAddr 0) [.t 2], none),
      (.load 20 none (some 2) (.t 19), none),
      (.p 21 (.bin .add) [.t 20, .c (.pv (.int .i64 1))], none),
      (.p 22 .id [.t 1], none),
      (.p 23 (.conv .u16) [.t 22], none),
      (.build 24 (.pagg [.int .i64 0, .int .u16 0]) [(0, 1, .t 21), (1, 1, .t 23)], none),
      (.alloc 6 (.pagg [.int .i64 0, .int .u16 0]), none),
      (.store (some (2, true)) (some 6) (.t 6) (.t 24), none)]))
   (.seq (.seq (.kill [4, 6] [4, 6] (.region [
        (.load 25 (some (2, true)) (some 6) (.t 6), none),
        (.call 26 9 [.t 25] [] [] [], none),
        (.p 27 (.un .not) [.t 26], none)]))
     (.cond (.t 27)
      (.seq (.kill [4] [4] (.region [
          (.build 28 (.pagg [.int .i64 0, .int .u16 0]) [], none),
          (.store (some (2, true)) (some 4) (.t 4) (.t 28), none),
          (.p 5 .id [.c (.pv (.int .i64 3))], none)]))
       .ret)
      .skip))
    (.seq (.kill [4, 6] [4, 6] (.region [
        (.load 29 (some (2, true)) (some 6) (.t 6), none),
        (.store (some (2, true)) (some 4) (.t 4) (.t 29), none),
        (.p 5 .id [.c (.pv (.int .i64 0))], none)]))
     .ret)))))
theorem okViewsNext : okFn Tryd.prog Tryd.f27 irViewsNext [.cell 4 (some (2, true)), .t 5] [] 2 = true := by kernel_rfl

-- views.Members
-- views.Members: args [24]; lent []; rs [.t 2]; loops: L1 keeps [3, 4] []
def irViewsMembers_L1 : IR := (.seq (.seq (.kill [3, 4] [] (.region [
      (.p 7 .id [.t 4], none),
      (.p 8 (.bin .neq) [.t 7, .c (.pv (.int .u16 0))], none)]))
   (.cond (.t 8)
    .skip
    (.exit 0)))
  (.seq (.block 1 (.kill [3, 4] [] (.region [
       (.mv 13 3, none),
       (.p 14 .id [.t 4], none),
       (.call 15 36 [.t 14] [] [] [], none),
       (.bslice 16 3 1 1 [.int .i64 0] [(0, .t 15)], none),
       (.app 17 3 1 13 none (.t 16), none),
       (.mv 3 17, none)])))
   (.kill [3, 4] [] (.region [
      (.p 9 .id [.t 4], none),
      (.p 10 .id [.t 4], none),
      (.p 11 (.bin .sub) [.t 10, .c (.pv (.int .u16 1))], none),
      (.p 12 (.bin .and) [.t 9, .t 11], none),
      (.p 4 .id [.t 12], none)]))))
def irViewsMembers : IR := (.seq (.region [
    (.box 1 (.t 0), none),
    (.p 2 .id [.c (.os 3 1 [])], none)])
 (.seq (.kill [1] [1] (.region [
     (.p 3 .id [.c (.os 3 1 [])], none)]))
  (.seq (.seq (.kill [1, 3] [1] (.region [
       (.p 5 (.fieldAddr 1) [.t 1], none),
       (.load 6 none (some 1) (.t 5), none),
       (.p 4 .id [.t 6], none)]))
    (.block 0 (.loop (.kill [3, 4] [] irViewsMembers_L1))))
   (.seq (.kill [3] [] (.region [
       (.mv 18 3, none),
       (.mv 2 18, none)]))
    .ret))))
theorem okViewsMembers : okFn Tryd.prog Tryd.f11 irViewsMembers [.t 2] [] 1 = true := by kernel_rfl

-- views.Has
-- views.Has: args [24, 3]; lent []; rs [.t 4]; loops: 
def irViewsHas : IR := (.seq (.region [
    (.box 2 (.t 0), none),
    (.p 4 .id [.c (.pv (.bool false))], none)])
 (.seq (.kill [1, 2] [2] (.region [
     (.p 5 .id [.t 1], none),
     (.p 6 (.bin .geq) [.t 5, .c (.pv (.int .i64 0))], none),
     (.p 7 .id [.t 6], none),
     (.p 8 .id [.t 1], some (7, true)),
     (.p 9 (.bin .lss) [.t 8, .c (.pv (.int .i64 16))], some (7, true)),
     (.p 10 .pick [.t 7, .t 9, .c (.pv (.bool false))], none),
     (.p 11 .id [.t 10], none),
     (.p 12 (.fieldAddr 1) [.t 2], some (11, true)),
     (.load 13 none (some 2) (.t 12), some (11, true)),
     (.p 14 .id [.t 1], some (11, true)),
     (.p 15 (.bin .shr) [.t 13, .t 14], some (11, true)),
     (.p 16 (.bin .and) [.t 15, .c (.pv (.int .u16 1))], some (11, true)),
     (.p 17 (.bin .neq) [.t 16, .c (.pv (.int .u16 0))], some (11, true)),
     (.p 18 .pick [.t 11, .t 17, .c (.pv (.bool false))], none),
     (.p 4 .id [.t 18], none)]))
  .ret))
theorem okViewsHas : okFn Tryd.prog Tryd.f12 irViewsHas [.t 4] [] 2 = true := by kernel_rfl

-- views.size
-- views.size: args [24]; lent []; rs [.t 2]; loops: 
def irViewsSize : IR := (.seq (.region [
    (.box 1 (.t 0), none),
    (.p 2 .id [.c (.pv (.int .i64 0))], none)])
 (.seq (.seq (.kill [1] [1] (.region [
      (.load 3 (some (2, true)) (some 1) (.t 1), none),
      (.build 4 (.pagg [.int .i64 0, .int .u16 0]) [], none),
      (.p 5 (.seq false [.i .i64, .i .u16]) [.t 3, .t 4], none),
      (.p 6 .id [.t 5], none),
      (.load 7 (some (2, true)) (some 1) (.t 1), some (6, false)),
      (.call 8 9 [.t 7] [] [] [], some (6, false)),
      (.p 9 (.un .not) [.t 8], some (6, false)),
      (.p 10 .pick [.t 6, .c (.pv (.bool true)), .t 9], none)]))
   (.cond (.t 10)
    (.seq (.kill [] [] (.region [
        (.p 2 .id [.c (.pv (.int .i64 0))], none)]))
     .ret)
    .skip))
  (.seq (.kill [1] [1] (.region [
      (.load 11 (some (2, true)) (some 1) (.t 1), none),
      (.call 12 34 [.t 11] [] [] [], none),
      (.p 2 .id [.t 12], none)]))
   .ret)))
theorem okViewsSize : okFn Tryd.prog Tryd.f35 irViewsSize [.t 2] [] 1 = true := by kernel_rfl

-- views.Faults
-- views.Faults: args [24]; lent []; rs [.t 2]; loops: 
def irViewsFaults : IR := (.seq (.region [
    (.box 1 (.t 0), none),
    (.p 2 .id [.c (.pv (.int .i64 0))], none)])
 (.seq (.kill [1] [1] (.region [
     (.load 3 (some (2, true)) (some 1) (.t 1), none),
     (.call 4 35 [.t 3] [] [] [], none),
     (.p 5 (.bin .sub) [.t 4, .c (.pv (.int .i64 1))], none),
     (.p 6 (.mm true) [.t 5, .c (.pv (.int .i64 0))], none),
     (.p 7 (.bin .quo) [.t 6, .c (.pv (.int .i64 3))], none),
     (.p 2 .id [.t 7], none)]))
  .ret))
theorem okViewsFaults : okFn Tryd.prog Tryd.f16 irViewsFaults [.t 2] [] 1 = true := by kernel_rfl

-- views.Quorum
-- views.Quorum: args [24]; lent []; rs [.t 2]; loops: 
def irViewsQuorum : IR := (.seq (.region [
    (.box 1 (.t 0), none),
    (.p 2 .id [.c (.pv (.int .i64 0))], none)])
 (.seq (.kill [1] [1] (.region [
     (.load 4 (some (2, true)) (some 1) (.t 1), none),
     (.call 5 35 [.t 4] [] [] [], none),
     (.p 3 .id [.t 5], none)]))
  (.seq (.seq (.kill [1, 3] [1] (.region [
       (.p 6 .id [.t 3], none),
       (.p 7 (.bin .eql) [.t 6, .c (.pv (.int .i64 0))], none)]))
    (.cond (.t 7)
     (.seq (.kill [] [] (.region [
         (.p 2 .id [.c (.pv (.int .i64 0))], none)]))
      .ret)
     .skip))
   (.seq (.kill [1, 3] [1] (.region [
       (.p 8 .id [.t 3], none),
       (.load 9 (some (2, true)) (some 1) (.t 1), none),
       (.call 10 16 [.t 9] [] [] [], none),
       (.p 11 (.bin .add) [.t 8, .t 10], none),
       (.p 12 (.bin .quo) [.t 11, .c (.pv (.int .i64 2))], none),
       (.p 13 (.bin .add) [.t 12, .c (.pv (.int .i64 1))], none),
       (.p 2 .id [.t 13], none)]))
    .ret))))
theorem okViewsQuorum : okFn Tryd.prog Tryd.f17 irViewsQuorum [.t 2] [] 1 = true := by kernel_rfl

-- views.Enough
-- views.Enough: args [24]; lent []; rs [.t 2]; loops: 
def irViewsEnough : IR := (.seq (.region [
    (.box 1 (.t 0), none),
    (.p 2 .id [.c (.pv (.int .i64 0))], none)])
 (.seq (.kill [1] [1] (.region [
     (.load 3 (some (2, true)) (some 1) (.t 1), none),
     (.call 4 35 [.t 3] [] [] [], none),
     (.load 5 (some (2, true)) (some 1) (.t 1), none),
     (.call 6 16 [.t 5] [] [] [], none),
     (.p 7 (.bin .sub) [.t 4, .t 6], none),
     (.p 2 .id [.t 7], none)]))
  .ret))
theorem okViewsEnough : okFn Tryd.prog Tryd.f18 irViewsEnough [.t 2] [] 1 = true := by kernel_rfl

-- views.Some
-- views.Some: args [24]; lent []; rs [.t 2]; loops: 
def irViewsSome : IR := (.seq (.region [
    (.box 1 (.t 0), none),
    (.p 2 .id [.c (.pv (.int .i64 0))], none)])
 (.seq (.seq (.kill [1] [1] (.region [
      (.load 3 (some (2, true)) (some 1) (.t 1), none),
      (.call 4 35 [.t 3] [] [] [], none),
      (.p 5 (.bin .eql) [.t 4, .c (.pv (.int .i64 0))], none)]))
   (.cond (.t 5)
    (.seq (.kill [] [] (.region [
        (.p 2 .id [.c (.pv (.int .i64 0))], none)]))
     .ret)
    .skip))
  (.seq (.kill [1] [1] (.region [
      (.load 6 (some (2, true)) (some 1) (.t 1), none),
      (.call 7 16 [.t 6] [] [] [], none),
      (.p 8 (.bin .add) [.t 7, .c (.pv (.int .i64 1))], none),
      (.p 2 .id [.t 8], none)]))
   .ret)))
theorem okViewsSome : okFn Tryd.prog Tryd.f19 irViewsSome [.t 2] [] 1 = true := by kernel_rfl

-- views.Leader
-- views.Leader: args [24, 3]; lent []; rs [.t 4]; loops: 
def irViewsLeader : IR := (.seq (.region [
    (.box 2 (.t 0), none),
    (.p 4 .id [.c (.pv (.int .i64 0))], none)])
 (.seq (.kill [1, 2] [2] (.region [
     (.load 6 (some (2, true)) (some 2) (.t 2), none),
     (.call 7 35 [.t 6] [] [] [], none),
     (.p 5 .id [.t 7], none)]))
  (.seq (.seq (.kill [1, 2, 5] [2] (.region [
       (.p 8 .id [.t 5], none),
       (.p 9 (.bin .eql) [.t 8, .c (.pv (.int .i64 0))], none),
       (.p 10 .id [.t 9], none),
       (.p 11 .id [.t 1], some (10, false)),
       (.p 12 (.bin .lss) [.t 11, .c (.pv (.int .i64 0))], some (10, false)),
       (.p 13 .pick [.t 10, .c (.pv (.bool true)), .t 12], none)]))
    (.cond (.t 13)
     (.seq (.kill [] [] (.region [
         (.p 4 .id [.c (.pv (.int .i64 (-1)))], none)]))
      .ret)
     .skip))
   (.seq (.kill [1, 2, 5] [2] (.region [
       (.load 14 (some (2, true)) (some 2) (.t 2), none),
       (.call 15 11 [.t 14] [] [] [], none),
       (.p 16 .id [.t 1], none),
       (.p 17 .id [.t 5], none),
       (.p 18 (.bin .rem) [.t 16, .t 17], none),
       (.p 19 (.indexAddr none 1) [.t 15, .t 18], none),
       (.load 20 none (some 9999) (.t 19), none),
       (.p 4 .id [.t 20], none)]))
    .ret))))
theorem okViewsLeader : okFn Tryd.prog Tryd.f10 irViewsLeader [.t 4] [] 2 = true := by kernel_rfl

-- consistoryref06.Members
-- consistoryref06.Members: args [24]; lent []; rs [.t 2]; loops: L1 keeps [3, 4, 5] []
def irRef06Members_L1 : IR := (.seq (.seq (.kill [3, 4, 5] [] (.region [
      (.p 9 .id [.t 5], none),
      (.p 10 (.bin .lss) [.t 9, .c (.pv (.int .i64 16))], none)]))
   (.cond (.t 10)
    .skip
    (.exit 0)))
  (.seq (.block 1 (.seq (.seq (.kill [3, 4, 5] [] (.region [
         (.p 13 .id [.t 4], none),
         (.p 14 (.bin .rem) [.t 13, .c (.pv (.int .i64 2))], none),
         (.p 15 (.bin .eql) [.t 14, .c (.pv (.int .i64 1))], none)]))
      (.cond (.t 15)
       (.kill [3, 4, 5] [] (.region [
          (.mv 16 3, none),
          (.p 17 .id [.t 5], none),
          (.bslice 18 3 1 1 [.int .i64 0] [(0, .t 17)], none),
          (.app 19 3 1 16 none (.t 18), none),
          (.mv 3 19, none)]))
       .skip))
     (.kill [3, 4, 5] [] (.region [
        (.p 20 .id [.t 4], none),
        (.p 21 (.bin .quo) [.t 20, .c (.pv (.int .i64 2))], none),
        (.p 4 .id [.t 21], none)]))))
   (.kill [3, 4, 5] [] (.region [
      (.p 11 .id [.t 5], none),
      (.p 12 (.bin .add) [.t 11, .c (.pv (.int .i64 1))], none),
      (.p 5 .id [.t 12], none)]))))
def irRef06Members : IR := (.seq (.region [
    (.box 1 (.t 0), none),
    (.p 2 .id [.c (.os 3 1 [])], none)])
 (.seq (.kill [1] [1] (.region [
     (.p 3 .id [.c (.os 3 1 [])], none)]))
  (.seq (.kill [1, 3] [1] (.region [
      (.p 6 (.fieldAddr 1) [.t 1], none),
      (.load 7 none (some 1) (.t 6), none),
      (.p 8 (.conv .i64) [.t 7], none),
      (.p 4 .id [.t 8], none)]))
   (.seq (.seq (.kill [3, 4] [] (.region [
        (.p 5 .id [.c (.pv (.int .i64 0))], none)]))
     (.block 0 (.loop (.kill [3, 4, 5] [] irRef06Members_L1))))
    (.seq (.kill [3] [] (.region [
        (.mv 22 3, none),
        (.mv 2 22, none)]))
     .ret)))))
theorem okRef06Members : okFn Tryd.prog Tryd.f15 irRef06Members [.t 2] [] 1 = true := by kernel_rfl

-- consistoryref06.Right
-- consistoryref06.Right: args [24]; lent []; rs [.t 2]; loops: 
def irRef06Right : IR := (.seq (.region [
    (.box 1 (.t 0), none),
    (.p 2 .id [.c (.pv (.bool false))], none)])
 (.seq (.kill [1] [1] (.region [
     (.load 4 (some (2, true)) (some 1) (.t 1), none),
     (.call 5 15 [.t 4] [] [] [], none),
     (.p 6 (.len none) [.t 5], none),
     (.p 3 .id [.t 6], none)]))
  (.seq (.kill [1, 3] [1] (.region [
      (.p 7 (.fieldAddr 0) [.t 1], none),
      (.load 8 none (some 1) (.t 7), none),
      (.p 9 (.bin .geq) [.t 8, .c (.pv (.int .i64 0))], none),
      (.p 10 .id [.t 9], none),
      (.p 11 (.fieldAddr 0) [.t 1], some (10, true)),
      (.load 12 none (some 1) (.t 11), some (10, true)),
      (.p 13 (.bin .leq) [.t 12, .c (.pv (.int .i64 60))], some (10, true)),
      (.p 14 .pick [.t 10, .t 13, .c (.pv (.bool false))], none),
      (.p 15 .id [.t 14], none),
      (.p 16 .id [.t 3], some (15, true)),
      (.p 17 (.bin .geq) [.t 16, .c (.pv (.int .i64 4))], some (15, true)),
      (.p 18 .pick [.t 15, .t 17, .c (.pv (.bool false))], none),
      (.p 19 .id [.t 18], none),
      (.p 20 .id [.t 3], some (19, true)),
      (.p 21 (.bin .leq) [.t 20, .c (.pv (.int .i64 7))], some (19, true)),
      (.p 22 .pick [.t 19, .t 21, .c (.pv (.bool false))], none),
      (.p 2 .id [.t 22], none)]))
   .ret)))
theorem okRef06Right : okFn Tryd.prog Tryd.f13 irRef06Right [.t 2] [] 1 = true := by kernel_rfl

-- consistoryref06.Next
-- consistoryref06.Next: args [24, 2]; lent []; rs [.cell 4 (some (2, true)), .t 5]; loops: 
def irRef06Next : IR := (.seq (.region [
    (.box 2 (.t 0), none),
    (.alloc 4 (.pagg [.int .i64 0, .int .u16 0]), none),
    (.p 5 .id [.c (.pv (.int .i64 0))], none)])
 (.seq (.seq (.kill [1, 2, 4] [2, 4] (.region [
      (.load 7 (some (2, true)) (some 2) (.t 2), none),
      (.call 8 13 [.t 7] [] [] [], none),
      (.p 9 (.un .not) [.t 8], none),
      (.p 10 .id [.t 9], none),
      (.p 11 .id [.t 1], some (10, false)),
      (.p 12 (.bin .lss) [.t 11, .c (.pv (.int .i64 0))], some (10, false)),
      (.p 13 .pick [.t 10, .c (.pv (.bool true)), .t 12], none),
      (.p 14 .id [.t 13], none),
      (.p 15 .id [.t 1], some (14, false)),
      (.p 16 (.bin .gtr) [.t 15, .c (.pv (.int .i64 65535))], some (14, false)),
      (.p 17 .pick [.t 14, .c (.pv (.bool true)), .t 16], none)]))
   (.cond (.t 17)
    (.seq (.kill [4] [4] (.region [
        (.build 18 (.pagg [.int .i64 0, .int .u16 0]) [], none),
        (.store (some (2, true)) (some 4) (.t 4) (.t 18), none),
        (.p 5 .id [.c (.pv (.int .i64 3))], none)]))
     .ret)
    .skip))
  (.seq (.kill [1, 2, 4] [2, 4] (.region [
      (.p 19 (.fieldAddr 0) [.t 2], none),
      (.load 20 none (some 2) (.t 19), none),
      (.p 21 (.bin .add) [.t 20, .c (.pv (.int .i64 1))], none),
      (.p 22 .id [.t 1], none),
      (.p 23 (.conv .u16) [.t 22], none),
      (.build 24 (.pagg [.int .i64 0, .int .u16 0]) [(0, 1, .t 21), (1, 1, .t 23)], none),
      (.alloc 6 (.pagg [.int .i64 0, .int .u16 0]), none),
      (.store (some (2, true)) (some 6) (.t 6) (.t 24), none)]))
   (.seq (.seq (.kill [4, 6] [4, 6] (.region [
        (.load 25 (some (2, true)) (some 6) (.t 6), none),
        (.call 26 13 [.t 25] [] [] [], none),
        (.p 27 (.un .not) [.t 26], none)]))
     (.cond (.t 27)
      (.seq (.kill [4] [4] (.region [
          (.build 28 (.pagg [.int .i64 0, .int .u16 0]) [], none),
          (.store (some (2, true)) (some 4) (.t 4) (.t 28), none),
          (.p 5 .id [.c (.pv (.int .i64 3))], none)]))
       .ret)
      .skip))
    (.seq (.kill [4, 6] [4, 6] (.region [
        (.load 29 (some (2, true)) (some 6) (.t 6), none),
        (.store (some (2, true)) (some 4) (.t 4) (.t 29), none),
        (.p 5 .id [.c (.pv (.int .i64 0))], none)]))
     .ret)))))
theorem okRef06Next : okFn Tryd.prog Tryd.f28 irRef06Next [.cell 4 (some (2, true)), .t 5] [] 2 = true := by kernel_rfl

-- consistoryref06.Has
-- consistoryref06.Has: args [24, 3]; lent []; rs [.t 4]; loops: L1 keeps [1, 5, 6] []
def irRef06Has_L1 : IR := (.seq (.seq (.kill [1, 5, 6] [] (.region [
      (.p 9 .id [.t 6], none),
      (.p 10 .id [.t 5], none),
      (.p 11 (.len none) [.t 10], none),
      (.p 12 (.bin .lss) [.t 9, .t 11], none)]))
   (.cond (.t 12)
    .skip
    (.exit 0)))
  (.seq (.block 1 (.seq (.kill [1, 5, 6] [] (.region [
        (.p 15 .id [.t 5], none),
        (.p 16 .id [.t 6], none),
        (.p 17 (.indexAddr none 1) [.t 15, .t 16], none),
        (.load 18 none (some 9999) (.t 17), none),
        (.p 19 .id [.t 1], none),
        (.p 20 (.bin .eql) [.t 18, .t 19], none)]))
     (.cond (.t 20)
      (.seq (.kill [] [] (.region [
          (.p 4 .id [.c (.pv (.bool true))], none)]))
       .ret)
      .skip)))
   (.kill [1, 5, 6] [] (.region [
      (.p 13 .id [.t 6], none),
      (.p 14 (.bin .add) [.t 13, .c (.pv (.int .i64 1))], none),
      (.p 6 .id [.t 14], none)]))))
def irRef06Has : IR := (.seq (.region [
    (.box 2 (.t 0), none),
    (.p 4 .id [.c (.pv (.bool false))], none)])
 (.seq (.kill [1, 2] [2] (.region [
     (.load 7 (some (2, true)) (some 2) (.t 2), none),
     (.call 8 15 [.t 7] [] [] [], none),
     (.mv 5 8, none)]))
  (.seq (.seq (.kill [1, 5] [] (.region [
       (.p 6 .id [.c (.pv (.int .i64 0))], none)]))
    (.block 0 (.loop (.kill [1, 5, 6] [] irRef06Has_L1))))
   (.seq (.kill [] [] (.region [
       (.p 4 .id [.c (.pv (.bool false))], none)]))
    .ret))))
theorem okRef06Has : okFn Tryd.prog Tryd.f21 irRef06Has [.t 4] [] 2 = true := by kernel_rfl

-- consistoryref06.Size
-- consistoryref06.Size: args [24]; lent []; rs [.t 2]; loops: 
def irRef06Size : IR := (.seq (.region [
    (.box 1 (.t 0), none),
    (.p 2 .id [.c (.pv (.int .i64 0))], none)])
 (.seq (.seq (.kill [1] [1] (.region [
      (.load 3 (some (2, true)) (some 1) (.t 1), none),
      (.call 4 13 [.t 3] [] [] [], none),
      (.p 5 (.un .not) [.t 4], none)]))
   (.cond (.t 5)
    (.seq (.kill [] [] (.region [
        (.p 2 .id [.c (.pv (.int .i64 0))], none)]))
     .ret)
    .skip))
  (.seq (.kill [1] [1] (.region [
      (.load 6 (some (2, true)) (some 1) (.t 1), none),
      (.call 7 15 [.t 6] [] [] [], none),
      (.p 8 (.len none) [.t 7], none),
      (.p 2 .id [.t 8], none)]))
   .ret)))
theorem okRef06Size : okFn Tryd.prog Tryd.f37 irRef06Size [.t 2] [] 1 = true := by kernel_rfl

-- consistoryref06.Faults
-- consistoryref06.Faults: args [24]; lent []; rs [.t 2]; loops: 
def irRef06Faults : IR := (.seq (.region [
    (.box 1 (.t 0), none),
    (.p 2 .id [.c (.pv (.int .i64 0))], none)])
 (.seq (.kill [1] [1] (.region [
     (.load 4 (some (2, true)) (some 1) (.t 1), none),
     (.call 5 37 [.t 4] [] [] [], none),
     (.p 3 .id [.t 5], none)]))
  (.seq (.seq (.kill [3] [] (.region [
       (.p 6 .id [.t 3], none),
       (.p 7 (.bin .eql) [.t 6, .c (.pv (.int .i64 7))], none)]))
    (.cond (.t 7)
     (.seq (.kill [] [] (.region [
         (.p 2 .id [.c (.pv (.int .i64 2))], none)]))
      .ret)
     .skip))
   (.seq (.seq (.kill [3] [] (.region [
        (.p 8 .id [.t 3], none),
        (.p 9 (.bin .geq) [.t 8, .c (.pv (.int .i64 4))], none)]))
     (.cond (.t 9)
      (.seq (.kill [] [] (.region [
          (.p 2 .id [.c (.pv (.int .i64 1))], none)]))
       .ret)
      .skip))
    (.seq (.kill [] [] (.region [
        (.p 2 .id [.c (.pv (.int .i64 0))], none)]))
     .ret)))))
theorem okRef06Faults : okFn Tryd.prog Tryd.f22 irRef06Faults [.t 2] [] 1 = true := by kernel_rfl

-- consistoryref06.Quorum
-- consistoryref06.Quorum: args [24]; lent []; rs [.t 2]; loops: 
def irRef06Quorum : IR := (.seq (.region [
    (.box 1 (.t 0), none),
    (.p 2 .id [.c (.pv (.int .i64 0))], none)])
 (.seq (.seq (.kill [1] [1] (.region [
      (.load 3 (some (2, true)) (some 1) (.t 1), none),
      (.call 4 37 [.t 3] [] [] [], none),
      (.p 5 (.bin .eql) [.t 4, .c (.pv (.int .i64 0))], none)]))
   (.cond (.t 5)
    (.seq (.kill [] [] (.region [
        (.p 2 .id [.c (.pv (.int .i64 0))], none)]))
     .ret)
    .skip))
  (.seq (.kill [1] [1] (.region [
      (.load 6 (some (2, true)) (some 1) (.t 1), none),
      (.call 7 37 [.t 6] [] [] [], none),
      (.load 8 (some (2, true)) (some 1) (.t 1), none),
      (.call 9 22 [.t 8] [] [] [], none),
      (.p 10 (.bin .add) [.t 7, .t 9], none),
      (.p 11 (.bin .quo) [.t 10, .c (.pv (.int .i64 2))], none),
      (.p 12 (.bin .add) [.t 11, .c (.pv (.int .i64 1))], none),
      (.p 2 .id [.t 12], none)]))
   .ret)))
theorem okRef06Quorum : okFn Tryd.prog Tryd.f23 irRef06Quorum [.t 2] [] 1 = true := by kernel_rfl

-- consistoryref06.Enough
-- consistoryref06.Enough: args [24]; lent []; rs [.t 2]; loops: 
def irRef06Enough : IR := (.seq (.region [
    (.box 1 (.t 0), none),
    (.p 2 .id [.c (.pv (.int .i64 0))], none)])
 (.seq (.kill [1] [1] (.region [
     (.load 3 (some (2, true)) (some 1) (.t 1), none),
     (.call 4 37 [.t 3] [] [] [], none),
     (.load 5 (some (2, true)) (some 1) (.t 1), none),
     (.call 6 22 [.t 5] [] [] [], none),
     (.p 7 (.bin .sub) [.t 4, .t 6], none),
     (.p 2 .id [.t 7], none)]))
  .ret))
theorem okRef06Enough : okFn Tryd.prog Tryd.f24 irRef06Enough [.t 2] [] 1 = true := by kernel_rfl

-- consistoryref06.Some
-- consistoryref06.Some: args [24]; lent []; rs [.t 2]; loops: 
def irRef06Some : IR := (.seq (.region [
    (.box 1 (.t 0), none),
    (.p 2 .id [.c (.pv (.int .i64 0))], none)])
 (.seq (.seq (.kill [1] [1] (.region [
      (.load 3 (some (2, true)) (some 1) (.t 1), none),
      (.call 4 37 [.t 3] [] [] [], none),
      (.p 5 (.bin .eql) [.t 4, .c (.pv (.int .i64 0))], none)]))
   (.cond (.t 5)
    (.seq (.kill [] [] (.region [
        (.p 2 .id [.c (.pv (.int .i64 0))], none)]))
     .ret)
    .skip))
  (.seq (.kill [1] [1] (.region [
      (.load 6 (some (2, true)) (some 1) (.t 1), none),
      (.call 7 22 [.t 6] [] [] [], none),
      (.p 8 (.bin .add) [.t 7, .c (.pv (.int .i64 1))], none),
      (.p 2 .id [.t 8], none)]))
   .ret)))
theorem okRef06Some : okFn Tryd.prog Tryd.f25 irRef06Some [.t 2] [] 1 = true := by kernel_rfl

-- consistoryref06.Leader
-- consistoryref06.Leader: args [24, 3]; lent []; rs [.t 4]; loops: 
def irRef06Leader : IR := (.seq (.region [
    (.box 2 (.t 0), none),
    (.p 4 .id [.c (.pv (.int .i64 0))], none)])
 (.seq (.seq (.kill [1, 2] [2] (.region [
      (.load 5 (some (2, true)) (some 2) (.t 2), none),
      (.call 6 37 [.t 5] [] [] [], none),
      (.p 7 (.bin .eql) [.t 6, .c (.pv (.int .i64 0))], none),
      (.p 8 .id [.t 7], none),
      (.p 9 .id [.t 1], some (8, false)),
      (.p 10 (.bin .lss) [.t 9, .c (.pv (.int .i64 0))], some (8, false)),
      (.p 11 .pick [.t 8, .c (.pv (.bool true)), .t 10], none)]))
   (.cond (.t 11)
    (.seq (.kill [] [] (.region [
        (.p 4 .id [.c (.pv (.int .i64 (-1)))], none)]))
     .ret)
    .skip))
  (.seq (.kill [1, 2] [2] (.region [
      (.load 12 (some (2, true)) (some 2) (.t 2), none),
      (.call 13 15 [.t 12] [] [] [], none),
      (.p 14 .id [.t 1], none),
      (.load 15 (some (2, true)) (some 2) (.t 2), none),
      (.call 16 37 [.t 15] [] [] [], none),
      (.p 17 (.bin .rem) [.t 14, .t 16], none),
      (.p 18 (.indexAddr none 1) [.t 13, .t 17], none),
      (.load 19 none (some 9999) (.t 18), none),
      (.p 4 .id [.t 19], none)]))
   .ret)))
theorem okRef06Leader : okFn Tryd.prog Tryd.f26 irRef06Leader [.t 4] [] 2 = true := by kernel_rfl

-- consistorylaw06.wakes
-- consistorylaw06.wakes: args []; lent []; rs [.t 0]; loops: 
def irLaw06Wakes : IR := (.seq (.region [
    (.p 0 .id [.c (.pv (.bool false))], none)])
 (.seq (.kill [] [] (.region [
     (.build 2 (.pagg [.int .i64 0, .int .u16 0]) [(1, 1, .c (.pv (.int .u16 15)))], none),
     (.alloc 1 (.pagg [.int .i64 0, .int .u16 0]), none),
     (.store (some (2, true)) (some 1) (.t 1) (.t 2), none)]))
  (.seq (.kill [1] [1] (.region [
      (.load 3 (some (2, true)) (some 1) (.t 1), none),
      (.call 4 9 [.t 3] [] [] [], none),
      (.p 5 .id [.t 4], none),
      (.load 6 (some (2, true)) (some 1) (.t 1), some (5, true)),
      (.call 7 16 [.t 6] [] [] [], some (5, true)),
      (.p 8 (.bin .eql) [.t 7, .c (.pv (.int .i64 1))], some (5, true)),
      (.p 9 .pick [.t 5, .t 8, .c (.pv (.bool false))], none),
      (.p 10 .id [.t 9], none),
      (.load 11 (some (2, true)) (some 1) (.t 1), some (10, true)),
      (.call 12 17 [.t 11] [] [] [], some (10, true)),
      (.p 13 (.bin .eql) [.t 12, .c (.pv (.int .i64 3))], some (10, true)),
      (.p 14 .pick [.t 10, .t 13, .c (.pv (.bool false))], none),
      (.p 15 .id [.t 14], none),
      (.load 16 (some (2, true)) (some 1) (.t 1), some (15, true)),
      (.call 17 18 [.t 16] [] [] [], some (15, true)),
      (.p 18 (.bin .eql) [.t 17, .c (.pv (.int .i64 3))], some (15, true)),
      (.p 19 .pick [.t 15, .t 18, .c (.pv (.bool false))], none),
      (.p 20 .id [.t 19], none),
      (.load 21 (some (2, true)) (some 1) (.t 1), some (20, true)),
      (.call 22 10 [.t 21, .c (.pv (.int .i64 5))] [] [] [], some (20, true)),
      (.p 23 (.bin .eql) [.t 22, .c (.pv (.int .i64 1))], some (20, true)),
      (.p 24 .pick [.t 20, .t 23, .c (.pv (.bool false))], none),
      (.p 0 .id [.t 24], none)]))
   .ret)))
theorem okLaw06Wakes : okFn Tryd.prog Tryd.f8 irLaw06Wakes [.t 0] [] 0 = true := by kernel_rfl

-- consistorylaw06.same
-- consistorylaw06.same: args [28, 28]; lent []; rs [.t 4]; loops: L1 keeps [0, 1, 12, 13] []
def irLaw06Same_L1 : IR := (.seq (.kill [0, 1, 12, 13] [] (.region [
     (.p 14 (.bin .lss) [.t 13, .t 12], none)]))
  (.seq (.cond (.t 14)
    .skip
    (.exit 0))
   (.seq (.block 1 (.seq (.kill [0, 1, 12, 13] [] (.region [
         (.p 15 .id [.t 13], none),
         (.p 5 .id [.t 15], none)]))
      (.seq (.kill [0, 1, 5, 12, 13] [] (.region [
          (.p 16 .id [.t 0], none),
          (.p 17 .id [.t 5], none),
          (.p 18 (.indexAddr none 1) [.t 16, .t 17], none),
          (.load 19 none (some 9999) (.t 18), none),
          (.p 20 .id [.t 1], none),
          (.p 21 .id [.t 5], none),
          (.p 22 (.indexAddr none 1) [.t 20, .t 21], none),
          (.load 23 none (some 9999) (.t 22), none),
          (.p 24 (.bin .neq) [.t 19, .t 23], none)]))
       (.cond (.t 24)
        (.seq (.kill [] [] (.region [
            (.p 4 .id [.c (.pv (.bool false))], none)]))
         .ret)
        .skip))))
    (.kill [0, 1, 12, 13] [] (.region [
       (.p 25 (.bin .add) [.t 13, .c (.pv (.int .i64 1))], none),
       (.p 13 .id [.t 25], none)])))))
def irLaw06Same : IR := (.seq (.region [
    (.p 4 .id [.c (.pv (.bool false))], none)])
 (.seq (.seq (.kill [0, 1] [] (.region [
      (.p 6 .id [.t 0], none),
      (.p 7 (.len none) [.t 6], none),
      (.p 8 .id [.t 1], none),
      (.p 9 (.len none) [.t 8], none),
      (.p 10 (.bin .neq) [.t 7, .t 9], none)]))
   (.cond (.t 10)
    (.seq (.kill [] [] (.region [
        (.p 4 .id [.c (.pv (.bool false))], none)]))
     .ret)
    .skip))
  (.seq (.seq (.kill [0, 1] [] (.region [
       (.p 11 .id [.t 0], none),
       (.p 12 (.len none) [.t 11], none),
       (.p 13 .id [.c (.pv (.int .i64 0))], none)]))
    (.block 0 (.loop (.kill [0, 1, 12, 13] [] irLaw06Same_L1))))
   (.seq (.kill [] [] (.region [
       (.p 4 .id [.c (.pv (.bool true))], none)]))
    .ret))))
theorem okLaw06Same : okFn Tryd.prog Tryd.f20 irLaw06Same [.t 4] [] 2 = true := by kernel_rfl

-- consistorylaw06.ViewsCounts
-- consistorylaw06.ViewsCounts: args [24, 3, 3]; lent []; rs [.t 6]; loops: 
def irLaw06ViewsCounts : IR := (.seq (.region [
    (.box 3 (.t 0), none),
    (.p 6 .id [.c (.pv (.bool false))], none)])
 (.seq (.seq (.kill [1, 2, 3] [3] (.region [
      (.call 7 8 [] [] [] [], none),
      (.p 8 (.un .not) [.t 7], none)]))
   (.cond (.t 8)
    (.seq (.kill [] [] (.region [
        (.p 6 .id [.c (.pv (.bool false))], none)]))
     .ret)
    .skip))
  (.seq (.kill [1, 2, 3] [3] (.region [
      (.load 9 (some (2, true)) (some 3) (.t 3), none),
      (.call 10 9 [.t 9] [] [] [], none),
      (.load 11 (some (2, true)) (some 3) (.t 3), none),
      (.call 12 13 [.t 11] [] [] [], none),
      (.p 13 (.beq false) [.t 10, .t 12], none),
      (.p 14 .id [.t 13], none),
      (.load 15 (some (2, true)) (some 3) (.t 3), some (14, true)),
      (.call 16 11 [.t 15] [] [] [], some (14, true)),
      (.load 17 (some (2, true)) (some 3) (.t 3), some (14, true)),
      (.call 18 15 [.t 17] [] [] [], some (14, true)),
      (.call 19 20 [.t 16, .t 18] [] [] [], some (14, true)),
      (.p 20 .pick [.t 14, .t 19, .c (.pv (.bool false))], none),
      (.p 21 .id [.t 20], none),
      (.load 22 (some (2, true)) (some 3) (.t 3), some (21, true)),
      (.p 23 .id [.t 1], some (21, true)),
      (.call 24 12 [.t 22, .t 23] [] [] [], some (21, true)),
      (.load 25 (some (2, true)) (some 3) (.t 3), some (21, true)),
      (.p 26 .id [.t 1], some (21, true)),
      (.call 27 21 [.t 25, .t 26] [] [] [], some (21, true)),
      (.p 28 (.beq false) [.t 24, .t 27], some (21, true)),
      (.p 29 .pick [.t 21, .t 28, .c (.pv (.bool false))], none),
      (.p 30 .id [.t 29], none),
      (.load 31 (some (2, true)) (some 3) (.t 3), some (30, true)),
      (.call 32 16 [.t 31] [] [] [], some (30, true)),
      (.load 33 (some (2, true)) (some 3) (.t 3), some (30, true)),
      (.call 34 22 [.t 33] [] [] [], some (30, true)),
      (.p 35 (.bin .eql) [.t 32, .t 34], some (30, true)),
      (.p 36 .pick [.t 30, .t 35, .c (.pv (.bool false))], none),
      (.p 37 .id [.t 36], none),
      (.load 38 (some (2, true)) (some 3) (.t 3), some (37, true)),
      (.call 39 17 [.t 38] [] [] [], some (37, true)),
      (.load 40 (some (2, true)) (some 3) (.t 3), some (37, true)),
      (.call 41 23 [.t 40] [] [] [], some (37, true)),
      (.p 42 (.bin .eql) [.t 39, .t 41], some (37, true)),
      (.p 43 .pick [.t 37, .t 42, .c (.pv (.bool false))], none),
      (.p 44 .id [.t 43], none),
      (.load 45 (some (2, true)) (some 3) (.t 3), some (44, true)),
      (.call 46 18 [.t 45] [] [] [], some (44, true)),
      (.load 47 (some (2, true)) (some 3) (.t 3), some (44, true)),
      (.call 48 24 [.t 47] [] [] [], some (44, true)),
      (.p 49 (.bin .eql) [.t 46, .t 48], some (44, true)),
      (.p 50 .pick [.t 44, .t 49, .c (.pv (.bool false))], none),
      (.p 51 .id [.t 50], none),
      (.load 52 (some (2, true)) (some 3) (.t 3), some (51, true)),
      (.call 53 19 [.t 52] [] [] [], some (51, true)),
      (.load 54 (some (2, true)) (some 3) (.t 3), some (51, true)),
      (.call 55 25 [.t 54] [] [] [], some (51, true)),
      (.p 56 (.bin .eql) [.t 53, .t 55], some (51, true)),
      (.p 57 .pick [.t 51, .t 56, .c (.pv (.bool false))], none),
      (.p 58 .id [.t 57], none),
      (.load 59 (some (2, true)) (some 3) (.t 3), some (58, true)),
      (.p 60 .id [.t 2], some (58, true)),
      (.call 61 10 [.t 59, .t 60] [] [] [], some (58, true)),
      (.load 62 (some (2, true)) (some 3) (.t 3), some (58, true)),
      (.p 63 .id [.t 2], some (58, true)),
      (.call 64 26 [.t 62, .t 63] [] [] [], some (58, true)),
      (.p 65 (.bin .eql) [.t 61, .t 64], some (58, true)),
      (.p 66 .pick [.t 58, .t 65, .c (.pv (.bool false))], none),
      (.p 6 .id [.t 66], none)]))
   .ret)))
theorem okLaw06ViewsCounts : okFn Tryd.prog Tryd.f5 irLaw06ViewsCounts [.t 6] [] 3 = true := by kernel_rfl

-- consistorylaw06.ViewsLeads
-- consistorylaw06.ViewsLeads: args [24, 22]; lent []; rs [.t 4]; loops: L1 keeps [1, 2, 6, 22, 23] [2]
def irLaw06ViewsLeads_L1 : IR := (.seq (.kill [1, 2, 6, 22, 23] [2] (.region [
     (.p 24 (.bin .lss) [.t 23, .t 22], none)]))
  (.seq (.cond (.t 24)
    .skip
    (.exit 0))
   (.seq (.block 1 (.seq (.kill [1, 2, 6, 22, 23] [2] (.region [
         (.p 25 .id [.t 23], none),
         (.p 7 .id [.t 25], none)]))
      (.seq (.kill [1, 2, 6, 7, 22, 23] [2] (.region [
          (.load 26 (some (2, true)) (some 2) (.t 2), none),
          (.p 27 .id [.t 1], none),
          (.p 28 (.conv .i64) [.t 27], none),
          (.p 29 .id [.t 7], none),
          (.p 30 (.bin .add) [.t 28, .t 29], none),
          (.call 31 10 [.t 26, .t 30] [] [] [], none),
          (.p 8 .id [.t 31], none)]))
       (.seq (.seq (.kill [1, 2, 6, 8, 22, 23] [2] (.region [
            (.p 32 .id [.t 8], none),
            (.p 33 (.bin .lss) [.t 32, .c (.pv (.int .i64 0))], none),
            (.p 34 .id [.t 33], none),
            (.load 35 (some (2, true)) (some 2) (.t 2), some (34, false)),
            (.p 36 .id [.t 8], some (34, false)),
            (.call 37 12 [.t 35, .t 36] [] [] [], some (34, false)),
            (.p 38 (.un .not) [.t 37], some (34, false)),
            (.p 39 .pick [.t 34, .c (.pv (.bool true)), .t 38], none),
            (.p 40 .id [.t 39], none),
            (.p 41 .id [.t 6], some (40, false)),
            (.p 42 .id [.t 8], some (40, false)),
            (.p 43 (.bin .shr) [.t 41, .t 42], some (40, false)),
            (.p 44 (.bin .and) [.t 43, .c (.pv (.int .u16 1))], some (40, false)),
            (.p 45 (.bin .neq) [.t 44, .c (.pv (.int .u16 0))], some (40, false)),
            (.p 46 .pick [.t 40, .c (.pv (.bool true)), .t 45], none)]))
         (.cond (.t 46)
          (.seq (.kill [] [] (.region [
              (.p 4 .id [.c (.pv (.bool false))], none)]))
           .ret)
          .skip))
        (.kill [1, 2, 6, 8, 22, 23] [2] (.region [
           (.p 47 .id [.t 6], none),
           (.p 48 .id [.t 8], none),
           (.p 49 (.bin .shl) [.c (.pv (.int .u16 1)), .t 48], none),
           (.p 50 (.bin .or) [.t 47, .t 49], none),
           (.p 6 .id [.t 50], none)]))))))
    (.kill [1, 2, 6, 22, 23] [2] (.region [
       (.p 51 (.bin .add) [.t 23, .c (.pv (.int .i64 1))], none),
       (.p 23 .id [.t 51], none)])))))
def irLaw06ViewsLeads : IR := (.seq (.region [
    (.box 2 (.t 0), none),
    (.p 4 .id [.c (.pv (.bool false))], none)])
 (.seq (.seq (.kill [1, 2] [2] (.region [
      (.call 9 8 [] [] [] [], none),
      (.p 10 (.un .not) [.t 9], none)]))
   (.cond (.t 10)
    (.seq (.kill [] [] (.region [
        (.p 4 .id [.c (.pv (.bool false))], none)]))
     .ret)
    .skip))
  (.seq (.seq (.kill [1, 2] [2] (.region [
       (.load 11 (some (2, true)) (some 2) (.t 2), none),
       (.call 12 9 [.t 11] [] [] [], none),
       (.p 13 (.un .not) [.t 12], none)]))
    (.cond (.t 13)
     (.seq (.kill [1, 2] [2] (.region [
         (.load 14 (some (2, true)) (some 2) (.t 2), none),
         (.p 15 .id [.t 1], none),
         (.p 16 (.conv .i64) [.t 15], none),
         (.call 17 10 [.t 14, .t 16] [] [] [], none),
         (.p 18 (.bin .eql) [.t 17, .c (.pv (.int .i64 (-1)))], none),
         (.p 4 .id [.t 18], none)]))
      .ret)
     .skip))
   (.seq (.kill [1, 2] [2] (.region [
       (.load 19 (some (2, true)) (some 2) (.t 2), none),
       (.call 20 11 [.t 19] [] [] [], none),
       (.p 21 (.len none) [.t 20], none),
       (.p 5 .id [.t 21], none)]))
    (.seq (.kill [1, 2, 5] [2] (.region [
        (.p 6 .id [.c (.pv (.int .u16 0))], none)]))
     (.seq (.seq (.kill [1, 2, 5, 6] [2] (.region [
          (.p 22 .id [.t 5], none),
          (.p 23 .id [.c (.pv (.int .i64 0))], none)]))
       (.block 0 (.loop (.kill [1, 2, 6, 22, 23] [2] irLaw06ViewsLeads_L1))))
      (.seq (.kill [2, 6] [2] (.region [
          (.p 52 .id [.t 6], none),
          (.p 53 (.fieldAddr 1) [.t 2], none),
          (.load 54 none (some 2) (.t 53), none),
          (.p 55 (.bin .eql) [.t 52, .t 54], none),
          (.p 4 .id [.t 55], none)]))
       .ret)))))))
theorem okLaw06ViewsLeads : okFn Tryd.prog Tryd.f3 irLaw06ViewsLeads [.t 4] [] 2 = true := by kernel_rfl

-- consistorylaw06.ViewsNext
-- consistorylaw06.ViewsNext: args [24, 2]; lent []; rs [.t 4]; loops: 
def irLaw06ViewsNext : IR := (.seq (.region [
    (.box 2 (.t 0), none),
    (.p 4 .id [.c (.pv (.bool false))], none)])
 (.seq (.seq (.kill [1, 2] [2] (.region [
      (.call 9 8 [] [] [] [], none),
      (.p 10 (.un .not) [.t 9], none)]))
   (.cond (.t 10)
    (.seq (.kill [] [] (.region [
        (.p 4 .id [.c (.pv (.bool false))], none)]))
     .ret)
    .skip))
  (.seq (.kill [1, 2] [2] (.region [
      (.load 12 (some (2, true)) (some 2) (.t 2), none),
      (.p 13 .id [.t 1], none),
      (.call 14 27 [.t 12, .t 13] [] [] [], none),
      (.p 11 .id [.t 14], none),
      (.p 15 (.ext 0) [.t 11], none),
      (.p 16 (.ext 1) [.t 11], none),
      (.alloc 5 (.pagg [.int .i64 0, .int .u16 0]), none),
      (.store (some (2, true)) (some 5) (.t 5) (.t 15), none),
      (.p 6 .id [.t 16], none)]))
   (.seq (.kill [1, 2, 5, 6] [2, 5] (.region [
       (.load 18 (some (2, true)) (some 2) (.t 2), none),
       (.p 19 .id [.t 1], none),
       (.call 20 28 [.t 18, .t 19] [] [] [], none),
       (.p 17 .id [.t 20], none),
       (.p 21 (.ext 0) [.t 17], none),
       (.p 22 (.ext 1) [.t 17], none),
       (.alloc 7 (.pagg [.int .i64 0, .int .u16 0]), none),
       (.store (some (2, true)) (some 7) (.t 7) (.t 21), none),
       (.p 8 .id [.t 22], none)]))
    (.seq (.kill [2, 5, 6, 7, 8] [2, 5, 7] (.region [
        (.load 23 (some (2, true)) (some 5) (.t 5), none),
        (.load 24 (some (2, true)) (some 7) (.t 7), none),
        (.p 25 (.seq false [.i .i64, .i .u16]) [.t 23, .t 24], none),
        (.p 26 .id [.t 25], none),
        (.p 27 .id [.t 6], some (26, true)),
        (.p 28 .id [.t 8], some (26, true)),
        (.p 29 (.bin .eql) [.t 27, .t 28], some (26, true)),
        (.p 30 .pick [.t 26, .t 29, .c (.pv (.bool false))], none),
        (.p 31 .id [.t 30], none),
        (.p 32 .id [.t 6], some (31, true)),
        (.p 33 (.bin .neq) [.t 32, .c (.pv (.int .i64 0))], some (31, true)),
        (.p 34 .id [.t 33], some (31, true)),
        (.p 35 (.fieldAddr 0) [.t 5], some (34, false)),
        (.load 36 none (some 5) (.t 35), some (34, false)),
        (.p 37 (.bin .sub) [.t 36, .c (.pv (.int .i64 1))], some (34, false)),
        (.p 38 (.fieldAddr 0) [.t 2], some (34, false)),
        (.load 39 none (some 2) (.t 38), some (34, false)),
        (.p 40 (.bin .eql) [.t 37, .t 39], some (34, false)),
        (.p 41 .id [.t 40], some (34, false)),
        (.load 42 (some (2, true)) (some 5) (.t 5), some (41, true)),
        (.call 43 9 [.t 42] [] [] [], some (41, true)),
        (.p 44 .pick [.t 41, .t 43, .c (.pv (.bool false))], some (34, false)),
        (.p 45 .pick [.t 34, .c (.pv (.bool true)), .t 44], some (31, true)),
        (.p 46 .pick [.t 31, .t 45, .c (.pv (.bool false))], none),
        (.p 4 .id [.t 46], none)]))
     .ret)))))
theorem okLaw06ViewsNext : okFn Tryd.prog Tryd.f6 irLaw06ViewsNext [.t 4] [] 2 = true := by kernel_rfl

end Go.Proofs.YtaekbkjckahccaaDoor
