/- The abstract code of functions, printed by gen_ir.py out of the program's form in Lean; each is checked against it. -/
import Derived.Test.YtdmgkgkhdkoojaaDoorProg
import Derived.Test.YtdmgkgkhdkoojaaDoorAbs2
set_option linter.unusedVariables false
set_option linter.unusedSimpArgs false
set_option maxRecDepth 100000
namespace Go.Proofs.YtdmgkgkhdkoojaaDoor
open Go.Abs
-- math/bits.OnesCount16
-- math/bits.OnesCount16: args [22]; lent []; rs [.t 2]; loops: 
def strMathBitsOnesCount16_1 : ByteArray := ⟨#[0, 1, 1, 2, 1, 2, 2, 3, 1, 2, 2, 3, 2, 3, 3, 4, 1, 2, 2, 3, 2, 3, 3, 4, 2, 3, 3, 4, 3, 4, 4, 5, 1, 2, 2, 3, 2, 3, 3, 4, 2, 3, 3, 4, 3, 4, 4, 5, 2, 3, 3, 4, 3, 4, 4, 5, 3, 4, 4, 5, 4, 5, 5, 6, 1, 2, 2, 3, 2, 3, 3, 4, 2, 3, 3, 4, 3, 4, 4, 5, 2, 3, 3, 4, 3, 4, 4, 5, 3, 4, 4, 5, 4, 5, 5, 6, 2, 3, 3, 4, 3, 4, 4, 5, 3, 4, 4, 5, 4, 5, 5, 6, 3, 4, 4, 5, 4, 5, 5, 6, 4, 5, 5, 6, 5, 6, 6, 7, 1, 2, 2, 3, 2, 3, 3, 4, 2, 3, 3, 4, 3, 4, 4, 5, 2, 3, 3, 4, 3, 4, 4, 5, 3, 4, 4, 5, 4, 5, 5, 6, 2, 3, 3, 4, 3, 4, 4, 5, 3, 4, 4, 5, 4, 5, 5, 6, 3, 4, 4, 5, 4, 5, 5, 6, 4, 5, 5, 6, 5, 6, 6, 7, 2, 3, 3, 4, 3, 4, 4, 5, 3, 4, 4, 5, 4, 5, 5, 6, 3, 4, 4, 5, 4, 5, 5, 6, 4, 5, 5, 6, 5, 6, 6, 7, 3, 4, 4, 5, 4, 5, 5, 6, 4, 5, 5, 6, 5, 6, 6, 7, 4, 5, 5, 6, 5, 6, 6, 7, 5, 6, 6, 7, 6, 7, 7, 8]⟩
def irMathBitsOnesCount16 : IR := (.seq (.region [
    (.p 2 .id [.c (.pv (.int .i64 0))], none)])
 (.seq (.kill [0] [] (.region [
     (.p 3 .id [.t 0], none),
     (.p 4 (.bin .shr) [.t 3, .c (.pv (.int .u64 8))], none),
     (.p 5 .sidx [.c (.pv (.str strMathBitsOnesCount16_1)), .t 4], none),
     (.p 6 .id [.t 0], none),
     (.p 7 (.bin .and) [.t 6, .c (.pv (.int .u16 255))], none),
     (.p 8 .sidx [.c (.pv (.str strMathBitsOnesCount16_1)), .t 7], none),
     (.p 9 (.bin .add) [.t 5, .t 8], none),
     (.p 10 (.conv .i64) [.t 9], none),
     (.p 2 .id [.t 10], none)]))
  .ret))
theorem okMathBitsOnesCount16 : okFn Tryd.prog Tryd.f19 irMathBitsOnesCount16 [.t 2] [] 1 = true := by kernel_rfl

-- math/bits.TrailingZeros16
-- math/bits.TrailingZeros16: args [22]; lent []; rs [.t 2]; loops: 
def irMathBitsTrailingZeros16 : IR := (.seq (.region [
    (.p 2 .id [.c (.pv (.int .i64 0))], none)])
 (.seq (.seq (.kill [0] [] (.region [
      (.p 3 .id [.t 0], none),
      (.p 4 (.bin .eql) [.t 3, .c (.pv (.int .u16 0))], none)]))
   (.cond (.t 4)
    (.seq (.kill [] [] (.region [
        (.p 2 .id [.c (.pv (.int .i64 16))], none)]))
     .ret)
    .skip))
  (.seq (.kill [0] [] (.region [
      (.p 5 .id [.t 0], none),
      (.p 6 .id [.t 0], none),
      (.p 7 (.un .neg) [.t 6], none),
      (.p 8 (.bin .and) [.t 5, .t 7], none),
      (.p 9 (.conv .u32) [.t 8], none),
      (.p 10 (.bin .mul) [.t 9, .c (.pv (.int .u32 125613361))], none),
      (.p 11 (.bin .shr) [.t 10, .c (.pv (.int .u64 27))], none),
      (.gidx 12 deBruijn (.t 11), none),
      (.load 13 none (some 9999) (.t 12), none),
      (.p 14 (.conv .i64) [.t 13], none),
      (.p 2 .id [.t 14], none)]))
   .ret)))
theorem okMathBitsTrailingZeros16 : okFn Tryd.prog Tryd.f18 irMathBitsTrailingZeros16 [.t 2] [] 1 = true := by kernel_rfl

-- views.count
-- views.count: args [24]; lent []; rs [.t 2]; loops: 
def irViewsCount : IR := (.seq (.region [
    (.box 1 (.t 0), none),
    (.p 2 .id [.c (.pv (.int .i64 0))], none)])
 (.seq (.kill [1] [1] (.region [
     (.p 3 (.fieldAddr 1) [.t 1], none),
     (.load 4 none (some 1) (.t 3), none),
     (.call 5 19 [.t 4] [] [] [], none),
     (.p 2 .id [.t 5], none)]))
  .ret))
theorem okViewsCount : okFn Tryd.prog Tryd.f17 irViewsCount [.t 2] [] 1 = true := by kernel_rfl

-- views.Right
-- views.Right: args [24]; lent []; rs [.t 2]; loops: 
def irViewsRight : IR := (.seq (.region [
    (.box 1 (.t 0), none),
    (.p 2 .id [.c (.pv (.bool false))], none)])
 (.seq (.kill [1] [1] (.region [
     (.load 4 (some (2, true)) (some 1) (.t 1), none),
     (.call 5 17 [.t 4] [] [] [], none),
     (.p 3 .id [.t 5], none)]))
  (.seq (.kill [1, 3] [1] (.region [
      (.p 6 (.fieldAddr 0) [.t 1], none),
      (.load 7 none (some 1) (.t 6), none),
      (.p 8 (.bin .geq) [.t 7, .c (.pv (.int .i64 0))], none),
      (.p 9 .id [.t 8], none),
      (.p 10 (.fieldAddr 0) [.t 1], some (9, true)),
      (.load 11 none (some 1) (.t 10), some (9, true)),
      (.p 12 (.bin .leq) [.t 11, .c (.pv (.int .i64 60))], some (9, true)),
      (.p 13 .pick [.t 9, .t 12, .c (.pv (.bool false))], none),
      (.p 14 .id [.t 13], none),
      (.p 15 .id [.t 3], some (14, true)),
      (.p 16 (.bin .geq) [.t 15, .c (.pv (.int .i64 4))], some (14, true)),
      (.p 17 .pick [.t 14, .t 16, .c (.pv (.bool false))], none),
      (.p 18 .id [.t 17], none),
      (.p 19 .id [.t 3], some (18, true)),
      (.p 20 (.bin .leq) [.t 19, .c (.pv (.int .i64 7))], some (18, true)),
      (.p 21 .pick [.t 18, .t 20, .c (.pv (.bool false))], none),
      (.p 2 .id [.t 21], none)]))
   .ret)))
theorem okViewsRight : okFn Tryd.prog Tryd.f13 irViewsRight [.t 2] [] 1 = true := by kernel_rfl

-- views.Members
-- views.Members: args [24]; lent []; rs [.t 2]; loops: L1 keeps [3, 4] []
def irViewsMembers_L1 : IR := (.seq (.seq (.kill [3, 4] [] (.region [
      (.p 7 .id [.t 4], none),
      (.p 8 (.bin .neq) [.t 7, .c (.pv (.int .u16 0))], none)]))
   (.cond (.t 8)
    .skip
    (.exit 0)))
  (.seq (.block 1 (.kill [3, 4] [] (.region [
       (.mv 13 3, none),
       (.p 14 .id [.t 4], none),
       (.call 15 18 [.t 14] [] [] [], none),
       (.bslice 16 3 1 1 [.int .i64 0] [(0, .t 15)], none),
       (.app 17 3 1 13 none (.t 16), none),
       (.mv 3 17, none)])))
   (.kill [3, 4] [] (.region [
      (.p 9 .id [.t 4], none),
      (.p 10 .id [.t 4], none),
      (.p 11 (.bin .sub) [.t 10, .c (.pv (.int .u16 1))], none),
      (.p 12 (.bin .and) [.t 9, .t 11], none),
      (.p 4 .id [.t 12], none)]))))
def irViewsMembers : IR := (.seq (.region [
    (.box 1 (.t 0), none),
    (.p 2 .id [.c (.os 3 1 [])], none)])
 (.seq (.kill [1] [1] (.region [
     (.p 3 .id [.c (.os 3 1 [])], none)]))
  (.seq (.seq (.kill [1, 3] [1] (.region [
       (.p 5 (.fieldAddr 1) [.t 1], none),
       (.load 6 none (some 1) (.t 5), none),
       (.p 4 .id [.t 6], none)]))
    (.block 0 (.loop (.kill [3, 4] [] irViewsMembers_L1))))
   (.seq (.kill [3] [] (.region [
       (.mv 18 3, none),
       (.mv 2 18, none)]))
    .ret))))
theorem okViewsMembers : okFn Tryd.prog Tryd.f14 irViewsMembers [.t 2] [] 1 = true := by kernel_rfl

-- consistoryref06.Members
-- consistoryref06.Members: args [24]; lent []; rs [.t 2]; loops: L1 keeps [3, 4, 5] []
def irRef06Members_L1 : IR := (.seq (.seq (.kill [3, 4, 5] [] (.region [
      (.p 9 .id [.t 5], none),
      (.p 10 (.bin .lss) [.t 9, .c (.pv (.int .i64 16))], none)]))
   (.cond (.t 10)
    .skip
    (.exit 0)))
  (.seq (.block 1 (.seq (.seq (.kill [3, 4, 5] [] (.region [
         (.p 13 .id [.t 4], none),
         (.p 14 (.bin .rem) [.t 13, .c (.pv (.int .i64 2))], none),
         (.p 15 (.bin .eql) [.t 14, .c (.pv (.int .i64 1))], none)]))
      (.cond (.t 15)
       (.kill [3, 4, 5] [] (.region [
          (.mv 16 3, none),
          (.p 17 .id [.t 5], none),
          (.bslice 18 3 1 1 [.int .i64 0] [(0, .t 17)], none),
          (.app 19 3 1 16 none (.t 18), none),
          (.mv 3 19, none)]))
       .skip))
     (.kill [3, 4, 5] [] (.region [
        (.p 20 .id [.t 4], none),
        (.p 21 (.bin .quo) [.t 20, .c (.pv (.int .i64 2))], none),
        (.p 4 .id [.t 21], none)]))))
   (.kill [3, 4, 5] [] (.region [
      (.p 11 .id [.t 5], none),
      (.p 12 (.bin .add) [.t 11, .c (.pv (.int .i64 1))], none),
      (.p 5 .id [.t 12], none)]))))
def irRef06Members : IR := (.seq (.region [
    (.box 1 (.t 0), none),
    (.p 2 .id [.c (.os 3 1 [])], none)])
 (.seq (.kill [1] [1] (.region [
     (.p 3 .id [.c (.os 3 1 [])], none)]))
  (.seq (.kill [1, 3] [1] (.region [
      (.p 6 (.fieldAddr 1) [.t 1], none),
      (.load 7 none (some 1) (.t 6), none),
      (.p 8 (.conv .i64) [.t 7], none),
      (.p 4 .id [.t 8], none)]))
   (.seq (.seq (.kill [3, 4] [] (.region [
        (.p 5 .id [.c (.pv (.int .i64 0))], none)]))
     (.block 0 (.loop (.kill [3, 4, 5] [] irRef06Members_L1))))
    (.seq (.kill [3] [] (.region [
        (.mv 22 3, none),
        (.mv 2 22, none)]))
     .ret)))))
theorem okRef06Members : okFn Tryd.prog Tryd.f9 irRef06Members [.t 2] [] 1 = true := by kernel_rfl

-- consistoryref06.Right
-- consistoryref06.Right: args [24]; lent []; rs [.t 2]; loops: 
def irRef06Right : IR := (.seq (.region [
    (.box 1 (.t 0), none),
    (.p 2 .id [.c (.pv (.bool false))], none)])
 (.seq (.kill [1] [1] (.region [
     (.load 4 (some (2, true)) (some 1) (.t 1), none),
     (.call 5 9 [.t 4] [] [] [], none),
     (.p 6 (.len none) [.t 5], none),
     (.p 3 .id [.t 6], none)]))
  (.seq (.kill [1, 3] [1] (.region [
      (.p 7 (.fieldAddr 0) [.t 1], none),
      (.load 8 none (some 1) (.t 7), none),
      (.p 9 (.bin .geq) [.t 8, .c (.pv (.int .i64 0))], none),
      (.p 10 .id [.t 9], none),
      (.p 11 (.fieldAddr 0) [.t 1], some (10, true)),
      (.load 12 none (some 1) (.t 11), some (10, true)),
      (.p 13 (.bin .leq) [.t 12, .c (.pv (.int .i64 60))], some (10, true)),
      (.p 14 .pick [.t 10, .t 13, .c (.pv (.bool false))], none),
      (.p 15 .id [.t 14], none),
      (.p 16 .id [.t 3], some (15, true)),
      (.p 17 (.bin .geq) [.t 16, .c (.pv (.int .i64 4))], some (15, true)),
      (.p 18 .pick [.t 15, .t 17, .c (.pv (.bool false))], none),
      (.p 19 .id [.t 18], none),
      (.p 20 .id [.t 3], some (19, true)),
      (.p 21 (.bin .leq) [.t 20, .c (.pv (.int .i64 7))], some (19, true)),
      (.p 22 .pick [.t 19, .t 21, .c (.pv (.bool false))], none),
      (.p 2 .id [.t 22], none)]))
   .ret)))
theorem okRef06Right : okFn Tryd.prog Tryd.f8 irRef06Right [.t 2] [] 1 = true := by kernel_rfl

-- clock.Due
-- clock.Due: args [24, 3, 3, 3]; lent []; rs [.t 8]; loops: 
def irClockDue : IR := (.seq (.region [
    (.box 4 (.t 0), none),
    (.p 8 .id [.c (.pv (.bool false))], none)])
 (.seq (.seq (.kill [1, 2, 3, 4] [4] (.region [
      (.load 11 (some (2, true)) (some 4) (.t 4), none),
      (.call 12 13 [.t 11] [] [] [], none),
      (.p 13 (.un .not) [.t 12], none),
      (.p 14 .id [.t 13], none),
      (.p 15 .id [.t 3], some (14, false)),
      (.p 16 (.bin .lss) [.t 15, .c (.pv (.int .i64 1))], some (14, false)),
      (.p 17 .pick [.t 14, .c (.pv (.bool true)), .t 16], none),
      (.p 18 .id [.t 17], none),
      (.p 19 .id [.t 3], some (18, false)),
      (.p 20 (.bin .gtr) [.t 19, .c (.pv (.int .i64 60))], some (18, false)),
      (.p 21 .pick [.t 18, .c (.pv (.bool true)), .t 20], none),
      (.p 22 .id [.t 21], none),
      (.p 23 .id [.t 2], some (22, false)),
      (.p 24 (.bin .lss) [.t 23, .c (.pv (.int .i64 1))], some (22, false)),
      (.p 25 .pick [.t 22, .c (.pv (.bool true)), .t 24], none)]))
   (.cond (.t 25)
    (.seq (.kill [] [] (.region [
        (.p 8 .id [.c (.pv (.bool false))], none)]))
     .ret)
    .skip))
  (.seq (.kill [1, 2, 3, 4] [4] (.region [
      (.load 26 (some (2, true)) (some 4) (.t 4), none),
      (.call 27 14 [.t 26] [] [] [], none),
      (.mv 9 27, none)]))
   (.seq (.kill [1, 2, 3, 9] [] (.region [
       (.p 28 .id [.t 9], none),
       (.p 29 .id [.t 1], none),
       (.call 30 15 [.t 28, .t 29] [] [] [], none),
       (.p 10 .id [.t 30], none)]))
    (.seq (.kill [2, 3, 9, 10] [] (.region [
        (.p 31 .id [.t 10], none),
        (.p 32 (.bin .geq) [.t 31, .c (.pv (.int .i64 0))], none),
        (.p 33 .id [.t 32], none),
        (.p 34 .id [.t 2], some (33, true)),
        (.p 35 .id [.t 3], some (33, true)),
        (.p 36 (.bin .rem) [.t 34, .t 35], some (33, true)),
        (.p 37 .id [.t 10], some (33, true)),
        (.p 38 .id [.t 3], some (33, true)),
        (.p 39 (.bin .mul) [.t 37, .t 38], some (33, true)),
        (.mv 40 9, some (33, true)),
        (.p 41 (.len none) [.t 40], some (33, true)),
        (.p 42 (.bin .quo) [.t 39, .t 41], some (33, true)),
        (.p 43 .id [.t 3], some (33, true)),
        (.p 44 (.bin .rem) [.t 42, .t 43], some (33, true)),
        (.p 45 (.bin .eql) [.t 36, .t 44], some (33, true)),
        (.p 46 .pick [.t 33, .t 45, .c (.pv (.bool false))], none),
        (.p 8 .id [.t 46], none)]))
     .ret)))))
theorem okClockDue : okFn Tryd.prog Tryd.f6 irClockDue [.t 8] [] 4 = true := by kernel_rfl

-- consistoryref20.Due
-- consistoryref20.Due: args [24, 3, 3, 3]; lent []; rs [.t 8]; loops: L1 keeps [1, 2, 3, 9, 10] []
def irRef20Due_L1 : IR := (.seq (.seq (.kill [1, 2, 3, 9, 10] [] (.region [
      (.p 28 .id [.t 10], none),
      (.p 29 .id [.t 9], none),
      (.p 30 (.len none) [.t 29], none),
      (.p 31 (.bin .lss) [.t 28, .t 30], none)]))
   (.cond (.t 31)
    .skip
    (.exit 0)))
  (.seq (.block 1 (.seq (.kill [1, 2, 3, 9, 10] [] (.region [
        (.p 34 .id [.t 9], none),
        (.p 35 .id [.t 10], none),
        (.p 36 (.indexAddr none 1) [.t 34, .t 35], none),
        (.load 37 none (some 9999) (.t 36), none),
        (.p 38 .id [.t 1], none),
        (.p 39 (.bin .eql) [.t 37, .t 38], none)]))
     (.cond (.t 39)
      (.seq (.kill [2, 3, 9, 10] [] (.region [
          (.p 40 .id [.t 2], none),
          (.p 41 .id [.t 3], none),
          (.p 42 (.bin .rem) [.t 40, .t 41], none),
          (.p 43 .id [.t 10], none),
          (.p 44 .id [.t 3], none),
          (.p 45 (.bin .mul) [.t 43, .t 44], none),
          (.mv 46 9, none),
          (.p 47 (.len none) [.t 46], none),
          (.p 48 (.bin .quo) [.t 45, .t 47], none),
          (.p 49 .id [.t 3], none),
          (.p 50 (.bin .rem) [.t 48, .t 49], none),
          (.p 51 (.bin .eql) [.t 42, .t 50], none),
          (.p 8 .id [.t 51], none)]))
       .ret)
      .skip)))
   (.kill [1, 2, 3, 9, 10] [] (.region [
      (.p 32 .id [.t 10], none),
      (.p 33 (.bin .add) [.t 32, .c (.pv (.int .i64 1))], none),
      (.p 10 .id [.t 33], none)]))))
def irRef20Due : IR := (.seq (.region [
    (.box 4 (.t 0), none),
    (.p 8 .id [.c (.pv (.bool false))], none)])
 (.seq (.seq (.kill [1, 2, 3, 4] [4] (.region [
      (.load 11 (some (2, true)) (some 4) (.t 4), none),
      (.call 12 8 [.t 11] [] [] [], none),
      (.p 13 (.un .not) [.t 12], none),
      (.p 14 .id [.t 13], none),
      (.p 15 .id [.t 3], some (14, false)),
      (.p 16 (.bin .lss) [.t 15, .c (.pv (.int .i64 1))], some (14, false)),
      (.p 17 .pick [.t 14, .c (.pv (.bool true)), .t 16], none),
      (.p 18 .id [.t 17], none),
      (.p 19 .id [.t 3], some (18, false)),
      (.p 20 (.bin .gtr) [.t 19, .c (.pv (.int .i64 60))], some (18, false)),
      (.p 21 .pick [.t 18, .c (.pv (.bool true)), .t 20], none),
      (.p 22 .id [.t 21], none),
      (.p 23 .id [.t 2], some (22, false)),
      (.p 24 (.bin .lss) [.t 23, .c (.pv (.int .i64 1))], some (22, false)),
      (.p 25 .pick [.t 22, .c (.pv (.bool true)), .t 24], none)]))
   (.cond (.t 25)
    (.seq (.kill [] [] (.region [
        (.p 8 .id [.c (.pv (.bool false))], none)]))
     .ret)
    .skip))
  (.seq (.kill [1, 2, 3, 4] [4] (.region [
      (.load 26 (some (2, true)) (some 4) (.t 4), none),
      (.call 27 9 [.t 26] [] [] [], none),
      (.mv 9 27, none)]))
   (.seq (.seq (.kill [1, 2, 3, 9] [] (.region [
        (.p 10 .id [.c (.pv (.int .i64 0))], none)]))
     (.block 0 (.loop (.kill [1, 2, 3, 9, 10] [] irRef20Due_L1))))
    (.seq (.kill [] [] (.region [
        (.p 8 .id [.c (.pv (.bool false))], none)]))
     .ret)))))
theorem okRef20Due : okFn Tryd.prog Tryd.f7 irRef20Due [.t 8] [] 4 = true := by kernel_rfl

-- clock.New
-- clock.New: args [3, 3]; lent []; rs [.t 4]; loops: 
def irClockNew : IR := (.seq (.region [
    (.p 4 .id [.c (.pv .nilp)], none)])
 (.seq (.kill [0, 1] [] (.region [
     (.p 5 .id [.t 0], none),
     (.call 6 16 [.t 5] [] [] [], none),
     (.p 7 .id [.t 1], none),
     (.call 8 16 [.t 7] [] [] [], none),
     (.build 9 (.pagg [.int .i64 0, .int .i64 0, .int .i64 0]) [(0, 1, .t 6), (1, 1, .t 8)], none),
     (.box 10 (.t 9), none),
     (.p 4 .id [.t 10], none)]))
  .ret))
theorem okClockNew : okFn Tryd.prog Tryd.f10 irClockNew [.t 4] [10] 2 = true := by kernel_rfl

-- clock.Clock.Limit
-- clock.Clock.Limit: args [33, 3]; lent [0]; rs [.t 4]; loops: L1 keeps [0, 5, 14, 15] [1000]
def irClockClockLimit_L1 : IR := (.seq (.kill [0, 5, 14, 15] [1000] (.region [
     (.p 16 (.bin .lss) [.t 15, .t 14], none)]))
  (.seq (.cond (.t 16)
    .skip
    (.exit 0))
   (.seq (.block 1 (.kill [0, 5, 14, 15] [1000] (.region [
        (.p 17 .id [.t 5], none),
        (.p 18 (.bin .shl) [.t 17, .c (.pv (.int .u64 1))], none),
        (.p 5 .id [.t 18], none)])))
    (.kill [0, 5, 14, 15] [1000] (.region [
       (.p 19 (.bin .add) [.t 15, .c (.pv (.int .i64 1))], none),
       (.p 15 .id [.t 19], none)])))))
def irClockClockLimit : IR := (.seq (.region [
    (.p 4 .id [.c (.pv (.int .i64 0))], none)])
 (.seq (.seq (.kill [0, 1] [1000] (.region [
      (.p 6 .id [.t 0], none),
      (.p 7 (.peq false) [.t 6, .c (.pv .nilp)], none)]))
   (.cond (.t 7)
    (.seq (.kill [0] [1000] (.region [
        (.p 4 .id [.c (.pv (.int .i64 0))], none)]))
     .ret)
    .skip))
  (.seq (.kill [0, 1] [1000] (.region [
      (.p 8 .id [.t 0], none),
      (.p 9 .nilc [.t 8], none),
      (.p 10 (.fieldAddr 0) [.t 9], none),
      (.load 11 none (some 1000) (.t 10), none),
      (.p 5 .id [.t 11], none)]))
   (.seq (.seq (.kill [0, 1, 5] [1000] (.region [
        (.p 12 .id [.t 1], none),
        (.p 13 (.mm false) [.t 12, .c (.pv (.int .i64 10))], none),
        (.p 14 (.mm true) [.c (.pv (.int .i64 0)), .t 13], none),
        (.p 15 .id [.c (.pv (.int .i64 0))], none)]))
     (.block 0 (.loop (.kill [0, 5, 14, 15] [1000] irClockClockLimit_L1))))
    (.seq (.kill [0, 5] [1000] (.region [
        (.p 20 .id [.t 5], none),
        (.p 21 .id [.t 0], none),
        (.p 22 .nilc [.t 21], none),
        (.p 23 (.fieldAddr 1) [.t 22], none),
        (.load 24 none (some 1000) (.t 23), none),
        (.p 25 (.mm false) [.t 20, .t 24], none),
        (.p 4 .id [.t 25], none)]))
     .ret)))))
theorem okClockClockLimit : okFn Tryd.prog Tryd.f11 irClockClockLimit [.t 4] [] 2 = true := by kernel_rfl

-- clock.Clock.At
-- clock.Clock.At: args [33]; lent [0]; rs [.t 2]; loops: 
def irClockClockAt : IR := (.seq (.region [
    (.p 2 .id [.c (.pv (.int .i64 0))], none)])
 (.seq (.seq (.kill [0] [1000] (.region [
      (.p 3 .id [.t 0], none),
      (.p 4 (.peq false) [.t 3, .c (.pv .nilp)], none)]))
   (.cond (.t 4)
    (.seq (.kill [0] [1000] (.region [
        (.p 2 .id [.c (.pv (.int .i64 0))], none)]))
     .ret)
    .skip))
  (.seq (.kill [0] [1000] (.region [
      (.p 5 .id [.t 0], none),
      (.p 6 .nilc [.t 5], none),
      (.p 7 (.fieldAddr 2) [.t 6], none),
      (.load 8 none (some 1000) (.t 7), none),
      (.p 2 .id [.t 8], none)]))
   .ret)))
theorem okClockClockAt : okFn Tryd.prog Tryd.f12 irClockClockAt [.t 2] [] 1 = true := by kernel_rfl

-- clock.held
-- clock.held: args [3]; lent []; rs [.t 2]; loops: 
def irClockHeld : IR := (.seq (.region [
    (.p 2 .id [.c (.pv (.int .i64 0))], none)])
 (.seq (.kill [0] [] (.region [
     (.p 3 .id [.t 0], none),
     (.p 4 (.mm false) [.t 3, .c (.pv (.int .i64 1000))], none),
     (.p 5 (.mm true) [.c (.pv (.int .i64 1)), .t 4], none),
     (.p 2 .id [.t 5], none)]))
  .ret))
theorem okClockHeld : okFn Tryd.prog Tryd.f16 irClockHeld [.t 2] [] 1 = true := by kernel_rfl

-- slices.Index[[]int,int]
-- slices.Index[[]int,int]: args [30, 3]; lent []; rs [.t 4]; loops: L1 keeps [0, 1, 7, 8] []
def irSlicesIndexintint_L1 : IR := (.seq (.kill [0, 1, 7, 8] [] (.region [
     (.p 9 (.bin .lss) [.t 8, .t 7], none)]))
  (.seq (.cond (.t 9)
    .skip
    (.exit 0))
   (.seq (.block 1 (.seq (.kill [0, 1, 7, 8] [] (.region [
         (.p 10 .id [.t 8], none),
         (.p 5 .id [.t 10], none)]))
      (.seq (.kill [0, 1, 5, 7, 8] [] (.region [
          (.p 11 .id [.t 1], none),
          (.p 12 .id [.t 0], none),
          (.p 13 .id [.t 5], none),
          (.p 14 (.indexAddr none 1) [.t 12, .t 13], none),
          (.load 15 none (some 9999) (.t 14), none),
          (.p 16 (.bin .eql) [.t 11, .t 15], none)]))
       (.cond (.t 16)
        (.seq (.kill [5] [] (.region [
            (.p 17 .id [.t 5], none),
            (.p 4 .id [.t 17], none)]))
         .ret)
        .skip))))
    (.kill [0, 1, 7, 8] [] (.region [
       (.p 18 (.bin .add) [.t 8, .c (.pv (.int .i64 1))], none),
       (.p 8 .id [.t 18], none)])))))
def irSlicesIndexintint : IR := (.seq (.region [
    (.p 4 .id [.c (.pv (.int .i64 0))], none)])
 (.seq (.seq (.kill [0, 1] [] (.region [
      (.p 6 .id [.t 0], none),
      (.p 7 (.len none) [.t 6], none),
      (.p 8 .id [.c (.pv (.int .i64 0))], none)]))
   (.block 0 (.loop (.kill [0, 1, 7, 8] [] irSlicesIndexintint_L1))))
  (.seq (.kill [] [] (.region [
      (.p 4 .id [.c (.pv (.int .i64 (-1)))], none)]))
   .ret)))
theorem okSlicesIndexintint : okFn Tryd.prog Tryd.f15 irSlicesIndexintint [.t 4] [] 2 = true := by kernel_rfl

-- consistorylaw20.wakes
-- consistorylaw20.wakes: args []; lent []; rs [.t 0]; loops: 
def irLaw20Wakes : IR := (.seq (.region [
    (.p 0 .id [.c (.pv (.bool false))], none)])
 (.seq (.kill [] [] (.region [
     (.call 2 10 [.c (.pv (.int .i64 3)), .c (.pv (.int .i64 20))] [] [2] [], none),
     (.p 1 .id [.t 2], none)]))
  (.seq (.kill [1] [2] (.region [
      (.p 3 .id [.t 1], none),
      (.call 4 11 [.t 3, .c (.pv (.int .i64 2))] [2] [] [], none),
      (.p 5 (.bin .eql) [.t 4, .c (.pv (.int .i64 12))], none),
      (.p 6 .id [.t 5], none),
      (.p 7 .id [.t 1], some (6, true)),
      (.call 8 11 [.t 7, .c (.pv (.int .i64 5))] [2] [] [], some (6, true)),
      (.p 9 (.bin .eql) [.t 8, .c (.pv (.int .i64 20))], some (6, true)),
      (.p 10 .pick [.t 6, .t 9, .c (.pv (.bool false))], none),
      (.p 11 .id [.t 10], none),
      (.p 12 .id [.t 1], some (11, true)),
      (.call 13 12 [.t 12] [2] [] [], some (11, true)),
      (.p 14 (.bin .eql) [.t 13, .c (.pv (.int .i64 0))], some (11, true)),
      (.p 15 .pick [.t 11, .t 14, .c (.pv (.bool false))], none),
      (.p 0 .id [.t 15], none)]))
   .ret)))
theorem okLaw20Wakes : okFn Tryd.prog Tryd.f5 irLaw20Wakes [.t 0] [] 0 = true := by kernel_rfl

-- consistorylaw20.ClockDue
-- consistorylaw20.ClockDue: args [24, 3, 25]; lent []; rs [.t 6]; loops: 
def irLaw20ClockDue : IR := (.seq (.region [
    (.box 3 (.t 0), none),
    (.box 5 (.t 2), none),
    (.p 6 .id [.c (.pv (.bool false))], none)])
 (.seq (.seq (.kill [1, 3, 5] [3, 5] (.region [
      (.call 7 5 [] [] [] [], none),
      (.p 8 (.un .not) [.t 7], none)]))
   (.cond (.t 8)
    (.seq (.kill [] [] (.region [
        (.p 6 .id [.c (.pv (.bool false))], none)]))
     .ret)
    .skip))
  (.seq (.kill [1, 3, 5] [3, 5] (.region [
      (.load 9 (some (2, true)) (some 3) (.t 3), none),
      (.p 10 .id [.t 1], none),
      (.p 11 (.indexAddr (some 2) 1) [.t 5, .c (.pv (.int .i64 0))], none),
      (.load 12 none (some 5) (.t 11), none),
      (.p 13 (.indexAddr (some 2) 1) [.t 5, .c (.pv (.int .i64 1))], none),
      (.load 14 none (some 5) (.t 13), none),
      (.call 15 6 [.t 9, .t 10, .t 12, .t 14] [] [] [], none),
      (.load 16 (some (2, true)) (some 3) (.t 3), none),
      (.p 17 .id [.t 1], none),
      (.p 18 (.indexAddr (some 2) 1) [.t 5, .c (.pv (.int .i64 0))], none),
      (.load 19 none (some 5) (.t 18), none),
      (.p 20 (.indexAddr (some 2) 1) [.t 5, .c (.pv (.int .i64 1))], none),
      (.load 21 none (some 5) (.t 20), none),
      (.call 22 7 [.t 16, .t 17, .t 19, .t 21] [] [] [], none),
      (.p 23 (.beq false) [.t 15, .t 22], none),
      (.p 6 .id [.t 23], none)]))
   .ret)))
theorem okLaw20ClockDue : okFn Tryd.prog Tryd.f3 irLaw20ClockDue [.t 6] [] 3 = true := by kernel_rfl

-- consistorylaw20.ClockOnce
-- consistorylaw20.ClockOnce: args [24, 22, 5]; lent []; rs [.t 6]; loops: L2 keeps [1, 3, 7, 9, 10, 29, 30, 31, 35, 36] [3]; L1 keeps [1, 3, 7, 29, 30, 31] [3]
def irLaw20ClockOnce_L2 : IR := (.seq (.kill [1, 3, 7, 9, 10, 29, 30, 31, 35, 36] [3] (.region [
     (.p 37 (.bin .lss) [.t 36, .t 35], none)]))
  (.seq (.cond (.t 37)
    .skip
    (.exit 2))
   (.seq (.block 3 (.seq (.kill [1, 3, 7, 9, 10, 29, 30, 31, 35, 36] [3] (.region [
         (.p 38 .id [.t 36], none),
         (.p 11 .id [.t 38], none)]))
      (.seq (.kill [1, 3, 7, 9, 10, 11, 29, 30, 31, 35, 36] [3] (.region [
          (.load 39 (some (2, true)) (some 3) (.t 3), none),
          (.p 40 .id [.t 9], none),
          (.p 41 .id [.t 1], none),
          (.p 42 (.conv .i64) [.t 41], none),
          (.p 43 (.bin .add) [.c (.pv (.int .i64 1)), .t 42], none),
          (.p 44 .id [.t 11], none),
          (.p 45 (.bin .add) [.t 43, .t 44], none),
          (.p 46 .id [.t 7], none),
          (.call 47 6 [.t 39, .t 40, .t 45, .t 46] [] [] [], none)]))
       (.cond (.t 47)
        (.kill [1, 3, 7, 9, 10, 29, 30, 31, 35, 36] [3] (.region [
           (.p 48 .id [.t 10], none),
           (.p 49 (.bin .add) [.t 48, .c (.pv (.int .i64 1))], none),
           (.p 10 .id [.t 49], none)]))
        .skip))))
    (.kill [1, 3, 7, 9, 10, 29, 30, 31, 35, 36] [3] (.region [
       (.p 50 (.bin .add) [.t 36, .c (.pv (.int .i64 1))], none),
       (.p 36 .id [.t 50], none)])))))
def irLaw20ClockOnce_L1 : IR := (.seq (.kill [1, 3, 7, 29, 30, 31] [3] (.region [
     (.p 32 (.bin .lss) [.t 31, .t 30], none)]))
  (.seq (.cond (.t 32)
    .skip
    (.exit 0))
   (.seq (.block 1 (.seq (.kill [1, 3, 7, 29, 30, 31] [3] (.region [
         (.p 33 (.indexAddr none 1) [.t 29, .t 31], none),
         (.load 34 none (some 9999) (.t 33), none),
         (.p 9 .id [.t 34], none)]))
      (.seq (.kill [1, 3, 7, 9, 29, 30, 31] [3] (.region [
          (.p 10 .id [.c (.pv (.int .i64 0))], none)]))
       (.seq (.seq (.kill [1, 3, 7, 9, 10, 29, 30, 31] [3] (.region [
            (.p 35 .id [.t 7], none),
            (.p 36 .id [.c (.pv (.int .i64 0))], none)]))
         (.block 2 (.loop (.kill [1, 3, 7, 9, 10, 29, 30, 31, 35, 36] [3] irLaw20ClockOnce_L2))))
        (.seq (.kill [1, 3, 7, 10, 29, 30, 31] [3] (.region [
            (.p 51 .id [.t 10], none),
            (.p 52 (.bin .neq) [.t 51, .c (.pv (.int .i64 1))], none)]))
         (.cond (.t 52)
          (.seq (.kill [] [] (.region [
              (.p 6 .id [.c (.pv (.bool false))], none)]))
           .ret)
          .skip))))))
    (.kill [1, 3, 7, 29, 30, 31] [3] (.region [
       (.p 53 (.bin .add) [.t 31, .c (.pv (.int .i64 1))], none),
       (.p 31 .id [.t 53], none)])))))
def irLaw20ClockOnce : IR := (.seq (.region [
    (.box 3 (.t 0), none),
    (.p 6 .id [.c (.pv (.bool false))], none)])
 (.seq (.seq (.kill [1, 2, 3] [3] (.region [
      (.call 12 5 [] [] [] [], none),
      (.p 13 (.un .not) [.t 12], none)]))
   (.cond (.t 13)
    (.seq (.kill [] [] (.region [
        (.p 6 .id [.c (.pv (.bool false))], none)]))
     .ret)
    .skip))
  (.seq (.kill [1, 2, 3] [3] (.region [
      (.p 14 .id [.t 2], none),
      (.p 15 (.conv .i64) [.t 14], none),
      (.p 16 (.bin .rem) [.t 15, .c (.pv (.int .i64 60))], none),
      (.p 17 (.bin .add) [.c (.pv (.int .i64 1)), .t 16], none),
      (.p 7 .id [.t 17], none)]))
   (.seq (.seq (.kill [1, 3, 7] [3] (.region [
        (.load 18 (some (2, true)) (some 3) (.t 3), none),
        (.call 19 8 [.t 18] [] [] [], none),
        (.p 20 (.un .not) [.t 19], none)]))
     (.cond (.t 20)
      (.seq (.kill [1, 3, 7] [3] (.region [
          (.load 21 (some (2, true)) (some 3) (.t 3), none),
          (.p 22 .id [.t 1], none),
          (.p 23 (.conv .i64) [.t 22], none),
          (.p 24 (.bin .add) [.c (.pv (.int .i64 1)), .t 23], none),
          (.p 25 .id [.t 7], none),
          (.call 26 6 [.t 21, .c (.pv (.int .i64 0)), .t 24, .t 25] [] [] [], none),
          (.p 27 (.un .not) [.t 26], none),
          (.p 6 .id [.t 27], none)]))
       .ret)
      .skip))
    (.seq (.seq (.kill [1, 3, 7] [3] (.region [
         (.load 28 (some (2, true)) (some 3) (.t 3), none),
         (.call 29 9 [.t 28] [] [] [], none),
         (.p 30 (.len none) [.t 29], none),
         (.p 31 .id [.c (.pv (.int .i64 0))], none)]))
      (.block 0 (.loop (.kill [1, 3, 7, 29, 30, 31] [3] irLaw20ClockOnce_L1))))
     (.seq (.kill [] [] (.region [
         (.p 6 .id [.c (.pv (.bool true))], none)]))
      .ret))))))
theorem okLaw20ClockOnce : okFn Tryd.prog Tryd.f4 irLaw20ClockOnce [.t 6] [] 3 = true := by kernel_rfl

end Go.Proofs.YtdmgkgkhdkoojaaDoor
