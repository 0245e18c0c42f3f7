/- The abstract code of functions, printed by gen_ir.py out of the program's form in Lean; each is checked against it. -/
import Derived.Test.YtlbfpnckoblppaaProg
import Derived.Test.YtlbfpnckoblppaaAbs2
set_option linter.unusedVariables false
set_option linter.unusedSimpArgs false
set_option maxRecDepth 100000
namespace Go.Proofs.Ytlbfpnckoblppaa
open Go.Abs
-- disk.New
-- disk.New: args [3]; lent []; rs [.t 2]; loops: 
def irDiskNew : IR := (.seq (.region [
    (.p 2 .id [.c (.pv .nilp)], none)])
 (.seq (.kill [0] [] (.region [
     (.p 3 .id [.t 0], none),
     (.p 4 (.mm false) [.t 3, .c (.pv (.int .i64 1048576))], none),
     (.p 5 (.mm true) [.c (.pv (.int .i64 0)), .t 4], none),
     (.mkmap 6 false [.s], none),
     (.mkmap 7 false [.s], none),
     (.build 8 (.agg [.pv (.int .i64 0), .pv .nilm, .pv .nilm, .os 61 4 [], .pv (.int .i64 0), .pv (.bool false)]) [(0, 1, .t 5), (1, 1, .t 6), (2, 1, .t 7), (4, 1, .c (.pv (.int .i64 (-1))))], none),
     (.boxmv 9 8, none),
     (.p 2 .id [.t 9], none)]))
  .ret))
theorem okDiskNew : okFn Try.prog Try.f9 irDiskNew [.t 2] [9, 6, 7] 1 = true := by kernel_rfl

-- disk.named
-- disk.named: args [9]; lent []; rs [.t 2]; loops: 
def irDiskNamed : IR := (.seq (.region [
    (.p 2 .id [.c (.pv (.bool false))], none)])
 (.seq (.kill [0] [] (.region [
     (.p 3 .id [.t 0], none),
     (.p 4 .slen [.t 3], none),
     (.p 5 (.bin .geq) [.t 4, .c (.pv (.int .i64 1))], none),
     (.p 6 .id [.t 5], none),
     (.p 7 .id [.t 0], some (6, true)),
     (.p 8 .slen [.t 7], some (6, true)),
     (.p 9 (.bin .leq) [.t 8, .c (.pv (.int .i64 24))], some (6, true)),
     (.p 10 .pick [.t 6, .t 9, .c (.pv (.bool false))], none),
     (.p 2 .id [.t 10], none)]))
  .ret))
theorem okDiskNamed : okFn Try.prog Try.f23 irDiskNamed [.t 2] [] 1 = true := by kernel_rfl

-- disk.Disk.burn
-- disk.Disk.burn: args [24]; lent [0, None, None]; rs [.t 2]; loops: 
def irDiskDiskBurn : IR := (.seq (.region [
    (.p 2 .id [.c (.pv (.bool false))], none)])
 (.seq (.seq (.kill [0] [1000, 1001, 1002] (.region [
      (.p 3 .id [.t 0], none),
      (.p 4 .nilc [.t 3], none),
      (.p 5 (.fieldAddr 4) [.t 4], none),
      (.load 6 none (some 1000) (.t 5), none),
      (.p 7 (.bin .eql) [.t 6, .c (.pv (.int .i64 0))], none)]))
   (.cond (.t 7)
    (.kill [0] [1000, 1001, 1002] (.region [
       (.p 8 .id [.t 0], none),
       (.p 9 .nilc [.t 8], none),
       (.p 10 (.fieldAddr 5) [.t 9], none),
       (.store none (some 1000) (.t 10) (.c (.pv (.bool true))), none)]))
    .skip))
  (.seq (.seq (.kill [0] [1000, 1001, 1002] (.region [
       (.p 11 .id [.t 0], none),
       (.p 12 .nilc [.t 11], none),
       (.p 13 (.fieldAddr 4) [.t 12], none),
       (.load 14 none (some 1000) (.t 13), none),
       (.p 15 (.bin .gtr) [.t 14, .c (.pv (.int .i64 0))], none)]))
    (.cond (.t 15)
     (.kill [0] [1000, 1001, 1002] (.region [
        (.p 16 .id [.t 0], none),
        (.p 17 .nilc [.t 16], none),
        (.p 18 (.fieldAddr 4) [.t 17], none),
        (.load 19 none (some 1000) (.t 18), none),
        (.p 20 (.bin .sub) [.t 19, .c (.pv (.int .i64 1))], none),
        (.p 21 .nilc [.t 16], none),
        (.p 22 (.fieldAddr 4) [.t 21], none),
        (.store none (some 1000) (.t 22) (.t 20), none)]))
     .skip))
   (.seq (.kill [0] [1000, 1001, 1002] (.region [
       (.p 23 .id [.t 0], none),
       (.p 24 .nilc [.t 23], none),
       (.p 25 (.fieldAddr 5) [.t 24], none),
       (.load 26 none (some 1000) (.t 25), none),
       (.p 27 (.un .not) [.t 26], none),
       (.p 2 .id [.t 27], none)]))
    .ret))))
theorem okDiskDiskBurn : okFn Try.prog Try.f37 irDiskDiskBurn [.t 2] [] 1 = true := by kernel_rfl

-- disk.Disk.fits
-- disk.Disk.fits: args [24, 3, 3]; lent [0, None, None]; rs [.t 6]; loops: 
def irDiskDiskFits : IR := (.seq (.region [
    (.p 6 .id [.c (.pv (.bool false))], none)])
 (.seq (.kill [0, 1, 2] [1000, 1001, 1002] (.region [
     (.p 7 .id [.t 1], none),
     (.p 8 .id [.t 0], none),
     (.p 9 .nilc [.t 8], none),
     (.p 10 (.fieldAddr 0) [.t 9], none),
     (.load 11 none (some 1000) (.t 10), none),
     (.p 12 .id [.t 0], none),
     (.p 13 .nilc [.t 12], none),
     (.p 14 (.fieldAddr 2) [.t 13], none),
     (.load 15 none (some 1000) (.t 14), none),
     (.call 16 43 [.t 15] [1002] [] [], none),
     (.p 17 (.bin .sub) [.t 11, .t 16], none),
     (.p 18 .id [.t 2], none),
     (.p 19 (.bin .add) [.t 17, .t 18], none),
     (.p 20 (.bin .leq) [.t 7, .t 19], none),
     (.p 6 .id [.t 20], none)]))
  .ret))
theorem okDiskDiskFits : okFn Try.prog Try.f24 irDiskDiskFits [.t 6] [] 3 = true := by kernel_rfl

-- disk.files.do
-- disk.files.do: args [54, 61]; lent [0]; rs []; loops: 
def irDiskFilesDo : IR := (.seq (.region [
    (.box 3 (.t 1), none)])
 (.seq (.kill [0, 3] [3, 1000] (.region [
     (.p 6 (.fieldAddr 0) [.t 3], none),
     (.load 7 none (some 3) (.t 6), none)]))
  (.block 0 (.seq (.kill [0, 3, 7] [3, 1000] (.region [
       (.p 9 (.bin .eql) [.t 7, .c (.pv (.int .i64 1))], none),
       (.p 8 .id [.t 9], none)]))
    (.cond (.t 8)
     (.kill [0, 3] [3, 1000] (.region [
        (.p 10 .id [.t 0], none),
        (.p 11 (.fieldAddr 1) [.t 3], none),
        (.load 12 none (some 3) (.t 11), none),
        (.p 13 .id [.t 0], none),
        (.p 14 (.fieldAddr 1) [.t 3], none),
        (.load 15 none (some 3) (.t 14), none),
        (.mlook 16 false false [.s] (.sl 1 []) (some 1000) (.t 13) (.t 15), none),
        (.p 17 (.fieldAddr 3) [.t 3], none),
        (.load 18 none (some 3) (.t 17), none),
        (.bslice 19 22 1 2 [.sl 1 []] [(0, .t 16), (1, .t 18)], none),
        (.call 20 53 [.t 19] [] [] [], none),
        (.mupd false [.s] (some 1000) (.t 10) (.t 12) (.t 20), none)]))
     (.seq (.kill [0, 3, 7] [3, 1000] (.region [
         (.p 22 (.bin .eql) [.t 7, .c (.pv (.int .i64 2))], none),
         (.p 21 .id [.t 22], none)]))
      (.cond (.t 21)
       (.kill [0, 3] [3, 1000] (.region [
          (.p 23 .id [.t 0], none),
          (.p 24 (.fieldAddr 1) [.t 3], none),
          (.load 25 none (some 3) (.t 24), none),
          (.p 26 (.fieldAddr 3) [.t 3], none),
          (.load 27 none (some 3) (.t 26), none),
          (.call 28 26 [.t 27] [] [] [], none),
          (.mupd false [.s] (some 1000) (.t 23) (.t 25) (.t 28), none)]))
       (.seq (.kill [0, 3, 7] [3, 1000] (.region [
           (.p 30 (.bin .eql) [.t 7, .c (.pv (.int .i64 3))], none),
           (.p 29 .id [.t 30], none)]))
        (.cond (.t 29)
         (.seq (.kill [0, 3] [3, 1000] (.region [
             (.p 32 .id [.t 0], none),
             (.p 33 (.fieldAddr 1) [.t 3], none),
             (.load 34 none (some 3) (.t 33), none),
             (.mlook 35 true false [.s] (.sl 1 []) (some 1000) (.t 32) (.t 34), none),
             (.p 31 .id [.t 35], none),
             (.p 36 (.ext 0) [.t 31], none),
             (.p 37 (.ext 1) [.t 31], none),
             (.mv 4 36, none),
             (.p 5 .id [.t 37], none)]))
          (.seq (.kill [0, 3, 4, 5] [3, 1000] (.region [
              (.p 38 .id [.t 5], none),
              (.p 39 .id [.t 38], none),
              (.p 40 (.fieldAddr 1) [.t 3], some (39, true)),
              (.load 41 none (some 3) (.t 40), some (39, true)),
              (.p 42 (.fieldAddr 2) [.t 3], some (39, true)),
              (.load 43 none (some 3) (.t 42), some (39, true)),
              (.p 44 (.sb .neq) [.t 41, .t 43], some (39, true)),
              (.p 45 .pick [.t 39, .t 44, .c (.pv (.bool false))], none)]))
           (.cond (.t 45)
            (.seq (.kill [0, 3, 4] [3, 1000] (.region [
                (.p 46 .id [.t 0], none),
                (.p 47 (.fieldAddr 1) [.t 3], none),
                (.load 48 none (some 3) (.t 47), none),
                (.mdel false [.s] (some 1000) (.t 46) (.t 48), none)]))
             (.kill [0, 3, 4] [3, 1000] (.region [
                (.p 49 .id [.t 0], none),
                (.p 50 (.fieldAddr 2) [.t 3], none),
                (.load 51 none (some 3) (.t 50), none),
                (.mv 52 4, none),
                (.mupd false [.s] (some 1000) (.t 49) (.t 51) (.t 52), none)])))
            .skip)))
         (.seq (.kill [0, 3, 7] [3, 1000] (.region [
             (.p 54 (.bin .eql) [.t 7, .c (.pv (.int .i64 4))], none),
             (.p 53 .id [.t 54], none)]))
          (.cond (.t 53)
           (.kill [0, 3] [3, 1000] (.region [
              (.p 55 .id [.t 0], none),
              (.p 56 (.fieldAddr 1) [.t 3], none),
              (.load 57 none (some 3) (.t 56), none),
              (.mdel false [.s] (some 1000) (.t 55) (.t 57), none)]))
           .skip)))))))))))
theorem okDiskFilesDo : okFn Try.prog Try.f42 irDiskFilesDo [] [] 2 = true := by kernel_rfl

-- disk.Disk.do
-- disk.Disk.do: args [24, 61]; lent [0, None, None]; rs [.t 4]; loops: 
def irDiskDiskDo : IR := (.seq (.region [
    (.box 3 (.t 1), none),
    (.p 4 .id [.c (.pv (.int .i64 0))], none)])
 (.seq (.seq (.kill [0, 3] [3, 1000, 1001, 1002] (.region [
      (.p 5 .id [.t 0], none),
      (.call 6 37 [.t 5] [1000, 1001, 1002] [] [], none),
      (.p 7 (.un .not) [.t 6], none)]))
   (.cond (.t 7)
    (.seq (.kill [0] [1000, 1001, 1002] (.region [
        (.p 4 .id [.c (.pv (.int .i64 14))], none)]))
     .ret)
    .skip))
  (.seq (.kill [0, 3] [3, 1000, 1001, 1002] (.region [
      (.p 8 .id [.t 0], none),
      (.p 9 .nilc [.t 8], none),
      (.p 10 (.fieldAddr 2) [.t 9], none),
      (.load 11 none (some 1000) (.t 10), none),
      (.load 12 (some (4, true)) (some 3) (.t 3), none),
      (.call 13 42 [.t 11, .t 12] [1002] [] [], none)]))
   (.seq (.kill [0, 3] [3, 1000, 1001, 1002] (.region [
       (.p 14 .id [.t 0], none),
       (.p 15 .id [.t 0], none),
       (.p 16 .nilc [.t 15], none),
       (.p 17 (.fieldAddr 3) [.t 16], none),
       (.loadmv 18 (some 1000) (.t 17), none),
       (.load 19 (some (4, true)) (some 3) (.t 3), none),
       (.bslice 20 61 4 1 [.int .i64 0, .str .empty, .str .empty, .sl 1 []] [(0, .t 19)], none),
       (.app 21 61 4 18 none (.t 20), none),
       (.p 22 .nilc [.t 14], none),
       (.p 23 (.fieldAddr 3) [.t 22], none),
       (.storemv (some 1000) (.t 23) 21, none)]))
    (.seq (.kill [0] [1000, 1001, 1002] (.region [
        (.p 4 .id [.c (.pv (.int .i64 0))], none)]))
     .ret)))))
theorem okDiskDiskDo : okFn Try.prog Try.f25 irDiskDiskDo [.t 4] [] 2 = true := by kernel_rfl

-- disk.Disk.Write
-- disk.Disk.Write: args [24, 9, 22]; lent [0, None, None]; rs [.t 6]; loops: 
def irDiskDiskWrite : IR := (.seq (.region [
    (.p 6 .id [.c (.pv (.int .i64 0))], none)])
 (.seq (.block 0 (.seq (.kill [0, 1, 2] [1000, 1001, 1002] (.region [
       (.p 8 .id [.t 0], none),
       (.p 9 (.peq false) [.t 8, .c (.pv .nilp)], none),
       (.p 7 .id [.t 9], none)]))
    (.cond (.t 7)
     (.seq (.kill [0] [1000, 1001, 1002] (.region [
         (.p 6 .id [.c (.pv (.int .i64 16))], none)]))
      .ret)
     (.seq (.kill [0, 1, 2] [1000, 1001, 1002] (.region [
         (.p 11 .id [.t 0], none),
         (.p 12 .nilc [.t 11], none),
         (.p 13 (.fieldAddr 5) [.t 12], none),
         (.load 14 none (some 1000) (.t 13), none),
         (.p 10 .id [.t 14], none)]))
      (.cond (.t 10)
       (.seq (.kill [0] [1000, 1001, 1002] (.region [
           (.p 6 .id [.c (.pv (.int .i64 14))], none)]))
        .ret)
       (.seq (.kill [0, 1, 2] [1000, 1001, 1002] (.region [
           (.p 16 .id [.t 1], none),
           (.call 17 23 [.t 16] [] [] [], none),
           (.p 18 (.un .not) [.t 17], none),
           (.p 15 .id [.t 18], none)]))
        (.cond (.t 15)
         (.seq (.kill [0] [1000, 1001, 1002] (.region [
             (.p 6 .id [.c (.pv (.int .i64 15))], none)]))
          .ret)
         (.seq (.kill [0, 1, 2] [1000, 1001, 1002] (.region [
             (.p 20 .id [.t 0], none),
             (.p 21 .id [.t 2], none),
             (.p 22 (.len none) [.t 21], none),
             (.p 23 .id [.t 0], none),
             (.p 24 .nilc [.t 23], none),
             (.p 25 (.fieldAddr 2) [.t 24], none),
             (.load 26 none (some 1000) (.t 25), none),
             (.p 27 .id [.t 1], none),
             (.mlook 28 false false [.s] (.sl 1 []) (some 1002) (.t 26) (.t 27), none),
             (.p 29 (.len none) [.t 28], none),
             (.call 30 24 [.t 20, .t 22, .t 29] [1000, 1001, 1002] [] [], none),
             (.p 31 (.un .not) [.t 30], none),
             (.p 19 .id [.t 31], none)]))
          (.cond (.t 19)
           (.seq (.kill [0] [1000, 1001, 1002] (.region [
               (.p 6 .id [.c (.pv (.int .i64 4))], none)]))
            .ret)
           .skip)))))))))
  (.seq (.kill [0, 1, 2] [1000, 1001, 1002] (.region [
      (.p 32 .id [.t 0], none),
      (.p 33 .id [.t 1], none),
      (.mv 34 2, none),
      (.call 35 26 [.t 34] [] [] [], none),
      (.build 36 (.pagg [.int .i64 0, .str .empty, .str .empty, .sl 1 []]) [(0, 1, .c (.pv (.int .i64 2))), (1, 1, .t 33), (3, 1, .t 35)], none),
      (.call 37 25 [.t 32, .t 36] [1000, 1001, 1002] [] [], none),
      (.p 6 .id [.t 37], none)]))
   .ret)))
theorem okDiskDiskWrite : okFn Try.prog Try.f10 irDiskDiskWrite [.t 6] [] 3 = true := by kernel_rfl

-- disk.Disk.there
-- disk.Disk.there: args [24, 9]; lent [0, None, None]; rs [.t 4]; loops: 
def irDiskDiskThere : IR := (.seq (.region [
    (.p 4 .id [.c (.pv (.bool false))], none)])
 (.seq (.kill [0, 1] [1000, 1001, 1002] (.region [
     (.p 8 .id [.t 0], none),
     (.p 9 .nilc [.t 8], none),
     (.p 10 (.fieldAddr 2) [.t 9], none),
     (.load 11 none (some 1000) (.t 10), none),
     (.p 12 .id [.t 1], none),
     (.mlook 13 true false [.s] (.sl 1 []) (some 1002) (.t 11) (.t 12), none),
     (.p 7 .id [.t 13], none),
     (.p 14 (.ext 0) [.t 7], none),
     (.p 15 (.ext 1) [.t 7], none),
     (.mv 5 14, none),
     (.p 6 .id [.t 15], none)]))
  (.seq (.kill [0, 6] [1000, 1001, 1002] (.region [
      (.p 16 .id [.t 6], none),
      (.p 4 .id [.t 16], none)]))
   .ret)))
theorem okDiskDiskThere : okFn Try.prog Try.f40 irDiskDiskThere [.t 4] [] 2 = true := by kernel_rfl

-- disk.Disk.Rename
-- disk.Disk.Rename: args [24, 9, 9]; lent [0, None, None]; rs [.t 6]; loops: 
def irDiskDiskRename : IR := (.seq (.region [
    (.p 6 .id [.c (.pv (.int .i64 0))], none)])
 (.seq (.block 0 (.seq (.kill [0, 1, 2] [1000, 1001, 1002] (.region [
       (.p 8 .id [.t 0], none),
       (.p 9 (.peq false) [.t 8, .c (.pv .nilp)], none),
       (.p 7 .id [.t 9], none)]))
    (.cond (.t 7)
     (.seq (.kill [0] [1000, 1001, 1002] (.region [
         (.p 6 .id [.c (.pv (.int .i64 16))], none)]))
      .ret)
     (.seq (.kill [0, 1, 2] [1000, 1001, 1002] (.region [
         (.p 11 .id [.t 0], none),
         (.p 12 .nilc [.t 11], none),
         (.p 13 (.fieldAddr 5) [.t 12], none),
         (.load 14 none (some 1000) (.t 13), none),
         (.p 10 .id [.t 14], none)]))
      (.cond (.t 10)
       (.seq (.kill [0] [1000, 1001, 1002] (.region [
           (.p 6 .id [.c (.pv (.int .i64 14))], none)]))
        .ret)
       (.seq (.kill [0, 1, 2] [1000, 1001, 1002] (.region [
           (.p 16 .id [.t 1], none),
           (.call 17 23 [.t 16] [] [] [], none),
           (.p 18 (.un .not) [.t 17], none),
           (.p 19 .id [.t 18], none),
           (.p 20 .id [.t 2], some (19, false)),
           (.call 21 23 [.t 20] [] [] [], some (19, false)),
           (.p 22 (.un .not) [.t 21], some (19, false)),
           (.p 23 .pick [.t 19, .c (.pv (.bool true)), .t 22], none),
           (.p 15 .id [.t 23], none)]))
        (.cond (.t 15)
         (.seq (.kill [0] [1000, 1001, 1002] (.region [
             (.p 6 .id [.c (.pv (.int .i64 15))], none)]))
          .ret)
         (.seq (.kill [0, 1, 2] [1000, 1001, 1002] (.region [
             (.p 25 .id [.t 0], none),
             (.p 26 .id [.t 1], none),
             (.call 27 40 [.t 25, .t 26] [1000, 1001, 1002] [] [], none),
             (.p 28 (.un .not) [.t 27], none),
             (.p 24 .id [.t 28], none)]))
          (.cond (.t 24)
           (.seq (.kill [0] [1000, 1001, 1002] (.region [
               (.p 6 .id [.c (.pv (.int .i64 13))], none)]))
            .ret)
           .skip)))))))))
  (.seq (.kill [0, 1, 2] [1000, 1001, 1002] (.region [
      (.p 29 .id [.t 0], none),
      (.p 30 .id [.t 1], none),
      (.p 31 .id [.t 2], none),
      (.build 32 (.pagg [.int .i64 0, .str .empty, .str .empty, .sl 1 []]) [(0, 1, .c (.pv (.int .i64 3))), (1, 1, .t 30), (2, 1, .t 31)], none),
      (.call 33 25 [.t 29, .t 32] [1000, 1001, 1002] [] [], none),
      (.p 6 .id [.t 33], none)]))
   .ret)))
theorem okDiskDiskRename : okFn Try.prog Try.f20 irDiskDiskRename [.t 6] [] 3 = true := by kernel_rfl

-- disk.Disk.Read
-- disk.Disk.Read: args [24, 9]; lent [0, None, None]; rs [.t 4, .t 5]; loops: 
def irDiskDiskRead : IR := (.seq (.region [
    (.p 4 .id [.c (.os 5 1 [])], none),
    (.p 5 .id [.c (.pv (.int .i64 0))], none)])
 (.seq (.seq (.kill [0, 1] [1000, 1001, 1002] (.region [
      (.p 8 .id [.t 0], none),
      (.p 9 (.peq false) [.t 8, .c (.pv .nilp)], none)]))
   (.cond (.t 9)
    (.seq (.kill [0] [1000, 1001, 1002] (.region [
        (.p 4 .id [.c (.os 5 1 [])], none),
        (.p 5 .id [.c (.pv (.int .i64 16))], none)]))
     .ret)
    .skip))
  (.seq (.kill [0, 1] [1000, 1001, 1002] (.region [
      (.p 11 .id [.t 0], none),
      (.p 12 .nilc [.t 11], none),
      (.p 13 (.fieldAddr 2) [.t 12], none),
      (.load 14 none (some 1000) (.t 13), none),
      (.p 15 .id [.t 1], none),
      (.mlook 16 true false [.s] (.sl 1 []) (some 1002) (.t 14) (.t 15), none),
      (.p 10 .id [.t 16], none),
      (.p 17 (.ext 0) [.t 10], none),
      (.p 18 (.ext 1) [.t 10], none),
      (.mv 6 17, none),
      (.p 7 .id [.t 18], none)]))
   (.seq (.seq (.kill [0, 6, 7] [1000, 1001, 1002] (.region [
        (.p 19 .id [.t 7], none),
        (.p 20 (.un .not) [.t 19], none)]))
     (.cond (.t 20)
      (.seq (.kill [0] [1000, 1001, 1002] (.region [
          (.p 4 .id [.c (.os 5 1 [])], none),
          (.p 5 .id [.c (.pv (.int .i64 13))], none)]))
       .ret)
      .skip))
    (.seq (.kill [0, 6] [1000, 1001, 1002] (.region [
        (.mv 21 6, none),
        (.call 22 26 [.t 21] [] [] [], none),
        (.mv 4 22, none),
        (.p 5 .id [.c (.pv (.int .i64 0))], none)]))
     .ret)))))
theorem okDiskDiskRead : okFn Try.prog Try.f17 irDiskDiskRead [.t 4, .t 5] [] 2 = true := by kernel_rfl

-- disk.Disk.settle
-- disk.Disk.settle: args [24]; lent [0, None, None]; rs []; loops: 
def irDiskDiskSettle : IR := (.seq (.region [
    (.p 2 .id [.t 0], none),
    (.p 3 .nilc [.t 2], none),
    (.p 4 (.fieldAddr 3) [.t 3], none),
    (.store none (some 1000) (.t 4) (.c (.os 61 4 [])), none)])
 (.kill [0] [10, 1000, 1001, 1002] (.region [
    (.p 5 .id [.t 0], none),
    (.p 6 .id [.t 0], none),
    (.p 7 .nilc [.t 6], none),
    (.p 8 (.fieldAddr 1) [.t 7], none),
    (.load 9 none (some 1000) (.t 8), none),
    (.call 10 38 [.t 9] [1001] [10] [], none),
    (.p 11 .nilc [.t 5], none),
    (.p 12 (.fieldAddr 2) [.t 11], none),
    (.store none (some 1000) (.t 12) (.t 10), none)])))
theorem okDiskDiskSettle : okFn Try.prog Try.f39 irDiskDiskSettle [] [10] 1 = true := by kernel_rfl

-- disk.Disk.Sync
-- disk.Disk.Sync: args [24]; lent [0, None, None]; rs []; loops: 
def irDiskDiskSync : IR := (.seq (.seq (.region [
     (.p 2 .id [.t 0], none),
     (.p 3 (.peq false) [.t 2, .c (.pv .nilp)], none),
     (.p 4 .id [.t 3], none),
     (.p 5 .id [.t 0], some (4, false)),
     (.call 6 37 [.t 5] [1000, 1001, 1002] [] [], some (4, false)),
     (.p 7 (.un .not) [.t 6], some (4, false)),
     (.p 8 .pick [.t 4, .c (.pv (.bool true)), .t 7], none)])
  (.cond (.t 8)
   .ret
   .skip))
 (.seq (.kill [0] [14, 1000, 1001, 1002] (.region [
     (.p 9 .id [.t 0], none),
     (.p 10 .id [.t 0], none),
     (.p 11 .nilc [.t 10], none),
     (.p 12 (.fieldAddr 2) [.t 11], none),
     (.load 13 none (some 1000) (.t 12), none),
     (.call 14 38 [.t 13] [1002] [14] [], none),
     (.p 15 .nilc [.t 9], none),
     (.p 16 (.fieldAddr 1) [.t 15], none),
     (.store none (some 1000) (.t 16) (.t 14), none)]))
  (.kill [0] [14, 1000, 1001, 1002] (.region [
     (.p 17 .id [.t 0], none),
     (.call 18 39 [.t 17] [1000, 14, 1002] [18] [], none)]))))
theorem okDiskDiskSync : okFn Try.prog Try.f19 irDiskDiskSync [] [14, 18] 1 = true := by kernel_rfl

-- snaps.named
-- snaps.named: args [9]; lent []; rs [.t 2]; loops: 
def irSnapsNamed : IR := (.seq (.region [
    (.p 2 .id [.c (.pv (.bool false))], none)])
 (.seq (.kill [0] [] (.region [
     (.p 3 .id [.t 0], none),
     (.p 4 .slen [.t 3], none),
     (.p 5 (.bin .geq) [.t 4, .c (.pv (.int .i64 1))], none),
     (.p 6 .id [.t 5], none),
     (.p 7 .id [.t 0], some (6, true)),
     (.p 8 .slen [.t 7], some (6, true)),
     (.p 9 (.bin .leq) [.t 8, .c (.pv (.int .i64 16))], some (6, true)),
     (.p 10 .pick [.t 6, .t 9, .c (.pv (.bool false))], none),
     (.p 11 .id [.t 10], none),
     (.p 12 .id [.t 0], some (11, true)),
     (.call 13 54 [.t 12, .c (.fn 55)] [] [] [], some (11, true)),
     (.p 14 (.bin .lss) [.t 13, .c (.pv (.int .i64 0))], some (11, true)),
     (.p 15 .pick [.t 11, .t 14, .c (.pv (.bool false))], none),
     (.p 2 .id [.t 15], none)]))
  .ret))
theorem okSnapsNamed : okFn Try.prog Try.f44 irSnapsNamed [.t 2] [] 1 = true := by kernel_rfl

-- snaps.asked
-- snaps.asked: args [24, 9]; lent [0, None, None]; rs [.t 4]; loops: 
def irSnapsAsked : IR := (.seq (.region [
    (.p 4 .id [.c (.pv (.int .i64 0))], none)])
 (.seq (.kill [0, 1] [1000, 1001, 1002] (.region [
     (.p 5 .id [.c (.pv (.int .i64 0))], none)]))
  (.seq (.block 0 (.seq (.kill [0, 1, 5] [1000, 1001, 1002] (.region [
        (.p 7 .id [.t 0], none),
        (.p 8 (.peq false) [.t 7, .c (.pv .nilp)], none),
        (.p 6 .id [.t 8], none)]))
     (.cond (.t 6)
      (.kill [0] [1000, 1001, 1002] (.region [
         (.p 5 .id [.c (.pv (.int .i64 16))], none)]))
      (.seq (.kill [0, 1, 5] [1000, 1001, 1002] (.region [
          (.p 10 .id [.t 1], none),
          (.call 11 44 [.t 10] [] [] [], none),
          (.p 12 (.un .not) [.t 11], none),
          (.p 9 .id [.t 12], none)]))
       (.cond (.t 9)
        (.kill [0] [1000, 1001, 1002] (.region [
           (.p 5 .id [.c (.pv (.int .i64 15))], none)]))
        .skip)))))
   (.seq (.kill [0, 5] [1000, 1001, 1002] (.region [
       (.p 13 .id [.t 5], none),
       (.p 4 .id [.t 13], none)]))
    .ret))))
theorem okSnapsAsked : okFn Try.prog Try.f27 irSnapsAsked [.t 4] [] 2 = true := by kernel_rfl

-- snaps.told
-- snaps.told: args [22]; lent []; rs [.t 2]; loops: 
def irSnapsTold : IR := (.seq (.region [
    (.p 2 .id [.c (.os 5 1 [])], none)])
 (.seq (.kill [0] [] (.region [
     (.mv 5 0, none),
     (.call 6 46 [.c (.os 5 1 []), .t 5] [] [] [], none),
     (.mv 3 6, none)]))
  (.seq (.kill [3] [] (.region [
      (.p 7 .id [.t 3], none),
      (.call 8 47 [.t 7] [] [] [], none),
      (.alloc 4 (.pagg (List.replicate 32 (.int .u8 0))), none),
      (.store (some (32, true)) (some 4) (.t 4) (.t 8), none)]))
   (.seq (.kill [3, 4] [4] (.region [
       (.mv 9 3, none),
       (.p 10 (.slice (some 32) 1 false true) [.t 4, .c (.pv (.int .i64 8))], none),
       (.app 11 5 1 9 (some 4) (.t 10), none),
       (.mv 2 11, none)]))
    .ret))))
theorem okSnapsTold : okFn Try.prog Try.f32 irSnapsTold [.t 2] [] 1 = true := by kernel_rfl

-- snaps.Save
-- snaps.Save: args [24, 9, 22]; lent [0, None, None]; rs [.t 6]; loops: 
def strSnapsSave_1 : ByteArray := ⟨#[46, 110, 101, 119]⟩
def irSnapsSave : IR := (.seq (.region [
    (.p 6 .id [.c (.pv (.int .i64 0))], none)])
 (.seq (.seq (.kill [0, 1, 2] [1000, 1001, 1002] (.region [
      (.p 10 .id [.t 0], none),
      (.p 11 .id [.t 1], none),
      (.call 12 27 [.t 10, .t 11] [1000, 1001, 1002] [] [], none),
      (.p 7 .id [.t 12], none)]))
   (.seq (.kill [0, 1, 2, 7] [1000, 1001, 1002] (.region [
       (.p 13 .id [.t 7], none),
       (.p 14 (.bin .neq) [.t 13, .c (.pv (.int .i64 0))], none)]))
    (.cond (.t 14)
     (.seq (.kill [0, 7] [1000, 1001, 1002] (.region [
         (.p 15 .id [.t 7], none),
         (.p 6 .id [.t 15], none)]))
      .ret)
     .skip)))
  (.seq (.seq (.kill [0, 1, 2] [1000, 1001, 1002] (.region [
       (.p 16 .id [.t 2], none),
       (.p 17 (.len none) [.t 16], none),
       (.p 18 (.bin .gtr) [.t 17, .c (.pv (.int .i64 65536))], none)]))
    (.cond (.t 18)
     (.seq (.kill [0] [1000, 1001, 1002] (.region [
         (.p 6 .id [.c (.pv (.int .i64 4))], none)]))
      .ret)
     .skip))
   (.seq (.seq (.kill [0, 1, 2] [1000, 1001, 1002] (.region [
        (.p 19 .id [.t 0], none),
        (.p 20 .id [.t 1], none),
        (.p 21 (.sb .add) [.t 20, .c (.pv (.str strSnapsSave_1))], none),
        (.mv 22 2, none),
        (.call 23 32 [.t 22] [] [] [], none),
        (.call 24 10 [.t 19, .t 21, .t 23] [1000, 1001, 1002] [] [], none),
        (.p 8 .id [.t 24], none)]))
     (.seq (.kill [0, 1, 8] [1000, 1001, 1002] (.region [
         (.p 25 .id [.t 8], none),
         (.p 26 (.bin .neq) [.t 25, .c (.pv (.int .i64 0))], none)]))
      (.cond (.t 26)
       (.seq (.kill [0, 8] [1000, 1001, 1002] (.region [
           (.p 27 .id [.t 8], none),
           (.p 6 .id [.t 27], none)]))
        .ret)
       .skip)))
    (.seq (.kill [0, 1] [1000, 1001, 1002] (.region [
        (.p 28 .id [.t 0], none),
        (.call 29 19 [.t 28] [1000, 1001, 1002] [29, 429] [], none)]))
     (.seq (.seq (.kill [0, 1] [29, 429, 1000, 1001, 1002] (.region [
          (.p 30 .id [.t 0], none),
          (.p 31 .id [.t 1], none),
          (.p 32 (.sb .add) [.t 31, .c (.pv (.str strSnapsSave_1))], none),
          (.p 33 .id [.t 1], none),
          (.call 34 20 [.t 30, .t 32, .t 33] [1000, 29, 429] [] [], none),
          (.p 9 .id [.t 34], none)]))
       (.seq (.kill [0, 9] [29, 429, 1000, 1001, 1002] (.region [
           (.p 35 .id [.t 9], none),
           (.p 36 (.bin .neq) [.t 35, .c (.pv (.int .i64 0))], none)]))
        (.cond (.t 36)
         (.seq (.kill [0, 9] [29, 429, 1000, 1001, 1002] (.region [
             (.p 37 .id [.t 9], none),
             (.p 6 .id [.t 37], none)]))
          .ret)
         .skip)))
      (.seq (.kill [0] [29, 429, 1000, 1001, 1002] (.region [
          (.p 38 .id [.t 0], none),
          (.call 39 19 [.t 38] [1000, 29, 429] [39, 439] [], none)]))
       (.seq (.kill [0] [29, 39, 429, 439, 1000, 1001, 1002] (.region [
           (.p 6 .id [.c (.pv (.int .i64 0))], none)]))
        .ret))))))))
theorem okSnapsSave : okFn Try.prog Try.f15 irSnapsSave [.t 6] [39, 439] 3 = true := by kernel_rfl

-- snaps.Load
-- snaps.Load: args [24, 9]; lent [0, None, None]; rs [.t 4, .t 5]; loops: 
def irSnapsLoad : IR := (.seq (.region [
    (.p 4 .id [.c (.os 5 1 [])], none),
    (.p 5 .id [.c (.pv (.int .i64 0))], none)])
 (.seq (.seq (.kill [0, 1] [1000, 1001, 1002] (.region [
      (.p 11 .id [.t 0], none),
      (.p 12 .id [.t 1], none),
      (.call 13 27 [.t 11, .t 12] [1000, 1001, 1002] [] [], none),
      (.p 6 .id [.t 13], none)]))
   (.seq (.kill [0, 1, 6] [1000, 1001, 1002] (.region [
       (.p 14 .id [.t 6], none),
       (.p 15 (.bin .neq) [.t 14, .c (.pv (.int .i64 0))], none)]))
    (.cond (.t 15)
     (.seq (.kill [0, 6] [1000, 1001, 1002] (.region [
         (.p 16 .id [.t 6], none),
         (.p 4 .id [.c (.os 5 1 [])], none),
         (.p 5 .id [.t 16], none)]))
      .ret)
     .skip)))
  (.seq (.kill [0, 1] [1000, 1001, 1002] (.region [
      (.p 18 .id [.t 0], none),
      (.p 19 .id [.t 1], none),
      (.call 20 17 [.t 18, .t 19] [1000, 1001, 1002] [] [], none),
      (.p 17 .id [.t 20], none),
      (.p 21 (.ext 0) [.t 17], none),
      (.p 22 (.ext 1) [.t 17], none),
      (.mv 7 21, none),
      (.p 8 .id [.t 22], none)]))
   (.seq (.seq (.kill [0, 7, 8] [1000, 1001, 1002] (.region [
        (.p 23 .id [.t 8], none),
        (.p 24 (.bin .neq) [.t 23, .c (.pv (.int .i64 0))], none)]))
     (.cond (.t 24)
      (.seq (.kill [0, 8] [1000, 1001, 1002] (.region [
          (.p 25 .id [.t 8], none),
          (.p 4 .id [.c (.os 5 1 [])], none),
          (.p 5 .id [.t 25], none)]))
       .ret)
      .skip))
    (.seq (.kill [0, 7] [1000, 1001, 1002] (.region [
        (.p 26 .id [.t 7], none),
        (.call 27 28 [.t 26] [] [27] [], none),
        (.p 9 .id [.t 27], none)]))
     (.seq (.kill [0, 7, 9] [27, 1000, 1001, 1002] (.region [
         (.p 29 .id [.t 9], none),
         (.call 30 29 [.t 29, .c (.pv (.int .i64 65536))] [27] [] [], none),
         (.p 28 .id [.t 30], none),
         (.p 31 (.ext 0) [.t 28], none),
         (.p 32 (.ext 1) [.t 28], none),
         (.mv 10 31, none),
         (.p 8 .id [.t 32], none)]))
      (.seq (.block 0 (.seq (.block 3 (.block 2 (.block 1 (.seq (.seq (.seq (.kill [0, 7, 8, 9, 10] [27, 1000, 1001, 1002] (.region [
                  (.p 34 .id [.t 8], none),
                  (.p 35 (.bin .neq) [.t 34, .c (.pv (.int .i64 0))], none),
                  (.p 33 .id [.t 35], none)]))
               (.cond (.t 33)
                (.exit 1)
                .skip))
              (.seq (.seq (.kill [0, 7, 9, 10] [27, 1000, 1001, 1002] (.region [
                   (.p 37 .id [.t 9], none),
                   (.call 38 30 [.t 37] [27] [] [], none),
                   (.p 39 (.bin .neq) [.t 38, .c (.pv (.int .i64 8))], none),
                   (.p 36 .id [.t 39], none)]))
                (.cond (.t 36)
                 (.exit 2)
                 .skip))
               (.seq (.kill [0, 7, 10] [1000, 1001, 1002] (.region [
                   (.p 41 .id [.t 10], none),
                   (.call 42 32 [.t 41] [] [] [], none),
                   (.mv 43 7, none),
                   (.call 44 31 [.t 42, .t 43] [] [] [], none),
                   (.p 45 (.un .not) [.t 44], none),
                   (.p 40 .id [.t 45], none)]))
                (.cond (.t 40)
                 (.exit 3)
                 .skip))))
             (.exit 0)))))
         (.seq (.seq (.kill [0] [1000, 1001, 1002] (.region [
              (.p 4 .id [.c (.os 5 1 [])], none),
              (.p 5 .id [.c (.pv (.int .i64 2))], none)]))
           .ret)
          (.exit 0))))
       (.seq (.kill [0, 10] [1000, 1001, 1002] (.region [
           (.mv 46 10, none),
           (.mv 4 46, none),
           (.p 5 .id [.c (.pv (.int .i64 0))], none)]))
        .ret))))))))
theorem okSnapsLoad : okFn Try.prog Try.f11 irSnapsLoad [.t 4, .t 5] [] 2 = true := by kernel_rfl

-- slices.Equal[[]byte,byte]
-- slices.Equal[[]byte,byte]: args [22, 22]; lent []; rs [.t 4]; loops: L1 keeps [0, 1, 12, 13] []
def irSlicesEqualbytebyte_L1 : IR := (.seq (.kill [0, 1, 12, 13] [] (.region [
     (.p 14 (.bin .lss) [.t 13, .t 12], none)]))
  (.seq (.cond (.t 14)
    .skip
    (.exit 0))
   (.seq (.block 1 (.seq (.kill [0, 1, 12, 13] [] (.region [
         (.p 15 .id [.t 13], none),
         (.p 5 .id [.t 15], none)]))
      (.seq (.kill [0, 1, 5, 12, 13] [] (.region [
          (.p 16 .id [.t 0], none),
          (.p 17 .id [.t 5], none),
          (.p 18 (.indexAddr none 1) [.t 16, .t 17], none),
          (.load 19 none (some 9999) (.t 18), none),
          (.p 20 .id [.t 1], none),
          (.p 21 .id [.t 5], none),
          (.p 22 (.indexAddr none 1) [.t 20, .t 21], none),
          (.load 23 none (some 9999) (.t 22), none),
          (.p 24 (.bin .neq) [.t 19, .t 23], none)]))
       (.cond (.t 24)
        (.seq (.kill [] [] (.region [
            (.p 4 .id [.c (.pv (.bool false))], none)]))
         .ret)
        .skip))))
    (.kill [0, 1, 12, 13] [] (.region [
       (.p 25 (.bin .add) [.t 13, .c (.pv (.int .i64 1))], none),
       (.p 13 .id [.t 25], none)])))))
def irSlicesEqualbytebyte : IR := (.seq (.region [
    (.p 4 .id [.c (.pv (.bool false))], none)])
 (.seq (.seq (.kill [0, 1] [] (.region [
      (.p 6 .id [.t 0], none),
      (.p 7 (.len none) [.t 6], none),
      (.p 8 .id [.t 1], none),
      (.p 9 (.len none) [.t 8], none),
      (.p 10 (.bin .neq) [.t 7, .t 9], none)]))
   (.cond (.t 10)
    (.seq (.kill [] [] (.region [
        (.p 4 .id [.c (.pv (.bool false))], none)]))
     .ret)
    .skip))
  (.seq (.seq (.kill [0, 1] [] (.region [
       (.p 11 .id [.t 0], none),
       (.p 12 (.len none) [.t 11], none),
       (.p 13 .id [.c (.pv (.int .i64 0))], none)]))
    (.block 0 (.loop (.kill [0, 1, 12, 13] [] irSlicesEqualbytebyte_L1))))
   (.seq (.kill [] [] (.region [
       (.p 4 .id [.c (.pv (.bool true))], none)]))
    .ret))))
theorem okSlicesEqualbytebyte : okFn Try.prog Try.f31 irSlicesEqualbytebyte [.t 4] [] 2 = true := by kernel_rfl

end Go.Proofs.Ytlbfpnckoblppaa
