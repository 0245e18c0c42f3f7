/- The abstract code of functions, printed by gen_ir.py out of the program's form in Lean; each is checked against it. -/
import Derived.Test.YtlbfpnckoblppaaProg
import Derived.Test.YtlbfpnckoblppaaAbs2
set_option linter.unusedVariables false
set_option linter.unusedSimpArgs false
set_option maxRecDepth 100000
namespace Go.Proofs.Ytlbfpnckoblppaa
open Go.Abs
-- sha.Sum
-- sha.Sum: args [22]; lent []; rs [.cell 2 (some (32, true))]; loops: L1 keeps [0, 2, 3, 4, 5] [2, 3, 7]; L2 keeps [0, 2, 3, 4] [2, 3, 7]
def irShaSum_L1 : IR := (.seq (.seq (.kill [0, 2, 3, 4, 5] [2, 3, 7] (.region [
      (.p 10 .id [.t 0], none),
      (.p 11 (.len none) [.t 10], none),
      (.p 12 (.bin .geq) [.t 11, .c (.pv (.int .i64 64))], none)]))
   (.cond (.t 12)
    .skip
    (.exit 0)))
  (.block 1 (.seq (.kill [0, 2, 3, 4, 5] [2, 3, 7] (.region [
       (.load 13 (some (8, true)) (some 3) (.t 3), none),
       (.p 14 .id [.t 0], none),
       (.p 15 (.slice none 1 false true) [.t 14, .c (.pv (.int .i64 64))], none),
       (.p 16 .id [.t 4], none),
       (.call 17 60 [.t 13, .t 15, .t 16] [7] [] [], none),
       (.store (some (8, true)) (some 3) (.t 3) (.t 17), none)]))
    (.kill [0, 2, 3, 4, 5] [2, 3, 7] (.region [
       (.mv 18 0, none),
       (.p 19 (.slice none 1 true false) [.t 18, .c (.pv (.int .i64 64))], none),
       (.mv 0 19, none)])))))
def irShaSum_L2 : IR := (.seq (.seq (.kill [0, 2, 3, 4] [2, 3, 7] (.region [
      (.p 23 .id [.t 0], none),
      (.p 24 (.len none) [.t 23], none),
      (.p 25 (.bin .gtr) [.t 24, .c (.pv (.int .i64 0))], none)]))
   (.cond (.t 25)
    .skip
    (.exit 2)))
  (.seq (.block 3 (.kill [0, 2, 3, 4] [2, 3, 7] (.region [
       (.load 28 (some (8, true)) (some 3) (.t 3), none),
       (.p 29 .id [.t 0], none),
       (.p 30 (.slice none 1 false true) [.t 29, .c (.pv (.int .i64 64))], none),
       (.p 31 .id [.t 4], none),
       (.call 32 60 [.t 28, .t 30, .t 31] [7] [] [], none),
       (.store (some (8, true)) (some 3) (.t 3) (.t 32), none)])))
   (.kill [0, 2, 3, 4] [2, 3, 7] (.region [
      (.mv 26 0, none),
      (.p 27 (.slice none 1 true false) [.t 26, .c (.pv (.int .i64 64))], none),
      (.mv 0 27, none)]))))
def irShaSum : IR := (.seq (.region [
    (.alloc 2 (.pagg (List.replicate 32 (.int .u8 0))), none)])
 (.seq (.kill [0, 2] [2] (.region [
     (.call 6 58 [] [] [] [], none),
     (.call 7 59 [] [] [7] [], none),
     (.alloc 3 (.pagg (List.replicate 8 (.int .u32 0))), none),
     (.store (some (8, true)) (some 3) (.t 3) (.t 6), none),
     (.p 4 .id [.t 7], none)]))
  (.seq (.kill [0, 2, 3, 4] [2, 3, 7] (.region [
      (.p 8 .id [.t 0], none),
      (.p 9 (.len none) [.t 8], none),
      (.p 5 .id [.t 9], none)]))
   (.seq (.block 0 (.loop (.kill [0, 2, 3, 4, 5] [2, 3, 7] irShaSum_L1)))
    (.seq (.seq (.kill [0, 2, 3, 4, 5] [2, 3, 7] (.region [
         (.mv 20 0, none),
         (.p 21 .id [.t 5], none),
         (.call 22 61 [.t 20, .t 21] [] [] [], none),
         (.mv 0 22, none)]))
      (.block 2 (.loop (.kill [0, 2, 3, 4] [2, 3, 7] irShaSum_L2))))
     (.seq (.kill [2, 3] [2, 3] (.region [
         (.load 33 (some (8, true)) (some 3) (.t 3), none),
         (.call 34 62 [.t 33] [] [] [], none),
         (.store (some (32, true)) (some 2) (.t 2) (.t 34), none)]))
      .ret))))))
theorem okShaSum : okFn Try.prog Try.f47 irShaSum [.cell 2 (some (32, true))] [] 1 = true := by kernel_rfl

-- consistoryref02.Sum
-- consistoryref02.Sum: args [22]; lent []; rs [.cell 2 (some (32, true))]; loops: L1 keeps [0, 2, 3] [2]; L2 keeps [2, 3, 4, 5] [2]; L3 keeps [2, 4, 6, 7] [2, 6]
def irRef02Sum_L1 : IR := (.seq (.seq (.kill [0, 2, 3] [2] (.region [
      (.p 14 .id [.t 3], none),
      (.p 15 (.len none) [.t 14], none),
      (.p 16 (.bin .rem) [.t 15, .c (.pv (.int .i64 64))], none),
      (.p 17 (.bin .neq) [.t 16, .c (.pv (.int .i64 56))], none)]))
   (.cond (.t 17)
    .skip
    (.exit 0)))
  (.block 1 (.kill [0, 2, 3] [2] (.region [
      (.mv 18 3, none),
      (.bslice 19 5 1 1 [.int .u8 0] [(0, .c (.pv (.int .u8 0)))], none),
      (.app 20 5 1 18 none (.t 19), none),
      (.mv 3 20, none)]))))
def irRef02Sum_L2 : IR := (.seq (.seq (.kill [2, 3, 4, 5] [2] (.region [
      (.p 31 .id [.t 5], none),
      (.p 32 .id [.t 3], none),
      (.p 33 (.len none) [.t 32], none),
      (.p 34 (.bin .lss) [.t 31, .t 33], none)]))
   (.cond (.t 34)
    .skip
    (.exit 2)))
  (.seq (.block 3 (.kill [2, 3, 4, 5] [2] (.region [
       (.mv 37 4, none),
       (.p 38 .id [.t 3], none),
       (.p 39 .id [.t 5], none),
       (.p 40 .id [.t 5], none),
       (.p 41 (.bin .add) [.t 40, .c (.pv (.int .i64 64))], none),
       (.p 42 (.slice none 1 true true) [.t 38, .t 39, .t 41], none),
       (.call 43 51 [.t 37, .t 42] [] [] [], none),
       (.mv 4 43, none)])))
   (.kill [2, 3, 4, 5] [2] (.region [
      (.p 35 .id [.t 5], none),
      (.p 36 (.bin .add) [.t 35, .c (.pv (.int .i64 64))], none),
      (.p 5 .id [.t 36], none)]))))
def irRef02Sum_L3 : IR := (.seq (.seq (.kill [2, 4, 6, 7] [2, 6] (.region [
      (.p 45 .id [.t 7], none),
      (.p 46 (.bin .lss) [.t 45, .c (.pv (.int .i64 32))], none)]))
   (.cond (.t 46)
    .skip
    (.exit 4)))
  (.seq (.block 5 (.kill [2, 4, 6, 7] [2, 6] (.region [
       (.p 49 .id [.t 7], none),
       (.p 50 .id [.t 4], none),
       (.p 51 .id [.t 7], none),
       (.p 52 (.bin .quo) [.t 51, .c (.pv (.int .i64 4))], none),
       (.p 53 (.indexAddr none 1) [.t 50, .t 52], none),
       (.load 54 none (some 9999) (.t 53), none),
       (.p 55 (.conv .u64) [.t 54], none),
       (.call 56 50 [.t 55, .c (.pv (.int .i64 4))] [] [] [], none),
       (.p 57 .id [.t 7], none),
       (.p 58 (.bin .rem) [.t 57, .c (.pv (.int .i64 4))], none),
       (.p 59 (.indexAddr none 1) [.t 56, .t 58], none),
       (.load 60 none (some 9999) (.t 59), none),
       (.p 61 (.indexAddr (some 32) 1) [.t 6, .t 49], none),
       (.store none (some 6) (.t 61) (.t 60), none)])))
   (.kill [2, 4, 6, 7] [2, 6] (.region [
      (.p 47 .id [.t 7], none),
      (.p 48 (.bin .add) [.t 47, .c (.pv (.int .i64 1))], none),
      (.p 7 .id [.t 48], none)]))))
def irRef02Sum : IR := (.seq (.region [
    (.alloc 2 (.pagg (List.replicate 32 (.int .u8 0))), none)])
 (.seq (.kill [0, 2] [2] (.region [
     (.p 3 .id [.c (.os 5 1 [])], none)]))
  (.seq (.kill [0, 2, 3] [2] (.region [
      (.mv 8 3, none),
      (.p 9 .id [.t 0], none),
      (.app 10 5 1 8 none (.t 9), none),
      (.mv 3 10, none)]))
   (.seq (.kill [0, 2, 3] [2] (.region [
       (.mv 11 3, none),
       (.bslice 12 5 1 1 [.int .u8 0] [(0, .c (.pv (.int .u8 128)))], none),
       (.app 13 5 1 11 none (.t 12), none),
       (.mv 3 13, none)]))
    (.seq (.block 0 (.loop (.kill [0, 2, 3] [2] irRef02Sum_L1)))
     (.seq (.kill [0, 2, 3] [2] (.region [
         (.mv 21 3, none),
         (.mv 22 0, none),
         (.p 23 (.len none) [.t 22], none),
         (.p 24 (.conv .u64) [.t 23], none),
         (.p 25 (.bin .mul) [.c (.pv (.int .u64 8)), .t 24], none),
         (.call 26 50 [.t 25, .c (.pv (.int .i64 8))] [] [] [], none),
         (.app 27 5 1 21 none (.t 26), none),
         (.mv 3 27, none)]))
      (.seq (.kill [2, 3] [2] (.region [
          (.p 4 .id [.c (.os 86 1 [])], none)]))
       (.seq (.kill [2, 3, 4] [2] (.region [
           (.mv 28 4, none),
           (.bslice 29 86 1 8 [.int .u32 0] [(0, .c (.pv (.int .u32 1779033703))), (1, .c (.pv (.int .u32 3144134277))), (2, .c (.pv (.int .u32 1013904242))), (3, .c (.pv (.int .u32 2773480762))), (4, .c (.pv (.int .u32 1359893119))), (5, .c (.pv (.int .u32 2600822924))), (6, .c (.pv (.int .u32 528734635))), (7, .c (.pv (.int .u32 1541459225)))], none),
           (.app 30 86 1 28 none (.t 29), none),
           (.mv 4 30, none)]))
        (.seq (.seq (.kill [2, 3, 4] [2] (.region [
             (.p 5 .id [.c (.pv (.int .i64 0))], none)]))
          (.block 2 (.loop (.kill [2, 3, 4, 5] [2] irRef02Sum_L2))))
         (.seq (.kill [2, 4] [2] (.region [
             (.build 44 (.pagg (List.replicate 32 (.int .u8 0))) [], none),
             (.alloc 6 (.pagg (List.replicate 32 (.int .u8 0))), none),
             (.store (some (32, true)) (some 6) (.t 6) (.t 44), none)]))
          (.seq (.seq (.kill [2, 4, 6] [2, 6] (.region [
               (.p 7 .id [.c (.pv (.int .i64 0))], none)]))
            (.block 4 (.loop (.kill [2, 4, 6, 7] [2, 6] irRef02Sum_L3))))
           (.seq (.kill [2, 6] [2, 6] (.region [
               (.load 62 (some (32, true)) (some 6) (.t 6), none),
               (.store (some (32, true)) (some 2) (.t 2) (.t 62), none)]))
            .ret))))))))))))
theorem okRef02Sum : okFn Try.prog Try.f36 irRef02Sum [.cell 2 (some (32, true))] [] 1 = true := by kernel_rfl

-- consistoryref01.Same
-- consistoryref01.Same: args [22, 22]; lent []; rs [.t 4]; loops: L1 keeps [0, 1, 5] []
def irRef01Same_L1 : IR := (.seq (.seq (.kill [0, 1, 5] [] (.region [
      (.p 11 .id [.t 5], none),
      (.p 12 .id [.t 0], none),
      (.p 13 (.len none) [.t 12], none),
      (.p 14 (.bin .lss) [.t 11, .t 13], none)]))
   (.cond (.t 14)
    .skip
    (.exit 0)))
  (.seq (.block 1 (.seq (.kill [0, 1, 5] [] (.region [
        (.p 17 .id [.t 0], none),
        (.p 18 .id [.t 5], none),
        (.p 19 (.indexAddr none 1) [.t 17, .t 18], none),
        (.load 20 none (some 9999) (.t 19), none),
        (.p 21 .id [.t 1], none),
        (.p 22 .id [.t 5], none),
        (.p 23 (.indexAddr none 1) [.t 21, .t 22], none),
        (.load 24 none (some 9999) (.t 23), none),
        (.p 25 (.bin .neq) [.t 20, .t 24], none)]))
     (.cond (.t 25)
      (.seq (.kill [] [] (.region [
          (.p 4 .id [.c (.pv (.bool false))], none)]))
       .ret)
      .skip)))
   (.kill [0, 1, 5] [] (.region [
      (.p 15 .id [.t 5], none),
      (.p 16 (.bin .add) [.t 15, .c (.pv (.int .i64 1))], none),
      (.p 5 .id [.t 16], none)]))))
def irRef01Same : IR := (.seq (.region [
    (.p 4 .id [.c (.pv (.bool false))], none)])
 (.seq (.seq (.kill [0, 1] [] (.region [
      (.p 6 .id [.t 0], none),
      (.p 7 (.len none) [.t 6], none),
      (.p 8 .id [.t 1], none),
      (.p 9 (.len none) [.t 8], none),
      (.p 10 (.bin .neq) [.t 7, .t 9], none)]))
   (.cond (.t 10)
    (.seq (.kill [] [] (.region [
        (.p 4 .id [.c (.pv (.bool false))], none)]))
     .ret)
    .skip))
  (.seq (.seq (.kill [0, 1] [] (.region [
       (.p 5 .id [.c (.pv (.int .i64 0))], none)]))
    (.block 0 (.loop (.kill [0, 1, 5] [] irRef01Same_L1))))
   (.seq (.kill [] [] (.region [
       (.p 4 .id [.c (.pv (.bool true))], none)]))
    .ret))))
theorem okRef01Same : okFn Try.prog Try.f14 irRef01Same [.t 4] [] 2 = true := by kernel_rfl

-- sha.start
-- sha.start: args []; lent []; rs [.cell 0 (some (8, true))]; loops: 
def irShaStart : IR := (.seq (.region [
    (.alloc 0 (.pagg (List.replicate 8 (.int .u32 0))), none)])
 (.seq (.kill [0] [0] (.region [
     (.build 1 (.pagg (List.replicate 8 (.int .u32 0))) [(0, 1, .c (.pv (.int .u32 1779033703))), (1, 1, .c (.pv (.int .u32 3144134277))), (2, 1, .c (.pv (.int .u32 1013904242))), (3, 1, .c (.pv (.int .u32 2773480762))), (4, 1, .c (.pv (.int .u32 1359893119))), (5, 1, .c (.pv (.int .u32 2600822924))), (6, 1, .c (.pv (.int .u32 528734635))), (7, 1, .c (.pv (.int .u32 1541459225)))], none),
     (.store (some (8, true)) (some 0) (.t 0) (.t 1), none)]))
  .ret))
theorem okShaStart : okFn Try.prog Try.f58 irShaStart [.cell 0 (some (8, true))] [] 0 = true := by kernel_rfl

-- sha.rounds
-- sha.rounds: args []; lent []; rs [.t 0]; loops: 
def irShaRounds : IR := (.seq (.region [
    (.p 0 .id [.c (.pv .nilp)], none)])
 (.seq (.kill [] [] (.region [
     (.build 2 (.pagg (List.replicate 64 (.int .u32 0))) [(0, 1, .c (.pv (.int .u32 1116352408))), (1, 1, .c (.pv (.int .u32 1899447441))), (2, 1, .c (.pv (.int .u32 3049323471))), (3, 1, .c (.pv (.int .u32 3921009573))), (4, 1, .c (.pv (.int .u32 961987163))), (5, 1, .c (.pv (.int .u32 1508970993))), (6, 1, .c (.pv (.int .u32 2453635748))), (7, 1, .c (.pv (.int .u32 2870763221))), (8, 1, .c (.pv (.int .u32 3624381080))), (9, 1, .c (.pv (.int .u32 310598401))), (10, 1, .c (.pv (.int .u32 607225278))), (11, 1, .c (.pv (.int .u32 1426881987))), (12, 1, .c (.pv (.int .u32 1925078388))), (13, 1, .c (.pv (.int .u32 2162078206))), (14, 1, .c (.pv (.int .u32 2614888103))), (15, 1, .c (.pv (.int .u32 3248222580))), (16, 1, .c (.pv (.int .u32 3835390401))), (17, 1, .c (.pv (.int .u32 4022224774))), (18, 1, .c (.pv (.int .u32 264347078))), (19, 1, .c (.pv (.int .u32 604807628))), (20, 1, .c (.pv (.int .u32 770255983))), (21, 1, .c (.pv (.int .u32 1249150122))), (22, 1, .c (.pv (.int .u32 1555081692))), (23, 1, .c (.pv (.int .u32 1996064986))), (24, 1, .c (.pv (.int .u32 2554220882))), (25, 1, .c (.pv (.int .u32 2821834349))), (26, 1, .c (.pv (.int .u32 2952996808))), (27, 1, .c (.pv (.int .u32 3210313671))), (28, 1, .c (.pv (.int .u32 3336571891))), (29, 1, .c (.pv (.int .u32 3584528711))), (30, 1, .c (.pv (.int .u32 113926993))), (31, 1, .c (.pv (.int .u32 338241895))), (32, 1, .c (.pv (.int .u32 666307205))), (33, 1, .c (.pv (.int .u32 773529912))), (34, 1, .c (.pv (.int .u32 1294757372))), (35, 1, .c (.pv (.int .u32 1396182291))), (36, 1, .c (.pv (.int .u32 1695183700))), (37, 1, .c (.pv (.int .u32 1986661051))), (38, 1, .c (.pv (.int .u32 2177026350))), (39, 1, .c (.pv (.int .u32 2456956037))), (40, 1, .c (.pv (.int .u32 2730485921))), (41, 1, .c (.pv (.int .u32 2820302411))), (42, 1, .c (.pv (.int .u32 3259730800))), (43, 1, .c (.pv (.int .u32 3345764771))), (44, 1, .c (.pv (.int .u32 3516065817))), (45, 1, .c (.pv (.int .u32 3600352804))), (46, 1, .c (.pv (.int .u32 4094571909))), (47, 1, .c (.pv (.int .u32 275423344))), (48, 1, .c (.pv (.int .u32 430227734))), (49, 1, .c (.pv (.int .u32 506948616))), (50, 1, .c (.pv (.int .u32 659060556))), (51, 1, .c (.pv (.int .u32 883997877))), (52, 1, .c (.pv (.int .u32 958139571))), (53, 1, .c (.pv (.int .u32 1322822218))), (54, 1, .c (.pv (.int .u32 1537002063))), (55, 1, .c (.pv (.int .u32 1747873779))), (56, 1, .c (.pv (.int .u32 1955562222))), (57, 1, .c (.pv (.int .u32 2024104815))), (58, 1, .c (.pv (.int .u32 2227730452))), (59, 1, .c (.pv (.int .u32 2361852424))), (60, 1, .c (.pv (.int .u32 2428436474))), (61, 1, .c (.pv (.int .u32 2756734187))), (62, 1, .c (.pv (.int .u32 3204031479))), (63, 1, .c (.pv (.int .u32 3329325298)))], none),
     (.alloc 1 (.pagg (List.replicate 64 (.int .u32 0))), none),
     (.store (some (64, true)) (some 1) (.t 1) (.t 2), none)]))
  (.seq (.kill [1] [1] (.region [
      (.p 0 .id [.t 1], none)]))
   .ret)))
theorem okShaRounds : okFn Try.prog Try.f59 irShaRounds [.t 0] [1] 0 = true := by kernel_rfl

-- sha.state.block
-- sha.state.block: args [96, 22, 98]; lent [2]; rs [.cell 6 (some (8, true))]; loops: L1 keeps [2, 3, 6, 7, 8, 18] [3, 6, 7, 8, 1000]; L2 keeps [2, 3, 6, 8, 102] [3, 6, 8, 1000]
def irShaStateBlock_L1 : IR := (.seq (.kill [2, 3, 6, 7, 8, 18] [3, 6, 7, 8, 1000] (.region [
     (.p 19 (.bin .lss) [.t 18, .c (.pv (.int .i64 64))], none)]))
  (.seq (.cond (.t 19)
    .skip
    (.exit 0))
   (.seq (.block 1 (.seq (.kill [2, 3, 6, 7, 8, 18] [3, 6, 7, 8, 1000] (.region [
         (.p 20 .id [.t 18], none),
         (.p 9 .id [.t 20], none)]))
      (.seq (.kill [2, 3, 6, 7, 8, 9, 18] [3, 6, 7, 8, 1000] (.region [
          (.p 21 (.indexAddr (some 8) 1) [.t 8, .c (.pv (.int .i64 4))], none),
          (.load 22 none (some 8) (.t 21), none),
          (.p 23 (.indexAddr (some 8) 1) [.t 8, .c (.pv (.int .i64 0))], none),
          (.load 24 none (some 8) (.t 23), none),
          (.p 10 .id [.t 22], none),
          (.p 11 .id [.t 24], none)]))
       (.seq (.kill [2, 3, 6, 7, 8, 9, 10, 11, 18] [3, 6, 7, 8, 1000] (.region [
           (.p 25 (.indexAddr (some 8) 1) [.t 8, .c (.pv (.int .i64 7))], none),
           (.load 26 none (some 8) (.t 25), none),
           (.p 27 .id [.t 10], none),
           (.call 28 71 [.t 27, .c (.pv (.int .i64 6))] [] [] [], none),
           (.p 29 .id [.t 10], none),
           (.call 30 71 [.t 29, .c (.pv (.int .i64 11))] [] [] [], none),
           (.p 31 (.bin .xor) [.t 28, .t 30], none),
           (.p 32 .id [.t 10], none),
           (.call 33 71 [.t 32, .c (.pv (.int .i64 25))] [] [] [], none),
           (.p 34 (.bin .xor) [.t 31, .t 33], none),
           (.p 35 (.bin .add) [.t 26, .t 34], none),
           (.p 36 .id [.t 10], none),
           (.p 37 (.indexAddr (some 8) 1) [.t 8, .c (.pv (.int .i64 5))], none),
           (.load 38 none (some 8) (.t 37), none),
           (.p 39 (.bin .and) [.t 36, .t 38], none),
           (.p 40 .id [.t 10], none),
           (.p 41 (.un .xor) [.t 40], none),
           (.p 42 (.indexAddr (some 8) 1) [.t 8, .c (.pv (.int .i64 6))], none),
           (.load 43 none (some 8) (.t 42), none),
           (.p 44 (.bin .and) [.t 41, .t 43], none),
           (.p 45 (.bin .xor) [.t 39, .t 44], none),
           (.p 46 (.bin .add) [.t 35, .t 45], none),
           (.p 47 .id [.t 2], none),
           (.p 48 .id [.t 9], none),
           (.p 49 .nilc [.t 47], none),
           (.p 50 (.indexAddr (some 64) 1) [.t 49, .t 48], none),
           (.load 51 none (some 1000) (.t 50), none),
           (.p 52 (.bin .add) [.t 46, .t 51], none),
           (.p 53 .id [.t 9], none),
           (.p 54 (.indexAddr (some 64) 1) [.t 7, .t 53], none),
           (.load 55 none (some 7) (.t 54), none),
           (.p 56 (.bin .add) [.t 52, .t 55], none),
           (.p 12 .id [.t 56], none)]))
        (.seq (.kill [2, 3, 6, 7, 8, 11, 12, 18] [3, 6, 7, 8, 1000] (.region [
            (.p 57 .id [.t 11], none),
            (.call 58 71 [.t 57, .c (.pv (.int .i64 2))] [] [] [], none),
            (.p 59 .id [.t 11], none),
            (.call 60 71 [.t 59, .c (.pv (.int .i64 13))] [] [] [], none),
            (.p 61 (.bin .xor) [.t 58, .t 60], none),
            (.p 62 .id [.t 11], none),
            (.call 63 71 [.t 62, .c (.pv (.int .i64 22))] [] [] [], none),
            (.p 64 (.bin .xor) [.t 61, .t 63], none),
            (.p 65 .id [.t 11], none),
            (.p 66 (.indexAddr (some 8) 1) [.t 8, .c (.pv (.int .i64 1))], none),
            (.load 67 none (some 8) (.t 66), none),
            (.p 68 (.bin .and) [.t 65, .t 67], none),
            (.p 69 .id [.t 11], none),
            (.p 70 (.indexAddr (some 8) 1) [.t 8, .c (.pv (.int .i64 2))], none),
            (.load 71 none (some 8) (.t 70), none),
            (.p 72 (.bin .and) [.t 69, .t 71], none),
            (.p 73 (.bin .xor) [.t 68, .t 72], none),
            (.p 74 (.indexAddr (some 8) 1) [.t 8, .c (.pv (.int .i64 1))], none),
            (.load 75 none (some 8) (.t 74), none),
            (.p 76 (.indexAddr (some 8) 1) [.t 8, .c (.pv (.int .i64 2))], none),
            (.load 77 none (some 8) (.t 76), none),
            (.p 78 (.bin .and) [.t 75, .t 77], none),
            (.p 79 (.bin .xor) [.t 73, .t 78], none),
            (.p 80 (.bin .add) [.t 64, .t 79], none),
            (.p 13 .id [.t 80], none)]))
         (.kill [2, 3, 6, 7, 8, 12, 13, 18] [3, 6, 7, 8, 1000] (.region [
            (.p 81 .id [.t 12], none),
            (.p 82 .id [.t 13], none),
            (.p 83 (.bin .add) [.t 81, .t 82], none),
            (.p 84 (.indexAddr (some 8) 1) [.t 8, .c (.pv (.int .i64 0))], none),
            (.load 85 none (some 8) (.t 84), none),
            (.p 86 (.indexAddr (some 8) 1) [.t 8, .c (.pv (.int .i64 1))], none),
            (.load 87 none (some 8) (.t 86), none),
            (.p 88 (.indexAddr (some 8) 1) [.t 8, .c (.pv (.int .i64 2))], none),
            (.load 89 none (some 8) (.t 88), none),
            (.p 90 (.indexAddr (some 8) 1) [.t 8, .c (.pv (.int .i64 3))], none),
            (.load 91 none (some 8) (.t 90), none),
            (.p 92 .id [.t 12], none),
            (.p 93 (.bin .add) [.t 91, .t 92], none),
            (.p 94 (.indexAddr (some 8) 1) [.t 8, .c (.pv (.int .i64 4))], none),
            (.load 95 none (some 8) (.t 94), none),
            (.p 96 (.indexAddr (some 8) 1) [.t 8, .c (.pv (.int .i64 5))], none),
            (.load 97 none (some 8) (.t 96), none),
            (.p 98 (.indexAddr (some 8) 1) [.t 8, .c (.pv (.int .i64 6))], none),
            (.load 99 none (some 8) (.t 98), none),
            (.build 100 (.pagg (List.replicate 8 (.int .u32 0))) [(0, 1, .t 83), (1, 1, .t 85), (2, 1, .t 87), (3, 1, .t 89), (4, 1, .t 93), (5, 1, .t 95), (6, 1, .t 97), (7, 1, .t 99)], none),
            (.store (some (8, true)) (some 8) (.t 8) (.t 100), none)])))))))
    (.kill [2, 3, 6, 7, 8, 18] [3, 6, 7, 8, 1000] (.region [
       (.p 101 (.bin .add) [.t 18, .c (.pv (.int .i64 1))], none),
       (.p 18 .id [.t 101], none)])))))
def irShaStateBlock_L2 : IR := (.seq (.kill [2, 3, 6, 8, 102] [3, 6, 8, 1000] (.region [
     (.p 103 (.bin .lss) [.t 102, .c (.pv (.int .i64 8))], none)]))
  (.seq (.cond (.t 103)
    .skip
    (.exit 2))
   (.seq (.block 3 (.seq (.kill [2, 3, 6, 8, 102] [3, 6, 8, 1000] (.region [
         (.p 104 .id [.t 102], none),
         (.p 14 .id [.t 104], none)]))
      (.kill [2, 3, 6, 8, 14, 102] [3, 6, 8, 1000] (.region [
         (.p 105 .id [.t 14], none),
         (.p 106 (.indexAddr (some 8) 1) [.t 3, .t 105], none),
         (.load 107 none (some 3) (.t 106), none),
         (.p 108 .id [.t 14], none),
         (.p 109 (.indexAddr (some 8) 1) [.t 8, .t 108], none),
         (.load 110 none (some 8) (.t 109), none),
         (.p 111 (.bin .add) [.t 107, .t 110], none),
         (.p 112 (.indexAddr (some 8) 1) [.t 3, .t 105], none),
         (.store none (some 3) (.t 112) (.t 111), none)]))))
    (.kill [2, 3, 6, 8, 102] [3, 6, 8, 1000] (.region [
       (.p 113 (.bin .add) [.t 102, .c (.pv (.int .i64 1))], none),
       (.p 102 .id [.t 113], none)])))))
def irShaStateBlock : IR := (.seq (.region [
    (.box 3 (.t 0), none),
    (.alloc 6 (.pagg (List.replicate 8 (.int .u32 0))), none)])
 (.seq (.kill [1, 2, 3, 6] [3, 6, 1000] (.region [
     (.mv 15 1, none),
     (.call 16 70 [.t 15] [] [] [], none),
     (.alloc 7 (.pagg (List.replicate 64 (.int .u32 0))), none),
     (.store (some (64, true)) (some 7) (.t 7) (.t 16), none)]))
  (.seq (.kill [2, 3, 6, 7] [3, 6, 7, 1000] (.region [
      (.load 17 (some (8, true)) (some 3) (.t 3), none),
      (.alloc 8 (.pagg (List.replicate 8 (.int .u32 0))), none),
      (.store (some (8, true)) (some 8) (.t 8) (.t 17), none)]))
   (.seq (.seq (.kill [2, 3, 6, 7, 8] [3, 6, 7, 8, 1000] (.region [
        (.p 18 .id [.c (.pv (.int .i64 0))], none)]))
     (.block 0 (.loop (.kill [2, 3, 6, 7, 8, 18] [3, 6, 7, 8, 1000] irShaStateBlock_L1))))
    (.seq (.seq (.kill [2, 3, 6, 8] [3, 6, 8, 1000] (.region [
         (.p 102 .id [.c (.pv (.int .i64 0))], none)]))
      (.block 2 (.loop (.kill [2, 3, 6, 8, 102] [3, 6, 8, 1000] irShaStateBlock_L2))))
     (.seq (.kill [2, 3, 6] [3, 6, 1000] (.region [
         (.load 114 (some (8, true)) (some 3) (.t 3), none),
         (.store (some (8, true)) (some 6) (.t 6) (.t 114), none)]))
      .ret))))))
theorem okShaStateBlock : okFn Try.prog Try.f60 irShaStateBlock [.cell 6 (some (8, true))] [] 3 = true := by kernel_rfl

-- sha.padded
-- sha.padded: args [22, 3]; lent []; rs [.t 4]; loops: L1 keeps [1, 5] []
def irShaPadded_L1 : IR := (.seq (.seq (.kill [1, 5] [] (.region [
      (.p 11 .id [.t 5], none),
      (.p 12 (.len none) [.t 11], none),
      (.p 13 (.bin .rem) [.t 12, .c (.pv (.int .i64 64))], none),
      (.p 14 (.bin .neq) [.t 13, .c (.pv (.int .i64 56))], none)]))
   (.cond (.t 14)
    .skip
    (.exit 0)))
  (.block 1 (.kill [1, 5] [] (.region [
      (.mv 15 5, none),
      (.bslice 16 5 1 1 [.int .u8 0] [(0, .c (.pv (.int .u8 0)))], none),
      (.app 17 5 1 15 none (.t 16), none),
      (.mv 5 17, none)]))))
def irShaPadded : IR := (.seq (.region [
    (.p 4 .id [.c (.os 5 1 [])], none)])
 (.seq (.kill [0, 1] [] (.region [
     (.bslice 6 5 1 0 [.int .u8 0] [], none),
     (.mv 7 0, none),
     (.app 8 5 1 6 none (.t 7), none),
     (.bslice 9 5 1 1 [.int .u8 0] [(0, .c (.pv (.int .u8 128)))], none),
     (.app 10 5 1 8 none (.t 9), none),
     (.mv 5 10, none)]))
  (.seq (.block 0 (.loop (.kill [1, 5] [] irShaPadded_L1)))
   (.seq (.kill [1, 5] [] (.region [
       (.mv 18 5, none),
       (.p 19 .id [.t 1], none),
       (.p 20 (.conv .u64) [.t 19], none),
       (.p 21 (.bin .mul) [.t 20, .c (.pv (.int .u64 8))], none),
       (.call 22 72 [.t 18, .t 21, .c (.pv (.int .i64 8))] [] [] [], none),
       (.mv 4 22, none)]))
    .ret))))
theorem okShaPadded : okFn Try.prog Try.f61 irShaPadded [.t 4] [] 2 = true := by kernel_rfl

-- sha.state.told
-- sha.state.told: args [96]; lent []; rs [.cell 2 (some (32, true))]; loops: L2 keeps [2, 3, 4, 5, 7, 8, 12] [2, 3]; L1 keeps [2, 3, 7, 8] [2, 3]
def irShaStateTold_L2 : IR := (.seq (.kill [2, 3, 4, 5, 7, 8, 12] [2, 3] (.region [
     (.p 13 (.bin .lss) [.t 12, .c (.pv (.int .i64 4))], none)]))
  (.seq (.cond (.t 13)
    .skip
    (.exit 2))
   (.seq (.block 3 (.seq (.kill [2, 3, 4, 5, 7, 8, 12] [2, 3] (.region [
         (.p 14 .id [.t 12], none),
         (.p 6 .id [.t 14], none)]))
      (.kill [2, 3, 4, 5, 6, 7, 8, 12] [2, 3] (.region [
         (.p 15 .id [.t 4], none),
         (.p 16 (.bin .mul) [.c (.pv (.int .i64 4)), .t 15], none),
         (.p 17 .id [.t 6], none),
         (.p 18 (.bin .add) [.t 16, .t 17], none),
         (.p 19 .id [.t 5], none),
         (.p 20 .id [.t 6], none),
         (.p 21 (.bin .mul) [.c (.pv (.int .i64 8)), .t 20], none),
         (.p 22 (.bin .sub) [.c (.pv (.int .i64 24)), .t 21], none),
         (.p 23 (.bin .shr) [.t 19, .t 22], none),
         (.p 24 (.conv .u8) [.t 23], none),
         (.p 25 (.indexAddr (some 32) 1) [.t 3, .t 18], none),
         (.store none (some 3) (.t 25) (.t 24), none)]))))
    (.kill [2, 3, 4, 5, 7, 8, 12] [2, 3] (.region [
       (.p 26 (.bin .add) [.t 12, .c (.pv (.int .i64 1))], none),
       (.p 12 .id [.t 26], none)])))))
def irShaStateTold_L1 : IR := (.seq (.kill [2, 3, 7, 8] [2, 3] (.region [
     (.p 9 (.bin .lss) [.t 8, .c (.pv (.int .i64 8))], none)]))
  (.seq (.cond (.t 9)
    .skip
    (.exit 0))
   (.seq (.block 1 (.seq (.kill [2, 3, 7, 8] [2, 3] (.region [
         (.p 10 .id [.t 8], none),
         (.p 11 (.index 8 1 none) [.t 7, .t 8], none),
         (.p 4 .id [.t 10], none),
         (.p 5 .id [.t 11], none)]))
      (.seq (.kill [2, 3, 4, 5, 7, 8] [2, 3] (.region [
          (.p 12 .id [.c (.pv (.int .i64 0))], none)]))
       (.block 2 (.loop (.kill [2, 3, 4, 5, 7, 8, 12] [2, 3] irShaStateTold_L2))))))
    (.kill [2, 3, 7, 8] [2, 3] (.region [
       (.p 27 (.bin .add) [.t 8, .c (.pv (.int .i64 1))], none),
       (.p 8 .id [.t 27], none)])))))
def irShaStateTold : IR := (.seq (.region [
    (.box 1 (.t 0), none),
    (.alloc 2 (.pagg (List.replicate 32 (.int .u8 0))), none)])
 (.seq (.kill [1, 2] [1, 2] (.region [
     (.alloc 3 (.pagg (List.replicate 32 (.int .u8 0))), none)]))
  (.seq (.seq (.kill [1, 2, 3] [1, 2, 3] (.region [
       (.load 7 (some (8, true)) (some 1) (.t 1), none),
       (.p 8 .id [.c (.pv (.int .i64 0))], none)]))
    (.block 0 (.loop (.kill [2, 3, 7, 8] [2, 3] irShaStateTold_L1))))
   (.seq (.kill [2, 3] [2, 3] (.region [
       (.load 28 (some (32, true)) (some 3) (.t 3), none),
       (.store (some (32, true)) (some 2) (.t 2) (.t 28), none)]))
    .ret))))
theorem okShaStateTold : okFn Try.prog Try.f62 irShaStateTold [.cell 2 (some (32, true))] [] 1 = true := by kernel_rfl

-- consistoryref01.Fixed
-- consistoryref01.Fixed: args [42, 3]; lent []; rs [.t 4]; loops: L2 keeps [0, 1, 5, 6, 7, 8] []; L1 keeps [0, 1, 5, 6] []
def irRef01Fixed_L2 : IR := (.seq (.seq (.kill [0, 1, 5, 6, 7, 8] [] (.region [
      (.p 20 .id [.t 8], none),
      (.p 21 .id [.t 1], none),
      (.p 22 (.bin .sub) [.t 21, .c (.pv (.int .i64 1))], none),
      (.p 23 (.bin .lss) [.t 20, .t 22], none)]))
   (.cond (.t 23)
    .skip
    (.exit 2)))
  (.seq (.block 3 (.kill [0, 1, 5, 6, 7, 8] [] (.region [
       (.p 26 .id [.t 7], none),
       (.p 27 (.bin .quo) [.t 26, .c (.pv (.int .u64 256))], none),
       (.p 7 .id [.t 27], none)])))
   (.kill [0, 1, 5, 6, 7, 8] [] (.region [
      (.p 24 .id [.t 8], none),
      (.p 25 (.bin .add) [.t 24, .c (.pv (.int .i64 1))], none),
      (.p 8 .id [.t 25], none)]))))
def irRef01Fixed_L1 : IR := (.seq (.seq (.kill [0, 1, 5, 6] [] (.region [
      (.p 13 .id [.t 6], none),
      (.p 14 .id [.t 1], none),
      (.p 15 (.bin .lss) [.t 13, .t 14], none)]))
   (.cond (.t 15)
    .skip
    (.exit 0)))
  (.seq (.block 1 (.seq (.kill [0, 1, 5, 6] [] (.region [
        (.p 18 .id [.t 0], none),
        (.p 7 .id [.t 18], none)]))
     (.seq (.seq (.kill [0, 1, 5, 6, 7] [] (.region [
          (.p 19 .id [.t 6], none),
          (.p 8 .id [.t 19], none)]))
       (.block 2 (.loop (.kill [0, 1, 5, 6, 7, 8] [] irRef01Fixed_L2))))
      (.kill [0, 1, 5, 6, 7] [] (.region [
         (.mv 28 5, none),
         (.p 29 .id [.t 7], none),
         (.p 30 (.bin .rem) [.t 29, .c (.pv (.int .u64 256))], none),
         (.p 31 (.conv .u8) [.t 30], none),
         (.bslice 32 5 1 1 [.int .u8 0] [(0, .t 31)], none),
         (.app 33 5 1 28 none (.t 32), none),
         (.mv 5 33, none)])))))
   (.kill [0, 1, 5, 6] [] (.region [
      (.p 16 .id [.t 6], none),
      (.p 17 (.bin .add) [.t 16, .c (.pv (.int .i64 1))], none),
      (.p 6 .id [.t 17], none)]))))
def irRef01Fixed : IR := (.seq (.region [
    (.p 4 .id [.c (.os 5 1 [])], none)])
 (.seq (.kill [0, 1] [] (.region [
     (.p 5 .id [.c (.os 5 1 [])], none)]))
  (.seq (.seq (.kill [0, 1, 5] [] (.region [
       (.p 9 .id [.t 1], none),
       (.call 10 64 [.t 9] [] [] [], none),
       (.p 11 (.un .not) [.t 10], none)]))
    (.cond (.t 11)
     (.seq (.kill [5] [] (.region [
         (.mv 12 5, none),
         (.mv 4 12, none)]))
      .ret)
     .skip))
   (.seq (.seq (.kill [0, 1, 5] [] (.region [
        (.p 6 .id [.c (.pv (.int .i64 0))], none)]))
     (.block 0 (.loop (.kill [0, 1, 5, 6] [] irRef01Fixed_L1))))
    (.seq (.kill [5] [] (.region [
        (.mv 34 5, none),
        (.mv 4 34, none)]))
     .ret)))))
theorem okRef01Fixed : okFn Try.prog Try.f50 irRef01Fixed [.t 4] [] 2 = true := by kernel_rfl

-- consistoryref02.block
-- consistoryref02.block: args [85, 22]; lent []; rs [.t 4]; loops: L1 keeps [0, 1, 5, 6] [23]; L2 keeps [0, 5, 11, 12, 13, 14, 15, 16, 17, 18, 19] [23]
def irRef02Block_L1 : IR := (.seq (.seq (.kill [0, 1, 5, 6] [23] (.region [
      (.p 24 .id [.t 6], none),
      (.p 25 (.bin .lss) [.t 24, .c (.pv (.int .i64 64))], none)]))
   (.cond (.t 25)
    .skip
    (.exit 0)))
  (.seq (.block 1 (.seq (.seq (.kill [0, 1, 5, 6] [23] (.region [
         (.p 28 .id [.t 6], none),
         (.p 29 (.bin .lss) [.t 28, .c (.pv (.int .i64 16))], none)]))
      (.cond (.t 29)
       (.seq (.kill [0, 1, 5, 6] [23] (.region [
           (.p 30 .id [.t 5], none),
           (.p 31 .id [.t 6], none),
           (.p 32 .id [.t 1], none),
           (.p 33 .id [.t 6], none),
           (.p 34 (.bin .mul) [.c (.pv (.int .i64 4)), .t 33], none),
           (.call 35 65 [.t 32, .t 34, .c (.pv (.int .i64 4))] [] [] [], none),
           (.p 36 (.field 0 none) [.t 35], none),
           (.p 37 (.conv .u32) [.t 36], none),
           (.p 38 (.indexAddr none 1) [.t 30, .t 31], none),
           (.store none (some 23) (.t 38) (.t 37), none)]))
        (.exit 1))
       .skip))
     (.seq (.kill [0, 1, 5, 6] [23] (.region [
         (.p 39 .id [.t 5], none),
         (.p 40 .id [.t 6], none),
         (.p 41 (.bin .sub) [.t 40, .c (.pv (.int .i64 15))], none),
         (.p 42 (.indexAddr none 1) [.t 39, .t 41], none),
         (.load 43 none (some 23) (.t 42), none),
         (.p 7 .id [.t 43], none)]))
      (.seq (.kill [0, 1, 5, 6, 7] [23] (.region [
          (.p 44 .id [.t 5], none),
          (.p 45 .id [.t 6], none),
          (.p 46 (.bin .sub) [.t 45, .c (.pv (.int .i64 2))], none),
          (.p 47 (.indexAddr none 1) [.t 44, .t 46], none),
          (.load 48 none (some 23) (.t 47), none),
          (.p 8 .id [.t 48], none)]))
       (.seq (.kill [0, 1, 5, 6, 7, 8] [23] (.region [
           (.p 49 .id [.t 7], none),
           (.call 50 66 [.t 49, .c (.pv (.int .i64 7))] [] [] [], none),
           (.p 51 .id [.t 7], none),
           (.call 52 66 [.t 51, .c (.pv (.int .i64 18))] [] [] [], none),
           (.p 53 (.bin .xor) [.t 50, .t 52], none),
           (.p 54 .id [.t 7], none),
           (.p 55 (.bin .shr) [.t 54, .c (.pv (.int .u64 3))], none),
           (.p 56 (.bin .xor) [.t 53, .t 55], none),
           (.p 9 .id [.t 56], none)]))
        (.seq (.kill [0, 1, 5, 6, 8, 9] [23] (.region [
            (.p 57 .id [.t 8], none),
            (.call 58 66 [.t 57, .c (.pv (.int .i64 17))] [] [] [], none),
            (.p 59 .id [.t 8], none),
            (.call 60 66 [.t 59, .c (.pv (.int .i64 19))] [] [] [], none),
            (.p 61 (.bin .xor) [.t 58, .t 60], none),
            (.p 62 .id [.t 8], none),
            (.p 63 (.bin .shr) [.t 62, .c (.pv (.int .u64 10))], none),
            (.p 64 (.bin .xor) [.t 61, .t 63], none),
            (.p 10 .id [.t 64], none)]))
         (.kill [0, 1, 5, 6, 9, 10] [23] (.region [
            (.p 65 .id [.t 5], none),
            (.p 66 .id [.t 6], none),
            (.p 67 .id [.t 10], none),
            (.p 68 .id [.t 5], none),
            (.p 69 .id [.t 6], none),
            (.p 70 (.bin .sub) [.t 69, .c (.pv (.int .i64 7))], none),
            (.p 71 (.indexAddr none 1) [.t 68, .t 70], none),
            (.load 72 none (some 23) (.t 71), none),
            (.p 73 (.bin .add) [.t 67, .t 72], none),
            (.p 74 .id [.t 9], none),
            (.p 75 (.bin .add) [.t 73, .t 74], none),
            (.p 76 .id [.t 5], none),
            (.p 77 .id [.t 6], none),
            (.p 78 (.bin .sub) [.t 77, .c (.pv (.int .i64 16))], none),
            (.p 79 (.indexAddr none 1) [.t 76, .t 78], none),
            (.load 80 none (some 23) (.t 79), none),
            (.p 81 (.bin .add) [.t 75, .t 80], none),
            (.p 82 (.indexAddr none 1) [.t 65, .t 66], none),
            (.store none (some 23) (.t 82) (.t 81), none)]))))))))
   (.kill [0, 1, 5, 6] [23] (.region [
      (.p 26 .id [.t 6], none),
      (.p 27 (.bin .add) [.t 26, .c (.pv (.int .i64 1))], none),
      (.p 6 .id [.t 27], none)]))))
def irRef02Block_L2 : IR := (.seq (.seq (.kill [0, 5, 11, 12, 13, 14, 15, 16, 17, 18, 19] [23] (.region [
      (.p 107 .id [.t 19], none),
      (.p 108 (.bin .lss) [.t 107, .c (.pv (.int .i64 64))], none)]))
   (.cond (.t 108)
    .skip
    (.exit 2)))
  (.seq (.block 3 (.seq (.kill [0, 5, 11, 12, 13, 14, 15, 16, 17, 18, 19] [23] (.region [
        (.p 111 .id [.t 18], none),
        (.p 112 .id [.t 15], none),
        (.call 113 66 [.t 112, .c (.pv (.int .i64 6))] [] [] [], none),
        (.p 114 .id [.t 15], none),
        (.call 115 66 [.t 114, .c (.pv (.int .i64 11))] [] [] [], none),
        (.p 116 (.bin .xor) [.t 113, .t 115], none),
        (.p 117 .id [.t 15], none),
        (.call 118 66 [.t 117, .c (.pv (.int .i64 25))] [] [] [], none),
        (.p 119 (.bin .xor) [.t 116, .t 118], none),
        (.p 120 (.bin .add) [.t 111, .t 119], none),
        (.p 121 .id [.t 15], none),
        (.p 122 .id [.t 16], none),
        (.p 123 (.bin .and) [.t 121, .t 122], none),
        (.p 124 .id [.t 15], none),
        (.p 125 (.un .xor) [.t 124], none),
        (.p 126 .id [.t 17], none),
        (.p 127 (.bin .and) [.t 125, .t 126], none),
        (.p 128 (.bin .xor) [.t 123, .t 127], none),
        (.p 129 (.bin .add) [.t 120, .t 128], none),
        (.p 130 .id [.t 19], none),
        (.call 131 67 [.t 130] [] [] [], none),
        (.p 132 (.bin .add) [.t 129, .t 131], none),
        (.p 133 .id [.t 5], none),
        (.p 134 .id [.t 19], none),
        (.p 135 (.indexAddr none 1) [.t 133, .t 134], none),
        (.load 136 none (some 23) (.t 135), none),
        (.p 137 (.bin .add) [.t 132, .t 136], none),
        (.p 20 .id [.t 137], none)]))
     (.seq (.kill [0, 5, 11, 12, 13, 14, 15, 16, 17, 19, 20] [23] (.region [
         (.p 138 .id [.t 11], none),
         (.call 139 66 [.t 138, .c (.pv (.int .i64 2))] [] [] [], none),
         (.p 140 .id [.t 11], none),
         (.call 141 66 [.t 140, .c (.pv (.int .i64 13))] [] [] [], none),
         (.p 142 (.bin .xor) [.t 139, .t 141], none),
         (.p 143 .id [.t 11], none),
         (.call 144 66 [.t 143, .c (.pv (.int .i64 22))] [] [] [], none),
         (.p 145 (.bin .xor) [.t 142, .t 144], none),
         (.p 146 .id [.t 11], none),
         (.p 147 .id [.t 12], none),
         (.p 148 (.bin .and) [.t 146, .t 147], none),
         (.p 149 .id [.t 11], none),
         (.p 150 .id [.t 13], none),
         (.p 151 (.bin .and) [.t 149, .t 150], none),
         (.p 152 (.bin .xor) [.t 148, .t 151], none),
         (.p 153 .id [.t 12], none),
         (.p 154 .id [.t 13], none),
         (.p 155 (.bin .and) [.t 153, .t 154], none),
         (.p 156 (.bin .xor) [.t 152, .t 155], none),
         (.p 157 (.bin .add) [.t 145, .t 156], none),
         (.p 21 .id [.t 157], none)]))
      (.seq (.kill [0, 5, 11, 12, 13, 14, 15, 16, 17, 19, 20, 21] [23] (.region [
          (.p 158 .id [.t 17], none),
          (.p 18 .id [.t 158], none)]))
       (.seq (.kill [0, 5, 11, 12, 13, 14, 15, 16, 18, 19, 20, 21] [23] (.region [
           (.p 159 .id [.t 16], none),
           (.p 17 .id [.t 159], none)]))
        (.seq (.kill [0, 5, 11, 12, 13, 14, 15, 17, 18, 19, 20, 21] [23] (.region [
            (.p 160 .id [.t 15], none),
            (.p 16 .id [.t 160], none)]))
         (.seq (.kill [0, 5, 11, 12, 13, 14, 16, 17, 18, 19, 20, 21] [23] (.region [
             (.p 161 .id [.t 14], none),
             (.p 162 .id [.t 20], none),
             (.p 163 (.bin .add) [.t 161, .t 162], none),
             (.p 15 .id [.t 163], none)]))
          (.seq (.kill [0, 5, 11, 12, 13, 15, 16, 17, 18, 19, 20, 21] [23] (.region [
              (.p 164 .id [.t 13], none),
              (.p 14 .id [.t 164], none)]))
           (.seq (.kill [0, 5, 11, 12, 14, 15, 16, 17, 18, 19, 20, 21] [23] (.region [
               (.p 165 .id [.t 12], none),
               (.p 13 .id [.t 165], none)]))
            (.seq (.kill [0, 5, 11, 13, 14, 15, 16, 17, 18, 19, 20, 21] [23] (.region [
                (.p 166 .id [.t 11], none),
                (.p 12 .id [.t 166], none)]))
             (.kill [0, 5, 12, 13, 14, 15, 16, 17, 18, 19, 20, 21] [23] (.region [
                (.p 167 .id [.t 20], none),
                (.p 168 .id [.t 21], none),
                (.p 169 (.bin .add) [.t 167, .t 168], none),
                (.p 11 .id [.t 169], none)]))))))))))))
   (.kill [0, 5, 11, 12, 13, 14, 15, 16, 17, 18, 19] [23] (.region [
      (.p 109 .id [.t 19], none),
      (.p 110 (.bin .add) [.t 109, .c (.pv (.int .i64 1))], none),
      (.p 19 .id [.t 110], none)]))))
def irRef02Block : IR := (.seq (.region [
    (.p 4 .id [.c (.os 86 1 [])], none)])
 (.seq (.kill [0, 1] [] (.region [
     (.mks 23 [.int .u32 0] (.c (.pv (.int .i64 64))), none),
     (.mv 5 23, none)]))
  (.seq (.seq (.kill [0, 1, 5] [23] (.region [
       (.p 6 .id [.c (.pv (.int .i64 0))], none)]))
    (.block 0 (.loop (.kill [0, 1, 5, 6] [23] irRef02Block_L1))))
   (.seq (.kill [0, 5] [23] (.region [
       (.p 83 .id [.t 0], none),
       (.p 84 (.indexAddr none 1) [.t 83, .c (.pv (.int .i64 0))], none),
       (.load 85 none (some 9999) (.t 84), none),
       (.p 11 .id [.t 85], none)]))
    (.seq (.kill [0, 5, 11] [23] (.region [
        (.p 86 .id [.t 0], none),
        (.p 87 (.indexAddr none 1) [.t 86, .c (.pv (.int .i64 1))], none),
        (.load 88 none (some 9999) (.t 87), none),
        (.p 12 .id [.t 88], none)]))
     (.seq (.kill [0, 5, 11, 12] [23] (.region [
         (.p 89 .id [.t 0], none),
         (.p 90 (.indexAddr none 1) [.t 89, .c (.pv (.int .i64 2))], none),
         (.load 91 none (some 9999) (.t 90), none),
         (.p 13 .id [.t 91], none)]))
      (.seq (.kill [0, 5, 11, 12, 13] [23] (.region [
          (.p 92 .id [.t 0], none),
          (.p 93 (.indexAddr none 1) [.t 92, .c (.pv (.int .i64 3))], none),
          (.load 94 none (some 9999) (.t 93), none),
          (.p 14 .id [.t 94], none)]))
       (.seq (.kill [0, 5, 11, 12, 13, 14] [23] (.region [
           (.p 95 .id [.t 0], none),
           (.p 96 (.indexAddr none 1) [.t 95, .c (.pv (.int .i64 4))], none),
           (.load 97 none (some 9999) (.t 96), none),
           (.p 15 .id [.t 97], none)]))
        (.seq (.kill [0, 5, 11, 12, 13, 14, 15] [23] (.region [
            (.p 98 .id [.t 0], none),
            (.p 99 (.indexAddr none 1) [.t 98, .c (.pv (.int .i64 5))], none),
            (.load 100 none (some 9999) (.t 99), none),
            (.p 16 .id [.t 100], none)]))
         (.seq (.kill [0, 5, 11, 12, 13, 14, 15, 16] [23] (.region [
             (.p 101 .id [.t 0], none),
             (.p 102 (.indexAddr none 1) [.t 101, .c (.pv (.int .i64 6))], none),
             (.load 103 none (some 9999) (.t 102), none),
             (.p 17 .id [.t 103], none)]))
          (.seq (.kill [0, 5, 11, 12, 13, 14, 15, 16, 17] [23] (.region [
              (.p 104 .id [.t 0], none),
              (.p 105 (.indexAddr none 1) [.t 104, .c (.pv (.int .i64 7))], none),
              (.load 106 none (some 9999) (.t 105), none),
              (.p 18 .id [.t 106], none)]))
           (.seq (.seq (.kill [0, 5, 11, 12, 13, 14, 15, 16, 17, 18] [23] (.region [
                (.p 19 .id [.c (.pv (.int .i64 0))], none)]))
             (.block 2 (.loop (.kill [0, 5, 11, 12, 13, 14, 15, 16, 17, 18, 19] [23] irRef02Block_L2))))
            (.seq (.kill [0, 11, 12, 13, 14, 15, 16, 17, 18] [] (.region [
                (.p 22 .id [.c (.os 86 1 [])], none)]))
             (.seq (.kill [0, 11, 12, 13, 14, 15, 16, 17, 18, 22] [] (.region [
                 (.mv 170 22, none),
                 (.p 171 .id [.t 0], none),
                 (.p 172 (.indexAddr none 1) [.t 171, .c (.pv (.int .i64 0))], none),
                 (.load 173 none (some 9999) (.t 172), none),
                 (.p 174 .id [.t 11], none),
                 (.p 175 (.bin .add) [.t 173, .t 174], none),
                 (.p 176 .id [.t 0], none),
                 (.p 177 (.indexAddr none 1) [.t 176, .c (.pv (.int .i64 1))], none),
                 (.load 178 none (some 9999) (.t 177), none),
                 (.p 179 .id [.t 12], none),
                 (.p 180 (.bin .add) [.t 178, .t 179], none),
                 (.p 181 .id [.t 0], none),
                 (.p 182 (.indexAddr none 1) [.t 181, .c (.pv (.int .i64 2))], none),
                 (.load 183 none (some 9999) (.t 182), none),
                 (.p 184 .id [.t 13], none),
                 (.p 185 (.bin .add) [.t 183, .t 184], none),
                 (.p 186 .id [.t 0], none),
                 (.p 187 (.indexAddr none 1) [.t 186, .c (.pv (.int .i64 3))], none),
                 (.load 188 none (some 9999) (.t 187), none),
                 (.p 189 .id [.t 14], none),
                 (.p 190 (.bin .add) [.t 188, .t 189], none),
                 (.p 191 .id [.t 0], none),
                 (.p 192 (.indexAddr none 1) [.t 191, .c (.pv (.int .i64 4))], none),
                 (.load 193 none (some 9999) (.t 192), none),
                 (.p 194 .id [.t 15], none),
                 (.p 195 (.bin .add) [.t 193, .t 194], none),
                 (.p 196 .id [.t 0], none),
                 (.p 197 (.indexAddr none 1) [.t 196, .c (.pv (.int .i64 5))], none),
                 (.load 198 none (some 9999) (.t 197), none),
                 (.p 199 .id [.t 16], none),
                 (.p 200 (.bin .add) [.t 198, .t 199], none),
                 (.p 201 .id [.t 0], none),
                 (.p 202 (.indexAddr none 1) [.t 201, .c (.pv (.int .i64 6))], none),
                 (.load 203 none (some 9999) (.t 202), none),
                 (.p 204 .id [.t 17], none),
                 (.p 205 (.bin .add) [.t 203, .t 204], none),
                 (.p 206 .id [.t 0], none),
                 (.p 207 (.indexAddr none 1) [.t 206, .c (.pv (.int .i64 7))], none),
                 (.load 208 none (some 9999) (.t 207), none),
                 (.p 209 .id [.t 18], none),
                 (.p 210 (.bin .add) [.t 208, .t 209], none),
                 (.bslice 211 86 1 8 [.int .u32 0] [(0, .t 175), (1, .t 180), (2, .t 185), (3, .t 190), (4, .t 195), (5, .t 200), (6, .t 205), (7, .t 210)], none),
                 (.app 212 86 1 170 none (.t 211), none),
                 (.mv 22 212, none)]))
              (.seq (.kill [22] [] (.region [
                  (.mv 213 22, none),
                  (.mv 4 213, none)]))
               .ret)))))))))))))))
theorem okRef02Block : okFn Try.prog Try.f51 irRef02Block [.t 4] [] 2 = true := by kernel_rfl

-- sha.words
-- sha.words: args [22]; lent []; rs [.cell 2 (some (64, true))]; loops: L1 keeps [0, 2, 3, 8] [2, 3]; L2 keeps [2, 3, 5] [2, 3]
def irShaWords_L1 : IR := (.seq (.kill [0, 2, 3, 8] [2, 3] (.region [
     (.p 9 (.bin .lss) [.t 8, .c (.pv (.int .i64 16))], none)]))
  (.seq (.cond (.t 9)
    .skip
    (.exit 0))
   (.seq (.block 1 (.seq (.kill [0, 2, 3, 8] [2, 3] (.region [
         (.p 10 .id [.t 8], none),
         (.p 4 .id [.t 10], none)]))
      (.kill [0, 2, 3, 4, 8] [2, 3] (.region [
         (.p 11 .id [.t 4], none),
         (.p 12 .id [.t 0], none),
         (.p 13 .id [.t 4], none),
         (.p 14 (.bin .mul) [.c (.pv (.int .i64 4)), .t 13], none),
         (.p 15 (.indexAddr none 1) [.t 12, .t 14], none),
         (.load 16 none (some 9999) (.t 15), none),
         (.p 17 (.conv .u32) [.t 16], none),
         (.p 18 (.bin .shl) [.t 17, .c (.pv (.int .u64 24))], none),
         (.p 19 .id [.t 0], none),
         (.p 20 .id [.t 4], none),
         (.p 21 (.bin .mul) [.c (.pv (.int .i64 4)), .t 20], none),
         (.p 22 (.bin .add) [.t 21, .c (.pv (.int .i64 1))], none),
         (.p 23 (.indexAddr none 1) [.t 19, .t 22], none),
         (.load 24 none (some 9999) (.t 23), none),
         (.p 25 (.conv .u32) [.t 24], none),
         (.p 26 (.bin .shl) [.t 25, .c (.pv (.int .u64 16))], none),
         (.p 27 (.bin .or) [.t 18, .t 26], none),
         (.p 28 .id [.t 0], none),
         (.p 29 .id [.t 4], none),
         (.p 30 (.bin .mul) [.c (.pv (.int .i64 4)), .t 29], none),
         (.p 31 (.bin .add) [.t 30, .c (.pv (.int .i64 2))], none),
         (.p 32 (.indexAddr none 1) [.t 28, .t 31], none),
         (.load 33 none (some 9999) (.t 32), none),
         (.p 34 (.conv .u32) [.t 33], none),
         (.p 35 (.bin .shl) [.t 34, .c (.pv (.int .u64 8))], none),
         (.p 36 (.bin .or) [.t 27, .t 35], none),
         (.p 37 .id [.t 0], none),
         (.p 38 .id [.t 4], none),
         (.p 39 (.bin .mul) [.c (.pv (.int .i64 4)), .t 38], none),
         (.p 40 (.bin .add) [.t 39, .c (.pv (.int .i64 3))], none),
         (.p 41 (.indexAddr none 1) [.t 37, .t 40], none),
         (.load 42 none (some 9999) (.t 41), none),
         (.p 43 (.conv .u32) [.t 42], none),
         (.p 44 (.bin .or) [.t 36, .t 43], none),
         (.p 45 (.indexAddr (some 64) 1) [.t 3, .t 11], none),
         (.store none (some 3) (.t 45) (.t 44), none)]))))
    (.kill [0, 2, 3, 8] [2, 3] (.region [
       (.p 46 (.bin .add) [.t 8, .c (.pv (.int .i64 1))], none),
       (.p 8 .id [.t 46], none)])))))
def irShaWords_L2 : IR := (.seq (.seq (.kill [2, 3, 5] [2, 3] (.region [
      (.p 47 .id [.t 5], none),
      (.p 48 (.bin .lss) [.t 47, .c (.pv (.int .i64 64))], none)]))
   (.cond (.t 48)
    .skip
    (.exit 2)))
  (.seq (.block 3 (.seq (.kill [2, 3, 5] [2, 3] (.region [
        (.p 51 .id [.t 5], none),
        (.p 52 (.bin .sub) [.t 51, .c (.pv (.int .i64 15))], none),
        (.p 53 (.indexAddr (some 64) 1) [.t 3, .t 52], none),
        (.load 54 none (some 3) (.t 53), none),
        (.p 55 .id [.t 5], none),
        (.p 56 (.bin .sub) [.t 55, .c (.pv (.int .i64 2))], none),
        (.p 57 (.indexAddr (some 64) 1) [.t 3, .t 56], none),
        (.load 58 none (some 3) (.t 57), none),
        (.p 6 .id [.t 54], none),
        (.p 7 .id [.t 58], none)]))
     (.kill [2, 3, 5, 6, 7] [2, 3] (.region [
        (.p 59 .id [.t 5], none),
        (.p 60 .id [.t 5], none),
        (.p 61 (.bin .sub) [.t 60, .c (.pv (.int .i64 16))], none),
        (.p 62 (.indexAddr (some 64) 1) [.t 3, .t 61], none),
        (.load 63 none (some 3) (.t 62), none),
        (.p 64 .id [.t 5], none),
        (.p 65 (.bin .sub) [.t 64, .c (.pv (.int .i64 7))], none),
        (.p 66 (.indexAddr (some 64) 1) [.t 3, .t 65], none),
        (.load 67 none (some 3) (.t 66), none),
        (.p 68 (.bin .add) [.t 63, .t 67], none),
        (.p 69 .id [.t 6], none),
        (.call 70 71 [.t 69, .c (.pv (.int .i64 7))] [] [] [], none),
        (.p 71 .id [.t 6], none),
        (.call 72 71 [.t 71, .c (.pv (.int .i64 18))] [] [] [], none),
        (.p 73 (.bin .xor) [.t 70, .t 72], none),
        (.p 74 .id [.t 6], none),
        (.p 75 (.bin .shr) [.t 74, .c (.pv (.int .u64 3))], none),
        (.p 76 (.bin .xor) [.t 73, .t 75], none),
        (.p 77 (.bin .add) [.t 68, .t 76], none),
        (.p 78 .id [.t 7], none),
        (.call 79 71 [.t 78, .c (.pv (.int .i64 17))] [] [] [], none),
        (.p 80 .id [.t 7], none),
        (.call 81 71 [.t 80, .c (.pv (.int .i64 19))] [] [] [], none),
        (.p 82 (.bin .xor) [.t 79, .t 81], none),
        (.p 83 .id [.t 7], none),
        (.p 84 (.bin .shr) [.t 83, .c (.pv (.int .u64 10))], none),
        (.p 85 (.bin .xor) [.t 82, .t 84], none),
        (.p 86 (.bin .add) [.t 77, .t 85], none),
        (.p 87 (.indexAddr (some 64) 1) [.t 3, .t 59], none),
        (.store none (some 3) (.t 87) (.t 86), none)]))))
   (.kill [2, 3, 5] [2, 3] (.region [
      (.p 49 .id [.t 5], none),
      (.p 50 (.bin .add) [.t 49, .c (.pv (.int .i64 1))], none),
      (.p 5 .id [.t 50], none)]))))
def irShaWords : IR := (.seq (.region [
    (.alloc 2 (.pagg (List.replicate 64 (.int .u32 0))), none)])
 (.seq (.kill [0, 2] [2] (.region [
     (.alloc 3 (.pagg (List.replicate 64 (.int .u32 0))), none)]))
  (.seq (.seq (.kill [0, 2, 3] [2, 3] (.region [
       (.p 8 .id [.c (.pv (.int .i64 0))], none)]))
    (.block 0 (.loop (.kill [0, 2, 3, 8] [2, 3] irShaWords_L1))))
   (.seq (.seq (.kill [2, 3] [2, 3] (.region [
        (.p 5 .id [.c (.pv (.int .i64 16))], none)]))
     (.block 2 (.loop (.kill [2, 3, 5] [2, 3] irShaWords_L2))))
    (.seq (.kill [2, 3] [2, 3] (.region [
        (.load 88 (some (64, true)) (some 3) (.t 3), none),
        (.store (some (64, true)) (some 2) (.t 2) (.t 88), none)]))
     .ret)))))
theorem okShaWords : okFn Try.prog Try.f70 irShaWords [.cell 2 (some (64, true))] [] 1 = true := by kernel_rfl

-- sha.turn
-- sha.turn: args [86, 3]; lent []; rs [.t 4]; loops: 
def irShaTurn : IR := (.seq (.region [
    (.p 4 .id [.c (.pv (.int .u32 0))], none)])
 (.seq (.kill [0, 1] [] (.region [
     (.p 5 .id [.t 0], none),
     (.p 6 .id [.t 1], none),
     (.p 7 (.un .neg) [.t 6], none),
     (.call 8 73 [.t 5, .t 7] [] [] [], none),
     (.p 4 .id [.t 8], none)]))
  .ret))
theorem okShaTurn : okFn Try.prog Try.f71 irShaTurn [.t 4] [] 2 = true := by kernel_rfl

-- nums.PutFixed
-- nums.PutFixed: args [22, 42, 3]; lent []; rs [.t 6]; loops: L1 keeps [1, 2, 7, 15, 16] []
def irNumsPutFixed_L1 : IR := (.seq (.kill [1, 2, 7, 15, 16] [] (.region [
     (.p 17 (.bin .lss) [.t 16, .t 15], none)]))
  (.seq (.cond (.t 17)
    .skip
    (.exit 0))
   (.seq (.block 1 (.seq (.kill [1, 2, 7, 15, 16] [] (.region [
         (.p 18 .id [.t 16], none),
         (.p 8 .id [.t 18], none)]))
      (.kill [1, 2, 7, 8, 15, 16] [] (.region [
         (.mv 19 7, none),
         (.p 20 .id [.t 1], none),
         (.p 21 .id [.t 2], none),
         (.p 22 (.bin .sub) [.t 21, .c (.pv (.int .i64 1))], none),
         (.p 23 .id [.t 8], none),
         (.p 24 (.bin .sub) [.t 22, .t 23], none),
         (.p 25 (.bin .mul) [.c (.pv (.int .i64 8)), .t 24], none),
         (.p 26 (.bin .shr) [.t 20, .t 25], none),
         (.p 27 (.conv .u8) [.t 26], none),
         (.bslice 28 5 1 1 [.int .u8 0] [(0, .t 27)], none),
         (.app 29 5 1 19 none (.t 28), none),
         (.mv 7 29, none)]))))
    (.kill [1, 2, 7, 15, 16] [] (.region [
       (.p 30 (.bin .add) [.t 16, .c (.pv (.int .i64 1))], none),
       (.p 16 .id [.t 30], none)])))))
def irNumsPutFixed : IR := (.seq (.region [
    (.p 6 .id [.c (.os 5 1 [])], none)])
 (.seq (.kill [0, 1, 2] [] (.region [
     (.mv 9 0, none),
     (.call 10 26 [.t 9] [] [] [], none),
     (.mv 7 10, none)]))
  (.seq (.seq (.kill [1, 2, 7] [] (.region [
       (.p 11 .id [.t 2], none),
       (.call 12 74 [.t 11] [] [] [], none),
       (.p 13 (.un .not) [.t 12], none)]))
    (.cond (.t 13)
     (.seq (.kill [7] [] (.region [
         (.mv 14 7, none),
         (.mv 6 14, none)]))
      .ret)
     .skip))
   (.seq (.seq (.kill [1, 2, 7] [] (.region [
        (.p 15 .id [.t 2], none),
        (.p 16 .id [.c (.pv (.int .i64 0))], none)]))
     (.block 0 (.loop (.kill [1, 2, 7, 15, 16] [] irNumsPutFixed_L1))))
    (.seq (.kill [7] [] (.region [
        (.mv 31 7, none),
        (.mv 6 31, none)]))
     .ret)))))
theorem okNumsPutFixed : okFn Try.prog Try.f72 irNumsPutFixed [.t 6] [] 3 = true := by kernel_rfl

-- consistoryref01.Wide
-- consistoryref01.Wide: args [3]; lent []; rs [.t 2]; loops: 
def irRef01Wide : IR := (.seq (.region [
    (.p 2 .id [.c (.pv (.bool false))], none)])
 (.seq (.kill [0] [] (.region [
     (.p 3 .id [.t 0], none),
     (.p 4 (.bin .eql) [.t 3, .c (.pv (.int .i64 1))], none),
     (.p 5 .id [.t 4], none),
     (.p 6 .id [.t 0], some (5, false)),
     (.p 7 (.bin .eql) [.t 6, .c (.pv (.int .i64 2))], some (5, false)),
     (.p 8 .pick [.t 5, .c (.pv (.bool true)), .t 7], none),
     (.p 9 .id [.t 8], none),
     (.p 10 .id [.t 0], some (9, false)),
     (.p 11 (.bin .eql) [.t 10, .c (.pv (.int .i64 4))], some (9, false)),
     (.p 12 .pick [.t 9, .c (.pv (.bool true)), .t 11], none),
     (.p 13 .id [.t 12], none),
     (.p 14 .id [.t 0], some (13, false)),
     (.p 15 (.bin .eql) [.t 14, .c (.pv (.int .i64 8))], some (13, false)),
     (.p 16 .pick [.t 13, .c (.pv (.bool true)), .t 15], none),
     (.p 2 .id [.t 16], none)]))
  .ret))
theorem okRef01Wide : okFn Try.prog Try.f64 irRef01Wide [.t 2] [] 1 = true := by kernel_rfl

-- consistoryref01.ReadFixed
-- consistoryref01.ReadFixed: args [22, 3, 3]; lent []; rs [.cell 6 (some (4, true))]; loops: L1 keeps [0, 1, 2, 6, 7, 8] [6]
def irRef01ReadFixed_L1 : IR := (.seq (.seq (.kill [0, 1, 2, 6, 7, 8] [6] (.region [
      (.p 20 .id [.t 8], none),
      (.p 21 .id [.t 2], none),
      (.p 22 (.bin .lss) [.t 20, .t 21], none)]))
   (.cond (.t 22)
    .skip
    (.exit 0)))
  (.seq (.block 1 (.kill [0, 1, 2, 6, 7, 8] [6] (.region [
       (.p 25 .id [.t 7], none),
       (.p 26 (.bin .mul) [.c (.pv (.int .u64 256)), .t 25], none),
       (.p 27 .id [.t 0], none),
       (.p 28 .id [.t 1], none),
       (.p 29 .id [.t 8], none),
       (.p 30 (.bin .add) [.t 28, .t 29], none),
       (.p 31 (.indexAddr none 1) [.t 27, .t 30], none),
       (.load 32 none (some 9999) (.t 31), none),
       (.p 33 (.conv .u64) [.t 32], none),
       (.p 34 (.bin .add) [.t 26, .t 33], none),
       (.p 7 .id [.t 34], none)])))
   (.kill [0, 1, 2, 6, 7, 8] [6] (.region [
      (.p 23 .id [.t 8], none),
      (.p 24 (.bin .add) [.t 23, .c (.pv (.int .i64 1))], none),
      (.p 8 .id [.t 24], none)]))))
def irRef01ReadFixed : IR := (.seq (.region [
    (.alloc 6 (.agg [.pv (.int .u64 0), .os 5 1 [], .pv (.int .i64 0), .pv (.int .i64 0)]), none)])
 (.seq (.seq (.kill [0, 1, 2, 6] [6] (.region [
      (.p 9 .id [.t 2], none),
      (.call 10 64 [.t 9] [] [] [], none),
      (.p 11 (.un .not) [.t 10], none)]))
   (.cond (.t 11)
    (.seq (.kill [6] [6] (.region [
        (.build 12 (.pagg [.int .u64 0, .sl 1 [], .int .i64 0, .int .i64 0]) [(3, 1, .c (.pv (.int .i64 15)))], none),
        (.store (some (4, true)) (some 6) (.t 6) (.t 12), none)]))
     .ret)
    .skip))
  (.seq (.seq (.kill [0, 1, 2, 6] [6] (.region [
       (.p 13 .id [.t 0], none),
       (.p 14 (.len none) [.t 13], none),
       (.p 15 .id [.t 1], none),
       (.p 16 (.bin .sub) [.t 14, .t 15], none),
       (.p 17 .id [.t 2], none),
       (.p 18 (.bin .lss) [.t 16, .t 17], none)]))
    (.cond (.t 18)
     (.seq (.kill [6] [6] (.region [
         (.build 19 (.pagg [.int .u64 0, .sl 1 [], .int .i64 0, .int .i64 0]) [(3, 1, .c (.pv (.int .i64 1)))], none),
         (.store (some (4, true)) (some 6) (.t 6) (.t 19), none)]))
      .ret)
     .skip))
   (.seq (.kill [0, 1, 2, 6] [6] (.region [
       (.p 7 .id [.c (.pv (.int .u64 0))], none)]))
    (.seq (.seq (.kill [0, 1, 2, 6, 7] [6] (.region [
         (.p 8 .id [.c (.pv (.int .i64 0))], none)]))
      (.block 0 (.loop (.kill [0, 1, 2, 6, 7, 8] [6] irRef01ReadFixed_L1))))
     (.seq (.kill [2, 6, 7] [6] (.region [
         (.p 35 .id [.t 7], none),
         (.p 36 .id [.t 2], none),
         (.build 37 (.pagg [.int .u64 0, .sl 1 [], .int .i64 0, .int .i64 0]) [(0, 1, .t 35), (2, 1, .t 36)], none),
         (.store (some (4, true)) (some 6) (.t 6) (.t 37), none)]))
      .ret))))))
theorem okRef01ReadFixed : okFn Try.prog Try.f65 irRef01ReadFixed [.cell 6 (some (4, true))] [] 3 = true := by kernel_rfl

-- consistoryref02.turn
-- consistoryref02.turn: args [86, 3]; lent []; rs [.t 4]; loops: 
def irRef02Turn : IR := (.seq (.region [
    (.p 4 .id [.c (.pv (.int .u32 0))], none)])
 (.seq (.kill [0, 1] [] (.region [
     (.p 5 .id [.t 0], none),
     (.p 6 .id [.t 1], none),
     (.p 7 (.conv .u64) [.t 6], none),
     (.p 8 (.bin .shr) [.t 5, .t 7], none),
     (.p 9 .id [.t 0], none),
     (.p 10 .id [.t 1], none),
     (.p 11 (.bin .sub) [.c (.pv (.int .i64 32)), .t 10], none),
     (.p 12 (.conv .u64) [.t 11], none),
     (.p 13 (.bin .shl) [.t 9, .t 12], none),
     (.p 14 (.bin .or) [.t 8, .t 13], none),
     (.p 4 .id [.t 14], none)]))
  .ret))
theorem okRef02Turn : okFn Try.prog Try.f66 irRef02Turn [.t 4] [] 2 = true := by kernel_rfl

-- consistoryref02.Word
-- consistoryref02.Word: args [3]; lent []; rs [.t 2]; loops: 
def irRef02Word : IR := (.seq (.region [
    (.p 2 .id [.c (.pv (.int .u32 0))], none)])
 (.seq (.kill [0] [] (.region [
     (.build 4 (.pagg (List.replicate 64 (.int .u32 0))) [(0, 1, .c (.pv (.int .u32 1116352408))), (1, 1, .c (.pv (.int .u32 1899447441))), (2, 1, .c (.pv (.int .u32 3049323471))), (3, 1, .c (.pv (.int .u32 3921009573))), (4, 1, .c (.pv (.int .u32 961987163))), (5, 1, .c (.pv (.int .u32 1508970993))), (6, 1, .c (.pv (.int .u32 2453635748))), (7, 1, .c (.pv (.int .u32 2870763221))), (8, 1, .c (.pv (.int .u32 3624381080))), (9, 1, .c (.pv (.int .u32 310598401))), (10, 1, .c (.pv (.int .u32 607225278))), (11, 1, .c (.pv (.int .u32 1426881987))), (12, 1, .c (.pv (.int .u32 1925078388))), (13, 1, .c (.pv (.int .u32 2162078206))), (14, 1, .c (.pv (.int .u32 2614888103))), (15, 1, .c (.pv (.int .u32 3248222580))), (16, 1, .c (.pv (.int .u32 3835390401))), (17, 1, .c (.pv (.int .u32 4022224774))), (18, 1, .c (.pv (.int .u32 264347078))), (19, 1, .c (.pv (.int .u32 604807628))), (20, 1, .c (.pv (.int .u32 770255983))), (21, 1, .c (.pv (.int .u32 1249150122))), (22, 1, .c (.pv (.int .u32 1555081692))), (23, 1, .c (.pv (.int .u32 1996064986))), (24, 1, .c (.pv (.int .u32 2554220882))), (25, 1, .c (.pv (.int .u32 2821834349))), (26, 1, .c (.pv (.int .u32 2952996808))), (27, 1, .c (.pv (.int .u32 3210313671))), (28, 1, .c (.pv (.int .u32 3336571891))), (29, 1, .c (.pv (.int .u32 3584528711))), (30, 1, .c (.pv (.int .u32 113926993))), (31, 1, .c (.pv (.int .u32 338241895))), (32, 1, .c (.pv (.int .u32 666307205))), (33, 1, .c (.pv (.int .u32 773529912))), (34, 1, .c (.pv (.int .u32 1294757372))), (35, 1, .c (.pv (.int .u32 1396182291))), (36, 1, .c (.pv (.int .u32 1695183700))), (37, 1, .c (.pv (.int .u32 1986661051))), (38, 1, .c (.pv (.int .u32 2177026350))), (39, 1, .c (.pv (.int .u32 2456956037))), (40, 1, .c (.pv (.int .u32 2730485921))), (41, 1, .c (.pv (.int .u32 2820302411))), (42, 1, .c (.pv (.int .u32 3259730800))), (43, 1, .c (.pv (.int .u32 3345764771))), (44, 1, .c (.pv (.int .u32 3516065817))), (45, 1, .c (.pv (.int .u32 3600352804))), (46, 1, .c (.pv (.int .u32 4094571909))), (47, 1, .c (.pv (.int .u32 275423344))), (48, 1, .c (.pv (.int .u32 430227734))), (49, 1, .c (.pv (.int .u32 506948616))), (50, 1, .c (.pv (.int .u32 659060556))), (51, 1, .c (.pv (.int .u32 883997877))), (52, 1, .c (.pv (.int .u32 958139571))), (53, 1, .c (.pv (.int .u32 1322822218))), (54, 1, .c (.pv (.int .u32 1537002063))), (55, 1, .c (.pv (.int .u32 1747873779))), (56, 1, .c (.pv (.int .u32 1955562222))), (57, 1, .c (.pv (.int .u32 2024104815))), (58, 1, .c (.pv (.int .u32 2227730452))), (59, 1, .c (.pv (.int .u32 2361852424))), (60, 1, .c (.pv (.int .u32 2428436474))), (61, 1, .c (.pv (.int .u32 2756734187))), (62, 1, .c (.pv (.int .u32 3204031479))), (63, 1, .c (.pv (.int .u32 3329325298)))], none),
     (.alloc 3 (.pagg (List.replicate 64 (.int .u32 0))), none),
     (.store (some (64, true)) (some 3) (.t 3) (.t 4), none)]))
  (.seq (.kill [0, 3] [3] (.region [
      (.p 5 .id [.t 0], none),
      (.p 6 (.indexAddr (some 64) 1) [.t 3, .t 5], none),
      (.load 7 none (some 3) (.t 6), none),
      (.p 2 .id [.t 7], none)]))
   .ret)))
theorem okRef02Word : okFn Try.prog Try.f67 irRef02Word [.t 2] [] 1 = true := by kernel_rfl

-- math/bits.RotateLeft32
-- math/bits.RotateLeft32: args [86, 3]; lent []; rs [.t 4]; loops: 
def irMathBitsRotateLeft32 : IR := (.seq (.region [
    (.p 4 .id [.c (.pv (.int .u32 0))], none)])
 (.seq (.kill [0, 1] [] (.region [
     (.p 6 .id [.t 1], none),
     (.p 7 (.conv .u64) [.t 6], none),
     (.p 8 (.bin .and) [.t 7, .c (.pv (.int .u64 31))], none),
     (.p 5 .id [.t 8], none)]))
  (.seq (.kill [0, 5] [] (.region [
      (.p 9 .id [.t 0], none),
      (.p 10 .id [.t 5], none),
      (.p 11 (.bin .shl) [.t 9, .t 10], none),
      (.p 12 .id [.t 0], none),
      (.p 13 .id [.t 5], none),
      (.p 14 (.bin .sub) [.c (.pv (.int .u64 32)), .t 13], none),
      (.p 15 (.bin .shr) [.t 12, .t 14], none),
      (.p 16 (.bin .or) [.t 11, .t 15], none),
      (.p 4 .id [.t 16], none)]))
   .ret)))
theorem okMathBitsRotateLeft32 : okFn Try.prog Try.f73 irMathBitsRotateLeft32 [.t 4] [] 2 = true := by kernel_rfl

-- nums.wide
-- nums.wide: args [3]; lent []; rs [.t 2]; loops: 
def irNumsWide : IR := (.seq (.region [
    (.p 2 .id [.c (.pv (.bool false))], none)])
 (.seq (.kill [0] [] (.region [
     (.p 3 .id [.t 0], none),
     (.p 4 (.bin .eql) [.t 3, .c (.pv (.int .i64 1))], none),
     (.p 5 .id [.t 4], none),
     (.p 6 .id [.t 0], some (5, false)),
     (.p 7 (.bin .eql) [.t 6, .c (.pv (.int .i64 2))], some (5, false)),
     (.p 8 .pick [.t 5, .c (.pv (.bool true)), .t 7], none),
     (.p 9 .id [.t 8], none),
     (.p 10 .id [.t 0], some (9, false)),
     (.p 11 (.bin .eql) [.t 10, .c (.pv (.int .i64 4))], some (9, false)),
     (.p 12 .pick [.t 9, .c (.pv (.bool true)), .t 11], none),
     (.p 13 .id [.t 12], none),
     (.p 14 .id [.t 0], some (13, false)),
     (.p 15 (.bin .eql) [.t 14, .c (.pv (.int .i64 8))], some (13, false)),
     (.p 16 .pick [.t 13, .c (.pv (.bool true)), .t 15], none),
     (.p 2 .id [.t 16], none)]))
  .ret))
theorem okNumsWide : okFn Try.prog Try.f74 irNumsWide [.t 2] [] 1 = true := by kernel_rfl

end Go.Proofs.Ytlbfpnckoblppaa
