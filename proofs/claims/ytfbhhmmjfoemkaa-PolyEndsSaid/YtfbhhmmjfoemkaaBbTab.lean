/- The functions that this claim reaches, in short form; printed by a program of mine. -/
import Derived.Test.YtfbhhmmjfoemkaaBbG3
namespace Go.Bb
set_option maxRecDepth 20000
def h_bandboxlaw5_PolySays : Hint := [(0, [1, 3, 5], []), (1, [1, 3, 5, 9], []), (2, [6], []), (3, [1, 3, 5, 12], []), (4, [6], []), (5, [1, 3, 5, 7], []), (6, [1, 3, 5, 7, 16], []), (7, [1, 3, 5, 7], []), (8, [1, 3, 5, 7, 24], []), (9, [6], []), (10, [6], [(0, 0), (1, 0), (2, 0), (4, 1), (5, 0), (3, 2), (6, 0), (7, 0), (8, 0), (9, 0), (10, 0), (11, 1), (12, 0), (13, 0), (14, 0), (15, 0), (16, 0), (17, 0), (18, 0), (19, 2), (20, 0), (21, 0), (22, 0), (23, 0)])]
def ir_bandboxlaw5_PolySays_25 : ACode := (.seq (.dops [
   ⟨0, (some 25), .load (some 32) (.t 3), none, 0⟩,
   ⟨1, (some 26), .mv (.t 1), none, 0⟩,
   ⟨2, (some 27), .call 38 [.t 25, .t 26], none, 0⟩,
   ⟨4, (some 29), .mv (.t 1), none, 1⟩,
   ⟨5, (some 30), .call 42 [.t 29], none, 0⟩,
   ⟨3, (some 28), .load (some 32) (.t 3), none, 2⟩,
   ⟨6, (some 31), .call 41 [.t 28, .t 30], none, 0⟩,
   ⟨7, (some 32), .eqa (List.replicate 16 (some .u8)) false (.t 27) (.t 31), none, 0⟩,
   ⟨8, (some 33), .mv (.t 32), none, 0⟩,
   ⟨9, (some 34), .load (some 16) (.t 5), (some (33, true)), 0⟩,
   ⟨10, (some 35), .call 40 [.t 34], (some (33, true)), 0⟩,
   ⟨11, (some 36), .load (some 16) (.t 5), (some (33, true)), 1⟩,
   ⟨12, (some 37), .call 43 [.t 36], (some (33, true)), 0⟩,
   ⟨13, (some 38), .eqa (List.replicate 16 (some .u8)) false (.t 35) (.t 37), (some (33, true)), 0⟩,
   ⟨14, (some 39), .pick (.t 33) (.t 38) (.c (.bool false)), none, 0⟩,
   ⟨15, (some 40), .mv (.t 39), none, 0⟩,
   ⟨16, (some 41), .load (some 16) (.t 5), (some (40, true)), 0⟩,
   ⟨17, (some 42), .call 40 [.t 41], (some (40, true)), 0⟩,
   ⟨18, (some 43), .call 40 [.t 42], (some (40, true)), 0⟩,
   ⟨19, (some 44), .load (some 16) (.t 5), (some (40, true)), 2⟩,
   ⟨20, (some 45), .call 40 [.t 44], (some (40, true)), 0⟩,
   ⟨21, (some 46), .eqa (List.replicate 16 (some .u8)) false (.t 43) (.t 45), (some (40, true)), 0⟩,
   ⟨22, (some 47), .pick (.t 40) (.t 46) (.c (.bool false)), none, 0⟩,
   ⟨23, (some 6), .mv (.t 47), none, 0⟩] [6])
 .ret)
def ir_bandboxlaw5_PolySays_10 : ACode := (.seq (.seq (.ops [
   ⟨(some 10), .mv (.t 1), none⟩,
   ⟨(some 11), .lenS (.t 10), none⟩,
   ⟨(some 12), .bin .gtr (.t 11) (.c (.int .i64 6)), none⟩] [1, 3, 5, 12])
 (.cond (.t 12)
 (.seq (.ops [
    ⟨(some 6), .mv (.c (.bool true)), none⟩] [6])
 .ret)
 .skip))
 (.seq (.seq (.ops [
   ⟨(some 7), .mv (.c (.int .i64 0)), none⟩] [1, 3, 5, 7])
 (.block 0 (.loop (.seq (.seq (.ops [
     ⟨(some 13), .mv (.t 7), none⟩,
     ⟨(some 14), .mv (.t 1), none⟩,
     ⟨(some 15), .lenS (.t 14), none⟩,
     ⟨(some 16), .bin .lss (.t 13) (.t 15), none⟩] [1, 3, 5, 7, 16])
 (.cond (.t 16)
 .skip
 (.exit 0)))
 (.seq (.block 1 (.seq (.ops [
      ⟨(some 19), .mv (.t 1), none⟩,
      ⟨(some 20), .mv (.t 7), none⟩,
      ⟨(some 21), .iaddrS 1 (.t 19) (.t 20), none⟩,
      ⟨(some 22), .load none (.t 21), none⟩,
      ⟨(some 23), .lenS (.t 22), none⟩,
      ⟨(some 24), .bin .gtr (.t 23) (.c (.int .i64 150)), none⟩] [1, 3, 5, 7, 24])
 (.cond (.t 24)
 (.seq (.ops [
       ⟨(some 6), .mv (.c (.bool true)), none⟩] [6])
 .ret)
 .skip)))
 (.ops [
     ⟨(some 17), .mv (.t 7), none⟩,
     ⟨(some 18), .bin .add (.t 17) (.c (.int .i64 1)), none⟩,
     ⟨(some 7), .mv (.t 18), none⟩] [1, 3, 5, 7]))))))
 ir_bandboxlaw5_PolySays_25))
def ir_bandboxlaw5_PolySays : AFunc := ⟨3, 48, [.tmp 6],
 (.seq (.ops [
   ⟨(some 3), .box (.t 0), none⟩,
   ⟨(some 5), .box (.t 2), none⟩,
   ⟨(some 6), .mv (.c (.bool false)), none⟩] [1, 3, 5])
 (.seq (.seq (.ops [
   ⟨(some 8), .call 37 [], none⟩,
   ⟨(some 9), .un .not (.t 8), none⟩] [1, 3, 5, 9])
 (.cond (.t 9)
 (.seq (.ops [
    ⟨(some 6), .mv (.c (.bool false)), none⟩] [6])
 .ret)
 .skip))
 ir_bandboxlaw5_PolySays_10))⟩

def h_bandboxlaw5_awake : Hint := [(0, [], []), (1, [1], []), (2, [0], [])]
def ir_bandboxlaw5_awake_7 : ACode := (.seq (.ops [
   ⟨(some 7), .slArr 16 1 (.t 1) none none none, none⟩,
   ⟨(some 8), .call 59 [.t 7], none⟩,
   ⟨(some 9), .bin .eql (.t 8) (.c (.string ⟨#[97, 56, 48, 54, 49, 100, 99, 49, 51, 48, 53, 49, 51, 54, 99, 54, 99, 50, 50, 98, 56, 98, 97, 102, 48, 99, 48, 49, 50, 55, 97, 57]⟩)), none⟩,
   ⟨(some 0), .mv (.t 9), none⟩] [0])
 .ret)
def ir_bandboxlaw5_awake_2 : ACode := (.seq (.ops [
   ⟨(some 2), .call 39 [.c (.string ⟨#[56, 53, 100, 54, 98, 101, 55, 56, 53, 55, 53, 53, 54, 100, 51, 51, 55, 102, 52, 52, 53, 50, 102, 101, 52, 50, 100, 53, 48, 54, 97, 56, 48, 49, 48, 51, 56, 48, 56, 97, 102, 98, 48, 100, 98, 50, 102, 100, 52, 97, 98, 102, 102, 54, 97, 102, 52, 49, 52, 57, 102, 53, 49, 98]⟩)], none⟩,
   ⟨(some 3), .bslice 34 1 ([.int .u8 0]) [(0, 1, .c (.int .u8 67)), (1, 1, .c (.int .u8 114)), (2, 1, .c (.int .u8 121)), (3, 1, .c (.int .u8 112)), (4, 1, .c (.int .u8 116)), (5, 1, .c (.int .u8 111)), (6, 1, .c (.int .u8 103)), (7, 1, .c (.int .u8 114)), (8, 1, .c (.int .u8 97)), (9, 1, .c (.int .u8 112)), (10, 1, .c (.int .u8 104)), (11, 1, .c (.int .u8 105)), (12, 1, .c (.int .u8 99)), (13, 1, .c (.int .u8 32)), (14, 1, .c (.int .u8 70)), (15, 1, .c (.int .u8 111)), (16, 1, .c (.int .u8 114)), (17, 1, .c (.int .u8 117)), (18, 1, .c (.int .u8 109)), (19, 1, .c (.int .u8 32)), (20, 1, .c (.int .u8 82)), (21, 1, .c (.int .u8 101)), (22, 1, .c (.int .u8 115)), (23, 1, .c (.int .u8 101)), (24, 1, .c (.int .u8 97)), (25, 1, .c (.int .u8 114)), (26, 1, .c (.int .u8 99)), (27, 1, .c (.int .u8 104)), (28, 1, .c (.int .u8 32)), (29, 1, .c (.int .u8 71)), (30, 1, .c (.int .u8 114)), (31, 1, .c (.int .u8 111)), (32, 1, .c (.int .u8 117)), (33, 1, .c (.int .u8 112))], none⟩,
   ⟨(some 4), .mark (.t 3), none⟩,
   ⟨(some 5), .bslice 1 1 ([.slice none 0 0]) [(0, 1, .t 4)], none⟩,
   ⟨(some 6), .call 38 [.t 2, .t 5], none⟩,
   ⟨(some 1), .alloc (List.replicate 16 (.int .u8 0)), none⟩,
   ⟨none, .store 16 (.t 1) (.t 6), none⟩] [1])
 ir_bandboxlaw5_awake_7)
def ir_bandboxlaw5_awake : AFunc := ⟨0, 10, [.tmp 0],
 (.seq (.ops [
   ⟨(some 0), .mv (.c (.bool false)), none⟩] [])
 ir_bandboxlaw5_awake_2)⟩

def h_poly_Tag : Hint := [(0, [1, 2, 4], []), (1, [1, 2, 4, 5], []), (2, [1, 2, 4, 6], [(0, 0), (1, 0), (2, 1), (3, 0), (4, 0), (5, 0), (6, 0)]), (3, [1, 2, 4, 6, 7], []), (4, [2, 4, 6, 7, 8], []), (5, [2, 4, 6, 7, 8, 25], []), (6, [2, 4, 6, 7, 8, 9], []), (7, [2, 4, 6, 7, 8, 9, 10], []), (8, [2, 4, 6, 7, 8, 9, 10], []), (9, [2, 4, 6, 7, 8, 9], [(1, 0), (2, 0), (3, 0), (4, 1), (5, 1), (6, 0), (0, 2), (7, 2), (8, 2), (9, 2), (10, 2), (11, 0), (12, 0), (13, 3), (14, 0), (15, 0)]), (10, [2, 4, 6, 7, 8], []), (11, [4, 11], [(0, 0), (1, 0), (2, 1), (3, 0), (4, 2), (5, 0), (6, 0), (7, 0), (8, 0), (9, 0)]), (12, [4], [(0, 0), (1, 0), (2, 0), (3, 1), (4, 1), (5, 0), (6, 0), (7, 0), (8, 0)])]
def ir_poly_Tag : AFunc := ⟨2, 73, [.cell 4 (some 16)],
 (.seq (.ops [
   ⟨(some 2), .box (.t 0), none⟩,
   ⟨(some 4), .alloc (List.replicate 16 (.int .u8 0)), none⟩] [1, 2, 4])
 (.seq (.ops [
   ⟨(some 12), .slArr 32 1 (.t 2) none (some (.c (.int .i64 16))) none, none⟩,
   ⟨(some 13), .arrOf 16 (.t 12), none⟩,
   ⟨(some 14), .load (some 16) (.t 13), none⟩,
   ⟨(some 15), .call 40 [.t 14], none⟩,
   ⟨(some 5), .alloc (List.replicate 16 (.int .u8 0)), none⟩,
   ⟨none, .store 16 (.t 5) (.t 15), none⟩] [1, 2, 4, 5])
 (.seq (.dops [
   ⟨0, (some 16), .slArr 16 1 (.t 5) none (some (.c (.int .i64 8))) none, none, 0⟩,
   ⟨1, (some 17), .call 63 [.t 16], none, 0⟩,
   ⟨2, (some 18), .slArr 16 1 (.t 5) (some (.c (.int .i64 8))) none none, none, 1⟩,
   ⟨3, (some 19), .call 63 [.t 18], none, 0⟩,
   ⟨4, (some 20), .build ([.int .u64 0, .int .u64 0]) [(0, 1, .t 17), (1, 1, .t 19)], none, 0⟩,
   ⟨5, (some 6), .alloc ([.int .u64 0, .int .u64 0]), none, 0⟩,
   ⟨6, none, .store 2 (.t 6) (.t 20), none, 0⟩] [1, 2, 4, 6])
 (.seq (.ops [
   ⟨(some 7), .alloc ([.int .u64 0, .int .u64 0, .int .u64 0]), none⟩] [1, 2, 4, 6, 7])
 (.seq (.seq (.ops [
   ⟨(some 21), .mv (.t 1), none⟩,
   ⟨(some 22), .call 64 [.t 21], none⟩,
   ⟨(some 8), .mv (.t 22), none⟩] [2, 4, 6, 7, 8])
 (.block 0
  (.loop
   (.seq (.seq (.ops [
     ⟨(some 23), .mv (.t 8), none⟩,
     ⟨(some 24), .lenS (.t 23), none⟩,
     ⟨(some 25), .bin .gtr (.t 24) (.c (.int .i64 0)), none⟩] [2, 4, 6, 7, 8, 25])
   (.cond (.t 25)
    .skip
    (.exit 0)))
   (.block 1
    (.seq (.ops [
      ⟨(some 26), .mv (.t 8), none⟩,
      ⟨(some 27), .lenS (.t 26), none⟩,
      ⟨(some 28), .mn (.t 27) (.c (.int .i64 16)), none⟩,
      ⟨(some 9), .mv (.t 28), none⟩] [2, 4, 6, 7, 8, 9])
    (.seq (.ops [
      ⟨(some 29), .mv (.t 8), none⟩,
      ⟨(some 30), .mv (.t 9), none⟩,
      ⟨(some 31), .slSl 1 (.t 29) none (some (.t 30)) none, none⟩,
      ⟨(some 32), .call 55 [.t 31], none⟩,
      ⟨(some 33), .bslice 1 1 ([.int .u8 0]) [(0, 1, .c (.int .u8 1))], none⟩,
      ⟨(some 34), .append 1 1 (.t 32) (.t 33), none⟩,
      ⟨(some 10), .mv (.t 34), none⟩] [2, 4, 6, 7, 8, 9, 10])
    (.seq (.ops [
      ⟨(some 35), .mv (.t 10), none⟩,
      ⟨(some 36), .mv (.t 9), none⟩,
      ⟨(some 37), .bin .sub (.c (.int .i64 32)) (.t 36), none⟩,
      ⟨(some 38), .appendZ 1 1 ([.int .u8 0]) (.t 35) (.t 37), none⟩,
      ⟨(some 10), .mv (.t 38), none⟩] [2, 4, 6, 7, 8, 9, 10])
    (.seq (.dops [
      ⟨1, (some 40), .mv (.t 10), none, 0⟩,
      ⟨2, (some 41), .slSl 1 (.t 40) none (some (.c (.int .i64 8))) none, none, 0⟩,
      ⟨3, (some 42), .call 63 [.t 41], none, 0⟩,
      ⟨4, (some 43), .mv (.t 10), none, 1⟩,
      ⟨5, (some 44), .slSl 1 (.t 43) (some (.c (.int .i64 8))) (some (.c (.int .i64 16))) none, none, 1⟩,
      ⟨6, (some 45), .call 63 [.t 44], none, 0⟩,
      ⟨0, (some 39), .load (some 3) (.t 7), none, 2⟩,
      ⟨7, (some 46), .mv (.t 10), none, 2⟩,
      ⟨8, (some 47), .iaddrS 1 (.t 46) (.c (.int .i64 16)), none, 2⟩,
      ⟨9, (some 48), .load none (.t 47), none, 2⟩,
      ⟨10, (some 49), .conv .u64 (.t 48), none, 2⟩,
      ⟨11, (some 50), .build ([.int .u64 0, .int .u64 0, .int .u64 0]) [(0, 1, .t 42), (1, 1, .t 45), (2, 1, .t 49)], none, 0⟩,
      ⟨12, (some 51), .call 65 [.t 39, .t 50], none, 0⟩,
      ⟨13, (some 52), .load (some 2) (.t 6), none, 3⟩,
      ⟨14, (some 53), .call 66 [.t 51, .t 52], none, 0⟩,
      ⟨15, none, .store 3 (.t 7) (.t 53), none, 0⟩] [2, 4, 6, 7, 8, 9])
    (.ops [
      ⟨(some 54), .mv (.t 8), none⟩,
      ⟨(some 55), .mv (.t 9), none⟩,
      ⟨(some 56), .slSl 1 (.t 54) (some (.t 55)) none none, none⟩,
      ⟨(some 8), .mv (.t 56), none⟩] [2, 4, 6, 7, 8]))))))))))
 (.seq (.dops [
   ⟨0, (some 57), .load (some 3) (.t 7), none, 0⟩,
   ⟨1, (some 58), .call 67 [.t 57], none, 0⟩,
   ⟨2, (some 59), .slArr 32 1 (.t 2) (some (.c (.int .i64 16))) (some (.c (.int .i64 24))) none, none, 1⟩,
   ⟨3, (some 60), .call 63 [.t 59], none, 0⟩,
   ⟨4, (some 61), .slArr 32 1 (.t 2) (some (.c (.int .i64 24))) none none, none, 2⟩,
   ⟨5, (some 62), .call 63 [.t 61], none, 0⟩,
   ⟨6, (some 63), .build ([.int .u64 0, .int .u64 0, .int .u64 0]) [(0, 1, .t 60), (1, 1, .t 62)], none, 0⟩,
   ⟨7, (some 64), .call 65 [.t 58, .t 63], none, 0⟩,
   ⟨8, (some 11), .alloc ([.int .u64 0, .int .u64 0, .int .u64 0]), none, 0⟩,
   ⟨9, none, .store 3 (.t 11) (.t 64), none, 0⟩] [4, 11])
 (.seq (.dops [
   ⟨0, (some 65), .iaddrA 3 1 (.t 11) (.c (.int .i64 0)), none, 0⟩,
   ⟨1, (some 66), .load none (.t 65), none, 0⟩,
   ⟨2, (some 67), .call 68 [.c (.slice none 0 0), .t 66, .c (.int .i64 8)], none, 0⟩,
   ⟨3, (some 68), .iaddrA 3 1 (.t 11) (.c (.int .i64 1)), none, 1⟩,
   ⟨4, (some 69), .load none (.t 68), none, 1⟩,
   ⟨5, (some 70), .call 68 [.t 67, .t 69, .c (.int .i64 8)], none, 0⟩,
   ⟨6, (some 71), .arrOf 16 (.t 70), none, 0⟩,
   ⟨7, (some 72), .load (some 16) (.t 71), none, 0⟩,
   ⟨8, none, .store 16 (.t 4) (.t 72), none, 0⟩] [4])
 .ret)))))))⟩

def h_bandboxlaw5_word : Hint := [(0, [0, 2], []), (1, [2, 3], []), (2, [2, 3, 5], []), (3, [2, 5], []), (4, [2], [])]
def ir_bandboxlaw5_word : AFunc := ⟨1, 16, [.cell 2 (some 32)],
 (.seq (.ops [
   ⟨(some 2), .alloc (List.replicate 32 (.int .u8 0)), none⟩] [0, 2])
 (.seq (.ops [
   ⟨(some 7), .mv (.t 0), none⟩,
   ⟨(some 8), .call 69 [.t 7], none⟩,
   ⟨(some 6), .mv (.t 8), none⟩,
   ⟨(some 9), .ext (.t 6) 0, none⟩,
   ⟨(some 10), .ext (.t 6) 1, none⟩,
   ⟨(some 3), .mv (.t 9), none⟩,
   ⟨(some 4), .mv (.t 10), none⟩] [2, 3])
 (.seq (.ops [
   ⟨(some 11), .build (List.replicate 32 (.int .u8 0)) [], none⟩,
   ⟨(some 5), .alloc (List.replicate 32 (.int .u8 0)), none⟩,
   ⟨none, .store 32 (.t 5) (.t 11), none⟩] [2, 3, 5])
 (.seq (.ops [
   ⟨(some 12), .slArr 32 1 (.t 5) none none none, none⟩,
   ⟨(some 13), .mv (.t 3), none⟩,
   ⟨(some 14), .copy 1 (.t 12) (.t 13), none⟩] [2, 5])
 (.seq (.ops [
   ⟨(some 15), .load (some 32) (.t 5), none⟩,
   ⟨none, .store 32 (.t 2) (.t 15), none⟩] [2])
 .ret)))))⟩

def h_poly_Clamp : Hint := [(0, [1, 2], []), (1, [1, 2, 7, 8, 9], []), (2, [1, 2, 7, 8, 9, 10], []), (3, [1, 2, 4, 7, 8, 9], []), (4, [1, 2, 7, 8, 9], []), (5, [1, 2, 7, 8, 9], []), (6, [1, 2, 19, 20, 21], []), (7, [1, 2, 19, 20, 21, 22], []), (8, [1, 2, 6, 19, 20, 21], []), (9, [1, 2, 19, 20, 21], []), (10, [1, 2, 19, 20, 21], []), (11, [2], [])]
def ir_poly_Clamp : AFunc := ⟨1, 32, [.cell 2 (some 16)],
 (.seq (.ops [
   ⟨(some 1), .box (.t 0), none⟩,
   ⟨(some 2), .alloc (List.replicate 16 (.int .u8 0)), none⟩] [1, 2])
 (.seq (.seq (.ops [
   ⟨(some 7), .bslice 4 1 ([.int .i64 0]) [(0, 1, .c (.int .i64 3)), (1, 1, .c (.int .i64 7)), (2, 1, .c (.int .i64 11)), (3, 1, .c (.int .i64 15))], none⟩,
   ⟨(some 8), .lenS (.t 7), none⟩,
   ⟨(some 9), .mv (.c (.int .i64 0)), none⟩] [1, 2, 7, 8, 9])
 (.block 0
  (.loop
   (.seq (.ops [
     ⟨(some 10), .bin .lss (.t 9) (.t 8), none⟩] [1, 2, 7, 8, 9, 10])
   (.seq (.cond (.t 10)
    .skip
    (.exit 0))
   (.seq (.block 1
    (.seq (.ops [
      ⟨(some 11), .iaddrS 1 (.t 7) (.t 9), none⟩,
      ⟨(some 12), .load none (.t 11), none⟩,
      ⟨(some 4), .mv (.t 12), none⟩] [1, 2, 4, 7, 8, 9])
    (.ops [
      ⟨(some 13), .mv (.t 4), none⟩,
      ⟨(some 14), .iaddrA 16 1 (.t 1) (.t 13), none⟩,
      ⟨(some 15), .load none (.t 14), none⟩,
      ⟨(some 16), .bin .and (.t 15) (.c (.int .u8 15)), none⟩,
      ⟨(some 17), .iaddrA 16 1 (.t 1) (.t 13), none⟩,
      ⟨none, .store 1 (.t 17) (.t 16), none⟩] [1, 2, 7, 8, 9])))
   (.ops [
     ⟨(some 18), .bin .add (.t 9) (.c (.int .i64 1)), none⟩,
     ⟨(some 9), .mv (.t 18), none⟩] [1, 2, 7, 8, 9])))))))
 (.seq (.seq (.ops [
   ⟨(some 19), .bslice 3 1 ([.int .i64 0]) [(0, 1, .c (.int .i64 4)), (1, 1, .c (.int .i64 8)), (2, 1, .c (.int .i64 12))], none⟩,
   ⟨(some 20), .lenS (.t 19), none⟩,
   ⟨(some 21), .mv (.c (.int .i64 0)), none⟩] [1, 2, 19, 20, 21])
 (.block 2
  (.loop
   (.seq (.ops [
     ⟨(some 22), .bin .lss (.t 21) (.t 20), none⟩] [1, 2, 19, 20, 21, 22])
   (.seq (.cond (.t 22)
    .skip
    (.exit 2))
   (.seq (.block 3
    (.seq (.ops [
      ⟨(some 23), .iaddrS 1 (.t 19) (.t 21), none⟩,
      ⟨(some 24), .load none (.t 23), none⟩,
      ⟨(some 6), .mv (.t 24), none⟩] [1, 2, 6, 19, 20, 21])
    (.ops [
      ⟨(some 25), .mv (.t 6), none⟩,
      ⟨(some 26), .iaddrA 16 1 (.t 1) (.t 25), none⟩,
      ⟨(some 27), .load none (.t 26), none⟩,
      ⟨(some 28), .bin .and (.t 27) (.c (.int .u8 252)), none⟩,
      ⟨(some 29), .iaddrA 16 1 (.t 1) (.t 25), none⟩,
      ⟨none, .store 1 (.t 29) (.t 28), none⟩] [1, 2, 19, 20, 21])))
   (.ops [
     ⟨(some 30), .bin .add (.t 21) (.c (.int .i64 1)), none⟩,
     ⟨(some 21), .mv (.t 30), none⟩] [1, 2, 19, 20, 21])))))))
 (.seq (.ops [
   ⟨(some 31), .load (some 16) (.t 1), none⟩,
   ⟨none, .store 16 (.t 2) (.t 31), none⟩] [2])
 .ret))))⟩

def h_bandboxref4_Tag : Hint := [(0, [1, 2, 4], []), (1, [1, 2, 4, 5], []), (2, [1, 2, 4, 5], [(0, 0), (1, 0), (2, 0)]), (3, [1, 2, 4, 6], []), (4, [1, 2, 4, 6, 7], []), (5, [1, 2, 4, 6, 7, 8], []), (6, [1, 2, 4, 6, 7, 8, 25], []), (7, [1, 2, 4, 6, 7, 8], []), (8, [1, 2, 4, 6, 7, 8], []), (9, [1, 2, 4, 7, 9], []), (10, [1, 2, 4, 7, 9, 10], []), (11, [1, 2, 4, 7, 9, 10, 37], []), (12, [1, 2, 4, 7, 9, 10], []), (13, [1, 2, 4, 7, 9, 10, 11], []), (14, [1, 2, 4, 7, 9, 10, 11, 12], []), (15, [1, 2, 4, 7, 9, 10, 11, 12, 45], []), (16, [1, 2, 4, 7, 9, 10, 11, 12], []), (17, [1, 2, 4, 7, 9, 10, 11, 12, 13], []), (18, [1, 2, 4, 7, 9, 10, 11, 12, 13, 48], []), (19, [1, 2, 4, 7, 9, 10, 11, 12, 13], []), (20, [1, 2, 4, 7, 9, 10, 11, 12, 13], []), (21, [1, 2, 4, 7, 9, 10, 11], []), (22, [1, 2, 4, 7, 9, 10], [(0, 0), (1, 0), (2, 0), (3, 1), (4, 0), (5, 0)]), (23, [2, 4, 9], []), (24, [2, 4, 9, 14], []), (25, [2, 4, 9, 14, 15], []), (26, [2, 4, 9, 14, 15, 70], []), (27, [2, 4, 9, 14, 15], []), (28, [2, 4, 9, 14, 15], []), (29, [4, 9], []), (30, [4, 9, 16], []), (31, [4, 9, 16, 17], []), (32, [4, 9, 16, 17, 85], []), (33, [4, 9, 16, 17], []), (34, [4, 9, 16, 17], []), (35, [4], [])]
def ir_bandboxref4_Tag_83 : ACode := (.seq (.ops [
   ⟨(some 83), .build (List.replicate 16 (.int .u8 0)) [], none⟩,
   ⟨(some 16), .alloc (List.replicate 16 (.int .u8 0)), none⟩,
   ⟨none, .store 16 (.t 16) (.t 83), none⟩] [4, 9, 16])
 (.seq (.seq (.ops [
   ⟨(some 17), .mv (.c (.int .i64 0)), none⟩] [4, 9, 16, 17])
 (.block 8 (.loop (.seq (.seq (.ops [
     ⟨(some 84), .mv (.t 17), none⟩,
     ⟨(some 85), .bin .lss (.t 84) (.c (.int .i64 16)), none⟩] [4, 9, 16, 17, 85])
 (.cond (.t 85)
 .skip
 (.exit 8)))
 (.seq (.block 9 (.ops [
      ⟨(some 88), .mv (.t 17), none⟩,
      ⟨(some 89), .mv (.t 17), none⟩,
      ⟨(some 90), .iaddrA 17 1 (.t 9) (.t 89), none⟩,
      ⟨(some 91), .load none (.t 90), none⟩,
      ⟨(some 92), .conv .u8 (.t 91), none⟩,
      ⟨(some 93), .iaddrA 16 1 (.t 16) (.t 88), none⟩,
      ⟨none, .store 1 (.t 93) (.t 92), none⟩] [4, 9, 16, 17]))
 (.ops [
     ⟨(some 86), .mv (.t 17), none⟩,
     ⟨(some 87), .bin .add (.t 86) (.c (.int .i64 1)), none⟩,
     ⟨(some 17), .mv (.t 87), none⟩] [4, 9, 16, 17]))))))
 (.seq (.ops [
   ⟨(some 94), .load (some 16) (.t 16), none⟩,
   ⟨none, .store 16 (.t 4) (.t 94), none⟩] [4])
 .ret)))
def ir_bandboxref4_Tag_14 : ACode := (.seq (.ops [
   ⟨(some 14), .alloc (List.replicate 17 (.int .u32 0)), none⟩] [2, 4, 9, 14])
 (.seq (.seq (.ops [
   ⟨(some 15), .mv (.c (.int .i64 0)), none⟩] [2, 4, 9, 14, 15])
 (.block 6 (.loop (.seq (.seq (.ops [
     ⟨(some 69), .mv (.t 15), none⟩,
     ⟨(some 70), .bin .lss (.t 69) (.c (.int .i64 16)), none⟩] [2, 4, 9, 14, 15, 70])
 (.cond (.t 70)
 .skip
 (.exit 6)))
 (.seq (.block 7 (.ops [
      ⟨(some 73), .mv (.t 15), none⟩,
      ⟨(some 74), .mv (.t 15), none⟩,
      ⟨(some 75), .bin .add (.c (.int .i64 16)) (.t 74), none⟩,
      ⟨(some 76), .iaddrA 32 1 (.t 2) (.t 75), none⟩,
      ⟨(some 77), .load none (.t 76), none⟩,
      ⟨(some 78), .conv .u32 (.t 77), none⟩,
      ⟨(some 79), .iaddrA 17 1 (.t 14) (.t 73), none⟩,
      ⟨none, .store 1 (.t 79) (.t 78), none⟩] [2, 4, 9, 14, 15]))
 (.ops [
     ⟨(some 71), .mv (.t 15), none⟩,
     ⟨(some 72), .bin .add (.t 71) (.c (.int .i64 1)), none⟩,
     ⟨(some 15), .mv (.t 72), none⟩] [2, 4, 9, 14, 15]))))))
 (.seq (.ops [
   ⟨(some 80), .load (some 17) (.t 9), none⟩,
   ⟨(some 81), .load (some 17) (.t 14), none⟩,
   ⟨(some 82), .call 71 [.t 80, .t 81], none⟩,
   ⟨none, .store 17 (.t 9) (.t 82), none⟩] [4, 9])
 ir_bandboxref4_Tag_83)))
def ir_bandboxref4_Tag_60 : ACode := (.seq (.ops [
      ⟨(some 60), .mv (.t 12), none⟩,
      ⟨(some 61), .iaddrA 17 1 (.t 11) (.t 60), none⟩,
      ⟨none, .store 1 (.t 61) (.c (.int .u32 1)), none⟩] [1, 2, 4, 7, 9, 10, 11])
 (.dops [
      ⟨0, (some 62), .load (some 17) (.t 9), none, 0⟩,
      ⟨1, (some 63), .load (some 17) (.t 11), none, 0⟩,
      ⟨2, (some 64), .call 71 [.t 62, .t 63], none, 0⟩,
      ⟨3, (some 65), .load (some 17) (.t 7), none, 1⟩,
      ⟨4, (some 66), .call 70 [.t 64, .t 65], none, 0⟩,
      ⟨5, none, .store 17 (.t 9) (.t 66), none, 0⟩] [1, 2, 4, 7, 9, 10]))
def ir_bandboxref4_Tag_13 : ACode := (.seq (.seq (.ops [
      ⟨(some 13), .mv (.c (.int .i64 0)), none⟩] [1, 2, 4, 7, 9, 10, 11, 12, 13])
 (.block 4 (.loop (.seq (.seq (.ops [
        ⟨(some 46), .mv (.t 13), none⟩,
        ⟨(some 47), .mv (.t 12), none⟩,
        ⟨(some 48), .bin .lss (.t 46) (.t 47), none⟩] [1, 2, 4, 7, 9, 10, 11, 12, 13, 48])
 (.cond (.t 48)
 .skip
 (.exit 4)))
 (.seq (.block 5 (.ops [
         ⟨(some 51), .mv (.t 13), none⟩,
         ⟨(some 52), .mv (.t 1), none⟩,
         ⟨(some 53), .mv (.t 10), none⟩,
         ⟨(some 54), .mv (.t 13), none⟩,
         ⟨(some 55), .bin .add (.t 53) (.t 54), none⟩,
         ⟨(some 56), .iaddrS 1 (.t 52) (.t 55), none⟩,
         ⟨(some 57), .load none (.t 56), none⟩,
         ⟨(some 58), .conv .u32 (.t 57), none⟩,
         ⟨(some 59), .iaddrA 17 1 (.t 11) (.t 51), none⟩,
         ⟨none, .store 1 (.t 59) (.t 58), none⟩] [1, 2, 4, 7, 9, 10, 11, 12, 13]))
 (.ops [
        ⟨(some 49), .mv (.t 13), none⟩,
        ⟨(some 50), .bin .add (.t 49) (.c (.int .i64 1)), none⟩,
        ⟨(some 13), .mv (.t 50), none⟩] [1, 2, 4, 7, 9, 10, 11, 12, 13]))))))
 ir_bandboxref4_Tag_60)
def ir_bandboxref4_Tag_10 : ACode := (.seq (.seq (.ops [
   ⟨(some 10), .mv (.c (.int .i64 0)), none⟩] [1, 2, 4, 7, 9, 10])
 (.block 2 (.loop (.seq (.seq (.ops [
     ⟨(some 34), .mv (.t 10), none⟩,
     ⟨(some 35), .mv (.t 1), none⟩,
     ⟨(some 36), .lenS (.t 35), none⟩,
     ⟨(some 37), .bin .lss (.t 34) (.t 36), none⟩] [1, 2, 4, 7, 9, 10, 37])
 (.cond (.t 37)
 .skip
 (.exit 2)))
 (.seq (.block 3 (.seq (.ops [
      ⟨(some 11), .alloc (List.replicate 17 (.int .u32 0)), none⟩] [1, 2, 4, 7, 9, 10, 11])
 (.seq (.ops [
      ⟨(some 40), .mv (.t 1), none⟩,
      ⟨(some 41), .lenS (.t 40), none⟩,
      ⟨(some 42), .mv (.t 10), none⟩,
      ⟨(some 43), .bin .sub (.t 41) (.t 42), none⟩,
      ⟨(some 12), .mv (.t 43), none⟩] [1, 2, 4, 7, 9, 10, 11, 12])
 (.seq (.seq (.ops [
      ⟨(some 44), .mv (.t 12), none⟩,
      ⟨(some 45), .bin .gtr (.t 44) (.c (.int .i64 16)), none⟩] [1, 2, 4, 7, 9, 10, 11, 12, 45])
 (.cond (.t 45)
 (.ops [
       ⟨(some 12), .mv (.c (.int .i64 16)), none⟩] [1, 2, 4, 7, 9, 10, 11, 12])
 .skip))
 ir_bandboxref4_Tag_13))))
 (.ops [
     ⟨(some 38), .mv (.t 10), none⟩,
     ⟨(some 39), .bin .add (.t 38) (.c (.int .i64 16)), none⟩,
     ⟨(some 10), .mv (.t 39), none⟩] [1, 2, 4, 7, 9, 10]))))))
 (.seq (.ops [
   ⟨(some 67), .load (some 17) (.t 9), none⟩,
   ⟨(some 68), .call 72 [.t 67], none⟩,
   ⟨none, .store 17 (.t 9) (.t 68), none⟩] [2, 4, 9])
 ir_bandboxref4_Tag_14))
def ir_bandboxref4_Tag_22 : ACode := (.seq (.ops [
   ⟨(some 22), .load (some 16) (.t 5), none⟩,
   ⟨(some 23), .call 43 [.t 22], none⟩,
   ⟨(some 6), .alloc (List.replicate 16 (.int .u8 0)), none⟩,
   ⟨none, .store 16 (.t 6) (.t 23), none⟩] [1, 2, 4, 6])
 (.seq (.ops [
   ⟨(some 7), .alloc (List.replicate 17 (.int .u32 0)), none⟩] [1, 2, 4, 6, 7])
 (.seq (.seq (.ops [
   ⟨(some 8), .mv (.c (.int .i64 0)), none⟩] [1, 2, 4, 6, 7, 8])
 (.block 0 (.loop (.seq (.seq (.ops [
     ⟨(some 24), .mv (.t 8), none⟩,
     ⟨(some 25), .bin .lss (.t 24) (.c (.int .i64 16)), none⟩] [1, 2, 4, 6, 7, 8, 25])
 (.cond (.t 25)
 .skip
 (.exit 0)))
 (.seq (.block 1 (.ops [
      ⟨(some 28), .mv (.t 8), none⟩,
      ⟨(some 29), .mv (.t 8), none⟩,
      ⟨(some 30), .iaddrA 16 1 (.t 6) (.t 29), none⟩,
      ⟨(some 31), .load none (.t 30), none⟩,
      ⟨(some 32), .conv .u32 (.t 31), none⟩,
      ⟨(some 33), .iaddrA 17 1 (.t 7) (.t 28), none⟩,
      ⟨none, .store 1 (.t 33) (.t 32), none⟩] [1, 2, 4, 6, 7, 8]))
 (.ops [
     ⟨(some 26), .mv (.t 8), none⟩,
     ⟨(some 27), .bin .add (.t 26) (.c (.int .i64 1)), none⟩,
     ⟨(some 8), .mv (.t 27), none⟩] [1, 2, 4, 6, 7, 8]))))))
 (.seq (.ops [
   ⟨(some 9), .alloc (List.replicate 17 (.int .u32 0)), none⟩] [1, 2, 4, 7, 9])
 ir_bandboxref4_Tag_10))))
def ir_bandboxref4_Tag : AFunc := ⟨2, 95, [.cell 4 (some 16)],
 (.seq (.ops [
   ⟨(some 2), .box (.t 0), none⟩,
   ⟨(some 4), .alloc (List.replicate 16 (.int .u8 0)), none⟩] [1, 2, 4])
 (.seq (.ops [
   ⟨(some 18), .build (List.replicate 16 (.int .u8 0)) [], none⟩,
   ⟨(some 5), .alloc (List.replicate 16 (.int .u8 0)), none⟩,
   ⟨none, .store 16 (.t 5) (.t 18), none⟩] [1, 2, 4, 5])
 (.seq (.dops [
   ⟨0, (some 19), .slArr 16 1 (.t 5) none none none, none, 0⟩,
   ⟨1, (some 20), .slArr 32 1 (.t 2) none (some (.c (.int .i64 16))) none, none, 0⟩,
   ⟨2, (some 21), .copy 1 (.t 19) (.t 20), none, 0⟩] [1, 2, 4, 5])
 ir_bandboxref4_Tag_22)))⟩

def h_bandboxref1_Join : Hint := [(0, [0], []), (1, [0, 3], []), (2, [0, 3, 4], []), (3, [0, 3, 4, 8], []), (4, [0, 3, 4], []), (5, [0, 3, 4], []), (6, [2], [])]
def ir_bandboxref1_Join : AFunc := ⟨1, 18, [.tmp 2],
 (.seq (.ops [
   ⟨(some 2), .mv (.c (.slice none 0 0)), none⟩] [0])
 (.seq (.ops [
   ⟨(some 3), .mv (.c (.slice none 0 0)), none⟩] [0, 3])
 (.seq (.seq (.ops [
   ⟨(some 4), .mv (.c (.int .i64 0)), none⟩] [0, 3, 4])
 (.block 0 (.loop (.seq (.seq (.ops [
     ⟨(some 5), .mv (.t 4), none⟩,
     ⟨(some 6), .mv (.t 0), none⟩,
     ⟨(some 7), .lenS (.t 6), none⟩,
     ⟨(some 8), .bin .lss (.t 5) (.t 7), none⟩] [0, 3, 4, 8])
 (.cond (.t 8)
 .skip
 (.exit 0)))
 (.seq (.block 1 (.ops [
      ⟨(some 11), .mv (.t 3), none⟩,
      ⟨(some 12), .mv (.t 0), none⟩,
      ⟨(some 13), .mv (.t 4), none⟩,
      ⟨(some 14), .iaddrS 1 (.t 12) (.t 13), none⟩,
      ⟨(some 15), .load none (.t 14), none⟩,
      ⟨(some 16), .append 1 1 (.t 11) (.t 15), none⟩,
      ⟨(some 3), .mv (.t 16), none⟩] [0, 3, 4]))
 (.ops [
     ⟨(some 9), .mv (.t 4), none⟩,
     ⟨(some 10), .bin .add (.t 9) (.c (.int .i64 1)), none⟩,
     ⟨(some 4), .mv (.t 10), none⟩] [0, 3, 4]))))))
 (.seq (.ops [
   ⟨(some 17), .mv (.t 3), none⟩,
   ⟨(some 2), .mv (.t 17), none⟩] [2])
 .ret))))⟩

def h_bandboxref4_Clamp : Hint := [(0, [1, 2], []), (1, [1, 2, 3], []), (2, [1, 2, 3, 6], []), (3, [1, 2, 3], []), (4, [1, 2, 3], []), (5, [1, 2, 4], []), (6, [1, 2, 4, 16], []), (7, [1, 2, 4], []), (8, [1, 2, 4], []), (9, [2], [])]
def ir_bandboxref4_Clamp_4 : ACode := (.seq (.seq (.ops [
   ⟨(some 4), .mv (.c (.int .i64 4)), none⟩] [1, 2, 4])
 (.block 2 (.loop (.seq (.seq (.ops [
     ⟨(some 15), .mv (.t 4), none⟩,
     ⟨(some 16), .bin .lss (.t 15) (.c (.int .i64 16)), none⟩] [1, 2, 4, 16])
 (.cond (.t 16)
 .skip
 (.exit 2)))
 (.seq (.block 3 (.ops [
      ⟨(some 19), .mv (.t 4), none⟩,
      ⟨(some 20), .mv (.t 4), none⟩,
      ⟨(some 21), .iaddrA 16 1 (.t 1) (.t 20), none⟩,
      ⟨(some 22), .load none (.t 21), none⟩,
      ⟨(some 23), .bin .and (.t 22) (.c (.int .u8 252)), none⟩,
      ⟨(some 24), .iaddrA 16 1 (.t 1) (.t 19), none⟩,
      ⟨none, .store 1 (.t 24) (.t 23), none⟩] [1, 2, 4]))
 (.ops [
     ⟨(some 17), .mv (.t 4), none⟩,
     ⟨(some 18), .bin .add (.t 17) (.c (.int .i64 4)), none⟩,
     ⟨(some 4), .mv (.t 18), none⟩] [1, 2, 4]))))))
 (.seq (.ops [
   ⟨(some 25), .load (some 16) (.t 1), none⟩,
   ⟨none, .store 16 (.t 2) (.t 25), none⟩] [2])
 .ret))
def ir_bandboxref4_Clamp : AFunc := ⟨1, 26, [.cell 2 (some 16)],
 (.seq (.ops [
   ⟨(some 1), .box (.t 0), none⟩,
   ⟨(some 2), .alloc (List.replicate 16 (.int .u8 0)), none⟩] [1, 2])
 (.seq (.seq (.ops [
   ⟨(some 3), .mv (.c (.int .i64 3)), none⟩] [1, 2, 3])
 (.block 0 (.loop (.seq (.seq (.ops [
     ⟨(some 5), .mv (.t 3), none⟩,
     ⟨(some 6), .bin .lss (.t 5) (.c (.int .i64 16)), none⟩] [1, 2, 3, 6])
 (.cond (.t 6)
 .skip
 (.exit 0)))
 (.seq (.block 1 (.ops [
      ⟨(some 9), .mv (.t 3), none⟩,
      ⟨(some 10), .mv (.t 3), none⟩,
      ⟨(some 11), .iaddrA 16 1 (.t 1) (.t 10), none⟩,
      ⟨(some 12), .load none (.t 11), none⟩,
      ⟨(some 13), .bin .and (.t 12) (.c (.int .u8 15)), none⟩,
      ⟨(some 14), .iaddrA 16 1 (.t 1) (.t 9), none⟩,
      ⟨none, .store 1 (.t 14) (.t 13), none⟩] [1, 2, 3]))
 (.ops [
     ⟨(some 7), .mv (.t 3), none⟩,
     ⟨(some 8), .bin .add (.t 7) (.c (.int .i64 4)), none⟩,
     ⟨(some 3), .mv (.t 8), none⟩] [1, 2, 3]))))))
 ir_bandboxref4_Clamp_4))⟩

def h_slices_Clone_byte_byte : Hint := [(0, [0], []), (1, [0, 4], []), (2, [2], []), (3, [2], [])]
def ir_slices_Clone_byte_byte : AFunc := ⟨1, 8, [.tmp 2],
 (.seq (.ops [
   ⟨(some 2), .mv (.c (.slice none 0 0)), none⟩] [0])
 (.seq (.seq (.ops [
   ⟨(some 3), .mv (.t 0), none⟩,
   ⟨(some 4), .eqv .slice false (.t 3) (.c (.slice none 0 0)), none⟩] [0, 4])
 (.cond (.t 4)
  (.seq (.ops [
    ⟨(some 2), .mv (.c (.slice none 0 0)), none⟩] [2])
  .ret)
  .skip))
 (.seq (.ops [
   ⟨(some 5), .bslice 0 1 ([.int .u8 0]) [], none⟩,
   ⟨(some 6), .mv (.t 0), none⟩,
   ⟨(some 7), .append 1 1 (.t 5) (.t 6), none⟩,
   ⟨(some 2), .mv (.t 7), none⟩] [2])
 .ret)))⟩

def h_bandboxref1_Hex : Hint := [(0, [0], []), (1, [0, 3], []), (2, [0, 3, 4], []), (3, [0, 3, 4, 12], []), (4, [0, 3, 4], []), (5, [0, 3, 4], [(0, 0), (1, 0), (2, 0), (3, 0), (4, 0), (5, 0), (6, 0), (7, 0), (8, 0), (9, 0), (10, 0), (11, 0), (12, 0), (13, 0), (14, 0), (15, 0)]), (6, [2], [])]
def ir_bandboxref1_Hex_15 : ACode := (.seq (.block 1 (.dops [
      ⟨0, (some 15), .mv (.t 3), none, 0⟩,
      ⟨1, (some 16), .mv (.t 0), none, 0⟩,
      ⟨2, (some 17), .mv (.t 4), none, 0⟩,
      ⟨3, (some 18), .iaddrS 1 (.t 16) (.t 17), none, 0⟩,
      ⟨4, (some 19), .load none (.t 18), none, 0⟩,
      ⟨5, (some 20), .bin .shr (.t 19) (.c (.int .u64 4)), none, 0⟩,
      ⟨6, (some 21), .idxS (.c (.string ⟨#[48, 49, 50, 51, 52, 53, 54, 55, 56, 57, 97, 98, 99, 100, 101, 102]⟩)) (.t 20), none, 0⟩,
      ⟨7, (some 22), .mv (.t 0), none, 0⟩,
      ⟨8, (some 23), .mv (.t 4), none, 0⟩,
      ⟨9, (some 24), .iaddrS 1 (.t 22) (.t 23), none, 0⟩,
      ⟨10, (some 25), .load none (.t 24), none, 0⟩,
      ⟨11, (some 26), .bin .and (.t 25) (.c (.int .u8 15)), none, 0⟩,
      ⟨12, (some 27), .idxS (.c (.string ⟨#[48, 49, 50, 51, 52, 53, 54, 55, 56, 57, 97, 98, 99, 100, 101, 102]⟩)) (.t 26), none, 0⟩,
      ⟨13, (some 28), .bslice 2 1 ([.int .u8 0]) [(0, 1, .t 21), (1, 1, .t 27)], none, 0⟩,
      ⟨14, (some 29), .append 1 1 (.t 15) (.t 28), none, 0⟩,
      ⟨15, (some 3), .mv (.t 29), none, 0⟩] [0, 3, 4]))
 (.ops [
     ⟨(some 13), .mv (.t 4), none⟩,
     ⟨(some 14), .bin .add (.t 13) (.c (.int .i64 1)), none⟩,
     ⟨(some 4), .mv (.t 14), none⟩] [0, 3, 4]))
def ir_bandboxref1_Hex : AFunc := ⟨1, 32, [.tmp 2],
 (.seq (.ops [
   ⟨(some 2), .mv (.c (.string .empty)), none⟩] [0])
 (.seq (.ops [
   ⟨(some 5), .mv (.t 0), none⟩,
   ⟨(some 6), .lenS (.t 5), none⟩,
   ⟨(some 7), .bin .mul (.c (.int .i64 2)) (.t 6), none⟩,
   ⟨(some 8), .mslice 1 ([.int .u8 0]) (.c (.int .i64 0)) (.t 7), none⟩,
   ⟨(some 3), .mv (.t 8), none⟩] [0, 3])
 (.seq (.seq (.ops [
   ⟨(some 4), .mv (.c (.int .i64 0)), none⟩] [0, 3, 4])
 (.block 0 (.loop (.seq (.seq (.ops [
     ⟨(some 9), .mv (.t 4), none⟩,
     ⟨(some 10), .mv (.t 0), none⟩,
     ⟨(some 11), .lenS (.t 10), none⟩,
     ⟨(some 12), .bin .lss (.t 9) (.t 11), none⟩] [0, 3, 4, 12])
 (.cond (.t 12)
 .skip
 (.exit 0)))
 ir_bandboxref1_Hex_15))))
 (.seq (.ops [
   ⟨(some 30), .mv (.t 3), none⟩,
   ⟨(some 31), .strOf (.t 30), none⟩,
   ⟨(some 2), .mv (.t 31), none⟩] [2])
 .ret))))⟩

def h_poly_word : Hint := [(0, [0], []), (1, [3], []), (2, [2], [])]
def ir_poly_word : AFunc := ⟨1, 11, [.tmp 2],
 (.seq (.ops [
   ⟨(some 2), .mv (.c (.int .u64 0)), none⟩] [0])
 (.seq (.ops [
   ⟨(some 6), .mv (.t 0), none⟩,
   ⟨(some 7), .call 79 [.t 6], none⟩,
   ⟨(some 5), .mv (.t 7), none⟩,
   ⟨(some 8), .ext (.t 5) 0, none⟩,
   ⟨(some 9), .ext (.t 5) 1, none⟩,
   ⟨(some 3), .mv (.t 8), none⟩,
   ⟨(some 4), .mv (.t 9), none⟩] [3])
 (.seq (.ops [
   ⟨(some 10), .mv (.t 3), none⟩,
   ⟨(some 2), .mv (.t 10), none⟩] [2])
 .ret)))⟩

def h_slices_Concat_byte_byte : Hint := [(0, [0], []), (1, [0, 3], []), (2, [0, 3, 9, 10, 11], []), (3, [0, 3, 9, 10, 11, 12], []), (4, [0, 3, 5, 9, 10, 11], []), (5, [0, 3, 9, 10, 11], []), (6, [0, 3, 9, 10, 11, 20], []), (7, [0, 3, 9, 10, 11], []), (8, [0, 3, 9, 10, 11], []), (9, [0, 6], []), (10, [6, 25, 26, 27], []), (11, [6, 25, 26, 27, 28], []), (12, [6, 8, 25, 26, 27], []), (13, [6, 25, 26, 27], []), (14, [6, 25, 26, 27], []), (15, [2], [])]
def ir_slices_Concat_byte_byte : AFunc := ⟨1, 36, [.tmp 2],
 (.seq (.ops [
   ⟨(some 2), .mv (.c (.slice none 0 0)), none⟩] [0])
 (.seq (.ops [
   ⟨(some 3), .mv (.c (.int .i64 0)), none⟩] [0, 3])
 (.seq (.seq (.ops [
   ⟨(some 9), .mv (.t 0), none⟩,
   ⟨(some 10), .lenS (.t 9), none⟩,
   ⟨(some 11), .mv (.c (.int .i64 0)), none⟩] [0, 3, 9, 10, 11])
 (.block 0
  (.loop
   (.seq (.ops [
     ⟨(some 12), .bin .lss (.t 11) (.t 10), none⟩] [0, 3, 9, 10, 11, 12])
   (.seq (.cond (.t 12)
    .skip
    (.exit 0))
   (.seq (.block 1
    (.seq (.ops [
      ⟨(some 13), .iaddrS 1 (.t 9) (.t 11), none⟩,
      ⟨(some 14), .load none (.t 13), none⟩,
      ⟨(some 5), .mv (.t 14), none⟩] [0, 3, 5, 9, 10, 11])
    (.seq (.ops [
      ⟨(some 15), .mv (.t 3), none⟩,
      ⟨(some 16), .mv (.t 5), none⟩,
      ⟨(some 17), .lenS (.t 16), none⟩,
      ⟨(some 18), .bin .add (.t 15) (.t 17), none⟩,
      ⟨(some 3), .mv (.t 18), none⟩] [0, 3, 9, 10, 11])
    (.seq (.ops [
      ⟨(some 19), .mv (.t 3), none⟩,
      ⟨(some 20), .bin .lss (.t 19) (.c (.int .i64 0)), none⟩] [0, 3, 9, 10, 11, 20])
    (.cond (.t 20)
     (.ops [
       ⟨(some 21), .bad, none⟩,
       ⟨none, .bad, none⟩] [0, 3, 9, 10, 11])
     .skip)))))
   (.ops [
     ⟨(some 22), .bin .add (.t 11) (.c (.int .i64 1)), none⟩,
     ⟨(some 11), .mv (.t 22), none⟩] [0, 3, 9, 10, 11])))))))
 (.seq (.ops [
   ⟨(some 23), .mv (.t 3), none⟩,
   ⟨(some 24), .call 80 [.c (.slice none 0 0), .t 23], none⟩,
   ⟨(some 6), .mv (.t 24), none⟩] [0, 6])
 (.seq (.seq (.ops [
   ⟨(some 25), .mv (.t 0), none⟩,
   ⟨(some 26), .lenS (.t 25), none⟩,
   ⟨(some 27), .mv (.c (.int .i64 0)), none⟩] [6, 25, 26, 27])
 (.block 2
  (.loop
   (.seq (.ops [
     ⟨(some 28), .bin .lss (.t 27) (.t 26), none⟩] [6, 25, 26, 27, 28])
   (.seq (.cond (.t 28)
    .skip
    (.exit 2))
   (.seq (.block 3
    (.seq (.ops [
      ⟨(some 29), .iaddrS 1 (.t 25) (.t 27), none⟩,
      ⟨(some 30), .load none (.t 29), none⟩,
      ⟨(some 8), .mv (.t 30), none⟩] [6, 8, 25, 26, 27])
    (.ops [
      ⟨(some 31), .mv (.t 6), none⟩,
      ⟨(some 32), .mv (.t 8), none⟩,
      ⟨(some 33), .append 1 1 (.t 31) (.t 32), none⟩,
      ⟨(some 6), .mv (.t 33), none⟩] [6, 25, 26, 27])))
   (.ops [
     ⟨(some 34), .bin .add (.t 27) (.c (.int .i64 1)), none⟩,
     ⟨(some 27), .mv (.t 34), none⟩] [6, 25, 26, 27])))))))
 (.seq (.ops [
   ⟨(some 35), .mv (.t 6), none⟩,
   ⟨(some 2), .mv (.t 35), none⟩] [2])
 .ret))))))⟩

def h_poly_num_plus : Hint := [(0, [2, 3, 4], []), (1, [2, 3, 4], []), (2, [2, 3, 4, 5], []), (3, [2, 3, 4, 5], []), (4, [2, 4], []), (5, [4], [])]
def ir_poly_num_plus : AFunc := ⟨2, 34, [.cell 4 (some 3)],
 (.seq (.ops [
   ⟨(some 2), .box (.t 0), none⟩,
   ⟨(some 3), .box (.t 1), none⟩,
   ⟨(some 4), .alloc ([.int .u64 0, .int .u64 0, .int .u64 0]), none⟩] [2, 3, 4])
 (.seq (.ops [
   ⟨(some 5), .mv (.c (.int .u64 0)), none⟩] [2, 3, 4])
 (.seq (.ops [
   ⟨(some 7), .iaddrA 3 1 (.t 2) (.c (.int .i64 0)), none⟩,
   ⟨(some 8), .load none (.t 7), none⟩,
   ⟨(some 9), .iaddrA 3 1 (.t 3) (.c (.int .i64 0)), none⟩,
   ⟨(some 10), .load none (.t 9), none⟩,
   ⟨(some 11), .prim .add64 [.t 8, .t 10, .c (.int .u64 0)], none⟩,
   ⟨(some 6), .mv (.t 11), none⟩,
   ⟨(some 12), .ext (.t 6) 0, none⟩,
   ⟨(some 13), .ext (.t 6) 1, none⟩,
   ⟨(some 14), .iaddrA 3 1 (.t 2) (.c (.int .i64 0)), none⟩,
   ⟨none, .store 1 (.t 14) (.t 12), none⟩,
   ⟨(some 5), .mv (.t 13), none⟩] [2, 3, 4, 5])
 (.seq (.ops [
   ⟨(some 16), .iaddrA 3 1 (.t 2) (.c (.int .i64 1)), none⟩,
   ⟨(some 17), .load none (.t 16), none⟩,
   ⟨(some 18), .iaddrA 3 1 (.t 3) (.c (.int .i64 1)), none⟩,
   ⟨(some 19), .load none (.t 18), none⟩,
   ⟨(some 20), .mv (.t 5), none⟩,
   ⟨(some 21), .prim .add64 [.t 17, .t 19, .t 20], none⟩,
   ⟨(some 15), .mv (.t 21), none⟩,
   ⟨(some 22), .ext (.t 15) 0, none⟩,
   ⟨(some 23), .ext (.t 15) 1, none⟩,
   ⟨(some 24), .iaddrA 3 1 (.t 2) (.c (.int .i64 1)), none⟩,
   ⟨none, .store 1 (.t 24) (.t 22), none⟩,
   ⟨(some 5), .mv (.t 23), none⟩] [2, 3, 4, 5])
 (.seq (.ops [
   ⟨(some 25), .iaddrA 3 1 (.t 2) (.c (.int .i64 2)), none⟩,
   ⟨(some 26), .load none (.t 25), none⟩,
   ⟨(some 27), .iaddrA 3 1 (.t 3) (.c (.int .i64 2)), none⟩,
   ⟨(some 28), .load none (.t 27), none⟩,
   ⟨(some 29), .mv (.t 5), none⟩,
   ⟨(some 30), .bin .add (.t 28) (.t 29), none⟩,
   ⟨(some 31), .bin .add (.t 26) (.t 30), none⟩,
   ⟨(some 32), .iaddrA 3 1 (.t 2) (.c (.int .i64 2)), none⟩,
   ⟨none, .store 1 (.t 32) (.t 31), none⟩] [2, 4])
 (.seq (.ops [
   ⟨(some 33), .load (some 3) (.t 2), none⟩,
   ⟨none, .store 3 (.t 4) (.t 33), none⟩] [4])
 .ret))))))⟩

def h_poly_num_times : Hint := [(0, [2, 3, 4], []), (1, [4, 5], [(0, 0), (1, 0), (2, 0), (3, 0), (4, 0), (5, 0), (6, 1), (7, 1), (8, 1), (9, 1), (10, 1), (11, 0), (12, 2), (13, 2), (14, 2), (15, 2), (16, 0), (17, 3), (18, 3), (19, 3), (20, 3), (21, 3), (22, 0), (23, 4), (24, 4), (25, 4), (26, 4), (27, 0), (28, 5), (29, 5), (30, 5), (31, 5), (32, 5), (33, 0), (34, 0), (35, 0), (36, 0)]), (2, [4, 5, 6], []), (3, [4, 5, 6, 7], []), (4, [4, 6, 7, 47, 48], []), (5, [4, 6, 7, 47, 48, 49], []), (6, [4, 6, 7, 8, 9, 47, 48], []), (7, [4, 6, 7, 8, 47, 48], []), (8, [4, 6, 7, 47, 48], []), (9, [4, 6, 7, 47, 48], []), (10, [4, 6, 7, 47, 48], []), (11, [4, 6, 10], []), (12, [4, 10, 11], []), (13, [4, 10, 11, 84], []), (14, [4, 10, 11, 84, 85], []), (15, [4, 10, 11, 84], []), (16, [4, 10, 11, 84], []), (17, [4], [])]
def ir_poly_num_times : AFunc := ⟨2, 92, [.cell 4 (some 3)],
 (.seq (.ops [
   ⟨(some 2), .box (.t 0), none⟩,
   ⟨(some 3), .box (.t 1), none⟩,
   ⟨(some 4), .alloc ([.int .u64 0, .int .u64 0, .int .u64 0]), none⟩] [2, 3, 4])
 (.seq (.dops [
   ⟨0, (some 12), .build ([.int .u64 0, .int .u64 0, .int .u64 0]) [], none, 0⟩,
   ⟨1, (some 13), .iaddrA 3 1 (.t 2) (.c (.int .i64 0)), none, 0⟩,
   ⟨2, (some 14), .load none (.t 13), none, 0⟩,
   ⟨3, (some 15), .iaddrA 2 1 (.t 3) (.c (.int .i64 0)), none, 0⟩,
   ⟨4, (some 16), .load none (.t 15), none, 0⟩,
   ⟨5, (some 17), .call 81 [.t 12, .t 14, .t 16], none, 0⟩,
   ⟨6, (some 18), .build ([.int .u64 0, .int .u64 0, .int .u64 0]) [], none, 1⟩,
   ⟨7, (some 19), .iaddrA 3 1 (.t 2) (.c (.int .i64 0)), none, 1⟩,
   ⟨8, (some 20), .load none (.t 19), none, 1⟩,
   ⟨9, (some 21), .iaddrA 2 1 (.t 3) (.c (.int .i64 1)), none, 1⟩,
   ⟨10, (some 22), .load none (.t 21), none, 1⟩,
   ⟨11, (some 23), .call 81 [.t 18, .t 20, .t 22], none, 0⟩,
   ⟨12, (some 24), .iaddrA 3 1 (.t 2) (.c (.int .i64 1)), none, 2⟩,
   ⟨13, (some 25), .load none (.t 24), none, 2⟩,
   ⟨14, (some 26), .iaddrA 2 1 (.t 3) (.c (.int .i64 0)), none, 2⟩,
   ⟨15, (some 27), .load none (.t 26), none, 2⟩,
   ⟨16, (some 28), .call 81 [.t 23, .t 25, .t 27], none, 0⟩,
   ⟨17, (some 29), .build ([.int .u64 0, .int .u64 0, .int .u64 0]) [], none, 3⟩,
   ⟨18, (some 30), .iaddrA 3 1 (.t 2) (.c (.int .i64 1)), none, 3⟩,
   ⟨19, (some 31), .load none (.t 30), none, 3⟩,
   ⟨20, (some 32), .iaddrA 2 1 (.t 3) (.c (.int .i64 1)), none, 3⟩,
   ⟨21, (some 33), .load none (.t 32), none, 3⟩,
   ⟨22, (some 34), .call 81 [.t 29, .t 31, .t 33], none, 0⟩,
   ⟨23, (some 35), .iaddrA 3 1 (.t 2) (.c (.int .i64 2)), none, 4⟩,
   ⟨24, (some 36), .load none (.t 35), none, 4⟩,
   ⟨25, (some 37), .iaddrA 2 1 (.t 3) (.c (.int .i64 0)), none, 4⟩,
   ⟨26, (some 38), .load none (.t 37), none, 4⟩,
   ⟨27, (some 39), .call 81 [.t 34, .t 36, .t 38], none, 0⟩,
   ⟨28, (some 40), .build ([.int .u64 0, .int .u64 0, .int .u64 0]) [], none, 5⟩,
   ⟨29, (some 41), .iaddrA 3 1 (.t 2) (.c (.int .i64 2)), none, 5⟩,
   ⟨30, (some 42), .load none (.t 41), none, 5⟩,
   ⟨31, (some 43), .iaddrA 2 1 (.t 3) (.c (.int .i64 1)), none, 5⟩,
   ⟨32, (some 44), .load none (.t 43), none, 5⟩,
   ⟨33, (some 45), .call 81 [.t 40, .t 42, .t 44], none, 0⟩,
   ⟨34, (some 46), .build (List.replicate 12 (.int .u64 0)) [(0, 3, .t 17), (3, 3, .t 28), (6, 3, .t 39), (9, 3, .t 45)], none, 0⟩,
   ⟨35, (some 5), .alloc (List.replicate 12 (.int .u64 0)), none, 0⟩,
   ⟨36, none, .store 12 (.t 5) (.t 46), none, 0⟩] [4, 5])
 (.seq (.ops [
   ⟨(some 6), .alloc ([.int .u64 0, .int .u64 0, .int .u64 0, .int .u64 0]), none⟩] [4, 5, 6])
 (.seq (.ops [
   ⟨(some 7), .alloc ([.int .u64 0, .int .u64 0, .int .u64 0]), none⟩] [4, 5, 6, 7])
 (.seq (.seq (.ops [
   ⟨(some 47), .load (some 12) (.t 5), none⟩,
   ⟨(some 48), .mv (.c (.int .i64 0)), none⟩] [4, 6, 7, 47, 48])
 (.block 0
  (.loop
   (.seq (.ops [
     ⟨(some 49), .bin .lss (.t 48) (.c (.int .i64 4)), none⟩] [4, 6, 7, 47, 48, 49])
   (.seq (.cond (.t 49)
    .skip
    (.exit 0))
   (.seq (.block 1
    (.seq (.ops [
      ⟨(some 50), .mv (.t 48), none⟩,
      ⟨(some 51), .idxA 4 3 (some 3) (.t 47) (.t 48), none⟩,
      ⟨(some 9), .alloc ([.int .u64 0, .int .u64 0, .int .u64 0]), none⟩,
      ⟨(some 8), .mv (.t 50), none⟩,
      ⟨none, .store 3 (.t 9) (.t 51), none⟩] [4, 6, 7, 8, 9, 47, 48])
    (.seq (.ops [
      ⟨(some 52), .load (some 3) (.t 7), none⟩,
      ⟨(some 53), .load (some 3) (.t 9), none⟩,
      ⟨(some 54), .call 65 [.t 52, .t 53], none⟩,
      ⟨none, .store 3 (.t 7) (.t 54), none⟩] [4, 6, 7, 8, 47, 48])
    (.seq (.ops [
      ⟨(some 55), .mv (.t 8), none⟩,
      ⟨(some 56), .iaddrA 3 1 (.t 7) (.c (.int .i64 0)), none⟩,
      ⟨(some 57), .load none (.t 56), none⟩,
      ⟨(some 58), .iaddrA 4 1 (.t 6) (.t 55), none⟩,
      ⟨none, .store 1 (.t 58) (.t 57), none⟩] [4, 6, 7, 47, 48])
    (.ops [
      ⟨(some 59), .iaddrA 3 1 (.t 7) (.c (.int .i64 1)), none⟩,
      ⟨(some 60), .load none (.t 59), none⟩,
      ⟨(some 61), .iaddrA 3 1 (.t 7) (.c (.int .i64 2)), none⟩,
      ⟨(some 62), .load none (.t 61), none⟩,
      ⟨(some 63), .build ([.int .u64 0, .int .u64 0, .int .u64 0]) [(0, 1, .t 60), (1, 1, .t 62)], none⟩,
      ⟨none, .store 3 (.t 7) (.t 63), none⟩] [4, 6, 7, 47, 48])))))
   (.ops [
     ⟨(some 64), .bin .add (.t 48) (.c (.int .i64 1)), none⟩,
     ⟨(some 48), .mv (.t 64), none⟩] [4, 6, 7, 47, 48])))))))
 (.seq (.ops [
   ⟨(some 65), .iaddrA 4 1 (.t 6) (.c (.int .i64 0)), none⟩,
   ⟨(some 66), .load none (.t 65), none⟩,
   ⟨(some 67), .iaddrA 4 1 (.t 6) (.c (.int .i64 1)), none⟩,
   ⟨(some 68), .load none (.t 67), none⟩,
   ⟨(some 69), .iaddrA 4 1 (.t 6) (.c (.int .i64 2)), none⟩,
   ⟨(some 70), .load none (.t 69), none⟩,
   ⟨(some 71), .bin .and (.t 70) (.c (.int .u64 3)), none⟩,
   ⟨(some 72), .build ([.int .u64 0, .int .u64 0, .int .u64 0]) [(0, 1, .t 66), (1, 1, .t 68), (2, 1, .t 71)], none⟩,
   ⟨(some 10), .alloc ([.int .u64 0, .int .u64 0, .int .u64 0]), none⟩,
   ⟨none, .store 3 (.t 10) (.t 72), none⟩] [4, 6, 10])
 (.seq (.ops [
   ⟨(some 73), .iaddrA 4 1 (.t 6) (.c (.int .i64 2)), none⟩,
   ⟨(some 74), .load none (.t 73), none⟩,
   ⟨(some 75), .bin .shr (.t 74) (.c (.int .u64 2)), none⟩,
   ⟨(some 76), .iaddrA 4 1 (.t 6) (.c (.int .i64 3)), none⟩,
   ⟨(some 77), .load none (.t 76), none⟩,
   ⟨(some 78), .bin .shl (.t 77) (.c (.int .u64 62)), none⟩,
   ⟨(some 79), .bin .or (.t 75) (.t 78), none⟩,
   ⟨(some 80), .iaddrA 4 1 (.t 6) (.c (.int .i64 3)), none⟩,
   ⟨(some 81), .load none (.t 80), none⟩,
   ⟨(some 82), .bin .shr (.t 81) (.c (.int .u64 2)), none⟩,
   ⟨(some 83), .build ([.int .u64 0, .int .u64 0, .int .u64 0]) [(0, 1, .t 79), (1, 1, .t 82)], none⟩,
   ⟨(some 11), .alloc ([.int .u64 0, .int .u64 0, .int .u64 0]), none⟩,
   ⟨none, .store 3 (.t 11) (.t 83), none⟩] [4, 10, 11])
 (.seq (.seq (.ops [
   ⟨(some 84), .mv (.c (.int .i64 0)), none⟩] [4, 10, 11, 84])
 (.block 2
  (.loop
   (.seq (.ops [
     ⟨(some 85), .bin .lss (.t 84) (.c (.int .i64 5)), none⟩] [4, 10, 11, 84, 85])
   (.seq (.cond (.t 85)
    .skip
    (.exit 2))
   (.seq (.block 3
    (.ops [
      ⟨(some 86), .load (some 3) (.t 10), none⟩,
      ⟨(some 87), .load (some 3) (.t 11), none⟩,
      ⟨(some 88), .call 65 [.t 86, .t 87], none⟩,
      ⟨none, .store 3 (.t 10) (.t 88), none⟩] [4, 10, 11, 84]))
   (.ops [
     ⟨(some 89), .bin .add (.t 84) (.c (.int .i64 1)), none⟩,
     ⟨(some 84), .mv (.t 89), none⟩] [4, 10, 11, 84])))))))
 (.seq (.ops [
   ⟨(some 90), .load (some 3) (.t 10), none⟩,
   ⟨(some 91), .call 82 [.t 90], none⟩,
   ⟨none, .store 3 (.t 4) (.t 91), none⟩] [4])
 .ret)))))))))⟩

def h_poly_num_last : Hint := [(0, [1, 2], []), (1, [1, 2], []), (2, [1, 2, 3], []), (3, [1, 2, 3, 12], []), (4, [2, 3], []), (5, [2], []), (6, [2], [])]
def ir_poly_num_last : AFunc := ⟨1, 19, [.cell 2 (some 3)],
 (.seq (.ops [
   ⟨(some 1), .box (.t 0), none⟩,
   ⟨(some 2), .alloc ([.int .u64 0, .int .u64 0, .int .u64 0]), none⟩] [1, 2])
 (.seq (.ops [
   ⟨(some 4), .load (some 3) (.t 1), none⟩,
   ⟨(some 5), .call 82 [.t 4], none⟩,
   ⟨(some 6), .call 82 [.t 5], none⟩,
   ⟨none, .store 3 (.t 1) (.t 6), none⟩] [1, 2])
 (.seq (.ops [
   ⟨(some 7), .load (some 3) (.t 1), none⟩,
   ⟨(some 8), .build ([.int .u64 0, .int .u64 0, .int .u64 0]) [(0, 1, .c (.int .u64 5))], none⟩,
   ⟨(some 9), .call 65 [.t 7, .t 8], none⟩,
   ⟨(some 3), .alloc ([.int .u64 0, .int .u64 0, .int .u64 0]), none⟩,
   ⟨none, .store 3 (.t 3) (.t 9), none⟩] [1, 2, 3])
 (.seq (.seq (.ops [
   ⟨(some 10), .iaddrA 3 1 (.t 3) (.c (.int .i64 2)), none⟩,
   ⟨(some 11), .load none (.t 10), none⟩,
   ⟨(some 12), .bin .gtr (.t 11) (.c (.int .u64 3)), none⟩] [1, 2, 3, 12])
 (.cond (.t 12)
  (.seq (.ops [
    ⟨(some 13), .iaddrA 3 1 (.t 3) (.c (.int .i64 2)), none⟩,
    ⟨(some 14), .load none (.t 13), none⟩,
    ⟨(some 15), .bin .and (.t 14) (.c (.int .u64 3)), none⟩,
    ⟨(some 16), .iaddrA 3 1 (.t 3) (.c (.int .i64 2)), none⟩,
    ⟨none, .store 1 (.t 16) (.t 15), none⟩] [2, 3])
  (.seq (.ops [
    ⟨(some 17), .load (some 3) (.t 3), none⟩,
    ⟨none, .store 3 (.t 2) (.t 17), none⟩] [2])
  .ret))
  .skip))
 (.seq (.ops [
   ⟨(some 18), .load (some 3) (.t 1), none⟩,
   ⟨none, .store 3 (.t 2) (.t 18), none⟩] [2])
 .ret)))))⟩

def h_octet_Little : Hint := [(0, [0, 1, 2], []), (1, [1, 2, 7], []), (2, [1, 7, 13, 14], []), (3, [1, 7, 13, 14, 15], []), (4, [1, 7, 8, 13, 14], []), (5, [1, 7, 13, 14], []), (6, [1, 7, 13, 14], []), (7, [6], [])]
def ir_octet_Little : AFunc := ⟨3, 27, [.tmp 6],
 (.seq (.ops [
   ⟨(some 6), .mv (.c (.slice none 0 0)), none⟩] [0, 1, 2])
 (.seq (.ops [
   ⟨(some 9), .mv (.t 0), none⟩,
   ⟨(some 10), .call 55 [.t 9], none⟩,
   ⟨(some 7), .mv (.t 10), none⟩] [1, 2, 7])
 (.seq (.seq (.ops [
   ⟨(some 11), .mv (.t 2), none⟩,
   ⟨(some 12), .mn (.t 11) (.c (.int .i64 8)), none⟩,
   ⟨(some 13), .mx (.t 12) (.c (.int .i64 0)), none⟩,
   ⟨(some 14), .mv (.c (.int .i64 0)), none⟩] [1, 7, 13, 14])
 (.block 0
  (.loop
   (.seq (.ops [
     ⟨(some 15), .bin .lss (.t 14) (.t 13), none⟩] [1, 7, 13, 14, 15])
   (.seq (.cond (.t 15)
    .skip
    (.exit 0))
   (.seq (.block 1
    (.seq (.ops [
      ⟨(some 16), .mv (.t 14), none⟩,
      ⟨(some 8), .mv (.t 16), none⟩] [1, 7, 8, 13, 14])
    (.ops [
      ⟨(some 17), .mv (.t 7), none⟩,
      ⟨(some 18), .mv (.t 1), none⟩,
      ⟨(some 19), .mv (.t 8), none⟩,
      ⟨(some 20), .bin .mul (.c (.int .i64 8)) (.t 19), none⟩,
      ⟨(some 21), .bin .shr (.t 18) (.t 20), none⟩,
      ⟨(some 22), .conv .u8 (.t 21), none⟩,
      ⟨(some 23), .bslice 1 1 ([.int .u8 0]) [(0, 1, .t 22)], none⟩,
      ⟨(some 24), .append 1 1 (.t 17) (.t 23), none⟩,
      ⟨(some 7), .mv (.t 24), none⟩] [1, 7, 13, 14])))
   (.ops [
     ⟨(some 25), .bin .add (.t 14) (.c (.int .i64 1)), none⟩,
     ⟨(some 14), .mv (.t 25), none⟩] [1, 7, 13, 14])))))))
 (.seq (.ops [
   ⟨(some 26), .mv (.t 7), none⟩,
   ⟨(some 6), .mv (.t 26), none⟩] [6])
 .ret))))⟩

def h_bandboxref1_Unhex : Hint := [(0, [0], []), (1, [0, 11], []), (2, [2, 3], []), (3, [0, 4], []), (4, [0, 4, 5], []), (5, [0, 4, 5, 15], []), (6, [0, 4, 5], []), (7, [0, 4, 5, 6, 7], [(0, 0), (1, 0), (2, 0), (3, 0), (4, 1), (5, 1), (6, 1), (7, 1), (8, 0), (9, 0), (10, 0)]), (8, [0, 4, 5, 6, 7, 32], []), (9, [2, 3], []), (10, [0, 4, 5], []), (11, [2, 3], [])]
def ir_bandboxref1_Unhex_27 : ACode := (.seq (.seq (.ops [
      ⟨(some 27), .mv (.t 6), none⟩,
      ⟨(some 28), .bin .lss (.t 27) (.c (.int .i64 0)), none⟩,
      ⟨(some 29), .mv (.t 28), none⟩,
      ⟨(some 30), .mv (.t 7), (some (29, false))⟩,
      ⟨(some 31), .bin .lss (.t 30) (.c (.int .i64 0)), (some (29, false))⟩,
      ⟨(some 32), .pick (.t 29) (.c (.bool true)) (.t 31), none⟩] [0, 4, 5, 6, 7, 32])
 (.cond (.t 32)
 (.seq (.ops [
       ⟨(some 2), .mv (.c (.slice none 0 0)), none⟩,
       ⟨(some 3), .mv (.c (.bool false)), none⟩] [2, 3])
 .ret)
 .skip))
 (.ops [
      ⟨(some 33), .mv (.t 4), none⟩,
      ⟨(some 34), .mv (.t 6), none⟩,
      ⟨(some 35), .bin .mul (.c (.int .i64 16)) (.t 34), none⟩,
      ⟨(some 36), .mv (.t 7), none⟩,
      ⟨(some 37), .bin .add (.t 35) (.t 36), none⟩,
      ⟨(some 38), .conv .u8 (.t 37), none⟩,
      ⟨(some 39), .bslice 1 1 ([.int .u8 0]) [(0, 1, .t 38)], none⟩,
      ⟨(some 40), .append 1 1 (.t 33) (.t 39), none⟩,
      ⟨(some 4), .mv (.t 40), none⟩] [0, 4, 5]))
def ir_bandboxref1_Unhex_5 : ACode := (.seq (.seq (.ops [
   ⟨(some 5), .mv (.c (.int .i64 0)), none⟩] [0, 4, 5])
 (.block 0 (.loop (.seq (.seq (.ops [
     ⟨(some 12), .mv (.t 5), none⟩,
     ⟨(some 13), .mv (.t 0), none⟩,
     ⟨(some 14), .lenStr (.t 13), none⟩,
     ⟨(some 15), .bin .lss (.t 12) (.t 14), none⟩] [0, 4, 5, 15])
 (.cond (.t 15)
 .skip
 (.exit 0)))
 (.seq (.block 1 (.seq (.dops [
      ⟨0, (some 18), .mv (.t 0), none, 0⟩,
      ⟨1, (some 19), .mv (.t 5), none, 0⟩,
      ⟨2, (some 20), .idxS (.t 18) (.t 19), none, 0⟩,
      ⟨3, (some 21), .call 83 [.t 20], none, 0⟩,
      ⟨4, (some 22), .mv (.t 0), none, 1⟩,
      ⟨5, (some 23), .mv (.t 5), none, 1⟩,
      ⟨6, (some 24), .bin .add (.t 23) (.c (.int .i64 1)), none, 1⟩,
      ⟨7, (some 25), .idxS (.t 22) (.t 24), none, 1⟩,
      ⟨8, (some 26), .call 83 [.t 25], none, 0⟩,
      ⟨9, (some 6), .mv (.t 21), none, 0⟩,
      ⟨10, (some 7), .mv (.t 26), none, 0⟩] [0, 4, 5, 6, 7])
 ir_bandboxref1_Unhex_27))
 (.ops [
     ⟨(some 16), .mv (.t 5), none⟩,
     ⟨(some 17), .bin .add (.t 16) (.c (.int .i64 2)), none⟩,
     ⟨(some 5), .mv (.t 17), none⟩] [0, 4, 5]))))))
 (.seq (.ops [
   ⟨(some 41), .mv (.t 4), none⟩,
   ⟨(some 2), .mv (.t 41), none⟩,
   ⟨(some 3), .mv (.c (.bool true)), none⟩] [2, 3])
 .ret))
def ir_bandboxref1_Unhex : AFunc := ⟨1, 42, [.tmp 2, .tmp 3],
 (.seq (.ops [
   ⟨(some 2), .mv (.c (.slice none 0 0)), none⟩,
   ⟨(some 3), .mv (.c (.bool false)), none⟩] [0])
 (.seq (.seq (.ops [
   ⟨(some 8), .mv (.t 0), none⟩,
   ⟨(some 9), .lenStr (.t 8), none⟩,
   ⟨(some 10), .bin .rem (.t 9) (.c (.int .i64 2)), none⟩,
   ⟨(some 11), .bin .neq (.t 10) (.c (.int .i64 0)), none⟩] [0, 11])
 (.cond (.t 11)
 (.seq (.ops [
    ⟨(some 2), .mv (.c (.slice none 0 0)), none⟩,
    ⟨(some 3), .mv (.c (.bool false)), none⟩] [2, 3])
 .ret)
 .skip))
 (.seq (.ops [
   ⟨(some 4), .mv (.c (.slice none 0 0)), none⟩] [0, 4])
 ir_bandboxref1_Unhex_5)))⟩

def h_bandboxref4_times : Hint := [(0, [2, 3, 4], []), (1, [2, 3, 4, 5], []), (2, [2, 3, 4, 5, 6], []), (3, [2, 3, 4, 5, 6, 15], []), (4, [2, 3, 4, 5, 6], []), (5, [2, 3, 4, 5, 6, 7], []), (6, [2, 3, 4, 5, 6, 7, 19], []), (7, [2, 3, 4, 5, 6, 7], []), (8, [2, 3, 4, 5, 6, 7, 8], [(0, 0), (1, 0), (2, 0), (3, 0), (4, 0), (5, 0), (6, 0), (7, 0), (8, 0), (9, 0)]), (9, [2, 3, 4, 5, 6, 7, 8, 34], []), (10, [2, 3, 4, 5, 6, 7], []), (11, [2, 3, 4, 5, 6, 7], []), (12, [4, 5, 9], []), (13, [4, 5, 9, 10], []), (14, [4, 5, 9, 10, 61], []), (15, [4, 5, 9, 10], []), (16, [4, 5, 9, 10, 11], []), (17, [4, 5, 9, 10, 11, 12], []), (18, [4, 5, 9, 10, 11, 12, 65], []), (19, [4, 5, 9, 10, 11, 12], []), (20, [4, 5, 9, 10, 11, 12], []), (21, [4, 5, 9, 10, 11, 12, 74], []), (22, [4, 5, 9, 10, 11, 12], []), (23, [4, 5, 9, 10, 11, 12], []), (24, [4, 5, 9, 10, 11, 12], []), (25, [4, 5, 9, 10, 11, 12], []), (26, [4, 5, 9, 10], []), (27, [4, 5, 9, 13], []), (28, [4, 5, 9, 13, 94], []), (29, [4, 5, 9, 13], []), (30, [4, 5, 9, 13], []), (31, [4], [])]
def ir_bandboxref4_times_73 : ACode := (.seq (.ops [
         ⟨(some 73), .mv (.t 12), none⟩,
         ⟨(some 74), .bin .lss (.t 73) (.c (.int .i64 16)), none⟩] [4, 5, 9, 10, 11, 12, 74])
 (.cond (.t 74)
 (.seq (.ops [
          ⟨(some 75), .mv (.t 12), none⟩,
          ⟨(some 76), .mv (.t 11), none⟩,
          ⟨(some 77), .bin .and (.t 76) (.c (.int .u64 255)), none⟩,
          ⟨(some 78), .iaddrA 17 1 (.t 5) (.t 75), none⟩,
          ⟨none, .store 1 (.t 78) (.t 77), none⟩] [4, 5, 9, 10, 11, 12])
 (.ops [
          ⟨(some 79), .mv (.t 11), none⟩,
          ⟨(some 80), .bin .shr (.t 79) (.c (.int .u64 8)), none⟩,
          ⟨(some 11), .mv (.t 80), none⟩] [4, 5, 9, 10, 11, 12]))
 (.seq (.ops [
          ⟨(some 81), .mv (.t 12), none⟩,
          ⟨(some 82), .mv (.t 11), none⟩,
          ⟨(some 83), .bin .and (.t 82) (.c (.int .u64 3)), none⟩,
          ⟨(some 84), .iaddrA 17 1 (.t 5) (.t 81), none⟩,
          ⟨none, .store 1 (.t 84) (.t 83), none⟩] [4, 5, 9, 10, 11, 12])
 (.ops [
          ⟨(some 85), .mv (.t 11), none⟩,
          ⟨(some 86), .bin .shr (.t 85) (.c (.int .u64 2)), none⟩,
          ⟨(some 11), .mv (.t 86), none⟩] [4, 5, 9, 10, 11, 12]))))
def ir_bandboxref4_times_87 : ACode := (.ops [
      ⟨(some 87), .iaddrA 17 1 (.t 5) (.c (.int .i64 0)), none⟩,
      ⟨(some 88), .load none (.t 87), none⟩,
      ⟨(some 89), .mv (.t 11), none⟩,
      ⟨(some 90), .bin .mul (.c (.int .u64 5)) (.t 89), none⟩,
      ⟨(some 91), .bin .add (.t 88) (.t 90), none⟩,
      ⟨(some 92), .iaddrA 17 1 (.t 5) (.c (.int .i64 0)), none⟩,
      ⟨none, .store 1 (.t 92) (.t 91), none⟩] [4, 5, 9, 10])
def ir_bandboxref4_times_60 : ACode := (.block 4 (.loop (.seq (.seq (.ops [
     ⟨(some 60), .mv (.t 10), none⟩,
     ⟨(some 61), .bin .lss (.t 60) (.c (.int .i64 3)), none⟩] [4, 5, 9, 10, 61])
 (.cond (.t 61)
 .skip
 (.exit 4)))
 (.seq (.block 5 (.seq (.ops [
      ⟨(some 11), .mv (.c (.int .u64 0)), none⟩] [4, 5, 9, 10, 11])
 (.seq (.seq (.ops [
      ⟨(some 12), .mv (.c (.int .i64 0)), none⟩] [4, 5, 9, 10, 11, 12])
 (.block 6 (.loop (.seq (.seq (.ops [
        ⟨(some 64), .mv (.t 12), none⟩,
        ⟨(some 65), .bin .lss (.t 64) (.c (.int .i64 17)), none⟩] [4, 5, 9, 10, 11, 12, 65])
 (.cond (.t 65)
 .skip
 (.exit 6)))
 (.seq (.block 7 (.seq (.ops [
         ⟨(some 68), .mv (.t 11), none⟩,
         ⟨(some 69), .mv (.t 12), none⟩,
         ⟨(some 70), .iaddrA 17 1 (.t 5) (.t 69), none⟩,
         ⟨(some 71), .load none (.t 70), none⟩,
         ⟨(some 72), .bin .add (.t 68) (.t 71), none⟩,
         ⟨(some 11), .mv (.t 72), none⟩] [4, 5, 9, 10, 11, 12])
 ir_bandboxref4_times_73))
 (.ops [
        ⟨(some 66), .mv (.t 12), none⟩,
        ⟨(some 67), .bin .add (.t 66) (.c (.int .i64 1)), none⟩,
        ⟨(some 12), .mv (.t 67), none⟩] [4, 5, 9, 10, 11, 12]))))))
 ir_bandboxref4_times_87)))
 (.ops [
     ⟨(some 62), .mv (.t 10), none⟩,
     ⟨(some 63), .bin .add (.t 62) (.c (.int .i64 1)), none⟩,
     ⟨(some 10), .mv (.t 63), none⟩] [4, 5, 9, 10])))))
def ir_bandboxref4_times_13 : ACode := (.seq (.seq (.ops [
   ⟨(some 13), .mv (.c (.int .i64 0)), none⟩] [4, 5, 9, 13])
 (.block 8 (.loop (.seq (.seq (.ops [
     ⟨(some 93), .mv (.t 13), none⟩,
     ⟨(some 94), .bin .lss (.t 93) (.c (.int .i64 17)), none⟩] [4, 5, 9, 13, 94])
 (.cond (.t 94)
 .skip
 (.exit 8)))
 (.seq (.block 9 (.ops [
      ⟨(some 97), .mv (.t 13), none⟩,
      ⟨(some 98), .mv (.t 13), none⟩,
      ⟨(some 99), .iaddrA 17 1 (.t 5) (.t 98), none⟩,
      ⟨(some 100), .load none (.t 99), none⟩,
      ⟨(some 101), .conv .u32 (.t 100), none⟩,
      ⟨(some 102), .iaddrA 17 1 (.t 9) (.t 97), none⟩,
      ⟨none, .store 1 (.t 102) (.t 101), none⟩] [4, 5, 9, 13]))
 (.ops [
     ⟨(some 95), .mv (.t 13), none⟩,
     ⟨(some 96), .bin .add (.t 95) (.c (.int .i64 1)), none⟩,
     ⟨(some 13), .mv (.t 96), none⟩] [4, 5, 9, 13]))))))
 (.seq (.ops [
   ⟨(some 103), .load (some 17) (.t 9), none⟩,
   ⟨none, .store 17 (.t 4) (.t 103), none⟩] [4])
 .ret))
def ir_bandboxref4_times_q : ACode := (.cond (.t 34)
 (.ops [
          ⟨(some 35), .mv (.t 6), none⟩,
          ⟨(some 36), .mv (.t 7), none⟩,
          ⟨(some 37), .bin .add (.t 35) (.t 36), none⟩,
          ⟨(some 38), .bin .sub (.t 37) (.c (.int .i64 17)), none⟩,
          ⟨(some 39), .mv (.t 6), none⟩,
          ⟨(some 40), .mv (.t 7), none⟩,
          ⟨(some 41), .bin .add (.t 39) (.t 40), none⟩,
          ⟨(some 42), .bin .sub (.t 41) (.c (.int .i64 17)), none⟩,
          ⟨(some 43), .iaddrA 17 1 (.t 5) (.t 42), none⟩,
          ⟨(some 44), .load none (.t 43), none⟩,
          ⟨(some 45), .mv (.t 8), none⟩,
          ⟨(some 46), .bin .mul (.c (.int .u64 320)) (.t 45), none⟩,
          ⟨(some 47), .bin .add (.t 44) (.t 46), none⟩,
          ⟨(some 48), .iaddrA 17 1 (.t 5) (.t 38), none⟩,
          ⟨none, .store 1 (.t 48) (.t 47), none⟩] [2, 3, 4, 5, 6, 7])
 (.ops [
          ⟨(some 49), .mv (.t 6), none⟩,
          ⟨(some 50), .mv (.t 7), none⟩,
          ⟨(some 51), .bin .add (.t 49) (.t 50), none⟩,
          ⟨(some 52), .mv (.t 6), none⟩,
          ⟨(some 53), .mv (.t 7), none⟩,
          ⟨(some 54), .bin .add (.t 52) (.t 53), none⟩,
          ⟨(some 55), .iaddrA 17 1 (.t 5) (.t 54), none⟩,
          ⟨(some 56), .load none (.t 55), none⟩,
          ⟨(some 57), .mv (.t 8), none⟩,
          ⟨(some 58), .bin .add (.t 56) (.t 57), none⟩,
          ⟨(some 59), .iaddrA 17 1 (.t 5) (.t 51), none⟩,
          ⟨none, .store 1 (.t 59) (.t 58), none⟩] [2, 3, 4, 5, 6, 7]))
def ir_bandboxref4_times_18 : ACode := (.block 2 (.loop (.seq (.seq (.ops [
        ⟨(some 18), .mv (.t 7), none⟩,
        ⟨(some 19), .bin .lss (.t 18) (.c (.int .i64 17)), none⟩] [2, 3, 4, 5, 6, 7, 19])
 (.cond (.t 19)
 .skip
 (.exit 2)))
 (.seq (.block 3 (.seq (.dops [
         ⟨0, (some 22), .mv (.t 6), none, 0⟩,
         ⟨1, (some 23), .iaddrA 17 1 (.t 2) (.t 22), none, 0⟩,
         ⟨2, (some 24), .load none (.t 23), none, 0⟩,
         ⟨3, (some 25), .conv .u64 (.t 24), none, 0⟩,
         ⟨4, (some 26), .mv (.t 7), none, 0⟩,
         ⟨5, (some 27), .iaddrA 17 1 (.t 3) (.t 26), none, 0⟩,
         ⟨6, (some 28), .load none (.t 27), none, 0⟩,
         ⟨7, (some 29), .conv .u64 (.t 28), none, 0⟩,
         ⟨8, (some 30), .bin .mul (.t 25) (.t 29), none, 0⟩,
         ⟨9, (some 8), .mv (.t 30), none, 0⟩] [2, 3, 4, 5, 6, 7, 8])
 (.seq (.ops [
         ⟨(some 31), .mv (.t 6), none⟩,
         ⟨(some 32), .mv (.t 7), none⟩,
         ⟨(some 33), .bin .add (.t 31) (.t 32), none⟩,
         ⟨(some 34), .bin .geq (.t 33) (.c (.int .i64 17)), none⟩] [2, 3, 4, 5, 6, 7, 8, 34])
 ir_bandboxref4_times_q)))
 (.ops [
        ⟨(some 20), .mv (.t 7), none⟩,
        ⟨(some 21), .bin .add (.t 20) (.c (.int .i64 1)), none⟩,
        ⟨(some 7), .mv (.t 21), none⟩] [2, 3, 4, 5, 6, 7])))))
def ir_bandboxref4_times : AFunc := ⟨2, 104, [.cell 4 (some 17)],
 (.seq (.ops [
   ⟨(some 2), .box (.t 0), none⟩,
   ⟨(some 3), .box (.t 1), none⟩,
   ⟨(some 4), .alloc (List.replicate 17 (.int .u32 0)), none⟩] [2, 3, 4])
 (.seq (.ops [
   ⟨(some 5), .alloc (List.replicate 17 (.int .u64 0)), none⟩] [2, 3, 4, 5])
 (.seq (.seq (.ops [
   ⟨(some 6), .mv (.c (.int .i64 0)), none⟩] [2, 3, 4, 5, 6])
 (.block 0 (.loop (.seq (.seq (.ops [
     ⟨(some 14), .mv (.t 6), none⟩,
     ⟨(some 15), .bin .lss (.t 14) (.c (.int .i64 17)), none⟩] [2, 3, 4, 5, 6, 15])
 (.cond (.t 15)
 .skip
 (.exit 0)))
 (.seq (.block 1 (.seq (.ops [
      ⟨(some 7), .mv (.c (.int .i64 0)), none⟩] [2, 3, 4, 5, 6, 7])
 ir_bandboxref4_times_18))
 (.ops [
     ⟨(some 16), .mv (.t 6), none⟩,
     ⟨(some 17), .bin .add (.t 16) (.c (.int .i64 1)), none⟩,
     ⟨(some 6), .mv (.t 17), none⟩] [2, 3, 4, 5, 6]))))))
 (.seq (.ops [
   ⟨(some 9), .alloc (List.replicate 17 (.int .u32 0)), none⟩] [4, 5, 9])
 (.seq (.seq (.ops [
   ⟨(some 10), .mv (.c (.int .i64 0)), none⟩] [4, 5, 9, 10])
 ir_bandboxref4_times_60)
 ir_bandboxref4_times_13)))))⟩

def h_bandboxref4_plus : Hint := [(0, [2, 3, 4], []), (1, [2, 3, 4, 5], []), (2, [2, 3, 4, 5, 6], []), (3, [2, 3, 4, 5, 6, 8], []), (4, [2, 3, 4, 5, 6], []), (5, [2, 3, 4, 5, 6], [(0, 0), (1, 0), (2, 0), (3, 0), (4, 0), (5, 0), (6, 0), (7, 0), (8, 0), (9, 0)]), (6, [2, 3, 4, 5, 6], []), (7, [2, 3, 4, 5, 6, 24], []), (8, [2, 3, 4, 5, 6], []), (9, [2, 3, 4, 5, 6], []), (10, [4], [])]
def ir_bandboxref4_plus : AFunc := ⟨2, 32, [.cell 4 (some 17)],
 (.seq (.ops [
   ⟨(some 2), .box (.t 0), none⟩,
   ⟨(some 3), .box (.t 1), none⟩,
   ⟨(some 4), .alloc (List.replicate 17 (.int .u32 0)), none⟩] [2, 3, 4])
 (.seq (.ops [
   ⟨(some 5), .mv (.c (.int .u32 0)), none⟩] [2, 3, 4, 5])
 (.seq (.seq (.ops [
   ⟨(some 6), .mv (.c (.int .i64 0)), none⟩] [2, 3, 4, 5, 6])
 (.block 0
  (.loop
   (.seq (.seq (.ops [
     ⟨(some 7), .mv (.t 6), none⟩,
     ⟨(some 8), .bin .lss (.t 7) (.c (.int .i64 17)), none⟩] [2, 3, 4, 5, 6, 8])
   (.cond (.t 8)
    .skip
    (.exit 0)))
   (.seq (.block 1
    (.seq (.dops [
      ⟨0, (some 11), .mv (.t 5), none, 0⟩,
      ⟨1, (some 12), .mv (.t 6), none, 0⟩,
      ⟨2, (some 13), .iaddrA 17 1 (.t 2) (.t 12), none, 0⟩,
      ⟨3, (some 14), .load none (.t 13), none, 0⟩,
      ⟨4, (some 15), .bin .add (.t 11) (.t 14), none, 0⟩,
      ⟨5, (some 16), .mv (.t 6), none, 0⟩,
      ⟨6, (some 17), .iaddrA 17 1 (.t 3) (.t 16), none, 0⟩,
      ⟨7, (some 18), .load none (.t 17), none, 0⟩,
      ⟨8, (some 19), .bin .add (.t 15) (.t 18), none, 0⟩,
      ⟨9, (some 5), .mv (.t 19), none, 0⟩] [2, 3, 4, 5, 6])
    (.seq (.ops [
      ⟨(some 20), .mv (.t 6), none⟩,
      ⟨(some 21), .mv (.t 5), none⟩,
      ⟨(some 22), .iaddrA 17 1 (.t 2) (.t 20), none⟩,
      ⟨none, .store 1 (.t 22) (.t 21), none⟩] [2, 3, 4, 5, 6])
    (.seq (.ops [
      ⟨(some 23), .mv (.t 6), none⟩,
      ⟨(some 24), .bin .lss (.t 23) (.c (.int .i64 16)), none⟩] [2, 3, 4, 5, 6, 24])
    (.cond (.t 24)
     (.seq (.ops [
       ⟨(some 25), .mv (.t 6), none⟩,
       ⟨(some 26), .mv (.t 5), none⟩,
       ⟨(some 27), .bin .and (.t 26) (.c (.int .u32 255)), none⟩,
       ⟨(some 28), .iaddrA 17 1 (.t 2) (.t 25), none⟩,
       ⟨none, .store 1 (.t 28) (.t 27), none⟩] [2, 3, 4, 5, 6])
     (.ops [
       ⟨(some 29), .mv (.t 5), none⟩,
       ⟨(some 30), .bin .shr (.t 29) (.c (.int .u64 8)), none⟩,
       ⟨(some 5), .mv (.t 30), none⟩] [2, 3, 4, 5, 6]))
     .skip)))))
   (.ops [
     ⟨(some 9), .mv (.t 6), none⟩,
     ⟨(some 10), .bin .add (.t 9) (.c (.int .i64 1)), none⟩,
     ⟨(some 6), .mv (.t 10), none⟩] [2, 3, 4, 5, 6]))))))
 (.seq (.ops [
   ⟨(some 31), .load (some 17) (.t 2), none⟩,
   ⟨none, .store 17 (.t 4) (.t 31), none⟩] [4])
 .ret))))⟩

def h_bandboxref4_least : Hint := [(0, [1, 2], []), (1, [1, 2, 3], []), (2, [1, 2], []), (3, [1, 2, 4], []), (4, [1, 2, 5], []), (5, [1, 2, 5, 16], []), (6, [2, 5], []), (7, [2], []), (8, [2], [])]
def ir_bandboxref4_least_10 : ACode := (.seq (.ops [
   ⟨(some 10), .build (List.replicate 17 (.int .u32 0)) [(0, 1, .c (.int .u32 5))], none⟩,
   ⟨(some 4), .alloc (List.replicate 17 (.int .u32 0)), none⟩,
   ⟨none, .store 17 (.t 4) (.t 10), none⟩] [1, 2, 4])
 (.seq (.ops [
   ⟨(some 11), .load (some 17) (.t 1), none⟩,
   ⟨(some 12), .load (some 17) (.t 4), none⟩,
   ⟨(some 13), .call 71 [.t 11, .t 12], none⟩,
   ⟨(some 5), .alloc (List.replicate 17 (.int .u32 0)), none⟩,
   ⟨none, .store 17 (.t 5) (.t 13), none⟩] [1, 2, 5])
 (.seq (.seq (.ops [
   ⟨(some 14), .iaddrA 17 1 (.t 5) (.c (.int .i64 16)), none⟩,
   ⟨(some 15), .load none (.t 14), none⟩,
   ⟨(some 16), .bin .geq (.t 15) (.c (.int .u32 4)), none⟩] [1, 2, 5, 16])
 (.cond (.t 16)
 (.seq (.ops [
    ⟨(some 17), .iaddrA 17 1 (.t 5) (.c (.int .i64 16)), none⟩,
    ⟨(some 18), .load none (.t 17), none⟩,
    ⟨(some 19), .bin .and (.t 18) (.c (.int .u32 3)), none⟩,
    ⟨(some 20), .iaddrA 17 1 (.t 5) (.c (.int .i64 16)), none⟩,
    ⟨none, .store 1 (.t 20) (.t 19), none⟩] [2, 5])
 (.seq (.ops [
    ⟨(some 21), .load (some 17) (.t 5), none⟩,
    ⟨none, .store 17 (.t 2) (.t 21), none⟩] [2])
 .ret))
 .skip))
 (.seq (.ops [
   ⟨(some 22), .load (some 17) (.t 1), none⟩,
   ⟨none, .store 17 (.t 2) (.t 22), none⟩] [2])
 .ret))))
def ir_bandboxref4_least : AFunc := ⟨1, 23, [.cell 2 (some 17)],
 (.seq (.ops [
   ⟨(some 1), .box (.t 0), none⟩,
   ⟨(some 2), .alloc (List.replicate 17 (.int .u32 0)), none⟩] [1, 2])
 (.seq (.ops [
   ⟨(some 6), .build (List.replicate 17 (.int .u32 0)) [(0, 1, .c (.int .u32 1))], none⟩,
   ⟨(some 3), .alloc (List.replicate 17 (.int .u32 0)), none⟩,
   ⟨none, .store 17 (.t 3) (.t 6), none⟩] [1, 2, 3])
 (.seq (.ops [
   ⟨(some 7), .load (some 17) (.t 1), none⟩,
   ⟨(some 8), .load (some 17) (.t 3), none⟩,
   ⟨(some 9), .call 70 [.t 7, .t 8], none⟩,
   ⟨none, .store 17 (.t 1) (.t 9), none⟩] [1, 2])
 ir_bandboxref4_least_10)))⟩

def h_octet_FromLittle : Hint := [(0, [0], []), (1, [2, 3], [])]
def ir_octet_FromLittle : AFunc := ⟨1, 9, [.tmp 2, .tmp 3],
 (.seq (.ops [
   ⟨(some 2), .mv (.c (.int .u64 0)), none⟩,
   ⟨(some 3), .mv (.c (.int .i64 0)), none⟩] [0])
 (.seq (.ops [
   ⟨(some 4), .mv (.t 0), none⟩,
   ⟨(some 5), .call 89 [.t 4], none⟩,
   ⟨(some 6), .call 88 [.t 5], none⟩,
   ⟨(some 7), .ext (.t 6) 0, none⟩,
   ⟨(some 8), .ext (.t 6) 1, none⟩,
   ⟨(some 2), .mv (.t 7), none⟩,
   ⟨(some 3), .mv (.t 8), none⟩] [2, 3])
 .ret))⟩

def h_slices_Grow_byte_byte : Hint := [(0, [0, 1], []), (1, [0, 1, 6], []), (2, [0, 1], []), (3, [0, 1], []), (4, [0, 1, 16], []), (5, [0], []), (6, [4], [])]
def ir_slices_Grow_byte_byte : AFunc := ⟨2, 27, [.tmp 4],
 (.seq (.ops [
   ⟨(some 4), .mv (.c (.slice none 0 0)), none⟩] [0, 1])
 (.seq (.seq (.ops [
   ⟨(some 5), .mv (.t 1), none⟩,
   ⟨(some 6), .bin .lss (.t 5) (.c (.int .i64 0)), none⟩] [0, 1, 6])
 (.cond (.t 6)
  (.ops [
    ⟨(some 7), .bad, none⟩,
    ⟨none, .bad, none⟩] [0, 1])
  .skip))
 (.seq (.seq (.ops [
   ⟨(some 8), .mv (.t 1), none⟩,
   ⟨(some 9), .mv (.t 0), none⟩,
   ⟨(some 10), .capS (.t 9), none⟩,
   ⟨(some 11), .mv (.t 0), none⟩,
   ⟨(some 12), .lenS (.t 11), none⟩,
   ⟨(some 13), .bin .sub (.t 10) (.t 12), none⟩,
   ⟨(some 14), .bin .sub (.t 8) (.t 13), none⟩,
   ⟨(some 1), .mv (.t 14), none⟩] [0, 1])
 (.seq (.ops [
   ⟨(some 15), .mv (.t 1), none⟩,
   ⟨(some 16), .bin .gtr (.t 15) (.c (.int .i64 0)), none⟩] [0, 1, 16])
 (.cond (.t 16)
  (.ops [
    ⟨(some 17), .mv (.t 0), none⟩,
    ⟨(some 18), .mv (.t 0), none⟩,
    ⟨(some 19), .capS (.t 18), none⟩,
    ⟨(some 20), .slSl 1 (.t 17) none (some (.t 19)) none, none⟩,
    ⟨(some 21), .mv (.t 1), none⟩,
    ⟨(some 22), .appendZ 1 1 ([.int .u8 0]) (.t 20) (.t 21), none⟩,
    ⟨(some 23), .mv (.t 0), none⟩,
    ⟨(some 24), .lenS (.t 23), none⟩,
    ⟨(some 25), .slSl 1 (.t 22) none (some (.t 24)) none, none⟩,
    ⟨(some 0), .mv (.t 25), none⟩] [0])
  .skip)))
 (.seq (.ops [
   ⟨(some 26), .mv (.t 0), none⟩,
   ⟨(some 4), .mv (.t 26), none⟩] [4])
 .ret))))⟩

def h_poly_column : Hint := [(0, [1, 2, 3, 6], []), (1, [3, 6, 7, 8], []), (2, [6], [])]
def ir_poly_column : AFunc := ⟨3, 20, [.cell 6 (some 3)],
 (.seq (.ops [
   ⟨(some 3), .box (.t 0), none⟩,
   ⟨(some 6), .alloc ([.int .u64 0, .int .u64 0, .int .u64 0]), none⟩] [1, 2, 3, 6])
 (.seq (.ops [
   ⟨(some 10), .mv (.t 1), none⟩,
   ⟨(some 11), .mv (.t 2), none⟩,
   ⟨(some 12), .call 90 [.t 10, .t 11], none⟩,
   ⟨(some 9), .mv (.t 12), none⟩,
   ⟨(some 13), .ext (.t 9) 0, none⟩,
   ⟨(some 14), .ext (.t 9) 1, none⟩,
   ⟨(some 7), .mv (.t 13), none⟩,
   ⟨(some 8), .mv (.t 14), none⟩] [3, 6, 7, 8])
 (.seq (.ops [
   ⟨(some 15), .load (some 3) (.t 3), none⟩,
   ⟨(some 16), .mv (.t 8), none⟩,
   ⟨(some 17), .mv (.t 7), none⟩,
   ⟨(some 18), .build ([.int .u64 0, .int .u64 0, .int .u64 0]) [(0, 1, .t 16), (1, 1, .t 17)], none⟩,
   ⟨(some 19), .call 65 [.t 15, .t 18], none⟩,
   ⟨none, .store 3 (.t 6) (.t 19), none⟩] [6])
 .ret)))⟩

def h_poly_num_cut : Hint := [(0, [1, 2], []), (1, [1, 2, 3], []), (2, [1, 2, 3], []), (3, [1, 2, 4, 5], []), (4, [2], [])]
def ir_poly_num_cut : AFunc := ⟨1, 23, [.cell 2 (some 3)],
 (.seq (.ops [
   ⟨(some 1), .box (.t 0), none⟩,
   ⟨(some 2), .alloc ([.int .u64 0, .int .u64 0, .int .u64 0]), none⟩] [1, 2])
 (.seq (.ops [
   ⟨(some 6), .iaddrA 3 1 (.t 1) (.c (.int .i64 2)), none⟩,
   ⟨(some 7), .load none (.t 6), none⟩,
   ⟨(some 8), .bin .shr (.t 7) (.c (.int .u64 2)), none⟩,
   ⟨(some 3), .mv (.t 8), none⟩] [1, 2, 3])
 (.seq (.ops [
   ⟨(some 9), .iaddrA 3 1 (.t 1) (.c (.int .i64 2)), none⟩,
   ⟨(some 10), .load none (.t 9), none⟩,
   ⟨(some 11), .bin .and (.t 10) (.c (.int .u64 3)), none⟩,
   ⟨(some 12), .iaddrA 3 1 (.t 1) (.c (.int .i64 2)), none⟩,
   ⟨none, .store 1 (.t 12) (.t 11), none⟩] [1, 2, 3])
 (.seq (.ops [
   ⟨(some 14), .mv (.t 3), none⟩,
   ⟨(some 15), .call 90 [.t 14, .c (.int .u64 5)], none⟩,
   ⟨(some 13), .mv (.t 15), none⟩,
   ⟨(some 16), .ext (.t 13) 0, none⟩,
   ⟨(some 17), .ext (.t 13) 1, none⟩,
   ⟨(some 4), .mv (.t 16), none⟩,
   ⟨(some 5), .mv (.t 17), none⟩] [1, 2, 4, 5])
 (.seq (.ops [
   ⟨(some 18), .load (some 3) (.t 1), none⟩,
   ⟨(some 19), .mv (.t 5), none⟩,
   ⟨(some 20), .mv (.t 4), none⟩,
   ⟨(some 21), .build ([.int .u64 0, .int .u64 0, .int .u64 0]) [(0, 1, .t 19), (1, 1, .t 20)], none⟩,
   ⟨(some 22), .call 65 [.t 18, .t 21], none⟩,
   ⟨none, .store 3 (.t 2) (.t 22), none⟩] [2])
 .ret)))))⟩

def h_bandboxref1_digit : Hint := [(0, [0], []), (1, [0, 8], []), (2, [2], []), (3, [0, 17], []), (4, [2], []), (5, [2], [])]
def ir_bandboxref1_digit_3 : ACode := (.seq (.seq (.ops [
   ⟨(some 3), .mv (.t 0), none⟩,
   ⟨(some 4), .bin .geq (.t 3) (.c (.int .u8 48)), none⟩,
   ⟨(some 5), .mv (.t 4), none⟩,
   ⟨(some 6), .mv (.t 0), (some (5, true))⟩,
   ⟨(some 7), .bin .leq (.t 6) (.c (.int .u8 57)), (some (5, true))⟩,
   ⟨(some 8), .pick (.t 5) (.t 7) (.c (.bool false)), none⟩] [0, 8])
 (.cond (.t 8)
 (.seq (.ops [
    ⟨(some 9), .mv (.t 0), none⟩,
    ⟨(some 10), .bin .sub (.t 9) (.c (.int .u8 48)), none⟩,
    ⟨(some 11), .conv .i64 (.t 10), none⟩,
    ⟨(some 2), .mv (.t 11), none⟩] [2])
 .ret)
 .skip))
 (.seq (.seq (.ops [
   ⟨(some 12), .mv (.t 0), none⟩,
   ⟨(some 13), .bin .geq (.t 12) (.c (.int .u8 97)), none⟩,
   ⟨(some 14), .mv (.t 13), none⟩,
   ⟨(some 15), .mv (.t 0), (some (14, true))⟩,
   ⟨(some 16), .bin .leq (.t 15) (.c (.int .u8 102)), (some (14, true))⟩,
   ⟨(some 17), .pick (.t 14) (.t 16) (.c (.bool false)), none⟩] [0, 17])
 (.cond (.t 17)
 (.seq (.ops [
    ⟨(some 18), .mv (.t 0), none⟩,
    ⟨(some 19), .bin .sub (.t 18) (.c (.int .u8 97)), none⟩,
    ⟨(some 20), .conv .i64 (.t 19), none⟩,
    ⟨(some 21), .bin .add (.t 20) (.c (.int .i64 10)), none⟩,
    ⟨(some 2), .mv (.t 21), none⟩] [2])
 .ret)
 .skip))
 (.seq (.ops [
   ⟨(some 2), .mv (.c (.int .i64 (-1))), none⟩] [2])
 .ret)))
def ir_bandboxref1_digit : AFunc := ⟨1, 22, [.tmp 2],
 (.seq (.ops [
   ⟨(some 2), .mv (.c (.int .i64 0)), none⟩] [0])
 ir_bandboxref1_digit_3)⟩

def h_octet_FromBig : Hint := [(0, [0], []), (1, [0, 9], []), (2, [2, 3], []), (3, [0, 4], []), (4, [4, 10, 11, 12], []), (5, [4, 10, 11, 12, 13], []), (6, [4, 6, 10, 11, 12], []), (7, [4, 10, 11, 12], []), (8, [4, 10, 11, 12], []), (9, [2, 3], [])]
def ir_octet_FromBig : AFunc := ⟨1, 23, [.tmp 2, .tmp 3],
 (.seq (.ops [
   ⟨(some 2), .mv (.c (.int .u64 0)), none⟩,
   ⟨(some 3), .mv (.c (.int .i64 0)), none⟩] [0])
 (.seq (.seq (.ops [
   ⟨(some 7), .mv (.t 0), none⟩,
   ⟨(some 8), .lenS (.t 7), none⟩,
   ⟨(some 9), .bin .gtr (.t 8) (.c (.int .i64 8)), none⟩] [0, 9])
 (.cond (.t 9)
  (.seq (.ops [
    ⟨(some 2), .mv (.c (.int .u64 0)), none⟩,
    ⟨(some 3), .mv (.c (.int .i64 1)), none⟩] [2, 3])
  .ret)
  .skip))
 (.seq (.ops [
   ⟨(some 4), .mv (.c (.int .u64 0)), none⟩] [0, 4])
 (.seq (.seq (.ops [
   ⟨(some 10), .mv (.t 0), none⟩,
   ⟨(some 11), .lenS (.t 10), none⟩,
   ⟨(some 12), .mv (.c (.int .i64 0)), none⟩] [4, 10, 11, 12])
 (.block 0
  (.loop
   (.seq (.ops [
     ⟨(some 13), .bin .lss (.t 12) (.t 11), none⟩] [4, 10, 11, 12, 13])
   (.seq (.cond (.t 13)
    .skip
    (.exit 0))
   (.seq (.block 1
    (.seq (.ops [
      ⟨(some 14), .iaddrS 1 (.t 10) (.t 12), none⟩,
      ⟨(some 15), .load none (.t 14), none⟩,
      ⟨(some 6), .mv (.t 15), none⟩] [4, 6, 10, 11, 12])
    (.ops [
      ⟨(some 16), .mv (.t 4), none⟩,
      ⟨(some 17), .bin .shl (.t 16) (.c (.int .u64 8)), none⟩,
      ⟨(some 18), .mv (.t 6), none⟩,
      ⟨(some 19), .conv .u64 (.t 18), none⟩,
      ⟨(some 20), .bin .or (.t 17) (.t 19), none⟩,
      ⟨(some 4), .mv (.t 20), none⟩] [4, 10, 11, 12])))
   (.ops [
     ⟨(some 21), .bin .add (.t 12) (.c (.int .i64 1)), none⟩,
     ⟨(some 12), .mv (.t 21), none⟩] [4, 10, 11, 12])))))))
 (.seq (.ops [
   ⟨(some 22), .mv (.t 4), none⟩,
   ⟨(some 2), .mv (.t 22), none⟩,
   ⟨(some 3), .mv (.c (.int .i64 0)), none⟩] [2, 3])
 .ret)))))⟩

def h_octet_Turn : Hint := [(0, [0], []), (1, [3], []), (2, [3], []), (3, [2], [])]
def ir_octet_Turn : AFunc := ⟨1, 9, [.tmp 2],
 (.seq (.ops [
   ⟨(some 2), .mv (.c (.slice none 0 0)), none⟩] [0])
 (.seq (.ops [
   ⟨(some 4), .mv (.t 0), none⟩,
   ⟨(some 5), .call 55 [.t 4], none⟩,
   ⟨(some 3), .mv (.t 5), none⟩] [3])
 (.seq (.ops [
   ⟨(some 6), .mv (.t 3), none⟩,
   ⟨(some 7), .call 93 [.t 6], none⟩] [3])
 (.seq (.ops [
   ⟨(some 8), .mv (.t 3), none⟩,
   ⟨(some 2), .mv (.t 8), none⟩] [2])
 .ret))))⟩

def h_math_bits_Mul64 : Hint := [(0, [0, 1], []), (1, [0, 1, 6], []), (2, [0, 1, 6, 7], []), (3, [0, 1, 6, 7, 8], []), (4, [0, 1, 6, 7, 8, 9], []), (5, [0, 1, 6, 7, 8, 9, 10], []), (6, [0, 1, 6, 7, 9, 11], []), (7, [0, 1, 6, 7, 9, 11, 12], []), (8, [0, 1, 6, 7, 9, 12, 13], []), (9, [0, 1, 7, 9, 12, 13], []), (10, [0, 1, 4], []), (11, [4, 5], [])]
def ir_math_bits_Mul64 : AFunc := ⟨2, 51, [.tmp 4, .tmp 5],
 (.seq (.ops [
   ⟨(some 4), .mv (.c (.int .u64 0)), none⟩,
   ⟨(some 5), .mv (.c (.int .u64 0)), none⟩] [0, 1])
 (.seq (.ops [
   ⟨(some 14), .mv (.t 0), none⟩,
   ⟨(some 15), .bin .and (.t 14) (.c (.int .u64 4294967295)), none⟩,
   ⟨(some 6), .mv (.t 15), none⟩] [0, 1, 6])
 (.seq (.ops [
   ⟨(some 16), .mv (.t 0), none⟩,
   ⟨(some 17), .bin .shr (.t 16) (.c (.int .u64 32)), none⟩,
   ⟨(some 7), .mv (.t 17), none⟩] [0, 1, 6, 7])
 (.seq (.ops [
   ⟨(some 18), .mv (.t 1), none⟩,
   ⟨(some 19), .bin .and (.t 18) (.c (.int .u64 4294967295)), none⟩,
   ⟨(some 8), .mv (.t 19), none⟩] [0, 1, 6, 7, 8])
 (.seq (.ops [
   ⟨(some 20), .mv (.t 1), none⟩,
   ⟨(some 21), .bin .shr (.t 20) (.c (.int .u64 32)), none⟩,
   ⟨(some 9), .mv (.t 21), none⟩] [0, 1, 6, 7, 8, 9])
 (.seq (.ops [
   ⟨(some 22), .mv (.t 6), none⟩,
   ⟨(some 23), .mv (.t 8), none⟩,
   ⟨(some 24), .bin .mul (.t 22) (.t 23), none⟩,
   ⟨(some 10), .mv (.t 24), none⟩] [0, 1, 6, 7, 8, 9, 10])
 (.seq (.ops [
   ⟨(some 25), .mv (.t 7), none⟩,
   ⟨(some 26), .mv (.t 8), none⟩,
   ⟨(some 27), .bin .mul (.t 25) (.t 26), none⟩,
   ⟨(some 28), .mv (.t 10), none⟩,
   ⟨(some 29), .bin .shr (.t 28) (.c (.int .u64 32)), none⟩,
   ⟨(some 30), .bin .add (.t 27) (.t 29), none⟩,
   ⟨(some 11), .mv (.t 30), none⟩] [0, 1, 6, 7, 9, 11])
 (.seq (.ops [
   ⟨(some 31), .mv (.t 11), none⟩,
   ⟨(some 32), .bin .and (.t 31) (.c (.int .u64 4294967295)), none⟩,
   ⟨(some 12), .mv (.t 32), none⟩] [0, 1, 6, 7, 9, 11, 12])
 (.seq (.ops [
   ⟨(some 33), .mv (.t 11), none⟩,
   ⟨(some 34), .bin .shr (.t 33) (.c (.int .u64 32)), none⟩,
   ⟨(some 13), .mv (.t 34), none⟩] [0, 1, 6, 7, 9, 12, 13])
 (.seq (.ops [
   ⟨(some 35), .mv (.t 12), none⟩,
   ⟨(some 36), .mv (.t 6), none⟩,
   ⟨(some 37), .mv (.t 9), none⟩,
   ⟨(some 38), .bin .mul (.t 36) (.t 37), none⟩,
   ⟨(some 39), .bin .add (.t 35) (.t 38), none⟩,
   ⟨(some 12), .mv (.t 39), none⟩] [0, 1, 7, 9, 12, 13])
 (.seq (.ops [
   ⟨(some 40), .mv (.t 7), none⟩,
   ⟨(some 41), .mv (.t 9), none⟩,
   ⟨(some 42), .bin .mul (.t 40) (.t 41), none⟩,
   ⟨(some 43), .mv (.t 13), none⟩,
   ⟨(some 44), .bin .add (.t 42) (.t 43), none⟩,
   ⟨(some 45), .mv (.t 12), none⟩,
   ⟨(some 46), .bin .shr (.t 45) (.c (.int .u64 32)), none⟩,
   ⟨(some 47), .bin .add (.t 44) (.t 46), none⟩,
   ⟨(some 4), .mv (.t 47), none⟩] [0, 1, 4])
 (.seq (.ops [
   ⟨(some 48), .mv (.t 0), none⟩,
   ⟨(some 49), .mv (.t 1), none⟩,
   ⟨(some 50), .bin .mul (.t 48) (.t 49), none⟩,
   ⟨(some 5), .mv (.t 50), none⟩] [4, 5])
 .ret))))))))))))⟩

def h_slices_Reverse_byte_byte : Hint := [(0, [0, 2, 3], []), (1, [0, 2, 3, 9], []), (2, [0, 2, 3], []), (3, [0, 2, 3], [(0, 0), (1, 0), (4, 0), (5, 0), (6, 0), (7, 0), (8, 0), (9, 0), (10, 0), (11, 0), (12, 0), (13, 0), (2, 1), (3, 1), (14, 0), (15, 0)])]
def ir_slices_Reverse_byte_byte : AFunc := ⟨1, 28, [],
 (.seq (.ops [
   ⟨(some 4), .mv (.t 0), none⟩,
   ⟨(some 5), .lenS (.t 4), none⟩,
   ⟨(some 6), .bin .sub (.t 5) (.c (.int .i64 1)), none⟩,
   ⟨(some 2), .mv (.c (.int .i64 0)), none⟩,
   ⟨(some 3), .mv (.t 6), none⟩] [0, 2, 3])
 (.block 0
  (.loop
   (.seq (.seq (.ops [
     ⟨(some 7), .mv (.t 2), none⟩,
     ⟨(some 8), .mv (.t 3), none⟩,
     ⟨(some 9), .bin .lss (.t 7) (.t 8), none⟩] [0, 2, 3, 9])
   (.cond (.t 9)
    .skip
    (.exit 0)))
   (.seq (.block 1
    (.dops [
      ⟨0, (some 14), .mv (.t 0), none, 0⟩,
      ⟨1, (some 15), .mv (.t 2), none, 0⟩,
      ⟨4, (some 18), .mv (.t 0), none, 0⟩,
      ⟨5, (some 19), .mv (.t 3), none, 0⟩,
      ⟨6, (some 20), .iaddrS 1 (.t 18) (.t 19), none, 0⟩,
      ⟨7, (some 21), .load none (.t 20), none, 0⟩,
      ⟨8, (some 22), .mv (.t 0), none, 0⟩,
      ⟨9, (some 23), .mv (.t 2), none, 0⟩,
      ⟨10, (some 24), .iaddrS 1 (.t 22) (.t 23), none, 0⟩,
      ⟨11, (some 25), .load none (.t 24), none, 0⟩,
      ⟨12, (some 26), .iaddrS 1 (.t 14) (.t 15), none, 0⟩,
      ⟨13, none, .store 1 (.t 26) (.t 21), none, 0⟩,
      ⟨2, (some 16), .mv (.t 0), none, 1⟩,
      ⟨3, (some 17), .mv (.t 3), none, 1⟩,
      ⟨14, (some 27), .iaddrS 1 (.t 16) (.t 17), none, 0⟩,
      ⟨15, none, .store 1 (.t 27) (.t 25), none, 0⟩] [0, 2, 3]))
   (.ops [
     ⟨(some 10), .mv (.t 2), none⟩,
     ⟨(some 11), .bin .add (.t 10) (.c (.int .i64 1)), none⟩,
     ⟨(some 12), .mv (.t 3), none⟩,
     ⟨(some 13), .bin .sub (.t 12) (.c (.int .i64 1)), none⟩,
     ⟨(some 2), .mv (.t 11), none⟩,
     ⟨(some 3), .mv (.t 13), none⟩] [0, 2, 3]))))))⟩

def h_bandboxlaw5_PolyEnds : Hint := [(0, [1, 2, 3], []), (1, [1, 2, 3, 9], []), (2, [6], []), (3, [1, 2, 3, 20], []), (4, [6], []), (5, [1, 2, 3, 7], []), (6, [6], [(0, 0), (1, 0), (2, 0), (3, 0), (4, 1), (5, 1), (6, 0), (7, 0), (8, 0), (9, 0), (10, 0), (11, 0), (12, 0), (13, 0), (14, 0), (15, 1), (16, 1), (17, 0), (18, 0), (19, 0), (20, 0), (21, 0)])]
def ir_bandboxlaw5_PolyEnds_26 : ACode := (.seq (.dops [
   ⟨0, (some 26), .load (some 32) (.t 3), none, 0⟩,
   ⟨1, (some 27), .mv (.t 7), none, 0⟩,
   ⟨2, (some 28), .bslice 1 1 ([.slice none 0 0]) [(0, 1, .t 27)], none, 0⟩,
   ⟨3, (some 29), .call 38 [.t 26, .t 28], none, 0⟩,
   ⟨4, (some 30), .load (some 32) (.t 3), none, 1⟩,
   ⟨5, (some 31), .mv (.t 7), none, 1⟩,
   ⟨6, (some 32), .call 41 [.t 30, .t 31], none, 0⟩,
   ⟨7, (some 33), .eqa (List.replicate 16 (some .u8)) false (.t 29) (.t 32), none, 0⟩,
   ⟨8, (some 34), .mv (.t 33), none, 0⟩,
   ⟨9, (some 35), .load (some 32) (.t 3), (some (34, true)), 0⟩,
   ⟨10, (some 36), .mv (.t 1), (some (34, true)), 0⟩,
   ⟨11, (some 37), .mv (.t 2), (some (34, true)), 0⟩,
   ⟨12, (some 38), .mslice 1 ([.int .u8 0]) (.t 37) (.t 37), (some (34, true)), 0⟩,
   ⟨13, (some 39), .bslice 2 1 ([.slice none 0 0]) [(0, 1, .t 36), (1, 1, .t 38)], (some (34, true)), 0⟩,
   ⟨14, (some 40), .call 38 [.t 35, .t 39], (some (34, true)), 0⟩,
   ⟨15, (some 41), .load (some 32) (.t 3), (some (34, true)), 1⟩,
   ⟨16, (some 42), .mv (.t 7), (some (34, true)), 1⟩,
   ⟨17, (some 43), .bslice 1 1 ([.slice none 0 0]) [(0, 1, .t 42)], (some (34, true)), 0⟩,
   ⟨18, (some 44), .call 38 [.t 41, .t 43], (some (34, true)), 0⟩,
   ⟨19, (some 45), .eqa (List.replicate 16 (some .u8)) false (.t 40) (.t 44), (some (34, true)), 0⟩,
   ⟨20, (some 46), .pick (.t 34) (.t 45) (.c (.bool false)), none, 0⟩,
   ⟨21, (some 6), .mv (.t 46), none, 0⟩] [6])
 .ret)
def ir_bandboxlaw5_PolyEnds_8 : ACode := (.seq (.seq (.ops [
   ⟨(some 8), .call 37 [], none⟩,
   ⟨(some 9), .un .not (.t 8), none⟩] [1, 2, 3, 9])
 (.cond (.t 9)
 (.seq (.ops [
    ⟨(some 6), .mv (.c (.bool false)), none⟩] [6])
 .ret)
 .skip))
 (.seq (.seq (.ops [
   ⟨(some 10), .mv (.t 1), none⟩,
   ⟨(some 11), .lenS (.t 10), none⟩,
   ⟨(some 12), .bin .gtr (.t 11) (.c (.int .i64 200)), none⟩,
   ⟨(some 13), .mv (.t 12), none⟩,
   ⟨(some 14), .mv (.t 2), (some (13, false))⟩,
   ⟨(some 15), .bin .lss (.t 14) (.c (.int .i64 0)), (some (13, false))⟩,
   ⟨(some 16), .pick (.t 13) (.c (.bool true)) (.t 15), none⟩,
   ⟨(some 17), .mv (.t 16), none⟩,
   ⟨(some 18), .mv (.t 2), (some (17, false))⟩,
   ⟨(some 19), .bin .gtr (.t 18) (.c (.int .i64 40)), (some (17, false))⟩,
   ⟨(some 20), .pick (.t 17) (.c (.bool true)) (.t 19), none⟩] [1, 2, 3, 20])
 (.cond (.t 20)
 (.seq (.ops [
    ⟨(some 6), .mv (.c (.bool true)), none⟩] [6])
 .ret)
 .skip))
 (.seq (.ops [
   ⟨(some 21), .bslice 0 1 ([.int .u8 0]) [], none⟩,
   ⟨(some 22), .mv (.t 1), none⟩,
   ⟨(some 23), .append 1 1 (.t 21) (.t 22), none⟩,
   ⟨(some 24), .mv (.t 2), none⟩,
   ⟨(some 25), .appendZ 1 1 ([.int .u8 0]) (.t 23) (.t 24), none⟩,
   ⟨(some 7), .mv (.t 25), none⟩] [1, 2, 3, 7])
 ir_bandboxlaw5_PolyEnds_26)))
def ir_bandboxlaw5_PolyEnds : AFunc := ⟨3, 47, [.tmp 6],
 (.seq (.ops [
   ⟨(some 3), .box (.t 0), none⟩,
   ⟨(some 6), .mv (.c (.bool false)), none⟩] [1, 2, 3])
 ir_bandboxlaw5_PolyEnds_8)⟩

noncomputable def tabT : NT := (.node 68 (h_octet_Little, ir_octet_Little) (.node 43 (h_bandboxref4_Clamp, ir_bandboxref4_Clamp) (.node 39 (h_bandboxlaw5_word, ir_bandboxlaw5_word) (.node 37 (h_bandboxlaw5_awake, ir_bandboxlaw5_awake) (.node 12 (h_bandboxlaw5_PolySays, ir_bandboxlaw5_PolySays) .leaf .leaf) (.node 38 (h_poly_Tag, ir_poly_Tag) .leaf .leaf)) (.node 41 (h_bandboxref4_Tag, ir_bandboxref4_Tag) (.node 40 (h_poly_Clamp, ir_poly_Clamp) .leaf .leaf) (.node 42 (h_bandboxref1_Join, ir_bandboxref1_Join) .leaf .leaf))) (.node 64 (h_slices_Concat_byte_byte, ir_slices_Concat_byte_byte) (.node 59 (h_bandboxref1_Hex, ir_bandboxref1_Hex) (.node 55 (h_slices_Clone_byte_byte, ir_slices_Clone_byte_byte) .leaf .leaf) (.node 63 (h_poly_word, ir_poly_word) .leaf .leaf)) (.node 66 (h_poly_num_times, ir_poly_num_times) (.node 65 (h_poly_num_plus, ir_poly_num_plus) .leaf .leaf) (.node 67 (h_poly_num_last, ir_poly_num_last) .leaf .leaf)))) (.node 82 (h_poly_num_cut, ir_poly_num_cut) (.node 72 (h_bandboxref4_least, ir_bandboxref4_least) (.node 70 (h_bandboxref4_times, ir_bandboxref4_times) (.node 69 (h_bandboxref1_Unhex, ir_bandboxref1_Unhex) .leaf .leaf) (.node 71 (h_bandboxref4_plus, ir_bandboxref4_plus) .leaf .leaf)) (.node 80 (h_slices_Grow_byte_byte, ir_slices_Grow_byte_byte) (.node 79 (h_octet_FromLittle, ir_octet_FromLittle) .leaf .leaf) (.node 81 (h_poly_column, ir_poly_column) .leaf .leaf))) (.node 90 (h_math_bits_Mul64, ir_math_bits_Mul64) (.node 88 (h_octet_FromBig, ir_octet_FromBig) (.node 83 (h_bandboxref1_digit, ir_bandboxref1_digit) .leaf .leaf) (.node 89 (h_octet_Turn, ir_octet_Turn) .leaf .leaf)) (.node 97 (h_bandboxlaw5_PolyEnds, ir_bandboxlaw5_PolyEnds) (.node 93 (h_slices_Reverse_byte_byte, ir_slices_Reverse_byte_byte) .leaf .leaf) .leaf))))
noncomputable def tab : Nat → Option (Hint × AFunc) := tabT.find
abbrev n_bandboxlaw5_PolySays : Nat := 12
abbrev n_bandboxlaw5_awake : Nat := 37
abbrev n_poly_Tag : Nat := 38
abbrev n_bandboxlaw5_word : Nat := 39
abbrev n_poly_Clamp : Nat := 40
abbrev n_bandboxref4_Tag : Nat := 41
abbrev n_bandboxref1_Join : Nat := 42
abbrev n_bandboxref4_Clamp : Nat := 43
abbrev n_slices_Clone_byte_byte : Nat := 55
abbrev n_bandboxref1_Hex : Nat := 59
abbrev n_poly_word : Nat := 63
abbrev n_slices_Concat_byte_byte : Nat := 64
abbrev n_poly_num_plus : Nat := 65
abbrev n_poly_num_times : Nat := 66
abbrev n_poly_num_last : Nat := 67
abbrev n_octet_Little : Nat := 68
abbrev n_bandboxref1_Unhex : Nat := 69
abbrev n_bandboxref4_times : Nat := 70
abbrev n_bandboxref4_plus : Nat := 71
abbrev n_bandboxref4_least : Nat := 72
abbrev n_octet_FromLittle : Nat := 79
abbrev n_slices_Grow_byte_byte : Nat := 80
abbrev n_poly_column : Nat := 81
abbrev n_poly_num_cut : Nat := 82
abbrev n_bandboxref1_digit : Nat := 83
abbrev n_octet_FromBig : Nat := 88
abbrev n_octet_Turn : Nat := 89
abbrev n_math_bits_Mul64 : Nat := 90
abbrev n_slices_Reverse_byte_byte : Nat := 93
abbrev n_bandboxlaw5_PolyEnds : Nat := 97
end Go.Bb
