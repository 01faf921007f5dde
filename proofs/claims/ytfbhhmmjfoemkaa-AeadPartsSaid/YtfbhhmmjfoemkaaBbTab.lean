/- The functions that this claim reaches, in short form; printed by a program of mine. -/
import Derived.Test.YtfbhhmmjfoemkaaBbG3
namespace Go.Bb
set_option maxRecDepth 20000
def h_poly_Tag : Hint := [(0, [1, 2, 4], []), (1, [1, 2, 4, 5], []), (2, [1, 2, 4, 6], [(0, 0), (1, 0), (2, 1), (3, 0), (4, 0), (5, 0), (6, 0)]), (3, [1, 2, 4, 6, 7], []), (4, [2, 4, 6, 7, 8], []), (5, [2, 4, 6, 7, 8, 25], []), (6, [2, 4, 6, 7, 8, 9], []), (7, [2, 4, 6, 7, 8, 9, 10], []), (8, [2, 4, 6, 7, 8, 9, 10], []), (9, [2, 4, 6, 7, 8, 9], [(1, 0), (2, 0), (3, 0), (4, 1), (5, 1), (6, 0), (0, 2), (7, 2), (8, 2), (9, 2), (10, 2), (11, 0), (12, 0), (13, 3), (14, 0), (15, 0)]), (10, [2, 4, 6, 7, 8], []), (11, [4, 11], [(0, 0), (1, 0), (2, 1), (3, 0), (4, 2), (5, 0), (6, 0), (7, 0), (8, 0), (9, 0)]), (12, [4], [(0, 0), (1, 0), (2, 0), (3, 1), (4, 1), (5, 0), (6, 0), (7, 0), (8, 0)])]
def ir_poly_Tag : AFunc := ⟨2, 73, [.cell 4 (some 16)],
 (.seq (.ops [
   ⟨(some 2), .box (.t 0), none⟩,
   ⟨(some 4), .alloc (List.replicate 16 (.int .u8 0)), none⟩] [1, 2, 4])
 (.seq (.ops [
   ⟨(some 12), .slArr 32 1 (.t 2) none (some (.c (.int .i64 16))) none, none⟩,
   ⟨(some 13), .arrOf 16 (.t 12), none⟩,
   ⟨(some 14), .load (some 16) (.t 13), none⟩,
   ⟨(some 15), .call 40 [.t 14], none⟩,
   ⟨(some 5), .alloc (List.replicate 16 (.int .u8 0)), none⟩,
   ⟨none, .store 16 (.t 5) (.t 15), none⟩] [1, 2, 4, 5])
 (.seq (.dops [
   ⟨0, (some 16), .slArr 16 1 (.t 5) none (some (.c (.int .i64 8))) none, none, 0⟩,
   ⟨1, (some 17), .call 63 [.t 16], none, 0⟩,
   ⟨2, (some 18), .slArr 16 1 (.t 5) (some (.c (.int .i64 8))) none none, none, 1⟩,
   ⟨3, (some 19), .call 63 [.t 18], none, 0⟩,
   ⟨4, (some 20), .build ([.int .u64 0, .int .u64 0]) [(0, 1, .t 17), (1, 1, .t 19)], none, 0⟩,
   ⟨5, (some 6), .alloc ([.int .u64 0, .int .u64 0]), none, 0⟩,
   ⟨6, none, .store 2 (.t 6) (.t 20), none, 0⟩] [1, 2, 4, 6])
 (.seq (.ops [
   ⟨(some 7), .alloc ([.int .u64 0, .int .u64 0, .int .u64 0]), none⟩] [1, 2, 4, 6, 7])
 (.seq (.seq (.ops [
   ⟨(some 21), .mv (.t 1), none⟩,
   ⟨(some 22), .call 64 [.t 21], none⟩,
   ⟨(some 8), .mv (.t 22), none⟩] [2, 4, 6, 7, 8])
 (.block 0
  (.loop
   (.seq (.seq (.ops [
     ⟨(some 23), .mv (.t 8), none⟩,
     ⟨(some 24), .lenS (.t 23), none⟩,
     ⟨(some 25), .bin .gtr (.t 24) (.c (.int .i64 0)), none⟩] [2, 4, 6, 7, 8, 25])
   (.cond (.t 25)
    .skip
    (.exit 0)))
   (.block 1
    (.seq (.ops [
      ⟨(some 26), .mv (.t 8), none⟩,
      ⟨(some 27), .lenS (.t 26), none⟩,
      ⟨(some 28), .mn (.t 27) (.c (.int .i64 16)), none⟩,
      ⟨(some 9), .mv (.t 28), none⟩] [2, 4, 6, 7, 8, 9])
    (.seq (.ops [
      ⟨(some 29), .mv (.t 8), none⟩,
      ⟨(some 30), .mv (.t 9), none⟩,
      ⟨(some 31), .slSl 1 (.t 29) none (some (.t 30)) none, none⟩,
      ⟨(some 32), .call 55 [.t 31], none⟩,
      ⟨(some 33), .bslice 1 1 ([.int .u8 0]) [(0, 1, .c (.int .u8 1))], none⟩,
      ⟨(some 34), .append 1 1 (.t 32) (.t 33), none⟩,
      ⟨(some 10), .mv (.t 34), none⟩] [2, 4, 6, 7, 8, 9, 10])
    (.seq (.ops [
      ⟨(some 35), .mv (.t 10), none⟩,
      ⟨(some 36), .mv (.t 9), none⟩,
      ⟨(some 37), .bin .sub (.c (.int .i64 32)) (.t 36), none⟩,
      ⟨(some 38), .appendZ 1 1 ([.int .u8 0]) (.t 35) (.t 37), none⟩,
      ⟨(some 10), .mv (.t 38), none⟩] [2, 4, 6, 7, 8, 9, 10])
    (.seq (.dops [
      ⟨1, (some 40), .mv (.t 10), none, 0⟩,
      ⟨2, (some 41), .slSl 1 (.t 40) none (some (.c (.int .i64 8))) none, none, 0⟩,
      ⟨3, (some 42), .call 63 [.t 41], none, 0⟩,
      ⟨4, (some 43), .mv (.t 10), none, 1⟩,
      ⟨5, (some 44), .slSl 1 (.t 43) (some (.c (.int .i64 8))) (some (.c (.int .i64 16))) none, none, 1⟩,
      ⟨6, (some 45), .call 63 [.t 44], none, 0⟩,
      ⟨0, (some 39), .load (some 3) (.t 7), none, 2⟩,
      ⟨7, (some 46), .mv (.t 10), none, 2⟩,
      ⟨8, (some 47), .iaddrS 1 (.t 46) (.c (.int .i64 16)), none, 2⟩,
      ⟨9, (some 48), .load none (.t 47), none, 2⟩,
      ⟨10, (some 49), .conv .u64 (.t 48), none, 2⟩,
      ⟨11, (some 50), .build ([.int .u64 0, .int .u64 0, .int .u64 0]) [(0, 1, .t 42), (1, 1, .t 45), (2, 1, .t 49)], none, 0⟩,
      ⟨12, (some 51), .call 65 [.t 39, .t 50], none, 0⟩,
      ⟨13, (some 52), .load (some 2) (.t 6), none, 3⟩,
      ⟨14, (some 53), .call 66 [.t 51, .t 52], none, 0⟩,
      ⟨15, none, .store 3 (.t 7) (.t 53), none, 0⟩] [2, 4, 6, 7, 8, 9])
    (.ops [
      ⟨(some 54), .mv (.t 8), none⟩,
      ⟨(some 55), .mv (.t 9), none⟩,
      ⟨(some 56), .slSl 1 (.t 54) (some (.t 55)) none none, none⟩,
      ⟨(some 8), .mv (.t 56), none⟩] [2, 4, 6, 7, 8]))))))))))
 (.seq (.dops [
   ⟨0, (some 57), .load (some 3) (.t 7), none, 0⟩,
   ⟨1, (some 58), .call 67 [.t 57], none, 0⟩,
   ⟨2, (some 59), .slArr 32 1 (.t 2) (some (.c (.int .i64 16))) (some (.c (.int .i64 24))) none, none, 1⟩,
   ⟨3, (some 60), .call 63 [.t 59], none, 0⟩,
   ⟨4, (some 61), .slArr 32 1 (.t 2) (some (.c (.int .i64 24))) none none, none, 2⟩,
   ⟨5, (some 62), .call 63 [.t 61], none, 0⟩,
   ⟨6, (some 63), .build ([.int .u64 0, .int .u64 0, .int .u64 0]) [(0, 1, .t 60), (1, 1, .t 62)], none, 0⟩,
   ⟨7, (some 64), .call 65 [.t 58, .t 63], none, 0⟩,
   ⟨8, (some 11), .alloc ([.int .u64 0, .int .u64 0, .int .u64 0]), none, 0⟩,
   ⟨9, none, .store 3 (.t 11) (.t 64), none, 0⟩] [4, 11])
 (.seq (.dops [
   ⟨0, (some 65), .iaddrA 3 1 (.t 11) (.c (.int .i64 0)), none, 0⟩,
   ⟨1, (some 66), .load none (.t 65), none, 0⟩,
   ⟨2, (some 67), .call 68 [.c (.slice none 0 0), .t 66, .c (.int .i64 8)], none, 0⟩,
   ⟨3, (some 68), .iaddrA 3 1 (.t 11) (.c (.int .i64 1)), none, 1⟩,
   ⟨4, (some 69), .load none (.t 68), none, 1⟩,
   ⟨5, (some 70), .call 68 [.t 67, .t 69, .c (.int .i64 8)], none, 0⟩,
   ⟨6, (some 71), .arrOf 16 (.t 70), none, 0⟩,
   ⟨7, (some 72), .load (some 16) (.t 71), none, 0⟩,
   ⟨8, none, .store 16 (.t 4) (.t 72), none, 0⟩] [4])
 .ret)))))))⟩

def h_poly_Clamp : Hint := [(0, [1, 2], []), (1, [1, 2, 7, 8, 9], []), (2, [1, 2, 7, 8, 9, 10], []), (3, [1, 2, 4, 7, 8, 9], []), (4, [1, 2, 7, 8, 9], []), (5, [1, 2, 7, 8, 9], []), (6, [1, 2, 19, 20, 21], []), (7, [1, 2, 19, 20, 21, 22], []), (8, [1, 2, 6, 19, 20, 21], []), (9, [1, 2, 19, 20, 21], []), (10, [1, 2, 19, 20, 21], []), (11, [2], [])]
def ir_poly_Clamp : AFunc := ⟨1, 32, [.cell 2 (some 16)],
 (.seq (.ops [
   ⟨(some 1), .box (.t 0), none⟩,
   ⟨(some 2), .alloc (List.replicate 16 (.int .u8 0)), none⟩] [1, 2])
 (.seq (.seq (.ops [
   ⟨(some 7), .bslice 4 1 ([.int .i64 0]) [(0, 1, .c (.int .i64 3)), (1, 1, .c (.int .i64 7)), (2, 1, .c (.int .i64 11)), (3, 1, .c (.int .i64 15))], none⟩,
   ⟨(some 8), .lenS (.t 7), none⟩,
   ⟨(some 9), .mv (.c (.int .i64 0)), none⟩] [1, 2, 7, 8, 9])
 (.block 0
  (.loop
   (.seq (.ops [
     ⟨(some 10), .bin .lss (.t 9) (.t 8), none⟩] [1, 2, 7, 8, 9, 10])
   (.seq (.cond (.t 10)
    .skip
    (.exit 0))
   (.seq (.block 1
    (.seq (.ops [
      ⟨(some 11), .iaddrS 1 (.t 7) (.t 9), none⟩,
      ⟨(some 12), .load none (.t 11), none⟩,
      ⟨(some 4), .mv (.t 12), none⟩] [1, 2, 4, 7, 8, 9])
    (.ops [
      ⟨(some 13), .mv (.t 4), none⟩,
      ⟨(some 14), .iaddrA 16 1 (.t 1) (.t 13), none⟩,
      ⟨(some 15), .load none (.t 14), none⟩,
      ⟨(some 16), .bin .and (.t 15) (.c (.int .u8 15)), none⟩,
      ⟨(some 17), .iaddrA 16 1 (.t 1) (.t 13), none⟩,
      ⟨none, .store 1 (.t 17) (.t 16), none⟩] [1, 2, 7, 8, 9])))
   (.ops [
     ⟨(some 18), .bin .add (.t 9) (.c (.int .i64 1)), none⟩,
     ⟨(some 9), .mv (.t 18), none⟩] [1, 2, 7, 8, 9])))))))
 (.seq (.seq (.ops [
   ⟨(some 19), .bslice 3 1 ([.int .i64 0]) [(0, 1, .c (.int .i64 4)), (1, 1, .c (.int .i64 8)), (2, 1, .c (.int .i64 12))], none⟩,
   ⟨(some 20), .lenS (.t 19), none⟩,
   ⟨(some 21), .mv (.c (.int .i64 0)), none⟩] [1, 2, 19, 20, 21])
 (.block 2
  (.loop
   (.seq (.ops [
     ⟨(some 22), .bin .lss (.t 21) (.t 20), none⟩] [1, 2, 19, 20, 21, 22])
   (.seq (.cond (.t 22)
    .skip
    (.exit 2))
   (.seq (.block 3
    (.seq (.ops [
      ⟨(some 23), .iaddrS 1 (.t 19) (.t 21), none⟩,
      ⟨(some 24), .load none (.t 23), none⟩,
      ⟨(some 6), .mv (.t 24), none⟩] [1, 2, 6, 19, 20, 21])
    (.ops [
      ⟨(some 25), .mv (.t 6), none⟩,
      ⟨(some 26), .iaddrA 16 1 (.t 1) (.t 25), none⟩,
      ⟨(some 27), .load none (.t 26), none⟩,
      ⟨(some 28), .bin .and (.t 27) (.c (.int .u8 252)), none⟩,
      ⟨(some 29), .iaddrA 16 1 (.t 1) (.t 25), none⟩,
      ⟨none, .store 1 (.t 29) (.t 28), none⟩] [1, 2, 19, 20, 21])))
   (.ops [
     ⟨(some 30), .bin .add (.t 21) (.c (.int .i64 1)), none⟩,
     ⟨(some 21), .mv (.t 30), none⟩] [1, 2, 19, 20, 21])))))))
 (.seq (.ops [
   ⟨(some 31), .load (some 16) (.t 1), none⟩,
   ⟨none, .store 16 (.t 2) (.t 31), none⟩] [2])
 .ret))))⟩

def h_bandboxref4_Tag : Hint := [(0, [1, 2, 4], []), (1, [1, 2, 4, 5], []), (2, [1, 2, 4, 5], [(0, 0), (1, 0), (2, 0)]), (3, [1, 2, 4, 6], []), (4, [1, 2, 4, 6, 7], []), (5, [1, 2, 4, 6, 7, 8], []), (6, [1, 2, 4, 6, 7, 8, 25], []), (7, [1, 2, 4, 6, 7, 8], []), (8, [1, 2, 4, 6, 7, 8], []), (9, [1, 2, 4, 7, 9], []), (10, [1, 2, 4, 7, 9, 10], []), (11, [1, 2, 4, 7, 9, 10, 37], []), (12, [1, 2, 4, 7, 9, 10], []), (13, [1, 2, 4, 7, 9, 10, 11], []), (14, [1, 2, 4, 7, 9, 10, 11, 12], []), (15, [1, 2, 4, 7, 9, 10, 11, 12, 45], []), (16, [1, 2, 4, 7, 9, 10, 11, 12], []), (17, [1, 2, 4, 7, 9, 10, 11, 12, 13], []), (18, [1, 2, 4, 7, 9, 10, 11, 12, 13, 48], []), (19, [1, 2, 4, 7, 9, 10, 11, 12, 13], []), (20, [1, 2, 4, 7, 9, 10, 11, 12, 13], []), (21, [1, 2, 4, 7, 9, 10, 11], []), (22, [1, 2, 4, 7, 9, 10], [(0, 0), (1, 0), (2, 0), (3, 1), (4, 0), (5, 0)]), (23, [2, 4, 9], []), (24, [2, 4, 9, 14], []), (25, [2, 4, 9, 14, 15], []), (26, [2, 4, 9, 14, 15, 70], []), (27, [2, 4, 9, 14, 15], []), (28, [2, 4, 9, 14, 15], []), (29, [4, 9], []), (30, [4, 9, 16], []), (31, [4, 9, 16, 17], []), (32, [4, 9, 16, 17, 85], []), (33, [4, 9, 16, 17], []), (34, [4, 9, 16, 17], []), (35, [4], [])]
def ir_bandboxref4_Tag_83 : ACode := (.seq (.ops [
   ⟨(some 83), .build (List.replicate 16 (.int .u8 0)) [], none⟩,
   ⟨(some 16), .alloc (List.replicate 16 (.int .u8 0)), none⟩,
   ⟨none, .store 16 (.t 16) (.t 83), none⟩] [4, 9, 16])
 (.seq (.seq (.ops [
   ⟨(some 17), .mv (.c (.int .i64 0)), none⟩] [4, 9, 16, 17])
 (.block 8 (.loop (.seq (.seq (.ops [
     ⟨(some 84), .mv (.t 17), none⟩,
     ⟨(some 85), .bin .lss (.t 84) (.c (.int .i64 16)), none⟩] [4, 9, 16, 17, 85])
 (.cond (.t 85)
 .skip
 (.exit 8)))
 (.seq (.block 9 (.ops [
      ⟨(some 88), .mv (.t 17), none⟩,
      ⟨(some 89), .mv (.t 17), none⟩,
      ⟨(some 90), .iaddrA 17 1 (.t 9) (.t 89), none⟩,
      ⟨(some 91), .load none (.t 90), none⟩,
      ⟨(some 92), .conv .u8 (.t 91), none⟩,
      ⟨(some 93), .iaddrA 16 1 (.t 16) (.t 88), none⟩,
      ⟨none, .store 1 (.t 93) (.t 92), none⟩] [4, 9, 16, 17]))
 (.ops [
     ⟨(some 86), .mv (.t 17), none⟩,
     ⟨(some 87), .bin .add (.t 86) (.c (.int .i64 1)), none⟩,
     ⟨(some 17), .mv (.t 87), none⟩] [4, 9, 16, 17]))))))
 (.seq (.ops [
   ⟨(some 94), .load (some 16) (.t 16), none⟩,
   ⟨none, .store 16 (.t 4) (.t 94), none⟩] [4])
 .ret)))
def ir_bandboxref4_Tag_14 : ACode := (.seq (.ops [
   ⟨(some 14), .alloc (List.replicate 17 (.int .u32 0)), none⟩] [2, 4, 9, 14])
 (.seq (.seq (.ops [
   ⟨(some 15), .mv (.c (.int .i64 0)), none⟩] [2, 4, 9, 14, 15])
 (.block 6 (.loop (.seq (.seq (.ops [
     ⟨(some 69), .mv (.t 15), none⟩,
     ⟨(some 70), .bin .lss (.t 69) (.c (.int .i64 16)), none⟩] [2, 4, 9, 14, 15, 70])
 (.cond (.t 70)
 .skip
 (.exit 6)))
 (.seq (.block 7 (.ops [
      ⟨(some 73), .mv (.t 15), none⟩,
      ⟨(some 74), .mv (.t 15), none⟩,
      ⟨(some 75), .bin .add (.c (.int .i64 16)) (.t 74), none⟩,
      ⟨(some 76), .iaddrA 32 1 (.t 2) (.t 75), none⟩,
      ⟨(some 77), .load none (.t 76), none⟩,
      ⟨(some 78), .conv .u32 (.t 77), none⟩,
      ⟨(some 79), .iaddrA 17 1 (.t 14) (.t 73), none⟩,
      ⟨none, .store 1 (.t 79) (.t 78), none⟩] [2, 4, 9, 14, 15]))
 (.ops [
     ⟨(some 71), .mv (.t 15), none⟩,
     ⟨(some 72), .bin .add (.t 71) (.c (.int .i64 1)), none⟩,
     ⟨(some 15), .mv (.t 72), none⟩] [2, 4, 9, 14, 15]))))))
 (.seq (.ops [
   ⟨(some 80), .load (some 17) (.t 9), none⟩,
   ⟨(some 81), .load (some 17) (.t 14), none⟩,
   ⟨(some 82), .call 71 [.t 80, .t 81], none⟩,
   ⟨none, .store 17 (.t 9) (.t 82), none⟩] [4, 9])
 ir_bandboxref4_Tag_83)))
def ir_bandboxref4_Tag_60 : ACode := (.seq (.ops [
      ⟨(some 60), .mv (.t 12), none⟩,
      ⟨(some 61), .iaddrA 17 1 (.t 11) (.t 60), none⟩,
      ⟨none, .store 1 (.t 61) (.c (.int .u32 1)), none⟩] [1, 2, 4, 7, 9, 10, 11])
 (.dops [
      ⟨0, (some 62), .load (some 17) (.t 9), none, 0⟩,
      ⟨1, (some 63), .load (some 17) (.t 11), none, 0⟩,
      ⟨2, (some 64), .call 71 [.t 62, .t 63], none, 0⟩,
      ⟨3, (some 65), .load (some 17) (.t 7), none, 1⟩,
      ⟨4, (some 66), .call 70 [.t 64, .t 65], none, 0⟩,
      ⟨5, none, .store 17 (.t 9) (.t 66), none, 0⟩] [1, 2, 4, 7, 9, 10]))
def ir_bandboxref4_Tag_13 : ACode := (.seq (.seq (.ops [
      ⟨(some 13), .mv (.c (.int .i64 0)), none⟩] [1, 2, 4, 7, 9, 10, 11, 12, 13])
 (.block 4 (.loop (.seq (.seq (.ops [
        ⟨(some 46), .mv (.t 13), none⟩,
        ⟨(some 47), .mv (.t 12), none⟩,
        ⟨(some 48), .bin .lss (.t 46) (.t 47), none⟩] [1, 2, 4, 7, 9, 10, 11, 12, 13, 48])
 (.cond (.t 48)
 .skip
 (.exit 4)))
 (.seq (.block 5 (.ops [
         ⟨(some 51), .mv (.t 13), none⟩,
         ⟨(some 52), .mv (.t 1), none⟩,
         ⟨(some 53), .mv (.t 10), none⟩,
         ⟨(some 54), .mv (.t 13), none⟩,
         ⟨(some 55), .bin .add (.t 53) (.t 54), none⟩,
         ⟨(some 56), .iaddrS 1 (.t 52) (.t 55), none⟩,
         ⟨(some 57), .load none (.t 56), none⟩,
         ⟨(some 58), .conv .u32 (.t 57), none⟩,
         ⟨(some 59), .iaddrA 17 1 (.t 11) (.t 51), none⟩,
         ⟨none, .store 1 (.t 59) (.t 58), none⟩] [1, 2, 4, 7, 9, 10, 11, 12, 13]))
 (.ops [
        ⟨(some 49), .mv (.t 13), none⟩,
        ⟨(some 50), .bin .add (.t 49) (.c (.int .i64 1)), none⟩,
        ⟨(some 13), .mv (.t 50), none⟩] [1, 2, 4, 7, 9, 10, 11, 12, 13]))))))
 ir_bandboxref4_Tag_60)
def ir_bandboxref4_Tag_10 : ACode := (.seq (.seq (.ops [
   ⟨(some 10), .mv (.c (.int .i64 0)), none⟩] [1, 2, 4, 7, 9, 10])
 (.block 2 (.loop (.seq (.seq (.ops [
     ⟨(some 34), .mv (.t 10), none⟩,
     ⟨(some 35), .mv (.t 1), none⟩,
     ⟨(some 36), .lenS (.t 35), none⟩,
     ⟨(some 37), .bin .lss (.t 34) (.t 36), none⟩] [1, 2, 4, 7, 9, 10, 37])
 (.cond (.t 37)
 .skip
 (.exit 2)))
 (.seq (.block 3 (.seq (.ops [
      ⟨(some 11), .alloc (List.replicate 17 (.int .u32 0)), none⟩] [1, 2, 4, 7, 9, 10, 11])
 (.seq (.ops [
      ⟨(some 40), .mv (.t 1), none⟩,
      ⟨(some 41), .lenS (.t 40), none⟩,
      ⟨(some 42), .mv (.t 10), none⟩,
      ⟨(some 43), .bin .sub (.t 41) (.t 42), none⟩,
      ⟨(some 12), .mv (.t 43), none⟩] [1, 2, 4, 7, 9, 10, 11, 12])
 (.seq (.seq (.ops [
      ⟨(some 44), .mv (.t 12), none⟩,
      ⟨(some 45), .bin .gtr (.t 44) (.c (.int .i64 16)), none⟩] [1, 2, 4, 7, 9, 10, 11, 12, 45])
 (.cond (.t 45)
 (.ops [
       ⟨(some 12), .mv (.c (.int .i64 16)), none⟩] [1, 2, 4, 7, 9, 10, 11, 12])
 .skip))
 ir_bandboxref4_Tag_13))))
 (.ops [
     ⟨(some 38), .mv (.t 10), none⟩,
     ⟨(some 39), .bin .add (.t 38) (.c (.int .i64 16)), none⟩,
     ⟨(some 10), .mv (.t 39), none⟩] [1, 2, 4, 7, 9, 10]))))))
 (.seq (.ops [
   ⟨(some 67), .load (some 17) (.t 9), none⟩,
   ⟨(some 68), .call 72 [.t 67], none⟩,
   ⟨none, .store 17 (.t 9) (.t 68), none⟩] [2, 4, 9])
 ir_bandboxref4_Tag_14))
def ir_bandboxref4_Tag_22 : ACode := (.seq (.ops [
   ⟨(some 22), .load (some 16) (.t 5), none⟩,
   ⟨(some 23), .call 43 [.t 22], none⟩,
   ⟨(some 6), .alloc (List.replicate 16 (.int .u8 0)), none⟩,
   ⟨none, .store 16 (.t 6) (.t 23), none⟩] [1, 2, 4, 6])
 (.seq (.ops [
   ⟨(some 7), .alloc (List.replicate 17 (.int .u32 0)), none⟩] [1, 2, 4, 6, 7])
 (.seq (.seq (.ops [
   ⟨(some 8), .mv (.c (.int .i64 0)), none⟩] [1, 2, 4, 6, 7, 8])
 (.block 0 (.loop (.seq (.seq (.ops [
     ⟨(some 24), .mv (.t 8), none⟩,
     ⟨(some 25), .bin .lss (.t 24) (.c (.int .i64 16)), none⟩] [1, 2, 4, 6, 7, 8, 25])
 (.cond (.t 25)
 .skip
 (.exit 0)))
 (.seq (.block 1 (.ops [
      ⟨(some 28), .mv (.t 8), none⟩,
      ⟨(some 29), .mv (.t 8), none⟩,
      ⟨(some 30), .iaddrA 16 1 (.t 6) (.t 29), none⟩,
      ⟨(some 31), .load none (.t 30), none⟩,
      ⟨(some 32), .conv .u32 (.t 31), none⟩,
      ⟨(some 33), .iaddrA 17 1 (.t 7) (.t 28), none⟩,
      ⟨none, .store 1 (.t 33) (.t 32), none⟩] [1, 2, 4, 6, 7, 8]))
 (.ops [
     ⟨(some 26), .mv (.t 8), none⟩,
     ⟨(some 27), .bin .add (.t 26) (.c (.int .i64 1)), none⟩,
     ⟨(some 8), .mv (.t 27), none⟩] [1, 2, 4, 6, 7, 8]))))))
 (.seq (.ops [
   ⟨(some 9), .alloc (List.replicate 17 (.int .u32 0)), none⟩] [1, 2, 4, 7, 9])
 ir_bandboxref4_Tag_10))))
def ir_bandboxref4_Tag : AFunc := ⟨2, 95, [.cell 4 (some 16)],
 (.seq (.ops [
   ⟨(some 2), .box (.t 0), none⟩,
   ⟨(some 4), .alloc (List.replicate 16 (.int .u8 0)), none⟩] [1, 2, 4])
 (.seq (.ops [
   ⟨(some 18), .build (List.replicate 16 (.int .u8 0)) [], none⟩,
   ⟨(some 5), .alloc (List.replicate 16 (.int .u8 0)), none⟩,
   ⟨none, .store 16 (.t 5) (.t 18), none⟩] [1, 2, 4, 5])
 (.seq (.dops [
   ⟨0, (some 19), .slArr 16 1 (.t 5) none none none, none, 0⟩,
   ⟨1, (some 20), .slArr 32 1 (.t 2) none (some (.c (.int .i64 16))) none, none, 0⟩,
   ⟨2, (some 21), .copy 1 (.t 19) (.t 20), none, 0⟩] [1, 2, 4, 5])
 ir_bandboxref4_Tag_22)))⟩

def h_bandboxref1_Join : Hint := [(0, [0], []), (1, [0, 3], []), (2, [0, 3, 4], []), (3, [0, 3, 4, 8], []), (4, [0, 3, 4], []), (5, [0, 3, 4], []), (6, [2], [])]
def ir_bandboxref1_Join : AFunc := ⟨1, 18, [.tmp 2],
 (.seq (.ops [
   ⟨(some 2), .mv (.c (.slice none 0 0)), none⟩] [0])
 (.seq (.ops [
   ⟨(some 3), .mv (.c (.slice none 0 0)), none⟩] [0, 3])
 (.seq (.seq (.ops [
   ⟨(some 4), .mv (.c (.int .i64 0)), none⟩] [0, 3, 4])
 (.block 0 (.loop (.seq (.seq (.ops [
     ⟨(some 5), .mv (.t 4), none⟩,
     ⟨(some 6), .mv (.t 0), none⟩,
     ⟨(some 7), .lenS (.t 6), none⟩,
     ⟨(some 8), .bin .lss (.t 5) (.t 7), none⟩] [0, 3, 4, 8])
 (.cond (.t 8)
 .skip
 (.exit 0)))
 (.seq (.block 1 (.ops [
      ⟨(some 11), .mv (.t 3), none⟩,
      ⟨(some 12), .mv (.t 0), none⟩,
      ⟨(some 13), .mv (.t 4), none⟩,
      ⟨(some 14), .iaddrS 1 (.t 12) (.t 13), none⟩,
      ⟨(some 15), .load none (.t 14), none⟩,
      ⟨(some 16), .append 1 1 (.t 11) (.t 15), none⟩,
      ⟨(some 3), .mv (.t 16), none⟩] [0, 3, 4]))
 (.ops [
     ⟨(some 9), .mv (.t 4), none⟩,
     ⟨(some 10), .bin .add (.t 9) (.c (.int .i64 1)), none⟩,
     ⟨(some 4), .mv (.t 10), none⟩] [0, 3, 4]))))))
 (.seq (.ops [
   ⟨(some 17), .mv (.t 3), none⟩,
   ⟨(some 2), .mv (.t 17), none⟩] [2])
 .ret))))⟩

def h_bandboxref4_Clamp : Hint := [(0, [1, 2], []), (1, [1, 2, 3], []), (2, [1, 2, 3, 6], []), (3, [1, 2, 3], []), (4, [1, 2, 3], []), (5, [1, 2, 4], []), (6, [1, 2, 4, 16], []), (7, [1, 2, 4], []), (8, [1, 2, 4], []), (9, [2], [])]
def ir_bandboxref4_Clamp_4 : ACode := (.seq (.seq (.ops [
   ⟨(some 4), .mv (.c (.int .i64 4)), none⟩] [1, 2, 4])
 (.block 2 (.loop (.seq (.seq (.ops [
     ⟨(some 15), .mv (.t 4), none⟩,
     ⟨(some 16), .bin .lss (.t 15) (.c (.int .i64 16)), none⟩] [1, 2, 4, 16])
 (.cond (.t 16)
 .skip
 (.exit 2)))
 (.seq (.block 3 (.ops [
      ⟨(some 19), .mv (.t 4), none⟩,
      ⟨(some 20), .mv (.t 4), none⟩,
      ⟨(some 21), .iaddrA 16 1 (.t 1) (.t 20), none⟩,
      ⟨(some 22), .load none (.t 21), none⟩,
      ⟨(some 23), .bin .and (.t 22) (.c (.int .u8 252)), none⟩,
      ⟨(some 24), .iaddrA 16 1 (.t 1) (.t 19), none⟩,
      ⟨none, .store 1 (.t 24) (.t 23), none⟩] [1, 2, 4]))
 (.ops [
     ⟨(some 17), .mv (.t 4), none⟩,
     ⟨(some 18), .bin .add (.t 17) (.c (.int .i64 4)), none⟩,
     ⟨(some 4), .mv (.t 18), none⟩] [1, 2, 4]))))))
 (.seq (.ops [
   ⟨(some 25), .load (some 16) (.t 1), none⟩,
   ⟨none, .store 16 (.t 2) (.t 25), none⟩] [2])
 .ret))
def ir_bandboxref4_Clamp : AFunc := ⟨1, 26, [.cell 2 (some 16)],
 (.seq (.ops [
   ⟨(some 1), .box (.t 0), none⟩,
   ⟨(some 2), .alloc (List.replicate 16 (.int .u8 0)), none⟩] [1, 2])
 (.seq (.seq (.ops [
   ⟨(some 3), .mv (.c (.int .i64 3)), none⟩] [1, 2, 3])
 (.block 0 (.loop (.seq (.seq (.ops [
     ⟨(some 5), .mv (.t 3), none⟩,
     ⟨(some 6), .bin .lss (.t 5) (.c (.int .i64 16)), none⟩] [1, 2, 3, 6])
 (.cond (.t 6)
 .skip
 (.exit 0)))
 (.seq (.block 1 (.ops [
      ⟨(some 9), .mv (.t 3), none⟩,
      ⟨(some 10), .mv (.t 3), none⟩,
      ⟨(some 11), .iaddrA 16 1 (.t 1) (.t 10), none⟩,
      ⟨(some 12), .load none (.t 11), none⟩,
      ⟨(some 13), .bin .and (.t 12) (.c (.int .u8 15)), none⟩,
      ⟨(some 14), .iaddrA 16 1 (.t 1) (.t 9), none⟩,
      ⟨none, .store 1 (.t 14) (.t 13), none⟩] [1, 2, 3]))
 (.ops [
     ⟨(some 7), .mv (.t 3), none⟩,
     ⟨(some 8), .bin .add (.t 7) (.c (.int .i64 4)), none⟩,
     ⟨(some 3), .mv (.t 8), none⟩] [1, 2, 3]))))))
 ir_bandboxref4_Clamp_4))⟩

def h_slices_Clone_byte_byte : Hint := [(0, [0], []), (1, [0, 4], []), (2, [2], []), (3, [2], [])]
def ir_slices_Clone_byte_byte : AFunc := ⟨1, 8, [.tmp 2],
 (.seq (.ops [
   ⟨(some 2), .mv (.c (.slice none 0 0)), none⟩] [0])
 (.seq (.seq (.ops [
   ⟨(some 3), .mv (.t 0), none⟩,
   ⟨(some 4), .eqv .slice false (.t 3) (.c (.slice none 0 0)), none⟩] [0, 4])
 (.cond (.t 4)
  (.seq (.ops [
    ⟨(some 2), .mv (.c (.slice none 0 0)), none⟩] [2])
  .ret)
  .skip))
 (.seq (.ops [
   ⟨(some 5), .bslice 0 1 ([.int .u8 0]) [], none⟩,
   ⟨(some 6), .mv (.t 0), none⟩,
   ⟨(some 7), .append 1 1 (.t 5) (.t 6), none⟩,
   ⟨(some 2), .mv (.t 7), none⟩] [2])
 .ret)))⟩

def h_bandboxref1_Hex : Hint := [(0, [0], []), (1, [0, 3], []), (2, [0, 3, 4], []), (3, [0, 3, 4, 12], []), (4, [0, 3, 4], []), (5, [0, 3, 4], [(0, 0), (1, 0), (2, 0), (3, 0), (4, 0), (5, 0), (6, 0), (7, 0), (8, 0), (9, 0), (10, 0), (11, 0), (12, 0), (13, 0), (14, 0), (15, 0)]), (6, [2], [])]
def ir_bandboxref1_Hex_15 : ACode := (.seq (.block 1 (.dops [
      ⟨0, (some 15), .mv (.t 3), none, 0⟩,
      ⟨1, (some 16), .mv (.t 0), none, 0⟩,
      ⟨2, (some 17), .mv (.t 4), none, 0⟩,
      ⟨3, (some 18), .iaddrS 1 (.t 16) (.t 17), none, 0⟩,
      ⟨4, (some 19), .load none (.t 18), none, 0⟩,
      ⟨5, (some 20), .bin .shr (.t 19) (.c (.int .u64 4)), none, 0⟩,
      ⟨6, (some 21), .idxS (.c (.string ⟨#[48, 49, 50, 51, 52, 53, 54, 55, 56, 57, 97, 98, 99, 100, 101, 102]⟩)) (.t 20), none, 0⟩,
      ⟨7, (some 22), .mv (.t 0), none, 0⟩,
      ⟨8, (some 23), .mv (.t 4), none, 0⟩,
      ⟨9, (some 24), .iaddrS 1 (.t 22) (.t 23), none, 0⟩,
      ⟨10, (some 25), .load none (.t 24), none, 0⟩,
      ⟨11, (some 26), .bin .and (.t 25) (.c (.int .u8 15)), none, 0⟩,
      ⟨12, (some 27), .idxS (.c (.string ⟨#[48, 49, 50, 51, 52, 53, 54, 55, 56, 57, 97, 98, 99, 100, 101, 102]⟩)) (.t 26), none, 0⟩,
      ⟨13, (some 28), .bslice 2 1 ([.int .u8 0]) [(0, 1, .t 21), (1, 1, .t 27)], none, 0⟩,
      ⟨14, (some 29), .append 1 1 (.t 15) (.t 28), none, 0⟩,
      ⟨15, (some 3), .mv (.t 29), none, 0⟩] [0, 3, 4]))
 (.ops [
     ⟨(some 13), .mv (.t 4), none⟩,
     ⟨(some 14), .bin .add (.t 13) (.c (.int .i64 1)), none⟩,
     ⟨(some 4), .mv (.t 14), none⟩] [0, 3, 4]))
def ir_bandboxref1_Hex : AFunc := ⟨1, 32, [.tmp 2],
 (.seq (.ops [
   ⟨(some 2), .mv (.c (.string .empty)), none⟩] [0])
 (.seq (.ops [
   ⟨(some 5), .mv (.t 0), none⟩,
   ⟨(some 6), .lenS (.t 5), none⟩,
   ⟨(some 7), .bin .mul (.c (.int .i64 2)) (.t 6), none⟩,
   ⟨(some 8), .mslice 1 ([.int .u8 0]) (.c (.int .i64 0)) (.t 7), none⟩,
   ⟨(some 3), .mv (.t 8), none⟩] [0, 3])
 (.seq (.seq (.ops [
   ⟨(some 4), .mv (.c (.int .i64 0)), none⟩] [0, 3, 4])
 (.block 0 (.loop (.seq (.seq (.ops [
     ⟨(some 9), .mv (.t 4), none⟩,
     ⟨(some 10), .mv (.t 0), none⟩,
     ⟨(some 11), .lenS (.t 10), none⟩,
     ⟨(some 12), .bin .lss (.t 9) (.t 11), none⟩] [0, 3, 4, 12])
 (.cond (.t 12)
 .skip
 (.exit 0)))
 ir_bandboxref1_Hex_15))))
 (.seq (.ops [
   ⟨(some 30), .mv (.t 3), none⟩,
   ⟨(some 31), .strOf (.t 30), none⟩,
   ⟨(some 2), .mv (.t 31), none⟩] [2])
 .ret))))⟩

def h_octet_Big : Hint := [(0, [0, 1, 2], []), (1, [1, 2, 7], []), (2, [1, 7, 8], []), (3, [1, 7, 8, 16], []), (4, [1, 7, 8], []), (5, [1, 7, 8], []), (6, [6], [])]
def ir_octet_Big : AFunc := ⟨3, 28, [.tmp 6],
 (.seq (.ops [
   ⟨(some 6), .mv (.c (.slice none 0 0)), none⟩] [0, 1, 2])
 (.seq (.ops [
   ⟨(some 9), .mv (.t 0), none⟩,
   ⟨(some 10), .call 55 [.t 9], none⟩,
   ⟨(some 7), .mv (.t 10), none⟩] [1, 2, 7])
 (.seq (.seq (.ops [
   ⟨(some 11), .mv (.t 2), none⟩,
   ⟨(some 12), .mn (.t 11) (.c (.int .i64 8)), none⟩,
   ⟨(some 13), .mx (.t 12) (.c (.int .i64 0)), none⟩,
   ⟨(some 14), .bin .sub (.t 13) (.c (.int .i64 1)), none⟩,
   ⟨(some 8), .mv (.t 14), none⟩] [1, 7, 8])
 (.block 0
  (.loop
   (.seq (.seq (.ops [
     ⟨(some 15), .mv (.t 8), none⟩,
     ⟨(some 16), .bin .geq (.t 15) (.c (.int .i64 0)), none⟩] [1, 7, 8, 16])
   (.cond (.t 16)
    .skip
    (.exit 0)))
   (.seq (.block 1
    (.ops [
      ⟨(some 19), .mv (.t 7), none⟩,
      ⟨(some 20), .mv (.t 1), none⟩,
      ⟨(some 21), .mv (.t 8), none⟩,
      ⟨(some 22), .bin .mul (.c (.int .i64 8)) (.t 21), none⟩,
      ⟨(some 23), .bin .shr (.t 20) (.t 22), none⟩,
      ⟨(some 24), .conv .u8 (.t 23), none⟩,
      ⟨(some 25), .bslice 1 1 ([.int .u8 0]) [(0, 1, .t 24)], none⟩,
      ⟨(some 26), .append 1 1 (.t 19) (.t 25), none⟩,
      ⟨(some 7), .mv (.t 26), none⟩] [1, 7, 8]))
   (.ops [
     ⟨(some 17), .mv (.t 8), none⟩,
     ⟨(some 18), .bin .sub (.t 17) (.c (.int .i64 1)), none⟩,
     ⟨(some 8), .mv (.t 18), none⟩] [1, 7, 8]))))))
 (.seq (.ops [
   ⟨(some 27), .mv (.t 7), none⟩,
   ⟨(some 6), .mv (.t 27), none⟩] [6])
 .ret))))⟩

def h_poly_word : Hint := [(0, [0], []), (1, [3], []), (2, [2], [])]
def ir_poly_word : AFunc := ⟨1, 11, [.tmp 2],
 (.seq (.ops [
   ⟨(some 2), .mv (.c (.int .u64 0)), none⟩] [0])
 (.seq (.ops [
   ⟨(some 6), .mv (.t 0), none⟩,
   ⟨(some 7), .call 79 [.t 6], none⟩,
   ⟨(some 5), .mv (.t 7), none⟩,
   ⟨(some 8), .ext (.t 5) 0, none⟩,
   ⟨(some 9), .ext (.t 5) 1, none⟩,
   ⟨(some 3), .mv (.t 8), none⟩,
   ⟨(some 4), .mv (.t 9), none⟩] [3])
 (.seq (.ops [
   ⟨(some 10), .mv (.t 3), none⟩,
   ⟨(some 2), .mv (.t 10), none⟩] [2])
 .ret)))⟩

def h_slices_Concat_byte_byte : Hint := [(0, [0], []), (1, [0, 3], []), (2, [0, 3, 9, 10, 11], []), (3, [0, 3, 9, 10, 11, 12], []), (4, [0, 3, 5, 9, 10, 11], []), (5, [0, 3, 9, 10, 11], []), (6, [0, 3, 9, 10, 11, 20], []), (7, [0, 3, 9, 10, 11], []), (8, [0, 3, 9, 10, 11], []), (9, [0, 6], []), (10, [6, 25, 26, 27], []), (11, [6, 25, 26, 27, 28], []), (12, [6, 8, 25, 26, 27], []), (13, [6, 25, 26, 27], []), (14, [6, 25, 26, 27], []), (15, [2], [])]
def ir_slices_Concat_byte_byte : AFunc := ⟨1, 36, [.tmp 2],
 (.seq (.ops [
   ⟨(some 2), .mv (.c (.slice none 0 0)), none⟩] [0])
 (.seq (.ops [
   ⟨(some 3), .mv (.c (.int .i64 0)), none⟩] [0, 3])
 (.seq (.seq (.ops [
   ⟨(some 9), .mv (.t 0), none⟩,
   ⟨(some 10), .lenS (.t 9), none⟩,
   ⟨(some 11), .mv (.c (.int .i64 0)), none⟩] [0, 3, 9, 10, 11])
 (.block 0
  (.loop
   (.seq (.ops [
     ⟨(some 12), .bin .lss (.t 11) (.t 10), none⟩] [0, 3, 9, 10, 11, 12])
   (.seq (.cond (.t 12)
    .skip
    (.exit 0))
   (.seq (.block 1
    (.seq (.ops [
      ⟨(some 13), .iaddrS 1 (.t 9) (.t 11), none⟩,
      ⟨(some 14), .load none (.t 13), none⟩,
      ⟨(some 5), .mv (.t 14), none⟩] [0, 3, 5, 9, 10, 11])
    (.seq (.ops [
      ⟨(some 15), .mv (.t 3), none⟩,
      ⟨(some 16), .mv (.t 5), none⟩,
      ⟨(some 17), .lenS (.t 16), none⟩,
      ⟨(some 18), .bin .add (.t 15) (.t 17), none⟩,
      ⟨(some 3), .mv (.t 18), none⟩] [0, 3, 9, 10, 11])
    (.seq (.ops [
      ⟨(some 19), .mv (.t 3), none⟩,
      ⟨(some 20), .bin .lss (.t 19) (.c (.int .i64 0)), none⟩] [0, 3, 9, 10, 11, 20])
    (.cond (.t 20)
     (.ops [
       ⟨(some 21), .bad, none⟩,
       ⟨none, .bad, none⟩] [0, 3, 9, 10, 11])
     .skip)))))
   (.ops [
     ⟨(some 22), .bin .add (.t 11) (.c (.int .i64 1)), none⟩,
     ⟨(some 11), .mv (.t 22), none⟩] [0, 3, 9, 10, 11])))))))
 (.seq (.ops [
   ⟨(some 23), .mv (.t 3), none⟩,
   ⟨(some 24), .call 80 [.c (.slice none 0 0), .t 23], none⟩,
   ⟨(some 6), .mv (.t 24), none⟩] [0, 6])
 (.seq (.seq (.ops [
   ⟨(some 25), .mv (.t 0), none⟩,
   ⟨(some 26), .lenS (.t 25), none⟩,
   ⟨(some 27), .mv (.c (.int .i64 0)), none⟩] [6, 25, 26, 27])
 (.block 2
  (.loop
   (.seq (.ops [
     ⟨(some 28), .bin .lss (.t 27) (.t 26), none⟩] [6, 25, 26, 27, 28])
   (.seq (.cond (.t 28)
    .skip
    (.exit 2))
   (.seq (.block 3
    (.seq (.ops [
      ⟨(some 29), .iaddrS 1 (.t 25) (.t 27), none⟩,
      ⟨(some 30), .load none (.t 29), none⟩,
      ⟨(some 8), .mv (.t 30), none⟩] [6, 8, 25, 26, 27])
    (.ops [
      ⟨(some 31), .mv (.t 6), none⟩,
      ⟨(some 32), .mv (.t 8), none⟩,
      ⟨(some 33), .append 1 1 (.t 31) (.t 32), none⟩,
      ⟨(some 6), .mv (.t 33), none⟩] [6, 25, 26, 27])))
   (.ops [
     ⟨(some 34), .bin .add (.t 27) (.c (.int .i64 1)), none⟩,
     ⟨(some 27), .mv (.t 34), none⟩] [6, 25, 26, 27])))))))
 (.seq (.ops [
   ⟨(some 35), .mv (.t 6), none⟩,
   ⟨(some 2), .mv (.t 35), none⟩] [2])
 .ret))))))⟩

def h_poly_num_plus : Hint := [(0, [2, 3, 4], []), (1, [2, 3, 4], []), (2, [2, 3, 4, 5], []), (3, [2, 3, 4, 5], []), (4, [2, 4], []), (5, [4], [])]
def ir_poly_num_plus : AFunc := ⟨2, 34, [.cell 4 (some 3)],
 (.seq (.ops [
   ⟨(some 2), .box (.t 0), none⟩,
   ⟨(some 3), .box (.t 1), none⟩,
   ⟨(some 4), .alloc ([.int .u64 0, .int .u64 0, .int .u64 0]), none⟩] [2, 3, 4])
 (.seq (.ops [
   ⟨(some 5), .mv (.c (.int .u64 0)), none⟩] [2, 3, 4])
 (.seq (.ops [
   ⟨(some 7), .iaddrA 3 1 (.t 2) (.c (.int .i64 0)), none⟩,
   ⟨(some 8), .load none (.t 7), none⟩,
   ⟨(some 9), .iaddrA 3 1 (.t 3) (.c (.int .i64 0)), none⟩,
   ⟨(some 10), .load none (.t 9), none⟩,
   ⟨(some 11), .prim .add64 [.t 8, .t 10, .c (.int .u64 0)], none⟩,
   ⟨(some 6), .mv (.t 11), none⟩,
   ⟨(some 12), .ext (.t 6) 0, none⟩,
   ⟨(some 13), .ext (.t 6) 1, none⟩,
   ⟨(some 14), .iaddrA 3 1 (.t 2) (.c (.int .i64 0)), none⟩,
   ⟨none, .store 1 (.t 14) (.t 12), none⟩,
   ⟨(some 5), .mv (.t 13), none⟩] [2, 3, 4, 5])
 (.seq (.ops [
   ⟨(some 16), .iaddrA 3 1 (.t 2) (.c (.int .i64 1)), none⟩,
   ⟨(some 17), .load none (.t 16), none⟩,
   ⟨(some 18), .iaddrA 3 1 (.t 3) (.c (.int .i64 1)), none⟩,
   ⟨(some 19), .load none (.t 18), none⟩,
   ⟨(some 20), .mv (.t 5), none⟩,
   ⟨(some 21), .prim .add64 [.t 17, .t 19, .t 20], none⟩,
   ⟨(some 15), .mv (.t 21), none⟩,
   ⟨(some 22), .ext (.t 15) 0, none⟩,
   ⟨(some 23), .ext (.t 15) 1, none⟩,
   ⟨(some 24), .iaddrA 3 1 (.t 2) (.c (.int .i64 1)), none⟩,
   ⟨none, .store 1 (.t 24) (.t 22), none⟩,
   ⟨(some 5), .mv (.t 23), none⟩] [2, 3, 4, 5])
 (.seq (.ops [
   ⟨(some 25), .iaddrA 3 1 (.t 2) (.c (.int .i64 2)), none⟩,
   ⟨(some 26), .load none (.t 25), none⟩,
   ⟨(some 27), .iaddrA 3 1 (.t 3) (.c (.int .i64 2)), none⟩,
   ⟨(some 28), .load none (.t 27), none⟩,
   ⟨(some 29), .mv (.t 5), none⟩,
   ⟨(some 30), .bin .add (.t 28) (.t 29), none⟩,
   ⟨(some 31), .bin .add (.t 26) (.t 30), none⟩,
   ⟨(some 32), .iaddrA 3 1 (.t 2) (.c (.int .i64 2)), none⟩,
   ⟨none, .store 1 (.t 32) (.t 31), none⟩] [2, 4])
 (.seq (.ops [
   ⟨(some 33), .load (some 3) (.t 2), none⟩,
   ⟨none, .store 3 (.t 4) (.t 33), none⟩] [4])
 .ret))))))⟩

def h_poly_num_times : Hint := [(0, [2, 3, 4], []), (1, [4, 5], [(0, 0), (1, 0), (2, 0), (3, 0), (4, 0), (5, 0), (6, 1), (7, 1), (8, 1), (9, 1), (10, 1), (11, 0), (12, 2), (13, 2), (14, 2), (15, 2), (16, 0), (17, 3), (18, 3), (19, 3), (20, 3), (21, 3), (22, 0), (23, 4), (24, 4), (25, 4), (26, 4), (27, 0), (28, 5), (29, 5), (30, 5), (31, 5), (32, 5), (33, 0), (34, 0), (35, 0), (36, 0)]), (2, [4, 5, 6], []), (3, [4, 5, 6, 7], []), (4, [4, 6, 7, 47, 48], []), (5, [4, 6, 7, 47, 48, 49], []), (6, [4, 6, 7, 8, 9, 47, 48], []), (7, [4, 6, 7, 8, 47, 48], []), (8, [4, 6, 7, 47, 48], []), (9, [4, 6, 7, 47, 48], []), (10, [4, 6, 7, 47, 48], []), (11, [4, 6, 10], []), (12, [4, 10, 11], []), (13, [4, 10, 11, 84], []), (14, [4, 10, 11, 84, 85], []), (15, [4, 10, 11, 84], []), (16, [4, 10, 11, 84], []), (17, [4], [])]
def ir_poly_num_times : AFunc := ⟨2, 92, [.cell 4 (some 3)],
 (.seq (.ops [
   ⟨(some 2), .box (.t 0), none⟩,
   ⟨(some 3), .box (.t 1), none⟩,
   ⟨(some 4), .alloc ([.int .u64 0, .int .u64 0, .int .u64 0]), none⟩] [2, 3, 4])
 (.seq (.dops [
   ⟨0, (some 12), .build ([.int .u64 0, .int .u64 0, .int .u64 0]) [], none, 0⟩,
   ⟨1, (some 13), .iaddrA 3 1 (.t 2) (.c (.int .i64 0)), none, 0⟩,
   ⟨2, (some 14), .load none (.t 13), none, 0⟩,
   ⟨3, (some 15), .iaddrA 2 1 (.t 3) (.c (.int .i64 0)), none, 0⟩,
   ⟨4, (some 16), .load none (.t 15), none, 0⟩,
   ⟨5, (some 17), .call 81 [.t 12, .t 14, .t 16], none, 0⟩,
   ⟨6, (some 18), .build ([.int .u64 0, .int .u64 0, .int .u64 0]) [], none, 1⟩,
   ⟨7, (some 19), .iaddrA 3 1 (.t 2) (.c (.int .i64 0)), none, 1⟩,
   ⟨8, (some 20), .load none (.t 19), none, 1⟩,
   ⟨9, (some 21), .iaddrA 2 1 (.t 3) (.c (.int .i64 1)), none, 1⟩,
   ⟨10, (some 22), .load none (.t 21), none, 1⟩,
   ⟨11, (some 23), .call 81 [.t 18, .t 20, .t 22], none, 0⟩,
   ⟨12, (some 24), .iaddrA 3 1 (.t 2) (.c (.int .i64 1)), none, 2⟩,
   ⟨13, (some 25), .load none (.t 24), none, 2⟩,
   ⟨14, (some 26), .iaddrA 2 1 (.t 3) (.c (.int .i64 0)), none, 2⟩,
   ⟨15, (some 27), .load none (.t 26), none, 2⟩,
   ⟨16, (some 28), .call 81 [.t 23, .t 25, .t 27], none, 0⟩,
   ⟨17, (some 29), .build ([.int .u64 0, .int .u64 0, .int .u64 0]) [], none, 3⟩,
   ⟨18, (some 30), .iaddrA 3 1 (.t 2) (.c (.int .i64 1)), none, 3⟩,
   ⟨19, (some 31), .load none (.t 30), none, 3⟩,
   ⟨20, (some 32), .iaddrA 2 1 (.t 3) (.c (.int .i64 1)), none, 3⟩,
   ⟨21, (some 33), .load none (.t 32), none, 3⟩,
   ⟨22, (some 34), .call 81 [.t 29, .t 31, .t 33], none, 0⟩,
   ⟨23, (some 35), .iaddrA 3 1 (.t 2) (.c (.int .i64 2)), none, 4⟩,
   ⟨24, (some 36), .load none (.t 35), none, 4⟩,
   ⟨25, (some 37), .iaddrA 2 1 (.t 3) (.c (.int .i64 0)), none, 4⟩,
   ⟨26, (some 38), .load none (.t 37), none, 4⟩,
   ⟨27, (some 39), .call 81 [.t 34, .t 36, .t 38], none, 0⟩,
   ⟨28, (some 40), .build ([.int .u64 0, .int .u64 0, .int .u64 0]) [], none, 5⟩,
   ⟨29, (some 41), .iaddrA 3 1 (.t 2) (.c (.int .i64 2)), none, 5⟩,
   ⟨30, (some 42), .load none (.t 41), none, 5⟩,
   ⟨31, (some 43), .iaddrA 2 1 (.t 3) (.c (.int .i64 1)), none, 5⟩,
   ⟨32, (some 44), .load none (.t 43), none, 5⟩,
   ⟨33, (some 45), .call 81 [.t 40, .t 42, .t 44], none, 0⟩,
   ⟨34, (some 46), .build (List.replicate 12 (.int .u64 0)) [(0, 3, .t 17), (3, 3, .t 28), (6, 3, .t 39), (9, 3, .t 45)], none, 0⟩,
   ⟨35, (some 5), .alloc (List.replicate 12 (.int .u64 0)), none, 0⟩,
   ⟨36, none, .store 12 (.t 5) (.t 46), none, 0⟩] [4, 5])
 (.seq (.ops [
   ⟨(some 6), .alloc ([.int .u64 0, .int .u64 0, .int .u64 0, .int .u64 0]), none⟩] [4, 5, 6])
 (.seq (.ops [
   ⟨(some 7), .alloc ([.int .u64 0, .int .u64 0, .int .u64 0]), none⟩] [4, 5, 6, 7])
 (.seq (.seq (.ops [
   ⟨(some 47), .load (some 12) (.t 5), none⟩,
   ⟨(some 48), .mv (.c (.int .i64 0)), none⟩] [4, 6, 7, 47, 48])
 (.block 0
  (.loop
   (.seq (.ops [
     ⟨(some 49), .bin .lss (.t 48) (.c (.int .i64 4)), none⟩] [4, 6, 7, 47, 48, 49])
   (.seq (.cond (.t 49)
    .skip
    (.exit 0))
   (.seq (.block 1
    (.seq (.ops [
      ⟨(some 50), .mv (.t 48), none⟩,
      ⟨(some 51), .idxA 4 3 (some 3) (.t 47) (.t 48), none⟩,
      ⟨(some 9), .alloc ([.int .u64 0, .int .u64 0, .int .u64 0]), none⟩,
      ⟨(some 8), .mv (.t 50), none⟩,
      ⟨none, .store 3 (.t 9) (.t 51), none⟩] [4, 6, 7, 8, 9, 47, 48])
    (.seq (.ops [
      ⟨(some 52), .load (some 3) (.t 7), none⟩,
      ⟨(some 53), .load (some 3) (.t 9), none⟩,
      ⟨(some 54), .call 65 [.t 52, .t 53], none⟩,
      ⟨none, .store 3 (.t 7) (.t 54), none⟩] [4, 6, 7, 8, 47, 48])
    (.seq (.ops [
      ⟨(some 55), .mv (.t 8), none⟩,
      ⟨(some 56), .iaddrA 3 1 (.t 7) (.c (.int .i64 0)), none⟩,
      ⟨(some 57), .load none (.t 56), none⟩,
      ⟨(some 58), .iaddrA 4 1 (.t 6) (.t 55), none⟩,
      ⟨none, .store 1 (.t 58) (.t 57), none⟩] [4, 6, 7, 47, 48])
    (.ops [
      ⟨(some 59), .iaddrA 3 1 (.t 7) (.c (.int .i64 1)), none⟩,
      ⟨(some 60), .load none (.t 59), none⟩,
      ⟨(some 61), .iaddrA 3 1 (.t 7) (.c (.int .i64 2)), none⟩,
      ⟨(some 62), .load none (.t 61), none⟩,
      ⟨(some 63), .build ([.int .u64 0, .int .u64 0, .int .u64 0]) [(0, 1, .t 60), (1, 1, .t 62)], none⟩,
      ⟨none, .store 3 (.t 7) (.t 63), none⟩] [4, 6, 7, 47, 48])))))
   (.ops [
     ⟨(some 64), .bin .add (.t 48) (.c (.int .i64 1)), none⟩,
     ⟨(some 48), .mv (.t 64), none⟩] [4, 6, 7, 47, 48])))))))
 (.seq (.ops [
   ⟨(some 65), .iaddrA 4 1 (.t 6) (.c (.int .i64 0)), none⟩,
   ⟨(some 66), .load none (.t 65), none⟩,
   ⟨(some 67), .iaddrA 4 1 (.t 6) (.c (.int .i64 1)), none⟩,
   ⟨(some 68), .load none (.t 67), none⟩,
   ⟨(some 69), .iaddrA 4 1 (.t 6) (.c (.int .i64 2)), none⟩,
   ⟨(some 70), .load none (.t 69), none⟩,
   ⟨(some 71), .bin .and (.t 70) (.c (.int .u64 3)), none⟩,
   ⟨(some 72), .build ([.int .u64 0, .int .u64 0, .int .u64 0]) [(0, 1, .t 66), (1, 1, .t 68), (2, 1, .t 71)], none⟩,
   ⟨(some 10), .alloc ([.int .u64 0, .int .u64 0, .int .u64 0]), none⟩,
   ⟨none, .store 3 (.t 10) (.t 72), none⟩] [4, 6, 10])
 (.seq (.ops [
   ⟨(some 73), .iaddrA 4 1 (.t 6) (.c (.int .i64 2)), none⟩,
   ⟨(some 74), .load none (.t 73), none⟩,
   ⟨(some 75), .bin .shr (.t 74) (.c (.int .u64 2)), none⟩,
   ⟨(some 76), .iaddrA 4 1 (.t 6) (.c (.int .i64 3)), none⟩,
   ⟨(some 77), .load none (.t 76), none⟩,
   ⟨(some 78), .bin .shl (.t 77) (.c (.int .u64 62)), none⟩,
   ⟨(some 79), .bin .or (.t 75) (.t 78), none⟩,
   ⟨(some 80), .iaddrA 4 1 (.t 6) (.c (.int .i64 3)), none⟩,
   ⟨(some 81), .load none (.t 80), none⟩,
   ⟨(some 82), .bin .shr (.t 81) (.c (.int .u64 2)), none⟩,
   ⟨(some 83), .build ([.int .u64 0, .int .u64 0, .int .u64 0]) [(0, 1, .t 79), (1, 1, .t 82)], none⟩,
   ⟨(some 11), .alloc ([.int .u64 0, .int .u64 0, .int .u64 0]), none⟩,
   ⟨none, .store 3 (.t 11) (.t 83), none⟩] [4, 10, 11])
 (.seq (.seq (.ops [
   ⟨(some 84), .mv (.c (.int .i64 0)), none⟩] [4, 10, 11, 84])
 (.block 2
  (.loop
   (.seq (.ops [
     ⟨(some 85), .bin .lss (.t 84) (.c (.int .i64 5)), none⟩] [4, 10, 11, 84, 85])
   (.seq (.cond (.t 85)
    .skip
    (.exit 2))
   (.seq (.block 3
    (.ops [
      ⟨(some 86), .load (some 3) (.t 10), none⟩,
      ⟨(some 87), .load (some 3) (.t 11), none⟩,
      ⟨(some 88), .call 65 [.t 86, .t 87], none⟩,
      ⟨none, .store 3 (.t 10) (.t 88), none⟩] [4, 10, 11, 84]))
   (.ops [
     ⟨(some 89), .bin .add (.t 84) (.c (.int .i64 1)), none⟩,
     ⟨(some 84), .mv (.t 89), none⟩] [4, 10, 11, 84])))))))
 (.seq (.ops [
   ⟨(some 90), .load (some 3) (.t 10), none⟩,
   ⟨(some 91), .call 82 [.t 90], none⟩,
   ⟨none, .store 3 (.t 4) (.t 91), none⟩] [4])
 .ret)))))))))⟩

def h_poly_num_last : Hint := [(0, [1, 2], []), (1, [1, 2], []), (2, [1, 2, 3], []), (3, [1, 2, 3, 12], []), (4, [2, 3], []), (5, [2], []), (6, [2], [])]
def ir_poly_num_last : AFunc := ⟨1, 19, [.cell 2 (some 3)],
 (.seq (.ops [
   ⟨(some 1), .box (.t 0), none⟩,
   ⟨(some 2), .alloc ([.int .u64 0, .int .u64 0, .int .u64 0]), none⟩] [1, 2])
 (.seq (.ops [
   ⟨(some 4), .load (some 3) (.t 1), none⟩,
   ⟨(some 5), .call 82 [.t 4], none⟩,
   ⟨(some 6), .call 82 [.t 5], none⟩,
   ⟨none, .store 3 (.t 1) (.t 6), none⟩] [1, 2])
 (.seq (.ops [
   ⟨(some 7), .load (some 3) (.t 1), none⟩,
   ⟨(some 8), .build ([.int .u64 0, .int .u64 0, .int .u64 0]) [(0, 1, .c (.int .u64 5))], none⟩,
   ⟨(some 9), .call 65 [.t 7, .t 8], none⟩,
   ⟨(some 3), .alloc ([.int .u64 0, .int .u64 0, .int .u64 0]), none⟩,
   ⟨none, .store 3 (.t 3) (.t 9), none⟩] [1, 2, 3])
 (.seq (.seq (.ops [
   ⟨(some 10), .iaddrA 3 1 (.t 3) (.c (.int .i64 2)), none⟩,
   ⟨(some 11), .load none (.t 10), none⟩,
   ⟨(some 12), .bin .gtr (.t 11) (.c (.int .u64 3)), none⟩] [1, 2, 3, 12])
 (.cond (.t 12)
  (.seq (.ops [
    ⟨(some 13), .iaddrA 3 1 (.t 3) (.c (.int .i64 2)), none⟩,
    ⟨(some 14), .load none (.t 13), none⟩,
    ⟨(some 15), .bin .and (.t 14) (.c (.int .u64 3)), none⟩,
    ⟨(some 16), .iaddrA 3 1 (.t 3) (.c (.int .i64 2)), none⟩,
    ⟨none, .store 1 (.t 16) (.t 15), none⟩] [2, 3])
  (.seq (.ops [
    ⟨(some 17), .load (some 3) (.t 3), none⟩,
    ⟨none, .store 3 (.t 2) (.t 17), none⟩] [2])
  .ret))
  .skip))
 (.seq (.ops [
   ⟨(some 18), .load (some 3) (.t 1), none⟩,
   ⟨none, .store 3 (.t 2) (.t 18), none⟩] [2])
 .ret)))))⟩

def h_octet_Little : Hint := [(0, [0, 1, 2], []), (1, [1, 2, 7], []), (2, [1, 7, 13, 14], []), (3, [1, 7, 13, 14, 15], []), (4, [1, 7, 8, 13, 14], []), (5, [1, 7, 13, 14], []), (6, [1, 7, 13, 14], []), (7, [6], [])]
def ir_octet_Little : AFunc := ⟨3, 27, [.tmp 6],
 (.seq (.ops [
   ⟨(some 6), .mv (.c (.slice none 0 0)), none⟩] [0, 1, 2])
 (.seq (.ops [
   ⟨(some 9), .mv (.t 0), none⟩,
   ⟨(some 10), .call 55 [.t 9], none⟩,
   ⟨(some 7), .mv (.t 10), none⟩] [1, 2, 7])
 (.seq (.seq (.ops [
   ⟨(some 11), .mv (.t 2), none⟩,
   ⟨(some 12), .mn (.t 11) (.c (.int .i64 8)), none⟩,
   ⟨(some 13), .mx (.t 12) (.c (.int .i64 0)), none⟩,
   ⟨(some 14), .mv (.c (.int .i64 0)), none⟩] [1, 7, 13, 14])
 (.block 0
  (.loop
   (.seq (.ops [
     ⟨(some 15), .bin .lss (.t 14) (.t 13), none⟩] [1, 7, 13, 14, 15])
   (.seq (.cond (.t 15)
    .skip
    (.exit 0))
   (.seq (.block 1
    (.seq (.ops [
      ⟨(some 16), .mv (.t 14), none⟩,
      ⟨(some 8), .mv (.t 16), none⟩] [1, 7, 8, 13, 14])
    (.ops [
      ⟨(some 17), .mv (.t 7), none⟩,
      ⟨(some 18), .mv (.t 1), none⟩,
      ⟨(some 19), .mv (.t 8), none⟩,
      ⟨(some 20), .bin .mul (.c (.int .i64 8)) (.t 19), none⟩,
      ⟨(some 21), .bin .shr (.t 18) (.t 20), none⟩,
      ⟨(some 22), .conv .u8 (.t 21), none⟩,
      ⟨(some 23), .bslice 1 1 ([.int .u8 0]) [(0, 1, .t 22)], none⟩,
      ⟨(some 24), .append 1 1 (.t 17) (.t 23), none⟩,
      ⟨(some 7), .mv (.t 24), none⟩] [1, 7, 13, 14])))
   (.ops [
     ⟨(some 25), .bin .add (.t 14) (.c (.int .i64 1)), none⟩,
     ⟨(some 14), .mv (.t 25), none⟩] [1, 7, 13, 14])))))))
 (.seq (.ops [
   ⟨(some 26), .mv (.t 7), none⟩,
   ⟨(some 6), .mv (.t 26), none⟩] [6])
 .ret))))⟩

def h_bandboxref4_times : Hint := [(0, [2, 3, 4], []), (1, [2, 3, 4, 5], []), (2, [2, 3, 4, 5, 6], []), (3, [2, 3, 4, 5, 6, 15], []), (4, [2, 3, 4, 5, 6], []), (5, [2, 3, 4, 5, 6, 7], []), (6, [2, 3, 4, 5, 6, 7, 19], []), (7, [2, 3, 4, 5, 6, 7], []), (8, [2, 3, 4, 5, 6, 7, 8], [(0, 0), (1, 0), (2, 0), (3, 0), (4, 0), (5, 0), (6, 0), (7, 0), (8, 0), (9, 0)]), (9, [2, 3, 4, 5, 6, 7, 8, 34], []), (10, [2, 3, 4, 5, 6, 7], []), (11, [2, 3, 4, 5, 6, 7], []), (12, [4, 5, 9], []), (13, [4, 5, 9, 10], []), (14, [4, 5, 9, 10, 61], []), (15, [4, 5, 9, 10], []), (16, [4, 5, 9, 10, 11], []), (17, [4, 5, 9, 10, 11, 12], []), (18, [4, 5, 9, 10, 11, 12, 65], []), (19, [4, 5, 9, 10, 11, 12], []), (20, [4, 5, 9, 10, 11, 12], []), (21, [4, 5, 9, 10, 11, 12, 74], []), (22, [4, 5, 9, 10, 11, 12], []), (23, [4, 5, 9, 10, 11, 12], []), (24, [4, 5, 9, 10, 11, 12], []), (25, [4, 5, 9, 10, 11, 12], []), (26, [4, 5, 9, 10], []), (27, [4, 5, 9, 13], []), (28, [4, 5, 9, 13, 94], []), (29, [4, 5, 9, 13], []), (30, [4, 5, 9, 13], []), (31, [4], [])]
def ir_bandboxref4_times_73 : ACode := (.seq (.ops [
         ⟨(some 73), .mv (.t 12), none⟩,
         ⟨(some 74), .bin .lss (.t 73) (.c (.int .i64 16)), none⟩] [4, 5, 9, 10, 11, 12, 74])
 (.cond (.t 74)
 (.seq (.ops [
          ⟨(some 75), .mv (.t 12), none⟩,
          ⟨(some 76), .mv (.t 11), none⟩,
          ⟨(some 77), .bin .and (.t 76) (.c (.int .u64 255)), none⟩,
          ⟨(some 78), .iaddrA 17 1 (.t 5) (.t 75), none⟩,
          ⟨none, .store 1 (.t 78) (.t 77), none⟩] [4, 5, 9, 10, 11, 12])
 (.ops [
          ⟨(some 79), .mv (.t 11), none⟩,
          ⟨(some 80), .bin .shr (.t 79) (.c (.int .u64 8)), none⟩,
          ⟨(some 11), .mv (.t 80), none⟩] [4, 5, 9, 10, 11, 12]))
 (.seq (.ops [
          ⟨(some 81), .mv (.t 12), none⟩,
          ⟨(some 82), .mv (.t 11), none⟩,
          ⟨(some 83), .bin .and (.t 82) (.c (.int .u64 3)), none⟩,
          ⟨(some 84), .iaddrA 17 1 (.t 5) (.t 81), none⟩,
          ⟨none, .store 1 (.t 84) (.t 83), none⟩] [4, 5, 9, 10, 11, 12])
 (.ops [
          ⟨(some 85), .mv (.t 11), none⟩,
          ⟨(some 86), .bin .shr (.t 85) (.c (.int .u64 2)), none⟩,
          ⟨(some 11), .mv (.t 86), none⟩] [4, 5, 9, 10, 11, 12]))))
def ir_bandboxref4_times_87 : ACode := (.ops [
      ⟨(some 87), .iaddrA 17 1 (.t 5) (.c (.int .i64 0)), none⟩,
      ⟨(some 88), .load none (.t 87), none⟩,
      ⟨(some 89), .mv (.t 11), none⟩,
      ⟨(some 90), .bin .mul (.c (.int .u64 5)) (.t 89), none⟩,
      ⟨(some 91), .bin .add (.t 88) (.t 90), none⟩,
      ⟨(some 92), .iaddrA 17 1 (.t 5) (.c (.int .i64 0)), none⟩,
      ⟨none, .store 1 (.t 92) (.t 91), none⟩] [4, 5, 9, 10])
def ir_bandboxref4_times_60 : ACode := (.block 4 (.loop (.seq (.seq (.ops [
     ⟨(some 60), .mv (.t 10), none⟩,
     ⟨(some 61), .bin .lss (.t 60) (.c (.int .i64 3)), none⟩] [4, 5, 9, 10, 61])
 (.cond (.t 61)
 .skip
 (.exit 4)))
 (.seq (.block 5 (.seq (.ops [
      ⟨(some 11), .mv (.c (.int .u64 0)), none⟩] [4, 5, 9, 10, 11])
 (.seq (.seq (.ops [
      ⟨(some 12), .mv (.c (.int .i64 0)), none⟩] [4, 5, 9, 10, 11, 12])
 (.block 6 (.loop (.seq (.seq (.ops [
        ⟨(some 64), .mv (.t 12), none⟩,
        ⟨(some 65), .bin .lss (.t 64) (.c (.int .i64 17)), none⟩] [4, 5, 9, 10, 11, 12, 65])
 (.cond (.t 65)
 .skip
 (.exit 6)))
 (.seq (.block 7 (.seq (.ops [
         ⟨(some 68), .mv (.t 11), none⟩,
         ⟨(some 69), .mv (.t 12), none⟩,
         ⟨(some 70), .iaddrA 17 1 (.t 5) (.t 69), none⟩,
         ⟨(some 71), .load none (.t 70), none⟩,
         ⟨(some 72), .bin .add (.t 68) (.t 71), none⟩,
         ⟨(some 11), .mv (.t 72), none⟩] [4, 5, 9, 10, 11, 12])
 ir_bandboxref4_times_73))
 (.ops [
        ⟨(some 66), .mv (.t 12), none⟩,
        ⟨(some 67), .bin .add (.t 66) (.c (.int .i64 1)), none⟩,
        ⟨(some 12), .mv (.t 67), none⟩] [4, 5, 9, 10, 11, 12]))))))
 ir_bandboxref4_times_87)))
 (.ops [
     ⟨(some 62), .mv (.t 10), none⟩,
     ⟨(some 63), .bin .add (.t 62) (.c (.int .i64 1)), none⟩,
     ⟨(some 10), .mv (.t 63), none⟩] [4, 5, 9, 10])))))
def ir_bandboxref4_times_13 : ACode := (.seq (.seq (.ops [
   ⟨(some 13), .mv (.c (.int .i64 0)), none⟩] [4, 5, 9, 13])
 (.block 8 (.loop (.seq (.seq (.ops [
     ⟨(some 93), .mv (.t 13), none⟩,
     ⟨(some 94), .bin .lss (.t 93) (.c (.int .i64 17)), none⟩] [4, 5, 9, 13, 94])
 (.cond (.t 94)
 .skip
 (.exit 8)))
 (.seq (.block 9 (.ops [
      ⟨(some 97), .mv (.t 13), none⟩,
      ⟨(some 98), .mv (.t 13), none⟩,
      ⟨(some 99), .iaddrA 17 1 (.t 5) (.t 98), none⟩,
      ⟨(some 100), .load none (.t 99), none⟩,
      ⟨(some 101), .conv .u32 (.t 100), none⟩,
      ⟨(some 102), .iaddrA 17 1 (.t 9) (.t 97), none⟩,
      ⟨none, .store 1 (.t 102) (.t 101), none⟩] [4, 5, 9, 13]))
 (.ops [
     ⟨(some 95), .mv (.t 13), none⟩,
     ⟨(some 96), .bin .add (.t 95) (.c (.int .i64 1)), none⟩,
     ⟨(some 13), .mv (.t 96), none⟩] [4, 5, 9, 13]))))))
 (.seq (.ops [
   ⟨(some 103), .load (some 17) (.t 9), none⟩,
   ⟨none, .store 17 (.t 4) (.t 103), none⟩] [4])
 .ret))
def ir_bandboxref4_times_q : ACode := (.cond (.t 34)
 (.ops [
          ⟨(some 35), .mv (.t 6), none⟩,
          ⟨(some 36), .mv (.t 7), none⟩,
          ⟨(some 37), .bin .add (.t 35) (.t 36), none⟩,
          ⟨(some 38), .bin .sub (.t 37) (.c (.int .i64 17)), none⟩,
          ⟨(some 39), .mv (.t 6), none⟩,
          ⟨(some 40), .mv (.t 7), none⟩,
          ⟨(some 41), .bin .add (.t 39) (.t 40), none⟩,
          ⟨(some 42), .bin .sub (.t 41) (.c (.int .i64 17)), none⟩,
          ⟨(some 43), .iaddrA 17 1 (.t 5) (.t 42), none⟩,
          ⟨(some 44), .load none (.t 43), none⟩,
          ⟨(some 45), .mv (.t 8), none⟩,
          ⟨(some 46), .bin .mul (.c (.int .u64 320)) (.t 45), none⟩,
          ⟨(some 47), .bin .add (.t 44) (.t 46), none⟩,
          ⟨(some 48), .iaddrA 17 1 (.t 5) (.t 38), none⟩,
          ⟨none, .store 1 (.t 48) (.t 47), none⟩] [2, 3, 4, 5, 6, 7])
 (.ops [
          ⟨(some 49), .mv (.t 6), none⟩,
          ⟨(some 50), .mv (.t 7), none⟩,
          ⟨(some 51), .bin .add (.t 49) (.t 50), none⟩,
          ⟨(some 52), .mv (.t 6), none⟩,
          ⟨(some 53), .mv (.t 7), none⟩,
          ⟨(some 54), .bin .add (.t 52) (.t 53), none⟩,
          ⟨(some 55), .iaddrA 17 1 (.t 5) (.t 54), none⟩,
          ⟨(some 56), .load none (.t 55), none⟩,
          ⟨(some 57), .mv (.t 8), none⟩,
          ⟨(some 58), .bin .add (.t 56) (.t 57), none⟩,
          ⟨(some 59), .iaddrA 17 1 (.t 5) (.t 51), none⟩,
          ⟨none, .store 1 (.t 59) (.t 58), none⟩] [2, 3, 4, 5, 6, 7]))
def ir_bandboxref4_times_18 : ACode := (.block 2 (.loop (.seq (.seq (.ops [
        ⟨(some 18), .mv (.t 7), none⟩,
        ⟨(some 19), .bin .lss (.t 18) (.c (.int .i64 17)), none⟩] [2, 3, 4, 5, 6, 7, 19])
 (.cond (.t 19)
 .skip
 (.exit 2)))
 (.seq (.block 3 (.seq (.dops [
         ⟨0, (some 22), .mv (.t 6), none, 0⟩,
         ⟨1, (some 23), .iaddrA 17 1 (.t 2) (.t 22), none, 0⟩,
         ⟨2, (some 24), .load none (.t 23), none, 0⟩,
         ⟨3, (some 25), .conv .u64 (.t 24), none, 0⟩,
         ⟨4, (some 26), .mv (.t 7), none, 0⟩,
         ⟨5, (some 27), .iaddrA 17 1 (.t 3) (.t 26), none, 0⟩,
         ⟨6, (some 28), .load none (.t 27), none, 0⟩,
         ⟨7, (some 29), .conv .u64 (.t 28), none, 0⟩,
         ⟨8, (some 30), .bin .mul (.t 25) (.t 29), none, 0⟩,
         ⟨9, (some 8), .mv (.t 30), none, 0⟩] [2, 3, 4, 5, 6, 7, 8])
 (.seq (.ops [
         ⟨(some 31), .mv (.t 6), none⟩,
         ⟨(some 32), .mv (.t 7), none⟩,
         ⟨(some 33), .bin .add (.t 31) (.t 32), none⟩,
         ⟨(some 34), .bin .geq (.t 33) (.c (.int .i64 17)), none⟩] [2, 3, 4, 5, 6, 7, 8, 34])
 ir_bandboxref4_times_q)))
 (.ops [
        ⟨(some 20), .mv (.t 7), none⟩,
        ⟨(some 21), .bin .add (.t 20) (.c (.int .i64 1)), none⟩,
        ⟨(some 7), .mv (.t 21), none⟩] [2, 3, 4, 5, 6, 7])))))
def ir_bandboxref4_times : AFunc := ⟨2, 104, [.cell 4 (some 17)],
 (.seq (.ops [
   ⟨(some 2), .box (.t 0), none⟩,
   ⟨(some 3), .box (.t 1), none⟩,
   ⟨(some 4), .alloc (List.replicate 17 (.int .u32 0)), none⟩] [2, 3, 4])
 (.seq (.ops [
   ⟨(some 5), .alloc (List.replicate 17 (.int .u64 0)), none⟩] [2, 3, 4, 5])
 (.seq (.seq (.ops [
   ⟨(some 6), .mv (.c (.int .i64 0)), none⟩] [2, 3, 4, 5, 6])
 (.block 0 (.loop (.seq (.seq (.ops [
     ⟨(some 14), .mv (.t 6), none⟩,
     ⟨(some 15), .bin .lss (.t 14) (.c (.int .i64 17)), none⟩] [2, 3, 4, 5, 6, 15])
 (.cond (.t 15)
 .skip
 (.exit 0)))
 (.seq (.block 1 (.seq (.ops [
      ⟨(some 7), .mv (.c (.int .i64 0)), none⟩] [2, 3, 4, 5, 6, 7])
 ir_bandboxref4_times_18))
 (.ops [
     ⟨(some 16), .mv (.t 6), none⟩,
     ⟨(some 17), .bin .add (.t 16) (.c (.int .i64 1)), none⟩,
     ⟨(some 6), .mv (.t 17), none⟩] [2, 3, 4, 5, 6]))))))
 (.seq (.ops [
   ⟨(some 9), .alloc (List.replicate 17 (.int .u32 0)), none⟩] [4, 5, 9])
 (.seq (.seq (.ops [
   ⟨(some 10), .mv (.c (.int .i64 0)), none⟩] [4, 5, 9, 10])
 ir_bandboxref4_times_60)
 ir_bandboxref4_times_13)))))⟩

def h_bandboxref4_plus : Hint := [(0, [2, 3, 4], []), (1, [2, 3, 4, 5], []), (2, [2, 3, 4, 5, 6], []), (3, [2, 3, 4, 5, 6, 8], []), (4, [2, 3, 4, 5, 6], []), (5, [2, 3, 4, 5, 6], [(0, 0), (1, 0), (2, 0), (3, 0), (4, 0), (5, 0), (6, 0), (7, 0), (8, 0), (9, 0)]), (6, [2, 3, 4, 5, 6], []), (7, [2, 3, 4, 5, 6, 24], []), (8, [2, 3, 4, 5, 6], []), (9, [2, 3, 4, 5, 6], []), (10, [4], [])]
def ir_bandboxref4_plus : AFunc := ⟨2, 32, [.cell 4 (some 17)],
 (.seq (.ops [
   ⟨(some 2), .box (.t 0), none⟩,
   ⟨(some 3), .box (.t 1), none⟩,
   ⟨(some 4), .alloc (List.replicate 17 (.int .u32 0)), none⟩] [2, 3, 4])
 (.seq (.ops [
   ⟨(some 5), .mv (.c (.int .u32 0)), none⟩] [2, 3, 4, 5])
 (.seq (.seq (.ops [
   ⟨(some 6), .mv (.c (.int .i64 0)), none⟩] [2, 3, 4, 5, 6])
 (.block 0
  (.loop
   (.seq (.seq (.ops [
     ⟨(some 7), .mv (.t 6), none⟩,
     ⟨(some 8), .bin .lss (.t 7) (.c (.int .i64 17)), none⟩] [2, 3, 4, 5, 6, 8])
   (.cond (.t 8)
    .skip
    (.exit 0)))
   (.seq (.block 1
    (.seq (.dops [
      ⟨0, (some 11), .mv (.t 5), none, 0⟩,
      ⟨1, (some 12), .mv (.t 6), none, 0⟩,
      ⟨2, (some 13), .iaddrA 17 1 (.t 2) (.t 12), none, 0⟩,
      ⟨3, (some 14), .load none (.t 13), none, 0⟩,
      ⟨4, (some 15), .bin .add (.t 11) (.t 14), none, 0⟩,
      ⟨5, (some 16), .mv (.t 6), none, 0⟩,
      ⟨6, (some 17), .iaddrA 17 1 (.t 3) (.t 16), none, 0⟩,
      ⟨7, (some 18), .load none (.t 17), none, 0⟩,
      ⟨8, (some 19), .bin .add (.t 15) (.t 18), none, 0⟩,
      ⟨9, (some 5), .mv (.t 19), none, 0⟩] [2, 3, 4, 5, 6])
    (.seq (.ops [
      ⟨(some 20), .mv (.t 6), none⟩,
      ⟨(some 21), .mv (.t 5), none⟩,
      ⟨(some 22), .iaddrA 17 1 (.t 2) (.t 20), none⟩,
      ⟨none, .store 1 (.t 22) (.t 21), none⟩] [2, 3, 4, 5, 6])
    (.seq (.ops [
      ⟨(some 23), .mv (.t 6), none⟩,
      ⟨(some 24), .bin .lss (.t 23) (.c (.int .i64 16)), none⟩] [2, 3, 4, 5, 6, 24])
    (.cond (.t 24)
     (.seq (.ops [
       ⟨(some 25), .mv (.t 6), none⟩,
       ⟨(some 26), .mv (.t 5), none⟩,
       ⟨(some 27), .bin .and (.t 26) (.c (.int .u32 255)), none⟩,
       ⟨(some 28), .iaddrA 17 1 (.t 2) (.t 25), none⟩,
       ⟨none, .store 1 (.t 28) (.t 27), none⟩] [2, 3, 4, 5, 6])
     (.ops [
       ⟨(some 29), .mv (.t 5), none⟩,
       ⟨(some 30), .bin .shr (.t 29) (.c (.int .u64 8)), none⟩,
       ⟨(some 5), .mv (.t 30), none⟩] [2, 3, 4, 5, 6]))
     .skip)))))
   (.ops [
     ⟨(some 9), .mv (.t 6), none⟩,
     ⟨(some 10), .bin .add (.t 9) (.c (.int .i64 1)), none⟩,
     ⟨(some 6), .mv (.t 10), none⟩] [2, 3, 4, 5, 6]))))))
 (.seq (.ops [
   ⟨(some 31), .load (some 17) (.t 2), none⟩,
   ⟨none, .store 17 (.t 4) (.t 31), none⟩] [4])
 .ret))))⟩

def h_bandboxref4_least : Hint := [(0, [1, 2], []), (1, [1, 2, 3], []), (2, [1, 2], []), (3, [1, 2, 4], []), (4, [1, 2, 5], []), (5, [1, 2, 5, 16], []), (6, [2, 5], []), (7, [2], []), (8, [2], [])]
def ir_bandboxref4_least_10 : ACode := (.seq (.ops [
   ⟨(some 10), .build (List.replicate 17 (.int .u32 0)) [(0, 1, .c (.int .u32 5))], none⟩,
   ⟨(some 4), .alloc (List.replicate 17 (.int .u32 0)), none⟩,
   ⟨none, .store 17 (.t 4) (.t 10), none⟩] [1, 2, 4])
 (.seq (.ops [
   ⟨(some 11), .load (some 17) (.t 1), none⟩,
   ⟨(some 12), .load (some 17) (.t 4), none⟩,
   ⟨(some 13), .call 71 [.t 11, .t 12], none⟩,
   ⟨(some 5), .alloc (List.replicate 17 (.int .u32 0)), none⟩,
   ⟨none, .store 17 (.t 5) (.t 13), none⟩] [1, 2, 5])
 (.seq (.seq (.ops [
   ⟨(some 14), .iaddrA 17 1 (.t 5) (.c (.int .i64 16)), none⟩,
   ⟨(some 15), .load none (.t 14), none⟩,
   ⟨(some 16), .bin .geq (.t 15) (.c (.int .u32 4)), none⟩] [1, 2, 5, 16])
 (.cond (.t 16)
 (.seq (.ops [
    ⟨(some 17), .iaddrA 17 1 (.t 5) (.c (.int .i64 16)), none⟩,
    ⟨(some 18), .load none (.t 17), none⟩,
    ⟨(some 19), .bin .and (.t 18) (.c (.int .u32 3)), none⟩,
    ⟨(some 20), .iaddrA 17 1 (.t 5) (.c (.int .i64 16)), none⟩,
    ⟨none, .store 1 (.t 20) (.t 19), none⟩] [2, 5])
 (.seq (.ops [
    ⟨(some 21), .load (some 17) (.t 5), none⟩,
    ⟨none, .store 17 (.t 2) (.t 21), none⟩] [2])
 .ret))
 .skip))
 (.seq (.ops [
   ⟨(some 22), .load (some 17) (.t 1), none⟩,
   ⟨none, .store 17 (.t 2) (.t 22), none⟩] [2])
 .ret))))
def ir_bandboxref4_least : AFunc := ⟨1, 23, [.cell 2 (some 17)],
 (.seq (.ops [
   ⟨(some 1), .box (.t 0), none⟩,
   ⟨(some 2), .alloc (List.replicate 17 (.int .u32 0)), none⟩] [1, 2])
 (.seq (.ops [
   ⟨(some 6), .build (List.replicate 17 (.int .u32 0)) [(0, 1, .c (.int .u32 1))], none⟩,
   ⟨(some 3), .alloc (List.replicate 17 (.int .u32 0)), none⟩,
   ⟨none, .store 17 (.t 3) (.t 6), none⟩] [1, 2, 3])
 (.seq (.ops [
   ⟨(some 7), .load (some 17) (.t 1), none⟩,
   ⟨(some 8), .load (some 17) (.t 3), none⟩,
   ⟨(some 9), .call 70 [.t 7, .t 8], none⟩,
   ⟨none, .store 17 (.t 1) (.t 9), none⟩] [1, 2])
 ir_bandboxref4_least_10)))⟩

def h_octet_FromLittle : Hint := [(0, [0], []), (1, [2, 3], [])]
def ir_octet_FromLittle : AFunc := ⟨1, 9, [.tmp 2, .tmp 3],
 (.seq (.ops [
   ⟨(some 2), .mv (.c (.int .u64 0)), none⟩,
   ⟨(some 3), .mv (.c (.int .i64 0)), none⟩] [0])
 (.seq (.ops [
   ⟨(some 4), .mv (.t 0), none⟩,
   ⟨(some 5), .call 89 [.t 4], none⟩,
   ⟨(some 6), .call 88 [.t 5], none⟩,
   ⟨(some 7), .ext (.t 6) 0, none⟩,
   ⟨(some 8), .ext (.t 6) 1, none⟩,
   ⟨(some 2), .mv (.t 7), none⟩,
   ⟨(some 3), .mv (.t 8), none⟩] [2, 3])
 .ret))⟩

def h_slices_Grow_byte_byte : Hint := [(0, [0, 1], []), (1, [0, 1, 6], []), (2, [0, 1], []), (3, [0, 1], []), (4, [0, 1, 16], []), (5, [0], []), (6, [4], [])]
def ir_slices_Grow_byte_byte : AFunc := ⟨2, 27, [.tmp 4],
 (.seq (.ops [
   ⟨(some 4), .mv (.c (.slice none 0 0)), none⟩] [0, 1])
 (.seq (.seq (.ops [
   ⟨(some 5), .mv (.t 1), none⟩,
   ⟨(some 6), .bin .lss (.t 5) (.c (.int .i64 0)), none⟩] [0, 1, 6])
 (.cond (.t 6)
  (.ops [
    ⟨(some 7), .bad, none⟩,
    ⟨none, .bad, none⟩] [0, 1])
  .skip))
 (.seq (.seq (.ops [
   ⟨(some 8), .mv (.t 1), none⟩,
   ⟨(some 9), .mv (.t 0), none⟩,
   ⟨(some 10), .capS (.t 9), none⟩,
   ⟨(some 11), .mv (.t 0), none⟩,
   ⟨(some 12), .lenS (.t 11), none⟩,
   ⟨(some 13), .bin .sub (.t 10) (.t 12), none⟩,
   ⟨(some 14), .bin .sub (.t 8) (.t 13), none⟩,
   ⟨(some 1), .mv (.t 14), none⟩] [0, 1])
 (.seq (.ops [
   ⟨(some 15), .mv (.t 1), none⟩,
   ⟨(some 16), .bin .gtr (.t 15) (.c (.int .i64 0)), none⟩] [0, 1, 16])
 (.cond (.t 16)
  (.ops [
    ⟨(some 17), .mv (.t 0), none⟩,
    ⟨(some 18), .mv (.t 0), none⟩,
    ⟨(some 19), .capS (.t 18), none⟩,
    ⟨(some 20), .slSl 1 (.t 17) none (some (.t 19)) none, none⟩,
    ⟨(some 21), .mv (.t 1), none⟩,
    ⟨(some 22), .appendZ 1 1 ([.int .u8 0]) (.t 20) (.t 21), none⟩,
    ⟨(some 23), .mv (.t 0), none⟩,
    ⟨(some 24), .lenS (.t 23), none⟩,
    ⟨(some 25), .slSl 1 (.t 22) none (some (.t 24)) none, none⟩,
    ⟨(some 0), .mv (.t 25), none⟩] [0])
  .skip)))
 (.seq (.ops [
   ⟨(some 26), .mv (.t 0), none⟩,
   ⟨(some 4), .mv (.t 26), none⟩] [4])
 .ret))))⟩

def h_poly_column : Hint := [(0, [1, 2, 3, 6], []), (1, [3, 6, 7, 8], []), (2, [6], [])]
def ir_poly_column : AFunc := ⟨3, 20, [.cell 6 (some 3)],
 (.seq (.ops [
   ⟨(some 3), .box (.t 0), none⟩,
   ⟨(some 6), .alloc ([.int .u64 0, .int .u64 0, .int .u64 0]), none⟩] [1, 2, 3, 6])
 (.seq (.ops [
   ⟨(some 10), .mv (.t 1), none⟩,
   ⟨(some 11), .mv (.t 2), none⟩,
   ⟨(some 12), .call 90 [.t 10, .t 11], none⟩,
   ⟨(some 9), .mv (.t 12), none⟩,
   ⟨(some 13), .ext (.t 9) 0, none⟩,
   ⟨(some 14), .ext (.t 9) 1, none⟩,
   ⟨(some 7), .mv (.t 13), none⟩,
   ⟨(some 8), .mv (.t 14), none⟩] [3, 6, 7, 8])
 (.seq (.ops [
   ⟨(some 15), .load (some 3) (.t 3), none⟩,
   ⟨(some 16), .mv (.t 8), none⟩,
   ⟨(some 17), .mv (.t 7), none⟩,
   ⟨(some 18), .build ([.int .u64 0, .int .u64 0, .int .u64 0]) [(0, 1, .t 16), (1, 1, .t 17)], none⟩,
   ⟨(some 19), .call 65 [.t 15, .t 18], none⟩,
   ⟨none, .store 3 (.t 6) (.t 19), none⟩] [6])
 .ret)))⟩

def h_poly_num_cut : Hint := [(0, [1, 2], []), (1, [1, 2, 3], []), (2, [1, 2, 3], []), (3, [1, 2, 4, 5], []), (4, [2], [])]
def ir_poly_num_cut : AFunc := ⟨1, 23, [.cell 2 (some 3)],
 (.seq (.ops [
   ⟨(some 1), .box (.t 0), none⟩,
   ⟨(some 2), .alloc ([.int .u64 0, .int .u64 0, .int .u64 0]), none⟩] [1, 2])
 (.seq (.ops [
   ⟨(some 6), .iaddrA 3 1 (.t 1) (.c (.int .i64 2)), none⟩,
   ⟨(some 7), .load none (.t 6), none⟩,
   ⟨(some 8), .bin .shr (.t 7) (.c (.int .u64 2)), none⟩,
   ⟨(some 3), .mv (.t 8), none⟩] [1, 2, 3])
 (.seq (.ops [
   ⟨(some 9), .iaddrA 3 1 (.t 1) (.c (.int .i64 2)), none⟩,
   ⟨(some 10), .load none (.t 9), none⟩,
   ⟨(some 11), .bin .and (.t 10) (.c (.int .u64 3)), none⟩,
   ⟨(some 12), .iaddrA 3 1 (.t 1) (.c (.int .i64 2)), none⟩,
   ⟨none, .store 1 (.t 12) (.t 11), none⟩] [1, 2, 3])
 (.seq (.ops [
   ⟨(some 14), .mv (.t 3), none⟩,
   ⟨(some 15), .call 90 [.t 14, .c (.int .u64 5)], none⟩,
   ⟨(some 13), .mv (.t 15), none⟩,
   ⟨(some 16), .ext (.t 13) 0, none⟩,
   ⟨(some 17), .ext (.t 13) 1, none⟩,
   ⟨(some 4), .mv (.t 16), none⟩,
   ⟨(some 5), .mv (.t 17), none⟩] [1, 2, 4, 5])
 (.seq (.ops [
   ⟨(some 18), .load (some 3) (.t 1), none⟩,
   ⟨(some 19), .mv (.t 5), none⟩,
   ⟨(some 20), .mv (.t 4), none⟩,
   ⟨(some 21), .build ([.int .u64 0, .int .u64 0, .int .u64 0]) [(0, 1, .t 19), (1, 1, .t 20)], none⟩,
   ⟨(some 22), .call 65 [.t 18, .t 21], none⟩,
   ⟨none, .store 3 (.t 2) (.t 22), none⟩] [2])
 .ret)))))⟩

def h_sha_mix : Hint := [(0, [1, 2, 3, 6], []), (1, [2, 3, 6, 7], []), (2, [2, 3, 6, 7, 8], []), (3, [2, 3, 6, 7, 8, 21], []), (4, [2, 3, 6, 7, 8, 21, 22], []), (5, [2, 3, 6, 7, 8, 9, 21], []), (6, [2, 3, 6, 7, 8, 9, 10, 11, 21], [(0, 0), (1, 0), (2, 0), (3, 0), (4, 0), (5, 0)]), (7, [2, 3, 6, 7, 8, 9, 10, 11, 12, 21], []), (8, [2, 3, 6, 7, 8, 9, 11, 12, 13, 21], []), (9, [2, 3, 6, 7, 8, 11, 14, 21], [(0, 0), (1, 0), (2, 0), (3, 0), (4, 0), (5, 0), (6, 0), (7, 0), (8, 0), (9, 0), (10, 0), (11, 0), (12, 0), (13, 0), (14, 0), (15, 0), (16, 0)]), (10, [2, 3, 6, 7, 8, 11, 14, 15, 21], []), (11, [2, 3, 6, 7, 8, 14, 15, 16, 21], []), (12, [2, 3, 6, 7, 8, 21], []), (13, [2, 3, 6, 7, 8, 21], []), (14, [3, 6, 8, 108], []), (15, [3, 6, 8, 108, 109], []), (16, [3, 6, 8, 17, 108], []), (17, [3, 6, 8, 108], [(0, 0), (1, 0), (2, 0), (3, 0), (4, 0), (5, 0), (6, 0), (7, 0), (8, 0)]), (18, [3, 6, 8, 108], []), (19, [6], [])]
def ir_sha_mix : AFunc := ⟨3, 121, [.cell 6 (some 8)],
 (.seq (.ops [
   ⟨(some 3), .box (.t 0), none⟩,
   ⟨(some 6), .alloc (List.replicate 8 (.int .u32 0)), none⟩] [1, 2, 3, 6])
 (.seq (.ops [
   ⟨(some 18), .mv (.t 1), none⟩,
   ⟨(some 19), .call 91 [.t 18], none⟩,
   ⟨(some 7), .alloc (List.replicate 64 (.int .u32 0)), none⟩,
   ⟨none, .store 64 (.t 7) (.t 19), none⟩] [2, 3, 6, 7])
 (.seq (.ops [
   ⟨(some 20), .load (some 8) (.t 3), none⟩,
   ⟨(some 8), .alloc (List.replicate 8 (.int .u32 0)), none⟩,
   ⟨none, .store 8 (.t 8) (.t 20), none⟩] [2, 3, 6, 7, 8])
 (.seq (.seq (.ops [
   ⟨(some 21), .mv (.c (.int .i64 0)), none⟩] [2, 3, 6, 7, 8, 21])
 (.block 0
  (.loop
   (.seq (.ops [
     ⟨(some 22), .bin .lss (.t 21) (.c (.int .i64 64)), none⟩] [2, 3, 6, 7, 8, 21, 22])
   (.seq (.cond (.t 22)
    .skip
    (.exit 0))
   (.seq (.block 1
    (.seq (.ops [
      ⟨(some 23), .mv (.t 21), none⟩,
      ⟨(some 9), .mv (.t 23), none⟩] [2, 3, 6, 7, 8, 9, 21])
    (.seq (.dops [
      ⟨0, (some 24), .iaddrA 8 1 (.t 8) (.c (.int .i64 4)), none, 0⟩,
      ⟨1, (some 25), .load none (.t 24), none, 0⟩,
      ⟨2, (some 26), .iaddrA 8 1 (.t 8) (.c (.int .i64 0)), none, 0⟩,
      ⟨3, (some 27), .load none (.t 26), none, 0⟩,
      ⟨4, (some 10), .mv (.t 25), none, 0⟩,
      ⟨5, (some 11), .mv (.t 27), none, 0⟩] [2, 3, 6, 7, 8, 9, 10, 11, 21])
    (.seq (.ops [
      ⟨(some 28), .mv (.t 10), none⟩,
      ⟨(some 29), .call 92 [.t 28, .c (.int .i64 6)], none⟩,
      ⟨(some 30), .mv (.t 10), none⟩,
      ⟨(some 31), .call 92 [.t 30, .c (.int .i64 11)], none⟩,
      ⟨(some 32), .bin .xor (.t 29) (.t 31), none⟩,
      ⟨(some 33), .mv (.t 10), none⟩,
      ⟨(some 34), .call 92 [.t 33, .c (.int .i64 25)], none⟩,
      ⟨(some 35), .bin .xor (.t 32) (.t 34), none⟩,
      ⟨(some 12), .mv (.t 35), none⟩] [2, 3, 6, 7, 8, 9, 10, 11, 12, 21])
    (.seq (.ops [
      ⟨(some 36), .mv (.t 10), none⟩,
      ⟨(some 37), .iaddrA 8 1 (.t 8) (.c (.int .i64 5)), none⟩,
      ⟨(some 38), .load none (.t 37), none⟩,
      ⟨(some 39), .bin .and (.t 36) (.t 38), none⟩,
      ⟨(some 40), .mv (.t 10), none⟩,
      ⟨(some 41), .un .xor (.t 40), none⟩,
      ⟨(some 42), .iaddrA 8 1 (.t 8) (.c (.int .i64 6)), none⟩,
      ⟨(some 43), .load none (.t 42), none⟩,
      ⟨(some 44), .bin .and (.t 41) (.t 43), none⟩,
      ⟨(some 45), .bin .xor (.t 39) (.t 44), none⟩,
      ⟨(some 13), .mv (.t 45), none⟩] [2, 3, 6, 7, 8, 9, 11, 12, 13, 21])
    (.seq (.dops [
      ⟨0, (some 46), .iaddrA 8 1 (.t 8) (.c (.int .i64 7)), none, 0⟩,
      ⟨1, (some 47), .load none (.t 46), none, 0⟩,
      ⟨2, (some 48), .mv (.t 12), none, 0⟩,
      ⟨3, (some 49), .bin .add (.t 47) (.t 48), none, 0⟩,
      ⟨4, (some 50), .mv (.t 13), none, 0⟩,
      ⟨5, (some 51), .bin .add (.t 49) (.t 50), none, 0⟩,
      ⟨6, (some 52), .mv (.t 2), none, 0⟩,
      ⟨7, (some 53), .mv (.t 9), none, 0⟩,
      ⟨8, (some 54), .nilc (.t 52), none, 0⟩,
      ⟨9, (some 55), .iaddrA 64 1 (.t 54) (.t 53), none, 0⟩,
      ⟨10, (some 56), .load none (.t 55), none, 0⟩,
      ⟨11, (some 57), .bin .add (.t 51) (.t 56), none, 0⟩,
      ⟨12, (some 58), .mv (.t 9), none, 0⟩,
      ⟨13, (some 59), .iaddrA 64 1 (.t 7) (.t 58), none, 0⟩,
      ⟨14, (some 60), .load none (.t 59), none, 0⟩,
      ⟨15, (some 61), .bin .add (.t 57) (.t 60), none, 0⟩,
      ⟨16, (some 14), .mv (.t 61), none, 0⟩] [2, 3, 6, 7, 8, 11, 14, 21])
    (.seq (.ops [
      ⟨(some 62), .mv (.t 11), none⟩,
      ⟨(some 63), .call 92 [.t 62, .c (.int .i64 2)], none⟩,
      ⟨(some 64), .mv (.t 11), none⟩,
      ⟨(some 65), .call 92 [.t 64, .c (.int .i64 13)], none⟩,
      ⟨(some 66), .bin .xor (.t 63) (.t 65), none⟩,
      ⟨(some 67), .mv (.t 11), none⟩,
      ⟨(some 68), .call 92 [.t 67, .c (.int .i64 22)], none⟩,
      ⟨(some 69), .bin .xor (.t 66) (.t 68), none⟩,
      ⟨(some 15), .mv (.t 69), none⟩] [2, 3, 6, 7, 8, 11, 14, 15, 21])
    (.seq (.ops [
      ⟨(some 70), .mv (.t 11), none⟩,
      ⟨(some 71), .iaddrA 8 1 (.t 8) (.c (.int .i64 1)), none⟩,
      ⟨(some 72), .load none (.t 71), none⟩,
      ⟨(some 73), .bin .and (.t 70) (.t 72), none⟩,
      ⟨(some 74), .mv (.t 11), none⟩,
      ⟨(some 75), .iaddrA 8 1 (.t 8) (.c (.int .i64 2)), none⟩,
      ⟨(some 76), .load none (.t 75), none⟩,
      ⟨(some 77), .bin .and (.t 74) (.t 76), none⟩,
      ⟨(some 78), .bin .xor (.t 73) (.t 77), none⟩,
      ⟨(some 79), .iaddrA 8 1 (.t 8) (.c (.int .i64 1)), none⟩,
      ⟨(some 80), .load none (.t 79), none⟩,
      ⟨(some 81), .iaddrA 8 1 (.t 8) (.c (.int .i64 2)), none⟩,
      ⟨(some 82), .load none (.t 81), none⟩,
      ⟨(some 83), .bin .and (.t 80) (.t 82), none⟩,
      ⟨(some 84), .bin .xor (.t 78) (.t 83), none⟩,
      ⟨(some 16), .mv (.t 84), none⟩] [2, 3, 6, 7, 8, 14, 15, 16, 21])
    (.ops [
      ⟨(some 85), .mv (.t 14), none⟩,
      ⟨(some 86), .mv (.t 15), none⟩,
      ⟨(some 87), .bin .add (.t 85) (.t 86), none⟩,
      ⟨(some 88), .mv (.t 16), none⟩,
      ⟨(some 89), .bin .add (.t 87) (.t 88), none⟩,
      ⟨(some 90), .iaddrA 8 1 (.t 8) (.c (.int .i64 0)), none⟩,
      ⟨(some 91), .load none (.t 90), none⟩,
      ⟨(some 92), .iaddrA 8 1 (.t 8) (.c (.int .i64 1)), none⟩,
      ⟨(some 93), .load none (.t 92), none⟩,
      ⟨(some 94), .iaddrA 8 1 (.t 8) (.c (.int .i64 2)), none⟩,
      ⟨(some 95), .load none (.t 94), none⟩,
      ⟨(some 96), .iaddrA 8 1 (.t 8) (.c (.int .i64 3)), none⟩,
      ⟨(some 97), .load none (.t 96), none⟩,
      ⟨(some 98), .mv (.t 14), none⟩,
      ⟨(some 99), .bin .add (.t 97) (.t 98), none⟩,
      ⟨(some 100), .iaddrA 8 1 (.t 8) (.c (.int .i64 4)), none⟩,
      ⟨(some 101), .load none (.t 100), none⟩,
      ⟨(some 102), .iaddrA 8 1 (.t 8) (.c (.int .i64 5)), none⟩,
      ⟨(some 103), .load none (.t 102), none⟩,
      ⟨(some 104), .iaddrA 8 1 (.t 8) (.c (.int .i64 6)), none⟩,
      ⟨(some 105), .load none (.t 104), none⟩,
      ⟨(some 106), .build (List.replicate 8 (.int .u32 0)) [(0, 1, .t 89), (1, 1, .t 91), (2, 1, .t 93), (3, 1, .t 95), (4, 1, .t 99), (5, 1, .t 101), (6, 1, .t 103), (7, 1, .t 105)], none⟩,
      ⟨none, .store 8 (.t 8) (.t 106), none⟩] [2, 3, 6, 7, 8, 21])))))))))
   (.ops [
     ⟨(some 107), .bin .add (.t 21) (.c (.int .i64 1)), none⟩,
     ⟨(some 21), .mv (.t 107), none⟩] [2, 3, 6, 7, 8, 21])))))))
 (.seq (.seq (.ops [
   ⟨(some 108), .mv (.c (.int .i64 0)), none⟩] [3, 6, 8, 108])
 (.block 2
  (.loop
   (.seq (.ops [
     ⟨(some 109), .bin .lss (.t 108) (.c (.int .i64 8)), none⟩] [3, 6, 8, 108, 109])
   (.seq (.cond (.t 109)
    .skip
    (.exit 2))
   (.seq (.block 3
    (.seq (.ops [
      ⟨(some 110), .mv (.t 108), none⟩,
      ⟨(some 17), .mv (.t 110), none⟩] [3, 6, 8, 17, 108])
    (.dops [
      ⟨0, (some 111), .mv (.t 17), none, 0⟩,
      ⟨1, (some 112), .iaddrA 8 1 (.t 3) (.t 111), none, 0⟩,
      ⟨2, (some 113), .load none (.t 112), none, 0⟩,
      ⟨3, (some 114), .mv (.t 17), none, 0⟩,
      ⟨4, (some 115), .iaddrA 8 1 (.t 8) (.t 114), none, 0⟩,
      ⟨5, (some 116), .load none (.t 115), none, 0⟩,
      ⟨6, (some 117), .bin .add (.t 113) (.t 116), none, 0⟩,
      ⟨7, (some 118), .iaddrA 8 1 (.t 3) (.t 111), none, 0⟩,
      ⟨8, none, .store 1 (.t 118) (.t 117), none, 0⟩] [3, 6, 8, 108])))
   (.ops [
     ⟨(some 119), .bin .add (.t 108) (.c (.int .i64 1)), none⟩,
     ⟨(some 108), .mv (.t 119), none⟩] [3, 6, 8, 108])))))))
 (.seq (.ops [
   ⟨(some 120), .load (some 8) (.t 3), none⟩,
   ⟨none, .store 8 (.t 6) (.t 120), none⟩] [6])
 .ret))))))⟩

def h_octet_FromBig : Hint := [(0, [0], []), (1, [0, 9], []), (2, [2, 3], []), (3, [0, 4], []), (4, [4, 10, 11, 12], []), (5, [4, 10, 11, 12, 13], []), (6, [4, 6, 10, 11, 12], []), (7, [4, 10, 11, 12], []), (8, [4, 10, 11, 12], []), (9, [2, 3], [])]
def ir_octet_FromBig : AFunc := ⟨1, 23, [.tmp 2, .tmp 3],
 (.seq (.ops [
   ⟨(some 2), .mv (.c (.int .u64 0)), none⟩,
   ⟨(some 3), .mv (.c (.int .i64 0)), none⟩] [0])
 (.seq (.seq (.ops [
   ⟨(some 7), .mv (.t 0), none⟩,
   ⟨(some 8), .lenS (.t 7), none⟩,
   ⟨(some 9), .bin .gtr (.t 8) (.c (.int .i64 8)), none⟩] [0, 9])
 (.cond (.t 9)
  (.seq (.ops [
    ⟨(some 2), .mv (.c (.int .u64 0)), none⟩,
    ⟨(some 3), .mv (.c (.int .i64 1)), none⟩] [2, 3])
  .ret)
  .skip))
 (.seq (.ops [
   ⟨(some 4), .mv (.c (.int .u64 0)), none⟩] [0, 4])
 (.seq (.seq (.ops [
   ⟨(some 10), .mv (.t 0), none⟩,
   ⟨(some 11), .lenS (.t 10), none⟩,
   ⟨(some 12), .mv (.c (.int .i64 0)), none⟩] [4, 10, 11, 12])
 (.block 0
  (.loop
   (.seq (.ops [
     ⟨(some 13), .bin .lss (.t 12) (.t 11), none⟩] [4, 10, 11, 12, 13])
   (.seq (.cond (.t 13)
    .skip
    (.exit 0))
   (.seq (.block 1
    (.seq (.ops [
      ⟨(some 14), .iaddrS 1 (.t 10) (.t 12), none⟩,
      ⟨(some 15), .load none (.t 14), none⟩,
      ⟨(some 6), .mv (.t 15), none⟩] [4, 6, 10, 11, 12])
    (.ops [
      ⟨(some 16), .mv (.t 4), none⟩,
      ⟨(some 17), .bin .shl (.t 16) (.c (.int .u64 8)), none⟩,
      ⟨(some 18), .mv (.t 6), none⟩,
      ⟨(some 19), .conv .u64 (.t 18), none⟩,
      ⟨(some 20), .bin .or (.t 17) (.t 19), none⟩,
      ⟨(some 4), .mv (.t 20), none⟩] [4, 10, 11, 12])))
   (.ops [
     ⟨(some 21), .bin .add (.t 12) (.c (.int .i64 1)), none⟩,
     ⟨(some 12), .mv (.t 21), none⟩] [4, 10, 11, 12])))))))
 (.seq (.ops [
   ⟨(some 22), .mv (.t 4), none⟩,
   ⟨(some 2), .mv (.t 22), none⟩,
   ⟨(some 3), .mv (.c (.int .i64 0)), none⟩] [2, 3])
 .ret)))))⟩

def h_octet_Turn : Hint := [(0, [0], []), (1, [3], []), (2, [3], []), (3, [2], [])]
def ir_octet_Turn : AFunc := ⟨1, 9, [.tmp 2],
 (.seq (.ops [
   ⟨(some 2), .mv (.c (.slice none 0 0)), none⟩] [0])
 (.seq (.ops [
   ⟨(some 4), .mv (.t 0), none⟩,
   ⟨(some 5), .call 55 [.t 4], none⟩,
   ⟨(some 3), .mv (.t 5), none⟩] [3])
 (.seq (.ops [
   ⟨(some 6), .mv (.t 3), none⟩,
   ⟨(some 7), .call 93 [.t 6], none⟩] [3])
 (.seq (.ops [
   ⟨(some 8), .mv (.t 3), none⟩,
   ⟨(some 2), .mv (.t 8), none⟩] [2])
 .ret))))⟩

def h_math_bits_Mul64 : Hint := [(0, [0, 1], []), (1, [0, 1, 6], []), (2, [0, 1, 6, 7], []), (3, [0, 1, 6, 7, 8], []), (4, [0, 1, 6, 7, 8, 9], []), (5, [0, 1, 6, 7, 8, 9, 10], []), (6, [0, 1, 6, 7, 9, 11], []), (7, [0, 1, 6, 7, 9, 11, 12], []), (8, [0, 1, 6, 7, 9, 12, 13], []), (9, [0, 1, 7, 9, 12, 13], []), (10, [0, 1, 4], []), (11, [4, 5], [])]
def ir_math_bits_Mul64 : AFunc := ⟨2, 51, [.tmp 4, .tmp 5],
 (.seq (.ops [
   ⟨(some 4), .mv (.c (.int .u64 0)), none⟩,
   ⟨(some 5), .mv (.c (.int .u64 0)), none⟩] [0, 1])
 (.seq (.ops [
   ⟨(some 14), .mv (.t 0), none⟩,
   ⟨(some 15), .bin .and (.t 14) (.c (.int .u64 4294967295)), none⟩,
   ⟨(some 6), .mv (.t 15), none⟩] [0, 1, 6])
 (.seq (.ops [
   ⟨(some 16), .mv (.t 0), none⟩,
   ⟨(some 17), .bin .shr (.t 16) (.c (.int .u64 32)), none⟩,
   ⟨(some 7), .mv (.t 17), none⟩] [0, 1, 6, 7])
 (.seq (.ops [
   ⟨(some 18), .mv (.t 1), none⟩,
   ⟨(some 19), .bin .and (.t 18) (.c (.int .u64 4294967295)), none⟩,
   ⟨(some 8), .mv (.t 19), none⟩] [0, 1, 6, 7, 8])
 (.seq (.ops [
   ⟨(some 20), .mv (.t 1), none⟩,
   ⟨(some 21), .bin .shr (.t 20) (.c (.int .u64 32)), none⟩,
   ⟨(some 9), .mv (.t 21), none⟩] [0, 1, 6, 7, 8, 9])
 (.seq (.ops [
   ⟨(some 22), .mv (.t 6), none⟩,
   ⟨(some 23), .mv (.t 8), none⟩,
   ⟨(some 24), .bin .mul (.t 22) (.t 23), none⟩,
   ⟨(some 10), .mv (.t 24), none⟩] [0, 1, 6, 7, 8, 9, 10])
 (.seq (.ops [
   ⟨(some 25), .mv (.t 7), none⟩,
   ⟨(some 26), .mv (.t 8), none⟩,
   ⟨(some 27), .bin .mul (.t 25) (.t 26), none⟩,
   ⟨(some 28), .mv (.t 10), none⟩,
   ⟨(some 29), .bin .shr (.t 28) (.c (.int .u64 32)), none⟩,
   ⟨(some 30), .bin .add (.t 27) (.t 29), none⟩,
   ⟨(some 11), .mv (.t 30), none⟩] [0, 1, 6, 7, 9, 11])
 (.seq (.ops [
   ⟨(some 31), .mv (.t 11), none⟩,
   ⟨(some 32), .bin .and (.t 31) (.c (.int .u64 4294967295)), none⟩,
   ⟨(some 12), .mv (.t 32), none⟩] [0, 1, 6, 7, 9, 11, 12])
 (.seq (.ops [
   ⟨(some 33), .mv (.t 11), none⟩,
   ⟨(some 34), .bin .shr (.t 33) (.c (.int .u64 32)), none⟩,
   ⟨(some 13), .mv (.t 34), none⟩] [0, 1, 6, 7, 9, 12, 13])
 (.seq (.ops [
   ⟨(some 35), .mv (.t 12), none⟩,
   ⟨(some 36), .mv (.t 6), none⟩,
   ⟨(some 37), .mv (.t 9), none⟩,
   ⟨(some 38), .bin .mul (.t 36) (.t 37), none⟩,
   ⟨(some 39), .bin .add (.t 35) (.t 38), none⟩,
   ⟨(some 12), .mv (.t 39), none⟩] [0, 1, 7, 9, 12, 13])
 (.seq (.ops [
   ⟨(some 40), .mv (.t 7), none⟩,
   ⟨(some 41), .mv (.t 9), none⟩,
   ⟨(some 42), .bin .mul (.t 40) (.t 41), none⟩,
   ⟨(some 43), .mv (.t 13), none⟩,
   ⟨(some 44), .bin .add (.t 42) (.t 43), none⟩,
   ⟨(some 45), .mv (.t 12), none⟩,
   ⟨(some 46), .bin .shr (.t 45) (.c (.int .u64 32)), none⟩,
   ⟨(some 47), .bin .add (.t 44) (.t 46), none⟩,
   ⟨(some 4), .mv (.t 47), none⟩] [0, 1, 4])
 (.seq (.ops [
   ⟨(some 48), .mv (.t 0), none⟩,
   ⟨(some 49), .mv (.t 1), none⟩,
   ⟨(some 50), .bin .mul (.t 48) (.t 49), none⟩,
   ⟨(some 5), .mv (.t 50), none⟩] [4, 5])
 .ret))))))))))))⟩

def h_sha_schedule : Hint := [(0, [0, 2], []), (1, [0, 2, 3], []), (2, [0, 2, 3, 11], []), (3, [0, 2, 3, 11, 12], []), (4, [0, 2, 3, 4, 11], []), (5, [0, 2, 3, 4, 11, 15], []), (6, [0, 2, 3, 4, 5, 11], []), (7, [0, 2, 3, 11], []), (8, [0, 2, 3, 4, 7, 8, 11], [(0, 0), (1, 0), (2, 0), (3, 0), (4, 0), (5, 0), (6, 0), (7, 0), (8, 0), (9, 0)]), (9, [0, 2, 3, 4, 8, 9, 11], []), (10, [0, 2, 3, 4, 9, 10, 11], []), (11, [0, 2, 3, 11], [(0, 0), (1, 0), (2, 0), (3, 0), (4, 0), (5, 0), (6, 0), (7, 0), (8, 0), (9, 0), (10, 0), (11, 0), (12, 0), (13, 0), (14, 0), (15, 0)]), (12, [0, 2, 3, 11], []), (13, [2], [])]
def ir_sha_schedule : AFunc := ⟨1, 72, [.cell 2 (some 64)],
 (.seq (.ops [
   ⟨(some 2), .alloc (List.replicate 64 (.int .u32 0)), none⟩] [0, 2])
 (.seq (.ops [
   ⟨(some 3), .alloc (List.replicate 64 (.int .u32 0)), none⟩] [0, 2, 3])
 (.seq (.seq (.ops [
   ⟨(some 11), .mv (.c (.int .i64 0)), none⟩] [0, 2, 3, 11])
 (.block 0
  (.loop
   (.seq (.ops [
     ⟨(some 12), .bin .lss (.t 11) (.c (.int .i64 64)), none⟩] [0, 2, 3, 11, 12])
   (.seq (.cond (.t 12)
    .skip
    (.exit 0))
   (.seq (.block 1
    (.seq (.ops [
      ⟨(some 13), .mv (.t 11), none⟩,
      ⟨(some 4), .mv (.t 13), none⟩] [0, 2, 3, 4, 11])
    (.seq (.seq (.ops [
      ⟨(some 14), .mv (.t 4), none⟩,
      ⟨(some 15), .bin .lss (.t 14) (.c (.int .i64 16)), none⟩] [0, 2, 3, 4, 11, 15])
    (.cond (.t 15)
     (.seq (.ops [
       ⟨(some 17), .mv (.t 0), none⟩,
       ⟨(some 18), .mv (.t 4), none⟩,
       ⟨(some 19), .bin .mul (.c (.int .i64 4)) (.t 18), none⟩,
       ⟨(some 20), .mv (.t 4), none⟩,
       ⟨(some 21), .bin .mul (.c (.int .i64 4)) (.t 20), none⟩,
       ⟨(some 22), .bin .add (.t 21) (.c (.int .i64 4)), none⟩,
       ⟨(some 23), .slSl 1 (.t 17) (some (.t 19)) (some (.t 22)) none, none⟩,
       ⟨(some 24), .call 88 [.t 23], none⟩,
       ⟨(some 16), .mv (.t 24), none⟩,
       ⟨(some 25), .ext (.t 16) 0, none⟩,
       ⟨(some 26), .ext (.t 16) 1, none⟩,
       ⟨(some 5), .mv (.t 25), none⟩,
       ⟨(some 6), .mv (.t 26), none⟩] [0, 2, 3, 4, 5, 11])
     (.seq (.ops [
       ⟨(some 27), .mv (.t 4), none⟩,
       ⟨(some 28), .mv (.t 5), none⟩,
       ⟨(some 29), .conv .u32 (.t 28), none⟩,
       ⟨(some 30), .iaddrA 64 1 (.t 3) (.t 27), none⟩,
       ⟨none, .store 1 (.t 30) (.t 29), none⟩] [0, 2, 3, 11])
     (.exit 1)))
     .skip))
    (.seq (.dops [
      ⟨0, (some 31), .mv (.t 4), none, 0⟩,
      ⟨1, (some 32), .bin .sub (.t 31) (.c (.int .i64 15)), none, 0⟩,
      ⟨2, (some 33), .iaddrA 64 1 (.t 3) (.t 32), none, 0⟩,
      ⟨3, (some 34), .load none (.t 33), none, 0⟩,
      ⟨4, (some 35), .mv (.t 4), none, 0⟩,
      ⟨5, (some 36), .bin .sub (.t 35) (.c (.int .i64 2)), none, 0⟩,
      ⟨6, (some 37), .iaddrA 64 1 (.t 3) (.t 36), none, 0⟩,
      ⟨7, (some 38), .load none (.t 37), none, 0⟩,
      ⟨8, (some 7), .mv (.t 34), none, 0⟩,
      ⟨9, (some 8), .mv (.t 38), none, 0⟩] [0, 2, 3, 4, 7, 8, 11])
    (.seq (.ops [
      ⟨(some 39), .mv (.t 7), none⟩,
      ⟨(some 40), .call 92 [.t 39, .c (.int .i64 7)], none⟩,
      ⟨(some 41), .mv (.t 7), none⟩,
      ⟨(some 42), .call 92 [.t 41, .c (.int .i64 18)], none⟩,
      ⟨(some 43), .bin .xor (.t 40) (.t 42), none⟩,
      ⟨(some 44), .mv (.t 7), none⟩,
      ⟨(some 45), .bin .shr (.t 44) (.c (.int .u64 3)), none⟩,
      ⟨(some 46), .bin .xor (.t 43) (.t 45), none⟩,
      ⟨(some 9), .mv (.t 46), none⟩] [0, 2, 3, 4, 8, 9, 11])
    (.seq (.ops [
      ⟨(some 47), .mv (.t 8), none⟩,
      ⟨(some 48), .call 92 [.t 47, .c (.int .i64 17)], none⟩,
      ⟨(some 49), .mv (.t 8), none⟩,
      ⟨(some 50), .call 92 [.t 49, .c (.int .i64 19)], none⟩,
      ⟨(some 51), .bin .xor (.t 48) (.t 50), none⟩,
      ⟨(some 52), .mv (.t 8), none⟩,
      ⟨(some 53), .bin .shr (.t 52) (.c (.int .u64 10)), none⟩,
      ⟨(some 54), .bin .xor (.t 51) (.t 53), none⟩,
      ⟨(some 10), .mv (.t 54), none⟩] [0, 2, 3, 4, 9, 10, 11])
    (.dops [
      ⟨0, (some 55), .mv (.t 4), none, 0⟩,
      ⟨1, (some 56), .mv (.t 4), none, 0⟩,
      ⟨2, (some 57), .bin .sub (.t 56) (.c (.int .i64 16)), none, 0⟩,
      ⟨3, (some 58), .iaddrA 64 1 (.t 3) (.t 57), none, 0⟩,
      ⟨4, (some 59), .load none (.t 58), none, 0⟩,
      ⟨5, (some 60), .mv (.t 9), none, 0⟩,
      ⟨6, (some 61), .bin .add (.t 59) (.t 60), none, 0⟩,
      ⟨7, (some 62), .mv (.t 4), none, 0⟩,
      ⟨8, (some 63), .bin .sub (.t 62) (.c (.int .i64 7)), none, 0⟩,
      ⟨9, (some 64), .iaddrA 64 1 (.t 3) (.t 63), none, 0⟩,
      ⟨10, (some 65), .load none (.t 64), none, 0⟩,
      ⟨11, (some 66), .bin .add (.t 61) (.t 65), none, 0⟩,
      ⟨12, (some 67), .mv (.t 10), none, 0⟩,
      ⟨13, (some 68), .bin .add (.t 66) (.t 67), none, 0⟩,
      ⟨14, (some 69), .iaddrA 64 1 (.t 3) (.t 55), none, 0⟩,
      ⟨15, none, .store 1 (.t 69) (.t 68), none, 0⟩] [0, 2, 3, 11])))))))
   (.ops [
     ⟨(some 70), .bin .add (.t 11) (.c (.int .i64 1)), none⟩,
     ⟨(some 11), .mv (.t 70), none⟩] [0, 2, 3, 11])))))))
 (.seq (.ops [
   ⟨(some 71), .load (some 64) (.t 3), none⟩,
   ⟨none, .store 64 (.t 2) (.t 71), none⟩] [2])
 .ret))))⟩

def h_sha_turn : Hint := [(0, [0, 1], []), (1, [4], [])]
def ir_sha_turn : AFunc := ⟨2, 9, [.tmp 4],
 (.seq (.ops [
   ⟨(some 4), .mv (.c (.int .u32 0)), none⟩] [0, 1])
 (.seq (.ops [
   ⟨(some 5), .mv (.t 0), none⟩,
   ⟨(some 6), .mv (.t 1), none⟩,
   ⟨(some 7), .un .neg (.t 6), none⟩,
   ⟨(some 8), .call 94 [.t 5, .t 7], none⟩,
   ⟨(some 4), .mv (.t 8), none⟩] [4])
 .ret))⟩

def h_slices_Reverse_byte_byte : Hint := [(0, [0, 2, 3], []), (1, [0, 2, 3, 9], []), (2, [0, 2, 3], []), (3, [0, 2, 3], [(0, 0), (1, 0), (4, 0), (5, 0), (6, 0), (7, 0), (8, 0), (9, 0), (10, 0), (11, 0), (12, 0), (13, 0), (2, 1), (3, 1), (14, 0), (15, 0)])]
def ir_slices_Reverse_byte_byte : AFunc := ⟨1, 28, [],
 (.seq (.ops [
   ⟨(some 4), .mv (.t 0), none⟩,
   ⟨(some 5), .lenS (.t 4), none⟩,
   ⟨(some 6), .bin .sub (.t 5) (.c (.int .i64 1)), none⟩,
   ⟨(some 2), .mv (.c (.int .i64 0)), none⟩,
   ⟨(some 3), .mv (.t 6), none⟩] [0, 2, 3])
 (.block 0
  (.loop
   (.seq (.seq (.ops [
     ⟨(some 7), .mv (.t 2), none⟩,
     ⟨(some 8), .mv (.t 3), none⟩,
     ⟨(some 9), .bin .lss (.t 7) (.t 8), none⟩] [0, 2, 3, 9])
   (.cond (.t 9)
    .skip
    (.exit 0)))
   (.seq (.block 1
    (.dops [
      ⟨0, (some 14), .mv (.t 0), none, 0⟩,
      ⟨1, (some 15), .mv (.t 2), none, 0⟩,
      ⟨4, (some 18), .mv (.t 0), none, 0⟩,
      ⟨5, (some 19), .mv (.t 3), none, 0⟩,
      ⟨6, (some 20), .iaddrS 1 (.t 18) (.t 19), none, 0⟩,
      ⟨7, (some 21), .load none (.t 20), none, 0⟩,
      ⟨8, (some 22), .mv (.t 0), none, 0⟩,
      ⟨9, (some 23), .mv (.t 2), none, 0⟩,
      ⟨10, (some 24), .iaddrS 1 (.t 22) (.t 23), none, 0⟩,
      ⟨11, (some 25), .load none (.t 24), none, 0⟩,
      ⟨12, (some 26), .iaddrS 1 (.t 14) (.t 15), none, 0⟩,
      ⟨13, none, .store 1 (.t 26) (.t 21), none, 0⟩,
      ⟨2, (some 16), .mv (.t 0), none, 1⟩,
      ⟨3, (some 17), .mv (.t 3), none, 1⟩,
      ⟨14, (some 27), .iaddrS 1 (.t 16) (.t 17), none, 0⟩,
      ⟨15, none, .store 1 (.t 27) (.t 25), none, 0⟩] [0, 2, 3]))
   (.ops [
     ⟨(some 10), .mv (.t 2), none⟩,
     ⟨(some 11), .bin .add (.t 10) (.c (.int .i64 1)), none⟩,
     ⟨(some 12), .mv (.t 3), none⟩,
     ⟨(some 13), .bin .sub (.t 12) (.c (.int .i64 1)), none⟩,
     ⟨(some 2), .mv (.t 11), none⟩,
     ⟨(some 3), .mv (.t 13), none⟩] [0, 2, 3]))))))⟩

def h_math_bits_RotateLeft32 : Hint := [(0, [0, 1], []), (1, [0, 5], []), (2, [4], [])]
def ir_math_bits_RotateLeft32 : AFunc := ⟨2, 17, [.tmp 4],
 (.seq (.ops [
   ⟨(some 4), .mv (.c (.int .u32 0)), none⟩] [0, 1])
 (.seq (.ops [
   ⟨(some 6), .mv (.t 1), none⟩,
   ⟨(some 7), .conv .u64 (.t 6), none⟩,
   ⟨(some 8), .bin .and (.t 7) (.c (.int .u64 31)), none⟩,
   ⟨(some 5), .mv (.t 8), none⟩] [0, 5])
 (.seq (.ops [
   ⟨(some 9), .mv (.t 0), none⟩,
   ⟨(some 10), .mv (.t 5), none⟩,
   ⟨(some 11), .bin .shl (.t 9) (.t 10), none⟩,
   ⟨(some 12), .mv (.t 0), none⟩,
   ⟨(some 13), .mv (.t 5), none⟩,
   ⟨(some 14), .bin .sub (.c (.int .u64 32)) (.t 13), none⟩,
   ⟨(some 15), .bin .shr (.t 12) (.t 14), none⟩,
   ⟨(some 16), .bin .or (.t 11) (.t 15), none⟩,
   ⟨(some 4), .mv (.t 16), none⟩] [4])
 .ret)))⟩

def h_bandboxlaw6_awake : Hint := [(0, [], []), (1, [1, 2], []), (2, [1, 2, 3, 4], []), (3, [0], [])]
def ir_bandboxlaw6_awake_24 : ACode := (.seq (.ops [
   ⟨(some 24), .mv (.t 2), none⟩,
   ⟨(some 25), .bin .eql (.t 24) (.c (.int .i64 0)), none⟩,
   ⟨(some 26), .mv (.t 25), none⟩,
   ⟨(some 27), .mv (.t 4), (some (26, true))⟩,
   ⟨(some 28), .bin .eql (.t 27) (.c (.int .i64 0)), (some (26, true))⟩,
   ⟨(some 29), .pick (.t 26) (.t 28) (.c (.bool false)), none⟩,
   ⟨(some 30), .mv (.t 29), none⟩,
   ⟨(some 31), .mv (.t 1), (some (30, true))⟩,
   ⟨(some 32), .lenS (.t 31), (some (30, true))⟩,
   ⟨(some 33), .bin .eql (.t 32) (.c (.int .i64 17)), (some (30, true))⟩,
   ⟨(some 34), .pick (.t 30) (.t 33) (.c (.bool false)), none⟩,
   ⟨(some 35), .mv (.t 34), none⟩,
   ⟨(some 36), .mv (.t 3), (some (35, true))⟩,
   ⟨(some 37), .strOf (.t 36), (some (35, true))⟩,
   ⟨(some 38), .bin .eql (.t 37) (.c (.string ⟨#[120]⟩)), (some (35, true))⟩,
   ⟨(some 39), .pick (.t 35) (.t 38) (.c (.bool false)), none⟩,
   ⟨(some 0), .mv (.t 39), none⟩] [0])
 .ret)
def ir_bandboxlaw6_awake_6 : ACode := (.seq (.ops [
   ⟨(some 6), .build (List.replicate 32 (.int .u8 0)) [(0, 1, .c (.int .u8 1))], none⟩,
   ⟨(some 7), .build (List.replicate 12 (.int .u8 0)) [(0, 1, .c (.int .u8 2))], none⟩,
   ⟨(some 8), .bslice 1 1 ([.int .u8 0]) [(0, 1, .c (.int .u8 120))], none⟩,
   ⟨(some 9), .mark (.t 8), none⟩,
   ⟨(some 10), .bslice 1 1 ([.int .u8 0]) [(0, 1, .c (.int .u8 121))], none⟩,
   ⟨(some 11), .mark (.t 10), none⟩,
   ⟨(some 12), .call 115 [.t 6, .t 7, .t 9, .t 11], none⟩,
   ⟨(some 5), .mv (.t 12), none⟩,
   ⟨(some 13), .ext (.t 5) 0, none⟩,
   ⟨(some 14), .ext (.t 5) 1, none⟩,
   ⟨(some 1), .mv (.t 13), none⟩,
   ⟨(some 2), .mv (.t 14), none⟩] [1, 2])
 (.seq (.ops [
   ⟨(some 16), .build (List.replicate 32 (.int .u8 0)) [(0, 1, .c (.int .u8 1))], none⟩,
   ⟨(some 17), .build (List.replicate 12 (.int .u8 0)) [(0, 1, .c (.int .u8 2))], none⟩,
   ⟨(some 18), .mv (.t 1), none⟩,
   ⟨(some 19), .bslice 1 1 ([.int .u8 0]) [(0, 1, .c (.int .u8 121))], none⟩,
   ⟨(some 20), .mark (.t 19), none⟩,
   ⟨(some 21), .call 116 [.t 16, .t 17, .t 18, .t 20], none⟩,
   ⟨(some 15), .mv (.t 21), none⟩,
   ⟨(some 22), .ext (.t 15) 0, none⟩,
   ⟨(some 23), .ext (.t 15) 1, none⟩,
   ⟨(some 3), .mv (.t 22), none⟩,
   ⟨(some 4), .mv (.t 23), none⟩] [1, 2, 3, 4])
 ir_bandboxlaw6_awake_24))
def ir_bandboxlaw6_awake : AFunc := ⟨0, 40, [.tmp 0],
 (.seq (.ops [
   ⟨(some 0), .mv (.c (.bool false)), none⟩] [])
 ir_bandboxlaw6_awake_6)⟩

def h_aead_Seal : Hint := [(0, [2, 3, 4, 5], []), (1, [2, 3, 4, 5, 15], []), (2, [8, 9], []), (3, [3, 4, 5, 10, 11], []), (4, [3, 4, 5, 10, 11, 24], []), (5, [8, 9], []), (6, [10, 12], []), (7, [8, 9], [])]
def ir_aead_Seal_23 : ACode := (.seq (.seq (.ops [
   ⟨(some 23), .mv (.t 11), none⟩,
   ⟨(some 24), .bin .neq (.t 23) (.c (.int .i64 0)), none⟩] [3, 4, 5, 10, 11, 24])
 (.cond (.t 24)
 (.seq (.ops [
    ⟨(some 25), .mv (.t 11), none⟩,
    ⟨(some 8), .mv (.c (.slice none 0 0)), none⟩,
    ⟨(some 9), .mv (.t 25), none⟩] [8, 9])
 .ret)
 .skip))
 (.seq (.ops [
   ⟨(some 26), .load (some 32) (.t 4), none⟩,
   ⟨(some 27), .load (some 12) (.t 5), none⟩,
   ⟨(some 28), .mv (.t 10), none⟩,
   ⟨(some 29), .mv (.t 3), none⟩,
   ⟨(some 30), .call 128 [.t 26, .t 27, .t 28, .t 29], none⟩,
   ⟨(some 12), .alloc (List.replicate 16 (.int .u8 0)), none⟩,
   ⟨none, .store 16 (.t 12) (.t 30), none⟩] [10, 12])
 (.seq (.ops [
   ⟨(some 31), .mv (.t 10), none⟩,
   ⟨(some 32), .slArr 16 1 (.t 12) none none none, none⟩,
   ⟨(some 33), .append 1 1 (.t 31) (.t 32), none⟩,
   ⟨(some 8), .mv (.t 33), none⟩,
   ⟨(some 9), .mv (.c (.int .i64 0)), none⟩] [8, 9])
 .ret)))
def ir_aead_Seal : AFunc := ⟨4, 34, [.tmp 8, .tmp 9],
 (.seq (.ops [
   ⟨(some 4), .box (.t 0), none⟩,
   ⟨(some 5), .box (.t 1), none⟩,
   ⟨(some 8), .mv (.c (.slice none 0 0)), none⟩,
   ⟨(some 9), .mv (.c (.int .i64 0)), none⟩] [2, 3, 4, 5])
 (.seq (.seq (.ops [
   ⟨(some 13), .mv (.t 2), none⟩,
   ⟨(some 14), .lenS (.t 13), none⟩,
   ⟨(some 15), .bin .gtr (.t 14) (.c (.int .i64 65536)), none⟩] [2, 3, 4, 5, 15])
 (.cond (.t 15)
 (.seq (.ops [
    ⟨(some 8), .mv (.c (.slice none 0 0)), none⟩,
    ⟨(some 9), .mv (.c (.int .i64 2)), none⟩] [8, 9])
 .ret)
 .skip))
 (.seq (.ops [
   ⟨(some 17), .load (some 32) (.t 4), none⟩,
   ⟨(some 18), .load (some 12) (.t 5), none⟩,
   ⟨(some 19), .mv (.t 2), none⟩,
   ⟨(some 20), .call 127 [.t 17, .c (.int .u32 1), .t 18, .t 19], none⟩,
   ⟨(some 16), .mv (.t 20), none⟩,
   ⟨(some 21), .ext (.t 16) 0, none⟩,
   ⟨(some 22), .ext (.t 16) 1, none⟩,
   ⟨(some 10), .mv (.t 21), none⟩,
   ⟨(some 11), .mv (.t 22), none⟩] [3, 4, 5, 10, 11])
 ir_aead_Seal_23)))⟩

def h_aead_Open : Hint := [(0, [2, 3, 4, 5], []), (1, [2, 3, 4, 5, 15], []), (2, [8, 9], []), (3, [2, 3, 4, 5, 10], []), (4, [2, 3, 4, 5, 10, 20], []), (5, [8, 9], []), (6, [2, 3, 4, 5, 10, 11], []), (7, [2, 4, 5, 10, 11, 12], []), (8, [4, 5, 11, 35], [(0, 0), (1, 0), (2, 0), (3, 0), (4, 0), (5, 0)]), (9, [8, 9], []), (10, [8, 9], [])]
def ir_aead_Open_25 : ACode := (.seq (.seq (.ops [
   ⟨(some 25), .load (some 32) (.t 4), none⟩,
   ⟨(some 26), .load (some 12) (.t 5), none⟩,
   ⟨(some 27), .mv (.t 11), none⟩,
   ⟨(some 28), .mv (.t 3), none⟩,
   ⟨(some 29), .call 128 [.t 25, .t 26, .t 27, .t 28], none⟩,
   ⟨(some 12), .alloc (List.replicate 16 (.int .u8 0)), none⟩,
   ⟨none, .store 16 (.t 12) (.t 29), none⟩] [2, 4, 5, 10, 11, 12])
 (.seq (.dops [
   ⟨0, (some 30), .slArr 16 1 (.t 12) none none none, none, 0⟩,
   ⟨1, (some 31), .mv (.t 2), none, 0⟩,
   ⟨2, (some 32), .mv (.t 10), none, 0⟩,
   ⟨3, (some 33), .slSl 1 (.t 31) (some (.t 32)) none none, none, 0⟩,
   ⟨4, (some 34), .call 129 [.t 30, .t 33], none, 0⟩,
   ⟨5, (some 35), .un .not (.t 34), none, 0⟩] [4, 5, 11, 35])
 (.cond (.t 35)
 (.seq (.ops [
    ⟨(some 8), .mv (.c (.slice none 0 0)), none⟩,
    ⟨(some 9), .mv (.c (.int .i64 8)), none⟩] [8, 9])
 .ret)
 .skip)))
 (.seq (.ops [
   ⟨(some 36), .load (some 32) (.t 4), none⟩,
   ⟨(some 37), .load (some 12) (.t 5), none⟩,
   ⟨(some 38), .mv (.t 11), none⟩,
   ⟨(some 39), .call 127 [.t 36, .c (.int .u32 1), .t 37, .t 38], none⟩,
   ⟨(some 40), .ext (.t 39) 0, none⟩,
   ⟨(some 41), .ext (.t 39) 1, none⟩,
   ⟨(some 8), .mv (.t 40), none⟩,
   ⟨(some 9), .mv (.t 41), none⟩] [8, 9])
 .ret))
def ir_aead_Open : AFunc := ⟨4, 42, [.tmp 8, .tmp 9],
 (.seq (.ops [
   ⟨(some 4), .box (.t 0), none⟩,
   ⟨(some 5), .box (.t 1), none⟩,
   ⟨(some 8), .mv (.c (.slice none 0 0)), none⟩,
   ⟨(some 9), .mv (.c (.int .i64 0)), none⟩] [2, 3, 4, 5])
 (.seq (.seq (.ops [
   ⟨(some 13), .mv (.t 2), none⟩,
   ⟨(some 14), .lenS (.t 13), none⟩,
   ⟨(some 15), .bin .gtr (.t 14) (.c (.int .i64 65552)), none⟩] [2, 3, 4, 5, 15])
 (.cond (.t 15)
 (.seq (.ops [
    ⟨(some 8), .mv (.c (.slice none 0 0)), none⟩,
    ⟨(some 9), .mv (.c (.int .i64 2)), none⟩] [8, 9])
 .ret)
 .skip))
 (.seq (.ops [
   ⟨(some 16), .mv (.t 2), none⟩,
   ⟨(some 17), .lenS (.t 16), none⟩,
   ⟨(some 18), .bin .sub (.t 17) (.c (.int .i64 16)), none⟩,
   ⟨(some 10), .mv (.t 18), none⟩] [2, 3, 4, 5, 10])
 (.seq (.seq (.ops [
   ⟨(some 19), .mv (.t 10), none⟩,
   ⟨(some 20), .bin .lss (.t 19) (.c (.int .i64 0)), none⟩] [2, 3, 4, 5, 10, 20])
 (.cond (.t 20)
 (.seq (.ops [
    ⟨(some 8), .mv (.c (.slice none 0 0)), none⟩,
    ⟨(some 9), .mv (.c (.int .i64 8)), none⟩] [8, 9])
 .ret)
 .skip))
 (.seq (.ops [
   ⟨(some 21), .mv (.t 2), none⟩,
   ⟨(some 22), .mv (.t 10), none⟩,
   ⟨(some 23), .slSl 1 (.t 21) none (some (.t 22)) none, none⟩,
   ⟨(some 24), .call 55 [.t 23], none⟩,
   ⟨(some 11), .mv (.t 24), none⟩] [2, 3, 4, 5, 10, 11])
 ir_aead_Open_25)))))⟩

def h_aead_Key : Hint := [(0, [2, 3, 4], []), (1, [4, 5], []), (2, [4], [])]
def ir_aead_Key : AFunc := ⟨2, 12, [.cell 4 (some 32)],
 (.seq (.ops [
   ⟨(some 2), .box (.t 0), none⟩,
   ⟨(some 3), .box (.t 1), none⟩,
   ⟨(some 4), .alloc (List.replicate 32 (.int .u8 0)), none⟩] [2, 3, 4])
 (.seq (.ops [
   ⟨(some 6), .load (some 32) (.t 2), none⟩,
   ⟨(some 7), .load (some 12) (.t 3), none⟩,
   ⟨(some 8), .call 130 [.t 6, .c (.int .u32 0), .t 7], none⟩,
   ⟨(some 5), .alloc (List.replicate 64 (.int .u8 0)), none⟩,
   ⟨none, .store 64 (.t 5) (.t 8), none⟩] [4, 5])
 (.seq (.ops [
   ⟨(some 9), .slArr 64 1 (.t 5) none (some (.c (.int .i64 32))) none, none⟩,
   ⟨(some 10), .arrOf 32 (.t 9), none⟩,
   ⟨(some 11), .load (some 32) (.t 10), none⟩,
   ⟨none, .store 32 (.t 4) (.t 11), none⟩] [4])
 .ret)))⟩

def h_bandboxref4_Seal : Hint := [(0, [2, 3, 4, 5], []), (1, [2, 3, 4, 5, 15], []), (2, [8, 9], []), (3, [3, 4, 5, 10], []), (4, [10, 12], []), (5, [8, 9], [(0, 0), (1, 0), (2, 0), (3, 1), (4, 0), (5, 0), (6, 0)])]
def ir_bandboxref4_Seal_17 : ACode := (.seq (.ops [
   ⟨(some 17), .load (some 32) (.t 4), none⟩,
   ⟨(some 18), .load (some 12) (.t 5), none⟩,
   ⟨(some 19), .mv (.t 2), none⟩,
   ⟨(some 20), .call 131 [.t 17, .c (.int .u32 1), .t 18, .t 19], none⟩,
   ⟨(some 16), .mv (.t 20), none⟩,
   ⟨(some 21), .ext (.t 16) 0, none⟩,
   ⟨(some 22), .ext (.t 16) 1, none⟩,
   ⟨(some 10), .mv (.t 21), none⟩,
   ⟨(some 11), .mv (.t 22), none⟩] [3, 4, 5, 10])
 (.seq (.ops [
   ⟨(some 23), .load (some 32) (.t 4), none⟩,
   ⟨(some 24), .load (some 12) (.t 5), none⟩,
   ⟨(some 25), .call 120 [.t 23, .t 24], none⟩,
   ⟨(some 26), .mv (.t 3), none⟩,
   ⟨(some 27), .mv (.t 10), none⟩,
   ⟨(some 28), .call 132 [.t 26, .t 27], none⟩,
   ⟨(some 29), .call 41 [.t 25, .t 28], none⟩,
   ⟨(some 12), .alloc (List.replicate 16 (.int .u8 0)), none⟩,
   ⟨none, .store 16 (.t 12) (.t 29), none⟩] [10, 12])
 (.seq (.dops [
   ⟨0, (some 30), .bslice 0 1 ([.int .u8 0]) [], none, 0⟩,
   ⟨1, (some 31), .mv (.t 10), none, 0⟩,
   ⟨2, (some 32), .append 1 1 (.t 30) (.t 31), none, 0⟩,
   ⟨3, (some 33), .slArr 16 1 (.t 12) none none none, none, 1⟩,
   ⟨4, (some 34), .append 1 1 (.t 32) (.t 33), none, 0⟩,
   ⟨5, (some 8), .mv (.t 34), none, 0⟩,
   ⟨6, (some 9), .mv (.c (.bool true)), none, 0⟩] [8, 9])
 .ret)))
def ir_bandboxref4_Seal : AFunc := ⟨4, 35, [.tmp 8, .tmp 9],
 (.seq (.ops [
   ⟨(some 4), .box (.t 0), none⟩,
   ⟨(some 5), .box (.t 1), none⟩,
   ⟨(some 8), .mv (.c (.slice none 0 0)), none⟩,
   ⟨(some 9), .mv (.c (.bool false)), none⟩] [2, 3, 4, 5])
 (.seq (.seq (.ops [
   ⟨(some 13), .mv (.t 2), none⟩,
   ⟨(some 14), .lenS (.t 13), none⟩,
   ⟨(some 15), .bin .gtr (.t 14) (.c (.int .i64 65536)), none⟩] [2, 3, 4, 5, 15])
 (.cond (.t 15)
 (.seq (.ops [
    ⟨(some 8), .mv (.c (.slice none 0 0)), none⟩,
    ⟨(some 9), .mv (.c (.bool false)), none⟩] [8, 9])
 .ret)
 .skip))
 ir_bandboxref4_Seal_17))⟩

def h_bandboxref4_Open : Hint := [(0, [2, 3, 4, 5], []), (1, [2, 3, 4, 5, 16], []), (2, [8, 9], []), (3, [2, 3, 4, 5, 19], []), (4, [8, 9], []), (5, [2, 3, 4, 5, 10], []), (6, [2, 4, 5, 10, 11], []), (7, [4, 5, 10, 39], [(0, 0), (1, 0), (2, 0), (3, 0), (4, 0), (5, 0), (6, 0), (7, 0)]), (8, [8, 9], []), (9, [12], []), (10, [8, 9], [])]
def ir_bandboxref4_Open_32 : ACode := (.seq (.seq (.dops [
   ⟨0, (some 32), .slArr 16 1 (.t 11) none none none, none, 0⟩,
   ⟨1, (some 33), .strOf (.t 32), none, 0⟩,
   ⟨2, (some 34), .mv (.t 2), none, 0⟩,
   ⟨3, (some 35), .mv (.t 10), none, 0⟩,
   ⟨4, (some 36), .lenS (.t 35), none, 0⟩,
   ⟨5, (some 37), .slSl 1 (.t 34) (some (.t 36)) none none, none, 0⟩,
   ⟨6, (some 38), .strOf (.t 37), none, 0⟩,
   ⟨7, (some 39), .bin .neq (.t 33) (.t 38), none, 0⟩] [4, 5, 10, 39])
 (.cond (.t 39)
 (.seq (.ops [
    ⟨(some 8), .mv (.c (.slice none 0 0)), none⟩,
    ⟨(some 9), .mv (.c (.int .i64 8)), none⟩] [8, 9])
 .ret)
 .skip))
 (.seq (.ops [
   ⟨(some 41), .load (some 32) (.t 4), none⟩,
   ⟨(some 42), .load (some 12) (.t 5), none⟩,
   ⟨(some 43), .mv (.t 10), none⟩,
   ⟨(some 44), .call 131 [.t 41, .c (.int .u32 1), .t 42, .t 43], none⟩,
   ⟨(some 40), .mv (.t 44), none⟩,
   ⟨(some 45), .ext (.t 40) 0, none⟩,
   ⟨(some 46), .ext (.t 40) 1, none⟩,
   ⟨(some 12), .mv (.t 45), none⟩,
   ⟨(some 13), .mv (.t 46), none⟩] [12])
 (.seq (.ops [
   ⟨(some 47), .mv (.t 12), none⟩,
   ⟨(some 8), .mv (.t 47), none⟩,
   ⟨(some 9), .mv (.c (.int .i64 0)), none⟩] [8, 9])
 .ret)))
def ir_bandboxref4_Open_17 : ACode := (.seq (.seq (.ops [
   ⟨(some 17), .mv (.t 2), none⟩,
   ⟨(some 18), .lenS (.t 17), none⟩,
   ⟨(some 19), .bin .lss (.t 18) (.c (.int .i64 16)), none⟩] [2, 3, 4, 5, 19])
 (.cond (.t 19)
 (.seq (.ops [
    ⟨(some 8), .mv (.c (.slice none 0 0)), none⟩,
    ⟨(some 9), .mv (.c (.int .i64 8)), none⟩] [8, 9])
 .ret)
 .skip))
 (.seq (.ops [
   ⟨(some 20), .mv (.t 2), none⟩,
   ⟨(some 21), .mv (.t 2), none⟩,
   ⟨(some 22), .lenS (.t 21), none⟩,
   ⟨(some 23), .bin .sub (.t 22) (.c (.int .i64 16)), none⟩,
   ⟨(some 24), .slSl 1 (.t 20) none (some (.t 23)) none, none⟩,
   ⟨(some 10), .mv (.t 24), none⟩] [2, 3, 4, 5, 10])
 (.seq (.ops [
   ⟨(some 25), .load (some 32) (.t 4), none⟩,
   ⟨(some 26), .load (some 12) (.t 5), none⟩,
   ⟨(some 27), .call 120 [.t 25, .t 26], none⟩,
   ⟨(some 28), .mv (.t 3), none⟩,
   ⟨(some 29), .mv (.t 10), none⟩,
   ⟨(some 30), .call 132 [.t 28, .t 29], none⟩,
   ⟨(some 31), .call 41 [.t 27, .t 30], none⟩,
   ⟨(some 11), .alloc (List.replicate 16 (.int .u8 0)), none⟩,
   ⟨none, .store 16 (.t 11) (.t 31), none⟩] [2, 4, 5, 10, 11])
 ir_bandboxref4_Open_32)))
def ir_bandboxref4_Open : AFunc := ⟨4, 48, [.tmp 8, .tmp 9],
 (.seq (.ops [
   ⟨(some 4), .box (.t 0), none⟩,
   ⟨(some 5), .box (.t 1), none⟩,
   ⟨(some 8), .mv (.c (.slice none 0 0)), none⟩,
   ⟨(some 9), .mv (.c (.int .i64 0)), none⟩] [2, 3, 4, 5])
 (.seq (.seq (.ops [
   ⟨(some 14), .mv (.t 2), none⟩,
   ⟨(some 15), .lenS (.t 14), none⟩,
   ⟨(some 16), .bin .gtr (.t 15) (.c (.int .i64 65552)), none⟩] [2, 3, 4, 5, 16])
 (.cond (.t 16)
 (.seq (.ops [
    ⟨(some 8), .mv (.c (.slice none 0 0)), none⟩,
    ⟨(some 9), .mv (.c (.int .i64 2)), none⟩] [8, 9])
 .ret)
 .skip))
 ir_bandboxref4_Open_17))⟩

def h_bandboxref4_TagKey : Hint := [(0, [2, 3, 4], []), (1, [4, 5], []), (2, [4, 5, 6], []), (3, [4, 6], [(0, 0), (1, 0), (2, 0)]), (4, [4], [])]
def ir_bandboxref4_TagKey : AFunc := ⟨2, 15, [.cell 4 (some 32)],
 (.seq (.ops [
   ⟨(some 2), .box (.t 0), none⟩,
   ⟨(some 3), .box (.t 1), none⟩,
   ⟨(some 4), .alloc (List.replicate 32 (.int .u8 0)), none⟩] [2, 3, 4])
 (.seq (.ops [
   ⟨(some 7), .load (some 32) (.t 2), none⟩,
   ⟨(some 8), .load (some 12) (.t 3), none⟩,
   ⟨(some 9), .call 133 [.t 7, .c (.int .u32 0), .t 8], none⟩,
   ⟨(some 5), .alloc (List.replicate 64 (.int .u8 0)), none⟩,
   ⟨none, .store 64 (.t 5) (.t 9), none⟩] [4, 5])
 (.seq (.ops [
   ⟨(some 10), .build (List.replicate 32 (.int .u8 0)) [], none⟩,
   ⟨(some 6), .alloc (List.replicate 32 (.int .u8 0)), none⟩,
   ⟨none, .store 32 (.t 6) (.t 10), none⟩] [4, 5, 6])
 (.seq (.dops [
   ⟨0, (some 11), .slArr 32 1 (.t 6) none none none, none, 0⟩,
   ⟨1, (some 12), .slArr 64 1 (.t 5) none (some (.c (.int .i64 32))) none, none, 0⟩,
   ⟨2, (some 13), .copy 1 (.t 11) (.t 12), none, 0⟩] [4, 6])
 (.seq (.ops [
   ⟨(some 14), .load (some 32) (.t 6), none⟩,
   ⟨none, .store 32 (.t 4) (.t 14), none⟩] [4])
 .ret)))))⟩

def h_chacha_Xor : Hint := [(0, [1, 3, 4, 6], []), (1, [1, 3, 4, 6, 10], []), (2, [1, 3, 4, 6, 10, 20], []), (3, [1, 3, 4, 6, 10], []), (4, [1, 3, 4, 6, 27], []), (5, [8, 9], []), (6, [1, 3, 4, 6, 11], []), (7, [1, 3, 4, 6, 11, 12], []), (8, [1, 3, 4, 6, 11, 12, 34], []), (9, [1, 3, 4, 6, 11, 12], []), (10, [1, 3, 4, 6, 11, 12, 13], []), (11, [1, 3, 4, 6, 11, 12], [(1, 0), (2, 0), (3, 0), (4, 0), (5, 0), (6, 0), (7, 0), (8, 0), (9, 0), (10, 0), (0, 1), (11, 0), (12, 0)]), (12, [8, 9], [])]
def ir_chacha_Xor_37 : ACode := (.seq (.block 1 (.seq (.ops [
      ⟨(some 37), .load (some 32) (.t 4), none⟩,
      ⟨(some 38), .mv (.t 1), none⟩,
      ⟨(some 39), .mv (.t 12), none⟩,
      ⟨(some 40), .bin .quo (.t 39) (.c (.int .i64 64)), none⟩,
      ⟨(some 41), .conv .u32 (.t 40), none⟩,
      ⟨(some 42), .bin .add (.t 38) (.t 41), none⟩,
      ⟨(some 43), .load (some 12) (.t 6), none⟩,
      ⟨(some 44), .call 130 [.t 37, .t 42, .t 43], none⟩,
      ⟨(some 13), .alloc (List.replicate 64 (.int .u8 0)), none⟩,
      ⟨none, .store 64 (.t 13) (.t 44), none⟩] [1, 3, 4, 6, 11, 12, 13])
 (.dops [
      ⟨1, (some 46), .mv (.t 3), none, 0⟩,
      ⟨2, (some 47), .mv (.t 12), none, 0⟩,
      ⟨3, (some 48), .mv (.t 12), none, 0⟩,
      ⟨4, (some 49), .bin .add (.t 48) (.c (.int .i64 64)), none, 0⟩,
      ⟨5, (some 50), .mv (.t 3), none, 0⟩,
      ⟨6, (some 51), .lenS (.t 50), none, 0⟩,
      ⟨7, (some 52), .mn (.t 49) (.t 51), none, 0⟩,
      ⟨8, (some 53), .slSl 1 (.t 46) (some (.t 47)) (some (.t 52)) none, none, 0⟩,
      ⟨9, (some 54), .slArr 64 1 (.t 13) none none none, none, 0⟩,
      ⟨10, (some 55), .call 134 [.t 53, .t 54], none, 0⟩,
      ⟨0, (some 45), .mv (.t 11), none, 1⟩,
      ⟨11, (some 56), .append 1 1 (.t 45) (.t 55), none, 0⟩,
      ⟨12, (some 11), .mv (.t 56), none, 0⟩] [1, 3, 4, 6, 11, 12])))
 (.ops [
     ⟨(some 35), .mv (.t 12), none⟩,
     ⟨(some 36), .bin .add (.t 35) (.c (.int .i64 64)), none⟩,
     ⟨(some 12), .mv (.t 36), none⟩] [1, 3, 4, 6, 11, 12]))
def ir_chacha_Xor_23 : ACode := (.seq (.seq (.ops [
   ⟨(some 23), .mv (.t 10), none⟩,
   ⟨(some 24), .mv (.t 1), none⟩,
   ⟨(some 25), .conv .i64 (.t 24), none⟩,
   ⟨(some 26), .bin .sub (.c (.int .i64 4294967296)) (.t 25), none⟩,
   ⟨(some 27), .bin .gtr (.t 23) (.t 26), none⟩] [1, 3, 4, 6, 27])
 (.cond (.t 27)
 (.seq (.ops [
    ⟨(some 8), .mv (.c (.slice none 0 0)), none⟩,
    ⟨(some 9), .mv (.c (.int .i64 1)), none⟩] [8, 9])
 .ret)
 .skip))
 (.seq (.ops [
   ⟨(some 28), .mv (.t 3), none⟩,
   ⟨(some 29), .lenS (.t 28), none⟩,
   ⟨(some 30), .mslice 1 ([.int .u8 0]) (.c (.int .i64 0)) (.t 29), none⟩,
   ⟨(some 11), .mv (.t 30), none⟩] [1, 3, 4, 6, 11])
 (.seq (.seq (.ops [
   ⟨(some 12), .mv (.c (.int .i64 0)), none⟩] [1, 3, 4, 6, 11, 12])
 (.block 0 (.loop (.seq (.seq (.ops [
     ⟨(some 31), .mv (.t 12), none⟩,
     ⟨(some 32), .mv (.t 3), none⟩,
     ⟨(some 33), .lenS (.t 32), none⟩,
     ⟨(some 34), .bin .lss (.t 31) (.t 33), none⟩] [1, 3, 4, 6, 11, 12, 34])
 (.cond (.t 34)
 .skip
 (.exit 0)))
 ir_chacha_Xor_37))))
 (.seq (.ops [
   ⟨(some 57), .mv (.t 11), none⟩,
   ⟨(some 8), .mv (.t 57), none⟩,
   ⟨(some 9), .mv (.c (.int .i64 0)), none⟩] [8, 9])
 .ret))))
def ir_chacha_Xor : AFunc := ⟨4, 58, [.tmp 8, .tmp 9],
 (.seq (.ops [
   ⟨(some 4), .box (.t 0), none⟩,
   ⟨(some 6), .box (.t 2), none⟩,
   ⟨(some 8), .mv (.c (.slice none 0 0)), none⟩,
   ⟨(some 9), .mv (.c (.int .i64 0)), none⟩] [1, 3, 4, 6])
 (.seq (.ops [
   ⟨(some 14), .mv (.t 3), none⟩,
   ⟨(some 15), .lenS (.t 14), none⟩,
   ⟨(some 16), .bin .quo (.t 15) (.c (.int .i64 64)), none⟩,
   ⟨(some 10), .mv (.t 16), none⟩] [1, 3, 4, 6, 10])
 (.seq (.seq (.ops [
   ⟨(some 17), .mv (.t 3), none⟩,
   ⟨(some 18), .lenS (.t 17), none⟩,
   ⟨(some 19), .bin .rem (.t 18) (.c (.int .i64 64)), none⟩,
   ⟨(some 20), .bin .gtr (.t 19) (.c (.int .i64 0)), none⟩] [1, 3, 4, 6, 10, 20])
 (.cond (.t 20)
 (.ops [
    ⟨(some 21), .mv (.t 10), none⟩,
    ⟨(some 22), .bin .add (.t 21) (.c (.int .i64 1)), none⟩,
    ⟨(some 10), .mv (.t 22), none⟩] [1, 3, 4, 6, 10])
 .skip))
 ir_chacha_Xor_23)))⟩

def h_aead_tag : Hint := [(0, [2, 3, 4, 5, 8], []), (1, [2, 3, 4, 5, 8, 9], []), (2, [8], [])]
def ir_aead_tag : AFunc := ⟨4, 30, [.cell 8 (some 16)],
 (.seq (.ops [
   ⟨(some 4), .box (.t 0), none⟩,
   ⟨(some 5), .box (.t 1), none⟩,
   ⟨(some 8), .alloc (List.replicate 16 (.int .u8 0)), none⟩] [2, 3, 4, 5, 8])
 (.seq (.ops [
   ⟨(some 10), .mv (.t 3), none⟩,
   ⟨(some 11), .lenS (.t 10), none⟩,
   ⟨(some 12), .conv .u64 (.t 11), none⟩,
   ⟨(some 13), .call 68 [.c (.slice none 0 0), .t 12, .c (.int .i64 8)], none⟩,
   ⟨(some 14), .mv (.t 2), none⟩,
   ⟨(some 15), .lenS (.t 14), none⟩,
   ⟨(some 16), .conv .u64 (.t 15), none⟩,
   ⟨(some 17), .call 68 [.t 13, .t 16, .c (.int .i64 8)], none⟩,
   ⟨(some 9), .mv (.t 17), none⟩] [2, 3, 4, 5, 8, 9])
 (.seq (.ops [
   ⟨(some 18), .load (some 32) (.t 4), none⟩,
   ⟨(some 19), .load (some 12) (.t 5), none⟩,
   ⟨(some 20), .call 117 [.t 18, .t 19], none⟩,
   ⟨(some 21), .mv (.t 3), none⟩,
   ⟨(some 22), .mv (.t 3), none⟩,
   ⟨(some 23), .call 135 [.t 22], none⟩,
   ⟨(some 24), .mv (.t 2), none⟩,
   ⟨(some 25), .mv (.t 2), none⟩,
   ⟨(some 26), .call 135 [.t 25], none⟩,
   ⟨(some 27), .mv (.t 9), none⟩,
   ⟨(some 28), .bslice 5 1 ([.slice none 0 0]) [(0, 1, .t 21), (1, 1, .t 23), (2, 1, .t 24), (3, 1, .t 26), (4, 1, .t 27)], none⟩,
   ⟨(some 29), .call 38 [.t 20, .t 28], none⟩,
   ⟨none, .store 16 (.t 8) (.t 29), none⟩] [8])
 .ret)))⟩

def h_octet_Equal : Hint := [(0, [0, 1], []), (1, [0, 1, 5], []), (2, [0, 1, 5, 11, 12], []), (3, [0, 1, 5, 11, 12, 13], []), (4, [0, 1, 5, 6, 11, 12], []), (5, [0, 1, 5, 11, 12], [(0, 0), (1, 0), (2, 0), (3, 0), (4, 0), (5, 0), (6, 0), (7, 0), (8, 0), (9, 0), (10, 0), (11, 0)]), (6, [0, 1, 5, 11, 12], []), (7, [4], [])]
def ir_octet_Equal_27 : ACode := (.seq (.ops [
   ⟨(some 27), .mv (.t 5), none⟩,
   ⟨(some 28), .bin .eql (.t 27) (.c (.int .u8 0)), none⟩,
   ⟨(some 29), .mv (.t 28), none⟩,
   ⟨(some 30), .mv (.t 0), (some (29, true))⟩,
   ⟨(some 31), .lenS (.t 30), (some (29, true))⟩,
   ⟨(some 32), .mv (.t 1), (some (29, true))⟩,
   ⟨(some 33), .lenS (.t 32), (some (29, true))⟩,
   ⟨(some 34), .bin .eql (.t 31) (.t 33), (some (29, true))⟩,
   ⟨(some 35), .pick (.t 29) (.t 34) (.c (.bool false)), none⟩,
   ⟨(some 4), .mv (.t 35), none⟩] [4])
 .ret)
def ir_octet_Equal_7 : ACode := (.seq (.seq (.ops [
   ⟨(some 7), .mv (.t 0), none⟩,
   ⟨(some 8), .lenS (.t 7), none⟩,
   ⟨(some 9), .mv (.t 1), none⟩,
   ⟨(some 10), .lenS (.t 9), none⟩,
   ⟨(some 11), .mn (.t 8) (.t 10), none⟩,
   ⟨(some 12), .mv (.c (.int .i64 0)), none⟩] [0, 1, 5, 11, 12])
 (.block 0 (.loop (.seq (.ops [
     ⟨(some 13), .bin .lss (.t 12) (.t 11), none⟩] [0, 1, 5, 11, 12, 13])
 (.seq (.cond (.t 13)
 .skip
 (.exit 0))
 (.seq (.block 1 (.seq (.ops [
      ⟨(some 14), .mv (.t 12), none⟩,
      ⟨(some 6), .mv (.t 14), none⟩] [0, 1, 5, 6, 11, 12])
 (.dops [
      ⟨0, (some 15), .mv (.t 5), none, 0⟩,
      ⟨1, (some 16), .mv (.t 0), none, 0⟩,
      ⟨2, (some 17), .mv (.t 6), none, 0⟩,
      ⟨3, (some 18), .iaddrS 1 (.t 16) (.t 17), none, 0⟩,
      ⟨4, (some 19), .load none (.t 18), none, 0⟩,
      ⟨5, (some 20), .mv (.t 1), none, 0⟩,
      ⟨6, (some 21), .mv (.t 6), none, 0⟩,
      ⟨7, (some 22), .iaddrS 1 (.t 20) (.t 21), none, 0⟩,
      ⟨8, (some 23), .load none (.t 22), none, 0⟩,
      ⟨9, (some 24), .bin .xor (.t 19) (.t 23), none, 0⟩,
      ⟨10, (some 25), .bin .or (.t 15) (.t 24), none, 0⟩,
      ⟨11, (some 5), .mv (.t 25), none, 0⟩] [0, 1, 5, 11, 12])))
 (.ops [
     ⟨(some 26), .bin .add (.t 12) (.c (.int .i64 1)), none⟩,
     ⟨(some 12), .mv (.t 26), none⟩] [0, 1, 5, 11, 12])))))))
 ir_octet_Equal_27)
def ir_octet_Equal : AFunc := ⟨2, 36, [.tmp 4],
 (.seq (.ops [
   ⟨(some 4), .mv (.c (.bool false)), none⟩] [0, 1])
 (.seq (.ops [
   ⟨(some 5), .mv (.c (.int .u8 0)), none⟩] [0, 1, 5])
 ir_octet_Equal_7))⟩

def h_chacha_Block : Hint := [(0, [1, 3, 5, 6], []), (1, [6, 7], []), (2, [6, 7, 8], []), (3, [6, 7, 8, 18], []), (4, [6, 7, 8, 18, 19], []), (5, [6, 7, 8, 18, 20], []), (6, [6, 7, 8, 18, 20, 21], []), (7, [6, 7, 8, 9, 18, 20], []), (8, [6, 7, 8, 18, 20], []), (9, [6, 7, 8, 18, 20], []), (10, [6, 7, 8, 18, 32], []), (11, [6, 7, 8, 18, 32, 33], []), (12, [6, 7, 8, 10, 18, 32], []), (13, [6, 7, 8, 18, 32], []), (14, [6, 7, 8, 18, 32], []), (15, [6, 7, 8, 18], []), (16, [6, 7, 8, 11], []), (17, [6, 7, 8, 11, 51], []), (18, [6, 7, 8, 11, 51, 52], []), (19, [6, 7, 8, 11, 12, 51], []), (20, [6, 7, 8, 11, 51], [(3, 0), (4, 0), (5, 0), (6, 0), (7, 0), (8, 0), (9, 0), (10, 0), (11, 0), (0, 1), (1, 1), (2, 1), (12, 0)]), (21, [6, 7, 8, 11, 51], []), (22, [6], [])]
def ir_chacha_Block_51 : ACode := (.seq (.seq (.ops [
   ⟨(some 51), .mv (.c (.int .i64 0)), none⟩] [6, 7, 8, 11, 51])
 (.block 6 (.loop (.seq (.ops [
     ⟨(some 52), .bin .lss (.t 51) (.c (.int .i64 16)), none⟩] [6, 7, 8, 11, 51, 52])
 (.seq (.cond (.t 52)
 .skip
 (.exit 6))
 (.seq (.block 7 (.seq (.ops [
      ⟨(some 53), .mv (.t 51), none⟩,
      ⟨(some 12), .mv (.t 53), none⟩] [6, 7, 8, 11, 12, 51])
 (.dops [
      ⟨3, (some 57), .mv (.t 12), none, 0⟩,
      ⟨4, (some 58), .iaddrA 16 1 (.t 8) (.t 57), none, 0⟩,
      ⟨5, (some 59), .load none (.t 58), none, 0⟩,
      ⟨6, (some 60), .mv (.t 12), none, 0⟩,
      ⟨7, (some 61), .iaddrA 16 1 (.t 7) (.t 60), none, 0⟩,
      ⟨8, (some 62), .load none (.t 61), none, 0⟩,
      ⟨9, (some 63), .bin .add (.t 59) (.t 62), none, 0⟩,
      ⟨10, (some 64), .conv .u64 (.t 63), none, 0⟩,
      ⟨11, (some 65), .call 68 [.c (.slice none 0 0), .t 64, .c (.int .i64 4)], none, 0⟩,
      ⟨0, (some 54), .mv (.t 12), none, 1⟩,
      ⟨1, (some 55), .bin .mul (.c (.int .i64 4)) (.t 54), none, 1⟩,
      ⟨2, (some 56), .slArr 64 1 (.t 11) (some (.t 55)) none none, none, 1⟩,
      ⟨12, (some 66), .copy 1 (.t 56) (.t 65), none, 0⟩] [6, 7, 8, 11, 51])))
 (.ops [
     ⟨(some 67), .bin .add (.t 51) (.c (.int .i64 1)), none⟩,
     ⟨(some 51), .mv (.t 67), none⟩] [6, 7, 8, 11, 51])))))))
 (.seq (.ops [
   ⟨(some 68), .load (some 64) (.t 11), none⟩,
   ⟨none, .store 64 (.t 6) (.t 68), none⟩] [6])
 .ret))
def ir_chacha_Block_33 : ACode := (.block 4 (.loop (.seq (.ops [
        ⟨(some 33), .bin .lss (.t 32) (.c (.int .i64 4)), none⟩] [6, 7, 8, 18, 32, 33])
 (.seq (.cond (.t 33)
 .skip
 (.exit 4))
 (.seq (.block 5 (.seq (.ops [
         ⟨(some 34), .mv (.t 32), none⟩,
         ⟨(some 10), .mv (.t 34), none⟩] [6, 7, 8, 10, 18, 32])
 (.ops [
         ⟨(some 35), .mv (.t 10), none⟩,
         ⟨(some 36), .mv (.t 10), none⟩,
         ⟨(some 37), .bin .add (.t 36) (.c (.int .i64 1)), none⟩,
         ⟨(some 38), .bin .rem (.t 37) (.c (.int .i64 4)), none⟩,
         ⟨(some 39), .bin .add (.c (.int .i64 4)) (.t 38), none⟩,
         ⟨(some 40), .mv (.t 10), none⟩,
         ⟨(some 41), .bin .add (.t 40) (.c (.int .i64 2)), none⟩,
         ⟨(some 42), .bin .rem (.t 41) (.c (.int .i64 4)), none⟩,
         ⟨(some 43), .bin .add (.c (.int .i64 8)) (.t 42), none⟩,
         ⟨(some 44), .mv (.t 10), none⟩,
         ⟨(some 45), .bin .add (.t 44) (.c (.int .i64 3)), none⟩,
         ⟨(some 46), .bin .rem (.t 45) (.c (.int .i64 4)), none⟩,
         ⟨(some 47), .bin .add (.c (.int .i64 12)) (.t 46), none⟩,
         ⟨(some 48), .call 137 [.t 8, .t 35, .t 39, .t 43, .t 47], none⟩] [6, 7, 8, 18, 32])))
 (.ops [
        ⟨(some 49), .bin .add (.t 32) (.c (.int .i64 1)), none⟩,
        ⟨(some 32), .mv (.t 49), none⟩] [6, 7, 8, 18, 32]))))))
def ir_chacha_Block_q : ACode := (.seq (.cond (.t 19)
 .skip
 (.exit 0))
 (.seq (.block 1 (.seq (.seq (.ops [
      ⟨(some 20), .mv (.c (.int .i64 0)), none⟩] [6, 7, 8, 18, 20])
 (.block 2 (.loop (.seq (.ops [
        ⟨(some 21), .bin .lss (.t 20) (.c (.int .i64 4)), none⟩] [6, 7, 8, 18, 20, 21])
 (.seq (.cond (.t 21)
 .skip
 (.exit 2))
 (.seq (.block 3 (.seq (.ops [
         ⟨(some 22), .mv (.t 20), none⟩,
         ⟨(some 9), .mv (.t 22), none⟩] [6, 7, 8, 9, 18, 20])
 (.ops [
         ⟨(some 23), .mv (.t 9), none⟩,
         ⟨(some 24), .mv (.t 9), none⟩,
         ⟨(some 25), .bin .add (.c (.int .i64 4)) (.t 24), none⟩,
         ⟨(some 26), .mv (.t 9), none⟩,
         ⟨(some 27), .bin .add (.c (.int .i64 8)) (.t 26), none⟩,
         ⟨(some 28), .mv (.t 9), none⟩,
         ⟨(some 29), .bin .add (.c (.int .i64 12)) (.t 28), none⟩,
         ⟨(some 30), .call 137 [.t 8, .t 23, .t 25, .t 27, .t 29], none⟩] [6, 7, 8, 18, 20])))
 (.ops [
        ⟨(some 31), .bin .add (.t 20) (.c (.int .i64 1)), none⟩,
        ⟨(some 20), .mv (.t 31), none⟩] [6, 7, 8, 18, 20])))))))
 (.seq (.ops [
      ⟨(some 32), .mv (.c (.int .i64 0)), none⟩] [6, 7, 8, 18, 32])
 ir_chacha_Block_33)))
 (.ops [
     ⟨(some 50), .bin .add (.t 18) (.c (.int .i64 1)), none⟩,
     ⟨(some 18), .mv (.t 50), none⟩] [6, 7, 8, 18])))
def ir_chacha_Block : AFunc := ⟨3, 69, [.cell 6 (some 64)],
 (.seq (.ops [
   ⟨(some 3), .box (.t 0), none⟩,
   ⟨(some 5), .box (.t 2), none⟩,
   ⟨(some 6), .alloc (List.replicate 64 (.int .u8 0)), none⟩] [1, 3, 5, 6])
 (.seq (.ops [
   ⟨(some 13), .load (some 32) (.t 3), none⟩,
   ⟨(some 14), .mv (.t 1), none⟩,
   ⟨(some 15), .load (some 12) (.t 5), none⟩,
   ⟨(some 16), .call 136 [.t 13, .t 14, .t 15], none⟩,
   ⟨(some 7), .alloc (List.replicate 16 (.int .u32 0)), none⟩,
   ⟨none, .store 16 (.t 7) (.t 16), none⟩] [6, 7])
 (.seq (.ops [
   ⟨(some 17), .load (some 16) (.t 7), none⟩,
   ⟨(some 8), .alloc (List.replicate 16 (.int .u32 0)), none⟩,
   ⟨none, .store 16 (.t 8) (.t 17), none⟩] [6, 7, 8])
 (.seq (.seq (.ops [
   ⟨(some 18), .mv (.c (.int .i64 0)), none⟩] [6, 7, 8, 18])
 (.block 0 (.loop (.seq (.ops [
     ⟨(some 19), .bin .lss (.t 18) (.c (.int .i64 10)), none⟩] [6, 7, 8, 18, 19])
 ir_chacha_Block_q))))
 (.seq (.ops [
   ⟨(some 11), .alloc (List.replicate 64 (.int .u8 0)), none⟩] [6, 7, 8, 11])
 ir_chacha_Block_51)))))⟩

def h_bandboxref4_Xor : Hint := [(0, [1, 3, 4, 6], []), (1, [1, 3, 4, 6, 22], []), (2, [8, 9], []), (3, [1, 3, 4, 6, 10], []), (4, [1, 3, 4, 6, 10, 11], []), (5, [1, 3, 4, 6, 10, 11, 26], []), (6, [1, 3, 4, 6, 10, 11], []), (7, [1, 3, 4, 6, 10, 11, 12], []), (8, [1, 3, 4, 6, 10, 11, 12, 13], []), (9, [1, 3, 4, 6, 10, 11, 12, 13, 42], []), (10, [1, 3, 4, 6, 10, 11, 12, 13], []), (11, [1, 3, 4, 6, 10, 11], [(1, 0), (2, 0), (3, 0), (4, 0), (5, 0), (6, 0), (7, 0), (8, 0), (0, 1), (9, 0), (10, 0)]), (12, [8, 9], [])]
def ir_bandboxref4_Xor_37 : ACode := (.seq (.ops [
      ⟨(some 37), .mv (.t 3), none⟩,
      ⟨(some 38), .lenS (.t 37), none⟩,
      ⟨(some 39), .mv (.t 11), none⟩,
      ⟨(some 40), .bin .sub (.t 38) (.t 39), none⟩,
      ⟨(some 13), .mv (.t 40), none⟩] [1, 3, 4, 6, 10, 11, 12, 13])
 (.seq (.seq (.ops [
      ⟨(some 41), .mv (.t 13), none⟩,
      ⟨(some 42), .bin .gtr (.t 41) (.c (.int .i64 64)), none⟩] [1, 3, 4, 6, 10, 11, 12, 13, 42])
 (.cond (.t 42)
 (.ops [
       ⟨(some 13), .mv (.c (.int .i64 64)), none⟩] [1, 3, 4, 6, 10, 11, 12, 13])
 .skip))
 (.dops [
      ⟨1, (some 44), .mv (.t 3), none, 0⟩,
      ⟨2, (some 45), .mv (.t 11), none, 0⟩,
      ⟨3, (some 46), .mv (.t 11), none, 0⟩,
      ⟨4, (some 47), .mv (.t 13), none, 0⟩,
      ⟨5, (some 48), .bin .add (.t 46) (.t 47), none, 0⟩,
      ⟨6, (some 49), .slSl 1 (.t 44) (some (.t 45)) (some (.t 48)) none, none, 0⟩,
      ⟨7, (some 50), .slArr 64 1 (.t 12) none none none, none, 0⟩,
      ⟨8, (some 51), .call 138 [.t 49, .t 50], none, 0⟩,
      ⟨0, (some 43), .mv (.t 10), none, 1⟩,
      ⟨9, (some 52), .append 1 1 (.t 43) (.t 51), none, 0⟩,
      ⟨10, (some 10), .mv (.t 52), none, 0⟩] [1, 3, 4, 6, 10, 11])))
def ir_bandboxref4_Xor_11 : ACode := (.seq (.seq (.ops [
   ⟨(some 11), .mv (.c (.int .i64 0)), none⟩] [1, 3, 4, 6, 10, 11])
 (.block 0 (.loop (.seq (.seq (.ops [
     ⟨(some 23), .mv (.t 11), none⟩,
     ⟨(some 24), .mv (.t 3), none⟩,
     ⟨(some 25), .lenS (.t 24), none⟩,
     ⟨(some 26), .bin .lss (.t 23) (.t 25), none⟩] [1, 3, 4, 6, 10, 11, 26])
 (.cond (.t 26)
 .skip
 (.exit 0)))
 (.seq (.block 1 (.seq (.ops [
      ⟨(some 29), .load (some 32) (.t 4), none⟩,
      ⟨(some 30), .mv (.t 1), none⟩,
      ⟨(some 31), .mv (.t 11), none⟩,
      ⟨(some 32), .bin .quo (.t 31) (.c (.int .i64 64)), none⟩,
      ⟨(some 33), .conv .u32 (.t 32), none⟩,
      ⟨(some 34), .bin .add (.t 30) (.t 33), none⟩,
      ⟨(some 35), .load (some 12) (.t 6), none⟩,
      ⟨(some 36), .call 133 [.t 29, .t 34, .t 35], none⟩,
      ⟨(some 12), .alloc (List.replicate 64 (.int .u8 0)), none⟩,
      ⟨none, .store 64 (.t 12) (.t 36), none⟩] [1, 3, 4, 6, 10, 11, 12])
 ir_bandboxref4_Xor_37))
 (.ops [
     ⟨(some 27), .mv (.t 11), none⟩,
     ⟨(some 28), .bin .add (.t 27) (.c (.int .i64 64)), none⟩,
     ⟨(some 11), .mv (.t 28), none⟩] [1, 3, 4, 6, 10, 11]))))))
 (.seq (.ops [
   ⟨(some 53), .mv (.t 10), none⟩,
   ⟨(some 8), .mv (.t 53), none⟩,
   ⟨(some 9), .mv (.c (.bool true)), none⟩] [8, 9])
 .ret))
def ir_bandboxref4_Xor : AFunc := ⟨4, 54, [.tmp 8, .tmp 9],
 (.seq (.ops [
   ⟨(some 4), .box (.t 0), none⟩,
   ⟨(some 6), .box (.t 2), none⟩,
   ⟨(some 8), .mv (.c (.slice none 0 0)), none⟩,
   ⟨(some 9), .mv (.c (.bool false)), none⟩] [1, 3, 4, 6])
 (.seq (.seq (.ops [
   ⟨(some 14), .mv (.t 1), none⟩,
   ⟨(some 15), .conv .u64 (.t 14), none⟩,
   ⟨(some 16), .mv (.t 3), none⟩,
   ⟨(some 17), .lenS (.t 16), none⟩,
   ⟨(some 18), .bin .add (.t 17) (.c (.int .i64 63)), none⟩,
   ⟨(some 19), .bin .quo (.t 18) (.c (.int .i64 64)), none⟩,
   ⟨(some 20), .conv .u64 (.t 19), none⟩,
   ⟨(some 21), .bin .add (.t 15) (.t 20), none⟩,
   ⟨(some 22), .bin .gtr (.t 21) (.c (.int .u64 4294967296)), none⟩] [1, 3, 4, 6, 22])
 (.cond (.t 22)
 (.seq (.ops [
    ⟨(some 8), .mv (.c (.slice none 0 0)), none⟩,
    ⟨(some 9), .mv (.c (.bool false)), none⟩] [8, 9])
 .ret)
 .skip))
 (.seq (.ops [
   ⟨(some 10), .mv (.c (.slice none 0 0)), none⟩] [1, 3, 4, 6, 10])
 ir_bandboxref4_Xor_11)))⟩

def h_bandboxref4_tagged : Hint := [(0, [0, 1], []), (1, [0, 1, 5], []), (2, [0, 1, 5, 12], []), (3, [0, 1, 5], []), (4, [0, 1, 5], []), (5, [0, 1, 5, 22], []), (6, [0, 1, 5], []), (7, [4], [])]
def ir_bandboxref4_tagged_26 : ACode := (.seq (.ops [
   ⟨(some 26), .mv (.t 5), none⟩,
   ⟨(some 27), .mv (.t 0), none⟩,
   ⟨(some 28), .lenS (.t 27), none⟩,
   ⟨(some 29), .conv .u64 (.t 28), none⟩,
   ⟨(some 30), .call 139 [.t 26, .t 29, .c (.int .i64 8)], none⟩,
   ⟨(some 31), .mv (.t 1), none⟩,
   ⟨(some 32), .lenS (.t 31), none⟩,
   ⟨(some 33), .conv .u64 (.t 32), none⟩,
   ⟨(some 34), .call 139 [.t 30, .t 33, .c (.int .i64 8)], none⟩,
   ⟨(some 4), .mv (.t 34), none⟩] [4])
 .ret)
def ir_bandboxref4_tagged_16 : ACode := (.seq (.ops [
   ⟨(some 16), .mv (.t 5), none⟩,
   ⟨(some 17), .mv (.t 1), none⟩,
   ⟨(some 18), .append 1 1 (.t 16) (.t 17), none⟩,
   ⟨(some 5), .mv (.t 18), none⟩] [0, 1, 5])
 (.seq (.block 2 (.loop (.seq (.seq (.ops [
     ⟨(some 19), .mv (.t 5), none⟩,
     ⟨(some 20), .lenS (.t 19), none⟩,
     ⟨(some 21), .bin .rem (.t 20) (.c (.int .i64 16)), none⟩,
     ⟨(some 22), .bin .neq (.t 21) (.c (.int .i64 0)), none⟩] [0, 1, 5, 22])
 (.cond (.t 22)
 .skip
 (.exit 2)))
 (.block 3 (.ops [
      ⟨(some 23), .mv (.t 5), none⟩,
      ⟨(some 24), .bslice 1 1 ([.int .u8 0]) [(0, 1, .c (.int .u8 0))], none⟩,
      ⟨(some 25), .append 1 1 (.t 23) (.t 24), none⟩,
      ⟨(some 5), .mv (.t 25), none⟩] [0, 1, 5])))))
 ir_bandboxref4_tagged_26))
def ir_bandboxref4_tagged : AFunc := ⟨2, 35, [.tmp 4],
 (.seq (.ops [
   ⟨(some 4), .mv (.c (.slice none 0 0)), none⟩] [0, 1])
 (.seq (.ops [
   ⟨(some 6), .bslice 0 1 ([.int .u8 0]) [], none⟩,
   ⟨(some 7), .mv (.t 0), none⟩,
   ⟨(some 8), .append 1 1 (.t 6) (.t 7), none⟩,
   ⟨(some 5), .mv (.t 8), none⟩] [0, 1, 5])
 (.seq (.block 0 (.loop (.seq (.seq (.ops [
     ⟨(some 9), .mv (.t 5), none⟩,
     ⟨(some 10), .lenS (.t 9), none⟩,
     ⟨(some 11), .bin .rem (.t 10) (.c (.int .i64 16)), none⟩,
     ⟨(some 12), .bin .neq (.t 11) (.c (.int .i64 0)), none⟩] [0, 1, 5, 12])
 (.cond (.t 12)
 .skip
 (.exit 0)))
 (.block 1 (.ops [
      ⟨(some 13), .mv (.t 5), none⟩,
      ⟨(some 14), .bslice 1 1 ([.int .u8 0]) [(0, 1, .c (.int .u8 0))], none⟩,
      ⟨(some 15), .append 1 1 (.t 13) (.t 14), none⟩,
      ⟨(some 5), .mv (.t 15), none⟩] [0, 1, 5])))))
 ir_bandboxref4_tagged_16)))⟩

def h_bandboxref4_Block : Hint := [(0, [1, 3, 5, 6], []), (1, [1, 3, 5, 6, 7], []), (2, [1, 3, 5, 6, 7, 8], []), (3, [1, 3, 5, 6, 7, 8, 21], []), (4, [1, 3, 5, 6, 7, 8], []), (5, [1, 3, 5, 6, 7, 8], []), (6, [5, 6, 7], []), (7, [5, 6, 7, 9], []), (8, [5, 6, 7, 9, 34], []), (9, [5, 6, 7, 9], []), (10, [5, 6, 7, 9], []), (11, [6, 7, 10], []), (12, [6, 7, 10, 11], []), (13, [6, 7, 10, 11, 46], []), (14, [6, 7, 10, 11], []), (15, [6, 7, 10, 11, 12], []), (16, [6, 7, 10, 11, 12, 50], []), (17, [6, 7, 10, 11, 12], []), (18, [6, 7, 10, 11, 12], [(7, 0), (8, 0), (9, 0), (10, 0), (11, 0), (12, 0), (13, 0), (14, 0), (15, 0), (16, 0), (17, 0), (18, 0), (19, 0), (20, 0), (21, 0), (22, 0), (0, 1), (23, 0), (24, 0), (28, 0), (29, 0), (1, 2), (2, 2), (25, 1), (30, 0), (31, 0), (3, 3), (4, 3), (26, 2), (32, 0), (33, 0), (5, 4), (6, 4), (27, 3), (34, 0), (35, 0)]), (19, [6, 7, 10, 11, 13], []), (20, [6, 7, 10, 11, 13, 86], []), (21, [6, 7, 10, 11, 13], []), (22, [6, 7, 10, 11, 13, 14, 15, 16], []), (23, [6, 7, 10, 11, 13], [(4, 0), (5, 0), (6, 0), (7, 0), (8, 0), (9, 0), (10, 0), (11, 0), (12, 0), (13, 0), (14, 0), (15, 0), (16, 0), (0, 1), (17, 0), (18, 0), (22, 0), (23, 0), (1, 2), (19, 1), (24, 0), (25, 0), (2, 3), (20, 2), (26, 0), (27, 0), (3, 4), (21, 3), (28, 0), (29, 0)]), (24, [6, 7, 10, 17], []), (25, [6, 7, 10, 17, 18], []), (26, [6, 7, 10, 17, 18, 129], []), (27, [6, 7, 10, 17, 18], []), (28, [6, 7, 10, 17, 18], [(3, 0), (4, 0), (5, 0), (6, 0), (7, 0), (8, 0), (9, 0), (10, 0), (11, 0), (0, 1), (1, 1), (2, 1), (12, 0)]), (29, [6], [])]
def ir_bandboxref4_Block_18 : ACode := (.seq (.seq (.ops [
   ⟨(some 18), .mv (.c (.int .i64 0)), none⟩] [6, 7, 10, 17, 18])
 (.block 10 (.loop (.seq (.seq (.ops [
     ⟨(some 128), .mv (.t 18), none⟩,
     ⟨(some 129), .bin .lss (.t 128) (.c (.int .i64 16)), none⟩] [6, 7, 10, 17, 18, 129])
 (.cond (.t 129)
 .skip
 (.exit 10)))
 (.seq (.block 11 (.dops [
      ⟨3, (some 135), .mv (.t 18), none, 0⟩,
      ⟨4, (some 136), .iaddrA 16 1 (.t 10) (.t 135), none, 0⟩,
      ⟨5, (some 137), .load none (.t 136), none, 0⟩,
      ⟨6, (some 138), .mv (.t 18), none, 0⟩,
      ⟨7, (some 139), .iaddrA 16 1 (.t 7) (.t 138), none, 0⟩,
      ⟨8, (some 140), .load none (.t 139), none, 0⟩,
      ⟨9, (some 141), .bin .add (.t 137) (.t 140), none, 0⟩,
      ⟨10, (some 142), .conv .u64 (.t 141), none, 0⟩,
      ⟨11, (some 143), .call 139 [.c (.slice none 0 0), .t 142, .c (.int .i64 4)], none, 0⟩,
      ⟨0, (some 132), .mv (.t 18), none, 1⟩,
      ⟨1, (some 133), .bin .mul (.c (.int .i64 4)) (.t 132), none, 1⟩,
      ⟨2, (some 134), .slArr 64 1 (.t 17) (some (.t 133)) none none, none, 1⟩,
      ⟨12, (some 144), .copy 1 (.t 134) (.t 143), none, 0⟩] [6, 7, 10, 17, 18]))
 (.ops [
     ⟨(some 130), .mv (.t 18), none⟩,
     ⟨(some 131), .bin .add (.t 130) (.c (.int .i64 1)), none⟩,
     ⟨(some 18), .mv (.t 131), none⟩] [6, 7, 10, 17, 18]))))))
 (.seq (.ops [
   ⟨(some 145), .load (some 64) (.t 17), none⟩,
   ⟨none, .store 64 (.t 6) (.t 145), none⟩] [6])
 .ret))
def ir_bandboxref4_Block_106 : ACode := (.dops [
         ⟨4, (some 106), .mv (.t 13), none, 0⟩,
         ⟨5, (some 107), .iaddrA 16 1 (.t 10) (.t 106), none, 0⟩,
         ⟨6, (some 108), .load none (.t 107), none, 0⟩,
         ⟨7, (some 109), .mv (.t 14), none, 0⟩,
         ⟨8, (some 110), .iaddrA 16 1 (.t 10) (.t 109), none, 0⟩,
         ⟨9, (some 111), .load none (.t 110), none, 0⟩,
         ⟨10, (some 112), .mv (.t 15), none, 0⟩,
         ⟨11, (some 113), .iaddrA 16 1 (.t 10) (.t 112), none, 0⟩,
         ⟨12, (some 114), .load none (.t 113), none, 0⟩,
         ⟨13, (some 115), .mv (.t 16), none, 0⟩,
         ⟨14, (some 116), .iaddrA 16 1 (.t 10) (.t 115), none, 0⟩,
         ⟨15, (some 117), .load none (.t 116), none, 0⟩,
         ⟨16, (some 118), .call 141 [.t 108, .t 111, .t 114, .t 117], none, 0⟩,
         ⟨0, (some 102), .mv (.t 13), none, 1⟩,
         ⟨17, (some 101), .mv (.t 118), none, 0⟩,
         ⟨18, (some 119), .ext (.t 101) 0, none, 0⟩,
         ⟨22, (some 123), .iaddrA 16 1 (.t 10) (.t 102), none, 0⟩,
         ⟨23, none, .store 1 (.t 123) (.t 119), none, 0⟩,
         ⟨1, (some 103), .mv (.t 14), none, 2⟩,
         ⟨19, (some 120), .ext (.t 101) 1, none, 1⟩,
         ⟨24, (some 124), .iaddrA 16 1 (.t 10) (.t 103), none, 0⟩,
         ⟨25, none, .store 1 (.t 124) (.t 120), none, 0⟩,
         ⟨2, (some 104), .mv (.t 15), none, 3⟩,
         ⟨20, (some 121), .ext (.t 101) 2, none, 2⟩,
         ⟨26, (some 125), .iaddrA 16 1 (.t 10) (.t 104), none, 0⟩,
         ⟨27, none, .store 1 (.t 125) (.t 121), none, 0⟩,
         ⟨3, (some 105), .mv (.t 16), none, 4⟩,
         ⟨21, (some 122), .ext (.t 101) 3, none, 3⟩,
         ⟨28, (some 126), .iaddrA 16 1 (.t 10) (.t 105), none, 0⟩,
         ⟨29, none, .store 1 (.t 126) (.t 122), none, 0⟩] [6, 7, 10, 11, 13])
def ir_bandboxref4_Block_85 : ACode := (.block 8 (.loop (.seq (.seq (.ops [
        ⟨(some 85), .mv (.t 13), none⟩,
        ⟨(some 86), .bin .lss (.t 85) (.c (.int .i64 4)), none⟩] [6, 7, 10, 11, 13, 86])
 (.cond (.t 86)
 .skip
 (.exit 8)))
 (.seq (.block 9 (.seq (.ops [
         ⟨(some 89), .mv (.t 13), none⟩,
         ⟨(some 90), .bin .add (.t 89) (.c (.int .i64 1)), none⟩,
         ⟨(some 91), .bin .rem (.t 90) (.c (.int .i64 4)), none⟩,
         ⟨(some 92), .bin .add (.c (.int .i64 4)) (.t 91), none⟩,
         ⟨(some 93), .mv (.t 13), none⟩,
         ⟨(some 94), .bin .add (.t 93) (.c (.int .i64 2)), none⟩,
         ⟨(some 95), .bin .rem (.t 94) (.c (.int .i64 4)), none⟩,
         ⟨(some 96), .bin .add (.c (.int .i64 8)) (.t 95), none⟩,
         ⟨(some 97), .mv (.t 13), none⟩,
         ⟨(some 98), .bin .add (.t 97) (.c (.int .i64 3)), none⟩,
         ⟨(some 99), .bin .rem (.t 98) (.c (.int .i64 4)), none⟩,
         ⟨(some 100), .bin .add (.c (.int .i64 12)) (.t 99), none⟩,
         ⟨(some 14), .mv (.t 92), none⟩,
         ⟨(some 15), .mv (.t 96), none⟩,
         ⟨(some 16), .mv (.t 100), none⟩] [6, 7, 10, 11, 13, 14, 15, 16])
 ir_bandboxref4_Block_106))
 (.ops [
        ⟨(some 87), .mv (.t 13), none⟩,
        ⟨(some 88), .bin .add (.t 87) (.c (.int .i64 1)), none⟩,
        ⟨(some 13), .mv (.t 88), none⟩] [6, 7, 10, 11, 13])))))
def ir_bandboxref4_Block_61 : ACode := (.seq (.block 7 (.dops [
         ⟨7, (some 61), .mv (.t 12), none, 0⟩,
         ⟨8, (some 62), .iaddrA 16 1 (.t 10) (.t 61), none, 0⟩,
         ⟨9, (some 63), .load none (.t 62), none, 0⟩,
         ⟨10, (some 64), .mv (.t 12), none, 0⟩,
         ⟨11, (some 65), .bin .add (.c (.int .i64 4)) (.t 64), none, 0⟩,
         ⟨12, (some 66), .iaddrA 16 1 (.t 10) (.t 65), none, 0⟩,
         ⟨13, (some 67), .load none (.t 66), none, 0⟩,
         ⟨14, (some 68), .mv (.t 12), none, 0⟩,
         ⟨15, (some 69), .bin .add (.c (.int .i64 8)) (.t 68), none, 0⟩,
         ⟨16, (some 70), .iaddrA 16 1 (.t 10) (.t 69), none, 0⟩,
         ⟨17, (some 71), .load none (.t 70), none, 0⟩,
         ⟨18, (some 72), .mv (.t 12), none, 0⟩,
         ⟨19, (some 73), .bin .add (.c (.int .i64 12)) (.t 72), none, 0⟩,
         ⟨20, (some 74), .iaddrA 16 1 (.t 10) (.t 73), none, 0⟩,
         ⟨21, (some 75), .load none (.t 74), none, 0⟩,
         ⟨22, (some 76), .call 141 [.t 63, .t 67, .t 71, .t 75], none, 0⟩,
         ⟨0, (some 54), .mv (.t 12), none, 1⟩,
         ⟨23, (some 53), .mv (.t 76), none, 0⟩,
         ⟨24, (some 77), .ext (.t 53) 0, none, 0⟩,
         ⟨28, (some 81), .iaddrA 16 1 (.t 10) (.t 54), none, 0⟩,
         ⟨29, none, .store 1 (.t 81) (.t 77), none, 0⟩,
         ⟨1, (some 55), .mv (.t 12), none, 2⟩,
         ⟨2, (some 56), .bin .add (.c (.int .i64 4)) (.t 55), none, 2⟩,
         ⟨25, (some 78), .ext (.t 53) 1, none, 1⟩,
         ⟨30, (some 82), .iaddrA 16 1 (.t 10) (.t 56), none, 0⟩,
         ⟨31, none, .store 1 (.t 82) (.t 78), none, 0⟩,
         ⟨3, (some 57), .mv (.t 12), none, 3⟩,
         ⟨4, (some 58), .bin .add (.c (.int .i64 8)) (.t 57), none, 3⟩,
         ⟨26, (some 79), .ext (.t 53) 2, none, 2⟩,
         ⟨32, (some 83), .iaddrA 16 1 (.t 10) (.t 58), none, 0⟩,
         ⟨33, none, .store 1 (.t 83) (.t 79), none, 0⟩,
         ⟨5, (some 59), .mv (.t 12), none, 4⟩,
         ⟨6, (some 60), .bin .add (.c (.int .i64 12)) (.t 59), none, 4⟩,
         ⟨27, (some 80), .ext (.t 53) 3, none, 3⟩,
         ⟨34, (some 84), .iaddrA 16 1 (.t 10) (.t 60), none, 0⟩,
         ⟨35, none, .store 1 (.t 84) (.t 80), none, 0⟩] [6, 7, 10, 11, 12]))
 (.ops [
        ⟨(some 51), .mv (.t 12), none⟩,
        ⟨(some 52), .bin .add (.t 51) (.c (.int .i64 1)), none⟩,
        ⟨(some 12), .mv (.t 52), none⟩] [6, 7, 10, 11, 12]))
def ir_bandboxref4_Block_44 : ACode := (.seq (.ops [
   ⟨(some 44), .load (some 16) (.t 7), none⟩,
   ⟨(some 10), .alloc (List.replicate 16 (.int .u32 0)), none⟩,
   ⟨none, .store 16 (.t 10) (.t 44), none⟩] [6, 7, 10])
 (.seq (.seq (.ops [
   ⟨(some 11), .mv (.c (.int .i64 0)), none⟩] [6, 7, 10, 11])
 (.block 4 (.loop (.seq (.seq (.ops [
     ⟨(some 45), .mv (.t 11), none⟩,
     ⟨(some 46), .bin .lss (.t 45) (.c (.int .i64 10)), none⟩] [6, 7, 10, 11, 46])
 (.cond (.t 46)
 .skip
 (.exit 4)))
 (.seq (.block 5 (.seq (.seq (.ops [
      ⟨(some 12), .mv (.c (.int .i64 0)), none⟩] [6, 7, 10, 11, 12])
 (.block 6 (.loop (.seq (.seq (.ops [
        ⟨(some 49), .mv (.t 12), none⟩,
        ⟨(some 50), .bin .lss (.t 49) (.c (.int .i64 4)), none⟩] [6, 7, 10, 11, 12, 50])
 (.cond (.t 50)
 .skip
 (.exit 6)))
 ir_bandboxref4_Block_61))))
 (.seq (.ops [
      ⟨(some 13), .mv (.c (.int .i64 0)), none⟩] [6, 7, 10, 11, 13])
 ir_bandboxref4_Block_85)))
 (.ops [
     ⟨(some 47), .mv (.t 11), none⟩,
     ⟨(some 48), .bin .add (.t 47) (.c (.int .i64 1)), none⟩,
     ⟨(some 11), .mv (.t 48), none⟩] [6, 7, 10, 11]))))))
 (.seq (.ops [
   ⟨(some 127), .build (List.replicate 64 (.int .u8 0)) [], none⟩,
   ⟨(some 17), .alloc (List.replicate 64 (.int .u8 0)), none⟩,
   ⟨none, .store 64 (.t 17) (.t 127), none⟩] [6, 7, 10, 17])
 ir_bandboxref4_Block_18)))
def ir_bandboxref4_Block_31 : ACode := (.seq (.ops [
   ⟨(some 31), .mv (.t 1), none⟩,
   ⟨(some 32), .iaddrA 16 1 (.t 7) (.c (.int .i64 12)), none⟩,
   ⟨none, .store 1 (.t 32) (.t 31), none⟩] [5, 6, 7])
 (.seq (.seq (.ops [
   ⟨(some 9), .mv (.c (.int .i64 0)), none⟩] [5, 6, 7, 9])
 (.block 2 (.loop (.seq (.seq (.ops [
     ⟨(some 33), .mv (.t 9), none⟩,
     ⟨(some 34), .bin .lss (.t 33) (.c (.int .i64 3)), none⟩] [5, 6, 7, 9, 34])
 (.cond (.t 34)
 .skip
 (.exit 2)))
 (.seq (.block 3 (.ops [
      ⟨(some 37), .mv (.t 9), none⟩,
      ⟨(some 38), .bin .add (.c (.int .i64 13)) (.t 37), none⟩,
      ⟨(some 39), .mv (.t 9), none⟩,
      ⟨(some 40), .bin .mul (.c (.int .i64 4)) (.t 39), none⟩,
      ⟨(some 41), .slArr 12 1 (.t 5) (some (.t 40)) none none, none⟩,
      ⟨(some 42), .call 140 [.t 41], none⟩,
      ⟨(some 43), .iaddrA 16 1 (.t 7) (.t 38), none⟩,
      ⟨none, .store 1 (.t 43) (.t 42), none⟩] [5, 6, 7, 9]))
 (.ops [
     ⟨(some 35), .mv (.t 9), none⟩,
     ⟨(some 36), .bin .add (.t 35) (.c (.int .i64 1)), none⟩,
     ⟨(some 9), .mv (.t 36), none⟩] [5, 6, 7, 9]))))))
 ir_bandboxref4_Block_44))
def ir_bandboxref4_Block_19 : ACode := (.seq (.ops [
   ⟨(some 19), .build (List.replicate 16 (.int .u32 0)) [(0, 1, .c (.int .u32 1634760805)), (1, 1, .c (.int .u32 857760878)), (2, 1, .c (.int .u32 2036477234)), (3, 1, .c (.int .u32 1797285236))], none⟩,
   ⟨(some 7), .alloc (List.replicate 16 (.int .u32 0)), none⟩,
   ⟨none, .store 16 (.t 7) (.t 19), none⟩] [1, 3, 5, 6, 7])
 (.seq (.seq (.ops [
   ⟨(some 8), .mv (.c (.int .i64 0)), none⟩] [1, 3, 5, 6, 7, 8])
 (.block 0 (.loop (.seq (.seq (.ops [
     ⟨(some 20), .mv (.t 8), none⟩,
     ⟨(some 21), .bin .lss (.t 20) (.c (.int .i64 8)), none⟩] [1, 3, 5, 6, 7, 8, 21])
 (.cond (.t 21)
 .skip
 (.exit 0)))
 (.seq (.block 1 (.ops [
      ⟨(some 24), .mv (.t 8), none⟩,
      ⟨(some 25), .bin .add (.c (.int .i64 4)) (.t 24), none⟩,
      ⟨(some 26), .mv (.t 8), none⟩,
      ⟨(some 27), .bin .mul (.c (.int .i64 4)) (.t 26), none⟩,
      ⟨(some 28), .slArr 32 1 (.t 3) (some (.t 27)) none none, none⟩,
      ⟨(some 29), .call 140 [.t 28], none⟩,
      ⟨(some 30), .iaddrA 16 1 (.t 7) (.t 25), none⟩,
      ⟨none, .store 1 (.t 30) (.t 29), none⟩] [1, 3, 5, 6, 7, 8]))
 (.ops [
     ⟨(some 22), .mv (.t 8), none⟩,
     ⟨(some 23), .bin .add (.t 22) (.c (.int .i64 1)), none⟩,
     ⟨(some 8), .mv (.t 23), none⟩] [1, 3, 5, 6, 7, 8]))))))
 ir_bandboxref4_Block_31))
def ir_bandboxref4_Block : AFunc := ⟨3, 146, [.cell 6 (some 64)],
 (.seq (.ops [
   ⟨(some 3), .box (.t 0), none⟩,
   ⟨(some 5), .box (.t 2), none⟩,
   ⟨(some 6), .alloc (List.replicate 64 (.int .u8 0)), none⟩] [1, 3, 5, 6])
 ir_bandboxref4_Block_19)⟩

def h_octet_Xor : Hint := [(0, [0, 1], []), (1, [0, 1, 5], []), (2, [0, 1, 5, 14, 15], []), (3, [0, 1, 5, 14, 15, 16], []), (4, [0, 1, 5, 6, 14, 15], []), (5, [0, 1, 5, 14, 15], [(0, 0), (1, 0), (2, 0), (3, 0), (4, 0), (5, 0), (6, 0), (7, 0), (8, 0), (9, 0), (10, 0), (11, 0), (12, 0)]), (6, [0, 1, 5, 14, 15], []), (7, [4], [])]
def ir_octet_Xor_13 : ACode := (.seq (.seq (.ops [
   ⟨(some 13), .mv (.t 5), none⟩,
   ⟨(some 14), .lenS (.t 13), none⟩,
   ⟨(some 15), .mv (.c (.int .i64 0)), none⟩] [0, 1, 5, 14, 15])
 (.block 0 (.loop (.seq (.ops [
     ⟨(some 16), .bin .lss (.t 15) (.t 14), none⟩] [0, 1, 5, 14, 15, 16])
 (.seq (.cond (.t 16)
 .skip
 (.exit 0))
 (.seq (.block 1 (.seq (.ops [
      ⟨(some 17), .mv (.t 15), none⟩,
      ⟨(some 6), .mv (.t 17), none⟩] [0, 1, 5, 6, 14, 15])
 (.dops [
      ⟨0, (some 18), .mv (.t 5), none, 0⟩,
      ⟨1, (some 19), .mv (.t 6), none, 0⟩,
      ⟨2, (some 20), .mv (.t 0), none, 0⟩,
      ⟨3, (some 21), .mv (.t 6), none, 0⟩,
      ⟨4, (some 22), .iaddrS 1 (.t 20) (.t 21), none, 0⟩,
      ⟨5, (some 23), .load none (.t 22), none, 0⟩,
      ⟨6, (some 24), .mv (.t 1), none, 0⟩,
      ⟨7, (some 25), .mv (.t 6), none, 0⟩,
      ⟨8, (some 26), .iaddrS 1 (.t 24) (.t 25), none, 0⟩,
      ⟨9, (some 27), .load none (.t 26), none, 0⟩,
      ⟨10, (some 28), .bin .xor (.t 23) (.t 27), none, 0⟩,
      ⟨11, (some 29), .iaddrS 1 (.t 18) (.t 19), none, 0⟩,
      ⟨12, none, .store 1 (.t 29) (.t 28), none, 0⟩] [0, 1, 5, 14, 15])))
 (.ops [
     ⟨(some 30), .bin .add (.t 15) (.c (.int .i64 1)), none⟩,
     ⟨(some 15), .mv (.t 30), none⟩] [0, 1, 5, 14, 15])))))))
 (.seq (.ops [
   ⟨(some 31), .mv (.t 5), none⟩,
   ⟨(some 4), .mv (.t 31), none⟩] [4])
 .ret))
def ir_octet_Xor : AFunc := ⟨2, 32, [.tmp 4],
 (.seq (.ops [
   ⟨(some 4), .mv (.c (.slice none 0 0)), none⟩] [0, 1])
 (.seq (.ops [
   ⟨(some 7), .mv (.t 0), none⟩,
   ⟨(some 8), .lenS (.t 7), none⟩,
   ⟨(some 9), .mv (.t 1), none⟩,
   ⟨(some 10), .lenS (.t 9), none⟩,
   ⟨(some 11), .mn (.t 8) (.t 10), none⟩,
   ⟨(some 12), .mslice 1 ([.int .u8 0]) (.t 11) (.t 11), none⟩,
   ⟨(some 5), .mv (.t 12), none⟩] [0, 1, 5])
 ir_octet_Xor_13))⟩

def h_aead_fill : Hint := [(0, [0], []), (1, [2], [])]
def ir_aead_fill : AFunc := ⟨1, 9, [.tmp 2],
 (.seq (.ops [
   ⟨(some 2), .mv (.c (.slice none 0 0)), none⟩] [0])
 (.seq (.ops [
   ⟨(some 3), .mv (.t 0), none⟩,
   ⟨(some 4), .lenS (.t 3), none⟩,
   ⟨(some 5), .bin .rem (.t 4) (.c (.int .i64 16)), none⟩,
   ⟨(some 6), .bin .sub (.c (.int .i64 16)) (.t 5), none⟩,
   ⟨(some 7), .bin .rem (.t 6) (.c (.int .i64 16)), none⟩,
   ⟨(some 8), .mslice 1 ([.int .u8 0]) (.t 7) (.t 7), none⟩,
   ⟨(some 2), .mv (.t 8), none⟩] [2])
 .ret))⟩

def h_chacha_state : Hint := [(0, [1, 3, 5, 6], []), (1, [1, 3, 5, 6, 7], []), (2, [1, 3, 5, 6, 7, 11], []), (3, [1, 3, 5, 6, 7, 11, 12], []), (4, [1, 3, 5, 6, 7, 8, 11], []), (5, [1, 3, 5, 6, 7, 11], []), (6, [1, 3, 5, 6, 7, 11], []), (7, [5, 6, 7], []), (8, [5, 6, 7, 24], []), (9, [5, 6, 7, 24, 25], []), (10, [5, 6, 7, 9, 24], []), (11, [5, 6, 7, 24], []), (12, [5, 6, 7, 24], []), (13, [6], [])]
def ir_chacha_state_22 : ACode := (.seq (.ops [
   ⟨(some 22), .mv (.t 1), none⟩,
   ⟨(some 23), .iaddrA 16 1 (.t 7) (.c (.int .i64 12)), none⟩,
   ⟨none, .store 1 (.t 23) (.t 22), none⟩] [5, 6, 7])
 (.seq (.seq (.ops [
   ⟨(some 24), .mv (.c (.int .i64 0)), none⟩] [5, 6, 7, 24])
 (.block 2 (.loop (.seq (.ops [
     ⟨(some 25), .bin .lss (.t 24) (.c (.int .i64 3)), none⟩] [5, 6, 7, 24, 25])
 (.seq (.cond (.t 25)
 .skip
 (.exit 2))
 (.seq (.block 3 (.seq (.ops [
      ⟨(some 26), .mv (.t 24), none⟩,
      ⟨(some 9), .mv (.t 26), none⟩] [5, 6, 7, 9, 24])
 (.ops [
      ⟨(some 27), .mv (.t 9), none⟩,
      ⟨(some 28), .bin .add (.c (.int .i64 13)) (.t 27), none⟩,
      ⟨(some 29), .mv (.t 9), none⟩,
      ⟨(some 30), .bin .mul (.c (.int .i64 4)) (.t 29), none⟩,
      ⟨(some 31), .slArr 12 1 (.t 5) (some (.t 30)) none none, none⟩,
      ⟨(some 32), .call 142 [.t 31], none⟩,
      ⟨(some 33), .iaddrA 16 1 (.t 7) (.t 28), none⟩,
      ⟨none, .store 1 (.t 33) (.t 32), none⟩] [5, 6, 7, 24])))
 (.ops [
     ⟨(some 34), .bin .add (.t 24) (.c (.int .i64 1)), none⟩,
     ⟨(some 24), .mv (.t 34), none⟩] [5, 6, 7, 24])))))))
 (.seq (.ops [
   ⟨(some 35), .load (some 16) (.t 7), none⟩,
   ⟨none, .store 16 (.t 6) (.t 35), none⟩] [6])
 .ret)))
def ir_chacha_state_11 : ACode := (.seq (.seq (.ops [
   ⟨(some 11), .mv (.c (.int .i64 0)), none⟩] [1, 3, 5, 6, 7, 11])
 (.block 0 (.loop (.seq (.ops [
     ⟨(some 12), .bin .lss (.t 11) (.c (.int .i64 8)), none⟩] [1, 3, 5, 6, 7, 11, 12])
 (.seq (.cond (.t 12)
 .skip
 (.exit 0))
 (.seq (.block 1 (.seq (.ops [
      ⟨(some 13), .mv (.t 11), none⟩,
      ⟨(some 8), .mv (.t 13), none⟩] [1, 3, 5, 6, 7, 8, 11])
 (.ops [
      ⟨(some 14), .mv (.t 8), none⟩,
      ⟨(some 15), .bin .add (.c (.int .i64 4)) (.t 14), none⟩,
      ⟨(some 16), .mv (.t 8), none⟩,
      ⟨(some 17), .bin .mul (.c (.int .i64 4)) (.t 16), none⟩,
      ⟨(some 18), .slArr 32 1 (.t 3) (some (.t 17)) none none, none⟩,
      ⟨(some 19), .call 142 [.t 18], none⟩,
      ⟨(some 20), .iaddrA 16 1 (.t 7) (.t 15), none⟩,
      ⟨none, .store 1 (.t 20) (.t 19), none⟩] [1, 3, 5, 6, 7, 11])))
 (.ops [
     ⟨(some 21), .bin .add (.t 11) (.c (.int .i64 1)), none⟩,
     ⟨(some 11), .mv (.t 21), none⟩] [1, 3, 5, 6, 7, 11])))))))
 ir_chacha_state_22)
def ir_chacha_state : AFunc := ⟨3, 36, [.cell 6 (some 16)],
 (.seq (.ops [
   ⟨(some 3), .box (.t 0), none⟩,
   ⟨(some 5), .box (.t 2), none⟩,
   ⟨(some 6), .alloc (List.replicate 16 (.int .u32 0)), none⟩] [1, 3, 5, 6])
 (.seq (.ops [
   ⟨(some 10), .build (List.replicate 16 (.int .u32 0)) [(0, 1, .c (.int .u32 1634760805)), (1, 1, .c (.int .u32 857760878)), (2, 1, .c (.int .u32 2036477234)), (3, 1, .c (.int .u32 1797285236))], none⟩,
   ⟨(some 7), .alloc (List.replicate 16 (.int .u32 0)), none⟩,
   ⟨none, .store 16 (.t 7) (.t 10), none⟩] [1, 3, 5, 6, 7])
 ir_chacha_state_11))⟩

def h_chacha_mix : Hint := [(0, [], [(8, 0), (9, 0), (10, 0), (11, 0), (12, 0), (13, 0), (14, 0), (15, 0), (16, 0), (17, 0), (18, 0), (19, 0), (20, 0), (21, 0), (22, 0), (23, 0), (24, 0), (25, 0), (26, 0), (27, 0), (28, 0), (0, 1), (1, 1), (29, 0), (30, 0), (34, 1), (35, 0), (36, 0), (2, 2), (3, 2), (31, 1), (37, 2), (38, 0), (39, 0), (4, 3), (5, 3), (32, 2), (40, 3), (41, 0), (42, 0), (6, 4), (7, 4), (33, 3), (43, 4), (44, 0), (45, 0)])]
def ir_chacha_mix : AFunc := ⟨5, 52, [],
 (.dops [
   ⟨8, (some 19), .mv (.t 0), none, 0⟩,
   ⟨9, (some 20), .mv (.t 1), none, 0⟩,
   ⟨10, (some 21), .nilc (.t 19), none, 0⟩,
   ⟨11, (some 22), .iaddrA 16 1 (.t 21) (.t 20), none, 0⟩,
   ⟨12, (some 23), .load none (.t 22), none, 0⟩,
   ⟨13, (some 24), .mv (.t 0), none, 0⟩,
   ⟨14, (some 25), .mv (.t 2), none, 0⟩,
   ⟨15, (some 26), .nilc (.t 24), none, 0⟩,
   ⟨16, (some 27), .iaddrA 16 1 (.t 26) (.t 25), none, 0⟩,
   ⟨17, (some 28), .load none (.t 27), none, 0⟩,
   ⟨18, (some 29), .mv (.t 0), none, 0⟩,
   ⟨19, (some 30), .mv (.t 3), none, 0⟩,
   ⟨20, (some 31), .nilc (.t 29), none, 0⟩,
   ⟨21, (some 32), .iaddrA 16 1 (.t 31) (.t 30), none, 0⟩,
   ⟨22, (some 33), .load none (.t 32), none, 0⟩,
   ⟨23, (some 34), .mv (.t 0), none, 0⟩,
   ⟨24, (some 35), .mv (.t 4), none, 0⟩,
   ⟨25, (some 36), .nilc (.t 34), none, 0⟩,
   ⟨26, (some 37), .iaddrA 16 1 (.t 36) (.t 35), none, 0⟩,
   ⟨27, (some 38), .load none (.t 37), none, 0⟩,
   ⟨28, (some 39), .call 143 [.t 23, .t 28, .t 33, .t 38], none, 0⟩,
   ⟨0, (some 11), .mv (.t 0), none, 1⟩,
   ⟨1, (some 12), .mv (.t 1), none, 1⟩,
   ⟨29, (some 10), .mv (.t 39), none, 0⟩,
   ⟨30, (some 40), .ext (.t 10) 0, none, 0⟩,
   ⟨34, (some 44), .nilc (.t 11), none, 1⟩,
   ⟨35, (some 45), .iaddrA 16 1 (.t 44) (.t 12), none, 0⟩,
   ⟨36, none, .store 1 (.t 45) (.t 40), none, 0⟩,
   ⟨2, (some 13), .mv (.t 0), none, 2⟩,
   ⟨3, (some 14), .mv (.t 2), none, 2⟩,
   ⟨31, (some 41), .ext (.t 10) 1, none, 1⟩,
   ⟨37, (some 46), .nilc (.t 13), none, 2⟩,
   ⟨38, (some 47), .iaddrA 16 1 (.t 46) (.t 14), none, 0⟩,
   ⟨39, none, .store 1 (.t 47) (.t 41), none, 0⟩,
   ⟨4, (some 15), .mv (.t 0), none, 3⟩,
   ⟨5, (some 16), .mv (.t 3), none, 3⟩,
   ⟨32, (some 42), .ext (.t 10) 2, none, 2⟩,
   ⟨40, (some 48), .nilc (.t 15), none, 3⟩,
   ⟨41, (some 49), .iaddrA 16 1 (.t 48) (.t 16), none, 0⟩,
   ⟨42, none, .store 1 (.t 49) (.t 42), none, 0⟩,
   ⟨6, (some 17), .mv (.t 0), none, 4⟩,
   ⟨7, (some 18), .mv (.t 4), none, 4⟩,
   ⟨33, (some 43), .ext (.t 10) 3, none, 3⟩,
   ⟨43, (some 50), .nilc (.t 17), none, 4⟩,
   ⟨44, (some 51), .iaddrA 16 1 (.t 50) (.t 18), none, 0⟩,
   ⟨45, none, .store 1 (.t 51) (.t 43), none, 0⟩] [])⟩

def h_bandboxref1_Xor : Hint := [(0, [0, 1], []), (1, [0, 1, 5], []), (2, [0, 1, 5, 6], []), (3, [0, 1, 5, 6, 16], []), (4, [0, 1, 5, 6], []), (5, [0, 1, 5, 6], [(0, 0), (1, 0), (2, 0), (3, 0), (4, 0), (5, 0), (6, 0), (7, 0), (8, 0), (9, 0), (10, 0), (11, 0), (12, 0)]), (6, [4], [])]
def ir_bandboxref1_Xor_19 : ACode := (.seq (.block 1 (.dops [
      ⟨0, (some 19), .mv (.t 5), none, 0⟩,
      ⟨1, (some 20), .mv (.t 0), none, 0⟩,
      ⟨2, (some 21), .mv (.t 6), none, 0⟩,
      ⟨3, (some 22), .iaddrS 1 (.t 20) (.t 21), none, 0⟩,
      ⟨4, (some 23), .load none (.t 22), none, 0⟩,
      ⟨5, (some 24), .mv (.t 1), none, 0⟩,
      ⟨6, (some 25), .mv (.t 6), none, 0⟩,
      ⟨7, (some 26), .iaddrS 1 (.t 24) (.t 25), none, 0⟩,
      ⟨8, (some 27), .load none (.t 26), none, 0⟩,
      ⟨9, (some 28), .bin .xor (.t 23) (.t 27), none, 0⟩,
      ⟨10, (some 29), .bslice 1 1 ([.int .u8 0]) [(0, 1, .t 28)], none, 0⟩,
      ⟨11, (some 30), .append 1 1 (.t 19) (.t 29), none, 0⟩,
      ⟨12, (some 5), .mv (.t 30), none, 0⟩] [0, 1, 5, 6]))
 (.ops [
     ⟨(some 17), .mv (.t 6), none⟩,
     ⟨(some 18), .bin .add (.t 17) (.c (.int .i64 1)), none⟩,
     ⟨(some 6), .mv (.t 18), none⟩] [0, 1, 5, 6]))
def ir_bandboxref1_Xor : AFunc := ⟨2, 32, [.tmp 4],
 (.seq (.ops [
   ⟨(some 4), .mv (.c (.slice none 0 0)), none⟩] [0, 1])
 (.seq (.ops [
   ⟨(some 5), .mv (.c (.slice none 0 0)), none⟩] [0, 1, 5])
 (.seq (.seq (.ops [
   ⟨(some 6), .mv (.c (.int .i64 0)), none⟩] [0, 1, 5, 6])
 (.block 0 (.loop (.seq (.seq (.ops [
     ⟨(some 7), .mv (.t 6), none⟩,
     ⟨(some 8), .mv (.t 0), none⟩,
     ⟨(some 9), .lenS (.t 8), none⟩,
     ⟨(some 10), .bin .lss (.t 7) (.t 9), none⟩,
     ⟨(some 11), .mv (.t 10), none⟩,
     ⟨(some 12), .mv (.t 6), (some (11, true))⟩,
     ⟨(some 13), .mv (.t 1), (some (11, true))⟩,
     ⟨(some 14), .lenS (.t 13), (some (11, true))⟩,
     ⟨(some 15), .bin .lss (.t 12) (.t 14), (some (11, true))⟩,
     ⟨(some 16), .pick (.t 11) (.t 15) (.c (.bool false)), none⟩] [0, 1, 5, 6, 16])
 (.cond (.t 16)
 .skip
 (.exit 0)))
 ir_bandboxref1_Xor_19))))
 (.seq (.ops [
   ⟨(some 31), .mv (.t 5), none⟩,
   ⟨(some 4), .mv (.t 31), none⟩] [4])
 .ret))))⟩

def h_bandboxref1_Little : Hint := [(0, [0, 1, 2], []), (1, [1, 2, 7], []), (2, [1, 2, 7, 8], []), (3, [1, 2, 7, 8, 15], []), (4, [1, 2, 7, 8], []), (5, [1, 2, 7, 8], []), (6, [6], [])]
def ir_bandboxref1_Little_9 : ACode := (.seq (.ops [
   ⟨(some 9), .bslice 0 1 ([.int .u8 0]) [], none⟩,
   ⟨(some 10), .mv (.t 0), none⟩,
   ⟨(some 11), .append 1 1 (.t 9) (.t 10), none⟩,
   ⟨(some 7), .mv (.t 11), none⟩] [1, 2, 7])
 (.seq (.seq (.ops [
   ⟨(some 8), .mv (.c (.int .i64 0)), none⟩] [1, 2, 7, 8])
 (.block 0 (.loop (.seq (.seq (.ops [
     ⟨(some 12), .mv (.t 8), none⟩,
     ⟨(some 13), .mv (.t 2), none⟩,
     ⟨(some 14), .call 144 [.t 13], none⟩,
     ⟨(some 15), .bin .lss (.t 12) (.t 14), none⟩] [1, 2, 7, 8, 15])
 (.cond (.t 15)
 .skip
 (.exit 0)))
 (.seq (.block 1 (.ops [
      ⟨(some 18), .mv (.t 7), none⟩,
      ⟨(some 19), .mv (.t 1), none⟩,
      ⟨(some 20), .mv (.t 8), none⟩,
      ⟨(some 21), .bin .mul (.c (.int .i64 8)) (.t 20), none⟩,
      ⟨(some 22), .conv .u64 (.t 21), none⟩,
      ⟨(some 23), .bin .shr (.t 19) (.t 22), none⟩,
      ⟨(some 24), .conv .u8 (.t 23), none⟩,
      ⟨(some 25), .bslice 1 1 ([.int .u8 0]) [(0, 1, .t 24)], none⟩,
      ⟨(some 26), .append 1 1 (.t 18) (.t 25), none⟩,
      ⟨(some 7), .mv (.t 26), none⟩] [1, 2, 7, 8]))
 (.ops [
     ⟨(some 16), .mv (.t 8), none⟩,
     ⟨(some 17), .bin .add (.t 16) (.c (.int .i64 1)), none⟩,
     ⟨(some 8), .mv (.t 17), none⟩] [1, 2, 7, 8]))))))
 (.seq (.ops [
   ⟨(some 27), .mv (.t 7), none⟩,
   ⟨(some 6), .mv (.t 27), none⟩] [6])
 .ret)))
def ir_bandboxref1_Little : AFunc := ⟨3, 28, [.tmp 6],
 (.seq (.ops [
   ⟨(some 6), .mv (.c (.slice none 0 0)), none⟩] [0, 1, 2])
 ir_bandboxref1_Little_9)⟩

def h_bandboxref4_word : Hint := [(0, [0], []), (1, [3], []), (2, [2], [])]
def ir_bandboxref4_word : AFunc := ⟨1, 13, [.tmp 2],
 (.seq (.ops [
   ⟨(some 2), .mv (.c (.int .u32 0)), none⟩] [0])
 (.seq (.ops [
   ⟨(some 6), .mv (.t 0), none⟩,
   ⟨(some 7), .slSl 1 (.t 6) none (some (.c (.int .i64 4))) none, none⟩,
   ⟨(some 8), .call 145 [.t 7], none⟩,
   ⟨(some 5), .mv (.t 8), none⟩,
   ⟨(some 9), .ext (.t 5) 0, none⟩,
   ⟨(some 10), .ext (.t 5) 1, none⟩,
   ⟨(some 3), .mv (.t 9), none⟩,
   ⟨(some 4), .mv (.t 10), none⟩] [3])
 (.seq (.ops [
   ⟨(some 11), .mv (.t 3), none⟩,
   ⟨(some 12), .conv .u32 (.t 11), none⟩,
   ⟨(some 2), .mv (.t 12), none⟩] [2])
 .ret)))⟩

def h_bandboxref4_Quarter : Hint := [(0, [0, 1, 2, 3], []), (1, [0, 1, 2, 3], []), (2, [0, 1, 2, 3], []), (3, [0, 1, 2, 3], []), (4, [0, 1, 2, 3], []), (5, [0, 1, 2, 3], []), (6, [0, 1, 2, 3], []), (7, [0, 1, 2, 3], []), (8, [0, 1, 2, 3], []), (9, [8, 9, 10, 11], [])]
def ir_bandboxref4_Quarter_26 : ACode := (.seq (.ops [
   ⟨(some 26), .mv (.t 0), none⟩,
   ⟨(some 27), .mv (.t 1), none⟩,
   ⟨(some 28), .bin .add (.t 26) (.t 27), none⟩,
   ⟨(some 0), .mv (.t 28), none⟩] [0, 1, 2, 3])
 (.seq (.ops [
   ⟨(some 29), .mv (.t 3), none⟩,
   ⟨(some 30), .mv (.t 0), none⟩,
   ⟨(some 31), .bin .xor (.t 29) (.t 30), none⟩,
   ⟨(some 32), .call 146 [.t 31, .c (.int .u64 8)], none⟩,
   ⟨(some 3), .mv (.t 32), none⟩] [0, 1, 2, 3])
 (.seq (.ops [
   ⟨(some 33), .mv (.t 2), none⟩,
   ⟨(some 34), .mv (.t 3), none⟩,
   ⟨(some 35), .bin .add (.t 33) (.t 34), none⟩,
   ⟨(some 2), .mv (.t 35), none⟩] [0, 1, 2, 3])
 (.seq (.ops [
   ⟨(some 36), .mv (.t 1), none⟩,
   ⟨(some 37), .mv (.t 2), none⟩,
   ⟨(some 38), .bin .xor (.t 36) (.t 37), none⟩,
   ⟨(some 39), .call 146 [.t 38, .c (.int .u64 7)], none⟩,
   ⟨(some 1), .mv (.t 39), none⟩] [0, 1, 2, 3])
 (.seq (.ops [
   ⟨(some 40), .mv (.t 0), none⟩,
   ⟨(some 41), .mv (.t 1), none⟩,
   ⟨(some 42), .mv (.t 2), none⟩,
   ⟨(some 43), .mv (.t 3), none⟩,
   ⟨(some 8), .mv (.t 40), none⟩,
   ⟨(some 9), .mv (.t 41), none⟩,
   ⟨(some 10), .mv (.t 42), none⟩,
   ⟨(some 11), .mv (.t 43), none⟩] [8, 9, 10, 11])
 .ret)))))
def ir_bandboxref4_Quarter : AFunc := ⟨4, 44, [.tmp 8, .tmp 9, .tmp 10, .tmp 11],
 (.seq (.ops [
   ⟨(some 8), .mv (.c (.int .u32 0)), none⟩,
   ⟨(some 9), .mv (.c (.int .u32 0)), none⟩,
   ⟨(some 10), .mv (.c (.int .u32 0)), none⟩,
   ⟨(some 11), .mv (.c (.int .u32 0)), none⟩] [0, 1, 2, 3])
 (.seq (.ops [
   ⟨(some 12), .mv (.t 0), none⟩,
   ⟨(some 13), .mv (.t 1), none⟩,
   ⟨(some 14), .bin .add (.t 12) (.t 13), none⟩,
   ⟨(some 0), .mv (.t 14), none⟩] [0, 1, 2, 3])
 (.seq (.ops [
   ⟨(some 15), .mv (.t 3), none⟩,
   ⟨(some 16), .mv (.t 0), none⟩,
   ⟨(some 17), .bin .xor (.t 15) (.t 16), none⟩,
   ⟨(some 18), .call 146 [.t 17, .c (.int .u64 16)], none⟩,
   ⟨(some 3), .mv (.t 18), none⟩] [0, 1, 2, 3])
 (.seq (.ops [
   ⟨(some 19), .mv (.t 2), none⟩,
   ⟨(some 20), .mv (.t 3), none⟩,
   ⟨(some 21), .bin .add (.t 19) (.t 20), none⟩,
   ⟨(some 2), .mv (.t 21), none⟩] [0, 1, 2, 3])
 (.seq (.ops [
   ⟨(some 22), .mv (.t 1), none⟩,
   ⟨(some 23), .mv (.t 2), none⟩,
   ⟨(some 24), .bin .xor (.t 22) (.t 23), none⟩,
   ⟨(some 25), .call 146 [.t 24, .c (.int .u64 12)], none⟩,
   ⟨(some 1), .mv (.t 25), none⟩] [0, 1, 2, 3])
 ir_bandboxref4_Quarter_26)))))⟩

def h_chacha_word : Hint := [(0, [0], []), (1, [3], []), (2, [2], [])]
def ir_chacha_word : AFunc := ⟨1, 13, [.tmp 2],
 (.seq (.ops [
   ⟨(some 2), .mv (.c (.int .u32 0)), none⟩] [0])
 (.seq (.ops [
   ⟨(some 6), .mv (.t 0), none⟩,
   ⟨(some 7), .slSl 1 (.t 6) none (some (.c (.int .i64 4))) none, none⟩,
   ⟨(some 8), .call 79 [.t 7], none⟩,
   ⟨(some 5), .mv (.t 8), none⟩,
   ⟨(some 9), .ext (.t 5) 0, none⟩,
   ⟨(some 10), .ext (.t 5) 1, none⟩,
   ⟨(some 3), .mv (.t 9), none⟩,
   ⟨(some 4), .mv (.t 10), none⟩] [3])
 (.seq (.ops [
   ⟨(some 11), .mv (.t 3), none⟩,
   ⟨(some 12), .conv .u32 (.t 11), none⟩,
   ⟨(some 2), .mv (.t 12), none⟩] [2])
 .ret)))⟩

def h_chacha_Quarter : Hint := [(0, [0, 1, 2, 3], []), (1, [0, 1, 2, 3], []), (2, [0, 1, 2, 3], []), (3, [0, 1, 2, 3], []), (4, [0, 1, 2, 3], []), (5, [0, 1, 2, 3], []), (6, [0, 1, 2, 3], []), (7, [0, 1, 2, 3], []), (8, [0, 1, 2, 3], []), (9, [8, 9, 10, 11], [])]
def ir_chacha_Quarter_26 : ACode := (.seq (.ops [
   ⟨(some 26), .mv (.t 0), none⟩,
   ⟨(some 27), .mv (.t 1), none⟩,
   ⟨(some 28), .bin .add (.t 26) (.t 27), none⟩,
   ⟨(some 0), .mv (.t 28), none⟩] [0, 1, 2, 3])
 (.seq (.ops [
   ⟨(some 29), .mv (.t 3), none⟩,
   ⟨(some 30), .mv (.t 0), none⟩,
   ⟨(some 31), .bin .xor (.t 29) (.t 30), none⟩,
   ⟨(some 32), .call 94 [.t 31, .c (.int .i64 8)], none⟩,
   ⟨(some 3), .mv (.t 32), none⟩] [0, 1, 2, 3])
 (.seq (.ops [
   ⟨(some 33), .mv (.t 2), none⟩,
   ⟨(some 34), .mv (.t 3), none⟩,
   ⟨(some 35), .bin .add (.t 33) (.t 34), none⟩,
   ⟨(some 2), .mv (.t 35), none⟩] [0, 1, 2, 3])
 (.seq (.ops [
   ⟨(some 36), .mv (.t 1), none⟩,
   ⟨(some 37), .mv (.t 2), none⟩,
   ⟨(some 38), .bin .xor (.t 36) (.t 37), none⟩,
   ⟨(some 39), .call 94 [.t 38, .c (.int .i64 7)], none⟩,
   ⟨(some 1), .mv (.t 39), none⟩] [0, 1, 2, 3])
 (.seq (.ops [
   ⟨(some 40), .mv (.t 0), none⟩,
   ⟨(some 41), .mv (.t 1), none⟩,
   ⟨(some 42), .mv (.t 2), none⟩,
   ⟨(some 43), .mv (.t 3), none⟩,
   ⟨(some 8), .mv (.t 40), none⟩,
   ⟨(some 9), .mv (.t 41), none⟩,
   ⟨(some 10), .mv (.t 42), none⟩,
   ⟨(some 11), .mv (.t 43), none⟩] [8, 9, 10, 11])
 .ret)))))
def ir_chacha_Quarter : AFunc := ⟨4, 44, [.tmp 8, .tmp 9, .tmp 10, .tmp 11],
 (.seq (.ops [
   ⟨(some 8), .mv (.c (.int .u32 0)), none⟩,
   ⟨(some 9), .mv (.c (.int .u32 0)), none⟩,
   ⟨(some 10), .mv (.c (.int .u32 0)), none⟩,
   ⟨(some 11), .mv (.c (.int .u32 0)), none⟩] [0, 1, 2, 3])
 (.seq (.ops [
   ⟨(some 12), .mv (.t 0), none⟩,
   ⟨(some 13), .mv (.t 1), none⟩,
   ⟨(some 14), .bin .add (.t 12) (.t 13), none⟩,
   ⟨(some 0), .mv (.t 14), none⟩] [0, 1, 2, 3])
 (.seq (.ops [
   ⟨(some 15), .mv (.t 3), none⟩,
   ⟨(some 16), .mv (.t 0), none⟩,
   ⟨(some 17), .bin .xor (.t 15) (.t 16), none⟩,
   ⟨(some 18), .call 94 [.t 17, .c (.int .i64 16)], none⟩,
   ⟨(some 3), .mv (.t 18), none⟩] [0, 1, 2, 3])
 (.seq (.ops [
   ⟨(some 19), .mv (.t 2), none⟩,
   ⟨(some 20), .mv (.t 3), none⟩,
   ⟨(some 21), .bin .add (.t 19) (.t 20), none⟩,
   ⟨(some 2), .mv (.t 21), none⟩] [0, 1, 2, 3])
 (.seq (.ops [
   ⟨(some 22), .mv (.t 1), none⟩,
   ⟨(some 23), .mv (.t 2), none⟩,
   ⟨(some 24), .bin .xor (.t 22) (.t 23), none⟩,
   ⟨(some 25), .call 94 [.t 24, .c (.int .i64 12)], none⟩,
   ⟨(some 1), .mv (.t 25), none⟩] [0, 1, 2, 3])
 ir_chacha_Quarter_26)))))⟩

def h_bandboxref1_held : Hint := [(0, [0], []), (1, [0, 4], []), (2, [2], []), (3, [0, 6], []), (4, [2], []), (5, [2], [])]
def ir_bandboxref1_held : AFunc := ⟨1, 8, [.tmp 2],
 (.seq (.ops [
   ⟨(some 2), .mv (.c (.int .i64 0)), none⟩] [0])
 (.seq (.seq (.ops [
   ⟨(some 3), .mv (.t 0), none⟩,
   ⟨(some 4), .bin .lss (.t 3) (.c (.int .i64 0)), none⟩] [0, 4])
 (.cond (.t 4)
 (.seq (.ops [
    ⟨(some 2), .mv (.c (.int .i64 0)), none⟩] [2])
 .ret)
 .skip))
 (.seq (.seq (.ops [
   ⟨(some 5), .mv (.t 0), none⟩,
   ⟨(some 6), .bin .gtr (.t 5) (.c (.int .i64 8)), none⟩] [0, 6])
 (.cond (.t 6)
 (.seq (.ops [
    ⟨(some 2), .mv (.c (.int .i64 8)), none⟩] [2])
 .ret)
 .skip))
 (.seq (.ops [
   ⟨(some 7), .mv (.t 0), none⟩,
   ⟨(some 2), .mv (.t 7), none⟩] [2])
 .ret))))⟩

def h_bandboxref1_FromLittle : Hint := [(0, [0], []), (1, [2, 3], [])]
def ir_bandboxref1_FromLittle : AFunc := ⟨1, 9, [.tmp 2, .tmp 3],
 (.seq (.ops [
   ⟨(some 2), .mv (.c (.int .u64 0)), none⟩,
   ⟨(some 3), .mv (.c (.bool false)), none⟩] [0])
 (.seq (.ops [
   ⟨(some 4), .mv (.t 0), none⟩,
   ⟨(some 5), .call 148 [.t 4], none⟩,
   ⟨(some 6), .call 147 [.t 5], none⟩,
   ⟨(some 7), .ext (.t 6) 0, none⟩,
   ⟨(some 8), .ext (.t 6) 1, none⟩,
   ⟨(some 2), .mv (.t 7), none⟩,
   ⟨(some 3), .mv (.t 8), none⟩] [2, 3])
 .ret))⟩

def h_bandboxref4_left : Hint := [(0, [0, 1], []), (1, [4], [])]
def ir_bandboxref4_left : AFunc := ⟨2, 13, [.tmp 4],
 (.seq (.ops [
   ⟨(some 4), .mv (.c (.int .u32 0)), none⟩] [0, 1])
 (.seq (.ops [
   ⟨(some 5), .mv (.t 0), none⟩,
   ⟨(some 6), .mv (.t 1), none⟩,
   ⟨(some 7), .bin .shl (.t 5) (.t 6), none⟩,
   ⟨(some 8), .mv (.t 0), none⟩,
   ⟨(some 9), .mv (.t 1), none⟩,
   ⟨(some 10), .bin .sub (.c (.int .u64 32)) (.t 9), none⟩,
   ⟨(some 11), .bin .shr (.t 8) (.t 10), none⟩,
   ⟨(some 12), .bin .or (.t 7) (.t 11), none⟩,
   ⟨(some 4), .mv (.t 12), none⟩] [4])
 .ret))⟩

def h_bandboxref1_FromBig : Hint := [(0, [0], []), (1, [0, 8], []), (2, [2, 3], []), (3, [0, 4], []), (4, [0, 4, 5], []), (5, [0, 4, 5, 12], []), (6, [0, 4, 5], []), (7, [0, 4, 5], []), (8, [2, 3], [])]
def ir_bandboxref1_FromBig_4 : ACode := (.seq (.ops [
   ⟨(some 4), .mv (.c (.int .u64 0)), none⟩] [0, 4])
 (.seq (.seq (.ops [
   ⟨(some 5), .mv (.c (.int .i64 0)), none⟩] [0, 4, 5])
 (.block 0 (.loop (.seq (.seq (.ops [
     ⟨(some 9), .mv (.t 5), none⟩,
     ⟨(some 10), .mv (.t 0), none⟩,
     ⟨(some 11), .lenS (.t 10), none⟩,
     ⟨(some 12), .bin .lss (.t 9) (.t 11), none⟩] [0, 4, 5, 12])
 (.cond (.t 12)
 .skip
 (.exit 0)))
 (.seq (.block 1 (.ops [
      ⟨(some 15), .mv (.t 4), none⟩,
      ⟨(some 16), .bin .shl (.t 15) (.c (.int .u64 8)), none⟩,
      ⟨(some 17), .mv (.t 0), none⟩,
      ⟨(some 18), .mv (.t 5), none⟩,
      ⟨(some 19), .iaddrS 1 (.t 17) (.t 18), none⟩,
      ⟨(some 20), .load none (.t 19), none⟩,
      ⟨(some 21), .conv .u64 (.t 20), none⟩,
      ⟨(some 22), .bin .or (.t 16) (.t 21), none⟩,
      ⟨(some 4), .mv (.t 22), none⟩] [0, 4, 5]))
 (.ops [
     ⟨(some 13), .mv (.t 5), none⟩,
     ⟨(some 14), .bin .add (.t 13) (.c (.int .i64 1)), none⟩,
     ⟨(some 5), .mv (.t 14), none⟩] [0, 4, 5]))))))
 (.seq (.ops [
   ⟨(some 23), .mv (.t 4), none⟩,
   ⟨(some 2), .mv (.t 23), none⟩,
   ⟨(some 3), .mv (.c (.bool true)), none⟩] [2, 3])
 .ret)))
def ir_bandboxref1_FromBig : AFunc := ⟨1, 24, [.tmp 2, .tmp 3],
 (.seq (.ops [
   ⟨(some 2), .mv (.c (.int .u64 0)), none⟩,
   ⟨(some 3), .mv (.c (.bool false)), none⟩] [0])
 (.seq (.seq (.ops [
   ⟨(some 6), .mv (.t 0), none⟩,
   ⟨(some 7), .lenS (.t 6), none⟩,
   ⟨(some 8), .bin .gtr (.t 7) (.c (.int .i64 8)), none⟩] [0, 8])
 (.cond (.t 8)
 (.seq (.ops [
    ⟨(some 2), .mv (.c (.int .u64 0)), none⟩,
    ⟨(some 3), .mv (.c (.bool false)), none⟩] [2, 3])
 .ret)
 .skip))
 ir_bandboxref1_FromBig_4))⟩

def h_bandboxref1_Turn : Hint := [(0, [0], []), (1, [0, 3], []), (2, [0, 3, 4], []), (3, [0, 3, 4, 9], []), (4, [0, 3, 4], []), (5, [0, 3, 4], []), (6, [2], [])]
def ir_bandboxref1_Turn : AFunc := ⟨1, 20, [.tmp 2],
 (.seq (.ops [
   ⟨(some 2), .mv (.c (.slice none 0 0)), none⟩] [0])
 (.seq (.ops [
   ⟨(some 3), .mv (.c (.slice none 0 0)), none⟩] [0, 3])
 (.seq (.seq (.ops [
   ⟨(some 5), .mv (.t 0), none⟩,
   ⟨(some 6), .lenS (.t 5), none⟩,
   ⟨(some 7), .bin .sub (.t 6) (.c (.int .i64 1)), none⟩,
   ⟨(some 4), .mv (.t 7), none⟩] [0, 3, 4])
 (.block 0 (.loop (.seq (.seq (.ops [
     ⟨(some 8), .mv (.t 4), none⟩,
     ⟨(some 9), .bin .geq (.t 8) (.c (.int .i64 0)), none⟩] [0, 3, 4, 9])
 (.cond (.t 9)
 .skip
 (.exit 0)))
 (.seq (.block 1 (.ops [
      ⟨(some 12), .mv (.t 3), none⟩,
      ⟨(some 13), .mv (.t 0), none⟩,
      ⟨(some 14), .mv (.t 4), none⟩,
      ⟨(some 15), .iaddrS 1 (.t 13) (.t 14), none⟩,
      ⟨(some 16), .load none (.t 15), none⟩,
      ⟨(some 17), .bslice 1 1 ([.int .u8 0]) [(0, 1, .t 16)], none⟩,
      ⟨(some 18), .append 1 1 (.t 12) (.t 17), none⟩,
      ⟨(some 3), .mv (.t 18), none⟩] [0, 3, 4]))
 (.ops [
     ⟨(some 10), .mv (.t 4), none⟩,
     ⟨(some 11), .bin .sub (.t 10) (.c (.int .i64 1)), none⟩,
     ⟨(some 4), .mv (.t 11), none⟩] [0, 3, 4]))))))
 (.seq (.ops [
   ⟨(some 19), .mv (.t 3), none⟩,
   ⟨(some 2), .mv (.t 19), none⟩] [2])
 .ret))))⟩

def h_bandboxlaw6_AeadParts : Hint := [(0, [2, 3, 4, 5], []), (1, [2, 3, 4, 5, 16], []), (2, [8], []), (3, [2, 3, 4, 5, 24], []), (4, [8], []), (5, [2, 4, 5, 9, 10], []), (6, [2, 4, 5, 9, 42], []), (7, [8], []), (8, [2, 4, 5, 9, 11, 12], []), (9, [2, 4, 5, 9, 11, 12, 13], []), (10, [2, 9, 11, 12, 13, 14], []), (11, [8], [(0, 0), (1, 0), (2, 0), (3, 0), (4, 0), (5, 0), (6, 0), (7, 0), (8, 0), (9, 0), (10, 0), (11, 0), (12, 0), (13, 0), (14, 0), (15, 0), (16, 0), (17, 0), (18, 0), (19, 0), (20, 0), (21, 0), (22, 1), (23, 1), (24, 1), (25, 0), (26, 0), (27, 0)])]
def ir_bandboxlaw6_AeadParts_56 : ACode := (.seq (.dops [
   ⟨0, (some 56), .mv (.t 12), none, 0⟩,
   ⟨1, (some 57), .mv (.t 56), none, 0⟩,
   ⟨2, (some 58), .mv (.t 9), (some (57, true)), 0⟩,
   ⟨3, (some 59), .mv (.t 2), (some (57, true)), 0⟩,
   ⟨4, (some 60), .lenS (.t 59), (some (57, true)), 0⟩,
   ⟨5, (some 61), .slSl 1 (.t 58) none (some (.t 60)) none, (some (57, true)), 0⟩,
   ⟨6, (some 62), .strOf (.t 61), (some (57, true)), 0⟩,
   ⟨7, (some 63), .mv (.t 11), (some (57, true)), 0⟩,
   ⟨8, (some 64), .strOf (.t 63), (some (57, true)), 0⟩,
   ⟨9, (some 65), .bin .eql (.t 62) (.t 64), (some (57, true)), 0⟩,
   ⟨10, (some 66), .pick (.t 57) (.t 65) (.c (.bool false)), none, 0⟩,
   ⟨11, (some 67), .mv (.t 66), none, 0⟩,
   ⟨12, (some 68), .slArr 32 1 (.t 14) none none none, (some (67, true)), 0⟩,
   ⟨13, (some 69), .strOf (.t 68), (some (67, true)), 0⟩,
   ⟨14, (some 70), .slArr 64 1 (.t 13) none (some (.c (.int .i64 32))) none, (some (67, true)), 0⟩,
   ⟨15, (some 71), .strOf (.t 70), (some (67, true)), 0⟩,
   ⟨16, (some 72), .bin .eql (.t 69) (.t 71), (some (67, true)), 0⟩,
   ⟨17, (some 73), .pick (.t 67) (.t 72) (.c (.bool false)), none, 0⟩,
   ⟨18, (some 74), .mv (.t 73), none, 0⟩,
   ⟨19, (some 75), .mv (.t 9), (some (74, true)), 0⟩,
   ⟨20, (some 76), .call 59 [.t 75], (some (74, true)), 0⟩,
   ⟨21, (some 77), .lenStr (.t 76), (some (74, true)), 0⟩,
   ⟨22, (some 78), .mv (.t 9), (some (74, true)), 1⟩,
   ⟨23, (some 79), .lenS (.t 78), (some (74, true)), 1⟩,
   ⟨24, (some 80), .bin .mul (.c (.int .i64 2)) (.t 79), (some (74, true)), 1⟩,
   ⟨25, (some 81), .bin .eql (.t 77) (.t 80), (some (74, true)), 0⟩,
   ⟨26, (some 82), .pick (.t 74) (.t 81) (.c (.bool false)), none, 0⟩,
   ⟨27, (some 8), .mv (.t 82), none, 0⟩] [8])
 .ret)
def ir_bandboxlaw6_AeadParts_44 : ACode := (.seq (.ops [
   ⟨(some 44), .load (some 32) (.t 4), none⟩,
   ⟨(some 45), .load (some 12) (.t 5), none⟩,
   ⟨(some 46), .mv (.t 2), none⟩,
   ⟨(some 47), .call 131 [.t 44, .c (.int .u32 1), .t 45, .t 46], none⟩,
   ⟨(some 43), .mv (.t 47), none⟩,
   ⟨(some 48), .ext (.t 43) 0, none⟩,
   ⟨(some 49), .ext (.t 43) 1, none⟩,
   ⟨(some 11), .mv (.t 48), none⟩,
   ⟨(some 12), .mv (.t 49), none⟩] [2, 4, 5, 9, 11, 12])
 (.seq (.ops [
   ⟨(some 50), .load (some 32) (.t 4), none⟩,
   ⟨(some 51), .load (some 12) (.t 5), none⟩,
   ⟨(some 52), .call 133 [.t 50, .c (.int .u32 0), .t 51], none⟩,
   ⟨(some 13), .alloc (List.replicate 64 (.int .u8 0)), none⟩,
   ⟨none, .store 64 (.t 13) (.t 52), none⟩] [2, 4, 5, 9, 11, 12, 13])
 (.seq (.ops [
   ⟨(some 53), .load (some 32) (.t 4), none⟩,
   ⟨(some 54), .load (some 12) (.t 5), none⟩,
   ⟨(some 55), .call 117 [.t 53, .t 54], none⟩,
   ⟨(some 14), .alloc (List.replicate 32 (.int .u8 0)), none⟩,
   ⟨none, .store 32 (.t 14) (.t 55), none⟩] [2, 9, 11, 12, 13, 14])
 ir_bandboxlaw6_AeadParts_56)))
def ir_bandboxlaw6_AeadParts_26 : ACode := (.seq (.ops [
   ⟨(some 26), .load (some 32) (.t 4), none⟩,
   ⟨(some 27), .load (some 12) (.t 5), none⟩,
   ⟨(some 28), .mv (.t 2), none⟩,
   ⟨(some 29), .mv (.t 3), none⟩,
   ⟨(some 30), .call 115 [.t 26, .t 27, .t 28, .t 29], none⟩,
   ⟨(some 25), .mv (.t 30), none⟩,
   ⟨(some 31), .ext (.t 25) 0, none⟩,
   ⟨(some 32), .ext (.t 25) 1, none⟩,
   ⟨(some 9), .mv (.t 31), none⟩,
   ⟨(some 10), .mv (.t 32), none⟩] [2, 4, 5, 9, 10])
 (.seq (.seq (.ops [
   ⟨(some 33), .mv (.t 10), none⟩,
   ⟨(some 34), .bin .neq (.t 33) (.c (.int .i64 0)), none⟩,
   ⟨(some 35), .mv (.t 34), none⟩,
   ⟨(some 36), .mv (.t 9), (some (35, false))⟩,
   ⟨(some 37), .lenS (.t 36), (some (35, false))⟩,
   ⟨(some 38), .mv (.t 2), (some (35, false))⟩,
   ⟨(some 39), .lenS (.t 38), (some (35, false))⟩,
   ⟨(some 40), .bin .add (.t 39) (.c (.int .i64 16)), (some (35, false))⟩,
   ⟨(some 41), .bin .neq (.t 37) (.t 40), (some (35, false))⟩,
   ⟨(some 42), .pick (.t 35) (.c (.bool true)) (.t 41), none⟩] [2, 4, 5, 9, 42])
 (.cond (.t 42)
 (.seq (.ops [
    ⟨(some 8), .mv (.c (.bool false)), none⟩] [8])
 .ret)
 .skip))
 ir_bandboxlaw6_AeadParts_44))
def ir_bandboxlaw6_AeadParts : AFunc := ⟨4, 83, [.tmp 8],
 (.seq (.ops [
   ⟨(some 4), .box (.t 0), none⟩,
   ⟨(some 5), .box (.t 1), none⟩,
   ⟨(some 8), .mv (.c (.bool false)), none⟩] [2, 3, 4, 5])
 (.seq (.seq (.ops [
   ⟨(some 15), .call 114 [], none⟩,
   ⟨(some 16), .un .not (.t 15), none⟩] [2, 3, 4, 5, 16])
 (.cond (.t 16)
 (.seq (.ops [
    ⟨(some 8), .mv (.c (.bool false)), none⟩] [8])
 .ret)
 .skip))
 (.seq (.seq (.ops [
   ⟨(some 17), .mv (.t 2), none⟩,
   ⟨(some 18), .lenS (.t 17), none⟩,
   ⟨(some 19), .bin .gtr (.t 18) (.c (.int .i64 200)), none⟩,
   ⟨(some 20), .mv (.t 19), none⟩,
   ⟨(some 21), .mv (.t 3), (some (20, false))⟩,
   ⟨(some 22), .lenS (.t 21), (some (20, false))⟩,
   ⟨(some 23), .bin .gtr (.t 22) (.c (.int .i64 60)), (some (20, false))⟩,
   ⟨(some 24), .pick (.t 20) (.c (.bool true)) (.t 23), none⟩] [2, 3, 4, 5, 24])
 (.cond (.t 24)
 (.seq (.ops [
    ⟨(some 8), .mv (.c (.bool true)), none⟩] [8])
 .ret)
 .skip))
 ir_bandboxlaw6_AeadParts_26)))⟩

noncomputable def tabT : NT := (.node 114 (h_bandboxlaw6_awake, ir_bandboxlaw6_awake) (.node 70 (h_bandboxref4_times, ir_bandboxref4_times) (.node 61 (h_octet_Big, ir_octet_Big) (.node 42 (h_bandboxref1_Join, ir_bandboxref1_Join) (.node 40 (h_poly_Clamp, ir_poly_Clamp) (.node 38 (h_poly_Tag, ir_poly_Tag) .leaf .leaf) (.node 41 (h_bandboxref4_Tag, ir_bandboxref4_Tag) .leaf .leaf)) (.node 55 (h_slices_Clone_byte_byte, ir_slices_Clone_byte_byte) (.node 43 (h_bandboxref4_Clamp, ir_bandboxref4_Clamp) .leaf .leaf) (.node 59 (h_bandboxref1_Hex, ir_bandboxref1_Hex) .leaf .leaf))) (.node 66 (h_poly_num_times, ir_poly_num_times) (.node 64 (h_slices_Concat_byte_byte, ir_slices_Concat_byte_byte) (.node 63 (h_poly_word, ir_poly_word) .leaf .leaf) (.node 65 (h_poly_num_plus, ir_poly_num_plus) .leaf .leaf)) (.node 68 (h_octet_Little, ir_octet_Little) (.node 67 (h_poly_num_last, ir_poly_num_last) .leaf .leaf) .leaf))) (.node 88 (h_octet_FromBig, ir_octet_FromBig) (.node 80 (h_slices_Grow_byte_byte, ir_slices_Grow_byte_byte) (.node 72 (h_bandboxref4_least, ir_bandboxref4_least) (.node 71 (h_bandboxref4_plus, ir_bandboxref4_plus) .leaf .leaf) (.node 79 (h_octet_FromLittle, ir_octet_FromLittle) .leaf .leaf)) (.node 82 (h_poly_num_cut, ir_poly_num_cut) (.node 81 (h_poly_column, ir_poly_column) .leaf .leaf) (.node 86 (h_sha_mix, ir_sha_mix) .leaf .leaf))) (.node 92 (h_sha_turn, ir_sha_turn) (.node 90 (h_math_bits_Mul64, ir_math_bits_Mul64) (.node 89 (h_octet_Turn, ir_octet_Turn) .leaf .leaf) (.node 91 (h_sha_schedule, ir_sha_schedule) .leaf .leaf)) (.node 94 (h_math_bits_RotateLeft32, ir_math_bits_RotateLeft32) (.node 93 (h_slices_Reverse_byte_byte, ir_slices_Reverse_byte_byte) .leaf .leaf) .leaf)))) (.node 135 (h_aead_fill, ir_aead_fill) (.node 128 (h_aead_tag, ir_aead_tag) (.node 118 (h_bandboxref4_Seal, ir_bandboxref4_Seal) (.node 116 (h_aead_Open, ir_aead_Open) (.node 115 (h_aead_Seal, ir_aead_Seal) .leaf .leaf) (.node 117 (h_aead_Key, ir_aead_Key) .leaf .leaf)) (.node 120 (h_bandboxref4_TagKey, ir_bandboxref4_TagKey) (.node 119 (h_bandboxref4_Open, ir_bandboxref4_Open) .leaf .leaf) (.node 127 (h_chacha_Xor, ir_chacha_Xor) .leaf .leaf))) (.node 132 (h_bandboxref4_tagged, ir_bandboxref4_tagged) (.node 130 (h_chacha_Block, ir_chacha_Block) (.node 129 (h_octet_Equal, ir_octet_Equal) .leaf .leaf) (.node 131 (h_bandboxref4_Xor, ir_bandboxref4_Xor) .leaf .leaf)) (.node 134 (h_octet_Xor, ir_octet_Xor) (.node 133 (h_bandboxref4_Block, ir_bandboxref4_Block) .leaf .leaf) .leaf))) (.node 143 (h_chacha_Quarter, ir_chacha_Quarter) (.node 139 (h_bandboxref1_Little, ir_bandboxref1_Little) (.node 137 (h_chacha_mix, ir_chacha_mix) (.node 136 (h_chacha_state, ir_chacha_state) .leaf .leaf) (.node 138 (h_bandboxref1_Xor, ir_bandboxref1_Xor) .leaf .leaf)) (.node 141 (h_bandboxref4_Quarter, ir_bandboxref4_Quarter) (.node 140 (h_bandboxref4_word, ir_bandboxref4_word) .leaf .leaf) (.node 142 (h_chacha_word, ir_chacha_word) .leaf .leaf))) (.node 147 (h_bandboxref1_FromBig, ir_bandboxref1_FromBig) (.node 145 (h_bandboxref1_FromLittle, ir_bandboxref1_FromLittle) (.node 144 (h_bandboxref1_held, ir_bandboxref1_held) .leaf .leaf) (.node 146 (h_bandboxref4_left, ir_bandboxref4_left) .leaf .leaf)) (.node 169 (h_bandboxlaw6_AeadParts, ir_bandboxlaw6_AeadParts) (.node 148 (h_bandboxref1_Turn, ir_bandboxref1_Turn) .leaf .leaf) .leaf)))))
noncomputable def tab : Nat → Option (Hint × AFunc) := tabT.find
abbrev n_poly_Tag : Nat := 38
abbrev n_poly_Clamp : Nat := 40
abbrev n_bandboxref4_Tag : Nat := 41
abbrev n_bandboxref1_Join : Nat := 42
abbrev n_bandboxref4_Clamp : Nat := 43
abbrev n_slices_Clone_byte_byte : Nat := 55
abbrev n_bandboxref1_Hex : Nat := 59
abbrev n_octet_Big : Nat := 61
abbrev n_poly_word : Nat := 63
abbrev n_slices_Concat_byte_byte : Nat := 64
abbrev n_poly_num_plus : Nat := 65
abbrev n_poly_num_times : Nat := 66
abbrev n_poly_num_last : Nat := 67
abbrev n_octet_Little : Nat := 68
abbrev n_bandboxref4_times : Nat := 70
abbrev n_bandboxref4_plus : Nat := 71
abbrev n_bandboxref4_least : Nat := 72
abbrev n_octet_FromLittle : Nat := 79
abbrev n_slices_Grow_byte_byte : Nat := 80
abbrev n_poly_column : Nat := 81
abbrev n_poly_num_cut : Nat := 82
abbrev n_sha_mix : Nat := 86
abbrev n_octet_FromBig : Nat := 88
abbrev n_octet_Turn : Nat := 89
abbrev n_math_bits_Mul64 : Nat := 90
abbrev n_sha_schedule : Nat := 91
abbrev n_sha_turn : Nat := 92
abbrev n_slices_Reverse_byte_byte : Nat := 93
abbrev n_math_bits_RotateLeft32 : Nat := 94
abbrev n_bandboxlaw6_awake : Nat := 114
abbrev n_aead_Seal : Nat := 115
abbrev n_aead_Open : Nat := 116
abbrev n_aead_Key : Nat := 117
abbrev n_bandboxref4_Seal : Nat := 118
abbrev n_bandboxref4_Open : Nat := 119
abbrev n_bandboxref4_TagKey : Nat := 120
abbrev n_chacha_Xor : Nat := 127
abbrev n_aead_tag : Nat := 128
abbrev n_octet_Equal : Nat := 129
abbrev n_chacha_Block : Nat := 130
abbrev n_bandboxref4_Xor : Nat := 131
abbrev n_bandboxref4_tagged : Nat := 132
abbrev n_bandboxref4_Block : Nat := 133
abbrev n_octet_Xor : Nat := 134
abbrev n_aead_fill : Nat := 135
abbrev n_chacha_state : Nat := 136
abbrev n_chacha_mix : Nat := 137
abbrev n_bandboxref1_Xor : Nat := 138
abbrev n_bandboxref1_Little : Nat := 139
abbrev n_bandboxref4_word : Nat := 140
abbrev n_bandboxref4_Quarter : Nat := 141
abbrev n_chacha_word : Nat := 142
abbrev n_chacha_Quarter : Nat := 143
abbrev n_bandboxref1_held : Nat := 144
abbrev n_bandboxref1_FromLittle : Nat := 145
abbrev n_bandboxref4_left : Nat := 146
abbrev n_bandboxref1_FromBig : Nat := 147
abbrev n_bandboxref1_Turn : Nat := 148
abbrev n_bandboxlaw6_AeadParts : Nat := 169
end Go.Bb
