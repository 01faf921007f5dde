/- The functions that this claim reaches, in short form; printed by a program of mine. -/
import Derived.Test.YtfbhhmmjfoemkaaBbG3
namespace Go.Bb
set_option maxRecDepth 20000
def h_bandboxlaw3_KdfNames : Hint := [(0, [1, 2, 3], []), (1, [1, 2, 3, 12], []), (2, [6], []), (3, [1, 2, 3, 20], []), (4, [6], []), (5, [1, 2, 3, 7], []), (6, [1, 2, 3, 8, 9], [(1, 0), (2, 0), (3, 0), (0, 1), (4, 0), (5, 0), (6, 0), (7, 0), (8, 0), (9, 0)]), (7, [1, 2, 3, 8, 9, 10], []), (8, [6], [(0, 0), (1, 0), (2, 0), (3, 0), (4, 0), (5, 0), (6, 0), (7, 0), (8, 0), (9, 0), (10, 0), (11, 0), (12, 0), (13, 0), (14, 0), (15, 0), (16, 0), (17, 1), (18, 1), (19, 1), (20, 1), (21, 0), (22, 0), (23, 0), (24, 0), (25, 0), (26, 0)])]
def ir_bandboxlaw3_KdfNames_45 : ACode := (.seq (.dops [
   ⟨0, (some 45), .mv (.t 9), none, 0⟩,
   ⟨1, (some 46), .bin .eql (.t 45) (.c (.int .i64 0)), none, 0⟩,
   ⟨2, (some 47), .mv (.t 46), none, 0⟩,
   ⟨3, (some 48), .mv (.t 8), (some (47, true)), 0⟩,
   ⟨4, (some 49), .strOf (.t 48), (some (47, true)), 0⟩,
   ⟨5, (some 50), .slArr 32 1 (.t 10) none none none, (some (47, true)), 0⟩,
   ⟨6, (some 51), .strOf (.t 50), (some (47, true)), 0⟩,
   ⟨7, (some 52), .bin .eql (.t 49) (.t 51), (some (47, true)), 0⟩,
   ⟨8, (some 53), .pick (.t 47) (.t 52) (.c (.bool false)), none, 0⟩,
   ⟨9, (some 54), .mv (.t 53), none, 0⟩,
   ⟨10, (some 55), .slArr 32 1 (.t 3) none none none, (some (54, true)), 0⟩,
   ⟨11, (some 56), .mv (.t 1), (some (54, true)), 0⟩,
   ⟨12, (some 57), .bytesOf (.t 56), (some (54, true)), 0⟩,
   ⟨13, (some 58), .mv (.t 2), (some (54, true)), 0⟩,
   ⟨14, (some 59), .bytesOf (.t 58), (some (54, true)), 0⟩,
   ⟨15, (some 60), .bslice 2 1 ([.slice none 0 0]) [(0, 1, .t 57), (1, 1, .t 59)], (some (54, true)), 0⟩,
   ⟨16, (some 61), .call 36 [.t 55, .t 60], (some (54, true)), 0⟩,
   ⟨17, (some 62), .slArr 32 1 (.t 3) none none none, (some (54, true)), 1⟩,
   ⟨18, (some 63), .mv (.t 1), (some (54, true)), 1⟩,
   ⟨19, (some 64), .mv (.t 2), (some (54, true)), 1⟩,
   ⟨20, (some 65), .bin .add (.t 63) (.t 64), (some (54, true)), 1⟩,
   ⟨21, (some 66), .bytesOf (.t 65), (some (54, true)), 0⟩,
   ⟨22, (some 67), .bslice 1 1 ([.slice none 0 0]) [(0, 1, .t 66)], (some (54, true)), 0⟩,
   ⟨23, (some 68), .call 36 [.t 62, .t 67], (some (54, true)), 0⟩,
   ⟨24, (some 69), .eqa (List.replicate 32 (some .u8)) false (.t 61) (.t 68), (some (54, true)), 0⟩,
   ⟨25, (some 70), .pick (.t 54) (.t 69) (.c (.bool false)), none, 0⟩,
   ⟨26, (some 6), .mv (.t 70), none, 0⟩] [6])
 .ret)
def ir_bandboxlaw3_KdfNames_34 : ACode := (.seq (.dops [
   ⟨1, (some 34), .mv (.t 7), none, 0⟩,
   ⟨2, (some 35), .mv (.t 2), none, 0⟩,
   ⟨3, (some 36), .append 1 1 (.t 34) (.t 35), none, 0⟩,
   ⟨0, (some 33), .load (some 32) (.t 3), none, 1⟩,
   ⟨4, (some 37), .call 33 [.t 33, .t 36, .c (.int .i64 32)], none, 0⟩,
   ⟨5, (some 32), .mv (.t 37), none, 0⟩,
   ⟨6, (some 38), .ext (.t 32) 0, none, 0⟩,
   ⟨7, (some 39), .ext (.t 32) 1, none, 0⟩,
   ⟨8, (some 8), .mv (.t 38), none, 0⟩,
   ⟨9, (some 9), .mv (.t 39), none, 0⟩] [1, 2, 3, 8, 9])
 (.seq (.ops [
   ⟨(some 40), .load (some 32) (.t 3), none⟩,
   ⟨(some 41), .mv (.t 1), none⟩,
   ⟨(some 42), .mv (.t 2), none⟩,
   ⟨(some 43), .bslice 2 1 ([.string .empty]) [(0, 1, .t 41), (1, 1, .t 42)], none⟩,
   ⟨(some 44), .call 35 [.t 40, .t 43], none⟩,
   ⟨(some 10), .alloc (List.replicate 32 (.int .u8 0)), none⟩,
   ⟨none, .store 32 (.t 10) (.t 44), none⟩] [1, 2, 3, 8, 9, 10])
 ir_bandboxlaw3_KdfNames_45))
def ir_bandboxlaw3_KdfNames_13 : ACode := (.seq (.seq (.ops [
   ⟨(some 13), .mv (.t 1), none⟩,
   ⟨(some 14), .lenStr (.t 13), none⟩,
   ⟨(some 15), .bin .gtr (.t 14) (.c (.int .i64 80)), none⟩,
   ⟨(some 16), .mv (.t 15), none⟩,
   ⟨(some 17), .mv (.t 2), (some (16, false))⟩,
   ⟨(some 18), .lenStr (.t 17), (some (16, false))⟩,
   ⟨(some 19), .bin .gtr (.t 18) (.c (.int .i64 80)), (some (16, false))⟩,
   ⟨(some 20), .pick (.t 16) (.c (.bool true)) (.t 19), none⟩] [1, 2, 3, 20])
 (.cond (.t 20)
 (.seq (.ops [
    ⟨(some 6), .mv (.c (.bool true)), none⟩] [6])
 .ret)
 .skip))
 (.seq (.ops [
   ⟨(some 21), .mv (.t 1), none⟩,
   ⟨(some 22), .lenStr (.t 21), none⟩,
   ⟨(some 23), .conv .u8 (.t 22), none⟩,
   ⟨(some 24), .bslice 2 1 ([.int .u8 0]) [(0, 1, .c (.int .u8 0)), (1, 1, .t 23)], none⟩,
   ⟨(some 25), .mv (.t 1), none⟩,
   ⟨(some 26), .append 1 1 (.t 24) (.t 25), none⟩,
   ⟨(some 27), .mv (.t 2), none⟩,
   ⟨(some 28), .lenStr (.t 27), none⟩,
   ⟨(some 29), .conv .u8 (.t 28), none⟩,
   ⟨(some 30), .bslice 2 1 ([.int .u8 0]) [(0, 1, .c (.int .u8 0)), (1, 1, .t 29)], none⟩,
   ⟨(some 31), .append 1 1 (.t 26) (.t 30), none⟩,
   ⟨(some 7), .mv (.t 31), none⟩] [1, 2, 3, 7])
 ir_bandboxlaw3_KdfNames_34))
def ir_bandboxlaw3_KdfNames : AFunc := ⟨3, 71, [.tmp 6],
 (.seq (.ops [
   ⟨(some 3), .box (.t 0), none⟩,
   ⟨(some 6), .mv (.c (.bool false)), none⟩] [1, 2, 3])
 (.seq (.seq (.ops [
   ⟨(some 11), .call 32 [], none⟩,
   ⟨(some 12), .un .not (.t 11), none⟩] [1, 2, 3, 12])
 (.cond (.t 12)
 (.seq (.ops [
    ⟨(some 6), .mv (.c (.bool false)), none⟩] [6])
 .ret)
 .skip))
 ir_bandboxlaw3_KdfNames_13))⟩

def h_bandboxlaw3_awake : Hint := [(0, [], []), (1, [1], []), (2, [0], [])]
def ir_bandboxlaw3_awake_8 : ACode := (.seq (.ops [
   ⟨(some 8), .slArr 32 1 (.t 1) none none none, none⟩,
   ⟨(some 9), .call 59 [.t 8], none⟩,
   ⟨(some 10), .bin .eql (.t 9) (.c (.string ⟨#[102, 55, 98, 99, 56, 51, 102, 52, 51, 48, 53, 51, 56, 52, 50, 52, 98, 49, 51, 50, 57, 56, 101, 54, 97, 97, 54, 102, 98, 49, 52, 51, 101, 102, 52, 100, 53, 57, 97, 49, 52, 57, 52, 54, 49, 55, 53, 57, 57, 55, 52, 55, 57, 100, 98, 99, 50, 100, 49, 97, 51, 99, 100, 56]⟩)), none⟩,
   ⟨(some 0), .mv (.t 10), none⟩] [0])
 .ret)
def ir_bandboxlaw3_awake_2 : ACode := (.seq (.ops [
   ⟨(some 2), .bslice 3 1 ([.int .u8 0]) [(0, 1, .c (.int .u8 107)), (1, 1, .c (.int .u8 101)), (2, 1, .c (.int .u8 121))], none⟩,
   ⟨(some 3), .mark (.t 2), none⟩,
   ⟨(some 4), .bslice 43 1 ([.int .u8 0]) [(0, 1, .c (.int .u8 84)), (1, 1, .c (.int .u8 104)), (2, 1, .c (.int .u8 101)), (3, 1, .c (.int .u8 32)), (4, 1, .c (.int .u8 113)), (5, 1, .c (.int .u8 117)), (6, 1, .c (.int .u8 105)), (7, 1, .c (.int .u8 99)), (8, 1, .c (.int .u8 107)), (9, 1, .c (.int .u8 32)), (10, 1, .c (.int .u8 98)), (11, 1, .c (.int .u8 114)), (12, 1, .c (.int .u8 111)), (13, 1, .c (.int .u8 119)), (14, 1, .c (.int .u8 110)), (15, 1, .c (.int .u8 32)), (16, 1, .c (.int .u8 102)), (17, 1, .c (.int .u8 111)), (18, 1, .c (.int .u8 120)), (19, 1, .c (.int .u8 32)), (20, 1, .c (.int .u8 106)), (21, 1, .c (.int .u8 117)), (22, 1, .c (.int .u8 109)), (23, 1, .c (.int .u8 112)), (24, 1, .c (.int .u8 115)), (25, 1, .c (.int .u8 32)), (26, 1, .c (.int .u8 111)), (27, 1, .c (.int .u8 118)), (28, 1, .c (.int .u8 101)), (29, 1, .c (.int .u8 114)), (30, 1, .c (.int .u8 32)), (31, 1, .c (.int .u8 116)), (32, 1, .c (.int .u8 104)), (33, 1, .c (.int .u8 101)), (34, 1, .c (.int .u8 32)), (35, 1, .c (.int .u8 108)), (36, 1, .c (.int .u8 97)), (37, 1, .c (.int .u8 122)), (38, 1, .c (.int .u8 121)), (39, 1, .c (.int .u8 32)), (40, 1, .c (.int .u8 100)), (41, 1, .c (.int .u8 111)), (42, 1, .c (.int .u8 103))], none⟩,
   ⟨(some 5), .mark (.t 4), none⟩,
   ⟨(some 6), .bslice 1 1 ([.slice none 0 0]) [(0, 1, .t 5)], none⟩,
   ⟨(some 7), .call 36 [.t 3, .t 6], none⟩,
   ⟨(some 1), .alloc (List.replicate 32 (.int .u8 0)), none⟩,
   ⟨none, .store 32 (.t 1) (.t 7), none⟩] [1])
 ir_bandboxlaw3_awake_8)
def ir_bandboxlaw3_awake : AFunc := ⟨0, 11, [.tmp 0],
 (.seq (.ops [
   ⟨(some 0), .mv (.c (.bool false)), none⟩] [])
 ir_bandboxlaw3_awake_2)⟩

def h_kdf_Expand : Hint := [(0, [1, 2, 3], []), (1, [1, 2, 3, 17], []), (2, [6, 7], []), (3, [1, 2, 3, 8, 9], []), (4, [1, 2, 3, 8, 9, 10], []), (5, [1, 2, 3, 8, 9, 10, 21], []), (6, [1, 2, 3, 8, 9, 10], []), (7, [1, 2, 3, 8, 10, 11], []), (8, [1, 2, 3, 8, 9, 10], []), (9, [1, 2, 3, 8, 9, 10], []), (10, [6, 7], [])]
def ir_kdf_Expand : AFunc := ⟨3, 40, [.tmp 6, .tmp 7],
 (.seq (.ops [
   ⟨(some 3), .box (.t 0), none⟩,
   ⟨(some 6), .mv (.c (.slice none 0 0)), none⟩,
   ⟨(some 7), .mv (.c (.int .i64 0)), none⟩] [1, 2, 3])
 (.seq (.seq (.ops [
   ⟨(some 12), .mv (.t 2), none⟩,
   ⟨(some 13), .bin .lss (.t 12) (.c (.int .i64 0)), none⟩,
   ⟨(some 14), .mv (.t 13), none⟩,
   ⟨(some 15), .mv (.t 2), (some (14, false))⟩,
   ⟨(some 16), .bin .gtr (.t 15) (.c (.int .i64 8160)), (some (14, false))⟩,
   ⟨(some 17), .pick (.t 14) (.c (.bool true)) (.t 16), none⟩] [1, 2, 3, 17])
 (.cond (.t 17)
  (.seq (.ops [
    ⟨(some 6), .mv (.c (.slice none 0 0)), none⟩,
    ⟨(some 7), .mv (.c (.int .i64 1)), none⟩] [6, 7])
  .ret)
  .skip))
 (.seq (.ops [
   ⟨(some 8), .mv (.c (.slice none 0 0)), none⟩,
   ⟨(some 9), .mv (.c (.slice none 0 0)), none⟩] [1, 2, 3, 8, 9])
 (.seq (.seq (.ops [
   ⟨(some 10), .mv (.c (.int .i64 1)), none⟩] [1, 2, 3, 8, 9, 10])
 (.block 0
  (.loop
   (.seq (.seq (.ops [
     ⟨(some 18), .mv (.t 8), none⟩,
     ⟨(some 19), .lenS (.t 18), none⟩,
     ⟨(some 20), .mv (.t 2), none⟩,
     ⟨(some 21), .bin .lss (.t 19) (.t 20), none⟩] [1, 2, 3, 8, 9, 10, 21])
   (.cond (.t 21)
    .skip
    (.exit 0)))
   (.seq (.block 1
    (.seq (.ops [
      ⟨(some 24), .slArr 32 1 (.t 3) none none none, none⟩,
      ⟨(some 25), .mv (.t 9), none⟩,
      ⟨(some 26), .mv (.t 1), none⟩,
      ⟨(some 27), .mv (.t 10), none⟩,
      ⟨(some 28), .conv .u8 (.t 27), none⟩,
      ⟨(some 29), .bslice 1 1 ([.int .u8 0]) [(0, 1, .t 28)], none⟩,
      ⟨(some 30), .bslice 3 1 ([.slice none 0 0]) [(0, 1, .t 25), (1, 1, .t 26), (2, 1, .t 29)], none⟩,
      ⟨(some 31), .call 36 [.t 24, .t 30], none⟩,
      ⟨(some 11), .alloc (List.replicate 32 (.int .u8 0)), none⟩,
      ⟨none, .store 32 (.t 11) (.t 31), none⟩] [1, 2, 3, 8, 10, 11])
    (.seq (.ops [
      ⟨(some 32), .slArr 32 1 (.t 11) none none none, none⟩,
      ⟨(some 9), .mv (.t 32), none⟩] [1, 2, 3, 8, 9, 10])
    (.ops [
      ⟨(some 33), .mv (.t 8), none⟩,
      ⟨(some 34), .mv (.t 9), none⟩,
      ⟨(some 35), .append 1 1 (.t 33) (.t 34), none⟩,
      ⟨(some 8), .mv (.t 35), none⟩] [1, 2, 3, 8, 9, 10]))))
   (.ops [
     ⟨(some 22), .mv (.t 10), none⟩,
     ⟨(some 23), .bin .add (.t 22) (.c (.int .i64 1)), none⟩,
     ⟨(some 10), .mv (.t 23), none⟩] [1, 2, 3, 8, 9, 10]))))))
 (.seq (.ops [
   ⟨(some 36), .mv (.t 8), none⟩,
   ⟨(some 37), .mv (.t 2), none⟩,
   ⟨(some 38), .slSl 1 (.t 36) none (some (.t 37)) none, none⟩,
   ⟨(some 39), .call 55 [.t 38], none⟩,
   ⟨(some 6), .mv (.t 39), none⟩,
   ⟨(some 7), .mv (.c (.int .i64 0)), none⟩] [6, 7])
 .ret)))))⟩

def h_kdf_Key : Hint := [(0, [1, 2, 4], []), (1, [1, 2, 4, 5], []), (2, [2, 4, 5, 10, 11, 12], []), (3, [2, 4, 5, 10, 11, 12, 13], []), (4, [2, 4, 5, 7, 10, 11, 12], []), (5, [2, 4, 5, 10, 11, 12], []), (6, [2, 4, 5, 10, 11, 12], []), (7, [4, 8], []), (8, [4], [])]
def ir_kdf_Key_25 : ACode := (.seq (.ops [
   ⟨(some 25), .load (some 32) (.t 2), none⟩,
   ⟨(some 26), .mv (.t 5), none⟩,
   ⟨(some 27), .call 33 [.t 25, .t 26, .c (.int .i64 32)], none⟩,
   ⟨(some 24), .mv (.t 27), none⟩,
   ⟨(some 28), .ext (.t 24) 0, none⟩,
   ⟨(some 29), .ext (.t 24) 1, none⟩,
   ⟨(some 8), .mv (.t 28), none⟩,
   ⟨(some 9), .mv (.t 29), none⟩] [4, 8])
 (.seq (.ops [
   ⟨(some 30), .mv (.t 8), none⟩,
   ⟨(some 31), .arrOf 32 (.t 30), none⟩,
   ⟨(some 32), .load (some 32) (.t 31), none⟩,
   ⟨none, .store 32 (.t 4) (.t 32), none⟩] [4])
 .ret))
def ir_kdf_Key : AFunc := ⟨2, 33, [.cell 4 (some 32)],
 (.seq (.ops [
   ⟨(some 2), .box (.t 0), none⟩,
   ⟨(some 4), .alloc (List.replicate 32 (.int .u8 0)), none⟩] [1, 2, 4])
 (.seq (.ops [
   ⟨(some 5), .mv (.c (.slice none 0 0)), none⟩] [1, 2, 4, 5])
 (.seq (.seq (.ops [
   ⟨(some 10), .mv (.t 1), none⟩,
   ⟨(some 11), .lenS (.t 10), none⟩,
   ⟨(some 12), .mv (.c (.int .i64 0)), none⟩] [2, 4, 5, 10, 11, 12])
 (.block 0 (.loop (.seq (.ops [
     ⟨(some 13), .bin .lss (.t 12) (.t 11), none⟩] [2, 4, 5, 10, 11, 12, 13])
 (.seq (.cond (.t 13)
 .skip
 (.exit 0))
 (.seq (.block 1 (.seq (.ops [
      ⟨(some 14), .iaddrS 1 (.t 10) (.t 12), none⟩,
      ⟨(some 15), .load none (.t 14), none⟩,
      ⟨(some 7), .mv (.t 15), none⟩] [2, 4, 5, 7, 10, 11, 12])
 (.ops [
      ⟨(some 16), .mv (.t 5), none⟩,
      ⟨(some 17), .mv (.t 7), none⟩,
      ⟨(some 18), .lenStr (.t 17), none⟩,
      ⟨(some 19), .conv .u64 (.t 18), none⟩,
      ⟨(some 20), .call 61 [.t 16, .t 19, .c (.int .i64 2)], none⟩,
      ⟨(some 21), .mv (.t 7), none⟩,
      ⟨(some 22), .append 1 1 (.t 20) (.t 21), none⟩,
      ⟨(some 5), .mv (.t 22), none⟩] [2, 4, 5, 10, 11, 12])))
 (.ops [
     ⟨(some 23), .bin .add (.t 12) (.c (.int .i64 1)), none⟩,
     ⟨(some 12), .mv (.t 23), none⟩] [2, 4, 5, 10, 11, 12])))))))
 ir_kdf_Key_25)))⟩

def h_kdf_Mac : Hint := [(0, [0, 1, 4], []), (1, [0, 1, 4, 12], []), (2, [1, 4, 5], []), (3, [0, 1, 4], []), (4, [0, 1, 4, 6, 7], [(0, 0), (1, 0), (2, 0), (3, 0)]), (5, [0, 1, 4, 6, 7], []), (6, [1, 4, 6, 7], []), (7, [1, 4, 6, 7, 26, 27], []), (8, [1, 4, 6, 7, 26, 27, 28], []), (9, [1, 4, 6, 7, 8, 26, 27], []), (10, [1, 4, 6, 7, 8, 26, 27], []), (11, [1, 4, 6, 7, 26, 27], []), (12, [1, 4, 6, 7, 26, 27], []), (13, [4, 7, 9], []), (14, [4], [])]
def ir_kdf_Mac_17 : ACode := (.seq (.dops [
   ⟨0, (some 17), .mslice 1 ([.int .u8 0]) (.c (.int .i64 64)) (.c (.int .i64 64)), none, 0⟩,
   ⟨1, (some 18), .mslice 1 ([.int .u8 0]) (.c (.int .i64 64)) (.c (.int .i64 64)), none, 0⟩,
   ⟨2, (some 6), .mv (.t 17), none, 0⟩,
   ⟨3, (some 7), .mv (.t 18), none, 0⟩] [0, 1, 4, 6, 7])
 (.seq (.ops [
   ⟨(some 19), .mv (.t 6), none⟩,
   ⟨(some 20), .mv (.t 0), none⟩,
   ⟨(some 21), .copy 1 (.t 19) (.t 20), none⟩] [0, 1, 4, 6, 7])
 (.seq (.ops [
   ⟨(some 22), .mv (.t 7), none⟩,
   ⟨(some 23), .mv (.t 0), none⟩,
   ⟨(some 24), .copy 1 (.t 22) (.t 23), none⟩] [1, 4, 6, 7])
 (.seq (.seq (.ops [
   ⟨(some 25), .mv (.t 6), none⟩,
   ⟨(some 26), .lenS (.t 25), none⟩,
   ⟨(some 27), .mv (.c (.int .i64 0)), none⟩] [1, 4, 6, 7, 26, 27])
 (.block 0 (.loop (.seq (.ops [
     ⟨(some 28), .bin .lss (.t 27) (.t 26), none⟩] [1, 4, 6, 7, 26, 27, 28])
 (.seq (.cond (.t 28)
 .skip
 (.exit 0))
 (.seq (.block 1 (.seq (.ops [
      ⟨(some 29), .mv (.t 27), none⟩,
      ⟨(some 8), .mv (.t 29), none⟩] [1, 4, 6, 7, 8, 26, 27])
 (.seq (.ops [
      ⟨(some 30), .mv (.t 6), none⟩,
      ⟨(some 31), .mv (.t 8), none⟩,
      ⟨(some 32), .iaddrS 1 (.t 30) (.t 31), none⟩,
      ⟨(some 33), .load none (.t 32), none⟩,
      ⟨(some 34), .bin .xor (.t 33) (.c (.int .u8 54)), none⟩,
      ⟨(some 35), .iaddrS 1 (.t 30) (.t 31), none⟩,
      ⟨none, .store 1 (.t 35) (.t 34), none⟩] [1, 4, 6, 7, 8, 26, 27])
 (.ops [
      ⟨(some 36), .mv (.t 7), none⟩,
      ⟨(some 37), .mv (.t 8), none⟩,
      ⟨(some 38), .iaddrS 1 (.t 36) (.t 37), none⟩,
      ⟨(some 39), .load none (.t 38), none⟩,
      ⟨(some 40), .bin .xor (.t 39) (.c (.int .u8 92)), none⟩,
      ⟨(some 41), .iaddrS 1 (.t 36) (.t 37), none⟩,
      ⟨none, .store 1 (.t 41) (.t 40), none⟩] [1, 4, 6, 7, 26, 27]))))
 (.ops [
     ⟨(some 42), .bin .add (.t 27) (.c (.int .i64 1)), none⟩,
     ⟨(some 27), .mv (.t 42), none⟩] [1, 4, 6, 7, 26, 27])))))))
 (.seq (.ops [
   ⟨(some 43), .mv (.t 6), none⟩,
   ⟨(some 44), .bslice 1 1 ([.slice none 0 0]) [(0, 1, .t 43)], none⟩,
   ⟨(some 45), .mv (.t 1), none⟩,
   ⟨(some 46), .append 1 24 (.t 44) (.t 45), none⟩,
   ⟨(some 47), .call 62 [.t 46], none⟩,
   ⟨(some 9), .alloc (List.replicate 32 (.int .u8 0)), none⟩,
   ⟨none, .store 32 (.t 9) (.t 47), none⟩] [4, 7, 9])
 (.seq (.ops [
   ⟨(some 48), .mv (.t 7), none⟩,
   ⟨(some 49), .slArr 32 1 (.t 9) none none none, none⟩,
   ⟨(some 50), .bslice 2 1 ([.slice none 0 0]) [(0, 1, .t 48), (1, 1, .t 49)], none⟩,
   ⟨(some 51), .call 62 [.t 50], none⟩,
   ⟨none, .store 32 (.t 4) (.t 51), none⟩] [4])
 .ret))))))
def ir_kdf_Mac : AFunc := ⟨2, 52, [.cell 4 (some 32)],
 (.seq (.ops [
   ⟨(some 4), .alloc (List.replicate 32 (.int .u8 0)), none⟩] [0, 1, 4])
 (.seq (.seq (.ops [
   ⟨(some 10), .mv (.t 0), none⟩,
   ⟨(some 11), .lenS (.t 10), none⟩,
   ⟨(some 12), .bin .gtr (.t 11) (.c (.int .i64 64)), none⟩] [0, 1, 4, 12])
 (.cond (.t 12)
 (.seq (.ops [
    ⟨(some 13), .mv (.t 0), none⟩,
    ⟨(some 14), .bslice 1 1 ([.slice none 0 0]) [(0, 1, .t 13)], none⟩,
    ⟨(some 15), .call 62 [.t 14], none⟩,
    ⟨(some 5), .alloc (List.replicate 32 (.int .u8 0)), none⟩,
    ⟨none, .store 32 (.t 5) (.t 15), none⟩] [1, 4, 5])
 (.ops [
    ⟨(some 16), .slArr 32 1 (.t 5) none none none, none⟩,
    ⟨(some 0), .mv (.t 16), none⟩] [0, 1, 4]))
 .skip))
 ir_kdf_Mac_17))⟩

def h_slices_Clone_byte_byte : Hint := [(0, [0], []), (1, [0, 4], []), (2, [2], []), (3, [2], [])]
def ir_slices_Clone_byte_byte : AFunc := ⟨1, 8, [.tmp 2],
 (.seq (.ops [
   ⟨(some 2), .mv (.c (.slice none 0 0)), none⟩] [0])
 (.seq (.seq (.ops [
   ⟨(some 3), .mv (.t 0), none⟩,
   ⟨(some 4), .eqv .slice false (.t 3) (.c (.slice none 0 0)), none⟩] [0, 4])
 (.cond (.t 4)
  (.seq (.ops [
    ⟨(some 2), .mv (.c (.slice none 0 0)), none⟩] [2])
  .ret)
  .skip))
 (.seq (.ops [
   ⟨(some 5), .bslice 0 1 ([.int .u8 0]) [], none⟩,
   ⟨(some 6), .mv (.t 0), none⟩,
   ⟨(some 7), .append 1 1 (.t 5) (.t 6), none⟩,
   ⟨(some 2), .mv (.t 7), none⟩] [2])
 .ret)))⟩

def h_bandboxref1_Hex : Hint := [(0, [0], []), (1, [0, 3], []), (2, [0, 3, 4], []), (3, [0, 3, 4, 12], []), (4, [0, 3, 4], []), (5, [0, 3, 4], [(0, 0), (1, 0), (2, 0), (3, 0), (4, 0), (5, 0), (6, 0), (7, 0), (8, 0), (9, 0), (10, 0), (11, 0), (12, 0), (13, 0), (14, 0), (15, 0)]), (6, [2], [])]
def ir_bandboxref1_Hex_15 : ACode := (.seq (.block 1 (.dops [
      ⟨0, (some 15), .mv (.t 3), none, 0⟩,
      ⟨1, (some 16), .mv (.t 0), none, 0⟩,
      ⟨2, (some 17), .mv (.t 4), none, 0⟩,
      ⟨3, (some 18), .iaddrS 1 (.t 16) (.t 17), none, 0⟩,
      ⟨4, (some 19), .load none (.t 18), none, 0⟩,
      ⟨5, (some 20), .bin .shr (.t 19) (.c (.int .u64 4)), none, 0⟩,
      ⟨6, (some 21), .idxS (.c (.string ⟨#[48, 49, 50, 51, 52, 53, 54, 55, 56, 57, 97, 98, 99, 100, 101, 102]⟩)) (.t 20), none, 0⟩,
      ⟨7, (some 22), .mv (.t 0), none, 0⟩,
      ⟨8, (some 23), .mv (.t 4), none, 0⟩,
      ⟨9, (some 24), .iaddrS 1 (.t 22) (.t 23), none, 0⟩,
      ⟨10, (some 25), .load none (.t 24), none, 0⟩,
      ⟨11, (some 26), .bin .and (.t 25) (.c (.int .u8 15)), none, 0⟩,
      ⟨12, (some 27), .idxS (.c (.string ⟨#[48, 49, 50, 51, 52, 53, 54, 55, 56, 57, 97, 98, 99, 100, 101, 102]⟩)) (.t 26), none, 0⟩,
      ⟨13, (some 28), .bslice 2 1 ([.int .u8 0]) [(0, 1, .t 21), (1, 1, .t 27)], none, 0⟩,
      ⟨14, (some 29), .append 1 1 (.t 15) (.t 28), none, 0⟩,
      ⟨15, (some 3), .mv (.t 29), none, 0⟩] [0, 3, 4]))
 (.ops [
     ⟨(some 13), .mv (.t 4), none⟩,
     ⟨(some 14), .bin .add (.t 13) (.c (.int .i64 1)), none⟩,
     ⟨(some 4), .mv (.t 14), none⟩] [0, 3, 4]))
def ir_bandboxref1_Hex : AFunc := ⟨1, 32, [.tmp 2],
 (.seq (.ops [
   ⟨(some 2), .mv (.c (.string .empty)), none⟩] [0])
 (.seq (.ops [
   ⟨(some 5), .mv (.t 0), none⟩,
   ⟨(some 6), .lenS (.t 5), none⟩,
   ⟨(some 7), .bin .mul (.c (.int .i64 2)) (.t 6), none⟩,
   ⟨(some 8), .mslice 1 ([.int .u8 0]) (.c (.int .i64 0)) (.t 7), none⟩,
   ⟨(some 3), .mv (.t 8), none⟩] [0, 3])
 (.seq (.seq (.ops [
   ⟨(some 4), .mv (.c (.int .i64 0)), none⟩] [0, 3, 4])
 (.block 0 (.loop (.seq (.seq (.ops [
     ⟨(some 9), .mv (.t 4), none⟩,
     ⟨(some 10), .mv (.t 0), none⟩,
     ⟨(some 11), .lenS (.t 10), none⟩,
     ⟨(some 12), .bin .lss (.t 9) (.t 11), none⟩] [0, 3, 4, 12])
 (.cond (.t 12)
 .skip
 (.exit 0)))
 ir_bandboxref1_Hex_15))))
 (.seq (.ops [
   ⟨(some 30), .mv (.t 3), none⟩,
   ⟨(some 31), .strOf (.t 30), none⟩,
   ⟨(some 2), .mv (.t 31), none⟩] [2])
 .ret))))⟩

def h_octet_Big : Hint := [(0, [0, 1, 2], []), (1, [1, 2, 7], []), (2, [1, 7, 8], []), (3, [1, 7, 8, 16], []), (4, [1, 7, 8], []), (5, [1, 7, 8], []), (6, [6], [])]
def ir_octet_Big : AFunc := ⟨3, 28, [.tmp 6],
 (.seq (.ops [
   ⟨(some 6), .mv (.c (.slice none 0 0)), none⟩] [0, 1, 2])
 (.seq (.ops [
   ⟨(some 9), .mv (.t 0), none⟩,
   ⟨(some 10), .call 55 [.t 9], none⟩,
   ⟨(some 7), .mv (.t 10), none⟩] [1, 2, 7])
 (.seq (.seq (.ops [
   ⟨(some 11), .mv (.t 2), none⟩,
   ⟨(some 12), .mn (.t 11) (.c (.int .i64 8)), none⟩,
   ⟨(some 13), .mx (.t 12) (.c (.int .i64 0)), none⟩,
   ⟨(some 14), .bin .sub (.t 13) (.c (.int .i64 1)), none⟩,
   ⟨(some 8), .mv (.t 14), none⟩] [1, 7, 8])
 (.block 0
  (.loop
   (.seq (.seq (.ops [
     ⟨(some 15), .mv (.t 8), none⟩,
     ⟨(some 16), .bin .geq (.t 15) (.c (.int .i64 0)), none⟩] [1, 7, 8, 16])
   (.cond (.t 16)
    .skip
    (.exit 0)))
   (.seq (.block 1
    (.ops [
      ⟨(some 19), .mv (.t 7), none⟩,
      ⟨(some 20), .mv (.t 1), none⟩,
      ⟨(some 21), .mv (.t 8), none⟩,
      ⟨(some 22), .bin .mul (.c (.int .i64 8)) (.t 21), none⟩,
      ⟨(some 23), .bin .shr (.t 20) (.t 22), none⟩,
      ⟨(some 24), .conv .u8 (.t 23), none⟩,
      ⟨(some 25), .bslice 1 1 ([.int .u8 0]) [(0, 1, .t 24)], none⟩,
      ⟨(some 26), .append 1 1 (.t 19) (.t 25), none⟩,
      ⟨(some 7), .mv (.t 26), none⟩] [1, 7, 8]))
   (.ops [
     ⟨(some 17), .mv (.t 8), none⟩,
     ⟨(some 18), .bin .sub (.t 17) (.c (.int .i64 1)), none⟩,
     ⟨(some 8), .mv (.t 18), none⟩] [1, 7, 8]))))))
 (.seq (.ops [
   ⟨(some 27), .mv (.t 7), none⟩,
   ⟨(some 6), .mv (.t 27), none⟩] [6])
 .ret))))⟩

def h_sha_Of : Hint := [(0, [0, 2], []), (1, [0, 2, 3], []), (2, [2, 3, 7, 8, 9], []), (3, [2, 3, 7, 8, 9, 10], []), (4, [2, 3, 5, 7, 8, 9], []), (5, [2, 3, 7, 8, 9], []), (6, [2, 3, 7, 8, 9], []), (7, [2], [])]
def ir_sha_Of : AFunc := ⟨1, 19, [.cell 2 (some 32)],
 (.seq (.ops [
   ⟨(some 2), .alloc (List.replicate 32 (.int .u8 0)), none⟩] [0, 2])
 (.seq (.ops [
   ⟨(some 6), .call 76 [], none⟩,
   ⟨(some 3), .mv (.t 6), none⟩] [0, 2, 3])
 (.seq (.seq (.ops [
   ⟨(some 7), .mv (.t 0), none⟩,
   ⟨(some 8), .lenS (.t 7), none⟩,
   ⟨(some 9), .mv (.c (.int .i64 0)), none⟩] [2, 3, 7, 8, 9])
 (.block 0
  (.loop
   (.seq (.ops [
     ⟨(some 10), .bin .lss (.t 9) (.t 8), none⟩] [2, 3, 7, 8, 9, 10])
   (.seq (.cond (.t 10)
    .skip
    (.exit 0))
   (.seq (.block 1
    (.seq (.ops [
      ⟨(some 11), .iaddrS 1 (.t 7) (.t 9), none⟩,
      ⟨(some 12), .load none (.t 11), none⟩,
      ⟨(some 5), .mv (.t 12), none⟩] [2, 3, 5, 7, 8, 9])
    (.ops [
      ⟨(some 13), .mv (.t 3), none⟩,
      ⟨(some 14), .mv (.t 5), none⟩,
      ⟨(some 15), .call 77 [.t 13, .t 14], none⟩] [2, 3, 7, 8, 9])))
   (.ops [
     ⟨(some 16), .bin .add (.t 9) (.c (.int .i64 1)), none⟩,
     ⟨(some 9), .mv (.t 16), none⟩] [2, 3, 7, 8, 9])))))))
 (.seq (.ops [
   ⟨(some 17), .mv (.t 3), none⟩,
   ⟨(some 18), .call 78 [.t 17], none⟩,
   ⟨none, .store 32 (.t 2) (.t 18), none⟩] [2])
 .ret))))⟩

def h_sha_New : Hint := [(0, [], []), (1, [0], [])]
def ir_sha_New : AFunc := ⟨0, 5, [.tmp 0],
 (.seq (.ops [
   ⟨(some 0), .mv (.c (.pointer none)), none⟩] [])
 (.seq (.ops [
   ⟨(some 1), .call 84 [], none⟩,
   ⟨(some 2), .call 85 [], none⟩,
   ⟨(some 3), .build ((List.replicate 72 (.int .u32 0) ++ [.slice none 0 0, .int .i64 0])) [(0, 8, .t 1), (8, 64, .t 2)], none⟩,
   ⟨(some 4), .box (.t 3), none⟩,
   ⟨(some 0), .mv (.t 4), none⟩] [0])
 .ret))⟩

def h_sha_Sum_Add : Hint := [(0, [0, 1], []), (1, [0], []), (2, [0, 27], []), (3, [0], [(1, 0), (2, 0), (3, 0), (4, 0), (5, 0), (6, 0), (7, 0), (8, 0), (9, 0), (10, 0), (11, 0), (12, 0), (13, 0), (0, 1), (14, 0), (15, 0), (16, 0)]), (4, [0], [])]
def ir_sha_Sum_Add : AFunc := ⟨2, 52, [],
 (.seq (.ops [
   ⟨(some 4), .mv (.t 0), none⟩,
   ⟨(some 5), .nilc (.t 4), none⟩,
   ⟨(some 6), .faddr 73 (.t 5), none⟩,
   ⟨(some 7), .load none (.t 6), none⟩,
   ⟨(some 8), .mv (.t 1), none⟩,
   ⟨(some 9), .lenS (.t 8), none⟩,
   ⟨(some 10), .bin .add (.t 7) (.t 9), none⟩,
   ⟨(some 11), .nilc (.t 4), none⟩,
   ⟨(some 12), .faddr 73 (.t 11), none⟩,
   ⟨none, .store 1 (.t 12) (.t 10), none⟩] [0, 1])
 (.seq (.ops [
   ⟨(some 13), .mv (.t 0), none⟩,
   ⟨(some 14), .mv (.t 0), none⟩,
   ⟨(some 15), .nilc (.t 14), none⟩,
   ⟨(some 16), .faddr 72 (.t 15), none⟩,
   ⟨(some 17), .load none (.t 16), none⟩,
   ⟨(some 18), .mv (.t 1), none⟩,
   ⟨(some 19), .append 1 1 (.t 17) (.t 18), none⟩,
   ⟨(some 20), .nilc (.t 13), none⟩,
   ⟨(some 21), .faddr 72 (.t 20), none⟩,
   ⟨none, .store 1 (.t 21) (.t 19), none⟩] [0])
 (.block 0
  (.loop
   (.seq (.seq (.ops [
     ⟨(some 22), .mv (.t 0), none⟩,
     ⟨(some 23), .nilc (.t 22), none⟩,
     ⟨(some 24), .faddr 72 (.t 23), none⟩,
     ⟨(some 25), .load none (.t 24), none⟩,
     ⟨(some 26), .lenS (.t 25), none⟩,
     ⟨(some 27), .bin .geq (.t 26) (.c (.int .i64 64)), none⟩] [0, 27])
   (.cond (.t 27)
    .skip
    (.exit 0)))
   (.block 1
    (.seq (.dops [
      ⟨1, (some 29), .mv (.t 0), none, 0⟩,
      ⟨2, (some 30), .nilc (.t 29), none, 0⟩,
      ⟨3, (some 31), .faddr 0 (.t 30), none, 0⟩,
      ⟨4, (some 32), .load (some 8) (.t 31), none, 0⟩,
      ⟨5, (some 33), .mv (.t 0), none, 0⟩,
      ⟨6, (some 34), .nilc (.t 33), none, 0⟩,
      ⟨7, (some 35), .faddr 72 (.t 34), none, 0⟩,
      ⟨8, (some 36), .load none (.t 35), none, 0⟩,
      ⟨9, (some 37), .slSl 1 (.t 36) none (some (.c (.int .i64 64))) none, none, 0⟩,
      ⟨10, (some 38), .mv (.t 0), none, 0⟩,
      ⟨11, (some 39), .nilc (.t 38), none, 0⟩,
      ⟨12, (some 40), .faddr 8 (.t 39), none, 0⟩,
      ⟨13, (some 41), .call 86 [.t 32, .t 37, .t 40], none, 0⟩,
      ⟨0, (some 28), .mv (.t 0), none, 1⟩,
      ⟨14, (some 42), .nilc (.t 28), none, 0⟩,
      ⟨15, (some 43), .faddr 0 (.t 42), none, 0⟩,
      ⟨16, none, .store 8 (.t 43) (.t 41), none, 0⟩] [0])
    (.ops [
      ⟨(some 44), .mv (.t 0), none⟩,
      ⟨(some 45), .mv (.t 0), none⟩,
      ⟨(some 46), .nilc (.t 45), none⟩,
      ⟨(some 47), .faddr 72 (.t 46), none⟩,
      ⟨(some 48), .load none (.t 47), none⟩,
      ⟨(some 49), .slSl 1 (.t 48) (some (.c (.int .i64 64))) none none, none⟩,
      ⟨(some 50), .nilc (.t 44), none⟩,
      ⟨(some 51), .faddr 72 (.t 50), none⟩,
      ⟨none, .store 1 (.t 51) (.t 49), none⟩] [0]))))))))⟩

def h_sha_Sum_Word : Hint := [(0, [0, 2], []), (1, [0, 2, 3], [(0, 0), (1, 0), (2, 0), (3, 0), (4, 0), (5, 0), (6, 0), (7, 0), (8, 0), (9, 0), (10, 0)]), (2, [0, 2, 3], []), (3, [2, 3], []), (4, [2, 3, 4], []), (5, [2, 4, 33, 34], []), (6, [2, 4, 33, 34, 35], []), (7, [2, 4, 5, 6, 33, 34], []), (8, [2, 4, 33, 34], [(3, 0), (4, 0), (5, 0), (0, 1), (1, 1), (2, 1), (6, 0)]), (9, [2, 4, 33, 34], []), (10, [2], [])]
def ir_sha_Sum_Word : AFunc := ⟨1, 47, [.cell 2 (some 32)],
 (.seq (.ops [
   ⟨(some 2), .alloc (List.replicate 32 (.int .u8 0)), none⟩] [0, 2])
 (.seq (.dops [
   ⟨0, (some 7), .mv (.t 0), none, 0⟩,
   ⟨1, (some 8), .nilc (.t 7), none, 0⟩,
   ⟨2, (some 9), .faddr 0 (.t 8), none, 0⟩,
   ⟨3, (some 10), .load (some 8) (.t 9), none, 0⟩,
   ⟨4, (some 11), .mv (.t 0), none, 0⟩,
   ⟨5, (some 12), .nilc (.t 11), none, 0⟩,
   ⟨6, (some 13), .faddr 8 (.t 12), none, 0⟩,
   ⟨7, (some 14), .load (some 64) (.t 13), none, 0⟩,
   ⟨8, (some 15), .build ((List.replicate 72 (.int .u32 0) ++ [.slice none 0 0, .int .i64 0])) [(0, 8, .t 10), (8, 64, .t 14)], none, 0⟩,
   ⟨9, (some 16), .box (.t 15), none, 0⟩,
   ⟨10, (some 3), .mv (.t 16), none, 0⟩] [0, 2, 3])
 (.seq (.ops [
   ⟨(some 17), .mv (.t 3), none⟩,
   ⟨(some 18), .mv (.t 0), none⟩,
   ⟨(some 19), .nilc (.t 18), none⟩,
   ⟨(some 20), .faddr 72 (.t 19), none⟩,
   ⟨(some 21), .load none (.t 20), none⟩,
   ⟨(some 22), .call 77 [.t 17, .t 21], none⟩] [0, 2, 3])
 (.seq (.ops [
   ⟨(some 23), .mv (.t 3), none⟩,
   ⟨(some 24), .mv (.t 0), none⟩,
   ⟨(some 25), .nilc (.t 24), none⟩,
   ⟨(some 26), .faddr 73 (.t 25), none⟩,
   ⟨(some 27), .load none (.t 26), none⟩,
   ⟨(some 28), .call 87 [.t 27, .c (.int .i64 64), .c (.int .i64 8)], none⟩,
   ⟨(some 29), .call 77 [.t 23, .t 28], none⟩] [2, 3])
 (.seq (.ops [
   ⟨(some 4), .alloc (List.replicate 32 (.int .u8 0)), none⟩] [2, 3, 4])
 (.seq (.seq (.ops [
   ⟨(some 30), .mv (.t 3), none⟩,
   ⟨(some 31), .nilc (.t 30), none⟩,
   ⟨(some 32), .faddr 0 (.t 31), none⟩,
   ⟨(some 33), .load (some 8) (.t 32), none⟩,
   ⟨(some 34), .mv (.c (.int .i64 0)), none⟩] [2, 4, 33, 34])
 (.block 0
  (.loop
   (.seq (.ops [
     ⟨(some 35), .bin .lss (.t 34) (.c (.int .i64 8)), none⟩] [2, 4, 33, 34, 35])
   (.seq (.cond (.t 35)
    .skip
    (.exit 0))
   (.seq (.block 1
    (.seq (.ops [
      ⟨(some 36), .mv (.t 34), none⟩,
      ⟨(some 37), .idxA 8 1 none (.t 33) (.t 34), none⟩,
      ⟨(some 5), .mv (.t 36), none⟩,
      ⟨(some 6), .mv (.t 37), none⟩] [2, 4, 5, 6, 33, 34])
    (.dops [
      ⟨3, (some 41), .mv (.t 6), none, 0⟩,
      ⟨4, (some 42), .conv .u64 (.t 41), none, 0⟩,
      ⟨5, (some 43), .call 61 [.c (.slice none 0 0), .t 42, .c (.int .i64 4)], none, 0⟩,
      ⟨0, (some 38), .mv (.t 5), none, 1⟩,
      ⟨1, (some 39), .bin .mul (.c (.int .i64 4)) (.t 38), none, 1⟩,
      ⟨2, (some 40), .slArr 32 1 (.t 4) (some (.t 39)) none none, none, 1⟩,
      ⟨6, (some 44), .copy 1 (.t 40) (.t 43), none, 0⟩] [2, 4, 33, 34])))
   (.ops [
     ⟨(some 45), .bin .add (.t 34) (.c (.int .i64 1)), none⟩,
     ⟨(some 34), .mv (.t 45), none⟩] [2, 4, 33, 34])))))))
 (.seq (.ops [
   ⟨(some 46), .load (some 32) (.t 4), none⟩,
   ⟨none, .store 32 (.t 2) (.t 46), none⟩] [2])
 .ret)))))))⟩

def h_sha_start : Hint := [(0, [0], []), (1, [0], [])]
def ir_sha_start : AFunc := ⟨0, 2, [.cell 0 (some 8)],
 (.seq (.ops [
   ⟨(some 0), .alloc (List.replicate 8 (.int .u32 0)), none⟩] [0])
 (.seq (.ops [
   ⟨(some 1), .build (List.replicate 8 (.int .u32 0)) [(0, 1, .c (.int .u32 1779033703)), (1, 1, .c (.int .u32 3144134277)), (2, 1, .c (.int .u32 1013904242)), (3, 1, .c (.int .u32 2773480762)), (4, 1, .c (.int .u32 1359893119)), (5, 1, .c (.int .u32 2600822924)), (6, 1, .c (.int .u32 528734635)), (7, 1, .c (.int .u32 1541459225))], none⟩,
   ⟨none, .store 8 (.t 0) (.t 1), none⟩] [0])
 .ret))⟩

def h_sha_constants : Hint := [(0, [0], []), (1, [0], [])]
def ir_sha_constants_1 : ACode := (.seq (.ops [
   ⟨(some 1), .build (List.replicate 64 (.int .u32 0)) [(0, 1, .c (.int .u32 1116352408)), (1, 1, .c (.int .u32 1899447441)), (2, 1, .c (.int .u32 3049323471)), (3, 1, .c (.int .u32 3921009573)), (4, 1, .c (.int .u32 961987163)), (5, 1, .c (.int .u32 1508970993)), (6, 1, .c (.int .u32 2453635748)), (7, 1, .c (.int .u32 2870763221)), (8, 1, .c (.int .u32 3624381080)), (9, 1, .c (.int .u32 310598401)), (10, 1, .c (.int .u32 607225278)), (11, 1, .c (.int .u32 1426881987)), (12, 1, .c (.int .u32 1925078388)), (13, 1, .c (.int .u32 2162078206)), (14, 1, .c (.int .u32 2614888103)), (15, 1, .c (.int .u32 3248222580)), (16, 1, .c (.int .u32 3835390401)), (17, 1, .c (.int .u32 4022224774)), (18, 1, .c (.int .u32 264347078)), (19, 1, .c (.int .u32 604807628)), (20, 1, .c (.int .u32 770255983)), (21, 1, .c (.int .u32 1249150122)), (22, 1, .c (.int .u32 1555081692)), (23, 1, .c (.int .u32 1996064986)), (24, 1, .c (.int .u32 2554220882)), (25, 1, .c (.int .u32 2821834349)), (26, 1, .c (.int .u32 2952996808)), (27, 1, .c (.int .u32 3210313671)), (28, 1, .c (.int .u32 3336571891)), (29, 1, .c (.int .u32 3584528711)), (30, 1, .c (.int .u32 113926993)), (31, 1, .c (.int .u32 338241895)), (32, 1, .c (.int .u32 666307205)), (33, 1, .c (.int .u32 773529912)), (34, 1, .c (.int .u32 1294757372)), (35, 1, .c (.int .u32 1396182291)), (36, 1, .c (.int .u32 1695183700)), (37, 1, .c (.int .u32 1986661051)), (38, 1, .c (.int .u32 2177026350)), (39, 1, .c (.int .u32 2456956037)), (40, 1, .c (.int .u32 2730485921)), (41, 1, .c (.int .u32 2820302411)), (42, 1, .c (.int .u32 3259730800)), (43, 1, .c (.int .u32 3345764771)), (44, 1, .c (.int .u32 3516065817)), (45, 1, .c (.int .u32 3600352804)), (46, 1, .c (.int .u32 4094571909)), (47, 1, .c (.int .u32 275423344)), (48, 1, .c (.int .u32 430227734)), (49, 1, .c (.int .u32 506948616)), (50, 1, .c (.int .u32 659060556)), (51, 1, .c (.int .u32 883997877)), (52, 1, .c (.int .u32 958139571)), (53, 1, .c (.int .u32 1322822218)), (54, 1, .c (.int .u32 1537002063)), (55, 1, .c (.int .u32 1747873779)), (56, 1, .c (.int .u32 1955562222)), (57, 1, .c (.int .u32 2024104815)), (58, 1, .c (.int .u32 2227730452)), (59, 1, .c (.int .u32 2361852424)), (60, 1, .c (.int .u32 2428436474)), (61, 1, .c (.int .u32 2756734187)), (62, 1, .c (.int .u32 3204031479)), (63, 1, .c (.int .u32 3329325298))], none⟩,
   ⟨none, .store 64 (.t 0) (.t 1), none⟩] [0])
 .ret)
def ir_sha_constants : AFunc := ⟨0, 2, [.cell 0 (some 64)],
 (.seq (.ops [
   ⟨(some 0), .alloc (List.replicate 64 (.int .u32 0)), none⟩] [0])
 ir_sha_constants_1)⟩

def h_sha_mix : Hint := [(0, [1, 2, 3, 6], []), (1, [2, 3, 6, 7], []), (2, [2, 3, 6, 7, 8], []), (3, [2, 3, 6, 7, 8, 21], []), (4, [2, 3, 6, 7, 8, 21, 22], []), (5, [2, 3, 6, 7, 8, 9, 21], []), (6, [2, 3, 6, 7, 8, 9, 10, 11, 21], [(0, 0), (1, 0), (2, 0), (3, 0), (4, 0), (5, 0)]), (7, [2, 3, 6, 7, 8, 9, 10, 11, 12, 21], []), (8, [2, 3, 6, 7, 8, 9, 11, 12, 13, 21], []), (9, [2, 3, 6, 7, 8, 11, 14, 21], [(0, 0), (1, 0), (2, 0), (3, 0), (4, 0), (5, 0), (6, 0), (7, 0), (8, 0), (9, 0), (10, 0), (11, 0), (12, 0), (13, 0), (14, 0), (15, 0), (16, 0)]), (10, [2, 3, 6, 7, 8, 11, 14, 15, 21], []), (11, [2, 3, 6, 7, 8, 14, 15, 16, 21], []), (12, [2, 3, 6, 7, 8, 21], []), (13, [2, 3, 6, 7, 8, 21], []), (14, [3, 6, 8, 108], []), (15, [3, 6, 8, 108, 109], []), (16, [3, 6, 8, 17, 108], []), (17, [3, 6, 8, 108], [(0, 0), (1, 0), (2, 0), (3, 0), (4, 0), (5, 0), (6, 0), (7, 0), (8, 0)]), (18, [3, 6, 8, 108], []), (19, [6], [])]
def ir_sha_mix : AFunc := ⟨3, 121, [.cell 6 (some 8)],
 (.seq (.ops [
   ⟨(some 3), .box (.t 0), none⟩,
   ⟨(some 6), .alloc (List.replicate 8 (.int .u32 0)), none⟩] [1, 2, 3, 6])
 (.seq (.ops [
   ⟨(some 18), .mv (.t 1), none⟩,
   ⟨(some 19), .call 91 [.t 18], none⟩,
   ⟨(some 7), .alloc (List.replicate 64 (.int .u32 0)), none⟩,
   ⟨none, .store 64 (.t 7) (.t 19), none⟩] [2, 3, 6, 7])
 (.seq (.ops [
   ⟨(some 20), .load (some 8) (.t 3), none⟩,
   ⟨(some 8), .alloc (List.replicate 8 (.int .u32 0)), none⟩,
   ⟨none, .store 8 (.t 8) (.t 20), none⟩] [2, 3, 6, 7, 8])
 (.seq (.seq (.ops [
   ⟨(some 21), .mv (.c (.int .i64 0)), none⟩] [2, 3, 6, 7, 8, 21])
 (.block 0
  (.loop
   (.seq (.ops [
     ⟨(some 22), .bin .lss (.t 21) (.c (.int .i64 64)), none⟩] [2, 3, 6, 7, 8, 21, 22])
   (.seq (.cond (.t 22)
    .skip
    (.exit 0))
   (.seq (.block 1
    (.seq (.ops [
      ⟨(some 23), .mv (.t 21), none⟩,
      ⟨(some 9), .mv (.t 23), none⟩] [2, 3, 6, 7, 8, 9, 21])
    (.seq (.dops [
      ⟨0, (some 24), .iaddrA 8 1 (.t 8) (.c (.int .i64 4)), none, 0⟩,
      ⟨1, (some 25), .load none (.t 24), none, 0⟩,
      ⟨2, (some 26), .iaddrA 8 1 (.t 8) (.c (.int .i64 0)), none, 0⟩,
      ⟨3, (some 27), .load none (.t 26), none, 0⟩,
      ⟨4, (some 10), .mv (.t 25), none, 0⟩,
      ⟨5, (some 11), .mv (.t 27), none, 0⟩] [2, 3, 6, 7, 8, 9, 10, 11, 21])
    (.seq (.ops [
      ⟨(some 28), .mv (.t 10), none⟩,
      ⟨(some 29), .call 92 [.t 28, .c (.int .i64 6)], none⟩,
      ⟨(some 30), .mv (.t 10), none⟩,
      ⟨(some 31), .call 92 [.t 30, .c (.int .i64 11)], none⟩,
      ⟨(some 32), .bin .xor (.t 29) (.t 31), none⟩,
      ⟨(some 33), .mv (.t 10), none⟩,
      ⟨(some 34), .call 92 [.t 33, .c (.int .i64 25)], none⟩,
      ⟨(some 35), .bin .xor (.t 32) (.t 34), none⟩,
      ⟨(some 12), .mv (.t 35), none⟩] [2, 3, 6, 7, 8, 9, 10, 11, 12, 21])
    (.seq (.ops [
      ⟨(some 36), .mv (.t 10), none⟩,
      ⟨(some 37), .iaddrA 8 1 (.t 8) (.c (.int .i64 5)), none⟩,
      ⟨(some 38), .load none (.t 37), none⟩,
      ⟨(some 39), .bin .and (.t 36) (.t 38), none⟩,
      ⟨(some 40), .mv (.t 10), none⟩,
      ⟨(some 41), .un .xor (.t 40), none⟩,
      ⟨(some 42), .iaddrA 8 1 (.t 8) (.c (.int .i64 6)), none⟩,
      ⟨(some 43), .load none (.t 42), none⟩,
      ⟨(some 44), .bin .and (.t 41) (.t 43), none⟩,
      ⟨(some 45), .bin .xor (.t 39) (.t 44), none⟩,
      ⟨(some 13), .mv (.t 45), none⟩] [2, 3, 6, 7, 8, 9, 11, 12, 13, 21])
    (.seq (.dops [
      ⟨0, (some 46), .iaddrA 8 1 (.t 8) (.c (.int .i64 7)), none, 0⟩,
      ⟨1, (some 47), .load none (.t 46), none, 0⟩,
      ⟨2, (some 48), .mv (.t 12), none, 0⟩,
      ⟨3, (some 49), .bin .add (.t 47) (.t 48), none, 0⟩,
      ⟨4, (some 50), .mv (.t 13), none, 0⟩,
      ⟨5, (some 51), .bin .add (.t 49) (.t 50), none, 0⟩,
      ⟨6, (some 52), .mv (.t 2), none, 0⟩,
      ⟨7, (some 53), .mv (.t 9), none, 0⟩,
      ⟨8, (some 54), .nilc (.t 52), none, 0⟩,
      ⟨9, (some 55), .iaddrA 64 1 (.t 54) (.t 53), none, 0⟩,
      ⟨10, (some 56), .load none (.t 55), none, 0⟩,
      ⟨11, (some 57), .bin .add (.t 51) (.t 56), none, 0⟩,
      ⟨12, (some 58), .mv (.t 9), none, 0⟩,
      ⟨13, (some 59), .iaddrA 64 1 (.t 7) (.t 58), none, 0⟩,
      ⟨14, (some 60), .load none (.t 59), none, 0⟩,
      ⟨15, (some 61), .bin .add (.t 57) (.t 60), none, 0⟩,
      ⟨16, (some 14), .mv (.t 61), none, 0⟩] [2, 3, 6, 7, 8, 11, 14, 21])
    (.seq (.ops [
      ⟨(some 62), .mv (.t 11), none⟩,
      ⟨(some 63), .call 92 [.t 62, .c (.int .i64 2)], none⟩,
      ⟨(some 64), .mv (.t 11), none⟩,
      ⟨(some 65), .call 92 [.t 64, .c (.int .i64 13)], none⟩,
      ⟨(some 66), .bin .xor (.t 63) (.t 65), none⟩,
      ⟨(some 67), .mv (.t 11), none⟩,
      ⟨(some 68), .call 92 [.t 67, .c (.int .i64 22)], none⟩,
      ⟨(some 69), .bin .xor (.t 66) (.t 68), none⟩,
      ⟨(some 15), .mv (.t 69), none⟩] [2, 3, 6, 7, 8, 11, 14, 15, 21])
    (.seq (.ops [
      ⟨(some 70), .mv (.t 11), none⟩,
      ⟨(some 71), .iaddrA 8 1 (.t 8) (.c (.int .i64 1)), none⟩,
      ⟨(some 72), .load none (.t 71), none⟩,
      ⟨(some 73), .bin .and (.t 70) (.t 72), none⟩,
      ⟨(some 74), .mv (.t 11), none⟩,
      ⟨(some 75), .iaddrA 8 1 (.t 8) (.c (.int .i64 2)), none⟩,
      ⟨(some 76), .load none (.t 75), none⟩,
      ⟨(some 77), .bin .and (.t 74) (.t 76), none⟩,
      ⟨(some 78), .bin .xor (.t 73) (.t 77), none⟩,
      ⟨(some 79), .iaddrA 8 1 (.t 8) (.c (.int .i64 1)), none⟩,
      ⟨(some 80), .load none (.t 79), none⟩,
      ⟨(some 81), .iaddrA 8 1 (.t 8) (.c (.int .i64 2)), none⟩,
      ⟨(some 82), .load none (.t 81), none⟩,
      ⟨(some 83), .bin .and (.t 80) (.t 82), none⟩,
      ⟨(some 84), .bin .xor (.t 78) (.t 83), none⟩,
      ⟨(some 16), .mv (.t 84), none⟩] [2, 3, 6, 7, 8, 14, 15, 16, 21])
    (.ops [
      ⟨(some 85), .mv (.t 14), none⟩,
      ⟨(some 86), .mv (.t 15), none⟩,
      ⟨(some 87), .bin .add (.t 85) (.t 86), none⟩,
      ⟨(some 88), .mv (.t 16), none⟩,
      ⟨(some 89), .bin .add (.t 87) (.t 88), none⟩,
      ⟨(some 90), .iaddrA 8 1 (.t 8) (.c (.int .i64 0)), none⟩,
      ⟨(some 91), .load none (.t 90), none⟩,
      ⟨(some 92), .iaddrA 8 1 (.t 8) (.c (.int .i64 1)), none⟩,
      ⟨(some 93), .load none (.t 92), none⟩,
      ⟨(some 94), .iaddrA 8 1 (.t 8) (.c (.int .i64 2)), none⟩,
      ⟨(some 95), .load none (.t 94), none⟩,
      ⟨(some 96), .iaddrA 8 1 (.t 8) (.c (.int .i64 3)), none⟩,
      ⟨(some 97), .load none (.t 96), none⟩,
      ⟨(some 98), .mv (.t 14), none⟩,
      ⟨(some 99), .bin .add (.t 97) (.t 98), none⟩,
      ⟨(some 100), .iaddrA 8 1 (.t 8) (.c (.int .i64 4)), none⟩,
      ⟨(some 101), .load none (.t 100), none⟩,
      ⟨(some 102), .iaddrA 8 1 (.t 8) (.c (.int .i64 5)), none⟩,
      ⟨(some 103), .load none (.t 102), none⟩,
      ⟨(some 104), .iaddrA 8 1 (.t 8) (.c (.int .i64 6)), none⟩,
      ⟨(some 105), .load none (.t 104), none⟩,
      ⟨(some 106), .build (List.replicate 8 (.int .u32 0)) [(0, 1, .t 89), (1, 1, .t 91), (2, 1, .t 93), (3, 1, .t 95), (4, 1, .t 99), (5, 1, .t 101), (6, 1, .t 103), (7, 1, .t 105)], none⟩,
      ⟨none, .store 8 (.t 8) (.t 106), none⟩] [2, 3, 6, 7, 8, 21])))))))))
   (.ops [
     ⟨(some 107), .bin .add (.t 21) (.c (.int .i64 1)), none⟩,
     ⟨(some 21), .mv (.t 107), none⟩] [2, 3, 6, 7, 8, 21])))))))
 (.seq (.seq (.ops [
   ⟨(some 108), .mv (.c (.int .i64 0)), none⟩] [3, 6, 8, 108])
 (.block 2
  (.loop
   (.seq (.ops [
     ⟨(some 109), .bin .lss (.t 108) (.c (.int .i64 8)), none⟩] [3, 6, 8, 108, 109])
   (.seq (.cond (.t 109)
    .skip
    (.exit 2))
   (.seq (.block 3
    (.seq (.ops [
      ⟨(some 110), .mv (.t 108), none⟩,
      ⟨(some 17), .mv (.t 110), none⟩] [3, 6, 8, 17, 108])
    (.dops [
      ⟨0, (some 111), .mv (.t 17), none, 0⟩,
      ⟨1, (some 112), .iaddrA 8 1 (.t 3) (.t 111), none, 0⟩,
      ⟨2, (some 113), .load none (.t 112), none, 0⟩,
      ⟨3, (some 114), .mv (.t 17), none, 0⟩,
      ⟨4, (some 115), .iaddrA 8 1 (.t 8) (.t 114), none, 0⟩,
      ⟨5, (some 116), .load none (.t 115), none, 0⟩,
      ⟨6, (some 117), .bin .add (.t 113) (.t 116), none, 0⟩,
      ⟨7, (some 118), .iaddrA 8 1 (.t 3) (.t 111), none, 0⟩,
      ⟨8, none, .store 1 (.t 118) (.t 117), none, 0⟩] [3, 6, 8, 108])))
   (.ops [
     ⟨(some 119), .bin .add (.t 108) (.c (.int .i64 1)), none⟩,
     ⟨(some 108), .mv (.t 119), none⟩] [3, 6, 8, 108])))))))
 (.seq (.ops [
   ⟨(some 120), .load (some 8) (.t 3), none⟩,
   ⟨none, .store 8 (.t 6) (.t 120), none⟩] [6])
 .ret))))))⟩

def h_sha_padding : Hint := [(0, [0, 1, 2], []), (1, [0, 1, 2, 7], []), (2, [0, 1, 2, 7, 19], []), (3, [0, 1, 2, 7], []), (4, [0, 7, 24, 25], []), (5, [0, 7, 24, 25, 26], []), (6, [0, 7, 24, 25], []), (7, [0, 7, 24, 25], []), (8, [6], [])]
def ir_sha_padding : AFunc := ⟨3, 36, [.tmp 6],
 (.seq (.ops [
   ⟨(some 6), .mv (.c (.slice none 0 0)), none⟩] [0, 1, 2])
 (.seq (.ops [
   ⟨(some 8), .bslice 1 1 ([.int .u8 0]) [(0, 1, .c (.int .u8 128))], none⟩,
   ⟨(some 7), .mv (.t 8), none⟩] [0, 1, 2, 7])
 (.seq (.block 0
  (.loop
   (.seq (.seq (.ops [
     ⟨(some 9), .mv (.t 0), none⟩,
     ⟨(some 10), .mv (.t 1), none⟩,
     ⟨(some 11), .bin .rem (.t 9) (.t 10), none⟩,
     ⟨(some 12), .mv (.t 7), none⟩,
     ⟨(some 13), .lenS (.t 12), none⟩,
     ⟨(some 14), .bin .add (.t 11) (.t 13), none⟩,
     ⟨(some 15), .mv (.t 2), none⟩,
     ⟨(some 16), .bin .add (.t 14) (.t 15), none⟩,
     ⟨(some 17), .mv (.t 1), none⟩,
     ⟨(some 18), .bin .rem (.t 16) (.t 17), none⟩,
     ⟨(some 19), .bin .neq (.t 18) (.c (.int .i64 0)), none⟩] [0, 1, 2, 7, 19])
   (.cond (.t 19)
    .skip
    (.exit 0)))
   (.block 1
    (.ops [
      ⟨(some 20), .mv (.t 7), none⟩,
      ⟨(some 21), .bslice 1 1 ([.int .u8 0]) [(0, 1, .c (.int .u8 0))], none⟩,
      ⟨(some 22), .append 1 1 (.t 20) (.t 21), none⟩,
      ⟨(some 7), .mv (.t 22), none⟩] [0, 1, 2, 7])))))
 (.seq (.seq (.ops [
   ⟨(some 23), .mv (.t 2), none⟩,
   ⟨(some 24), .bin .sub (.t 23) (.c (.int .i64 8)), none⟩,
   ⟨(some 25), .mv (.c (.int .i64 0)), none⟩] [0, 7, 24, 25])
 (.block 2
  (.loop
   (.seq (.ops [
     ⟨(some 26), .bin .lss (.t 25) (.t 24), none⟩] [0, 7, 24, 25, 26])
   (.seq (.cond (.t 26)
    .skip
    (.exit 2))
   (.seq (.block 3
    (.ops [
      ⟨(some 27), .mv (.t 7), none⟩,
      ⟨(some 28), .bslice 1 1 ([.int .u8 0]) [(0, 1, .c (.int .u8 0))], none⟩,
      ⟨(some 29), .append 1 1 (.t 27) (.t 28), none⟩,
      ⟨(some 7), .mv (.t 29), none⟩] [0, 7, 24, 25]))
   (.ops [
     ⟨(some 30), .bin .add (.t 25) (.c (.int .i64 1)), none⟩,
     ⟨(some 25), .mv (.t 30), none⟩] [0, 7, 24, 25])))))))
 (.seq (.ops [
   ⟨(some 31), .mv (.t 7), none⟩,
   ⟨(some 32), .mv (.t 0), none⟩,
   ⟨(some 33), .conv .u64 (.t 32), none⟩,
   ⟨(some 34), .bin .mul (.t 33) (.c (.int .u64 8)), none⟩,
   ⟨(some 35), .call 61 [.t 31, .t 34, .c (.int .i64 8)], none⟩,
   ⟨(some 6), .mv (.t 35), none⟩] [6])
 .ret)))))⟩

def h_octet_FromBig : Hint := [(0, [0], []), (1, [0, 9], []), (2, [2, 3], []), (3, [0, 4], []), (4, [4, 10, 11, 12], []), (5, [4, 10, 11, 12, 13], []), (6, [4, 6, 10, 11, 12], []), (7, [4, 10, 11, 12], []), (8, [4, 10, 11, 12], []), (9, [2, 3], [])]
def ir_octet_FromBig : AFunc := ⟨1, 23, [.tmp 2, .tmp 3],
 (.seq (.ops [
   ⟨(some 2), .mv (.c (.int .u64 0)), none⟩,
   ⟨(some 3), .mv (.c (.int .i64 0)), none⟩] [0])
 (.seq (.seq (.ops [
   ⟨(some 7), .mv (.t 0), none⟩,
   ⟨(some 8), .lenS (.t 7), none⟩,
   ⟨(some 9), .bin .gtr (.t 8) (.c (.int .i64 8)), none⟩] [0, 9])
 (.cond (.t 9)
  (.seq (.ops [
    ⟨(some 2), .mv (.c (.int .u64 0)), none⟩,
    ⟨(some 3), .mv (.c (.int .i64 1)), none⟩] [2, 3])
  .ret)
  .skip))
 (.seq (.ops [
   ⟨(some 4), .mv (.c (.int .u64 0)), none⟩] [0, 4])
 (.seq (.seq (.ops [
   ⟨(some 10), .mv (.t 0), none⟩,
   ⟨(some 11), .lenS (.t 10), none⟩,
   ⟨(some 12), .mv (.c (.int .i64 0)), none⟩] [4, 10, 11, 12])
 (.block 0
  (.loop
   (.seq (.ops [
     ⟨(some 13), .bin .lss (.t 12) (.t 11), none⟩] [4, 10, 11, 12, 13])
   (.seq (.cond (.t 13)
    .skip
    (.exit 0))
   (.seq (.block 1
    (.seq (.ops [
      ⟨(some 14), .iaddrS 1 (.t 10) (.t 12), none⟩,
      ⟨(some 15), .load none (.t 14), none⟩,
      ⟨(some 6), .mv (.t 15), none⟩] [4, 6, 10, 11, 12])
    (.ops [
      ⟨(some 16), .mv (.t 4), none⟩,
      ⟨(some 17), .bin .shl (.t 16) (.c (.int .u64 8)), none⟩,
      ⟨(some 18), .mv (.t 6), none⟩,
      ⟨(some 19), .conv .u64 (.t 18), none⟩,
      ⟨(some 20), .bin .or (.t 17) (.t 19), none⟩,
      ⟨(some 4), .mv (.t 20), none⟩] [4, 10, 11, 12])))
   (.ops [
     ⟨(some 21), .bin .add (.t 12) (.c (.int .i64 1)), none⟩,
     ⟨(some 12), .mv (.t 21), none⟩] [4, 10, 11, 12])))))))
 (.seq (.ops [
   ⟨(some 22), .mv (.t 4), none⟩,
   ⟨(some 2), .mv (.t 22), none⟩,
   ⟨(some 3), .mv (.c (.int .i64 0)), none⟩] [2, 3])
 .ret)))))⟩

def h_sha_schedule : Hint := [(0, [0, 2], []), (1, [0, 2, 3], []), (2, [0, 2, 3, 11], []), (3, [0, 2, 3, 11, 12], []), (4, [0, 2, 3, 4, 11], []), (5, [0, 2, 3, 4, 11, 15], []), (6, [0, 2, 3, 4, 5, 11], []), (7, [0, 2, 3, 11], []), (8, [0, 2, 3, 4, 7, 8, 11], [(0, 0), (1, 0), (2, 0), (3, 0), (4, 0), (5, 0), (6, 0), (7, 0), (8, 0), (9, 0)]), (9, [0, 2, 3, 4, 8, 9, 11], []), (10, [0, 2, 3, 4, 9, 10, 11], []), (11, [0, 2, 3, 11], [(0, 0), (1, 0), (2, 0), (3, 0), (4, 0), (5, 0), (6, 0), (7, 0), (8, 0), (9, 0), (10, 0), (11, 0), (12, 0), (13, 0), (14, 0), (15, 0)]), (12, [0, 2, 3, 11], []), (13, [2], [])]
def ir_sha_schedule : AFunc := ⟨1, 72, [.cell 2 (some 64)],
 (.seq (.ops [
   ⟨(some 2), .alloc (List.replicate 64 (.int .u32 0)), none⟩] [0, 2])
 (.seq (.ops [
   ⟨(some 3), .alloc (List.replicate 64 (.int .u32 0)), none⟩] [0, 2, 3])
 (.seq (.seq (.ops [
   ⟨(some 11), .mv (.c (.int .i64 0)), none⟩] [0, 2, 3, 11])
 (.block 0
  (.loop
   (.seq (.ops [
     ⟨(some 12), .bin .lss (.t 11) (.c (.int .i64 64)), none⟩] [0, 2, 3, 11, 12])
   (.seq (.cond (.t 12)
    .skip
    (.exit 0))
   (.seq (.block 1
    (.seq (.ops [
      ⟨(some 13), .mv (.t 11), none⟩,
      ⟨(some 4), .mv (.t 13), none⟩] [0, 2, 3, 4, 11])
    (.seq (.seq (.ops [
      ⟨(some 14), .mv (.t 4), none⟩,
      ⟨(some 15), .bin .lss (.t 14) (.c (.int .i64 16)), none⟩] [0, 2, 3, 4, 11, 15])
    (.cond (.t 15)
     (.seq (.ops [
       ⟨(some 17), .mv (.t 0), none⟩,
       ⟨(some 18), .mv (.t 4), none⟩,
       ⟨(some 19), .bin .mul (.c (.int .i64 4)) (.t 18), none⟩,
       ⟨(some 20), .mv (.t 4), none⟩,
       ⟨(some 21), .bin .mul (.c (.int .i64 4)) (.t 20), none⟩,
       ⟨(some 22), .bin .add (.t 21) (.c (.int .i64 4)), none⟩,
       ⟨(some 23), .slSl 1 (.t 17) (some (.t 19)) (some (.t 22)) none, none⟩,
       ⟨(some 24), .call 88 [.t 23], none⟩,
       ⟨(some 16), .mv (.t 24), none⟩,
       ⟨(some 25), .ext (.t 16) 0, none⟩,
       ⟨(some 26), .ext (.t 16) 1, none⟩,
       ⟨(some 5), .mv (.t 25), none⟩,
       ⟨(some 6), .mv (.t 26), none⟩] [0, 2, 3, 4, 5, 11])
     (.seq (.ops [
       ⟨(some 27), .mv (.t 4), none⟩,
       ⟨(some 28), .mv (.t 5), none⟩,
       ⟨(some 29), .conv .u32 (.t 28), none⟩,
       ⟨(some 30), .iaddrA 64 1 (.t 3) (.t 27), none⟩,
       ⟨none, .store 1 (.t 30) (.t 29), none⟩] [0, 2, 3, 11])
     (.exit 1)))
     .skip))
    (.seq (.dops [
      ⟨0, (some 31), .mv (.t 4), none, 0⟩,
      ⟨1, (some 32), .bin .sub (.t 31) (.c (.int .i64 15)), none, 0⟩,
      ⟨2, (some 33), .iaddrA 64 1 (.t 3) (.t 32), none, 0⟩,
      ⟨3, (some 34), .load none (.t 33), none, 0⟩,
      ⟨4, (some 35), .mv (.t 4), none, 0⟩,
      ⟨5, (some 36), .bin .sub (.t 35) (.c (.int .i64 2)), none, 0⟩,
      ⟨6, (some 37), .iaddrA 64 1 (.t 3) (.t 36), none, 0⟩,
      ⟨7, (some 38), .load none (.t 37), none, 0⟩,
      ⟨8, (some 7), .mv (.t 34), none, 0⟩,
      ⟨9, (some 8), .mv (.t 38), none, 0⟩] [0, 2, 3, 4, 7, 8, 11])
    (.seq (.ops [
      ⟨(some 39), .mv (.t 7), none⟩,
      ⟨(some 40), .call 92 [.t 39, .c (.int .i64 7)], none⟩,
      ⟨(some 41), .mv (.t 7), none⟩,
      ⟨(some 42), .call 92 [.t 41, .c (.int .i64 18)], none⟩,
      ⟨(some 43), .bin .xor (.t 40) (.t 42), none⟩,
      ⟨(some 44), .mv (.t 7), none⟩,
      ⟨(some 45), .bin .shr (.t 44) (.c (.int .u64 3)), none⟩,
      ⟨(some 46), .bin .xor (.t 43) (.t 45), none⟩,
      ⟨(some 9), .mv (.t 46), none⟩] [0, 2, 3, 4, 8, 9, 11])
    (.seq (.ops [
      ⟨(some 47), .mv (.t 8), none⟩,
      ⟨(some 48), .call 92 [.t 47, .c (.int .i64 17)], none⟩,
      ⟨(some 49), .mv (.t 8), none⟩,
      ⟨(some 50), .call 92 [.t 49, .c (.int .i64 19)], none⟩,
      ⟨(some 51), .bin .xor (.t 48) (.t 50), none⟩,
      ⟨(some 52), .mv (.t 8), none⟩,
      ⟨(some 53), .bin .shr (.t 52) (.c (.int .u64 10)), none⟩,
      ⟨(some 54), .bin .xor (.t 51) (.t 53), none⟩,
      ⟨(some 10), .mv (.t 54), none⟩] [0, 2, 3, 4, 9, 10, 11])
    (.dops [
      ⟨0, (some 55), .mv (.t 4), none, 0⟩,
      ⟨1, (some 56), .mv (.t 4), none, 0⟩,
      ⟨2, (some 57), .bin .sub (.t 56) (.c (.int .i64 16)), none, 0⟩,
      ⟨3, (some 58), .iaddrA 64 1 (.t 3) (.t 57), none, 0⟩,
      ⟨4, (some 59), .load none (.t 58), none, 0⟩,
      ⟨5, (some 60), .mv (.t 9), none, 0⟩,
      ⟨6, (some 61), .bin .add (.t 59) (.t 60), none, 0⟩,
      ⟨7, (some 62), .mv (.t 4), none, 0⟩,
      ⟨8, (some 63), .bin .sub (.t 62) (.c (.int .i64 7)), none, 0⟩,
      ⟨9, (some 64), .iaddrA 64 1 (.t 3) (.t 63), none, 0⟩,
      ⟨10, (some 65), .load none (.t 64), none, 0⟩,
      ⟨11, (some 66), .bin .add (.t 61) (.t 65), none, 0⟩,
      ⟨12, (some 67), .mv (.t 10), none, 0⟩,
      ⟨13, (some 68), .bin .add (.t 66) (.t 67), none, 0⟩,
      ⟨14, (some 69), .iaddrA 64 1 (.t 3) (.t 55), none, 0⟩,
      ⟨15, none, .store 1 (.t 69) (.t 68), none, 0⟩] [0, 2, 3, 11])))))))
   (.ops [
     ⟨(some 70), .bin .add (.t 11) (.c (.int .i64 1)), none⟩,
     ⟨(some 11), .mv (.t 70), none⟩] [0, 2, 3, 11])))))))
 (.seq (.ops [
   ⟨(some 71), .load (some 64) (.t 3), none⟩,
   ⟨none, .store 64 (.t 2) (.t 71), none⟩] [2])
 .ret))))⟩

def h_sha_turn : Hint := [(0, [0, 1], []), (1, [4], [])]
def ir_sha_turn : AFunc := ⟨2, 9, [.tmp 4],
 (.seq (.ops [
   ⟨(some 4), .mv (.c (.int .u32 0)), none⟩] [0, 1])
 (.seq (.ops [
   ⟨(some 5), .mv (.t 0), none⟩,
   ⟨(some 6), .mv (.t 1), none⟩,
   ⟨(some 7), .un .neg (.t 6), none⟩,
   ⟨(some 8), .call 94 [.t 5, .t 7], none⟩,
   ⟨(some 4), .mv (.t 8), none⟩] [4])
 .ret))⟩

def h_math_bits_RotateLeft32 : Hint := [(0, [0, 1], []), (1, [0, 5], []), (2, [4], [])]
def ir_math_bits_RotateLeft32 : AFunc := ⟨2, 17, [.tmp 4],
 (.seq (.ops [
   ⟨(some 4), .mv (.c (.int .u32 0)), none⟩] [0, 1])
 (.seq (.ops [
   ⟨(some 6), .mv (.t 1), none⟩,
   ⟨(some 7), .conv .u64 (.t 6), none⟩,
   ⟨(some 8), .bin .and (.t 7) (.c (.int .u64 31)), none⟩,
   ⟨(some 5), .mv (.t 8), none⟩] [0, 5])
 (.seq (.ops [
   ⟨(some 9), .mv (.t 0), none⟩,
   ⟨(some 10), .mv (.t 5), none⟩,
   ⟨(some 11), .bin .shl (.t 9) (.t 10), none⟩,
   ⟨(some 12), .mv (.t 0), none⟩,
   ⟨(some 13), .mv (.t 5), none⟩,
   ⟨(some 14), .bin .sub (.c (.int .u64 32)) (.t 13), none⟩,
   ⟨(some 15), .bin .shr (.t 12) (.t 14), none⟩,
   ⟨(some 16), .bin .or (.t 11) (.t 15), none⟩,
   ⟨(some 4), .mv (.t 16), none⟩] [4])
 .ret)))⟩

noncomputable def tabT : NT := (.node 77 (h_sha_Sum_Add, ir_sha_Sum_Add) (.node 55 (h_slices_Clone_byte_byte, ir_slices_Clone_byte_byte) (.node 33 (h_kdf_Expand, ir_kdf_Expand) (.node 32 (h_bandboxlaw3_awake, ir_bandboxlaw3_awake) (.node 10 (h_bandboxlaw3_KdfNames, ir_bandboxlaw3_KdfNames) .leaf .leaf) .leaf) (.node 36 (h_kdf_Mac, ir_kdf_Mac) (.node 35 (h_kdf_Key, ir_kdf_Key) .leaf .leaf) .leaf)) (.node 62 (h_sha_Of, ir_sha_Of) (.node 61 (h_octet_Big, ir_octet_Big) (.node 59 (h_bandboxref1_Hex, ir_bandboxref1_Hex) .leaf .leaf) .leaf) (.node 76 (h_sha_New, ir_sha_New) .leaf .leaf))) (.node 87 (h_sha_padding, ir_sha_padding) (.node 85 (h_sha_constants, ir_sha_constants) (.node 84 (h_sha_start, ir_sha_start) (.node 78 (h_sha_Sum_Word, ir_sha_Sum_Word) .leaf .leaf) .leaf) (.node 86 (h_sha_mix, ir_sha_mix) .leaf .leaf)) (.node 92 (h_sha_turn, ir_sha_turn) (.node 91 (h_sha_schedule, ir_sha_schedule) (.node 88 (h_octet_FromBig, ir_octet_FromBig) .leaf .leaf) .leaf) (.node 94 (h_math_bits_RotateLeft32, ir_math_bits_RotateLeft32) .leaf .leaf))))
noncomputable def tab : Nat → Option (Hint × AFunc) := tabT.find
abbrev n_bandboxlaw3_KdfNames : Nat := 10
abbrev n_bandboxlaw3_awake : Nat := 32
abbrev n_kdf_Expand : Nat := 33
abbrev n_kdf_Key : Nat := 35
abbrev n_kdf_Mac : Nat := 36
abbrev n_slices_Clone_byte_byte : Nat := 55
abbrev n_bandboxref1_Hex : Nat := 59
abbrev n_octet_Big : Nat := 61
abbrev n_sha_Of : Nat := 62
abbrev n_sha_New : Nat := 76
abbrev n_sha_Sum_Add : Nat := 77
abbrev n_sha_Sum_Word : Nat := 78
abbrev n_sha_start : Nat := 84
abbrev n_sha_constants : Nat := 85
abbrev n_sha_mix : Nat := 86
abbrev n_sha_padding : Nat := 87
abbrev n_octet_FromBig : Nat := 88
abbrev n_sha_schedule : Nat := 91
abbrev n_sha_turn : Nat := 92
abbrev n_math_bits_RotateLeft32 : Nat := 94
end Go.Bb
