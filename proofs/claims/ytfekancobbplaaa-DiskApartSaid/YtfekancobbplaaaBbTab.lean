/- The functions that this claim reaches, in short form; printed by a program of mine. -/
import Derived.Test.YtfekancobbplaaaBbG3
namespace Go.Bb
set_option maxRecDepth 20000
def h_bandboxlaw13_DiskApart : Hint := [(0, [0, 1, 2, 3], []), (1, [0, 1, 2, 3, 19], []), (2, [8], []), (3, [0, 1, 2, 3, 27], []), (4, [8], []), (5, [0, 1, 2, 3, 9], []), (6, [0, 1, 2, 3, 9, 11], []), (7, [0, 1, 2, 3, 9, 11, 13], []), (8, [0, 1, 2, 3, 9, 11, 13, 39], []), (9, [0, 1, 2, 3, 9, 11, 13], []), (10, [0, 1, 2, 3, 9, 11, 13, 47], []), (11, [8], []), (12, [0, 1, 2, 3, 9, 11, 13], []), (13, [0, 1, 2, 3, 9, 11, 13], []), (14, [0, 1, 2, 3, 9, 11, 13], []), (15, [2, 3, 9, 11], []), (16, [9, 11], []), (17, [9, 11], []), (18, [9, 11], []), (19, [11, 14, 15], []), (20, [14, 15, 16, 17], []), (21, [8], [])]
def ir_bandboxlaw13_DiskApart_73 : ACode := (.seq (.ops [
   ⟨(some 73), .mv (.t 11), none⟩,
   ⟨(some 74), .call 30 [.t 73], none⟩] [9, 11])
 (.seq (.ops [
   ⟨(some 76), .mv (.t 9), none⟩,
   ⟨(some 77), .call 31 [.t 76, .c (.string ⟨#[120]⟩)], none⟩,
   ⟨(some 75), .mv (.t 77), none⟩,
   ⟨(some 78), .ext (.t 75) 0, none⟩,
   ⟨(some 79), .ext (.t 75) 1, none⟩,
   ⟨(some 14), .mv (.t 78), none⟩,
   ⟨(some 15), .mv (.t 79), none⟩] [11, 14, 15])
 (.seq (.ops [
   ⟨(some 81), .mv (.t 11), none⟩,
   ⟨(some 82), .call 31 [.t 81, .c (.string ⟨#[120]⟩)], none⟩,
   ⟨(some 80), .mv (.t 82), none⟩,
   ⟨(some 83), .ext (.t 80) 0, none⟩,
   ⟨(some 84), .ext (.t 80) 1, none⟩,
   ⟨(some 16), .mv (.t 83), none⟩,
   ⟨(some 17), .mv (.t 84), none⟩] [14, 15, 16, 17])
 (.seq (.ops [
   ⟨(some 85), .mv (.t 15), none⟩,
   ⟨(some 86), .mv (.t 17), none⟩,
   ⟨(some 87), .bin .eql (.t 85) (.t 86), none⟩,
   ⟨(some 88), .mv (.t 87), none⟩,
   ⟨(some 89), .mv (.t 14), (some (88, true))⟩,
   ⟨(some 90), .strOf (.t 89), (some (88, true))⟩,
   ⟨(some 91), .mv (.t 16), (some (88, true))⟩,
   ⟨(some 92), .strOf (.t 91), (some (88, true))⟩,
   ⟨(some 93), .bin .eql (.t 90) (.t 92), (some (88, true))⟩,
   ⟨(some 94), .pick (.t 88) (.t 93) (.c (.bool false)), none⟩,
   ⟨(some 8), .mv (.t 94), none⟩] [8])
 .ret))))
def ir_bandboxlaw13_DiskApart_42 : ACode := (.seq (.block 1 (.seq (.seq (.ops [
      ⟨(some 42), .mv (.t 0), none⟩,
      ⟨(some 43), .mv (.t 13), none⟩,
      ⟨(some 44), .iaddrS 1 (.t 42) (.t 43), none⟩,
      ⟨(some 45), .load none (.t 44), none⟩,
      ⟨(some 46), .lenS (.t 45), none⟩,
      ⟨(some 47), .bin .gtr (.t 46) (.c (.int .i64 100)), none⟩] [0, 1, 2, 3, 9, 11, 13, 47])
 (.cond (.t 47)
 (.seq (.ops [
       ⟨(some 8), .mv (.c (.bool true)), none⟩] [8])
 .ret)
 .skip))
 (.seq (.ops [
      ⟨(some 48), .mv (.t 9), none⟩,
      ⟨(some 49), .mv (.t 0), none⟩,
      ⟨(some 50), .mv (.t 13), none⟩,
      ⟨(some 51), .iaddrS 1 (.t 49) (.t 50), none⟩,
      ⟨(some 52), .load none (.t 51), none⟩,
      ⟨(some 53), .call 28 [.t 48, .c (.string ⟨#[120]⟩), .t 52], none⟩] [0, 1, 2, 3, 9, 11, 13])
 (.seq (.ops [
      ⟨(some 54), .mv (.t 11), none⟩,
      ⟨(some 55), .mv (.t 0), none⟩,
      ⟨(some 56), .mv (.t 13), none⟩,
      ⟨(some 57), .iaddrS 1 (.t 55) (.t 56), none⟩,
      ⟨(some 58), .load none (.t 57), none⟩,
      ⟨(some 59), .call 28 [.t 54, .c (.string ⟨#[120]⟩), .t 58], none⟩] [0, 1, 2, 3, 9, 11, 13])
 (.ops [
      ⟨(some 60), .mv (.t 9), none⟩,
      ⟨(some 61), .mv (.t 1), none⟩,
      ⟨(some 62), .call 28 [.t 60, .c (.string ⟨#[121]⟩), .t 61], none⟩] [0, 1, 2, 3, 9, 11, 13])))))
 (.ops [
     ⟨(some 40), .mv (.t 13), none⟩,
     ⟨(some 41), .bin .add (.t 40) (.c (.int .i64 1)), none⟩,
     ⟨(some 13), .mv (.t 41), none⟩] [0, 1, 2, 3, 9, 11, 13]))
def ir_bandboxlaw13_DiskApart_63 : ACode := (.seq (.ops [
   ⟨(some 63), .mv (.t 9), none⟩,
   ⟨(some 64), .mv (.t 2), none⟩,
   ⟨(some 65), .mv (.t 3), none⟩,
   ⟨(some 66), .call 29 [.t 63, .t 64, .t 65], none⟩] [2, 3, 9, 11])
 (.seq (.ops [
   ⟨(some 67), .mv (.t 11), none⟩,
   ⟨(some 68), .mv (.t 2), none⟩,
   ⟨(some 69), .mv (.t 3), none⟩,
   ⟨(some 70), .call 29 [.t 67, .t 68, .t 69], none⟩] [9, 11])
 (.seq (.ops [
   ⟨(some 71), .mv (.t 9), none⟩,
   ⟨(some 72), .call 30 [.t 71], none⟩] [9, 11])
 ir_bandboxlaw13_DiskApart_73)))
def ir_bandboxlaw13_DiskApart_29 : ACode := (.seq (.ops [
   ⟨(some 29), .call 27 [.c (.int .i64 10000)], none⟩,
   ⟨(some 28), .mv (.t 29), none⟩,
   ⟨(some 30), .ext (.t 28) 0, none⟩,
   ⟨(some 31), .ext (.t 28) 1, none⟩,
   ⟨(some 9), .mv (.t 30), none⟩,
   ⟨(some 10), .mv (.t 31), none⟩] [0, 1, 2, 3, 9])
 (.seq (.ops [
   ⟨(some 33), .call 27 [.c (.int .i64 10000)], none⟩,
   ⟨(some 32), .mv (.t 33), none⟩,
   ⟨(some 34), .ext (.t 32) 0, none⟩,
   ⟨(some 35), .ext (.t 32) 1, none⟩,
   ⟨(some 11), .mv (.t 34), none⟩,
   ⟨(some 12), .mv (.t 35), none⟩] [0, 1, 2, 3, 9, 11])
 (.seq (.seq (.ops [
   ⟨(some 13), .mv (.c (.int .i64 0)), none⟩] [0, 1, 2, 3, 9, 11, 13])
 (.block 0 (.loop (.seq (.seq (.ops [
     ⟨(some 36), .mv (.t 13), none⟩,
     ⟨(some 37), .mv (.t 0), none⟩,
     ⟨(some 38), .lenS (.t 37), none⟩,
     ⟨(some 39), .bin .lss (.t 36) (.t 38), none⟩] [0, 1, 2, 3, 9, 11, 13, 39])
 (.cond (.t 39)
 .skip
 (.exit 0)))
 ir_bandboxlaw13_DiskApart_42))))
 ir_bandboxlaw13_DiskApart_63)))
def ir_bandboxlaw13_DiskApart : AFunc := ⟨4, 95, [.tmp 8],
 (.seq (.ops [
   ⟨(some 8), .mv (.c (.bool false)), none⟩] [0, 1, 2, 3])
 (.seq (.seq (.ops [
   ⟨(some 18), .call 26 [], none⟩,
   ⟨(some 19), .un .not (.t 18), none⟩] [0, 1, 2, 3, 19])
 (.cond (.t 19)
 (.seq (.ops [
    ⟨(some 8), .mv (.c (.bool false)), none⟩] [8])
 .ret)
 .skip))
 (.seq (.seq (.ops [
   ⟨(some 20), .mv (.t 0), none⟩,
   ⟨(some 21), .lenS (.t 20), none⟩,
   ⟨(some 22), .bin .gtr (.t 21) (.c (.int .i64 10)), none⟩,
   ⟨(some 23), .mv (.t 22), none⟩,
   ⟨(some 24), .mv (.t 1), (some (23, false))⟩,
   ⟨(some 25), .lenS (.t 24), (some (23, false))⟩,
   ⟨(some 26), .bin .gtr (.t 25) (.c (.int .i64 100)), (some (23, false))⟩,
   ⟨(some 27), .pick (.t 23) (.c (.bool true)) (.t 26), none⟩] [0, 1, 2, 3, 27])
 (.cond (.t 27)
 (.seq (.ops [
    ⟨(some 8), .mv (.c (.bool true)), none⟩] [8])
 .ret)
 .skip))
 ir_bandboxlaw13_DiskApart_29)))⟩

def h_bandboxlaw13_awake : Hint := [(0, [], []), (1, [1, 2], []), (2, [1, 18], []), (3, [0], []), (4, [1, 3, 4], []), (5, [1, 3, 4], []), (6, [1, 3, 4, 6], []), (7, [1, 3, 4, 6], []), (8, [1, 3, 4, 6, 7, 8], []), (9, [0], [])]
def ir_bandboxlaw13_awake_41 : ACode := (.seq (.ops [
   ⟨(some 41), .mv (.t 3), none⟩,
   ⟨(some 42), .bin .eql (.t 41) (.c (.int .i64 0)), none⟩,
   ⟨(some 43), .mv (.t 42), none⟩,
   ⟨(some 44), .mv (.t 4), (some (43, true))⟩,
   ⟨(some 45), .bin .eql (.t 44) (.c (.int .i64 0)), (some (43, true))⟩,
   ⟨(some 46), .pick (.t 43) (.t 45) (.c (.bool false)), none⟩,
   ⟨(some 47), .mv (.t 46), none⟩,
   ⟨(some 48), .mv (.t 6), (some (47, true))⟩,
   ⟨(some 49), .bin .eql (.t 48) (.c (.int .i64 7)), (some (47, true))⟩,
   ⟨(some 50), .pick (.t 47) (.t 49) (.c (.bool false)), none⟩,
   ⟨(some 51), .mv (.t 50), none⟩,
   ⟨(some 52), .mv (.t 8), (some (51, true))⟩,
   ⟨(some 53), .bin .eql (.t 52) (.c (.int .i64 0)), (some (51, true))⟩,
   ⟨(some 54), .pick (.t 51) (.t 53) (.c (.bool false)), none⟩,
   ⟨(some 55), .mv (.t 54), none⟩,
   ⟨(some 56), .mv (.t 7), (some (55, true))⟩,
   ⟨(some 57), .strOf (.t 56), (some (55, true))⟩,
   ⟨(some 58), .bin .eql (.t 57) (.c (.string ⟨#[0, 0, 122]⟩)), (some (55, true))⟩,
   ⟨(some 59), .pick (.t 55) (.t 58) (.c (.bool false)), none⟩,
   ⟨(some 60), .mv (.t 59), none⟩,
   ⟨(some 61), .mv (.t 1), (some (60, true))⟩,
   ⟨(some 62), .call 51 [.t 61], (some (60, true))⟩,
   ⟨(some 63), .bin .eql (.t 62) (.c (.int .i64 2)), (some (60, true))⟩,
   ⟨(some 64), .pick (.t 60) (.t 63) (.c (.bool false)), none⟩,
   ⟨(some 65), .mv (.t 64), none⟩,
   ⟨(some 66), .mv (.t 1), (some (65, true))⟩,
   ⟨(some 67), .call 52 [.t 66], (some (65, true))⟩,
   ⟨(some 68), .pick (.t 65) (.t 67) (.c (.bool false)), none⟩,
   ⟨(some 0), .mv (.t 68), none⟩] [0])
 .ret)
def ir_bandboxlaw13_awake_27 : ACode := (.seq (.ops [
   ⟨(some 27), .mv (.t 1), none⟩,
   ⟨(some 28), .call 29 [.t 27, .c (.int .u64 2), .c (.int .i64 0)], none⟩] [1, 3, 4])
 (.seq (.ops [
   ⟨(some 30), .mv (.t 1), none⟩,
   ⟨(some 31), .call 31 [.t 30, .c (.string ⟨#[97]⟩)], none⟩,
   ⟨(some 29), .mv (.t 31), none⟩,
   ⟨(some 32), .ext (.t 29) 0, none⟩,
   ⟨(some 33), .ext (.t 29) 1, none⟩,
   ⟨(some 5), .mv (.t 32), none⟩,
   ⟨(some 6), .mv (.t 33), none⟩] [1, 3, 4, 6])
 (.seq (.ops [
   ⟨(some 34), .mv (.t 1), none⟩,
   ⟨(some 35), .call 30 [.t 34], none⟩] [1, 3, 4, 6])
 (.seq (.ops [
   ⟨(some 37), .mv (.t 1), none⟩,
   ⟨(some 38), .call 31 [.t 37, .c (.string ⟨#[97]⟩)], none⟩,
   ⟨(some 36), .mv (.t 38), none⟩,
   ⟨(some 39), .ext (.t 36) 0, none⟩,
   ⟨(some 40), .ext (.t 36) 1, none⟩,
   ⟨(some 7), .mv (.t 39), none⟩,
   ⟨(some 8), .mv (.t 40), none⟩] [1, 3, 4, 6, 7, 8])
 ir_bandboxlaw13_awake_41))))
def ir_bandboxlaw13_awake_10 : ACode := (.seq (.ops [
   ⟨(some 10), .call 27 [.c (.int .i64 64)], none⟩,
   ⟨(some 9), .mv (.t 10), none⟩,
   ⟨(some 11), .ext (.t 9) 0, none⟩,
   ⟨(some 12), .ext (.t 9) 1, none⟩,
   ⟨(some 1), .mv (.t 11), none⟩,
   ⟨(some 2), .mv (.t 12), none⟩] [1, 2])
 (.seq (.seq (.ops [
   ⟨(some 13), .mv (.t 2), none⟩,
   ⟨(some 14), .bin .neq (.t 13) (.c (.int .i64 0)), none⟩,
   ⟨(some 15), .mv (.t 14), none⟩,
   ⟨(some 16), .mv (.t 1), (some (15, false))⟩,
   ⟨(some 17), .eqv .ptr false (.t 16) (.c (.pointer none)), (some (15, false))⟩,
   ⟨(some 18), .pick (.t 15) (.c (.bool true)) (.t 17), none⟩] [1, 18])
 (.cond (.t 18)
 (.seq (.ops [
    ⟨(some 0), .mv (.c (.bool false)), none⟩] [0])
 .ret)
 .skip))
 (.seq (.ops [
   ⟨(some 19), .mv (.t 1), none⟩,
   ⟨(some 20), .bslice 2 1 ([.int .u8 0]) [(0, 1, .c (.int .u8 120)), (1, 1, .c (.int .u8 121))], none⟩,
   ⟨(some 21), .mark (.t 20), none⟩,
   ⟨(some 22), .call 28 [.t 19, .c (.string ⟨#[97]⟩), .t 21], none⟩,
   ⟨(some 23), .mv (.t 1), none⟩,
   ⟨(some 24), .bslice 1 1 ([.int .u8 0]) [(0, 1, .c (.int .u8 122))], none⟩,
   ⟨(some 25), .mark (.t 24), none⟩,
   ⟨(some 26), .call 28 [.t 23, .c (.string ⟨#[97]⟩), .t 25], none⟩,
   ⟨(some 3), .mv (.t 22), none⟩,
   ⟨(some 4), .mv (.t 26), none⟩] [1, 3, 4])
 ir_bandboxlaw13_awake_27)))
def ir_bandboxlaw13_awake : AFunc := ⟨0, 69, [.tmp 0],
 (.seq (.ops [
   ⟨(some 0), .mv (.c (.bool false)), none⟩] [])
 ir_bandboxlaw13_awake_10)⟩

def h_disk_New : Hint := [(0, [0], []), (1, [0, 9], []), (2, [2, 3], []), (3, [2, 3], [])]
def ir_disk_New : AFunc := ⟨1, 14, [.tmp 2, .tmp 3],
 (.seq (.ops [
   ⟨(some 2), .mv (.c (.pointer none)), none⟩,
   ⟨(some 3), .mv (.c (.int .i64 0)), none⟩] [0])
 (.seq (.seq (.ops [
   ⟨(some 4), .mv (.t 0), none⟩,
   ⟨(some 5), .bin .lss (.t 4) (.c (.int .i64 64)), none⟩,
   ⟨(some 6), .mv (.t 5), none⟩,
   ⟨(some 7), .mv (.t 0), (some (6, false))⟩,
   ⟨(some 8), .bin .gtr (.t 7) (.c (.int .i64 1048576)), (some (6, false))⟩,
   ⟨(some 9), .pick (.t 6) (.c (.bool true)) (.t 8), none⟩] [0, 9])
 (.cond (.t 9)
 (.seq (.ops [
    ⟨(some 2), .mv (.c (.pointer none)), none⟩,
    ⟨(some 3), .mv (.c (.int .i64 1)), none⟩] [2, 3])
 .ret)
 .skip))
 (.seq (.ops [
   ⟨(some 10), .mv (.t 0), none⟩,
   ⟨(some 11), .mmap, none⟩,
   ⟨(some 12), .build ([.int .i64 0, .map none, .bool false, .int .i64 0]) [(0, 1, .t 10), (1, 1, .t 11), (2, 1, .c (.bool true)), (3, 1, .c (.int .i64 1))], none⟩,
   ⟨(some 13), .box (.t 12), none⟩,
   ⟨(some 2), .mv (.t 13), none⟩,
   ⟨(some 3), .mv (.c (.int .i64 0)), none⟩] [2, 3])
 .ret)))⟩

def h_disk_Disk_Append : Hint := [(0, [0, 1, 2], []), (1, [0, 1, 2, 7], []), (2, [0, 1, 2, 7, 14], []), (3, [6], []), (4, [0, 1, 2, 25], [(6, 0), (7, 0), (0, 1), (1, 1), (2, 1), (3, 1), (4, 1), (5, 1), (8, 0), (9, 0)]), (5, [6], []), (6, [0, 1, 2, 32], []), (7, [0, 1, 2], []), (8, [2, 8], []), (9, [], [(5, 0), (6, 0), (1, 1), (2, 1), (3, 1), (4, 1), (7, 0), (8, 0), (0, 2), (9, 0), (10, 0), (11, 0)]), (10, [6], [])]
def ir_disk_Disk_Append_40 : ACode := (.seq (.ops [
   ⟨(some 40), .mv (.t 0), none⟩,
   ⟨(some 41), .nilc (.t 40), none⟩,
   ⟨(some 42), .faddr 1 (.t 41), none⟩,
   ⟨(some 43), .load none (.t 42), none⟩,
   ⟨(some 44), .mv (.t 1), none⟩,
   ⟨(some 45), .lookup .str (.pointer none) false (.t 43) (.t 44), none⟩,
   ⟨(some 8), .mv (.t 45), none⟩] [2, 8])
 (.seq (.dops [
   ⟨5, (some 51), .mv (.t 2), none, 0⟩,
   ⟨6, (some 52), .call 55 [.t 51], none, 0⟩,
   ⟨1, (some 47), .mv (.t 8), none, 1⟩,
   ⟨2, (some 48), .nilc (.t 47), none, 1⟩,
   ⟨3, (some 49), .faddr 1 (.t 48), none, 1⟩,
   ⟨4, (some 50), .load none (.t 49), none, 1⟩,
   ⟨7, (some 53), .bslice 1 1 ([.slice none 0 0]) [(0, 1, .t 52)], none, 0⟩,
   ⟨8, (some 54), .append 1 24 (.t 50) (.t 53), none, 0⟩,
   ⟨0, (some 46), .mv (.t 8), none, 2⟩,
   ⟨9, (some 55), .nilc (.t 46), none, 0⟩,
   ⟨10, (some 56), .faddr 1 (.t 55), none, 0⟩,
   ⟨11, none, .store 1 (.t 56) (.t 54), none, 0⟩] [])
 (.seq (.ops [
   ⟨(some 6), .mv (.c (.int .i64 0)), none⟩] [6])
 .ret)))
def ir_disk_Disk_Append_26 : ACode := (.seq (.seq (.ops [
   ⟨(some 26), .mv (.t 0), none⟩,
   ⟨(some 27), .nilc (.t 26), none⟩,
   ⟨(some 28), .faddr 1 (.t 27), none⟩,
   ⟨(some 29), .load none (.t 28), none⟩,
   ⟨(some 30), .mv (.t 1), none⟩,
   ⟨(some 31), .lookup .str (.pointer none) false (.t 29) (.t 30), none⟩,
   ⟨(some 32), .eqv .ptr false (.t 31) (.c (.pointer none)), none⟩] [0, 1, 2, 32])
 (.cond (.t 32)
 (.ops [
    ⟨(some 33), .mv (.t 0), none⟩,
    ⟨(some 34), .nilc (.t 33), none⟩,
    ⟨(some 35), .faddr 1 (.t 34), none⟩,
    ⟨(some 36), .load none (.t 35), none⟩,
    ⟨(some 37), .mv (.t 1), none⟩,
    ⟨(some 38), .build ([.slice none 0 0, .slice none 0 0]) [], none⟩,
    ⟨(some 39), .box (.t 38), none⟩,
    ⟨none, .mupd .str (.t 36) (.t 37) (.t 39), none⟩] [0, 1, 2])
 .skip))
 ir_disk_Disk_Append_40)
def ir_disk_Disk_Append : AFunc := ⟨3, 57, [.tmp 6],
 (.seq (.ops [
   ⟨(some 6), .mv (.c (.int .i64 0)), none⟩] [0, 1, 2])
 (.seq (.seq (.ops [
   ⟨(some 9), .mv (.t 0), none⟩,
   ⟨(some 10), .mv (.t 1), none⟩,
   ⟨(some 11), .bslice 1 1 ([.string .empty]) [(0, 1, .t 10)], none⟩,
   ⟨(some 12), .call 53 [.t 9, .t 11], none⟩,
   ⟨(some 7), .mv (.t 12), none⟩] [0, 1, 2, 7])
 (.seq (.ops [
   ⟨(some 13), .mv (.t 7), none⟩,
   ⟨(some 14), .bin .neq (.t 13) (.c (.int .i64 0)), none⟩] [0, 1, 2, 7, 14])
 (.cond (.t 14)
 (.seq (.ops [
    ⟨(some 15), .mv (.t 7), none⟩,
    ⟨(some 6), .mv (.t 15), none⟩] [6])
 .ret)
 .skip)))
 (.seq (.seq (.dops [
   ⟨6, (some 22), .mv (.t 0), none, 0⟩,
   ⟨7, (some 23), .call 54 [.t 22], none, 0⟩,
   ⟨0, (some 16), .mv (.t 2), none, 1⟩,
   ⟨1, (some 17), .lenS (.t 16), none, 1⟩,
   ⟨2, (some 18), .mv (.t 0), none, 1⟩,
   ⟨3, (some 19), .nilc (.t 18), none, 1⟩,
   ⟨4, (some 20), .faddr 0 (.t 19), none, 1⟩,
   ⟨5, (some 21), .load none (.t 20), none, 1⟩,
   ⟨8, (some 24), .bin .sub (.t 21) (.t 23), none, 0⟩,
   ⟨9, (some 25), .bin .gtr (.t 17) (.t 24), none, 0⟩] [0, 1, 2, 25])
 (.cond (.t 25)
 (.seq (.ops [
    ⟨(some 6), .mv (.c (.int .i64 6)), none⟩] [6])
 .ret)
 .skip))
 ir_disk_Disk_Append_26)))⟩

def h_disk_Disk_Crash : Hint := [(0, [0, 1, 2, 12], []), (1, [0, 1, 2, 12, 14], []), (2, [0, 1, 2, 7, 12], []), (3, [0, 1, 2, 12], []), (4, [], [])]
def ir_disk_Disk_Crash : AFunc := ⟨3, 24, [],
 (.seq (.seq (.ops [
   ⟨(some 8), .mv (.t 0), none⟩,
   ⟨(some 9), .nilc (.t 8), none⟩,
   ⟨(some 10), .faddr 1 (.t 9), none⟩,
   ⟨(some 11), .load none (.t 10), none⟩,
   ⟨(some 12), .rangeM (.t 11), none⟩] [0, 1, 2, 12])
 (.block 0 (.loop (.seq (.ops [
     ⟨(some 13), .nextM (.t 12), none⟩,
     ⟨(some 14), .ext (.t 13) 0, none⟩] [0, 1, 2, 12, 14])
 (.seq (.cond (.t 14)
 .skip
 (.exit 0))
 (.block 1 (.seq (.ops [
      ⟨(some 15), .entryM (.t 12), none⟩,
      ⟨(some 16), .ext (.t 15) 1, none⟩,
      ⟨(some 7), .mv (.t 16), none⟩] [0, 1, 2, 7, 12])
 (.ops [
      ⟨(some 17), .mv (.t 7), none⟩,
      ⟨(some 18), .mv (.t 1), none⟩,
      ⟨(some 19), .mv (.t 2), none⟩,
      ⟨(some 20), .call 56 [.t 17, .t 18, .t 19], none⟩] [0, 1, 2, 12]))))))))
 (.ops [
   ⟨(some 21), .mv (.t 0), none⟩,
   ⟨(some 22), .nilc (.t 21), none⟩,
   ⟨(some 23), .faddr 2 (.t 22), none⟩,
   ⟨none, .store 1 (.t 23) (.c (.bool false)), none⟩] []))⟩

def h_disk_Disk_On : Hint := [(0, [0], []), (1, [], [])]
def ir_disk_Disk_On : AFunc := ⟨1, 12, [],
 (.seq (.ops [
   ⟨(some 2), .mv (.t 0), none⟩,
   ⟨(some 3), .nilc (.t 2), none⟩,
   ⟨(some 4), .faddr 2 (.t 3), none⟩,
   ⟨none, .store 1 (.t 4) (.c (.bool true)), none⟩] [0])
 (.ops [
   ⟨(some 5), .mv (.t 0), none⟩,
   ⟨(some 6), .nilc (.t 5), none⟩,
   ⟨(some 7), .faddr 3 (.t 6), none⟩,
   ⟨(some 8), .load none (.t 7), none⟩,
   ⟨(some 9), .bin .add (.t 8) (.c (.int .i64 1)), none⟩,
   ⟨(some 10), .nilc (.t 5), none⟩,
   ⟨(some 11), .faddr 3 (.t 10), none⟩,
   ⟨none, .store 1 (.t 11) (.t 9), none⟩] []))⟩

def h_disk_Disk_Read : Hint := [(0, [0, 1], []), (1, [6, 7], []), (2, [6, 7, 15], []), (3, [4, 5], []), (4, [4, 5], [])]
def ir_disk_Disk_Read : AFunc := ⟨2, 19, [.tmp 4, .tmp 5],
 (.seq (.ops [
   ⟨(some 4), .mv (.c (.slice none 0 0)), none⟩,
   ⟨(some 5), .mv (.c (.int .i64 0)), none⟩] [0, 1])
 (.seq (.ops [
   ⟨(some 9), .mv (.t 0), none⟩,
   ⟨(some 10), .mv (.t 1), none⟩,
   ⟨(some 11), .call 57 [.t 9, .t 10], none⟩,
   ⟨(some 8), .mv (.t 11), none⟩,
   ⟨(some 12), .ext (.t 8) 0, none⟩,
   ⟨(some 13), .ext (.t 8) 1, none⟩,
   ⟨(some 6), .mv (.t 12), none⟩,
   ⟨(some 7), .mv (.t 13), none⟩] [6, 7])
 (.seq (.seq (.ops [
   ⟨(some 14), .mv (.t 7), none⟩,
   ⟨(some 15), .bin .neq (.t 14) (.c (.int .i64 0)), none⟩] [6, 7, 15])
 (.cond (.t 15)
 (.seq (.ops [
    ⟨(some 16), .mv (.t 7), none⟩,
    ⟨(some 4), .mv (.c (.slice none 0 0)), none⟩,
    ⟨(some 5), .mv (.t 16), none⟩] [4, 5])
 .ret)
 .skip))
 (.seq (.ops [
   ⟨(some 17), .mv (.t 6), none⟩,
   ⟨(some 18), .call 58 [.t 17], none⟩,
   ⟨(some 4), .mv (.t 18), none⟩,
   ⟨(some 5), .mv (.c (.int .i64 0)), none⟩] [4, 5])
 .ret))))⟩

def h_disk_Disk_Lives : Hint := [(0, [0], []), (1, [2], [])]
def ir_disk_Disk_Lives : AFunc := ⟨1, 7, [.tmp 2],
 (.seq (.ops [
   ⟨(some 2), .mv (.c (.int .i64 0)), none⟩] [0])
 (.seq (.ops [
   ⟨(some 3), .mv (.t 0), none⟩,
   ⟨(some 4), .nilc (.t 3), none⟩,
   ⟨(some 5), .faddr 3 (.t 4), none⟩,
   ⟨(some 6), .load none (.t 5), none⟩,
   ⟨(some 2), .mv (.t 6), none⟩] [2])
 .ret))⟩

def h_disk_Disk_Power : Hint := [(0, [0], []), (1, [2], [])]
def ir_disk_Disk_Power : AFunc := ⟨1, 7, [.tmp 2],
 (.seq (.ops [
   ⟨(some 2), .mv (.c (.bool false)), none⟩] [0])
 (.seq (.ops [
   ⟨(some 3), .mv (.t 0), none⟩,
   ⟨(some 4), .nilc (.t 3), none⟩,
   ⟨(some 5), .faddr 2 (.t 4), none⟩,
   ⟨(some 6), .load none (.t 5), none⟩,
   ⟨(some 2), .mv (.t 6), none⟩] [2])
 .ret))⟩

def h_disk_Disk_ask : Hint := [(0, [0, 1], []), (1, [1, 11], []), (2, [4], []), (3, [12, 13, 14], []), (4, [12, 13, 14, 15], []), (5, [6, 12, 13, 14], []), (6, [12, 13, 14, 20], []), (7, [4], []), (8, [12, 13, 14], []), (9, [4], [])]
def ir_disk_Disk_ask_7 : ACode := (.seq (.seq (.ops [
   ⟨(some 7), .mv (.t 0), none⟩,
   ⟨(some 8), .nilc (.t 7), none⟩,
   ⟨(some 9), .faddr 2 (.t 8), none⟩,
   ⟨(some 10), .load none (.t 9), none⟩,
   ⟨(some 11), .un .not (.t 10), none⟩] [1, 11])
 (.cond (.t 11)
 (.seq (.ops [
    ⟨(some 4), .mv (.c (.int .i64 7)), none⟩] [4])
 .ret)
 .skip))
 (.seq (.seq (.ops [
   ⟨(some 12), .mv (.t 1), none⟩,
   ⟨(some 13), .lenS (.t 12), none⟩,
   ⟨(some 14), .mv (.c (.int .i64 0)), none⟩] [12, 13, 14])
 (.block 0 (.loop (.seq (.ops [
     ⟨(some 15), .bin .lss (.t 14) (.t 13), none⟩] [12, 13, 14, 15])
 (.seq (.cond (.t 15)
 .skip
 (.exit 0))
 (.seq (.block 1 (.seq (.ops [
      ⟨(some 16), .iaddrS 1 (.t 12) (.t 14), none⟩,
      ⟨(some 17), .load none (.t 16), none⟩,
      ⟨(some 6), .mv (.t 17), none⟩] [6, 12, 13, 14])
 (.seq (.ops [
      ⟨(some 18), .mv (.t 6), none⟩,
      ⟨(some 19), .call 73 [.t 18], none⟩,
      ⟨(some 20), .un .not (.t 19), none⟩] [12, 13, 14, 20])
 (.cond (.t 20)
 (.seq (.ops [
       ⟨(some 4), .mv (.c (.int .i64 1)), none⟩] [4])
 .ret)
 .skip))))
 (.ops [
     ⟨(some 21), .bin .add (.t 14) (.c (.int .i64 1)), none⟩,
     ⟨(some 14), .mv (.t 21), none⟩] [12, 13, 14])))))))
 (.seq (.ops [
   ⟨(some 4), .mv (.c (.int .i64 0)), none⟩] [4])
 .ret)))
def ir_disk_Disk_ask : AFunc := ⟨2, 22, [.tmp 4],
 (.seq (.ops [
   ⟨(some 4), .mv (.c (.int .i64 0)), none⟩] [0, 1])
 ir_disk_Disk_ask_7)⟩

def h_disk_Disk_size : Hint := [(0, [0], []), (1, [0, 3], []), (2, [3, 10], []), (3, [3, 10, 12], []), (4, [3, 5, 10], []), (5, [3, 10], []), (6, [2], [])]
def ir_disk_Disk_size : AFunc := ⟨1, 20, [.tmp 2],
 (.seq (.ops [
   ⟨(some 2), .mv (.c (.int .i64 0)), none⟩] [0])
 (.seq (.ops [
   ⟨(some 3), .mv (.c (.int .i64 0)), none⟩] [0, 3])
 (.seq (.seq (.ops [
   ⟨(some 6), .mv (.t 0), none⟩,
   ⟨(some 7), .nilc (.t 6), none⟩,
   ⟨(some 8), .faddr 1 (.t 7), none⟩,
   ⟨(some 9), .load none (.t 8), none⟩,
   ⟨(some 10), .rangeM (.t 9), none⟩] [3, 10])
 (.block 0 (.loop (.seq (.ops [
     ⟨(some 11), .nextM (.t 10), none⟩,
     ⟨(some 12), .ext (.t 11) 0, none⟩] [3, 10, 12])
 (.seq (.cond (.t 12)
 .skip
 (.exit 0))
 (.block 1 (.seq (.ops [
      ⟨(some 13), .entryM (.t 10), none⟩,
      ⟨(some 14), .ext (.t 13) 1, none⟩,
      ⟨(some 5), .mv (.t 14), none⟩] [3, 5, 10])
 (.ops [
      ⟨(some 15), .mv (.t 3), none⟩,
      ⟨(some 16), .mv (.t 5), none⟩,
      ⟨(some 17), .call 74 [.t 16], none⟩,
      ⟨(some 18), .bin .add (.t 15) (.t 17), none⟩,
      ⟨(some 3), .mv (.t 18), none⟩] [3, 10]))))))))
 (.seq (.ops [
   ⟨(some 19), .mv (.t 3), none⟩,
   ⟨(some 2), .mv (.t 19), none⟩] [2])
 .ret))))⟩

def h_slices_Clone_byte_byte : Hint := [(0, [0], []), (1, [0, 4], []), (2, [2], []), (3, [2], [])]
def ir_slices_Clone_byte_byte : AFunc := ⟨1, 8, [.tmp 2],
 (.seq (.ops [
   ⟨(some 2), .mv (.c (.slice none 0 0)), none⟩] [0])
 (.seq (.seq (.ops [
   ⟨(some 3), .mv (.t 0), none⟩,
   ⟨(some 4), .eqv .slice false (.t 3) (.c (.slice none 0 0)), none⟩] [0, 4])
 (.cond (.t 4)
  (.seq (.ops [
    ⟨(some 2), .mv (.c (.slice none 0 0)), none⟩] [2])
  .ret)
  .skip))
 (.seq (.ops [
   ⟨(some 5), .bslice 0 1 ([.int .u8 0]) [], none⟩,
   ⟨(some 6), .mv (.t 0), none⟩,
   ⟨(some 7), .append 1 1 (.t 5) (.t 6), none⟩,
   ⟨(some 2), .mv (.t 7), none⟩] [2])
 .ret)))⟩

def h_disk_file_crash : Hint := [(0, [0, 2, 4], []), (1, [0, 2, 4, 6], []), (2, [0, 2, 6, 7], []), (3, [0, 2, 6, 7, 16, 17], []), (4, [0, 2, 6, 7, 16, 17, 18], []), (5, [0, 2, 6, 7, 8, 16, 17], []), (6, [0, 2, 6, 7, 8, 16, 17, 22], []), (7, [0, 2, 6, 7, 16, 17], []), (8, [0, 2, 6, 7, 16, 17], []), (9, [0, 2, 6, 7, 26, 27], []), (10, [0, 2, 6, 7, 26, 27, 28], []), (11, [0, 2, 6, 7, 9, 26, 27], []), (12, [0, 2, 6, 7, 9, 10, 26, 27], []), (13, [0, 2, 6, 7, 9, 10, 26, 27, 37], []), (14, [0, 2, 6, 7, 10, 26, 27], []), (15, [0, 2, 6, 7, 10, 26, 27, 45], []), (16, [0, 2, 6, 7, 10, 26, 27], []), (17, [0, 2, 6, 7, 26, 27], []), (18, [0, 2, 6, 7, 26, 27], []), (19, [], [])]
def ir_disk_file_crash_q : ACode := (.cond (.t 37)
 (.ops [
        ⟨(some 42), .mv (.t 10), none⟩,
        ⟨(some 43), .lenS (.t 42), none⟩,
        ⟨(some 44), .mslice 1 ([.int .u8 0]) (.t 43) (.t 43), none⟩,
        ⟨(some 10), .mv (.t 44), none⟩] [0, 2, 6, 7, 10, 26, 27])
 (.seq (.ops [
        ⟨(some 46), .mv (.t 9), none⟩,
        ⟨(some 47), .mv (.t 6), none⟩,
        ⟨(some 48), .bin .eql (.t 46) (.t 47), none⟩,
        ⟨(some 49), .mv (.t 48), none⟩,
        ⟨(some 50), .mv (.t 2), (some (49, true))⟩,
        ⟨(some 51), .bin .gtr (.t 50) (.c (.int .i64 0)), (some (49, true))⟩,
        ⟨(some 52), .pick (.t 49) (.t 51) (.c (.bool false)), none⟩,
        ⟨(some 45), .mv (.t 52), none⟩] [0, 2, 6, 7, 10, 26, 27, 45])
 (.cond (.t 45)
 (.ops [
         ⟨(some 53), .mv (.t 10), none⟩,
         ⟨(some 54), .mv (.t 10), none⟩,
         ⟨(some 55), .lenS (.t 54), none⟩,
         ⟨(some 56), .mv (.t 2), none⟩,
         ⟨(some 57), .mv (.t 10), none⟩,
         ⟨(some 58), .lenS (.t 57), none⟩,
         ⟨(some 59), .mn (.t 56) (.t 58), none⟩,
         ⟨(some 60), .bin .sub (.t 55) (.t 59), none⟩,
         ⟨(some 61), .slSl 1 (.t 53) none (some (.t 60)) none, none⟩,
         ⟨(some 10), .mv (.t 61), none⟩] [0, 2, 6, 7, 10, 26, 27])
 .skip)))
def ir_disk_file_crash_29 : ACode := (.seq (.block 3 (.seq (.ops [
      ⟨(some 29), .mv (.t 27), none⟩,
      ⟨(some 9), .mv (.t 29), none⟩] [0, 2, 6, 7, 9, 26, 27])
 (.seq (.ops [
      ⟨(some 30), .mv (.t 0), none⟩,
      ⟨(some 31), .nilc (.t 30), none⟩,
      ⟨(some 32), .faddr 1 (.t 31), none⟩,
      ⟨(some 33), .load none (.t 32), none⟩,
      ⟨(some 34), .mv (.t 9), none⟩,
      ⟨(some 35), .iaddrS 1 (.t 33) (.t 34), none⟩,
      ⟨(some 36), .load none (.t 35), none⟩,
      ⟨(some 10), .mv (.t 36), none⟩] [0, 2, 6, 7, 9, 10, 26, 27])
 (.seq (.block 4 (.seq (.ops [
       ⟨(some 38), .mv (.t 7), none⟩,
       ⟨(some 39), .mv (.t 9), none⟩,
       ⟨(some 40), .callv (.t 38) [.t 39], none⟩,
       ⟨(some 41), .un .not (.t 40), none⟩,
       ⟨(some 37), .mv (.t 41), none⟩] [0, 2, 6, 7, 9, 10, 26, 27, 37])
 ir_disk_file_crash_q))
 (.ops [
      ⟨(some 62), .mv (.t 0), none⟩,
      ⟨(some 63), .mv (.t 0), none⟩,
      ⟨(some 64), .nilc (.t 63), none⟩,
      ⟨(some 65), .faddr 0 (.t 64), none⟩,
      ⟨(some 66), .load none (.t 65), none⟩,
      ⟨(some 67), .mv (.t 10), none⟩,
      ⟨(some 68), .append 1 1 (.t 66) (.t 67), none⟩,
      ⟨(some 69), .nilc (.t 62), none⟩,
      ⟨(some 70), .faddr 0 (.t 69), none⟩,
      ⟨none, .store 1 (.t 70) (.t 68), none⟩] [0, 2, 6, 7, 26, 27])))))
 (.ops [
     ⟨(some 71), .bin .add (.t 27) (.c (.int .i64 1)), none⟩,
     ⟨(some 27), .mv (.t 71), none⟩] [0, 2, 6, 7, 26, 27]))
def ir_disk_file_crash_25 : ACode := (.seq (.seq (.ops [
   ⟨(some 25), .mv (.t 6), none⟩,
   ⟨(some 26), .bin .add (.t 25) (.c (.int .i64 1)), none⟩,
   ⟨(some 27), .mv (.c (.int .i64 0)), none⟩] [0, 2, 6, 7, 26, 27])
 (.block 2 (.loop (.seq (.ops [
     ⟨(some 28), .bin .lss (.t 27) (.t 26), none⟩] [0, 2, 6, 7, 26, 27, 28])
 (.seq (.cond (.t 28)
 .skip
 (.exit 2))
 ir_disk_file_crash_29)))))
 (.ops [
   ⟨(some 72), .mv (.t 0), none⟩,
   ⟨(some 73), .nilc (.t 72), none⟩,
   ⟨(some 74), .faddr 1 (.t 73), none⟩,
   ⟨none, .store 1 (.t 74) (.c (.slice none 0 0)), none⟩] []))
def ir_disk_file_crash : AFunc := ⟨3, 75, [],
 (.seq (.ops [
   ⟨(some 4), .box (.t 1), none⟩] [0, 2, 4])
 (.seq (.ops [
   ⟨(some 6), .mv (.c (.int .i64 (-1))), none⟩] [0, 2, 4, 6])
 (.seq (.ops [
   ⟨(some 11), .fn 75 [] [.t 4], none⟩,
   ⟨(some 7), .mv (.t 11), none⟩] [0, 2, 6, 7])
 (.seq (.seq (.ops [
   ⟨(some 12), .mv (.t 0), none⟩,
   ⟨(some 13), .nilc (.t 12), none⟩,
   ⟨(some 14), .faddr 1 (.t 13), none⟩,
   ⟨(some 15), .load none (.t 14), none⟩,
   ⟨(some 16), .lenS (.t 15), none⟩,
   ⟨(some 17), .mv (.c (.int .i64 0)), none⟩] [0, 2, 6, 7, 16, 17])
 (.block 0 (.loop (.seq (.ops [
     ⟨(some 18), .bin .lss (.t 17) (.t 16), none⟩] [0, 2, 6, 7, 16, 17, 18])
 (.seq (.cond (.t 18)
 .skip
 (.exit 0))
 (.seq (.block 1 (.seq (.ops [
      ⟨(some 19), .mv (.t 17), none⟩,
      ⟨(some 8), .mv (.t 19), none⟩] [0, 2, 6, 7, 8, 16, 17])
 (.seq (.ops [
      ⟨(some 20), .mv (.t 7), none⟩,
      ⟨(some 21), .mv (.t 8), none⟩,
      ⟨(some 22), .callv (.t 20) [.t 21], none⟩] [0, 2, 6, 7, 8, 16, 17, 22])
 (.cond (.t 22)
 (.ops [
       ⟨(some 23), .mv (.t 8), none⟩,
       ⟨(some 6), .mv (.t 23), none⟩] [0, 2, 6, 7, 16, 17])
 .skip))))
 (.ops [
     ⟨(some 24), .bin .add (.t 17) (.c (.int .i64 1)), none⟩,
     ⟨(some 17), .mv (.t 24), none⟩] [0, 2, 6, 7, 16, 17])))))))
 ir_disk_file_crash_25))))⟩

def h_disk_Disk_find : Hint := [(0, [0, 1], []), (1, [0, 1, 6], []), (2, [0, 1, 6, 14], []), (3, [4, 5], []), (4, [7, 8], []), (5, [7, 26], []), (6, [4, 5], []), (7, [4, 5], [])]
def ir_disk_Disk_find_17 : ACode := (.seq (.ops [
   ⟨(some 17), .mv (.t 0), none⟩,
   ⟨(some 18), .nilc (.t 17), none⟩,
   ⟨(some 19), .faddr 1 (.t 18), none⟩,
   ⟨(some 20), .load none (.t 19), none⟩,
   ⟨(some 21), .mv (.t 1), none⟩,
   ⟨(some 22), .lookup .str (.pointer none) true (.t 20) (.t 21), none⟩,
   ⟨(some 16), .mv (.t 22), none⟩,
   ⟨(some 23), .ext (.t 16) 0, none⟩,
   ⟨(some 24), .ext (.t 16) 1, none⟩,
   ⟨(some 7), .mv (.t 23), none⟩,
   ⟨(some 8), .mv (.t 24), none⟩] [7, 8])
 (.seq (.seq (.ops [
   ⟨(some 25), .mv (.t 8), none⟩,
   ⟨(some 26), .un .not (.t 25), none⟩] [7, 26])
 (.cond (.t 26)
 (.seq (.ops [
    ⟨(some 4), .mv (.c (.pointer none)), none⟩,
    ⟨(some 5), .mv (.c (.int .i64 4)), none⟩] [4, 5])
 .ret)
 .skip))
 (.seq (.ops [
   ⟨(some 27), .mv (.t 7), none⟩,
   ⟨(some 4), .mv (.t 27), none⟩,
   ⟨(some 5), .mv (.c (.int .i64 0)), none⟩] [4, 5])
 .ret)))
def ir_disk_Disk_find : AFunc := ⟨2, 28, [.tmp 4, .tmp 5],
 (.seq (.ops [
   ⟨(some 4), .mv (.c (.pointer none)), none⟩,
   ⟨(some 5), .mv (.c (.int .i64 0)), none⟩] [0, 1])
 (.seq (.seq (.ops [
   ⟨(some 9), .mv (.t 0), none⟩,
   ⟨(some 10), .mv (.t 1), none⟩,
   ⟨(some 11), .bslice 1 1 ([.string .empty]) [(0, 1, .t 10)], none⟩,
   ⟨(some 12), .call 53 [.t 9, .t 11], none⟩,
   ⟨(some 6), .mv (.t 12), none⟩] [0, 1, 6])
 (.seq (.ops [
   ⟨(some 13), .mv (.t 6), none⟩,
   ⟨(some 14), .bin .neq (.t 13) (.c (.int .i64 0)), none⟩] [0, 1, 6, 14])
 (.cond (.t 14)
 (.seq (.ops [
    ⟨(some 15), .mv (.t 6), none⟩,
    ⟨(some 4), .mv (.c (.pointer none)), none⟩,
    ⟨(some 5), .mv (.t 15), none⟩] [4, 5])
 .ret)
 .skip)))
 ir_disk_Disk_find_17))⟩

def h_disk_file_all : Hint := [(0, [0], []), (1, [2], [(0, 0), (1, 0), (2, 0), (3, 0), (4, 0), (5, 1), (6, 1), (7, 1), (8, 1), (9, 0), (10, 0), (11, 0)])]
def ir_disk_file_all : AFunc := ⟨1, 14, [.tmp 2],
 (.seq (.ops [
   ⟨(some 2), .mv (.c (.slice none 0 0)), none⟩] [0])
 (.seq (.dops [
   ⟨0, (some 3), .mv (.t 0), none, 0⟩,
   ⟨1, (some 4), .nilc (.t 3), none, 0⟩,
   ⟨2, (some 5), .faddr 0 (.t 4), none, 0⟩,
   ⟨3, (some 6), .load none (.t 5), none, 0⟩,
   ⟨4, (some 7), .call 55 [.t 6], none, 0⟩,
   ⟨5, (some 8), .mv (.t 0), none, 1⟩,
   ⟨6, (some 9), .nilc (.t 8), none, 1⟩,
   ⟨7, (some 10), .faddr 1 (.t 9), none, 1⟩,
   ⟨8, (some 11), .load none (.t 10), none, 1⟩,
   ⟨9, (some 12), .call 64 [.t 11], none, 0⟩,
   ⟨10, (some 13), .append 1 1 (.t 7) (.t 12), none, 0⟩,
   ⟨11, (some 2), .mv (.t 13), none, 0⟩] [2])
 .ret))⟩

def h_slices_Concat_byte_byte : Hint := [(0, [0], []), (1, [0, 3], []), (2, [0, 3, 9, 10, 11], []), (3, [0, 3, 9, 10, 11, 12], []), (4, [0, 3, 5, 9, 10, 11], []), (5, [0, 3, 9, 10, 11], []), (6, [0, 3, 9, 10, 11, 20], []), (7, [0, 3, 9, 10, 11], []), (8, [0, 3, 9, 10, 11], []), (9, [0, 6], []), (10, [6, 25, 26, 27], []), (11, [6, 25, 26, 27, 28], []), (12, [6, 8, 25, 26, 27], []), (13, [6, 25, 26, 27], []), (14, [6, 25, 26, 27], []), (15, [2], [])]
def ir_slices_Concat_byte_byte : AFunc := ⟨1, 36, [.tmp 2],
 (.seq (.ops [
   ⟨(some 2), .mv (.c (.slice none 0 0)), none⟩] [0])
 (.seq (.ops [
   ⟨(some 3), .mv (.c (.int .i64 0)), none⟩] [0, 3])
 (.seq (.seq (.ops [
   ⟨(some 9), .mv (.t 0), none⟩,
   ⟨(some 10), .lenS (.t 9), none⟩,
   ⟨(some 11), .mv (.c (.int .i64 0)), none⟩] [0, 3, 9, 10, 11])
 (.block 0
  (.loop
   (.seq (.ops [
     ⟨(some 12), .bin .lss (.t 11) (.t 10), none⟩] [0, 3, 9, 10, 11, 12])
   (.seq (.cond (.t 12)
    .skip
    (.exit 0))
   (.seq (.block 1
    (.seq (.ops [
      ⟨(some 13), .iaddrS 1 (.t 9) (.t 11), none⟩,
      ⟨(some 14), .load none (.t 13), none⟩,
      ⟨(some 5), .mv (.t 14), none⟩] [0, 3, 5, 9, 10, 11])
    (.seq (.ops [
      ⟨(some 15), .mv (.t 3), none⟩,
      ⟨(some 16), .mv (.t 5), none⟩,
      ⟨(some 17), .lenS (.t 16), none⟩,
      ⟨(some 18), .bin .add (.t 15) (.t 17), none⟩,
      ⟨(some 3), .mv (.t 18), none⟩] [0, 3, 9, 10, 11])
    (.seq (.ops [
      ⟨(some 19), .mv (.t 3), none⟩,
      ⟨(some 20), .bin .lss (.t 19) (.c (.int .i64 0)), none⟩] [0, 3, 9, 10, 11, 20])
    (.cond (.t 20)
     (.ops [
       ⟨(some 21), .bad, none⟩,
       ⟨none, .bad, none⟩] [0, 3, 9, 10, 11])
     .skip)))))
   (.ops [
     ⟨(some 22), .bin .add (.t 11) (.c (.int .i64 1)), none⟩,
     ⟨(some 11), .mv (.t 22), none⟩] [0, 3, 9, 10, 11])))))))
 (.seq (.ops [
   ⟨(some 23), .mv (.t 3), none⟩,
   ⟨(some 24), .call 80 [.c (.slice none 0 0), .t 23], none⟩,
   ⟨(some 6), .mv (.t 24), none⟩] [0, 6])
 (.seq (.seq (.ops [
   ⟨(some 25), .mv (.t 0), none⟩,
   ⟨(some 26), .lenS (.t 25), none⟩,
   ⟨(some 27), .mv (.c (.int .i64 0)), none⟩] [6, 25, 26, 27])
 (.block 2
  (.loop
   (.seq (.ops [
     ⟨(some 28), .bin .lss (.t 27) (.t 26), none⟩] [6, 25, 26, 27, 28])
   (.seq (.cond (.t 28)
    .skip
    (.exit 2))
   (.seq (.block 3
    (.seq (.ops [
      ⟨(some 29), .iaddrS 1 (.t 25) (.t 27), none⟩,
      ⟨(some 30), .load none (.t 29), none⟩,
      ⟨(some 8), .mv (.t 30), none⟩] [6, 8, 25, 26, 27])
    (.ops [
      ⟨(some 31), .mv (.t 6), none⟩,
      ⟨(some 32), .mv (.t 8), none⟩,
      ⟨(some 33), .append 1 1 (.t 31) (.t 32), none⟩,
      ⟨(some 6), .mv (.t 33), none⟩] [6, 25, 26, 27])))
   (.ops [
     ⟨(some 34), .bin .add (.t 27) (.c (.int .i64 1)), none⟩,
     ⟨(some 27), .mv (.t 34), none⟩] [6, 25, 26, 27])))))))
 (.seq (.ops [
   ⟨(some 35), .mv (.t 6), none⟩,
   ⟨(some 2), .mv (.t 35), none⟩] [2])
 .ret))))))⟩

def h_disk_good : Hint := [(0, [0], []), (1, [0, 5, 6], []), (2, [0, 5, 6, 7], []), (3, [0, 3, 5, 6], []), (4, [0, 5, 6, 18], []), (5, [2], []), (6, [0, 5, 6], []), (7, [2], [])]
def ir_disk_good_20 : ACode := (.seq (.ops [
   ⟨(some 20), .mv (.t 0), none⟩,
   ⟨(some 21), .lenStr (.t 20), none⟩,
   ⟨(some 22), .bin .geq (.t 21) (.c (.int .i64 1)), none⟩,
   ⟨(some 23), .mv (.t 22), none⟩,
   ⟨(some 24), .mv (.t 0), (some (23, true))⟩,
   ⟨(some 25), .lenStr (.t 24), (some (23, true))⟩,
   ⟨(some 26), .bin .leq (.t 25) (.c (.int .i64 20)), (some (23, true))⟩,
   ⟨(some 27), .pick (.t 23) (.t 26) (.c (.bool false)), none⟩,
   ⟨(some 2), .mv (.t 27), none⟩] [2])
 .ret)
def ir_disk_good : AFunc := ⟨1, 28, [.tmp 2],
 (.seq (.ops [
   ⟨(some 2), .mv (.c (.bool false)), none⟩] [0])
 (.seq (.seq (.ops [
   ⟨(some 4), .mv (.t 0), none⟩,
   ⟨(some 5), .lenStr (.t 4), none⟩,
   ⟨(some 6), .mv (.c (.int .i64 0)), none⟩] [0, 5, 6])
 (.block 0 (.loop (.seq (.ops [
     ⟨(some 7), .bin .lss (.t 6) (.t 5), none⟩] [0, 5, 6, 7])
 (.seq (.cond (.t 7)
 .skip
 (.exit 0))
 (.seq (.block 1 (.seq (.ops [
      ⟨(some 8), .mv (.t 6), none⟩,
      ⟨(some 3), .mv (.t 8), none⟩] [0, 3, 5, 6])
 (.seq (.ops [
      ⟨(some 9), .mv (.t 0), none⟩,
      ⟨(some 10), .mv (.t 3), none⟩,
      ⟨(some 11), .idxS (.t 9) (.t 10), none⟩,
      ⟨(some 12), .bin .lss (.t 11) (.c (.int .u8 33)), none⟩,
      ⟨(some 13), .mv (.t 12), none⟩,
      ⟨(some 14), .mv (.t 0), (some (13, false))⟩,
      ⟨(some 15), .mv (.t 3), (some (13, false))⟩,
      ⟨(some 16), .idxS (.t 14) (.t 15), (some (13, false))⟩,
      ⟨(some 17), .bin .gtr (.t 16) (.c (.int .u8 126)), (some (13, false))⟩,
      ⟨(some 18), .pick (.t 13) (.c (.bool true)) (.t 17), none⟩] [0, 5, 6, 18])
 (.cond (.t 18)
 (.seq (.ops [
       ⟨(some 2), .mv (.c (.bool false)), none⟩] [2])
 .ret)
 .skip))))
 (.ops [
     ⟨(some 19), .bin .add (.t 6) (.c (.int .i64 1)), none⟩,
     ⟨(some 6), .mv (.t 19), none⟩] [0, 5, 6])))))))
 ir_disk_good_20))⟩

def h_disk_file_size : Hint := [(0, [0], []), (1, [0, 3], []), (2, [3, 14, 15, 16], []), (3, [3, 14, 15, 16, 17], []), (4, [3, 5, 14, 15, 16], []), (5, [3, 14, 15, 16], []), (6, [3, 14, 15, 16], []), (7, [2], [])]
def ir_disk_file_size_6 : ACode := (.seq (.ops [
   ⟨(some 6), .mv (.t 0), none⟩,
   ⟨(some 7), .nilc (.t 6), none⟩,
   ⟨(some 8), .faddr 0 (.t 7), none⟩,
   ⟨(some 9), .load none (.t 8), none⟩,
   ⟨(some 10), .lenS (.t 9), none⟩,
   ⟨(some 3), .mv (.t 10), none⟩] [0, 3])
 (.seq (.seq (.ops [
   ⟨(some 11), .mv (.t 0), none⟩,
   ⟨(some 12), .nilc (.t 11), none⟩,
   ⟨(some 13), .faddr 1 (.t 12), none⟩,
   ⟨(some 14), .load none (.t 13), none⟩,
   ⟨(some 15), .lenS (.t 14), none⟩,
   ⟨(some 16), .mv (.c (.int .i64 0)), none⟩] [3, 14, 15, 16])
 (.block 0 (.loop (.seq (.ops [
     ⟨(some 17), .bin .lss (.t 16) (.t 15), none⟩] [3, 14, 15, 16, 17])
 (.seq (.cond (.t 17)
 .skip
 (.exit 0))
 (.seq (.block 1 (.seq (.ops [
      ⟨(some 18), .iaddrS 1 (.t 14) (.t 16), none⟩,
      ⟨(some 19), .load none (.t 18), none⟩,
      ⟨(some 5), .mv (.t 19), none⟩] [3, 5, 14, 15, 16])
 (.ops [
      ⟨(some 20), .mv (.t 3), none⟩,
      ⟨(some 21), .mv (.t 5), none⟩,
      ⟨(some 22), .lenS (.t 21), none⟩,
      ⟨(some 23), .bin .add (.t 20) (.t 22), none⟩,
      ⟨(some 3), .mv (.t 23), none⟩] [3, 14, 15, 16])))
 (.ops [
     ⟨(some 24), .bin .add (.t 16) (.c (.int .i64 1)), none⟩,
     ⟨(some 16), .mv (.t 24), none⟩] [3, 14, 15, 16])))))))
 (.seq (.ops [
   ⟨(some 25), .mv (.t 3), none⟩,
   ⟨(some 2), .mv (.t 25), none⟩] [2])
 .ret)))
def ir_disk_file_size : AFunc := ⟨1, 26, [.tmp 2],
 (.seq (.ops [
   ⟨(some 2), .mv (.c (.int .i64 0)), none⟩] [0])
 ir_disk_file_size_6)⟩

def h_disk_file_crash_1 : Hint := [(0, [0, 1], []), (1, [3], [])]
def ir_disk_file_crash_1 : AFunc := ⟨1, 10, [.tmp 3],
 (.seq (.ops [
   ⟨(some 3), .mv (.c (.bool false)), none⟩] [0, 1])
 (.seq (.ops [
   ⟨(some 4), .load none (.t 1), none⟩,
   ⟨(some 5), .mv (.t 0), none⟩,
   ⟨(some 6), .mn (.t 5) (.c (.int .i64 63)), none⟩,
   ⟨(some 7), .bin .shr (.t 4) (.t 6), none⟩,
   ⟨(some 8), .bin .and (.t 7) (.c (.int .u64 1)), none⟩,
   ⟨(some 9), .bin .eql (.t 8) (.c (.int .u64 1)), none⟩,
   ⟨(some 3), .mv (.t 9), none⟩] [3])
 .ret))⟩

def h_slices_Grow_byte_byte : Hint := [(0, [0, 1], []), (1, [0, 1, 6], []), (2, [0, 1], []), (3, [0, 1], []), (4, [0, 1, 16], []), (5, [0], []), (6, [4], [])]
def ir_slices_Grow_byte_byte : AFunc := ⟨2, 27, [.tmp 4],
 (.seq (.ops [
   ⟨(some 4), .mv (.c (.slice none 0 0)), none⟩] [0, 1])
 (.seq (.seq (.ops [
   ⟨(some 5), .mv (.t 1), none⟩,
   ⟨(some 6), .bin .lss (.t 5) (.c (.int .i64 0)), none⟩] [0, 1, 6])
 (.cond (.t 6)
  (.ops [
    ⟨(some 7), .bad, none⟩,
    ⟨none, .bad, none⟩] [0, 1])
  .skip))
 (.seq (.seq (.ops [
   ⟨(some 8), .mv (.t 1), none⟩,
   ⟨(some 9), .mv (.t 0), none⟩,
   ⟨(some 10), .capS (.t 9), none⟩,
   ⟨(some 11), .mv (.t 0), none⟩,
   ⟨(some 12), .lenS (.t 11), none⟩,
   ⟨(some 13), .bin .sub (.t 10) (.t 12), none⟩,
   ⟨(some 14), .bin .sub (.t 8) (.t 13), none⟩,
   ⟨(some 1), .mv (.t 14), none⟩] [0, 1])
 (.seq (.ops [
   ⟨(some 15), .mv (.t 1), none⟩,
   ⟨(some 16), .bin .gtr (.t 15) (.c (.int .i64 0)), none⟩] [0, 1, 16])
 (.cond (.t 16)
  (.ops [
    ⟨(some 17), .mv (.t 0), none⟩,
    ⟨(some 18), .mv (.t 0), none⟩,
    ⟨(some 19), .capS (.t 18), none⟩,
    ⟨(some 20), .slSl 1 (.t 17) none (some (.t 19)) none, none⟩,
    ⟨(some 21), .mv (.t 1), none⟩,
    ⟨(some 22), .appendZ 1 1 ([.int .u8 0]) (.t 20) (.t 21), none⟩,
    ⟨(some 23), .mv (.t 0), none⟩,
    ⟨(some 24), .lenS (.t 23), none⟩,
    ⟨(some 25), .slSl 1 (.t 22) none (some (.t 24)) none, none⟩,
    ⟨(some 0), .mv (.t 25), none⟩] [0])
  .skip)))
 (.seq (.ops [
   ⟨(some 26), .mv (.t 0), none⟩,
   ⟨(some 4), .mv (.t 26), none⟩] [4])
 .ret))))⟩

noncomputable def tabT : NT := (.node 54 (h_disk_Disk_size, ir_disk_Disk_size) (.node 30 (h_disk_Disk_On, ir_disk_Disk_On) (.node 27 (h_disk_New, ir_disk_New) (.node 26 (h_bandboxlaw13_awake, ir_bandboxlaw13_awake) (.node 7 (h_bandboxlaw13_DiskApart, ir_bandboxlaw13_DiskApart) .leaf .leaf) .leaf) (.node 29 (h_disk_Disk_Crash, ir_disk_Disk_Crash) (.node 28 (h_disk_Disk_Append, ir_disk_Disk_Append) .leaf .leaf) .leaf)) (.node 52 (h_disk_Disk_Power, ir_disk_Disk_Power) (.node 51 (h_disk_Disk_Lives, ir_disk_Disk_Lives) (.node 31 (h_disk_Disk_Read, ir_disk_Disk_Read) .leaf .leaf) .leaf) (.node 53 (h_disk_Disk_ask, ir_disk_Disk_ask) .leaf .leaf))) (.node 64 (h_slices_Concat_byte_byte, ir_slices_Concat_byte_byte) (.node 57 (h_disk_Disk_find, ir_disk_Disk_find) (.node 56 (h_disk_file_crash, ir_disk_file_crash) (.node 55 (h_slices_Clone_byte_byte, ir_slices_Clone_byte_byte) .leaf .leaf) .leaf) (.node 58 (h_disk_file_all, ir_disk_file_all) .leaf .leaf)) (.node 75 (h_disk_file_crash_1, ir_disk_file_crash_1) (.node 74 (h_disk_file_size, ir_disk_file_size) (.node 73 (h_disk_good, ir_disk_good) .leaf .leaf) .leaf) (.node 80 (h_slices_Grow_byte_byte, ir_slices_Grow_byte_byte) .leaf .leaf))))
noncomputable def tab : Nat → Option (Hint × AFunc) := tabT.find
abbrev n_bandboxlaw13_DiskApart : Nat := 7
abbrev n_bandboxlaw13_awake : Nat := 26
abbrev n_disk_New : Nat := 27
abbrev n_disk_Disk_Append : Nat := 28
abbrev n_disk_Disk_Crash : Nat := 29
abbrev n_disk_Disk_On : Nat := 30
abbrev n_disk_Disk_Read : Nat := 31
abbrev n_disk_Disk_Lives : Nat := 51
abbrev n_disk_Disk_Power : Nat := 52
abbrev n_disk_Disk_ask : Nat := 53
abbrev n_disk_Disk_size : Nat := 54
abbrev n_slices_Clone_byte_byte : Nat := 55
abbrev n_disk_file_crash : Nat := 56
abbrev n_disk_Disk_find : Nat := 57
abbrev n_disk_file_all : Nat := 58
abbrev n_slices_Concat_byte_byte : Nat := 64
abbrev n_disk_good : Nat := 73
abbrev n_disk_file_size : Nat := 74
abbrev n_disk_file_crash_1 : Nat := 75
abbrev n_slices_Grow_byte_byte : Nat := 80
end Go.Bb
