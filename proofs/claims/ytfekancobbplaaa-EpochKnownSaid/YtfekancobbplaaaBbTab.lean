/- The functions that this claim reaches, in short form; printed by a program of mine. -/
import Derived.Test.YtfekancobbplaaaBbG3
namespace Go.Bb
set_option maxRecDepth 20000
def h_kdf_Expand : Hint := [(0,[1,2,3],[]),(1,[1,2,3,17],[]),(2,[6,7],[]),(3,[1,2,3,8,9],[]),(4,[1,2,3,8,9,10],[]),(5,[1,2,3,8,9,10,21],[]),(6,[1,2,3,8,9,10],[]),(7,[1,2,3,8,10,11],[]),(8,[1,2,3,8,9,10],[]),(9,[1,2,3,8,9,10],[]),(10,[6,7],[])]
def ir_kdf_Expand : AFunc := ⟨3,40,[.tmp 6,.tmp 7],
 (.seq (.ops [
 ⟨some 3,.box (.t 0),none⟩,
 ⟨some 6,.mv (.c (.slice none 0 0)),none⟩,
 ⟨some 7,.mv (.c (.int .i64 0)),none⟩] [1,2,3])
 (.seq (.seq (.ops [
 ⟨some 12,.mv (.t 2),none⟩,
 ⟨some 13,.bin .lss (.t 12) (.c (.int .i64 0)),none⟩,
 ⟨some 14,.mv (.t 13),none⟩,
 ⟨some 15,.mv (.t 2),(some (14,false))⟩,
 ⟨some 16,.bin .gtr (.t 15) (.c (.int .i64 8160)),(some (14,false))⟩,
 ⟨some 17,.pick (.t 14) (.c (.bool true)) (.t 16),none⟩] [1,2,3,17])
 (.cond (.t 17)
 (.seq (.ops [
 ⟨some 6,.mv (.c (.slice none 0 0)),none⟩,
 ⟨some 7,.mv (.c (.int .i64 1)),none⟩] [6,7])
 .ret)
 .skip))
 (.seq (.ops [
 ⟨some 8,.mv (.c (.slice none 0 0)),none⟩,
 ⟨some 9,.mv (.c (.slice none 0 0)),none⟩] [1,2,3,8,9])
 (.seq (.seq (.ops [
 ⟨some 10,.mv (.c (.int .i64 1)),none⟩] [1,2,3,8,9,10])
 (.block 0
 (.loop
 (.seq (.seq (.ops [
 ⟨some 18,.mv (.t 8),none⟩,
 ⟨some 19,.lenS (.t 18),none⟩,
 ⟨some 20,.mv (.t 2),none⟩,
 ⟨some 21,.bin .lss (.t 19) (.t 20),none⟩] [1,2,3,8,9,10,21])
 (.cond (.t 21)
 .skip
 (.exit 0)))
 (.seq (.block 1
 (.seq (.ops [
 ⟨some 24,.slArr 32 1 (.t 3) none none none,none⟩,
 ⟨some 25,.mv (.t 9),none⟩,
 ⟨some 26,.mv (.t 1),none⟩,
 ⟨some 27,.mv (.t 10),none⟩,
 ⟨some 28,.conv .u8 (.t 27),none⟩,
 ⟨some 29,.bslice 1 1 ([.int .u8 0]) [(0,1,.t 28)],none⟩,
 ⟨some 30,.bslice 3 1 ([.slice none 0 0]) [(0,1,.t 25),(1,1,.t 26),(2,1,.t 29)],none⟩,
 ⟨some 31,.call 36 [.t 24,.t 30],none⟩,
 ⟨some 11,.alloc (List.replicate 32 (.int .u8 0)),none⟩,
 ⟨none,.store 32 (.t 11) (.t 31),none⟩] [1,2,3,8,10,11])
 (.seq (.ops [
 ⟨some 32,.slArr 32 1 (.t 11) none none none,none⟩,
 ⟨some 9,.mv (.t 32),none⟩] [1,2,3,8,9,10])
 (.ops [
 ⟨some 33,.mv (.t 8),none⟩,
 ⟨some 34,.mv (.t 9),none⟩,
 ⟨some 35,.append 1 1 (.t 33) (.t 34),none⟩,
 ⟨some 8,.mv (.t 35),none⟩] [1,2,3,8,9,10]))))
 (.ops [
 ⟨some 22,.mv (.t 10),none⟩,
 ⟨some 23,.bin .add (.t 22) (.c (.int .i64 1)),none⟩,
 ⟨some 10,.mv (.t 23),none⟩] [1,2,3,8,9,10]))))))
 (.seq (.ops [
 ⟨some 36,.mv (.t 8),none⟩,
 ⟨some 37,.mv (.t 2),none⟩,
 ⟨some 38,.slSl 1 (.t 36) none (some (.t 37)) none,none⟩,
 ⟨some 39,.call 55 [.t 38],none⟩,
 ⟨some 6,.mv (.t 39),none⟩,
 ⟨some 7,.mv (.c (.int .i64 0)),none⟩] [6,7])
 .ret)))))⟩

def h_kdf_Key : Hint := [(0,[1,2,4],[]),(1,[1,2,4,5],[]),(2,[2,4,5,10,11,12],[]),(3,[2,4,5,10,11,12,13],[]),(4,[2,4,5,7,10,11,12],[]),(5,[2,4,5,10,11,12],[]),(6,[2,4,5,10,11,12],[]),(7,[4,8],[]),(8,[4],[])]
def ir_kdf_Key_25 : ACode := (.seq (.ops [
 ⟨some 25,.load (some 32) (.t 2),none⟩,
 ⟨some 26,.mv (.t 5),none⟩,
 ⟨some 27,.call 33 [.t 25,.t 26,.c (.int .i64 32)],none⟩,
 ⟨some 24,.mv (.t 27),none⟩,
 ⟨some 28,.ext (.t 24) 0,none⟩,
 ⟨some 29,.ext (.t 24) 1,none⟩,
 ⟨some 8,.mv (.t 28),none⟩,
 ⟨some 9,.mv (.t 29),none⟩] [4,8])
 (.seq (.ops [
 ⟨some 30,.mv (.t 8),none⟩,
 ⟨some 31,.arrOf 32 (.t 30),none⟩,
 ⟨some 32,.load (some 32) (.t 31),none⟩,
 ⟨none,.store 32 (.t 4) (.t 32),none⟩] [4])
 .ret))
def ir_kdf_Key : AFunc := ⟨2,33,[.cell 4 (some 32)],
 (.seq (.ops [
 ⟨some 2,.box (.t 0),none⟩,
 ⟨some 4,.alloc (List.replicate 32 (.int .u8 0)),none⟩] [1,2,4])
 (.seq (.ops [
 ⟨some 5,.mv (.c (.slice none 0 0)),none⟩] [1,2,4,5])
 (.seq (.seq (.ops [
 ⟨some 10,.mv (.t 1),none⟩,
 ⟨some 11,.lenS (.t 10),none⟩,
 ⟨some 12,.mv (.c (.int .i64 0)),none⟩] [2,4,5,10,11,12])
 (.block 0 (.loop (.seq (.ops [
 ⟨some 13,.bin .lss (.t 12) (.t 11),none⟩] [2,4,5,10,11,12,13])
 (.seq (.cond (.t 13)
 .skip
 (.exit 0))
 (.seq (.block 1 (.seq (.ops [
 ⟨some 14,.iaddrS 1 (.t 10) (.t 12),none⟩,
 ⟨some 15,.load none (.t 14),none⟩,
 ⟨some 7,.mv (.t 15),none⟩] [2,4,5,7,10,11,12])
 (.ops [
 ⟨some 16,.mv (.t 5),none⟩,
 ⟨some 17,.mv (.t 7),none⟩,
 ⟨some 18,.lenStr (.t 17),none⟩,
 ⟨some 19,.conv .u64 (.t 18),none⟩,
 ⟨some 20,.call 61 [.t 16,.t 19,.c (.int .i64 2)],none⟩,
 ⟨some 21,.mv (.t 7),none⟩,
 ⟨some 22,.append 1 1 (.t 20) (.t 21),none⟩,
 ⟨some 5,.mv (.t 22),none⟩] [2,4,5,10,11,12])))
 (.ops [
 ⟨some 23,.bin .add (.t 12) (.c (.int .i64 1)),none⟩,
 ⟨some 12,.mv (.t 23),none⟩] [2,4,5,10,11,12])))))))
 ir_kdf_Key_25)))⟩

def h_kdf_Mac : Hint := [(0,[0,1,4],[]),(1,[0,1,4,12],[]),(2,[1,4,5],[]),(3,[0,1,4],[]),(4,[0,1,4,6,7],[(0,0),(1,0),(2,0),(3,0)]),(5,[0,1,4,6,7],[]),(6,[1,4,6,7],[]),(7,[1,4,6,7,26,27],[]),(8,[1,4,6,7,26,27,28],[]),(9,[1,4,6,7,8,26,27],[]),(10,[1,4,6,7,8,26,27],[]),(11,[1,4,6,7,26,27],[]),(12,[1,4,6,7,26,27],[]),(13,[4,7,9],[]),(14,[4],[])]
def ir_kdf_Mac_17 : ACode := (.seq (.dops [
 ⟨0,some 17,.mslice 1 ([.int .u8 0]) (.c (.int .i64 64)) (.c (.int .i64 64)),none,0⟩,
 ⟨1,some 18,.mslice 1 ([.int .u8 0]) (.c (.int .i64 64)) (.c (.int .i64 64)),none,0⟩,
 ⟨2,some 6,.mv (.t 17),none,0⟩,
 ⟨3,some 7,.mv (.t 18),none,0⟩] [0,1,4,6,7])
 (.seq (.ops [
 ⟨some 19,.mv (.t 6),none⟩,
 ⟨some 20,.mv (.t 0),none⟩,
 ⟨some 21,.copy 1 (.t 19) (.t 20),none⟩] [0,1,4,6,7])
 (.seq (.ops [
 ⟨some 22,.mv (.t 7),none⟩,
 ⟨some 23,.mv (.t 0),none⟩,
 ⟨some 24,.copy 1 (.t 22) (.t 23),none⟩] [1,4,6,7])
 (.seq (.seq (.ops [
 ⟨some 25,.mv (.t 6),none⟩,
 ⟨some 26,.lenS (.t 25),none⟩,
 ⟨some 27,.mv (.c (.int .i64 0)),none⟩] [1,4,6,7,26,27])
 (.block 0 (.loop (.seq (.ops [
 ⟨some 28,.bin .lss (.t 27) (.t 26),none⟩] [1,4,6,7,26,27,28])
 (.seq (.cond (.t 28)
 .skip
 (.exit 0))
 (.seq (.block 1 (.seq (.ops [
 ⟨some 29,.mv (.t 27),none⟩,
 ⟨some 8,.mv (.t 29),none⟩] [1,4,6,7,8,26,27])
 (.seq (.ops [
 ⟨some 30,.mv (.t 6),none⟩,
 ⟨some 31,.mv (.t 8),none⟩,
 ⟨some 32,.iaddrS 1 (.t 30) (.t 31),none⟩,
 ⟨some 33,.load none (.t 32),none⟩,
 ⟨some 34,.bin .xor (.t 33) (.c (.int .u8 54)),none⟩,
 ⟨some 35,.iaddrS 1 (.t 30) (.t 31),none⟩,
 ⟨none,.store 1 (.t 35) (.t 34),none⟩] [1,4,6,7,8,26,27])
 (.ops [
 ⟨some 36,.mv (.t 7),none⟩,
 ⟨some 37,.mv (.t 8),none⟩,
 ⟨some 38,.iaddrS 1 (.t 36) (.t 37),none⟩,
 ⟨some 39,.load none (.t 38),none⟩,
 ⟨some 40,.bin .xor (.t 39) (.c (.int .u8 92)),none⟩,
 ⟨some 41,.iaddrS 1 (.t 36) (.t 37),none⟩,
 ⟨none,.store 1 (.t 41) (.t 40),none⟩] [1,4,6,7,26,27]))))
 (.ops [
 ⟨some 42,.bin .add (.t 27) (.c (.int .i64 1)),none⟩,
 ⟨some 27,.mv (.t 42),none⟩] [1,4,6,7,26,27])))))))
 (.seq (.ops [
 ⟨some 43,.mv (.t 6),none⟩,
 ⟨some 44,.bslice 1 1 ([.slice none 0 0]) [(0,1,.t 43)],none⟩,
 ⟨some 45,.mv (.t 1),none⟩,
 ⟨some 46,.append 1 24 (.t 44) (.t 45),none⟩,
 ⟨some 47,.call 62 [.t 46],none⟩,
 ⟨some 9,.alloc (List.replicate 32 (.int .u8 0)),none⟩,
 ⟨none,.store 32 (.t 9) (.t 47),none⟩] [4,7,9])
 (.seq (.ops [
 ⟨some 48,.mv (.t 7),none⟩,
 ⟨some 49,.slArr 32 1 (.t 9) none none none,none⟩,
 ⟨some 50,.bslice 2 1 ([.slice none 0 0]) [(0,1,.t 48),(1,1,.t 49)],none⟩,
 ⟨some 51,.call 62 [.t 50],none⟩,
 ⟨none,.store 32 (.t 4) (.t 51),none⟩] [4])
 .ret))))))
def ir_kdf_Mac : AFunc := ⟨2,52,[.cell 4 (some 32)],
 (.seq (.ops [
 ⟨some 4,.alloc (List.replicate 32 (.int .u8 0)),none⟩] [0,1,4])
 (.seq (.seq (.ops [
 ⟨some 10,.mv (.t 0),none⟩,
 ⟨some 11,.lenS (.t 10),none⟩,
 ⟨some 12,.bin .gtr (.t 11) (.c (.int .i64 64)),none⟩] [0,1,4,12])
 (.cond (.t 12)
 (.seq (.ops [
 ⟨some 13,.mv (.t 0),none⟩,
 ⟨some 14,.bslice 1 1 ([.slice none 0 0]) [(0,1,.t 13)],none⟩,
 ⟨some 15,.call 62 [.t 14],none⟩,
 ⟨some 5,.alloc (List.replicate 32 (.int .u8 0)),none⟩,
 ⟨none,.store 32 (.t 5) (.t 15),none⟩] [1,4,5])
 (.ops [
 ⟨some 16,.slArr 32 1 (.t 5) none none none,none⟩,
 ⟨some 0,.mv (.t 16),none⟩] [0,1,4]))
 .skip))
 ir_kdf_Mac_17))⟩

def h_poly_Tag : Hint := [(0,[1,2,4],[]),(1,[1,2,4,5],[]),(2,[1,2,4,6],[(0,0),(1,0),(2,1),(3,0),(4,0),(5,0),(6,0)]),(3,[1,2,4,6,7],[]),(4,[2,4,6,7,8],[]),(5,[2,4,6,7,8,25],[]),(6,[2,4,6,7,8,9],[]),(7,[2,4,6,7,8,9,10],[]),(8,[2,4,6,7,8,9,10],[]),(9,[2,4,6,7,8,9],[(1,0),(2,0),(3,0),(4,1),(5,1),(6,0),(0,2),(7,2),(8,2),(9,2),(10,2),(11,0),(12,0),(13,3),(14,0),(15,0)]),(10,[2,4,6,7,8],[]),(11,[4,11],[(0,0),(1,0),(2,1),(3,0),(4,2),(5,0),(6,0),(7,0),(8,0),(9,0)]),(12,[4],[(0,0),(1,0),(2,0),(3,1),(4,1),(5,0),(6,0),(7,0),(8,0)])]
def ir_poly_Tag : AFunc := ⟨2,73,[.cell 4 (some 16)],
 (.seq (.ops [
 ⟨some 2,.box (.t 0),none⟩,
 ⟨some 4,.alloc (List.replicate 16 (.int .u8 0)),none⟩] [1,2,4])
 (.seq (.ops [
 ⟨some 12,.slArr 32 1 (.t 2) none (some (.c (.int .i64 16))) none,none⟩,
 ⟨some 13,.arrOf 16 (.t 12),none⟩,
 ⟨some 14,.load (some 16) (.t 13),none⟩,
 ⟨some 15,.call 40 [.t 14],none⟩,
 ⟨some 5,.alloc (List.replicate 16 (.int .u8 0)),none⟩,
 ⟨none,.store 16 (.t 5) (.t 15),none⟩] [1,2,4,5])
 (.seq (.dops [
 ⟨0,some 16,.slArr 16 1 (.t 5) none (some (.c (.int .i64 8))) none,none,0⟩,
 ⟨1,some 17,.call 63 [.t 16],none,0⟩,
 ⟨2,some 18,.slArr 16 1 (.t 5) (some (.c (.int .i64 8))) none none,none,1⟩,
 ⟨3,some 19,.call 63 [.t 18],none,0⟩,
 ⟨4,some 20,.build ([.int .u64 0,.int .u64 0]) [(0,1,.t 17),(1,1,.t 19)],none,0⟩,
 ⟨5,some 6,.alloc ([.int .u64 0,.int .u64 0]),none,0⟩,
 ⟨6,none,.store 2 (.t 6) (.t 20),none,0⟩] [1,2,4,6])
 (.seq (.ops [
 ⟨some 7,.alloc ([.int .u64 0,.int .u64 0,.int .u64 0]),none⟩] [1,2,4,6,7])
 (.seq (.seq (.ops [
 ⟨some 21,.mv (.t 1),none⟩,
 ⟨some 22,.call 64 [.t 21],none⟩,
 ⟨some 8,.mv (.t 22),none⟩] [2,4,6,7,8])
 (.block 0
 (.loop
 (.seq (.seq (.ops [
 ⟨some 23,.mv (.t 8),none⟩,
 ⟨some 24,.lenS (.t 23),none⟩,
 ⟨some 25,.bin .gtr (.t 24) (.c (.int .i64 0)),none⟩] [2,4,6,7,8,25])
 (.cond (.t 25)
 .skip
 (.exit 0)))
 (.block 1
 (.seq (.ops [
 ⟨some 26,.mv (.t 8),none⟩,
 ⟨some 27,.lenS (.t 26),none⟩,
 ⟨some 28,.mn (.t 27) (.c (.int .i64 16)),none⟩,
 ⟨some 9,.mv (.t 28),none⟩] [2,4,6,7,8,9])
 (.seq (.ops [
 ⟨some 29,.mv (.t 8),none⟩,
 ⟨some 30,.mv (.t 9),none⟩,
 ⟨some 31,.slSl 1 (.t 29) none (some (.t 30)) none,none⟩,
 ⟨some 32,.call 55 [.t 31],none⟩,
 ⟨some 33,.bslice 1 1 ([.int .u8 0]) [(0,1,.c (.int .u8 1))],none⟩,
 ⟨some 34,.append 1 1 (.t 32) (.t 33),none⟩,
 ⟨some 10,.mv (.t 34),none⟩] [2,4,6,7,8,9,10])
 (.seq (.ops [
 ⟨some 35,.mv (.t 10),none⟩,
 ⟨some 36,.mv (.t 9),none⟩,
 ⟨some 37,.bin .sub (.c (.int .i64 32)) (.t 36),none⟩,
 ⟨some 38,.appendZ 1 1 ([.int .u8 0]) (.t 35) (.t 37),none⟩,
 ⟨some 10,.mv (.t 38),none⟩] [2,4,6,7,8,9,10])
 (.seq (.dops [
 ⟨1,some 40,.mv (.t 10),none,0⟩,
 ⟨2,some 41,.slSl 1 (.t 40) none (some (.c (.int .i64 8))) none,none,0⟩,
 ⟨3,some 42,.call 63 [.t 41],none,0⟩,
 ⟨4,some 43,.mv (.t 10),none,1⟩,
 ⟨5,some 44,.slSl 1 (.t 43) (some (.c (.int .i64 8))) (some (.c (.int .i64 16))) none,none,1⟩,
 ⟨6,some 45,.call 63 [.t 44],none,0⟩,
 ⟨0,some 39,.load (some 3) (.t 7),none,2⟩,
 ⟨7,some 46,.mv (.t 10),none,2⟩,
 ⟨8,some 47,.iaddrS 1 (.t 46) (.c (.int .i64 16)),none,2⟩,
 ⟨9,some 48,.load none (.t 47),none,2⟩,
 ⟨10,some 49,.conv .u64 (.t 48),none,2⟩,
 ⟨11,some 50,.build ([.int .u64 0,.int .u64 0,.int .u64 0]) [(0,1,.t 42),(1,1,.t 45),(2,1,.t 49)],none,0⟩,
 ⟨12,some 51,.call 65 [.t 39,.t 50],none,0⟩,
 ⟨13,some 52,.load (some 2) (.t 6),none,3⟩,
 ⟨14,some 53,.call 66 [.t 51,.t 52],none,0⟩,
 ⟨15,none,.store 3 (.t 7) (.t 53),none,0⟩] [2,4,6,7,8,9])
 (.ops [
 ⟨some 54,.mv (.t 8),none⟩,
 ⟨some 55,.mv (.t 9),none⟩,
 ⟨some 56,.slSl 1 (.t 54) (some (.t 55)) none none,none⟩,
 ⟨some 8,.mv (.t 56),none⟩] [2,4,6,7,8]))))))))))
 (.seq (.dops [
 ⟨0,some 57,.load (some 3) (.t 7),none,0⟩,
 ⟨1,some 58,.call 67 [.t 57],none,0⟩,
 ⟨2,some 59,.slArr 32 1 (.t 2) (some (.c (.int .i64 16))) (some (.c (.int .i64 24))) none,none,1⟩,
 ⟨3,some 60,.call 63 [.t 59],none,0⟩,
 ⟨4,some 61,.slArr 32 1 (.t 2) (some (.c (.int .i64 24))) none none,none,2⟩,
 ⟨5,some 62,.call 63 [.t 61],none,0⟩,
 ⟨6,some 63,.build ([.int .u64 0,.int .u64 0,.int .u64 0]) [(0,1,.t 60),(1,1,.t 62)],none,0⟩,
 ⟨7,some 64,.call 65 [.t 58,.t 63],none,0⟩,
 ⟨8,some 11,.alloc ([.int .u64 0,.int .u64 0,.int .u64 0]),none,0⟩,
 ⟨9,none,.store 3 (.t 11) (.t 64),none,0⟩] [4,11])
 (.seq (.dops [
 ⟨0,some 65,.iaddrA 3 1 (.t 11) (.c (.int .i64 0)),none,0⟩,
 ⟨1,some 66,.load none (.t 65),none,0⟩,
 ⟨2,some 67,.call 68 [.c (.slice none 0 0),.t 66,.c (.int .i64 8)],none,0⟩,
 ⟨3,some 68,.iaddrA 3 1 (.t 11) (.c (.int .i64 1)),none,1⟩,
 ⟨4,some 69,.load none (.t 68),none,1⟩,
 ⟨5,some 70,.call 68 [.t 67,.t 69,.c (.int .i64 8)],none,0⟩,
 ⟨6,some 71,.arrOf 16 (.t 70),none,0⟩,
 ⟨7,some 72,.load (some 16) (.t 71),none,0⟩,
 ⟨8,none,.store 16 (.t 4) (.t 72),none,0⟩] [4])
 .ret)))))))⟩

def h_poly_Clamp : Hint := [(0,[1,2],[]),(1,[1,2,7,8,9],[]),(2,[1,2,7,8,9,10],[]),(3,[1,2,4,7,8,9],[]),(4,[1,2,7,8,9],[]),(5,[1,2,7,8,9],[]),(6,[1,2,19,20,21],[]),(7,[1,2,19,20,21,22],[]),(8,[1,2,6,19,20,21],[]),(9,[1,2,19,20,21],[]),(10,[1,2,19,20,21],[]),(11,[2],[])]
def ir_poly_Clamp : AFunc := ⟨1,32,[.cell 2 (some 16)],
 (.seq (.ops [
 ⟨some 1,.box (.t 0),none⟩,
 ⟨some 2,.alloc (List.replicate 16 (.int .u8 0)),none⟩] [1,2])
 (.seq (.seq (.ops [
 ⟨some 7,.bslice 4 1 ([.int .i64 0]) [(0,1,.c (.int .i64 3)),(1,1,.c (.int .i64 7)),(2,1,.c (.int .i64 11)),(3,1,.c (.int .i64 15))],none⟩,
 ⟨some 8,.lenS (.t 7),none⟩,
 ⟨some 9,.mv (.c (.int .i64 0)),none⟩] [1,2,7,8,9])
 (.block 0
 (.loop
 (.seq (.ops [
 ⟨some 10,.bin .lss (.t 9) (.t 8),none⟩] [1,2,7,8,9,10])
 (.seq (.cond (.t 10)
 .skip
 (.exit 0))
 (.seq (.block 1
 (.seq (.ops [
 ⟨some 11,.iaddrS 1 (.t 7) (.t 9),none⟩,
 ⟨some 12,.load none (.t 11),none⟩,
 ⟨some 4,.mv (.t 12),none⟩] [1,2,4,7,8,9])
 (.ops [
 ⟨some 13,.mv (.t 4),none⟩,
 ⟨some 14,.iaddrA 16 1 (.t 1) (.t 13),none⟩,
 ⟨some 15,.load none (.t 14),none⟩,
 ⟨some 16,.bin .and (.t 15) (.c (.int .u8 15)),none⟩,
 ⟨some 17,.iaddrA 16 1 (.t 1) (.t 13),none⟩,
 ⟨none,.store 1 (.t 17) (.t 16),none⟩] [1,2,7,8,9])))
 (.ops [
 ⟨some 18,.bin .add (.t 9) (.c (.int .i64 1)),none⟩,
 ⟨some 9,.mv (.t 18),none⟩] [1,2,7,8,9])))))))
 (.seq (.seq (.ops [
 ⟨some 19,.bslice 3 1 ([.int .i64 0]) [(0,1,.c (.int .i64 4)),(1,1,.c (.int .i64 8)),(2,1,.c (.int .i64 12))],none⟩,
 ⟨some 20,.lenS (.t 19),none⟩,
 ⟨some 21,.mv (.c (.int .i64 0)),none⟩] [1,2,19,20,21])
 (.block 2
 (.loop
 (.seq (.ops [
 ⟨some 22,.bin .lss (.t 21) (.t 20),none⟩] [1,2,19,20,21,22])
 (.seq (.cond (.t 22)
 .skip
 (.exit 2))
 (.seq (.block 3
 (.seq (.ops [
 ⟨some 23,.iaddrS 1 (.t 19) (.t 21),none⟩,
 ⟨some 24,.load none (.t 23),none⟩,
 ⟨some 6,.mv (.t 24),none⟩] [1,2,6,19,20,21])
 (.ops [
 ⟨some 25,.mv (.t 6),none⟩,
 ⟨some 26,.iaddrA 16 1 (.t 1) (.t 25),none⟩,
 ⟨some 27,.load none (.t 26),none⟩,
 ⟨some 28,.bin .and (.t 27) (.c (.int .u8 252)),none⟩,
 ⟨some 29,.iaddrA 16 1 (.t 1) (.t 25),none⟩,
 ⟨none,.store 1 (.t 29) (.t 28),none⟩] [1,2,19,20,21])))
 (.ops [
 ⟨some 30,.bin .add (.t 21) (.c (.int .i64 1)),none⟩,
 ⟨some 21,.mv (.t 30),none⟩] [1,2,19,20,21])))))))
 (.seq (.ops [
 ⟨some 31,.load (some 16) (.t 1),none⟩,
 ⟨none,.store 16 (.t 2) (.t 31),none⟩] [2])
 .ret))))⟩

def h_slices_Clone_byte_byte : Hint := [(0,[0],[]),(1,[0,4],[]),(2,[2],[]),(3,[2],[])]
def ir_slices_Clone_byte_byte : AFunc := ⟨1,8,[.tmp 2],
 (.seq (.ops [
 ⟨some 2,.mv (.c (.slice none 0 0)),none⟩] [0])
 (.seq (.seq (.ops [
 ⟨some 3,.mv (.t 0),none⟩,
 ⟨some 4,.eqv .slice false (.t 3) (.c (.slice none 0 0)),none⟩] [0,4])
 (.cond (.t 4)
 (.seq (.ops [
 ⟨some 2,.mv (.c (.slice none 0 0)),none⟩] [2])
 .ret)
 .skip))
 (.seq (.ops [
 ⟨some 5,.bslice 0 1 ([.int .u8 0]) [],none⟩,
 ⟨some 6,.mv (.t 0),none⟩,
 ⟨some 7,.append 1 1 (.t 5) (.t 6),none⟩,
 ⟨some 2,.mv (.t 7),none⟩] [2])
 .ret)))⟩

def h_octet_Big : Hint := [(0,[0,1,2],[]),(1,[1,2,7],[]),(2,[1,7,8],[]),(3,[1,7,8,16],[]),(4,[1,7,8],[]),(5,[1,7,8],[]),(6,[6],[])]
def ir_octet_Big : AFunc := ⟨3,28,[.tmp 6],
 (.seq (.ops [
 ⟨some 6,.mv (.c (.slice none 0 0)),none⟩] [0,1,2])
 (.seq (.ops [
 ⟨some 9,.mv (.t 0),none⟩,
 ⟨some 10,.call 55 [.t 9],none⟩,
 ⟨some 7,.mv (.t 10),none⟩] [1,2,7])
 (.seq (.seq (.ops [
 ⟨some 11,.mv (.t 2),none⟩,
 ⟨some 12,.mn (.t 11) (.c (.int .i64 8)),none⟩,
 ⟨some 13,.mx (.t 12) (.c (.int .i64 0)),none⟩,
 ⟨some 14,.bin .sub (.t 13) (.c (.int .i64 1)),none⟩,
 ⟨some 8,.mv (.t 14),none⟩] [1,7,8])
 (.block 0
 (.loop
 (.seq (.seq (.ops [
 ⟨some 15,.mv (.t 8),none⟩,
 ⟨some 16,.bin .geq (.t 15) (.c (.int .i64 0)),none⟩] [1,7,8,16])
 (.cond (.t 16)
 .skip
 (.exit 0)))
 (.seq (.block 1
 (.ops [
 ⟨some 19,.mv (.t 7),none⟩,
 ⟨some 20,.mv (.t 1),none⟩,
 ⟨some 21,.mv (.t 8),none⟩,
 ⟨some 22,.bin .mul (.c (.int .i64 8)) (.t 21),none⟩,
 ⟨some 23,.bin .shr (.t 20) (.t 22),none⟩,
 ⟨some 24,.conv .u8 (.t 23),none⟩,
 ⟨some 25,.bslice 1 1 ([.int .u8 0]) [(0,1,.t 24)],none⟩,
 ⟨some 26,.append 1 1 (.t 19) (.t 25),none⟩,
 ⟨some 7,.mv (.t 26),none⟩] [1,7,8]))
 (.ops [
 ⟨some 17,.mv (.t 8),none⟩,
 ⟨some 18,.bin .sub (.t 17) (.c (.int .i64 1)),none⟩,
 ⟨some 8,.mv (.t 18),none⟩] [1,7,8]))))))
 (.seq (.ops [
 ⟨some 27,.mv (.t 7),none⟩,
 ⟨some 6,.mv (.t 27),none⟩] [6])
 .ret))))⟩

def h_sha_Of : Hint := [(0,[0,2],[]),(1,[0,2,3],[]),(2,[2,3,7,8,9],[]),(3,[2,3,7,8,9,10],[]),(4,[2,3,5,7,8,9],[]),(5,[2,3,7,8,9],[]),(6,[2,3,7,8,9],[]),(7,[2],[])]
def ir_sha_Of : AFunc := ⟨1,19,[.cell 2 (some 32)],
 (.seq (.ops [
 ⟨some 2,.alloc (List.replicate 32 (.int .u8 0)),none⟩] [0,2])
 (.seq (.ops [
 ⟨some 6,.call 76 [],none⟩,
 ⟨some 3,.mv (.t 6),none⟩] [0,2,3])
 (.seq (.seq (.ops [
 ⟨some 7,.mv (.t 0),none⟩,
 ⟨some 8,.lenS (.t 7),none⟩,
 ⟨some 9,.mv (.c (.int .i64 0)),none⟩] [2,3,7,8,9])
 (.block 0
 (.loop
 (.seq (.ops [
 ⟨some 10,.bin .lss (.t 9) (.t 8),none⟩] [2,3,7,8,9,10])
 (.seq (.cond (.t 10)
 .skip
 (.exit 0))
 (.seq (.block 1
 (.seq (.ops [
 ⟨some 11,.iaddrS 1 (.t 7) (.t 9),none⟩,
 ⟨some 12,.load none (.t 11),none⟩,
 ⟨some 5,.mv (.t 12),none⟩] [2,3,5,7,8,9])
 (.ops [
 ⟨some 13,.mv (.t 3),none⟩,
 ⟨some 14,.mv (.t 5),none⟩,
 ⟨some 15,.call 77 [.t 13,.t 14],none⟩] [2,3,7,8,9])))
 (.ops [
 ⟨some 16,.bin .add (.t 9) (.c (.int .i64 1)),none⟩,
 ⟨some 9,.mv (.t 16),none⟩] [2,3,7,8,9])))))))
 (.seq (.ops [
 ⟨some 17,.mv (.t 3),none⟩,
 ⟨some 18,.call 78 [.t 17],none⟩,
 ⟨none,.store 32 (.t 2) (.t 18),none⟩] [2])
 .ret))))⟩

def h_poly_word : Hint := [(0,[0],[]),(1,[3],[]),(2,[2],[])]
def ir_poly_word : AFunc := ⟨1,11,[.tmp 2],
 (.seq (.ops [
 ⟨some 2,.mv (.c (.int .u64 0)),none⟩] [0])
 (.seq (.ops [
 ⟨some 6,.mv (.t 0),none⟩,
 ⟨some 7,.call 79 [.t 6],none⟩,
 ⟨some 5,.mv (.t 7),none⟩,
 ⟨some 8,.ext (.t 5) 0,none⟩,
 ⟨some 9,.ext (.t 5) 1,none⟩,
 ⟨some 3,.mv (.t 8),none⟩,
 ⟨some 4,.mv (.t 9),none⟩] [3])
 (.seq (.ops [
 ⟨some 10,.mv (.t 3),none⟩,
 ⟨some 2,.mv (.t 10),none⟩] [2])
 .ret)))⟩

def h_slices_Concat_byte_byte : Hint := [(0,[0],[]),(1,[0,3],[]),(2,[0,3,9,10,11],[]),(3,[0,3,9,10,11,12],[]),(4,[0,3,5,9,10,11],[]),(5,[0,3,9,10,11],[]),(6,[0,3,9,10,11,20],[]),(7,[0,3,9,10,11],[]),(8,[0,3,9,10,11],[]),(9,[0,6],[]),(10,[6,25,26,27],[]),(11,[6,25,26,27,28],[]),(12,[6,8,25,26,27],[]),(13,[6,25,26,27],[]),(14,[6,25,26,27],[]),(15,[2],[])]
def ir_slices_Concat_byte_byte : AFunc := ⟨1,36,[.tmp 2],
 (.seq (.ops [
 ⟨some 2,.mv (.c (.slice none 0 0)),none⟩] [0])
 (.seq (.ops [
 ⟨some 3,.mv (.c (.int .i64 0)),none⟩] [0,3])
 (.seq (.seq (.ops [
 ⟨some 9,.mv (.t 0),none⟩,
 ⟨some 10,.lenS (.t 9),none⟩,
 ⟨some 11,.mv (.c (.int .i64 0)),none⟩] [0,3,9,10,11])
 (.block 0
 (.loop
 (.seq (.ops [
 ⟨some 12,.bin .lss (.t 11) (.t 10),none⟩] [0,3,9,10,11,12])
 (.seq (.cond (.t 12)
 .skip
 (.exit 0))
 (.seq (.block 1
 (.seq (.ops [
 ⟨some 13,.iaddrS 1 (.t 9) (.t 11),none⟩,
 ⟨some 14,.load none (.t 13),none⟩,
 ⟨some 5,.mv (.t 14),none⟩] [0,3,5,9,10,11])
 (.seq (.ops [
 ⟨some 15,.mv (.t 3),none⟩,
 ⟨some 16,.mv (.t 5),none⟩,
 ⟨some 17,.lenS (.t 16),none⟩,
 ⟨some 18,.bin .add (.t 15) (.t 17),none⟩,
 ⟨some 3,.mv (.t 18),none⟩] [0,3,9,10,11])
 (.seq (.ops [
 ⟨some 19,.mv (.t 3),none⟩,
 ⟨some 20,.bin .lss (.t 19) (.c (.int .i64 0)),none⟩] [0,3,9,10,11,20])
 (.cond (.t 20)
 (.ops [
 ⟨some 21,.bad,none⟩,
 ⟨none,.bad,none⟩] [0,3,9,10,11])
 .skip)))))
 (.ops [
 ⟨some 22,.bin .add (.t 11) (.c (.int .i64 1)),none⟩,
 ⟨some 11,.mv (.t 22),none⟩] [0,3,9,10,11])))))))
 (.seq (.ops [
 ⟨some 23,.mv (.t 3),none⟩,
 ⟨some 24,.call 80 [.c (.slice none 0 0),.t 23],none⟩,
 ⟨some 6,.mv (.t 24),none⟩] [0,6])
 (.seq (.seq (.ops [
 ⟨some 25,.mv (.t 0),none⟩,
 ⟨some 26,.lenS (.t 25),none⟩,
 ⟨some 27,.mv (.c (.int .i64 0)),none⟩] [6,25,26,27])
 (.block 2
 (.loop
 (.seq (.ops [
 ⟨some 28,.bin .lss (.t 27) (.t 26),none⟩] [6,25,26,27,28])
 (.seq (.cond (.t 28)
 .skip
 (.exit 2))
 (.seq (.block 3
 (.seq (.ops [
 ⟨some 29,.iaddrS 1 (.t 25) (.t 27),none⟩,
 ⟨some 30,.load none (.t 29),none⟩,
 ⟨some 8,.mv (.t 30),none⟩] [6,8,25,26,27])
 (.ops [
 ⟨some 31,.mv (.t 6),none⟩,
 ⟨some 32,.mv (.t 8),none⟩,
 ⟨some 33,.append 1 1 (.t 31) (.t 32),none⟩,
 ⟨some 6,.mv (.t 33),none⟩] [6,25,26,27])))
 (.ops [
 ⟨some 34,.bin .add (.t 27) (.c (.int .i64 1)),none⟩,
 ⟨some 27,.mv (.t 34),none⟩] [6,25,26,27])))))))
 (.seq (.ops [
 ⟨some 35,.mv (.t 6),none⟩,
 ⟨some 2,.mv (.t 35),none⟩] [2])
 .ret))))))⟩

def h_poly_num_plus : Hint := [(0,[2,3,4],[]),(1,[2,3,4],[]),(2,[2,3,4,5],[]),(3,[2,3,4,5],[]),(4,[2,4],[]),(5,[4],[])]
def ir_poly_num_plus : AFunc := ⟨2,34,[.cell 4 (some 3)],
 (.seq (.ops [
 ⟨some 2,.box (.t 0),none⟩,
 ⟨some 3,.box (.t 1),none⟩,
 ⟨some 4,.alloc ([.int .u64 0,.int .u64 0,.int .u64 0]),none⟩] [2,3,4])
 (.seq (.ops [
 ⟨some 5,.mv (.c (.int .u64 0)),none⟩] [2,3,4])
 (.seq (.ops [
 ⟨some 7,.iaddrA 3 1 (.t 2) (.c (.int .i64 0)),none⟩,
 ⟨some 8,.load none (.t 7),none⟩,
 ⟨some 9,.iaddrA 3 1 (.t 3) (.c (.int .i64 0)),none⟩,
 ⟨some 10,.load none (.t 9),none⟩,
 ⟨some 11,.prim .add64 [.t 8,.t 10,.c (.int .u64 0)],none⟩,
 ⟨some 6,.mv (.t 11),none⟩,
 ⟨some 12,.ext (.t 6) 0,none⟩,
 ⟨some 13,.ext (.t 6) 1,none⟩,
 ⟨some 14,.iaddrA 3 1 (.t 2) (.c (.int .i64 0)),none⟩,
 ⟨none,.store 1 (.t 14) (.t 12),none⟩,
 ⟨some 5,.mv (.t 13),none⟩] [2,3,4,5])
 (.seq (.ops [
 ⟨some 16,.iaddrA 3 1 (.t 2) (.c (.int .i64 1)),none⟩,
 ⟨some 17,.load none (.t 16),none⟩,
 ⟨some 18,.iaddrA 3 1 (.t 3) (.c (.int .i64 1)),none⟩,
 ⟨some 19,.load none (.t 18),none⟩,
 ⟨some 20,.mv (.t 5),none⟩,
 ⟨some 21,.prim .add64 [.t 17,.t 19,.t 20],none⟩,
 ⟨some 15,.mv (.t 21),none⟩,
 ⟨some 22,.ext (.t 15) 0,none⟩,
 ⟨some 23,.ext (.t 15) 1,none⟩,
 ⟨some 24,.iaddrA 3 1 (.t 2) (.c (.int .i64 1)),none⟩,
 ⟨none,.store 1 (.t 24) (.t 22),none⟩,
 ⟨some 5,.mv (.t 23),none⟩] [2,3,4,5])
 (.seq (.ops [
 ⟨some 25,.iaddrA 3 1 (.t 2) (.c (.int .i64 2)),none⟩,
 ⟨some 26,.load none (.t 25),none⟩,
 ⟨some 27,.iaddrA 3 1 (.t 3) (.c (.int .i64 2)),none⟩,
 ⟨some 28,.load none (.t 27),none⟩,
 ⟨some 29,.mv (.t 5),none⟩,
 ⟨some 30,.bin .add (.t 28) (.t 29),none⟩,
 ⟨some 31,.bin .add (.t 26) (.t 30),none⟩,
 ⟨some 32,.iaddrA 3 1 (.t 2) (.c (.int .i64 2)),none⟩,
 ⟨none,.store 1 (.t 32) (.t 31),none⟩] [2,4])
 (.seq (.ops [
 ⟨some 33,.load (some 3) (.t 2),none⟩,
 ⟨none,.store 3 (.t 4) (.t 33),none⟩] [4])
 .ret))))))⟩

def h_poly_num_times : Hint := [(0,[2,3,4],[]),(1,[4,5],[(0,0),(1,0),(2,0),(3,0),(4,0),(5,0),(6,1),(7,1),(8,1),(9,1),(10,1),(11,0),(12,2),(13,2),(14,2),(15,2),(16,0),(17,3),(18,3),(19,3),(20,3),(21,3),(22,0),(23,4),(24,4),(25,4),(26,4),(27,0),(28,5),(29,5),(30,5),(31,5),(32,5),(33,0),(34,0),(35,0),(36,0)]),(2,[4,5,6],[]),(3,[4,5,6,7],[]),(4,[4,6,7,47,48],[]),(5,[4,6,7,47,48,49],[]),(6,[4,6,7,8,9,47,48],[]),(7,[4,6,7,8,47,48],[]),(8,[4,6,7,47,48],[]),(9,[4,6,7,47,48],[]),(10,[4,6,7,47,48],[]),(11,[4,6,10],[]),(12,[4,10,11],[]),(13,[4,10,11,84],[]),(14,[4,10,11,84,85],[]),(15,[4,10,11,84],[]),(16,[4,10,11,84],[]),(17,[4],[])]
def ir_poly_num_times : AFunc := ⟨2,92,[.cell 4 (some 3)],
 (.seq (.ops [
 ⟨some 2,.box (.t 0),none⟩,
 ⟨some 3,.box (.t 1),none⟩,
 ⟨some 4,.alloc ([.int .u64 0,.int .u64 0,.int .u64 0]),none⟩] [2,3,4])
 (.seq (.dops [
 ⟨0,some 12,.build ([.int .u64 0,.int .u64 0,.int .u64 0]) [],none,0⟩,
 ⟨1,some 13,.iaddrA 3 1 (.t 2) (.c (.int .i64 0)),none,0⟩,
 ⟨2,some 14,.load none (.t 13),none,0⟩,
 ⟨3,some 15,.iaddrA 2 1 (.t 3) (.c (.int .i64 0)),none,0⟩,
 ⟨4,some 16,.load none (.t 15),none,0⟩,
 ⟨5,some 17,.call 81 [.t 12,.t 14,.t 16],none,0⟩,
 ⟨6,some 18,.build ([.int .u64 0,.int .u64 0,.int .u64 0]) [],none,1⟩,
 ⟨7,some 19,.iaddrA 3 1 (.t 2) (.c (.int .i64 0)),none,1⟩,
 ⟨8,some 20,.load none (.t 19),none,1⟩,
 ⟨9,some 21,.iaddrA 2 1 (.t 3) (.c (.int .i64 1)),none,1⟩,
 ⟨10,some 22,.load none (.t 21),none,1⟩,
 ⟨11,some 23,.call 81 [.t 18,.t 20,.t 22],none,0⟩,
 ⟨12,some 24,.iaddrA 3 1 (.t 2) (.c (.int .i64 1)),none,2⟩,
 ⟨13,some 25,.load none (.t 24),none,2⟩,
 ⟨14,some 26,.iaddrA 2 1 (.t 3) (.c (.int .i64 0)),none,2⟩,
 ⟨15,some 27,.load none (.t 26),none,2⟩,
 ⟨16,some 28,.call 81 [.t 23,.t 25,.t 27],none,0⟩,
 ⟨17,some 29,.build ([.int .u64 0,.int .u64 0,.int .u64 0]) [],none,3⟩,
 ⟨18,some 30,.iaddrA 3 1 (.t 2) (.c (.int .i64 1)),none,3⟩,
 ⟨19,some 31,.load none (.t 30),none,3⟩,
 ⟨20,some 32,.iaddrA 2 1 (.t 3) (.c (.int .i64 1)),none,3⟩,
 ⟨21,some 33,.load none (.t 32),none,3⟩,
 ⟨22,some 34,.call 81 [.t 29,.t 31,.t 33],none,0⟩,
 ⟨23,some 35,.iaddrA 3 1 (.t 2) (.c (.int .i64 2)),none,4⟩,
 ⟨24,some 36,.load none (.t 35),none,4⟩,
 ⟨25,some 37,.iaddrA 2 1 (.t 3) (.c (.int .i64 0)),none,4⟩,
 ⟨26,some 38,.load none (.t 37),none,4⟩,
 ⟨27,some 39,.call 81 [.t 34,.t 36,.t 38],none,0⟩,
 ⟨28,some 40,.build ([.int .u64 0,.int .u64 0,.int .u64 0]) [],none,5⟩,
 ⟨29,some 41,.iaddrA 3 1 (.t 2) (.c (.int .i64 2)),none,5⟩,
 ⟨30,some 42,.load none (.t 41),none,5⟩,
 ⟨31,some 43,.iaddrA 2 1 (.t 3) (.c (.int .i64 1)),none,5⟩,
 ⟨32,some 44,.load none (.t 43),none,5⟩,
 ⟨33,some 45,.call 81 [.t 40,.t 42,.t 44],none,0⟩,
 ⟨34,some 46,.build (List.replicate 12 (.int .u64 0)) [(0,3,.t 17),(3,3,.t 28),(6,3,.t 39),(9,3,.t 45)],none,0⟩,
 ⟨35,some 5,.alloc (List.replicate 12 (.int .u64 0)),none,0⟩,
 ⟨36,none,.store 12 (.t 5) (.t 46),none,0⟩] [4,5])
 (.seq (.ops [
 ⟨some 6,.alloc ([.int .u64 0,.int .u64 0,.int .u64 0,.int .u64 0]),none⟩] [4,5,6])
 (.seq (.ops [
 ⟨some 7,.alloc ([.int .u64 0,.int .u64 0,.int .u64 0]),none⟩] [4,5,6,7])
 (.seq (.seq (.ops [
 ⟨some 47,.load (some 12) (.t 5),none⟩,
 ⟨some 48,.mv (.c (.int .i64 0)),none⟩] [4,6,7,47,48])
 (.block 0
 (.loop
 (.seq (.ops [
 ⟨some 49,.bin .lss (.t 48) (.c (.int .i64 4)),none⟩] [4,6,7,47,48,49])
 (.seq (.cond (.t 49)
 .skip
 (.exit 0))
 (.seq (.block 1
 (.seq (.ops [
 ⟨some 50,.mv (.t 48),none⟩,
 ⟨some 51,.idxA 4 3 (some 3) (.t 47) (.t 48),none⟩,
 ⟨some 9,.alloc ([.int .u64 0,.int .u64 0,.int .u64 0]),none⟩,
 ⟨some 8,.mv (.t 50),none⟩,
 ⟨none,.store 3 (.t 9) (.t 51),none⟩] [4,6,7,8,9,47,48])
 (.seq (.ops [
 ⟨some 52,.load (some 3) (.t 7),none⟩,
 ⟨some 53,.load (some 3) (.t 9),none⟩,
 ⟨some 54,.call 65 [.t 52,.t 53],none⟩,
 ⟨none,.store 3 (.t 7) (.t 54),none⟩] [4,6,7,8,47,48])
 (.seq (.ops [
 ⟨some 55,.mv (.t 8),none⟩,
 ⟨some 56,.iaddrA 3 1 (.t 7) (.c (.int .i64 0)),none⟩,
 ⟨some 57,.load none (.t 56),none⟩,
 ⟨some 58,.iaddrA 4 1 (.t 6) (.t 55),none⟩,
 ⟨none,.store 1 (.t 58) (.t 57),none⟩] [4,6,7,47,48])
 (.ops [
 ⟨some 59,.iaddrA 3 1 (.t 7) (.c (.int .i64 1)),none⟩,
 ⟨some 60,.load none (.t 59),none⟩,
 ⟨some 61,.iaddrA 3 1 (.t 7) (.c (.int .i64 2)),none⟩,
 ⟨some 62,.load none (.t 61),none⟩,
 ⟨some 63,.build ([.int .u64 0,.int .u64 0,.int .u64 0]) [(0,1,.t 60),(1,1,.t 62)],none⟩,
 ⟨none,.store 3 (.t 7) (.t 63),none⟩] [4,6,7,47,48])))))
 (.ops [
 ⟨some 64,.bin .add (.t 48) (.c (.int .i64 1)),none⟩,
 ⟨some 48,.mv (.t 64),none⟩] [4,6,7,47,48])))))))
 (.seq (.ops [
 ⟨some 65,.iaddrA 4 1 (.t 6) (.c (.int .i64 0)),none⟩,
 ⟨some 66,.load none (.t 65),none⟩,
 ⟨some 67,.iaddrA 4 1 (.t 6) (.c (.int .i64 1)),none⟩,
 ⟨some 68,.load none (.t 67),none⟩,
 ⟨some 69,.iaddrA 4 1 (.t 6) (.c (.int .i64 2)),none⟩,
 ⟨some 70,.load none (.t 69),none⟩,
 ⟨some 71,.bin .and (.t 70) (.c (.int .u64 3)),none⟩,
 ⟨some 72,.build ([.int .u64 0,.int .u64 0,.int .u64 0]) [(0,1,.t 66),(1,1,.t 68),(2,1,.t 71)],none⟩,
 ⟨some 10,.alloc ([.int .u64 0,.int .u64 0,.int .u64 0]),none⟩,
 ⟨none,.store 3 (.t 10) (.t 72),none⟩] [4,6,10])
 (.seq (.ops [
 ⟨some 73,.iaddrA 4 1 (.t 6) (.c (.int .i64 2)),none⟩,
 ⟨some 74,.load none (.t 73),none⟩,
 ⟨some 75,.bin .shr (.t 74) (.c (.int .u64 2)),none⟩,
 ⟨some 76,.iaddrA 4 1 (.t 6) (.c (.int .i64 3)),none⟩,
 ⟨some 77,.load none (.t 76),none⟩,
 ⟨some 78,.bin .shl (.t 77) (.c (.int .u64 62)),none⟩,
 ⟨some 79,.bin .or (.t 75) (.t 78),none⟩,
 ⟨some 80,.iaddrA 4 1 (.t 6) (.c (.int .i64 3)),none⟩,
 ⟨some 81,.load none (.t 80),none⟩,
 ⟨some 82,.bin .shr (.t 81) (.c (.int .u64 2)),none⟩,
 ⟨some 83,.build ([.int .u64 0,.int .u64 0,.int .u64 0]) [(0,1,.t 79),(1,1,.t 82)],none⟩,
 ⟨some 11,.alloc ([.int .u64 0,.int .u64 0,.int .u64 0]),none⟩,
 ⟨none,.store 3 (.t 11) (.t 83),none⟩] [4,10,11])
 (.seq (.seq (.ops [
 ⟨some 84,.mv (.c (.int .i64 0)),none⟩] [4,10,11,84])
 (.block 2
 (.loop
 (.seq (.ops [
 ⟨some 85,.bin .lss (.t 84) (.c (.int .i64 5)),none⟩] [4,10,11,84,85])
 (.seq (.cond (.t 85)
 .skip
 (.exit 2))
 (.seq (.block 3
 (.ops [
 ⟨some 86,.load (some 3) (.t 10),none⟩,
 ⟨some 87,.load (some 3) (.t 11),none⟩,
 ⟨some 88,.call 65 [.t 86,.t 87],none⟩,
 ⟨none,.store 3 (.t 10) (.t 88),none⟩] [4,10,11,84]))
 (.ops [
 ⟨some 89,.bin .add (.t 84) (.c (.int .i64 1)),none⟩,
 ⟨some 84,.mv (.t 89),none⟩] [4,10,11,84])))))))
 (.seq (.ops [
 ⟨some 90,.load (some 3) (.t 10),none⟩,
 ⟨some 91,.call 82 [.t 90],none⟩,
 ⟨none,.store 3 (.t 4) (.t 91),none⟩] [4])
 .ret)))))))))⟩

def h_poly_num_last : Hint := [(0,[1,2],[]),(1,[1,2],[]),(2,[1,2,3],[]),(3,[1,2,3,12],[]),(4,[2,3],[]),(5,[2],[]),(6,[2],[])]
def ir_poly_num_last : AFunc := ⟨1,19,[.cell 2 (some 3)],
 (.seq (.ops [
 ⟨some 1,.box (.t 0),none⟩,
 ⟨some 2,.alloc ([.int .u64 0,.int .u64 0,.int .u64 0]),none⟩] [1,2])
 (.seq (.ops [
 ⟨some 4,.load (some 3) (.t 1),none⟩,
 ⟨some 5,.call 82 [.t 4],none⟩,
 ⟨some 6,.call 82 [.t 5],none⟩,
 ⟨none,.store 3 (.t 1) (.t 6),none⟩] [1,2])
 (.seq (.ops [
 ⟨some 7,.load (some 3) (.t 1),none⟩,
 ⟨some 8,.build ([.int .u64 0,.int .u64 0,.int .u64 0]) [(0,1,.c (.int .u64 5))],none⟩,
 ⟨some 9,.call 65 [.t 7,.t 8],none⟩,
 ⟨some 3,.alloc ([.int .u64 0,.int .u64 0,.int .u64 0]),none⟩,
 ⟨none,.store 3 (.t 3) (.t 9),none⟩] [1,2,3])
 (.seq (.seq (.ops [
 ⟨some 10,.iaddrA 3 1 (.t 3) (.c (.int .i64 2)),none⟩,
 ⟨some 11,.load none (.t 10),none⟩,
 ⟨some 12,.bin .gtr (.t 11) (.c (.int .u64 3)),none⟩] [1,2,3,12])
 (.cond (.t 12)
 (.seq (.ops [
 ⟨some 13,.iaddrA 3 1 (.t 3) (.c (.int .i64 2)),none⟩,
 ⟨some 14,.load none (.t 13),none⟩,
 ⟨some 15,.bin .and (.t 14) (.c (.int .u64 3)),none⟩,
 ⟨some 16,.iaddrA 3 1 (.t 3) (.c (.int .i64 2)),none⟩,
 ⟨none,.store 1 (.t 16) (.t 15),none⟩] [2,3])
 (.seq (.ops [
 ⟨some 17,.load (some 3) (.t 3),none⟩,
 ⟨none,.store 3 (.t 2) (.t 17),none⟩] [2])
 .ret))
 .skip))
 (.seq (.ops [
 ⟨some 18,.load (some 3) (.t 1),none⟩,
 ⟨none,.store 3 (.t 2) (.t 18),none⟩] [2])
 .ret)))))⟩

def h_octet_Little : Hint := [(0,[0,1,2],[]),(1,[1,2,7],[]),(2,[1,7,13,14],[]),(3,[1,7,13,14,15],[]),(4,[1,7,8,13,14],[]),(5,[1,7,13,14],[]),(6,[1,7,13,14],[]),(7,[6],[])]
def ir_octet_Little : AFunc := ⟨3,27,[.tmp 6],
 (.seq (.ops [
 ⟨some 6,.mv (.c (.slice none 0 0)),none⟩] [0,1,2])
 (.seq (.ops [
 ⟨some 9,.mv (.t 0),none⟩,
 ⟨some 10,.call 55 [.t 9],none⟩,
 ⟨some 7,.mv (.t 10),none⟩] [1,2,7])
 (.seq (.seq (.ops [
 ⟨some 11,.mv (.t 2),none⟩,
 ⟨some 12,.mn (.t 11) (.c (.int .i64 8)),none⟩,
 ⟨some 13,.mx (.t 12) (.c (.int .i64 0)),none⟩,
 ⟨some 14,.mv (.c (.int .i64 0)),none⟩] [1,7,13,14])
 (.block 0
 (.loop
 (.seq (.ops [
 ⟨some 15,.bin .lss (.t 14) (.t 13),none⟩] [1,7,13,14,15])
 (.seq (.cond (.t 15)
 .skip
 (.exit 0))
 (.seq (.block 1
 (.seq (.ops [
 ⟨some 16,.mv (.t 14),none⟩,
 ⟨some 8,.mv (.t 16),none⟩] [1,7,8,13,14])
 (.ops [
 ⟨some 17,.mv (.t 7),none⟩,
 ⟨some 18,.mv (.t 1),none⟩,
 ⟨some 19,.mv (.t 8),none⟩,
 ⟨some 20,.bin .mul (.c (.int .i64 8)) (.t 19),none⟩,
 ⟨some 21,.bin .shr (.t 18) (.t 20),none⟩,
 ⟨some 22,.conv .u8 (.t 21),none⟩,
 ⟨some 23,.bslice 1 1 ([.int .u8 0]) [(0,1,.t 22)],none⟩,
 ⟨some 24,.append 1 1 (.t 17) (.t 23),none⟩,
 ⟨some 7,.mv (.t 24),none⟩] [1,7,13,14])))
 (.ops [
 ⟨some 25,.bin .add (.t 14) (.c (.int .i64 1)),none⟩,
 ⟨some 14,.mv (.t 25),none⟩] [1,7,13,14])))))))
 (.seq (.ops [
 ⟨some 26,.mv (.t 7),none⟩,
 ⟨some 6,.mv (.t 26),none⟩] [6])
 .ret))))⟩

def h_sha_New : Hint := [(0,[],[]),(1,[0],[])]
def ir_sha_New : AFunc := ⟨0,5,[.tmp 0],
 (.seq (.ops [
 ⟨some 0,.mv (.c (.pointer none)),none⟩] [])
 (.seq (.ops [
 ⟨some 1,.call 84 [],none⟩,
 ⟨some 2,.call 85 [],none⟩,
 ⟨some 3,.build ((List.replicate 72 (.int .u32 0) ++ [.slice none 0 0,.int .i64 0])) [(0,8,.t 1),(8,64,.t 2)],none⟩,
 ⟨some 4,.box (.t 3),none⟩,
 ⟨some 0,.mv (.t 4),none⟩] [0])
 .ret))⟩

def h_sha_Sum_Add : Hint := [(0,[0,1],[]),(1,[0],[]),(2,[0,27],[]),(3,[0],[(1,0),(2,0),(3,0),(4,0),(5,0),(6,0),(7,0),(8,0),(9,0),(10,0),(11,0),(12,0),(13,0),(0,1),(14,0),(15,0),(16,0)]),(4,[0],[])]
def ir_sha_Sum_Add : AFunc := ⟨2,52,[],
 (.seq (.ops [
 ⟨some 4,.mv (.t 0),none⟩,
 ⟨some 5,.nilc (.t 4),none⟩,
 ⟨some 6,.faddr 73 (.t 5),none⟩,
 ⟨some 7,.load none (.t 6),none⟩,
 ⟨some 8,.mv (.t 1),none⟩,
 ⟨some 9,.lenS (.t 8),none⟩,
 ⟨some 10,.bin .add (.t 7) (.t 9),none⟩,
 ⟨some 11,.nilc (.t 4),none⟩,
 ⟨some 12,.faddr 73 (.t 11),none⟩,
 ⟨none,.store 1 (.t 12) (.t 10),none⟩] [0,1])
 (.seq (.ops [
 ⟨some 13,.mv (.t 0),none⟩,
 ⟨some 14,.mv (.t 0),none⟩,
 ⟨some 15,.nilc (.t 14),none⟩,
 ⟨some 16,.faddr 72 (.t 15),none⟩,
 ⟨some 17,.load none (.t 16),none⟩,
 ⟨some 18,.mv (.t 1),none⟩,
 ⟨some 19,.append 1 1 (.t 17) (.t 18),none⟩,
 ⟨some 20,.nilc (.t 13),none⟩,
 ⟨some 21,.faddr 72 (.t 20),none⟩,
 ⟨none,.store 1 (.t 21) (.t 19),none⟩] [0])
 (.block 0
 (.loop
 (.seq (.seq (.ops [
 ⟨some 22,.mv (.t 0),none⟩,
 ⟨some 23,.nilc (.t 22),none⟩,
 ⟨some 24,.faddr 72 (.t 23),none⟩,
 ⟨some 25,.load none (.t 24),none⟩,
 ⟨some 26,.lenS (.t 25),none⟩,
 ⟨some 27,.bin .geq (.t 26) (.c (.int .i64 64)),none⟩] [0,27])
 (.cond (.t 27)
 .skip
 (.exit 0)))
 (.block 1
 (.seq (.dops [
 ⟨1,some 29,.mv (.t 0),none,0⟩,
 ⟨2,some 30,.nilc (.t 29),none,0⟩,
 ⟨3,some 31,.faddr 0 (.t 30),none,0⟩,
 ⟨4,some 32,.load (some 8) (.t 31),none,0⟩,
 ⟨5,some 33,.mv (.t 0),none,0⟩,
 ⟨6,some 34,.nilc (.t 33),none,0⟩,
 ⟨7,some 35,.faddr 72 (.t 34),none,0⟩,
 ⟨8,some 36,.load none (.t 35),none,0⟩,
 ⟨9,some 37,.slSl 1 (.t 36) none (some (.c (.int .i64 64))) none,none,0⟩,
 ⟨10,some 38,.mv (.t 0),none,0⟩,
 ⟨11,some 39,.nilc (.t 38),none,0⟩,
 ⟨12,some 40,.faddr 8 (.t 39),none,0⟩,
 ⟨13,some 41,.call 86 [.t 32,.t 37,.t 40],none,0⟩,
 ⟨0,some 28,.mv (.t 0),none,1⟩,
 ⟨14,some 42,.nilc (.t 28),none,0⟩,
 ⟨15,some 43,.faddr 0 (.t 42),none,0⟩,
 ⟨16,none,.store 8 (.t 43) (.t 41),none,0⟩] [0])
 (.ops [
 ⟨some 44,.mv (.t 0),none⟩,
 ⟨some 45,.mv (.t 0),none⟩,
 ⟨some 46,.nilc (.t 45),none⟩,
 ⟨some 47,.faddr 72 (.t 46),none⟩,
 ⟨some 48,.load none (.t 47),none⟩,
 ⟨some 49,.slSl 1 (.t 48) (some (.c (.int .i64 64))) none none,none⟩,
 ⟨some 50,.nilc (.t 44),none⟩,
 ⟨some 51,.faddr 72 (.t 50),none⟩,
 ⟨none,.store 1 (.t 51) (.t 49),none⟩] [0]))))))))⟩

def h_sha_Sum_Word : Hint := [(0,[0,2],[]),(1,[0,2,3],[(0,0),(1,0),(2,0),(3,0),(4,0),(5,0),(6,0),(7,0),(8,0),(9,0),(10,0)]),(2,[0,2,3],[]),(3,[2,3],[]),(4,[2,3,4],[]),(5,[2,4,33,34],[]),(6,[2,4,33,34,35],[]),(7,[2,4,5,6,33,34],[]),(8,[2,4,33,34],[(3,0),(4,0),(5,0),(0,1),(1,1),(2,1),(6,0)]),(9,[2,4,33,34],[]),(10,[2],[])]
def ir_sha_Sum_Word : AFunc := ⟨1,47,[.cell 2 (some 32)],
 (.seq (.ops [
 ⟨some 2,.alloc (List.replicate 32 (.int .u8 0)),none⟩] [0,2])
 (.seq (.dops [
 ⟨0,some 7,.mv (.t 0),none,0⟩,
 ⟨1,some 8,.nilc (.t 7),none,0⟩,
 ⟨2,some 9,.faddr 0 (.t 8),none,0⟩,
 ⟨3,some 10,.load (some 8) (.t 9),none,0⟩,
 ⟨4,some 11,.mv (.t 0),none,0⟩,
 ⟨5,some 12,.nilc (.t 11),none,0⟩,
 ⟨6,some 13,.faddr 8 (.t 12),none,0⟩,
 ⟨7,some 14,.load (some 64) (.t 13),none,0⟩,
 ⟨8,some 15,.build ((List.replicate 72 (.int .u32 0) ++ [.slice none 0 0,.int .i64 0])) [(0,8,.t 10),(8,64,.t 14)],none,0⟩,
 ⟨9,some 16,.box (.t 15),none,0⟩,
 ⟨10,some 3,.mv (.t 16),none,0⟩] [0,2,3])
 (.seq (.ops [
 ⟨some 17,.mv (.t 3),none⟩,
 ⟨some 18,.mv (.t 0),none⟩,
 ⟨some 19,.nilc (.t 18),none⟩,
 ⟨some 20,.faddr 72 (.t 19),none⟩,
 ⟨some 21,.load none (.t 20),none⟩,
 ⟨some 22,.call 77 [.t 17,.t 21],none⟩] [0,2,3])
 (.seq (.ops [
 ⟨some 23,.mv (.t 3),none⟩,
 ⟨some 24,.mv (.t 0),none⟩,
 ⟨some 25,.nilc (.t 24),none⟩,
 ⟨some 26,.faddr 73 (.t 25),none⟩,
 ⟨some 27,.load none (.t 26),none⟩,
 ⟨some 28,.call 87 [.t 27,.c (.int .i64 64),.c (.int .i64 8)],none⟩,
 ⟨some 29,.call 77 [.t 23,.t 28],none⟩] [2,3])
 (.seq (.ops [
 ⟨some 4,.alloc (List.replicate 32 (.int .u8 0)),none⟩] [2,3,4])
 (.seq (.seq (.ops [
 ⟨some 30,.mv (.t 3),none⟩,
 ⟨some 31,.nilc (.t 30),none⟩,
 ⟨some 32,.faddr 0 (.t 31),none⟩,
 ⟨some 33,.load (some 8) (.t 32),none⟩,
 ⟨some 34,.mv (.c (.int .i64 0)),none⟩] [2,4,33,34])
 (.block 0
 (.loop
 (.seq (.ops [
 ⟨some 35,.bin .lss (.t 34) (.c (.int .i64 8)),none⟩] [2,4,33,34,35])
 (.seq (.cond (.t 35)
 .skip
 (.exit 0))
 (.seq (.block 1
 (.seq (.ops [
 ⟨some 36,.mv (.t 34),none⟩,
 ⟨some 37,.idxA 8 1 none (.t 33) (.t 34),none⟩,
 ⟨some 5,.mv (.t 36),none⟩,
 ⟨some 6,.mv (.t 37),none⟩] [2,4,5,6,33,34])
 (.dops [
 ⟨3,some 41,.mv (.t 6),none,0⟩,
 ⟨4,some 42,.conv .u64 (.t 41),none,0⟩,
 ⟨5,some 43,.call 61 [.c (.slice none 0 0),.t 42,.c (.int .i64 4)],none,0⟩,
 ⟨0,some 38,.mv (.t 5),none,1⟩,
 ⟨1,some 39,.bin .mul (.c (.int .i64 4)) (.t 38),none,1⟩,
 ⟨2,some 40,.slArr 32 1 (.t 4) (some (.t 39)) none none,none,1⟩,
 ⟨6,some 44,.copy 1 (.t 40) (.t 43),none,0⟩] [2,4,33,34])))
 (.ops [
 ⟨some 45,.bin .add (.t 34) (.c (.int .i64 1)),none⟩,
 ⟨some 34,.mv (.t 45),none⟩] [2,4,33,34])))))))
 (.seq (.ops [
 ⟨some 46,.load (some 32) (.t 4),none⟩,
 ⟨none,.store 32 (.t 2) (.t 46),none⟩] [2])
 .ret)))))))⟩

def h_octet_FromLittle : Hint := [(0,[0],[]),(1,[2,3],[])]
def ir_octet_FromLittle : AFunc := ⟨1,9,[.tmp 2,.tmp 3],
 (.seq (.ops [
 ⟨some 2,.mv (.c (.int .u64 0)),none⟩,
 ⟨some 3,.mv (.c (.int .i64 0)),none⟩] [0])
 (.seq (.ops [
 ⟨some 4,.mv (.t 0),none⟩,
 ⟨some 5,.call 89 [.t 4],none⟩,
 ⟨some 6,.call 88 [.t 5],none⟩,
 ⟨some 7,.ext (.t 6) 0,none⟩,
 ⟨some 8,.ext (.t 6) 1,none⟩,
 ⟨some 2,.mv (.t 7),none⟩,
 ⟨some 3,.mv (.t 8),none⟩] [2,3])
 .ret))⟩

def h_slices_Grow_byte_byte : Hint := [(0,[0,1],[]),(1,[0,1,6],[]),(2,[0,1],[]),(3,[0,1],[]),(4,[0,1,16],[]),(5,[0],[]),(6,[4],[])]
def ir_slices_Grow_byte_byte : AFunc := ⟨2,27,[.tmp 4],
 (.seq (.ops [
 ⟨some 4,.mv (.c (.slice none 0 0)),none⟩] [0,1])
 (.seq (.seq (.ops [
 ⟨some 5,.mv (.t 1),none⟩,
 ⟨some 6,.bin .lss (.t 5) (.c (.int .i64 0)),none⟩] [0,1,6])
 (.cond (.t 6)
 (.ops [
 ⟨some 7,.bad,none⟩,
 ⟨none,.bad,none⟩] [0,1])
 .skip))
 (.seq (.seq (.ops [
 ⟨some 8,.mv (.t 1),none⟩,
 ⟨some 9,.mv (.t 0),none⟩,
 ⟨some 10,.capS (.t 9),none⟩,
 ⟨some 11,.mv (.t 0),none⟩,
 ⟨some 12,.lenS (.t 11),none⟩,
 ⟨some 13,.bin .sub (.t 10) (.t 12),none⟩,
 ⟨some 14,.bin .sub (.t 8) (.t 13),none⟩,
 ⟨some 1,.mv (.t 14),none⟩] [0,1])
 (.seq (.ops [
 ⟨some 15,.mv (.t 1),none⟩,
 ⟨some 16,.bin .gtr (.t 15) (.c (.int .i64 0)),none⟩] [0,1,16])
 (.cond (.t 16)
 (.ops [
 ⟨some 17,.mv (.t 0),none⟩,
 ⟨some 18,.mv (.t 0),none⟩,
 ⟨some 19,.capS (.t 18),none⟩,
 ⟨some 20,.slSl 1 (.t 17) none (some (.t 19)) none,none⟩,
 ⟨some 21,.mv (.t 1),none⟩,
 ⟨some 22,.appendZ 1 1 ([.int .u8 0]) (.t 20) (.t 21),none⟩,
 ⟨some 23,.mv (.t 0),none⟩,
 ⟨some 24,.lenS (.t 23),none⟩,
 ⟨some 25,.slSl 1 (.t 22) none (some (.t 24)) none,none⟩,
 ⟨some 0,.mv (.t 25),none⟩] [0])
 .skip)))
 (.seq (.ops [
 ⟨some 26,.mv (.t 0),none⟩,
 ⟨some 4,.mv (.t 26),none⟩] [4])
 .ret))))⟩

def h_poly_column : Hint := [(0,[1,2,3,6],[]),(1,[3,6,7,8],[]),(2,[6],[])]
def ir_poly_column : AFunc := ⟨3,20,[.cell 6 (some 3)],
 (.seq (.ops [
 ⟨some 3,.box (.t 0),none⟩,
 ⟨some 6,.alloc ([.int .u64 0,.int .u64 0,.int .u64 0]),none⟩] [1,2,3,6])
 (.seq (.ops [
 ⟨some 10,.mv (.t 1),none⟩,
 ⟨some 11,.mv (.t 2),none⟩,
 ⟨some 12,.call 90 [.t 10,.t 11],none⟩,
 ⟨some 9,.mv (.t 12),none⟩,
 ⟨some 13,.ext (.t 9) 0,none⟩,
 ⟨some 14,.ext (.t 9) 1,none⟩,
 ⟨some 7,.mv (.t 13),none⟩,
 ⟨some 8,.mv (.t 14),none⟩] [3,6,7,8])
 (.seq (.ops [
 ⟨some 15,.load (some 3) (.t 3),none⟩,
 ⟨some 16,.mv (.t 8),none⟩,
 ⟨some 17,.mv (.t 7),none⟩,
 ⟨some 18,.build ([.int .u64 0,.int .u64 0,.int .u64 0]) [(0,1,.t 16),(1,1,.t 17)],none⟩,
 ⟨some 19,.call 65 [.t 15,.t 18],none⟩,
 ⟨none,.store 3 (.t 6) (.t 19),none⟩] [6])
 .ret)))⟩

def h_poly_num_cut : Hint := [(0,[1,2],[]),(1,[1,2,3],[]),(2,[1,2,3],[]),(3,[1,2,4,5],[]),(4,[2],[])]
def ir_poly_num_cut : AFunc := ⟨1,23,[.cell 2 (some 3)],
 (.seq (.ops [
 ⟨some 1,.box (.t 0),none⟩,
 ⟨some 2,.alloc ([.int .u64 0,.int .u64 0,.int .u64 0]),none⟩] [1,2])
 (.seq (.ops [
 ⟨some 6,.iaddrA 3 1 (.t 1) (.c (.int .i64 2)),none⟩,
 ⟨some 7,.load none (.t 6),none⟩,
 ⟨some 8,.bin .shr (.t 7) (.c (.int .u64 2)),none⟩,
 ⟨some 3,.mv (.t 8),none⟩] [1,2,3])
 (.seq (.ops [
 ⟨some 9,.iaddrA 3 1 (.t 1) (.c (.int .i64 2)),none⟩,
 ⟨some 10,.load none (.t 9),none⟩,
 ⟨some 11,.bin .and (.t 10) (.c (.int .u64 3)),none⟩,
 ⟨some 12,.iaddrA 3 1 (.t 1) (.c (.int .i64 2)),none⟩,
 ⟨none,.store 1 (.t 12) (.t 11),none⟩] [1,2,3])
 (.seq (.ops [
 ⟨some 14,.mv (.t 3),none⟩,
 ⟨some 15,.call 90 [.t 14,.c (.int .u64 5)],none⟩,
 ⟨some 13,.mv (.t 15),none⟩,
 ⟨some 16,.ext (.t 13) 0,none⟩,
 ⟨some 17,.ext (.t 13) 1,none⟩,
 ⟨some 4,.mv (.t 16),none⟩,
 ⟨some 5,.mv (.t 17),none⟩] [1,2,4,5])
 (.seq (.ops [
 ⟨some 18,.load (some 3) (.t 1),none⟩,
 ⟨some 19,.mv (.t 5),none⟩,
 ⟨some 20,.mv (.t 4),none⟩,
 ⟨some 21,.build ([.int .u64 0,.int .u64 0,.int .u64 0]) [(0,1,.t 19),(1,1,.t 20)],none⟩,
 ⟨some 22,.call 65 [.t 18,.t 21],none⟩,
 ⟨none,.store 3 (.t 2) (.t 22),none⟩] [2])
 .ret)))))⟩

def h_sha_start : Hint := [(0,[0],[]),(1,[0],[])]
def ir_sha_start : AFunc := ⟨0,2,[.cell 0 (some 8)],
 (.seq (.ops [
 ⟨some 0,.alloc (List.replicate 8 (.int .u32 0)),none⟩] [0])
 (.seq (.ops [
 ⟨some 1,.build (List.replicate 8 (.int .u32 0)) [(0,1,.c (.int .u32 1779033703)),(1,1,.c (.int .u32 3144134277)),(2,1,.c (.int .u32 1013904242)),(3,1,.c (.int .u32 2773480762)),(4,1,.c (.int .u32 1359893119)),(5,1,.c (.int .u32 2600822924)),(6,1,.c (.int .u32 528734635)),(7,1,.c (.int .u32 1541459225))],none⟩,
 ⟨none,.store 8 (.t 0) (.t 1),none⟩] [0])
 .ret))⟩

def h_sha_constants : Hint := [(0,[0],[]),(1,[0],[])]
def ir_sha_constants_1 : ACode := (.seq (.ops [
 ⟨some 1,.build (List.replicate 64 (.int .u32 0)) [(0,1,.c (.int .u32 1116352408)),(1,1,.c (.int .u32 1899447441)),(2,1,.c (.int .u32 3049323471)),(3,1,.c (.int .u32 3921009573)),(4,1,.c (.int .u32 961987163)),(5,1,.c (.int .u32 1508970993)),(6,1,.c (.int .u32 2453635748)),(7,1,.c (.int .u32 2870763221)),(8,1,.c (.int .u32 3624381080)),(9,1,.c (.int .u32 310598401)),(10,1,.c (.int .u32 607225278)),(11,1,.c (.int .u32 1426881987)),(12,1,.c (.int .u32 1925078388)),(13,1,.c (.int .u32 2162078206)),(14,1,.c (.int .u32 2614888103)),(15,1,.c (.int .u32 3248222580)),(16,1,.c (.int .u32 3835390401)),(17,1,.c (.int .u32 4022224774)),(18,1,.c (.int .u32 264347078)),(19,1,.c (.int .u32 604807628)),(20,1,.c (.int .u32 770255983)),(21,1,.c (.int .u32 1249150122)),(22,1,.c (.int .u32 1555081692)),(23,1,.c (.int .u32 1996064986)),(24,1,.c (.int .u32 2554220882)),(25,1,.c (.int .u32 2821834349)),(26,1,.c (.int .u32 2952996808)),(27,1,.c (.int .u32 3210313671)),(28,1,.c (.int .u32 3336571891)),(29,1,.c (.int .u32 3584528711)),(30,1,.c (.int .u32 113926993)),(31,1,.c (.int .u32 338241895)),(32,1,.c (.int .u32 666307205)),(33,1,.c (.int .u32 773529912)),(34,1,.c (.int .u32 1294757372)),(35,1,.c (.int .u32 1396182291)),(36,1,.c (.int .u32 1695183700)),(37,1,.c (.int .u32 1986661051)),(38,1,.c (.int .u32 2177026350)),(39,1,.c (.int .u32 2456956037)),(40,1,.c (.int .u32 2730485921)),(41,1,.c (.int .u32 2820302411)),(42,1,.c (.int .u32 3259730800)),(43,1,.c (.int .u32 3345764771)),(44,1,.c (.int .u32 3516065817)),(45,1,.c (.int .u32 3600352804)),(46,1,.c (.int .u32 4094571909)),(47,1,.c (.int .u32 275423344)),(48,1,.c (.int .u32 430227734)),(49,1,.c (.int .u32 506948616)),(50,1,.c (.int .u32 659060556)),(51,1,.c (.int .u32 883997877)),(52,1,.c (.int .u32 958139571)),(53,1,.c (.int .u32 1322822218)),(54,1,.c (.int .u32 1537002063)),(55,1,.c (.int .u32 1747873779)),(56,1,.c (.int .u32 1955562222)),(57,1,.c (.int .u32 2024104815)),(58,1,.c (.int .u32 2227730452)),(59,1,.c (.int .u32 2361852424)),(60,1,.c (.int .u32 2428436474)),(61,1,.c (.int .u32 2756734187)),(62,1,.c (.int .u32 3204031479)),(63,1,.c (.int .u32 3329325298))],none⟩,
 ⟨none,.store 64 (.t 0) (.t 1),none⟩] [0])
 .ret)
def ir_sha_constants : AFunc := ⟨0,2,[.cell 0 (some 64)],
 (.seq (.ops [
 ⟨some 0,.alloc (List.replicate 64 (.int .u32 0)),none⟩] [0])
 ir_sha_constants_1)⟩

def h_sha_mix : Hint := [(0,[1,2,3,6],[]),(1,[2,3,6,7],[]),(2,[2,3,6,7,8],[]),(3,[2,3,6,7,8,21],[]),(4,[2,3,6,7,8,21,22],[]),(5,[2,3,6,7,8,9,21],[]),(6,[2,3,6,7,8,9,10,11,21],[(0,0),(1,0),(2,0),(3,0),(4,0),(5,0)]),(7,[2,3,6,7,8,9,10,11,12,21],[]),(8,[2,3,6,7,8,9,11,12,13,21],[]),(9,[2,3,6,7,8,11,14,21],[(0,0),(1,0),(2,0),(3,0),(4,0),(5,0),(6,0),(7,0),(8,0),(9,0),(10,0),(11,0),(12,0),(13,0),(14,0),(15,0),(16,0)]),(10,[2,3,6,7,8,11,14,15,21],[]),(11,[2,3,6,7,8,14,15,16,21],[]),(12,[2,3,6,7,8,21],[]),(13,[2,3,6,7,8,21],[]),(14,[3,6,8,108],[]),(15,[3,6,8,108,109],[]),(16,[3,6,8,17,108],[]),(17,[3,6,8,108],[(0,0),(1,0),(2,0),(3,0),(4,0),(5,0),(6,0),(7,0),(8,0)]),(18,[3,6,8,108],[]),(19,[6],[])]
def ir_sha_mix : AFunc := ⟨3,121,[.cell 6 (some 8)],
 (.seq (.ops [
 ⟨some 3,.box (.t 0),none⟩,
 ⟨some 6,.alloc (List.replicate 8 (.int .u32 0)),none⟩] [1,2,3,6])
 (.seq (.ops [
 ⟨some 18,.mv (.t 1),none⟩,
 ⟨some 19,.call 91 [.t 18],none⟩,
 ⟨some 7,.alloc (List.replicate 64 (.int .u32 0)),none⟩,
 ⟨none,.store 64 (.t 7) (.t 19),none⟩] [2,3,6,7])
 (.seq (.ops [
 ⟨some 20,.load (some 8) (.t 3),none⟩,
 ⟨some 8,.alloc (List.replicate 8 (.int .u32 0)),none⟩,
 ⟨none,.store 8 (.t 8) (.t 20),none⟩] [2,3,6,7,8])
 (.seq (.seq (.ops [
 ⟨some 21,.mv (.c (.int .i64 0)),none⟩] [2,3,6,7,8,21])
 (.block 0
 (.loop
 (.seq (.ops [
 ⟨some 22,.bin .lss (.t 21) (.c (.int .i64 64)),none⟩] [2,3,6,7,8,21,22])
 (.seq (.cond (.t 22)
 .skip
 (.exit 0))
 (.seq (.block 1
 (.seq (.ops [
 ⟨some 23,.mv (.t 21),none⟩,
 ⟨some 9,.mv (.t 23),none⟩] [2,3,6,7,8,9,21])
 (.seq (.dops [
 ⟨0,some 24,.iaddrA 8 1 (.t 8) (.c (.int .i64 4)),none,0⟩,
 ⟨1,some 25,.load none (.t 24),none,0⟩,
 ⟨2,some 26,.iaddrA 8 1 (.t 8) (.c (.int .i64 0)),none,0⟩,
 ⟨3,some 27,.load none (.t 26),none,0⟩,
 ⟨4,some 10,.mv (.t 25),none,0⟩,
 ⟨5,some 11,.mv (.t 27),none,0⟩] [2,3,6,7,8,9,10,11,21])
 (.seq (.ops [
 ⟨some 28,.mv (.t 10),none⟩,
 ⟨some 29,.call 92 [.t 28,.c (.int .i64 6)],none⟩,
 ⟨some 30,.mv (.t 10),none⟩,
 ⟨some 31,.call 92 [.t 30,.c (.int .i64 11)],none⟩,
 ⟨some 32,.bin .xor (.t 29) (.t 31),none⟩,
 ⟨some 33,.mv (.t 10),none⟩,
 ⟨some 34,.call 92 [.t 33,.c (.int .i64 25)],none⟩,
 ⟨some 35,.bin .xor (.t 32) (.t 34),none⟩,
 ⟨some 12,.mv (.t 35),none⟩] [2,3,6,7,8,9,10,11,12,21])
 (.seq (.ops [
 ⟨some 36,.mv (.t 10),none⟩,
 ⟨some 37,.iaddrA 8 1 (.t 8) (.c (.int .i64 5)),none⟩,
 ⟨some 38,.load none (.t 37),none⟩,
 ⟨some 39,.bin .and (.t 36) (.t 38),none⟩,
 ⟨some 40,.mv (.t 10),none⟩,
 ⟨some 41,.un .xor (.t 40),none⟩,
 ⟨some 42,.iaddrA 8 1 (.t 8) (.c (.int .i64 6)),none⟩,
 ⟨some 43,.load none (.t 42),none⟩,
 ⟨some 44,.bin .and (.t 41) (.t 43),none⟩,
 ⟨some 45,.bin .xor (.t 39) (.t 44),none⟩,
 ⟨some 13,.mv (.t 45),none⟩] [2,3,6,7,8,9,11,12,13,21])
 (.seq (.dops [
 ⟨0,some 46,.iaddrA 8 1 (.t 8) (.c (.int .i64 7)),none,0⟩,
 ⟨1,some 47,.load none (.t 46),none,0⟩,
 ⟨2,some 48,.mv (.t 12),none,0⟩,
 ⟨3,some 49,.bin .add (.t 47) (.t 48),none,0⟩,
 ⟨4,some 50,.mv (.t 13),none,0⟩,
 ⟨5,some 51,.bin .add (.t 49) (.t 50),none,0⟩,
 ⟨6,some 52,.mv (.t 2),none,0⟩,
 ⟨7,some 53,.mv (.t 9),none,0⟩,
 ⟨8,some 54,.nilc (.t 52),none,0⟩,
 ⟨9,some 55,.iaddrA 64 1 (.t 54) (.t 53),none,0⟩,
 ⟨10,some 56,.load none (.t 55),none,0⟩,
 ⟨11,some 57,.bin .add (.t 51) (.t 56),none,0⟩,
 ⟨12,some 58,.mv (.t 9),none,0⟩,
 ⟨13,some 59,.iaddrA 64 1 (.t 7) (.t 58),none,0⟩,
 ⟨14,some 60,.load none (.t 59),none,0⟩,
 ⟨15,some 61,.bin .add (.t 57) (.t 60),none,0⟩,
 ⟨16,some 14,.mv (.t 61),none,0⟩] [2,3,6,7,8,11,14,21])
 (.seq (.ops [
 ⟨some 62,.mv (.t 11),none⟩,
 ⟨some 63,.call 92 [.t 62,.c (.int .i64 2)],none⟩,
 ⟨some 64,.mv (.t 11),none⟩,
 ⟨some 65,.call 92 [.t 64,.c (.int .i64 13)],none⟩,
 ⟨some 66,.bin .xor (.t 63) (.t 65),none⟩,
 ⟨some 67,.mv (.t 11),none⟩,
 ⟨some 68,.call 92 [.t 67,.c (.int .i64 22)],none⟩,
 ⟨some 69,.bin .xor (.t 66) (.t 68),none⟩,
 ⟨some 15,.mv (.t 69),none⟩] [2,3,6,7,8,11,14,15,21])
 (.seq (.ops [
 ⟨some 70,.mv (.t 11),none⟩,
 ⟨some 71,.iaddrA 8 1 (.t 8) (.c (.int .i64 1)),none⟩,
 ⟨some 72,.load none (.t 71),none⟩,
 ⟨some 73,.bin .and (.t 70) (.t 72),none⟩,
 ⟨some 74,.mv (.t 11),none⟩,
 ⟨some 75,.iaddrA 8 1 (.t 8) (.c (.int .i64 2)),none⟩,
 ⟨some 76,.load none (.t 75),none⟩,
 ⟨some 77,.bin .and (.t 74) (.t 76),none⟩,
 ⟨some 78,.bin .xor (.t 73) (.t 77),none⟩,
 ⟨some 79,.iaddrA 8 1 (.t 8) (.c (.int .i64 1)),none⟩,
 ⟨some 80,.load none (.t 79),none⟩,
 ⟨some 81,.iaddrA 8 1 (.t 8) (.c (.int .i64 2)),none⟩,
 ⟨some 82,.load none (.t 81),none⟩,
 ⟨some 83,.bin .and (.t 80) (.t 82),none⟩,
 ⟨some 84,.bin .xor (.t 78) (.t 83),none⟩,
 ⟨some 16,.mv (.t 84),none⟩] [2,3,6,7,8,14,15,16,21])
 (.ops [
 ⟨some 85,.mv (.t 14),none⟩,
 ⟨some 86,.mv (.t 15),none⟩,
 ⟨some 87,.bin .add (.t 85) (.t 86),none⟩,
 ⟨some 88,.mv (.t 16),none⟩,
 ⟨some 89,.bin .add (.t 87) (.t 88),none⟩,
 ⟨some 90,.iaddrA 8 1 (.t 8) (.c (.int .i64 0)),none⟩,
 ⟨some 91,.load none (.t 90),none⟩,
 ⟨some 92,.iaddrA 8 1 (.t 8) (.c (.int .i64 1)),none⟩,
 ⟨some 93,.load none (.t 92),none⟩,
 ⟨some 94,.iaddrA 8 1 (.t 8) (.c (.int .i64 2)),none⟩,
 ⟨some 95,.load none (.t 94),none⟩,
 ⟨some 96,.iaddrA 8 1 (.t 8) (.c (.int .i64 3)),none⟩,
 ⟨some 97,.load none (.t 96),none⟩,
 ⟨some 98,.mv (.t 14),none⟩,
 ⟨some 99,.bin .add (.t 97) (.t 98),none⟩,
 ⟨some 100,.iaddrA 8 1 (.t 8) (.c (.int .i64 4)),none⟩,
 ⟨some 101,.load none (.t 100),none⟩,
 ⟨some 102,.iaddrA 8 1 (.t 8) (.c (.int .i64 5)),none⟩,
 ⟨some 103,.load none (.t 102),none⟩,
 ⟨some 104,.iaddrA 8 1 (.t 8) (.c (.int .i64 6)),none⟩,
 ⟨some 105,.load none (.t 104),none⟩,
 ⟨some 106,.build (List.replicate 8 (.int .u32 0)) [(0,1,.t 89),(1,1,.t 91),(2,1,.t 93),(3,1,.t 95),(4,1,.t 99),(5,1,.t 101),(6,1,.t 103),(7,1,.t 105)],none⟩,
 ⟨none,.store 8 (.t 8) (.t 106),none⟩] [2,3,6,7,8,21])))))))))
 (.ops [
 ⟨some 107,.bin .add (.t 21) (.c (.int .i64 1)),none⟩,
 ⟨some 21,.mv (.t 107),none⟩] [2,3,6,7,8,21])))))))
 (.seq (.seq (.ops [
 ⟨some 108,.mv (.c (.int .i64 0)),none⟩] [3,6,8,108])
 (.block 2
 (.loop
 (.seq (.ops [
 ⟨some 109,.bin .lss (.t 108) (.c (.int .i64 8)),none⟩] [3,6,8,108,109])
 (.seq (.cond (.t 109)
 .skip
 (.exit 2))
 (.seq (.block 3
 (.seq (.ops [
 ⟨some 110,.mv (.t 108),none⟩,
 ⟨some 17,.mv (.t 110),none⟩] [3,6,8,17,108])
 (.dops [
 ⟨0,some 111,.mv (.t 17),none,0⟩,
 ⟨1,some 112,.iaddrA 8 1 (.t 3) (.t 111),none,0⟩,
 ⟨2,some 113,.load none (.t 112),none,0⟩,
 ⟨3,some 114,.mv (.t 17),none,0⟩,
 ⟨4,some 115,.iaddrA 8 1 (.t 8) (.t 114),none,0⟩,
 ⟨5,some 116,.load none (.t 115),none,0⟩,
 ⟨6,some 117,.bin .add (.t 113) (.t 116),none,0⟩,
 ⟨7,some 118,.iaddrA 8 1 (.t 3) (.t 111),none,0⟩,
 ⟨8,none,.store 1 (.t 118) (.t 117),none,0⟩] [3,6,8,108])))
 (.ops [
 ⟨some 119,.bin .add (.t 108) (.c (.int .i64 1)),none⟩,
 ⟨some 108,.mv (.t 119),none⟩] [3,6,8,108])))))))
 (.seq (.ops [
 ⟨some 120,.load (some 8) (.t 3),none⟩,
 ⟨none,.store 8 (.t 6) (.t 120),none⟩] [6])
 .ret))))))⟩

def h_sha_padding : Hint := [(0,[0,1,2],[]),(1,[0,1,2,7],[]),(2,[0,1,2,7,19],[]),(3,[0,1,2,7],[]),(4,[0,7,24,25],[]),(5,[0,7,24,25,26],[]),(6,[0,7,24,25],[]),(7,[0,7,24,25],[]),(8,[6],[])]
def ir_sha_padding : AFunc := ⟨3,36,[.tmp 6],
 (.seq (.ops [
 ⟨some 6,.mv (.c (.slice none 0 0)),none⟩] [0,1,2])
 (.seq (.ops [
 ⟨some 8,.bslice 1 1 ([.int .u8 0]) [(0,1,.c (.int .u8 128))],none⟩,
 ⟨some 7,.mv (.t 8),none⟩] [0,1,2,7])
 (.seq (.block 0
 (.loop
 (.seq (.seq (.ops [
 ⟨some 9,.mv (.t 0),none⟩,
 ⟨some 10,.mv (.t 1),none⟩,
 ⟨some 11,.bin .rem (.t 9) (.t 10),none⟩,
 ⟨some 12,.mv (.t 7),none⟩,
 ⟨some 13,.lenS (.t 12),none⟩,
 ⟨some 14,.bin .add (.t 11) (.t 13),none⟩,
 ⟨some 15,.mv (.t 2),none⟩,
 ⟨some 16,.bin .add (.t 14) (.t 15),none⟩,
 ⟨some 17,.mv (.t 1),none⟩,
 ⟨some 18,.bin .rem (.t 16) (.t 17),none⟩,
 ⟨some 19,.bin .neq (.t 18) (.c (.int .i64 0)),none⟩] [0,1,2,7,19])
 (.cond (.t 19)
 .skip
 (.exit 0)))
 (.block 1
 (.ops [
 ⟨some 20,.mv (.t 7),none⟩,
 ⟨some 21,.bslice 1 1 ([.int .u8 0]) [(0,1,.c (.int .u8 0))],none⟩,
 ⟨some 22,.append 1 1 (.t 20) (.t 21),none⟩,
 ⟨some 7,.mv (.t 22),none⟩] [0,1,2,7])))))
 (.seq (.seq (.ops [
 ⟨some 23,.mv (.t 2),none⟩,
 ⟨some 24,.bin .sub (.t 23) (.c (.int .i64 8)),none⟩,
 ⟨some 25,.mv (.c (.int .i64 0)),none⟩] [0,7,24,25])
 (.block 2
 (.loop
 (.seq (.ops [
 ⟨some 26,.bin .lss (.t 25) (.t 24),none⟩] [0,7,24,25,26])
 (.seq (.cond (.t 26)
 .skip
 (.exit 2))
 (.seq (.block 3
 (.ops [
 ⟨some 27,.mv (.t 7),none⟩,
 ⟨some 28,.bslice 1 1 ([.int .u8 0]) [(0,1,.c (.int .u8 0))],none⟩,
 ⟨some 29,.append 1 1 (.t 27) (.t 28),none⟩,
 ⟨some 7,.mv (.t 29),none⟩] [0,7,24,25]))
 (.ops [
 ⟨some 30,.bin .add (.t 25) (.c (.int .i64 1)),none⟩,
 ⟨some 25,.mv (.t 30),none⟩] [0,7,24,25])))))))
 (.seq (.ops [
 ⟨some 31,.mv (.t 7),none⟩,
 ⟨some 32,.mv (.t 0),none⟩,
 ⟨some 33,.conv .u64 (.t 32),none⟩,
 ⟨some 34,.bin .mul (.t 33) (.c (.int .u64 8)),none⟩,
 ⟨some 35,.call 61 [.t 31,.t 34,.c (.int .i64 8)],none⟩,
 ⟨some 6,.mv (.t 35),none⟩] [6])
 .ret)))))⟩

def h_octet_FromBig : Hint := [(0,[0],[]),(1,[0,9],[]),(2,[2,3],[]),(3,[0,4],[]),(4,[4,10,11,12],[]),(5,[4,10,11,12,13],[]),(6,[4,6,10,11,12],[]),(7,[4,10,11,12],[]),(8,[4,10,11,12],[]),(9,[2,3],[])]
def ir_octet_FromBig : AFunc := ⟨1,23,[.tmp 2,.tmp 3],
 (.seq (.ops [
 ⟨some 2,.mv (.c (.int .u64 0)),none⟩,
 ⟨some 3,.mv (.c (.int .i64 0)),none⟩] [0])
 (.seq (.seq (.ops [
 ⟨some 7,.mv (.t 0),none⟩,
 ⟨some 8,.lenS (.t 7),none⟩,
 ⟨some 9,.bin .gtr (.t 8) (.c (.int .i64 8)),none⟩] [0,9])
 (.cond (.t 9)
 (.seq (.ops [
 ⟨some 2,.mv (.c (.int .u64 0)),none⟩,
 ⟨some 3,.mv (.c (.int .i64 1)),none⟩] [2,3])
 .ret)
 .skip))
 (.seq (.ops [
 ⟨some 4,.mv (.c (.int .u64 0)),none⟩] [0,4])
 (.seq (.seq (.ops [
 ⟨some 10,.mv (.t 0),none⟩,
 ⟨some 11,.lenS (.t 10),none⟩,
 ⟨some 12,.mv (.c (.int .i64 0)),none⟩] [4,10,11,12])
 (.block 0
 (.loop
 (.seq (.ops [
 ⟨some 13,.bin .lss (.t 12) (.t 11),none⟩] [4,10,11,12,13])
 (.seq (.cond (.t 13)
 .skip
 (.exit 0))
 (.seq (.block 1
 (.seq (.ops [
 ⟨some 14,.iaddrS 1 (.t 10) (.t 12),none⟩,
 ⟨some 15,.load none (.t 14),none⟩,
 ⟨some 6,.mv (.t 15),none⟩] [4,6,10,11,12])
 (.ops [
 ⟨some 16,.mv (.t 4),none⟩,
 ⟨some 17,.bin .shl (.t 16) (.c (.int .u64 8)),none⟩,
 ⟨some 18,.mv (.t 6),none⟩,
 ⟨some 19,.conv .u64 (.t 18),none⟩,
 ⟨some 20,.bin .or (.t 17) (.t 19),none⟩,
 ⟨some 4,.mv (.t 20),none⟩] [4,10,11,12])))
 (.ops [
 ⟨some 21,.bin .add (.t 12) (.c (.int .i64 1)),none⟩,
 ⟨some 12,.mv (.t 21),none⟩] [4,10,11,12])))))))
 (.seq (.ops [
 ⟨some 22,.mv (.t 4),none⟩,
 ⟨some 2,.mv (.t 22),none⟩,
 ⟨some 3,.mv (.c (.int .i64 0)),none⟩] [2,3])
 .ret)))))⟩

def h_octet_Turn : Hint := [(0,[0],[]),(1,[3],[]),(2,[3],[]),(3,[2],[])]
def ir_octet_Turn : AFunc := ⟨1,9,[.tmp 2],
 (.seq (.ops [
 ⟨some 2,.mv (.c (.slice none 0 0)),none⟩] [0])
 (.seq (.ops [
 ⟨some 4,.mv (.t 0),none⟩,
 ⟨some 5,.call 55 [.t 4],none⟩,
 ⟨some 3,.mv (.t 5),none⟩] [3])
 (.seq (.ops [
 ⟨some 6,.mv (.t 3),none⟩,
 ⟨some 7,.call 93 [.t 6],none⟩] [3])
 (.seq (.ops [
 ⟨some 8,.mv (.t 3),none⟩,
 ⟨some 2,.mv (.t 8),none⟩] [2])
 .ret))))⟩

def h_math_bits_Mul64 : Hint := [(0,[0,1],[]),(1,[0,1,6],[]),(2,[0,1,6,7],[]),(3,[0,1,6,7,8],[]),(4,[0,1,6,7,8,9],[]),(5,[0,1,6,7,8,9,10],[]),(6,[0,1,6,7,9,11],[]),(7,[0,1,6,7,9,11,12],[]),(8,[0,1,6,7,9,12,13],[]),(9,[0,1,7,9,12,13],[]),(10,[0,1,4],[]),(11,[4,5],[])]
def ir_math_bits_Mul64 : AFunc := ⟨2,51,[.tmp 4,.tmp 5],
 (.seq (.ops [
 ⟨some 4,.mv (.c (.int .u64 0)),none⟩,
 ⟨some 5,.mv (.c (.int .u64 0)),none⟩] [0,1])
 (.seq (.ops [
 ⟨some 14,.mv (.t 0),none⟩,
 ⟨some 15,.bin .and (.t 14) (.c (.int .u64 4294967295)),none⟩,
 ⟨some 6,.mv (.t 15),none⟩] [0,1,6])
 (.seq (.ops [
 ⟨some 16,.mv (.t 0),none⟩,
 ⟨some 17,.bin .shr (.t 16) (.c (.int .u64 32)),none⟩,
 ⟨some 7,.mv (.t 17),none⟩] [0,1,6,7])
 (.seq (.ops [
 ⟨some 18,.mv (.t 1),none⟩,
 ⟨some 19,.bin .and (.t 18) (.c (.int .u64 4294967295)),none⟩,
 ⟨some 8,.mv (.t 19),none⟩] [0,1,6,7,8])
 (.seq (.ops [
 ⟨some 20,.mv (.t 1),none⟩,
 ⟨some 21,.bin .shr (.t 20) (.c (.int .u64 32)),none⟩,
 ⟨some 9,.mv (.t 21),none⟩] [0,1,6,7,8,9])
 (.seq (.ops [
 ⟨some 22,.mv (.t 6),none⟩,
 ⟨some 23,.mv (.t 8),none⟩,
 ⟨some 24,.bin .mul (.t 22) (.t 23),none⟩,
 ⟨some 10,.mv (.t 24),none⟩] [0,1,6,7,8,9,10])
 (.seq (.ops [
 ⟨some 25,.mv (.t 7),none⟩,
 ⟨some 26,.mv (.t 8),none⟩,
 ⟨some 27,.bin .mul (.t 25) (.t 26),none⟩,
 ⟨some 28,.mv (.t 10),none⟩,
 ⟨some 29,.bin .shr (.t 28) (.c (.int .u64 32)),none⟩,
 ⟨some 30,.bin .add (.t 27) (.t 29),none⟩,
 ⟨some 11,.mv (.t 30),none⟩] [0,1,6,7,9,11])
 (.seq (.ops [
 ⟨some 31,.mv (.t 11),none⟩,
 ⟨some 32,.bin .and (.t 31) (.c (.int .u64 4294967295)),none⟩,
 ⟨some 12,.mv (.t 32),none⟩] [0,1,6,7,9,11,12])
 (.seq (.ops [
 ⟨some 33,.mv (.t 11),none⟩,
 ⟨some 34,.bin .shr (.t 33) (.c (.int .u64 32)),none⟩,
 ⟨some 13,.mv (.t 34),none⟩] [0,1,6,7,9,12,13])
 (.seq (.ops [
 ⟨some 35,.mv (.t 12),none⟩,
 ⟨some 36,.mv (.t 6),none⟩,
 ⟨some 37,.mv (.t 9),none⟩,
 ⟨some 38,.bin .mul (.t 36) (.t 37),none⟩,
 ⟨some 39,.bin .add (.t 35) (.t 38),none⟩,
 ⟨some 12,.mv (.t 39),none⟩] [0,1,7,9,12,13])
 (.seq (.ops [
 ⟨some 40,.mv (.t 7),none⟩,
 ⟨some 41,.mv (.t 9),none⟩,
 ⟨some 42,.bin .mul (.t 40) (.t 41),none⟩,
 ⟨some 43,.mv (.t 13),none⟩,
 ⟨some 44,.bin .add (.t 42) (.t 43),none⟩,
 ⟨some 45,.mv (.t 12),none⟩,
 ⟨some 46,.bin .shr (.t 45) (.c (.int .u64 32)),none⟩,
 ⟨some 47,.bin .add (.t 44) (.t 46),none⟩,
 ⟨some 4,.mv (.t 47),none⟩] [0,1,4])
 (.seq (.ops [
 ⟨some 48,.mv (.t 0),none⟩,
 ⟨some 49,.mv (.t 1),none⟩,
 ⟨some 50,.bin .mul (.t 48) (.t 49),none⟩,
 ⟨some 5,.mv (.t 50),none⟩] [4,5])
 .ret))))))))))))⟩

def h_sha_schedule : Hint := [(0,[0,2],[]),(1,[0,2,3],[]),(2,[0,2,3,11],[]),(3,[0,2,3,11,12],[]),(4,[0,2,3,4,11],[]),(5,[0,2,3,4,11,15],[]),(6,[0,2,3,4,5,11],[]),(7,[0,2,3,11],[]),(8,[0,2,3,4,7,8,11],[(0,0),(1,0),(2,0),(3,0),(4,0),(5,0),(6,0),(7,0),(8,0),(9,0)]),(9,[0,2,3,4,8,9,11],[]),(10,[0,2,3,4,9,10,11],[]),(11,[0,2,3,11],[(0,0),(1,0),(2,0),(3,0),(4,0),(5,0),(6,0),(7,0),(8,0),(9,0),(10,0),(11,0),(12,0),(13,0),(14,0),(15,0)]),(12,[0,2,3,11],[]),(13,[2],[])]
def ir_sha_schedule : AFunc := ⟨1,72,[.cell 2 (some 64)],
 (.seq (.ops [
 ⟨some 2,.alloc (List.replicate 64 (.int .u32 0)),none⟩] [0,2])
 (.seq (.ops [
 ⟨some 3,.alloc (List.replicate 64 (.int .u32 0)),none⟩] [0,2,3])
 (.seq (.seq (.ops [
 ⟨some 11,.mv (.c (.int .i64 0)),none⟩] [0,2,3,11])
 (.block 0
 (.loop
 (.seq (.ops [
 ⟨some 12,.bin .lss (.t 11) (.c (.int .i64 64)),none⟩] [0,2,3,11,12])
 (.seq (.cond (.t 12)
 .skip
 (.exit 0))
 (.seq (.block 1
 (.seq (.ops [
 ⟨some 13,.mv (.t 11),none⟩,
 ⟨some 4,.mv (.t 13),none⟩] [0,2,3,4,11])
 (.seq (.seq (.ops [
 ⟨some 14,.mv (.t 4),none⟩,
 ⟨some 15,.bin .lss (.t 14) (.c (.int .i64 16)),none⟩] [0,2,3,4,11,15])
 (.cond (.t 15)
 (.seq (.ops [
 ⟨some 17,.mv (.t 0),none⟩,
 ⟨some 18,.mv (.t 4),none⟩,
 ⟨some 19,.bin .mul (.c (.int .i64 4)) (.t 18),none⟩,
 ⟨some 20,.mv (.t 4),none⟩,
 ⟨some 21,.bin .mul (.c (.int .i64 4)) (.t 20),none⟩,
 ⟨some 22,.bin .add (.t 21) (.c (.int .i64 4)),none⟩,
 ⟨some 23,.slSl 1 (.t 17) (some (.t 19)) (some (.t 22)) none,none⟩,
 ⟨some 24,.call 88 [.t 23],none⟩,
 ⟨some 16,.mv (.t 24),none⟩,
 ⟨some 25,.ext (.t 16) 0,none⟩,
 ⟨some 26,.ext (.t 16) 1,none⟩,
 ⟨some 5,.mv (.t 25),none⟩,
 ⟨some 6,.mv (.t 26),none⟩] [0,2,3,4,5,11])
 (.seq (.ops [
 ⟨some 27,.mv (.t 4),none⟩,
 ⟨some 28,.mv (.t 5),none⟩,
 ⟨some 29,.conv .u32 (.t 28),none⟩,
 ⟨some 30,.iaddrA 64 1 (.t 3) (.t 27),none⟩,
 ⟨none,.store 1 (.t 30) (.t 29),none⟩] [0,2,3,11])
 (.exit 1)))
 .skip))
 (.seq (.dops [
 ⟨0,some 31,.mv (.t 4),none,0⟩,
 ⟨1,some 32,.bin .sub (.t 31) (.c (.int .i64 15)),none,0⟩,
 ⟨2,some 33,.iaddrA 64 1 (.t 3) (.t 32),none,0⟩,
 ⟨3,some 34,.load none (.t 33),none,0⟩,
 ⟨4,some 35,.mv (.t 4),none,0⟩,
 ⟨5,some 36,.bin .sub (.t 35) (.c (.int .i64 2)),none,0⟩,
 ⟨6,some 37,.iaddrA 64 1 (.t 3) (.t 36),none,0⟩,
 ⟨7,some 38,.load none (.t 37),none,0⟩,
 ⟨8,some 7,.mv (.t 34),none,0⟩,
 ⟨9,some 8,.mv (.t 38),none,0⟩] [0,2,3,4,7,8,11])
 (.seq (.ops [
 ⟨some 39,.mv (.t 7),none⟩,
 ⟨some 40,.call 92 [.t 39,.c (.int .i64 7)],none⟩,
 ⟨some 41,.mv (.t 7),none⟩,
 ⟨some 42,.call 92 [.t 41,.c (.int .i64 18)],none⟩,
 ⟨some 43,.bin .xor (.t 40) (.t 42),none⟩,
 ⟨some 44,.mv (.t 7),none⟩,
 ⟨some 45,.bin .shr (.t 44) (.c (.int .u64 3)),none⟩,
 ⟨some 46,.bin .xor (.t 43) (.t 45),none⟩,
 ⟨some 9,.mv (.t 46),none⟩] [0,2,3,4,8,9,11])
 (.seq (.ops [
 ⟨some 47,.mv (.t 8),none⟩,
 ⟨some 48,.call 92 [.t 47,.c (.int .i64 17)],none⟩,
 ⟨some 49,.mv (.t 8),none⟩,
 ⟨some 50,.call 92 [.t 49,.c (.int .i64 19)],none⟩,
 ⟨some 51,.bin .xor (.t 48) (.t 50),none⟩,
 ⟨some 52,.mv (.t 8),none⟩,
 ⟨some 53,.bin .shr (.t 52) (.c (.int .u64 10)),none⟩,
 ⟨some 54,.bin .xor (.t 51) (.t 53),none⟩,
 ⟨some 10,.mv (.t 54),none⟩] [0,2,3,4,9,10,11])
 (.dops [
 ⟨0,some 55,.mv (.t 4),none,0⟩,
 ⟨1,some 56,.mv (.t 4),none,0⟩,
 ⟨2,some 57,.bin .sub (.t 56) (.c (.int .i64 16)),none,0⟩,
 ⟨3,some 58,.iaddrA 64 1 (.t 3) (.t 57),none,0⟩,
 ⟨4,some 59,.load none (.t 58),none,0⟩,
 ⟨5,some 60,.mv (.t 9),none,0⟩,
 ⟨6,some 61,.bin .add (.t 59) (.t 60),none,0⟩,
 ⟨7,some 62,.mv (.t 4),none,0⟩,
 ⟨8,some 63,.bin .sub (.t 62) (.c (.int .i64 7)),none,0⟩,
 ⟨9,some 64,.iaddrA 64 1 (.t 3) (.t 63),none,0⟩,
 ⟨10,some 65,.load none (.t 64),none,0⟩,
 ⟨11,some 66,.bin .add (.t 61) (.t 65),none,0⟩,
 ⟨12,some 67,.mv (.t 10),none,0⟩,
 ⟨13,some 68,.bin .add (.t 66) (.t 67),none,0⟩,
 ⟨14,some 69,.iaddrA 64 1 (.t 3) (.t 55),none,0⟩,
 ⟨15,none,.store 1 (.t 69) (.t 68),none,0⟩] [0,2,3,11])))))))
 (.ops [
 ⟨some 70,.bin .add (.t 11) (.c (.int .i64 1)),none⟩,
 ⟨some 11,.mv (.t 70),none⟩] [0,2,3,11])))))))
 (.seq (.ops [
 ⟨some 71,.load (some 64) (.t 3),none⟩,
 ⟨none,.store 64 (.t 2) (.t 71),none⟩] [2])
 .ret))))⟩

def h_sha_turn : Hint := [(0,[0,1],[]),(1,[4],[])]
def ir_sha_turn : AFunc := ⟨2,9,[.tmp 4],
 (.seq (.ops [
 ⟨some 4,.mv (.c (.int .u32 0)),none⟩] [0,1])
 (.seq (.ops [
 ⟨some 5,.mv (.t 0),none⟩,
 ⟨some 6,.mv (.t 1),none⟩,
 ⟨some 7,.un .neg (.t 6),none⟩,
 ⟨some 8,.call 94 [.t 5,.t 7],none⟩,
 ⟨some 4,.mv (.t 8),none⟩] [4])
 .ret))⟩

def h_slices_Reverse_byte_byte : Hint := [(0,[0,2,3],[]),(1,[0,2,3,9],[]),(2,[0,2,3],[]),(3,[0,2,3],[(0,0),(1,0),(4,0),(5,0),(6,0),(7,0),(8,0),(9,0),(10,0),(11,0),(12,0),(13,0),(2,1),(3,1),(14,0),(15,0)])]
def ir_slices_Reverse_byte_byte : AFunc := ⟨1,28,[],
 (.seq (.ops [
 ⟨some 4,.mv (.t 0),none⟩,
 ⟨some 5,.lenS (.t 4),none⟩,
 ⟨some 6,.bin .sub (.t 5) (.c (.int .i64 1)),none⟩,
 ⟨some 2,.mv (.c (.int .i64 0)),none⟩,
 ⟨some 3,.mv (.t 6),none⟩] [0,2,3])
 (.block 0
 (.loop
 (.seq (.seq (.ops [
 ⟨some 7,.mv (.t 2),none⟩,
 ⟨some 8,.mv (.t 3),none⟩,
 ⟨some 9,.bin .lss (.t 7) (.t 8),none⟩] [0,2,3,9])
 (.cond (.t 9)
 .skip
 (.exit 0)))
 (.seq (.block 1
 (.dops [
 ⟨0,some 14,.mv (.t 0),none,0⟩,
 ⟨1,some 15,.mv (.t 2),none,0⟩,
 ⟨4,some 18,.mv (.t 0),none,0⟩,
 ⟨5,some 19,.mv (.t 3),none,0⟩,
 ⟨6,some 20,.iaddrS 1 (.t 18) (.t 19),none,0⟩,
 ⟨7,some 21,.load none (.t 20),none,0⟩,
 ⟨8,some 22,.mv (.t 0),none,0⟩,
 ⟨9,some 23,.mv (.t 2),none,0⟩,
 ⟨10,some 24,.iaddrS 1 (.t 22) (.t 23),none,0⟩,
 ⟨11,some 25,.load none (.t 24),none,0⟩,
 ⟨12,some 26,.iaddrS 1 (.t 14) (.t 15),none,0⟩,
 ⟨13,none,.store 1 (.t 26) (.t 21),none,0⟩,
 ⟨2,some 16,.mv (.t 0),none,1⟩,
 ⟨3,some 17,.mv (.t 3),none,1⟩,
 ⟨14,some 27,.iaddrS 1 (.t 16) (.t 17),none,0⟩,
 ⟨15,none,.store 1 (.t 27) (.t 25),none,0⟩] [0,2,3]))
 (.ops [
 ⟨some 10,.mv (.t 2),none⟩,
 ⟨some 11,.bin .add (.t 10) (.c (.int .i64 1)),none⟩,
 ⟨some 12,.mv (.t 3),none⟩,
 ⟨some 13,.bin .sub (.t 12) (.c (.int .i64 1)),none⟩,
 ⟨some 2,.mv (.t 11),none⟩,
 ⟨some 3,.mv (.t 13),none⟩] [0,2,3]))))))⟩

def h_math_bits_RotateLeft32 : Hint := [(0,[0,1],[]),(1,[0,5],[]),(2,[4],[])]
def ir_math_bits_RotateLeft32 : AFunc := ⟨2,17,[.tmp 4],
 (.seq (.ops [
 ⟨some 4,.mv (.c (.int .u32 0)),none⟩] [0,1])
 (.seq (.ops [
 ⟨some 6,.mv (.t 1),none⟩,
 ⟨some 7,.conv .u64 (.t 6),none⟩,
 ⟨some 8,.bin .and (.t 7) (.c (.int .u64 31)),none⟩,
 ⟨some 5,.mv (.t 8),none⟩] [0,5])
 (.seq (.ops [
 ⟨some 9,.mv (.t 0),none⟩,
 ⟨some 10,.mv (.t 5),none⟩,
 ⟨some 11,.bin .shl (.t 9) (.t 10),none⟩,
 ⟨some 12,.mv (.t 0),none⟩,
 ⟨some 13,.mv (.t 5),none⟩,
 ⟨some 14,.bin .sub (.c (.int .u64 32)) (.t 13),none⟩,
 ⟨some 15,.bin .shr (.t 12) (.t 14),none⟩,
 ⟨some 16,.bin .or (.t 11) (.t 15),none⟩,
 ⟨some 4,.mv (.t 16),none⟩] [4])
 .ret)))⟩

def h_aead_Seal : Hint := [(0,[2,3,4,5],[]),(1,[2,3,4,5,15],[]),(2,[8,9],[]),(3,[3,4,5,10,11],[]),(4,[3,4,5,10,11,24],[]),(5,[8,9],[]),(6,[10,12],[]),(7,[8,9],[])]
def ir_aead_Seal_23 : ACode := (.seq (.seq (.ops [
 ⟨some 23,.mv (.t 11),none⟩,
 ⟨some 24,.bin .neq (.t 23) (.c (.int .i64 0)),none⟩] [3,4,5,10,11,24])
 (.cond (.t 24)
 (.seq (.ops [
 ⟨some 25,.mv (.t 11),none⟩,
 ⟨some 8,.mv (.c (.slice none 0 0)),none⟩,
 ⟨some 9,.mv (.t 25),none⟩] [8,9])
 .ret)
 .skip))
 (.seq (.ops [
 ⟨some 26,.load (some 32) (.t 4),none⟩,
 ⟨some 27,.load (some 12) (.t 5),none⟩,
 ⟨some 28,.mv (.t 10),none⟩,
 ⟨some 29,.mv (.t 3),none⟩,
 ⟨some 30,.call 128 [.t 26,.t 27,.t 28,.t 29],none⟩,
 ⟨some 12,.alloc (List.replicate 16 (.int .u8 0)),none⟩,
 ⟨none,.store 16 (.t 12) (.t 30),none⟩] [10,12])
 (.seq (.ops [
 ⟨some 31,.mv (.t 10),none⟩,
 ⟨some 32,.slArr 16 1 (.t 12) none none none,none⟩,
 ⟨some 33,.append 1 1 (.t 31) (.t 32),none⟩,
 ⟨some 8,.mv (.t 33),none⟩,
 ⟨some 9,.mv (.c (.int .i64 0)),none⟩] [8,9])
 .ret)))
def ir_aead_Seal : AFunc := ⟨4,34,[.tmp 8,.tmp 9],
 (.seq (.ops [
 ⟨some 4,.box (.t 0),none⟩,
 ⟨some 5,.box (.t 1),none⟩,
 ⟨some 8,.mv (.c (.slice none 0 0)),none⟩,
 ⟨some 9,.mv (.c (.int .i64 0)),none⟩] [2,3,4,5])
 (.seq (.seq (.ops [
 ⟨some 13,.mv (.t 2),none⟩,
 ⟨some 14,.lenS (.t 13),none⟩,
 ⟨some 15,.bin .gtr (.t 14) (.c (.int .i64 65536)),none⟩] [2,3,4,5,15])
 (.cond (.t 15)
 (.seq (.ops [
 ⟨some 8,.mv (.c (.slice none 0 0)),none⟩,
 ⟨some 9,.mv (.c (.int .i64 2)),none⟩] [8,9])
 .ret)
 .skip))
 (.seq (.ops [
 ⟨some 17,.load (some 32) (.t 4),none⟩,
 ⟨some 18,.load (some 12) (.t 5),none⟩,
 ⟨some 19,.mv (.t 2),none⟩,
 ⟨some 20,.call 127 [.t 17,.c (.int .u32 1),.t 18,.t 19],none⟩,
 ⟨some 16,.mv (.t 20),none⟩,
 ⟨some 21,.ext (.t 16) 0,none⟩,
 ⟨some 22,.ext (.t 16) 1,none⟩,
 ⟨some 10,.mv (.t 21),none⟩,
 ⟨some 11,.mv (.t 22),none⟩] [3,4,5,10,11])
 ir_aead_Seal_23)))⟩

def h_aead_Open : Hint := [(0,[2,3,4,5],[]),(1,[2,3,4,5,15],[]),(2,[8,9],[]),(3,[2,3,4,5,10],[]),(4,[2,3,4,5,10,20],[]),(5,[8,9],[]),(6,[2,3,4,5,10,11],[]),(7,[2,4,5,10,11,12],[]),(8,[4,5,11,35],[(0,0),(1,0),(2,0),(3,0),(4,0),(5,0)]),(9,[8,9],[]),(10,[8,9],[])]
def ir_aead_Open_25 : ACode := (.seq (.seq (.ops [
 ⟨some 25,.load (some 32) (.t 4),none⟩,
 ⟨some 26,.load (some 12) (.t 5),none⟩,
 ⟨some 27,.mv (.t 11),none⟩,
 ⟨some 28,.mv (.t 3),none⟩,
 ⟨some 29,.call 128 [.t 25,.t 26,.t 27,.t 28],none⟩,
 ⟨some 12,.alloc (List.replicate 16 (.int .u8 0)),none⟩,
 ⟨none,.store 16 (.t 12) (.t 29),none⟩] [2,4,5,10,11,12])
 (.seq (.dops [
 ⟨0,some 30,.slArr 16 1 (.t 12) none none none,none,0⟩,
 ⟨1,some 31,.mv (.t 2),none,0⟩,
 ⟨2,some 32,.mv (.t 10),none,0⟩,
 ⟨3,some 33,.slSl 1 (.t 31) (some (.t 32)) none none,none,0⟩,
 ⟨4,some 34,.call 129 [.t 30,.t 33],none,0⟩,
 ⟨5,some 35,.un .not (.t 34),none,0⟩] [4,5,11,35])
 (.cond (.t 35)
 (.seq (.ops [
 ⟨some 8,.mv (.c (.slice none 0 0)),none⟩,
 ⟨some 9,.mv (.c (.int .i64 8)),none⟩] [8,9])
 .ret)
 .skip)))
 (.seq (.ops [
 ⟨some 36,.load (some 32) (.t 4),none⟩,
 ⟨some 37,.load (some 12) (.t 5),none⟩,
 ⟨some 38,.mv (.t 11),none⟩,
 ⟨some 39,.call 127 [.t 36,.c (.int .u32 1),.t 37,.t 38],none⟩,
 ⟨some 40,.ext (.t 39) 0,none⟩,
 ⟨some 41,.ext (.t 39) 1,none⟩,
 ⟨some 8,.mv (.t 40),none⟩,
 ⟨some 9,.mv (.t 41),none⟩] [8,9])
 .ret))
def ir_aead_Open : AFunc := ⟨4,42,[.tmp 8,.tmp 9],
 (.seq (.ops [
 ⟨some 4,.box (.t 0),none⟩,
 ⟨some 5,.box (.t 1),none⟩,
 ⟨some 8,.mv (.c (.slice none 0 0)),none⟩,
 ⟨some 9,.mv (.c (.int .i64 0)),none⟩] [2,3,4,5])
 (.seq (.seq (.ops [
 ⟨some 13,.mv (.t 2),none⟩,
 ⟨some 14,.lenS (.t 13),none⟩,
 ⟨some 15,.bin .gtr (.t 14) (.c (.int .i64 65552)),none⟩] [2,3,4,5,15])
 (.cond (.t 15)
 (.seq (.ops [
 ⟨some 8,.mv (.c (.slice none 0 0)),none⟩,
 ⟨some 9,.mv (.c (.int .i64 2)),none⟩] [8,9])
 .ret)
 .skip))
 (.seq (.ops [
 ⟨some 16,.mv (.t 2),none⟩,
 ⟨some 17,.lenS (.t 16),none⟩,
 ⟨some 18,.bin .sub (.t 17) (.c (.int .i64 16)),none⟩,
 ⟨some 10,.mv (.t 18),none⟩] [2,3,4,5,10])
 (.seq (.seq (.ops [
 ⟨some 19,.mv (.t 10),none⟩,
 ⟨some 20,.bin .lss (.t 19) (.c (.int .i64 0)),none⟩] [2,3,4,5,10,20])
 (.cond (.t 20)
 (.seq (.ops [
 ⟨some 8,.mv (.c (.slice none 0 0)),none⟩,
 ⟨some 9,.mv (.c (.int .i64 8)),none⟩] [8,9])
 .ret)
 .skip))
 (.seq (.ops [
 ⟨some 21,.mv (.t 2),none⟩,
 ⟨some 22,.mv (.t 10),none⟩,
 ⟨some 23,.slSl 1 (.t 21) none (some (.t 22)) none,none⟩,
 ⟨some 24,.call 55 [.t 23],none⟩,
 ⟨some 11,.mv (.t 24),none⟩] [2,3,4,5,10,11])
 ir_aead_Open_25)))))⟩

def h_aead_Key : Hint := [(0,[2,3,4],[]),(1,[4,5],[]),(2,[4],[])]
def ir_aead_Key : AFunc := ⟨2,12,[.cell 4 (some 32)],
 (.seq (.ops [
 ⟨some 2,.box (.t 0),none⟩,
 ⟨some 3,.box (.t 1),none⟩,
 ⟨some 4,.alloc (List.replicate 32 (.int .u8 0)),none⟩] [2,3,4])
 (.seq (.ops [
 ⟨some 6,.load (some 32) (.t 2),none⟩,
 ⟨some 7,.load (some 12) (.t 3),none⟩,
 ⟨some 8,.call 130 [.t 6,.c (.int .u32 0),.t 7],none⟩,
 ⟨some 5,.alloc (List.replicate 64 (.int .u8 0)),none⟩,
 ⟨none,.store 64 (.t 5) (.t 8),none⟩] [4,5])
 (.seq (.ops [
 ⟨some 9,.slArr 64 1 (.t 5) none (some (.c (.int .i64 32))) none,none⟩,
 ⟨some 10,.arrOf 32 (.t 9),none⟩,
 ⟨some 11,.load (some 32) (.t 10),none⟩,
 ⟨none,.store 32 (.t 4) (.t 11),none⟩] [4])
 .ret)))⟩

def h_chacha_Xor : Hint := [(0,[1,3,4,6],[]),(1,[1,3,4,6,10],[]),(2,[1,3,4,6,10,20],[]),(3,[1,3,4,6,10],[]),(4,[1,3,4,6,27],[]),(5,[8,9],[]),(6,[1,3,4,6,11],[]),(7,[1,3,4,6,11,12],[]),(8,[1,3,4,6,11,12,34],[]),(9,[1,3,4,6,11,12],[]),(10,[1,3,4,6,11,12,13],[]),(11,[1,3,4,6,11,12],[(1,0),(2,0),(3,0),(4,0),(5,0),(6,0),(7,0),(8,0),(9,0),(10,0),(0,1),(11,0),(12,0)]),(12,[8,9],[])]
def ir_chacha_Xor_37 : ACode := (.seq (.block 1 (.seq (.ops [
 ⟨some 37,.load (some 32) (.t 4),none⟩,
 ⟨some 38,.mv (.t 1),none⟩,
 ⟨some 39,.mv (.t 12),none⟩,
 ⟨some 40,.bin .quo (.t 39) (.c (.int .i64 64)),none⟩,
 ⟨some 41,.conv .u32 (.t 40),none⟩,
 ⟨some 42,.bin .add (.t 38) (.t 41),none⟩,
 ⟨some 43,.load (some 12) (.t 6),none⟩,
 ⟨some 44,.call 130 [.t 37,.t 42,.t 43],none⟩,
 ⟨some 13,.alloc (List.replicate 64 (.int .u8 0)),none⟩,
 ⟨none,.store 64 (.t 13) (.t 44),none⟩] [1,3,4,6,11,12,13])
 (.dops [
 ⟨1,some 46,.mv (.t 3),none,0⟩,
 ⟨2,some 47,.mv (.t 12),none,0⟩,
 ⟨3,some 48,.mv (.t 12),none,0⟩,
 ⟨4,some 49,.bin .add (.t 48) (.c (.int .i64 64)),none,0⟩,
 ⟨5,some 50,.mv (.t 3),none,0⟩,
 ⟨6,some 51,.lenS (.t 50),none,0⟩,
 ⟨7,some 52,.mn (.t 49) (.t 51),none,0⟩,
 ⟨8,some 53,.slSl 1 (.t 46) (some (.t 47)) (some (.t 52)) none,none,0⟩,
 ⟨9,some 54,.slArr 64 1 (.t 13) none none none,none,0⟩,
 ⟨10,some 55,.call 134 [.t 53,.t 54],none,0⟩,
 ⟨0,some 45,.mv (.t 11),none,1⟩,
 ⟨11,some 56,.append 1 1 (.t 45) (.t 55),none,0⟩,
 ⟨12,some 11,.mv (.t 56),none,0⟩] [1,3,4,6,11,12])))
 (.ops [
 ⟨some 35,.mv (.t 12),none⟩,
 ⟨some 36,.bin .add (.t 35) (.c (.int .i64 64)),none⟩,
 ⟨some 12,.mv (.t 36),none⟩] [1,3,4,6,11,12]))
def ir_chacha_Xor_23 : ACode := (.seq (.seq (.ops [
 ⟨some 23,.mv (.t 10),none⟩,
 ⟨some 24,.mv (.t 1),none⟩,
 ⟨some 25,.conv .i64 (.t 24),none⟩,
 ⟨some 26,.bin .sub (.c (.int .i64 4294967296)) (.t 25),none⟩,
 ⟨some 27,.bin .gtr (.t 23) (.t 26),none⟩] [1,3,4,6,27])
 (.cond (.t 27)
 (.seq (.ops [
 ⟨some 8,.mv (.c (.slice none 0 0)),none⟩,
 ⟨some 9,.mv (.c (.int .i64 1)),none⟩] [8,9])
 .ret)
 .skip))
 (.seq (.ops [
 ⟨some 28,.mv (.t 3),none⟩,
 ⟨some 29,.lenS (.t 28),none⟩,
 ⟨some 30,.mslice 1 ([.int .u8 0]) (.c (.int .i64 0)) (.t 29),none⟩,
 ⟨some 11,.mv (.t 30),none⟩] [1,3,4,6,11])
 (.seq (.seq (.ops [
 ⟨some 12,.mv (.c (.int .i64 0)),none⟩] [1,3,4,6,11,12])
 (.block 0 (.loop (.seq (.seq (.ops [
 ⟨some 31,.mv (.t 12),none⟩,
 ⟨some 32,.mv (.t 3),none⟩,
 ⟨some 33,.lenS (.t 32),none⟩,
 ⟨some 34,.bin .lss (.t 31) (.t 33),none⟩] [1,3,4,6,11,12,34])
 (.cond (.t 34)
 .skip
 (.exit 0)))
 ir_chacha_Xor_37))))
 (.seq (.ops [
 ⟨some 57,.mv (.t 11),none⟩,
 ⟨some 8,.mv (.t 57),none⟩,
 ⟨some 9,.mv (.c (.int .i64 0)),none⟩] [8,9])
 .ret))))
def ir_chacha_Xor : AFunc := ⟨4,58,[.tmp 8,.tmp 9],
 (.seq (.ops [
 ⟨some 4,.box (.t 0),none⟩,
 ⟨some 6,.box (.t 2),none⟩,
 ⟨some 8,.mv (.c (.slice none 0 0)),none⟩,
 ⟨some 9,.mv (.c (.int .i64 0)),none⟩] [1,3,4,6])
 (.seq (.ops [
 ⟨some 14,.mv (.t 3),none⟩,
 ⟨some 15,.lenS (.t 14),none⟩,
 ⟨some 16,.bin .quo (.t 15) (.c (.int .i64 64)),none⟩,
 ⟨some 10,.mv (.t 16),none⟩] [1,3,4,6,10])
 (.seq (.seq (.ops [
 ⟨some 17,.mv (.t 3),none⟩,
 ⟨some 18,.lenS (.t 17),none⟩,
 ⟨some 19,.bin .rem (.t 18) (.c (.int .i64 64)),none⟩,
 ⟨some 20,.bin .gtr (.t 19) (.c (.int .i64 0)),none⟩] [1,3,4,6,10,20])
 (.cond (.t 20)
 (.ops [
 ⟨some 21,.mv (.t 10),none⟩,
 ⟨some 22,.bin .add (.t 21) (.c (.int .i64 1)),none⟩,
 ⟨some 10,.mv (.t 22),none⟩] [1,3,4,6,10])
 .skip))
 ir_chacha_Xor_23)))⟩

def h_aead_tag : Hint := [(0,[2,3,4,5,8],[]),(1,[2,3,4,5,8,9],[]),(2,[8],[])]
def ir_aead_tag : AFunc := ⟨4,30,[.cell 8 (some 16)],
 (.seq (.ops [
 ⟨some 4,.box (.t 0),none⟩,
 ⟨some 5,.box (.t 1),none⟩,
 ⟨some 8,.alloc (List.replicate 16 (.int .u8 0)),none⟩] [2,3,4,5,8])
 (.seq (.ops [
 ⟨some 10,.mv (.t 3),none⟩,
 ⟨some 11,.lenS (.t 10),none⟩,
 ⟨some 12,.conv .u64 (.t 11),none⟩,
 ⟨some 13,.call 68 [.c (.slice none 0 0),.t 12,.c (.int .i64 8)],none⟩,
 ⟨some 14,.mv (.t 2),none⟩,
 ⟨some 15,.lenS (.t 14),none⟩,
 ⟨some 16,.conv .u64 (.t 15),none⟩,
 ⟨some 17,.call 68 [.t 13,.t 16,.c (.int .i64 8)],none⟩,
 ⟨some 9,.mv (.t 17),none⟩] [2,3,4,5,8,9])
 (.seq (.ops [
 ⟨some 18,.load (some 32) (.t 4),none⟩,
 ⟨some 19,.load (some 12) (.t 5),none⟩,
 ⟨some 20,.call 117 [.t 18,.t 19],none⟩,
 ⟨some 21,.mv (.t 3),none⟩,
 ⟨some 22,.mv (.t 3),none⟩,
 ⟨some 23,.call 135 [.t 22],none⟩,
 ⟨some 24,.mv (.t 2),none⟩,
 ⟨some 25,.mv (.t 2),none⟩,
 ⟨some 26,.call 135 [.t 25],none⟩,
 ⟨some 27,.mv (.t 9),none⟩,
 ⟨some 28,.bslice 5 1 ([.slice none 0 0]) [(0,1,.t 21),(1,1,.t 23),(2,1,.t 24),(3,1,.t 26),(4,1,.t 27)],none⟩,
 ⟨some 29,.call 38 [.t 20,.t 28],none⟩,
 ⟨none,.store 16 (.t 8) (.t 29),none⟩] [8])
 .ret)))⟩

def h_octet_Equal : Hint := [(0,[0,1],[]),(1,[0,1,5],[]),(2,[0,1,5,11,12],[]),(3,[0,1,5,11,12,13],[]),(4,[0,1,5,6,11,12],[]),(5,[0,1,5,11,12],[(0,0),(1,0),(2,0),(3,0),(4,0),(5,0),(6,0),(7,0),(8,0),(9,0),(10,0),(11,0)]),(6,[0,1,5,11,12],[]),(7,[4],[])]
def ir_octet_Equal_27 : ACode := (.seq (.ops [
 ⟨some 27,.mv (.t 5),none⟩,
 ⟨some 28,.bin .eql (.t 27) (.c (.int .u8 0)),none⟩,
 ⟨some 29,.mv (.t 28),none⟩,
 ⟨some 30,.mv (.t 0),(some (29,true))⟩,
 ⟨some 31,.lenS (.t 30),(some (29,true))⟩,
 ⟨some 32,.mv (.t 1),(some (29,true))⟩,
 ⟨some 33,.lenS (.t 32),(some (29,true))⟩,
 ⟨some 34,.bin .eql (.t 31) (.t 33),(some (29,true))⟩,
 ⟨some 35,.pick (.t 29) (.t 34) (.c (.bool false)),none⟩,
 ⟨some 4,.mv (.t 35),none⟩] [4])
 .ret)
def ir_octet_Equal_7 : ACode := (.seq (.seq (.ops [
 ⟨some 7,.mv (.t 0),none⟩,
 ⟨some 8,.lenS (.t 7),none⟩,
 ⟨some 9,.mv (.t 1),none⟩,
 ⟨some 10,.lenS (.t 9),none⟩,
 ⟨some 11,.mn (.t 8) (.t 10),none⟩,
 ⟨some 12,.mv (.c (.int .i64 0)),none⟩] [0,1,5,11,12])
 (.block 0 (.loop (.seq (.ops [
 ⟨some 13,.bin .lss (.t 12) (.t 11),none⟩] [0,1,5,11,12,13])
 (.seq (.cond (.t 13)
 .skip
 (.exit 0))
 (.seq (.block 1 (.seq (.ops [
 ⟨some 14,.mv (.t 12),none⟩,
 ⟨some 6,.mv (.t 14),none⟩] [0,1,5,6,11,12])
 (.dops [
 ⟨0,some 15,.mv (.t 5),none,0⟩,
 ⟨1,some 16,.mv (.t 0),none,0⟩,
 ⟨2,some 17,.mv (.t 6),none,0⟩,
 ⟨3,some 18,.iaddrS 1 (.t 16) (.t 17),none,0⟩,
 ⟨4,some 19,.load none (.t 18),none,0⟩,
 ⟨5,some 20,.mv (.t 1),none,0⟩,
 ⟨6,some 21,.mv (.t 6),none,0⟩,
 ⟨7,some 22,.iaddrS 1 (.t 20) (.t 21),none,0⟩,
 ⟨8,some 23,.load none (.t 22),none,0⟩,
 ⟨9,some 24,.bin .xor (.t 19) (.t 23),none,0⟩,
 ⟨10,some 25,.bin .or (.t 15) (.t 24),none,0⟩,
 ⟨11,some 5,.mv (.t 25),none,0⟩] [0,1,5,11,12])))
 (.ops [
 ⟨some 26,.bin .add (.t 12) (.c (.int .i64 1)),none⟩,
 ⟨some 12,.mv (.t 26),none⟩] [0,1,5,11,12])))))))
 ir_octet_Equal_27)
def ir_octet_Equal : AFunc := ⟨2,36,[.tmp 4],
 (.seq (.ops [
 ⟨some 4,.mv (.c (.bool false)),none⟩] [0,1])
 (.seq (.ops [
 ⟨some 5,.mv (.c (.int .u8 0)),none⟩] [0,1,5])
 ir_octet_Equal_7))⟩

def h_chacha_Block : Hint := [(0,[1,3,5,6],[]),(1,[6,7],[]),(2,[6,7,8],[]),(3,[6,7,8,18],[]),(4,[6,7,8,18,19],[]),(5,[6,7,8,18,20],[]),(6,[6,7,8,18,20,21],[]),(7,[6,7,8,9,18,20],[]),(8,[6,7,8,18,20],[]),(9,[6,7,8,18,20],[]),(10,[6,7,8,18,32],[]),(11,[6,7,8,18,32,33],[]),(12,[6,7,8,10,18,32],[]),(13,[6,7,8,18,32],[]),(14,[6,7,8,18,32],[]),(15,[6,7,8,18],[]),(16,[6,7,8,11],[]),(17,[6,7,8,11,51],[]),(18,[6,7,8,11,51,52],[]),(19,[6,7,8,11,12,51],[]),(20,[6,7,8,11,51],[(3,0),(4,0),(5,0),(6,0),(7,0),(8,0),(9,0),(10,0),(11,0),(0,1),(1,1),(2,1),(12,0)]),(21,[6,7,8,11,51],[]),(22,[6],[])]
def ir_chacha_Block_51 : ACode := (.seq (.seq (.ops [
 ⟨some 51,.mv (.c (.int .i64 0)),none⟩] [6,7,8,11,51])
 (.block 6 (.loop (.seq (.ops [
 ⟨some 52,.bin .lss (.t 51) (.c (.int .i64 16)),none⟩] [6,7,8,11,51,52])
 (.seq (.cond (.t 52)
 .skip
 (.exit 6))
 (.seq (.block 7 (.seq (.ops [
 ⟨some 53,.mv (.t 51),none⟩,
 ⟨some 12,.mv (.t 53),none⟩] [6,7,8,11,12,51])
 (.dops [
 ⟨3,some 57,.mv (.t 12),none,0⟩,
 ⟨4,some 58,.iaddrA 16 1 (.t 8) (.t 57),none,0⟩,
 ⟨5,some 59,.load none (.t 58),none,0⟩,
 ⟨6,some 60,.mv (.t 12),none,0⟩,
 ⟨7,some 61,.iaddrA 16 1 (.t 7) (.t 60),none,0⟩,
 ⟨8,some 62,.load none (.t 61),none,0⟩,
 ⟨9,some 63,.bin .add (.t 59) (.t 62),none,0⟩,
 ⟨10,some 64,.conv .u64 (.t 63),none,0⟩,
 ⟨11,some 65,.call 68 [.c (.slice none 0 0),.t 64,.c (.int .i64 4)],none,0⟩,
 ⟨0,some 54,.mv (.t 12),none,1⟩,
 ⟨1,some 55,.bin .mul (.c (.int .i64 4)) (.t 54),none,1⟩,
 ⟨2,some 56,.slArr 64 1 (.t 11) (some (.t 55)) none none,none,1⟩,
 ⟨12,some 66,.copy 1 (.t 56) (.t 65),none,0⟩] [6,7,8,11,51])))
 (.ops [
 ⟨some 67,.bin .add (.t 51) (.c (.int .i64 1)),none⟩,
 ⟨some 51,.mv (.t 67),none⟩] [6,7,8,11,51])))))))
 (.seq (.ops [
 ⟨some 68,.load (some 64) (.t 11),none⟩,
 ⟨none,.store 64 (.t 6) (.t 68),none⟩] [6])
 .ret))
def ir_chacha_Block_33 : ACode := (.block 4 (.loop (.seq (.ops [
 ⟨some 33,.bin .lss (.t 32) (.c (.int .i64 4)),none⟩] [6,7,8,18,32,33])
 (.seq (.cond (.t 33)
 .skip
 (.exit 4))
 (.seq (.block 5 (.seq (.ops [
 ⟨some 34,.mv (.t 32),none⟩,
 ⟨some 10,.mv (.t 34),none⟩] [6,7,8,10,18,32])
 (.ops [
 ⟨some 35,.mv (.t 10),none⟩,
 ⟨some 36,.mv (.t 10),none⟩,
 ⟨some 37,.bin .add (.t 36) (.c (.int .i64 1)),none⟩,
 ⟨some 38,.bin .rem (.t 37) (.c (.int .i64 4)),none⟩,
 ⟨some 39,.bin .add (.c (.int .i64 4)) (.t 38),none⟩,
 ⟨some 40,.mv (.t 10),none⟩,
 ⟨some 41,.bin .add (.t 40) (.c (.int .i64 2)),none⟩,
 ⟨some 42,.bin .rem (.t 41) (.c (.int .i64 4)),none⟩,
 ⟨some 43,.bin .add (.c (.int .i64 8)) (.t 42),none⟩,
 ⟨some 44,.mv (.t 10),none⟩,
 ⟨some 45,.bin .add (.t 44) (.c (.int .i64 3)),none⟩,
 ⟨some 46,.bin .rem (.t 45) (.c (.int .i64 4)),none⟩,
 ⟨some 47,.bin .add (.c (.int .i64 12)) (.t 46),none⟩,
 ⟨some 48,.call 137 [.t 8,.t 35,.t 39,.t 43,.t 47],none⟩] [6,7,8,18,32])))
 (.ops [
 ⟨some 49,.bin .add (.t 32) (.c (.int .i64 1)),none⟩,
 ⟨some 32,.mv (.t 49),none⟩] [6,7,8,18,32]))))))
def ir_chacha_Block_q : ACode := (.seq (.cond (.t 19)
 .skip
 (.exit 0))
 (.seq (.block 1 (.seq (.seq (.ops [
 ⟨some 20,.mv (.c (.int .i64 0)),none⟩] [6,7,8,18,20])
 (.block 2 (.loop (.seq (.ops [
 ⟨some 21,.bin .lss (.t 20) (.c (.int .i64 4)),none⟩] [6,7,8,18,20,21])
 (.seq (.cond (.t 21)
 .skip
 (.exit 2))
 (.seq (.block 3 (.seq (.ops [
 ⟨some 22,.mv (.t 20),none⟩,
 ⟨some 9,.mv (.t 22),none⟩] [6,7,8,9,18,20])
 (.ops [
 ⟨some 23,.mv (.t 9),none⟩,
 ⟨some 24,.mv (.t 9),none⟩,
 ⟨some 25,.bin .add (.c (.int .i64 4)) (.t 24),none⟩,
 ⟨some 26,.mv (.t 9),none⟩,
 ⟨some 27,.bin .add (.c (.int .i64 8)) (.t 26),none⟩,
 ⟨some 28,.mv (.t 9),none⟩,
 ⟨some 29,.bin .add (.c (.int .i64 12)) (.t 28),none⟩,
 ⟨some 30,.call 137 [.t 8,.t 23,.t 25,.t 27,.t 29],none⟩] [6,7,8,18,20])))
 (.ops [
 ⟨some 31,.bin .add (.t 20) (.c (.int .i64 1)),none⟩,
 ⟨some 20,.mv (.t 31),none⟩] [6,7,8,18,20])))))))
 (.seq (.ops [
 ⟨some 32,.mv (.c (.int .i64 0)),none⟩] [6,7,8,18,32])
 ir_chacha_Block_33)))
 (.ops [
 ⟨some 50,.bin .add (.t 18) (.c (.int .i64 1)),none⟩,
 ⟨some 18,.mv (.t 50),none⟩] [6,7,8,18])))
def ir_chacha_Block : AFunc := ⟨3,69,[.cell 6 (some 64)],
 (.seq (.ops [
 ⟨some 3,.box (.t 0),none⟩,
 ⟨some 5,.box (.t 2),none⟩,
 ⟨some 6,.alloc (List.replicate 64 (.int .u8 0)),none⟩] [1,3,5,6])
 (.seq (.ops [
 ⟨some 13,.load (some 32) (.t 3),none⟩,
 ⟨some 14,.mv (.t 1),none⟩,
 ⟨some 15,.load (some 12) (.t 5),none⟩,
 ⟨some 16,.call 136 [.t 13,.t 14,.t 15],none⟩,
 ⟨some 7,.alloc (List.replicate 16 (.int .u32 0)),none⟩,
 ⟨none,.store 16 (.t 7) (.t 16),none⟩] [6,7])
 (.seq (.ops [
 ⟨some 17,.load (some 16) (.t 7),none⟩,
 ⟨some 8,.alloc (List.replicate 16 (.int .u32 0)),none⟩,
 ⟨none,.store 16 (.t 8) (.t 17),none⟩] [6,7,8])
 (.seq (.seq (.ops [
 ⟨some 18,.mv (.c (.int .i64 0)),none⟩] [6,7,8,18])
 (.block 0 (.loop (.seq (.ops [
 ⟨some 19,.bin .lss (.t 18) (.c (.int .i64 10)),none⟩] [6,7,8,18,19])
 ir_chacha_Block_q))))
 (.seq (.ops [
 ⟨some 11,.alloc (List.replicate 64 (.int .u8 0)),none⟩] [6,7,8,11])
 ir_chacha_Block_51)))))⟩

def h_octet_Xor : Hint := [(0,[0,1],[]),(1,[0,1,5],[]),(2,[0,1,5,14,15],[]),(3,[0,1,5,14,15,16],[]),(4,[0,1,5,6,14,15],[]),(5,[0,1,5,14,15],[(0,0),(1,0),(2,0),(3,0),(4,0),(5,0),(6,0),(7,0),(8,0),(9,0),(10,0),(11,0),(12,0)]),(6,[0,1,5,14,15],[]),(7,[4],[])]
def ir_octet_Xor_13 : ACode := (.seq (.seq (.ops [
 ⟨some 13,.mv (.t 5),none⟩,
 ⟨some 14,.lenS (.t 13),none⟩,
 ⟨some 15,.mv (.c (.int .i64 0)),none⟩] [0,1,5,14,15])
 (.block 0 (.loop (.seq (.ops [
 ⟨some 16,.bin .lss (.t 15) (.t 14),none⟩] [0,1,5,14,15,16])
 (.seq (.cond (.t 16)
 .skip
 (.exit 0))
 (.seq (.block 1 (.seq (.ops [
 ⟨some 17,.mv (.t 15),none⟩,
 ⟨some 6,.mv (.t 17),none⟩] [0,1,5,6,14,15])
 (.dops [
 ⟨0,some 18,.mv (.t 5),none,0⟩,
 ⟨1,some 19,.mv (.t 6),none,0⟩,
 ⟨2,some 20,.mv (.t 0),none,0⟩,
 ⟨3,some 21,.mv (.t 6),none,0⟩,
 ⟨4,some 22,.iaddrS 1 (.t 20) (.t 21),none,0⟩,
 ⟨5,some 23,.load none (.t 22),none,0⟩,
 ⟨6,some 24,.mv (.t 1),none,0⟩,
 ⟨7,some 25,.mv (.t 6),none,0⟩,
 ⟨8,some 26,.iaddrS 1 (.t 24) (.t 25),none,0⟩,
 ⟨9,some 27,.load none (.t 26),none,0⟩,
 ⟨10,some 28,.bin .xor (.t 23) (.t 27),none,0⟩,
 ⟨11,some 29,.iaddrS 1 (.t 18) (.t 19),none,0⟩,
 ⟨12,none,.store 1 (.t 29) (.t 28),none,0⟩] [0,1,5,14,15])))
 (.ops [
 ⟨some 30,.bin .add (.t 15) (.c (.int .i64 1)),none⟩,
 ⟨some 15,.mv (.t 30),none⟩] [0,1,5,14,15])))))))
 (.seq (.ops [
 ⟨some 31,.mv (.t 5),none⟩,
 ⟨some 4,.mv (.t 31),none⟩] [4])
 .ret))
def ir_octet_Xor : AFunc := ⟨2,32,[.tmp 4],
 (.seq (.ops [
 ⟨some 4,.mv (.c (.slice none 0 0)),none⟩] [0,1])
 (.seq (.ops [
 ⟨some 7,.mv (.t 0),none⟩,
 ⟨some 8,.lenS (.t 7),none⟩,
 ⟨some 9,.mv (.t 1),none⟩,
 ⟨some 10,.lenS (.t 9),none⟩,
 ⟨some 11,.mn (.t 8) (.t 10),none⟩,
 ⟨some 12,.mslice 1 ([.int .u8 0]) (.t 11) (.t 11),none⟩,
 ⟨some 5,.mv (.t 12),none⟩] [0,1,5])
 ir_octet_Xor_13))⟩

def h_aead_fill : Hint := [(0,[0],[]),(1,[2],[])]
def ir_aead_fill : AFunc := ⟨1,9,[.tmp 2],
 (.seq (.ops [
 ⟨some 2,.mv (.c (.slice none 0 0)),none⟩] [0])
 (.seq (.ops [
 ⟨some 3,.mv (.t 0),none⟩,
 ⟨some 4,.lenS (.t 3),none⟩,
 ⟨some 5,.bin .rem (.t 4) (.c (.int .i64 16)),none⟩,
 ⟨some 6,.bin .sub (.c (.int .i64 16)) (.t 5),none⟩,
 ⟨some 7,.bin .rem (.t 6) (.c (.int .i64 16)),none⟩,
 ⟨some 8,.mslice 1 ([.int .u8 0]) (.t 7) (.t 7),none⟩,
 ⟨some 2,.mv (.t 8),none⟩] [2])
 .ret))⟩

def h_chacha_state : Hint := [(0,[1,3,5,6],[]),(1,[1,3,5,6,7],[]),(2,[1,3,5,6,7,11],[]),(3,[1,3,5,6,7,11,12],[]),(4,[1,3,5,6,7,8,11],[]),(5,[1,3,5,6,7,11],[]),(6,[1,3,5,6,7,11],[]),(7,[5,6,7],[]),(8,[5,6,7,24],[]),(9,[5,6,7,24,25],[]),(10,[5,6,7,9,24],[]),(11,[5,6,7,24],[]),(12,[5,6,7,24],[]),(13,[6],[])]
def ir_chacha_state_22 : ACode := (.seq (.ops [
 ⟨some 22,.mv (.t 1),none⟩,
 ⟨some 23,.iaddrA 16 1 (.t 7) (.c (.int .i64 12)),none⟩,
 ⟨none,.store 1 (.t 23) (.t 22),none⟩] [5,6,7])
 (.seq (.seq (.ops [
 ⟨some 24,.mv (.c (.int .i64 0)),none⟩] [5,6,7,24])
 (.block 2 (.loop (.seq (.ops [
 ⟨some 25,.bin .lss (.t 24) (.c (.int .i64 3)),none⟩] [5,6,7,24,25])
 (.seq (.cond (.t 25)
 .skip
 (.exit 2))
 (.seq (.block 3 (.seq (.ops [
 ⟨some 26,.mv (.t 24),none⟩,
 ⟨some 9,.mv (.t 26),none⟩] [5,6,7,9,24])
 (.ops [
 ⟨some 27,.mv (.t 9),none⟩,
 ⟨some 28,.bin .add (.c (.int .i64 13)) (.t 27),none⟩,
 ⟨some 29,.mv (.t 9),none⟩,
 ⟨some 30,.bin .mul (.c (.int .i64 4)) (.t 29),none⟩,
 ⟨some 31,.slArr 12 1 (.t 5) (some (.t 30)) none none,none⟩,
 ⟨some 32,.call 142 [.t 31],none⟩,
 ⟨some 33,.iaddrA 16 1 (.t 7) (.t 28),none⟩,
 ⟨none,.store 1 (.t 33) (.t 32),none⟩] [5,6,7,24])))
 (.ops [
 ⟨some 34,.bin .add (.t 24) (.c (.int .i64 1)),none⟩,
 ⟨some 24,.mv (.t 34),none⟩] [5,6,7,24])))))))
 (.seq (.ops [
 ⟨some 35,.load (some 16) (.t 7),none⟩,
 ⟨none,.store 16 (.t 6) (.t 35),none⟩] [6])
 .ret)))
def ir_chacha_state_11 : ACode := (.seq (.seq (.ops [
 ⟨some 11,.mv (.c (.int .i64 0)),none⟩] [1,3,5,6,7,11])
 (.block 0 (.loop (.seq (.ops [
 ⟨some 12,.bin .lss (.t 11) (.c (.int .i64 8)),none⟩] [1,3,5,6,7,11,12])
 (.seq (.cond (.t 12)
 .skip
 (.exit 0))
 (.seq (.block 1 (.seq (.ops [
 ⟨some 13,.mv (.t 11),none⟩,
 ⟨some 8,.mv (.t 13),none⟩] [1,3,5,6,7,8,11])
 (.ops [
 ⟨some 14,.mv (.t 8),none⟩,
 ⟨some 15,.bin .add (.c (.int .i64 4)) (.t 14),none⟩,
 ⟨some 16,.mv (.t 8),none⟩,
 ⟨some 17,.bin .mul (.c (.int .i64 4)) (.t 16),none⟩,
 ⟨some 18,.slArr 32 1 (.t 3) (some (.t 17)) none none,none⟩,
 ⟨some 19,.call 142 [.t 18],none⟩,
 ⟨some 20,.iaddrA 16 1 (.t 7) (.t 15),none⟩,
 ⟨none,.store 1 (.t 20) (.t 19),none⟩] [1,3,5,6,7,11])))
 (.ops [
 ⟨some 21,.bin .add (.t 11) (.c (.int .i64 1)),none⟩,
 ⟨some 11,.mv (.t 21),none⟩] [1,3,5,6,7,11])))))))
 ir_chacha_state_22)
def ir_chacha_state : AFunc := ⟨3,36,[.cell 6 (some 16)],
 (.seq (.ops [
 ⟨some 3,.box (.t 0),none⟩,
 ⟨some 5,.box (.t 2),none⟩,
 ⟨some 6,.alloc (List.replicate 16 (.int .u32 0)),none⟩] [1,3,5,6])
 (.seq (.ops [
 ⟨some 10,.build (List.replicate 16 (.int .u32 0)) [(0,1,.c (.int .u32 1634760805)),(1,1,.c (.int .u32 857760878)),(2,1,.c (.int .u32 2036477234)),(3,1,.c (.int .u32 1797285236))],none⟩,
 ⟨some 7,.alloc (List.replicate 16 (.int .u32 0)),none⟩,
 ⟨none,.store 16 (.t 7) (.t 10),none⟩] [1,3,5,6,7])
 ir_chacha_state_11))⟩

def h_chacha_mix : Hint := [(0,[],[(8,0),(9,0),(10,0),(11,0),(12,0),(13,0),(14,0),(15,0),(16,0),(17,0),(18,0),(19,0),(20,0),(21,0),(22,0),(23,0),(24,0),(25,0),(26,0),(27,0),(28,0),(0,1),(1,1),(29,0),(30,0),(34,1),(35,0),(36,0),(2,2),(3,2),(31,1),(37,2),(38,0),(39,0),(4,3),(5,3),(32,2),(40,3),(41,0),(42,0),(6,4),(7,4),(33,3),(43,4),(44,0),(45,0)])]
def ir_chacha_mix : AFunc := ⟨5,52,[],
 (.dops [
 ⟨8,some 19,.mv (.t 0),none,0⟩,
 ⟨9,some 20,.mv (.t 1),none,0⟩,
 ⟨10,some 21,.nilc (.t 19),none,0⟩,
 ⟨11,some 22,.iaddrA 16 1 (.t 21) (.t 20),none,0⟩,
 ⟨12,some 23,.load none (.t 22),none,0⟩,
 ⟨13,some 24,.mv (.t 0),none,0⟩,
 ⟨14,some 25,.mv (.t 2),none,0⟩,
 ⟨15,some 26,.nilc (.t 24),none,0⟩,
 ⟨16,some 27,.iaddrA 16 1 (.t 26) (.t 25),none,0⟩,
 ⟨17,some 28,.load none (.t 27),none,0⟩,
 ⟨18,some 29,.mv (.t 0),none,0⟩,
 ⟨19,some 30,.mv (.t 3),none,0⟩,
 ⟨20,some 31,.nilc (.t 29),none,0⟩,
 ⟨21,some 32,.iaddrA 16 1 (.t 31) (.t 30),none,0⟩,
 ⟨22,some 33,.load none (.t 32),none,0⟩,
 ⟨23,some 34,.mv (.t 0),none,0⟩,
 ⟨24,some 35,.mv (.t 4),none,0⟩,
 ⟨25,some 36,.nilc (.t 34),none,0⟩,
 ⟨26,some 37,.iaddrA 16 1 (.t 36) (.t 35),none,0⟩,
 ⟨27,some 38,.load none (.t 37),none,0⟩,
 ⟨28,some 39,.call 143 [.t 23,.t 28,.t 33,.t 38],none,0⟩,
 ⟨0,some 11,.mv (.t 0),none,1⟩,
 ⟨1,some 12,.mv (.t 1),none,1⟩,
 ⟨29,some 10,.mv (.t 39),none,0⟩,
 ⟨30,some 40,.ext (.t 10) 0,none,0⟩,
 ⟨34,some 44,.nilc (.t 11),none,1⟩,
 ⟨35,some 45,.iaddrA 16 1 (.t 44) (.t 12),none,0⟩,
 ⟨36,none,.store 1 (.t 45) (.t 40),none,0⟩,
 ⟨2,some 13,.mv (.t 0),none,2⟩,
 ⟨3,some 14,.mv (.t 2),none,2⟩,
 ⟨31,some 41,.ext (.t 10) 1,none,1⟩,
 ⟨37,some 46,.nilc (.t 13),none,2⟩,
 ⟨38,some 47,.iaddrA 16 1 (.t 46) (.t 14),none,0⟩,
 ⟨39,none,.store 1 (.t 47) (.t 41),none,0⟩,
 ⟨4,some 15,.mv (.t 0),none,3⟩,
 ⟨5,some 16,.mv (.t 3),none,3⟩,
 ⟨32,some 42,.ext (.t 10) 2,none,2⟩,
 ⟨40,some 48,.nilc (.t 15),none,3⟩,
 ⟨41,some 49,.iaddrA 16 1 (.t 48) (.t 16),none,0⟩,
 ⟨42,none,.store 1 (.t 49) (.t 42),none,0⟩,
 ⟨6,some 17,.mv (.t 0),none,4⟩,
 ⟨7,some 18,.mv (.t 4),none,4⟩,
 ⟨33,some 43,.ext (.t 10) 3,none,3⟩,
 ⟨43,some 50,.nilc (.t 17),none,4⟩,
 ⟨44,some 51,.iaddrA 16 1 (.t 50) (.t 18),none,0⟩,
 ⟨45,none,.store 1 (.t 51) (.t 43),none,0⟩] [])⟩

def h_chacha_word : Hint := [(0,[0],[]),(1,[3],[]),(2,[2],[])]
def ir_chacha_word : AFunc := ⟨1,13,[.tmp 2],
 (.seq (.ops [
 ⟨some 2,.mv (.c (.int .u32 0)),none⟩] [0])
 (.seq (.ops [
 ⟨some 6,.mv (.t 0),none⟩,
 ⟨some 7,.slSl 1 (.t 6) none (some (.c (.int .i64 4))) none,none⟩,
 ⟨some 8,.call 79 [.t 7],none⟩,
 ⟨some 5,.mv (.t 8),none⟩,
 ⟨some 9,.ext (.t 5) 0,none⟩,
 ⟨some 10,.ext (.t 5) 1,none⟩,
 ⟨some 3,.mv (.t 9),none⟩,
 ⟨some 4,.mv (.t 10),none⟩] [3])
 (.seq (.ops [
 ⟨some 11,.mv (.t 3),none⟩,
 ⟨some 12,.conv .u32 (.t 11),none⟩,
 ⟨some 2,.mv (.t 12),none⟩] [2])
 .ret)))⟩

def h_chacha_Quarter : Hint := [(0,[0,1,2,3],[]),(1,[0,1,2,3],[]),(2,[0,1,2,3],[]),(3,[0,1,2,3],[]),(4,[0,1,2,3],[]),(5,[0,1,2,3],[]),(6,[0,1,2,3],[]),(7,[0,1,2,3],[]),(8,[0,1,2,3],[]),(9,[8,9,10,11],[])]
def ir_chacha_Quarter_26 : ACode := (.seq (.ops [
 ⟨some 26,.mv (.t 0),none⟩,
 ⟨some 27,.mv (.t 1),none⟩,
 ⟨some 28,.bin .add (.t 26) (.t 27),none⟩,
 ⟨some 0,.mv (.t 28),none⟩] [0,1,2,3])
 (.seq (.ops [
 ⟨some 29,.mv (.t 3),none⟩,
 ⟨some 30,.mv (.t 0),none⟩,
 ⟨some 31,.bin .xor (.t 29) (.t 30),none⟩,
 ⟨some 32,.call 94 [.t 31,.c (.int .i64 8)],none⟩,
 ⟨some 3,.mv (.t 32),none⟩] [0,1,2,3])
 (.seq (.ops [
 ⟨some 33,.mv (.t 2),none⟩,
 ⟨some 34,.mv (.t 3),none⟩,
 ⟨some 35,.bin .add (.t 33) (.t 34),none⟩,
 ⟨some 2,.mv (.t 35),none⟩] [0,1,2,3])
 (.seq (.ops [
 ⟨some 36,.mv (.t 1),none⟩,
 ⟨some 37,.mv (.t 2),none⟩,
 ⟨some 38,.bin .xor (.t 36) (.t 37),none⟩,
 ⟨some 39,.call 94 [.t 38,.c (.int .i64 7)],none⟩,
 ⟨some 1,.mv (.t 39),none⟩] [0,1,2,3])
 (.seq (.ops [
 ⟨some 40,.mv (.t 0),none⟩,
 ⟨some 41,.mv (.t 1),none⟩,
 ⟨some 42,.mv (.t 2),none⟩,
 ⟨some 43,.mv (.t 3),none⟩,
 ⟨some 8,.mv (.t 40),none⟩,
 ⟨some 9,.mv (.t 41),none⟩,
 ⟨some 10,.mv (.t 42),none⟩,
 ⟨some 11,.mv (.t 43),none⟩] [8,9,10,11])
 .ret)))))
def ir_chacha_Quarter : AFunc := ⟨4,44,[.tmp 8,.tmp 9,.tmp 10,.tmp 11],
 (.seq (.ops [
 ⟨some 8,.mv (.c (.int .u32 0)),none⟩,
 ⟨some 9,.mv (.c (.int .u32 0)),none⟩,
 ⟨some 10,.mv (.c (.int .u32 0)),none⟩,
 ⟨some 11,.mv (.c (.int .u32 0)),none⟩] [0,1,2,3])
 (.seq (.ops [
 ⟨some 12,.mv (.t 0),none⟩,
 ⟨some 13,.mv (.t 1),none⟩,
 ⟨some 14,.bin .add (.t 12) (.t 13),none⟩,
 ⟨some 0,.mv (.t 14),none⟩] [0,1,2,3])
 (.seq (.ops [
 ⟨some 15,.mv (.t 3),none⟩,
 ⟨some 16,.mv (.t 0),none⟩,
 ⟨some 17,.bin .xor (.t 15) (.t 16),none⟩,
 ⟨some 18,.call 94 [.t 17,.c (.int .i64 16)],none⟩,
 ⟨some 3,.mv (.t 18),none⟩] [0,1,2,3])
 (.seq (.ops [
 ⟨some 19,.mv (.t 2),none⟩,
 ⟨some 20,.mv (.t 3),none⟩,
 ⟨some 21,.bin .add (.t 19) (.t 20),none⟩,
 ⟨some 2,.mv (.t 21),none⟩] [0,1,2,3])
 (.seq (.ops [
 ⟨some 22,.mv (.t 1),none⟩,
 ⟨some 23,.mv (.t 2),none⟩,
 ⟨some 24,.bin .xor (.t 22) (.t 23),none⟩,
 ⟨some 25,.call 94 [.t 24,.c (.int .i64 12)],none⟩,
 ⟨some 1,.mv (.t 25),none⟩] [0,1,2,3])
 ir_chacha_Quarter_26)))))⟩

def h_bandboxlaw22_EpochKnown : Hint := [(0,[],[]),(1,[18],[]),(2,[0],[]),(3,[1],[]),(4,[1,21],[]),(5,[0],[]),(6,[1,3],[]),(7,[1,3,4,5,6],[]),(8,[1,3,4,5,6],[]),(9,[1,3,4,5,6,7,8],[]),(10,[1,3,4,5,6,7,8,10],[]),(11,[1,3,4,5,6,7,8,10,12],[]),(12,[1,3,4,5,6,7,8,10,12,14],[]),(13,[1,3,4,5,6,7,8,10,12,14,16],[]),(14,[0],[])]
def ir_bandboxlaw22_EpochKnown_65 : ACode := (.seq (.ops [
 ⟨some 65,.mv (.t 3),none⟩,
 ⟨some 66,.un .not (.t 65),none⟩,
 ⟨some 67,.mv (.t 66),none⟩,
 ⟨some 68,.mv (.t 4),(some (67,true))⟩,
 ⟨some 69,.bin .eql (.t 68) (.c (.int .i64 0)),(some (67,true))⟩,
 ⟨some 70,.pick (.t 67) (.t 69) (.c (.bool false)),none⟩,
 ⟨some 71,.mv (.t 70),none⟩,
 ⟨some 72,.mv (.t 5),(some (71,true))⟩,
 ⟨some 73,.bin .eql (.t 72) (.c (.int .i64 0)),(some (71,true))⟩,
 ⟨some 74,.pick (.t 71) (.t 73) (.c (.bool false)),none⟩,
 ⟨some 75,.mv (.t 74),none⟩,
 ⟨some 76,.mv (.t 6),(some (75,true))⟩,
 ⟨some 77,.bin .eql (.t 76) (.c (.int .i64 5)),(some (75,true))⟩,
 ⟨some 78,.pick (.t 75) (.t 77) (.c (.bool false)),none⟩,
 ⟨some 79,.mv (.t 78),none⟩,
 ⟨some 80,.mv (.t 8),(some (79,true))⟩,
 ⟨some 81,.pick (.t 79) (.t 80) (.c (.bool false)),none⟩,
 ⟨some 82,.mv (.t 81),none⟩,
 ⟨some 83,.mv (.t 7),(some (82,true))⟩,
 ⟨some 84,.bin .eql (.t 83) (.c (.int .i64 5)),(some (82,true))⟩,
 ⟨some 85,.pick (.t 82) (.t 84) (.c (.bool false)),none⟩,
 ⟨some 86,.mv (.t 85),none⟩,
 ⟨some 87,.mv (.t 10),(some (86,true))⟩,
 ⟨some 88,.un .not (.t 87),(some (86,true))⟩,
 ⟨some 89,.pick (.t 86) (.t 88) (.c (.bool false)),none⟩,
 ⟨some 90,.mv (.t 89),none⟩,
 ⟨some 91,.mv (.t 1),(some (90,true))⟩,
 ⟨some 92,.call 183 [.t 91],(some (90,true))⟩,
 ⟨some 93,.bin .eql (.t 92) (.c (.int .i64 2)),(some (90,true))⟩,
 ⟨some 94,.pick (.t 90) (.t 93) (.c (.bool false)),none⟩,
 ⟨some 95,.mv (.t 94),none⟩,
 ⟨some 96,.mv (.t 1),(some (95,true))⟩,
 ⟨some 97,.build (List.replicate 32 (.int .u8 0)) [],(some (95,true))⟩,
 ⟨some 98,.call 179 [.t 96,.c (.int .i64 (-1)),.t 97],(some (95,true))⟩,
 ⟨some 99,.bin .eql (.t 98) (.c (.int .i64 1)),(some (95,true))⟩,
 ⟨some 100,.pick (.t 95) (.t 99) (.c (.bool false)),none⟩,
 ⟨some 101,.mv (.t 100),none⟩,
 ⟨some 102,.mv (.t 1),(some (101,true))⟩,
 ⟨some 103,.build (List.replicate 32 (.int .u8 0)) [],(some (101,true))⟩,
 ⟨some 104,.call 179 [.t 102,.c (.int .i64 1099511627777),.t 103],(some (101,true))⟩,
 ⟨some 105,.bin .eql (.t 104) (.c (.int .i64 1)),(some (101,true))⟩,
 ⟨some 106,.pick (.t 101) (.t 105) (.c (.bool false)),none⟩,
 ⟨some 107,.mv (.t 106),none⟩,
 ⟨some 108,.mv (.t 12),(some (107,true))⟩,
 ⟨some 109,.bin .eql (.t 108) (.c (.int .i64 1)),(some (107,true))⟩,
 ⟨some 110,.pick (.t 107) (.t 109) (.c (.bool false)),none⟩,
 ⟨some 111,.mv (.t 110),none⟩,
 ⟨some 112,.mv (.t 14),(some (111,true))⟩,
 ⟨some 113,.bin .eql (.t 112) (.c (.int .i64 1)),(some (111,true))⟩,
 ⟨some 114,.pick (.t 111) (.t 113) (.c (.bool false)),none⟩,
 ⟨some 115,.mv (.t 114),none⟩,
 ⟨some 116,.mv (.t 16),(some (115,true))⟩,
 ⟨some 117,.bin .eql (.t 116) (.c (.int .i64 8)),(some (115,true))⟩,
 ⟨some 118,.pick (.t 115) (.t 117) (.c (.bool false)),none⟩,
 ⟨some 119,.mv (.t 118),none⟩,
 ⟨some 120,.call 177 [.c (.int .i64 1),.c (.int .i64 258)],(some (119,true))⟩,
 ⟨some 121,.build (List.replicate 12 (.int .u8 0)) [(0,1,.c (.int .u8 0)),(1,1,.c (.int .u8 0)),(2,1,.c (.int .u8 0)),(3,1,.c (.int .u8 1)),(4,1,.c (.int .u8 0)),(5,1,.c (.int .u8 0)),(6,1,.c (.int .u8 0)),(7,1,.c (.int .u8 0)),(8,1,.c (.int .u8 0)),(9,1,.c (.int .u8 0)),(10,1,.c (.int .u8 1)),(11,1,.c (.int .u8 2))],(some (119,true))⟩,
 ⟨some 122,.eqa (List.replicate 12 (some .u8)) false (.t 120) (.t 121),(some (119,true))⟩,
 ⟨some 123,.pick (.t 119) (.t 122) (.c (.bool false)),none⟩,
 ⟨some 0,.mv (.t 123),none⟩] [0])
 .ret)
def ir_bandboxlaw22_EpochKnown_56 : ACode := (.seq (.ops [
 ⟨some 56,.build (List.replicate 32 (.int .u8 0)) [],none⟩,
 ⟨some 57,.call 176 [.c (.slice none 0 0),.t 56,.c (.int .i64 0),.c (.int .i64 8)],none⟩,
 ⟨some 55,.mv (.t 57),none⟩,
 ⟨some 58,.ext (.t 55) 0,none⟩,
 ⟨some 59,.ext (.t 55) 1,none⟩,
 ⟨some 13,.alloc (List.replicate 32 (.int .u8 0)),none⟩,
 ⟨none,.store 32 (.t 13) (.t 58),none⟩,
 ⟨some 14,.mv (.t 59),none⟩] [1,3,4,5,6,7,8,10,12,14])
 (.seq (.ops [
 ⟨some 61,.build (List.replicate 32 (.int .u8 0)) [],none⟩,
 ⟨some 62,.call 176 [.c (.slice none 0 0),.t 61,.c (.int .i64 0),.c (.int .i64 0)],none⟩,
 ⟨some 60,.mv (.t 62),none⟩,
 ⟨some 63,.ext (.t 60) 0,none⟩,
 ⟨some 64,.ext (.t 60) 1,none⟩,
 ⟨some 15,.alloc (List.replicate 32 (.int .u8 0)),none⟩,
 ⟨none,.store 32 (.t 15) (.t 63),none⟩,
 ⟨some 16,.mv (.t 64),none⟩] [1,3,4,5,6,7,8,10,12,14,16])
 ir_bandboxlaw22_EpochKnown_65))
def ir_bandboxlaw22_EpochKnown_40 : ACode := (.seq (.ops [
 ⟨some 40,.mv (.t 1),none⟩,
 ⟨some 41,.call 182 [.t 40],none⟩,
 ⟨some 39,.mv (.t 41),none⟩,
 ⟨some 42,.ext (.t 39) 0,none⟩,
 ⟨some 43,.ext (.t 39) 1,none⟩,
 ⟨some 7,.mv (.t 42),none⟩,
 ⟨some 8,.mv (.t 43),none⟩] [1,3,4,5,6,7,8])
 (.seq (.ops [
 ⟨some 45,.mv (.t 1),none⟩,
 ⟨some 46,.call 181 [.t 45,.c (.int .i64 3)],none⟩,
 ⟨some 44,.mv (.t 46),none⟩,
 ⟨some 47,.ext (.t 44) 0,none⟩,
 ⟨some 48,.ext (.t 44) 1,none⟩,
 ⟨some 9,.alloc (List.replicate 32 (.int .u8 0)),none⟩,
 ⟨none,.store 32 (.t 9) (.t 47),none⟩,
 ⟨some 10,.mv (.t 48),none⟩] [1,3,4,5,6,7,8,10])
 (.seq (.ops [
 ⟨some 50,.build (List.replicate 32 (.int .u8 0)) [],none⟩,
 ⟨some 51,.build (List.replicate 32 (.int .u8 0)) [],none⟩,
 ⟨some 52,.call 175 [.t 50,.t 51,.c (.int .i64 (-1)),.c (.int .i64 0)],none⟩,
 ⟨some 49,.mv (.t 52),none⟩,
 ⟨some 53,.ext (.t 49) 0,none⟩,
 ⟨some 54,.ext (.t 49) 1,none⟩,
 ⟨some 11,.mv (.t 53),none⟩,
 ⟨some 12,.mv (.t 54),none⟩] [1,3,4,5,6,7,8,10,12])
 ir_bandboxlaw22_EpochKnown_56)))
def ir_bandboxlaw22_EpochKnown_23 : ACode := (.seq (.ops [
 ⟨some 23,.mv (.t 1),none⟩,
 ⟨some 24,.call 182 [.t 23],none⟩,
 ⟨some 22,.mv (.t 24),none⟩,
 ⟨some 25,.ext (.t 22) 0,none⟩,
 ⟨some 26,.ext (.t 22) 1,none⟩,
 ⟨some 2,.mv (.t 25),none⟩,
 ⟨some 3,.mv (.t 26),none⟩] [1,3])
 (.seq (.ops [
 ⟨some 27,.mv (.t 1),none⟩,
 ⟨some 28,.build (List.replicate 32 (.int .u8 0)) [(0,1,.c (.int .u8 1))],none⟩,
 ⟨some 29,.call 179 [.t 27,.c (.int .i64 5),.t 28],none⟩,
 ⟨some 30,.mv (.t 1),none⟩,
 ⟨some 31,.build (List.replicate 32 (.int .u8 0)) [(0,1,.c (.int .u8 1))],none⟩,
 ⟨some 32,.call 179 [.t 30,.c (.int .i64 5),.t 31],none⟩,
 ⟨some 33,.mv (.t 1),none⟩,
 ⟨some 34,.build (List.replicate 32 (.int .u8 0)) [(0,1,.c (.int .u8 2))],none⟩,
 ⟨some 35,.call 179 [.t 33,.c (.int .i64 5),.t 34],none⟩,
 ⟨some 4,.mv (.t 29),none⟩,
 ⟨some 5,.mv (.t 32),none⟩,
 ⟨some 6,.mv (.t 35),none⟩] [1,3,4,5,6])
 (.seq (.ops [
 ⟨some 36,.mv (.t 1),none⟩,
 ⟨some 37,.build (List.replicate 32 (.int .u8 0)) [(0,1,.c (.int .u8 3))],none⟩,
 ⟨some 38,.call 179 [.t 36,.c (.int .i64 2),.t 37],none⟩] [1,3,4,5,6])
 ir_bandboxlaw22_EpochKnown_40)))
def ir_bandboxlaw22_EpochKnown : AFunc := ⟨0,124,[.tmp 0],
 (.seq (.ops [
 ⟨some 0,.mv (.c (.bool false)),none⟩] [])
 (.seq (.seq (.ops [
 ⟨some 17,.call 174 [],none⟩,
 ⟨some 18,.un .not (.t 17),none⟩] [18])
 (.cond (.t 18)
 (.seq (.ops [
 ⟨some 0,.mv (.c (.bool false)),none⟩] [0])
 .ret)
 .skip))
 (.seq (.ops [
 ⟨some 19,.call 178 [],none⟩,
 ⟨some 1,.mv (.t 19),none⟩] [1])
 (.seq (.seq (.ops [
 ⟨some 20,.mv (.t 1),none⟩,
 ⟨some 21,.eqv .ptr false (.t 20) (.c (.pointer none)),none⟩] [1,21])
 (.cond (.t 21)
 (.seq (.ops [
 ⟨some 0,.mv (.c (.bool false)),none⟩] [0])
 .ret)
 .skip))
 ir_bandboxlaw22_EpochKnown_23))))⟩

def h_bandboxlaw22_awake : Hint := [(0,[],[]),(1,[1,2],[]),(2,[1,2,3,4],[]),(3,[0],[])]
def ir_bandboxlaw22_awake_17 : ACode := (.seq (.ops [
 ⟨some 17,.mv (.t 2),none⟩,
 ⟨some 18,.bin .eql (.t 17) (.c (.int .i64 0)),none⟩,
 ⟨some 19,.mv (.t 18),none⟩,
 ⟨some 20,.mv (.t 4),(some (19,true))⟩,
 ⟨some 21,.bin .eql (.t 20) (.c (.int .i64 0)),(some (19,true))⟩,
 ⟨some 22,.pick (.t 19) (.t 21) (.c (.bool false)),none⟩,
 ⟨some 23,.mv (.t 22),none⟩,
 ⟨some 24,.load (some 32) (.t 3),(some (23,true))⟩,
 ⟨some 25,.build (List.replicate 32 (.int .u8 0)) [(0,1,.c (.int .u8 1))],(some (23,true))⟩,
 ⟨some 26,.eqa (List.replicate 32 (some .u8)) false (.t 24) (.t 25),(some (23,true))⟩,
 ⟨some 27,.pick (.t 23) (.t 26) (.c (.bool false)),none⟩,
 ⟨some 28,.mv (.t 27),none⟩,
 ⟨some 29,.mv (.t 1),(some (28,true))⟩,
 ⟨some 30,.lenS (.t 29),(some (28,true))⟩,
 ⟨some 31,.bin .eql (.t 30) (.c (.int .i64 48)),(some (28,true))⟩,
 ⟨some 32,.pick (.t 28) (.t 31) (.c (.bool false)),none⟩,
 ⟨some 0,.mv (.t 32),none⟩] [0])
 .ret)
def ir_bandboxlaw22_awake : AFunc := ⟨0,33,[.tmp 0],
 (.seq (.ops [
 ⟨some 0,.mv (.c (.bool false)),none⟩] [])
 (.seq (.ops [
 ⟨some 6,.build (List.replicate 32 (.int .u8 0)) [(0,1,.c (.int .u8 1))],none⟩,
 ⟨some 7,.build (List.replicate 32 (.int .u8 0)) [(0,1,.c (.int .u8 2))],none⟩,
 ⟨some 8,.call 175 [.t 6,.t 7,.c (.int .i64 3),.c (.int .i64 4)],none⟩,
 ⟨some 5,.mv (.t 8),none⟩,
 ⟨some 9,.ext (.t 5) 0,none⟩,
 ⟨some 10,.ext (.t 5) 1,none⟩,
 ⟨some 1,.mv (.t 9),none⟩,
 ⟨some 2,.mv (.t 10),none⟩] [1,2])
 (.seq (.ops [
 ⟨some 12,.mv (.t 1),none⟩,
 ⟨some 13,.build (List.replicate 32 (.int .u8 0)) [(0,1,.c (.int .u8 2))],none⟩,
 ⟨some 14,.call 176 [.t 12,.t 13,.c (.int .i64 3),.c (.int .i64 4)],none⟩,
 ⟨some 11,.mv (.t 14),none⟩,
 ⟨some 15,.ext (.t 11) 0,none⟩,
 ⟨some 16,.ext (.t 11) 1,none⟩,
 ⟨some 3,.alloc (List.replicate 32 (.int .u8 0)),none⟩,
 ⟨none,.store 32 (.t 3) (.t 15),none⟩,
 ⟨some 4,.mv (.t 16),none⟩] [1,2,3,4])
 ir_bandboxlaw22_awake_17)))⟩

def h_epoch_Wrap : Hint := [(0,[2,3,4,5],[]),(1,[2,3,4,5,17],[]),(2,[8,9],[]),(3,[8,9],[(0,0),(1,0),(2,0),(3,1),(4,1),(5,0),(6,2),(7,0),(8,2),(9,0),(10,0),(11,0),(12,0),(13,0)])]
def ir_epoch_Wrap_18 : ACode := (.seq (.dops [
 ⟨0,some 18,.load (some 32) (.t 5),none,0⟩,
 ⟨1,some 19,.bslice 1 1 ([.string .empty]) [(0,1,.c (.string ⟨#[119,114,97,112]⟩))],none,0⟩,
 ⟨2,some 20,.call 35 [.t 18,.t 19],none,0⟩,
 ⟨3,some 21,.mv (.t 3),none,1⟩,
 ⟨4,some 22,.mv (.t 2),none,1⟩,
 ⟨5,some 23,.call 177 [.t 21,.t 22],none,0⟩,
 ⟨6,some 24,.slArr 32 1 (.t 4) none none none,none,2⟩,
 ⟨7,some 25,.bslice 4 1 ([.int .u8 0]) [(0,1,.c (.int .u8 119)),(1,1,.c (.int .u8 114)),(2,1,.c (.int .u8 97)),(3,1,.c (.int .u8 112))],none,0⟩,
 ⟨8,some 26,.mark (.t 25),none,2⟩,
 ⟨9,some 27,.call 115 [.t 20,.t 23,.t 24,.t 26],none,0⟩,
 ⟨10,some 28,.ext (.t 27) 0,none,0⟩,
 ⟨11,some 29,.ext (.t 27) 1,none,0⟩,
 ⟨12,some 8,.mv (.t 28),none,0⟩,
 ⟨13,some 9,.mv (.t 29),none,0⟩] [8,9])
 .ret)
def ir_epoch_Wrap : AFunc := ⟨4,30,[.tmp 8,.tmp 9],
 (.seq (.ops [
 ⟨some 4,.box (.t 0),none⟩,
 ⟨some 5,.box (.t 1),none⟩,
 ⟨some 8,.mv (.c (.slice none 0 0)),none⟩,
 ⟨some 9,.mv (.c (.int .i64 0)),none⟩] [2,3,4,5])
 (.seq (.seq (.ops [
 ⟨some 10,.mv (.t 2),none⟩,
 ⟨some 11,.call 188 [.t 10],none⟩,
 ⟨some 12,.un .not (.t 11),none⟩,
 ⟨some 13,.mv (.t 12),none⟩,
 ⟨some 14,.mv (.t 3),(some (13,false))⟩,
 ⟨some 15,.call 189 [.t 14],(some (13,false))⟩,
 ⟨some 16,.un .not (.t 15),(some (13,false))⟩,
 ⟨some 17,.pick (.t 13) (.c (.bool true)) (.t 16),none⟩] [2,3,4,5,17])
 (.cond (.t 17)
 (.seq (.ops [
 ⟨some 8,.mv (.c (.slice none 0 0)),none⟩,
 ⟨some 9,.mv (.c (.int .i64 1)),none⟩] [8,9])
 .ret)
 .skip))
 ir_epoch_Wrap_18))⟩

def h_epoch_Unwrap : Hint := [(0,[0,2,3,5,8],[]),(1,[0,2,3,5,8,19],[]),(2,[8,9],[]),(3,[8,10,11],[]),(4,[8,10,40],[]),(5,[8,9],[]),(6,[8,9],[])]
def ir_epoch_Unwrap_34 : ACode := (.seq (.seq (.ops [
 ⟨some 34,.mv (.t 11),none⟩,
 ⟨some 35,.bin .neq (.t 34) (.c (.int .i64 0)),none⟩,
 ⟨some 36,.mv (.t 35),none⟩,
 ⟨some 37,.mv (.t 10),(some (36,false))⟩,
 ⟨some 38,.lenS (.t 37),(some (36,false))⟩,
 ⟨some 39,.bin .neq (.t 38) (.c (.int .i64 32)),(some (36,false))⟩,
 ⟨some 40,.pick (.t 36) (.c (.bool true)) (.t 39),none⟩] [8,10,40])
 (.cond (.t 40)
 (.seq (.ops [
 ⟨some 41,.build (List.replicate 32 (.int .u8 0)) [],none⟩,
 ⟨none,.store 32 (.t 8) (.t 41),none⟩,
 ⟨some 9,.mv (.c (.int .i64 8)),none⟩] [8,9])
 .ret)
 .skip))
 (.seq (.ops [
 ⟨some 42,.mv (.t 10),none⟩,
 ⟨some 43,.arrOf 32 (.t 42),none⟩,
 ⟨some 44,.load (some 32) (.t 43),none⟩,
 ⟨none,.store 32 (.t 8) (.t 44),none⟩,
 ⟨some 9,.mv (.c (.int .i64 0)),none⟩] [8,9])
 .ret))
def ir_epoch_Unwrap_22 : ACode := (.seq (.ops [
 ⟨some 22,.load (some 32) (.t 5),none⟩,
 ⟨some 23,.bslice 1 1 ([.string .empty]) [(0,1,.c (.string ⟨#[119,114,97,112]⟩))],none⟩,
 ⟨some 24,.call 35 [.t 22,.t 23],none⟩,
 ⟨some 25,.mv (.t 3),none⟩,
 ⟨some 26,.mv (.t 2),none⟩,
 ⟨some 27,.call 177 [.t 25,.t 26],none⟩,
 ⟨some 28,.mv (.t 0),none⟩,
 ⟨some 29,.bslice 4 1 ([.int .u8 0]) [(0,1,.c (.int .u8 119)),(1,1,.c (.int .u8 114)),(2,1,.c (.int .u8 97)),(3,1,.c (.int .u8 112))],none⟩,
 ⟨some 30,.mark (.t 29),none⟩,
 ⟨some 31,.call 116 [.t 24,.t 27,.t 28,.t 30],none⟩,
 ⟨some 21,.mv (.t 31),none⟩,
 ⟨some 32,.ext (.t 21) 0,none⟩,
 ⟨some 33,.ext (.t 21) 1,none⟩,
 ⟨some 10,.mv (.t 32),none⟩,
 ⟨some 11,.mv (.t 33),none⟩] [8,10,11])
 ir_epoch_Unwrap_34)
def ir_epoch_Unwrap : AFunc := ⟨4,45,[.cell 8 (some 32),.tmp 9],
 (.seq (.ops [
 ⟨some 5,.box (.t 1),none⟩,
 ⟨some 8,.alloc (List.replicate 32 (.int .u8 0)),none⟩,
 ⟨some 9,.mv (.c (.int .i64 0)),none⟩] [0,2,3,5,8])
 (.seq (.seq (.ops [
 ⟨some 12,.mv (.t 2),none⟩,
 ⟨some 13,.call 188 [.t 12],none⟩,
 ⟨some 14,.un .not (.t 13),none⟩,
 ⟨some 15,.mv (.t 14),none⟩,
 ⟨some 16,.mv (.t 3),(some (15,false))⟩,
 ⟨some 17,.call 189 [.t 16],(some (15,false))⟩,
 ⟨some 18,.un .not (.t 17),(some (15,false))⟩,
 ⟨some 19,.pick (.t 15) (.c (.bool true)) (.t 18),none⟩] [0,2,3,5,8,19])
 (.cond (.t 19)
 (.seq (.ops [
 ⟨some 20,.build (List.replicate 32 (.int .u8 0)) [],none⟩,
 ⟨none,.store 32 (.t 8) (.t 20),none⟩,
 ⟨some 9,.mv (.c (.int .i64 1)),none⟩] [8,9])
 .ret)
 .skip))
 ir_epoch_Unwrap_22))⟩

def h_epoch_Nonce : Hint := [(0,[0,1,4],[]),(1,[4],[])]
def ir_epoch_Nonce : AFunc := ⟨2,13,[.cell 4 (some 12)],
 (.seq (.ops [
 ⟨some 4,.alloc (List.replicate 12 (.int .u8 0)),none⟩] [0,1,4])
 (.seq (.ops [
 ⟨some 5,.mv (.t 0),none⟩,
 ⟨some 6,.conv .u64 (.t 5),none⟩,
 ⟨some 7,.call 61 [.c (.slice none 0 0),.t 6,.c (.int .i64 4)],none⟩,
 ⟨some 8,.mv (.t 1),none⟩,
 ⟨some 9,.conv .u64 (.t 8),none⟩,
 ⟨some 10,.call 61 [.t 7,.t 9,.c (.int .i64 8)],none⟩,
 ⟨some 11,.arrOf 12 (.t 10),none⟩,
 ⟨some 12,.load (some 12) (.t 11),none⟩,
 ⟨none,.store 12 (.t 4) (.t 12),none⟩] [4])
 .ret))⟩

def h_epoch_New : Hint := [(0,[],[]),(1,[0],[])]
def ir_epoch_New : AFunc := ⟨0,4,[.tmp 0],
 (.seq (.ops [
 ⟨some 0,.mv (.c (.pointer none)),none⟩] [])
 (.seq (.ops [
 ⟨some 1,.mmap,none⟩,
 ⟨some 2,.build ([.map none]) [(0,1,.t 1)],none⟩,
 ⟨some 3,.box (.t 2),none⟩,
 ⟨some 0,.mv (.t 3),none⟩] [0])
 .ret))⟩

def h_epoch_Ring_Put : Hint := [(0,[0,1,5],[]),(1,[0,1,5,11],[]),(2,[6],[]),(3,[0,1,5,7,8],[]),(4,[0,1,5,7,21],[]),(5,[24],[]),(6,[6],[]),(7,[6],[]),(8,[0,1,5,30],[]),(9,[6],[]),(10,[],[(0,0),(1,0),(2,0),(3,0),(4,0),(5,0),(6,0)]),(11,[6],[])]
def ir_epoch_Ring_Put_25 : ACode := (.seq (.seq (.ops [
 ⟨some 25,.mv (.t 0),none⟩,
 ⟨some 26,.nilc (.t 25),none⟩,
 ⟨some 27,.faddr 0 (.t 26),none⟩,
 ⟨some 28,.load none (.t 27),none⟩,
 ⟨some 29,.lenM (.t 28),none⟩,
 ⟨some 30,.bin .geq (.t 29) (.c (.int .i64 500)),none⟩] [0,1,5,30])
 (.cond (.t 30)
 (.seq (.ops [
 ⟨some 6,.mv (.c (.int .i64 2)),none⟩] [6])
 .ret)
 .skip))
 (.seq (.dops [
 ⟨0,some 31,.mv (.t 0),none,0⟩,
 ⟨1,some 32,.nilc (.t 31),none,0⟩,
 ⟨2,some 33,.faddr 0 (.t 32),none,0⟩,
 ⟨3,some 34,.load none (.t 33),none,0⟩,
 ⟨4,some 35,.mv (.t 1),none,0⟩,
 ⟨5,some 36,.load (some 32) (.t 5),none,0⟩,
 ⟨6,none,.mupd .int (.t 34) (.t 35) (.t 36),none,0⟩] [])
 (.seq (.ops [
 ⟨some 6,.mv (.c (.int .i64 0)),none⟩] [6])
 .ret)))
def ir_epoch_Ring_Put_13 : ACode := (.seq (.seq (.ops [
 ⟨some 13,.mv (.t 0),none⟩,
 ⟨some 14,.nilc (.t 13),none⟩,
 ⟨some 15,.faddr 0 (.t 14),none⟩,
 ⟨some 16,.load none (.t 15),none⟩,
 ⟨some 17,.mv (.t 1),none⟩,
 ⟨some 18,.lookup .int (.agg (List.replicate 32 (.int .u8 0) : List Value).toArray) true (.t 16) (.t 17),none⟩,
 ⟨some 12,.mv (.t 18),none⟩,
 ⟨some 19,.ext (.t 12) 0,none⟩,
 ⟨some 20,.ext (.t 12) 1,none⟩,
 ⟨some 7,.alloc (List.replicate 32 (.int .u8 0)),none⟩,
 ⟨none,.store 32 (.t 7) (.t 19),none⟩,
 ⟨some 8,.mv (.t 20),none⟩] [0,1,5,7,8])
 (.seq (.ops [
 ⟨some 21,.mv (.t 8),none⟩] [0,1,5,7,21])
 (.cond (.t 21)
 (.seq (.seq (.ops [
 ⟨some 22,.load (some 32) (.t 7),none⟩,
 ⟨some 23,.load (some 32) (.t 5),none⟩,
 ⟨some 24,.eqa (List.replicate 32 (some .u8)) true (.t 22) (.t 23),none⟩] [24])
 (.cond (.t 24)
 (.seq (.ops [
 ⟨some 6,.mv (.c (.int .i64 5)),none⟩] [6])
 .ret)
 .skip))
 (.seq (.ops [
 ⟨some 6,.mv (.c (.int .i64 0)),none⟩] [6])
 .ret))
 .skip)))
 ir_epoch_Ring_Put_25)
def ir_epoch_Ring_Put : AFunc := ⟨3,37,[.tmp 6],
 (.seq (.ops [
 ⟨some 5,.box (.t 2),none⟩,
 ⟨some 6,.mv (.c (.int .i64 0)),none⟩] [0,1,5])
 (.seq (.seq (.ops [
 ⟨some 9,.mv (.t 1),none⟩,
 ⟨some 10,.call 188 [.t 9],none⟩,
 ⟨some 11,.un .not (.t 10),none⟩] [0,1,5,11])
 (.cond (.t 11)
 (.seq (.ops [
 ⟨some 6,.mv (.c (.int .i64 1)),none⟩] [6])
 .ret)
 .skip))
 ir_epoch_Ring_Put_13))⟩

def h_epoch_Ring_Get : Hint := [(0,[0,1,4],[]),(1,[4,6,7],[]),(2,[4,5],[])]
def ir_epoch_Ring_Get : AFunc := ⟨2,19,[.cell 4 (some 32),.tmp 5],
 (.seq (.ops [
 ⟨some 4,.alloc (List.replicate 32 (.int .u8 0)),none⟩,
 ⟨some 5,.mv (.c (.bool false)),none⟩] [0,1,4])
 (.seq (.ops [
 ⟨some 9,.mv (.t 0),none⟩,
 ⟨some 10,.nilc (.t 9),none⟩,
 ⟨some 11,.faddr 0 (.t 10),none⟩,
 ⟨some 12,.load none (.t 11),none⟩,
 ⟨some 13,.mv (.t 1),none⟩,
 ⟨some 14,.lookup .int (.agg (List.replicate 32 (.int .u8 0) : List Value).toArray) true (.t 12) (.t 13),none⟩,
 ⟨some 8,.mv (.t 14),none⟩,
 ⟨some 15,.ext (.t 8) 0,none⟩,
 ⟨some 16,.ext (.t 8) 1,none⟩,
 ⟨some 6,.alloc (List.replicate 32 (.int .u8 0)),none⟩,
 ⟨none,.store 32 (.t 6) (.t 15),none⟩,
 ⟨some 7,.mv (.t 16),none⟩] [4,6,7])
 (.seq (.ops [
 ⟨some 17,.load (some 32) (.t 6),none⟩,
 ⟨some 18,.mv (.t 7),none⟩,
 ⟨none,.store 32 (.t 4) (.t 17),none⟩,
 ⟨some 5,.mv (.t 18),none⟩] [4,5])
 .ret)))⟩

def h_epoch_Ring_Last : Hint := [(0,[0],[]),(1,[0,9],[]),(2,[2,3],[]),(3,[2,3],[])]
def ir_epoch_Ring_Last : AFunc := ⟨1,17,[.tmp 2,.tmp 3],
 (.seq (.ops [
 ⟨some 2,.mv (.c (.int .i64 0)),none⟩,
 ⟨some 3,.mv (.c (.bool false)),none⟩] [0])
 (.seq (.seq (.ops [
 ⟨some 4,.mv (.t 0),none⟩,
 ⟨some 5,.nilc (.t 4),none⟩,
 ⟨some 6,.faddr 0 (.t 5),none⟩,
 ⟨some 7,.load none (.t 6),none⟩,
 ⟨some 8,.lenM (.t 7),none⟩,
 ⟨some 9,.bin .eql (.t 8) (.c (.int .i64 0)),none⟩] [0,9])
 (.cond (.t 9)
 (.seq (.ops [
 ⟨some 2,.mv (.c (.int .i64 0)),none⟩,
 ⟨some 3,.mv (.c (.bool false)),none⟩] [2,3])
 .ret)
 .skip))
 (.seq (.ops [
 ⟨some 10,.mv (.t 0),none⟩,
 ⟨some 11,.nilc (.t 10),none⟩,
 ⟨some 12,.faddr 0 (.t 11),none⟩,
 ⟨some 13,.load none (.t 12),none⟩,
 ⟨some 14,.call 192 [.t 13],none⟩,
 ⟨some 15,.call 191 [.t 14],none⟩,
 ⟨some 16,.call 190 [.t 15],none⟩,
 ⟨some 2,.mv (.t 16),none⟩,
 ⟨some 3,.mv (.c (.bool true)),none⟩] [2,3])
 .ret)))⟩

def h_epoch_Ring_Len : Hint := [(0,[0],[]),(1,[2],[])]
def ir_epoch_Ring_Len : AFunc := ⟨1,8,[.tmp 2],
 (.seq (.ops [
 ⟨some 2,.mv (.c (.int .i64 0)),none⟩] [0])
 (.seq (.ops [
 ⟨some 3,.mv (.t 0),none⟩,
 ⟨some 4,.nilc (.t 3),none⟩,
 ⟨some 5,.faddr 0 (.t 4),none⟩,
 ⟨some 6,.load none (.t 5),none⟩,
 ⟨some 7,.lenM (.t 6),none⟩,
 ⟨some 2,.mv (.t 7),none⟩] [2])
 .ret))⟩

def h_bandboxref19_Ring_Put : Hint := [(0,[0,1,5],[]),(1,[0,1,5,10],[]),(2,[6],[]),(3,[0,1,5,7],[]),(4,[0,1,5,7,17],[]),(5,[0,1,5,7],[]),(6,[0,1,5,7,29],[]),(7,[39],[(0,0),(1,0),(2,0),(3,0),(4,0),(5,0),(6,0),(7,0),(8,0),(9,0)]),(8,[6],[]),(9,[6],[]),(10,[0,1,5,45],[]),(11,[6],[]),(12,[],[(1,0),(2,0),(3,0),(4,0),(5,0),(6,0),(7,1),(8,1),(9,1),(10,0),(11,0),(0,2),(12,0),(13,0),(14,0)]),(13,[6],[])]
def ir_bandboxref19_Ring_Put_47 : ACode := (.seq (.dops [
 ⟨1,some 47,.bslice 0 33 (([.int .i64 0] ++ List.replicate 32 (.int .u8 0))) [],none,0⟩,
 ⟨2,some 48,.mv (.t 0),none,0⟩,
 ⟨3,some 49,.nilc (.t 48),none,0⟩,
 ⟨4,some 50,.faddr 0 (.t 49),none,0⟩,
 ⟨5,some 51,.load none (.t 50),none,0⟩,
 ⟨6,some 52,.append 33 40 (.t 47) (.t 51),none,0⟩,
 ⟨7,some 53,.mv (.t 1),none,1⟩,
 ⟨8,some 54,.load (some 32) (.t 5),none,1⟩,
 ⟨9,some 55,.build (([.int .i64 0] ++ List.replicate 32 (.int .u8 0))) [(0,1,.t 53),(1,32,.t 54)],none,1⟩,
 ⟨10,some 56,.bslice 1 33 (([.int .i64 0] ++ List.replicate 32 (.int .u8 0))) [(0,33,.t 55)],none,0⟩,
 ⟨11,some 57,.append 33 40 (.t 52) (.t 56),none,0⟩,
 ⟨0,some 46,.mv (.t 0),none,2⟩,
 ⟨12,some 58,.nilc (.t 46),none,0⟩,
 ⟨13,some 59,.faddr 0 (.t 58),none,0⟩,
 ⟨14,none,.store 1 (.t 59) (.t 57),none,0⟩] [])
 (.seq (.ops [
 ⟨some 6,.mv (.c (.int .i64 0)),none⟩] [6])
 .ret))
def ir_bandboxref19_Ring_Put_20 : ACode := (.seq (.block 1 (.seq (.ops [
 ⟨some 20,.mv (.t 0),none⟩,
 ⟨some 21,.nilc (.t 20),none⟩,
 ⟨some 22,.faddr 0 (.t 21),none⟩,
 ⟨some 23,.load none (.t 22),none⟩,
 ⟨some 24,.mv (.t 7),none⟩,
 ⟨some 25,.iaddrS 33 (.t 23) (.t 24),none⟩,
 ⟨some 26,.faddr 0 (.t 25),none⟩,
 ⟨some 27,.load none (.t 26),none⟩,
 ⟨some 28,.mv (.t 1),none⟩,
 ⟨some 29,.bin .eql (.t 27) (.t 28),none⟩] [0,1,5,7,29])
 (.cond (.t 29)
 (.seq (.seq (.dops [
 ⟨0,some 30,.mv (.t 0),none,0⟩,
 ⟨1,some 31,.nilc (.t 30),none,0⟩,
 ⟨2,some 32,.faddr 0 (.t 31),none,0⟩,
 ⟨3,some 33,.load none (.t 32),none,0⟩,
 ⟨4,some 34,.mv (.t 7),none,0⟩,
 ⟨5,some 35,.iaddrS 33 (.t 33) (.t 34),none,0⟩,
 ⟨6,some 36,.faddr 1 (.t 35),none,0⟩,
 ⟨7,some 37,.load (some 32) (.t 36),none,0⟩,
 ⟨8,some 38,.load (some 32) (.t 5),none,0⟩,
 ⟨9,some 39,.eqa (List.replicate 32 (some .u8)) false (.t 37) (.t 38),none,0⟩] [39])
 (.cond (.t 39)
 (.seq (.ops [
 ⟨some 6,.mv (.c (.int .i64 0)),none⟩] [6])
 .ret)
 .skip))
 (.seq (.ops [
 ⟨some 6,.mv (.c (.int .i64 5)),none⟩] [6])
 .ret))
 .skip)))
 (.ops [
 ⟨some 18,.mv (.t 7),none⟩,
 ⟨some 19,.bin .add (.t 18) (.c (.int .i64 1)),none⟩,
 ⟨some 7,.mv (.t 19),none⟩] [0,1,5,7]))
def ir_bandboxref19_Ring_Put_40 : ACode := (.seq (.seq (.ops [
 ⟨some 40,.mv (.t 0),none⟩,
 ⟨some 41,.nilc (.t 40),none⟩,
 ⟨some 42,.faddr 0 (.t 41),none⟩,
 ⟨some 43,.load none (.t 42),none⟩,
 ⟨some 44,.lenS (.t 43),none⟩,
 ⟨some 45,.bin .geq (.t 44) (.c (.int .i64 500)),none⟩] [0,1,5,45])
 (.cond (.t 45)
 (.seq (.ops [
 ⟨some 6,.mv (.c (.int .i64 2)),none⟩] [6])
 .ret)
 .skip))
 ir_bandboxref19_Ring_Put_47)
def ir_bandboxref19_Ring_Put : AFunc := ⟨3,60,[.tmp 6],
 (.seq (.ops [
 ⟨some 5,.box (.t 2),none⟩,
 ⟨some 6,.mv (.c (.int .i64 0)),none⟩] [0,1,5])
 (.seq (.seq (.ops [
 ⟨some 8,.mv (.t 1),none⟩,
 ⟨some 9,.call 193 [.t 8],none⟩,
 ⟨some 10,.un .not (.t 9),none⟩] [0,1,5,10])
 (.cond (.t 10)
 (.seq (.ops [
 ⟨some 6,.mv (.c (.int .i64 1)),none⟩] [6])
 .ret)
 .skip))
 (.seq (.seq (.ops [
 ⟨some 7,.mv (.c (.int .i64 0)),none⟩] [0,1,5,7])
 (.block 0 (.loop (.seq (.seq (.ops [
 ⟨some 11,.mv (.t 7),none⟩,
 ⟨some 12,.mv (.t 0),none⟩,
 ⟨some 13,.nilc (.t 12),none⟩,
 ⟨some 14,.faddr 0 (.t 13),none⟩,
 ⟨some 15,.load none (.t 14),none⟩,
 ⟨some 16,.lenS (.t 15),none⟩,
 ⟨some 17,.bin .lss (.t 11) (.t 16),none⟩] [0,1,5,7,17])
 (.cond (.t 17)
 .skip
 (.exit 0)))
 ir_bandboxref19_Ring_Put_20))))
 ir_bandboxref19_Ring_Put_40)))⟩

def h_epoch_good : Hint := [(0,[0],[]),(1,[2],[])]
def ir_epoch_good : AFunc := ⟨1,9,[.tmp 2],
 (.seq (.ops [
 ⟨some 2,.mv (.c (.bool false)),none⟩] [0])
 (.seq (.ops [
 ⟨some 3,.mv (.t 0),none⟩,
 ⟨some 4,.bin .geq (.t 3) (.c (.int .i64 0)),none⟩,
 ⟨some 5,.mv (.t 4),none⟩,
 ⟨some 6,.mv (.t 0),(some (5,true))⟩,
 ⟨some 7,.bin .leq (.t 6) (.c (.int .i64 1099511627776)),(some (5,true))⟩,
 ⟨some 8,.pick (.t 5) (.t 7) (.c (.bool false)),none⟩,
 ⟨some 2,.mv (.t 8),none⟩] [2])
 .ret))⟩

def h_vec_Dev : Hint := [(0,[0],[]),(1,[2],[])]
def ir_vec_Dev : AFunc := ⟨1,9,[.tmp 2],
 (.seq (.ops [
 ⟨some 2,.mv (.c (.bool false)),none⟩] [0])
 (.seq (.ops [
 ⟨some 3,.mv (.t 0),none⟩,
 ⟨some 4,.bin .geq (.t 3) (.c (.int .i64 0)),none⟩,
 ⟨some 5,.mv (.t 4),none⟩,
 ⟨some 6,.mv (.t 0),(some (5,true))⟩,
 ⟨some 7,.bin .lss (.t 6) (.c (.int .i64 8)),(some (5,true))⟩,
 ⟨some 8,.pick (.t 5) (.t 7) (.c (.bool false)),none⟩,
 ⟨some 2,.mv (.t 8),none⟩] [2])
 .ret))⟩

def h_slices_Max_int64_int64 : Hint := [(0,[0],[]),(1,[0,7],[]),(2,[0],[]),(3,[0,3],[]),(4,[0,3,4],[]),(5,[0,3,4,15],[]),(6,[0,3,4],[]),(7,[0,3,4],[]),(8,[2],[])]
def ir_slices_Max_int64_int64 : AFunc := ⟨1,25,[.tmp 2],
 (.seq (.ops [
 ⟨some 2,.mv (.c (.int .i64 0)),none⟩] [0])
 (.seq (.seq (.ops [
 ⟨some 5,.mv (.t 0),none⟩,
 ⟨some 6,.lenS (.t 5),none⟩,
 ⟨some 7,.bin .lss (.t 6) (.c (.int .i64 1)),none⟩] [0,7])
 (.cond (.t 7)
 (.ops [
 ⟨some 8,.bad,none⟩,
 ⟨none,.bad,none⟩] [0])
 .skip))
 (.seq (.ops [
 ⟨some 9,.mv (.t 0),none⟩,
 ⟨some 10,.iaddrS 1 (.t 9) (.c (.int .i64 0)),none⟩,
 ⟨some 11,.load none (.t 10),none⟩,
 ⟨some 3,.mv (.t 11),none⟩] [0,3])
 (.seq (.seq (.ops [
 ⟨some 4,.mv (.c (.int .i64 1)),none⟩] [0,3,4])
 (.block 0
 (.loop
 (.seq (.seq (.ops [
 ⟨some 12,.mv (.t 4),none⟩,
 ⟨some 13,.mv (.t 0),none⟩,
 ⟨some 14,.lenS (.t 13),none⟩,
 ⟨some 15,.bin .lss (.t 12) (.t 14),none⟩] [0,3,4,15])
 (.cond (.t 15)
 .skip
 (.exit 0)))
 (.seq (.block 1
 (.ops [
 ⟨some 18,.mv (.t 3),none⟩,
 ⟨some 19,.mv (.t 0),none⟩,
 ⟨some 20,.mv (.t 4),none⟩,
 ⟨some 21,.iaddrS 1 (.t 19) (.t 20),none⟩,
 ⟨some 22,.load none (.t 21),none⟩,
 ⟨some 23,.mx (.t 18) (.t 22),none⟩,
 ⟨some 3,.mv (.t 23),none⟩] [0,3,4]))
 (.ops [
 ⟨some 16,.mv (.t 4),none⟩,
 ⟨some 17,.bin .add (.t 16) (.c (.int .i64 1)),none⟩,
 ⟨some 4,.mv (.t 17),none⟩] [0,3,4]))))))
 (.seq (.ops [
 ⟨some 24,.mv (.t 3),none⟩,
 ⟨some 2,.mv (.t 24),none⟩] [2])
 .ret)))))⟩

def h_slices_Collect_int64 : Hint := [(0,[0],[]),(1,[2],[])]
def ir_slices_Collect_int64 : AFunc := ⟨1,5,[.tmp 2],
 (.seq (.ops [
 ⟨some 2,.mv (.c (.slice none 0 0)),none⟩] [0])
 (.seq (.ops [
 ⟨some 3,.mv (.t 0),none⟩,
 ⟨some 4,.call 194 [.c (.slice none 0 0),.t 3],none⟩,
 ⟨some 2,.mv (.t 4),none⟩] [2])
 .ret))⟩

def h_maps_Keys_map_int64_api_Word_int64_api_Word : Hint := [(0,[1],[]),(1,[2],[])]
def ir_maps_Keys_map_int64_api_Word_int64_api_Word : AFunc := ⟨1,4,[.tmp 2],
 (.seq (.ops [
 ⟨some 1,.box (.t 0),none⟩,
 ⟨some 2,.mv (.c (.nilFunc)),none⟩] [1])
 (.seq (.ops [
 ⟨some 3,.fn 195 [] [.t 1],none⟩,
 ⟨some 2,.mv (.t 3),none⟩] [2])
 .ret))⟩

def h_bandboxref19_May : Hint := [(0,[0],[]),(1,[2],[])]
def ir_bandboxref19_May : AFunc := ⟨1,9,[.tmp 2],
 (.seq (.ops [
 ⟨some 2,.mv (.c (.bool false)),none⟩] [0])
 (.seq (.ops [
 ⟨some 3,.mv (.t 0),none⟩,
 ⟨some 4,.bin .geq (.t 3) (.c (.int .i64 0)),none⟩,
 ⟨some 5,.mv (.t 4),none⟩,
 ⟨some 6,.mv (.t 0),(some (5,true))⟩,
 ⟨some 7,.bin .leq (.t 6) (.c (.int .i64 1099511627776)),(some (5,true))⟩,
 ⟨some 8,.pick (.t 5) (.t 7) (.c (.bool false)),none⟩,
 ⟨some 2,.mv (.t 8),none⟩] [2])
 .ret))⟩

def h_slices_AppendSeq_int64_int64 : Hint := [(0,[0,1,2,3,4,5,7,8,9,10,11,12],[]),(1,[0,1,2,3,4,5,6,7,8,9,10,11,12],[]),(4,[4],[])]
def ir_slices_AppendSeq_int64_int64 : AFunc := ⟨2,13,[.tmp 4],
 (.seq (.ops [
 ⟨some 2,.box (.t 0),none⟩,
 ⟨some 4,.mv (.c (.slice none 0 0)),none⟩] [0,1,2,3,4,5,7,8,9,10,11,12])
 (.seq (.seq (.ops [
 ⟨some 6,.mv (.t 1),none⟩] [0,1,2,3,4,5,6,7,8,9,10,11,12])
 (.block 0
 .bad))
 (.seq (.ops [
 ⟨some 12,.load none (.t 2),none⟩,
 ⟨some 4,.mv (.t 12),none⟩] [4])
 .ret)))⟩

def h_maps_Keys_map_int64_api_Word_int64_api_Word_1 : Hint := [(0,[0,5],[]),(1,[0,5,7],[]),(2,[0,3,5],[]),(3,[0,5,13],[])]
def ir_maps_Keys_map_int64_api_Word_int64_api_Word_1 : AFunc := ⟨1,14,[],
 (.seq (.ops [
 ⟨some 4,.load none (.t 1),none⟩,
 ⟨some 5,.rangeM (.t 4),none⟩] [0,5])
 (.block 0 (.loop (.seq (.ops [
 ⟨some 6,.nextM (.t 5),none⟩,
 ⟨some 7,.ext (.t 6) 0,none⟩] [0,5,7])
 (.seq (.cond (.t 7)
 .skip
 (.exit 0))
 (.block 1 (.seq (.ops [
 ⟨some 8,.entryM (.t 5),none⟩,
 ⟨some 9,.ext (.t 8) 0,none⟩,
 ⟨some 3,.mv (.t 9),none⟩] [0,3,5])
 (.seq (.ops [
 ⟨some 10,.mv (.t 0),none⟩,
 ⟨some 11,.mv (.t 3),none⟩,
 ⟨some 12,.callv (.t 10) [.t 11],none⟩,
 ⟨some 13,.un .not (.t 12),none⟩] [0,5,13])
 (.cond (.t 13)
 .ret
 .skip)))))))))⟩

noncomputable def tabT : NT := (.node 115 (h_aead_Seal,ir_aead_Seal) (.node 78 (h_sha_Sum_Word,ir_sha_Sum_Word) (.node 63 (h_poly_word,ir_poly_word) (.node 40 (h_poly_Clamp,ir_poly_Clamp) (.node 36 (h_kdf_Mac,ir_kdf_Mac) (.node 35 (h_kdf_Key,ir_kdf_Key) (.node 33 (h_kdf_Expand,ir_kdf_Expand) .leaf .leaf) .leaf) (.node 38 (h_poly_Tag,ir_poly_Tag) .leaf .leaf)) (.node 61 (h_octet_Big,ir_octet_Big) (.node 55 (h_slices_Clone_byte_byte,ir_slices_Clone_byte_byte) .leaf .leaf) (.node 62 (h_sha_Of,ir_sha_Of) .leaf .leaf))) (.node 67 (h_poly_num_last,ir_poly_num_last) (.node 65 (h_poly_num_plus,ir_poly_num_plus) (.node 64 (h_slices_Concat_byte_byte,ir_slices_Concat_byte_byte) .leaf .leaf) (.node 66 (h_poly_num_times,ir_poly_num_times) .leaf .leaf)) (.node 76 (h_sha_New,ir_sha_New) (.node 68 (h_octet_Little,ir_octet_Little) .leaf .leaf) (.node 77 (h_sha_Sum_Add,ir_sha_Sum_Add) .leaf .leaf)))) (.node 87 (h_sha_padding,ir_sha_padding) (.node 82 (h_poly_num_cut,ir_poly_num_cut) (.node 80 (h_slices_Grow_byte_byte,ir_slices_Grow_byte_byte) (.node 79 (h_octet_FromLittle,ir_octet_FromLittle) .leaf .leaf) (.node 81 (h_poly_column,ir_poly_column) .leaf .leaf)) (.node 85 (h_sha_constants,ir_sha_constants) (.node 84 (h_sha_start,ir_sha_start) .leaf .leaf) (.node 86 (h_sha_mix,ir_sha_mix) .leaf .leaf))) (.node 91 (h_sha_schedule,ir_sha_schedule) (.node 89 (h_octet_Turn,ir_octet_Turn) (.node 88 (h_octet_FromBig,ir_octet_FromBig) .leaf .leaf) (.node 90 (h_math_bits_Mul64,ir_math_bits_Mul64) .leaf .leaf)) (.node 93 (h_slices_Reverse_byte_byte,ir_slices_Reverse_byte_byte) (.node 92 (h_sha_turn,ir_sha_turn) .leaf .leaf) (.node 94 (h_math_bits_RotateLeft32,ir_math_bits_RotateLeft32) .leaf .leaf))))) (.node 176 (h_epoch_Unwrap,ir_epoch_Unwrap) (.node 135 (h_aead_fill,ir_aead_fill) (.node 128 (h_aead_tag,ir_aead_tag) (.node 117 (h_aead_Key,ir_aead_Key) (.node 116 (h_aead_Open,ir_aead_Open) .leaf .leaf) (.node 127 (h_chacha_Xor,ir_chacha_Xor) .leaf .leaf)) (.node 130 (h_chacha_Block,ir_chacha_Block) (.node 129 (h_octet_Equal,ir_octet_Equal) .leaf .leaf) (.node 134 (h_octet_Xor,ir_octet_Xor) .leaf .leaf))) (.node 143 (h_chacha_Quarter,ir_chacha_Quarter) (.node 137 (h_chacha_mix,ir_chacha_mix) (.node 136 (h_chacha_state,ir_chacha_state) .leaf .leaf) (.node 142 (h_chacha_word,ir_chacha_word) .leaf .leaf)) (.node 174 (h_bandboxlaw22_awake,ir_bandboxlaw22_awake) (.node 172 (h_bandboxlaw22_EpochKnown,ir_bandboxlaw22_EpochKnown) .leaf .leaf) (.node 175 (h_epoch_Wrap,ir_epoch_Wrap) .leaf .leaf)))) (.node 188 (h_epoch_good,ir_epoch_good) (.node 181 (h_epoch_Ring_Get,ir_epoch_Ring_Get) (.node 178 (h_epoch_New,ir_epoch_New) (.node 177 (h_epoch_Nonce,ir_epoch_Nonce) .leaf .leaf) (.node 179 (h_epoch_Ring_Put,ir_epoch_Ring_Put) .leaf .leaf)) (.node 183 (h_epoch_Ring_Len,ir_epoch_Ring_Len) (.node 182 (h_epoch_Ring_Last,ir_epoch_Ring_Last) .leaf .leaf) (.node 184 (h_bandboxref19_Ring_Put,ir_bandboxref19_Ring_Put) .leaf .leaf))) (.node 192 (h_maps_Keys_map_int64_api_Word_int64_api_Word,ir_maps_Keys_map_int64_api_Word_int64_api_Word) (.node 190 (h_slices_Max_int64_int64,ir_slices_Max_int64_int64) (.node 189 (h_vec_Dev,ir_vec_Dev) .leaf .leaf) (.node 191 (h_slices_Collect_int64,ir_slices_Collect_int64) .leaf .leaf)) (.node 194 (h_slices_AppendSeq_int64_int64,ir_slices_AppendSeq_int64_int64) (.node 193 (h_bandboxref19_May,ir_bandboxref19_May) .leaf .leaf) (.node 195 (h_maps_Keys_map_int64_api_Word_int64_api_Word_1,ir_maps_Keys_map_int64_api_Word_int64_api_Word_1) .leaf .leaf))))))
noncomputable def tab : Nat → Option (Hint × AFunc) := tabT.find
abbrev n_kdf_Expand : Nat := 33
abbrev n_kdf_Key : Nat := 35
abbrev n_kdf_Mac : Nat := 36
abbrev n_poly_Tag : Nat := 38
abbrev n_poly_Clamp : Nat := 40
abbrev n_slices_Clone_byte_byte : Nat := 55
abbrev n_octet_Big : Nat := 61
abbrev n_sha_Of : Nat := 62
abbrev n_poly_word : Nat := 63
abbrev n_slices_Concat_byte_byte : Nat := 64
abbrev n_poly_num_plus : Nat := 65
abbrev n_poly_num_times : Nat := 66
abbrev n_poly_num_last : Nat := 67
abbrev n_octet_Little : Nat := 68
abbrev n_sha_New : Nat := 76
abbrev n_sha_Sum_Add : Nat := 77
abbrev n_sha_Sum_Word : Nat := 78
abbrev n_octet_FromLittle : Nat := 79
abbrev n_slices_Grow_byte_byte : Nat := 80
abbrev n_poly_column : Nat := 81
abbrev n_poly_num_cut : Nat := 82
abbrev n_sha_start : Nat := 84
abbrev n_sha_constants : Nat := 85
abbrev n_sha_mix : Nat := 86
abbrev n_sha_padding : Nat := 87
abbrev n_octet_FromBig : Nat := 88
abbrev n_octet_Turn : Nat := 89
abbrev n_math_bits_Mul64 : Nat := 90
abbrev n_sha_schedule : Nat := 91
abbrev n_sha_turn : Nat := 92
abbrev n_slices_Reverse_byte_byte : Nat := 93
abbrev n_math_bits_RotateLeft32 : Nat := 94
abbrev n_aead_Seal : Nat := 115
abbrev n_aead_Open : Nat := 116
abbrev n_aead_Key : Nat := 117
abbrev n_chacha_Xor : Nat := 127
abbrev n_aead_tag : Nat := 128
abbrev n_octet_Equal : Nat := 129
abbrev n_chacha_Block : Nat := 130
abbrev n_octet_Xor : Nat := 134
abbrev n_aead_fill : Nat := 135
abbrev n_chacha_state : Nat := 136
abbrev n_chacha_mix : Nat := 137
abbrev n_chacha_word : Nat := 142
abbrev n_chacha_Quarter : Nat := 143
abbrev n_bandboxlaw22_EpochKnown : Nat := 172
abbrev n_bandboxlaw22_awake : Nat := 174
abbrev n_epoch_Wrap : Nat := 175
abbrev n_epoch_Unwrap : Nat := 176
abbrev n_epoch_Nonce : Nat := 177
abbrev n_epoch_New : Nat := 178
abbrev n_epoch_Ring_Put : Nat := 179
abbrev n_epoch_Ring_Get : Nat := 181
abbrev n_epoch_Ring_Last : Nat := 182
abbrev n_epoch_Ring_Len : Nat := 183
abbrev n_bandboxref19_Ring_Put : Nat := 184
abbrev n_epoch_good : Nat := 188
abbrev n_vec_Dev : Nat := 189
abbrev n_slices_Max_int64_int64 : Nat := 190
abbrev n_slices_Collect_int64 : Nat := 191
abbrev n_maps_Keys_map_int64_api_Word_int64_api_Word : Nat := 192
abbrev n_bandboxref19_May : Nat := 193
abbrev n_slices_AppendSeq_int64_int64 : Nat := 194
abbrev n_maps_Keys_map_int64_api_Word_int64_api_Word_1 : Nat := 195
end Go.Bb
