/- The functions that this claim reaches, in short form; printed by a program of mine. -/
import Derived.Test.YtkgegppgaeadiaaDoorBbG3
namespace Go.Bb
set_option maxRecDepth 20000
def h_pad_Bucket : Hint := [(0,[0],[]),(1,[0,5],[]),(2,[2,3],[]),(3,[0,8],[]),(4,[2,3],[]),(5,[0,4],[]),(6,[0,4,14],[]),(7,[0,4],[]),(8,[2,3],[])]
def ir_pad_Bucket : AFunc := ⟨1,18,[.tmp 2,.tmp 3],
 (.seq (.ops [
 ⟨some 2,.mv (.c (.int .i64 0)),none⟩,
 ⟨some 3,.mv (.c (.int .i64 0)),none⟩] [0])
 (.seq (.block 0
 (.seq (.ops [
 ⟨some 6,.mv (.t 0),none⟩,
 ⟨some 7,.bin .lss (.t 6) (.c (.int .i64 0)),none⟩,
 ⟨some 5,.mv (.t 7),none⟩] [0,5])
 (.cond (.t 5)
 (.seq (.ops [
 ⟨some 2,.mv (.c (.int .i64 0)),none⟩,
 ⟨some 3,.mv (.c (.int .i64 1)),none⟩] [2,3])
 .ret)
 (.seq (.ops [
 ⟨some 9,.mv (.t 0),none⟩,
 ⟨some 10,.bin .geq (.t 9) (.c (.int .i64 65536)),none⟩,
 ⟨some 8,.mv (.t 10),none⟩] [0,8])
 (.cond (.t 8)
 (.seq (.ops [
 ⟨some 2,.mv (.c (.int .i64 0)),none⟩,
 ⟨some 3,.mv (.c (.int .i64 2)),none⟩] [2,3])
 .ret)
 .skip)))))
 (.seq (.ops [
 ⟨some 4,.mv (.c (.int .i64 64)),none⟩] [0,4])
 (.seq (.block 1
 (.loop
 (.seq (.seq (.ops [
 ⟨some 11,.mv (.t 4),none⟩,
 ⟨some 12,.mv (.t 0),none⟩,
 ⟨some 13,.bin .add (.t 12) (.c (.int .i64 1)),none⟩,
 ⟨some 14,.bin .lss (.t 11) (.t 13),none⟩] [0,4,14])
 (.cond (.t 14)
 .skip
 (.exit 1)))
 (.block 2
 (.ops [
 ⟨some 15,.mv (.t 4),none⟩,
 ⟨some 16,.bin .mul (.t 15) (.c (.int .i64 2)),none⟩,
 ⟨some 4,.mv (.t 16),none⟩] [0,4])))))
 (.seq (.ops [
 ⟨some 17,.mv (.t 4),none⟩,
 ⟨some 2,.mv (.t 17),none⟩,
 ⟨some 3,.mv (.c (.int .i64 0)),none⟩] [2,3])
 .ret)))))⟩

def h_poly_Tag : Hint := [(0,[1,2,4],[]),(1,[1,2,4,5],[]),(2,[1,2,4,6],[(0,0),(1,0),(2,1),(3,0),(4,0),(5,0),(6,0)]),(3,[1,2,4,6,7],[]),(4,[2,4,6,7,8],[]),(5,[2,4,6,7,8,25],[]),(6,[2,4,6,7,8,9],[]),(7,[2,4,6,7,8,9,10],[]),(8,[2,4,6,7,8,9,10],[]),(9,[2,4,6,7,8,9],[(1,0),(2,0),(3,0),(4,1),(5,1),(6,0),(0,2),(7,2),(8,2),(9,2),(10,2),(11,0),(12,0),(13,3),(14,0),(15,0)]),(10,[2,4,6,7,8],[]),(11,[4,11],[(0,0),(1,0),(2,1),(3,0),(4,2),(5,0),(6,0),(7,0),(8,0),(9,0)]),(12,[4],[(0,0),(1,0),(2,0),(3,1),(4,1),(5,0),(6,0),(7,0),(8,0)])]
def ir_poly_Tag : AFunc := ⟨2,73,[.cell 4 (some 16)],
 (.seq (.ops [
 ⟨some 2,.box (.t 0),none⟩,
 ⟨some 4,.alloc (List.replicate 16 (.int .u8 0)),none⟩] [1,2,4])
 (.seq (.ops [
 ⟨some 12,.slArr 32 1 (.t 2) none (some (.c (.int .i64 16))) none,none⟩,
 ⟨some 13,.arrOf 16 (.t 12),none⟩,
 ⟨some 14,.load (some 16) (.t 13),none⟩,
 ⟨some 15,.call 40 [.t 14],none⟩,
 ⟨some 5,.alloc (List.replicate 16 (.int .u8 0)),none⟩,
 ⟨none,.store 16 (.t 5) (.t 15),none⟩] [1,2,4,5])
 (.seq (.dops [
 ⟨0,some 16,.slArr 16 1 (.t 5) none (some (.c (.int .i64 8))) none,none,0⟩,
 ⟨1,some 17,.call 63 [.t 16],none,0⟩,
 ⟨2,some 18,.slArr 16 1 (.t 5) (some (.c (.int .i64 8))) none none,none,1⟩,
 ⟨3,some 19,.call 63 [.t 18],none,0⟩,
 ⟨4,some 20,.build ([.int .u64 0,.int .u64 0]) [(0,1,.t 17),(1,1,.t 19)],none,0⟩,
 ⟨5,some 6,.alloc ([.int .u64 0,.int .u64 0]),none,0⟩,
 ⟨6,none,.store 2 (.t 6) (.t 20),none,0⟩] [1,2,4,6])
 (.seq (.ops [
 ⟨some 7,.alloc ([.int .u64 0,.int .u64 0,.int .u64 0]),none⟩] [1,2,4,6,7])
 (.seq (.seq (.ops [
 ⟨some 21,.mv (.t 1),none⟩,
 ⟨some 22,.call 64 [.t 21],none⟩,
 ⟨some 8,.mv (.t 22),none⟩] [2,4,6,7,8])
 (.block 0
 (.loop
 (.seq (.seq (.ops [
 ⟨some 23,.mv (.t 8),none⟩,
 ⟨some 24,.lenS (.t 23),none⟩,
 ⟨some 25,.bin .gtr (.t 24) (.c (.int .i64 0)),none⟩] [2,4,6,7,8,25])
 (.cond (.t 25)
 .skip
 (.exit 0)))
 (.block 1
 (.seq (.ops [
 ⟨some 26,.mv (.t 8),none⟩,
 ⟨some 27,.lenS (.t 26),none⟩,
 ⟨some 28,.mn (.t 27) (.c (.int .i64 16)),none⟩,
 ⟨some 9,.mv (.t 28),none⟩] [2,4,6,7,8,9])
 (.seq (.ops [
 ⟨some 29,.mv (.t 8),none⟩,
 ⟨some 30,.mv (.t 9),none⟩,
 ⟨some 31,.slSl 1 (.t 29) none (some (.t 30)) none,none⟩,
 ⟨some 32,.call 55 [.t 31],none⟩,
 ⟨some 33,.bslice 1 1 ([.int .u8 0]) [(0,1,.c (.int .u8 1))],none⟩,
 ⟨some 34,.append 1 1 (.t 32) (.t 33),none⟩,
 ⟨some 10,.mv (.t 34),none⟩] [2,4,6,7,8,9,10])
 (.seq (.ops [
 ⟨some 35,.mv (.t 10),none⟩,
 ⟨some 36,.mv (.t 9),none⟩,
 ⟨some 37,.bin .sub (.c (.int .i64 32)) (.t 36),none⟩,
 ⟨some 38,.appendZ 1 1 ([.int .u8 0]) (.t 35) (.t 37),none⟩,
 ⟨some 10,.mv (.t 38),none⟩] [2,4,6,7,8,9,10])
 (.seq (.dops [
 ⟨1,some 40,.mv (.t 10),none,0⟩,
 ⟨2,some 41,.slSl 1 (.t 40) none (some (.c (.int .i64 8))) none,none,0⟩,
 ⟨3,some 42,.call 63 [.t 41],none,0⟩,
 ⟨4,some 43,.mv (.t 10),none,1⟩,
 ⟨5,some 44,.slSl 1 (.t 43) (some (.c (.int .i64 8))) (some (.c (.int .i64 16))) none,none,1⟩,
 ⟨6,some 45,.call 63 [.t 44],none,0⟩,
 ⟨0,some 39,.load (some 3) (.t 7),none,2⟩,
 ⟨7,some 46,.mv (.t 10),none,2⟩,
 ⟨8,some 47,.iaddrS 1 (.t 46) (.c (.int .i64 16)),none,2⟩,
 ⟨9,some 48,.load none (.t 47),none,2⟩,
 ⟨10,some 49,.conv .u64 (.t 48),none,2⟩,
 ⟨11,some 50,.build ([.int .u64 0,.int .u64 0,.int .u64 0]) [(0,1,.t 42),(1,1,.t 45),(2,1,.t 49)],none,0⟩,
 ⟨12,some 51,.call 65 [.t 39,.t 50],none,0⟩,
 ⟨13,some 52,.load (some 2) (.t 6),none,3⟩,
 ⟨14,some 53,.call 66 [.t 51,.t 52],none,0⟩,
 ⟨15,none,.store 3 (.t 7) (.t 53),none,0⟩] [2,4,6,7,8,9])
 (.ops [
 ⟨some 54,.mv (.t 8),none⟩,
 ⟨some 55,.mv (.t 9),none⟩,
 ⟨some 56,.slSl 1 (.t 54) (some (.t 55)) none none,none⟩,
 ⟨some 8,.mv (.t 56),none⟩] [2,4,6,7,8]))))))))))
 (.seq (.dops [
 ⟨0,some 57,.load (some 3) (.t 7),none,0⟩,
 ⟨1,some 58,.call 67 [.t 57],none,0⟩,
 ⟨2,some 59,.slArr 32 1 (.t 2) (some (.c (.int .i64 16))) (some (.c (.int .i64 24))) none,none,1⟩,
 ⟨3,some 60,.call 63 [.t 59],none,0⟩,
 ⟨4,some 61,.slArr 32 1 (.t 2) (some (.c (.int .i64 24))) none none,none,2⟩,
 ⟨5,some 62,.call 63 [.t 61],none,0⟩,
 ⟨6,some 63,.build ([.int .u64 0,.int .u64 0,.int .u64 0]) [(0,1,.t 60),(1,1,.t 62)],none,0⟩,
 ⟨7,some 64,.call 65 [.t 58,.t 63],none,0⟩,
 ⟨8,some 11,.alloc ([.int .u64 0,.int .u64 0,.int .u64 0]),none,0⟩,
 ⟨9,none,.store 3 (.t 11) (.t 64),none,0⟩] [4,11])
 (.seq (.dops [
 ⟨0,some 65,.iaddrA 3 1 (.t 11) (.c (.int .i64 0)),none,0⟩,
 ⟨1,some 66,.load none (.t 65),none,0⟩,
 ⟨2,some 67,.call 68 [.c (.slice none 0 0),.t 66,.c (.int .i64 8)],none,0⟩,
 ⟨3,some 68,.iaddrA 3 1 (.t 11) (.c (.int .i64 1)),none,1⟩,
 ⟨4,some 69,.load none (.t 68),none,1⟩,
 ⟨5,some 70,.call 68 [.t 67,.t 69,.c (.int .i64 8)],none,0⟩,
 ⟨6,some 71,.arrOf 16 (.t 70),none,0⟩,
 ⟨7,some 72,.load (some 16) (.t 71),none,0⟩,
 ⟨8,none,.store 16 (.t 4) (.t 72),none,0⟩] [4])
 .ret)))))))⟩

def h_poly_Clamp : Hint := [(0,[1,2],[]),(1,[1,2,7,8,9],[]),(2,[1,2,7,8,9,10],[]),(3,[1,2,4,7,8,9],[]),(4,[1,2,7,8,9],[]),(5,[1,2,7,8,9],[]),(6,[1,2,19,20,21],[]),(7,[1,2,19,20,21,22],[]),(8,[1,2,6,19,20,21],[]),(9,[1,2,19,20,21],[]),(10,[1,2,19,20,21],[]),(11,[2],[])]
def ir_poly_Clamp : AFunc := ⟨1,32,[.cell 2 (some 16)],
 (.seq (.ops [
 ⟨some 1,.box (.t 0),none⟩,
 ⟨some 2,.alloc (List.replicate 16 (.int .u8 0)),none⟩] [1,2])
 (.seq (.seq (.ops [
 ⟨some 7,.bslice 4 1 ([.int .i64 0]) [(0,1,.c (.int .i64 3)),(1,1,.c (.int .i64 7)),(2,1,.c (.int .i64 11)),(3,1,.c (.int .i64 15))],none⟩,
 ⟨some 8,.lenS (.t 7),none⟩,
 ⟨some 9,.mv (.c (.int .i64 0)),none⟩] [1,2,7,8,9])
 (.block 0
 (.loop
 (.seq (.ops [
 ⟨some 10,.bin .lss (.t 9) (.t 8),none⟩] [1,2,7,8,9,10])
 (.seq (.cond (.t 10)
 .skip
 (.exit 0))
 (.seq (.block 1
 (.seq (.ops [
 ⟨some 11,.iaddrS 1 (.t 7) (.t 9),none⟩,
 ⟨some 12,.load none (.t 11),none⟩,
 ⟨some 4,.mv (.t 12),none⟩] [1,2,4,7,8,9])
 (.ops [
 ⟨some 13,.mv (.t 4),none⟩,
 ⟨some 14,.iaddrA 16 1 (.t 1) (.t 13),none⟩,
 ⟨some 15,.load none (.t 14),none⟩,
 ⟨some 16,.bin .and (.t 15) (.c (.int .u8 15)),none⟩,
 ⟨some 17,.iaddrA 16 1 (.t 1) (.t 13),none⟩,
 ⟨none,.store 1 (.t 17) (.t 16),none⟩] [1,2,7,8,9])))
 (.ops [
 ⟨some 18,.bin .add (.t 9) (.c (.int .i64 1)),none⟩,
 ⟨some 9,.mv (.t 18),none⟩] [1,2,7,8,9])))))))
 (.seq (.seq (.ops [
 ⟨some 19,.bslice 3 1 ([.int .i64 0]) [(0,1,.c (.int .i64 4)),(1,1,.c (.int .i64 8)),(2,1,.c (.int .i64 12))],none⟩,
 ⟨some 20,.lenS (.t 19),none⟩,
 ⟨some 21,.mv (.c (.int .i64 0)),none⟩] [1,2,19,20,21])
 (.block 2
 (.loop
 (.seq (.ops [
 ⟨some 22,.bin .lss (.t 21) (.t 20),none⟩] [1,2,19,20,21,22])
 (.seq (.cond (.t 22)
 .skip
 (.exit 2))
 (.seq (.block 3
 (.seq (.ops [
 ⟨some 23,.iaddrS 1 (.t 19) (.t 21),none⟩,
 ⟨some 24,.load none (.t 23),none⟩,
 ⟨some 6,.mv (.t 24),none⟩] [1,2,6,19,20,21])
 (.ops [
 ⟨some 25,.mv (.t 6),none⟩,
 ⟨some 26,.iaddrA 16 1 (.t 1) (.t 25),none⟩,
 ⟨some 27,.load none (.t 26),none⟩,
 ⟨some 28,.bin .and (.t 27) (.c (.int .u8 252)),none⟩,
 ⟨some 29,.iaddrA 16 1 (.t 1) (.t 25),none⟩,
 ⟨none,.store 1 (.t 29) (.t 28),none⟩] [1,2,19,20,21])))
 (.ops [
 ⟨some 30,.bin .add (.t 21) (.c (.int .i64 1)),none⟩,
 ⟨some 21,.mv (.t 30),none⟩] [1,2,19,20,21])))))))
 (.seq (.ops [
 ⟨some 31,.load (some 16) (.t 1),none⟩,
 ⟨none,.store 16 (.t 2) (.t 31),none⟩] [2])
 .ret))))⟩

def h_slices_Clone_byte_byte : Hint := [(0,[0],[]),(1,[0,4],[]),(2,[2],[]),(3,[2],[])]
def ir_slices_Clone_byte_byte : AFunc := ⟨1,8,[.tmp 2],
 (.seq (.ops [
 ⟨some 2,.mv (.c (.slice none 0 0)),none⟩] [0])
 (.seq (.seq (.ops [
 ⟨some 3,.mv (.t 0),none⟩,
 ⟨some 4,.eqv .slice false (.t 3) (.c (.slice none 0 0)),none⟩] [0,4])
 (.cond (.t 4)
 (.seq (.ops [
 ⟨some 2,.mv (.c (.slice none 0 0)),none⟩] [2])
 .ret)
 .skip))
 (.seq (.ops [
 ⟨some 5,.bslice 0 1 ([.int .u8 0]) [],none⟩,
 ⟨some 6,.mv (.t 0),none⟩,
 ⟨some 7,.append 1 1 (.t 5) (.t 6),none⟩,
 ⟨some 2,.mv (.t 7),none⟩] [2])
 .ret)))⟩

def h_octet_Big : Hint := [(0,[0,1,2],[]),(1,[1,2,7],[]),(2,[1,7,8],[]),(3,[1,7,8,16],[]),(4,[1,7,8],[]),(5,[1,7,8],[]),(6,[6],[])]
def ir_octet_Big : AFunc := ⟨3,28,[.tmp 6],
 (.seq (.ops [
 ⟨some 6,.mv (.c (.slice none 0 0)),none⟩] [0,1,2])
 (.seq (.ops [
 ⟨some 9,.mv (.t 0),none⟩,
 ⟨some 10,.call 55 [.t 9],none⟩,
 ⟨some 7,.mv (.t 10),none⟩] [1,2,7])
 (.seq (.seq (.ops [
 ⟨some 11,.mv (.t 2),none⟩,
 ⟨some 12,.mn (.t 11) (.c (.int .i64 8)),none⟩,
 ⟨some 13,.mx (.t 12) (.c (.int .i64 0)),none⟩,
 ⟨some 14,.bin .sub (.t 13) (.c (.int .i64 1)),none⟩,
 ⟨some 8,.mv (.t 14),none⟩] [1,7,8])
 (.block 0
 (.loop
 (.seq (.seq (.ops [
 ⟨some 15,.mv (.t 8),none⟩,
 ⟨some 16,.bin .geq (.t 15) (.c (.int .i64 0)),none⟩] [1,7,8,16])
 (.cond (.t 16)
 .skip
 (.exit 0)))
 (.seq (.block 1
 (.ops [
 ⟨some 19,.mv (.t 7),none⟩,
 ⟨some 20,.mv (.t 1),none⟩,
 ⟨some 21,.mv (.t 8),none⟩,
 ⟨some 22,.bin .mul (.c (.int .i64 8)) (.t 21),none⟩,
 ⟨some 23,.bin .shr (.t 20) (.t 22),none⟩,
 ⟨some 24,.conv .u8 (.t 23),none⟩,
 ⟨some 25,.bslice 1 1 ([.int .u8 0]) [(0,1,.t 24)],none⟩,
 ⟨some 26,.append 1 1 (.t 19) (.t 25),none⟩,
 ⟨some 7,.mv (.t 26),none⟩] [1,7,8]))
 (.ops [
 ⟨some 17,.mv (.t 8),none⟩,
 ⟨some 18,.bin .sub (.t 17) (.c (.int .i64 1)),none⟩,
 ⟨some 8,.mv (.t 18),none⟩] [1,7,8]))))))
 (.seq (.ops [
 ⟨some 27,.mv (.t 7),none⟩,
 ⟨some 6,.mv (.t 27),none⟩] [6])
 .ret))))⟩

def h_poly_word : Hint := [(0,[0],[]),(1,[3],[]),(2,[2],[])]
def ir_poly_word : AFunc := ⟨1,11,[.tmp 2],
 (.seq (.ops [
 ⟨some 2,.mv (.c (.int .u64 0)),none⟩] [0])
 (.seq (.ops [
 ⟨some 6,.mv (.t 0),none⟩,
 ⟨some 7,.call 79 [.t 6],none⟩,
 ⟨some 5,.mv (.t 7),none⟩,
 ⟨some 8,.ext (.t 5) 0,none⟩,
 ⟨some 9,.ext (.t 5) 1,none⟩,
 ⟨some 3,.mv (.t 8),none⟩,
 ⟨some 4,.mv (.t 9),none⟩] [3])
 (.seq (.ops [
 ⟨some 10,.mv (.t 3),none⟩,
 ⟨some 2,.mv (.t 10),none⟩] [2])
 .ret)))⟩

def h_slices_Concat_byte_byte : Hint := [(0,[0],[]),(1,[0,3],[]),(2,[0,3,9,10,11],[]),(3,[0,3,9,10,11,12],[]),(4,[0,3,5,9,10,11],[]),(5,[0,3,9,10,11],[]),(6,[0,3,9,10,11,20],[]),(7,[0,3,9,10,11],[]),(8,[0,3,9,10,11],[]),(9,[0,6],[]),(10,[6,25,26,27],[]),(11,[6,25,26,27,28],[]),(12,[6,8,25,26,27],[]),(13,[6,25,26,27],[]),(14,[6,25,26,27],[]),(15,[2],[])]
def ir_slices_Concat_byte_byte : AFunc := ⟨1,36,[.tmp 2],
 (.seq (.ops [
 ⟨some 2,.mv (.c (.slice none 0 0)),none⟩] [0])
 (.seq (.ops [
 ⟨some 3,.mv (.c (.int .i64 0)),none⟩] [0,3])
 (.seq (.seq (.ops [
 ⟨some 9,.mv (.t 0),none⟩,
 ⟨some 10,.lenS (.t 9),none⟩,
 ⟨some 11,.mv (.c (.int .i64 0)),none⟩] [0,3,9,10,11])
 (.block 0
 (.loop
 (.seq (.ops [
 ⟨some 12,.bin .lss (.t 11) (.t 10),none⟩] [0,3,9,10,11,12])
 (.seq (.cond (.t 12)
 .skip
 (.exit 0))
 (.seq (.block 1
 (.seq (.ops [
 ⟨some 13,.iaddrS 1 (.t 9) (.t 11),none⟩,
 ⟨some 14,.load none (.t 13),none⟩,
 ⟨some 5,.mv (.t 14),none⟩] [0,3,5,9,10,11])
 (.seq (.ops [
 ⟨some 15,.mv (.t 3),none⟩,
 ⟨some 16,.mv (.t 5),none⟩,
 ⟨some 17,.lenS (.t 16),none⟩,
 ⟨some 18,.bin .add (.t 15) (.t 17),none⟩,
 ⟨some 3,.mv (.t 18),none⟩] [0,3,9,10,11])
 (.seq (.ops [
 ⟨some 19,.mv (.t 3),none⟩,
 ⟨some 20,.bin .lss (.t 19) (.c (.int .i64 0)),none⟩] [0,3,9,10,11,20])
 (.cond (.t 20)
 (.ops [
 ⟨some 21,.bad,none⟩,
 ⟨none,.bad,none⟩] [0,3,9,10,11])
 .skip)))))
 (.ops [
 ⟨some 22,.bin .add (.t 11) (.c (.int .i64 1)),none⟩,
 ⟨some 11,.mv (.t 22),none⟩] [0,3,9,10,11])))))))
 (.seq (.ops [
 ⟨some 23,.mv (.t 3),none⟩,
 ⟨some 24,.call 80 [.c (.slice none 0 0),.t 23],none⟩,
 ⟨some 6,.mv (.t 24),none⟩] [0,6])
 (.seq (.seq (.ops [
 ⟨some 25,.mv (.t 0),none⟩,
 ⟨some 26,.lenS (.t 25),none⟩,
 ⟨some 27,.mv (.c (.int .i64 0)),none⟩] [6,25,26,27])
 (.block 2
 (.loop
 (.seq (.ops [
 ⟨some 28,.bin .lss (.t 27) (.t 26),none⟩] [6,25,26,27,28])
 (.seq (.cond (.t 28)
 .skip
 (.exit 2))
 (.seq (.block 3
 (.seq (.ops [
 ⟨some 29,.iaddrS 1 (.t 25) (.t 27),none⟩,
 ⟨some 30,.load none (.t 29),none⟩,
 ⟨some 8,.mv (.t 30),none⟩] [6,8,25,26,27])
 (.ops [
 ⟨some 31,.mv (.t 6),none⟩,
 ⟨some 32,.mv (.t 8),none⟩,
 ⟨some 33,.append 1 1 (.t 31) (.t 32),none⟩,
 ⟨some 6,.mv (.t 33),none⟩] [6,25,26,27])))
 (.ops [
 ⟨some 34,.bin .add (.t 27) (.c (.int .i64 1)),none⟩,
 ⟨some 27,.mv (.t 34),none⟩] [6,25,26,27])))))))
 (.seq (.ops [
 ⟨some 35,.mv (.t 6),none⟩,
 ⟨some 2,.mv (.t 35),none⟩] [2])
 .ret))))))⟩

def h_poly_num_plus : Hint := [(0,[2,3,4],[]),(1,[2,3,4],[]),(2,[2,3,4,5],[]),(3,[2,3,4,5],[]),(4,[2,4],[]),(5,[4],[])]
def ir_poly_num_plus : AFunc := ⟨2,34,[.cell 4 (some 3)],
 (.seq (.ops [
 ⟨some 2,.box (.t 0),none⟩,
 ⟨some 3,.box (.t 1),none⟩,
 ⟨some 4,.alloc ([.int .u64 0,.int .u64 0,.int .u64 0]),none⟩] [2,3,4])
 (.seq (.ops [
 ⟨some 5,.mv (.c (.int .u64 0)),none⟩] [2,3,4])
 (.seq (.ops [
 ⟨some 7,.iaddrA 3 1 (.t 2) (.c (.int .i64 0)),none⟩,
 ⟨some 8,.load none (.t 7),none⟩,
 ⟨some 9,.iaddrA 3 1 (.t 3) (.c (.int .i64 0)),none⟩,
 ⟨some 10,.load none (.t 9),none⟩,
 ⟨some 11,.prim .add64 [.t 8,.t 10,.c (.int .u64 0)],none⟩,
 ⟨some 6,.mv (.t 11),none⟩,
 ⟨some 12,.ext (.t 6) 0,none⟩,
 ⟨some 13,.ext (.t 6) 1,none⟩,
 ⟨some 14,.iaddrA 3 1 (.t 2) (.c (.int .i64 0)),none⟩,
 ⟨none,.store 1 (.t 14) (.t 12),none⟩,
 ⟨some 5,.mv (.t 13),none⟩] [2,3,4,5])
 (.seq (.ops [
 ⟨some 16,.iaddrA 3 1 (.t 2) (.c (.int .i64 1)),none⟩,
 ⟨some 17,.load none (.t 16),none⟩,
 ⟨some 18,.iaddrA 3 1 (.t 3) (.c (.int .i64 1)),none⟩,
 ⟨some 19,.load none (.t 18),none⟩,
 ⟨some 20,.mv (.t 5),none⟩,
 ⟨some 21,.prim .add64 [.t 17,.t 19,.t 20],none⟩,
 ⟨some 15,.mv (.t 21),none⟩,
 ⟨some 22,.ext (.t 15) 0,none⟩,
 ⟨some 23,.ext (.t 15) 1,none⟩,
 ⟨some 24,.iaddrA 3 1 (.t 2) (.c (.int .i64 1)),none⟩,
 ⟨none,.store 1 (.t 24) (.t 22),none⟩,
 ⟨some 5,.mv (.t 23),none⟩] [2,3,4,5])
 (.seq (.ops [
 ⟨some 25,.iaddrA 3 1 (.t 2) (.c (.int .i64 2)),none⟩,
 ⟨some 26,.load none (.t 25),none⟩,
 ⟨some 27,.iaddrA 3 1 (.t 3) (.c (.int .i64 2)),none⟩,
 ⟨some 28,.load none (.t 27),none⟩,
 ⟨some 29,.mv (.t 5),none⟩,
 ⟨some 30,.bin .add (.t 28) (.t 29),none⟩,
 ⟨some 31,.bin .add (.t 26) (.t 30),none⟩,
 ⟨some 32,.iaddrA 3 1 (.t 2) (.c (.int .i64 2)),none⟩,
 ⟨none,.store 1 (.t 32) (.t 31),none⟩] [2,4])
 (.seq (.ops [
 ⟨some 33,.load (some 3) (.t 2),none⟩,
 ⟨none,.store 3 (.t 4) (.t 33),none⟩] [4])
 .ret))))))⟩

def h_poly_num_times : Hint := [(0,[2,3,4],[]),(1,[4,5],[(0,0),(1,0),(2,0),(3,0),(4,0),(5,0),(6,1),(7,1),(8,1),(9,1),(10,1),(11,0),(12,2),(13,2),(14,2),(15,2),(16,0),(17,3),(18,3),(19,3),(20,3),(21,3),(22,0),(23,4),(24,4),(25,4),(26,4),(27,0),(28,5),(29,5),(30,5),(31,5),(32,5),(33,0),(34,0),(35,0),(36,0)]),(2,[4,5,6],[]),(3,[4,5,6,7],[]),(4,[4,6,7,47,48],[]),(5,[4,6,7,47,48,49],[]),(6,[4,6,7,8,9,47,48],[]),(7,[4,6,7,8,47,48],[]),(8,[4,6,7,47,48],[]),(9,[4,6,7,47,48],[]),(10,[4,6,7,47,48],[]),(11,[4,6,10],[]),(12,[4,10,11],[]),(13,[4,10,11,84],[]),(14,[4,10,11,84,85],[]),(15,[4,10,11,84],[]),(16,[4,10,11,84],[]),(17,[4],[])]
def ir_poly_num_times : AFunc := ⟨2,92,[.cell 4 (some 3)],
 (.seq (.ops [
 ⟨some 2,.box (.t 0),none⟩,
 ⟨some 3,.box (.t 1),none⟩,
 ⟨some 4,.alloc ([.int .u64 0,.int .u64 0,.int .u64 0]),none⟩] [2,3,4])
 (.seq (.dops [
 ⟨0,some 12,.build ([.int .u64 0,.int .u64 0,.int .u64 0]) [],none,0⟩,
 ⟨1,some 13,.iaddrA 3 1 (.t 2) (.c (.int .i64 0)),none,0⟩,
 ⟨2,some 14,.load none (.t 13),none,0⟩,
 ⟨3,some 15,.iaddrA 2 1 (.t 3) (.c (.int .i64 0)),none,0⟩,
 ⟨4,some 16,.load none (.t 15),none,0⟩,
 ⟨5,some 17,.call 81 [.t 12,.t 14,.t 16],none,0⟩,
 ⟨6,some 18,.build ([.int .u64 0,.int .u64 0,.int .u64 0]) [],none,1⟩,
 ⟨7,some 19,.iaddrA 3 1 (.t 2) (.c (.int .i64 0)),none,1⟩,
 ⟨8,some 20,.load none (.t 19),none,1⟩,
 ⟨9,some 21,.iaddrA 2 1 (.t 3) (.c (.int .i64 1)),none,1⟩,
 ⟨10,some 22,.load none (.t 21),none,1⟩,
 ⟨11,some 23,.call 81 [.t 18,.t 20,.t 22],none,0⟩,
 ⟨12,some 24,.iaddrA 3 1 (.t 2) (.c (.int .i64 1)),none,2⟩,
 ⟨13,some 25,.load none (.t 24),none,2⟩,
 ⟨14,some 26,.iaddrA 2 1 (.t 3) (.c (.int .i64 0)),none,2⟩,
 ⟨15,some 27,.load none (.t 26),none,2⟩,
 ⟨16,some 28,.call 81 [.t 23,.t 25,.t 27],none,0⟩,
 ⟨17,some 29,.build ([.int .u64 0,.int .u64 0,.int .u64 0]) [],none,3⟩,
 ⟨18,some 30,.iaddrA 3 1 (.t 2) (.c (.int .i64 1)),none,3⟩,
 ⟨19,some 31,.load none (.t 30),none,3⟩,
 ⟨20,some 32,.iaddrA 2 1 (.t 3) (.c (.int .i64 1)),none,3⟩,
 ⟨21,some 33,.load none (.t 32),none,3⟩,
 ⟨22,some 34,.call 81 [.t 29,.t 31,.t 33],none,0⟩,
 ⟨23,some 35,.iaddrA 3 1 (.t 2) (.c (.int .i64 2)),none,4⟩,
 ⟨24,some 36,.load none (.t 35),none,4⟩,
 ⟨25,some 37,.iaddrA 2 1 (.t 3) (.c (.int .i64 0)),none,4⟩,
 ⟨26,some 38,.load none (.t 37),none,4⟩,
 ⟨27,some 39,.call 81 [.t 34,.t 36,.t 38],none,0⟩,
 ⟨28,some 40,.build ([.int .u64 0,.int .u64 0,.int .u64 0]) [],none,5⟩,
 ⟨29,some 41,.iaddrA 3 1 (.t 2) (.c (.int .i64 2)),none,5⟩,
 ⟨30,some 42,.load none (.t 41),none,5⟩,
 ⟨31,some 43,.iaddrA 2 1 (.t 3) (.c (.int .i64 1)),none,5⟩,
 ⟨32,some 44,.load none (.t 43),none,5⟩,
 ⟨33,some 45,.call 81 [.t 40,.t 42,.t 44],none,0⟩,
 ⟨34,some 46,.build (List.replicate 12 (.int .u64 0)) [(0,3,.t 17),(3,3,.t 28),(6,3,.t 39),(9,3,.t 45)],none,0⟩,
 ⟨35,some 5,.alloc (List.replicate 12 (.int .u64 0)),none,0⟩,
 ⟨36,none,.store 12 (.t 5) (.t 46),none,0⟩] [4,5])
 (.seq (.ops [
 ⟨some 6,.alloc ([.int .u64 0,.int .u64 0,.int .u64 0,.int .u64 0]),none⟩] [4,5,6])
 (.seq (.ops [
 ⟨some 7,.alloc ([.int .u64 0,.int .u64 0,.int .u64 0]),none⟩] [4,5,6,7])
 (.seq (.seq (.ops [
 ⟨some 47,.load (some 12) (.t 5),none⟩,
 ⟨some 48,.mv (.c (.int .i64 0)),none⟩] [4,6,7,47,48])
 (.block 0
 (.loop
 (.seq (.ops [
 ⟨some 49,.bin .lss (.t 48) (.c (.int .i64 4)),none⟩] [4,6,7,47,48,49])
 (.seq (.cond (.t 49)
 .skip
 (.exit 0))
 (.seq (.block 1
 (.seq (.ops [
 ⟨some 50,.mv (.t 48),none⟩,
 ⟨some 51,.idxA 4 3 (some 3) (.t 47) (.t 48),none⟩,
 ⟨some 9,.alloc ([.int .u64 0,.int .u64 0,.int .u64 0]),none⟩,
 ⟨some 8,.mv (.t 50),none⟩,
 ⟨none,.store 3 (.t 9) (.t 51),none⟩] [4,6,7,8,9,47,48])
 (.seq (.ops [
 ⟨some 52,.load (some 3) (.t 7),none⟩,
 ⟨some 53,.load (some 3) (.t 9),none⟩,
 ⟨some 54,.call 65 [.t 52,.t 53],none⟩,
 ⟨none,.store 3 (.t 7) (.t 54),none⟩] [4,6,7,8,47,48])
 (.seq (.ops [
 ⟨some 55,.mv (.t 8),none⟩,
 ⟨some 56,.iaddrA 3 1 (.t 7) (.c (.int .i64 0)),none⟩,
 ⟨some 57,.load none (.t 56),none⟩,
 ⟨some 58,.iaddrA 4 1 (.t 6) (.t 55),none⟩,
 ⟨none,.store 1 (.t 58) (.t 57),none⟩] [4,6,7,47,48])
 (.ops [
 ⟨some 59,.iaddrA 3 1 (.t 7) (.c (.int .i64 1)),none⟩,
 ⟨some 60,.load none (.t 59),none⟩,
 ⟨some 61,.iaddrA 3 1 (.t 7) (.c (.int .i64 2)),none⟩,
 ⟨some 62,.load none (.t 61),none⟩,
 ⟨some 63,.build ([.int .u64 0,.int .u64 0,.int .u64 0]) [(0,1,.t 60),(1,1,.t 62)],none⟩,
 ⟨none,.store 3 (.t 7) (.t 63),none⟩] [4,6,7,47,48])))))
 (.ops [
 ⟨some 64,.bin .add (.t 48) (.c (.int .i64 1)),none⟩,
 ⟨some 48,.mv (.t 64),none⟩] [4,6,7,47,48])))))))
 (.seq (.ops [
 ⟨some 65,.iaddrA 4 1 (.t 6) (.c (.int .i64 0)),none⟩,
 ⟨some 66,.load none (.t 65),none⟩,
 ⟨some 67,.iaddrA 4 1 (.t 6) (.c (.int .i64 1)),none⟩,
 ⟨some 68,.load none (.t 67),none⟩,
 ⟨some 69,.iaddrA 4 1 (.t 6) (.c (.int .i64 2)),none⟩,
 ⟨some 70,.load none (.t 69),none⟩,
 ⟨some 71,.bin .and (.t 70) (.c (.int .u64 3)),none⟩,
 ⟨some 72,.build ([.int .u64 0,.int .u64 0,.int .u64 0]) [(0,1,.t 66),(1,1,.t 68),(2,1,.t 71)],none⟩,
 ⟨some 10,.alloc ([.int .u64 0,.int .u64 0,.int .u64 0]),none⟩,
 ⟨none,.store 3 (.t 10) (.t 72),none⟩] [4,6,10])
 (.seq (.ops [
 ⟨some 73,.iaddrA 4 1 (.t 6) (.c (.int .i64 2)),none⟩,
 ⟨some 74,.load none (.t 73),none⟩,
 ⟨some 75,.bin .shr (.t 74) (.c (.int .u64 2)),none⟩,
 ⟨some 76,.iaddrA 4 1 (.t 6) (.c (.int .i64 3)),none⟩,
 ⟨some 77,.load none (.t 76),none⟩,
 ⟨some 78,.bin .shl (.t 77) (.c (.int .u64 62)),none⟩,
 ⟨some 79,.bin .or (.t 75) (.t 78),none⟩,
 ⟨some 80,.iaddrA 4 1 (.t 6) (.c (.int .i64 3)),none⟩,
 ⟨some 81,.load none (.t 80),none⟩,
 ⟨some 82,.bin .shr (.t 81) (.c (.int .u64 2)),none⟩,
 ⟨some 83,.build ([.int .u64 0,.int .u64 0,.int .u64 0]) [(0,1,.t 79),(1,1,.t 82)],none⟩,
 ⟨some 11,.alloc ([.int .u64 0,.int .u64 0,.int .u64 0]),none⟩,
 ⟨none,.store 3 (.t 11) (.t 83),none⟩] [4,10,11])
 (.seq (.seq (.ops [
 ⟨some 84,.mv (.c (.int .i64 0)),none⟩] [4,10,11,84])
 (.block 2
 (.loop
 (.seq (.ops [
 ⟨some 85,.bin .lss (.t 84) (.c (.int .i64 5)),none⟩] [4,10,11,84,85])
 (.seq (.cond (.t 85)
 .skip
 (.exit 2))
 (.seq (.block 3
 (.ops [
 ⟨some 86,.load (some 3) (.t 10),none⟩,
 ⟨some 87,.load (some 3) (.t 11),none⟩,
 ⟨some 88,.call 65 [.t 86,.t 87],none⟩,
 ⟨none,.store 3 (.t 10) (.t 88),none⟩] [4,10,11,84]))
 (.ops [
 ⟨some 89,.bin .add (.t 84) (.c (.int .i64 1)),none⟩,
 ⟨some 84,.mv (.t 89),none⟩] [4,10,11,84])))))))
 (.seq (.ops [
 ⟨some 90,.load (some 3) (.t 10),none⟩,
 ⟨some 91,.call 82 [.t 90],none⟩,
 ⟨none,.store 3 (.t 4) (.t 91),none⟩] [4])
 .ret)))))))))⟩

def h_poly_num_last : Hint := [(0,[1,2],[]),(1,[1,2],[]),(2,[1,2,3],[]),(3,[1,2,3,12],[]),(4,[2,3],[]),(5,[2],[]),(6,[2],[])]
def ir_poly_num_last : AFunc := ⟨1,19,[.cell 2 (some 3)],
 (.seq (.ops [
 ⟨some 1,.box (.t 0),none⟩,
 ⟨some 2,.alloc ([.int .u64 0,.int .u64 0,.int .u64 0]),none⟩] [1,2])
 (.seq (.ops [
 ⟨some 4,.load (some 3) (.t 1),none⟩,
 ⟨some 5,.call 82 [.t 4],none⟩,
 ⟨some 6,.call 82 [.t 5],none⟩,
 ⟨none,.store 3 (.t 1) (.t 6),none⟩] [1,2])
 (.seq (.ops [
 ⟨some 7,.load (some 3) (.t 1),none⟩,
 ⟨some 8,.build ([.int .u64 0,.int .u64 0,.int .u64 0]) [(0,1,.c (.int .u64 5))],none⟩,
 ⟨some 9,.call 65 [.t 7,.t 8],none⟩,
 ⟨some 3,.alloc ([.int .u64 0,.int .u64 0,.int .u64 0]),none⟩,
 ⟨none,.store 3 (.t 3) (.t 9),none⟩] [1,2,3])
 (.seq (.seq (.ops [
 ⟨some 10,.iaddrA 3 1 (.t 3) (.c (.int .i64 2)),none⟩,
 ⟨some 11,.load none (.t 10),none⟩,
 ⟨some 12,.bin .gtr (.t 11) (.c (.int .u64 3)),none⟩] [1,2,3,12])
 (.cond (.t 12)
 (.seq (.ops [
 ⟨some 13,.iaddrA 3 1 (.t 3) (.c (.int .i64 2)),none⟩,
 ⟨some 14,.load none (.t 13),none⟩,
 ⟨some 15,.bin .and (.t 14) (.c (.int .u64 3)),none⟩,
 ⟨some 16,.iaddrA 3 1 (.t 3) (.c (.int .i64 2)),none⟩,
 ⟨none,.store 1 (.t 16) (.t 15),none⟩] [2,3])
 (.seq (.ops [
 ⟨some 17,.load (some 3) (.t 3),none⟩,
 ⟨none,.store 3 (.t 2) (.t 17),none⟩] [2])
 .ret))
 .skip))
 (.seq (.ops [
 ⟨some 18,.load (some 3) (.t 1),none⟩,
 ⟨none,.store 3 (.t 2) (.t 18),none⟩] [2])
 .ret)))))⟩

def h_octet_Little : Hint := [(0,[0,1,2],[]),(1,[1,2,7],[]),(2,[1,7,13,14],[]),(3,[1,7,13,14,15],[]),(4,[1,7,8,13,14],[]),(5,[1,7,13,14],[]),(6,[1,7,13,14],[]),(7,[6],[])]
def ir_octet_Little : AFunc := ⟨3,27,[.tmp 6],
 (.seq (.ops [
 ⟨some 6,.mv (.c (.slice none 0 0)),none⟩] [0,1,2])
 (.seq (.ops [
 ⟨some 9,.mv (.t 0),none⟩,
 ⟨some 10,.call 55 [.t 9],none⟩,
 ⟨some 7,.mv (.t 10),none⟩] [1,2,7])
 (.seq (.seq (.ops [
 ⟨some 11,.mv (.t 2),none⟩,
 ⟨some 12,.mn (.t 11) (.c (.int .i64 8)),none⟩,
 ⟨some 13,.mx (.t 12) (.c (.int .i64 0)),none⟩,
 ⟨some 14,.mv (.c (.int .i64 0)),none⟩] [1,7,13,14])
 (.block 0
 (.loop
 (.seq (.ops [
 ⟨some 15,.bin .lss (.t 14) (.t 13),none⟩] [1,7,13,14,15])
 (.seq (.cond (.t 15)
 .skip
 (.exit 0))
 (.seq (.block 1
 (.seq (.ops [
 ⟨some 16,.mv (.t 14),none⟩,
 ⟨some 8,.mv (.t 16),none⟩] [1,7,8,13,14])
 (.ops [
 ⟨some 17,.mv (.t 7),none⟩,
 ⟨some 18,.mv (.t 1),none⟩,
 ⟨some 19,.mv (.t 8),none⟩,
 ⟨some 20,.bin .mul (.c (.int .i64 8)) (.t 19),none⟩,
 ⟨some 21,.bin .shr (.t 18) (.t 20),none⟩,
 ⟨some 22,.conv .u8 (.t 21),none⟩,
 ⟨some 23,.bslice 1 1 ([.int .u8 0]) [(0,1,.t 22)],none⟩,
 ⟨some 24,.append 1 1 (.t 17) (.t 23),none⟩,
 ⟨some 7,.mv (.t 24),none⟩] [1,7,13,14])))
 (.ops [
 ⟨some 25,.bin .add (.t 14) (.c (.int .i64 1)),none⟩,
 ⟨some 14,.mv (.t 25),none⟩] [1,7,13,14])))))))
 (.seq (.ops [
 ⟨some 26,.mv (.t 7),none⟩,
 ⟨some 6,.mv (.t 26),none⟩] [6])
 .ret))))⟩

def h_octet_FromLittle : Hint := [(0,[0],[]),(1,[2,3],[])]
def ir_octet_FromLittle : AFunc := ⟨1,9,[.tmp 2,.tmp 3],
 (.seq (.ops [
 ⟨some 2,.mv (.c (.int .u64 0)),none⟩,
 ⟨some 3,.mv (.c (.int .i64 0)),none⟩] [0])
 (.seq (.ops [
 ⟨some 4,.mv (.t 0),none⟩,
 ⟨some 5,.call 89 [.t 4],none⟩,
 ⟨some 6,.call 88 [.t 5],none⟩,
 ⟨some 7,.ext (.t 6) 0,none⟩,
 ⟨some 8,.ext (.t 6) 1,none⟩,
 ⟨some 2,.mv (.t 7),none⟩,
 ⟨some 3,.mv (.t 8),none⟩] [2,3])
 .ret))⟩

def h_slices_Grow_byte_byte : Hint := [(0,[0,1],[]),(1,[0,1,6],[]),(2,[0,1],[]),(3,[0,1],[]),(4,[0,1,16],[]),(5,[0],[]),(6,[4],[])]
def ir_slices_Grow_byte_byte : AFunc := ⟨2,27,[.tmp 4],
 (.seq (.ops [
 ⟨some 4,.mv (.c (.slice none 0 0)),none⟩] [0,1])
 (.seq (.seq (.ops [
 ⟨some 5,.mv (.t 1),none⟩,
 ⟨some 6,.bin .lss (.t 5) (.c (.int .i64 0)),none⟩] [0,1,6])
 (.cond (.t 6)
 (.ops [
 ⟨some 7,.bad,none⟩,
 ⟨none,.bad,none⟩] [0,1])
 .skip))
 (.seq (.seq (.ops [
 ⟨some 8,.mv (.t 1),none⟩,
 ⟨some 9,.mv (.t 0),none⟩,
 ⟨some 10,.capS (.t 9),none⟩,
 ⟨some 11,.mv (.t 0),none⟩,
 ⟨some 12,.lenS (.t 11),none⟩,
 ⟨some 13,.bin .sub (.t 10) (.t 12),none⟩,
 ⟨some 14,.bin .sub (.t 8) (.t 13),none⟩,
 ⟨some 1,.mv (.t 14),none⟩] [0,1])
 (.seq (.ops [
 ⟨some 15,.mv (.t 1),none⟩,
 ⟨some 16,.bin .gtr (.t 15) (.c (.int .i64 0)),none⟩] [0,1,16])
 (.cond (.t 16)
 (.ops [
 ⟨some 17,.mv (.t 0),none⟩,
 ⟨some 18,.mv (.t 0),none⟩,
 ⟨some 19,.capS (.t 18),none⟩,
 ⟨some 20,.slSl 1 (.t 17) none (some (.t 19)) none,none⟩,
 ⟨some 21,.mv (.t 1),none⟩,
 ⟨some 22,.appendZ 1 1 ([.int .u8 0]) (.t 20) (.t 21),none⟩,
 ⟨some 23,.mv (.t 0),none⟩,
 ⟨some 24,.lenS (.t 23),none⟩,
 ⟨some 25,.slSl 1 (.t 22) none (some (.t 24)) none,none⟩,
 ⟨some 0,.mv (.t 25),none⟩] [0])
 .skip)))
 (.seq (.ops [
 ⟨some 26,.mv (.t 0),none⟩,
 ⟨some 4,.mv (.t 26),none⟩] [4])
 .ret))))⟩

def h_poly_column : Hint := [(0,[1,2,3,6],[]),(1,[3,6,7,8],[]),(2,[6],[])]
def ir_poly_column : AFunc := ⟨3,20,[.cell 6 (some 3)],
 (.seq (.ops [
 ⟨some 3,.box (.t 0),none⟩,
 ⟨some 6,.alloc ([.int .u64 0,.int .u64 0,.int .u64 0]),none⟩] [1,2,3,6])
 (.seq (.ops [
 ⟨some 10,.mv (.t 1),none⟩,
 ⟨some 11,.mv (.t 2),none⟩,
 ⟨some 12,.call 90 [.t 10,.t 11],none⟩,
 ⟨some 9,.mv (.t 12),none⟩,
 ⟨some 13,.ext (.t 9) 0,none⟩,
 ⟨some 14,.ext (.t 9) 1,none⟩,
 ⟨some 7,.mv (.t 13),none⟩,
 ⟨some 8,.mv (.t 14),none⟩] [3,6,7,8])
 (.seq (.ops [
 ⟨some 15,.load (some 3) (.t 3),none⟩,
 ⟨some 16,.mv (.t 8),none⟩,
 ⟨some 17,.mv (.t 7),none⟩,
 ⟨some 18,.build ([.int .u64 0,.int .u64 0,.int .u64 0]) [(0,1,.t 16),(1,1,.t 17)],none⟩,
 ⟨some 19,.call 65 [.t 15,.t 18],none⟩,
 ⟨none,.store 3 (.t 6) (.t 19),none⟩] [6])
 .ret)))⟩

def h_poly_num_cut : Hint := [(0,[1,2],[]),(1,[1,2,3],[]),(2,[1,2,3],[]),(3,[1,2,4,5],[]),(4,[2],[])]
def ir_poly_num_cut : AFunc := ⟨1,23,[.cell 2 (some 3)],
 (.seq (.ops [
 ⟨some 1,.box (.t 0),none⟩,
 ⟨some 2,.alloc ([.int .u64 0,.int .u64 0,.int .u64 0]),none⟩] [1,2])
 (.seq (.ops [
 ⟨some 6,.iaddrA 3 1 (.t 1) (.c (.int .i64 2)),none⟩,
 ⟨some 7,.load none (.t 6),none⟩,
 ⟨some 8,.bin .shr (.t 7) (.c (.int .u64 2)),none⟩,
 ⟨some 3,.mv (.t 8),none⟩] [1,2,3])
 (.seq (.ops [
 ⟨some 9,.iaddrA 3 1 (.t 1) (.c (.int .i64 2)),none⟩,
 ⟨some 10,.load none (.t 9),none⟩,
 ⟨some 11,.bin .and (.t 10) (.c (.int .u64 3)),none⟩,
 ⟨some 12,.iaddrA 3 1 (.t 1) (.c (.int .i64 2)),none⟩,
 ⟨none,.store 1 (.t 12) (.t 11),none⟩] [1,2,3])
 (.seq (.ops [
 ⟨some 14,.mv (.t 3),none⟩,
 ⟨some 15,.call 90 [.t 14,.c (.int .u64 5)],none⟩,
 ⟨some 13,.mv (.t 15),none⟩,
 ⟨some 16,.ext (.t 13) 0,none⟩,
 ⟨some 17,.ext (.t 13) 1,none⟩,
 ⟨some 4,.mv (.t 16),none⟩,
 ⟨some 5,.mv (.t 17),none⟩] [1,2,4,5])
 (.seq (.ops [
 ⟨some 18,.load (some 3) (.t 1),none⟩,
 ⟨some 19,.mv (.t 5),none⟩,
 ⟨some 20,.mv (.t 4),none⟩,
 ⟨some 21,.build ([.int .u64 0,.int .u64 0,.int .u64 0]) [(0,1,.t 19),(1,1,.t 20)],none⟩,
 ⟨some 22,.call 65 [.t 18,.t 21],none⟩,
 ⟨none,.store 3 (.t 2) (.t 22),none⟩] [2])
 .ret)))))⟩

def h_octet_FromBig : Hint := [(0,[0],[]),(1,[0,9],[]),(2,[2,3],[]),(3,[0,4],[]),(4,[4,10,11,12],[]),(5,[4,10,11,12,13],[]),(6,[4,6,10,11,12],[]),(7,[4,10,11,12],[]),(8,[4,10,11,12],[]),(9,[2,3],[])]
def ir_octet_FromBig : AFunc := ⟨1,23,[.tmp 2,.tmp 3],
 (.seq (.ops [
 ⟨some 2,.mv (.c (.int .u64 0)),none⟩,
 ⟨some 3,.mv (.c (.int .i64 0)),none⟩] [0])
 (.seq (.seq (.ops [
 ⟨some 7,.mv (.t 0),none⟩,
 ⟨some 8,.lenS (.t 7),none⟩,
 ⟨some 9,.bin .gtr (.t 8) (.c (.int .i64 8)),none⟩] [0,9])
 (.cond (.t 9)
 (.seq (.ops [
 ⟨some 2,.mv (.c (.int .u64 0)),none⟩,
 ⟨some 3,.mv (.c (.int .i64 1)),none⟩] [2,3])
 .ret)
 .skip))
 (.seq (.ops [
 ⟨some 4,.mv (.c (.int .u64 0)),none⟩] [0,4])
 (.seq (.seq (.ops [
 ⟨some 10,.mv (.t 0),none⟩,
 ⟨some 11,.lenS (.t 10),none⟩,
 ⟨some 12,.mv (.c (.int .i64 0)),none⟩] [4,10,11,12])
 (.block 0
 (.loop
 (.seq (.ops [
 ⟨some 13,.bin .lss (.t 12) (.t 11),none⟩] [4,10,11,12,13])
 (.seq (.cond (.t 13)
 .skip
 (.exit 0))
 (.seq (.block 1
 (.seq (.ops [
 ⟨some 14,.iaddrS 1 (.t 10) (.t 12),none⟩,
 ⟨some 15,.load none (.t 14),none⟩,
 ⟨some 6,.mv (.t 15),none⟩] [4,6,10,11,12])
 (.ops [
 ⟨some 16,.mv (.t 4),none⟩,
 ⟨some 17,.bin .shl (.t 16) (.c (.int .u64 8)),none⟩,
 ⟨some 18,.mv (.t 6),none⟩,
 ⟨some 19,.conv .u64 (.t 18),none⟩,
 ⟨some 20,.bin .or (.t 17) (.t 19),none⟩,
 ⟨some 4,.mv (.t 20),none⟩] [4,10,11,12])))
 (.ops [
 ⟨some 21,.bin .add (.t 12) (.c (.int .i64 1)),none⟩,
 ⟨some 12,.mv (.t 21),none⟩] [4,10,11,12])))))))
 (.seq (.ops [
 ⟨some 22,.mv (.t 4),none⟩,
 ⟨some 2,.mv (.t 22),none⟩,
 ⟨some 3,.mv (.c (.int .i64 0)),none⟩] [2,3])
 .ret)))))⟩

def h_octet_Turn : Hint := [(0,[0],[]),(1,[3],[]),(2,[3],[]),(3,[2],[])]
def ir_octet_Turn : AFunc := ⟨1,9,[.tmp 2],
 (.seq (.ops [
 ⟨some 2,.mv (.c (.slice none 0 0)),none⟩] [0])
 (.seq (.ops [
 ⟨some 4,.mv (.t 0),none⟩,
 ⟨some 5,.call 55 [.t 4],none⟩,
 ⟨some 3,.mv (.t 5),none⟩] [3])
 (.seq (.ops [
 ⟨some 6,.mv (.t 3),none⟩,
 ⟨some 7,.call 93 [.t 6],none⟩] [3])
 (.seq (.ops [
 ⟨some 8,.mv (.t 3),none⟩,
 ⟨some 2,.mv (.t 8),none⟩] [2])
 .ret))))⟩

def h_math_bits_Mul64 : Hint := [(0,[0,1],[]),(1,[0,1,6],[]),(2,[0,1,6,7],[]),(3,[0,1,6,7,8],[]),(4,[0,1,6,7,8,9],[]),(5,[0,1,6,7,8,9,10],[]),(6,[0,1,6,7,9,11],[]),(7,[0,1,6,7,9,11,12],[]),(8,[0,1,6,7,9,12,13],[]),(9,[0,1,7,9,12,13],[]),(10,[0,1,4],[]),(11,[4,5],[])]
def ir_math_bits_Mul64 : AFunc := ⟨2,51,[.tmp 4,.tmp 5],
 (.seq (.ops [
 ⟨some 4,.mv (.c (.int .u64 0)),none⟩,
 ⟨some 5,.mv (.c (.int .u64 0)),none⟩] [0,1])
 (.seq (.ops [
 ⟨some 14,.mv (.t 0),none⟩,
 ⟨some 15,.bin .and (.t 14) (.c (.int .u64 4294967295)),none⟩,
 ⟨some 6,.mv (.t 15),none⟩] [0,1,6])
 (.seq (.ops [
 ⟨some 16,.mv (.t 0),none⟩,
 ⟨some 17,.bin .shr (.t 16) (.c (.int .u64 32)),none⟩,
 ⟨some 7,.mv (.t 17),none⟩] [0,1,6,7])
 (.seq (.ops [
 ⟨some 18,.mv (.t 1),none⟩,
 ⟨some 19,.bin .and (.t 18) (.c (.int .u64 4294967295)),none⟩,
 ⟨some 8,.mv (.t 19),none⟩] [0,1,6,7,8])
 (.seq (.ops [
 ⟨some 20,.mv (.t 1),none⟩,
 ⟨some 21,.bin .shr (.t 20) (.c (.int .u64 32)),none⟩,
 ⟨some 9,.mv (.t 21),none⟩] [0,1,6,7,8,9])
 (.seq (.ops [
 ⟨some 22,.mv (.t 6),none⟩,
 ⟨some 23,.mv (.t 8),none⟩,
 ⟨some 24,.bin .mul (.t 22) (.t 23),none⟩,
 ⟨some 10,.mv (.t 24),none⟩] [0,1,6,7,8,9,10])
 (.seq (.ops [
 ⟨some 25,.mv (.t 7),none⟩,
 ⟨some 26,.mv (.t 8),none⟩,
 ⟨some 27,.bin .mul (.t 25) (.t 26),none⟩,
 ⟨some 28,.mv (.t 10),none⟩,
 ⟨some 29,.bin .shr (.t 28) (.c (.int .u64 32)),none⟩,
 ⟨some 30,.bin .add (.t 27) (.t 29),none⟩,
 ⟨some 11,.mv (.t 30),none⟩] [0,1,6,7,9,11])
 (.seq (.ops [
 ⟨some 31,.mv (.t 11),none⟩,
 ⟨some 32,.bin .and (.t 31) (.c (.int .u64 4294967295)),none⟩,
 ⟨some 12,.mv (.t 32),none⟩] [0,1,6,7,9,11,12])
 (.seq (.ops [
 ⟨some 33,.mv (.t 11),none⟩,
 ⟨some 34,.bin .shr (.t 33) (.c (.int .u64 32)),none⟩,
 ⟨some 13,.mv (.t 34),none⟩] [0,1,6,7,9,12,13])
 (.seq (.ops [
 ⟨some 35,.mv (.t 12),none⟩,
 ⟨some 36,.mv (.t 6),none⟩,
 ⟨some 37,.mv (.t 9),none⟩,
 ⟨some 38,.bin .mul (.t 36) (.t 37),none⟩,
 ⟨some 39,.bin .add (.t 35) (.t 38),none⟩,
 ⟨some 12,.mv (.t 39),none⟩] [0,1,7,9,12,13])
 (.seq (.ops [
 ⟨some 40,.mv (.t 7),none⟩,
 ⟨some 41,.mv (.t 9),none⟩,
 ⟨some 42,.bin .mul (.t 40) (.t 41),none⟩,
 ⟨some 43,.mv (.t 13),none⟩,
 ⟨some 44,.bin .add (.t 42) (.t 43),none⟩,
 ⟨some 45,.mv (.t 12),none⟩,
 ⟨some 46,.bin .shr (.t 45) (.c (.int .u64 32)),none⟩,
 ⟨some 47,.bin .add (.t 44) (.t 46),none⟩,
 ⟨some 4,.mv (.t 47),none⟩] [0,1,4])
 (.seq (.ops [
 ⟨some 48,.mv (.t 0),none⟩,
 ⟨some 49,.mv (.t 1),none⟩,
 ⟨some 50,.bin .mul (.t 48) (.t 49),none⟩,
 ⟨some 5,.mv (.t 50),none⟩] [4,5])
 .ret))))))))))))⟩

def h_slices_Reverse_byte_byte : Hint := [(0,[0,2,3],[]),(1,[0,2,3,9],[]),(2,[0,2,3],[]),(3,[0,2,3],[(0,0),(1,0),(4,0),(5,0),(6,0),(7,0),(8,0),(9,0),(10,0),(11,0),(12,0),(13,0),(2,1),(3,1),(14,0),(15,0)])]
def ir_slices_Reverse_byte_byte : AFunc := ⟨1,28,[],
 (.seq (.ops [
 ⟨some 4,.mv (.t 0),none⟩,
 ⟨some 5,.lenS (.t 4),none⟩,
 ⟨some 6,.bin .sub (.t 5) (.c (.int .i64 1)),none⟩,
 ⟨some 2,.mv (.c (.int .i64 0)),none⟩,
 ⟨some 3,.mv (.t 6),none⟩] [0,2,3])
 (.block 0
 (.loop
 (.seq (.seq (.ops [
 ⟨some 7,.mv (.t 2),none⟩,
 ⟨some 8,.mv (.t 3),none⟩,
 ⟨some 9,.bin .lss (.t 7) (.t 8),none⟩] [0,2,3,9])
 (.cond (.t 9)
 .skip
 (.exit 0)))
 (.seq (.block 1
 (.dops [
 ⟨0,some 14,.mv (.t 0),none,0⟩,
 ⟨1,some 15,.mv (.t 2),none,0⟩,
 ⟨4,some 18,.mv (.t 0),none,0⟩,
 ⟨5,some 19,.mv (.t 3),none,0⟩,
 ⟨6,some 20,.iaddrS 1 (.t 18) (.t 19),none,0⟩,
 ⟨7,some 21,.load none (.t 20),none,0⟩,
 ⟨8,some 22,.mv (.t 0),none,0⟩,
 ⟨9,some 23,.mv (.t 2),none,0⟩,
 ⟨10,some 24,.iaddrS 1 (.t 22) (.t 23),none,0⟩,
 ⟨11,some 25,.load none (.t 24),none,0⟩,
 ⟨12,some 26,.iaddrS 1 (.t 14) (.t 15),none,0⟩,
 ⟨13,none,.store 1 (.t 26) (.t 21),none,0⟩,
 ⟨2,some 16,.mv (.t 0),none,1⟩,
 ⟨3,some 17,.mv (.t 3),none,1⟩,
 ⟨14,some 27,.iaddrS 1 (.t 16) (.t 17),none,0⟩,
 ⟨15,none,.store 1 (.t 27) (.t 25),none,0⟩] [0,2,3]))
 (.ops [
 ⟨some 10,.mv (.t 2),none⟩,
 ⟨some 11,.bin .add (.t 10) (.c (.int .i64 1)),none⟩,
 ⟨some 12,.mv (.t 3),none⟩,
 ⟨some 13,.bin .sub (.t 12) (.c (.int .i64 1)),none⟩,
 ⟨some 2,.mv (.t 11),none⟩,
 ⟨some 3,.mv (.t 13),none⟩] [0,2,3]))))))⟩

def h_math_bits_RotateLeft32 : Hint := [(0,[0,1],[]),(1,[0,5],[]),(2,[4],[])]
def ir_math_bits_RotateLeft32 : AFunc := ⟨2,17,[.tmp 4],
 (.seq (.ops [
 ⟨some 4,.mv (.c (.int .u32 0)),none⟩] [0,1])
 (.seq (.ops [
 ⟨some 6,.mv (.t 1),none⟩,
 ⟨some 7,.conv .u64 (.t 6),none⟩,
 ⟨some 8,.bin .and (.t 7) (.c (.int .u64 31)),none⟩,
 ⟨some 5,.mv (.t 8),none⟩] [0,5])
 (.seq (.ops [
 ⟨some 9,.mv (.t 0),none⟩,
 ⟨some 10,.mv (.t 5),none⟩,
 ⟨some 11,.bin .shl (.t 9) (.t 10),none⟩,
 ⟨some 12,.mv (.t 0),none⟩,
 ⟨some 13,.mv (.t 5),none⟩,
 ⟨some 14,.bin .sub (.c (.int .u64 32)) (.t 13),none⟩,
 ⟨some 15,.bin .shr (.t 12) (.t 14),none⟩,
 ⟨some 16,.bin .or (.t 11) (.t 15),none⟩,
 ⟨some 4,.mv (.t 16),none⟩] [4])
 .ret)))⟩

def h_aead_Seal : Hint := [(0,[2,3,4,5],[]),(1,[2,3,4,5,15],[]),(2,[8,9],[]),(3,[3,4,5,10,11],[]),(4,[3,4,5,10,11,24],[]),(5,[8,9],[]),(6,[10,12],[]),(7,[8,9],[])]
def ir_aead_Seal_23 : ACode := (.seq (.seq (.ops [
 ⟨some 23,.mv (.t 11),none⟩,
 ⟨some 24,.bin .neq (.t 23) (.c (.int .i64 0)),none⟩] [3,4,5,10,11,24])
 (.cond (.t 24)
 (.seq (.ops [
 ⟨some 25,.mv (.t 11),none⟩,
 ⟨some 8,.mv (.c (.slice none 0 0)),none⟩,
 ⟨some 9,.mv (.t 25),none⟩] [8,9])
 .ret)
 .skip))
 (.seq (.ops [
 ⟨some 26,.load (some 32) (.t 4),none⟩,
 ⟨some 27,.load (some 12) (.t 5),none⟩,
 ⟨some 28,.mv (.t 10),none⟩,
 ⟨some 29,.mv (.t 3),none⟩,
 ⟨some 30,.call 128 [.t 26,.t 27,.t 28,.t 29],none⟩,
 ⟨some 12,.alloc (List.replicate 16 (.int .u8 0)),none⟩,
 ⟨none,.store 16 (.t 12) (.t 30),none⟩] [10,12])
 (.seq (.ops [
 ⟨some 31,.mv (.t 10),none⟩,
 ⟨some 32,.slArr 16 1 (.t 12) none none none,none⟩,
 ⟨some 33,.append 1 1 (.t 31) (.t 32),none⟩,
 ⟨some 8,.mv (.t 33),none⟩,
 ⟨some 9,.mv (.c (.int .i64 0)),none⟩] [8,9])
 .ret)))
def ir_aead_Seal : AFunc := ⟨4,34,[.tmp 8,.tmp 9],
 (.seq (.ops [
 ⟨some 4,.box (.t 0),none⟩,
 ⟨some 5,.box (.t 1),none⟩,
 ⟨some 8,.mv (.c (.slice none 0 0)),none⟩,
 ⟨some 9,.mv (.c (.int .i64 0)),none⟩] [2,3,4,5])
 (.seq (.seq (.ops [
 ⟨some 13,.mv (.t 2),none⟩,
 ⟨some 14,.lenS (.t 13),none⟩,
 ⟨some 15,.bin .gtr (.t 14) (.c (.int .i64 65536)),none⟩] [2,3,4,5,15])
 (.cond (.t 15)
 (.seq (.ops [
 ⟨some 8,.mv (.c (.slice none 0 0)),none⟩,
 ⟨some 9,.mv (.c (.int .i64 2)),none⟩] [8,9])
 .ret)
 .skip))
 (.seq (.ops [
 ⟨some 17,.load (some 32) (.t 4),none⟩,
 ⟨some 18,.load (some 12) (.t 5),none⟩,
 ⟨some 19,.mv (.t 2),none⟩,
 ⟨some 20,.call 127 [.t 17,.c (.int .u32 1),.t 18,.t 19],none⟩,
 ⟨some 16,.mv (.t 20),none⟩,
 ⟨some 21,.ext (.t 16) 0,none⟩,
 ⟨some 22,.ext (.t 16) 1,none⟩,
 ⟨some 10,.mv (.t 21),none⟩,
 ⟨some 11,.mv (.t 22),none⟩] [3,4,5,10,11])
 ir_aead_Seal_23)))⟩

def h_aead_Open : Hint := [(0,[2,3,4,5],[]),(1,[2,3,4,5,15],[]),(2,[8,9],[]),(3,[2,3,4,5,10],[]),(4,[2,3,4,5,10,20],[]),(5,[8,9],[]),(6,[2,3,4,5,10,11],[]),(7,[2,4,5,10,11,12],[]),(8,[4,5,11,35],[(0,0),(1,0),(2,0),(3,0),(4,0),(5,0)]),(9,[8,9],[]),(10,[8,9],[])]
def ir_aead_Open_25 : ACode := (.seq (.seq (.ops [
 ⟨some 25,.load (some 32) (.t 4),none⟩,
 ⟨some 26,.load (some 12) (.t 5),none⟩,
 ⟨some 27,.mv (.t 11),none⟩,
 ⟨some 28,.mv (.t 3),none⟩,
 ⟨some 29,.call 128 [.t 25,.t 26,.t 27,.t 28],none⟩,
 ⟨some 12,.alloc (List.replicate 16 (.int .u8 0)),none⟩,
 ⟨none,.store 16 (.t 12) (.t 29),none⟩] [2,4,5,10,11,12])
 (.seq (.dops [
 ⟨0,some 30,.slArr 16 1 (.t 12) none none none,none,0⟩,
 ⟨1,some 31,.mv (.t 2),none,0⟩,
 ⟨2,some 32,.mv (.t 10),none,0⟩,
 ⟨3,some 33,.slSl 1 (.t 31) (some (.t 32)) none none,none,0⟩,
 ⟨4,some 34,.call 129 [.t 30,.t 33],none,0⟩,
 ⟨5,some 35,.un .not (.t 34),none,0⟩] [4,5,11,35])
 (.cond (.t 35)
 (.seq (.ops [
 ⟨some 8,.mv (.c (.slice none 0 0)),none⟩,
 ⟨some 9,.mv (.c (.int .i64 8)),none⟩] [8,9])
 .ret)
 .skip)))
 (.seq (.ops [
 ⟨some 36,.load (some 32) (.t 4),none⟩,
 ⟨some 37,.load (some 12) (.t 5),none⟩,
 ⟨some 38,.mv (.t 11),none⟩,
 ⟨some 39,.call 127 [.t 36,.c (.int .u32 1),.t 37,.t 38],none⟩,
 ⟨some 40,.ext (.t 39) 0,none⟩,
 ⟨some 41,.ext (.t 39) 1,none⟩,
 ⟨some 8,.mv (.t 40),none⟩,
 ⟨some 9,.mv (.t 41),none⟩] [8,9])
 .ret))
def ir_aead_Open : AFunc := ⟨4,42,[.tmp 8,.tmp 9],
 (.seq (.ops [
 ⟨some 4,.box (.t 0),none⟩,
 ⟨some 5,.box (.t 1),none⟩,
 ⟨some 8,.mv (.c (.slice none 0 0)),none⟩,
 ⟨some 9,.mv (.c (.int .i64 0)),none⟩] [2,3,4,5])
 (.seq (.seq (.ops [
 ⟨some 13,.mv (.t 2),none⟩,
 ⟨some 14,.lenS (.t 13),none⟩,
 ⟨some 15,.bin .gtr (.t 14) (.c (.int .i64 65552)),none⟩] [2,3,4,5,15])
 (.cond (.t 15)
 (.seq (.ops [
 ⟨some 8,.mv (.c (.slice none 0 0)),none⟩,
 ⟨some 9,.mv (.c (.int .i64 2)),none⟩] [8,9])
 .ret)
 .skip))
 (.seq (.ops [
 ⟨some 16,.mv (.t 2),none⟩,
 ⟨some 17,.lenS (.t 16),none⟩,
 ⟨some 18,.bin .sub (.t 17) (.c (.int .i64 16)),none⟩,
 ⟨some 10,.mv (.t 18),none⟩] [2,3,4,5,10])
 (.seq (.seq (.ops [
 ⟨some 19,.mv (.t 10),none⟩,
 ⟨some 20,.bin .lss (.t 19) (.c (.int .i64 0)),none⟩] [2,3,4,5,10,20])
 (.cond (.t 20)
 (.seq (.ops [
 ⟨some 8,.mv (.c (.slice none 0 0)),none⟩,
 ⟨some 9,.mv (.c (.int .i64 8)),none⟩] [8,9])
 .ret)
 .skip))
 (.seq (.ops [
 ⟨some 21,.mv (.t 2),none⟩,
 ⟨some 22,.mv (.t 10),none⟩,
 ⟨some 23,.slSl 1 (.t 21) none (some (.t 22)) none,none⟩,
 ⟨some 24,.call 55 [.t 23],none⟩,
 ⟨some 11,.mv (.t 24),none⟩] [2,3,4,5,10,11])
 ir_aead_Open_25)))))⟩

def h_aead_Key : Hint := [(0,[2,3,4],[]),(1,[4,5],[]),(2,[4],[])]
def ir_aead_Key : AFunc := ⟨2,12,[.cell 4 (some 32)],
 (.seq (.ops [
 ⟨some 2,.box (.t 0),none⟩,
 ⟨some 3,.box (.t 1),none⟩,
 ⟨some 4,.alloc (List.replicate 32 (.int .u8 0)),none⟩] [2,3,4])
 (.seq (.ops [
 ⟨some 6,.load (some 32) (.t 2),none⟩,
 ⟨some 7,.load (some 12) (.t 3),none⟩,
 ⟨some 8,.call 130 [.t 6,.c (.int .u32 0),.t 7],none⟩,
 ⟨some 5,.alloc (List.replicate 64 (.int .u8 0)),none⟩,
 ⟨none,.store 64 (.t 5) (.t 8),none⟩] [4,5])
 (.seq (.ops [
 ⟨some 9,.slArr 64 1 (.t 5) none (some (.c (.int .i64 32))) none,none⟩,
 ⟨some 10,.arrOf 32 (.t 9),none⟩,
 ⟨some 11,.load (some 32) (.t 10),none⟩,
 ⟨none,.store 32 (.t 4) (.t 11),none⟩] [4])
 .ret)))⟩

def h_chacha_Xor : Hint := [(0,[1,3,4,6],[]),(1,[1,3,4,6,10],[]),(2,[1,3,4,6,10,20],[]),(3,[1,3,4,6,10],[]),(4,[1,3,4,6,27],[]),(5,[8,9],[]),(6,[1,3,4,6,11],[]),(7,[1,3,4,6,11,12],[]),(8,[1,3,4,6,11,12,34],[]),(9,[1,3,4,6,11,12],[]),(10,[1,3,4,6,11,12,13],[]),(11,[1,3,4,6,11,12],[(1,0),(2,0),(3,0),(4,0),(5,0),(6,0),(7,0),(8,0),(9,0),(10,0),(0,1),(11,0),(12,0)]),(12,[8,9],[])]
def ir_chacha_Xor_37 : ACode := (.seq (.block 1 (.seq (.ops [
 ⟨some 37,.load (some 32) (.t 4),none⟩,
 ⟨some 38,.mv (.t 1),none⟩,
 ⟨some 39,.mv (.t 12),none⟩,
 ⟨some 40,.bin .quo (.t 39) (.c (.int .i64 64)),none⟩,
 ⟨some 41,.conv .u32 (.t 40),none⟩,
 ⟨some 42,.bin .add (.t 38) (.t 41),none⟩,
 ⟨some 43,.load (some 12) (.t 6),none⟩,
 ⟨some 44,.call 130 [.t 37,.t 42,.t 43],none⟩,
 ⟨some 13,.alloc (List.replicate 64 (.int .u8 0)),none⟩,
 ⟨none,.store 64 (.t 13) (.t 44),none⟩] [1,3,4,6,11,12,13])
 (.dops [
 ⟨1,some 46,.mv (.t 3),none,0⟩,
 ⟨2,some 47,.mv (.t 12),none,0⟩,
 ⟨3,some 48,.mv (.t 12),none,0⟩,
 ⟨4,some 49,.bin .add (.t 48) (.c (.int .i64 64)),none,0⟩,
 ⟨5,some 50,.mv (.t 3),none,0⟩,
 ⟨6,some 51,.lenS (.t 50),none,0⟩,
 ⟨7,some 52,.mn (.t 49) (.t 51),none,0⟩,
 ⟨8,some 53,.slSl 1 (.t 46) (some (.t 47)) (some (.t 52)) none,none,0⟩,
 ⟨9,some 54,.slArr 64 1 (.t 13) none none none,none,0⟩,
 ⟨10,some 55,.call 134 [.t 53,.t 54],none,0⟩,
 ⟨0,some 45,.mv (.t 11),none,1⟩,
 ⟨11,some 56,.append 1 1 (.t 45) (.t 55),none,0⟩,
 ⟨12,some 11,.mv (.t 56),none,0⟩] [1,3,4,6,11,12])))
 (.ops [
 ⟨some 35,.mv (.t 12),none⟩,
 ⟨some 36,.bin .add (.t 35) (.c (.int .i64 64)),none⟩,
 ⟨some 12,.mv (.t 36),none⟩] [1,3,4,6,11,12]))
def ir_chacha_Xor_23 : ACode := (.seq (.seq (.ops [
 ⟨some 23,.mv (.t 10),none⟩,
 ⟨some 24,.mv (.t 1),none⟩,
 ⟨some 25,.conv .i64 (.t 24),none⟩,
 ⟨some 26,.bin .sub (.c (.int .i64 4294967296)) (.t 25),none⟩,
 ⟨some 27,.bin .gtr (.t 23) (.t 26),none⟩] [1,3,4,6,27])
 (.cond (.t 27)
 (.seq (.ops [
 ⟨some 8,.mv (.c (.slice none 0 0)),none⟩,
 ⟨some 9,.mv (.c (.int .i64 1)),none⟩] [8,9])
 .ret)
 .skip))
 (.seq (.ops [
 ⟨some 28,.mv (.t 3),none⟩,
 ⟨some 29,.lenS (.t 28),none⟩,
 ⟨some 30,.mslice 1 ([.int .u8 0]) (.c (.int .i64 0)) (.t 29),none⟩,
 ⟨some 11,.mv (.t 30),none⟩] [1,3,4,6,11])
 (.seq (.seq (.ops [
 ⟨some 12,.mv (.c (.int .i64 0)),none⟩] [1,3,4,6,11,12])
 (.block 0 (.loop (.seq (.seq (.ops [
 ⟨some 31,.mv (.t 12),none⟩,
 ⟨some 32,.mv (.t 3),none⟩,
 ⟨some 33,.lenS (.t 32),none⟩,
 ⟨some 34,.bin .lss (.t 31) (.t 33),none⟩] [1,3,4,6,11,12,34])
 (.cond (.t 34)
 .skip
 (.exit 0)))
 ir_chacha_Xor_37))))
 (.seq (.ops [
 ⟨some 57,.mv (.t 11),none⟩,
 ⟨some 8,.mv (.t 57),none⟩,
 ⟨some 9,.mv (.c (.int .i64 0)),none⟩] [8,9])
 .ret))))
def ir_chacha_Xor : AFunc := ⟨4,58,[.tmp 8,.tmp 9],
 (.seq (.ops [
 ⟨some 4,.box (.t 0),none⟩,
 ⟨some 6,.box (.t 2),none⟩,
 ⟨some 8,.mv (.c (.slice none 0 0)),none⟩,
 ⟨some 9,.mv (.c (.int .i64 0)),none⟩] [1,3,4,6])
 (.seq (.ops [
 ⟨some 14,.mv (.t 3),none⟩,
 ⟨some 15,.lenS (.t 14),none⟩,
 ⟨some 16,.bin .quo (.t 15) (.c (.int .i64 64)),none⟩,
 ⟨some 10,.mv (.t 16),none⟩] [1,3,4,6,10])
 (.seq (.seq (.ops [
 ⟨some 17,.mv (.t 3),none⟩,
 ⟨some 18,.lenS (.t 17),none⟩,
 ⟨some 19,.bin .rem (.t 18) (.c (.int .i64 64)),none⟩,
 ⟨some 20,.bin .gtr (.t 19) (.c (.int .i64 0)),none⟩] [1,3,4,6,10,20])
 (.cond (.t 20)
 (.ops [
 ⟨some 21,.mv (.t 10),none⟩,
 ⟨some 22,.bin .add (.t 21) (.c (.int .i64 1)),none⟩,
 ⟨some 10,.mv (.t 22),none⟩] [1,3,4,6,10])
 .skip))
 ir_chacha_Xor_23)))⟩

def h_aead_tag : Hint := [(0,[2,3,4,5,8],[]),(1,[2,3,4,5,8,9],[]),(2,[8],[])]
def ir_aead_tag : AFunc := ⟨4,30,[.cell 8 (some 16)],
 (.seq (.ops [
 ⟨some 4,.box (.t 0),none⟩,
 ⟨some 5,.box (.t 1),none⟩,
 ⟨some 8,.alloc (List.replicate 16 (.int .u8 0)),none⟩] [2,3,4,5,8])
 (.seq (.ops [
 ⟨some 10,.mv (.t 3),none⟩,
 ⟨some 11,.lenS (.t 10),none⟩,
 ⟨some 12,.conv .u64 (.t 11),none⟩,
 ⟨some 13,.call 68 [.c (.slice none 0 0),.t 12,.c (.int .i64 8)],none⟩,
 ⟨some 14,.mv (.t 2),none⟩,
 ⟨some 15,.lenS (.t 14),none⟩,
 ⟨some 16,.conv .u64 (.t 15),none⟩,
 ⟨some 17,.call 68 [.t 13,.t 16,.c (.int .i64 8)],none⟩,
 ⟨some 9,.mv (.t 17),none⟩] [2,3,4,5,8,9])
 (.seq (.ops [
 ⟨some 18,.load (some 32) (.t 4),none⟩,
 ⟨some 19,.load (some 12) (.t 5),none⟩,
 ⟨some 20,.call 117 [.t 18,.t 19],none⟩,
 ⟨some 21,.mv (.t 3),none⟩,
 ⟨some 22,.mv (.t 3),none⟩,
 ⟨some 23,.call 135 [.t 22],none⟩,
 ⟨some 24,.mv (.t 2),none⟩,
 ⟨some 25,.mv (.t 2),none⟩,
 ⟨some 26,.call 135 [.t 25],none⟩,
 ⟨some 27,.mv (.t 9),none⟩,
 ⟨some 28,.bslice 5 1 ([.slice none 0 0]) [(0,1,.t 21),(1,1,.t 23),(2,1,.t 24),(3,1,.t 26),(4,1,.t 27)],none⟩,
 ⟨some 29,.call 38 [.t 20,.t 28],none⟩,
 ⟨none,.store 16 (.t 8) (.t 29),none⟩] [8])
 .ret)))⟩

def h_octet_Equal : Hint := [(0,[0,1],[]),(1,[0,1,5],[]),(2,[0,1,5,11,12],[]),(3,[0,1,5,11,12,13],[]),(4,[0,1,5,6,11,12],[]),(5,[0,1,5,11,12],[(0,0),(1,0),(2,0),(3,0),(4,0),(5,0),(6,0),(7,0),(8,0),(9,0),(10,0),(11,0)]),(6,[0,1,5,11,12],[]),(7,[4],[])]
def ir_octet_Equal_27 : ACode := (.seq (.ops [
 ⟨some 27,.mv (.t 5),none⟩,
 ⟨some 28,.bin .eql (.t 27) (.c (.int .u8 0)),none⟩,
 ⟨some 29,.mv (.t 28),none⟩,
 ⟨some 30,.mv (.t 0),(some (29,true))⟩,
 ⟨some 31,.lenS (.t 30),(some (29,true))⟩,
 ⟨some 32,.mv (.t 1),(some (29,true))⟩,
 ⟨some 33,.lenS (.t 32),(some (29,true))⟩,
 ⟨some 34,.bin .eql (.t 31) (.t 33),(some (29,true))⟩,
 ⟨some 35,.pick (.t 29) (.t 34) (.c (.bool false)),none⟩,
 ⟨some 4,.mv (.t 35),none⟩] [4])
 .ret)
def ir_octet_Equal_7 : ACode := (.seq (.seq (.ops [
 ⟨some 7,.mv (.t 0),none⟩,
 ⟨some 8,.lenS (.t 7),none⟩,
 ⟨some 9,.mv (.t 1),none⟩,
 ⟨some 10,.lenS (.t 9),none⟩,
 ⟨some 11,.mn (.t 8) (.t 10),none⟩,
 ⟨some 12,.mv (.c (.int .i64 0)),none⟩] [0,1,5,11,12])
 (.block 0 (.loop (.seq (.ops [
 ⟨some 13,.bin .lss (.t 12) (.t 11),none⟩] [0,1,5,11,12,13])
 (.seq (.cond (.t 13)
 .skip
 (.exit 0))
 (.seq (.block 1 (.seq (.ops [
 ⟨some 14,.mv (.t 12),none⟩,
 ⟨some 6,.mv (.t 14),none⟩] [0,1,5,6,11,12])
 (.dops [
 ⟨0,some 15,.mv (.t 5),none,0⟩,
 ⟨1,some 16,.mv (.t 0),none,0⟩,
 ⟨2,some 17,.mv (.t 6),none,0⟩,
 ⟨3,some 18,.iaddrS 1 (.t 16) (.t 17),none,0⟩,
 ⟨4,some 19,.load none (.t 18),none,0⟩,
 ⟨5,some 20,.mv (.t 1),none,0⟩,
 ⟨6,some 21,.mv (.t 6),none,0⟩,
 ⟨7,some 22,.iaddrS 1 (.t 20) (.t 21),none,0⟩,
 ⟨8,some 23,.load none (.t 22),none,0⟩,
 ⟨9,some 24,.bin .xor (.t 19) (.t 23),none,0⟩,
 ⟨10,some 25,.bin .or (.t 15) (.t 24),none,0⟩,
 ⟨11,some 5,.mv (.t 25),none,0⟩] [0,1,5,11,12])))
 (.ops [
 ⟨some 26,.bin .add (.t 12) (.c (.int .i64 1)),none⟩,
 ⟨some 12,.mv (.t 26),none⟩] [0,1,5,11,12])))))))
 ir_octet_Equal_27)
def ir_octet_Equal : AFunc := ⟨2,36,[.tmp 4],
 (.seq (.ops [
 ⟨some 4,.mv (.c (.bool false)),none⟩] [0,1])
 (.seq (.ops [
 ⟨some 5,.mv (.c (.int .u8 0)),none⟩] [0,1,5])
 ir_octet_Equal_7))⟩

def h_chacha_Block : Hint := [(0,[1,3,5,6],[]),(1,[6,7],[]),(2,[6,7,8],[]),(3,[6,7,8,18],[]),(4,[6,7,8,18,19],[]),(5,[6,7,8,18,20],[]),(6,[6,7,8,18,20,21],[]),(7,[6,7,8,9,18,20],[]),(8,[6,7,8,18,20],[]),(9,[6,7,8,18,20],[]),(10,[6,7,8,18,32],[]),(11,[6,7,8,18,32,33],[]),(12,[6,7,8,10,18,32],[]),(13,[6,7,8,18,32],[]),(14,[6,7,8,18,32],[]),(15,[6,7,8,18],[]),(16,[6,7,8,11],[]),(17,[6,7,8,11,51],[]),(18,[6,7,8,11,51,52],[]),(19,[6,7,8,11,12,51],[]),(20,[6,7,8,11,51],[(3,0),(4,0),(5,0),(6,0),(7,0),(8,0),(9,0),(10,0),(11,0),(0,1),(1,1),(2,1),(12,0)]),(21,[6,7,8,11,51],[]),(22,[6],[])]
def ir_chacha_Block_51 : ACode := (.seq (.seq (.ops [
 ⟨some 51,.mv (.c (.int .i64 0)),none⟩] [6,7,8,11,51])
 (.block 6 (.loop (.seq (.ops [
 ⟨some 52,.bin .lss (.t 51) (.c (.int .i64 16)),none⟩] [6,7,8,11,51,52])
 (.seq (.cond (.t 52)
 .skip
 (.exit 6))
 (.seq (.block 7 (.seq (.ops [
 ⟨some 53,.mv (.t 51),none⟩,
 ⟨some 12,.mv (.t 53),none⟩] [6,7,8,11,12,51])
 (.dops [
 ⟨3,some 57,.mv (.t 12),none,0⟩,
 ⟨4,some 58,.iaddrA 16 1 (.t 8) (.t 57),none,0⟩,
 ⟨5,some 59,.load none (.t 58),none,0⟩,
 ⟨6,some 60,.mv (.t 12),none,0⟩,
 ⟨7,some 61,.iaddrA 16 1 (.t 7) (.t 60),none,0⟩,
 ⟨8,some 62,.load none (.t 61),none,0⟩,
 ⟨9,some 63,.bin .add (.t 59) (.t 62),none,0⟩,
 ⟨10,some 64,.conv .u64 (.t 63),none,0⟩,
 ⟨11,some 65,.call 68 [.c (.slice none 0 0),.t 64,.c (.int .i64 4)],none,0⟩,
 ⟨0,some 54,.mv (.t 12),none,1⟩,
 ⟨1,some 55,.bin .mul (.c (.int .i64 4)) (.t 54),none,1⟩,
 ⟨2,some 56,.slArr 64 1 (.t 11) (some (.t 55)) none none,none,1⟩,
 ⟨12,some 66,.copy 1 (.t 56) (.t 65),none,0⟩] [6,7,8,11,51])))
 (.ops [
 ⟨some 67,.bin .add (.t 51) (.c (.int .i64 1)),none⟩,
 ⟨some 51,.mv (.t 67),none⟩] [6,7,8,11,51])))))))
 (.seq (.ops [
 ⟨some 68,.load (some 64) (.t 11),none⟩,
 ⟨none,.store 64 (.t 6) (.t 68),none⟩] [6])
 .ret))
def ir_chacha_Block_33 : ACode := (.block 4 (.loop (.seq (.ops [
 ⟨some 33,.bin .lss (.t 32) (.c (.int .i64 4)),none⟩] [6,7,8,18,32,33])
 (.seq (.cond (.t 33)
 .skip
 (.exit 4))
 (.seq (.block 5 (.seq (.ops [
 ⟨some 34,.mv (.t 32),none⟩,
 ⟨some 10,.mv (.t 34),none⟩] [6,7,8,10,18,32])
 (.ops [
 ⟨some 35,.mv (.t 10),none⟩,
 ⟨some 36,.mv (.t 10),none⟩,
 ⟨some 37,.bin .add (.t 36) (.c (.int .i64 1)),none⟩,
 ⟨some 38,.bin .rem (.t 37) (.c (.int .i64 4)),none⟩,
 ⟨some 39,.bin .add (.c (.int .i64 4)) (.t 38),none⟩,
 ⟨some 40,.mv (.t 10),none⟩,
 ⟨some 41,.bin .add (.t 40) (.c (.int .i64 2)),none⟩,
 ⟨some 42,.bin .rem (.t 41) (.c (.int .i64 4)),none⟩,
 ⟨some 43,.bin .add (.c (.int .i64 8)) (.t 42),none⟩,
 ⟨some 44,.mv (.t 10),none⟩,
 ⟨some 45,.bin .add (.t 44) (.c (.int .i64 3)),none⟩,
 ⟨some 46,.bin .rem (.t 45) (.c (.int .i64 4)),none⟩,
 ⟨some 47,.bin .add (.c (.int .i64 12)) (.t 46),none⟩,
 ⟨some 48,.call 137 [.t 8,.t 35,.t 39,.t 43,.t 47],none⟩] [6,7,8,18,32])))
 (.ops [
 ⟨some 49,.bin .add (.t 32) (.c (.int .i64 1)),none⟩,
 ⟨some 32,.mv (.t 49),none⟩] [6,7,8,18,32]))))))
def ir_chacha_Block_q : ACode := (.seq (.cond (.t 19)
 .skip
 (.exit 0))
 (.seq (.block 1 (.seq (.seq (.ops [
 ⟨some 20,.mv (.c (.int .i64 0)),none⟩] [6,7,8,18,20])
 (.block 2 (.loop (.seq (.ops [
 ⟨some 21,.bin .lss (.t 20) (.c (.int .i64 4)),none⟩] [6,7,8,18,20,21])
 (.seq (.cond (.t 21)
 .skip
 (.exit 2))
 (.seq (.block 3 (.seq (.ops [
 ⟨some 22,.mv (.t 20),none⟩,
 ⟨some 9,.mv (.t 22),none⟩] [6,7,8,9,18,20])
 (.ops [
 ⟨some 23,.mv (.t 9),none⟩,
 ⟨some 24,.mv (.t 9),none⟩,
 ⟨some 25,.bin .add (.c (.int .i64 4)) (.t 24),none⟩,
 ⟨some 26,.mv (.t 9),none⟩,
 ⟨some 27,.bin .add (.c (.int .i64 8)) (.t 26),none⟩,
 ⟨some 28,.mv (.t 9),none⟩,
 ⟨some 29,.bin .add (.c (.int .i64 12)) (.t 28),none⟩,
 ⟨some 30,.call 137 [.t 8,.t 23,.t 25,.t 27,.t 29],none⟩] [6,7,8,18,20])))
 (.ops [
 ⟨some 31,.bin .add (.t 20) (.c (.int .i64 1)),none⟩,
 ⟨some 20,.mv (.t 31),none⟩] [6,7,8,18,20])))))))
 (.seq (.ops [
 ⟨some 32,.mv (.c (.int .i64 0)),none⟩] [6,7,8,18,32])
 ir_chacha_Block_33)))
 (.ops [
 ⟨some 50,.bin .add (.t 18) (.c (.int .i64 1)),none⟩,
 ⟨some 18,.mv (.t 50),none⟩] [6,7,8,18])))
def ir_chacha_Block : AFunc := ⟨3,69,[.cell 6 (some 64)],
 (.seq (.ops [
 ⟨some 3,.box (.t 0),none⟩,
 ⟨some 5,.box (.t 2),none⟩,
 ⟨some 6,.alloc (List.replicate 64 (.int .u8 0)),none⟩] [1,3,5,6])
 (.seq (.ops [
 ⟨some 13,.load (some 32) (.t 3),none⟩,
 ⟨some 14,.mv (.t 1),none⟩,
 ⟨some 15,.load (some 12) (.t 5),none⟩,
 ⟨some 16,.call 136 [.t 13,.t 14,.t 15],none⟩,
 ⟨some 7,.alloc (List.replicate 16 (.int .u32 0)),none⟩,
 ⟨none,.store 16 (.t 7) (.t 16),none⟩] [6,7])
 (.seq (.ops [
 ⟨some 17,.load (some 16) (.t 7),none⟩,
 ⟨some 8,.alloc (List.replicate 16 (.int .u32 0)),none⟩,
 ⟨none,.store 16 (.t 8) (.t 17),none⟩] [6,7,8])
 (.seq (.seq (.ops [
 ⟨some 18,.mv (.c (.int .i64 0)),none⟩] [6,7,8,18])
 (.block 0 (.loop (.seq (.ops [
 ⟨some 19,.bin .lss (.t 18) (.c (.int .i64 10)),none⟩] [6,7,8,18,19])
 ir_chacha_Block_q))))
 (.seq (.ops [
 ⟨some 11,.alloc (List.replicate 64 (.int .u8 0)),none⟩] [6,7,8,11])
 ir_chacha_Block_51)))))⟩

def h_octet_Xor : Hint := [(0,[0,1],[]),(1,[0,1,5],[]),(2,[0,1,5,14,15],[]),(3,[0,1,5,14,15,16],[]),(4,[0,1,5,6,14,15],[]),(5,[0,1,5,14,15],[(0,0),(1,0),(2,0),(3,0),(4,0),(5,0),(6,0),(7,0),(8,0),(9,0),(10,0),(11,0),(12,0)]),(6,[0,1,5,14,15],[]),(7,[4],[])]
def ir_octet_Xor_13 : ACode := (.seq (.seq (.ops [
 ⟨some 13,.mv (.t 5),none⟩,
 ⟨some 14,.lenS (.t 13),none⟩,
 ⟨some 15,.mv (.c (.int .i64 0)),none⟩] [0,1,5,14,15])
 (.block 0 (.loop (.seq (.ops [
 ⟨some 16,.bin .lss (.t 15) (.t 14),none⟩] [0,1,5,14,15,16])
 (.seq (.cond (.t 16)
 .skip
 (.exit 0))
 (.seq (.block 1 (.seq (.ops [
 ⟨some 17,.mv (.t 15),none⟩,
 ⟨some 6,.mv (.t 17),none⟩] [0,1,5,6,14,15])
 (.dops [
 ⟨0,some 18,.mv (.t 5),none,0⟩,
 ⟨1,some 19,.mv (.t 6),none,0⟩,
 ⟨2,some 20,.mv (.t 0),none,0⟩,
 ⟨3,some 21,.mv (.t 6),none,0⟩,
 ⟨4,some 22,.iaddrS 1 (.t 20) (.t 21),none,0⟩,
 ⟨5,some 23,.load none (.t 22),none,0⟩,
 ⟨6,some 24,.mv (.t 1),none,0⟩,
 ⟨7,some 25,.mv (.t 6),none,0⟩,
 ⟨8,some 26,.iaddrS 1 (.t 24) (.t 25),none,0⟩,
 ⟨9,some 27,.load none (.t 26),none,0⟩,
 ⟨10,some 28,.bin .xor (.t 23) (.t 27),none,0⟩,
 ⟨11,some 29,.iaddrS 1 (.t 18) (.t 19),none,0⟩,
 ⟨12,none,.store 1 (.t 29) (.t 28),none,0⟩] [0,1,5,14,15])))
 (.ops [
 ⟨some 30,.bin .add (.t 15) (.c (.int .i64 1)),none⟩,
 ⟨some 15,.mv (.t 30),none⟩] [0,1,5,14,15])))))))
 (.seq (.ops [
 ⟨some 31,.mv (.t 5),none⟩,
 ⟨some 4,.mv (.t 31),none⟩] [4])
 .ret))
def ir_octet_Xor : AFunc := ⟨2,32,[.tmp 4],
 (.seq (.ops [
 ⟨some 4,.mv (.c (.slice none 0 0)),none⟩] [0,1])
 (.seq (.ops [
 ⟨some 7,.mv (.t 0),none⟩,
 ⟨some 8,.lenS (.t 7),none⟩,
 ⟨some 9,.mv (.t 1),none⟩,
 ⟨some 10,.lenS (.t 9),none⟩,
 ⟨some 11,.mn (.t 8) (.t 10),none⟩,
 ⟨some 12,.mslice 1 ([.int .u8 0]) (.t 11) (.t 11),none⟩,
 ⟨some 5,.mv (.t 12),none⟩] [0,1,5])
 ir_octet_Xor_13))⟩

def h_aead_fill : Hint := [(0,[0],[]),(1,[2],[])]
def ir_aead_fill : AFunc := ⟨1,9,[.tmp 2],
 (.seq (.ops [
 ⟨some 2,.mv (.c (.slice none 0 0)),none⟩] [0])
 (.seq (.ops [
 ⟨some 3,.mv (.t 0),none⟩,
 ⟨some 4,.lenS (.t 3),none⟩,
 ⟨some 5,.bin .rem (.t 4) (.c (.int .i64 16)),none⟩,
 ⟨some 6,.bin .sub (.c (.int .i64 16)) (.t 5),none⟩,
 ⟨some 7,.bin .rem (.t 6) (.c (.int .i64 16)),none⟩,
 ⟨some 8,.mslice 1 ([.int .u8 0]) (.t 7) (.t 7),none⟩,
 ⟨some 2,.mv (.t 8),none⟩] [2])
 .ret))⟩

def h_chacha_state : Hint := [(0,[1,3,5,6],[]),(1,[1,3,5,6,7],[]),(2,[1,3,5,6,7,11],[]),(3,[1,3,5,6,7,11,12],[]),(4,[1,3,5,6,7,8,11],[]),(5,[1,3,5,6,7,11],[]),(6,[1,3,5,6,7,11],[]),(7,[5,6,7],[]),(8,[5,6,7,24],[]),(9,[5,6,7,24,25],[]),(10,[5,6,7,9,24],[]),(11,[5,6,7,24],[]),(12,[5,6,7,24],[]),(13,[6],[])]
def ir_chacha_state_22 : ACode := (.seq (.ops [
 ⟨some 22,.mv (.t 1),none⟩,
 ⟨some 23,.iaddrA 16 1 (.t 7) (.c (.int .i64 12)),none⟩,
 ⟨none,.store 1 (.t 23) (.t 22),none⟩] [5,6,7])
 (.seq (.seq (.ops [
 ⟨some 24,.mv (.c (.int .i64 0)),none⟩] [5,6,7,24])
 (.block 2 (.loop (.seq (.ops [
 ⟨some 25,.bin .lss (.t 24) (.c (.int .i64 3)),none⟩] [5,6,7,24,25])
 (.seq (.cond (.t 25)
 .skip
 (.exit 2))
 (.seq (.block 3 (.seq (.ops [
 ⟨some 26,.mv (.t 24),none⟩,
 ⟨some 9,.mv (.t 26),none⟩] [5,6,7,9,24])
 (.ops [
 ⟨some 27,.mv (.t 9),none⟩,
 ⟨some 28,.bin .add (.c (.int .i64 13)) (.t 27),none⟩,
 ⟨some 29,.mv (.t 9),none⟩,
 ⟨some 30,.bin .mul (.c (.int .i64 4)) (.t 29),none⟩,
 ⟨some 31,.slArr 12 1 (.t 5) (some (.t 30)) none none,none⟩,
 ⟨some 32,.call 142 [.t 31],none⟩,
 ⟨some 33,.iaddrA 16 1 (.t 7) (.t 28),none⟩,
 ⟨none,.store 1 (.t 33) (.t 32),none⟩] [5,6,7,24])))
 (.ops [
 ⟨some 34,.bin .add (.t 24) (.c (.int .i64 1)),none⟩,
 ⟨some 24,.mv (.t 34),none⟩] [5,6,7,24])))))))
 (.seq (.ops [
 ⟨some 35,.load (some 16) (.t 7),none⟩,
 ⟨none,.store 16 (.t 6) (.t 35),none⟩] [6])
 .ret)))
def ir_chacha_state_11 : ACode := (.seq (.seq (.ops [
 ⟨some 11,.mv (.c (.int .i64 0)),none⟩] [1,3,5,6,7,11])
 (.block 0 (.loop (.seq (.ops [
 ⟨some 12,.bin .lss (.t 11) (.c (.int .i64 8)),none⟩] [1,3,5,6,7,11,12])
 (.seq (.cond (.t 12)
 .skip
 (.exit 0))
 (.seq (.block 1 (.seq (.ops [
 ⟨some 13,.mv (.t 11),none⟩,
 ⟨some 8,.mv (.t 13),none⟩] [1,3,5,6,7,8,11])
 (.ops [
 ⟨some 14,.mv (.t 8),none⟩,
 ⟨some 15,.bin .add (.c (.int .i64 4)) (.t 14),none⟩,
 ⟨some 16,.mv (.t 8),none⟩,
 ⟨some 17,.bin .mul (.c (.int .i64 4)) (.t 16),none⟩,
 ⟨some 18,.slArr 32 1 (.t 3) (some (.t 17)) none none,none⟩,
 ⟨some 19,.call 142 [.t 18],none⟩,
 ⟨some 20,.iaddrA 16 1 (.t 7) (.t 15),none⟩,
 ⟨none,.store 1 (.t 20) (.t 19),none⟩] [1,3,5,6,7,11])))
 (.ops [
 ⟨some 21,.bin .add (.t 11) (.c (.int .i64 1)),none⟩,
 ⟨some 11,.mv (.t 21),none⟩] [1,3,5,6,7,11])))))))
 ir_chacha_state_22)
def ir_chacha_state : AFunc := ⟨3,36,[.cell 6 (some 16)],
 (.seq (.ops [
 ⟨some 3,.box (.t 0),none⟩,
 ⟨some 5,.box (.t 2),none⟩,
 ⟨some 6,.alloc (List.replicate 16 (.int .u32 0)),none⟩] [1,3,5,6])
 (.seq (.ops [
 ⟨some 10,.build (List.replicate 16 (.int .u32 0)) [(0,1,.c (.int .u32 1634760805)),(1,1,.c (.int .u32 857760878)),(2,1,.c (.int .u32 2036477234)),(3,1,.c (.int .u32 1797285236))],none⟩,
 ⟨some 7,.alloc (List.replicate 16 (.int .u32 0)),none⟩,
 ⟨none,.store 16 (.t 7) (.t 10),none⟩] [1,3,5,6,7])
 ir_chacha_state_11))⟩

def h_chacha_mix : Hint := [(0,[],[(8,0),(9,0),(10,0),(11,0),(12,0),(13,0),(14,0),(15,0),(16,0),(17,0),(18,0),(19,0),(20,0),(21,0),(22,0),(23,0),(24,0),(25,0),(26,0),(27,0),(28,0),(0,1),(1,1),(29,0),(30,0),(34,1),(35,0),(36,0),(2,2),(3,2),(31,1),(37,2),(38,0),(39,0),(4,3),(5,3),(32,2),(40,3),(41,0),(42,0),(6,4),(7,4),(33,3),(43,4),(44,0),(45,0)])]
def ir_chacha_mix : AFunc := ⟨5,52,[],
 (.dops [
 ⟨8,some 19,.mv (.t 0),none,0⟩,
 ⟨9,some 20,.mv (.t 1),none,0⟩,
 ⟨10,some 21,.nilc (.t 19),none,0⟩,
 ⟨11,some 22,.iaddrA 16 1 (.t 21) (.t 20),none,0⟩,
 ⟨12,some 23,.load none (.t 22),none,0⟩,
 ⟨13,some 24,.mv (.t 0),none,0⟩,
 ⟨14,some 25,.mv (.t 2),none,0⟩,
 ⟨15,some 26,.nilc (.t 24),none,0⟩,
 ⟨16,some 27,.iaddrA 16 1 (.t 26) (.t 25),none,0⟩,
 ⟨17,some 28,.load none (.t 27),none,0⟩,
 ⟨18,some 29,.mv (.t 0),none,0⟩,
 ⟨19,some 30,.mv (.t 3),none,0⟩,
 ⟨20,some 31,.nilc (.t 29),none,0⟩,
 ⟨21,some 32,.iaddrA 16 1 (.t 31) (.t 30),none,0⟩,
 ⟨22,some 33,.load none (.t 32),none,0⟩,
 ⟨23,some 34,.mv (.t 0),none,0⟩,
 ⟨24,some 35,.mv (.t 4),none,0⟩,
 ⟨25,some 36,.nilc (.t 34),none,0⟩,
 ⟨26,some 37,.iaddrA 16 1 (.t 36) (.t 35),none,0⟩,
 ⟨27,some 38,.load none (.t 37),none,0⟩,
 ⟨28,some 39,.call 143 [.t 23,.t 28,.t 33,.t 38],none,0⟩,
 ⟨0,some 11,.mv (.t 0),none,1⟩,
 ⟨1,some 12,.mv (.t 1),none,1⟩,
 ⟨29,some 10,.mv (.t 39),none,0⟩,
 ⟨30,some 40,.ext (.t 10) 0,none,0⟩,
 ⟨34,some 44,.nilc (.t 11),none,1⟩,
 ⟨35,some 45,.iaddrA 16 1 (.t 44) (.t 12),none,0⟩,
 ⟨36,none,.store 1 (.t 45) (.t 40),none,0⟩,
 ⟨2,some 13,.mv (.t 0),none,2⟩,
 ⟨3,some 14,.mv (.t 2),none,2⟩,
 ⟨31,some 41,.ext (.t 10) 1,none,1⟩,
 ⟨37,some 46,.nilc (.t 13),none,2⟩,
 ⟨38,some 47,.iaddrA 16 1 (.t 46) (.t 14),none,0⟩,
 ⟨39,none,.store 1 (.t 47) (.t 41),none,0⟩,
 ⟨4,some 15,.mv (.t 0),none,3⟩,
 ⟨5,some 16,.mv (.t 3),none,3⟩,
 ⟨32,some 42,.ext (.t 10) 2,none,2⟩,
 ⟨40,some 48,.nilc (.t 15),none,3⟩,
 ⟨41,some 49,.iaddrA 16 1 (.t 48) (.t 16),none,0⟩,
 ⟨42,none,.store 1 (.t 49) (.t 42),none,0⟩,
 ⟨6,some 17,.mv (.t 0),none,4⟩,
 ⟨7,some 18,.mv (.t 4),none,4⟩,
 ⟨33,some 43,.ext (.t 10) 3,none,3⟩,
 ⟨43,some 50,.nilc (.t 17),none,4⟩,
 ⟨44,some 51,.iaddrA 16 1 (.t 50) (.t 18),none,0⟩,
 ⟨45,none,.store 1 (.t 51) (.t 43),none,0⟩] [])⟩

def h_chacha_word : Hint := [(0,[0],[]),(1,[3],[]),(2,[2],[])]
def ir_chacha_word : AFunc := ⟨1,13,[.tmp 2],
 (.seq (.ops [
 ⟨some 2,.mv (.c (.int .u32 0)),none⟩] [0])
 (.seq (.ops [
 ⟨some 6,.mv (.t 0),none⟩,
 ⟨some 7,.slSl 1 (.t 6) none (some (.c (.int .i64 4))) none,none⟩,
 ⟨some 8,.call 79 [.t 7],none⟩,
 ⟨some 5,.mv (.t 8),none⟩,
 ⟨some 9,.ext (.t 5) 0,none⟩,
 ⟨some 10,.ext (.t 5) 1,none⟩,
 ⟨some 3,.mv (.t 9),none⟩,
 ⟨some 4,.mv (.t 10),none⟩] [3])
 (.seq (.ops [
 ⟨some 11,.mv (.t 3),none⟩,
 ⟨some 12,.conv .u32 (.t 11),none⟩,
 ⟨some 2,.mv (.t 12),none⟩] [2])
 .ret)))⟩

def h_chacha_Quarter : Hint := [(0,[0,1,2,3],[]),(1,[0,1,2,3],[]),(2,[0,1,2,3],[]),(3,[0,1,2,3],[]),(4,[0,1,2,3],[]),(5,[0,1,2,3],[]),(6,[0,1,2,3],[]),(7,[0,1,2,3],[]),(8,[0,1,2,3],[]),(9,[8,9,10,11],[])]
def ir_chacha_Quarter_26 : ACode := (.seq (.ops [
 ⟨some 26,.mv (.t 0),none⟩,
 ⟨some 27,.mv (.t 1),none⟩,
 ⟨some 28,.bin .add (.t 26) (.t 27),none⟩,
 ⟨some 0,.mv (.t 28),none⟩] [0,1,2,3])
 (.seq (.ops [
 ⟨some 29,.mv (.t 3),none⟩,
 ⟨some 30,.mv (.t 0),none⟩,
 ⟨some 31,.bin .xor (.t 29) (.t 30),none⟩,
 ⟨some 32,.call 94 [.t 31,.c (.int .i64 8)],none⟩,
 ⟨some 3,.mv (.t 32),none⟩] [0,1,2,3])
 (.seq (.ops [
 ⟨some 33,.mv (.t 2),none⟩,
 ⟨some 34,.mv (.t 3),none⟩,
 ⟨some 35,.bin .add (.t 33) (.t 34),none⟩,
 ⟨some 2,.mv (.t 35),none⟩] [0,1,2,3])
 (.seq (.ops [
 ⟨some 36,.mv (.t 1),none⟩,
 ⟨some 37,.mv (.t 2),none⟩,
 ⟨some 38,.bin .xor (.t 36) (.t 37),none⟩,
 ⟨some 39,.call 94 [.t 38,.c (.int .i64 7)],none⟩,
 ⟨some 1,.mv (.t 39),none⟩] [0,1,2,3])
 (.seq (.ops [
 ⟨some 40,.mv (.t 0),none⟩,
 ⟨some 41,.mv (.t 1),none⟩,
 ⟨some 42,.mv (.t 2),none⟩,
 ⟨some 43,.mv (.t 3),none⟩,
 ⟨some 8,.mv (.t 40),none⟩,
 ⟨some 9,.mv (.t 41),none⟩,
 ⟨some 10,.mv (.t 42),none⟩,
 ⟨some 11,.mv (.t 43),none⟩] [8,9,10,11])
 .ret)))))
def ir_chacha_Quarter : AFunc := ⟨4,44,[.tmp 8,.tmp 9,.tmp 10,.tmp 11],
 (.seq (.ops [
 ⟨some 8,.mv (.c (.int .u32 0)),none⟩,
 ⟨some 9,.mv (.c (.int .u32 0)),none⟩,
 ⟨some 10,.mv (.c (.int .u32 0)),none⟩,
 ⟨some 11,.mv (.c (.int .u32 0)),none⟩] [0,1,2,3])
 (.seq (.ops [
 ⟨some 12,.mv (.t 0),none⟩,
 ⟨some 13,.mv (.t 1),none⟩,
 ⟨some 14,.bin .add (.t 12) (.t 13),none⟩,
 ⟨some 0,.mv (.t 14),none⟩] [0,1,2,3])
 (.seq (.ops [
 ⟨some 15,.mv (.t 3),none⟩,
 ⟨some 16,.mv (.t 0),none⟩,
 ⟨some 17,.bin .xor (.t 15) (.t 16),none⟩,
 ⟨some 18,.call 94 [.t 17,.c (.int .i64 16)],none⟩,
 ⟨some 3,.mv (.t 18),none⟩] [0,1,2,3])
 (.seq (.ops [
 ⟨some 19,.mv (.t 2),none⟩,
 ⟨some 20,.mv (.t 3),none⟩,
 ⟨some 21,.bin .add (.t 19) (.t 20),none⟩,
 ⟨some 2,.mv (.t 21),none⟩] [0,1,2,3])
 (.seq (.ops [
 ⟨some 22,.mv (.t 1),none⟩,
 ⟨some 23,.mv (.t 2),none⟩,
 ⟨some 24,.bin .xor (.t 22) (.t 23),none⟩,
 ⟨some 25,.call 94 [.t 24,.c (.int .i64 12)],none⟩,
 ⟨some 1,.mv (.t 25),none⟩] [0,1,2,3])
 ir_chacha_Quarter_26)))))⟩

def h_pad_Pad : Hint := [(0,[0],[]),(1,[0,4,5],[]),(2,[0,4,5,14],[]),(3,[2,3],[]),(4,[0,6],[]),(5,[0,6],[]),(6,[6],[]),(7,[2,3],[])]
def ir_pad_Pad : AFunc := ⟨1,26,[.tmp 2,.tmp 3],
 (.seq (.ops [
 ⟨some 2,.mv (.c (.slice none 0 0)),none⟩,
 ⟨some 3,.mv (.c (.int .i64 0)),none⟩] [0])
 (.seq (.ops [
 ⟨some 8,.mv (.t 0),none⟩,
 ⟨some 9,.lenS (.t 8),none⟩,
 ⟨some 10,.call 14 [.t 9],none⟩,
 ⟨some 7,.mv (.t 10),none⟩,
 ⟨some 11,.ext (.t 7) 0,none⟩,
 ⟨some 12,.ext (.t 7) 1,none⟩,
 ⟨some 4,.mv (.t 11),none⟩,
 ⟨some 5,.mv (.t 12),none⟩] [0,4,5])
 (.seq (.seq (.ops [
 ⟨some 13,.mv (.t 5),none⟩,
 ⟨some 14,.bin .neq (.t 13) (.c (.int .i64 0)),none⟩] [0,4,5,14])
 (.cond (.t 14)
 (.seq (.ops [
 ⟨some 15,.mv (.t 5),none⟩,
 ⟨some 2,.mv (.c (.slice none 0 0)),none⟩,
 ⟨some 3,.mv (.t 15),none⟩] [2,3])
 .ret)
 .skip))
 (.seq (.ops [
 ⟨some 16,.mv (.t 4),none⟩,
 ⟨some 17,.mslice 1 ([.int .u8 0]) (.t 16) (.t 16),none⟩,
 ⟨some 6,.mv (.t 17),none⟩] [0,6])
 (.seq (.ops [
 ⟨some 18,.mv (.t 6),none⟩,
 ⟨some 19,.mv (.t 0),none⟩,
 ⟨some 20,.copy 1 (.t 18) (.t 19),none⟩] [0,6])
 (.seq (.ops [
 ⟨some 21,.mv (.t 6),none⟩,
 ⟨some 22,.mv (.t 0),none⟩,
 ⟨some 23,.lenS (.t 22),none⟩,
 ⟨some 24,.iaddrS 1 (.t 21) (.t 23),none⟩,
 ⟨none,.store 1 (.t 24) (.c (.int .u8 128)),none⟩] [6])
 (.seq (.ops [
 ⟨some 25,.mv (.t 6),none⟩,
 ⟨some 2,.mv (.t 25),none⟩,
 ⟨some 3,.mv (.c (.int .i64 0)),none⟩] [2,3])
 .ret)))))))⟩

def h_pad_Unpad : Hint := [(0,[0],[]),(1,[0,4],[]),(2,[0,4,20],[]),(3,[2,3],[]),(4,[0,4],[]),(5,[0,4,5,6],[]),(6,[4,39],[]),(7,[2,3],[]),(8,[2,3],[])]
def ir_pad_Unpad : AFunc := ⟨1,42,[.tmp 2,.tmp 3],
 (.seq (.ops [
 ⟨some 2,.mv (.c (.slice none 0 0)),none⟩,
 ⟨some 3,.mv (.c (.int .i64 0)),none⟩] [0])
 (.seq (.ops [
 ⟨some 7,.mv (.t 0),none⟩,
 ⟨some 8,.call 157 [.t 7,.c (.string ⟨#[0]⟩)],none⟩,
 ⟨some 4,.mv (.t 8),none⟩] [0,4])
 (.seq (.seq (.ops [
 ⟨some 9,.mv (.t 4),none⟩,
 ⟨some 10,.lenS (.t 9),none⟩,
 ⟨some 11,.bin .eql (.t 10) (.c (.int .i64 0)),none⟩,
 ⟨some 12,.mv (.t 11),none⟩,
 ⟨some 13,.mv (.t 4),(some (12,false))⟩,
 ⟨some 14,.mv (.t 4),(some (12,false))⟩,
 ⟨some 15,.lenS (.t 14),(some (12,false))⟩,
 ⟨some 16,.bin .sub (.t 15) (.c (.int .i64 1)),(some (12,false))⟩,
 ⟨some 17,.iaddrS 1 (.t 13) (.t 16),(some (12,false))⟩,
 ⟨some 18,.load none (.t 17),(some (12,false))⟩,
 ⟨some 19,.bin .neq (.t 18) (.c (.int .u8 128)),(some (12,false))⟩,
 ⟨some 20,.pick (.t 12) (.c (.bool true)) (.t 19),none⟩] [0,4,20])
 (.cond (.t 20)
 (.seq (.ops [
 ⟨some 2,.mv (.c (.slice none 0 0)),none⟩,
 ⟨some 3,.mv (.c (.int .i64 3)),none⟩] [2,3])
 .ret)
 .skip))
 (.seq (.ops [
 ⟨some 21,.mv (.t 4),none⟩,
 ⟨some 22,.mv (.t 4),none⟩,
 ⟨some 23,.lenS (.t 22),none⟩,
 ⟨some 24,.bin .sub (.t 23) (.c (.int .i64 1)),none⟩,
 ⟨some 25,.slSl 1 (.t 21) none (some (.t 24)) none,none⟩,
 ⟨some 4,.mv (.t 25),none⟩] [0,4])
 (.seq (.seq (.ops [
 ⟨some 27,.mv (.t 4),none⟩,
 ⟨some 28,.lenS (.t 27),none⟩,
 ⟨some 29,.call 14 [.t 28],none⟩,
 ⟨some 26,.mv (.t 29),none⟩,
 ⟨some 30,.ext (.t 26) 0,none⟩,
 ⟨some 31,.ext (.t 26) 1,none⟩,
 ⟨some 5,.mv (.t 30),none⟩,
 ⟨some 6,.mv (.t 31),none⟩] [0,4,5,6])
 (.seq (.ops [
 ⟨some 32,.mv (.t 6),none⟩,
 ⟨some 33,.bin .neq (.t 32) (.c (.int .i64 0)),none⟩,
 ⟨some 34,.mv (.t 33),none⟩,
 ⟨some 35,.mv (.t 5),(some (34,false))⟩,
 ⟨some 36,.mv (.t 0),(some (34,false))⟩,
 ⟨some 37,.lenS (.t 36),(some (34,false))⟩,
 ⟨some 38,.bin .neq (.t 35) (.t 37),(some (34,false))⟩,
 ⟨some 39,.pick (.t 34) (.c (.bool true)) (.t 38),none⟩] [4,39])
 (.cond (.t 39)
 (.seq (.ops [
 ⟨some 2,.mv (.c (.slice none 0 0)),none⟩,
 ⟨some 3,.mv (.c (.int .i64 3)),none⟩] [2,3])
 .ret)
 .skip)))
 (.seq (.ops [
 ⟨some 40,.mv (.t 4),none⟩,
 ⟨some 41,.call 158 [.t 40],none⟩,
 ⟨some 2,.mv (.t 41),none⟩,
 ⟨some 3,.mv (.c (.int .i64 0)),none⟩] [2,3])
 .ret))))))⟩

def h_bytes_TrimRight : Hint := [(0,[0,1],[]),(1,[0,1,13],[]),(2,[4],[]),(3,[0,1,22],[]),(4,[4],[]),(5,[0,1,5,6],[]),(6,[0,1,5,32],[]),(7,[4],[]),(8,[4],[])]
def ir_bytes_TrimRight : AFunc := ⟨2,38,[.tmp 4],
 (.seq (.ops [
 ⟨some 4,.mv (.c (.slice none 0 0)),none⟩] [0,1])
 (.seq (.seq (.ops [
 ⟨some 7,.mv (.t 0),none⟩,
 ⟨some 8,.lenS (.t 7),none⟩,
 ⟨some 9,.bin .eql (.t 8) (.c (.int .i64 0)),none⟩,
 ⟨some 10,.mv (.t 9),none⟩,
 ⟨some 11,.mv (.t 1),(some (10,false))⟩,
 ⟨some 12,.bin .eql (.t 11) (.c (.string .empty)),(some (10,false))⟩,
 ⟨some 13,.pick (.t 10) (.c (.bool true)) (.t 12),none⟩] [0,1,13])
 (.cond (.t 13)
 (.seq (.ops [
 ⟨some 14,.mv (.t 0),none⟩,
 ⟨some 4,.mv (.t 14),none⟩] [4])
 .ret)
 .skip))
 (.seq (.seq (.ops [
 ⟨some 15,.mv (.t 1),none⟩,
 ⟨some 16,.lenStr (.t 15),none⟩,
 ⟨some 17,.bin .eql (.t 16) (.c (.int .i64 1)),none⟩,
 ⟨some 18,.mv (.t 17),none⟩,
 ⟨some 19,.mv (.t 1),(some (18,true))⟩,
 ⟨some 20,.idxS (.t 19) (.c (.int .i64 0)),(some (18,true))⟩,
 ⟨some 21,.bin .lss (.t 20) (.c (.int .u8 128)),(some (18,true))⟩,
 ⟨some 22,.pick (.t 18) (.t 21) (.c (.bool false)),none⟩] [0,1,22])
 (.cond (.t 22)
 (.seq (.ops [
 ⟨some 23,.mv (.t 0),none⟩,
 ⟨some 24,.mv (.t 1),none⟩,
 ⟨some 25,.idxS (.t 24) (.c (.int .i64 0)),none⟩,
 ⟨some 26,.call 159 [.t 23,.t 25],none⟩,
 ⟨some 4,.mv (.t 26),none⟩] [4])
 .ret)
 .skip))
 (.seq (.seq (.ops [
 ⟨some 28,.mv (.t 1),none⟩,
 ⟨some 29,.call 160 [.t 28],none⟩,
 ⟨some 27,.mv (.t 29),none⟩,
 ⟨some 30,.ext (.t 27) 0,none⟩,
 ⟨some 31,.ext (.t 27) 1,none⟩,
 ⟨some 5,.alloc (List.replicate 256 (.bool false)),none⟩,
 ⟨none,.store 256 (.t 5) (.t 30),none⟩,
 ⟨some 6,.mv (.t 31),none⟩] [0,1,5,6])
 (.seq (.ops [
 ⟨some 32,.mv (.t 6),none⟩] [0,1,5,32])
 (.cond (.t 32)
 (.seq (.ops [
 ⟨some 33,.mv (.t 0),none⟩,
 ⟨some 34,.call 161 [.t 33,.t 5],none⟩,
 ⟨some 4,.mv (.t 34),none⟩] [4])
 .ret)
 .skip)))
 (.seq (.ops [
 ⟨some 35,.mv (.t 0),none⟩,
 ⟨some 36,.mv (.t 1),none⟩,
 ⟨some 37,.call 162 [.t 35,.t 36],none⟩,
 ⟨some 4,.mv (.t 37),none⟩] [4])
 .ret)))))⟩

def h_bytes_Clone : Hint := [(0,[0],[]),(1,[0,4],[]),(2,[2],[]),(3,[2],[])]
def ir_bytes_Clone : AFunc := ⟨1,8,[.tmp 2],
 (.seq (.ops [
 ⟨some 2,.mv (.c (.slice none 0 0)),none⟩] [0])
 (.seq (.seq (.ops [
 ⟨some 3,.mv (.t 0),none⟩,
 ⟨some 4,.eqv .slice false (.t 3) (.c (.slice none 0 0)),none⟩] [0,4])
 (.cond (.t 4)
 (.seq (.ops [
 ⟨some 2,.mv (.c (.slice none 0 0)),none⟩] [2])
 .ret)
 .skip))
 (.seq (.ops [
 ⟨some 5,.bslice 0 1 ([.int .u8 0]) [],none⟩,
 ⟨some 6,.mv (.t 0),none⟩,
 ⟨some 7,.append 1 1 (.t 5) (.t 6),none⟩,
 ⟨some 2,.mv (.t 7),none⟩] [2])
 .ret)))⟩

def h_bytes_trimRightByte : Hint := [(0,[0,1],[]),(1,[0,1,17],[]),(2,[0,1],[]),(3,[4],[])]
def ir_bytes_trimRightByte : AFunc := ⟨2,24,[.tmp 4],
 (.seq (.ops [
 ⟨some 4,.mv (.c (.slice none 0 0)),none⟩] [0,1])
 (.seq (.block 0
 (.loop
 (.seq (.seq (.ops [
 ⟨some 5,.mv (.t 0),none⟩,
 ⟨some 6,.lenS (.t 5),none⟩,
 ⟨some 7,.bin .gtr (.t 6) (.c (.int .i64 0)),none⟩,
 ⟨some 8,.mv (.t 7),none⟩,
 ⟨some 9,.mv (.t 0),(some (8,true))⟩,
 ⟨some 10,.mv (.t 0),(some (8,true))⟩,
 ⟨some 11,.lenS (.t 10),(some (8,true))⟩,
 ⟨some 12,.bin .sub (.t 11) (.c (.int .i64 1)),(some (8,true))⟩,
 ⟨some 13,.iaddrS 1 (.t 9) (.t 12),(some (8,true))⟩,
 ⟨some 14,.load none (.t 13),(some (8,true))⟩,
 ⟨some 15,.mv (.t 1),(some (8,true))⟩,
 ⟨some 16,.bin .eql (.t 14) (.t 15),(some (8,true))⟩,
 ⟨some 17,.pick (.t 8) (.t 16) (.c (.bool false)),none⟩] [0,1,17])
 (.cond (.t 17)
 .skip
 (.exit 0)))
 (.block 1
 (.ops [
 ⟨some 18,.mv (.t 0),none⟩,
 ⟨some 19,.mv (.t 0),none⟩,
 ⟨some 20,.lenS (.t 19),none⟩,
 ⟨some 21,.bin .sub (.t 20) (.c (.int .i64 1)),none⟩,
 ⟨some 22,.slSl 1 (.t 18) none (some (.t 21)) none,none⟩,
 ⟨some 0,.mv (.t 22),none⟩] [0,1])))))
 (.seq (.ops [
 ⟨some 23,.mv (.t 0),none⟩,
 ⟨some 4,.mv (.t 23),none⟩] [4])
 .ret)))⟩

def h_bytes_makeASCIISet : Hint := [(0,[0,2],[]),(1,[0,2,4],[]),(2,[0,2,4,9],[]),(3,[0,2,4],[]),(4,[0,2,4,5],[]),(5,[0,2,4,5,16],[]),(6,[2,3],[]),(7,[0,2,4],[]),(8,[2,3],[])]
def ir_bytes_makeASCIISet_4 : ACode := (.seq (.seq (.ops [
 ⟨some 4,.mv (.c (.int .i64 0)),none⟩] [0,2,4])
 (.block 0 (.loop (.seq (.seq (.ops [
 ⟨some 6,.mv (.t 4),none⟩,
 ⟨some 7,.mv (.t 0),none⟩,
 ⟨some 8,.lenStr (.t 7),none⟩,
 ⟨some 9,.bin .lss (.t 6) (.t 8),none⟩] [0,2,4,9])
 (.cond (.t 9)
 .skip
 (.exit 0)))
 (.seq (.block 1 (.seq (.ops [
 ⟨some 12,.mv (.t 0),none⟩,
 ⟨some 13,.mv (.t 4),none⟩,
 ⟨some 14,.idxS (.t 12) (.t 13),none⟩,
 ⟨some 5,.mv (.t 14),none⟩] [0,2,4,5])
 (.seq (.seq (.ops [
 ⟨some 15,.mv (.t 5),none⟩,
 ⟨some 16,.bin .geq (.t 15) (.c (.int .u8 128)),none⟩] [0,2,4,5,16])
 (.cond (.t 16)
 (.seq (.ops [
 ⟨some 17,.load (some 256) (.t 2),none⟩,
 ⟨none,.store 256 (.t 2) (.t 17),none⟩,
 ⟨some 3,.mv (.c (.bool false)),none⟩] [2,3])
 .ret)
 .skip))
 (.ops [
 ⟨some 18,.mv (.t 5),none⟩,
 ⟨some 19,.iaddrA 256 1 (.t 2) (.t 18),none⟩,
 ⟨none,.store 1 (.t 19) (.c (.bool true)),none⟩] [0,2,4]))))
 (.ops [
 ⟨some 10,.mv (.t 4),none⟩,
 ⟨some 11,.bin .add (.t 10) (.c (.int .i64 1)),none⟩,
 ⟨some 4,.mv (.t 11),none⟩] [0,2,4]))))))
 (.seq (.ops [
 ⟨some 20,.load (some 256) (.t 2),none⟩,
 ⟨none,.store 256 (.t 2) (.t 20),none⟩,
 ⟨some 3,.mv (.c (.bool true)),none⟩] [2,3])
 .ret))
def ir_bytes_makeASCIISet : AFunc := ⟨1,21,[.cell 2 (some 256),.tmp 3],
 (.seq (.ops [
 ⟨some 2,.alloc (List.replicate 256 (.bool false)),none⟩,
 ⟨some 3,.mv (.c (.bool false)),none⟩] [0,2])
 ir_bytes_makeASCIISet_4)⟩

def h_bytes_trimRightASCII : Hint := [(0,[0,1],[]),(1,[0,1,7],[]),(2,[0,1,16],[]),(3,[0,1],[]),(4,[4],[])]
def ir_bytes_trimRightASCII : AFunc := ⟨2,23,[.tmp 4],
 (.seq (.ops [
 ⟨some 4,.mv (.c (.slice none 0 0)),none⟩] [0,1])
 (.seq (.block 0 (.loop (.seq (.seq (.ops [
 ⟨some 5,.mv (.t 0),none⟩,
 ⟨some 6,.lenS (.t 5),none⟩,
 ⟨some 7,.bin .gtr (.t 6) (.c (.int .i64 0)),none⟩] [0,1,7])
 (.cond (.t 7)
 .skip
 (.exit 0)))
 (.block 1 (.seq (.seq (.ops [
 ⟨some 8,.mv (.t 1),none⟩,
 ⟨some 9,.mv (.t 0),none⟩,
 ⟨some 10,.mv (.t 0),none⟩,
 ⟨some 11,.lenS (.t 10),none⟩,
 ⟨some 12,.bin .sub (.t 11) (.c (.int .i64 1)),none⟩,
 ⟨some 13,.iaddrS 1 (.t 9) (.t 12),none⟩,
 ⟨some 14,.load none (.t 13),none⟩,
 ⟨some 15,.call 163 [.t 8,.t 14],none⟩,
 ⟨some 16,.un .not (.t 15),none⟩] [0,1,16])
 (.cond (.t 16)
 (.exit 0)
 .skip))
 (.ops [
 ⟨some 17,.mv (.t 0),none⟩,
 ⟨some 18,.mv (.t 0),none⟩,
 ⟨some 19,.lenS (.t 18),none⟩,
 ⟨some 20,.bin .sub (.t 19) (.c (.int .i64 1)),none⟩,
 ⟨some 21,.slSl 1 (.t 17) none (some (.t 20)) none,none⟩,
 ⟨some 0,.mv (.t 21),none⟩] [0,1]))))))
 (.seq (.ops [
 ⟨some 22,.mv (.t 0),none⟩,
 ⟨some 4,.mv (.t 22),none⟩] [4])
 .ret)))⟩

def h_bytes_trimRightUnicode : Hint := [(0,[0,1],[]),(1,[0,1,9],[]),(2,[0,1,5,6],[]),(3,[0,1,5,6,18],[]),(4,[0,1,5,6],[]),(5,[0,1,6,27],[]),(6,[0,1],[]),(7,[4],[])]
def ir_bytes_trimRightUnicode_17 : ACode := (.seq (.seq (.ops [
 ⟨some 17,.mv (.t 5),none⟩,
 ⟨some 18,.bin .geq (.t 17) (.c (.int .i32 128)),none⟩] [0,1,5,6,18])
 (.cond (.t 18)
 (.ops [
 ⟨some 20,.mv (.t 0),none⟩,
 ⟨some 21,.call 164 [.t 20],none⟩,
 ⟨some 19,.mv (.t 21),none⟩,
 ⟨some 22,.ext (.t 19) 0,none⟩,
 ⟨some 23,.ext (.t 19) 1,none⟩,
 ⟨some 5,.mv (.t 22),none⟩,
 ⟨some 6,.mv (.t 23),none⟩] [0,1,5,6])
 .skip))
 (.seq (.seq (.ops [
 ⟨some 24,.mv (.t 1),none⟩,
 ⟨some 25,.mv (.t 5),none⟩,
 ⟨some 26,.call 165 [.t 24,.t 25],none⟩,
 ⟨some 27,.un .not (.t 26),none⟩] [0,1,6,27])
 (.cond (.t 27)
 (.exit 0)
 .skip))
 (.ops [
 ⟨some 28,.mv (.t 0),none⟩,
 ⟨some 29,.mv (.t 0),none⟩,
 ⟨some 30,.lenS (.t 29),none⟩,
 ⟨some 31,.mv (.t 6),none⟩,
 ⟨some 32,.bin .sub (.t 30) (.t 31),none⟩,
 ⟨some 33,.slSl 1 (.t 28) none (some (.t 32)) none,none⟩,
 ⟨some 0,.mv (.t 33),none⟩] [0,1])))
def ir_bytes_trimRightUnicode : AFunc := ⟨2,35,[.tmp 4],
 (.seq (.ops [
 ⟨some 4,.mv (.c (.slice none 0 0)),none⟩] [0,1])
 (.seq (.block 0 (.loop (.seq (.seq (.ops [
 ⟨some 7,.mv (.t 0),none⟩,
 ⟨some 8,.lenS (.t 7),none⟩,
 ⟨some 9,.bin .gtr (.t 8) (.c (.int .i64 0)),none⟩] [0,1,9])
 (.cond (.t 9)
 .skip
 (.exit 0)))
 (.block 1 (.seq (.ops [
 ⟨some 10,.mv (.t 0),none⟩,
 ⟨some 11,.mv (.t 0),none⟩,
 ⟨some 12,.lenS (.t 11),none⟩,
 ⟨some 13,.bin .sub (.t 12) (.c (.int .i64 1)),none⟩,
 ⟨some 14,.iaddrS 1 (.t 10) (.t 13),none⟩,
 ⟨some 15,.load none (.t 14),none⟩,
 ⟨some 16,.conv .i32 (.t 15),none⟩,
 ⟨some 5,.mv (.t 16),none⟩,
 ⟨some 6,.mv (.c (.int .i64 1)),none⟩] [0,1,5,6])
 ir_bytes_trimRightUnicode_17)))))
 (.seq (.ops [
 ⟨some 34,.mv (.t 0),none⟩,
 ⟨some 4,.mv (.t 34),none⟩] [4])
 .ret)))⟩

def h_bytes_asciiSet_contains : Hint := [(0,[0,1],[]),(1,[4],[])]
def ir_bytes_asciiSet_contains : AFunc := ⟨2,10,[.tmp 4],
 (.seq (.ops [
 ⟨some 4,.mv (.c (.bool false)),none⟩] [0,1])
 (.seq (.ops [
 ⟨some 5,.mv (.t 0),none⟩,
 ⟨some 6,.mv (.t 1),none⟩,
 ⟨some 7,.nilc (.t 5),none⟩,
 ⟨some 8,.iaddrA 256 1 (.t 7) (.t 6),none⟩,
 ⟨some 9,.load none (.t 8),none⟩,
 ⟨some 4,.mv (.t 9),none⟩] [4])
 .ret))⟩

def h_unicode_utf8_DecodeLastRune : Hint := [(0,[0],[]),(1,[0,4],[]),(2,[0,4,10],[]),(3,[2,3],[]),(4,[0,4,5],[]),(5,[0,2,4,5],[]),(6,[0,2,4,5,19],[]),(7,[2,3],[]),(8,[0,4,5,6],[]),(9,[0,4,5,6],[]),(10,[0,4,5,6,28],[]),(11,[0,4,5,6],[]),(12,[0,4,5,6,35],[]),(13,[0,4,5,37],[]),(14,[0,4,5],[]),(15,[2,3,4,5],[]),(16,[2,3,50],[]),(17,[2,3],[]),(18,[2,3],[])]
def ir_unicode_utf8_DecodeLastRune_36 : ACode := (.seq (.seq (.ops [
 ⟨some 36,.mv (.t 5),none⟩,
 ⟨some 37,.bin .lss (.t 36) (.c (.int .i64 0)),none⟩] [0,4,5,37])
 (.cond (.t 37)
 (.ops [
 ⟨some 5,.mv (.c (.int .i64 0)),none⟩] [0,4,5])
 .skip))
 (.seq (.ops [
 ⟨some 39,.mv (.t 0),none⟩,
 ⟨some 40,.mv (.t 5),none⟩,
 ⟨some 41,.mv (.t 4),none⟩,
 ⟨some 42,.slSl 1 (.t 39) (some (.t 40)) (some (.t 41)) none,none⟩,
 ⟨some 43,.call 167 [.t 42],none⟩,
 ⟨some 38,.mv (.t 43),none⟩,
 ⟨some 44,.ext (.t 38) 0,none⟩,
 ⟨some 45,.ext (.t 38) 1,none⟩,
 ⟨some 2,.mv (.t 44),none⟩,
 ⟨some 3,.mv (.t 45),none⟩] [2,3,4,5])
 (.seq (.seq (.ops [
 ⟨some 46,.mv (.t 5),none⟩,
 ⟨some 47,.mv (.t 3),none⟩,
 ⟨some 48,.bin .add (.t 46) (.t 47),none⟩,
 ⟨some 49,.mv (.t 4),none⟩,
 ⟨some 50,.bin .neq (.t 48) (.t 49),none⟩] [2,3,50])
 (.cond (.t 50)
 (.seq (.ops [
 ⟨some 2,.mv (.c (.int .i32 65533)),none⟩,
 ⟨some 3,.mv (.c (.int .i64 1)),none⟩] [2,3])
 .ret)
 .skip))
 (.seq (.ops [
 ⟨some 51,.mv (.t 2),none⟩,
 ⟨some 52,.mv (.t 3),none⟩,
 ⟨some 2,.mv (.t 51),none⟩,
 ⟨some 3,.mv (.t 52),none⟩] [2,3])
 .ret))))
def ir_unicode_utf8_DecodeLastRune_21 : ACode := (.seq (.ops [
 ⟨some 21,.mv (.t 4),none⟩,
 ⟨some 22,.bin .sub (.t 21) (.c (.int .i64 4)),none⟩,
 ⟨some 23,.mx (.t 22) (.c (.int .i64 0)),none⟩,
 ⟨some 6,.mv (.t 23),none⟩] [0,4,5,6])
 (.seq (.seq (.ops [
 ⟨some 24,.mv (.t 5),none⟩,
 ⟨some 25,.bin .sub (.t 24) (.c (.int .i64 1)),none⟩,
 ⟨some 5,.mv (.t 25),none⟩] [0,4,5,6])
 (.block 0 (.loop (.seq (.seq (.ops [
 ⟨some 26,.mv (.t 5),none⟩,
 ⟨some 27,.mv (.t 6),none⟩,
 ⟨some 28,.bin .geq (.t 26) (.t 27),none⟩] [0,4,5,6,28])
 (.cond (.t 28)
 .skip
 (.exit 0)))
 (.seq (.block 1 (.seq (.ops [
 ⟨some 31,.mv (.t 0),none⟩,
 ⟨some 32,.mv (.t 5),none⟩,
 ⟨some 33,.iaddrS 1 (.t 31) (.t 32),none⟩,
 ⟨some 34,.load none (.t 33),none⟩,
 ⟨some 35,.call 166 [.t 34],none⟩] [0,4,5,6,35])
 (.cond (.t 35)
 (.exit 0)
 .skip)))
 (.ops [
 ⟨some 29,.mv (.t 5),none⟩,
 ⟨some 30,.bin .sub (.t 29) (.c (.int .i64 1)),none⟩,
 ⟨some 5,.mv (.t 30),none⟩] [0,4,5,6]))))))
 ir_unicode_utf8_DecodeLastRune_36))
def ir_unicode_utf8_DecodeLastRune : AFunc := ⟨1,53,[.tmp 2,.tmp 3],
 (.seq (.ops [
 ⟨some 2,.mv (.c (.int .i32 0)),none⟩,
 ⟨some 3,.mv (.c (.int .i64 0)),none⟩] [0])
 (.seq (.ops [
 ⟨some 7,.mv (.t 0),none⟩,
 ⟨some 8,.lenS (.t 7),none⟩,
 ⟨some 4,.mv (.t 8),none⟩] [0,4])
 (.seq (.seq (.ops [
 ⟨some 9,.mv (.t 4),none⟩,
 ⟨some 10,.bin .eql (.t 9) (.c (.int .i64 0)),none⟩] [0,4,10])
 (.cond (.t 10)
 (.seq (.ops [
 ⟨some 2,.mv (.c (.int .i32 65533)),none⟩,
 ⟨some 3,.mv (.c (.int .i64 0)),none⟩] [2,3])
 .ret)
 .skip))
 (.seq (.ops [
 ⟨some 11,.mv (.t 4),none⟩,
 ⟨some 12,.bin .sub (.t 11) (.c (.int .i64 1)),none⟩,
 ⟨some 5,.mv (.t 12),none⟩] [0,4,5])
 (.seq (.ops [
 ⟨some 13,.mv (.t 0),none⟩,
 ⟨some 14,.mv (.t 5),none⟩,
 ⟨some 15,.iaddrS 1 (.t 13) (.t 14),none⟩,
 ⟨some 16,.load none (.t 15),none⟩,
 ⟨some 17,.conv .i32 (.t 16),none⟩,
 ⟨some 2,.mv (.t 17),none⟩] [0,2,4,5])
 (.seq (.seq (.ops [
 ⟨some 18,.mv (.t 2),none⟩,
 ⟨some 19,.bin .lss (.t 18) (.c (.int .i32 128)),none⟩] [0,2,4,5,19])
 (.cond (.t 19)
 (.seq (.ops [
 ⟨some 20,.mv (.t 2),none⟩,
 ⟨some 2,.mv (.t 20),none⟩,
 ⟨some 3,.mv (.c (.int .i64 1)),none⟩] [2,3])
 .ret)
 .skip))
 ir_unicode_utf8_DecodeLastRune_21))))))⟩

def h_bytes_containsRune : Hint := [(0,[0,1],[]),(1,[1,8],[]),(2,[1,8,9,10],[]),(3,[1,6,8],[]),(4,[1,8,14],[]),(5,[4],[]),(6,[4],[])]
def ir_bytes_containsRune : AFunc := ⟨2,15,[.tmp 4],
 (.seq (.ops [
 ⟨some 4,.mv (.c (.bool false)),none⟩] [0,1])
 (.seq (.seq (.ops [
 ⟨some 7,.mv (.t 0),none⟩,
 ⟨some 8,.bad,none⟩] [1,8])
 (.block 0
 (.loop
 (.seq (.ops [
 ⟨some 9,.bad,none⟩,
 ⟨some 10,.ext (.t 9) 0,none⟩] [1,8,9,10])
 (.seq (.cond (.t 10)
 .skip
 (.exit 0))
 (.block 1
 (.seq (.ops [
 ⟨some 11,.ext (.t 9) 2,none⟩,
 ⟨some 6,.mv (.t 11),none⟩] [1,6,8])
 (.seq (.ops [
 ⟨some 12,.mv (.t 6),none⟩,
 ⟨some 13,.mv (.t 1),none⟩,
 ⟨some 14,.bin .eql (.t 12) (.t 13),none⟩] [1,8,14])
 (.cond (.t 14)
 (.seq (.ops [
 ⟨some 4,.mv (.c (.bool true)),none⟩] [4])
 .ret)
 .skip)))))))))
 (.seq (.ops [
 ⟨some 4,.mv (.c (.bool false)),none⟩] [4])
 .ret)))⟩

def h_unicode_utf8_RuneStart : Hint := [(0,[0],[]),(1,[2],[])]
def ir_unicode_utf8_RuneStart : AFunc := ⟨1,6,[.tmp 2],
 (.seq (.ops [
 ⟨some 2,.mv (.c (.bool false)),none⟩] [0])
 (.seq (.ops [
 ⟨some 3,.mv (.t 0),none⟩,
 ⟨some 4,.bin .and (.t 3) (.c (.int .u8 192)),none⟩,
 ⟨some 5,.bin .neq (.t 4) (.c (.int .u8 128)),none⟩,
 ⟨some 2,.mv (.t 5),none⟩] [2])
 .ret))⟩

def h_unicode_utf8_DecodeRune : Hint := [(0,[0],[]),(1,[0,6,7,8],[]),(2,[0,6,8,9],[]),(3,[0,5],[]),(4,[0,5,13],[]),(5,[2,3],[]),(6,[0,6,7,8],[]),(7,[2,3],[])]
def ir_unicode_utf8_DecodeRune_18 : ACode := (.seq (.ops [
 ⟨some 18,.mv (.t 0),none⟩,
 ⟨some 19,.call 168 [.t 18],none⟩,
 ⟨some 17,.mv (.t 19),none⟩,
 ⟨some 20,.ext (.t 17) 0,none⟩,
 ⟨some 21,.ext (.t 17) 1,none⟩,
 ⟨some 2,.mv (.t 20),none⟩,
 ⟨some 3,.mv (.t 21),none⟩] [2,3])
 .ret)
def ir_unicode_utf8_DecodeRune : AFunc := ⟨1,22,[.tmp 2,.tmp 3],
 (.seq (.ops [
 ⟨some 2,.mv (.c (.int .i32 0)),none⟩,
 ⟨some 3,.mv (.c (.int .i64 0)),none⟩] [0])
 (.seq (.seq (.ops [
 ⟨some 6,.mv (.t 0),none⟩,
 ⟨some 7,.lenS (.t 6),none⟩,
 ⟨some 8,.mv (.c (.int .i64 0)),none⟩] [0,6,7,8])
 (.block 0 (.loop (.seq (.ops [
 ⟨some 9,.bin .lss (.t 8) (.t 7),none⟩] [0,6,8,9])
 (.seq (.cond (.t 9)
 .skip
 (.exit 0))
 (.seq (.block 1 (.seq (.ops [
 ⟨some 10,.iaddrS 1 (.t 6) (.t 8),none⟩,
 ⟨some 11,.load none (.t 10),none⟩,
 ⟨some 5,.mv (.t 11),none⟩] [0,5])
 (.seq (.seq (.ops [
 ⟨some 12,.mv (.t 5),none⟩,
 ⟨some 13,.bin .lss (.t 12) (.c (.int .u8 128)),none⟩] [0,5,13])
 (.cond (.t 13)
 (.seq (.ops [
 ⟨some 14,.mv (.t 5),none⟩,
 ⟨some 15,.conv .i32 (.t 14),none⟩,
 ⟨some 2,.mv (.t 15),none⟩,
 ⟨some 3,.mv (.c (.int .i64 1)),none⟩] [2,3])
 .ret)
 .skip))
 (.exit 0))))
 (.ops [
 ⟨some 16,.bin .add (.t 8) (.c (.int .i64 1)),none⟩,
 ⟨some 8,.mv (.t 16),none⟩] [0,6,7,8])))))))
 ir_unicode_utf8_DecodeRune_18))⟩

def h_unicode_utf8_decodeRuneSlow : Hint := [(0,[0],[]),(1,[0,4],[]),(2,[0,4,16],[]),(3,[2,3],[]),(4,[0,4,5],[]),(5,[0,4,5,6],[]),(6,[0,4,5,6,24],[]),(7,[0,7],[]),(8,[2,3],[]),(9,[0,4,5,6,8],[]),(10,[0,4,5,8,9],[]),(11,[0,5,8,9,47],[]),(12,[2,3],[]),(13,[0,5,8,9,10],[]),(14,[0,5,8,10,60],[]),(15,[2,3],[]),(16,[0,5,8,10,62],[]),(17,[2,3],[]),(18,[0,5,8,10,11],[]),(19,[0,5,8,10,11,79],[]),(20,[2,3],[]),(21,[0,5,10,11,81],[]),(22,[2,3],[]),(23,[5,10,11,12],[]),(24,[5,10,11,12,103],[]),(25,[2,3],[]),(26,[2,3],[])]
def ir_unicode_utf8_decodeRuneSlow : AFunc := ⟨1,122,[.tmp 2,.tmp 3],
 (.seq (.ops [
 ⟨some 2,.mv (.c (.int .i32 0)),none⟩,
 ⟨some 3,.mv (.c (.int .i64 0)),none⟩] [0])
 (.seq (.ops [
 ⟨some 13,.mv (.t 0),none⟩,
 ⟨some 14,.lenS (.t 13),none⟩,
 ⟨some 4,.mv (.t 14),none⟩] [0,4])
 (.seq (.seq (.ops [
 ⟨some 15,.mv (.t 4),none⟩,
 ⟨some 16,.bin .lss (.t 15) (.c (.int .i64 1)),none⟩] [0,4,16])
 (.cond (.t 16)
 (.seq (.ops [
 ⟨some 2,.mv (.c (.int .i32 65533)),none⟩,
 ⟨some 3,.mv (.c (.int .i64 0)),none⟩] [2,3])
 .ret)
 .skip))
 (.seq (.ops [
 ⟨some 17,.mv (.t 0),none⟩,
 ⟨some 18,.iaddrS 1 (.t 17) (.c (.int .i64 0)),none⟩,
 ⟨some 19,.load none (.t 18),none⟩,
 ⟨some 5,.mv (.t 19),none⟩] [0,4,5])
 (.seq (.ops [
 ⟨some 20,.mv (.t 5),none⟩,
 ⟨some 21,.bad,none⟩,
 ⟨some 22,.load none (.t 21),none⟩,
 ⟨some 6,.mv (.t 22),none⟩] [0,4,5,6])
 (.seq (.seq (.ops [
 ⟨some 23,.mv (.t 6),none⟩,
 ⟨some 24,.bin .geq (.t 23) (.c (.int .u8 240)),none⟩] [0,4,5,6,24])
 (.cond (.t 24)
 (.seq (.ops [
 ⟨some 25,.mv (.t 6),none⟩,
 ⟨some 26,.conv .i32 (.t 25),none⟩,
 ⟨some 27,.bin .shl (.t 26) (.c (.int .u64 31)),none⟩,
 ⟨some 28,.bin .shr (.t 27) (.c (.int .u64 31)),none⟩,
 ⟨some 7,.mv (.t 28),none⟩] [0,7])
 (.seq (.ops [
 ⟨some 29,.mv (.t 0),none⟩,
 ⟨some 30,.iaddrS 1 (.t 29) (.c (.int .i64 0)),none⟩,
 ⟨some 31,.load none (.t 30),none⟩,
 ⟨some 32,.conv .i32 (.t 31),none⟩,
 ⟨some 33,.mv (.t 7),none⟩,
 ⟨some 34,.bin .andNot (.t 32) (.t 33),none⟩,
 ⟨some 35,.mv (.t 7),none⟩,
 ⟨some 36,.bin .and (.c (.int .i32 65533)) (.t 35),none⟩,
 ⟨some 37,.bin .or (.t 34) (.t 36),none⟩,
 ⟨some 2,.mv (.t 37),none⟩,
 ⟨some 3,.mv (.c (.int .i64 1)),none⟩] [2,3])
 .ret))
 .skip))
 (.seq (.ops [
 ⟨some 38,.mv (.t 6),none⟩,
 ⟨some 39,.bin .and (.t 38) (.c (.int .u8 7)),none⟩,
 ⟨some 40,.conv .i64 (.t 39),none⟩,
 ⟨some 8,.mv (.t 40),none⟩] [0,4,5,6,8])
 (.seq (.ops [
 ⟨some 41,.mv (.t 6),none⟩,
 ⟨some 42,.bin .shr (.t 41) (.c (.int .u64 4)),none⟩,
 ⟨some 43,.bad,none⟩,
 ⟨some 44,.load (some 2) (.t 43),none⟩,
 ⟨some 9,.alloc ([.int .u8 0,.int .u8 0]),none⟩,
 ⟨none,.store 2 (.t 9) (.t 44),none⟩] [0,4,5,8,9])
 (.seq (.seq (.ops [
 ⟨some 45,.mv (.t 4),none⟩,
 ⟨some 46,.mv (.t 8),none⟩,
 ⟨some 47,.bin .lss (.t 45) (.t 46),none⟩] [0,5,8,9,47])
 (.cond (.t 47)
 (.seq (.ops [
 ⟨some 2,.mv (.c (.int .i32 65533)),none⟩,
 ⟨some 3,.mv (.c (.int .i64 1)),none⟩] [2,3])
 .ret)
 .skip))
 (.seq (.ops [
 ⟨some 48,.mv (.t 0),none⟩,
 ⟨some 49,.iaddrS 1 (.t 48) (.c (.int .i64 1)),none⟩,
 ⟨some 50,.load none (.t 49),none⟩,
 ⟨some 10,.mv (.t 50),none⟩] [0,5,8,9,10])
 (.seq (.seq (.ops [
 ⟨some 51,.mv (.t 10),none⟩,
 ⟨some 52,.faddr 0 (.t 9),none⟩,
 ⟨some 53,.load none (.t 52),none⟩,
 ⟨some 54,.bin .lss (.t 51) (.t 53),none⟩,
 ⟨some 55,.mv (.t 54),none⟩,
 ⟨some 56,.faddr 1 (.t 9),(some (55,false))⟩,
 ⟨some 57,.load none (.t 56),(some (55,false))⟩,
 ⟨some 58,.mv (.t 10),(some (55,false))⟩,
 ⟨some 59,.bin .lss (.t 57) (.t 58),(some (55,false))⟩,
 ⟨some 60,.pick (.t 55) (.c (.bool true)) (.t 59),none⟩] [0,5,8,10,60])
 (.cond (.t 60)
 (.seq (.ops [
 ⟨some 2,.mv (.c (.int .i32 65533)),none⟩,
 ⟨some 3,.mv (.c (.int .i64 1)),none⟩] [2,3])
 .ret)
 .skip))
 (.seq (.seq (.ops [
 ⟨some 61,.mv (.t 8),none⟩,
 ⟨some 62,.bin .leq (.t 61) (.c (.int .i64 2)),none⟩] [0,5,8,10,62])
 (.cond (.t 62)
 (.seq (.ops [
 ⟨some 63,.mv (.t 5),none⟩,
 ⟨some 64,.bin .and (.t 63) (.c (.int .u8 31)),none⟩,
 ⟨some 65,.conv .i32 (.t 64),none⟩,
 ⟨some 66,.bin .shl (.t 65) (.c (.int .u64 6)),none⟩,
 ⟨some 67,.mv (.t 10),none⟩,
 ⟨some 68,.bin .and (.t 67) (.c (.int .u8 63)),none⟩,
 ⟨some 69,.conv .i32 (.t 68),none⟩,
 ⟨some 70,.bin .or (.t 66) (.t 69),none⟩,
 ⟨some 2,.mv (.t 70),none⟩,
 ⟨some 3,.mv (.c (.int .i64 2)),none⟩] [2,3])
 .ret)
 .skip))
 (.seq (.ops [
 ⟨some 71,.mv (.t 0),none⟩,
 ⟨some 72,.iaddrS 1 (.t 71) (.c (.int .i64 2)),none⟩,
 ⟨some 73,.load none (.t 72),none⟩,
 ⟨some 11,.mv (.t 73),none⟩] [0,5,8,10,11])
 (.seq (.seq (.ops [
 ⟨some 74,.mv (.t 11),none⟩,
 ⟨some 75,.bin .lss (.t 74) (.c (.int .u8 128)),none⟩,
 ⟨some 76,.mv (.t 75),none⟩,
 ⟨some 77,.mv (.t 11),(some (76,false))⟩,
 ⟨some 78,.bin .lss (.c (.int .u8 191)) (.t 77),(some (76,false))⟩,
 ⟨some 79,.pick (.t 76) (.c (.bool true)) (.t 78),none⟩] [0,5,8,10,11,79])
 (.cond (.t 79)
 (.seq (.ops [
 ⟨some 2,.mv (.c (.int .i32 65533)),none⟩,
 ⟨some 3,.mv (.c (.int .i64 1)),none⟩] [2,3])
 .ret)
 .skip))
 (.seq (.seq (.ops [
 ⟨some 80,.mv (.t 8),none⟩,
 ⟨some 81,.bin .leq (.t 80) (.c (.int .i64 3)),none⟩] [0,5,10,11,81])
 (.cond (.t 81)
 (.seq (.ops [
 ⟨some 82,.mv (.t 5),none⟩,
 ⟨some 83,.bin .and (.t 82) (.c (.int .u8 15)),none⟩,
 ⟨some 84,.conv .i32 (.t 83),none⟩,
 ⟨some 85,.bin .shl (.t 84) (.c (.int .u64 12)),none⟩,
 ⟨some 86,.mv (.t 10),none⟩,
 ⟨some 87,.bin .and (.t 86) (.c (.int .u8 63)),none⟩,
 ⟨some 88,.conv .i32 (.t 87),none⟩,
 ⟨some 89,.bin .shl (.t 88) (.c (.int .u64 6)),none⟩,
 ⟨some 90,.bin .or (.t 85) (.t 89),none⟩,
 ⟨some 91,.mv (.t 11),none⟩,
 ⟨some 92,.bin .and (.t 91) (.c (.int .u8 63)),none⟩,
 ⟨some 93,.conv .i32 (.t 92),none⟩,
 ⟨some 94,.bin .or (.t 90) (.t 93),none⟩,
 ⟨some 2,.mv (.t 94),none⟩,
 ⟨some 3,.mv (.c (.int .i64 3)),none⟩] [2,3])
 .ret)
 .skip))
 (.seq (.ops [
 ⟨some 95,.mv (.t 0),none⟩,
 ⟨some 96,.iaddrS 1 (.t 95) (.c (.int .i64 3)),none⟩,
 ⟨some 97,.load none (.t 96),none⟩,
 ⟨some 12,.mv (.t 97),none⟩] [5,10,11,12])
 (.seq (.seq (.ops [
 ⟨some 98,.mv (.t 12),none⟩,
 ⟨some 99,.bin .lss (.t 98) (.c (.int .u8 128)),none⟩,
 ⟨some 100,.mv (.t 99),none⟩,
 ⟨some 101,.mv (.t 12),(some (100,false))⟩,
 ⟨some 102,.bin .lss (.c (.int .u8 191)) (.t 101),(some (100,false))⟩,
 ⟨some 103,.pick (.t 100) (.c (.bool true)) (.t 102),none⟩] [5,10,11,12,103])
 (.cond (.t 103)
 (.seq (.ops [
 ⟨some 2,.mv (.c (.int .i32 65533)),none⟩,
 ⟨some 3,.mv (.c (.int .i64 1)),none⟩] [2,3])
 .ret)
 .skip))
 (.seq (.ops [
 ⟨some 104,.mv (.t 5),none⟩,
 ⟨some 105,.bin .and (.t 104) (.c (.int .u8 7)),none⟩,
 ⟨some 106,.conv .i32 (.t 105),none⟩,
 ⟨some 107,.bin .shl (.t 106) (.c (.int .u64 18)),none⟩,
 ⟨some 108,.mv (.t 10),none⟩,
 ⟨some 109,.bin .and (.t 108) (.c (.int .u8 63)),none⟩,
 ⟨some 110,.conv .i32 (.t 109),none⟩,
 ⟨some 111,.bin .shl (.t 110) (.c (.int .u64 12)),none⟩,
 ⟨some 112,.bin .or (.t 107) (.t 111),none⟩,
 ⟨some 113,.mv (.t 11),none⟩,
 ⟨some 114,.bin .and (.t 113) (.c (.int .u8 63)),none⟩,
 ⟨some 115,.conv .i32 (.t 114),none⟩,
 ⟨some 116,.bin .shl (.t 115) (.c (.int .u64 6)),none⟩,
 ⟨some 117,.bin .or (.t 112) (.t 116),none⟩,
 ⟨some 118,.mv (.t 12),none⟩,
 ⟨some 119,.bin .and (.t 118) (.c (.int .u8 63)),none⟩,
 ⟨some 120,.conv .i32 (.t 119),none⟩,
 ⟨some 121,.bin .or (.t 117) (.t 120),none⟩,
 ⟨some 2,.mv (.t 121),none⟩,
 ⟨some 3,.mv (.c (.int .i64 4)),none⟩] [2,3])
 .ret))))))))))))))))))⟩

def h_epoch_Nonce : Hint := [(0,[0,1,4],[]),(1,[4],[])]
def ir_epoch_Nonce : AFunc := ⟨2,13,[.cell 4 (some 12)],
 (.seq (.ops [
 ⟨some 4,.alloc (List.replicate 12 (.int .u8 0)),none⟩] [0,1,4])
 (.seq (.ops [
 ⟨some 5,.mv (.t 0),none⟩,
 ⟨some 6,.conv .u64 (.t 5),none⟩,
 ⟨some 7,.call 61 [.c (.slice none 0 0),.t 6,.c (.int .i64 4)],none⟩,
 ⟨some 8,.mv (.t 1),none⟩,
 ⟨some 9,.conv .u64 (.t 8),none⟩,
 ⟨some 10,.call 61 [.t 7,.t 9,.c (.int .i64 8)],none⟩,
 ⟨some 11,.arrOf 12 (.t 10),none⟩,
 ⟨some 12,.load (some 12) (.t 11),none⟩,
 ⟨none,.store 12 (.t 4) (.t 12),none⟩] [4])
 .ret))⟩

def h_epoch_New : Hint := [(0,[],[]),(1,[0],[])]
def ir_epoch_New : AFunc := ⟨0,4,[.tmp 0],
 (.seq (.ops [
 ⟨some 0,.mv (.c (.pointer none)),none⟩] [])
 (.seq (.ops [
 ⟨some 1,.mmap,none⟩,
 ⟨some 2,.build ([.map none]) [(0,1,.t 1)],none⟩,
 ⟨some 3,.box (.t 2),none⟩,
 ⟨some 0,.mv (.t 3),none⟩] [0])
 .ret))⟩

def h_epoch_Ring_Put : Hint := [(0,[0,1,5],[]),(1,[0,1,5,11],[]),(2,[6],[]),(3,[0,1,5,7,8],[]),(4,[0,1,5,7,21],[]),(5,[24],[]),(6,[6],[]),(7,[6],[]),(8,[0,1,5,30],[]),(9,[6],[]),(10,[],[(0,0),(1,0),(2,0),(3,0),(4,0),(5,0),(6,0)]),(11,[6],[])]
def ir_epoch_Ring_Put_25 : ACode := (.seq (.seq (.ops [
 ⟨some 25,.mv (.t 0),none⟩,
 ⟨some 26,.nilc (.t 25),none⟩,
 ⟨some 27,.faddr 0 (.t 26),none⟩,
 ⟨some 28,.load none (.t 27),none⟩,
 ⟨some 29,.lenM (.t 28),none⟩,
 ⟨some 30,.bin .geq (.t 29) (.c (.int .i64 500)),none⟩] [0,1,5,30])
 (.cond (.t 30)
 (.seq (.ops [
 ⟨some 6,.mv (.c (.int .i64 2)),none⟩] [6])
 .ret)
 .skip))
 (.seq (.dops [
 ⟨0,some 31,.mv (.t 0),none,0⟩,
 ⟨1,some 32,.nilc (.t 31),none,0⟩,
 ⟨2,some 33,.faddr 0 (.t 32),none,0⟩,
 ⟨3,some 34,.load none (.t 33),none,0⟩,
 ⟨4,some 35,.mv (.t 1),none,0⟩,
 ⟨5,some 36,.load (some 32) (.t 5),none,0⟩,
 ⟨6,none,.mupd .int (.t 34) (.t 35) (.t 36),none,0⟩] [])
 (.seq (.ops [
 ⟨some 6,.mv (.c (.int .i64 0)),none⟩] [6])
 .ret)))
def ir_epoch_Ring_Put_13 : ACode := (.seq (.seq (.ops [
 ⟨some 13,.mv (.t 0),none⟩,
 ⟨some 14,.nilc (.t 13),none⟩,
 ⟨some 15,.faddr 0 (.t 14),none⟩,
 ⟨some 16,.load none (.t 15),none⟩,
 ⟨some 17,.mv (.t 1),none⟩,
 ⟨some 18,.lookup .int (.agg (List.replicate 32 (.int .u8 0) : List Value).toArray) true (.t 16) (.t 17),none⟩,
 ⟨some 12,.mv (.t 18),none⟩,
 ⟨some 19,.ext (.t 12) 0,none⟩,
 ⟨some 20,.ext (.t 12) 1,none⟩,
 ⟨some 7,.alloc (List.replicate 32 (.int .u8 0)),none⟩,
 ⟨none,.store 32 (.t 7) (.t 19),none⟩,
 ⟨some 8,.mv (.t 20),none⟩] [0,1,5,7,8])
 (.seq (.ops [
 ⟨some 21,.mv (.t 8),none⟩] [0,1,5,7,21])
 (.cond (.t 21)
 (.seq (.seq (.ops [
 ⟨some 22,.load (some 32) (.t 7),none⟩,
 ⟨some 23,.load (some 32) (.t 5),none⟩,
 ⟨some 24,.eqa (List.replicate 32 (some .u8)) true (.t 22) (.t 23),none⟩] [24])
 (.cond (.t 24)
 (.seq (.ops [
 ⟨some 6,.mv (.c (.int .i64 5)),none⟩] [6])
 .ret)
 .skip))
 (.seq (.ops [
 ⟨some 6,.mv (.c (.int .i64 0)),none⟩] [6])
 .ret))
 .skip)))
 ir_epoch_Ring_Put_25)
def ir_epoch_Ring_Put : AFunc := ⟨3,37,[.tmp 6],
 (.seq (.ops [
 ⟨some 5,.box (.t 2),none⟩,
 ⟨some 6,.mv (.c (.int .i64 0)),none⟩] [0,1,5])
 (.seq (.seq (.ops [
 ⟨some 9,.mv (.t 1),none⟩,
 ⟨some 10,.call 188 [.t 9],none⟩,
 ⟨some 11,.un .not (.t 10),none⟩] [0,1,5,11])
 (.cond (.t 11)
 (.seq (.ops [
 ⟨some 6,.mv (.c (.int .i64 1)),none⟩] [6])
 .ret)
 .skip))
 ir_epoch_Ring_Put_13))⟩

def h_epoch_Ring_Get : Hint := [(0,[0,1,4],[]),(1,[4,6,7],[]),(2,[4,5],[])]
def ir_epoch_Ring_Get : AFunc := ⟨2,19,[.cell 4 (some 32),.tmp 5],
 (.seq (.ops [
 ⟨some 4,.alloc (List.replicate 32 (.int .u8 0)),none⟩,
 ⟨some 5,.mv (.c (.bool false)),none⟩] [0,1,4])
 (.seq (.ops [
 ⟨some 9,.mv (.t 0),none⟩,
 ⟨some 10,.nilc (.t 9),none⟩,
 ⟨some 11,.faddr 0 (.t 10),none⟩,
 ⟨some 12,.load none (.t 11),none⟩,
 ⟨some 13,.mv (.t 1),none⟩,
 ⟨some 14,.lookup .int (.agg (List.replicate 32 (.int .u8 0) : List Value).toArray) true (.t 12) (.t 13),none⟩,
 ⟨some 8,.mv (.t 14),none⟩,
 ⟨some 15,.ext (.t 8) 0,none⟩,
 ⟨some 16,.ext (.t 8) 1,none⟩,
 ⟨some 6,.alloc (List.replicate 32 (.int .u8 0)),none⟩,
 ⟨none,.store 32 (.t 6) (.t 15),none⟩,
 ⟨some 7,.mv (.t 16),none⟩] [4,6,7])
 (.seq (.ops [
 ⟨some 17,.load (some 32) (.t 6),none⟩,
 ⟨some 18,.mv (.t 7),none⟩,
 ⟨none,.store 32 (.t 4) (.t 17),none⟩,
 ⟨some 5,.mv (.t 18),none⟩] [4,5])
 .ret)))⟩

def h_bandboxref19_Ring_Put : Hint := [(0,[0,1,5],[]),(1,[0,1,5,10],[]),(2,[6],[]),(3,[0,1,5,7],[]),(4,[0,1,5,7,17],[]),(5,[0,1,5,7],[]),(6,[0,1,5,7,29],[]),(7,[39],[(0,0),(1,0),(2,0),(3,0),(4,0),(5,0),(6,0),(7,0),(8,0),(9,0)]),(8,[6],[]),(9,[6],[]),(10,[0,1,5,45],[]),(11,[6],[]),(12,[],[(1,0),(2,0),(3,0),(4,0),(5,0),(6,0),(7,1),(8,1),(9,1),(10,0),(11,0),(0,2),(12,0),(13,0),(14,0)]),(13,[6],[])]
def ir_bandboxref19_Ring_Put_47 : ACode := (.seq (.dops [
 ⟨1,some 47,.bslice 0 33 (([.int .i64 0] ++ List.replicate 32 (.int .u8 0))) [],none,0⟩,
 ⟨2,some 48,.mv (.t 0),none,0⟩,
 ⟨3,some 49,.nilc (.t 48),none,0⟩,
 ⟨4,some 50,.faddr 0 (.t 49),none,0⟩,
 ⟨5,some 51,.load none (.t 50),none,0⟩,
 ⟨6,some 52,.append 33 40 (.t 47) (.t 51),none,0⟩,
 ⟨7,some 53,.mv (.t 1),none,1⟩,
 ⟨8,some 54,.load (some 32) (.t 5),none,1⟩,
 ⟨9,some 55,.build (([.int .i64 0] ++ List.replicate 32 (.int .u8 0))) [(0,1,.t 53),(1,32,.t 54)],none,1⟩,
 ⟨10,some 56,.bslice 1 33 (([.int .i64 0] ++ List.replicate 32 (.int .u8 0))) [(0,33,.t 55)],none,0⟩,
 ⟨11,some 57,.append 33 40 (.t 52) (.t 56),none,0⟩,
 ⟨0,some 46,.mv (.t 0),none,2⟩,
 ⟨12,some 58,.nilc (.t 46),none,0⟩,
 ⟨13,some 59,.faddr 0 (.t 58),none,0⟩,
 ⟨14,none,.store 1 (.t 59) (.t 57),none,0⟩] [])
 (.seq (.ops [
 ⟨some 6,.mv (.c (.int .i64 0)),none⟩] [6])
 .ret))
def ir_bandboxref19_Ring_Put_20 : ACode := (.seq (.block 1 (.seq (.ops [
 ⟨some 20,.mv (.t 0),none⟩,
 ⟨some 21,.nilc (.t 20),none⟩,
 ⟨some 22,.faddr 0 (.t 21),none⟩,
 ⟨some 23,.load none (.t 22),none⟩,
 ⟨some 24,.mv (.t 7),none⟩,
 ⟨some 25,.iaddrS 33 (.t 23) (.t 24),none⟩,
 ⟨some 26,.faddr 0 (.t 25),none⟩,
 ⟨some 27,.load none (.t 26),none⟩,
 ⟨some 28,.mv (.t 1),none⟩,
 ⟨some 29,.bin .eql (.t 27) (.t 28),none⟩] [0,1,5,7,29])
 (.cond (.t 29)
 (.seq (.seq (.dops [
 ⟨0,some 30,.mv (.t 0),none,0⟩,
 ⟨1,some 31,.nilc (.t 30),none,0⟩,
 ⟨2,some 32,.faddr 0 (.t 31),none,0⟩,
 ⟨3,some 33,.load none (.t 32),none,0⟩,
 ⟨4,some 34,.mv (.t 7),none,0⟩,
 ⟨5,some 35,.iaddrS 33 (.t 33) (.t 34),none,0⟩,
 ⟨6,some 36,.faddr 1 (.t 35),none,0⟩,
 ⟨7,some 37,.load (some 32) (.t 36),none,0⟩,
 ⟨8,some 38,.load (some 32) (.t 5),none,0⟩,
 ⟨9,some 39,.eqa (List.replicate 32 (some .u8)) false (.t 37) (.t 38),none,0⟩] [39])
 (.cond (.t 39)
 (.seq (.ops [
 ⟨some 6,.mv (.c (.int .i64 0)),none⟩] [6])
 .ret)
 .skip))
 (.seq (.ops [
 ⟨some 6,.mv (.c (.int .i64 5)),none⟩] [6])
 .ret))
 .skip)))
 (.ops [
 ⟨some 18,.mv (.t 7),none⟩,
 ⟨some 19,.bin .add (.t 18) (.c (.int .i64 1)),none⟩,
 ⟨some 7,.mv (.t 19),none⟩] [0,1,5,7]))
def ir_bandboxref19_Ring_Put_40 : ACode := (.seq (.seq (.ops [
 ⟨some 40,.mv (.t 0),none⟩,
 ⟨some 41,.nilc (.t 40),none⟩,
 ⟨some 42,.faddr 0 (.t 41),none⟩,
 ⟨some 43,.load none (.t 42),none⟩,
 ⟨some 44,.lenS (.t 43),none⟩,
 ⟨some 45,.bin .geq (.t 44) (.c (.int .i64 500)),none⟩] [0,1,5,45])
 (.cond (.t 45)
 (.seq (.ops [
 ⟨some 6,.mv (.c (.int .i64 2)),none⟩] [6])
 .ret)
 .skip))
 ir_bandboxref19_Ring_Put_47)
def ir_bandboxref19_Ring_Put : AFunc := ⟨3,60,[.tmp 6],
 (.seq (.ops [
 ⟨some 5,.box (.t 2),none⟩,
 ⟨some 6,.mv (.c (.int .i64 0)),none⟩] [0,1,5])
 (.seq (.seq (.ops [
 ⟨some 8,.mv (.t 1),none⟩,
 ⟨some 9,.call 193 [.t 8],none⟩,
 ⟨some 10,.un .not (.t 9),none⟩] [0,1,5,10])
 (.cond (.t 10)
 (.seq (.ops [
 ⟨some 6,.mv (.c (.int .i64 1)),none⟩] [6])
 .ret)
 .skip))
 (.seq (.seq (.ops [
 ⟨some 7,.mv (.c (.int .i64 0)),none⟩] [0,1,5,7])
 (.block 0 (.loop (.seq (.seq (.ops [
 ⟨some 11,.mv (.t 7),none⟩,
 ⟨some 12,.mv (.t 0),none⟩,
 ⟨some 13,.nilc (.t 12),none⟩,
 ⟨some 14,.faddr 0 (.t 13),none⟩,
 ⟨some 15,.load none (.t 14),none⟩,
 ⟨some 16,.lenS (.t 15),none⟩,
 ⟨some 17,.bin .lss (.t 11) (.t 16),none⟩] [0,1,5,7,17])
 (.cond (.t 17)
 .skip
 (.exit 0)))
 ir_bandboxref19_Ring_Put_20))))
 ir_bandboxref19_Ring_Put_40)))⟩

def h_epoch_good : Hint := [(0,[0],[]),(1,[2],[])]
def ir_epoch_good : AFunc := ⟨1,9,[.tmp 2],
 (.seq (.ops [
 ⟨some 2,.mv (.c (.bool false)),none⟩] [0])
 (.seq (.ops [
 ⟨some 3,.mv (.t 0),none⟩,
 ⟨some 4,.bin .geq (.t 3) (.c (.int .i64 0)),none⟩,
 ⟨some 5,.mv (.t 4),none⟩,
 ⟨some 6,.mv (.t 0),(some (5,true))⟩,
 ⟨some 7,.bin .leq (.t 6) (.c (.int .i64 1099511627776)),(some (5,true))⟩,
 ⟨some 8,.pick (.t 5) (.t 7) (.c (.bool false)),none⟩,
 ⟨some 2,.mv (.t 8),none⟩] [2])
 .ret))⟩

def h_vec_Dev : Hint := [(0,[0],[]),(1,[2],[])]
def ir_vec_Dev : AFunc := ⟨1,9,[.tmp 2],
 (.seq (.ops [
 ⟨some 2,.mv (.c (.bool false)),none⟩] [0])
 (.seq (.ops [
 ⟨some 3,.mv (.t 0),none⟩,
 ⟨some 4,.bin .geq (.t 3) (.c (.int .i64 0)),none⟩,
 ⟨some 5,.mv (.t 4),none⟩,
 ⟨some 6,.mv (.t 0),(some (5,true))⟩,
 ⟨some 7,.bin .lss (.t 6) (.c (.int .i64 8)),(some (5,true))⟩,
 ⟨some 8,.pick (.t 5) (.t 7) (.c (.bool false)),none⟩,
 ⟨some 2,.mv (.t 8),none⟩] [2])
 .ret))⟩

def h_bandboxref19_May : Hint := [(0,[0],[]),(1,[2],[])]
def ir_bandboxref19_May : AFunc := ⟨1,9,[.tmp 2],
 (.seq (.ops [
 ⟨some 2,.mv (.c (.bool false)),none⟩] [0])
 (.seq (.ops [
 ⟨some 3,.mv (.t 0),none⟩,
 ⟨some 4,.bin .geq (.t 3) (.c (.int .i64 0)),none⟩,
 ⟨some 5,.mv (.t 4),none⟩,
 ⟨some 6,.mv (.t 0),(some (5,true))⟩,
 ⟨some 7,.bin .leq (.t 6) (.c (.int .i64 1099511627776)),(some (5,true))⟩,
 ⟨some 8,.pick (.t 5) (.t 7) (.c (.bool false)),none⟩,
 ⟨some 2,.mv (.t 8),none⟩] [2])
 .ret))⟩

def h_op_Good : Hint := [(0,[1],[]),(1,[1,38],[(0,0),(1,0),(2,0),(3,0),(4,0),(5,0),(6,0),(7,0),(8,0),(9,0),(10,0),(11,0),(12,0),(13,0),(14,0),(15,0),(16,0),(17,0),(18,0),(19,0),(20,0),(21,0),(22,0),(23,0),(24,0),(25,0),(26,0),(27,0),(28,0),(29,0),(30,0),(31,0),(32,0),(33,0),(34,0),(35,0)]),(2,[2],[]),(3,[1,52],[]),(4,[2],[]),(5,[1,54],[]),(6,[1,54,55],[]),(7,[2],[]),(8,[1,66],[]),(9,[2],[]),(10,[2],[])]
def ir_op_Good_q : ACode := (.cond (.t 55)
 (.seq (.ops [
 ⟨some 57,.faddr 12 (.t 1),none⟩,
 ⟨some 58,.load none (.t 57),none⟩,
 ⟨some 59,.call 276 [.t 58],none⟩,
 ⟨some 60,.mv (.t 59),none⟩,
 ⟨some 61,.faddr 13 (.t 1),(some (60,true))⟩,
 ⟨some 62,.load none (.t 61),(some (60,true))⟩,
 ⟨some 63,.lenStr (.t 62),(some (60,true))⟩,
 ⟨some 64,.bin .leq (.t 63) (.c (.int .i64 200)),(some (60,true))⟩,
 ⟨some 65,.pick (.t 60) (.t 64) (.c (.bool false)),none⟩,
 ⟨some 2,.mv (.t 65),none⟩] [2])
 .ret)
 (.seq (.ops [
 ⟨some 67,.bin .eql (.t 54) (.c (.int .i64 2)),none⟩,
 ⟨some 66,.mv (.t 67),none⟩] [1,66])
 (.cond (.t 66)
 (.seq (.ops [
 ⟨some 68,.faddr 12 (.t 1),none⟩,
 ⟨some 69,.load none (.t 68),none⟩,
 ⟨some 70,.bin .eql (.t 69) (.c (.string .empty)),none⟩,
 ⟨some 71,.mv (.t 70),none⟩,
 ⟨some 72,.faddr 13 (.t 1),(some (71,true))⟩,
 ⟨some 73,.load none (.t 72),(some (71,true))⟩,
 ⟨some 74,.bin .eql (.t 73) (.c (.string .empty)),(some (71,true))⟩,
 ⟨some 75,.pick (.t 71) (.t 74) (.c (.bool false)),none⟩,
 ⟨some 2,.mv (.t 75),none⟩] [2])
 .ret)
 .skip)))
def ir_op_Good_39 : ACode := (.seq (.seq (.ops [
 ⟨some 39,.faddr 14 (.t 1),none⟩,
 ⟨some 40,.load none (.t 39),none⟩,
 ⟨some 41,.bin .lss (.t 40) (.c (.int .i64 0)),none⟩,
 ⟨some 42,.mv (.t 41),none⟩,
 ⟨some 43,.faddr 14 (.t 1),(some (42,false))⟩,
 ⟨some 44,.load none (.t 43),(some (42,false))⟩,
 ⟨some 45,.bin .gtr (.t 44) (.c (.int .i64 1099511627776)),(some (42,false))⟩,
 ⟨some 46,.pick (.t 42) (.c (.bool true)) (.t 45),none⟩,
 ⟨some 47,.mv (.t 46),none⟩,
 ⟨some 48,.faddr 11 (.t 1),(some (47,false))⟩,
 ⟨some 49,.load none (.t 48),(some (47,false))⟩,
 ⟨some 50,.call 276 [.t 49],(some (47,false))⟩,
 ⟨some 51,.un .not (.t 50),(some (47,false))⟩,
 ⟨some 52,.pick (.t 47) (.c (.bool true)) (.t 51),none⟩] [1,52])
 (.cond (.t 52)
 (.seq (.ops [
 ⟨some 2,.mv (.c (.bool false)),none⟩] [2])
 .ret)
 .skip))
 (.seq (.seq (.ops [
 ⟨some 53,.faddr 10 (.t 1),none⟩,
 ⟨some 54,.load none (.t 53),none⟩] [1,54])
 (.block 0 (.seq (.ops [
 ⟨some 56,.bin .eql (.t 54) (.c (.int .i64 1)),none⟩,
 ⟨some 55,.mv (.t 56),none⟩] [1,54,55])
 ir_op_Good_q)))
 (.seq (.ops [
 ⟨some 2,.mv (.c (.bool false)),none⟩] [2])
 .ret)))
def ir_op_Good_3 : ACode := (.seq (.seq (.dops [
 ⟨0,some 3,.faddr 0 (.t 1),none,0⟩,
 ⟨1,some 4,.faddr 0 (.t 3),none,0⟩,
 ⟨2,some 5,.load none (.t 4),none,0⟩,
 ⟨3,some 6,.call 189 [.t 5],none,0⟩,
 ⟨4,some 7,.un .not (.t 6),none,0⟩,
 ⟨5,some 8,.mv (.t 7),none,0⟩,
 ⟨6,some 9,.faddr 0 (.t 1),(some (8,false)),0⟩,
 ⟨7,some 10,.faddr 1 (.t 9),(some (8,false)),0⟩,
 ⟨8,some 11,.load none (.t 10),(some (8,false)),0⟩,
 ⟨9,some 12,.bin .lss (.t 11) (.c (.int .i64 1)),(some (8,false)),0⟩,
 ⟨10,some 13,.pick (.t 8) (.c (.bool true)) (.t 12),none,0⟩,
 ⟨11,some 14,.mv (.t 13),none,0⟩,
 ⟨12,some 15,.faddr 0 (.t 1),(some (14,false)),0⟩,
 ⟨13,some 16,.faddr 1 (.t 15),(some (14,false)),0⟩,
 ⟨14,some 17,.load none (.t 16),(some (14,false)),0⟩,
 ⟨15,some 18,.bin .gtr (.t 17) (.c (.int .i64 1099511627776)),(some (14,false)),0⟩,
 ⟨16,some 19,.pick (.t 14) (.c (.bool true)) (.t 18),none,0⟩,
 ⟨17,some 20,.mv (.t 19),none,0⟩,
 ⟨18,some 21,.faddr 2 (.t 1),(some (20,false)),0⟩,
 ⟨19,some 22,.load (some 8) (.t 21),(some (20,false)),0⟩,
 ⟨20,some 23,.call 275 [.t 22],(some (20,false)),0⟩,
 ⟨21,some 24,.un .not (.t 23),(some (20,false)),0⟩,
 ⟨22,some 25,.pick (.t 20) (.c (.bool true)) (.t 24),none,0⟩,
 ⟨23,some 26,.mv (.t 25),none,0⟩,
 ⟨24,some 27,.faddr 0 (.t 1),(some (26,false)),0⟩,
 ⟨25,some 28,.faddr 0 (.t 27),(some (26,false)),0⟩,
 ⟨26,some 29,.load none (.t 28),(some (26,false)),0⟩,
 ⟨27,some 30,.faddr 2 (.t 1),(some (26,false)),0⟩,
 ⟨28,some 31,.iaddrA 8 1 (.t 30) (.t 29),(some (26,false)),0⟩,
 ⟨29,some 32,.load none (.t 31),(some (26,false)),0⟩,
 ⟨30,some 33,.faddr 0 (.t 1),(some (26,false)),0⟩,
 ⟨31,some 34,.faddr 1 (.t 33),(some (26,false)),0⟩,
 ⟨32,some 35,.load none (.t 34),(some (26,false)),0⟩,
 ⟨33,some 36,.bin .sub (.t 35) (.c (.int .i64 1)),(some (26,false)),0⟩,
 ⟨34,some 37,.bin .neq (.t 32) (.t 36),(some (26,false)),0⟩,
 ⟨35,some 38,.pick (.t 26) (.c (.bool true)) (.t 37),none,0⟩] [1,38])
 (.cond (.t 38)
 (.seq (.ops [
 ⟨some 2,.mv (.c (.bool false)),none⟩] [2])
 .ret)
 .skip))
 ir_op_Good_39)
def ir_op_Good : AFunc := ⟨1,76,[.tmp 2],
 (.seq (.ops [
 ⟨some 1,.box (.t 0),none⟩,
 ⟨some 2,.mv (.c (.bool false)),none⟩] [1])
 ir_op_Good_3)⟩

def h_vec_Good : Hint := [(0,[1],[]),(1,[5,6],[]),(2,[5,6,7],[]),(3,[4,5,6],[]),(4,[5,6,14],[]),(5,[2],[]),(6,[5,6],[]),(7,[2],[])]
def ir_vec_Good : AFunc := ⟨1,16,[.tmp 2],
 (.seq (.ops [
 ⟨some 1,.box (.t 0),none⟩,
 ⟨some 2,.mv (.c (.bool false)),none⟩] [1])
 (.seq (.seq (.ops [
 ⟨some 5,.load (some 8) (.t 1),none⟩,
 ⟨some 6,.mv (.c (.int .i64 0)),none⟩] [5,6])
 (.block 0 (.loop (.seq (.ops [
 ⟨some 7,.bin .lss (.t 6) (.c (.int .i64 8)),none⟩] [5,6,7])
 (.seq (.cond (.t 7)
 .skip
 (.exit 0))
 (.seq (.block 1 (.seq (.ops [
 ⟨some 8,.idxA 8 1 none (.t 5) (.t 6),none⟩,
 ⟨some 4,.mv (.t 8),none⟩] [4,5,6])
 (.seq (.ops [
 ⟨some 9,.mv (.t 4),none⟩,
 ⟨some 10,.bin .lss (.t 9) (.c (.int .i64 0)),none⟩,
 ⟨some 11,.mv (.t 10),none⟩,
 ⟨some 12,.mv (.t 4),(some (11,false))⟩,
 ⟨some 13,.bin .gtr (.t 12) (.c (.int .i64 1099511627776)),(some (11,false))⟩,
 ⟨some 14,.pick (.t 11) (.c (.bool true)) (.t 13),none⟩] [5,6,14])
 (.cond (.t 14)
 (.seq (.ops [
 ⟨some 2,.mv (.c (.bool false)),none⟩] [2])
 .ret)
 .skip))))
 (.ops [
 ⟨some 15,.bin .add (.t 6) (.c (.int .i64 1)),none⟩,
 ⟨some 6,.mv (.t 15),none⟩] [5,6])))))))
 (.seq (.ops [
 ⟨some 2,.mv (.c (.bool true)),none⟩] [2])
 .ret)))⟩

def h_op_name : Hint := [(0,[0],[]),(1,[0,5,6],[]),(2,[0,5,6,7],[]),(3,[0,3,5,6],[]),(4,[0,5,6,18],[]),(5,[2],[]),(6,[0,5,6],[]),(7,[2],[])]
def ir_op_name_20 : ACode := (.seq (.ops [
 ⟨some 20,.mv (.t 0),none⟩,
 ⟨some 21,.lenStr (.t 20),none⟩,
 ⟨some 22,.bin .geq (.t 21) (.c (.int .i64 1)),none⟩,
 ⟨some 23,.mv (.t 22),none⟩,
 ⟨some 24,.mv (.t 0),(some (23,true))⟩,
 ⟨some 25,.lenStr (.t 24),(some (23,true))⟩,
 ⟨some 26,.bin .leq (.t 25) (.c (.int .i64 40)),(some (23,true))⟩,
 ⟨some 27,.pick (.t 23) (.t 26) (.c (.bool false)),none⟩,
 ⟨some 2,.mv (.t 27),none⟩] [2])
 .ret)
def ir_op_name : AFunc := ⟨1,28,[.tmp 2],
 (.seq (.ops [
 ⟨some 2,.mv (.c (.bool false)),none⟩] [0])
 (.seq (.seq (.ops [
 ⟨some 4,.mv (.t 0),none⟩,
 ⟨some 5,.lenStr (.t 4),none⟩,
 ⟨some 6,.mv (.c (.int .i64 0)),none⟩] [0,5,6])
 (.block 0 (.loop (.seq (.ops [
 ⟨some 7,.bin .lss (.t 6) (.t 5),none⟩] [0,5,6,7])
 (.seq (.cond (.t 7)
 .skip
 (.exit 0))
 (.seq (.block 1 (.seq (.ops [
 ⟨some 8,.mv (.t 6),none⟩,
 ⟨some 3,.mv (.t 8),none⟩] [0,3,5,6])
 (.seq (.ops [
 ⟨some 9,.mv (.t 0),none⟩,
 ⟨some 10,.mv (.t 3),none⟩,
 ⟨some 11,.idxS (.t 9) (.t 10),none⟩,
 ⟨some 12,.bin .lss (.t 11) (.c (.int .u8 33)),none⟩,
 ⟨some 13,.mv (.t 12),none⟩,
 ⟨some 14,.mv (.t 0),(some (13,false))⟩,
 ⟨some 15,.mv (.t 3),(some (13,false))⟩,
 ⟨some 16,.idxS (.t 14) (.t 15),(some (13,false))⟩,
 ⟨some 17,.bin .gtr (.t 16) (.c (.int .u8 126)),(some (13,false))⟩,
 ⟨some 18,.pick (.t 13) (.c (.bool true)) (.t 17),none⟩] [0,5,6,18])
 (.cond (.t 18)
 (.seq (.ops [
 ⟨some 2,.mv (.c (.bool false)),none⟩] [2])
 .ret)
 .skip))))
 (.ops [
 ⟨some 19,.bin .add (.t 6) (.c (.int .i64 1)),none⟩,
 ⟨some 6,.mv (.t 19),none⟩] [0,5,6])))))))
 ir_op_name_20))⟩

def h_bandboxlaw23_SealBack : Hint := [(0,[0,1,6,7],[]),(1,[0,1,6,7,18],[]),(2,[8],[]),(3,[0,1,6,7,54],[]),(4,[8],[]),(5,[1,6,7,9],[]),(6,[1,6,7,9,11,12],[]),(7,[1,6,7,9,11,12,13,14],[]),(8,[1,6,7,9,11,83],[]),(9,[8],[]),(10,[1,6,7,9,11],[]),(11,[1,6,7,9,11],[]),(12,[1,7,9,11,105],[(0,0),(1,0),(2,0),(3,0),(4,0),(5,0),(6,1),(7,0),(8,0),(9,0)]),(13,[8],[]),(14,[11,15,16],[]),(15,[8],[])]
def ir_bandboxlaw23_SealBack_107 : ACode := (.seq (.ops [
 ⟨some 107,.mv (.t 9),none⟩,
 ⟨some 108,.mv (.t 1),none⟩,
 ⟨some 109,.load (some 15) (.t 7),none⟩,
 ⟨some 110,.call 339 [.t 107,.t 108,.t 109],none⟩,
 ⟨some 106,.mv (.t 110),none⟩,
 ⟨some 111,.ext (.t 106) 0,none⟩,
 ⟨some 112,.ext (.t 106) 1,none⟩,
 ⟨some 15,.mv (.t 111),none⟩,
 ⟨some 16,.mv (.t 112),none⟩] [11,15,16])
 (.seq (.ops [
 ⟨some 113,.mv (.t 16),none⟩,
 ⟨some 114,.bin .eql (.t 113) (.c (.int .i64 0)),none⟩,
 ⟨some 115,.mv (.t 114),none⟩,
 ⟨some 116,.mv (.t 11),(some (115,true))⟩,
 ⟨some 117,.lenS (.t 116),(some (115,true))⟩,
 ⟨some 118,.mv (.t 15),(some (115,true))⟩,
 ⟨some 119,.lenS (.t 118),(some (115,true))⟩,
 ⟨some 120,.bin .eql (.t 117) (.t 119),(some (115,true))⟩,
 ⟨some 121,.pick (.t 115) (.t 120) (.c (.bool false)),none⟩,
 ⟨some 8,.mv (.t 121),none⟩] [8])
 .ret))
def ir_bandboxlaw23_SealBack_87 : ACode := (.seq (.ops [
 ⟨some 87,.faddr 0 (.t 6),none⟩,
 ⟨some 88,.faddr 0 (.t 87),none⟩,
 ⟨some 89,.load none (.t 88),none⟩,
 ⟨some 90,.faddr 0 (.t 6),none⟩,
 ⟨some 91,.faddr 1 (.t 90),none⟩,
 ⟨some 92,.load none (.t 91),none⟩,
 ⟨some 93,.bin .sub (.t 92) (.c (.int .i64 1)),none⟩,
 ⟨some 94,.faddr 2 (.t 7),none⟩,
 ⟨some 95,.iaddrA 8 1 (.t 94) (.t 89),none⟩,
 ⟨none,.store 1 (.t 95) (.t 93),none⟩] [1,6,7,9,11])
 (.seq (.seq (.dops [
 ⟨0,some 96,.load (some 15) (.t 7),none,0⟩,
 ⟨1,some 97,.call 246 [.t 96],none,0⟩,
 ⟨2,some 98,.un .not (.t 97),none,0⟩,
 ⟨3,some 99,.mv (.t 98),none,0⟩,
 ⟨4,some 100,.load (some 15) (.t 6),(some (99,false)),0⟩,
 ⟨5,some 101,.call 341 [.t 100],(some (99,false)),0⟩,
 ⟨6,some 102,.load (some 15) (.t 7),(some (99,false)),1⟩,
 ⟨7,some 103,.call 341 [.t 102],(some (99,false)),0⟩,
 ⟨8,some 104,.bin .neq (.t 101) (.t 103),(some (99,false)),0⟩,
 ⟨9,some 105,.pick (.t 99) (.c (.bool true)) (.t 104),none,0⟩] [1,7,9,11,105])
 (.cond (.t 105)
 (.seq (.ops [
 ⟨some 8,.mv (.c (.bool true)),none⟩] [8])
 .ret)
 .skip))
 ir_bandboxlaw23_SealBack_107))
def ir_bandboxlaw23_SealBack_73 : ACode := (.seq (.seq (.ops [
 ⟨some 73,.mv (.t 12),none⟩,
 ⟨some 74,.bin .neq (.t 73) (.c (.int .i64 0)),none⟩,
 ⟨some 75,.mv (.t 74),none⟩,
 ⟨some 76,.mv (.t 14),(some (75,false))⟩,
 ⟨some 77,.bin .neq (.t 76) (.c (.int .i64 0)),(some (75,false))⟩,
 ⟨some 78,.pick (.t 75) (.c (.bool true)) (.t 77),none⟩,
 ⟨some 79,.mv (.t 78),none⟩,
 ⟨some 80,.load (some 15) (.t 13),(some (79,false))⟩,
 ⟨some 81,.load (some 15) (.t 6),(some (79,false))⟩,
 ⟨some 82,.eqa ((List.replicate 11 (some .i64) ++ [none,none,none,some .i64])) true (.t 80) (.t 81),(some (79,false))⟩,
 ⟨some 83,.pick (.t 79) (.c (.bool true)) (.t 82),none⟩] [1,6,7,9,11,83])
 (.cond (.t 83)
 (.seq (.ops [
 ⟨some 8,.mv (.c (.bool false)),none⟩] [8])
 .ret)
 .skip))
 (.seq (.ops [
 ⟨some 84,.faddr 0 (.t 6),none⟩,
 ⟨some 85,.load (some 2) (.t 84),none⟩,
 ⟨some 86,.faddr 0 (.t 7),none⟩,
 ⟨none,.store 2 (.t 86) (.t 85),none⟩] [1,6,7,9,11])
 ir_bandboxlaw23_SealBack_87))
def ir_bandboxlaw23_SealBack_56 : ACode := (.seq (.ops [
 ⟨some 56,.mv (.t 0),none⟩,
 ⟨some 57,.call 338 [.t 56],none⟩,
 ⟨some 55,.mv (.t 57),none⟩,
 ⟨some 58,.ext (.t 55) 0,none⟩,
 ⟨some 59,.ext (.t 55) 1,none⟩,
 ⟨some 9,.mv (.t 58),none⟩,
 ⟨some 10,.mv (.t 59),none⟩] [1,6,7,9])
 (.seq (.ops [
 ⟨some 61,.mv (.t 9),none⟩,
 ⟨some 62,.mv (.t 1),none⟩,
 ⟨some 63,.load (some 15) (.t 6),none⟩,
 ⟨some 64,.call 339 [.t 61,.t 62,.t 63],none⟩,
 ⟨some 60,.mv (.t 64),none⟩,
 ⟨some 65,.ext (.t 60) 0,none⟩,
 ⟨some 66,.ext (.t 60) 1,none⟩,
 ⟨some 11,.mv (.t 65),none⟩,
 ⟨some 12,.mv (.t 66),none⟩] [1,6,7,9,11,12])
 (.seq (.ops [
 ⟨some 68,.mv (.t 9),none⟩,
 ⟨some 69,.mv (.t 11),none⟩,
 ⟨some 70,.call 340 [.t 68,.t 69],none⟩,
 ⟨some 67,.mv (.t 70),none⟩,
 ⟨some 71,.ext (.t 67) 0,none⟩,
 ⟨some 72,.ext (.t 67) 1,none⟩,
 ⟨some 13,.alloc ((List.replicate 11 (.int .i64 0) ++ [.string .empty,.string .empty,.string .empty,.int .i64 0])),none⟩,
 ⟨none,.store 15 (.t 13) (.t 71),none⟩,
 ⟨some 14,.mv (.t 72),none⟩] [1,6,7,9,11,12,13,14])
 ir_bandboxlaw23_SealBack_73)))
def ir_bandboxlaw23_SealBack_19 : ACode := (.seq (.seq (.ops [
 ⟨some 19,.mv (.t 0),none⟩,
 ⟨some 20,.lenS (.t 19),none⟩,
 ⟨some 21,.bin .lss (.t 20) (.c (.int .i64 1)),none⟩,
 ⟨some 22,.mv (.t 21),none⟩,
 ⟨some 23,.mv (.t 0),(some (22,false))⟩,
 ⟨some 24,.lenS (.t 23),(some (22,false))⟩,
 ⟨some 25,.bin .gtr (.t 24) (.c (.int .i64 6)),(some (22,false))⟩,
 ⟨some 26,.pick (.t 22) (.c (.bool true)) (.t 25),none⟩,
 ⟨some 27,.mv (.t 26),none⟩,
 ⟨some 28,.mv (.t 1),(some (27,false))⟩,
 ⟨some 29,.bin .lss (.t 28) (.c (.int .i64 0)),(some (27,false))⟩,
 ⟨some 30,.pick (.t 27) (.c (.bool true)) (.t 29),none⟩,
 ⟨some 31,.mv (.t 30),none⟩,
 ⟨some 32,.mv (.t 1),(some (31,false))⟩,
 ⟨some 33,.mv (.t 0),(some (31,false))⟩,
 ⟨some 34,.lenS (.t 33),(some (31,false))⟩,
 ⟨some 35,.bin .geq (.t 32) (.t 34),(some (31,false))⟩,
 ⟨some 36,.pick (.t 31) (.c (.bool true)) (.t 35),none⟩,
 ⟨some 37,.mv (.t 36),none⟩,
 ⟨some 38,.load (some 15) (.t 6),(some (37,false))⟩,
 ⟨some 39,.call 337 [.t 38],(some (37,false))⟩,
 ⟨some 40,.pick (.t 37) (.c (.bool true)) (.t 39),none⟩,
 ⟨some 41,.mv (.t 40),none⟩,
 ⟨some 42,.load (some 15) (.t 7),(some (41,false))⟩,
 ⟨some 43,.call 337 [.t 42],(some (41,false))⟩,
 ⟨some 44,.pick (.t 41) (.c (.bool true)) (.t 43),none⟩,
 ⟨some 45,.mv (.t 44),none⟩,
 ⟨some 46,.load (some 15) (.t 6),(some (45,false))⟩,
 ⟨some 47,.call 246 [.t 46],(some (45,false))⟩,
 ⟨some 48,.un .not (.t 47),(some (45,false))⟩,
 ⟨some 49,.pick (.t 45) (.c (.bool true)) (.t 48),none⟩,
 ⟨some 50,.mv (.t 49),none⟩,
 ⟨some 51,.load (some 15) (.t 7),(some (50,false))⟩,
 ⟨some 52,.call 246 [.t 51],(some (50,false))⟩,
 ⟨some 53,.un .not (.t 52),(some (50,false))⟩,
 ⟨some 54,.pick (.t 50) (.c (.bool true)) (.t 53),none⟩] [0,1,6,7,54])
 (.cond (.t 54)
 (.seq (.ops [
 ⟨some 8,.mv (.c (.bool true)),none⟩] [8])
 .ret)
 .skip))
 ir_bandboxlaw23_SealBack_56)
def ir_bandboxlaw23_SealBack : AFunc := ⟨4,122,[.tmp 8],
 (.seq (.ops [
 ⟨some 6,.box (.t 2),none⟩,
 ⟨some 7,.box (.t 3),none⟩,
 ⟨some 8,.mv (.c (.bool false)),none⟩] [0,1,6,7])
 (.seq (.seq (.ops [
 ⟨some 17,.call 336 [],none⟩,
 ⟨some 18,.un .not (.t 17),none⟩] [0,1,6,7,18])
 (.cond (.t 18)
 (.seq (.ops [
 ⟨some 8,.mv (.c (.bool false)),none⟩] [8])
 .ret)
 .skip))
 ir_bandboxlaw23_SealBack_19))⟩

def h_bandboxlaw23_awake : Hint := [(0,[],[]),(1,[1],[]),(2,[1,13],[]),(3,[0],[]),(4,[1,3,4],[]),(5,[3,4,5,6],[]),(6,[0],[(0,0),(1,0),(2,0),(3,0),(4,0),(5,0),(6,0),(8,0),(7,1),(9,0),(10,0),(11,0),(12,0),(13,0),(14,0),(15,0),(16,0),(17,0),(18,0),(19,0),(20,0),(21,0)])]
def ir_bandboxlaw23_awake_26 : ACode := (.seq (.dops [
 ⟨0,some 26,.mv (.t 4),none,0⟩,
 ⟨1,some 27,.bin .eql (.t 26) (.c (.int .i64 0)),none,0⟩,
 ⟨2,some 28,.mv (.t 27),none,0⟩,
 ⟨3,some 29,.mv (.t 6),(some (28,true)),0⟩,
 ⟨4,some 30,.bin .eql (.t 29) (.c (.int .i64 0)),(some (28,true)),0⟩,
 ⟨5,some 31,.pick (.t 28) (.t 30) (.c (.bool false)),none,0⟩,
 ⟨6,some 32,.mv (.t 31),none,0⟩,
 ⟨8,some 34,.call 342 [],(some (32,true)),0⟩,
 ⟨7,some 33,.load (some 15) (.t 5),(some (32,true)),1⟩,
 ⟨9,some 35,.eqa ((List.replicate 11 (some .i64) ++ [none,none,none,some .i64])) false (.t 33) (.t 34),(some (32,true)),0⟩,
 ⟨10,some 36,.pick (.t 32) (.t 35) (.c (.bool false)),none,0⟩,
 ⟨11,some 37,.mv (.t 36),none,0⟩,
 ⟨12,some 38,.mv (.t 3),(some (37,true)),0⟩,
 ⟨13,some 39,.lenS (.t 38),(some (37,true)),0⟩,
 ⟨14,some 40,.bin .eql (.t 39) (.c (.int .i64 84)),(some (37,true)),0⟩,
 ⟨15,some 41,.pick (.t 37) (.t 40) (.c (.bool false)),none,0⟩,
 ⟨16,some 42,.mv (.t 41),none,0⟩,
 ⟨17,some 43,.call 342 [],(some (42,true)),0⟩,
 ⟨18,some 44,.call 341 [.t 43],(some (42,true)),0⟩,
 ⟨19,some 45,.bin .eql (.t 44) (.c (.int .i64 64)),(some (42,true)),0⟩,
 ⟨20,some 46,.pick (.t 42) (.t 45) (.c (.bool false)),none,0⟩,
 ⟨21,some 0,.mv (.t 46),none,0⟩] [0])
 .ret)
def ir_bandboxlaw23_awake_12 : ACode := (.seq (.seq (.ops [
 ⟨some 12,.mv (.t 1),none⟩,
 ⟨some 13,.eqv .ptr false (.t 12) (.c (.pointer none)),none⟩] [1,13])
 (.cond (.t 13)
 (.seq (.ops [
 ⟨some 0,.mv (.c (.bool false)),none⟩] [0])
 .ret)
 .skip))
 (.seq (.ops [
 ⟨some 15,.mv (.t 1),none⟩,
 ⟨some 16,.call 342 [],none⟩,
 ⟨some 17,.call 339 [.t 15,.c (.int .i64 0),.t 16],none⟩,
 ⟨some 14,.mv (.t 17),none⟩,
 ⟨some 18,.ext (.t 14) 0,none⟩,
 ⟨some 19,.ext (.t 14) 1,none⟩,
 ⟨some 3,.mv (.t 18),none⟩,
 ⟨some 4,.mv (.t 19),none⟩] [1,3,4])
 (.seq (.ops [
 ⟨some 21,.mv (.t 1),none⟩,
 ⟨some 22,.mv (.t 3),none⟩,
 ⟨some 23,.call 340 [.t 21,.t 22],none⟩,
 ⟨some 20,.mv (.t 23),none⟩,
 ⟨some 24,.ext (.t 20) 0,none⟩,
 ⟨some 25,.ext (.t 20) 1,none⟩,
 ⟨some 5,.alloc ((List.replicate 11 (.int .i64 0) ++ [.string .empty,.string .empty,.string .empty,.int .i64 0])),none⟩,
 ⟨none,.store 15 (.t 5) (.t 24),none⟩,
 ⟨some 6,.mv (.t 25),none⟩] [3,4,5,6])
 ir_bandboxlaw23_awake_26)))
def ir_bandboxlaw23_awake : AFunc := ⟨0,47,[.tmp 0],
 (.seq (.ops [
 ⟨some 0,.mv (.c (.bool false)),none⟩] [])
 (.seq (.ops [
 ⟨some 8,.bslice 1 1 ([.int .u8 0]) [(0,1,.c (.int .u8 7))],none⟩,
 ⟨some 9,.call 338 [.t 8],none⟩,
 ⟨some 7,.mv (.t 9),none⟩,
 ⟨some 10,.ext (.t 7) 0,none⟩,
 ⟨some 11,.ext (.t 7) 1,none⟩,
 ⟨some 1,.mv (.t 10),none⟩,
 ⟨some 2,.mv (.t 11),none⟩] [1])
 ir_bandboxlaw23_awake_12))⟩

def h_bandboxlaw23_long : Hint := [(0,[1],[]),(1,[2],[])]
def ir_bandboxlaw23_long : AFunc := ⟨1,19,[.tmp 2],
 (.seq (.ops [
 ⟨some 1,.box (.t 0),none⟩,
 ⟨some 2,.mv (.c (.bool false)),none⟩] [1])
 (.seq (.ops [
 ⟨some 3,.faddr 11 (.t 1),none⟩,
 ⟨some 4,.load none (.t 3),none⟩,
 ⟨some 5,.lenStr (.t 4),none⟩,
 ⟨some 6,.bin .gtr (.t 5) (.c (.int .i64 60)),none⟩,
 ⟨some 7,.mv (.t 6),none⟩,
 ⟨some 8,.faddr 12 (.t 1),(some (7,false))⟩,
 ⟨some 9,.load none (.t 8),(some (7,false))⟩,
 ⟨some 10,.lenStr (.t 9),(some (7,false))⟩,
 ⟨some 11,.bin .gtr (.t 10) (.c (.int .i64 60)),(some (7,false))⟩,
 ⟨some 12,.pick (.t 7) (.c (.bool true)) (.t 11),none⟩,
 ⟨some 13,.mv (.t 12),none⟩,
 ⟨some 14,.faddr 13 (.t 1),(some (13,false))⟩,
 ⟨some 15,.load none (.t 14),(some (13,false))⟩,
 ⟨some 16,.lenStr (.t 15),(some (13,false))⟩,
 ⟨some 17,.bin .gtr (.t 16) (.c (.int .i64 250)),(some (13,false))⟩,
 ⟨some 18,.pick (.t 13) (.c (.bool true)) (.t 17),none⟩,
 ⟨some 2,.mv (.t 18),none⟩] [2])
 .ret))⟩

def h_bandboxlaw23_rings : Hint := [(0,[0],[]),(1,[0,4,5],[]),(2,[0,4,5,6],[]),(3,[0,4,5,6,17],[]),(4,[0,4,5,6],[]),(5,[0,4,5,6],[]),(6,[0,4,5,6],[]),(7,[2,3],[])]
def ir_bandboxlaw23_rings_20 : ACode := (.seq (.block 1 (.seq (.ops [
 ⟨some 20,.mv (.t 4),none⟩,
 ⟨some 21,.mv (.t 6),none⟩,
 ⟨some 22,.mv (.t 0),none⟩,
 ⟨some 23,.mv (.t 6),none⟩,
 ⟨some 24,.iaddrS 1 (.t 22) (.t 23),none⟩,
 ⟨some 25,.load none (.t 24),none⟩,
 ⟨some 26,.build (List.replicate 32 (.int .u8 0)) [(0,1,.t 25)],none⟩,
 ⟨some 27,.call 179 [.t 20,.t 21,.t 26],none⟩] [0,4,5,6])
 (.ops [
 ⟨some 28,.mv (.t 5),none⟩,
 ⟨some 29,.mv (.t 6),none⟩,
 ⟨some 30,.mv (.t 0),none⟩,
 ⟨some 31,.mv (.t 6),none⟩,
 ⟨some 32,.iaddrS 1 (.t 30) (.t 31),none⟩,
 ⟨some 33,.load none (.t 32),none⟩,
 ⟨some 34,.build (List.replicate 32 (.int .u8 0)) [(0,1,.t 33)],none⟩,
 ⟨some 35,.call 184 [.t 28,.t 29,.t 34],none⟩] [0,4,5,6])))
 (.ops [
 ⟨some 18,.mv (.t 6),none⟩,
 ⟨some 19,.bin .add (.t 18) (.c (.int .i64 1)),none⟩,
 ⟨some 6,.mv (.t 19),none⟩] [0,4,5,6]))
def ir_bandboxlaw23_rings : AFunc := ⟨1,38,[.tmp 2,.tmp 3],
 (.seq (.ops [
 ⟨some 2,.mv (.c (.pointer none)),none⟩,
 ⟨some 3,.mv (.c (.pointer none)),none⟩] [0])
 (.seq (.ops [
 ⟨some 7,.call 178 [],none⟩,
 ⟨some 8,.build ([.slice none 0 0]) [],none⟩,
 ⟨some 9,.box (.t 8),none⟩,
 ⟨some 4,.mv (.t 7),none⟩,
 ⟨some 5,.mv (.t 9),none⟩] [0,4,5])
 (.seq (.seq (.ops [
 ⟨some 6,.mv (.c (.int .i64 0)),none⟩] [0,4,5,6])
 (.block 0 (.loop (.seq (.seq (.ops [
 ⟨some 10,.mv (.t 6),none⟩,
 ⟨some 11,.mv (.t 0),none⟩,
 ⟨some 12,.lenS (.t 11),none⟩,
 ⟨some 13,.bin .lss (.t 10) (.t 12),none⟩,
 ⟨some 14,.mv (.t 13),none⟩,
 ⟨some 15,.mv (.t 4),(some (14,true))⟩,
 ⟨some 16,.eqv .ptr true (.t 15) (.c (.pointer none)),(some (14,true))⟩,
 ⟨some 17,.pick (.t 14) (.t 16) (.c (.bool false)),none⟩] [0,4,5,6,17])
 (.cond (.t 17)
 .skip
 (.exit 0)))
 ir_bandboxlaw23_rings_20))))
 (.seq (.ops [
 ⟨some 36,.mv (.t 4),none⟩,
 ⟨some 37,.mv (.t 5),none⟩,
 ⟨some 2,.mv (.t 36),none⟩,
 ⟨some 3,.mv (.t 37),none⟩] [2,3])
 .ret))))⟩

def h_seal_Seal : Hint := [(0,[0,1,5],[]),(1,[0,1,5,16],[]),(2,[6,7],[]),(3,[1,5,8,9],[]),(4,[1,5,8,24],[]),(5,[6,7],[]),(6,[1,5,8,10,11],[]),(7,[1,5,8,10,11,32],[]),(8,[6,7],[]),(9,[5,8,10,12],[]),(10,[11,12,13],[(1,0),(2,0),(3,0),(4,0),(5,0),(6,0),(7,0),(0,1),(8,1),(9,1),(10,0),(11,0),(12,0),(13,0),(14,0),(15,0)]),(11,[11,12,13,53],[]),(12,[6,7],[]),(13,[6,7],[])]
def ir_seal_Seal_52 : ACode := (.seq (.seq (.ops [
 ⟨some 52,.mv (.t 11),none⟩,
 ⟨some 53,.bin .neq (.t 52) (.c (.int .i64 0)),none⟩] [11,12,13,53])
 (.cond (.t 53)
 (.seq (.ops [
 ⟨some 54,.mv (.t 11),none⟩,
 ⟨some 6,.mv (.c (.slice none 0 0)),none⟩,
 ⟨some 7,.mv (.t 54),none⟩] [6,7])
 .ret)
 .skip))
 (.seq (.ops [
 ⟨some 55,.mv (.t 12),none⟩,
 ⟨some 56,.mv (.t 13),none⟩,
 ⟨some 57,.call 346 [.t 55,.t 56],none⟩,
 ⟨some 6,.mv (.t 57),none⟩,
 ⟨some 7,.mv (.c (.int .i64 0)),none⟩] [6,7])
 .ret))
def ir_seal_Seal_34 : ACode := (.seq (.ops [
 ⟨some 34,.mv (.t 1),none⟩,
 ⟨some 35,.faddr 0 (.t 5),none⟩,
 ⟨some 36,.load (some 2) (.t 35),none⟩,
 ⟨some 37,.call 345 [.t 34,.t 36],none⟩,
 ⟨some 12,.mv (.t 37),none⟩] [5,8,10,12])
 (.seq (.dops [
 ⟨1,some 40,.faddr 0 (.t 5),none,0⟩,
 ⟨2,some 41,.faddr 0 (.t 40),none,0⟩,
 ⟨3,some 42,.load none (.t 41),none,0⟩,
 ⟨4,some 43,.faddr 0 (.t 5),none,0⟩,
 ⟨5,some 44,.faddr 1 (.t 43),none,0⟩,
 ⟨6,some 45,.load none (.t 44),none,0⟩,
 ⟨7,some 46,.call 177 [.t 42,.t 45],none,0⟩,
 ⟨0,some 39,.load (some 32) (.t 8),none,1⟩,
 ⟨8,some 47,.mv (.t 10),none,1⟩,
 ⟨9,some 48,.mv (.t 12),none,1⟩,
 ⟨10,some 49,.call 115 [.t 39,.t 46,.t 47,.t 48],none,0⟩,
 ⟨11,some 38,.mv (.t 49),none,0⟩,
 ⟨12,some 50,.ext (.t 38) 0,none,0⟩,
 ⟨13,some 51,.ext (.t 38) 1,none,0⟩,
 ⟨14,some 13,.mv (.t 50),none,0⟩,
 ⟨15,some 11,.mv (.t 51),none,0⟩] [11,12,13])
 ir_seal_Seal_52))
def ir_seal_Seal_23 : ACode := (.seq (.seq (.ops [
 ⟨some 23,.mv (.t 9),none⟩,
 ⟨some 24,.un .not (.t 23),none⟩] [1,5,8,24])
 (.cond (.t 24)
 (.seq (.ops [
 ⟨some 6,.mv (.c (.slice none 0 0)),none⟩,
 ⟨some 7,.mv (.c (.int .i64 4)),none⟩] [6,7])
 .ret)
 .skip))
 (.seq (.ops [
 ⟨some 26,.load (some 15) (.t 5),none⟩,
 ⟨some 27,.call 344 [.t 26],none⟩,
 ⟨some 28,.call 152 [.t 27],none⟩,
 ⟨some 25,.mv (.t 28),none⟩,
 ⟨some 29,.ext (.t 25) 0,none⟩,
 ⟨some 30,.ext (.t 25) 1,none⟩,
 ⟨some 10,.mv (.t 29),none⟩,
 ⟨some 11,.mv (.t 30),none⟩] [1,5,8,10,11])
 (.seq (.seq (.ops [
 ⟨some 31,.mv (.t 11),none⟩,
 ⟨some 32,.bin .neq (.t 31) (.c (.int .i64 0)),none⟩] [1,5,8,10,11,32])
 (.cond (.t 32)
 (.seq (.ops [
 ⟨some 33,.mv (.t 11),none⟩,
 ⟨some 6,.mv (.c (.slice none 0 0)),none⟩,
 ⟨some 7,.mv (.t 33),none⟩] [6,7])
 .ret)
 .skip))
 ir_seal_Seal_34)))
def ir_seal_Seal : AFunc := ⟨3,58,[.tmp 6,.tmp 7],
 (.seq (.ops [
 ⟨some 5,.box (.t 2),none⟩,
 ⟨some 6,.mv (.c (.slice none 0 0)),none⟩,
 ⟨some 7,.mv (.c (.int .i64 0)),none⟩] [0,1,5])
 (.seq (.seq (.ops [
 ⟨some 14,.load (some 15) (.t 5),none⟩,
 ⟨some 15,.call 246 [.t 14],none⟩,
 ⟨some 16,.un .not (.t 15),none⟩] [0,1,5,16])
 (.cond (.t 16)
 (.seq (.ops [
 ⟨some 6,.mv (.c (.slice none 0 0)),none⟩,
 ⟨some 7,.mv (.c (.int .i64 1)),none⟩] [6,7])
 .ret)
 .skip))
 (.seq (.ops [
 ⟨some 18,.mv (.t 0),none⟩,
 ⟨some 19,.mv (.t 1),none⟩,
 ⟨some 20,.call 181 [.t 18,.t 19],none⟩,
 ⟨some 17,.mv (.t 20),none⟩,
 ⟨some 21,.ext (.t 17) 0,none⟩,
 ⟨some 22,.ext (.t 17) 1,none⟩,
 ⟨some 8,.alloc (List.replicate 32 (.int .u8 0)),none⟩,
 ⟨none,.store 32 (.t 8) (.t 21),none⟩,
 ⟨some 9,.mv (.t 22),none⟩] [1,5,8,9])
 ir_seal_Seal_23)))⟩

def h_seal_Open : Hint := [(0,[0,1,4],[]),(1,[0,4,6,7,8,9],[]),(2,[0,4,6,7,8,9,23],[]),(3,[4,5],[]),(4,[4,6,7,8,10,11],[]),(5,[4,6,7,8,10,33],[]),(6,[4,5],[]),(7,[4,7,9,12],[(1,0),(2,0),(3,0),(4,0),(5,0),(7,1),(8,1),(9,0),(0,2),(6,2),(10,0),(11,0),(12,0),(13,0),(14,0),(15,0)]),(8,[4,7,12,50],[]),(9,[4,5],[]),(10,[4,7,9,13],[]),(11,[4,7,13,58],[]),(12,[4,5],[]),(13,[4,7,9,14],[]),(14,[4,14,72],[]),(15,[4,5],[]),(16,[4,5],[])]
def ir_seal_Open_65 : ACode := (.seq (.seq (.ops [
 ⟨some 65,.mv (.t 9),none⟩,
 ⟨some 66,.bin .neq (.t 65) (.c (.int .i64 0)),none⟩,
 ⟨some 67,.mv (.t 66),none⟩,
 ⟨some 68,.faddr 0 (.t 14),(some (67,false))⟩,
 ⟨some 69,.load (some 2) (.t 68),(some (67,false))⟩,
 ⟨some 70,.load (some 2) (.t 7),(some (67,false))⟩,
 ⟨some 71,.eqa ([some .i64,some .i64]) true (.t 69) (.t 70),(some (67,false))⟩,
 ⟨some 72,.pick (.t 67) (.c (.bool true)) (.t 71),none⟩] [4,14,72])
 (.cond (.t 72)
 (.seq (.ops [
 ⟨some 73,.build ((List.replicate 11 (.int .i64 0) ++ [.string .empty,.string .empty,.string .empty,.int .i64 0])) [],none⟩,
 ⟨none,.store 15 (.t 4) (.t 73),none⟩,
 ⟨some 5,.mv (.c (.int .i64 3)),none⟩] [4,5])
 .ret)
 .skip))
 (.seq (.ops [
 ⟨some 74,.load (some 15) (.t 14),none⟩,
 ⟨none,.store 15 (.t 4) (.t 74),none⟩,
 ⟨some 5,.mv (.c (.int .i64 0)),none⟩] [4,5])
 .ret))
def ir_seal_Open_53 : ACode := (.seq (.ops [
 ⟨some 53,.mv (.t 12),none⟩,
 ⟨some 54,.call 153 [.t 53],none⟩,
 ⟨some 52,.mv (.t 54),none⟩,
 ⟨some 55,.ext (.t 52) 0,none⟩,
 ⟨some 56,.ext (.t 52) 1,none⟩,
 ⟨some 13,.mv (.t 55),none⟩,
 ⟨some 9,.mv (.t 56),none⟩] [4,7,9,13])
 (.seq (.seq (.ops [
 ⟨some 57,.mv (.t 9),none⟩,
 ⟨some 58,.bin .neq (.t 57) (.c (.int .i64 0)),none⟩] [4,7,13,58])
 (.cond (.t 58)
 (.seq (.ops [
 ⟨some 59,.build ((List.replicate 11 (.int .i64 0) ++ [.string .empty,.string .empty,.string .empty,.int .i64 0])) [],none⟩,
 ⟨none,.store 15 (.t 4) (.t 59),none⟩,
 ⟨some 5,.mv (.c (.int .i64 3)),none⟩] [4,5])
 .ret)
 .skip))
 (.seq (.ops [
 ⟨some 61,.mv (.t 13),none⟩,
 ⟨some 62,.call 348 [.t 61],none⟩,
 ⟨some 60,.mv (.t 62),none⟩,
 ⟨some 63,.ext (.t 60) 0,none⟩,
 ⟨some 64,.ext (.t 60) 1,none⟩,
 ⟨some 14,.alloc ((List.replicate 11 (.int .i64 0) ++ [.string .empty,.string .empty,.string .empty,.int .i64 0])),none⟩,
 ⟨none,.store 15 (.t 14) (.t 63),none⟩,
 ⟨some 9,.mv (.t 64),none⟩] [4,7,9,14])
 ir_seal_Open_65)))
def ir_seal_Open_37 : ACode := (.seq (.dops [
 ⟨1,some 37,.faddr 0 (.t 7),none,0⟩,
 ⟨2,some 38,.load none (.t 37),none,0⟩,
 ⟨3,some 39,.faddr 1 (.t 7),none,0⟩,
 ⟨4,some 40,.load none (.t 39),none,0⟩,
 ⟨5,some 41,.call 177 [.t 38,.t 40],none,0⟩,
 ⟨7,some 43,.mv (.t 6),none,1⟩,
 ⟨8,some 44,.load (some 2) (.t 7),none,1⟩,
 ⟨9,some 45,.call 345 [.t 43,.t 44],none,0⟩,
 ⟨0,some 36,.load (some 32) (.t 10),none,2⟩,
 ⟨6,some 42,.mv (.t 8),none,2⟩,
 ⟨10,some 46,.call 116 [.t 36,.t 41,.t 42,.t 45],none,0⟩,
 ⟨11,some 35,.mv (.t 46),none,0⟩,
 ⟨12,some 47,.ext (.t 35) 0,none,0⟩,
 ⟨13,some 48,.ext (.t 35) 1,none,0⟩,
 ⟨14,some 12,.mv (.t 47),none,0⟩,
 ⟨15,some 9,.mv (.t 48),none,0⟩] [4,7,9,12])
 (.seq (.seq (.ops [
 ⟨some 49,.mv (.t 9),none⟩,
 ⟨some 50,.bin .neq (.t 49) (.c (.int .i64 0)),none⟩] [4,7,12,50])
 (.cond (.t 50)
 (.seq (.ops [
 ⟨some 51,.build ((List.replicate 11 (.int .i64 0) ++ [.string .empty,.string .empty,.string .empty,.int .i64 0])) [],none⟩,
 ⟨none,.store 15 (.t 4) (.t 51),none⟩,
 ⟨some 5,.mv (.c (.int .i64 8)),none⟩] [4,5])
 .ret)
 .skip))
 ir_seal_Open_53))
def ir_seal_Open_22 : ACode := (.seq (.seq (.ops [
 ⟨some 22,.mv (.t 9),none⟩,
 ⟨some 23,.bin .neq (.t 22) (.c (.int .i64 0)),none⟩] [0,4,6,7,8,9,23])
 (.cond (.t 23)
 (.seq (.ops [
 ⟨some 24,.build ((List.replicate 11 (.int .i64 0) ++ [.string .empty,.string .empty,.string .empty,.int .i64 0])) [],none⟩,
 ⟨some 25,.mv (.t 9),none⟩,
 ⟨none,.store 15 (.t 4) (.t 24),none⟩,
 ⟨some 5,.mv (.t 25),none⟩] [4,5])
 .ret)
 .skip))
 (.seq (.ops [
 ⟨some 27,.mv (.t 0),none⟩,
 ⟨some 28,.mv (.t 6),none⟩,
 ⟨some 29,.call 181 [.t 27,.t 28],none⟩,
 ⟨some 26,.mv (.t 29),none⟩,
 ⟨some 30,.ext (.t 26) 0,none⟩,
 ⟨some 31,.ext (.t 26) 1,none⟩,
 ⟨some 10,.alloc (List.replicate 32 (.int .u8 0)),none⟩,
 ⟨none,.store 32 (.t 10) (.t 30),none⟩,
 ⟨some 11,.mv (.t 31),none⟩] [4,6,7,8,10,11])
 (.seq (.seq (.ops [
 ⟨some 32,.mv (.t 11),none⟩,
 ⟨some 33,.un .not (.t 32),none⟩] [4,6,7,8,10,33])
 (.cond (.t 33)
 (.seq (.ops [
 ⟨some 34,.build ((List.replicate 11 (.int .i64 0) ++ [.string .empty,.string .empty,.string .empty,.int .i64 0])) [],none⟩,
 ⟨none,.store 15 (.t 4) (.t 34),none⟩,
 ⟨some 5,.mv (.c (.int .i64 4)),none⟩] [4,5])
 .ret)
 .skip))
 ir_seal_Open_37)))
def ir_seal_Open : AFunc := ⟨2,75,[.cell 4 (some 15),.tmp 5],
 (.seq (.ops [
 ⟨some 4,.alloc ((List.replicate 11 (.int .i64 0) ++ [.string .empty,.string .empty,.string .empty,.int .i64 0])),none⟩,
 ⟨some 5,.mv (.c (.int .i64 0)),none⟩] [0,1,4])
 (.seq (.ops [
 ⟨some 16,.mv (.t 1),none⟩,
 ⟨some 17,.call 347 [.t 16],none⟩,
 ⟨some 15,.mv (.t 17),none⟩,
 ⟨some 18,.ext (.t 15) 0,none⟩,
 ⟨some 19,.ext (.t 15) 1,none⟩,
 ⟨some 20,.ext (.t 15) 2,none⟩,
 ⟨some 21,.ext (.t 15) 3,none⟩,
 ⟨some 7,.alloc ([.int .i64 0,.int .i64 0]),none⟩,
 ⟨some 6,.mv (.t 18),none⟩,
 ⟨none,.store 2 (.t 7) (.t 19),none⟩,
 ⟨some 8,.mv (.t 20),none⟩,
 ⟨some 9,.mv (.t 21),none⟩] [0,4,6,7,8,9])
 ir_seal_Open_22))⟩

def h_seal_Size : Hint := [(0,[1],[]),(1,[1,3,4],[]),(2,[3,17],[]),(3,[2],[]),(4,[2],[])]
def ir_seal_Size : AFunc := ⟨1,20,[.tmp 2],
 (.seq (.ops [
 ⟨some 1,.box (.t 0),none⟩,
 ⟨some 2,.mv (.c (.int .i64 0)),none⟩] [1])
 (.seq (.ops [
 ⟨some 6,.load (some 15) (.t 1),none⟩,
 ⟨some 7,.call 344 [.t 6],none⟩,
 ⟨some 8,.call 152 [.t 7],none⟩,
 ⟨some 5,.mv (.t 8),none⟩,
 ⟨some 9,.ext (.t 5) 0,none⟩,
 ⟨some 10,.ext (.t 5) 1,none⟩,
 ⟨some 3,.mv (.t 9),none⟩,
 ⟨some 4,.mv (.t 10),none⟩] [1,3,4])
 (.seq (.seq (.ops [
 ⟨some 11,.mv (.t 4),none⟩,
 ⟨some 12,.bin .neq (.t 11) (.c (.int .i64 0)),none⟩,
 ⟨some 13,.mv (.t 12),none⟩,
 ⟨some 14,.load (some 15) (.t 1),(some (13,false))⟩,
 ⟨some 15,.call 246 [.t 14],(some (13,false))⟩,
 ⟨some 16,.un .not (.t 15),(some (13,false))⟩,
 ⟨some 17,.pick (.t 13) (.c (.bool true)) (.t 16),none⟩] [3,17])
 (.cond (.t 17)
 (.seq (.ops [
 ⟨some 2,.mv (.c (.int .i64 0)),none⟩] [2])
 .ret)
 .skip))
 (.seq (.ops [
 ⟨some 18,.mv (.t 3),none⟩,
 ⟨some 19,.lenS (.t 18),none⟩,
 ⟨some 2,.mv (.t 19),none⟩] [2])
 .ret))))⟩

def h_bandboxlaw23_some : Hint := [(0,[0],[]),(1,[0],[])]
def ir_bandboxlaw23_some : AFunc := ⟨0,4,[.cell 0 (some 15)],
 (.seq (.ops [
 ⟨some 0,.alloc ((List.replicate 11 (.int .i64 0) ++ [.string .empty,.string .empty,.string .empty,.int .i64 0])),none⟩] [0])
 (.seq (.ops [
 ⟨some 1,.build ([.int .i64 0,.int .i64 0]) [(0,1,.c (.int .i64 1)),(1,1,.c (.int .i64 2))],none⟩,
 ⟨some 2,.build (List.replicate 8 (.int .i64 0)) [(0,1,.c (.int .i64 0)),(1,1,.c (.int .i64 1))],none⟩,
 ⟨some 3,.build ((List.replicate 11 (.int .i64 0) ++ [.string .empty,.string .empty,.string .empty,.int .i64 0])) [(0,2,.t 1),(2,8,.t 2),(10,1,.c (.int .i64 1)),(11,1,.c (.string ⟨#[99]⟩)),(12,1,.c (.string ⟨#[102]⟩)),(13,1,.c (.string ⟨#[118]⟩))],none⟩,
 ⟨none,.store 15 (.t 0) (.t 3),none⟩] [0])
 .ret))⟩

def h_op_Put : Hint := [(0,[1],[]),(1,[1,6],[]),(2,[2],[]),(3,[1,3],[(0,0),(1,0),(2,0),(3,0),(4,1),(5,1),(6,1),(7,0),(8,0)]),(4,[1,3],[]),(5,[1,3],[(0,0),(1,0),(2,0),(3,0),(4,1),(5,1),(6,0),(7,0)]),(6,[2],[(0,0),(1,0),(2,0),(3,0),(4,1),(5,1),(6,0),(7,2),(8,2),(9,0),(10,0)])]
def ir_op_Put_15 : ACode := (.seq (.ops [
 ⟨some 15,.mv (.t 3),none⟩,
 ⟨some 16,.faddr 2 (.t 1),none⟩,
 ⟨some 17,.load (some 8) (.t 16),none⟩,
 ⟨some 18,.call 350 [.t 15,.t 17],none⟩,
 ⟨some 3,.mv (.t 18),none⟩] [1,3])
 (.seq (.dops [
 ⟨0,some 19,.mv (.t 3),none,0⟩,
 ⟨1,some 20,.faddr 10 (.t 1),none,0⟩,
 ⟨2,some 21,.load none (.t 20),none,0⟩,
 ⟨3,some 22,.call 349 [.t 19,.t 21],none,0⟩,
 ⟨4,some 23,.faddr 14 (.t 1),none,1⟩,
 ⟨5,some 24,.load none (.t 23),none,1⟩,
 ⟨6,some 25,.call 349 [.t 22,.t 24],none,0⟩,
 ⟨7,some 3,.mv (.t 25),none,0⟩] [1,3])
 (.seq (.dops [
 ⟨0,some 26,.mv (.t 3),none,0⟩,
 ⟨1,some 27,.faddr 11 (.t 1),none,0⟩,
 ⟨2,some 28,.load none (.t 27),none,0⟩,
 ⟨3,some 29,.call 351 [.t 26,.t 28],none,0⟩,
 ⟨4,some 30,.faddr 12 (.t 1),none,1⟩,
 ⟨5,some 31,.load none (.t 30),none,1⟩,
 ⟨6,some 32,.call 351 [.t 29,.t 31],none,0⟩,
 ⟨7,some 33,.faddr 13 (.t 1),none,2⟩,
 ⟨8,some 34,.load none (.t 33),none,2⟩,
 ⟨9,some 35,.call 351 [.t 32,.t 34],none,0⟩,
 ⟨10,some 2,.mv (.t 35),none,0⟩] [2])
 .ret)))
def ir_op_Put : AFunc := ⟨1,36,[.tmp 2],
 (.seq (.ops [
 ⟨some 1,.box (.t 0),none⟩,
 ⟨some 2,.mv (.c (.slice none 0 0)),none⟩] [1])
 (.seq (.seq (.ops [
 ⟨some 4,.load (some 15) (.t 1),none⟩,
 ⟨some 5,.call 246 [.t 4],none⟩,
 ⟨some 6,.un .not (.t 5),none⟩] [1,6])
 (.cond (.t 6)
 (.seq (.ops [
 ⟨some 2,.mv (.c (.slice none 0 0)),none⟩] [2])
 .ret)
 .skip))
 (.seq (.dops [
 ⟨0,some 7,.faddr 0 (.t 1),none,0⟩,
 ⟨1,some 8,.faddr 0 (.t 7),none,0⟩,
 ⟨2,some 9,.load none (.t 8),none,0⟩,
 ⟨3,some 10,.call 349 [.c (.slice none 0 0),.t 9],none,0⟩,
 ⟨4,some 11,.faddr 0 (.t 1),none,1⟩,
 ⟨5,some 12,.faddr 1 (.t 11),none,1⟩,
 ⟨6,some 13,.load none (.t 12),none,1⟩,
 ⟨7,some 14,.call 349 [.t 10,.t 13],none,0⟩,
 ⟨8,some 3,.mv (.t 14),none,0⟩] [1,3])
 ir_op_Put_15)))⟩

def h_seal_label : Hint := [(0,[0,3],[]),(1,[4],[(0,0),(1,0),(2,1),(3,1),(4,0),(5,2),(6,2),(7,0),(8,0)])]
def ir_seal_label : AFunc := ⟨2,13,[.tmp 4],
 (.seq (.ops [
 ⟨some 3,.box (.t 1),none⟩,
 ⟨some 4,.mv (.c (.slice none 0 0)),none⟩] [0,3])
 (.seq (.dops [
 ⟨0,some 5,.mv (.t 0),none,0⟩,
 ⟨1,some 6,.call 349 [.c (.slice none 0 0),.t 5],none,0⟩,
 ⟨2,some 7,.faddr 0 (.t 3),none,1⟩,
 ⟨3,some 8,.load none (.t 7),none,1⟩,
 ⟨4,some 9,.call 349 [.t 6,.t 8],none,0⟩,
 ⟨5,some 10,.faddr 1 (.t 3),none,2⟩,
 ⟨6,some 11,.load none (.t 10),none,2⟩,
 ⟨7,some 12,.call 349 [.t 9,.t 11],none,0⟩,
 ⟨8,some 4,.mv (.t 12),none,0⟩] [4])
 .ret))⟩

def h_wire_Bytes : Hint := [(0,[0,1],[]),(1,[4],[])]
def ir_wire_Bytes : AFunc := ⟨2,11,[.tmp 4],
 (.seq (.ops [
 ⟨some 4,.mv (.c (.slice none 0 0)),none⟩] [0,1])
 (.seq (.ops [
 ⟨some 5,.mv (.t 0),none⟩,
 ⟨some 6,.mv (.t 1),none⟩,
 ⟨some 7,.lenS (.t 6),none⟩,
 ⟨some 8,.call 349 [.t 5,.t 7],none⟩,
 ⟨some 9,.mv (.t 1),none⟩,
 ⟨some 10,.append 1 1 (.t 8) (.t 9),none⟩,
 ⟨some 4,.mv (.t 10),none⟩] [4])
 .ret))⟩

def h_seal_read : Hint := [(0,[0,3],[]),(1,[3,6],[]),(2,[2,3,6],[]),(3,[2,3,6],[]),(4,[2,3,6],[]),(5,[2,3,4,6],[]),(6,[2,3,4,39],[]),(7,[2,3,4,5],[]),(8,[2,3,4,5],[(0,0),(1,0),(3,0),(4,0),(2,1),(5,0),(6,0)])]
def ir_seal_read_q : ACode := (.cond (.t 39)
 (.seq (.ops [
 ⟨some 40,.build ([.int .i64 0,.int .i64 0]) [],none⟩,
 ⟨some 2,.mv (.c (.int .i64 0)),none⟩,
 ⟨none,.store 2 (.t 3) (.t 40),none⟩,
 ⟨some 4,.mv (.c (.slice none 0 0)),none⟩,
 ⟨some 5,.mv (.c (.int .i64 3)),none⟩] [2,3,4,5])
 .ret)
 .skip)
def ir_seal_read_41 : ACode := (.seq (.dops [
 ⟨0,some 41,.mv (.t 2),none,0⟩,
 ⟨1,some 42,.load (some 2) (.t 3),none,0⟩,
 ⟨3,some 2,.mv (.t 41),none,0⟩,
 ⟨4,none,.store 2 (.t 3) (.t 42),none,0⟩,
 ⟨2,some 43,.mv (.t 4),none,1⟩,
 ⟨5,some 4,.mv (.t 43),none,0⟩,
 ⟨6,some 5,.mv (.c (.int .i64 0)),none,0⟩] [2,3,4,5])
 .ret)
def ir_seal_read_19 : ACode := (.seq (.seq (.ops [
 ⟨some 19,.mv (.t 6),none⟩,
 ⟨some 20,.call 355 [.t 19],none⟩,
 ⟨some 21,.un .not (.t 20),none⟩,
 ⟨some 22,.mv (.t 21),none⟩,
 ⟨some 23,.faddr 0 (.t 3),(some (22,false))⟩,
 ⟨some 24,.load none (.t 23),(some (22,false))⟩,
 ⟨some 25,.call 189 [.t 24],(some (22,false))⟩,
 ⟨some 26,.un .not (.t 25),(some (22,false))⟩,
 ⟨some 27,.pick (.t 22) (.c (.bool true)) (.t 26),none⟩,
 ⟨some 28,.mv (.t 27),none⟩,
 ⟨some 29,.faddr 1 (.t 3),(some (28,false))⟩,
 ⟨some 30,.load none (.t 29),(some (28,false))⟩,
 ⟨some 31,.bin .lss (.t 30) (.c (.int .i64 1)),(some (28,false))⟩,
 ⟨some 32,.pick (.t 28) (.c (.bool true)) (.t 31),none⟩,
 ⟨some 33,.mv (.t 32),none⟩,
 ⟨some 34,.mv (.t 4),(some (33,false))⟩,
 ⟨some 35,.lenS (.t 34),(some (33,false))⟩,
 ⟨some 36,.bin .sub (.t 35) (.c (.int .i64 16)),(some (33,false))⟩,
 ⟨some 37,.call 356 [.t 36],(some (33,false))⟩,
 ⟨some 38,.un .not (.t 37),(some (33,false))⟩,
 ⟨some 39,.pick (.t 33) (.c (.bool true)) (.t 38),none⟩] [2,3,4,39])
 ir_seal_read_q)
 ir_seal_read_41)
def ir_seal_read : AFunc := ⟨1,44,[.tmp 2,.cell 3 (some 2),.tmp 4,.tmp 5],
 (.seq (.ops [
 ⟨some 2,.mv (.c (.int .i64 0)),none⟩,
 ⟨some 3,.alloc ([.int .i64 0,.int .i64 0]),none⟩,
 ⟨some 4,.mv (.c (.slice none 0 0)),none⟩,
 ⟨some 5,.mv (.c (.int .i64 0)),none⟩] [0,3])
 (.seq (.ops [
 ⟨some 7,.mv (.t 0),none⟩,
 ⟨some 8,.call 352 [.t 7],none⟩,
 ⟨some 6,.mv (.t 8),none⟩] [3,6])
 (.seq (.ops [
 ⟨some 9,.mv (.t 6),none⟩,
 ⟨some 10,.call 353 [.t 9,.c (.int .i64 1099511627776)],none⟩,
 ⟨some 2,.mv (.t 10),none⟩] [2,3,6])
 (.seq (.ops [
 ⟨some 11,.mv (.t 6),none⟩,
 ⟨some 12,.call 353 [.t 11,.c (.int .i64 8)],none⟩,
 ⟨some 13,.faddr 0 (.t 3),none⟩,
 ⟨none,.store 1 (.t 13) (.t 12),none⟩] [2,3,6])
 (.seq (.ops [
 ⟨some 14,.mv (.t 6),none⟩,
 ⟨some 15,.call 353 [.t 14,.c (.int .i64 1099511627776)],none⟩,
 ⟨some 16,.faddr 1 (.t 3),none⟩,
 ⟨none,.store 1 (.t 16) (.t 15),none⟩] [2,3,6])
 (.seq (.ops [
 ⟨some 17,.mv (.t 6),none⟩,
 ⟨some 18,.call 354 [.t 17,.c (.int .i64 65552)],none⟩,
 ⟨some 4,.mv (.t 18),none⟩] [2,3,4,6])
 ir_seal_read_19))))))⟩

def h_op_Get : Hint := [(0,[0,2],[]),(1,[2,4],[]),(2,[2,4,5],[]),(3,[2,4,5],[]),(4,[2,4,5],[]),(5,[2,4,5],[]),(6,[2,4,5],[]),(7,[2,4,5],[]),(8,[2,4,5],[]),(9,[2,4,5],[]),(10,[2,4,5],[]),(11,[2,5,41],[]),(12,[2,3],[]),(13,[2,3],[])]
def ir_op_Get_28 : ACode := (.seq (.ops [
 ⟨some 28,.mv (.t 4),none⟩,
 ⟨some 29,.call 358 [.t 28,.c (.int .i64 40)],none⟩,
 ⟨some 30,.faddr 12 (.t 5),none⟩,
 ⟨none,.store 1 (.t 30) (.t 29),none⟩] [2,4,5])
 (.seq (.ops [
 ⟨some 31,.mv (.t 4),none⟩,
 ⟨some 32,.call 358 [.t 31,.c (.int .i64 200)],none⟩,
 ⟨some 33,.faddr 13 (.t 5),none⟩,
 ⟨none,.store 1 (.t 33) (.t 32),none⟩] [2,4,5])
 (.seq (.seq (.ops [
 ⟨some 34,.mv (.t 4),none⟩,
 ⟨some 35,.call 355 [.t 34],none⟩,
 ⟨some 36,.un .not (.t 35),none⟩,
 ⟨some 37,.mv (.t 36),none⟩,
 ⟨some 38,.load (some 15) (.t 5),(some (37,false))⟩,
 ⟨some 39,.call 246 [.t 38],(some (37,false))⟩,
 ⟨some 40,.un .not (.t 39),(some (37,false))⟩,
 ⟨some 41,.pick (.t 37) (.c (.bool true)) (.t 40),none⟩] [2,5,41])
 (.cond (.t 41)
 (.seq (.ops [
 ⟨some 42,.build ((List.replicate 11 (.int .i64 0) ++ [.string .empty,.string .empty,.string .empty,.int .i64 0])) [],none⟩,
 ⟨none,.store 15 (.t 2) (.t 42),none⟩,
 ⟨some 3,.mv (.c (.int .i64 3)),none⟩] [2,3])
 .ret)
 .skip))
 (.seq (.ops [
 ⟨some 43,.load (some 15) (.t 5),none⟩,
 ⟨none,.store 15 (.t 2) (.t 43),none⟩,
 ⟨some 3,.mv (.c (.int .i64 0)),none⟩] [2,3])
 .ret))))
def ir_op_Get_12 : ACode := (.seq (.ops [
 ⟨some 12,.mv (.t 4),none⟩,
 ⟨some 13,.call 353 [.t 12,.c (.int .i64 1099511627776)],none⟩,
 ⟨some 14,.faddr 0 (.t 5),none⟩,
 ⟨some 15,.faddr 1 (.t 14),none⟩,
 ⟨none,.store 1 (.t 15) (.t 13),none⟩] [2,4,5])
 (.seq (.ops [
 ⟨some 16,.mv (.t 4),none⟩,
 ⟨some 17,.call 357 [.t 16],none⟩,
 ⟨some 18,.faddr 2 (.t 5),none⟩,
 ⟨none,.store 8 (.t 18) (.t 17),none⟩] [2,4,5])
 (.seq (.ops [
 ⟨some 19,.mv (.t 4),none⟩,
 ⟨some 20,.call 353 [.t 19,.c (.int .i64 2)],none⟩,
 ⟨some 21,.faddr 10 (.t 5),none⟩,
 ⟨none,.store 1 (.t 21) (.t 20),none⟩] [2,4,5])
 (.seq (.ops [
 ⟨some 22,.mv (.t 4),none⟩,
 ⟨some 23,.call 353 [.t 22,.c (.int .i64 1099511627776)],none⟩,
 ⟨some 24,.faddr 14 (.t 5),none⟩,
 ⟨none,.store 1 (.t 24) (.t 23),none⟩] [2,4,5])
 (.seq (.ops [
 ⟨some 25,.mv (.t 4),none⟩,
 ⟨some 26,.call 358 [.t 25,.c (.int .i64 40)],none⟩,
 ⟨some 27,.faddr 11 (.t 5),none⟩,
 ⟨none,.store 1 (.t 27) (.t 26),none⟩] [2,4,5])
 ir_op_Get_28)))))
def ir_op_Get : AFunc := ⟨1,44,[.cell 2 (some 15),.tmp 3],
 (.seq (.ops [
 ⟨some 2,.alloc ((List.replicate 11 (.int .i64 0) ++ [.string .empty,.string .empty,.string .empty,.int .i64 0])),none⟩,
 ⟨some 3,.mv (.c (.int .i64 0)),none⟩] [0,2])
 (.seq (.ops [
 ⟨some 6,.mv (.t 0),none⟩,
 ⟨some 7,.call 352 [.t 6],none⟩,
 ⟨some 4,.mv (.t 7),none⟩] [2,4])
 (.seq (.ops [
 ⟨some 5,.alloc ((List.replicate 11 (.int .i64 0) ++ [.string .empty,.string .empty,.string .empty,.int .i64 0])),none⟩] [2,4,5])
 (.seq (.ops [
 ⟨some 8,.mv (.t 4),none⟩,
 ⟨some 9,.call 353 [.t 8,.c (.int .i64 8)],none⟩,
 ⟨some 10,.faddr 0 (.t 5),none⟩,
 ⟨some 11,.faddr 0 (.t 10),none⟩,
 ⟨none,.store 1 (.t 11) (.t 9),none⟩] [2,4,5])
 ir_op_Get_12))))⟩

def h_wire_Num : Hint := [(0,[0,1],[]),(1,[1,5],[]),(2,[1,5],[]),(3,[1,5,11],[]),(4,[1,5],[]),(5,[1,5],[]),(6,[4],[])]
def ir_wire_Num_20 : ACode := (.seq (.ops [
 ⟨some 20,.mv (.t 5),none⟩,
 ⟨some 21,.mv (.t 1),none⟩,
 ⟨some 22,.conv .u8 (.t 21),none⟩,
 ⟨some 23,.bslice 1 1 ([.int .u8 0]) [(0,1,.t 22)],none⟩,
 ⟨some 24,.append 1 1 (.t 20) (.t 23),none⟩,
 ⟨some 4,.mv (.t 24),none⟩] [4])
 .ret)
def ir_wire_Num : AFunc := ⟨2,25,[.tmp 4],
 (.seq (.ops [
 ⟨some 4,.mv (.c (.slice none 0 0)),none⟩] [0,1])
 (.seq (.ops [
 ⟨some 6,.mv (.t 0),none⟩,
 ⟨some 7,.call 158 [.t 6],none⟩,
 ⟨some 5,.mv (.t 7),none⟩] [1,5])
 (.seq (.ops [
 ⟨some 8,.mv (.t 1),none⟩,
 ⟨some 9,.mx (.t 8) (.c (.int .i64 0)),none⟩,
 ⟨some 1,.mv (.t 9),none⟩] [1,5])
 (.seq (.block 0 (.loop (.seq (.seq (.ops [
 ⟨some 10,.mv (.t 1),none⟩,
 ⟨some 11,.bin .geq (.t 10) (.c (.int .i64 128)),none⟩] [1,5,11])
 (.cond (.t 11)
 .skip
 (.exit 0)))
 (.seq (.block 1 (.ops [
 ⟨some 14,.mv (.t 5),none⟩,
 ⟨some 15,.mv (.t 1),none⟩,
 ⟨some 16,.conv .u8 (.t 15),none⟩,
 ⟨some 17,.bin .or (.t 16) (.c (.int .u8 128)),none⟩,
 ⟨some 18,.bslice 1 1 ([.int .u8 0]) [(0,1,.t 17)],none⟩,
 ⟨some 19,.append 1 1 (.t 14) (.t 18),none⟩,
 ⟨some 5,.mv (.t 19),none⟩] [1,5]))
 (.ops [
 ⟨some 12,.mv (.t 1),none⟩,
 ⟨some 13,.bin .shr (.t 12) (.c (.int .u64 7)),none⟩,
 ⟨some 1,.mv (.t 13),none⟩] [1,5])))))
 ir_wire_Num_20))))⟩

def h_vec_Put : Hint := [(0,[0,3],[]),(1,[0,7,8],[]),(2,[0,7,8,9],[]),(3,[0,6,7,8],[]),(4,[0,7,8],[]),(5,[0,7,8],[]),(6,[4],[])]
def ir_vec_Put : AFunc := ⟨2,16,[.tmp 4],
 (.seq (.ops [
 ⟨some 3,.box (.t 1),none⟩,
 ⟨some 4,.mv (.c (.slice none 0 0)),none⟩] [0,3])
 (.seq (.seq (.ops [
 ⟨some 7,.load (some 8) (.t 3),none⟩,
 ⟨some 8,.mv (.c (.int .i64 0)),none⟩] [0,7,8])
 (.block 0 (.loop (.seq (.ops [
 ⟨some 9,.bin .lss (.t 8) (.c (.int .i64 8)),none⟩] [0,7,8,9])
 (.seq (.cond (.t 9)
 .skip
 (.exit 0))
 (.seq (.block 1 (.seq (.ops [
 ⟨some 10,.idxA 8 1 none (.t 7) (.t 8),none⟩,
 ⟨some 6,.mv (.t 10),none⟩] [0,6,7,8])
 (.ops [
 ⟨some 11,.mv (.t 0),none⟩,
 ⟨some 12,.mv (.t 6),none⟩,
 ⟨some 13,.call 349 [.t 11,.t 12],none⟩,
 ⟨some 0,.mv (.t 13),none⟩] [0,7,8])))
 (.ops [
 ⟨some 14,.bin .add (.t 8) (.c (.int .i64 1)),none⟩,
 ⟨some 8,.mv (.t 14),none⟩] [0,7,8])))))))
 (.seq (.ops [
 ⟨some 15,.mv (.t 0),none⟩,
 ⟨some 4,.mv (.t 15),none⟩] [4])
 .ret)))⟩

def h_wire_Text : Hint := [(0,[0,1],[]),(1,[4],[])]
def ir_wire_Text : AFunc := ⟨2,9,[.tmp 4],
 (.seq (.ops [
 ⟨some 4,.mv (.c (.slice none 0 0)),none⟩] [0,1])
 (.seq (.ops [
 ⟨some 5,.mv (.t 0),none⟩,
 ⟨some 6,.mv (.t 1),none⟩,
 ⟨some 7,.bytesOf (.t 6),none⟩,
 ⟨some 8,.call 346 [.t 5,.t 7],none⟩,
 ⟨some 4,.mv (.t 8),none⟩] [4])
 .ret))⟩

def h_wire_Read : Hint := [(0,[0],[]),(1,[2],[])]
def ir_wire_Read : AFunc := ⟨1,7,[.tmp 2],
 (.seq (.ops [
 ⟨some 2,.mv (.c (.pointer none)),none⟩] [0])
 (.seq (.ops [
 ⟨some 3,.mv (.t 0),none⟩,
 ⟨some 4,.call 158 [.t 3],none⟩,
 ⟨some 5,.build ([.slice none 0 0,.bool false]) [(0,1,.t 4)],none⟩,
 ⟨some 6,.box (.t 5),none⟩,
 ⟨some 2,.mv (.t 6),none⟩] [2])
 .ret))⟩

def h_wire_Reader_Num : Hint := [(0,[0,1],[]),(1,[0,1,5],[]),(2,[0,1,5,18,19,20],[(0,0),(1,0),(2,0),(3,0),(4,0),(5,0),(6,0),(7,0),(8,0),(9,0),(10,0),(11,0),(12,0)]),(3,[0,1,5,18,19,20,21],[]),(4,[0,1,5,6,7,18,19,20],[]),(5,[0,1,5,6,7,18,19,20],[]),(6,[0,1,5,6,7,18,19,20,35],[]),(7,[0,5,6,47],[]),(8,[4],[]),(9,[5],[]),(10,[4],[]),(11,[0,1,5,18,19,20],[]),(12,[4],[])]
def ir_wire_Reader_Num_50 : ACode := (.seq (.ops [
 ⟨some 50,.mv (.t 0),none⟩,
 ⟨some 51,.mv (.t 0),none⟩,
 ⟨some 52,.nilc (.t 51),none⟩,
 ⟨some 53,.faddr 0 (.t 52),none⟩,
 ⟨some 54,.load none (.t 53),none⟩,
 ⟨some 55,.mv (.t 6),none⟩,
 ⟨some 56,.bin .add (.t 55) (.c (.int .i64 1)),none⟩,
 ⟨some 57,.slSl 1 (.t 54) (some (.t 56)) none none,none⟩,
 ⟨some 58,.nilc (.t 50),none⟩,
 ⟨some 59,.faddr 0 (.t 58),none⟩,
 ⟨none,.store 1 (.t 59) (.t 57),none⟩] [5])
 (.seq (.ops [
 ⟨some 60,.mv (.t 5),none⟩,
 ⟨some 4,.mv (.t 60),none⟩] [4])
 .ret))
def ir_wire_Reader_Num_33 : ACode := (.seq (.seq (.ops [
 ⟨some 33,.mv (.t 7),none⟩,
 ⟨some 34,.bin .and (.t 33) (.c (.int .u8 128)),none⟩,
 ⟨some 35,.bin .neq (.t 34) (.c (.int .u8 0)),none⟩] [0,1,5,6,7,18,19,20,35])
 (.cond (.t 35)
 (.exit 1)
 .skip))
 (.seq (.seq (.ops [
 ⟨some 36,.mv (.t 6),none⟩,
 ⟨some 37,.bin .gtr (.t 36) (.c (.int .i64 0)),none⟩,
 ⟨some 38,.mv (.t 37),none⟩,
 ⟨some 39,.mv (.t 7),(some (38,true))⟩,
 ⟨some 40,.bin .eql (.t 39) (.c (.int .u8 0)),(some (38,true))⟩,
 ⟨some 41,.pick (.t 38) (.t 40) (.c (.bool false)),none⟩,
 ⟨some 42,.mv (.t 41),none⟩,
 ⟨some 43,.mv (.t 5),(some (42,false))⟩,
 ⟨some 44,.mv (.t 1),(some (42,false))⟩,
 ⟨some 45,.mx (.t 44) (.c (.int .i64 0)),(some (42,false))⟩,
 ⟨some 46,.bin .gtr (.t 43) (.t 45),(some (42,false))⟩,
 ⟨some 47,.pick (.t 42) (.c (.bool true)) (.t 46),none⟩] [0,5,6,47])
 (.cond (.t 47)
 (.seq (.ops [
 ⟨some 48,.mv (.t 0),none⟩,
 ⟨some 49,.call 359 [.t 48],none⟩,
 ⟨some 4,.mv (.t 49),none⟩] [4])
 .ret)
 .skip))
 ir_wire_Reader_Num_50))
def ir_wire_Reader_Num_21 : ACode := (.block 0 (.loop (.seq (.ops [
 ⟨some 21,.bin .lss (.t 20) (.t 19),none⟩] [0,1,5,18,19,20,21])
 (.seq (.cond (.t 21)
 .skip
 (.exit 0))
 (.seq (.block 1 (.seq (.ops [
 ⟨some 22,.mv (.t 20),none⟩,
 ⟨some 23,.iaddrS 1 (.t 18) (.t 20),none⟩,
 ⟨some 24,.load none (.t 23),none⟩,
 ⟨some 6,.mv (.t 22),none⟩,
 ⟨some 7,.mv (.t 24),none⟩] [0,1,5,6,7,18,19,20])
 (.seq (.ops [
 ⟨some 25,.mv (.t 5),none⟩,
 ⟨some 26,.mv (.t 7),none⟩,
 ⟨some 27,.bin .andNot (.t 26) (.c (.int .u8 128)),none⟩,
 ⟨some 28,.conv .i64 (.t 27),none⟩,
 ⟨some 29,.mv (.t 6),none⟩,
 ⟨some 30,.bin .mul (.c (.int .i64 7)) (.t 29),none⟩,
 ⟨some 31,.bin .shl (.t 28) (.t 30),none⟩,
 ⟨some 32,.bin .or (.t 25) (.t 31),none⟩,
 ⟨some 5,.mv (.t 32),none⟩] [0,1,5,6,7,18,19,20])
 ir_wire_Reader_Num_33)))
 (.ops [
 ⟨some 61,.bin .add (.t 20) (.c (.int .i64 1)),none⟩,
 ⟨some 20,.mv (.t 61),none⟩] [0,1,5,18,19,20]))))))
def ir_wire_Reader_Num : AFunc := ⟨2,64,[.tmp 4],
 (.seq (.ops [
 ⟨some 4,.mv (.c (.int .i64 0)),none⟩] [0,1])
 (.seq (.ops [
 ⟨some 5,.mv (.c (.int .i64 0)),none⟩] [0,1,5])
 (.seq (.seq (.dops [
 ⟨0,some 8,.mv (.t 0),none,0⟩,
 ⟨1,some 9,.nilc (.t 8),none,0⟩,
 ⟨2,some 10,.faddr 0 (.t 9),none,0⟩,
 ⟨3,some 11,.load none (.t 10),none,0⟩,
 ⟨4,some 12,.mv (.t 0),none,0⟩,
 ⟨5,some 13,.nilc (.t 12),none,0⟩,
 ⟨6,some 14,.faddr 0 (.t 13),none,0⟩,
 ⟨7,some 15,.load none (.t 14),none,0⟩,
 ⟨8,some 16,.lenS (.t 15),none,0⟩,
 ⟨9,some 17,.mn (.t 16) (.c (.int .i64 9)),none,0⟩,
 ⟨10,some 18,.slSl 1 (.t 11) none (some (.t 17)) none,none,0⟩,
 ⟨11,some 19,.lenS (.t 18),none,0⟩,
 ⟨12,some 20,.mv (.c (.int .i64 0)),none,0⟩] [0,1,5,18,19,20])
 ir_wire_Reader_Num_21)
 (.seq (.ops [
 ⟨some 62,.mv (.t 0),none⟩,
 ⟨some 63,.call 359 [.t 62],none⟩,
 ⟨some 4,.mv (.t 63),none⟩] [4])
 .ret))))⟩

def h_wire_Reader_Bytes : Hint := [(0,[0,1],[]),(1,[4],[])]
def ir_wire_Reader_Bytes : AFunc := ⟨2,10,[.tmp 4],
 (.seq (.ops [
 ⟨some 4,.mv (.c (.slice none 0 0)),none⟩] [0,1])
 (.seq (.ops [
 ⟨some 5,.mv (.t 0),none⟩,
 ⟨some 6,.mv (.t 0),none⟩,
 ⟨some 7,.mv (.t 1),none⟩,
 ⟨some 8,.call 353 [.t 6,.t 7],none⟩,
 ⟨some 9,.call 360 [.t 5,.t 8],none⟩,
 ⟨some 4,.mv (.t 9),none⟩] [4])
 .ret))⟩

def h_wire_Reader_End : Hint := [(0,[0],[]),(1,[2],[])]
def ir_wire_Reader_End : AFunc := ⟨1,16,[.tmp 2],
 (.seq (.ops [
 ⟨some 2,.mv (.c (.bool false)),none⟩] [0])
 (.seq (.ops [
 ⟨some 3,.mv (.t 0),none⟩,
 ⟨some 4,.nilc (.t 3),none⟩,
 ⟨some 5,.faddr 1 (.t 4),none⟩,
 ⟨some 6,.load none (.t 5),none⟩,
 ⟨some 7,.un .not (.t 6),none⟩,
 ⟨some 8,.mv (.t 7),none⟩,
 ⟨some 9,.mv (.t 0),(some (8,true))⟩,
 ⟨some 10,.nilc (.t 9),(some (8,true))⟩,
 ⟨some 11,.faddr 0 (.t 10),(some (8,true))⟩,
 ⟨some 12,.load none (.t 11),(some (8,true))⟩,
 ⟨some 13,.lenS (.t 12),(some (8,true))⟩,
 ⟨some 14,.bin .eql (.t 13) (.c (.int .i64 0)),(some (8,true))⟩,
 ⟨some 15,.pick (.t 8) (.t 14) (.c (.bool false)),none⟩,
 ⟨some 2,.mv (.t 15),none⟩] [2])
 .ret))⟩

def h_seal_bucket : Hint := [(0,[0],[]),(1,[0,3,4],[]),(2,[2],[])]
def ir_seal_bucket : AFunc := ⟨1,18,[.tmp 2],
 (.seq (.ops [
 ⟨some 2,.mv (.c (.bool false)),none⟩] [0])
 (.seq (.ops [
 ⟨some 6,.mv (.t 0),none⟩,
 ⟨some 7,.bin .sub (.t 6) (.c (.int .i64 1)),none⟩,
 ⟨some 8,.call 14 [.t 7],none⟩,
 ⟨some 5,.mv (.t 8),none⟩,
 ⟨some 9,.ext (.t 5) 0,none⟩,
 ⟨some 10,.ext (.t 5) 1,none⟩,
 ⟨some 3,.mv (.t 9),none⟩,
 ⟨some 4,.mv (.t 10),none⟩] [0,3,4])
 (.seq (.ops [
 ⟨some 11,.mv (.t 4),none⟩,
 ⟨some 12,.bin .eql (.t 11) (.c (.int .i64 0)),none⟩,
 ⟨some 13,.mv (.t 12),none⟩,
 ⟨some 14,.mv (.t 3),(some (13,true))⟩,
 ⟨some 15,.mv (.t 0),(some (13,true))⟩,
 ⟨some 16,.bin .eql (.t 14) (.t 15),(some (13,true))⟩,
 ⟨some 17,.pick (.t 13) (.t 16) (.c (.bool false)),none⟩,
 ⟨some 2,.mv (.t 17),none⟩] [2])
 .ret)))⟩

def h_vec_Get : Hint := [(0,[0,2],[]),(1,[0,2,3],[]),(2,[0,2,3,5],[]),(3,[0,2,3,5,6],[]),(4,[0,2,3,4,5],[]),(5,[0,2,3,5],[]),(6,[0,2,3,5],[]),(7,[2,3,14],[]),(8,[2],[]),(9,[2],[])]
def ir_vec_Get_13 : ACode := (.seq (.seq (.ops [
 ⟨some 13,.mv (.t 0),none⟩,
 ⟨some 14,.call 361 [.t 13],none⟩] [2,3,14])
 (.cond (.t 14)
 (.seq (.ops [
 ⟨some 15,.build (List.replicate 8 (.int .i64 0)) [],none⟩,
 ⟨none,.store 8 (.t 2) (.t 15),none⟩] [2])
 .ret)
 .skip))
 (.seq (.ops [
 ⟨some 16,.load (some 8) (.t 3),none⟩,
 ⟨none,.store 8 (.t 2) (.t 16),none⟩] [2])
 .ret))
def ir_vec_Get : AFunc := ⟨1,17,[.cell 2 (some 8)],
 (.seq (.ops [
 ⟨some 2,.alloc (List.replicate 8 (.int .i64 0)),none⟩] [0,2])
 (.seq (.ops [
 ⟨some 3,.alloc (List.replicate 8 (.int .i64 0)),none⟩] [0,2,3])
 (.seq (.seq (.ops [
 ⟨some 5,.mv (.c (.int .i64 0)),none⟩] [0,2,3,5])
 (.block 0 (.loop (.seq (.ops [
 ⟨some 6,.bin .lss (.t 5) (.c (.int .i64 8)),none⟩] [0,2,3,5,6])
 (.seq (.cond (.t 6)
 .skip
 (.exit 0))
 (.seq (.block 1 (.seq (.ops [
 ⟨some 7,.mv (.t 5),none⟩,
 ⟨some 4,.mv (.t 7),none⟩] [0,2,3,4,5])
 (.ops [
 ⟨some 8,.mv (.t 4),none⟩,
 ⟨some 9,.mv (.t 0),none⟩,
 ⟨some 10,.call 353 [.t 9,.c (.int .i64 1099511627776)],none⟩,
 ⟨some 11,.iaddrA 8 1 (.t 3) (.t 8),none⟩,
 ⟨none,.store 1 (.t 11) (.t 10),none⟩] [0,2,3,5])))
 (.ops [
 ⟨some 12,.bin .add (.t 5) (.c (.int .i64 1)),none⟩,
 ⟨some 5,.mv (.t 12),none⟩] [0,2,3,5])))))))
 ir_vec_Get_13)))⟩

def h_wire_Reader_Text : Hint := [(0,[0,1],[]),(1,[4],[])]
def ir_wire_Reader_Text : AFunc := ⟨2,9,[.tmp 4],
 (.seq (.ops [
 ⟨some 4,.mv (.c (.string .empty)),none⟩] [0,1])
 (.seq (.ops [
 ⟨some 5,.mv (.t 0),none⟩,
 ⟨some 6,.mv (.t 1),none⟩,
 ⟨some 7,.call 354 [.t 5,.t 6],none⟩,
 ⟨some 8,.strOf (.t 7),none⟩,
 ⟨some 4,.mv (.t 8),none⟩] [4])
 .ret))⟩

def h_wire_Reader_fail : Hint := [(0,[0],[]),(1,[],[]),(2,[2],[])]
def ir_wire_Reader_fail : AFunc := ⟨1,9,[.tmp 2],
 (.seq (.ops [
 ⟨some 2,.mv (.c (.int .i64 0)),none⟩] [0])
 (.seq (.ops [
 ⟨some 3,.mv (.t 0),none⟩,
 ⟨some 4,.mv (.t 0),none⟩,
 ⟨some 5,.nilc (.t 3),none⟩,
 ⟨some 6,.faddr 0 (.t 5),none⟩,
 ⟨none,.store 1 (.t 6) (.c (.slice none 0 0)),none⟩,
 ⟨some 7,.nilc (.t 4),none⟩,
 ⟨some 8,.faddr 1 (.t 7),none⟩,
 ⟨none,.store 1 (.t 8) (.c (.bool true)),none⟩] [])
 (.seq (.ops [
 ⟨some 2,.mv (.c (.int .i64 0)),none⟩] [2])
 .ret)))⟩

def h_wire_Reader_take : Hint := [(0,[0,1],[]),(1,[0,1,12],[]),(2,[],[]),(3,[4],[]),(4,[0,1,5],[]),(5,[5],[]),(6,[4],[])]
def ir_wire_Reader_take_15 : ACode := (.seq (.ops [
 ⟨some 15,.mv (.t 0),none⟩,
 ⟨some 16,.nilc (.t 15),none⟩,
 ⟨some 17,.faddr 0 (.t 16),none⟩,
 ⟨some 18,.load none (.t 17),none⟩,
 ⟨some 19,.mv (.t 1),none⟩,
 ⟨some 20,.slSl 1 (.t 18) none (some (.t 19)) none,none⟩,
 ⟨some 21,.call 158 [.t 20],none⟩,
 ⟨some 5,.mv (.t 21),none⟩] [0,1,5])
 (.seq (.ops [
 ⟨some 22,.mv (.t 0),none⟩,
 ⟨some 23,.mv (.t 0),none⟩,
 ⟨some 24,.nilc (.t 23),none⟩,
 ⟨some 25,.faddr 0 (.t 24),none⟩,
 ⟨some 26,.load none (.t 25),none⟩,
 ⟨some 27,.mv (.t 1),none⟩,
 ⟨some 28,.slSl 1 (.t 26) (some (.t 27)) none none,none⟩,
 ⟨some 29,.nilc (.t 22),none⟩,
 ⟨some 30,.faddr 0 (.t 29),none⟩,
 ⟨none,.store 1 (.t 30) (.t 28),none⟩] [5])
 (.seq (.ops [
 ⟨some 31,.mv (.t 5),none⟩,
 ⟨some 4,.mv (.t 31),none⟩] [4])
 .ret)))
def ir_wire_Reader_take : AFunc := ⟨2,32,[.tmp 4],
 (.seq (.ops [
 ⟨some 4,.mv (.c (.slice none 0 0)),none⟩] [0,1])
 (.seq (.seq (.ops [
 ⟨some 6,.mv (.t 1),none⟩,
 ⟨some 7,.mv (.t 0),none⟩,
 ⟨some 8,.nilc (.t 7),none⟩,
 ⟨some 9,.faddr 0 (.t 8),none⟩,
 ⟨some 10,.load none (.t 9),none⟩,
 ⟨some 11,.lenS (.t 10),none⟩,
 ⟨some 12,.bin .gtr (.t 6) (.t 11),none⟩] [0,1,12])
 (.cond (.t 12)
 (.seq (.ops [
 ⟨some 13,.mv (.t 0),none⟩,
 ⟨some 14,.call 359 [.t 13],none⟩] [])
 (.seq (.ops [
 ⟨some 4,.mv (.c (.slice none 0 0)),none⟩] [4])
 .ret))
 .skip))
 ir_wire_Reader_take_15))⟩

def h_wire_Reader_Bad : Hint := [(0,[0],[]),(1,[2],[])]
def ir_wire_Reader_Bad : AFunc := ⟨1,7,[.tmp 2],
 (.seq (.ops [
 ⟨some 2,.mv (.c (.bool false)),none⟩] [0])
 (.seq (.ops [
 ⟨some 3,.mv (.t 0),none⟩,
 ⟨some 4,.nilc (.t 3),none⟩,
 ⟨some 5,.faddr 1 (.t 4),none⟩,
 ⟨some 6,.load none (.t 5),none⟩,
 ⟨some 2,.mv (.t 6),none⟩] [2])
 .ret))⟩

noncomputable def tabT : NT := (.node 164 (h_unicode_utf8_DecodeLastRune,ir_unicode_utf8_DecodeLastRune) (.node 116 (h_aead_Open,ir_aead_Open) (.node 68 (h_octet_Little,ir_octet_Little) (.node 63 (h_poly_word,ir_poly_word) (.node 40 (h_poly_Clamp,ir_poly_Clamp) (.node 38 (h_poly_Tag,ir_poly_Tag) (.node 14 (h_pad_Bucket,ir_pad_Bucket) .leaf .leaf) .leaf) (.node 61 (h_octet_Big,ir_octet_Big) (.node 55 (h_slices_Clone_byte_byte,ir_slices_Clone_byte_byte) .leaf .leaf) .leaf)) (.node 66 (h_poly_num_times,ir_poly_num_times) (.node 65 (h_poly_num_plus,ir_poly_num_plus) (.node 64 (h_slices_Concat_byte_byte,ir_slices_Concat_byte_byte) .leaf .leaf) .leaf) (.node 67 (h_poly_num_last,ir_poly_num_last) .leaf .leaf))) (.node 89 (h_octet_Turn,ir_octet_Turn) (.node 81 (h_poly_column,ir_poly_column) (.node 80 (h_slices_Grow_byte_byte,ir_slices_Grow_byte_byte) (.node 79 (h_octet_FromLittle,ir_octet_FromLittle) .leaf .leaf) .leaf) (.node 88 (h_octet_FromBig,ir_octet_FromBig) (.node 82 (h_poly_num_cut,ir_poly_num_cut) .leaf .leaf) .leaf)) (.node 94 (h_math_bits_RotateLeft32,ir_math_bits_RotateLeft32) (.node 93 (h_slices_Reverse_byte_byte,ir_slices_Reverse_byte_byte) (.node 90 (h_math_bits_Mul64,ir_math_bits_Mul64) .leaf .leaf) .leaf) (.node 115 (h_aead_Seal,ir_aead_Seal) .leaf .leaf)))) (.node 143 (h_chacha_Quarter,ir_chacha_Quarter) (.node 134 (h_octet_Xor,ir_octet_Xor) (.node 128 (h_aead_tag,ir_aead_tag) (.node 127 (h_chacha_Xor,ir_chacha_Xor) (.node 117 (h_aead_Key,ir_aead_Key) .leaf .leaf) .leaf) (.node 130 (h_chacha_Block,ir_chacha_Block) (.node 129 (h_octet_Equal,ir_octet_Equal) .leaf .leaf) .leaf)) (.node 137 (h_chacha_mix,ir_chacha_mix) (.node 136 (h_chacha_state,ir_chacha_state) (.node 135 (h_aead_fill,ir_aead_fill) .leaf .leaf) .leaf) (.node 142 (h_chacha_word,ir_chacha_word) .leaf .leaf))) (.node 159 (h_bytes_trimRightByte,ir_bytes_trimRightByte) (.node 157 (h_bytes_TrimRight,ir_bytes_TrimRight) (.node 153 (h_pad_Unpad,ir_pad_Unpad) (.node 152 (h_pad_Pad,ir_pad_Pad) .leaf .leaf) .leaf) (.node 158 (h_bytes_Clone,ir_bytes_Clone) .leaf .leaf)) (.node 162 (h_bytes_trimRightUnicode,ir_bytes_trimRightUnicode) (.node 161 (h_bytes_trimRightASCII,ir_bytes_trimRightASCII) (.node 160 (h_bytes_makeASCIISet,ir_bytes_makeASCIISet) .leaf .leaf) .leaf) (.node 163 (h_bytes_asciiSet_contains,ir_bytes_asciiSet_contains) .leaf .leaf))))) (.node 340 (h_seal_Open,ir_seal_Open) (.node 189 (h_vec_Dev,ir_vec_Dev) (.node 178 (h_epoch_New,ir_epoch_New) (.node 167 (h_unicode_utf8_DecodeRune,ir_unicode_utf8_DecodeRune) (.node 166 (h_unicode_utf8_RuneStart,ir_unicode_utf8_RuneStart) (.node 165 (h_bytes_containsRune,ir_bytes_containsRune) .leaf .leaf) .leaf) (.node 177 (h_epoch_Nonce,ir_epoch_Nonce) (.node 168 (h_unicode_utf8_decodeRuneSlow,ir_unicode_utf8_decodeRuneSlow) .leaf .leaf) .leaf)) (.node 184 (h_bandboxref19_Ring_Put,ir_bandboxref19_Ring_Put) (.node 181 (h_epoch_Ring_Get,ir_epoch_Ring_Get) (.node 179 (h_epoch_Ring_Put,ir_epoch_Ring_Put) .leaf .leaf) .leaf) (.node 188 (h_epoch_good,ir_epoch_good) .leaf .leaf))) (.node 334 (h_bandboxlaw23_SealBack,ir_bandboxlaw23_SealBack) (.node 275 (h_vec_Good,ir_vec_Good) (.node 246 (h_op_Good,ir_op_Good) (.node 193 (h_bandboxref19_May,ir_bandboxref19_May) .leaf .leaf) .leaf) (.node 276 (h_op_name,ir_op_name) .leaf .leaf)) (.node 338 (h_bandboxlaw23_rings,ir_bandboxlaw23_rings) (.node 337 (h_bandboxlaw23_long,ir_bandboxlaw23_long) (.node 336 (h_bandboxlaw23_awake,ir_bandboxlaw23_awake) .leaf .leaf) .leaf) (.node 339 (h_seal_Seal,ir_seal_Seal) .leaf .leaf)))) (.node 352 (h_wire_Read,ir_wire_Read) (.node 347 (h_seal_read,ir_seal_read) (.node 344 (h_op_Put,ir_op_Put) (.node 342 (h_bandboxlaw23_some,ir_bandboxlaw23_some) (.node 341 (h_seal_Size,ir_seal_Size) .leaf .leaf) .leaf) (.node 346 (h_wire_Bytes,ir_wire_Bytes) (.node 345 (h_seal_label,ir_seal_label) .leaf .leaf) .leaf)) (.node 350 (h_vec_Put,ir_vec_Put) (.node 349 (h_wire_Num,ir_wire_Num) (.node 348 (h_op_Get,ir_op_Get) .leaf .leaf) .leaf) (.node 351 (h_wire_Text,ir_wire_Text) .leaf .leaf))) (.node 357 (h_vec_Get,ir_vec_Get) (.node 355 (h_wire_Reader_End,ir_wire_Reader_End) (.node 354 (h_wire_Reader_Bytes,ir_wire_Reader_Bytes) (.node 353 (h_wire_Reader_Num,ir_wire_Reader_Num) .leaf .leaf) .leaf) (.node 356 (h_seal_bucket,ir_seal_bucket) .leaf .leaf)) (.node 360 (h_wire_Reader_take,ir_wire_Reader_take) (.node 359 (h_wire_Reader_fail,ir_wire_Reader_fail) (.node 358 (h_wire_Reader_Text,ir_wire_Reader_Text) .leaf .leaf) .leaf) (.node 361 (h_wire_Reader_Bad,ir_wire_Reader_Bad) .leaf .leaf))))))
noncomputable def tab : Nat → Option (Hint × AFunc) := tabT.find
abbrev n_pad_Bucket : Nat := 14
abbrev n_poly_Tag : Nat := 38
abbrev n_poly_Clamp : Nat := 40
abbrev n_slices_Clone_byte_byte : Nat := 55
abbrev n_octet_Big : Nat := 61
abbrev n_poly_word : Nat := 63
abbrev n_slices_Concat_byte_byte : Nat := 64
abbrev n_poly_num_plus : Nat := 65
abbrev n_poly_num_times : Nat := 66
abbrev n_poly_num_last : Nat := 67
abbrev n_octet_Little : Nat := 68
abbrev n_octet_FromLittle : Nat := 79
abbrev n_slices_Grow_byte_byte : Nat := 80
abbrev n_poly_column : Nat := 81
abbrev n_poly_num_cut : Nat := 82
abbrev n_octet_FromBig : Nat := 88
abbrev n_octet_Turn : Nat := 89
abbrev n_math_bits_Mul64 : Nat := 90
abbrev n_slices_Reverse_byte_byte : Nat := 93
abbrev n_math_bits_RotateLeft32 : Nat := 94
abbrev n_aead_Seal : Nat := 115
abbrev n_aead_Open : Nat := 116
abbrev n_aead_Key : Nat := 117
abbrev n_chacha_Xor : Nat := 127
abbrev n_aead_tag : Nat := 128
abbrev n_octet_Equal : Nat := 129
abbrev n_chacha_Block : Nat := 130
abbrev n_octet_Xor : Nat := 134
abbrev n_aead_fill : Nat := 135
abbrev n_chacha_state : Nat := 136
abbrev n_chacha_mix : Nat := 137
abbrev n_chacha_word : Nat := 142
abbrev n_chacha_Quarter : Nat := 143
abbrev n_pad_Pad : Nat := 152
abbrev n_pad_Unpad : Nat := 153
abbrev n_bytes_TrimRight : Nat := 157
abbrev n_bytes_Clone : Nat := 158
abbrev n_bytes_trimRightByte : Nat := 159
abbrev n_bytes_makeASCIISet : Nat := 160
abbrev n_bytes_trimRightASCII : Nat := 161
abbrev n_bytes_trimRightUnicode : Nat := 162
abbrev n_bytes_asciiSet_contains : Nat := 163
abbrev n_unicode_utf8_DecodeLastRune : Nat := 164
abbrev n_bytes_containsRune : Nat := 165
abbrev n_unicode_utf8_RuneStart : Nat := 166
abbrev n_unicode_utf8_DecodeRune : Nat := 167
abbrev n_unicode_utf8_decodeRuneSlow : Nat := 168
abbrev n_epoch_Nonce : Nat := 177
abbrev n_epoch_New : Nat := 178
abbrev n_epoch_Ring_Put : Nat := 179
abbrev n_epoch_Ring_Get : Nat := 181
abbrev n_bandboxref19_Ring_Put : Nat := 184
abbrev n_epoch_good : Nat := 188
abbrev n_vec_Dev : Nat := 189
abbrev n_bandboxref19_May : Nat := 193
abbrev n_op_Good : Nat := 246
abbrev n_vec_Good : Nat := 275
abbrev n_op_name : Nat := 276
abbrev n_bandboxlaw23_SealBack : Nat := 334
abbrev n_bandboxlaw23_awake : Nat := 336
abbrev n_bandboxlaw23_long : Nat := 337
abbrev n_bandboxlaw23_rings : Nat := 338
abbrev n_seal_Seal : Nat := 339
abbrev n_seal_Open : Nat := 340
abbrev n_seal_Size : Nat := 341
abbrev n_bandboxlaw23_some : Nat := 342
abbrev n_op_Put : Nat := 344
abbrev n_seal_label : Nat := 345
abbrev n_wire_Bytes : Nat := 346
abbrev n_seal_read : Nat := 347
abbrev n_op_Get : Nat := 348
abbrev n_wire_Num : Nat := 349
abbrev n_vec_Put : Nat := 350
abbrev n_wire_Text : Nat := 351
abbrev n_wire_Read : Nat := 352
abbrev n_wire_Reader_Num : Nat := 353
abbrev n_wire_Reader_Bytes : Nat := 354
abbrev n_wire_Reader_End : Nat := 355
abbrev n_seal_bucket : Nat := 356
abbrev n_vec_Get : Nat := 357
abbrev n_wire_Reader_Text : Nat := 358
abbrev n_wire_Reader_fail : Nat := 359
abbrev n_wire_Reader_take : Nat := 360
abbrev n_wire_Reader_Bad : Nat := 361
end Go.Bb
