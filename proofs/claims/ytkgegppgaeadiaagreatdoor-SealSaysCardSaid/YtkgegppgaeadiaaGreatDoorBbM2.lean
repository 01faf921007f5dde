/- My contracts: BbPref5 BbPcha BbCsha0 BbCsha1 BbCcha0 BbUm BbCcha1 BbCwrd BbCcha2 BbCcha3 BbCref1 BbCref1b BbCref4f BbCoct5 BbCcha4 BbPtag BbPtag2 BbUt BbPaead BbPwir BbCnon BbCpad BbLpad0 BbCpad2 BbCpad3 BbPsea BbCwir0 BbCwir1. -/
import Derived.Test.YtkgegppgaeadiaaGreatDoorBbM1
import Derived.Test.YtkgegppgaeadiaaGreatDoorBbG3
import Derived.Test.YtkgegppgaeadiaaGreatDoorBbTab
namespace Go.Bb
set_option linter.unusedSimpArgs false
set_option linter.unusedVariables false
set_option maxHeartbeats 4000000
set_option maxRecDepth 20000
theorem qqe (f : Nat → Nat) : ∀ n, valD f (n + 1) = f 0 + 256 * valD (fun j => f (j + 1)) n
  | 0 => by simp [valD]
  | n + 1 => by
    rw [valD, qqe f n, valD, Nat.pow_succ]
    rw [Nat.mul_add, ← Nat.add_assoc, Nat.mul_comm (256 ^ n) 256, Nat.mul_left_comm]
theorem qnv : ∀ l : List UInt8, valD (fun j => (l.getD j 0).toNat) l.length = leN l
  | [] => rfl
  | b :: l => by
    rw [List.length_cons, qqe, leN]
    have := qnv l
    simp only [List.getD_eq_getElem?_getD, List.getElem?_cons_zero, Option.getD_some, List.getElem?_cons_succ] at this ⊢
    rw [this]
theorem qxz (n : Nat) : valD (fun _ => 0) n = 0 := by
  induction n with
  | zero => rfl
  | succ n ih => rw [valD, ih]; simp
theorem qhv (B : Nat → Nat) (n : Nat) : ∀ N, n ≤ N → valD (q4f B (fun _ => 0) n) N = valD B n
  | 0, h => by
    have : n = 0 := by omega
    subst this; rfl
  | N + 1, h => by
    by_cases e : n = N + 1
    · subst e
      exact qej fun j hj => qhp hj
    · rw [valD, qhv B n N (by omega), qhq (by omega)]; simp
def endD (l : List UInt8) : Nat → Nat := upd (q4f (fun j => (l.getD j 0).toNat) (fun _ => 0) l.length) l.length 1
theorem endD_val (l : List UInt8) (h : l.length ≤ 16) : valD (endD l) 17 = leN l + 256 ^ l.length := by
  unfold endD
  have hu := qdc (q4f (fun j => (l.getD j 0).toNat) (fun _ => 0) l.length) l.length 1 17 (by omega)
  rw [qu7, qhv _ _ _ (by omega), qnv] at hu
  omega
theorem endD_lt (l : List UInt8) (j : Nat) : endD l j < 256 := by
  unfold endD
  by_cases e : j = l.length
  · rw [e, qcb]; omega
  · rw [qg0 e]
    by_cases e2 : j < l.length
    · rw [qhp e2]; exact (l.getD j 0).toNat_lt
    · rw [qhq (by omega)]; omega
theorem carD_1 {f g : Nat → Nat} (hf : ∀ j, j < 17 → f j < 256) (hg : ∀ j, j < 17 → g j < 256) : ∀ i, i ≤ 17 → carD f g i ≤ 1
  | 0, _ => by simp [carD]
  | i + 1, h => by
    have := carD_1 hf hg i (by omega)
    have := hf i (by omega)
    have := hg i (by omega)
    rw [carD]; omega
theorem sum_lt {q g : Nat → Nat} (hq : qnu q) (hg : ∀ j, j < 17 → g j < 256) (h16 : g 16 ≤ 1) : ∀ j, j < 17 → addD q g j < 256 := by
  intro j hj
  by_cases e : j = 16
  · subst e
    rw [j0f]
    have := carD_1 (qi1 hq) hg 16 (by omega)
    have := hq.2
    omega
  · exact qsi _ _ (by omega)
theorem endD_16 (l : List UInt8) (h : l.length ≤ 16) : endD l 16 ≤ 1 := by
  unfold endD
  by_cases e : 16 = l.length
  · rw [← e, qcb]; omega
  · rw [qg0 e, qhq (by omega)]; omega
def blkV (l : List UInt8) : Nat := leN l + 256 ^ l.length
def qoy (R acc : Nat) (l : List UInt8) : Nat :=
  if h : 0 < l.length then qoy R ((acc + blkV (l.take 16)) * R % PQ) (l.drop 16) else acc
termination_by l.length
decreasing_by simp; omega
theorem qqt {R acc : Nat} {l : List UInt8} (h : 0 < l.length) : qoy R acc l = qoy R ((acc + blkV (l.take 16)) * R % PQ) (l.drop 16) := by
  rw [qoy, dif_pos h]
theorem qm3 {R acc : Nat} {l : List UInt8} (h : ¬ 0 < l.length) : qoy R acc l = acc := by
  rw [qoy, dif_neg h]
theorem qs7 (a b R : Nat) : (a % PQ + b) * R % PQ = (a + b) * R % PQ := by
  rw [Nat.mul_mod, Nat.mod_add_mod, ← Nat.mul_mod]
def rD (w : List UInt8) : Nat → Nat := q4f (fun j => (keyR w j).toNat) (fun _ => 0) 16
theorem rD_lt (w : List UInt8) (j : Nat) : rD w j < 256 := by
  unfold rD
  by_cases e2 : j < 16
  · rw [qhp e2]; exact (keyR w j).toNat_lt
  · rw [qhq (by omega)]; omega
def sD (w : List UInt8) : Nat → Nat := q4f (fun j => (w.getD (16 + j) 0).toNat) (fun _ => 0) 16
theorem sD_lt (w : List UInt8) (j : Nat) : sD w j < 256 := by
  unfold sD
  by_cases e2 : j < 16
  · rw [qhp e2]; exact (w.getD (16 + j) 0).toNat_lt
  · rw [qhq (by omega)]; omega
theorem sD_val (w : List UInt8) (h : w.length = 32) : valD (sD w) 17 = leN (w.drop 16) := by
  unfold sD
  rw [qhv _ _ _ (by omega), ← qnv, List.length_drop, h]
  apply qej
  intro j hj
  simp [List.getD_eq_getElem?_getD, List.getElem?_drop]
theorem rD_val (w : List UInt8) : valD (rD w) 17 = leN (rowL (keyR w) 16) := by
  unfold rD
  rw [qhv _ _ _ (by omega), ← qnv, q3c]
  apply qej
  intro j hj
  simp [List.getD_eq_getElem?_getD, rowL, hj]
def tagR (w l : List UInt8) (i : Nat) : UInt8 := UInt8.ofNat ((qoy (leN (rowL (keyR w) 16)) 0 l + leN (w.drop 16)) / 256 ^ i)
structure Q4 where
  a : U32
  b : U32
  c : U32
  d : U32
def rotF (x : U32) (n : Nat) : U32 := turnF x (32 - n)
def qx8 (q : Q4) : Q4 :=
  let a1 := q.a + q.b
  let d1 := rotF (q.d ^^^ a1) 16
  let c1 := q.c + d1
  let b1 := rotF (q.b ^^^ c1) 12
  let a2 := a1 + b1
  let d2 := rotF (d1 ^^^ a2) 8
  let c2 := c1 + d2
  let b2 := rotF (b1 ^^^ c2) 7
  ⟨a2, b2, c2, d2⟩
def Q4.V (q : Q4) : Value := .tuple #[.int .u32 q.a.toNat, .int .u32 q.b.toNat, .int .u32 q.c.toNat, .int .u32 q.d.toNat]
def mixQ (s : Nat → U32) (i j k l : Nat) : Nat → U32 :=
  let q := qx8 ⟨s i, s j, s k, s l⟩
  updU (updU (updU (updU s i q.a) j q.b) k q.c) l q.d
def qns (s : Nat → U32) : Nat → (Nat → U32)
  | 0 => s
  | i + 1 => mixQ (qns s i) i (4 + i) (8 + i) (12 + i)
def qvk (s : Nat → U32) : Nat → (Nat → U32)
  | 0 => s
  | i + 1 => mixQ (qvk s i) i (4 + (i + 1) % 4) (8 + (i + 2) % 4) (12 + (i + 3) % 4)
def q7k (s : Nat → U32) : Nat → (Nat → U32)
  | 0 => s
  | n + 1 => qvk (qns (q7k s n) 4) 4
def qk9 (l : List UInt8) (i : Nat) : U32 := (q0h ((l.drop (4 * i)).take 4)).setWidth 32
def qwi (j : Nat) : U32 := match j with | 0 => 1634760805 | 1 => 857760878 | 2 => 2036477234 | 3 => 1797285236 | _ => 0
def qbi (key : List UInt8) (count : U32) (nonce : List UInt8) (j : Nat) : U32 :=
  if j < 4 then qwi j else if j < 12 then qk9 key (j - 4) else if j = 12 then count else if j < 16 then qk9 nonce (j - 13) else 0
def qbx (s : Nat → U32) : Nat → U32 := fun j => q7k s 10 j + s j
def q6a (f : Nat → U32) (k : Nat) : UInt8 := UInt8.ofNat (((f (k / 4)).setWidth 64 : U64) >>> (8 * (k % 4))).toNat
def q6b (key : List UInt8) (count : U32) (nonce : List UInt8) : Nat → UInt8 := q6a (qbx (qbi key count nonce))
theorem qlo (f : Nat → U32) (i : Nat) : q1j ((f i).setWidth 64) 4 = (List.range 4).map fun k => q6a f (4 * i + k) := by
  unfold q1j
  apply List.map_congr_left
  intro k hk
  have hk4 : k < 4 := List.mem_range.1 hk
  unfold q6a
  rw [show (4 * i + k) / 4 = i by omega, show (4 * i + k) % 4 = k by omega]
theorem qm1 {H : Heap} {b n sz : Nat} {f : Nat → U32} (h : H b = some (.own 0 (rowU f n) sz)) : q05 H ⟨b, 0, none⟩ n = some (rowU f n) := by
  rw [q0l h (by rw [q89]; omega)]; simp [List.take_of_length_le, q89]
theorem rotl_m : ∀ n : Nat, n < 32 → 1 ≤ n → (BitVec.ofInt 64 (n : Int) &&& BitVec.ofNat 64 31).toNat = n := by decide
theorem qwv (E : EnvT tab) (h : Heap) (x : U32) (n : Nat) {z : Int} (hz : z = n) (h1 : 1 ≤ n) (h2 : n ≤ 31) : ACallN E.toEnv qep [.int .u32 x.toNat, .int .i64 z] h fun r h' => h' = h ∧ r = .int .u32 (rotF x n).toNat := by
  subst hz
  refine q0o q4c q1z rfl rfl (q03 ?_)
  unfold q1z
  have w1 : IntKind.u64.wrap (n : Int) = ((BitVec.ofInt 64 (n : Int)).toNat : Int) := qb7 _
  have w2 : IntKind.u64.wrap ((BitVec.ofInt IntKind.u64.bits ((BitVec.ofInt 64 (n : Int)).toNat : Int) &&& BitVec.ofInt IntKind.u64.bits 31).toNat : Int) = (n : Int) := by
    have := u64_and (BitVec.ofInt 64 (n : Int)) (BitVec.ofNat 64 31)
    rw [rotl_m n (by omega) h1] at this
    exact this
  have w3 : IntKind.u64.wrap (32 - (n : Int)) = ((32 - n : Nat) : Int) := by
    have : (32 - (n : Int)) = ((32 - n : Nat) : Int) := by omega
    rw [this]; exact q1x (by omega)
  have n1 : ¬ ((n : Int) < 0) := by omega
  have n2 : ¬ (((32 - n : Nat) : Int) < 0) := by omega
  have s1 : IntKind.u32.wrap ((x.toNat : Int) * 2 ^ (min n IntKind.u32.bits)) = ((x <<< n).toNat : Int) := qyb x n (by omega)
  have s2 : ((x.toNat : Int).fdiv (2 ^ (min (32 - n) IntKind.u32.bits))) = ((x >>> (32 - n)).toNat : Int) := qya x (32 - n) (by omega)
  have e : rotF x n = x <<< n ||| x >>> (32 - n) := by unfold rotF turnF; rw [show 32 - (32 - n) = n by omega]
  rw [e]
  simp -implicitDefEqProofs only [zA,reduceCtorEq,Nat.reduceEqDiff,Nat.reduceAdd,w1,w2,w3,n1,n2,Int.toNat_natCast,s1,s2,u32_or]
theorem qf7 (E : EnvT tab) (h : Heap) (x : U32) (n : Nat) {z : Int} (hz : z = n) (h1 : 1 ≤ n) (h2 : n ≤ 31) : ACallN E.toEnv qkw [.int .u32 x.toNat, .int .u64 z] h fun r h' => h' = h ∧ r = .int .u32 (rotF x n).toNat := by
  subst hz
  refine q0o qa1 q4w rfl rfl (q03 ?_)
  unfold q4w
  have w3 : IntKind.u64.wrap (32 - (n : Int)) = ((32 - n : Nat) : Int) := by
    have : (32 - (n : Int)) = ((32 - n : Nat) : Int) := by omega
    rw [this]; exact q1x (by omega)
  have n1 : ¬ ((n : Int) < 0) := by omega
  have n2 : ¬ (((32 - n : Nat) : Int) < 0) := by omega
  have s1 : IntKind.u32.wrap ((x.toNat : Int) * 2 ^ (min n IntKind.u32.bits)) = ((x <<< n).toNat : Int) := qyb x n (by omega)
  have s2 : ((x.toNat : Int).fdiv (2 ^ (min (32 - n) IntKind.u32.bits))) = ((x >>> (32 - n)).toNat : Int) := qya x (32 - n) (by omega)
  have e : rotF x n = x <<< n ||| x >>> (32 - n) := by unfold rotF turnF; rw [show 32 - (32 - n) = n by omega]
  rw [e]
  simp -implicitDefEqProofs only [zA,reduceCtorEq,Nat.reduceEqDiff,Nat.reduceAdd,w3,n1,n2,Int.toNat_natCast,s1,s2,u32_or]
theorem qnt (E : EnvT tab) (h : Heap) (a b c d : U32) : ACallN E.toEnv qnr [.int .u32 a.toNat, .int .u32 b.toNat, .int .u32 c.toNat, .int .u32 d.toNat] h fun r h' => h' = h ∧ r = (qx8 ⟨a, b, c, d⟩).V := by
  refine q0o qc5 q7c rfl rfl (q03 ?_)
  unfold q7c
  simp -implicitDefEqProofs only [zA,reduceCtorEq,Nat.reduceEqDiff,Nat.reduceAdd,qby,qgd]
  refine (qwv E _ _ 16 rfl (by omega) (by omega)).mono ?_
  rintro r h' ⟨rfl, rfl⟩
  simp -implicitDefEqProofs only [zA,reduceCtorEq,Nat.reduceEqDiff,qby,qgd]
  refine (qwv E _ _ 12 rfl (by omega) (by omega)).mono ?_
  rintro r h' ⟨rfl, rfl⟩
  simp -implicitDefEqProofs only [zA,reduceCtorEq,Nat.reduceEqDiff]
  unfold qc7
  simp -implicitDefEqProofs only [zA,reduceCtorEq,Nat.reduceEqDiff,qby,qgd]
  refine (qwv E _ _ 8 rfl (by omega) (by omega)).mono ?_
  rintro r h' ⟨rfl, rfl⟩
  simp -implicitDefEqProofs only [zA,reduceCtorEq,Nat.reduceEqDiff,qby,qgd]
  refine (qwv E _ _ 7 rfl (by omega) (by omega)).mono ?_
  rintro r h' ⟨rfl, rfl⟩
  simp -implicitDefEqProofs only [zA,reduceCtorEq,Nat.reduceEqDiff]
  rfl
theorem qiv (E : EnvT tab) (h : Heap) (a b c d : U32) : ACallN E.toEnv qgp [.int .u32 a.toNat, .int .u32 b.toNat, .int .u32 c.toNat, .int .u32 d.toNat] h fun r h' => h' = h ∧ r = (qx8 ⟨a, b, c, d⟩).V := by
  refine q0o q6x q2z rfl rfl (q03 ?_)
  unfold q2z
  simp -implicitDefEqProofs only [zA,reduceCtorEq,Nat.reduceEqDiff,Nat.reduceAdd,qby,qgd]
  refine (qf7 E _ _ 16 rfl (by omega) (by omega)).mono ?_
  rintro r h' ⟨rfl, rfl⟩
  simp -implicitDefEqProofs only [zA,reduceCtorEq,Nat.reduceEqDiff,qby,qgd]
  refine (qf7 E _ _ 12 rfl (by omega) (by omega)).mono ?_
  rintro r h' ⟨rfl, rfl⟩
  simp -implicitDefEqProofs only [zA,reduceCtorEq,Nat.reduceEqDiff]
  unfold q82
  simp -implicitDefEqProofs only [zA,reduceCtorEq,Nat.reduceEqDiff,qby,qgd]
  refine (qf7 E _ _ 8 rfl (by omega) (by omega)).mono ?_
  rintro r h' ⟨rfl, rfl⟩
  simp -implicitDefEqProofs only [zA,reduceCtorEq,Nat.reduceEqDiff,qby,qgd]
  refine (qf7 E _ _ 7 rfl (by omega) (by omega)).mono ?_
  rintro r h' ⟨rfl, rfl⟩
  simp -implicitDefEqProofs only [zA,reduceCtorEq,Nat.reduceEqDiff]
  rfl
theorem SlL.part {h : Heap} {base : Option Addr} {c : Nat} {L : List (List UInt8)} (s : SlL h (.slice base L.length c) L) (i : Nat) (hi : i < L.length) :
    ∃ b o u bi ci, base = some ⟨b, o, none⟩ ∧ u = .slice bi L[i].length ci ∧ SlB h u L[i] ∧ ∀ H, h.le H → q0x H ⟨b, o + i, none⟩ = some u := by
  obtain ⟨vs, hvs, sl, el⟩ := s
  obtain ⟨b, o, c', hv, hc, hcl⟩ := sl.ptr (by omega) (by omega)
  simp only [Value.slice.injEq, true_and] at hv
  obtain ⟨rfl, rfl⟩ := hv
  rw [Nat.mul_one] at hcl
  obtain ⟨bi, ci, e⟩ := Sl.shape (el i (by omega) hi)
  refine ⟨b, o, vs[i]'(by omega), bi, ci, rfl, e, el i (by omega) hi, fun H hH => ?_⟩
  rw [qi9 (q22 hH hcl) i hi]; simp [hvs, hi]
theorem SlL.shape {h : Heap} {v : Value} {L : List (List UInt8)} (s : SlL h v L) : ∃ base c, v = .slice base L.length c := by
  obtain ⟨vs, hvs, sl, el⟩ := s
  exact Sl.shape sl
theorem app1 {h0 H : Heap} {b1 : Nat} {v : Value} {l : List UInt8} {x : UInt8} {K : Value → Heap → Prop} (leH : h0.le H) (hb1 : H b1 = none) (ow : OwB h0 H v l) (hl : l.length ≤ 140737488355000)
    (hk : ∀ v' H', OwB h0 H' v' (l ++ [x]) → h0.le H' → K v' H') : qhr 1 1 (H.set b1 (.own 0 [.int .u8 (x.toNat : Int)] 1)) v (.slice (some ⟨b1, 0, none⟩) 1 1) K := by
  refine q0t (bytes := 1) (m := 1) (news := [u8V x]) (Heap.q1c leH hb1 _) (by omega) (ow.le (Heap.q02 (Heap.q04 _) hb1 _)) (Sl.lit (n := 1) rfl) rfl (by omega) (by omega) ?_
  intro v3 H3 ow3 le3
  refine hk v3 H3 ?_ le3
  unfold OwB
  rw [List.length_append, List.map_append]
  exact ow3
theorem qug (b c : UInt8) : IntKind.u8.wrap ((BitVec.ofInt IntKind.u8.bits (b.toNat : Int) ^^^ BitVec.ofInt IntKind.u8.bits (c.toNat : Int)).toNat : Int) = ((b ^^^ c).toNat : Int) := by
  rw [show IntKind.u8.bits = 8 from rfl, qob]
  simp only [q1d]
  congr 1
  simp [UInt8.toNat_xor]
theorem u8_or (b c : UInt8) : IntKind.u8.wrap ((BitVec.ofInt IntKind.u8.bits (b.toNat : Int) ||| BitVec.ofInt IntKind.u8.bits (c.toNat : Int)).toNat : Int) = ((b ||| c).toNat : Int) := by
  rw [show IntKind.u8.bits = 8 from rfl, qob]
  simp only [q1d]
  congr 1
  simp [UInt8.toNat_or]
def xorB (a b : List UInt8) : List UInt8 := List.zipWith (fun x y => x ^^^ y) a b
theorem qf2 (a b : List UInt8) : (xorB a b).length = min a.length b.length := by simp [xorB]
theorem qoa (a b : List UInt8) (i : Nat) (ha : i < a.length) (hb : i < b.length) : (xorB a b).take (i + 1) = (xorB a b).take i ++ [a[i] ^^^ b[i]] := by
  have h : i < (xorB a b).length := by rw [qf2]; omega
  rw [List.take_succ_eq_append_getElem h]
  simp [xorB]
theorem qne (E : EnvT tab) {h : Heap} {b : Nat} {s : Nat → U32} (hb : h b = some (.own 0 (rowU s 16) 16)) (i j k l : Nat) (hi : i < 16) (hj : j < 16) (hk : k < 16) (hl : l < 16) :
    ACallN E.toEnv qtm [.pointer (some ⟨b, 0, none⟩), .int .i64 i, .int .i64 j, .int .i64 k, .int .i64 l] h fun r h' => h' = h.set b (.own 0 (rowU (mixQ s i j k l) 16) 16) ∧ r = .tuple #[] := by
  refine q0o qhh qcm rfl rfl (q03 ?_)
  unfold qcm
  have i0 : (0 : Int) ≤ i := by omega
  have j0 : (0 : Int) ≤ j := by omega
  have k0 : (0 : Int) ≤ k := by omega
  have l0 : (0 : Int) ≤ l := by omega
  have i1 : (i : Int) < 16 := by omega
  have j1 : (j : Int) < 16 := by omega
  have k1 : (k : Int) < 16 := by omega
  have l1 : (l : Int) < 16 := by omega
  have ci := q7j hb hi
  have cj := q7j hb hj
  have ck := q7j hb hk
  have cl := q7j hb hl
  simp -implicitDefEqProofs only [zA,reduceCtorEq,Nat.reduceEqDiff,Nat.reduceAdd,i0,j0,k0,l0,i1,j1,k1,l1,ci,cj,ck,cl,Int.toNat_natCast]
  refine (qnt E _ _ _ _ _).mono ?_
  rintro r h' ⟨rfl, rfl⟩
  unfold Q4.V mixQ
  generalize qx8 ⟨s i, s j, s k, s l⟩ = q
  have s1 := q1h (z := q.a) hb hi
  have q1 := Heap.q01 h' b (.own 0 (rowU (updU s i q.a) 16) 16)
  have s2 := q1h (z := q.b) q1 hj
  rw [Heap.q5f] at s2
  have q2 := Heap.q01 h' b (.own 0 (rowU (updU (updU s i q.a) j q.b) 16) 16)
  have s3 := q1h (z := q.c) q2 hk
  rw [Heap.q5f] at s3
  have q3 := Heap.q01 h' b (.own 0 (rowU (updU (updU (updU s i q.a) j q.b) k q.c) 16) 16)
  have s4 := q1h (z := q.d) q3 hl
  rw [Heap.q5f] at s4
  simp -implicitDefEqProofs only [zA,reduceCtorEq,Nat.reduceEqDiff,Nat.reduceAdd,i0,j0,k0,l0,i1,j1,k1,l1,Int.toNat_natCast,s1,s2,s3,s4,implies_true,List.mem_cons,List.not_mem_nil,or_false,and_self]
theorem qlk (E : EnvT tab) (h : Heap) {v : Value} (l : List UInt8) (hl : 4 ≤ l.length) (s : SlB h v l) : ACallN E.toEnv qs5 [v] h fun r h' => h.le h' ∧ r = .int .u32 ((q0h (l.take 4)).setWidth 32).toNat := by
  obtain ⟨base, c, rfl⟩ := Sl.shape s
  refine q0o qfq qbe rfl rfl (q03 ?_)
  unfold qbe
  have hc : l.length ≤ c := by
    rcases s with ⟨e, hn, _⟩ | ⟨a, c', e, hc, _⟩
    · omega
    · cases e; exact hc
  have bd : bnds l.length c none (some (some (.int .i64 4))) none = some (0, 4, c) := q5t (by omega) (by omega)
  have hs := Sl.qsj s (m := 4) hl
  have l4 : (l.take 4).length = 4 := by simp; omega
  unfold SlB at hs
  rw [l4] at hs
  simp -implicitDefEqProofs only [zA,reduceCtorEq,Nat.reduceEqDiff,bd,Nat.sub_zero]
  rw [addO base c fun a _ => qf1 a]
  refine (qdi E h (l.take 4) (by omega) (by unfold SlB; rw [l4]; exact hs)).mono ?_
  rintro r h1 ⟨le1, rfl⟩
  simp -implicitDefEqProofs only [zA,reduceCtorEq,Nat.reduceEqDiff,u64V,qy4]
  exact le1
def qam (p f : Nat → U32) (i : Nat) : Nat → U32 := fun j => if j < i then p j else f j
theorem qpp {p f : Nat → U32} {i j : Nat} (h : j < i) : qam p f i j = p j := by simp [qam, h]
theorem j0b {p f : Nat → U32} {i j : Nat} (h : i ≤ j) : qam p f i j = f j := by simp [qam]; omega
theorem qb5 (p f : Nat → U32) (i : Nat) {z : U32} (hz : z = p i) : updU (qam p f i) i z = qam p f (i + 1) := by
  subst hz
  funext j
  simp only [updU, qam]
  by_cases e : j = i
  · subst e; simp
  · rw [if_neg e]
    by_cases e2 : j < i
    · rw [if_pos e2, if_pos (by omega)]
    · rw [if_neg e2, if_neg (by omega)]
theorem rowU_agg {H : Heap} {b n : Nat} {f : Nat → U32} {old : List Value} (h : H b = some (.own 0 old n)) (hl : old.length = n) (hn : 0 < n) : q0a H n (.pointer (some ⟨b, 0, none⟩)) (.agg (rowU f n).toArray) = some (H.set b (.own 0 (rowU f n) n)) :=
  q0f h hn (q89 _ _) (qhz _ _) hl (by omega)
theorem qpk : Value.int .u32 1634760805 :: Value.int .u32 857760878 :: Value.int .u32 2036477234 :: Value.int .u32 1797285236 :: List.replicate 12 (Value.int .u32 0) = rowU qwi 16 := rfl
theorem qnx {H : Heap} {b n : Nat} {l : List UInt8} (h : H b = some (.own 0 (l.map u8V) n)) (hl : l.length = n) (k : Nat) (hk : k < n) : SlB H (.slice (some (Addr.add ⟨b, 0, none⟩ k)) (n - k) (n - k)) (l.drop k) := by
  have s := qgl h
  have := Sl.qwu (a := k) (b := l.length) s (by omega) (Nat.le_refl _)
  rw [if_neg (by omega)] at this
  simp only [Option.map_some] at this
  rw [hl] at this
  rw [List.take_of_length_le (by simp; omega)] at this
  exact this
theorem constC_0 (n : Nat) : qwi (n + 4) = 0 := rfl
theorem qpj (key nonce : List UInt8) (count : U32) : rowU qwi 16 = rowU (qam (qbi key count nonce) (fun _ => 0) 4) 16 := by
  apply qm0
  intro j hj
  by_cases h : j < 4
  · rw [qpp h]; unfold qbi; rw [if_pos h]
  · rw [j0b (by omega)]
    obtain ⟨k, rfl⟩ : ∃ k, j = k + 4 := ⟨j - 4, by omega⟩
    exact constC_0 k
theorem qq9 (E : EnvT tab) (h : Heap) (key nonce : List UInt8) (count : U32) (hk : key.length = 32) (hn : nonce.length = 12) :
    ACallN E.toEnv qq6 [.agg (key.map u8V).toArray, .int .u32 count.toNat, .agg (nonce.map u8V).toArray] h fun r h' => h.le h' ∧ r = .agg (rowU (qbi key count nonce) 16).toArray := by
  refine q0o qed q9f rfl rfl (q03 ?_)
  unfold q9f
  have hk' : (key.map u8V).length = 32 := by simp [hk]
  have hn' : (nonce.map u8V).length = 12 := by simp [hn]
  have cr := qpj key nonce count
  have g12 : count = qbi key count nonce 12 := rfl
  have gk : ∀ i, i < 8 → qk9 key i = qbi key count nonce (4 + i) := by
    intro i hi
    unfold qbi
    rw [if_neg (by omega), if_pos (by omega), show 4 + i - 4 = i by omega]
  have gn : ∀ i, i < 3 → qk9 nonce i = qbi key count nonce (13 + i) := by
    intro i hi
    unfold qbi
    rw [if_neg (by omega), if_neg (by omega), if_neg (by omega), if_pos (by omega), show 13 + i - 13 = i by omega]
  generalize hg : qbi key count nonce = g at cr g12 gk gn ⊢
  simp -implicitDefEqProofs only [zA,reduceCtorEq,Nat.reduceEqDiff,Nat.reduceAdd,Nat.reduceSub,Nat.reduceLeDiff,hk',hn',List.length_replicate,List.drop_replicate,qpk,cr]
  intro b3 hb3 b5 hb5 b6 hb6 b7 hb7
  obtain ⟨n53, hb5'⟩ := Heap.q0b.1 hb5
  obtain ⟨n65, hb6a⟩ := Heap.q0b.1 hb6
  obtain ⟨n63, hb6'⟩ := Heap.q0b.1 hb6a
  have le1 : h.le (((h.set b3 (.own 0 (key.map u8V) 32)).set b5 (.own 0 (nonce.map u8V) 12)).set b6 (.own 0 (List.replicate 16 (.int .u32 0)) 16)) := Heap.q02 (Heap.q02 (Heap.q02 (Heap.q04 _) hb3 _) hb5' _) hb6' _
  have q3 : (((h.set b3 (.own 0 (key.map u8V) 32)).set b5 (.own 0 (nonce.map u8V) 12)).set b6 (.own 0 (List.replicate 16 (.int .u32 0)) 16)) b3 = some (.own 0 (key.map u8V) 32) := q07 (q07 (Heap.q01 _ _ _) (Ne.symm n53)) (Ne.symm n63)
  have q5 : (((h.set b3 (.own 0 (key.map u8V) 32)).set b5 (.own 0 (nonce.map u8V) 12)).set b6 (.own 0 (List.replicate 16 (.int .u32 0)) 16)) b5 = some (.own 0 (nonce.map u8V) 12) := q07 (Heap.q01 _ _ _) (Ne.symm n65)
  have q6 : (((h.set b3 (.own 0 (key.map u8V) 32)).set b5 (.own 0 (nonce.map u8V) 12)).set b6 (.own 0 (List.replicate 16 (.int .u32 0)) 16)) b6 = some (.own 0 (List.replicate 16 (.int .u32 0)) 16) := Heap.q01 _ _ _
  generalize (((h.set b3 (.own 0 (key.map u8V) 32)).set b5 (.own 0 (nonce.map u8V) 12)).set b6 (.own 0 (List.replicate 16 (.int .u32 0)) 16)) = h1 at le1 q3 q5 q6 hb7 ⊢
  have hb7' := Heap.q08 le1 hb7
  have n73 := q06 hb7 q3
  have n75 := q06 hb7 q5
  have n76 := q06 hb7 q6
  have s7 : q0a (h1.set b7 (.own 0 (List.replicate 16 (.int .u32 0)) 16)) 16 (.pointer (some ⟨b7, 0, none⟩)) (.agg (rowU (qam g (fun _ => 0) 4) 16).toArray) = some (h1.set b7 (.own 0 (rowU (qam g (fun _ => 0) 4) 16) 16)) := z6z (by omega) (q89 _ _) (qhz _ _) (by simp) (by omega)
  simp -implicitDefEqProofs only [zA,Nat.reduceEqDiff,s7]
  unfold qdw
  simp -implicitDefEqProofs only [zA,Nat.reduceEqDiff]
  refine q0c (fun m t H => h.le H ∧ ∃ i : Nat, i ≤ 8 ∧ m = 8 - i ∧ t = tl [(1, .int .u32 count.toNat), (3, .pointer (some ⟨b3, 0, none⟩)), (5, .pointer (some ⟨b5, 0, none⟩)), (6, .pointer (some ⟨b6, 0, none⟩)), (7, .pointer (some ⟨b7, 0, none⟩)), (11, .int .i64 i)] ∧
      H b3 = some (.own 0 (key.map u8V) 32) ∧ H b5 = some (.own 0 (nonce.map u8V) 12) ∧ H b6 = some (.own 0 (List.replicate 16 (.int .u32 0)) 16) ∧ H b7 = some (.own 0 (rowU (qam g (fun _ => 0) (4 + i)) 16) 16)) 8
    ⟨Heap.q1c le1 hb7 _, 0, by omega, rfl, rfl, q07 q3 n73, q07 q5 n75, q07 q6 n76, Heap.q01 _ _ _⟩ ?_
  clear q3 q5 q6 le1
  rintro m t H ⟨leH, i, hi, rfl, rfl, q3, q5, q6, q7⟩
  by_cases hlt : (i : Int) < 8
  · have hi' : i < 8 := by omega
    have w1 : IntKind.i64.wrap (4 + (i : Int)) = ((4 + i : Nat) : Int) := by rw [q0w (by omega) (by omega)]; rfl
    have w2 : IntKind.i64.wrap (4 * (i : Int)) = ((4 * i : Nat) : Int) := by rw [q0w (by omega) (by omega)]; rfl
    have w7 : IntKind.i64.wrap ((i : Int) + 1) = ((i + 1 : Nat) : Int) := q2k (by omega)
    have bd : bnds 32 32 (some (some (.int .i64 ((4 * i : Nat) : Int)))) none none = some (4 * i, 32, 32) := qb4 (by omega) (by omega)
    have ne : ¬ (32 = 4 * i) := by omega
    have e0 : (0 : Int) ≤ ((4 + i : Nat) : Int) := by omega
    have e1 : ((4 + i : Nat) : Int) < 16 := by omega
    simp -implicitDefEqProofs only [zA,Nat.reduceEqDiff,hlt,w1,w2,bd,ne]
    refine (qlk E _ (key.drop (4 * i)) (by simp; omega) (by have := qnx q3 hk (4 * i) (by omega); unfold SlB; rw [List.length_drop, hk]; unfold SlB at this; rw [List.length_drop, hk] at this; exact this)).mono ?_
    rintro r H2 ⟨le2, rfl⟩
    have s8 := q1h (z := qk9 key i) (le2 _ _ q7) (show 4 + i < 16 by omega)
    rw [qb5 g _ _ (gk i hi')] at s8
    unfold qk9 at s8
    simp -implicitDefEqProofs only [zA,Nat.reduceEqDiff,e0,e1,Int.toNat_natCast,s8,w7]
    exact ⟨_, by omega, Heap.q02 (Heap.q00 leH le2) hb7' _, i + 1, by omega, rfl, rfl, q07 (le2 _ _ q3) n73, q07 (le2 _ _ q5) n75, q07 (le2 _ _ q6) n76, Heap.q01 _ _ _⟩
  · obtain rfl : i = 8 := by omega
    simp -implicitDefEqProofs only [zA,Nat.reduceEqDiff,Nat.reduceSub,Int.reduceLT]
    unfold qdv
    have s8 := q1h (z := count) q7 (show 12 < 16 by omega)
    rw [qb5 g _ 12 g12] at s8
    simp -implicitDefEqProofs only [zA,Nat.reduceEqDiff,Nat.reduceAdd,Int.reduceLT,Int.reduceLE,Int.reduceToNat,s8]
    refine q0c (fun m t H => h.le H ∧ ∃ i : Nat, i ≤ 3 ∧ m = 3 - i ∧ t = tl [(5, .pointer (some ⟨b5, 0, none⟩)), (6, .pointer (some ⟨b6, 0, none⟩)), (7, .pointer (some ⟨b7, 0, none⟩)), (24, .int .i64 i)] ∧
        H b5 = some (.own 0 (nonce.map u8V) 12) ∧ H b6 = some (.own 0 (List.replicate 16 (.int .u32 0)) 16) ∧ H b7 = some (.own 0 (rowU (qam g (fun _ => 0) (13 + i)) 16) 16)) 3
      ⟨Heap.q02 leH hb7' _, 0, by omega, rfl, rfl, q07 q5 n75, q07 q6 n76, Heap.q01 _ _ _⟩ ?_
    clear q3 q5 q6 q7 leH s8 hlt hi
    rintro m t H ⟨leH, i, hi, rfl, rfl, q5, q6, q7⟩
    by_cases hlt : (i : Int) < 3
    · have hi' : i < 3 := by omega
      have w1 : IntKind.i64.wrap (13 + (i : Int)) = ((13 + i : Nat) : Int) := by rw [q0w (by omega) (by omega)]; rfl
      have w2 : IntKind.i64.wrap (4 * (i : Int)) = ((4 * i : Nat) : Int) := by rw [q0w (by omega) (by omega)]; rfl
      have w7 : IntKind.i64.wrap ((i : Int) + 1) = ((i + 1 : Nat) : Int) := q2k (by omega)
      have bd : bnds 12 12 (some (some (.int .i64 ((4 * i : Nat) : Int)))) none none = some (4 * i, 12, 12) := qb4 (by omega) (by omega)
      have ne : ¬ (12 = 4 * i) := by omega
      have e0 : (0 : Int) ≤ ((13 + i : Nat) : Int) := by omega
      have e1 : ((13 + i : Nat) : Int) < 16 := by omega
      simp -implicitDefEqProofs only [zA,Nat.reduceEqDiff,hlt,w1,w2,bd,ne]
      refine (qlk E _ (nonce.drop (4 * i)) (by simp; omega) (by have := qnx q5 hn (4 * i) (by omega); unfold SlB; rw [List.length_drop, hn]; unfold SlB at this; rw [List.length_drop, hn] at this; exact this)).mono ?_
      rintro r H2 ⟨le2, rfl⟩
      have s8 := q1h (z := qk9 nonce i) (le2 _ _ q7) (show 13 + i < 16 by omega)
      rw [qb5 g _ _ (gn i hi')] at s8
      unfold qk9 at s8
      simp -implicitDefEqProofs only [zA,Nat.reduceEqDiff,e0,e1,Int.toNat_natCast,s8,w7]
      exact ⟨_, by omega, Heap.q02 (Heap.q00 leH le2) hb7' _, i + 1, by omega, rfl, rfl, q07 (le2 _ _ q5) n75, q07 (le2 _ _ q6) n76, Heap.q01 _ _ _⟩
    · obtain rfl : i = 3 := by omega
      have eg : rowU (qam g (fun _ => 0) (13 + 3)) 16 = rowU g 16 := qm0 fun j hj => qpp hj
      rw [eg] at q7
      have l7 := qm1 q7
      have s6 := rowU_agg (f := g) q6 (by simp) (by omega)
      have l6 : q05 (H.set b6 (.own 0 (rowU g 16) 16)) ⟨b6, 0, none⟩ 16 = some (rowU g 16) := z6x (q89 _ _)
      simp -implicitDefEqProofs only [zA,Nat.reduceEqDiff,Nat.reduceSub,Int.reduceLT,l7,s6,l6]
      exact Heap.q02 leH hb6' _
theorem quk (f g : Nat → UInt8) (n a m : Nat) (h : a + m ≤ n) : q1t (row8 f n) a (((List.range m).map fun k => g (a + k)).map u8V) = row8 (fun j => if a ≤ j ∧ j < a + m then g j else f j) n := by
  apply List.ext_getElem?
  intro j
  rw [getElem?_splice (by rw [q0m]; omega)]
  simp only [List.length_map, List.length_range]
  by_cases h1 : j < a
  · rw [if_pos h1]
    have hj : j < n := by omega
    rw [List.getElem?_eq_getElem (by rw [q0m]; exact hj), List.getElem?_eq_getElem (by rw [q0m]; exact hj), q74, q74, if_neg (by omega)]
  · rw [if_neg h1]
    by_cases h2 : j < a + m
    · have hj : j < n := by omega
      rw [if_pos h2, List.getElem?_eq_getElem (l := row8 _ n) (by rw [q0m]; exact hj), q74, if_pos (by omega)]
      rw [List.getElem?_eq_getElem (by simp; omega)]
      simp [u8V]
      rw [show a + (j - a) = j by omega]
    · rw [if_neg h2]
      by_cases hj : j < n
      · rw [List.getElem?_eq_getElem (by rw [q0m]; exact hj), List.getElem?_eq_getElem (by rw [q0m]; exact hj), q74, q74, if_neg (by omega)]
      · rw [List.getElem?_eq_none (by rw [q0m]; omega), List.getElem?_eq_none (by rw [q0m]; omega)]
def qg5 (p : Nat → UInt8) (i : Nat) : Nat → UInt8 := fun j => if j < i then p j else 0
theorem qwo (p : Nat → UInt8) (n : Nat) : List.replicate n (Value.int .u8 0) = row8 (qg5 p 0) n := by
  apply List.ext_getElem
  · simp [row8]
  · intro j h1 h2
    rw [q74]; simp [qg5]
theorem qra (p : Nat → UInt8) (n : Nat) : row8 (qg5 p n) n = row8 p n := q1s fun j hj => by simp [qg5, hj]
theorem qr9 (p : Nat → UInt8) (i n : Nat) (h : 4 * i + 4 ≤ n) : q1t (row8 (qg5 p (4 * i)) n) (4 * i) (((List.range 4).map fun k => p (4 * i + k)).map u8V) = row8 (qg5 p (4 * (i + 1))) n := by
  rw [quk _ p n (4 * i) 4 h]
  apply q1s
  intro j hj
  unfold qg5
  by_cases h1 : 4 * i ≤ j ∧ j < 4 * i + 4
  · rw [if_pos h1, if_pos (by omega)]
  · rw [if_neg h1]
    by_cases h2 : j < 4 * i
    · rw [if_pos h2, if_pos (by omega)]
    · rw [if_neg h2, if_neg (by omega)]
theorem tmod4 (a : Nat) : Int.tmod (a : Int) 4 = ((a % 4 : Nat) : Int) := by
  rw [Int.tmod_eq_emod_of_nonneg (by omega)]; rfl
theorem qj2 (E : EnvT tab) (h : Heap) (key nonce : List UInt8) (count : U32) (hk : key.length = 32) (hn : nonce.length = 12) :
    ACallN E.toEnv qq7 [.agg (key.map u8V).toArray, .int .u32 count.toNat, .agg (nonce.map u8V).toArray] h fun r h' => h.le h' ∧ r = .agg (row8 (q6b key count nonce) 64).toArray := by
  refine q0o qee q9g rfl rfl (q03 ?_)
  unfold q9g
  have hk' : (key.map u8V).length = 32 := by simp [hk]
  have hn' : (nonce.map u8V).length = 12 := by simp [hn]
  unfold q6b
  simp -implicitDefEqProofs only [zA,reduceCtorEq,Nat.reduceEqDiff,Nat.reduceAdd,hk',hn',List.length_replicate]
  intro b3 hb3 b5 hb5 b6 hb6
  obtain ⟨n53, hb5'⟩ := Heap.q0b.1 hb5
  obtain ⟨n65, hb6a⟩ := Heap.q0b.1 hb6
  obtain ⟨n63, hb6'⟩ := Heap.q0b.1 hb6a
  have le1 : h.le (((h.set b3 (.own 0 (key.map u8V) 32)).set b5 (.own 0 (nonce.map u8V) 12)).set b6 (.own 0 (List.replicate 64 (.int .u8 0)) 64)) := Heap.q02 (Heap.q02 (Heap.q02 (Heap.q04 _) hb3 _) hb5' _) hb6' _
  have l3 : q05 (((h.set b3 (.own 0 (key.map u8V) 32)).set b5 (.own 0 (nonce.map u8V) 12)).set b6 (.own 0 (List.replicate 64 (.int .u8 0)) 64)) ⟨b3, 0, none⟩ 32 = some (key.map u8V) := q0u (q07 (q07 (Heap.q01 _ _ _) (Ne.symm n53)) (Ne.symm n63)) hk'
  have l5 : q05 (((h.set b3 (.own 0 (key.map u8V) 32)).set b5 (.own 0 (nonce.map u8V) 12)).set b6 (.own 0 (List.replicate 64 (.int .u8 0)) 64)) ⟨b5, 0, none⟩ 12 = some (nonce.map u8V) := q0u (q07 (Heap.q01 _ _ _) (Ne.symm n65)) hn'
  have q6 : (((h.set b3 (.own 0 (key.map u8V) 32)).set b5 (.own 0 (nonce.map u8V) 12)).set b6 (.own 0 (List.replicate 64 (.int .u8 0)) 64)) b6 = some (.own 0 (List.replicate 64 (.int .u8 0)) 64) := Heap.q01 _ _ _
  generalize (((h.set b3 (.own 0 (key.map u8V) 32)).set b5 (.own 0 (nonce.map u8V) 12)).set b6 (.own 0 (List.replicate 64 (.int .u8 0)) 64)) = h1 at le1 l3 l5 q6 ⊢
  try simp -implicitDefEqProofs only [zA,Nat.reduceEqDiff,l3,l5]
  refine (qq9 E _ key nonce count hk hn).mono ?_
  rintro r h2 ⟨le2, rfl⟩
  generalize qbi key count nonce = st
  have le02 := Heap.q00 le1 le2
  have q62 := le2 _ _ q6
  simp -implicitDefEqProofs only [zA,Nat.reduceEqDiff,List.length_replicate]
  intro b7 hb7
  have s7 : q0a (h2.set b7 (.own 0 (List.replicate 16 (.int .u32 0)) 16)) 16 (.pointer (some ⟨b7, 0, none⟩)) (.agg (rowU st 16).toArray) = some (h2.set b7 (.own 0 (rowU st 16) 16)) := z6z (by omega) (q89 _ _) (qhz _ _) (by simp) (by omega)
  have le7 := Heap.q1c le02 hb7 (.own 0 (rowU st 16) 16)
  have q67 := q1b (X := .own 0 (rowU st 16) 16) hb7 q62
  have q77 := Heap.q01 h2 b7 (.own 0 (rowU st 16) 16)
  have l7 := qm1 q77
  simp -implicitDefEqProofs only [zA,Nat.reduceEqDiff,s7,l7,List.length_replicate]
  generalize (h2.set b7 (.own 0 (rowU st 16) 16)) = h3 at le7 q67 q77 ⊢
  intro b8 hb8
  have s8 : q0a (h3.set b8 (.own 0 (List.replicate 16 (.int .u32 0)) 16)) 16 (.pointer (some ⟨b8, 0, none⟩)) (.agg (rowU st 16).toArray) = some (h3.set b8 (.own 0 (rowU st 16) 16)) := z6z (by omega) (q89 _ _) (qhz _ _) (by simp) (by omega)
  have le8 := Heap.q1c le7 hb8 (.own 0 (rowU st 16) 16)
  have q68 := q1b (X := .own 0 (rowU st 16) 16) hb8 q67
  have q78 := q1b (X := .own 0 (rowU st 16) 16) hb8 q77
  have q88 := Heap.q01 h3 b8 (.own 0 (rowU st 16) 16)
  have n68 := q06 hb8 q67
  have n78 := q06 hb8 q77
  have hb8' := Heap.q08 le7 hb8
  simp -implicitDefEqProofs only [zA,Nat.reduceEqDiff,s8]
  generalize (h3.set b8 (.own 0 (rowU st 16) 16)) = h4 at le8 q68 q78 q88 ⊢
  refine q0c (fun m t H => h.le H ∧ ∃ n : Nat, n ≤ 10 ∧ m = 10 - n ∧ t = tl [(6, .pointer (some ⟨b6, 0, none⟩)), (7, .pointer (some ⟨b7, 0, none⟩)), (8, .pointer (some ⟨b8, 0, none⟩)), (18, .int .i64 n)] ∧
      H b6 = some (.own 0 (List.replicate 64 (.int .u8 0)) 64) ∧ H b7 = some (.own 0 (rowU st 16) 16) ∧ H b8 = some (.own 0 (rowU (q7k st n) 16) 16)) 10
    ⟨le8, 0, by omega, rfl, rfl, q68, q78, q88⟩ ?_
  clear q68 q78 q88 le8 l7 l3 l5
  rintro m t H ⟨leH, n, hn10, rfl, rfl, q6, q7, q8⟩
  by_cases hlt : (n : Int) < 10
  · simp -implicitDefEqProofs only [zA,Nat.reduceEqDiff,hlt]
    unfold qas
    simp -implicitDefEqProofs only [zA,Nat.reduceEqDiff]
    refine q0c (fun m t H => h.le H ∧ ∃ i : Nat, i ≤ 4 ∧ m = 4 - i ∧ t = tl [(6, .pointer (some ⟨b6, 0, none⟩)), (7, .pointer (some ⟨b7, 0, none⟩)), (8, .pointer (some ⟨b8, 0, none⟩)), (18, .int .i64 n), (20, .int .i64 i)] ∧
        H b6 = some (.own 0 (List.replicate 64 (.int .u8 0)) 64) ∧ H b7 = some (.own 0 (rowU st 16) 16) ∧ H b8 = some (.own 0 (rowU (qns (q7k st n) i) 16) 16)) 4
      ⟨leH, 0, by omega, rfl, rfl, q6, q7, q8⟩ ?_
    clear q6 q7 q8 leH
    rintro m t H ⟨leH, i, hi, rfl, rfl, q6, q7, q8⟩
    by_cases hli : (i : Int) < 4
    · have w1 : IntKind.i64.wrap (4 + (i : Int)) = ((4 + i : Nat) : Int) := by rw [q0w (by omega) (by omega)]; rfl
      have w2 : IntKind.i64.wrap (8 + (i : Int)) = ((8 + i : Nat) : Int) := by rw [q0w (by omega) (by omega)]; rfl
      have w3 : IntKind.i64.wrap (12 + (i : Int)) = ((12 + i : Nat) : Int) := by rw [q0w (by omega) (by omega)]; rfl
      have w7 : IntKind.i64.wrap ((i : Int) + 1) = ((i + 1 : Nat) : Int) := q2k (by omega)
      simp -implicitDefEqProofs only [zA,Nat.reduceEqDiff,hli,w1,w2,w3]
      refine (qne E q8 i (4 + i) (8 + i) (12 + i) (by omega) (by omega) (by omega) (by omega)).mono ?_
      rintro r H' ⟨rfl, rfl⟩
      simp -implicitDefEqProofs only [zA,Nat.reduceEqDiff,w7]
      exact ⟨_, by omega, Heap.q02 leH hb8' _, i + 1, by omega, rfl, rfl, q07 q6 n68, q07 q7 n78, Heap.q01 _ _ _⟩
    · obtain rfl : i = 4 := by omega
      simp -implicitDefEqProofs only [zA,Nat.reduceEqDiff,Nat.reduceSub,Int.reduceLT]
      unfold qdy
      simp -implicitDefEqProofs only [zA]
      refine q0c (fun m t H => h.le H ∧ ∃ i : Nat, i ≤ 4 ∧ m = 4 - i ∧ t = tl [(6, .pointer (some ⟨b6, 0, none⟩)), (7, .pointer (some ⟨b7, 0, none⟩)), (8, .pointer (some ⟨b8, 0, none⟩)), (18, .int .i64 n), (32, .int .i64 i)] ∧
          H b6 = some (.own 0 (List.replicate 64 (.int .u8 0)) 64) ∧ H b7 = some (.own 0 (rowU st 16) 16) ∧ H b8 = some (.own 0 (rowU (qvk (qns (q7k st n) 4) i) 16) 16)) 4
        ⟨leH, 0, by omega, rfl, rfl, q6, q7, q8⟩ ?_
      clear q6 q7 q8 leH hli hi
      rintro m t H ⟨leH, i, hi, rfl, rfl, q6, q7, q8⟩
      by_cases hli : (i : Int) < 4
      · have w7 : IntKind.i64.wrap ((i : Int) + 1) = ((i + 1 : Nat) : Int) := q2k (by omega)
        have w8 : IntKind.i64.wrap ((i : Int) + 2) = ((i + 2 : Nat) : Int) := by rw [q0w (by omega) (by omega)]; rfl
        have w9 : IntKind.i64.wrap ((i : Int) + 3) = ((i + 3 : Nat) : Int) := by rw [q0w (by omega) (by omega)]; rfl
        have r1 : IntKind.i64.wrap (((i + 1) % 4 : Nat) : Int) = (((i + 1) % 4 : Nat) : Int) := q0w (by omega) (by omega)
        have r2 : IntKind.i64.wrap (((i + 2) % 4 : Nat) : Int) = (((i + 2) % 4 : Nat) : Int) := q0w (by omega) (by omega)
        have r3 : IntKind.i64.wrap (((i + 3) % 4 : Nat) : Int) = (((i + 3) % 4 : Nat) : Int) := q0w (by omega) (by omega)
        have w1 : IntKind.i64.wrap (4 + (((i + 1) % 4 : Nat) : Int)) = ((4 + (i + 1) % 4 : Nat) : Int) := by rw [q0w (by omega) (by omega)]; rfl
        have w2 : IntKind.i64.wrap (8 + (((i + 2) % 4 : Nat) : Int)) = ((8 + (i + 2) % 4 : Nat) : Int) := by rw [q0w (by omega) (by omega)]; rfl
        have w3 : IntKind.i64.wrap (12 + (((i + 3) % 4 : Nat) : Int)) = ((12 + (i + 3) % 4 : Nat) : Int) := by rw [q0w (by omega) (by omega)]; rfl
        simp -implicitDefEqProofs only [zA,Nat.reduceEqDiff,Int.reduceEq,hli,w7,w8,w9,tmod4,w1,w2,w3]
        refine (qne E q8 i (4 + (i + 1) % 4) (8 + (i + 2) % 4) (12 + (i + 3) % 4) (by omega) (by omega) (by omega) (by omega)).mono ?_
        rintro r H' ⟨rfl, rfl⟩
        simp -implicitDefEqProofs only [zA,Nat.reduceEqDiff,w7]
        exact ⟨_, by omega, Heap.q02 leH hb8' _, i + 1, by omega, rfl, rfl, q07 q6 n68, q07 q7 n78, Heap.q01 _ _ _⟩
      · obtain rfl : i = 4 := by omega
        have w7 : IntKind.i64.wrap ((n : Int) + 1) = ((n + 1 : Nat) : Int) := q2k (by omega)
        simp -implicitDefEqProofs only [zA,Nat.reduceEqDiff,Nat.reduceSub,Int.reduceLT,w7]
        exact ⟨_, by omega, leH, n + 1, by omega, rfl, rfl, q6, q7, q8⟩
  · obtain rfl : n = 10 := by omega
    simp -implicitDefEqProofs only [zA,Nat.reduceEqDiff,Nat.reduceSub,Int.reduceLT]
    unfold qas
    simp -implicitDefEqProofs only [zA,Nat.reduceEqDiff,List.length_replicate]
    intro b11 hb11
    rw [qwo (q6a (qbx st)) 64]
    have hb11' := Heap.q08 leH hb11
    have n611 := q06 hb11 q6
    have n711 := q06 hb11 q7
    have n811 := q06 hb11 q8
    unfold qdx
    simp -implicitDefEqProofs only [zA,Nat.reduceEqDiff]
    have leP := Heap.q1c leH hb11 (.own 0 (row8 (qg5 (q6a (qbx st)) 0) 64) 64)
    refine q0c (fun m t H => h.le H ∧ ∃ i : Nat, i ≤ 16 ∧ m = 16 - i ∧ t = tl [(6, .pointer (some ⟨b6, 0, none⟩)), (7, .pointer (some ⟨b7, 0, none⟩)), (8, .pointer (some ⟨b8, 0, none⟩)), (11, .pointer (some ⟨b11, 0, none⟩)), (51, .int .i64 i)] ∧
        H b6 = some (.own 0 (List.replicate 64 (.int .u8 0)) 64) ∧ H b7 = some (.own 0 (rowU st 16) 16) ∧ H b8 = some (.own 0 (rowU (q7k st 10) 16) 16) ∧ H b11 = some (.own 0 (row8 (qg5 (q6a (qbx st)) (4 * i)) 64) 64)) 16
      ⟨leP, 0, by omega, rfl, rfl, q1b hb11 q6, q1b hb11 q7, q1b hb11 q8, Heap.q01 _ _ _⟩ ?_
    clear q6 q7 q8 leH leP hlt
    rintro m t H ⟨leH, i, hi, rfl, rfl, q6, q7, q8, q11⟩
    by_cases hlt : (i : Int) < 16
    · have hi' : i < 16 := by omega
      have e0 : (0 : Int) ≤ (i : Int) := by omega
      have c8 := q7j q8 hi'
      have c7 := q7j q7 hi'
      have w7 : IntKind.i64.wrap ((i : Int) + 1) = ((i + 1 : Nat) : Int) := q2k (by omega)
      have w2 : IntKind.i64.wrap (4 * (i : Int)) = ((4 * i : Nat) : Int) := by rw [q0w (by omega) (by omega)]; rfl
      have bd : bnds 64 64 (some (some (.int .i64 ((4 * i : Nat) : Int)))) none none = some (4 * i, 64, 64) := qb4 (by omega) (by omega)
      have ne : ¬ (64 = 4 * i) := by omega
      simp -implicitDefEqProofs only [zA,Nat.reduceEqDiff,hlt,e0,Int.toNat_natCast,c8,c7,qby,qy8]
      refine (q7z E _ [] (by simp) (Ow.nil H H 1).sl ((qbx st i).setWidth 64) 4 (by omega)).mono ?_
      rintro r H2 ⟨le2, ow⟩
      rw [List.nil_append] at ow
      have so := ow.sl
      unfold SlB at so
      rw [q1f] at so
      obtain ⟨base, c, rfl⟩ := Sl.shape so
      have q11' := le2 _ _ q11
      simp -implicitDefEqProofs only [zA,Nat.reduceEqDiff,w2,bd,ne,qfz,List.mem_cons,List.not_mem_nil,or_false,implies_true]
      refine qd3 (size := 1) (m := 4) (o := 4 * i) q11' (by rw [q0m]; omega) (by rw [q0m]; omega) so (q1i _) ?_
      have et : ((q1j ((qbx st i).setWidth 64) 4).map u8V).take (min 4 (64 - 4 * i) * 1) = ((List.range 4).map fun k => q6a (qbx st) (4 * i + k)).map u8V := by
        rw [List.take_of_length_le (by simp [q1f]; omega), qlo]
      rw [et, qr9 _ _ _ (by omega)]
      simp -implicitDefEqProofs only [zA,Nat.reduceEqDiff,w7]
      exact ⟨_, by omega, Heap.q02 (Heap.q00 leH le2) hb11' _, i + 1, by omega, rfl, rfl, q07 (le2 _ _ q6) n611, q07 (le2 _ _ q7) n711, q07 (le2 _ _ q8) n811, Heap.q01 _ _ _⟩
    · obtain rfl : i = 16 := by omega
      have e64 : row8 (qg5 (q6a (qbx st)) (4 * 16)) 64 = row8 (q6a (qbx st)) 64 := qra _ _
      rw [e64] at q11
      have l11 : q05 H ⟨b11, 0, none⟩ 64 = some (row8 (q6a (qbx st)) 64) := q0u q11 (q0m _ _)
      have s6 : q0a H 64 (.pointer (some ⟨b6, 0, none⟩)) (.agg (row8 (q6a (qbx st)) 64).toArray) = some (H.set b6 (.own 0 (row8 (q6a (qbx st)) 64) 64)) := q0f q6 (by omega) (q0m _ _) (by simp [row8, one]) (by simp) (by omega)
      have l6 : q05 (H.set b6 (.own 0 (row8 (q6a (qbx st)) 64) 64)) ⟨b6, 0, none⟩ 64 = some (row8 (q6a (qbx st)) 64) := z6x (q0m _ _)
      simp -implicitDefEqProofs only [zA,Nat.reduceEqDiff,Nat.reduceSub,Int.reduceLT,l11,s6,l6]
      exact Heap.q02 leH hb6' _
theorem qq0 (E : EnvT tab) (h : Heap) {v : Value} (l : List UInt8) (hl : l.length ≤ 8) (s : SlB h v l) : ACallN E.toEnv qgq [v] h fun r h' => h' = h ∧ r = .tuple #[u64V (qe3 l), .bool true] := by
  obtain ⟨base, c, rfl⟩ := Sl.shape s
  refine q0o q6y q30 rfl rfl (q03 ?_)
  unfold q30
  have g1 : ¬ (8 : Int) < l.length := by omega
  simp -implicitDefEqProofs only [zA,reduceCtorEq,Nat.reduceEqDiff,g1]
  unfold q8v
  simp -implicitDefEqProofs only [zA,reduceCtorEq,Nat.reduceEqDiff]
  refine q0c (fun m t H => H = h ∧ ∃ (j : Nat), t = tl [(0, .slice base l.length c), (4, .int .u64 (qe3 (l.take j)).toNat), (5, .int .i64 j)] ∧ j ≤ l.length ∧ m = l.length - j) l.length
    ⟨rfl, 0, rfl, by omega, by omega⟩ ?_
  rintro m t H ⟨rfl, j, rfl, hj, rfl⟩
  by_cases hlt : j < l.length
  · obtain ⟨b, o, c', hv, hc, hcl⟩ := Sl.q7x s j hlt
    simp only [Value.slice.injEq, true_and] at hv
    obtain ⟨rfl, rfl⟩ := hv
    have hz := hcl H (Heap.q04 _)
    unfold u8V at hz
    have e1 : (j : Int) < l.length := by omega
    have e2 : (0 : Int) ≤ j := by omega
    simp -implicitDefEqProofs only [zA,reduceCtorEq,Nat.reduceEqDiff,Int.reduceLT,Int.reduceToNat,Nat.reduceLeDiff,e1,e2,hz,Int.toNat_natCast,qy7,u8_u64,u64_or,q2k (n := j) (by omega)]
    refine ⟨_, ?_, j + 1, ?_, hlt, rfl⟩
    · omega
    · rw [List.take_succ_eq_append_getElem hlt]
      simp only [qe3, List.foldl_append, List.foldl_cons, List.foldl_nil]
  · have e1 : ¬ (j : Int) < l.length := by omega
    have : j = l.length := by omega
    subst this
    rw [List.take_length]
    simp -implicitDefEqProofs only [zA,reduceCtorEq,Nat.reduceEqDiff,e1]
    rfl
theorem quo (E : EnvT tab) (h : Heap) {v : Value} (l : List UInt8) (hl : l.length ≤ 140737488355000) (s : SlB h v l) : ACallN E.toEnv ql0 [v] h fun r h' => h.le h' ∧ OwB h h' r l.reverse := by
  obtain ⟨base, c, rfl⟩ := Sl.shape s
  refine q0o qa5 q50 rfl rfl (q03 ?_)
  unfold q50
  have w0 : IntKind.i64.wrap ((l.length : Int) - 1) = (l.length : Int) - 1 - ((0 : Nat) : Int) := by rw [q0w (by omega) (by omega)]; omega
  simp -implicitDefEqProofs only [zA,reduceCtorEq,Nat.reduceEqDiff,w0]
  refine q0c (fun m t H => h.le H ∧ ∃ (j : Nat) (v3 : Value), t = tl [(0, .slice base l.length c), (3, v3), (4, .int .i64 ((l.length : Int) - 1 - (j : Nat)))] ∧ j ≤ l.length ∧ m = l.length - j ∧ OwB h H v3 (l.reverse.take j)) l.length
    ⟨Heap.q04 _, 0, _, rfl, by omega, by omega, Ow.nil _ _ _⟩ ?_
  rintro m t H ⟨leH, j, v3, rfl, hj, rfl, ow⟩
  by_cases hlt : j < l.length
  · have e2 : (0 : Int) ≤ (l.length : Int) - 1 - (j : Int) := by omega
    obtain ⟨k, hk⟩ : ∃ k : Nat, (l.length : Int) - 1 - (j : Int) = (k : Int) := ⟨l.length - 1 - j, by omega⟩
    have hk' : k = l.length - 1 - j := by omega
    obtain ⟨b, o, c', hv, hc, hcl⟩ := Sl.q7x s k (by omega)
    simp only [Value.slice.injEq, true_and] at hv
    obtain ⟨rfl, rfl⟩ := hv
    have hz := hcl H leH
    unfold u8V at hz
    have e0 : (0 : Int) ≤ (k : Int) := by omega
    have e1 : (k : Int) < (l.length : Int) := by omega
    have w1 : IntKind.i64.wrap ((k : Int) - 1) = (l.length : Int) - 1 - ((j + 1 : Nat) : Int) := by rw [q0w (by omega) (by omega)]; omega
    rw [hk]
    simp -implicitDefEqProofs only [zA,reduceCtorEq,Nat.reduceEqDiff,e0,e1,hz,Int.toNat_natCast]
    intro b1 hb1
    try simp -implicitDefEqProofs only [zA,reduceCtorEq,Nat.reduceEqDiff]
    refine app1 leH hb1 ow (by simp; omega) ?_
    intro v4 H4 ow4 le4
    simp -implicitDefEqProofs only [zA,reduceCtorEq,Nat.reduceEqDiff,w1]
    refine ⟨l.length - (j + 1), by omega, le4, j + 1, v4, rfl, by omega, rfl, ?_⟩
    rw [List.take_succ_eq_append_getElem (by simpa using hlt)]
    have : l.reverse[j]'(by simpa using hlt) = l[k]'(by omega) := by simp [hk']
    rw [this]
    exact ow4
  · have e2 : ¬ (0 : Int) ≤ (l.length : Int) - 1 - (j : Int) := by omega
    have : j = l.length := by omega
    subst this
    rw [List.take_of_length_le (by simp)] at ow
    simp -implicitDefEqProofs only [zA,reduceCtorEq,Nat.reduceEqDiff,e2]
    exact ⟨leH, ow⟩
theorem qm2 (E : EnvT tab) (h : Heap) {v : Value} (l : List UInt8) (hl : l.length ≤ 8) (s : SlB h v l) : ACallN E.toEnv qeq [v] h fun r h' => h.le h' ∧ r = .tuple #[u64V (q0h l), .bool true] := by
  refine q0o q4d q21 rfl rfl (q03 ?_)
  unfold q21
  simp -implicitDefEqProofs only [zA,reduceCtorEq]
  refine (quo E h l (by omega) s).mono ?_
  rintro r h1 ⟨le1, ow⟩
  simp -implicitDefEqProofs only [zA,reduceCtorEq,Nat.reduceEqDiff]
  refine (qq0 E h1 l.reverse (by simpa using hl) ow.sl).mono ?_
  rintro r2 h2 ⟨rfl, rfl⟩
  simp -implicitDefEqProofs only [zA,reduceCtorEq,Nat.reduceEqDiff]
  exact ⟨le1, rfl⟩
theorem qot (E : EnvT tab) (h : Heap) (n : Nat) (hn : n ≤ 8) : ACallN E.toEnv qkz [.int .i64 n] h fun r h' => h' = h ∧ r = .int .i64 n := by
  refine q0o qa4 q4z rfl rfl (q03 ?_)
  unfold q4z
  have g1 : ¬ (n : Int) < 0 := by omega
  have g2 : ¬ (8 : Int) < n := by omega
  have g3 : (n : Int) ≤ 8 := by omega
  simp -implicitDefEqProofs only [zA,reduceCtorEq,Nat.reduceEqDiff,g1,g2]
theorem qf8 (E : EnvT tab) (h : Heap) {b : Value} (l : List UInt8) (hl : l.length ≤ 140737488350000) (s : SlB h b l) (v : U64) (n : Nat) (hn : n ≤ 8) : ACallN E.toEnv qii [b, .int .u64 v.toNat, .int .i64 n] h fun r h' => h.le h' ∧ OwB h h' r (l ++ q1j v n) := by
  refine q0o q7o q3g rfl rfl (q03 ?_)
  unfold q3g
  simp -implicitDefEqProofs only [zA,reduceCtorEq,Nat.reduceEqDiff,Nat.reduceAdd]
  unfold q9t
  simp -implicitDefEqProofs only [zA,reduceCtorEq,Nat.reduceEqDiff]
  intro b1 hb1
  refine q0t (bytes := 1) (n := 0) (cells := []) (m := l.length) (news := l.map u8V) (Heap.q02 (Heap.q04 _) hb1 _) (by omega) (Ow.new (Heap.q04 _) hb1 rfl (by omega) (by omega)) (s.le (Heap.q02 (Heap.q04 _) hb1 _)) (q1i l) (by omega) (by omega) ?_
  intro v' h1 ow le1
  rw [Nat.zero_add, List.nil_append] at ow
  simp -implicitDefEqProofs only [zA,reduceCtorEq,Nat.reduceEqDiff]
  refine q0c (fun m t H => h.le H ∧ ∃ (j : Nat) (v7 : Value), t = tl [(1, .int .u64 v.toNat), (2, .int .i64 n), (7, v7), (8, .int .i64 j)] ∧ j ≤ n ∧ m = n - j ∧ OwB h H v7 (l ++ q1j v j)) n
    ⟨le1, 0, _, rfl, by omega, by omega, by simpa [q1j] using ow⟩ ?_
  rintro m t H ⟨leH, j, v7, rfl, hj, rfl, ow'⟩
  simp -implicitDefEqProofs only [zA,Nat.reduceEqDiff]
  refine (qot E H n hn).mono ?_
  rintro r H' ⟨rfl, rfl⟩
  by_cases hlt : j < n
  · have e1 : (j : Int) < n := by omega
    have w1 : IntKind.i64.wrap (8 * (j : Int)) = ((8 * j : Nat) : Int) := by rw [q0w (by omega) (by omega)]; omega
    have w1' : IntKind.u64.wrap ((8 * j : Nat) : Int) = ((8 * j : Nat) : Int) := q1x (by omega)
    have w2 : IntKind.i64.wrap ((j : Int) + 1) = ((j + 1 : Nat) : Int) := q2k (by omega)
    have n1 : ¬ (((8 * j : Nat) : Int) < 0) := by omega
    have sh : ((v.toNat : Int).fdiv (2 ^ (min (8 * j) IntKind.u64.bits))) = ((v >>> (8 * j)).toNat : Int) := qrh v (8 * j) (by omega)
    simp -implicitDefEqProofs only [zA,Nat.reduceEqDiff,e1,w1,w1',n1,Int.toNat_natCast,sh,qw0]
    intro b1 hb1
    try simp -implicitDefEqProofs only [zA,Nat.reduceEqDiff]
    refine app1 leH hb1 ow' (by rw [List.length_append, q1f]; omega) ?_
    intro v3 H3 ow3 le3
    simp -implicitDefEqProofs only [zA,Nat.reduceEqDiff,w2]
    refine ⟨n - (j + 1), by omega, le3, j + 1, v3, rfl, by omega, rfl, ?_⟩
    rw [qn6, ← List.append_assoc]
    exact ow3
  · have e1 : ¬ (j : Int) < n := by omega
    have : j = n := by omega
    subst this
    simp -implicitDefEqProofs only [zA,Nat.reduceEqDiff,e1]
    exact ⟨leH, ow'⟩
theorem qqr (E : EnvT tab) (h : Heap) {v w : Value} (a b : List UInt8) (ha : a.length ≤ 140737488350000) (s : SlB h v a) (q : SlB h w b) : ACallN E.toEnv qmd [v, w] h fun r h' => h.le h' ∧ OwB h h' r (xorB a b) := by
  obtain ⟨base, c, rfl⟩ := Sl.shape s
  obtain ⟨base2, c2, rfl⟩ := Sl.shape q
  refine q0o qb0 q63 rfl rfl (q03 ?_)
  unfold q63
  simp -implicitDefEqProofs only [zA,reduceCtorEq,Nat.reduceEqDiff,Nat.reduceAdd]
  have hlen := qf2 a b
  refine q0c (fun m t H => h.le H ∧ ∃ (j : Nat) (v5 : Value), t = tl [(0, .slice base a.length c), (1, .slice base2 b.length c2), (5, v5), (6, .int .i64 j)] ∧ j ≤ min a.length b.length ∧ m = min a.length b.length - j ∧ OwB h H v5 ((xorB a b).take j)) (min a.length b.length)
    ⟨Heap.q04 _, 0, _, rfl, by omega, by omega, Ow.nil _ _ _⟩ ?_
  rintro m t H ⟨leH, j, v5, rfl, hj, rfl, ow⟩
  by_cases hla : j < a.length
  · have e1 : (j : Int) < (a.length : Int) := by omega
    by_cases hlb : j < b.length
    · have e2 : (j : Int) < (b.length : Int) := by omega
      have e0 : (0 : Int) ≤ (j : Int) := by omega
      obtain ⟨b', o, c', hv, hc, hcl⟩ := Sl.q7x s j hla
      simp only [Value.slice.injEq, true_and] at hv
      obtain ⟨rfl, rfl⟩ := hv
      obtain ⟨b2', o2, c2', hv2, hc2, hcl2⟩ := Sl.q7x q j hlb
      simp only [Value.slice.injEq, true_and] at hv2
      obtain ⟨rfl, rfl⟩ := hv2
      have hz := hcl H leH
      have hz2 := hcl2 H leH
      unfold u8V at hz hz2
      have w2 : IntKind.i64.wrap ((j : Int) + 1) = ((j + 1 : Nat) : Int) := q2k (by omega)
      simp -implicitDefEqProofs only [zA,reduceCtorEq,Nat.reduceEqDiff,e1,e2,qbu,e0,Int.toNat_natCast,hz,hz2,qug]
      intro b1 hb1
      try simp -implicitDefEqProofs only [zA,reduceCtorEq,Nat.reduceEqDiff]
      refine app1 leH hb1 ow (by simp; omega) ?_
      intro v3 H3 ow3 le3
      simp -implicitDefEqProofs only [zA,reduceCtorEq,Nat.reduceEqDiff,w2]
      refine ⟨_, by omega, le3, j + 1, v3, rfl, by omega, rfl, ?_⟩
      rw [qoa a b j hla hlb]
      exact ow3
    · have e2 : ¬ (j : Int) < (b.length : Int) := by omega
      have : j = min a.length b.length := by omega
      rw [List.take_of_length_le (by omega)] at ow
      simp -implicitDefEqProofs only [zA,reduceCtorEq,Nat.reduceEqDiff,e1,e2]
      exact ⟨leH, ow⟩
  · have e1 : ¬ (j : Int) < (a.length : Int) := by omega
    rw [List.take_of_length_le (by omega)] at ow
    simp -implicitDefEqProofs only [zA,reduceCtorEq,Nat.reduceEqDiff,e1]
    exact ⟨leH, ow⟩
theorem qos (E : EnvT tab) (h : Heap) {v : Value} (l : List UInt8) (hl : 4 ≤ l.length) (s : SlB h v l) : ACallN E.toEnv qku [v] h fun r h' => h.le h' ∧ r = .int .u32 ((q0h (l.take 4)).setWidth 32).toNat := by
  obtain ⟨base, c, rfl⟩ := Sl.shape s
  refine q0o q9z q4t rfl rfl (q03 ?_)
  unfold q4t
  have hc : l.length ≤ c := by
    rcases s with ⟨e, hn, _⟩ | ⟨a, c', e, hc, _⟩
    · omega
    · cases e; exact hc
  have bd : bnds l.length c none (some (some (.int .i64 4))) none = some (0, 4, c) := q5t (by omega) (by omega)
  have hs := Sl.qsj s (m := 4) hl
  have l4 : (l.take 4).length = 4 := by simp; omega
  unfold SlB at hs
  rw [l4] at hs
  simp -implicitDefEqProofs only [zA,reduceCtorEq,Nat.reduceEqDiff,bd,Nat.sub_zero]
  rw [addO base c fun a _ => qf1 a]
  refine (qm2 E h (l.take 4) (by omega) (by unfold SlB; rw [l4]; exact hs)).mono ?_
  rintro r h1 ⟨le1, rfl⟩
  simp -implicitDefEqProofs only [zA,reduceCtorEq,Nat.reduceEqDiff,u64V,qy4]
  exact le1
theorem qn2 (E : EnvT tab) (h : Heap) (key nonce : List UInt8) (count : U32) (hk : key.length = 32) (hn : nonce.length = 12) :
    ACallN E.toEnv qji [.agg (key.map u8V).toArray, .int .u32 count.toNat, .agg (nonce.map u8V).toArray] h fun r h' => h.le h' ∧ r = .agg (row8 (q6b key count nonce) 64).toArray := by
  refine q0o q8j q3y rfl rfl (q03 ?_)
  unfold q3y
  have hk' : (key.map u8V).length = 32 := by simp [hk]
  have hn' : (nonce.map u8V).length = 12 := by simp [hn]
  have cr := qpj key nonce count
  have g12 : count = qbi key count nonce 12 := rfl
  have gk : ∀ i, i < 8 → qk9 key i = qbi key count nonce (4 + i) := by
    intro i hi
    unfold qbi
    rw [if_neg (by omega), if_pos (by omega), show 4 + i - 4 = i by omega]
  have gn : ∀ i, i < 3 → qk9 nonce i = qbi key count nonce (13 + i) := by
    intro i hi
    unfold qbi
    rw [if_neg (by omega), if_neg (by omega), if_neg (by omega), if_pos (by omega), show 13 + i - 13 = i by omega]
  unfold q6b
  generalize hg : qbi key count nonce = g at cr g12 gk gn ⊢
  simp -implicitDefEqProofs only [zA,reduceCtorEq,Nat.reduceEqDiff,Nat.reduceAdd,hk',hn',List.length_replicate]
  intro b3 hb3 b5 hb5 b6 hb6
  obtain ⟨n53, hb5'⟩ := Heap.q0b.1 hb5
  obtain ⟨n65, hb6a⟩ := Heap.q0b.1 hb6
  obtain ⟨n63, hb6'⟩ := Heap.q0b.1 hb6a
  have le1 : h.le (((h.set b3 (.own 0 (key.map u8V) 32)).set b5 (.own 0 (nonce.map u8V) 12)).set b6 (.own 0 (List.replicate 64 (.int .u8 0)) 64)) := Heap.q02 (Heap.q02 (Heap.q02 (Heap.q04 _) hb3 _) hb5' _) hb6' _
  have q3 : (((h.set b3 (.own 0 (key.map u8V) 32)).set b5 (.own 0 (nonce.map u8V) 12)).set b6 (.own 0 (List.replicate 64 (.int .u8 0)) 64)) b3 = some (.own 0 (key.map u8V) 32) := q07 (q07 (Heap.q01 _ _ _) (Ne.symm n53)) (Ne.symm n63)
  have q5 : (((h.set b3 (.own 0 (key.map u8V) 32)).set b5 (.own 0 (nonce.map u8V) 12)).set b6 (.own 0 (List.replicate 64 (.int .u8 0)) 64)) b5 = some (.own 0 (nonce.map u8V) 12) := q07 (Heap.q01 _ _ _) (Ne.symm n65)
  have q6 : (((h.set b3 (.own 0 (key.map u8V) 32)).set b5 (.own 0 (nonce.map u8V) 12)).set b6 (.own 0 (List.replicate 64 (.int .u8 0)) 64)) b6 = some (.own 0 (List.replicate 64 (.int .u8 0)) 64) := Heap.q01 _ _ _
  generalize (((h.set b3 (.own 0 (key.map u8V) 32)).set b5 (.own 0 (nonce.map u8V) 12)).set b6 (.own 0 (List.replicate 64 (.int .u8 0)) 64)) = h1 at le1 q3 q5 q6 ⊢
  unfold q9r
  simp -implicitDefEqProofs only [zA,Nat.reduceEqDiff,Nat.reduceAdd,Nat.reduceSub,Nat.reduceLeDiff,List.length_replicate,List.drop_replicate,qpk,cr]
  intro b7 hb7
  have hb7' := Heap.q08 le1 hb7
  have n73 := q06 hb7 q3
  have n75 := q06 hb7 q5
  have n76 := q06 hb7 q6
  have s7 : q0a (h1.set b7 (.own 0 (List.replicate 16 (.int .u32 0)) 16)) 16 (.pointer (some ⟨b7, 0, none⟩)) (.agg (rowU (qam g (fun _ => 0) 4) 16).toArray) = some (h1.set b7 (.own 0 (rowU (qam g (fun _ => 0) 4) 16) 16)) := z6z (by omega) (q89 _ _) (qhz _ _) (by simp) (by omega)
  simp -implicitDefEqProofs only [zA,Nat.reduceEqDiff,s7]
  refine q0c (fun m t H => h.le H ∧ ∃ i : Nat, i ≤ 8 ∧ m = 8 - i ∧ t = tl [(1, .int .u32 count.toNat), (3, .pointer (some ⟨b3, 0, none⟩)), (5, .pointer (some ⟨b5, 0, none⟩)), (6, .pointer (some ⟨b6, 0, none⟩)), (7, .pointer (some ⟨b7, 0, none⟩)), (8, .int .i64 i)] ∧
      H b3 = some (.own 0 (key.map u8V) 32) ∧ H b5 = some (.own 0 (nonce.map u8V) 12) ∧ H b6 = some (.own 0 (List.replicate 64 (.int .u8 0)) 64) ∧ H b7 = some (.own 0 (rowU (qam g (fun _ => 0) (4 + i)) 16) 16)) 8
    ⟨Heap.q1c le1 hb7 _, 0, by omega, rfl, rfl, q07 q3 n73, q07 q5 n75, q07 q6 n76, Heap.q01 _ _ _⟩ ?_
  clear q3 q5 q6 le1
  rintro m t H ⟨leH, i, hi, rfl, rfl, q3, q5, q6, q7⟩
  by_cases hlt : (i : Int) < 8
  · have hi' : i < 8 := by omega
    have w1 : IntKind.i64.wrap (4 + (i : Int)) = ((4 + i : Nat) : Int) := by rw [q0w (by omega) (by omega)]; rfl
    have w2 : IntKind.i64.wrap (4 * (i : Int)) = ((4 * i : Nat) : Int) := by rw [q0w (by omega) (by omega)]; rfl
    have w7 : IntKind.i64.wrap ((i : Int) + 1) = ((i + 1 : Nat) : Int) := q2k (by omega)
    have bd : bnds 32 32 (some (some (.int .i64 ((4 * i : Nat) : Int)))) none none = some (4 * i, 32, 32) := qb4 (by omega) (by omega)
    have ne : ¬ (32 = 4 * i) := by omega
    have e0 : (0 : Int) ≤ ((4 + i : Nat) : Int) := by omega
    have e1 : ((4 + i : Nat) : Int) < 16 := by omega
    simp -implicitDefEqProofs only [zA,Nat.reduceEqDiff,hlt,w1,w2,bd,ne]
    refine (qos E _ (key.drop (4 * i)) (by simp; omega) (by have := qnx q3 hk (4 * i) (by omega); unfold SlB; rw [List.length_drop, hk]; unfold SlB at this; rw [List.length_drop, hk] at this; exact this)).mono ?_
    rintro r H2 ⟨le2, rfl⟩
    have s8 := q1h (z := qk9 key i) (le2 _ _ q7) (show 4 + i < 16 by omega)
    rw [qb5 g _ _ (gk i hi')] at s8
    unfold qk9 at s8
    simp -implicitDefEqProofs only [zA,Nat.reduceEqDiff,e0,e1,Int.toNat_natCast,s8,w7]
    exact ⟨_, by omega, Heap.q02 (Heap.q00 leH le2) hb7' _, i + 1, by omega, rfl, rfl, q07 (le2 _ _ q3) n73, q07 (le2 _ _ q5) n75, q07 (le2 _ _ q6) n76, Heap.q01 _ _ _⟩
  · obtain rfl : i = 8 := by omega
    simp -implicitDefEqProofs only [zA,Nat.reduceEqDiff,Nat.reduceSub,Int.reduceLT]
    unfold q9q
    have s8 := q1h (z := count) q7 (show 12 < 16 by omega)
    rw [qb5 g _ 12 g12] at s8
    simp -implicitDefEqProofs only [zA,Nat.reduceEqDiff,Nat.reduceAdd,Int.reduceLT,Int.reduceLE,Int.reduceToNat,s8]
    refine q0c (fun m t H => h.le H ∧ ∃ i : Nat, i ≤ 3 ∧ m = 3 - i ∧ t = tl [(5, .pointer (some ⟨b5, 0, none⟩)), (6, .pointer (some ⟨b6, 0, none⟩)), (7, .pointer (some ⟨b7, 0, none⟩)), (9, .int .i64 i)] ∧
        H b5 = some (.own 0 (nonce.map u8V) 12) ∧ H b6 = some (.own 0 (List.replicate 64 (.int .u8 0)) 64) ∧ H b7 = some (.own 0 (rowU (qam g (fun _ => 0) (13 + i)) 16) 16)) 3
      ⟨Heap.q02 leH hb7' _, 0, by omega, rfl, rfl, q07 q5 n75, q07 q6 n76, Heap.q01 _ _ _⟩ ?_
    clear q3 q5 q6 q7 leH s8 hlt hi
    rintro m t H ⟨leH, i, hi, rfl, rfl, q5, q6, q7⟩
    by_cases hlt : (i : Int) < 3
    · have hi' : i < 3 := by omega
      have w1 : IntKind.i64.wrap (13 + (i : Int)) = ((13 + i : Nat) : Int) := by rw [q0w (by omega) (by omega)]; rfl
      have w2 : IntKind.i64.wrap (4 * (i : Int)) = ((4 * i : Nat) : Int) := by rw [q0w (by omega) (by omega)]; rfl
      have w7 : IntKind.i64.wrap ((i : Int) + 1) = ((i + 1 : Nat) : Int) := q2k (by omega)
      have bd : bnds 12 12 (some (some (.int .i64 ((4 * i : Nat) : Int)))) none none = some (4 * i, 12, 12) := qb4 (by omega) (by omega)
      have ne : ¬ (12 = 4 * i) := by omega
      have e0 : (0 : Int) ≤ ((13 + i : Nat) : Int) := by omega
      have e1 : ((13 + i : Nat) : Int) < 16 := by omega
      simp -implicitDefEqProofs only [zA,Nat.reduceEqDiff,hlt,w1,w2,bd,ne]
      refine (qos E _ (nonce.drop (4 * i)) (by simp; omega) (by have := qnx q5 hn (4 * i) (by omega); unfold SlB; rw [List.length_drop, hn]; unfold SlB at this; rw [List.length_drop, hn] at this; exact this)).mono ?_
      rintro r H2 ⟨le2, rfl⟩
      have s8 := q1h (z := qk9 nonce i) (le2 _ _ q7) (show 13 + i < 16 by omega)
      rw [qb5 g _ _ (gn i hi')] at s8
      unfold qk9 at s8
      simp -implicitDefEqProofs only [zA,Nat.reduceEqDiff,e0,e1,Int.toNat_natCast,s8,w7]
      exact ⟨_, by omega, Heap.q02 (Heap.q00 leH le2) hb7' _, i + 1, by omega, rfl, rfl, q07 (le2 _ _ q5) n75, q07 (le2 _ _ q6) n76, Heap.q01 _ _ _⟩
    · obtain rfl : i = 3 := by omega
      have eg : rowU (qam g (fun _ => 0) (13 + 3)) 16 = rowU g 16 := qm0 fun j hj => qpp hj
      rw [eg] at q7
      have l7 := qm1 q7
      simp -implicitDefEqProofs only [zA,Nat.reduceEqDiff,Nat.reduceSub,Int.reduceLT]
      clear cr g12 gk gn hg hlt hi q5 eg
      generalize g = st at *
      unfold q9p
      simp -implicitDefEqProofs only [zA,Nat.reduceEqDiff,l7,List.length_replicate]
      intro b8 hb8
      have s8 : q0a (H.set b8 (.own 0 (List.replicate 16 (.int .u32 0)) 16)) 16 (.pointer (some ⟨b8, 0, none⟩)) (.agg (rowU st 16).toArray) = some (H.set b8 (.own 0 (rowU st 16) 16)) := z6z (by omega) (q89 _ _) (qhz _ _) (by simp) (by omega)
      have le8 := Heap.q1c leH hb8 (.own 0 (rowU st 16) 16)
      have q68 := q1b (X := .own 0 (rowU st 16) 16) hb8 q6
      have q78 := q1b (X := .own 0 (rowU st 16) 16) hb8 q7
      have q88 := Heap.q01 H b8 (.own 0 (rowU st 16) 16)
      have n68 := q06 hb8 q6
      have n78 := q06 hb8 q7
      have hb8' := Heap.q08 leH hb8
      simp -implicitDefEqProofs only [zA,Nat.reduceEqDiff,s8]
      generalize (H.set b8 (.own 0 (rowU st 16) 16)) = h4 at le8 q68 q78 q88 ⊢
      refine q0c (fun m t H => h.le H ∧ ∃ n : Nat, n ≤ 10 ∧ m = 10 - n ∧ t = tl [(6, .pointer (some ⟨b6, 0, none⟩)), (7, .pointer (some ⟨b7, 0, none⟩)), (10, .pointer (some ⟨b8, 0, none⟩)), (11, .int .i64 n)] ∧
          H b6 = some (.own 0 (List.replicate 64 (.int .u8 0)) 64) ∧ H b7 = some (.own 0 (rowU st 16) 16) ∧ H b8 = some (.own 0 (rowU (q7k st n) 16) 16)) 10
        ⟨le8, 0, by omega, rfl, rfl, q68, q78, q88⟩ ?_
      clear q68 q78 q88 le8 l7 q6 q7 leH s8
      rintro m t H ⟨leH, n, hn10, rfl, rfl, q6, q7, q8⟩
      by_cases hlt : (n : Int) < 10
      · simp -implicitDefEqProofs only [zA,Nat.reduceEqDiff,hlt]
        refine q0c (fun m t H => h.le H ∧ ∃ i : Nat, i ≤ 4 ∧ m = 4 - i ∧ t = tl [(6, .pointer (some ⟨b6, 0, none⟩)), (7, .pointer (some ⟨b7, 0, none⟩)), (10, .pointer (some ⟨b8, 0, none⟩)), (11, .int .i64 n), (12, .int .i64 i)] ∧
            H b6 = some (.own 0 (List.replicate 64 (.int .u8 0)) 64) ∧ H b7 = some (.own 0 (rowU st 16) 16) ∧ H b8 = some (.own 0 (rowU (qns (q7k st n) i) 16) 16)) 4
          ⟨leH, 0, by omega, rfl, rfl, q6, q7, q8⟩ ?_
        clear q6 q7 q8 leH
        rintro m t H ⟨leH, i, hi, rfl, rfl, q6, q7, q8⟩
        by_cases hli : (i : Int) < 4
        · have w1 : IntKind.i64.wrap (4 + (i : Int)) = ((4 + i : Nat) : Int) := by rw [q0w (by omega) (by omega)]; rfl
          have w2 : IntKind.i64.wrap (8 + (i : Int)) = ((8 + i : Nat) : Int) := by rw [q0w (by omega) (by omega)]; rfl
          have w3 : IntKind.i64.wrap (12 + (i : Int)) = ((12 + i : Nat) : Int) := by rw [q0w (by omega) (by omega)]; rfl
          have w7 : IntKind.i64.wrap ((i : Int) + 1) = ((i + 1 : Nat) : Int) := q2k (by omega)
          have i0 : (0 : Int) ≤ i := by omega
          have j0 : (0 : Int) ≤ ((4 + i : Nat) : Int) := by omega
          have k0 : (0 : Int) ≤ ((8 + i : Nat) : Int) := by omega
          have l0 : (0 : Int) ≤ ((12 + i : Nat) : Int) := by omega
          have i1 : (i : Int) < 16 := by omega
          have j1 : ((4 + i : Nat) : Int) < 16 := by omega
          have k1 : ((8 + i : Nat) : Int) < 16 := by omega
          have l1 : ((12 + i : Nat) : Int) < 16 := by omega
          have ci := q7j q8 (show i < 16 by omega)
          have cj := q7j q8 (show 4 + i < 16 by omega)
          have ck := q7j q8 (show 8 + i < 16 by omega)
          have cl := q7j q8 (show 12 + i < 16 by omega)
          have em : qns (q7k st n) (i + 1) = mixQ (qns (q7k st n) i) i (4 + i) (8 + i) (12 + i) := rfl
          generalize qns (q7k st n) i = s at *
          simp -implicitDefEqProofs only [zA,Nat.reduceEqDiff,hli]
          unfold q9o
          simp -implicitDefEqProofs only [zA,Nat.reduceEqDiff,w1,w2,w3,i0,j0,k0,l0,i1,j1,k1,l1,ci,cj,ck,cl,Int.toNat_natCast]
          refine (qiv E _ _ _ _ _).mono ?_
          rintro r h' ⟨rfl, rfl⟩
          unfold Q4.V
          unfold mixQ at em
          simp only at em
          generalize qx8 ⟨s i, s (4 + i), s (8 + i), s (12 + i)⟩ = q at em ⊢
          have s1 := q1h (z := q.a) q8 (show i < 16 by omega)
          have p1 := Heap.q01 h' b8 (.own 0 (rowU (updU s i q.a) 16) 16)
          have s2 := q1h (z := q.b) p1 (show 4 + i < 16 by omega)
          rw [Heap.q5f] at s2
          have p2 := Heap.q01 h' b8 (.own 0 (rowU (updU (updU s i q.a) (4 + i) q.b) 16) 16)
          have s3 := q1h (z := q.c) p2 (show 8 + i < 16 by omega)
          rw [Heap.q5f] at s3
          have p3 := Heap.q01 h' b8 (.own 0 (rowU (updU (updU (updU s i q.a) (4 + i) q.b) (8 + i) q.c) 16) 16)
          have s4 := q1h (z := q.d) p3 (show 12 + i < 16 by omega)
          rw [Heap.q5f] at s4
          simp -implicitDefEqProofs only [zA,Nat.reduceEqDiff,Nat.reduceAdd,w1,w2,w3,w7,i0,j0,k0,l0,i1,j1,k1,l1,Int.toNat_natCast,s1,s2,s3,s4,implies_true,List.mem_cons,List.not_mem_nil,or_false,and_self]
          exact ⟨_, by omega, Heap.q02 leH hb8' _, i + 1, by omega, rfl, rfl, q07 q6 n68, q07 q7 n78, by rw [Heap.q01, em]⟩
        · obtain rfl : i = 4 := by omega
          simp -implicitDefEqProofs only [zA,Nat.reduceEqDiff,Nat.reduceSub,Int.reduceLT]
          unfold q9n
          simp -implicitDefEqProofs only [zA]
          refine q0c (fun m t H => h.le H ∧ ∃ i : Nat, i ≤ 4 ∧ m = 4 - i ∧ t = tl [(6, .pointer (some ⟨b6, 0, none⟩)), (7, .pointer (some ⟨b7, 0, none⟩)), (10, .pointer (some ⟨b8, 0, none⟩)), (11, .int .i64 n), (13, .int .i64 i)] ∧
              H b6 = some (.own 0 (List.replicate 64 (.int .u8 0)) 64) ∧ H b7 = some (.own 0 (rowU st 16) 16) ∧ H b8 = some (.own 0 (rowU (qvk (qns (q7k st n) 4) i) 16) 16)) 4
            ⟨leH, 0, by omega, rfl, rfl, q6, q7, q8⟩ ?_
          clear q6 q7 q8 leH hli hi
          rintro m t H ⟨leH, i, hi, rfl, rfl, q6, q7, q8⟩
          by_cases hli : (i : Int) < 4
          · have w7 : IntKind.i64.wrap ((i : Int) + 1) = ((i + 1 : Nat) : Int) := q2k (by omega)
            have w8 : IntKind.i64.wrap ((i : Int) + 2) = ((i + 2 : Nat) : Int) := by rw [q0w (by omega) (by omega)]; rfl
            have w9 : IntKind.i64.wrap ((i : Int) + 3) = ((i + 3 : Nat) : Int) := by rw [q0w (by omega) (by omega)]; rfl
            have r1 : IntKind.i64.wrap (((i + 1) % 4 : Nat) : Int) = (((i + 1) % 4 : Nat) : Int) := q0w (by omega) (by omega)
            have r2 : IntKind.i64.wrap (((i + 2) % 4 : Nat) : Int) = (((i + 2) % 4 : Nat) : Int) := q0w (by omega) (by omega)
            have r3 : IntKind.i64.wrap (((i + 3) % 4 : Nat) : Int) = (((i + 3) % 4 : Nat) : Int) := q0w (by omega) (by omega)
            have w1 : IntKind.i64.wrap (4 + (((i + 1) % 4 : Nat) : Int)) = ((4 + (i + 1) % 4 : Nat) : Int) := by rw [q0w (by omega) (by omega)]; rfl
            have w2 : IntKind.i64.wrap (8 + (((i + 2) % 4 : Nat) : Int)) = ((8 + (i + 2) % 4 : Nat) : Int) := by rw [q0w (by omega) (by omega)]; rfl
            have w3 : IntKind.i64.wrap (12 + (((i + 3) % 4 : Nat) : Int)) = ((12 + (i + 3) % 4 : Nat) : Int) := by rw [q0w (by omega) (by omega)]; rfl
            have em : qvk (qns (q7k st n) 4) (i + 1) = mixQ (qvk (qns (q7k st n) 4) i) i (4 + (i + 1) % 4) (8 + (i + 2) % 4) (12 + (i + 3) % 4) := rfl
            have hj : 4 + (i + 1) % 4 < 16 := by omega
            have hkk : 8 + (i + 2) % 4 < 16 := by omega
            have hl : 12 + (i + 3) % 4 < 16 := by omega
            simp -implicitDefEqProofs only [zA,Nat.reduceEqDiff,Int.reduceEq,hli,w7,w8,w9,tmod4,w1,w2,w3]
            generalize 4 + (i + 1) % 4 = j at *
            generalize 8 + (i + 2) % 4 = k at *
            generalize 12 + (i + 3) % 4 = l at *
            have i0 : (0 : Int) ≤ i := by omega
            have j0 : (0 : Int) ≤ (j : Int) := by omega
            have k0 : (0 : Int) ≤ (k : Int) := by omega
            have l0 : (0 : Int) ≤ (l : Int) := by omega
            have i1 : (i : Int) < 16 := by omega
            have j1 : (j : Int) < 16 := by omega
            have k1 : (k : Int) < 16 := by omega
            have l1 : (l : Int) < 16 := by omega
            have ci := q7j q8 (show i < 16 by omega)
            have cj := q7j q8 hj
            have ck := q7j q8 hkk
            have cl := q7j q8 hl
            generalize qvk (qns (q7k st n) 4) i = s at *
            unfold q8u
            simp -implicitDefEqProofs only [zA,Nat.reduceEqDiff,i0,j0,k0,l0,i1,j1,k1,l1,ci,cj,ck,cl,Int.toNat_natCast]
            refine (qiv E _ _ _ _ _).mono ?_
            rintro r h' ⟨rfl, rfl⟩
            unfold Q4.V
            unfold mixQ at em
            simp only at em
            generalize qx8 ⟨s i, s j, s k, s l⟩ = q at em ⊢
            have s1 := q1h (z := q.a) q8 (show i < 16 by omega)
            have p1 := Heap.q01 h' b8 (.own 0 (rowU (updU s i q.a) 16) 16)
            have s2 := q1h (z := q.b) p1 hj
            rw [Heap.q5f] at s2
            have p2 := Heap.q01 h' b8 (.own 0 (rowU (updU (updU s i q.a) j q.b) 16) 16)
            have s3 := q1h (z := q.c) p2 hkk
            rw [Heap.q5f] at s3
            have p3 := Heap.q01 h' b8 (.own 0 (rowU (updU (updU (updU s i q.a) j q.b) k q.c) 16) 16)
            have s4 := q1h (z := q.d) p3 hl
            rw [Heap.q5f] at s4
            simp -implicitDefEqProofs only [zA,Nat.reduceEqDiff,Nat.reduceAdd,w7,i0,j0,k0,l0,i1,j1,k1,l1,Int.toNat_natCast,s1,s2,s3,s4,implies_true,List.mem_cons,List.not_mem_nil,or_false,and_self]
            exact ⟨_, by omega, Heap.q02 leH hb8' _, i + 1, by omega, rfl, rfl, q07 q6 n68, q07 q7 n78, by rw [Heap.q01, em]⟩
          · obtain rfl : i = 4 := by omega
            have w7 : IntKind.i64.wrap ((n : Int) + 1) = ((n + 1 : Nat) : Int) := q2k (by omega)
            simp -implicitDefEqProofs only [zA,Nat.reduceEqDiff,Nat.reduceSub,Int.reduceLT,w7]
            exact ⟨_, by omega, leH, n + 1, by omega, rfl, rfl, q6, q7, q8⟩
      · obtain rfl : n = 10 := by omega
        simp -implicitDefEqProofs only [zA,Nat.reduceEqDiff,Nat.reduceSub,Int.reduceLT,List.length_replicate]
        intro b11 hb11
        have r64 : (List.replicate 64 (Value.int .u8 0)).all one = true := by decide
        have s11 : q0a (H.set b11 (.own 0 (List.replicate 64 (.int .u8 0)) 64)) 64 (.pointer (some ⟨b11, 0, none⟩)) (.agg (List.replicate 64 (Value.int .u8 0)).toArray) = some (H.set b11 (.own 0 (List.replicate 64 (.int .u8 0)) 64)) := z6z (by omega) (by simp) r64 (by simp) (by omega)
        have hb11' := Heap.q08 leH hb11
        have n611 := q06 hb11 q6
        have n711 := q06 hb11 q7
        have n811 := q06 hb11 q8
        simp -implicitDefEqProofs only [zA,Nat.reduceEqDiff,s11]
        unfold q9s
        simp -implicitDefEqProofs only [zA,Nat.reduceEqDiff]
        have leP := Heap.q1c leH hb11 (.own 0 (List.replicate 64 (.int .u8 0)) 64)
        refine q0c (fun m t H => h.le H ∧ ∃ i : Nat, i ≤ 16 ∧ m = 16 - i ∧ t = tl [(6, .pointer (some ⟨b6, 0, none⟩)), (7, .pointer (some ⟨b7, 0, none⟩)), (10, .pointer (some ⟨b8, 0, none⟩)), (17, .pointer (some ⟨b11, 0, none⟩)), (18, .int .i64 i)] ∧
            H b6 = some (.own 0 (List.replicate 64 (.int .u8 0)) 64) ∧ H b7 = some (.own 0 (rowU st 16) 16) ∧ H b8 = some (.own 0 (rowU (q7k st 10) 16) 16) ∧ H b11 = some (.own 0 (row8 (qg5 (q6a (qbx st)) (4 * i)) 64) 64)) 16
          ⟨leP, 0, by omega, rfl, rfl, q1b hb11 q6, q1b hb11 q7, q1b hb11 q8, by rw [Heap.q01, qwo (q6a (qbx st)) 64]⟩ ?_
        clear q6 q7 q8 leH leP hlt
        rintro m t H ⟨leH, i, hi, rfl, rfl, q6, q7, q8, q11⟩
        by_cases hlt : (i : Int) < 16
        · have hi' : i < 16 := by omega
          have e0 : (0 : Int) ≤ (i : Int) := by omega
          have c8 := q7j q8 hi'
          have c7 := q7j q7 hi'
          have w7 : IntKind.i64.wrap ((i : Int) + 1) = ((i + 1 : Nat) : Int) := q2k (by omega)
          have w2 : IntKind.i64.wrap (4 * (i : Int)) = ((4 * i : Nat) : Int) := by rw [q0w (by omega) (by omega)]; rfl
          have bd : bnds 64 64 (some (some (.int .i64 ((4 * i : Nat) : Int)))) none none = some (4 * i, 64, 64) := qb4 (by omega) (by omega)
          have ne : ¬ (64 = 4 * i) := by omega
          simp -implicitDefEqProofs only [zA,Nat.reduceEqDiff,hlt,e0,Int.toNat_natCast,c8,c7,qby,qy8]
          refine (qf8 E _ [] (by simp) (Ow.nil H H 1).sl ((qbx st i).setWidth 64) 4 (by omega)).mono ?_
          rintro r H2 ⟨le2, ow⟩
          rw [List.nil_append] at ow
          have so := ow.sl
          unfold SlB at so
          rw [q1f] at so
          obtain ⟨base, c, rfl⟩ := Sl.shape so
          have q11' := le2 _ _ q11
          simp -implicitDefEqProofs only [zA,Nat.reduceEqDiff,w2,bd,ne,qfz,List.mem_cons,List.not_mem_nil,or_false,implies_true]
          refine qd3 (size := 1) (m := 4) (o := 4 * i) q11' (by rw [q0m]; omega) (by rw [q0m]; omega) so (q1i _) ?_
          have et : ((q1j ((qbx st i).setWidth 64) 4).map u8V).take (min 4 (64 - 4 * i) * 1) = ((List.range 4).map fun k => q6a (qbx st) (4 * i + k)).map u8V := by
            rw [List.take_of_length_le (by simp [q1f]; omega), qlo]
          rw [et, qr9 _ _ _ (by omega)]
          simp -implicitDefEqProofs only [zA,Nat.reduceEqDiff,w7]
          exact ⟨_, by omega, Heap.q02 (Heap.q00 leH le2) hb11' _, i + 1, by omega, rfl, rfl, q07 (le2 _ _ q6) n611, q07 (le2 _ _ q7) n711, q07 (le2 _ _ q8) n811, Heap.q01 _ _ _⟩
        · obtain rfl : i = 16 := by omega
          have e64 : row8 (qg5 (q6a (qbx st)) (4 * 16)) 64 = row8 (q6a (qbx st)) 64 := qra _ _
          rw [e64] at q11
          have l11 : q05 H ⟨b11, 0, none⟩ 64 = some (row8 (q6a (qbx st)) 64) := q0u q11 (q0m _ _)
          have s6 : q0a H 64 (.pointer (some ⟨b6, 0, none⟩)) (.agg (row8 (q6a (qbx st)) 64).toArray) = some (H.set b6 (.own 0 (row8 (q6a (qbx st)) 64) 64)) := q0f q6 (by omega) (q0m _ _) (by simp [row8, one]) (by simp) (by omega)
          have l6 : q05 (H.set b6 (.own 0 (row8 (q6a (qbx st)) 64) 64)) ⟨b6, 0, none⟩ 64 = some (row8 (q6a (qbx st)) 64) := z6x (q0m _ _)
          simp -implicitDefEqProofs only [zA,Nat.reduceEqDiff,Nat.reduceSub,Int.reduceLT,l11,s6,l6]
          exact Heap.q02 leH hb6' _
theorem qxo {H : Heap} {b n sz : Nat} {l : List UInt8} {z : UInt8} {i : Nat} (h : H b = some (.own 0 (l.map u8V) sz)) (hi : i < l.length) (hs : l.length ≤ sz) : q0a H 1 (.pointer (some ⟨b, i, none⟩)) (.int .u8 (z.toNat : Int)) = some (H.set b (.own 0 ((l.set i z).map u8V) sz)) := by
  rw [q0q h rfl (by simpa using hi) (by simpa using hs), List.map_set]
  rfl
theorem quu (E : EnvT tab) (h : Heap) {v w : Value} (a b : List UInt8) (ha : a.length ≤ 140737488350000) (s : SlB h v a) (q : SlB h w b) : ACallN E.toEnv qv5 [v, w] h fun r h' => h.le h' ∧ OwB h h' r (xorB a b) := by
  obtain ⟨base, c, rfl⟩ := Sl.shape s
  obtain ⟨base2, c2, rfl⟩ := Sl.shape q
  refine q0o qjy qds rfl rfl (q03 ?_)
  unfold qds
  have hmn : (if (b.length : Int) < (a.length : Int) then (b.length : Int) else (a.length : Int)) = ((min a.length b.length : Nat) : Int) := by
    split <;> omega
  have hlen := qf2 a b
  generalize hk : min a.length b.length = k at hmn hlen
  have m1 : (0 : Int) ≤ (k : Int) ∧ (k : Int) ≤ (k : Int) ∧ (k : Int) ≤ 9223372036854775807 ∧ 1 * (k : Int) ≤ 281474976710656 := by omega
  simp -implicitDefEqProofs only [zA,reduceCtorEq,Nat.reduceEqDiff,Nat.reduceAdd,hmn,if_pos m1,Int.toNat_natCast]
  intro b5 hb5
  unfold qh6
  simp -implicitDefEqProofs only [zA,reduceCtorEq,Nat.reduceEqDiff]
  refine q0c (fun m t H => h.le H ∧ ∃ (j : Nat), t = tl [(0, .slice base a.length c), (1, .slice base2 b.length c2), (5, .slice (some ⟨b5, 0, none⟩) k k), (14, .int .i64 k), (15, .int .i64 j)] ∧ j ≤ k ∧ m = k - j ∧
      H b5 = some (.own 0 (((xorB a b).take j ++ List.replicate (k - j) 0).map u8V) k)) k
    ⟨Heap.q1c (Heap.q04 _) hb5 _, 0, rfl, by omega, by omega, by rw [Heap.q01]; simp [u8V]⟩ ?_
  rintro m t H ⟨leH, j, rfl, hj, rfl, q5⟩
  by_cases hlt : j < k
  · have e1 : (j : Int) < (k : Int) := by omega
    have e2 : (j : Int) < (a.length : Int) := by omega
    have e3 : (j : Int) < (b.length : Int) := by omega
    have e0 : (0 : Int) ≤ (j : Int) := by omega
    obtain ⟨b', o, c', hv, hc, hcl⟩ := Sl.q7x s j (by omega)
    simp only [Value.slice.injEq, true_and] at hv
    obtain ⟨rfl, rfl⟩ := hv
    obtain ⟨b2', o2, c2', hv2, hc2, hcl2⟩ := Sl.q7x q j (by omega)
    simp only [Value.slice.injEq, true_and] at hv2
    obtain ⟨rfl, rfl⟩ := hv2
    have hz := hcl H leH
    have hz2 := hcl2 H leH
    unfold u8V at hz hz2
    have w2 : IntKind.i64.wrap ((j : Int) + 1) = ((j + 1 : Nat) : Int) := q2k (by omega)
    have st := qxo (n := k) (z := a[j] ^^^ b[j]) (i := j) q5 (by simp [hlen]; omega) (by simp [hlen]; omega)
    have e : ((xorB a b).take j ++ List.replicate (k - j) 0).set j (a[j]'(by omega) ^^^ b[j]'(by omega)) = (xorB a b).take (j + 1) ++ List.replicate (k - (j + 1)) 0 := by
      rw [qoa a b j (by omega) (by omega), List.set_append_right _ _ (by simp [hlen]; omega)]
      have : (List.take j (xorB a b)).length = j := by simp [hlen]; omega
      rw [this, Nat.sub_self, show k - j = (k - (j + 1)) + 1 by omega, List.replicate_succ, List.set_cons_zero, List.append_assoc]
      rfl
    rw [e] at st
    simp -implicitDefEqProofs only [zA,reduceCtorEq,Nat.reduceEqDiff,e1,e2,e3,e0,Int.toNat_natCast,hz,hz2,qug,st,w2]
    exact ⟨_, by omega, Heap.q02 leH hb5 _, j + 1, rfl, by omega, rfl, Heap.q01 _ _ _⟩
  · obtain rfl : j = k := by omega
    have e1 : ¬ (j : Int) < (j : Int) := by omega
    simp -implicitDefEqProofs only [zA,reduceCtorEq,Nat.reduceEqDiff,e1]
    refine ⟨leH, ?_⟩
    rw [List.take_of_length_le (by omega), Nat.sub_self, List.replicate_zero, List.append_nil] at q5
    unfold OwB
    rw [hlen]
    exact .inr ⟨b5, 0, j, j, 0, [], [], rfl, Nat.le_refl _, hb5, by simpa using q5, rfl, by simp [hlen], by omega⟩
def diffB (a b : List UInt8) : UInt8 := (xorB a b).foldl (fun x y => x ||| y) 0
theorem or_zero (x y : UInt8) : x ||| y = 0 ↔ x = 0 ∧ y = 0 := by
  constructor
  · intro h
    have h1 : (x ||| y).toNat = 0 := by rw [h]; rfl
    rw [UInt8.toNat_or] at h1
    have := Nat.or_eq_zero_iff.1 h1
    exact ⟨UInt8.toNat_inj.1 this.1, UInt8.toNat_inj.1 this.2⟩
  · rintro ⟨rfl, rfl⟩; rfl
theorem xor_zero (x y : UInt8) : x ^^^ y = 0 ↔ x = y := UInt8.xor_eq_zero_iff
theorem foldl_or (l : List UInt8) : ∀ x, l.foldl (fun x y => x ||| y) x = 0 ↔ x = 0 ∧ ∀ y ∈ l, y = 0 := by
  induction l with
  | nil => intro x; simp
  | cons a l ih =>
    intro x
    rw [List.foldl_cons, ih, or_zero]
    simp [and_assoc]
theorem qo9 : ∀ a b : List UInt8, a.length = b.length → ((∀ y ∈ xorB a b, y = 0) ↔ a = b)
  | [], [], _ => by simp [xorB]
  | [], _ :: _, h => by simp at h
  | _ :: _, [], h => by simp at h
  | x :: a, y :: b, h => by
    have ih := qo9 a b (by simpa using h)
    unfold xorB at ih ⊢
    simp only [List.zipWith_cons_cons, List.mem_cons, forall_eq_or_imp, List.cons.injEq, xor_zero]
    rw [ih]
theorem diffB_eq (a b : List UInt8) : (diffB a b = 0 ∧ a.length = b.length) ↔ a = b := by
  unfold diffB
  rw [foldl_or]
  constructor
  · rintro ⟨⟨_, h⟩, hl⟩; exact (qo9 a b hl).1 h
  · rintro rfl; exact ⟨⟨rfl, (qo9 a a rfl).2 rfl⟩, rfl⟩
theorem qs0 (E : EnvT tab) (h : Heap) {v w : Value} (a b : List UInt8) (ha : a.length ≤ 140737488350000) (s : SlB h v a) (q : SlB h w b) : ACallN E.toEnv qs3 [v, w] h fun r h' => h' = h ∧ r = .bool (decide (a = b)) := by
  obtain ⟨base, c, rfl⟩ := Sl.shape s
  obtain ⟨base2, c2, rfl⟩ := Sl.shape q
  refine q0o qfo qbc rfl rfl (q03 ?_)
  unfold qbc
  have hmn : (if (b.length : Int) < (a.length : Int) then (b.length : Int) else (a.length : Int)) = ((min a.length b.length : Nat) : Int) := by
    split <;> omega
  have hlen := qf2 a b
  generalize hk : min a.length b.length = k at hmn hlen
  simp -implicitDefEqProofs only [zA,reduceCtorEq,Nat.reduceEqDiff,Nat.reduceAdd]
  unfold qg3
  simp -implicitDefEqProofs only [zA,reduceCtorEq,Nat.reduceEqDiff,hmn]
  refine q0c (fun m t H => H = h ∧ ∃ (j : Nat), t = tl [(0, .slice base a.length c), (1, .slice base2 b.length c2), (5, .int .u8 (((xorB a b).take j).foldl (fun x y => x ||| y) 0).toNat), (11, .int .i64 k), (12, .int .i64 j)] ∧ j ≤ k ∧ m = k - j) k
    ⟨rfl, 0, rfl, by omega, by omega⟩ ?_
  rintro m t H ⟨rfl, j, rfl, hj, rfl⟩
  by_cases hlt : j < k
  · have e1 : (j : Int) < (k : Int) := by omega
    have e2 : (j : Int) < (a.length : Int) := by omega
    have e3 : (j : Int) < (b.length : Int) := by omega
    have e0 : (0 : Int) ≤ (j : Int) := by omega
    obtain ⟨b', o, c', hv, hc, hcl⟩ := Sl.q7x s j (by omega)
    simp only [Value.slice.injEq, true_and] at hv
    obtain ⟨rfl, rfl⟩ := hv
    obtain ⟨b2', o2, c2', hv2, hc2, hcl2⟩ := Sl.q7x q j (by omega)
    simp only [Value.slice.injEq, true_and] at hv2
    obtain ⟨rfl, rfl⟩ := hv2
    have hz := hcl H (Heap.q04 _)
    have hz2 := hcl2 H (Heap.q04 _)
    unfold u8V at hz hz2
    have w2 : IntKind.i64.wrap ((j : Int) + 1) = ((j + 1 : Nat) : Int) := q2k (by omega)
    simp -implicitDefEqProofs only [zA,reduceCtorEq,Nat.reduceEqDiff,e1,e2,e3,e0,Int.toNat_natCast,hz,hz2,qug,u8_or,w2]
    refine ⟨_, by omega, j + 1, ?_, by omega, rfl⟩
    rw [qoa a b j (by omega) (by omega), List.foldl_append, List.foldl_cons, List.foldl_nil]
  · obtain rfl : j = k := by omega
    have e1 : ¬ (j : Int) < (j : Int) := by omega
    rw [List.take_of_length_le (by omega)]
    have hd := diffB_eq a b
    unfold diffB at hd
    generalize (xorB a b).foldl (fun x y => x ||| y) 0 = d at hd ⊢
    simp -implicitDefEqProofs only [zA,reduceCtorEq,Nat.reduceEqDiff,e1]
    unfold qev
    by_cases hz : d = 0
    · subst hz
      by_cases hl : a.length = b.length
      · have hab := hd.1 ⟨rfl, hl⟩
        subst hab
        have e4 : (((0 : UInt8).toNat : Nat) : Int) = 0 := rfl
        simp -implicitDefEqProofs only [zA,reduceCtorEq,Nat.reduceEqDiff,Int.reduceBEq,e4]
        simp
      · have hab : ¬ a = b := fun x => by rw [x] at hl; exact hl rfl
        have e4 : (((0 : UInt8).toNat : Nat) : Int) = 0 := rfl
        have e5 : ¬ ((a.length : Int) = (b.length : Int)) := by omega
        simp -implicitDefEqProofs only [zA,reduceCtorEq,Nat.reduceEqDiff,Int.reduceBEq,e4,hab]
        have e6 : ((a.length : Int) == (b.length : Int)) = false := by simp; omega
        rw [e6]
    · have hab : ¬ a = b := fun x => hz (hd.2 x).1
      have e4 : ¬ ((d.toNat : Int) = 0) := by
        intro x
        apply hz
        apply UInt8.toNat_inj.1
        show d.toNat = 0
        omega
      simp -implicitDefEqProofs only [zA,reduceCtorEq,Nat.reduceEqDiff,e4,hab]
def sxF (key : List UInt8) (count : U32) (nonce l : List UInt8) : List UInt8 := (List.range l.length).map fun k => l.getD k 0 ^^^ q6b key (count + BitVec.ofNat 32 (k / 64)) nonce (k % 64)
theorem qbz (key : List UInt8) (count : U32) (nonce l : List UInt8) : (sxF key count nonce l).length = l.length := by simp [sxF]
theorem quh {key : List UInt8} {count : U32} {nonce l : List UInt8} {k : Nat} (h : k < l.length) : (sxF key count nonce l)[k]? = some (l[k] ^^^ q6b key (count + BitVec.ofNat 32 (k / 64)) nonce (k % 64)) := by
  simp [sxF, h]
theorem qw6 (key : List UInt8) (count : U32) (nonce l : List UInt8) (n m : Nat) (hn : 64 * n < l.length) (hm : m = min 64 (l.length - 64 * n)) :
    (sxF key count nonce l).take (64 * (n + 1)) = (sxF key count nonce l).take (64 * n) ++ xorB ((l.drop (64 * n)).take m) (rowL (q6b key (count + BitVec.ofNat 32 n) nonce) 64) := by
  have hx := qf2 ((l.drop (64 * n)).take m) (rowL (q6b key (count + BitVec.ofNat 32 n) nonce) 64)
  rw [q3c, List.length_take, List.length_drop] at hx
  apply List.ext_getElem?
  intro j
  rw [List.getElem?_take, List.getElem?_append]
  have hl : ((sxF key count nonce l).take (64 * n)).length = 64 * n := by rw [List.length_take, qbz]; omega
  rw [hl]
  by_cases h1 : j < 64 * n
  · rw [if_pos (by omega), if_pos h1, List.getElem?_take, if_pos h1]
  · rw [if_neg h1]
    by_cases h2 : j < 64 * (n + 1)
    · rw [if_pos h2]
      by_cases h3 : j < l.length
      · rw [quh h3]
        have hj : j - 64 * n < (xorB ((l.drop (64 * n)).take m) (rowL (q6b key (count + BitVec.ofNat 32 n) nonce) 64)).length := by omega
        rw [List.getElem?_eq_getElem hj]
        simp [xorB, rowL]
        have e1 : 64 * n + (j - 64 * n) = j := by omega
        have e2 : j / 64 = n := by omega
        have e3 : j % 64 = j - 64 * n := by omega
        simp only [e1, e2, e3]
      · rw [List.getElem?_eq_none (by rw [qbz]; omega), List.getElem?_eq_none (by omega)]
    · rw [if_neg h2, List.getElem?_eq_none (by omega)]
theorem qsr (a : Nat) : Int.tdiv (a : Int) 64 = ((a / 64 : Nat) : Int) := by
  rw [Int.tdiv_eq_ediv_of_nonneg (by omega)]; rfl
theorem tmod64 (a : Nat) : Int.tmod (a : Int) 64 = ((a % 64 : Nat) : Int) := by
  rw [Int.tmod_eq_emod_of_nonneg (by omega)]; rfl
theorem qyc (n : Nat) (h : n < 4294967296) : IntKind.u32.wrap (n : Int) = ((BitVec.ofNat 32 n).toNat : Int) := by
  rw [qf3, q1d]
theorem qwm (E : EnvT tab) {h H : Heap} {base : Option Addr} {c b4 b6 : Nat} {nd : Int} (xs : List (Nat × Value)) (key nonce l : List UInt8) (count : U32) (hk : key.length = 32) (hn : nonce.length = 12) (hl : l.length ≤ 100000000) (hc : nd + count.toNat ≤ 4294967296) (hc0 : 0 ≤ nd) (sl : SlB h (.slice base l.length c) l)
    (hh : h.le H) (q4 : H b4 = some (.own 0 (key.map u8V) 32)) (q6 : H b6 = some (.own 0 (nonce.map u8V) 12)) :
    wpA E.toEnv 58 qc1 (qRet [ARes.tmp 8, ARes.tmp 9] fun r h' => h.le h' ∧ ∃ r', r = .tuple #[r', .int .i64 0] ∧ OwB h h' r' (sxF key count nonce l))
      (tl ([(1, .int .u32 count.toNat), (3, .slice base l.length c), (4, .pointer (some ⟨b4, 0, none⟩)), (6, .pointer (some ⟨b6, 0, none⟩)), (10, .int .i64 nd)] ++ xs)) H := by
  unfold qc1
  have hcn : count.toNat < 4294967296 := count.isLt
  have w1 : IntKind.i64.wrap (count.toNat : Int) = (count.toNat : Int) := q0w (by omega) (by omega)
  have w2 : IntKind.i64.wrap (4294967296 - (count.toNat : Int)) = 4294967296 - (count.toNat : Int) := q0w (by omega) (by omega)
  have g1 : ¬ (4294967296 - (count.toNat : Int) < nd) := by omega
  have g1' : nd ≤ 4294967296 - (count.toNat : Int) := by omega
  have hcap : l.length ≤ c := by
    rcases sl with ⟨e, hn, _⟩ | ⟨a, c', e, hc, _⟩
    · omega
    · cases e; exact hc
  have m1 : (0 : Int) ≤ (l.length : Int) ∧ (l.length : Int) ≤ 9223372036854775807 ∧ 1 * (l.length : Int) ≤ 281474976710656 := by omega
  simp -implicitDefEqProofs only [zA,Nat.reduceEqDiff,Int.reduceLE,w1,w2,g1,if_pos m1,Int.toNat_natCast,Int.toNat_zero]
  intro b11 hb11
  have o11 : OwB H (H.set b11 (.own 0 (List.replicate l.length (.int .u8 0)) l.length)) (.slice (some ⟨b11, 0, none⟩) 0 l.length) [] :=
    .inr ⟨b11, 0, l.length, l.length, 0, [], List.replicate l.length (.int .u8 0), rfl, Nat.zero_le _, hb11, by rw [Heap.q01]; simp, rfl, by simp, by omega⟩
  have le1 := Heap.q1c (Heap.q04 H) hb11 (.own 0 (List.replicate l.length (.int .u8 0)) l.length)
  have hlen := qbz key count nonce l
  refine q0c (fun m t H' => H.le H' ∧ ∃ (n : Nat) (v11 : Value), t = tl [(1, .int .u32 count.toNat), (3, .slice base l.length c), (4, .pointer (some ⟨b4, 0, none⟩)), (6, .pointer (some ⟨b6, 0, none⟩)), (11, v11), (12, .int .i64 ((64 * n : Nat) : Int))] ∧ 64 * n ≤ l.length + 63 ∧ m = l.length + 64 - 64 * n ∧
      OwB H H' v11 ((sxF key count nonce l).take (64 * n))) (l.length + 64)
    ⟨le1, 0, _, rfl, by omega, by omega, by simpa using o11⟩ ?_
  rintro m t H' ⟨le', n, v11, rfl, hn64, rfl, ow⟩
  by_cases hlt : 64 * n < l.length
  · have e1 : ((64 * n : Nat) : Int) < (l.length : Int) := by omega
    have l4 : q05 H' ⟨b4, 0, none⟩ 32 = some (key.map u8V) := q0u (le' _ _ q4) (by simp [hk])
    have l6 : q05 H' ⟨b6, 0, none⟩ 12 = some (nonce.map u8V) := q0u (le' _ _ q6) (by simp [hn])
    have dv : Int.tdiv ((64 * n : Nat) : Int) 64 = (n : Int) := by rw [qsr]; congr 1; omega
    have dw : IntKind.i64.wrap (n : Int) = (n : Int) := q0w (by omega) (by omega)
    have du := qyc n (by omega)
    simp -implicitDefEqProofs only [zA,Nat.reduceEqDiff,e1]
    unfold qg4
    simp -implicitDefEqProofs only [zA,Nat.reduceEqDiff,Int.reduceEq,l4,l6,dv,dw,du,qby]
    refine (qj2 E _ key nonce _ hk hn).mono ?_
    rintro r H2 ⟨le2, rfl⟩
    simp -implicitDefEqProofs only [zA,Nat.reduceEqDiff,List.length_replicate]
    intro b13 hb13
    have s13 : q0a (H2.set b13 (.own 0 (List.replicate 64 (.int .u8 0)) 64)) 64 (.pointer (some ⟨b13, 0, none⟩)) (.agg (row8 (q6b key (count + BitVec.ofNat 32 n) nonce) 64).toArray) = some (H2.set b13 (.own 0 (row8 (q6b key (count + BitVec.ofNat 32 n) nonce) 64) 64)) := z6z (by omega) (q0m _ _) (by simp [row8, one]) (by simp) (by omega)
    have w3 : IntKind.i64.wrap (((64 * n : Nat) : Int) + 64) = ((64 * (n + 1) : Nat) : Int) := by rw [q0w (by omega) (by omega)]; omega
    obtain ⟨mm, hmm⟩ : ∃ mm, mm = min 64 (l.length - 64 * n) := ⟨_, rfl⟩
    have hmn : (if (l.length : Int) < ((64 * (n + 1) : Nat) : Int) then (l.length : Int) else ((64 * (n + 1) : Nat) : Int)) = ((64 * n + mm : Nat) : Int) := by split <;> omega
    have bd : bnds l.length c (some (some (.int .i64 ((64 * n : Nat) : Int)))) (some (some (.int .i64 ((64 * n + mm : Nat) : Int)))) none = some (64 * n, 64 * n + mm, c) := qho (by omega) (by omega) (by omega)
    have le3 := Heap.q1c le2 hb13 (.own 0 (row8 (q6b key (count + BitVec.ofNat 32 n) nonce) 64) 64)
    have s64 := qgl (H := H2.set b13 (.own 0 (row8 (q6b key (count + BitVec.ofNat 32 n) nonce) 64) 64)) (b := b13) (l := rowL (q6b key (count + BitVec.ofNat 32 n) nonce) 64) (sz := 64) (by rw [Heap.q01, qdg])
    have sp := Sl.qwu (a := 64 * n) (b := 64 * n + mm) (sl.le (Heap.q00 hh (Heap.q00 le' le3))) (by omega) (by omega)
    have hst := qw6 key count nonce l n mm hlt hmm
    rw [show 64 * n + mm - 64 * n = mm by omega] at sp
    have hxl := qf2 ((l.drop (64 * n)).take mm) (rowL (q6b key (count + BitVec.ofNat 32 n) nonce) 64)
    rw [q3c, List.length_take, List.length_drop] at hxl
    generalize q6b key (count + BitVec.ofNat 32 n) nonce = bk at *
    simp -implicitDefEqProofs only [zA,reduceCtorEq,Nat.reduceEqDiff,s13,w3,hmn,bd,qeg,Nat.sub_zero,addz]
    rw [show 64 * n + mm - 64 * n = mm by omega]
    have lp : ((l.drop (64 * n)).take mm).length = mm := by simp; omega
    have lr := q3c bk 64
    refine (quu E _ ((l.drop (64 * n)).take mm) (rowL bk 64) (by omega) (by unfold SlB; rw [lp]; unfold SlB at sp; rw [lp] at sp; exact sp) (by unfold SlB at s64; rw [lr] at s64; unfold SlB; rw [lr]; exact s64)).mono ?_
    rintro r H4 ⟨le4, ow4⟩
    have le24 := Heap.q00 le3 le4
    have le04 := Heap.q00 le' le24
    simp -implicitDefEqProofs only [zA,Nat.reduceEqDiff,List.mem_cons,List.not_mem_nil,or_false,implies_true]
    refine q0t (bytes := 1) le04 (by omega) (ow.le le24) ow4.sl (q1i _) (by rw [hxl, List.length_take, hlen]; omega) (by rw [hxl, List.length_take, hlen]; omega) ?_
    intro v5 H5 ow5 le5
    simp -implicitDefEqProofs only [zA,Nat.reduceEqDiff,w3]
    refine ⟨_, by omega, le5, n + 1, v5, rfl, by omega, rfl, ?_⟩
    rw [hst]
    unfold OwB
    rw [List.length_append, List.map_append]
    exact ow5
  · have e1 : ¬ ((64 * n : Nat) : Int) < (l.length : Int) := by omega
    rw [List.take_of_length_le (by omega)] at ow
    simp -implicitDefEqProofs only [zA,Nat.reduceEqDiff,e1]
    exact ⟨Heap.q00 hh le', _, rfl, Ow.since hh ow⟩
theorem qnf (E : EnvT tab) (h : Heap) {v : Value} (key nonce l : List UInt8) (count : U32) (hk : key.length = 32) (hn : nonce.length = 12) (hl : l.length ≤ 100000000) (hc : count.toNat + (l.length + 63) / 64 ≤ 4294967296) (sl : SlB h v l) :
    ACallN E.toEnv qtn [.agg (key.map u8V).toArray, .int .u32 count.toNat, .agg (nonce.map u8V).toArray, v] h fun r h' => h.le h' ∧ ∃ r', r = .tuple #[r', .int .i64 0] ∧ OwB h h' r' (sxF key count nonce l) := by
  obtain ⟨base, c, rfl⟩ := Sl.shape sl
  refine q0o qhi qcn rfl rfl (q03 ?_)
  unfold qcn
  have hk' : (key.map u8V).length = 32 := by simp [hk]
  have hn' : (nonce.map u8V).length = 12 := by simp [hn]
  have d1 : IntKind.i64.wrap ((l.length / 64 : Nat) : Int) = ((l.length / 64 : Nat) : Int) := q0w (by omega) (by omega)
  have d2 : IntKind.i64.wrap ((l.length % 64 : Nat) : Int) = ((l.length % 64 : Nat) : Int) := q0w (by omega) (by omega)
  have d3 : IntKind.i64.wrap (((l.length / 64 : Nat) : Int) + 1) = ((l.length / 64 + 1 : Nat) : Int) := q2k (by omega)
  by_cases g : (0 : Int) < ((l.length % 64 : Nat) : Int)
  · have g' : ¬ ((l.length % 64 : Nat) : Int) ≤ 0 := by omega
    simp -implicitDefEqProofs only [zA,reduceCtorEq,Nat.reduceEqDiff,Nat.reduceAdd,Int.reduceEq,hk',hn',qsr,tmod64,d1,d3,g]
    intro b4 hb4 b6 hb6
    obtain ⟨n64, hb6'⟩ := Heap.q0b.1 hb6
    exact qwm E [] key nonce l count hk hn hl (by omega) (by omega) sl (Heap.q02 (Heap.q02 (Heap.q04 _) hb4 _) hb6' _) (q07 (Heap.q01 _ _ _) (Ne.symm n64)) (Heap.q01 _ _ _)
  · have g' : ((l.length % 64 : Nat) : Int) ≤ 0 := by omega
    simp -implicitDefEqProofs only [zA,reduceCtorEq,Nat.reduceEqDiff,Nat.reduceAdd,Int.reduceEq,hk',hn',qsr,tmod64,d1,g]
    intro b4 hb4 b6 hb6
    obtain ⟨n64, hb6'⟩ := Heap.q0b.1 hb6
    exact qwm E [(20, .bool false)] key nonce l count hk hn hl (by omega) (by omega) sl (Heap.q02 (Heap.q02 (Heap.q04 _) hb4 _) hb6' _) (q07 (Heap.q01 _ _ _) (Ne.symm n64)) (Heap.q01 _ _ _)
theorem N3.qni (x : N3) : x.val = x.a + 18446744073709551616 * x.b + 340282366920938463463374607431768211456 * x.c := rfl
theorem N3.qeh {x y : N3} (h : x.val + y.val < 6277101735386680763835789423207666416102355444464034512896) : (x.plus y).val = x.val + y.val := by
  rw [N3.qww, Nat.mod_eq_of_lt h]
theorem qry (p : Nat) : (⟨p % 18446744073709551616, p / 18446744073709551616, 0⟩ : N3).val = p := by
  rw [N3.qni]
  show p % 18446744073709551616 + 18446744073709551616 * (p / 18446744073709551616) + 340282366920938463463374607431768211456 * 0 = p
  omega
theorem N3.qmu {s : N3} {a b : Nat} (h : s.val + a * b < 6277101735386680763835789423207666416102355444464034512896) : (s.col a b).val = s.val + a * b := by
  unfold N3.col
  rw [N3.qeh (by rw [qry]; exact h), qry]
theorem N3.qvy {x : N3} (hx : x.ok) : x.cut.val = x.val % 1361129467683753853853498429727072845824 + 5 * (x.val / 1361129467683753853853498429727072845824) := by
  obtain ⟨ha, hb, hc⟩ := hx
  have e1 : (⟨x.a, x.b, x.c % 4⟩ : N3).val = x.a + 18446744073709551616 * x.b + 340282366920938463463374607431768211456 * (x.c % 4) := rfl
  have e2 := qry (x.c / 4 * 5)
  unfold N3.cut
  rw [N3.qeh (by rw [e1, e2]; omega), e1, e2, N3.qni]
  omega
theorem N3.qlv {x y : N3} (h : x.val + y.val < 6277101735386680763835789423207666416102355444464034512896) : (⟨(x.plus y).b, (x.plus y).c, 0⟩ : N3).val = (x.val + y.val) / 18446744073709551616 ∧ (x.plus y).a = (x.val + y.val) % 18446744073709551616 := by
  obtain ⟨ha, hb, hc⟩ := N3.qac x y
  have hv := N3.qeh h
  rw [N3.qni] at hv
  have e1 : (⟨(x.plus y).b, (x.plus y).c, 0⟩ : N3).val = (x.plus y).b + 18446744073709551616 * (x.plus y).c + 340282366920938463463374607431768211456 * 0 := rfl
  rw [e1]
  omega
theorem qir : z3.val = 0 := rfl
theorem outs (C : Nat → N3) (h0 : (C 0).val < 170141183460469231731687303715884105728) (h1 : (C 1).val < 170141183460469231731687303715884105728) (h2 : (C 2).val < 170141183460469231731687303715884105728) (h3 : (C 3).val < 9000000000000000000) :
    outW C 0 + 18446744073709551616 * outW C 1 + 340282366920938463463374607431768211456 * outW C 2 + 6277101735386680763835789423207666416102355444464034512896 * outW C 3 =
      (C 0).val + 18446744073709551616 * (C 1).val + 340282366920938463463374607431768211456 * (C 2).val + 6277101735386680763835789423207666416102355444464034512896 * (C 3).val := by
  have k0 : (q2j C 0).val = 0 := rfl
  obtain ⟨v0, w0⟩ := N3.qlv (x := q2j C 0) (y := C 0) (by omega)
  have k1 : (q2j C 1).val = ((q2j C 0).val + (C 0).val) / 18446744073709551616 := v0
  obtain ⟨v1, w1⟩ := N3.qlv (x := q2j C 1) (y := C 1) (by omega)
  have k2 : (q2j C 2).val = ((q2j C 1).val + (C 1).val) / 18446744073709551616 := v1
  obtain ⟨v2, w2⟩ := N3.qlv (x := q2j C 2) (y := C 2) (by omega)
  have k3 : (q2j C 3).val = ((q2j C 2).val + (C 2).val) / 18446744073709551616 := v2
  obtain ⟨v3, w3⟩ := N3.qlv (x := q2j C 3) (y := C 3) (by omega)
  have o0 : outW C 0 = ((q2j C 0).val + (C 0).val) % 18446744073709551616 := w0
  have o1 : outW C 1 = ((q2j C 1).val + (C 1).val) % 18446744073709551616 := w1
  have o2 : outW C 2 = ((q2j C 2).val + (C 2).val) % 18446744073709551616 := w2
  have o3 : outW C 3 = ((q2j C 3).val + (C 3).val) % 18446744073709551616 := w3
  rw [o0, o1, o2, o3]
  clear v0 v1 v2 v3 w0 w1 w2 w3 o0 o1 o2 o3
  omega
theorem adds5 {x y : N3} (h : x.val + 5 * y.val < 6277101735386680763835789423207666416102355444464034512896) : (q87 x y 5).val = x.val + 5 * y.val := by
  have a1 : (q87 x y 1).val = x.val + y.val := by rw [show q87 x y 1 = x.plus y from rfl, N3.qeh (by omega)]
  have a2 : (q87 x y 2).val = x.val + 2 * y.val := by rw [show q87 x y 2 = (q87 x y 1).plus y from rfl, N3.qeh (by omega), a1]; omega
  have a3 : (q87 x y 3).val = x.val + 3 * y.val := by rw [show q87 x y 3 = (q87 x y 2).plus y from rfl, N3.qeh (by omega), a2]; omega
  have a4 : (q87 x y 4).val = x.val + 4 * y.val := by rw [show q87 x y 4 = (q87 x y 3).plus y from rfl, N3.qeh (by omega), a3]; omega
  rw [show q87 x y 5 = (q87 x y 4).plus y from rfl, N3.qeh (by omega), a4]; omega
theorem qer {a b A B : Nat} (ha : a ≤ A) (hb : b ≤ B) : a * b ≤ A * B := Nat.mul_le_mul ha hb
theorem N3.j0j {x : N3} {r0 r1 : Nat} (hx : x.ok) (hv : x.val < 2722258935367507707706996859454145691648) (h0 : r0 < 1152921504606846976) (h1 : r1 < 1152921504606846976) :
    (x.times r0 r1).val % PQ = x.val * (r0 + 18446744073709551616 * r1) % PQ ∧ (x.times r0 r1).val < 1361129467683753853853498429727072846000 := by
  obtain ⟨ha, hb, hc⟩ := hx
  rw [N3.qni] at hv
  have hc8 : x.c < 8 := by omega
  have p00 := qer (show x.a ≤ 18446744073709551615 by omega) (show r0 ≤ 1152921504606846975 by omega)
  have p01 := qer (show x.a ≤ 18446744073709551615 by omega) (show r1 ≤ 1152921504606846975 by omega)
  have p10 := qer (show x.b ≤ 18446744073709551615 by omega) (show r0 ≤ 1152921504606846975 by omega)
  have p11 := qer (show x.b ≤ 18446744073709551615 by omega) (show r1 ≤ 1152921504606846975 by omega)
  have p20 := qer (show x.c ≤ 7 by omega) (show r0 ≤ 1152921504606846975 by omega)
  have p21 := qer (show x.c ≤ 7 by omega) (show r1 ≤ 1152921504606846975 by omega)
  simp only [Nat.reduceMul] at p00 p01 p10 p11 p20 p21
  have c0 : (q3t x r0 r1 0).val = x.a * r0 := by
    show (z3.col x.a r0).val = _
    rw [N3.qmu (by rw [qir]; omega), qir, Nat.zero_add]
  have c1 : (q3t x r0 r1 1).val = x.a * r1 + x.b * r0 := by
    show ((z3.col x.a r1).col x.b r0).val = _
    have e : (z3.col x.a r1).val = x.a * r1 := by rw [N3.qmu (by rw [qir]; omega), qir, Nat.zero_add]
    rw [N3.qmu (by rw [e]; omega), e]
  have c2 : (q3t x r0 r1 2).val = x.b * r1 + x.c * r0 := by
    show ((z3.col x.b r1).col x.c r0).val = _
    have e : (z3.col x.b r1).val = x.b * r1 := by rw [N3.qmu (by rw [qir]; omega), qir, Nat.zero_add]
    rw [N3.qmu (by rw [e]; omega), e]
  have c3 : (q3t x r0 r1 3).val = x.c * r1 := by
    show (z3.col x.c r1).val = _
    rw [N3.qmu (by rw [qir]; omega), qir, Nat.zero_add]
  have ho := outs (q3t x r0 r1) (by rw [c0]; omega) (by rw [c1]; omega) (by rw [c2]; omega) (by rw [c3]; omega)
  rw [c0, c1, c2, c3] at ho
  have l0 := qgm (q3t x r0 r1) 0
  have l1 := qgm (q3t x r0 r1) 1
  have l2 := qgm (q3t x r0 r1) 2
  have l3 := qgm (q3t x r0 r1) 3
  have eT : x.val * (r0 + 18446744073709551616 * r1) = x.a * r0 + 18446744073709551616 * (x.a * r1 + x.b * r0) + 340282366920938463463374607431768211456 * (x.b * r1 + x.c * r0) + 6277101735386680763835789423207666416102355444464034512896 * (x.c * r1) := by
    rw [N3.qni, Nat.mul_add, Nat.add_mul, Nat.add_mul, Nat.mul_left_comm _ 18446744073709551616 r1, Nat.add_mul, Nat.add_mul, Nat.mul_assoc, Nat.mul_assoc, Nat.mul_assoc, Nat.mul_assoc]
    omega
  have vl : (lowF (q3t x r0 r1)).val = outW (q3t x r0 r1) 0 + 18446744073709551616 * outW (q3t x r0 r1) 1 + 340282366920938463463374607431768211456 * (outW (q3t x r0 r1) 2 % 4) := rfl
  have vh : (qle (q3t x r0 r1)).val = outW (q3t x r0 r1) 2 / 4 + outW (q3t x r0 r1) 3 % 4 * 4611686018427387904 + 18446744073709551616 * (outW (q3t x r0 r1) 3 / 4) := by
    show outW (q3t x r0 r1) 2 / 4 + outW (q3t x r0 r1) 3 % 4 * 4611686018427387904 + 18446744073709551616 * (outW (q3t x r0 r1) 3 / 4) + 340282366920938463463374607431768211456 * 0 = _
    omega
  have h5 : (q87 (lowF (q3t x r0 r1)) (qle (q3t x r0 r1)) 5).val = (lowF (q3t x r0 r1)).val + 5 * (qle (q3t x r0 r1)).val := adds5 (by rw [vl, vh]; omega)
  have hcut := N3.qvy (x := q87 (lowF (q3t x r0 r1)) (qle (q3t x r0 r1)) 5) (qws (qzn _) 5)
  rw [eT, ← ho]
  show (q87 (lowF (q3t x r0 r1)) (qle (q3t x r0 r1)) 5).cut.val % PQ = _ ∧ (q87 (lowF (q3t x r0 r1)) (qle (q3t x r0 r1)) 5).cut.val < _
  rw [hcut, h5, vl, vh]
  clear hcut h5 vl vh eT ho c0 c1 c2 c3 p00 p01 p10 p11 p20 p21
  generalize outW (q3t x r0 r1) 0 = o0 at *
  generalize outW (q3t x r0 r1) 1 = o1 at *
  generalize outW (q3t x r0 r1) 2 = o2 at *
  generalize outW (q3t x r0 r1) 3 = o3 at *
  unfold PQ
  constructor
  · omega
  · omega
theorem N3.last_val {x : N3} (hx : x.ok) (hv : x.val < 2722258935367507707706996859454145691648) : x.last.val = x.val % PQ := by
  have v1 := N3.qvy hx
  have v2 := N3.qvy (N3.qrd x)
  have e5 : (⟨5, 0, 0⟩ : N3).val = 5 := rfl
  have v3 : (x.cut.cut.plus ⟨5, 0, 0⟩).val = x.cut.cut.val + 5 := by rw [N3.qeh (by rw [e5]; omega), e5]
  obtain ⟨ga, gb, gc⟩ := N3.qac x.cut.cut ⟨5, 0, 0⟩
  unfold N3.last
  unfold PQ
  have b1 : x.cut.val < 1361129467683753853853498429727072845829 ∧ x.cut.val % 1361129467683753853853498429727072845819 = x.val % 1361129467683753853853498429727072845819 := by omega
  have b2 : x.cut.cut.val < 1361129467683753853853498429727072845824 ∧ x.cut.cut.val % 1361129467683753853853498429727072845819 = x.cut.val % 1361129467683753853853498429727072845819 := by
    clear v1
    omega
  rw [← b1.2, ← b2.2]
  replace b2 := b2.1
  clear v1 v2 b1
  by_cases h : 3 < (x.cut.cut.plus ⟨5, 0, 0⟩).c
  · rw [if_pos h]
    have e : (⟨(x.cut.cut.plus ⟨5, 0, 0⟩).a, (x.cut.cut.plus ⟨5, 0, 0⟩).b, (x.cut.cut.plus ⟨5, 0, 0⟩).c % 4⟩ : N3).val = (x.cut.cut.plus ⟨5, 0, 0⟩).a + 18446744073709551616 * (x.cut.cut.plus ⟨5, 0, 0⟩).b + 340282366920938463463374607431768211456 * ((x.cut.cut.plus ⟨5, 0, 0⟩).c % 4) := rfl
    rw [e]
    rw [N3.qni (x.cut.cut.plus _)] at v3
    generalize (x.cut.cut.plus ⟨5, 0, 0⟩).a = a at *
    generalize (x.cut.cut.plus ⟨5, 0, 0⟩).b = b at *
    generalize (x.cut.cut.plus ⟨5, 0, 0⟩).c = c at *
    have c4 : c = 4 := by omega
    subst c4
    rw [show (4 : Nat) % 4 = 0 from rfl, Nat.mod_eq_sub_mod (by omega), Nat.mod_eq_of_lt (by omega)]
    omega
  · rw [if_neg h]
    rw [N3.qni (x.cut.cut.plus _)] at v3
    generalize (x.cut.cut.plus ⟨5, 0, 0⟩).a = a at *
    generalize (x.cut.cut.plus ⟨5, 0, 0⟩).b = b at *
    generalize (x.cut.cut.plus ⟨5, 0, 0⟩).c = c at *
    omega
theorem keyR_15 (w : List UInt8) (k : Nat) (h : k = 7 ∨ k = 15) : (keyR w k).toNat ≤ 15 := by
  have e : keyR w k = (w.getD k 0) &&& 15 := by
    unfold keyR qez clB clA
    rw [if_neg (by omega), if_pos (by omega)]
  rw [e, UInt8.toNat_and]
  exact Nat.and_le_right
theorem leN_top (a : List UInt8) (b : UInt8) (ha : a.length = 7) (hb : b.toNat ≤ 15) : leN (a ++ [b]) < 1152921504606846976 := by
  have h1 := qwc a
  rw [ha] at h1
  rw [q8r, ha]
  have e : leN [b] = b.toNat := by simp [leN]
  rw [e]
  simp only [Nat.reducePow] at h1 ⊢
  omega
theorem qsa (w : List UInt8) (i : Nat) (hi : i < 2) : keyK w i = leN (((rowL (keyR w) 16).drop (8 * i)).take 8) := by
  unfold keyK
  rw [q4e _ (by simp; omega)]
theorem row_cut (f : Nat → UInt8) (i : Nat) (hi : i < 2) : ((rowL f 16).drop (8 * i)).take 8 = ((rowL f 16).drop (8 * i)).take 7 ++ [f (8 * i + 7)] := by
  match i, hi with
  | 0, _ => rfl
  | 1, _ => rfl
theorem qzr (w : List UInt8) (i : Nat) (hi : i < 2) : keyK w i < 1152921504606846976 := by
  rw [qsa w i hi, row_cut _ i hi]
  exact leN_top _ _ (by simp [q3c]; omega) (keyR_15 w _ (by omega))
theorem qvd (w : List UInt8) : keyK w 0 + 18446744073709551616 * keyK w 1 = leN (rowL (keyR w) 16) := by
  rw [qsa w 0 (by omega), qsa w 1 (by omega)]
  have e : rowL (keyR w) 16 = ((rowL (keyR w) 16).drop (8 * 0)).take 8 ++ ((rowL (keyR w) 16).drop (8 * 1)).take 8 := by
    rw [Nat.mul_zero, List.drop_zero, Nat.mul_one, List.take_of_length_le (l := (rowL (keyR w) 16).drop 8) (by simp [q3c]), List.take_append_drop]
  have l8 : (((rowL (keyR w) 16).drop (8 * 0)).take 8).length = 8 := by simp [q3c]
  conv => rhs; rw [e]
  rw [q8r, l8]
theorem qzp (n : Nat) : leN (List.replicate n 0) = 0 := leN_zero n
theorem qxp (l : List UInt8) : (qpn l).val = blkV (l.take 16) := by
  have ht : (l.take 16).length ≤ 16 := by simp; omega
  have key : ∀ t : List UInt8, t.length ≤ 16 → leN ((t ++ [1] ++ List.replicate (32 - t.length) 0).take 8) + 18446744073709551616 * leN (((t ++ [1] ++ List.replicate (32 - t.length) 0).drop 8).take 8) + 340282366920938463463374607431768211456 * ((t ++ [1] ++ List.replicate (32 - t.length) 0).getD 16 0).toNat = blkV t := by
    intro t h
    have hB : (t ++ [1] ++ List.replicate (32 - t.length) 0).length = 33 := by simp; omega
    have h17 : (t ++ [1] ++ List.replicate (32 - t.length) (0 : UInt8)).take 17 = t ++ [1] ++ List.replicate (16 - t.length) 0 := by
      rw [List.take_append, List.take_of_length_le (by simp; omega)]
      congr 1
      simp
      omega
    have e : (t ++ [1] ++ List.replicate (32 - t.length) (0 : UInt8)).take 17 = (t ++ [1] ++ List.replicate (32 - t.length) 0).take 8 ++ (((t ++ [1] ++ List.replicate (32 - t.length) 0).drop 8).take 8 ++ [(t ++ [1] ++ List.replicate (32 - t.length) 0).getD 16 0]) := by
      generalize t ++ [1] ++ List.replicate (32 - t.length) (0 : UInt8) = B at hB
      apply List.ext_getElem
      · simp [hB]
      · intro i h1 h2
        have hi : i < 17 := by simp at h1; omega
        rw [List.getElem_take, List.getElem_append]
        split
        · rw [List.getElem_take]
        · rename_i g1
          rw [List.getElem_append]
          split
          · rw [List.getElem_take, List.getElem_drop]
            congr 1
            simp [hB] at g1 ⊢
            omega
          · rename_i g2
            simp [hB] at g1 g2
            have : i = 16 := by omega
            subst this
            simp [List.getD_eq_getElem?_getD, hB]
    have hv : leN ((t ++ [1] ++ List.replicate (32 - t.length) (0 : UInt8)).take 17) = blkV t := by
      rw [h17, q8r, q8r, qzp]
      unfold blkV
      simp [leN]
    rw [← hv, e, q8r, q8r]
    have l1 : ((t ++ [1] ++ List.replicate (32 - t.length) (0 : UInt8)).take 8).length = 8 := by simp only [List.length_take, hB]; rfl
    have l2 : (((t ++ [1] ++ List.replicate (32 - t.length) (0 : UInt8)).drop 8).take 8).length = 8 := by simp only [List.length_take, List.length_drop, hB]; rfl
    rw [l1, l2]
    have e1 : ∀ b : UInt8, leN [b] = b.toNat := fun b => by simp [leN]
    rw [e1]
    simp only [Nat.reducePow]
    omega
  have := key (l.take 16) ht
  rw [N3.qni]
  show (q0h ((qd4 l).take 8)).toNat + 18446744073709551616 * (q0h (((qd4 l).drop 8).take 8)).toNat + 340282366920938463463374607431768211456 * ((qd4 l).getD 16 0).toNat = _
  rw [q4e _ (by simp; omega), q4e _ (by simp; omega)]
  exact this
theorem blkV_lt (l : List UInt8) (h : l.length ≤ 16) : blkV l < 680564733841876926926749214863536422913 := by
  have h1 := qwc l
  have h2 : 256 ^ l.length ≤ 256 ^ 16 := Nat.pow_le_pow_right (by decide) h
  unfold blkV
  simp only [Nat.reducePow] at h2
  omega
theorem times_ok (x : N3) (r0 r1 : Nat) : (x.times r0 r1).ok := N3.qrd _
theorem qql (k0 k1 : Nat) (h0 : k0 < 1152921504606846976) (h1 : k1 < 1152921504606846976) : ∀ (n : Nat) (l : List UInt8) (s : N3), l.length ≤ n → s.ok → s.val < 1361129467683753853853498429727072846000 →
    (qek k0 k1 s l).ok ∧ (qek k0 k1 s l).val < 1361129467683753853853498429727072846000 ∧ (qek k0 k1 s l).val % PQ = qoy (k0 + 18446744073709551616 * k1) (s.val % PQ) l
  | 0, l, s, hn, hs, hv => by
    have : l = [] := List.eq_nil_of_length_eq_zero (by omega)
    subst this
    rw [qj5 (by simp), qm3 (by simp)]
    exact ⟨hs, hv, rfl⟩
  | n + 1, l, s, hn, hs, hv => by
    by_cases hl : 0 < l.length
    · rw [qoj hl, qqt hl]
      have hb := blkV_lt (l.take 16) (by simp; omega)
      have hbv := qxp l
      have hp : (s.plus (qpn l)).val = s.val + blkV (l.take 16) := by rw [N3.qeh (by rw [hbv]; omega), hbv]
      obtain ⟨t1, t2⟩ := N3.j0j (x := s.plus (qpn l)) (N3.qac _ _) (by rw [hp]; omega) h0 h1
      obtain ⟨i1, i2, i3⟩ := qql k0 k1 h0 h1 n (l.drop 16) ((s.plus (qpn l)).times k0 k1) (by simp; omega) (times_ok _ _ _) t2
      refine ⟨i1, i2, ?_⟩
      rw [i3, t1, hp, qs7]
    · rw [qj5 hl, qm3 hl]
      exact ⟨hs, hv, rfl⟩
theorem tagA_val (r l : List UInt8) : tagA r l = qoy (leN (rowL (keyR r) 16)) 0 l := by
  unfold tagA
  obtain ⟨i1, i2, i3⟩ := qql (keyK r 0) (keyK r 1) (qzr r 0 (by omega)) (qzr r 1 (by omega)) l.length l z3 (Nat.le_refl _) qud (by rw [qir]; omega)
  rw [N3.last_val i1 (by omega), i3, qir, Nat.zero_mod, qvd]
theorem tag_same (w l : List UInt8) (hw : w.length = 32) : tagF w l = rowL (tagR w l) 16 := by
  have lT : (tagF w l).length = 16 := by unfold tagF; rw [List.length_append, q1f, q1f]
  apply List.ext_getElem
  · rw [lT, q3c]
  · intro i h1 h2
    have hi : i < 16 := by omega
    have hr : (w.take 16).length = 16 := by simp [hw]
    have hs : (w.drop 16).length = 16 := by simp [hw]
    have hb := qyl (w.take 16) (w.drop 16) l hr hs i hi
    rw [List.take_append_drop, tagA_val] at hb
    have hk : leN (rowL (keyR (w.take 16)) 16) = leN (rowL (keyR w) 16) := by
      rw [← qvd, ← qvd]
      have k0 := ql8 (w.take 16) (w.drop 16) hr 0
      have k1 := ql8 (w.take 16) (w.drop 16) hr 1
      rw [List.take_append_drop] at k0 k1
      rw [k0, k1]
    rw [hk] at hb
    have e : (rowL (tagR w l) 16)[i]'h2 = tagR w l i := by simp [rowL]
    refine Eq.trans ?_ e.symm
    unfold tagR
    rw [← hb]
    simp [List.getD_eq_getElem?_getD, h1]
def qae (n : Nat) : Nat := (16 - n % 16) % 16
def lenB (n : Nat) : List UInt8 := q1j (BitVec.ofNat 64 n) 8
def qdb (l : List UInt8) : List UInt8 := l ++ List.replicate (qae l.length) 0
def qan (beside c : List UInt8) : List UInt8 := qdb beside ++ qdb c ++ (lenB beside.length ++ lenB c.length)
def qps (key nonce : List UInt8) : List UInt8 := rowL (q6b key 0 nonce) 32
def qf0 (key nonce c beside : List UInt8) : List UInt8 := rowL (tagR (qps key nonce) (qan beside c)) 16
def qj7 (key nonce plain beside : List UInt8) : List UInt8 := sxF key 1 nonce plain ++ qf0 key nonce (sxF key 1 nonce plain) beside
def qkk (key nonce sealed beside : List UInt8) : Nat × List UInt8 :=
  if 65552 < sealed.length then (2, [])
  else if sealed.length < 16 then (8, [])
  else if qf0 key nonce (sealed.take (sealed.length - 16)) beside = sealed.drop (sealed.length - 16) then (0, sxF key 1 nonce (sealed.take (sealed.length - 16)))
  else (8, [])
theorem lenB_len (n : Nat) : (lenB n).length = 8 := q1f _ _
theorem qcp (n : Nat) : qae n < 16 := Nat.mod_lt _ (by omega)
theorem qhj (l : List UInt8) : (qdb l).length = l.length + qae l.length := by simp [qdb]
theorem qlt (key nonce : List UInt8) : (qps key nonce).length = 32 := q3c _ _
theorem qd5 (key nonce c beside : List UInt8) : (qf0 key nonce c beside).length = 16 := q3c _ _
theorem qlx (beside c : List UInt8) : (qan beside c).length = beside.length + qae beside.length + (c.length + qae c.length) + 16 := by
  unfold qan
  simp only [List.length_append, qhj, lenB_len]
theorem qge (key nonce plain beside : List UInt8) : (qj7 key nonce plain beside).length = plain.length + 16 := by
  unfold qj7; rw [List.length_append, qbz, qd5]
theorem qym (key : List UInt8) (count : U32) (nonce l : List UInt8) : sxF key count nonce (sxF key count nonce l) = l := by
  apply List.ext_getElem?
  intro k
  by_cases h : k < l.length
  · have h2 : k < (sxF key count nonce l).length := by rw [qbz]; exact h
    rw [quh h2]
    have := quh (key := key) (count := count) (nonce := nonce) h
    rw [List.getElem?_eq_getElem h2] at this
    rw [Option.some.inj this, List.getElem?_eq_getElem h, UInt8.xor_assoc, UInt8.xor_self, UInt8.xor_zero]
  · rw [List.getElem?_eq_none (by rw [qbz, qbz]; omega), List.getElem?_eq_none (by omega)]
theorem qz9 (key nonce plain beside : List UInt8) (h : plain.length ≤ 65536) : qkk key nonce (qj7 key nonce plain beside) beside = (0, plain) := by
  have hl := qge key nonce plain beside
  have hs := qbz key 1 nonce plain
  unfold qkk
  rw [if_neg (by omega), if_neg (by omega), hl]
  have e1 : (qj7 key nonce plain beside).take (plain.length + 16 - 16) = sxF key 1 nonce plain := by
    unfold qj7
    rw [List.take_left' (by omega)]
  have e2 : (qj7 key nonce plain beside).drop (plain.length + 16 - 16) = qf0 key nonce (sxF key 1 nonce plain) beside := by
    unfold qj7
    rw [List.drop_left' (by omega)]
  rw [e1, e2, if_pos rfl, qym]
def numF (n : Nat) : List UInt8 := if h : n < 128 then [UInt8.ofNat n] else UInt8.ofNat (n % 128 + 128) :: numF (n / 128)
termination_by n
decreasing_by omega
theorem qjc {n : Nat} (h : n < 128) : numF n = [UInt8.ofNat n] := by rw [numF, dif_pos h]
theorem qp4 {n : Nat} (h : ¬ n < 128) : numF n = UInt8.ofNat (n % 128 + 128) :: numF (n / 128) := by rw [numF, dif_neg h]
theorem q2b : ∀ k n : Nat, n < 128 ^ k → 0 < k → (numF n).length ≤ k
  | 0, _, _, h => by omega
  | k + 1, n, h, _ => by
      by_cases g : n < 128
      · rw [qjc g]; simp
      · rw [qp4 g, List.length_cons]
        have h1 : n / 128 < 128 ^ k := by rw [Nat.div_lt_iff_lt_mul (by omega)]; rw [Nat.pow_succ] at h; exact h
        have h2 : 0 < k := by
          rcases Nat.eq_zero_or_pos k with e | e
          · subst e; simp at h1; omega
          · exact e
        have := q2b k (n / 128) h1 h2
        omega
def rdF (lim : Nat) : Nat → Nat → Nat → List UInt8 → Option (Nat × List UInt8)
  | 0, _, _, _ => none
  | _ + 1, _, _, [] => none
  | k + 1, i, v, c :: l =>
    if 128 ≤ c.toNat then rdF lim k (i + 1) (v + c.toNat % 128 * 128 ^ i) l
    else if (0 < i ∧ c.toNat = 0) ∨ lim < v + c.toNat % 128 * 128 ^ i then none
    else some (v + c.toNat % 128 * 128 ^ i, l)
theorem qz1 (lim : Nat) (r : List UInt8) : ∀ k i v n, n < 128 ^ k → (0 < i → 0 < n) → v + n * 128 ^ i ≤ lim → 0 < k → rdF lim k i v (numF n ++ r) = some (v + n * 128 ^ i, r)
  | 0, _, _, _, _, _, _, h => by omega
  | k + 1, i, v, n, h, hi, hl, _ => by
      by_cases g : n < 128
      · rw [qjc g, List.singleton_append, rdF]
        have e : (UInt8.ofNat n).toNat = n := by simp; omega
        rw [e, if_neg (by omega), Nat.mod_eq_of_lt g, if_neg]
        rintro (⟨a, b⟩ | a)
        · have := hi a; omega
        · omega
      · rw [qp4 g, List.cons_append, rdF]
        have e : (UInt8.ofNat (n % 128 + 128)).toNat = n % 128 + 128 := by simp; omega
        have h1 : n / 128 < 128 ^ k := by rw [Nat.div_lt_iff_lt_mul (by omega)]; rw [Nat.pow_succ] at h; exact h
        have h2 : 0 < k := by
          rcases Nat.eq_zero_or_pos k with e | e
          · subst e; simp at h1; omega
          · exact e
        have e2 : (n % 128 + 128) % 128 = n % 128 := by omega
        have e3 : n % 128 * 128 ^ i + n / 128 * 128 ^ (i + 1) = n * 128 ^ i := by
          rw [Nat.pow_succ, Nat.mul_comm (128 ^ i) 128, ← Nat.mul_assoc, ← Nat.add_mul]
          congr 1; omega
        rw [e, if_pos (by omega), e2, qz1 lim r k (i + 1) _ (n / 128) h1 (fun _ => by omega) (by omega) h2]
        congr 2; omega
theorem rdF_le (lim : Nat) : ∀ k i v l n r, rdF lim k i v l = some (n, r) → n ≤ lim
  | 0, _, _, _, _, _, h => by simp [rdF] at h
  | _ + 1, _, _, [], _, _, h => by simp [rdF] at h
  | k + 1, i, v, c :: l, n, r, h => by
      rw [rdF] at h
      split at h
      · exact rdF_le lim k _ _ l n r h
      · split at h
        · cases h
        · rename_i g
          simp only [Option.some.injEq, Prod.mk.injEq] at h
          omega
theorem qz0 (lim : Nat) : ∀ k i v l n r, rdF lim k i v l = some (n, r) → ∃ j, j < l.length ∧ j < k ∧ r = l.drop (j + 1)
  | 0, _, _, _, _, _, h => by simp [rdF] at h
  | _ + 1, _, _, [], _, _, h => by simp [rdF] at h
  | k + 1, i, v, c :: l, n, r, h => by
      rw [rdF] at h
      split at h
      · obtain ⟨j, a, b, e⟩ := qz0 lim k _ _ l n r h
        exact ⟨j + 1, by simp; omega, by omega, by rw [e]; rfl⟩
      · split at h
        · cases h
        · simp only [Option.some.injEq, Prod.mk.injEq] at h
          exact ⟨0, by simp, by omega, by rw [← h.2]; rfl⟩
theorem qup {lim low : Nat} (hl : low ≤ lim) : ∀ k i v l, rdF low k i v l = match rdF lim k i v l with
    | none => none
    | some (n, r) => if n ≤ low then some (n, r) else none
  | 0, _, _, _ => by simp [rdF]
  | _ + 1, _, _, [] => by simp [rdF]
  | k + 1, i, v, c :: l => by
      rw [rdF, rdF]
      by_cases g : 128 ≤ c.toNat
      · rw [if_pos g, if_pos g]; exact qup hl k _ _ l
      · rw [if_neg g, if_neg g]
        by_cases a : 0 < i ∧ c.toNat = 0
        · rw [if_pos (.inl a), if_pos (.inl a)]
        by_cases b : lim < v + c.toNat % 128 * 128 ^ i
        · rw [if_pos (show (0 < i ∧ c.toNat = 0) ∨ low < v + c.toNat % 128 * 128 ^ i from .inr (by omega)), if_pos (show (0 < i ∧ c.toNat = 0) ∨ lim < v + c.toNat % 128 * 128 ^ i from .inr b)]
        · rw [if_neg (show ¬ ((0 < i ∧ c.toNat = 0) ∨ lim < v + c.toNat % 128 * 128 ^ i) from fun x => x.elim a b)]
          simp only
          by_cases d : low < v + c.toNat % 128 * 128 ^ i
          · rw [if_pos (.inr d), if_neg (by omega)]
          · rw [if_neg (show ¬ ((0 < i ∧ c.toNat = 0) ∨ low < v + c.toNat % 128 * 128 ^ i) from fun x => x.elim a d), if_pos (by omega)]
abbrev RS := Option (List UInt8)
def numS (lim : Nat) : RS → Nat × RS
  | none => (0, none)
  | some l => match rdF lim 9 0 0 l with
    | none => (0, none)
    | some (n, r) => (n, some r)
def qd7 (n : Nat) : RS → List UInt8 × RS
  | none => ([], none)
  | some l => if n ≤ l.length then (l.take n, some (l.drop n)) else ([], none)
def q69 (lim : Nat) (s : RS) : List UInt8 × RS := qd7 (numS lim s).1 (numS lim s).2
def RS.len : RS → Nat
  | none => 0
  | some l => l.length
theorem qgn (lim : Nat) (s : RS) : (numS lim s).1 ≤ lim := by
  unfold numS
  split
  · exact Nat.zero_le _
  · split
    · exact Nat.zero_le _
    · exact rdF_le _ _ _ _ _ _ _ ‹_›
theorem qce (lim : Nat) (s : RS) : (numS lim s).2.len ≤ s.len := by
  unfold numS
  split
  · exact Nat.le_refl _
  · split
    · exact Nat.zero_le _
    · obtain ⟨j, a, b, e⟩ := qz0 _ _ _ _ _ _ _ ‹_›
      simp [RS.len, e]
theorem qyj (n : Nat) (s : RS) : (qd7 n s).2.len ≤ s.len := by
  unfold qd7
  split
  · exact Nat.le_refl _
  · split
    · simp [RS.len]
    · exact Nat.zero_le _
theorem qr7 (lim : Nat) (s : RS) : (q69 lim s).2.len ≤ s.len := Nat.le_trans (qyj _ _) (qce _ _)
theorem qyk (n : Nat) (s : RS) : (qd7 n s).1.length ≤ n := by
  unfold qd7
  split
  · exact Nat.zero_le _
  · split
    · simp; omega
    · exact Nat.zero_le _
theorem qb3 (lim : Nat) (s : RS) : (q69 lim s).1.length ≤ lim := Nat.le_trans (qyk _ _) (qgn _ _)
theorem qcd {lim n : Nat} (h : n ≤ lim) (h2 : n < 9223372036854775808) (r : List UInt8) : numS lim (some (numF n ++ r)) = (n, some r) := by
  unfold numS
  simp only
  rw [qz1 lim r 9 0 0 n (by omega) (fun h => by omega) (by omega) (by omega)]
  simp
def qal (x : List UInt8) : List UInt8 := numF x.length ++ x
theorem qe6 {lim : Nat} {x : List UInt8} (h : x.length ≤ lim) (h2 : x.length < 9223372036854775808) (r : List UInt8) : q69 lim (some (qal x ++ r)) = (x, some r) := by
  unfold q69 qal
  rw [List.append_assoc, qcd h h2]
  simp [qd7]
theorem qte (lim : Nat) : numS lim none = (0, none) := rfl
theorem qpm (lim : Nat) : q69 lim none = ([], none) := rfl
structure Ed where
  dev : Int
  n : Int
  seen : List Int
  kind : Int
  con : List UInt8
  fld : List UInt8
  val : List UInt8
  time : Int
def ZE : Ed := ⟨0, 0, List.replicate 8 0, 0, [], [], [], 0⟩
def M40 : Nat := 1099511627776
def vecG (v : List Int) : Bool := v.all fun n => decide (0 ≤ n ∧ n ≤ 1099511627776)
def qkp (s : List UInt8) : Bool := (s.all fun c => decide (33 ≤ c.toNat ∧ c.toNat ≤ 126)) && decide (1 ≤ s.length ∧ s.length ≤ 40)
def q28 (e : Ed) : Bool :=
  decide (0 ≤ e.dev ∧ e.dev < 8) && decide (1 ≤ e.n ∧ e.n ≤ 1099511627776) && vecG e.seen && decide (e.seen[e.dev.toNat]? = some (e.n - 1)) &&
  decide (0 ≤ e.time ∧ e.time ≤ 1099511627776) && qkp e.con &&
  (decide (e.kind = 1) && (qkp e.fld && decide (e.val.length ≤ 200)) || decide (e.kind = 2) && (decide (e.fld = []) && decide (e.val = [])))
def q75 (v : List Int) : List UInt8 := v.flatMap fun n => numF n.toNat
def putE (e : Ed) : List UInt8 :=
  numF e.dev.toNat ++ numF e.n.toNat ++ q75 e.seen ++ numF e.kind.toNat ++ numF e.time.toNat ++ qal e.con ++ qal e.fld ++ qal e.val
def q4o (lim : Nat) : Nat → RS → List Int × RS
  | 0, s => ([], s)
  | k + 1, s => (((numS lim s).1 : Int) :: (q4o lim k (numS lim s).2).1, (q4o lim k (numS lim s).2).2)
def vecS (s : RS) : List Int × RS := (if (q4o M40 8 s).2.isSome then (q4o M40 8 s).1 else List.replicate 8 0, (q4o M40 8 s).2)
theorem qko (lim : Nat) : ∀ k s, (q4o lim k s).1.length = k
  | 0, _ => rfl
  | k + 1, s => by simp [q4o, qko lim k]
theorem qrf (s : RS) : (vecS s).1.length = 8 := by
  unfold vecS; split <;> simp [qko]
theorem qkn (lim : Nat) : ∀ k s, (q4o lim k s).2.len ≤ s.len
  | 0, _ => Nat.le_refl _
  | k + 1, s => Nat.le_trans (qkn lim k _) (qce lim s)
theorem vecS_len (s : RS) : (vecS s).2.len ≤ s.len := qkn _ _ _
def rdE (dl : Nat) (s : RS) : Ed × RS :=
  let a := numS dl s
  let b := numS M40 a.2
  let c := vecS b.2
  let d := numS 2 c.2
  let t := numS M40 d.2
  let f := q69 40 t.2
  let g := q69 40 f.2
  let h := q69 200 g.2
  (⟨a.1, b.1, c.1, d.1, f.1, g.1, h.1, t.1⟩, h.2)
def getE (dl : Nat) (l : List UInt8) : Option Ed := if (rdE dl (some l)).2 = some [] ∧ q28 (rdE dl (some l)).1 = true then some (rdE dl (some l)).1 else none
theorem qqu (lim : Nat) (hl : lim < 9223372036854775808) (r : List UInt8) : ∀ v : List Int, (∀ n ∈ v, 0 ≤ n ∧ n ≤ lim) → q4o lim v.length (some (q75 v ++ r)) = (v, some r)
  | [], _ => rfl
  | n :: v, h => by
      have h0 := h n (by simp)
      have e : q75 (n :: v) ++ r = numF n.toNat ++ (q75 v ++ r) := by simp [q75]
      rw [List.length_cons, q4o, e, qcd (by omega) (by omega)]
      simp only
      rw [qqu lim hl r v fun m hm => h m (by simp [hm])]
      simp only [Prod.mk.injEq, List.cons.injEq, and_true]
      omega
structure GoodE (e : Ed) : Prop where
  dev : 0 ≤ e.dev ∧ e.dev < 8
  n : 1 ≤ e.n ∧ e.n ≤ 1099511627776
  seen : ∀ n ∈ e.seen, 0 ≤ n ∧ n ≤ 1099511627776
  last : e.seen[e.dev.toNat]? = some (e.n - 1)
  time : 0 ≤ e.time ∧ e.time ≤ 1099511627776
  con : e.con.length ≤ 40
  fld : e.fld.length ≤ 40
  val : e.val.length ≤ 200
  kind : e.kind = 1 ∨ e.kind = 2
theorem qa9 {e : Ed} (h : q28 e = true) : GoodE e := by
  simp only [q28, Bool.and_eq_true, Bool.or_eq_true, decide_eq_true_eq, vecG, List.all_eq_true, qkp] at h
  obtain ⟨⟨⟨⟨⟨⟨h1, h2⟩, h3⟩, h4⟩, h5⟩, h6⟩, h7⟩ := h
  refine ⟨h1, h2, h3, h4, h5, h6.2.2, ?_, ?_, ?_⟩
  · rcases h7 with h7 | h7
    · exact h7.2.1.2.2
    · rw [h7.2.1]; simp
  · rcases h7 with h7 | h7
    · exact h7.2.2
    · rw [h7.2.2]; simp
  · rcases h7 with h7 | h7
    · exact .inl h7.1
    · exact .inr h7.1
theorem rd_put (dl : Nat) (hd : 7 ≤ dl) {e : Ed} (h : q28 e = true) (h8 : e.seen.length = 8) : rdE dl (some (putE e)) = (e, some []) := by
  have g := qa9 h
  obtain ⟨dev, n, seen, kind, con, fld, val, time⟩ := e
  obtain ⟨g1, g2, g3, g4, g5, g6, g7, g8, g9⟩ := g
  simp only at *
  unfold putE rdE
  simp only [List.append_assoc]
  rw [qcd (by omega) (by omega)]
  simp only
  rw [qcd (by unfold M40; omega) (by omega)]
  simp only
  have hv := qqu M40 (by unfold M40; omega) (numF kind.toNat ++ (numF time.toNat ++ (qal con ++ (qal fld ++ qal val)))) seen (by unfold M40; exact g3)
  rw [h8] at hv
  unfold vecS
  rw [hv]
  simp only [Option.isSome_some, if_true]
  rw [qcd (by omega) (by omega)]
  simp only
  rw [qcd (by unfold M40; omega) (by omega)]
  simp only
  rw [qe6 g6 (by omega)]
  simp only
  rw [qe6 g7 (by omega)]
  simp only
  have := qe6 g8 (by omega) []
  rw [List.append_nil] at this
  rw [this]
  simp only [Prod.mk.injEq, Ed.mk.injEq, and_true, true_and]
  omega
theorem get_put (dl : Nat) (hd : 7 ≤ dl) {e : Ed} (h : q28 e = true) (h8 : e.seen.length = 8) : getE dl (putE e) = some e := by
  unfold getE
  rw [rd_put dl hd h h8, if_pos ⟨rfl, h⟩]
theorem getE_8 (l : List UInt8) : getE 8 l = getE 7 l := by
  have hl := qup (lim := 8) (low := 7) (by omega) 9 0 0 l
  cases hr : rdF 8 9 0 0 l with
  | none =>
    rw [hr] at hl
    have a : numS 8 (some l) = (0, none) := by simp [numS, hr]
    have b : numS 7 (some l) = (0, none) := by simp [numS, hl]
    unfold getE rdE
    rw [a, b]
  | some x =>
    obtain ⟨n, r⟩ := x
    rw [hr] at hl
    simp only at hl
    by_cases h : n ≤ 7
    · rw [if_pos h] at hl
      have a : numS 8 (some l) = (n, some r) := by simp [numS, hr]
      have b : numS 7 (some l) = (n, some r) := by simp [numS, hl]
      unfold getE rdE
      rw [a, b]
    · rw [if_neg h] at hl
      have b : numS 7 (some l) = (0, none) := by simp [numS, hl]
      have a : numS 8 (some l) = (n, some r) := by simp [numS, hr]
      have e1 : getE 7 l = none := by
        unfold getE rdE
        rw [b]
        rw [if_neg]
        rintro ⟨x, -⟩
        exact absurd x (by simp [qte, qpm, vecS, q4o])
      have e2 : getE 8 l = none := by
        unfold getE
        rw [if_neg]
        rintro ⟨-, x⟩
        have := (qa9 x).dev.2
        unfold rdE at this
        rw [a] at this
        simp only at this
        omega
      rw [e1, e2]
theorem qmr {x : List UInt8} (k : Nat) (h : x.length < 128 ^ k) (hk : 0 < k) : (qal x).length ≤ k + x.length := by
  unfold qal
  have := q2b k _ h hk
  simp; omega
theorem qtd : ∀ v : List Int, (∀ n ∈ v, 0 ≤ n ∧ n ≤ 1099511627776) → (q75 v).length ≤ 9 * v.length
  | [], _ => by simp [q75]
  | n :: v, h => by
      have h0 := h n (by simp)
      have := qtd v fun m hm => h m (by simp [hm])
      have h1 := q2b 9 n.toNat (by omega) (by omega)
      have e : q75 (n :: v) = numF n.toNat ++ q75 v := rfl
      rw [e, List.length_append, List.length_cons]
      omega
theorem qi0 {e : Ed} (h : q28 e = true) (h8 : e.seen.length = 8) : (putE e).length ≤ 500 := by
  have g := qa9 h
  obtain ⟨dev, n, seen, kind, con, fld, val, time⟩ := e
  obtain ⟨g1, g2, g3, g4, g5, g6, g7, g8, g9⟩ := g
  simp only at *
  unfold putE
  simp only [List.length_append]
  have a1 := q2b 9 dev.toNat (by omega) (by omega)
  have a2 := q2b 9 n.toNat (by omega) (by omega)
  have a3 := qtd seen g3
  have a4 := q2b 9 kind.toNat (by omega) (by omega)
  have a5 := q2b 9 time.toNat (by omega) (by omega)
  have a6 := qmr (x := con) 9 (by omega) (by omega)
  have a7 := qmr (x := fld) 9 (by omega) (by omega)
  have a8 := qmr (x := val) 9 (by omega) (by omega)
  omega
def q4g (dev n : Nat) : List UInt8 := bigF (BitVec.ofNat 64 dev) 4 ++ bigF (BitVec.ofNat 64 n) 8
theorem qcr (dev n : Nat) : (q4g dev n).length = 12 := by simp [q4g, qlr]
theorem qk8 (n : Nat) (h : n < 18446744073709551616) : IntKind.u64.wrap (n : Int) = ((BitVec.ofNat 64 n).toNat : Int) := by
  rw [BitVec.toNat_ofNat, Nat.mod_eq_of_lt h]
  simp [IntKind.wrap, IntKind.bits, IntKind.signed]; omega
theorem qso (E : EnvT tab) (h : Heap) (n : Int) : ACallN E.toEnv qzf [.int .i64 n] h fun r h' => h' = h ∧ r = .bool (decide (0 ≤ n ∧ n < 8)) := by
  refine q0o qpa qi5 rfl rfl (q03 ?_)
  unfold qi5
  by_cases g0 : 0 ≤ n
  · by_cases g1 : n < 8
    · simp -implicitDefEqProofs only [zA,reduceCtorEq,Nat.reduceEqDiff,g0,g1]
    · simp -implicitDefEqProofs only [zA,reduceCtorEq,Nat.reduceEqDiff,g0,g1]
  · simp -implicitDefEqProofs only [zA,reduceCtorEq,Nat.reduceEqDiff,g0,false_and]
theorem qlh (E : EnvT tab) (h : Heap) (dev n : Nat) (hd : dev < 9223372036854775808) (hn : n < 9223372036854775808) :
    ACallN E.toEnv qs4 [.int .i64 dev, .int .i64 n] h fun r h' => h.le h' ∧ r = .agg ((q4g dev n).map u8V).toArray := by
  refine q0o qfp qbd rfl rfl (q03 ?_)
  unfold qbd
  have w1 := qk8 dev (by omega)
  have w2 := qk8 n (by omega)
  simp -implicitDefEqProofs only [zA,reduceCtorEq,Nat.reduceEqDiff,Nat.reduceAdd]
  intro b4 hb4
  rw [List.length_replicate]
  have le1 : h.le (h.set b4 (.own 0 (List.replicate 12 (.int .u8 0)) 12)) := Heap.q02 (Heap.q04 _) hb4 _
  have q4 : (h.set b4 (.own 0 (List.replicate 12 (.int .u8 0)) 12)) b4 = some (.own 0 (List.replicate 12 (.int .u8 0)) 12) := Heap.q01 _ _ _
  generalize (h.set b4 (.own 0 (List.replicate 12 (.int .u8 0)) 12)) = h1 at le1 q4
  simp -implicitDefEqProofs only [zA,w1]
  refine (qp2 E h1 [] (by simp) (.inl ⟨rfl, rfl, rfl⟩) (BitVec.ofNat 64 dev) 4 (by omega)).mono ?_
  rintro r h2 ⟨le2, ow2⟩
  rw [List.nil_append] at ow2
  simp -implicitDefEqProofs only [zA,reduceCtorEq,Nat.reduceEqDiff,w2]
  refine (qp2 E h2 (bigF (BitVec.ofNat 64 dev) 4) (by rw [qlr]; omega) ow2.sl (BitVec.ofNat 64 n) 8 (by omega)).mono ?_
  rintro r h3 ⟨le3, ow3⟩
  have ex := qcr dev n
  change OwB h2 h3 r (q4g dev n) at ow3
  generalize q4g dev n = X at *
  obtain ⟨b, o, c', rfl, hc, hcl⟩ := ow3.sl.ptr (by omega) (by omega)
  rw [ex, Nat.mul_one] at hcl
  have q5 := le3 _ _ (le2 _ _ q4)
  have e1 : ¬ (X.length < 12) := by omega
  have st : q0a h3 12 (.pointer (some ⟨b4, 0, none⟩)) (.agg (X.map u8V).toArray) = some (h3.set b4 (.own 0 (X.map u8V) 12)) := q0f q5 (by omega) (by simp [ex]) (q1i _) (by simp) (by omega)
  have hl2 : q05 (h3.set b4 (.own 0 (X.map u8V) 12)) ⟨b4, 0, none⟩ 12 = some (X.map u8V) := z6x (by simp [ex])
  simp -implicitDefEqProofs only [zA,reduceCtorEq,Nat.reduceEqDiff,e1,hcl,st,hl2]
  exact Heap.q02 (Heap.q00 le1 (Heap.q00 le2 le3)) hb4 _
theorem w64 {n : Int} (h0 : -9223372036854775808 ≤ n) (h1 : n ≤ 9223372036854775807) : IntKind.i64.wrap n = n := by
  simp [IntKind.wrap, IntKind.bits, IntKind.signed]; omega
def bk (n : Int) : Int :=
  if n < 64 then 64 else if n < 128 then 128 else if n < 256 then 256 else if n < 512 then 512 else if n < 1024 then 1024 else if n < 2048 then 2048
  else if n < 4096 then 4096 else if n < 8192 then 8192 else if n < 16384 then 16384 else if n < 32768 then 32768 else 65536
def bkA (n : Int) : Int × Int := if n < 0 then (0, 1) else if 65536 ≤ n then (0, 2) else (bk n, 0)
theorem bk_of {n x : Int} {k : Nat} (hk : k ≤ 10) (hx : x = 64 * 2 ^ k) (hlow : k = 0 ∨ 32 * 2 ^ k < n + 1) (hge : n + 1 ≤ x) : bk n = x := by
  have hc : k = 0 ∨ k = 1 ∨ k = 2 ∨ k = 3 ∨ k = 4 ∨ k = 5 ∨ k = 6 ∨ k = 7 ∨ k = 8 ∨ k = 9 ∨ k = 10 := by omega
  unfold bk
  rcases hc with rfl | rfl | rfl | rfl | rfl | rfl | rfl | rfl | rfl | rfl | rfl <;> simp only [Int.reducePow, Int.reduceMul] at hx hlow <;>
    (repeat (first | rw [if_pos (by omega)] | rw [if_neg (by omega)])) <;> omega
theorem qgk (E : EnvT tab) (h : Heap) (n : Int) : ACallN E.toEnv qtj [.int .i64 n] h fun v h' => h' = h ∧ v = .tuple #[.int .i64 (bkA n).1, .int .i64 (bkA n).2] := by
  refine q0o qhe qcj rfl rfl (q03 ?_)
  unfold qcj
  simp -implicitDefEqProofs only [zA,reduceCtorEq,Nat.reduceEqDiff]
  refine ⟨fun h1 => ?_, fun h0 => ?_⟩
  · simp -implicitDefEqProofs only [zA,reduceCtorEq,Nat.reduceEqDiff]
    simp [bkA, h1]
  simp -implicitDefEqProofs only [zA,reduceCtorEq,Nat.reduceEqDiff]
  refine ⟨fun h1 => ?_, fun h1 => ?_⟩
  · have : ¬ n < 0 := by omega
    simp -implicitDefEqProofs only [zA,reduceCtorEq,Nat.reduceEqDiff]
    simp [bkA, this, h1]
  · simp -implicitDefEqProofs only [zA,reduceCtorEq,Nat.reduceEqDiff]
    refine q0c (fun m t h' => h' = h ∧ ∃ (k : Nat) (x : Int), t = tl [(0, .int .i64 n), (4, .int .i64 x)] ∧ k ≤ 10 ∧ m = 10 - k ∧ x = 64 * 2 ^ k ∧ (k = 0 ∨ 32 * 2 ^ k < n + 1)) 10 ⟨rfl, 0, 64, rfl, by omega, rfl, rfl, .inl rfl⟩ ?_
    rintro m t h' ⟨rfl, k, x, rfl, hk, rfl, hx, hlow⟩
    simp -implicitDefEqProofs only [zA,reduceCtorEq,Nat.reduceEqDiff,w64 (n := n + 1) (by omega) (by omega)]
    refine ⟨fun hlt => ?_, fun hge => ?_⟩
    · simp -implicitDefEqProofs only [zA,reduceCtorEq,Nat.reduceEqDiff]
      have hk10 : k < 10 := by
        rcases Nat.lt_or_ge k 10 with g | g
        · exact g
        · have : k = 10 := by omega
          subst this
          have h2 : x = 65536 := by rw [hx]; decide
          omega
      refine ⟨10 - (k + 1), by omega, k + 1, IntKind.i64.wrap (x * 2), rfl, by omega, rfl, ?_, ?_⟩
      · have : (2 : Int) ^ k ≤ 512 := by
          have hk2 : 2 ^ k ≤ 2 ^ 9 := Nat.pow_le_pow_right (by omega) (by omega)
          have e : ((2 ^ k : Nat) : Int) = (2 : Int) ^ k := by simp
          omega
        have hp : (0 : Int) < 2 ^ k := Int.pow_pos (by omega)
        rw [w64 (by omega) (by omega), hx, Int.pow_succ]; omega
      · right; rw [Int.pow_succ]; omega
    · simp -implicitDefEqProofs only [zA,reduceCtorEq,Nat.reduceEqDiff]
      have h2 : ¬ n < 0 := by omega
      have h3 : ¬ 65536 ≤ n := by omega
      simp only [bkA, h2, h3, if_false, bk_of hk hx hlow hge, and_self]
theorem bk_pow (n : Int) (h0 : 0 ≤ n) (h1 : n ≤ 65535) : ∃ k : Nat, k ≤ 10 ∧ bk n = 64 * 2 ^ k ∧ n < bk n ∧ (k = 0 ∨ 32 * 2 ^ k ≤ n) := by
  unfold bk
  by_cases c0 : n < 64
  · exact ⟨0, by omega, by rw [if_pos c0]; rfl, by rw [if_pos c0]; omega, .inl rfl⟩
  by_cases c1 : n < 128
  · exact ⟨1, by omega, by simp only [c0, c1, if_true, if_false]; rfl, by simp only [c0, c1, if_true, if_false], .inr (by simp only [Int.reducePow, Int.reduceMul]; omega)⟩
  by_cases c2 : n < 256
  · exact ⟨2, by omega, by simp only [c0, c1, c2, if_true, if_false]; rfl, by simp only [c0, c1, c2, if_true, if_false], .inr (by simp only [Int.reducePow, Int.reduceMul]; omega)⟩
  by_cases c3 : n < 512
  · exact ⟨3, by omega, by simp only [c0, c1, c2, c3, if_true, if_false]; rfl, by simp only [c0, c1, c2, c3, if_true, if_false], .inr (by simp only [Int.reducePow, Int.reduceMul]; omega)⟩
  by_cases c4 : n < 1024
  · exact ⟨4, by omega, by simp only [c0, c1, c2, c3, c4, if_true, if_false]; rfl, by simp only [c0, c1, c2, c3, c4, if_true, if_false], .inr (by simp only [Int.reducePow, Int.reduceMul]; omega)⟩
  by_cases c5 : n < 2048
  · exact ⟨5, by omega, by simp only [c0, c1, c2, c3, c4, c5, if_true, if_false]; rfl, by simp only [c0, c1, c2, c3, c4, c5, if_true, if_false], .inr (by simp only [Int.reducePow, Int.reduceMul]; omega)⟩
  by_cases c6 : n < 4096
  · exact ⟨6, by omega, by simp only [c0, c1, c2, c3, c4, c5, c6, if_true, if_false]; rfl, by simp only [c0, c1, c2, c3, c4, c5, c6, if_true, if_false], .inr (by simp only [Int.reducePow, Int.reduceMul]; omega)⟩
  by_cases c7 : n < 8192
  · exact ⟨7, by omega, by simp only [c0, c1, c2, c3, c4, c5, c6, c7, if_true, if_false]; rfl, by simp only [c0, c1, c2, c3, c4, c5, c6, c7, if_true, if_false], .inr (by simp only [Int.reducePow, Int.reduceMul]; omega)⟩
  by_cases c8 : n < 16384
  · exact ⟨8, by omega, by simp only [c0, c1, c2, c3, c4, c5, c6, c7, c8, if_true, if_false]; rfl, by simp only [c0, c1, c2, c3, c4, c5, c6, c7, c8, if_true, if_false], .inr (by simp only [Int.reducePow, Int.reduceMul]; omega)⟩
  by_cases c9 : n < 32768
  · exact ⟨9, by omega, by simp only [c0, c1, c2, c3, c4, c5, c6, c7, c8, c9, if_true, if_false]; rfl, by simp only [c0, c1, c2, c3, c4, c5, c6, c7, c8, c9, if_true, if_false], .inr (by simp only [Int.reducePow, Int.reduceMul]; omega)⟩
  · exact ⟨10, by omega, by simp only [c0, c1, c2, c3, c4, c5, c6, c7, c8, c9, if_false]; rfl, by simp only [c0, c1, c2, c3, c4, c5, c6, c7, c8, c9, if_false]; omega, .inr (by simp only [Int.reducePow, Int.reduceMul]; omega)⟩
theorem qwp {n : Int} (h0 : 0 ≤ n) (h1 : n ≤ 65535) : bkA n = (bk n, 0) := by
  unfold bkA
  rw [if_neg (by omega), if_neg (by omega)]
theorem pow10 {k : Nat} (h : k ≤ 10) : (1 : Int) ≤ 2 ^ k ∧ (2 : Int) ^ k ≤ 1024 := by
  have hk2 : 2 ^ k ≤ 2 ^ 10 := Nat.pow_le_pow_right (by omega) h
  have hk3 : 2 ^ 0 ≤ 2 ^ k := Nat.pow_le_pow_right (by omega) (by omega)
  have e : ((2 ^ k : Nat) : Int) = (2 : Int) ^ k := by simp
  omega
theorem qcq (E : EnvT tab) (h : Heap) {v : Value} (l : List UInt8) (hl : l.length ≤ 140737488355328) (s : SlB h v l) : ACallN E.toEnv qs6 [v] h fun r h' => h.le h' ∧ OwB h h' r l := by
  refine q0o qfr qbf rfl rfl (q03 ?_)
  unfold qbf
  rcases s with ⟨rfl, hn, hc⟩ | ⟨a, c, rfl, hc, hcl⟩
  · simp -implicitDefEqProofs only [zA,reduceCtorEq,Nat.reduceEqDiff,Option.isNone]
    have : l = [] := List.eq_nil_of_length_eq_zero hn
    subst this
    exact ⟨Heap.q04 _, Ow.nil _ _ _⟩
  · have s : SlB h (.slice (some a) l.length c) l := .inr ⟨a, c, rfl, hc, hcl⟩
    simp -implicitDefEqProofs only [zA,reduceCtorEq,Nat.reduceEqDiff]
    intro b1 hb1
    try simp -implicitDefEqProofs only [zA,reduceIte,reduceCtorEq,Nat.reduceEqDiff,Nat.reduceAdd,Nat.reduceMul,Nat.reduceLT,Nat.reduceSub,Int.reduceLT,Int.reduceLE,Int.reduceEq,Int.reduceNe,Int.reduceSub,Int.reduceAdd,Int.reduceMul,Int.reduceBEq,Int.reduceBNe,Int.reduceGT,Int.reduceGE,Nat.reduceGT,Int.reduceToNat,Int.reduceNeg,Nat.reduceLeDiff,Nat.reduceBEq,Nat.reduceBneDiff]
    refine q0t (bytes := 1) (n := 0) (cells := []) (m := l.length) (news := l.map u8V) (Heap.q02 (Heap.q04 _) hb1 _) (by omega) (Ow.new (Heap.q04 _) hb1 rfl (by omega) (by omega)) (s.le (Heap.q02 (Heap.q04 _) hb1 _)) (q1i l) (by omega) (by omega) ?_
    intro v' h' ow le'
    rw [Nat.zero_add, List.nil_append] at ow
    simp -implicitDefEqProofs only [zA,reduceCtorEq,Nat.reduceEqDiff]
    exact ⟨le', ow⟩
def padF (l : List UInt8) : List UInt8 := l ++ 128 :: List.replicate ((bk l.length).toNat - l.length - 1) 0
theorem qqa {n : Nat} (h : n ≤ 65535) : (n : Int) < bk n ∧ bk n ≤ 65536 := by
  obtain ⟨k, hk, e, hlt, _⟩ := bk_pow n (by omega) (by omega)
  have := pow10 hk
  omega
theorem qb9 {l : List UInt8} (h : l.length ≤ 65535) : ((padF l).length : Int) = bk l.length := by
  have := qqa h
  simp [padF]; omega
theorem qul (E : EnvT tab) (h : Heap) (n : Int) : ACallN E.toEnv qgt [.int .i64 n] h fun v h' => h' = h ∧ v = .tuple #[.int .i64 (bkA n).1, .int .i64 (bkA n).2] := by
  refine q0o q72 q38 rfl rfl (q03 ?_)
  unfold q38
  by_cases h0 : n < 0
  · simp -implicitDefEqProofs only [zA,reduceCtorEq,Nat.reduceEqDiff,h0]
    simp [bkA, h0]
  simp -implicitDefEqProofs only [zA,reduceCtorEq,Nat.reduceEqDiff,h0]
  refine q0c (fun m t h' => h' = h ∧ ∃ (k : Nat) (x : Int), t = tl [(0, .int .i64 n), (4, .int .i64 x)] ∧ k ≤ 11 ∧ m = 11 - k ∧ x = 64 * 2 ^ k ∧ (k = 0 ∨ 32 * 2 ^ k ≤ n)) 11 ⟨rfl, 0, 64, rfl, by omega, rfl, rfl, .inl rfl⟩ ?_
  rintro m t h' ⟨rfl, k, x, rfl, hk, rfl, hx, hlow⟩
  have hpow : (2 : Int) ^ k ≤ 2048 := by
    have hk2 : 2 ^ k ≤ 2 ^ 11 := Nat.pow_le_pow_right (by omega) hk
    have e : ((2 ^ k : Nat) : Int) = (2 : Int) ^ k := by simp
    omega
  by_cases hx2 : x ≤ 65536
  · have hk10 : k ≤ 10 := by
      rcases Nat.lt_or_ge 10 k with g | g
      · have : k = 11 := by omega
        subst this; omega
      · exact g
    by_cases hn : n < x
    · simp -implicitDefEqProofs only [zA,reduceCtorEq,Nat.reduceEqDiff,hx2,hn]
      have : bkA n = (bk n, 0) := qwp (by omega) (by omega)
      rw [this, bk_of hk10 hx (by omega) (by omega)]
    · have hp : (0 : Int) < 2 ^ k := Int.pow_pos (by omega)
      have hw : IntKind.i64.wrap (2 * x) = 2 * x := w64 (by omega) (by omega)
      simp -implicitDefEqProofs only [zA,reduceCtorEq,Nat.reduceEqDiff,hx2,hn,hw]
      refine ⟨11 - (k + 1), by omega, k + 1, 2 * x, rfl, by omega, rfl, ?_, ?_⟩
      · rw [hx, Int.pow_succ]; omega
      · right; rw [Int.pow_succ]; omega
  · simp -implicitDefEqProofs only [zA,reduceCtorEq,Nat.reduceEqDiff,hx2]
    have : ¬ n < 65536 := by
      rcases hlow with rfl | hl
      · omega
      · have hk11 : k = 11 := by
          rcases Nat.lt_or_ge k 11 with g | g
          · have hk2 : 2 ^ k ≤ 2 ^ 10 := Nat.pow_le_pow_right (by omega) (by omega)
            have e : ((2 ^ k : Nat) : Int) = (2 : Int) ^ k := by simp
            omega
          · omega
        subst hk11; omega
    have h2 : 65536 ≤ n := by omega
    simp [bkA, h0, h2]
theorem qt6 (l : List UInt8) (B : Nat) (h : l.length < B) : (q1t (List.replicate B (Value.int .u8 0)) 0 ((l.map u8V).take (min l.length B * 1))).set l.length (.int .u8 128) = (l ++ 128 :: List.replicate (B - l.length - 1) 0).map u8V := by
  have e1 : min l.length B * 1 = l.length := by omega
  have e2 : ((l.map u8V).take l.length) = l.map u8V := List.take_of_length_le (by simp)
  rw [e1, e2]
  unfold q1t
  simp only [List.take_zero, List.nil_append, List.length_map, Nat.zero_add, List.drop_replicate]
  obtain ⟨m, hm⟩ : ∃ m, B - l.length = m + 1 := ⟨B - l.length - 1, by omega⟩
  rw [hm, List.replicate_succ, List.set_append_right _ _ (by simp)]
  simp [u8V]
theorem qt7 (E : EnvT tab) (h : Heap) {v : Value} (l : List UInt8) (hl : l.length ≤ 65535) (s : SlB h v l) : ACallN E.toEnv qzg [v] h fun r h' => h.le h' ∧ ∃ r', r = .tuple #[r', .int .i64 0] ∧ OwB h h' r' (padF l) := by
  obtain ⟨base, c, rfl⟩ := Sl.shape s
  refine q0o qpb qi6 rfl rfl (q03 ?_)
  unfold qi6
  simp -implicitDefEqProofs only [zA,reduceCtorEq,Nat.reduceEqDiff]
  refine (qgk E _ _).mono ?_
  rintro v h' ⟨rfl, rfl⟩
  rw [qwp (by omega) (by omega)]
  obtain ⟨g1, g2⟩ := qqa hl
  obtain ⟨B, hB⟩ : ∃ B : Nat, bk l.length = B := ⟨(bk l.length).toNat, by omega⟩
  rw [hB] at g1 g2 ⊢
  have e1 : (0 : Int) ≤ B := by omega
  have e2 : (B : Int) ≤ 9223372036854775807 := by omega
  have e3 : (B : Int) ≤ 281474976710656 := by omega
  simp -implicitDefEqProofs only [zA,reduceCtorEq,Nat.reduceEqDiff,Int.reduceBNe,e1,e2,e3,Int.toNat_natCast,Int.le_refl,Int.one_mul]
  intro b1 hb1
  try simp -implicitDefEqProofs only [zA,reduceIte,reduceCtorEq,Nat.reduceEqDiff,Nat.reduceAdd,Nat.reduceMul,Nat.reduceLT,Nat.reduceSub,Int.reduceLT,Int.reduceLE,Int.reduceEq,Int.reduceNe,Int.reduceSub,Int.reduceAdd,Int.reduceMul,Int.reduceBEq,Int.reduceBNe,Int.reduceGT,Int.reduceGE,Nat.reduceGT,Int.reduceToNat,Int.reduceNeg,Nat.reduceLeDiff,Nat.reduceBEq,Nat.reduceBneDiff]
  refine qd3 (size := 1) (Heap.q01 _ _ _) (by simp) (by simp) (Sl.le (Heap.q02 (Heap.q04 _) hb1 _) s) (q1i l) ?_
  rw [Heap.q5f]
  have e4 : (0 : Int) ≤ l.length := by omega
  have e5 : l.length < (q1t (List.replicate B (Value.int .u8 0)) 0 ((l.map u8V).take (min l.length B * 1))).length := by
    rw [q96 (by simp)]; simp; omega
  have e6 : (q1t (List.replicate B (Value.int .u8 0)) 0 ((l.map u8V).take (min l.length B * 1))).length = B := by
    rw [q96 (by simp)]; simp; omega
  have hst : q0a (h'.set b1 (.own 0 (q1t (List.replicate B (Value.int .u8 0)) 0 ((l.map u8V).take (min l.length B * 1))) B)) 1 (.pointer (some ⟨b1, l.length, none⟩)) (.int .u8 128) = _ := z6y (off := l.length) rfl e5 (by omega)
  rw [qt6 l B (by omega)] at hst
  generalize q1t (List.replicate B (Value.int .u8 0)) 0 ((l.map u8V).take (min l.length B * 1)) = X at hst
  simp -implicitDefEqProofs only [zA,reduceCtorEq,Nat.reduceEqDiff,e4,g1,Int.toNat_natCast,hst]
  refine ⟨Heap.q02 (Heap.q04 _) hb1 _, _, rfl, ?_⟩
  have hp : padF l = l ++ 128 :: List.replicate (B - l.length - 1) 0 := by unfold padF; rw [hB]; rfl
  have hlen : (padF l).length = B := by have := qb9 hl; omega
  rw [← hp]
  unfold OwB
  rw [hlen]
  exact Ow.new (Heap.q04 _) hb1 (by simp [hlen]) (Nat.le_refl _) (by simp)
theorem qrw (E : EnvT tab) (h : Heap) {v : Value} (l : List UInt8) (hl : l.length ≤ 65535) (s : SlB h v l) : ACallN E.toEnv ql2 [v] h fun r h' => h.le h' ∧ ∃ r', r = .tuple #[r', .int .i64 0] ∧ OwB h h' r' (padF l) := by
  obtain ⟨base, c, rfl⟩ := Sl.shape s
  refine q0o qa7 q52 rfl rfl (q03 ?_)
  unfold q52
  simp -implicitDefEqProofs only [zA,reduceCtorEq,Nat.reduceEqDiff]
  refine (qul E _ _).mono ?_
  rintro v h' ⟨rfl, rfl⟩
  rw [qwp (by omega) (by omega)]
  obtain ⟨g1, g2⟩ := qqa hl
  obtain ⟨B, hB⟩ : ∃ B : Nat, bk l.length = B := ⟨(bk l.length).toNat, by omega⟩
  rw [hB] at g1 g2 ⊢
  have e1 : (0 : Int) ≤ B := by omega
  have e2 : (B : Int) ≤ 9223372036854775807 := by omega
  have e3 : (B : Int) ≤ 281474976710656 := by omega
  simp -implicitDefEqProofs only [zA,reduceCtorEq,Nat.reduceEqDiff,Int.reduceBNe,e1,e2,e3,Int.toNat_natCast,Int.le_refl,Int.one_mul]
  intro b1 hb1
  try simp -implicitDefEqProofs only [zA,reduceIte,reduceCtorEq,Nat.reduceEqDiff,Nat.reduceAdd,Nat.reduceMul,Nat.reduceLT,Nat.reduceSub,Int.reduceLT,Int.reduceLE,Int.reduceEq,Int.reduceNe,Int.reduceSub,Int.reduceAdd,Int.reduceMul,Int.reduceBEq,Int.reduceBNe,Int.reduceGT,Int.reduceGE,Nat.reduceGT,Int.reduceToNat,Int.reduceNeg,Nat.reduceLeDiff,Nat.reduceBEq,Nat.reduceBneDiff]
  refine qd3 (size := 1) (Heap.q01 _ _ _) (by simp) (by simp) (Sl.le (Heap.q02 (Heap.q04 _) hb1 _) s) (q1i l) ?_
  rw [Heap.q5f]
  have e4 : (0 : Int) ≤ l.length := by omega
  have e5 : l.length < (q1t (List.replicate B (Value.int .u8 0)) 0 ((l.map u8V).take (min l.length B * 1))).length := by
    rw [q96 (by simp)]; simp; omega
  have e6 : (q1t (List.replicate B (Value.int .u8 0)) 0 ((l.map u8V).take (min l.length B * 1))).length = B := by
    rw [q96 (by simp)]; simp; omega
  have hst : q0a (h'.set b1 (.own 0 (q1t (List.replicate B (Value.int .u8 0)) 0 ((l.map u8V).take (min l.length B * 1))) B)) 1 (.pointer (some ⟨b1, l.length, none⟩)) (.int .u8 128) = _ := z6y (off := l.length) rfl e5 (by omega)
  rw [qt6 l B (by omega)] at hst
  generalize q1t (List.replicate B (Value.int .u8 0)) 0 ((l.map u8V).take (min l.length B * 1)) = X at hst
  simp -implicitDefEqProofs only [zA,reduceCtorEq,Nat.reduceEqDiff,e4,g1,Int.toNat_natCast,hst]
  refine ⟨Heap.q02 (Heap.q04 _) hb1 _, _, rfl, ?_⟩
  have hp : padF l = l ++ 128 :: List.replicate (B - l.length - 1) 0 := by unfold padF; rw [hB]; rfl
  have hlen : (padF l).length = B := by have := qb9 hl; omega
  rw [← hp]
  unfold OwB
  rw [hlen]
  exact Ow.new (Heap.q04 _) hb1 (by simp [hlen]) (Nat.le_refl _) (by simp)
def q95 (l : List UInt8) : Nat → Nat
  | 0 => 0
  | n + 1 => if l[n]? = some 0 then q95 l n else n + 1
theorem qrj (l : List UInt8) : ∀ n, q95 l n ≤ n
  | 0 => Nat.le_refl _
  | n + 1 => by unfold q95; split; have := qrj l n; omega; exact Nat.le_refl _
theorem qqj (l : List UInt8) : ∀ n k, q95 l n ≤ k → k < n → l[k]? = some 0
  | 0, k, _, h => by omega
  | n + 1, k, h1, h2 => by
      unfold q95 at h1
      split at h1
      · rename_i hz
        by_cases e : k = n
        · subst e; exact hz
        · exact qqj l n k h1 (by omega)
      · omega
theorem qw4 (l : List UInt8) : ∀ n m, m ≤ n → (∀ k, m ≤ k → k < n → l[k]? = some 0) → q95 l n = q95 l m
  | 0, m, h, _ => by (have : m = 0 := by omega); (subst this; rfl)
  | n + 1, m, h, hz => by
      by_cases e : m = n + 1
      · subst e; rfl
      · have h1 := hz n (by omega) (by omega)
        have h2 := qw4 l n m (by omega) fun k g1 g2 => hz k g1 (by omega)
        rw [q95, if_pos h1, h2]
theorem qz7 (l : List UInt8) : q95 (padF l) (padF l).length = l.length + 1 := by
  have h1 : l.length + 1 ≤ (padF l).length := by simp [padF]
  rw [qw4 (padF l) _ _ h1]
  · rw [q95, if_neg]
    simp [padF]
  · intro k g1 g2
    unfold padF at g2 ⊢
    rw [List.getElem?_append_right (by omega)]
    obtain ⟨j, rfl⟩ : ∃ j, k = l.length + 1 + j := ⟨k - (l.length + 1), by omega⟩
    have : l.length + 1 + j - l.length = j + 1 := by omega
    rw [this, List.getElem?_cons_succ, List.getElem?_replicate, if_pos]
    simp at g2; omega
theorem qz8 (l : List UInt8) : (padF l).take l.length = l := by simp [padF]
def qdd (l : List UInt8) : Option (List UInt8) :=
  if q95 l l.length ≠ 0 ∧ padF (l.take (q95 l l.length - 1)) = l then some (l.take (q95 l l.length - 1)) else none
theorem qy2 (l : List UInt8) : qdd (padF l) = some l := by
  unfold qdd
  rw [qz7, Nat.add_sub_cancel, qz8, if_pos ⟨by omega, rfl⟩]
theorem pad_iff (l : List UInt8) (hl : l.length ≤ 65536) (m : Nat) (hm : q95 l l.length = m + 1) : padF (l.take m) = l ↔ (l[m]? = some 128 ∧ bk m = l.length) := by
  have hle := qrj l l.length
  have hlen : (l.take m).length = m := by rw [List.length_take]; omega
  have hb := qqa (n := m) (by omega)
  constructor
  · intro h
    constructor
    · rw [← h]; unfold padF
      rw [List.getElem?_append_right (by omega)]
      simp [hlen]
    · have := qb9 (l := l.take m) (by omega)
      rw [h, hlen] at this
      exact this.symm
  · rintro ⟨h1, h2⟩
    apply List.ext_getElem?
    intro i
    unfold padF
    rw [hlen, h2]
    by_cases g1 : i < m
    · rw [List.getElem?_append_left (by omega), List.getElem?_take, if_pos g1]
    rw [List.getElem?_append_right (by omega), hlen]
    by_cases g2 : i = m
    · subst g2; simp [h1]
    obtain ⟨j, rfl⟩ : ∃ j, i = m + 1 + j := ⟨i - (m + 1), by omega⟩
    have : m + 1 + j - m = j + 1 := by omega
    rw [this, List.getElem?_cons_succ, List.getElem?_replicate]
    by_cases g3 : m + 1 + j < l.length
    · rw [if_pos (by omega), qqj l l.length _ (by omega) g3]
    · rw [if_neg (by omega), List.getElem?_eq_none (by omega)]
theorem qhn (E : EnvT tab) (h : Heap) {v : Value} (l : List UInt8) (hl : l.length ≤ 140737488355328) (s : SlB h v l) : ACallN E.toEnv qgo [v, .int .u8 0] h fun r h' => h' = h ∧ ∃ base c, v = .slice base l.length c ∧ r = .slice base (q95 l l.length) c := by
  obtain ⟨base, c, rfl⟩ := Sl.shape s
  refine q0o q6w q2y rfl rfl (q03 ?_)
  unfold q2y
  simp -implicitDefEqProofs only [zA,reduceCtorEq,Nat.reduceEqDiff,Nat.reduceAdd]
  have hc : l.length ≤ c := by
    rcases s with ⟨e, hn, _⟩ | ⟨a, c', e, hc, _⟩
    · omega
    · simp only [Value.slice.injEq] at e
      omega
  refine q0c (fun m t h' => h' = h ∧ t = tl [(0, .slice base m c), (1, .int .u8 0)] ∧ m ≤ l.length ∧ q95 l l.length = q95 l m) l.length ⟨rfl, rfl, Nat.le_refl _, rfl⟩ ?_
  rintro m t h' ⟨rfl, rfl, hm, he⟩
  rcases m with - | m
  · simp -implicitDefEqProofs only [zA,reduceCtorEq,Nat.reduceEqDiff,Int.reduceLT]
    exact ⟨base, c, rfl, by rw [he]; rfl⟩
  obtain ⟨b, o, c', hv, _, hat⟩ := Sl.q7x s m (by omega)
  simp only [Value.slice.injEq] at hv
  obtain ⟨rfl, _, rfl⟩ := hv
  have hat := hat _ (Heap.q04 _)
  have e1 : ((m + 1 : Nat) : Int) - 1 = m := by omega
  have e2 : (0 : Int) < ((m + 1 : Nat) : Int) := by omega
  have e3 : (0 : Int) ≤ m := by omega
  have e4 : (m : Int) < ((m + 1 : Nat) : Int) := by omega
  have hw : IntKind.i64.wrap (((m + 1 : Nat) : Int) - 1) = m := by rw [e1]; exact w64 (by omega) (by omega)
  by_cases hz : l[m] = 0
  · have hu : u8V l[m] = .int .u8 0 := by rw [hz]; rfl
    simp -implicitDefEqProofs only [zA,reduceCtorEq,Nat.reduceEqDiff,Int.reduceBEq,e2,hw,e3,e4,Int.toNat_natCast,hat,hu,q5t e3 (show (m : Int) ≤ c by omega)]
    refine ⟨m, by omega, ?_, by omega, ?_⟩
    · have : (if c = 0 then some (⟨b, o, none⟩ : Addr) else some (Addr.add ⟨b, o, none⟩ 0)) = some ⟨b, o, none⟩ := by
        split
        · rfl
        · unfold Addr.add; simp
      rw [this, Nat.sub_zero, Nat.sub_zero]
    · rw [he, q95, if_pos (by rw [List.getElem?_eq_getElem (by omega), hz])]
  · have hz' : ¬ ((l[m].toNat : Nat) : Int) = 0 := fun e => hz (UInt8.toNat_inj.1 (by simpa using e))
    simp -implicitDefEqProofs only [zA,reduceCtorEq,Nat.reduceEqDiff,e2,hw,e3,e4,Int.toNat_natCast,hat,u8V,hz']
    refine ⟨_, _, rfl, ?_⟩
    rw [he, q95, if_neg]
    rw [List.getElem?_eq_getElem (by omega)]
    simp [hz]
theorem qmq (E : EnvT tab) (h : Heap) {v : Value} (l : List UInt8) (hl : l.length ≤ 140737488355328) (s : SlB h v l) : ACallN E.toEnv qma [v, .string ⟨#[0]⟩] h fun r h' => h' = h ∧ ((∃ base c, v = .slice base l.length c ∧ r = .slice base (q95 l l.length) c)) := by
  obtain ⟨base, c, rfl⟩ := Sl.shape s
  refine q0o qax q5z rfl rfl (q03 ?_)
  unfold q5z
  by_cases h0 : l.length = 0
  · simp -implicitDefEqProofs only [zA,reduceCtorEq,Nat.reduceEqDiff,Nat.reduceAdd,Int.reduceBEq,h0]
    refine ⟨_, _, rfl, ?_⟩
    have := List.eq_nil_of_length_eq_zero h0
    subst this; rfl
  have h0' : ¬ ((l.length : Nat) : Int) = 0 := by omega
  have e1 : ByteArray.toList ⟨#[0]⟩ = [0] := Go.ByteArray.toList_mk [0]
  have e2 : ByteArray.toList ByteArray.empty = [] := Go.ByteArray.toList_mk []
  have e3 : ByteArray.size ⟨#[0]⟩ = 1 := rfl
  have e4 : ((UInt8.toNat 0 : Nat) : Int) = 0 := rfl
  simp -implicitDefEqProofs only [zA,reduceCtorEq,Nat.reduceEqDiff,Nat.reduceAdd,Int.reduceLT,Int.reduceLE,Int.reduceBEq,Int.reduceToNat,h0',e1,e2,e3,e4]
  refine (qhn E _ l hl s).mono ?_
  rintro r h' ⟨rfl, base', c', hv, rfl⟩
  simp -implicitDefEqProofs only [zA,reduceCtorEq,Nat.reduceEqDiff]
  exact ⟨_, _, hv, rfl⟩
def qgc (l : List UInt8) (r : Value) (h : Heap) (bad good : Value) : Prop :=
  match qdd l with
  | none => r = .tuple #[.slice none 0 0, bad]
  | some x => ∃ r', r = .tuple #[r', good] ∧ SlB h r' x
theorem qof {l : List UInt8} (h : q95 l l.length = 0) : qdd l = none := by
  unfold qdd; rw [if_neg]; rintro ⟨h1, _⟩; exact h1 h
theorem qog {l : List UInt8} {m : Nat} (hm : q95 l l.length = m + 1) (h : ¬ padF (l.take m) = l) : qdd l = none := by
  unfold qdd; rw [hm, if_neg]; rintro ⟨_, h1⟩; exact h h1
theorem qqf {l : List UInt8} {m : Nat} (hm : q95 l l.length = m + 1) (h : padF (l.take m) = l) : qdd l = some (l.take m) := by
  unfold qdd; rw [hm, if_pos ⟨by omega, h⟩]; rfl
theorem take_map {α β : Type} (f : α → β) (l : List α) (n : Nat) : (l.map f).take n = (l.take n).map f := by
  rw [List.map_take]
theorem Sl.preB {h : Heap} {base : Option Addr} {c m : Nat} {l : List UInt8} (s : SlB h (.slice base l.length c) l) (hm : m ≤ l.length) : SlB h (.slice base m c) (l.take m) := by
  have := Sl.pre s hm
  rw [Nat.mul_one, take_map] at this
  have e : (l.take m).length = m := by rw [List.length_take]; omega
  unfold SlB
  rw [e]; exact this
theorem quq (E : EnvT tab) (h : Heap) {v : Value} (l : List UInt8) (hl : l.length ≤ 65536) (s : SlB h v l) : ACallN E.toEnv qv4 [v] h fun r h' => h.le h' ∧ qgc l r h' (.int .i64 3) (.int .i64 0) := by
  obtain ⟨base, c, rfl⟩ := Sl.shape s
  refine q0o qjx qdr rfl rfl (q03 ?_)
  unfold qdr
  have hc : l.length ≤ c := by
    rcases s with ⟨e, hn, _⟩ | ⟨a, c', e, hc, _⟩
    · omega
    · simp only [Value.slice.injEq] at e
      omega
  simp -implicitDefEqProofs only [zA,reduceCtorEq]
  refine (qmq E _ l (by omega) s).mono ?_
  rintro r h' ⟨rfl, base', c', hv, rfl⟩
  simp only [Value.slice.injEq] at hv
  obtain ⟨rfl, _, rfl⟩ := hv
  have hle := qrj l l.length
  rcases hn : q95 l l.length with - | m
  · simp -implicitDefEqProofs only [zA,reduceCtorEq,Nat.reduceEqDiff,Int.reduceBEq]
    unfold qgc
    rw [qof hn]
    exact ⟨Heap.q04 _, rfl⟩
  rw [hn] at hle
  obtain ⟨b, o, c', hv, _, hat⟩ := Sl.q7x s m (by omega)
  simp only [Value.slice.injEq] at hv
  obtain ⟨rfl, _, rfl⟩ := hv
  have hat := hat _ (Heap.q04 _)
  have e0 : ¬ ((m + 1 : Nat) : Int) = 0 := by omega
  have e1 : ((m + 1 : Nat) : Int) - 1 = m := by omega
  have e3 : (0 : Int) ≤ m := by omega
  have e4 : (m : Int) < ((m + 1 : Nat) : Int) := by omega
  have hw : IntKind.i64.wrap (((m + 1 : Nat) : Int) - 1) = m := by rw [e1]; exact w64 (by omega) (by omega)
  have hpi := pad_iff l hl m hn
  by_cases hz : l[m] = 128
  · have hu : u8V l[m] = .int .u8 128 := by rw [hz]; rfl
    have hz2 : l[m]? = some 128 := by rw [List.getElem?_eq_getElem (by omega), hz]
    simp -implicitDefEqProofs only [zA,reduceCtorEq,Nat.reduceEqDiff,Int.reduceBNe,e0,hw,e3,e4,Int.toNat_natCast,hat,hu,q5t e3 (show (m : Int) ≤ c by omega)]
    refine (qgk E _ _).mono ?_
    rintro v h'' ⟨rfl, rfl⟩
    rw [Nat.sub_zero, qwp (by omega) (by omega)]
    by_cases hb : bk m = l.length
    · simp -implicitDefEqProofs only [zA,reduceCtorEq,Nat.reduceEqDiff,Int.reduceBNe,hb]
      have hp := hpi.2 ⟨hz2, hb⟩
      have e5 : (l.take m).length ≤ 140737488355328 := by rw [List.length_take]; omega
      have hif : (if c = 0 then some (⟨b, o, none⟩ : Addr) else some (Addr.add ⟨b, o, none⟩ 0)) = some ⟨b, o, none⟩ := by
        split
        · rfl
        · unfold Addr.add; simp
      rw [hif, Nat.sub_zero]
      refine (qcq E _ _ e5 (Sl.preB s (by omega))).mono ?_
      rintro r h3 ⟨hle3, ow⟩
      simp -implicitDefEqProofs only [zA,Nat.reduceEqDiff]
      refine ⟨hle3, ?_⟩
      unfold qgc
      rw [qqf hn hp]
      exact ⟨_, rfl, ow.sl⟩
    · simp -implicitDefEqProofs only [zA,reduceCtorEq,Nat.reduceEqDiff,Int.reduceBNe,hb]
      refine ⟨Heap.q04 _, ?_⟩
      unfold qgc
      rw [qog hn fun e => hb (hpi.1 e).2]
  · have hz' : ¬ ((l[m].toNat : Nat) : Int) = 128 := fun e => hz (UInt8.toNat_inj.1 (by simp; omega))
    simp -implicitDefEqProofs only [zA,reduceCtorEq,Nat.reduceEqDiff,e0,hw,e3,e4,Int.toNat_natCast,hat,u8V,hz']
    refine ⟨Heap.q04 _, ?_⟩
    unfold qgc
    rw [qog hn fun e => hz (by have := (hpi.1 e).1; rw [List.getElem?_eq_getElem (by omega)] at this; exact Option.some.inj this)]
def labW (a d n : Nat) : List UInt8 := numF a ++ numF d ++ numF n
def qlp (key : List UInt8) (a : Nat) (e : Ed) : List UInt8 :=
  labW a e.dev.toNat e.n.toNat ++ qal (qj7 key (q4g e.dev.toNat e.n.toNat) (padF (putE e)) (labW a e.dev.toNat e.n.toNat))
def qrn (L : RL) (k : Int) (e : Ed) : Nat × List UInt8 :=
  if q28 e = true then match getK L k with
    | none => (4, [])
    | some key => (0, qlp key k.toNat e)
  else (1, [])
def bktG (m : Nat) : Bool := decide (bkA ((m : Int) - 16 - 1) = ((m : Int) - 16, 0))
def rdL (dl : Nat) (s : RS) : (Nat × Nat × Nat × List UInt8) × RS :=
  let a := numS M40 s
  let d := numS dl a.2
  let n := numS M40 d.2
  let c := q69 65552 n.2
  ((a.1, d.1, n.1, c.1), c.2)
def okL (x : (Nat × Nat × Nat × List UInt8) × RS) : Bool := decide (x.2 = some []) && decide (x.1.2.1 < 8) && decide (1 ≤ x.1.2.2.1) && bktG x.1.2.2.2.length
def labL (dl : Nat) (l : List UInt8) : Option (Nat × Nat × Nat × List UInt8) := if okL (rdL dl (some l)) = true then some (rdL dl (some l)).1 else none
def qcx (L : RL) (l : List UInt8) : Nat × Ed :=
  match labL 7 l with
  | none => (3, ZE)
  | some (a, d, n, c) =>
    match getK L a with
    | none => (4, ZE)
    | some key =>
      if (qkk key (q4g d n) c (labW a d n)).1 = 0 then
        match qdd (qkk key (q4g d n) c (labW a d n)).2 with
        | none => (3, ZE)
        | some x => match getE 7 x with
          | none => (3, ZE)
          | some e => if e.dev = d ∧ e.n = n then (0, e) else (3, ZE)
      else (8, ZE)
def qpz (e : Ed) : Nat := if q28 e = true then (bk (putE e).length).toNat else 0
theorem labL_8 (l : List UInt8) : labL 8 l = labL 7 l := by
  unfold labL rdL
  cases ha : numS M40 (some l) with
  | mk a s =>
    simp only
    cases s with
    | none => rfl
    | some m =>
      have hl := qup (lim := 8) (low := 7) (by omega) 9 0 0 m
      cases hr : rdF 8 9 0 0 m with
      | none =>
        rw [hr] at hl
        have a : numS 8 (some m) = (0, none) := by simp [numS, hr]
        have b : numS 7 (some m) = (0, none) := by simp [numS, hl]
        rw [a, b]
      | some x =>
        obtain ⟨n, r⟩ := x
        rw [hr] at hl
        simp only at hl
        by_cases h : n ≤ 7
        · rw [if_pos h] at hl
          have a : numS 8 (some m) = (n, some r) := by simp [numS, hr]
          have b : numS 7 (some m) = (n, some r) := by simp [numS, hl]
          rw [a, b]
        · rw [if_neg h] at hl
          have b : numS 7 (some m) = (0, none) := by simp [numS, hl]
          have a : numS 8 (some m) = (n, some r) := by simp [numS, hr]
          rw [a, b]
          have h8 : ¬ n < 8 := by omega
          simp [okL, qte, qpm, h8]
theorem bktG_bk (n : Int) : bktG ((bk n).toNat + 16) = true := by
  unfold bktG
  have h : ∃ k : Nat, k ≤ 10 ∧ bk n = 64 * 2 ^ k := by
    unfold bk
    repeat' split
    · exact ⟨0, by omega, rfl⟩
    · exact ⟨1, by omega, rfl⟩
    · exact ⟨2, by omega, rfl⟩
    · exact ⟨3, by omega, rfl⟩
    · exact ⟨4, by omega, rfl⟩
    · exact ⟨5, by omega, rfl⟩
    · exact ⟨6, by omega, rfl⟩
    · exact ⟨7, by omega, rfl⟩
    · exact ⟨8, by omega, rfl⟩
    · exact ⟨9, by omega, rfl⟩
    · exact ⟨10, by omega, rfl⟩
  obtain ⟨k, hk, e⟩ := h
  rw [e]
  have hc : k = 0 ∨ k = 1 ∨ k = 2 ∨ k = 3 ∨ k = 4 ∨ k = 5 ∨ k = 6 ∨ k = 7 ∨ k = 8 ∨ k = 9 ∨ k = 10 := by omega
  rcases hc with rfl | rfl | rfl | rfl | rfl | rfl | rfl | rfl | rfl | rfl | rfl <;> decide
theorem qzq (dl : Nat) (hd : 7 ≤ dl) (key : List UInt8) (a : Nat) (ha : a ≤ 1099511627776) {e : Ed} (h : q28 e = true) (h8 : e.seen.length = 8) :
    labL dl (qlp key a e) = some (a, e.dev.toNat, e.n.toNat, qj7 key (q4g e.dev.toNat e.n.toNat) (padF (putE e)) (labW a e.dev.toNat e.n.toNat)) := by
  have g := qa9 h
  have hp := qi0 h h8
  have hl := qb9 (l := putE e) (by omega)
  have hb := qqa (n := (putE e).length) (by omega)
  have hs := qge key (q4g e.dev.toNat e.n.toNat) (padF (putE e)) (labW a e.dev.toNat e.n.toNat)
  have gd := g.dev
  have gn := g.n
  have e1 : rdL dl (some (qlp key a e)) = ((a, e.dev.toNat, e.n.toNat, qj7 key (q4g e.dev.toNat e.n.toNat) (padF (putE e)) (labW a e.dev.toNat e.n.toNat)), some []) := by
    unfold qlp
    generalize qj7 key (q4g e.dev.toNat e.n.toNat) (padF (putE e)) (labW a e.dev.toNat e.n.toNat) = C at *
    unfold labW rdL
    simp only [List.append_assoc]
    rw [qcd (by unfold M40; omega) (by omega)]
    simp only
    rw [qcd (by omega) (by omega)]
    simp only
    rw [qcd (by unfold M40; omega) (by omega)]
    simp only
    have := qe6 (lim := 65552) (x := C) (by omega) (by omega) []
    rw [List.append_nil] at this
    rw [this]
  unfold labL
  rw [e1, if_pos]
  unfold okL
  simp only [Bool.and_eq_true, decide_eq_true_eq, true_and]
  refine ⟨⟨by omega, by omega⟩, ?_⟩
  rw [hs]
  have : (padF (putE e)).length = (bk (putE e).length).toNat := by omega
  rw [this]
  exact bktG_bk _
theorem qus (L : RL) (key : List UInt8) (k : Int) (hk : 0 ≤ k ∧ k ≤ 1099511627776) {e : Ed} (h : q28 e = true) (h8 : e.seen.length = 8) (hg : getK L k = some key) :
    qcx L (qlp key k.toNat e) = (0, e) := by
  have g := qa9 h
  have hp := qi0 h h8
  have hl := qb9 (l := putE e) (by omega)
  have hb := qqa (n := (putE e).length) (by omega)
  have gd := g.dev
  have gn := g.n
  unfold qcx
  rw [qzq 7 (by omega) key k.toNat (by omega) h h8]
  simp only
  have ek : ((k.toNat : Nat) : Int) = k := by omega
  rw [ek, hg]
  simp only
  rw [qz9 _ _ _ _ (by omega)]
  simp only [if_true]
  rw [qy2]
  simp only
  rw [get_put 7 (by omega) h h8]
  simp only
  rw [if_pos (by omega)]
theorem body_len (key : List UInt8) (a : Nat) {e : Ed} (h : q28 e = true) (h8 : e.seen.length = 8) :
    (qlp key a e).length = (labW a e.dev.toNat e.n.toNat).length + (numF (qpz e + 16)).length + qpz e + 16 := by
  have hp := qi0 h h8
  have hl := qb9 (l := putE e) (by omega)
  have hs := qge key (q4g e.dev.toNat e.n.toNat) (padF (putE e)) (labW a e.dev.toNat e.n.toNat)
  have hz : (padF (putE e)).length = qpz e := by unfold qpz; rw [if_pos h]; omega
  unfold qlp qal
  rw [List.length_append, List.length_append, hs, hz]
  omega
theorem qis (n : Nat) : (IntKind.u8.wrap (n : Int)) = ((n % 256 : Nat) : Int) := by
  simp [IntKind.wrap, IntKind.bits, IntKind.signed]
theorem or128 : ∀ x : Fin 256, (BitVec.ofNat 8 x.val ||| 128#8).toNat = x.val % 128 + 128 := by decide
theorem u8_more (n : Nat) : IntKind.u8.wrap (((BitVec.ofInt IntKind.u8.bits (IntKind.u8.wrap (n : Int)) ||| BitVec.ofInt IntKind.u8.bits 128).toNat : Nat) : Int) = ((n % 128 + 128 : Nat) : Int) := by
  rw [qis n]
  have e : BitVec.ofInt IntKind.u8.bits ((n % 256 : Nat) : Int) = BitVec.ofNat 8 (n % 256) := by rw [BitVec.ofInt_natCast]; rfl
  have e2 : BitVec.ofInt IntKind.u8.bits 128 = 128#8 := rfl
  have := or128 ⟨n % 256, by omega⟩
  simp only at this
  rw [e, e2, qis]
  have e3 : (BitVec.ofNat 8 (n % 256) ||| 128#8).toNat = n % 256 % 128 + 128 := this
  show (((BitVec.ofNat 8 (n % 256) ||| 128#8).toNat % 256 : Nat) : Int) = _
  rw [e3]
  omega
theorem q73 (E : EnvT tab) (h : Heap) {b : Value} (l : List UInt8) (hl : l.length ≤ 100000000) (s : SlB h b l) (v : Nat) (hv : v < 9223372036854775808) :
    ACallN E.toEnv qxd [b, .int .i64 v] h fun r h' => h.le h' ∧ OwB h h' r (l ++ numF v) := by
  refine q0o qmi qff rfl rfl (q03 ?_)
  unfold qff
  simp -implicitDefEqProofs only [zA,reduceCtorEq,Nat.reduceEqDiff,Nat.reduceAdd]
  refine (qcq E h l (by omega) s).mono ?_
  rintro r h1 ⟨le1, ow⟩
  have mx : max (v : Int) 0 = (v : Int) := by omega
  simp -implicitDefEqProofs only [zA,reduceCtorEq,Nat.reduceEqDiff]
  refine q0c (fun m t H => h.le H ∧ ∃ (n : Nat) (v5 : Value) (pre : List UInt8), t = tl [(1, .int .i64 n), (5, v5)] ∧ n ≤ v ∧ m = n ∧ OwB h H v5 (l ++ pre) ∧ pre ++ numF n = numF v) v
    ⟨le1, v, r, [], rfl, by omega, rfl, by simpa using ow, rfl⟩ ?_
  rintro m t H ⟨leH, n, v5, pre, rfl, hn, rfl, ow', hp⟩
  have hlen : (l ++ pre).length ≤ 100000009 := by
    have := congrArg List.length hp
    have h9 := q2b 9 v (by omega) (by omega)
    simp only [List.length_append] at this ⊢
    omega
  by_cases g : m < 128
  · have g1 : ¬ (128 : Int) ≤ m := by omega
    have w : IntKind.u8.wrap (m : Int) = ((UInt8.ofNat m).toNat : Int) := by rw [qis]; simp
    simp -implicitDefEqProofs only [zA,Nat.reduceEqDiff,g1]
    unfold qix
    simp -implicitDefEqProofs only [zA,Nat.reduceEqDiff,Nat.reduceSub,w,List.length_replicate,List.drop_replicate,List.replicate_zero]
    intro b1 hb1
    try simp -implicitDefEqProofs only [zA,reduceIte,reduceCtorEq,Nat.reduceEqDiff,Nat.reduceAdd,Nat.reduceMul,Nat.reduceLT,Nat.reduceSub,Int.reduceLT,Int.reduceLE,Int.reduceEq,Int.reduceNe,Int.reduceSub,Int.reduceAdd,Int.reduceMul,Int.reduceBEq,Int.reduceBNe,Int.reduceGT,Int.reduceGE,Nat.reduceGT,Int.reduceToNat,Int.reduceNeg,Nat.reduceLeDiff,Nat.reduceBEq,Nat.reduceBneDiff]
    refine q0t (bytes := 1) (m := 1) (news := [u8V (UInt8.ofNat m)]) (Heap.q1c leH hb1 _) (by omega) (ow'.le (Heap.q02 (Heap.q04 _) hb1 _)) (Sl.lit (n := 1) rfl) rfl (by omega) (by omega) ?_
    intro v3 H3 ow3 le3
    simp -implicitDefEqProofs only [zA,Nat.reduceEqDiff]
    refine ⟨le3, ?_⟩
    rw [qjc g] at hp
    rw [← hp]
    simpa [OwB, Nat.add_assoc] using ow3
  · have g1 : (128 : Int) ≤ m := by omega
    have w : ((m % 128 + 128 : Nat) : Int) = ((UInt8.ofNat (m % 128 + 128)).toNat : Int) := by simp; omega
    have sh : (m : Int).fdiv (2 ^ (min 7 IntKind.i64.bits)) = ((m / 128 : Nat) : Int) := by
      have : min 7 IntKind.i64.bits = 7 := rfl
      rw [this, Int.fdiv_eq_ediv_of_nonneg _ (by omega)]; omega
    simp -implicitDefEqProofs only [zA,Nat.reduceEqDiff,Nat.reduceSub,g1,u8_more,w,List.length_replicate,List.drop_replicate,List.replicate_zero]
    intro b1 hb1
    try simp -implicitDefEqProofs only [zA,reduceIte,reduceCtorEq,Nat.reduceEqDiff,Nat.reduceAdd,Nat.reduceMul,Nat.reduceLT,Nat.reduceSub,Int.reduceLT,Int.reduceLE,Int.reduceEq,Int.reduceNe,Int.reduceSub,Int.reduceAdd,Int.reduceMul,Int.reduceBEq,Int.reduceBNe,Int.reduceGT,Int.reduceGE,Nat.reduceGT,Int.reduceToNat,Int.reduceNeg,Nat.reduceLeDiff,Nat.reduceBEq,Nat.reduceBneDiff]
    refine q0t (bytes := 1) (m := 1) (news := [u8V (UInt8.ofNat (m % 128 + 128))]) (Heap.q1c leH hb1 _) (by omega) (ow'.le (Heap.q02 (Heap.q04 _) hb1 _)) (Sl.lit (n := 1) rfl) rfl (by omega) (by omega) ?_
    intro v3 H3 ow3 le3
    simp -implicitDefEqProofs only [zA,Nat.reduceEqDiff,Int.reduceLT,Int.reduceToNat,sh]
    refine ⟨m / 128, by omega, le3, m / 128, v3, pre ++ [UInt8.ofNat (m % 128 + 128)], rfl, by omega, rfl, by simpa [OwB, Nat.add_assoc] using ow3, ?_⟩
    rw [← hp, qp4 g]; simp
theorem qfx {h : Heap} {l : List UInt8} {K : Value → Heap → Prop} (hk : ∀ b c, h b = none → l.length ≤ c → SlB (h.set b (.own 0 (l.map u8V) c)) (.slice (some ⟨b, 0, none⟩) l.length c) l → h.le (h.set b (.own 0 (l.map u8V) c)) → K (.slice (some ⟨b, 0, none⟩) l.length c) (h.set b (.own 0 (l.map u8V) c))) : qid h (strV l) K := by
  simp only [qid, strV, ByteArray.size, List.size_toArray]
  intro b c hb hc
  refine hk b c hb hc (.inr ⟨⟨b, 0, none⟩, c, rfl, hc, ?_⟩) (Heap.q02 (Heap.q04 _) hb _)
  rw [q0l (Heap.q01 _ _ _) (by simp)]
  simp [List.take_of_length_le]
theorem qmx (E : EnvT tab) (h : Heap) {b x : Value} (l m : List UInt8) (hl : l.length ≤ 100000000) (hm : m.length ≤ 100000000) (s : SlB h b l) (sx : SlB h x m) :
    ACallN E.toEnv qtf [b, x] h fun r h' => h.le h' ∧ OwB h h' r (l ++ qal m) := by
  obtain ⟨xb, xc, rfl⟩ := Sl.shape sx
  refine q0o qha qcf rfl rfl (q03 ?_)
  unfold qcf
  simp -implicitDefEqProofs only [zA,reduceCtorEq,Nat.reduceEqDiff,Nat.reduceAdd]
  refine (q73 E h l hl s m.length (by omega)).mono ?_
  rintro r h1 ⟨le1, ow⟩
  have h9 := q2b 9 m.length (by omega) (by omega)
  simp -implicitDefEqProofs only [zA,reduceCtorEq,Nat.reduceEqDiff]
  refine q0t (bytes := 1) (m := m.length) (news := m.map u8V) le1 (by omega) ow (sx.le le1) (q1i m) (by simp; omega) (by simp; omega) ?_
  intro v3 H3 ow3 le3
  simp -implicitDefEqProofs only [zA,reduceCtorEq,Nat.reduceEqDiff]
  exact ⟨le3, by simpa [OwB, qal, Nat.add_assoc] using ow3⟩
theorem qj4 (E : EnvT tab) (h : Heap) {b : Value} (l m : List UInt8) (hl : l.length ≤ 100000000) (hm : m.length ≤ 100000000) (s : SlB h b l) :
    ACallN E.toEnv qux [b, strV m] h fun r h' => h.le h' ∧ OwB h h' r (l ++ qal m) := by
  refine q0o qjq qdk rfl rfl (q03 ?_)
  unfold qdk
  simp -implicitDefEqProofs only [zA,reduceCtorEq,Nat.reduceEqDiff,Nat.reduceAdd]
  refine qfx ?_
  intro b1 c1 hb1 hc1 s1 le1
  simp -implicitDefEqProofs only [zA,reduceCtorEq,Nat.reduceEqDiff]
  refine (qmx E _ l m hl hm (s.le le1) s1).mono ?_
  rintro r h2 ⟨le2, ow⟩
  simp -implicitDefEqProofs only [zA,reduceCtorEq,Nat.reduceEqDiff]
  exact ⟨Heap.q00 le1 le2, ow.since le1⟩
theorem qcu (s : List UInt8) : (⟨s.toArray⟩ : ByteArray).size = s.length := by simp [ByteArray.size]
theorem qta (E : EnvT tab) (H : Heap) (s : List UInt8) (hs : s.length ≤ 9000000000000000000) : ACallN E.toEnv qzh [strV s] H fun r H' => H' = H ∧ r = .bool (qkp s) := by
  refine q0o qpc qi7 rfl rfl (q03 ?_)
  unfold qi7 strV
  have ez := qcu s
  unfold qkp
  simp -implicitDefEqProofs only [zA,reduceCtorEq,Nat.reduceEqDiff,ez]
  refine q0c (fun m t G => G = H ∧ ∃ i : Nat, t = tl [(0, .string ⟨s.toArray⟩), (5, .int .i64 s.length), (6, .int .i64 i)] ∧ i ≤ s.length ∧ m = s.length - i ∧ (s.take i).all (fun b => decide (33 ≤ b.toNat ∧ b.toNat ≤ 126)) = true) s.length
    ⟨rfl, 0, rfl, by omega, by omega, by simp⟩ ?_
  rintro m t G ⟨rfl, i, rfl, hi, rfl, ha⟩
  by_cases hlt : i < s.length
  · have hi1 : (i : Int) < s.length := by omega
    have hi2 : (0 : Int) ≤ i := by omega
    have w1 : IntKind.i64.wrap ((i : Int) + 1) = ((i + 1 : Nat) : Int) := q2k (by omega)
    have ix : s[i]? = some s[i] := List.getElem?_eq_getElem hlt
    have ad : s.toArray.toList = s := rfl
    by_cases g : 33 ≤ s[i].toNat ∧ s[i].toNat ≤ 126
    · have g1 : ¬ ((s[i].toNat : Int) < 33) := by omega
      have g2 : ¬ ((126 : Int) < s[i].toNat) := by omega
      simp -implicitDefEqProofs only [zA,reduceCtorEq,Nat.reduceEqDiff,hi1,hi2,Int.toNat_natCast,ix,g1,g2,w1]
      refine ⟨_, ?_, i + 1, rfl, by omega, rfl, ?_⟩
      · omega
      · rw [List.take_succ_eq_append_getElem hlt, List.all_append, ha]; simp [g]
    · have hf : s.all (fun b => decide (33 ≤ b.toNat ∧ b.toNat ≤ 126)) = false := by
        rw [List.all_eq_false]
        exact ⟨s[i], List.getElem_mem hlt, by simpa using g⟩
      rw [hf]
      by_cases g1 : (s[i].toNat : Int) < 33
      · simp -implicitDefEqProofs only [zA,reduceCtorEq,Nat.reduceEqDiff,hi1,hi2,Int.toNat_natCast,ix,g1,Bool.false_and]
      · have g2 : (126 : Int) < s[i].toNat := by omega
        simp -implicitDefEqProofs only [zA,reduceCtorEq,Nat.reduceEqDiff,hi1,hi2,Int.toNat_natCast,ix,g1,g2,Bool.false_and]
  · have hi1 : ¬ (i : Int) < s.length := by omega
    have e : i = s.length := by omega
    subst e
    rw [List.take_length] at ha
    rw [ha, Bool.true_and]
    simp -implicitDefEqProofs only [zA,reduceCtorEq,Nat.reduceEqDiff,hi1]
    unfold qla
    by_cases g1 : 1 ≤ s.length
    · have g1' : (1 : Int) ≤ s.length := by omega
      by_cases g2 : s.length ≤ 40
      · have g2' : (s.length : Int) ≤ 40 := by omega
        simp -implicitDefEqProofs only [zA,reduceCtorEq,Nat.reduceEqDiff,ez,g1',g2',g1,g2]
      · have g2' : ¬ (s.length : Int) ≤ 40 := by omega
        simp -implicitDefEqProofs only [zA,reduceCtorEq,Nat.reduceEqDiff,ez,g1',g2',g1,g2]
    · have g1' : ¬ (1 : Int) ≤ s.length := by omega
      simp -implicitDefEqProofs only [zA,reduceCtorEq,Nat.reduceEqDiff,ez,g1',g1,false_and]
theorem qyq {v : List Int} (h8 : v.length = 8) (i : Nat) (hi : i < 8) : v[i]? = some (v[i]'(by omega)) := List.getElem?_eq_getElem (by omega)
theorem qwy (E : EnvT tab) (H : Heap) (v : List Int) (h8 : v.length = 8) : ACallN E.toEnv qxe [.agg (v.map (.int .i64)).toArray] H fun r H' => H.le H' ∧ r = .bool (vecG v) := by
  refine q0o qmj qfg rfl rfl (q03 ?_)
  unfold qfg
  have vl : (v.map (Value.int .i64)).length = 8 := by simp [h8]
  simp -implicitDefEqProofs only [zA,reduceCtorEq,Nat.reduceEqDiff]
  intro b hb
  try simp -implicitDefEqProofs only [zA,reduceIte,reduceCtorEq,Nat.reduceEqDiff,Nat.reduceAdd,Nat.reduceMul,Nat.reduceLT,Nat.reduceSub,Int.reduceLT,Int.reduceLE,Int.reduceEq,Int.reduceNe,Int.reduceSub,Int.reduceAdd,Int.reduceMul,Int.reduceBEq,Int.reduceBNe,Int.reduceGT,Int.reduceGE,Nat.reduceGT,Int.reduceToNat,Int.reduceNeg,Nat.reduceLeDiff,Nat.reduceBEq,Nat.reduceBneDiff]
  rw [vl]
  have le1 := Heap.q02 (Heap.q04 H) hb (.own 0 (v.map (.int .i64)) 8)
  have ld : q05 (H.set b (.own 0 (v.map (.int .i64)) 8)) ⟨b, 0, none⟩ 8 = some (v.map (.int .i64)) := z6x (by simp [h8])
  simp -implicitDefEqProofs only [zA,Nat.reduceEqDiff,ld]
  generalize (H.set b (.own 0 (v.map (.int .i64)) 8)) = H1 at le1
  refine q0c (fun m t G => G = H1 ∧ ∃ i : Nat, t = tl [(5, .agg (v.map (.int .i64)).toArray), (6, .int .i64 i)] ∧ i ≤ 8 ∧ m = 8 - i ∧ (v.take i).all (fun n => decide (0 ≤ n ∧ n ≤ 1099511627776)) = true) 8
    ⟨rfl, 0, rfl, by omega, by omega, by simp⟩ ?_
  rintro m t G ⟨rfl, i, rfl, hi, rfl, ha⟩
  by_cases hlt : i < 8
  · have hi1 : (i : Int) < 8 := by omega
    have hi2 : (0 : Int) ≤ i := by omega
    have w1 : IntKind.i64.wrap ((i : Int) + 1) = ((i + 1 : Nat) : Int) := q2k (by omega)
    have ix : (v.map (Value.int .i64))[i]? = some (.int .i64 (v[i]'(by omega))) := by rw [List.getElem?_map, qyq h8 i hlt]; rfl
    have et : v.take (i + 1) = v.take i ++ [v[i]'(by omega)] := List.take_succ_eq_append_getElem (by omega)
    by_cases g : 0 ≤ v[i]'(by omega) ∧ v[i]'(by omega) ≤ 1099511627776
    · have g1 : ¬ (v[i]'(by omega) < 0) := by omega
      have g2 : ¬ (1099511627776 < v[i]'(by omega)) := by omega
      simp -implicitDefEqProofs only [zA,Nat.reduceEqDiff,hi1,hi2,Int.toNat_natCast,ix,g1,g2,w1]
      refine ⟨_, ?_, i + 1, rfl, by omega, rfl, ?_⟩
      · omega
      · rw [et, List.all_append, ha]; simp [g]
    · have hf : vecG v = false := by
        unfold vecG
        rw [List.all_eq_false]
        exact ⟨v[i]'(by omega), List.getElem_mem _, by simpa using g⟩
      rw [hf]
      by_cases g1 : v[i]'(by omega) < 0
      · simp -implicitDefEqProofs only [zA,Nat.reduceEqDiff,hi1,hi2,Int.toNat_natCast,ix,g1]
        exact le1
      · have g2 : 1099511627776 < v[i]'(by omega) := by omega
        simp -implicitDefEqProofs only [zA,Nat.reduceEqDiff,hi1,hi2,Int.toNat_natCast,ix,g1,g2]
        exact le1
  · have e : i = 8 := by omega
    subst e
    rw [List.take_of_length_le (by omega)] at ha
    have hf : vecG v = true := ha
    simp -implicitDefEqProofs only [zA,Nat.reduceEqDiff,Nat.reduceSub,Int.reduceLT,hf]
    exact le1
theorem qxx (E : EnvT tab) (H : Heap) {b : Value} (l : List UInt8) (v : List Int) (hl : l.length ≤ 1000000) (s : SlB H b l) (h8 : v.length = 8) (hv : ∀ n ∈ v, 0 ≤ n ∧ n ≤ 1099511627776) : ACallN E.toEnv qzd [b, .agg (v.map (.int .i64)).toArray] H fun r H' => H.le H' ∧ OwB H H' r (l ++ q75 v) := by
  refine q0o qp8 qi3 rfl rfl (q03 ?_)
  unfold qi3
  have vl : (v.map (Value.int .i64)).length = 8 := by simp [h8]
  simp -implicitDefEqProofs only [zA,reduceCtorEq,Nat.reduceEqDiff,Nat.reduceAdd]
  intro b1 hb1
  try simp -implicitDefEqProofs only [zA,reduceIte,reduceCtorEq,Nat.reduceEqDiff,Nat.reduceAdd,Nat.reduceMul,Nat.reduceLT,Nat.reduceSub,Int.reduceLT,Int.reduceLE,Int.reduceEq,Int.reduceNe,Int.reduceSub,Int.reduceAdd,Int.reduceMul,Int.reduceBEq,Int.reduceBNe,Int.reduceGT,Int.reduceGE,Nat.reduceGT,Int.reduceToNat,Int.reduceNeg,Nat.reduceLeDiff,Nat.reduceBEq,Nat.reduceBneDiff]
  rw [vl]
  have le1 := Heap.q02 (Heap.q04 H) hb1 (.own 0 (v.map (.int .i64)) 8)
  have ld : q05 (H.set b1 (.own 0 (v.map (.int .i64)) 8)) ⟨b1, 0, none⟩ 8 = some (v.map (.int .i64)) := z6x (by simp [h8])
  simp -implicitDefEqProofs only [zA,reduceCtorEq,Nat.reduceEqDiff,ld]
  generalize (H.set b1 (.own 0 (v.map (.int .i64)) 8)) = H1 at le1
  refine q0c (fun m t G => H.le G ∧ ∃ (i : Nat) (v0 : Value), t = tl [(0, v0), (7, .agg (v.map (.int .i64)).toArray), (8, .int .i64 i)] ∧ i ≤ 8 ∧ m = 8 - i ∧ SlB G v0 (l ++ q75 (v.take i)) ∧ (0 < i → OwB H G v0 (l ++ q75 (v.take i))) ∧ (q75 (v.take i)).length ≤ 9 * i) 8
    ⟨le1, 0, b, rfl, by omega, by omega, by simpa [q75] using Sl.le le1 s, fun h => by omega, by simp [q75]⟩ ?_
  rintro m t G ⟨leG, i, v0, rfl, hi, rfl, sw, ow, hln⟩
  by_cases hlt : i < 8
  · have hi1 : (i : Int) < 8 := by omega
    have hi2 : (0 : Int) ≤ i := by omega
    have w1 : IntKind.i64.wrap ((i : Int) + 1) = ((i + 1 : Nat) : Int) := q2k (by omega)
    have et : v.take (i + 1) = v.take i ++ [v[i]'(by omega)] := List.take_succ_eq_append_getElem (by omega)
    have hx := hv (v[i]'(by omega)) (List.getElem_mem _)
    have ix : (v.map (Value.int .i64))[i]? = some (.int .i64 (v[i]'(by omega))) := by rw [List.getElem?_map, qyq h8 i hlt]; rfl
    generalize v[i]'(by omega) = x at et hx ix
    obtain ⟨n, rfl⟩ : ∃ n : Nat, x = n := ⟨x.toNat, by omega⟩
    have h9 := q2b 9 n (by omega) (by omega)
    have en : q75 (v.take i ++ [(n : Int)]) = q75 (v.take i) ++ numF n := by simp [q75]
    simp -implicitDefEqProofs only [zA,reduceCtorEq,Nat.reduceEqDiff,hi1,hi2,Int.toNat_natCast,ix]
    refine (q73 E G (l ++ q75 (v.take i)) (by simp; omega) sw n (by omega)).mono ?_
    rintro r G2 ⟨le2, ow2⟩
    simp -implicitDefEqProofs only [zA,reduceCtorEq,Nat.reduceEqDiff,w1]
    have e2 : l ++ q75 (v.take (i + 1)) = l ++ q75 (v.take i) ++ numF n := by rw [et, en, ← List.append_assoc]
    refine ⟨7 - i, by omega, Heap.q00 leG le2, i + 1, r, rfl, by omega, by omega, ?_, fun _ => ?_, ?_⟩
    · rw [e2]; exact ow2.sl
    · rw [e2]; exact Ow.since leG ow2
    · rw [et, en]; simp; omega
  · have e : i = 8 := by omega
    subst e
    rw [List.take_of_length_le (by omega)] at ow
    simp -implicitDefEqProofs only [zA,reduceCtorEq,Nat.reduceEqDiff,Nat.reduceSub,Int.reduceLT]
    exact ⟨leG, ow (by omega)⟩
end Go.Bb
