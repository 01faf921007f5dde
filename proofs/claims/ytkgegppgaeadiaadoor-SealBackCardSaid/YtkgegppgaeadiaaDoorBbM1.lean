/- My contracts: BbW32 BbUj BbCegd BbUl BbUk BbUtl BbUq BbSrn BbSdr BbRng2 BbCoct BbCbig BbPsha BbCoct2 BbRow BbPref4 BbCoct3 BbCmul BbCpoly0 BbCpoly1 BbCpoly2 BbCpoly3 BbCoct4 BbCpoly4 BbCslc. -/
import Derived.Test.YtkgegppgaeadiaaDoorBbG3
import Derived.Test.YtkgegppgaeadiaaDoorBbTab
/- Words: numbers of fixed width, as the walk meets them. -/
namespace Go.Bb
set_option linter.unusedSimpArgs false
set_option linter.unusedVariables false

abbrev U32 := BitVec 32
abbrev U64 := BitVec 64
def u8V (b : UInt8) : Value := .int .u8 b.toNat
def u64V (x : U64) : Value := .int .u64 x.toNat

theorem wrap_u32 (n : Int) : IntKind.u32.wrap n = ((BitVec.ofInt 32 n).toNat : Int) := by
  simp only [IntKind.wrap, IntKind.bits, IntKind.signed, BitVec.toNat_ofInt]
  simp
  omega
theorem wrap_u64 (n : Int) : IntKind.u64.wrap n = ((BitVec.ofInt 64 n).toNat : Int) := by
  simp only [IntKind.wrap, IntKind.bits, IntKind.signed, BitVec.toNat_ofInt]
  simp
  omega
theorem wrap_u8 (n : Int) : IntKind.u8.wrap n = ((BitVec.ofInt 8 n).toNat : Int) := by
  simp only [IntKind.wrap, IntKind.bits, IntKind.signed, BitVec.toNat_ofInt]
  simp
  omega
theorem ofInt_nat (w n : Nat) : BitVec.ofInt w (n : Int) = BitVec.ofNat w n := by simp
theorem ofInt_toNat {w : Nat} (x : BitVec w) : BitVec.ofInt w (x.toNat : Int) = x := by rw [ofInt_nat]; simp

section
variable (x y : U32) (n : Nat)
theorem u32_add : IntKind.u32.wrap ((x.toNat : Int) + (y.toNat : Int)) = ((x + y).toNat : Int) := by
  rw [wrap_u32]; congr 1
theorem u32_xor : IntKind.u32.wrap ((BitVec.ofInt IntKind.u32.bits (x.toNat : Int) ^^^ BitVec.ofInt IntKind.u32.bits (y.toNat : Int)).toNat : Int) = ((x ^^^ y).toNat : Int) := by
  rw [show IntKind.u32.bits = 32 from rfl, ofInt_toNat, ofInt_toNat, wrap_u32, ofInt_toNat]
theorem u32_or : IntKind.u32.wrap ((BitVec.ofInt IntKind.u32.bits (x.toNat : Int) ||| BitVec.ofInt IntKind.u32.bits (y.toNat : Int)).toNat : Int) = ((x ||| y).toNat : Int) := by
  rw [show IntKind.u32.bits = 32 from rfl, ofInt_toNat, ofInt_toNat, wrap_u32, ofInt_toNat]
theorem u32_shl (h : n ≤ 32) : IntKind.u32.wrap ((x.toNat : Int) * 2 ^ (min n IntKind.u32.bits)) = ((x <<< n).toNat : Int) := by
  rw [show IntKind.u32.bits = 32 from rfl, Nat.min_eq_left h, wrap_u32]
  have : ((x.toNat : Int) * 2 ^ n) = ((x.toNat * 2 ^ n : Nat) : Int) := by simp
  rw [this, ofInt_nat]
  simp [BitVec.toNat_shiftLeft, Nat.shiftLeft_eq]
theorem u32_shr (h : n ≤ 32) : ((x.toNat : Int).fdiv (2 ^ (min n IntKind.u32.bits))) = ((x >>> n).toNat : Int) := by
  rw [show IntKind.u32.bits = 32 from rfl, Nat.min_eq_left h, Int.fdiv_eq_ediv_of_nonneg _ (Int.le_of_lt (Int.pow_pos (by omega)))]
  simp [BitVec.toNat_ushiftRight, Nat.shiftRight_eq_div_pow]
theorem u32_u64 : IntKind.u64.wrap (x.toNat : Int) = ((x.setWidth 64).toNat : Int) := by
  rw [wrap_u64, ofInt_nat]; simp
theorem u64_u32 (z : U64) : IntKind.u32.wrap (z.toNat : Int) = ((z.setWidth 32).toNat : Int) := by
  rw [wrap_u32, ofInt_nat]; simp
end
section
variable (x y : U64) (n : Nat)
theorem u64_and : IntKind.u64.wrap ((BitVec.ofInt IntKind.u64.bits (x.toNat : Int) &&& BitVec.ofInt IntKind.u64.bits (y.toNat : Int)).toNat : Int) = ((x &&& y).toNat : Int) := by
  rw [show IntKind.u64.bits = 64 from rfl, ofInt_toNat, ofInt_toNat, wrap_u64, ofInt_toNat]
theorem u64_or : IntKind.u64.wrap ((BitVec.ofInt IntKind.u64.bits (x.toNat : Int) ||| BitVec.ofInt IntKind.u64.bits (y.toNat : Int)).toNat : Int) = ((x ||| y).toNat : Int) := by
  rw [show IntKind.u64.bits = 64 from rfl, ofInt_toNat, ofInt_toNat, wrap_u64, ofInt_toNat]
theorem u64_shl (h : n ≤ 64) : IntKind.u64.wrap ((x.toNat : Int) * 2 ^ (min n IntKind.u64.bits)) = ((x <<< n).toNat : Int) := by
  rw [show IntKind.u64.bits = 64 from rfl, Nat.min_eq_left h, wrap_u64]
  have : ((x.toNat : Int) * 2 ^ n) = ((x.toNat * 2 ^ n : Nat) : Int) := by simp
  rw [this, ofInt_nat]
  simp [BitVec.toNat_shiftLeft, Nat.shiftLeft_eq]
theorem u64_shr (h : n ≤ 64) : ((x.toNat : Int).fdiv (2 ^ (min n IntKind.u64.bits))) = ((x >>> n).toNat : Int) := by
  rw [show IntKind.u64.bits = 64 from rfl, Nat.min_eq_left h, Int.fdiv_eq_ediv_of_nonneg _ (Int.le_of_lt (Int.pow_pos (by omega)))]
  simp [BitVec.toNat_ushiftRight, Nat.shiftRight_eq_div_pow]
theorem u8_u64 (b : UInt8) : IntKind.u64.wrap (b.toNat : Int) = ((BitVec.ofNat 64 b.toNat).toNat : Int) := by
  rw [wrap_u64, ofInt_nat]
theorem u64_u8 (z : U64) : IntKind.u8.wrap (z.toNat : Int) = ((UInt8.ofNat z.toNat).toNat : Int) := by
  rw [wrap_u8, ofInt_nat]; simp
end
end Go.Bb
/- The walk's laws: slice expressions, copies, texts of bytes. -/
namespace Go.Bb
set_option linter.unusedSimpArgs false
set_option linter.unusedVariables false

theorem bnds_hi {n c : Nat} {k : IntKind} {z : Int} (h0 : 0 ≤ z) (h1 : z ≤ c) : bnds n c none (some (some (.int k z))) none = some (0, z.toNat, c) := by
  simp [bnds, bndV, h0, h1]
theorem bnds_lo {n c : Nat} {k : IntKind} {z : Int} (h0 : 0 ≤ z) (h1 : z ≤ n) : bnds n c (some (some (.int k z))) none none = some (z.toNat, n, c) := by
  simp [bnds, bndV, h0, h1]
theorem bnds_both {n c : Nat} {k k' : IntKind} {y z : Int} (h0 : 0 ≤ y) (h1 : y ≤ z) (h2 : z ≤ c) : bnds n c (some (some (.int k y))) (some (some (.int k' z))) none = some (y.toNat, z.toNat, c) := by
  have hz : 0 ≤ z := by omega
  have : y ≤ (z.toNat : Int) := by omega
  have h3 : y ≤ max z 0 := by omega
  simp [bnds, bndV, h0, hz, h2, h1, h3]
theorem bnds_no {n c : Nat} : bnds n c none none none = some (0, n, c) := by simp [bnds, bndV]
theorem add_zero' (a : Addr) (size : Nat) : a.add (0 * size) = a := by unfold Addr.add; simp
theorem sl_pre {c size : Nat} {a : Option Addr} : (if c = 0 then a else a.map fun x => x.add (0 * size)) = a := by
  split
  · rfl
  · cases a with
    | none => rfl
    | some a => simp only [Option.map_some, add_zero']
theorem sl_preA {c size : Nat} {a : Addr} : (if c = 0 then a else a.add (0 * size)) = a := by
  split
  · rfl
  · exact add_zero' a size
theorem add_off' (b o n : Nat) : (⟨b, o, none⟩ : Addr).add n = ⟨b, o + n, none⟩ := by
  unfold Addr.add; split
  · rename_i h; subst h; rfl
  · rfl

/-- A part of a slice. -/
theorem Sl.pre {h : Heap} {size n c : Nat} {base : Option Addr} {cells : List Value} (s : Sl h size (.slice base n c) n cells) {k : Nat} (hk : k ≤ n) : Sl h size (.slice base k c) k (cells.take (k * size)) := by
  have hm : k * size ≤ n * size := Nat.mul_le_mul_right _ hk
  rcases s with ⟨e, rfl, rfl⟩ | ⟨a, c', e, h2, h3⟩
  · simp only [Value.slice.injEq] at e
    obtain ⟨rfl, _, rfl⟩ := e
    have : k = 0 := by omega
    subst this
    exact .inl ⟨rfl, rfl, by simp⟩
  · simp only [Value.slice.injEq] at e
    obtain ⟨rfl, _, rfl⟩ := e
    refine .inr ⟨a, c, rfl, by omega, ?_⟩
    by_cases hz : k * size = 0
    · rw [hz]; simp [hcells]
    · have := hcells_spot h3 (by omega)
      rw [this] at h3 ⊢
      have := hcells_sub h3 0 (k * size) (by omega)
      simpa using this
theorem Sl.post {h : Heap} {size n c : Nat} {base : Option Addr} {cells : List Value} (s : Sl h size (.slice base n c) n cells) {k : Nat} (hk : k ≤ n) :
    Sl h size (.slice (if c = k then base else base.map fun x => x.add (k * size)) (n - k) (c - k)) (n - k) (cells.drop (k * size)) := by
  have hm : k * size ≤ n * size := Nat.mul_le_mul_right _ hk
  rcases s with ⟨e, rfl, rfl⟩ | ⟨a, c', e, h2, h3⟩
  · simp only [Value.slice.injEq] at e
    obtain ⟨rfl, _, rfl⟩ := e
    have : k = 0 := by omega
    subst this
    exact .inl ⟨by simp, rfl, by simp⟩
  · simp only [Value.slice.injEq] at e
    obtain ⟨rfl, _, rfl⟩ := e
    have hl := hcells_length h3
    by_cases hck : c = k
    · have hnk : n - k = 0 := by omega
      refine .inr ⟨a, c - k, by simp [hck], by omega, ?_⟩
      rw [hnk, Nat.zero_mul]
      simp only [hcells, Option.some.injEq]
      rw [List.drop_eq_nil_of_le]
      have : n = k := by omega
      subst this; omega
    · refine .inr ⟨a.add (k * size), c - k, by simp [hck], by omega, ?_⟩
      by_cases hz : (n - k) * size = 0
      · rw [hz]
        simp only [hcells, Option.some.injEq]
        rw [List.drop_eq_nil_of_le]
        rw [Nat.sub_mul] at hz; omega
      · rw [Nat.sub_mul] at hz ⊢
        have := hcells_spot h3 (by omega)
        rw [this] at h3
        rw [this, add_off']
        have := hcells_sub h3 (k * size) (n * size - k * size) (by omega)
        rw [this]
        congr 1
        rw [List.take_of_length_le]
        simp [hl]

/-! ### copies -/
theorem copyP_own {size b o n c m sz : Nat} {h : Heap} {v : Value} {vs cells : List Value} {K : Value → Heap → Prop} (hb : h b = some (.own 0 vs sz)) (hsz : vs.length ≤ sz) (ho : o + n * size ≤ vs.length) (s : Sl h size v m cells) (h1 : cells.all one = true)
    (hk : K (.int .i64 (min m n : Nat)) (h.set b (.own 0 (splice vs o (cells.take (min m n * size))) sz))) : copyP size h (.slice (some ⟨b, o, none⟩) n c) v K := by
  have hst : ∀ us : List Value, us.length ≤ n * size → hstore h ⟨b, o, none⟩ us = some (h.set b (.own 0 (splice vs o us) sz)) := by
    intro us hus
    cases us with
    | nil =>
      simp only [hstore, Option.some.injEq]
      have : splice vs o [] = vs := by simp [splice]
      rw [this, Heap.set_same hb]
    | cons u us =>
      simp only [hstore, hb]
      rw [if_pos ⟨Nat.zero_le _, by omega, by simp at hus ⊢; omega⟩, Nat.sub_zero]
  rcases s with ⟨rfl, rfl, rfl⟩ | ⟨a, c', rfl, h2, h3⟩
  · simp only [copyP]
    simp only [Nat.zero_min, Nat.zero_mul, List.take_nil] at hk
    have : splice vs o [] = vs := by simp [splice]
    rw [this, Heap.set_same hb] at hk
    exact ⟨trivial, hk⟩
  · have hl := hcells_length h3
    have hmn : min m n * size ≤ m * size := Nat.mul_le_mul_right _ (Nat.min_le_left _ _)
    have hmn2 : min m n * size ≤ n * size := Nat.mul_le_mul_right _ (Nat.min_le_right _ _)
    have h4 : hcells h a (min m n * size) = some (cells.take (min m n * size)) := by
      by_cases hz : min m n * size = 0
      · rw [hz]; simp [hcells]
      · have := hcells_spot h3 (by omega)
        rw [this] at h3 ⊢
        have := hcells_sub h3 0 (min m n * size) (by omega)
        simpa using this
    simp only [copyP, h4, hst _ (show (cells.take (min m n * size)).length ≤ n * size by rw [List.length_take]; omega)]
    refine ⟨fun u hu => List.all_eq_true.1 h1 u (List.mem_of_mem_take hu), hk⟩

/-! ### texts -/
def strV (l : List UInt8) : Value := .string ⟨l.toArray⟩
theorem bytesV_map : ∀ l : List UInt8, bytesV (l.map fun b => Value.int .u8 b.toNat) = some l
  | [] => rfl
  | b :: l => by simp [bytesV, bytesV_map l]
theorem strOfV_sl {h : Heap} {v : Value} {l : List UInt8} (s : Sl h 1 v l.length (l.map u8V)) : strOfV h v = some (strV l) := by
  rcases s with ⟨rfl, hn, _⟩ | ⟨a, c, rfl, h2, h3⟩
  · have : l = [] := List.eq_nil_of_length_eq_zero hn
    subst this; rfl
  · rw [Nat.mul_one] at h3
    simp only [strOfV, h3]
    have := bytesV_map l
    unfold u8V
    rw [this]; rfl
theorem str_toList (l : List UInt8) : (⟨l.toArray⟩ : ByteArray).toList = l := by
  exact Go.ByteArray.toList_mk l
end Go.Bb
/- Contracts: epochs that may be. -/
namespace Go.Bb
set_option linter.unusedSimpArgs false
set_option linter.unusedVariables false
set_option maxRecDepth 20000

theorem epoch_good_c (E : EnvT tab) (h : Heap) (n : Int) : ACallN E.toEnv n_epoch_good [.int .i64 n] h fun r h' => h' = h ∧ r = .bool (decide (0 ≤ n ∧ n ≤ 1099511627776)) := by
  refine acall h_epoch_good ir_epoch_good rfl rfl (wpA_sound ?_)
  unfold ir_epoch_good
  by_cases g0 : 0 ≤ n
  · by_cases g1 : n ≤ 1099511627776
    · simp -implicitDefEqProofs only [zA,reduceIte,reduceCtorEq,Nat.reduceEqDiff,Nat.reduceAdd,Nat.reduceMul,Nat.reduceLT,Nat.reduceSub,Int.reduceLT,Int.reduceLE,Int.reduceEq,Int.reduceNe,Int.reduceSub,Int.reduceAdd,Int.reduceMul,Int.reduceBEq,Int.reduceBNe,Int.reduceGT,Int.reduceGE,Nat.reduceGT,Int.reduceToNat,Int.reduceNeg,Nat.reduceLeDiff,Nat.reduceBEq,Nat.reduceBneDiff, g0, g1]
    · simp -implicitDefEqProofs only [zA,reduceIte,reduceCtorEq,Nat.reduceEqDiff,Nat.reduceAdd,Nat.reduceMul,Nat.reduceLT,Nat.reduceSub,Int.reduceLT,Int.reduceLE,Int.reduceEq,Int.reduceNe,Int.reduceSub,Int.reduceAdd,Int.reduceMul,Int.reduceBEq,Int.reduceBNe,Int.reduceGT,Int.reduceGE,Nat.reduceGT,Int.reduceToNat,Int.reduceNeg,Nat.reduceLeDiff,Nat.reduceBEq,Nat.reduceBneDiff, g0, g1]
  · simp -implicitDefEqProofs only [zA,reduceIte,reduceCtorEq,Nat.reduceEqDiff,Nat.reduceAdd,Nat.reduceMul,Nat.reduceLT,Nat.reduceSub,Int.reduceLT,Int.reduceLE,Int.reduceEq,Int.reduceNe,Int.reduceSub,Int.reduceAdd,Int.reduceMul,Int.reduceBEq,Int.reduceBNe,Int.reduceGT,Int.reduceGE,Nat.reduceGT,Int.reduceToNat,Int.reduceNeg,Nat.reduceLeDiff,Nat.reduceBEq,Nat.reduceBneDiff, g0, false_and]
end Go.Bb
/- Slices of bytes. -/
namespace Go.Bb
set_option linter.unusedSimpArgs false
set_option linter.unusedVariables false

abbrev SlB (h : Heap) (v : Value) (l : List UInt8) : Prop := Sl h 1 v l.length (l.map u8V)
abbrev OwB (h0 h : Heap) (v : Value) (l : List UInt8) : Prop := Ow h0 h 1 v l.length (l.map u8V)
theorem one_u8 (l : List UInt8) : (l.map u8V).all one = true := by simp [u8V, one]
theorem wrapI {n : Int} (h0 : -9223372036854775808 ≤ n) (h1 : n ≤ 9223372036854775807) : IntKind.i64.wrap n = n := by
  simp [IntKind.wrap, IntKind.bits, IntKind.signed]; omega
theorem wrapN {n : Nat} (h1 : n ≤ 9223372036854775806) : IntKind.i64.wrap ((n : Int) + 1) = ((n + 1 : Nat) : Int) := by rw [wrapI (by omega) (by omega)]; rfl

/-- A byte of a slice. -/
theorem Sl.byte_at {h : Heap} {v : Value} {l : List UInt8} (s : SlB h v l) (j : Nat) (hj : j < l.length) :
    ∃ b o c, v = .slice (some ⟨b, o, none⟩) l.length c ∧ l.length ≤ c ∧ ∀ H, h.le H → hcell H ⟨b, o + j, none⟩ = some (u8V l[j]) := by
  obtain ⟨b, o, c, hv, hc, hcl⟩ := s.ptr (by omega) (by omega)
  refine ⟨b, o, c, hv, hc, fun H hle => ?_⟩
  rw [Nat.mul_one] at hcl
  rw [hcell_of (hcells_le hle hcl) j hj]
  simp [hj]
end Go.Bb
/- Arguments: bytes and words. -/
namespace Go.Bb
set_option linter.unusedSimpArgs false
set_option linter.unusedVariables false

theorem flatMap_single {α β : Type} (f : α → β) : ∀ L : List α, (L.flatMap fun x => [f x]) = L.map f
  | [] => rfl
  | x :: L => by simp [flatMap_single f L]
theorem u8V_of {n : Int} (h0 : 0 ≤ n) (h1 : n ≤ 255) : u8V (UInt8.ofNat n.toNat) = .int .u8 n := by
  unfold u8V
  have : (UInt8.ofNat n.toNat).toNat = n.toNat := by rw [UInt8.toNat_ofNat']; omega
  rw [this]; congr 1; omega
theorem ok_bytes {W : World} {v : Value} (h : Shp.ok W (.slice 1 (.int .u8)) v) : ∃ l : List UInt8, SlB (roHeap W) v l ∧ l.length ≤ 9223372036854775807 := by
  obtain ⟨L, h1, h2, h3⟩ := Shp.ok_rows (f := fun b : UInt8 => [u8V b]) (Pr := fun _ => True) (fun _ => rfl) (fun l hl => by
    obtain ⟨n, rfl, a, b⟩ := hl
    exact ⟨UInt8.ofNat n.toNat, by rw [u8V_of (by simpa [IntKind.min, IntKind.signed] using a) (by simpa [IntKind.max, IntKind.signed, IntKind.bits] using b)], trivial⟩) h
  refine ⟨L, ?_, h2⟩
  rw [flatMap_single] at h1
  exact h1
end Go.Bb
namespace Go.Bb
end Go.Bb
/- Rows of bytes, compared. -/
namespace Go.Bb
set_option linter.unusedSimpArgs false
set_option linter.unusedVariables false
set_option maxRecDepth 20000

theorem leaves_u8 : ∀ l : List UInt8, leavesOk (List.replicate l.length (some IntKind.u8)) (l.map u8V) = true
  | [] => rfl
  | b :: l => by
      have := leaves_u8 l
      rw [List.length_cons, List.replicate_succ, List.map_cons, leavesOk, this, Bool.and_true]
      rfl
theorem leavesEq_u8 : ∀ l : List UInt8, leavesEq (l.map u8V) (l.map u8V) = true
  | [] => rfl
  | b :: l => by
      have := leavesEq_u8 l
      rw [List.map_cons, leavesEq, this, Bool.and_true]
      simp [u8V, leafEq]

theorem leavesEq_dec : ∀ l m : List UInt8, l.length = m.length → leavesEq (l.map u8V) (m.map u8V) = decide (l = m)
  | [], [], _ => rfl
  | [], _ :: _, h => by simp at h
  | _ :: _, [], h => by simp at h
  | a :: l, b :: m, h => by
      have := leavesEq_dec l m (by simpa using h)
      simp only [List.map_cons, leavesEq, this, u8V, leafEq]
      by_cases e : a = b
      · subst e; simp
      · have : ¬ (a.toNat : Int) = b.toNat := fun q => e (UInt8.toNat_inj.1 (by omega))
        simp [this, e]
end Go.Bb
/- Slices of bytes, rows of bytes, slices of slices: what all contracts share. -/
namespace Go.Bb
set_option linter.unusedSimpArgs false
set_option linter.unusedVariables false

/-- A part of a slice, from a place to a place. -/
theorem Sl.midB {h : Heap} {base : Option Addr} {c a b : Nat} {l : List UInt8} (s : SlB h (.slice base l.length c) l) (hab : a ≤ b) (hb : b ≤ l.length) : SlB h (.slice (if c = a then base else base.map fun x => x.add a) (b - a) (c - a)) ((l.drop a).take (b - a)) := by
  have s1 := Sl.post s (k := a) (by omega)
  simp only [Nat.mul_one] at s1
  have s2 := Sl.pre s1 (k := b - a) (by omega)
  rw [Nat.mul_one, ← List.map_drop, ← List.map_take] at s2
  have e : ((l.drop a).take (b - a)).length = b - a := by simp; omega
  unfold SlB
  rw [e]; exact s2
theorem Ow.off {h0 h : Heap} {bs : Nat} {X : Blk} {size n : Nat} {v : Value} {cells : List Value} (s : Ow (h0.set bs X) h size v n cells) (X' : Blk) : Ow (h0.set bs X') h size v n cells := by
  rcases s with s | ⟨b, o, c, sz, st, pre, rest, h1, h2, h3, h4⟩
  · exact .inl s
  · obtain ⟨g1, g2⟩ := Heap.set_none.1 h3
    exact .inr ⟨b, o, c, sz, st, pre, rest, h1, h2, Heap.set_none.2 ⟨g1, g2⟩, h4⟩
theorem Ow.put {h0 h : Heap} {bs : Nat} {X : Blk} {size n : Nat} {v : Value} {cells : List Value} (s : Ow (h0.set bs X) h size v n cells) (Y : Blk) : Ow (h0.set bs X) (h.set bs Y) size v n cells := by
  rcases s with s | ⟨b, o, c, sz, st, pre, rest, h1, h2, h3, h4, h5⟩
  · exact .inl s
  · obtain ⟨g1, g2⟩ := Heap.set_none.1 h3
    exact .inr ⟨b, o, c, sz, st, pre, rest, h1, h2, h3, by rw [Heap.set_ne g1]; exact h4, h5⟩
theorem Ow.post {h0 h : Heap} {size b o n c : Nat} {cells : List Value} (s : Ow h0 h size (.slice (some ⟨b, o, none⟩) n c) n cells) {k : Nat} (hk : k ≤ n) :
    Ow h0 h size (.slice (if c = k then some ⟨b, o, none⟩ else some (Addr.add ⟨b, o, none⟩ (k * size))) (n - k) (c - k)) (n - k) (cells.drop (k * size)) := by
  by_cases hck : c = k
  · rw [if_pos hck]
    rcases s with ⟨e, _, _⟩ | ⟨b', o', c', sz, st, pre, rest, h1, h2, h3, h4, h5, h6, h7⟩
    · cases e
    · simp only [Value.slice.injEq, Option.some.injEq, Addr.mk.injEq, and_true, true_and] at h1
      obtain ⟨⟨rfl, rfl⟩, rfl⟩ := h1
      have hnk : n = k := by omega
      subst hnk
      refine .inr ⟨b, o, c - n, sz, st, pre, cells ++ rest, rfl, by omega, h3, ?_, h5, ?_, ?_⟩
      · rw [List.drop_eq_nil_of_le (by omega), List.append_nil, ← List.append_assoc]; exact h4
      · rw [List.drop_eq_nil_of_le (by omega)]; simp
      · have : (c - n) * size ≤ c * size := Nat.mul_le_mul_right _ (by omega)
        omega
  · rw [if_neg hck, add_off']
    exact Ow.drop s hk
theorem Sl.headB {h : Heap} {base : Option Addr} {c m : Nat} {l : List UInt8} (s : SlB h (.slice base l.length c) l) (hm : m ≤ l.length) : SlB h (.slice base m c) (l.take m) := by
  have := Sl.pre s hm
  rw [Nat.mul_one, ← List.map_take] at this
  have e : (l.take m).length = m := by rw [List.length_take]; omega
  unfold SlB
  rw [e]; exact this
theorem Ow.apart {h0 h : Heap} {bs : Nat} {y X : Blk} {size n : Nat} {v : Value} {cells : List Value} (s : Ow h0 h size v n cells) (hb : h0 bs = some y) : Sl (h.set bs X) size v n cells := by
  have s2 : Ow h0 (h.set bs X) size v n cells := by
    rcases s with s | ⟨b, o, c, sz, st, pre, rest, h1, h2, h3, h4, h5⟩
    · exact .inl s
    · exact .inr ⟨b, o, c, sz, st, pre, rest, h1, h2, h3, by rw [Heap.set_ne (by intro e; subst e; rw [hb] at h3; cases h3)]; exact h4, h5⟩
  exact s2.sl
/-- A slice of slices of bytes. -/
def SlL (h : Heap) (v : Value) (L : List (List UInt8)) : Prop := ∃ vs : List Value, vs.length = L.length ∧ Sl h 1 v L.length vs ∧ ∀ i (h1 : i < vs.length) (h2 : i < L.length), SlB h vs[i] L[i]
theorem SlL.le {h h' : Heap} {v : Value} {L : List (List UInt8)} (x : h.le h') (s : SlL h v L) : SlL h' v L := by
  obtain ⟨vs, h1, h2, h3⟩ := s
  exact ⟨vs, h1, h2.le x, fun i a b => (h3 i a b).le x⟩
def row8 (f : Nat → UInt8) (n : Nat) : List Value := (List.range n).map fun j => .int .u8 (f j).toNat
theorem row8_len (f : Nat → UInt8) (n : Nat) : (row8 f n).length = n := by simp [row8]
theorem row8_get (f : Nat → UInt8) {n j : Nat} (h : j < (row8 f n).length) : (row8 f n)[j] = .int .u8 (f j).toNat := by simp [row8]
theorem row8_congr {f g : Nat → UInt8} {n : Nat} (h : ∀ j, j < n → f j = g j) : row8 f n = row8 g n := by
  unfold row8
  apply List.map_congr_left
  intro j hj
  rw [h j (List.mem_range.1 hj)]
theorem row8_list (l : List UInt8) : row8 (fun j => l.getD j 0) l.length = l.map u8V := by
  apply List.ext_getElem
  · simp [row8]
  · intro j h1 h2
    rw [row8_get]
    have : j < l.length := by simpa using h2
    simp [u8V, this]
theorem row8_set (f : Nat → UInt8) (n i : Nat) (z : UInt8) : (row8 f n).set i (.int .u8 z.toNat) = row8 (fun j => if j = i then z else f j) n := by
  apply List.ext_getElem
  · simp [row8]
  · intro j h1 h2
    rw [List.getElem_set, row8_get, row8_get]
    by_cases e : i = j
    · subst e; simp
    · rw [if_neg e]; simp [Ne.symm e]
theorem row8_at {H : Heap} {b n j sz : Nat} {f : Nat → UInt8} (h : H b = some (.own 0 (row8 f n) sz)) (hj : j < n) : hcell H ⟨b, j, none⟩ = some (.int .u8 (f j).toNat) := by
  rw [hcell_at h (by rw [row8_len]; exact hj), row8_get]
theorem row8_store {H : Heap} {b n j : Nat} {f : Nat → UInt8} {z : UInt8} (h : H b = some (.own 0 (row8 f n) n)) (hj : j < n) : storeV H 1 (.pointer (some ⟨b, j, none⟩)) (.int .u8 z.toNat) = some (H.set b (.own 0 (row8 (fun k => if k = j then z else f k) n) n)) := by
  rw [storeV_one_at h rfl (by rw [row8_len]; exact hj) (by rw [row8_len]; omega), row8_set]
theorem SlL.one {h : Heap} {v : Value} {L : List (List UInt8)} (s : SlL h v L) : ∃ vs : List Value, vs.length = L.length ∧ Sl h 1 v L.length vs ∧ vs.all one = true ∧ ∀ i (h1 : i < vs.length) (h2 : i < L.length), SlB h vs[i] L[i] := by
  obtain ⟨vs, h1, h2, h3⟩ := s
  refine ⟨vs, h1, h2, ?_, h3⟩
  rw [List.all_eq_true]
  intro u hu
  obtain ⟨i, hi, rfl⟩ := List.getElem_of_mem hu
  obtain ⟨base, c, e⟩ := Sl.shape (h3 i hi (by omega))
  rw [e]; rfl
theorem SlL.cons {h : Heap} {v w : Value} {l : List UInt8} {L : List (List UInt8)} {vs : List Value} (h1 : vs.length = L.length) (h3 : ∀ i (h1 : i < vs.length) (h2 : i < L.length), SlB h vs[i] L[i]) (sw : SlB h w l) (s : Sl h 1 v (L.length + 1) (w :: vs)) : SlL h v (l :: L) := by
  refine ⟨w :: vs, by simp [h1], s, ?_⟩
  intro i a b
  cases i with
  | zero => exact sw
  | succ i => exact h3 i (by simpa using a) (by simpa using b)
theorem own_sl {H : Heap} {b : Nat} {l : List UInt8} {sz : Nat} (h : H b = some (.own 0 (l.map u8V) sz)) : SlB H (.slice (some ⟨b, 0, none⟩) l.length l.length) l :=
  .inr ⟨⟨b, 0, none⟩, l.length, rfl, Nat.le_refl _, by rw [hcells_at h (by simp)]; simp [List.take_of_length_le]⟩
theorem addz (b o : Nat) : Addr.add ⟨b, o, none⟩ 0 = ⟨b, o, none⟩ := by unfold Addr.add; simp
theorem addO (x : Option Addr) (c : Nat) (h : ∀ a, x = some a → Addr.add a 0 = a) : (if c = 0 then x else x.map fun a => a.add 0) = x := by
  split
  · rfl
  · cases x with
    | none => rfl
    | some a => simp [h a rfl]
theorem addr_add0 (a : Addr) : Addr.add a 0 = a := by unfold Addr.add; simp
theorem le_sets {h0 h : Heap} (x : h0.le h) (b : Nat) (X : Blk) : (h0.set b X).le (h.set b X) := by
  intro c y hc
  by_cases e : c = b
  · subst e; rw [Heap.set_self] at hc ⊢; exact hc
  · rw [Heap.set_ne e] at hc ⊢; exact x c y hc
end Go.Bb
/- Contracts: rings of keys. -/
namespace Go.Bb
set_option linter.unusedSimpArgs false
set_option linter.unusedVariables false
set_option maxRecDepth 20000
set_option maxHeartbeats 2000000

abbrev RL := List (Int × List UInt8)
def EntR (es : List MapEntry) (L : RL) : Prop := es.map (fun e => (e.key, e.val)) = L.map fun x => (Value.int .i64 x.1, Value.agg (x.2.map u8V).toArray)
def getK (L : RL) (k : Int) : Option (List UInt8) := (L.find? fun x => decide (x.1 = k)).map (·.2)
theorem find_none {k : Int} : ∀ {es : List MapEntry} {L : RL} (i : Nat), EntR es L → getK L k = none → findV .int (.int .i64 k) es i = some none
  | [], _, _, _, _ => rfl
  | e :: es, [], i, h, _ => by simp [EntR] at h
  | e :: es, x :: L, i, h, hn => by
      simp only [EntR, List.map_cons, List.cons.injEq, Prod.mk.injEq] at h
      obtain ⟨⟨h1, h2⟩, h3⟩ := h
      have hx : ¬ x.1 = k := by
        intro q
        simp [getK, List.find?_cons, q] at hn
      have hn' : getK L k = none := by
        unfold getK at hn ⊢
        rw [List.find?_cons] at hn
        simpa [hx] using hn
      have hk : keyV .int (.int .i64 k) e.key = some false := by
        rw [h1]; simp [keyV]; omega
      unfold findV
      rw [hk]
      exact find_none (i + 1) h3 hn'
theorem find_some {k : Int} {w : List UInt8} : ∀ {es : List MapEntry} {L : RL} (i : Nat), EntR es L → getK L k = some w → ∃ j, findV .int (.int .i64 k) es i = some (some (j, .agg (w.map u8V).toArray))
  | [], [], _, _, hs => by simp [getK] at hs
  | [], _ :: _, _, h, _ => by simp [EntR] at h
  | e :: es, [], i, h, _ => by simp [EntR] at h
  | e :: es, x :: L, i, h, hs => by
      simp only [EntR, List.map_cons, List.cons.injEq, Prod.mk.injEq] at h
      obtain ⟨⟨h1, h2⟩, h3⟩ := h
      by_cases hx : x.1 = k
      · have hk : keyV .int (.int .i64 k) e.key = some true := by
          rw [h1]; simp [keyV]; omega
        have hw : x.2 = w := by
          unfold getK at hs
          rw [List.find?_cons] at hs
          simpa [hx] using hs
        unfold findV
        rw [hk]
        exact ⟨i, by rw [h2, hw]⟩
      · have hs' : getK L k = some w := by
          unfold getK at hs ⊢
          rw [List.find?_cons] at hs
          simpa [hx] using hs
        have hk : keyV .int (.int .i64 k) e.key = some false := by
          rw [h1]; simp [keyV]; omega
        unfold findV
        rw [hk]
        exact find_some (i + 1) h3 hs'
/-- A ring at its place. -/
def RingR (h0 H : Heap) (p : Value) (L : RL) : Prop :=
  ∃ b r es c, p = .pointer (some ⟨b, 0, none⟩) ∧ h0 b = none ∧ h0 r = none ∧ b ≠ r ∧ H b = some (.own 0 [.map (some r)] 1) ∧ H r = some (.obj (.map es c)) ∧ EntR es.toList L
theorem RingR.le {h0 H H' : Heap} {p : Value} {L : RL} (x : RingR h0 H p L) (le : H.le H') : RingR h0 H' p L := by
  obtain ⟨b, r, es, c, h1, h2, h3, h4, h5, h6, h7⟩ := x
  exact ⟨b, r, es, c, h1, h2, h3, h4, le _ _ h5, le _ _ h6, h7⟩
theorem EntR.len {es : List MapEntry} {L : RL} (h : EntR es L) : es.length = L.length := by
  have := congrArg List.length h
  simpa using this
def putF (L : RL) (k : Int) (w : List UInt8) : RL × Nat :=
  if 0 ≤ k ∧ k ≤ 1099511627776 then
    match getK L k with
    | some old => if old = w then (L, 0) else (L, 5)
    | none => if 500 ≤ L.length then (L, 2) else (L ++ [(k, w)], 0)
  else (L, 1)
theorem kfit_int (k : Int) : keyFit .int (.int .i64 k) = some () := rfl

theorem epoch_New_c (E : EnvT tab) (h : Heap) : ACallN E.toEnv n_epoch_New [] h fun r h' => h.le h' ∧ RingR h h' r [] := by
  refine acall h_epoch_New ir_epoch_New rfl rfl (wpA_sound ?_)
  unfold ir_epoch_New
  simp -implicitDefEqProofs only [zA,reduceIte,reduceCtorEq,Nat.reduceEqDiff,Nat.reduceAdd,Nat.reduceMul,Nat.reduceLT,Nat.reduceSub,Int.reduceLT,Int.reduceLE,Int.reduceEq,Int.reduceNe,Int.reduceSub,Int.reduceAdd,Int.reduceMul,Int.reduceBEq,Int.reduceBNe,Int.reduceGT,Int.reduceGE,Nat.reduceGT,Int.reduceToNat,Int.reduceNeg,Nat.reduceLeDiff,Nat.reduceBEq,Nat.reduceBneDiff]
  intro r hr
  try simp -implicitDefEqProofs only [zA,reduceIte,reduceCtorEq,Nat.reduceEqDiff,Nat.reduceAdd,Nat.reduceMul,Nat.reduceLT,Nat.reduceSub,Int.reduceLT,Int.reduceLE,Int.reduceEq,Int.reduceNe,Int.reduceSub,Int.reduceAdd,Int.reduceMul,Int.reduceBEq,Int.reduceBNe,Int.reduceGT,Int.reduceGE,Nat.reduceGT,Int.reduceToNat,Int.reduceNeg,Nat.reduceLeDiff,Nat.reduceBEq,Nat.reduceBneDiff]
  intro b hb
  try simp -implicitDefEqProofs only [zA,reduceIte,reduceCtorEq,Nat.reduceEqDiff,Nat.reduceAdd,Nat.reduceMul,Nat.reduceLT,Nat.reduceSub,Int.reduceLT,Int.reduceLE,Int.reduceEq,Int.reduceNe,Int.reduceSub,Int.reduceAdd,Int.reduceMul,Int.reduceBEq,Int.reduceBNe,Int.reduceGT,Int.reduceGE,Nat.reduceGT,Int.reduceToNat,Int.reduceNeg,Nat.reduceLeDiff,Nat.reduceBEq,Nat.reduceBneDiff]
  have ne : b ≠ r := by intro e; subst e; rw [Heap.set_self] at hb; cases hb
  have hb' : h b = none := by rw [Heap.set_ne ne] at hb; exact hb
  refine ⟨Heap.le_new (Heap.le_set (Heap.le_refl _) hr _) hb _, b, r, #[], 0, rfl, hb', hr, ne, Heap.set_self _ _ _, by rw [Heap.set_ne ne.symm, Heap.set_self], rfl⟩
theorem epoch_Get_c (E : EnvT tab) {h0 H : Heap} (leH : h0.le H) {p : Value} {L : RL} (R : RingR h0 H p L) (hL : ∀ x ∈ L, x.2.length = 32) (k : Int) :
    ACallN E.toEnv n_epoch_Ring_Get [p, .int .i64 k] H fun r h' => H.le h' ∧ r = .tuple #[.agg (((getK L k).getD (List.replicate 32 0)).map u8V).toArray, .bool (getK L k).isSome] := by
  obtain ⟨b, r, es, c, rfl, hb, hr, ne, qb, qr, er⟩ := R
  refine acall h_epoch_Ring_Get ir_epoch_Ring_Get rfl rfl (wpA_sound ?_)
  unfold ir_epoch_Ring_Get
  simp -implicitDefEqProofs only [zA,reduceIte,reduceCtorEq,Nat.reduceEqDiff,Nat.reduceAdd,Nat.reduceMul,Nat.reduceLT,Nat.reduceSub,Int.reduceLT,Int.reduceLE,Int.reduceEq,Int.reduceNe,Int.reduceSub,Int.reduceAdd,Int.reduceMul,Int.reduceBEq,Int.reduceBNe,Int.reduceGT,Int.reduceGE,Nat.reduceGT,Int.reduceToNat,Int.reduceNeg,Nat.reduceLeDiff,Nat.reduceBEq,Nat.reduceBneDiff]
  intro b4 hb4
  try simp -implicitDefEqProofs only [zA,reduceIte,reduceCtorEq,Nat.reduceEqDiff,Nat.reduceAdd,Nat.reduceMul,Nat.reduceLT,Nat.reduceSub,Int.reduceLT,Int.reduceLE,Int.reduceEq,Int.reduceNe,Int.reduceSub,Int.reduceAdd,Int.reduceMul,Int.reduceBEq,Int.reduceBNe,Int.reduceGT,Int.reduceGE,Nat.reduceGT,Int.reduceToNat,Int.reduceNeg,Nat.reduceLeDiff,Nat.reduceBEq,Nat.reduceBneDiff, List.length_replicate]
  have le4 : H.le (H.set b4 (.own 0 (List.replicate 32 (.int .u8 0)) 32)) := Heap.le_set (Heap.le_refl _) hb4 _
  have q4 : (H.set b4 (.own 0 (List.replicate 32 (.int .u8 0)) 32)) b4 = some (.own 0 (List.replicate 32 (.int .u8 0)) 32) := Heap.set_self _ _ _
  have qb := le4 _ _ qb
  have qr := le4 _ _ qr
  generalize (H.set b4 (.own 0 (List.replicate 32 (.int .u8 0)) 32)) = h1 at le4 q4 qb qr ⊢
  have cb : hcell h1 ⟨b, 0, none⟩ = some (.map (some r)) := by rw [hcell_at qb (by simp)]; rfl
  have ma : mapAt h1 r = some (es, c) := by simp [mapAt, qr]
  have zr : List.replicate 32 (Value.int .u8 0) = (List.replicate 32 (0 : UInt8)).map u8V := by rw [List.map_replicate]; rfl
  have stA : ∀ (b : Nat) (l : List Value), l.length = 32 → l.all one = true → storeV (h1.set b (.own 0 (List.replicate 32 (.int .u8 0)) 32)) 32 (.pointer (some ⟨b, 0, none⟩)) (.agg l.toArray) = some (h1.set b (.own 0 l 32)) := fun b l hl ho => z6z (by omega) (by simp [hl]) ho (by simp) (by omega)
  have stB : ∀ (G : Heap) (l : List Value), h1.le G → l.length = 32 → l.all one = true → storeV G 32 (.pointer (some ⟨b4, 0, none⟩)) (.agg l.toArray) = some (G.set b4 (.own 0 l 32)) := fun G l x hl ho => storeV_agg_at (x _ _ q4) (by omega) hl ho (by simp) (by omega)
  have ld : ∀ (G : Heap) (b : Nat) (l : List Value), l.length = 32 → hcells (G.set b (.own 0 l 32)) ⟨b, 0, none⟩ 32 = some l := fun G b l hl => z6x (by simp [hl])
  have zl : (List.replicate 32 (Value.int .u8 0)).length = 32 := by simp
  have zo : (List.replicate 32 (Value.int .u8 0)).all one = true := by rw [zr]; exact one_u8 _
  have hb4H : ∀ (G : Heap) Y, H.le G → H.le (G.set b4 Y) := fun G Y x => Heap.le_set x hb4 Y
  cases hg : getK L k with
  | none =>
    have fv := find_none 0 er hg
    simp -implicitDefEqProofs only [zA,reduceIte,reduceCtorEq,Nat.reduceEqDiff,Nat.reduceAdd,Nat.reduceMul,Nat.reduceLT,Nat.reduceSub,Int.reduceLT,Int.reduceLE,Int.reduceEq,Int.reduceNe,Int.reduceSub,Int.reduceAdd,Int.reduceMul,Int.reduceBEq,Int.reduceBNe,Int.reduceGT,Int.reduceGE,Nat.reduceGT,Int.reduceToNat,Int.reduceNeg,Nat.reduceLeDiff,Nat.reduceBEq,Nat.reduceBneDiff, cb, ma, fv, kfit_int]
    intro b6 hb6
    rw [zl]
    have s1 := stA b6 _ zl zo
    have le6 := Heap.le_set (Heap.le_refl h1) hb6 (.own 0 (List.replicate 32 (.int .u8 0)) 32)
    have s2 := stB _ _ le6 zl zo
    have l1 := ld h1 b6 _ zl
    have l2 := ld (h1.set b6 (.own 0 (List.replicate 32 (.int .u8 0)) 32)) b4 _ zl
    simp -implicitDefEqProofs only [zA,reduceIte,reduceCtorEq,Nat.reduceEqDiff,Nat.reduceAdd,Nat.reduceMul,Nat.reduceLT,Nat.reduceSub,Int.reduceLT,Int.reduceLE,Int.reduceEq,Int.reduceNe,Int.reduceSub,Int.reduceAdd,Int.reduceMul,Int.reduceBEq,Int.reduceBNe,Int.reduceGT,Int.reduceGE,Nat.reduceGT,Int.reduceToNat,Int.reduceNeg,Nat.reduceLeDiff,Nat.reduceBEq,Nat.reduceBneDiff, s1, s2, l1, l2]
    exact ⟨hb4H _ _ (Heap.le_trans le4 le6), by rw [zr]; rfl⟩
  | some w =>
    obtain ⟨j, fv⟩ := find_some 0 er hg
    have hw : w.length = 32 := by
      unfold getK at hg
      obtain ⟨x, hx, rfl⟩ := Option.map_eq_some_iff.1 hg
      exact hL x (List.mem_of_find?_eq_some hx)
    have wl : (w.map u8V).length = 32 := by simp [hw]
    have wo := one_u8 w
    simp -implicitDefEqProofs only [zA,reduceIte,reduceCtorEq,Nat.reduceEqDiff,Nat.reduceAdd,Nat.reduceMul,Nat.reduceLT,Nat.reduceSub,Int.reduceLT,Int.reduceLE,Int.reduceEq,Int.reduceNe,Int.reduceSub,Int.reduceAdd,Int.reduceMul,Int.reduceBEq,Int.reduceBNe,Int.reduceGT,Int.reduceGE,Nat.reduceGT,Int.reduceToNat,Int.reduceNeg,Nat.reduceLeDiff,Nat.reduceBEq,Nat.reduceBneDiff, cb, ma, fv, kfit_int]
    intro b6 hb6
    rw [zl]
    have s1 := stA b6 _ wl wo
    have le6 := Heap.le_set (Heap.le_refl h1) hb6 (.own 0 (w.map u8V) 32)
    have s2 := stB _ _ le6 wl wo
    have l1 := ld h1 b6 _ wl
    have l2 := ld (h1.set b6 (.own 0 (w.map u8V) 32)) b4 _ wl
    simp -implicitDefEqProofs only [zA,reduceIte,reduceCtorEq,Nat.reduceEqDiff,Nat.reduceAdd,Nat.reduceMul,Nat.reduceLT,Nat.reduceSub,Int.reduceLT,Int.reduceLE,Int.reduceEq,Int.reduceNe,Int.reduceSub,Int.reduceAdd,Int.reduceMul,Int.reduceBEq,Int.reduceBNe,Int.reduceGT,Int.reduceGE,Nat.reduceGT,Int.reduceToNat,Int.reduceNeg,Nat.reduceLeDiff,Nat.reduceBEq,Nat.reduceBneDiff, s1, s2, l1, l2]
    exact ⟨hb4H _ _ (Heap.le_trans le4 le6), rfl⟩

theorem epoch_Put_c (E : EnvT tab) {h0 H : Heap} (leH : h0.le H) {p : Value} {L : RL} (R : RingR h0 H p L) (hL : ∀ x ∈ L, x.2.length = 32) (k : Int) (w : List UInt8) (hw : w.length = 32) :
    ACallN E.toEnv n_epoch_Ring_Put [p, .int .i64 k, .agg (w.map u8V).toArray] H fun r h' => h0.le h' ∧ r = .int .i64 ((putF L k w).2 : Nat) ∧ RingR h0 h' p (putF L k w).1 := by
  obtain ⟨b, r, es, c, rfl, hb, hr, ne, qb, qr, er⟩ := R
  refine acall h_epoch_Ring_Put ir_epoch_Ring_Put rfl rfl (wpA_sound ?_)
  unfold ir_epoch_Ring_Put
  have wl : (w.map u8V).length = 32 := by simp [hw]
  simp -implicitDefEqProofs only [zA,reduceIte,reduceCtorEq,Nat.reduceEqDiff,Nat.reduceAdd,Nat.reduceMul,Nat.reduceLT,Nat.reduceSub,Int.reduceLT,Int.reduceLE,Int.reduceEq,Int.reduceNe,Int.reduceSub,Int.reduceAdd,Int.reduceMul,Int.reduceBEq,Int.reduceBNe,Int.reduceGT,Int.reduceGE,Nat.reduceGT,Int.reduceToNat,Int.reduceNeg,Nat.reduceLeDiff,Nat.reduceBEq,Nat.reduceBneDiff]
  intro b5 hb5
  try simp -implicitDefEqProofs only [zA,reduceIte,reduceCtorEq,Nat.reduceEqDiff,Nat.reduceAdd,Nat.reduceMul,Nat.reduceLT,Nat.reduceSub,Int.reduceLT,Int.reduceLE,Int.reduceEq,Int.reduceNe,Int.reduceSub,Int.reduceAdd,Int.reduceMul,Int.reduceBEq,Int.reduceBNe,Int.reduceGT,Int.reduceGE,Nat.reduceGT,Int.reduceToNat,Int.reduceNeg,Nat.reduceLeDiff,Nat.reduceBEq,Nat.reduceBneDiff, wl]
  have le5 : H.le (H.set b5 (.own 0 (w.map u8V) 32)) := Heap.le_set (Heap.le_refl _) hb5 _
  have q5 : (H.set b5 (.own 0 (w.map u8V) 32)) b5 = some (.own 0 (w.map u8V) 32) := Heap.set_self _ _ _
  have qb := le5 _ _ qb
  have qr := le5 _ _ qr
  have leH := Heap.le_trans leH le5
  generalize (H.set b5 (.own 0 (w.map u8V) 32)) = h1 at leH q5 qb qr ⊢
  refine (epoch_good_c E h1 k).mono ?_
  rintro rr h3 ⟨e3, rfl⟩
  obtain rfl := e3.symm
  have zl : (List.replicate 32 (Value.int .u8 0)).length = 32 := by simp
  have cb : ∀ G, h1.le G → hcell G ⟨b, 0, none⟩ = some (.map (some r)) := fun G x => by rw [hcell_at (x _ _ qb) (by simp)]; rfl
  have cb1 := cb h1 (Heap.le_refl _)
  have ma : ∀ G, h1.le G → mapAt G r = some (es, c) := fun G x => by simp [mapAt, x _ _ qr]
  have ma1 := ma h1 (Heap.le_refl _)
  have c5 : ∀ G, h1.le G → hcells G ⟨b5, 0, none⟩ 32 = some (w.map u8V) := fun G x => by rw [hcells_at (x _ _ q5) (by simp [hw])]; simp [List.take_of_length_le, hw]
  have stA : ∀ (b : Nat) (l : List Value), l.length = 32 → l.all one = true → storeV (h1.set b (.own 0 (List.replicate 32 (.int .u8 0)) 32)) 32 (.pointer (some ⟨b, 0, none⟩)) (.agg l.toArray) = some (h1.set b (.own 0 l 32)) := fun b l hl ho => z6z (by omega) (by simp [hl]) ho (by simp) (by omega)
  have ld : ∀ (G : Heap) (b : Nat) (l : List Value), l.length = 32 → hcells (G.set b (.own 0 l 32)) ⟨b, 0, none⟩ 32 = some l := fun G b l hl => z6x (by simp [hl])
  have keep : ∀ G, h1.le G → RingR h0 G (.pointer (some ⟨b, 0, none⟩)) L := fun G x => ⟨b, r, es, c, rfl, hb, hr, ne, x _ _ qb, x _ _ qr, er⟩
  by_cases g : 0 ≤ k ∧ k ≤ 1099511627776
  · unfold putF
    rw [if_pos g]
    cases hg : getK L k with
    | none =>
      have fv := find_none 0 er hg
      simp -implicitDefEqProofs only [zA,reduceIte,reduceCtorEq,Nat.reduceEqDiff,Nat.reduceAdd,Nat.reduceMul,Nat.reduceLT,Nat.reduceSub,Int.reduceLT,Int.reduceLE,Int.reduceEq,Int.reduceNe,Int.reduceSub,Int.reduceAdd,Int.reduceMul,Int.reduceBEq,Int.reduceBNe,Int.reduceGT,Int.reduceGE,Nat.reduceGT,Int.reduceToNat,Int.reduceNeg,Nat.reduceLeDiff,Nat.reduceBEq,Nat.reduceBneDiff, g]
      unfold ir_epoch_Ring_Put_13
      simp -implicitDefEqProofs only [zA,reduceIte,reduceCtorEq,Nat.reduceEqDiff,Nat.reduceAdd,Nat.reduceMul,Nat.reduceLT,Nat.reduceSub,Int.reduceLT,Int.reduceLE,Int.reduceEq,Int.reduceNe,Int.reduceSub,Int.reduceAdd,Int.reduceMul,Int.reduceBEq,Int.reduceBNe,Int.reduceGT,Int.reduceGE,Nat.reduceGT,Int.reduceToNat,Int.reduceNeg,Nat.reduceLeDiff,Nat.reduceBEq,Nat.reduceBneDiff, cb1, ma1, fv, kfit_int]
      intro b7 hb7
      rw [zl]
      have zo : (List.replicate 32 (Value.int .u8 0)).all one = true := by
        have zr : List.replicate 32 (Value.int .u8 0) = (List.replicate 32 (0 : UInt8)).map u8V := by rw [List.map_replicate]; rfl
        rw [zr]; exact one_u8 _
      have s1 := stA b7 _ zl zo
      simp -implicitDefEqProofs only [zA,reduceIte,reduceCtorEq,Nat.reduceEqDiff,Nat.reduceAdd,Nat.reduceMul,Nat.reduceLT,Nat.reduceSub,Int.reduceLT,Int.reduceLE,Int.reduceEq,Int.reduceNe,Int.reduceSub,Int.reduceAdd,Int.reduceMul,Int.reduceBEq,Int.reduceBNe,Int.reduceGT,Int.reduceGE,Nat.reduceGT,Int.reduceToNat,Int.reduceNeg,Nat.reduceLeDiff,Nat.reduceBEq,Nat.reduceBneDiff, s1]
      have le7 := Heap.le_set (Heap.le_refl h1) hb7 (.own 0 (List.replicate 32 (.int .u8 0)) 32)
      generalize (h1.set b7 (.own 0 (List.replicate 32 (.int .u8 0)) 32)) = h2 at le7 ⊢
      have cb2 := cb h2 le7
      have ma2 := ma h2 le7
      have c52 := c5 h2 le7
      unfold ir_epoch_Ring_Put_25
      have el : es.size = L.length := by
        have := er.len
        simpa using this
      by_cases g5 : 500 ≤ L.length
      · have g5' : (500 : Int) ≤ (es.size : Int) := by rw [el]; omega
        simp -implicitDefEqProofs only [zA,reduceIte,reduceCtorEq,Nat.reduceEqDiff,Nat.reduceAdd,Nat.reduceMul,Nat.reduceLT,Nat.reduceSub,Int.reduceLT,Int.reduceLE,Int.reduceEq,Int.reduceNe,Int.reduceSub,Int.reduceAdd,Int.reduceMul,Int.reduceBEq,Int.reduceBNe,Int.reduceGT,Int.reduceGE,Nat.reduceGT,Int.reduceToNat,Int.reduceNeg,Nat.reduceLeDiff,Nat.reduceBEq,Nat.reduceBneDiff, cb2, ma2, g5', g5]
        exact ⟨Heap.le_trans leH le7, keep h2 le7⟩
      · have g5' : ¬ (500 : Int) ≤ (es.size : Int) := by rw [el]; omega
        have mu : mupdV h2 .int (.map (some r)) (.int .i64 k) (.agg (w.map u8V).toArray) = some (h2.set r (.obj (.map (es.push { key := .int .i64 k, val := .agg (w.map u8V).toArray, born := c }) (c + 1)))) := by
          simp only [mupdV, le7 _ _ qr, kfit_int, fv]
        simp -implicitDefEqProofs only [zA,reduceIte,reduceCtorEq,Nat.reduceEqDiff,Nat.reduceAdd,Nat.reduceMul,Nat.reduceLT,Nat.reduceSub,Int.reduceLT,Int.reduceLE,Int.reduceEq,Int.reduceNe,Int.reduceSub,Int.reduceAdd,Int.reduceMul,Int.reduceBEq,Int.reduceBNe,Int.reduceGT,Int.reduceGE,Nat.reduceGT,Int.reduceToNat,Int.reduceNeg,Nat.reduceLeDiff,Nat.reduceBEq,Nat.reduceBneDiff, cb2, ma2, g5', g5, c52, mu]
        refine ⟨Heap.le_set (Heap.le_trans leH le7) hr _, b, r, _, _, rfl, hb, hr, ne, by rw [Heap.set_ne ne]; exact le7 _ _ qb, Heap.set_self _ _ _, ?_⟩
        unfold EntR at er ⊢
        rw [Array.toList_push, List.map_append, List.map_append, er]
        rfl
    | some old =>
      obtain ⟨j, fv⟩ := find_some 0 er hg
      have ho : old.length = 32 := by
        unfold getK at hg
        obtain ⟨x, hx, rfl⟩ := Option.map_eq_some_iff.1 hg
        exact hL x (List.mem_of_find?_eq_some hx)
      have ol : (old.map u8V).length = 32 := by simp [ho]
      simp -implicitDefEqProofs only [zA,reduceIte,reduceCtorEq,Nat.reduceEqDiff,Nat.reduceAdd,Nat.reduceMul,Nat.reduceLT,Nat.reduceSub,Int.reduceLT,Int.reduceLE,Int.reduceEq,Int.reduceNe,Int.reduceSub,Int.reduceAdd,Int.reduceMul,Int.reduceBEq,Int.reduceBNe,Int.reduceGT,Int.reduceGE,Nat.reduceGT,Int.reduceToNat,Int.reduceNeg,Nat.reduceLeDiff,Nat.reduceBEq,Nat.reduceBneDiff, g]
      unfold ir_epoch_Ring_Put_13
      simp -implicitDefEqProofs only [zA,reduceIte,reduceCtorEq,Nat.reduceEqDiff,Nat.reduceAdd,Nat.reduceMul,Nat.reduceLT,Nat.reduceSub,Int.reduceLT,Int.reduceLE,Int.reduceEq,Int.reduceNe,Int.reduceSub,Int.reduceAdd,Int.reduceMul,Int.reduceBEq,Int.reduceBNe,Int.reduceGT,Int.reduceGE,Nat.reduceGT,Int.reduceToNat,Int.reduceNeg,Nat.reduceLeDiff,Nat.reduceBEq,Nat.reduceBneDiff, cb1, ma1, fv, kfit_int]
      intro b7 hb7
      rw [zl]
      have s1 := stA b7 _ ol (one_u8 old)
      simp -implicitDefEqProofs only [zA,reduceIte,reduceCtorEq,Nat.reduceEqDiff,Nat.reduceAdd,Nat.reduceMul,Nat.reduceLT,Nat.reduceSub,Int.reduceLT,Int.reduceLE,Int.reduceEq,Int.reduceNe,Int.reduceSub,Int.reduceAdd,Int.reduceMul,Int.reduceBEq,Int.reduceBNe,Int.reduceGT,Int.reduceGE,Nat.reduceGT,Int.reduceToNat,Int.reduceNeg,Nat.reduceLeDiff,Nat.reduceBEq,Nat.reduceBneDiff, s1]
      have le7 := Heap.le_set (Heap.le_refl h1) hb7 (.own 0 (old.map u8V) 32)
      have l1 := ld h1 b7 _ ol
      generalize (h1.set b7 (.own 0 (old.map u8V) 32)) = h2 at le7 l1 ⊢
      have c52 := c5 h2 le7
      have k1 := leaves_u8 old
      rw [ho] at k1
      have k2 := leaves_u8 w
      rw [hw] at k2
      have k3 := leavesEq_dec old w (by rw [ho, hw])
      by_cases e : old = w
      · subst e
        have k3 : leavesEq (old.map u8V) (old.map u8V) = true := leavesEq_u8 _
        simp -implicitDefEqProofs only [zA,reduceIte,reduceCtorEq,Nat.reduceEqDiff,Nat.reduceAdd,Nat.reduceMul,Nat.reduceLT,Nat.reduceSub,Int.reduceLT,Int.reduceLE,Int.reduceEq,Int.reduceNe,Int.reduceSub,Int.reduceAdd,Int.reduceMul,Int.reduceBEq,Int.reduceBNe,Int.reduceGT,Int.reduceGE,Nat.reduceGT,Int.reduceToNat,Int.reduceNeg,Nat.reduceLeDiff,Nat.reduceBEq,Nat.reduceBneDiff, l1, c52, k1, k2, k3]
        exact ⟨Heap.le_trans leH le7, keep h2 le7⟩
      · have k3 : leavesEq (old.map u8V) (w.map u8V) = false := by rw [k3]; simp [e]
        simp -implicitDefEqProofs only [zA,reduceIte,reduceCtorEq,Nat.reduceEqDiff,Nat.reduceAdd,Nat.reduceMul,Nat.reduceLT,Nat.reduceSub,Int.reduceLT,Int.reduceLE,Int.reduceEq,Int.reduceNe,Int.reduceSub,Int.reduceAdd,Int.reduceMul,Int.reduceBEq,Int.reduceBNe,Int.reduceGT,Int.reduceGE,Nat.reduceGT,Int.reduceToNat,Int.reduceNeg,Nat.reduceLeDiff,Nat.reduceBEq,Nat.reduceBneDiff, l1, c52, k1, k2, k3, e]
        exact ⟨Heap.le_trans leH le7, keep h2 le7⟩
  · unfold putF
    rw [if_neg g]
    simp -implicitDefEqProofs only [zA,reduceIte,reduceCtorEq,Nat.reduceEqDiff,Nat.reduceAdd,Nat.reduceMul,Nat.reduceLT,Nat.reduceSub,Int.reduceLT,Int.reduceLE,Int.reduceEq,Int.reduceNe,Int.reduceSub,Int.reduceAdd,Int.reduceMul,Int.reduceBEq,Int.reduceBNe,Int.reduceGT,Int.reduceGE,Nat.reduceGT,Int.reduceToNat,Int.reduceNeg,Nat.reduceLeDiff,Nat.reduceBEq,Nat.reduceBneDiff, g]
    exact ⟨leH, keep h1 (Heap.le_refl _)⟩


end Go.Bb
/- Contracts: the document's own rings of keys. -/
namespace Go.Bb
set_option linter.unusedSimpArgs false
set_option linter.unusedVariables false
set_option maxRecDepth 20000
set_option maxHeartbeats 2000000

def pad32 (l : List UInt8) : List UInt8 := (l ++ List.replicate 32 0).take 32
theorem pad32_len (l : List UInt8) : (pad32 l).length = 32 := by simp [pad32]
theorem pad32_eq {l : List UInt8} (h : l.length = 32) : pad32 l = l := by unfold pad32; rw [← h, List.take_left]
def cellK (x : Int × List UInt8) : List Value := .int .i64 x.1 :: (pad32 x.2).map u8V
theorem cellK_len (x : Int × List UInt8) : (cellK x).length = 33 := by simp [cellK, pad32_len]
def WG (H : Heap) (w : Nat) (L : RL) : Prop := ∃ lv, H w = some (.own 0 [lv] 1) ∧ Sl H 33 lv L.length (L.flatMap cellK)
theorem WG.le {H H' : Heap} {w : Nat} {L : RL} (x : WG H w L) (le : H.le H') : WG H' w L := by
  obtain ⟨lv, q, s⟩ := x
  exact ⟨lv, le _ _ q, s.le le⟩
theorem cellK_at {H : Heap} {base : Option Addr} {c : Nat} {L : RL} (s : Sl H 33 (.slice base L.length c) L.length (L.flatMap cellK)) (i : Nat) (hi : i < L.length) :
    ∃ b o, base = some ⟨b, o, none⟩ ∧ ∀ G, H.le G → hcell G ⟨b, o + i * 33, none⟩ = some (.int .i64 L[i].1) ∧ hcells G ⟨b, o + i * 33 + 1, none⟩ 32 = some ((pad32 L[i].2).map u8V) := by
  obtain ⟨b, o, c', hv, -, hcl⟩ := Sl.at (f := cellK) (size := 33) cellK_len s i hi (by omega)
  simp only [Value.slice.injEq, true_and] at hv
  refine ⟨b, o, hv.1, fun G le => ?_⟩
  have h := hcl G le
  have h0 := hcell_of h 0 (by omega)
  have h1 := hcells_sub h 1 32 (by omega)
  refine ⟨by rw [Nat.add_zero] at h0; rw [h0]; rfl, ?_⟩
  rw [h1]
  have : ((cellK L[i]).drop 1).take 32 = (pad32 L[i].2).map u8V := by
    unfold cellK
    rw [List.drop_succ_cons, List.drop_zero, List.take_of_length_le (by simp [pad32_len])]
  rw [this]
theorem ref_MayE_c (E : EnvT tab) (h : Heap) (n : Int) : ACallN E.toEnv n_bandboxref19_May [.int .i64 n] h fun r h' => h' = h ∧ r = .bool (decide (0 ≤ n ∧ n ≤ 1099511627776)) := by
  refine acall h_bandboxref19_May ir_bandboxref19_May rfl rfl (wpA_sound ?_)
  unfold ir_bandboxref19_May
  by_cases g0 : 0 ≤ n
  · by_cases g1 : n ≤ 1099511627776
    · simp -implicitDefEqProofs only [zA,reduceIte,reduceCtorEq,Nat.reduceEqDiff,Nat.reduceAdd,Nat.reduceMul,Nat.reduceLT,Nat.reduceSub,Int.reduceLT,Int.reduceLE,Int.reduceEq,Int.reduceNe,Int.reduceSub,Int.reduceAdd,Int.reduceMul,Int.reduceBEq,Int.reduceBNe,Int.reduceGT,Int.reduceGE,Nat.reduceGT,Int.reduceToNat,Int.reduceNeg,Nat.reduceLeDiff,Nat.reduceBEq,Nat.reduceBneDiff, g0, g1]
    · simp -implicitDefEqProofs only [zA,reduceIte,reduceCtorEq,Nat.reduceEqDiff,Nat.reduceAdd,Nat.reduceMul,Nat.reduceLT,Nat.reduceSub,Int.reduceLT,Int.reduceLE,Int.reduceEq,Int.reduceNe,Int.reduceSub,Int.reduceAdd,Int.reduceMul,Int.reduceBEq,Int.reduceBNe,Int.reduceGT,Int.reduceGE,Nat.reduceGT,Int.reduceToNat,Int.reduceNeg,Nat.reduceLeDiff,Nat.reduceBEq,Nat.reduceBneDiff, g0, g1]
  · simp -implicitDefEqProofs only [zA,reduceIte,reduceCtorEq,Nat.reduceEqDiff,Nat.reduceAdd,Nat.reduceMul,Nat.reduceLT,Nat.reduceSub,Int.reduceLT,Int.reduceLE,Int.reduceEq,Int.reduceNe,Int.reduceSub,Int.reduceAdd,Int.reduceMul,Int.reduceBEq,Int.reduceBNe,Int.reduceGT,Int.reduceGE,Nat.reduceGT,Int.reduceToNat,Int.reduceNeg,Nat.reduceLeDiff,Nat.reduceBEq,Nat.reduceBneDiff, g0, false_and]
theorem getK_app {A B : RL} {k : Int} (h : ∀ y ∈ A, y.1 ≠ k) : getK (A ++ B) k = getK B k := by
  unfold getK
  rw [List.find?_append]
  have : A.find? (fun x => decide (x.1 = k)) = none := by
    rw [List.find?_eq_none]; intro y hy; simpa using h y hy
  rw [this, Option.none_or]
theorem getK_at {L : RL} {k : Int} {i : Nat} (hi : i < L.length) (h : ∀ y ∈ L.take i, y.1 ≠ k) (e : L[i].1 = k) : getK L k = some L[i].2 := by
  have : L = L.take i ++ L[i] :: L.drop (i + 1) := by
    conv => lhs; rw [← List.take_append_drop i L, List.drop_eq_getElem_cons hi]
  generalize L[i] = x at this e ⊢
  rw [this, getK_app h]
  simp [getK, e]
theorem getK_no {L : RL} {k : Int} (h : ∀ y ∈ L, y.1 ≠ k) : getK L k = none := by
  have := getK_app (B := []) h
  rw [List.append_nil] at this
  rw [this]; rfl
theorem cellK_ones (L : RL) : (L.flatMap cellK).all one = true := by
  rw [List.all_eq_true]
  intro v hv
  obtain ⟨x, -, hx⟩ := List.mem_flatMap.1 hv
  unfold cellK at hx
  rcases List.mem_cons.1 hx with rfl | hx
  · rfl
  · obtain ⟨u, -, rfl⟩ := List.mem_map.1 hx; rfl
theorem ref_Put_c (E : EnvT tab) {H : Heap} {w : Nat} {L : RL} (R : WG H w L) (h32 : ∀ x ∈ L, x.2.length = 32) (hn : L.length ≤ 1000) (k : Int) (wd : List UInt8) (hw : wd.length = 32) :
    ACallN E.toEnv n_bandboxref19_Ring_Put [.pointer (some ⟨w, 0, none⟩), .int .i64 k, .agg (wd.map u8V).toArray] H fun r h' => r = .int .i64 ((putF L k wd).2 : Nat) ∧
      ((H.le h' ∧ (putF L k wd).1 = L) ∨ ∃ lv, h' w = some (.own 0 [lv] 1) ∧ Ow H h' 33 lv (putF L k wd).1.length ((putF L k wd).1.flatMap cellK) ∧ ∀ c x, c ≠ w → H c = some x → h' c = some x) := by
  obtain ⟨lv, q, s⟩ := R
  obtain ⟨lb, lc, rfl⟩ := Sl.shape s
  refine acall h_bandboxref19_Ring_Put ir_bandboxref19_Ring_Put rfl rfl (wpA_sound ?_)
  unfold ir_bandboxref19_Ring_Put
  have wl : (wd.map u8V).length = 32 := by simp [hw]
  simp -implicitDefEqProofs only [zA,reduceIte,reduceCtorEq,Nat.reduceEqDiff,Nat.reduceAdd,Nat.reduceMul,Nat.reduceLT,Nat.reduceSub,Int.reduceLT,Int.reduceLE,Int.reduceEq,Int.reduceNe,Int.reduceSub,Int.reduceAdd,Int.reduceMul,Int.reduceBEq,Int.reduceBNe,Int.reduceGT,Int.reduceGE,Nat.reduceGT,Int.reduceToNat,Int.reduceNeg,Nat.reduceLeDiff,Nat.reduceBEq,Nat.reduceBneDiff]
  intro b5 hb5
  try simp -implicitDefEqProofs only [zA,reduceIte,reduceCtorEq,Nat.reduceEqDiff,Nat.reduceAdd,Nat.reduceMul,Nat.reduceLT,Nat.reduceSub,Int.reduceLT,Int.reduceLE,Int.reduceEq,Int.reduceNe,Int.reduceSub,Int.reduceAdd,Int.reduceMul,Int.reduceBEq,Int.reduceBNe,Int.reduceGT,Int.reduceGE,Nat.reduceGT,Int.reduceToNat,Int.reduceNeg,Nat.reduceLeDiff,Nat.reduceBEq,Nat.reduceBneDiff, wl]
  have le5 : H.le (H.set b5 (.own 0 (wd.map u8V) 32)) := Heap.le_set (Heap.le_refl _) hb5 _
  have q5 : (H.set b5 (.own 0 (wd.map u8V) 32)) b5 = some (.own 0 (wd.map u8V) 32) := Heap.set_self _ _ _
  generalize hH1 : (H.set b5 (.own 0 (wd.map u8V) 32)) = H1 at le5 q5 ⊢
  refine (ref_MayE_c E H1 k).mono ?_
  rintro rr H1' ⟨rfl, rfl⟩
  have c0 : hcell H1' ⟨w, 0, none⟩ = some (.slice lb L.length lc) := by rw [hcell_at (le5 _ _ q) (by simp)]; rfl
  have s1 := s.le le5
  have c5 : ∀ G, H1'.le G → hcells G ⟨b5, 0, none⟩ 32 = some (wd.map u8V) := fun G x => by rw [hcells_at (x _ _ q5) (by simp [hw])]; simp [List.take_of_length_le, hw]
  have c50 := c5 H1' (Heap.le_refl _)
  by_cases g : 0 ≤ k ∧ k ≤ 1099511627776
  · unfold putF
    rw [if_pos g]
    simp -implicitDefEqProofs only [zA,reduceIte,reduceCtorEq,Nat.reduceEqDiff,Nat.reduceAdd,Nat.reduceMul,Nat.reduceLT,Nat.reduceSub,Int.reduceLT,Int.reduceLE,Int.reduceEq,Int.reduceNe,Int.reduceSub,Int.reduceAdd,Int.reduceMul,Int.reduceBEq,Int.reduceBNe,Int.reduceGT,Int.reduceGE,Nat.reduceGT,Int.reduceToNat,Int.reduceNeg,Nat.reduceLeDiff,Nat.reduceBEq,Nat.reduceBneDiff, g]
    refine wp_loop' (fun m t G => G = H1' ∧ ∃ (i : Nat), t = tl [(0, .pointer (some ⟨w, 0, none⟩)), (1, .int .i64 k), (5, .pointer (some ⟨b5, 0, none⟩)), (7, .int .i64 i)] ∧ i ≤ L.length ∧ m = L.length - i ∧ ∀ y ∈ L.take i, y.1 ≠ k) L.length
      ⟨rfl, 0, rfl, by omega, by omega, by simp⟩ ?_
    rintro m t G ⟨rfl, i, rfl, hi, rfl, h0⟩
    by_cases hlt : i < L.length
    · have hi1 : (i : Int) < L.length := by omega
      have hi2 : (0 : Int) ≤ i := by omega
      have w1 : IntKind.i64.wrap ((i : Int) + 1) = ((i + 1 : Nat) : Int) := wrapN (by omega)
      obtain ⟨b, o, rfl, hc⟩ := cellK_at s1 i hlt
      obtain ⟨ci, cw⟩ := hc G (Heap.le_refl _)
      have et : L.take (i + 1) = L.take i ++ [L[i]] := List.take_succ_eq_append_getElem hlt
      have l32 := h32 _ (List.getElem_mem hlt)
      rw [pad32_eq l32] at cw
      simp -implicitDefEqProofs only [zA,reduceIte,reduceCtorEq,Nat.reduceEqDiff,Nat.reduceAdd,Nat.reduceMul,Nat.reduceLT,Nat.reduceSub,Int.reduceLT,Int.reduceLE,Int.reduceEq,Int.reduceNe,Int.reduceSub,Int.reduceAdd,Int.reduceMul,Int.reduceBEq,Int.reduceBNe,Int.reduceGT,Int.reduceGE,Nat.reduceGT,Int.reduceToNat,Int.reduceNeg,Nat.reduceLeDiff,Nat.reduceBEq,Nat.reduceBneDiff, c0, hi1]
      unfold ir_bandboxref19_Ring_Put_20
      by_cases gk : L[i].1 = k
      · have hg := getK_at hlt h0 gk
        rw [hg]
        generalize L[i] = x at ci cw l32 gk
        have k1 := leaves_u8 x.2
        rw [l32] at k1
        have k2 := leaves_u8 wd
        rw [hw] at k2
        by_cases e : x.2 = wd
        · have k3 : leavesEq (wd.map u8V) (wd.map u8V) = true := leavesEq_u8 _
          rw [e] at cw k1
          simp -implicitDefEqProofs only [zA,reduceIte,reduceCtorEq,Nat.reduceEqDiff,Nat.reduceAdd,Nat.reduceMul,Nat.reduceLT,Nat.reduceSub,Int.reduceLT,Int.reduceLE,Int.reduceEq,Int.reduceNe,Int.reduceSub,Int.reduceAdd,Int.reduceMul,Int.reduceBEq,Int.reduceBNe,Int.reduceGT,Int.reduceGE,Nat.reduceGT,Int.reduceToNat,Int.reduceNeg,Nat.reduceLeDiff,Nat.reduceBEq,Nat.reduceBneDiff, c0, hi1, hi2, Int.toNat_natCast, ci, gk, cw, c50, k1, k2, k3, e, implies_true, List.mem_cons, List.not_mem_nil, List.mem_singleton, or_false, forall_eq, forall_eq_or_imp, and_self]
          exact .inl le5
        · have k3 : leavesEq (x.2.map u8V) (wd.map u8V) = false := by rw [leavesEq_dec x.2 wd (by rw [l32, hw])]; simp [e]
          simp -implicitDefEqProofs only [zA,reduceIte,reduceCtorEq,Nat.reduceEqDiff,Nat.reduceAdd,Nat.reduceMul,Nat.reduceLT,Nat.reduceSub,Int.reduceLT,Int.reduceLE,Int.reduceEq,Int.reduceNe,Int.reduceSub,Int.reduceAdd,Int.reduceMul,Int.reduceBEq,Int.reduceBNe,Int.reduceGT,Int.reduceGE,Nat.reduceGT,Int.reduceToNat,Int.reduceNeg,Nat.reduceLeDiff,Nat.reduceBEq,Nat.reduceBneDiff, c0, hi1, hi2, Int.toNat_natCast, ci, gk, cw, c50, k1, k2, k3, e, implies_true, List.mem_cons, List.not_mem_nil, List.mem_singleton, or_false, forall_eq, forall_eq_or_imp, and_self]
          exact .inl le5
      · simp -implicitDefEqProofs only [zA,reduceIte,reduceCtorEq,Nat.reduceEqDiff,Nat.reduceAdd,Nat.reduceMul,Nat.reduceLT,Nat.reduceSub,Int.reduceLT,Int.reduceLE,Int.reduceEq,Int.reduceNe,Int.reduceSub,Int.reduceAdd,Int.reduceMul,Int.reduceBEq,Int.reduceBNe,Int.reduceGT,Int.reduceGE,Nat.reduceGT,Int.reduceToNat,Int.reduceNeg,Nat.reduceLeDiff,Nat.reduceBEq,Nat.reduceBneDiff, c0, hi1, hi2, Int.toNat_natCast, ci, gk, w1]
        refine ⟨_, ?_, i + 1, rfl, by omega, rfl, ?_⟩
        · omega
        · rw [et]
          intro y hy
          rcases List.mem_append.1 hy with hy | hy
          · exact h0 y hy
          · rw [List.mem_singleton] at hy; subst hy; exact gk
    · have hi1 : ¬ (i : Int) < L.length := by omega
      have e : i = L.length := by omega
      subst e
      rw [List.take_length] at h0
      have hg := getK_no h0
      rw [hg]
      simp -implicitDefEqProofs only [zA,reduceIte,reduceCtorEq,Nat.reduceEqDiff,Nat.reduceAdd,Nat.reduceMul,Nat.reduceLT,Nat.reduceSub,Int.reduceLT,Int.reduceLE,Int.reduceEq,Int.reduceNe,Int.reduceSub,Int.reduceAdd,Int.reduceMul,Int.reduceBEq,Int.reduceBNe,Int.reduceGT,Int.reduceGE,Nat.reduceGT,Int.reduceToNat,Int.reduceNeg,Nat.reduceLeDiff,Nat.reduceBEq,Nat.reduceBneDiff, c0, hi1]
      unfold ir_bandboxref19_Ring_Put_40
      by_cases g5 : 500 ≤ L.length
      · have g5' : (500 : Int) ≤ L.length := by omega
        simp -implicitDefEqProofs only [zA,reduceIte,reduceCtorEq,Nat.reduceEqDiff,Nat.reduceAdd,Nat.reduceMul,Nat.reduceLT,Nat.reduceSub,Int.reduceLT,Int.reduceLE,Int.reduceEq,Int.reduceNe,Int.reduceSub,Int.reduceAdd,Int.reduceMul,Int.reduceBEq,Int.reduceBNe,Int.reduceGT,Int.reduceGE,Nat.reduceGT,Int.reduceToNat,Int.reduceNeg,Nat.reduceLeDiff,Nat.reduceBEq,Nat.reduceBneDiff, c0, g5', g5]
        exact .inl le5
      · have g5' : ¬ (500 : Int) ≤ L.length := by omega
        simp -implicitDefEqProofs only [zA,reduceIte,reduceCtorEq,Nat.reduceEqDiff,Nat.reduceAdd,Nat.reduceMul,Nat.reduceLT,Nat.reduceSub,Int.reduceLT,Int.reduceLE,Int.reduceEq,Int.reduceNe,Int.reduceSub,Int.reduceAdd,Int.reduceMul,Int.reduceBEq,Int.reduceBNe,Int.reduceGT,Int.reduceGE,Nat.reduceGT,Int.reduceToNat,Int.reduceNeg,Nat.reduceLeDiff,Nat.reduceBEq,Nat.reduceBneDiff, c0, g5', g5]
        unfold ir_bandboxref19_Ring_Put_47
        simp -implicitDefEqProofs only [zA,reduceIte,reduceCtorEq,Nat.reduceEqDiff,Nat.reduceAdd,Nat.reduceMul,Nat.reduceLT,Nat.reduceSub,Int.reduceLT,Int.reduceLE,Int.reduceEq,Int.reduceNe,Int.reduceSub,Int.reduceAdd,Int.reduceMul,Int.reduceBEq,Int.reduceBNe,Int.reduceGT,Int.reduceGE,Nat.reduceGT,Int.reduceToNat,Int.reduceNeg,Nat.reduceLeDiff,Nat.reduceBEq,Nat.reduceBneDiff, List.flatten_nil, List.replicate_zero]
        intro b6 hb6
        try simp -implicitDefEqProofs only [zA,reduceIte,reduceCtorEq,Nat.reduceEqDiff,Nat.reduceAdd,Nat.reduceMul,Nat.reduceLT,Nat.reduceSub,Int.reduceLT,Int.reduceLE,Int.reduceEq,Int.reduceNe,Int.reduceSub,Int.reduceAdd,Int.reduceMul,Int.reduceBEq,Int.reduceBNe,Int.reduceGT,Int.reduceGE,Nat.reduceGT,Int.reduceToNat,Int.reduceNeg,Nat.reduceLeDiff,Nat.reduceBEq,Nat.reduceBneDiff]
        have le6 := Heap.le_set (Heap.le_refl G) hb6 (.own 0 [] 0)
        simp -implicitDefEqProofs only [zA,reduceIte,reduceCtorEq,Nat.reduceEqDiff,Nat.reduceAdd,Nat.reduceMul,Nat.reduceLT,Nat.reduceSub,Int.reduceLT,Int.reduceLE,Int.reduceEq,Int.reduceNe,Int.reduceSub,Int.reduceAdd,Int.reduceMul,Int.reduceBEq,Int.reduceBNe,Int.reduceGT,Int.reduceGE,Nat.reduceGT,Int.reduceToNat,Int.reduceNeg,Nat.reduceLeDiff,Nat.reduceBEq,Nat.reduceBneDiff, c0]
        refine appendP_ow (n := 0) (cells := []) (m := L.length) (news := L.flatMap cellK) le6 (by omega) (Ow.new (c := 0) (sz := 0) (Heap.le_refl _) hb6 rfl (by omega) (by omega)) (s1.le le6) (cellK_ones L) (by omega) (by omega) ?_
        intro v1 G1 o1 le7
        rw [Nat.zero_add, List.nil_append] at o1
        obtain ⟨vb1, vc1, rfl⟩ := Sl.shape o1.sl
        have c51 := c5 G1 le7
        have e33 : (List.take 1 (Value.int .i64 k :: List.replicate 32 (Value.int .u8 0))) = [Value.int .i64 k] := rfl
        have d33 : List.drop 33 (Value.int .i64 k :: List.replicate 32 (Value.int .u8 0)) = [] := by rw [List.drop_eq_nil_of_le]; simp
        simp -implicitDefEqProofs only [zA,reduceIte,reduceCtorEq,Nat.reduceEqDiff,Nat.reduceAdd,Nat.reduceMul,Nat.reduceLT,Nat.reduceSub,Int.reduceLT,Int.reduceLE,Int.reduceEq,Int.reduceNe,Int.reduceSub,Int.reduceAdd,Int.reduceMul,Int.reduceBEq,Int.reduceBNe,Int.reduceGT,Int.reduceGE,Nat.reduceGT,Int.reduceToNat,Int.reduceNeg,Nat.reduceLeDiff,Nat.reduceBEq,Nat.reduceBneDiff, c50, c51, wl, List.length_replicate, List.drop_replicate, List.replicate_zero, List.replicate_one, List.flatten_singleton, implies_true, List.mem_cons, List.not_mem_nil, List.mem_singleton, or_false, forall_eq, forall_eq_or_imp, and_self]
        intro b7 hb7
        have ecell : cellK (k, wd) = Value.int .i64 k :: wd.map u8V := by unfold cellK; rw [pad32_eq hw]
        rw [← ecell]
        have le8 := Heap.le_set (Heap.le_refl G1) hb7 (.own 0 (cellK (k, wd)) 33)
        have sx : Sl (G1.set b7 (.own 0 (cellK (k, wd)) 33)) 33 (.slice (some ⟨b7, 0, none⟩) 1 1) 1 (cellK (k, wd)) := Sl.lit (by rw [cellK_len])
        have hone : (cellK (k, wd)).all one = true := by have := cellK_ones [(k, wd)]; simpa using this
        refine appendP_ow (m := 1) (Heap.le_trans le7 le8) (by omega) (o1.le le8) sx hone (by omega) (by omega) ?_
        intro v3 G3 o3 le9
        obtain ⟨vb3, vc3, rfl⟩ := Sl.shape o3.sl
        have q3 := le9 _ _ (le5 _ _ q)
        have st : storeV G3 1 (.pointer (some ⟨w, 0, none⟩)) (.slice vb3 (L.length + 1) vc3) = some (G3.set w (.own 0 [.slice vb3 (L.length + 1) vc3] 1)) := storeV_one_at q3 rfl (by simp) (by simp)
        simp -implicitDefEqProofs only [zA,reduceIte,reduceCtorEq,Nat.reduceEqDiff,Nat.reduceAdd,Nat.reduceMul,Nat.reduceLT,Nat.reduceSub,Int.reduceLT,Int.reduceLE,Int.reduceEq,Int.reduceNe,Int.reduceSub,Int.reduceAdd,Int.reduceMul,Int.reduceBEq,Int.reduceBNe,Int.reduceGT,Int.reduceGE,Nat.reduceGT,Int.reduceToNat,Int.reduceNeg,Nat.reduceLeDiff,Nat.reduceBEq,Nat.reduceBneDiff, st, implies_true]
        refine .inr ⟨_, Heap.set_self _ _ _, ?_, ?_⟩
        · have e1 : (L ++ [(k, wd)]).length = L.length + 1 := by simp
          have e2 : (L ++ [(k, wd)]).flatMap cellK = L.flatMap cellK ++ cellK (k, wd) := by simp
          rw [e1, e2]
          have o4 := o3.since le5
          rcases o4 with s0 | ⟨b, o, c', sz, st', pre, rest, p1, p2, p3, p4, p5⟩
          · exact .inl s0
          · refine .inr ⟨b, o, c', sz, st', pre, rest, p1, p2, p3, ?_, p5⟩
            rw [Heap.set_ne (by intro e; subst e; rw [q] at p3; cases p3)]
            exact p4
        · intro c x hc hx
          rw [Heap.set_ne hc]
          exact le9 _ _ (le5 _ _ hx)
  · unfold putF
    rw [if_neg g]
    simp -implicitDefEqProofs only [zA,reduceIte,reduceCtorEq,Nat.reduceEqDiff,Nat.reduceAdd,Nat.reduceMul,Nat.reduceLT,Nat.reduceSub,Int.reduceLT,Int.reduceLE,Int.reduceEq,Int.reduceNe,Int.reduceSub,Int.reduceAdd,Int.reduceMul,Int.reduceBEq,Int.reduceBNe,Int.reduceGT,Int.reduceGE,Nat.reduceGT,Int.reduceToNat,Int.reduceNeg,Nat.reduceLeDiff,Nat.reduceBEq,Nat.reduceBneDiff, g]
    exact .inl le5
end Go.Bb
/- Two rings side by side. -/
namespace Go.Bb
set_option linter.unusedSimpArgs false
set_option linter.unusedVariables false
set_option maxRecDepth 20000
set_option maxHeartbeats 2000000

theorem u8_at {h : Heap} {v : Value} {M : List UInt8} (s : SlB h v M) (j : Nat) (hj : j < M.length) :
    ∃ b o c, v = .slice (some ⟨b, o, none⟩) M.length c ∧ ∀ H, h.le H → hcell H ⟨b, o + j, none⟩ = some (.int .u8 M[j].toNat) := by
  obtain ⟨b, o, c, hv, hc, hcl⟩ := s.ptr (by omega) (by omega)
  refine ⟨b, o, c, hv, fun H hle => ?_⟩
  rw [Nat.mul_one] at hcl
  rw [hcell_of (hcells_le hle hcl) j hj]
  simp [hj, u8V]
def word1 (x : UInt8) : List UInt8 := x :: List.replicate 31 0
theorem word1_row (x : UInt8) : Value.int .u8 x.toNat :: List.drop 1 (List.replicate 32 (Value.int .u8 0)) = (word1 x).map u8V := rfl
theorem word1_len (x : UInt8) : (word1 x).length = 32 := rfl
/-- Two rings alike, side by side. -/
def P2 (h1 H : Heap) (p w : Nat) (L : RL) : Prop := ∃ h0, h1.le h0 ∧ h1 w = none ∧ h0.le H ∧ RingR h0 H (.pointer (some ⟨p, 0, none⟩)) L ∧ WG h0 w L
structure LOk (i : Nat) (L : RL) : Prop where
  l32 : ∀ x ∈ L, x.2.length = 32
  rng : ∀ y ∈ L, 0 ≤ y.1 ∧ y.1 ≤ 1099511627776
  len : L.length ≤ i
theorem LOk.put {i : Nat} {L : RL} (I : LOk i L) (k : Int) {wd : List UInt8} (hw : wd.length = 32) : LOk (i + 1) (putF L k wd).1 := by
  have I1 : LOk (i + 1) L := ⟨I.l32, I.rng, by have := I.len; omega⟩
  unfold putF
  split
  · rename_i g
    split
    · split
      · exact I1
      · exact I1
    · split
      · exact I1
      · refine ⟨fun x hx => ?_, fun x hx => ?_, by have := I.len; simp; omega⟩
        · rcases List.mem_append.1 hx with hx | hx
          · exact I.l32 x hx
          · rw [List.mem_singleton] at hx; subst hx; exact hw
        · rcases List.mem_append.1 hx with hx | hx
          · exact I.rng x hx
          · rw [List.mem_singleton] at hx; subst hx; exact g
  · exact I1
theorem P2.le {h1 H H' : Heap} {p w : Nat} {L : RL} (P : P2 h1 H p w L) (le : H.le H') : P2 h1 H' p w L := by
  obtain ⟨h0, a, b, c, d, e⟩ := P
  exact ⟨h0, a, b, Heap.le_trans c le, d.le le, e⟩
theorem P2.put (E : EnvT tab) {h1 H : Heap} {p w : Nat} {L : RL} (P : P2 h1 H p w L) {i : Nat} (I : LOk i L) (hi : i ≤ 1000) (k : Int) {wd : List UInt8} (hw : wd.length = 32) :
    ACallN E.toEnv n_epoch_Ring_Put [.pointer (some ⟨p, 0, none⟩), .int .i64 k, .agg (wd.map u8V).toArray] H fun r H1 => r = .int .i64 ((putF L k wd).2 : Nat) ∧ h1.le H1 ∧
      ACallN E.toEnv n_bandboxref19_Ring_Put [.pointer (some ⟨w, 0, none⟩), .int .i64 k, .agg (wd.map u8V).toArray] H1 fun r H2 => r = .int .i64 ((putF L k wd).2 : Nat) ∧ P2 h1 H2 p w (putF L k wd).1 := by
  obtain ⟨h0, le0, hw0, leH, R, G⟩ := P
  refine (epoch_Put_c E leH R I.l32 k wd hw).mono ?_
  rintro r H1 ⟨le1, rfl, R1⟩
  refine ⟨rfl, Heap.le_trans le0 le1, ?_⟩
  refine (ref_Put_c E (G.le le1) I.l32 (by have := I.len; omega) k wd hw).mono ?_
  rintro r H2 ⟨rfl, hm⟩
  refine ⟨rfl, ?_⟩
  rcases hm with ⟨le2, e⟩ | ⟨lv, q, ow, keep⟩
  · rw [e] at R1 ⊢
    exact ⟨h0, le0, hw0, Heap.le_trans le1 le2, R1.le le2, G⟩
  · obtain ⟨lv0, qw, -⟩ := G
    refine ⟨fun c => if h0 c = none ∧ H1 c ≠ none then none else H2 c, ?_, hw0, ?_, ?_, lv, ?_, ?_⟩
    · intro c x hx
      have h2 := le0 _ _ hx
      have hc : c ≠ w := by intro e; subst e; rw [hw0] at hx; cases hx
      simp only
      rw [if_neg (by rw [h2]; simp)]
      exact keep c x hc (le1 _ _ h2)
    · intro c x hx
      simp only at hx
      split at hx
      · cases hx
      · exact hx
    · obtain ⟨b, r, es, cc, e1, e2, e3, e4, e5, e6, e7⟩ := R1
      have hb : b ≠ w := by intro e; subst e; rw [qw] at e2; cases e2
      have hr : r ≠ w := by intro e; subst e; rw [qw] at e3; cases e3
      exact ⟨b, r, es, cc, e1, by simp [e2, e5], by simp [e3, e6], e4, keep _ _ hb e5, keep _ _ hr e6, e7⟩
    · simp only
      rw [if_neg (by rw [qw]; simp)]; exact q
    · have : Ow H1 (fun c => if h0 c = none ∧ H1 c ≠ none then none else H2 c) 33 lv (putF L k wd).1.length ((putF L k wd).1.flatMap cellK) := by
        rcases ow with s | ⟨b, o, c, sz, st, pre, rest, p1, p2, p3, p4, p5⟩
        · exact .inl s
        · refine .inr ⟨b, o, c, sz, st, pre, rest, p1, p2, p3, ?_, p5⟩
          simp only
          rw [if_neg (by rw [p3]; simp)]
          exact p4
      exact this.sl
theorem set_mono {a b : Heap} (h : a.le b) (c : Nat) (X : Blk) : (a.set c X).le (b.set c X) := by
  intro i x hx
  by_cases e : i = c
  · subst e; rw [Heap.set_self] at hx ⊢; exact hx
  · rw [Heap.set_ne e] at hx ⊢; exact h _ _ hx
theorem P2.box {h1 H : Heap} {p w : Nat} {L : RL} (P : P2 h1 H p w L) {b : Nat} (hb : H b = none) (X : Blk) : P2 (h1.set b X) (H.set b X) p w L := by
  obtain ⟨h0, a, c, d, R, lv, q, s⟩ := P
  have hw : w ≠ b := by intro e; subst e; have := d _ _ q; rw [hb] at this; cases this
  refine ⟨h0.set b X, set_mono a b X, by rw [Heap.set_ne hw]; exact c, set_mono d b X, ?_, WG.le ⟨lv, q, s⟩ (Heap.le_set (Heap.le_refl _) (Heap.none_of_le d hb) _)⟩
  obtain ⟨b1, r, es, cc, e1, e2, e3, e4, e5, e6, e7⟩ := R
  have hb1 : b1 ≠ b := by intro e; subst e; rw [hb] at e5; cases e5
  have hr : r ≠ b := by intro e; subst e; rw [hb] at e6; cases e6
  exact ⟨b1, r, es, cc, e1, by rw [Heap.set_ne hb1]; exact e2, by rw [Heap.set_ne hr]; exact e3, e4, by rw [Heap.set_ne hb1]; exact e5, by rw [Heap.set_ne hr]; exact e6, e7⟩
theorem P2.down {h1 h1' H : Heap} {p w : Nat} {L : RL} (P : P2 h1' H p w L) (le : h1.le h1') : P2 h1 H p w L := by
  obtain ⟨h0, a, c, d, R⟩ := P
  exact ⟨h0, Heap.le_trans le a, Heap.none_of_le le c, d, R⟩
theorem P2.get (E : EnvT tab) {h1 H : Heap} {p w : Nat} {L : RL} (P : P2 h1 H p w L) {i : Nat} (I : LOk i L) (k : Int) :
    ACallN E.toEnv n_epoch_Ring_Get [.pointer (some ⟨p, 0, none⟩), .int .i64 k] H fun r h' => H.le h' ∧ r = .tuple #[.agg (((getK L k).getD (List.replicate 32 0)).map u8V).toArray, .bool (getK L k).isSome] := by
  obtain ⟨h0, a, c, d, R, G⟩ := P
  exact epoch_Get_c E d R I.l32 k
end Go.Bb
/- Contracts: bytes. -/
namespace Go.Bb
set_option linter.unusedSimpArgs false
set_option linter.unusedVariables false
set_option maxRecDepth 20000

theorem Clone_c (E : EnvT tab) (h : Heap) {v : Value} (l : List UInt8) (hl : l.length ≤ 140737488355328) (s : SlB h v l) : ACallN E.toEnv n_slices_Clone_byte_byte [v] h fun r h' => h.le h' ∧ OwB h h' r l := by
  refine acall h_slices_Clone_byte_byte ir_slices_Clone_byte_byte rfl rfl (wpA_sound ?_)
  unfold ir_slices_Clone_byte_byte
  rcases s with ⟨rfl, hn, hc⟩ | ⟨a, c, rfl, hc, hcl⟩
  · simp -implicitDefEqProofs only [zA,reduceIte,reduceCtorEq,Nat.reduceEqDiff,Nat.reduceAdd,Nat.reduceMul,Nat.reduceLT,Nat.reduceSub,Int.reduceLT,Int.reduceLE,Int.reduceEq,Int.reduceNe,Int.reduceSub,Int.reduceAdd,Int.reduceMul,Int.reduceBEq,Int.reduceBNe,Int.reduceGT,Int.reduceGE,Nat.reduceGT,Int.reduceToNat,Int.reduceNeg,Nat.reduceLeDiff,Nat.reduceBEq,Nat.reduceBneDiff, Option.isNone]
    have : l = [] := List.eq_nil_of_length_eq_zero hn
    subst this
    exact ⟨Heap.le_refl _, Ow.nil _ _ _⟩
  · have s : SlB h (.slice (some a) l.length c) l := .inr ⟨a, c, rfl, hc, hcl⟩
    simp -implicitDefEqProofs only [zA,reduceIte,reduceCtorEq,Nat.reduceEqDiff,Nat.reduceAdd,Nat.reduceMul,Nat.reduceLT,Nat.reduceSub,Int.reduceLT,Int.reduceLE,Int.reduceEq,Int.reduceNe,Int.reduceSub,Int.reduceAdd,Int.reduceMul,Int.reduceBEq,Int.reduceBNe,Int.reduceGT,Int.reduceGE,Nat.reduceGT,Int.reduceToNat,Int.reduceNeg,Nat.reduceLeDiff,Nat.reduceBEq,Nat.reduceBneDiff, Option.isNone]
    intro b1 hb1
    try simp -implicitDefEqProofs only [zA,reduceIte,reduceCtorEq,Nat.reduceEqDiff,Nat.reduceAdd,Nat.reduceMul,Nat.reduceLT,Nat.reduceSub,Int.reduceLT,Int.reduceLE,Int.reduceEq,Int.reduceNe,Int.reduceSub,Int.reduceAdd,Int.reduceMul,Int.reduceBEq,Int.reduceBNe,Int.reduceGT,Int.reduceGE,Nat.reduceGT,Int.reduceToNat,Int.reduceNeg,Nat.reduceLeDiff,Nat.reduceBEq,Nat.reduceBneDiff]
    refine appendP_ow (bytes := 1) (n := 0) (cells := []) (m := l.length) (news := l.map u8V) (Heap.le_set (Heap.le_refl _) hb1 _) (by omega) (Ow.new (Heap.le_refl _) hb1 rfl (by omega) (by omega)) (s.le (Heap.le_set (Heap.le_refl _) hb1 _)) (one_u8 l) (by omega) (by omega) ?_
    intro v' h' ow le'
    rw [Nat.zero_add, List.nil_append] at ow
    simp -implicitDefEqProofs only [zA,reduceIte,reduceCtorEq,Nat.reduceEqDiff,Nat.reduceAdd,Nat.reduceMul,Nat.reduceLT,Nat.reduceSub,Int.reduceLT,Int.reduceLE,Int.reduceEq,Int.reduceNe,Int.reduceSub,Int.reduceAdd,Int.reduceMul,Int.reduceBEq,Int.reduceBNe,Int.reduceGT,Int.reduceGE,Nat.reduceGT,Int.reduceToNat,Int.reduceNeg,Nat.reduceLeDiff,Nat.reduceBEq,Nat.reduceBneDiff]
    exact ⟨le', ow⟩

/-! ### numbers, the highest byte first -/
def fromBigF (l : List UInt8) : U64 := l.foldl (fun v b => v <<< 8 ||| BitVec.ofNat 64 b.toNat) 0
theorem octet_FromBig_c (E : EnvT tab) (h : Heap) {v : Value} (l : List UInt8) (hl : l.length ≤ 8) (s : SlB h v l) : ACallN E.toEnv n_octet_FromBig [v] h fun r h' => h' = h ∧ r = .tuple #[u64V (fromBigF l), .int .i64 0] := by
  obtain ⟨base, c, rfl⟩ := Sl.shape s
  refine acall h_octet_FromBig ir_octet_FromBig rfl rfl (wpA_sound ?_)
  unfold ir_octet_FromBig
  have g1 : ¬ (8 : Int) < l.length := by omega
  simp -implicitDefEqProofs only [zA,reduceIte,reduceCtorEq,Nat.reduceEqDiff,Nat.reduceAdd,Nat.reduceMul,Nat.reduceLT,Nat.reduceSub,Int.reduceLT,Int.reduceLE,Int.reduceEq,Int.reduceNe,Int.reduceSub,Int.reduceAdd,Int.reduceMul,Int.reduceBEq,Int.reduceBNe,Int.reduceGT,Int.reduceGE,Nat.reduceGT,Int.reduceToNat,Int.reduceNeg,Nat.reduceLeDiff,Nat.reduceBEq,Nat.reduceBneDiff, g1]
  refine wp_loop' (fun m t H => H = h ∧ ∃ (j : Nat), t = tl [(4, .int .u64 (fromBigF (l.take j)).toNat), (10, .slice base l.length c), (11, .int .i64 l.length), (12, .int .i64 j)] ∧ j ≤ l.length ∧ m = l.length - j) l.length
    ⟨rfl, 0, rfl, by omega, by omega⟩ ?_
  rintro m t H ⟨rfl, j, rfl, hj, rfl⟩
  by_cases hlt : j < l.length
  · obtain ⟨b, o, c', hv, hc, hcl⟩ := Sl.byte_at s j hlt
    simp only [Value.slice.injEq, true_and] at hv
    obtain ⟨rfl, rfl⟩ := hv
    have hz := hcl H (Heap.le_refl _)
    unfold u8V at hz
    have e1 : (j : Int) < l.length := by omega
    have e2 : (0 : Int) ≤ j := by omega
    simp -implicitDefEqProofs only [zA,reduceIte,reduceCtorEq,Nat.reduceEqDiff,Nat.reduceAdd,Nat.reduceMul,Nat.reduceLT,Nat.reduceSub,Int.reduceLT,Int.reduceLE,Int.reduceEq,Int.reduceNe,Int.reduceSub,Int.reduceAdd,Int.reduceMul,Int.reduceBEq,Int.reduceBNe,Int.reduceGT,Int.reduceGE,Nat.reduceGT,Int.reduceToNat,Int.reduceNeg,Nat.reduceLeDiff,Nat.reduceBEq,Nat.reduceBneDiff, e1, e2, hz, Int.toNat_natCast, u64_shl, u8_u64, u64_or, wrapN (n := j) (by omega)]
    refine ⟨_, ?_, j + 1, ?_, hlt, rfl⟩
    · omega
    · rw [List.take_succ_eq_append_getElem hlt]
      simp only [fromBigF, List.foldl_append, List.foldl_cons, List.foldl_nil]
  · have e1 : ¬ (j : Int) < l.length := by omega
    have : j = l.length := by omega
    subst this
    rw [List.take_length]
    simp -implicitDefEqProofs only [zA,reduceIte,reduceCtorEq,Nat.reduceEqDiff,Nat.reduceAdd,Nat.reduceMul,Nat.reduceLT,Nat.reduceSub,Int.reduceLT,Int.reduceLE,Int.reduceEq,Int.reduceNe,Int.reduceSub,Int.reduceAdd,Int.reduceMul,Int.reduceBEq,Int.reduceBNe,Int.reduceGT,Int.reduceGE,Nat.reduceGT,Int.reduceToNat,Int.reduceNeg,Nat.reduceLeDiff,Nat.reduceBEq,Nat.reduceBneDiff, e1]
    rfl

end Go.Bb
/- Contracts: numbers written, the highest byte first. -/
namespace Go.Bb
set_option linter.unusedSimpArgs false
set_option linter.unusedVariables false
set_option maxRecDepth 20000

/-- A number's bytes, the highest first. -/
def bigF (v : U64) (n : Nat) : List UInt8 := (List.range n).reverse.map fun i => UInt8.ofNat (v >>> (8 * i)).toNat
theorem bigF_len (v : U64) (n : Nat) : (bigF v n).length = n := by simp [bigF]
theorem bigF_succ (v : U64) (n : Nat) : bigF v (n + 1) = UInt8.ofNat (v >>> (8 * n)).toNat :: bigF v n := by simp [bigF, List.range_succ]
theorem octet_Big_c (E : EnvT tab) (h : Heap) {b : Value} (l : List UInt8) (hl : l.length ≤ 140737488355000) (s : SlB h b l) (v : U64) (n : Nat) (hn : n ≤ 8) : ACallN E.toEnv n_octet_Big [b, .int .u64 v.toNat, .int .i64 n] h fun r h' => h.le h' ∧ OwB h h' r (l ++ bigF v n) := by
  refine acall h_octet_Big ir_octet_Big rfl rfl (wpA_sound ?_)
  unfold ir_octet_Big
  simp -implicitDefEqProofs only [zA,reduceIte,reduceCtorEq,Nat.reduceEqDiff,Nat.reduceAdd,Nat.reduceMul,Nat.reduceLT,Nat.reduceSub,Int.reduceLT,Int.reduceLE,Int.reduceEq,Int.reduceNe,Int.reduceSub,Int.reduceAdd,Int.reduceMul,Int.reduceBEq,Int.reduceBNe,Int.reduceGT,Int.reduceGE,Nat.reduceGT,Int.reduceToNat,Int.reduceNeg,Nat.reduceLeDiff,Nat.reduceBEq,Nat.reduceBneDiff]
  refine (Clone_c E h l (by omega) s).mono ?_
  rintro r h1 ⟨le1, ow⟩
  have g1 : ¬ (8 : Int) < n := by omega
  have g2 : ¬ (n : Int) < 0 := by omega
  have w0 : IntKind.i64.wrap ((n : Int) - 1) = (n : Int) - 1 := wrapI (by omega) (by omega)
  simp -implicitDefEqProofs only [zA,reduceIte,reduceCtorEq,Nat.reduceEqDiff,Nat.reduceAdd,Nat.reduceMul,Nat.reduceLT,Nat.reduceSub,Int.reduceLT,Int.reduceLE,Int.reduceEq,Int.reduceNe,Int.reduceSub,Int.reduceAdd,Int.reduceMul,Int.reduceBEq,Int.reduceBNe,Int.reduceGT,Int.reduceGE,Nat.reduceGT,Int.reduceToNat,Int.reduceNeg,Nat.reduceLeDiff,Nat.reduceBEq,Nat.reduceBneDiff, g1, g2, w0]
  refine wp_loop' (fun m t H => h.le H ∧ ∃ (j : Nat) (v7 : Value), t = tl [(1, .int .u64 v.toNat), (7, v7), (8, .int .i64 ((j : Int) - 1))] ∧ j ≤ n ∧ m = j ∧ ∃ l', OwB h H v7 l' ∧ l' ++ bigF v j = l ++ bigF v n) n
    ⟨le1, n, _, rfl, by omega, rfl, l, ow, rfl⟩ ?_
  rintro m t H ⟨leH, j, v7, rfl, hj, rfl, l', ow', hl'⟩
  cases m with
  | zero =>
    simp -implicitDefEqProofs only [zA,reduceIte,reduceCtorEq,Nat.reduceEqDiff,Nat.reduceAdd,Nat.reduceMul,Nat.reduceLT,Nat.reduceSub,Int.reduceLT,Int.reduceLE,Int.reduceEq,Int.reduceNe,Int.reduceSub,Int.reduceAdd,Int.reduceMul,Int.reduceBEq,Int.reduceBNe,Int.reduceGT,Int.reduceGE,Nat.reduceGT,Int.reduceToNat,Int.reduceNeg,Nat.reduceLeDiff,Nat.reduceBEq,Nat.reduceBneDiff]
    have : l' = l ++ bigF v n := by rw [← hl']; simp [bigF]
    rw [← this]
    exact ⟨leH, ow'⟩
  | succ j =>
    have e1 : (((j + 1 : Nat) : Int) - 1) = (j : Int) := by omega
    have e2 : (0 : Int) ≤ j := by omega
    have w1 : IntKind.i64.wrap (8 * (j : Int)) = ((8 * j : Nat) : Int) := by rw [wrapI (by omega) (by omega)]; omega
    have w2 : IntKind.i64.wrap ((j : Int) - 1) = (j : Int) - 1 := wrapI (by omega) (by omega)
    have n1 : ¬ (((8 * j : Nat) : Int) < 0) := by omega
    have sh : ((v.toNat : Int).fdiv (2 ^ (min (8 * j) IntKind.u64.bits))) = ((v >>> (8 * j)).toNat : Int) := u64_shr v (8 * j) (by omega)
    rw [e1]
    have hlen : l'.length ≤ l.length + 8 := by
      have := congrArg List.length hl'
      simp only [List.length_append, bigF_len] at this
      omega
    simp -implicitDefEqProofs only [zA,reduceIte,reduceCtorEq,Nat.reduceEqDiff,Nat.reduceAdd,Nat.reduceMul,Nat.reduceLT,Nat.reduceSub,Int.reduceLT,Int.reduceLE,Int.reduceEq,Int.reduceNe,Int.reduceSub,Int.reduceAdd,Int.reduceMul,Int.reduceBEq,Int.reduceBNe,Int.reduceGT,Int.reduceGE,Nat.reduceGT,Int.reduceToNat,Int.reduceNeg,Nat.reduceLeDiff,Nat.reduceBEq,Nat.reduceBneDiff, e2, w1, n1, Int.toNat_natCast, sh, u64_u8]
    intro b1 hb1
    try simp -implicitDefEqProofs only [zA,reduceIte,reduceCtorEq,Nat.reduceEqDiff,Nat.reduceAdd,Nat.reduceMul,Nat.reduceLT,Nat.reduceSub,Int.reduceLT,Int.reduceLE,Int.reduceEq,Int.reduceNe,Int.reduceSub,Int.reduceAdd,Int.reduceMul,Int.reduceBEq,Int.reduceBNe,Int.reduceGT,Int.reduceGE,Nat.reduceGT,Int.reduceToNat,Int.reduceNeg,Nat.reduceLeDiff,Nat.reduceBEq,Nat.reduceBneDiff]
    refine appendP_ow (bytes := 1) (m := 1) (news := [u8V (UInt8.ofNat (v >>> (8 * j)).toNat)]) (Heap.le_new leH hb1 _) (by omega) (ow'.le (Heap.le_set (Heap.le_refl _) hb1 _)) (Sl.lit (n := 1) rfl) rfl (by omega) (by omega) ?_
    intro v3 H3 ow3 le3
    simp -implicitDefEqProofs only [zA,reduceIte,reduceCtorEq,Nat.reduceEqDiff,Nat.reduceAdd,Nat.reduceMul,Nat.reduceLT,Nat.reduceSub,Int.reduceLT,Int.reduceLE,Int.reduceEq,Int.reduceNe,Int.reduceSub,Int.reduceAdd,Int.reduceMul,Int.reduceBEq,Int.reduceBNe,Int.reduceGT,Int.reduceGE,Nat.reduceGT,Int.reduceToNat,Int.reduceNeg,Nat.reduceLeDiff,Nat.reduceBEq,Nat.reduceBneDiff, w2]
    refine ⟨j, by omega, le3, j, v3, rfl, by omega, rfl, l' ++ [UInt8.ofNat (v >>> (8 * j)).toNat], by simpa [OwB] using ow3, ?_⟩
    rw [← hl', bigF_succ]; simp
end Go.Bb
/- Sums of bytes, in plain words. -/
namespace Go.Bb
set_option linter.unusedSimpArgs false
set_option linter.unusedVariables false

/-! ### rows of words, as functions of the place -/
def rowU (f : Nat → U32) (n : Nat) : List Value := (List.range n).map fun j => .int .u32 (f j).toNat
theorem rowU_len (f : Nat → U32) (n : Nat) : (rowU f n).length = n := by simp [rowU]
theorem rowU_get (f : Nat → U32) {n j : Nat} (h : j < (rowU f n).length) : (rowU f n)[j] = .int .u32 (f j).toNat := by simp [rowU]
def updU (f : Nat → U32) (i : Nat) (z : U32) : Nat → U32 := fun j => if j = i then z else f j
theorem rowU_set (f : Nat → U32) (n i : Nat) (z : U32) : (rowU f n).set i (.int .u32 z.toNat) = rowU (updU f i z) n := by
  apply List.ext_getElem
  · simp [rowU]
  · intro j h1 h2
    rw [List.getElem_set, rowU_get, rowU_get]
    unfold updU
    by_cases e : i = j
    · subst e; simp
    · rw [if_neg e, if_neg (Ne.symm e)]
theorem rowU_at {H : Heap} {b n j sz : Nat} {f : Nat → U32} (h : H b = some (.own 0 (rowU f n) sz)) (hj : j < n) : hcell H ⟨b, j, none⟩ = some (.int .u32 (f j).toNat) := by
  rw [hcell_at h (by rw [rowU_len]; exact hj), rowU_get]
theorem rowU_store {H : Heap} {b n j : Nat} {f : Nat → U32} {z : U32} (h : H b = some (.own 0 (rowU f n) n)) (hj : j < n) : storeV H 1 (.pointer (some ⟨b, j, none⟩)) (.int .u32 z.toNat) = some (H.set b (.own 0 (rowU (updU f j z) n) n)) := by
  rw [storeV_one_at h rfl (by rw [rowU_len]; exact hj) (by rw [rowU_len]; omega), rowU_set]
theorem rowU_one (f : Nat → U32) (n : Nat) : (rowU f n).all one = true := by simp [rowU, one]
theorem rowU_congr {f g : Nat → U32} {n : Nat} (h : ∀ j, j < n → f j = g j) : rowU f n = rowU g n := by
  unfold rowU
  apply List.map_congr_left
  intro j hj
  rw [h j (List.mem_range.1 hj)]

/-! ### the sum -/
def turnF (x : U32) (n : Nat) : U32 := x <<< (32 - n) ||| x >>> n
end Go.Bb
/- Contracts: numbers, the lowest byte first. -/
namespace Go.Bb
set_option linter.unusedSimpArgs false
set_option linter.unusedVariables false
set_option maxRecDepth 20000

def littleF (v : U64) (n : Nat) : List UInt8 := (List.range n).map fun i => UInt8.ofNat (v >>> (8 * i)).toNat
theorem littleF_len (v : U64) (n : Nat) : (littleF v n).length = n := by simp [littleF]
theorem littleF_succ (v : U64) (n : Nat) : littleF v (n + 1) = littleF v n ++ [UInt8.ofNat (v >>> (8 * n)).toNat] := by simp [littleF, List.range_succ]
theorem octet_Little_c (E : EnvT tab) (h : Heap) {b : Value} (l : List UInt8) (hl : l.length ≤ 140737488355000) (s : SlB h b l) (v : U64) (n : Nat) (hn : n ≤ 8) : ACallN E.toEnv n_octet_Little [b, .int .u64 v.toNat, .int .i64 n] h fun r h' => h.le h' ∧ OwB h h' r (l ++ littleF v n) := by
  refine acall h_octet_Little ir_octet_Little rfl rfl (wpA_sound ?_)
  unfold ir_octet_Little
  simp -implicitDefEqProofs only [zA,reduceIte,reduceCtorEq,Nat.reduceEqDiff,Nat.reduceAdd,Nat.reduceMul,Nat.reduceLT,Nat.reduceSub,Int.reduceLT,Int.reduceLE,Int.reduceEq,Int.reduceNe,Int.reduceSub,Int.reduceAdd,Int.reduceMul,Int.reduceBEq,Int.reduceBNe,Int.reduceGT,Int.reduceGE,Nat.reduceGT,Int.reduceToNat,Int.reduceNeg,Nat.reduceLeDiff,Nat.reduceBEq,Nat.reduceBneDiff]
  refine (Clone_c E h l (by omega) s).mono ?_
  rintro r h1 ⟨le1, ow⟩
  have g1 : ¬ (8 : Int) < n := by omega
  have g2 : ¬ (n : Int) < 0 := by omega
  simp -implicitDefEqProofs only [zA,reduceIte,reduceCtorEq,Nat.reduceEqDiff,Nat.reduceAdd,Nat.reduceMul,Nat.reduceLT,Nat.reduceSub,Int.reduceLT,Int.reduceLE,Int.reduceEq,Int.reduceNe,Int.reduceSub,Int.reduceAdd,Int.reduceMul,Int.reduceBEq,Int.reduceBNe,Int.reduceGT,Int.reduceGE,Nat.reduceGT,Int.reduceToNat,Int.reduceNeg,Nat.reduceLeDiff,Nat.reduceBEq,Nat.reduceBneDiff, g1, g2]
  refine wp_loop' (fun m t H => h.le H ∧ ∃ (j : Nat) (v7 : Value), t = tl [(1, .int .u64 v.toNat), (7, v7), (13, .int .i64 n), (14, .int .i64 j)] ∧ j ≤ n ∧ m = n - j ∧ OwB h H v7 (l ++ littleF v j)) n
    ⟨le1, 0, _, rfl, by omega, by omega, by simpa [littleF] using ow⟩ ?_
  rintro m t H ⟨leH, j, v7, rfl, hj, rfl, ow'⟩
  by_cases hlt : j < n
  · have e1 : (j : Int) < n := by omega
    have w1 : IntKind.i64.wrap (8 * (j : Int)) = ((8 * j : Nat) : Int) := by rw [wrapI (by omega) (by omega)]; omega
    have w2 : IntKind.i64.wrap ((j : Int) + 1) = ((j + 1 : Nat) : Int) := wrapN (by omega)
    have n1 : ¬ (((8 * j : Nat) : Int) < 0) := by omega
    have sh : ((v.toNat : Int).fdiv (2 ^ (min (8 * j) IntKind.u64.bits))) = ((v >>> (8 * j)).toNat : Int) := u64_shr v (8 * j) (by omega)
    simp -implicitDefEqProofs only [zA,reduceIte,reduceCtorEq,Nat.reduceEqDiff,Nat.reduceAdd,Nat.reduceMul,Nat.reduceLT,Nat.reduceSub,Int.reduceLT,Int.reduceLE,Int.reduceEq,Int.reduceNe,Int.reduceSub,Int.reduceAdd,Int.reduceMul,Int.reduceBEq,Int.reduceBNe,Int.reduceGT,Int.reduceGE,Nat.reduceGT,Int.reduceToNat,Int.reduceNeg,Nat.reduceLeDiff,Nat.reduceBEq,Nat.reduceBneDiff, e1, w1, n1, Int.toNat_natCast, sh, u64_u8]
    intro b1 hb1
    try simp -implicitDefEqProofs only [zA,reduceIte,reduceCtorEq,Nat.reduceEqDiff,Nat.reduceAdd,Nat.reduceMul,Nat.reduceLT,Nat.reduceSub,Int.reduceLT,Int.reduceLE,Int.reduceEq,Int.reduceNe,Int.reduceSub,Int.reduceAdd,Int.reduceMul,Int.reduceBEq,Int.reduceBNe,Int.reduceGT,Int.reduceGE,Nat.reduceGT,Int.reduceToNat,Int.reduceNeg,Nat.reduceLeDiff,Nat.reduceBEq,Nat.reduceBneDiff]
    have hlen : (l ++ littleF v j).length = l.length + j := by rw [List.length_append, littleF_len]
    refine appendP_ow (bytes := 1) (m := 1) (news := [u8V (UInt8.ofNat (v >>> (8 * j)).toNat)]) (Heap.le_new leH hb1 _) (by omega) (ow'.le (Heap.le_set (Heap.le_refl _) hb1 _)) (Sl.lit (n := 1) rfl) rfl (by omega) (by omega) ?_
    intro v3 H3 ow3 le3
    simp -implicitDefEqProofs only [zA,reduceIte,reduceCtorEq,Nat.reduceEqDiff,Nat.reduceAdd,Nat.reduceMul,Nat.reduceLT,Nat.reduceSub,Int.reduceLT,Int.reduceLE,Int.reduceEq,Int.reduceNe,Int.reduceSub,Int.reduceAdd,Int.reduceMul,Int.reduceBEq,Int.reduceBNe,Int.reduceGT,Int.reduceGE,Nat.reduceGT,Int.reduceToNat,Int.reduceNeg,Nat.reduceLeDiff,Nat.reduceBEq,Nat.reduceBneDiff, w2]
    refine ⟨n - (j + 1), by omega, le3, j + 1, v3, rfl, by omega, rfl, ?_⟩
    rw [littleF_succ, ← List.append_assoc]
    unfold OwB
    rw [List.length_append, List.map_append]
    exact ow3
  · have e1 : ¬ (j : Int) < n := by omega
    have : j = n := by omega
    subst this
    simp -implicitDefEqProofs only [zA,reduceIte,reduceCtorEq,Nat.reduceEqDiff,Nat.reduceAdd,Nat.reduceMul,Nat.reduceLT,Nat.reduceSub,Int.reduceLT,Int.reduceLE,Int.reduceEq,Int.reduceNe,Int.reduceSub,Int.reduceAdd,Int.reduceMul,Int.reduceBEq,Int.reduceBNe,Int.reduceGT,Int.reduceGE,Nat.reduceGT,Int.reduceToNat,Int.reduceNeg,Nat.reduceLeDiff,Nat.reduceBEq,Nat.reduceBneDiff, e1]
    exact ⟨leH, ow'⟩
end Go.Bb
/- Rows of numbers of any kind, and what masks and shifts tell of them. -/
namespace Go.Bb
set_option linter.unusedSimpArgs false
set_option linter.unusedVariables false

theorem set_keep {H : Heap} {b c : Nat} {X Y : Blk} (hc : H c = some Y) (e : c ≠ b) : (H.set b X) c = some Y := by rw [Heap.set_ne e]; exact hc
theorem set_new {H : Heap} {b c : Nat} {X Y : Blk} (hb : H b = none) (hc : H c = some Y) : (H.set b X) c = some Y := by rw [Heap.set_ne (ne_of_none hb hc)]; exact hc
section
variable {k : IntKind} {f g : Nat → Nat} {n : Nat}
end
theorem wrap_u64l {n : Nat} (h : n < 18446744073709551616) : IntKind.u64.wrap (n : Int) = (n : Int) := by
  rw [wrap_u64, ofInt_nat, BitVec.toNat_ofNat, Nat.mod_eq_of_lt (by omega)]
end Go.Bb
/- Numbers of seventeen digits: plain laws. -/
namespace Go.Bb
set_option linter.unusedSimpArgs false
set_option linter.unusedVariables false

set_option maxRecDepth 20000
abbrev PQ : Nat := 1361129467683753853853498429727072845819
/-! ### the sum -/
/-! ### the carries of a product -/
/-! ### one product more -/
end Go.Bb
/- Contracts: bytes turned round. -/
namespace Go.Bb
set_option linter.unusedSimpArgs false
set_option linter.unusedVariables false
set_option maxRecDepth 20000

/-- A cell of an owned slice is written. -/
theorem Ow.store1 {h0 h : Heap} {b o n c : Nat} {cells : List Value} (s : Ow h0 h 1 (.slice (some ⟨b, o, none⟩) n c) n cells) {i : Nat} (hi : i < n) {v : Value} (hv : one v = true) :
    ∃ h', storeV h 1 (.pointer (some ⟨b, o + i, none⟩)) v = some h' ∧ Ow h0 h' 1 (.slice (some ⟨b, o, none⟩) n c) n (cells.set i v) ∧ (h0.le h → h0.le h') := by
  rcases s with ⟨e, _⟩ | ⟨b', o', c', sz, st, pre, rest, e, hc, hn, hb, ho, hl, hz⟩
  · cases e
  simp only [Value.slice.injEq, Option.some.injEq, Addr.mk.injEq, and_true, true_and] at e
  obtain ⟨⟨rfl, rfl⟩, rfl⟩ := e
  have hv1 : v.cells.toList = [v] := by
    cases v <;> first | rfl | (cases hv; done)
  have hv2 : v.cells.size = 1 := by rw [← Array.length_toList, hv1]; rfl
  have hs : splice (pre ++ cells ++ rest) (o + i - st) [v] = pre ++ cells.set i v ++ rest := by
    have e1 : o + i - st = pre.length + i := by omega
    rw [e1]
    have e2 : splice (pre ++ cells ++ rest) (pre.length + i) [v] = (pre ++ cells ++ rest).set (pre.length + i) v := by
      unfold splice
      rw [List.set_eq_take_append_cons_drop, if_pos (by simp; omega)]
      simp
    rw [e2, List.set_append_left _ _ (by simp; omega), List.set_append_right _ _ (by omega), Nat.add_sub_cancel_left]
  refine ⟨h.set b (.own st (pre ++ cells.set i v ++ rest) sz), ?_, ?_, fun hle => Heap.le_set hle hn _⟩
  · simp only [storeV, hv1, hv2, true_and]
    rw [if_pos (by simp [hv])]
    simp only [hstore, hb]
    rw [if_pos ⟨by omega, by simp; omega, by simp; omega⟩, hs]
  · exact .inr ⟨b, o, c, sz, st, pre, rest, rfl, hc, hn, Heap.set_self _ _ _, ho, by simpa using hl, hz⟩

/-- Bytes, the first i pairs changed. -/
def revI (l : List UInt8) (i k : Nat) : UInt8 := if k < i ∨ l.length ≤ k + i then l.getD (l.length - 1 - k) 0 else l.getD k 0
theorem revI_row (l : List UInt8) (i : Nat) (h : l.length ≤ 2 * i + 1) : row8 (revI l i) l.length = l.reverse.map u8V := by
  have e : row8 (revI l i) l.length = row8 (fun j => l.reverse.getD j 0) l.length := by
    apply row8_congr
    intro k hk
    have hr : l.reverse.getD k 0 = l.getD (l.length - 1 - k) 0 := by
      rw [List.getD_eq_getElem?_getD, List.getD_eq_getElem?_getD, List.getElem?_reverse hk]
    rw [hr]
    unfold revI
    by_cases c : k < i ∨ l.length ≤ k + i
    · rw [if_pos c]
    · rw [if_neg c]
      have : l.length - 1 - k = k := by omega
      rw [this]
  rw [e]
  have := row8_list l.reverse
  rw [List.length_reverse] at this
  exact this
theorem revI_step (l : List UInt8) (i : Nat) (h : 2 * i + 1 < l.length) : ((row8 (revI l i) l.length).set i (.int .u8 (revI l i (l.length - 1 - i)).toNat)).set (l.length - 1 - i) (.int .u8 (revI l i i).toNat) = row8 (revI l (i + 1)) l.length := by
  rw [row8_set, row8_set]
  apply row8_congr
  intro k hk
  have a1 : revI l i i = l.getD i 0 := by unfold revI; rw [if_neg (by omega)]
  have a2 : revI l i (l.length - 1 - i) = l.getD (l.length - 1 - i) 0 := by unfold revI; rw [if_neg (by omega)]
  rw [a1, a2]
  by_cases c1 : k = l.length - 1 - i
  · rw [if_pos c1]
    unfold revI
    rw [if_pos (by omega)]
    congr 1; omega
  · rw [if_neg c1]
    by_cases c2 : k = i
    · rw [if_pos c2]
      unfold revI
      rw [if_pos (by omega), c2]
    · rw [if_neg c2]
      unfold revI
      by_cases c3 : k < i ∨ l.length ≤ k + i
      · rw [if_pos c3, if_pos (by omega)]
      · rw [if_neg c3, if_neg (by omega)]

theorem Sl.cell_at {h : Heap} {b o n c : Nat} {cells : List Value} (s : Sl h 1 (.slice (some ⟨b, o, none⟩) n c) n cells) (j : Nat) (hj : j < n) (hl : j < cells.length) : hcell h ⟨b, o + j, none⟩ = some cells[j] := by
  rcases s with ⟨e, _⟩ | ⟨a, c', e, _, hc⟩
  · cases e
  · simp only [Value.slice.injEq, Option.some.injEq, true_and] at e
    obtain ⟨rfl, _⟩ := e
    rw [hcell_of hc j (by omega)]
    simp [hl]

theorem Reverse_c (E : EnvT tab) {h0 h : Heap} (hle : h0.le h) {v : Value} (l : List UInt8) (hl : l.length ≤ 140737488355328) (s : OwB h0 h v l) : ACallN E.toEnv n_slices_Reverse_byte_byte [v] h fun r h' => h0.le h' ∧ OwB h0 h' v l.reverse := by
  obtain ⟨base, c, rfl⟩ := Sl.shape s.sl
  refine acall h_slices_Reverse_byte_byte ir_slices_Reverse_byte_byte rfl rfl (wpA_sound ?_)
  unfold ir_slices_Reverse_byte_byte
  have w0 : IntKind.i64.wrap ((l.length : Int) - 1) = (l.length : Int) - 1 := wrapI (by omega) (by omega)
  simp -implicitDefEqProofs only [zA,reduceIte,reduceCtorEq,Nat.reduceEqDiff,Nat.reduceAdd,Nat.reduceMul,Nat.reduceLT,Nat.reduceSub,Int.reduceLT,Int.reduceLE,Int.reduceEq,Int.reduceNe,Int.reduceSub,Int.reduceAdd,Int.reduceMul,Int.reduceBEq,Int.reduceBNe,Int.reduceGT,Int.reduceGE,Nat.reduceGT,Int.reduceToNat,Int.reduceNeg,Nat.reduceLeDiff,Nat.reduceBEq,Nat.reduceBneDiff, w0]
  have hl0 : l.map u8V = row8 (revI l 0) l.length := by
    rw [← row8_list]
    apply row8_congr
    intro k hk
    unfold revI
    rw [if_neg (by omega)]
  unfold OwB at s
  rw [hl0] at s
  refine wp_loop' (fun m t H => h0.le H ∧ ∃ (i : Nat), t = tl [(0, .slice base l.length c), (2, .int .i64 i), (3, .int .i64 ((l.length : Int) - 1 - i))] ∧ m = l.length - i ∧ i ≤ l.length ∧ Ow h0 H 1 (.slice base l.length c) l.length (row8 (revI l i) l.length)) l.length
    ⟨hle, 0, by simp, by omega, by omega, s⟩ ?_
  rintro m t H ⟨leH, i, rfl, rfl, hi, ow⟩
  by_cases hlt : 2 * i + 1 < l.length
  · have g1 : (i : Int) < (l.length : Int) - 1 - i := by omega
    rcases Ow.shape ow with ⟨_, hz, _⟩ | ⟨b, o, c2, hv⟩
    · omega
    simp only [Value.slice.injEq, true_and] at hv
    obtain ⟨rfl, rfl⟩ := hv
    obtain ⟨J, hJ⟩ : ∃ J : Nat, l.length - 1 - i = J := ⟨_, rfl⟩
    have eJ : (l.length : Int) - 1 - i = (J : Int) := by omega
    have cI := Sl.cell_at ow.sl i (by omega) (by rw [row8_len]; omega)
    have cJ := Sl.cell_at ow.sl J (by omega) (by rw [row8_len]; omega)
    rw [row8_get] at cI cJ
    obtain ⟨h1, s1, ow1, le1⟩ := ow.store1 (i := i) (by omega) (v := .int .u8 (revI l i J).toNat) rfl
    obtain ⟨h2, s2, ow2, le2⟩ := ow1.store1 (i := J) (by omega) (v := .int .u8 (revI l i i).toNat) rfl
    have hst := revI_step l i hlt
    rw [hJ] at hst
    rw [hst] at ow2
    have b1 : (i : Int) < l.length := by omega
    have b2 : (0 : Int) ≤ i := by omega
    have b3 : (J : Int) < l.length := by omega
    have b4 : (0 : Int) ≤ J := by omega
    have w1 : IntKind.i64.wrap ((i : Int) + 1) = ((i + 1 : Nat) : Int) := wrapN (by omega)
    have w2 : IntKind.i64.wrap ((J : Int) - 1) = (l.length : Int) - 1 - ((i + 1 : Nat) : Int) := by rw [wrapI (by omega) (by omega)]; omega
    rw [eJ] at g1 ⊢
    simp -implicitDefEqProofs only [zA,reduceIte,reduceCtorEq,Nat.reduceEqDiff,Nat.reduceAdd,Nat.reduceMul,Nat.reduceLT,Nat.reduceSub,Int.reduceLT,Int.reduceLE,Int.reduceEq,Int.reduceNe,Int.reduceSub,Int.reduceAdd,Int.reduceMul,Int.reduceBEq,Int.reduceBNe,Int.reduceGT,Int.reduceGE,Nat.reduceGT,Int.reduceToNat,Int.reduceNeg,Nat.reduceLeDiff,Nat.reduceBEq,Nat.reduceBneDiff, g1, b1, b2, b3, b4, Int.toNat_natCast, cI, cJ, s1, s2, w1, w2, implies_true]
    refine ⟨l.length - (i + 1), by omega, le2 (le1 leH), i + 1, rfl, rfl, by omega, ow2⟩
  · have g1 : ¬ (i : Int) < (l.length : Int) - 1 - i := by omega
    rw [revI_row l i (by omega)] at ow
    simp -implicitDefEqProofs only [zA,reduceIte,reduceCtorEq,Nat.reduceEqDiff,Nat.reduceAdd,Nat.reduceMul,Nat.reduceLT,Nat.reduceSub,Int.reduceLT,Int.reduceLE,Int.reduceEq,Int.reduceNe,Int.reduceSub,Int.reduceAdd,Int.reduceMul,Int.reduceBEq,Int.reduceBNe,Int.reduceGT,Int.reduceGE,Nat.reduceGT,Int.reduceToNat,Int.reduceNeg,Nat.reduceLeDiff,Nat.reduceBEq,Nat.reduceBneDiff, g1]
    refine ⟨leH, ?_⟩
    unfold OwB
    rw [List.length_reverse]
    exact ow
end Go.Bb
/- Contracts: products of words. -/
namespace Go.Bb
set_option linter.unusedSimpArgs false
set_option linter.unusedVariables false
set_option maxRecDepth 20000

theorem wrap_u64n {n : Nat} (h : n < 18446744073709551616) : IntKind.u64.wrap (n : Int) = (n : Int) := by
  rw [wrap_u64, ofInt_nat]; simp; omega
theorem wrap_u64m (n : Nat) : IntKind.u64.wrap (n : Int) = ((n % 18446744073709551616 : Nat) : Int) := by
  rw [wrap_u64, ofInt_nat]; simp
theorem and_low (a : Nat) : IntKind.u64.wrap ((BitVec.ofInt IntKind.u64.bits (a : Int) &&& BitVec.ofInt IntKind.u64.bits 4294967295).toNat : Int) = ((a % 4294967296 : Nat) : Int) := by
  have e : (BitVec.ofInt IntKind.u64.bits (a : Int) &&& BitVec.ofInt IntKind.u64.bits 4294967295).toNat = a % 4294967296 := by
    rw [show IntKind.u64.bits = 64 from rfl, show BitVec.ofInt 64 4294967295 = BitVec.ofNat 64 (2 ^ 32 - 1) from rfl, ofInt_nat, BitVec.toNat_and, BitVec.toNat_ofNat, BitVec.toNat_ofNat]
    rw [Nat.mod_eq_of_lt (show 2 ^ 32 - 1 < 2 ^ 64 by decide), Nat.and_two_pow_sub_one_eq_mod]
    omega
  rw [e]
  exact wrap_u64n (by omega)
theorem shr_32 (a : Nat) : (a : Int).fdiv (2 ^ (min (Int.toNat 32) IntKind.u64.bits)) = ((a / 4294967296 : Nat) : Int) := by
  rw [show min (Int.toNat 32) IntKind.u64.bits = 32 from rfl, Int.fdiv_eq_ediv_of_nonneg _ (by decide)]
  simp
theorem shr_32' (a : Nat) : (a : Int).fdiv (2 ^ (min 32 IntKind.u64.bits)) = ((a / 4294967296 : Nat) : Int) := shr_32 a

theorem mul_parts (x1 x0 y1 y0 : Nat) (hx : x0 < 4294967296) (hy : y0 < 4294967296) :
    x1 * y1 + (x1 * y0 + x0 * y0 / 4294967296) / 4294967296 + ((x1 * y0 + x0 * y0 / 4294967296) % 4294967296 + x0 * y1) / 4294967296 = (x1 * 4294967296 + x0) * (y1 * 4294967296 + y0) / 18446744073709551616 := by
  have e : (x1 * 4294967296 + x0) * (y1 * 4294967296 + y0) = x1 * y1 * 18446744073709551616 + (x1 * y0 + x0 * y1) * 4294967296 + x0 * y0 := by
    rw [Nat.add_mul, Nat.mul_add, Nat.mul_add]
    have h1 : x1 * 4294967296 * (y1 * 4294967296) = x1 * y1 * 18446744073709551616 := by
      rw [Nat.mul_mul_mul_comm]
    have h2 : x1 * 4294967296 * y0 = x1 * y0 * 4294967296 := by rw [Nat.mul_right_comm]
    have h3 : x0 * (y1 * 4294967296) = x0 * y1 * 4294967296 := by rw [Nat.mul_assoc]
    rw [h1, h2, h3, Nat.add_mul]
    omega
  rw [e]
  generalize x1 * y1 = A
  generalize x1 * y0 = B
  generalize x0 * y1 = C
  generalize x0 * y0 = D
  omega

theorem Mul64_c (E : EnvT tab) (h : Heap) (a b : Nat) (ha : a < 18446744073709551616) (hb : b < 18446744073709551616) :
    ACallN E.toEnv n_math_bits_Mul64 [.int .u64 a, .int .u64 b] h fun r h' => h' = h ∧ r = .tuple #[.int .u64 ((a * b / 18446744073709551616 : Nat) : Int), .int .u64 ((a * b % 18446744073709551616 : Nat) : Int)] := by
  refine acall h_math_bits_Mul64 ir_math_bits_Mul64 rfl rfl (wpA_sound ?_)
  unfold ir_math_bits_Mul64
  have hx0 : a % 4294967296 < 4294967296 := Nat.mod_lt _ (by decide)
  have hy0 : b % 4294967296 < 4294967296 := Nat.mod_lt _ (by decide)
  have hx1 : a / 4294967296 < 4294967296 := by omega
  have hy1 : b / 4294967296 < 4294967296 := by omega
  have key := mul_parts (a / 4294967296) (a % 4294967296) (b / 4294967296) (b % 4294967296) hx0 hy0
  rw [show a / 4294967296 * 4294967296 + a % 4294967296 = a from by omega, show b / 4294967296 * 4294967296 + b % 4294967296 = b from by omega] at key
  have lo : IntKind.u64.wrap ((a : Int) * b) = ((a * b % 18446744073709551616 : Nat) : Int) := by rw [← Int.natCast_mul, wrap_u64m]
  simp -implicitDefEqProofs only [zA,reduceIte,reduceCtorEq,Nat.reduceEqDiff,Nat.reduceAdd,Nat.reduceMul,Nat.reduceLT,Nat.reduceSub,Int.reduceLT,Int.reduceLE,Int.reduceEq,Int.reduceNe,Int.reduceSub,Int.reduceAdd,Int.reduceMul,Int.reduceBEq,Int.reduceBNe,Int.reduceGT,Int.reduceGE,Nat.reduceGT,Int.reduceToNat,Int.reduceNeg,Nat.reduceLeDiff,Nat.reduceBEq,Nat.reduceBneDiff, and_low, shr_32, shr_32']
  generalize a / 4294967296 = x1 at *
  generalize a % 4294967296 = x0 at *
  generalize b / 4294967296 = y1 at *
  generalize b % 4294967296 = y0 at *
  have bd : ∀ x y : Nat, x < 4294967296 → y < 4294967296 → x * y ≤ 18446744065119617025 := fun x y h1 h2 => by
    have := Nat.mul_le_mul (show x ≤ 4294967295 by omega) (show y ≤ 4294967295 by omega)
    simpa using this
  have b00 := bd x0 y0 hx0 hy0
  have b10 := bd x1 y0 hx1 hy0
  have b01 := bd x0 y1 hx0 hy1
  have b11 := bd x1 y1 hx1 hy1
  have pr : ∀ x y : Nat, x * y ≤ 18446744065119617025 → IntKind.u64.wrap ((x : Int) * (y : Int)) = ((x * y : Nat) : Int) := fun x y h => by rw [← Int.natCast_mul]; exact wrap_u64n (by omega)
  have ad : ∀ x y : Nat, x + y < 18446744073709551616 → IntKind.u64.wrap ((x : Int) + (y : Int)) = ((x + y : Nat) : Int) := fun x y h => by rw [← Int.natCast_add]; exact wrap_u64n h
  rw [pr _ _ b00, pr _ _ b10, pr _ _ b01, pr _ _ b11, lo]
  generalize x0 * y0 = p00 at *
  generalize x1 * y0 = p10 at *
  generalize x0 * y1 = p01 at *
  generalize x1 * y1 = p11 at *
  have s1 := shr_32' p00
  rw [s1, ad p10 (p00 / 4294967296) (by omega)]
  rw [shr_32', and_low, ad _ p01 (by omega), shr_32', ad p11 _ (by omega), ad _ _ (by omega), key]
end Go.Bb
/- Contracts: numbers of three words. -/
namespace Go.Bb
set_option linter.unusedSimpArgs false
set_option linter.unusedVariables false
set_option maxRecDepth 20000

/-- A number of three words. -/
structure N3 where
  a : Nat
  b : Nat
  c : Nat
def N3.ok (x : N3) : Prop := x.a < 18446744073709551616 ∧ x.b < 18446744073709551616 ∧ x.c < 18446744073709551616
def N3.val (x : N3) : Nat := x.a + 18446744073709551616 * x.b + 340282366920938463463374607431768211456 * x.c
def N3.cells (x : N3) : List Value := [.int .u64 (x.a : Int), .int .u64 (x.b : Int), .int .u64 (x.c : Int)]
def N3.V (x : N3) : Value := .agg x.cells.toArray
def N3.plus (x y : N3) : N3 :=
  ⟨(x.a + y.a) % 18446744073709551616, (x.b + y.b + (x.a + y.a) / 18446744073709551616) % 18446744073709551616, (x.c + (y.c + (x.b + y.b + (x.a + y.a) / 18446744073709551616) / 18446744073709551616) % 18446744073709551616) % 18446744073709551616⟩
theorem N3.plus_ok (x y : N3) : (x.plus y).ok := ⟨Nat.mod_lt _ (by decide), Nat.mod_lt _ (by decide), Nat.mod_lt _ (by decide)⟩
theorem N3.plus_val (x y : N3) : (x.plus y).val = (x.val + y.val) % 6277101735386680763835789423207666416102355444464034512896 := by
  unfold N3.plus N3.val
  simp only
  omega

theorem add64_0 (x y : Nat) : primV .add64 [.int .u64 (x : Int), .int .u64 (y : Int), .int .u64 0] = some (.tuple #[.int .u64 (((x + y) % 18446744073709551616 : Nat) : Int), .int .u64 (((x + y) / 18446744073709551616 : Nat) : Int)]) := by
  simp [primV]
theorem add64_c (x y c : Nat) (hc : c ≤ 1) : primV .add64 [.int .u64 (x : Int), .int .u64 (y : Int), .int .u64 (c : Int)] = some (.tuple #[.int .u64 (((x + y + c) % 18446744073709551616 : Nat) : Int), .int .u64 (((x + y + c) / 18446744073709551616 : Nat) : Int)]) := by
  have : (c : Int) = 0 ∨ (c : Int) = 1 := by omega
  simp only [primV, if_pos this, Int.toNat_natCast]

theorem num_plus_c (E : EnvT tab) (h : Heap) (x y : N3) (hx : x.ok) (hy : y.ok) : ACallN E.toEnv n_poly_num_plus [x.V, y.V] h fun r h' => h.le h' ∧ r = (x.plus y).V := by
  obtain ⟨x0, x1, x2⟩ := x
  obtain ⟨y0, y1, y2⟩ := y
  obtain ⟨hx0, hx1, hx2⟩ := hx
  obtain ⟨hy0, hy1, hy2⟩ := hy
  simp only at hx0 hx1 hx2 hy0 hy1 hy2
  refine acall h_poly_num_plus ir_poly_num_plus rfl rfl (wpA_sound ?_)
  unfold ir_poly_num_plus N3.V N3.cells
  have c1 : (((x0 + y0) / 18446744073709551616 : Nat) : Int) = 0 ∨ (((x0 + y0) / 18446744073709551616 : Nat) : Int) = 1 := by omega
  have w1 : IntKind.u64.wrap ((y2 : Int) + (((x1 + y1 + (x0 + y0) / 18446744073709551616) / 18446744073709551616 : Nat) : Int)) = (((y2 + (x1 + y1 + (x0 + y0) / 18446744073709551616) / 18446744073709551616) % 18446744073709551616 : Nat) : Int) := by rw [← Int.natCast_add, wrap_u64m]
  have w2 : IntKind.u64.wrap ((x2 : Int) + (((y2 + (x1 + y1 + (x0 + y0) / 18446744073709551616) / 18446744073709551616) % 18446744073709551616 : Nat) : Int)) = (((x2 + (y2 + (x1 + y1 + (x0 + y0) / 18446744073709551616) / 18446744073709551616) % 18446744073709551616) % 18446744073709551616 : Nat) : Int) := by rw [← Int.natCast_add, wrap_u64m]
  simp -implicitDefEqProofs only [zA,reduceIte,reduceCtorEq,Nat.reduceEqDiff,Nat.reduceAdd,Nat.reduceMul,Nat.reduceLT,Nat.reduceSub,Int.reduceLT,Int.reduceLE,Int.reduceEq,Int.reduceNe,Int.reduceSub,Int.reduceAdd,Int.reduceMul,Int.reduceBEq,Int.reduceBNe,Int.reduceGT,Int.reduceGE,Nat.reduceGT,Int.reduceToNat,Int.reduceNeg,Nat.reduceLeDiff,Nat.reduceBEq,Nat.reduceBneDiff]
  intro b2 hb2 b3 hb3 b4 hb4
  try simp -implicitDefEqProofs only [zA,reduceIte,reduceCtorEq,Nat.reduceEqDiff,Nat.reduceAdd,Nat.reduceMul,Nat.reduceLT,Nat.reduceSub,Int.reduceLT,Int.reduceLE,Int.reduceEq,Int.reduceNe,Int.reduceSub,Int.reduceAdd,Int.reduceMul,Int.reduceBEq,Int.reduceBNe,Int.reduceGT,Int.reduceGE,Nat.reduceGT,Int.reduceToNat,Int.reduceNeg,Nat.reduceLeDiff,Nat.reduceBEq,Nat.reduceBneDiff]
  have q32 : b3 ≠ b2 := (Heap.set_none.1 hb3).1
  have q43 : b4 ≠ b3 := (Heap.set_none.1 hb4).1
  have hb4' := (Heap.set_none.1 hb4).2
  have q42 : b4 ≠ b2 := (Heap.set_none.1 hb4').1
  have f2 := fun {x : Blk} {H : Heap} {off : Nat} {s : Option Nat} => hcell_ne (h := H) (x := x) (off := off) (s := s) (Ne.symm q42)
  have f3 := fun {x : Blk} {H : Heap} {off : Nat} {s : Option Nat} => hcell_ne (h := H) (x := x) (off := off) (s := s) (Ne.symm q32)
  have f4 := fun {x : Blk} {H : Heap} {off : Nat} {s : Option Nat} => hcell_ne (h := H) (x := x) (off := off) (s := s) (Ne.symm q43)
  have g2 := fun {x : Blk} {H : Heap} {off n : Nat} {s : Option Nat} => hcells_ne (h := H) (x := x) (off := off) (n := n) (s := s) (Ne.symm q42)
  have g3 := fun {x : Blk} {H : Heap} {off n : Nat} {s : Option Nat} => hcells_ne (h := H) (x := x) (off := off) (n := n) (s := s) (Ne.symm q32)
  have t2 := fun {x : Blk} {H : Heap} {off size : Nat} {v : Value} {s : Option Nat} => storeV_ne (h := H) (x := x) (off := off) (size := size) (v := v) (s := s) (Ne.symm q42)
  have t3 := fun {x : Blk} {H : Heap} {off size : Nat} {v : Value} {s : Option Nat} => storeV_ne (h := H) (x := x) (off := off) (size := size) (v := v) (s := s) (Ne.symm q32)
  have st4 : ∀ (H : Heap) (us : List Value), us.length = 3 → us.all one = true → storeV (H.set b4 (.own 0 [.int .u64 0, .int .u64 0, .int .u64 0] 3)) 3 (.pointer (some ⟨b4, 0, none⟩)) (.agg us.toArray) = some (H.set b4 (.own 0 us 3)) := fun H us h1 h2 => z6z (by omega) h1 h2 rfl (by omega)
  have st4 := fun H (a b c : Int) => st4 H [.int .u64 a, .int .u64 b, .int .u64 c] rfl rfl
  have p1 := add64_0 x0 y0
  have p2 := add64_c x1 y1 ((x0 + y0) / 18446744073709551616) (by omega)
  simp -implicitDefEqProofs only [zA,reduceIte,reduceCtorEq,Nat.reduceEqDiff,Nat.reduceAdd,Nat.reduceMul,Nat.reduceLT,Nat.reduceSub,Int.reduceLT,Int.reduceLE,Int.reduceEq,Int.reduceNe,Int.reduceSub,Int.reduceAdd,Int.reduceMul,Int.reduceBEq,Int.reduceBNe,Int.reduceGT,Int.reduceGE,Nat.reduceGT,Int.reduceToNat,Int.reduceNeg,Nat.reduceLeDiff,Nat.reduceBEq,Nat.reduceBneDiff, f2, f3, f4, g2, g3, t2, t3, st4, Int.toNat_natCast, p1, p2, w1, w2]
  exact ⟨Heap.le_set (Heap.le_set (Heap.le_set (Heap.le_refl _) hb2 _) (Heap.set_none.1 hb3).2 _) (Heap.set_none.1 hb4').2 _, rfl⟩

theorem N3.ok2 (a b : Nat) (h : a * b < 340282366920938463463374607431768211456) : (⟨a * b % 18446744073709551616, a * b / 18446744073709551616, 0⟩ : N3).ok := ⟨Nat.mod_lt _ (by decide), by
  simp only
  generalize a * b = x at *
  omega, by simp⟩
theorem mul_lt {a b : Nat} (ha : a < 18446744073709551616) (hb : b < 18446744073709551616) : a * b < 340282366920938463463374607431768211456 := by
  have := Nat.mul_le_mul (show a ≤ 18446744073709551615 by omega) (show b ≤ 18446744073709551615 by omega)
  omega
def N3.col (s : N3) (a b : Nat) : N3 := s.plus ⟨a * b % 18446744073709551616, a * b / 18446744073709551616, 0⟩
theorem N3.col_ok (s : N3) (a b : Nat) : (s.col a b).ok := N3.plus_ok _ _
theorem store3 {H : Heap} {b : Nat} {old : List Value} (x : N3) (h : H b = some (.own 0 old 3)) (hl : old.length = 3) : storeV H 3 (.pointer (some ⟨b, 0, none⟩)) x.V = some (H.set b (.own 0 x.cells 3)) := by
  unfold N3.V; exact storeV_agg_at h (by omega) rfl rfl hl (by omega)

theorem column_c (E : EnvT tab) (h : Heap) (s : N3) (a b : Nat) (hs : s.ok) (ha : a < 18446744073709551616) (hb : b < 18446744073709551616) :
    ACallN E.toEnv n_poly_column [s.V, .int .u64 (a : Int), .int .u64 (b : Int)] h fun r h' => h.le h' ∧ r = (s.col a b).V := by
  obtain ⟨s0, s1, s2⟩ := s
  refine acall h_poly_column ir_poly_column rfl rfl (wpA_sound ?_)
  unfold ir_poly_column N3.V N3.cells
  simp -implicitDefEqProofs only [zA,reduceIte,reduceCtorEq,Nat.reduceEqDiff,Nat.reduceAdd,Nat.reduceMul,Nat.reduceLT,Nat.reduceSub,Int.reduceLT,Int.reduceLE,Int.reduceEq,Int.reduceNe,Int.reduceSub,Int.reduceAdd,Int.reduceMul,Int.reduceBEq,Int.reduceBNe,Int.reduceGT,Int.reduceGE,Nat.reduceGT,Int.reduceToNat,Int.reduceNeg,Nat.reduceLeDiff,Nat.reduceBEq,Nat.reduceBneDiff]
  intro b3 hb3 b6 hb6
  try simp -implicitDefEqProofs only [zA,reduceIte,reduceCtorEq,Nat.reduceEqDiff,Nat.reduceAdd,Nat.reduceMul,Nat.reduceLT,Nat.reduceSub,Int.reduceLT,Int.reduceLE,Int.reduceEq,Int.reduceNe,Int.reduceSub,Int.reduceAdd,Int.reduceMul,Int.reduceBEq,Int.reduceBNe,Int.reduceGT,Int.reduceGE,Nat.reduceGT,Int.reduceToNat,Int.reduceNeg,Nat.reduceLeDiff,Nat.reduceBEq,Nat.reduceBneDiff]
  have n63 := (Heap.set_none.1 hb6).1
  have hb6' := (Heap.set_none.1 hb6).2
  have le1 : h.le ((h.set b3 (.own 0 [.int .u64 (s0 : Int), .int .u64 (s1 : Int), .int .u64 (s2 : Int)] 3)).set b6 (.own 0 [.int .u64 0, .int .u64 0, .int .u64 0] 3)) := Heap.le_set (Heap.le_set (Heap.le_refl _) hb3 _) hb6' _
  have q6 : ((h.set b3 (.own 0 [.int .u64 (s0 : Int), .int .u64 (s1 : Int), .int .u64 (s2 : Int)] 3)).set b6 (.own 0 [.int .u64 0, .int .u64 0, .int .u64 0] 3)) b6 = some (.own 0 [.int .u64 0, .int .u64 0, .int .u64 0] 3) := Heap.set_self _ _ _
  have q3 : hcells ((h.set b3 (.own 0 [.int .u64 (s0 : Int), .int .u64 (s1 : Int), .int .u64 (s2 : Int)] 3)).set b6 (.own 0 [.int .u64 0, .int .u64 0, .int .u64 0] 3)) ⟨b3, 0, none⟩ 3 = some [.int .u64 (s0 : Int), .int .u64 (s1 : Int), .int .u64 (s2 : Int)] := by rw [hcells_ne (Ne.symm n63)]; exact z6x rfl
  generalize ((h.set b3 (.own 0 [.int .u64 (s0 : Int), .int .u64 (s1 : Int), .int .u64 (s2 : Int)] 3)).set b6 (.own 0 [.int .u64 0, .int .u64 0, .int .u64 0] 3)) = h1 at le1 q6 q3
  refine (Mul64_c E _ a b ha hb).mono ?_
  rintro r h' ⟨rfl, rfl⟩
  simp -implicitDefEqProofs only [zA,reduceIte,reduceCtorEq,Nat.reduceEqDiff,Nat.reduceAdd,Nat.reduceMul,Nat.reduceLT,Nat.reduceSub,Int.reduceLT,Int.reduceLE,Int.reduceEq,Int.reduceNe,Int.reduceSub,Int.reduceAdd,Int.reduceMul,Int.reduceBEq,Int.reduceBNe,Int.reduceGT,Int.reduceGE,Nat.reduceGT,Int.reduceToNat,Int.reduceNeg,Nat.reduceLeDiff,Nat.reduceBEq,Nat.reduceBneDiff, q3]
  refine (num_plus_c E h' ⟨s0, s1, s2⟩ ⟨a * b % 18446744073709551616, a * b / 18446744073709551616, 0⟩ hs (N3.ok2 a b (mul_lt ha hb))).mono ?_
  rintro r h2 ⟨le2, rfl⟩
  have st := store3 (((⟨s0, s1, s2⟩ : N3)).plus ⟨a * b % 18446744073709551616, a * b / 18446744073709551616, 0⟩) (le2 _ _ q6) rfl
  have hl := z6x (h := h2) (b := b6) (vs := (((⟨s0, s1, s2⟩ : N3)).plus ⟨a * b % 18446744073709551616, a * b / 18446744073709551616, 0⟩).cells) (sz := 3) (n := 3) rfl
  simp -implicitDefEqProofs only [zA,reduceIte,reduceCtorEq,Nat.reduceEqDiff,Nat.reduceAdd,Nat.reduceMul,Nat.reduceLT,Nat.reduceSub,Int.reduceLT,Int.reduceLE,Int.reduceEq,Int.reduceNe,Int.reduceSub,Int.reduceAdd,Int.reduceMul,Int.reduceBEq,Int.reduceBNe,Int.reduceGT,Int.reduceGE,Nat.reduceGT,Int.reduceToNat,Int.reduceNeg,Nat.reduceLeDiff,Nat.reduceBEq,Nat.reduceBneDiff, st, hl]
  exact ⟨Heap.le_set (Heap.le_trans le1 le2) hb6' _, rfl⟩
end Go.Bb
/- Contracts: numbers of three words, cut. -/
namespace Go.Bb
set_option linter.unusedSimpArgs false
set_option linter.unusedVariables false
set_option maxRecDepth 20000

theorem and_3 (a : Nat) : IntKind.u64.wrap ((BitVec.ofInt IntKind.u64.bits (a : Int) &&& BitVec.ofInt IntKind.u64.bits 3).toNat : Int) = ((a % 4 : Nat) : Int) := by
  have e : (BitVec.ofInt IntKind.u64.bits (a : Int) &&& BitVec.ofInt IntKind.u64.bits 3).toNat = a % 4 := by
    rw [show IntKind.u64.bits = 64 from rfl, show BitVec.ofInt 64 3 = BitVec.ofNat 64 (2 ^ 2 - 1) from rfl, ofInt_nat, BitVec.toNat_and, BitVec.toNat_ofNat, BitVec.toNat_ofNat]
    rw [Nat.mod_eq_of_lt (show 2 ^ 2 - 1 < 2 ^ 64 by decide), Nat.and_two_pow_sub_one_eq_mod]
    omega
  rw [e]
  exact wrap_u64n (by omega)
theorem shr_2 (a : Nat) : (a : Int).fdiv (2 ^ (min (Int.toNat 2) IntKind.u64.bits)) = ((a / 4 : Nat) : Int) := by
  rw [show min (Int.toNat 2) IntKind.u64.bits = 2 from rfl, Int.fdiv_eq_ediv_of_nonneg _ (by decide)]
  simp
theorem shr_2' (a : Nat) : (a : Int).fdiv (2 ^ (min 2 IntKind.u64.bits)) = ((a / 4 : Nat) : Int) := shr_2 a

def N3.cut (x : N3) : N3 := (⟨x.a, x.b, x.c % 4⟩ : N3).plus ⟨x.c / 4 * 5 % 18446744073709551616, x.c / 4 * 5 / 18446744073709551616, 0⟩
theorem N3.cut_ok (x : N3) : x.cut.ok := N3.plus_ok _ _
theorem num_cut_c (E : EnvT tab) (h : Heap) (x : N3) (hx : x.ok) : ACallN E.toEnv n_poly_num_cut [x.V] h fun r h' => h.le h' ∧ r = x.cut.V := by
  obtain ⟨s0, s1, s2⟩ := x
  obtain ⟨k0, k1, k2⟩ := hx
  simp only at k0 k1 k2
  refine acall h_poly_num_cut ir_poly_num_cut rfl rfl (wpA_sound ?_)
  unfold ir_poly_num_cut N3.V N3.cells
  simp -implicitDefEqProofs only [zA,reduceIte,reduceCtorEq,Nat.reduceEqDiff,Nat.reduceAdd,Nat.reduceMul,Nat.reduceLT,Nat.reduceSub,Int.reduceLT,Int.reduceLE,Int.reduceEq,Int.reduceNe,Int.reduceSub,Int.reduceAdd,Int.reduceMul,Int.reduceBEq,Int.reduceBNe,Int.reduceGT,Int.reduceGE,Nat.reduceGT,Int.reduceToNat,Int.reduceNeg,Nat.reduceLeDiff,Nat.reduceBEq,Nat.reduceBneDiff]
  intro b3 hb3 b6 hb6
  try simp -implicitDefEqProofs only [zA,reduceIte,reduceCtorEq,Nat.reduceEqDiff,Nat.reduceAdd,Nat.reduceMul,Nat.reduceLT,Nat.reduceSub,Int.reduceLT,Int.reduceLE,Int.reduceEq,Int.reduceNe,Int.reduceSub,Int.reduceAdd,Int.reduceMul,Int.reduceBEq,Int.reduceBNe,Int.reduceGT,Int.reduceGE,Nat.reduceGT,Int.reduceToNat,Int.reduceNeg,Nat.reduceLeDiff,Nat.reduceBEq,Nat.reduceBneDiff]
  have n63 := (Heap.set_none.1 hb6).1
  have hb6' := (Heap.set_none.1 hb6).2
  have le1 : h.le ((h.set b3 (.own 0 [.int .u64 (s0 : Int), .int .u64 (s1 : Int), .int .u64 ((s2 % 4 : Nat) : Int)] 3)).set b6 (.own 0 [.int .u64 0, .int .u64 0, .int .u64 0] 3)) := Heap.le_set (Heap.le_set (Heap.le_refl _) hb3 _) hb6' _
  have q6 : ((h.set b3 (.own 0 [.int .u64 (s0 : Int), .int .u64 (s1 : Int), .int .u64 ((s2 % 4 : Nat) : Int)] 3)).set b6 (.own 0 [.int .u64 0, .int .u64 0, .int .u64 0] 3)) b6 = some (.own 0 [.int .u64 0, .int .u64 0, .int .u64 0] 3) := Heap.set_self _ _ _
  have q3 : hcells ((h.set b3 (.own 0 [.int .u64 (s0 : Int), .int .u64 (s1 : Int), .int .u64 ((s2 % 4 : Nat) : Int)] 3)).set b6 (.own 0 [.int .u64 0, .int .u64 0, .int .u64 0] 3)) ⟨b3, 0, none⟩ 3 = some [.int .u64 (s0 : Int), .int .u64 (s1 : Int), .int .u64 ((s2 % 4 : Nat) : Int)] := by rw [hcells_ne (Ne.symm n63)]; exact z6x rfl
  have f3 := fun {x : Blk} {H : Heap} {off : Nat} {s : Option Nat} => hcell_ne (h := H) (x := x) (off := off) (s := s) (Ne.symm n63)
  have t3 := fun {x : Blk} {H : Heap} {off size : Nat} {v : Value} {s : Option Nat} => storeV_ne (h := H) (x := x) (off := off) (size := size) (v := v) (s := s) (Ne.symm n63)
  simp -implicitDefEqProofs only [zA,reduceIte,reduceCtorEq,Nat.reduceEqDiff,Nat.reduceAdd,Nat.reduceMul,Nat.reduceLT,Nat.reduceSub,Int.reduceLT,Int.reduceLE,Int.reduceEq,Int.reduceNe,Int.reduceSub,Int.reduceAdd,Int.reduceMul,Int.reduceBEq,Int.reduceBNe,Int.reduceGT,Int.reduceGE,Nat.reduceGT,Int.reduceToNat,Int.reduceNeg,Nat.reduceLeDiff,Nat.reduceBEq,Nat.reduceBneDiff, f3, t3, and_3, shr_2, shr_2']
  generalize ((h.set b3 (.own 0 [.int .u64 (s0 : Int), .int .u64 (s1 : Int), .int .u64 ((s2 % 4 : Nat) : Int)] 3)).set b6 (.own 0 [.int .u64 0, .int .u64 0, .int .u64 0] 3)) = h1 at le1 q6 q3 ⊢
  refine (Mul64_c E _ (s2 / 4) 5 (by omega) (by decide)).mono ?_
  rintro r h' ⟨rfl, rfl⟩
  simp -implicitDefEqProofs only [zA,reduceIte,reduceCtorEq,Nat.reduceEqDiff,Nat.reduceAdd,Nat.reduceMul,Nat.reduceLT,Nat.reduceSub,Int.reduceLT,Int.reduceLE,Int.reduceEq,Int.reduceNe,Int.reduceSub,Int.reduceAdd,Int.reduceMul,Int.reduceBEq,Int.reduceBNe,Int.reduceGT,Int.reduceGE,Nat.reduceGT,Int.reduceToNat,Int.reduceNeg,Nat.reduceLeDiff,Nat.reduceBEq,Nat.reduceBneDiff, q3]
  refine (num_plus_c E h' ⟨s0, s1, s2 % 4⟩ ⟨s2 / 4 * 5 % 18446744073709551616, s2 / 4 * 5 / 18446744073709551616, 0⟩ ⟨k0, k1, by simp only; omega⟩ (N3.ok2 (s2 / 4) 5 (mul_lt (by omega) (by decide)))).mono ?_
  rintro r h2 ⟨le2, rfl⟩
  have st := store3 ((⟨s0, s1, s2 % 4⟩ : N3).plus ⟨s2 / 4 * 5 % 18446744073709551616, s2 / 4 * 5 / 18446744073709551616, 0⟩) (le2 _ _ q6) rfl
  have hl := z6x (h := h2) (b := b6) (vs := ((⟨s0, s1, s2 % 4⟩ : N3).plus ⟨s2 / 4 * 5 % 18446744073709551616, s2 / 4 * 5 / 18446744073709551616, 0⟩).cells) (sz := 3) (n := 3) rfl
  simp -implicitDefEqProofs only [zA,reduceIte,reduceCtorEq,Nat.reduceEqDiff,Nat.reduceAdd,Nat.reduceMul,Nat.reduceLT,Nat.reduceSub,Int.reduceLT,Int.reduceLE,Int.reduceEq,Int.reduceNe,Int.reduceSub,Int.reduceAdd,Int.reduceMul,Int.reduceBEq,Int.reduceBNe,Int.reduceGT,Int.reduceGE,Nat.reduceGT,Int.reduceToNat,Int.reduceNeg,Nat.reduceLeDiff,Nat.reduceBEq,Nat.reduceBneDiff, st, hl]
  exact ⟨Heap.le_set (Heap.le_trans le1 le2) hb6' _, rfl⟩
end Go.Bb
/- Contracts: numbers of three words, the last form. -/
namespace Go.Bb
set_option linter.unusedSimpArgs false
set_option linter.unusedVariables false
set_option maxRecDepth 20000

def N3.last (x : N3) : N3 :=
  if 3 < (x.cut.cut.plus ⟨5, 0, 0⟩).c then ⟨(x.cut.cut.plus ⟨5, 0, 0⟩).a, (x.cut.cut.plus ⟨5, 0, 0⟩).b, (x.cut.cut.plus ⟨5, 0, 0⟩).c % 4⟩ else x.cut.cut
theorem N3.last_ok (x : N3) : x.last.ok := by
  unfold N3.last
  split
  · have := N3.plus_ok x.cut.cut ⟨5, 0, 0⟩
    exact ⟨this.1, this.2.1, by simp only; omega⟩
  · exact N3.cut_ok _
theorem ok5 : (⟨5, 0, 0⟩ : N3).ok := ⟨by simp, by simp, by simp⟩

theorem num_last_c (E : EnvT tab) (h : Heap) (x : N3) (hx : x.ok) : ACallN E.toEnv n_poly_num_last [x.V] h fun r h' => h.le h' ∧ r = x.last.V := by
  refine acall h_poly_num_last ir_poly_num_last rfl rfl (wpA_sound ?_)
  unfold ir_poly_num_last
  have eV : x.V = .agg #[.int .u64 (x.a : Int), .int .u64 (x.b : Int), .int .u64 (x.c : Int)] := rfl
  rw [eV]
  simp -implicitDefEqProofs only [zA,reduceIte,reduceCtorEq,Nat.reduceEqDiff,Nat.reduceAdd,Nat.reduceMul,Nat.reduceLT,Nat.reduceSub,Int.reduceLT,Int.reduceLE,Int.reduceEq,Int.reduceNe,Int.reduceSub,Int.reduceAdd,Int.reduceMul,Int.reduceBEq,Int.reduceBNe,Int.reduceGT,Int.reduceGE,Nat.reduceGT,Int.reduceToNat,Int.reduceNeg,Nat.reduceLeDiff,Nat.reduceBEq,Nat.reduceBneDiff]
  intro b1 hb1 b2 hb2
  try simp -implicitDefEqProofs only [zA,reduceIte,reduceCtorEq,Nat.reduceEqDiff,Nat.reduceAdd,Nat.reduceMul,Nat.reduceLT,Nat.reduceSub,Int.reduceLT,Int.reduceLE,Int.reduceEq,Int.reduceNe,Int.reduceSub,Int.reduceAdd,Int.reduceMul,Int.reduceBEq,Int.reduceBNe,Int.reduceGT,Int.reduceGE,Nat.reduceGT,Int.reduceToNat,Int.reduceNeg,Nat.reduceLeDiff,Nat.reduceBEq,Nat.reduceBneDiff]
  have n21 := (Heap.set_none.1 hb2).1
  have hb2' := (Heap.set_none.1 hb2).2
  have le1 : h.le ((h.set b1 (.own 0 [.int .u64 (x.a : Int), .int .u64 (x.b : Int), .int .u64 (x.c : Int)] 3)).set b2 (.own 0 [.int .u64 0, .int .u64 0, .int .u64 0] 3)) := Heap.le_set (Heap.le_set (Heap.le_refl _) hb1 _) hb2' _
  have q2 : ((h.set b1 (.own 0 [.int .u64 (x.a : Int), .int .u64 (x.b : Int), .int .u64 (x.c : Int)] 3)).set b2 (.own 0 [.int .u64 0, .int .u64 0, .int .u64 0] 3)) b2 = some (.own 0 [.int .u64 0, .int .u64 0, .int .u64 0] 3) := Heap.set_self _ _ _
  have q1 : ((h.set b1 (.own 0 [.int .u64 (x.a : Int), .int .u64 (x.b : Int), .int .u64 (x.c : Int)] 3)).set b2 (.own 0 [.int .u64 0, .int .u64 0, .int .u64 0] 3)) b1 = some (.own 0 x.cells 3) := by rw [Heap.set_ne (Ne.symm n21), Heap.set_self]; rfl
  generalize ((h.set b1 (.own 0 [.int .u64 (x.a : Int), .int .u64 (x.b : Int), .int .u64 (x.c : Int)] 3)).set b2 (.own 0 [.int .u64 0, .int .u64 0, .int .u64 0] 3)) = h1 at le1 q1 q2 ⊢
  have l1 : hcells h1 ⟨b1, 0, none⟩ 3 = some x.cells := by rw [hcells_at q1 (by simp [N3.cells])]; rfl
  have eX : Value.agg x.cells.toArray = x.V := rfl
  simp -implicitDefEqProofs only [zA,reduceIte,reduceCtorEq,Nat.reduceEqDiff,Nat.reduceAdd,Nat.reduceMul,Nat.reduceLT,Nat.reduceSub,Int.reduceLT,Int.reduceLE,Int.reduceEq,Int.reduceNe,Int.reduceSub,Int.reduceAdd,Int.reduceMul,Int.reduceBEq,Int.reduceBNe,Int.reduceGT,Int.reduceGE,Nat.reduceGT,Int.reduceToNat,Int.reduceNeg,Nat.reduceLeDiff,Nat.reduceBEq,Nat.reduceBneDiff, l1, eX]
  refine (num_cut_c E h1 x hx).mono ?_
  rintro r h2 ⟨le2, rfl⟩
  simp -implicitDefEqProofs only [zA,reduceIte,reduceCtorEq,Nat.reduceEqDiff,Nat.reduceAdd,Nat.reduceMul,Nat.reduceLT,Nat.reduceSub,Int.reduceLT,Int.reduceLE,Int.reduceEq,Int.reduceNe,Int.reduceSub,Int.reduceAdd,Int.reduceMul,Int.reduceBEq,Int.reduceBNe,Int.reduceGT,Int.reduceGE,Nat.reduceGT,Int.reduceToNat,Int.reduceNeg,Nat.reduceLeDiff,Nat.reduceBEq,Nat.reduceBneDiff]
  refine (num_cut_c E h2 x.cut (N3.cut_ok _)).mono ?_
  rintro r h3 ⟨le3, rfl⟩
  have st1 := store3 x.cut.cut (le3 _ _ (le2 _ _ q1)) rfl
  have l1 : hcells (h3.set b1 (.own 0 x.cut.cut.cells 3)) ⟨b1, 0, none⟩ 3 = some x.cut.cut.cells := z6x rfl
  have eC : Value.agg x.cut.cut.cells.toArray = x.cut.cut.V := rfl
  simp -implicitDefEqProofs only [zA,reduceIte,reduceCtorEq,Nat.reduceEqDiff,Nat.reduceAdd,Nat.reduceMul,Nat.reduceLT,Nat.reduceSub,Int.reduceLT,Int.reduceLE,Int.reduceEq,Int.reduceNe,Int.reduceSub,Int.reduceAdd,Int.reduceMul,Int.reduceBEq,Int.reduceBNe,Int.reduceGT,Int.reduceGE,Nat.reduceGT,Int.reduceToNat,Int.reduceNeg,Nat.reduceLeDiff,Nat.reduceBEq,Nat.reduceBneDiff, st1, l1, eC]
  have hyA : x.cut.cut.ok := N3.cut_ok _
  have hl : x.last = if 3 < (x.cut.cut.plus ⟨5, 0, 0⟩).c then ⟨(x.cut.cut.plus ⟨5, 0, 0⟩).a, (x.cut.cut.plus ⟨5, 0, 0⟩).b, (x.cut.cut.plus ⟨5, 0, 0⟩).c % 4⟩ else x.cut.cut := rfl
  rw [hl]
  have q2' := le3 _ _ (le2 _ _ q2)
  have le13 := Heap.le_trans le1 (Heap.le_trans le2 le3)
  generalize x.cut.cut = y at *
  have le4 : h.le (h3.set b1 (.own 0 y.cells 3)) := Heap.le_set le13 hb1 _
  have q24 : (h3.set b1 (.own 0 y.cells 3)) b2 = some (.own 0 [.int .u64 0, .int .u64 0, .int .u64 0] 3) := by rw [Heap.set_ne n21]; exact q2'
  have q14 : (h3.set b1 (.own 0 y.cells 3)) b1 = some (.own 0 y.cells 3) := Heap.set_self _ _ _
  generalize (h3.set b1 (.own 0 y.cells 3)) = h4 at le4 q24 q14 ⊢
  refine (num_plus_c E h4 y ⟨5, 0, 0⟩ hyA ok5).mono ?_
  rintro r h5 ⟨le5, rfl⟩
  have hz := N3.plus_ok y ⟨5, 0, 0⟩
  generalize y.plus ⟨5, 0, 0⟩ = z at *
  simp -implicitDefEqProofs only [zA,reduceIte,reduceCtorEq,Nat.reduceEqDiff,Nat.reduceAdd,Nat.reduceMul,Nat.reduceLT,Nat.reduceSub,Int.reduceLT,Int.reduceLE,Int.reduceEq,Int.reduceNe,Int.reduceSub,Int.reduceAdd,Int.reduceMul,Int.reduceBEq,Int.reduceBNe,Int.reduceGT,Int.reduceGE,Nat.reduceGT,Int.reduceToNat,Int.reduceNeg,Nat.reduceLeDiff,Nat.reduceBEq,Nat.reduceBneDiff]
  intro b3 hb3
  have q25 := le5 _ _ q24
  have q15 := le5 _ _ q14
  have st3 : storeV (h5.set b3 (.own 0 [.int .u64 0, .int .u64 0, .int .u64 0] 3)) 3 (.pointer (some ⟨b3, 0, none⟩)) z.V = some (h5.set b3 (.own 0 z.cells 3)) := z6z (by omega) rfl rfl rfl (by omega)
  have n32 := ne_of_none hb3 q25
  have n31 := ne_of_none hb3 q15
  have l3 : hcell (h5.set b3 (.own 0 z.cells 3)) ⟨b3, 2, none⟩ = some (.int .u64 (z.c : Int)) := z6w (by simp [N3.cells])
  have le6 : h.le (h5.set b3 (.own 0 z.cells 3)) := Heap.le_new (Heap.le_trans le4 le5) hb3 _
  have hb3' : h b3 = none := Heap.none_of_le (Heap.le_trans le4 le5) hb3
  by_cases g : 3 < z.c
  · have g' : (3 : Int) < z.c := by omega
    rw [if_pos g]
    have l4 : storeV (h5.set b3 (.own 0 z.cells 3)) 1 (.pointer (some ⟨b3, 2, none⟩)) (.int .u64 ((z.c % 4 : Nat) : Int)) = some (h5.set b3 (.own 0 (⟨z.a, z.b, z.c % 4⟩ : N3).cells 3)) := z6y rfl (by simp [N3.cells]) (by simp [N3.cells])
    have l5 : hcells (h5.set b3 (.own 0 (⟨z.a, z.b, z.c % 4⟩ : N3).cells 3)) ⟨b3, 0, none⟩ 3 = some (⟨z.a, z.b, z.c % 4⟩ : N3).cells := z6x rfl
    have st6 : storeV (h5.set b3 (.own 0 (⟨z.a, z.b, z.c % 4⟩ : N3).cells 3)) 3 (.pointer (some ⟨b2, 0, none⟩)) (.agg (⟨z.a, z.b, z.c % 4⟩ : N3).cells.toArray) = _ := store3 (⟨z.a, z.b, z.c % 4⟩ : N3) (by rw [Heap.set_ne n32]; exact q25) rfl
    have l6 := z6x (h := h5.set b3 (.own 0 (⟨z.a, z.b, z.c % 4⟩ : N3).cells 3)) (b := b2) (vs := (⟨z.a, z.b, z.c % 4⟩ : N3).cells) (sz := 3) (n := 3) rfl
    simp -implicitDefEqProofs only [zA,reduceIte,reduceCtorEq,Nat.reduceEqDiff,Nat.reduceAdd,Nat.reduceMul,Nat.reduceLT,Nat.reduceSub,Int.reduceLT,Int.reduceLE,Int.reduceEq,Int.reduceNe,Int.reduceSub,Int.reduceAdd,Int.reduceMul,Int.reduceBEq,Int.reduceBNe,Int.reduceGT,Int.reduceGE,Nat.reduceGT,Int.reduceToNat,Int.reduceNeg,Nat.reduceLeDiff,Nat.reduceBEq,Nat.reduceBneDiff, st3, l3, g', and_3, l4, l5, st6, l6]
    exact ⟨Heap.le_set (Heap.le_new (Heap.le_trans le4 le5) hb3 _) hb2' _, rfl⟩
  · have g' : ¬ (3 : Int) < z.c := by omega
    have g2 : (z.c : Int) ≤ 3 := by omega
    rw [if_neg g]
    have l5 : hcells (h5.set b3 (.own 0 z.cells 3)) ⟨b1, 0, none⟩ 3 = some y.cells := by rw [hcells_ne n31, hcells_at q15 (by simp [N3.cells])]; rfl
    have st6 : storeV (h5.set b3 (.own 0 z.cells 3)) 3 (.pointer (some ⟨b2, 0, none⟩)) (.agg y.cells.toArray) = _ := store3 y (by rw [Heap.set_ne n32]; exact q25) rfl
    have l6 := z6x (h := h5.set b3 (.own 0 z.cells 3)) (b := b2) (vs := y.cells) (sz := 3) (n := 3) rfl
    simp -implicitDefEqProofs only [zA,reduceIte,reduceCtorEq,Nat.reduceEqDiff,Nat.reduceAdd,Nat.reduceMul,Nat.reduceLT,Nat.reduceSub,Int.reduceLT,Int.reduceLE,Int.reduceEq,Int.reduceNe,Int.reduceSub,Int.reduceAdd,Int.reduceMul,Int.reduceBEq,Int.reduceBNe,Int.reduceGT,Int.reduceGE,Nat.reduceGT,Int.reduceToNat,Int.reduceNeg,Nat.reduceLeDiff,Nat.reduceBEq,Nat.reduceBneDiff, st3, l3, g', g2, l5, st6, l6]
    exact ⟨Heap.le_set le6 hb2' _, rfl⟩
end Go.Bb
/- Contracts: numbers of three words, multiplied. -/
namespace Go.Bb
set_option linter.unusedSimpArgs false
set_option linter.unusedVariables false
set_option maxRecDepth 20000

def z3 : N3 := ⟨0, 0, 0⟩
theorem z3_ok : z3.ok := ⟨by simp [z3], by simp [z3], by simp [z3]⟩
def colsF (x : N3) (r0 r1 : Nat) : Nat → N3
  | 0 => z3.col x.a r0
  | 1 => (z3.col x.a r1).col x.b r0
  | 2 => (z3.col x.b r1).col x.c r0
  | _ => z3.col x.c r1
theorem colsF_ok (x : N3) (r0 r1 i : Nat) : (colsF x r0 r1 i).ok := by
  unfold colsF
  split <;> exact N3.col_ok _ _ _
def carryF (C : Nat → N3) : Nat → N3
  | 0 => z3
  | i + 1 => ⟨((carryF C i).plus (C i)).b, ((carryF C i).plus (C i)).c, 0⟩
def outW (C : Nat → N3) (i : Nat) : Nat := ((carryF C i).plus (C i)).a
theorem carryF_ok (C : Nat → N3) : ∀ i, (carryF C i).ok
  | 0 => z3_ok
  | i + 1 => by
      have := N3.plus_ok (carryF C i) (C i)
      exact ⟨this.2.1, this.2.2, by simp [carryF]⟩
def addsF (x y : N3) : Nat → N3
  | 0 => x
  | n + 1 => (addsF x y n).plus y
def lowF (C : Nat → N3) : N3 := ⟨outW C 0, outW C 1, outW C 2 % 4⟩
def highF (C : Nat → N3) : N3 := ⟨outW C 2 / 4 + outW C 3 % 4 * 4611686018427387904, outW C 3 / 4, 0⟩
theorem outW_lt (C : Nat → N3) (i : Nat) : outW C i < 18446744073709551616 := (N3.plus_ok (carryF C i) (C i)).1
theorem lowF_ok (C : Nat → N3) : (lowF C).ok := ⟨outW_lt C 0, outW_lt C 1, by simp only [lowF]; omega⟩
theorem highF_ok (C : Nat → N3) : (highF C).ok := ⟨by have := outW_lt C 2; simp only [highF]; omega, by have := outW_lt C 3; simp only [highF]; omega, by simp [highF]⟩
theorem addsF_ok {x y : N3} (hx : x.ok) : ∀ n, (addsF x y n).ok
  | 0 => hx
  | n + 1 => N3.plus_ok _ _
def N3.times (x : N3) (r0 r1 : Nat) : N3 := (addsF (lowF (colsF x r0 r1)) (highF (colsF x r0 r1)) 5).cut

def rowQ (f : Nat → Nat) (n : Nat) : List Value := (List.range n).map fun j => .int .u64 ((f j : Nat) : Int)
theorem rowQ_len (f : Nat → Nat) (n : Nat) : (rowQ f n).length = n := by simp [rowQ]
theorem rowQ_get (f : Nat → Nat) {n j : Nat} (h : j < (rowQ f n).length) : (rowQ f n)[j] = .int .u64 ((f j : Nat) : Int) := by simp [rowQ]
theorem rowQ_set (f : Nat → Nat) (n i z : Nat) : (rowQ f n).set i (.int .u64 (z : Int)) = rowQ (fun j => if j = i then z else f j) n := by
  apply List.ext_getElem
  · simp [rowQ]
  · intro j h1 h2
    rw [List.getElem_set, rowQ_get, rowQ_get]
    by_cases e : i = j
    · subst e; simp
    · rw [if_neg e]; simp [Ne.symm e]
theorem rowQ_at {H : Heap} {b n j sz : Nat} {f : Nat → Nat} (h : H b = some (.own 0 (rowQ f n) sz)) (hj : j < n) : hcell H ⟨b, j, none⟩ = some (.int .u64 ((f j : Nat) : Int)) := by
  rw [hcell_at h (by rw [rowQ_len]; exact hj), rowQ_get]
theorem rowQ_store {H : Heap} {b n j z : Nat} {f : Nat → Nat} (h : H b = some (.own 0 (rowQ f n) n)) (hj : j < n) : storeV H 1 (.pointer (some ⟨b, j, none⟩)) (.int .u64 (z : Int)) = some (H.set b (.own 0 (rowQ (fun k => if k = j then z else f k) n) n)) := by
  rw [storeV_one_at h rfl (by rw [rowQ_len]; exact hj) (by rw [rowQ_len]; omega), rowQ_set]
theorem rowQ_step (g : Nat → Nat) (i n : Nat) : rowQ (fun k => if k = i then g i else (if k < i then g k else 0)) n = rowQ (fun k => if k < i + 1 then g k else 0) n := by
  unfold rowQ
  apply List.map_congr_left
  intro j _
  by_cases e : j = i
  · subst e; simp
  · simp only [e, if_false]
    by_cases e2 : j < i
    · rw [if_pos e2, if_pos (by omega)]
    · rw [if_neg e2, if_neg (by omega)]
def LST (C : Nat → N3) : List Value := (C 0).cells ++ ((C 1).cells ++ ((C 2).cells ++ (C 3).cells))
theorem LST_at (C : Nat → N3) (i : Nat) (h : i < 4) : ((LST C).drop (i * 3)).take 3 = (C i).cells := by
  match i, h with
  | 0, _ => rfl
  | 1, _ => rfl
  | 2, _ => rfl
  | 3, _ => rfl

theorem shl_62 (a : Nat) : IntKind.u64.wrap ((a : Int) * 2 ^ (min (Int.toNat 62) IntKind.u64.bits)) = ((a % 4 * 4611686018427387904 : Nat) : Int) := by
  rw [show min (Int.toNat 62) IntKind.u64.bits = 62 from rfl]
  have : (a : Int) * 2 ^ 62 = ((a * 4611686018427387904 : Nat) : Int) := by simp
  rw [this, wrap_u64m]
  congr 1
  omega
theorem shl_62' (a : Nat) : IntKind.u64.wrap ((a : Int) * 2 ^ (min 62 IntKind.u64.bits)) = ((a % 4 * 4611686018427387904 : Nat) : Int) := shl_62 a
theorem or_hi (a c : Nat) (ha : a < 4611686018427387904) (hc : c < 4) : IntKind.u64.wrap ((BitVec.ofInt IntKind.u64.bits (a : Int) ||| BitVec.ofInt IntKind.u64.bits ((c * 4611686018427387904 : Nat) : Int)).toNat : Int) = ((a + c * 4611686018427387904 : Nat) : Int) := by
  have e : (BitVec.ofInt IntKind.u64.bits (a : Int) ||| BitVec.ofInt IntKind.u64.bits ((c * 4611686018427387904 : Nat) : Int)).toNat = a + c * 4611686018427387904 := by
    rw [show IntKind.u64.bits = 64 from rfl, ofInt_nat, ofInt_nat, BitVec.toNat_or, BitVec.toNat_ofNat, BitVec.toNat_ofNat]
    rw [Nat.mod_eq_of_lt (show a < 2 ^ 64 by omega), Nat.mod_eq_of_lt (show c * 4611686018427387904 < 2 ^ 64 by omega)]
    have h := Nat.shiftLeft_add_eq_or_of_lt (i := 62) (b := a) (by omega) c
    rw [Nat.shiftLeft_eq] at h
    rw [Nat.or_comm, show c * 4611686018427387904 = c * 2 ^ 62 from rfl, ← h]
    omega
  rw [e]
  exact wrap_u64n (by omega)

theorem num_times_c (E : EnvT tab) (h : Heap) (x : N3) (r0 r1 : Nat) (hx : x.ok) (h0 : r0 < 18446744073709551616) (h1 : r1 < 18446744073709551616) :
    ACallN E.toEnv n_poly_num_times [x.V, .agg #[.int .u64 (r0 : Int), .int .u64 (r1 : Int)]] h fun r h' => h.le h' ∧ r = (x.times r0 r1).V := by
  refine acall h_poly_num_times ir_poly_num_times rfl rfl (wpA_sound ?_)
  unfold ir_poly_num_times
  have eV : x.V = .agg #[.int .u64 (x.a : Int), .int .u64 (x.b : Int), .int .u64 (x.c : Int)] := rfl
  rw [eV]
  simp -implicitDefEqProofs only [zA,reduceIte,reduceCtorEq,Nat.reduceEqDiff,Nat.reduceAdd,Nat.reduceMul,Nat.reduceLT,Nat.reduceSub,Int.reduceLT,Int.reduceLE,Int.reduceEq,Int.reduceNe,Int.reduceSub,Int.reduceAdd,Int.reduceMul,Int.reduceBEq,Int.reduceBNe,Int.reduceGT,Int.reduceGE,Nat.reduceGT,Int.reduceToNat,Int.reduceNeg,Nat.reduceLeDiff,Nat.reduceBEq,Nat.reduceBneDiff]
  intro b2 hb2 b3 hb3 b4 hb4
  try simp -implicitDefEqProofs only [zA,reduceIte,reduceCtorEq,Nat.reduceEqDiff,Nat.reduceAdd,Nat.reduceMul,Nat.reduceLT,Nat.reduceSub,Int.reduceLT,Int.reduceLE,Int.reduceEq,Int.reduceNe,Int.reduceSub,Int.reduceAdd,Int.reduceMul,Int.reduceBEq,Int.reduceBNe,Int.reduceGT,Int.reduceGE,Nat.reduceGT,Int.reduceToNat,Int.reduceNeg,Nat.reduceLeDiff,Nat.reduceBEq,Nat.reduceBneDiff]
  have n32 := (Heap.set_none.1 hb3).1
  have n43 := (Heap.set_none.1 hb4).1
  have hb4' := (Heap.set_none.1 hb4).2
  have n42 := (Heap.set_none.1 hb4').1
  have hb4'' := (Heap.set_none.1 hb4').2
  have hb3' := (Heap.set_none.1 hb3).2
  have leA : h.le (((h.set b2 (.own 0 [.int .u64 (x.a : Int), .int .u64 (x.b : Int), .int .u64 (x.c : Int)] 3)).set b3 (.own 0 [.int .u64 (r0 : Int), .int .u64 (r1 : Int)] 2)).set b4 (.own 0 [.int .u64 0, .int .u64 0, .int .u64 0] 3)) := Heap.le_set (Heap.le_set (Heap.le_set (Heap.le_refl _) hb2 _) hb3' _) hb4'' _
  have q4 : (((h.set b2 (.own 0 [.int .u64 (x.a : Int), .int .u64 (x.b : Int), .int .u64 (x.c : Int)] 3)).set b3 (.own 0 [.int .u64 (r0 : Int), .int .u64 (r1 : Int)] 2)).set b4 (.own 0 [.int .u64 0, .int .u64 0, .int .u64 0] 3)) b4 = some (.own 0 [.int .u64 0, .int .u64 0, .int .u64 0] 3) := Heap.set_self _ _ _
  have q3 : (((h.set b2 (.own 0 [.int .u64 (x.a : Int), .int .u64 (x.b : Int), .int .u64 (x.c : Int)] 3)).set b3 (.own 0 [.int .u64 (r0 : Int), .int .u64 (r1 : Int)] 2)).set b4 (.own 0 [.int .u64 0, .int .u64 0, .int .u64 0] 3)) b3 = some (.own 0 [.int .u64 (r0 : Int), .int .u64 (r1 : Int)] 2) := by rw [Heap.set_ne (Ne.symm n43), Heap.set_self]
  have q2 : (((h.set b2 (.own 0 [.int .u64 (x.a : Int), .int .u64 (x.b : Int), .int .u64 (x.c : Int)] 3)).set b3 (.own 0 [.int .u64 (r0 : Int), .int .u64 (r1 : Int)] 2)).set b4 (.own 0 [.int .u64 0, .int .u64 0, .int .u64 0] 3)) b2 = some (.own 0 [.int .u64 (x.a : Int), .int .u64 (x.b : Int), .int .u64 (x.c : Int)] 3) := by rw [Heap.set_ne (Ne.symm n42), Heap.set_ne (Ne.symm n32), Heap.set_self]
  generalize (((h.set b2 (.own 0 [.int .u64 (x.a : Int), .int .u64 (x.b : Int), .int .u64 (x.c : Int)] 3)).set b3 (.own 0 [.int .u64 (r0 : Int), .int .u64 (r1 : Int)] 2)).set b4 (.own 0 [.int .u64 0, .int .u64 0, .int .u64 0] 3)) = h1' at leA q4 q3 q2 ⊢
  have ld : ∀ H, h1'.le H → hcell H ⟨b2, 0, none⟩ = some (.int .u64 (x.a : Int)) ∧ hcell H ⟨b2, 1, none⟩ = some (.int .u64 (x.b : Int)) ∧ hcell H ⟨b2, 2, none⟩ = some (.int .u64 (x.c : Int)) ∧ hcell H ⟨b3, 0, none⟩ = some (.int .u64 (r0 : Int)) ∧ hcell H ⟨b3, 1, none⟩ = some (.int .u64 (r1 : Int)) := fun H hle =>
    ⟨hcell_at (hle _ _ q2) (by simp), hcell_at (hle _ _ q2) (by simp), hcell_at (hle _ _ q2) (by simp), hcell_at (hle _ _ q3) (by simp), hcell_at (hle _ _ q3) (by simp)⟩
  obtain ⟨a1, a2, a3, a4, a5⟩ := ld h1' (Heap.le_refl _)
  obtain ⟨hx0, hx1, hx2⟩ := hx
  simp -implicitDefEqProofs only [zA,reduceIte,reduceCtorEq,Nat.reduceEqDiff,Nat.reduceAdd,Nat.reduceMul,Nat.reduceLT,Nat.reduceSub,Int.reduceLT,Int.reduceLE,Int.reduceEq,Int.reduceNe,Int.reduceSub,Int.reduceAdd,Int.reduceMul,Int.reduceBEq,Int.reduceBNe,Int.reduceGT,Int.reduceGE,Nat.reduceGT,Int.reduceToNat,Int.reduceNeg,Nat.reduceLeDiff,Nat.reduceBEq,Nat.reduceBneDiff, a1, a2, a3, a4, a5]
  refine (column_c E h1' z3 x.a r0 z3_ok hx0 h0).mono ?_
  rintro r h2 ⟨le2, rfl⟩
  obtain ⟨c1, c2, c3, c4, c5⟩ := ld h2 le2
  simp -implicitDefEqProofs only [zA,reduceIte,reduceCtorEq,Nat.reduceEqDiff,Nat.reduceAdd,Nat.reduceMul,Nat.reduceLT,Nat.reduceSub,Int.reduceLT,Int.reduceLE,Int.reduceEq,Int.reduceNe,Int.reduceSub,Int.reduceAdd,Int.reduceMul,Int.reduceBEq,Int.reduceBNe,Int.reduceGT,Int.reduceGE,Nat.reduceGT,Int.reduceToNat,Int.reduceNeg,Nat.reduceLeDiff,Nat.reduceBEq,Nat.reduceBneDiff, a1, a2, a3, a4, a5, c1, c2, c3, c4, c5, List.mem_cons, List.mem_singleton, forall_eq_or_imp, forall_eq, implies_true, List.not_mem_nil]
  refine (column_c E h2 z3 x.a r1 z3_ok hx0 h1).mono ?_
  rintro r h3 ⟨le3, rfl⟩
  have le3' := Heap.le_trans le2 le3
  obtain ⟨d1, d2, d3, d4, d5⟩ := ld h3 le3'
  simp -implicitDefEqProofs only [zA,reduceIte,reduceCtorEq,Nat.reduceEqDiff,Nat.reduceAdd,Nat.reduceMul,Nat.reduceLT,Nat.reduceSub,Int.reduceLT,Int.reduceLE,Int.reduceEq,Int.reduceNe,Int.reduceSub,Int.reduceAdd,Int.reduceMul,Int.reduceBEq,Int.reduceBNe,Int.reduceGT,Int.reduceGE,Nat.reduceGT,Int.reduceToNat,Int.reduceNeg,Nat.reduceLeDiff,Nat.reduceBEq,Nat.reduceBneDiff, a1, a2, a3, a4, a5, c1, c2, c3, c4, c5, d1, d2, d3, d4, d5, List.mem_cons, List.mem_singleton, forall_eq_or_imp, forall_eq, implies_true, List.not_mem_nil]
  refine (column_c E h3 (z3.col x.a r1) x.b r0 (N3.col_ok _ _ _) hx1 h0).mono ?_
  rintro r h4 ⟨le4, rfl⟩
  have le4' := Heap.le_trans le3' le4
  obtain ⟨e1, e2, e3, e4, e5⟩ := ld h4 le4'
  simp -implicitDefEqProofs only [zA,reduceIte,reduceCtorEq,Nat.reduceEqDiff,Nat.reduceAdd,Nat.reduceMul,Nat.reduceLT,Nat.reduceSub,Int.reduceLT,Int.reduceLE,Int.reduceEq,Int.reduceNe,Int.reduceSub,Int.reduceAdd,Int.reduceMul,Int.reduceBEq,Int.reduceBNe,Int.reduceGT,Int.reduceGE,Nat.reduceGT,Int.reduceToNat,Int.reduceNeg,Nat.reduceLeDiff,Nat.reduceBEq,Nat.reduceBneDiff, a1, a2, a3, a4, a5, c1, c2, c3, c4, c5, d1, d2, d3, d4, d5, e1, e2, e3, e4, e5, List.mem_cons, List.mem_singleton, forall_eq_or_imp, forall_eq, implies_true, List.not_mem_nil]
  refine (column_c E h4 z3 x.b r1 z3_ok hx1 h1).mono ?_
  rintro r h5 ⟨le5, rfl⟩
  have le5' := Heap.le_trans le4' le5
  obtain ⟨f1, f2, f3, f4, f5⟩ := ld h5 le5'
  simp -implicitDefEqProofs only [zA,reduceIte,reduceCtorEq,Nat.reduceEqDiff,Nat.reduceAdd,Nat.reduceMul,Nat.reduceLT,Nat.reduceSub,Int.reduceLT,Int.reduceLE,Int.reduceEq,Int.reduceNe,Int.reduceSub,Int.reduceAdd,Int.reduceMul,Int.reduceBEq,Int.reduceBNe,Int.reduceGT,Int.reduceGE,Nat.reduceGT,Int.reduceToNat,Int.reduceNeg,Nat.reduceLeDiff,Nat.reduceBEq,Nat.reduceBneDiff, a1, a2, a3, a4, a5, c1, c2, c3, c4, c5, d1, d2, d3, d4, d5, e1, e2, e3, e4, e5, f1, f2, f3, f4, f5, List.mem_cons, List.mem_singleton, forall_eq_or_imp, forall_eq, implies_true, List.not_mem_nil]
  refine (column_c E h5 (z3.col x.b r1) x.c r0 (N3.col_ok _ _ _) hx2 h0).mono ?_
  rintro r h6 ⟨le6, rfl⟩
  have le6' := Heap.le_trans le5' le6
  obtain ⟨g1, g2, g3, g4, g5⟩ := ld h6 le6'
  simp -implicitDefEqProofs only [zA,reduceIte,reduceCtorEq,Nat.reduceEqDiff,Nat.reduceAdd,Nat.reduceMul,Nat.reduceLT,Nat.reduceSub,Int.reduceLT,Int.reduceLE,Int.reduceEq,Int.reduceNe,Int.reduceSub,Int.reduceAdd,Int.reduceMul,Int.reduceBEq,Int.reduceBNe,Int.reduceGT,Int.reduceGE,Nat.reduceGT,Int.reduceToNat,Int.reduceNeg,Nat.reduceLeDiff,Nat.reduceBEq,Nat.reduceBneDiff, a1, a2, a3, a4, a5, c1, c2, c3, c4, c5, d1, d2, d3, d4, d5, e1, e2, e3, e4, e5, f1, f2, f3, f4, f5, g1, g2, g3, g4, g5, List.mem_cons, List.mem_singleton, forall_eq_or_imp, forall_eq, implies_true, List.not_mem_nil]
  refine (column_c E h6 z3 x.c r1 z3_ok hx2 h1).mono ?_
  rintro r h7 ⟨le7, rfl⟩
  have le7' := Heap.le_trans le6' le7
  obtain ⟨k1, k2, k3, k4, k5⟩ := ld h7 le7'
  have eZ0 : (z3.col x.a r0).V = .agg #[.int .u64 ((z3.col x.a r0).a : Int), .int .u64 ((z3.col x.a r0).b : Int), .int .u64 ((z3.col x.a r0).c : Int)] := rfl
  have eZ1 : ((z3.col x.a r1).col x.b r0).V = .agg #[.int .u64 (((z3.col x.a r1).col x.b r0).a : Int), .int .u64 (((z3.col x.a r1).col x.b r0).b : Int), .int .u64 (((z3.col x.a r1).col x.b r0).c : Int)] := rfl
  have eZ2 : ((z3.col x.b r1).col x.c r0).V = .agg #[.int .u64 (((z3.col x.b r1).col x.c r0).a : Int), .int .u64 (((z3.col x.b r1).col x.c r0).b : Int), .int .u64 (((z3.col x.b r1).col x.c r0).c : Int)] := rfl
  have eZ3 : (z3.col x.c r1).V = .agg #[.int .u64 ((z3.col x.c r1).a : Int), .int .u64 ((z3.col x.c r1).b : Int), .int .u64 ((z3.col x.c r1).c : Int)] := rfl
  simp -implicitDefEqProofs only [zA,reduceIte,reduceCtorEq,Nat.reduceEqDiff,Nat.reduceAdd,Nat.reduceMul,Nat.reduceLT,Nat.reduceSub,Int.reduceLT,Int.reduceLE,Int.reduceEq,Int.reduceNe,Int.reduceSub,Int.reduceAdd,Int.reduceMul,Int.reduceBEq,Int.reduceBNe,Int.reduceGT,Int.reduceGE,Nat.reduceGT,Int.reduceToNat,Int.reduceNeg,Nat.reduceLeDiff,Nat.reduceBEq,Nat.reduceBneDiff, a1, a2, a3, a4, a5, c1, c2, c3, c4, c5, d1, d2, d3, d4, d5, e1, e2, e3, e4, e5, f1, f2, f3, f4, f5, g1, g2, g3, g4, g5, k1, k2, k3, k4, k5, List.mem_cons, List.mem_singleton, forall_eq_or_imp, forall_eq, implies_true, List.not_mem_nil, List.drop_replicate, List.replicate_zero, List.length_replicate, eZ0, eZ1, eZ2, eZ3]
  intro b5 hb5 b6 hb6 b7 hb7
  have eL : ∀ l : List Value, l = LST (colsF x r0 r1) → h7.set b5 (.own 0 l 12) = h7.set b5 (.own 0 (LST (colsF x r0 r1)) 12) := fun l e => by rw [e]
  have eL := eL [.int .u64 ((z3.col x.a r0).a : Int), .int .u64 ((z3.col x.a r0).b : Int), .int .u64 ((z3.col x.a r0).c : Int), .int .u64 (((z3.col x.a r1).col x.b r0).a : Int), .int .u64 (((z3.col x.a r1).col x.b r0).b : Int), .int .u64 (((z3.col x.a r1).col x.b r0).c : Int), .int .u64 (((z3.col x.b r1).col x.c r0).a : Int), .int .u64 (((z3.col x.b r1).col x.c r0).b : Int), .int .u64 (((z3.col x.b r1).col x.c r0).c : Int), .int .u64 ((z3.col x.c r1).a : Int), .int .u64 ((z3.col x.c r1).b : Int), .int .u64 ((z3.col x.c r1).c : Int)] rfl
  rw [eL] at hb6 hb7 ⊢
  have ht : x.times r0 r1 = (addsF (lowF (colsF x r0 r1)) (highF (colsF x r0 r1)) 5).cut := rfl
  have hC := colsF_ok x r0 r1
  rw [ht]
  generalize colsF x r0 r1 = C at *
  have n65 := (Heap.set_none.1 hb6).1
  have hb6' := (Heap.set_none.1 hb6).2
  have n76 := (Heap.set_none.1 hb7).1
  have hb7' := (Heap.set_none.1 hb7).2
  have n75 := (Heap.set_none.1 hb7').1
  have hb7'' := (Heap.set_none.1 hb7').2
  have q47 := le7' _ _ q4
  have n45 := ne_of_none hb5 q47
  have n46 := ne_of_none hb6' q47
  have n47 := ne_of_none hb7'' q47
  have hle7 := Heap.le_trans leA le7'
  have hb5h := Heap.none_of_le hle7 hb5
  have hb6h := Heap.none_of_le hle7 hb6'
  have hb7h := Heap.none_of_le hle7 hb7''
  have le8 : h.le (((h7.set b5 (.own 0 (LST C) 12)).set b6 (.own 0 [.int .u64 0, .int .u64 0, .int .u64 0, .int .u64 0] 4)).set b7 (.own 0 [.int .u64 0, .int .u64 0, .int .u64 0] 3)) := Heap.le_set (Heap.le_set (Heap.le_set hle7 hb5h _) hb6h _) hb7h _
  have w5 : hcells (((h7.set b5 (.own 0 (LST C) 12)).set b6 (.own 0 [.int .u64 0, .int .u64 0, .int .u64 0, .int .u64 0] 4)).set b7 (.own 0 [.int .u64 0, .int .u64 0, .int .u64 0] 3)) ⟨b5, 0, none⟩ 12 = some (LST C) := by rw [hcells_ne (Ne.symm n75), hcells_ne (Ne.symm n65)]; exact z6x rfl
  have w6 : (((h7.set b5 (.own 0 (LST C) 12)).set b6 (.own 0 [.int .u64 0, .int .u64 0, .int .u64 0, .int .u64 0] 4)).set b7 (.own 0 [.int .u64 0, .int .u64 0, .int .u64 0] 3)) b6 = some (.own 0 (rowQ (fun j => if j < 0 then outW C j else 0) 4) 4) := by rw [Heap.set_ne (Ne.symm n76), Heap.set_self]; rfl
  have w7 : (((h7.set b5 (.own 0 (LST C) 12)).set b6 (.own 0 [.int .u64 0, .int .u64 0, .int .u64 0, .int .u64 0] 4)).set b7 (.own 0 [.int .u64 0, .int .u64 0, .int .u64 0] 3)) b7 = some (.own 0 (carryF C 0).cells 3) := by rw [Heap.set_self]; rfl
  have w4 : (((h7.set b5 (.own 0 (LST C) 12)).set b6 (.own 0 [.int .u64 0, .int .u64 0, .int .u64 0, .int .u64 0] 4)).set b7 (.own 0 [.int .u64 0, .int .u64 0, .int .u64 0] 3)) b4 = some (.own 0 [.int .u64 0, .int .u64 0, .int .u64 0] 3) := by rw [Heap.set_ne n47, Heap.set_ne n46, Heap.set_ne n45]; exact q47
  generalize (((h7.set b5 (.own 0 (LST C) 12)).set b6 (.own 0 [.int .u64 0, .int .u64 0, .int .u64 0, .int .u64 0] 4)).set b7 (.own 0 [.int .u64 0, .int .u64 0, .int .u64 0] 3)) = h8 at le8 w5 w6 w7 w4
  simp -implicitDefEqProofs only [zA,reduceIte,reduceCtorEq,Nat.reduceEqDiff,Nat.reduceAdd,Nat.reduceMul,Nat.reduceLT,Nat.reduceSub,Int.reduceLT,Int.reduceLE,Int.reduceEq,Int.reduceNe,Int.reduceSub,Int.reduceAdd,Int.reduceMul,Int.reduceBEq,Int.reduceBNe,Int.reduceGT,Int.reduceGE,Nat.reduceGT,Int.reduceToNat,Int.reduceNeg,Nat.reduceLeDiff,Nat.reduceBEq,Nat.reduceBneDiff, w5]
  refine wp_loop' (fun m t H => h.le H ∧ ∃ (i : Nat), t = tl [(4, .pointer (some ⟨b4, 0, none⟩)), (6, .pointer (some ⟨b6, 0, none⟩)), (7, .pointer (some ⟨b7, 0, none⟩)), (47, .agg (LST C).toArray), (48, .int .i64 i)] ∧ i ≤ 4 ∧ m = 4 - i ∧
      H b4 = some (.own 0 [.int .u64 0, .int .u64 0, .int .u64 0] 3) ∧ H b6 = some (.own 0 (rowQ (fun j => if j < i then outW C j else 0) 4) 4) ∧ H b7 = some (.own 0 (carryF C i).cells 3)) 4
    ⟨le8, 0, rfl, by omega, by omega, w4, w6, w7⟩ ?_
  clear le8 w5 w6 w7 w4 eL hb6 hb7 hb7'
  rintro m t H ⟨leH, i, rfl, hi, rfl, w4, w6, w7⟩
  by_cases hlt : i < 4
  · have hi1 : (i : Int) < 4 := by omega
    have hi2 : (0 : Int) ≤ i := by omega
    simp -implicitDefEqProofs only [zA,reduceIte,reduceCtorEq,Nat.reduceEqDiff,Nat.reduceAdd,Nat.reduceMul,Nat.reduceLT,Nat.reduceSub,Int.reduceLT,Int.reduceLE,Int.reduceEq,Int.reduceNe,Int.reduceSub,Int.reduceAdd,Int.reduceMul,Int.reduceBEq,Int.reduceBNe,Int.reduceGT,Int.reduceGE,Nat.reduceGT,Int.reduceToNat,Int.reduceNeg,Nat.reduceLeDiff,Nat.reduceBEq,Nat.reduceBneDiff, hi1, hi2, Int.toNat_natCast]
    intro b9 hb9
    rw [LST_at C i hlt]
    have eX : Value.agg (C i).cells.toArray = (C i).V := rfl
    rw [eX]
    have st9 : storeV (H.set b9 (.own 0 [.int .u64 0, .int .u64 0, .int .u64 0] 3)) 3 (.pointer (some ⟨b9, 0, none⟩)) (C i).V = some (H.set b9 (.own 0 (C i).cells 3)) := z6z (by omega) rfl rfl rfl (by omega)
    have n97 := ne_of_none hb9 w7
    have n96 := ne_of_none hb9 w6
    have n94 := ne_of_none hb9 w4
    have v7 : hcells (H.set b9 (.own 0 (C i).cells 3)) ⟨b7, 0, none⟩ 3 = some (carryF C i).cells := by rw [hcells_ne n97, hcells_at w7 (by simp [N3.cells])]; rfl
    have v9 : hcells (H.set b9 (.own 0 (C i).cells 3)) ⟨b9, 0, none⟩ 3 = some (C i).cells := z6x rfl
    have eK : Value.agg (carryF C i).cells.toArray = (carryF C i).V := rfl
    simp -implicitDefEqProofs only [zA,reduceIte,reduceCtorEq,Nat.reduceEqDiff,Nat.reduceAdd,Nat.reduceMul,Nat.reduceLT,Nat.reduceSub,Int.reduceLT,Int.reduceLE,Int.reduceEq,Int.reduceNe,Int.reduceSub,Int.reduceAdd,Int.reduceMul,Int.reduceBEq,Int.reduceBNe,Int.reduceGT,Int.reduceGE,Nat.reduceGT,Int.reduceToNat,Int.reduceNeg,Nat.reduceLeDiff,Nat.reduceBEq,Nat.reduceBneDiff, st9, v7, v9, eK, eX]
    refine (num_plus_c E _ (carryF C i) (C i) (carryF_ok C i) (hC i)).mono ?_
    rintro r h10 ⟨le10, rfl⟩
    have le9 : H.le (H.set b9 (.own 0 (C i).cells 3)) := Heap.le_set (Heap.le_refl _) hb9 _
    have leHH := Heap.le_trans leH (Heap.le_trans le9 le10)
    have u7 := le10 _ _ (le9 _ _ w7)
    have u6 := le10 _ _ (le9 _ _ w6)
    have u4 := le10 _ _ (le9 _ _ w4)
    have hout : outW C i = ((carryF C i).plus (C i)).a := rfl
    have hcar : carryF C (i + 1) = ⟨((carryF C i).plus (C i)).b, ((carryF C i).plus (C i)).c, 0⟩ := rfl
    have hstep := rowQ_step (outW C) i 4
    rw [hout] at hstep
    generalize (carryF C i).plus (C i) = P at *
    have sA := store3 P u7 rfl
    have lA : hcell (h10.set b7 (.own 0 P.cells 3)) ⟨b7, 0, none⟩ = some (.int .u64 (P.a : Int)) := z6w (by simp [N3.cells])
    have sB := rowQ_store (H := h10.set b7 (.own 0 P.cells 3)) (z := P.a) (by rw [Heap.set_ne (Ne.symm n76)]; exact u6) hlt
    rw [hstep] at sB
    have lB1 : hcell ((h10.set b7 (.own 0 P.cells 3)).set b6 (.own 0 (rowQ (fun k => if k < i + 1 then outW C k else 0) 4) 4)) ⟨b7, 1, none⟩ = some (.int .u64 (P.b : Int)) := by rw [hcell_ne n76]; exact z6w (by simp [N3.cells])
    have lB2 : hcell ((h10.set b7 (.own 0 P.cells 3)).set b6 (.own 0 (rowQ (fun k => if k < i + 1 then outW C k else 0) 4) 4)) ⟨b7, 2, none⟩ = some (.int .u64 (P.c : Int)) := by rw [hcell_ne n76]; exact z6w (by simp [N3.cells])
    have sC := store3 (H := (h10.set b7 (.own 0 P.cells 3)).set b6 (.own 0 (rowQ (fun k => if k < i + 1 then outW C k else 0) 4) 4)) (b := b7) (old := P.cells) (⟨P.b, P.c, 0⟩ : N3) (by rw [Heap.set_ne n76, Heap.set_self]) rfl
    have eP : (⟨P.b, P.c, 0⟩ : N3).V = .agg #[.int .u64 (P.b : Int), .int .u64 (P.c : Int), .int .u64 0] := rfl
    rw [eP] at sC
    have w1 : IntKind.i64.wrap ((i : Int) + 1) = ((i + 1 : Nat) : Int) := wrapN (by omega)
    simp -implicitDefEqProofs only [zA,reduceIte,reduceCtorEq,Nat.reduceEqDiff,Nat.reduceAdd,Nat.reduceMul,Nat.reduceLT,Nat.reduceSub,Int.reduceLT,Int.reduceLE,Int.reduceEq,Int.reduceNe,Int.reduceSub,Int.reduceAdd,Int.reduceMul,Int.reduceBEq,Int.reduceBNe,Int.reduceGT,Int.reduceGE,Nat.reduceGT,Int.reduceToNat,Int.reduceNeg,Nat.reduceLeDiff,Nat.reduceBEq,Nat.reduceBneDiff, sA, lA, hi1, hi2, Int.toNat_natCast, sB, lB1, lB2, sC, w1]
    refine ⟨4 - (i + 1), by omega, Heap.le_set (Heap.le_set (Heap.le_set leHH hb7h _) hb6h _) hb7h _, i + 1, rfl, by omega, rfl, ?_, ?_, ?_⟩
    · rw [Heap.set_ne n47, Heap.set_ne n46, Heap.set_ne n47]; exact u4
    · rw [Heap.set_ne (Ne.symm n76), Heap.set_self]
    · rw [Heap.set_self, hcar]
  · have hi1 : ¬ (i : Int) < 4 := by omega
    have : i = 4 := by omega
    subst this
    have o0 := rowQ_at w6 (show 0 < 4 by omega)
    have o1 := rowQ_at w6 (show 1 < 4 by omega)
    have o2 := rowQ_at w6 (show 2 < 4 by omega)
    have o3 := rowQ_at w6 (show 3 < 4 by omega)
    simp only [Nat.reduceLT, if_true] at o0 o1 o2 o3
    simp -implicitDefEqProofs only [zA,reduceIte,reduceCtorEq,Nat.reduceEqDiff,Nat.reduceAdd,Nat.reduceMul,Nat.reduceLT,Nat.reduceSub,Int.reduceLT,Int.reduceLE,Int.reduceEq,Int.reduceNe,Int.reduceSub,Int.reduceAdd,Int.reduceMul,Int.reduceBEq,Int.reduceBNe,Int.reduceGT,Int.reduceGE,Nat.reduceGT,Int.reduceToNat,Int.reduceNeg,Nat.reduceLeDiff,Nat.reduceBEq,Nat.reduceBneDiff, hi1, o0, o1, o2, o3, and_3, shr_2, shr_2']
    intro bA hbA
    have nA6 := ne_of_none hbA w6
    have nA4 := ne_of_none hbA w4
    have p2 : hcell (H.set bA (.own 0 (lowF C).cells 3)) ⟨b6, 2, none⟩ = some (.int .u64 ((outW C 2 : Nat) : Int)) := by rw [hcell_ne nA6]; exact o2
    have p3 : hcell (H.set bA (.own 0 (lowF C).cells 3)) ⟨b6, 3, none⟩ = some (.int .u64 ((outW C 3 : Nat) : Int)) := by rw [hcell_ne nA6]; exact o3
    have eLow : [Value.int .u64 ((outW C 0 : Nat) : Int), .int .u64 ((outW C 1 : Nat) : Int), .int .u64 ((outW C 2 % 4 : Nat) : Int)] = (lowF C).cells := rfl
    rw [eLow]
    have ok2 : outW C 2 < 18446744073709551616 := (N3.plus_ok (carryF C 2) (C 2)).1
    have orh := or_hi (outW C 2 / 4) (outW C 3 % 4) (by omega) (by omega)
    simp -implicitDefEqProofs only [zA,reduceIte,reduceCtorEq,Nat.reduceEqDiff,Nat.reduceAdd,Nat.reduceMul,Nat.reduceLT,Nat.reduceSub,Int.reduceLT,Int.reduceLE,Int.reduceEq,Int.reduceNe,Int.reduceSub,Int.reduceAdd,Int.reduceMul,Int.reduceBEq,Int.reduceBNe,Int.reduceGT,Int.reduceGE,Nat.reduceGT,Int.reduceToNat,Int.reduceNeg,Nat.reduceLeDiff,Nat.reduceBEq,Nat.reduceBneDiff, p2, p3, shr_2, shr_2', shl_62, shl_62', orh]
    intro bB hbB
    have eHigh : [Value.int .u64 ((outW C 2 / 4 + outW C 3 % 4 * 4611686018427387904 : Nat) : Int), .int .u64 ((outW C 3 / 4 : Nat) : Int), .int .u64 0] = (highF C).cells := rfl
    have nBA := (Heap.set_none.1 hbB).1
    have hbB' := (Heap.set_none.1 hbB).2
    rw [eHigh]
    have hlo := lowF_ok C
    have hhi := highF_ok C
    generalize lowF C = X at *
    generalize highF C = Y at *
    have hbAh := Heap.none_of_le leH hbA
    have hbBh := Heap.none_of_le leH hbB'
    have nB4 := ne_of_none hbB' w4
    have le9 : h.le ((H.set bA (.own 0 X.cells 3)).set bB (.own 0 Y.cells 3)) := Heap.le_set (Heap.le_set leH hbAh _) hbBh _
    have uA : ((H.set bA (.own 0 X.cells 3)).set bB (.own 0 Y.cells 3)) bA = some (.own 0 (addsF X Y 0).cells 3) := by rw [Heap.set_ne (Ne.symm nBA), Heap.set_self]; rfl
    have uB : ((H.set bA (.own 0 X.cells 3)).set bB (.own 0 Y.cells 3)) bB = some (.own 0 Y.cells 3) := Heap.set_self _ _ _
    have u4 : ((H.set bA (.own 0 X.cells 3)).set bB (.own 0 Y.cells 3)) b4 = some (.own 0 [.int .u64 0, .int .u64 0, .int .u64 0] 3) := by rw [Heap.set_ne nB4, Heap.set_ne nA4]; exact w4
    generalize ((H.set bA (.own 0 X.cells 3)).set bB (.own 0 Y.cells 3)) = H9 at le9 uA uB u4
    refine wp_loop' (fun m t H => h.le H ∧ ∃ (i : Nat), t = tl [(4, .pointer (some ⟨b4, 0, none⟩)), (10, .pointer (some ⟨bA, 0, none⟩)), (11, .pointer (some ⟨bB, 0, none⟩)), (84, .int .i64 i)] ∧ i ≤ 5 ∧ m = 5 - i ∧
        H b4 = some (.own 0 [.int .u64 0, .int .u64 0, .int .u64 0] 3) ∧ H bA = some (.own 0 (addsF X Y i).cells 3) ∧ H bB = some (.own 0 Y.cells 3)) 5
      ⟨le9, 0, rfl, by omega, by omega, u4, uA, uB⟩ ?_
    clear le9 uA uB u4
    rintro m t H' ⟨leH', i, rfl, hi, rfl, u4, uA, uB⟩
    have lA : hcells H' ⟨bA, 0, none⟩ 3 = some (addsF X Y i).cells := by rw [hcells_at uA (by simp [N3.cells])]; rfl
    have lB : hcells H' ⟨bB, 0, none⟩ 3 = some Y.cells := by rw [hcells_at uB (by simp [N3.cells])]; rfl
    have eA : Value.agg (addsF X Y i).cells.toArray = (addsF X Y i).V := rfl
    have eB : Value.agg Y.cells.toArray = Y.V := rfl
    have oki := addsF_ok (x := X) (y := Y) hlo i
    by_cases hlt : i < 5
    · have hi1 : (i : Int) < 5 := by omega
      have w1 : IntKind.i64.wrap ((i : Int) + 1) = ((i + 1 : Nat) : Int) := wrapN (by omega)
      simp -implicitDefEqProofs only [zA,reduceIte,reduceCtorEq,Nat.reduceEqDiff,Nat.reduceAdd,Nat.reduceMul,Nat.reduceLT,Nat.reduceSub,Int.reduceLT,Int.reduceLE,Int.reduceEq,Int.reduceNe,Int.reduceSub,Int.reduceAdd,Int.reduceMul,Int.reduceBEq,Int.reduceBNe,Int.reduceGT,Int.reduceGE,Nat.reduceGT,Int.reduceToNat,Int.reduceNeg,Nat.reduceLeDiff,Nat.reduceBEq,Nat.reduceBneDiff, hi1, lA, lB, eA, eB]
      refine (num_plus_c E H' (addsF X Y i) Y oki hhi).mono ?_
      rintro r h11 ⟨le11, rfl⟩
      have st := store3 ((addsF X Y i).plus Y) (le11 _ _ uA) rfl
      simp -implicitDefEqProofs only [zA,reduceIte,reduceCtorEq,Nat.reduceEqDiff,Nat.reduceAdd,Nat.reduceMul,Nat.reduceLT,Nat.reduceSub,Int.reduceLT,Int.reduceLE,Int.reduceEq,Int.reduceNe,Int.reduceSub,Int.reduceAdd,Int.reduceMul,Int.reduceBEq,Int.reduceBNe,Int.reduceGT,Int.reduceGE,Nat.reduceGT,Int.reduceToNat,Int.reduceNeg,Nat.reduceLeDiff,Nat.reduceBEq,Nat.reduceBneDiff, st, w1]
      refine ⟨5 - (i + 1), by omega, Heap.le_set (Heap.le_trans leH' le11) hbAh _, i + 1, rfl, by omega, rfl, ?_, Heap.set_self _ _ _, ?_⟩
      · rw [Heap.set_ne nA4]; exact le11 _ _ u4
      · rw [Heap.set_ne nBA]; exact le11 _ _ uB
    · have hi1 : ¬ (i : Int) < 5 := by omega
      have : i = 5 := by omega
      subst this
      simp -implicitDefEqProofs only [zA,reduceIte,reduceCtorEq,Nat.reduceEqDiff,Nat.reduceAdd,Nat.reduceMul,Nat.reduceLT,Nat.reduceSub,Int.reduceLT,Int.reduceLE,Int.reduceEq,Int.reduceNe,Int.reduceSub,Int.reduceAdd,Int.reduceMul,Int.reduceBEq,Int.reduceBNe,Int.reduceGT,Int.reduceGE,Nat.reduceGT,Int.reduceToNat,Int.reduceNeg,Nat.reduceLeDiff,Nat.reduceBEq,Nat.reduceBneDiff, hi1, lA, eA]
      refine (num_cut_c E H' (addsF X Y 5) oki).mono ?_
      rintro r h11 ⟨le11, rfl⟩
      have st := store3 (addsF X Y 5).cut (le11 _ _ u4) rfl
      have hl := z6x (h := h11) (b := b4) (vs := (addsF X Y 5).cut.cells) (sz := 3) (n := 3) rfl
      simp -implicitDefEqProofs only [zA,reduceIte,reduceCtorEq,Nat.reduceEqDiff,Nat.reduceAdd,Nat.reduceMul,Nat.reduceLT,Nat.reduceSub,Int.reduceLT,Int.reduceLE,Int.reduceEq,Int.reduceNe,Int.reduceSub,Int.reduceAdd,Int.reduceMul,Int.reduceBEq,Int.reduceBNe,Int.reduceGT,Int.reduceGE,Nat.reduceGT,Int.reduceToNat,Int.reduceNeg,Nat.reduceLeDiff,Nat.reduceBEq,Nat.reduceBneDiff, st, hl]
      exact ⟨Heap.le_set (Heap.le_trans leH' le11) hb4'' _, rfl⟩
end Go.Bb
/- Contracts: numbers read, the lowest byte first. -/
namespace Go.Bb
set_option linter.unusedSimpArgs false
set_option linter.unusedVariables false
set_option maxRecDepth 20000

theorem octet_Turn_c (E : EnvT tab) (h : Heap) {v : Value} (l : List UInt8) (hl : l.length ≤ 140737488355328) (s : SlB h v l) : ACallN E.toEnv n_octet_Turn [v] h fun r h' => h.le h' ∧ OwB h h' r l.reverse := by
  refine acall h_octet_Turn ir_octet_Turn rfl rfl (wpA_sound ?_)
  unfold ir_octet_Turn
  simp -implicitDefEqProofs only [zA,reduceIte,reduceCtorEq,Nat.reduceEqDiff,Nat.reduceAdd,Nat.reduceMul,Nat.reduceLT,Nat.reduceSub,Int.reduceLT,Int.reduceLE,Int.reduceEq,Int.reduceNe,Int.reduceSub,Int.reduceAdd,Int.reduceMul,Int.reduceBEq,Int.reduceBNe,Int.reduceGT,Int.reduceGE,Nat.reduceGT,Int.reduceToNat,Int.reduceNeg,Nat.reduceLeDiff,Nat.reduceBEq,Nat.reduceBneDiff]
  refine (Clone_c E h l hl s).mono ?_
  rintro r h1 ⟨le1, ow⟩
  simp -implicitDefEqProofs only [zA,reduceIte,reduceCtorEq,Nat.reduceEqDiff,Nat.reduceAdd,Nat.reduceMul,Nat.reduceLT,Nat.reduceSub,Int.reduceLT,Int.reduceLE,Int.reduceEq,Int.reduceNe,Int.reduceSub,Int.reduceAdd,Int.reduceMul,Int.reduceBEq,Int.reduceBNe,Int.reduceGT,Int.reduceGE,Nat.reduceGT,Int.reduceToNat,Int.reduceNeg,Nat.reduceLeDiff,Nat.reduceBEq,Nat.reduceBneDiff]
  refine (Reverse_c E le1 l hl ow).mono ?_
  rintro r2 h2 ⟨le2, ow2⟩
  simp -implicitDefEqProofs only [zA,reduceIte,reduceCtorEq,Nat.reduceEqDiff,Nat.reduceAdd,Nat.reduceMul,Nat.reduceLT,Nat.reduceSub,Int.reduceLT,Int.reduceLE,Int.reduceEq,Int.reduceNe,Int.reduceSub,Int.reduceAdd,Int.reduceMul,Int.reduceBEq,Int.reduceBNe,Int.reduceGT,Int.reduceGE,Nat.reduceGT,Int.reduceToNat,Int.reduceNeg,Nat.reduceLeDiff,Nat.reduceBEq,Nat.reduceBneDiff]
  exact ⟨le2, ow2⟩

def fromLittleF (l : List UInt8) : U64 := fromBigF l.reverse
theorem octet_FromLittle_c (E : EnvT tab) (h : Heap) {v : Value} (l : List UInt8) (hl : l.length ≤ 8) (s : SlB h v l) : ACallN E.toEnv n_octet_FromLittle [v] h fun r h' => h.le h' ∧ r = .tuple #[u64V (fromLittleF l), .int .i64 0] := by
  refine acall h_octet_FromLittle ir_octet_FromLittle rfl rfl (wpA_sound ?_)
  unfold ir_octet_FromLittle
  simp -implicitDefEqProofs only [zA,reduceIte,reduceCtorEq,Nat.reduceEqDiff,Nat.reduceAdd,Nat.reduceMul,Nat.reduceLT,Nat.reduceSub,Int.reduceLT,Int.reduceLE,Int.reduceEq,Int.reduceNe,Int.reduceSub,Int.reduceAdd,Int.reduceMul,Int.reduceBEq,Int.reduceBNe,Int.reduceGT,Int.reduceGE,Nat.reduceGT,Int.reduceToNat,Int.reduceNeg,Nat.reduceLeDiff,Nat.reduceBEq,Nat.reduceBneDiff]
  refine (octet_Turn_c E h l (by omega) s).mono ?_
  rintro r h1 ⟨le1, ow⟩
  simp -implicitDefEqProofs only [zA,reduceIte,reduceCtorEq,Nat.reduceEqDiff,Nat.reduceAdd,Nat.reduceMul,Nat.reduceLT,Nat.reduceSub,Int.reduceLT,Int.reduceLE,Int.reduceEq,Int.reduceNe,Int.reduceSub,Int.reduceAdd,Int.reduceMul,Int.reduceBEq,Int.reduceBNe,Int.reduceGT,Int.reduceGE,Nat.reduceGT,Int.reduceToNat,Int.reduceNeg,Nat.reduceLeDiff,Nat.reduceBEq,Nat.reduceBneDiff]
  refine (octet_FromBig_c E h1 l.reverse (by simpa using hl) ow.sl).mono ?_
  rintro r2 h2 ⟨rfl, rfl⟩
  simp -implicitDefEqProofs only [zA,reduceIte,reduceCtorEq,Nat.reduceEqDiff,Nat.reduceAdd,Nat.reduceMul,Nat.reduceLT,Nat.reduceSub,Int.reduceLT,Int.reduceLE,Int.reduceEq,Int.reduceNe,Int.reduceSub,Int.reduceAdd,Int.reduceMul,Int.reduceBEq,Int.reduceBNe,Int.reduceGT,Int.reduceGE,Nat.reduceGT,Int.reduceToNat,Int.reduceNeg,Nat.reduceLeDiff,Nat.reduceBEq,Nat.reduceBneDiff]
  exact ⟨le1, rfl⟩
theorem poly_word_c (E : EnvT tab) (h : Heap) {v : Value} (l : List UInt8) (hl : l.length ≤ 8) (s : SlB h v l) : ACallN E.toEnv n_poly_word [v] h fun r h' => h.le h' ∧ r = u64V (fromLittleF l) := by
  refine acall h_poly_word ir_poly_word rfl rfl (wpA_sound ?_)
  unfold ir_poly_word
  simp -implicitDefEqProofs only [zA,reduceIte,reduceCtorEq,Nat.reduceEqDiff,Nat.reduceAdd,Nat.reduceMul,Nat.reduceLT,Nat.reduceSub,Int.reduceLT,Int.reduceLE,Int.reduceEq,Int.reduceNe,Int.reduceSub,Int.reduceAdd,Int.reduceMul,Int.reduceBEq,Int.reduceBNe,Int.reduceGT,Int.reduceGE,Nat.reduceGT,Int.reduceToNat,Int.reduceNeg,Nat.reduceLeDiff,Nat.reduceBEq,Nat.reduceBneDiff]
  refine (octet_FromLittle_c E h l hl s).mono ?_
  rintro r h1 ⟨le1, rfl⟩
  simp -implicitDefEqProofs only [zA,reduceIte,reduceCtorEq,Nat.reduceEqDiff,Nat.reduceAdd,Nat.reduceMul,Nat.reduceLT,Nat.reduceSub,Int.reduceLT,Int.reduceLE,Int.reduceEq,Int.reduceNe,Int.reduceSub,Int.reduceAdd,Int.reduceMul,Int.reduceBEq,Int.reduceBNe,Int.reduceGT,Int.reduceGE,Nat.reduceGT,Int.reduceToNat,Int.reduceNeg,Nat.reduceLeDiff,Nat.reduceBEq,Nat.reduceBneDiff]
  exact le1
end Go.Bb
/- Contracts: bytes clamped. -/
namespace Go.Bb
set_option linter.unusedSimpArgs false
set_option linter.unusedVariables false
set_option maxRecDepth 20000

theorem u8_and (b c : UInt8) : IntKind.u8.wrap ((BitVec.ofInt IntKind.u8.bits (b.toNat : Int) &&& BitVec.ofInt IntKind.u8.bits (c.toNat : Int)).toNat : Int) = ((b &&& c).toNat : Int) := by
  rw [show IntKind.u8.bits = 8 from rfl, wrap_u8]
  simp only [ofInt_nat]
  congr 1
  simp [UInt8.toNat_and, Nat.mod_eq_of_lt b.toNat_lt, Nat.mod_eq_of_lt c.toNat_lt]
theorem u8_a15 (b : UInt8) : IntKind.u8.wrap ((BitVec.ofInt IntKind.u8.bits (b.toNat : Int) &&& BitVec.ofInt IntKind.u8.bits 15).toNat : Int) = ((b &&& 15).toNat : Int) := u8_and b 15
theorem u8_a252 (b : UInt8) : IntKind.u8.wrap ((BitVec.ofInt IntKind.u8.bits (b.toNat : Int) &&& BitVec.ofInt IntKind.u8.bits 252).toNat : Int) = ((b &&& 252).toNat : Int) := u8_and b 252

def ixA (i : Nat) : Nat := 4 * i + 3
def ixB (i : Nat) : Nat := 4 * i + 4
def clA (f : Nat → UInt8) (i k : Nat) : UInt8 := if k % 4 = 3 ∧ k < 4 * i + 3 then f k &&& 15 else f k
def clB (f : Nat → UInt8) (i k : Nat) : UInt8 := if k % 4 = 0 ∧ 0 < k ∧ k < 4 * i + 4 then f k &&& 252 else f k
theorem clA_step (f : Nat → UInt8) (i : Nat) : row8 (fun k => if k = ixA i then clA f i (ixA i) &&& 15 else clA f i k) 16 = row8 (clA f (i + 1)) 16 := by
  apply row8_congr
  intro k _
  unfold clA ixA
  by_cases e : k = 4 * i + 3
  · subst e; rw [if_pos rfl, if_neg (by omega), if_pos (by omega)]
  · rw [if_neg e]
    by_cases c : k % 4 = 3 ∧ k < 4 * i + 3
    · rw [if_pos c, if_pos (by omega)]
    · rw [if_neg c, if_neg (by omega)]
theorem clB_step (f : Nat → UInt8) (i : Nat) : row8 (fun k => if k = ixB i then clB f i (ixB i) &&& 252 else clB f i k) 16 = row8 (clB f (i + 1)) 16 := by
  apply row8_congr
  intro k _
  unfold clB ixB
  by_cases e : k = 4 * i + 4
  · subst e; rw [if_pos rfl, if_neg (by omega), if_pos (by omega)]
  · rw [if_neg e]
    by_cases c : k % 4 = 0 ∧ 0 < k ∧ k < 4 * i + 4
    · rw [if_pos c, if_pos (by omega)]
    · rw [if_neg c, if_neg (by omega)]
/-- Bytes, clamped. -/
def clampG (f : Nat → UInt8) : Nat → UInt8 := clB (clA f 4) 3
theorem poly_Clamp_c (E : EnvT tab) (h : Heap) (f : Nat → UInt8) : ACallN E.toEnv n_poly_Clamp [.agg (row8 f 16).toArray] h fun r h' => h.le h' ∧ r = .agg (row8 (clampG f) 16).toArray := by
  refine acall h_poly_Clamp ir_poly_Clamp rfl rfl (wpA_sound ?_)
  unfold ir_poly_Clamp
  simp -implicitDefEqProofs only [zA,reduceIte,reduceCtorEq,Nat.reduceEqDiff,Nat.reduceAdd,Nat.reduceMul,Nat.reduceLT,Nat.reduceSub,Int.reduceLT,Int.reduceLE,Int.reduceEq,Int.reduceNe,Int.reduceSub,Int.reduceAdd,Int.reduceMul,Int.reduceBEq,Int.reduceBNe,Int.reduceGT,Int.reduceGE,Nat.reduceGT,Int.reduceToNat,Int.reduceNeg,Nat.reduceLeDiff,Nat.reduceBEq,Nat.reduceBneDiff]
  rw [row8_len]
  intro b1 hb1 b2 hb2
  try simp -implicitDefEqProofs only [zA,reduceIte,reduceCtorEq,Nat.reduceEqDiff,Nat.reduceAdd,Nat.reduceMul,Nat.reduceLT,Nat.reduceSub,Int.reduceLT,Int.reduceLE,Int.reduceEq,Int.reduceNe,Int.reduceSub,Int.reduceAdd,Int.reduceMul,Int.reduceBEq,Int.reduceBNe,Int.reduceGT,Int.reduceGE,Nat.reduceGT,Int.reduceToNat,Int.reduceNeg,Nat.reduceLeDiff,Nat.reduceBEq,Nat.reduceBneDiff]
  rw [List.length_replicate]
  have n21 := (Heap.set_none.1 hb2).1
  have hb2' := (Heap.set_none.1 hb2).2
  have le0 : h.le ((h.set b1 (.own 0 (row8 f 16) 16)).set b2 (.own 0 (List.replicate 16 (.int .u8 0)) 16)) := Heap.le_set (Heap.le_set (Heap.le_refl _) hb1 _) hb2' _
  have q1 : ((h.set b1 (.own 0 (row8 f 16) 16)).set b2 (.own 0 (List.replicate 16 (.int .u8 0)) 16)) b1 = some (.own 0 (row8 (clA f 0) 16) 16) := by
    rw [Heap.set_ne (Ne.symm n21), Heap.set_self]
    rw [show row8 f 16 = row8 (clA f 0) 16 from row8_congr fun k _ => by unfold clA; rw [if_neg (by omega)]]
  have q2 : ((h.set b1 (.own 0 (row8 f 16) 16)).set b2 (.own 0 (List.replicate 16 (.int .u8 0)) 16)) b2 = some (.own 0 (List.replicate 16 (.int .u8 0)) 16) := Heap.set_self _ _ _
  simp -implicitDefEqProofs only [zA,reduceIte,reduceCtorEq,Nat.reduceEqDiff,Nat.reduceAdd,Nat.reduceMul,Nat.reduceLT,Nat.reduceSub,Int.reduceLT,Int.reduceLE,Int.reduceEq,Int.reduceNe,Int.reduceSub,Int.reduceAdd,Int.reduceMul,Int.reduceBEq,Int.reduceBNe,Int.reduceGT,Int.reduceGE,Nat.reduceGT,Int.reduceToNat,Int.reduceNeg,Nat.reduceLeDiff,Nat.reduceBEq,Nat.reduceBneDiff, List.length_replicate, List.drop_replicate, List.replicate_zero]
  intro b7 hb7
  try simp -implicitDefEqProofs only [zA,reduceIte,reduceCtorEq,Nat.reduceEqDiff,Nat.reduceAdd,Nat.reduceMul,Nat.reduceLT,Nat.reduceSub,Int.reduceLT,Int.reduceLE,Int.reduceEq,Int.reduceNe,Int.reduceSub,Int.reduceAdd,Int.reduceMul,Int.reduceBEq,Int.reduceBNe,Int.reduceGT,Int.reduceGE,Nat.reduceGT,Int.reduceToNat,Int.reduceNeg,Nat.reduceLeDiff,Nat.reduceBEq,Nat.reduceBneDiff]
  generalize ((h.set b1 (.own 0 (row8 f 16) 16)).set b2 (.own 0 (List.replicate 16 (.int .u8 0)) 16)) = h1 at le0 q1 q2 hb7 ⊢
  have hb1h := hb1
  have n71 := ne_of_none hb7 q1
  have n72 := ne_of_none hb7 q2
  refine wp_loop' (fun m t H => h.le H ∧ ∃ (i : Nat), t = tl [(1, .pointer (some ⟨b1, 0, none⟩)), (2, .pointer (some ⟨b2, 0, none⟩)), (7, .slice (some ⟨b7, 0, none⟩) 4 4), (8, .int .i64 4), (9, .int .i64 i)] ∧ i ≤ 4 ∧ m = 4 - i ∧
      H b1 = some (.own 0 (row8 (clA f i) 16) 16) ∧ H b2 = some (.own 0 (List.replicate 16 (.int .u8 0)) 16) ∧ H b7 = some (.own 0 [.int .i64 3, .int .i64 7, .int .i64 11, .int .i64 15] 4)) 4
    ⟨Heap.le_new le0 hb7 _, 0, rfl, by omega, by omega, by rw [Heap.set_ne n71]; exact q1, by rw [Heap.set_ne n72]; exact q2, Heap.set_self _ _ _⟩ ?_
  rintro m t H ⟨leH, i, rfl, hi, rfl, q1, q2, q7⟩
  by_cases hlt : i < 4
  · have hi1 : (i : Int) < 4 := by omega
    have hi2 : (0 : Int) ≤ i := by omega
    have w1 : IntKind.i64.wrap ((i : Int) + 1) = ((i + 1 : Nat) : Int) := wrapN (by omega)
    have c7 : hcell H ⟨b7, i, none⟩ = some (.int .i64 ((ixA i : Nat) : Int)) := by
      rw [hcell_at q7 (by simpa using hlt)]
      match i, hlt with
      | 0, _ => rfl
      | 1, _ => rfl
      | 2, _ => rfl
      | 3, _ => rfl
    have x1 : ixA i < 16 := by unfold ixA; omega
    have x2 : ((ixA i : Nat) : Int) < 16 := by omega
    have x3 : (0 : Int) ≤ ((ixA i : Nat) : Int) := by omega
    have c1 := row8_at q1 x1
    have s1 := row8_store (z := clA f i (ixA i) &&& 15) q1 x1
    rw [clA_step] at s1
    simp -implicitDefEqProofs only [zA,reduceIte,reduceCtorEq,Nat.reduceEqDiff,Nat.reduceAdd,Nat.reduceMul,Nat.reduceLT,Nat.reduceSub,Int.reduceLT,Int.reduceLE,Int.reduceEq,Int.reduceNe,Int.reduceSub,Int.reduceAdd,Int.reduceMul,Int.reduceBEq,Int.reduceBNe,Int.reduceGT,Int.reduceGE,Nat.reduceGT,Int.reduceToNat,Int.reduceNeg,Nat.reduceLeDiff,Nat.reduceBEq,Nat.reduceBneDiff, hi1, hi2, Int.toNat_natCast, c7, x2, x3, c1, u8_a15, s1, w1]
    exact ⟨_, by omega, Heap.le_set leH hb1h _, i + 1, rfl, by omega, rfl, Heap.set_self _ _ _, by rw [Heap.set_ne n21]; exact q2, by rw [Heap.set_ne (Ne.symm n71)]; exact q7⟩
  · have hi1 : ¬ (i : Int) < 4 := by omega
    have : i = 4 := by omega
    subst this
    rw [show row8 (clA f 4) 16 = row8 (clB (clA f 4) 0) 16 from row8_congr fun k _ => by (conv => rhs; unfold clB); rw [if_neg (by omega)]] at q1
    generalize hg : clA f 4 = g at q1
    have hcl : clampG f = clB g 3 := by unfold clampG; rw [hg]
    rw [hcl]
    simp -implicitDefEqProofs only [zA,reduceIte,reduceCtorEq,Nat.reduceEqDiff,Nat.reduceAdd,Nat.reduceMul,Nat.reduceLT,Nat.reduceSub,Int.reduceLT,Int.reduceLE,Int.reduceEq,Int.reduceNe,Int.reduceSub,Int.reduceAdd,Int.reduceMul,Int.reduceBEq,Int.reduceBNe,Int.reduceGT,Int.reduceGE,Nat.reduceGT,Int.reduceToNat,Int.reduceNeg,Nat.reduceLeDiff,Nat.reduceBEq,Nat.reduceBneDiff, hi1, List.length_replicate, List.drop_replicate, List.replicate_zero]
    intro b9 hb9
    try simp -implicitDefEqProofs only [zA,reduceIte,reduceCtorEq,Nat.reduceEqDiff,Nat.reduceAdd,Nat.reduceMul,Nat.reduceLT,Nat.reduceSub,Int.reduceLT,Int.reduceLE,Int.reduceEq,Int.reduceNe,Int.reduceSub,Int.reduceAdd,Int.reduceMul,Int.reduceBEq,Int.reduceBNe,Int.reduceGT,Int.reduceGE,Nat.reduceGT,Int.reduceToNat,Int.reduceNeg,Nat.reduceLeDiff,Nat.reduceBEq,Nat.reduceBneDiff]
    have n91 := ne_of_none hb9 q1
    have n92 := ne_of_none hb9 q2
    refine wp_loop' (fun m t H => h.le H ∧ ∃ (i : Nat), t = tl [(1, .pointer (some ⟨b1, 0, none⟩)), (2, .pointer (some ⟨b2, 0, none⟩)), (19, .slice (some ⟨b9, 0, none⟩) 3 3), (20, .int .i64 3), (21, .int .i64 i)] ∧ i ≤ 3 ∧ m = 3 - i ∧
        H b1 = some (.own 0 (row8 (clB g i) 16) 16) ∧ H b2 = some (.own 0 (List.replicate 16 (.int .u8 0)) 16) ∧ H b9 = some (.own 0 [.int .i64 4, .int .i64 8, .int .i64 12] 3)) 3
      ⟨Heap.le_new leH hb9 _, 0, rfl, by omega, by omega, by rw [Heap.set_ne n91]; exact q1, by rw [Heap.set_ne n92]; exact q2, Heap.set_self _ _ _⟩ ?_
    clear q1 q2 q7
    rintro m t H ⟨leH, i, rfl, hi, rfl, q1, q2, q7⟩
    by_cases hlt : i < 3
    · have hi1 : (i : Int) < 3 := by omega
      have hi2 : (0 : Int) ≤ i := by omega
      have w1 : IntKind.i64.wrap ((i : Int) + 1) = ((i + 1 : Nat) : Int) := wrapN (by omega)
      have c7 : hcell H ⟨b9, i, none⟩ = some (.int .i64 ((ixB i : Nat) : Int)) := by
        rw [hcell_at q7 (by simpa using hlt)]
        match i, hlt with
        | 0, _ => rfl
        | 1, _ => rfl
        | 2, _ => rfl
      have x1 : ixB i < 16 := by unfold ixB; omega
      have x2 : ((ixB i : Nat) : Int) < 16 := by omega
      have x3 : (0 : Int) ≤ ((ixB i : Nat) : Int) := by omega
      have c1 := row8_at q1 x1
      have s1 := row8_store (z := clB g i (ixB i) &&& 252) q1 x1
      rw [clB_step] at s1
      simp -implicitDefEqProofs only [zA,reduceIte,reduceCtorEq,Nat.reduceEqDiff,Nat.reduceAdd,Nat.reduceMul,Nat.reduceLT,Nat.reduceSub,Int.reduceLT,Int.reduceLE,Int.reduceEq,Int.reduceNe,Int.reduceSub,Int.reduceAdd,Int.reduceMul,Int.reduceBEq,Int.reduceBNe,Int.reduceGT,Int.reduceGE,Nat.reduceGT,Int.reduceToNat,Int.reduceNeg,Nat.reduceLeDiff,Nat.reduceBEq,Nat.reduceBneDiff, hi1, hi2, Int.toNat_natCast, c7, x2, x3, c1, u8_a252, s1, w1]
      exact ⟨_, by omega, Heap.le_set leH hb1h _, i + 1, rfl, by omega, rfl, Heap.set_self _ _ _, by rw [Heap.set_ne n21]; exact q2, by rw [Heap.set_ne (Ne.symm n91)]; exact q7⟩
    · have hi1 : ¬ (i : Int) < 3 := by omega
      have : i = 3 := by omega
      subst this
      have hl : hcells H ⟨b1, 0, none⟩ 16 = some (row8 (clB g 3) 16) := by rw [hcells_at q1 (by rw [row8_len]; omega)]; simp [List.take_of_length_le, row8_len]
      have st : storeV H 16 (.pointer (some ⟨b2, 0, none⟩)) (.agg (row8 (clB g 3) 16).toArray) = some (H.set b2 (.own 0 (row8 (clB g 3) 16) 16)) := storeV_agg_at q2 (by omega) (row8_len _ _) (by simp [row8, one]) (by simp) (by omega)
      have hl2 : hcells (H.set b2 (.own 0 (row8 (clB g 3) 16) 16)) ⟨b2, 0, none⟩ 16 = some (row8 (clB g 3) 16) := z6x (row8_len _ _)
      simp -implicitDefEqProofs only [zA,reduceIte,reduceCtorEq,Nat.reduceEqDiff,Nat.reduceAdd,Nat.reduceMul,Nat.reduceLT,Nat.reduceSub,Int.reduceLT,Int.reduceLE,Int.reduceEq,Int.reduceNe,Int.reduceSub,Int.reduceAdd,Int.reduceMul,Int.reduceBEq,Int.reduceBNe,Int.reduceGT,Int.reduceGE,Nat.reduceGT,Int.reduceToNat,Int.reduceNeg,Nat.reduceLeDiff,Nat.reduceBEq,Nat.reduceBneDiff, hi1, hl, st, hl2]
      exact Heap.le_set leH hb2' _
end Go.Bb
/- Contracts: slices of bytes joined. -/
namespace Go.Bb
set_option linter.unusedSimpArgs false
set_option linter.unusedVariables false
set_option maxRecDepth 20000

theorem Ow.head {h0 h : Heap} {size n c : Nat} {base : Option Addr} {cells : List Value} (s : Ow h0 h size (.slice base n c) n cells) {k : Nat} (hk : k ≤ n) : Ow h0 h size (.slice base k c) k (cells.take (k * size)) := by
  have hm : k * size ≤ n * size := Nat.mul_le_mul_right _ hk
  rcases s with ⟨e, rfl, rfl⟩ | ⟨b, o, c', sz, st, pre, rest, e, hc, hn, hb, ho, hl, hz⟩
  · simp only [Value.slice.injEq] at e
    obtain ⟨rfl, _, rfl⟩ := e
    have : k = 0 := by omega
    subst this
    exact .inl ⟨rfl, rfl, by simp⟩
  · simp only [Value.slice.injEq] at e
    obtain ⟨rfl, _, rfl⟩ := e
    refine .inr ⟨b, o, c, sz, st, pre, cells.drop (k * size) ++ rest, rfl, by omega, hn, ?_, ho, by rw [List.length_take]; omega, hz⟩
    rw [hb, List.append_assoc pre, List.append_assoc pre, ← List.append_assoc (cells.take _), List.take_append_drop]
theorem appendZP_ow {size bytes n m : Nat} {z : List Value} {h0 h : Heap} {v : Value} {cells : List Value} {k : IntKind} {K : Value → Heap → Prop} (hle : h0.le h) (hsz : 0 < size) (s : Ow h0 h size v n cells) (hz : z.length = size) (h1 : z.all one = true)
    (hb : (n + m) * bytes ≤ 140737488355328) (hm : n + m ≤ 9223372036854775807)
    (hk : ∀ v h', Ow h0 h' size v (n + m) (cells ++ (List.replicate m z).flatten) → h0.le h' → K v h') : appendZP size bytes z h v (.int k (m : Int)) K := by
  obtain ⟨base, c, rfl⟩ : ∃ base c, v = .slice base n c := by
    rcases s with ⟨rfl, rfl, _⟩ | ⟨b, o, c, sz, _, _, _, rfl, _⟩
    · exact ⟨_, _, rfl⟩
    · exact ⟨_, _, rfl⟩
  simp only [appendZP, Int.toNat_natCast]
  have hmb : m * bytes ≤ (n + m) * bytes := Nat.mul_le_mul_right _ (by omega)
  refine ⟨by omega, by omega, ?_, append_ow hle hsz s (by simp [hz]) (fun u hu => ?_) hb hm hk⟩
  · rw [← Int.natCast_mul]; omega
  · obtain ⟨l, hl, hu⟩ := List.mem_flatten.1 hu
    rw [List.eq_of_mem_replicate hl] at hu
    exact List.all_eq_true.1 h1 u hu

theorem Grow_c (E : EnvT tab) (h : Heap) (n : Nat) (hn : n ≤ 100000000) : ACallN E.toEnv n_slices_Grow_byte_byte [.slice none 0 0, .int .i64 n] h fun r h' => h.le h' ∧ OwB h h' r [] := by
  refine acall h_slices_Grow_byte_byte ir_slices_Grow_byte_byte rfl rfl (wpA_sound ?_)
  unfold ir_slices_Grow_byte_byte
  have n0 : ¬ (n : Int) < 0 := by omega
  have w0 : IntKind.i64.wrap 0 = 0 := by decide
  have w1 : IntKind.i64.wrap ((n : Int) - 0) = (n : Int) := by rw [wrapI (by omega) (by omega)]; omega
  by_cases hz : n = 0
  · subst hz
    simp -implicitDefEqProofs only [zA,reduceIte,reduceCtorEq,Nat.reduceEqDiff,Nat.reduceAdd,Nat.reduceMul,Nat.reduceLT,Nat.reduceSub,Int.reduceLT,Int.reduceLE,Int.reduceEq,Int.reduceNe,Int.reduceSub,Int.reduceAdd,Int.reduceMul,Int.reduceBEq,Int.reduceBNe,Int.reduceGT,Int.reduceGE,Nat.reduceGT,Int.reduceToNat,Int.reduceNeg,Nat.reduceLeDiff,Nat.reduceBEq,Nat.reduceBneDiff, w0]
    exact ⟨Heap.le_refl _, Ow.nil _ _ _⟩
  · have g0 : (0 : Int) < n := by omega
    have bd : bnds 0 0 none (some (some (.int .i64 0))) none = some (0, 0, 0) := by decide
    simp -implicitDefEqProofs only [zA,reduceIte,reduceCtorEq,Nat.reduceEqDiff,Nat.reduceAdd,Nat.reduceMul,Nat.reduceLT,Nat.reduceSub,Int.reduceLT,Int.reduceLE,Int.reduceEq,Int.reduceNe,Int.reduceSub,Int.reduceAdd,Int.reduceMul,Int.reduceBEq,Int.reduceBNe,Int.reduceGT,Int.reduceGE,Nat.reduceGT,Int.reduceToNat,Int.reduceNeg,Nat.reduceLeDiff,Nat.reduceBEq,Nat.reduceBneDiff, n0, w0, w1, g0, bd]
    refine appendZP_ow (n := 0) (m := n) (cells := []) (Heap.le_refl _) (by omega) (Ow.nil _ _ _) rfl rfl (by omega) (by omega) ?_
    intro v1 h1 ow1 le1
    rw [Nat.zero_add, List.nil_append] at ow1
    obtain ⟨b1, c1, rfl⟩ := Sl.shape ow1.sl
    have bd2 : bnds n c1 none (some (some (.int .i64 0))) none = some (0, 0, c1) := bnds_hi (by omega) (by omega)
    simp -implicitDefEqProofs only [zA,reduceIte,reduceCtorEq,Nat.reduceEqDiff,Nat.reduceAdd,Nat.reduceMul,Nat.reduceLT,Nat.reduceSub,Int.reduceLT,Int.reduceLE,Int.reduceEq,Int.reduceNe,Int.reduceSub,Int.reduceAdd,Int.reduceMul,Int.reduceBEq,Int.reduceBNe,Int.reduceGT,Int.reduceGE,Nat.reduceGT,Int.reduceToNat,Int.reduceNeg,Nat.reduceLeDiff,Nat.reduceBEq,Nat.reduceBneDiff, bd2]
    rw [addO b1 c1 (fun a _ => addr_add0 a), Nat.sub_zero]
    have := ow1.head (k := 0) (by omega)
    rw [Nat.zero_mul, List.take_zero] at this
    exact ⟨le1, this⟩

theorem flat_len_take {L : List (List UInt8)} (i : Nat) : (L.take i).flatten.length ≤ L.flatten.length := by
  have : L.flatten = (L.take i).flatten ++ (L.drop i).flatten := by rw [← List.flatten_append, List.take_append_drop]
  rw [this, List.length_append]; omega
theorem Concat_c (E : EnvT tab) (h : Heap) {v : Value} (L : List (List UInt8)) (hl : L.length ≤ 100000) (ht : L.flatten.length ≤ 100000000) (s : SlL h v L) :
    ACallN E.toEnv n_slices_Concat_byte_byte [v] h fun r h' => h.le h' ∧ OwB h h' r L.flatten := by
  obtain ⟨vs, hvs, sl, el⟩ := s
  obtain ⟨base, c, rfl⟩ := Sl.shape sl
  refine acall h_slices_Concat_byte_byte ir_slices_Concat_byte_byte rfl rfl (wpA_sound ?_)
  unfold ir_slices_Concat_byte_byte
  simp -implicitDefEqProofs only [zA,reduceIte,reduceCtorEq,Nat.reduceEqDiff,Nat.reduceAdd,Nat.reduceMul,Nat.reduceLT,Nat.reduceSub,Int.reduceLT,Int.reduceLE,Int.reduceEq,Int.reduceNe,Int.reduceSub,Int.reduceAdd,Int.reduceMul,Int.reduceBEq,Int.reduceBNe,Int.reduceGT,Int.reduceGE,Nat.reduceGT,Int.reduceToNat,Int.reduceNeg,Nat.reduceLeDiff,Nat.reduceBEq,Nat.reduceBneDiff]
  -- a part
  have part : ∀ i (hi : i < L.length) H, h.le H → ∃ b o, base = some ⟨b, o, none⟩ ∧ hcell H ⟨b, o + i, none⟩ = some (vs[i]'(by omega)) ∧ ∃ bi ci, vs[i]'(by omega) = .slice bi L[i].length ci := by
    intro i hi H hH
    obtain ⟨b, o, c', hv, hc, hcl⟩ := sl.ptr (by omega) (by omega)
    simp only [Value.slice.injEq, true_and] at hv
    obtain ⟨rfl, rfl⟩ := hv
    rw [Nat.mul_one] at hcl
    refine ⟨b, o, rfl, ?_, Sl.shape (el i (by omega) hi)⟩
    rw [hcell_of (hcells_le hH hcl) i hi]; simp [hvs, hi]
  have step : ∀ i (hi : i < L.length), (L.take (i + 1)).flatten = (L.take i).flatten ++ L[i] := fun i hi => by rw [List.take_succ_eq_append_getElem hi, List.flatten_append]; simp
  refine wp_loop' (fun m t H => H = h ∧ ∃ (i : Nat), t = tl [(0, .slice base L.length c), (3, .int .i64 ((L.take i).flatten.length : Nat)), (9, .slice base L.length c), (10, .int .i64 L.length), (11, .int .i64 i)] ∧ i ≤ L.length ∧ m = L.length - i) L.length
    ⟨rfl, 0, rfl, by omega, by omega⟩ ?_
  rintro m t H ⟨rfl, i, rfl, hi, rfl⟩
  by_cases hlt : i < L.length
  · have hi1 : (i : Int) < L.length := by omega
    have hi2 : (0 : Int) ≤ i := by omega
    have w1 : IntKind.i64.wrap ((i : Int) + 1) = ((i + 1 : Nat) : Int) := wrapN (by omega)
    obtain ⟨b, o, rfl, ci, bi, cci, ei⟩ := part i hlt H (Heap.le_refl _)
    have hf := flat_len_take (L := L) (i + 1)
    have hs := step i hlt
    rw [hs, List.length_append] at hf
    have w2 : IntKind.i64.wrap ((((L.take i).flatten.length : Nat) : Int) + ((L[i].length : Nat) : Int)) = (((L.take (i + 1)).flatten.length : Nat) : Int) := by rw [hs, List.length_append, wrapI (by omega) (by omega)]; omega
    have n2 : ¬ (((L.take (i + 1)).flatten.length : Nat) : Int) < 0 := by omega
    generalize hF : (L.take i).flatten.length = F at *
    generalize hF2 : (L.take (i + 1)).flatten.length = F2 at *
    rw [ei] at ci
    simp -implicitDefEqProofs only [zA,reduceIte,reduceCtorEq,Nat.reduceEqDiff,Nat.reduceAdd,Nat.reduceMul,Nat.reduceLT,Nat.reduceSub,Int.reduceLT,Int.reduceLE,Int.reduceEq,Int.reduceNe,Int.reduceSub,Int.reduceAdd,Int.reduceMul,Int.reduceBEq,Int.reduceBNe,Int.reduceGT,Int.reduceGE,Nat.reduceGT,Int.reduceToNat,Int.reduceNeg,Nat.reduceLeDiff,Nat.reduceBEq,Nat.reduceBneDiff, hi1, hi2, Int.toNat_natCast, ci, w2, n2, w1]
    exact ⟨_, by omega, i + 1, by rw [hF2], by omega, rfl⟩
  · have hi1 : ¬ (i : Int) < L.length := by omega
    have : i = L.length := by omega
    subst this
    rw [List.take_length]
    generalize hFF : L.flatten.length = FF at *
    simp -implicitDefEqProofs only [zA,reduceIte,reduceCtorEq,Nat.reduceEqDiff,Nat.reduceAdd,Nat.reduceMul,Nat.reduceLT,Nat.reduceSub,Int.reduceLT,Int.reduceLE,Int.reduceEq,Int.reduceNe,Int.reduceSub,Int.reduceAdd,Int.reduceMul,Int.reduceBEq,Int.reduceBNe,Int.reduceGT,Int.reduceGE,Nat.reduceGT,Int.reduceToNat,Int.reduceNeg,Nat.reduceLeDiff,Nat.reduceBEq,Nat.reduceBneDiff, hi1]
    refine (Grow_c E H FF (by omega)).mono ?_
    rintro r h1 ⟨le1, ow1⟩
    simp -implicitDefEqProofs only [zA,reduceIte,reduceCtorEq,Nat.reduceEqDiff,Nat.reduceAdd,Nat.reduceMul,Nat.reduceLT,Nat.reduceSub,Int.reduceLT,Int.reduceLE,Int.reduceEq,Int.reduceNe,Int.reduceSub,Int.reduceAdd,Int.reduceMul,Int.reduceBEq,Int.reduceBNe,Int.reduceGT,Int.reduceGE,Nat.reduceGT,Int.reduceToNat,Int.reduceNeg,Nat.reduceLeDiff,Nat.reduceBEq,Nat.reduceBneDiff]
    refine wp_loop' (fun m t H' => H.le H' ∧ ∃ (i : Nat) (v6 : Value), t = tl [(6, v6), (25, .slice base L.length c), (26, .int .i64 L.length), (27, .int .i64 i)] ∧ i ≤ L.length ∧ m = L.length - i ∧ OwB H H' v6 (L.take i).flatten) L.length
      ⟨le1, 0, r, rfl, by omega, by omega, by rw [List.take_zero]; exact ow1⟩ ?_
    rintro m t H' ⟨leH, i, v6, rfl, hi, rfl, ow⟩
    by_cases hlt : i < L.length
    · have hi1 : (i : Int) < L.length := by omega
      have hi2 : (0 : Int) ≤ i := by omega
      have w1 : IntKind.i64.wrap ((i : Int) + 1) = ((i + 1 : Nat) : Int) := wrapN (by omega)
      obtain ⟨b, o, rfl, ci, bi, cci, ei⟩ := part i hlt H' leH
      have si := (el i (by omega) hlt).le leH
      have hf := flat_len_take (L := L) (i + 1)
      have hs := step i hlt
      rw [hs, List.length_append] at hf
      simp -implicitDefEqProofs only [zA,reduceIte,reduceCtorEq,Nat.reduceEqDiff,Nat.reduceAdd,Nat.reduceMul,Nat.reduceLT,Nat.reduceSub,Int.reduceLT,Int.reduceLE,Int.reduceEq,Int.reduceNe,Int.reduceSub,Int.reduceAdd,Int.reduceMul,Int.reduceBEq,Int.reduceBNe,Int.reduceGT,Int.reduceGE,Nat.reduceGT,Int.reduceToNat,Int.reduceNeg,Nat.reduceLeDiff,Nat.reduceBEq,Nat.reduceBneDiff, hi1, hi2, Int.toNat_natCast, ci]
      refine appendP_ow (bytes := 1) (m := L[i].length) (news := L[i].map u8V) leH (by omega) ow si (one_u8 _) (by omega) (by omega) ?_
      intro v7 h7 ow7 le7
      simp -implicitDefEqProofs only [zA,reduceIte,reduceCtorEq,Nat.reduceEqDiff,Nat.reduceAdd,Nat.reduceMul,Nat.reduceLT,Nat.reduceSub,Int.reduceLT,Int.reduceLE,Int.reduceEq,Int.reduceNe,Int.reduceSub,Int.reduceAdd,Int.reduceMul,Int.reduceBEq,Int.reduceBNe,Int.reduceGT,Int.reduceGE,Nat.reduceGT,Int.reduceToNat,Int.reduceNeg,Nat.reduceLeDiff,Nat.reduceBEq,Nat.reduceBneDiff, w1]
      refine ⟨L.length - (i + 1), by omega, le7, i + 1, v7, rfl, by omega, rfl, ?_⟩
      rw [hs]
      unfold OwB
      rw [List.length_append, List.map_append]
      exact ow7
    · have hi1 : ¬ (i : Int) < L.length := by omega
      have : i = L.length := by omega
      subst this
      rw [List.take_length] at ow
      simp -implicitDefEqProofs only [zA,reduceIte,reduceCtorEq,Nat.reduceEqDiff,Nat.reduceAdd,Nat.reduceMul,Nat.reduceLT,Nat.reduceSub,Int.reduceLT,Int.reduceLE,Int.reduceEq,Int.reduceNe,Int.reduceSub,Int.reduceAdd,Int.reduceMul,Int.reduceBEq,Int.reduceBNe,Int.reduceGT,Int.reduceGE,Nat.reduceGT,Int.reduceToNat,Int.reduceNeg,Nat.reduceLeDiff,Nat.reduceBEq,Nat.reduceBneDiff, hi1]
      exact ⟨leH, ow⟩
end Go.Bb
