/- My contracts: BbW32 BbUl BbUj BbUq BbUk BbRow BbUm BbCoct BbCmul BbCpoly0 BbCpoly1 BbCpoly2. -/
import Derived.Test.YtfbhhmmjfoemkaaBbG3
import Derived.Test.YtfbhhmmjfoemkaaBbTab
/- Words: numbers of fixed width, as the walk meets them. -/
namespace Go.Bb
set_option linter.unusedSimpArgs false
set_option linter.unusedVariables false

abbrev U32 := BitVec 32
abbrev U64 := BitVec 64
def u8V (b : UInt8) : Value := .int .u8 b.toNat
def u32V (x : U32) : Value := .int .u32 x.toNat
def u64V (x : U64) : Value := .int .u64 x.toNat

theorem wrap_u32 (n : Int) : IntKind.u32.wrap n = ((BitVec.ofInt 32 n).toNat : Int) := by
  simp only [IntKind.wrap, IntKind.bits, IntKind.signed, BitVec.toNat_ofInt]
  simp
  omega
theorem wrap_u64 (n : Int) : IntKind.u64.wrap n = ((BitVec.ofInt 64 n).toNat : Int) := by
  simp only [IntKind.wrap, IntKind.bits, IntKind.signed, BitVec.toNat_ofInt]
  simp
  omega
theorem wrap_u8 (n : Int) : IntKind.u8.wrap n = ((BitVec.ofInt 8 n).toNat : Int) := by
  simp only [IntKind.wrap, IntKind.bits, IntKind.signed, BitVec.toNat_ofInt]
  simp
  omega
theorem ofInt_nat (w n : Nat) : BitVec.ofInt w (n : Int) = BitVec.ofNat w n := by simp
theorem ofInt_toNat {w : Nat} (x : BitVec w) : BitVec.ofInt w (x.toNat : Int) = x := by rw [ofInt_nat]; simp

section
variable (x y : U32) (n : Nat)
theorem u32_add : IntKind.u32.wrap ((x.toNat : Int) + (y.toNat : Int)) = ((x + y).toNat : Int) := by
  rw [wrap_u32]; congr 1
theorem u32_xor : IntKind.u32.wrap ((BitVec.ofInt IntKind.u32.bits (x.toNat : Int) ^^^ BitVec.ofInt IntKind.u32.bits (y.toNat : Int)).toNat : Int) = ((x ^^^ y).toNat : Int) := by
  rw [show IntKind.u32.bits = 32 from rfl, ofInt_toNat, ofInt_toNat, wrap_u32, ofInt_toNat]
theorem u32_and : IntKind.u32.wrap ((BitVec.ofInt IntKind.u32.bits (x.toNat : Int) &&& BitVec.ofInt IntKind.u32.bits (y.toNat : Int)).toNat : Int) = ((x &&& y).toNat : Int) := by
  rw [show IntKind.u32.bits = 32 from rfl, ofInt_toNat, ofInt_toNat, wrap_u32, ofInt_toNat]
theorem u32_or : IntKind.u32.wrap ((BitVec.ofInt IntKind.u32.bits (x.toNat : Int) ||| BitVec.ofInt IntKind.u32.bits (y.toNat : Int)).toNat : Int) = ((x ||| y).toNat : Int) := by
  rw [show IntKind.u32.bits = 32 from rfl, ofInt_toNat, ofInt_toNat, wrap_u32, ofInt_toNat]
theorem u32_not : IntKind.u32.wrap ((BitVec.ofInt IntKind.u32.bits (if IntKind.u32.signed = true then -1 else IntKind.u32.max) ^^^ BitVec.ofInt IntKind.u32.bits (x.toNat : Int)).toNat : Int) = ((~~~x).toNat : Int) := by
  rw [show IntKind.u32.bits = 32 from rfl, show (if IntKind.u32.signed = true then -1 else IntKind.u32.max) = 4294967295 from by decide, ofInt_toNat, wrap_u32, ofInt_toNat, show BitVec.ofInt 32 4294967295 = BitVec.allOnes 32 from by decide, BitVec.allOnes_xor]
theorem u32_shl (h : n ≤ 32) : IntKind.u32.wrap ((x.toNat : Int) * 2 ^ (min n IntKind.u32.bits)) = ((x <<< n).toNat : Int) := by
  rw [show IntKind.u32.bits = 32 from rfl, Nat.min_eq_left h, wrap_u32]
  have : ((x.toNat : Int) * 2 ^ n) = ((x.toNat * 2 ^ n : Nat) : Int) := by simp
  rw [this, ofInt_nat]
  simp [BitVec.toNat_shiftLeft, Nat.shiftLeft_eq]
theorem u32_shr (h : n ≤ 32) : ((x.toNat : Int).fdiv (2 ^ (min n IntKind.u32.bits))) = ((x >>> n).toNat : Int) := by
  rw [show IntKind.u32.bits = 32 from rfl, Nat.min_eq_left h, Int.fdiv_eq_ediv_of_nonneg _ (Int.le_of_lt (Int.pow_pos (by omega)))]
  simp [BitVec.toNat_ushiftRight, Nat.shiftRight_eq_div_pow]
theorem u32_u64 : IntKind.u64.wrap (x.toNat : Int) = ((x.setWidth 64).toNat : Int) := by
  rw [wrap_u64, ofInt_nat]; simp
theorem u64_u32 (z : U64) : IntKind.u32.wrap (z.toNat : Int) = ((z.setWidth 32).toNat : Int) := by
  rw [wrap_u32, ofInt_nat]; simp
end
section
variable (x y : U64) (n : Nat)
theorem u64_add : IntKind.u64.wrap ((x.toNat : Int) + (y.toNat : Int)) = ((x + y).toNat : Int) := by
  rw [wrap_u64]; congr 1
theorem u64_xor : IntKind.u64.wrap ((BitVec.ofInt IntKind.u64.bits (x.toNat : Int) ^^^ BitVec.ofInt IntKind.u64.bits (y.toNat : Int)).toNat : Int) = ((x ^^^ y).toNat : Int) := by
  rw [show IntKind.u64.bits = 64 from rfl, ofInt_toNat, ofInt_toNat, wrap_u64, ofInt_toNat]
theorem u64_and : IntKind.u64.wrap ((BitVec.ofInt IntKind.u64.bits (x.toNat : Int) &&& BitVec.ofInt IntKind.u64.bits (y.toNat : Int)).toNat : Int) = ((x &&& y).toNat : Int) := by
  rw [show IntKind.u64.bits = 64 from rfl, ofInt_toNat, ofInt_toNat, wrap_u64, ofInt_toNat]
theorem u64_or : IntKind.u64.wrap ((BitVec.ofInt IntKind.u64.bits (x.toNat : Int) ||| BitVec.ofInt IntKind.u64.bits (y.toNat : Int)).toNat : Int) = ((x ||| y).toNat : Int) := by
  rw [show IntKind.u64.bits = 64 from rfl, ofInt_toNat, ofInt_toNat, wrap_u64, ofInt_toNat]
theorem u64_shl (h : n ≤ 64) : IntKind.u64.wrap ((x.toNat : Int) * 2 ^ (min n IntKind.u64.bits)) = ((x <<< n).toNat : Int) := by
  rw [show IntKind.u64.bits = 64 from rfl, Nat.min_eq_left h, wrap_u64]
  have : ((x.toNat : Int) * 2 ^ n) = ((x.toNat * 2 ^ n : Nat) : Int) := by simp
  rw [this, ofInt_nat]
  simp [BitVec.toNat_shiftLeft, Nat.shiftLeft_eq]
theorem u64_shr (h : n ≤ 64) : ((x.toNat : Int).fdiv (2 ^ (min n IntKind.u64.bits))) = ((x >>> n).toNat : Int) := by
  rw [show IntKind.u64.bits = 64 from rfl, Nat.min_eq_left h, Int.fdiv_eq_ediv_of_nonneg _ (Int.le_of_lt (Int.pow_pos (by omega)))]
  simp [BitVec.toNat_ushiftRight, Nat.shiftRight_eq_div_pow]
theorem u8_u64 (b : UInt8) : IntKind.u64.wrap (b.toNat : Int) = ((BitVec.ofNat 64 b.toNat).toNat : Int) := by
  rw [wrap_u64, ofInt_nat]
theorem u64_u8 (z : U64) : IntKind.u8.wrap (z.toNat : Int) = ((UInt8.ofNat z.toNat).toNat : Int) := by
  rw [wrap_u8, ofInt_nat]; simp
end
end Go.Bb
/- Slices of bytes. -/
namespace Go.Bb
set_option linter.unusedSimpArgs false
set_option linter.unusedVariables false

abbrev SlB (h : Heap) (v : Value) (l : List UInt8) : Prop := Sl h 1 v l.length (l.map u8V)
abbrev OwB (h0 h : Heap) (v : Value) (l : List UInt8) : Prop := Ow h0 h 1 v l.length (l.map u8V)
theorem one_u8 (l : List UInt8) : (l.map u8V).all one = true := by simp [u8V, one]
theorem one_u8' (b : UInt8) : one (u8V b) = true := rfl
theorem wrapI {n : Int} (h0 : -9223372036854775808 ≤ n) (h1 : n ≤ 9223372036854775807) : IntKind.i64.wrap n = n := by
  simp [IntKind.wrap, IntKind.bits, IntKind.signed]; omega
theorem wrapN {n : Nat} (h1 : n ≤ 9223372036854775806) : IntKind.i64.wrap ((n : Int) + 1) = ((n + 1 : Nat) : Int) := by rw [wrapI (by omega) (by omega)]; rfl

/-- A byte of a slice. -/
theorem Sl.byte_at {h : Heap} {v : Value} {l : List UInt8} (s : SlB h v l) (j : Nat) (hj : j < l.length) :
    ∃ b o c, v = .slice (some ⟨b, o, none⟩) l.length c ∧ l.length ≤ c ∧ ∀ H, h.le H → hcell H ⟨b, o + j, none⟩ = some (u8V l[j]) := by
  obtain ⟨b, o, c, hv, hc, hcl⟩ := s.ptr (by omega) (by omega)
  refine ⟨b, o, c, hv, hc, fun H hle => ?_⟩
  rw [Nat.mul_one] at hcl
  rw [hcell_of (hcells_le hle hcl) j hj]
  simp [hj]
end Go.Bb
/- The walk's laws: slice expressions, copies, texts of bytes. -/
namespace Go.Bb
set_option linter.unusedSimpArgs false
set_option linter.unusedVariables false

theorem bnds_hi {n c : Nat} {k : IntKind} {z : Int} (h0 : 0 ≤ z) (h1 : z ≤ c) : bnds n c none (some (some (.int k z))) none = some (0, z.toNat, c) := by
  simp [bnds, bndV, h0, h1]
theorem bnds_lo {n c : Nat} {k : IntKind} {z : Int} (h0 : 0 ≤ z) (h1 : z ≤ n) : bnds n c (some (some (.int k z))) none none = some (z.toNat, n, c) := by
  simp [bnds, bndV, h0, h1]
theorem bnds_both {n c : Nat} {k k' : IntKind} {y z : Int} (h0 : 0 ≤ y) (h1 : y ≤ z) (h2 : z ≤ c) : bnds n c (some (some (.int k y))) (some (some (.int k' z))) none = some (y.toNat, z.toNat, c) := by
  have hz : 0 ≤ z := by omega
  have : y ≤ (z.toNat : Int) := by omega
  have h3 : y ≤ max z 0 := by omega
  simp [bnds, bndV, h0, hz, h2, h1, h3]
theorem bnds_no {n c : Nat} : bnds n c none none none = some (0, n, c) := by simp [bnds, bndV]
theorem add_zero' (a : Addr) (size : Nat) : a.add (0 * size) = a := by unfold Addr.add; simp
theorem sl_pre {c size : Nat} {a : Option Addr} : (if c = 0 then a else a.map fun x => x.add (0 * size)) = a := by
  split
  · rfl
  · cases a with
    | none => rfl
    | some a => simp only [Option.map_some, add_zero']
theorem sl_preA {c size : Nat} {a : Addr} : (if c = 0 then a else a.add (0 * size)) = a := by
  split
  · rfl
  · exact add_zero' a size
theorem add_off' (b o n : Nat) : (⟨b, o, none⟩ : Addr).add n = ⟨b, o + n, none⟩ := by
  unfold Addr.add; split
  · rename_i h; subst h; rfl
  · rfl

/-- A part of a slice. -/
theorem Sl.pre {h : Heap} {size n c : Nat} {base : Option Addr} {cells : List Value} (s : Sl h size (.slice base n c) n cells) {k : Nat} (hk : k ≤ n) : Sl h size (.slice base k c) k (cells.take (k * size)) := by
  have hm : k * size ≤ n * size := Nat.mul_le_mul_right _ hk
  rcases s with ⟨e, rfl, rfl⟩ | ⟨a, c', e, h2, h3⟩
  · simp only [Value.slice.injEq] at e
    obtain ⟨rfl, _, rfl⟩ := e
    have : k = 0 := by omega
    subst this
    exact .inl ⟨rfl, rfl, by simp⟩
  · simp only [Value.slice.injEq] at e
    obtain ⟨rfl, _, rfl⟩ := e
    refine .inr ⟨a, c, rfl, by omega, ?_⟩
    by_cases hz : k * size = 0
    · rw [hz]; simp [hcells]
    · have := hcells_spot h3 (by omega)
      rw [this] at h3 ⊢
      have := hcells_sub h3 0 (k * size) (by omega)
      simpa using this
theorem Sl.post {h : Heap} {size n c : Nat} {base : Option Addr} {cells : List Value} (s : Sl h size (.slice base n c) n cells) {k : Nat} (hk : k ≤ n) :
    Sl h size (.slice (if c = k then base else base.map fun x => x.add (k * size)) (n - k) (c - k)) (n - k) (cells.drop (k * size)) := by
  have hm : k * size ≤ n * size := Nat.mul_le_mul_right _ hk
  rcases s with ⟨e, rfl, rfl⟩ | ⟨a, c', e, h2, h3⟩
  · simp only [Value.slice.injEq] at e
    obtain ⟨rfl, _, rfl⟩ := e
    have : k = 0 := by omega
    subst this
    exact .inl ⟨by simp, rfl, by simp⟩
  · simp only [Value.slice.injEq] at e
    obtain ⟨rfl, _, rfl⟩ := e
    have hl := hcells_length h3
    by_cases hck : c = k
    · have hnk : n - k = 0 := by omega
      refine .inr ⟨a, c - k, by simp [hck], by omega, ?_⟩
      rw [hnk, Nat.zero_mul]
      simp only [hcells, Option.some.injEq]
      rw [List.drop_eq_nil_of_le]
      have : n = k := by omega
      subst this; omega
    · refine .inr ⟨a.add (k * size), c - k, by simp [hck], by omega, ?_⟩
      by_cases hz : (n - k) * size = 0
      · rw [hz]
        simp only [hcells, Option.some.injEq]
        rw [List.drop_eq_nil_of_le]
        rw [Nat.sub_mul] at hz; omega
      · rw [Nat.sub_mul] at hz ⊢
        have := hcells_spot h3 (by omega)
        rw [this] at h3
        rw [this, add_off']
        have := hcells_sub h3 (k * size) (n * size - k * size) (by omega)
        rw [this]
        congr 1
        rw [List.take_of_length_le]
        simp [hl]

/-! ### copies -/
theorem copyP_own {size b o n c m sz : Nat} {h : Heap} {v : Value} {vs cells : List Value} {K : Value → Heap → Prop} (hb : h b = some (.own 0 vs sz)) (hsz : vs.length ≤ sz) (ho : o + n * size ≤ vs.length) (s : Sl h size v m cells) (h1 : cells.all one = true)
    (hk : K (.int .i64 (min m n : Nat)) (h.set b (.own 0 (splice vs o (cells.take (min m n * size))) sz))) : copyP size h (.slice (some ⟨b, o, none⟩) n c) v K := by
  have hst : ∀ us : List Value, us.length ≤ n * size → hstore h ⟨b, o, none⟩ us = some (h.set b (.own 0 (splice vs o us) sz)) := by
    intro us hus
    cases us with
    | nil =>
      simp only [hstore, Option.some.injEq]
      have : splice vs o [] = vs := by simp [splice]
      rw [this, Heap.set_same hb]
    | cons u us =>
      simp only [hstore, hb]
      rw [if_pos ⟨Nat.zero_le _, by omega, by simp at hus ⊢; omega⟩, Nat.sub_zero]
  rcases s with ⟨rfl, rfl, rfl⟩ | ⟨a, c', rfl, h2, h3⟩
  · simp only [copyP]
    simp only [Nat.zero_min, Nat.zero_mul, List.take_nil] at hk
    have : splice vs o [] = vs := by simp [splice]
    rw [this, Heap.set_same hb] at hk
    exact ⟨trivial, hk⟩
  · have hl := hcells_length h3
    have hmn : min m n * size ≤ m * size := Nat.mul_le_mul_right _ (Nat.min_le_left _ _)
    have hmn2 : min m n * size ≤ n * size := Nat.mul_le_mul_right _ (Nat.min_le_right _ _)
    have h4 : hcells h a (min m n * size) = some (cells.take (min m n * size)) := by
      by_cases hz : min m n * size = 0
      · rw [hz]; simp [hcells]
      · have := hcells_spot h3 (by omega)
        rw [this] at h3 ⊢
        have := hcells_sub h3 0 (min m n * size) (by omega)
        simpa using this
    simp only [copyP, h4, hst _ (show (cells.take (min m n * size)).length ≤ n * size by rw [List.length_take]; omega)]
    refine ⟨fun u hu => List.all_eq_true.1 h1 u (List.mem_of_mem_take hu), hk⟩

/-! ### texts -/
def strV (l : List UInt8) : Value := .string ⟨l.toArray⟩
theorem bytesV_map : ∀ l : List UInt8, bytesV (l.map fun b => Value.int .u8 b.toNat) = some l
  | [] => rfl
  | b :: l => by simp [bytesV, bytesV_map l]
theorem strOfV_sl {h : Heap} {v : Value} {l : List UInt8} (s : Sl h 1 v l.length (l.map u8V)) : strOfV h v = some (strV l) := by
  rcases s with ⟨rfl, hn, _⟩ | ⟨a, c, rfl, h2, h3⟩
  · have : l = [] := List.eq_nil_of_length_eq_zero hn
    subst this; rfl
  · rw [Nat.mul_one] at h3
    simp only [strOfV, h3]
    have := bytesV_map l
    unfold u8V
    rw [this]; rfl
theorem str_toList (l : List UInt8) : (⟨l.toArray⟩ : ByteArray).toList = l := by
  exact Go.ByteArray.toList_mk l
theorem str_eql (a b : List UInt8) : binV .eql (strV a) (strV b) = some (.bool (decide (a = b))) := by
  simp only [strV, binV, str_toList]
  congr 2
  rw [Bool.eq_iff_iff]; simp
theorem str_neq (a b : List UInt8) : binV .neq (strV a) (strV b) = some (.bool (!decide (a = b))) := by
  simp only [strV, binV, str_toList]
  congr 2
  rw [Bool.eq_iff_iff]; simp
end Go.Bb
/- Slices of bytes, rows of bytes, slices of slices: what all contracts share. -/
namespace Go.Bb
set_option linter.unusedSimpArgs false
set_option linter.unusedVariables false

/-- A part of a slice, from a place to a place. -/
theorem Sl.midB {h : Heap} {base : Option Addr} {c a b : Nat} {l : List UInt8} (s : SlB h (.slice base l.length c) l) (hab : a ≤ b) (hb : b ≤ l.length) : SlB h (.slice (if c = a then base else base.map fun x => x.add a) (b - a) (c - a)) ((l.drop a).take (b - a)) := by
  have s1 := Sl.post s (k := a) (by omega)
  simp only [Nat.mul_one] at s1
  have s2 := Sl.pre s1 (k := b - a) (by omega)
  rw [Nat.mul_one, ← List.map_drop, ← List.map_take] at s2
  have e : ((l.drop a).take (b - a)).length = b - a := by simp; omega
  unfold SlB
  rw [e]; exact s2
theorem Ow.off {h0 h : Heap} {bs : Nat} {X : Blk} {size n : Nat} {v : Value} {cells : List Value} (s : Ow (h0.set bs X) h size v n cells) (X' : Blk) : Ow (h0.set bs X') h size v n cells := by
  rcases s with s | ⟨b, o, c, sz, st, pre, rest, h1, h2, h3, h4⟩
  · exact .inl s
  · obtain ⟨g1, g2⟩ := Heap.set_none.1 h3
    exact .inr ⟨b, o, c, sz, st, pre, rest, h1, h2, Heap.set_none.2 ⟨g1, g2⟩, h4⟩
theorem Ow.put {h0 h : Heap} {bs : Nat} {X : Blk} {size n : Nat} {v : Value} {cells : List Value} (s : Ow (h0.set bs X) h size v n cells) (Y : Blk) : Ow (h0.set bs X) (h.set bs Y) size v n cells := by
  rcases s with s | ⟨b, o, c, sz, st, pre, rest, h1, h2, h3, h4, h5⟩
  · exact .inl s
  · obtain ⟨g1, g2⟩ := Heap.set_none.1 h3
    exact .inr ⟨b, o, c, sz, st, pre, rest, h1, h2, h3, by rw [Heap.set_ne g1]; exact h4, h5⟩
theorem Ow.post {h0 h : Heap} {size b o n c : Nat} {cells : List Value} (s : Ow h0 h size (.slice (some ⟨b, o, none⟩) n c) n cells) {k : Nat} (hk : k ≤ n) :
    Ow h0 h size (.slice (if c = k then some ⟨b, o, none⟩ else some (Addr.add ⟨b, o, none⟩ (k * size))) (n - k) (c - k)) (n - k) (cells.drop (k * size)) := by
  by_cases hck : c = k
  · rw [if_pos hck]
    rcases s with ⟨e, _, _⟩ | ⟨b', o', c', sz, st, pre, rest, h1, h2, h3, h4, h5, h6, h7⟩
    · cases e
    · simp only [Value.slice.injEq, Option.some.injEq, Addr.mk.injEq, and_true, true_and] at h1
      obtain ⟨⟨rfl, rfl⟩, rfl⟩ := h1
      have hnk : n = k := by omega
      subst hnk
      refine .inr ⟨b, o, c - n, sz, st, pre, cells ++ rest, rfl, by omega, h3, ?_, h5, ?_, ?_⟩
      · rw [List.drop_eq_nil_of_le (by omega), List.append_nil, ← List.append_assoc]; exact h4
      · rw [List.drop_eq_nil_of_le (by omega)]; simp
      · have : (c - n) * size ≤ c * size := Nat.mul_le_mul_right _ (by omega)
        omega
  · rw [if_neg hck, add_off']
    exact Ow.drop s hk
theorem Sl.headB {h : Heap} {base : Option Addr} {c m : Nat} {l : List UInt8} (s : SlB h (.slice base l.length c) l) (hm : m ≤ l.length) : SlB h (.slice base m c) (l.take m) := by
  have := Sl.pre s hm
  rw [Nat.mul_one, ← List.map_take] at this
  have e : (l.take m).length = m := by rw [List.length_take]; omega
  unfold SlB
  rw [e]; exact this
theorem add0 (b o : Nat) (c : Nat) : (if c = 0 then some (⟨b, o, none⟩ : Addr) else some (Addr.add ⟨b, o, none⟩ 0)) = some ⟨b, o, none⟩ := by
  split
  · rfl
  · unfold Addr.add; simp
theorem Ow.apart {h0 h : Heap} {bs : Nat} {y X : Blk} {size n : Nat} {v : Value} {cells : List Value} (s : Ow h0 h size v n cells) (hb : h0 bs = some y) : Sl (h.set bs X) size v n cells := by
  have s2 : Ow h0 (h.set bs X) size v n cells := by
    rcases s with s | ⟨b, o, c, sz, st, pre, rest, h1, h2, h3, h4, h5⟩
    · exact .inl s
    · exact .inr ⟨b, o, c, sz, st, pre, rest, h1, h2, h3, by rw [Heap.set_ne (by intro e; subst e; rw [hb] at h3; cases h3)]; exact h4, h5⟩
  exact s2.sl
/-- A slice of slices of bytes. -/
def SlL (h : Heap) (v : Value) (L : List (List UInt8)) : Prop := ∃ vs : List Value, vs.length = L.length ∧ Sl h 1 v L.length vs ∧ ∀ i (h1 : i < vs.length) (h2 : i < L.length), SlB h vs[i] L[i]
theorem SlL.le {h h' : Heap} {v : Value} {L : List (List UInt8)} (x : h.le h') (s : SlL h v L) : SlL h' v L := by
  obtain ⟨vs, h1, h2, h3⟩ := s
  exact ⟨vs, h1, h2.le x, fun i a b => (h3 i a b).le x⟩
def row8 (f : Nat → UInt8) (n : Nat) : List Value := (List.range n).map fun j => .int .u8 (f j).toNat
theorem row8_len (f : Nat → UInt8) (n : Nat) : (row8 f n).length = n := by simp [row8]
theorem row8_get (f : Nat → UInt8) {n j : Nat} (h : j < (row8 f n).length) : (row8 f n)[j] = .int .u8 (f j).toNat := by simp [row8]
theorem row8_congr {f g : Nat → UInt8} {n : Nat} (h : ∀ j, j < n → f j = g j) : row8 f n = row8 g n := by
  unfold row8
  apply List.map_congr_left
  intro j hj
  rw [h j (List.mem_range.1 hj)]
theorem row8_list (l : List UInt8) : row8 (fun j => l.getD j 0) l.length = l.map u8V := by
  apply List.ext_getElem
  · simp [row8]
  · intro j h1 h2
    rw [row8_get]
    have : j < l.length := by simpa using h2
    simp [u8V, this]
theorem row8_set (f : Nat → UInt8) (n i : Nat) (z : UInt8) : (row8 f n).set i (.int .u8 z.toNat) = row8 (fun j => if j = i then z else f j) n := by
  apply List.ext_getElem
  · simp [row8]
  · intro j h1 h2
    rw [List.getElem_set, row8_get, row8_get]
    by_cases e : i = j
    · subst e; simp
    · rw [if_neg e]; simp [Ne.symm e]
theorem row8_at {H : Heap} {b n j sz : Nat} {f : Nat → UInt8} (h : H b = some (.own 0 (row8 f n) sz)) (hj : j < n) : hcell H ⟨b, j, none⟩ = some (.int .u8 (f j).toNat) := by
  rw [hcell_at h (by rw [row8_len]; exact hj), row8_get]
theorem row8_store {H : Heap} {b n j : Nat} {f : Nat → UInt8} {z : UInt8} (h : H b = some (.own 0 (row8 f n) n)) (hj : j < n) : storeV H 1 (.pointer (some ⟨b, j, none⟩)) (.int .u8 z.toNat) = some (H.set b (.own 0 (row8 (fun k => if k = j then z else f k) n) n)) := by
  rw [storeV_one_at h rfl (by rw [row8_len]; exact hj) (by rw [row8_len]; omega), row8_set]
theorem SlL.one {h : Heap} {v : Value} {L : List (List UInt8)} (s : SlL h v L) : ∃ vs : List Value, vs.length = L.length ∧ Sl h 1 v L.length vs ∧ vs.all one = true ∧ ∀ i (h1 : i < vs.length) (h2 : i < L.length), SlB h vs[i] L[i] := by
  obtain ⟨vs, h1, h2, h3⟩ := s
  refine ⟨vs, h1, h2, ?_, h3⟩
  rw [List.all_eq_true]
  intro u hu
  obtain ⟨i, hi, rfl⟩ := List.getElem_of_mem hu
  obtain ⟨base, c, e⟩ := Sl.shape (h3 i hi (by omega))
  rw [e]; rfl
theorem SlL.cons {h : Heap} {v w : Value} {l : List UInt8} {L : List (List UInt8)} {vs : List Value} (h1 : vs.length = L.length) (h3 : ∀ i (h1 : i < vs.length) (h2 : i < L.length), SlB h vs[i] L[i]) (sw : SlB h w l) (s : Sl h 1 v (L.length + 1) (w :: vs)) : SlL h v (l :: L) := by
  refine ⟨w :: vs, by simp [h1], s, ?_⟩
  intro i a b
  cases i with
  | zero => exact sw
  | succ i => exact h3 i (by simpa using a) (by simpa using b)
theorem own_sl {H : Heap} {b : Nat} {l : List UInt8} {sz : Nat} (h : H b = some (.own 0 (l.map u8V) sz)) : SlB H (.slice (some ⟨b, 0, none⟩) l.length l.length) l :=
  .inr ⟨⟨b, 0, none⟩, l.length, rfl, Nat.le_refl _, by rw [hcells_at h (by simp)]; simp [List.take_of_length_le]⟩
theorem addz (b o : Nat) : Addr.add ⟨b, o, none⟩ 0 = ⟨b, o, none⟩ := by unfold Addr.add; simp
theorem addO (x : Option Addr) (c : Nat) (h : ∀ a, x = some a → Addr.add a 0 = a) : (if c = 0 then x else x.map fun a => a.add 0) = x := by
  split
  · rfl
  · cases x with
    | none => rfl
    | some a => simp [h a rfl]
theorem addr_add0 (a : Addr) : Addr.add a 0 = a := by unfold Addr.add; simp
theorem Ow.base_set {h0 h : Heap} {bs : Nat} {size n : Nat} {v : Value} {cells : List Value} (s : Ow h0 h size v n cells) (hb : h bs = none) (X : Blk) : Ow (h0.set bs X) (h.set bs X) size v n cells := by
  rcases s with s | ⟨b, o, c, sz, st, pre, rest, h1, h2, h3, h4, h5⟩
  · exact .inl s
  · have e : b ≠ bs := ne_of_none hb h4
    exact .inr ⟨b, o, c, sz, st, pre, rest, h1, h2, by rw [Heap.set_ne e]; exact h3, by rw [Heap.set_ne e]; exact h4, h5⟩
theorem le_sets {h0 h : Heap} (x : h0.le h) (b : Nat) (X : Blk) : (h0.set b X).le (h.set b X) := by
  intro c y hc
  by_cases e : c = b
  · subst e; rw [Heap.set_self] at hc ⊢; exact hc
  · rw [Heap.set_ne e] at hc ⊢; exact x c y hc
end Go.Bb
/- Arguments: bytes and words. -/
namespace Go.Bb
set_option linter.unusedSimpArgs false
set_option linter.unusedVariables false

theorem flatMap_single {α β : Type} (f : α → β) : ∀ L : List α, (L.flatMap fun x => [f x]) = L.map f
  | [] => rfl
  | x :: L => by simp [flatMap_single f L]
theorem u8V_of {n : Int} (h0 : 0 ≤ n) (h1 : n ≤ 255) : u8V (UInt8.ofNat n.toNat) = .int .u8 n := by
  unfold u8V
  have : (UInt8.ofNat n.toNat).toNat = n.toNat := by rw [UInt8.toNat_ofNat']; omega
  rw [this]; congr 1; omega
theorem ok_bytes {W : World} {v : Value} (h : Shp.ok W (.slice 1 (.int .u8)) v) : ∃ l : List UInt8, SlB (roHeap W) v l ∧ l.length ≤ 9223372036854775807 := by
  obtain ⟨L, h1, h2, h3⟩ := Shp.ok_rows (f := fun b : UInt8 => [u8V b]) (Pr := fun _ => True) (fun _ => rfl) (fun l hl => by
    obtain ⟨n, rfl, a, b⟩ := hl
    exact ⟨UInt8.ofNat n.toNat, by rw [u8V_of (by simpa [IntKind.min, IntKind.signed] using a) (by simpa [IntKind.max, IntKind.signed, IntKind.bits] using b)], trivial⟩) h
  refine ⟨L, ?_, h2⟩
  rw [flatMap_single] at h1
  exact h1
end Go.Bb
namespace Go.Bb
def byteOf : Value → UInt8
  | .int _ z => UInt8.ofNat z.toNat
  | _ => 0
theorem ok_array {W : World} {n : Nat} {v : Value} (h : Shp.ok W (.array n 1 (.int .u8)) v) : ∃ l : List UInt8, l.length = n ∧ v = .agg (l.map u8V).toArray := by
  obtain ⟨⟨h1, h2⟩, h3⟩ := h
  simp only [Shp.wide, if_true] at h3
  obtain ⟨cs, rfl⟩ := h3
  have hc : (Value.agg cs).cells = cs := rfl
  rw [hc] at h1 h2
  rw [Nat.mul_one] at h1
  refine ⟨cs.toList.map byteOf, by simpa using h1, ?_⟩
  congr 1
  apply Array.toList_inj.1
  simp only
  apply List.ext_getElem
  · simp
  · intro i a b
    have hi : i < n := by rw [← h1]; exact a
    obtain ⟨z, hz, z0, z1⟩ := h2 i hi
    rw [Nat.mul_one] at hz
    have e : cs.toList[i] = .int .u8 z := by
      have h4 : ((cs.toList.drop i).take 1)[0]? = some (.int .u8 z) := by rw [hz]; rfl
      rw [List.getElem?_take, if_pos (by omega), List.getElem?_drop, Nat.add_zero, List.getElem?_eq_getElem a] at h4
      exact Option.some.inj h4
    rw [e]
    simp only [List.getElem_map]
    rw [e]
    exact (u8V_of (by simpa [IntKind.min, IntKind.signed] using z0) (by simpa [IntKind.max, IntKind.signed, IntKind.bits] using z1)).symm
end Go.Bb
/- Rows of numbers of any kind, and what masks and shifts tell of them. -/
namespace Go.Bb
set_option linter.unusedSimpArgs false
set_option linter.unusedVariables false

theorem set_keep {H : Heap} {b c : Nat} {X Y : Blk} (hc : H c = some Y) (e : c ≠ b) : (H.set b X) c = some Y := by rw [Heap.set_ne e]; exact hc
theorem set_new {H : Heap} {b c : Nat} {X Y : Blk} (hb : H b = none) (hc : H c = some Y) : (H.set b X) c = some Y := by rw [Heap.set_ne (ne_of_none hb hc)]; exact hc
def upd (f : Nat → Nat) (i z : Nat) : Nat → Nat := fun k => if k = i then z else f k
theorem upd_self (f : Nat → Nat) (i z : Nat) : upd f i z i = z := by simp [upd]
theorem upd_ne {f : Nat → Nat} {i z j : Nat} (h : j ≠ i) : upd f i z j = f j := by simp [upd, h]
def rowK (k : IntKind) (f : Nat → Nat) (n : Nat) : List Value := (List.range n).map fun j => .int k ((f j : Nat) : Int)
section
variable {k : IntKind} {f g : Nat → Nat} {n : Nat}
theorem rowK_len (k : IntKind) (f : Nat → Nat) (n : Nat) : (rowK k f n).length = n := by simp [rowK]
theorem rowK_get {j : Nat} (h : j < (rowK k f n).length) : (rowK k f n)[j] = .int k ((f j : Nat) : Int) := by simp [rowK]
theorem rowK_congr (h : ∀ j, j < n → f j = g j) : rowK k f n = rowK k g n := by
  unfold rowK
  apply List.map_congr_left
  intro j hj
  rw [h j (List.mem_range.1 hj)]
theorem rowK_set (k : IntKind) (f : Nat → Nat) (n i z : Nat) : (rowK k f n).set i (.int k (z : Int)) = rowK k (upd f i z) n := by
  apply List.ext_getElem
  · simp [rowK]
  · intro j h1 h2
    rw [List.getElem_set, rowK_get, rowK_get]
    unfold upd
    by_cases e : i = j
    · subst e; simp
    · rw [if_neg e]; simp [Ne.symm e]
theorem rowK_zero (k : IntKind) (n : Nat) : List.replicate n (Value.int k 0) = rowK k (fun _ => 0) n := by
  apply List.ext_getElem
  · simp [rowK]
  · intro j h1 h2
    rw [rowK_get]; simp
theorem rowK_one (k : IntKind) (f : Nat → Nat) (n : Nat) : (rowK k f n).all one = true := by simp [rowK, one]
theorem rowK_at {H : Heap} {b j sz : Nat} (h : H b = some (.own 0 (rowK k f n) sz)) (hj : j < n) : hcell H ⟨b, j, none⟩ = some (.int k ((f j : Nat) : Int)) := by
  rw [hcell_at h (by rw [rowK_len]; exact hj), rowK_get]
theorem rowK_store {H : Heap} {b j z sz : Nat} (h : H b = some (.own 0 (rowK k f n) sz)) (hj : j < n) (hs : n ≤ sz) : storeV H 1 (.pointer (some ⟨b, j, none⟩)) (.int k (z : Int)) = some (H.set b (.own 0 (rowK k (upd f j z) n) sz)) := by
  rw [storeV_one_at h rfl (by rw [rowK_len]; exact hj) (by rw [rowK_len]; exact hs), rowK_set]
theorem rowK_cells {H : Heap} {b sz : Nat} (h : H b = some (.own 0 (rowK k f n) sz)) : hcells H ⟨b, 0, none⟩ n = some (rowK k f n) := by
  rw [hcells_at h (by rw [rowK_len]; omega)]; simp [List.take_of_length_le, rowK_len]
theorem rowK_agg {H : Heap} {b : Nat} {old : List Value} (h : H b = some (.own 0 old n)) (hl : old.length = n) (hn : 0 < n) : storeV H n (.pointer (some ⟨b, 0, none⟩)) (.agg (rowK k f n).toArray) = some (H.set b (.own 0 (rowK k f n) n)) :=
  storeV_agg_at h hn (rowK_len _ _ _) (rowK_one _ _ _) hl (by omega)
end
/-- The first i ones of one row, the rest of another. -/
def mixF (p f : Nat → Nat) (i : Nat) : Nat → Nat := fun j => if j < i then p j else f j
theorem mixF_0 (p f : Nat → Nat) : mixF p f 0 = f := by funext j; simp [mixF]
theorem mixF_at (p f : Nat → Nat) (i : Nat) : mixF p f i i = f i := by simp [mixF]
theorem mixF_ge {p f : Nat → Nat} {i j : Nat} (h : i ≤ j) : mixF p f i j = f j := by simp [mixF]; omega
theorem mixF_lt {p f : Nat → Nat} {i j : Nat} (h : j < i) : mixF p f i j = p j := by simp [mixF, h]
theorem upd_upd (f : Nat → Nat) (i z w : Nat) : upd (upd f i z) i w = upd f i w := by funext j; simp only [upd]; split <;> rfl
theorem mixF_step (p f : Nat → Nat) (i : Nat) : upd (mixF p f i) i (p i) = mixF p f (i + 1) := by
  funext j
  simp only [upd, mixF]
  by_cases e : j = i
  · subst e; simp
  · rw [if_neg e]
    by_cases e2 : j < i
    · rw [if_pos e2, if_pos (by omega)]
    · rw [if_neg e2, if_neg (by omega)]
theorem mixF_all (k : IntKind) (p f : Nat → Nat) (n : Nat) : rowK k (mixF p f n) n = rowK k p n := rowK_congr fun j hj => mixF_lt hj
theorem wrap_u32n {n : Nat} (h : n < 4294967296) : IntKind.u32.wrap (n : Int) = (n : Int) := by
  rw [wrap_u32, ofInt_nat, BitVec.toNat_ofNat, Nat.mod_eq_of_lt (by omega)]
theorem wrap_u64l {n : Nat} (h : n < 18446744073709551616) : IntKind.u64.wrap (n : Int) = (n : Int) := by
  rw [wrap_u64, ofInt_nat, BitVec.toNat_ofNat, Nat.mod_eq_of_lt (by omega)]
theorem andLow (w a q : Nat) (ha : a < 2 ^ w) (hq : q ≤ w) : (BitVec.ofNat w a &&& BitVec.ofNat w (2 ^ q - 1)).toNat = a % 2 ^ q := by
  have hp : 2 ^ q ≤ 2 ^ w := Nat.pow_le_pow_right (by decide) hq
  have h0 : 0 < 2 ^ q := Nat.pow_pos (by decide)
  rw [BitVec.toNat_and, BitVec.toNat_ofNat, BitVec.toNat_ofNat, Nat.mod_eq_of_lt ha, Nat.mod_eq_of_lt (show 2 ^ q - 1 < 2 ^ w by omega), Nat.and_two_pow_sub_one_eq_mod]
theorem u32_and255 {a : Nat} (h : a < 4294967296) : IntKind.u32.wrap ((BitVec.ofInt IntKind.u32.bits (a : Int) &&& BitVec.ofInt IntKind.u32.bits 255).toNat : Int) = ((a % 256 : Nat) : Int) := by
  rw [show IntKind.u32.bits = 32 from rfl, show BitVec.ofInt 32 255 = BitVec.ofNat 32 (2 ^ 8 - 1) from rfl, ofInt_nat, andLow 32 a 8 (by omega) (by decide)]
  exact wrap_u32n (by omega)
theorem u32_and3 {a : Nat} (h : a < 4294967296) : IntKind.u32.wrap ((BitVec.ofInt IntKind.u32.bits (a : Int) &&& BitVec.ofInt IntKind.u32.bits 3).toNat : Int) = ((a % 4 : Nat) : Int) := by
  rw [show IntKind.u32.bits = 32 from rfl, show BitVec.ofInt 32 3 = BitVec.ofNat 32 (2 ^ 2 - 1) from rfl, ofInt_nat, andLow 32 a 2 (by omega) (by decide)]
  exact wrap_u32n (by omega)
theorem u64_and255 {a : Nat} (h : a < 18446744073709551616) : IntKind.u64.wrap ((BitVec.ofInt IntKind.u64.bits (a : Int) &&& BitVec.ofInt IntKind.u64.bits 255).toNat : Int) = ((a % 256 : Nat) : Int) := by
  rw [show IntKind.u64.bits = 64 from rfl, show BitVec.ofInt 64 255 = BitVec.ofNat 64 (2 ^ 8 - 1) from rfl, ofInt_nat, andLow 64 a 8 (by omega) (by decide)]
  exact wrap_u64l (by omega)
theorem u64_and3 {a : Nat} (h : a < 18446744073709551616) : IntKind.u64.wrap ((BitVec.ofInt IntKind.u64.bits (a : Int) &&& BitVec.ofInt IntKind.u64.bits 3).toNat : Int) = ((a % 4 : Nat) : Int) := by
  rw [show IntKind.u64.bits = 64 from rfl, show BitVec.ofInt 64 3 = BitVec.ofNat 64 (2 ^ 2 - 1) from rfl, ofInt_nat, andLow 64 a 2 (by omega) (by decide)]
  exact wrap_u64l (by omega)
theorem u32_shr8 (a : Nat) : (a : Int).fdiv (2 ^ (min (Int.toNat 8) IntKind.u32.bits)) = ((a / 256 : Nat) : Int) := by
  rw [show min (Int.toNat 8) IntKind.u32.bits = 8 from rfl, Int.fdiv_eq_ediv_of_nonneg _ (by decide)]; simp
theorem u32_shr8' (a : Nat) : (a : Int).fdiv (2 ^ (min 8 IntKind.u32.bits)) = ((a / 256 : Nat) : Int) := u32_shr8 a
theorem u64_shr8 (a : Nat) : (a : Int).fdiv (2 ^ (min (Int.toNat 8) IntKind.u64.bits)) = ((a / 256 : Nat) : Int) := by
  rw [show min (Int.toNat 8) IntKind.u64.bits = 8 from rfl, Int.fdiv_eq_ediv_of_nonneg _ (by decide)]; simp
theorem u64_shr8' (a : Nat) : (a : Int).fdiv (2 ^ (min 8 IntKind.u64.bits)) = ((a / 256 : Nat) : Int) := u64_shr8 a
theorem u64_shr2 (a : Nat) : (a : Int).fdiv (2 ^ (min (Int.toNat 2) IntKind.u64.bits)) = ((a / 4 : Nat) : Int) := by
  rw [show min (Int.toNat 2) IntKind.u64.bits = 2 from rfl, Int.fdiv_eq_ediv_of_nonneg _ (by decide)]; simp
theorem u64_shr2' (a : Nat) : (a : Int).fdiv (2 ^ (min 2 IntKind.u64.bits)) = ((a / 4 : Nat) : Int) := u64_shr2 a
end Go.Bb
/- Arguments: slices of slices of bytes, texts. -/
namespace Go.Bb
set_option linter.unusedSimpArgs false
set_option linter.unusedVariables false

theorem ok_bytesL {W : World} {v : Value} (h : Shp.ok W (.slice 1 (.slice 1 (.int .u8))) v) : ∃ L : List (List UInt8), SlL (roHeap W) v L ∧ L.length ≤ 9223372036854775807 ∧ ∀ l ∈ L, l.length ≤ 9223372036854775807 := by
  obtain ⟨X, h1, h2, h3⟩ := Shp.ok_rows (α := Value × List UInt8) (f := fun x => [x.1]) (Pr := fun x => SlB (roHeap W) x.1 x.2 ∧ x.2.length ≤ 9223372036854775807) (fun _ => rfl) (fun l hl => by
    have key : ∀ u : Value, l = [u] → u.cells.toList = [u] → one u = true → ∃ x : Value × List UInt8, l = [x.1] ∧ SlB (roHeap W) x.1 x.2 ∧ x.2.length ≤ 9223372036854775807 := by
      intro u e ec eo
      obtain ⟨b, g1, g2⟩ := ok_bytes (W := W) (v := u) ⟨by rw [ec, ← e]; exact hl, eo⟩
      exact ⟨(u, b), e, g1, g2⟩
    rcases hl with e | ⟨a, len, cap, e, _⟩
    · exact key _ e rfl rfl
    · exact key _ e rfl rfl) h
  rw [flatMap_single] at h1
  refine ⟨X.map (·.2), ⟨X.map (·.1), by simp, by rw [List.length_map]; exact h1, ?_⟩, by simpa using h2, ?_⟩
  · intro i a b
    have hi : i < X.length := by simpa using a
    have := (h3 X[i] (List.getElem_mem hi)).1
    simpa using this
  · intro l hl
    obtain ⟨x, hx, rfl⟩ := List.mem_map.1 hl
    exact (h3 x hx).2
theorem ok_text {W : World} {v : Value} (h : Shp.ok W .str v) : ∃ l : List UInt8, v = strV l ∧ l.length ≤ 9223372036854775807 := by
  obtain ⟨s, rfl, hs⟩ := Shp.ok_str h
  exact ⟨s.data.toList, by simp [strV], by simpa using hs⟩
/-- A part of what is read, at its place. -/
theorem SlL.part {h : Heap} {base : Option Addr} {c : Nat} {L : List (List UInt8)} (s : SlL h (.slice base L.length c) L) (i : Nat) (hi : i < L.length) :
    ∃ b o u bi ci, base = some ⟨b, o, none⟩ ∧ u = .slice bi L[i].length ci ∧ SlB h u L[i] ∧ ∀ H, h.le H → hcell H ⟨b, o + i, none⟩ = some u := by
  obtain ⟨vs, hvs, sl, el⟩ := s
  obtain ⟨b, o, c', hv, hc, hcl⟩ := sl.ptr (by omega) (by omega)
  simp only [Value.slice.injEq, true_and] at hv
  obtain ⟨rfl, rfl⟩ := hv
  rw [Nat.mul_one] at hcl
  obtain ⟨bi, ci, e⟩ := Sl.shape (el i (by omega) hi)
  refine ⟨b, o, vs[i]'(by omega), bi, ci, rfl, e, el i (by omega) hi, fun H hH => ?_⟩
  rw [hcell_of (hcells_le hH hcl) i hi]; simp [hvs, hi]
theorem SlL.shape {h : Heap} {v : Value} {L : List (List UInt8)} (s : SlL h v L) : ∃ base c, v = .slice base L.length c := by
  obtain ⟨vs, hvs, sl, el⟩ := s
  exact Sl.shape sl
theorem flat_take (L : List (List UInt8)) (i : Nat) : (L.take i).flatten.length ≤ L.flatten.length := by
  have : L.flatten = (L.take i).flatten ++ (L.drop i).flatten := by rw [← List.flatten_append, List.take_append_drop]
  rw [this, List.length_append]; omega
theorem flat_succ (L : List (List UInt8)) (i : Nat) (hi : i < L.length) : (L.take (i + 1)).flatten = (L.take i).flatten ++ L[i] := by rw [List.take_succ_eq_append_getElem hi, List.flatten_append]; simp
theorem flat_bound {L : List (List UInt8)} {m : Nat} (h : ∀ l ∈ L, l.length ≤ m) : L.flatten.length ≤ L.length * m := by
  induction L with
  | nil => simp
  | cons a L ih =>
    have := ih fun l hl => h l (by simp [hl])
    have := h a (by simp)
    simp only [List.flatten_cons, List.length_append, List.length_cons, Nat.succ_mul]
    omega
end Go.Bb
/- Contracts: bytes. -/
namespace Go.Bb
set_option linter.unusedSimpArgs false
set_option linter.unusedVariables false
set_option maxRecDepth 20000

theorem Clone_c (E : EnvT tab) (h : Heap) {v : Value} (l : List UInt8) (hl : l.length ≤ 140737488355328) (s : SlB h v l) : ACallN E.toEnv n_slices_Clone_byte_byte [v] h fun r h' => h.le h' ∧ OwB h h' r l := by
  refine acall h_slices_Clone_byte_byte ir_slices_Clone_byte_byte rfl rfl (wpA_sound ?_)
  unfold ir_slices_Clone_byte_byte
  rcases s with ⟨rfl, hn, hc⟩ | ⟨a, c, rfl, hc, hcl⟩
  · simp -implicitDefEqProofs only [z00,z01,z02,z03,z04,z05,z06,z07,z08,z09,z0a,z0b,z0c,z0d,z0e,z0f,z0g,z0h,z0i,z0j,z0k,z0l,z0m,z0n,retO,retL,retV,z0o,z0p,z0q,z0r,z0s,z0t,z0u,z0v,z0w,z0x,z0y,z0z,z10,z11,z12,z13,z14,z15,z16,z17,z18,z19,z1a,z1b,z1c,z1d,z1e,z1f,z1g,z1h,z1i,z1j,z1k,z1l,z1m,z1n,z1o,z1p,z1q,z1r,z1s,z1t,z1u,z1v,z1w,z1x,z1y,z1z,z20,z21,z22,z23,z24,z25,z26,z27,z28,z29,z2a,z2b,z2c,z2d,z2e,z2f,z2g,z2h,z2i,z2j,z2k,z2l,z2m,z2n,z2o,z2p,z2q,z2r,z2s,z2t,z2u,z2v,z2w,z2x,z2y,z2z,z30,z31,z32,z33,z34,z35,z36,z37,z38,z39,z3a,z3b,z3c,z3d,z3e,z3f,z3g,z3h,z3i,z3j,z3k,z3l,z3m,z3n,z3o,z3p,z3q,z3r,z3s,z3t,z3u,z3v,z3w,z3x,z3y,z3z,z40,z41,z42,z43,z44,z45,z46,z47,z48,z49,z4a,z4b,z4c,z4d,z4e,z4f,z4g,z4h,z4i,z4j,z4k,z4l,z4m,z4n,z4o,z4p,z4q,z4r,z4s,z4t,z4u,z4v,z4w,z4x,z4y,z4z,z50,z51,z52,z53,z54,z55,z56,z57,z58,z59,z5a,z5b,z5c,z5d,z5e,z5f,z5g,z5h,z5i,z5j,z5k,z5l,z5m,z5n,z5o,z5p,z5q,z5r,z5s,z5t,z5u,z5v,z5w,z5x,z5y,z5z,z60,z61,z62,z63,z64,z65,z66,z67,z68,z69,allV,allP,z6a,z6b,z6c,z6d,z6e,z6f,z6g,z6h,z6i,z6j,z6k,z6l,z6m,Option.map_some,Option.map_none,Option.some.injEq,reduceIte,reduceCtorEq,Nat.reduceEqDiff,Nat.reduceAdd,Nat.reduceMul,Nat.reduceLT,Nat.reduceSub,Int.reduceLT,Int.reduceLE,Int.reduceEq,Int.reduceNe,Int.reduceSub,Int.reduceAdd,Int.reduceMul,Int.reduceBEq,Int.reduceBNe,Int.reduceGT,Int.reduceGE,Nat.reduceGT,Int.reduceToNat,Int.reduceNeg,Nat.reduceLeDiff,Nat.reduceBEq,Nat.reduceBneDiff,binV,eqV,unV,oOpt,true_and,and_true,Value.cells,List.length_cons,List.length_nil,List.append_nil,List.nil_append,List.cons_append,List.drop_succ_cons,List.drop_zero,List.take_succ_cons,List.take_zero,List.take_nil,List.getElem?_cons_zero,List.getElem?_cons_succ,decide_true,decide_false,decide_eq_true_eq,decide_eq_false_iff_not,Bool.false_eq_true,Bool.true_eq_false,Bool.not_true,Bool.not_false,Bool.not_eq_true',Bool.not_eq_false',Bool.not_eq_true,Bool.not_eq_false,false_implies,true_implies,beq_iff_eq,beq_eq_false_iff_ne,bne_iff_ne,bne_eq_false_iff_eq,ne_eq,ge_iff_le,gt_iff_lt,Int.not_lt,Int.not_le,not_true_eq_false,not_false_eq_true,if_true,if_false,z6n,z6o,z6p,z6q,Heap.set_set,z6r,z6s,z6t,z6u,z6v,z6w,List.getElem_cons_zero,List.getElem_cons_succ,List.set_cons_zero,List.set_cons_succ,List.length_set,List.all_cons,List.all_nil,Bool.and_true,Bool.true_and,Bool.and_self,Nat.add_zero,Nat.zero_add,Nat.zero_lt_succ,Int.cast_ofNat_Int,List.size_toArray,List.flatten_replicate_singleton,Nat.mul_one,Nat.le_refl,Nat.lt_irrefl,Nat.le_add_left, Option.isNone]
    have : l = [] := List.eq_nil_of_length_eq_zero hn
    subst this
    exact ⟨Heap.le_refl _, Ow.nil _ _ _⟩
  · have s : SlB h (.slice (some a) l.length c) l := .inr ⟨a, c, rfl, hc, hcl⟩
    simp -implicitDefEqProofs only [z00,z01,z02,z03,z04,z05,z06,z07,z08,z09,z0a,z0b,z0c,z0d,z0e,z0f,z0g,z0h,z0i,z0j,z0k,z0l,z0m,z0n,retO,retL,retV,z0o,z0p,z0q,z0r,z0s,z0t,z0u,z0v,z0w,z0x,z0y,z0z,z10,z11,z12,z13,z14,z15,z16,z17,z18,z19,z1a,z1b,z1c,z1d,z1e,z1f,z1g,z1h,z1i,z1j,z1k,z1l,z1m,z1n,z1o,z1p,z1q,z1r,z1s,z1t,z1u,z1v,z1w,z1x,z1y,z1z,z20,z21,z22,z23,z24,z25,z26,z27,z28,z29,z2a,z2b,z2c,z2d,z2e,z2f,z2g,z2h,z2i,z2j,z2k,z2l,z2m,z2n,z2o,z2p,z2q,z2r,z2s,z2t,z2u,z2v,z2w,z2x,z2y,z2z,z30,z31,z32,z33,z34,z35,z36,z37,z38,z39,z3a,z3b,z3c,z3d,z3e,z3f,z3g,z3h,z3i,z3j,z3k,z3l,z3m,z3n,z3o,z3p,z3q,z3r,z3s,z3t,z3u,z3v,z3w,z3x,z3y,z3z,z40,z41,z42,z43,z44,z45,z46,z47,z48,z49,z4a,z4b,z4c,z4d,z4e,z4f,z4g,z4h,z4i,z4j,z4k,z4l,z4m,z4n,z4o,z4p,z4q,z4r,z4s,z4t,z4u,z4v,z4w,z4x,z4y,z4z,z50,z51,z52,z53,z54,z55,z56,z57,z58,z59,z5a,z5b,z5c,z5d,z5e,z5f,z5g,z5h,z5i,z5j,z5k,z5l,z5m,z5n,z5o,z5p,z5q,z5r,z5s,z5t,z5u,z5v,z5w,z5x,z5y,z5z,z60,z61,z62,z63,z64,z65,z66,z67,z68,z69,allV,allP,z6a,z6b,z6c,z6d,z6e,z6f,z6g,z6h,z6i,z6j,z6k,z6l,z6m,Option.map_some,Option.map_none,Option.some.injEq,reduceIte,reduceCtorEq,Nat.reduceEqDiff,Nat.reduceAdd,Nat.reduceMul,Nat.reduceLT,Nat.reduceSub,Int.reduceLT,Int.reduceLE,Int.reduceEq,Int.reduceNe,Int.reduceSub,Int.reduceAdd,Int.reduceMul,Int.reduceBEq,Int.reduceBNe,Int.reduceGT,Int.reduceGE,Nat.reduceGT,Int.reduceToNat,Int.reduceNeg,Nat.reduceLeDiff,Nat.reduceBEq,Nat.reduceBneDiff,binV,eqV,unV,oOpt,true_and,and_true,Value.cells,List.length_cons,List.length_nil,List.append_nil,List.nil_append,List.cons_append,List.drop_succ_cons,List.drop_zero,List.take_succ_cons,List.take_zero,List.take_nil,List.getElem?_cons_zero,List.getElem?_cons_succ,decide_true,decide_false,decide_eq_true_eq,decide_eq_false_iff_not,Bool.false_eq_true,Bool.true_eq_false,Bool.not_true,Bool.not_false,Bool.not_eq_true',Bool.not_eq_false',Bool.not_eq_true,Bool.not_eq_false,false_implies,true_implies,beq_iff_eq,beq_eq_false_iff_ne,bne_iff_ne,bne_eq_false_iff_eq,ne_eq,ge_iff_le,gt_iff_lt,Int.not_lt,Int.not_le,not_true_eq_false,not_false_eq_true,if_true,if_false,z6n,z6o,z6p,z6q,Heap.set_set,z6r,z6s,z6t,z6u,z6v,z6w,List.getElem_cons_zero,List.getElem_cons_succ,List.set_cons_zero,List.set_cons_succ,List.length_set,List.all_cons,List.all_nil,Bool.and_true,Bool.true_and,Bool.and_self,Nat.add_zero,Nat.zero_add,Nat.zero_lt_succ,Int.cast_ofNat_Int,List.size_toArray,List.flatten_replicate_singleton,Nat.mul_one,Nat.le_refl,Nat.lt_irrefl,Nat.le_add_left, Option.isNone]
    intro b1 hb1
    try simp -implicitDefEqProofs only [z00,z01,z02,z03,z04,z05,z06,z07,z08,z09,z0a,z0b,z0c,z0d,z0e,z0f,z0g,z0h,z0i,z0j,z0k,z0l,z0m,z0n,retO,retL,retV,z0o,z0p,z0q,z0r,z0s,z0t,z0u,z0v,z0w,z0x,z0y,z0z,z10,z11,z12,z13,z14,z15,z16,z17,z18,z19,z1a,z1b,z1c,z1d,z1e,z1f,z1g,z1h,z1i,z1j,z1k,z1l,z1m,z1n,z1o,z1p,z1q,z1r,z1s,z1t,z1u,z1v,z1w,z1x,z1y,z1z,z20,z21,z22,z23,z24,z25,z26,z27,z28,z29,z2a,z2b,z2c,z2d,z2e,z2f,z2g,z2h,z2i,z2j,z2k,z2l,z2m,z2n,z2o,z2p,z2q,z2r,z2s,z2t,z2u,z2v,z2w,z2x,z2y,z2z,z30,z31,z32,z33,z34,z35,z36,z37,z38,z39,z3a,z3b,z3c,z3d,z3e,z3f,z3g,z3h,z3i,z3j,z3k,z3l,z3m,z3n,z3o,z3p,z3q,z3r,z3s,z3t,z3u,z3v,z3w,z3x,z3y,z3z,z40,z41,z42,z43,z44,z45,z46,z47,z48,z49,z4a,z4b,z4c,z4d,z4e,z4f,z4g,z4h,z4i,z4j,z4k,z4l,z4m,z4n,z4o,z4p,z4q,z4r,z4s,z4t,z4u,z4v,z4w,z4x,z4y,z4z,z50,z51,z52,z53,z54,z55,z56,z57,z58,z59,z5a,z5b,z5c,z5d,z5e,z5f,z5g,z5h,z5i,z5j,z5k,z5l,z5m,z5n,z5o,z5p,z5q,z5r,z5s,z5t,z5u,z5v,z5w,z5x,z5y,z5z,z60,z61,z62,z63,z64,z65,z66,z67,z68,z69,allV,allP,z6a,z6b,z6c,z6d,z6e,z6f,z6g,z6h,z6i,z6j,z6k,z6l,z6m,Option.map_some,Option.map_none,Option.some.injEq,reduceIte,reduceCtorEq,Nat.reduceEqDiff,Nat.reduceAdd,Nat.reduceMul,Nat.reduceLT,Nat.reduceSub,Int.reduceLT,Int.reduceLE,Int.reduceEq,Int.reduceNe,Int.reduceSub,Int.reduceAdd,Int.reduceMul,Int.reduceBEq,Int.reduceBNe,Int.reduceGT,Int.reduceGE,Nat.reduceGT,Int.reduceToNat,Int.reduceNeg,Nat.reduceLeDiff,Nat.reduceBEq,Nat.reduceBneDiff,binV,eqV,unV,oOpt,true_and,and_true,Value.cells,List.length_cons,List.length_nil,List.append_nil,List.nil_append,List.cons_append,List.drop_succ_cons,List.drop_zero,List.take_succ_cons,List.take_zero,List.take_nil,List.getElem?_cons_zero,List.getElem?_cons_succ,decide_true,decide_false,decide_eq_true_eq,decide_eq_false_iff_not,Bool.false_eq_true,Bool.true_eq_false,Bool.not_true,Bool.not_false,Bool.not_eq_true',Bool.not_eq_false',Bool.not_eq_true,Bool.not_eq_false,false_implies,true_implies,beq_iff_eq,beq_eq_false_iff_ne,bne_iff_ne,bne_eq_false_iff_eq,ne_eq,ge_iff_le,gt_iff_lt,Int.not_lt,Int.not_le,not_true_eq_false,not_false_eq_true,if_true,if_false,z6n,z6o,z6p,z6q,Heap.set_set,z6r,z6s,z6t,z6u,z6v,z6w,List.getElem_cons_zero,List.getElem_cons_succ,List.set_cons_zero,List.set_cons_succ,List.length_set,List.all_cons,List.all_nil,Bool.and_true,Bool.true_and,Bool.and_self,Nat.add_zero,Nat.zero_add,Nat.zero_lt_succ,Int.cast_ofNat_Int,List.size_toArray,List.flatten_replicate_singleton,Nat.mul_one,Nat.le_refl,Nat.lt_irrefl,Nat.le_add_left]
    refine appendP_ow (bytes := 1) (n := 0) (cells := []) (m := l.length) (news := l.map u8V) (Heap.le_set (Heap.le_refl _) hb1 _) (by omega) (Ow.new (Heap.le_refl _) hb1 rfl (by omega) (by omega)) (s.le (Heap.le_set (Heap.le_refl _) hb1 _)) (one_u8 l) (by omega) (by omega) ?_
    intro v' h' ow le'
    rw [Nat.zero_add, List.nil_append] at ow
    simp -implicitDefEqProofs only [z00,z01,z02,z03,z04,z05,z06,z07,z08,z09,z0a,z0b,z0c,z0d,z0e,z0f,z0g,z0h,z0i,z0j,z0k,z0l,z0m,z0n,retO,retL,retV,z0o,z0p,z0q,z0r,z0s,z0t,z0u,z0v,z0w,z0x,z0y,z0z,z10,z11,z12,z13,z14,z15,z16,z17,z18,z19,z1a,z1b,z1c,z1d,z1e,z1f,z1g,z1h,z1i,z1j,z1k,z1l,z1m,z1n,z1o,z1p,z1q,z1r,z1s,z1t,z1u,z1v,z1w,z1x,z1y,z1z,z20,z21,z22,z23,z24,z25,z26,z27,z28,z29,z2a,z2b,z2c,z2d,z2e,z2f,z2g,z2h,z2i,z2j,z2k,z2l,z2m,z2n,z2o,z2p,z2q,z2r,z2s,z2t,z2u,z2v,z2w,z2x,z2y,z2z,z30,z31,z32,z33,z34,z35,z36,z37,z38,z39,z3a,z3b,z3c,z3d,z3e,z3f,z3g,z3h,z3i,z3j,z3k,z3l,z3m,z3n,z3o,z3p,z3q,z3r,z3s,z3t,z3u,z3v,z3w,z3x,z3y,z3z,z40,z41,z42,z43,z44,z45,z46,z47,z48,z49,z4a,z4b,z4c,z4d,z4e,z4f,z4g,z4h,z4i,z4j,z4k,z4l,z4m,z4n,z4o,z4p,z4q,z4r,z4s,z4t,z4u,z4v,z4w,z4x,z4y,z4z,z50,z51,z52,z53,z54,z55,z56,z57,z58,z59,z5a,z5b,z5c,z5d,z5e,z5f,z5g,z5h,z5i,z5j,z5k,z5l,z5m,z5n,z5o,z5p,z5q,z5r,z5s,z5t,z5u,z5v,z5w,z5x,z5y,z5z,z60,z61,z62,z63,z64,z65,z66,z67,z68,z69,allV,allP,z6a,z6b,z6c,z6d,z6e,z6f,z6g,z6h,z6i,z6j,z6k,z6l,z6m,Option.map_some,Option.map_none,Option.some.injEq,reduceIte,reduceCtorEq,Nat.reduceEqDiff,Nat.reduceAdd,Nat.reduceMul,Nat.reduceLT,Nat.reduceSub,Int.reduceLT,Int.reduceLE,Int.reduceEq,Int.reduceNe,Int.reduceSub,Int.reduceAdd,Int.reduceMul,Int.reduceBEq,Int.reduceBNe,Int.reduceGT,Int.reduceGE,Nat.reduceGT,Int.reduceToNat,Int.reduceNeg,Nat.reduceLeDiff,Nat.reduceBEq,Nat.reduceBneDiff,binV,eqV,unV,oOpt,true_and,and_true,Value.cells,List.length_cons,List.length_nil,List.append_nil,List.nil_append,List.cons_append,List.drop_succ_cons,List.drop_zero,List.take_succ_cons,List.take_zero,List.take_nil,List.getElem?_cons_zero,List.getElem?_cons_succ,decide_true,decide_false,decide_eq_true_eq,decide_eq_false_iff_not,Bool.false_eq_true,Bool.true_eq_false,Bool.not_true,Bool.not_false,Bool.not_eq_true',Bool.not_eq_false',Bool.not_eq_true,Bool.not_eq_false,false_implies,true_implies,beq_iff_eq,beq_eq_false_iff_ne,bne_iff_ne,bne_eq_false_iff_eq,ne_eq,ge_iff_le,gt_iff_lt,Int.not_lt,Int.not_le,not_true_eq_false,not_false_eq_true,if_true,if_false,z6n,z6o,z6p,z6q,Heap.set_set,z6r,z6s,z6t,z6u,z6v,z6w,List.getElem_cons_zero,List.getElem_cons_succ,List.set_cons_zero,List.set_cons_succ,List.length_set,List.all_cons,List.all_nil,Bool.and_true,Bool.true_and,Bool.and_self,Nat.add_zero,Nat.zero_add,Nat.zero_lt_succ,Int.cast_ofNat_Int,List.size_toArray,List.flatten_replicate_singleton,Nat.mul_one,Nat.le_refl,Nat.lt_irrefl,Nat.le_add_left]
    exact ⟨le', ow⟩

/-! ### numbers, the highest byte first -/
def fromBigF (l : List UInt8) : U64 := l.foldl (fun v b => v <<< 8 ||| BitVec.ofNat 64 b.toNat) 0
theorem u8_u64' (b : UInt8) : IntKind.u64.wrap (b.toNat : Int) = ((BitVec.ofNat 64 b.toNat).toNat : Int) := u8_u64 b
theorem octet_FromBig_c (E : EnvT tab) (h : Heap) {v : Value} (l : List UInt8) (hl : l.length ≤ 8) (s : SlB h v l) : ACallN E.toEnv n_octet_FromBig [v] h fun r h' => h' = h ∧ r = .tuple #[u64V (fromBigF l), .int .i64 0] := by
  obtain ⟨base, c, rfl⟩ := Sl.shape s
  refine acall h_octet_FromBig ir_octet_FromBig rfl rfl (wpA_sound ?_)
  unfold ir_octet_FromBig
  have g1 : ¬ (8 : Int) < l.length := by omega
  simp -implicitDefEqProofs only [z00,z01,z02,z03,z04,z05,z06,z07,z08,z09,z0a,z0b,z0c,z0d,z0e,z0f,z0g,z0h,z0i,z0j,z0k,z0l,z0m,z0n,retO,retL,retV,z0o,z0p,z0q,z0r,z0s,z0t,z0u,z0v,z0w,z0x,z0y,z0z,z10,z11,z12,z13,z14,z15,z16,z17,z18,z19,z1a,z1b,z1c,z1d,z1e,z1f,z1g,z1h,z1i,z1j,z1k,z1l,z1m,z1n,z1o,z1p,z1q,z1r,z1s,z1t,z1u,z1v,z1w,z1x,z1y,z1z,z20,z21,z22,z23,z24,z25,z26,z27,z28,z29,z2a,z2b,z2c,z2d,z2e,z2f,z2g,z2h,z2i,z2j,z2k,z2l,z2m,z2n,z2o,z2p,z2q,z2r,z2s,z2t,z2u,z2v,z2w,z2x,z2y,z2z,z30,z31,z32,z33,z34,z35,z36,z37,z38,z39,z3a,z3b,z3c,z3d,z3e,z3f,z3g,z3h,z3i,z3j,z3k,z3l,z3m,z3n,z3o,z3p,z3q,z3r,z3s,z3t,z3u,z3v,z3w,z3x,z3y,z3z,z40,z41,z42,z43,z44,z45,z46,z47,z48,z49,z4a,z4b,z4c,z4d,z4e,z4f,z4g,z4h,z4i,z4j,z4k,z4l,z4m,z4n,z4o,z4p,z4q,z4r,z4s,z4t,z4u,z4v,z4w,z4x,z4y,z4z,z50,z51,z52,z53,z54,z55,z56,z57,z58,z59,z5a,z5b,z5c,z5d,z5e,z5f,z5g,z5h,z5i,z5j,z5k,z5l,z5m,z5n,z5o,z5p,z5q,z5r,z5s,z5t,z5u,z5v,z5w,z5x,z5y,z5z,z60,z61,z62,z63,z64,z65,z66,z67,z68,z69,allV,allP,z6a,z6b,z6c,z6d,z6e,z6f,z6g,z6h,z6i,z6j,z6k,z6l,z6m,Option.map_some,Option.map_none,Option.some.injEq,reduceIte,reduceCtorEq,Nat.reduceEqDiff,Nat.reduceAdd,Nat.reduceMul,Nat.reduceLT,Nat.reduceSub,Int.reduceLT,Int.reduceLE,Int.reduceEq,Int.reduceNe,Int.reduceSub,Int.reduceAdd,Int.reduceMul,Int.reduceBEq,Int.reduceBNe,Int.reduceGT,Int.reduceGE,Nat.reduceGT,Int.reduceToNat,Int.reduceNeg,Nat.reduceLeDiff,Nat.reduceBEq,Nat.reduceBneDiff,binV,eqV,unV,oOpt,true_and,and_true,Value.cells,List.length_cons,List.length_nil,List.append_nil,List.nil_append,List.cons_append,List.drop_succ_cons,List.drop_zero,List.take_succ_cons,List.take_zero,List.take_nil,List.getElem?_cons_zero,List.getElem?_cons_succ,decide_true,decide_false,decide_eq_true_eq,decide_eq_false_iff_not,Bool.false_eq_true,Bool.true_eq_false,Bool.not_true,Bool.not_false,Bool.not_eq_true',Bool.not_eq_false',Bool.not_eq_true,Bool.not_eq_false,false_implies,true_implies,beq_iff_eq,beq_eq_false_iff_ne,bne_iff_ne,bne_eq_false_iff_eq,ne_eq,ge_iff_le,gt_iff_lt,Int.not_lt,Int.not_le,not_true_eq_false,not_false_eq_true,if_true,if_false,z6n,z6o,z6p,z6q,Heap.set_set,z6r,z6s,z6t,z6u,z6v,z6w,List.getElem_cons_zero,List.getElem_cons_succ,List.set_cons_zero,List.set_cons_succ,List.length_set,List.all_cons,List.all_nil,Bool.and_true,Bool.true_and,Bool.and_self,Nat.add_zero,Nat.zero_add,Nat.zero_lt_succ,Int.cast_ofNat_Int,List.size_toArray,List.flatten_replicate_singleton,Nat.mul_one,Nat.le_refl,Nat.lt_irrefl,Nat.le_add_left, g1]
  refine wp_loop' (fun m t H => H = h ∧ ∃ (j : Nat), t = tl [(4, .int .u64 (fromBigF (l.take j)).toNat), (10, .slice base l.length c), (11, .int .i64 l.length), (12, .int .i64 j)] ∧ j ≤ l.length ∧ m = l.length - j) l.length
    ⟨rfl, 0, rfl, by omega, by omega⟩ ?_
  rintro m t H ⟨rfl, j, rfl, hj, rfl⟩
  by_cases hlt : j < l.length
  · obtain ⟨b, o, c', hv, hc, hcl⟩ := Sl.byte_at s j hlt
    simp only [Value.slice.injEq, true_and] at hv
    obtain ⟨rfl, rfl⟩ := hv
    have hz := hcl H (Heap.le_refl _)
    unfold u8V at hz
    have e1 : (j : Int) < l.length := by omega
    have e2 : (0 : Int) ≤ j := by omega
    simp -implicitDefEqProofs only [z00,z01,z02,z03,z04,z05,z06,z07,z08,z09,z0a,z0b,z0c,z0d,z0e,z0f,z0g,z0h,z0i,z0j,z0k,z0l,z0m,z0n,retO,retL,retV,z0o,z0p,z0q,z0r,z0s,z0t,z0u,z0v,z0w,z0x,z0y,z0z,z10,z11,z12,z13,z14,z15,z16,z17,z18,z19,z1a,z1b,z1c,z1d,z1e,z1f,z1g,z1h,z1i,z1j,z1k,z1l,z1m,z1n,z1o,z1p,z1q,z1r,z1s,z1t,z1u,z1v,z1w,z1x,z1y,z1z,z20,z21,z22,z23,z24,z25,z26,z27,z28,z29,z2a,z2b,z2c,z2d,z2e,z2f,z2g,z2h,z2i,z2j,z2k,z2l,z2m,z2n,z2o,z2p,z2q,z2r,z2s,z2t,z2u,z2v,z2w,z2x,z2y,z2z,z30,z31,z32,z33,z34,z35,z36,z37,z38,z39,z3a,z3b,z3c,z3d,z3e,z3f,z3g,z3h,z3i,z3j,z3k,z3l,z3m,z3n,z3o,z3p,z3q,z3r,z3s,z3t,z3u,z3v,z3w,z3x,z3y,z3z,z40,z41,z42,z43,z44,z45,z46,z47,z48,z49,z4a,z4b,z4c,z4d,z4e,z4f,z4g,z4h,z4i,z4j,z4k,z4l,z4m,z4n,z4o,z4p,z4q,z4r,z4s,z4t,z4u,z4v,z4w,z4x,z4y,z4z,z50,z51,z52,z53,z54,z55,z56,z57,z58,z59,z5a,z5b,z5c,z5d,z5e,z5f,z5g,z5h,z5i,z5j,z5k,z5l,z5m,z5n,z5o,z5p,z5q,z5r,z5s,z5t,z5u,z5v,z5w,z5x,z5y,z5z,z60,z61,z62,z63,z64,z65,z66,z67,z68,z69,allV,allP,z6a,z6b,z6c,z6d,z6e,z6f,z6g,z6h,z6i,z6j,z6k,z6l,z6m,Option.map_some,Option.map_none,Option.some.injEq,reduceIte,reduceCtorEq,Nat.reduceEqDiff,Nat.reduceAdd,Nat.reduceMul,Nat.reduceLT,Nat.reduceSub,Int.reduceLT,Int.reduceLE,Int.reduceEq,Int.reduceNe,Int.reduceSub,Int.reduceAdd,Int.reduceMul,Int.reduceBEq,Int.reduceBNe,Int.reduceGT,Int.reduceGE,Nat.reduceGT,Int.reduceToNat,Int.reduceNeg,Nat.reduceLeDiff,Nat.reduceBEq,Nat.reduceBneDiff,binV,eqV,unV,oOpt,true_and,and_true,Value.cells,List.length_cons,List.length_nil,List.append_nil,List.nil_append,List.cons_append,List.drop_succ_cons,List.drop_zero,List.take_succ_cons,List.take_zero,List.take_nil,List.getElem?_cons_zero,List.getElem?_cons_succ,decide_true,decide_false,decide_eq_true_eq,decide_eq_false_iff_not,Bool.false_eq_true,Bool.true_eq_false,Bool.not_true,Bool.not_false,Bool.not_eq_true',Bool.not_eq_false',Bool.not_eq_true,Bool.not_eq_false,false_implies,true_implies,beq_iff_eq,beq_eq_false_iff_ne,bne_iff_ne,bne_eq_false_iff_eq,ne_eq,ge_iff_le,gt_iff_lt,Int.not_lt,Int.not_le,not_true_eq_false,not_false_eq_true,if_true,if_false,z6n,z6o,z6p,z6q,Heap.set_set,z6r,z6s,z6t,z6u,z6v,z6w,List.getElem_cons_zero,List.getElem_cons_succ,List.set_cons_zero,List.set_cons_succ,List.length_set,List.all_cons,List.all_nil,Bool.and_true,Bool.true_and,Bool.and_self,Nat.add_zero,Nat.zero_add,Nat.zero_lt_succ,Int.cast_ofNat_Int,List.size_toArray,List.flatten_replicate_singleton,Nat.mul_one,Nat.le_refl,Nat.lt_irrefl,Nat.le_add_left, e1, e2, hz, Int.toNat_natCast, u64_shl, u8_u64, u64_or, wrapN (n := j) (by omega)]
    refine ⟨_, ?_, j + 1, ?_, hlt, rfl⟩
    · omega
    · rw [List.take_succ_eq_append_getElem hlt]
      simp only [fromBigF, List.foldl_append, List.foldl_cons, List.foldl_nil]
  · have e1 : ¬ (j : Int) < l.length := by omega
    have : j = l.length := by omega
    subst this
    rw [List.take_length]
    simp -implicitDefEqProofs only [z00,z01,z02,z03,z04,z05,z06,z07,z08,z09,z0a,z0b,z0c,z0d,z0e,z0f,z0g,z0h,z0i,z0j,z0k,z0l,z0m,z0n,retO,retL,retV,z0o,z0p,z0q,z0r,z0s,z0t,z0u,z0v,z0w,z0x,z0y,z0z,z10,z11,z12,z13,z14,z15,z16,z17,z18,z19,z1a,z1b,z1c,z1d,z1e,z1f,z1g,z1h,z1i,z1j,z1k,z1l,z1m,z1n,z1o,z1p,z1q,z1r,z1s,z1t,z1u,z1v,z1w,z1x,z1y,z1z,z20,z21,z22,z23,z24,z25,z26,z27,z28,z29,z2a,z2b,z2c,z2d,z2e,z2f,z2g,z2h,z2i,z2j,z2k,z2l,z2m,z2n,z2o,z2p,z2q,z2r,z2s,z2t,z2u,z2v,z2w,z2x,z2y,z2z,z30,z31,z32,z33,z34,z35,z36,z37,z38,z39,z3a,z3b,z3c,z3d,z3e,z3f,z3g,z3h,z3i,z3j,z3k,z3l,z3m,z3n,z3o,z3p,z3q,z3r,z3s,z3t,z3u,z3v,z3w,z3x,z3y,z3z,z40,z41,z42,z43,z44,z45,z46,z47,z48,z49,z4a,z4b,z4c,z4d,z4e,z4f,z4g,z4h,z4i,z4j,z4k,z4l,z4m,z4n,z4o,z4p,z4q,z4r,z4s,z4t,z4u,z4v,z4w,z4x,z4y,z4z,z50,z51,z52,z53,z54,z55,z56,z57,z58,z59,z5a,z5b,z5c,z5d,z5e,z5f,z5g,z5h,z5i,z5j,z5k,z5l,z5m,z5n,z5o,z5p,z5q,z5r,z5s,z5t,z5u,z5v,z5w,z5x,z5y,z5z,z60,z61,z62,z63,z64,z65,z66,z67,z68,z69,allV,allP,z6a,z6b,z6c,z6d,z6e,z6f,z6g,z6h,z6i,z6j,z6k,z6l,z6m,Option.map_some,Option.map_none,Option.some.injEq,reduceIte,reduceCtorEq,Nat.reduceEqDiff,Nat.reduceAdd,Nat.reduceMul,Nat.reduceLT,Nat.reduceSub,Int.reduceLT,Int.reduceLE,Int.reduceEq,Int.reduceNe,Int.reduceSub,Int.reduceAdd,Int.reduceMul,Int.reduceBEq,Int.reduceBNe,Int.reduceGT,Int.reduceGE,Nat.reduceGT,Int.reduceToNat,Int.reduceNeg,Nat.reduceLeDiff,Nat.reduceBEq,Nat.reduceBneDiff,binV,eqV,unV,oOpt,true_and,and_true,Value.cells,List.length_cons,List.length_nil,List.append_nil,List.nil_append,List.cons_append,List.drop_succ_cons,List.drop_zero,List.take_succ_cons,List.take_zero,List.take_nil,List.getElem?_cons_zero,List.getElem?_cons_succ,decide_true,decide_false,decide_eq_true_eq,decide_eq_false_iff_not,Bool.false_eq_true,Bool.true_eq_false,Bool.not_true,Bool.not_false,Bool.not_eq_true',Bool.not_eq_false',Bool.not_eq_true,Bool.not_eq_false,false_implies,true_implies,beq_iff_eq,beq_eq_false_iff_ne,bne_iff_ne,bne_eq_false_iff_eq,ne_eq,ge_iff_le,gt_iff_lt,Int.not_lt,Int.not_le,not_true_eq_false,not_false_eq_true,if_true,if_false,z6n,z6o,z6p,z6q,Heap.set_set,z6r,z6s,z6t,z6u,z6v,z6w,List.getElem_cons_zero,List.getElem_cons_succ,List.set_cons_zero,List.set_cons_succ,List.length_set,List.all_cons,List.all_nil,Bool.and_true,Bool.true_and,Bool.and_self,Nat.add_zero,Nat.zero_add,Nat.zero_lt_succ,Int.cast_ofNat_Int,List.size_toArray,List.flatten_replicate_singleton,Nat.mul_one,Nat.le_refl,Nat.lt_irrefl,Nat.le_add_left, e1]
    rfl

end Go.Bb
/- Contracts: products of words. -/
namespace Go.Bb
set_option linter.unusedSimpArgs false
set_option linter.unusedVariables false
set_option maxRecDepth 20000

theorem wrap_u64n {n : Nat} (h : n < 18446744073709551616) : IntKind.u64.wrap (n : Int) = (n : Int) := by
  rw [wrap_u64, ofInt_nat]; simp; omega
theorem wrap_u64m (n : Nat) : IntKind.u64.wrap (n : Int) = ((n % 18446744073709551616 : Nat) : Int) := by
  rw [wrap_u64, ofInt_nat]; simp
theorem and_low (a : Nat) : IntKind.u64.wrap ((BitVec.ofInt IntKind.u64.bits (a : Int) &&& BitVec.ofInt IntKind.u64.bits 4294967295).toNat : Int) = ((a % 4294967296 : Nat) : Int) := by
  have e : (BitVec.ofInt IntKind.u64.bits (a : Int) &&& BitVec.ofInt IntKind.u64.bits 4294967295).toNat = a % 4294967296 := by
    rw [show IntKind.u64.bits = 64 from rfl, show BitVec.ofInt 64 4294967295 = BitVec.ofNat 64 (2 ^ 32 - 1) from rfl, ofInt_nat, BitVec.toNat_and, BitVec.toNat_ofNat, BitVec.toNat_ofNat]
    rw [Nat.mod_eq_of_lt (show 2 ^ 32 - 1 < 2 ^ 64 by decide), Nat.and_two_pow_sub_one_eq_mod]
    omega
  rw [e]
  exact wrap_u64n (by omega)
theorem shr_32 (a : Nat) : (a : Int).fdiv (2 ^ (min (Int.toNat 32) IntKind.u64.bits)) = ((a / 4294967296 : Nat) : Int) := by
  rw [show min (Int.toNat 32) IntKind.u64.bits = 32 from rfl, Int.fdiv_eq_ediv_of_nonneg _ (by decide)]
  simp
theorem shr_32' (a : Nat) : (a : Int).fdiv (2 ^ (min 32 IntKind.u64.bits)) = ((a / 4294967296 : Nat) : Int) := shr_32 a

theorem mul_parts (x1 x0 y1 y0 : Nat) (hx : x0 < 4294967296) (hy : y0 < 4294967296) :
    x1 * y1 + (x1 * y0 + x0 * y0 / 4294967296) / 4294967296 + ((x1 * y0 + x0 * y0 / 4294967296) % 4294967296 + x0 * y1) / 4294967296 = (x1 * 4294967296 + x0) * (y1 * 4294967296 + y0) / 18446744073709551616 := by
  have e : (x1 * 4294967296 + x0) * (y1 * 4294967296 + y0) = x1 * y1 * 18446744073709551616 + (x1 * y0 + x0 * y1) * 4294967296 + x0 * y0 := by
    rw [Nat.add_mul, Nat.mul_add, Nat.mul_add]
    have h1 : x1 * 4294967296 * (y1 * 4294967296) = x1 * y1 * 18446744073709551616 := by
      rw [Nat.mul_mul_mul_comm]
    have h2 : x1 * 4294967296 * y0 = x1 * y0 * 4294967296 := by rw [Nat.mul_right_comm]
    have h3 : x0 * (y1 * 4294967296) = x0 * y1 * 4294967296 := by rw [Nat.mul_assoc]
    rw [h1, h2, h3, Nat.add_mul]
    omega
  rw [e]
  generalize x1 * y1 = A
  generalize x1 * y0 = B
  generalize x0 * y1 = C
  generalize x0 * y0 = D
  omega

theorem Mul64_c (E : EnvT tab) (h : Heap) (a b : Nat) (ha : a < 18446744073709551616) (hb : b < 18446744073709551616) :
    ACallN E.toEnv n_math_bits_Mul64 [.int .u64 a, .int .u64 b] h fun r h' => h' = h ∧ r = .tuple #[.int .u64 ((a * b / 18446744073709551616 : Nat) : Int), .int .u64 ((a * b % 18446744073709551616 : Nat) : Int)] := by
  refine acall h_math_bits_Mul64 ir_math_bits_Mul64 rfl rfl (wpA_sound ?_)
  unfold ir_math_bits_Mul64
  have hx0 : a % 4294967296 < 4294967296 := Nat.mod_lt _ (by decide)
  have hy0 : b % 4294967296 < 4294967296 := Nat.mod_lt _ (by decide)
  have hx1 : a / 4294967296 < 4294967296 := by omega
  have hy1 : b / 4294967296 < 4294967296 := by omega
  have key := mul_parts (a / 4294967296) (a % 4294967296) (b / 4294967296) (b % 4294967296) hx0 hy0
  rw [show a / 4294967296 * 4294967296 + a % 4294967296 = a from by omega, show b / 4294967296 * 4294967296 + b % 4294967296 = b from by omega] at key
  have lo : IntKind.u64.wrap ((a : Int) * b) = ((a * b % 18446744073709551616 : Nat) : Int) := by rw [← Int.natCast_mul, wrap_u64m]
  simp -implicitDefEqProofs only [z00,z01,z02,z03,z04,z05,z06,z07,z08,z09,z0a,z0b,z0c,z0d,z0e,z0f,z0g,z0h,z0i,z0j,z0k,z0l,z0m,z0n,retO,retL,retV,z0o,z0p,z0q,z0r,z0s,z0t,z0u,z0v,z0w,z0x,z0y,z0z,z10,z11,z12,z13,z14,z15,z16,z17,z18,z19,z1a,z1b,z1c,z1d,z1e,z1f,z1g,z1h,z1i,z1j,z1k,z1l,z1m,z1n,z1o,z1p,z1q,z1r,z1s,z1t,z1u,z1v,z1w,z1x,z1y,z1z,z20,z21,z22,z23,z24,z25,z26,z27,z28,z29,z2a,z2b,z2c,z2d,z2e,z2f,z2g,z2h,z2i,z2j,z2k,z2l,z2m,z2n,z2o,z2p,z2q,z2r,z2s,z2t,z2u,z2v,z2w,z2x,z2y,z2z,z30,z31,z32,z33,z34,z35,z36,z37,z38,z39,z3a,z3b,z3c,z3d,z3e,z3f,z3g,z3h,z3i,z3j,z3k,z3l,z3m,z3n,z3o,z3p,z3q,z3r,z3s,z3t,z3u,z3v,z3w,z3x,z3y,z3z,z40,z41,z42,z43,z44,z45,z46,z47,z48,z49,z4a,z4b,z4c,z4d,z4e,z4f,z4g,z4h,z4i,z4j,z4k,z4l,z4m,z4n,z4o,z4p,z4q,z4r,z4s,z4t,z4u,z4v,z4w,z4x,z4y,z4z,z50,z51,z52,z53,z54,z55,z56,z57,z58,z59,z5a,z5b,z5c,z5d,z5e,z5f,z5g,z5h,z5i,z5j,z5k,z5l,z5m,z5n,z5o,z5p,z5q,z5r,z5s,z5t,z5u,z5v,z5w,z5x,z5y,z5z,z60,z61,z62,z63,z64,z65,z66,z67,z68,z69,allV,allP,z6a,z6b,z6c,z6d,z6e,z6f,z6g,z6h,z6i,z6j,z6k,z6l,z6m,Option.map_some,Option.map_none,Option.some.injEq,reduceIte,reduceCtorEq,Nat.reduceEqDiff,Nat.reduceAdd,Nat.reduceMul,Nat.reduceLT,Nat.reduceSub,Int.reduceLT,Int.reduceLE,Int.reduceEq,Int.reduceNe,Int.reduceSub,Int.reduceAdd,Int.reduceMul,Int.reduceBEq,Int.reduceBNe,Int.reduceGT,Int.reduceGE,Nat.reduceGT,Int.reduceToNat,Int.reduceNeg,Nat.reduceLeDiff,Nat.reduceBEq,Nat.reduceBneDiff,binV,eqV,unV,oOpt,true_and,and_true,Value.cells,List.length_cons,List.length_nil,List.append_nil,List.nil_append,List.cons_append,List.drop_succ_cons,List.drop_zero,List.take_succ_cons,List.take_zero,List.take_nil,List.getElem?_cons_zero,List.getElem?_cons_succ,decide_true,decide_false,decide_eq_true_eq,decide_eq_false_iff_not,Bool.false_eq_true,Bool.true_eq_false,Bool.not_true,Bool.not_false,Bool.not_eq_true',Bool.not_eq_false',Bool.not_eq_true,Bool.not_eq_false,false_implies,true_implies,beq_iff_eq,beq_eq_false_iff_ne,bne_iff_ne,bne_eq_false_iff_eq,ne_eq,ge_iff_le,gt_iff_lt,Int.not_lt,Int.not_le,not_true_eq_false,not_false_eq_true,if_true,if_false,z6n,z6o,z6p,z6q,Heap.set_set,z6r,z6s,z6t,z6u,z6v,z6w,List.getElem_cons_zero,List.getElem_cons_succ,List.set_cons_zero,List.set_cons_succ,List.length_set,List.all_cons,List.all_nil,Bool.and_true,Bool.true_and,Bool.and_self,Nat.add_zero,Nat.zero_add,Nat.zero_lt_succ,Int.cast_ofNat_Int,List.size_toArray,List.flatten_replicate_singleton,Nat.mul_one,Nat.le_refl,Nat.lt_irrefl,Nat.le_add_left, and_low, shr_32, shr_32']
  generalize a / 4294967296 = x1 at *
  generalize a % 4294967296 = x0 at *
  generalize b / 4294967296 = y1 at *
  generalize b % 4294967296 = y0 at *
  have bd : ∀ x y : Nat, x < 4294967296 → y < 4294967296 → x * y ≤ 18446744065119617025 := fun x y h1 h2 => by
    have := Nat.mul_le_mul (show x ≤ 4294967295 by omega) (show y ≤ 4294967295 by omega)
    simpa using this
  have b00 := bd x0 y0 hx0 hy0
  have b10 := bd x1 y0 hx1 hy0
  have b01 := bd x0 y1 hx0 hy1
  have b11 := bd x1 y1 hx1 hy1
  have pr : ∀ x y : Nat, x * y ≤ 18446744065119617025 → IntKind.u64.wrap ((x : Int) * (y : Int)) = ((x * y : Nat) : Int) := fun x y h => by rw [← Int.natCast_mul]; exact wrap_u64n (by omega)
  have ad : ∀ x y : Nat, x + y < 18446744073709551616 → IntKind.u64.wrap ((x : Int) + (y : Int)) = ((x + y : Nat) : Int) := fun x y h => by rw [← Int.natCast_add]; exact wrap_u64n h
  rw [pr _ _ b00, pr _ _ b10, pr _ _ b01, pr _ _ b11, lo]
  generalize x0 * y0 = p00 at *
  generalize x1 * y0 = p10 at *
  generalize x0 * y1 = p01 at *
  generalize x1 * y1 = p11 at *
  have s1 := shr_32' p00
  rw [s1, ad p10 (p00 / 4294967296) (by omega)]
  rw [shr_32', and_low, ad _ p01 (by omega), shr_32', ad p11 _ (by omega), ad _ _ (by omega), key]
end Go.Bb
/- Contracts: numbers of three words. -/
namespace Go.Bb
set_option linter.unusedSimpArgs false
set_option linter.unusedVariables false
set_option maxRecDepth 20000

/-- A number of three words. -/
structure N3 where
  a : Nat
  b : Nat
  c : Nat
def N3.ok (x : N3) : Prop := x.a < 18446744073709551616 ∧ x.b < 18446744073709551616 ∧ x.c < 18446744073709551616
def N3.val (x : N3) : Nat := x.a + 18446744073709551616 * x.b + 340282366920938463463374607431768211456 * x.c
def N3.cells (x : N3) : List Value := [.int .u64 (x.a : Int), .int .u64 (x.b : Int), .int .u64 (x.c : Int)]
def N3.V (x : N3) : Value := .agg x.cells.toArray
def N3.plus (x y : N3) : N3 :=
  ⟨(x.a + y.a) % 18446744073709551616, (x.b + y.b + (x.a + y.a) / 18446744073709551616) % 18446744073709551616, (x.c + (y.c + (x.b + y.b + (x.a + y.a) / 18446744073709551616) / 18446744073709551616) % 18446744073709551616) % 18446744073709551616⟩
theorem N3.plus_ok (x y : N3) : (x.plus y).ok := ⟨Nat.mod_lt _ (by decide), Nat.mod_lt _ (by decide), Nat.mod_lt _ (by decide)⟩
theorem N3.plus_val (x y : N3) : (x.plus y).val = (x.val + y.val) % 6277101735386680763835789423207666416102355444464034512896 := by
  unfold N3.plus N3.val
  simp only
  omega

theorem add64_0 (x y : Nat) : primV .add64 [.int .u64 (x : Int), .int .u64 (y : Int), .int .u64 0] = some (.tuple #[.int .u64 (((x + y) % 18446744073709551616 : Nat) : Int), .int .u64 (((x + y) / 18446744073709551616 : Nat) : Int)]) := by
  simp [primV]
theorem add64_c (x y c : Nat) (hc : c ≤ 1) : primV .add64 [.int .u64 (x : Int), .int .u64 (y : Int), .int .u64 (c : Int)] = some (.tuple #[.int .u64 (((x + y + c) % 18446744073709551616 : Nat) : Int), .int .u64 (((x + y + c) / 18446744073709551616 : Nat) : Int)]) := by
  have : (c : Int) = 0 ∨ (c : Int) = 1 := by omega
  simp only [primV, if_pos this, Int.toNat_natCast]

theorem num_plus_c (E : EnvT tab) (h : Heap) (x y : N3) (hx : x.ok) (hy : y.ok) : ACallN E.toEnv n_poly_num_plus [x.V, y.V] h fun r h' => h.le h' ∧ r = (x.plus y).V := by
  obtain ⟨x0, x1, x2⟩ := x
  obtain ⟨y0, y1, y2⟩ := y
  obtain ⟨hx0, hx1, hx2⟩ := hx
  obtain ⟨hy0, hy1, hy2⟩ := hy
  simp only at hx0 hx1 hx2 hy0 hy1 hy2
  refine acall h_poly_num_plus ir_poly_num_plus rfl rfl (wpA_sound ?_)
  unfold ir_poly_num_plus N3.V N3.cells
  have c1 : (((x0 + y0) / 18446744073709551616 : Nat) : Int) = 0 ∨ (((x0 + y0) / 18446744073709551616 : Nat) : Int) = 1 := by omega
  have w1 : IntKind.u64.wrap ((y2 : Int) + (((x1 + y1 + (x0 + y0) / 18446744073709551616) / 18446744073709551616 : Nat) : Int)) = (((y2 + (x1 + y1 + (x0 + y0) / 18446744073709551616) / 18446744073709551616) % 18446744073709551616 : Nat) : Int) := by rw [← Int.natCast_add, wrap_u64m]
  have w2 : IntKind.u64.wrap ((x2 : Int) + (((y2 + (x1 + y1 + (x0 + y0) / 18446744073709551616) / 18446744073709551616) % 18446744073709551616 : Nat) : Int)) = (((x2 + (y2 + (x1 + y1 + (x0 + y0) / 18446744073709551616) / 18446744073709551616) % 18446744073709551616) % 18446744073709551616 : Nat) : Int) := by rw [← Int.natCast_add, wrap_u64m]
  simp -implicitDefEqProofs only [z00,z01,z02,z03,z04,z05,z06,z07,z08,z09,z0a,z0b,z0c,z0d,z0e,z0f,z0g,z0h,z0i,z0j,z0k,z0l,z0m,z0n,retO,retL,retV,z0o,z0p,z0q,z0r,z0s,z0t,z0u,z0v,z0w,z0x,z0y,z0z,z10,z11,z12,z13,z14,z15,z16,z17,z18,z19,z1a,z1b,z1c,z1d,z1e,z1f,z1g,z1h,z1i,z1j,z1k,z1l,z1m,z1n,z1o,z1p,z1q,z1r,z1s,z1t,z1u,z1v,z1w,z1x,z1y,z1z,z20,z21,z22,z23,z24,z25,z26,z27,z28,z29,z2a,z2b,z2c,z2d,z2e,z2f,z2g,z2h,z2i,z2j,z2k,z2l,z2m,z2n,z2o,z2p,z2q,z2r,z2s,z2t,z2u,z2v,z2w,z2x,z2y,z2z,z30,z31,z32,z33,z34,z35,z36,z37,z38,z39,z3a,z3b,z3c,z3d,z3e,z3f,z3g,z3h,z3i,z3j,z3k,z3l,z3m,z3n,z3o,z3p,z3q,z3r,z3s,z3t,z3u,z3v,z3w,z3x,z3y,z3z,z40,z41,z42,z43,z44,z45,z46,z47,z48,z49,z4a,z4b,z4c,z4d,z4e,z4f,z4g,z4h,z4i,z4j,z4k,z4l,z4m,z4n,z4o,z4p,z4q,z4r,z4s,z4t,z4u,z4v,z4w,z4x,z4y,z4z,z50,z51,z52,z53,z54,z55,z56,z57,z58,z59,z5a,z5b,z5c,z5d,z5e,z5f,z5g,z5h,z5i,z5j,z5k,z5l,z5m,z5n,z5o,z5p,z5q,z5r,z5s,z5t,z5u,z5v,z5w,z5x,z5y,z5z,z60,z61,z62,z63,z64,z65,z66,z67,z68,z69,allV,allP,z6a,z6b,z6c,z6d,z6e,z6f,z6g,z6h,z6i,z6j,z6k,z6l,z6m,Option.map_some,Option.map_none,Option.some.injEq,reduceIte,reduceCtorEq,Nat.reduceEqDiff,Nat.reduceAdd,Nat.reduceMul,Nat.reduceLT,Nat.reduceSub,Int.reduceLT,Int.reduceLE,Int.reduceEq,Int.reduceNe,Int.reduceSub,Int.reduceAdd,Int.reduceMul,Int.reduceBEq,Int.reduceBNe,Int.reduceGT,Int.reduceGE,Nat.reduceGT,Int.reduceToNat,Int.reduceNeg,Nat.reduceLeDiff,Nat.reduceBEq,Nat.reduceBneDiff,binV,eqV,unV,oOpt,true_and,and_true,Value.cells,List.length_cons,List.length_nil,List.append_nil,List.nil_append,List.cons_append,List.drop_succ_cons,List.drop_zero,List.take_succ_cons,List.take_zero,List.take_nil,List.getElem?_cons_zero,List.getElem?_cons_succ,decide_true,decide_false,decide_eq_true_eq,decide_eq_false_iff_not,Bool.false_eq_true,Bool.true_eq_false,Bool.not_true,Bool.not_false,Bool.not_eq_true',Bool.not_eq_false',Bool.not_eq_true,Bool.not_eq_false,false_implies,true_implies,beq_iff_eq,beq_eq_false_iff_ne,bne_iff_ne,bne_eq_false_iff_eq,ne_eq,ge_iff_le,gt_iff_lt,Int.not_lt,Int.not_le,not_true_eq_false,not_false_eq_true,if_true,if_false,z6n,z6o,z6p,z6q,Heap.set_set,z6r,z6s,z6t,z6u,z6v,z6w,List.getElem_cons_zero,List.getElem_cons_succ,List.set_cons_zero,List.set_cons_succ,List.length_set,List.all_cons,List.all_nil,Bool.and_true,Bool.true_and,Bool.and_self,Nat.add_zero,Nat.zero_add,Nat.zero_lt_succ,Int.cast_ofNat_Int,List.size_toArray,List.flatten_replicate_singleton,Nat.mul_one,Nat.le_refl,Nat.lt_irrefl,Nat.le_add_left]
  intro b2 hb2 b3 hb3 b4 hb4
  try simp -implicitDefEqProofs only [z00,z01,z02,z03,z04,z05,z06,z07,z08,z09,z0a,z0b,z0c,z0d,z0e,z0f,z0g,z0h,z0i,z0j,z0k,z0l,z0m,z0n,retO,retL,retV,z0o,z0p,z0q,z0r,z0s,z0t,z0u,z0v,z0w,z0x,z0y,z0z,z10,z11,z12,z13,z14,z15,z16,z17,z18,z19,z1a,z1b,z1c,z1d,z1e,z1f,z1g,z1h,z1i,z1j,z1k,z1l,z1m,z1n,z1o,z1p,z1q,z1r,z1s,z1t,z1u,z1v,z1w,z1x,z1y,z1z,z20,z21,z22,z23,z24,z25,z26,z27,z28,z29,z2a,z2b,z2c,z2d,z2e,z2f,z2g,z2h,z2i,z2j,z2k,z2l,z2m,z2n,z2o,z2p,z2q,z2r,z2s,z2t,z2u,z2v,z2w,z2x,z2y,z2z,z30,z31,z32,z33,z34,z35,z36,z37,z38,z39,z3a,z3b,z3c,z3d,z3e,z3f,z3g,z3h,z3i,z3j,z3k,z3l,z3m,z3n,z3o,z3p,z3q,z3r,z3s,z3t,z3u,z3v,z3w,z3x,z3y,z3z,z40,z41,z42,z43,z44,z45,z46,z47,z48,z49,z4a,z4b,z4c,z4d,z4e,z4f,z4g,z4h,z4i,z4j,z4k,z4l,z4m,z4n,z4o,z4p,z4q,z4r,z4s,z4t,z4u,z4v,z4w,z4x,z4y,z4z,z50,z51,z52,z53,z54,z55,z56,z57,z58,z59,z5a,z5b,z5c,z5d,z5e,z5f,z5g,z5h,z5i,z5j,z5k,z5l,z5m,z5n,z5o,z5p,z5q,z5r,z5s,z5t,z5u,z5v,z5w,z5x,z5y,z5z,z60,z61,z62,z63,z64,z65,z66,z67,z68,z69,allV,allP,z6a,z6b,z6c,z6d,z6e,z6f,z6g,z6h,z6i,z6j,z6k,z6l,z6m,Option.map_some,Option.map_none,Option.some.injEq,reduceIte,reduceCtorEq,Nat.reduceEqDiff,Nat.reduceAdd,Nat.reduceMul,Nat.reduceLT,Nat.reduceSub,Int.reduceLT,Int.reduceLE,Int.reduceEq,Int.reduceNe,Int.reduceSub,Int.reduceAdd,Int.reduceMul,Int.reduceBEq,Int.reduceBNe,Int.reduceGT,Int.reduceGE,Nat.reduceGT,Int.reduceToNat,Int.reduceNeg,Nat.reduceLeDiff,Nat.reduceBEq,Nat.reduceBneDiff,binV,eqV,unV,oOpt,true_and,and_true,Value.cells,List.length_cons,List.length_nil,List.append_nil,List.nil_append,List.cons_append,List.drop_succ_cons,List.drop_zero,List.take_succ_cons,List.take_zero,List.take_nil,List.getElem?_cons_zero,List.getElem?_cons_succ,decide_true,decide_false,decide_eq_true_eq,decide_eq_false_iff_not,Bool.false_eq_true,Bool.true_eq_false,Bool.not_true,Bool.not_false,Bool.not_eq_true',Bool.not_eq_false',Bool.not_eq_true,Bool.not_eq_false,false_implies,true_implies,beq_iff_eq,beq_eq_false_iff_ne,bne_iff_ne,bne_eq_false_iff_eq,ne_eq,ge_iff_le,gt_iff_lt,Int.not_lt,Int.not_le,not_true_eq_false,not_false_eq_true,if_true,if_false,z6n,z6o,z6p,z6q,Heap.set_set,z6r,z6s,z6t,z6u,z6v,z6w,List.getElem_cons_zero,List.getElem_cons_succ,List.set_cons_zero,List.set_cons_succ,List.length_set,List.all_cons,List.all_nil,Bool.and_true,Bool.true_and,Bool.and_self,Nat.add_zero,Nat.zero_add,Nat.zero_lt_succ,Int.cast_ofNat_Int,List.size_toArray,List.flatten_replicate_singleton,Nat.mul_one,Nat.le_refl,Nat.lt_irrefl,Nat.le_add_left]
  have q32 : b3 ≠ b2 := (Heap.set_none.1 hb3).1
  have q43 : b4 ≠ b3 := (Heap.set_none.1 hb4).1
  have hb4' := (Heap.set_none.1 hb4).2
  have q42 : b4 ≠ b2 := (Heap.set_none.1 hb4').1
  have f2 := fun {x : Blk} {H : Heap} {off : Nat} {s : Option Nat} => hcell_ne (h := H) (x := x) (off := off) (s := s) (Ne.symm q42)
  have f3 := fun {x : Blk} {H : Heap} {off : Nat} {s : Option Nat} => hcell_ne (h := H) (x := x) (off := off) (s := s) (Ne.symm q32)
  have f4 := fun {x : Blk} {H : Heap} {off : Nat} {s : Option Nat} => hcell_ne (h := H) (x := x) (off := off) (s := s) (Ne.symm q43)
  have g2 := fun {x : Blk} {H : Heap} {off n : Nat} {s : Option Nat} => hcells_ne (h := H) (x := x) (off := off) (n := n) (s := s) (Ne.symm q42)
  have g3 := fun {x : Blk} {H : Heap} {off n : Nat} {s : Option Nat} => hcells_ne (h := H) (x := x) (off := off) (n := n) (s := s) (Ne.symm q32)
  have t2 := fun {x : Blk} {H : Heap} {off size : Nat} {v : Value} {s : Option Nat} => storeV_ne (h := H) (x := x) (off := off) (size := size) (v := v) (s := s) (Ne.symm q42)
  have t3 := fun {x : Blk} {H : Heap} {off size : Nat} {v : Value} {s : Option Nat} => storeV_ne (h := H) (x := x) (off := off) (size := size) (v := v) (s := s) (Ne.symm q32)
  have st4 : ∀ (H : Heap) (us : List Value), us.length = 3 → us.all one = true → storeV (H.set b4 (.own 0 [.int .u64 0, .int .u64 0, .int .u64 0] 3)) 3 (.pointer (some ⟨b4, 0, none⟩)) (.agg us.toArray) = some (H.set b4 (.own 0 us 3)) := fun H us h1 h2 => z6q (by omega) h1 h2 rfl (by omega)
  have st4 := fun H (a b c : Int) => st4 H [.int .u64 a, .int .u64 b, .int .u64 c] rfl rfl
  have p1 := add64_0 x0 y0
  have p2 := add64_c x1 y1 ((x0 + y0) / 18446744073709551616) (by omega)
  simp -implicitDefEqProofs only [z00,z01,z02,z03,z04,z05,z06,z07,z08,z09,z0a,z0b,z0c,z0d,z0e,z0f,z0g,z0h,z0i,z0j,z0k,z0l,z0m,z0n,retO,retL,retV,z0o,z0p,z0q,z0r,z0s,z0t,z0u,z0v,z0w,z0x,z0y,z0z,z10,z11,z12,z13,z14,z15,z16,z17,z18,z19,z1a,z1b,z1c,z1d,z1e,z1f,z1g,z1h,z1i,z1j,z1k,z1l,z1m,z1n,z1o,z1p,z1q,z1r,z1s,z1t,z1u,z1v,z1w,z1x,z1y,z1z,z20,z21,z22,z23,z24,z25,z26,z27,z28,z29,z2a,z2b,z2c,z2d,z2e,z2f,z2g,z2h,z2i,z2j,z2k,z2l,z2m,z2n,z2o,z2p,z2q,z2r,z2s,z2t,z2u,z2v,z2w,z2x,z2y,z2z,z30,z31,z32,z33,z34,z35,z36,z37,z38,z39,z3a,z3b,z3c,z3d,z3e,z3f,z3g,z3h,z3i,z3j,z3k,z3l,z3m,z3n,z3o,z3p,z3q,z3r,z3s,z3t,z3u,z3v,z3w,z3x,z3y,z3z,z40,z41,z42,z43,z44,z45,z46,z47,z48,z49,z4a,z4b,z4c,z4d,z4e,z4f,z4g,z4h,z4i,z4j,z4k,z4l,z4m,z4n,z4o,z4p,z4q,z4r,z4s,z4t,z4u,z4v,z4w,z4x,z4y,z4z,z50,z51,z52,z53,z54,z55,z56,z57,z58,z59,z5a,z5b,z5c,z5d,z5e,z5f,z5g,z5h,z5i,z5j,z5k,z5l,z5m,z5n,z5o,z5p,z5q,z5r,z5s,z5t,z5u,z5v,z5w,z5x,z5y,z5z,z60,z61,z62,z63,z64,z65,z66,z67,z68,z69,allV,allP,z6a,z6b,z6c,z6d,z6e,z6f,z6g,z6h,z6i,z6j,z6k,z6l,z6m,Option.map_some,Option.map_none,Option.some.injEq,reduceIte,reduceCtorEq,Nat.reduceEqDiff,Nat.reduceAdd,Nat.reduceMul,Nat.reduceLT,Nat.reduceSub,Int.reduceLT,Int.reduceLE,Int.reduceEq,Int.reduceNe,Int.reduceSub,Int.reduceAdd,Int.reduceMul,Int.reduceBEq,Int.reduceBNe,Int.reduceGT,Int.reduceGE,Nat.reduceGT,Int.reduceToNat,Int.reduceNeg,Nat.reduceLeDiff,Nat.reduceBEq,Nat.reduceBneDiff,binV,eqV,unV,oOpt,true_and,and_true,Value.cells,List.length_cons,List.length_nil,List.append_nil,List.nil_append,List.cons_append,List.drop_succ_cons,List.drop_zero,List.take_succ_cons,List.take_zero,List.take_nil,List.getElem?_cons_zero,List.getElem?_cons_succ,decide_true,decide_false,decide_eq_true_eq,decide_eq_false_iff_not,Bool.false_eq_true,Bool.true_eq_false,Bool.not_true,Bool.not_false,Bool.not_eq_true',Bool.not_eq_false',Bool.not_eq_true,Bool.not_eq_false,false_implies,true_implies,beq_iff_eq,beq_eq_false_iff_ne,bne_iff_ne,bne_eq_false_iff_eq,ne_eq,ge_iff_le,gt_iff_lt,Int.not_lt,Int.not_le,not_true_eq_false,not_false_eq_true,if_true,if_false,z6n,z6o,z6p,z6q,Heap.set_set,z6r,z6s,z6t,z6u,z6v,z6w,List.getElem_cons_zero,List.getElem_cons_succ,List.set_cons_zero,List.set_cons_succ,List.length_set,List.all_cons,List.all_nil,Bool.and_true,Bool.true_and,Bool.and_self,Nat.add_zero,Nat.zero_add,Nat.zero_lt_succ,Int.cast_ofNat_Int,List.size_toArray,List.flatten_replicate_singleton,Nat.mul_one,Nat.le_refl,Nat.lt_irrefl,Nat.le_add_left, f2, f3, f4, g2, g3, t2, t3, st4, Int.toNat_natCast, p1, p2, w1, w2]
  exact ⟨Heap.le_set (Heap.le_set (Heap.le_set (Heap.le_refl _) hb2 _) (Heap.set_none.1 hb3).2 _) (Heap.set_none.1 hb4').2 _, rfl⟩

theorem N3.ok2 (a b : Nat) (h : a * b < 340282366920938463463374607431768211456) : (⟨a * b % 18446744073709551616, a * b / 18446744073709551616, 0⟩ : N3).ok := ⟨Nat.mod_lt _ (by decide), by
  simp only
  generalize a * b = x at *
  omega, by simp⟩
theorem mul_lt {a b : Nat} (ha : a < 18446744073709551616) (hb : b < 18446744073709551616) : a * b < 340282366920938463463374607431768211456 := by
  have := Nat.mul_le_mul (show a ≤ 18446744073709551615 by omega) (show b ≤ 18446744073709551615 by omega)
  omega
def N3.col (s : N3) (a b : Nat) : N3 := s.plus ⟨a * b % 18446744073709551616, a * b / 18446744073709551616, 0⟩
theorem N3.col_ok (s : N3) (a b : Nat) : (s.col a b).ok := N3.plus_ok _ _
theorem store3 {H : Heap} {b : Nat} {old : List Value} (x : N3) (h : H b = some (.own 0 old 3)) (hl : old.length = 3) : storeV H 3 (.pointer (some ⟨b, 0, none⟩)) x.V = some (H.set b (.own 0 x.cells 3)) := by
  unfold N3.V; exact storeV_agg_at h (by omega) rfl rfl hl (by omega)

theorem column_c (E : EnvT tab) (h : Heap) (s : N3) (a b : Nat) (hs : s.ok) (ha : a < 18446744073709551616) (hb : b < 18446744073709551616) :
    ACallN E.toEnv n_poly_column [s.V, .int .u64 (a : Int), .int .u64 (b : Int)] h fun r h' => h.le h' ∧ r = (s.col a b).V := by
  obtain ⟨s0, s1, s2⟩ := s
  refine acall h_poly_column ir_poly_column rfl rfl (wpA_sound ?_)
  unfold ir_poly_column N3.V N3.cells
  simp -implicitDefEqProofs only [z00,z01,z02,z03,z04,z05,z06,z07,z08,z09,z0a,z0b,z0c,z0d,z0e,z0f,z0g,z0h,z0i,z0j,z0k,z0l,z0m,z0n,retO,retL,retV,z0o,z0p,z0q,z0r,z0s,z0t,z0u,z0v,z0w,z0x,z0y,z0z,z10,z11,z12,z13,z14,z15,z16,z17,z18,z19,z1a,z1b,z1c,z1d,z1e,z1f,z1g,z1h,z1i,z1j,z1k,z1l,z1m,z1n,z1o,z1p,z1q,z1r,z1s,z1t,z1u,z1v,z1w,z1x,z1y,z1z,z20,z21,z22,z23,z24,z25,z26,z27,z28,z29,z2a,z2b,z2c,z2d,z2e,z2f,z2g,z2h,z2i,z2j,z2k,z2l,z2m,z2n,z2o,z2p,z2q,z2r,z2s,z2t,z2u,z2v,z2w,z2x,z2y,z2z,z30,z31,z32,z33,z34,z35,z36,z37,z38,z39,z3a,z3b,z3c,z3d,z3e,z3f,z3g,z3h,z3i,z3j,z3k,z3l,z3m,z3n,z3o,z3p,z3q,z3r,z3s,z3t,z3u,z3v,z3w,z3x,z3y,z3z,z40,z41,z42,z43,z44,z45,z46,z47,z48,z49,z4a,z4b,z4c,z4d,z4e,z4f,z4g,z4h,z4i,z4j,z4k,z4l,z4m,z4n,z4o,z4p,z4q,z4r,z4s,z4t,z4u,z4v,z4w,z4x,z4y,z4z,z50,z51,z52,z53,z54,z55,z56,z57,z58,z59,z5a,z5b,z5c,z5d,z5e,z5f,z5g,z5h,z5i,z5j,z5k,z5l,z5m,z5n,z5o,z5p,z5q,z5r,z5s,z5t,z5u,z5v,z5w,z5x,z5y,z5z,z60,z61,z62,z63,z64,z65,z66,z67,z68,z69,allV,allP,z6a,z6b,z6c,z6d,z6e,z6f,z6g,z6h,z6i,z6j,z6k,z6l,z6m,Option.map_some,Option.map_none,Option.some.injEq,reduceIte,reduceCtorEq,Nat.reduceEqDiff,Nat.reduceAdd,Nat.reduceMul,Nat.reduceLT,Nat.reduceSub,Int.reduceLT,Int.reduceLE,Int.reduceEq,Int.reduceNe,Int.reduceSub,Int.reduceAdd,Int.reduceMul,Int.reduceBEq,Int.reduceBNe,Int.reduceGT,Int.reduceGE,Nat.reduceGT,Int.reduceToNat,Int.reduceNeg,Nat.reduceLeDiff,Nat.reduceBEq,Nat.reduceBneDiff,binV,eqV,unV,oOpt,true_and,and_true,Value.cells,List.length_cons,List.length_nil,List.append_nil,List.nil_append,List.cons_append,List.drop_succ_cons,List.drop_zero,List.take_succ_cons,List.take_zero,List.take_nil,List.getElem?_cons_zero,List.getElem?_cons_succ,decide_true,decide_false,decide_eq_true_eq,decide_eq_false_iff_not,Bool.false_eq_true,Bool.true_eq_false,Bool.not_true,Bool.not_false,Bool.not_eq_true',Bool.not_eq_false',Bool.not_eq_true,Bool.not_eq_false,false_implies,true_implies,beq_iff_eq,beq_eq_false_iff_ne,bne_iff_ne,bne_eq_false_iff_eq,ne_eq,ge_iff_le,gt_iff_lt,Int.not_lt,Int.not_le,not_true_eq_false,not_false_eq_true,if_true,if_false,z6n,z6o,z6p,z6q,Heap.set_set,z6r,z6s,z6t,z6u,z6v,z6w,List.getElem_cons_zero,List.getElem_cons_succ,List.set_cons_zero,List.set_cons_succ,List.length_set,List.all_cons,List.all_nil,Bool.and_true,Bool.true_and,Bool.and_self,Nat.add_zero,Nat.zero_add,Nat.zero_lt_succ,Int.cast_ofNat_Int,List.size_toArray,List.flatten_replicate_singleton,Nat.mul_one,Nat.le_refl,Nat.lt_irrefl,Nat.le_add_left]
  intro b3 hb3 b6 hb6
  try simp -implicitDefEqProofs only [z00,z01,z02,z03,z04,z05,z06,z07,z08,z09,z0a,z0b,z0c,z0d,z0e,z0f,z0g,z0h,z0i,z0j,z0k,z0l,z0m,z0n,retO,retL,retV,z0o,z0p,z0q,z0r,z0s,z0t,z0u,z0v,z0w,z0x,z0y,z0z,z10,z11,z12,z13,z14,z15,z16,z17,z18,z19,z1a,z1b,z1c,z1d,z1e,z1f,z1g,z1h,z1i,z1j,z1k,z1l,z1m,z1n,z1o,z1p,z1q,z1r,z1s,z1t,z1u,z1v,z1w,z1x,z1y,z1z,z20,z21,z22,z23,z24,z25,z26,z27,z28,z29,z2a,z2b,z2c,z2d,z2e,z2f,z2g,z2h,z2i,z2j,z2k,z2l,z2m,z2n,z2o,z2p,z2q,z2r,z2s,z2t,z2u,z2v,z2w,z2x,z2y,z2z,z30,z31,z32,z33,z34,z35,z36,z37,z38,z39,z3a,z3b,z3c,z3d,z3e,z3f,z3g,z3h,z3i,z3j,z3k,z3l,z3m,z3n,z3o,z3p,z3q,z3r,z3s,z3t,z3u,z3v,z3w,z3x,z3y,z3z,z40,z41,z42,z43,z44,z45,z46,z47,z48,z49,z4a,z4b,z4c,z4d,z4e,z4f,z4g,z4h,z4i,z4j,z4k,z4l,z4m,z4n,z4o,z4p,z4q,z4r,z4s,z4t,z4u,z4v,z4w,z4x,z4y,z4z,z50,z51,z52,z53,z54,z55,z56,z57,z58,z59,z5a,z5b,z5c,z5d,z5e,z5f,z5g,z5h,z5i,z5j,z5k,z5l,z5m,z5n,z5o,z5p,z5q,z5r,z5s,z5t,z5u,z5v,z5w,z5x,z5y,z5z,z60,z61,z62,z63,z64,z65,z66,z67,z68,z69,allV,allP,z6a,z6b,z6c,z6d,z6e,z6f,z6g,z6h,z6i,z6j,z6k,z6l,z6m,Option.map_some,Option.map_none,Option.some.injEq,reduceIte,reduceCtorEq,Nat.reduceEqDiff,Nat.reduceAdd,Nat.reduceMul,Nat.reduceLT,Nat.reduceSub,Int.reduceLT,Int.reduceLE,Int.reduceEq,Int.reduceNe,Int.reduceSub,Int.reduceAdd,Int.reduceMul,Int.reduceBEq,Int.reduceBNe,Int.reduceGT,Int.reduceGE,Nat.reduceGT,Int.reduceToNat,Int.reduceNeg,Nat.reduceLeDiff,Nat.reduceBEq,Nat.reduceBneDiff,binV,eqV,unV,oOpt,true_and,and_true,Value.cells,List.length_cons,List.length_nil,List.append_nil,List.nil_append,List.cons_append,List.drop_succ_cons,List.drop_zero,List.take_succ_cons,List.take_zero,List.take_nil,List.getElem?_cons_zero,List.getElem?_cons_succ,decide_true,decide_false,decide_eq_true_eq,decide_eq_false_iff_not,Bool.false_eq_true,Bool.true_eq_false,Bool.not_true,Bool.not_false,Bool.not_eq_true',Bool.not_eq_false',Bool.not_eq_true,Bool.not_eq_false,false_implies,true_implies,beq_iff_eq,beq_eq_false_iff_ne,bne_iff_ne,bne_eq_false_iff_eq,ne_eq,ge_iff_le,gt_iff_lt,Int.not_lt,Int.not_le,not_true_eq_false,not_false_eq_true,if_true,if_false,z6n,z6o,z6p,z6q,Heap.set_set,z6r,z6s,z6t,z6u,z6v,z6w,List.getElem_cons_zero,List.getElem_cons_succ,List.set_cons_zero,List.set_cons_succ,List.length_set,List.all_cons,List.all_nil,Bool.and_true,Bool.true_and,Bool.and_self,Nat.add_zero,Nat.zero_add,Nat.zero_lt_succ,Int.cast_ofNat_Int,List.size_toArray,List.flatten_replicate_singleton,Nat.mul_one,Nat.le_refl,Nat.lt_irrefl,Nat.le_add_left]
  have n63 := (Heap.set_none.1 hb6).1
  have hb6' := (Heap.set_none.1 hb6).2
  have le1 : h.le ((h.set b3 (.own 0 [.int .u64 (s0 : Int), .int .u64 (s1 : Int), .int .u64 (s2 : Int)] 3)).set b6 (.own 0 [.int .u64 0, .int .u64 0, .int .u64 0] 3)) := Heap.le_set (Heap.le_set (Heap.le_refl _) hb3 _) hb6' _
  have q6 : ((h.set b3 (.own 0 [.int .u64 (s0 : Int), .int .u64 (s1 : Int), .int .u64 (s2 : Int)] 3)).set b6 (.own 0 [.int .u64 0, .int .u64 0, .int .u64 0] 3)) b6 = some (.own 0 [.int .u64 0, .int .u64 0, .int .u64 0] 3) := Heap.set_self _ _ _
  have q3 : hcells ((h.set b3 (.own 0 [.int .u64 (s0 : Int), .int .u64 (s1 : Int), .int .u64 (s2 : Int)] 3)).set b6 (.own 0 [.int .u64 0, .int .u64 0, .int .u64 0] 3)) ⟨b3, 0, none⟩ 3 = some [.int .u64 (s0 : Int), .int .u64 (s1 : Int), .int .u64 (s2 : Int)] := by rw [hcells_ne (Ne.symm n63)]; exact z6o rfl
  generalize ((h.set b3 (.own 0 [.int .u64 (s0 : Int), .int .u64 (s1 : Int), .int .u64 (s2 : Int)] 3)).set b6 (.own 0 [.int .u64 0, .int .u64 0, .int .u64 0] 3)) = h1 at le1 q6 q3
  refine (Mul64_c E _ a b ha hb).mono ?_
  rintro r h' ⟨rfl, rfl⟩
  simp -implicitDefEqProofs only [z00,z01,z02,z03,z04,z05,z06,z07,z08,z09,z0a,z0b,z0c,z0d,z0e,z0f,z0g,z0h,z0i,z0j,z0k,z0l,z0m,z0n,retO,retL,retV,z0o,z0p,z0q,z0r,z0s,z0t,z0u,z0v,z0w,z0x,z0y,z0z,z10,z11,z12,z13,z14,z15,z16,z17,z18,z19,z1a,z1b,z1c,z1d,z1e,z1f,z1g,z1h,z1i,z1j,z1k,z1l,z1m,z1n,z1o,z1p,z1q,z1r,z1s,z1t,z1u,z1v,z1w,z1x,z1y,z1z,z20,z21,z22,z23,z24,z25,z26,z27,z28,z29,z2a,z2b,z2c,z2d,z2e,z2f,z2g,z2h,z2i,z2j,z2k,z2l,z2m,z2n,z2o,z2p,z2q,z2r,z2s,z2t,z2u,z2v,z2w,z2x,z2y,z2z,z30,z31,z32,z33,z34,z35,z36,z37,z38,z39,z3a,z3b,z3c,z3d,z3e,z3f,z3g,z3h,z3i,z3j,z3k,z3l,z3m,z3n,z3o,z3p,z3q,z3r,z3s,z3t,z3u,z3v,z3w,z3x,z3y,z3z,z40,z41,z42,z43,z44,z45,z46,z47,z48,z49,z4a,z4b,z4c,z4d,z4e,z4f,z4g,z4h,z4i,z4j,z4k,z4l,z4m,z4n,z4o,z4p,z4q,z4r,z4s,z4t,z4u,z4v,z4w,z4x,z4y,z4z,z50,z51,z52,z53,z54,z55,z56,z57,z58,z59,z5a,z5b,z5c,z5d,z5e,z5f,z5g,z5h,z5i,z5j,z5k,z5l,z5m,z5n,z5o,z5p,z5q,z5r,z5s,z5t,z5u,z5v,z5w,z5x,z5y,z5z,z60,z61,z62,z63,z64,z65,z66,z67,z68,z69,allV,allP,z6a,z6b,z6c,z6d,z6e,z6f,z6g,z6h,z6i,z6j,z6k,z6l,z6m,Option.map_some,Option.map_none,Option.some.injEq,reduceIte,reduceCtorEq,Nat.reduceEqDiff,Nat.reduceAdd,Nat.reduceMul,Nat.reduceLT,Nat.reduceSub,Int.reduceLT,Int.reduceLE,Int.reduceEq,Int.reduceNe,Int.reduceSub,Int.reduceAdd,Int.reduceMul,Int.reduceBEq,Int.reduceBNe,Int.reduceGT,Int.reduceGE,Nat.reduceGT,Int.reduceToNat,Int.reduceNeg,Nat.reduceLeDiff,Nat.reduceBEq,Nat.reduceBneDiff,binV,eqV,unV,oOpt,true_and,and_true,Value.cells,List.length_cons,List.length_nil,List.append_nil,List.nil_append,List.cons_append,List.drop_succ_cons,List.drop_zero,List.take_succ_cons,List.take_zero,List.take_nil,List.getElem?_cons_zero,List.getElem?_cons_succ,decide_true,decide_false,decide_eq_true_eq,decide_eq_false_iff_not,Bool.false_eq_true,Bool.true_eq_false,Bool.not_true,Bool.not_false,Bool.not_eq_true',Bool.not_eq_false',Bool.not_eq_true,Bool.not_eq_false,false_implies,true_implies,beq_iff_eq,beq_eq_false_iff_ne,bne_iff_ne,bne_eq_false_iff_eq,ne_eq,ge_iff_le,gt_iff_lt,Int.not_lt,Int.not_le,not_true_eq_false,not_false_eq_true,if_true,if_false,z6n,z6o,z6p,z6q,Heap.set_set,z6r,z6s,z6t,z6u,z6v,z6w,List.getElem_cons_zero,List.getElem_cons_succ,List.set_cons_zero,List.set_cons_succ,List.length_set,List.all_cons,List.all_nil,Bool.and_true,Bool.true_and,Bool.and_self,Nat.add_zero,Nat.zero_add,Nat.zero_lt_succ,Int.cast_ofNat_Int,List.size_toArray,List.flatten_replicate_singleton,Nat.mul_one,Nat.le_refl,Nat.lt_irrefl,Nat.le_add_left, q3]
  refine (num_plus_c E h' ⟨s0, s1, s2⟩ ⟨a * b % 18446744073709551616, a * b / 18446744073709551616, 0⟩ hs (N3.ok2 a b (mul_lt ha hb))).mono ?_
  rintro r h2 ⟨le2, rfl⟩
  have st := store3 (((⟨s0, s1, s2⟩ : N3)).plus ⟨a * b % 18446744073709551616, a * b / 18446744073709551616, 0⟩) (le2 _ _ q6) rfl
  have hl := z6o (h := h2) (b := b6) (vs := (((⟨s0, s1, s2⟩ : N3)).plus ⟨a * b % 18446744073709551616, a * b / 18446744073709551616, 0⟩).cells) (sz := 3) (n := 3) rfl
  simp -implicitDefEqProofs only [z00,z01,z02,z03,z04,z05,z06,z07,z08,z09,z0a,z0b,z0c,z0d,z0e,z0f,z0g,z0h,z0i,z0j,z0k,z0l,z0m,z0n,retO,retL,retV,z0o,z0p,z0q,z0r,z0s,z0t,z0u,z0v,z0w,z0x,z0y,z0z,z10,z11,z12,z13,z14,z15,z16,z17,z18,z19,z1a,z1b,z1c,z1d,z1e,z1f,z1g,z1h,z1i,z1j,z1k,z1l,z1m,z1n,z1o,z1p,z1q,z1r,z1s,z1t,z1u,z1v,z1w,z1x,z1y,z1z,z20,z21,z22,z23,z24,z25,z26,z27,z28,z29,z2a,z2b,z2c,z2d,z2e,z2f,z2g,z2h,z2i,z2j,z2k,z2l,z2m,z2n,z2o,z2p,z2q,z2r,z2s,z2t,z2u,z2v,z2w,z2x,z2y,z2z,z30,z31,z32,z33,z34,z35,z36,z37,z38,z39,z3a,z3b,z3c,z3d,z3e,z3f,z3g,z3h,z3i,z3j,z3k,z3l,z3m,z3n,z3o,z3p,z3q,z3r,z3s,z3t,z3u,z3v,z3w,z3x,z3y,z3z,z40,z41,z42,z43,z44,z45,z46,z47,z48,z49,z4a,z4b,z4c,z4d,z4e,z4f,z4g,z4h,z4i,z4j,z4k,z4l,z4m,z4n,z4o,z4p,z4q,z4r,z4s,z4t,z4u,z4v,z4w,z4x,z4y,z4z,z50,z51,z52,z53,z54,z55,z56,z57,z58,z59,z5a,z5b,z5c,z5d,z5e,z5f,z5g,z5h,z5i,z5j,z5k,z5l,z5m,z5n,z5o,z5p,z5q,z5r,z5s,z5t,z5u,z5v,z5w,z5x,z5y,z5z,z60,z61,z62,z63,z64,z65,z66,z67,z68,z69,allV,allP,z6a,z6b,z6c,z6d,z6e,z6f,z6g,z6h,z6i,z6j,z6k,z6l,z6m,Option.map_some,Option.map_none,Option.some.injEq,reduceIte,reduceCtorEq,Nat.reduceEqDiff,Nat.reduceAdd,Nat.reduceMul,Nat.reduceLT,Nat.reduceSub,Int.reduceLT,Int.reduceLE,Int.reduceEq,Int.reduceNe,Int.reduceSub,Int.reduceAdd,Int.reduceMul,Int.reduceBEq,Int.reduceBNe,Int.reduceGT,Int.reduceGE,Nat.reduceGT,Int.reduceToNat,Int.reduceNeg,Nat.reduceLeDiff,Nat.reduceBEq,Nat.reduceBneDiff,binV,eqV,unV,oOpt,true_and,and_true,Value.cells,List.length_cons,List.length_nil,List.append_nil,List.nil_append,List.cons_append,List.drop_succ_cons,List.drop_zero,List.take_succ_cons,List.take_zero,List.take_nil,List.getElem?_cons_zero,List.getElem?_cons_succ,decide_true,decide_false,decide_eq_true_eq,decide_eq_false_iff_not,Bool.false_eq_true,Bool.true_eq_false,Bool.not_true,Bool.not_false,Bool.not_eq_true',Bool.not_eq_false',Bool.not_eq_true,Bool.not_eq_false,false_implies,true_implies,beq_iff_eq,beq_eq_false_iff_ne,bne_iff_ne,bne_eq_false_iff_eq,ne_eq,ge_iff_le,gt_iff_lt,Int.not_lt,Int.not_le,not_true_eq_false,not_false_eq_true,if_true,if_false,z6n,z6o,z6p,z6q,Heap.set_set,z6r,z6s,z6t,z6u,z6v,z6w,List.getElem_cons_zero,List.getElem_cons_succ,List.set_cons_zero,List.set_cons_succ,List.length_set,List.all_cons,List.all_nil,Bool.and_true,Bool.true_and,Bool.and_self,Nat.add_zero,Nat.zero_add,Nat.zero_lt_succ,Int.cast_ofNat_Int,List.size_toArray,List.flatten_replicate_singleton,Nat.mul_one,Nat.le_refl,Nat.lt_irrefl,Nat.le_add_left, st, hl]
  exact ⟨Heap.le_set (Heap.le_trans le1 le2) hb6' _, rfl⟩
end Go.Bb
/- Contracts: numbers of three words, cut. -/
namespace Go.Bb
set_option linter.unusedSimpArgs false
set_option linter.unusedVariables false
set_option maxRecDepth 20000

theorem and_3 (a : Nat) : IntKind.u64.wrap ((BitVec.ofInt IntKind.u64.bits (a : Int) &&& BitVec.ofInt IntKind.u64.bits 3).toNat : Int) = ((a % 4 : Nat) : Int) := by
  have e : (BitVec.ofInt IntKind.u64.bits (a : Int) &&& BitVec.ofInt IntKind.u64.bits 3).toNat = a % 4 := by
    rw [show IntKind.u64.bits = 64 from rfl, show BitVec.ofInt 64 3 = BitVec.ofNat 64 (2 ^ 2 - 1) from rfl, ofInt_nat, BitVec.toNat_and, BitVec.toNat_ofNat, BitVec.toNat_ofNat]
    rw [Nat.mod_eq_of_lt (show 2 ^ 2 - 1 < 2 ^ 64 by decide), Nat.and_two_pow_sub_one_eq_mod]
    omega
  rw [e]
  exact wrap_u64n (by omega)
theorem shr_2 (a : Nat) : (a : Int).fdiv (2 ^ (min (Int.toNat 2) IntKind.u64.bits)) = ((a / 4 : Nat) : Int) := by
  rw [show min (Int.toNat 2) IntKind.u64.bits = 2 from rfl, Int.fdiv_eq_ediv_of_nonneg _ (by decide)]
  simp
theorem shr_2' (a : Nat) : (a : Int).fdiv (2 ^ (min 2 IntKind.u64.bits)) = ((a / 4 : Nat) : Int) := shr_2 a

def N3.cut (x : N3) : N3 := (⟨x.a, x.b, x.c % 4⟩ : N3).plus ⟨x.c / 4 * 5 % 18446744073709551616, x.c / 4 * 5 / 18446744073709551616, 0⟩
theorem N3.cut_ok (x : N3) : x.cut.ok := N3.plus_ok _ _
theorem num_cut_c (E : EnvT tab) (h : Heap) (x : N3) (hx : x.ok) : ACallN E.toEnv n_poly_num_cut [x.V] h fun r h' => h.le h' ∧ r = x.cut.V := by
  obtain ⟨s0, s1, s2⟩ := x
  obtain ⟨k0, k1, k2⟩ := hx
  simp only at k0 k1 k2
  refine acall h_poly_num_cut ir_poly_num_cut rfl rfl (wpA_sound ?_)
  unfold ir_poly_num_cut N3.V N3.cells
  simp -implicitDefEqProofs only [z00,z01,z02,z03,z04,z05,z06,z07,z08,z09,z0a,z0b,z0c,z0d,z0e,z0f,z0g,z0h,z0i,z0j,z0k,z0l,z0m,z0n,retO,retL,retV,z0o,z0p,z0q,z0r,z0s,z0t,z0u,z0v,z0w,z0x,z0y,z0z,z10,z11,z12,z13,z14,z15,z16,z17,z18,z19,z1a,z1b,z1c,z1d,z1e,z1f,z1g,z1h,z1i,z1j,z1k,z1l,z1m,z1n,z1o,z1p,z1q,z1r,z1s,z1t,z1u,z1v,z1w,z1x,z1y,z1z,z20,z21,z22,z23,z24,z25,z26,z27,z28,z29,z2a,z2b,z2c,z2d,z2e,z2f,z2g,z2h,z2i,z2j,z2k,z2l,z2m,z2n,z2o,z2p,z2q,z2r,z2s,z2t,z2u,z2v,z2w,z2x,z2y,z2z,z30,z31,z32,z33,z34,z35,z36,z37,z38,z39,z3a,z3b,z3c,z3d,z3e,z3f,z3g,z3h,z3i,z3j,z3k,z3l,z3m,z3n,z3o,z3p,z3q,z3r,z3s,z3t,z3u,z3v,z3w,z3x,z3y,z3z,z40,z41,z42,z43,z44,z45,z46,z47,z48,z49,z4a,z4b,z4c,z4d,z4e,z4f,z4g,z4h,z4i,z4j,z4k,z4l,z4m,z4n,z4o,z4p,z4q,z4r,z4s,z4t,z4u,z4v,z4w,z4x,z4y,z4z,z50,z51,z52,z53,z54,z55,z56,z57,z58,z59,z5a,z5b,z5c,z5d,z5e,z5f,z5g,z5h,z5i,z5j,z5k,z5l,z5m,z5n,z5o,z5p,z5q,z5r,z5s,z5t,z5u,z5v,z5w,z5x,z5y,z5z,z60,z61,z62,z63,z64,z65,z66,z67,z68,z69,allV,allP,z6a,z6b,z6c,z6d,z6e,z6f,z6g,z6h,z6i,z6j,z6k,z6l,z6m,Option.map_some,Option.map_none,Option.some.injEq,reduceIte,reduceCtorEq,Nat.reduceEqDiff,Nat.reduceAdd,Nat.reduceMul,Nat.reduceLT,Nat.reduceSub,Int.reduceLT,Int.reduceLE,Int.reduceEq,Int.reduceNe,Int.reduceSub,Int.reduceAdd,Int.reduceMul,Int.reduceBEq,Int.reduceBNe,Int.reduceGT,Int.reduceGE,Nat.reduceGT,Int.reduceToNat,Int.reduceNeg,Nat.reduceLeDiff,Nat.reduceBEq,Nat.reduceBneDiff,binV,eqV,unV,oOpt,true_and,and_true,Value.cells,List.length_cons,List.length_nil,List.append_nil,List.nil_append,List.cons_append,List.drop_succ_cons,List.drop_zero,List.take_succ_cons,List.take_zero,List.take_nil,List.getElem?_cons_zero,List.getElem?_cons_succ,decide_true,decide_false,decide_eq_true_eq,decide_eq_false_iff_not,Bool.false_eq_true,Bool.true_eq_false,Bool.not_true,Bool.not_false,Bool.not_eq_true',Bool.not_eq_false',Bool.not_eq_true,Bool.not_eq_false,false_implies,true_implies,beq_iff_eq,beq_eq_false_iff_ne,bne_iff_ne,bne_eq_false_iff_eq,ne_eq,ge_iff_le,gt_iff_lt,Int.not_lt,Int.not_le,not_true_eq_false,not_false_eq_true,if_true,if_false,z6n,z6o,z6p,z6q,Heap.set_set,z6r,z6s,z6t,z6u,z6v,z6w,List.getElem_cons_zero,List.getElem_cons_succ,List.set_cons_zero,List.set_cons_succ,List.length_set,List.all_cons,List.all_nil,Bool.and_true,Bool.true_and,Bool.and_self,Nat.add_zero,Nat.zero_add,Nat.zero_lt_succ,Int.cast_ofNat_Int,List.size_toArray,List.flatten_replicate_singleton,Nat.mul_one,Nat.le_refl,Nat.lt_irrefl,Nat.le_add_left]
  intro b3 hb3 b6 hb6
  try simp -implicitDefEqProofs only [z00,z01,z02,z03,z04,z05,z06,z07,z08,z09,z0a,z0b,z0c,z0d,z0e,z0f,z0g,z0h,z0i,z0j,z0k,z0l,z0m,z0n,retO,retL,retV,z0o,z0p,z0q,z0r,z0s,z0t,z0u,z0v,z0w,z0x,z0y,z0z,z10,z11,z12,z13,z14,z15,z16,z17,z18,z19,z1a,z1b,z1c,z1d,z1e,z1f,z1g,z1h,z1i,z1j,z1k,z1l,z1m,z1n,z1o,z1p,z1q,z1r,z1s,z1t,z1u,z1v,z1w,z1x,z1y,z1z,z20,z21,z22,z23,z24,z25,z26,z27,z28,z29,z2a,z2b,z2c,z2d,z2e,z2f,z2g,z2h,z2i,z2j,z2k,z2l,z2m,z2n,z2o,z2p,z2q,z2r,z2s,z2t,z2u,z2v,z2w,z2x,z2y,z2z,z30,z31,z32,z33,z34,z35,z36,z37,z38,z39,z3a,z3b,z3c,z3d,z3e,z3f,z3g,z3h,z3i,z3j,z3k,z3l,z3m,z3n,z3o,z3p,z3q,z3r,z3s,z3t,z3u,z3v,z3w,z3x,z3y,z3z,z40,z41,z42,z43,z44,z45,z46,z47,z48,z49,z4a,z4b,z4c,z4d,z4e,z4f,z4g,z4h,z4i,z4j,z4k,z4l,z4m,z4n,z4o,z4p,z4q,z4r,z4s,z4t,z4u,z4v,z4w,z4x,z4y,z4z,z50,z51,z52,z53,z54,z55,z56,z57,z58,z59,z5a,z5b,z5c,z5d,z5e,z5f,z5g,z5h,z5i,z5j,z5k,z5l,z5m,z5n,z5o,z5p,z5q,z5r,z5s,z5t,z5u,z5v,z5w,z5x,z5y,z5z,z60,z61,z62,z63,z64,z65,z66,z67,z68,z69,allV,allP,z6a,z6b,z6c,z6d,z6e,z6f,z6g,z6h,z6i,z6j,z6k,z6l,z6m,Option.map_some,Option.map_none,Option.some.injEq,reduceIte,reduceCtorEq,Nat.reduceEqDiff,Nat.reduceAdd,Nat.reduceMul,Nat.reduceLT,Nat.reduceSub,Int.reduceLT,Int.reduceLE,Int.reduceEq,Int.reduceNe,Int.reduceSub,Int.reduceAdd,Int.reduceMul,Int.reduceBEq,Int.reduceBNe,Int.reduceGT,Int.reduceGE,Nat.reduceGT,Int.reduceToNat,Int.reduceNeg,Nat.reduceLeDiff,Nat.reduceBEq,Nat.reduceBneDiff,binV,eqV,unV,oOpt,true_and,and_true,Value.cells,List.length_cons,List.length_nil,List.append_nil,List.nil_append,List.cons_append,List.drop_succ_cons,List.drop_zero,List.take_succ_cons,List.take_zero,List.take_nil,List.getElem?_cons_zero,List.getElem?_cons_succ,decide_true,decide_false,decide_eq_true_eq,decide_eq_false_iff_not,Bool.false_eq_true,Bool.true_eq_false,Bool.not_true,Bool.not_false,Bool.not_eq_true',Bool.not_eq_false',Bool.not_eq_true,Bool.not_eq_false,false_implies,true_implies,beq_iff_eq,beq_eq_false_iff_ne,bne_iff_ne,bne_eq_false_iff_eq,ne_eq,ge_iff_le,gt_iff_lt,Int.not_lt,Int.not_le,not_true_eq_false,not_false_eq_true,if_true,if_false,z6n,z6o,z6p,z6q,Heap.set_set,z6r,z6s,z6t,z6u,z6v,z6w,List.getElem_cons_zero,List.getElem_cons_succ,List.set_cons_zero,List.set_cons_succ,List.length_set,List.all_cons,List.all_nil,Bool.and_true,Bool.true_and,Bool.and_self,Nat.add_zero,Nat.zero_add,Nat.zero_lt_succ,Int.cast_ofNat_Int,List.size_toArray,List.flatten_replicate_singleton,Nat.mul_one,Nat.le_refl,Nat.lt_irrefl,Nat.le_add_left]
  have n63 := (Heap.set_none.1 hb6).1
  have hb6' := (Heap.set_none.1 hb6).2
  have le1 : h.le ((h.set b3 (.own 0 [.int .u64 (s0 : Int), .int .u64 (s1 : Int), .int .u64 ((s2 % 4 : Nat) : Int)] 3)).set b6 (.own 0 [.int .u64 0, .int .u64 0, .int .u64 0] 3)) := Heap.le_set (Heap.le_set (Heap.le_refl _) hb3 _) hb6' _
  have q6 : ((h.set b3 (.own 0 [.int .u64 (s0 : Int), .int .u64 (s1 : Int), .int .u64 ((s2 % 4 : Nat) : Int)] 3)).set b6 (.own 0 [.int .u64 0, .int .u64 0, .int .u64 0] 3)) b6 = some (.own 0 [.int .u64 0, .int .u64 0, .int .u64 0] 3) := Heap.set_self _ _ _
  have q3 : hcells ((h.set b3 (.own 0 [.int .u64 (s0 : Int), .int .u64 (s1 : Int), .int .u64 ((s2 % 4 : Nat) : Int)] 3)).set b6 (.own 0 [.int .u64 0, .int .u64 0, .int .u64 0] 3)) ⟨b3, 0, none⟩ 3 = some [.int .u64 (s0 : Int), .int .u64 (s1 : Int), .int .u64 ((s2 % 4 : Nat) : Int)] := by rw [hcells_ne (Ne.symm n63)]; exact z6o rfl
  have f3 := fun {x : Blk} {H : Heap} {off : Nat} {s : Option Nat} => hcell_ne (h := H) (x := x) (off := off) (s := s) (Ne.symm n63)
  have t3 := fun {x : Blk} {H : Heap} {off size : Nat} {v : Value} {s : Option Nat} => storeV_ne (h := H) (x := x) (off := off) (size := size) (v := v) (s := s) (Ne.symm n63)
  simp -implicitDefEqProofs only [z00,z01,z02,z03,z04,z05,z06,z07,z08,z09,z0a,z0b,z0c,z0d,z0e,z0f,z0g,z0h,z0i,z0j,z0k,z0l,z0m,z0n,retO,retL,retV,z0o,z0p,z0q,z0r,z0s,z0t,z0u,z0v,z0w,z0x,z0y,z0z,z10,z11,z12,z13,z14,z15,z16,z17,z18,z19,z1a,z1b,z1c,z1d,z1e,z1f,z1g,z1h,z1i,z1j,z1k,z1l,z1m,z1n,z1o,z1p,z1q,z1r,z1s,z1t,z1u,z1v,z1w,z1x,z1y,z1z,z20,z21,z22,z23,z24,z25,z26,z27,z28,z29,z2a,z2b,z2c,z2d,z2e,z2f,z2g,z2h,z2i,z2j,z2k,z2l,z2m,z2n,z2o,z2p,z2q,z2r,z2s,z2t,z2u,z2v,z2w,z2x,z2y,z2z,z30,z31,z32,z33,z34,z35,z36,z37,z38,z39,z3a,z3b,z3c,z3d,z3e,z3f,z3g,z3h,z3i,z3j,z3k,z3l,z3m,z3n,z3o,z3p,z3q,z3r,z3s,z3t,z3u,z3v,z3w,z3x,z3y,z3z,z40,z41,z42,z43,z44,z45,z46,z47,z48,z49,z4a,z4b,z4c,z4d,z4e,z4f,z4g,z4h,z4i,z4j,z4k,z4l,z4m,z4n,z4o,z4p,z4q,z4r,z4s,z4t,z4u,z4v,z4w,z4x,z4y,z4z,z50,z51,z52,z53,z54,z55,z56,z57,z58,z59,z5a,z5b,z5c,z5d,z5e,z5f,z5g,z5h,z5i,z5j,z5k,z5l,z5m,z5n,z5o,z5p,z5q,z5r,z5s,z5t,z5u,z5v,z5w,z5x,z5y,z5z,z60,z61,z62,z63,z64,z65,z66,z67,z68,z69,allV,allP,z6a,z6b,z6c,z6d,z6e,z6f,z6g,z6h,z6i,z6j,z6k,z6l,z6m,Option.map_some,Option.map_none,Option.some.injEq,reduceIte,reduceCtorEq,Nat.reduceEqDiff,Nat.reduceAdd,Nat.reduceMul,Nat.reduceLT,Nat.reduceSub,Int.reduceLT,Int.reduceLE,Int.reduceEq,Int.reduceNe,Int.reduceSub,Int.reduceAdd,Int.reduceMul,Int.reduceBEq,Int.reduceBNe,Int.reduceGT,Int.reduceGE,Nat.reduceGT,Int.reduceToNat,Int.reduceNeg,Nat.reduceLeDiff,Nat.reduceBEq,Nat.reduceBneDiff,binV,eqV,unV,oOpt,true_and,and_true,Value.cells,List.length_cons,List.length_nil,List.append_nil,List.nil_append,List.cons_append,List.drop_succ_cons,List.drop_zero,List.take_succ_cons,List.take_zero,List.take_nil,List.getElem?_cons_zero,List.getElem?_cons_succ,decide_true,decide_false,decide_eq_true_eq,decide_eq_false_iff_not,Bool.false_eq_true,Bool.true_eq_false,Bool.not_true,Bool.not_false,Bool.not_eq_true',Bool.not_eq_false',Bool.not_eq_true,Bool.not_eq_false,false_implies,true_implies,beq_iff_eq,beq_eq_false_iff_ne,bne_iff_ne,bne_eq_false_iff_eq,ne_eq,ge_iff_le,gt_iff_lt,Int.not_lt,Int.not_le,not_true_eq_false,not_false_eq_true,if_true,if_false,z6n,z6o,z6p,z6q,Heap.set_set,z6r,z6s,z6t,z6u,z6v,z6w,List.getElem_cons_zero,List.getElem_cons_succ,List.set_cons_zero,List.set_cons_succ,List.length_set,List.all_cons,List.all_nil,Bool.and_true,Bool.true_and,Bool.and_self,Nat.add_zero,Nat.zero_add,Nat.zero_lt_succ,Int.cast_ofNat_Int,List.size_toArray,List.flatten_replicate_singleton,Nat.mul_one,Nat.le_refl,Nat.lt_irrefl,Nat.le_add_left, f3, t3, and_3, shr_2, shr_2']
  generalize ((h.set b3 (.own 0 [.int .u64 (s0 : Int), .int .u64 (s1 : Int), .int .u64 ((s2 % 4 : Nat) : Int)] 3)).set b6 (.own 0 [.int .u64 0, .int .u64 0, .int .u64 0] 3)) = h1 at le1 q6 q3 ⊢
  refine (Mul64_c E _ (s2 / 4) 5 (by omega) (by decide)).mono ?_
  rintro r h' ⟨rfl, rfl⟩
  simp -implicitDefEqProofs only [z00,z01,z02,z03,z04,z05,z06,z07,z08,z09,z0a,z0b,z0c,z0d,z0e,z0f,z0g,z0h,z0i,z0j,z0k,z0l,z0m,z0n,retO,retL,retV,z0o,z0p,z0q,z0r,z0s,z0t,z0u,z0v,z0w,z0x,z0y,z0z,z10,z11,z12,z13,z14,z15,z16,z17,z18,z19,z1a,z1b,z1c,z1d,z1e,z1f,z1g,z1h,z1i,z1j,z1k,z1l,z1m,z1n,z1o,z1p,z1q,z1r,z1s,z1t,z1u,z1v,z1w,z1x,z1y,z1z,z20,z21,z22,z23,z24,z25,z26,z27,z28,z29,z2a,z2b,z2c,z2d,z2e,z2f,z2g,z2h,z2i,z2j,z2k,z2l,z2m,z2n,z2o,z2p,z2q,z2r,z2s,z2t,z2u,z2v,z2w,z2x,z2y,z2z,z30,z31,z32,z33,z34,z35,z36,z37,z38,z39,z3a,z3b,z3c,z3d,z3e,z3f,z3g,z3h,z3i,z3j,z3k,z3l,z3m,z3n,z3o,z3p,z3q,z3r,z3s,z3t,z3u,z3v,z3w,z3x,z3y,z3z,z40,z41,z42,z43,z44,z45,z46,z47,z48,z49,z4a,z4b,z4c,z4d,z4e,z4f,z4g,z4h,z4i,z4j,z4k,z4l,z4m,z4n,z4o,z4p,z4q,z4r,z4s,z4t,z4u,z4v,z4w,z4x,z4y,z4z,z50,z51,z52,z53,z54,z55,z56,z57,z58,z59,z5a,z5b,z5c,z5d,z5e,z5f,z5g,z5h,z5i,z5j,z5k,z5l,z5m,z5n,z5o,z5p,z5q,z5r,z5s,z5t,z5u,z5v,z5w,z5x,z5y,z5z,z60,z61,z62,z63,z64,z65,z66,z67,z68,z69,allV,allP,z6a,z6b,z6c,z6d,z6e,z6f,z6g,z6h,z6i,z6j,z6k,z6l,z6m,Option.map_some,Option.map_none,Option.some.injEq,reduceIte,reduceCtorEq,Nat.reduceEqDiff,Nat.reduceAdd,Nat.reduceMul,Nat.reduceLT,Nat.reduceSub,Int.reduceLT,Int.reduceLE,Int.reduceEq,Int.reduceNe,Int.reduceSub,Int.reduceAdd,Int.reduceMul,Int.reduceBEq,Int.reduceBNe,Int.reduceGT,Int.reduceGE,Nat.reduceGT,Int.reduceToNat,Int.reduceNeg,Nat.reduceLeDiff,Nat.reduceBEq,Nat.reduceBneDiff,binV,eqV,unV,oOpt,true_and,and_true,Value.cells,List.length_cons,List.length_nil,List.append_nil,List.nil_append,List.cons_append,List.drop_succ_cons,List.drop_zero,List.take_succ_cons,List.take_zero,List.take_nil,List.getElem?_cons_zero,List.getElem?_cons_succ,decide_true,decide_false,decide_eq_true_eq,decide_eq_false_iff_not,Bool.false_eq_true,Bool.true_eq_false,Bool.not_true,Bool.not_false,Bool.not_eq_true',Bool.not_eq_false',Bool.not_eq_true,Bool.not_eq_false,false_implies,true_implies,beq_iff_eq,beq_eq_false_iff_ne,bne_iff_ne,bne_eq_false_iff_eq,ne_eq,ge_iff_le,gt_iff_lt,Int.not_lt,Int.not_le,not_true_eq_false,not_false_eq_true,if_true,if_false,z6n,z6o,z6p,z6q,Heap.set_set,z6r,z6s,z6t,z6u,z6v,z6w,List.getElem_cons_zero,List.getElem_cons_succ,List.set_cons_zero,List.set_cons_succ,List.length_set,List.all_cons,List.all_nil,Bool.and_true,Bool.true_and,Bool.and_self,Nat.add_zero,Nat.zero_add,Nat.zero_lt_succ,Int.cast_ofNat_Int,List.size_toArray,List.flatten_replicate_singleton,Nat.mul_one,Nat.le_refl,Nat.lt_irrefl,Nat.le_add_left, q3]
  refine (num_plus_c E h' ⟨s0, s1, s2 % 4⟩ ⟨s2 / 4 * 5 % 18446744073709551616, s2 / 4 * 5 / 18446744073709551616, 0⟩ ⟨k0, k1, by simp only; omega⟩ (N3.ok2 (s2 / 4) 5 (mul_lt (by omega) (by decide)))).mono ?_
  rintro r h2 ⟨le2, rfl⟩
  have st := store3 ((⟨s0, s1, s2 % 4⟩ : N3).plus ⟨s2 / 4 * 5 % 18446744073709551616, s2 / 4 * 5 / 18446744073709551616, 0⟩) (le2 _ _ q6) rfl
  have hl := z6o (h := h2) (b := b6) (vs := ((⟨s0, s1, s2 % 4⟩ : N3).plus ⟨s2 / 4 * 5 % 18446744073709551616, s2 / 4 * 5 / 18446744073709551616, 0⟩).cells) (sz := 3) (n := 3) rfl
  simp -implicitDefEqProofs only [z00,z01,z02,z03,z04,z05,z06,z07,z08,z09,z0a,z0b,z0c,z0d,z0e,z0f,z0g,z0h,z0i,z0j,z0k,z0l,z0m,z0n,retO,retL,retV,z0o,z0p,z0q,z0r,z0s,z0t,z0u,z0v,z0w,z0x,z0y,z0z,z10,z11,z12,z13,z14,z15,z16,z17,z18,z19,z1a,z1b,z1c,z1d,z1e,z1f,z1g,z1h,z1i,z1j,z1k,z1l,z1m,z1n,z1o,z1p,z1q,z1r,z1s,z1t,z1u,z1v,z1w,z1x,z1y,z1z,z20,z21,z22,z23,z24,z25,z26,z27,z28,z29,z2a,z2b,z2c,z2d,z2e,z2f,z2g,z2h,z2i,z2j,z2k,z2l,z2m,z2n,z2o,z2p,z2q,z2r,z2s,z2t,z2u,z2v,z2w,z2x,z2y,z2z,z30,z31,z32,z33,z34,z35,z36,z37,z38,z39,z3a,z3b,z3c,z3d,z3e,z3f,z3g,z3h,z3i,z3j,z3k,z3l,z3m,z3n,z3o,z3p,z3q,z3r,z3s,z3t,z3u,z3v,z3w,z3x,z3y,z3z,z40,z41,z42,z43,z44,z45,z46,z47,z48,z49,z4a,z4b,z4c,z4d,z4e,z4f,z4g,z4h,z4i,z4j,z4k,z4l,z4m,z4n,z4o,z4p,z4q,z4r,z4s,z4t,z4u,z4v,z4w,z4x,z4y,z4z,z50,z51,z52,z53,z54,z55,z56,z57,z58,z59,z5a,z5b,z5c,z5d,z5e,z5f,z5g,z5h,z5i,z5j,z5k,z5l,z5m,z5n,z5o,z5p,z5q,z5r,z5s,z5t,z5u,z5v,z5w,z5x,z5y,z5z,z60,z61,z62,z63,z64,z65,z66,z67,z68,z69,allV,allP,z6a,z6b,z6c,z6d,z6e,z6f,z6g,z6h,z6i,z6j,z6k,z6l,z6m,Option.map_some,Option.map_none,Option.some.injEq,reduceIte,reduceCtorEq,Nat.reduceEqDiff,Nat.reduceAdd,Nat.reduceMul,Nat.reduceLT,Nat.reduceSub,Int.reduceLT,Int.reduceLE,Int.reduceEq,Int.reduceNe,Int.reduceSub,Int.reduceAdd,Int.reduceMul,Int.reduceBEq,Int.reduceBNe,Int.reduceGT,Int.reduceGE,Nat.reduceGT,Int.reduceToNat,Int.reduceNeg,Nat.reduceLeDiff,Nat.reduceBEq,Nat.reduceBneDiff,binV,eqV,unV,oOpt,true_and,and_true,Value.cells,List.length_cons,List.length_nil,List.append_nil,List.nil_append,List.cons_append,List.drop_succ_cons,List.drop_zero,List.take_succ_cons,List.take_zero,List.take_nil,List.getElem?_cons_zero,List.getElem?_cons_succ,decide_true,decide_false,decide_eq_true_eq,decide_eq_false_iff_not,Bool.false_eq_true,Bool.true_eq_false,Bool.not_true,Bool.not_false,Bool.not_eq_true',Bool.not_eq_false',Bool.not_eq_true,Bool.not_eq_false,false_implies,true_implies,beq_iff_eq,beq_eq_false_iff_ne,bne_iff_ne,bne_eq_false_iff_eq,ne_eq,ge_iff_le,gt_iff_lt,Int.not_lt,Int.not_le,not_true_eq_false,not_false_eq_true,if_true,if_false,z6n,z6o,z6p,z6q,Heap.set_set,z6r,z6s,z6t,z6u,z6v,z6w,List.getElem_cons_zero,List.getElem_cons_succ,List.set_cons_zero,List.set_cons_succ,List.length_set,List.all_cons,List.all_nil,Bool.and_true,Bool.true_and,Bool.and_self,Nat.add_zero,Nat.zero_add,Nat.zero_lt_succ,Int.cast_ofNat_Int,List.size_toArray,List.flatten_replicate_singleton,Nat.mul_one,Nat.le_refl,Nat.lt_irrefl,Nat.le_add_left, st, hl]
  exact ⟨Heap.le_set (Heap.le_trans le1 le2) hb6' _, rfl⟩
end Go.Bb
/- Contracts: numbers of three words, the last form. -/
namespace Go.Bb
set_option linter.unusedSimpArgs false
set_option linter.unusedVariables false
set_option maxRecDepth 20000

def N3.last (x : N3) : N3 :=
  if 3 < (x.cut.cut.plus ⟨5, 0, 0⟩).c then ⟨(x.cut.cut.plus ⟨5, 0, 0⟩).a, (x.cut.cut.plus ⟨5, 0, 0⟩).b, (x.cut.cut.plus ⟨5, 0, 0⟩).c % 4⟩ else x.cut.cut
theorem N3.last_ok (x : N3) : x.last.ok := by
  unfold N3.last
  split
  · have := N3.plus_ok x.cut.cut ⟨5, 0, 0⟩
    exact ⟨this.1, this.2.1, by simp only; omega⟩
  · exact N3.cut_ok _
theorem ok5 : (⟨5, 0, 0⟩ : N3).ok := ⟨by simp, by simp, by simp⟩

theorem num_last_c (E : EnvT tab) (h : Heap) (x : N3) (hx : x.ok) : ACallN E.toEnv n_poly_num_last [x.V] h fun r h' => h.le h' ∧ r = x.last.V := by
  refine acall h_poly_num_last ir_poly_num_last rfl rfl (wpA_sound ?_)
  unfold ir_poly_num_last
  have eV : x.V = .agg #[.int .u64 (x.a : Int), .int .u64 (x.b : Int), .int .u64 (x.c : Int)] := rfl
  rw [eV]
  simp -implicitDefEqProofs only [z00,z01,z02,z03,z04,z05,z06,z07,z08,z09,z0a,z0b,z0c,z0d,z0e,z0f,z0g,z0h,z0i,z0j,z0k,z0l,z0m,z0n,retO,retL,retV,z0o,z0p,z0q,z0r,z0s,z0t,z0u,z0v,z0w,z0x,z0y,z0z,z10,z11,z12,z13,z14,z15,z16,z17,z18,z19,z1a,z1b,z1c,z1d,z1e,z1f,z1g,z1h,z1i,z1j,z1k,z1l,z1m,z1n,z1o,z1p,z1q,z1r,z1s,z1t,z1u,z1v,z1w,z1x,z1y,z1z,z20,z21,z22,z23,z24,z25,z26,z27,z28,z29,z2a,z2b,z2c,z2d,z2e,z2f,z2g,z2h,z2i,z2j,z2k,z2l,z2m,z2n,z2o,z2p,z2q,z2r,z2s,z2t,z2u,z2v,z2w,z2x,z2y,z2z,z30,z31,z32,z33,z34,z35,z36,z37,z38,z39,z3a,z3b,z3c,z3d,z3e,z3f,z3g,z3h,z3i,z3j,z3k,z3l,z3m,z3n,z3o,z3p,z3q,z3r,z3s,z3t,z3u,z3v,z3w,z3x,z3y,z3z,z40,z41,z42,z43,z44,z45,z46,z47,z48,z49,z4a,z4b,z4c,z4d,z4e,z4f,z4g,z4h,z4i,z4j,z4k,z4l,z4m,z4n,z4o,z4p,z4q,z4r,z4s,z4t,z4u,z4v,z4w,z4x,z4y,z4z,z50,z51,z52,z53,z54,z55,z56,z57,z58,z59,z5a,z5b,z5c,z5d,z5e,z5f,z5g,z5h,z5i,z5j,z5k,z5l,z5m,z5n,z5o,z5p,z5q,z5r,z5s,z5t,z5u,z5v,z5w,z5x,z5y,z5z,z60,z61,z62,z63,z64,z65,z66,z67,z68,z69,allV,allP,z6a,z6b,z6c,z6d,z6e,z6f,z6g,z6h,z6i,z6j,z6k,z6l,z6m,Option.map_some,Option.map_none,Option.some.injEq,reduceIte,reduceCtorEq,Nat.reduceEqDiff,Nat.reduceAdd,Nat.reduceMul,Nat.reduceLT,Nat.reduceSub,Int.reduceLT,Int.reduceLE,Int.reduceEq,Int.reduceNe,Int.reduceSub,Int.reduceAdd,Int.reduceMul,Int.reduceBEq,Int.reduceBNe,Int.reduceGT,Int.reduceGE,Nat.reduceGT,Int.reduceToNat,Int.reduceNeg,Nat.reduceLeDiff,Nat.reduceBEq,Nat.reduceBneDiff,binV,eqV,unV,oOpt,true_and,and_true,Value.cells,List.length_cons,List.length_nil,List.append_nil,List.nil_append,List.cons_append,List.drop_succ_cons,List.drop_zero,List.take_succ_cons,List.take_zero,List.take_nil,List.getElem?_cons_zero,List.getElem?_cons_succ,decide_true,decide_false,decide_eq_true_eq,decide_eq_false_iff_not,Bool.false_eq_true,Bool.true_eq_false,Bool.not_true,Bool.not_false,Bool.not_eq_true',Bool.not_eq_false',Bool.not_eq_true,Bool.not_eq_false,false_implies,true_implies,beq_iff_eq,beq_eq_false_iff_ne,bne_iff_ne,bne_eq_false_iff_eq,ne_eq,ge_iff_le,gt_iff_lt,Int.not_lt,Int.not_le,not_true_eq_false,not_false_eq_true,if_true,if_false,z6n,z6o,z6p,z6q,Heap.set_set,z6r,z6s,z6t,z6u,z6v,z6w,List.getElem_cons_zero,List.getElem_cons_succ,List.set_cons_zero,List.set_cons_succ,List.length_set,List.all_cons,List.all_nil,Bool.and_true,Bool.true_and,Bool.and_self,Nat.add_zero,Nat.zero_add,Nat.zero_lt_succ,Int.cast_ofNat_Int,List.size_toArray,List.flatten_replicate_singleton,Nat.mul_one,Nat.le_refl,Nat.lt_irrefl,Nat.le_add_left]
  intro b1 hb1 b2 hb2
  try simp -implicitDefEqProofs only [z00,z01,z02,z03,z04,z05,z06,z07,z08,z09,z0a,z0b,z0c,z0d,z0e,z0f,z0g,z0h,z0i,z0j,z0k,z0l,z0m,z0n,retO,retL,retV,z0o,z0p,z0q,z0r,z0s,z0t,z0u,z0v,z0w,z0x,z0y,z0z,z10,z11,z12,z13,z14,z15,z16,z17,z18,z19,z1a,z1b,z1c,z1d,z1e,z1f,z1g,z1h,z1i,z1j,z1k,z1l,z1m,z1n,z1o,z1p,z1q,z1r,z1s,z1t,z1u,z1v,z1w,z1x,z1y,z1z,z20,z21,z22,z23,z24,z25,z26,z27,z28,z29,z2a,z2b,z2c,z2d,z2e,z2f,z2g,z2h,z2i,z2j,z2k,z2l,z2m,z2n,z2o,z2p,z2q,z2r,z2s,z2t,z2u,z2v,z2w,z2x,z2y,z2z,z30,z31,z32,z33,z34,z35,z36,z37,z38,z39,z3a,z3b,z3c,z3d,z3e,z3f,z3g,z3h,z3i,z3j,z3k,z3l,z3m,z3n,z3o,z3p,z3q,z3r,z3s,z3t,z3u,z3v,z3w,z3x,z3y,z3z,z40,z41,z42,z43,z44,z45,z46,z47,z48,z49,z4a,z4b,z4c,z4d,z4e,z4f,z4g,z4h,z4i,z4j,z4k,z4l,z4m,z4n,z4o,z4p,z4q,z4r,z4s,z4t,z4u,z4v,z4w,z4x,z4y,z4z,z50,z51,z52,z53,z54,z55,z56,z57,z58,z59,z5a,z5b,z5c,z5d,z5e,z5f,z5g,z5h,z5i,z5j,z5k,z5l,z5m,z5n,z5o,z5p,z5q,z5r,z5s,z5t,z5u,z5v,z5w,z5x,z5y,z5z,z60,z61,z62,z63,z64,z65,z66,z67,z68,z69,allV,allP,z6a,z6b,z6c,z6d,z6e,z6f,z6g,z6h,z6i,z6j,z6k,z6l,z6m,Option.map_some,Option.map_none,Option.some.injEq,reduceIte,reduceCtorEq,Nat.reduceEqDiff,Nat.reduceAdd,Nat.reduceMul,Nat.reduceLT,Nat.reduceSub,Int.reduceLT,Int.reduceLE,Int.reduceEq,Int.reduceNe,Int.reduceSub,Int.reduceAdd,Int.reduceMul,Int.reduceBEq,Int.reduceBNe,Int.reduceGT,Int.reduceGE,Nat.reduceGT,Int.reduceToNat,Int.reduceNeg,Nat.reduceLeDiff,Nat.reduceBEq,Nat.reduceBneDiff,binV,eqV,unV,oOpt,true_and,and_true,Value.cells,List.length_cons,List.length_nil,List.append_nil,List.nil_append,List.cons_append,List.drop_succ_cons,List.drop_zero,List.take_succ_cons,List.take_zero,List.take_nil,List.getElem?_cons_zero,List.getElem?_cons_succ,decide_true,decide_false,decide_eq_true_eq,decide_eq_false_iff_not,Bool.false_eq_true,Bool.true_eq_false,Bool.not_true,Bool.not_false,Bool.not_eq_true',Bool.not_eq_false',Bool.not_eq_true,Bool.not_eq_false,false_implies,true_implies,beq_iff_eq,beq_eq_false_iff_ne,bne_iff_ne,bne_eq_false_iff_eq,ne_eq,ge_iff_le,gt_iff_lt,Int.not_lt,Int.not_le,not_true_eq_false,not_false_eq_true,if_true,if_false,z6n,z6o,z6p,z6q,Heap.set_set,z6r,z6s,z6t,z6u,z6v,z6w,List.getElem_cons_zero,List.getElem_cons_succ,List.set_cons_zero,List.set_cons_succ,List.length_set,List.all_cons,List.all_nil,Bool.and_true,Bool.true_and,Bool.and_self,Nat.add_zero,Nat.zero_add,Nat.zero_lt_succ,Int.cast_ofNat_Int,List.size_toArray,List.flatten_replicate_singleton,Nat.mul_one,Nat.le_refl,Nat.lt_irrefl,Nat.le_add_left]
  have n21 := (Heap.set_none.1 hb2).1
  have hb2' := (Heap.set_none.1 hb2).2
  have le1 : h.le ((h.set b1 (.own 0 [.int .u64 (x.a : Int), .int .u64 (x.b : Int), .int .u64 (x.c : Int)] 3)).set b2 (.own 0 [.int .u64 0, .int .u64 0, .int .u64 0] 3)) := Heap.le_set (Heap.le_set (Heap.le_refl _) hb1 _) hb2' _
  have q2 : ((h.set b1 (.own 0 [.int .u64 (x.a : Int), .int .u64 (x.b : Int), .int .u64 (x.c : Int)] 3)).set b2 (.own 0 [.int .u64 0, .int .u64 0, .int .u64 0] 3)) b2 = some (.own 0 [.int .u64 0, .int .u64 0, .int .u64 0] 3) := Heap.set_self _ _ _
  have q1 : ((h.set b1 (.own 0 [.int .u64 (x.a : Int), .int .u64 (x.b : Int), .int .u64 (x.c : Int)] 3)).set b2 (.own 0 [.int .u64 0, .int .u64 0, .int .u64 0] 3)) b1 = some (.own 0 x.cells 3) := by rw [Heap.set_ne (Ne.symm n21), Heap.set_self]; rfl
  generalize ((h.set b1 (.own 0 [.int .u64 (x.a : Int), .int .u64 (x.b : Int), .int .u64 (x.c : Int)] 3)).set b2 (.own 0 [.int .u64 0, .int .u64 0, .int .u64 0] 3)) = h1 at le1 q1 q2 ⊢
  have l1 : hcells h1 ⟨b1, 0, none⟩ 3 = some x.cells := by rw [hcells_at q1 (by simp [N3.cells])]; rfl
  have eX : Value.agg x.cells.toArray = x.V := rfl
  simp -implicitDefEqProofs only [z00,z01,z02,z03,z04,z05,z06,z07,z08,z09,z0a,z0b,z0c,z0d,z0e,z0f,z0g,z0h,z0i,z0j,z0k,z0l,z0m,z0n,retO,retL,retV,z0o,z0p,z0q,z0r,z0s,z0t,z0u,z0v,z0w,z0x,z0y,z0z,z10,z11,z12,z13,z14,z15,z16,z17,z18,z19,z1a,z1b,z1c,z1d,z1e,z1f,z1g,z1h,z1i,z1j,z1k,z1l,z1m,z1n,z1o,z1p,z1q,z1r,z1s,z1t,z1u,z1v,z1w,z1x,z1y,z1z,z20,z21,z22,z23,z24,z25,z26,z27,z28,z29,z2a,z2b,z2c,z2d,z2e,z2f,z2g,z2h,z2i,z2j,z2k,z2l,z2m,z2n,z2o,z2p,z2q,z2r,z2s,z2t,z2u,z2v,z2w,z2x,z2y,z2z,z30,z31,z32,z33,z34,z35,z36,z37,z38,z39,z3a,z3b,z3c,z3d,z3e,z3f,z3g,z3h,z3i,z3j,z3k,z3l,z3m,z3n,z3o,z3p,z3q,z3r,z3s,z3t,z3u,z3v,z3w,z3x,z3y,z3z,z40,z41,z42,z43,z44,z45,z46,z47,z48,z49,z4a,z4b,z4c,z4d,z4e,z4f,z4g,z4h,z4i,z4j,z4k,z4l,z4m,z4n,z4o,z4p,z4q,z4r,z4s,z4t,z4u,z4v,z4w,z4x,z4y,z4z,z50,z51,z52,z53,z54,z55,z56,z57,z58,z59,z5a,z5b,z5c,z5d,z5e,z5f,z5g,z5h,z5i,z5j,z5k,z5l,z5m,z5n,z5o,z5p,z5q,z5r,z5s,z5t,z5u,z5v,z5w,z5x,z5y,z5z,z60,z61,z62,z63,z64,z65,z66,z67,z68,z69,allV,allP,z6a,z6b,z6c,z6d,z6e,z6f,z6g,z6h,z6i,z6j,z6k,z6l,z6m,Option.map_some,Option.map_none,Option.some.injEq,reduceIte,reduceCtorEq,Nat.reduceEqDiff,Nat.reduceAdd,Nat.reduceMul,Nat.reduceLT,Nat.reduceSub,Int.reduceLT,Int.reduceLE,Int.reduceEq,Int.reduceNe,Int.reduceSub,Int.reduceAdd,Int.reduceMul,Int.reduceBEq,Int.reduceBNe,Int.reduceGT,Int.reduceGE,Nat.reduceGT,Int.reduceToNat,Int.reduceNeg,Nat.reduceLeDiff,Nat.reduceBEq,Nat.reduceBneDiff,binV,eqV,unV,oOpt,true_and,and_true,Value.cells,List.length_cons,List.length_nil,List.append_nil,List.nil_append,List.cons_append,List.drop_succ_cons,List.drop_zero,List.take_succ_cons,List.take_zero,List.take_nil,List.getElem?_cons_zero,List.getElem?_cons_succ,decide_true,decide_false,decide_eq_true_eq,decide_eq_false_iff_not,Bool.false_eq_true,Bool.true_eq_false,Bool.not_true,Bool.not_false,Bool.not_eq_true',Bool.not_eq_false',Bool.not_eq_true,Bool.not_eq_false,false_implies,true_implies,beq_iff_eq,beq_eq_false_iff_ne,bne_iff_ne,bne_eq_false_iff_eq,ne_eq,ge_iff_le,gt_iff_lt,Int.not_lt,Int.not_le,not_true_eq_false,not_false_eq_true,if_true,if_false,z6n,z6o,z6p,z6q,Heap.set_set,z6r,z6s,z6t,z6u,z6v,z6w,List.getElem_cons_zero,List.getElem_cons_succ,List.set_cons_zero,List.set_cons_succ,List.length_set,List.all_cons,List.all_nil,Bool.and_true,Bool.true_and,Bool.and_self,Nat.add_zero,Nat.zero_add,Nat.zero_lt_succ,Int.cast_ofNat_Int,List.size_toArray,List.flatten_replicate_singleton,Nat.mul_one,Nat.le_refl,Nat.lt_irrefl,Nat.le_add_left, l1, eX]
  refine (num_cut_c E h1 x hx).mono ?_
  rintro r h2 ⟨le2, rfl⟩
  simp -implicitDefEqProofs only [z00,z01,z02,z03,z04,z05,z06,z07,z08,z09,z0a,z0b,z0c,z0d,z0e,z0f,z0g,z0h,z0i,z0j,z0k,z0l,z0m,z0n,retO,retL,retV,z0o,z0p,z0q,z0r,z0s,z0t,z0u,z0v,z0w,z0x,z0y,z0z,z10,z11,z12,z13,z14,z15,z16,z17,z18,z19,z1a,z1b,z1c,z1d,z1e,z1f,z1g,z1h,z1i,z1j,z1k,z1l,z1m,z1n,z1o,z1p,z1q,z1r,z1s,z1t,z1u,z1v,z1w,z1x,z1y,z1z,z20,z21,z22,z23,z24,z25,z26,z27,z28,z29,z2a,z2b,z2c,z2d,z2e,z2f,z2g,z2h,z2i,z2j,z2k,z2l,z2m,z2n,z2o,z2p,z2q,z2r,z2s,z2t,z2u,z2v,z2w,z2x,z2y,z2z,z30,z31,z32,z33,z34,z35,z36,z37,z38,z39,z3a,z3b,z3c,z3d,z3e,z3f,z3g,z3h,z3i,z3j,z3k,z3l,z3m,z3n,z3o,z3p,z3q,z3r,z3s,z3t,z3u,z3v,z3w,z3x,z3y,z3z,z40,z41,z42,z43,z44,z45,z46,z47,z48,z49,z4a,z4b,z4c,z4d,z4e,z4f,z4g,z4h,z4i,z4j,z4k,z4l,z4m,z4n,z4o,z4p,z4q,z4r,z4s,z4t,z4u,z4v,z4w,z4x,z4y,z4z,z50,z51,z52,z53,z54,z55,z56,z57,z58,z59,z5a,z5b,z5c,z5d,z5e,z5f,z5g,z5h,z5i,z5j,z5k,z5l,z5m,z5n,z5o,z5p,z5q,z5r,z5s,z5t,z5u,z5v,z5w,z5x,z5y,z5z,z60,z61,z62,z63,z64,z65,z66,z67,z68,z69,allV,allP,z6a,z6b,z6c,z6d,z6e,z6f,z6g,z6h,z6i,z6j,z6k,z6l,z6m,Option.map_some,Option.map_none,Option.some.injEq,reduceIte,reduceCtorEq,Nat.reduceEqDiff,Nat.reduceAdd,Nat.reduceMul,Nat.reduceLT,Nat.reduceSub,Int.reduceLT,Int.reduceLE,Int.reduceEq,Int.reduceNe,Int.reduceSub,Int.reduceAdd,Int.reduceMul,Int.reduceBEq,Int.reduceBNe,Int.reduceGT,Int.reduceGE,Nat.reduceGT,Int.reduceToNat,Int.reduceNeg,Nat.reduceLeDiff,Nat.reduceBEq,Nat.reduceBneDiff,binV,eqV,unV,oOpt,true_and,and_true,Value.cells,List.length_cons,List.length_nil,List.append_nil,List.nil_append,List.cons_append,List.drop_succ_cons,List.drop_zero,List.take_succ_cons,List.take_zero,List.take_nil,List.getElem?_cons_zero,List.getElem?_cons_succ,decide_true,decide_false,decide_eq_true_eq,decide_eq_false_iff_not,Bool.false_eq_true,Bool.true_eq_false,Bool.not_true,Bool.not_false,Bool.not_eq_true',Bool.not_eq_false',Bool.not_eq_true,Bool.not_eq_false,false_implies,true_implies,beq_iff_eq,beq_eq_false_iff_ne,bne_iff_ne,bne_eq_false_iff_eq,ne_eq,ge_iff_le,gt_iff_lt,Int.not_lt,Int.not_le,not_true_eq_false,not_false_eq_true,if_true,if_false,z6n,z6o,z6p,z6q,Heap.set_set,z6r,z6s,z6t,z6u,z6v,z6w,List.getElem_cons_zero,List.getElem_cons_succ,List.set_cons_zero,List.set_cons_succ,List.length_set,List.all_cons,List.all_nil,Bool.and_true,Bool.true_and,Bool.and_self,Nat.add_zero,Nat.zero_add,Nat.zero_lt_succ,Int.cast_ofNat_Int,List.size_toArray,List.flatten_replicate_singleton,Nat.mul_one,Nat.le_refl,Nat.lt_irrefl,Nat.le_add_left]
  refine (num_cut_c E h2 x.cut (N3.cut_ok _)).mono ?_
  rintro r h3 ⟨le3, rfl⟩
  have st1 := store3 x.cut.cut (le3 _ _ (le2 _ _ q1)) rfl
  have l1 : hcells (h3.set b1 (.own 0 x.cut.cut.cells 3)) ⟨b1, 0, none⟩ 3 = some x.cut.cut.cells := z6o rfl
  have eC : Value.agg x.cut.cut.cells.toArray = x.cut.cut.V := rfl
  simp -implicitDefEqProofs only [z00,z01,z02,z03,z04,z05,z06,z07,z08,z09,z0a,z0b,z0c,z0d,z0e,z0f,z0g,z0h,z0i,z0j,z0k,z0l,z0m,z0n,retO,retL,retV,z0o,z0p,z0q,z0r,z0s,z0t,z0u,z0v,z0w,z0x,z0y,z0z,z10,z11,z12,z13,z14,z15,z16,z17,z18,z19,z1a,z1b,z1c,z1d,z1e,z1f,z1g,z1h,z1i,z1j,z1k,z1l,z1m,z1n,z1o,z1p,z1q,z1r,z1s,z1t,z1u,z1v,z1w,z1x,z1y,z1z,z20,z21,z22,z23,z24,z25,z26,z27,z28,z29,z2a,z2b,z2c,z2d,z2e,z2f,z2g,z2h,z2i,z2j,z2k,z2l,z2m,z2n,z2o,z2p,z2q,z2r,z2s,z2t,z2u,z2v,z2w,z2x,z2y,z2z,z30,z31,z32,z33,z34,z35,z36,z37,z38,z39,z3a,z3b,z3c,z3d,z3e,z3f,z3g,z3h,z3i,z3j,z3k,z3l,z3m,z3n,z3o,z3p,z3q,z3r,z3s,z3t,z3u,z3v,z3w,z3x,z3y,z3z,z40,z41,z42,z43,z44,z45,z46,z47,z48,z49,z4a,z4b,z4c,z4d,z4e,z4f,z4g,z4h,z4i,z4j,z4k,z4l,z4m,z4n,z4o,z4p,z4q,z4r,z4s,z4t,z4u,z4v,z4w,z4x,z4y,z4z,z50,z51,z52,z53,z54,z55,z56,z57,z58,z59,z5a,z5b,z5c,z5d,z5e,z5f,z5g,z5h,z5i,z5j,z5k,z5l,z5m,z5n,z5o,z5p,z5q,z5r,z5s,z5t,z5u,z5v,z5w,z5x,z5y,z5z,z60,z61,z62,z63,z64,z65,z66,z67,z68,z69,allV,allP,z6a,z6b,z6c,z6d,z6e,z6f,z6g,z6h,z6i,z6j,z6k,z6l,z6m,Option.map_some,Option.map_none,Option.some.injEq,reduceIte,reduceCtorEq,Nat.reduceEqDiff,Nat.reduceAdd,Nat.reduceMul,Nat.reduceLT,Nat.reduceSub,Int.reduceLT,Int.reduceLE,Int.reduceEq,Int.reduceNe,Int.reduceSub,Int.reduceAdd,Int.reduceMul,Int.reduceBEq,Int.reduceBNe,Int.reduceGT,Int.reduceGE,Nat.reduceGT,Int.reduceToNat,Int.reduceNeg,Nat.reduceLeDiff,Nat.reduceBEq,Nat.reduceBneDiff,binV,eqV,unV,oOpt,true_and,and_true,Value.cells,List.length_cons,List.length_nil,List.append_nil,List.nil_append,List.cons_append,List.drop_succ_cons,List.drop_zero,List.take_succ_cons,List.take_zero,List.take_nil,List.getElem?_cons_zero,List.getElem?_cons_succ,decide_true,decide_false,decide_eq_true_eq,decide_eq_false_iff_not,Bool.false_eq_true,Bool.true_eq_false,Bool.not_true,Bool.not_false,Bool.not_eq_true',Bool.not_eq_false',Bool.not_eq_true,Bool.not_eq_false,false_implies,true_implies,beq_iff_eq,beq_eq_false_iff_ne,bne_iff_ne,bne_eq_false_iff_eq,ne_eq,ge_iff_le,gt_iff_lt,Int.not_lt,Int.not_le,not_true_eq_false,not_false_eq_true,if_true,if_false,z6n,z6o,z6p,z6q,Heap.set_set,z6r,z6s,z6t,z6u,z6v,z6w,List.getElem_cons_zero,List.getElem_cons_succ,List.set_cons_zero,List.set_cons_succ,List.length_set,List.all_cons,List.all_nil,Bool.and_true,Bool.true_and,Bool.and_self,Nat.add_zero,Nat.zero_add,Nat.zero_lt_succ,Int.cast_ofNat_Int,List.size_toArray,List.flatten_replicate_singleton,Nat.mul_one,Nat.le_refl,Nat.lt_irrefl,Nat.le_add_left, st1, l1, eC]
  have hyA : x.cut.cut.ok := N3.cut_ok _
  have hl : x.last = if 3 < (x.cut.cut.plus ⟨5, 0, 0⟩).c then ⟨(x.cut.cut.plus ⟨5, 0, 0⟩).a, (x.cut.cut.plus ⟨5, 0, 0⟩).b, (x.cut.cut.plus ⟨5, 0, 0⟩).c % 4⟩ else x.cut.cut := rfl
  rw [hl]
  have q2' := le3 _ _ (le2 _ _ q2)
  have le13 := Heap.le_trans le1 (Heap.le_trans le2 le3)
  generalize x.cut.cut = y at *
  have le4 : h.le (h3.set b1 (.own 0 y.cells 3)) := Heap.le_set le13 hb1 _
  have q24 : (h3.set b1 (.own 0 y.cells 3)) b2 = some (.own 0 [.int .u64 0, .int .u64 0, .int .u64 0] 3) := by rw [Heap.set_ne n21]; exact q2'
  have q14 : (h3.set b1 (.own 0 y.cells 3)) b1 = some (.own 0 y.cells 3) := Heap.set_self _ _ _
  generalize (h3.set b1 (.own 0 y.cells 3)) = h4 at le4 q24 q14 ⊢
  refine (num_plus_c E h4 y ⟨5, 0, 0⟩ hyA ok5).mono ?_
  rintro r h5 ⟨le5, rfl⟩
  have hz := N3.plus_ok y ⟨5, 0, 0⟩
  generalize y.plus ⟨5, 0, 0⟩ = z at *
  simp -implicitDefEqProofs only [z00,z01,z02,z03,z04,z05,z06,z07,z08,z09,z0a,z0b,z0c,z0d,z0e,z0f,z0g,z0h,z0i,z0j,z0k,z0l,z0m,z0n,retO,retL,retV,z0o,z0p,z0q,z0r,z0s,z0t,z0u,z0v,z0w,z0x,z0y,z0z,z10,z11,z12,z13,z14,z15,z16,z17,z18,z19,z1a,z1b,z1c,z1d,z1e,z1f,z1g,z1h,z1i,z1j,z1k,z1l,z1m,z1n,z1o,z1p,z1q,z1r,z1s,z1t,z1u,z1v,z1w,z1x,z1y,z1z,z20,z21,z22,z23,z24,z25,z26,z27,z28,z29,z2a,z2b,z2c,z2d,z2e,z2f,z2g,z2h,z2i,z2j,z2k,z2l,z2m,z2n,z2o,z2p,z2q,z2r,z2s,z2t,z2u,z2v,z2w,z2x,z2y,z2z,z30,z31,z32,z33,z34,z35,z36,z37,z38,z39,z3a,z3b,z3c,z3d,z3e,z3f,z3g,z3h,z3i,z3j,z3k,z3l,z3m,z3n,z3o,z3p,z3q,z3r,z3s,z3t,z3u,z3v,z3w,z3x,z3y,z3z,z40,z41,z42,z43,z44,z45,z46,z47,z48,z49,z4a,z4b,z4c,z4d,z4e,z4f,z4g,z4h,z4i,z4j,z4k,z4l,z4m,z4n,z4o,z4p,z4q,z4r,z4s,z4t,z4u,z4v,z4w,z4x,z4y,z4z,z50,z51,z52,z53,z54,z55,z56,z57,z58,z59,z5a,z5b,z5c,z5d,z5e,z5f,z5g,z5h,z5i,z5j,z5k,z5l,z5m,z5n,z5o,z5p,z5q,z5r,z5s,z5t,z5u,z5v,z5w,z5x,z5y,z5z,z60,z61,z62,z63,z64,z65,z66,z67,z68,z69,allV,allP,z6a,z6b,z6c,z6d,z6e,z6f,z6g,z6h,z6i,z6j,z6k,z6l,z6m,Option.map_some,Option.map_none,Option.some.injEq,reduceIte,reduceCtorEq,Nat.reduceEqDiff,Nat.reduceAdd,Nat.reduceMul,Nat.reduceLT,Nat.reduceSub,Int.reduceLT,Int.reduceLE,Int.reduceEq,Int.reduceNe,Int.reduceSub,Int.reduceAdd,Int.reduceMul,Int.reduceBEq,Int.reduceBNe,Int.reduceGT,Int.reduceGE,Nat.reduceGT,Int.reduceToNat,Int.reduceNeg,Nat.reduceLeDiff,Nat.reduceBEq,Nat.reduceBneDiff,binV,eqV,unV,oOpt,true_and,and_true,Value.cells,List.length_cons,List.length_nil,List.append_nil,List.nil_append,List.cons_append,List.drop_succ_cons,List.drop_zero,List.take_succ_cons,List.take_zero,List.take_nil,List.getElem?_cons_zero,List.getElem?_cons_succ,decide_true,decide_false,decide_eq_true_eq,decide_eq_false_iff_not,Bool.false_eq_true,Bool.true_eq_false,Bool.not_true,Bool.not_false,Bool.not_eq_true',Bool.not_eq_false',Bool.not_eq_true,Bool.not_eq_false,false_implies,true_implies,beq_iff_eq,beq_eq_false_iff_ne,bne_iff_ne,bne_eq_false_iff_eq,ne_eq,ge_iff_le,gt_iff_lt,Int.not_lt,Int.not_le,not_true_eq_false,not_false_eq_true,if_true,if_false,z6n,z6o,z6p,z6q,Heap.set_set,z6r,z6s,z6t,z6u,z6v,z6w,List.getElem_cons_zero,List.getElem_cons_succ,List.set_cons_zero,List.set_cons_succ,List.length_set,List.all_cons,List.all_nil,Bool.and_true,Bool.true_and,Bool.and_self,Nat.add_zero,Nat.zero_add,Nat.zero_lt_succ,Int.cast_ofNat_Int,List.size_toArray,List.flatten_replicate_singleton,Nat.mul_one,Nat.le_refl,Nat.lt_irrefl,Nat.le_add_left]
  intro b3 hb3
  have q25 := le5 _ _ q24
  have q15 := le5 _ _ q14
  have st3 : storeV (h5.set b3 (.own 0 [.int .u64 0, .int .u64 0, .int .u64 0] 3)) 3 (.pointer (some ⟨b3, 0, none⟩)) z.V = some (h5.set b3 (.own 0 z.cells 3)) := z6q (by omega) rfl rfl rfl (by omega)
  have n32 := ne_of_none hb3 q25
  have n31 := ne_of_none hb3 q15
  have l3 : hcell (h5.set b3 (.own 0 z.cells 3)) ⟨b3, 2, none⟩ = some (.int .u64 (z.c : Int)) := z6n (by simp [N3.cells])
  have le6 : h.le (h5.set b3 (.own 0 z.cells 3)) := Heap.le_new (Heap.le_trans le4 le5) hb3 _
  have hb3' : h b3 = none := Heap.none_of_le (Heap.le_trans le4 le5) hb3
  by_cases g : 3 < z.c
  · have g' : (3 : Int) < z.c := by omega
    rw [if_pos g]
    have l4 : storeV (h5.set b3 (.own 0 z.cells 3)) 1 (.pointer (some ⟨b3, 2, none⟩)) (.int .u64 ((z.c % 4 : Nat) : Int)) = some (h5.set b3 (.own 0 (⟨z.a, z.b, z.c % 4⟩ : N3).cells 3)) := z6p rfl (by simp [N3.cells]) (by simp [N3.cells])
    have l5 : hcells (h5.set b3 (.own 0 (⟨z.a, z.b, z.c % 4⟩ : N3).cells 3)) ⟨b3, 0, none⟩ 3 = some (⟨z.a, z.b, z.c % 4⟩ : N3).cells := z6o rfl
    have st6 : storeV (h5.set b3 (.own 0 (⟨z.a, z.b, z.c % 4⟩ : N3).cells 3)) 3 (.pointer (some ⟨b2, 0, none⟩)) (.agg (⟨z.a, z.b, z.c % 4⟩ : N3).cells.toArray) = _ := store3 (⟨z.a, z.b, z.c % 4⟩ : N3) (by rw [Heap.set_ne n32]; exact q25) rfl
    have l6 := z6o (h := h5.set b3 (.own 0 (⟨z.a, z.b, z.c % 4⟩ : N3).cells 3)) (b := b2) (vs := (⟨z.a, z.b, z.c % 4⟩ : N3).cells) (sz := 3) (n := 3) rfl
    simp -implicitDefEqProofs only [z00,z01,z02,z03,z04,z05,z06,z07,z08,z09,z0a,z0b,z0c,z0d,z0e,z0f,z0g,z0h,z0i,z0j,z0k,z0l,z0m,z0n,retO,retL,retV,z0o,z0p,z0q,z0r,z0s,z0t,z0u,z0v,z0w,z0x,z0y,z0z,z10,z11,z12,z13,z14,z15,z16,z17,z18,z19,z1a,z1b,z1c,z1d,z1e,z1f,z1g,z1h,z1i,z1j,z1k,z1l,z1m,z1n,z1o,z1p,z1q,z1r,z1s,z1t,z1u,z1v,z1w,z1x,z1y,z1z,z20,z21,z22,z23,z24,z25,z26,z27,z28,z29,z2a,z2b,z2c,z2d,z2e,z2f,z2g,z2h,z2i,z2j,z2k,z2l,z2m,z2n,z2o,z2p,z2q,z2r,z2s,z2t,z2u,z2v,z2w,z2x,z2y,z2z,z30,z31,z32,z33,z34,z35,z36,z37,z38,z39,z3a,z3b,z3c,z3d,z3e,z3f,z3g,z3h,z3i,z3j,z3k,z3l,z3m,z3n,z3o,z3p,z3q,z3r,z3s,z3t,z3u,z3v,z3w,z3x,z3y,z3z,z40,z41,z42,z43,z44,z45,z46,z47,z48,z49,z4a,z4b,z4c,z4d,z4e,z4f,z4g,z4h,z4i,z4j,z4k,z4l,z4m,z4n,z4o,z4p,z4q,z4r,z4s,z4t,z4u,z4v,z4w,z4x,z4y,z4z,z50,z51,z52,z53,z54,z55,z56,z57,z58,z59,z5a,z5b,z5c,z5d,z5e,z5f,z5g,z5h,z5i,z5j,z5k,z5l,z5m,z5n,z5o,z5p,z5q,z5r,z5s,z5t,z5u,z5v,z5w,z5x,z5y,z5z,z60,z61,z62,z63,z64,z65,z66,z67,z68,z69,allV,allP,z6a,z6b,z6c,z6d,z6e,z6f,z6g,z6h,z6i,z6j,z6k,z6l,z6m,Option.map_some,Option.map_none,Option.some.injEq,reduceIte,reduceCtorEq,Nat.reduceEqDiff,Nat.reduceAdd,Nat.reduceMul,Nat.reduceLT,Nat.reduceSub,Int.reduceLT,Int.reduceLE,Int.reduceEq,Int.reduceNe,Int.reduceSub,Int.reduceAdd,Int.reduceMul,Int.reduceBEq,Int.reduceBNe,Int.reduceGT,Int.reduceGE,Nat.reduceGT,Int.reduceToNat,Int.reduceNeg,Nat.reduceLeDiff,Nat.reduceBEq,Nat.reduceBneDiff,binV,eqV,unV,oOpt,true_and,and_true,Value.cells,List.length_cons,List.length_nil,List.append_nil,List.nil_append,List.cons_append,List.drop_succ_cons,List.drop_zero,List.take_succ_cons,List.take_zero,List.take_nil,List.getElem?_cons_zero,List.getElem?_cons_succ,decide_true,decide_false,decide_eq_true_eq,decide_eq_false_iff_not,Bool.false_eq_true,Bool.true_eq_false,Bool.not_true,Bool.not_false,Bool.not_eq_true',Bool.not_eq_false',Bool.not_eq_true,Bool.not_eq_false,false_implies,true_implies,beq_iff_eq,beq_eq_false_iff_ne,bne_iff_ne,bne_eq_false_iff_eq,ne_eq,ge_iff_le,gt_iff_lt,Int.not_lt,Int.not_le,not_true_eq_false,not_false_eq_true,if_true,if_false,z6n,z6o,z6p,z6q,Heap.set_set,z6r,z6s,z6t,z6u,z6v,z6w,List.getElem_cons_zero,List.getElem_cons_succ,List.set_cons_zero,List.set_cons_succ,List.length_set,List.all_cons,List.all_nil,Bool.and_true,Bool.true_and,Bool.and_self,Nat.add_zero,Nat.zero_add,Nat.zero_lt_succ,Int.cast_ofNat_Int,List.size_toArray,List.flatten_replicate_singleton,Nat.mul_one,Nat.le_refl,Nat.lt_irrefl,Nat.le_add_left, st3, l3, g', and_3, l4, l5, st6, l6]
    exact ⟨Heap.le_set (Heap.le_new (Heap.le_trans le4 le5) hb3 _) hb2' _, rfl⟩
  · have g' : ¬ (3 : Int) < z.c := by omega
    have g2 : (z.c : Int) ≤ 3 := by omega
    rw [if_neg g]
    have l5 : hcells (h5.set b3 (.own 0 z.cells 3)) ⟨b1, 0, none⟩ 3 = some y.cells := by rw [hcells_ne n31, hcells_at q15 (by simp [N3.cells])]; rfl
    have st6 : storeV (h5.set b3 (.own 0 z.cells 3)) 3 (.pointer (some ⟨b2, 0, none⟩)) (.agg y.cells.toArray) = _ := store3 y (by rw [Heap.set_ne n32]; exact q25) rfl
    have l6 := z6o (h := h5.set b3 (.own 0 z.cells 3)) (b := b2) (vs := y.cells) (sz := 3) (n := 3) rfl
    simp -implicitDefEqProofs only [z00,z01,z02,z03,z04,z05,z06,z07,z08,z09,z0a,z0b,z0c,z0d,z0e,z0f,z0g,z0h,z0i,z0j,z0k,z0l,z0m,z0n,retO,retL,retV,z0o,z0p,z0q,z0r,z0s,z0t,z0u,z0v,z0w,z0x,z0y,z0z,z10,z11,z12,z13,z14,z15,z16,z17,z18,z19,z1a,z1b,z1c,z1d,z1e,z1f,z1g,z1h,z1i,z1j,z1k,z1l,z1m,z1n,z1o,z1p,z1q,z1r,z1s,z1t,z1u,z1v,z1w,z1x,z1y,z1z,z20,z21,z22,z23,z24,z25,z26,z27,z28,z29,z2a,z2b,z2c,z2d,z2e,z2f,z2g,z2h,z2i,z2j,z2k,z2l,z2m,z2n,z2o,z2p,z2q,z2r,z2s,z2t,z2u,z2v,z2w,z2x,z2y,z2z,z30,z31,z32,z33,z34,z35,z36,z37,z38,z39,z3a,z3b,z3c,z3d,z3e,z3f,z3g,z3h,z3i,z3j,z3k,z3l,z3m,z3n,z3o,z3p,z3q,z3r,z3s,z3t,z3u,z3v,z3w,z3x,z3y,z3z,z40,z41,z42,z43,z44,z45,z46,z47,z48,z49,z4a,z4b,z4c,z4d,z4e,z4f,z4g,z4h,z4i,z4j,z4k,z4l,z4m,z4n,z4o,z4p,z4q,z4r,z4s,z4t,z4u,z4v,z4w,z4x,z4y,z4z,z50,z51,z52,z53,z54,z55,z56,z57,z58,z59,z5a,z5b,z5c,z5d,z5e,z5f,z5g,z5h,z5i,z5j,z5k,z5l,z5m,z5n,z5o,z5p,z5q,z5r,z5s,z5t,z5u,z5v,z5w,z5x,z5y,z5z,z60,z61,z62,z63,z64,z65,z66,z67,z68,z69,allV,allP,z6a,z6b,z6c,z6d,z6e,z6f,z6g,z6h,z6i,z6j,z6k,z6l,z6m,Option.map_some,Option.map_none,Option.some.injEq,reduceIte,reduceCtorEq,Nat.reduceEqDiff,Nat.reduceAdd,Nat.reduceMul,Nat.reduceLT,Nat.reduceSub,Int.reduceLT,Int.reduceLE,Int.reduceEq,Int.reduceNe,Int.reduceSub,Int.reduceAdd,Int.reduceMul,Int.reduceBEq,Int.reduceBNe,Int.reduceGT,Int.reduceGE,Nat.reduceGT,Int.reduceToNat,Int.reduceNeg,Nat.reduceLeDiff,Nat.reduceBEq,Nat.reduceBneDiff,binV,eqV,unV,oOpt,true_and,and_true,Value.cells,List.length_cons,List.length_nil,List.append_nil,List.nil_append,List.cons_append,List.drop_succ_cons,List.drop_zero,List.take_succ_cons,List.take_zero,List.take_nil,List.getElem?_cons_zero,List.getElem?_cons_succ,decide_true,decide_false,decide_eq_true_eq,decide_eq_false_iff_not,Bool.false_eq_true,Bool.true_eq_false,Bool.not_true,Bool.not_false,Bool.not_eq_true',Bool.not_eq_false',Bool.not_eq_true,Bool.not_eq_false,false_implies,true_implies,beq_iff_eq,beq_eq_false_iff_ne,bne_iff_ne,bne_eq_false_iff_eq,ne_eq,ge_iff_le,gt_iff_lt,Int.not_lt,Int.not_le,not_true_eq_false,not_false_eq_true,if_true,if_false,z6n,z6o,z6p,z6q,Heap.set_set,z6r,z6s,z6t,z6u,z6v,z6w,List.getElem_cons_zero,List.getElem_cons_succ,List.set_cons_zero,List.set_cons_succ,List.length_set,List.all_cons,List.all_nil,Bool.and_true,Bool.true_and,Bool.and_self,Nat.add_zero,Nat.zero_add,Nat.zero_lt_succ,Int.cast_ofNat_Int,List.size_toArray,List.flatten_replicate_singleton,Nat.mul_one,Nat.le_refl,Nat.lt_irrefl,Nat.le_add_left, st3, l3, g', g2, l5, st6, l6]
    exact ⟨Heap.le_set le6 hb2' _, rfl⟩
end Go.Bb
