/- My contracts: BbW32 BbUl BbUj BbUk BbUe BbCoct BbPsha BbCsha0. -/
import Derived.Test.YtgoifophjcbpaaaBbG3
import Derived.Test.YtgoifophjcbpaaaBbG4
import Derived.Test.YtgoifophjcbpaaaBbTab
/- Words: numbers of fixed width, as the walk meets them. -/
namespace Go.Bb
set_option linter.unusedSimpArgs false
set_option linter.unusedVariables false

abbrev U32 := BitVec 32
abbrev U64 := BitVec 64
def u8V (b : UInt8) : Value := .int .u8 b.toNat
def u32V (x : U32) : Value := .int .u32 x.toNat
def u64V (x : U64) : Value := .int .u64 x.toNat

theorem wrap_u32 (n : Int) : IntKind.u32.wrap n = ((BitVec.ofInt 32 n).toNat : Int) := by
  simp only [IntKind.wrap, IntKind.bits, IntKind.signed, BitVec.toNat_ofInt]
  simp
  omega
theorem wrap_u64 (n : Int) : IntKind.u64.wrap n = ((BitVec.ofInt 64 n).toNat : Int) := by
  simp only [IntKind.wrap, IntKind.bits, IntKind.signed, BitVec.toNat_ofInt]
  simp
  omega
theorem wrap_u8 (n : Int) : IntKind.u8.wrap n = ((BitVec.ofInt 8 n).toNat : Int) := by
  simp only [IntKind.wrap, IntKind.bits, IntKind.signed, BitVec.toNat_ofInt]
  simp
  omega
theorem ofInt_nat (w n : Nat) : BitVec.ofInt w (n : Int) = BitVec.ofNat w n := by simp
theorem ofInt_toNat {w : Nat} (x : BitVec w) : BitVec.ofInt w (x.toNat : Int) = x := by rw [ofInt_nat]; simp

section
variable (x y : U32) (n : Nat)
theorem u32_add : IntKind.u32.wrap ((x.toNat : Int) + (y.toNat : Int)) = ((x + y).toNat : Int) := by
  rw [wrap_u32]; congr 1
theorem u32_xor : IntKind.u32.wrap ((BitVec.ofInt IntKind.u32.bits (x.toNat : Int) ^^^ BitVec.ofInt IntKind.u32.bits (y.toNat : Int)).toNat : Int) = ((x ^^^ y).toNat : Int) := by
  rw [show IntKind.u32.bits = 32 from rfl, ofInt_toNat, ofInt_toNat, wrap_u32, ofInt_toNat]
theorem u32_and : IntKind.u32.wrap ((BitVec.ofInt IntKind.u32.bits (x.toNat : Int) &&& BitVec.ofInt IntKind.u32.bits (y.toNat : Int)).toNat : Int) = ((x &&& y).toNat : Int) := by
  rw [show IntKind.u32.bits = 32 from rfl, ofInt_toNat, ofInt_toNat, wrap_u32, ofInt_toNat]
theorem u32_or : IntKind.u32.wrap ((BitVec.ofInt IntKind.u32.bits (x.toNat : Int) ||| BitVec.ofInt IntKind.u32.bits (y.toNat : Int)).toNat : Int) = ((x ||| y).toNat : Int) := by
  rw [show IntKind.u32.bits = 32 from rfl, ofInt_toNat, ofInt_toNat, wrap_u32, ofInt_toNat]
theorem u32_not : IntKind.u32.wrap ((BitVec.ofInt IntKind.u32.bits (if IntKind.u32.signed = true then -1 else IntKind.u32.max) ^^^ BitVec.ofInt IntKind.u32.bits (x.toNat : Int)).toNat : Int) = ((~~~x).toNat : Int) := by
  rw [show IntKind.u32.bits = 32 from rfl, show (if IntKind.u32.signed = true then -1 else IntKind.u32.max) = 4294967295 from by decide, ofInt_toNat, wrap_u32, ofInt_toNat, show BitVec.ofInt 32 4294967295 = BitVec.allOnes 32 from by decide, BitVec.allOnes_xor]
theorem u32_shl (h : n ≤ 32) : IntKind.u32.wrap ((x.toNat : Int) * 2 ^ (min n IntKind.u32.bits)) = ((x <<< n).toNat : Int) := by
  rw [show IntKind.u32.bits = 32 from rfl, Nat.min_eq_left h, wrap_u32]
  have : ((x.toNat : Int) * 2 ^ n) = ((x.toNat * 2 ^ n : Nat) : Int) := by simp
  rw [this, ofInt_nat]
  simp [BitVec.toNat_shiftLeft, Nat.shiftLeft_eq]
theorem u32_shr (h : n ≤ 32) : ((x.toNat : Int).fdiv (2 ^ (min n IntKind.u32.bits))) = ((x >>> n).toNat : Int) := by
  rw [show IntKind.u32.bits = 32 from rfl, Nat.min_eq_left h, Int.fdiv_eq_ediv_of_nonneg _ (Int.le_of_lt (Int.pow_pos (by omega)))]
  simp [BitVec.toNat_ushiftRight, Nat.shiftRight_eq_div_pow]
theorem u32_u64 : IntKind.u64.wrap (x.toNat : Int) = ((x.setWidth 64).toNat : Int) := by
  rw [wrap_u64, ofInt_nat]; simp
theorem u64_u32 (z : U64) : IntKind.u32.wrap (z.toNat : Int) = ((z.setWidth 32).toNat : Int) := by
  rw [wrap_u32, ofInt_nat]; simp
end
section
variable (x y : U64) (n : Nat)
theorem u64_add : IntKind.u64.wrap ((x.toNat : Int) + (y.toNat : Int)) = ((x + y).toNat : Int) := by
  rw [wrap_u64]; congr 1
theorem u64_xor : IntKind.u64.wrap ((BitVec.ofInt IntKind.u64.bits (x.toNat : Int) ^^^ BitVec.ofInt IntKind.u64.bits (y.toNat : Int)).toNat : Int) = ((x ^^^ y).toNat : Int) := by
  rw [show IntKind.u64.bits = 64 from rfl, ofInt_toNat, ofInt_toNat, wrap_u64, ofInt_toNat]
theorem u64_and : IntKind.u64.wrap ((BitVec.ofInt IntKind.u64.bits (x.toNat : Int) &&& BitVec.ofInt IntKind.u64.bits (y.toNat : Int)).toNat : Int) = ((x &&& y).toNat : Int) := by
  rw [show IntKind.u64.bits = 64 from rfl, ofInt_toNat, ofInt_toNat, wrap_u64, ofInt_toNat]
theorem u64_or : IntKind.u64.wrap ((BitVec.ofInt IntKind.u64.bits (x.toNat : Int) ||| BitVec.ofInt IntKind.u64.bits (y.toNat : Int)).toNat : Int) = ((x ||| y).toNat : Int) := by
  rw [show IntKind.u64.bits = 64 from rfl, ofInt_toNat, ofInt_toNat, wrap_u64, ofInt_toNat]
theorem u64_shl (h : n ≤ 64) : IntKind.u64.wrap ((x.toNat : Int) * 2 ^ (min n IntKind.u64.bits)) = ((x <<< n).toNat : Int) := by
  rw [show IntKind.u64.bits = 64 from rfl, Nat.min_eq_left h, wrap_u64]
  have : ((x.toNat : Int) * 2 ^ n) = ((x.toNat * 2 ^ n : Nat) : Int) := by simp
  rw [this, ofInt_nat]
  simp [BitVec.toNat_shiftLeft, Nat.shiftLeft_eq]
theorem u64_shr (h : n ≤ 64) : ((x.toNat : Int).fdiv (2 ^ (min n IntKind.u64.bits))) = ((x >>> n).toNat : Int) := by
  rw [show IntKind.u64.bits = 64 from rfl, Nat.min_eq_left h, Int.fdiv_eq_ediv_of_nonneg _ (Int.le_of_lt (Int.pow_pos (by omega)))]
  simp [BitVec.toNat_ushiftRight, Nat.shiftRight_eq_div_pow]
theorem u8_u64 (b : UInt8) : IntKind.u64.wrap (b.toNat : Int) = ((BitVec.ofNat 64 b.toNat).toNat : Int) := by
  rw [wrap_u64, ofInt_nat]
theorem u64_u8 (z : U64) : IntKind.u8.wrap (z.toNat : Int) = ((UInt8.ofNat z.toNat).toNat : Int) := by
  rw [wrap_u8, ofInt_nat]; simp
end
end Go.Bb
/- Slices of bytes. -/
namespace Go.Bb
set_option linter.unusedSimpArgs false
set_option linter.unusedVariables false

abbrev SlB (h : Heap) (v : Value) (l : List UInt8) : Prop := Sl h 1 v l.length (l.map u8V)
abbrev OwB (h0 h : Heap) (v : Value) (l : List UInt8) : Prop := Ow h0 h 1 v l.length (l.map u8V)
theorem one_u8 (l : List UInt8) : (l.map u8V).all one = true := by simp [u8V, one]
theorem one_u8' (b : UInt8) : one (u8V b) = true := rfl
theorem wrapI {n : Int} (h0 : -9223372036854775808 ≤ n) (h1 : n ≤ 9223372036854775807) : IntKind.i64.wrap n = n := by
  simp [IntKind.wrap, IntKind.bits, IntKind.signed]; omega
theorem wrapN {n : Nat} (h1 : n ≤ 9223372036854775806) : IntKind.i64.wrap ((n : Int) + 1) = ((n + 1 : Nat) : Int) := by rw [wrapI (by omega) (by omega)]; rfl

/-- A byte of a slice. -/
theorem Sl.byte_at {h : Heap} {v : Value} {l : List UInt8} (s : SlB h v l) (j : Nat) (hj : j < l.length) :
    ∃ b o c, v = .slice (some ⟨b, o, none⟩) l.length c ∧ l.length ≤ c ∧ ∀ H, h.le H → hcell H ⟨b, o + j, none⟩ = some (u8V l[j]) := by
  obtain ⟨b, o, c, hv, hc, hcl⟩ := s.ptr (by omega) (by omega)
  refine ⟨b, o, c, hv, hc, fun H hle => ?_⟩
  rw [Nat.mul_one] at hcl
  rw [hcell_of (hcells_le hle hcl) j hj]
  simp [hj]
end Go.Bb
/- The walk's laws: slice expressions, copies, texts of bytes. -/
namespace Go.Bb
set_option linter.unusedSimpArgs false
set_option linter.unusedVariables false

theorem bnds_hi {n c : Nat} {k : IntKind} {z : Int} (h0 : 0 ≤ z) (h1 : z ≤ c) : bnds n c none (some (some (.int k z))) none = some (0, z.toNat, c) := by
  simp [bnds, bndV, h0, h1]
theorem bnds_lo {n c : Nat} {k : IntKind} {z : Int} (h0 : 0 ≤ z) (h1 : z ≤ n) : bnds n c (some (some (.int k z))) none none = some (z.toNat, n, c) := by
  simp [bnds, bndV, h0, h1]
theorem bnds_both {n c : Nat} {k k' : IntKind} {y z : Int} (h0 : 0 ≤ y) (h1 : y ≤ z) (h2 : z ≤ c) : bnds n c (some (some (.int k y))) (some (some (.int k' z))) none = some (y.toNat, z.toNat, c) := by
  have hz : 0 ≤ z := by omega
  have : y ≤ (z.toNat : Int) := by omega
  have h3 : y ≤ max z 0 := by omega
  simp [bnds, bndV, h0, hz, h2, h1, h3]
theorem bnds_no {n c : Nat} : bnds n c none none none = some (0, n, c) := by simp [bnds, bndV]
theorem add_zero' (a : Addr) (size : Nat) : a.add (0 * size) = a := by unfold Addr.add; simp
theorem sl_pre {c size : Nat} {a : Option Addr} : (if c = 0 then a else a.map fun x => x.add (0 * size)) = a := by
  split
  · rfl
  · cases a with
    | none => rfl
    | some a => simp only [Option.map_some, add_zero']
theorem sl_preA {c size : Nat} {a : Addr} : (if c = 0 then a else a.add (0 * size)) = a := by
  split
  · rfl
  · exact add_zero' a size
theorem add_off' (b o n : Nat) : (⟨b, o, none⟩ : Addr).add n = ⟨b, o + n, none⟩ := by
  unfold Addr.add; split
  · rename_i h; subst h; rfl
  · rfl

/-- A part of a slice. -/
theorem Sl.pre {h : Heap} {size n c : Nat} {base : Option Addr} {cells : List Value} (s : Sl h size (.slice base n c) n cells) {k : Nat} (hk : k ≤ n) : Sl h size (.slice base k c) k (cells.take (k * size)) := by
  have hm : k * size ≤ n * size := Nat.mul_le_mul_right _ hk
  rcases s with ⟨e, rfl, rfl⟩ | ⟨a, c', e, h2, h3⟩
  · simp only [Value.slice.injEq] at e
    obtain ⟨rfl, _, rfl⟩ := e
    have : k = 0 := by omega
    subst this
    exact .inl ⟨rfl, rfl, by simp⟩
  · simp only [Value.slice.injEq] at e
    obtain ⟨rfl, _, rfl⟩ := e
    refine .inr ⟨a, c, rfl, by omega, ?_⟩
    by_cases hz : k * size = 0
    · rw [hz]; simp [hcells]
    · have := hcells_spot h3 (by omega)
      rw [this] at h3 ⊢
      have := hcells_sub h3 0 (k * size) (by omega)
      simpa using this
theorem Sl.post {h : Heap} {size n c : Nat} {base : Option Addr} {cells : List Value} (s : Sl h size (.slice base n c) n cells) {k : Nat} (hk : k ≤ n) :
    Sl h size (.slice (if c = k then base else base.map fun x => x.add (k * size)) (n - k) (c - k)) (n - k) (cells.drop (k * size)) := by
  have hm : k * size ≤ n * size := Nat.mul_le_mul_right _ hk
  rcases s with ⟨e, rfl, rfl⟩ | ⟨a, c', e, h2, h3⟩
  · simp only [Value.slice.injEq] at e
    obtain ⟨rfl, _, rfl⟩ := e
    have : k = 0 := by omega
    subst this
    exact .inl ⟨by simp, rfl, by simp⟩
  · simp only [Value.slice.injEq] at e
    obtain ⟨rfl, _, rfl⟩ := e
    have hl := hcells_length h3
    by_cases hck : c = k
    · have hnk : n - k = 0 := by omega
      refine .inr ⟨a, c - k, by simp [hck], by omega, ?_⟩
      rw [hnk, Nat.zero_mul]
      simp only [hcells, Option.some.injEq]
      rw [List.drop_eq_nil_of_le]
      have : n = k := by omega
      subst this; omega
    · refine .inr ⟨a.add (k * size), c - k, by simp [hck], by omega, ?_⟩
      by_cases hz : (n - k) * size = 0
      · rw [hz]
        simp only [hcells, Option.some.injEq]
        rw [List.drop_eq_nil_of_le]
        rw [Nat.sub_mul] at hz; omega
      · rw [Nat.sub_mul] at hz ⊢
        have := hcells_spot h3 (by omega)
        rw [this] at h3
        rw [this, add_off']
        have := hcells_sub h3 (k * size) (n * size - k * size) (by omega)
        rw [this]
        congr 1
        rw [List.take_of_length_le]
        simp [hl]

/-! ### copies -/
theorem copyP_own {size b o n c m sz : Nat} {h : Heap} {v : Value} {vs cells : List Value} {K : Value → Heap → Prop} (hb : h b = some (.own 0 vs sz)) (hsz : vs.length ≤ sz) (ho : o + n * size ≤ vs.length) (s : Sl h size v m cells) (h1 : cells.all one = true)
    (hk : K (.int .i64 (min m n : Nat)) (h.set b (.own 0 (splice vs o (cells.take (min m n * size))) sz))) : copyP size h (.slice (some ⟨b, o, none⟩) n c) v K := by
  have hst : ∀ us : List Value, us.length ≤ n * size → hstore h ⟨b, o, none⟩ us = some (h.set b (.own 0 (splice vs o us) sz)) := by
    intro us hus
    cases us with
    | nil =>
      simp only [hstore, Option.some.injEq]
      have : splice vs o [] = vs := by simp [splice]
      rw [this, Heap.set_same hb]
    | cons u us =>
      simp only [hstore, hb]
      rw [if_pos ⟨Nat.zero_le _, by omega, by simp at hus ⊢; omega⟩, Nat.sub_zero]
  rcases s with ⟨rfl, rfl, rfl⟩ | ⟨a, c', rfl, h2, h3⟩
  · simp only [copyP]
    simp only [Nat.zero_min, Nat.zero_mul, List.take_nil] at hk
    have : splice vs o [] = vs := by simp [splice]
    rw [this, Heap.set_same hb] at hk
    exact ⟨trivial, hk⟩
  · have hl := hcells_length h3
    have hmn : min m n * size ≤ m * size := Nat.mul_le_mul_right _ (Nat.min_le_left _ _)
    have hmn2 : min m n * size ≤ n * size := Nat.mul_le_mul_right _ (Nat.min_le_right _ _)
    have h4 : hcells h a (min m n * size) = some (cells.take (min m n * size)) := by
      by_cases hz : min m n * size = 0
      · rw [hz]; simp [hcells]
      · have := hcells_spot h3 (by omega)
        rw [this] at h3 ⊢
        have := hcells_sub h3 0 (min m n * size) (by omega)
        simpa using this
    simp only [copyP, h4, hst _ (show (cells.take (min m n * size)).length ≤ n * size by rw [List.length_take]; omega)]
    refine ⟨fun u hu => List.all_eq_true.1 h1 u (List.mem_of_mem_take hu), hk⟩

/-! ### texts -/
def strV (l : List UInt8) : Value := .string ⟨l.toArray⟩
theorem bytesV_map : ∀ l : List UInt8, bytesV (l.map fun b => Value.int .u8 b.toNat) = some l
  | [] => rfl
  | b :: l => by simp [bytesV, bytesV_map l]
theorem strOfV_sl {h : Heap} {v : Value} {l : List UInt8} (s : Sl h 1 v l.length (l.map u8V)) : strOfV h v = some (strV l) := by
  rcases s with ⟨rfl, hn, _⟩ | ⟨a, c, rfl, h2, h3⟩
  · have : l = [] := List.eq_nil_of_length_eq_zero hn
    subst this; rfl
  · rw [Nat.mul_one] at h3
    simp only [strOfV, h3]
    have := bytesV_map l
    unfold u8V
    rw [this]; rfl
theorem str_toList (l : List UInt8) : (⟨l.toArray⟩ : ByteArray).toList = l := by
  exact Go.ByteArray.toList_mk l
theorem str_eql (a b : List UInt8) : binV .eql (strV a) (strV b) = some (.bool (decide (a = b))) := by
  simp only [strV, binV, str_toList]
  congr 2
  rw [Bool.eq_iff_iff]; simp
theorem str_neq (a b : List UInt8) : binV .neq (strV a) (strV b) = some (.bool (!decide (a = b))) := by
  simp only [strV, binV, str_toList]
  congr 2
  rw [Bool.eq_iff_iff]; simp
end Go.Bb
/- Arguments: bytes and words. -/
namespace Go.Bb
set_option linter.unusedSimpArgs false
set_option linter.unusedVariables false

theorem flatMap_single {α β : Type} (f : α → β) : ∀ L : List α, (L.flatMap fun x => [f x]) = L.map f
  | [] => rfl
  | x :: L => by simp [flatMap_single f L]
theorem u8V_of {n : Int} (h0 : 0 ≤ n) (h1 : n ≤ 255) : u8V (UInt8.ofNat n.toNat) = .int .u8 n := by
  unfold u8V
  have : (UInt8.ofNat n.toNat).toNat = n.toNat := by rw [UInt8.toNat_ofNat']; omega
  rw [this]; congr 1; omega
theorem ok_bytes {W : World} {v : Value} (h : Shp.ok W (.slice 1 (.int .u8)) v) : ∃ l : List UInt8, SlB (roHeap W) v l ∧ l.length ≤ 9223372036854775807 := by
  obtain ⟨L, h1, h2, h3⟩ := Shp.ok_rows (f := fun b : UInt8 => [u8V b]) (Pr := fun _ => True) (fun _ => rfl) (fun l hl => by
    obtain ⟨n, rfl, a, b⟩ := hl
    exact ⟨UInt8.ofNat n.toNat, by rw [u8V_of (by simpa [IntKind.min, IntKind.signed] using a) (by simpa [IntKind.max, IntKind.signed, IntKind.bits] using b)], trivial⟩) h
  refine ⟨L, ?_, h2⟩
  rw [flatMap_single] at h1
  exact h1
end Go.Bb
namespace Go.Bb
def byteOf : Value → UInt8
  | .int _ z => UInt8.ofNat z.toNat
  | _ => 0
theorem ok_array {W : World} {n : Nat} {v : Value} (h : Shp.ok W (.array n 1 (.int .u8)) v) : ∃ l : List UInt8, l.length = n ∧ v = .agg (l.map u8V).toArray := by
  obtain ⟨⟨h1, h2⟩, h3⟩ := h
  simp only [Shp.wide, if_true] at h3
  obtain ⟨cs, rfl⟩ := h3
  have hc : (Value.agg cs).cells = cs := rfl
  rw [hc] at h1 h2
  rw [Nat.mul_one] at h1
  refine ⟨cs.toList.map byteOf, by simpa using h1, ?_⟩
  congr 1
  apply Array.toList_inj.1
  simp only
  apply List.ext_getElem
  · simp
  · intro i a b
    have hi : i < n := by rw [← h1]; exact a
    obtain ⟨z, hz, z0, z1⟩ := h2 i hi
    rw [Nat.mul_one] at hz
    have e : cs.toList[i] = .int .u8 z := by
      have h4 : ((cs.toList.drop i).take 1)[0]? = some (.int .u8 z) := by rw [hz]; rfl
      rw [List.getElem?_take, if_pos (by omega), List.getElem?_drop, Nat.add_zero, List.getElem?_eq_getElem a] at h4
      exact Option.some.inj h4
    rw [e]
    simp only [List.getElem_map]
    rw [e]
    exact (u8V_of (by simpa [IntKind.min, IntKind.signed] using z0) (by simpa [IntKind.max, IntKind.signed, IntKind.bits] using z1)).symm
end Go.Bb
/- The reckoner, for calls that tell rows of numbers. -/
namespace Go.Bb
set_option linter.unusedSimpArgs false
set_option linter.unusedVariables false
section
variable {tab : Nat → Option (Hint × AFunc)} {lf : Nat} {E : EnvT tab}

def isInt : Value → Bool
  | .int _ _ => true
  | _ => false
def isAgg (x : Option (Value × VM)) (us : List Value) : Bool :=
  match x with
  | some (.agg a, _) => sameL a.toList us && us.all isInt
  | _ => false
theorem sameL_ints : ∀ {a us : List Value}, sameL a us = true → us.all isInt = true → a = us
  | [], [], _, _ => rfl
  | [], _ :: _, h, _ => by cases h
  | _ :: _, [], h, _ => by cases h
  | x :: a, u :: us, h, hi => by
      simp only [sameL, Bool.and_eq_true] at h
      simp only [List.all_cons, Bool.and_eq_true] at hi
      rw [sameL_ints h.2 hi.2]
      congr 1
      have h1 := h.1
      have h2 := hi.1
      cases u <;> try (cases h2; done)
      cases x <;> simp only [sameV0, Bool.and_eq_true, decide_eq_true_eq] at h1 <;> try (cases h1; done)
      obtain ⟨rfl, rfl⟩ := h1; rfl
theorem all2_ints {fid : Nat → Option FuncId} {r : Rr} : ∀ {l l' : List Value}, All2 (VR0 fid r) l l' → l.all isInt = true → l' = l
  | _, _, .nil, _ => rfl
  | x :: l, y :: l', .cons h t, hi => by
      simp only [List.all_cons, Bool.and_eq_true] at hi
      rw [all2_ints t hi.2]
      congr 1
      have h2 := hi.1
      cases x <;> try (cases h2; done)
      cases h with | base h => cases h; rfl
theorem evF_agg {hk : Hooks} (hko : HooksOk E.toEnv hk) {d n : Nat} (h : Heap) {us : List Value} (e : isAgg (evF tab hk lf d n [] VM.start) us = true) : ACallN E.toEnv n [] h fun v h' => h.le h' ∧ v = .agg us.toArray := by
  cases hx : evF tab hk lf d n [] VM.start with
  | none => rw [hx] at e; cases e
  | some y =>
    obtain ⟨v, m⟩ := y
    rw [hx] at e
    unfold isAgg at e
    split at e
    · rename_i a m' h1
      simp only [Option.some.injEq, Prod.mk.injEq] at h1
      obtain ⟨rfl, rfl⟩ := h1
      simp only [Bool.and_eq_true] at e
      have ha := sameL_ints e.1 e.2
      refine (evF_ok (h0 := h) (lf := lf) E.full hko d n [] VM.start _ _ _ h [] (start_hs h _) .nil hx).mono ?_
      rintro v' h' ⟨r', _, p', hv'⟩
      refine ⟨p'.old, ?_⟩
      cases hv' with
      | one hv' =>
        cases hv' with
        | one hv' => cases hv' with | base hv' => cases hv' with | plain hp => cases hp
        | agg hv' =>
          have := all2_ints hv' (by rw [ha]; exact e.2)
          rename_i a'
          have h2 : a'.toList = us := this.trans ha
          rw [← h2]
    · cases e
end
end Go.Bb
/- Contracts: bytes. -/
namespace Go.Bb
set_option linter.unusedSimpArgs false
set_option linter.unusedVariables false
set_option maxRecDepth 20000

theorem Clone_c (E : EnvT tab) (h : Heap) {v : Value} (l : List UInt8) (hl : l.length ≤ 140737488355328) (s : SlB h v l) : ACallN E.toEnv n_slices_Clone_byte_byte [v] h fun r h' => h.le h' ∧ OwB h h' r l := by
  refine acall h_slices_Clone_byte_byte ir_slices_Clone_byte_byte rfl rfl (wpA_sound ?_)
  unfold ir_slices_Clone_byte_byte
  rcases s with ⟨rfl, hn, hc⟩ | ⟨a, c, rfl, hc, hcl⟩
  · simp -implicitDefEqProofs only [z00,z01,z02,z03,z04,z05,z06,z07,z08,z09,z0a,z0b,z0c,z0d,z0e,z0f,z0g,z0h,z0i,z0j,z0k,z0l,z0m,z0n,retO,retL,retV,z0o,z0p,z0q,z0r,z0s,z0t,z0u,z0v,z0w,z0x,z0y,z0z,z10,z11,z12,z13,z14,z15,z16,z17,z18,z19,z1a,z1b,z1c,z1d,z1e,z1f,z1g,z1h,z1i,z1j,z1k,z1l,z1m,z1n,z1o,z1p,z1q,z1r,z1s,z1t,z1u,z1v,z1w,z1x,z1y,z1z,z20,z21,z22,z23,z24,z25,z26,z27,z28,z29,z2a,z2b,z2c,z2d,z2e,z2f,z2g,z2h,z2i,z2j,z2k,z2l,z2m,z2n,z2o,z2p,z2q,z2r,z2s,z2t,z2u,z2v,z2w,z2x,z2y,z2z,z30,z31,z32,z33,z34,z35,z36,z37,z38,z39,z3a,z3b,z3c,z3d,z3e,z3f,z3g,z3h,z3i,z3j,z3k,z3l,z3m,z3n,z3o,z3p,z3q,z3r,z3s,z3t,z3u,z3v,z3w,z3x,z3y,z3z,z40,z41,z42,z43,z44,z45,z46,z47,z48,z49,z4a,z4b,z4c,z4d,z4e,z4f,z4g,z4h,z4i,z4j,z4k,z4l,z4m,z4n,z4o,z4p,z4q,z4r,z4s,z4t,z4u,z4v,z4w,z4x,z4y,z4z,z50,z51,z52,z53,z54,z55,z56,z57,z58,z59,z5a,z5b,z5c,z5d,z5e,z5f,z5g,z5h,z5i,z5j,z5k,z5l,z5m,z5n,z5o,z5p,z5q,z5r,z5s,z5t,z5u,z5v,z5w,z5x,z5y,z5z,z60,z61,z62,z63,z64,z65,z66,z67,z68,z69,allV,allP,z6a,z6b,z6c,z6d,z6e,z6f,z6g,z6h,z6i,z6j,z6k,z6l,z6m,Option.map_some,Option.map_none,Option.some.injEq,reduceIte,reduceCtorEq,Nat.reduceEqDiff,Nat.reduceAdd,Nat.reduceMul,Nat.reduceLT,Nat.reduceSub,Int.reduceLT,Int.reduceLE,Int.reduceEq,Int.reduceNe,Int.reduceSub,Int.reduceAdd,Int.reduceMul,Int.reduceBEq,Int.reduceBNe,Int.reduceGT,Int.reduceGE,Nat.reduceGT,Int.reduceToNat,Int.reduceNeg,Nat.reduceLeDiff,Nat.reduceBEq,Nat.reduceBneDiff,binV,eqV,unV,oOpt,true_and,and_true,Value.cells,List.length_cons,List.length_nil,List.append_nil,List.nil_append,List.cons_append,List.drop_succ_cons,List.drop_zero,List.take_succ_cons,List.take_zero,List.take_nil,List.getElem?_cons_zero,List.getElem?_cons_succ,decide_true,decide_false,decide_eq_true_eq,decide_eq_false_iff_not,Bool.false_eq_true,Bool.true_eq_false,Bool.not_true,Bool.not_false,Bool.not_eq_true',Bool.not_eq_false',Bool.not_eq_true,Bool.not_eq_false,false_implies,true_implies,beq_iff_eq,beq_eq_false_iff_ne,bne_iff_ne,bne_eq_false_iff_eq,ne_eq,ge_iff_le,gt_iff_lt,Int.not_lt,Int.not_le,not_true_eq_false,not_false_eq_true,if_true,if_false,z6n,z6o,z6p,z6q,Heap.set_set,z6r,z6s,z6t,z6u,z6v,z6w,List.getElem_cons_zero,List.getElem_cons_succ,List.set_cons_zero,List.set_cons_succ,List.length_set,List.all_cons,List.all_nil,Bool.and_true,Bool.true_and,Bool.and_self,Nat.add_zero,Nat.zero_add,Nat.zero_lt_succ,Int.cast_ofNat_Int,List.size_toArray,List.flatten_replicate_singleton,Nat.mul_one,Nat.le_refl,Nat.lt_irrefl,Nat.le_add_left, Option.isNone]
    have : l = [] := List.eq_nil_of_length_eq_zero hn
    subst this
    exact ⟨Heap.le_refl _, Ow.nil _ _ _⟩
  · have s : SlB h (.slice (some a) l.length c) l := .inr ⟨a, c, rfl, hc, hcl⟩
    simp -implicitDefEqProofs only [z00,z01,z02,z03,z04,z05,z06,z07,z08,z09,z0a,z0b,z0c,z0d,z0e,z0f,z0g,z0h,z0i,z0j,z0k,z0l,z0m,z0n,retO,retL,retV,z0o,z0p,z0q,z0r,z0s,z0t,z0u,z0v,z0w,z0x,z0y,z0z,z10,z11,z12,z13,z14,z15,z16,z17,z18,z19,z1a,z1b,z1c,z1d,z1e,z1f,z1g,z1h,z1i,z1j,z1k,z1l,z1m,z1n,z1o,z1p,z1q,z1r,z1s,z1t,z1u,z1v,z1w,z1x,z1y,z1z,z20,z21,z22,z23,z24,z25,z26,z27,z28,z29,z2a,z2b,z2c,z2d,z2e,z2f,z2g,z2h,z2i,z2j,z2k,z2l,z2m,z2n,z2o,z2p,z2q,z2r,z2s,z2t,z2u,z2v,z2w,z2x,z2y,z2z,z30,z31,z32,z33,z34,z35,z36,z37,z38,z39,z3a,z3b,z3c,z3d,z3e,z3f,z3g,z3h,z3i,z3j,z3k,z3l,z3m,z3n,z3o,z3p,z3q,z3r,z3s,z3t,z3u,z3v,z3w,z3x,z3y,z3z,z40,z41,z42,z43,z44,z45,z46,z47,z48,z49,z4a,z4b,z4c,z4d,z4e,z4f,z4g,z4h,z4i,z4j,z4k,z4l,z4m,z4n,z4o,z4p,z4q,z4r,z4s,z4t,z4u,z4v,z4w,z4x,z4y,z4z,z50,z51,z52,z53,z54,z55,z56,z57,z58,z59,z5a,z5b,z5c,z5d,z5e,z5f,z5g,z5h,z5i,z5j,z5k,z5l,z5m,z5n,z5o,z5p,z5q,z5r,z5s,z5t,z5u,z5v,z5w,z5x,z5y,z5z,z60,z61,z62,z63,z64,z65,z66,z67,z68,z69,allV,allP,z6a,z6b,z6c,z6d,z6e,z6f,z6g,z6h,z6i,z6j,z6k,z6l,z6m,Option.map_some,Option.map_none,Option.some.injEq,reduceIte,reduceCtorEq,Nat.reduceEqDiff,Nat.reduceAdd,Nat.reduceMul,Nat.reduceLT,Nat.reduceSub,Int.reduceLT,Int.reduceLE,Int.reduceEq,Int.reduceNe,Int.reduceSub,Int.reduceAdd,Int.reduceMul,Int.reduceBEq,Int.reduceBNe,Int.reduceGT,Int.reduceGE,Nat.reduceGT,Int.reduceToNat,Int.reduceNeg,Nat.reduceLeDiff,Nat.reduceBEq,Nat.reduceBneDiff,binV,eqV,unV,oOpt,true_and,and_true,Value.cells,List.length_cons,List.length_nil,List.append_nil,List.nil_append,List.cons_append,List.drop_succ_cons,List.drop_zero,List.take_succ_cons,List.take_zero,List.take_nil,List.getElem?_cons_zero,List.getElem?_cons_succ,decide_true,decide_false,decide_eq_true_eq,decide_eq_false_iff_not,Bool.false_eq_true,Bool.true_eq_false,Bool.not_true,Bool.not_false,Bool.not_eq_true',Bool.not_eq_false',Bool.not_eq_true,Bool.not_eq_false,false_implies,true_implies,beq_iff_eq,beq_eq_false_iff_ne,bne_iff_ne,bne_eq_false_iff_eq,ne_eq,ge_iff_le,gt_iff_lt,Int.not_lt,Int.not_le,not_true_eq_false,not_false_eq_true,if_true,if_false,z6n,z6o,z6p,z6q,Heap.set_set,z6r,z6s,z6t,z6u,z6v,z6w,List.getElem_cons_zero,List.getElem_cons_succ,List.set_cons_zero,List.set_cons_succ,List.length_set,List.all_cons,List.all_nil,Bool.and_true,Bool.true_and,Bool.and_self,Nat.add_zero,Nat.zero_add,Nat.zero_lt_succ,Int.cast_ofNat_Int,List.size_toArray,List.flatten_replicate_singleton,Nat.mul_one,Nat.le_refl,Nat.lt_irrefl,Nat.le_add_left, Option.isNone]
    intro b1 hb1
    try simp -implicitDefEqProofs only [z00,z01,z02,z03,z04,z05,z06,z07,z08,z09,z0a,z0b,z0c,z0d,z0e,z0f,z0g,z0h,z0i,z0j,z0k,z0l,z0m,z0n,retO,retL,retV,z0o,z0p,z0q,z0r,z0s,z0t,z0u,z0v,z0w,z0x,z0y,z0z,z10,z11,z12,z13,z14,z15,z16,z17,z18,z19,z1a,z1b,z1c,z1d,z1e,z1f,z1g,z1h,z1i,z1j,z1k,z1l,z1m,z1n,z1o,z1p,z1q,z1r,z1s,z1t,z1u,z1v,z1w,z1x,z1y,z1z,z20,z21,z22,z23,z24,z25,z26,z27,z28,z29,z2a,z2b,z2c,z2d,z2e,z2f,z2g,z2h,z2i,z2j,z2k,z2l,z2m,z2n,z2o,z2p,z2q,z2r,z2s,z2t,z2u,z2v,z2w,z2x,z2y,z2z,z30,z31,z32,z33,z34,z35,z36,z37,z38,z39,z3a,z3b,z3c,z3d,z3e,z3f,z3g,z3h,z3i,z3j,z3k,z3l,z3m,z3n,z3o,z3p,z3q,z3r,z3s,z3t,z3u,z3v,z3w,z3x,z3y,z3z,z40,z41,z42,z43,z44,z45,z46,z47,z48,z49,z4a,z4b,z4c,z4d,z4e,z4f,z4g,z4h,z4i,z4j,z4k,z4l,z4m,z4n,z4o,z4p,z4q,z4r,z4s,z4t,z4u,z4v,z4w,z4x,z4y,z4z,z50,z51,z52,z53,z54,z55,z56,z57,z58,z59,z5a,z5b,z5c,z5d,z5e,z5f,z5g,z5h,z5i,z5j,z5k,z5l,z5m,z5n,z5o,z5p,z5q,z5r,z5s,z5t,z5u,z5v,z5w,z5x,z5y,z5z,z60,z61,z62,z63,z64,z65,z66,z67,z68,z69,allV,allP,z6a,z6b,z6c,z6d,z6e,z6f,z6g,z6h,z6i,z6j,z6k,z6l,z6m,Option.map_some,Option.map_none,Option.some.injEq,reduceIte,reduceCtorEq,Nat.reduceEqDiff,Nat.reduceAdd,Nat.reduceMul,Nat.reduceLT,Nat.reduceSub,Int.reduceLT,Int.reduceLE,Int.reduceEq,Int.reduceNe,Int.reduceSub,Int.reduceAdd,Int.reduceMul,Int.reduceBEq,Int.reduceBNe,Int.reduceGT,Int.reduceGE,Nat.reduceGT,Int.reduceToNat,Int.reduceNeg,Nat.reduceLeDiff,Nat.reduceBEq,Nat.reduceBneDiff,binV,eqV,unV,oOpt,true_and,and_true,Value.cells,List.length_cons,List.length_nil,List.append_nil,List.nil_append,List.cons_append,List.drop_succ_cons,List.drop_zero,List.take_succ_cons,List.take_zero,List.take_nil,List.getElem?_cons_zero,List.getElem?_cons_succ,decide_true,decide_false,decide_eq_true_eq,decide_eq_false_iff_not,Bool.false_eq_true,Bool.true_eq_false,Bool.not_true,Bool.not_false,Bool.not_eq_true',Bool.not_eq_false',Bool.not_eq_true,Bool.not_eq_false,false_implies,true_implies,beq_iff_eq,beq_eq_false_iff_ne,bne_iff_ne,bne_eq_false_iff_eq,ne_eq,ge_iff_le,gt_iff_lt,Int.not_lt,Int.not_le,not_true_eq_false,not_false_eq_true,if_true,if_false,z6n,z6o,z6p,z6q,Heap.set_set,z6r,z6s,z6t,z6u,z6v,z6w,List.getElem_cons_zero,List.getElem_cons_succ,List.set_cons_zero,List.set_cons_succ,List.length_set,List.all_cons,List.all_nil,Bool.and_true,Bool.true_and,Bool.and_self,Nat.add_zero,Nat.zero_add,Nat.zero_lt_succ,Int.cast_ofNat_Int,List.size_toArray,List.flatten_replicate_singleton,Nat.mul_one,Nat.le_refl,Nat.lt_irrefl,Nat.le_add_left]
    refine appendP_ow (bytes := 1) (n := 0) (cells := []) (m := l.length) (news := l.map u8V) (Heap.le_set (Heap.le_refl _) hb1 _) (by omega) (Ow.new (Heap.le_refl _) hb1 rfl (by omega) (by omega)) (s.le (Heap.le_set (Heap.le_refl _) hb1 _)) (one_u8 l) (by omega) (by omega) ?_
    intro v' h' ow le'
    rw [Nat.zero_add, List.nil_append] at ow
    simp -implicitDefEqProofs only [z00,z01,z02,z03,z04,z05,z06,z07,z08,z09,z0a,z0b,z0c,z0d,z0e,z0f,z0g,z0h,z0i,z0j,z0k,z0l,z0m,z0n,retO,retL,retV,z0o,z0p,z0q,z0r,z0s,z0t,z0u,z0v,z0w,z0x,z0y,z0z,z10,z11,z12,z13,z14,z15,z16,z17,z18,z19,z1a,z1b,z1c,z1d,z1e,z1f,z1g,z1h,z1i,z1j,z1k,z1l,z1m,z1n,z1o,z1p,z1q,z1r,z1s,z1t,z1u,z1v,z1w,z1x,z1y,z1z,z20,z21,z22,z23,z24,z25,z26,z27,z28,z29,z2a,z2b,z2c,z2d,z2e,z2f,z2g,z2h,z2i,z2j,z2k,z2l,z2m,z2n,z2o,z2p,z2q,z2r,z2s,z2t,z2u,z2v,z2w,z2x,z2y,z2z,z30,z31,z32,z33,z34,z35,z36,z37,z38,z39,z3a,z3b,z3c,z3d,z3e,z3f,z3g,z3h,z3i,z3j,z3k,z3l,z3m,z3n,z3o,z3p,z3q,z3r,z3s,z3t,z3u,z3v,z3w,z3x,z3y,z3z,z40,z41,z42,z43,z44,z45,z46,z47,z48,z49,z4a,z4b,z4c,z4d,z4e,z4f,z4g,z4h,z4i,z4j,z4k,z4l,z4m,z4n,z4o,z4p,z4q,z4r,z4s,z4t,z4u,z4v,z4w,z4x,z4y,z4z,z50,z51,z52,z53,z54,z55,z56,z57,z58,z59,z5a,z5b,z5c,z5d,z5e,z5f,z5g,z5h,z5i,z5j,z5k,z5l,z5m,z5n,z5o,z5p,z5q,z5r,z5s,z5t,z5u,z5v,z5w,z5x,z5y,z5z,z60,z61,z62,z63,z64,z65,z66,z67,z68,z69,allV,allP,z6a,z6b,z6c,z6d,z6e,z6f,z6g,z6h,z6i,z6j,z6k,z6l,z6m,Option.map_some,Option.map_none,Option.some.injEq,reduceIte,reduceCtorEq,Nat.reduceEqDiff,Nat.reduceAdd,Nat.reduceMul,Nat.reduceLT,Nat.reduceSub,Int.reduceLT,Int.reduceLE,Int.reduceEq,Int.reduceNe,Int.reduceSub,Int.reduceAdd,Int.reduceMul,Int.reduceBEq,Int.reduceBNe,Int.reduceGT,Int.reduceGE,Nat.reduceGT,Int.reduceToNat,Int.reduceNeg,Nat.reduceLeDiff,Nat.reduceBEq,Nat.reduceBneDiff,binV,eqV,unV,oOpt,true_and,and_true,Value.cells,List.length_cons,List.length_nil,List.append_nil,List.nil_append,List.cons_append,List.drop_succ_cons,List.drop_zero,List.take_succ_cons,List.take_zero,List.take_nil,List.getElem?_cons_zero,List.getElem?_cons_succ,decide_true,decide_false,decide_eq_true_eq,decide_eq_false_iff_not,Bool.false_eq_true,Bool.true_eq_false,Bool.not_true,Bool.not_false,Bool.not_eq_true',Bool.not_eq_false',Bool.not_eq_true,Bool.not_eq_false,false_implies,true_implies,beq_iff_eq,beq_eq_false_iff_ne,bne_iff_ne,bne_eq_false_iff_eq,ne_eq,ge_iff_le,gt_iff_lt,Int.not_lt,Int.not_le,not_true_eq_false,not_false_eq_true,if_true,if_false,z6n,z6o,z6p,z6q,Heap.set_set,z6r,z6s,z6t,z6u,z6v,z6w,List.getElem_cons_zero,List.getElem_cons_succ,List.set_cons_zero,List.set_cons_succ,List.length_set,List.all_cons,List.all_nil,Bool.and_true,Bool.true_and,Bool.and_self,Nat.add_zero,Nat.zero_add,Nat.zero_lt_succ,Int.cast_ofNat_Int,List.size_toArray,List.flatten_replicate_singleton,Nat.mul_one,Nat.le_refl,Nat.lt_irrefl,Nat.le_add_left]
    exact ⟨le', ow⟩

/-! ### numbers, the highest byte first -/
def fromBigF (l : List UInt8) : U64 := l.foldl (fun v b => v <<< 8 ||| BitVec.ofNat 64 b.toNat) 0
theorem u8_u64' (b : UInt8) : IntKind.u64.wrap (b.toNat : Int) = ((BitVec.ofNat 64 b.toNat).toNat : Int) := u8_u64 b
theorem octet_FromBig_c (E : EnvT tab) (h : Heap) {v : Value} (l : List UInt8) (hl : l.length ≤ 8) (s : SlB h v l) : ACallN E.toEnv n_octet_FromBig [v] h fun r h' => h' = h ∧ r = .tuple #[u64V (fromBigF l), .int .i64 0] := by
  obtain ⟨base, c, rfl⟩ := Sl.shape s
  refine acall h_octet_FromBig ir_octet_FromBig rfl rfl (wpA_sound ?_)
  unfold ir_octet_FromBig
  have g1 : ¬ (8 : Int) < l.length := by omega
  simp -implicitDefEqProofs only [z00,z01,z02,z03,z04,z05,z06,z07,z08,z09,z0a,z0b,z0c,z0d,z0e,z0f,z0g,z0h,z0i,z0j,z0k,z0l,z0m,z0n,retO,retL,retV,z0o,z0p,z0q,z0r,z0s,z0t,z0u,z0v,z0w,z0x,z0y,z0z,z10,z11,z12,z13,z14,z15,z16,z17,z18,z19,z1a,z1b,z1c,z1d,z1e,z1f,z1g,z1h,z1i,z1j,z1k,z1l,z1m,z1n,z1o,z1p,z1q,z1r,z1s,z1t,z1u,z1v,z1w,z1x,z1y,z1z,z20,z21,z22,z23,z24,z25,z26,z27,z28,z29,z2a,z2b,z2c,z2d,z2e,z2f,z2g,z2h,z2i,z2j,z2k,z2l,z2m,z2n,z2o,z2p,z2q,z2r,z2s,z2t,z2u,z2v,z2w,z2x,z2y,z2z,z30,z31,z32,z33,z34,z35,z36,z37,z38,z39,z3a,z3b,z3c,z3d,z3e,z3f,z3g,z3h,z3i,z3j,z3k,z3l,z3m,z3n,z3o,z3p,z3q,z3r,z3s,z3t,z3u,z3v,z3w,z3x,z3y,z3z,z40,z41,z42,z43,z44,z45,z46,z47,z48,z49,z4a,z4b,z4c,z4d,z4e,z4f,z4g,z4h,z4i,z4j,z4k,z4l,z4m,z4n,z4o,z4p,z4q,z4r,z4s,z4t,z4u,z4v,z4w,z4x,z4y,z4z,z50,z51,z52,z53,z54,z55,z56,z57,z58,z59,z5a,z5b,z5c,z5d,z5e,z5f,z5g,z5h,z5i,z5j,z5k,z5l,z5m,z5n,z5o,z5p,z5q,z5r,z5s,z5t,z5u,z5v,z5w,z5x,z5y,z5z,z60,z61,z62,z63,z64,z65,z66,z67,z68,z69,allV,allP,z6a,z6b,z6c,z6d,z6e,z6f,z6g,z6h,z6i,z6j,z6k,z6l,z6m,Option.map_some,Option.map_none,Option.some.injEq,reduceIte,reduceCtorEq,Nat.reduceEqDiff,Nat.reduceAdd,Nat.reduceMul,Nat.reduceLT,Nat.reduceSub,Int.reduceLT,Int.reduceLE,Int.reduceEq,Int.reduceNe,Int.reduceSub,Int.reduceAdd,Int.reduceMul,Int.reduceBEq,Int.reduceBNe,Int.reduceGT,Int.reduceGE,Nat.reduceGT,Int.reduceToNat,Int.reduceNeg,Nat.reduceLeDiff,Nat.reduceBEq,Nat.reduceBneDiff,binV,eqV,unV,oOpt,true_and,and_true,Value.cells,List.length_cons,List.length_nil,List.append_nil,List.nil_append,List.cons_append,List.drop_succ_cons,List.drop_zero,List.take_succ_cons,List.take_zero,List.take_nil,List.getElem?_cons_zero,List.getElem?_cons_succ,decide_true,decide_false,decide_eq_true_eq,decide_eq_false_iff_not,Bool.false_eq_true,Bool.true_eq_false,Bool.not_true,Bool.not_false,Bool.not_eq_true',Bool.not_eq_false',Bool.not_eq_true,Bool.not_eq_false,false_implies,true_implies,beq_iff_eq,beq_eq_false_iff_ne,bne_iff_ne,bne_eq_false_iff_eq,ne_eq,ge_iff_le,gt_iff_lt,Int.not_lt,Int.not_le,not_true_eq_false,not_false_eq_true,if_true,if_false,z6n,z6o,z6p,z6q,Heap.set_set,z6r,z6s,z6t,z6u,z6v,z6w,List.getElem_cons_zero,List.getElem_cons_succ,List.set_cons_zero,List.set_cons_succ,List.length_set,List.all_cons,List.all_nil,Bool.and_true,Bool.true_and,Bool.and_self,Nat.add_zero,Nat.zero_add,Nat.zero_lt_succ,Int.cast_ofNat_Int,List.size_toArray,List.flatten_replicate_singleton,Nat.mul_one,Nat.le_refl,Nat.lt_irrefl,Nat.le_add_left, g1]
  refine wp_loop' (fun m t H => H = h ∧ ∃ (j : Nat), t = tl [(4, .int .u64 (fromBigF (l.take j)).toNat), (10, .slice base l.length c), (11, .int .i64 l.length), (12, .int .i64 j)] ∧ j ≤ l.length ∧ m = l.length - j) l.length
    ⟨rfl, 0, rfl, by omega, by omega⟩ ?_
  rintro m t H ⟨rfl, j, rfl, hj, rfl⟩
  by_cases hlt : j < l.length
  · obtain ⟨b, o, c', hv, hc, hcl⟩ := Sl.byte_at s j hlt
    simp only [Value.slice.injEq, true_and] at hv
    obtain ⟨rfl, rfl⟩ := hv
    have hz := hcl H (Heap.le_refl _)
    unfold u8V at hz
    have e1 : (j : Int) < l.length := by omega
    have e2 : (0 : Int) ≤ j := by omega
    simp -implicitDefEqProofs only [z00,z01,z02,z03,z04,z05,z06,z07,z08,z09,z0a,z0b,z0c,z0d,z0e,z0f,z0g,z0h,z0i,z0j,z0k,z0l,z0m,z0n,retO,retL,retV,z0o,z0p,z0q,z0r,z0s,z0t,z0u,z0v,z0w,z0x,z0y,z0z,z10,z11,z12,z13,z14,z15,z16,z17,z18,z19,z1a,z1b,z1c,z1d,z1e,z1f,z1g,z1h,z1i,z1j,z1k,z1l,z1m,z1n,z1o,z1p,z1q,z1r,z1s,z1t,z1u,z1v,z1w,z1x,z1y,z1z,z20,z21,z22,z23,z24,z25,z26,z27,z28,z29,z2a,z2b,z2c,z2d,z2e,z2f,z2g,z2h,z2i,z2j,z2k,z2l,z2m,z2n,z2o,z2p,z2q,z2r,z2s,z2t,z2u,z2v,z2w,z2x,z2y,z2z,z30,z31,z32,z33,z34,z35,z36,z37,z38,z39,z3a,z3b,z3c,z3d,z3e,z3f,z3g,z3h,z3i,z3j,z3k,z3l,z3m,z3n,z3o,z3p,z3q,z3r,z3s,z3t,z3u,z3v,z3w,z3x,z3y,z3z,z40,z41,z42,z43,z44,z45,z46,z47,z48,z49,z4a,z4b,z4c,z4d,z4e,z4f,z4g,z4h,z4i,z4j,z4k,z4l,z4m,z4n,z4o,z4p,z4q,z4r,z4s,z4t,z4u,z4v,z4w,z4x,z4y,z4z,z50,z51,z52,z53,z54,z55,z56,z57,z58,z59,z5a,z5b,z5c,z5d,z5e,z5f,z5g,z5h,z5i,z5j,z5k,z5l,z5m,z5n,z5o,z5p,z5q,z5r,z5s,z5t,z5u,z5v,z5w,z5x,z5y,z5z,z60,z61,z62,z63,z64,z65,z66,z67,z68,z69,allV,allP,z6a,z6b,z6c,z6d,z6e,z6f,z6g,z6h,z6i,z6j,z6k,z6l,z6m,Option.map_some,Option.map_none,Option.some.injEq,reduceIte,reduceCtorEq,Nat.reduceEqDiff,Nat.reduceAdd,Nat.reduceMul,Nat.reduceLT,Nat.reduceSub,Int.reduceLT,Int.reduceLE,Int.reduceEq,Int.reduceNe,Int.reduceSub,Int.reduceAdd,Int.reduceMul,Int.reduceBEq,Int.reduceBNe,Int.reduceGT,Int.reduceGE,Nat.reduceGT,Int.reduceToNat,Int.reduceNeg,Nat.reduceLeDiff,Nat.reduceBEq,Nat.reduceBneDiff,binV,eqV,unV,oOpt,true_and,and_true,Value.cells,List.length_cons,List.length_nil,List.append_nil,List.nil_append,List.cons_append,List.drop_succ_cons,List.drop_zero,List.take_succ_cons,List.take_zero,List.take_nil,List.getElem?_cons_zero,List.getElem?_cons_succ,decide_true,decide_false,decide_eq_true_eq,decide_eq_false_iff_not,Bool.false_eq_true,Bool.true_eq_false,Bool.not_true,Bool.not_false,Bool.not_eq_true',Bool.not_eq_false',Bool.not_eq_true,Bool.not_eq_false,false_implies,true_implies,beq_iff_eq,beq_eq_false_iff_ne,bne_iff_ne,bne_eq_false_iff_eq,ne_eq,ge_iff_le,gt_iff_lt,Int.not_lt,Int.not_le,not_true_eq_false,not_false_eq_true,if_true,if_false,z6n,z6o,z6p,z6q,Heap.set_set,z6r,z6s,z6t,z6u,z6v,z6w,List.getElem_cons_zero,List.getElem_cons_succ,List.set_cons_zero,List.set_cons_succ,List.length_set,List.all_cons,List.all_nil,Bool.and_true,Bool.true_and,Bool.and_self,Nat.add_zero,Nat.zero_add,Nat.zero_lt_succ,Int.cast_ofNat_Int,List.size_toArray,List.flatten_replicate_singleton,Nat.mul_one,Nat.le_refl,Nat.lt_irrefl,Nat.le_add_left, e1, e2, hz, Int.toNat_natCast, u64_shl, u8_u64, u64_or, wrapN (n := j) (by omega)]
    refine ⟨_, ?_, j + 1, ?_, hlt, rfl⟩
    · omega
    · rw [List.take_succ_eq_append_getElem hlt]
      simp only [fromBigF, List.foldl_append, List.foldl_cons, List.foldl_nil]
  · have e1 : ¬ (j : Int) < l.length := by omega
    have : j = l.length := by omega
    subst this
    rw [List.take_length]
    simp -implicitDefEqProofs only [z00,z01,z02,z03,z04,z05,z06,z07,z08,z09,z0a,z0b,z0c,z0d,z0e,z0f,z0g,z0h,z0i,z0j,z0k,z0l,z0m,z0n,retO,retL,retV,z0o,z0p,z0q,z0r,z0s,z0t,z0u,z0v,z0w,z0x,z0y,z0z,z10,z11,z12,z13,z14,z15,z16,z17,z18,z19,z1a,z1b,z1c,z1d,z1e,z1f,z1g,z1h,z1i,z1j,z1k,z1l,z1m,z1n,z1o,z1p,z1q,z1r,z1s,z1t,z1u,z1v,z1w,z1x,z1y,z1z,z20,z21,z22,z23,z24,z25,z26,z27,z28,z29,z2a,z2b,z2c,z2d,z2e,z2f,z2g,z2h,z2i,z2j,z2k,z2l,z2m,z2n,z2o,z2p,z2q,z2r,z2s,z2t,z2u,z2v,z2w,z2x,z2y,z2z,z30,z31,z32,z33,z34,z35,z36,z37,z38,z39,z3a,z3b,z3c,z3d,z3e,z3f,z3g,z3h,z3i,z3j,z3k,z3l,z3m,z3n,z3o,z3p,z3q,z3r,z3s,z3t,z3u,z3v,z3w,z3x,z3y,z3z,z40,z41,z42,z43,z44,z45,z46,z47,z48,z49,z4a,z4b,z4c,z4d,z4e,z4f,z4g,z4h,z4i,z4j,z4k,z4l,z4m,z4n,z4o,z4p,z4q,z4r,z4s,z4t,z4u,z4v,z4w,z4x,z4y,z4z,z50,z51,z52,z53,z54,z55,z56,z57,z58,z59,z5a,z5b,z5c,z5d,z5e,z5f,z5g,z5h,z5i,z5j,z5k,z5l,z5m,z5n,z5o,z5p,z5q,z5r,z5s,z5t,z5u,z5v,z5w,z5x,z5y,z5z,z60,z61,z62,z63,z64,z65,z66,z67,z68,z69,allV,allP,z6a,z6b,z6c,z6d,z6e,z6f,z6g,z6h,z6i,z6j,z6k,z6l,z6m,Option.map_some,Option.map_none,Option.some.injEq,reduceIte,reduceCtorEq,Nat.reduceEqDiff,Nat.reduceAdd,Nat.reduceMul,Nat.reduceLT,Nat.reduceSub,Int.reduceLT,Int.reduceLE,Int.reduceEq,Int.reduceNe,Int.reduceSub,Int.reduceAdd,Int.reduceMul,Int.reduceBEq,Int.reduceBNe,Int.reduceGT,Int.reduceGE,Nat.reduceGT,Int.reduceToNat,Int.reduceNeg,Nat.reduceLeDiff,Nat.reduceBEq,Nat.reduceBneDiff,binV,eqV,unV,oOpt,true_and,and_true,Value.cells,List.length_cons,List.length_nil,List.append_nil,List.nil_append,List.cons_append,List.drop_succ_cons,List.drop_zero,List.take_succ_cons,List.take_zero,List.take_nil,List.getElem?_cons_zero,List.getElem?_cons_succ,decide_true,decide_false,decide_eq_true_eq,decide_eq_false_iff_not,Bool.false_eq_true,Bool.true_eq_false,Bool.not_true,Bool.not_false,Bool.not_eq_true',Bool.not_eq_false',Bool.not_eq_true,Bool.not_eq_false,false_implies,true_implies,beq_iff_eq,beq_eq_false_iff_ne,bne_iff_ne,bne_eq_false_iff_eq,ne_eq,ge_iff_le,gt_iff_lt,Int.not_lt,Int.not_le,not_true_eq_false,not_false_eq_true,if_true,if_false,z6n,z6o,z6p,z6q,Heap.set_set,z6r,z6s,z6t,z6u,z6v,z6w,List.getElem_cons_zero,List.getElem_cons_succ,List.set_cons_zero,List.set_cons_succ,List.length_set,List.all_cons,List.all_nil,Bool.and_true,Bool.true_and,Bool.and_self,Nat.add_zero,Nat.zero_add,Nat.zero_lt_succ,Int.cast_ofNat_Int,List.size_toArray,List.flatten_replicate_singleton,Nat.mul_one,Nat.le_refl,Nat.lt_irrefl,Nat.le_add_left, e1]
    rfl

/-- A number's bytes, the highest first. -/
def bigF (v : U64) (n : Nat) : List UInt8 := (List.range n).reverse.map fun i => UInt8.ofNat (v >>> (8 * i)).toNat
theorem bigF_len (v : U64) (n : Nat) : (bigF v n).length = n := by simp [bigF]
theorem bigF_succ (v : U64) (n : Nat) : bigF v (n + 1) = UInt8.ofNat (v >>> (8 * n)).toNat :: bigF v n := by simp [bigF, List.range_succ]
theorem octet_Big_c (E : EnvT tab) (h : Heap) {b : Value} (l : List UInt8) (hl : l.length ≤ 140737488355000) (s : SlB h b l) (v : U64) (n : Nat) (hn : n ≤ 8) : ACallN E.toEnv n_octet_Big [b, .int .u64 v.toNat, .int .i64 n] h fun r h' => h.le h' ∧ OwB h h' r (l ++ bigF v n) := by
  refine acall h_octet_Big ir_octet_Big rfl rfl (wpA_sound ?_)
  unfold ir_octet_Big
  simp -implicitDefEqProofs only [z00,z01,z02,z03,z04,z05,z06,z07,z08,z09,z0a,z0b,z0c,z0d,z0e,z0f,z0g,z0h,z0i,z0j,z0k,z0l,z0m,z0n,retO,retL,retV,z0o,z0p,z0q,z0r,z0s,z0t,z0u,z0v,z0w,z0x,z0y,z0z,z10,z11,z12,z13,z14,z15,z16,z17,z18,z19,z1a,z1b,z1c,z1d,z1e,z1f,z1g,z1h,z1i,z1j,z1k,z1l,z1m,z1n,z1o,z1p,z1q,z1r,z1s,z1t,z1u,z1v,z1w,z1x,z1y,z1z,z20,z21,z22,z23,z24,z25,z26,z27,z28,z29,z2a,z2b,z2c,z2d,z2e,z2f,z2g,z2h,z2i,z2j,z2k,z2l,z2m,z2n,z2o,z2p,z2q,z2r,z2s,z2t,z2u,z2v,z2w,z2x,z2y,z2z,z30,z31,z32,z33,z34,z35,z36,z37,z38,z39,z3a,z3b,z3c,z3d,z3e,z3f,z3g,z3h,z3i,z3j,z3k,z3l,z3m,z3n,z3o,z3p,z3q,z3r,z3s,z3t,z3u,z3v,z3w,z3x,z3y,z3z,z40,z41,z42,z43,z44,z45,z46,z47,z48,z49,z4a,z4b,z4c,z4d,z4e,z4f,z4g,z4h,z4i,z4j,z4k,z4l,z4m,z4n,z4o,z4p,z4q,z4r,z4s,z4t,z4u,z4v,z4w,z4x,z4y,z4z,z50,z51,z52,z53,z54,z55,z56,z57,z58,z59,z5a,z5b,z5c,z5d,z5e,z5f,z5g,z5h,z5i,z5j,z5k,z5l,z5m,z5n,z5o,z5p,z5q,z5r,z5s,z5t,z5u,z5v,z5w,z5x,z5y,z5z,z60,z61,z62,z63,z64,z65,z66,z67,z68,z69,allV,allP,z6a,z6b,z6c,z6d,z6e,z6f,z6g,z6h,z6i,z6j,z6k,z6l,z6m,Option.map_some,Option.map_none,Option.some.injEq,reduceIte,reduceCtorEq,Nat.reduceEqDiff,Nat.reduceAdd,Nat.reduceMul,Nat.reduceLT,Nat.reduceSub,Int.reduceLT,Int.reduceLE,Int.reduceEq,Int.reduceNe,Int.reduceSub,Int.reduceAdd,Int.reduceMul,Int.reduceBEq,Int.reduceBNe,Int.reduceGT,Int.reduceGE,Nat.reduceGT,Int.reduceToNat,Int.reduceNeg,Nat.reduceLeDiff,Nat.reduceBEq,Nat.reduceBneDiff,binV,eqV,unV,oOpt,true_and,and_true,Value.cells,List.length_cons,List.length_nil,List.append_nil,List.nil_append,List.cons_append,List.drop_succ_cons,List.drop_zero,List.take_succ_cons,List.take_zero,List.take_nil,List.getElem?_cons_zero,List.getElem?_cons_succ,decide_true,decide_false,decide_eq_true_eq,decide_eq_false_iff_not,Bool.false_eq_true,Bool.true_eq_false,Bool.not_true,Bool.not_false,Bool.not_eq_true',Bool.not_eq_false',Bool.not_eq_true,Bool.not_eq_false,false_implies,true_implies,beq_iff_eq,beq_eq_false_iff_ne,bne_iff_ne,bne_eq_false_iff_eq,ne_eq,ge_iff_le,gt_iff_lt,Int.not_lt,Int.not_le,not_true_eq_false,not_false_eq_true,if_true,if_false,z6n,z6o,z6p,z6q,Heap.set_set,z6r,z6s,z6t,z6u,z6v,z6w,List.getElem_cons_zero,List.getElem_cons_succ,List.set_cons_zero,List.set_cons_succ,List.length_set,List.all_cons,List.all_nil,Bool.and_true,Bool.true_and,Bool.and_self,Nat.add_zero,Nat.zero_add,Nat.zero_lt_succ,Int.cast_ofNat_Int,List.size_toArray,List.flatten_replicate_singleton,Nat.mul_one,Nat.le_refl,Nat.lt_irrefl,Nat.le_add_left]
  refine (Clone_c E h l (by omega) s).mono ?_
  rintro r h1 ⟨le1, ow⟩
  have g1 : ¬ (8 : Int) < n := by omega
  have g2 : ¬ (n : Int) < 0 := by omega
  have w0 : IntKind.i64.wrap ((n : Int) - 1) = (n : Int) - 1 := wrapI (by omega) (by omega)
  simp -implicitDefEqProofs only [z00,z01,z02,z03,z04,z05,z06,z07,z08,z09,z0a,z0b,z0c,z0d,z0e,z0f,z0g,z0h,z0i,z0j,z0k,z0l,z0m,z0n,retO,retL,retV,z0o,z0p,z0q,z0r,z0s,z0t,z0u,z0v,z0w,z0x,z0y,z0z,z10,z11,z12,z13,z14,z15,z16,z17,z18,z19,z1a,z1b,z1c,z1d,z1e,z1f,z1g,z1h,z1i,z1j,z1k,z1l,z1m,z1n,z1o,z1p,z1q,z1r,z1s,z1t,z1u,z1v,z1w,z1x,z1y,z1z,z20,z21,z22,z23,z24,z25,z26,z27,z28,z29,z2a,z2b,z2c,z2d,z2e,z2f,z2g,z2h,z2i,z2j,z2k,z2l,z2m,z2n,z2o,z2p,z2q,z2r,z2s,z2t,z2u,z2v,z2w,z2x,z2y,z2z,z30,z31,z32,z33,z34,z35,z36,z37,z38,z39,z3a,z3b,z3c,z3d,z3e,z3f,z3g,z3h,z3i,z3j,z3k,z3l,z3m,z3n,z3o,z3p,z3q,z3r,z3s,z3t,z3u,z3v,z3w,z3x,z3y,z3z,z40,z41,z42,z43,z44,z45,z46,z47,z48,z49,z4a,z4b,z4c,z4d,z4e,z4f,z4g,z4h,z4i,z4j,z4k,z4l,z4m,z4n,z4o,z4p,z4q,z4r,z4s,z4t,z4u,z4v,z4w,z4x,z4y,z4z,z50,z51,z52,z53,z54,z55,z56,z57,z58,z59,z5a,z5b,z5c,z5d,z5e,z5f,z5g,z5h,z5i,z5j,z5k,z5l,z5m,z5n,z5o,z5p,z5q,z5r,z5s,z5t,z5u,z5v,z5w,z5x,z5y,z5z,z60,z61,z62,z63,z64,z65,z66,z67,z68,z69,allV,allP,z6a,z6b,z6c,z6d,z6e,z6f,z6g,z6h,z6i,z6j,z6k,z6l,z6m,Option.map_some,Option.map_none,Option.some.injEq,reduceIte,reduceCtorEq,Nat.reduceEqDiff,Nat.reduceAdd,Nat.reduceMul,Nat.reduceLT,Nat.reduceSub,Int.reduceLT,Int.reduceLE,Int.reduceEq,Int.reduceNe,Int.reduceSub,Int.reduceAdd,Int.reduceMul,Int.reduceBEq,Int.reduceBNe,Int.reduceGT,Int.reduceGE,Nat.reduceGT,Int.reduceToNat,Int.reduceNeg,Nat.reduceLeDiff,Nat.reduceBEq,Nat.reduceBneDiff,binV,eqV,unV,oOpt,true_and,and_true,Value.cells,List.length_cons,List.length_nil,List.append_nil,List.nil_append,List.cons_append,List.drop_succ_cons,List.drop_zero,List.take_succ_cons,List.take_zero,List.take_nil,List.getElem?_cons_zero,List.getElem?_cons_succ,decide_true,decide_false,decide_eq_true_eq,decide_eq_false_iff_not,Bool.false_eq_true,Bool.true_eq_false,Bool.not_true,Bool.not_false,Bool.not_eq_true',Bool.not_eq_false',Bool.not_eq_true,Bool.not_eq_false,false_implies,true_implies,beq_iff_eq,beq_eq_false_iff_ne,bne_iff_ne,bne_eq_false_iff_eq,ne_eq,ge_iff_le,gt_iff_lt,Int.not_lt,Int.not_le,not_true_eq_false,not_false_eq_true,if_true,if_false,z6n,z6o,z6p,z6q,Heap.set_set,z6r,z6s,z6t,z6u,z6v,z6w,List.getElem_cons_zero,List.getElem_cons_succ,List.set_cons_zero,List.set_cons_succ,List.length_set,List.all_cons,List.all_nil,Bool.and_true,Bool.true_and,Bool.and_self,Nat.add_zero,Nat.zero_add,Nat.zero_lt_succ,Int.cast_ofNat_Int,List.size_toArray,List.flatten_replicate_singleton,Nat.mul_one,Nat.le_refl,Nat.lt_irrefl,Nat.le_add_left, g1, g2, w0]
  refine wp_loop' (fun m t H => h.le H ∧ ∃ (j : Nat) (v7 : Value), t = tl [(1, .int .u64 v.toNat), (7, v7), (8, .int .i64 ((j : Int) - 1))] ∧ j ≤ n ∧ m = j ∧ ∃ l', OwB h H v7 l' ∧ l' ++ bigF v j = l ++ bigF v n) n
    ⟨le1, n, _, rfl, by omega, rfl, l, ow, rfl⟩ ?_
  rintro m t H ⟨leH, j, v7, rfl, hj, rfl, l', ow', hl'⟩
  cases m with
  | zero =>
    simp -implicitDefEqProofs only [z00,z01,z02,z03,z04,z05,z06,z07,z08,z09,z0a,z0b,z0c,z0d,z0e,z0f,z0g,z0h,z0i,z0j,z0k,z0l,z0m,z0n,retO,retL,retV,z0o,z0p,z0q,z0r,z0s,z0t,z0u,z0v,z0w,z0x,z0y,z0z,z10,z11,z12,z13,z14,z15,z16,z17,z18,z19,z1a,z1b,z1c,z1d,z1e,z1f,z1g,z1h,z1i,z1j,z1k,z1l,z1m,z1n,z1o,z1p,z1q,z1r,z1s,z1t,z1u,z1v,z1w,z1x,z1y,z1z,z20,z21,z22,z23,z24,z25,z26,z27,z28,z29,z2a,z2b,z2c,z2d,z2e,z2f,z2g,z2h,z2i,z2j,z2k,z2l,z2m,z2n,z2o,z2p,z2q,z2r,z2s,z2t,z2u,z2v,z2w,z2x,z2y,z2z,z30,z31,z32,z33,z34,z35,z36,z37,z38,z39,z3a,z3b,z3c,z3d,z3e,z3f,z3g,z3h,z3i,z3j,z3k,z3l,z3m,z3n,z3o,z3p,z3q,z3r,z3s,z3t,z3u,z3v,z3w,z3x,z3y,z3z,z40,z41,z42,z43,z44,z45,z46,z47,z48,z49,z4a,z4b,z4c,z4d,z4e,z4f,z4g,z4h,z4i,z4j,z4k,z4l,z4m,z4n,z4o,z4p,z4q,z4r,z4s,z4t,z4u,z4v,z4w,z4x,z4y,z4z,z50,z51,z52,z53,z54,z55,z56,z57,z58,z59,z5a,z5b,z5c,z5d,z5e,z5f,z5g,z5h,z5i,z5j,z5k,z5l,z5m,z5n,z5o,z5p,z5q,z5r,z5s,z5t,z5u,z5v,z5w,z5x,z5y,z5z,z60,z61,z62,z63,z64,z65,z66,z67,z68,z69,allV,allP,z6a,z6b,z6c,z6d,z6e,z6f,z6g,z6h,z6i,z6j,z6k,z6l,z6m,Option.map_some,Option.map_none,Option.some.injEq,reduceIte,reduceCtorEq,Nat.reduceEqDiff,Nat.reduceAdd,Nat.reduceMul,Nat.reduceLT,Nat.reduceSub,Int.reduceLT,Int.reduceLE,Int.reduceEq,Int.reduceNe,Int.reduceSub,Int.reduceAdd,Int.reduceMul,Int.reduceBEq,Int.reduceBNe,Int.reduceGT,Int.reduceGE,Nat.reduceGT,Int.reduceToNat,Int.reduceNeg,Nat.reduceLeDiff,Nat.reduceBEq,Nat.reduceBneDiff,binV,eqV,unV,oOpt,true_and,and_true,Value.cells,List.length_cons,List.length_nil,List.append_nil,List.nil_append,List.cons_append,List.drop_succ_cons,List.drop_zero,List.take_succ_cons,List.take_zero,List.take_nil,List.getElem?_cons_zero,List.getElem?_cons_succ,decide_true,decide_false,decide_eq_true_eq,decide_eq_false_iff_not,Bool.false_eq_true,Bool.true_eq_false,Bool.not_true,Bool.not_false,Bool.not_eq_true',Bool.not_eq_false',Bool.not_eq_true,Bool.not_eq_false,false_implies,true_implies,beq_iff_eq,beq_eq_false_iff_ne,bne_iff_ne,bne_eq_false_iff_eq,ne_eq,ge_iff_le,gt_iff_lt,Int.not_lt,Int.not_le,not_true_eq_false,not_false_eq_true,if_true,if_false,z6n,z6o,z6p,z6q,Heap.set_set,z6r,z6s,z6t,z6u,z6v,z6w,List.getElem_cons_zero,List.getElem_cons_succ,List.set_cons_zero,List.set_cons_succ,List.length_set,List.all_cons,List.all_nil,Bool.and_true,Bool.true_and,Bool.and_self,Nat.add_zero,Nat.zero_add,Nat.zero_lt_succ,Int.cast_ofNat_Int,List.size_toArray,List.flatten_replicate_singleton,Nat.mul_one,Nat.le_refl,Nat.lt_irrefl,Nat.le_add_left]
    have : l' = l ++ bigF v n := by rw [← hl']; simp [bigF]
    rw [← this]
    exact ⟨leH, ow'⟩
  | succ j =>
    have e1 : (((j + 1 : Nat) : Int) - 1) = (j : Int) := by omega
    have e2 : (0 : Int) ≤ j := by omega
    have w1 : IntKind.i64.wrap (8 * (j : Int)) = ((8 * j : Nat) : Int) := by rw [wrapI (by omega) (by omega)]; omega
    have w2 : IntKind.i64.wrap ((j : Int) - 1) = (j : Int) - 1 := wrapI (by omega) (by omega)
    have n1 : ¬ (((8 * j : Nat) : Int) < 0) := by omega
    have sh : ((v.toNat : Int).fdiv (2 ^ (min (8 * j) IntKind.u64.bits))) = ((v >>> (8 * j)).toNat : Int) := u64_shr v (8 * j) (by omega)
    rw [e1]
    have hlen : l'.length ≤ l.length + 8 := by
      have := congrArg List.length hl'
      simp only [List.length_append, bigF_len] at this
      omega
    simp -implicitDefEqProofs only [z00,z01,z02,z03,z04,z05,z06,z07,z08,z09,z0a,z0b,z0c,z0d,z0e,z0f,z0g,z0h,z0i,z0j,z0k,z0l,z0m,z0n,retO,retL,retV,z0o,z0p,z0q,z0r,z0s,z0t,z0u,z0v,z0w,z0x,z0y,z0z,z10,z11,z12,z13,z14,z15,z16,z17,z18,z19,z1a,z1b,z1c,z1d,z1e,z1f,z1g,z1h,z1i,z1j,z1k,z1l,z1m,z1n,z1o,z1p,z1q,z1r,z1s,z1t,z1u,z1v,z1w,z1x,z1y,z1z,z20,z21,z22,z23,z24,z25,z26,z27,z28,z29,z2a,z2b,z2c,z2d,z2e,z2f,z2g,z2h,z2i,z2j,z2k,z2l,z2m,z2n,z2o,z2p,z2q,z2r,z2s,z2t,z2u,z2v,z2w,z2x,z2y,z2z,z30,z31,z32,z33,z34,z35,z36,z37,z38,z39,z3a,z3b,z3c,z3d,z3e,z3f,z3g,z3h,z3i,z3j,z3k,z3l,z3m,z3n,z3o,z3p,z3q,z3r,z3s,z3t,z3u,z3v,z3w,z3x,z3y,z3z,z40,z41,z42,z43,z44,z45,z46,z47,z48,z49,z4a,z4b,z4c,z4d,z4e,z4f,z4g,z4h,z4i,z4j,z4k,z4l,z4m,z4n,z4o,z4p,z4q,z4r,z4s,z4t,z4u,z4v,z4w,z4x,z4y,z4z,z50,z51,z52,z53,z54,z55,z56,z57,z58,z59,z5a,z5b,z5c,z5d,z5e,z5f,z5g,z5h,z5i,z5j,z5k,z5l,z5m,z5n,z5o,z5p,z5q,z5r,z5s,z5t,z5u,z5v,z5w,z5x,z5y,z5z,z60,z61,z62,z63,z64,z65,z66,z67,z68,z69,allV,allP,z6a,z6b,z6c,z6d,z6e,z6f,z6g,z6h,z6i,z6j,z6k,z6l,z6m,Option.map_some,Option.map_none,Option.some.injEq,reduceIte,reduceCtorEq,Nat.reduceEqDiff,Nat.reduceAdd,Nat.reduceMul,Nat.reduceLT,Nat.reduceSub,Int.reduceLT,Int.reduceLE,Int.reduceEq,Int.reduceNe,Int.reduceSub,Int.reduceAdd,Int.reduceMul,Int.reduceBEq,Int.reduceBNe,Int.reduceGT,Int.reduceGE,Nat.reduceGT,Int.reduceToNat,Int.reduceNeg,Nat.reduceLeDiff,Nat.reduceBEq,Nat.reduceBneDiff,binV,eqV,unV,oOpt,true_and,and_true,Value.cells,List.length_cons,List.length_nil,List.append_nil,List.nil_append,List.cons_append,List.drop_succ_cons,List.drop_zero,List.take_succ_cons,List.take_zero,List.take_nil,List.getElem?_cons_zero,List.getElem?_cons_succ,decide_true,decide_false,decide_eq_true_eq,decide_eq_false_iff_not,Bool.false_eq_true,Bool.true_eq_false,Bool.not_true,Bool.not_false,Bool.not_eq_true',Bool.not_eq_false',Bool.not_eq_true,Bool.not_eq_false,false_implies,true_implies,beq_iff_eq,beq_eq_false_iff_ne,bne_iff_ne,bne_eq_false_iff_eq,ne_eq,ge_iff_le,gt_iff_lt,Int.not_lt,Int.not_le,not_true_eq_false,not_false_eq_true,if_true,if_false,z6n,z6o,z6p,z6q,Heap.set_set,z6r,z6s,z6t,z6u,z6v,z6w,List.getElem_cons_zero,List.getElem_cons_succ,List.set_cons_zero,List.set_cons_succ,List.length_set,List.all_cons,List.all_nil,Bool.and_true,Bool.true_and,Bool.and_self,Nat.add_zero,Nat.zero_add,Nat.zero_lt_succ,Int.cast_ofNat_Int,List.size_toArray,List.flatten_replicate_singleton,Nat.mul_one,Nat.le_refl,Nat.lt_irrefl,Nat.le_add_left, e2, w1, n1, Int.toNat_natCast, sh, u64_u8]
    intro b1 hb1
    try simp -implicitDefEqProofs only [z00,z01,z02,z03,z04,z05,z06,z07,z08,z09,z0a,z0b,z0c,z0d,z0e,z0f,z0g,z0h,z0i,z0j,z0k,z0l,z0m,z0n,retO,retL,retV,z0o,z0p,z0q,z0r,z0s,z0t,z0u,z0v,z0w,z0x,z0y,z0z,z10,z11,z12,z13,z14,z15,z16,z17,z18,z19,z1a,z1b,z1c,z1d,z1e,z1f,z1g,z1h,z1i,z1j,z1k,z1l,z1m,z1n,z1o,z1p,z1q,z1r,z1s,z1t,z1u,z1v,z1w,z1x,z1y,z1z,z20,z21,z22,z23,z24,z25,z26,z27,z28,z29,z2a,z2b,z2c,z2d,z2e,z2f,z2g,z2h,z2i,z2j,z2k,z2l,z2m,z2n,z2o,z2p,z2q,z2r,z2s,z2t,z2u,z2v,z2w,z2x,z2y,z2z,z30,z31,z32,z33,z34,z35,z36,z37,z38,z39,z3a,z3b,z3c,z3d,z3e,z3f,z3g,z3h,z3i,z3j,z3k,z3l,z3m,z3n,z3o,z3p,z3q,z3r,z3s,z3t,z3u,z3v,z3w,z3x,z3y,z3z,z40,z41,z42,z43,z44,z45,z46,z47,z48,z49,z4a,z4b,z4c,z4d,z4e,z4f,z4g,z4h,z4i,z4j,z4k,z4l,z4m,z4n,z4o,z4p,z4q,z4r,z4s,z4t,z4u,z4v,z4w,z4x,z4y,z4z,z50,z51,z52,z53,z54,z55,z56,z57,z58,z59,z5a,z5b,z5c,z5d,z5e,z5f,z5g,z5h,z5i,z5j,z5k,z5l,z5m,z5n,z5o,z5p,z5q,z5r,z5s,z5t,z5u,z5v,z5w,z5x,z5y,z5z,z60,z61,z62,z63,z64,z65,z66,z67,z68,z69,allV,allP,z6a,z6b,z6c,z6d,z6e,z6f,z6g,z6h,z6i,z6j,z6k,z6l,z6m,Option.map_some,Option.map_none,Option.some.injEq,reduceIte,reduceCtorEq,Nat.reduceEqDiff,Nat.reduceAdd,Nat.reduceMul,Nat.reduceLT,Nat.reduceSub,Int.reduceLT,Int.reduceLE,Int.reduceEq,Int.reduceNe,Int.reduceSub,Int.reduceAdd,Int.reduceMul,Int.reduceBEq,Int.reduceBNe,Int.reduceGT,Int.reduceGE,Nat.reduceGT,Int.reduceToNat,Int.reduceNeg,Nat.reduceLeDiff,Nat.reduceBEq,Nat.reduceBneDiff,binV,eqV,unV,oOpt,true_and,and_true,Value.cells,List.length_cons,List.length_nil,List.append_nil,List.nil_append,List.cons_append,List.drop_succ_cons,List.drop_zero,List.take_succ_cons,List.take_zero,List.take_nil,List.getElem?_cons_zero,List.getElem?_cons_succ,decide_true,decide_false,decide_eq_true_eq,decide_eq_false_iff_not,Bool.false_eq_true,Bool.true_eq_false,Bool.not_true,Bool.not_false,Bool.not_eq_true',Bool.not_eq_false',Bool.not_eq_true,Bool.not_eq_false,false_implies,true_implies,beq_iff_eq,beq_eq_false_iff_ne,bne_iff_ne,bne_eq_false_iff_eq,ne_eq,ge_iff_le,gt_iff_lt,Int.not_lt,Int.not_le,not_true_eq_false,not_false_eq_true,if_true,if_false,z6n,z6o,z6p,z6q,Heap.set_set,z6r,z6s,z6t,z6u,z6v,z6w,List.getElem_cons_zero,List.getElem_cons_succ,List.set_cons_zero,List.set_cons_succ,List.length_set,List.all_cons,List.all_nil,Bool.and_true,Bool.true_and,Bool.and_self,Nat.add_zero,Nat.zero_add,Nat.zero_lt_succ,Int.cast_ofNat_Int,List.size_toArray,List.flatten_replicate_singleton,Nat.mul_one,Nat.le_refl,Nat.lt_irrefl,Nat.le_add_left]
    refine appendP_ow (bytes := 1) (m := 1) (news := [u8V (UInt8.ofNat (v >>> (8 * j)).toNat)]) (Heap.le_new leH hb1 _) (by omega) (ow'.le (Heap.le_set (Heap.le_refl _) hb1 _)) (Sl.lit (n := 1) rfl) rfl (by omega) (by omega) ?_
    intro v3 H3 ow3 le3
    simp -implicitDefEqProofs only [z00,z01,z02,z03,z04,z05,z06,z07,z08,z09,z0a,z0b,z0c,z0d,z0e,z0f,z0g,z0h,z0i,z0j,z0k,z0l,z0m,z0n,retO,retL,retV,z0o,z0p,z0q,z0r,z0s,z0t,z0u,z0v,z0w,z0x,z0y,z0z,z10,z11,z12,z13,z14,z15,z16,z17,z18,z19,z1a,z1b,z1c,z1d,z1e,z1f,z1g,z1h,z1i,z1j,z1k,z1l,z1m,z1n,z1o,z1p,z1q,z1r,z1s,z1t,z1u,z1v,z1w,z1x,z1y,z1z,z20,z21,z22,z23,z24,z25,z26,z27,z28,z29,z2a,z2b,z2c,z2d,z2e,z2f,z2g,z2h,z2i,z2j,z2k,z2l,z2m,z2n,z2o,z2p,z2q,z2r,z2s,z2t,z2u,z2v,z2w,z2x,z2y,z2z,z30,z31,z32,z33,z34,z35,z36,z37,z38,z39,z3a,z3b,z3c,z3d,z3e,z3f,z3g,z3h,z3i,z3j,z3k,z3l,z3m,z3n,z3o,z3p,z3q,z3r,z3s,z3t,z3u,z3v,z3w,z3x,z3y,z3z,z40,z41,z42,z43,z44,z45,z46,z47,z48,z49,z4a,z4b,z4c,z4d,z4e,z4f,z4g,z4h,z4i,z4j,z4k,z4l,z4m,z4n,z4o,z4p,z4q,z4r,z4s,z4t,z4u,z4v,z4w,z4x,z4y,z4z,z50,z51,z52,z53,z54,z55,z56,z57,z58,z59,z5a,z5b,z5c,z5d,z5e,z5f,z5g,z5h,z5i,z5j,z5k,z5l,z5m,z5n,z5o,z5p,z5q,z5r,z5s,z5t,z5u,z5v,z5w,z5x,z5y,z5z,z60,z61,z62,z63,z64,z65,z66,z67,z68,z69,allV,allP,z6a,z6b,z6c,z6d,z6e,z6f,z6g,z6h,z6i,z6j,z6k,z6l,z6m,Option.map_some,Option.map_none,Option.some.injEq,reduceIte,reduceCtorEq,Nat.reduceEqDiff,Nat.reduceAdd,Nat.reduceMul,Nat.reduceLT,Nat.reduceSub,Int.reduceLT,Int.reduceLE,Int.reduceEq,Int.reduceNe,Int.reduceSub,Int.reduceAdd,Int.reduceMul,Int.reduceBEq,Int.reduceBNe,Int.reduceGT,Int.reduceGE,Nat.reduceGT,Int.reduceToNat,Int.reduceNeg,Nat.reduceLeDiff,Nat.reduceBEq,Nat.reduceBneDiff,binV,eqV,unV,oOpt,true_and,and_true,Value.cells,List.length_cons,List.length_nil,List.append_nil,List.nil_append,List.cons_append,List.drop_succ_cons,List.drop_zero,List.take_succ_cons,List.take_zero,List.take_nil,List.getElem?_cons_zero,List.getElem?_cons_succ,decide_true,decide_false,decide_eq_true_eq,decide_eq_false_iff_not,Bool.false_eq_true,Bool.true_eq_false,Bool.not_true,Bool.not_false,Bool.not_eq_true',Bool.not_eq_false',Bool.not_eq_true,Bool.not_eq_false,false_implies,true_implies,beq_iff_eq,beq_eq_false_iff_ne,bne_iff_ne,bne_eq_false_iff_eq,ne_eq,ge_iff_le,gt_iff_lt,Int.not_lt,Int.not_le,not_true_eq_false,not_false_eq_true,if_true,if_false,z6n,z6o,z6p,z6q,Heap.set_set,z6r,z6s,z6t,z6u,z6v,z6w,List.getElem_cons_zero,List.getElem_cons_succ,List.set_cons_zero,List.set_cons_succ,List.length_set,List.all_cons,List.all_nil,Bool.and_true,Bool.true_and,Bool.and_self,Nat.add_zero,Nat.zero_add,Nat.zero_lt_succ,Int.cast_ofNat_Int,List.size_toArray,List.flatten_replicate_singleton,Nat.mul_one,Nat.le_refl,Nat.lt_irrefl,Nat.le_add_left, w2]
    refine ⟨j, by omega, le3, j, v3, rfl, by omega, rfl, l' ++ [UInt8.ofNat (v >>> (8 * j)).toNat], by simpa [OwB] using ow3, ?_⟩
    rw [← hl', bigF_succ]; simp
end Go.Bb
/- Sums of bytes, in plain words. -/
namespace Go.Bb
set_option linter.unusedSimpArgs false
set_option linter.unusedVariables false

/-! ### rows of words, as functions of the place -/
def rowU (f : Nat → U32) (n : Nat) : List Value := (List.range n).map fun j => .int .u32 (f j).toNat
theorem rowU_len (f : Nat → U32) (n : Nat) : (rowU f n).length = n := by simp [rowU]
theorem rowU_get (f : Nat → U32) {n j : Nat} (h : j < (rowU f n).length) : (rowU f n)[j] = .int .u32 (f j).toNat := by simp [rowU]
def updU (f : Nat → U32) (i : Nat) (z : U32) : Nat → U32 := fun j => if j = i then z else f j
theorem rowU_set (f : Nat → U32) (n i : Nat) (z : U32) : (rowU f n).set i (.int .u32 z.toNat) = rowU (updU f i z) n := by
  apply List.ext_getElem
  · simp [rowU]
  · intro j h1 h2
    rw [List.getElem_set, rowU_get, rowU_get]
    unfold updU
    by_cases e : i = j
    · subst e; simp
    · rw [if_neg e, if_neg (Ne.symm e)]
theorem rowU_new (n : Nat) : List.replicate n (Value.int .u32 0) = rowU (fun _ => 0) n := by
  apply List.ext_getElem
  · simp [rowU]
  · intro j h1 h2; rw [rowU_get]; simp
theorem rowU_at {H : Heap} {b n j sz : Nat} {f : Nat → U32} (h : H b = some (.own 0 (rowU f n) sz)) (hj : j < n) : hcell H ⟨b, j, none⟩ = some (.int .u32 (f j).toNat) := by
  rw [hcell_at h (by rw [rowU_len]; exact hj), rowU_get]
theorem rowU_store {H : Heap} {b n j : Nat} {f : Nat → U32} {z : U32} (h : H b = some (.own 0 (rowU f n) n)) (hj : j < n) : storeV H 1 (.pointer (some ⟨b, j, none⟩)) (.int .u32 z.toNat) = some (H.set b (.own 0 (rowU (updU f j z) n) n)) := by
  rw [storeV_one_at h rfl (by rw [rowU_len]; exact hj) (by rw [rowU_len]; omega), rowU_set]
theorem rowU_one (f : Nat → U32) (n : Nat) : (rowU f n).all one = true := by simp [rowU, one]
theorem rowU_congr {f g : Nat → U32} {n : Nat} (h : ∀ j, j < n → f j = g j) : rowU f n = rowU g n := by
  unfold rowU
  apply List.map_congr_left
  intro j hj
  rw [h j (List.mem_range.1 hj)]

/-! ### the sum -/
def turnF (x : U32) (n : Nat) : U32 := x <<< (32 - n) ||| x >>> n
def schedX (b : List UInt8) (w : Nat → U32) (i : Nat) : U32 :=
  if i < 16 then (fromBigF ((b.drop (4 * i)).take 4)).setWidth 32
  else w (i - 16) + (turnF (w (i - 15)) 7 ^^^ turnF (w (i - 15)) 18 ^^^ w (i - 15) >>> 3) + w (i - 7) + (turnF (w (i - 2)) 17 ^^^ turnF (w (i - 2)) 19 ^^^ w (i - 2) >>> 10)
def schedW (b : List UInt8) : Nat → Nat → U32
  | 0 => fun _ => 0
  | i + 1 => updU (schedW b i) i (schedX b (schedW b i) i)
def mixT (k w v : Nat → U32) (i : Nat) : U32 := v 7 + (turnF (v 4) 6 ^^^ turnF (v 4) 11 ^^^ turnF (v 4) 25) + ((v 4 &&& v 5) ^^^ (~~~(v 4) &&& v 6)) + k i + w i
def mixR (v : Nat → U32) : U32 := turnF (v 0) 2 ^^^ turnF (v 0) 13 ^^^ turnF (v 0) 22
def mixM (v : Nat → U32) : U32 := (v 0 &&& v 1) ^^^ (v 0 &&& v 2) ^^^ (v 1 &&& v 2)
def mixX (k w v : Nat → U32) (i : Nat) : Nat → U32
  | 0 => mixT k w v i + mixR v + mixM v
  | 1 => v 0
  | 2 => v 1
  | 3 => v 2
  | 4 => v 3 + mixT k w v i
  | 5 => v 4
  | 6 => v 5
  | 7 => v 6
  | _ => 0
def mixV (k w h : Nat → U32) : Nat → Nat → U32
  | 0 => h
  | i + 1 => mixX k w (mixV k w h i) i
def mixF (k h : Nat → U32) (b : List UInt8) : Nat → U32 := fun j => h j + mixV k (schedW b 64) h 64 j
theorem mixX_row (k w v : Nat → U32) (i : Nat) : rowU (mixX k w v i) 8 = [.int .u32 (mixT k w v i + mixR v + mixM v).toNat, .int .u32 (v 0).toNat, .int .u32 (v 1).toNat, .int .u32 (v 2).toNat, .int .u32 (v 3 + mixT k w v i).toNat, .int .u32 (v 4).toNat, .int .u32 (v 5).toNat, .int .u32 (v 6).toNat] := rfl
end Go.Bb
/- Contracts: sums of bytes: turns, the schedule. -/
namespace Go.Bb
set_option linter.unusedSimpArgs false
set_option linter.unusedVariables false
set_option maxRecDepth 20000

theorem rot_s (n : Nat) (h1 : 1 ≤ n) (h2 : n ≤ 31) : IntKind.u64.wrap (IntKind.i64.wrap (-(n : Int))) = ((BitVec.ofInt 64 (-(n : Int))).toNat : Int) := by
  have : IntKind.i64.wrap (-(n : Int)) = -(n : Int) := wrapI (by omega) (by omega)
  rw [this, wrap_u64]
theorem rot_m : ∀ n : Nat, n < 32 → 1 ≤ n → (BitVec.ofInt 64 (-(n : Int)) &&& BitVec.ofNat 64 31).toNat = 32 - n := by decide
theorem RotateLeft32_c (E : EnvT tab) (h : Heap) (x : U32) (n : Nat) (h1 : 1 ≤ n) (h2 : n ≤ 31) : ACallN E.toEnv n_math_bits_RotateLeft32 [.int .u32 x.toNat, .int .i64 (-(n : Int))] h fun r h' => h' = h ∧ r = .int .u32 (turnF x n).toNat := by
  refine acall h_math_bits_RotateLeft32 ir_math_bits_RotateLeft32 rfl rfl (wpA_sound ?_)
  unfold ir_math_bits_RotateLeft32
  have w1 : IntKind.u64.wrap (-(n : Int)) = ((BitVec.ofInt 64 (-(n : Int))).toNat : Int) := wrap_u64 _
  have w2 : IntKind.u64.wrap ((BitVec.ofInt IntKind.u64.bits ((BitVec.ofInt 64 (-(n : Int))).toNat : Int) &&& BitVec.ofInt IntKind.u64.bits 31).toNat : Int) = ((32 - n : Nat) : Int) := by
    have := u64_and (BitVec.ofInt 64 (-(n : Int))) (BitVec.ofNat 64 31)
    rw [rot_m n (by omega) h1] at this
    exact this
  have w3 : IntKind.u64.wrap (32 - ((32 - n : Nat) : Int)) = (n : Int) := by
    have : (32 - ((32 - n : Nat) : Int)) = n := by omega
    rw [this, wrap_u64, ofInt_nat]; simp; omega
  have n1 : ¬ (((32 - n : Nat) : Int) < 0) := by omega
  have n2 : ¬ ((n : Int) < 0) := by omega
  have s1 : IntKind.u32.wrap ((x.toNat : Int) * 2 ^ (min (32 - n) IntKind.u32.bits)) = ((x <<< (32 - n)).toNat : Int) := u32_shl x (32 - n) (by omega)
  have s2 : ((x.toNat : Int).fdiv (2 ^ (min n IntKind.u32.bits))) = ((x >>> n).toNat : Int) := u32_shr x n (by omega)
  simp -implicitDefEqProofs only [z00,z01,z02,z03,z04,z05,z06,z07,z08,z09,z0a,z0b,z0c,z0d,z0e,z0f,z0g,z0h,z0i,z0j,z0k,z0l,z0m,z0n,retO,retL,retV,z0o,z0p,z0q,z0r,z0s,z0t,z0u,z0v,z0w,z0x,z0y,z0z,z10,z11,z12,z13,z14,z15,z16,z17,z18,z19,z1a,z1b,z1c,z1d,z1e,z1f,z1g,z1h,z1i,z1j,z1k,z1l,z1m,z1n,z1o,z1p,z1q,z1r,z1s,z1t,z1u,z1v,z1w,z1x,z1y,z1z,z20,z21,z22,z23,z24,z25,z26,z27,z28,z29,z2a,z2b,z2c,z2d,z2e,z2f,z2g,z2h,z2i,z2j,z2k,z2l,z2m,z2n,z2o,z2p,z2q,z2r,z2s,z2t,z2u,z2v,z2w,z2x,z2y,z2z,z30,z31,z32,z33,z34,z35,z36,z37,z38,z39,z3a,z3b,z3c,z3d,z3e,z3f,z3g,z3h,z3i,z3j,z3k,z3l,z3m,z3n,z3o,z3p,z3q,z3r,z3s,z3t,z3u,z3v,z3w,z3x,z3y,z3z,z40,z41,z42,z43,z44,z45,z46,z47,z48,z49,z4a,z4b,z4c,z4d,z4e,z4f,z4g,z4h,z4i,z4j,z4k,z4l,z4m,z4n,z4o,z4p,z4q,z4r,z4s,z4t,z4u,z4v,z4w,z4x,z4y,z4z,z50,z51,z52,z53,z54,z55,z56,z57,z58,z59,z5a,z5b,z5c,z5d,z5e,z5f,z5g,z5h,z5i,z5j,z5k,z5l,z5m,z5n,z5o,z5p,z5q,z5r,z5s,z5t,z5u,z5v,z5w,z5x,z5y,z5z,z60,z61,z62,z63,z64,z65,z66,z67,z68,z69,allV,allP,z6a,z6b,z6c,z6d,z6e,z6f,z6g,z6h,z6i,z6j,z6k,z6l,z6m,Option.map_some,Option.map_none,Option.some.injEq,reduceIte,reduceCtorEq,Nat.reduceEqDiff,Nat.reduceAdd,Nat.reduceMul,Nat.reduceLT,Nat.reduceSub,Int.reduceLT,Int.reduceLE,Int.reduceEq,Int.reduceNe,Int.reduceSub,Int.reduceAdd,Int.reduceMul,Int.reduceBEq,Int.reduceBNe,Int.reduceGT,Int.reduceGE,Nat.reduceGT,Int.reduceToNat,Int.reduceNeg,Nat.reduceLeDiff,Nat.reduceBEq,Nat.reduceBneDiff,binV,eqV,unV,oOpt,true_and,and_true,Value.cells,List.length_cons,List.length_nil,List.append_nil,List.nil_append,List.cons_append,List.drop_succ_cons,List.drop_zero,List.take_succ_cons,List.take_zero,List.take_nil,List.getElem?_cons_zero,List.getElem?_cons_succ,decide_true,decide_false,decide_eq_true_eq,decide_eq_false_iff_not,Bool.false_eq_true,Bool.true_eq_false,Bool.not_true,Bool.not_false,Bool.not_eq_true',Bool.not_eq_false',Bool.not_eq_true,Bool.not_eq_false,false_implies,true_implies,beq_iff_eq,beq_eq_false_iff_ne,bne_iff_ne,bne_eq_false_iff_eq,ne_eq,ge_iff_le,gt_iff_lt,Int.not_lt,Int.not_le,not_true_eq_false,not_false_eq_true,if_true,if_false,z6n,z6o,z6p,z6q,Heap.set_set,z6r,z6s,z6t,z6u,z6v,z6w,List.getElem_cons_zero,List.getElem_cons_succ,List.set_cons_zero,List.set_cons_succ,List.length_set,List.all_cons,List.all_nil,Bool.and_true,Bool.true_and,Bool.and_self,Nat.add_zero,Nat.zero_add,Nat.zero_lt_succ,Int.cast_ofNat_Int,List.size_toArray,List.flatten_replicate_singleton,Nat.mul_one,Nat.le_refl,Nat.lt_irrefl,Nat.le_add_left, w1, w2, w3, n1, n2, Int.toNat_natCast, s1, s2, u32_or]
  rfl

theorem sha_turn_c (E : EnvT tab) (h : Heap) (x : U32) (n : Nat) {z : Int} (hz : z = n) (h1 : 1 ≤ n) (h2 : n ≤ 31) : ACallN E.toEnv n_sha_turn [.int .u32 x.toNat, .int .i64 z] h fun r h' => h' = h ∧ r = .int .u32 (turnF x n).toNat := by
  subst hz
  refine acall h_sha_turn ir_sha_turn rfl rfl (wpA_sound ?_)
  unfold ir_sha_turn
  have w : IntKind.i64.wrap (0 - (n : Int)) = -(n : Int) := by rw [wrapI (by omega) (by omega)]; omega
  simp -implicitDefEqProofs only [z00,z01,z02,z03,z04,z05,z06,z07,z08,z09,z0a,z0b,z0c,z0d,z0e,z0f,z0g,z0h,z0i,z0j,z0k,z0l,z0m,z0n,retO,retL,retV,z0o,z0p,z0q,z0r,z0s,z0t,z0u,z0v,z0w,z0x,z0y,z0z,z10,z11,z12,z13,z14,z15,z16,z17,z18,z19,z1a,z1b,z1c,z1d,z1e,z1f,z1g,z1h,z1i,z1j,z1k,z1l,z1m,z1n,z1o,z1p,z1q,z1r,z1s,z1t,z1u,z1v,z1w,z1x,z1y,z1z,z20,z21,z22,z23,z24,z25,z26,z27,z28,z29,z2a,z2b,z2c,z2d,z2e,z2f,z2g,z2h,z2i,z2j,z2k,z2l,z2m,z2n,z2o,z2p,z2q,z2r,z2s,z2t,z2u,z2v,z2w,z2x,z2y,z2z,z30,z31,z32,z33,z34,z35,z36,z37,z38,z39,z3a,z3b,z3c,z3d,z3e,z3f,z3g,z3h,z3i,z3j,z3k,z3l,z3m,z3n,z3o,z3p,z3q,z3r,z3s,z3t,z3u,z3v,z3w,z3x,z3y,z3z,z40,z41,z42,z43,z44,z45,z46,z47,z48,z49,z4a,z4b,z4c,z4d,z4e,z4f,z4g,z4h,z4i,z4j,z4k,z4l,z4m,z4n,z4o,z4p,z4q,z4r,z4s,z4t,z4u,z4v,z4w,z4x,z4y,z4z,z50,z51,z52,z53,z54,z55,z56,z57,z58,z59,z5a,z5b,z5c,z5d,z5e,z5f,z5g,z5h,z5i,z5j,z5k,z5l,z5m,z5n,z5o,z5p,z5q,z5r,z5s,z5t,z5u,z5v,z5w,z5x,z5y,z5z,z60,z61,z62,z63,z64,z65,z66,z67,z68,z69,allV,allP,z6a,z6b,z6c,z6d,z6e,z6f,z6g,z6h,z6i,z6j,z6k,z6l,z6m,Option.map_some,Option.map_none,Option.some.injEq,reduceIte,reduceCtorEq,Nat.reduceEqDiff,Nat.reduceAdd,Nat.reduceMul,Nat.reduceLT,Nat.reduceSub,Int.reduceLT,Int.reduceLE,Int.reduceEq,Int.reduceNe,Int.reduceSub,Int.reduceAdd,Int.reduceMul,Int.reduceBEq,Int.reduceBNe,Int.reduceGT,Int.reduceGE,Nat.reduceGT,Int.reduceToNat,Int.reduceNeg,Nat.reduceLeDiff,Nat.reduceBEq,Nat.reduceBneDiff,binV,eqV,unV,oOpt,true_and,and_true,Value.cells,List.length_cons,List.length_nil,List.append_nil,List.nil_append,List.cons_append,List.drop_succ_cons,List.drop_zero,List.take_succ_cons,List.take_zero,List.take_nil,List.getElem?_cons_zero,List.getElem?_cons_succ,decide_true,decide_false,decide_eq_true_eq,decide_eq_false_iff_not,Bool.false_eq_true,Bool.true_eq_false,Bool.not_true,Bool.not_false,Bool.not_eq_true',Bool.not_eq_false',Bool.not_eq_true,Bool.not_eq_false,false_implies,true_implies,beq_iff_eq,beq_eq_false_iff_ne,bne_iff_ne,bne_eq_false_iff_eq,ne_eq,ge_iff_le,gt_iff_lt,Int.not_lt,Int.not_le,not_true_eq_false,not_false_eq_true,if_true,if_false,z6n,z6o,z6p,z6q,Heap.set_set,z6r,z6s,z6t,z6u,z6v,z6w,List.getElem_cons_zero,List.getElem_cons_succ,List.set_cons_zero,List.set_cons_succ,List.length_set,List.all_cons,List.all_nil,Bool.and_true,Bool.true_and,Bool.and_self,Nat.add_zero,Nat.zero_add,Nat.zero_lt_succ,Int.cast_ofNat_Int,List.size_toArray,List.flatten_replicate_singleton,Nat.mul_one,Nat.le_refl,Nat.lt_irrefl,Nat.le_add_left, w]
  refine (RotateLeft32_c E _ x n h1 h2).mono ?_
  rintro r h' ⟨rfl, rfl⟩
  simp -implicitDefEqProofs only [z00,z01,z02,z03,z04,z05,z06,z07,z08,z09,z0a,z0b,z0c,z0d,z0e,z0f,z0g,z0h,z0i,z0j,z0k,z0l,z0m,z0n,retO,retL,retV,z0o,z0p,z0q,z0r,z0s,z0t,z0u,z0v,z0w,z0x,z0y,z0z,z10,z11,z12,z13,z14,z15,z16,z17,z18,z19,z1a,z1b,z1c,z1d,z1e,z1f,z1g,z1h,z1i,z1j,z1k,z1l,z1m,z1n,z1o,z1p,z1q,z1r,z1s,z1t,z1u,z1v,z1w,z1x,z1y,z1z,z20,z21,z22,z23,z24,z25,z26,z27,z28,z29,z2a,z2b,z2c,z2d,z2e,z2f,z2g,z2h,z2i,z2j,z2k,z2l,z2m,z2n,z2o,z2p,z2q,z2r,z2s,z2t,z2u,z2v,z2w,z2x,z2y,z2z,z30,z31,z32,z33,z34,z35,z36,z37,z38,z39,z3a,z3b,z3c,z3d,z3e,z3f,z3g,z3h,z3i,z3j,z3k,z3l,z3m,z3n,z3o,z3p,z3q,z3r,z3s,z3t,z3u,z3v,z3w,z3x,z3y,z3z,z40,z41,z42,z43,z44,z45,z46,z47,z48,z49,z4a,z4b,z4c,z4d,z4e,z4f,z4g,z4h,z4i,z4j,z4k,z4l,z4m,z4n,z4o,z4p,z4q,z4r,z4s,z4t,z4u,z4v,z4w,z4x,z4y,z4z,z50,z51,z52,z53,z54,z55,z56,z57,z58,z59,z5a,z5b,z5c,z5d,z5e,z5f,z5g,z5h,z5i,z5j,z5k,z5l,z5m,z5n,z5o,z5p,z5q,z5r,z5s,z5t,z5u,z5v,z5w,z5x,z5y,z5z,z60,z61,z62,z63,z64,z65,z66,z67,z68,z69,allV,allP,z6a,z6b,z6c,z6d,z6e,z6f,z6g,z6h,z6i,z6j,z6k,z6l,z6m,Option.map_some,Option.map_none,Option.some.injEq,reduceIte,reduceCtorEq,Nat.reduceEqDiff,Nat.reduceAdd,Nat.reduceMul,Nat.reduceLT,Nat.reduceSub,Int.reduceLT,Int.reduceLE,Int.reduceEq,Int.reduceNe,Int.reduceSub,Int.reduceAdd,Int.reduceMul,Int.reduceBEq,Int.reduceBNe,Int.reduceGT,Int.reduceGE,Nat.reduceGT,Int.reduceToNat,Int.reduceNeg,Nat.reduceLeDiff,Nat.reduceBEq,Nat.reduceBneDiff,binV,eqV,unV,oOpt,true_and,and_true,Value.cells,List.length_cons,List.length_nil,List.append_nil,List.nil_append,List.cons_append,List.drop_succ_cons,List.drop_zero,List.take_succ_cons,List.take_zero,List.take_nil,List.getElem?_cons_zero,List.getElem?_cons_succ,decide_true,decide_false,decide_eq_true_eq,decide_eq_false_iff_not,Bool.false_eq_true,Bool.true_eq_false,Bool.not_true,Bool.not_false,Bool.not_eq_true',Bool.not_eq_false',Bool.not_eq_true,Bool.not_eq_false,false_implies,true_implies,beq_iff_eq,beq_eq_false_iff_ne,bne_iff_ne,bne_eq_false_iff_eq,ne_eq,ge_iff_le,gt_iff_lt,Int.not_lt,Int.not_le,not_true_eq_false,not_false_eq_true,if_true,if_false,z6n,z6o,z6p,z6q,Heap.set_set,z6r,z6s,z6t,z6u,z6v,z6w,List.getElem_cons_zero,List.getElem_cons_succ,List.set_cons_zero,List.set_cons_succ,List.length_set,List.all_cons,List.all_nil,Bool.and_true,Bool.true_and,Bool.and_self,Nat.add_zero,Nat.zero_add,Nat.zero_lt_succ,Int.cast_ofNat_Int,List.size_toArray,List.flatten_replicate_singleton,Nat.mul_one,Nat.le_refl,Nat.lt_irrefl,Nat.le_add_left]

/-- A part of a slice, from a place to a place. -/
theorem Sl.midB {h : Heap} {base : Option Addr} {c a b : Nat} {l : List UInt8} (s : SlB h (.slice base l.length c) l) (hab : a ≤ b) (hb : b ≤ l.length) : SlB h (.slice (if c = a then base else base.map fun x => x.add a) (b - a) (c - a)) ((l.drop a).take (b - a)) := by
  have s1 := Sl.post s (k := a) (by omega)
  simp only [Nat.mul_one] at s1
  have s2 := Sl.pre s1 (k := b - a) (by omega)
  rw [Nat.mul_one, ← List.map_drop, ← List.map_take] at s2
  have e : ((l.drop a).take (b - a)).length = b - a := by simp; omega
  unfold SlB
  rw [e]; exact s2

theorem sh3 (x : U32) : (x.toNat : Int).fdiv (2 ^ (min (Int.toNat 3) IntKind.u32.bits)) = ((x >>> 3).toNat : Int) := u32_shr x 3 (by omega)
theorem sh3' (x : U32) : (x.toNat : Int).fdiv (2 ^ (min 3 IntKind.u32.bits)) = ((x >>> 3).toNat : Int) := u32_shr x 3 (by omega)
theorem sh10 (x : U32) : (x.toNat : Int).fdiv (2 ^ (min (Int.toNat 10) IntKind.u32.bits)) = ((x >>> 10).toNat : Int) := u32_shr x 10 (by omega)
theorem sh10' (x : U32) : (x.toNat : Int).fdiv (2 ^ (min 10 IntKind.u32.bits)) = ((x >>> 10).toNat : Int) := u32_shr x 10 (by omega)
theorem take_drop_len {α : Type} (l : List α) (a n : Nat) (h : a + n ≤ l.length) : ((l.drop a).take n).length = n := by simp; omega

theorem sha_schedule_c (E : EnvT tab) (h : Heap) {v : Value} (b : List UInt8) (hb : b.length = 64) (s : SlB h v b) : ACallN E.toEnv n_sha_schedule [v] h fun r h' => h.le h' ∧ r = .agg (rowU (schedW b 64) 64).toArray := by
  obtain ⟨base, c, rfl⟩ := Sl.shape s
  have hc : b.length ≤ c := by
    rcases s with ⟨e, hn, _⟩ | ⟨a, c', e, hc, _⟩
    · omega
    · simp only [Value.slice.injEq] at e
      omega
  refine acall h_sha_schedule ir_sha_schedule rfl rfl (wpA_sound ?_)
  unfold ir_sha_schedule
  simp -implicitDefEqProofs only [z00,z01,z02,z03,z04,z05,z06,z07,z08,z09,z0a,z0b,z0c,z0d,z0e,z0f,z0g,z0h,z0i,z0j,z0k,z0l,z0m,z0n,retO,retL,retV,z0o,z0p,z0q,z0r,z0s,z0t,z0u,z0v,z0w,z0x,z0y,z0z,z10,z11,z12,z13,z14,z15,z16,z17,z18,z19,z1a,z1b,z1c,z1d,z1e,z1f,z1g,z1h,z1i,z1j,z1k,z1l,z1m,z1n,z1o,z1p,z1q,z1r,z1s,z1t,z1u,z1v,z1w,z1x,z1y,z1z,z20,z21,z22,z23,z24,z25,z26,z27,z28,z29,z2a,z2b,z2c,z2d,z2e,z2f,z2g,z2h,z2i,z2j,z2k,z2l,z2m,z2n,z2o,z2p,z2q,z2r,z2s,z2t,z2u,z2v,z2w,z2x,z2y,z2z,z30,z31,z32,z33,z34,z35,z36,z37,z38,z39,z3a,z3b,z3c,z3d,z3e,z3f,z3g,z3h,z3i,z3j,z3k,z3l,z3m,z3n,z3o,z3p,z3q,z3r,z3s,z3t,z3u,z3v,z3w,z3x,z3y,z3z,z40,z41,z42,z43,z44,z45,z46,z47,z48,z49,z4a,z4b,z4c,z4d,z4e,z4f,z4g,z4h,z4i,z4j,z4k,z4l,z4m,z4n,z4o,z4p,z4q,z4r,z4s,z4t,z4u,z4v,z4w,z4x,z4y,z4z,z50,z51,z52,z53,z54,z55,z56,z57,z58,z59,z5a,z5b,z5c,z5d,z5e,z5f,z5g,z5h,z5i,z5j,z5k,z5l,z5m,z5n,z5o,z5p,z5q,z5r,z5s,z5t,z5u,z5v,z5w,z5x,z5y,z5z,z60,z61,z62,z63,z64,z65,z66,z67,z68,z69,allV,allP,z6a,z6b,z6c,z6d,z6e,z6f,z6g,z6h,z6i,z6j,z6k,z6l,z6m,Option.map_some,Option.map_none,Option.some.injEq,reduceIte,reduceCtorEq,Nat.reduceEqDiff,Nat.reduceAdd,Nat.reduceMul,Nat.reduceLT,Nat.reduceSub,Int.reduceLT,Int.reduceLE,Int.reduceEq,Int.reduceNe,Int.reduceSub,Int.reduceAdd,Int.reduceMul,Int.reduceBEq,Int.reduceBNe,Int.reduceGT,Int.reduceGE,Nat.reduceGT,Int.reduceToNat,Int.reduceNeg,Nat.reduceLeDiff,Nat.reduceBEq,Nat.reduceBneDiff,binV,eqV,unV,oOpt,true_and,and_true,Value.cells,List.length_cons,List.length_nil,List.append_nil,List.nil_append,List.cons_append,List.drop_succ_cons,List.drop_zero,List.take_succ_cons,List.take_zero,List.take_nil,List.getElem?_cons_zero,List.getElem?_cons_succ,decide_true,decide_false,decide_eq_true_eq,decide_eq_false_iff_not,Bool.false_eq_true,Bool.true_eq_false,Bool.not_true,Bool.not_false,Bool.not_eq_true',Bool.not_eq_false',Bool.not_eq_true,Bool.not_eq_false,false_implies,true_implies,beq_iff_eq,beq_eq_false_iff_ne,bne_iff_ne,bne_eq_false_iff_eq,ne_eq,ge_iff_le,gt_iff_lt,Int.not_lt,Int.not_le,not_true_eq_false,not_false_eq_true,if_true,if_false,z6n,z6o,z6p,z6q,Heap.set_set,z6r,z6s,z6t,z6u,z6v,z6w,List.getElem_cons_zero,List.getElem_cons_succ,List.set_cons_zero,List.set_cons_succ,List.length_set,List.all_cons,List.all_nil,Bool.and_true,Bool.true_and,Bool.and_self,Nat.add_zero,Nat.zero_add,Nat.zero_lt_succ,Int.cast_ofNat_Int,List.size_toArray,List.flatten_replicate_singleton,Nat.mul_one,Nat.le_refl,Nat.lt_irrefl,Nat.le_add_left]
  intro b2 hb2 b3 hb3
  have n23 : b3 ≠ b2 := (Heap.set_none.1 hb3).1
  have hb3' := (Heap.set_none.1 hb3).2
  rw [rowU_new, rowU_len]
  refine wp_loop' (fun m t H => h.le H ∧ ∃ (i : Nat), t = tl [(0, .slice base b.length c), (2, .pointer (some ⟨b2, 0, none⟩)), (3, .pointer (some ⟨b3, 0, none⟩)), (11, .int .i64 i)] ∧ i ≤ 64 ∧ m = 64 - i ∧
      H b2 = some (.own 0 (rowU (fun _ => 0) 64) 64) ∧ H b3 = some (.own 0 (rowU (schedW b i) 64) 64)) 64
    ⟨Heap.le_new (Heap.le_new (Heap.le_refl _) hb2 _) hb3 _, 0, rfl, by omega, by omega, by rw [Heap.set_ne (Ne.symm n23), Heap.set_self], Heap.set_self _ _ _⟩ ?_
  rintro m t H ⟨hle, i, rfl, hi, rfl, q2, q3⟩
  by_cases hlt : i < 64
  · have hi1 : (i : Int) < 64 := by omega
    have hi2 : (0 : Int) ≤ i := by omega
    have w1 : IntKind.i64.wrap ((i : Int) + 1) = ((i + 1 : Nat) : Int) := wrapN (by omega)
    have st := rowU_store (z := schedX b (schedW b i) i) q3 hlt
    have fin : ∃ m, m < 64 - i ∧ h.le (H.set b3 (.own 0 (rowU (updU (schedW b i) i (schedX b (schedW b i) i)) 64) 64)) ∧ ∃ (i' : Nat), tl [(0, Value.slice base b.length c), (2, .pointer (some ⟨b2, 0, none⟩)), (3, .pointer (some ⟨b3, 0, none⟩)), (11, .int .i64 ((i + 1 : Nat) : Int))] =
        tl [(0, Value.slice base b.length c), (2, .pointer (some ⟨b2, 0, none⟩)), (3, .pointer (some ⟨b3, 0, none⟩)), (11, .int .i64 i')] ∧ i' ≤ 64 ∧ m = 64 - i' ∧
        (H.set b3 (.own 0 (rowU (updU (schedW b i) i (schedX b (schedW b i) i)) 64) 64)) b2 = some (.own 0 (rowU (fun _ => 0) 64) 64) ∧ (H.set b3 (.own 0 (rowU (updU (schedW b i) i (schedX b (schedW b i) i)) 64) 64)) b3 = some (.own 0 (rowU (schedW b i') 64) 64) :=
      ⟨_, by omega, Heap.le_set hle hb3' _, i + 1, rfl, by omega, rfl, by rw [Heap.set_ne (Ne.symm n23)]; exact q2, Heap.set_self _ _ _⟩
    by_cases h16 : i < 16
    · have g1 : (i : Int) < 16 := by omega
      have w2 : IntKind.i64.wrap (4 * (i : Int)) = ((4 * i : Nat) : Int) := by rw [wrapI (by omega) (by omega)]; omega
      have w3 : IntKind.i64.wrap (((4 * i : Nat) : Int) + 4) = ((4 * i + 4 : Nat) : Int) := by rw [wrapI (by omega) (by omega)]; omega
      have bd : bnds b.length c (some (some (.int .i64 ((4 * i : Nat) : Int)))) (some (some (.int .i64 ((4 * i + 4 : Nat) : Int)))) none = some (4 * i, 4 * i + 4, c) := by
        rw [bnds_both (by omega) (by omega) (by omega), Int.toNat_natCast, Int.toNat_natCast]
      simp -implicitDefEqProofs only [z00,z01,z02,z03,z04,z05,z06,z07,z08,z09,z0a,z0b,z0c,z0d,z0e,z0f,z0g,z0h,z0i,z0j,z0k,z0l,z0m,z0n,retO,retL,retV,z0o,z0p,z0q,z0r,z0s,z0t,z0u,z0v,z0w,z0x,z0y,z0z,z10,z11,z12,z13,z14,z15,z16,z17,z18,z19,z1a,z1b,z1c,z1d,z1e,z1f,z1g,z1h,z1i,z1j,z1k,z1l,z1m,z1n,z1o,z1p,z1q,z1r,z1s,z1t,z1u,z1v,z1w,z1x,z1y,z1z,z20,z21,z22,z23,z24,z25,z26,z27,z28,z29,z2a,z2b,z2c,z2d,z2e,z2f,z2g,z2h,z2i,z2j,z2k,z2l,z2m,z2n,z2o,z2p,z2q,z2r,z2s,z2t,z2u,z2v,z2w,z2x,z2y,z2z,z30,z31,z32,z33,z34,z35,z36,z37,z38,z39,z3a,z3b,z3c,z3d,z3e,z3f,z3g,z3h,z3i,z3j,z3k,z3l,z3m,z3n,z3o,z3p,z3q,z3r,z3s,z3t,z3u,z3v,z3w,z3x,z3y,z3z,z40,z41,z42,z43,z44,z45,z46,z47,z48,z49,z4a,z4b,z4c,z4d,z4e,z4f,z4g,z4h,z4i,z4j,z4k,z4l,z4m,z4n,z4o,z4p,z4q,z4r,z4s,z4t,z4u,z4v,z4w,z4x,z4y,z4z,z50,z51,z52,z53,z54,z55,z56,z57,z58,z59,z5a,z5b,z5c,z5d,z5e,z5f,z5g,z5h,z5i,z5j,z5k,z5l,z5m,z5n,z5o,z5p,z5q,z5r,z5s,z5t,z5u,z5v,z5w,z5x,z5y,z5z,z60,z61,z62,z63,z64,z65,z66,z67,z68,z69,allV,allP,z6a,z6b,z6c,z6d,z6e,z6f,z6g,z6h,z6i,z6j,z6k,z6l,z6m,Option.map_some,Option.map_none,Option.some.injEq,reduceIte,reduceCtorEq,Nat.reduceEqDiff,Nat.reduceAdd,Nat.reduceMul,Nat.reduceLT,Nat.reduceSub,Int.reduceLT,Int.reduceLE,Int.reduceEq,Int.reduceNe,Int.reduceSub,Int.reduceAdd,Int.reduceMul,Int.reduceBEq,Int.reduceBNe,Int.reduceGT,Int.reduceGE,Nat.reduceGT,Int.reduceToNat,Int.reduceNeg,Nat.reduceLeDiff,Nat.reduceBEq,Nat.reduceBneDiff,binV,eqV,unV,oOpt,true_and,and_true,Value.cells,List.length_cons,List.length_nil,List.append_nil,List.nil_append,List.cons_append,List.drop_succ_cons,List.drop_zero,List.take_succ_cons,List.take_zero,List.take_nil,List.getElem?_cons_zero,List.getElem?_cons_succ,decide_true,decide_false,decide_eq_true_eq,decide_eq_false_iff_not,Bool.false_eq_true,Bool.true_eq_false,Bool.not_true,Bool.not_false,Bool.not_eq_true',Bool.not_eq_false',Bool.not_eq_true,Bool.not_eq_false,false_implies,true_implies,beq_iff_eq,beq_eq_false_iff_ne,bne_iff_ne,bne_eq_false_iff_eq,ne_eq,ge_iff_le,gt_iff_lt,Int.not_lt,Int.not_le,not_true_eq_false,not_false_eq_true,if_true,if_false,z6n,z6o,z6p,z6q,Heap.set_set,z6r,z6s,z6t,z6u,z6v,z6w,List.getElem_cons_zero,List.getElem_cons_succ,List.set_cons_zero,List.set_cons_succ,List.length_set,List.all_cons,List.all_nil,Bool.and_true,Bool.true_and,Bool.and_self,Nat.add_zero,Nat.zero_add,Nat.zero_lt_succ,Int.cast_ofNat_Int,List.size_toArray,List.flatten_replicate_singleton,Nat.mul_one,Nat.le_refl,Nat.lt_irrefl,Nat.le_add_left, hi1, hi2, g1, w2, w3, bd]
      have sm := Sl.midB (Sl.le hle s) (a := 4 * i) (b := 4 * i + 4) (by omega) (by omega)
      have e4 : 4 * i + 4 - 4 * i = 4 := by omega
      rw [e4] at sm ⊢
      have e5 : ((b.drop (4 * i)).take 4).length = 4 := by simp; omega
      refine (octet_FromBig_c E _ _ (by omega) sm).mono ?_
      rintro r H' ⟨rfl, rfl⟩
      have ex : schedX b (schedW b i) i = (fromBigF ((b.drop (4 * i)).take 4)).setWidth 32 := by unfold schedX; rw [if_pos h16]
      rw [ex] at st fin
      unfold u64V
      simp -implicitDefEqProofs only [z00,z01,z02,z03,z04,z05,z06,z07,z08,z09,z0a,z0b,z0c,z0d,z0e,z0f,z0g,z0h,z0i,z0j,z0k,z0l,z0m,z0n,retO,retL,retV,z0o,z0p,z0q,z0r,z0s,z0t,z0u,z0v,z0w,z0x,z0y,z0z,z10,z11,z12,z13,z14,z15,z16,z17,z18,z19,z1a,z1b,z1c,z1d,z1e,z1f,z1g,z1h,z1i,z1j,z1k,z1l,z1m,z1n,z1o,z1p,z1q,z1r,z1s,z1t,z1u,z1v,z1w,z1x,z1y,z1z,z20,z21,z22,z23,z24,z25,z26,z27,z28,z29,z2a,z2b,z2c,z2d,z2e,z2f,z2g,z2h,z2i,z2j,z2k,z2l,z2m,z2n,z2o,z2p,z2q,z2r,z2s,z2t,z2u,z2v,z2w,z2x,z2y,z2z,z30,z31,z32,z33,z34,z35,z36,z37,z38,z39,z3a,z3b,z3c,z3d,z3e,z3f,z3g,z3h,z3i,z3j,z3k,z3l,z3m,z3n,z3o,z3p,z3q,z3r,z3s,z3t,z3u,z3v,z3w,z3x,z3y,z3z,z40,z41,z42,z43,z44,z45,z46,z47,z48,z49,z4a,z4b,z4c,z4d,z4e,z4f,z4g,z4h,z4i,z4j,z4k,z4l,z4m,z4n,z4o,z4p,z4q,z4r,z4s,z4t,z4u,z4v,z4w,z4x,z4y,z4z,z50,z51,z52,z53,z54,z55,z56,z57,z58,z59,z5a,z5b,z5c,z5d,z5e,z5f,z5g,z5h,z5i,z5j,z5k,z5l,z5m,z5n,z5o,z5p,z5q,z5r,z5s,z5t,z5u,z5v,z5w,z5x,z5y,z5z,z60,z61,z62,z63,z64,z65,z66,z67,z68,z69,allV,allP,z6a,z6b,z6c,z6d,z6e,z6f,z6g,z6h,z6i,z6j,z6k,z6l,z6m,Option.map_some,Option.map_none,Option.some.injEq,reduceIte,reduceCtorEq,Nat.reduceEqDiff,Nat.reduceAdd,Nat.reduceMul,Nat.reduceLT,Nat.reduceSub,Int.reduceLT,Int.reduceLE,Int.reduceEq,Int.reduceNe,Int.reduceSub,Int.reduceAdd,Int.reduceMul,Int.reduceBEq,Int.reduceBNe,Int.reduceGT,Int.reduceGE,Nat.reduceGT,Int.reduceToNat,Int.reduceNeg,Nat.reduceLeDiff,Nat.reduceBEq,Nat.reduceBneDiff,binV,eqV,unV,oOpt,true_and,and_true,Value.cells,List.length_cons,List.length_nil,List.append_nil,List.nil_append,List.cons_append,List.drop_succ_cons,List.drop_zero,List.take_succ_cons,List.take_zero,List.take_nil,List.getElem?_cons_zero,List.getElem?_cons_succ,decide_true,decide_false,decide_eq_true_eq,decide_eq_false_iff_not,Bool.false_eq_true,Bool.true_eq_false,Bool.not_true,Bool.not_false,Bool.not_eq_true',Bool.not_eq_false',Bool.not_eq_true,Bool.not_eq_false,false_implies,true_implies,beq_iff_eq,beq_eq_false_iff_ne,bne_iff_ne,bne_eq_false_iff_eq,ne_eq,ge_iff_le,gt_iff_lt,Int.not_lt,Int.not_le,not_true_eq_false,not_false_eq_true,if_true,if_false,z6n,z6o,z6p,z6q,Heap.set_set,z6r,z6s,z6t,z6u,z6v,z6w,List.getElem_cons_zero,List.getElem_cons_succ,List.set_cons_zero,List.set_cons_succ,List.length_set,List.all_cons,List.all_nil,Bool.and_true,Bool.true_and,Bool.and_self,Nat.add_zero,Nat.zero_add,Nat.zero_lt_succ,Int.cast_ofNat_Int,List.size_toArray,List.flatten_replicate_singleton,Nat.mul_one,Nat.le_refl,Nat.lt_irrefl,Nat.le_add_left, hi1, hi2, u64_u32, Int.toNat_natCast, st, w1]
      exact fin
    · have g1 : ¬ (i : Int) < 16 := by omega
      have w15 : IntKind.i64.wrap ((i : Int) - 15) = ((i - 15 : Nat) : Int) := by rw [wrapI (by omega) (by omega)]; omega
      have w2 : IntKind.i64.wrap ((i : Int) - 2) = ((i - 2 : Nat) : Int) := by rw [wrapI (by omega) (by omega)]; omega
      have w16 : IntKind.i64.wrap ((i : Int) - 16) = ((i - 16 : Nat) : Int) := by rw [wrapI (by omega) (by omega)]; omega
      have w7 : IntKind.i64.wrap ((i : Int) - 7) = ((i - 7 : Nat) : Int) := by rw [wrapI (by omega) (by omega)]; omega
      have a15 := rowU_at q3 (show i - 15 < 64 by omega)
      have a2 := rowU_at q3 (show i - 2 < 64 by omega)
      have a16 := rowU_at q3 (show i - 16 < 64 by omega)
      have a7 := rowU_at q3 (show i - 7 < 64 by omega)
      have ex : schedX b (schedW b i) i = schedW b i (i - 16) + (turnF (schedW b i (i - 15)) 7 ^^^ turnF (schedW b i (i - 15)) 18 ^^^ schedW b i (i - 15) >>> 3) + schedW b i (i - 7) + (turnF (schedW b i (i - 2)) 17 ^^^ turnF (schedW b i (i - 2)) 19 ^^^ schedW b i (i - 2) >>> 10) := by
        conv => lhs; unfold schedX
        rw [if_neg h16]
      rw [ex] at st fin
      have lt : ∀ k : Nat, k ≤ i → ((i - k : Nat) : Int) < 64 := fun k hk => by omega
      have l15 := lt 15 (by omega)
      have l2 := lt 2 (by omega)
      have l16 := lt 16 (by omega)
      have l7 := lt 7 (by omega)
      have ge : ∀ k : Nat, (0 : Int) ≤ ((i - k : Nat) : Int) := fun k => by omega
      generalize schedW b i = w at a15 a2 a16 a7 st fin
      simp -implicitDefEqProofs only [z00,z01,z02,z03,z04,z05,z06,z07,z08,z09,z0a,z0b,z0c,z0d,z0e,z0f,z0g,z0h,z0i,z0j,z0k,z0l,z0m,z0n,retO,retL,retV,z0o,z0p,z0q,z0r,z0s,z0t,z0u,z0v,z0w,z0x,z0y,z0z,z10,z11,z12,z13,z14,z15,z16,z17,z18,z19,z1a,z1b,z1c,z1d,z1e,z1f,z1g,z1h,z1i,z1j,z1k,z1l,z1m,z1n,z1o,z1p,z1q,z1r,z1s,z1t,z1u,z1v,z1w,z1x,z1y,z1z,z20,z21,z22,z23,z24,z25,z26,z27,z28,z29,z2a,z2b,z2c,z2d,z2e,z2f,z2g,z2h,z2i,z2j,z2k,z2l,z2m,z2n,z2o,z2p,z2q,z2r,z2s,z2t,z2u,z2v,z2w,z2x,z2y,z2z,z30,z31,z32,z33,z34,z35,z36,z37,z38,z39,z3a,z3b,z3c,z3d,z3e,z3f,z3g,z3h,z3i,z3j,z3k,z3l,z3m,z3n,z3o,z3p,z3q,z3r,z3s,z3t,z3u,z3v,z3w,z3x,z3y,z3z,z40,z41,z42,z43,z44,z45,z46,z47,z48,z49,z4a,z4b,z4c,z4d,z4e,z4f,z4g,z4h,z4i,z4j,z4k,z4l,z4m,z4n,z4o,z4p,z4q,z4r,z4s,z4t,z4u,z4v,z4w,z4x,z4y,z4z,z50,z51,z52,z53,z54,z55,z56,z57,z58,z59,z5a,z5b,z5c,z5d,z5e,z5f,z5g,z5h,z5i,z5j,z5k,z5l,z5m,z5n,z5o,z5p,z5q,z5r,z5s,z5t,z5u,z5v,z5w,z5x,z5y,z5z,z60,z61,z62,z63,z64,z65,z66,z67,z68,z69,allV,allP,z6a,z6b,z6c,z6d,z6e,z6f,z6g,z6h,z6i,z6j,z6k,z6l,z6m,Option.map_some,Option.map_none,Option.some.injEq,reduceIte,reduceCtorEq,Nat.reduceEqDiff,Nat.reduceAdd,Nat.reduceMul,Nat.reduceLT,Nat.reduceSub,Int.reduceLT,Int.reduceLE,Int.reduceEq,Int.reduceNe,Int.reduceSub,Int.reduceAdd,Int.reduceMul,Int.reduceBEq,Int.reduceBNe,Int.reduceGT,Int.reduceGE,Nat.reduceGT,Int.reduceToNat,Int.reduceNeg,Nat.reduceLeDiff,Nat.reduceBEq,Nat.reduceBneDiff,binV,eqV,unV,oOpt,true_and,and_true,Value.cells,List.length_cons,List.length_nil,List.append_nil,List.nil_append,List.cons_append,List.drop_succ_cons,List.drop_zero,List.take_succ_cons,List.take_zero,List.take_nil,List.getElem?_cons_zero,List.getElem?_cons_succ,decide_true,decide_false,decide_eq_true_eq,decide_eq_false_iff_not,Bool.false_eq_true,Bool.true_eq_false,Bool.not_true,Bool.not_false,Bool.not_eq_true',Bool.not_eq_false',Bool.not_eq_true,Bool.not_eq_false,false_implies,true_implies,beq_iff_eq,beq_eq_false_iff_ne,bne_iff_ne,bne_eq_false_iff_eq,ne_eq,ge_iff_le,gt_iff_lt,Int.not_lt,Int.not_le,not_true_eq_false,not_false_eq_true,if_true,if_false,z6n,z6o,z6p,z6q,Heap.set_set,z6r,z6s,z6t,z6u,z6v,z6w,List.getElem_cons_zero,List.getElem_cons_succ,List.set_cons_zero,List.set_cons_succ,List.length_set,List.all_cons,List.all_nil,Bool.and_true,Bool.true_and,Bool.and_self,Nat.add_zero,Nat.zero_add,Nat.zero_lt_succ,Int.cast_ofNat_Int,List.size_toArray,List.flatten_replicate_singleton,Nat.mul_one,Nat.le_refl,Nat.lt_irrefl,Nat.le_add_left, hi1, hi2, g1, w15, w2, a15, a2, l15, l2, ge, Int.toNat_natCast]
      refine (sha_turn_c E _ _ 7 rfl (by omega) (by omega)).mono ?_
      rintro r H' ⟨rfl, rfl⟩
      simp -implicitDefEqProofs only [z00,z01,z02,z03,z04,z05,z06,z07,z08,z09,z0a,z0b,z0c,z0d,z0e,z0f,z0g,z0h,z0i,z0j,z0k,z0l,z0m,z0n,retO,retL,retV,z0o,z0p,z0q,z0r,z0s,z0t,z0u,z0v,z0w,z0x,z0y,z0z,z10,z11,z12,z13,z14,z15,z16,z17,z18,z19,z1a,z1b,z1c,z1d,z1e,z1f,z1g,z1h,z1i,z1j,z1k,z1l,z1m,z1n,z1o,z1p,z1q,z1r,z1s,z1t,z1u,z1v,z1w,z1x,z1y,z1z,z20,z21,z22,z23,z24,z25,z26,z27,z28,z29,z2a,z2b,z2c,z2d,z2e,z2f,z2g,z2h,z2i,z2j,z2k,z2l,z2m,z2n,z2o,z2p,z2q,z2r,z2s,z2t,z2u,z2v,z2w,z2x,z2y,z2z,z30,z31,z32,z33,z34,z35,z36,z37,z38,z39,z3a,z3b,z3c,z3d,z3e,z3f,z3g,z3h,z3i,z3j,z3k,z3l,z3m,z3n,z3o,z3p,z3q,z3r,z3s,z3t,z3u,z3v,z3w,z3x,z3y,z3z,z40,z41,z42,z43,z44,z45,z46,z47,z48,z49,z4a,z4b,z4c,z4d,z4e,z4f,z4g,z4h,z4i,z4j,z4k,z4l,z4m,z4n,z4o,z4p,z4q,z4r,z4s,z4t,z4u,z4v,z4w,z4x,z4y,z4z,z50,z51,z52,z53,z54,z55,z56,z57,z58,z59,z5a,z5b,z5c,z5d,z5e,z5f,z5g,z5h,z5i,z5j,z5k,z5l,z5m,z5n,z5o,z5p,z5q,z5r,z5s,z5t,z5u,z5v,z5w,z5x,z5y,z5z,z60,z61,z62,z63,z64,z65,z66,z67,z68,z69,allV,allP,z6a,z6b,z6c,z6d,z6e,z6f,z6g,z6h,z6i,z6j,z6k,z6l,z6m,Option.map_some,Option.map_none,Option.some.injEq,reduceIte,reduceCtorEq,Nat.reduceEqDiff,Nat.reduceAdd,Nat.reduceMul,Nat.reduceLT,Nat.reduceSub,Int.reduceLT,Int.reduceLE,Int.reduceEq,Int.reduceNe,Int.reduceSub,Int.reduceAdd,Int.reduceMul,Int.reduceBEq,Int.reduceBNe,Int.reduceGT,Int.reduceGE,Nat.reduceGT,Int.reduceToNat,Int.reduceNeg,Nat.reduceLeDiff,Nat.reduceBEq,Nat.reduceBneDiff,binV,eqV,unV,oOpt,true_and,and_true,Value.cells,List.length_cons,List.length_nil,List.append_nil,List.nil_append,List.cons_append,List.drop_succ_cons,List.drop_zero,List.take_succ_cons,List.take_zero,List.take_nil,List.getElem?_cons_zero,List.getElem?_cons_succ,decide_true,decide_false,decide_eq_true_eq,decide_eq_false_iff_not,Bool.false_eq_true,Bool.true_eq_false,Bool.not_true,Bool.not_false,Bool.not_eq_true',Bool.not_eq_false',Bool.not_eq_true,Bool.not_eq_false,false_implies,true_implies,beq_iff_eq,beq_eq_false_iff_ne,bne_iff_ne,bne_eq_false_iff_eq,ne_eq,ge_iff_le,gt_iff_lt,Int.not_lt,Int.not_le,not_true_eq_false,not_false_eq_true,if_true,if_false,z6n,z6o,z6p,z6q,Heap.set_set,z6r,z6s,z6t,z6u,z6v,z6w,List.getElem_cons_zero,List.getElem_cons_succ,List.set_cons_zero,List.set_cons_succ,List.length_set,List.all_cons,List.all_nil,Bool.and_true,Bool.true_and,Bool.and_self,Nat.add_zero,Nat.zero_add,Nat.zero_lt_succ,Int.cast_ofNat_Int,List.size_toArray,List.flatten_replicate_singleton,Nat.mul_one,Nat.le_refl,Nat.lt_irrefl,Nat.le_add_left]
      refine (sha_turn_c E _ _ 18 rfl (by omega) (by omega)).mono ?_
      rintro r H' ⟨rfl, rfl⟩
      simp -implicitDefEqProofs only [z00,z01,z02,z03,z04,z05,z06,z07,z08,z09,z0a,z0b,z0c,z0d,z0e,z0f,z0g,z0h,z0i,z0j,z0k,z0l,z0m,z0n,retO,retL,retV,z0o,z0p,z0q,z0r,z0s,z0t,z0u,z0v,z0w,z0x,z0y,z0z,z10,z11,z12,z13,z14,z15,z16,z17,z18,z19,z1a,z1b,z1c,z1d,z1e,z1f,z1g,z1h,z1i,z1j,z1k,z1l,z1m,z1n,z1o,z1p,z1q,z1r,z1s,z1t,z1u,z1v,z1w,z1x,z1y,z1z,z20,z21,z22,z23,z24,z25,z26,z27,z28,z29,z2a,z2b,z2c,z2d,z2e,z2f,z2g,z2h,z2i,z2j,z2k,z2l,z2m,z2n,z2o,z2p,z2q,z2r,z2s,z2t,z2u,z2v,z2w,z2x,z2y,z2z,z30,z31,z32,z33,z34,z35,z36,z37,z38,z39,z3a,z3b,z3c,z3d,z3e,z3f,z3g,z3h,z3i,z3j,z3k,z3l,z3m,z3n,z3o,z3p,z3q,z3r,z3s,z3t,z3u,z3v,z3w,z3x,z3y,z3z,z40,z41,z42,z43,z44,z45,z46,z47,z48,z49,z4a,z4b,z4c,z4d,z4e,z4f,z4g,z4h,z4i,z4j,z4k,z4l,z4m,z4n,z4o,z4p,z4q,z4r,z4s,z4t,z4u,z4v,z4w,z4x,z4y,z4z,z50,z51,z52,z53,z54,z55,z56,z57,z58,z59,z5a,z5b,z5c,z5d,z5e,z5f,z5g,z5h,z5i,z5j,z5k,z5l,z5m,z5n,z5o,z5p,z5q,z5r,z5s,z5t,z5u,z5v,z5w,z5x,z5y,z5z,z60,z61,z62,z63,z64,z65,z66,z67,z68,z69,allV,allP,z6a,z6b,z6c,z6d,z6e,z6f,z6g,z6h,z6i,z6j,z6k,z6l,z6m,Option.map_some,Option.map_none,Option.some.injEq,reduceIte,reduceCtorEq,Nat.reduceEqDiff,Nat.reduceAdd,Nat.reduceMul,Nat.reduceLT,Nat.reduceSub,Int.reduceLT,Int.reduceLE,Int.reduceEq,Int.reduceNe,Int.reduceSub,Int.reduceAdd,Int.reduceMul,Int.reduceBEq,Int.reduceBNe,Int.reduceGT,Int.reduceGE,Nat.reduceGT,Int.reduceToNat,Int.reduceNeg,Nat.reduceLeDiff,Nat.reduceBEq,Nat.reduceBneDiff,binV,eqV,unV,oOpt,true_and,and_true,Value.cells,List.length_cons,List.length_nil,List.append_nil,List.nil_append,List.cons_append,List.drop_succ_cons,List.drop_zero,List.take_succ_cons,List.take_zero,List.take_nil,List.getElem?_cons_zero,List.getElem?_cons_succ,decide_true,decide_false,decide_eq_true_eq,decide_eq_false_iff_not,Bool.false_eq_true,Bool.true_eq_false,Bool.not_true,Bool.not_false,Bool.not_eq_true',Bool.not_eq_false',Bool.not_eq_true,Bool.not_eq_false,false_implies,true_implies,beq_iff_eq,beq_eq_false_iff_ne,bne_iff_ne,bne_eq_false_iff_eq,ne_eq,ge_iff_le,gt_iff_lt,Int.not_lt,Int.not_le,not_true_eq_false,not_false_eq_true,if_true,if_false,z6n,z6o,z6p,z6q,Heap.set_set,z6r,z6s,z6t,z6u,z6v,z6w,List.getElem_cons_zero,List.getElem_cons_succ,List.set_cons_zero,List.set_cons_succ,List.length_set,List.all_cons,List.all_nil,Bool.and_true,Bool.true_and,Bool.and_self,Nat.add_zero,Nat.zero_add,Nat.zero_lt_succ,Int.cast_ofNat_Int,List.size_toArray,List.flatten_replicate_singleton,Nat.mul_one,Nat.le_refl,Nat.lt_irrefl,Nat.le_add_left, u32_xor, sh3, sh3']
      refine (sha_turn_c E _ _ 17 rfl (by omega) (by omega)).mono ?_
      rintro r H' ⟨rfl, rfl⟩
      simp -implicitDefEqProofs only [z00,z01,z02,z03,z04,z05,z06,z07,z08,z09,z0a,z0b,z0c,z0d,z0e,z0f,z0g,z0h,z0i,z0j,z0k,z0l,z0m,z0n,retO,retL,retV,z0o,z0p,z0q,z0r,z0s,z0t,z0u,z0v,z0w,z0x,z0y,z0z,z10,z11,z12,z13,z14,z15,z16,z17,z18,z19,z1a,z1b,z1c,z1d,z1e,z1f,z1g,z1h,z1i,z1j,z1k,z1l,z1m,z1n,z1o,z1p,z1q,z1r,z1s,z1t,z1u,z1v,z1w,z1x,z1y,z1z,z20,z21,z22,z23,z24,z25,z26,z27,z28,z29,z2a,z2b,z2c,z2d,z2e,z2f,z2g,z2h,z2i,z2j,z2k,z2l,z2m,z2n,z2o,z2p,z2q,z2r,z2s,z2t,z2u,z2v,z2w,z2x,z2y,z2z,z30,z31,z32,z33,z34,z35,z36,z37,z38,z39,z3a,z3b,z3c,z3d,z3e,z3f,z3g,z3h,z3i,z3j,z3k,z3l,z3m,z3n,z3o,z3p,z3q,z3r,z3s,z3t,z3u,z3v,z3w,z3x,z3y,z3z,z40,z41,z42,z43,z44,z45,z46,z47,z48,z49,z4a,z4b,z4c,z4d,z4e,z4f,z4g,z4h,z4i,z4j,z4k,z4l,z4m,z4n,z4o,z4p,z4q,z4r,z4s,z4t,z4u,z4v,z4w,z4x,z4y,z4z,z50,z51,z52,z53,z54,z55,z56,z57,z58,z59,z5a,z5b,z5c,z5d,z5e,z5f,z5g,z5h,z5i,z5j,z5k,z5l,z5m,z5n,z5o,z5p,z5q,z5r,z5s,z5t,z5u,z5v,z5w,z5x,z5y,z5z,z60,z61,z62,z63,z64,z65,z66,z67,z68,z69,allV,allP,z6a,z6b,z6c,z6d,z6e,z6f,z6g,z6h,z6i,z6j,z6k,z6l,z6m,Option.map_some,Option.map_none,Option.some.injEq,reduceIte,reduceCtorEq,Nat.reduceEqDiff,Nat.reduceAdd,Nat.reduceMul,Nat.reduceLT,Nat.reduceSub,Int.reduceLT,Int.reduceLE,Int.reduceEq,Int.reduceNe,Int.reduceSub,Int.reduceAdd,Int.reduceMul,Int.reduceBEq,Int.reduceBNe,Int.reduceGT,Int.reduceGE,Nat.reduceGT,Int.reduceToNat,Int.reduceNeg,Nat.reduceLeDiff,Nat.reduceBEq,Nat.reduceBneDiff,binV,eqV,unV,oOpt,true_and,and_true,Value.cells,List.length_cons,List.length_nil,List.append_nil,List.nil_append,List.cons_append,List.drop_succ_cons,List.drop_zero,List.take_succ_cons,List.take_zero,List.take_nil,List.getElem?_cons_zero,List.getElem?_cons_succ,decide_true,decide_false,decide_eq_true_eq,decide_eq_false_iff_not,Bool.false_eq_true,Bool.true_eq_false,Bool.not_true,Bool.not_false,Bool.not_eq_true',Bool.not_eq_false',Bool.not_eq_true,Bool.not_eq_false,false_implies,true_implies,beq_iff_eq,beq_eq_false_iff_ne,bne_iff_ne,bne_eq_false_iff_eq,ne_eq,ge_iff_le,gt_iff_lt,Int.not_lt,Int.not_le,not_true_eq_false,not_false_eq_true,if_true,if_false,z6n,z6o,z6p,z6q,Heap.set_set,z6r,z6s,z6t,z6u,z6v,z6w,List.getElem_cons_zero,List.getElem_cons_succ,List.set_cons_zero,List.set_cons_succ,List.length_set,List.all_cons,List.all_nil,Bool.and_true,Bool.true_and,Bool.and_self,Nat.add_zero,Nat.zero_add,Nat.zero_lt_succ,Int.cast_ofNat_Int,List.size_toArray,List.flatten_replicate_singleton,Nat.mul_one,Nat.le_refl,Nat.lt_irrefl,Nat.le_add_left]
      refine (sha_turn_c E _ _ 19 rfl (by omega) (by omega)).mono ?_
      rintro r H' ⟨rfl, rfl⟩
      simp -implicitDefEqProofs only [z00,z01,z02,z03,z04,z05,z06,z07,z08,z09,z0a,z0b,z0c,z0d,z0e,z0f,z0g,z0h,z0i,z0j,z0k,z0l,z0m,z0n,retO,retL,retV,z0o,z0p,z0q,z0r,z0s,z0t,z0u,z0v,z0w,z0x,z0y,z0z,z10,z11,z12,z13,z14,z15,z16,z17,z18,z19,z1a,z1b,z1c,z1d,z1e,z1f,z1g,z1h,z1i,z1j,z1k,z1l,z1m,z1n,z1o,z1p,z1q,z1r,z1s,z1t,z1u,z1v,z1w,z1x,z1y,z1z,z20,z21,z22,z23,z24,z25,z26,z27,z28,z29,z2a,z2b,z2c,z2d,z2e,z2f,z2g,z2h,z2i,z2j,z2k,z2l,z2m,z2n,z2o,z2p,z2q,z2r,z2s,z2t,z2u,z2v,z2w,z2x,z2y,z2z,z30,z31,z32,z33,z34,z35,z36,z37,z38,z39,z3a,z3b,z3c,z3d,z3e,z3f,z3g,z3h,z3i,z3j,z3k,z3l,z3m,z3n,z3o,z3p,z3q,z3r,z3s,z3t,z3u,z3v,z3w,z3x,z3y,z3z,z40,z41,z42,z43,z44,z45,z46,z47,z48,z49,z4a,z4b,z4c,z4d,z4e,z4f,z4g,z4h,z4i,z4j,z4k,z4l,z4m,z4n,z4o,z4p,z4q,z4r,z4s,z4t,z4u,z4v,z4w,z4x,z4y,z4z,z50,z51,z52,z53,z54,z55,z56,z57,z58,z59,z5a,z5b,z5c,z5d,z5e,z5f,z5g,z5h,z5i,z5j,z5k,z5l,z5m,z5n,z5o,z5p,z5q,z5r,z5s,z5t,z5u,z5v,z5w,z5x,z5y,z5z,z60,z61,z62,z63,z64,z65,z66,z67,z68,z69,allV,allP,z6a,z6b,z6c,z6d,z6e,z6f,z6g,z6h,z6i,z6j,z6k,z6l,z6m,Option.map_some,Option.map_none,Option.some.injEq,reduceIte,reduceCtorEq,Nat.reduceEqDiff,Nat.reduceAdd,Nat.reduceMul,Nat.reduceLT,Nat.reduceSub,Int.reduceLT,Int.reduceLE,Int.reduceEq,Int.reduceNe,Int.reduceSub,Int.reduceAdd,Int.reduceMul,Int.reduceBEq,Int.reduceBNe,Int.reduceGT,Int.reduceGE,Nat.reduceGT,Int.reduceToNat,Int.reduceNeg,Nat.reduceLeDiff,Nat.reduceBEq,Nat.reduceBneDiff,binV,eqV,unV,oOpt,true_and,and_true,Value.cells,List.length_cons,List.length_nil,List.append_nil,List.nil_append,List.cons_append,List.drop_succ_cons,List.drop_zero,List.take_succ_cons,List.take_zero,List.take_nil,List.getElem?_cons_zero,List.getElem?_cons_succ,decide_true,decide_false,decide_eq_true_eq,decide_eq_false_iff_not,Bool.false_eq_true,Bool.true_eq_false,Bool.not_true,Bool.not_false,Bool.not_eq_true',Bool.not_eq_false',Bool.not_eq_true,Bool.not_eq_false,false_implies,true_implies,beq_iff_eq,beq_eq_false_iff_ne,bne_iff_ne,bne_eq_false_iff_eq,ne_eq,ge_iff_le,gt_iff_lt,Int.not_lt,Int.not_le,not_true_eq_false,not_false_eq_true,if_true,if_false,z6n,z6o,z6p,z6q,Heap.set_set,z6r,z6s,z6t,z6u,z6v,z6w,List.getElem_cons_zero,List.getElem_cons_succ,List.set_cons_zero,List.set_cons_succ,List.length_set,List.all_cons,List.all_nil,Bool.and_true,Bool.true_and,Bool.and_self,Nat.add_zero,Nat.zero_add,Nat.zero_lt_succ,Int.cast_ofNat_Int,List.size_toArray,List.flatten_replicate_singleton,Nat.mul_one,Nat.le_refl,Nat.lt_irrefl,Nat.le_add_left, u32_xor, u32_add, sh10, sh10', w16, w7, a16, a7, l16, l7, ge, Int.toNat_natCast, hi1, hi2, st, w1]
      exact fin
  · have hi1 : ¬ (i : Int) < 64 := by omega
    have : i = 64 := by omega
    subst this
    have hl : hcells H ⟨b3, 0, none⟩ 64 = some (rowU (schedW b 64) 64) := by rw [hcells_at q3 (by rw [rowU_len]; omega)]; simp [List.take_of_length_le, rowU_len]
    have st : storeV H 64 (.pointer (some ⟨b2, 0, none⟩)) (.agg (rowU (schedW b 64) 64).toArray) = some (H.set b2 (.own 0 (rowU (schedW b 64) 64) 64)) := storeV_agg_at q2 (by omega) (rowU_len _ _) (rowU_one _ _) (rowU_len _ _) (by omega)
    have hl2 : hcells (H.set b2 (.own 0 (rowU (schedW b 64) 64) 64)) ⟨b2, 0, none⟩ 64 = some (rowU (schedW b 64) 64) := z6o (rowU_len _ _)
    simp -implicitDefEqProofs only [z00,z01,z02,z03,z04,z05,z06,z07,z08,z09,z0a,z0b,z0c,z0d,z0e,z0f,z0g,z0h,z0i,z0j,z0k,z0l,z0m,z0n,retO,retL,retV,z0o,z0p,z0q,z0r,z0s,z0t,z0u,z0v,z0w,z0x,z0y,z0z,z10,z11,z12,z13,z14,z15,z16,z17,z18,z19,z1a,z1b,z1c,z1d,z1e,z1f,z1g,z1h,z1i,z1j,z1k,z1l,z1m,z1n,z1o,z1p,z1q,z1r,z1s,z1t,z1u,z1v,z1w,z1x,z1y,z1z,z20,z21,z22,z23,z24,z25,z26,z27,z28,z29,z2a,z2b,z2c,z2d,z2e,z2f,z2g,z2h,z2i,z2j,z2k,z2l,z2m,z2n,z2o,z2p,z2q,z2r,z2s,z2t,z2u,z2v,z2w,z2x,z2y,z2z,z30,z31,z32,z33,z34,z35,z36,z37,z38,z39,z3a,z3b,z3c,z3d,z3e,z3f,z3g,z3h,z3i,z3j,z3k,z3l,z3m,z3n,z3o,z3p,z3q,z3r,z3s,z3t,z3u,z3v,z3w,z3x,z3y,z3z,z40,z41,z42,z43,z44,z45,z46,z47,z48,z49,z4a,z4b,z4c,z4d,z4e,z4f,z4g,z4h,z4i,z4j,z4k,z4l,z4m,z4n,z4o,z4p,z4q,z4r,z4s,z4t,z4u,z4v,z4w,z4x,z4y,z4z,z50,z51,z52,z53,z54,z55,z56,z57,z58,z59,z5a,z5b,z5c,z5d,z5e,z5f,z5g,z5h,z5i,z5j,z5k,z5l,z5m,z5n,z5o,z5p,z5q,z5r,z5s,z5t,z5u,z5v,z5w,z5x,z5y,z5z,z60,z61,z62,z63,z64,z65,z66,z67,z68,z69,allV,allP,z6a,z6b,z6c,z6d,z6e,z6f,z6g,z6h,z6i,z6j,z6k,z6l,z6m,Option.map_some,Option.map_none,Option.some.injEq,reduceIte,reduceCtorEq,Nat.reduceEqDiff,Nat.reduceAdd,Nat.reduceMul,Nat.reduceLT,Nat.reduceSub,Int.reduceLT,Int.reduceLE,Int.reduceEq,Int.reduceNe,Int.reduceSub,Int.reduceAdd,Int.reduceMul,Int.reduceBEq,Int.reduceBNe,Int.reduceGT,Int.reduceGE,Nat.reduceGT,Int.reduceToNat,Int.reduceNeg,Nat.reduceLeDiff,Nat.reduceBEq,Nat.reduceBneDiff,binV,eqV,unV,oOpt,true_and,and_true,Value.cells,List.length_cons,List.length_nil,List.append_nil,List.nil_append,List.cons_append,List.drop_succ_cons,List.drop_zero,List.take_succ_cons,List.take_zero,List.take_nil,List.getElem?_cons_zero,List.getElem?_cons_succ,decide_true,decide_false,decide_eq_true_eq,decide_eq_false_iff_not,Bool.false_eq_true,Bool.true_eq_false,Bool.not_true,Bool.not_false,Bool.not_eq_true',Bool.not_eq_false',Bool.not_eq_true,Bool.not_eq_false,false_implies,true_implies,beq_iff_eq,beq_eq_false_iff_ne,bne_iff_ne,bne_eq_false_iff_eq,ne_eq,ge_iff_le,gt_iff_lt,Int.not_lt,Int.not_le,not_true_eq_false,not_false_eq_true,if_true,if_false,z6n,z6o,z6p,z6q,Heap.set_set,z6r,z6s,z6t,z6u,z6v,z6w,List.getElem_cons_zero,List.getElem_cons_succ,List.set_cons_zero,List.set_cons_succ,List.length_set,List.all_cons,List.all_nil,Bool.and_true,Bool.true_and,Bool.and_self,Nat.add_zero,Nat.zero_add,Nat.zero_lt_succ,Int.cast_ofNat_Int,List.size_toArray,List.flatten_replicate_singleton,Nat.mul_one,Nat.le_refl,Nat.lt_irrefl,Nat.le_add_left, hi1, hl, st, hl2]
    exact Heap.le_set hle hb2 _
end Go.Bb
