/- My contracts: BbW32 BbUl BbCoct BbCbig BbPsha BbCoct2 BbUj BbUq BbRow BbPref4 BbCoct3 BbCmul BbCpoly0 BbCpoly1 BbCpoly2 BbCpoly3 BbCoct4 BbCpoly4 BbCslc BbCpoly5 BbLpoly2 BbPref5 BbPcha BbCsha0 BbCsha1 BbCcha0 BbUk BbUm BbCcha1 BbCwrd BbCcha2 BbCcha3 BbUe BbCsha2 BbCsha3 BbCsha4 BbCsha5 BbCsha6 BbCsha7. -/
import Derived.Test.YtefmgcklhkjalaaDoorBbG3
import Derived.Test.YtefmgcklhkjalaaDoorBbTab
import Derived.Test.YtefmgcklhkjalaaDoorBbG4
/- Words: numbers of fixed width, as the walk meets them. -/
namespace Go.Bb
set_option linter.unusedSimpArgs false
set_option linter.unusedVariables false

abbrev U32 := BitVec 32
abbrev U64 := BitVec 64
def u8V (b : UInt8) : Value := .int .u8 b.toNat
def u64V (x : U64) : Value := .int .u64 x.toNat

theorem wrap_u32 (n : Int) : IntKind.u32.wrap n = ((BitVec.ofInt 32 n).toNat : Int) := by
  simp only [IntKind.wrap, IntKind.bits, IntKind.signed, BitVec.toNat_ofInt]
  simp
  omega
theorem wrap_u64 (n : Int) : IntKind.u64.wrap n = ((BitVec.ofInt 64 n).toNat : Int) := by
  simp only [IntKind.wrap, IntKind.bits, IntKind.signed, BitVec.toNat_ofInt]
  simp
  omega
theorem wrap_u8 (n : Int) : IntKind.u8.wrap n = ((BitVec.ofInt 8 n).toNat : Int) := by
  simp only [IntKind.wrap, IntKind.bits, IntKind.signed, BitVec.toNat_ofInt]
  simp
  omega
theorem ofInt_nat (w n : Nat) : BitVec.ofInt w (n : Int) = BitVec.ofNat w n := by simp
theorem ofInt_toNat {w : Nat} (x : BitVec w) : BitVec.ofInt w (x.toNat : Int) = x := by rw [ofInt_nat]; simp

section
variable (x y : U32) (n : Nat)
theorem u32_add : IntKind.u32.wrap ((x.toNat : Int) + (y.toNat : Int)) = ((x + y).toNat : Int) := by
  rw [wrap_u32]; congr 1
theorem u32_xor : IntKind.u32.wrap ((BitVec.ofInt IntKind.u32.bits (x.toNat : Int) ^^^ BitVec.ofInt IntKind.u32.bits (y.toNat : Int)).toNat : Int) = ((x ^^^ y).toNat : Int) := by
  rw [show IntKind.u32.bits = 32 from rfl, ofInt_toNat, ofInt_toNat, wrap_u32, ofInt_toNat]
theorem u32_or : IntKind.u32.wrap ((BitVec.ofInt IntKind.u32.bits (x.toNat : Int) ||| BitVec.ofInt IntKind.u32.bits (y.toNat : Int)).toNat : Int) = ((x ||| y).toNat : Int) := by
  rw [show IntKind.u32.bits = 32 from rfl, ofInt_toNat, ofInt_toNat, wrap_u32, ofInt_toNat]
theorem u32_shl (h : n ≤ 32) : IntKind.u32.wrap ((x.toNat : Int) * 2 ^ (min n IntKind.u32.bits)) = ((x <<< n).toNat : Int) := by
  rw [show IntKind.u32.bits = 32 from rfl, Nat.min_eq_left h, wrap_u32]
  have : ((x.toNat : Int) * 2 ^ n) = ((x.toNat * 2 ^ n : Nat) : Int) := by simp
  rw [this, ofInt_nat]
  simp [BitVec.toNat_shiftLeft, Nat.shiftLeft_eq]
theorem u32_shr (h : n ≤ 32) : ((x.toNat : Int).fdiv (2 ^ (min n IntKind.u32.bits))) = ((x >>> n).toNat : Int) := by
  rw [show IntKind.u32.bits = 32 from rfl, Nat.min_eq_left h, Int.fdiv_eq_ediv_of_nonneg _ (Int.le_of_lt (Int.pow_pos (by omega)))]
  simp [BitVec.toNat_ushiftRight, Nat.shiftRight_eq_div_pow]
theorem u32_u64 : IntKind.u64.wrap (x.toNat : Int) = ((x.setWidth 64).toNat : Int) := by
  rw [wrap_u64, ofInt_nat]; simp
theorem u64_u32 (z : U64) : IntKind.u32.wrap (z.toNat : Int) = ((z.setWidth 32).toNat : Int) := by
  rw [wrap_u32, ofInt_nat]; simp
end
section
variable (x y : U64) (n : Nat)
theorem u64_and : IntKind.u64.wrap ((BitVec.ofInt IntKind.u64.bits (x.toNat : Int) &&& BitVec.ofInt IntKind.u64.bits (y.toNat : Int)).toNat : Int) = ((x &&& y).toNat : Int) := by
  rw [show IntKind.u64.bits = 64 from rfl, ofInt_toNat, ofInt_toNat, wrap_u64, ofInt_toNat]
theorem u64_or : IntKind.u64.wrap ((BitVec.ofInt IntKind.u64.bits (x.toNat : Int) ||| BitVec.ofInt IntKind.u64.bits (y.toNat : Int)).toNat : Int) = ((x ||| y).toNat : Int) := by
  rw [show IntKind.u64.bits = 64 from rfl, ofInt_toNat, ofInt_toNat, wrap_u64, ofInt_toNat]
theorem u64_shl (h : n ≤ 64) : IntKind.u64.wrap ((x.toNat : Int) * 2 ^ (min n IntKind.u64.bits)) = ((x <<< n).toNat : Int) := by
  rw [show IntKind.u64.bits = 64 from rfl, Nat.min_eq_left h, wrap_u64]
  have : ((x.toNat : Int) * 2 ^ n) = ((x.toNat * 2 ^ n : Nat) : Int) := by simp
  rw [this, ofInt_nat]
  simp [BitVec.toNat_shiftLeft, Nat.shiftLeft_eq]
theorem u64_shr (h : n ≤ 64) : ((x.toNat : Int).fdiv (2 ^ (min n IntKind.u64.bits))) = ((x >>> n).toNat : Int) := by
  rw [show IntKind.u64.bits = 64 from rfl, Nat.min_eq_left h, Int.fdiv_eq_ediv_of_nonneg _ (Int.le_of_lt (Int.pow_pos (by omega)))]
  simp [BitVec.toNat_ushiftRight, Nat.shiftRight_eq_div_pow]
theorem u8_u64 (b : UInt8) : IntKind.u64.wrap (b.toNat : Int) = ((BitVec.ofNat 64 b.toNat).toNat : Int) := by
  rw [wrap_u64, ofInt_nat]
theorem u64_u8 (z : U64) : IntKind.u8.wrap (z.toNat : Int) = ((UInt8.ofNat z.toNat).toNat : Int) := by
  rw [wrap_u8, ofInt_nat]; simp
end
end Go.Bb
/- Slices of bytes. -/
namespace Go.Bb
set_option linter.unusedSimpArgs false
set_option linter.unusedVariables false

abbrev SlB (h : Heap) (v : Value) (l : List UInt8) : Prop := Sl h 1 v l.length (l.map u8V)
abbrev OwB (h0 h : Heap) (v : Value) (l : List UInt8) : Prop := Ow h0 h 1 v l.length (l.map u8V)
theorem one_u8 (l : List UInt8) : (l.map u8V).all one = true := by simp [u8V, one]
theorem wrapI {n : Int} (h0 : -9223372036854775808 ≤ n) (h1 : n ≤ 9223372036854775807) : IntKind.i64.wrap n = n := by
  simp [IntKind.wrap, IntKind.bits, IntKind.signed]; omega
theorem wrapN {n : Nat} (h1 : n ≤ 9223372036854775806) : IntKind.i64.wrap ((n : Int) + 1) = ((n + 1 : Nat) : Int) := by rw [wrapI (by omega) (by omega)]; rfl

/-- A byte of a slice. -/
theorem Sl.byte_at {h : Heap} {v : Value} {l : List UInt8} (s : SlB h v l) (j : Nat) (hj : j < l.length) :
    ∃ b o c, v = .slice (some ⟨b, o, none⟩) l.length c ∧ l.length ≤ c ∧ ∀ H, h.le H → hcell H ⟨b, o + j, none⟩ = some (u8V l[j]) := by
  obtain ⟨b, o, c, hv, hc, hcl⟩ := s.ptr (by omega) (by omega)
  refine ⟨b, o, c, hv, hc, fun H hle => ?_⟩
  rw [Nat.mul_one] at hcl
  rw [hcell_of (hcells_le hle hcl) j hj]
  simp [hj]
end Go.Bb
/- Contracts: bytes. -/
namespace Go.Bb
set_option linter.unusedSimpArgs false
set_option linter.unusedVariables false
set_option maxRecDepth 20000

theorem Clone_c (E : EnvT tab) (h : Heap) {v : Value} (l : List UInt8) (hl : l.length ≤ 140737488355328) (s : SlB h v l) : ACallN E.toEnv n_slices_Clone_byte_byte [v] h fun r h' => h.le h' ∧ OwB h h' r l := by
  refine acall h_slices_Clone_byte_byte ir_slices_Clone_byte_byte rfl rfl (wpA_sound ?_)
  unfold ir_slices_Clone_byte_byte
  rcases s with ⟨rfl, hn, hc⟩ | ⟨a, c, rfl, hc, hcl⟩
  · simp -implicitDefEqProofs only [zB1,zB2,zB3,zB4,zB5,zB6,zB7,zB8,zB9,zB10,zB11,y00,y01,y02,y03,y04,y05,y06,y07,y08,y09,y0a,y0b,y0c,y0d,y0e,y0f,y0g,y0h,y0i,y0j,y0k,y0l,y0m,y0n,y0o,y0p,y0q,y0r,y0s,y0t,y0u,y0v,y0w,y0x,y0y,y0z,y10,y11,y12,y13,y14,y15,y16,y17,y18,y19,y1a,y1b,y1c,y1d,y1e,y1f,y1g,y1h,y1i,y1j,y1k,y1l,y1m,y1n,y1o,y1p,y1q,y1r,retO,retL,retV,z69,allV,allP,z6a,z6d,z6e,z6k,z6l,z6m,binV,eqV,unV,oOpt,reduceIte,reduceCtorEq,Nat.reduceEqDiff,Nat.reduceAdd,Nat.reduceMul,Nat.reduceLT,Nat.reduceSub,Int.reduceLT,Int.reduceLE,Int.reduceEq,Int.reduceNe,Int.reduceSub,Int.reduceAdd,Int.reduceMul,Int.reduceBEq,Int.reduceBNe,Int.reduceGT,Int.reduceGE,Nat.reduceGT,Int.reduceToNat,Int.reduceNeg,Nat.reduceLeDiff,Nat.reduceBEq,Nat.reduceBneDiff,Value.cells, Option.isNone]
    have : l = [] := List.eq_nil_of_length_eq_zero hn
    subst this
    exact ⟨Heap.le_refl _, Ow.nil _ _ _⟩
  · have s : SlB h (.slice (some a) l.length c) l := .inr ⟨a, c, rfl, hc, hcl⟩
    simp -implicitDefEqProofs only [zB1,zB2,zB3,zB4,zB5,zB6,zB7,zB8,zB9,zB10,zB11,y00,y01,y02,y03,y04,y05,y06,y07,y08,y09,y0a,y0b,y0c,y0d,y0e,y0f,y0g,y0h,y0i,y0j,y0k,y0l,y0m,y0n,y0o,y0p,y0q,y0r,y0s,y0t,y0u,y0v,y0w,y0x,y0y,y0z,y10,y11,y12,y13,y14,y15,y16,y17,y18,y19,y1a,y1b,y1c,y1d,y1e,y1f,y1g,y1h,y1i,y1j,y1k,y1l,y1m,y1n,y1o,y1p,y1q,y1r,retO,retL,retV,z69,allV,allP,z6a,z6d,z6e,z6k,z6l,z6m,binV,eqV,unV,oOpt,reduceIte,reduceCtorEq,Nat.reduceEqDiff,Nat.reduceAdd,Nat.reduceMul,Nat.reduceLT,Nat.reduceSub,Int.reduceLT,Int.reduceLE,Int.reduceEq,Int.reduceNe,Int.reduceSub,Int.reduceAdd,Int.reduceMul,Int.reduceBEq,Int.reduceBNe,Int.reduceGT,Int.reduceGE,Nat.reduceGT,Int.reduceToNat,Int.reduceNeg,Nat.reduceLeDiff,Nat.reduceBEq,Nat.reduceBneDiff,Value.cells, Option.isNone]
    intro b1 hb1
    try simp -implicitDefEqProofs only [zB1,zB2,zB3,zB4,zB5,zB6,zB7,zB8,zB9,zB10,zB11,y00,y01,y02,y03,y04,y05,y06,y07,y08,y09,y0a,y0b,y0c,y0d,y0e,y0f,y0g,y0h,y0i,y0j,y0k,y0l,y0m,y0n,y0o,y0p,y0q,y0r,y0s,y0t,y0u,y0v,y0w,y0x,y0y,y0z,y10,y11,y12,y13,y14,y15,y16,y17,y18,y19,y1a,y1b,y1c,y1d,y1e,y1f,y1g,y1h,y1i,y1j,y1k,y1l,y1m,y1n,y1o,y1p,y1q,y1r,retO,retL,retV,z69,allV,allP,z6a,z6d,z6e,z6k,z6l,z6m,binV,eqV,unV,oOpt,reduceIte,reduceCtorEq,Nat.reduceEqDiff,Nat.reduceAdd,Nat.reduceMul,Nat.reduceLT,Nat.reduceSub,Int.reduceLT,Int.reduceLE,Int.reduceEq,Int.reduceNe,Int.reduceSub,Int.reduceAdd,Int.reduceMul,Int.reduceBEq,Int.reduceBNe,Int.reduceGT,Int.reduceGE,Nat.reduceGT,Int.reduceToNat,Int.reduceNeg,Nat.reduceLeDiff,Nat.reduceBEq,Nat.reduceBneDiff,Value.cells]
    refine appendP_ow (bytes := 1) (n := 0) (cells := []) (m := l.length) (news := l.map u8V) (Heap.le_set (Heap.le_refl _) hb1 _) (by omega) (Ow.new (Heap.le_refl _) hb1 rfl (by omega) (by omega)) (s.le (Heap.le_set (Heap.le_refl _) hb1 _)) (one_u8 l) (by omega) (by omega) ?_
    intro v' h' ow le'
    rw [Nat.zero_add, List.nil_append] at ow
    simp -implicitDefEqProofs only [zB1,zB2,zB3,zB4,zB5,zB6,zB7,zB8,zB9,zB10,zB11,y00,y01,y02,y03,y04,y05,y06,y07,y08,y09,y0a,y0b,y0c,y0d,y0e,y0f,y0g,y0h,y0i,y0j,y0k,y0l,y0m,y0n,y0o,y0p,y0q,y0r,y0s,y0t,y0u,y0v,y0w,y0x,y0y,y0z,y10,y11,y12,y13,y14,y15,y16,y17,y18,y19,y1a,y1b,y1c,y1d,y1e,y1f,y1g,y1h,y1i,y1j,y1k,y1l,y1m,y1n,y1o,y1p,y1q,y1r,retO,retL,retV,z69,allV,allP,z6a,z6d,z6e,z6k,z6l,z6m,binV,eqV,unV,oOpt,reduceIte,reduceCtorEq,Nat.reduceEqDiff,Nat.reduceAdd,Nat.reduceMul,Nat.reduceLT,Nat.reduceSub,Int.reduceLT,Int.reduceLE,Int.reduceEq,Int.reduceNe,Int.reduceSub,Int.reduceAdd,Int.reduceMul,Int.reduceBEq,Int.reduceBNe,Int.reduceGT,Int.reduceGE,Nat.reduceGT,Int.reduceToNat,Int.reduceNeg,Nat.reduceLeDiff,Nat.reduceBEq,Nat.reduceBneDiff,Value.cells]
    exact ⟨le', ow⟩

/-! ### numbers, the highest byte first -/
def fromBigF (l : List UInt8) : U64 := l.foldl (fun v b => v <<< 8 ||| BitVec.ofNat 64 b.toNat) 0
theorem octet_FromBig_c (E : EnvT tab) (h : Heap) {v : Value} (l : List UInt8) (hl : l.length ≤ 8) (s : SlB h v l) : ACallN E.toEnv n_octet_FromBig [v] h fun r h' => h' = h ∧ r = .tuple #[u64V (fromBigF l), .int .i64 0] := by
  obtain ⟨base, c, rfl⟩ := Sl.shape s
  refine acall h_octet_FromBig ir_octet_FromBig rfl rfl (wpA_sound ?_)
  unfold ir_octet_FromBig
  have g1 : ¬ (8 : Int) < l.length := by omega
  simp -implicitDefEqProofs only [zB1,zB2,zB3,zB4,zB5,zB6,zB7,zB8,zB9,zB10,zB11,y00,y01,y02,y03,y04,y05,y06,y07,y08,y09,y0a,y0b,y0c,y0d,y0e,y0f,y0g,y0h,y0i,y0j,y0k,y0l,y0m,y0n,y0o,y0p,y0q,y0r,y0s,y0t,y0u,y0v,y0w,y0x,y0y,y0z,y10,y11,y12,y13,y14,y15,y16,y17,y18,y19,y1a,y1b,y1c,y1d,y1e,y1f,y1g,y1h,y1i,y1j,y1k,y1l,y1m,y1n,y1o,y1p,y1q,y1r,retO,retL,retV,z69,allV,allP,z6a,z6d,z6e,z6k,z6l,z6m,binV,eqV,unV,oOpt,reduceIte,reduceCtorEq,Nat.reduceEqDiff,Nat.reduceAdd,Nat.reduceMul,Nat.reduceLT,Nat.reduceSub,Int.reduceLT,Int.reduceLE,Int.reduceEq,Int.reduceNe,Int.reduceSub,Int.reduceAdd,Int.reduceMul,Int.reduceBEq,Int.reduceBNe,Int.reduceGT,Int.reduceGE,Nat.reduceGT,Int.reduceToNat,Int.reduceNeg,Nat.reduceLeDiff,Nat.reduceBEq,Nat.reduceBneDiff,Value.cells, g1]
  refine wp_loop' (fun m t H => H = h ∧ ∃ (j : Nat), t = tl [(4, .int .u64 (fromBigF (l.take j)).toNat), (10, .slice base l.length c), (11, .int .i64 l.length), (12, .int .i64 j)] ∧ j ≤ l.length ∧ m = l.length - j) l.length
    ⟨rfl, 0, rfl, by omega, by omega⟩ ?_
  rintro m t H ⟨rfl, j, rfl, hj, rfl⟩
  by_cases hlt : j < l.length
  · obtain ⟨b, o, c', hv, hc, hcl⟩ := Sl.byte_at s j hlt
    simp only [Value.slice.injEq, true_and] at hv
    obtain ⟨rfl, rfl⟩ := hv
    have hz := hcl H (Heap.le_refl _)
    unfold u8V at hz
    have e1 : (j : Int) < l.length := by omega
    have e2 : (0 : Int) ≤ j := by omega
    simp -implicitDefEqProofs only [zB1,zB2,zB3,zB4,zB5,zB6,zB7,zB8,zB9,zB10,zB11,y00,y01,y02,y03,y04,y05,y06,y07,y08,y09,y0a,y0b,y0c,y0d,y0e,y0f,y0g,y0h,y0i,y0j,y0k,y0l,y0m,y0n,y0o,y0p,y0q,y0r,y0s,y0t,y0u,y0v,y0w,y0x,y0y,y0z,y10,y11,y12,y13,y14,y15,y16,y17,y18,y19,y1a,y1b,y1c,y1d,y1e,y1f,y1g,y1h,y1i,y1j,y1k,y1l,y1m,y1n,y1o,y1p,y1q,y1r,retO,retL,retV,z69,allV,allP,z6a,z6d,z6e,z6k,z6l,z6m,binV,eqV,unV,oOpt,reduceIte,reduceCtorEq,Nat.reduceEqDiff,Nat.reduceAdd,Nat.reduceMul,Nat.reduceLT,Nat.reduceSub,Int.reduceLT,Int.reduceLE,Int.reduceEq,Int.reduceNe,Int.reduceSub,Int.reduceAdd,Int.reduceMul,Int.reduceBEq,Int.reduceBNe,Int.reduceGT,Int.reduceGE,Nat.reduceGT,Int.reduceToNat,Int.reduceNeg,Nat.reduceLeDiff,Nat.reduceBEq,Nat.reduceBneDiff,Value.cells, e1, e2, hz, Int.toNat_natCast, u64_shl, u8_u64, u64_or, wrapN (n := j) (by omega)]
    refine ⟨_, ?_, j + 1, ?_, hlt, rfl⟩
    · omega
    · rw [List.take_succ_eq_append_getElem hlt]
      simp only [fromBigF, List.foldl_append, List.foldl_cons, List.foldl_nil]
  · have e1 : ¬ (j : Int) < l.length := by omega
    have : j = l.length := by omega
    subst this
    rw [List.take_length]
    simp -implicitDefEqProofs only [zB1,zB2,zB3,zB4,zB5,zB6,zB7,zB8,zB9,zB10,zB11,y00,y01,y02,y03,y04,y05,y06,y07,y08,y09,y0a,y0b,y0c,y0d,y0e,y0f,y0g,y0h,y0i,y0j,y0k,y0l,y0m,y0n,y0o,y0p,y0q,y0r,y0s,y0t,y0u,y0v,y0w,y0x,y0y,y0z,y10,y11,y12,y13,y14,y15,y16,y17,y18,y19,y1a,y1b,y1c,y1d,y1e,y1f,y1g,y1h,y1i,y1j,y1k,y1l,y1m,y1n,y1o,y1p,y1q,y1r,retO,retL,retV,z69,allV,allP,z6a,z6d,z6e,z6k,z6l,z6m,binV,eqV,unV,oOpt,reduceIte,reduceCtorEq,Nat.reduceEqDiff,Nat.reduceAdd,Nat.reduceMul,Nat.reduceLT,Nat.reduceSub,Int.reduceLT,Int.reduceLE,Int.reduceEq,Int.reduceNe,Int.reduceSub,Int.reduceAdd,Int.reduceMul,Int.reduceBEq,Int.reduceBNe,Int.reduceGT,Int.reduceGE,Nat.reduceGT,Int.reduceToNat,Int.reduceNeg,Nat.reduceLeDiff,Nat.reduceBEq,Nat.reduceBneDiff,Value.cells, e1]
    rfl

end Go.Bb
/- Contracts: numbers written, the highest byte first. -/
namespace Go.Bb
set_option linter.unusedSimpArgs false
set_option linter.unusedVariables false
set_option maxRecDepth 20000

end Go.Bb
/- Sums of bytes, in plain words. -/
namespace Go.Bb
set_option linter.unusedSimpArgs false
set_option linter.unusedVariables false

/-! ### rows of words, as functions of the place -/
def rowU (f : Nat → U32) (n : Nat) : List Value := (List.range n).map fun j => .int .u32 (f j).toNat
theorem rowU_len (f : Nat → U32) (n : Nat) : (rowU f n).length = n := by simp [rowU]
theorem rowU_get (f : Nat → U32) {n j : Nat} (h : j < (rowU f n).length) : (rowU f n)[j] = .int .u32 (f j).toNat := by simp [rowU]
def updU (f : Nat → U32) (i : Nat) (z : U32) : Nat → U32 := fun j => if j = i then z else f j
theorem rowU_set (f : Nat → U32) (n i : Nat) (z : U32) : (rowU f n).set i (.int .u32 z.toNat) = rowU (updU f i z) n := by
  apply List.ext_getElem
  · simp [rowU]
  · intro j h1 h2
    rw [List.getElem_set, rowU_get, rowU_get]
    unfold updU
    by_cases e : i = j
    · subst e; simp
    · rw [if_neg e, if_neg (Ne.symm e)]
theorem rowU_at {H : Heap} {b n j sz : Nat} {f : Nat → U32} (h : H b = some (.own 0 (rowU f n) sz)) (hj : j < n) : hcell H ⟨b, j, none⟩ = some (.int .u32 (f j).toNat) := by
  rw [hcell_at h (by rw [rowU_len]; exact hj), rowU_get]
theorem rowU_store {H : Heap} {b n j : Nat} {f : Nat → U32} {z : U32} (h : H b = some (.own 0 (rowU f n) n)) (hj : j < n) : storeV H 1 (.pointer (some ⟨b, j, none⟩)) (.int .u32 z.toNat) = some (H.set b (.own 0 (rowU (updU f j z) n) n)) := by
  rw [storeV_one_at h rfl (by rw [rowU_len]; exact hj) (by rw [rowU_len]; omega), rowU_set]
theorem rowU_one (f : Nat → U32) (n : Nat) : (rowU f n).all one = true := by simp [rowU, one]
theorem rowU_congr {f g : Nat → U32} {n : Nat} (h : ∀ j, j < n → f j = g j) : rowU f n = rowU g n := by
  unfold rowU
  apply List.map_congr_left
  intro j hj
  rw [h j (List.mem_range.1 hj)]

/-! ### the sum -/
def turnF (x : U32) (n : Nat) : U32 := x <<< (32 - n) ||| x >>> n
end Go.Bb
/- Contracts: numbers, the lowest byte first. -/
namespace Go.Bb
set_option linter.unusedSimpArgs false
set_option linter.unusedVariables false
set_option maxRecDepth 20000

def littleF (v : U64) (n : Nat) : List UInt8 := (List.range n).map fun i => UInt8.ofNat (v >>> (8 * i)).toNat
theorem littleF_len (v : U64) (n : Nat) : (littleF v n).length = n := by simp [littleF]
theorem littleF_succ (v : U64) (n : Nat) : littleF v (n + 1) = littleF v n ++ [UInt8.ofNat (v >>> (8 * n)).toNat] := by simp [littleF, List.range_succ]
theorem octet_Little_c (E : EnvT tab) (h : Heap) {b : Value} (l : List UInt8) (hl : l.length ≤ 140737488355000) (s : SlB h b l) (v : U64) (n : Nat) (hn : n ≤ 8) : ACallN E.toEnv n_octet_Little [b, .int .u64 v.toNat, .int .i64 n] h fun r h' => h.le h' ∧ OwB h h' r (l ++ littleF v n) := by
  refine acall h_octet_Little ir_octet_Little rfl rfl (wpA_sound ?_)
  unfold ir_octet_Little
  simp -implicitDefEqProofs only [zB1,zB2,zB3,zB4,zB5,zB6,zB7,zB8,zB9,zB10,zB11,y00,y01,y02,y03,y04,y05,y06,y07,y08,y09,y0a,y0b,y0c,y0d,y0e,y0f,y0g,y0h,y0i,y0j,y0k,y0l,y0m,y0n,y0o,y0p,y0q,y0r,y0s,y0t,y0u,y0v,y0w,y0x,y0y,y0z,y10,y11,y12,y13,y14,y15,y16,y17,y18,y19,y1a,y1b,y1c,y1d,y1e,y1f,y1g,y1h,y1i,y1j,y1k,y1l,y1m,y1n,y1o,y1p,y1q,y1r,retO,retL,retV,z69,allV,allP,z6a,z6d,z6e,z6k,z6l,z6m,binV,eqV,unV,oOpt,reduceIte,reduceCtorEq,Nat.reduceEqDiff,Nat.reduceAdd,Nat.reduceMul,Nat.reduceLT,Nat.reduceSub,Int.reduceLT,Int.reduceLE,Int.reduceEq,Int.reduceNe,Int.reduceSub,Int.reduceAdd,Int.reduceMul,Int.reduceBEq,Int.reduceBNe,Int.reduceGT,Int.reduceGE,Nat.reduceGT,Int.reduceToNat,Int.reduceNeg,Nat.reduceLeDiff,Nat.reduceBEq,Nat.reduceBneDiff,Value.cells]
  refine (Clone_c E h l (by omega) s).mono ?_
  rintro r h1 ⟨le1, ow⟩
  have g1 : ¬ (8 : Int) < n := by omega
  have g2 : ¬ (n : Int) < 0 := by omega
  simp -implicitDefEqProofs only [zB1,zB2,zB3,zB4,zB5,zB6,zB7,zB8,zB9,zB10,zB11,y00,y01,y02,y03,y04,y05,y06,y07,y08,y09,y0a,y0b,y0c,y0d,y0e,y0f,y0g,y0h,y0i,y0j,y0k,y0l,y0m,y0n,y0o,y0p,y0q,y0r,y0s,y0t,y0u,y0v,y0w,y0x,y0y,y0z,y10,y11,y12,y13,y14,y15,y16,y17,y18,y19,y1a,y1b,y1c,y1d,y1e,y1f,y1g,y1h,y1i,y1j,y1k,y1l,y1m,y1n,y1o,y1p,y1q,y1r,retO,retL,retV,z69,allV,allP,z6a,z6d,z6e,z6k,z6l,z6m,binV,eqV,unV,oOpt,reduceIte,reduceCtorEq,Nat.reduceEqDiff,Nat.reduceAdd,Nat.reduceMul,Nat.reduceLT,Nat.reduceSub,Int.reduceLT,Int.reduceLE,Int.reduceEq,Int.reduceNe,Int.reduceSub,Int.reduceAdd,Int.reduceMul,Int.reduceBEq,Int.reduceBNe,Int.reduceGT,Int.reduceGE,Nat.reduceGT,Int.reduceToNat,Int.reduceNeg,Nat.reduceLeDiff,Nat.reduceBEq,Nat.reduceBneDiff,Value.cells, g1, g2]
  refine wp_loop' (fun m t H => h.le H ∧ ∃ (j : Nat) (v7 : Value), t = tl [(1, .int .u64 v.toNat), (7, v7), (13, .int .i64 n), (14, .int .i64 j)] ∧ j ≤ n ∧ m = n - j ∧ OwB h H v7 (l ++ littleF v j)) n
    ⟨le1, 0, _, rfl, by omega, by omega, by simpa [littleF] using ow⟩ ?_
  rintro m t H ⟨leH, j, v7, rfl, hj, rfl, ow'⟩
  by_cases hlt : j < n
  · have e1 : (j : Int) < n := by omega
    have w1 : IntKind.i64.wrap (8 * (j : Int)) = ((8 * j : Nat) : Int) := by rw [wrapI (by omega) (by omega)]; omega
    have w2 : IntKind.i64.wrap ((j : Int) + 1) = ((j + 1 : Nat) : Int) := wrapN (by omega)
    have n1 : ¬ (((8 * j : Nat) : Int) < 0) := by omega
    have sh : ((v.toNat : Int).fdiv (2 ^ (min (8 * j) IntKind.u64.bits))) = ((v >>> (8 * j)).toNat : Int) := u64_shr v (8 * j) (by omega)
    simp -implicitDefEqProofs only [zB1,zB2,zB3,zB4,zB5,zB6,zB7,zB8,zB9,zB10,zB11,y00,y01,y02,y03,y04,y05,y06,y07,y08,y09,y0a,y0b,y0c,y0d,y0e,y0f,y0g,y0h,y0i,y0j,y0k,y0l,y0m,y0n,y0o,y0p,y0q,y0r,y0s,y0t,y0u,y0v,y0w,y0x,y0y,y0z,y10,y11,y12,y13,y14,y15,y16,y17,y18,y19,y1a,y1b,y1c,y1d,y1e,y1f,y1g,y1h,y1i,y1j,y1k,y1l,y1m,y1n,y1o,y1p,y1q,y1r,retO,retL,retV,z69,allV,allP,z6a,z6d,z6e,z6k,z6l,z6m,binV,eqV,unV,oOpt,reduceIte,reduceCtorEq,Nat.reduceEqDiff,Nat.reduceAdd,Nat.reduceMul,Nat.reduceLT,Nat.reduceSub,Int.reduceLT,Int.reduceLE,Int.reduceEq,Int.reduceNe,Int.reduceSub,Int.reduceAdd,Int.reduceMul,Int.reduceBEq,Int.reduceBNe,Int.reduceGT,Int.reduceGE,Nat.reduceGT,Int.reduceToNat,Int.reduceNeg,Nat.reduceLeDiff,Nat.reduceBEq,Nat.reduceBneDiff,Value.cells, e1, w1, n1, Int.toNat_natCast, sh, u64_u8]
    intro b1 hb1
    try simp -implicitDefEqProofs only [zB1,zB2,zB3,zB4,zB5,zB6,zB7,zB8,zB9,zB10,zB11,y00,y01,y02,y03,y04,y05,y06,y07,y08,y09,y0a,y0b,y0c,y0d,y0e,y0f,y0g,y0h,y0i,y0j,y0k,y0l,y0m,y0n,y0o,y0p,y0q,y0r,y0s,y0t,y0u,y0v,y0w,y0x,y0y,y0z,y10,y11,y12,y13,y14,y15,y16,y17,y18,y19,y1a,y1b,y1c,y1d,y1e,y1f,y1g,y1h,y1i,y1j,y1k,y1l,y1m,y1n,y1o,y1p,y1q,y1r,retO,retL,retV,z69,allV,allP,z6a,z6d,z6e,z6k,z6l,z6m,binV,eqV,unV,oOpt,reduceIte,reduceCtorEq,Nat.reduceEqDiff,Nat.reduceAdd,Nat.reduceMul,Nat.reduceLT,Nat.reduceSub,Int.reduceLT,Int.reduceLE,Int.reduceEq,Int.reduceNe,Int.reduceSub,Int.reduceAdd,Int.reduceMul,Int.reduceBEq,Int.reduceBNe,Int.reduceGT,Int.reduceGE,Nat.reduceGT,Int.reduceToNat,Int.reduceNeg,Nat.reduceLeDiff,Nat.reduceBEq,Nat.reduceBneDiff,Value.cells]
    have hlen : (l ++ littleF v j).length = l.length + j := by rw [List.length_append, littleF_len]
    refine appendP_ow (bytes := 1) (m := 1) (news := [u8V (UInt8.ofNat (v >>> (8 * j)).toNat)]) (Heap.le_new leH hb1 _) (by omega) (ow'.le (Heap.le_set (Heap.le_refl _) hb1 _)) (Sl.lit (n := 1) rfl) rfl (by omega) (by omega) ?_
    intro v3 H3 ow3 le3
    simp -implicitDefEqProofs only [zB1,zB2,zB3,zB4,zB5,zB6,zB7,zB8,zB9,zB10,zB11,y00,y01,y02,y03,y04,y05,y06,y07,y08,y09,y0a,y0b,y0c,y0d,y0e,y0f,y0g,y0h,y0i,y0j,y0k,y0l,y0m,y0n,y0o,y0p,y0q,y0r,y0s,y0t,y0u,y0v,y0w,y0x,y0y,y0z,y10,y11,y12,y13,y14,y15,y16,y17,y18,y19,y1a,y1b,y1c,y1d,y1e,y1f,y1g,y1h,y1i,y1j,y1k,y1l,y1m,y1n,y1o,y1p,y1q,y1r,retO,retL,retV,z69,allV,allP,z6a,z6d,z6e,z6k,z6l,z6m,binV,eqV,unV,oOpt,reduceIte,reduceCtorEq,Nat.reduceEqDiff,Nat.reduceAdd,Nat.reduceMul,Nat.reduceLT,Nat.reduceSub,Int.reduceLT,Int.reduceLE,Int.reduceEq,Int.reduceNe,Int.reduceSub,Int.reduceAdd,Int.reduceMul,Int.reduceBEq,Int.reduceBNe,Int.reduceGT,Int.reduceGE,Nat.reduceGT,Int.reduceToNat,Int.reduceNeg,Nat.reduceLeDiff,Nat.reduceBEq,Nat.reduceBneDiff,Value.cells, w2]
    refine ⟨n - (j + 1), by omega, le3, j + 1, v3, rfl, by omega, rfl, ?_⟩
    rw [littleF_succ, ← List.append_assoc]
    unfold OwB
    rw [List.length_append, List.map_append]
    exact ow3
  · have e1 : ¬ (j : Int) < n := by omega
    have : j = n := by omega
    subst this
    simp -implicitDefEqProofs only [zB1,zB2,zB3,zB4,zB5,zB6,zB7,zB8,zB9,zB10,zB11,y00,y01,y02,y03,y04,y05,y06,y07,y08,y09,y0a,y0b,y0c,y0d,y0e,y0f,y0g,y0h,y0i,y0j,y0k,y0l,y0m,y0n,y0o,y0p,y0q,y0r,y0s,y0t,y0u,y0v,y0w,y0x,y0y,y0z,y10,y11,y12,y13,y14,y15,y16,y17,y18,y19,y1a,y1b,y1c,y1d,y1e,y1f,y1g,y1h,y1i,y1j,y1k,y1l,y1m,y1n,y1o,y1p,y1q,y1r,retO,retL,retV,z69,allV,allP,z6a,z6d,z6e,z6k,z6l,z6m,binV,eqV,unV,oOpt,reduceIte,reduceCtorEq,Nat.reduceEqDiff,Nat.reduceAdd,Nat.reduceMul,Nat.reduceLT,Nat.reduceSub,Int.reduceLT,Int.reduceLE,Int.reduceEq,Int.reduceNe,Int.reduceSub,Int.reduceAdd,Int.reduceMul,Int.reduceBEq,Int.reduceBNe,Int.reduceGT,Int.reduceGE,Nat.reduceGT,Int.reduceToNat,Int.reduceNeg,Nat.reduceLeDiff,Nat.reduceBEq,Nat.reduceBneDiff,Value.cells, e1]
    exact ⟨leH, ow'⟩
end Go.Bb
/- The walk's laws: slice expressions, copies, texts of bytes. -/
namespace Go.Bb
set_option linter.unusedSimpArgs false
set_option linter.unusedVariables false

theorem bnds_hi {n c : Nat} {k : IntKind} {z : Int} (h0 : 0 ≤ z) (h1 : z ≤ c) : bnds n c none (some (some (.int k z))) none = some (0, z.toNat, c) := by
  simp [bnds, bndV, h0, h1]
theorem bnds_lo {n c : Nat} {k : IntKind} {z : Int} (h0 : 0 ≤ z) (h1 : z ≤ n) : bnds n c (some (some (.int k z))) none none = some (z.toNat, n, c) := by
  simp [bnds, bndV, h0, h1]
theorem add_off' (b o n : Nat) : (⟨b, o, none⟩ : Addr).add n = ⟨b, o + n, none⟩ := by
  unfold Addr.add; split
  · rename_i h; subst h; rfl
  · rfl

/-- A part of a slice. -/
theorem Sl.pre {h : Heap} {size n c : Nat} {base : Option Addr} {cells : List Value} (s : Sl h size (.slice base n c) n cells) {k : Nat} (hk : k ≤ n) : Sl h size (.slice base k c) k (cells.take (k * size)) := by
  have hm : k * size ≤ n * size := Nat.mul_le_mul_right _ hk
  rcases s with ⟨e, rfl, rfl⟩ | ⟨a, c', e, h2, h3⟩
  · simp only [Value.slice.injEq] at e
    obtain ⟨rfl, _, rfl⟩ := e
    have : k = 0 := by omega
    subst this
    exact .inl ⟨rfl, rfl, by simp⟩
  · simp only [Value.slice.injEq] at e
    obtain ⟨rfl, _, rfl⟩ := e
    refine .inr ⟨a, c, rfl, by omega, ?_⟩
    by_cases hz : k * size = 0
    · rw [hz]; simp [hcells]
    · have := hcells_spot h3 (by omega)
      rw [this] at h3 ⊢
      have := hcells_sub h3 0 (k * size) (by omega)
      simpa using this
theorem Sl.post {h : Heap} {size n c : Nat} {base : Option Addr} {cells : List Value} (s : Sl h size (.slice base n c) n cells) {k : Nat} (hk : k ≤ n) :
    Sl h size (.slice (if c = k then base else base.map fun x => x.add (k * size)) (n - k) (c - k)) (n - k) (cells.drop (k * size)) := by
  have hm : k * size ≤ n * size := Nat.mul_le_mul_right _ hk
  rcases s with ⟨e, rfl, rfl⟩ | ⟨a, c', e, h2, h3⟩
  · simp only [Value.slice.injEq] at e
    obtain ⟨rfl, _, rfl⟩ := e
    have : k = 0 := by omega
    subst this
    exact .inl ⟨by simp, rfl, by simp⟩
  · simp only [Value.slice.injEq] at e
    obtain ⟨rfl, _, rfl⟩ := e
    have hl := hcells_length h3
    by_cases hck : c = k
    · have hnk : n - k = 0 := by omega
      refine .inr ⟨a, c - k, by simp [hck], by omega, ?_⟩
      rw [hnk, Nat.zero_mul]
      simp only [hcells, Option.some.injEq]
      rw [List.drop_eq_nil_of_le]
      have : n = k := by omega
      subst this; omega
    · refine .inr ⟨a.add (k * size), c - k, by simp [hck], by omega, ?_⟩
      by_cases hz : (n - k) * size = 0
      · rw [hz]
        simp only [hcells, Option.some.injEq]
        rw [List.drop_eq_nil_of_le]
        rw [Nat.sub_mul] at hz; omega
      · rw [Nat.sub_mul] at hz ⊢
        have := hcells_spot h3 (by omega)
        rw [this] at h3
        rw [this, add_off']
        have := hcells_sub h3 (k * size) (n * size - k * size) (by omega)
        rw [this]
        congr 1
        rw [List.take_of_length_le]
        simp [hl]

/-! ### copies -/
theorem copyP_own {size b o n c m sz : Nat} {h : Heap} {v : Value} {vs cells : List Value} {K : Value → Heap → Prop} (hb : h b = some (.own 0 vs sz)) (hsz : vs.length ≤ sz) (ho : o + n * size ≤ vs.length) (s : Sl h size v m cells) (h1 : cells.all one = true)
    (hk : K (.int .i64 (min m n : Nat)) (h.set b (.own 0 (splice vs o (cells.take (min m n * size))) sz))) : copyP size h (.slice (some ⟨b, o, none⟩) n c) v K := by
  have hst : ∀ us : List Value, us.length ≤ n * size → hstore h ⟨b, o, none⟩ us = some (h.set b (.own 0 (splice vs o us) sz)) := by
    intro us hus
    cases us with
    | nil =>
      simp only [hstore, Option.some.injEq]
      have : splice vs o [] = vs := by simp [splice]
      rw [this, Heap.set_same hb]
    | cons u us =>
      simp only [hstore, hb]
      rw [if_pos ⟨Nat.zero_le _, by omega, by simp at hus ⊢; omega⟩, Nat.sub_zero]
  rcases s with ⟨rfl, rfl, rfl⟩ | ⟨a, c', rfl, h2, h3⟩
  · simp only [copyP]
    simp only [Nat.zero_min, Nat.zero_mul, List.take_nil] at hk
    have : splice vs o [] = vs := by simp [splice]
    rw [this, Heap.set_same hb] at hk
    exact ⟨trivial, hk⟩
  · have hl := hcells_length h3
    have hmn : min m n * size ≤ m * size := Nat.mul_le_mul_right _ (Nat.min_le_left _ _)
    have hmn2 : min m n * size ≤ n * size := Nat.mul_le_mul_right _ (Nat.min_le_right _ _)
    have h4 : hcells h a (min m n * size) = some (cells.take (min m n * size)) := by
      by_cases hz : min m n * size = 0
      · rw [hz]; simp [hcells]
      · have := hcells_spot h3 (by omega)
        rw [this] at h3 ⊢
        have := hcells_sub h3 0 (min m n * size) (by omega)
        simpa using this
    simp only [copyP, h4, hst _ (show (cells.take (min m n * size)).length ≤ n * size by rw [List.length_take]; omega)]
    refine ⟨fun u hu => List.all_eq_true.1 h1 u (List.mem_of_mem_take hu), hk⟩

/-! ### texts -/
end Go.Bb
/- Slices of bytes, rows of bytes, slices of slices: what all contracts share. -/
namespace Go.Bb
set_option linter.unusedSimpArgs false
set_option linter.unusedVariables false

/-- A part of a slice, from a place to a place. -/
theorem Sl.midB {h : Heap} {base : Option Addr} {c a b : Nat} {l : List UInt8} (s : SlB h (.slice base l.length c) l) (hab : a ≤ b) (hb : b ≤ l.length) : SlB h (.slice (if c = a then base else base.map fun x => x.add a) (b - a) (c - a)) ((l.drop a).take (b - a)) := by
  have s1 := Sl.post s (k := a) (by omega)
  simp only [Nat.mul_one] at s1
  have s2 := Sl.pre s1 (k := b - a) (by omega)
  rw [Nat.mul_one, ← List.map_drop, ← List.map_take] at s2
  have e : ((l.drop a).take (b - a)).length = b - a := by simp; omega
  unfold SlB
  rw [e]; exact s2
theorem Ow.off {h0 h : Heap} {bs : Nat} {X : Blk} {size n : Nat} {v : Value} {cells : List Value} (s : Ow (h0.set bs X) h size v n cells) (X' : Blk) : Ow (h0.set bs X') h size v n cells := by
  rcases s with s | ⟨b, o, c, sz, st, pre, rest, h1, h2, h3, h4⟩
  · exact .inl s
  · obtain ⟨g1, g2⟩ := Heap.set_none.1 h3
    exact .inr ⟨b, o, c, sz, st, pre, rest, h1, h2, Heap.set_none.2 ⟨g1, g2⟩, h4⟩
theorem Ow.post {h0 h : Heap} {size b o n c : Nat} {cells : List Value} (s : Ow h0 h size (.slice (some ⟨b, o, none⟩) n c) n cells) {k : Nat} (hk : k ≤ n) :
    Ow h0 h size (.slice (if c = k then some ⟨b, o, none⟩ else some (Addr.add ⟨b, o, none⟩ (k * size))) (n - k) (c - k)) (n - k) (cells.drop (k * size)) := by
  by_cases hck : c = k
  · rw [if_pos hck]
    rcases s with ⟨e, _, _⟩ | ⟨b', o', c', sz, st, pre, rest, h1, h2, h3, h4, h5, h6, h7⟩
    · cases e
    · simp only [Value.slice.injEq, Option.some.injEq, Addr.mk.injEq, and_true, true_and] at h1
      obtain ⟨⟨rfl, rfl⟩, rfl⟩ := h1
      have hnk : n = k := by omega
      subst hnk
      refine .inr ⟨b, o, c - n, sz, st, pre, cells ++ rest, rfl, by omega, h3, ?_, h5, ?_, ?_⟩
      · rw [List.drop_eq_nil_of_le (by omega), List.append_nil, ← List.append_assoc]; exact h4
      · rw [List.drop_eq_nil_of_le (by omega)]; simp
      · have : (c - n) * size ≤ c * size := Nat.mul_le_mul_right _ (by omega)
        omega
  · rw [if_neg hck, add_off']
    exact Ow.drop s hk
theorem Sl.headB {h : Heap} {base : Option Addr} {c m : Nat} {l : List UInt8} (s : SlB h (.slice base l.length c) l) (hm : m ≤ l.length) : SlB h (.slice base m c) (l.take m) := by
  have := Sl.pre s hm
  rw [Nat.mul_one, ← List.map_take] at this
  have e : (l.take m).length = m := by rw [List.length_take]; omega
  unfold SlB
  rw [e]; exact this
/-- A slice of slices of bytes. -/
def SlL (h : Heap) (v : Value) (L : List (List UInt8)) : Prop := ∃ vs : List Value, vs.length = L.length ∧ Sl h 1 v L.length vs ∧ ∀ i (h1 : i < vs.length) (h2 : i < L.length), SlB h vs[i] L[i]
theorem SlL.le {h h' : Heap} {v : Value} {L : List (List UInt8)} (x : h.le h') (s : SlL h v L) : SlL h' v L := by
  obtain ⟨vs, h1, h2, h3⟩ := s
  exact ⟨vs, h1, h2.le x, fun i a b => (h3 i a b).le x⟩
def row8 (f : Nat → UInt8) (n : Nat) : List Value := (List.range n).map fun j => .int .u8 (f j).toNat
theorem row8_len (f : Nat → UInt8) (n : Nat) : (row8 f n).length = n := by simp [row8]
theorem row8_get (f : Nat → UInt8) {n j : Nat} (h : j < (row8 f n).length) : (row8 f n)[j] = .int .u8 (f j).toNat := by simp [row8]
theorem row8_congr {f g : Nat → UInt8} {n : Nat} (h : ∀ j, j < n → f j = g j) : row8 f n = row8 g n := by
  unfold row8
  apply List.map_congr_left
  intro j hj
  rw [h j (List.mem_range.1 hj)]
theorem row8_list (l : List UInt8) : row8 (fun j => l.getD j 0) l.length = l.map u8V := by
  apply List.ext_getElem
  · simp [row8]
  · intro j h1 h2
    rw [row8_get]
    have : j < l.length := by simpa using h2
    simp [u8V, this]
theorem row8_set (f : Nat → UInt8) (n i : Nat) (z : UInt8) : (row8 f n).set i (.int .u8 z.toNat) = row8 (fun j => if j = i then z else f j) n := by
  apply List.ext_getElem
  · simp [row8]
  · intro j h1 h2
    rw [List.getElem_set, row8_get, row8_get]
    by_cases e : i = j
    · subst e; simp
    · rw [if_neg e]; simp [Ne.symm e]
theorem SlL.one {h : Heap} {v : Value} {L : List (List UInt8)} (s : SlL h v L) : ∃ vs : List Value, vs.length = L.length ∧ Sl h 1 v L.length vs ∧ vs.all one = true ∧ ∀ i (h1 : i < vs.length) (h2 : i < L.length), SlB h vs[i] L[i] := by
  obtain ⟨vs, h1, h2, h3⟩ := s
  refine ⟨vs, h1, h2, ?_, h3⟩
  rw [List.all_eq_true]
  intro u hu
  obtain ⟨i, hi, rfl⟩ := List.getElem_of_mem hu
  obtain ⟨base, c, e⟩ := Sl.shape (h3 i hi (by omega))
  rw [e]; rfl
theorem SlL.cons {h : Heap} {v w : Value} {l : List UInt8} {L : List (List UInt8)} {vs : List Value} (h1 : vs.length = L.length) (h3 : ∀ i (h1 : i < vs.length) (h2 : i < L.length), SlB h vs[i] L[i]) (sw : SlB h w l) (s : Sl h 1 v (L.length + 1) (w :: vs)) : SlL h v (l :: L) := by
  refine ⟨w :: vs, by simp [h1], s, ?_⟩
  intro i a b
  cases i with
  | zero => exact sw
  | succ i => exact h3 i (by simpa using a) (by simpa using b)
theorem own_sl {H : Heap} {b : Nat} {l : List UInt8} {sz : Nat} (h : H b = some (.own 0 (l.map u8V) sz)) : SlB H (.slice (some ⟨b, 0, none⟩) l.length l.length) l :=
  .inr ⟨⟨b, 0, none⟩, l.length, rfl, Nat.le_refl _, by rw [hcells_at h (by simp)]; simp [List.take_of_length_le]⟩
theorem addO (x : Option Addr) (c : Nat) (h : ∀ a, x = some a → Addr.add a 0 = a) : (if c = 0 then x else x.map fun a => a.add 0) = x := by
  split
  · rfl
  · cases x with
    | none => rfl
    | some a => simp [h a rfl]
theorem addr_add0 (a : Addr) : Addr.add a 0 = a := by unfold Addr.add; simp
end Go.Bb
/- Rows of numbers of any kind, and what masks and shifts tell of them. -/
namespace Go.Bb
set_option linter.unusedSimpArgs false
set_option linter.unusedVariables false

theorem set_keep {H : Heap} {b c : Nat} {X Y : Blk} (hc : H c = some Y) (e : c ≠ b) : (H.set b X) c = some Y := by rw [Heap.set_ne e]; exact hc
theorem set_new {H : Heap} {b c : Nat} {X Y : Blk} (hb : H b = none) (hc : H c = some Y) : (H.set b X) c = some Y := by rw [Heap.set_ne (ne_of_none hb hc)]; exact hc
section
variable {k : IntKind} {f g : Nat → Nat} {n : Nat}
end
theorem wrap_u64l {n : Nat} (h : n < 18446744073709551616) : IntKind.u64.wrap (n : Int) = (n : Int) := by
  rw [wrap_u64, ofInt_nat, BitVec.toNat_ofNat, Nat.mod_eq_of_lt (by omega)]
end Go.Bb
/- Numbers of seventeen digits: plain laws. -/
namespace Go.Bb
set_option linter.unusedSimpArgs false
set_option linter.unusedVariables false

set_option maxRecDepth 20000
/-! ### the sum -/
/-! ### the carries of a product -/
/-! ### one product more -/
end Go.Bb
/- Contracts: bytes turned round. -/
namespace Go.Bb
set_option linter.unusedSimpArgs false
set_option linter.unusedVariables false
set_option maxRecDepth 20000

/-- A cell of an owned slice is written. -/
theorem Ow.store1 {h0 h : Heap} {b o n c : Nat} {cells : List Value} (s : Ow h0 h 1 (.slice (some ⟨b, o, none⟩) n c) n cells) {i : Nat} (hi : i < n) {v : Value} (hv : one v = true) :
    ∃ h', storeV h 1 (.pointer (some ⟨b, o + i, none⟩)) v = some h' ∧ Ow h0 h' 1 (.slice (some ⟨b, o, none⟩) n c) n (cells.set i v) ∧ (h0.le h → h0.le h') := by
  rcases s with ⟨e, _⟩ | ⟨b', o', c', sz, st, pre, rest, e, hc, hn, hb, ho, hl, hz⟩
  · cases e
  simp only [Value.slice.injEq, Option.some.injEq, Addr.mk.injEq, and_true, true_and] at e
  obtain ⟨⟨rfl, rfl⟩, rfl⟩ := e
  have hv1 : v.cells.toList = [v] := by
    cases v <;> first | rfl | (cases hv; done)
  have hv2 : v.cells.size = 1 := by rw [← Array.length_toList, hv1]; rfl
  have hs : splice (pre ++ cells ++ rest) (o + i - st) [v] = pre ++ cells.set i v ++ rest := by
    have e1 : o + i - st = pre.length + i := by omega
    rw [e1]
    have e2 : splice (pre ++ cells ++ rest) (pre.length + i) [v] = (pre ++ cells ++ rest).set (pre.length + i) v := by
      unfold splice
      rw [List.set_eq_take_append_cons_drop, if_pos (by simp; omega)]
      simp
    rw [e2, List.set_append_left _ _ (by simp; omega), List.set_append_right _ _ (by omega), Nat.add_sub_cancel_left]
  refine ⟨h.set b (.own st (pre ++ cells.set i v ++ rest) sz), ?_, ?_, fun hle => Heap.le_set hle hn _⟩
  · simp only [storeV, hv1, hv2, true_and]
    rw [if_pos (by simp [hv])]
    simp only [hstore, hb]
    rw [if_pos ⟨by omega, by simp; omega, by simp; omega⟩, hs]
  · exact .inr ⟨b, o, c, sz, st, pre, rest, rfl, hc, hn, Heap.set_self _ _ _, ho, by simpa using hl, hz⟩

/-- Bytes, the first i pairs changed. -/
def revI (l : List UInt8) (i k : Nat) : UInt8 := if k < i ∨ l.length ≤ k + i then l.getD (l.length - 1 - k) 0 else l.getD k 0
theorem revI_row (l : List UInt8) (i : Nat) (h : l.length ≤ 2 * i + 1) : row8 (revI l i) l.length = l.reverse.map u8V := by
  have e : row8 (revI l i) l.length = row8 (fun j => l.reverse.getD j 0) l.length := by
    apply row8_congr
    intro k hk
    have hr : l.reverse.getD k 0 = l.getD (l.length - 1 - k) 0 := by
      rw [List.getD_eq_getElem?_getD, List.getD_eq_getElem?_getD, List.getElem?_reverse hk]
    rw [hr]
    unfold revI
    by_cases c : k < i ∨ l.length ≤ k + i
    · rw [if_pos c]
    · rw [if_neg c]
      have : l.length - 1 - k = k := by omega
      rw [this]
  rw [e]
  have := row8_list l.reverse
  rw [List.length_reverse] at this
  exact this
theorem revI_step (l : List UInt8) (i : Nat) (h : 2 * i + 1 < l.length) : ((row8 (revI l i) l.length).set i (.int .u8 (revI l i (l.length - 1 - i)).toNat)).set (l.length - 1 - i) (.int .u8 (revI l i i).toNat) = row8 (revI l (i + 1)) l.length := by
  rw [row8_set, row8_set]
  apply row8_congr
  intro k hk
  have a1 : revI l i i = l.getD i 0 := by unfold revI; rw [if_neg (by omega)]
  have a2 : revI l i (l.length - 1 - i) = l.getD (l.length - 1 - i) 0 := by unfold revI; rw [if_neg (by omega)]
  rw [a1, a2]
  by_cases c1 : k = l.length - 1 - i
  · rw [if_pos c1]
    unfold revI
    rw [if_pos (by omega)]
    congr 1; omega
  · rw [if_neg c1]
    by_cases c2 : k = i
    · rw [if_pos c2]
      unfold revI
      rw [if_pos (by omega), c2]
    · rw [if_neg c2]
      unfold revI
      by_cases c3 : k < i ∨ l.length ≤ k + i
      · rw [if_pos c3, if_pos (by omega)]
      · rw [if_neg c3, if_neg (by omega)]

theorem Sl.cell_at {h : Heap} {b o n c : Nat} {cells : List Value} (s : Sl h 1 (.slice (some ⟨b, o, none⟩) n c) n cells) (j : Nat) (hj : j < n) (hl : j < cells.length) : hcell h ⟨b, o + j, none⟩ = some cells[j] := by
  rcases s with ⟨e, _⟩ | ⟨a, c', e, _, hc⟩
  · cases e
  · simp only [Value.slice.injEq, Option.some.injEq, true_and] at e
    obtain ⟨rfl, _⟩ := e
    rw [hcell_of hc j (by omega)]
    simp [hl]

theorem Reverse_c (E : EnvT tab) {h0 h : Heap} (hle : h0.le h) {v : Value} (l : List UInt8) (hl : l.length ≤ 140737488355328) (s : OwB h0 h v l) : ACallN E.toEnv n_slices_Reverse_byte_byte [v] h fun r h' => h0.le h' ∧ OwB h0 h' v l.reverse := by
  obtain ⟨base, c, rfl⟩ := Sl.shape s.sl
  refine acall h_slices_Reverse_byte_byte ir_slices_Reverse_byte_byte rfl rfl (wpA_sound ?_)
  unfold ir_slices_Reverse_byte_byte
  have w0 : IntKind.i64.wrap ((l.length : Int) - 1) = (l.length : Int) - 1 := wrapI (by omega) (by omega)
  simp -implicitDefEqProofs only [zB1,zB2,zB3,zB4,zB5,zB6,zB7,zB8,zB9,zB10,zB11,y00,y01,y02,y03,y04,y05,y06,y07,y08,y09,y0a,y0b,y0c,y0d,y0e,y0f,y0g,y0h,y0i,y0j,y0k,y0l,y0m,y0n,y0o,y0p,y0q,y0r,y0s,y0t,y0u,y0v,y0w,y0x,y0y,y0z,y10,y11,y12,y13,y14,y15,y16,y17,y18,y19,y1a,y1b,y1c,y1d,y1e,y1f,y1g,y1h,y1i,y1j,y1k,y1l,y1m,y1n,y1o,y1p,y1q,y1r,retO,retL,retV,z69,allV,allP,z6a,z6d,z6e,z6k,z6l,z6m,binV,eqV,unV,oOpt,reduceIte,reduceCtorEq,Nat.reduceEqDiff,Nat.reduceAdd,Nat.reduceMul,Nat.reduceLT,Nat.reduceSub,Int.reduceLT,Int.reduceLE,Int.reduceEq,Int.reduceNe,Int.reduceSub,Int.reduceAdd,Int.reduceMul,Int.reduceBEq,Int.reduceBNe,Int.reduceGT,Int.reduceGE,Nat.reduceGT,Int.reduceToNat,Int.reduceNeg,Nat.reduceLeDiff,Nat.reduceBEq,Nat.reduceBneDiff,Value.cells, w0]
  have hl0 : l.map u8V = row8 (revI l 0) l.length := by
    rw [← row8_list]
    apply row8_congr
    intro k hk
    unfold revI
    rw [if_neg (by omega)]
  unfold OwB at s
  rw [hl0] at s
  refine wp_loop' (fun m t H => h0.le H ∧ ∃ (i : Nat), t = tl [(0, .slice base l.length c), (2, .int .i64 i), (3, .int .i64 ((l.length : Int) - 1 - i))] ∧ m = l.length - i ∧ i ≤ l.length ∧ Ow h0 H 1 (.slice base l.length c) l.length (row8 (revI l i) l.length)) l.length
    ⟨hle, 0, by simp, by omega, by omega, s⟩ ?_
  rintro m t H ⟨leH, i, rfl, rfl, hi, ow⟩
  by_cases hlt : 2 * i + 1 < l.length
  · have g1 : (i : Int) < (l.length : Int) - 1 - i := by omega
    rcases Ow.shape ow with ⟨_, hz, _⟩ | ⟨b, o, c2, hv⟩
    · omega
    simp only [Value.slice.injEq, true_and] at hv
    obtain ⟨rfl, rfl⟩ := hv
    obtain ⟨J, hJ⟩ : ∃ J : Nat, l.length - 1 - i = J := ⟨_, rfl⟩
    have eJ : (l.length : Int) - 1 - i = (J : Int) := by omega
    have cI := Sl.cell_at ow.sl i (by omega) (by rw [row8_len]; omega)
    have cJ := Sl.cell_at ow.sl J (by omega) (by rw [row8_len]; omega)
    rw [row8_get] at cI cJ
    obtain ⟨h1, s1, ow1, le1⟩ := ow.store1 (i := i) (by omega) (v := .int .u8 (revI l i J).toNat) rfl
    obtain ⟨h2, s2, ow2, le2⟩ := ow1.store1 (i := J) (by omega) (v := .int .u8 (revI l i i).toNat) rfl
    have hst := revI_step l i hlt
    rw [hJ] at hst
    rw [hst] at ow2
    have b1 : (i : Int) < l.length := by omega
    have b2 : (0 : Int) ≤ i := by omega
    have b3 : (J : Int) < l.length := by omega
    have b4 : (0 : Int) ≤ J := by omega
    have w1 : IntKind.i64.wrap ((i : Int) + 1) = ((i + 1 : Nat) : Int) := wrapN (by omega)
    have w2 : IntKind.i64.wrap ((J : Int) - 1) = (l.length : Int) - 1 - ((i + 1 : Nat) : Int) := by rw [wrapI (by omega) (by omega)]; omega
    rw [eJ] at g1 ⊢
    simp -implicitDefEqProofs only [zB1,zB2,zB3,zB4,zB5,zB6,zB7,zB8,zB9,zB10,zB11,y00,y01,y02,y03,y04,y05,y06,y07,y08,y09,y0a,y0b,y0c,y0d,y0e,y0f,y0g,y0h,y0i,y0j,y0k,y0l,y0m,y0n,y0o,y0p,y0q,y0r,y0s,y0t,y0u,y0v,y0w,y0x,y0y,y0z,y10,y11,y12,y13,y14,y15,y16,y17,y18,y19,y1a,y1b,y1c,y1d,y1e,y1f,y1g,y1h,y1i,y1j,y1k,y1l,y1m,y1n,y1o,y1p,y1q,y1r,retO,retL,retV,z69,allV,allP,z6a,z6d,z6e,z6k,z6l,z6m,binV,eqV,unV,oOpt,reduceIte,reduceCtorEq,Nat.reduceEqDiff,Nat.reduceAdd,Nat.reduceMul,Nat.reduceLT,Nat.reduceSub,Int.reduceLT,Int.reduceLE,Int.reduceEq,Int.reduceNe,Int.reduceSub,Int.reduceAdd,Int.reduceMul,Int.reduceBEq,Int.reduceBNe,Int.reduceGT,Int.reduceGE,Nat.reduceGT,Int.reduceToNat,Int.reduceNeg,Nat.reduceLeDiff,Nat.reduceBEq,Nat.reduceBneDiff,Value.cells, g1, b1, b2, b3, b4, Int.toNat_natCast, cI, cJ, s1, s2, w1, w2, implies_true]
    refine ⟨l.length - (i + 1), by omega, le2 (le1 leH), i + 1, rfl, rfl, by omega, ow2⟩
  · have g1 : ¬ (i : Int) < (l.length : Int) - 1 - i := by omega
    rw [revI_row l i (by omega)] at ow
    simp -implicitDefEqProofs only [zB1,zB2,zB3,zB4,zB5,zB6,zB7,zB8,zB9,zB10,zB11,y00,y01,y02,y03,y04,y05,y06,y07,y08,y09,y0a,y0b,y0c,y0d,y0e,y0f,y0g,y0h,y0i,y0j,y0k,y0l,y0m,y0n,y0o,y0p,y0q,y0r,y0s,y0t,y0u,y0v,y0w,y0x,y0y,y0z,y10,y11,y12,y13,y14,y15,y16,y17,y18,y19,y1a,y1b,y1c,y1d,y1e,y1f,y1g,y1h,y1i,y1j,y1k,y1l,y1m,y1n,y1o,y1p,y1q,y1r,retO,retL,retV,z69,allV,allP,z6a,z6d,z6e,z6k,z6l,z6m,binV,eqV,unV,oOpt,reduceIte,reduceCtorEq,Nat.reduceEqDiff,Nat.reduceAdd,Nat.reduceMul,Nat.reduceLT,Nat.reduceSub,Int.reduceLT,Int.reduceLE,Int.reduceEq,Int.reduceNe,Int.reduceSub,Int.reduceAdd,Int.reduceMul,Int.reduceBEq,Int.reduceBNe,Int.reduceGT,Int.reduceGE,Nat.reduceGT,Int.reduceToNat,Int.reduceNeg,Nat.reduceLeDiff,Nat.reduceBEq,Nat.reduceBneDiff,Value.cells, g1]
    refine ⟨leH, ?_⟩
    unfold OwB
    rw [List.length_reverse]
    exact ow
end Go.Bb
/- Contracts: products of words. -/
namespace Go.Bb
set_option linter.unusedSimpArgs false
set_option linter.unusedVariables false
set_option maxRecDepth 20000

theorem wrap_u64n {n : Nat} (h : n < 18446744073709551616) : IntKind.u64.wrap (n : Int) = (n : Int) := by
  rw [wrap_u64, ofInt_nat]; simp; omega
theorem wrap_u64m (n : Nat) : IntKind.u64.wrap (n : Int) = ((n % 18446744073709551616 : Nat) : Int) := by
  rw [wrap_u64, ofInt_nat]; simp
theorem and_low (a : Nat) : IntKind.u64.wrap ((BitVec.ofInt IntKind.u64.bits (a : Int) &&& BitVec.ofInt IntKind.u64.bits 4294967295).toNat : Int) = ((a % 4294967296 : Nat) : Int) := by
  have e : (BitVec.ofInt IntKind.u64.bits (a : Int) &&& BitVec.ofInt IntKind.u64.bits 4294967295).toNat = a % 4294967296 := by
    rw [show IntKind.u64.bits = 64 from rfl, show BitVec.ofInt 64 4294967295 = BitVec.ofNat 64 (2 ^ 32 - 1) from rfl, ofInt_nat, BitVec.toNat_and, BitVec.toNat_ofNat, BitVec.toNat_ofNat]
    rw [Nat.mod_eq_of_lt (show 2 ^ 32 - 1 < 2 ^ 64 by decide), Nat.and_two_pow_sub_one_eq_mod]
    omega
  rw [e]
  exact wrap_u64n (by omega)
theorem shr_32 (a : Nat) : (a : Int).fdiv (2 ^ (min (Int.toNat 32) IntKind.u64.bits)) = ((a / 4294967296 : Nat) : Int) := by
  rw [show min (Int.toNat 32) IntKind.u64.bits = 32 from rfl, Int.fdiv_eq_ediv_of_nonneg _ (by decide)]
  simp
theorem shr_32' (a : Nat) : (a : Int).fdiv (2 ^ (min 32 IntKind.u64.bits)) = ((a / 4294967296 : Nat) : Int) := shr_32 a

theorem mul_parts (x1 x0 y1 y0 : Nat) (hx : x0 < 4294967296) (hy : y0 < 4294967296) :
    x1 * y1 + (x1 * y0 + x0 * y0 / 4294967296) / 4294967296 + ((x1 * y0 + x0 * y0 / 4294967296) % 4294967296 + x0 * y1) / 4294967296 = (x1 * 4294967296 + x0) * (y1 * 4294967296 + y0) / 18446744073709551616 := by
  have e : (x1 * 4294967296 + x0) * (y1 * 4294967296 + y0) = x1 * y1 * 18446744073709551616 + (x1 * y0 + x0 * y1) * 4294967296 + x0 * y0 := by
    rw [Nat.add_mul, Nat.mul_add, Nat.mul_add]
    have h1 : x1 * 4294967296 * (y1 * 4294967296) = x1 * y1 * 18446744073709551616 := by
      rw [Nat.mul_mul_mul_comm]
    have h2 : x1 * 4294967296 * y0 = x1 * y0 * 4294967296 := by rw [Nat.mul_right_comm]
    have h3 : x0 * (y1 * 4294967296) = x0 * y1 * 4294967296 := by rw [Nat.mul_assoc]
    rw [h1, h2, h3, Nat.add_mul]
    omega
  rw [e]
  generalize x1 * y1 = A
  generalize x1 * y0 = B
  generalize x0 * y1 = C
  generalize x0 * y0 = D
  omega

theorem Mul64_c (E : EnvT tab) (h : Heap) (a b : Nat) (ha : a < 18446744073709551616) (hb : b < 18446744073709551616) :
    ACallN E.toEnv n_math_bits_Mul64 [.int .u64 a, .int .u64 b] h fun r h' => h' = h ∧ r = .tuple #[.int .u64 ((a * b / 18446744073709551616 : Nat) : Int), .int .u64 ((a * b % 18446744073709551616 : Nat) : Int)] := by
  refine acall h_math_bits_Mul64 ir_math_bits_Mul64 rfl rfl (wpA_sound ?_)
  unfold ir_math_bits_Mul64
  have hx0 : a % 4294967296 < 4294967296 := Nat.mod_lt _ (by decide)
  have hy0 : b % 4294967296 < 4294967296 := Nat.mod_lt _ (by decide)
  have hx1 : a / 4294967296 < 4294967296 := by omega
  have hy1 : b / 4294967296 < 4294967296 := by omega
  have key := mul_parts (a / 4294967296) (a % 4294967296) (b / 4294967296) (b % 4294967296) hx0 hy0
  rw [show a / 4294967296 * 4294967296 + a % 4294967296 = a from by omega, show b / 4294967296 * 4294967296 + b % 4294967296 = b from by omega] at key
  have lo : IntKind.u64.wrap ((a : Int) * b) = ((a * b % 18446744073709551616 : Nat) : Int) := by rw [← Int.natCast_mul, wrap_u64m]
  simp -implicitDefEqProofs only [zB1,zB2,zB3,zB4,zB5,zB6,zB7,zB8,zB9,zB10,zB11,y00,y01,y02,y03,y04,y05,y06,y07,y08,y09,y0a,y0b,y0c,y0d,y0e,y0f,y0g,y0h,y0i,y0j,y0k,y0l,y0m,y0n,y0o,y0p,y0q,y0r,y0s,y0t,y0u,y0v,y0w,y0x,y0y,y0z,y10,y11,y12,y13,y14,y15,y16,y17,y18,y19,y1a,y1b,y1c,y1d,y1e,y1f,y1g,y1h,y1i,y1j,y1k,y1l,y1m,y1n,y1o,y1p,y1q,y1r,retO,retL,retV,z69,allV,allP,z6a,z6d,z6e,z6k,z6l,z6m,binV,eqV,unV,oOpt,reduceIte,reduceCtorEq,Nat.reduceEqDiff,Nat.reduceAdd,Nat.reduceMul,Nat.reduceLT,Nat.reduceSub,Int.reduceLT,Int.reduceLE,Int.reduceEq,Int.reduceNe,Int.reduceSub,Int.reduceAdd,Int.reduceMul,Int.reduceBEq,Int.reduceBNe,Int.reduceGT,Int.reduceGE,Nat.reduceGT,Int.reduceToNat,Int.reduceNeg,Nat.reduceLeDiff,Nat.reduceBEq,Nat.reduceBneDiff,Value.cells, and_low, shr_32, shr_32']
  generalize a / 4294967296 = x1 at *
  generalize a % 4294967296 = x0 at *
  generalize b / 4294967296 = y1 at *
  generalize b % 4294967296 = y0 at *
  have bd : ∀ x y : Nat, x < 4294967296 → y < 4294967296 → x * y ≤ 18446744065119617025 := fun x y h1 h2 => by
    have := Nat.mul_le_mul (show x ≤ 4294967295 by omega) (show y ≤ 4294967295 by omega)
    simpa using this
  have b00 := bd x0 y0 hx0 hy0
  have b10 := bd x1 y0 hx1 hy0
  have b01 := bd x0 y1 hx0 hy1
  have b11 := bd x1 y1 hx1 hy1
  have pr : ∀ x y : Nat, x * y ≤ 18446744065119617025 → IntKind.u64.wrap ((x : Int) * (y : Int)) = ((x * y : Nat) : Int) := fun x y h => by rw [← Int.natCast_mul]; exact wrap_u64n (by omega)
  have ad : ∀ x y : Nat, x + y < 18446744073709551616 → IntKind.u64.wrap ((x : Int) + (y : Int)) = ((x + y : Nat) : Int) := fun x y h => by rw [← Int.natCast_add]; exact wrap_u64n h
  rw [pr _ _ b00, pr _ _ b10, pr _ _ b01, pr _ _ b11, lo]
  generalize x0 * y0 = p00 at *
  generalize x1 * y0 = p10 at *
  generalize x0 * y1 = p01 at *
  generalize x1 * y1 = p11 at *
  have s1 := shr_32' p00
  rw [s1, ad p10 (p00 / 4294967296) (by omega)]
  rw [shr_32', and_low, ad _ p01 (by omega), shr_32', ad p11 _ (by omega), ad _ _ (by omega), key]
end Go.Bb
/- Contracts: numbers of three words. -/
namespace Go.Bb
set_option linter.unusedSimpArgs false
set_option linter.unusedVariables false
set_option maxRecDepth 20000

/-- A number of three words. -/
structure N3 where
  a : Nat
  b : Nat
  c : Nat
def N3.ok (x : N3) : Prop := x.a < 18446744073709551616 ∧ x.b < 18446744073709551616 ∧ x.c < 18446744073709551616
def N3.cells (x : N3) : List Value := [.int .u64 (x.a : Int), .int .u64 (x.b : Int), .int .u64 (x.c : Int)]
def N3.V (x : N3) : Value := .agg x.cells.toArray
def N3.plus (x y : N3) : N3 :=
  ⟨(x.a + y.a) % 18446744073709551616, (x.b + y.b + (x.a + y.a) / 18446744073709551616) % 18446744073709551616, (x.c + (y.c + (x.b + y.b + (x.a + y.a) / 18446744073709551616) / 18446744073709551616) % 18446744073709551616) % 18446744073709551616⟩
theorem N3.plus_ok (x y : N3) : (x.plus y).ok := ⟨Nat.mod_lt _ (by decide), Nat.mod_lt _ (by decide), Nat.mod_lt _ (by decide)⟩
theorem add64_0 (x y : Nat) : primV .add64 [.int .u64 (x : Int), .int .u64 (y : Int), .int .u64 0] = some (.tuple #[.int .u64 (((x + y) % 18446744073709551616 : Nat) : Int), .int .u64 (((x + y) / 18446744073709551616 : Nat) : Int)]) := by
  simp [primV]
theorem add64_c (x y c : Nat) (hc : c ≤ 1) : primV .add64 [.int .u64 (x : Int), .int .u64 (y : Int), .int .u64 (c : Int)] = some (.tuple #[.int .u64 (((x + y + c) % 18446744073709551616 : Nat) : Int), .int .u64 (((x + y + c) / 18446744073709551616 : Nat) : Int)]) := by
  have : (c : Int) = 0 ∨ (c : Int) = 1 := by omega
  simp only [primV, if_pos this, Int.toNat_natCast]

theorem num_plus_c (E : EnvT tab) (h : Heap) (x y : N3) (hx : x.ok) (hy : y.ok) : ACallN E.toEnv n_poly_num_plus [x.V, y.V] h fun r h' => h.le h' ∧ r = (x.plus y).V := by
  obtain ⟨x0, x1, x2⟩ := x
  obtain ⟨y0, y1, y2⟩ := y
  obtain ⟨hx0, hx1, hx2⟩ := hx
  obtain ⟨hy0, hy1, hy2⟩ := hy
  simp only at hx0 hx1 hx2 hy0 hy1 hy2
  refine acall h_poly_num_plus ir_poly_num_plus rfl rfl (wpA_sound ?_)
  unfold ir_poly_num_plus N3.V N3.cells
  have c1 : (((x0 + y0) / 18446744073709551616 : Nat) : Int) = 0 ∨ (((x0 + y0) / 18446744073709551616 : Nat) : Int) = 1 := by omega
  have w1 : IntKind.u64.wrap ((y2 : Int) + (((x1 + y1 + (x0 + y0) / 18446744073709551616) / 18446744073709551616 : Nat) : Int)) = (((y2 + (x1 + y1 + (x0 + y0) / 18446744073709551616) / 18446744073709551616) % 18446744073709551616 : Nat) : Int) := by rw [← Int.natCast_add, wrap_u64m]
  have w2 : IntKind.u64.wrap ((x2 : Int) + (((y2 + (x1 + y1 + (x0 + y0) / 18446744073709551616) / 18446744073709551616) % 18446744073709551616 : Nat) : Int)) = (((x2 + (y2 + (x1 + y1 + (x0 + y0) / 18446744073709551616) / 18446744073709551616) % 18446744073709551616) % 18446744073709551616 : Nat) : Int) := by rw [← Int.natCast_add, wrap_u64m]
  simp -implicitDefEqProofs only [zB1,zB2,zB3,zB4,zB5,zB6,zB7,zB8,zB9,zB10,zB11,y00,y01,y02,y03,y04,y05,y06,y07,y08,y09,y0a,y0b,y0c,y0d,y0e,y0f,y0g,y0h,y0i,y0j,y0k,y0l,y0m,y0n,y0o,y0p,y0q,y0r,y0s,y0t,y0u,y0v,y0w,y0x,y0y,y0z,y10,y11,y12,y13,y14,y15,y16,y17,y18,y19,y1a,y1b,y1c,y1d,y1e,y1f,y1g,y1h,y1i,y1j,y1k,y1l,y1m,y1n,y1o,y1p,y1q,y1r,retO,retL,retV,z69,allV,allP,z6a,z6d,z6e,z6k,z6l,z6m,binV,eqV,unV,oOpt,reduceIte,reduceCtorEq,Nat.reduceEqDiff,Nat.reduceAdd,Nat.reduceMul,Nat.reduceLT,Nat.reduceSub,Int.reduceLT,Int.reduceLE,Int.reduceEq,Int.reduceNe,Int.reduceSub,Int.reduceAdd,Int.reduceMul,Int.reduceBEq,Int.reduceBNe,Int.reduceGT,Int.reduceGE,Nat.reduceGT,Int.reduceToNat,Int.reduceNeg,Nat.reduceLeDiff,Nat.reduceBEq,Nat.reduceBneDiff,Value.cells]
  intro b2 hb2 b3 hb3 b4 hb4
  try simp -implicitDefEqProofs only [zB1,zB2,zB3,zB4,zB5,zB6,zB7,zB8,zB9,zB10,zB11,y00,y01,y02,y03,y04,y05,y06,y07,y08,y09,y0a,y0b,y0c,y0d,y0e,y0f,y0g,y0h,y0i,y0j,y0k,y0l,y0m,y0n,y0o,y0p,y0q,y0r,y0s,y0t,y0u,y0v,y0w,y0x,y0y,y0z,y10,y11,y12,y13,y14,y15,y16,y17,y18,y19,y1a,y1b,y1c,y1d,y1e,y1f,y1g,y1h,y1i,y1j,y1k,y1l,y1m,y1n,y1o,y1p,y1q,y1r,retO,retL,retV,z69,allV,allP,z6a,z6d,z6e,z6k,z6l,z6m,binV,eqV,unV,oOpt,reduceIte,reduceCtorEq,Nat.reduceEqDiff,Nat.reduceAdd,Nat.reduceMul,Nat.reduceLT,Nat.reduceSub,Int.reduceLT,Int.reduceLE,Int.reduceEq,Int.reduceNe,Int.reduceSub,Int.reduceAdd,Int.reduceMul,Int.reduceBEq,Int.reduceBNe,Int.reduceGT,Int.reduceGE,Nat.reduceGT,Int.reduceToNat,Int.reduceNeg,Nat.reduceLeDiff,Nat.reduceBEq,Nat.reduceBneDiff,Value.cells]
  have q32 : b3 ≠ b2 := (Heap.set_none.1 hb3).1
  have q43 : b4 ≠ b3 := (Heap.set_none.1 hb4).1
  have hb4' := (Heap.set_none.1 hb4).2
  have q42 : b4 ≠ b2 := (Heap.set_none.1 hb4').1
  have f2 := fun {x : Blk} {H : Heap} {off : Nat} {s : Option Nat} => hcell_ne (h := H) (x := x) (off := off) (s := s) (Ne.symm q42)
  have f3 := fun {x : Blk} {H : Heap} {off : Nat} {s : Option Nat} => hcell_ne (h := H) (x := x) (off := off) (s := s) (Ne.symm q32)
  have f4 := fun {x : Blk} {H : Heap} {off : Nat} {s : Option Nat} => hcell_ne (h := H) (x := x) (off := off) (s := s) (Ne.symm q43)
  have g2 := fun {x : Blk} {H : Heap} {off n : Nat} {s : Option Nat} => hcells_ne (h := H) (x := x) (off := off) (n := n) (s := s) (Ne.symm q42)
  have g3 := fun {x : Blk} {H : Heap} {off n : Nat} {s : Option Nat} => hcells_ne (h := H) (x := x) (off := off) (n := n) (s := s) (Ne.symm q32)
  have t2 := fun {x : Blk} {H : Heap} {off size : Nat} {v : Value} {s : Option Nat} => storeV_ne (h := H) (x := x) (off := off) (size := size) (v := v) (s := s) (Ne.symm q42)
  have t3 := fun {x : Blk} {H : Heap} {off size : Nat} {v : Value} {s : Option Nat} => storeV_ne (h := H) (x := x) (off := off) (size := size) (v := v) (s := s) (Ne.symm q32)
  have st4 : ∀ (H : Heap) (us : List Value), us.length = 3 → us.all one = true → storeV (H.set b4 (.own 0 [.int .u64 0, .int .u64 0, .int .u64 0] 3)) 3 (.pointer (some ⟨b4, 0, none⟩)) (.agg us.toArray) = some (H.set b4 (.own 0 us 3)) := fun H us h1 h2 => z6q (by omega) h1 h2 rfl (by omega)
  have st4 := fun H (a b c : Int) => st4 H [.int .u64 a, .int .u64 b, .int .u64 c] rfl rfl
  have p1 := add64_0 x0 y0
  have p2 := add64_c x1 y1 ((x0 + y0) / 18446744073709551616) (by omega)
  simp -implicitDefEqProofs only [zB1,zB2,zB3,zB4,zB5,zB6,zB7,zB8,zB9,zB10,zB11,y00,y01,y02,y03,y04,y05,y06,y07,y08,y09,y0a,y0b,y0c,y0d,y0e,y0f,y0g,y0h,y0i,y0j,y0k,y0l,y0m,y0n,y0o,y0p,y0q,y0r,y0s,y0t,y0u,y0v,y0w,y0x,y0y,y0z,y10,y11,y12,y13,y14,y15,y16,y17,y18,y19,y1a,y1b,y1c,y1d,y1e,y1f,y1g,y1h,y1i,y1j,y1k,y1l,y1m,y1n,y1o,y1p,y1q,y1r,retO,retL,retV,z69,allV,allP,z6a,z6d,z6e,z6k,z6l,z6m,binV,eqV,unV,oOpt,reduceIte,reduceCtorEq,Nat.reduceEqDiff,Nat.reduceAdd,Nat.reduceMul,Nat.reduceLT,Nat.reduceSub,Int.reduceLT,Int.reduceLE,Int.reduceEq,Int.reduceNe,Int.reduceSub,Int.reduceAdd,Int.reduceMul,Int.reduceBEq,Int.reduceBNe,Int.reduceGT,Int.reduceGE,Nat.reduceGT,Int.reduceToNat,Int.reduceNeg,Nat.reduceLeDiff,Nat.reduceBEq,Nat.reduceBneDiff,Value.cells, f2, f3, f4, g2, g3, t2, t3, st4, Int.toNat_natCast, p1, p2, w1, w2]
  exact ⟨Heap.le_set (Heap.le_set (Heap.le_set (Heap.le_refl _) hb2 _) (Heap.set_none.1 hb3).2 _) (Heap.set_none.1 hb4').2 _, rfl⟩

theorem N3.ok2 (a b : Nat) (h : a * b < 340282366920938463463374607431768211456) : (⟨a * b % 18446744073709551616, a * b / 18446744073709551616, 0⟩ : N3).ok := ⟨Nat.mod_lt _ (by decide), by
  simp only
  generalize a * b = x at *
  omega, by simp⟩
theorem mul_lt {a b : Nat} (ha : a < 18446744073709551616) (hb : b < 18446744073709551616) : a * b < 340282366920938463463374607431768211456 := by
  have := Nat.mul_le_mul (show a ≤ 18446744073709551615 by omega) (show b ≤ 18446744073709551615 by omega)
  omega
def N3.col (s : N3) (a b : Nat) : N3 := s.plus ⟨a * b % 18446744073709551616, a * b / 18446744073709551616, 0⟩
theorem N3.col_ok (s : N3) (a b : Nat) : (s.col a b).ok := N3.plus_ok _ _
theorem store3 {H : Heap} {b : Nat} {old : List Value} (x : N3) (h : H b = some (.own 0 old 3)) (hl : old.length = 3) : storeV H 3 (.pointer (some ⟨b, 0, none⟩)) x.V = some (H.set b (.own 0 x.cells 3)) := by
  unfold N3.V; exact storeV_agg_at h (by omega) rfl rfl hl (by omega)

theorem column_c (E : EnvT tab) (h : Heap) (s : N3) (a b : Nat) (hs : s.ok) (ha : a < 18446744073709551616) (hb : b < 18446744073709551616) :
    ACallN E.toEnv n_poly_column [s.V, .int .u64 (a : Int), .int .u64 (b : Int)] h fun r h' => h.le h' ∧ r = (s.col a b).V := by
  obtain ⟨s0, s1, s2⟩ := s
  refine acall h_poly_column ir_poly_column rfl rfl (wpA_sound ?_)
  unfold ir_poly_column N3.V N3.cells
  simp -implicitDefEqProofs only [zB1,zB2,zB3,zB4,zB5,zB6,zB7,zB8,zB9,zB10,zB11,y00,y01,y02,y03,y04,y05,y06,y07,y08,y09,y0a,y0b,y0c,y0d,y0e,y0f,y0g,y0h,y0i,y0j,y0k,y0l,y0m,y0n,y0o,y0p,y0q,y0r,y0s,y0t,y0u,y0v,y0w,y0x,y0y,y0z,y10,y11,y12,y13,y14,y15,y16,y17,y18,y19,y1a,y1b,y1c,y1d,y1e,y1f,y1g,y1h,y1i,y1j,y1k,y1l,y1m,y1n,y1o,y1p,y1q,y1r,retO,retL,retV,z69,allV,allP,z6a,z6d,z6e,z6k,z6l,z6m,binV,eqV,unV,oOpt,reduceIte,reduceCtorEq,Nat.reduceEqDiff,Nat.reduceAdd,Nat.reduceMul,Nat.reduceLT,Nat.reduceSub,Int.reduceLT,Int.reduceLE,Int.reduceEq,Int.reduceNe,Int.reduceSub,Int.reduceAdd,Int.reduceMul,Int.reduceBEq,Int.reduceBNe,Int.reduceGT,Int.reduceGE,Nat.reduceGT,Int.reduceToNat,Int.reduceNeg,Nat.reduceLeDiff,Nat.reduceBEq,Nat.reduceBneDiff,Value.cells]
  intro b3 hb3 b6 hb6
  try simp -implicitDefEqProofs only [zB1,zB2,zB3,zB4,zB5,zB6,zB7,zB8,zB9,zB10,zB11,y00,y01,y02,y03,y04,y05,y06,y07,y08,y09,y0a,y0b,y0c,y0d,y0e,y0f,y0g,y0h,y0i,y0j,y0k,y0l,y0m,y0n,y0o,y0p,y0q,y0r,y0s,y0t,y0u,y0v,y0w,y0x,y0y,y0z,y10,y11,y12,y13,y14,y15,y16,y17,y18,y19,y1a,y1b,y1c,y1d,y1e,y1f,y1g,y1h,y1i,y1j,y1k,y1l,y1m,y1n,y1o,y1p,y1q,y1r,retO,retL,retV,z69,allV,allP,z6a,z6d,z6e,z6k,z6l,z6m,binV,eqV,unV,oOpt,reduceIte,reduceCtorEq,Nat.reduceEqDiff,Nat.reduceAdd,Nat.reduceMul,Nat.reduceLT,Nat.reduceSub,Int.reduceLT,Int.reduceLE,Int.reduceEq,Int.reduceNe,Int.reduceSub,Int.reduceAdd,Int.reduceMul,Int.reduceBEq,Int.reduceBNe,Int.reduceGT,Int.reduceGE,Nat.reduceGT,Int.reduceToNat,Int.reduceNeg,Nat.reduceLeDiff,Nat.reduceBEq,Nat.reduceBneDiff,Value.cells]
  have n63 := (Heap.set_none.1 hb6).1
  have hb6' := (Heap.set_none.1 hb6).2
  have le1 : h.le ((h.set b3 (.own 0 [.int .u64 (s0 : Int), .int .u64 (s1 : Int), .int .u64 (s2 : Int)] 3)).set b6 (.own 0 [.int .u64 0, .int .u64 0, .int .u64 0] 3)) := Heap.le_set (Heap.le_set (Heap.le_refl _) hb3 _) hb6' _
  have q6 : ((h.set b3 (.own 0 [.int .u64 (s0 : Int), .int .u64 (s1 : Int), .int .u64 (s2 : Int)] 3)).set b6 (.own 0 [.int .u64 0, .int .u64 0, .int .u64 0] 3)) b6 = some (.own 0 [.int .u64 0, .int .u64 0, .int .u64 0] 3) := Heap.set_self _ _ _
  have q3 : hcells ((h.set b3 (.own 0 [.int .u64 (s0 : Int), .int .u64 (s1 : Int), .int .u64 (s2 : Int)] 3)).set b6 (.own 0 [.int .u64 0, .int .u64 0, .int .u64 0] 3)) ⟨b3, 0, none⟩ 3 = some [.int .u64 (s0 : Int), .int .u64 (s1 : Int), .int .u64 (s2 : Int)] := by rw [hcells_ne (Ne.symm n63)]; exact z6o rfl
  generalize ((h.set b3 (.own 0 [.int .u64 (s0 : Int), .int .u64 (s1 : Int), .int .u64 (s2 : Int)] 3)).set b6 (.own 0 [.int .u64 0, .int .u64 0, .int .u64 0] 3)) = h1 at le1 q6 q3
  refine (Mul64_c E _ a b ha hb).mono ?_
  rintro r h' ⟨rfl, rfl⟩
  simp -implicitDefEqProofs only [zB1,zB2,zB3,zB4,zB5,zB6,zB7,zB8,zB9,zB10,zB11,y00,y01,y02,y03,y04,y05,y06,y07,y08,y09,y0a,y0b,y0c,y0d,y0e,y0f,y0g,y0h,y0i,y0j,y0k,y0l,y0m,y0n,y0o,y0p,y0q,y0r,y0s,y0t,y0u,y0v,y0w,y0x,y0y,y0z,y10,y11,y12,y13,y14,y15,y16,y17,y18,y19,y1a,y1b,y1c,y1d,y1e,y1f,y1g,y1h,y1i,y1j,y1k,y1l,y1m,y1n,y1o,y1p,y1q,y1r,retO,retL,retV,z69,allV,allP,z6a,z6d,z6e,z6k,z6l,z6m,binV,eqV,unV,oOpt,reduceIte,reduceCtorEq,Nat.reduceEqDiff,Nat.reduceAdd,Nat.reduceMul,Nat.reduceLT,Nat.reduceSub,Int.reduceLT,Int.reduceLE,Int.reduceEq,Int.reduceNe,Int.reduceSub,Int.reduceAdd,Int.reduceMul,Int.reduceBEq,Int.reduceBNe,Int.reduceGT,Int.reduceGE,Nat.reduceGT,Int.reduceToNat,Int.reduceNeg,Nat.reduceLeDiff,Nat.reduceBEq,Nat.reduceBneDiff,Value.cells, q3]
  refine (num_plus_c E h' ⟨s0, s1, s2⟩ ⟨a * b % 18446744073709551616, a * b / 18446744073709551616, 0⟩ hs (N3.ok2 a b (mul_lt ha hb))).mono ?_
  rintro r h2 ⟨le2, rfl⟩
  have st := store3 (((⟨s0, s1, s2⟩ : N3)).plus ⟨a * b % 18446744073709551616, a * b / 18446744073709551616, 0⟩) (le2 _ _ q6) rfl
  have hl := z6o (h := h2) (b := b6) (vs := (((⟨s0, s1, s2⟩ : N3)).plus ⟨a * b % 18446744073709551616, a * b / 18446744073709551616, 0⟩).cells) (sz := 3) (n := 3) rfl
  simp -implicitDefEqProofs only [zB1,zB2,zB3,zB4,zB5,zB6,zB7,zB8,zB9,zB10,zB11,y00,y01,y02,y03,y04,y05,y06,y07,y08,y09,y0a,y0b,y0c,y0d,y0e,y0f,y0g,y0h,y0i,y0j,y0k,y0l,y0m,y0n,y0o,y0p,y0q,y0r,y0s,y0t,y0u,y0v,y0w,y0x,y0y,y0z,y10,y11,y12,y13,y14,y15,y16,y17,y18,y19,y1a,y1b,y1c,y1d,y1e,y1f,y1g,y1h,y1i,y1j,y1k,y1l,y1m,y1n,y1o,y1p,y1q,y1r,retO,retL,retV,z69,allV,allP,z6a,z6d,z6e,z6k,z6l,z6m,binV,eqV,unV,oOpt,reduceIte,reduceCtorEq,Nat.reduceEqDiff,Nat.reduceAdd,Nat.reduceMul,Nat.reduceLT,Nat.reduceSub,Int.reduceLT,Int.reduceLE,Int.reduceEq,Int.reduceNe,Int.reduceSub,Int.reduceAdd,Int.reduceMul,Int.reduceBEq,Int.reduceBNe,Int.reduceGT,Int.reduceGE,Nat.reduceGT,Int.reduceToNat,Int.reduceNeg,Nat.reduceLeDiff,Nat.reduceBEq,Nat.reduceBneDiff,Value.cells, st, hl]
  exact ⟨Heap.le_set (Heap.le_trans le1 le2) hb6' _, rfl⟩
end Go.Bb
/- Contracts: numbers of three words, cut. -/
namespace Go.Bb
set_option linter.unusedSimpArgs false
set_option linter.unusedVariables false
set_option maxRecDepth 20000

theorem and_3 (a : Nat) : IntKind.u64.wrap ((BitVec.ofInt IntKind.u64.bits (a : Int) &&& BitVec.ofInt IntKind.u64.bits 3).toNat : Int) = ((a % 4 : Nat) : Int) := by
  have e : (BitVec.ofInt IntKind.u64.bits (a : Int) &&& BitVec.ofInt IntKind.u64.bits 3).toNat = a % 4 := by
    rw [show IntKind.u64.bits = 64 from rfl, show BitVec.ofInt 64 3 = BitVec.ofNat 64 (2 ^ 2 - 1) from rfl, ofInt_nat, BitVec.toNat_and, BitVec.toNat_ofNat, BitVec.toNat_ofNat]
    rw [Nat.mod_eq_of_lt (show 2 ^ 2 - 1 < 2 ^ 64 by decide), Nat.and_two_pow_sub_one_eq_mod]
    omega
  rw [e]
  exact wrap_u64n (by omega)
theorem shr_2 (a : Nat) : (a : Int).fdiv (2 ^ (min (Int.toNat 2) IntKind.u64.bits)) = ((a / 4 : Nat) : Int) := by
  rw [show min (Int.toNat 2) IntKind.u64.bits = 2 from rfl, Int.fdiv_eq_ediv_of_nonneg _ (by decide)]
  simp
theorem shr_2' (a : Nat) : (a : Int).fdiv (2 ^ (min 2 IntKind.u64.bits)) = ((a / 4 : Nat) : Int) := shr_2 a

def N3.cut (x : N3) : N3 := (⟨x.a, x.b, x.c % 4⟩ : N3).plus ⟨x.c / 4 * 5 % 18446744073709551616, x.c / 4 * 5 / 18446744073709551616, 0⟩
theorem num_cut_c (E : EnvT tab) (h : Heap) (x : N3) (hx : x.ok) : ACallN E.toEnv n_poly_num_cut [x.V] h fun r h' => h.le h' ∧ r = x.cut.V := by
  obtain ⟨s0, s1, s2⟩ := x
  obtain ⟨k0, k1, k2⟩ := hx
  simp only at k0 k1 k2
  refine acall h_poly_num_cut ir_poly_num_cut rfl rfl (wpA_sound ?_)
  unfold ir_poly_num_cut N3.V N3.cells
  simp -implicitDefEqProofs only [zB1,zB2,zB3,zB4,zB5,zB6,zB7,zB8,zB9,zB10,zB11,y00,y01,y02,y03,y04,y05,y06,y07,y08,y09,y0a,y0b,y0c,y0d,y0e,y0f,y0g,y0h,y0i,y0j,y0k,y0l,y0m,y0n,y0o,y0p,y0q,y0r,y0s,y0t,y0u,y0v,y0w,y0x,y0y,y0z,y10,y11,y12,y13,y14,y15,y16,y17,y18,y19,y1a,y1b,y1c,y1d,y1e,y1f,y1g,y1h,y1i,y1j,y1k,y1l,y1m,y1n,y1o,y1p,y1q,y1r,retO,retL,retV,z69,allV,allP,z6a,z6d,z6e,z6k,z6l,z6m,binV,eqV,unV,oOpt,reduceIte,reduceCtorEq,Nat.reduceEqDiff,Nat.reduceAdd,Nat.reduceMul,Nat.reduceLT,Nat.reduceSub,Int.reduceLT,Int.reduceLE,Int.reduceEq,Int.reduceNe,Int.reduceSub,Int.reduceAdd,Int.reduceMul,Int.reduceBEq,Int.reduceBNe,Int.reduceGT,Int.reduceGE,Nat.reduceGT,Int.reduceToNat,Int.reduceNeg,Nat.reduceLeDiff,Nat.reduceBEq,Nat.reduceBneDiff,Value.cells]
  intro b3 hb3 b6 hb6
  try simp -implicitDefEqProofs only [zB1,zB2,zB3,zB4,zB5,zB6,zB7,zB8,zB9,zB10,zB11,y00,y01,y02,y03,y04,y05,y06,y07,y08,y09,y0a,y0b,y0c,y0d,y0e,y0f,y0g,y0h,y0i,y0j,y0k,y0l,y0m,y0n,y0o,y0p,y0q,y0r,y0s,y0t,y0u,y0v,y0w,y0x,y0y,y0z,y10,y11,y12,y13,y14,y15,y16,y17,y18,y19,y1a,y1b,y1c,y1d,y1e,y1f,y1g,y1h,y1i,y1j,y1k,y1l,y1m,y1n,y1o,y1p,y1q,y1r,retO,retL,retV,z69,allV,allP,z6a,z6d,z6e,z6k,z6l,z6m,binV,eqV,unV,oOpt,reduceIte,reduceCtorEq,Nat.reduceEqDiff,Nat.reduceAdd,Nat.reduceMul,Nat.reduceLT,Nat.reduceSub,Int.reduceLT,Int.reduceLE,Int.reduceEq,Int.reduceNe,Int.reduceSub,Int.reduceAdd,Int.reduceMul,Int.reduceBEq,Int.reduceBNe,Int.reduceGT,Int.reduceGE,Nat.reduceGT,Int.reduceToNat,Int.reduceNeg,Nat.reduceLeDiff,Nat.reduceBEq,Nat.reduceBneDiff,Value.cells]
  have n63 := (Heap.set_none.1 hb6).1
  have hb6' := (Heap.set_none.1 hb6).2
  have le1 : h.le ((h.set b3 (.own 0 [.int .u64 (s0 : Int), .int .u64 (s1 : Int), .int .u64 ((s2 % 4 : Nat) : Int)] 3)).set b6 (.own 0 [.int .u64 0, .int .u64 0, .int .u64 0] 3)) := Heap.le_set (Heap.le_set (Heap.le_refl _) hb3 _) hb6' _
  have q6 : ((h.set b3 (.own 0 [.int .u64 (s0 : Int), .int .u64 (s1 : Int), .int .u64 ((s2 % 4 : Nat) : Int)] 3)).set b6 (.own 0 [.int .u64 0, .int .u64 0, .int .u64 0] 3)) b6 = some (.own 0 [.int .u64 0, .int .u64 0, .int .u64 0] 3) := Heap.set_self _ _ _
  have q3 : hcells ((h.set b3 (.own 0 [.int .u64 (s0 : Int), .int .u64 (s1 : Int), .int .u64 ((s2 % 4 : Nat) : Int)] 3)).set b6 (.own 0 [.int .u64 0, .int .u64 0, .int .u64 0] 3)) ⟨b3, 0, none⟩ 3 = some [.int .u64 (s0 : Int), .int .u64 (s1 : Int), .int .u64 ((s2 % 4 : Nat) : Int)] := by rw [hcells_ne (Ne.symm n63)]; exact z6o rfl
  have f3 := fun {x : Blk} {H : Heap} {off : Nat} {s : Option Nat} => hcell_ne (h := H) (x := x) (off := off) (s := s) (Ne.symm n63)
  have t3 := fun {x : Blk} {H : Heap} {off size : Nat} {v : Value} {s : Option Nat} => storeV_ne (h := H) (x := x) (off := off) (size := size) (v := v) (s := s) (Ne.symm n63)
  simp -implicitDefEqProofs only [zB1,zB2,zB3,zB4,zB5,zB6,zB7,zB8,zB9,zB10,zB11,y00,y01,y02,y03,y04,y05,y06,y07,y08,y09,y0a,y0b,y0c,y0d,y0e,y0f,y0g,y0h,y0i,y0j,y0k,y0l,y0m,y0n,y0o,y0p,y0q,y0r,y0s,y0t,y0u,y0v,y0w,y0x,y0y,y0z,y10,y11,y12,y13,y14,y15,y16,y17,y18,y19,y1a,y1b,y1c,y1d,y1e,y1f,y1g,y1h,y1i,y1j,y1k,y1l,y1m,y1n,y1o,y1p,y1q,y1r,retO,retL,retV,z69,allV,allP,z6a,z6d,z6e,z6k,z6l,z6m,binV,eqV,unV,oOpt,reduceIte,reduceCtorEq,Nat.reduceEqDiff,Nat.reduceAdd,Nat.reduceMul,Nat.reduceLT,Nat.reduceSub,Int.reduceLT,Int.reduceLE,Int.reduceEq,Int.reduceNe,Int.reduceSub,Int.reduceAdd,Int.reduceMul,Int.reduceBEq,Int.reduceBNe,Int.reduceGT,Int.reduceGE,Nat.reduceGT,Int.reduceToNat,Int.reduceNeg,Nat.reduceLeDiff,Nat.reduceBEq,Nat.reduceBneDiff,Value.cells, f3, t3, and_3, shr_2, shr_2']
  generalize ((h.set b3 (.own 0 [.int .u64 (s0 : Int), .int .u64 (s1 : Int), .int .u64 ((s2 % 4 : Nat) : Int)] 3)).set b6 (.own 0 [.int .u64 0, .int .u64 0, .int .u64 0] 3)) = h1 at le1 q6 q3 ⊢
  refine (Mul64_c E _ (s2 / 4) 5 (by omega) (by decide)).mono ?_
  rintro r h' ⟨rfl, rfl⟩
  simp -implicitDefEqProofs only [zB1,zB2,zB3,zB4,zB5,zB6,zB7,zB8,zB9,zB10,zB11,y00,y01,y02,y03,y04,y05,y06,y07,y08,y09,y0a,y0b,y0c,y0d,y0e,y0f,y0g,y0h,y0i,y0j,y0k,y0l,y0m,y0n,y0o,y0p,y0q,y0r,y0s,y0t,y0u,y0v,y0w,y0x,y0y,y0z,y10,y11,y12,y13,y14,y15,y16,y17,y18,y19,y1a,y1b,y1c,y1d,y1e,y1f,y1g,y1h,y1i,y1j,y1k,y1l,y1m,y1n,y1o,y1p,y1q,y1r,retO,retL,retV,z69,allV,allP,z6a,z6d,z6e,z6k,z6l,z6m,binV,eqV,unV,oOpt,reduceIte,reduceCtorEq,Nat.reduceEqDiff,Nat.reduceAdd,Nat.reduceMul,Nat.reduceLT,Nat.reduceSub,Int.reduceLT,Int.reduceLE,Int.reduceEq,Int.reduceNe,Int.reduceSub,Int.reduceAdd,Int.reduceMul,Int.reduceBEq,Int.reduceBNe,Int.reduceGT,Int.reduceGE,Nat.reduceGT,Int.reduceToNat,Int.reduceNeg,Nat.reduceLeDiff,Nat.reduceBEq,Nat.reduceBneDiff,Value.cells, q3]
  refine (num_plus_c E h' ⟨s0, s1, s2 % 4⟩ ⟨s2 / 4 * 5 % 18446744073709551616, s2 / 4 * 5 / 18446744073709551616, 0⟩ ⟨k0, k1, by simp only; omega⟩ (N3.ok2 (s2 / 4) 5 (mul_lt (by omega) (by decide)))).mono ?_
  rintro r h2 ⟨le2, rfl⟩
  have st := store3 ((⟨s0, s1, s2 % 4⟩ : N3).plus ⟨s2 / 4 * 5 % 18446744073709551616, s2 / 4 * 5 / 18446744073709551616, 0⟩) (le2 _ _ q6) rfl
  have hl := z6o (h := h2) (b := b6) (vs := ((⟨s0, s1, s2 % 4⟩ : N3).plus ⟨s2 / 4 * 5 % 18446744073709551616, s2 / 4 * 5 / 18446744073709551616, 0⟩).cells) (sz := 3) (n := 3) rfl
  simp -implicitDefEqProofs only [zB1,zB2,zB3,zB4,zB5,zB6,zB7,zB8,zB9,zB10,zB11,y00,y01,y02,y03,y04,y05,y06,y07,y08,y09,y0a,y0b,y0c,y0d,y0e,y0f,y0g,y0h,y0i,y0j,y0k,y0l,y0m,y0n,y0o,y0p,y0q,y0r,y0s,y0t,y0u,y0v,y0w,y0x,y0y,y0z,y10,y11,y12,y13,y14,y15,y16,y17,y18,y19,y1a,y1b,y1c,y1d,y1e,y1f,y1g,y1h,y1i,y1j,y1k,y1l,y1m,y1n,y1o,y1p,y1q,y1r,retO,retL,retV,z69,allV,allP,z6a,z6d,z6e,z6k,z6l,z6m,binV,eqV,unV,oOpt,reduceIte,reduceCtorEq,Nat.reduceEqDiff,Nat.reduceAdd,Nat.reduceMul,Nat.reduceLT,Nat.reduceSub,Int.reduceLT,Int.reduceLE,Int.reduceEq,Int.reduceNe,Int.reduceSub,Int.reduceAdd,Int.reduceMul,Int.reduceBEq,Int.reduceBNe,Int.reduceGT,Int.reduceGE,Nat.reduceGT,Int.reduceToNat,Int.reduceNeg,Nat.reduceLeDiff,Nat.reduceBEq,Nat.reduceBneDiff,Value.cells, st, hl]
  exact ⟨Heap.le_set (Heap.le_trans le1 le2) hb6' _, rfl⟩
end Go.Bb
/- Contracts: numbers of three words, the last form. -/
namespace Go.Bb
set_option linter.unusedSimpArgs false
set_option linter.unusedVariables false
set_option maxRecDepth 20000

end Go.Bb
/- Contracts: numbers of three words, multiplied. -/
namespace Go.Bb
set_option linter.unusedSimpArgs false
set_option linter.unusedVariables false
set_option maxRecDepth 20000

def z3 : N3 := ⟨0, 0, 0⟩
theorem z3_ok : z3.ok := ⟨by simp [z3], by simp [z3], by simp [z3]⟩
def colsF (x : N3) (r0 r1 : Nat) : Nat → N3
  | 0 => z3.col x.a r0
  | 1 => (z3.col x.a r1).col x.b r0
  | 2 => (z3.col x.b r1).col x.c r0
  | _ => z3.col x.c r1
theorem colsF_ok (x : N3) (r0 r1 i : Nat) : (colsF x r0 r1 i).ok := by
  unfold colsF
  split <;> exact N3.col_ok _ _ _
def carryF (C : Nat → N3) : Nat → N3
  | 0 => z3
  | i + 1 => ⟨((carryF C i).plus (C i)).b, ((carryF C i).plus (C i)).c, 0⟩
def outW (C : Nat → N3) (i : Nat) : Nat := ((carryF C i).plus (C i)).a
theorem carryF_ok (C : Nat → N3) : ∀ i, (carryF C i).ok
  | 0 => z3_ok
  | i + 1 => by
      have := N3.plus_ok (carryF C i) (C i)
      exact ⟨this.2.1, this.2.2, by simp [carryF]⟩
def addsF (x y : N3) : Nat → N3
  | 0 => x
  | n + 1 => (addsF x y n).plus y
def lowF (C : Nat → N3) : N3 := ⟨outW C 0, outW C 1, outW C 2 % 4⟩
def highF (C : Nat → N3) : N3 := ⟨outW C 2 / 4 + outW C 3 % 4 * 4611686018427387904, outW C 3 / 4, 0⟩
theorem outW_lt (C : Nat → N3) (i : Nat) : outW C i < 18446744073709551616 := (N3.plus_ok (carryF C i) (C i)).1
theorem lowF_ok (C : Nat → N3) : (lowF C).ok := ⟨outW_lt C 0, outW_lt C 1, by simp only [lowF]; omega⟩
theorem highF_ok (C : Nat → N3) : (highF C).ok := ⟨by have := outW_lt C 2; simp only [highF]; omega, by have := outW_lt C 3; simp only [highF]; omega, by simp [highF]⟩
theorem addsF_ok {x y : N3} (hx : x.ok) : ∀ n, (addsF x y n).ok
  | 0 => hx
  | n + 1 => N3.plus_ok _ _
def N3.times (x : N3) (r0 r1 : Nat) : N3 := (addsF (lowF (colsF x r0 r1)) (highF (colsF x r0 r1)) 5).cut

def rowQ (f : Nat → Nat) (n : Nat) : List Value := (List.range n).map fun j => .int .u64 ((f j : Nat) : Int)
theorem rowQ_len (f : Nat → Nat) (n : Nat) : (rowQ f n).length = n := by simp [rowQ]
theorem rowQ_get (f : Nat → Nat) {n j : Nat} (h : j < (rowQ f n).length) : (rowQ f n)[j] = .int .u64 ((f j : Nat) : Int) := by simp [rowQ]
theorem rowQ_set (f : Nat → Nat) (n i z : Nat) : (rowQ f n).set i (.int .u64 (z : Int)) = rowQ (fun j => if j = i then z else f j) n := by
  apply List.ext_getElem
  · simp [rowQ]
  · intro j h1 h2
    rw [List.getElem_set, rowQ_get, rowQ_get]
    by_cases e : i = j
    · subst e; simp
    · rw [if_neg e]; simp [Ne.symm e]
theorem rowQ_at {H : Heap} {b n j sz : Nat} {f : Nat → Nat} (h : H b = some (.own 0 (rowQ f n) sz)) (hj : j < n) : hcell H ⟨b, j, none⟩ = some (.int .u64 ((f j : Nat) : Int)) := by
  rw [hcell_at h (by rw [rowQ_len]; exact hj), rowQ_get]
theorem rowQ_store {H : Heap} {b n j z : Nat} {f : Nat → Nat} (h : H b = some (.own 0 (rowQ f n) n)) (hj : j < n) : storeV H 1 (.pointer (some ⟨b, j, none⟩)) (.int .u64 (z : Int)) = some (H.set b (.own 0 (rowQ (fun k => if k = j then z else f k) n) n)) := by
  rw [storeV_one_at h rfl (by rw [rowQ_len]; exact hj) (by rw [rowQ_len]; omega), rowQ_set]
theorem rowQ_step (g : Nat → Nat) (i n : Nat) : rowQ (fun k => if k = i then g i else (if k < i then g k else 0)) n = rowQ (fun k => if k < i + 1 then g k else 0) n := by
  unfold rowQ
  apply List.map_congr_left
  intro j _
  by_cases e : j = i
  · subst e; simp
  · simp only [e, if_false]
    by_cases e2 : j < i
    · rw [if_pos e2, if_pos (by omega)]
    · rw [if_neg e2, if_neg (by omega)]
def LST (C : Nat → N3) : List Value := (C 0).cells ++ ((C 1).cells ++ ((C 2).cells ++ (C 3).cells))
theorem LST_at (C : Nat → N3) (i : Nat) (h : i < 4) : ((LST C).drop (i * 3)).take 3 = (C i).cells := by
  match i, h with
  | 0, _ => rfl
  | 1, _ => rfl
  | 2, _ => rfl
  | 3, _ => rfl

theorem shl_62 (a : Nat) : IntKind.u64.wrap ((a : Int) * 2 ^ (min (Int.toNat 62) IntKind.u64.bits)) = ((a % 4 * 4611686018427387904 : Nat) : Int) := by
  rw [show min (Int.toNat 62) IntKind.u64.bits = 62 from rfl]
  have : (a : Int) * 2 ^ 62 = ((a * 4611686018427387904 : Nat) : Int) := by simp
  rw [this, wrap_u64m]
  congr 1
  omega
theorem shl_62' (a : Nat) : IntKind.u64.wrap ((a : Int) * 2 ^ (min 62 IntKind.u64.bits)) = ((a % 4 * 4611686018427387904 : Nat) : Int) := shl_62 a
theorem or_hi (a c : Nat) (ha : a < 4611686018427387904) (hc : c < 4) : IntKind.u64.wrap ((BitVec.ofInt IntKind.u64.bits (a : Int) ||| BitVec.ofInt IntKind.u64.bits ((c * 4611686018427387904 : Nat) : Int)).toNat : Int) = ((a + c * 4611686018427387904 : Nat) : Int) := by
  have e : (BitVec.ofInt IntKind.u64.bits (a : Int) ||| BitVec.ofInt IntKind.u64.bits ((c * 4611686018427387904 : Nat) : Int)).toNat = a + c * 4611686018427387904 := by
    rw [show IntKind.u64.bits = 64 from rfl, ofInt_nat, ofInt_nat, BitVec.toNat_or, BitVec.toNat_ofNat, BitVec.toNat_ofNat]
    rw [Nat.mod_eq_of_lt (show a < 2 ^ 64 by omega), Nat.mod_eq_of_lt (show c * 4611686018427387904 < 2 ^ 64 by omega)]
    have h := Nat.shiftLeft_add_eq_or_of_lt (i := 62) (b := a) (by omega) c
    rw [Nat.shiftLeft_eq] at h
    rw [Nat.or_comm, show c * 4611686018427387904 = c * 2 ^ 62 from rfl, ← h]
    omega
  rw [e]
  exact wrap_u64n (by omega)

theorem num_times_c (E : EnvT tab) (h : Heap) (x : N3) (r0 r1 : Nat) (hx : x.ok) (h0 : r0 < 18446744073709551616) (h1 : r1 < 18446744073709551616) :
    ACallN E.toEnv n_poly_num_times [x.V, .agg #[.int .u64 (r0 : Int), .int .u64 (r1 : Int)]] h fun r h' => h.le h' ∧ r = (x.times r0 r1).V := by
  refine acall h_poly_num_times ir_poly_num_times rfl rfl (wpA_sound ?_)
  unfold ir_poly_num_times
  have eV : x.V = .agg #[.int .u64 (x.a : Int), .int .u64 (x.b : Int), .int .u64 (x.c : Int)] := rfl
  rw [eV]
  simp -implicitDefEqProofs only [zB1,zB2,zB3,zB4,zB5,zB6,zB7,zB8,zB9,zB10,zB11,y00,y01,y02,y03,y04,y05,y06,y07,y08,y09,y0a,y0b,y0c,y0d,y0e,y0f,y0g,y0h,y0i,y0j,y0k,y0l,y0m,y0n,y0o,y0p,y0q,y0r,y0s,y0t,y0u,y0v,y0w,y0x,y0y,y0z,y10,y11,y12,y13,y14,y15,y16,y17,y18,y19,y1a,y1b,y1c,y1d,y1e,y1f,y1g,y1h,y1i,y1j,y1k,y1l,y1m,y1n,y1o,y1p,y1q,y1r,retO,retL,retV,z69,allV,allP,z6a,z6d,z6e,z6k,z6l,z6m,binV,eqV,unV,oOpt,reduceIte,reduceCtorEq,Nat.reduceEqDiff,Nat.reduceAdd,Nat.reduceMul,Nat.reduceLT,Nat.reduceSub,Int.reduceLT,Int.reduceLE,Int.reduceEq,Int.reduceNe,Int.reduceSub,Int.reduceAdd,Int.reduceMul,Int.reduceBEq,Int.reduceBNe,Int.reduceGT,Int.reduceGE,Nat.reduceGT,Int.reduceToNat,Int.reduceNeg,Nat.reduceLeDiff,Nat.reduceBEq,Nat.reduceBneDiff,Value.cells]
  intro b2 hb2 b3 hb3 b4 hb4
  try simp -implicitDefEqProofs only [zB1,zB2,zB3,zB4,zB5,zB6,zB7,zB8,zB9,zB10,zB11,y00,y01,y02,y03,y04,y05,y06,y07,y08,y09,y0a,y0b,y0c,y0d,y0e,y0f,y0g,y0h,y0i,y0j,y0k,y0l,y0m,y0n,y0o,y0p,y0q,y0r,y0s,y0t,y0u,y0v,y0w,y0x,y0y,y0z,y10,y11,y12,y13,y14,y15,y16,y17,y18,y19,y1a,y1b,y1c,y1d,y1e,y1f,y1g,y1h,y1i,y1j,y1k,y1l,y1m,y1n,y1o,y1p,y1q,y1r,retO,retL,retV,z69,allV,allP,z6a,z6d,z6e,z6k,z6l,z6m,binV,eqV,unV,oOpt,reduceIte,reduceCtorEq,Nat.reduceEqDiff,Nat.reduceAdd,Nat.reduceMul,Nat.reduceLT,Nat.reduceSub,Int.reduceLT,Int.reduceLE,Int.reduceEq,Int.reduceNe,Int.reduceSub,Int.reduceAdd,Int.reduceMul,Int.reduceBEq,Int.reduceBNe,Int.reduceGT,Int.reduceGE,Nat.reduceGT,Int.reduceToNat,Int.reduceNeg,Nat.reduceLeDiff,Nat.reduceBEq,Nat.reduceBneDiff,Value.cells]
  have n32 := (Heap.set_none.1 hb3).1
  have n43 := (Heap.set_none.1 hb4).1
  have hb4' := (Heap.set_none.1 hb4).2
  have n42 := (Heap.set_none.1 hb4').1
  have hb4'' := (Heap.set_none.1 hb4').2
  have hb3' := (Heap.set_none.1 hb3).2
  have leA : h.le (((h.set b2 (.own 0 [.int .u64 (x.a : Int), .int .u64 (x.b : Int), .int .u64 (x.c : Int)] 3)).set b3 (.own 0 [.int .u64 (r0 : Int), .int .u64 (r1 : Int)] 2)).set b4 (.own 0 [.int .u64 0, .int .u64 0, .int .u64 0] 3)) := Heap.le_set (Heap.le_set (Heap.le_set (Heap.le_refl _) hb2 _) hb3' _) hb4'' _
  have q4 : (((h.set b2 (.own 0 [.int .u64 (x.a : Int), .int .u64 (x.b : Int), .int .u64 (x.c : Int)] 3)).set b3 (.own 0 [.int .u64 (r0 : Int), .int .u64 (r1 : Int)] 2)).set b4 (.own 0 [.int .u64 0, .int .u64 0, .int .u64 0] 3)) b4 = some (.own 0 [.int .u64 0, .int .u64 0, .int .u64 0] 3) := Heap.set_self _ _ _
  have q3 : (((h.set b2 (.own 0 [.int .u64 (x.a : Int), .int .u64 (x.b : Int), .int .u64 (x.c : Int)] 3)).set b3 (.own 0 [.int .u64 (r0 : Int), .int .u64 (r1 : Int)] 2)).set b4 (.own 0 [.int .u64 0, .int .u64 0, .int .u64 0] 3)) b3 = some (.own 0 [.int .u64 (r0 : Int), .int .u64 (r1 : Int)] 2) := by rw [Heap.set_ne (Ne.symm n43), Heap.set_self]
  have q2 : (((h.set b2 (.own 0 [.int .u64 (x.a : Int), .int .u64 (x.b : Int), .int .u64 (x.c : Int)] 3)).set b3 (.own 0 [.int .u64 (r0 : Int), .int .u64 (r1 : Int)] 2)).set b4 (.own 0 [.int .u64 0, .int .u64 0, .int .u64 0] 3)) b2 = some (.own 0 [.int .u64 (x.a : Int), .int .u64 (x.b : Int), .int .u64 (x.c : Int)] 3) := by rw [Heap.set_ne (Ne.symm n42), Heap.set_ne (Ne.symm n32), Heap.set_self]
  generalize (((h.set b2 (.own 0 [.int .u64 (x.a : Int), .int .u64 (x.b : Int), .int .u64 (x.c : Int)] 3)).set b3 (.own 0 [.int .u64 (r0 : Int), .int .u64 (r1 : Int)] 2)).set b4 (.own 0 [.int .u64 0, .int .u64 0, .int .u64 0] 3)) = h1' at leA q4 q3 q2 ⊢
  have ld : ∀ H, h1'.le H → hcell H ⟨b2, 0, none⟩ = some (.int .u64 (x.a : Int)) ∧ hcell H ⟨b2, 1, none⟩ = some (.int .u64 (x.b : Int)) ∧ hcell H ⟨b2, 2, none⟩ = some (.int .u64 (x.c : Int)) ∧ hcell H ⟨b3, 0, none⟩ = some (.int .u64 (r0 : Int)) ∧ hcell H ⟨b3, 1, none⟩ = some (.int .u64 (r1 : Int)) := fun H hle =>
    ⟨hcell_at (hle _ _ q2) (by simp), hcell_at (hle _ _ q2) (by simp), hcell_at (hle _ _ q2) (by simp), hcell_at (hle _ _ q3) (by simp), hcell_at (hle _ _ q3) (by simp)⟩
  obtain ⟨a1, a2, a3, a4, a5⟩ := ld h1' (Heap.le_refl _)
  obtain ⟨hx0, hx1, hx2⟩ := hx
  simp -implicitDefEqProofs only [zB1,zB2,zB3,zB4,zB5,zB6,zB7,zB8,zB9,zB10,zB11,y00,y01,y02,y03,y04,y05,y06,y07,y08,y09,y0a,y0b,y0c,y0d,y0e,y0f,y0g,y0h,y0i,y0j,y0k,y0l,y0m,y0n,y0o,y0p,y0q,y0r,y0s,y0t,y0u,y0v,y0w,y0x,y0y,y0z,y10,y11,y12,y13,y14,y15,y16,y17,y18,y19,y1a,y1b,y1c,y1d,y1e,y1f,y1g,y1h,y1i,y1j,y1k,y1l,y1m,y1n,y1o,y1p,y1q,y1r,retO,retL,retV,z69,allV,allP,z6a,z6d,z6e,z6k,z6l,z6m,binV,eqV,unV,oOpt,reduceIte,reduceCtorEq,Nat.reduceEqDiff,Nat.reduceAdd,Nat.reduceMul,Nat.reduceLT,Nat.reduceSub,Int.reduceLT,Int.reduceLE,Int.reduceEq,Int.reduceNe,Int.reduceSub,Int.reduceAdd,Int.reduceMul,Int.reduceBEq,Int.reduceBNe,Int.reduceGT,Int.reduceGE,Nat.reduceGT,Int.reduceToNat,Int.reduceNeg,Nat.reduceLeDiff,Nat.reduceBEq,Nat.reduceBneDiff,Value.cells, a1, a2, a3, a4, a5]
  refine (column_c E h1' z3 x.a r0 z3_ok hx0 h0).mono ?_
  rintro r h2 ⟨le2, rfl⟩
  obtain ⟨c1, c2, c3, c4, c5⟩ := ld h2 le2
  simp -implicitDefEqProofs only [zB1,zB2,zB3,zB4,zB5,zB6,zB7,zB8,zB9,zB10,zB11,y00,y01,y02,y03,y04,y05,y06,y07,y08,y09,y0a,y0b,y0c,y0d,y0e,y0f,y0g,y0h,y0i,y0j,y0k,y0l,y0m,y0n,y0o,y0p,y0q,y0r,y0s,y0t,y0u,y0v,y0w,y0x,y0y,y0z,y10,y11,y12,y13,y14,y15,y16,y17,y18,y19,y1a,y1b,y1c,y1d,y1e,y1f,y1g,y1h,y1i,y1j,y1k,y1l,y1m,y1n,y1o,y1p,y1q,y1r,retO,retL,retV,z69,allV,allP,z6a,z6d,z6e,z6k,z6l,z6m,binV,eqV,unV,oOpt,reduceIte,reduceCtorEq,Nat.reduceEqDiff,Nat.reduceAdd,Nat.reduceMul,Nat.reduceLT,Nat.reduceSub,Int.reduceLT,Int.reduceLE,Int.reduceEq,Int.reduceNe,Int.reduceSub,Int.reduceAdd,Int.reduceMul,Int.reduceBEq,Int.reduceBNe,Int.reduceGT,Int.reduceGE,Nat.reduceGT,Int.reduceToNat,Int.reduceNeg,Nat.reduceLeDiff,Nat.reduceBEq,Nat.reduceBneDiff,Value.cells, a1, a2, a3, a4, a5, c1, c2, c3, c4, c5, List.mem_cons, List.mem_singleton, forall_eq_or_imp, forall_eq, implies_true, List.not_mem_nil]
  refine (column_c E h2 z3 x.a r1 z3_ok hx0 h1).mono ?_
  rintro r h3 ⟨le3, rfl⟩
  have le3' := Heap.le_trans le2 le3
  obtain ⟨d1, d2, d3, d4, d5⟩ := ld h3 le3'
  simp -implicitDefEqProofs only [zB1,zB2,zB3,zB4,zB5,zB6,zB7,zB8,zB9,zB10,zB11,y00,y01,y02,y03,y04,y05,y06,y07,y08,y09,y0a,y0b,y0c,y0d,y0e,y0f,y0g,y0h,y0i,y0j,y0k,y0l,y0m,y0n,y0o,y0p,y0q,y0r,y0s,y0t,y0u,y0v,y0w,y0x,y0y,y0z,y10,y11,y12,y13,y14,y15,y16,y17,y18,y19,y1a,y1b,y1c,y1d,y1e,y1f,y1g,y1h,y1i,y1j,y1k,y1l,y1m,y1n,y1o,y1p,y1q,y1r,retO,retL,retV,z69,allV,allP,z6a,z6d,z6e,z6k,z6l,z6m,binV,eqV,unV,oOpt,reduceIte,reduceCtorEq,Nat.reduceEqDiff,Nat.reduceAdd,Nat.reduceMul,Nat.reduceLT,Nat.reduceSub,Int.reduceLT,Int.reduceLE,Int.reduceEq,Int.reduceNe,Int.reduceSub,Int.reduceAdd,Int.reduceMul,Int.reduceBEq,Int.reduceBNe,Int.reduceGT,Int.reduceGE,Nat.reduceGT,Int.reduceToNat,Int.reduceNeg,Nat.reduceLeDiff,Nat.reduceBEq,Nat.reduceBneDiff,Value.cells, a1, a2, a3, a4, a5, c1, c2, c3, c4, c5, d1, d2, d3, d4, d5, List.mem_cons, List.mem_singleton, forall_eq_or_imp, forall_eq, implies_true, List.not_mem_nil]
  refine (column_c E h3 (z3.col x.a r1) x.b r0 (N3.col_ok _ _ _) hx1 h0).mono ?_
  rintro r h4 ⟨le4, rfl⟩
  have le4' := Heap.le_trans le3' le4
  obtain ⟨e1, e2, e3, e4, e5⟩ := ld h4 le4'
  simp -implicitDefEqProofs only [zB1,zB2,zB3,zB4,zB5,zB6,zB7,zB8,zB9,zB10,zB11,y00,y01,y02,y03,y04,y05,y06,y07,y08,y09,y0a,y0b,y0c,y0d,y0e,y0f,y0g,y0h,y0i,y0j,y0k,y0l,y0m,y0n,y0o,y0p,y0q,y0r,y0s,y0t,y0u,y0v,y0w,y0x,y0y,y0z,y10,y11,y12,y13,y14,y15,y16,y17,y18,y19,y1a,y1b,y1c,y1d,y1e,y1f,y1g,y1h,y1i,y1j,y1k,y1l,y1m,y1n,y1o,y1p,y1q,y1r,retO,retL,retV,z69,allV,allP,z6a,z6d,z6e,z6k,z6l,z6m,binV,eqV,unV,oOpt,reduceIte,reduceCtorEq,Nat.reduceEqDiff,Nat.reduceAdd,Nat.reduceMul,Nat.reduceLT,Nat.reduceSub,Int.reduceLT,Int.reduceLE,Int.reduceEq,Int.reduceNe,Int.reduceSub,Int.reduceAdd,Int.reduceMul,Int.reduceBEq,Int.reduceBNe,Int.reduceGT,Int.reduceGE,Nat.reduceGT,Int.reduceToNat,Int.reduceNeg,Nat.reduceLeDiff,Nat.reduceBEq,Nat.reduceBneDiff,Value.cells, a1, a2, a3, a4, a5, c1, c2, c3, c4, c5, d1, d2, d3, d4, d5, e1, e2, e3, e4, e5, List.mem_cons, List.mem_singleton, forall_eq_or_imp, forall_eq, implies_true, List.not_mem_nil]
  refine (column_c E h4 z3 x.b r1 z3_ok hx1 h1).mono ?_
  rintro r h5 ⟨le5, rfl⟩
  have le5' := Heap.le_trans le4' le5
  obtain ⟨f1, f2, f3, f4, f5⟩ := ld h5 le5'
  simp -implicitDefEqProofs only [zB1,zB2,zB3,zB4,zB5,zB6,zB7,zB8,zB9,zB10,zB11,y00,y01,y02,y03,y04,y05,y06,y07,y08,y09,y0a,y0b,y0c,y0d,y0e,y0f,y0g,y0h,y0i,y0j,y0k,y0l,y0m,y0n,y0o,y0p,y0q,y0r,y0s,y0t,y0u,y0v,y0w,y0x,y0y,y0z,y10,y11,y12,y13,y14,y15,y16,y17,y18,y19,y1a,y1b,y1c,y1d,y1e,y1f,y1g,y1h,y1i,y1j,y1k,y1l,y1m,y1n,y1o,y1p,y1q,y1r,retO,retL,retV,z69,allV,allP,z6a,z6d,z6e,z6k,z6l,z6m,binV,eqV,unV,oOpt,reduceIte,reduceCtorEq,Nat.reduceEqDiff,Nat.reduceAdd,Nat.reduceMul,Nat.reduceLT,Nat.reduceSub,Int.reduceLT,Int.reduceLE,Int.reduceEq,Int.reduceNe,Int.reduceSub,Int.reduceAdd,Int.reduceMul,Int.reduceBEq,Int.reduceBNe,Int.reduceGT,Int.reduceGE,Nat.reduceGT,Int.reduceToNat,Int.reduceNeg,Nat.reduceLeDiff,Nat.reduceBEq,Nat.reduceBneDiff,Value.cells, a1, a2, a3, a4, a5, c1, c2, c3, c4, c5, d1, d2, d3, d4, d5, e1, e2, e3, e4, e5, f1, f2, f3, f4, f5, List.mem_cons, List.mem_singleton, forall_eq_or_imp, forall_eq, implies_true, List.not_mem_nil]
  refine (column_c E h5 (z3.col x.b r1) x.c r0 (N3.col_ok _ _ _) hx2 h0).mono ?_
  rintro r h6 ⟨le6, rfl⟩
  have le6' := Heap.le_trans le5' le6
  obtain ⟨g1, g2, g3, g4, g5⟩ := ld h6 le6'
  simp -implicitDefEqProofs only [zB1,zB2,zB3,zB4,zB5,zB6,zB7,zB8,zB9,zB10,zB11,y00,y01,y02,y03,y04,y05,y06,y07,y08,y09,y0a,y0b,y0c,y0d,y0e,y0f,y0g,y0h,y0i,y0j,y0k,y0l,y0m,y0n,y0o,y0p,y0q,y0r,y0s,y0t,y0u,y0v,y0w,y0x,y0y,y0z,y10,y11,y12,y13,y14,y15,y16,y17,y18,y19,y1a,y1b,y1c,y1d,y1e,y1f,y1g,y1h,y1i,y1j,y1k,y1l,y1m,y1n,y1o,y1p,y1q,y1r,retO,retL,retV,z69,allV,allP,z6a,z6d,z6e,z6k,z6l,z6m,binV,eqV,unV,oOpt,reduceIte,reduceCtorEq,Nat.reduceEqDiff,Nat.reduceAdd,Nat.reduceMul,Nat.reduceLT,Nat.reduceSub,Int.reduceLT,Int.reduceLE,Int.reduceEq,Int.reduceNe,Int.reduceSub,Int.reduceAdd,Int.reduceMul,Int.reduceBEq,Int.reduceBNe,Int.reduceGT,Int.reduceGE,Nat.reduceGT,Int.reduceToNat,Int.reduceNeg,Nat.reduceLeDiff,Nat.reduceBEq,Nat.reduceBneDiff,Value.cells, a1, a2, a3, a4, a5, c1, c2, c3, c4, c5, d1, d2, d3, d4, d5, e1, e2, e3, e4, e5, f1, f2, f3, f4, f5, g1, g2, g3, g4, g5, List.mem_cons, List.mem_singleton, forall_eq_or_imp, forall_eq, implies_true, List.not_mem_nil]
  refine (column_c E h6 z3 x.c r1 z3_ok hx2 h1).mono ?_
  rintro r h7 ⟨le7, rfl⟩
  have le7' := Heap.le_trans le6' le7
  obtain ⟨k1, k2, k3, k4, k5⟩ := ld h7 le7'
  have eZ0 : (z3.col x.a r0).V = .agg #[.int .u64 ((z3.col x.a r0).a : Int), .int .u64 ((z3.col x.a r0).b : Int), .int .u64 ((z3.col x.a r0).c : Int)] := rfl
  have eZ1 : ((z3.col x.a r1).col x.b r0).V = .agg #[.int .u64 (((z3.col x.a r1).col x.b r0).a : Int), .int .u64 (((z3.col x.a r1).col x.b r0).b : Int), .int .u64 (((z3.col x.a r1).col x.b r0).c : Int)] := rfl
  have eZ2 : ((z3.col x.b r1).col x.c r0).V = .agg #[.int .u64 (((z3.col x.b r1).col x.c r0).a : Int), .int .u64 (((z3.col x.b r1).col x.c r0).b : Int), .int .u64 (((z3.col x.b r1).col x.c r0).c : Int)] := rfl
  have eZ3 : (z3.col x.c r1).V = .agg #[.int .u64 ((z3.col x.c r1).a : Int), .int .u64 ((z3.col x.c r1).b : Int), .int .u64 ((z3.col x.c r1).c : Int)] := rfl
  simp -implicitDefEqProofs only [zB1,zB2,zB3,zB4,zB5,zB6,zB7,zB8,zB9,zB10,zB11,y00,y01,y02,y03,y04,y05,y06,y07,y08,y09,y0a,y0b,y0c,y0d,y0e,y0f,y0g,y0h,y0i,y0j,y0k,y0l,y0m,y0n,y0o,y0p,y0q,y0r,y0s,y0t,y0u,y0v,y0w,y0x,y0y,y0z,y10,y11,y12,y13,y14,y15,y16,y17,y18,y19,y1a,y1b,y1c,y1d,y1e,y1f,y1g,y1h,y1i,y1j,y1k,y1l,y1m,y1n,y1o,y1p,y1q,y1r,retO,retL,retV,z69,allV,allP,z6a,z6d,z6e,z6k,z6l,z6m,binV,eqV,unV,oOpt,reduceIte,reduceCtorEq,Nat.reduceEqDiff,Nat.reduceAdd,Nat.reduceMul,Nat.reduceLT,Nat.reduceSub,Int.reduceLT,Int.reduceLE,Int.reduceEq,Int.reduceNe,Int.reduceSub,Int.reduceAdd,Int.reduceMul,Int.reduceBEq,Int.reduceBNe,Int.reduceGT,Int.reduceGE,Nat.reduceGT,Int.reduceToNat,Int.reduceNeg,Nat.reduceLeDiff,Nat.reduceBEq,Nat.reduceBneDiff,Value.cells, a1, a2, a3, a4, a5, c1, c2, c3, c4, c5, d1, d2, d3, d4, d5, e1, e2, e3, e4, e5, f1, f2, f3, f4, f5, g1, g2, g3, g4, g5, k1, k2, k3, k4, k5, List.mem_cons, List.mem_singleton, forall_eq_or_imp, forall_eq, implies_true, List.not_mem_nil, List.drop_replicate, List.replicate_zero, List.length_replicate, eZ0, eZ1, eZ2, eZ3]
  intro b5 hb5 b6 hb6 b7 hb7
  have eL : ∀ l : List Value, l = LST (colsF x r0 r1) → h7.set b5 (.own 0 l 12) = h7.set b5 (.own 0 (LST (colsF x r0 r1)) 12) := fun l e => by rw [e]
  have eL := eL [.int .u64 ((z3.col x.a r0).a : Int), .int .u64 ((z3.col x.a r0).b : Int), .int .u64 ((z3.col x.a r0).c : Int), .int .u64 (((z3.col x.a r1).col x.b r0).a : Int), .int .u64 (((z3.col x.a r1).col x.b r0).b : Int), .int .u64 (((z3.col x.a r1).col x.b r0).c : Int), .int .u64 (((z3.col x.b r1).col x.c r0).a : Int), .int .u64 (((z3.col x.b r1).col x.c r0).b : Int), .int .u64 (((z3.col x.b r1).col x.c r0).c : Int), .int .u64 ((z3.col x.c r1).a : Int), .int .u64 ((z3.col x.c r1).b : Int), .int .u64 ((z3.col x.c r1).c : Int)] rfl
  rw [eL] at hb6 hb7 ⊢
  have ht : x.times r0 r1 = (addsF (lowF (colsF x r0 r1)) (highF (colsF x r0 r1)) 5).cut := rfl
  have hC := colsF_ok x r0 r1
  rw [ht]
  generalize colsF x r0 r1 = C at *
  have n65 := (Heap.set_none.1 hb6).1
  have hb6' := (Heap.set_none.1 hb6).2
  have n76 := (Heap.set_none.1 hb7).1
  have hb7' := (Heap.set_none.1 hb7).2
  have n75 := (Heap.set_none.1 hb7').1
  have hb7'' := (Heap.set_none.1 hb7').2
  have q47 := le7' _ _ q4
  have n45 := ne_of_none hb5 q47
  have n46 := ne_of_none hb6' q47
  have n47 := ne_of_none hb7'' q47
  have hle7 := Heap.le_trans leA le7'
  have hb5h := Heap.none_of_le hle7 hb5
  have hb6h := Heap.none_of_le hle7 hb6'
  have hb7h := Heap.none_of_le hle7 hb7''
  have le8 : h.le (((h7.set b5 (.own 0 (LST C) 12)).set b6 (.own 0 [.int .u64 0, .int .u64 0, .int .u64 0, .int .u64 0] 4)).set b7 (.own 0 [.int .u64 0, .int .u64 0, .int .u64 0] 3)) := Heap.le_set (Heap.le_set (Heap.le_set hle7 hb5h _) hb6h _) hb7h _
  have w5 : hcells (((h7.set b5 (.own 0 (LST C) 12)).set b6 (.own 0 [.int .u64 0, .int .u64 0, .int .u64 0, .int .u64 0] 4)).set b7 (.own 0 [.int .u64 0, .int .u64 0, .int .u64 0] 3)) ⟨b5, 0, none⟩ 12 = some (LST C) := by rw [hcells_ne (Ne.symm n75), hcells_ne (Ne.symm n65)]; exact z6o rfl
  have w6 : (((h7.set b5 (.own 0 (LST C) 12)).set b6 (.own 0 [.int .u64 0, .int .u64 0, .int .u64 0, .int .u64 0] 4)).set b7 (.own 0 [.int .u64 0, .int .u64 0, .int .u64 0] 3)) b6 = some (.own 0 (rowQ (fun j => if j < 0 then outW C j else 0) 4) 4) := by rw [Heap.set_ne (Ne.symm n76), Heap.set_self]; rfl
  have w7 : (((h7.set b5 (.own 0 (LST C) 12)).set b6 (.own 0 [.int .u64 0, .int .u64 0, .int .u64 0, .int .u64 0] 4)).set b7 (.own 0 [.int .u64 0, .int .u64 0, .int .u64 0] 3)) b7 = some (.own 0 (carryF C 0).cells 3) := by rw [Heap.set_self]; rfl
  have w4 : (((h7.set b5 (.own 0 (LST C) 12)).set b6 (.own 0 [.int .u64 0, .int .u64 0, .int .u64 0, .int .u64 0] 4)).set b7 (.own 0 [.int .u64 0, .int .u64 0, .int .u64 0] 3)) b4 = some (.own 0 [.int .u64 0, .int .u64 0, .int .u64 0] 3) := by rw [Heap.set_ne n47, Heap.set_ne n46, Heap.set_ne n45]; exact q47
  generalize (((h7.set b5 (.own 0 (LST C) 12)).set b6 (.own 0 [.int .u64 0, .int .u64 0, .int .u64 0, .int .u64 0] 4)).set b7 (.own 0 [.int .u64 0, .int .u64 0, .int .u64 0] 3)) = h8 at le8 w5 w6 w7 w4
  simp -implicitDefEqProofs only [zB1,zB2,zB3,zB4,zB5,zB6,zB7,zB8,zB9,zB10,zB11,y00,y01,y02,y03,y04,y05,y06,y07,y08,y09,y0a,y0b,y0c,y0d,y0e,y0f,y0g,y0h,y0i,y0j,y0k,y0l,y0m,y0n,y0o,y0p,y0q,y0r,y0s,y0t,y0u,y0v,y0w,y0x,y0y,y0z,y10,y11,y12,y13,y14,y15,y16,y17,y18,y19,y1a,y1b,y1c,y1d,y1e,y1f,y1g,y1h,y1i,y1j,y1k,y1l,y1m,y1n,y1o,y1p,y1q,y1r,retO,retL,retV,z69,allV,allP,z6a,z6d,z6e,z6k,z6l,z6m,binV,eqV,unV,oOpt,reduceIte,reduceCtorEq,Nat.reduceEqDiff,Nat.reduceAdd,Nat.reduceMul,Nat.reduceLT,Nat.reduceSub,Int.reduceLT,Int.reduceLE,Int.reduceEq,Int.reduceNe,Int.reduceSub,Int.reduceAdd,Int.reduceMul,Int.reduceBEq,Int.reduceBNe,Int.reduceGT,Int.reduceGE,Nat.reduceGT,Int.reduceToNat,Int.reduceNeg,Nat.reduceLeDiff,Nat.reduceBEq,Nat.reduceBneDiff,Value.cells, w5]
  refine wp_loop' (fun m t H => h.le H ∧ ∃ (i : Nat), t = tl [(4, .pointer (some ⟨b4, 0, none⟩)), (6, .pointer (some ⟨b6, 0, none⟩)), (7, .pointer (some ⟨b7, 0, none⟩)), (47, .agg (LST C).toArray), (48, .int .i64 i)] ∧ i ≤ 4 ∧ m = 4 - i ∧
      H b4 = some (.own 0 [.int .u64 0, .int .u64 0, .int .u64 0] 3) ∧ H b6 = some (.own 0 (rowQ (fun j => if j < i then outW C j else 0) 4) 4) ∧ H b7 = some (.own 0 (carryF C i).cells 3)) 4
    ⟨le8, 0, rfl, by omega, by omega, w4, w6, w7⟩ ?_
  clear le8 w5 w6 w7 w4 eL hb6 hb7 hb7'
  rintro m t H ⟨leH, i, rfl, hi, rfl, w4, w6, w7⟩
  by_cases hlt : i < 4
  · have hi1 : (i : Int) < 4 := by omega
    have hi2 : (0 : Int) ≤ i := by omega
    simp -implicitDefEqProofs only [zB1,zB2,zB3,zB4,zB5,zB6,zB7,zB8,zB9,zB10,zB11,y00,y01,y02,y03,y04,y05,y06,y07,y08,y09,y0a,y0b,y0c,y0d,y0e,y0f,y0g,y0h,y0i,y0j,y0k,y0l,y0m,y0n,y0o,y0p,y0q,y0r,y0s,y0t,y0u,y0v,y0w,y0x,y0y,y0z,y10,y11,y12,y13,y14,y15,y16,y17,y18,y19,y1a,y1b,y1c,y1d,y1e,y1f,y1g,y1h,y1i,y1j,y1k,y1l,y1m,y1n,y1o,y1p,y1q,y1r,retO,retL,retV,z69,allV,allP,z6a,z6d,z6e,z6k,z6l,z6m,binV,eqV,unV,oOpt,reduceIte,reduceCtorEq,Nat.reduceEqDiff,Nat.reduceAdd,Nat.reduceMul,Nat.reduceLT,Nat.reduceSub,Int.reduceLT,Int.reduceLE,Int.reduceEq,Int.reduceNe,Int.reduceSub,Int.reduceAdd,Int.reduceMul,Int.reduceBEq,Int.reduceBNe,Int.reduceGT,Int.reduceGE,Nat.reduceGT,Int.reduceToNat,Int.reduceNeg,Nat.reduceLeDiff,Nat.reduceBEq,Nat.reduceBneDiff,Value.cells, hi1, hi2, Int.toNat_natCast]
    intro b9 hb9
    rw [LST_at C i hlt]
    have eX : Value.agg (C i).cells.toArray = (C i).V := rfl
    rw [eX]
    have st9 : storeV (H.set b9 (.own 0 [.int .u64 0, .int .u64 0, .int .u64 0] 3)) 3 (.pointer (some ⟨b9, 0, none⟩)) (C i).V = some (H.set b9 (.own 0 (C i).cells 3)) := z6q (by omega) rfl rfl rfl (by omega)
    have n97 := ne_of_none hb9 w7
    have n96 := ne_of_none hb9 w6
    have n94 := ne_of_none hb9 w4
    have v7 : hcells (H.set b9 (.own 0 (C i).cells 3)) ⟨b7, 0, none⟩ 3 = some (carryF C i).cells := by rw [hcells_ne n97, hcells_at w7 (by simp [N3.cells])]; rfl
    have v9 : hcells (H.set b9 (.own 0 (C i).cells 3)) ⟨b9, 0, none⟩ 3 = some (C i).cells := z6o rfl
    have eK : Value.agg (carryF C i).cells.toArray = (carryF C i).V := rfl
    simp -implicitDefEqProofs only [zB1,zB2,zB3,zB4,zB5,zB6,zB7,zB8,zB9,zB10,zB11,y00,y01,y02,y03,y04,y05,y06,y07,y08,y09,y0a,y0b,y0c,y0d,y0e,y0f,y0g,y0h,y0i,y0j,y0k,y0l,y0m,y0n,y0o,y0p,y0q,y0r,y0s,y0t,y0u,y0v,y0w,y0x,y0y,y0z,y10,y11,y12,y13,y14,y15,y16,y17,y18,y19,y1a,y1b,y1c,y1d,y1e,y1f,y1g,y1h,y1i,y1j,y1k,y1l,y1m,y1n,y1o,y1p,y1q,y1r,retO,retL,retV,z69,allV,allP,z6a,z6d,z6e,z6k,z6l,z6m,binV,eqV,unV,oOpt,reduceIte,reduceCtorEq,Nat.reduceEqDiff,Nat.reduceAdd,Nat.reduceMul,Nat.reduceLT,Nat.reduceSub,Int.reduceLT,Int.reduceLE,Int.reduceEq,Int.reduceNe,Int.reduceSub,Int.reduceAdd,Int.reduceMul,Int.reduceBEq,Int.reduceBNe,Int.reduceGT,Int.reduceGE,Nat.reduceGT,Int.reduceToNat,Int.reduceNeg,Nat.reduceLeDiff,Nat.reduceBEq,Nat.reduceBneDiff,Value.cells, st9, v7, v9, eK, eX]
    refine (num_plus_c E _ (carryF C i) (C i) (carryF_ok C i) (hC i)).mono ?_
    rintro r h10 ⟨le10, rfl⟩
    have le9 : H.le (H.set b9 (.own 0 (C i).cells 3)) := Heap.le_set (Heap.le_refl _) hb9 _
    have leHH := Heap.le_trans leH (Heap.le_trans le9 le10)
    have u7 := le10 _ _ (le9 _ _ w7)
    have u6 := le10 _ _ (le9 _ _ w6)
    have u4 := le10 _ _ (le9 _ _ w4)
    have hout : outW C i = ((carryF C i).plus (C i)).a := rfl
    have hcar : carryF C (i + 1) = ⟨((carryF C i).plus (C i)).b, ((carryF C i).plus (C i)).c, 0⟩ := rfl
    have hstep := rowQ_step (outW C) i 4
    rw [hout] at hstep
    generalize (carryF C i).plus (C i) = P at *
    have sA := store3 P u7 rfl
    have lA : hcell (h10.set b7 (.own 0 P.cells 3)) ⟨b7, 0, none⟩ = some (.int .u64 (P.a : Int)) := z6n (by simp [N3.cells])
    have sB := rowQ_store (H := h10.set b7 (.own 0 P.cells 3)) (z := P.a) (by rw [Heap.set_ne (Ne.symm n76)]; exact u6) hlt
    rw [hstep] at sB
    have lB1 : hcell ((h10.set b7 (.own 0 P.cells 3)).set b6 (.own 0 (rowQ (fun k => if k < i + 1 then outW C k else 0) 4) 4)) ⟨b7, 1, none⟩ = some (.int .u64 (P.b : Int)) := by rw [hcell_ne n76]; exact z6n (by simp [N3.cells])
    have lB2 : hcell ((h10.set b7 (.own 0 P.cells 3)).set b6 (.own 0 (rowQ (fun k => if k < i + 1 then outW C k else 0) 4) 4)) ⟨b7, 2, none⟩ = some (.int .u64 (P.c : Int)) := by rw [hcell_ne n76]; exact z6n (by simp [N3.cells])
    have sC := store3 (H := (h10.set b7 (.own 0 P.cells 3)).set b6 (.own 0 (rowQ (fun k => if k < i + 1 then outW C k else 0) 4) 4)) (b := b7) (old := P.cells) (⟨P.b, P.c, 0⟩ : N3) (by rw [Heap.set_ne n76, Heap.set_self]) rfl
    have eP : (⟨P.b, P.c, 0⟩ : N3).V = .agg #[.int .u64 (P.b : Int), .int .u64 (P.c : Int), .int .u64 0] := rfl
    rw [eP] at sC
    have w1 : IntKind.i64.wrap ((i : Int) + 1) = ((i + 1 : Nat) : Int) := wrapN (by omega)
    simp -implicitDefEqProofs only [zB1,zB2,zB3,zB4,zB5,zB6,zB7,zB8,zB9,zB10,zB11,y00,y01,y02,y03,y04,y05,y06,y07,y08,y09,y0a,y0b,y0c,y0d,y0e,y0f,y0g,y0h,y0i,y0j,y0k,y0l,y0m,y0n,y0o,y0p,y0q,y0r,y0s,y0t,y0u,y0v,y0w,y0x,y0y,y0z,y10,y11,y12,y13,y14,y15,y16,y17,y18,y19,y1a,y1b,y1c,y1d,y1e,y1f,y1g,y1h,y1i,y1j,y1k,y1l,y1m,y1n,y1o,y1p,y1q,y1r,retO,retL,retV,z69,allV,allP,z6a,z6d,z6e,z6k,z6l,z6m,binV,eqV,unV,oOpt,reduceIte,reduceCtorEq,Nat.reduceEqDiff,Nat.reduceAdd,Nat.reduceMul,Nat.reduceLT,Nat.reduceSub,Int.reduceLT,Int.reduceLE,Int.reduceEq,Int.reduceNe,Int.reduceSub,Int.reduceAdd,Int.reduceMul,Int.reduceBEq,Int.reduceBNe,Int.reduceGT,Int.reduceGE,Nat.reduceGT,Int.reduceToNat,Int.reduceNeg,Nat.reduceLeDiff,Nat.reduceBEq,Nat.reduceBneDiff,Value.cells, sA, lA, hi1, hi2, Int.toNat_natCast, sB, lB1, lB2, sC, w1]
    refine ⟨4 - (i + 1), by omega, Heap.le_set (Heap.le_set (Heap.le_set leHH hb7h _) hb6h _) hb7h _, i + 1, rfl, by omega, rfl, ?_, ?_, ?_⟩
    · rw [Heap.set_ne n47, Heap.set_ne n46, Heap.set_ne n47]; exact u4
    · rw [Heap.set_ne (Ne.symm n76), Heap.set_self]
    · rw [Heap.set_self, hcar]
  · have hi1 : ¬ (i : Int) < 4 := by omega
    have : i = 4 := by omega
    subst this
    have o0 := rowQ_at w6 (show 0 < 4 by omega)
    have o1 := rowQ_at w6 (show 1 < 4 by omega)
    have o2 := rowQ_at w6 (show 2 < 4 by omega)
    have o3 := rowQ_at w6 (show 3 < 4 by omega)
    simp only [Nat.reduceLT, if_true] at o0 o1 o2 o3
    simp -implicitDefEqProofs only [zB1,zB2,zB3,zB4,zB5,zB6,zB7,zB8,zB9,zB10,zB11,y00,y01,y02,y03,y04,y05,y06,y07,y08,y09,y0a,y0b,y0c,y0d,y0e,y0f,y0g,y0h,y0i,y0j,y0k,y0l,y0m,y0n,y0o,y0p,y0q,y0r,y0s,y0t,y0u,y0v,y0w,y0x,y0y,y0z,y10,y11,y12,y13,y14,y15,y16,y17,y18,y19,y1a,y1b,y1c,y1d,y1e,y1f,y1g,y1h,y1i,y1j,y1k,y1l,y1m,y1n,y1o,y1p,y1q,y1r,retO,retL,retV,z69,allV,allP,z6a,z6d,z6e,z6k,z6l,z6m,binV,eqV,unV,oOpt,reduceIte,reduceCtorEq,Nat.reduceEqDiff,Nat.reduceAdd,Nat.reduceMul,Nat.reduceLT,Nat.reduceSub,Int.reduceLT,Int.reduceLE,Int.reduceEq,Int.reduceNe,Int.reduceSub,Int.reduceAdd,Int.reduceMul,Int.reduceBEq,Int.reduceBNe,Int.reduceGT,Int.reduceGE,Nat.reduceGT,Int.reduceToNat,Int.reduceNeg,Nat.reduceLeDiff,Nat.reduceBEq,Nat.reduceBneDiff,Value.cells, hi1, o0, o1, o2, o3, and_3, shr_2, shr_2']
    intro bA hbA
    have nA6 := ne_of_none hbA w6
    have nA4 := ne_of_none hbA w4
    have p2 : hcell (H.set bA (.own 0 (lowF C).cells 3)) ⟨b6, 2, none⟩ = some (.int .u64 ((outW C 2 : Nat) : Int)) := by rw [hcell_ne nA6]; exact o2
    have p3 : hcell (H.set bA (.own 0 (lowF C).cells 3)) ⟨b6, 3, none⟩ = some (.int .u64 ((outW C 3 : Nat) : Int)) := by rw [hcell_ne nA6]; exact o3
    have eLow : [Value.int .u64 ((outW C 0 : Nat) : Int), .int .u64 ((outW C 1 : Nat) : Int), .int .u64 ((outW C 2 % 4 : Nat) : Int)] = (lowF C).cells := rfl
    rw [eLow]
    have ok2 : outW C 2 < 18446744073709551616 := (N3.plus_ok (carryF C 2) (C 2)).1
    have orh := or_hi (outW C 2 / 4) (outW C 3 % 4) (by omega) (by omega)
    simp -implicitDefEqProofs only [zB1,zB2,zB3,zB4,zB5,zB6,zB7,zB8,zB9,zB10,zB11,y00,y01,y02,y03,y04,y05,y06,y07,y08,y09,y0a,y0b,y0c,y0d,y0e,y0f,y0g,y0h,y0i,y0j,y0k,y0l,y0m,y0n,y0o,y0p,y0q,y0r,y0s,y0t,y0u,y0v,y0w,y0x,y0y,y0z,y10,y11,y12,y13,y14,y15,y16,y17,y18,y19,y1a,y1b,y1c,y1d,y1e,y1f,y1g,y1h,y1i,y1j,y1k,y1l,y1m,y1n,y1o,y1p,y1q,y1r,retO,retL,retV,z69,allV,allP,z6a,z6d,z6e,z6k,z6l,z6m,binV,eqV,unV,oOpt,reduceIte,reduceCtorEq,Nat.reduceEqDiff,Nat.reduceAdd,Nat.reduceMul,Nat.reduceLT,Nat.reduceSub,Int.reduceLT,Int.reduceLE,Int.reduceEq,Int.reduceNe,Int.reduceSub,Int.reduceAdd,Int.reduceMul,Int.reduceBEq,Int.reduceBNe,Int.reduceGT,Int.reduceGE,Nat.reduceGT,Int.reduceToNat,Int.reduceNeg,Nat.reduceLeDiff,Nat.reduceBEq,Nat.reduceBneDiff,Value.cells, p2, p3, shr_2, shr_2', shl_62, shl_62', orh]
    intro bB hbB
    have eHigh : [Value.int .u64 ((outW C 2 / 4 + outW C 3 % 4 * 4611686018427387904 : Nat) : Int), .int .u64 ((outW C 3 / 4 : Nat) : Int), .int .u64 0] = (highF C).cells := rfl
    have nBA := (Heap.set_none.1 hbB).1
    have hbB' := (Heap.set_none.1 hbB).2
    rw [eHigh]
    have hlo := lowF_ok C
    have hhi := highF_ok C
    generalize lowF C = X at *
    generalize highF C = Y at *
    have hbAh := Heap.none_of_le leH hbA
    have hbBh := Heap.none_of_le leH hbB'
    have nB4 := ne_of_none hbB' w4
    have le9 : h.le ((H.set bA (.own 0 X.cells 3)).set bB (.own 0 Y.cells 3)) := Heap.le_set (Heap.le_set leH hbAh _) hbBh _
    have uA : ((H.set bA (.own 0 X.cells 3)).set bB (.own 0 Y.cells 3)) bA = some (.own 0 (addsF X Y 0).cells 3) := by rw [Heap.set_ne (Ne.symm nBA), Heap.set_self]; rfl
    have uB : ((H.set bA (.own 0 X.cells 3)).set bB (.own 0 Y.cells 3)) bB = some (.own 0 Y.cells 3) := Heap.set_self _ _ _
    have u4 : ((H.set bA (.own 0 X.cells 3)).set bB (.own 0 Y.cells 3)) b4 = some (.own 0 [.int .u64 0, .int .u64 0, .int .u64 0] 3) := by rw [Heap.set_ne nB4, Heap.set_ne nA4]; exact w4
    generalize ((H.set bA (.own 0 X.cells 3)).set bB (.own 0 Y.cells 3)) = H9 at le9 uA uB u4
    refine wp_loop' (fun m t H => h.le H ∧ ∃ (i : Nat), t = tl [(4, .pointer (some ⟨b4, 0, none⟩)), (10, .pointer (some ⟨bA, 0, none⟩)), (11, .pointer (some ⟨bB, 0, none⟩)), (84, .int .i64 i)] ∧ i ≤ 5 ∧ m = 5 - i ∧
        H b4 = some (.own 0 [.int .u64 0, .int .u64 0, .int .u64 0] 3) ∧ H bA = some (.own 0 (addsF X Y i).cells 3) ∧ H bB = some (.own 0 Y.cells 3)) 5
      ⟨le9, 0, rfl, by omega, by omega, u4, uA, uB⟩ ?_
    clear le9 uA uB u4
    rintro m t H' ⟨leH', i, rfl, hi, rfl, u4, uA, uB⟩
    have lA : hcells H' ⟨bA, 0, none⟩ 3 = some (addsF X Y i).cells := by rw [hcells_at uA (by simp [N3.cells])]; rfl
    have lB : hcells H' ⟨bB, 0, none⟩ 3 = some Y.cells := by rw [hcells_at uB (by simp [N3.cells])]; rfl
    have eA : Value.agg (addsF X Y i).cells.toArray = (addsF X Y i).V := rfl
    have eB : Value.agg Y.cells.toArray = Y.V := rfl
    have oki := addsF_ok (x := X) (y := Y) hlo i
    by_cases hlt : i < 5
    · have hi1 : (i : Int) < 5 := by omega
      have w1 : IntKind.i64.wrap ((i : Int) + 1) = ((i + 1 : Nat) : Int) := wrapN (by omega)
      simp -implicitDefEqProofs only [zB1,zB2,zB3,zB4,zB5,zB6,zB7,zB8,zB9,zB10,zB11,y00,y01,y02,y03,y04,y05,y06,y07,y08,y09,y0a,y0b,y0c,y0d,y0e,y0f,y0g,y0h,y0i,y0j,y0k,y0l,y0m,y0n,y0o,y0p,y0q,y0r,y0s,y0t,y0u,y0v,y0w,y0x,y0y,y0z,y10,y11,y12,y13,y14,y15,y16,y17,y18,y19,y1a,y1b,y1c,y1d,y1e,y1f,y1g,y1h,y1i,y1j,y1k,y1l,y1m,y1n,y1o,y1p,y1q,y1r,retO,retL,retV,z69,allV,allP,z6a,z6d,z6e,z6k,z6l,z6m,binV,eqV,unV,oOpt,reduceIte,reduceCtorEq,Nat.reduceEqDiff,Nat.reduceAdd,Nat.reduceMul,Nat.reduceLT,Nat.reduceSub,Int.reduceLT,Int.reduceLE,Int.reduceEq,Int.reduceNe,Int.reduceSub,Int.reduceAdd,Int.reduceMul,Int.reduceBEq,Int.reduceBNe,Int.reduceGT,Int.reduceGE,Nat.reduceGT,Int.reduceToNat,Int.reduceNeg,Nat.reduceLeDiff,Nat.reduceBEq,Nat.reduceBneDiff,Value.cells, hi1, lA, lB, eA, eB]
      refine (num_plus_c E H' (addsF X Y i) Y oki hhi).mono ?_
      rintro r h11 ⟨le11, rfl⟩
      have st := store3 ((addsF X Y i).plus Y) (le11 _ _ uA) rfl
      simp -implicitDefEqProofs only [zB1,zB2,zB3,zB4,zB5,zB6,zB7,zB8,zB9,zB10,zB11,y00,y01,y02,y03,y04,y05,y06,y07,y08,y09,y0a,y0b,y0c,y0d,y0e,y0f,y0g,y0h,y0i,y0j,y0k,y0l,y0m,y0n,y0o,y0p,y0q,y0r,y0s,y0t,y0u,y0v,y0w,y0x,y0y,y0z,y10,y11,y12,y13,y14,y15,y16,y17,y18,y19,y1a,y1b,y1c,y1d,y1e,y1f,y1g,y1h,y1i,y1j,y1k,y1l,y1m,y1n,y1o,y1p,y1q,y1r,retO,retL,retV,z69,allV,allP,z6a,z6d,z6e,z6k,z6l,z6m,binV,eqV,unV,oOpt,reduceIte,reduceCtorEq,Nat.reduceEqDiff,Nat.reduceAdd,Nat.reduceMul,Nat.reduceLT,Nat.reduceSub,Int.reduceLT,Int.reduceLE,Int.reduceEq,Int.reduceNe,Int.reduceSub,Int.reduceAdd,Int.reduceMul,Int.reduceBEq,Int.reduceBNe,Int.reduceGT,Int.reduceGE,Nat.reduceGT,Int.reduceToNat,Int.reduceNeg,Nat.reduceLeDiff,Nat.reduceBEq,Nat.reduceBneDiff,Value.cells, st, w1]
      refine ⟨5 - (i + 1), by omega, Heap.le_set (Heap.le_trans leH' le11) hbAh _, i + 1, rfl, by omega, rfl, ?_, Heap.set_self _ _ _, ?_⟩
      · rw [Heap.set_ne nA4]; exact le11 _ _ u4
      · rw [Heap.set_ne nBA]; exact le11 _ _ uB
    · have hi1 : ¬ (i : Int) < 5 := by omega
      have : i = 5 := by omega
      subst this
      simp -implicitDefEqProofs only [zB1,zB2,zB3,zB4,zB5,zB6,zB7,zB8,zB9,zB10,zB11,y00,y01,y02,y03,y04,y05,y06,y07,y08,y09,y0a,y0b,y0c,y0d,y0e,y0f,y0g,y0h,y0i,y0j,y0k,y0l,y0m,y0n,y0o,y0p,y0q,y0r,y0s,y0t,y0u,y0v,y0w,y0x,y0y,y0z,y10,y11,y12,y13,y14,y15,y16,y17,y18,y19,y1a,y1b,y1c,y1d,y1e,y1f,y1g,y1h,y1i,y1j,y1k,y1l,y1m,y1n,y1o,y1p,y1q,y1r,retO,retL,retV,z69,allV,allP,z6a,z6d,z6e,z6k,z6l,z6m,binV,eqV,unV,oOpt,reduceIte,reduceCtorEq,Nat.reduceEqDiff,Nat.reduceAdd,Nat.reduceMul,Nat.reduceLT,Nat.reduceSub,Int.reduceLT,Int.reduceLE,Int.reduceEq,Int.reduceNe,Int.reduceSub,Int.reduceAdd,Int.reduceMul,Int.reduceBEq,Int.reduceBNe,Int.reduceGT,Int.reduceGE,Nat.reduceGT,Int.reduceToNat,Int.reduceNeg,Nat.reduceLeDiff,Nat.reduceBEq,Nat.reduceBneDiff,Value.cells, hi1, lA, eA]
      refine (num_cut_c E H' (addsF X Y 5) oki).mono ?_
      rintro r h11 ⟨le11, rfl⟩
      have st := store3 (addsF X Y 5).cut (le11 _ _ u4) rfl
      have hl := z6o (h := h11) (b := b4) (vs := (addsF X Y 5).cut.cells) (sz := 3) (n := 3) rfl
      simp -implicitDefEqProofs only [zB1,zB2,zB3,zB4,zB5,zB6,zB7,zB8,zB9,zB10,zB11,y00,y01,y02,y03,y04,y05,y06,y07,y08,y09,y0a,y0b,y0c,y0d,y0e,y0f,y0g,y0h,y0i,y0j,y0k,y0l,y0m,y0n,y0o,y0p,y0q,y0r,y0s,y0t,y0u,y0v,y0w,y0x,y0y,y0z,y10,y11,y12,y13,y14,y15,y16,y17,y18,y19,y1a,y1b,y1c,y1d,y1e,y1f,y1g,y1h,y1i,y1j,y1k,y1l,y1m,y1n,y1o,y1p,y1q,y1r,retO,retL,retV,z69,allV,allP,z6a,z6d,z6e,z6k,z6l,z6m,binV,eqV,unV,oOpt,reduceIte,reduceCtorEq,Nat.reduceEqDiff,Nat.reduceAdd,Nat.reduceMul,Nat.reduceLT,Nat.reduceSub,Int.reduceLT,Int.reduceLE,Int.reduceEq,Int.reduceNe,Int.reduceSub,Int.reduceAdd,Int.reduceMul,Int.reduceBEq,Int.reduceBNe,Int.reduceGT,Int.reduceGE,Nat.reduceGT,Int.reduceToNat,Int.reduceNeg,Nat.reduceLeDiff,Nat.reduceBEq,Nat.reduceBneDiff,Value.cells, st, hl]
      exact ⟨Heap.le_set (Heap.le_trans leH' le11) hb4'' _, rfl⟩
end Go.Bb
/- Contracts: numbers read, the lowest byte first. -/
namespace Go.Bb
set_option linter.unusedSimpArgs false
set_option linter.unusedVariables false
set_option maxRecDepth 20000

theorem octet_Turn_c (E : EnvT tab) (h : Heap) {v : Value} (l : List UInt8) (hl : l.length ≤ 140737488355328) (s : SlB h v l) : ACallN E.toEnv n_octet_Turn [v] h fun r h' => h.le h' ∧ OwB h h' r l.reverse := by
  refine acall h_octet_Turn ir_octet_Turn rfl rfl (wpA_sound ?_)
  unfold ir_octet_Turn
  simp -implicitDefEqProofs only [zB1,zB2,zB3,zB4,zB5,zB6,zB7,zB8,zB9,zB10,zB11,y00,y01,y02,y03,y04,y05,y06,y07,y08,y09,y0a,y0b,y0c,y0d,y0e,y0f,y0g,y0h,y0i,y0j,y0k,y0l,y0m,y0n,y0o,y0p,y0q,y0r,y0s,y0t,y0u,y0v,y0w,y0x,y0y,y0z,y10,y11,y12,y13,y14,y15,y16,y17,y18,y19,y1a,y1b,y1c,y1d,y1e,y1f,y1g,y1h,y1i,y1j,y1k,y1l,y1m,y1n,y1o,y1p,y1q,y1r,retO,retL,retV,z69,allV,allP,z6a,z6d,z6e,z6k,z6l,z6m,binV,eqV,unV,oOpt,reduceIte,reduceCtorEq,Nat.reduceEqDiff,Nat.reduceAdd,Nat.reduceMul,Nat.reduceLT,Nat.reduceSub,Int.reduceLT,Int.reduceLE,Int.reduceEq,Int.reduceNe,Int.reduceSub,Int.reduceAdd,Int.reduceMul,Int.reduceBEq,Int.reduceBNe,Int.reduceGT,Int.reduceGE,Nat.reduceGT,Int.reduceToNat,Int.reduceNeg,Nat.reduceLeDiff,Nat.reduceBEq,Nat.reduceBneDiff,Value.cells]
  refine (Clone_c E h l hl s).mono ?_
  rintro r h1 ⟨le1, ow⟩
  simp -implicitDefEqProofs only [zB1,zB2,zB3,zB4,zB5,zB6,zB7,zB8,zB9,zB10,zB11,y00,y01,y02,y03,y04,y05,y06,y07,y08,y09,y0a,y0b,y0c,y0d,y0e,y0f,y0g,y0h,y0i,y0j,y0k,y0l,y0m,y0n,y0o,y0p,y0q,y0r,y0s,y0t,y0u,y0v,y0w,y0x,y0y,y0z,y10,y11,y12,y13,y14,y15,y16,y17,y18,y19,y1a,y1b,y1c,y1d,y1e,y1f,y1g,y1h,y1i,y1j,y1k,y1l,y1m,y1n,y1o,y1p,y1q,y1r,retO,retL,retV,z69,allV,allP,z6a,z6d,z6e,z6k,z6l,z6m,binV,eqV,unV,oOpt,reduceIte,reduceCtorEq,Nat.reduceEqDiff,Nat.reduceAdd,Nat.reduceMul,Nat.reduceLT,Nat.reduceSub,Int.reduceLT,Int.reduceLE,Int.reduceEq,Int.reduceNe,Int.reduceSub,Int.reduceAdd,Int.reduceMul,Int.reduceBEq,Int.reduceBNe,Int.reduceGT,Int.reduceGE,Nat.reduceGT,Int.reduceToNat,Int.reduceNeg,Nat.reduceLeDiff,Nat.reduceBEq,Nat.reduceBneDiff,Value.cells]
  refine (Reverse_c E le1 l hl ow).mono ?_
  rintro r2 h2 ⟨le2, ow2⟩
  simp -implicitDefEqProofs only [zB1,zB2,zB3,zB4,zB5,zB6,zB7,zB8,zB9,zB10,zB11,y00,y01,y02,y03,y04,y05,y06,y07,y08,y09,y0a,y0b,y0c,y0d,y0e,y0f,y0g,y0h,y0i,y0j,y0k,y0l,y0m,y0n,y0o,y0p,y0q,y0r,y0s,y0t,y0u,y0v,y0w,y0x,y0y,y0z,y10,y11,y12,y13,y14,y15,y16,y17,y18,y19,y1a,y1b,y1c,y1d,y1e,y1f,y1g,y1h,y1i,y1j,y1k,y1l,y1m,y1n,y1o,y1p,y1q,y1r,retO,retL,retV,z69,allV,allP,z6a,z6d,z6e,z6k,z6l,z6m,binV,eqV,unV,oOpt,reduceIte,reduceCtorEq,Nat.reduceEqDiff,Nat.reduceAdd,Nat.reduceMul,Nat.reduceLT,Nat.reduceSub,Int.reduceLT,Int.reduceLE,Int.reduceEq,Int.reduceNe,Int.reduceSub,Int.reduceAdd,Int.reduceMul,Int.reduceBEq,Int.reduceBNe,Int.reduceGT,Int.reduceGE,Nat.reduceGT,Int.reduceToNat,Int.reduceNeg,Nat.reduceLeDiff,Nat.reduceBEq,Nat.reduceBneDiff,Value.cells]
  exact ⟨le2, ow2⟩

def fromLittleF (l : List UInt8) : U64 := fromBigF l.reverse
theorem octet_FromLittle_c (E : EnvT tab) (h : Heap) {v : Value} (l : List UInt8) (hl : l.length ≤ 8) (s : SlB h v l) : ACallN E.toEnv n_octet_FromLittle [v] h fun r h' => h.le h' ∧ r = .tuple #[u64V (fromLittleF l), .int .i64 0] := by
  refine acall h_octet_FromLittle ir_octet_FromLittle rfl rfl (wpA_sound ?_)
  unfold ir_octet_FromLittle
  simp -implicitDefEqProofs only [zB1,zB2,zB3,zB4,zB5,zB6,zB7,zB8,zB9,zB10,zB11,y00,y01,y02,y03,y04,y05,y06,y07,y08,y09,y0a,y0b,y0c,y0d,y0e,y0f,y0g,y0h,y0i,y0j,y0k,y0l,y0m,y0n,y0o,y0p,y0q,y0r,y0s,y0t,y0u,y0v,y0w,y0x,y0y,y0z,y10,y11,y12,y13,y14,y15,y16,y17,y18,y19,y1a,y1b,y1c,y1d,y1e,y1f,y1g,y1h,y1i,y1j,y1k,y1l,y1m,y1n,y1o,y1p,y1q,y1r,retO,retL,retV,z69,allV,allP,z6a,z6d,z6e,z6k,z6l,z6m,binV,eqV,unV,oOpt,reduceIte,reduceCtorEq,Nat.reduceEqDiff,Nat.reduceAdd,Nat.reduceMul,Nat.reduceLT,Nat.reduceSub,Int.reduceLT,Int.reduceLE,Int.reduceEq,Int.reduceNe,Int.reduceSub,Int.reduceAdd,Int.reduceMul,Int.reduceBEq,Int.reduceBNe,Int.reduceGT,Int.reduceGE,Nat.reduceGT,Int.reduceToNat,Int.reduceNeg,Nat.reduceLeDiff,Nat.reduceBEq,Nat.reduceBneDiff,Value.cells]
  refine (octet_Turn_c E h l (by omega) s).mono ?_
  rintro r h1 ⟨le1, ow⟩
  simp -implicitDefEqProofs only [zB1,zB2,zB3,zB4,zB5,zB6,zB7,zB8,zB9,zB10,zB11,y00,y01,y02,y03,y04,y05,y06,y07,y08,y09,y0a,y0b,y0c,y0d,y0e,y0f,y0g,y0h,y0i,y0j,y0k,y0l,y0m,y0n,y0o,y0p,y0q,y0r,y0s,y0t,y0u,y0v,y0w,y0x,y0y,y0z,y10,y11,y12,y13,y14,y15,y16,y17,y18,y19,y1a,y1b,y1c,y1d,y1e,y1f,y1g,y1h,y1i,y1j,y1k,y1l,y1m,y1n,y1o,y1p,y1q,y1r,retO,retL,retV,z69,allV,allP,z6a,z6d,z6e,z6k,z6l,z6m,binV,eqV,unV,oOpt,reduceIte,reduceCtorEq,Nat.reduceEqDiff,Nat.reduceAdd,Nat.reduceMul,Nat.reduceLT,Nat.reduceSub,Int.reduceLT,Int.reduceLE,Int.reduceEq,Int.reduceNe,Int.reduceSub,Int.reduceAdd,Int.reduceMul,Int.reduceBEq,Int.reduceBNe,Int.reduceGT,Int.reduceGE,Nat.reduceGT,Int.reduceToNat,Int.reduceNeg,Nat.reduceLeDiff,Nat.reduceBEq,Nat.reduceBneDiff,Value.cells]
  refine (octet_FromBig_c E h1 l.reverse (by simpa using hl) ow.sl).mono ?_
  rintro r2 h2 ⟨rfl, rfl⟩
  simp -implicitDefEqProofs only [zB1,zB2,zB3,zB4,zB5,zB6,zB7,zB8,zB9,zB10,zB11,y00,y01,y02,y03,y04,y05,y06,y07,y08,y09,y0a,y0b,y0c,y0d,y0e,y0f,y0g,y0h,y0i,y0j,y0k,y0l,y0m,y0n,y0o,y0p,y0q,y0r,y0s,y0t,y0u,y0v,y0w,y0x,y0y,y0z,y10,y11,y12,y13,y14,y15,y16,y17,y18,y19,y1a,y1b,y1c,y1d,y1e,y1f,y1g,y1h,y1i,y1j,y1k,y1l,y1m,y1n,y1o,y1p,y1q,y1r,retO,retL,retV,z69,allV,allP,z6a,z6d,z6e,z6k,z6l,z6m,binV,eqV,unV,oOpt,reduceIte,reduceCtorEq,Nat.reduceEqDiff,Nat.reduceAdd,Nat.reduceMul,Nat.reduceLT,Nat.reduceSub,Int.reduceLT,Int.reduceLE,Int.reduceEq,Int.reduceNe,Int.reduceSub,Int.reduceAdd,Int.reduceMul,Int.reduceBEq,Int.reduceBNe,Int.reduceGT,Int.reduceGE,Nat.reduceGT,Int.reduceToNat,Int.reduceNeg,Nat.reduceLeDiff,Nat.reduceBEq,Nat.reduceBneDiff,Value.cells]
  exact ⟨le1, rfl⟩
end Go.Bb
/- Contracts: bytes clamped. -/
namespace Go.Bb
set_option linter.unusedSimpArgs false
set_option linter.unusedVariables false
set_option maxRecDepth 20000

end Go.Bb
/- Contracts: slices of bytes joined. -/
namespace Go.Bb
set_option linter.unusedSimpArgs false
set_option linter.unusedVariables false
set_option maxRecDepth 20000

end Go.Bb
/- Contracts: tags. -/
namespace Go.Bb
set_option linter.unusedSimpArgs false
set_option linter.unusedVariables false
set_option maxRecDepth 20000

/-! ### bits that do not count -/
end Go.Bb
/- The law PolyAdds: plain part. -/
namespace Go.Bb
set_option linter.unusedSimpArgs false
set_option linter.unusedVariables false

end Go.Bb
/- The tag, as numbers: plain laws. -/
namespace Go.Bb
set_option linter.unusedSimpArgs false
set_option linter.unusedVariables false
set_option maxRecDepth 20000

end Go.Bb
/- Streams of keys, in plain words. -/
namespace Go.Bb
set_option linter.unusedSimpArgs false
set_option linter.unusedVariables false

structure Q4 where
  a : U32
  b : U32
  c : U32
  d : U32
/-- Turned to the left. -/
def rotF (x : U32) (n : Nat) : U32 := turnF x (32 - n)
def quarF (q : Q4) : Q4 :=
  let a1 := q.a + q.b
  let d1 := rotF (q.d ^^^ a1) 16
  let c1 := q.c + d1
  let b1 := rotF (q.b ^^^ c1) 12
  let a2 := a1 + b1
  let d2 := rotF (d1 ^^^ a2) 8
  let c2 := c1 + d2
  let b2 := rotF (b1 ^^^ c2) 7
  ⟨a2, b2, c2, d2⟩
def Q4.V (q : Q4) : Value := .tuple #[.int .u32 q.a.toNat, .int .u32 q.b.toNat, .int .u32 q.c.toNat, .int .u32 q.d.toNat]
/-- Four words of a state, mixed. -/
def mixQ (s : Nat → U32) (i j k l : Nat) : Nat → U32 :=
  let q := quarF ⟨s i, s j, s k, s l⟩
  updU (updU (updU (updU s i q.a) j q.b) k q.c) l q.d
def colsN (s : Nat → U32) : Nat → (Nat → U32)
  | 0 => s
  | i + 1 => mixQ (colsN s i) i (4 + i) (8 + i) (12 + i)
def diagN (s : Nat → U32) : Nat → (Nat → U32)
  | 0 => s
  | i + 1 => mixQ (diagN s i) i (4 + (i + 1) % 4) (8 + (i + 2) % 4) (12 + (i + 3) % 4)
def roundsF (s : Nat → U32) : Nat → (Nat → U32)
  | 0 => s
  | n + 1 => diagN (colsN (roundsF s n) 4) 4
def wordF (l : List UInt8) (i : Nat) : U32 := (fromLittleF ((l.drop (4 * i)).take 4)).setWidth 32
def constC (j : Nat) : U32 := match j with | 0 => 1634760805 | 1 => 857760878 | 2 => 2036477234 | 3 => 1797285236 | _ => 0
def stateF (key : List UInt8) (count : U32) (nonce : List UInt8) (j : Nat) : U32 :=
  if j < 4 then constC j else if j < 12 then wordF key (j - 4) else if j = 12 then count else if j < 16 then wordF nonce (j - 13) else 0
def coutF (s : Nat → U32) : Nat → U32 := fun j => roundsF s 10 j + s j
/-- The bytes of words. -/
def bytesF (f : Nat → U32) (k : Nat) : UInt8 := UInt8.ofNat (((f (k / 4)).setWidth 64 : U64) >>> (8 * (k % 4))).toNat
def blockF (key : List UInt8) (count : U32) (nonce : List UInt8) : Nat → UInt8 := bytesF (coutF (stateF key count nonce))
theorem bytesF_little (f : Nat → U32) (i : Nat) : littleF ((f i).setWidth 64) 4 = (List.range 4).map fun k => bytesF f (4 * i + k) := by
  unfold littleF
  apply List.map_congr_left
  intro k hk
  have hk4 : k < 4 := List.mem_range.1 hk
  unfold bytesF
  rw [show (4 * i + k) / 4 = i by omega, show (4 * i + k) % 4 = k by omega]
end Go.Bb
/- Contracts: sums of bytes: turns, the schedule. -/
namespace Go.Bb
set_option linter.unusedSimpArgs false
set_option linter.unusedVariables false
set_option maxRecDepth 20000

end Go.Bb
/- Contracts: sums of bytes: a block is mixed in. -/
namespace Go.Bb
set_option linter.unusedSimpArgs false
set_option linter.unusedVariables false
set_option maxRecDepth 20000

theorem rowU_cells {H : Heap} {b n sz : Nat} {f : Nat → U32} (h : H b = some (.own 0 (rowU f n) sz)) : hcells H ⟨b, 0, none⟩ n = some (rowU f n) := by
  rw [hcells_at h (by rw [rowU_len]; omega)]; simp [List.take_of_length_le, rowU_len]

end Go.Bb
/- Contracts: streams of keys: turns, quarters. -/
namespace Go.Bb
set_option linter.unusedSimpArgs false
set_option linter.unusedVariables false
set_option maxRecDepth 20000
set_option maxHeartbeats 2000000

theorem rotl_m : ∀ n : Nat, n < 32 → 1 ≤ n → (BitVec.ofInt 64 (n : Int) &&& BitVec.ofNat 64 31).toNat = n := by decide
theorem RotL_c (E : EnvT tab) (h : Heap) (x : U32) (n : Nat) {z : Int} (hz : z = n) (h1 : 1 ≤ n) (h2 : n ≤ 31) : ACallN E.toEnv n_math_bits_RotateLeft32 [.int .u32 x.toNat, .int .i64 z] h fun r h' => h' = h ∧ r = .int .u32 (rotF x n).toNat := by
  subst hz
  refine acall h_math_bits_RotateLeft32 ir_math_bits_RotateLeft32 rfl rfl (wpA_sound ?_)
  unfold ir_math_bits_RotateLeft32
  have w1 : IntKind.u64.wrap (n : Int) = ((BitVec.ofInt 64 (n : Int)).toNat : Int) := wrap_u64 _
  have w2 : IntKind.u64.wrap ((BitVec.ofInt IntKind.u64.bits ((BitVec.ofInt 64 (n : Int)).toNat : Int) &&& BitVec.ofInt IntKind.u64.bits 31).toNat : Int) = (n : Int) := by
    have := u64_and (BitVec.ofInt 64 (n : Int)) (BitVec.ofNat 64 31)
    rw [rotl_m n (by omega) h1] at this
    exact this
  have w3 : IntKind.u64.wrap (32 - (n : Int)) = ((32 - n : Nat) : Int) := by
    have : (32 - (n : Int)) = ((32 - n : Nat) : Int) := by omega
    rw [this]; exact wrap_u64l (by omega)
  have n1 : ¬ ((n : Int) < 0) := by omega
  have n2 : ¬ (((32 - n : Nat) : Int) < 0) := by omega
  have s1 : IntKind.u32.wrap ((x.toNat : Int) * 2 ^ (min n IntKind.u32.bits)) = ((x <<< n).toNat : Int) := u32_shl x n (by omega)
  have s2 : ((x.toNat : Int).fdiv (2 ^ (min (32 - n) IntKind.u32.bits))) = ((x >>> (32 - n)).toNat : Int) := u32_shr x (32 - n) (by omega)
  have e : rotF x n = x <<< n ||| x >>> (32 - n) := by unfold rotF turnF; rw [show 32 - (32 - n) = n by omega]
  rw [e]
  simp -implicitDefEqProofs only [zB1,zB2,zB3,zB4,zB5,zB6,zB7,zB8,zB9,zB10,zB11,y00,y01,y02,y03,y04,y05,y06,y07,y08,y09,y0a,y0b,y0c,y0d,y0e,y0f,y0g,y0h,y0i,y0j,y0k,y0l,y0m,y0n,y0o,y0p,y0q,y0r,y0s,y0t,y0u,y0v,y0w,y0x,y0y,y0z,y10,y11,y12,y13,y14,y15,y16,y17,y18,y19,y1a,y1b,y1c,y1d,y1e,y1f,y1g,y1h,y1i,y1j,y1k,y1l,y1m,y1n,y1o,y1p,y1q,y1r,retO,retL,retV,z69,allV,allP,z6a,z6d,z6e,z6k,z6l,z6m,binV,eqV,unV,oOpt,reduceIte,reduceCtorEq,Nat.reduceEqDiff,Nat.reduceAdd,Nat.reduceMul,Nat.reduceLT,Nat.reduceSub,Int.reduceLT,Int.reduceLE,Int.reduceEq,Int.reduceNe,Int.reduceSub,Int.reduceAdd,Int.reduceMul,Int.reduceBEq,Int.reduceBNe,Int.reduceGT,Int.reduceGE,Nat.reduceGT,Int.reduceToNat,Int.reduceNeg,Nat.reduceLeDiff,Nat.reduceBEq,Nat.reduceBneDiff,Value.cells, w1, w2, w3, n1, n2, Int.toNat_natCast, s1, s2, u32_or]
theorem chacha_Quarter_c (E : EnvT tab) (h : Heap) (a b c d : U32) : ACallN E.toEnv n_chacha_Quarter [.int .u32 a.toNat, .int .u32 b.toNat, .int .u32 c.toNat, .int .u32 d.toNat] h fun r h' => h' = h ∧ r = (quarF ⟨a, b, c, d⟩).V := by
  refine acall h_chacha_Quarter ir_chacha_Quarter rfl rfl (wpA_sound ?_)
  unfold ir_chacha_Quarter
  simp -implicitDefEqProofs only [zB1,zB2,zB3,zB4,zB5,zB6,zB7,zB8,zB9,zB10,zB11,y00,y01,y02,y03,y04,y05,y06,y07,y08,y09,y0a,y0b,y0c,y0d,y0e,y0f,y0g,y0h,y0i,y0j,y0k,y0l,y0m,y0n,y0o,y0p,y0q,y0r,y0s,y0t,y0u,y0v,y0w,y0x,y0y,y0z,y10,y11,y12,y13,y14,y15,y16,y17,y18,y19,y1a,y1b,y1c,y1d,y1e,y1f,y1g,y1h,y1i,y1j,y1k,y1l,y1m,y1n,y1o,y1p,y1q,y1r,retO,retL,retV,z69,allV,allP,z6a,z6d,z6e,z6k,z6l,z6m,binV,eqV,unV,oOpt,reduceIte,reduceCtorEq,Nat.reduceEqDiff,Nat.reduceAdd,Nat.reduceMul,Nat.reduceLT,Nat.reduceSub,Int.reduceLT,Int.reduceLE,Int.reduceEq,Int.reduceNe,Int.reduceSub,Int.reduceAdd,Int.reduceMul,Int.reduceBEq,Int.reduceBNe,Int.reduceGT,Int.reduceGE,Nat.reduceGT,Int.reduceToNat,Int.reduceNeg,Nat.reduceLeDiff,Nat.reduceBEq,Nat.reduceBneDiff,Value.cells, u32_add, u32_xor]
  refine (RotL_c E _ _ 16 rfl (by omega) (by omega)).mono ?_
  rintro r h' ⟨rfl, rfl⟩
  simp -implicitDefEqProofs only [zB1,zB2,zB3,zB4,zB5,zB6,zB7,zB8,zB9,zB10,zB11,y00,y01,y02,y03,y04,y05,y06,y07,y08,y09,y0a,y0b,y0c,y0d,y0e,y0f,y0g,y0h,y0i,y0j,y0k,y0l,y0m,y0n,y0o,y0p,y0q,y0r,y0s,y0t,y0u,y0v,y0w,y0x,y0y,y0z,y10,y11,y12,y13,y14,y15,y16,y17,y18,y19,y1a,y1b,y1c,y1d,y1e,y1f,y1g,y1h,y1i,y1j,y1k,y1l,y1m,y1n,y1o,y1p,y1q,y1r,retO,retL,retV,z69,allV,allP,z6a,z6d,z6e,z6k,z6l,z6m,binV,eqV,unV,oOpt,reduceIte,reduceCtorEq,Nat.reduceEqDiff,Nat.reduceAdd,Nat.reduceMul,Nat.reduceLT,Nat.reduceSub,Int.reduceLT,Int.reduceLE,Int.reduceEq,Int.reduceNe,Int.reduceSub,Int.reduceAdd,Int.reduceMul,Int.reduceBEq,Int.reduceBNe,Int.reduceGT,Int.reduceGE,Nat.reduceGT,Int.reduceToNat,Int.reduceNeg,Nat.reduceLeDiff,Nat.reduceBEq,Nat.reduceBneDiff,Value.cells, u32_add, u32_xor]
  refine (RotL_c E _ _ 12 rfl (by omega) (by omega)).mono ?_
  rintro r h' ⟨rfl, rfl⟩
  simp -implicitDefEqProofs only [zB1,zB2,zB3,zB4,zB5,zB6,zB7,zB8,zB9,zB10,zB11,y00,y01,y02,y03,y04,y05,y06,y07,y08,y09,y0a,y0b,y0c,y0d,y0e,y0f,y0g,y0h,y0i,y0j,y0k,y0l,y0m,y0n,y0o,y0p,y0q,y0r,y0s,y0t,y0u,y0v,y0w,y0x,y0y,y0z,y10,y11,y12,y13,y14,y15,y16,y17,y18,y19,y1a,y1b,y1c,y1d,y1e,y1f,y1g,y1h,y1i,y1j,y1k,y1l,y1m,y1n,y1o,y1p,y1q,y1r,retO,retL,retV,z69,allV,allP,z6a,z6d,z6e,z6k,z6l,z6m,binV,eqV,unV,oOpt,reduceIte,reduceCtorEq,Nat.reduceEqDiff,Nat.reduceAdd,Nat.reduceMul,Nat.reduceLT,Nat.reduceSub,Int.reduceLT,Int.reduceLE,Int.reduceEq,Int.reduceNe,Int.reduceSub,Int.reduceAdd,Int.reduceMul,Int.reduceBEq,Int.reduceBNe,Int.reduceGT,Int.reduceGE,Nat.reduceGT,Int.reduceToNat,Int.reduceNeg,Nat.reduceLeDiff,Nat.reduceBEq,Nat.reduceBneDiff,Value.cells, u32_add, u32_xor]
  unfold ir_chacha_Quarter_26
  simp -implicitDefEqProofs only [zB1,zB2,zB3,zB4,zB5,zB6,zB7,zB8,zB9,zB10,zB11,y00,y01,y02,y03,y04,y05,y06,y07,y08,y09,y0a,y0b,y0c,y0d,y0e,y0f,y0g,y0h,y0i,y0j,y0k,y0l,y0m,y0n,y0o,y0p,y0q,y0r,y0s,y0t,y0u,y0v,y0w,y0x,y0y,y0z,y10,y11,y12,y13,y14,y15,y16,y17,y18,y19,y1a,y1b,y1c,y1d,y1e,y1f,y1g,y1h,y1i,y1j,y1k,y1l,y1m,y1n,y1o,y1p,y1q,y1r,retO,retL,retV,z69,allV,allP,z6a,z6d,z6e,z6k,z6l,z6m,binV,eqV,unV,oOpt,reduceIte,reduceCtorEq,Nat.reduceEqDiff,Nat.reduceAdd,Nat.reduceMul,Nat.reduceLT,Nat.reduceSub,Int.reduceLT,Int.reduceLE,Int.reduceEq,Int.reduceNe,Int.reduceSub,Int.reduceAdd,Int.reduceMul,Int.reduceBEq,Int.reduceBNe,Int.reduceGT,Int.reduceGE,Nat.reduceGT,Int.reduceToNat,Int.reduceNeg,Nat.reduceLeDiff,Nat.reduceBEq,Nat.reduceBneDiff,Value.cells, u32_add, u32_xor]
  refine (RotL_c E _ _ 8 rfl (by omega) (by omega)).mono ?_
  rintro r h' ⟨rfl, rfl⟩
  simp -implicitDefEqProofs only [zB1,zB2,zB3,zB4,zB5,zB6,zB7,zB8,zB9,zB10,zB11,y00,y01,y02,y03,y04,y05,y06,y07,y08,y09,y0a,y0b,y0c,y0d,y0e,y0f,y0g,y0h,y0i,y0j,y0k,y0l,y0m,y0n,y0o,y0p,y0q,y0r,y0s,y0t,y0u,y0v,y0w,y0x,y0y,y0z,y10,y11,y12,y13,y14,y15,y16,y17,y18,y19,y1a,y1b,y1c,y1d,y1e,y1f,y1g,y1h,y1i,y1j,y1k,y1l,y1m,y1n,y1o,y1p,y1q,y1r,retO,retL,retV,z69,allV,allP,z6a,z6d,z6e,z6k,z6l,z6m,binV,eqV,unV,oOpt,reduceIte,reduceCtorEq,Nat.reduceEqDiff,Nat.reduceAdd,Nat.reduceMul,Nat.reduceLT,Nat.reduceSub,Int.reduceLT,Int.reduceLE,Int.reduceEq,Int.reduceNe,Int.reduceSub,Int.reduceAdd,Int.reduceMul,Int.reduceBEq,Int.reduceBNe,Int.reduceGT,Int.reduceGE,Nat.reduceGT,Int.reduceToNat,Int.reduceNeg,Nat.reduceLeDiff,Nat.reduceBEq,Nat.reduceBneDiff,Value.cells, u32_add, u32_xor]
  refine (RotL_c E _ _ 7 rfl (by omega) (by omega)).mono ?_
  rintro r h' ⟨rfl, rfl⟩
  simp -implicitDefEqProofs only [zB1,zB2,zB3,zB4,zB5,zB6,zB7,zB8,zB9,zB10,zB11,y00,y01,y02,y03,y04,y05,y06,y07,y08,y09,y0a,y0b,y0c,y0d,y0e,y0f,y0g,y0h,y0i,y0j,y0k,y0l,y0m,y0n,y0o,y0p,y0q,y0r,y0s,y0t,y0u,y0v,y0w,y0x,y0y,y0z,y10,y11,y12,y13,y14,y15,y16,y17,y18,y19,y1a,y1b,y1c,y1d,y1e,y1f,y1g,y1h,y1i,y1j,y1k,y1l,y1m,y1n,y1o,y1p,y1q,y1r,retO,retL,retV,z69,allV,allP,z6a,z6d,z6e,z6k,z6l,z6m,binV,eqV,unV,oOpt,reduceIte,reduceCtorEq,Nat.reduceEqDiff,Nat.reduceAdd,Nat.reduceMul,Nat.reduceLT,Nat.reduceSub,Int.reduceLT,Int.reduceLE,Int.reduceEq,Int.reduceNe,Int.reduceSub,Int.reduceAdd,Int.reduceMul,Int.reduceBEq,Int.reduceBNe,Int.reduceGT,Int.reduceGE,Nat.reduceGT,Int.reduceToNat,Int.reduceNeg,Nat.reduceLeDiff,Nat.reduceBEq,Nat.reduceBneDiff,Value.cells, u32_add, u32_xor]
  rfl
end Go.Bb
/- Arguments: bytes and words. -/
namespace Go.Bb
set_option linter.unusedSimpArgs false
set_option linter.unusedVariables false

end Go.Bb
namespace Go.Bb
end Go.Bb
/- Arguments: slices of slices of bytes, texts. -/
namespace Go.Bb
set_option linter.unusedSimpArgs false
set_option linter.unusedVariables false

/-- A part of what is read, at its place. -/
theorem SlL.part {h : Heap} {base : Option Addr} {c : Nat} {L : List (List UInt8)} (s : SlL h (.slice base L.length c) L) (i : Nat) (hi : i < L.length) :
    ∃ b o u bi ci, base = some ⟨b, o, none⟩ ∧ u = .slice bi L[i].length ci ∧ SlB h u L[i] ∧ ∀ H, h.le H → hcell H ⟨b, o + i, none⟩ = some u := by
  obtain ⟨vs, hvs, sl, el⟩ := s
  obtain ⟨b, o, c', hv, hc, hcl⟩ := sl.ptr (by omega) (by omega)
  simp only [Value.slice.injEq, true_and] at hv
  obtain ⟨rfl, rfl⟩ := hv
  rw [Nat.mul_one] at hcl
  obtain ⟨bi, ci, e⟩ := Sl.shape (el i (by omega) hi)
  refine ⟨b, o, vs[i]'(by omega), bi, ci, rfl, e, el i (by omega) hi, fun H hH => ?_⟩
  rw [hcell_of (hcells_le hH hcl) i hi]; simp [hvs, hi]
theorem SlL.shape {h : Heap} {v : Value} {L : List (List UInt8)} (s : SlL h v L) : ∃ base c, v = .slice base L.length c := by
  obtain ⟨vs, hvs, sl, el⟩ := s
  exact Sl.shape sl
end Go.Bb
/- Contracts: streams of keys: mix, words. -/
namespace Go.Bb
set_option linter.unusedSimpArgs false
set_option linter.unusedVariables false
set_option maxRecDepth 20000
set_option maxHeartbeats 2000000

theorem chacha_mix_c (E : EnvT tab) {h : Heap} {b : Nat} {s : Nat → U32} (hb : h b = some (.own 0 (rowU s 16) 16)) (i j k l : Nat) (hi : i < 16) (hj : j < 16) (hk : k < 16) (hl : l < 16) :
    ACallN E.toEnv n_chacha_mix [.pointer (some ⟨b, 0, none⟩), .int .i64 i, .int .i64 j, .int .i64 k, .int .i64 l] h fun r h' => h' = h.set b (.own 0 (rowU (mixQ s i j k l) 16) 16) ∧ r = .tuple #[] := by
  refine acall h_chacha_mix ir_chacha_mix rfl rfl (wpA_sound ?_)
  unfold ir_chacha_mix
  have i0 : (0 : Int) ≤ i := by omega
  have j0 : (0 : Int) ≤ j := by omega
  have k0 : (0 : Int) ≤ k := by omega
  have l0 : (0 : Int) ≤ l := by omega
  have i1 : (i : Int) < 16 := by omega
  have j1 : (j : Int) < 16 := by omega
  have k1 : (k : Int) < 16 := by omega
  have l1 : (l : Int) < 16 := by omega
  have ci := rowU_at hb hi
  have cj := rowU_at hb hj
  have ck := rowU_at hb hk
  have cl := rowU_at hb hl
  simp -implicitDefEqProofs only [zB1,zB2,zB3,zB4,zB5,zB6,zB7,zB8,zB9,zB10,zB11,y00,y01,y02,y03,y04,y05,y06,y07,y08,y09,y0a,y0b,y0c,y0d,y0e,y0f,y0g,y0h,y0i,y0j,y0k,y0l,y0m,y0n,y0o,y0p,y0q,y0r,y0s,y0t,y0u,y0v,y0w,y0x,y0y,y0z,y10,y11,y12,y13,y14,y15,y16,y17,y18,y19,y1a,y1b,y1c,y1d,y1e,y1f,y1g,y1h,y1i,y1j,y1k,y1l,y1m,y1n,y1o,y1p,y1q,y1r,retO,retL,retV,z69,allV,allP,z6a,z6d,z6e,z6k,z6l,z6m,binV,eqV,unV,oOpt,reduceIte,reduceCtorEq,Nat.reduceEqDiff,Nat.reduceAdd,Nat.reduceMul,Nat.reduceLT,Nat.reduceSub,Int.reduceLT,Int.reduceLE,Int.reduceEq,Int.reduceNe,Int.reduceSub,Int.reduceAdd,Int.reduceMul,Int.reduceBEq,Int.reduceBNe,Int.reduceGT,Int.reduceGE,Nat.reduceGT,Int.reduceToNat,Int.reduceNeg,Nat.reduceLeDiff,Nat.reduceBEq,Nat.reduceBneDiff,Value.cells, i0, j0, k0, l0, i1, j1, k1, l1, ci, cj, ck, cl, Int.toNat_natCast]
  refine (chacha_Quarter_c E _ _ _ _ _).mono ?_
  rintro r h' ⟨rfl, rfl⟩
  unfold Q4.V mixQ
  generalize quarF ⟨s i, s j, s k, s l⟩ = q
  have s1 := rowU_store (z := q.a) hb hi
  have q1 := Heap.set_self h' b (.own 0 (rowU (updU s i q.a) 16) 16)
  have s2 := rowU_store (z := q.b) q1 hj
  rw [Heap.set_set] at s2
  have q2 := Heap.set_self h' b (.own 0 (rowU (updU (updU s i q.a) j q.b) 16) 16)
  have s3 := rowU_store (z := q.c) q2 hk
  rw [Heap.set_set] at s3
  have q3 := Heap.set_self h' b (.own 0 (rowU (updU (updU (updU s i q.a) j q.b) k q.c) 16) 16)
  have s4 := rowU_store (z := q.d) q3 hl
  rw [Heap.set_set] at s4
  simp -implicitDefEqProofs only [zB1,zB2,zB3,zB4,zB5,zB6,zB7,zB8,zB9,zB10,zB11,y00,y01,y02,y03,y04,y05,y06,y07,y08,y09,y0a,y0b,y0c,y0d,y0e,y0f,y0g,y0h,y0i,y0j,y0k,y0l,y0m,y0n,y0o,y0p,y0q,y0r,y0s,y0t,y0u,y0v,y0w,y0x,y0y,y0z,y10,y11,y12,y13,y14,y15,y16,y17,y18,y19,y1a,y1b,y1c,y1d,y1e,y1f,y1g,y1h,y1i,y1j,y1k,y1l,y1m,y1n,y1o,y1p,y1q,y1r,retO,retL,retV,z69,allV,allP,z6a,z6d,z6e,z6k,z6l,z6m,binV,eqV,unV,oOpt,reduceIte,reduceCtorEq,Nat.reduceEqDiff,Nat.reduceAdd,Nat.reduceMul,Nat.reduceLT,Nat.reduceSub,Int.reduceLT,Int.reduceLE,Int.reduceEq,Int.reduceNe,Int.reduceSub,Int.reduceAdd,Int.reduceMul,Int.reduceBEq,Int.reduceBNe,Int.reduceGT,Int.reduceGE,Nat.reduceGT,Int.reduceToNat,Int.reduceNeg,Nat.reduceLeDiff,Nat.reduceBEq,Nat.reduceBneDiff,Value.cells, i0, j0, k0, l0, i1, j1, k1, l1, Int.toNat_natCast, s1, s2, s3, s4, implies_true, List.mem_cons, List.not_mem_nil, or_false, forall_eq, forall_eq_or_imp, and_self]
end Go.Bb
/- Contracts: streams of keys: words. -/
namespace Go.Bb
set_option linter.unusedSimpArgs false
set_option linter.unusedVariables false
set_option maxRecDepth 20000

theorem chacha_word_c (E : EnvT tab) (h : Heap) {v : Value} (l : List UInt8) (hl : 4 ≤ l.length) (s : SlB h v l) : ACallN E.toEnv n_chacha_word [v] h fun r h' => h.le h' ∧ r = .int .u32 ((fromLittleF (l.take 4)).setWidth 32).toNat := by
  obtain ⟨base, c, rfl⟩ := Sl.shape s
  refine acall h_chacha_word ir_chacha_word rfl rfl (wpA_sound ?_)
  unfold ir_chacha_word
  have hc : l.length ≤ c := by
    rcases s with ⟨e, hn, _⟩ | ⟨a, c', e, hc, _⟩
    · omega
    · cases e; exact hc
  have bd : bnds l.length c none (some (some (.int .i64 4))) none = some (0, 4, c) := bnds_hi (by omega) (by omega)
  have hs := Sl.headB s (m := 4) hl
  have l4 : (l.take 4).length = 4 := by simp; omega
  unfold SlB at hs
  rw [l4] at hs
  simp -implicitDefEqProofs only [zB1,zB2,zB3,zB4,zB5,zB6,zB7,zB8,zB9,zB10,zB11,y00,y01,y02,y03,y04,y05,y06,y07,y08,y09,y0a,y0b,y0c,y0d,y0e,y0f,y0g,y0h,y0i,y0j,y0k,y0l,y0m,y0n,y0o,y0p,y0q,y0r,y0s,y0t,y0u,y0v,y0w,y0x,y0y,y0z,y10,y11,y12,y13,y14,y15,y16,y17,y18,y19,y1a,y1b,y1c,y1d,y1e,y1f,y1g,y1h,y1i,y1j,y1k,y1l,y1m,y1n,y1o,y1p,y1q,y1r,retO,retL,retV,z69,allV,allP,z6a,z6d,z6e,z6k,z6l,z6m,binV,eqV,unV,oOpt,reduceIte,reduceCtorEq,Nat.reduceEqDiff,Nat.reduceAdd,Nat.reduceMul,Nat.reduceLT,Nat.reduceSub,Int.reduceLT,Int.reduceLE,Int.reduceEq,Int.reduceNe,Int.reduceSub,Int.reduceAdd,Int.reduceMul,Int.reduceBEq,Int.reduceBNe,Int.reduceGT,Int.reduceGE,Nat.reduceGT,Int.reduceToNat,Int.reduceNeg,Nat.reduceLeDiff,Nat.reduceBEq,Nat.reduceBneDiff,Value.cells, bd, Nat.sub_zero]
  rw [addO base c fun a _ => addr_add0 a]
  refine (octet_FromLittle_c E h (l.take 4) (by omega) (by unfold SlB; rw [l4]; exact hs)).mono ?_
  rintro r h1 ⟨le1, rfl⟩
  simp -implicitDefEqProofs only [zB1,zB2,zB3,zB4,zB5,zB6,zB7,zB8,zB9,zB10,zB11,y00,y01,y02,y03,y04,y05,y06,y07,y08,y09,y0a,y0b,y0c,y0d,y0e,y0f,y0g,y0h,y0i,y0j,y0k,y0l,y0m,y0n,y0o,y0p,y0q,y0r,y0s,y0t,y0u,y0v,y0w,y0x,y0y,y0z,y10,y11,y12,y13,y14,y15,y16,y17,y18,y19,y1a,y1b,y1c,y1d,y1e,y1f,y1g,y1h,y1i,y1j,y1k,y1l,y1m,y1n,y1o,y1p,y1q,y1r,retO,retL,retV,z69,allV,allP,z6a,z6d,z6e,z6k,z6l,z6m,binV,eqV,unV,oOpt,reduceIte,reduceCtorEq,Nat.reduceEqDiff,Nat.reduceAdd,Nat.reduceMul,Nat.reduceLT,Nat.reduceSub,Int.reduceLT,Int.reduceLE,Int.reduceEq,Int.reduceNe,Int.reduceSub,Int.reduceAdd,Int.reduceMul,Int.reduceBEq,Int.reduceBNe,Int.reduceGT,Int.reduceGE,Nat.reduceGT,Int.reduceToNat,Int.reduceNeg,Nat.reduceLeDiff,Nat.reduceBEq,Nat.reduceBneDiff,Value.cells, u64V, u64_u32]
  exact le1
end Go.Bb
/- Contracts: streams of keys: the state. -/
namespace Go.Bb
set_option linter.unusedSimpArgs false
set_option linter.unusedVariables false
set_option maxRecDepth 20000
set_option maxHeartbeats 2000000

/-- The first i ones of one row of words, the rest of another. -/
def blendU (p f : Nat → U32) (i : Nat) : Nat → U32 := fun j => if j < i then p j else f j
theorem blendU_lt {p f : Nat → U32} {i j : Nat} (h : j < i) : blendU p f i j = p j := by simp [blendU, h]
theorem blendU_ge {p f : Nat → U32} {i j : Nat} (h : i ≤ j) : blendU p f i j = f j := by simp [blendU]; omega
theorem blendU_step (p f : Nat → U32) (i : Nat) {z : U32} (hz : z = p i) : updU (blendU p f i) i z = blendU p f (i + 1) := by
  subst hz
  funext j
  simp only [updU, blendU]
  by_cases e : j = i
  · subst e; simp
  · rw [if_neg e]
    by_cases e2 : j < i
    · rw [if_pos e2, if_pos (by omega)]
    · rw [if_neg e2, if_neg (by omega)]
theorem rowU_agg {H : Heap} {b n : Nat} {f : Nat → U32} {old : List Value} (h : H b = some (.own 0 old n)) (hl : old.length = n) (hn : 0 < n) : storeV H n (.pointer (some ⟨b, 0, none⟩)) (.agg (rowU f n).toArray) = some (H.set b (.own 0 (rowU f n) n)) :=
  storeV_agg_at h hn (rowU_len _ _) (rowU_one _ _) hl (by omega)
theorem const16_row : Value.int .u32 1634760805 :: Value.int .u32 857760878 :: Value.int .u32 2036477234 :: Value.int .u32 1797285236 :: List.replicate 12 (Value.int .u32 0) = rowU constC 16 := rfl
theorem slice_at {H : Heap} {b n : Nat} {l : List UInt8} (h : H b = some (.own 0 (l.map u8V) n)) (hl : l.length = n) (k : Nat) (hk : k < n) : SlB H (.slice (some (Addr.add ⟨b, 0, none⟩ k)) (n - k) (n - k)) (l.drop k) := by
  have s := own_sl h
  have := Sl.midB (a := k) (b := l.length) s (by omega) (Nat.le_refl _)
  rw [if_neg (by omega)] at this
  simp only [Option.map_some] at this
  rw [hl] at this
  rw [List.take_of_length_le (by simp; omega)] at this
  exact this

theorem constC_0 (n : Nat) : constC (n + 4) = 0 := rfl
theorem const_blend (key nonce : List UInt8) (count : U32) : rowU constC 16 = rowU (blendU (stateF key count nonce) (fun _ => 0) 4) 16 := by
  apply rowU_congr
  intro j hj
  by_cases h : j < 4
  · rw [blendU_lt h]; unfold stateF; rw [if_pos h]
  · rw [blendU_ge (by omega)]
    obtain ⟨k, rfl⟩ : ∃ k, j = k + 4 := ⟨j - 4, by omega⟩
    exact constC_0 k
theorem chacha_state_c (E : EnvT tab) (h : Heap) (key nonce : List UInt8) (count : U32) (hk : key.length = 32) (hn : nonce.length = 12) :
    ACallN E.toEnv n_chacha_state [.agg (key.map u8V).toArray, .int .u32 count.toNat, .agg (nonce.map u8V).toArray] h fun r h' => h.le h' ∧ r = .agg (rowU (stateF key count nonce) 16).toArray := by
  refine acall h_chacha_state ir_chacha_state rfl rfl (wpA_sound ?_)
  unfold ir_chacha_state
  have hk' : (key.map u8V).length = 32 := by simp [hk]
  have hn' : (nonce.map u8V).length = 12 := by simp [hn]
  have cr := const_blend key nonce count
  have g12 : count = stateF key count nonce 12 := rfl
  have gk : ∀ i, i < 8 → wordF key i = stateF key count nonce (4 + i) := by
    intro i hi
    unfold stateF
    rw [if_neg (by omega), if_pos (by omega), show 4 + i - 4 = i by omega]
  have gn : ∀ i, i < 3 → wordF nonce i = stateF key count nonce (13 + i) := by
    intro i hi
    unfold stateF
    rw [if_neg (by omega), if_neg (by omega), if_neg (by omega), if_pos (by omega), show 13 + i - 13 = i by omega]
  generalize hg : stateF key count nonce = g at cr g12 gk gn ⊢
  simp -implicitDefEqProofs only [zB1,zB2,zB3,zB4,zB5,zB6,zB7,zB8,zB9,zB10,zB11,y00,y01,y02,y03,y04,y05,y06,y07,y08,y09,y0a,y0b,y0c,y0d,y0e,y0f,y0g,y0h,y0i,y0j,y0k,y0l,y0m,y0n,y0o,y0p,y0q,y0r,y0s,y0t,y0u,y0v,y0w,y0x,y0y,y0z,y10,y11,y12,y13,y14,y15,y16,y17,y18,y19,y1a,y1b,y1c,y1d,y1e,y1f,y1g,y1h,y1i,y1j,y1k,y1l,y1m,y1n,y1o,y1p,y1q,y1r,retO,retL,retV,z69,allV,allP,z6a,z6d,z6e,z6k,z6l,z6m,binV,eqV,unV,oOpt,reduceIte,reduceCtorEq,Nat.reduceEqDiff,Nat.reduceAdd,Nat.reduceMul,Nat.reduceLT,Nat.reduceSub,Int.reduceLT,Int.reduceLE,Int.reduceEq,Int.reduceNe,Int.reduceSub,Int.reduceAdd,Int.reduceMul,Int.reduceBEq,Int.reduceBNe,Int.reduceGT,Int.reduceGE,Nat.reduceGT,Int.reduceToNat,Int.reduceNeg,Nat.reduceLeDiff,Nat.reduceBEq,Nat.reduceBneDiff,Value.cells, hk', hn', List.length_replicate, List.drop_replicate, const16_row, cr]
  intro b3 hb3 b5 hb5 b6 hb6 b7 hb7
  obtain ⟨n53, hb5'⟩ := Heap.set_none.1 hb5
  obtain ⟨n65, hb6a⟩ := Heap.set_none.1 hb6
  obtain ⟨n63, hb6'⟩ := Heap.set_none.1 hb6a
  have le1 : h.le (((h.set b3 (.own 0 (key.map u8V) 32)).set b5 (.own 0 (nonce.map u8V) 12)).set b6 (.own 0 (List.replicate 16 (.int .u32 0)) 16)) := Heap.le_set (Heap.le_set (Heap.le_set (Heap.le_refl _) hb3 _) hb5' _) hb6' _
  have q3 : (((h.set b3 (.own 0 (key.map u8V) 32)).set b5 (.own 0 (nonce.map u8V) 12)).set b6 (.own 0 (List.replicate 16 (.int .u32 0)) 16)) b3 = some (.own 0 (key.map u8V) 32) := set_keep (set_keep (Heap.set_self _ _ _) (Ne.symm n53)) (Ne.symm n63)
  have q5 : (((h.set b3 (.own 0 (key.map u8V) 32)).set b5 (.own 0 (nonce.map u8V) 12)).set b6 (.own 0 (List.replicate 16 (.int .u32 0)) 16)) b5 = some (.own 0 (nonce.map u8V) 12) := set_keep (Heap.set_self _ _ _) (Ne.symm n65)
  have q6 : (((h.set b3 (.own 0 (key.map u8V) 32)).set b5 (.own 0 (nonce.map u8V) 12)).set b6 (.own 0 (List.replicate 16 (.int .u32 0)) 16)) b6 = some (.own 0 (List.replicate 16 (.int .u32 0)) 16) := Heap.set_self _ _ _
  generalize (((h.set b3 (.own 0 (key.map u8V) 32)).set b5 (.own 0 (nonce.map u8V) 12)).set b6 (.own 0 (List.replicate 16 (.int .u32 0)) 16)) = h1 at le1 q3 q5 q6 hb7 ⊢
  have hb7' := Heap.none_of_le le1 hb7
  have n73 := ne_of_none hb7 q3
  have n75 := ne_of_none hb7 q5
  have n76 := ne_of_none hb7 q6
  have s7 : storeV (h1.set b7 (.own 0 (List.replicate 16 (.int .u32 0)) 16)) 16 (.pointer (some ⟨b7, 0, none⟩)) (.agg (rowU (blendU g (fun _ => 0) 4) 16).toArray) = some (h1.set b7 (.own 0 (rowU (blendU g (fun _ => 0) 4) 16) 16)) := z6q (by omega) (rowU_len _ _) (rowU_one _ _) (by simp) (by omega)
  simp -implicitDefEqProofs only [zB1,zB2,zB3,zB4,zB5,zB6,zB7,zB8,zB9,zB10,zB11,y00,y01,y02,y03,y04,y05,y06,y07,y08,y09,y0a,y0b,y0c,y0d,y0e,y0f,y0g,y0h,y0i,y0j,y0k,y0l,y0m,y0n,y0o,y0p,y0q,y0r,y0s,y0t,y0u,y0v,y0w,y0x,y0y,y0z,y10,y11,y12,y13,y14,y15,y16,y17,y18,y19,y1a,y1b,y1c,y1d,y1e,y1f,y1g,y1h,y1i,y1j,y1k,y1l,y1m,y1n,y1o,y1p,y1q,y1r,retO,retL,retV,z69,allV,allP,z6a,z6d,z6e,z6k,z6l,z6m,binV,eqV,unV,oOpt,reduceIte,reduceCtorEq,Nat.reduceEqDiff,Nat.reduceAdd,Nat.reduceMul,Nat.reduceLT,Nat.reduceSub,Int.reduceLT,Int.reduceLE,Int.reduceEq,Int.reduceNe,Int.reduceSub,Int.reduceAdd,Int.reduceMul,Int.reduceBEq,Int.reduceBNe,Int.reduceGT,Int.reduceGE,Nat.reduceGT,Int.reduceToNat,Int.reduceNeg,Nat.reduceLeDiff,Nat.reduceBEq,Nat.reduceBneDiff,Value.cells, s7]
  unfold ir_chacha_state_11
  simp -implicitDefEqProofs only [zB1,zB2,zB3,zB4,zB5,zB6,zB7,zB8,zB9,zB10,zB11,y00,y01,y02,y03,y04,y05,y06,y07,y08,y09,y0a,y0b,y0c,y0d,y0e,y0f,y0g,y0h,y0i,y0j,y0k,y0l,y0m,y0n,y0o,y0p,y0q,y0r,y0s,y0t,y0u,y0v,y0w,y0x,y0y,y0z,y10,y11,y12,y13,y14,y15,y16,y17,y18,y19,y1a,y1b,y1c,y1d,y1e,y1f,y1g,y1h,y1i,y1j,y1k,y1l,y1m,y1n,y1o,y1p,y1q,y1r,retO,retL,retV,z69,allV,allP,z6a,z6d,z6e,z6k,z6l,z6m,binV,eqV,unV,oOpt,reduceIte,reduceCtorEq,Nat.reduceEqDiff,Nat.reduceAdd,Nat.reduceMul,Nat.reduceLT,Nat.reduceSub,Int.reduceLT,Int.reduceLE,Int.reduceEq,Int.reduceNe,Int.reduceSub,Int.reduceAdd,Int.reduceMul,Int.reduceBEq,Int.reduceBNe,Int.reduceGT,Int.reduceGE,Nat.reduceGT,Int.reduceToNat,Int.reduceNeg,Nat.reduceLeDiff,Nat.reduceBEq,Nat.reduceBneDiff,Value.cells]
  refine wp_loop' (fun m t H => h.le H ∧ ∃ i : Nat, i ≤ 8 ∧ m = 8 - i ∧ t = tl [(1, .int .u32 count.toNat), (3, .pointer (some ⟨b3, 0, none⟩)), (5, .pointer (some ⟨b5, 0, none⟩)), (6, .pointer (some ⟨b6, 0, none⟩)), (7, .pointer (some ⟨b7, 0, none⟩)), (11, .int .i64 i)] ∧
      H b3 = some (.own 0 (key.map u8V) 32) ∧ H b5 = some (.own 0 (nonce.map u8V) 12) ∧ H b6 = some (.own 0 (List.replicate 16 (.int .u32 0)) 16) ∧ H b7 = some (.own 0 (rowU (blendU g (fun _ => 0) (4 + i)) 16) 16)) 8
    ⟨Heap.le_new le1 hb7 _, 0, by omega, rfl, rfl, set_keep q3 n73, set_keep q5 n75, set_keep q6 n76, Heap.set_self _ _ _⟩ ?_
  clear q3 q5 q6 le1
  rintro m t H ⟨leH, i, hi, rfl, rfl, q3, q5, q6, q7⟩
  by_cases hlt : (i : Int) < 8
  · have hi' : i < 8 := by omega
    have w1 : IntKind.i64.wrap (4 + (i : Int)) = ((4 + i : Nat) : Int) := by rw [wrapI (by omega) (by omega)]; rfl
    have w2 : IntKind.i64.wrap (4 * (i : Int)) = ((4 * i : Nat) : Int) := by rw [wrapI (by omega) (by omega)]; rfl
    have w7 : IntKind.i64.wrap ((i : Int) + 1) = ((i + 1 : Nat) : Int) := wrapN (by omega)
    have bd : bnds 32 32 (some (some (.int .i64 ((4 * i : Nat) : Int)))) none none = some (4 * i, 32, 32) := bnds_lo (by omega) (by omega)
    have ne : ¬ (32 = 4 * i) := by omega
    have e0 : (0 : Int) ≤ ((4 + i : Nat) : Int) := by omega
    have e1 : ((4 + i : Nat) : Int) < 16 := by omega
    simp -implicitDefEqProofs only [zB1,zB2,zB3,zB4,zB5,zB6,zB7,zB8,zB9,zB10,zB11,y00,y01,y02,y03,y04,y05,y06,y07,y08,y09,y0a,y0b,y0c,y0d,y0e,y0f,y0g,y0h,y0i,y0j,y0k,y0l,y0m,y0n,y0o,y0p,y0q,y0r,y0s,y0t,y0u,y0v,y0w,y0x,y0y,y0z,y10,y11,y12,y13,y14,y15,y16,y17,y18,y19,y1a,y1b,y1c,y1d,y1e,y1f,y1g,y1h,y1i,y1j,y1k,y1l,y1m,y1n,y1o,y1p,y1q,y1r,retO,retL,retV,z69,allV,allP,z6a,z6d,z6e,z6k,z6l,z6m,binV,eqV,unV,oOpt,reduceIte,reduceCtorEq,Nat.reduceEqDiff,Nat.reduceAdd,Nat.reduceMul,Nat.reduceLT,Nat.reduceSub,Int.reduceLT,Int.reduceLE,Int.reduceEq,Int.reduceNe,Int.reduceSub,Int.reduceAdd,Int.reduceMul,Int.reduceBEq,Int.reduceBNe,Int.reduceGT,Int.reduceGE,Nat.reduceGT,Int.reduceToNat,Int.reduceNeg,Nat.reduceLeDiff,Nat.reduceBEq,Nat.reduceBneDiff,Value.cells, hlt, w1, w2, bd, ne]
    refine (chacha_word_c E _ (key.drop (4 * i)) (by simp; omega) (by have := slice_at q3 hk (4 * i) (by omega); unfold SlB; rw [List.length_drop, hk]; unfold SlB at this; rw [List.length_drop, hk] at this; exact this)).mono ?_
    rintro r H2 ⟨le2, rfl⟩
    have s8 := rowU_store (z := wordF key i) (le2 _ _ q7) (show 4 + i < 16 by omega)
    rw [blendU_step g _ _ (gk i hi')] at s8
    unfold wordF at s8
    simp -implicitDefEqProofs only [zB1,zB2,zB3,zB4,zB5,zB6,zB7,zB8,zB9,zB10,zB11,y00,y01,y02,y03,y04,y05,y06,y07,y08,y09,y0a,y0b,y0c,y0d,y0e,y0f,y0g,y0h,y0i,y0j,y0k,y0l,y0m,y0n,y0o,y0p,y0q,y0r,y0s,y0t,y0u,y0v,y0w,y0x,y0y,y0z,y10,y11,y12,y13,y14,y15,y16,y17,y18,y19,y1a,y1b,y1c,y1d,y1e,y1f,y1g,y1h,y1i,y1j,y1k,y1l,y1m,y1n,y1o,y1p,y1q,y1r,retO,retL,retV,z69,allV,allP,z6a,z6d,z6e,z6k,z6l,z6m,binV,eqV,unV,oOpt,reduceIte,reduceCtorEq,Nat.reduceEqDiff,Nat.reduceAdd,Nat.reduceMul,Nat.reduceLT,Nat.reduceSub,Int.reduceLT,Int.reduceLE,Int.reduceEq,Int.reduceNe,Int.reduceSub,Int.reduceAdd,Int.reduceMul,Int.reduceBEq,Int.reduceBNe,Int.reduceGT,Int.reduceGE,Nat.reduceGT,Int.reduceToNat,Int.reduceNeg,Nat.reduceLeDiff,Nat.reduceBEq,Nat.reduceBneDiff,Value.cells, e0, e1, Int.toNat_natCast, s8, w7]
    exact ⟨_, by omega, Heap.le_set (Heap.le_trans leH le2) hb7' _, i + 1, by omega, rfl, rfl, set_keep (le2 _ _ q3) n73, set_keep (le2 _ _ q5) n75, set_keep (le2 _ _ q6) n76, Heap.set_self _ _ _⟩
  · obtain rfl : i = 8 := by omega
    simp -implicitDefEqProofs only [zB1,zB2,zB3,zB4,zB5,zB6,zB7,zB8,zB9,zB10,zB11,y00,y01,y02,y03,y04,y05,y06,y07,y08,y09,y0a,y0b,y0c,y0d,y0e,y0f,y0g,y0h,y0i,y0j,y0k,y0l,y0m,y0n,y0o,y0p,y0q,y0r,y0s,y0t,y0u,y0v,y0w,y0x,y0y,y0z,y10,y11,y12,y13,y14,y15,y16,y17,y18,y19,y1a,y1b,y1c,y1d,y1e,y1f,y1g,y1h,y1i,y1j,y1k,y1l,y1m,y1n,y1o,y1p,y1q,y1r,retO,retL,retV,z69,allV,allP,z6a,z6d,z6e,z6k,z6l,z6m,binV,eqV,unV,oOpt,reduceIte,reduceCtorEq,Nat.reduceEqDiff,Nat.reduceAdd,Nat.reduceMul,Nat.reduceLT,Nat.reduceSub,Int.reduceLT,Int.reduceLE,Int.reduceEq,Int.reduceNe,Int.reduceSub,Int.reduceAdd,Int.reduceMul,Int.reduceBEq,Int.reduceBNe,Int.reduceGT,Int.reduceGE,Nat.reduceGT,Int.reduceToNat,Int.reduceNeg,Nat.reduceLeDiff,Nat.reduceBEq,Nat.reduceBneDiff,Value.cells, hlt]
    unfold ir_chacha_state_22
    have s8 := rowU_store (z := count) q7 (show 12 < 16 by omega)
    rw [blendU_step g _ 12 g12] at s8
    simp -implicitDefEqProofs only [zB1,zB2,zB3,zB4,zB5,zB6,zB7,zB8,zB9,zB10,zB11,y00,y01,y02,y03,y04,y05,y06,y07,y08,y09,y0a,y0b,y0c,y0d,y0e,y0f,y0g,y0h,y0i,y0j,y0k,y0l,y0m,y0n,y0o,y0p,y0q,y0r,y0s,y0t,y0u,y0v,y0w,y0x,y0y,y0z,y10,y11,y12,y13,y14,y15,y16,y17,y18,y19,y1a,y1b,y1c,y1d,y1e,y1f,y1g,y1h,y1i,y1j,y1k,y1l,y1m,y1n,y1o,y1p,y1q,y1r,retO,retL,retV,z69,allV,allP,z6a,z6d,z6e,z6k,z6l,z6m,binV,eqV,unV,oOpt,reduceIte,reduceCtorEq,Nat.reduceEqDiff,Nat.reduceAdd,Nat.reduceMul,Nat.reduceLT,Nat.reduceSub,Int.reduceLT,Int.reduceLE,Int.reduceEq,Int.reduceNe,Int.reduceSub,Int.reduceAdd,Int.reduceMul,Int.reduceBEq,Int.reduceBNe,Int.reduceGT,Int.reduceGE,Nat.reduceGT,Int.reduceToNat,Int.reduceNeg,Nat.reduceLeDiff,Nat.reduceBEq,Nat.reduceBneDiff,Value.cells, s8]
    refine wp_loop' (fun m t H => h.le H ∧ ∃ i : Nat, i ≤ 3 ∧ m = 3 - i ∧ t = tl [(5, .pointer (some ⟨b5, 0, none⟩)), (6, .pointer (some ⟨b6, 0, none⟩)), (7, .pointer (some ⟨b7, 0, none⟩)), (24, .int .i64 i)] ∧
        H b5 = some (.own 0 (nonce.map u8V) 12) ∧ H b6 = some (.own 0 (List.replicate 16 (.int .u32 0)) 16) ∧ H b7 = some (.own 0 (rowU (blendU g (fun _ => 0) (13 + i)) 16) 16)) 3
      ⟨Heap.le_set leH hb7' _, 0, by omega, rfl, rfl, set_keep q5 n75, set_keep q6 n76, Heap.set_self _ _ _⟩ ?_
    clear q3 q5 q6 q7 leH s8 hlt hi
    rintro m t H ⟨leH, i, hi, rfl, rfl, q5, q6, q7⟩
    by_cases hlt : (i : Int) < 3
    · have hi' : i < 3 := by omega
      have w1 : IntKind.i64.wrap (13 + (i : Int)) = ((13 + i : Nat) : Int) := by rw [wrapI (by omega) (by omega)]; rfl
      have w2 : IntKind.i64.wrap (4 * (i : Int)) = ((4 * i : Nat) : Int) := by rw [wrapI (by omega) (by omega)]; rfl
      have w7 : IntKind.i64.wrap ((i : Int) + 1) = ((i + 1 : Nat) : Int) := wrapN (by omega)
      have bd : bnds 12 12 (some (some (.int .i64 ((4 * i : Nat) : Int)))) none none = some (4 * i, 12, 12) := bnds_lo (by omega) (by omega)
      have ne : ¬ (12 = 4 * i) := by omega
      have e0 : (0 : Int) ≤ ((13 + i : Nat) : Int) := by omega
      have e1 : ((13 + i : Nat) : Int) < 16 := by omega
      simp -implicitDefEqProofs only [zB1,zB2,zB3,zB4,zB5,zB6,zB7,zB8,zB9,zB10,zB11,y00,y01,y02,y03,y04,y05,y06,y07,y08,y09,y0a,y0b,y0c,y0d,y0e,y0f,y0g,y0h,y0i,y0j,y0k,y0l,y0m,y0n,y0o,y0p,y0q,y0r,y0s,y0t,y0u,y0v,y0w,y0x,y0y,y0z,y10,y11,y12,y13,y14,y15,y16,y17,y18,y19,y1a,y1b,y1c,y1d,y1e,y1f,y1g,y1h,y1i,y1j,y1k,y1l,y1m,y1n,y1o,y1p,y1q,y1r,retO,retL,retV,z69,allV,allP,z6a,z6d,z6e,z6k,z6l,z6m,binV,eqV,unV,oOpt,reduceIte,reduceCtorEq,Nat.reduceEqDiff,Nat.reduceAdd,Nat.reduceMul,Nat.reduceLT,Nat.reduceSub,Int.reduceLT,Int.reduceLE,Int.reduceEq,Int.reduceNe,Int.reduceSub,Int.reduceAdd,Int.reduceMul,Int.reduceBEq,Int.reduceBNe,Int.reduceGT,Int.reduceGE,Nat.reduceGT,Int.reduceToNat,Int.reduceNeg,Nat.reduceLeDiff,Nat.reduceBEq,Nat.reduceBneDiff,Value.cells, hlt, w1, w2, bd, ne]
      refine (chacha_word_c E _ (nonce.drop (4 * i)) (by simp; omega) (by have := slice_at q5 hn (4 * i) (by omega); unfold SlB; rw [List.length_drop, hn]; unfold SlB at this; rw [List.length_drop, hn] at this; exact this)).mono ?_
      rintro r H2 ⟨le2, rfl⟩
      have s8 := rowU_store (z := wordF nonce i) (le2 _ _ q7) (show 13 + i < 16 by omega)
      rw [blendU_step g _ _ (gn i hi')] at s8
      unfold wordF at s8
      simp -implicitDefEqProofs only [zB1,zB2,zB3,zB4,zB5,zB6,zB7,zB8,zB9,zB10,zB11,y00,y01,y02,y03,y04,y05,y06,y07,y08,y09,y0a,y0b,y0c,y0d,y0e,y0f,y0g,y0h,y0i,y0j,y0k,y0l,y0m,y0n,y0o,y0p,y0q,y0r,y0s,y0t,y0u,y0v,y0w,y0x,y0y,y0z,y10,y11,y12,y13,y14,y15,y16,y17,y18,y19,y1a,y1b,y1c,y1d,y1e,y1f,y1g,y1h,y1i,y1j,y1k,y1l,y1m,y1n,y1o,y1p,y1q,y1r,retO,retL,retV,z69,allV,allP,z6a,z6d,z6e,z6k,z6l,z6m,binV,eqV,unV,oOpt,reduceIte,reduceCtorEq,Nat.reduceEqDiff,Nat.reduceAdd,Nat.reduceMul,Nat.reduceLT,Nat.reduceSub,Int.reduceLT,Int.reduceLE,Int.reduceEq,Int.reduceNe,Int.reduceSub,Int.reduceAdd,Int.reduceMul,Int.reduceBEq,Int.reduceBNe,Int.reduceGT,Int.reduceGE,Nat.reduceGT,Int.reduceToNat,Int.reduceNeg,Nat.reduceLeDiff,Nat.reduceBEq,Nat.reduceBneDiff,Value.cells, e0, e1, Int.toNat_natCast, s8, w7]
      exact ⟨_, by omega, Heap.le_set (Heap.le_trans leH le2) hb7' _, i + 1, by omega, rfl, rfl, set_keep (le2 _ _ q5) n75, set_keep (le2 _ _ q6) n76, Heap.set_self _ _ _⟩
    · obtain rfl : i = 3 := by omega
      have eg : rowU (blendU g (fun _ => 0) (13 + 3)) 16 = rowU g 16 := rowU_congr fun j hj => blendU_lt hj
      rw [eg] at q7
      have l7 := rowU_cells q7
      have s6 := rowU_agg (f := g) q6 (by simp) (by omega)
      have l6 : hcells (H.set b6 (.own 0 (rowU g 16) 16)) ⟨b6, 0, none⟩ 16 = some (rowU g 16) := z6o (rowU_len _ _)
      simp -implicitDefEqProofs only [zB1,zB2,zB3,zB4,zB5,zB6,zB7,zB8,zB9,zB10,zB11,y00,y01,y02,y03,y04,y05,y06,y07,y08,y09,y0a,y0b,y0c,y0d,y0e,y0f,y0g,y0h,y0i,y0j,y0k,y0l,y0m,y0n,y0o,y0p,y0q,y0r,y0s,y0t,y0u,y0v,y0w,y0x,y0y,y0z,y10,y11,y12,y13,y14,y15,y16,y17,y18,y19,y1a,y1b,y1c,y1d,y1e,y1f,y1g,y1h,y1i,y1j,y1k,y1l,y1m,y1n,y1o,y1p,y1q,y1r,retO,retL,retV,z69,allV,allP,z6a,z6d,z6e,z6k,z6l,z6m,binV,eqV,unV,oOpt,reduceIte,reduceCtorEq,Nat.reduceEqDiff,Nat.reduceAdd,Nat.reduceMul,Nat.reduceLT,Nat.reduceSub,Int.reduceLT,Int.reduceLE,Int.reduceEq,Int.reduceNe,Int.reduceSub,Int.reduceAdd,Int.reduceMul,Int.reduceBEq,Int.reduceBNe,Int.reduceGT,Int.reduceGE,Nat.reduceGT,Int.reduceToNat,Int.reduceNeg,Nat.reduceLeDiff,Nat.reduceBEq,Nat.reduceBneDiff,Value.cells, hlt, l7, s6, l6]
      exact Heap.le_set leH hb6' _
end Go.Bb
/- Contracts: streams of keys: a block. -/
namespace Go.Bb
set_option linter.unusedSimpArgs false
set_option linter.unusedVariables false
set_option maxRecDepth 20000
set_option maxHeartbeats 2000000

theorem row8_splice (f g : Nat → UInt8) (n a m : Nat) (h : a + m ≤ n) : splice (row8 f n) a (((List.range m).map fun k => g (a + k)).map u8V) = row8 (fun j => if a ≤ j ∧ j < a + m then g j else f j) n := by
  apply List.ext_getElem?
  intro j
  rw [getElem?_splice (by rw [row8_len]; omega)]
  simp only [List.length_map, List.length_range]
  by_cases h1 : j < a
  · rw [if_pos h1]
    have hj : j < n := by omega
    rw [List.getElem?_eq_getElem (by rw [row8_len]; exact hj), List.getElem?_eq_getElem (by rw [row8_len]; exact hj), row8_get, row8_get, if_neg (by omega)]
  · rw [if_neg h1]
    by_cases h2 : j < a + m
    · have hj : j < n := by omega
      rw [if_pos h2, List.getElem?_eq_getElem (l := row8 _ n) (by rw [row8_len]; exact hj), row8_get, if_pos (by omega)]
      rw [List.getElem?_eq_getElem (by simp; omega)]
      simp [u8V]
      rw [show a + (j - a) = j by omega]
    · rw [if_neg h2]
      by_cases hj : j < n
      · rw [List.getElem?_eq_getElem (by rw [row8_len]; exact hj), List.getElem?_eq_getElem (by rw [row8_len]; exact hj), row8_get, row8_get, if_neg (by omega)]
      · rw [List.getElem?_eq_none (by rw [row8_len]; omega), List.getElem?_eq_none (by rw [row8_len]; omega)]
def blend8 (p : Nat → UInt8) (i : Nat) : Nat → UInt8 := fun j => if j < i then p j else 0
theorem blend8_0 (p : Nat → UInt8) (n : Nat) : List.replicate n (Value.int .u8 0) = row8 (blend8 p 0) n := by
  apply List.ext_getElem
  · simp [row8]
  · intro j h1 h2
    rw [row8_get]; simp [blend8]
theorem blend8_all (p : Nat → UInt8) (n : Nat) : row8 (blend8 p n) n = row8 p n := row8_congr fun j hj => by simp [blend8, hj]
theorem blend8_put (p : Nat → UInt8) (i n : Nat) (h : 4 * i + 4 ≤ n) : splice (row8 (blend8 p (4 * i)) n) (4 * i) (((List.range 4).map fun k => p (4 * i + k)).map u8V) = row8 (blend8 p (4 * (i + 1))) n := by
  rw [row8_splice _ p n (4 * i) 4 h]
  apply row8_congr
  intro j hj
  unfold blend8
  by_cases h1 : 4 * i ≤ j ∧ j < 4 * i + 4
  · rw [if_pos h1, if_pos (by omega)]
  · rw [if_neg h1]
    by_cases h2 : j < 4 * i
    · rw [if_pos h2, if_pos (by omega)]
    · rw [if_neg h2, if_neg (by omega)]
theorem tmod4 (a : Nat) : Int.tmod (a : Int) 4 = ((a % 4 : Nat) : Int) := by
  rw [Int.tmod_eq_emod_of_nonneg (by omega)]; rfl

theorem chacha_Block_c (E : EnvT tab) (h : Heap) (key nonce : List UInt8) (count : U32) (hk : key.length = 32) (hn : nonce.length = 12) :
    ACallN E.toEnv n_chacha_Block [.agg (key.map u8V).toArray, .int .u32 count.toNat, .agg (nonce.map u8V).toArray] h fun r h' => h.le h' ∧ r = .agg (row8 (blockF key count nonce) 64).toArray := by
  refine acall h_chacha_Block ir_chacha_Block rfl rfl (wpA_sound ?_)
  unfold ir_chacha_Block
  have hk' : (key.map u8V).length = 32 := by simp [hk]
  have hn' : (nonce.map u8V).length = 12 := by simp [hn]
  unfold blockF
  simp -implicitDefEqProofs only [zB1,zB2,zB3,zB4,zB5,zB6,zB7,zB8,zB9,zB10,zB11,y00,y01,y02,y03,y04,y05,y06,y07,y08,y09,y0a,y0b,y0c,y0d,y0e,y0f,y0g,y0h,y0i,y0j,y0k,y0l,y0m,y0n,y0o,y0p,y0q,y0r,y0s,y0t,y0u,y0v,y0w,y0x,y0y,y0z,y10,y11,y12,y13,y14,y15,y16,y17,y18,y19,y1a,y1b,y1c,y1d,y1e,y1f,y1g,y1h,y1i,y1j,y1k,y1l,y1m,y1n,y1o,y1p,y1q,y1r,retO,retL,retV,z69,allV,allP,z6a,z6d,z6e,z6k,z6l,z6m,binV,eqV,unV,oOpt,reduceIte,reduceCtorEq,Nat.reduceEqDiff,Nat.reduceAdd,Nat.reduceMul,Nat.reduceLT,Nat.reduceSub,Int.reduceLT,Int.reduceLE,Int.reduceEq,Int.reduceNe,Int.reduceSub,Int.reduceAdd,Int.reduceMul,Int.reduceBEq,Int.reduceBNe,Int.reduceGT,Int.reduceGE,Nat.reduceGT,Int.reduceToNat,Int.reduceNeg,Nat.reduceLeDiff,Nat.reduceBEq,Nat.reduceBneDiff,Value.cells, hk', hn', List.length_replicate]
  intro b3 hb3 b5 hb5 b6 hb6
  obtain ⟨n53, hb5'⟩ := Heap.set_none.1 hb5
  obtain ⟨n65, hb6a⟩ := Heap.set_none.1 hb6
  obtain ⟨n63, hb6'⟩ := Heap.set_none.1 hb6a
  have le1 : h.le (((h.set b3 (.own 0 (key.map u8V) 32)).set b5 (.own 0 (nonce.map u8V) 12)).set b6 (.own 0 (List.replicate 64 (.int .u8 0)) 64)) := Heap.le_set (Heap.le_set (Heap.le_set (Heap.le_refl _) hb3 _) hb5' _) hb6' _
  have l3 : hcells (((h.set b3 (.own 0 (key.map u8V) 32)).set b5 (.own 0 (nonce.map u8V) 12)).set b6 (.own 0 (List.replicate 64 (.int .u8 0)) 64)) ⟨b3, 0, none⟩ 32 = some (key.map u8V) := hcells_own0 (set_keep (set_keep (Heap.set_self _ _ _) (Ne.symm n53)) (Ne.symm n63)) hk'
  have l5 : hcells (((h.set b3 (.own 0 (key.map u8V) 32)).set b5 (.own 0 (nonce.map u8V) 12)).set b6 (.own 0 (List.replicate 64 (.int .u8 0)) 64)) ⟨b5, 0, none⟩ 12 = some (nonce.map u8V) := hcells_own0 (set_keep (Heap.set_self _ _ _) (Ne.symm n65)) hn'
  have q6 : (((h.set b3 (.own 0 (key.map u8V) 32)).set b5 (.own 0 (nonce.map u8V) 12)).set b6 (.own 0 (List.replicate 64 (.int .u8 0)) 64)) b6 = some (.own 0 (List.replicate 64 (.int .u8 0)) 64) := Heap.set_self _ _ _
  generalize (((h.set b3 (.own 0 (key.map u8V) 32)).set b5 (.own 0 (nonce.map u8V) 12)).set b6 (.own 0 (List.replicate 64 (.int .u8 0)) 64)) = h1 at le1 l3 l5 q6 ⊢
  try simp -implicitDefEqProofs only [zB1,zB2,zB3,zB4,zB5,zB6,zB7,zB8,zB9,zB10,zB11,y00,y01,y02,y03,y04,y05,y06,y07,y08,y09,y0a,y0b,y0c,y0d,y0e,y0f,y0g,y0h,y0i,y0j,y0k,y0l,y0m,y0n,y0o,y0p,y0q,y0r,y0s,y0t,y0u,y0v,y0w,y0x,y0y,y0z,y10,y11,y12,y13,y14,y15,y16,y17,y18,y19,y1a,y1b,y1c,y1d,y1e,y1f,y1g,y1h,y1i,y1j,y1k,y1l,y1m,y1n,y1o,y1p,y1q,y1r,retO,retL,retV,z69,allV,allP,z6a,z6d,z6e,z6k,z6l,z6m,binV,eqV,unV,oOpt,reduceIte,reduceCtorEq,Nat.reduceEqDiff,Nat.reduceAdd,Nat.reduceMul,Nat.reduceLT,Nat.reduceSub,Int.reduceLT,Int.reduceLE,Int.reduceEq,Int.reduceNe,Int.reduceSub,Int.reduceAdd,Int.reduceMul,Int.reduceBEq,Int.reduceBNe,Int.reduceGT,Int.reduceGE,Nat.reduceGT,Int.reduceToNat,Int.reduceNeg,Nat.reduceLeDiff,Nat.reduceBEq,Nat.reduceBneDiff,Value.cells, l3, l5]
  refine (chacha_state_c E _ key nonce count hk hn).mono ?_
  rintro r h2 ⟨le2, rfl⟩
  generalize stateF key count nonce = st
  have le02 := Heap.le_trans le1 le2
  have q62 := le2 _ _ q6
  simp -implicitDefEqProofs only [zB1,zB2,zB3,zB4,zB5,zB6,zB7,zB8,zB9,zB10,zB11,y00,y01,y02,y03,y04,y05,y06,y07,y08,y09,y0a,y0b,y0c,y0d,y0e,y0f,y0g,y0h,y0i,y0j,y0k,y0l,y0m,y0n,y0o,y0p,y0q,y0r,y0s,y0t,y0u,y0v,y0w,y0x,y0y,y0z,y10,y11,y12,y13,y14,y15,y16,y17,y18,y19,y1a,y1b,y1c,y1d,y1e,y1f,y1g,y1h,y1i,y1j,y1k,y1l,y1m,y1n,y1o,y1p,y1q,y1r,retO,retL,retV,z69,allV,allP,z6a,z6d,z6e,z6k,z6l,z6m,binV,eqV,unV,oOpt,reduceIte,reduceCtorEq,Nat.reduceEqDiff,Nat.reduceAdd,Nat.reduceMul,Nat.reduceLT,Nat.reduceSub,Int.reduceLT,Int.reduceLE,Int.reduceEq,Int.reduceNe,Int.reduceSub,Int.reduceAdd,Int.reduceMul,Int.reduceBEq,Int.reduceBNe,Int.reduceGT,Int.reduceGE,Nat.reduceGT,Int.reduceToNat,Int.reduceNeg,Nat.reduceLeDiff,Nat.reduceBEq,Nat.reduceBneDiff,Value.cells, List.length_replicate]
  intro b7 hb7
  have s7 : storeV (h2.set b7 (.own 0 (List.replicate 16 (.int .u32 0)) 16)) 16 (.pointer (some ⟨b7, 0, none⟩)) (.agg (rowU st 16).toArray) = some (h2.set b7 (.own 0 (rowU st 16) 16)) := z6q (by omega) (rowU_len _ _) (rowU_one _ _) (by simp) (by omega)
  have le7 := Heap.le_new le02 hb7 (.own 0 (rowU st 16) 16)
  have q67 := set_new (X := .own 0 (rowU st 16) 16) hb7 q62
  have q77 := Heap.set_self h2 b7 (.own 0 (rowU st 16) 16)
  have l7 := rowU_cells q77
  simp -implicitDefEqProofs only [zB1,zB2,zB3,zB4,zB5,zB6,zB7,zB8,zB9,zB10,zB11,y00,y01,y02,y03,y04,y05,y06,y07,y08,y09,y0a,y0b,y0c,y0d,y0e,y0f,y0g,y0h,y0i,y0j,y0k,y0l,y0m,y0n,y0o,y0p,y0q,y0r,y0s,y0t,y0u,y0v,y0w,y0x,y0y,y0z,y10,y11,y12,y13,y14,y15,y16,y17,y18,y19,y1a,y1b,y1c,y1d,y1e,y1f,y1g,y1h,y1i,y1j,y1k,y1l,y1m,y1n,y1o,y1p,y1q,y1r,retO,retL,retV,z69,allV,allP,z6a,z6d,z6e,z6k,z6l,z6m,binV,eqV,unV,oOpt,reduceIte,reduceCtorEq,Nat.reduceEqDiff,Nat.reduceAdd,Nat.reduceMul,Nat.reduceLT,Nat.reduceSub,Int.reduceLT,Int.reduceLE,Int.reduceEq,Int.reduceNe,Int.reduceSub,Int.reduceAdd,Int.reduceMul,Int.reduceBEq,Int.reduceBNe,Int.reduceGT,Int.reduceGE,Nat.reduceGT,Int.reduceToNat,Int.reduceNeg,Nat.reduceLeDiff,Nat.reduceBEq,Nat.reduceBneDiff,Value.cells, s7, l7, List.length_replicate]
  generalize (h2.set b7 (.own 0 (rowU st 16) 16)) = h3 at le7 q67 q77 ⊢
  intro b8 hb8
  have s8 : storeV (h3.set b8 (.own 0 (List.replicate 16 (.int .u32 0)) 16)) 16 (.pointer (some ⟨b8, 0, none⟩)) (.agg (rowU st 16).toArray) = some (h3.set b8 (.own 0 (rowU st 16) 16)) := z6q (by omega) (rowU_len _ _) (rowU_one _ _) (by simp) (by omega)
  have le8 := Heap.le_new le7 hb8 (.own 0 (rowU st 16) 16)
  have q68 := set_new (X := .own 0 (rowU st 16) 16) hb8 q67
  have q78 := set_new (X := .own 0 (rowU st 16) 16) hb8 q77
  have q88 := Heap.set_self h3 b8 (.own 0 (rowU st 16) 16)
  have n68 := ne_of_none hb8 q67
  have n78 := ne_of_none hb8 q77
  have hb8' := Heap.none_of_le le7 hb8
  simp -implicitDefEqProofs only [zB1,zB2,zB3,zB4,zB5,zB6,zB7,zB8,zB9,zB10,zB11,y00,y01,y02,y03,y04,y05,y06,y07,y08,y09,y0a,y0b,y0c,y0d,y0e,y0f,y0g,y0h,y0i,y0j,y0k,y0l,y0m,y0n,y0o,y0p,y0q,y0r,y0s,y0t,y0u,y0v,y0w,y0x,y0y,y0z,y10,y11,y12,y13,y14,y15,y16,y17,y18,y19,y1a,y1b,y1c,y1d,y1e,y1f,y1g,y1h,y1i,y1j,y1k,y1l,y1m,y1n,y1o,y1p,y1q,y1r,retO,retL,retV,z69,allV,allP,z6a,z6d,z6e,z6k,z6l,z6m,binV,eqV,unV,oOpt,reduceIte,reduceCtorEq,Nat.reduceEqDiff,Nat.reduceAdd,Nat.reduceMul,Nat.reduceLT,Nat.reduceSub,Int.reduceLT,Int.reduceLE,Int.reduceEq,Int.reduceNe,Int.reduceSub,Int.reduceAdd,Int.reduceMul,Int.reduceBEq,Int.reduceBNe,Int.reduceGT,Int.reduceGE,Nat.reduceGT,Int.reduceToNat,Int.reduceNeg,Nat.reduceLeDiff,Nat.reduceBEq,Nat.reduceBneDiff,Value.cells, s8]
  generalize (h3.set b8 (.own 0 (rowU st 16) 16)) = h4 at le8 q68 q78 q88 ⊢
  refine wp_loop' (fun m t H => h.le H ∧ ∃ n : Nat, n ≤ 10 ∧ m = 10 - n ∧ t = tl [(6, .pointer (some ⟨b6, 0, none⟩)), (7, .pointer (some ⟨b7, 0, none⟩)), (8, .pointer (some ⟨b8, 0, none⟩)), (18, .int .i64 n)] ∧
      H b6 = some (.own 0 (List.replicate 64 (.int .u8 0)) 64) ∧ H b7 = some (.own 0 (rowU st 16) 16) ∧ H b8 = some (.own 0 (rowU (roundsF st n) 16) 16)) 10
    ⟨le8, 0, by omega, rfl, rfl, q68, q78, q88⟩ ?_
  clear q68 q78 q88 le8 l7 l3 l5
  rintro m t H ⟨leH, n, hn10, rfl, rfl, q6, q7, q8⟩
  by_cases hlt : (n : Int) < 10
  · simp -implicitDefEqProofs only [zB1,zB2,zB3,zB4,zB5,zB6,zB7,zB8,zB9,zB10,zB11,y00,y01,y02,y03,y04,y05,y06,y07,y08,y09,y0a,y0b,y0c,y0d,y0e,y0f,y0g,y0h,y0i,y0j,y0k,y0l,y0m,y0n,y0o,y0p,y0q,y0r,y0s,y0t,y0u,y0v,y0w,y0x,y0y,y0z,y10,y11,y12,y13,y14,y15,y16,y17,y18,y19,y1a,y1b,y1c,y1d,y1e,y1f,y1g,y1h,y1i,y1j,y1k,y1l,y1m,y1n,y1o,y1p,y1q,y1r,retO,retL,retV,z69,allV,allP,z6a,z6d,z6e,z6k,z6l,z6m,binV,eqV,unV,oOpt,reduceIte,reduceCtorEq,Nat.reduceEqDiff,Nat.reduceAdd,Nat.reduceMul,Nat.reduceLT,Nat.reduceSub,Int.reduceLT,Int.reduceLE,Int.reduceEq,Int.reduceNe,Int.reduceSub,Int.reduceAdd,Int.reduceMul,Int.reduceBEq,Int.reduceBNe,Int.reduceGT,Int.reduceGE,Nat.reduceGT,Int.reduceToNat,Int.reduceNeg,Nat.reduceLeDiff,Nat.reduceBEq,Nat.reduceBneDiff,Value.cells, hlt]
    unfold ir_chacha_Block_q
    simp -implicitDefEqProofs only [zB1,zB2,zB3,zB4,zB5,zB6,zB7,zB8,zB9,zB10,zB11,y00,y01,y02,y03,y04,y05,y06,y07,y08,y09,y0a,y0b,y0c,y0d,y0e,y0f,y0g,y0h,y0i,y0j,y0k,y0l,y0m,y0n,y0o,y0p,y0q,y0r,y0s,y0t,y0u,y0v,y0w,y0x,y0y,y0z,y10,y11,y12,y13,y14,y15,y16,y17,y18,y19,y1a,y1b,y1c,y1d,y1e,y1f,y1g,y1h,y1i,y1j,y1k,y1l,y1m,y1n,y1o,y1p,y1q,y1r,retO,retL,retV,z69,allV,allP,z6a,z6d,z6e,z6k,z6l,z6m,binV,eqV,unV,oOpt,reduceIte,reduceCtorEq,Nat.reduceEqDiff,Nat.reduceAdd,Nat.reduceMul,Nat.reduceLT,Nat.reduceSub,Int.reduceLT,Int.reduceLE,Int.reduceEq,Int.reduceNe,Int.reduceSub,Int.reduceAdd,Int.reduceMul,Int.reduceBEq,Int.reduceBNe,Int.reduceGT,Int.reduceGE,Nat.reduceGT,Int.reduceToNat,Int.reduceNeg,Nat.reduceLeDiff,Nat.reduceBEq,Nat.reduceBneDiff,Value.cells]
    refine wp_loop' (fun m t H => h.le H ∧ ∃ i : Nat, i ≤ 4 ∧ m = 4 - i ∧ t = tl [(6, .pointer (some ⟨b6, 0, none⟩)), (7, .pointer (some ⟨b7, 0, none⟩)), (8, .pointer (some ⟨b8, 0, none⟩)), (18, .int .i64 n), (20, .int .i64 i)] ∧
        H b6 = some (.own 0 (List.replicate 64 (.int .u8 0)) 64) ∧ H b7 = some (.own 0 (rowU st 16) 16) ∧ H b8 = some (.own 0 (rowU (colsN (roundsF st n) i) 16) 16)) 4
      ⟨leH, 0, by omega, rfl, rfl, q6, q7, q8⟩ ?_
    clear q6 q7 q8 leH
    rintro m t H ⟨leH, i, hi, rfl, rfl, q6, q7, q8⟩
    by_cases hli : (i : Int) < 4
    · have w1 : IntKind.i64.wrap (4 + (i : Int)) = ((4 + i : Nat) : Int) := by rw [wrapI (by omega) (by omega)]; rfl
      have w2 : IntKind.i64.wrap (8 + (i : Int)) = ((8 + i : Nat) : Int) := by rw [wrapI (by omega) (by omega)]; rfl
      have w3 : IntKind.i64.wrap (12 + (i : Int)) = ((12 + i : Nat) : Int) := by rw [wrapI (by omega) (by omega)]; rfl
      have w7 : IntKind.i64.wrap ((i : Int) + 1) = ((i + 1 : Nat) : Int) := wrapN (by omega)
      simp -implicitDefEqProofs only [zB1,zB2,zB3,zB4,zB5,zB6,zB7,zB8,zB9,zB10,zB11,y00,y01,y02,y03,y04,y05,y06,y07,y08,y09,y0a,y0b,y0c,y0d,y0e,y0f,y0g,y0h,y0i,y0j,y0k,y0l,y0m,y0n,y0o,y0p,y0q,y0r,y0s,y0t,y0u,y0v,y0w,y0x,y0y,y0z,y10,y11,y12,y13,y14,y15,y16,y17,y18,y19,y1a,y1b,y1c,y1d,y1e,y1f,y1g,y1h,y1i,y1j,y1k,y1l,y1m,y1n,y1o,y1p,y1q,y1r,retO,retL,retV,z69,allV,allP,z6a,z6d,z6e,z6k,z6l,z6m,binV,eqV,unV,oOpt,reduceIte,reduceCtorEq,Nat.reduceEqDiff,Nat.reduceAdd,Nat.reduceMul,Nat.reduceLT,Nat.reduceSub,Int.reduceLT,Int.reduceLE,Int.reduceEq,Int.reduceNe,Int.reduceSub,Int.reduceAdd,Int.reduceMul,Int.reduceBEq,Int.reduceBNe,Int.reduceGT,Int.reduceGE,Nat.reduceGT,Int.reduceToNat,Int.reduceNeg,Nat.reduceLeDiff,Nat.reduceBEq,Nat.reduceBneDiff,Value.cells, hli, w1, w2, w3]
      refine (chacha_mix_c E q8 i (4 + i) (8 + i) (12 + i) (by omega) (by omega) (by omega) (by omega)).mono ?_
      rintro r H' ⟨rfl, rfl⟩
      simp -implicitDefEqProofs only [zB1,zB2,zB3,zB4,zB5,zB6,zB7,zB8,zB9,zB10,zB11,y00,y01,y02,y03,y04,y05,y06,y07,y08,y09,y0a,y0b,y0c,y0d,y0e,y0f,y0g,y0h,y0i,y0j,y0k,y0l,y0m,y0n,y0o,y0p,y0q,y0r,y0s,y0t,y0u,y0v,y0w,y0x,y0y,y0z,y10,y11,y12,y13,y14,y15,y16,y17,y18,y19,y1a,y1b,y1c,y1d,y1e,y1f,y1g,y1h,y1i,y1j,y1k,y1l,y1m,y1n,y1o,y1p,y1q,y1r,retO,retL,retV,z69,allV,allP,z6a,z6d,z6e,z6k,z6l,z6m,binV,eqV,unV,oOpt,reduceIte,reduceCtorEq,Nat.reduceEqDiff,Nat.reduceAdd,Nat.reduceMul,Nat.reduceLT,Nat.reduceSub,Int.reduceLT,Int.reduceLE,Int.reduceEq,Int.reduceNe,Int.reduceSub,Int.reduceAdd,Int.reduceMul,Int.reduceBEq,Int.reduceBNe,Int.reduceGT,Int.reduceGE,Nat.reduceGT,Int.reduceToNat,Int.reduceNeg,Nat.reduceLeDiff,Nat.reduceBEq,Nat.reduceBneDiff,Value.cells, w7]
      exact ⟨_, by omega, Heap.le_set leH hb8' _, i + 1, by omega, rfl, rfl, set_keep q6 n68, set_keep q7 n78, Heap.set_self _ _ _⟩
    · obtain rfl : i = 4 := by omega
      simp -implicitDefEqProofs only [zB1,zB2,zB3,zB4,zB5,zB6,zB7,zB8,zB9,zB10,zB11,y00,y01,y02,y03,y04,y05,y06,y07,y08,y09,y0a,y0b,y0c,y0d,y0e,y0f,y0g,y0h,y0i,y0j,y0k,y0l,y0m,y0n,y0o,y0p,y0q,y0r,y0s,y0t,y0u,y0v,y0w,y0x,y0y,y0z,y10,y11,y12,y13,y14,y15,y16,y17,y18,y19,y1a,y1b,y1c,y1d,y1e,y1f,y1g,y1h,y1i,y1j,y1k,y1l,y1m,y1n,y1o,y1p,y1q,y1r,retO,retL,retV,z69,allV,allP,z6a,z6d,z6e,z6k,z6l,z6m,binV,eqV,unV,oOpt,reduceIte,reduceCtorEq,Nat.reduceEqDiff,Nat.reduceAdd,Nat.reduceMul,Nat.reduceLT,Nat.reduceSub,Int.reduceLT,Int.reduceLE,Int.reduceEq,Int.reduceNe,Int.reduceSub,Int.reduceAdd,Int.reduceMul,Int.reduceBEq,Int.reduceBNe,Int.reduceGT,Int.reduceGE,Nat.reduceGT,Int.reduceToNat,Int.reduceNeg,Nat.reduceLeDiff,Nat.reduceBEq,Nat.reduceBneDiff,Value.cells, hli]
      unfold ir_chacha_Block_33
      simp -implicitDefEqProofs only [zB1,zB2,zB3,zB4,zB5,zB6,zB7,zB8,zB9,zB10,zB11,y00,y01,y02,y03,y04,y05,y06,y07,y08,y09,y0a,y0b,y0c,y0d,y0e,y0f,y0g,y0h,y0i,y0j,y0k,y0l,y0m,y0n,y0o,y0p,y0q,y0r,y0s,y0t,y0u,y0v,y0w,y0x,y0y,y0z,y10,y11,y12,y13,y14,y15,y16,y17,y18,y19,y1a,y1b,y1c,y1d,y1e,y1f,y1g,y1h,y1i,y1j,y1k,y1l,y1m,y1n,y1o,y1p,y1q,y1r,retO,retL,retV,z69,allV,allP,z6a,z6d,z6e,z6k,z6l,z6m,binV,eqV,unV,oOpt,reduceIte,reduceCtorEq,Nat.reduceEqDiff,Nat.reduceAdd,Nat.reduceMul,Nat.reduceLT,Nat.reduceSub,Int.reduceLT,Int.reduceLE,Int.reduceEq,Int.reduceNe,Int.reduceSub,Int.reduceAdd,Int.reduceMul,Int.reduceBEq,Int.reduceBNe,Int.reduceGT,Int.reduceGE,Nat.reduceGT,Int.reduceToNat,Int.reduceNeg,Nat.reduceLeDiff,Nat.reduceBEq,Nat.reduceBneDiff,Value.cells]
      refine wp_loop' (fun m t H => h.le H ∧ ∃ i : Nat, i ≤ 4 ∧ m = 4 - i ∧ t = tl [(6, .pointer (some ⟨b6, 0, none⟩)), (7, .pointer (some ⟨b7, 0, none⟩)), (8, .pointer (some ⟨b8, 0, none⟩)), (18, .int .i64 n), (32, .int .i64 i)] ∧
          H b6 = some (.own 0 (List.replicate 64 (.int .u8 0)) 64) ∧ H b7 = some (.own 0 (rowU st 16) 16) ∧ H b8 = some (.own 0 (rowU (diagN (colsN (roundsF st n) 4) i) 16) 16)) 4
        ⟨leH, 0, by omega, rfl, rfl, q6, q7, q8⟩ ?_
      clear q6 q7 q8 leH hli hi
      rintro m t H ⟨leH, i, hi, rfl, rfl, q6, q7, q8⟩
      by_cases hli : (i : Int) < 4
      · have w7 : IntKind.i64.wrap ((i : Int) + 1) = ((i + 1 : Nat) : Int) := wrapN (by omega)
        have w8 : IntKind.i64.wrap ((i : Int) + 2) = ((i + 2 : Nat) : Int) := by rw [wrapI (by omega) (by omega)]; rfl
        have w9 : IntKind.i64.wrap ((i : Int) + 3) = ((i + 3 : Nat) : Int) := by rw [wrapI (by omega) (by omega)]; rfl
        have r1 : IntKind.i64.wrap (((i + 1) % 4 : Nat) : Int) = (((i + 1) % 4 : Nat) : Int) := wrapI (by omega) (by omega)
        have r2 : IntKind.i64.wrap (((i + 2) % 4 : Nat) : Int) = (((i + 2) % 4 : Nat) : Int) := wrapI (by omega) (by omega)
        have r3 : IntKind.i64.wrap (((i + 3) % 4 : Nat) : Int) = (((i + 3) % 4 : Nat) : Int) := wrapI (by omega) (by omega)
        have w1 : IntKind.i64.wrap (4 + (((i + 1) % 4 : Nat) : Int)) = ((4 + (i + 1) % 4 : Nat) : Int) := by rw [wrapI (by omega) (by omega)]; rfl
        have w2 : IntKind.i64.wrap (8 + (((i + 2) % 4 : Nat) : Int)) = ((8 + (i + 2) % 4 : Nat) : Int) := by rw [wrapI (by omega) (by omega)]; rfl
        have w3 : IntKind.i64.wrap (12 + (((i + 3) % 4 : Nat) : Int)) = ((12 + (i + 3) % 4 : Nat) : Int) := by rw [wrapI (by omega) (by omega)]; rfl
        simp -implicitDefEqProofs only [zB1,zB2,zB3,zB4,zB5,zB6,zB7,zB8,zB9,zB10,zB11,y00,y01,y02,y03,y04,y05,y06,y07,y08,y09,y0a,y0b,y0c,y0d,y0e,y0f,y0g,y0h,y0i,y0j,y0k,y0l,y0m,y0n,y0o,y0p,y0q,y0r,y0s,y0t,y0u,y0v,y0w,y0x,y0y,y0z,y10,y11,y12,y13,y14,y15,y16,y17,y18,y19,y1a,y1b,y1c,y1d,y1e,y1f,y1g,y1h,y1i,y1j,y1k,y1l,y1m,y1n,y1o,y1p,y1q,y1r,retO,retL,retV,z69,allV,allP,z6a,z6d,z6e,z6k,z6l,z6m,binV,eqV,unV,oOpt,reduceIte,reduceCtorEq,Nat.reduceEqDiff,Nat.reduceAdd,Nat.reduceMul,Nat.reduceLT,Nat.reduceSub,Int.reduceLT,Int.reduceLE,Int.reduceEq,Int.reduceNe,Int.reduceSub,Int.reduceAdd,Int.reduceMul,Int.reduceBEq,Int.reduceBNe,Int.reduceGT,Int.reduceGE,Nat.reduceGT,Int.reduceToNat,Int.reduceNeg,Nat.reduceLeDiff,Nat.reduceBEq,Nat.reduceBneDiff,Value.cells, hli, w7, w8, w9, tmod4, r1, r2, r3, w1, w2, w3]
        refine (chacha_mix_c E q8 i (4 + (i + 1) % 4) (8 + (i + 2) % 4) (12 + (i + 3) % 4) (by omega) (by omega) (by omega) (by omega)).mono ?_
        rintro r H' ⟨rfl, rfl⟩
        simp -implicitDefEqProofs only [zB1,zB2,zB3,zB4,zB5,zB6,zB7,zB8,zB9,zB10,zB11,y00,y01,y02,y03,y04,y05,y06,y07,y08,y09,y0a,y0b,y0c,y0d,y0e,y0f,y0g,y0h,y0i,y0j,y0k,y0l,y0m,y0n,y0o,y0p,y0q,y0r,y0s,y0t,y0u,y0v,y0w,y0x,y0y,y0z,y10,y11,y12,y13,y14,y15,y16,y17,y18,y19,y1a,y1b,y1c,y1d,y1e,y1f,y1g,y1h,y1i,y1j,y1k,y1l,y1m,y1n,y1o,y1p,y1q,y1r,retO,retL,retV,z69,allV,allP,z6a,z6d,z6e,z6k,z6l,z6m,binV,eqV,unV,oOpt,reduceIte,reduceCtorEq,Nat.reduceEqDiff,Nat.reduceAdd,Nat.reduceMul,Nat.reduceLT,Nat.reduceSub,Int.reduceLT,Int.reduceLE,Int.reduceEq,Int.reduceNe,Int.reduceSub,Int.reduceAdd,Int.reduceMul,Int.reduceBEq,Int.reduceBNe,Int.reduceGT,Int.reduceGE,Nat.reduceGT,Int.reduceToNat,Int.reduceNeg,Nat.reduceLeDiff,Nat.reduceBEq,Nat.reduceBneDiff,Value.cells, w7]
        exact ⟨_, by omega, Heap.le_set leH hb8' _, i + 1, by omega, rfl, rfl, set_keep q6 n68, set_keep q7 n78, Heap.set_self _ _ _⟩
      · obtain rfl : i = 4 := by omega
        have w7 : IntKind.i64.wrap ((n : Int) + 1) = ((n + 1 : Nat) : Int) := wrapN (by omega)
        simp -implicitDefEqProofs only [zB1,zB2,zB3,zB4,zB5,zB6,zB7,zB8,zB9,zB10,zB11,y00,y01,y02,y03,y04,y05,y06,y07,y08,y09,y0a,y0b,y0c,y0d,y0e,y0f,y0g,y0h,y0i,y0j,y0k,y0l,y0m,y0n,y0o,y0p,y0q,y0r,y0s,y0t,y0u,y0v,y0w,y0x,y0y,y0z,y10,y11,y12,y13,y14,y15,y16,y17,y18,y19,y1a,y1b,y1c,y1d,y1e,y1f,y1g,y1h,y1i,y1j,y1k,y1l,y1m,y1n,y1o,y1p,y1q,y1r,retO,retL,retV,z69,allV,allP,z6a,z6d,z6e,z6k,z6l,z6m,binV,eqV,unV,oOpt,reduceIte,reduceCtorEq,Nat.reduceEqDiff,Nat.reduceAdd,Nat.reduceMul,Nat.reduceLT,Nat.reduceSub,Int.reduceLT,Int.reduceLE,Int.reduceEq,Int.reduceNe,Int.reduceSub,Int.reduceAdd,Int.reduceMul,Int.reduceBEq,Int.reduceBNe,Int.reduceGT,Int.reduceGE,Nat.reduceGT,Int.reduceToNat,Int.reduceNeg,Nat.reduceLeDiff,Nat.reduceBEq,Nat.reduceBneDiff,Value.cells, hli, w7]
        exact ⟨_, by omega, leH, n + 1, by omega, rfl, rfl, q6, q7, q8⟩
  · obtain rfl : n = 10 := by omega
    simp -implicitDefEqProofs only [zB1,zB2,zB3,zB4,zB5,zB6,zB7,zB8,zB9,zB10,zB11,y00,y01,y02,y03,y04,y05,y06,y07,y08,y09,y0a,y0b,y0c,y0d,y0e,y0f,y0g,y0h,y0i,y0j,y0k,y0l,y0m,y0n,y0o,y0p,y0q,y0r,y0s,y0t,y0u,y0v,y0w,y0x,y0y,y0z,y10,y11,y12,y13,y14,y15,y16,y17,y18,y19,y1a,y1b,y1c,y1d,y1e,y1f,y1g,y1h,y1i,y1j,y1k,y1l,y1m,y1n,y1o,y1p,y1q,y1r,retO,retL,retV,z69,allV,allP,z6a,z6d,z6e,z6k,z6l,z6m,binV,eqV,unV,oOpt,reduceIte,reduceCtorEq,Nat.reduceEqDiff,Nat.reduceAdd,Nat.reduceMul,Nat.reduceLT,Nat.reduceSub,Int.reduceLT,Int.reduceLE,Int.reduceEq,Int.reduceNe,Int.reduceSub,Int.reduceAdd,Int.reduceMul,Int.reduceBEq,Int.reduceBNe,Int.reduceGT,Int.reduceGE,Nat.reduceGT,Int.reduceToNat,Int.reduceNeg,Nat.reduceLeDiff,Nat.reduceBEq,Nat.reduceBneDiff,Value.cells, hlt]
    unfold ir_chacha_Block_q
    simp -implicitDefEqProofs only [zB1,zB2,zB3,zB4,zB5,zB6,zB7,zB8,zB9,zB10,zB11,y00,y01,y02,y03,y04,y05,y06,y07,y08,y09,y0a,y0b,y0c,y0d,y0e,y0f,y0g,y0h,y0i,y0j,y0k,y0l,y0m,y0n,y0o,y0p,y0q,y0r,y0s,y0t,y0u,y0v,y0w,y0x,y0y,y0z,y10,y11,y12,y13,y14,y15,y16,y17,y18,y19,y1a,y1b,y1c,y1d,y1e,y1f,y1g,y1h,y1i,y1j,y1k,y1l,y1m,y1n,y1o,y1p,y1q,y1r,retO,retL,retV,z69,allV,allP,z6a,z6d,z6e,z6k,z6l,z6m,binV,eqV,unV,oOpt,reduceIte,reduceCtorEq,Nat.reduceEqDiff,Nat.reduceAdd,Nat.reduceMul,Nat.reduceLT,Nat.reduceSub,Int.reduceLT,Int.reduceLE,Int.reduceEq,Int.reduceNe,Int.reduceSub,Int.reduceAdd,Int.reduceMul,Int.reduceBEq,Int.reduceBNe,Int.reduceGT,Int.reduceGE,Nat.reduceGT,Int.reduceToNat,Int.reduceNeg,Nat.reduceLeDiff,Nat.reduceBEq,Nat.reduceBneDiff,Value.cells, List.length_replicate]
    intro b11 hb11
    rw [blend8_0 (bytesF (coutF st)) 64]
    have hb11' := Heap.none_of_le leH hb11
    have n611 := ne_of_none hb11 q6
    have n711 := ne_of_none hb11 q7
    have n811 := ne_of_none hb11 q8
    unfold ir_chacha_Block_51
    simp -implicitDefEqProofs only [zB1,zB2,zB3,zB4,zB5,zB6,zB7,zB8,zB9,zB10,zB11,y00,y01,y02,y03,y04,y05,y06,y07,y08,y09,y0a,y0b,y0c,y0d,y0e,y0f,y0g,y0h,y0i,y0j,y0k,y0l,y0m,y0n,y0o,y0p,y0q,y0r,y0s,y0t,y0u,y0v,y0w,y0x,y0y,y0z,y10,y11,y12,y13,y14,y15,y16,y17,y18,y19,y1a,y1b,y1c,y1d,y1e,y1f,y1g,y1h,y1i,y1j,y1k,y1l,y1m,y1n,y1o,y1p,y1q,y1r,retO,retL,retV,z69,allV,allP,z6a,z6d,z6e,z6k,z6l,z6m,binV,eqV,unV,oOpt,reduceIte,reduceCtorEq,Nat.reduceEqDiff,Nat.reduceAdd,Nat.reduceMul,Nat.reduceLT,Nat.reduceSub,Int.reduceLT,Int.reduceLE,Int.reduceEq,Int.reduceNe,Int.reduceSub,Int.reduceAdd,Int.reduceMul,Int.reduceBEq,Int.reduceBNe,Int.reduceGT,Int.reduceGE,Nat.reduceGT,Int.reduceToNat,Int.reduceNeg,Nat.reduceLeDiff,Nat.reduceBEq,Nat.reduceBneDiff,Value.cells]
    have leP := Heap.le_new leH hb11 (.own 0 (row8 (blend8 (bytesF (coutF st)) 0) 64) 64)
    refine wp_loop' (fun m t H => h.le H ∧ ∃ i : Nat, i ≤ 16 ∧ m = 16 - i ∧ t = tl [(6, .pointer (some ⟨b6, 0, none⟩)), (7, .pointer (some ⟨b7, 0, none⟩)), (8, .pointer (some ⟨b8, 0, none⟩)), (11, .pointer (some ⟨b11, 0, none⟩)), (51, .int .i64 i)] ∧
        H b6 = some (.own 0 (List.replicate 64 (.int .u8 0)) 64) ∧ H b7 = some (.own 0 (rowU st 16) 16) ∧ H b8 = some (.own 0 (rowU (roundsF st 10) 16) 16) ∧ H b11 = some (.own 0 (row8 (blend8 (bytesF (coutF st)) (4 * i)) 64) 64)) 16
      ⟨leP, 0, by omega, rfl, rfl, set_new hb11 q6, set_new hb11 q7, set_new hb11 q8, Heap.set_self _ _ _⟩ ?_
    clear q6 q7 q8 leH leP hlt
    rintro m t H ⟨leH, i, hi, rfl, rfl, q6, q7, q8, q11⟩
    by_cases hlt : (i : Int) < 16
    · have hi' : i < 16 := by omega
      have e0 : (0 : Int) ≤ (i : Int) := by omega
      have c8 := rowU_at q8 hi'
      have c7 := rowU_at q7 hi'
      have w7 : IntKind.i64.wrap ((i : Int) + 1) = ((i + 1 : Nat) : Int) := wrapN (by omega)
      have w2 : IntKind.i64.wrap (4 * (i : Int)) = ((4 * i : Nat) : Int) := by rw [wrapI (by omega) (by omega)]; rfl
      have bd : bnds 64 64 (some (some (.int .i64 ((4 * i : Nat) : Int)))) none none = some (4 * i, 64, 64) := bnds_lo (by omega) (by omega)
      have ne : ¬ (64 = 4 * i) := by omega
      simp -implicitDefEqProofs only [zB1,zB2,zB3,zB4,zB5,zB6,zB7,zB8,zB9,zB10,zB11,y00,y01,y02,y03,y04,y05,y06,y07,y08,y09,y0a,y0b,y0c,y0d,y0e,y0f,y0g,y0h,y0i,y0j,y0k,y0l,y0m,y0n,y0o,y0p,y0q,y0r,y0s,y0t,y0u,y0v,y0w,y0x,y0y,y0z,y10,y11,y12,y13,y14,y15,y16,y17,y18,y19,y1a,y1b,y1c,y1d,y1e,y1f,y1g,y1h,y1i,y1j,y1k,y1l,y1m,y1n,y1o,y1p,y1q,y1r,retO,retL,retV,z69,allV,allP,z6a,z6d,z6e,z6k,z6l,z6m,binV,eqV,unV,oOpt,reduceIte,reduceCtorEq,Nat.reduceEqDiff,Nat.reduceAdd,Nat.reduceMul,Nat.reduceLT,Nat.reduceSub,Int.reduceLT,Int.reduceLE,Int.reduceEq,Int.reduceNe,Int.reduceSub,Int.reduceAdd,Int.reduceMul,Int.reduceBEq,Int.reduceBNe,Int.reduceGT,Int.reduceGE,Nat.reduceGT,Int.reduceToNat,Int.reduceNeg,Nat.reduceLeDiff,Nat.reduceBEq,Nat.reduceBneDiff,Value.cells, hlt, e0, Int.toNat_natCast, c8, c7, u32_add, u32_u64]
      refine (octet_Little_c E _ [] (by simp) (Ow.nil H H 1).sl ((coutF st i).setWidth 64) 4 (by omega)).mono ?_
      rintro r H2 ⟨le2, ow⟩
      rw [List.nil_append] at ow
      have so := ow.sl
      unfold SlB at so
      rw [littleF_len] at so
      obtain ⟨base, c, rfl⟩ := Sl.shape so
      have q11' := le2 _ _ q11
      simp -implicitDefEqProofs only [zB1,zB2,zB3,zB4,zB5,zB6,zB7,zB8,zB9,zB10,zB11,y00,y01,y02,y03,y04,y05,y06,y07,y08,y09,y0a,y0b,y0c,y0d,y0e,y0f,y0g,y0h,y0i,y0j,y0k,y0l,y0m,y0n,y0o,y0p,y0q,y0r,y0s,y0t,y0u,y0v,y0w,y0x,y0y,y0z,y10,y11,y12,y13,y14,y15,y16,y17,y18,y19,y1a,y1b,y1c,y1d,y1e,y1f,y1g,y1h,y1i,y1j,y1k,y1l,y1m,y1n,y1o,y1p,y1q,y1r,retO,retL,retV,z69,allV,allP,z6a,z6d,z6e,z6k,z6l,z6m,binV,eqV,unV,oOpt,reduceIte,reduceCtorEq,Nat.reduceEqDiff,Nat.reduceAdd,Nat.reduceMul,Nat.reduceLT,Nat.reduceSub,Int.reduceLT,Int.reduceLE,Int.reduceEq,Int.reduceNe,Int.reduceSub,Int.reduceAdd,Int.reduceMul,Int.reduceBEq,Int.reduceBNe,Int.reduceGT,Int.reduceGE,Nat.reduceGT,Int.reduceToNat,Int.reduceNeg,Nat.reduceLeDiff,Nat.reduceBEq,Nat.reduceBneDiff,Value.cells, w2, bd, ne, add_off', Nat.zero_add, Nat.mul_one, List.mem_cons, List.not_mem_nil, or_false, forall_eq, implies_true]
      refine copyP_own (size := 1) (m := 4) (o := 4 * i) q11' (by rw [row8_len]; omega) (by rw [row8_len]; omega) so (one_u8 _) ?_
      have et : ((littleF ((coutF st i).setWidth 64) 4).map u8V).take (min 4 (64 - 4 * i) * 1) = ((List.range 4).map fun k => bytesF (coutF st) (4 * i + k)).map u8V := by
        rw [List.take_of_length_le (by simp [littleF_len]; omega), bytesF_little]
      rw [et, blend8_put _ _ _ (by omega)]
      simp -implicitDefEqProofs only [zB1,zB2,zB3,zB4,zB5,zB6,zB7,zB8,zB9,zB10,zB11,y00,y01,y02,y03,y04,y05,y06,y07,y08,y09,y0a,y0b,y0c,y0d,y0e,y0f,y0g,y0h,y0i,y0j,y0k,y0l,y0m,y0n,y0o,y0p,y0q,y0r,y0s,y0t,y0u,y0v,y0w,y0x,y0y,y0z,y10,y11,y12,y13,y14,y15,y16,y17,y18,y19,y1a,y1b,y1c,y1d,y1e,y1f,y1g,y1h,y1i,y1j,y1k,y1l,y1m,y1n,y1o,y1p,y1q,y1r,retO,retL,retV,z69,allV,allP,z6a,z6d,z6e,z6k,z6l,z6m,binV,eqV,unV,oOpt,reduceIte,reduceCtorEq,Nat.reduceEqDiff,Nat.reduceAdd,Nat.reduceMul,Nat.reduceLT,Nat.reduceSub,Int.reduceLT,Int.reduceLE,Int.reduceEq,Int.reduceNe,Int.reduceSub,Int.reduceAdd,Int.reduceMul,Int.reduceBEq,Int.reduceBNe,Int.reduceGT,Int.reduceGE,Nat.reduceGT,Int.reduceToNat,Int.reduceNeg,Nat.reduceLeDiff,Nat.reduceBEq,Nat.reduceBneDiff,Value.cells, w7]
      exact ⟨_, by omega, Heap.le_set (Heap.le_trans leH le2) hb11' _, i + 1, by omega, rfl, rfl, set_keep (le2 _ _ q6) n611, set_keep (le2 _ _ q7) n711, set_keep (le2 _ _ q8) n811, Heap.set_self _ _ _⟩
    · obtain rfl : i = 16 := by omega
      have e64 : row8 (blend8 (bytesF (coutF st)) (4 * 16)) 64 = row8 (bytesF (coutF st)) 64 := blend8_all _ _
      rw [e64] at q11
      have l11 : hcells H ⟨b11, 0, none⟩ 64 = some (row8 (bytesF (coutF st)) 64) := hcells_own0 q11 (row8_len _ _)
      have s6 : storeV H 64 (.pointer (some ⟨b6, 0, none⟩)) (.agg (row8 (bytesF (coutF st)) 64).toArray) = some (H.set b6 (.own 0 (row8 (bytesF (coutF st)) 64) 64)) := storeV_agg_at q6 (by omega) (row8_len _ _) (by simp [row8, one]) (by simp) (by omega)
      have l6 : hcells (H.set b6 (.own 0 (row8 (bytesF (coutF st)) 64) 64)) ⟨b6, 0, none⟩ 64 = some (row8 (bytesF (coutF st)) 64) := z6o (row8_len _ _)
      simp -implicitDefEqProofs only [zB1,zB2,zB3,zB4,zB5,zB6,zB7,zB8,zB9,zB10,zB11,y00,y01,y02,y03,y04,y05,y06,y07,y08,y09,y0a,y0b,y0c,y0d,y0e,y0f,y0g,y0h,y0i,y0j,y0k,y0l,y0m,y0n,y0o,y0p,y0q,y0r,y0s,y0t,y0u,y0v,y0w,y0x,y0y,y0z,y10,y11,y12,y13,y14,y15,y16,y17,y18,y19,y1a,y1b,y1c,y1d,y1e,y1f,y1g,y1h,y1i,y1j,y1k,y1l,y1m,y1n,y1o,y1p,y1q,y1r,retO,retL,retV,z69,allV,allP,z6a,z6d,z6e,z6k,z6l,z6m,binV,eqV,unV,oOpt,reduceIte,reduceCtorEq,Nat.reduceEqDiff,Nat.reduceAdd,Nat.reduceMul,Nat.reduceLT,Nat.reduceSub,Int.reduceLT,Int.reduceLE,Int.reduceEq,Int.reduceNe,Int.reduceSub,Int.reduceAdd,Int.reduceMul,Int.reduceBEq,Int.reduceBNe,Int.reduceGT,Int.reduceGE,Nat.reduceGT,Int.reduceToNat,Int.reduceNeg,Nat.reduceLeDiff,Nat.reduceBEq,Nat.reduceBneDiff,Value.cells, hlt, l11, s6, l6]
      exact Heap.le_set leH hb6' _
end Go.Bb
/- The reckoner, for calls that tell rows of numbers. -/
namespace Go.Bb
set_option linter.unusedSimpArgs false
set_option linter.unusedVariables false
section
variable {tab : Nat → Option (Hint × AFunc)} {lf : Nat} {E : EnvT tab}

def isInt : Value → Bool
  | .int _ _ => true
  | _ => false
theorem all2_ints {fid : Nat → Option FuncId} {r : Rr} : ∀ {l l' : List Value}, All2 (VR0 fid r) l l' → l.all isInt = true → l' = l
  | _, _, .nil, _ => rfl
  | x :: l, y :: l', .cons h t, hi => by
      simp only [List.all_cons, Bool.and_eq_true] at hi
      rw [all2_ints t hi.2]
      congr 1
      have h2 := hi.1
      cases x <;> try (cases h2; done)
      cases h with | base h => cases h; rfl
end
end Go.Bb
/- Contracts: sums of bytes: the beginning. -/
namespace Go.Bb
set_option linter.unusedSimpArgs false
set_option linter.unusedVariables false
set_option maxRecDepth 20000

def constL : List Nat := [1116352408, 1899447441, 3049323471, 3921009573, 961987163, 1508970993, 2453635748, 2870763221, 3624381080, 310598401, 607225278, 1426881987, 1925078388, 2162078206, 2614888103, 3248222580, 3835390401, 4022224774, 264347078, 604807628, 770255983, 1249150122, 1555081692, 1996064986, 2554220882, 2821834349, 2952996808, 3210313671, 3336571891, 3584528711, 113926993, 338241895, 666307205, 773529912, 1294757372, 1396182291, 1695183700, 1986661051, 2177026350, 2456956037, 2730485921, 2820302411, 3259730800, 3345764771, 3516065817, 3600352804, 4094571909, 275423344, 430227734, 506948616, 659060556, 883997877, 958139571, 1322822218, 1537002063, 1747873779, 1955562222, 2024104815, 2227730452, 2361852424, 2428436474, 2756734187, 3204031479, 3329325298]
def constF : Nat → U32 := fun j => BitVec.ofNat 32 (constL.getD j 0)
/-- A sum so far. -/
def sumC (hs : Nat → U32) (v : Value) (n : Int) : List Value := rowU hs 8 ++ (rowU constF 64 ++ [v, .int .i64 n])
/-! ### blocks -/
/-! ### what is owned, beside one block -/
/-- A sum of these bytes. -/
structure SumR (h0 h : Heap) (bs : Nat) (hs : Nat → U32) (rest : List UInt8) (n : Nat) : Prop where
  new : h0 bs = none
  ex : ∃ v, h bs = some (.own 0 (sumC hs v n) 74) ∧ ∀ X, OwB (h0.set bs X) h v rest

end Go.Bb
/- Contracts: sums of bytes: bytes are added. -/
namespace Go.Bb
set_option linter.unusedSimpArgs false
set_option linter.unusedVariables false
set_option maxRecDepth 20000

end Go.Bb
/- Contracts: sums of bytes: the end. -/
namespace Go.Bb
set_option linter.unusedSimpArgs false
set_option linter.unusedVariables false
set_option maxRecDepth 20000

end Go.Bb
/- Contracts: sums of bytes: what is told. -/
namespace Go.Bb
set_option linter.unusedSimpArgs false
set_option linter.unusedVariables false
set_option maxRecDepth 20000

theorem SumR.le {h0 h h' : Heap} {bs : Nat} {hs : Nat → U32} {rest : List UInt8} {n : Nat} (p : SumR h0 h bs hs rest n) (x : h.le h') : SumR h0 h' bs hs rest n :=
  ⟨p.new, by obtain ⟨v, h1, h2⟩ := p.ex; exact ⟨v, x _ _ h1, fun X => (h2 X).le x⟩⟩

end Go.Bb
/- The reckoner with blocks mixed at once. -/
namespace Go.Bb
set_option linter.unusedSimpArgs false
set_option linter.unusedVariables false
set_option maxRecDepth 20000

/-! ### rows of words and bytes, read -/
theorem u8V_of' {n : Nat} (h : n < 256) : u8V (UInt8.ofNat n) = .int .u8 (.ofNat n) := by
  unfold u8V
  have : (UInt8.ofNat n).toNat = n := by rw [UInt8.toNat_ofNat']; omega
  rw [this]; rfl
def toB : List Value → Option (List UInt8)
  | [] => some []
  | .int .u8 (.ofNat x) :: t => bif Nat.blt x 256 then (toB t).map (UInt8.ofNat x :: ·) else none
  | _ => none
theorem toB_eq : ∀ {l : List Value} {w : List UInt8}, toB l = some w → l = w.map u8V ∧ l.all isInt = true
  | [], w, h => by simp only [toB, Option.some.injEq] at h; subst h; exact ⟨rfl, rfl⟩
  | x :: t, w, h => by
      unfold toB at h
      split at h
      · rename_i e; cases e
      · rename_i n t' e
        cases e
        cases hb : Nat.blt n 256 with
        | false => rw [hb] at h; cases h
        | true =>
          rw [hb] at h
          simp only [cond_true, Option.map_eq_some_iff] at h
          obtain ⟨w', h1, rfl⟩ := h
          obtain ⟨g1, g2⟩ := toB_eq h1
          have hn : n < 256 := Nat.le_of_ble_eq_true hb
          refine ⟨?_, by simp only [List.all_cons, isInt, Bool.true_and]; exact g2⟩
          rw [List.map_cons]
          have : u8V (UInt8.ofNat n) = .int .u8 (.ofNat n) := u8V_of' hn
          rw [this, ← g1]
      · cases h
end Go.Bb
/- The reckoner with blocks mixed at once: it is sound. -/
namespace Go.Bb
set_option linter.unusedSimpArgs false
set_option linter.unusedVariables false
set_option maxRecDepth 20000

theorem VR.agg_ints {fid : Nat → Option FuncId} {r : Rr} {a : Array Value} {v' : Value} (h : VR fid r (.agg a) v') (hi : a.toList.all isInt = true) : v' = .agg a := by
  cases h with
  | one h =>
    cases h with
    | one h => cases h with | base h => cases h with | plain hp => cases hp
    | agg h =>
      have := all2_ints h hi
      rw [Array.toList_inj] at this
      rw [this]

theorem all2_refl_ints {fid : Nat → Option FuncId} {r : Rr} : ∀ {l : List Value}, l.all isInt = true → All2 (VR0 fid r) l l
  | [], _ => .nil
  | x :: l, h => by
      simp only [List.all_cons, Bool.and_eq_true] at h
      refine .cons ?_ (all2_refl_ints h.2)
      have h2 := h.1
      cases x <;> try (cases h2; done)
      exact .base (.plain rfl)
theorem HS.le {fid : Nat → Option FuncId} {h0 : Heap} {r : Rr} {m : VM} {h h' : Heap} (p : HS fid h0 r m h) (x : h.le h') : HS fid h0 r m h' where
  blk := fun b y hy => by obtain ⟨k, z, a, b', c⟩ := p.blk b y hy; exact ⟨k, z, a, x _ _ b', c⟩
  inj := p.inj
  old := fun b y hy => x _ _ (p.old b y hy)
  own := p.own
  fresh := p.fresh
  room := p.room

end Go.Bb
