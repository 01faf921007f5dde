/- Reckoning: numbers. -/
import Derived.Test.YtgoifophjcbpaaaBbX
namespace Go.Bb
set_option linter.unusedVariables false
set_option linter.unusedSimpArgs false

theorem fNat_eq {α : Type} (n : Nat) (K : Nat → α) : fNat n K = K n := by cases n <;> rfl
theorem fInt_eq {α : Type} (n : Int) (K : Int → α) : fInt n K = K n := by cases n <;> simp [fInt, fNat_eq]
theorem mkInt_eq (k : IntKind) (n : Int) : mkInt k n = some (.int k n) := by simp [mkInt, fInt_eq]
theorem mkBool_eq (b : Bool) : mkBool b = some (.bool b) := by cases b <;> rfl
theorem mkPtr_eq (b o : Nat) : mkPtr b o = some (.pointer (some ⟨b, o, none⟩)) := by simp [mkPtr, fNat_eq]
theorem mkSl_some {a : Addr} {n c : Nat} {v : Value} (h : mkSl a n c = some v) : a.spot = none ∧ v = .slice (some a) n c := by
  obtain ⟨b, o, s⟩ := a
  cases s with
  | none => simp [mkSl, fNat_eq] at h; exact ⟨rfl, h.symm⟩
  | some s => simp [mkSl] at h

theorem wrap_ofNat_u {k : IntKind} (hs : k.signed = false) (n : Nat) : k.wrap (Int.ofNat n) = Int.ofNat (n % 2 ^ k.bits) := by
  unfold IntKind.wrap
  simp only [hs, Bool.false_and, Bool.false_eq_true, if_false]
  simp
theorem wrapE_eq (k : IntKind) (n : Int) : wrapE k n = k.wrap n := by
  cases n with
  | negSucc m => rfl
  | ofNat n =>
    cases k <;> simp only [wrapE]
    case i64 =>
      cases h : Nat.blt n 9223372036854775808 with
      | false => rfl
      | true =>
        have h' : n < 9223372036854775808 := by simp [Nat.blt] at h; omega
        simp only [cond_true]
        unfold IntKind.wrap
        simp only [IntKind.bits, IntKind.signed]
        have e : (Int.ofNat n) % (2 ^ 64 : Int) = Int.ofNat n := Int.emod_eq_of_lt (by simp) (by simp; omega)
        simp only [e]
        rw [if_neg]
        simp; omega
    all_goals (rw [wrap_ofNat_u rfl]; rfl)

theorem ltE_eq (a b : Int) : ltE a b = decide (a < b) := by
  cases a <;> cases b <;> simp only [ltE] <;> rw [Bool.eq_iff_iff] <;> simp [Nat.blt] <;> omega
theorem leE_eq (a b : Int) : leE a b = decide (a ≤ b) := by
  cases a <;> cases b <;> simp only [leE] <;> rw [Bool.eq_iff_iff] <;> simp [Nat.ble] <;> omega
theorem eqE_eq (a b : Int) : eqE a b = (a == b) := by
  cases a <;> cases b <;> simp only [eqE] <;> rw [Bool.eq_iff_iff] <;> simp <;> omega
theorem kEq_eq (k k' : IntKind) : kEq k k' = decide (k = k') := by cases k <;> cases k' <;> rfl

theorem bits_ofNat (w : Nat) (a : Nat) : (BitVec.ofInt w (Int.ofNat a)).toNat = a % 2 ^ w := by
  simp [BitVec.toNat_ofInt]

theorem bitsE_some {f : Nat → Nat → Nat} {op : BinOp} {k : IntKind} {a b : Int} {v : Value}
    (hop : ∀ (k : IntKind) (a b : Nat), k.signed = false → binV op (.int k (.ofNat a)) (.int k (.ofNat b)) = some (.int k (.ofNat (f (a % 2 ^ k.bits) (b % 2 ^ k.bits))))) (h : bitsE f op k a b = some v) : binV op (.int k a) (.int k b) = some v := by
  unfold bitsE at h
  split at h
  · rename_i a' b'
    split at h
    · rw [mkInt_eq] at h; rw [hop _ _ _ rfl]; exact h
    · rw [mkInt_eq] at h; rw [hop _ _ _ rfl]; exact h
    · rw [mkInt_eq] at h; rw [hop _ _ _ rfl]; exact h
    · exact h
  · exact h

theorem land_u (k : IntKind) (a b : Nat) (hs : k.signed = false) : binV .and (.int k (.ofNat a)) (.int k (.ofNat b)) = some (.int k (.ofNat (Nat.land (a % 2 ^ k.bits) (b % 2 ^ k.bits)))) := by
  simp only [binV, if_true, Option.some.injEq, Value.int.injEq, true_and, BitVec.toNat_and, bits_ofNat]
  rw [show ((Nat.land (a % 2 ^ k.bits) (b % 2 ^ k.bits) : Nat)) = (a % 2 ^ k.bits) &&& (b % 2 ^ k.bits) from rfl]
  rw [show (((a % 2 ^ k.bits &&& b % 2 ^ k.bits : Nat)) : Int) = Int.ofNat (a % 2 ^ k.bits &&& b % 2 ^ k.bits) from rfl, wrap_ofNat_u hs]
  congr 1
  exact Nat.mod_eq_of_lt (Nat.and_lt_two_pow _ (Nat.mod_lt _ (Nat.two_pow_pos _)))
theorem lor_u (k : IntKind) (a b : Nat) (hs : k.signed = false) : binV .or (.int k (.ofNat a)) (.int k (.ofNat b)) = some (.int k (.ofNat (Nat.lor (a % 2 ^ k.bits) (b % 2 ^ k.bits)))) := by
  simp only [binV, if_true, Option.some.injEq, Value.int.injEq, true_and, BitVec.toNat_or, bits_ofNat]
  rw [show (((a % 2 ^ k.bits ||| b % 2 ^ k.bits : Nat)) : Int) = Int.ofNat (a % 2 ^ k.bits ||| b % 2 ^ k.bits) from rfl, wrap_ofNat_u hs]
  congr 1
  exact Nat.mod_eq_of_lt (Nat.or_lt_two_pow (Nat.mod_lt _ (Nat.two_pow_pos _)) (Nat.mod_lt _ (Nat.two_pow_pos _)))
theorem lxor_u (k : IntKind) (a b : Nat) (hs : k.signed = false) : binV .xor (.int k (.ofNat a)) (.int k (.ofNat b)) = some (.int k (.ofNat (Nat.xor (a % 2 ^ k.bits) (b % 2 ^ k.bits)))) := by
  simp only [binV, if_true, Option.some.injEq, Value.int.injEq, true_and, BitVec.toNat_xor, bits_ofNat]
  rw [show (((a % 2 ^ k.bits ^^^ b % 2 ^ k.bits : Nat)) : Int) = Int.ofNat (a % 2 ^ k.bits ^^^ b % 2 ^ k.bits) from rfl, wrap_ofNat_u hs]
  congr 1
  exact Nat.mod_eq_of_lt (Nat.xor_lt_two_pow (Nat.mod_lt _ (Nat.two_pow_pos _)) (Nat.mod_lt _ (Nat.two_pow_pos _)))

theorem binV_plain {op : BinOp} {x y v : Value} (h : binV op x y = some v) : plain x = true ∧ plain y = true ∧ plain v = true := by
  unfold binV at h
  split at h <;> first
    | (simp at h; done)
    | (split at h <;> first | (simp at h; done) | (split at h <;> first | (simp at h; done) | (simp at h; subst h; exact ⟨rfl, rfl, rfl⟩)) | (simp at h; subst h; exact ⟨rfl, rfl, rfl⟩))
    | (simp at h; subst h; exact ⟨rfl, rfl, rfl⟩)

theorem binE_some {op : BinOp} {x y v : Value} (h : binE op x y = some v) : binV op x y = some v := by
  unfold binE at h
  split at h
  · rename_i k a k' b hx hy
    have hx := vInt_some hx
    have hy := vInt_some hy
    simp only at hx hy
    subst hx; subst hy
    by_cases hk : k = k'
    · subst hk
      have e : (bif (boxI op).sh || kEq k k then (boxI op).f k a b else none) = (boxI op).f k a b := by simp [kEq_eq]
      rw [e] at h
      cases op <;> simp only [boxI] at h
      case and => exact bitsE_some land_u h
      case or => exact bitsE_some lor_u h
      case xor => exact bitsE_some lxor_u h
      case shl =>
        unfold iShl at h
        split at h
        · rename_i a b
          rw [mkInt_eq, wrapE_eq] at h
          simp only [binV]
          rw [if_neg (by simp), ← h]
          rw [show Nat.shiftLeft a (min b k.bits) = a <<< (min b k.bits) from rfl, Nat.shiftLeft_eq]
          simp
        · exact h
      case shr =>
        unfold iShr at h
        split at h
        · rename_i a b
          rw [mkInt_eq] at h
          simp only [binV]
          rw [if_neg (by simp), ← h]
          rw [show Nat.shiftRight a (min b k.bits) = a >>> (min b k.bits) from rfl, Nat.shiftRight_eq_div_pow]
          simp
          exact Int.fdiv_eq_ediv_of_nonneg _ (Int.le_of_lt (Int.pow_pos (by omega)))
        · exact h
      all_goals first
        | (simp only [iAdd, iSub, iMul, iEq, iNe, iLt, iLe, iGt, iGe, mkInt_eq, mkBool_eq, wrapE_eq, ltE_eq, leE_eq, eqE_eq] at h
           simp only [binV, if_true, gt_iff_lt, ge_iff_le, bne]; exact h)
        | (unfold iOther at h
           split at h
           · rename_i hh; rw [mkInt_eq] at h; rw [hh]; exact h
           · exact h)
    · have e : kEq k k' = false := by simp [kEq_eq, hk]
      rw [e, Bool.or_false] at h
      cases op <;> simp only [boxI, cond_false, cond_true] at h <;> first | (cases h; done) | skip
      case shl =>
        unfold iShl at h
        split at h
        · rename_i a b
          rw [mkInt_eq, wrapE_eq] at h
          simp only [binV]
          rw [if_neg (by simp), ← h]
          rw [show Nat.shiftLeft a (min b k.bits) = a <<< (min b k.bits) from rfl, Nat.shiftLeft_eq]
          simp
        · exact h
      case shr =>
        unfold iShr at h
        split at h
        · rename_i a b
          rw [mkInt_eq] at h
          simp only [binV]
          rw [if_neg (by simp), ← h]
          rw [show Nat.shiftRight a (min b k.bits) = a >>> (min b k.bits) from rfl, Nat.shiftRight_eq_div_pow]
          simp
          exact Int.fdiv_eq_ediv_of_nonneg _ (Int.le_of_lt (Int.pow_pos (by omega)))
        · exact h
  · exact h
end Go.Bb
