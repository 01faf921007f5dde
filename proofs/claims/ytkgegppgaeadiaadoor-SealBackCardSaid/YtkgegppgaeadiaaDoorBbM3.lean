/- My contracts: BbCwir0 BbCwir1 BbCop BbCref4g BbCaead0 BbCaead1 BbCaead2 BbCsea1 BbCwir2 BbCop2 BbCsea2 BbCaead3. -/
import Derived.Test.YtkgegppgaeadiaaDoorBbM2
import Derived.Test.YtkgegppgaeadiaaDoorBbG3
/- Contracts: numbers and texts written. -/
namespace Go.Bb
set_option linter.unusedSimpArgs false
set_option linter.unusedVariables false
set_option maxRecDepth 20000
set_option maxHeartbeats 2000000

theorem u8_low (n : Nat) : (IntKind.u8.wrap (n : Int)) = ((n % 256 : Nat) : Int) := by
  simp [IntKind.wrap, IntKind.bits, IntKind.signed]
theorem or128 : ∀ x : Fin 256, (BitVec.ofNat 8 x.val ||| 128#8).toNat = x.val % 128 + 128 := by decide
theorem u8_more (n : Nat) : IntKind.u8.wrap (((BitVec.ofInt IntKind.u8.bits (IntKind.u8.wrap (n : Int)) ||| BitVec.ofInt IntKind.u8.bits 128).toNat : Nat) : Int) = ((n % 128 + 128 : Nat) : Int) := by
  rw [u8_low n]
  have e : BitVec.ofInt IntKind.u8.bits ((n % 256 : Nat) : Int) = BitVec.ofNat 8 (n % 256) := by rw [BitVec.ofInt_natCast]; rfl
  have e2 : BitVec.ofInt IntKind.u8.bits 128 = 128#8 := rfl
  have := or128 ⟨n % 256, by omega⟩
  simp only at this
  rw [e, e2, u8_low]
  have e3 : (BitVec.ofNat 8 (n % 256) ||| 128#8).toNat = n % 256 % 128 + 128 := this
  show (((BitVec.ofNat 8 (n % 256) ||| 128#8).toNat % 256 : Nat) : Int) = _
  rw [e3]
  omega
theorem wire_Num_c (E : EnvT tab) (h : Heap) {b : Value} (l : List UInt8) (hl : l.length ≤ 100000000) (s : SlB h b l) (v : Nat) (hv : v < 9223372036854775808) :
    ACallN E.toEnv n_wire_Num [b, .int .i64 v] h fun r h' => h.le h' ∧ OwB h h' r (l ++ numF v) := by
  refine acall h_wire_Num ir_wire_Num rfl rfl (wpA_sound ?_)
  unfold ir_wire_Num
  simp -implicitDefEqProofs only [zA,reduceIte,reduceCtorEq,Nat.reduceEqDiff,Nat.reduceAdd,Nat.reduceMul,Nat.reduceLT,Nat.reduceSub,Int.reduceLT,Int.reduceLE,Int.reduceEq,Int.reduceNe,Int.reduceSub,Int.reduceAdd,Int.reduceMul,Int.reduceBEq,Int.reduceBNe,Int.reduceGT,Int.reduceGE,Nat.reduceGT,Int.reduceToNat,Int.reduceNeg,Nat.reduceLeDiff,Nat.reduceBEq,Nat.reduceBneDiff]
  refine (bytes_Clone_c E h l (by omega) s).mono ?_
  rintro r h1 ⟨le1, ow⟩
  have mx : max (v : Int) 0 = (v : Int) := by omega
  simp -implicitDefEqProofs only [zA,reduceIte,reduceCtorEq,Nat.reduceEqDiff,Nat.reduceAdd,Nat.reduceMul,Nat.reduceLT,Nat.reduceSub,Int.reduceLT,Int.reduceLE,Int.reduceEq,Int.reduceNe,Int.reduceSub,Int.reduceAdd,Int.reduceMul,Int.reduceBEq,Int.reduceBNe,Int.reduceGT,Int.reduceGE,Nat.reduceGT,Int.reduceToNat,Int.reduceNeg,Nat.reduceLeDiff,Nat.reduceBEq,Nat.reduceBneDiff, mx]
  refine wp_loop' (fun m t H => h.le H ∧ ∃ (n : Nat) (v5 : Value) (pre : List UInt8), t = tl [(1, .int .i64 n), (5, v5)] ∧ n ≤ v ∧ m = n ∧ OwB h H v5 (l ++ pre) ∧ pre ++ numF n = numF v) v
    ⟨le1, v, r, [], rfl, by omega, rfl, by simpa using ow, rfl⟩ ?_
  rintro m t H ⟨leH, n, v5, pre, rfl, hn, rfl, ow', hp⟩
  have hlen : (l ++ pre).length ≤ 100000009 := by
    have := congrArg List.length hp
    have h9 := numF_len 9 v (by omega) (by omega)
    simp only [List.length_append] at this ⊢
    omega
  by_cases g : m < 128
  · have g1 : ¬ (128 : Int) ≤ m := by omega
    have w : IntKind.u8.wrap (m : Int) = ((UInt8.ofNat m).toNat : Int) := by rw [u8_low]; simp
    simp -implicitDefEqProofs only [zA,reduceIte,reduceCtorEq,Nat.reduceEqDiff,Nat.reduceAdd,Nat.reduceMul,Nat.reduceLT,Nat.reduceSub,Int.reduceLT,Int.reduceLE,Int.reduceEq,Int.reduceNe,Int.reduceSub,Int.reduceAdd,Int.reduceMul,Int.reduceBEq,Int.reduceBNe,Int.reduceGT,Int.reduceGE,Nat.reduceGT,Int.reduceToNat,Int.reduceNeg,Nat.reduceLeDiff,Nat.reduceBEq,Nat.reduceBneDiff, g1]
    unfold ir_wire_Num_20
    simp -implicitDefEqProofs only [zA,reduceIte,reduceCtorEq,Nat.reduceEqDiff,Nat.reduceAdd,Nat.reduceMul,Nat.reduceLT,Nat.reduceSub,Int.reduceLT,Int.reduceLE,Int.reduceEq,Int.reduceNe,Int.reduceSub,Int.reduceAdd,Int.reduceMul,Int.reduceBEq,Int.reduceBNe,Int.reduceGT,Int.reduceGE,Nat.reduceGT,Int.reduceToNat,Int.reduceNeg,Nat.reduceLeDiff,Nat.reduceBEq,Nat.reduceBneDiff, w, List.length_replicate, List.drop_replicate, List.replicate_zero]
    intro b1 hb1
    try simp -implicitDefEqProofs only [zA,reduceIte,reduceCtorEq,Nat.reduceEqDiff,Nat.reduceAdd,Nat.reduceMul,Nat.reduceLT,Nat.reduceSub,Int.reduceLT,Int.reduceLE,Int.reduceEq,Int.reduceNe,Int.reduceSub,Int.reduceAdd,Int.reduceMul,Int.reduceBEq,Int.reduceBNe,Int.reduceGT,Int.reduceGE,Nat.reduceGT,Int.reduceToNat,Int.reduceNeg,Nat.reduceLeDiff,Nat.reduceBEq,Nat.reduceBneDiff]
    refine appendP_ow (bytes := 1) (m := 1) (news := [u8V (UInt8.ofNat m)]) (Heap.le_new leH hb1 _) (by omega) (ow'.le (Heap.le_set (Heap.le_refl _) hb1 _)) (Sl.lit (n := 1) rfl) rfl (by omega) (by omega) ?_
    intro v3 H3 ow3 le3
    simp -implicitDefEqProofs only [zA,reduceIte,reduceCtorEq,Nat.reduceEqDiff,Nat.reduceAdd,Nat.reduceMul,Nat.reduceLT,Nat.reduceSub,Int.reduceLT,Int.reduceLE,Int.reduceEq,Int.reduceNe,Int.reduceSub,Int.reduceAdd,Int.reduceMul,Int.reduceBEq,Int.reduceBNe,Int.reduceGT,Int.reduceGE,Nat.reduceGT,Int.reduceToNat,Int.reduceNeg,Nat.reduceLeDiff,Nat.reduceBEq,Nat.reduceBneDiff]
    refine ⟨le3, ?_⟩
    rw [numF_lt g] at hp
    rw [← hp]
    simpa [OwB, Nat.add_assoc] using ow3
  · have g1 : (128 : Int) ≤ m := by omega
    have w : ((m % 128 + 128 : Nat) : Int) = ((UInt8.ofNat (m % 128 + 128)).toNat : Int) := by simp; omega
    have sh : (m : Int).fdiv (2 ^ (min 7 IntKind.i64.bits)) = ((m / 128 : Nat) : Int) := by
      have : min 7 IntKind.i64.bits = 7 := rfl
      rw [this, Int.fdiv_eq_ediv_of_nonneg _ (by omega)]; omega
    simp -implicitDefEqProofs only [zA,reduceIte,reduceCtorEq,Nat.reduceEqDiff,Nat.reduceAdd,Nat.reduceMul,Nat.reduceLT,Nat.reduceSub,Int.reduceLT,Int.reduceLE,Int.reduceEq,Int.reduceNe,Int.reduceSub,Int.reduceAdd,Int.reduceMul,Int.reduceBEq,Int.reduceBNe,Int.reduceGT,Int.reduceGE,Nat.reduceGT,Int.reduceToNat,Int.reduceNeg,Nat.reduceLeDiff,Nat.reduceBEq,Nat.reduceBneDiff, g1, u8_more, w, List.length_replicate, List.drop_replicate, List.replicate_zero]
    intro b1 hb1
    try simp -implicitDefEqProofs only [zA,reduceIte,reduceCtorEq,Nat.reduceEqDiff,Nat.reduceAdd,Nat.reduceMul,Nat.reduceLT,Nat.reduceSub,Int.reduceLT,Int.reduceLE,Int.reduceEq,Int.reduceNe,Int.reduceSub,Int.reduceAdd,Int.reduceMul,Int.reduceBEq,Int.reduceBNe,Int.reduceGT,Int.reduceGE,Nat.reduceGT,Int.reduceToNat,Int.reduceNeg,Nat.reduceLeDiff,Nat.reduceBEq,Nat.reduceBneDiff]
    refine appendP_ow (bytes := 1) (m := 1) (news := [u8V (UInt8.ofNat (m % 128 + 128))]) (Heap.le_new leH hb1 _) (by omega) (ow'.le (Heap.le_set (Heap.le_refl _) hb1 _)) (Sl.lit (n := 1) rfl) rfl (by omega) (by omega) ?_
    intro v3 H3 ow3 le3
    simp -implicitDefEqProofs only [zA,reduceIte,reduceCtorEq,Nat.reduceEqDiff,Nat.reduceAdd,Nat.reduceMul,Nat.reduceLT,Nat.reduceSub,Int.reduceLT,Int.reduceLE,Int.reduceEq,Int.reduceNe,Int.reduceSub,Int.reduceAdd,Int.reduceMul,Int.reduceBEq,Int.reduceBNe,Int.reduceGT,Int.reduceGE,Nat.reduceGT,Int.reduceToNat,Int.reduceNeg,Nat.reduceLeDiff,Nat.reduceBEq,Nat.reduceBneDiff, sh]
    refine ⟨m / 128, by omega, le3, m / 128, v3, pre ++ [UInt8.ofNat (m % 128 + 128)], rfl, by omega, rfl, by simpa [OwB, Nat.add_assoc] using ow3, ?_⟩
    rw [← hp, numF_ge g]; simp
end Go.Bb
/- Contracts: bytes and texts written, edits that may be. -/
namespace Go.Bb
set_option linter.unusedSimpArgs false
set_option linter.unusedVariables false
set_option maxRecDepth 20000
set_option maxHeartbeats 2000000

theorem bytesP_strW {h : Heap} {l : List UInt8} {K : Value → Heap → Prop} (hk : ∀ b c, h b = none → l.length ≤ c → SlB (h.set b (.own 0 (l.map u8V) c)) (.slice (some ⟨b, 0, none⟩) l.length c) l → h.le (h.set b (.own 0 (l.map u8V) c)) → K (.slice (some ⟨b, 0, none⟩) l.length c) (h.set b (.own 0 (l.map u8V) c))) : bytesOfP h (strV l) K := by
  simp only [bytesOfP, strV, ByteArray.size, List.size_toArray]
  intro b c hb hc
  refine hk b c hb hc (.inr ⟨⟨b, 0, none⟩, c, rfl, hc, ?_⟩) (Heap.le_set (Heap.le_refl _) hb _)
  rw [hcells_at (Heap.set_self _ _ _) (by simp)]
  simp [List.take_of_length_le]
theorem wire_Bytes_c (E : EnvT tab) (h : Heap) {b x : Value} (l m : List UInt8) (hl : l.length ≤ 100000000) (hm : m.length ≤ 100000000) (s : SlB h b l) (sx : SlB h x m) :
    ACallN E.toEnv n_wire_Bytes [b, x] h fun r h' => h.le h' ∧ OwB h h' r (l ++ bytesW m) := by
  obtain ⟨xb, xc, rfl⟩ := Sl.shape sx
  refine acall h_wire_Bytes ir_wire_Bytes rfl rfl (wpA_sound ?_)
  unfold ir_wire_Bytes
  simp -implicitDefEqProofs only [zA,reduceIte,reduceCtorEq,Nat.reduceEqDiff,Nat.reduceAdd,Nat.reduceMul,Nat.reduceLT,Nat.reduceSub,Int.reduceLT,Int.reduceLE,Int.reduceEq,Int.reduceNe,Int.reduceSub,Int.reduceAdd,Int.reduceMul,Int.reduceBEq,Int.reduceBNe,Int.reduceGT,Int.reduceGE,Nat.reduceGT,Int.reduceToNat,Int.reduceNeg,Nat.reduceLeDiff,Nat.reduceBEq,Nat.reduceBneDiff]
  refine (wire_Num_c E h l hl s m.length (by omega)).mono ?_
  rintro r h1 ⟨le1, ow⟩
  have h9 := numF_len 9 m.length (by omega) (by omega)
  simp -implicitDefEqProofs only [zA,reduceIte,reduceCtorEq,Nat.reduceEqDiff,Nat.reduceAdd,Nat.reduceMul,Nat.reduceLT,Nat.reduceSub,Int.reduceLT,Int.reduceLE,Int.reduceEq,Int.reduceNe,Int.reduceSub,Int.reduceAdd,Int.reduceMul,Int.reduceBEq,Int.reduceBNe,Int.reduceGT,Int.reduceGE,Nat.reduceGT,Int.reduceToNat,Int.reduceNeg,Nat.reduceLeDiff,Nat.reduceBEq,Nat.reduceBneDiff]
  refine appendP_ow (bytes := 1) (m := m.length) (news := m.map u8V) le1 (by omega) ow (sx.le le1) (one_u8 m) (by simp; omega) (by simp; omega) ?_
  intro v3 H3 ow3 le3
  simp -implicitDefEqProofs only [zA,reduceIte,reduceCtorEq,Nat.reduceEqDiff,Nat.reduceAdd,Nat.reduceMul,Nat.reduceLT,Nat.reduceSub,Int.reduceLT,Int.reduceLE,Int.reduceEq,Int.reduceNe,Int.reduceSub,Int.reduceAdd,Int.reduceMul,Int.reduceBEq,Int.reduceBNe,Int.reduceGT,Int.reduceGE,Nat.reduceGT,Int.reduceToNat,Int.reduceNeg,Nat.reduceLeDiff,Nat.reduceBEq,Nat.reduceBneDiff]
  exact ⟨le3, by simpa [OwB, bytesW, Nat.add_assoc] using ow3⟩
theorem wire_Text_c (E : EnvT tab) (h : Heap) {b : Value} (l m : List UInt8) (hl : l.length ≤ 100000000) (hm : m.length ≤ 100000000) (s : SlB h b l) :
    ACallN E.toEnv n_wire_Text [b, strV m] h fun r h' => h.le h' ∧ OwB h h' r (l ++ bytesW m) := by
  refine acall h_wire_Text ir_wire_Text rfl rfl (wpA_sound ?_)
  unfold ir_wire_Text
  simp -implicitDefEqProofs only [zA,reduceIte,reduceCtorEq,Nat.reduceEqDiff,Nat.reduceAdd,Nat.reduceMul,Nat.reduceLT,Nat.reduceSub,Int.reduceLT,Int.reduceLE,Int.reduceEq,Int.reduceNe,Int.reduceSub,Int.reduceAdd,Int.reduceMul,Int.reduceBEq,Int.reduceBNe,Int.reduceGT,Int.reduceGE,Nat.reduceGT,Int.reduceToNat,Int.reduceNeg,Nat.reduceLeDiff,Nat.reduceBEq,Nat.reduceBneDiff]
  refine bytesP_strW ?_
  intro b1 c1 hb1 hc1 s1 le1
  simp -implicitDefEqProofs only [zA,reduceIte,reduceCtorEq,Nat.reduceEqDiff,Nat.reduceAdd,Nat.reduceMul,Nat.reduceLT,Nat.reduceSub,Int.reduceLT,Int.reduceLE,Int.reduceEq,Int.reduceNe,Int.reduceSub,Int.reduceAdd,Int.reduceMul,Int.reduceBEq,Int.reduceBNe,Int.reduceGT,Int.reduceGE,Nat.reduceGT,Int.reduceToNat,Int.reduceNeg,Nat.reduceLeDiff,Nat.reduceBEq,Nat.reduceBneDiff]
  refine (wire_Bytes_c E _ l m hl hm (s.le le1) s1).mono ?_
  rintro r h2 ⟨le2, ow⟩
  simp -implicitDefEqProofs only [zA,reduceIte,reduceCtorEq,Nat.reduceEqDiff,Nat.reduceAdd,Nat.reduceMul,Nat.reduceLT,Nat.reduceSub,Int.reduceLT,Int.reduceLE,Int.reduceEq,Int.reduceNe,Int.reduceSub,Int.reduceAdd,Int.reduceMul,Int.reduceBEq,Int.reduceBNe,Int.reduceGT,Int.reduceGE,Nat.reduceGT,Int.reduceToNat,Int.reduceNeg,Nat.reduceLeDiff,Nat.reduceBEq,Nat.reduceBneDiff]
  exact ⟨Heap.le_trans le1 le2, ow.since le1⟩
theorem strW_size (s : List UInt8) : (⟨s.toArray⟩ : ByteArray).size = s.length := by simp [ByteArray.size]
theorem op_name_c (E : EnvT tab) (H : Heap) (s : List UInt8) (hs : s.length ≤ 9000000000000000000) : ACallN E.toEnv n_op_name [strV s] H fun r H' => H' = H ∧ r = .bool (nameG s) := by
  refine acall h_op_name ir_op_name rfl rfl (wpA_sound ?_)
  unfold ir_op_name strV
  have ez := strW_size s
  unfold nameG
  simp -implicitDefEqProofs only [zA,reduceIte,reduceCtorEq,Nat.reduceEqDiff,Nat.reduceAdd,Nat.reduceMul,Nat.reduceLT,Nat.reduceSub,Int.reduceLT,Int.reduceLE,Int.reduceEq,Int.reduceNe,Int.reduceSub,Int.reduceAdd,Int.reduceMul,Int.reduceBEq,Int.reduceBNe,Int.reduceGT,Int.reduceGE,Nat.reduceGT,Int.reduceToNat,Int.reduceNeg,Nat.reduceLeDiff,Nat.reduceBEq,Nat.reduceBneDiff, ez]
  refine wp_loop' (fun m t G => G = H ∧ ∃ i : Nat, t = tl [(0, .string ⟨s.toArray⟩), (5, .int .i64 s.length), (6, .int .i64 i)] ∧ i ≤ s.length ∧ m = s.length - i ∧ (s.take i).all (fun b => decide (33 ≤ b.toNat ∧ b.toNat ≤ 126)) = true) s.length
    ⟨rfl, 0, rfl, by omega, by omega, by simp⟩ ?_
  rintro m t G ⟨rfl, i, rfl, hi, rfl, ha⟩
  by_cases hlt : i < s.length
  · have hi1 : (i : Int) < s.length := by omega
    have hi2 : (0 : Int) ≤ i := by omega
    have w1 : IntKind.i64.wrap ((i : Int) + 1) = ((i + 1 : Nat) : Int) := wrapN (by omega)
    have ix : s[i]? = some s[i] := List.getElem?_eq_getElem hlt
    have ad : s.toArray.toList = s := rfl
    by_cases g : 33 ≤ s[i].toNat ∧ s[i].toNat ≤ 126
    · have g1 : ¬ ((s[i].toNat : Int) < 33) := by omega
      have g2 : ¬ ((126 : Int) < s[i].toNat) := by omega
      simp -implicitDefEqProofs only [zA,reduceIte,reduceCtorEq,Nat.reduceEqDiff,Nat.reduceAdd,Nat.reduceMul,Nat.reduceLT,Nat.reduceSub,Int.reduceLT,Int.reduceLE,Int.reduceEq,Int.reduceNe,Int.reduceSub,Int.reduceAdd,Int.reduceMul,Int.reduceBEq,Int.reduceBNe,Int.reduceGT,Int.reduceGE,Nat.reduceGT,Int.reduceToNat,Int.reduceNeg,Nat.reduceLeDiff,Nat.reduceBEq,Nat.reduceBneDiff, ez, hi1, hi2, Int.toNat_natCast, ad, ix, g1, g2, w1]
      refine ⟨_, ?_, i + 1, rfl, by omega, rfl, ?_⟩
      · omega
      · rw [List.take_succ_eq_append_getElem hlt, List.all_append, ha]; simp [g]
    · have hf : s.all (fun b => decide (33 ≤ b.toNat ∧ b.toNat ≤ 126)) = false := by
        rw [List.all_eq_false]
        exact ⟨s[i], List.getElem_mem hlt, by simpa using g⟩
      rw [hf]
      by_cases g1 : (s[i].toNat : Int) < 33
      · simp -implicitDefEqProofs only [zA,reduceIte,reduceCtorEq,Nat.reduceEqDiff,Nat.reduceAdd,Nat.reduceMul,Nat.reduceLT,Nat.reduceSub,Int.reduceLT,Int.reduceLE,Int.reduceEq,Int.reduceNe,Int.reduceSub,Int.reduceAdd,Int.reduceMul,Int.reduceBEq,Int.reduceBNe,Int.reduceGT,Int.reduceGE,Nat.reduceGT,Int.reduceToNat,Int.reduceNeg,Nat.reduceLeDiff,Nat.reduceBEq,Nat.reduceBneDiff, ez, hi1, hi2, Int.toNat_natCast, ad, ix, g1, Bool.false_and]
      · have g2 : (126 : Int) < s[i].toNat := by omega
        simp -implicitDefEqProofs only [zA,reduceIte,reduceCtorEq,Nat.reduceEqDiff,Nat.reduceAdd,Nat.reduceMul,Nat.reduceLT,Nat.reduceSub,Int.reduceLT,Int.reduceLE,Int.reduceEq,Int.reduceNe,Int.reduceSub,Int.reduceAdd,Int.reduceMul,Int.reduceBEq,Int.reduceBNe,Int.reduceGT,Int.reduceGE,Nat.reduceGT,Int.reduceToNat,Int.reduceNeg,Nat.reduceLeDiff,Nat.reduceBEq,Nat.reduceBneDiff, ez, hi1, hi2, Int.toNat_natCast, ad, ix, g1, g2, Bool.false_and]
  · have hi1 : ¬ (i : Int) < s.length := by omega
    have e : i = s.length := by omega
    subst e
    rw [List.take_length] at ha
    rw [ha, Bool.true_and]
    simp -implicitDefEqProofs only [zA,reduceIte,reduceCtorEq,Nat.reduceEqDiff,Nat.reduceAdd,Nat.reduceMul,Nat.reduceLT,Nat.reduceSub,Int.reduceLT,Int.reduceLE,Int.reduceEq,Int.reduceNe,Int.reduceSub,Int.reduceAdd,Int.reduceMul,Int.reduceBEq,Int.reduceBNe,Int.reduceGT,Int.reduceGE,Nat.reduceGT,Int.reduceToNat,Int.reduceNeg,Nat.reduceLeDiff,Nat.reduceBEq,Nat.reduceBneDiff, ez, hi1]
    unfold ir_op_name_20
    by_cases g1 : 1 ≤ s.length
    · have g1' : (1 : Int) ≤ s.length := by omega
      by_cases g2 : s.length ≤ 40
      · have g2' : (s.length : Int) ≤ 40 := by omega
        simp -implicitDefEqProofs only [zA,reduceIte,reduceCtorEq,Nat.reduceEqDiff,Nat.reduceAdd,Nat.reduceMul,Nat.reduceLT,Nat.reduceSub,Int.reduceLT,Int.reduceLE,Int.reduceEq,Int.reduceNe,Int.reduceSub,Int.reduceAdd,Int.reduceMul,Int.reduceBEq,Int.reduceBNe,Int.reduceGT,Int.reduceGE,Nat.reduceGT,Int.reduceToNat,Int.reduceNeg,Nat.reduceLeDiff,Nat.reduceBEq,Nat.reduceBneDiff, ez, g1', g2', g1, g2]
      · have g2' : ¬ (s.length : Int) ≤ 40 := by omega
        simp -implicitDefEqProofs only [zA,reduceIte,reduceCtorEq,Nat.reduceEqDiff,Nat.reduceAdd,Nat.reduceMul,Nat.reduceLT,Nat.reduceSub,Int.reduceLT,Int.reduceLE,Int.reduceEq,Int.reduceNe,Int.reduceSub,Int.reduceAdd,Int.reduceMul,Int.reduceBEq,Int.reduceBNe,Int.reduceGT,Int.reduceGE,Nat.reduceGT,Int.reduceToNat,Int.reduceNeg,Nat.reduceLeDiff,Nat.reduceBEq,Nat.reduceBneDiff, ez, g1', g2', g1, g2]
    · have g1' : ¬ (1 : Int) ≤ s.length := by omega
      simp -implicitDefEqProofs only [zA,reduceIte,reduceCtorEq,Nat.reduceEqDiff,Nat.reduceAdd,Nat.reduceMul,Nat.reduceLT,Nat.reduceSub,Int.reduceLT,Int.reduceLE,Int.reduceEq,Int.reduceNe,Int.reduceSub,Int.reduceAdd,Int.reduceMul,Int.reduceBEq,Int.reduceBNe,Int.reduceGT,Int.reduceGE,Nat.reduceGT,Int.reduceToNat,Int.reduceNeg,Nat.reduceLeDiff,Nat.reduceBEq,Nat.reduceBneDiff, ez, g1', g1, false_and]
theorem seen_at {v : List Int} (h8 : v.length = 8) (i : Nat) (hi : i < 8) : v[i]? = some (v[i]'(by omega)) := List.getElem?_eq_getElem (by omega)
theorem vec_Good_c (E : EnvT tab) (H : Heap) (v : List Int) (h8 : v.length = 8) : ACallN E.toEnv n_vec_Good [.agg (v.map (.int .i64)).toArray] H fun r H' => H.le H' ∧ r = .bool (vecG v) := by
  refine acall h_vec_Good ir_vec_Good rfl rfl (wpA_sound ?_)
  unfold ir_vec_Good
  have vl : (v.map (Value.int .i64)).length = 8 := by simp [h8]
  simp -implicitDefEqProofs only [zA,reduceIte,reduceCtorEq,Nat.reduceEqDiff,Nat.reduceAdd,Nat.reduceMul,Nat.reduceLT,Nat.reduceSub,Int.reduceLT,Int.reduceLE,Int.reduceEq,Int.reduceNe,Int.reduceSub,Int.reduceAdd,Int.reduceMul,Int.reduceBEq,Int.reduceBNe,Int.reduceGT,Int.reduceGE,Nat.reduceGT,Int.reduceToNat,Int.reduceNeg,Nat.reduceLeDiff,Nat.reduceBEq,Nat.reduceBneDiff]
  intro b hb
  try simp -implicitDefEqProofs only [zA,reduceIte,reduceCtorEq,Nat.reduceEqDiff,Nat.reduceAdd,Nat.reduceMul,Nat.reduceLT,Nat.reduceSub,Int.reduceLT,Int.reduceLE,Int.reduceEq,Int.reduceNe,Int.reduceSub,Int.reduceAdd,Int.reduceMul,Int.reduceBEq,Int.reduceBNe,Int.reduceGT,Int.reduceGE,Nat.reduceGT,Int.reduceToNat,Int.reduceNeg,Nat.reduceLeDiff,Nat.reduceBEq,Nat.reduceBneDiff]
  rw [vl]
  have le1 := Heap.le_set (Heap.le_refl H) hb (.own 0 (v.map (.int .i64)) 8)
  have ld : hcells (H.set b (.own 0 (v.map (.int .i64)) 8)) ⟨b, 0, none⟩ 8 = some (v.map (.int .i64)) := z6x (by simp [h8])
  simp -implicitDefEqProofs only [zA,reduceIte,reduceCtorEq,Nat.reduceEqDiff,Nat.reduceAdd,Nat.reduceMul,Nat.reduceLT,Nat.reduceSub,Int.reduceLT,Int.reduceLE,Int.reduceEq,Int.reduceNe,Int.reduceSub,Int.reduceAdd,Int.reduceMul,Int.reduceBEq,Int.reduceBNe,Int.reduceGT,Int.reduceGE,Nat.reduceGT,Int.reduceToNat,Int.reduceNeg,Nat.reduceLeDiff,Nat.reduceBEq,Nat.reduceBneDiff, ld]
  generalize (H.set b (.own 0 (v.map (.int .i64)) 8)) = H1 at le1
  refine wp_loop' (fun m t G => G = H1 ∧ ∃ i : Nat, t = tl [(5, .agg (v.map (.int .i64)).toArray), (6, .int .i64 i)] ∧ i ≤ 8 ∧ m = 8 - i ∧ (v.take i).all (fun n => decide (0 ≤ n ∧ n ≤ 1099511627776)) = true) 8
    ⟨rfl, 0, rfl, by omega, by omega, by simp⟩ ?_
  rintro m t G ⟨rfl, i, rfl, hi, rfl, ha⟩
  by_cases hlt : i < 8
  · have hi1 : (i : Int) < 8 := by omega
    have hi2 : (0 : Int) ≤ i := by omega
    have w1 : IntKind.i64.wrap ((i : Int) + 1) = ((i + 1 : Nat) : Int) := wrapN (by omega)
    have ix : (v.map (Value.int .i64))[i]? = some (.int .i64 (v[i]'(by omega))) := by rw [List.getElem?_map, seen_at h8 i hlt]; rfl
    have et : v.take (i + 1) = v.take i ++ [v[i]'(by omega)] := List.take_succ_eq_append_getElem (by omega)
    by_cases g : 0 ≤ v[i]'(by omega) ∧ v[i]'(by omega) ≤ 1099511627776
    · have g1 : ¬ (v[i]'(by omega) < 0) := by omega
      have g2 : ¬ (1099511627776 < v[i]'(by omega)) := by omega
      simp -implicitDefEqProofs only [zA,reduceIte,reduceCtorEq,Nat.reduceEqDiff,Nat.reduceAdd,Nat.reduceMul,Nat.reduceLT,Nat.reduceSub,Int.reduceLT,Int.reduceLE,Int.reduceEq,Int.reduceNe,Int.reduceSub,Int.reduceAdd,Int.reduceMul,Int.reduceBEq,Int.reduceBNe,Int.reduceGT,Int.reduceGE,Nat.reduceGT,Int.reduceToNat,Int.reduceNeg,Nat.reduceLeDiff,Nat.reduceBEq,Nat.reduceBneDiff, hi1, hi2, Int.toNat_natCast, ix, g1, g2, w1, vl]
      refine ⟨_, ?_, i + 1, rfl, by omega, rfl, ?_⟩
      · omega
      · rw [et, List.all_append, ha]; simp [g]
    · have hf : vecG v = false := by
        unfold vecG
        rw [List.all_eq_false]
        exact ⟨v[i]'(by omega), List.getElem_mem _, by simpa using g⟩
      rw [hf]
      by_cases g1 : v[i]'(by omega) < 0
      · simp -implicitDefEqProofs only [zA,reduceIte,reduceCtorEq,Nat.reduceEqDiff,Nat.reduceAdd,Nat.reduceMul,Nat.reduceLT,Nat.reduceSub,Int.reduceLT,Int.reduceLE,Int.reduceEq,Int.reduceNe,Int.reduceSub,Int.reduceAdd,Int.reduceMul,Int.reduceBEq,Int.reduceBNe,Int.reduceGT,Int.reduceGE,Nat.reduceGT,Int.reduceToNat,Int.reduceNeg,Nat.reduceLeDiff,Nat.reduceBEq,Nat.reduceBneDiff, hi1, hi2, Int.toNat_natCast, ix, g1, vl]
        exact le1
      · have g2 : 1099511627776 < v[i]'(by omega) := by omega
        simp -implicitDefEqProofs only [zA,reduceIte,reduceCtorEq,Nat.reduceEqDiff,Nat.reduceAdd,Nat.reduceMul,Nat.reduceLT,Nat.reduceSub,Int.reduceLT,Int.reduceLE,Int.reduceEq,Int.reduceNe,Int.reduceSub,Int.reduceAdd,Int.reduceMul,Int.reduceBEq,Int.reduceBNe,Int.reduceGT,Int.reduceGE,Nat.reduceGT,Int.reduceToNat,Int.reduceNeg,Nat.reduceLeDiff,Nat.reduceBEq,Nat.reduceBneDiff, hi1, hi2, Int.toNat_natCast, ix, g1, g2, vl]
        exact le1
  · have e : i = 8 := by omega
    subst e
    rw [List.take_of_length_le (by omega)] at ha
    have hf : vecG v = true := ha
    simp -implicitDefEqProofs only [zA,reduceIte,reduceCtorEq,Nat.reduceEqDiff,Nat.reduceAdd,Nat.reduceMul,Nat.reduceLT,Nat.reduceSub,Int.reduceLT,Int.reduceLE,Int.reduceEq,Int.reduceNe,Int.reduceSub,Int.reduceAdd,Int.reduceMul,Int.reduceBEq,Int.reduceBNe,Int.reduceGT,Int.reduceGE,Nat.reduceGT,Int.reduceToNat,Int.reduceNeg,Nat.reduceLeDiff,Nat.reduceBEq,Nat.reduceBneDiff, hf]
    exact le1
theorem vec_Put_c (E : EnvT tab) (H : Heap) {b : Value} (l : List UInt8) (v : List Int) (hl : l.length ≤ 1000000) (s : SlB H b l) (h8 : v.length = 8) (hv : ∀ n ∈ v, 0 ≤ n ∧ n ≤ 1099511627776) : ACallN E.toEnv n_vec_Put [b, .agg (v.map (.int .i64)).toArray] H fun r H' => H.le H' ∧ OwB H H' r (l ++ numsW v) := by
  refine acall h_vec_Put ir_vec_Put rfl rfl (wpA_sound ?_)
  unfold ir_vec_Put
  have vl : (v.map (Value.int .i64)).length = 8 := by simp [h8]
  simp -implicitDefEqProofs only [zA,reduceIte,reduceCtorEq,Nat.reduceEqDiff,Nat.reduceAdd,Nat.reduceMul,Nat.reduceLT,Nat.reduceSub,Int.reduceLT,Int.reduceLE,Int.reduceEq,Int.reduceNe,Int.reduceSub,Int.reduceAdd,Int.reduceMul,Int.reduceBEq,Int.reduceBNe,Int.reduceGT,Int.reduceGE,Nat.reduceGT,Int.reduceToNat,Int.reduceNeg,Nat.reduceLeDiff,Nat.reduceBEq,Nat.reduceBneDiff]
  intro b1 hb1
  try simp -implicitDefEqProofs only [zA,reduceIte,reduceCtorEq,Nat.reduceEqDiff,Nat.reduceAdd,Nat.reduceMul,Nat.reduceLT,Nat.reduceSub,Int.reduceLT,Int.reduceLE,Int.reduceEq,Int.reduceNe,Int.reduceSub,Int.reduceAdd,Int.reduceMul,Int.reduceBEq,Int.reduceBNe,Int.reduceGT,Int.reduceGE,Nat.reduceGT,Int.reduceToNat,Int.reduceNeg,Nat.reduceLeDiff,Nat.reduceBEq,Nat.reduceBneDiff]
  rw [vl]
  have le1 := Heap.le_set (Heap.le_refl H) hb1 (.own 0 (v.map (.int .i64)) 8)
  have ld : hcells (H.set b1 (.own 0 (v.map (.int .i64)) 8)) ⟨b1, 0, none⟩ 8 = some (v.map (.int .i64)) := z6x (by simp [h8])
  simp -implicitDefEqProofs only [zA,reduceIte,reduceCtorEq,Nat.reduceEqDiff,Nat.reduceAdd,Nat.reduceMul,Nat.reduceLT,Nat.reduceSub,Int.reduceLT,Int.reduceLE,Int.reduceEq,Int.reduceNe,Int.reduceSub,Int.reduceAdd,Int.reduceMul,Int.reduceBEq,Int.reduceBNe,Int.reduceGT,Int.reduceGE,Nat.reduceGT,Int.reduceToNat,Int.reduceNeg,Nat.reduceLeDiff,Nat.reduceBEq,Nat.reduceBneDiff, ld]
  generalize (H.set b1 (.own 0 (v.map (.int .i64)) 8)) = H1 at le1
  refine wp_loop' (fun m t G => H.le G ∧ ∃ (i : Nat) (v0 : Value), t = tl [(0, v0), (7, .agg (v.map (.int .i64)).toArray), (8, .int .i64 i)] ∧ i ≤ 8 ∧ m = 8 - i ∧ SlB G v0 (l ++ numsW (v.take i)) ∧ (0 < i → OwB H G v0 (l ++ numsW (v.take i))) ∧ (numsW (v.take i)).length ≤ 9 * i) 8
    ⟨le1, 0, b, rfl, by omega, by omega, by simpa [numsW] using Sl.le le1 s, fun h => by omega, by simp [numsW]⟩ ?_
  rintro m t G ⟨leG, i, v0, rfl, hi, rfl, sw, ow, hln⟩
  by_cases hlt : i < 8
  · have hi1 : (i : Int) < 8 := by omega
    have hi2 : (0 : Int) ≤ i := by omega
    have w1 : IntKind.i64.wrap ((i : Int) + 1) = ((i + 1 : Nat) : Int) := wrapN (by omega)
    have et : v.take (i + 1) = v.take i ++ [v[i]'(by omega)] := List.take_succ_eq_append_getElem (by omega)
    have hx := hv (v[i]'(by omega)) (List.getElem_mem _)
    have ix : (v.map (Value.int .i64))[i]? = some (.int .i64 (v[i]'(by omega))) := by rw [List.getElem?_map, seen_at h8 i hlt]; rfl
    generalize v[i]'(by omega) = x at et hx ix
    obtain ⟨n, rfl⟩ : ∃ n : Nat, x = n := ⟨x.toNat, by omega⟩
    have h9 := numF_len 9 n (by omega) (by omega)
    have en : numsW (v.take i ++ [(n : Int)]) = numsW (v.take i) ++ numF n := by simp [numsW]
    simp -implicitDefEqProofs only [zA,reduceIte,reduceCtorEq,Nat.reduceEqDiff,Nat.reduceAdd,Nat.reduceMul,Nat.reduceLT,Nat.reduceSub,Int.reduceLT,Int.reduceLE,Int.reduceEq,Int.reduceNe,Int.reduceSub,Int.reduceAdd,Int.reduceMul,Int.reduceBEq,Int.reduceBNe,Int.reduceGT,Int.reduceGE,Nat.reduceGT,Int.reduceToNat,Int.reduceNeg,Nat.reduceLeDiff,Nat.reduceBEq,Nat.reduceBneDiff, hi1, hi2, Int.toNat_natCast, ix, vl]
    refine (wire_Num_c E G (l ++ numsW (v.take i)) (by simp; omega) sw n (by omega)).mono ?_
    rintro r G2 ⟨le2, ow2⟩
    simp -implicitDefEqProofs only [zA,reduceIte,reduceCtorEq,Nat.reduceEqDiff,Nat.reduceAdd,Nat.reduceMul,Nat.reduceLT,Nat.reduceSub,Int.reduceLT,Int.reduceLE,Int.reduceEq,Int.reduceNe,Int.reduceSub,Int.reduceAdd,Int.reduceMul,Int.reduceBEq,Int.reduceBNe,Int.reduceGT,Int.reduceGE,Nat.reduceGT,Int.reduceToNat,Int.reduceNeg,Nat.reduceLeDiff,Nat.reduceBEq,Nat.reduceBneDiff, w1]
    have e2 : l ++ numsW (v.take (i + 1)) = l ++ numsW (v.take i) ++ numF n := by rw [et, en, ← List.append_assoc]
    refine ⟨7 - i, by omega, Heap.le_trans leG le2, i + 1, r, rfl, by omega, by omega, ?_, fun _ => ?_, ?_⟩
    · rw [e2]; exact ow2.sl
    · rw [e2]; exact Ow.since leG ow2
    · rw [et, en]; simp; omega
  · have e : i = 8 := by omega
    subst e
    rw [List.take_of_length_le (by omega)] at ow
    simp -implicitDefEqProofs only [zA,reduceIte,reduceCtorEq,Nat.reduceEqDiff,Nat.reduceAdd,Nat.reduceMul,Nat.reduceLT,Nat.reduceSub,Int.reduceLT,Int.reduceLE,Int.reduceEq,Int.reduceNe,Int.reduceSub,Int.reduceAdd,Int.reduceMul,Int.reduceBEq,Int.reduceBNe,Int.reduceGT,Int.reduceGE,Nat.reduceGT,Int.reduceToNat,Int.reduceNeg,Nat.reduceLeDiff,Nat.reduceBEq,Nat.reduceBneDiff]
    exact ⟨leG, ow (by omega)⟩
end Go.Bb
/- Contracts: edits that may be, edits in bytes. -/
namespace Go.Bb
set_option linter.unusedSimpArgs false
set_option linter.unusedVariables false
set_option maxRecDepth 20000
set_option maxHeartbeats 2000000

def edC (e : Ed) : List Value := .int .i64 e.dev :: .int .i64 e.n :: (e.seen.map (.int .i64) ++ [.int .i64 e.kind, strV e.con, strV e.fld, strV e.val, .int .i64 e.time])
theorem edC_len {e : Ed} (h8 : e.seen.length = 8) : (edC e).length = 15 := by simp [edC, h8]
theorem edC_one (e : Ed) : (edC e).all one = true := by
  have : (e.seen.map (Value.int .i64)).all one = true := by simp [one]
  simp only [edC, List.all_cons, List.all_append, this]
  rfl
/-- An edit at its place. -/
structure EdAt (G : Heap) (b : Nat) (e : Ed) : Prop where
  own : G b = some (.own 0 (edC e) 15)
  dev : hcell G ⟨b, 0, none⟩ = some (.int .i64 e.dev)
  n : hcell G ⟨b, 1, none⟩ = some (.int .i64 e.n)
  seen : hcells G ⟨b, 2, none⟩ 8 = some (e.seen.map (.int .i64))
  at' : ∀ i (h : i < e.seen.length), hcell G ⟨b, 2 + i, none⟩ = some (.int .i64 e.seen[i])
  kind : hcell G ⟨b, 10, none⟩ = some (.int .i64 e.kind)
  con : hcell G ⟨b, 11, none⟩ = some (strV e.con)
  fld : hcell G ⟨b, 12, none⟩ = some (strV e.fld)
  val : hcell G ⟨b, 13, none⟩ = some (strV e.val)
  time : hcell G ⟨b, 14, none⟩ = some (.int .i64 e.time)
  all : hcells G ⟨b, 0, none⟩ 15 = some (edC e)
theorem EdAt.of {G : Heap} {b : Nat} {e : Ed} (q : G b = some (.own 0 (edC e) 15)) (h8 : e.seen.length = 8) : EdAt G b e := by
  have hl := edC_len h8
  have key : ∀ i x, (edC e)[i]? = some x → hcell G ⟨b, i, none⟩ = some x := fun i x hx => by
    have hi : i < (edC e).length := (List.getElem?_eq_some_iff.1 hx).1
    rw [List.getElem?_eq_getElem hi] at hx
    rw [hcell_at q hi, hx]
  obtain ⟨dev, n, seen, kind, con, fld, val, time⟩ := e
  simp only at h8
  have h8' : (seen.map (Value.int .i64)).length = 8 := by simpa using h8
  have far : ∀ i x, [Value.int .i64 kind, strV con, strV fld, strV val, Value.int .i64 time][i]? = some x → (edC ⟨dev, n, seen, kind, con, fld, val, time⟩)[i + 10]? = some x := fun i x hx => by
    simp only [edC]
    rw [List.getElem?_cons_succ, List.getElem?_cons_succ, List.getElem?_append_right (by omega), h8', Nat.add_sub_cancel]
    exact hx
  refine ⟨q, key 0 _ rfl, key 1 _ rfl, ?_, ?_, key 10 _ (far 0 _ rfl), key 11 _ (far 1 _ rfl), key 12 _ (far 2 _ rfl), key 13 _ (far 3 _ rfl), key 14 _ (far 4 _ rfl), ?_⟩
  · rw [hcells_at q (by omega)]
    simp only [edC, List.drop_succ_cons, List.drop_zero]
    rw [List.take_left' h8']
  · intro i hi
    simp only at hi
    refine key _ _ ?_
    simp only [edC]
    rw [Nat.add_comm 2 i, List.getElem?_cons_succ, List.getElem?_cons_succ, List.getElem?_append_left (by omega), List.getElem?_map, List.getElem?_eq_getElem hi]
    rfl
  · rw [hcells_at q (by omega), List.drop_zero, List.take_of_length_le (by omega)]
theorem EdAt.le {G G' : Heap} {b : Nat} {e : Ed} (x : EdAt G b e) (h8 : e.seen.length = 8) (le : G.le G') : EdAt G' b e := EdAt.of (le _ _ x.own) h8
theorem binV_nil (l : List UInt8) : binV .eql (strV l) (.string .empty) = some (.bool (decide (l = []))) := by
  unfold strV
  simp -implicitDefEqProofs only [zA,reduceIte,reduceCtorEq,Nat.reduceEqDiff,Nat.reduceAdd,Nat.reduceMul,Nat.reduceLT,Nat.reduceSub,Int.reduceLT,Int.reduceLE,Int.reduceEq,Int.reduceNe,Int.reduceSub,Int.reduceAdd,Int.reduceMul,Int.reduceBEq,Int.reduceBNe,Int.reduceGT,Int.reduceGE,Nat.reduceGT,Int.reduceToNat,Int.reduceNeg,Nat.reduceLeDiff,Nat.reduceBEq,Nat.reduceBneDiff, str_toList]
  have e : ByteArray.empty.toList = [] := Go.ByteArray.toList_mk []
  rw [e]
  cases l <;> rfl
theorem op_Good_c (E : EnvT tab) (H : Heap) (e : Ed) (h8 : e.seen.length = 8) (hc : e.con.length ≤ 9000000000000000000) (hf : e.fld.length ≤ 9000000000000000000) (hn : -9223372036854775808 ≤ e.n) (hn2 : e.n ≤ 9223372036854775807) :
    ACallN E.toEnv n_op_Good [.agg (edC e).toArray] H fun r H' => H.le H' ∧ r = .bool (goodE e) := by
  refine acall h_op_Good ir_op_Good rfl rfl (wpA_sound ?_)
  unfold ir_op_Good
  have el := edC_len h8
  simp -implicitDefEqProofs only [zA,reduceIte,reduceCtorEq,Nat.reduceEqDiff,Nat.reduceAdd,Nat.reduceMul,Nat.reduceLT,Nat.reduceSub,Int.reduceLT,Int.reduceLE,Int.reduceEq,Int.reduceNe,Int.reduceSub,Int.reduceAdd,Int.reduceMul,Int.reduceBEq,Int.reduceBNe,Int.reduceGT,Int.reduceGE,Nat.reduceGT,Int.reduceToNat,Int.reduceNeg,Nat.reduceLeDiff,Nat.reduceBEq,Nat.reduceBneDiff]
  intro b hb
  try simp -implicitDefEqProofs only [zA,reduceIte,reduceCtorEq,Nat.reduceEqDiff,Nat.reduceAdd,Nat.reduceMul,Nat.reduceLT,Nat.reduceSub,Int.reduceLT,Int.reduceLE,Int.reduceEq,Int.reduceNe,Int.reduceSub,Int.reduceAdd,Int.reduceMul,Int.reduceBEq,Int.reduceBNe,Int.reduceGT,Int.reduceGE,Nat.reduceGT,Int.reduceToNat,Int.reduceNeg,Nat.reduceLeDiff,Nat.reduceBEq,Nat.reduceBneDiff]
  rw [el]
  have le1 := Heap.le_set (Heap.le_refl H) hb (.own 0 (edC e) 15)
  have A : EdAt (H.set b (.own 0 (edC e) 15)) b e := EdAt.of (Heap.set_self _ _ _) h8
  generalize (H.set b (.own 0 (edC e) 15)) = H1 at le1 A
  unfold ir_op_Good_3
  simp -implicitDefEqProofs only [zA,reduceIte,reduceCtorEq,Nat.reduceEqDiff,Nat.reduceAdd,Nat.reduceMul,Nat.reduceLT,Nat.reduceSub,Int.reduceLT,Int.reduceLE,Int.reduceEq,Int.reduceNe,Int.reduceSub,Int.reduceAdd,Int.reduceMul,Int.reduceBEq,Int.reduceBNe,Int.reduceGT,Int.reduceGE,Nat.reduceGT,Int.reduceToNat,Int.reduceNeg,Nat.reduceLeDiff,Nat.reduceBEq,Nat.reduceBneDiff, A.dev]
  refine (vec_Dev_c E H1 e.dev).mono ?_
  rintro r H2 ⟨rfl, rfl⟩
  by_cases c1 : 0 ≤ e.dev ∧ e.dev < 8
  · by_cases c2 : e.n < 1
    · have hf : goodE e = false := by have : ¬ (1 ≤ e.n) := by omega
                                      simp [goodE, this]
      rw [hf]
      simp -implicitDefEqProofs only [zA,reduceIte,reduceCtorEq,Nat.reduceEqDiff,Nat.reduceAdd,Nat.reduceMul,Nat.reduceLT,Nat.reduceSub,Int.reduceLT,Int.reduceLE,Int.reduceEq,Int.reduceNe,Int.reduceSub,Int.reduceAdd,Int.reduceMul,Int.reduceBEq,Int.reduceBNe,Int.reduceGT,Int.reduceGE,Nat.reduceGT,Int.reduceToNat,Int.reduceNeg,Nat.reduceLeDiff,Nat.reduceBEq,Nat.reduceBneDiff, c1, A.n, c2]
      exact le1
    have w1 : IntKind.i64.wrap (e.n - 1) = e.n - 1 := wrapI (by omega) (by omega)
    by_cases c3 : 1099511627776 < e.n
    · have hf : goodE e = false := by have : ¬ (e.n ≤ 1099511627776) := by omega
                                      simp [goodE, this]
      rw [hf]
      simp -implicitDefEqProofs only [zA,reduceIte,reduceCtorEq,Nat.reduceEqDiff,Nat.reduceAdd,Nat.reduceMul,Nat.reduceLT,Nat.reduceSub,Int.reduceLT,Int.reduceLE,Int.reduceEq,Int.reduceNe,Int.reduceSub,Int.reduceAdd,Int.reduceMul,Int.reduceBEq,Int.reduceBNe,Int.reduceGT,Int.reduceGE,Nat.reduceGT,Int.reduceToNat,Int.reduceNeg,Nat.reduceLeDiff,Nat.reduceBEq,Nat.reduceBneDiff, c1, A.n, c2, c3]
      exact le1
    simp -implicitDefEqProofs only [zA,reduceIte,reduceCtorEq,Nat.reduceEqDiff,Nat.reduceAdd,Nat.reduceMul,Nat.reduceLT,Nat.reduceSub,Int.reduceLT,Int.reduceLE,Int.reduceEq,Int.reduceNe,Int.reduceSub,Int.reduceAdd,Int.reduceMul,Int.reduceBEq,Int.reduceBNe,Int.reduceGT,Int.reduceGE,Nat.reduceGT,Int.reduceToNat,Int.reduceNeg,Nat.reduceLeDiff,Nat.reduceBEq,Nat.reduceBneDiff, c1, A.n, c2, c3, A.seen]
    refine (vec_Good_c E H2 e.seen h8).mono ?_
    rintro r H3 ⟨le3, rfl⟩
    have A3 := A.le h8 le3
    have hD : e.dev.toNat < e.seen.length := by omega
    have xD := A3.at' e.dev.toNat hD
    have q1 : (0 : Int) ≤ e.dev := c1.1
    have q2 : e.dev < 8 := c1.2
    by_cases c4 : vecG e.seen = true
    · by_cases c5 : e.seen[e.dev.toNat] = e.n - 1
      · simp -implicitDefEqProofs only [zA,reduceIte,reduceCtorEq,Nat.reduceEqDiff,Nat.reduceAdd,Nat.reduceMul,Nat.reduceLT,Nat.reduceSub,Int.reduceLT,Int.reduceLE,Int.reduceEq,Int.reduceNe,Int.reduceSub,Int.reduceAdd,Int.reduceMul,Int.reduceBEq,Int.reduceBNe,Int.reduceGT,Int.reduceGE,Nat.reduceGT,Int.reduceToNat,Int.reduceNeg,Nat.reduceLeDiff,Nat.reduceBEq,Nat.reduceBneDiff, c4, A3.dev, A3.n, xD, q1, q2, w1, c5, bne_self_eq_false]
        have hn1 : 1 ≤ e.n := by omega
        have hn3 : e.n ≤ 1099511627776 := by omega
        have e5 : e.seen[e.dev.toNat]? = some (e.n - 1) := by rw [List.getElem?_eq_getElem hD, c5]
        have e0 : goodE e = (decide (0 ≤ e.time ∧ e.time ≤ 1099511627776) && nameG e.con && (decide (e.kind = 1) && (nameG e.fld && decide (e.val.length ≤ 200)) || decide (e.kind = 2) && (decide (e.fld = []) && decide (e.val = [])))) := by
          simp [goodE, q1, q2, hn1, hn3, c4, e5]
        have leH := Heap.le_trans le1 le3
        rw [e0]
        clear e0 e5 c5 c4 xD hD A
        unfold ir_op_Good_39
        by_cases d1 : e.time < 0
        · have d1' : ¬ 0 ≤ e.time := by omega
          simp -implicitDefEqProofs only [zA,reduceIte,reduceCtorEq,Nat.reduceEqDiff,Nat.reduceAdd,Nat.reduceMul,Nat.reduceLT,Nat.reduceSub,Int.reduceLT,Int.reduceLE,Int.reduceEq,Int.reduceNe,Int.reduceSub,Int.reduceAdd,Int.reduceMul,Int.reduceBEq,Int.reduceBNe,Int.reduceGT,Int.reduceGE,Nat.reduceGT,Int.reduceToNat,Int.reduceNeg,Nat.reduceLeDiff,Nat.reduceBEq,Nat.reduceBneDiff, A3.time, d1, d1', false_and, decide_false, Bool.false_and]
          exact leH
        by_cases d2 : 1099511627776 < e.time
        · have d1' : ¬ (0 ≤ e.time ∧ e.time ≤ 1099511627776) := by omega
          simp -implicitDefEqProofs only [zA,reduceIte,reduceCtorEq,Nat.reduceEqDiff,Nat.reduceAdd,Nat.reduceMul,Nat.reduceLT,Nat.reduceSub,Int.reduceLT,Int.reduceLE,Int.reduceEq,Int.reduceNe,Int.reduceSub,Int.reduceAdd,Int.reduceMul,Int.reduceBEq,Int.reduceBNe,Int.reduceGT,Int.reduceGE,Nat.reduceGT,Int.reduceToNat,Int.reduceNeg,Nat.reduceLeDiff,Nat.reduceBEq,Nat.reduceBneDiff, A3.time, d1, d2, d1', decide_false, Bool.false_and]
          exact leH
        have d1' : 0 ≤ e.time ∧ e.time ≤ 1099511627776 := by omega
        simp -implicitDefEqProofs only [zA,reduceIte,reduceCtorEq,Nat.reduceEqDiff,Nat.reduceAdd,Nat.reduceMul,Nat.reduceLT,Nat.reduceSub,Int.reduceLT,Int.reduceLE,Int.reduceEq,Int.reduceNe,Int.reduceSub,Int.reduceAdd,Int.reduceMul,Int.reduceBEq,Int.reduceBNe,Int.reduceGT,Int.reduceGE,Nat.reduceGT,Int.reduceToNat,Int.reduceNeg,Nat.reduceLeDiff,Nat.reduceBEq,Nat.reduceBneDiff, A3.time, d1, d2, A3.con]
        refine (op_name_c E H3 e.con hc).mono ?_
        rintro r H4 ⟨rfl, rfl⟩
        cases d3 : nameG e.con with
        | false =>
          simp -implicitDefEqProofs only [zA,reduceIte,reduceCtorEq,Nat.reduceEqDiff,Nat.reduceAdd,Nat.reduceMul,Nat.reduceLT,Nat.reduceSub,Int.reduceLT,Int.reduceLE,Int.reduceEq,Int.reduceNe,Int.reduceSub,Int.reduceAdd,Int.reduceMul,Int.reduceBEq,Int.reduceBNe,Int.reduceGT,Int.reduceGE,Nat.reduceGT,Int.reduceToNat,Int.reduceNeg,Nat.reduceLeDiff,Nat.reduceBEq,Nat.reduceBneDiff, d1', decide_true, Bool.true_and, Bool.false_and]
          exact leH
        | true =>
          simp -implicitDefEqProofs only [zA,reduceIte,reduceCtorEq,Nat.reduceEqDiff,Nat.reduceAdd,Nat.reduceMul,Nat.reduceLT,Nat.reduceSub,Int.reduceLT,Int.reduceLE,Int.reduceEq,Int.reduceNe,Int.reduceSub,Int.reduceAdd,Int.reduceMul,Int.reduceBEq,Int.reduceBNe,Int.reduceGT,Int.reduceGE,Nat.reduceGT,Int.reduceToNat,Int.reduceNeg,Nat.reduceLeDiff,Nat.reduceBEq,Nat.reduceBneDiff, d1', decide_true, Bool.true_and, A3.kind]
          unfold ir_op_Good_q
          by_cases d4 : e.kind = 1
          · have d4' : ¬ e.kind = 2 := by omega
            simp -implicitDefEqProofs only [zA,reduceIte,reduceCtorEq,Nat.reduceEqDiff,Nat.reduceAdd,Nat.reduceMul,Nat.reduceLT,Nat.reduceSub,Int.reduceLT,Int.reduceLE,Int.reduceEq,Int.reduceNe,Int.reduceSub,Int.reduceAdd,Int.reduceMul,Int.reduceBEq,Int.reduceBNe,Int.reduceGT,Int.reduceGE,Nat.reduceGT,Int.reduceToNat,Int.reduceNeg,Nat.reduceLeDiff,Nat.reduceBEq,Nat.reduceBneDiff, d4, A3.fld]
            refine (op_name_c E _ e.fld hf).mono ?_
            rintro r H5 ⟨rfl, rfl⟩
            have ev := strW_size e.val
            cases d5 : nameG e.fld with
            | false =>
              simp -implicitDefEqProofs only [zA,reduceIte,reduceCtorEq,Nat.reduceEqDiff,Nat.reduceAdd,Nat.reduceMul,Nat.reduceLT,Nat.reduceSub,Int.reduceLT,Int.reduceLE,Int.reduceEq,Int.reduceNe,Int.reduceSub,Int.reduceAdd,Int.reduceMul,Int.reduceBEq,Int.reduceBNe,Int.reduceGT,Int.reduceGE,Nat.reduceGT,Int.reduceToNat,Int.reduceNeg,Nat.reduceLeDiff,Nat.reduceBEq,Nat.reduceBneDiff, d4, decide_true, Bool.true_and, Bool.false_and]
              exact ⟨leH, rfl⟩
            | true =>
              have vv : strV e.val = .string ⟨e.val.toArray⟩ := rfl
              simp -implicitDefEqProofs only [zA,reduceIte,reduceCtorEq,Nat.reduceEqDiff,Nat.reduceAdd,Nat.reduceMul,Nat.reduceLT,Nat.reduceSub,Int.reduceLT,Int.reduceLE,Int.reduceEq,Int.reduceNe,Int.reduceSub,Int.reduceAdd,Int.reduceMul,Int.reduceBEq,Int.reduceBNe,Int.reduceGT,Int.reduceGE,Nat.reduceGT,Int.reduceToNat,Int.reduceNeg,Nat.reduceLeDiff,Nat.reduceBEq,Nat.reduceBneDiff, d4, A3.val, decide_true, Bool.true_and, Bool.false_and, vv, ev]
              refine ⟨leH, ?_⟩
              rw [Bool.or_false]
              congr 1
              by_cases g : e.val.length ≤ 200
              · rw [decide_eq_true g, decide_eq_true (by omega)]
              · rw [decide_eq_false g, decide_eq_false (by omega)]
          · by_cases d5 : e.kind = 2
            · have b1 := binV_nil e.fld
              have b2 := binV_nil e.val
              generalize decide (e.fld = []) = p1 at b1 ⊢
              generalize decide (e.val = []) = p2 at b2 ⊢
              cases p1 with
              | true =>
                simp -implicitDefEqProofs only [zA,reduceIte,reduceCtorEq,Nat.reduceEqDiff,Nat.reduceAdd,Nat.reduceMul,Nat.reduceLT,Nat.reduceSub,Int.reduceLT,Int.reduceLE,Int.reduceEq,Int.reduceNe,Int.reduceSub,Int.reduceAdd,Int.reduceMul,Int.reduceBEq,Int.reduceBNe,Int.reduceGT,Int.reduceGE,Nat.reduceGT,Int.reduceToNat,Int.reduceNeg,Nat.reduceLeDiff,Nat.reduceBEq,Nat.reduceBneDiff, d4, d5, A3.fld, A3.val, b1, b2, Bool.true_and, Bool.false_and, decide_true]
                exact ⟨leH, rfl⟩
              | false =>
                simp -implicitDefEqProofs only [zA,reduceIte,reduceCtorEq,Nat.reduceEqDiff,Nat.reduceAdd,Nat.reduceMul,Nat.reduceLT,Nat.reduceSub,Int.reduceLT,Int.reduceLE,Int.reduceEq,Int.reduceNe,Int.reduceSub,Int.reduceAdd,Int.reduceMul,Int.reduceBEq,Int.reduceBNe,Int.reduceGT,Int.reduceGE,Nat.reduceGT,Int.reduceToNat,Int.reduceNeg,Nat.reduceLeDiff,Nat.reduceBEq,Nat.reduceBneDiff, d4, d5, A3.fld, b1, Bool.false_and, decide_false]
                exact ⟨leH, rfl⟩
            · simp -implicitDefEqProofs only [zA,reduceIte,reduceCtorEq,Nat.reduceEqDiff,Nat.reduceAdd,Nat.reduceMul,Nat.reduceLT,Nat.reduceSub,Int.reduceLT,Int.reduceLE,Int.reduceEq,Int.reduceNe,Int.reduceSub,Int.reduceAdd,Int.reduceMul,Int.reduceBEq,Int.reduceBNe,Int.reduceGT,Int.reduceGE,Nat.reduceGT,Int.reduceToNat,Int.reduceNeg,Nat.reduceLeDiff,Nat.reduceBEq,Nat.reduceBneDiff, d4, d5, decide_true, decide_false, Bool.true_and, Bool.false_and, Bool.or_false]
              exact leH
      · have c5' : (e.seen[e.dev.toNat] != e.n - 1) = true := by simpa using c5
        have hf : goodE e = false := by
          have : ¬ e.seen[e.dev.toNat]? = some (e.n - 1) := by rw [List.getElem?_eq_getElem hD]; simpa using c5
          simp [goodE, this]
        rw [hf]
        simp -implicitDefEqProofs only [zA,reduceIte,reduceCtorEq,Nat.reduceEqDiff,Nat.reduceAdd,Nat.reduceMul,Nat.reduceLT,Nat.reduceSub,Int.reduceLT,Int.reduceLE,Int.reduceEq,Int.reduceNe,Int.reduceSub,Int.reduceAdd,Int.reduceMul,Int.reduceBEq,Int.reduceBNe,Int.reduceGT,Int.reduceGE,Nat.reduceGT,Int.reduceToNat,Int.reduceNeg,Nat.reduceLeDiff,Nat.reduceBEq,Nat.reduceBneDiff, c4, A3.dev, A3.n, xD, q1, q2, w1, c5']
        exact Heap.le_trans le1 le3
    · have c4' : vecG e.seen = false := by simpa using c4
      have hf : goodE e = false := by simp [goodE, c4']
      rw [hf]
      simp -implicitDefEqProofs only [zA,reduceIte,reduceCtorEq,Nat.reduceEqDiff,Nat.reduceAdd,Nat.reduceMul,Nat.reduceLT,Nat.reduceSub,Int.reduceLT,Int.reduceLE,Int.reduceEq,Int.reduceNe,Int.reduceSub,Int.reduceAdd,Int.reduceMul,Int.reduceBEq,Int.reduceBNe,Int.reduceGT,Int.reduceGE,Nat.reduceGT,Int.reduceToNat,Int.reduceNeg,Nat.reduceLeDiff,Nat.reduceBEq,Nat.reduceBneDiff, c4']
      exact Heap.le_trans le1 le3
  · have hf : goodE e = false := by simp only [goodE, c1, decide_false, Bool.false_and]
    rw [hf]
    simp -implicitDefEqProofs only [zA,reduceIte,reduceCtorEq,Nat.reduceEqDiff,Nat.reduceAdd,Nat.reduceMul,Nat.reduceLT,Nat.reduceSub,Int.reduceLT,Int.reduceLE,Int.reduceEq,Int.reduceNe,Int.reduceSub,Int.reduceAdd,Int.reduceMul,Int.reduceBEq,Int.reduceBNe,Int.reduceGT,Int.reduceGE,Nat.reduceGT,Int.reduceToNat,Int.reduceNeg,Nat.reduceLeDiff,Nat.reduceBEq,Nat.reduceBneDiff, c1]
    exact le1
/-- What is written of an edit. -/
def putG (e : Ed) : List UInt8 := if goodE e = true then putE e else []
theorem op_Put_c (E : EnvT tab) (H : Heap) (e : Ed) (h8 : e.seen.length = 8) (hc : e.con.length ≤ 9000000000000000000) (hf : e.fld.length ≤ 9000000000000000000) (hn : -9223372036854775808 ≤ e.n) (hn2 : e.n ≤ 9223372036854775807) :
    ACallN E.toEnv n_op_Put [.agg (edC e).toArray] H fun r H' => H.le H' ∧ OwB H H' r (putG e) := by
  refine acall h_op_Put ir_op_Put rfl rfl (wpA_sound ?_)
  unfold ir_op_Put
  have el := edC_len h8
  simp -implicitDefEqProofs only [zA,reduceIte,reduceCtorEq,Nat.reduceEqDiff,Nat.reduceAdd,Nat.reduceMul,Nat.reduceLT,Nat.reduceSub,Int.reduceLT,Int.reduceLE,Int.reduceEq,Int.reduceNe,Int.reduceSub,Int.reduceAdd,Int.reduceMul,Int.reduceBEq,Int.reduceBNe,Int.reduceGT,Int.reduceGE,Nat.reduceGT,Int.reduceToNat,Int.reduceNeg,Nat.reduceLeDiff,Nat.reduceBEq,Nat.reduceBneDiff]
  intro b hb
  try simp -implicitDefEqProofs only [zA,reduceIte,reduceCtorEq,Nat.reduceEqDiff,Nat.reduceAdd,Nat.reduceMul,Nat.reduceLT,Nat.reduceSub,Int.reduceLT,Int.reduceLE,Int.reduceEq,Int.reduceNe,Int.reduceSub,Int.reduceAdd,Int.reduceMul,Int.reduceBEq,Int.reduceBNe,Int.reduceGT,Int.reduceGE,Nat.reduceGT,Int.reduceToNat,Int.reduceNeg,Nat.reduceLeDiff,Nat.reduceBEq,Nat.reduceBneDiff]
  rw [el]
  have le1 := Heap.le_set (Heap.le_refl H) hb (.own 0 (edC e) 15)
  have A : EdAt (H.set b (.own 0 (edC e) 15)) b e := EdAt.of (Heap.set_self _ _ _) h8
  generalize (H.set b (.own 0 (edC e) 15)) = H1 at le1 A
  simp -implicitDefEqProofs only [zA,reduceIte,reduceCtorEq,Nat.reduceEqDiff,Nat.reduceAdd,Nat.reduceMul,Nat.reduceLT,Nat.reduceSub,Int.reduceLT,Int.reduceLE,Int.reduceEq,Int.reduceNe,Int.reduceSub,Int.reduceAdd,Int.reduceMul,Int.reduceBEq,Int.reduceBNe,Int.reduceGT,Int.reduceGE,Nat.reduceGT,Int.reduceToNat,Int.reduceNeg,Nat.reduceLeDiff,Nat.reduceBEq,Nat.reduceBneDiff, A.all]
  refine (op_Good_c E H1 e h8 hc hf hn hn2).mono ?_
  rintro r H2 ⟨le2, rfl⟩
  replace A := A.le h8 le2
  have le02 := Heap.le_trans le1 le2
  unfold putG
  cases hg : goodE e with
  | false =>
    simp -implicitDefEqProofs only [zA,reduceIte,reduceCtorEq,Nat.reduceEqDiff,Nat.reduceAdd,Nat.reduceMul,Nat.reduceLT,Nat.reduceSub,Int.reduceLT,Int.reduceLE,Int.reduceEq,Int.reduceNe,Int.reduceSub,Int.reduceAdd,Int.reduceMul,Int.reduceBEq,Int.reduceBNe,Int.reduceGT,Int.reduceGE,Nat.reduceGT,Int.reduceToNat,Int.reduceNeg,Nat.reduceLeDiff,Nat.reduceBEq,Nat.reduceBneDiff, Bool.false_eq_true]
    exact ⟨le02, Ow.nil _ _ _⟩
  | true =>
    have g := goodE_iff hg
    obtain ⟨g1, g2, g3, g4, g5, g6, g7, g8, g9⟩ := g
    have hp := putE_len hg h8
    rw [if_pos rfl]
    unfold putE at hp ⊢
    obtain ⟨D, hD⟩ : ∃ D : Nat, e.dev = D := ⟨e.dev.toNat, by omega⟩
    obtain ⟨N, hN⟩ : ∃ N : Nat, e.n = N := ⟨e.n.toNat, by omega⟩
    obtain ⟨K, hK⟩ : ∃ K : Nat, e.kind = K := ⟨e.kind.toNat, by omega⟩
    obtain ⟨T, hT⟩ : ∃ T : Nat, e.time = T := ⟨e.time.toNat, by omega⟩
    have aD := A.dev
    have aN := A.n
    rw [hD] at aD
    rw [hN] at aN
    have tD : e.dev.toNat = D := by omega
    have tN : e.n.toNat = N := by omega
    have tK : e.kind.toNat = K := by omega
    have tT : e.time.toNat = T := by omega
    rw [tD, tN, tK, tT] at hp ⊢
    simp only [List.length_append] at hp
    simp -implicitDefEqProofs only [zA,reduceIte,reduceCtorEq,Nat.reduceEqDiff,Nat.reduceAdd,Nat.reduceMul,Nat.reduceLT,Nat.reduceSub,Int.reduceLT,Int.reduceLE,Int.reduceEq,Int.reduceNe,Int.reduceSub,Int.reduceAdd,Int.reduceMul,Int.reduceBEq,Int.reduceBNe,Int.reduceGT,Int.reduceGE,Nat.reduceGT,Int.reduceToNat,Int.reduceNeg,Nat.reduceLeDiff,Nat.reduceBEq,Nat.reduceBneDiff, aD]
    refine (wire_Num_c E H2 [] (by simp) (.inl ⟨rfl, rfl, rfl⟩) D (by omega)).mono ?_
    rintro r1 H3 ⟨le3, ow3⟩
    rw [List.nil_append] at ow3
    have aN2 := aN
    replace A := A.le h8 le3
    have aN := A.n
    rw [hN] at aN
    simp -implicitDefEqProofs only [zA,reduceIte,reduceCtorEq,Nat.reduceEqDiff,Nat.reduceAdd,Nat.reduceMul,Nat.reduceLT,Nat.reduceSub,Int.reduceLT,Int.reduceLE,Int.reduceEq,Int.reduceNe,Int.reduceSub,Int.reduceAdd,Int.reduceMul,Int.reduceBEq,Int.reduceBNe,Int.reduceGT,Int.reduceGE,Nat.reduceGT,Int.reduceToNat,Int.reduceNeg,Nat.reduceLeDiff,Nat.reduceBEq,Nat.reduceBneDiff, aN, aN2, implies_true, List.mem_cons, List.not_mem_nil, List.mem_singleton, or_false, forall_eq, forall_eq_or_imp, and_self]
    refine (wire_Num_c E H3 _ (by omega) ow3.sl N (by omega)).mono ?_
    rintro r2 H4 ⟨le4, ow4⟩
    replace A := A.le h8 le4
    simp -implicitDefEqProofs only [zA,reduceIte,reduceCtorEq,Nat.reduceEqDiff,Nat.reduceAdd,Nat.reduceMul,Nat.reduceLT,Nat.reduceSub,Int.reduceLT,Int.reduceLE,Int.reduceEq,Int.reduceNe,Int.reduceSub,Int.reduceAdd,Int.reduceMul,Int.reduceBEq,Int.reduceBNe,Int.reduceGT,Int.reduceGE,Nat.reduceGT,Int.reduceToNat,Int.reduceNeg,Nat.reduceLeDiff,Nat.reduceBEq,Nat.reduceBneDiff]
    unfold ir_op_Put_15
    simp -implicitDefEqProofs only [zA,reduceIte,reduceCtorEq,Nat.reduceEqDiff,Nat.reduceAdd,Nat.reduceMul,Nat.reduceLT,Nat.reduceSub,Int.reduceLT,Int.reduceLE,Int.reduceEq,Int.reduceNe,Int.reduceSub,Int.reduceAdd,Int.reduceMul,Int.reduceBEq,Int.reduceBNe,Int.reduceGT,Int.reduceGE,Nat.reduceGT,Int.reduceToNat,Int.reduceNeg,Nat.reduceLeDiff,Nat.reduceBEq,Nat.reduceBneDiff, A.seen]
    refine (vec_Put_c E H4 _ e.seen (by simp; omega) ow4.sl h8 g3).mono ?_
    rintro r3 H5 ⟨le5, ow5⟩
    replace A := A.le h8 le5
    have aK := A.kind
    rw [hK] at aK
    simp -implicitDefEqProofs only [zA,reduceIte,reduceCtorEq,Nat.reduceEqDiff,Nat.reduceAdd,Nat.reduceMul,Nat.reduceLT,Nat.reduceSub,Int.reduceLT,Int.reduceLE,Int.reduceEq,Int.reduceNe,Int.reduceSub,Int.reduceAdd,Int.reduceMul,Int.reduceBEq,Int.reduceBNe,Int.reduceGT,Int.reduceGE,Nat.reduceGT,Int.reduceToNat,Int.reduceNeg,Nat.reduceLeDiff,Nat.reduceBEq,Nat.reduceBneDiff, aK]
    refine (wire_Num_c E H5 _ (by simp; omega) ow5.sl K (by omega)).mono ?_
    rintro r4 H6 ⟨le6, ow6⟩
    have aT2 := A.time
    rw [hT] at aT2
    replace A := A.le h8 le6
    have aT := A.time
    rw [hT] at aT
    simp -implicitDefEqProofs only [zA,reduceIte,reduceCtorEq,Nat.reduceEqDiff,Nat.reduceAdd,Nat.reduceMul,Nat.reduceLT,Nat.reduceSub,Int.reduceLT,Int.reduceLE,Int.reduceEq,Int.reduceNe,Int.reduceSub,Int.reduceAdd,Int.reduceMul,Int.reduceBEq,Int.reduceBNe,Int.reduceGT,Int.reduceGE,Nat.reduceGT,Int.reduceToNat,Int.reduceNeg,Nat.reduceLeDiff,Nat.reduceBEq,Nat.reduceBneDiff, aT, aT2, implies_true, List.mem_cons, List.not_mem_nil, List.mem_singleton, or_false, forall_eq, forall_eq_or_imp, and_self]
    refine (wire_Num_c E H6 _ (by simp; omega) ow6.sl T (by omega)).mono ?_
    rintro r5 H7 ⟨le7, ow7⟩
    replace A := A.le h8 le7
    simp -implicitDefEqProofs only [zA,reduceIte,reduceCtorEq,Nat.reduceEqDiff,Nat.reduceAdd,Nat.reduceMul,Nat.reduceLT,Nat.reduceSub,Int.reduceLT,Int.reduceLE,Int.reduceEq,Int.reduceNe,Int.reduceSub,Int.reduceAdd,Int.reduceMul,Int.reduceBEq,Int.reduceBNe,Int.reduceGT,Int.reduceGE,Nat.reduceGT,Int.reduceToNat,Int.reduceNeg,Nat.reduceLeDiff,Nat.reduceBEq,Nat.reduceBneDiff, A.con]
    refine (wire_Text_c E H7 _ e.con (by simp; omega) (by omega) ow7.sl).mono ?_
    rintro r6 H8 ⟨le8, ow8⟩
    have A7 := A
    replace A := A.le h8 le8
    have A8 := A
    simp -implicitDefEqProofs only [zA,reduceIte,reduceCtorEq,Nat.reduceEqDiff,Nat.reduceAdd,Nat.reduceMul,Nat.reduceLT,Nat.reduceSub,Int.reduceLT,Int.reduceLE,Int.reduceEq,Int.reduceNe,Int.reduceSub,Int.reduceAdd,Int.reduceMul,Int.reduceBEq,Int.reduceBNe,Int.reduceGT,Int.reduceGE,Nat.reduceGT,Int.reduceToNat,Int.reduceNeg,Nat.reduceLeDiff,Nat.reduceBEq,Nat.reduceBneDiff, A.fld, A7.fld, implies_true, List.mem_cons, List.not_mem_nil, List.mem_singleton, or_false, forall_eq, forall_eq_or_imp, and_self]
    refine (wire_Text_c E H8 _ e.fld (by simp; omega) (by omega) ow8.sl).mono ?_
    rintro r7 H9 ⟨le9, ow9⟩
    replace A := A.le h8 le9
    simp -implicitDefEqProofs only [zA,reduceIte,reduceCtorEq,Nat.reduceEqDiff,Nat.reduceAdd,Nat.reduceMul,Nat.reduceLT,Nat.reduceSub,Int.reduceLT,Int.reduceLE,Int.reduceEq,Int.reduceNe,Int.reduceSub,Int.reduceAdd,Int.reduceMul,Int.reduceBEq,Int.reduceBNe,Int.reduceGT,Int.reduceGE,Nat.reduceGT,Int.reduceToNat,Int.reduceNeg,Nat.reduceLeDiff,Nat.reduceBEq,Nat.reduceBneDiff, A.val, A7.val, A8.val, implies_true, List.mem_cons, List.not_mem_nil, List.mem_singleton, or_false, forall_eq, forall_eq_or_imp, and_self]
    refine (wire_Text_c E H9 _ e.val (by simp; omega) (by omega) ow9.sl).mono ?_
    rintro r8 H10 ⟨le10, ow10⟩
    simp -implicitDefEqProofs only [zA,reduceIte,reduceCtorEq,Nat.reduceEqDiff,Nat.reduceAdd,Nat.reduceMul,Nat.reduceLT,Nat.reduceSub,Int.reduceLT,Int.reduceLE,Int.reduceEq,Int.reduceNe,Int.reduceSub,Int.reduceAdd,Int.reduceMul,Int.reduceBEq,Int.reduceBNe,Int.reduceGT,Int.reduceGE,Nat.reduceGT,Int.reduceToNat,Int.reduceNeg,Nat.reduceLeDiff,Nat.reduceBEq,Nat.reduceBneDiff]
    have leA : H.le H9 := Heap.le_trans le02 (Heap.le_trans le3 (Heap.le_trans le4 (Heap.le_trans le5 (Heap.le_trans le6 (Heap.le_trans le7 (Heap.le_trans le8 le9))))))
    exact ⟨Heap.le_trans leA le10, ow10.since leA⟩
end Go.Bb
/- The document's streams: Xor. -/
namespace Go.Bb
set_option linter.unusedSimpArgs false
set_option linter.unusedVariables false
set_option maxRecDepth 20000
set_option maxHeartbeats 2000000

end Go.Bb
/- Contracts: sealed and opened: keys, tags. -/
namespace Go.Bb
set_option linter.unusedSimpArgs false
set_option linter.unusedVariables false
set_option maxRecDepth 20000
set_option maxHeartbeats 2000000

theorem row8_take (f : Nat → UInt8) {n m : Nat} (h : m ≤ n) : (row8 f n).take m = row8 f m := by
  apply List.ext_getElem
  · simp [row8]; omega
  · intro j h1 h2
    rw [List.getElem_take, row8_get, row8_get]
theorem u32_0 : ((0 : U32).toNat : Int) = 0 := rfl
theorem u32_1 : ((1 : U32).toNat : Int) = 1 := rfl
theorem akey_row (key nonce : List UInt8) : (akeyF key nonce).map u8V = row8 (blockF key 0 nonce) 32 := rowL_map _ _

theorem aead_Key_c (E : EnvT tab) (h : Heap) (key nonce : List UInt8) (hk : key.length = 32) (hn : nonce.length = 12) :
    ACallN E.toEnv n_aead_Key [.agg (key.map u8V).toArray, .agg (nonce.map u8V).toArray] h fun r h' => h.le h' ∧ r = .agg ((akeyF key nonce).map u8V).toArray := by
  refine acall h_aead_Key ir_aead_Key rfl rfl (wpA_sound ?_)
  unfold ir_aead_Key
  have hk' : (key.map u8V).length = 32 := by simp [hk]
  have hn' : (nonce.map u8V).length = 12 := by simp [hn]
  simp -implicitDefEqProofs only [zA,reduceIte,reduceCtorEq,Nat.reduceEqDiff,Nat.reduceAdd,Nat.reduceMul,Nat.reduceLT,Nat.reduceSub,Int.reduceLT,Int.reduceLE,Int.reduceEq,Int.reduceNe,Int.reduceSub,Int.reduceAdd,Int.reduceMul,Int.reduceBEq,Int.reduceBNe,Int.reduceGT,Int.reduceGE,Nat.reduceGT,Int.reduceToNat,Int.reduceNeg,Nat.reduceLeDiff,Nat.reduceBEq,Nat.reduceBneDiff, hk', hn', List.length_replicate]
  intro b2 hb2 b3 hb3 b4 hb4
  obtain ⟨n32, hb3'⟩ := Heap.set_none.1 hb3
  obtain ⟨n43, hb4a⟩ := Heap.set_none.1 hb4
  obtain ⟨n42, hb4'⟩ := Heap.set_none.1 hb4a
  have le1 : h.le (((h.set b2 (.own 0 (key.map u8V) 32)).set b3 (.own 0 (nonce.map u8V) 12)).set b4 (.own 0 (List.replicate 32 (.int .u8 0)) 32)) := Heap.le_set (Heap.le_set (Heap.le_set (Heap.le_refl _) hb2 _) hb3' _) hb4' _
  have l2 : hcells (((h.set b2 (.own 0 (key.map u8V) 32)).set b3 (.own 0 (nonce.map u8V) 12)).set b4 (.own 0 (List.replicate 32 (.int .u8 0)) 32)) ⟨b2, 0, none⟩ 32 = some (key.map u8V) := hcells_own0 (set_keep (set_keep (Heap.set_self _ _ _) (Ne.symm n32)) (Ne.symm n42)) hk'
  have l3 : hcells (((h.set b2 (.own 0 (key.map u8V) 32)).set b3 (.own 0 (nonce.map u8V) 12)).set b4 (.own 0 (List.replicate 32 (.int .u8 0)) 32)) ⟨b3, 0, none⟩ 12 = some (nonce.map u8V) := hcells_own0 (set_keep (Heap.set_self _ _ _) (Ne.symm n43)) hn'
  have q4 : (((h.set b2 (.own 0 (key.map u8V) 32)).set b3 (.own 0 (nonce.map u8V) 12)).set b4 (.own 0 (List.replicate 32 (.int .u8 0)) 32)) b4 = some (.own 0 (List.replicate 32 (.int .u8 0)) 32) := Heap.set_self _ _ _
  generalize (((h.set b2 (.own 0 (key.map u8V) 32)).set b3 (.own 0 (nonce.map u8V) 12)).set b4 (.own 0 (List.replicate 32 (.int .u8 0)) 32)) = h1 at le1 l2 l3 q4 ⊢
  try simp -implicitDefEqProofs only [zA,reduceIte,reduceCtorEq,Nat.reduceEqDiff,Nat.reduceAdd,Nat.reduceMul,Nat.reduceLT,Nat.reduceSub,Int.reduceLT,Int.reduceLE,Int.reduceEq,Int.reduceNe,Int.reduceSub,Int.reduceAdd,Int.reduceMul,Int.reduceBEq,Int.reduceBNe,Int.reduceGT,Int.reduceGE,Nat.reduceGT,Int.reduceToNat,Int.reduceNeg,Nat.reduceLeDiff,Nat.reduceBEq,Nat.reduceBneDiff, l2, l3]
  have hB := chacha_Block_c E h1 key nonce 0 hk hn
  rw [u32_0] at hB
  refine hB.mono ?_
  rintro r h2 ⟨le2, rfl⟩
  rw [akey_row]
  generalize blockF key 0 nonce = bk
  simp -implicitDefEqProofs only [zA,reduceIte,reduceCtorEq,Nat.reduceEqDiff,Nat.reduceAdd,Nat.reduceMul,Nat.reduceLT,Nat.reduceSub,Int.reduceLT,Int.reduceLE,Int.reduceEq,Int.reduceNe,Int.reduceSub,Int.reduceAdd,Int.reduceMul,Int.reduceBEq,Int.reduceBNe,Int.reduceGT,Int.reduceGE,Nat.reduceGT,Int.reduceToNat,Int.reduceNeg,Nat.reduceLeDiff,Nat.reduceBEq,Nat.reduceBneDiff, List.length_replicate]
  intro b5 hb5
  have s5 : storeV (h2.set b5 (.own 0 (List.replicate 64 (.int .u8 0)) 64)) 64 (.pointer (some ⟨b5, 0, none⟩)) (.agg (row8 bk 64).toArray) = some (h2.set b5 (.own 0 (row8 bk 64) 64)) := z6z (by omega) (row8_len _ _) (by simp [row8, one]) (by simp) (by omega)
  have bd : bnds 64 64 none (some (some (.int .i64 32))) none = some (0, 32, 64) := bnds_hi (by omega) (by omega)
  have q45 := set_new (X := .own 0 (row8 bk 64) 64) hb5 (le2 _ _ q4)
  have l5 : hcells (h2.set b5 (.own 0 (row8 bk 64) 64)) ⟨b5, 0, none⟩ 32 = some (row8 bk 32) := by
    rw [hcells_at (Heap.set_self _ _ _) (by rw [row8_len]; omega), List.drop_zero, row8_take _ (by omega)]
  have s4 : storeV (h2.set b5 (.own 0 (row8 bk 64) 64)) 32 (.pointer (some ⟨b4, 0, none⟩)) (.agg (row8 bk 32).toArray) = some ((h2.set b5 (.own 0 (row8 bk 64) 64)).set b4 (.own 0 (row8 bk 32) 32)) := storeV_agg_at q45 (by omega) (row8_len _ _) (by simp [row8, one]) (by simp) (by omega)
  have l4 : hcells ((h2.set b5 (.own 0 (row8 bk 64) 64)).set b4 (.own 0 (row8 bk 32) 32)) ⟨b4, 0, none⟩ 32 = some (row8 bk 32) := z6x (row8_len _ _)
  simp -implicitDefEqProofs only [zA,reduceIte,reduceCtorEq,Nat.reduceEqDiff,Nat.reduceAdd,Nat.reduceMul,Nat.reduceLT,Nat.reduceSub,Int.reduceLT,Int.reduceLE,Int.reduceEq,Int.reduceNe,Int.reduceSub,Int.reduceAdd,Int.reduceMul,Int.reduceBEq,Int.reduceBNe,Int.reduceGT,Int.reduceGE,Nat.reduceGT,Int.reduceToNat,Int.reduceNeg,Nat.reduceLeDiff,Nat.reduceBEq,Nat.reduceBneDiff, s5, bd, Nat.sub_zero, addz, l5, s4, l4]
  exact Heap.le_set (Heap.le_new (Heap.le_trans le1 le2) hb5 _) hb4' _

theorem aead_fill_c (E : EnvT tab) (h : Heap) {v : Value} (l : List UInt8) (hl : l.length ≤ 100000000) (s : SlB h v l) : ACallN E.toEnv n_aead_fill [v] h fun r h' => h.le h' ∧ OwB h h' r (List.replicate (fillN l.length) 0) := by
  obtain ⟨base, c, rfl⟩ := Sl.shape s
  refine acall h_aead_fill ir_aead_fill rfl rfl (wpA_sound ?_)
  unfold ir_aead_fill
  have t1 : Int.tmod (l.length : Int) 16 = ((l.length % 16 : Nat) : Int) := by rw [Int.tmod_eq_emod_of_nonneg (by omega)]; rfl
  have w1 : IntKind.i64.wrap ((l.length % 16 : Nat) : Int) = ((l.length % 16 : Nat) : Int) := wrapI (by omega) (by omega)
  have w2 : IntKind.i64.wrap (16 - ((l.length % 16 : Nat) : Int)) = ((16 - l.length % 16 : Nat) : Int) := by rw [wrapI (by omega) (by omega)]; omega
  have t2 : Int.tmod ((16 - l.length % 16 : Nat) : Int) 16 = ((fillN l.length : Nat) : Int) := by rw [Int.tmod_eq_emod_of_nonneg (by omega)]; rfl
  have hf := fillN_lt l.length
  have w3 : IntKind.i64.wrap ((fillN l.length : Nat) : Int) = ((fillN l.length : Nat) : Int) := wrapI (by omega) (by omega)
  generalize fillN l.length = k at *
  have m1 : (0 : Int) ≤ (k : Int) ∧ (k : Int) ≤ (k : Int) ∧ (k : Int) ≤ 9223372036854775807 ∧ 1 * (k : Int) ≤ 281474976710656 := by omega
  simp -implicitDefEqProofs only [zA,reduceIte,reduceCtorEq,Nat.reduceEqDiff,Nat.reduceAdd,Nat.reduceMul,Nat.reduceLT,Nat.reduceSub,Int.reduceLT,Int.reduceLE,Int.reduceEq,Int.reduceNe,Int.reduceSub,Int.reduceAdd,Int.reduceMul,Int.reduceBEq,Int.reduceBNe,Int.reduceGT,Int.reduceGE,Nat.reduceGT,Int.reduceToNat,Int.reduceNeg,Nat.reduceLeDiff,Nat.reduceBEq,Nat.reduceBneDiff, t1, w1, w2, t2, w3, if_pos m1, Int.toNat_natCast]
  intro b5 hb5
  refine ⟨Heap.le_new (Heap.le_refl _) hb5 _, ?_⟩
  unfold OwB
  rw [List.length_replicate, List.map_replicate]
  exact .inr ⟨b5, 0, k, k, 0, [], [], rfl, Nat.le_refl _, hb5, by rw [Heap.set_self]; simp [u8V], rfl, by simp, by omega⟩
end Go.Bb
/- Contracts: sealed and opened: the tag. -/
namespace Go.Bb
set_option linter.unusedSimpArgs false
set_option linter.unusedVariables false
set_option maxRecDepth 20000
set_option maxHeartbeats 2000000

theorem u64_lit (n : Nat) : IntKind.u64.wrap (n : Int) = ((BitVec.ofNat 64 n).toNat : Int) := by rw [wrap_u64, ofInt_nat]
theorem SlL.lit5 {H : Heap} {b : Nat} (hb : H b = none) {u1 u2 u3 u4 u5 : Value} {l1 l2 l3 l4 l5 : List UInt8} (s1 : SlB H u1 l1) (s2 : SlB H u2 l2) (s3 : SlB H u3 l3) (s4 : SlB H u4 l4) (s5 : SlB H u5 l5) :
    SlL (H.set b (.own 0 [u1, u2, u3, u4, u5] 5)) (.slice (some ⟨b, 0, none⟩) 5 5) [l1, l2, l3, l4, l5] := by
  have hle := Heap.le_new (Heap.le_refl H) hb (.own 0 [u1, u2, u3, u4, u5] 5)
  refine ⟨[u1, u2, u3, u4, u5], rfl, Sl.lit (n := 5) rfl, ?_⟩
  intro i x y
  match i, x, y with
  | 0, _, _ => exact Sl.le hle s1
  | 1, _, _ => exact Sl.le hle s2
  | 2, _, _ => exact Sl.le hle s3
  | 3, _, _ => exact Sl.le hle s4
  | 4, _, _ => exact Sl.le hle s5
theorem tagged_flat (beside c : List UInt8) : [beside, List.replicate (fillN beside.length) 0, c, List.replicate (fillN c.length) 0, lenB beside.length ++ lenB c.length].flatten = taggedF beside c := by
  simp [taggedF, fillB]
theorem aead_tag_c (E : EnvT tab) (h : Heap) {v w : Value} (key nonce c beside : List UInt8) (hk : key.length = 32) (hn : nonce.length = 12) (hc : c.length ≤ 1000000) (hbs : beside.length ≤ 1000000) (sc : SlB h v c) (sb : SlB h w beside) :
    ACallN E.toEnv n_aead_tag [.agg (key.map u8V).toArray, .agg (nonce.map u8V).toArray, v, w] h fun r h' => h.le h' ∧ r = .agg ((atagF key nonce c beside).map u8V).toArray := by
  obtain ⟨base, cc, rfl⟩ := Sl.shape sc
  obtain ⟨base2, cc2, rfl⟩ := Sl.shape sb
  refine acall h_aead_tag ir_aead_tag rfl rfl (wpA_sound ?_)
  unfold ir_aead_tag
  have hk' : (key.map u8V).length = 32 := by simp [hk]
  have hn' : (nonce.map u8V).length = 12 := by simp [hn]
  simp -implicitDefEqProofs only [zA,reduceIte,reduceCtorEq,Nat.reduceEqDiff,Nat.reduceAdd,Nat.reduceMul,Nat.reduceLT,Nat.reduceSub,Int.reduceLT,Int.reduceLE,Int.reduceEq,Int.reduceNe,Int.reduceSub,Int.reduceAdd,Int.reduceMul,Int.reduceBEq,Int.reduceBNe,Int.reduceGT,Int.reduceGE,Nat.reduceGT,Int.reduceToNat,Int.reduceNeg,Nat.reduceLeDiff,Nat.reduceBEq,Nat.reduceBneDiff, hk', hn', List.length_replicate]
  intro b4 hb4 b5 hb5 b8 hb8
  obtain ⟨n54, hb5'⟩ := Heap.set_none.1 hb5
  obtain ⟨n85, hb8a⟩ := Heap.set_none.1 hb8
  obtain ⟨n84, hb8'⟩ := Heap.set_none.1 hb8a
  have le1 : h.le (((h.set b4 (.own 0 (key.map u8V) 32)).set b5 (.own 0 (nonce.map u8V) 12)).set b8 (.own 0 (List.replicate 16 (.int .u8 0)) 16)) := Heap.le_set (Heap.le_set (Heap.le_set (Heap.le_refl _) hb4 _) hb5' _) hb8' _
  have q4 : (((h.set b4 (.own 0 (key.map u8V) 32)).set b5 (.own 0 (nonce.map u8V) 12)).set b8 (.own 0 (List.replicate 16 (.int .u8 0)) 16)) b4 = some (.own 0 (key.map u8V) 32) := set_keep (set_keep (Heap.set_self _ _ _) (Ne.symm n54)) (Ne.symm n84)
  have q5 : (((h.set b4 (.own 0 (key.map u8V) 32)).set b5 (.own 0 (nonce.map u8V) 12)).set b8 (.own 0 (List.replicate 16 (.int .u8 0)) 16)) b5 = some (.own 0 (nonce.map u8V) 12) := set_keep (Heap.set_self _ _ _) (Ne.symm n85)
  have q8 : (((h.set b4 (.own 0 (key.map u8V) 32)).set b5 (.own 0 (nonce.map u8V) 12)).set b8 (.own 0 (List.replicate 16 (.int .u8 0)) 16)) b8 = some (.own 0 (List.replicate 16 (.int .u8 0)) 16) := Heap.set_self _ _ _
  generalize (((h.set b4 (.own 0 (key.map u8V) 32)).set b5 (.own 0 (nonce.map u8V) 12)).set b8 (.own 0 (List.replicate 16 (.int .u8 0)) 16)) = h1 at le1 q4 q5 q8 ⊢
  have u1 := u64_lit beside.length
  have u2 := u64_lit c.length
  try simp -implicitDefEqProofs only [zA,reduceIte,reduceCtorEq,Nat.reduceEqDiff,Nat.reduceAdd,Nat.reduceMul,Nat.reduceLT,Nat.reduceSub,Int.reduceLT,Int.reduceLE,Int.reduceEq,Int.reduceNe,Int.reduceSub,Int.reduceAdd,Int.reduceMul,Int.reduceBEq,Int.reduceBNe,Int.reduceGT,Int.reduceGE,Nat.reduceGT,Int.reduceToNat,Int.reduceNeg,Nat.reduceLeDiff,Nat.reduceBEq,Nat.reduceBneDiff, u1, u2]
  refine (octet_Little_c E _ [] (by simp) (Ow.nil h1 h1 1).sl (BitVec.ofNat 64 beside.length) 8 (by omega)).mono ?_
  rintro r h2 ⟨le2, ow2⟩
  rw [List.nil_append] at ow2
  simp -implicitDefEqProofs only [zA,reduceIte,reduceCtorEq,Nat.reduceEqDiff,Nat.reduceAdd,Nat.reduceMul,Nat.reduceLT,Nat.reduceSub,Int.reduceLT,Int.reduceLE,Int.reduceEq,Int.reduceNe,Int.reduceSub,Int.reduceAdd,Int.reduceMul,Int.reduceBEq,Int.reduceBNe,Int.reduceGT,Int.reduceGE,Nat.reduceGT,Int.reduceToNat,Int.reduceNeg,Nat.reduceLeDiff,Nat.reduceBEq,Nat.reduceBneDiff, u2]
  refine (octet_Little_c E _ _ (by rw [littleF_len]; omega) ow2.sl (BitVec.ofNat 64 c.length) 8 (by omega)).mono ?_
  rintro r h3 ⟨le3, ow3⟩
  have le13 := Heap.le_trans le2 le3
  have l4 : hcells h3 ⟨b4, 0, none⟩ 32 = some (key.map u8V) := hcells_own0 (le13 _ _ q4) hk'
  have l5 : hcells h3 ⟨b5, 0, none⟩ 12 = some (nonce.map u8V) := hcells_own0 (le13 _ _ q5) hn'
  have s3 : SlB h3 r (lenB beside.length ++ lenB c.length) := ow3.sl
  obtain ⟨base3, cc3, rfl⟩ := Sl.shape s3
  simp -implicitDefEqProofs only [zA,reduceIte,reduceCtorEq,Nat.reduceEqDiff,Nat.reduceAdd,Nat.reduceMul,Nat.reduceLT,Nat.reduceSub,Int.reduceLT,Int.reduceLE,Int.reduceEq,Int.reduceNe,Int.reduceSub,Int.reduceAdd,Int.reduceMul,Int.reduceBEq,Int.reduceBNe,Int.reduceGT,Int.reduceGE,Nat.reduceGT,Int.reduceToNat,Int.reduceNeg,Nat.reduceLeDiff,Nat.reduceBEq,Nat.reduceBneDiff, l4, l5]
  refine (aead_Key_c E _ key nonce hk hn).mono ?_
  rintro r h4 ⟨le4, rfl⟩
  have le04 := Heap.le_trans le1 (Heap.le_trans le13 le4)
  simp -implicitDefEqProofs only [zA,reduceIte,reduceCtorEq,Nat.reduceEqDiff,Nat.reduceAdd,Nat.reduceMul,Nat.reduceLT,Nat.reduceSub,Int.reduceLT,Int.reduceLE,Int.reduceEq,Int.reduceNe,Int.reduceSub,Int.reduceAdd,Int.reduceMul,Int.reduceBEq,Int.reduceBNe,Int.reduceGT,Int.reduceGE,Nat.reduceGT,Int.reduceToNat,Int.reduceNeg,Nat.reduceLeDiff,Nat.reduceBEq,Nat.reduceBneDiff]
  refine (aead_fill_c E _ beside (by omega) (sb.le le04)).mono ?_
  rintro r h5 ⟨le5, ow5⟩
  have s5 := ow5.sl
  obtain ⟨base5, cc5, rfl⟩ := Sl.shape s5
  simp -implicitDefEqProofs only [zA,reduceIte,reduceCtorEq,Nat.reduceEqDiff,Nat.reduceAdd,Nat.reduceMul,Nat.reduceLT,Nat.reduceSub,Int.reduceLT,Int.reduceLE,Int.reduceEq,Int.reduceNe,Int.reduceSub,Int.reduceAdd,Int.reduceMul,Int.reduceBEq,Int.reduceBNe,Int.reduceGT,Int.reduceGE,Nat.reduceGT,Int.reduceToNat,Int.reduceNeg,Nat.reduceLeDiff,Nat.reduceBEq,Nat.reduceBneDiff]
  refine (aead_fill_c E _ c (by omega) (sc.le (Heap.le_trans le04 le5))).mono ?_
  rintro r h6 ⟨le6, ow6⟩
  have s6 := ow6.sl
  obtain ⟨base6, cc6, rfl⟩ := Sl.shape s6
  have le06 := Heap.le_trans le04 (Heap.le_trans le5 le6)
  have ed : ∀ u1 u2 u3 u4 u5 : Value, u1 :: u2 :: u3 :: u4 :: u5 :: List.drop 5 (List.replicate 5 (Value.slice none 0 0)) = [u1, u2, u3, u4, u5] := fun _ _ _ _ _ => rfl
  simp -implicitDefEqProofs only [zA,reduceIte,reduceCtorEq,Nat.reduceEqDiff,Nat.reduceAdd,Nat.reduceMul,Nat.reduceLT,Nat.reduceSub,Int.reduceLT,Int.reduceLE,Int.reduceEq,Int.reduceNe,Int.reduceSub,Int.reduceAdd,Int.reduceMul,Int.reduceBEq,Int.reduceBNe,Int.reduceGT,Int.reduceGE,Nat.reduceGT,Int.reduceToNat,Int.reduceNeg,Nat.reduceLeDiff,Nat.reduceBEq,Nat.reduceBneDiff, List.length_replicate, List.drop_replicate, List.replicate_zero]
  intro b10 hb10
  have le16 := Heap.le_trans le13 (Heap.le_trans le4 (Heap.le_trans le5 le6))
  have hz : (List.replicate (fillN beside.length) (0 : UInt8)).length = fillN beside.length := List.length_replicate
  have hz2 : (List.replicate (fillN c.length) (0 : UInt8)).length = fillN c.length := List.length_replicate
  rw [hz] at s5
  rw [hz2] at s6
  have hl := tagged_len beside c
  have hf1 := fillN_lt beside.length
  have hf2 := fillN_lt c.length
  have t5 : SlB h6 (.slice base5 (fillN beside.length) cc5) (List.replicate (fillN beside.length) 0) := by unfold SlB; rw [hz]; exact s5.le le6
  have t6 : SlB h6 (.slice base6 (fillN c.length) cc6) (List.replicate (fillN c.length) 0) := by unfold SlB; rw [hz2]; exact s6
  have sL := SlL.lit5 hb10 (sb.le le06) t5 (sc.le le06) t6 (s3.le (Heap.le_trans le4 (Heap.le_trans le5 le6)))
  refine (poly_Tag_c E _ (akeyF key nonce) _ (akeyF_len _ _) (by simp) (by rw [tagged_flat]; omega) sL).mono ?_
  rintro r h7 ⟨le7, rfl⟩
  rw [tagged_flat, tag_same _ _ (akeyF_len _ _)]
  have le67 := Heap.le_trans (Heap.le_new (Heap.le_refl h6) hb10 _) le7
  have st8 : storeV h7 16 (.pointer (some ⟨b8, 0, none⟩)) (.agg ((atagF key nonce c beside).map u8V).toArray) = some (h7.set b8 (.own 0 ((atagF key nonce c beside).map u8V) 16)) := storeV_agg_at (le67 _ _ (le16 _ _ q8)) (by omega) (by simp [atagF_len]) (one_u8 _) (by simp) (by omega)
  have l8 : hcells (h7.set b8 (.own 0 ((atagF key nonce c beside).map u8V) 16)) ⟨b8, 0, none⟩ 16 = some ((atagF key nonce c beside).map u8V) := z6x (by simp [atagF_len])
  have eA : rowL (tagR (akeyF key nonce) (taggedF beside c)) 16 = atagF key nonce c beside := rfl
  rw [eA]
  simp -implicitDefEqProofs only [zA,reduceIte,reduceCtorEq,Nat.reduceEqDiff,Nat.reduceAdd,Nat.reduceMul,Nat.reduceLT,Nat.reduceSub,Int.reduceLT,Int.reduceLE,Int.reduceEq,Int.reduceNe,Int.reduceSub,Int.reduceAdd,Int.reduceMul,Int.reduceBEq,Int.reduceBNe,Int.reduceGT,Int.reduceGE,Nat.reduceGT,Int.reduceToNat,Int.reduceNeg,Nat.reduceLeDiff,Nat.reduceBEq,Nat.reduceBneDiff, st8, l8]
  exact Heap.le_set (Heap.le_trans le1 (Heap.le_trans le16 le67)) hb8' _
end Go.Bb
/- Contracts: sealed, opened. -/
namespace Go.Bb
set_option linter.unusedSimpArgs false
set_option linter.unusedVariables false
set_option maxRecDepth 20000
set_option maxHeartbeats 2000000

theorem aead_Seal_c (E : EnvT tab) (h : Heap) {v w : Value} (key nonce plain beside : List UInt8) (hk : key.length = 32) (hn : nonce.length = 12) (hp : plain.length ≤ 65536) (hbs : beside.length ≤ 1000000) (sp : SlB h v plain) (sb : SlB h w beside) :
    ACallN E.toEnv n_aead_Seal [.agg (key.map u8V).toArray, .agg (nonce.map u8V).toArray, v, w] h fun r h' => h.le h' ∧ ∃ r', r = .tuple #[r', .int .i64 0] ∧ OwB h h' r' (sealF key nonce plain beside) := by
  obtain ⟨base, cc, rfl⟩ := Sl.shape sp
  obtain ⟨base2, cc2, rfl⟩ := Sl.shape sb
  refine acall h_aead_Seal ir_aead_Seal rfl rfl (wpA_sound ?_)
  unfold ir_aead_Seal
  have hk' : (key.map u8V).length = 32 := by simp [hk]
  have hn' : (nonce.map u8V).length = 12 := by simp [hn]
  have g : ¬ (65536 : Int) < (plain.length : Int) := by omega
  have g' : (plain.length : Int) ≤ 65536 := by omega
  simp -implicitDefEqProofs only [zA,reduceIte,reduceCtorEq,Nat.reduceEqDiff,Nat.reduceAdd,Nat.reduceMul,Nat.reduceLT,Nat.reduceSub,Int.reduceLT,Int.reduceLE,Int.reduceEq,Int.reduceNe,Int.reduceSub,Int.reduceAdd,Int.reduceMul,Int.reduceBEq,Int.reduceBNe,Int.reduceGT,Int.reduceGE,Nat.reduceGT,Int.reduceToNat,Int.reduceNeg,Nat.reduceLeDiff,Nat.reduceBEq,Nat.reduceBneDiff, hk', hn', g, g']
  intro b4 hb4 b5 hb5
  obtain ⟨n54, hb5'⟩ := Heap.set_none.1 hb5
  have le1 : h.le ((h.set b4 (.own 0 (key.map u8V) 32)).set b5 (.own 0 (nonce.map u8V) 12)) := Heap.le_set (Heap.le_set (Heap.le_refl _) hb4 _) hb5' _
  have q4 : ((h.set b4 (.own 0 (key.map u8V) 32)).set b5 (.own 0 (nonce.map u8V) 12)) b4 = some (.own 0 (key.map u8V) 32) := set_keep (Heap.set_self _ _ _) (Ne.symm n54)
  have q5 : ((h.set b4 (.own 0 (key.map u8V) 32)).set b5 (.own 0 (nonce.map u8V) 12)) b5 = some (.own 0 (nonce.map u8V) 12) := Heap.set_self _ _ _
  generalize ((h.set b4 (.own 0 (key.map u8V) 32)).set b5 (.own 0 (nonce.map u8V) 12)) = h1 at le1 q4 q5 ⊢
  have l4 : hcells h1 ⟨b4, 0, none⟩ 32 = some (key.map u8V) := hcells_own0 q4 hk'
  have l5 : hcells h1 ⟨b5, 0, none⟩ 12 = some (nonce.map u8V) := hcells_own0 q5 hn'
  have hX := chacha_Xor_c E h1 key nonce plain 1 hk hn (by omega) (by rw [show (1 : U32).toNat = 1 from rfl]; omega) (sp.le le1)
  rw [u32_1] at hX
  try simp -implicitDefEqProofs only [zA,reduceIte,reduceCtorEq,Nat.reduceEqDiff,Nat.reduceAdd,Nat.reduceMul,Nat.reduceLT,Nat.reduceSub,Int.reduceLT,Int.reduceLE,Int.reduceEq,Int.reduceNe,Int.reduceSub,Int.reduceAdd,Int.reduceMul,Int.reduceBEq,Int.reduceBNe,Int.reduceGT,Int.reduceGE,Nat.reduceGT,Int.reduceToNat,Int.reduceNeg,Nat.reduceLeDiff,Nat.reduceBEq,Nat.reduceBneDiff, l4, l5]
  refine hX.mono ?_
  rintro r h2 ⟨le2, r', rfl, ow2⟩
  have hlen := sxF_len key 1 nonce plain
  have hlen2 := atagF_len key nonce (sxF key 1 nonce plain) beside
  have eS : sealF key nonce plain beside = sxF key 1 nonce plain ++ atagF key nonce (sxF key 1 nonce plain) beside := rfl
  rw [eS]
  generalize sxF key 1 nonce plain = c at ow2 hlen hlen2 ⊢
  have l4' := hcells_le le2 l4
  have l5' := hcells_le le2 l5
  have s2 := ow2.sl
  simp -implicitDefEqProofs only [zA,reduceIte,reduceCtorEq,Nat.reduceEqDiff,Nat.reduceAdd,Nat.reduceMul,Nat.reduceLT,Nat.reduceSub,Int.reduceLT,Int.reduceLE,Int.reduceEq,Int.reduceNe,Int.reduceSub,Int.reduceAdd,Int.reduceMul,Int.reduceBEq,Int.reduceBNe,Int.reduceGT,Int.reduceGE,Nat.reduceGT,Int.reduceToNat,Int.reduceNeg,Nat.reduceLeDiff,Nat.reduceBEq,Nat.reduceBneDiff]
  unfold ir_aead_Seal_23
  simp -implicitDefEqProofs only [zA,reduceIte,reduceCtorEq,Nat.reduceEqDiff,Nat.reduceAdd,Nat.reduceMul,Nat.reduceLT,Nat.reduceSub,Int.reduceLT,Int.reduceLE,Int.reduceEq,Int.reduceNe,Int.reduceSub,Int.reduceAdd,Int.reduceMul,Int.reduceBEq,Int.reduceBNe,Int.reduceGT,Int.reduceGE,Nat.reduceGT,Int.reduceToNat,Int.reduceNeg,Nat.reduceLeDiff,Nat.reduceBEq,Nat.reduceBneDiff, l4', l5']
  refine (aead_tag_c E _ key nonce c beside hk hn (by omega) hbs s2 (sb.le (Heap.le_trans le1 le2))).mono ?_
  rintro r h3 ⟨le3, rfl⟩
  generalize atagF key nonce c beside = tg at hlen2 ⊢
  simp -implicitDefEqProofs only [zA,reduceIte,reduceCtorEq,Nat.reduceEqDiff,Nat.reduceAdd,Nat.reduceMul,Nat.reduceLT,Nat.reduceSub,Int.reduceLT,Int.reduceLE,Int.reduceEq,Int.reduceNe,Int.reduceSub,Int.reduceAdd,Int.reduceMul,Int.reduceBEq,Int.reduceBNe,Int.reduceGT,Int.reduceGE,Nat.reduceGT,Int.reduceToNat,Int.reduceNeg,Nat.reduceLeDiff,Nat.reduceBEq,Nat.reduceBneDiff, List.length_replicate]
  intro b12 hb12
  have s12 : storeV (h3.set b12 (.own 0 (List.replicate 16 (.int .u8 0)) 16)) 16 (.pointer (some ⟨b12, 0, none⟩)) (.agg (tg.map u8V).toArray) = some (h3.set b12 (.own 0 (tg.map u8V) 16)) := z6z (by omega) (by simp [hlen2]) (one_u8 _) (by simp) (by omega)
  have le4 := Heap.le_new le3 hb12 (.own 0 (tg.map u8V) 16)
  have st : SlB (h3.set b12 (.own 0 (tg.map u8V) 16)) (.slice (some ⟨b12, 0, none⟩) 16 16) tg := by
    have := own_sl (H := h3.set b12 (.own 0 (tg.map u8V) 16)) (b := b12) (l := tg) (sz := 16) (Heap.set_self _ _ _)
    rw [hlen2] at this
    exact this
  simp -implicitDefEqProofs only [zA,reduceIte,reduceCtorEq,Nat.reduceEqDiff,Nat.reduceAdd,Nat.reduceMul,Nat.reduceLT,Nat.reduceSub,Int.reduceLT,Int.reduceLE,Int.reduceEq,Int.reduceNe,Int.reduceSub,Int.reduceAdd,Int.reduceMul,Int.reduceBEq,Int.reduceBNe,Int.reduceGT,Int.reduceGE,Nat.reduceGT,Int.reduceToNat,Int.reduceNeg,Nat.reduceLeDiff,Nat.reduceBEq,Nat.reduceBneDiff, s12, bnds_no, Nat.sub_zero, addz]
  refine appendP_ow (bytes := 1) (m := tg.length) (news := tg.map u8V) (Heap.le_trans (Heap.le_trans le1 le2) le4) (by omega) ((Ow.since le1 ow2).le le4) st (one_u8 _) (by omega) (by omega) ?_
  intro v5 H5 ow5 le5
  simp -implicitDefEqProofs only [zA,reduceIte,reduceCtorEq,Nat.reduceEqDiff,Nat.reduceAdd,Nat.reduceMul,Nat.reduceLT,Nat.reduceSub,Int.reduceLT,Int.reduceLE,Int.reduceEq,Int.reduceNe,Int.reduceSub,Int.reduceAdd,Int.reduceMul,Int.reduceBEq,Int.reduceBNe,Int.reduceGT,Int.reduceGE,Nat.reduceGT,Int.reduceToNat,Int.reduceNeg,Nat.reduceLeDiff,Nat.reduceBEq,Nat.reduceBneDiff]
  refine ⟨le5, _, rfl, ?_⟩
  unfold OwB
  rw [List.length_append, List.map_append]
  exact ow5
end Go.Bb
/- Contracts: edits sealed. -/
namespace Go.Bb
set_option linter.unusedSimpArgs false
set_option linter.unusedVariables false
set_option maxRecDepth 20000
set_option maxHeartbeats 2000000

def dotC (d n : Int) : List Value := [.int .i64 d, .int .i64 n]
theorem labW_len {a d n : Nat} (ha : a < 9223372036854775808) (hd : d < 9223372036854775808) (hn : n < 9223372036854775808) : (labW a d n).length ≤ 27 := by
  have h1 := numF_len 9 a (by omega) (by omega)
  have h2 := numF_len 9 d (by omega) (by omega)
  have h3 := numF_len 9 n (by omega) (by omega)
  simp [labW]; omega
theorem seal_label_c (E : EnvT tab) (H : Heap) (a d n : Nat) (ha : a < 9223372036854775808) (hd : d < 9223372036854775808) (hn : n < 9223372036854775808) :
    ACallN E.toEnv n_seal_label [.int .i64 a, .agg (dotC d n).toArray] H fun r H' => H.le H' ∧ OwB H H' r (labW a d n) := by
  refine acall h_seal_label ir_seal_label rfl rfl (wpA_sound ?_)
  unfold ir_seal_label
  have h1 := numF_len 9 a (by omega) (by omega)
  have h2 := numF_len 9 d (by omega) (by omega)
  simp -implicitDefEqProofs only [zA,reduceIte,reduceCtorEq,Nat.reduceEqDiff,Nat.reduceAdd,Nat.reduceMul,Nat.reduceLT,Nat.reduceSub,Int.reduceLT,Int.reduceLE,Int.reduceEq,Int.reduceNe,Int.reduceSub,Int.reduceAdd,Int.reduceMul,Int.reduceBEq,Int.reduceBNe,Int.reduceGT,Int.reduceGE,Nat.reduceGT,Int.reduceToNat,Int.reduceNeg,Nat.reduceLeDiff,Nat.reduceBEq,Nat.reduceBneDiff]
  intro b hb
  try simp -implicitDefEqProofs only [zA,reduceIte,reduceCtorEq,Nat.reduceEqDiff,Nat.reduceAdd,Nat.reduceMul,Nat.reduceLT,Nat.reduceSub,Int.reduceLT,Int.reduceLE,Int.reduceEq,Int.reduceNe,Int.reduceSub,Int.reduceAdd,Int.reduceMul,Int.reduceBEq,Int.reduceBNe,Int.reduceGT,Int.reduceGE,Nat.reduceGT,Int.reduceToNat,Int.reduceNeg,Nat.reduceLeDiff,Nat.reduceBEq,Nat.reduceBneDiff]
  have le1 := Heap.le_set (Heap.le_refl H) hb (.own 0 (dotC d n) (dotC d n).length)
  have q : (H.set b (.own 0 (dotC d n) (dotC d n).length)) b = some (.own 0 (dotC d n) (dotC d n).length) := Heap.set_self _ _ _
  generalize (H.set b (.own 0 (dotC d n) (dotC d n).length)) = H1 at le1 q
  have c0 : ∀ G, H1.le G → hcell G ⟨b, 0, none⟩ = some (.int .i64 d) := fun G x => by rw [hcell_at (x _ _ q) (by simp [dotC])]; rfl
  have c1 : ∀ G, H1.le G → hcell G ⟨b, 1, none⟩ = some (.int .i64 n) := fun G x => by rw [hcell_at (x _ _ q) (by simp [dotC])]; rfl
  refine (wire_Num_c E H1 [] (by simp) (.inl ⟨rfl, rfl, rfl⟩) a ha).mono ?_
  rintro r1 H2 ⟨le2, ow2⟩
  rw [List.nil_append] at ow2
  have c01 := c0 H1 (Heap.le_refl _)
  have c02 := c0 H2 le2
  simp -implicitDefEqProofs only [zA,reduceIte,reduceCtorEq,Nat.reduceEqDiff,Nat.reduceAdd,Nat.reduceMul,Nat.reduceLT,Nat.reduceSub,Int.reduceLT,Int.reduceLE,Int.reduceEq,Int.reduceNe,Int.reduceSub,Int.reduceAdd,Int.reduceMul,Int.reduceBEq,Int.reduceBNe,Int.reduceGT,Int.reduceGE,Nat.reduceGT,Int.reduceToNat,Int.reduceNeg,Nat.reduceLeDiff,Nat.reduceBEq,Nat.reduceBneDiff, c01, c02, implies_true, List.mem_cons, List.not_mem_nil, List.mem_singleton, or_false, forall_eq, forall_eq_or_imp, and_self]
  refine (wire_Num_c E H2 _ (by omega) ow2.sl d hd).mono ?_
  rintro r2 H3 ⟨le3, ow3⟩
  have c11 := c1 H1 (Heap.le_refl _)
  have c12 := c1 H2 le2
  have c13 := c1 H3 (Heap.le_trans le2 le3)
  simp -implicitDefEqProofs only [zA,reduceIte,reduceCtorEq,Nat.reduceEqDiff,Nat.reduceAdd,Nat.reduceMul,Nat.reduceLT,Nat.reduceSub,Int.reduceLT,Int.reduceLE,Int.reduceEq,Int.reduceNe,Int.reduceSub,Int.reduceAdd,Int.reduceMul,Int.reduceBEq,Int.reduceBNe,Int.reduceGT,Int.reduceGE,Nat.reduceGT,Int.reduceToNat,Int.reduceNeg,Nat.reduceLeDiff,Nat.reduceBEq,Nat.reduceBneDiff, c11, c12, c13, implies_true, List.mem_cons, List.not_mem_nil, List.mem_singleton, or_false, forall_eq, forall_eq_or_imp, and_self]
  refine (wire_Num_c E H3 _ (by simp; omega) ow3.sl n hn).mono ?_
  rintro r3 H4 ⟨le4, ow4⟩
  simp -implicitDefEqProofs only [zA,reduceIte,reduceCtorEq,Nat.reduceEqDiff,Nat.reduceAdd,Nat.reduceMul,Nat.reduceLT,Nat.reduceSub,Int.reduceLT,Int.reduceLE,Int.reduceEq,Int.reduceNe,Int.reduceSub,Int.reduceAdd,Int.reduceMul,Int.reduceBEq,Int.reduceBNe,Int.reduceGT,Int.reduceGE,Nat.reduceGT,Int.reduceToNat,Int.reduceNeg,Nat.reduceLeDiff,Nat.reduceBEq,Nat.reduceBneDiff]
  have leA := Heap.le_trans le1 (Heap.le_trans le2 le3)
  exact ⟨Heap.le_trans leA le4, ow4.since leA⟩
/-- An edit that comes from a call. -/
structure EdOk (e : Ed) : Prop where
  h8 : e.seen.length = 8
  con : e.con.length ≤ 9000000000000000000
  fld : e.fld.length ≤ 9000000000000000000
  n1 : -9223372036854775808 ≤ e.n
  n2 : e.n ≤ 9223372036854775807
theorem putG_len {e : Ed} (h8 : e.seen.length = 8) : (putG e).length ≤ 500 := by
  unfold putG
  split
  · exact putE_len ‹_› h8
  · simp
theorem seal_Size_c (E : EnvT tab) (H : Heap) (e : Ed) (o : EdOk e) : ACallN E.toEnv n_seal_Size [.agg (edC e).toArray] H fun r H' => H.le H' ∧ r = .int .i64 (sizeL e) := by
  have h8 := o.h8
  refine acall h_seal_Size ir_seal_Size rfl rfl (wpA_sound ?_)
  unfold ir_seal_Size
  have el := edC_len h8
  have pl := putG_len h8
  simp -implicitDefEqProofs only [zA,reduceIte,reduceCtorEq,Nat.reduceEqDiff,Nat.reduceAdd,Nat.reduceMul,Nat.reduceLT,Nat.reduceSub,Int.reduceLT,Int.reduceLE,Int.reduceEq,Int.reduceNe,Int.reduceSub,Int.reduceAdd,Int.reduceMul,Int.reduceBEq,Int.reduceBNe,Int.reduceGT,Int.reduceGE,Nat.reduceGT,Int.reduceToNat,Int.reduceNeg,Nat.reduceLeDiff,Nat.reduceBEq,Nat.reduceBneDiff]
  intro b hb
  try simp -implicitDefEqProofs only [zA,reduceIte,reduceCtorEq,Nat.reduceEqDiff,Nat.reduceAdd,Nat.reduceMul,Nat.reduceLT,Nat.reduceSub,Int.reduceLT,Int.reduceLE,Int.reduceEq,Int.reduceNe,Int.reduceSub,Int.reduceAdd,Int.reduceMul,Int.reduceBEq,Int.reduceBNe,Int.reduceGT,Int.reduceGE,Nat.reduceGT,Int.reduceToNat,Int.reduceNeg,Nat.reduceLeDiff,Nat.reduceBEq,Nat.reduceBneDiff]
  rw [el]
  have le1 := Heap.le_set (Heap.le_refl H) hb (.own 0 (edC e) 15)
  have A : EdAt (H.set b (.own 0 (edC e) 15)) b e := EdAt.of (Heap.set_self _ _ _) h8
  generalize (H.set b (.own 0 (edC e) 15)) = H1 at le1 A
  simp -implicitDefEqProofs only [zA,reduceIte,reduceCtorEq,Nat.reduceEqDiff,Nat.reduceAdd,Nat.reduceMul,Nat.reduceLT,Nat.reduceSub,Int.reduceLT,Int.reduceLE,Int.reduceEq,Int.reduceNe,Int.reduceSub,Int.reduceAdd,Int.reduceMul,Int.reduceBEq,Int.reduceBNe,Int.reduceGT,Int.reduceGE,Nat.reduceGT,Int.reduceToNat,Int.reduceNeg,Nat.reduceLeDiff,Nat.reduceBEq,Nat.reduceBneDiff, A.all]
  refine (op_Put_c E H1 e h8 o.con o.fld o.n1 o.n2).mono ?_
  rintro r1 H2 ⟨le2, ow2⟩
  simp -implicitDefEqProofs only [zA,reduceIte,reduceCtorEq,Nat.reduceEqDiff,Nat.reduceAdd,Nat.reduceMul,Nat.reduceLT,Nat.reduceSub,Int.reduceLT,Int.reduceLE,Int.reduceEq,Int.reduceNe,Int.reduceSub,Int.reduceAdd,Int.reduceMul,Int.reduceBEq,Int.reduceBNe,Int.reduceGT,Int.reduceGE,Nat.reduceGT,Int.reduceToNat,Int.reduceNeg,Nat.reduceLeDiff,Nat.reduceBEq,Nat.reduceBneDiff]
  refine (pad_Pad_c E H2 _ (by omega) ow2.sl).mono ?_
  rintro r2 H3 ⟨le3, r', rfl, ow3⟩
  have A3 := A.le h8 (Heap.le_trans le2 le3)
  obtain ⟨rb, rc, rfl⟩ := Sl.shape ow3.sl
  simp -implicitDefEqProofs only [zA,reduceIte,reduceCtorEq,Nat.reduceEqDiff,Nat.reduceAdd,Nat.reduceMul,Nat.reduceLT,Nat.reduceSub,Int.reduceLT,Int.reduceLE,Int.reduceEq,Int.reduceNe,Int.reduceSub,Int.reduceAdd,Int.reduceMul,Int.reduceBEq,Int.reduceBNe,Int.reduceGT,Int.reduceGE,Nat.reduceGT,Int.reduceToNat,Int.reduceNeg,Nat.reduceLeDiff,Nat.reduceBEq,Nat.reduceBneDiff, A3.all]
  refine (op_Good_c E H3 e h8 o.con o.fld o.n1 o.n2).mono ?_
  rintro r3 H4 ⟨le4, rfl⟩
  have leA := Heap.le_trans le1 (Heap.le_trans le2 (Heap.le_trans le3 le4))
  have hp := padF_len (l := putG e) (by omega)
  have hb2 := bk_gt (n := (putG e).length) (by omega)
  unfold sizeL
  unfold putG at hp hb2 ⊢
  cases hg : goodE e with
  | false =>
    simp -implicitDefEqProofs only [zA,reduceIte,reduceCtorEq,Nat.reduceEqDiff,Nat.reduceAdd,Nat.reduceMul,Nat.reduceLT,Nat.reduceSub,Int.reduceLT,Int.reduceLE,Int.reduceEq,Int.reduceNe,Int.reduceSub,Int.reduceAdd,Int.reduceMul,Int.reduceBEq,Int.reduceBNe,Int.reduceGT,Int.reduceGE,Nat.reduceGT,Int.reduceToNat,Int.reduceNeg,Nat.reduceLeDiff,Nat.reduceBEq,Nat.reduceBneDiff, Bool.false_eq_true]
    exact leA
  | true =>
    rw [hg, if_pos rfl] at hp hb2
    simp -implicitDefEqProofs only [zA,reduceIte,reduceCtorEq,Nat.reduceEqDiff,Nat.reduceAdd,Nat.reduceMul,Nat.reduceLT,Nat.reduceSub,Int.reduceLT,Int.reduceLE,Int.reduceEq,Int.reduceNe,Int.reduceSub,Int.reduceAdd,Int.reduceMul,Int.reduceBEq,Int.reduceBNe,Int.reduceGT,Int.reduceGE,Nat.reduceGT,Int.reduceToNat,Int.reduceNeg,Nat.reduceLeDiff,Nat.reduceBEq,Nat.reduceBneDiff, if_true]
    refine ⟨leA, ?_⟩
    congr 1
    omega
theorem getK_mem {L : RL} {k : Int} {key : List UInt8} (h : getK L k = some key) : ∃ x ∈ L, x.1 = k ∧ x.2 = key := by
  unfold getK at h
  obtain ⟨x, hx, rfl⟩ := Option.map_eq_some_iff.1 h
  exact ⟨x, List.mem_of_find?_eq_some hx, by simpa using List.find?_some hx, rfl⟩
theorem seal_Seal_c (E : EnvT tab) {h0 H : Heap} (leH : h0.le H) {p : Value} {L : RL} (R : RingR h0 H p L) (hL : ∀ x ∈ L, x.2.length = 32) (hR : ∀ x ∈ L, 0 ≤ x.1 ∧ x.1 ≤ 1099511627776) (k : Int) (e : Ed) (o : EdOk e) :
    ACallN E.toEnv n_seal_Seal [p, .int .i64 k, .agg (edC e).toArray] H fun r H' => H.le H' ∧ ∃ r', r = .tuple #[r', .int .i64 ((sealL L k e).1 : Nat)] ∧ OwB H H' r' (sealL L k e).2 := by
  have h8 := o.h8
  obtain ⟨pp, hpp⟩ : ∃ b, p = .pointer (some ⟨b, 0, none⟩) := by
    obtain ⟨b, r, es, c, rfl, _⟩ := R
    exact ⟨b, rfl⟩
  subst hpp
  refine acall h_seal_Seal ir_seal_Seal rfl rfl (wpA_sound ?_)
  unfold ir_seal_Seal
  have el := edC_len h8
  have pl := putG_len h8
  simp -implicitDefEqProofs only [zA,reduceIte,reduceCtorEq,Nat.reduceEqDiff,Nat.reduceAdd,Nat.reduceMul,Nat.reduceLT,Nat.reduceSub,Int.reduceLT,Int.reduceLE,Int.reduceEq,Int.reduceNe,Int.reduceSub,Int.reduceAdd,Int.reduceMul,Int.reduceBEq,Int.reduceBNe,Int.reduceGT,Int.reduceGE,Nat.reduceGT,Int.reduceToNat,Int.reduceNeg,Nat.reduceLeDiff,Nat.reduceBEq,Nat.reduceBneDiff]
  intro b hb
  try simp -implicitDefEqProofs only [zA,reduceIte,reduceCtorEq,Nat.reduceEqDiff,Nat.reduceAdd,Nat.reduceMul,Nat.reduceLT,Nat.reduceSub,Int.reduceLT,Int.reduceLE,Int.reduceEq,Int.reduceNe,Int.reduceSub,Int.reduceAdd,Int.reduceMul,Int.reduceBEq,Int.reduceBNe,Int.reduceGT,Int.reduceGE,Nat.reduceGT,Int.reduceToNat,Int.reduceNeg,Nat.reduceLeDiff,Nat.reduceBEq,Nat.reduceBneDiff]
  rw [el]
  have le1 := Heap.le_set (Heap.le_refl H) hb (.own 0 (edC e) 15)
  have A : EdAt (H.set b (.own 0 (edC e) 15)) b e := EdAt.of (Heap.set_self _ _ _) h8
  generalize (H.set b (.own 0 (edC e) 15)) = H1 at le1 A
  simp -implicitDefEqProofs only [zA,reduceIte,reduceCtorEq,Nat.reduceEqDiff,Nat.reduceAdd,Nat.reduceMul,Nat.reduceLT,Nat.reduceSub,Int.reduceLT,Int.reduceLE,Int.reduceEq,Int.reduceNe,Int.reduceSub,Int.reduceAdd,Int.reduceMul,Int.reduceBEq,Int.reduceBNe,Int.reduceGT,Int.reduceGE,Nat.reduceGT,Int.reduceToNat,Int.reduceNeg,Nat.reduceLeDiff,Nat.reduceBEq,Nat.reduceBneDiff, A.all]
  refine (op_Good_c E H1 e h8 o.con o.fld o.n1 o.n2).mono ?_
  rintro r H2 ⟨le2, rfl⟩
  have le02 := Heap.le_trans le1 le2
  unfold sealL
  cases hg : goodE e with
  | false =>
    simp -implicitDefEqProofs only [zA,reduceIte,reduceCtorEq,Nat.reduceEqDiff,Nat.reduceAdd,Nat.reduceMul,Nat.reduceLT,Nat.reduceSub,Int.reduceLT,Int.reduceLE,Int.reduceEq,Int.reduceNe,Int.reduceSub,Int.reduceAdd,Int.reduceMul,Int.reduceBEq,Int.reduceBNe,Int.reduceGT,Int.reduceGE,Nat.reduceGT,Int.reduceToNat,Int.reduceNeg,Nat.reduceLeDiff,Nat.reduceBEq,Nat.reduceBneDiff, Bool.false_eq_true]
    exact ⟨le02, _, rfl, Ow.nil _ _ _⟩
  | true =>
    rw [if_pos rfl]
    simp -implicitDefEqProofs only [zA,reduceIte,reduceCtorEq,Nat.reduceEqDiff,Nat.reduceAdd,Nat.reduceMul,Nat.reduceLT,Nat.reduceSub,Int.reduceLT,Int.reduceLE,Int.reduceEq,Int.reduceNe,Int.reduceSub,Int.reduceAdd,Int.reduceMul,Int.reduceBEq,Int.reduceBNe,Int.reduceGT,Int.reduceGE,Nat.reduceGT,Int.reduceToNat,Int.reduceNeg,Nat.reduceLeDiff,Nat.reduceBEq,Nat.reduceBneDiff]
    refine (epoch_Get_c E (Heap.le_trans leH le02) (R.le le02) hL k).mono ?_
    rintro r H3 ⟨le3, rfl⟩
    have wl : ((getK L k).getD (List.replicate 32 0)).length = 32 := by
      cases h : getK L k with
      | none => simp
      | some key =>
        obtain ⟨x, hx, -, rfl⟩ := getK_mem h
        exact hL x hx
    have wk : ∀ key, getK L k = some key → (getK L k).getD (List.replicate 32 0) = key := fun key h => by rw [h]; rfl
    generalize (getK L k).getD (List.replicate 32 0) = W at wl wk
    simp -implicitDefEqProofs only [zA,reduceIte,reduceCtorEq,Nat.reduceEqDiff,Nat.reduceAdd,Nat.reduceMul,Nat.reduceLT,Nat.reduceSub,Int.reduceLT,Int.reduceLE,Int.reduceEq,Int.reduceNe,Int.reduceSub,Int.reduceAdd,Int.reduceMul,Int.reduceBEq,Int.reduceBNe,Int.reduceGT,Int.reduceGE,Nat.reduceGT,Int.reduceToNat,Int.reduceNeg,Nat.reduceLeDiff,Nat.reduceBEq,Nat.reduceBneDiff]
    intro b8 hb8
    try simp -implicitDefEqProofs only [zA,reduceIte,reduceCtorEq,Nat.reduceEqDiff,Nat.reduceAdd,Nat.reduceMul,Nat.reduceLT,Nat.reduceSub,Int.reduceLT,Int.reduceLE,Int.reduceEq,Int.reduceNe,Int.reduceSub,Int.reduceAdd,Int.reduceMul,Int.reduceBEq,Int.reduceBNe,Int.reduceGT,Int.reduceGE,Nat.reduceGT,Int.reduceToNat,Int.reduceNeg,Nat.reduceLeDiff,Nat.reduceBEq,Nat.reduceBneDiff, List.length_replicate]
    have st8 : storeV (H3.set b8 (.own 0 (List.replicate 32 (.int .u8 0)) 32)) 32 (.pointer (some ⟨b8, 0, none⟩)) (.agg (W.map u8V).toArray) = some (H3.set b8 (.own 0 (W.map u8V) 32)) := z6z (by omega) (by simp [wl]) (one_u8 _) (by simp) (by omega)
    have le8 := Heap.le_set (Heap.le_refl H3) hb8 (.own 0 (W.map u8V) 32)
    have q8 : (H3.set b8 (.own 0 (W.map u8V) 32)) b8 = some (.own 0 (W.map u8V) 32) := Heap.set_self _ _ _
    simp -implicitDefEqProofs only [zA,reduceIte,reduceCtorEq,Nat.reduceEqDiff,Nat.reduceAdd,Nat.reduceMul,Nat.reduceLT,Nat.reduceSub,Int.reduceLT,Int.reduceLE,Int.reduceEq,Int.reduceNe,Int.reduceSub,Int.reduceAdd,Int.reduceMul,Int.reduceBEq,Int.reduceBNe,Int.reduceGT,Int.reduceGE,Nat.reduceGT,Int.reduceToNat,Int.reduceNeg,Nat.reduceLeDiff,Nat.reduceBEq,Nat.reduceBneDiff, st8]
    generalize (H3.set b8 (.own 0 (W.map u8V) 32)) = H4 at le8 q8 ⊢
    have le24 := Heap.le_trans le3 le8
    have le04 := Heap.le_trans le02 le24
    unfold ir_seal_Seal_23
    cases hk : getK L k with
    | none =>
      simp -implicitDefEqProofs only [zA,reduceIte,reduceCtorEq,Nat.reduceEqDiff,Nat.reduceAdd,Nat.reduceMul,Nat.reduceLT,Nat.reduceSub,Int.reduceLT,Int.reduceLE,Int.reduceEq,Int.reduceNe,Int.reduceSub,Int.reduceAdd,Int.reduceMul,Int.reduceBEq,Int.reduceBNe,Int.reduceGT,Int.reduceGE,Nat.reduceGT,Int.reduceToNat,Int.reduceNeg,Nat.reduceLeDiff,Nat.reduceBEq,Nat.reduceBneDiff, Option.isSome]
      exact ⟨le04, _, rfl, Ow.nil _ _ _⟩
    | some key =>
      obtain rfl := wk key hk
      obtain ⟨x, hx, ek, -⟩ := getK_mem hk
      have hkr := hR x hx
      rw [ek] at hkr
      have g := goodE_iff hg
      obtain ⟨⟨d1, d2⟩, ⟨n1, n2⟩, -, -, -, -, -, -, -⟩ := g
      obtain ⟨K, hK⟩ : ∃ K : Nat, k = K := ⟨k.toNat, by omega⟩
      obtain ⟨D, hD⟩ : ∃ D : Nat, e.dev = D := ⟨e.dev.toNat, by omega⟩
      obtain ⟨N, hN⟩ : ∃ N : Nat, e.n = N := ⟨e.n.toNat, by omega⟩
      have tK : k.toNat = K := by omega
      have tD : e.dev.toNat = D := by omega
      have tN : e.n.toNat = N := by omega
      have A4 := A.le h8 (Heap.le_trans le2 le24)
      simp -implicitDefEqProofs only [zA,reduceIte,reduceCtorEq,Nat.reduceEqDiff,Nat.reduceAdd,Nat.reduceMul,Nat.reduceLT,Nat.reduceSub,Int.reduceLT,Int.reduceLE,Int.reduceEq,Int.reduceNe,Int.reduceSub,Int.reduceAdd,Int.reduceMul,Int.reduceBEq,Int.reduceBNe,Int.reduceGT,Int.reduceGE,Nat.reduceGT,Int.reduceToNat,Int.reduceNeg,Nat.reduceLeDiff,Nat.reduceBEq,Nat.reduceBneDiff, Option.isSome, A4.all]
      refine (op_Put_c E H4 e h8 o.con o.fld o.n1 o.n2).mono ?_
      rintro r1 H5 ⟨le5, ow5⟩
      simp -implicitDefEqProofs only [zA,reduceIte,reduceCtorEq,Nat.reduceEqDiff,Nat.reduceAdd,Nat.reduceMul,Nat.reduceLT,Nat.reduceSub,Int.reduceLT,Int.reduceLE,Int.reduceEq,Int.reduceNe,Int.reduceSub,Int.reduceAdd,Int.reduceMul,Int.reduceBEq,Int.reduceBNe,Int.reduceGT,Int.reduceGE,Nat.reduceGT,Int.reduceToNat,Int.reduceNeg,Nat.reduceLeDiff,Nat.reduceBEq,Nat.reduceBneDiff]
      refine (pad_Pad_c E H5 _ (by omega) ow5.sl).mono ?_
      rintro r2 H6 ⟨le6, r', rfl, ow6⟩
      have ep : putG e = putE e := by unfold putG; rw [if_pos hg]
      rw [ep] at ow6 pl
      have hp := padF_len (l := putE e) (by omega)
      have hb2 := bk_gt (n := (putE e).length) (by omega)
      have le46 := Heap.le_trans le5 le6
      have A6 := A4.le h8 le46
      unfold bodyF
      rw [tK, tD, tN, hK]
      simp -implicitDefEqProofs only [zA,reduceIte,reduceCtorEq,Nat.reduceEqDiff,Nat.reduceAdd,Nat.reduceMul,Nat.reduceLT,Nat.reduceSub,Int.reduceLT,Int.reduceLE,Int.reduceEq,Int.reduceNe,Int.reduceSub,Int.reduceAdd,Int.reduceMul,Int.reduceBEq,Int.reduceBNe,Int.reduceGT,Int.reduceGE,Nat.reduceGT,Int.reduceToNat,Int.reduceNeg,Nat.reduceLeDiff,Nat.reduceBEq,Nat.reduceBneDiff]
      unfold ir_seal_Seal_34
      have dot6 : ∀ G, EdAt G b e → hcells G ⟨b, 0, none⟩ 2 = some (dotC D N) := fun G a => by
        rw [hcells_at a.own (by omega)]
        simp only [edC, List.drop_zero, List.take_succ_cons, List.take_zero, hD, hN, dotC]
      have d6 := dot6 H6 A6
      simp -implicitDefEqProofs only [zA,reduceIte,reduceCtorEq,Nat.reduceEqDiff,Nat.reduceAdd,Nat.reduceMul,Nat.reduceLT,Nat.reduceSub,Int.reduceLT,Int.reduceLE,Int.reduceEq,Int.reduceNe,Int.reduceSub,Int.reduceAdd,Int.reduceMul,Int.reduceBEq,Int.reduceBNe,Int.reduceGT,Int.reduceGE,Nat.reduceGT,Int.reduceToNat,Int.reduceNeg,Nat.reduceLeDiff,Nat.reduceBEq,Nat.reduceBneDiff, d6]
      refine (seal_label_c E H6 K D N (by omega) (by omega) (by omega)).mono ?_
      rintro r3 H7 ⟨le7, ow7⟩
      have ll := labW_len (a := K) (d := D) (n := N) (by omega) (by omega) (by omega)
      have A7 := A6.le h8 le7
      have aD := A7.dev
      have aN := A7.n
      rw [hD] at aD
      rw [hN] at aN
      simp -implicitDefEqProofs only [zA,reduceIte,reduceCtorEq,Nat.reduceEqDiff,Nat.reduceAdd,Nat.reduceMul,Nat.reduceLT,Nat.reduceSub,Int.reduceLT,Int.reduceLE,Int.reduceEq,Int.reduceNe,Int.reduceSub,Int.reduceAdd,Int.reduceMul,Int.reduceBEq,Int.reduceBNe,Int.reduceGT,Int.reduceGE,Nat.reduceGT,Int.reduceToNat,Int.reduceNeg,Nat.reduceLeDiff,Nat.reduceBEq,Nat.reduceBneDiff, aD, aN]
      refine (epoch_Nonce_c E H7 D N (by omega) (by omega)).mono ?_
      rintro r4 H8 ⟨le8', rfl⟩
      have cw : ∀ G, H4.le G → hcells G ⟨b8, 0, none⟩ 32 = some (W.map u8V) := fun G x => by
        rw [hcells_at (x _ _ q8) (by simp [wl])]; simp [List.take_of_length_le, wl]
      have cw7 := cw H7 (Heap.le_trans le46 le7)
      have cw8 := cw H8 (Heap.le_trans le46 (Heap.le_trans le7 le8'))
      simp -implicitDefEqProofs only [zA,reduceIte,reduceCtorEq,Nat.reduceEqDiff,Nat.reduceAdd,Nat.reduceMul,Nat.reduceLT,Nat.reduceSub,Int.reduceLT,Int.reduceLE,Int.reduceEq,Int.reduceNe,Int.reduceSub,Int.reduceAdd,Int.reduceMul,Int.reduceBEq,Int.reduceBNe,Int.reduceGT,Int.reduceGE,Nat.reduceGT,Int.reduceToNat,Int.reduceNeg,Nat.reduceLeDiff,Nat.reduceBEq,Nat.reduceBneDiff, cw7, cw8, implies_true, List.mem_cons, List.not_mem_nil, List.mem_singleton, or_false, forall_eq, forall_eq_or_imp, and_self]
      refine (aead_Seal_c E H8 W (nonceF D N) (padF (putE e)) (labW K D N) wl (nonceF_len _ _) (by omega) (by omega) (ow6.sl.le (Heap.le_trans le7 le8')) (ow7.sl.le le8')).mono ?_
      rintro r5 H9 ⟨le9, r5', rfl, ow9⟩
      have sl' := sealF_len W (nonceF D N) (padF (putE e)) (labW K D N)
      simp -implicitDefEqProofs only [zA,reduceIte,reduceCtorEq,Nat.reduceEqDiff,Nat.reduceAdd,Nat.reduceMul,Nat.reduceLT,Nat.reduceSub,Int.reduceLT,Int.reduceLE,Int.reduceEq,Int.reduceNe,Int.reduceSub,Int.reduceAdd,Int.reduceMul,Int.reduceBEq,Int.reduceBNe,Int.reduceGT,Int.reduceGE,Nat.reduceGT,Int.reduceToNat,Int.reduceNeg,Nat.reduceLeDiff,Nat.reduceBEq,Nat.reduceBneDiff]
      unfold ir_seal_Seal_52
      simp -implicitDefEqProofs only [zA,reduceIte,reduceCtorEq,Nat.reduceEqDiff,Nat.reduceAdd,Nat.reduceMul,Nat.reduceLT,Nat.reduceSub,Int.reduceLT,Int.reduceLE,Int.reduceEq,Int.reduceNe,Int.reduceSub,Int.reduceAdd,Int.reduceMul,Int.reduceBEq,Int.reduceBNe,Int.reduceGT,Int.reduceGE,Nat.reduceGT,Int.reduceToNat,Int.reduceNeg,Nat.reduceLeDiff,Nat.reduceBEq,Nat.reduceBneDiff]
      refine (wire_Bytes_c E H9 _ _ (by omega) (by omega) (ow7.sl.le (Heap.le_trans le8' le9)) ow9.sl).mono ?_
      rintro r6 H10 ⟨le10, ow10⟩
      simp -implicitDefEqProofs only [zA,reduceIte,reduceCtorEq,Nat.reduceEqDiff,Nat.reduceAdd,Nat.reduceMul,Nat.reduceLT,Nat.reduceSub,Int.reduceLT,Int.reduceLE,Int.reduceEq,Int.reduceNe,Int.reduceSub,Int.reduceAdd,Int.reduceMul,Int.reduceBEq,Int.reduceBNe,Int.reduceGT,Int.reduceGE,Nat.reduceGT,Int.reduceToNat,Int.reduceNeg,Nat.reduceLeDiff,Nat.reduceBEq,Nat.reduceBneDiff]
      have leA := Heap.le_trans le04 (Heap.le_trans le46 (Heap.le_trans le7 (Heap.le_trans le8' le9)))
      exact ⟨Heap.le_trans leA le10, _, rfl, ow10.since leA⟩
end Go.Bb
/- Contracts: numbers and texts read. -/
namespace Go.Bb
set_option linter.unusedSimpArgs false
set_option linter.unusedVariables false
set_option maxRecDepth 20000
set_option maxHeartbeats 2000000

/-- All but one block stays. -/
def Kp (b : Nat) (H H' : Heap) : Prop := ∀ c x, c ≠ b → H c = some x → H' c = some x
theorem Kp.refl (b : Nat) (H : Heap) : Kp b H H := fun _ _ _ h => h
theorem Kp.of {b : Nat} {H H' : Heap} (le : H.le H') : Kp b H H' := fun c x _ h => le c x h
theorem Kp.trans {b : Nat} {H H' H'' : Heap} (x : Kp b H H') (y : Kp b H' H'') : Kp b H H'' := fun c z n h => y c z n (x c z n h)
theorem Kp.set (b : Nat) (H : Heap) (X : Blk) : Kp b H (H.set b X) := fun c x n h => by rw [Heap.set_ne n]; exact h
theorem Ow.kp {h0 H H' : Heap} {b size : Nat} {v : Value} {n : Nat} {cells : List Value} (s : Ow h0 H size v n cells) (k : Kp b H H') (hb : h0 b ≠ none) : Ow h0 H' size v n cells := by
  rcases s with s | ⟨b', o, c, sz, st, pre, rest, h1, h2, h3, h4, h5⟩
  · exact .inl s
  · exact .inr ⟨b', o, c, sz, st, pre, rest, h1, h2, h3, k _ _ (by intro e; subst e; exact hb h3) h4, h5⟩
/-- A reader at its place. -/
def RdR (h0 H : Heap) (b : Nat) (s : RS) : Prop := h0.le H ∧ h0 b = none ∧ ∃ v, H b = some (.own 0 [v, .bool s.isNone] 2) ∧ SlB h0 v (s.getD [])
theorem RdR.le {h0 H H' : Heap} {b : Nat} {s : RS} (R : RdR h0 H b s) (le : H.le H') : RdR h0 H' b s := by
  obtain ⟨a, c, v, q, sl⟩ := R
  exact ⟨Heap.le_trans a le, c, v, le _ _ q, sl⟩
theorem RdR.put {h0 H : Heap} {b : Nat} {s : RS} (R : RdR h0 H b s) (s' : RS) {v : Value} (sl : SlB h0 v (s'.getD [])) : RdR h0 (H.set b (.own 0 [v, .bool s'.isNone] 2)) b s' := by
  obtain ⟨a, c, v0, q, -⟩ := R
  exact ⟨Heap.le_set a c _, c, v, Heap.set_self _ _ _, sl⟩
theorem RdR.ne {h0 H : Heap} {b : Nat} {s : RS} (R : RdR h0 H b s) : H b ≠ none := by
  obtain ⟨a, c, v0, q, -⟩ := R
  rw [q]; simp

/-- What is new alone. -/
def newH (h h1 : Heap) : Heap := fun c => if h c = none then h1 c else none
theorem newH_le (h h1 : Heap) : (newH h h1).le h1 := fun c x e => by
  unfold newH at e
  split at e
  · exact e
  · cases e
theorem Ow.newH {h h1 : Heap} {size : Nat} {v : Value} {n : Nat} {cells : List Value} (s : Ow h h1 size v n cells) : Sl (newH h h1) size v n cells := by
  have : Ow h (Bb.newH h h1) size v n cells := by
    rcases s with s | ⟨b, o, c, sz, st, pre, rest, h1, h2, h3, h4, h5⟩
    · exact .inl s
    · refine .inr ⟨b, o, c, sz, st, pre, rest, h1, h2, h3, ?_, h5⟩
      unfold Bb.newH
      rw [if_pos h3]
      exact h4
  exact this.sl
theorem wire_Read_c (E : EnvT tab) (h : Heap) {v : Value} (l : List UInt8) (hl : l.length ≤ 100000000) (s : SlB h v l) :
    ACallN E.toEnv n_wire_Read [v] h fun r h' => ∃ b, r = .pointer (some ⟨b, 0, none⟩) ∧ h b = none ∧ h.le h' ∧ ∃ h0, (∀ c, h c ≠ none → h0 c = none) ∧ RdR h0 h' b (some l) := by
  refine acall h_wire_Read ir_wire_Read rfl rfl (wpA_sound ?_)
  unfold ir_wire_Read
  simp -implicitDefEqProofs only [zA,reduceIte,reduceCtorEq,Nat.reduceEqDiff,Nat.reduceAdd,Nat.reduceMul,Nat.reduceLT,Nat.reduceSub,Int.reduceLT,Int.reduceLE,Int.reduceEq,Int.reduceNe,Int.reduceSub,Int.reduceAdd,Int.reduceMul,Int.reduceBEq,Int.reduceBNe,Int.reduceGT,Int.reduceGE,Nat.reduceGT,Int.reduceToNat,Int.reduceNeg,Nat.reduceLeDiff,Nat.reduceBEq,Nat.reduceBneDiff]
  refine (bytes_Clone_c E h l (by omega) s).mono ?_
  rintro r h1 ⟨le1, ow⟩
  obtain ⟨rb, rc, rfl⟩ := Sl.shape ow.sl
  simp -implicitDefEqProofs only [zA,reduceIte,reduceCtorEq,Nat.reduceEqDiff,Nat.reduceAdd,Nat.reduceMul,Nat.reduceLT,Nat.reduceSub,Int.reduceLT,Int.reduceLE,Int.reduceEq,Int.reduceNe,Int.reduceSub,Int.reduceAdd,Int.reduceMul,Int.reduceBEq,Int.reduceBNe,Int.reduceGT,Int.reduceGE,Nat.reduceGT,Int.reduceToNat,Int.reduceNeg,Nat.reduceLeDiff,Nat.reduceBEq,Nat.reduceBneDiff]
  intro b hb
  try simp -implicitDefEqProofs only [zA,reduceIte,reduceCtorEq,Nat.reduceEqDiff,Nat.reduceAdd,Nat.reduceMul,Nat.reduceLT,Nat.reduceSub,Int.reduceLT,Int.reduceLE,Int.reduceEq,Int.reduceNe,Int.reduceSub,Int.reduceAdd,Int.reduceMul,Int.reduceBEq,Int.reduceBNe,Int.reduceGT,Int.reduceGE,Nat.reduceGT,Int.reduceToNat,Int.reduceNeg,Nat.reduceLeDiff,Nat.reduceBEq,Nat.reduceBneDiff]
  refine ⟨b, rfl, Heap.none_of_le le1 hb, Heap.le_new le1 hb _, newH h h1, ?_, Heap.le_set (newH_le h h1) (Heap.none_of_le (newH_le h h1) hb) _, Heap.none_of_le (newH_le h h1) hb, _, Heap.set_self _ _ _, ow.newH⟩
  intro c hc
  unfold newH
  rw [if_neg hc]
theorem wire_fail_c (E : EnvT tab) {h0 H : Heap} {b : Nat} {s : RS} (R : RdR h0 H b s) :
    ACallN E.toEnv n_wire_Reader_fail [.pointer (some ⟨b, 0, none⟩)] H fun r h' => r = .int .i64 0 ∧ RdR h0 h' b none ∧ Kp b H h' := by
  obtain ⟨a, c, v, q, sl⟩ := R
  refine acall h_wire_Reader_fail ir_wire_Reader_fail rfl rfl (wpA_sound ?_)
  unfold ir_wire_Reader_fail
  have st : storeV H 1 (.pointer (some ⟨b, 0, none⟩)) (.slice none 0 0) = some (H.set b (.own 0 [.slice none 0 0, .bool s.isNone] 2)) := storeV_one_at q rfl (by simp) (by simp)
  have q2 : (H.set b (.own 0 [.slice none 0 0, .bool s.isNone] 2)) b = some (.own 0 [.slice none 0 0, .bool s.isNone] 2) := Heap.set_self _ _ _
  have st2 : storeV (H.set b (.own 0 [.slice none 0 0, .bool s.isNone] 2)) 1 (.pointer (some ⟨b, 1, none⟩)) (.bool true) = some ((H.set b (.own 0 [.slice none 0 0, .bool s.isNone] 2)).set b (.own 0 [.slice none 0 0, .bool true] 2)) := storeV_one_at q2 rfl (by simp) (by simp)
  simp -implicitDefEqProofs only [zA,reduceIte,reduceCtorEq,Nat.reduceEqDiff,Nat.reduceAdd,Nat.reduceMul,Nat.reduceLT,Nat.reduceSub,Int.reduceLT,Int.reduceLE,Int.reduceEq,Int.reduceNe,Int.reduceSub,Int.reduceAdd,Int.reduceMul,Int.reduceBEq,Int.reduceBNe,Int.reduceGT,Int.reduceGE,Nat.reduceGT,Int.reduceToNat,Int.reduceNeg,Nat.reduceLeDiff,Nat.reduceBEq,Nat.reduceBneDiff, st, st2]
  exact ⟨⟨Heap.le_set a c _, c, .slice none 0 0, Heap.set_self _ _ _, .inl ⟨rfl, rfl, rfl⟩⟩, Kp.set _ _ _⟩
theorem wire_Bad_c (E : EnvT tab) {h0 H : Heap} {b : Nat} {s : RS} (R : RdR h0 H b s) :
    ACallN E.toEnv n_wire_Reader_Bad [.pointer (some ⟨b, 0, none⟩)] H fun r h' => h' = H ∧ r = .bool s.isNone := by
  obtain ⟨a, c, v, q, sl⟩ := R
  refine acall h_wire_Reader_Bad ir_wire_Reader_Bad rfl rfl (wpA_sound ?_)
  unfold ir_wire_Reader_Bad
  have c1 : hcell H ⟨b, 1, none⟩ = some (.bool s.isNone) := by rw [hcell_at q (by simp)]; rfl
  simp -implicitDefEqProofs only [zA,reduceIte,reduceCtorEq,Nat.reduceEqDiff,Nat.reduceAdd,Nat.reduceMul,Nat.reduceLT,Nat.reduceSub,Int.reduceLT,Int.reduceLE,Int.reduceEq,Int.reduceNe,Int.reduceSub,Int.reduceAdd,Int.reduceMul,Int.reduceBEq,Int.reduceBNe,Int.reduceGT,Int.reduceGE,Nat.reduceGT,Int.reduceToNat,Int.reduceNeg,Nat.reduceLeDiff,Nat.reduceBEq,Nat.reduceBneDiff, c1]
def endS (s : RS) : Bool := decide (s = some [])
theorem wire_End_c (E : EnvT tab) {h0 H : Heap} {b : Nat} {s : RS} (R : RdR h0 H b s) :
    ACallN E.toEnv n_wire_Reader_End [.pointer (some ⟨b, 0, none⟩)] H fun r h' => h' = H ∧ r = .bool (endS s) := by
  obtain ⟨a, c, v, q, sl⟩ := R
  refine acall h_wire_Reader_End ir_wire_Reader_End rfl rfl (wpA_sound ?_)
  unfold ir_wire_Reader_End
  have c1 : hcell H ⟨b, 1, none⟩ = some (.bool s.isNone) := by rw [hcell_at q (by simp)]; rfl
  have c0 : hcell H ⟨b, 0, none⟩ = some v := by rw [hcell_at q (by simp)]; rfl
  cases s with
  | none =>
    have e : endS none = false := rfl
    rw [e]
    simp -implicitDefEqProofs only [zA,reduceIte,reduceCtorEq,Nat.reduceEqDiff,Nat.reduceAdd,Nat.reduceMul,Nat.reduceLT,Nat.reduceSub,Int.reduceLT,Int.reduceLE,Int.reduceEq,Int.reduceNe,Int.reduceSub,Int.reduceAdd,Int.reduceMul,Int.reduceBEq,Int.reduceBNe,Int.reduceGT,Int.reduceGE,Nat.reduceGT,Int.reduceToNat,Int.reduceNeg,Nat.reduceLeDiff,Nat.reduceBEq,Nat.reduceBneDiff, c1, Option.isNone]
  | some l =>
    obtain ⟨vb, vc, rfl⟩ := Sl.shape sl
    simp only [Option.getD_some] at c0 sl
    by_cases g : l = []
    · subst g
      have e : endS (some []) = true := rfl
      rw [e]
      simp -implicitDefEqProofs only [zA,reduceIte,reduceCtorEq,Nat.reduceEqDiff,Nat.reduceAdd,Nat.reduceMul,Nat.reduceLT,Nat.reduceSub,Int.reduceLT,Int.reduceLE,Int.reduceEq,Int.reduceNe,Int.reduceSub,Int.reduceAdd,Int.reduceMul,Int.reduceBEq,Int.reduceBNe,Int.reduceGT,Int.reduceGE,Nat.reduceGT,Int.reduceToNat,Int.reduceNeg,Nat.reduceLeDiff,Nat.reduceBEq,Nat.reduceBneDiff, c1, c0, Option.isNone, List.length_nil]
    · have e : endS (some l) = false := by simp [endS, g]
      have hl : ((l.length : Int) == 0) = false := by
        have := List.length_pos_iff.2 g
        rw [beq_eq_false_iff_ne]
        omega
      rw [e]
      simp -implicitDefEqProofs only [zA,reduceIte,reduceCtorEq,Nat.reduceEqDiff,Nat.reduceAdd,Nat.reduceMul,Nat.reduceLT,Nat.reduceSub,Int.reduceLT,Int.reduceLE,Int.reduceEq,Int.reduceNe,Int.reduceSub,Int.reduceAdd,Int.reduceMul,Int.reduceBEq,Int.reduceBNe,Int.reduceGT,Int.reduceGE,Nat.reduceGT,Int.reduceToNat,Int.reduceNeg,Nat.reduceLeDiff,Nat.reduceBEq,Nat.reduceBneDiff, c1, c0, Option.isNone, hl]
theorem wire_take_c (E : EnvT tab) {h0 H : Heap} {b : Nat} {s : RS} (R : RdR h0 H b s) (n : Nat) (hn : n ≤ 100000000) (hs : s = none → n = 0) :
    ACallN E.toEnv n_wire_Reader_take [.pointer (some ⟨b, 0, none⟩), .int .i64 n] H fun r h' => OwB H h' r (takeS n s).1 ∧ RdR h0 h' b (takeS n s).2 ∧ Kp b H h' := by
  have R0 := R
  have ne := R.ne
  obtain ⟨a, c, v, q, sl⟩ := R
  obtain ⟨vb, vc, rfl⟩ := Sl.shape sl
  refine acall h_wire_Reader_take ir_wire_Reader_take rfl rfl (wpA_sound ?_)
  unfold ir_wire_Reader_take
  have c0 : hcell H ⟨b, 0, none⟩ = some (.slice vb (s.getD []).length vc) := by rw [hcell_at q (by simp)]; rfl
  by_cases g : ((s.getD []).length : Int) < n
  · have g' : (s.getD []).length < n := by omega
    have e : takeS n s = ([], none) := by
      cases s with
      | none => rfl
      | some l => simp only [takeS]; rw [if_neg]; simp at g'; omega
    rw [e]
    simp -implicitDefEqProofs only [zA,reduceIte,reduceCtorEq,Nat.reduceEqDiff,Nat.reduceAdd,Nat.reduceMul,Nat.reduceLT,Nat.reduceSub,Int.reduceLT,Int.reduceLE,Int.reduceEq,Int.reduceNe,Int.reduceSub,Int.reduceAdd,Int.reduceMul,Int.reduceBEq,Int.reduceBNe,Int.reduceGT,Int.reduceGE,Nat.reduceGT,Int.reduceToNat,Int.reduceNeg,Nat.reduceLeDiff,Nat.reduceBEq,Nat.reduceBneDiff, c0, g]
    refine (wire_fail_c E R0).mono ?_
    rintro r H1 ⟨rfl, R1, k1⟩
    simp -implicitDefEqProofs only [zA,reduceIte,reduceCtorEq,Nat.reduceEqDiff,Nat.reduceAdd,Nat.reduceMul,Nat.reduceLT,Nat.reduceSub,Int.reduceLT,Int.reduceLE,Int.reduceEq,Int.reduceNe,Int.reduceSub,Int.reduceAdd,Int.reduceMul,Int.reduceBEq,Int.reduceBNe,Int.reduceGT,Int.reduceGE,Nat.reduceGT,Int.reduceToNat,Int.reduceNeg,Nat.reduceLeDiff,Nat.reduceBEq,Nat.reduceBneDiff]
    exact ⟨Ow.nil _ _ _, R1, k1⟩
  · have g' : n ≤ (s.getD []).length := by omega
    have e : takeS n s = ((s.getD []).take n, s.map (·.drop n)) := by
      cases s with
      | none => have := hs rfl
                subst this; rfl
      | some l => simp only [takeS]; rw [if_pos (by simpa using g')]; rfl
    rw [e]
    have hc : (s.getD []).length ≤ vc := by
      rcases sl with ⟨e, hn, _⟩ | ⟨a', c', e, hc, _⟩
      · omega
      · simp only [Value.slice.injEq] at e
        omega
    simp -implicitDefEqProofs only [zA,reduceIte,reduceCtorEq,Nat.reduceEqDiff,Nat.reduceAdd,Nat.reduceMul,Nat.reduceLT,Nat.reduceSub,Int.reduceLT,Int.reduceLE,Int.reduceEq,Int.reduceNe,Int.reduceSub,Int.reduceAdd,Int.reduceMul,Int.reduceBEq,Int.reduceBNe,Int.reduceGT,Int.reduceGE,Nat.reduceGT,Int.reduceToNat,Int.reduceNeg,Nat.reduceLeDiff,Nat.reduceBEq,Nat.reduceBneDiff, c0, g]
    unfold ir_wire_Reader_take_15
    have e3 : (0 : Int) ≤ n := by omega
    simp -implicitDefEqProofs only [zA,reduceIte,reduceCtorEq,Nat.reduceEqDiff,Nat.reduceAdd,Nat.reduceMul,Nat.reduceLT,Nat.reduceSub,Int.reduceLT,Int.reduceLE,Int.reduceEq,Int.reduceNe,Int.reduceSub,Int.reduceAdd,Int.reduceMul,Int.reduceBEq,Int.reduceBNe,Int.reduceGT,Int.reduceGE,Nat.reduceGT,Int.reduceToNat,Int.reduceNeg,Nat.reduceLeDiff,Nat.reduceBEq,Nat.reduceBneDiff, c0, bnds_hi e3 (show (n : Int) ≤ vc by omega), sl_pre, sl_preA]
    have s1 := Sl.midB sl (a := 0) (b := n) (by omega) g'
    have s2 := Sl.midB sl (a := n) (b := (s.getD []).length) g' (Nat.le_refl _)
    have l1 : (((s.getD []).drop 0).take (n - 0)).length ≤ 140737488355328 := by rw [List.length_take]; omega
    rw [Int.toNat_natCast]
    refine (bytes_Clone_c E H _ l1 (s1.le a)).mono ?_
    rintro r H1 ⟨le1, ow⟩
    rw [List.drop_zero, Nat.sub_zero] at ow
    rw [List.take_of_length_le (by rw [List.length_drop]; omega)] at s2
    have c01 : hcell H1 ⟨b, 0, none⟩ = some (.slice vb (s.getD []).length vc) := by rw [hcell_at (le1 _ _ q) (by simp)]; rfl
    have b1 := bnds_lo (c := vc) (k := .i64) e3 (show (n : Int) ≤ ((s.getD []).length : Nat) by omega)
    have hs' : (s.map (·.drop n)).getD [] = (s.getD []).drop n := by cases s <;> simp
    have hi' : (s.map (·.drop n)).isNone = s.isNone := by cases s <;> rfl
    simp -implicitDefEqProofs only [zA,reduceIte,reduceCtorEq,Nat.reduceEqDiff,Nat.reduceAdd,Nat.reduceMul,Nat.reduceLT,Nat.reduceSub,Int.reduceLT,Int.reduceLE,Int.reduceEq,Int.reduceNe,Int.reduceSub,Int.reduceAdd,Int.reduceMul,Int.reduceBEq,Int.reduceBNe,Int.reduceGT,Int.reduceGE,Nat.reduceGT,Int.reduceToNat,Int.reduceNeg,Nat.reduceLeDiff,Nat.reduceBEq,Nat.reduceBneDiff, c01, b1, Int.toNat_natCast]
    generalize hv : (if vc = n then vb else vb.map fun x => x.add n) = v1 at s2 ⊢
    have R1 : RdR h0 H1 b s := R0.le le1
    have st : storeV H1 1 (.pointer (some ⟨b, 0, none⟩)) (.slice v1 ((s.getD []).length - n) (vc - n)) = some (H1.set b (.own 0 [.slice v1 ((s.getD []).length - n) (vc - n), .bool s.isNone] 2)) := storeV_one_at (le1 _ _ q) rfl (by simp) (by simp)
    simp -implicitDefEqProofs only [zA,reduceIte,reduceCtorEq,Nat.reduceEqDiff,Nat.reduceAdd,Nat.reduceMul,Nat.reduceLT,Nat.reduceSub,Int.reduceLT,Int.reduceLE,Int.reduceEq,Int.reduceNe,Int.reduceSub,Int.reduceAdd,Int.reduceMul,Int.reduceBEq,Int.reduceBNe,Int.reduceGT,Int.reduceGE,Nat.reduceGT,Int.reduceToNat,Int.reduceNeg,Nat.reduceLeDiff,Nat.reduceBEq,Nat.reduceBneDiff, st]
    have k1 : Kp b H1 (H1.set b (.own 0 [.slice v1 ((s.getD []).length - n) (vc - n), .bool s.isNone] 2)) := Kp.set _ _ _
    refine ⟨Ow.kp ow k1 ne, ?_, (Kp.of le1).trans k1⟩
    have := R1.put (s.map (·.drop n)) (v := .slice v1 ((s.getD []).length - n) (vc - n)) (by rw [hs']; exact s2)
    rw [hi'] at this
    exact this
theorem and127 : ∀ x : Fin 256, (BitVec.ofNat 8 x.val &&& ~~~(128#8)).toNat = x.val % 128 := by decide
theorem and128 : ∀ x : Fin 256, (BitVec.ofNat 8 x.val &&& 128#8).toNat = if 128 ≤ x.val then 128 else 0 := by decide
theorem u8_7 (x : UInt8) : IntKind.u8.wrap (((BitVec.ofInt IntKind.u8.bits (x.toNat : Int) &&& ~~~BitVec.ofInt IntKind.u8.bits 128).toNat : Nat) : Int) = ((x.toNat % 128 : Nat) : Int) := by
  have e : BitVec.ofInt IntKind.u8.bits (x.toNat : Int) = BitVec.ofNat 8 x.toNat := by rw [BitVec.ofInt_natCast]; rfl
  have e2 : BitVec.ofInt IntKind.u8.bits 128 = 128#8 := rfl
  have h := and127 ⟨x.toNat, x.toNat_lt⟩
  simp only at h
  rw [e, e2, u8_low]
  show (((BitVec.ofNat 8 x.toNat &&& ~~~(128#8)).toNat % 256 : Nat) : Int) = _
  rw [h]
  omega
theorem u8_8 (x : UInt8) : IntKind.u8.wrap (((BitVec.ofInt IntKind.u8.bits (x.toNat : Int) &&& BitVec.ofInt IntKind.u8.bits 128).toNat : Nat) : Int) = if 128 ≤ x.toNat then 128 else 0 := by
  have e : BitVec.ofInt IntKind.u8.bits (x.toNat : Int) = BitVec.ofNat 8 x.toNat := by rw [BitVec.ofInt_natCast]; rfl
  have e2 : BitVec.ofInt IntKind.u8.bits 128 = 128#8 := rfl
  have h := and128 ⟨x.toNat, x.toNat_lt⟩
  simp only at h
  rw [e, e2, u8_low]
  show (((BitVec.ofNat 8 x.toNat &&& 128#8).toNat % 256 : Nat) : Int) = _
  rw [h]
  split <;> rfl
theorem or_add (V c k : Nat) (hV : V < 2 ^ k) (hs : V + c * 2 ^ k < 9223372036854775808) : IntKind.i64.wrap (((BitVec.ofInt IntKind.i64.bits (V : Int) ||| BitVec.ofInt IntKind.i64.bits ((c * 2 ^ k : Nat) : Int)).toNat : Nat) : Int) = ((V + c * 2 ^ k : Nat) : Int) := by
  have e1 : BitVec.ofInt IntKind.i64.bits (V : Int) = BitVec.ofNat 64 V := by rw [BitVec.ofInt_natCast]; rfl
  have e2 : BitVec.ofInt IntKind.i64.bits ((c * 2 ^ k : Nat) : Int) = BitVec.ofNat 64 (c * 2 ^ k) := by rw [BitVec.ofInt_natCast]; rfl
  rw [e1, e2]
  show IntKind.i64.wrap (((BitVec.ofNat 64 V ||| BitVec.ofNat 64 (c * 2 ^ k)).toNat : Nat) : Int) = _
  have h := Nat.two_pow_add_eq_or_of_lt hV c
  have e3 : (BitVec.ofNat 64 V ||| BitVec.ofNat 64 (c * 2 ^ k)).toNat = V + c * 2 ^ k := by
    rw [BitVec.toNat_or, BitVec.toNat_ofNat, BitVec.toNat_ofNat, Nat.mod_eq_of_lt (by omega), Nat.mod_eq_of_lt (by omega), Nat.or_comm, Nat.mul_comm c, ← h, Nat.add_comm]
  rw [e3, wrapI (by omega) (by omega)]
theorem pow_le9 {i : Nat} (h : i < 9) : 128 ^ i ≤ 72057594037927936 := by
  have : 128 ^ i ≤ 128 ^ 8 := Nat.pow_le_pow_right (by omega) (by omega)
  simpa using this
theorem wire_RNum_c (E : EnvT tab) {h0 H : Heap} {b : Nat} {s : RS} (R : RdR h0 H b s) (lim : Nat) (hlim : lim < 9223372036854775808) (hlen : (s.getD []).length ≤ 100000000) :
    ACallN E.toEnv n_wire_Reader_Num [.pointer (some ⟨b, 0, none⟩), .int .i64 lim] H fun r h' => r = .int .i64 (numS lim s).1 ∧ RdR h0 h' b (numS lim s).2 ∧ Kp b H h' := by
  have R0 := R
  obtain ⟨a, c, v, q, sl⟩ := R
  obtain ⟨vb, vc, rfl⟩ := Sl.shape sl
  refine acall h_wire_Reader_Num ir_wire_Reader_Num rfl rfl (wpA_sound ?_)
  unfold ir_wire_Reader_Num
  have hc : (s.getD []).length ≤ vc := by
    rcases sl with ⟨e, hn, _⟩ | ⟨a', c', e, hc, _⟩
    · omega
    · simp only [Value.slice.injEq] at e
      omega
  have c0 : hcell H ⟨b, 0, none⟩ = some (.slice vb (s.getD []).length vc) := by rw [hcell_at q (by simp)]; rfl
  obtain ⟨n, hn⟩ : ∃ n : Nat, n = min (s.getD []).length 9 := ⟨_, rfl⟩
  have mn : (if (9 : Int) < ((s.getD []).length : Int) then (9 : Int) else ((s.getD []).length : Int)) = (n : Int) := by split <;> omega
  have e3 : (0 : Int) ≤ n := by omega
  have s1 := Sl.midB sl (a := 0) (b := n) (by omega) (by omega)
  rw [List.drop_zero, Nat.sub_zero, Nat.sub_zero] at s1
  simp -implicitDefEqProofs only [zA,reduceIte,reduceCtorEq,Nat.reduceEqDiff,Nat.reduceAdd,Nat.reduceMul,Nat.reduceLT,Nat.reduceSub,Int.reduceLT,Int.reduceLE,Int.reduceEq,Int.reduceNe,Int.reduceSub,Int.reduceAdd,Int.reduceMul,Int.reduceBEq,Int.reduceBNe,Int.reduceGT,Int.reduceGE,Nat.reduceGT,Int.reduceToNat,Int.reduceNeg,Nat.reduceLeDiff,Nat.reduceBEq,Nat.reduceBneDiff, c0, mn, bnds_hi e3 (show (n : Int) ≤ vc by omega), Int.toNat_natCast, Nat.sub_zero, sl_pre, sl_preA]
  unfold ir_wire_Reader_Num_21
  generalize (if vc = 0 then vb else vb.map fun x => x.add 0) = v18 at s1 ⊢
  have tl' : ((s.getD []).take n).length = n := by rw [List.length_take]; omega
  have fin : numS lim s = match rdF lim 9 0 0 (s.getD []) with | none => (0, none) | some (n, r) => (n, some r) := by
    cases s with
    | none => rfl
    | some l => rfl
  generalize hl : s.getD [] = l at *
  refine wp_loop' (fun m t G => G = H ∧ ∃ (i V : Nat), t = tl [(0, .pointer (some ⟨b, 0, none⟩)), (1, .int .i64 lim), (5, .int .i64 V), (18, .slice v18 n vc), (19, .int .i64 n), (20, .int .i64 i)] ∧ i ≤ n ∧ m = n - i ∧ V < 128 ^ i ∧ rdF lim 9 0 0 l = rdF lim (9 - i) i V (l.drop i)) n
    ⟨rfl, 0, 0, rfl, by omega, by omega, by omega, rfl⟩ ?_
  rintro m t G ⟨rfl, i, V, rfl, hi, rfl, hV, he⟩
  by_cases hlt : i < n
  · have hi1 : (i : Int) < n := by omega
    have hi2 : (0 : Int) ≤ i := by omega
    obtain ⟨bb, o, cc, hv, hcc, hb⟩ := Sl.byte_at s1 i (by omega)
    rw [tl'] at hv
    simp only [Value.slice.injEq, true_and] at hv
    obtain ⟨rfl, rfl⟩ := hv
    have hb := hb G a
    have ex : ((l.take n)[i]'(by omega)) = l[i]'(by omega) := by rw [List.getElem_take]
    rw [ex] at hb
    generalize hx : l[i]'(by omega) = x at hb
    unfold u8V at hb
    have hx8 := x.toNat_lt
    have hp := pow_le9 (i := i) (by omega)
    have p2 : 128 ^ i = 2 ^ (7 * i) := by rw [Nat.pow_mul]
    have hm : x.toNat % 128 < 128 := Nat.mod_lt _ (by omega)
    have hm2 : x.toNat % 128 * 128 ^ i ≤ 127 * 128 ^ i := Nat.mul_le_mul_right _ (by omega)
    have w7 : IntKind.i64.wrap (7 * (i : Int)) = ((7 * i : Nat) : Int) := by rw [wrapI (by omega) (by omega)]; omega
    have n7 : ¬ (((7 * i : Nat) : Int) < 0) := by omega
    have m7 : min (7 * i) IntKind.i64.bits = 7 * i := by have : IntKind.i64.bits = 64 := rfl
                                                         omega
    have wc : IntKind.i64.wrap ((x.toNat % 128 : Nat) : Int) = ((x.toNat % 128 : Nat) : Int) := wrapI (by omega) (by omega)
    have ws : IntKind.i64.wrap (((x.toNat % 128 : Nat) : Int) * 2 ^ (7 * i)) = ((x.toNat % 128 * 2 ^ (7 * i) : Nat) : Int) := by
      have : (((x.toNat % 128 : Nat) : Int) * 2 ^ (7 * i)) = ((x.toNat % 128 * 2 ^ (7 * i) : Nat) : Int) := by simp
      rw [this, wrapI (by omega) (by rw [← p2]; omega)]
    have wo := or_add V (x.toNat % 128) (7 * i) (by rw [← p2]; exact hV) (by rw [← p2]; omega)
    rw [← p2] at wo
    have ws' := ws
    rw [← p2] at ws'
    have w1 : IntKind.i64.wrap ((i : Int) + 1) = ((i + 1 : Nat) : Int) := wrapN (by omega)
    have hd : l.drop i = x :: l.drop (i + 1) := by rw [List.drop_eq_getElem_cons (by omega), hx]
    have h9 : 9 - i = (8 - i) + 1 := by omega
    rw [hd, h9, rdF] at he
    have hw : V + x.toNat % 128 * 128 ^ i < 128 ^ (i + 1) := by rw [Nat.pow_succ]; omega
    simp -implicitDefEqProofs only [zA,reduceIte,reduceCtorEq,Nat.reduceEqDiff,Nat.reduceAdd,Nat.reduceMul,Nat.reduceLT,Nat.reduceSub,Int.reduceLT,Int.reduceLE,Int.reduceEq,Int.reduceNe,Int.reduceSub,Int.reduceAdd,Int.reduceMul,Int.reduceBEq,Int.reduceBNe,Int.reduceGT,Int.reduceGE,Nat.reduceGT,Int.reduceToNat,Int.reduceNeg,Nat.reduceLeDiff,Nat.reduceBEq,Nat.reduceBneDiff, hi1, hi2, Int.toNat_natCast, hb, u8_7, w7, n7, m7, wc, ws', wo]
    unfold ir_wire_Reader_Num_33
    by_cases g1 : 128 ≤ x.toNat
    · rw [if_pos g1] at he
      simp -implicitDefEqProofs only [zA,reduceIte,reduceCtorEq,Nat.reduceEqDiff,Nat.reduceAdd,Nat.reduceMul,Nat.reduceLT,Nat.reduceSub,Int.reduceLT,Int.reduceLE,Int.reduceEq,Int.reduceNe,Int.reduceSub,Int.reduceAdd,Int.reduceMul,Int.reduceBEq,Int.reduceBNe,Int.reduceGT,Int.reduceGE,Nat.reduceGT,Int.reduceToNat,Int.reduceNeg,Nat.reduceLeDiff,Nat.reduceBEq,Nat.reduceBneDiff, u8_8, g1, w1, bne_self_eq_false]
      refine ⟨n - (i + 1), by omega, i + 1, _, rfl, by omega, rfl, hw, ?_⟩
      have e9 : 9 - (i + 1) = 8 - i := by omega
      rw [e9]; exact he
    · rw [if_neg g1] at he
      have x7 : x.toNat % 128 = x.toNat := Nat.mod_eq_of_lt (by omega)
      generalize hW : V + x.toNat % 128 * 128 ^ i = W at *
      have mx : (if (lim : Int) < 0 then (0 : Int) else (lim : Int)) = (lim : Int) := if_neg (by omega)
      by_cases g2 : 0 < i ∧ x.toNat = 0
      · rw [if_pos (.inl g2)] at he
        obtain ⟨g3, g4⟩ := g2
        have g3' : (0 : Int) < i := by omega
        have z8 : IntKind.u8.wrap (((BitVec.ofInt IntKind.u8.bits 0 &&& BitVec.ofInt IntKind.u8.bits 128).toNat : Nat) : Int) = 0 := by decide
        simp -implicitDefEqProofs only [zA,reduceIte,reduceCtorEq,Nat.reduceEqDiff,Nat.reduceAdd,Nat.reduceMul,Nat.reduceLT,Nat.reduceSub,Int.reduceLT,Int.reduceLE,Int.reduceEq,Int.reduceNe,Int.reduceSub,Int.reduceAdd,Int.reduceMul,Int.reduceBEq,Int.reduceBNe,Int.reduceGT,Int.reduceGE,Nat.reduceGT,Int.reduceToNat,Int.reduceNeg,Nat.reduceLeDiff,Nat.reduceBEq,Nat.reduceBneDiff, z8, g1, g3', g4, Int.natCast_zero, Int.ofNat_zero]
        refine (wire_fail_c E R0).mono ?_
        rintro r H1 ⟨rfl, R1, k1⟩
        rw [fin, he]
        simp -implicitDefEqProofs only [zA,reduceIte,reduceCtorEq,Nat.reduceEqDiff,Nat.reduceAdd,Nat.reduceMul,Nat.reduceLT,Nat.reduceSub,Int.reduceLT,Int.reduceLE,Int.reduceEq,Int.reduceNe,Int.reduceSub,Int.reduceAdd,Int.reduceMul,Int.reduceBEq,Int.reduceBNe,Int.reduceGT,Int.reduceGE,Nat.reduceGT,Int.reduceToNat,Int.reduceNeg,Nat.reduceLeDiff,Nat.reduceBEq,Nat.reduceBneDiff]
        exact ⟨R1, k1⟩
      · have g2' : ¬ ((0 : Int) < i ∧ (x.toNat : Int) = 0) := by omega
        by_cases g5 : lim < W
        · rw [if_pos (.inr g5)] at he
          have g5' : (lim : Int) < W := by omega
          by_cases g3 : (0 : Int) < i
          · have g4 : ¬ (x.toNat : Int) = 0 := by omega
            simp -implicitDefEqProofs only [zA,reduceIte,reduceCtorEq,Nat.reduceEqDiff,Nat.reduceAdd,Nat.reduceMul,Nat.reduceLT,Nat.reduceSub,Int.reduceLT,Int.reduceLE,Int.reduceEq,Int.reduceNe,Int.reduceSub,Int.reduceAdd,Int.reduceMul,Int.reduceBEq,Int.reduceBNe,Int.reduceGT,Int.reduceGE,Nat.reduceGT,Int.reduceToNat,Int.reduceNeg,Nat.reduceLeDiff,Nat.reduceBEq,Nat.reduceBneDiff, u8_8, g1, g3, g4, mx, g5']
            refine (wire_fail_c E R0).mono ?_
            rintro r H1 ⟨rfl, R1, k1⟩
            rw [fin, he]
            simp -implicitDefEqProofs only [zA,reduceIte,reduceCtorEq,Nat.reduceEqDiff,Nat.reduceAdd,Nat.reduceMul,Nat.reduceLT,Nat.reduceSub,Int.reduceLT,Int.reduceLE,Int.reduceEq,Int.reduceNe,Int.reduceSub,Int.reduceAdd,Int.reduceMul,Int.reduceBEq,Int.reduceBNe,Int.reduceGT,Int.reduceGE,Nat.reduceGT,Int.reduceToNat,Int.reduceNeg,Nat.reduceLeDiff,Nat.reduceBEq,Nat.reduceBneDiff]
            exact ⟨R1, k1⟩
          · simp -implicitDefEqProofs only [zA,reduceIte,reduceCtorEq,Nat.reduceEqDiff,Nat.reduceAdd,Nat.reduceMul,Nat.reduceLT,Nat.reduceSub,Int.reduceLT,Int.reduceLE,Int.reduceEq,Int.reduceNe,Int.reduceSub,Int.reduceAdd,Int.reduceMul,Int.reduceBEq,Int.reduceBNe,Int.reduceGT,Int.reduceGE,Nat.reduceGT,Int.reduceToNat,Int.reduceNeg,Nat.reduceLeDiff,Nat.reduceBEq,Nat.reduceBneDiff, u8_8, g1, g3, mx, g5']
            refine (wire_fail_c E R0).mono ?_
            rintro r H1 ⟨rfl, R1, k1⟩
            rw [fin, he]
            simp -implicitDefEqProofs only [zA,reduceIte,reduceCtorEq,Nat.reduceEqDiff,Nat.reduceAdd,Nat.reduceMul,Nat.reduceLT,Nat.reduceSub,Int.reduceLT,Int.reduceLE,Int.reduceEq,Int.reduceNe,Int.reduceSub,Int.reduceAdd,Int.reduceMul,Int.reduceBEq,Int.reduceBNe,Int.reduceGT,Int.reduceGE,Nat.reduceGT,Int.reduceToNat,Int.reduceNeg,Nat.reduceLeDiff,Nat.reduceBEq,Nat.reduceBneDiff]
            exact ⟨R1, k1⟩
        · rw [if_neg (show ¬ ((0 < i ∧ x.toNat = 0) ∨ lim < W) from fun h => h.elim g2 g5)] at he
          have g5' : ¬ (lim : Int) < W := by omega
          have hs : s = some l := by
            cases s with
            | none => have : l.length = 0 := by rw [← hl]; rfl
                      omega
            | some l' => simp only [Option.getD_some] at hl
                         subst hl; rfl
          subst hs
          have s2 := Sl.midB sl (a := i + 1) (b := l.length) (by omega) (Nat.le_refl _)
          rw [List.take_of_length_le (by rw [List.length_drop]; omega)] at s2
          have e4 : (0 : Int) ≤ ((i + 1 : Nat) : Int) := by omega
          have b1 := bnds_lo (c := vc) (k := .i64) e4 (show ((i + 1 : Nat) : Int) ≤ (l.length : Nat) by omega)
          by_cases g3 : (0 : Int) < i
          · have g4 : ¬ (x.toNat : Int) = 0 := by omega
            simp -implicitDefEqProofs only [zA,reduceIte,reduceCtorEq,Nat.reduceEqDiff,Nat.reduceAdd,Nat.reduceMul,Nat.reduceLT,Nat.reduceSub,Int.reduceLT,Int.reduceLE,Int.reduceEq,Int.reduceNe,Int.reduceSub,Int.reduceAdd,Int.reduceMul,Int.reduceBEq,Int.reduceBNe,Int.reduceGT,Int.reduceGE,Nat.reduceGT,Int.reduceToNat,Int.reduceNeg,Nat.reduceLeDiff,Nat.reduceBEq,Nat.reduceBneDiff, u8_8, g1, g3, g4, mx, g5']
            unfold ir_wire_Reader_Num_50
            simp -implicitDefEqProofs only [zA,reduceIte,reduceCtorEq,Nat.reduceEqDiff,Nat.reduceAdd,Nat.reduceMul,Nat.reduceLT,Nat.reduceSub,Int.reduceLT,Int.reduceLE,Int.reduceEq,Int.reduceNe,Int.reduceSub,Int.reduceAdd,Int.reduceMul,Int.reduceBEq,Int.reduceBNe,Int.reduceGT,Int.reduceGE,Nat.reduceGT,Int.reduceToNat,Int.reduceNeg,Nat.reduceLeDiff,Nat.reduceBEq,Nat.reduceBneDiff, c0, w1, b1, Int.toNat_natCast]
            generalize (if vc = i + 1 then vb else vb.map fun x => x.add (i + 1)) = v1 at s2 ⊢
            have st : storeV G 1 (.pointer (some ⟨b, 0, none⟩)) (.slice v1 (l.length - (i + 1)) (vc - (i + 1))) = some (G.set b (.own 0 [.slice v1 (l.length - (i + 1)) (vc - (i + 1)), .bool false] 2)) := storeV_one_at q rfl (by simp) (by simp)
            simp -implicitDefEqProofs only [zA,reduceIte,reduceCtorEq,Nat.reduceEqDiff,Nat.reduceAdd,Nat.reduceMul,Nat.reduceLT,Nat.reduceSub,Int.reduceLT,Int.reduceLE,Int.reduceEq,Int.reduceNe,Int.reduceSub,Int.reduceAdd,Int.reduceMul,Int.reduceBEq,Int.reduceBNe,Int.reduceGT,Int.reduceGE,Nat.reduceGT,Int.reduceToNat,Int.reduceNeg,Nat.reduceLeDiff,Nat.reduceBEq,Nat.reduceBneDiff, st]
            rw [fin, he]
            refine ⟨rfl, ?_, Kp.set _ _ _⟩
            exact R0.put (some (l.drop (i + 1))) (v := .slice v1 (l.length - (i + 1)) (vc - (i + 1))) s2
          · simp -implicitDefEqProofs only [zA,reduceIte,reduceCtorEq,Nat.reduceEqDiff,Nat.reduceAdd,Nat.reduceMul,Nat.reduceLT,Nat.reduceSub,Int.reduceLT,Int.reduceLE,Int.reduceEq,Int.reduceNe,Int.reduceSub,Int.reduceAdd,Int.reduceMul,Int.reduceBEq,Int.reduceBNe,Int.reduceGT,Int.reduceGE,Nat.reduceGT,Int.reduceToNat,Int.reduceNeg,Nat.reduceLeDiff,Nat.reduceBEq,Nat.reduceBneDiff, u8_8, g1, g3, mx, g5']
            unfold ir_wire_Reader_Num_50
            simp -implicitDefEqProofs only [zA,reduceIte,reduceCtorEq,Nat.reduceEqDiff,Nat.reduceAdd,Nat.reduceMul,Nat.reduceLT,Nat.reduceSub,Int.reduceLT,Int.reduceLE,Int.reduceEq,Int.reduceNe,Int.reduceSub,Int.reduceAdd,Int.reduceMul,Int.reduceBEq,Int.reduceBNe,Int.reduceGT,Int.reduceGE,Nat.reduceGT,Int.reduceToNat,Int.reduceNeg,Nat.reduceLeDiff,Nat.reduceBEq,Nat.reduceBneDiff, c0, w1, b1, Int.toNat_natCast]
            generalize (if vc = i + 1 then vb else vb.map fun x => x.add (i + 1)) = v1 at s2 ⊢
            have st : storeV G 1 (.pointer (some ⟨b, 0, none⟩)) (.slice v1 (l.length - (i + 1)) (vc - (i + 1))) = some (G.set b (.own 0 [.slice v1 (l.length - (i + 1)) (vc - (i + 1)), .bool false] 2)) := storeV_one_at q rfl (by simp) (by simp)
            simp -implicitDefEqProofs only [zA,reduceIte,reduceCtorEq,Nat.reduceEqDiff,Nat.reduceAdd,Nat.reduceMul,Nat.reduceLT,Nat.reduceSub,Int.reduceLT,Int.reduceLE,Int.reduceEq,Int.reduceNe,Int.reduceSub,Int.reduceAdd,Int.reduceMul,Int.reduceBEq,Int.reduceBNe,Int.reduceGT,Int.reduceGE,Nat.reduceGT,Int.reduceToNat,Int.reduceNeg,Nat.reduceLeDiff,Nat.reduceBEq,Nat.reduceBneDiff, st]
            rw [fin, he]
            refine ⟨rfl, ?_, Kp.set _ _ _⟩
            exact R0.put (some (l.drop (i + 1))) (v := .slice v1 (l.length - (i + 1)) (vc - (i + 1))) s2
  · have e : i = n := by omega
    subst e
    have he2 : rdF lim 9 0 0 l = none := by
      rw [he]
      by_cases h9 : i = 9
      · subst h9; rfl
      · have : l.drop i = [] := List.drop_eq_nil_of_le (by omega)
        rw [this]
        obtain ⟨k, hk⟩ : ∃ k, 9 - i = k + 1 := ⟨8 - i, by omega⟩
        rw [hk]; rfl
    have hi1 : ¬ (i : Int) < i := by omega
    simp -implicitDefEqProofs only [zA,reduceIte,reduceCtorEq,Nat.reduceEqDiff,Nat.reduceAdd,Nat.reduceMul,Nat.reduceLT,Nat.reduceSub,Int.reduceLT,Int.reduceLE,Int.reduceEq,Int.reduceNe,Int.reduceSub,Int.reduceAdd,Int.reduceMul,Int.reduceBEq,Int.reduceBNe,Int.reduceGT,Int.reduceGE,Nat.reduceGT,Int.reduceToNat,Int.reduceNeg,Nat.reduceLeDiff,Nat.reduceBEq,Nat.reduceBneDiff, hi1]
    refine (wire_fail_c E R0).mono ?_
    rintro r H1 ⟨rfl, R1, k1⟩
    rw [fin, he2]
    simp -implicitDefEqProofs only [zA,reduceIte,reduceCtorEq,Nat.reduceEqDiff,Nat.reduceAdd,Nat.reduceMul,Nat.reduceLT,Nat.reduceSub,Int.reduceLT,Int.reduceLE,Int.reduceEq,Int.reduceNe,Int.reduceSub,Int.reduceAdd,Int.reduceMul,Int.reduceBEq,Int.reduceBNe,Int.reduceGT,Int.reduceGE,Nat.reduceGT,Int.reduceToNat,Int.reduceNeg,Nat.reduceLeDiff,Nat.reduceBEq,Nat.reduceBneDiff]
    exact ⟨R1, k1⟩
theorem numS_zero {lim : Nat} {s : RS} (h : (numS lim s).2 = none) : (numS lim s).1 = 0 := by
  unfold numS at h ⊢
  split
  · rfl
  · split
    · rfl
    · rename_i e
      simp only [e] at h
      cases h
theorem getD_len (s : RS) : (s.getD []).length = s.len := by cases s <;> rfl
theorem wire_RBytes_c (E : EnvT tab) {h0 H : Heap} {b : Nat} {s : RS} (R : RdR h0 H b s) (lim : Nat) (hlim : lim ≤ 100000000) (hlen : s.len ≤ 100000000) :
    ACallN E.toEnv n_wire_Reader_Bytes [.pointer (some ⟨b, 0, none⟩), .int .i64 lim] H fun r h' => OwB H h' r (bytesS lim s).1 ∧ RdR h0 h' b (bytesS lim s).2 ∧ Kp b H h' := by
  refine acall h_wire_Reader_Bytes ir_wire_Reader_Bytes rfl rfl (wpA_sound ?_)
  unfold ir_wire_Reader_Bytes
  simp -implicitDefEqProofs only [zA,reduceIte,reduceCtorEq,Nat.reduceEqDiff,Nat.reduceAdd,Nat.reduceMul,Nat.reduceLT,Nat.reduceSub,Int.reduceLT,Int.reduceLE,Int.reduceEq,Int.reduceNe,Int.reduceSub,Int.reduceAdd,Int.reduceMul,Int.reduceBEq,Int.reduceBNe,Int.reduceGT,Int.reduceGE,Nat.reduceGT,Int.reduceToNat,Int.reduceNeg,Nat.reduceLeDiff,Nat.reduceBEq,Nat.reduceBneDiff]
  refine (wire_RNum_c E R lim (by omega) (by rw [getD_len]; exact hlen)).mono ?_
  rintro r H1 ⟨rfl, R1, k1⟩
  have hn := numS_le lim s
  simp -implicitDefEqProofs only [zA,reduceIte,reduceCtorEq,Nat.reduceEqDiff,Nat.reduceAdd,Nat.reduceMul,Nat.reduceLT,Nat.reduceSub,Int.reduceLT,Int.reduceLE,Int.reduceEq,Int.reduceNe,Int.reduceSub,Int.reduceAdd,Int.reduceMul,Int.reduceBEq,Int.reduceBNe,Int.reduceGT,Int.reduceGE,Nat.reduceGT,Int.reduceToNat,Int.reduceNeg,Nat.reduceLeDiff,Nat.reduceBEq,Nat.reduceBneDiff]
  refine (wire_take_c E R1 (numS lim s).1 (by omega) numS_zero).mono ?_
  rintro r H2 ⟨ow, R2, k2⟩
  simp -implicitDefEqProofs only [zA,reduceIte,reduceCtorEq,Nat.reduceEqDiff,Nat.reduceAdd,Nat.reduceMul,Nat.reduceLT,Nat.reduceSub,Int.reduceLT,Int.reduceLE,Int.reduceEq,Int.reduceNe,Int.reduceSub,Int.reduceAdd,Int.reduceMul,Int.reduceBEq,Int.reduceBNe,Int.reduceGT,Int.reduceGE,Nat.reduceGT,Int.reduceToNat,Int.reduceNeg,Nat.reduceLeDiff,Nat.reduceBEq,Nat.reduceBneDiff]
  refine ⟨?_, R2, k1.trans k2⟩
  rcases ow with s0 | ⟨b', o, c, sz, st, pre, rest, h1, h2, h3, h4, h5⟩
  · exact .inl s0
  · refine .inr ⟨b', o, c, sz, st, pre, rest, h1, h2, ?_, h4, h5⟩
    cases hq : H b' with
    | none => rfl
    | some x =>
      by_cases e : b' = b
      · subst e; exact absurd h3 R1.ne
      · have := k1 _ _ e hq
        rw [h3] at this; cases this
theorem wire_RText_c (E : EnvT tab) {h0 H : Heap} {b : Nat} {s : RS} (R : RdR h0 H b s) (lim : Nat) (hlim : lim ≤ 100000000) (hlen : s.len ≤ 100000000) :
    ACallN E.toEnv n_wire_Reader_Text [.pointer (some ⟨b, 0, none⟩), .int .i64 lim] H fun r h' => r = strV (bytesS lim s).1 ∧ RdR h0 h' b (bytesS lim s).2 ∧ Kp b H h' := by
  refine acall h_wire_Reader_Text ir_wire_Reader_Text rfl rfl (wpA_sound ?_)
  unfold ir_wire_Reader_Text
  simp -implicitDefEqProofs only [zA,reduceIte,reduceCtorEq,Nat.reduceEqDiff,Nat.reduceAdd,Nat.reduceMul,Nat.reduceLT,Nat.reduceSub,Int.reduceLT,Int.reduceLE,Int.reduceEq,Int.reduceNe,Int.reduceSub,Int.reduceAdd,Int.reduceMul,Int.reduceBEq,Int.reduceBNe,Int.reduceGT,Int.reduceGE,Nat.reduceGT,Int.reduceToNat,Int.reduceNeg,Nat.reduceLeDiff,Nat.reduceBEq,Nat.reduceBneDiff]
  refine (wire_RBytes_c E R lim hlim hlen).mono ?_
  rintro r H1 ⟨ow, R1, k1⟩
  have f1 := strOfV_sl ow.sl
  simp -implicitDefEqProofs only [zA,reduceIte,reduceCtorEq,Nat.reduceEqDiff,Nat.reduceAdd,Nat.reduceMul,Nat.reduceLT,Nat.reduceSub,Int.reduceLT,Int.reduceLE,Int.reduceEq,Int.reduceNe,Int.reduceSub,Int.reduceAdd,Int.reduceMul,Int.reduceBEq,Int.reduceBNe,Int.reduceGT,Int.reduceGE,Nat.reduceGT,Int.reduceToNat,Int.reduceNeg,Nat.reduceLeDiff,Nat.reduceBEq,Nat.reduceBneDiff, f1]
  exact ⟨R1, k1⟩
theorem numsS_snoc (lim : Nat) : ∀ k s, numsS lim (k + 1) s = ((numsS lim k s).1 ++ [((numS lim (numsS lim k s).2).1 : Int)], (numS lim (numsS lim k s).2).2)
  | 0, s => rfl
  | k + 1, s => by
      have h := numsS_snoc lim k (numS lim s).2
      rw [numsS, h]
      simp only [numsS, List.cons_append]
theorem RdR.other {h0 G : Heap} {b b3 : Nat} {s : RS} (R : RdR h0 G b s) (hn : h0 b3 = none) (ne : b3 ≠ b) (X : Blk) : RdR h0 (G.set b3 X) b s := by
  obtain ⟨a, c, v, q, sl⟩ := R
  exact ⟨Heap.le_set a hn _, c, v, by rw [Heap.set_ne ne.symm]; exact q, sl⟩
theorem Kp.other {b b3 : Nat} {H G : Heap} (k : Kp b H G) (hn : H b3 = none) (X : Blk) : Kp b H (G.set b3 X) := fun c x ne h => by
  rw [Heap.set_ne (by intro e; subst e; rw [hn] at h; cases h)]
  exact k c x ne h
theorem zeros_set (L : List Int) (i : Nat) (hi : L.length = i) (h8 : i < 8) (x : Int) : (L.map (Value.int .i64) ++ List.replicate (8 - i) (Value.int .i64 0)).set i (.int .i64 x) = (L ++ [x]).map (Value.int .i64) ++ List.replicate (8 - (i + 1)) (Value.int .i64 0) := by
  subst hi
  rw [List.set_append_right _ _ (by simp)]
  simp only [List.length_map, Nat.sub_self]
  obtain ⟨k, hk⟩ : ∃ k, 8 - L.length = k + 1 := ⟨7 - L.length, by omega⟩
  rw [hk, List.replicate_succ, List.set_cons_zero]
  have : 8 - (L.length + 1) = k := by omega
  rw [this]; simp
theorem vec_Get_c (E : EnvT tab) {h0 H : Heap} {b : Nat} {s : RS} (R : RdR h0 H b s) (hlen : s.len ≤ 100000000) :
    ACallN E.toEnv n_vec_Get [.pointer (some ⟨b, 0, none⟩)] H fun r h' => r = .agg ((vecS s).1.map (.int .i64)).toArray ∧ RdR h0 h' b (vecS s).2 ∧ Kp b H h' := by
  have ne := R.ne
  have leH := R.1
  refine acall h_vec_Get ir_vec_Get rfl rfl (wpA_sound ?_)
  unfold ir_vec_Get
  simp -implicitDefEqProofs only [zA,reduceIte,reduceCtorEq,Nat.reduceEqDiff,Nat.reduceAdd,Nat.reduceMul,Nat.reduceLT,Nat.reduceSub,Int.reduceLT,Int.reduceLE,Int.reduceEq,Int.reduceNe,Int.reduceSub,Int.reduceAdd,Int.reduceMul,Int.reduceBEq,Int.reduceBNe,Int.reduceGT,Int.reduceGE,Nat.reduceGT,Int.reduceToNat,Int.reduceNeg,Nat.reduceLeDiff,Nat.reduceBEq,Nat.reduceBneDiff]
  intro b2 hb2
  try simp -implicitDefEqProofs only [zA,reduceIte,reduceCtorEq,Nat.reduceEqDiff,Nat.reduceAdd,Nat.reduceMul,Nat.reduceLT,Nat.reduceSub,Int.reduceLT,Int.reduceLE,Int.reduceEq,Int.reduceNe,Int.reduceSub,Int.reduceAdd,Int.reduceMul,Int.reduceBEq,Int.reduceBNe,Int.reduceGT,Int.reduceGE,Nat.reduceGT,Int.reduceToNat,Int.reduceNeg,Nat.reduceLeDiff,Nat.reduceBEq,Nat.reduceBneDiff, List.length_replicate]
  have le2 := Heap.le_set (Heap.le_refl H) hb2 (.own 0 (List.replicate 8 (.int .i64 0)) 8)
  have q2 : (H.set b2 (.own 0 (List.replicate 8 (.int .i64 0)) 8)) b2 = some (.own 0 (List.replicate 8 (.int .i64 0)) 8) := Heap.set_self _ _ _
  generalize (H.set b2 (.own 0 (List.replicate 8 (.int .i64 0)) 8)) = H2 at le2 q2 ⊢
  intro b3 hb3
  try simp -implicitDefEqProofs only [zA,reduceIte,reduceCtorEq,Nat.reduceEqDiff,Nat.reduceAdd,Nat.reduceMul,Nat.reduceLT,Nat.reduceSub,Int.reduceLT,Int.reduceLE,Int.reduceEq,Int.reduceNe,Int.reduceSub,Int.reduceAdd,Int.reduceMul,Int.reduceBEq,Int.reduceBNe,Int.reduceGT,Int.reduceGE,Nat.reduceGT,Int.reduceToNat,Int.reduceNeg,Nat.reduceLeDiff,Nat.reduceBEq,Nat.reduceBneDiff, List.length_replicate]
  have le3 := Heap.le_set (Heap.le_refl H2) hb3 (.own 0 (List.replicate 8 (.int .i64 0)) 8)
  have q3 : (H2.set b3 (.own 0 (List.replicate 8 (.int .i64 0)) 8)) b3 = some (.own 0 (List.replicate 8 (.int .i64 0)) 8) := Heap.set_self _ _ _
  have q2a := q2
  have q2 := le3 _ _ q2
  generalize (H2.set b3 (.own 0 (List.replicate 8 (.int .i64 0)) 8)) = H3 at le3 q2 q3 ⊢
  have le03 := Heap.le_trans le2 le3
  have hb3H : H b3 = none := Heap.none_of_le le2 hb3
  have n2 : b2 ≠ b := by intro e; subst e; exact ne hb2
  have n3 : b3 ≠ b := by intro e; subst e; exact ne hb3H
  have z3 : h0 b3 = none := Heap.none_of_le leH hb3H
  have z2 : h0 b2 = none := Heap.none_of_le leH hb2
  have n23 : b2 ≠ b3 := by intro e; subst e; rw [q2a] at hb3; cases hb3
  refine wp_loop' (fun m t G => ∃ (i : Nat), t = tl [(0, .pointer (some ⟨b, 0, none⟩)), (2, .pointer (some ⟨b2, 0, none⟩)), (3, .pointer (some ⟨b3, 0, none⟩)), (5, .int .i64 i)] ∧ i ≤ 8 ∧ m = 8 - i ∧ RdR h0 G b (numsS M40 i s).2 ∧ Kp b H G ∧ G b2 = some (.own 0 (List.replicate 8 (.int .i64 0)) 8) ∧ G b3 = some (.own 0 ((numsS M40 i s).1.map (Value.int .i64) ++ List.replicate (8 - i) (Value.int .i64 0)) 8)) 8
    ⟨0, rfl, by omega, by omega, R.le le03, Kp.of le03, q2, q3⟩ ?_
  rintro m t G ⟨i, rfl, hi, rfl, RG, KG, g2, g3⟩
  have hl := numsS_fst M40 i s
  have hln := numsS_len M40 i s
  by_cases hlt : i < 8
  · have hi1 : (i : Int) < 8 := by omega
    have hi2 : (0 : Int) ≤ i := by omega
    have w1 : IntKind.i64.wrap ((i : Int) + 1) = ((i + 1 : Nat) : Int) := wrapN (by omega)
    simp -implicitDefEqProofs only [zA,reduceIte,reduceCtorEq,Nat.reduceEqDiff,Nat.reduceAdd,Nat.reduceMul,Nat.reduceLT,Nat.reduceSub,Int.reduceLT,Int.reduceLE,Int.reduceEq,Int.reduceNe,Int.reduceSub,Int.reduceAdd,Int.reduceMul,Int.reduceBEq,Int.reduceBNe,Int.reduceGT,Int.reduceGE,Nat.reduceGT,Int.reduceToNat,Int.reduceNeg,Nat.reduceLeDiff,Nat.reduceBEq,Nat.reduceBneDiff, hi1]
    refine (wire_RNum_c E RG M40 (by unfold M40; omega) (by rw [getD_len]; omega)).mono ?_
    rintro r G2 ⟨rfl, R2, K2⟩
    have g22 := K2 _ _ n2 g2
    have g32 := K2 _ _ n3 g3
    have st : storeV G2 1 (.pointer (some ⟨b3, i, none⟩)) (.int .i64 (numS M40 (numsS M40 i s).2).1) = some (G2.set b3 (.own 0 (((numsS M40 i s).1.map (Value.int .i64) ++ List.replicate (8 - i) (Value.int .i64 0)).set i (.int .i64 (numS M40 (numsS M40 i s).2).1)) 8)) := storeV_one_at g32 rfl (by simp [hl]; omega) (by simp [hl]; omega)
    rw [zeros_set _ i hl hlt] at st
    have sn := numsS_snoc M40 i s
    simp -implicitDefEqProofs only [zA,reduceIte,reduceCtorEq,Nat.reduceEqDiff,Nat.reduceAdd,Nat.reduceMul,Nat.reduceLT,Nat.reduceSub,Int.reduceLT,Int.reduceLE,Int.reduceEq,Int.reduceNe,Int.reduceSub,Int.reduceAdd,Int.reduceMul,Int.reduceBEq,Int.reduceBNe,Int.reduceGT,Int.reduceGE,Nat.reduceGT,Int.reduceToNat,Int.reduceNeg,Nat.reduceLeDiff,Nat.reduceBEq,Nat.reduceBneDiff, hi1, hi2, Int.toNat_natCast, st, w1]
    refine ⟨7 - i, by omega, i + 1, rfl, by omega, by omega, ?_, ?_, ?_, ?_⟩
    · rw [sn]; exact R2.other z3 n3 _
    · exact Kp.other (KG.trans K2) hb3H _
    · rw [Heap.set_ne n23]; exact g22
    · rw [Heap.set_self, sn]
  · have e : i = 8 := by omega
    subst e
    simp -implicitDefEqProofs only [zA,reduceIte,reduceCtorEq,Nat.reduceEqDiff,Nat.reduceAdd,Nat.reduceMul,Nat.reduceLT,Nat.reduceSub,Int.reduceLT,Int.reduceLE,Int.reduceEq,Int.reduceNe,Int.reduceSub,Int.reduceAdd,Int.reduceMul,Int.reduceBEq,Int.reduceBNe,Int.reduceGT,Int.reduceGE,Nat.reduceGT,Int.reduceToNat,Int.reduceNeg,Nat.reduceLeDiff,Nat.reduceBEq,Nat.reduceBneDiff]
    unfold ir_vec_Get_13
    simp -implicitDefEqProofs only [zA,reduceIte,reduceCtorEq,Nat.reduceEqDiff,Nat.reduceAdd,Nat.reduceMul,Nat.reduceLT,Nat.reduceSub,Int.reduceLT,Int.reduceLE,Int.reduceEq,Int.reduceNe,Int.reduceSub,Int.reduceAdd,Int.reduceMul,Int.reduceBEq,Int.reduceBNe,Int.reduceGT,Int.reduceGE,Nat.reduceGT,Int.reduceToNat,Int.reduceNeg,Nat.reduceLeDiff,Nat.reduceBEq,Nat.reduceBneDiff]
    refine (wire_Bad_c E RG).mono ?_
    rintro r G2 ⟨rfl, rfl⟩
    have ex : vecS s = (if (numsS M40 8 s).2.isSome then (numsS M40 8 s).1 else List.replicate 8 0, (numsS M40 8 s).2) := rfl
    rw [ex]
    simp only
    generalize (numsS M40 8 s).1 = L at *
    generalize (numsS M40 8 s).2 = s2 at *
    have rp : List.replicate (8 - 8) (Value.int .i64 0) = [] := rfl
    rw [rp, List.append_nil] at g3
    have stA : ∀ l : List Value, l.length = 8 → l.all one = true → storeV G2 8 (.pointer (some ⟨b2, 0, none⟩)) (.agg l.toArray) = some (G2.set b2 (.own 0 l 8)) := fun l hl ho => storeV_agg_at g2 (by omega) hl ho (by simp) (by omega)
    have ld : ∀ l : List Value, l.length = 8 → hcells (G2.set b2 (.own 0 l 8)) ⟨b2, 0, none⟩ 8 = some l := fun l hl => z6x (by simp [hl])
    have zl : (List.replicate 8 (Value.int .i64 0)).length = 8 := by simp
    have zo : (List.replicate 8 (Value.int .i64 0)).all one = true := rfl
    have rz : (List.replicate 8 (0 : Int)).map (Value.int .i64) = List.replicate 8 (Value.int .i64 0) := rfl
    have Kf : ∀ X, Kp b H (G2.set b2 X) := fun X => Kp.other KG hb2 X
    have Rf : ∀ X, RdR h0 (G2.set b2 X) b s2 := fun X => RG.other z2 n2 X
    cases s2 with
    | none =>
      have s1 := stA _ zl zo
      have l1 := ld _ zl
      simp -implicitDefEqProofs only [zA,reduceIte,reduceCtorEq,Nat.reduceEqDiff,Nat.reduceAdd,Nat.reduceMul,Nat.reduceLT,Nat.reduceSub,Int.reduceLT,Int.reduceLE,Int.reduceEq,Int.reduceNe,Int.reduceSub,Int.reduceAdd,Int.reduceMul,Int.reduceBEq,Int.reduceBNe,Int.reduceGT,Int.reduceGE,Nat.reduceGT,Int.reduceToNat,Int.reduceNeg,Nat.reduceLeDiff,Nat.reduceBEq,Nat.reduceBneDiff, Option.isNone, s1, l1]
      exact ⟨rfl, Rf _, Kf _⟩
    | some l =>
      have c3 : hcells G2 ⟨b3, 0, none⟩ 8 = some (L.map (.int .i64)) := by rw [hcells_at g3 (by simp [hl])]; simp [List.take_of_length_le, hl]
      have s1 := stA (L.map (.int .i64)) (by simp [hl]) (by simp [one])
      have l1 := ld (L.map (.int .i64)) (by simp [hl])
      simp -implicitDefEqProofs only [zA,reduceIte,reduceCtorEq,Nat.reduceEqDiff,Nat.reduceAdd,Nat.reduceMul,Nat.reduceLT,Nat.reduceSub,Int.reduceLT,Int.reduceLE,Int.reduceEq,Int.reduceNe,Int.reduceSub,Int.reduceAdd,Int.reduceMul,Int.reduceBEq,Int.reduceBNe,Int.reduceGT,Int.reduceGE,Nat.reduceGT,Int.reduceToNat,Int.reduceNeg,Nat.reduceLeDiff,Nat.reduceBEq,Nat.reduceBneDiff, Option.isNone, c3, s1, l1]
      exact ⟨rfl, Rf _, Kf _⟩
end Go.Bb
/- Contracts: an edit read from bytes. -/
namespace Go.Bb
set_option linter.unusedSimpArgs false
set_option linter.unusedVariables false
set_option maxRecDepth 20000
set_option maxHeartbeats 2000000

theorem edC_ZE : edC ZE = List.replicate 11 (Value.int .i64 0) ++ [.string .empty, .string .empty, .string .empty, .int .i64 0] := rfl
theorem ed_far (e : Ed) (h8 : e.seen.length = 8) (i : Nat) (v : Value) : (edC e).set (i + 10) v = .int .i64 e.dev :: .int .i64 e.n :: (e.seen.map (.int .i64) ++ [Value.int .i64 e.kind, strV e.con, strV e.fld, strV e.val, .int .i64 e.time].set i v) := by
  unfold edC
  rw [List.set_cons_succ, List.set_cons_succ, List.set_append_right _ _ (by simp [h8])]
  have : i + 8 - (e.seen.map (Value.int .i64)).length = i := by simp [h8]
  rw [this]
theorem ed_seen (e : Ed) (h8 : e.seen.length = 8) (L : List Int) (hL : L.length = 8) : splice (edC e) 2 (L.map (.int .i64)) = edC { e with seen := L } := by
  obtain ⟨dev, n, seen, kind, con, fld, val, time⟩ := e
  simp only at h8
  unfold splice edC
  simp only [List.length_map, hL]
  have h1 : (Value.int IntKind.i64 dev :: Value.int IntKind.i64 n :: (seen.map (.int .i64) ++ [Value.int .i64 kind, strV con, strV fld, strV val, .int .i64 time])).drop (2 + 8) = [Value.int .i64 kind, strV con, strV fld, strV val, .int .i64 time] := by
    rw [show 2 + 8 = 8 + 1 + 1 from rfl, List.drop_succ_cons, List.drop_succ_cons, List.drop_left' (by simp [h8])]
  rw [h1]
  rfl
/-- While an edit is read. -/
structure GS (H h0 G : Heap) (b b2 b5 : Nat) (s : RS) (e : Ed) : Prop where
  R : RdR h0 G b s
  q5 : G b5 = some (.own 0 (edC e) 15)
  q2 : G b2 = some (.own 0 (edC ZE) 15)
  le : H.le G
  h8 : e.seen.length = 8
  n5 : b5 ≠ b
  n2 : b2 ≠ b
  n25 : b2 ≠ b5
  z5 : h0 b5 = none
  z5H : H b5 = none
  z2H : H b2 = none
  zbH : H b = none
theorem GS.read {H h0 G G' : Heap} {b b2 b5 : Nat} {s s' : RS} {e : Ed} (S : GS H h0 G b b2 b5 s e) (R : RdR h0 G' b s') (k : Kp b G G') : GS H h0 G' b b2 b5 s' e :=
  ⟨R, k _ _ S.n5 S.q5, k _ _ S.n2 S.q2, fun c x h => k _ _ (by intro q; subst q; rw [S.zbH] at h; cases h) (S.le _ _ h), S.h8, S.n5, S.n2, S.n25, S.z5, S.z5H, S.z2H, S.zbH⟩
theorem GS.store {H h0 G : Heap} {b b2 b5 : Nat} {s : RS} {e : Ed} (S : GS H h0 G b b2 b5 s e) (e' : Ed) (h8 : e'.seen.length = 8) : GS H h0 (G.set b5 (.own 0 (edC e') 15)) b b2 b5 s e' :=
  ⟨S.R.other S.z5 S.n5 _, Heap.set_self _ _ _, by rw [Heap.set_ne S.n25]; exact S.q2, fun c x h => by rw [Heap.set_ne (by intro q; subst q; rw [S.z5H] at h; cases h)]; exact S.le _ _ h, h8, S.n5, S.n2, S.n25, S.z5, S.z5H, S.z2H, S.zbH⟩
theorem GS.put1 {H h0 G : Heap} {b b2 b5 : Nat} {s : RS} {e : Ed} (S : GS H h0 G b b2 b5 s e) (i : Nat) (hi : i < 15) {v : Value} (hv : one v = true) {e' : Ed} (he : (edC e).set i v = edC e') :
    storeV G 1 (.pointer (some ⟨b5, i, none⟩)) v = some (G.set b5 (.own 0 (edC e') 15)) := by
  have hl := edC_len S.h8
  rw [storeV_one_at S.q5 hv (by omega) (by omega), he]
theorem GS.row {H h0 G : Heap} {b b2 b5 : Nat} {s : RS} {e : Ed} (S : GS H h0 G b b2 b5 s e) (L : List Int) (hL : L.length = 8) :
    storeV G 8 (.pointer (some ⟨b5, 2, none⟩)) (.agg (L.map (.int .i64)).toArray) = some (G.set b5 (.own 0 (edC { e with seen := L }) 15)) := by
  have hl := edC_len S.h8
  have h := storeV_self (h := G) (b := b5) (vs := edC e) (off := 2) (sz := 15) (size := 8) (v := .agg (L.map (.int .i64)).toArray) (us := L.map (.int .i64)) (by omega) (by simp [Value.cells]) (by simp [hL]) (by simp [Bb.one]) (by omega) (by omega)
  rw [Heap.set_same S.q5, ed_seen e S.h8 L hL] at h
  exact h
theorem op_Get_c (E : EnvT tab) (H : Heap) {v : Value} (l : List UInt8) (hl : l.length ≤ 100000) (s : SlB H v l) :
    ACallN E.toEnv n_op_Get [v] H fun r H' => H.le H' ∧ r = .tuple #[.agg (edC ((getE 8 l).getD ZE)).toArray, .int .i64 (if (getE 8 l).isSome then 0 else 3)] := by
  refine acall h_op_Get ir_op_Get rfl rfl (wpA_sound ?_)
  unfold ir_op_Get
  simp only [← edC_ZE]
  simp -implicitDefEqProofs only [zA,reduceIte,reduceCtorEq,Nat.reduceEqDiff,Nat.reduceAdd,Nat.reduceMul,Nat.reduceLT,Nat.reduceSub,Int.reduceLT,Int.reduceLE,Int.reduceEq,Int.reduceNe,Int.reduceSub,Int.reduceAdd,Int.reduceMul,Int.reduceBEq,Int.reduceBNe,Int.reduceGT,Int.reduceGE,Nat.reduceGT,Int.reduceToNat,Int.reduceNeg,Nat.reduceLeDiff,Nat.reduceBEq,Nat.reduceBneDiff]
  intro b2 hb2
  rw [edC_len (e := ZE) rfl]
  try simp -implicitDefEqProofs only [zA,reduceIte,reduceCtorEq,Nat.reduceEqDiff,Nat.reduceAdd,Nat.reduceMul,Nat.reduceLT,Nat.reduceSub,Int.reduceLT,Int.reduceLE,Int.reduceEq,Int.reduceNe,Int.reduceSub,Int.reduceAdd,Int.reduceMul,Int.reduceBEq,Int.reduceBNe,Int.reduceGT,Int.reduceGE,Nat.reduceGT,Int.reduceToNat,Int.reduceNeg,Nat.reduceLeDiff,Nat.reduceBEq,Nat.reduceBneDiff]
  have le2 := Heap.le_set (Heap.le_refl H) hb2 (.own 0 (edC ZE) 15)
  have q2 : (H.set b2 (.own 0 (edC ZE) 15)) b2 = some (.own 0 (edC ZE) 15) := Heap.set_self _ _ _
  generalize (H.set b2 (.own 0 (edC ZE) 15)) = H2 at le2 q2 ⊢
  refine (wire_Read_c E H2 l (by omega) (s.le le2)).mono ?_
  rintro r H3 ⟨b, rfl, hb, le3, h0, le0, R⟩
  simp -implicitDefEqProofs only [zA,reduceIte,reduceCtorEq,Nat.reduceEqDiff,Nat.reduceAdd,Nat.reduceMul,Nat.reduceLT,Nat.reduceSub,Int.reduceLT,Int.reduceLE,Int.reduceEq,Int.reduceNe,Int.reduceSub,Int.reduceAdd,Int.reduceMul,Int.reduceBEq,Int.reduceBNe,Int.reduceGT,Int.reduceGE,Nat.reduceGT,Int.reduceToNat,Int.reduceNeg,Nat.reduceLeDiff,Nat.reduceBEq,Nat.reduceBneDiff]
  intro b5 hb5
  rw [edC_len (e := ZE) rfl]
  try simp -implicitDefEqProofs only [zA,reduceIte,reduceCtorEq,Nat.reduceEqDiff,Nat.reduceAdd,Nat.reduceMul,Nat.reduceLT,Nat.reduceSub,Int.reduceLT,Int.reduceLE,Int.reduceEq,Int.reduceNe,Int.reduceSub,Int.reduceAdd,Int.reduceMul,Int.reduceBEq,Int.reduceBNe,Int.reduceGT,Int.reduceGE,Nat.reduceGT,Int.reduceToNat,Int.reduceNeg,Nat.reduceLeDiff,Nat.reduceBEq,Nat.reduceBneDiff]
  have hb5' : H2 b5 = none := Heap.none_of_le le3 hb5
  have S : GS H h0 (H3.set b5 (.own 0 (edC ZE) 15)) b b2 b5 (some l) ZE := by
    have n5 : b5 ≠ b := by intro e; subst e; exact R.ne hb5
    have z5 : h0 b5 = none := Heap.none_of_le R.1 hb5
    have n25 : b2 ≠ b5 := by intro e; subst e; rw [q2] at hb5'; cases hb5'
    refine ⟨R.other z5 n5 _, Heap.set_self _ _ _, by rw [Heap.set_ne n25]; exact le3 _ _ q2, Heap.le_set (Heap.le_trans le2 le3) (Heap.none_of_le le2 hb5') _, rfl, n5, ?_, n25, z5, Heap.none_of_le le2 hb5', hb2, Heap.none_of_le le2 hb⟩
    intro e; subst e; rw [q2] at hb; cases hb
  generalize (H3.set b5 (.own 0 (edC ZE) 15)) = G0 at S ⊢
  clear R le3 hb5 hb5' q2 le2 le0 hb hb2
  have lim40 : ((M40 : Nat) : Int) = 1099511627776 := rfl
  obtain ⟨A, hA⟩ : ∃ A, A = numS 8 (some l) := ⟨_, rfl⟩
  obtain ⟨B, hB⟩ : ∃ B, B = numS M40 A.2 := ⟨_, rfl⟩
  obtain ⟨C, hC⟩ : ∃ C, C = vecS B.2 := ⟨_, rfl⟩
  obtain ⟨D, hD⟩ : ∃ D, D = numS 2 C.2 := ⟨_, rfl⟩
  obtain ⟨T, hT⟩ : ∃ T, T = numS M40 D.2 := ⟨_, rfl⟩
  obtain ⟨F, hF⟩ : ∃ F, F = bytesS 40 T.2 := ⟨_, rfl⟩
  obtain ⟨I, hI⟩ : ∃ I, I = bytesS 40 F.2 := ⟨_, rfl⟩
  obtain ⟨J, hJ⟩ : ∃ J, J = bytesS 200 I.2 := ⟨_, rfl⟩
  have er : rdE 8 (some l) = (⟨A.1, B.1, C.1, D.1, F.1, I.1, J.1, T.1⟩, J.2) := by
    rw [hJ, hI, hF, hT, hD, hC, hB, hA]; rfl
  have lA : A.2.len ≤ l.length := by rw [hA]; exact numS_len 8 (some l)
  have lB : B.2.len ≤ l.length := by rw [hB]; exact Nat.le_trans (numS_len _ _) lA
  have lC : C.2.len ≤ l.length := by rw [hC]; exact Nat.le_trans (vecS_len _) lB
  have lD : D.2.len ≤ l.length := by rw [hD]; exact Nat.le_trans (numS_len _ _) lC
  have lT : T.2.len ≤ l.length := by rw [hT]; exact Nat.le_trans (numS_len _ _) lD
  have lF : F.2.len ≤ l.length := by rw [hF]; exact Nat.le_trans (bytesS_len _ _) lT
  have lI : I.2.len ≤ l.length := by rw [hI]; exact Nat.le_trans (bytesS_len _ _) lF
  have nB : B.1 ≤ 1099511627776 := by rw [hB]; exact numS_le _ _
  have c8 : C.1.length = 8 := by rw [hC]; exact vecS_fst _
  have cF : F.1.length ≤ 40 := by rw [hF]; exact bytesS_fst _ _
  have cI : I.1.length ≤ 40 := by rw [hI]; exact bytesS_fst _ _
  refine (wire_RNum_c E S.R 8 (by omega) (by simp; omega)).mono ?_
  rintro r G1 ⟨rfl, R1, k1⟩
  rw [← hA] at R1 ⊢
  replace S := S.read R1 k1
  have st1 : storeV G1 1 (.pointer (some ⟨b5, 0, none⟩)) (.int .i64 A.1) = some (G1.set b5 (.own 0 (edC ⟨A.1, 0, List.replicate 8 0, 0, [], [], [], 0⟩) 15)) := S.put1 0 (by omega) rfl (by rfl)
  replace S := S.store ⟨A.1, 0, List.replicate 8 0, 0, [], [], [], 0⟩ rfl
  simp -implicitDefEqProofs only [zA,reduceIte,reduceCtorEq,Nat.reduceEqDiff,Nat.reduceAdd,Nat.reduceMul,Nat.reduceLT,Nat.reduceSub,Int.reduceLT,Int.reduceLE,Int.reduceEq,Int.reduceNe,Int.reduceSub,Int.reduceAdd,Int.reduceMul,Int.reduceBEq,Int.reduceBNe,Int.reduceGT,Int.reduceGE,Nat.reduceGT,Int.reduceToNat,Int.reduceNeg,Nat.reduceLeDiff,Nat.reduceBEq,Nat.reduceBneDiff, st1]
  generalize (G1.set b5 _) = G2 at S ⊢
  unfold ir_op_Get_12
  simp -implicitDefEqProofs only [zA,reduceIte,reduceCtorEq,Nat.reduceEqDiff,Nat.reduceAdd,Nat.reduceMul,Nat.reduceLT,Nat.reduceSub,Int.reduceLT,Int.reduceLE,Int.reduceEq,Int.reduceNe,Int.reduceSub,Int.reduceAdd,Int.reduceMul,Int.reduceBEq,Int.reduceBNe,Int.reduceGT,Int.reduceGE,Nat.reduceGT,Int.reduceToNat,Int.reduceNeg,Nat.reduceLeDiff,Nat.reduceBEq,Nat.reduceBneDiff]
  refine (wire_RNum_c E S.R M40 (by unfold M40; omega) (by rw [getD_len]; omega)).mono ?_
  rintro r G3 ⟨rfl, R3, k3⟩
  rw [← hB] at R3 ⊢
  replace S := S.read R3 k3
  have st3 : storeV G3 1 (.pointer (some ⟨b5, 1, none⟩)) (.int .i64 B.1) = some (G3.set b5 (.own 0 (edC ⟨A.1, B.1, List.replicate 8 0, 0, [], [], [], 0⟩) 15)) := S.put1 1 (by omega) rfl (by rfl)
  replace S := S.store ⟨A.1, B.1, List.replicate 8 0, 0, [], [], [], 0⟩ rfl
  simp -implicitDefEqProofs only [zA,reduceIte,reduceCtorEq,Nat.reduceEqDiff,Nat.reduceAdd,Nat.reduceMul,Nat.reduceLT,Nat.reduceSub,Int.reduceLT,Int.reduceLE,Int.reduceEq,Int.reduceNe,Int.reduceSub,Int.reduceAdd,Int.reduceMul,Int.reduceBEq,Int.reduceBNe,Int.reduceGT,Int.reduceGE,Nat.reduceGT,Int.reduceToNat,Int.reduceNeg,Nat.reduceLeDiff,Nat.reduceBEq,Nat.reduceBneDiff, st3]
  generalize (G3.set b5 _) = G4 at S ⊢
  refine (vec_Get_c E S.R (by omega)).mono ?_
  rintro r G5 ⟨rfl, R5, k5⟩
  rw [← hC] at R5 ⊢
  replace S := S.read R5 k5
  have st5 : storeV G5 8 (.pointer (some ⟨b5, 2, none⟩)) (.agg (C.1.map (.int .i64)).toArray) = some (G5.set b5 (.own 0 (edC ⟨A.1, B.1, C.1, 0, [], [], [], 0⟩) 15)) := S.row C.1 c8
  replace S := S.store ⟨A.1, B.1, C.1, 0, [], [], [], 0⟩ c8
  simp -implicitDefEqProofs only [zA,reduceIte,reduceCtorEq,Nat.reduceEqDiff,Nat.reduceAdd,Nat.reduceMul,Nat.reduceLT,Nat.reduceSub,Int.reduceLT,Int.reduceLE,Int.reduceEq,Int.reduceNe,Int.reduceSub,Int.reduceAdd,Int.reduceMul,Int.reduceBEq,Int.reduceBNe,Int.reduceGT,Int.reduceGE,Nat.reduceGT,Int.reduceToNat,Int.reduceNeg,Nat.reduceLeDiff,Nat.reduceBEq,Nat.reduceBneDiff, st5]
  generalize (G5.set b5 _) = G6 at S ⊢
  refine (wire_RNum_c E S.R 2 (by omega) (by rw [getD_len]; omega)).mono ?_
  rintro r G7 ⟨rfl, R7, k7⟩
  rw [← hD] at R7 ⊢
  replace S := S.read R7 k7
  have st7 : storeV G7 1 (.pointer (some ⟨b5, 10, none⟩)) (.int .i64 D.1) = some (G7.set b5 (.own 0 (edC ⟨A.1, B.1, C.1, D.1, [], [], [], 0⟩) 15)) := S.put1 10 (by omega) rfl (by rw [show 10 = 0 + 10 from rfl, ed_far _ S.h8]; rfl)
  replace S := S.store ⟨A.1, B.1, C.1, D.1, [], [], [], 0⟩ c8
  simp -implicitDefEqProofs only [zA,reduceIte,reduceCtorEq,Nat.reduceEqDiff,Nat.reduceAdd,Nat.reduceMul,Nat.reduceLT,Nat.reduceSub,Int.reduceLT,Int.reduceLE,Int.reduceEq,Int.reduceNe,Int.reduceSub,Int.reduceAdd,Int.reduceMul,Int.reduceBEq,Int.reduceBNe,Int.reduceGT,Int.reduceGE,Nat.reduceGT,Int.reduceToNat,Int.reduceNeg,Nat.reduceLeDiff,Nat.reduceBEq,Nat.reduceBneDiff, st7]
  generalize (G7.set b5 _) = G8 at S ⊢
  refine (wire_RNum_c E S.R M40 (by unfold M40; omega) (by rw [getD_len]; omega)).mono ?_
  rintro r G9 ⟨rfl, R9, k9⟩
  rw [← hT] at R9 ⊢
  replace S := S.read R9 k9
  have st9 : storeV G9 1 (.pointer (some ⟨b5, 14, none⟩)) (.int .i64 T.1) = some (G9.set b5 (.own 0 (edC ⟨A.1, B.1, C.1, D.1, [], [], [], T.1⟩) 15)) := S.put1 14 (by omega) rfl (by rw [show 14 = 4 + 10 from rfl, ed_far _ S.h8]; rfl)
  replace S := S.store ⟨A.1, B.1, C.1, D.1, [], [], [], T.1⟩ c8
  simp -implicitDefEqProofs only [zA,reduceIte,reduceCtorEq,Nat.reduceEqDiff,Nat.reduceAdd,Nat.reduceMul,Nat.reduceLT,Nat.reduceSub,Int.reduceLT,Int.reduceLE,Int.reduceEq,Int.reduceNe,Int.reduceSub,Int.reduceAdd,Int.reduceMul,Int.reduceBEq,Int.reduceBNe,Int.reduceGT,Int.reduceGE,Nat.reduceGT,Int.reduceToNat,Int.reduceNeg,Nat.reduceLeDiff,Nat.reduceBEq,Nat.reduceBneDiff, st9]
  generalize (G9.set b5 _) = G10 at S ⊢
  refine (wire_RText_c E S.R 40 (by omega) (by omega)).mono ?_
  rintro r G11 ⟨rfl, R11, k11⟩
  rw [← hF] at R11 ⊢
  replace S := S.read R11 k11
  have st11 : storeV G11 1 (.pointer (some ⟨b5, 11, none⟩)) (strV F.1) = some (G11.set b5 (.own 0 (edC ⟨A.1, B.1, C.1, D.1, F.1, [], [], T.1⟩) 15)) := S.put1 11 (by omega) rfl (by rw [show 11 = 1 + 10 from rfl, ed_far _ S.h8]; rfl)
  replace S := S.store ⟨A.1, B.1, C.1, D.1, F.1, [], [], T.1⟩ c8
  simp -implicitDefEqProofs only [zA,reduceIte,reduceCtorEq,Nat.reduceEqDiff,Nat.reduceAdd,Nat.reduceMul,Nat.reduceLT,Nat.reduceSub,Int.reduceLT,Int.reduceLE,Int.reduceEq,Int.reduceNe,Int.reduceSub,Int.reduceAdd,Int.reduceMul,Int.reduceBEq,Int.reduceBNe,Int.reduceGT,Int.reduceGE,Nat.reduceGT,Int.reduceToNat,Int.reduceNeg,Nat.reduceLeDiff,Nat.reduceBEq,Nat.reduceBneDiff, st11]
  generalize (G11.set b5 _) = G12 at S ⊢
  unfold ir_op_Get_28
  simp -implicitDefEqProofs only [zA,reduceIte,reduceCtorEq,Nat.reduceEqDiff,Nat.reduceAdd,Nat.reduceMul,Nat.reduceLT,Nat.reduceSub,Int.reduceLT,Int.reduceLE,Int.reduceEq,Int.reduceNe,Int.reduceSub,Int.reduceAdd,Int.reduceMul,Int.reduceBEq,Int.reduceBNe,Int.reduceGT,Int.reduceGE,Nat.reduceGT,Int.reduceToNat,Int.reduceNeg,Nat.reduceLeDiff,Nat.reduceBEq,Nat.reduceBneDiff]
  refine (wire_RText_c E S.R 40 (by omega) (by omega)).mono ?_
  rintro r G13 ⟨rfl, R13, k13⟩
  rw [← hI] at R13 ⊢
  replace S := S.read R13 k13
  have st13 : storeV G13 1 (.pointer (some ⟨b5, 12, none⟩)) (strV I.1) = some (G13.set b5 (.own 0 (edC ⟨A.1, B.1, C.1, D.1, F.1, I.1, [], T.1⟩) 15)) := S.put1 12 (by omega) rfl (by rw [show 12 = 2 + 10 from rfl, ed_far _ S.h8]; rfl)
  replace S := S.store ⟨A.1, B.1, C.1, D.1, F.1, I.1, [], T.1⟩ c8
  simp -implicitDefEqProofs only [zA,reduceIte,reduceCtorEq,Nat.reduceEqDiff,Nat.reduceAdd,Nat.reduceMul,Nat.reduceLT,Nat.reduceSub,Int.reduceLT,Int.reduceLE,Int.reduceEq,Int.reduceNe,Int.reduceSub,Int.reduceAdd,Int.reduceMul,Int.reduceBEq,Int.reduceBNe,Int.reduceGT,Int.reduceGE,Nat.reduceGT,Int.reduceToNat,Int.reduceNeg,Nat.reduceLeDiff,Nat.reduceBEq,Nat.reduceBneDiff, st13]
  generalize (G13.set b5 _) = G14 at S ⊢
  refine (wire_RText_c E S.R 200 (by omega) (by omega)).mono ?_
  rintro r G15 ⟨rfl, R15, k15⟩
  rw [← hJ] at R15 ⊢
  replace S := S.read R15 k15
  have st15 : storeV G15 1 (.pointer (some ⟨b5, 13, none⟩)) (strV J.1) = some (G15.set b5 (.own 0 (edC ⟨A.1, B.1, C.1, D.1, F.1, I.1, J.1, T.1⟩) 15)) := S.put1 13 (by omega) rfl (by rw [show 13 = 3 + 10 from rfl, ed_far _ S.h8]; rfl)
  replace S := S.store ⟨A.1, B.1, C.1, D.1, F.1, I.1, J.1, T.1⟩ c8
  simp -implicitDefEqProofs only [zA,reduceIte,reduceCtorEq,Nat.reduceEqDiff,Nat.reduceAdd,Nat.reduceMul,Nat.reduceLT,Nat.reduceSub,Int.reduceLT,Int.reduceLE,Int.reduceEq,Int.reduceNe,Int.reduceSub,Int.reduceAdd,Int.reduceMul,Int.reduceBEq,Int.reduceBNe,Int.reduceGT,Int.reduceGE,Nat.reduceGT,Int.reduceToNat,Int.reduceNeg,Nat.reduceLeDiff,Nat.reduceBEq,Nat.reduceBneDiff, st15]
  generalize (G15.set b5 _) = G16 at S ⊢
  have eg : getE 8 l = if endS J.2 = true ∧ goodE ⟨A.1, B.1, C.1, D.1, F.1, I.1, J.1, T.1⟩ = true then some ⟨A.1, B.1, C.1, D.1, F.1, I.1, J.1, T.1⟩ else none := by
    unfold getE endS
    rw [er]
    simp only [decide_eq_true_eq]
  rw [eg]
  refine (wire_End_c E S.R).mono ?_
  rintro r G17 ⟨rfl, rfl⟩
  obtain ⟨e, he⟩ : ∃ e : Ed, e = ⟨A.1, B.1, C.1, D.1, F.1, I.1, J.1, T.1⟩ := ⟨_, rfl⟩
  have e1 : e.con.length ≤ 9000000000000000000 := by rw [he]; simp only; omega
  have e2 : e.fld.length ≤ 9000000000000000000 := by rw [he]; simp only; omega
  have e3 : -9223372036854775808 ≤ e.n := by rw [he]; simp only; omega
  have e4 : e.n ≤ 9223372036854775807 := by rw [he]; simp only; omega
  rw [← he] at S ⊢
  clear er eg hA hB hC hD hT hF hI hJ lA lB lC lD lT lF lI nB c8 cF cI he st1 st3 st5 st7 st9 st11 st13 st15
  have zl := edC_len (e := ZE) rfl
  have el := edC_len S.h8
  have stA : ∀ (G : Heap) (l : List Value), G17.le G → l.length = 15 → l.all one = true → storeV G 15 (.pointer (some ⟨b2, 0, none⟩)) (.agg l.toArray) = some (G.set b2 (.own 0 l 15)) := fun G l x hl ho => storeV_agg_at (x _ _ S.q2) (by omega) hl ho zl (by omega)
  have ld : ∀ (G : Heap) (l : List Value), l.length = 15 → hcells (G.set b2 (.own 0 l 15)) ⟨b2, 0, none⟩ 15 = some l := fun G l hl => z6x (by simp [hl])
  have leF : ∀ (G : Heap) X, G17.le G → H.le (G.set b2 X) := fun G X x => Heap.le_set (Heap.le_trans S.le x) S.z2H _
  have c5 : ∀ G, G17.le G → hcells G ⟨b5, 0, none⟩ 15 = some (edC e) := fun G x => by rw [hcells_at (x _ _ S.q5) (by omega)]; simp [List.take_of_length_le, el]
  have c50 := c5 G17 (Heap.le_refl _)
  have stZ := stA G17 (edC ZE) (Heap.le_refl _) zl (edC_one _)
  have ldZ := ld G17 (edC ZE) zl
  rw [edC_ZE] at stZ ldZ
  cases hJ : endS J.2 with
  | false =>
    simp -implicitDefEqProofs only [zA,reduceIte,reduceCtorEq,Nat.reduceEqDiff,Nat.reduceAdd,Nat.reduceMul,Nat.reduceLT,Nat.reduceSub,Int.reduceLT,Int.reduceLE,Int.reduceEq,Int.reduceNe,Int.reduceSub,Int.reduceAdd,Int.reduceMul,Int.reduceBEq,Int.reduceBNe,Int.reduceGT,Int.reduceGE,Nat.reduceGT,Int.reduceToNat,Int.reduceNeg,Nat.reduceLeDiff,Nat.reduceBEq,Nat.reduceBneDiff, stZ, ldZ, Bool.false_eq_true, false_and]
    exact ⟨leF _ _ (Heap.le_refl _), rfl⟩
  | true =>
    simp -implicitDefEqProofs only [zA,reduceIte,reduceCtorEq,Nat.reduceEqDiff,Nat.reduceAdd,Nat.reduceMul,Nat.reduceLT,Nat.reduceSub,Int.reduceLT,Int.reduceLE,Int.reduceEq,Int.reduceNe,Int.reduceSub,Int.reduceAdd,Int.reduceMul,Int.reduceBEq,Int.reduceBNe,Int.reduceGT,Int.reduceGE,Nat.reduceGT,Int.reduceToNat,Int.reduceNeg,Nat.reduceLeDiff,Nat.reduceBEq,Nat.reduceBneDiff, c50]
    refine (op_Good_c E G17 e S.h8 e1 e2 e3 e4).mono ?_
    rintro r G18 ⟨le18, rfl⟩
    have stZ := stA G18 (edC ZE) le18 zl (edC_one _)
    have ldZ := ld G18 (edC ZE) zl
    rw [edC_ZE] at stZ ldZ
    have stE := stA G18 (edC e) le18 el (edC_one _)
    have ldE := ld G18 (edC e) el
    have c51 := c5 G18 le18
    cases hg : goodE e with
    | false =>
      simp -implicitDefEqProofs only [zA,reduceIte,reduceCtorEq,Nat.reduceEqDiff,Nat.reduceAdd,Nat.reduceMul,Nat.reduceLT,Nat.reduceSub,Int.reduceLT,Int.reduceLE,Int.reduceEq,Int.reduceNe,Int.reduceSub,Int.reduceAdd,Int.reduceMul,Int.reduceBEq,Int.reduceBNe,Int.reduceGT,Int.reduceGE,Nat.reduceGT,Int.reduceToNat,Int.reduceNeg,Nat.reduceLeDiff,Nat.reduceBEq,Nat.reduceBneDiff, stZ, ldZ, Bool.false_eq_true, and_false]
      exact ⟨leF _ _ le18, rfl⟩
    | true =>
      simp -implicitDefEqProofs only [zA,reduceIte,reduceCtorEq,Nat.reduceEqDiff,Nat.reduceAdd,Nat.reduceMul,Nat.reduceLT,Nat.reduceSub,Int.reduceLT,Int.reduceLE,Int.reduceEq,Int.reduceNe,Int.reduceSub,Int.reduceAdd,Int.reduceMul,Int.reduceBEq,Int.reduceBNe,Int.reduceGT,Int.reduceGE,Nat.reduceGT,Int.reduceToNat,Int.reduceNeg,Nat.reduceLeDiff,Nat.reduceBEq,Nat.reduceBneDiff, c51, stE, ldE, and_self]
      exact ⟨leF _ _ le18, rfl⟩
end Go.Bb
/- Contracts: sealed edits read. -/
namespace Go.Bb
set_option linter.unusedSimpArgs false
set_option linter.unusedVariables false
set_option maxRecDepth 20000
set_option maxHeartbeats 2000000

theorem seal_bucket_c (E : EnvT tab) (H : Heap) (n : Int) (h1 : -1000000000 ≤ n) (h2 : n ≤ 1000000000) : ACallN E.toEnv n_seal_bucket [.int .i64 n] H fun r H' => H' = H ∧ r = .bool (decide (bkA (n - 1) = (n, 0))) := by
  refine acall h_seal_bucket ir_seal_bucket rfl rfl (wpA_sound ?_)
  unfold ir_seal_bucket
  have w1 : IntKind.i64.wrap (n - 1) = n - 1 := wrapI (by omega) (by omega)
  simp -implicitDefEqProofs only [zA,reduceIte,reduceCtorEq,Nat.reduceEqDiff,Nat.reduceAdd,Nat.reduceMul,Nat.reduceLT,Nat.reduceSub,Int.reduceLT,Int.reduceLE,Int.reduceEq,Int.reduceNe,Int.reduceSub,Int.reduceAdd,Int.reduceMul,Int.reduceBEq,Int.reduceBNe,Int.reduceGT,Int.reduceGE,Nat.reduceGT,Int.reduceToNat,Int.reduceNeg,Nat.reduceLeDiff,Nat.reduceBEq,Nat.reduceBneDiff, w1]
  refine (pad_Bucket_c E H (n - 1)).mono ?_
  rintro r H' ⟨rfl, rfl⟩
  generalize bkA (n - 1) = x
  obtain ⟨x1, x2⟩ := x
  simp only [Prod.mk.injEq]
  by_cases g1 : x2 = 0
  · subst g1
    by_cases g2 : x1 = n
    · simp -implicitDefEqProofs only [zA,reduceIte,reduceCtorEq,Nat.reduceEqDiff,Nat.reduceAdd,Nat.reduceMul,Nat.reduceLT,Nat.reduceSub,Int.reduceLT,Int.reduceLE,Int.reduceEq,Int.reduceNe,Int.reduceSub,Int.reduceAdd,Int.reduceMul,Int.reduceBEq,Int.reduceBNe,Int.reduceGT,Int.reduceGE,Nat.reduceGT,Int.reduceToNat,Int.reduceNeg,Nat.reduceLeDiff,Nat.reduceBEq,Nat.reduceBneDiff, g2, beq_self_eq_true]
    · have g3 : (x1 == n) = false := by simpa using g2
      simp -implicitDefEqProofs only [zA,reduceIte,reduceCtorEq,Nat.reduceEqDiff,Nat.reduceAdd,Nat.reduceMul,Nat.reduceLT,Nat.reduceSub,Int.reduceLT,Int.reduceLE,Int.reduceEq,Int.reduceNe,Int.reduceSub,Int.reduceAdd,Int.reduceMul,Int.reduceBEq,Int.reduceBNe,Int.reduceGT,Int.reduceGE,Nat.reduceGT,Int.reduceToNat,Int.reduceNeg,Nat.reduceLeDiff,Nat.reduceBEq,Nat.reduceBneDiff, g2, g3, false_and]
  · simp -implicitDefEqProofs only [zA,reduceIte,reduceCtorEq,Nat.reduceEqDiff,Nat.reduceAdd,Nat.reduceMul,Nat.reduceLT,Nat.reduceSub,Int.reduceLT,Int.reduceLE,Int.reduceEq,Int.reduceNe,Int.reduceSub,Int.reduceAdd,Int.reduceMul,Int.reduceBEq,Int.reduceBNe,Int.reduceGT,Int.reduceGE,Nat.reduceGT,Int.reduceToNat,Int.reduceNeg,Nat.reduceLeDiff,Nat.reduceBEq,Nat.reduceBneDiff, g1, and_false]
def readV (l : List UInt8) : (Nat × Nat × Nat × List UInt8) × Nat := match labL 8 l with
  | none => ((0, 0, 0, []), 3)
  | some x => (x, 0)
/-- While a label is read. -/
structure DS (H h0 G : Heap) (b b3 : Nat) (s : RS) (d n : Int) : Prop where
  R : RdR h0 G b s
  q3 : G b3 = some (.own 0 (dotC d n) 2)
  le : H.le G
  n3 : b3 ≠ b
  z3 : h0 b3 = none
  z3H : H b3 = none
  zbH : H b = none
theorem DS.read {H h0 G G' : Heap} {b b3 : Nat} {s s' : RS} {d n : Int} (S : DS H h0 G b b3 s d n) (R : RdR h0 G' b s') (k : Kp b G G') : DS H h0 G' b b3 s' d n :=
  ⟨R, k _ _ S.n3 S.q3, fun c x h => k _ _ (by intro q; subst q; rw [S.zbH] at h; cases h) (S.le _ _ h), S.n3, S.z3, S.z3H, S.zbH⟩
theorem DS.store {H h0 G : Heap} {b b3 : Nat} {s : RS} {d n : Int} (S : DS H h0 G b b3 s d n) (d' n' : Int) : DS H h0 (G.set b3 (.own 0 (dotC d' n') 2)) b b3 s d' n' :=
  ⟨S.R.other S.z3 S.n3 _, Heap.set_self _ _ _, fun c x h => by rw [Heap.set_ne (by intro q; subst q; rw [S.z3H] at h; cases h)]; exact S.le _ _ h, S.n3, S.z3, S.z3H, S.zbH⟩
theorem seal_read_c (E : EnvT tab) (H : Heap) {v : Value} (l : List UInt8) (hl : l.length ≤ 100000) (s : SlB H v l) :
    ACallN E.toEnv n_seal_read [v] H fun r H' => H.le H' ∧ ∃ r', r = .tuple #[.int .i64 (readV l).1.1, .agg (dotC (readV l).1.2.1 (readV l).1.2.2.1).toArray, r', .int .i64 (readV l).2] ∧ OwB H H' r' (readV l).1.2.2.2 := by
  refine acall h_seal_read ir_seal_read rfl rfl (wpA_sound ?_)
  unfold ir_seal_read
  simp -implicitDefEqProofs only [zA,reduceIte,reduceCtorEq,Nat.reduceEqDiff,Nat.reduceAdd,Nat.reduceMul,Nat.reduceLT,Nat.reduceSub,Int.reduceLT,Int.reduceLE,Int.reduceEq,Int.reduceNe,Int.reduceSub,Int.reduceAdd,Int.reduceMul,Int.reduceBEq,Int.reduceBNe,Int.reduceGT,Int.reduceGE,Nat.reduceGT,Int.reduceToNat,Int.reduceNeg,Nat.reduceLeDiff,Nat.reduceBEq,Nat.reduceBneDiff]
  intro b3 hb3
  try simp -implicitDefEqProofs only [zA,reduceIte,reduceCtorEq,Nat.reduceEqDiff,Nat.reduceAdd,Nat.reduceMul,Nat.reduceLT,Nat.reduceSub,Int.reduceLT,Int.reduceLE,Int.reduceEq,Int.reduceNe,Int.reduceSub,Int.reduceAdd,Int.reduceMul,Int.reduceBEq,Int.reduceBNe,Int.reduceGT,Int.reduceGE,Nat.reduceGT,Int.reduceToNat,Int.reduceNeg,Nat.reduceLeDiff,Nat.reduceBEq,Nat.reduceBneDiff]
  have le3 := Heap.le_set (Heap.le_refl H) hb3 (.own 0 (dotC 0 0) 2)
  have q3 : (H.set b3 (.own 0 (dotC 0 0) 2)) b3 = some (.own 0 (dotC 0 0) 2) := Heap.set_self _ _ _
  have dz : [Value.int .i64 0, Value.int .i64 0] = dotC 0 0 := rfl
  rw [dz]
  generalize (H.set b3 (.own 0 (dotC 0 0) 2)) = H3 at le3 q3 ⊢
  have leH3 := le3
  refine (wire_Read_c E H3 l (by omega) (s.le le3)).mono ?_
  rintro r G0 ⟨b, rfl, hb, le0, h0, le0', R⟩
  have S : DS H h0 G0 b b3 (some l) 0 0 := by
    have n3 : b3 ≠ b := by intro e; subst e; rw [hb] at q3; cases q3
    have hbH : H b = none := Heap.none_of_le leH3 hb
    refine ⟨R, le0 _ _ q3, Heap.le_trans leH3 le0, n3, le0' b3 (by rw [q3]; simp), hb3, hbH⟩
  clear hb le0 le0' R q3 le3
  obtain ⟨A, hA⟩ : ∃ A, A = numS M40 (some l) := ⟨_, rfl⟩
  obtain ⟨D, hD⟩ : ∃ D, D = numS 8 A.2 := ⟨_, rfl⟩
  obtain ⟨N, hN⟩ : ∃ N, N = numS M40 D.2 := ⟨_, rfl⟩
  obtain ⟨C, hC⟩ : ∃ C, C = bytesS 65552 N.2 := ⟨_, rfl⟩
  have er : rdL 8 (some l) = ((A.1, D.1, N.1, C.1), C.2) := by
    rw [hC, hN, hD, hA]; rfl
  have lA : A.2.len ≤ l.length := by rw [hA]; exact numS_len _ (some l)
  have lD : D.2.len ≤ l.length := by rw [hD]; exact Nat.le_trans (numS_len _ _) lA
  have lN : N.2.len ≤ l.length := by rw [hN]; exact Nat.le_trans (numS_len _ _) lD
  have cC : C.1.length ≤ 65552 := by rw [hC]; exact bytesS_fst _ _
  simp -implicitDefEqProofs only [zA,reduceIte,reduceCtorEq,Nat.reduceEqDiff,Nat.reduceAdd,Nat.reduceMul,Nat.reduceLT,Nat.reduceSub,Int.reduceLT,Int.reduceLE,Int.reduceEq,Int.reduceNe,Int.reduceSub,Int.reduceAdd,Int.reduceMul,Int.reduceBEq,Int.reduceBNe,Int.reduceGT,Int.reduceGE,Nat.reduceGT,Int.reduceToNat,Int.reduceNeg,Nat.reduceLeDiff,Nat.reduceBEq,Nat.reduceBneDiff]
  refine (wire_RNum_c E S.R M40 (by unfold M40; omega) (by simp; omega)).mono ?_
  rintro r G1 ⟨rfl, R1, k1⟩
  rw [← hA] at R1 ⊢
  replace S := S.read R1 k1
  simp -implicitDefEqProofs only [zA,reduceIte,reduceCtorEq,Nat.reduceEqDiff,Nat.reduceAdd,Nat.reduceMul,Nat.reduceLT,Nat.reduceSub,Int.reduceLT,Int.reduceLE,Int.reduceEq,Int.reduceNe,Int.reduceSub,Int.reduceAdd,Int.reduceMul,Int.reduceBEq,Int.reduceBNe,Int.reduceGT,Int.reduceGE,Nat.reduceGT,Int.reduceToNat,Int.reduceNeg,Nat.reduceLeDiff,Nat.reduceBEq,Nat.reduceBneDiff]
  refine (wire_RNum_c E S.R 8 (by omega) (by rw [getD_len]; omega)).mono ?_
  rintro r G2 ⟨rfl, R2, k2⟩
  rw [← hD] at R2 ⊢
  replace S := S.read R2 k2
  have st2 : storeV G2 1 (.pointer (some ⟨b3, 0, none⟩)) (.int .i64 D.1) = some (G2.set b3 (.own 0 (dotC D.1 0) 2)) := storeV_one_at S.q3 rfl (by simp [dotC]) (by simp [dotC])
  replace S := S.store D.1 0
  simp -implicitDefEqProofs only [zA,reduceIte,reduceCtorEq,Nat.reduceEqDiff,Nat.reduceAdd,Nat.reduceMul,Nat.reduceLT,Nat.reduceSub,Int.reduceLT,Int.reduceLE,Int.reduceEq,Int.reduceNe,Int.reduceSub,Int.reduceAdd,Int.reduceMul,Int.reduceBEq,Int.reduceBNe,Int.reduceGT,Int.reduceGE,Nat.reduceGT,Int.reduceToNat,Int.reduceNeg,Nat.reduceLeDiff,Nat.reduceBEq,Nat.reduceBneDiff, st2]
  generalize (G2.set b3 _) = G3 at S ⊢
  refine (wire_RNum_c E S.R M40 (by unfold M40; omega) (by rw [getD_len]; omega)).mono ?_
  rintro r G4 ⟨rfl, R4, k4⟩
  rw [← hN] at R4 ⊢
  replace S := S.read R4 k4
  have st4 : storeV G4 1 (.pointer (some ⟨b3, 1, none⟩)) (.int .i64 N.1) = some (G4.set b3 (.own 0 (dotC D.1 N.1) 2)) := storeV_one_at S.q3 rfl (by simp [dotC]) (by simp [dotC])
  replace S := S.store D.1 N.1
  simp -implicitDefEqProofs only [zA,reduceIte,reduceCtorEq,Nat.reduceEqDiff,Nat.reduceAdd,Nat.reduceMul,Nat.reduceLT,Nat.reduceSub,Int.reduceLT,Int.reduceLE,Int.reduceEq,Int.reduceNe,Int.reduceSub,Int.reduceAdd,Int.reduceMul,Int.reduceBEq,Int.reduceBNe,Int.reduceGT,Int.reduceGE,Nat.reduceGT,Int.reduceToNat,Int.reduceNeg,Nat.reduceLeDiff,Nat.reduceBEq,Nat.reduceBneDiff, st4]
  generalize (G4.set b3 _) = G5 at S ⊢
  refine (wire_RBytes_c E S.R 65552 (by omega) (by omega)).mono ?_
  rintro r G6 ⟨ow, R6, k6⟩
  rw [← hC] at R6 ow
  have S5 := S
  replace S := S.read R6 k6
  obtain ⟨rb, rc, rfl⟩ := Sl.shape ow.sl
  have owH : OwB H G6 (.slice rb C.1.length rc) C.1 := ow.since S5.le
  simp -implicitDefEqProofs only [zA,reduceIte,reduceCtorEq,Nat.reduceEqDiff,Nat.reduceAdd,Nat.reduceMul,Nat.reduceLT,Nat.reduceSub,Int.reduceLT,Int.reduceLE,Int.reduceEq,Int.reduceNe,Int.reduceSub,Int.reduceAdd,Int.reduceMul,Int.reduceBEq,Int.reduceBNe,Int.reduceGT,Int.reduceGE,Nat.reduceGT,Int.reduceToNat,Int.reduceNeg,Nat.reduceLeDiff,Nat.reduceBEq,Nat.reduceBneDiff]
  unfold ir_seal_read_19
  have ev : readV l = if okL ((A.1, D.1, N.1, C.1), C.2) = true then ((A.1, D.1, N.1, C.1), 0) else ((0, 0, 0, []), 3) := by
    unfold readV labL
    rw [er]
    split <;> rename_i h
    · split at h
      · cases h
      · rw [if_neg ‹_›]
    · split at h
      · rw [if_pos ‹_›]; cases h; rfl
      · cases h
  generalize readV l = V at ev ⊢
  clear er hA hD hN hC lA lD lN st2 st4
  simp -implicitDefEqProofs only [zA,reduceIte,reduceCtorEq,Nat.reduceEqDiff,Nat.reduceAdd,Nat.reduceMul,Nat.reduceLT,Nat.reduceSub,Int.reduceLT,Int.reduceLE,Int.reduceEq,Int.reduceNe,Int.reduceSub,Int.reduceAdd,Int.reduceMul,Int.reduceBEq,Int.reduceBNe,Int.reduceGT,Int.reduceGE,Nat.reduceGT,Int.reduceToNat,Int.reduceNeg,Nat.reduceLeDiff,Nat.reduceBEq,Nat.reduceBneDiff]
  refine (wire_End_c E S.R).mono ?_
  rintro r G7 ⟨rfl, rfl⟩
  have cd : hcell G7 ⟨b3, 0, none⟩ = some (.int .i64 D.1) := by rw [hcell_at S.q3 (by simp [dotC])]; rfl
  have cn : hcell G7 ⟨b3, 1, none⟩ = some (.int .i64 N.1) := by rw [hcell_at S.q3 (by simp [dotC])]; rfl
  have c2 : hcells G7 ⟨b3, 0, none⟩ 2 = some (dotC D.1 N.1) := by rw [hcells_at S.q3 (by simp [dotC])]; rfl
  have stA : ∀ d n : Int, storeV G7 2 (.pointer (some ⟨b3, 0, none⟩)) (.agg (dotC d n).toArray) = some (G7.set b3 (.own 0 (dotC d n) 2)) := fun d n => storeV_agg_at S.q3 (by omega) rfl rfl rfl (by omega)
  have ld : ∀ d n : Int, hcells (G7.set b3 (.own 0 (dotC d n) 2)) ⟨b3, 0, none⟩ 2 = some (dotC d n) := fun d n => z6x rfl
  have leF : ∀ X, H.le (G7.set b3 X) := fun X => Heap.le_set S.le S.z3H _
  have stZ := stA 0 0
  have ldZ := ld 0 0
  have bad : okL ((A.1, D.1, N.1, C.1), C.2) = false → H.le (G7.set b3 (.own 0 (dotC 0 0) 2)) ∧ ∃ r', Value.tuple #[.int .i64 0, .agg (dotC 0 0).toArray, .slice none 0 0, .int .i64 3] = .tuple #[.int .i64 V.1.1, .agg (dotC V.1.2.1 V.1.2.2.1).toArray, r', .int .i64 (V.2 : Nat)] ∧ OwB H (G7.set b3 (.own 0 (dotC 0 0) 2)) r' V.1.2.2.2 := by
    intro h
    rw [h] at ev
    subst ev
    exact ⟨leF _, _, rfl, Ow.nil _ _ _⟩
  have eo : okL ((A.1, D.1, N.1, C.1), C.2) = (endS C.2 && decide (D.1 < 8) && decide (1 ≤ N.1) && bktG C.1.length) := rfl
  cases e1 : endS C.2 with
  | false =>
    have hf : okL ((A.1, D.1, N.1, C.1), C.2) = false := by rw [eo, e1]; rfl
    simp -implicitDefEqProofs only [zA,reduceIte,reduceCtorEq,Nat.reduceEqDiff,Nat.reduceAdd,Nat.reduceMul,Nat.reduceLT,Nat.reduceSub,Int.reduceLT,Int.reduceLE,Int.reduceEq,Int.reduceNe,Int.reduceSub,Int.reduceAdd,Int.reduceMul,Int.reduceBEq,Int.reduceBNe,Int.reduceGT,Int.reduceGE,Nat.reduceGT,Int.reduceToNat,Int.reduceNeg,Nat.reduceLeDiff,Nat.reduceBEq,Nat.reduceBneDiff]
    unfold ir_seal_read_q
    simp -implicitDefEqProofs only [zA,reduceIte,reduceCtorEq,Nat.reduceEqDiff,Nat.reduceAdd,Nat.reduceMul,Nat.reduceLT,Nat.reduceSub,Int.reduceLT,Int.reduceLE,Int.reduceEq,Int.reduceNe,Int.reduceSub,Int.reduceAdd,Int.reduceMul,Int.reduceBEq,Int.reduceBNe,Int.reduceGT,Int.reduceGE,Nat.reduceGT,Int.reduceToNat,Int.reduceNeg,Nat.reduceLeDiff,Nat.reduceBEq,Nat.reduceBneDiff, dz, stZ, ldZ]
    exact bad hf
  | true =>
    simp -implicitDefEqProofs only [zA,reduceIte,reduceCtorEq,Nat.reduceEqDiff,Nat.reduceAdd,Nat.reduceMul,Nat.reduceLT,Nat.reduceSub,Int.reduceLT,Int.reduceLE,Int.reduceEq,Int.reduceNe,Int.reduceSub,Int.reduceAdd,Int.reduceMul,Int.reduceBEq,Int.reduceBNe,Int.reduceGT,Int.reduceGE,Nat.reduceGT,Int.reduceToNat,Int.reduceNeg,Nat.reduceLeDiff,Nat.reduceBEq,Nat.reduceBneDiff, cd]
    refine (vec_Dev_c E G7 D.1).mono ?_
    rintro r G8 ⟨rfl, rfl⟩
    by_cases g1 : D.1 < 8
    · have g1' : (0 : Int) ≤ (D.1 : Nat) ∧ ((D.1 : Nat) : Int) < 8 := by omega
      by_cases g2 : 1 ≤ N.1
      · have g2' : ¬ ((N.1 : Nat) : Int) < 1 := by omega
        have ws : IntKind.i64.wrap (((C.1.length : Nat) : Int) - 16) = ((C.1.length : Nat) : Int) - 16 := wrapI (by omega) (by omega)
        simp -implicitDefEqProofs only [zA,reduceIte,reduceCtorEq,Nat.reduceEqDiff,Nat.reduceAdd,Nat.reduceMul,Nat.reduceLT,Nat.reduceSub,Int.reduceLT,Int.reduceLE,Int.reduceEq,Int.reduceNe,Int.reduceSub,Int.reduceAdd,Int.reduceMul,Int.reduceBEq,Int.reduceBNe,Int.reduceGT,Int.reduceGE,Nat.reduceGT,Int.reduceToNat,Int.reduceNeg,Nat.reduceLeDiff,Nat.reduceBEq,Nat.reduceBneDiff, g1', cn, g2', ws]
        refine (seal_bucket_c E G8 _ (by omega) (by omega)).mono ?_
        rintro r G9 ⟨rfl, rfl⟩
        have eb : decide (bkA (((C.1.length : Nat) : Int) - 16 - 1) = (((C.1.length : Nat) : Int) - 16, 0)) = bktG C.1.length := rfl
        rw [eb]
        cases g3 : bktG C.1.length with
        | false =>
          have hf : okL ((A.1, D.1, N.1, C.1), C.2) = false := by rw [eo, g3, Bool.and_false]
          simp -implicitDefEqProofs only [zA,reduceIte,reduceCtorEq,Nat.reduceEqDiff,Nat.reduceAdd,Nat.reduceMul,Nat.reduceLT,Nat.reduceSub,Int.reduceLT,Int.reduceLE,Int.reduceEq,Int.reduceNe,Int.reduceSub,Int.reduceAdd,Int.reduceMul,Int.reduceBEq,Int.reduceBNe,Int.reduceGT,Int.reduceGE,Nat.reduceGT,Int.reduceToNat,Int.reduceNeg,Nat.reduceLeDiff,Nat.reduceBEq,Nat.reduceBneDiff]
          unfold ir_seal_read_q
          simp -implicitDefEqProofs only [zA,reduceIte,reduceCtorEq,Nat.reduceEqDiff,Nat.reduceAdd,Nat.reduceMul,Nat.reduceLT,Nat.reduceSub,Int.reduceLT,Int.reduceLE,Int.reduceEq,Int.reduceNe,Int.reduceSub,Int.reduceAdd,Int.reduceMul,Int.reduceBEq,Int.reduceBNe,Int.reduceGT,Int.reduceGE,Nat.reduceGT,Int.reduceToNat,Int.reduceNeg,Nat.reduceLeDiff,Nat.reduceBEq,Nat.reduceBneDiff, dz, stZ, ldZ]
          exact bad hf
        | true =>
          have hf : okL ((A.1, D.1, N.1, C.1), C.2) = true := by rw [eo, g3, e1]; simp [g1, g2]
          rw [hf] at ev
          simp only [if_true] at ev
          subst ev
          simp -implicitDefEqProofs only [zA,reduceIte,reduceCtorEq,Nat.reduceEqDiff,Nat.reduceAdd,Nat.reduceMul,Nat.reduceLT,Nat.reduceSub,Int.reduceLT,Int.reduceLE,Int.reduceEq,Int.reduceNe,Int.reduceSub,Int.reduceAdd,Int.reduceMul,Int.reduceBEq,Int.reduceBNe,Int.reduceGT,Int.reduceGE,Nat.reduceGT,Int.reduceToNat,Int.reduceNeg,Nat.reduceLeDiff,Nat.reduceBEq,Nat.reduceBneDiff]
          unfold ir_seal_read_q
          simp -implicitDefEqProofs only [zA,reduceIte,reduceCtorEq,Nat.reduceEqDiff,Nat.reduceAdd,Nat.reduceMul,Nat.reduceLT,Nat.reduceSub,Int.reduceLT,Int.reduceLE,Int.reduceEq,Int.reduceNe,Int.reduceSub,Int.reduceAdd,Int.reduceMul,Int.reduceBEq,Int.reduceBNe,Int.reduceGT,Int.reduceGE,Nat.reduceGT,Int.reduceToNat,Int.reduceNeg,Nat.reduceLeDiff,Nat.reduceBEq,Nat.reduceBneDiff]
          unfold ir_seal_read_41
          have stD := stA D.1 N.1
          rw [Heap.set_same S.q3] at stD
          simp -implicitDefEqProofs only [zA,reduceIte,reduceCtorEq,Nat.reduceEqDiff,Nat.reduceAdd,Nat.reduceMul,Nat.reduceLT,Nat.reduceSub,Int.reduceLT,Int.reduceLE,Int.reduceEq,Int.reduceNe,Int.reduceSub,Int.reduceAdd,Int.reduceMul,Int.reduceBEq,Int.reduceBNe,Int.reduceGT,Int.reduceGE,Nat.reduceGT,Int.reduceToNat,Int.reduceNeg,Nat.reduceLeDiff,Nat.reduceBEq,Nat.reduceBneDiff, c2, stD, implies_true, List.mem_cons, List.not_mem_nil, List.mem_singleton, or_false, forall_eq, forall_eq_or_imp, and_self]
          exact ⟨S.le, _, rfl, owH⟩
      · have g2' : ((N.1 : Nat) : Int) < 1 := by omega
        have hf : okL ((A.1, D.1, N.1, C.1), C.2) = false := by rw [eo]; simp [g2]
        simp -implicitDefEqProofs only [zA,reduceIte,reduceCtorEq,Nat.reduceEqDiff,Nat.reduceAdd,Nat.reduceMul,Nat.reduceLT,Nat.reduceSub,Int.reduceLT,Int.reduceLE,Int.reduceEq,Int.reduceNe,Int.reduceSub,Int.reduceAdd,Int.reduceMul,Int.reduceBEq,Int.reduceBNe,Int.reduceGT,Int.reduceGE,Nat.reduceGT,Int.reduceToNat,Int.reduceNeg,Nat.reduceLeDiff,Nat.reduceBEq,Nat.reduceBneDiff, g1', cn, g2']
        unfold ir_seal_read_q
        simp -implicitDefEqProofs only [zA,reduceIte,reduceCtorEq,Nat.reduceEqDiff,Nat.reduceAdd,Nat.reduceMul,Nat.reduceLT,Nat.reduceSub,Int.reduceLT,Int.reduceLE,Int.reduceEq,Int.reduceNe,Int.reduceSub,Int.reduceAdd,Int.reduceMul,Int.reduceBEq,Int.reduceBNe,Int.reduceGT,Int.reduceGE,Nat.reduceGT,Int.reduceToNat,Int.reduceNeg,Nat.reduceLeDiff,Nat.reduceBEq,Nat.reduceBneDiff, dz, stZ, ldZ]
        exact bad hf
    · have g1' : ¬ ((0 : Int) ≤ (D.1 : Nat) ∧ ((D.1 : Nat) : Int) < 8) := by omega
      have hf : okL ((A.1, D.1, N.1, C.1), C.2) = false := by rw [eo]; simp [g1]
      simp -implicitDefEqProofs only [zA,reduceIte,reduceCtorEq,Nat.reduceEqDiff,Nat.reduceAdd,Nat.reduceMul,Nat.reduceLT,Nat.reduceSub,Int.reduceLT,Int.reduceLE,Int.reduceEq,Int.reduceNe,Int.reduceSub,Int.reduceAdd,Int.reduceMul,Int.reduceBEq,Int.reduceBNe,Int.reduceGT,Int.reduceGE,Nat.reduceGT,Int.reduceToNat,Int.reduceNeg,Nat.reduceLeDiff,Nat.reduceBEq,Nat.reduceBneDiff, g1']
      unfold ir_seal_read_q
      simp -implicitDefEqProofs only [zA,reduceIte,reduceCtorEq,Nat.reduceEqDiff,Nat.reduceAdd,Nat.reduceMul,Nat.reduceLT,Nat.reduceSub,Int.reduceLT,Int.reduceLE,Int.reduceEq,Int.reduceNe,Int.reduceSub,Int.reduceAdd,Int.reduceMul,Int.reduceBEq,Int.reduceBNe,Int.reduceGT,Int.reduceGE,Nat.reduceGT,Int.reduceToNat,Int.reduceNeg,Nat.reduceLeDiff,Nat.reduceBEq,Nat.reduceBneDiff, dz, stZ, ldZ]
      exact bad hf
end Go.Bb
/- Contracts: opened. -/
namespace Go.Bb
set_option linter.unusedSimpArgs false
set_option linter.unusedVariables false
set_option maxRecDepth 20000
set_option maxHeartbeats 2000000

theorem aead_Open_c (E : EnvT tab) (h : Heap) {v w : Value} (key nonce sealed beside : List UInt8) (hk : key.length = 32) (hn : nonce.length = 12) (hs : sealed.length ≤ 100000000) (hbs : beside.length ≤ 1000000) (sp : SlB h v sealed) (sb : SlB h w beside) :
    ACallN E.toEnv n_aead_Open [.agg (key.map u8V).toArray, .agg (nonce.map u8V).toArray, v, w] h fun r h' => h.le h' ∧ ∃ r', r = .tuple #[r', .int .i64 (((openF key nonce sealed beside).1 : Nat) : Int)] ∧ OwB h h' r' (openF key nonce sealed beside).2 := by
  obtain ⟨base, cc, rfl⟩ := Sl.shape sp
  obtain ⟨base2, cc2, rfl⟩ := Sl.shape sb
  refine acall h_aead_Open ir_aead_Open rfl rfl (wpA_sound ?_)
  unfold ir_aead_Open
  have hk' : (key.map u8V).length = 32 := by simp [hk]
  have hn' : (nonce.map u8V).length = 12 := by simp [hn]
  have hcap : sealed.length ≤ cc := by
    rcases sp with ⟨e, hn, _⟩ | ⟨a, c', e, hc, _⟩
    · simp only [Value.slice.injEq] at e; omega
    · cases e; exact hc
  unfold openF
  by_cases g1 : 65552 < sealed.length
  · have g : (65552 : Int) < (sealed.length : Int) := by omega
    rw [if_pos g1]
    simp -implicitDefEqProofs only [zA,reduceIte,reduceCtorEq,Nat.reduceEqDiff,Nat.reduceAdd,Nat.reduceMul,Nat.reduceLT,Nat.reduceSub,Int.reduceLT,Int.reduceLE,Int.reduceEq,Int.reduceNe,Int.reduceSub,Int.reduceAdd,Int.reduceMul,Int.reduceBEq,Int.reduceBNe,Int.reduceGT,Int.reduceGE,Nat.reduceGT,Int.reduceToNat,Int.reduceNeg,Nat.reduceLeDiff,Nat.reduceBEq,Nat.reduceBneDiff, hk', hn', g]
    intro b4 hb4 b5 hb5
    obtain ⟨n54, hb5'⟩ := Heap.set_none.1 hb5
    exact ⟨Heap.le_set (Heap.le_set (Heap.le_refl _) hb4 _) hb5' _, _, rfl, Ow.nil _ _ _⟩
  rw [if_neg g1]
  have g : ¬ (65552 : Int) < (sealed.length : Int) := by omega
  have g' : (sealed.length : Int) ≤ 65552 := by omega
  have w1 : IntKind.i64.wrap ((sealed.length : Int) - 16) = (sealed.length : Int) - 16 := wrapI (by omega) (by omega)
  by_cases g2 : sealed.length < 16
  · have gg : (sealed.length : Int) - 16 < 0 := by omega
    rw [if_pos g2]
    simp -implicitDefEqProofs only [zA,reduceIte,reduceCtorEq,Nat.reduceEqDiff,Nat.reduceAdd,Nat.reduceMul,Nat.reduceLT,Nat.reduceSub,Int.reduceLT,Int.reduceLE,Int.reduceEq,Int.reduceNe,Int.reduceSub,Int.reduceAdd,Int.reduceMul,Int.reduceBEq,Int.reduceBNe,Int.reduceGT,Int.reduceGE,Nat.reduceGT,Int.reduceToNat,Int.reduceNeg,Nat.reduceLeDiff,Nat.reduceBEq,Nat.reduceBneDiff, hk', hn', g, g', w1, gg]
    intro b4 hb4 b5 hb5
    obtain ⟨n54, hb5'⟩ := Heap.set_none.1 hb5
    exact ⟨Heap.le_set (Heap.le_set (Heap.le_refl _) hb4 _) hb5' _, _, rfl, Ow.nil _ _ _⟩
  rw [if_neg g2]
  obtain ⟨n, hnl⟩ : ∃ n, sealed.length = n + 16 := ⟨sealed.length - 16, by omega⟩
  have en : (sealed.length : Int) - 16 = (n : Int) := by omega
  rw [show sealed.length - 16 = n by omega]
  rw [en] at w1
  have gg : ¬ ((n : Int) < 0) := by omega
  have bd : bnds sealed.length cc none (some (some (.int .i64 (n : Int)))) none = some (0, n, cc) := bnds_hi (by omega) (by omega)
  simp -implicitDefEqProofs only [zA,reduceIte,reduceCtorEq,Nat.reduceEqDiff,Nat.reduceAdd,Nat.reduceMul,Nat.reduceLT,Nat.reduceSub,Int.reduceLT,Int.reduceLE,Int.reduceEq,Int.reduceNe,Int.reduceSub,Int.reduceAdd,Int.reduceMul,Int.reduceBEq,Int.reduceBNe,Int.reduceGT,Int.reduceGE,Nat.reduceGT,Int.reduceToNat,Int.reduceNeg,Nat.reduceLeDiff,Nat.reduceBEq,Nat.reduceBneDiff, hk', hn', g, g', en, w1, gg, bd, Nat.sub_zero]
  intro b4 hb4 b5 hb5
  obtain ⟨n54, hb5'⟩ := Heap.set_none.1 hb5
  have le1 : h.le ((h.set b4 (.own 0 (key.map u8V) 32)).set b5 (.own 0 (nonce.map u8V) 12)) := Heap.le_set (Heap.le_set (Heap.le_refl _) hb4 _) hb5' _
  have q4 : ((h.set b4 (.own 0 (key.map u8V) 32)).set b5 (.own 0 (nonce.map u8V) 12)) b4 = some (.own 0 (key.map u8V) 32) := set_keep (Heap.set_self _ _ _) (Ne.symm n54)
  have q5 : ((h.set b4 (.own 0 (key.map u8V) 32)).set b5 (.own 0 (nonce.map u8V) 12)) b5 = some (.own 0 (nonce.map u8V) 12) := Heap.set_self _ _ _
  generalize ((h.set b4 (.own 0 (key.map u8V) 32)).set b5 (.own 0 (nonce.map u8V) 12)) = h1 at le1 q4 q5 ⊢
  have l4 : hcells h1 ⟨b4, 0, none⟩ 32 = some (key.map u8V) := hcells_own0 q4 hk'
  have l5 : hcells h1 ⟨b5, 0, none⟩ 12 = some (nonce.map u8V) := hcells_own0 q5 hn'
  rw [addO base cc fun a _ => addr_add0 a]
  have sh := Sl.headB (sp.le le1) (m := n) (by omega)
  have lh : (sealed.take n).length = n := by simp; omega
  refine (Clone_c E h1 (sealed.take n) (by omega) sh).mono ?_
  rintro r h2 ⟨le2, ow2⟩
  have s2 := ow2.sl
  have sT := Sl.midB (a := n) (b := sealed.length) (sp.le le1) (by omega) (by omega)
  have lT : ((sealed.drop n).take (sealed.length - n)) = sealed.drop n := List.take_of_length_le (by simp)
  rw [lT] at sT
  generalize sealed.take n = c at lh s2 ow2 ⊢
  obtain ⟨base3, cc3, rfl⟩ := Sl.shape s2
  have l4' := hcells_le le2 l4
  have l5' := hcells_le le2 l5
  simp -implicitDefEqProofs only [zA,reduceIte,reduceCtorEq,Nat.reduceEqDiff,Nat.reduceAdd,Nat.reduceMul,Nat.reduceLT,Nat.reduceSub,Int.reduceLT,Int.reduceLE,Int.reduceEq,Int.reduceNe,Int.reduceSub,Int.reduceAdd,Int.reduceMul,Int.reduceBEq,Int.reduceBNe,Int.reduceGT,Int.reduceGE,Nat.reduceGT,Int.reduceToNat,Int.reduceNeg,Nat.reduceLeDiff,Nat.reduceBEq,Nat.reduceBneDiff]
  unfold ir_aead_Open_25
  simp -implicitDefEqProofs only [zA,reduceIte,reduceCtorEq,Nat.reduceEqDiff,Nat.reduceAdd,Nat.reduceMul,Nat.reduceLT,Nat.reduceSub,Int.reduceLT,Int.reduceLE,Int.reduceEq,Int.reduceNe,Int.reduceSub,Int.reduceAdd,Int.reduceMul,Int.reduceBEq,Int.reduceBNe,Int.reduceGT,Int.reduceGE,Nat.reduceGT,Int.reduceToNat,Int.reduceNeg,Nat.reduceLeDiff,Nat.reduceBEq,Nat.reduceBneDiff, l4', l5']
  refine (aead_tag_c E _ key nonce c beside hk hn (by omega) hbs s2 (sb.le (Heap.le_trans le1 le2))).mono ?_
  rintro r h3 ⟨le3, rfl⟩
  have hlen2 := atagF_len key nonce c beside
  generalize atagF key nonce c beside = tg at hlen2 ⊢
  simp -implicitDefEqProofs only [zA,reduceIte,reduceCtorEq,Nat.reduceEqDiff,Nat.reduceAdd,Nat.reduceMul,Nat.reduceLT,Nat.reduceSub,Int.reduceLT,Int.reduceLE,Int.reduceEq,Int.reduceNe,Int.reduceSub,Int.reduceAdd,Int.reduceMul,Int.reduceBEq,Int.reduceBNe,Int.reduceGT,Int.reduceGE,Nat.reduceGT,Int.reduceToNat,Int.reduceNeg,Nat.reduceLeDiff,Nat.reduceBEq,Nat.reduceBneDiff, List.length_replicate]
  intro b12 hb12
  have s12 : storeV (h3.set b12 (.own 0 (List.replicate 16 (.int .u8 0)) 16)) 16 (.pointer (some ⟨b12, 0, none⟩)) (.agg (tg.map u8V).toArray) = some (h3.set b12 (.own 0 (tg.map u8V) 16)) := z6z (by omega) (by simp [hlen2]) (one_u8 _) (by simp) (by omega)
  have le4 := Heap.le_new le3 hb12 (.own 0 (tg.map u8V) 16)
  have st : SlB (h3.set b12 (.own 0 (tg.map u8V) 16)) (.slice (some ⟨b12, 0, none⟩) 16 16) tg := by
    have := own_sl (H := h3.set b12 (.own 0 (tg.map u8V) 16)) (b := b12) (l := tg) (sz := 16) (Heap.set_self _ _ _)
    rw [hlen2] at this
    exact this
  have bd2 : bnds sealed.length cc (some (some (.int .i64 (n : Int)))) none none = some (n, sealed.length, cc) := bnds_lo (by omega) (by omega)
  simp -implicitDefEqProofs only [zA,reduceIte,reduceCtorEq,Nat.reduceEqDiff,Nat.reduceAdd,Nat.reduceMul,Nat.reduceLT,Nat.reduceSub,Int.reduceLT,Int.reduceLE,Int.reduceEq,Int.reduceNe,Int.reduceSub,Int.reduceAdd,Int.reduceMul,Int.reduceBEq,Int.reduceBNe,Int.reduceGT,Int.reduceGE,Nat.reduceGT,Int.reduceToNat,Int.reduceNeg,Nat.reduceLeDiff,Nat.reduceBEq,Nat.reduceBneDiff, s12, bnds_no, Nat.sub_zero, addz, bd2]
  have sT' := sT.le (Heap.le_trans le2 le4)
  have lS : (sealed.drop n).length = sealed.length - n := by simp
  refine (octet_Equal_c E _ tg (sealed.drop n) (by omega) st (by exact sT')).mono ?_
  rintro r h5 ⟨rfl, rfl⟩
  have l4a := hcells_le le4 l4'
  have l5a := hcells_le le4 l5'
  by_cases ht : tg = sealed.drop n
  · rw [if_pos ht]
    have hX := chacha_Xor_c E (h3.set b12 (.own 0 (tg.map u8V) 16)) key nonce c 1 hk hn (by omega) (by rw [show (1 : U32).toNat = 1 from rfl]; omega) (s2.le le4)
    rw [u32_1] at hX
    simp -implicitDefEqProofs only [zA,reduceIte,reduceCtorEq,Nat.reduceEqDiff,Nat.reduceAdd,Nat.reduceMul,Nat.reduceLT,Nat.reduceSub,Int.reduceLT,Int.reduceLE,Int.reduceEq,Int.reduceNe,Int.reduceSub,Int.reduceAdd,Int.reduceMul,Int.reduceBEq,Int.reduceBNe,Int.reduceGT,Int.reduceGE,Nat.reduceGT,Int.reduceToNat,Int.reduceNeg,Nat.reduceLeDiff,Nat.reduceBEq,Nat.reduceBneDiff, ht]
    rw [← ht]
    simp -implicitDefEqProofs only [zA,reduceIte,reduceCtorEq,Nat.reduceEqDiff,Nat.reduceAdd,Nat.reduceMul,Nat.reduceLT,Nat.reduceSub,Int.reduceLT,Int.reduceLE,Int.reduceEq,Int.reduceNe,Int.reduceSub,Int.reduceAdd,Int.reduceMul,Int.reduceBEq,Int.reduceBNe,Int.reduceGT,Int.reduceGE,Nat.reduceGT,Int.reduceToNat,Int.reduceNeg,Nat.reduceLeDiff,Nat.reduceBEq,Nat.reduceBneDiff, l4a, l5a]
    refine hX.mono ?_
    rintro r h6 ⟨le6, r', rfl, ow6⟩
    simp -implicitDefEqProofs only [zA,reduceIte,reduceCtorEq,Nat.reduceEqDiff,Nat.reduceAdd,Nat.reduceMul,Nat.reduceLT,Nat.reduceSub,Int.reduceLT,Int.reduceLE,Int.reduceEq,Int.reduceNe,Int.reduceSub,Int.reduceAdd,Int.reduceMul,Int.reduceBEq,Int.reduceBNe,Int.reduceGT,Int.reduceGE,Nat.reduceGT,Int.reduceToNat,Int.reduceNeg,Nat.reduceLeDiff,Nat.reduceBEq,Nat.reduceBneDiff]
    have le06 := Heap.le_trans le1 (Heap.le_trans le2 le4)
    exact ⟨Heap.le_trans le06 le6, _, rfl, Ow.since le06 ow6⟩
  · rw [if_neg ht]
    simp -implicitDefEqProofs only [zA,reduceIte,reduceCtorEq,Nat.reduceEqDiff,Nat.reduceAdd,Nat.reduceMul,Nat.reduceLT,Nat.reduceSub,Int.reduceLT,Int.reduceLE,Int.reduceEq,Int.reduceNe,Int.reduceSub,Int.reduceAdd,Int.reduceMul,Int.reduceBEq,Int.reduceBNe,Int.reduceGT,Int.reduceGE,Nat.reduceGT,Int.reduceToNat,Int.reduceNeg,Nat.reduceLeDiff,Nat.reduceBEq,Nat.reduceBneDiff, ht]
    exact ⟨Heap.le_trans le1 (Heap.le_trans le2 le4), _, rfl, Ow.nil _ _ _⟩
end Go.Bb
