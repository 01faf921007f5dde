/- My contracts: BbCcha2 BbCcha3 BbUe BbCsha2 BbCsha3 BbCsha4 BbCsha5 BbCsha6 BbCsha7 BbChk BbKnown6. -/
import Derived.Test.YtfbhhmmjfoemkaaBbG3
import Derived.Test.YtfbhhmmjfoemkaaBbM2
import Derived.Test.YtfbhhmmjfoemkaaBbG4
import Derived.Test.YtfbhhmmjfoemkaaBbM1
/- Contracts: streams of keys: the state. -/
namespace Go.Bb
set_option linter.unusedSimpArgs false
set_option linter.unusedVariables false
set_option maxRecDepth 20000
set_option maxHeartbeats 2000000

/-- The first i ones of one row of words, the rest of another. -/
def blendU (p f : Nat → U32) (i : Nat) : Nat → U32 := fun j => if j < i then p j else f j
theorem blendU_0 (p f : Nat → U32) : blendU p f 0 = f := by funext j; simp [blendU]
theorem blendU_lt {p f : Nat → U32} {i j : Nat} (h : j < i) : blendU p f i j = p j := by simp [blendU, h]
theorem blendU_ge {p f : Nat → U32} {i j : Nat} (h : i ≤ j) : blendU p f i j = f j := by simp [blendU]; omega
theorem blendU_step (p f : Nat → U32) (i : Nat) {z : U32} (hz : z = p i) : updU (blendU p f i) i z = blendU p f (i + 1) := by
  subst hz
  funext j
  simp only [updU, blendU]
  by_cases e : j = i
  · subst e; simp
  · rw [if_neg e]
    by_cases e2 : j < i
    · rw [if_pos e2, if_pos (by omega)]
    · rw [if_neg e2, if_neg (by omega)]
theorem rowU_agg {H : Heap} {b n : Nat} {f : Nat → U32} {old : List Value} (h : H b = some (.own 0 old n)) (hl : old.length = n) (hn : 0 < n) : storeV H n (.pointer (some ⟨b, 0, none⟩)) (.agg (rowU f n).toArray) = some (H.set b (.own 0 (rowU f n) n)) :=
  storeV_agg_at h hn (rowU_len _ _) (rowU_one _ _) hl (by omega)
theorem const16_row : Value.int .u32 1634760805 :: Value.int .u32 857760878 :: Value.int .u32 2036477234 :: Value.int .u32 1797285236 :: List.replicate 12 (Value.int .u32 0) = rowU constC 16 := rfl
theorem slice_at {H : Heap} {b n : Nat} {l : List UInt8} (h : H b = some (.own 0 (l.map u8V) n)) (hl : l.length = n) (k : Nat) (hk : k < n) : SlB H (.slice (some (Addr.add ⟨b, 0, none⟩ k)) (n - k) (n - k)) (l.drop k) := by
  have s := own_sl h
  have := Sl.midB (a := k) (b := l.length) s (by omega) (Nat.le_refl _)
  rw [if_neg (by omega)] at this
  simp only [Option.map_some] at this
  rw [hl] at this
  rw [List.take_of_length_le (by simp; omega)] at this
  exact this

theorem constC_0 (n : Nat) : constC (n + 4) = 0 := rfl
theorem const_blend (key nonce : List UInt8) (count : U32) : rowU constC 16 = rowU (blendU (stateF key count nonce) (fun _ => 0) 4) 16 := by
  apply rowU_congr
  intro j hj
  by_cases h : j < 4
  · rw [blendU_lt h]; unfold stateF; rw [if_pos h]
  · rw [blendU_ge (by omega)]
    obtain ⟨k, rfl⟩ : ∃ k, j = k + 4 := ⟨j - 4, by omega⟩
    exact constC_0 k
theorem chacha_state_c (E : EnvT tab) (h : Heap) (key nonce : List UInt8) (count : U32) (hk : key.length = 32) (hn : nonce.length = 12) :
    ACallN E.toEnv n_chacha_state [.agg (key.map u8V).toArray, .int .u32 count.toNat, .agg (nonce.map u8V).toArray] h fun r h' => h.le h' ∧ r = .agg (rowU (stateF key count nonce) 16).toArray := by
  refine acall h_chacha_state ir_chacha_state rfl rfl (wpA_sound ?_)
  unfold ir_chacha_state
  have hk' : (key.map u8V).length = 32 := by simp [hk]
  have hn' : (nonce.map u8V).length = 12 := by simp [hn]
  have cr := const_blend key nonce count
  have g12 : count = stateF key count nonce 12 := rfl
  have gk : ∀ i, i < 8 → wordF key i = stateF key count nonce (4 + i) := by
    intro i hi
    unfold stateF
    rw [if_neg (by omega), if_pos (by omega), show 4 + i - 4 = i by omega]
  have gn : ∀ i, i < 3 → wordF nonce i = stateF key count nonce (13 + i) := by
    intro i hi
    unfold stateF
    rw [if_neg (by omega), if_neg (by omega), if_neg (by omega), if_pos (by omega), show 13 + i - 13 = i by omega]
  generalize hg : stateF key count nonce = g at cr g12 gk gn ⊢
  simp -implicitDefEqProofs only [zB1,zB2,zB3,zB4,zB5,zB6,zB7,zB8,zB9,zB10,zB11,y00,y01,y02,y03,y04,y05,y06,y07,y08,y09,y0a,y0b,y0c,y0d,y0e,y0f,y0g,y0h,y0i,y0j,y0k,y0l,y0m,y0n,y0o,y0p,y0q,y0r,y0s,y0t,y0u,y0v,y0w,y0x,y0y,y0z,y10,y11,y12,y13,y14,y15,y16,y17,y18,y19,y1a,y1b,y1c,y1d,y1e,y1f,y1g,y1h,y1i,y1j,y1k,y1l,y1m,y1n,y1o,y1p,y1q,y1r,retO,retL,retV,z69,allV,allP,z6a,z6d,z6e,z6k,z6l,z6m,binV,eqV,unV,oOpt,reduceIte,reduceCtorEq,Nat.reduceEqDiff,Nat.reduceAdd,Nat.reduceMul,Nat.reduceLT,Nat.reduceSub,Int.reduceLT,Int.reduceLE,Int.reduceEq,Int.reduceNe,Int.reduceSub,Int.reduceAdd,Int.reduceMul,Int.reduceBEq,Int.reduceBNe,Int.reduceGT,Int.reduceGE,Nat.reduceGT,Int.reduceToNat,Int.reduceNeg,Nat.reduceLeDiff,Nat.reduceBEq,Nat.reduceBneDiff,Value.cells, hk', hn', List.length_replicate, List.drop_replicate, const16_row, cr]
  intro b3 hb3 b5 hb5 b6 hb6 b7 hb7
  obtain ⟨n53, hb5'⟩ := Heap.set_none.1 hb5
  obtain ⟨n65, hb6a⟩ := Heap.set_none.1 hb6
  obtain ⟨n63, hb6'⟩ := Heap.set_none.1 hb6a
  have le1 : h.le (((h.set b3 (.own 0 (key.map u8V) 32)).set b5 (.own 0 (nonce.map u8V) 12)).set b6 (.own 0 (List.replicate 16 (.int .u32 0)) 16)) := Heap.le_set (Heap.le_set (Heap.le_set (Heap.le_refl _) hb3 _) hb5' _) hb6' _
  have q3 : (((h.set b3 (.own 0 (key.map u8V) 32)).set b5 (.own 0 (nonce.map u8V) 12)).set b6 (.own 0 (List.replicate 16 (.int .u32 0)) 16)) b3 = some (.own 0 (key.map u8V) 32) := set_keep (set_keep (Heap.set_self _ _ _) (Ne.symm n53)) (Ne.symm n63)
  have q5 : (((h.set b3 (.own 0 (key.map u8V) 32)).set b5 (.own 0 (nonce.map u8V) 12)).set b6 (.own 0 (List.replicate 16 (.int .u32 0)) 16)) b5 = some (.own 0 (nonce.map u8V) 12) := set_keep (Heap.set_self _ _ _) (Ne.symm n65)
  have q6 : (((h.set b3 (.own 0 (key.map u8V) 32)).set b5 (.own 0 (nonce.map u8V) 12)).set b6 (.own 0 (List.replicate 16 (.int .u32 0)) 16)) b6 = some (.own 0 (List.replicate 16 (.int .u32 0)) 16) := Heap.set_self _ _ _
  generalize (((h.set b3 (.own 0 (key.map u8V) 32)).set b5 (.own 0 (nonce.map u8V) 12)).set b6 (.own 0 (List.replicate 16 (.int .u32 0)) 16)) = h1 at le1 q3 q5 q6 hb7 ⊢
  have hb7' := Heap.none_of_le le1 hb7
  have n73 := ne_of_none hb7 q3
  have n75 := ne_of_none hb7 q5
  have n76 := ne_of_none hb7 q6
  have s7 : storeV (h1.set b7 (.own 0 (List.replicate 16 (.int .u32 0)) 16)) 16 (.pointer (some ⟨b7, 0, none⟩)) (.agg (rowU (blendU g (fun _ => 0) 4) 16).toArray) = some (h1.set b7 (.own 0 (rowU (blendU g (fun _ => 0) 4) 16) 16)) := z6q (by omega) (rowU_len _ _) (rowU_one _ _) (by simp) (by omega)
  simp -implicitDefEqProofs only [zB1,zB2,zB3,zB4,zB5,zB6,zB7,zB8,zB9,zB10,zB11,y00,y01,y02,y03,y04,y05,y06,y07,y08,y09,y0a,y0b,y0c,y0d,y0e,y0f,y0g,y0h,y0i,y0j,y0k,y0l,y0m,y0n,y0o,y0p,y0q,y0r,y0s,y0t,y0u,y0v,y0w,y0x,y0y,y0z,y10,y11,y12,y13,y14,y15,y16,y17,y18,y19,y1a,y1b,y1c,y1d,y1e,y1f,y1g,y1h,y1i,y1j,y1k,y1l,y1m,y1n,y1o,y1p,y1q,y1r,retO,retL,retV,z69,allV,allP,z6a,z6d,z6e,z6k,z6l,z6m,binV,eqV,unV,oOpt,reduceIte,reduceCtorEq,Nat.reduceEqDiff,Nat.reduceAdd,Nat.reduceMul,Nat.reduceLT,Nat.reduceSub,Int.reduceLT,Int.reduceLE,Int.reduceEq,Int.reduceNe,Int.reduceSub,Int.reduceAdd,Int.reduceMul,Int.reduceBEq,Int.reduceBNe,Int.reduceGT,Int.reduceGE,Nat.reduceGT,Int.reduceToNat,Int.reduceNeg,Nat.reduceLeDiff,Nat.reduceBEq,Nat.reduceBneDiff,Value.cells, s7]
  unfold ir_chacha_state_11
  simp -implicitDefEqProofs only [zB1,zB2,zB3,zB4,zB5,zB6,zB7,zB8,zB9,zB10,zB11,y00,y01,y02,y03,y04,y05,y06,y07,y08,y09,y0a,y0b,y0c,y0d,y0e,y0f,y0g,y0h,y0i,y0j,y0k,y0l,y0m,y0n,y0o,y0p,y0q,y0r,y0s,y0t,y0u,y0v,y0w,y0x,y0y,y0z,y10,y11,y12,y13,y14,y15,y16,y17,y18,y19,y1a,y1b,y1c,y1d,y1e,y1f,y1g,y1h,y1i,y1j,y1k,y1l,y1m,y1n,y1o,y1p,y1q,y1r,retO,retL,retV,z69,allV,allP,z6a,z6d,z6e,z6k,z6l,z6m,binV,eqV,unV,oOpt,reduceIte,reduceCtorEq,Nat.reduceEqDiff,Nat.reduceAdd,Nat.reduceMul,Nat.reduceLT,Nat.reduceSub,Int.reduceLT,Int.reduceLE,Int.reduceEq,Int.reduceNe,Int.reduceSub,Int.reduceAdd,Int.reduceMul,Int.reduceBEq,Int.reduceBNe,Int.reduceGT,Int.reduceGE,Nat.reduceGT,Int.reduceToNat,Int.reduceNeg,Nat.reduceLeDiff,Nat.reduceBEq,Nat.reduceBneDiff,Value.cells]
  refine wp_loop' (fun m t H => h.le H ∧ ∃ i : Nat, i ≤ 8 ∧ m = 8 - i ∧ t = tl [(1, .int .u32 count.toNat), (3, .pointer (some ⟨b3, 0, none⟩)), (5, .pointer (some ⟨b5, 0, none⟩)), (6, .pointer (some ⟨b6, 0, none⟩)), (7, .pointer (some ⟨b7, 0, none⟩)), (11, .int .i64 i)] ∧
      H b3 = some (.own 0 (key.map u8V) 32) ∧ H b5 = some (.own 0 (nonce.map u8V) 12) ∧ H b6 = some (.own 0 (List.replicate 16 (.int .u32 0)) 16) ∧ H b7 = some (.own 0 (rowU (blendU g (fun _ => 0) (4 + i)) 16) 16)) 8
    ⟨Heap.le_new le1 hb7 _, 0, by omega, rfl, rfl, set_keep q3 n73, set_keep q5 n75, set_keep q6 n76, Heap.set_self _ _ _⟩ ?_
  clear q3 q5 q6 le1
  rintro m t H ⟨leH, i, hi, rfl, rfl, q3, q5, q6, q7⟩
  by_cases hlt : (i : Int) < 8
  · have hi' : i < 8 := by omega
    have w1 : IntKind.i64.wrap (4 + (i : Int)) = ((4 + i : Nat) : Int) := by rw [wrapI (by omega) (by omega)]; rfl
    have w2 : IntKind.i64.wrap (4 * (i : Int)) = ((4 * i : Nat) : Int) := by rw [wrapI (by omega) (by omega)]; rfl
    have w7 : IntKind.i64.wrap ((i : Int) + 1) = ((i + 1 : Nat) : Int) := wrapN (by omega)
    have bd : bnds 32 32 (some (some (.int .i64 ((4 * i : Nat) : Int)))) none none = some (4 * i, 32, 32) := bnds_lo (by omega) (by omega)
    have ne : ¬ (32 = 4 * i) := by omega
    have e0 : (0 : Int) ≤ ((4 + i : Nat) : Int) := by omega
    have e1 : ((4 + i : Nat) : Int) < 16 := by omega
    simp -implicitDefEqProofs only [zB1,zB2,zB3,zB4,zB5,zB6,zB7,zB8,zB9,zB10,zB11,y00,y01,y02,y03,y04,y05,y06,y07,y08,y09,y0a,y0b,y0c,y0d,y0e,y0f,y0g,y0h,y0i,y0j,y0k,y0l,y0m,y0n,y0o,y0p,y0q,y0r,y0s,y0t,y0u,y0v,y0w,y0x,y0y,y0z,y10,y11,y12,y13,y14,y15,y16,y17,y18,y19,y1a,y1b,y1c,y1d,y1e,y1f,y1g,y1h,y1i,y1j,y1k,y1l,y1m,y1n,y1o,y1p,y1q,y1r,retO,retL,retV,z69,allV,allP,z6a,z6d,z6e,z6k,z6l,z6m,binV,eqV,unV,oOpt,reduceIte,reduceCtorEq,Nat.reduceEqDiff,Nat.reduceAdd,Nat.reduceMul,Nat.reduceLT,Nat.reduceSub,Int.reduceLT,Int.reduceLE,Int.reduceEq,Int.reduceNe,Int.reduceSub,Int.reduceAdd,Int.reduceMul,Int.reduceBEq,Int.reduceBNe,Int.reduceGT,Int.reduceGE,Nat.reduceGT,Int.reduceToNat,Int.reduceNeg,Nat.reduceLeDiff,Nat.reduceBEq,Nat.reduceBneDiff,Value.cells, hlt, w1, w2, bd, ne]
    refine (chacha_word_c E _ (key.drop (4 * i)) (by simp; omega) (by have := slice_at q3 hk (4 * i) (by omega); unfold SlB; rw [List.length_drop, hk]; unfold SlB at this; rw [List.length_drop, hk] at this; exact this)).mono ?_
    rintro r H2 ⟨le2, rfl⟩
    have s8 := rowU_store (z := wordF key i) (le2 _ _ q7) (show 4 + i < 16 by omega)
    rw [blendU_step g _ _ (gk i hi')] at s8
    unfold wordF at s8
    simp -implicitDefEqProofs only [zB1,zB2,zB3,zB4,zB5,zB6,zB7,zB8,zB9,zB10,zB11,y00,y01,y02,y03,y04,y05,y06,y07,y08,y09,y0a,y0b,y0c,y0d,y0e,y0f,y0g,y0h,y0i,y0j,y0k,y0l,y0m,y0n,y0o,y0p,y0q,y0r,y0s,y0t,y0u,y0v,y0w,y0x,y0y,y0z,y10,y11,y12,y13,y14,y15,y16,y17,y18,y19,y1a,y1b,y1c,y1d,y1e,y1f,y1g,y1h,y1i,y1j,y1k,y1l,y1m,y1n,y1o,y1p,y1q,y1r,retO,retL,retV,z69,allV,allP,z6a,z6d,z6e,z6k,z6l,z6m,binV,eqV,unV,oOpt,reduceIte,reduceCtorEq,Nat.reduceEqDiff,Nat.reduceAdd,Nat.reduceMul,Nat.reduceLT,Nat.reduceSub,Int.reduceLT,Int.reduceLE,Int.reduceEq,Int.reduceNe,Int.reduceSub,Int.reduceAdd,Int.reduceMul,Int.reduceBEq,Int.reduceBNe,Int.reduceGT,Int.reduceGE,Nat.reduceGT,Int.reduceToNat,Int.reduceNeg,Nat.reduceLeDiff,Nat.reduceBEq,Nat.reduceBneDiff,Value.cells, e0, e1, Int.toNat_natCast, s8, w7]
    exact ⟨_, by omega, Heap.le_set (Heap.le_trans leH le2) hb7' _, i + 1, by omega, rfl, rfl, set_keep (le2 _ _ q3) n73, set_keep (le2 _ _ q5) n75, set_keep (le2 _ _ q6) n76, Heap.set_self _ _ _⟩
  · obtain rfl : i = 8 := by omega
    simp -implicitDefEqProofs only [zB1,zB2,zB3,zB4,zB5,zB6,zB7,zB8,zB9,zB10,zB11,y00,y01,y02,y03,y04,y05,y06,y07,y08,y09,y0a,y0b,y0c,y0d,y0e,y0f,y0g,y0h,y0i,y0j,y0k,y0l,y0m,y0n,y0o,y0p,y0q,y0r,y0s,y0t,y0u,y0v,y0w,y0x,y0y,y0z,y10,y11,y12,y13,y14,y15,y16,y17,y18,y19,y1a,y1b,y1c,y1d,y1e,y1f,y1g,y1h,y1i,y1j,y1k,y1l,y1m,y1n,y1o,y1p,y1q,y1r,retO,retL,retV,z69,allV,allP,z6a,z6d,z6e,z6k,z6l,z6m,binV,eqV,unV,oOpt,reduceIte,reduceCtorEq,Nat.reduceEqDiff,Nat.reduceAdd,Nat.reduceMul,Nat.reduceLT,Nat.reduceSub,Int.reduceLT,Int.reduceLE,Int.reduceEq,Int.reduceNe,Int.reduceSub,Int.reduceAdd,Int.reduceMul,Int.reduceBEq,Int.reduceBNe,Int.reduceGT,Int.reduceGE,Nat.reduceGT,Int.reduceToNat,Int.reduceNeg,Nat.reduceLeDiff,Nat.reduceBEq,Nat.reduceBneDiff,Value.cells, hlt]
    unfold ir_chacha_state_22
    have s8 := rowU_store (z := count) q7 (show 12 < 16 by omega)
    rw [blendU_step g _ 12 g12] at s8
    simp -implicitDefEqProofs only [zB1,zB2,zB3,zB4,zB5,zB6,zB7,zB8,zB9,zB10,zB11,y00,y01,y02,y03,y04,y05,y06,y07,y08,y09,y0a,y0b,y0c,y0d,y0e,y0f,y0g,y0h,y0i,y0j,y0k,y0l,y0m,y0n,y0o,y0p,y0q,y0r,y0s,y0t,y0u,y0v,y0w,y0x,y0y,y0z,y10,y11,y12,y13,y14,y15,y16,y17,y18,y19,y1a,y1b,y1c,y1d,y1e,y1f,y1g,y1h,y1i,y1j,y1k,y1l,y1m,y1n,y1o,y1p,y1q,y1r,retO,retL,retV,z69,allV,allP,z6a,z6d,z6e,z6k,z6l,z6m,binV,eqV,unV,oOpt,reduceIte,reduceCtorEq,Nat.reduceEqDiff,Nat.reduceAdd,Nat.reduceMul,Nat.reduceLT,Nat.reduceSub,Int.reduceLT,Int.reduceLE,Int.reduceEq,Int.reduceNe,Int.reduceSub,Int.reduceAdd,Int.reduceMul,Int.reduceBEq,Int.reduceBNe,Int.reduceGT,Int.reduceGE,Nat.reduceGT,Int.reduceToNat,Int.reduceNeg,Nat.reduceLeDiff,Nat.reduceBEq,Nat.reduceBneDiff,Value.cells, s8]
    refine wp_loop' (fun m t H => h.le H ∧ ∃ i : Nat, i ≤ 3 ∧ m = 3 - i ∧ t = tl [(5, .pointer (some ⟨b5, 0, none⟩)), (6, .pointer (some ⟨b6, 0, none⟩)), (7, .pointer (some ⟨b7, 0, none⟩)), (24, .int .i64 i)] ∧
        H b5 = some (.own 0 (nonce.map u8V) 12) ∧ H b6 = some (.own 0 (List.replicate 16 (.int .u32 0)) 16) ∧ H b7 = some (.own 0 (rowU (blendU g (fun _ => 0) (13 + i)) 16) 16)) 3
      ⟨Heap.le_set leH hb7' _, 0, by omega, rfl, rfl, set_keep q5 n75, set_keep q6 n76, Heap.set_self _ _ _⟩ ?_
    clear q3 q5 q6 q7 leH s8 hlt hi
    rintro m t H ⟨leH, i, hi, rfl, rfl, q5, q6, q7⟩
    by_cases hlt : (i : Int) < 3
    · have hi' : i < 3 := by omega
      have w1 : IntKind.i64.wrap (13 + (i : Int)) = ((13 + i : Nat) : Int) := by rw [wrapI (by omega) (by omega)]; rfl
      have w2 : IntKind.i64.wrap (4 * (i : Int)) = ((4 * i : Nat) : Int) := by rw [wrapI (by omega) (by omega)]; rfl
      have w7 : IntKind.i64.wrap ((i : Int) + 1) = ((i + 1 : Nat) : Int) := wrapN (by omega)
      have bd : bnds 12 12 (some (some (.int .i64 ((4 * i : Nat) : Int)))) none none = some (4 * i, 12, 12) := bnds_lo (by omega) (by omega)
      have ne : ¬ (12 = 4 * i) := by omega
      have e0 : (0 : Int) ≤ ((13 + i : Nat) : Int) := by omega
      have e1 : ((13 + i : Nat) : Int) < 16 := by omega
      simp -implicitDefEqProofs only [zB1,zB2,zB3,zB4,zB5,zB6,zB7,zB8,zB9,zB10,zB11,y00,y01,y02,y03,y04,y05,y06,y07,y08,y09,y0a,y0b,y0c,y0d,y0e,y0f,y0g,y0h,y0i,y0j,y0k,y0l,y0m,y0n,y0o,y0p,y0q,y0r,y0s,y0t,y0u,y0v,y0w,y0x,y0y,y0z,y10,y11,y12,y13,y14,y15,y16,y17,y18,y19,y1a,y1b,y1c,y1d,y1e,y1f,y1g,y1h,y1i,y1j,y1k,y1l,y1m,y1n,y1o,y1p,y1q,y1r,retO,retL,retV,z69,allV,allP,z6a,z6d,z6e,z6k,z6l,z6m,binV,eqV,unV,oOpt,reduceIte,reduceCtorEq,Nat.reduceEqDiff,Nat.reduceAdd,Nat.reduceMul,Nat.reduceLT,Nat.reduceSub,Int.reduceLT,Int.reduceLE,Int.reduceEq,Int.reduceNe,Int.reduceSub,Int.reduceAdd,Int.reduceMul,Int.reduceBEq,Int.reduceBNe,Int.reduceGT,Int.reduceGE,Nat.reduceGT,Int.reduceToNat,Int.reduceNeg,Nat.reduceLeDiff,Nat.reduceBEq,Nat.reduceBneDiff,Value.cells, hlt, w1, w2, bd, ne]
      refine (chacha_word_c E _ (nonce.drop (4 * i)) (by simp; omega) (by have := slice_at q5 hn (4 * i) (by omega); unfold SlB; rw [List.length_drop, hn]; unfold SlB at this; rw [List.length_drop, hn] at this; exact this)).mono ?_
      rintro r H2 ⟨le2, rfl⟩
      have s8 := rowU_store (z := wordF nonce i) (le2 _ _ q7) (show 13 + i < 16 by omega)
      rw [blendU_step g _ _ (gn i hi')] at s8
      unfold wordF at s8
      simp -implicitDefEqProofs only [zB1,zB2,zB3,zB4,zB5,zB6,zB7,zB8,zB9,zB10,zB11,y00,y01,y02,y03,y04,y05,y06,y07,y08,y09,y0a,y0b,y0c,y0d,y0e,y0f,y0g,y0h,y0i,y0j,y0k,y0l,y0m,y0n,y0o,y0p,y0q,y0r,y0s,y0t,y0u,y0v,y0w,y0x,y0y,y0z,y10,y11,y12,y13,y14,y15,y16,y17,y18,y19,y1a,y1b,y1c,y1d,y1e,y1f,y1g,y1h,y1i,y1j,y1k,y1l,y1m,y1n,y1o,y1p,y1q,y1r,retO,retL,retV,z69,allV,allP,z6a,z6d,z6e,z6k,z6l,z6m,binV,eqV,unV,oOpt,reduceIte,reduceCtorEq,Nat.reduceEqDiff,Nat.reduceAdd,Nat.reduceMul,Nat.reduceLT,Nat.reduceSub,Int.reduceLT,Int.reduceLE,Int.reduceEq,Int.reduceNe,Int.reduceSub,Int.reduceAdd,Int.reduceMul,Int.reduceBEq,Int.reduceBNe,Int.reduceGT,Int.reduceGE,Nat.reduceGT,Int.reduceToNat,Int.reduceNeg,Nat.reduceLeDiff,Nat.reduceBEq,Nat.reduceBneDiff,Value.cells, e0, e1, Int.toNat_natCast, s8, w7]
      exact ⟨_, by omega, Heap.le_set (Heap.le_trans leH le2) hb7' _, i + 1, by omega, rfl, rfl, set_keep (le2 _ _ q5) n75, set_keep (le2 _ _ q6) n76, Heap.set_self _ _ _⟩
    · obtain rfl : i = 3 := by omega
      have eg : rowU (blendU g (fun _ => 0) (13 + 3)) 16 = rowU g 16 := rowU_congr fun j hj => blendU_lt hj
      rw [eg] at q7
      have l7 := rowU_cells q7
      have s6 := rowU_agg (f := g) q6 (by simp) (by omega)
      have l6 : hcells (H.set b6 (.own 0 (rowU g 16) 16)) ⟨b6, 0, none⟩ 16 = some (rowU g 16) := z6o (rowU_len _ _)
      simp -implicitDefEqProofs only [zB1,zB2,zB3,zB4,zB5,zB6,zB7,zB8,zB9,zB10,zB11,y00,y01,y02,y03,y04,y05,y06,y07,y08,y09,y0a,y0b,y0c,y0d,y0e,y0f,y0g,y0h,y0i,y0j,y0k,y0l,y0m,y0n,y0o,y0p,y0q,y0r,y0s,y0t,y0u,y0v,y0w,y0x,y0y,y0z,y10,y11,y12,y13,y14,y15,y16,y17,y18,y19,y1a,y1b,y1c,y1d,y1e,y1f,y1g,y1h,y1i,y1j,y1k,y1l,y1m,y1n,y1o,y1p,y1q,y1r,retO,retL,retV,z69,allV,allP,z6a,z6d,z6e,z6k,z6l,z6m,binV,eqV,unV,oOpt,reduceIte,reduceCtorEq,Nat.reduceEqDiff,Nat.reduceAdd,Nat.reduceMul,Nat.reduceLT,Nat.reduceSub,Int.reduceLT,Int.reduceLE,Int.reduceEq,Int.reduceNe,Int.reduceSub,Int.reduceAdd,Int.reduceMul,Int.reduceBEq,Int.reduceBNe,Int.reduceGT,Int.reduceGE,Nat.reduceGT,Int.reduceToNat,Int.reduceNeg,Nat.reduceLeDiff,Nat.reduceBEq,Nat.reduceBneDiff,Value.cells, hlt, l7, s6, l6]
      exact Heap.le_set leH hb6' _
end Go.Bb
/- Contracts: streams of keys: a block. -/
namespace Go.Bb
set_option linter.unusedSimpArgs false
set_option linter.unusedVariables false
set_option maxRecDepth 20000
set_option maxHeartbeats 2000000

theorem row8_splice (f g : Nat → UInt8) (n a m : Nat) (h : a + m ≤ n) : splice (row8 f n) a (((List.range m).map fun k => g (a + k)).map u8V) = row8 (fun j => if a ≤ j ∧ j < a + m then g j else f j) n := by
  apply List.ext_getElem?
  intro j
  rw [getElem?_splice (by rw [row8_len]; omega)]
  simp only [List.length_map, List.length_range]
  by_cases h1 : j < a
  · rw [if_pos h1]
    have hj : j < n := by omega
    rw [List.getElem?_eq_getElem (by rw [row8_len]; exact hj), List.getElem?_eq_getElem (by rw [row8_len]; exact hj), row8_get, row8_get, if_neg (by omega)]
  · rw [if_neg h1]
    by_cases h2 : j < a + m
    · have hj : j < n := by omega
      rw [if_pos h2, List.getElem?_eq_getElem (l := row8 _ n) (by rw [row8_len]; exact hj), row8_get, if_pos (by omega)]
      rw [List.getElem?_eq_getElem (by simp; omega)]
      simp [u8V]
      rw [show a + (j - a) = j by omega]
    · rw [if_neg h2]
      by_cases hj : j < n
      · rw [List.getElem?_eq_getElem (by rw [row8_len]; exact hj), List.getElem?_eq_getElem (by rw [row8_len]; exact hj), row8_get, row8_get, if_neg (by omega)]
      · rw [List.getElem?_eq_none (by rw [row8_len]; omega), List.getElem?_eq_none (by rw [row8_len]; omega)]
def blend8 (p : Nat → UInt8) (i : Nat) : Nat → UInt8 := fun j => if j < i then p j else 0
theorem blend8_0 (p : Nat → UInt8) (n : Nat) : List.replicate n (Value.int .u8 0) = row8 (blend8 p 0) n := by
  apply List.ext_getElem
  · simp [row8]
  · intro j h1 h2
    rw [row8_get]; simp [blend8]
theorem blend8_all (p : Nat → UInt8) (n : Nat) : row8 (blend8 p n) n = row8 p n := row8_congr fun j hj => by simp [blend8, hj]
theorem blend8_put (p : Nat → UInt8) (i n : Nat) (h : 4 * i + 4 ≤ n) : splice (row8 (blend8 p (4 * i)) n) (4 * i) (((List.range 4).map fun k => p (4 * i + k)).map u8V) = row8 (blend8 p (4 * (i + 1))) n := by
  rw [row8_splice _ p n (4 * i) 4 h]
  apply row8_congr
  intro j hj
  unfold blend8
  by_cases h1 : 4 * i ≤ j ∧ j < 4 * i + 4
  · rw [if_pos h1, if_pos (by omega)]
  · rw [if_neg h1]
    by_cases h2 : j < 4 * i
    · rw [if_pos h2, if_pos (by omega)]
    · rw [if_neg h2, if_neg (by omega)]
theorem tmod4 (a : Nat) : Int.tmod (a : Int) 4 = ((a % 4 : Nat) : Int) := by
  rw [Int.tmod_eq_emod_of_nonneg (by omega)]; rfl

theorem chacha_Block_c (E : EnvT tab) (h : Heap) (key nonce : List UInt8) (count : U32) (hk : key.length = 32) (hn : nonce.length = 12) :
    ACallN E.toEnv n_chacha_Block [.agg (key.map u8V).toArray, .int .u32 count.toNat, .agg (nonce.map u8V).toArray] h fun r h' => h.le h' ∧ r = .agg (row8 (blockF key count nonce) 64).toArray := by
  refine acall h_chacha_Block ir_chacha_Block rfl rfl (wpA_sound ?_)
  unfold ir_chacha_Block
  have hk' : (key.map u8V).length = 32 := by simp [hk]
  have hn' : (nonce.map u8V).length = 12 := by simp [hn]
  unfold blockF
  simp -implicitDefEqProofs only [zB1,zB2,zB3,zB4,zB5,zB6,zB7,zB8,zB9,zB10,zB11,y00,y01,y02,y03,y04,y05,y06,y07,y08,y09,y0a,y0b,y0c,y0d,y0e,y0f,y0g,y0h,y0i,y0j,y0k,y0l,y0m,y0n,y0o,y0p,y0q,y0r,y0s,y0t,y0u,y0v,y0w,y0x,y0y,y0z,y10,y11,y12,y13,y14,y15,y16,y17,y18,y19,y1a,y1b,y1c,y1d,y1e,y1f,y1g,y1h,y1i,y1j,y1k,y1l,y1m,y1n,y1o,y1p,y1q,y1r,retO,retL,retV,z69,allV,allP,z6a,z6d,z6e,z6k,z6l,z6m,binV,eqV,unV,oOpt,reduceIte,reduceCtorEq,Nat.reduceEqDiff,Nat.reduceAdd,Nat.reduceMul,Nat.reduceLT,Nat.reduceSub,Int.reduceLT,Int.reduceLE,Int.reduceEq,Int.reduceNe,Int.reduceSub,Int.reduceAdd,Int.reduceMul,Int.reduceBEq,Int.reduceBNe,Int.reduceGT,Int.reduceGE,Nat.reduceGT,Int.reduceToNat,Int.reduceNeg,Nat.reduceLeDiff,Nat.reduceBEq,Nat.reduceBneDiff,Value.cells, hk', hn', List.length_replicate]
  intro b3 hb3 b5 hb5 b6 hb6
  obtain ⟨n53, hb5'⟩ := Heap.set_none.1 hb5
  obtain ⟨n65, hb6a⟩ := Heap.set_none.1 hb6
  obtain ⟨n63, hb6'⟩ := Heap.set_none.1 hb6a
  have le1 : h.le (((h.set b3 (.own 0 (key.map u8V) 32)).set b5 (.own 0 (nonce.map u8V) 12)).set b6 (.own 0 (List.replicate 64 (.int .u8 0)) 64)) := Heap.le_set (Heap.le_set (Heap.le_set (Heap.le_refl _) hb3 _) hb5' _) hb6' _
  have l3 : hcells (((h.set b3 (.own 0 (key.map u8V) 32)).set b5 (.own 0 (nonce.map u8V) 12)).set b6 (.own 0 (List.replicate 64 (.int .u8 0)) 64)) ⟨b3, 0, none⟩ 32 = some (key.map u8V) := hcells_own0 (set_keep (set_keep (Heap.set_self _ _ _) (Ne.symm n53)) (Ne.symm n63)) hk'
  have l5 : hcells (((h.set b3 (.own 0 (key.map u8V) 32)).set b5 (.own 0 (nonce.map u8V) 12)).set b6 (.own 0 (List.replicate 64 (.int .u8 0)) 64)) ⟨b5, 0, none⟩ 12 = some (nonce.map u8V) := hcells_own0 (set_keep (Heap.set_self _ _ _) (Ne.symm n65)) hn'
  have q6 : (((h.set b3 (.own 0 (key.map u8V) 32)).set b5 (.own 0 (nonce.map u8V) 12)).set b6 (.own 0 (List.replicate 64 (.int .u8 0)) 64)) b6 = some (.own 0 (List.replicate 64 (.int .u8 0)) 64) := Heap.set_self _ _ _
  generalize (((h.set b3 (.own 0 (key.map u8V) 32)).set b5 (.own 0 (nonce.map u8V) 12)).set b6 (.own 0 (List.replicate 64 (.int .u8 0)) 64)) = h1 at le1 l3 l5 q6 ⊢
  try simp -implicitDefEqProofs only [zB1,zB2,zB3,zB4,zB5,zB6,zB7,zB8,zB9,zB10,zB11,y00,y01,y02,y03,y04,y05,y06,y07,y08,y09,y0a,y0b,y0c,y0d,y0e,y0f,y0g,y0h,y0i,y0j,y0k,y0l,y0m,y0n,y0o,y0p,y0q,y0r,y0s,y0t,y0u,y0v,y0w,y0x,y0y,y0z,y10,y11,y12,y13,y14,y15,y16,y17,y18,y19,y1a,y1b,y1c,y1d,y1e,y1f,y1g,y1h,y1i,y1j,y1k,y1l,y1m,y1n,y1o,y1p,y1q,y1r,retO,retL,retV,z69,allV,allP,z6a,z6d,z6e,z6k,z6l,z6m,binV,eqV,unV,oOpt,reduceIte,reduceCtorEq,Nat.reduceEqDiff,Nat.reduceAdd,Nat.reduceMul,Nat.reduceLT,Nat.reduceSub,Int.reduceLT,Int.reduceLE,Int.reduceEq,Int.reduceNe,Int.reduceSub,Int.reduceAdd,Int.reduceMul,Int.reduceBEq,Int.reduceBNe,Int.reduceGT,Int.reduceGE,Nat.reduceGT,Int.reduceToNat,Int.reduceNeg,Nat.reduceLeDiff,Nat.reduceBEq,Nat.reduceBneDiff,Value.cells, l3, l5]
  refine (chacha_state_c E _ key nonce count hk hn).mono ?_
  rintro r h2 ⟨le2, rfl⟩
  generalize stateF key count nonce = st
  have le02 := Heap.le_trans le1 le2
  have q62 := le2 _ _ q6
  simp -implicitDefEqProofs only [zB1,zB2,zB3,zB4,zB5,zB6,zB7,zB8,zB9,zB10,zB11,y00,y01,y02,y03,y04,y05,y06,y07,y08,y09,y0a,y0b,y0c,y0d,y0e,y0f,y0g,y0h,y0i,y0j,y0k,y0l,y0m,y0n,y0o,y0p,y0q,y0r,y0s,y0t,y0u,y0v,y0w,y0x,y0y,y0z,y10,y11,y12,y13,y14,y15,y16,y17,y18,y19,y1a,y1b,y1c,y1d,y1e,y1f,y1g,y1h,y1i,y1j,y1k,y1l,y1m,y1n,y1o,y1p,y1q,y1r,retO,retL,retV,z69,allV,allP,z6a,z6d,z6e,z6k,z6l,z6m,binV,eqV,unV,oOpt,reduceIte,reduceCtorEq,Nat.reduceEqDiff,Nat.reduceAdd,Nat.reduceMul,Nat.reduceLT,Nat.reduceSub,Int.reduceLT,Int.reduceLE,Int.reduceEq,Int.reduceNe,Int.reduceSub,Int.reduceAdd,Int.reduceMul,Int.reduceBEq,Int.reduceBNe,Int.reduceGT,Int.reduceGE,Nat.reduceGT,Int.reduceToNat,Int.reduceNeg,Nat.reduceLeDiff,Nat.reduceBEq,Nat.reduceBneDiff,Value.cells, List.length_replicate]
  intro b7 hb7
  have s7 : storeV (h2.set b7 (.own 0 (List.replicate 16 (.int .u32 0)) 16)) 16 (.pointer (some ⟨b7, 0, none⟩)) (.agg (rowU st 16).toArray) = some (h2.set b7 (.own 0 (rowU st 16) 16)) := z6q (by omega) (rowU_len _ _) (rowU_one _ _) (by simp) (by omega)
  have le7 := Heap.le_new le02 hb7 (.own 0 (rowU st 16) 16)
  have q67 := set_new (X := .own 0 (rowU st 16) 16) hb7 q62
  have q77 := Heap.set_self h2 b7 (.own 0 (rowU st 16) 16)
  have l7 := rowU_cells q77
  simp -implicitDefEqProofs only [zB1,zB2,zB3,zB4,zB5,zB6,zB7,zB8,zB9,zB10,zB11,y00,y01,y02,y03,y04,y05,y06,y07,y08,y09,y0a,y0b,y0c,y0d,y0e,y0f,y0g,y0h,y0i,y0j,y0k,y0l,y0m,y0n,y0o,y0p,y0q,y0r,y0s,y0t,y0u,y0v,y0w,y0x,y0y,y0z,y10,y11,y12,y13,y14,y15,y16,y17,y18,y19,y1a,y1b,y1c,y1d,y1e,y1f,y1g,y1h,y1i,y1j,y1k,y1l,y1m,y1n,y1o,y1p,y1q,y1r,retO,retL,retV,z69,allV,allP,z6a,z6d,z6e,z6k,z6l,z6m,binV,eqV,unV,oOpt,reduceIte,reduceCtorEq,Nat.reduceEqDiff,Nat.reduceAdd,Nat.reduceMul,Nat.reduceLT,Nat.reduceSub,Int.reduceLT,Int.reduceLE,Int.reduceEq,Int.reduceNe,Int.reduceSub,Int.reduceAdd,Int.reduceMul,Int.reduceBEq,Int.reduceBNe,Int.reduceGT,Int.reduceGE,Nat.reduceGT,Int.reduceToNat,Int.reduceNeg,Nat.reduceLeDiff,Nat.reduceBEq,Nat.reduceBneDiff,Value.cells, s7, l7, List.length_replicate]
  generalize (h2.set b7 (.own 0 (rowU st 16) 16)) = h3 at le7 q67 q77 ⊢
  intro b8 hb8
  have s8 : storeV (h3.set b8 (.own 0 (List.replicate 16 (.int .u32 0)) 16)) 16 (.pointer (some ⟨b8, 0, none⟩)) (.agg (rowU st 16).toArray) = some (h3.set b8 (.own 0 (rowU st 16) 16)) := z6q (by omega) (rowU_len _ _) (rowU_one _ _) (by simp) (by omega)
  have le8 := Heap.le_new le7 hb8 (.own 0 (rowU st 16) 16)
  have q68 := set_new (X := .own 0 (rowU st 16) 16) hb8 q67
  have q78 := set_new (X := .own 0 (rowU st 16) 16) hb8 q77
  have q88 := Heap.set_self h3 b8 (.own 0 (rowU st 16) 16)
  have n68 := ne_of_none hb8 q67
  have n78 := ne_of_none hb8 q77
  have hb8' := Heap.none_of_le le7 hb8
  simp -implicitDefEqProofs only [zB1,zB2,zB3,zB4,zB5,zB6,zB7,zB8,zB9,zB10,zB11,y00,y01,y02,y03,y04,y05,y06,y07,y08,y09,y0a,y0b,y0c,y0d,y0e,y0f,y0g,y0h,y0i,y0j,y0k,y0l,y0m,y0n,y0o,y0p,y0q,y0r,y0s,y0t,y0u,y0v,y0w,y0x,y0y,y0z,y10,y11,y12,y13,y14,y15,y16,y17,y18,y19,y1a,y1b,y1c,y1d,y1e,y1f,y1g,y1h,y1i,y1j,y1k,y1l,y1m,y1n,y1o,y1p,y1q,y1r,retO,retL,retV,z69,allV,allP,z6a,z6d,z6e,z6k,z6l,z6m,binV,eqV,unV,oOpt,reduceIte,reduceCtorEq,Nat.reduceEqDiff,Nat.reduceAdd,Nat.reduceMul,Nat.reduceLT,Nat.reduceSub,Int.reduceLT,Int.reduceLE,Int.reduceEq,Int.reduceNe,Int.reduceSub,Int.reduceAdd,Int.reduceMul,Int.reduceBEq,Int.reduceBNe,Int.reduceGT,Int.reduceGE,Nat.reduceGT,Int.reduceToNat,Int.reduceNeg,Nat.reduceLeDiff,Nat.reduceBEq,Nat.reduceBneDiff,Value.cells, s8]
  generalize (h3.set b8 (.own 0 (rowU st 16) 16)) = h4 at le8 q68 q78 q88 ⊢
  refine wp_loop' (fun m t H => h.le H ∧ ∃ n : Nat, n ≤ 10 ∧ m = 10 - n ∧ t = tl [(6, .pointer (some ⟨b6, 0, none⟩)), (7, .pointer (some ⟨b7, 0, none⟩)), (8, .pointer (some ⟨b8, 0, none⟩)), (18, .int .i64 n)] ∧
      H b6 = some (.own 0 (List.replicate 64 (.int .u8 0)) 64) ∧ H b7 = some (.own 0 (rowU st 16) 16) ∧ H b8 = some (.own 0 (rowU (roundsF st n) 16) 16)) 10
    ⟨le8, 0, by omega, rfl, rfl, q68, q78, q88⟩ ?_
  clear q68 q78 q88 le8 l7 l3 l5
  rintro m t H ⟨leH, n, hn10, rfl, rfl, q6, q7, q8⟩
  by_cases hlt : (n : Int) < 10
  · simp -implicitDefEqProofs only [zB1,zB2,zB3,zB4,zB5,zB6,zB7,zB8,zB9,zB10,zB11,y00,y01,y02,y03,y04,y05,y06,y07,y08,y09,y0a,y0b,y0c,y0d,y0e,y0f,y0g,y0h,y0i,y0j,y0k,y0l,y0m,y0n,y0o,y0p,y0q,y0r,y0s,y0t,y0u,y0v,y0w,y0x,y0y,y0z,y10,y11,y12,y13,y14,y15,y16,y17,y18,y19,y1a,y1b,y1c,y1d,y1e,y1f,y1g,y1h,y1i,y1j,y1k,y1l,y1m,y1n,y1o,y1p,y1q,y1r,retO,retL,retV,z69,allV,allP,z6a,z6d,z6e,z6k,z6l,z6m,binV,eqV,unV,oOpt,reduceIte,reduceCtorEq,Nat.reduceEqDiff,Nat.reduceAdd,Nat.reduceMul,Nat.reduceLT,Nat.reduceSub,Int.reduceLT,Int.reduceLE,Int.reduceEq,Int.reduceNe,Int.reduceSub,Int.reduceAdd,Int.reduceMul,Int.reduceBEq,Int.reduceBNe,Int.reduceGT,Int.reduceGE,Nat.reduceGT,Int.reduceToNat,Int.reduceNeg,Nat.reduceLeDiff,Nat.reduceBEq,Nat.reduceBneDiff,Value.cells, hlt]
    unfold ir_chacha_Block_q
    simp -implicitDefEqProofs only [zB1,zB2,zB3,zB4,zB5,zB6,zB7,zB8,zB9,zB10,zB11,y00,y01,y02,y03,y04,y05,y06,y07,y08,y09,y0a,y0b,y0c,y0d,y0e,y0f,y0g,y0h,y0i,y0j,y0k,y0l,y0m,y0n,y0o,y0p,y0q,y0r,y0s,y0t,y0u,y0v,y0w,y0x,y0y,y0z,y10,y11,y12,y13,y14,y15,y16,y17,y18,y19,y1a,y1b,y1c,y1d,y1e,y1f,y1g,y1h,y1i,y1j,y1k,y1l,y1m,y1n,y1o,y1p,y1q,y1r,retO,retL,retV,z69,allV,allP,z6a,z6d,z6e,z6k,z6l,z6m,binV,eqV,unV,oOpt,reduceIte,reduceCtorEq,Nat.reduceEqDiff,Nat.reduceAdd,Nat.reduceMul,Nat.reduceLT,Nat.reduceSub,Int.reduceLT,Int.reduceLE,Int.reduceEq,Int.reduceNe,Int.reduceSub,Int.reduceAdd,Int.reduceMul,Int.reduceBEq,Int.reduceBNe,Int.reduceGT,Int.reduceGE,Nat.reduceGT,Int.reduceToNat,Int.reduceNeg,Nat.reduceLeDiff,Nat.reduceBEq,Nat.reduceBneDiff,Value.cells]
    refine wp_loop' (fun m t H => h.le H ∧ ∃ i : Nat, i ≤ 4 ∧ m = 4 - i ∧ t = tl [(6, .pointer (some ⟨b6, 0, none⟩)), (7, .pointer (some ⟨b7, 0, none⟩)), (8, .pointer (some ⟨b8, 0, none⟩)), (18, .int .i64 n), (20, .int .i64 i)] ∧
        H b6 = some (.own 0 (List.replicate 64 (.int .u8 0)) 64) ∧ H b7 = some (.own 0 (rowU st 16) 16) ∧ H b8 = some (.own 0 (rowU (colsN (roundsF st n) i) 16) 16)) 4
      ⟨leH, 0, by omega, rfl, rfl, q6, q7, q8⟩ ?_
    clear q6 q7 q8 leH
    rintro m t H ⟨leH, i, hi, rfl, rfl, q6, q7, q8⟩
    by_cases hli : (i : Int) < 4
    · have w1 : IntKind.i64.wrap (4 + (i : Int)) = ((4 + i : Nat) : Int) := by rw [wrapI (by omega) (by omega)]; rfl
      have w2 : IntKind.i64.wrap (8 + (i : Int)) = ((8 + i : Nat) : Int) := by rw [wrapI (by omega) (by omega)]; rfl
      have w3 : IntKind.i64.wrap (12 + (i : Int)) = ((12 + i : Nat) : Int) := by rw [wrapI (by omega) (by omega)]; rfl
      have w7 : IntKind.i64.wrap ((i : Int) + 1) = ((i + 1 : Nat) : Int) := wrapN (by omega)
      simp -implicitDefEqProofs only [zB1,zB2,zB3,zB4,zB5,zB6,zB7,zB8,zB9,zB10,zB11,y00,y01,y02,y03,y04,y05,y06,y07,y08,y09,y0a,y0b,y0c,y0d,y0e,y0f,y0g,y0h,y0i,y0j,y0k,y0l,y0m,y0n,y0o,y0p,y0q,y0r,y0s,y0t,y0u,y0v,y0w,y0x,y0y,y0z,y10,y11,y12,y13,y14,y15,y16,y17,y18,y19,y1a,y1b,y1c,y1d,y1e,y1f,y1g,y1h,y1i,y1j,y1k,y1l,y1m,y1n,y1o,y1p,y1q,y1r,retO,retL,retV,z69,allV,allP,z6a,z6d,z6e,z6k,z6l,z6m,binV,eqV,unV,oOpt,reduceIte,reduceCtorEq,Nat.reduceEqDiff,Nat.reduceAdd,Nat.reduceMul,Nat.reduceLT,Nat.reduceSub,Int.reduceLT,Int.reduceLE,Int.reduceEq,Int.reduceNe,Int.reduceSub,Int.reduceAdd,Int.reduceMul,Int.reduceBEq,Int.reduceBNe,Int.reduceGT,Int.reduceGE,Nat.reduceGT,Int.reduceToNat,Int.reduceNeg,Nat.reduceLeDiff,Nat.reduceBEq,Nat.reduceBneDiff,Value.cells, hli, w1, w2, w3]
      refine (chacha_mix_c E q8 i (4 + i) (8 + i) (12 + i) (by omega) (by omega) (by omega) (by omega)).mono ?_
      rintro r H' ⟨rfl, rfl⟩
      simp -implicitDefEqProofs only [zB1,zB2,zB3,zB4,zB5,zB6,zB7,zB8,zB9,zB10,zB11,y00,y01,y02,y03,y04,y05,y06,y07,y08,y09,y0a,y0b,y0c,y0d,y0e,y0f,y0g,y0h,y0i,y0j,y0k,y0l,y0m,y0n,y0o,y0p,y0q,y0r,y0s,y0t,y0u,y0v,y0w,y0x,y0y,y0z,y10,y11,y12,y13,y14,y15,y16,y17,y18,y19,y1a,y1b,y1c,y1d,y1e,y1f,y1g,y1h,y1i,y1j,y1k,y1l,y1m,y1n,y1o,y1p,y1q,y1r,retO,retL,retV,z69,allV,allP,z6a,z6d,z6e,z6k,z6l,z6m,binV,eqV,unV,oOpt,reduceIte,reduceCtorEq,Nat.reduceEqDiff,Nat.reduceAdd,Nat.reduceMul,Nat.reduceLT,Nat.reduceSub,Int.reduceLT,Int.reduceLE,Int.reduceEq,Int.reduceNe,Int.reduceSub,Int.reduceAdd,Int.reduceMul,Int.reduceBEq,Int.reduceBNe,Int.reduceGT,Int.reduceGE,Nat.reduceGT,Int.reduceToNat,Int.reduceNeg,Nat.reduceLeDiff,Nat.reduceBEq,Nat.reduceBneDiff,Value.cells, w7]
      exact ⟨_, by omega, Heap.le_set leH hb8' _, i + 1, by omega, rfl, rfl, set_keep q6 n68, set_keep q7 n78, Heap.set_self _ _ _⟩
    · obtain rfl : i = 4 := by omega
      simp -implicitDefEqProofs only [zB1,zB2,zB3,zB4,zB5,zB6,zB7,zB8,zB9,zB10,zB11,y00,y01,y02,y03,y04,y05,y06,y07,y08,y09,y0a,y0b,y0c,y0d,y0e,y0f,y0g,y0h,y0i,y0j,y0k,y0l,y0m,y0n,y0o,y0p,y0q,y0r,y0s,y0t,y0u,y0v,y0w,y0x,y0y,y0z,y10,y11,y12,y13,y14,y15,y16,y17,y18,y19,y1a,y1b,y1c,y1d,y1e,y1f,y1g,y1h,y1i,y1j,y1k,y1l,y1m,y1n,y1o,y1p,y1q,y1r,retO,retL,retV,z69,allV,allP,z6a,z6d,z6e,z6k,z6l,z6m,binV,eqV,unV,oOpt,reduceIte,reduceCtorEq,Nat.reduceEqDiff,Nat.reduceAdd,Nat.reduceMul,Nat.reduceLT,Nat.reduceSub,Int.reduceLT,Int.reduceLE,Int.reduceEq,Int.reduceNe,Int.reduceSub,Int.reduceAdd,Int.reduceMul,Int.reduceBEq,Int.reduceBNe,Int.reduceGT,Int.reduceGE,Nat.reduceGT,Int.reduceToNat,Int.reduceNeg,Nat.reduceLeDiff,Nat.reduceBEq,Nat.reduceBneDiff,Value.cells, hli]
      unfold ir_chacha_Block_33
      simp -implicitDefEqProofs only [zB1,zB2,zB3,zB4,zB5,zB6,zB7,zB8,zB9,zB10,zB11,y00,y01,y02,y03,y04,y05,y06,y07,y08,y09,y0a,y0b,y0c,y0d,y0e,y0f,y0g,y0h,y0i,y0j,y0k,y0l,y0m,y0n,y0o,y0p,y0q,y0r,y0s,y0t,y0u,y0v,y0w,y0x,y0y,y0z,y10,y11,y12,y13,y14,y15,y16,y17,y18,y19,y1a,y1b,y1c,y1d,y1e,y1f,y1g,y1h,y1i,y1j,y1k,y1l,y1m,y1n,y1o,y1p,y1q,y1r,retO,retL,retV,z69,allV,allP,z6a,z6d,z6e,z6k,z6l,z6m,binV,eqV,unV,oOpt,reduceIte,reduceCtorEq,Nat.reduceEqDiff,Nat.reduceAdd,Nat.reduceMul,Nat.reduceLT,Nat.reduceSub,Int.reduceLT,Int.reduceLE,Int.reduceEq,Int.reduceNe,Int.reduceSub,Int.reduceAdd,Int.reduceMul,Int.reduceBEq,Int.reduceBNe,Int.reduceGT,Int.reduceGE,Nat.reduceGT,Int.reduceToNat,Int.reduceNeg,Nat.reduceLeDiff,Nat.reduceBEq,Nat.reduceBneDiff,Value.cells]
      refine wp_loop' (fun m t H => h.le H ∧ ∃ i : Nat, i ≤ 4 ∧ m = 4 - i ∧ t = tl [(6, .pointer (some ⟨b6, 0, none⟩)), (7, .pointer (some ⟨b7, 0, none⟩)), (8, .pointer (some ⟨b8, 0, none⟩)), (18, .int .i64 n), (32, .int .i64 i)] ∧
          H b6 = some (.own 0 (List.replicate 64 (.int .u8 0)) 64) ∧ H b7 = some (.own 0 (rowU st 16) 16) ∧ H b8 = some (.own 0 (rowU (diagN (colsN (roundsF st n) 4) i) 16) 16)) 4
        ⟨leH, 0, by omega, rfl, rfl, q6, q7, q8⟩ ?_
      clear q6 q7 q8 leH hli hi
      rintro m t H ⟨leH, i, hi, rfl, rfl, q6, q7, q8⟩
      by_cases hli : (i : Int) < 4
      · have w7 : IntKind.i64.wrap ((i : Int) + 1) = ((i + 1 : Nat) : Int) := wrapN (by omega)
        have w8 : IntKind.i64.wrap ((i : Int) + 2) = ((i + 2 : Nat) : Int) := by rw [wrapI (by omega) (by omega)]; rfl
        have w9 : IntKind.i64.wrap ((i : Int) + 3) = ((i + 3 : Nat) : Int) := by rw [wrapI (by omega) (by omega)]; rfl
        have r1 : IntKind.i64.wrap (((i + 1) % 4 : Nat) : Int) = (((i + 1) % 4 : Nat) : Int) := wrapI (by omega) (by omega)
        have r2 : IntKind.i64.wrap (((i + 2) % 4 : Nat) : Int) = (((i + 2) % 4 : Nat) : Int) := wrapI (by omega) (by omega)
        have r3 : IntKind.i64.wrap (((i + 3) % 4 : Nat) : Int) = (((i + 3) % 4 : Nat) : Int) := wrapI (by omega) (by omega)
        have w1 : IntKind.i64.wrap (4 + (((i + 1) % 4 : Nat) : Int)) = ((4 + (i + 1) % 4 : Nat) : Int) := by rw [wrapI (by omega) (by omega)]; rfl
        have w2 : IntKind.i64.wrap (8 + (((i + 2) % 4 : Nat) : Int)) = ((8 + (i + 2) % 4 : Nat) : Int) := by rw [wrapI (by omega) (by omega)]; rfl
        have w3 : IntKind.i64.wrap (12 + (((i + 3) % 4 : Nat) : Int)) = ((12 + (i + 3) % 4 : Nat) : Int) := by rw [wrapI (by omega) (by omega)]; rfl
        simp -implicitDefEqProofs only [zB1,zB2,zB3,zB4,zB5,zB6,zB7,zB8,zB9,zB10,zB11,y00,y01,y02,y03,y04,y05,y06,y07,y08,y09,y0a,y0b,y0c,y0d,y0e,y0f,y0g,y0h,y0i,y0j,y0k,y0l,y0m,y0n,y0o,y0p,y0q,y0r,y0s,y0t,y0u,y0v,y0w,y0x,y0y,y0z,y10,y11,y12,y13,y14,y15,y16,y17,y18,y19,y1a,y1b,y1c,y1d,y1e,y1f,y1g,y1h,y1i,y1j,y1k,y1l,y1m,y1n,y1o,y1p,y1q,y1r,retO,retL,retV,z69,allV,allP,z6a,z6d,z6e,z6k,z6l,z6m,binV,eqV,unV,oOpt,reduceIte,reduceCtorEq,Nat.reduceEqDiff,Nat.reduceAdd,Nat.reduceMul,Nat.reduceLT,Nat.reduceSub,Int.reduceLT,Int.reduceLE,Int.reduceEq,Int.reduceNe,Int.reduceSub,Int.reduceAdd,Int.reduceMul,Int.reduceBEq,Int.reduceBNe,Int.reduceGT,Int.reduceGE,Nat.reduceGT,Int.reduceToNat,Int.reduceNeg,Nat.reduceLeDiff,Nat.reduceBEq,Nat.reduceBneDiff,Value.cells, hli, w7, w8, w9, tmod4, r1, r2, r3, w1, w2, w3]
        refine (chacha_mix_c E q8 i (4 + (i + 1) % 4) (8 + (i + 2) % 4) (12 + (i + 3) % 4) (by omega) (by omega) (by omega) (by omega)).mono ?_
        rintro r H' ⟨rfl, rfl⟩
        simp -implicitDefEqProofs only [zB1,zB2,zB3,zB4,zB5,zB6,zB7,zB8,zB9,zB10,zB11,y00,y01,y02,y03,y04,y05,y06,y07,y08,y09,y0a,y0b,y0c,y0d,y0e,y0f,y0g,y0h,y0i,y0j,y0k,y0l,y0m,y0n,y0o,y0p,y0q,y0r,y0s,y0t,y0u,y0v,y0w,y0x,y0y,y0z,y10,y11,y12,y13,y14,y15,y16,y17,y18,y19,y1a,y1b,y1c,y1d,y1e,y1f,y1g,y1h,y1i,y1j,y1k,y1l,y1m,y1n,y1o,y1p,y1q,y1r,retO,retL,retV,z69,allV,allP,z6a,z6d,z6e,z6k,z6l,z6m,binV,eqV,unV,oOpt,reduceIte,reduceCtorEq,Nat.reduceEqDiff,Nat.reduceAdd,Nat.reduceMul,Nat.reduceLT,Nat.reduceSub,Int.reduceLT,Int.reduceLE,Int.reduceEq,Int.reduceNe,Int.reduceSub,Int.reduceAdd,Int.reduceMul,Int.reduceBEq,Int.reduceBNe,Int.reduceGT,Int.reduceGE,Nat.reduceGT,Int.reduceToNat,Int.reduceNeg,Nat.reduceLeDiff,Nat.reduceBEq,Nat.reduceBneDiff,Value.cells, w7]
        exact ⟨_, by omega, Heap.le_set leH hb8' _, i + 1, by omega, rfl, rfl, set_keep q6 n68, set_keep q7 n78, Heap.set_self _ _ _⟩
      · obtain rfl : i = 4 := by omega
        have w7 : IntKind.i64.wrap ((n : Int) + 1) = ((n + 1 : Nat) : Int) := wrapN (by omega)
        simp -implicitDefEqProofs only [zB1,zB2,zB3,zB4,zB5,zB6,zB7,zB8,zB9,zB10,zB11,y00,y01,y02,y03,y04,y05,y06,y07,y08,y09,y0a,y0b,y0c,y0d,y0e,y0f,y0g,y0h,y0i,y0j,y0k,y0l,y0m,y0n,y0o,y0p,y0q,y0r,y0s,y0t,y0u,y0v,y0w,y0x,y0y,y0z,y10,y11,y12,y13,y14,y15,y16,y17,y18,y19,y1a,y1b,y1c,y1d,y1e,y1f,y1g,y1h,y1i,y1j,y1k,y1l,y1m,y1n,y1o,y1p,y1q,y1r,retO,retL,retV,z69,allV,allP,z6a,z6d,z6e,z6k,z6l,z6m,binV,eqV,unV,oOpt,reduceIte,reduceCtorEq,Nat.reduceEqDiff,Nat.reduceAdd,Nat.reduceMul,Nat.reduceLT,Nat.reduceSub,Int.reduceLT,Int.reduceLE,Int.reduceEq,Int.reduceNe,Int.reduceSub,Int.reduceAdd,Int.reduceMul,Int.reduceBEq,Int.reduceBNe,Int.reduceGT,Int.reduceGE,Nat.reduceGT,Int.reduceToNat,Int.reduceNeg,Nat.reduceLeDiff,Nat.reduceBEq,Nat.reduceBneDiff,Value.cells, hli, w7]
        exact ⟨_, by omega, leH, n + 1, by omega, rfl, rfl, q6, q7, q8⟩
  · obtain rfl : n = 10 := by omega
    simp -implicitDefEqProofs only [zB1,zB2,zB3,zB4,zB5,zB6,zB7,zB8,zB9,zB10,zB11,y00,y01,y02,y03,y04,y05,y06,y07,y08,y09,y0a,y0b,y0c,y0d,y0e,y0f,y0g,y0h,y0i,y0j,y0k,y0l,y0m,y0n,y0o,y0p,y0q,y0r,y0s,y0t,y0u,y0v,y0w,y0x,y0y,y0z,y10,y11,y12,y13,y14,y15,y16,y17,y18,y19,y1a,y1b,y1c,y1d,y1e,y1f,y1g,y1h,y1i,y1j,y1k,y1l,y1m,y1n,y1o,y1p,y1q,y1r,retO,retL,retV,z69,allV,allP,z6a,z6d,z6e,z6k,z6l,z6m,binV,eqV,unV,oOpt,reduceIte,reduceCtorEq,Nat.reduceEqDiff,Nat.reduceAdd,Nat.reduceMul,Nat.reduceLT,Nat.reduceSub,Int.reduceLT,Int.reduceLE,Int.reduceEq,Int.reduceNe,Int.reduceSub,Int.reduceAdd,Int.reduceMul,Int.reduceBEq,Int.reduceBNe,Int.reduceGT,Int.reduceGE,Nat.reduceGT,Int.reduceToNat,Int.reduceNeg,Nat.reduceLeDiff,Nat.reduceBEq,Nat.reduceBneDiff,Value.cells, hlt]
    unfold ir_chacha_Block_q
    simp -implicitDefEqProofs only [zB1,zB2,zB3,zB4,zB5,zB6,zB7,zB8,zB9,zB10,zB11,y00,y01,y02,y03,y04,y05,y06,y07,y08,y09,y0a,y0b,y0c,y0d,y0e,y0f,y0g,y0h,y0i,y0j,y0k,y0l,y0m,y0n,y0o,y0p,y0q,y0r,y0s,y0t,y0u,y0v,y0w,y0x,y0y,y0z,y10,y11,y12,y13,y14,y15,y16,y17,y18,y19,y1a,y1b,y1c,y1d,y1e,y1f,y1g,y1h,y1i,y1j,y1k,y1l,y1m,y1n,y1o,y1p,y1q,y1r,retO,retL,retV,z69,allV,allP,z6a,z6d,z6e,z6k,z6l,z6m,binV,eqV,unV,oOpt,reduceIte,reduceCtorEq,Nat.reduceEqDiff,Nat.reduceAdd,Nat.reduceMul,Nat.reduceLT,Nat.reduceSub,Int.reduceLT,Int.reduceLE,Int.reduceEq,Int.reduceNe,Int.reduceSub,Int.reduceAdd,Int.reduceMul,Int.reduceBEq,Int.reduceBNe,Int.reduceGT,Int.reduceGE,Nat.reduceGT,Int.reduceToNat,Int.reduceNeg,Nat.reduceLeDiff,Nat.reduceBEq,Nat.reduceBneDiff,Value.cells, List.length_replicate]
    intro b11 hb11
    rw [blend8_0 (bytesF (coutF st)) 64]
    have hb11' := Heap.none_of_le leH hb11
    have n611 := ne_of_none hb11 q6
    have n711 := ne_of_none hb11 q7
    have n811 := ne_of_none hb11 q8
    unfold ir_chacha_Block_51
    simp -implicitDefEqProofs only [zB1,zB2,zB3,zB4,zB5,zB6,zB7,zB8,zB9,zB10,zB11,y00,y01,y02,y03,y04,y05,y06,y07,y08,y09,y0a,y0b,y0c,y0d,y0e,y0f,y0g,y0h,y0i,y0j,y0k,y0l,y0m,y0n,y0o,y0p,y0q,y0r,y0s,y0t,y0u,y0v,y0w,y0x,y0y,y0z,y10,y11,y12,y13,y14,y15,y16,y17,y18,y19,y1a,y1b,y1c,y1d,y1e,y1f,y1g,y1h,y1i,y1j,y1k,y1l,y1m,y1n,y1o,y1p,y1q,y1r,retO,retL,retV,z69,allV,allP,z6a,z6d,z6e,z6k,z6l,z6m,binV,eqV,unV,oOpt,reduceIte,reduceCtorEq,Nat.reduceEqDiff,Nat.reduceAdd,Nat.reduceMul,Nat.reduceLT,Nat.reduceSub,Int.reduceLT,Int.reduceLE,Int.reduceEq,Int.reduceNe,Int.reduceSub,Int.reduceAdd,Int.reduceMul,Int.reduceBEq,Int.reduceBNe,Int.reduceGT,Int.reduceGE,Nat.reduceGT,Int.reduceToNat,Int.reduceNeg,Nat.reduceLeDiff,Nat.reduceBEq,Nat.reduceBneDiff,Value.cells]
    have leP := Heap.le_new leH hb11 (.own 0 (row8 (blend8 (bytesF (coutF st)) 0) 64) 64)
    refine wp_loop' (fun m t H => h.le H ∧ ∃ i : Nat, i ≤ 16 ∧ m = 16 - i ∧ t = tl [(6, .pointer (some ⟨b6, 0, none⟩)), (7, .pointer (some ⟨b7, 0, none⟩)), (8, .pointer (some ⟨b8, 0, none⟩)), (11, .pointer (some ⟨b11, 0, none⟩)), (51, .int .i64 i)] ∧
        H b6 = some (.own 0 (List.replicate 64 (.int .u8 0)) 64) ∧ H b7 = some (.own 0 (rowU st 16) 16) ∧ H b8 = some (.own 0 (rowU (roundsF st 10) 16) 16) ∧ H b11 = some (.own 0 (row8 (blend8 (bytesF (coutF st)) (4 * i)) 64) 64)) 16
      ⟨leP, 0, by omega, rfl, rfl, set_new hb11 q6, set_new hb11 q7, set_new hb11 q8, Heap.set_self _ _ _⟩ ?_
    clear q6 q7 q8 leH leP hlt
    rintro m t H ⟨leH, i, hi, rfl, rfl, q6, q7, q8, q11⟩
    by_cases hlt : (i : Int) < 16
    · have hi' : i < 16 := by omega
      have e0 : (0 : Int) ≤ (i : Int) := by omega
      have c8 := rowU_at q8 hi'
      have c7 := rowU_at q7 hi'
      have w7 : IntKind.i64.wrap ((i : Int) + 1) = ((i + 1 : Nat) : Int) := wrapN (by omega)
      have w2 : IntKind.i64.wrap (4 * (i : Int)) = ((4 * i : Nat) : Int) := by rw [wrapI (by omega) (by omega)]; rfl
      have bd : bnds 64 64 (some (some (.int .i64 ((4 * i : Nat) : Int)))) none none = some (4 * i, 64, 64) := bnds_lo (by omega) (by omega)
      have ne : ¬ (64 = 4 * i) := by omega
      simp -implicitDefEqProofs only [zB1,zB2,zB3,zB4,zB5,zB6,zB7,zB8,zB9,zB10,zB11,y00,y01,y02,y03,y04,y05,y06,y07,y08,y09,y0a,y0b,y0c,y0d,y0e,y0f,y0g,y0h,y0i,y0j,y0k,y0l,y0m,y0n,y0o,y0p,y0q,y0r,y0s,y0t,y0u,y0v,y0w,y0x,y0y,y0z,y10,y11,y12,y13,y14,y15,y16,y17,y18,y19,y1a,y1b,y1c,y1d,y1e,y1f,y1g,y1h,y1i,y1j,y1k,y1l,y1m,y1n,y1o,y1p,y1q,y1r,retO,retL,retV,z69,allV,allP,z6a,z6d,z6e,z6k,z6l,z6m,binV,eqV,unV,oOpt,reduceIte,reduceCtorEq,Nat.reduceEqDiff,Nat.reduceAdd,Nat.reduceMul,Nat.reduceLT,Nat.reduceSub,Int.reduceLT,Int.reduceLE,Int.reduceEq,Int.reduceNe,Int.reduceSub,Int.reduceAdd,Int.reduceMul,Int.reduceBEq,Int.reduceBNe,Int.reduceGT,Int.reduceGE,Nat.reduceGT,Int.reduceToNat,Int.reduceNeg,Nat.reduceLeDiff,Nat.reduceBEq,Nat.reduceBneDiff,Value.cells, hlt, e0, Int.toNat_natCast, c8, c7, u32_add, u32_u64]
      refine (octet_Little_c E _ [] (by simp) (Ow.nil H H 1).sl ((coutF st i).setWidth 64) 4 (by omega)).mono ?_
      rintro r H2 ⟨le2, ow⟩
      rw [List.nil_append] at ow
      have so := ow.sl
      unfold SlB at so
      rw [littleF_len] at so
      obtain ⟨base, c, rfl⟩ := Sl.shape so
      have q11' := le2 _ _ q11
      simp -implicitDefEqProofs only [zB1,zB2,zB3,zB4,zB5,zB6,zB7,zB8,zB9,zB10,zB11,y00,y01,y02,y03,y04,y05,y06,y07,y08,y09,y0a,y0b,y0c,y0d,y0e,y0f,y0g,y0h,y0i,y0j,y0k,y0l,y0m,y0n,y0o,y0p,y0q,y0r,y0s,y0t,y0u,y0v,y0w,y0x,y0y,y0z,y10,y11,y12,y13,y14,y15,y16,y17,y18,y19,y1a,y1b,y1c,y1d,y1e,y1f,y1g,y1h,y1i,y1j,y1k,y1l,y1m,y1n,y1o,y1p,y1q,y1r,retO,retL,retV,z69,allV,allP,z6a,z6d,z6e,z6k,z6l,z6m,binV,eqV,unV,oOpt,reduceIte,reduceCtorEq,Nat.reduceEqDiff,Nat.reduceAdd,Nat.reduceMul,Nat.reduceLT,Nat.reduceSub,Int.reduceLT,Int.reduceLE,Int.reduceEq,Int.reduceNe,Int.reduceSub,Int.reduceAdd,Int.reduceMul,Int.reduceBEq,Int.reduceBNe,Int.reduceGT,Int.reduceGE,Nat.reduceGT,Int.reduceToNat,Int.reduceNeg,Nat.reduceLeDiff,Nat.reduceBEq,Nat.reduceBneDiff,Value.cells, w2, bd, ne, add_off', Nat.zero_add, Nat.mul_one, List.mem_cons, List.not_mem_nil, or_false, forall_eq, implies_true]
      refine copyP_own (size := 1) (m := 4) (o := 4 * i) q11' (by rw [row8_len]; omega) (by rw [row8_len]; omega) so (one_u8 _) ?_
      have et : ((littleF ((coutF st i).setWidth 64) 4).map u8V).take (min 4 (64 - 4 * i) * 1) = ((List.range 4).map fun k => bytesF (coutF st) (4 * i + k)).map u8V := by
        rw [List.take_of_length_le (by simp [littleF_len]; omega), bytesF_little]
      rw [et, blend8_put _ _ _ (by omega)]
      simp -implicitDefEqProofs only [zB1,zB2,zB3,zB4,zB5,zB6,zB7,zB8,zB9,zB10,zB11,y00,y01,y02,y03,y04,y05,y06,y07,y08,y09,y0a,y0b,y0c,y0d,y0e,y0f,y0g,y0h,y0i,y0j,y0k,y0l,y0m,y0n,y0o,y0p,y0q,y0r,y0s,y0t,y0u,y0v,y0w,y0x,y0y,y0z,y10,y11,y12,y13,y14,y15,y16,y17,y18,y19,y1a,y1b,y1c,y1d,y1e,y1f,y1g,y1h,y1i,y1j,y1k,y1l,y1m,y1n,y1o,y1p,y1q,y1r,retO,retL,retV,z69,allV,allP,z6a,z6d,z6e,z6k,z6l,z6m,binV,eqV,unV,oOpt,reduceIte,reduceCtorEq,Nat.reduceEqDiff,Nat.reduceAdd,Nat.reduceMul,Nat.reduceLT,Nat.reduceSub,Int.reduceLT,Int.reduceLE,Int.reduceEq,Int.reduceNe,Int.reduceSub,Int.reduceAdd,Int.reduceMul,Int.reduceBEq,Int.reduceBNe,Int.reduceGT,Int.reduceGE,Nat.reduceGT,Int.reduceToNat,Int.reduceNeg,Nat.reduceLeDiff,Nat.reduceBEq,Nat.reduceBneDiff,Value.cells, w7]
      exact ⟨_, by omega, Heap.le_set (Heap.le_trans leH le2) hb11' _, i + 1, by omega, rfl, rfl, set_keep (le2 _ _ q6) n611, set_keep (le2 _ _ q7) n711, set_keep (le2 _ _ q8) n811, Heap.set_self _ _ _⟩
    · obtain rfl : i = 16 := by omega
      have e64 : row8 (blend8 (bytesF (coutF st)) (4 * 16)) 64 = row8 (bytesF (coutF st)) 64 := blend8_all _ _
      rw [e64] at q11
      have l11 : hcells H ⟨b11, 0, none⟩ 64 = some (row8 (bytesF (coutF st)) 64) := hcells_own0 q11 (row8_len _ _)
      have s6 : storeV H 64 (.pointer (some ⟨b6, 0, none⟩)) (.agg (row8 (bytesF (coutF st)) 64).toArray) = some (H.set b6 (.own 0 (row8 (bytesF (coutF st)) 64) 64)) := storeV_agg_at q6 (by omega) (row8_len _ _) (by simp [row8, one]) (by simp) (by omega)
      have l6 : hcells (H.set b6 (.own 0 (row8 (bytesF (coutF st)) 64) 64)) ⟨b6, 0, none⟩ 64 = some (row8 (bytesF (coutF st)) 64) := z6o (row8_len _ _)
      simp -implicitDefEqProofs only [zB1,zB2,zB3,zB4,zB5,zB6,zB7,zB8,zB9,zB10,zB11,y00,y01,y02,y03,y04,y05,y06,y07,y08,y09,y0a,y0b,y0c,y0d,y0e,y0f,y0g,y0h,y0i,y0j,y0k,y0l,y0m,y0n,y0o,y0p,y0q,y0r,y0s,y0t,y0u,y0v,y0w,y0x,y0y,y0z,y10,y11,y12,y13,y14,y15,y16,y17,y18,y19,y1a,y1b,y1c,y1d,y1e,y1f,y1g,y1h,y1i,y1j,y1k,y1l,y1m,y1n,y1o,y1p,y1q,y1r,retO,retL,retV,z69,allV,allP,z6a,z6d,z6e,z6k,z6l,z6m,binV,eqV,unV,oOpt,reduceIte,reduceCtorEq,Nat.reduceEqDiff,Nat.reduceAdd,Nat.reduceMul,Nat.reduceLT,Nat.reduceSub,Int.reduceLT,Int.reduceLE,Int.reduceEq,Int.reduceNe,Int.reduceSub,Int.reduceAdd,Int.reduceMul,Int.reduceBEq,Int.reduceBNe,Int.reduceGT,Int.reduceGE,Nat.reduceGT,Int.reduceToNat,Int.reduceNeg,Nat.reduceLeDiff,Nat.reduceBEq,Nat.reduceBneDiff,Value.cells, hlt, l11, s6, l6]
      exact Heap.le_set leH hb6' _
end Go.Bb
/- The reckoner, for calls that tell rows of numbers. -/
namespace Go.Bb
set_option linter.unusedSimpArgs false
set_option linter.unusedVariables false
section
variable {tab : Nat → Option (Hint × AFunc)} {lf : Nat} {E : EnvT tab}

def isInt : Value → Bool
  | .int _ _ => true
  | _ => false
def isAgg (x : Option (Value × VM)) (us : List Value) : Bool :=
  match x with
  | some (.agg a, _) => sameL a.toList us && us.all isInt
  | _ => false
theorem sameL_ints : ∀ {a us : List Value}, sameL a us = true → us.all isInt = true → a = us
  | [], [], _, _ => rfl
  | [], _ :: _, h, _ => by cases h
  | _ :: _, [], h, _ => by cases h
  | x :: a, u :: us, h, hi => by
      simp only [sameL, Bool.and_eq_true] at h
      simp only [List.all_cons, Bool.and_eq_true] at hi
      rw [sameL_ints h.2 hi.2]
      congr 1
      have h1 := h.1
      have h2 := hi.1
      cases u <;> try (cases h2; done)
      cases x <;> simp only [sameV0, Bool.and_eq_true, decide_eq_true_eq] at h1 <;> try (cases h1; done)
      obtain ⟨rfl, rfl⟩ := h1; rfl
theorem all2_ints {fid : Nat → Option FuncId} {r : Rr} : ∀ {l l' : List Value}, All2 (VR0 fid r) l l' → l.all isInt = true → l' = l
  | _, _, .nil, _ => rfl
  | x :: l, y :: l', .cons h t, hi => by
      simp only [List.all_cons, Bool.and_eq_true] at hi
      rw [all2_ints t hi.2]
      congr 1
      have h2 := hi.1
      cases x <;> try (cases h2; done)
      cases h with | base h => cases h; rfl
theorem evF_agg {hk : Hooks} (hko : HooksOk E.toEnv hk) {d n : Nat} (h : Heap) {us : List Value} (e : isAgg (evF tab hk lf d n [] VM.start) us = true) : ACallN E.toEnv n [] h fun v h' => h.le h' ∧ v = .agg us.toArray := by
  cases hx : evF tab hk lf d n [] VM.start with
  | none => rw [hx] at e; cases e
  | some y =>
    obtain ⟨v, m⟩ := y
    rw [hx] at e
    unfold isAgg at e
    split at e
    · rename_i a m' h1
      simp only [Option.some.injEq, Prod.mk.injEq] at h1
      obtain ⟨rfl, rfl⟩ := h1
      simp only [Bool.and_eq_true] at e
      have ha := sameL_ints e.1 e.2
      refine (evF_ok (h0 := h) (lf := lf) E.full hko d n [] VM.start _ _ _ h [] (start_hs h _) .nil hx).mono ?_
      rintro v' h' ⟨r', _, p', hv'⟩
      refine ⟨p'.old, ?_⟩
      cases hv' with
      | one hv' =>
        cases hv' with
        | one hv' => cases hv' with | base hv' => cases hv' with | plain hp => cases hp
        | agg hv' =>
          have := all2_ints hv' (by rw [ha]; exact e.2)
          rename_i a'
          have h2 : a'.toList = us := this.trans ha
          rw [← h2]
    · cases e
end
end Go.Bb
/- Contracts: sums of bytes: the beginning. -/
namespace Go.Bb
set_option linter.unusedSimpArgs false
set_option linter.unusedVariables false
set_option maxRecDepth 20000

def startL : List Nat := [1779033703, 3144134277, 1013904242, 2773480762, 1359893119, 2600822924, 528734635, 1541459225]
def constL : List Nat := [1116352408, 1899447441, 3049323471, 3921009573, 961987163, 1508970993, 2453635748, 2870763221, 3624381080, 310598401, 607225278, 1426881987, 1925078388, 2162078206, 2614888103, 3248222580, 3835390401, 4022224774, 264347078, 604807628, 770255983, 1249150122, 1555081692, 1996064986, 2554220882, 2821834349, 2952996808, 3210313671, 3336571891, 3584528711, 113926993, 338241895, 666307205, 773529912, 1294757372, 1396182291, 1695183700, 1986661051, 2177026350, 2456956037, 2730485921, 2820302411, 3259730800, 3345764771, 3516065817, 3600352804, 4094571909, 275423344, 430227734, 506948616, 659060556, 883997877, 958139571, 1322822218, 1537002063, 1747873779, 1955562222, 2024104815, 2227730452, 2361852424, 2428436474, 2756734187, 3204031479, 3329325298]
def startF : Nat → U32 := fun j => BitVec.ofNat 32 (startL.getD j 0)
def constF : Nat → U32 := fun j => BitVec.ofNat 32 (constL.getD j 0)
def wordsV (l : List Nat) : List Value := l.map fun n : Nat => Value.int .u32 (n : Int)
theorem start_row : wordsV startL = rowU startF 8 := by rfl
theorem const_row : wordsV constL = rowU constF 64 := by rfl
theorem ev_start : isAgg (evF tab noHooks 1000 50 n_sha_start [] VM.start) (wordsV startL) = true := by decide +kernel
theorem ev_const : isAgg (evF tab noHooks 1000 50 n_sha_constants [] VM.start) (wordsV constL) = true := by decide +kernel
theorem sha_start_c (E : EnvT tab) (h : Heap) : ACallN E.toEnv n_sha_start [] h fun v h' => h.le h' ∧ v = .agg (rowU startF 8).toArray := by
  rw [← start_row]; exact evF_agg noHooks_ok h ev_start
theorem sha_constants_c (E : EnvT tab) (h : Heap) : ACallN E.toEnv n_sha_constants [] h fun v h' => h.le h' ∧ v = .agg (rowU constF 64).toArray := by
  rw [← const_row]; exact evF_agg noHooks_ok h ev_const

/-- A sum so far. -/
def sumC (hs : Nat → U32) (v : Value) (n : Int) : List Value := rowU hs 8 ++ (rowU constF 64 ++ [v, .int .i64 n])
theorem sumC_len (hs : Nat → U32) (v : Value) (n : Int) : (sumC hs v n).length = 74 := by simp [sumC, rowU_len]

theorem sumB1 : 8 ≤ (List.replicate 72 (Value.int IntKind.u32 0) ++ [Value.slice none 0 0, Value.int IntKind.i64 0]).length := by simp
theorem sumB2 (f : Nat → U32) : 72 ≤ (rowU f 8 ++ List.drop 8 (List.replicate 72 (Value.int IntKind.u32 0) ++ [Value.slice none 0 0, Value.int IntKind.i64 0])).length := by simp [rowU_len]
theorem sumB3 (f : Nat → U32) : List.take 8 (rowU f 8 ++ List.drop 8 (List.replicate 72 (Value.int IntKind.u32 0) ++ [Value.slice none 0 0, Value.int IntKind.i64 0])) ++ rowU constF 64 ++ List.drop 72 (rowU f 8 ++ List.drop 8 (List.replicate 72 (Value.int IntKind.u32 0) ++ [Value.slice none 0 0, Value.int IntKind.i64 0])) = sumC f (.slice none 0 0) 0 := by
  have e : List.drop 8 (List.replicate 72 (Value.int IntKind.u32 0) ++ [Value.slice none 0 0, Value.int IntKind.i64 0]) = List.replicate 64 (Value.int IntKind.u32 0) ++ [Value.slice none 0 0, Value.int IntKind.i64 0] := by
    rw [List.drop_append_of_le_length (by simp), List.drop_replicate]
  rw [e, List.take_left' (rowU_len _ _), ← List.append_assoc, List.drop_left' (by simp [rowU_len])]
  unfold sumC
  rw [List.append_assoc]

theorem sha_New_c (E : EnvT tab) (h : Heap) : ACallN E.toEnv n_sha_New [] h fun v h' => h.le h' ∧ ∃ bs, v = .pointer (some ⟨bs, 0, none⟩) ∧ h bs = none ∧ h' bs = some (.own 0 (sumC startF (.slice none 0 0) 0) 74) := by
  refine acall h_sha_New ir_sha_New rfl rfl (wpA_sound ?_)
  unfold ir_sha_New
  simp -implicitDefEqProofs only [zB1,zB2,zB3,zB4,zB5,zB6,zB7,zB8,zB9,zB10,zB11,y00,y01,y02,y03,y04,y05,y06,y07,y08,y09,y0a,y0b,y0c,y0d,y0e,y0f,y0g,y0h,y0i,y0j,y0k,y0l,y0m,y0n,y0o,y0p,y0q,y0r,y0s,y0t,y0u,y0v,y0w,y0x,y0y,y0z,y10,y11,y12,y13,y14,y15,y16,y17,y18,y19,y1a,y1b,y1c,y1d,y1e,y1f,y1g,y1h,y1i,y1j,y1k,y1l,y1m,y1n,y1o,y1p,y1q,y1r,retO,retL,retV,z69,allV,allP,z6a,z6d,z6e,z6k,z6l,z6m,binV,eqV,unV,oOpt,reduceIte,reduceCtorEq,Nat.reduceEqDiff,Nat.reduceAdd,Nat.reduceMul,Nat.reduceLT,Nat.reduceSub,Int.reduceLT,Int.reduceLE,Int.reduceEq,Int.reduceNe,Int.reduceSub,Int.reduceAdd,Int.reduceMul,Int.reduceBEq,Int.reduceBNe,Int.reduceGT,Int.reduceGE,Nat.reduceGT,Int.reduceToNat,Int.reduceNeg,Nat.reduceLeDiff,Nat.reduceBEq,Nat.reduceBneDiff,Value.cells]
  refine (sha_start_c E h).mono ?_
  rintro v h1 ⟨le1, rfl⟩
  simp -implicitDefEqProofs only [zB1,zB2,zB3,zB4,zB5,zB6,zB7,zB8,zB9,zB10,zB11,y00,y01,y02,y03,y04,y05,y06,y07,y08,y09,y0a,y0b,y0c,y0d,y0e,y0f,y0g,y0h,y0i,y0j,y0k,y0l,y0m,y0n,y0o,y0p,y0q,y0r,y0s,y0t,y0u,y0v,y0w,y0x,y0y,y0z,y10,y11,y12,y13,y14,y15,y16,y17,y18,y19,y1a,y1b,y1c,y1d,y1e,y1f,y1g,y1h,y1i,y1j,y1k,y1l,y1m,y1n,y1o,y1p,y1q,y1r,retO,retL,retV,z69,allV,allP,z6a,z6d,z6e,z6k,z6l,z6m,binV,eqV,unV,oOpt,reduceIte,reduceCtorEq,Nat.reduceEqDiff,Nat.reduceAdd,Nat.reduceMul,Nat.reduceLT,Nat.reduceSub,Int.reduceLT,Int.reduceLE,Int.reduceEq,Int.reduceNe,Int.reduceSub,Int.reduceAdd,Int.reduceMul,Int.reduceBEq,Int.reduceBNe,Int.reduceGT,Int.reduceGE,Nat.reduceGT,Int.reduceToNat,Int.reduceNeg,Nat.reduceLeDiff,Nat.reduceBEq,Nat.reduceBneDiff,Value.cells]
  refine (sha_constants_c E h1).mono ?_
  rintro v h2 ⟨le2, rfl⟩
  simp -implicitDefEqProofs only [zB1,zB2,zB3,zB4,zB5,zB6,zB7,zB8,zB9,zB10,zB11,y00,y01,y02,y03,y04,y05,y06,y07,y08,y09,y0a,y0b,y0c,y0d,y0e,y0f,y0g,y0h,y0i,y0j,y0k,y0l,y0m,y0n,y0o,y0p,y0q,y0r,y0s,y0t,y0u,y0v,y0w,y0x,y0y,y0z,y10,y11,y12,y13,y14,y15,y16,y17,y18,y19,y1a,y1b,y1c,y1d,y1e,y1f,y1g,y1h,y1i,y1j,y1k,y1l,y1m,y1n,y1o,y1p,y1q,y1r,retO,retL,retV,z69,allV,allP,z6a,z6d,z6e,z6k,z6l,z6m,binV,eqV,unV,oOpt,reduceIte,reduceCtorEq,Nat.reduceEqDiff,Nat.reduceAdd,Nat.reduceMul,Nat.reduceLT,Nat.reduceSub,Int.reduceLT,Int.reduceLE,Int.reduceEq,Int.reduceNe,Int.reduceSub,Int.reduceAdd,Int.reduceMul,Int.reduceBEq,Int.reduceBNe,Int.reduceGT,Int.reduceGE,Nat.reduceGT,Int.reduceToNat,Int.reduceNeg,Nat.reduceLeDiff,Nat.reduceBEq,Nat.reduceBneDiff,Value.cells, rowU_len, sumB1, sumB2 startF, sumB3 startF]
  intro bs hbs
  try simp -implicitDefEqProofs only [zB1,zB2,zB3,zB4,zB5,zB6,zB7,zB8,zB9,zB10,zB11,y00,y01,y02,y03,y04,y05,y06,y07,y08,y09,y0a,y0b,y0c,y0d,y0e,y0f,y0g,y0h,y0i,y0j,y0k,y0l,y0m,y0n,y0o,y0p,y0q,y0r,y0s,y0t,y0u,y0v,y0w,y0x,y0y,y0z,y10,y11,y12,y13,y14,y15,y16,y17,y18,y19,y1a,y1b,y1c,y1d,y1e,y1f,y1g,y1h,y1i,y1j,y1k,y1l,y1m,y1n,y1o,y1p,y1q,y1r,retO,retL,retV,z69,allV,allP,z6a,z6d,z6e,z6k,z6l,z6m,binV,eqV,unV,oOpt,reduceIte,reduceCtorEq,Nat.reduceEqDiff,Nat.reduceAdd,Nat.reduceMul,Nat.reduceLT,Nat.reduceSub,Int.reduceLT,Int.reduceLE,Int.reduceEq,Int.reduceNe,Int.reduceSub,Int.reduceAdd,Int.reduceMul,Int.reduceBEq,Int.reduceBNe,Int.reduceGT,Int.reduceGE,Nat.reduceGT,Int.reduceToNat,Int.reduceNeg,Nat.reduceLeDiff,Nat.reduceBEq,Nat.reduceBneDiff,Value.cells]
  exact ⟨Heap.le_new (Heap.le_trans le1 le2) hbs _, bs, rfl, Heap.none_of_le (Heap.le_trans le1 le2) hbs, by rw [Heap.set_self, sumC_len]⟩

/-! ### blocks -/
/-- All whole blocks of bytes are mixed in. -/
def absorb (hs : Nat → U32) (l : List UInt8) : (Nat → U32) × List UInt8 :=
  if h : 64 ≤ l.length then absorb (mixF constF hs (l.take 64)) (l.drop 64) else (hs, l)
termination_by l.length
decreasing_by simp; omega
theorem absorb_more {hs : Nat → U32} {l : List UInt8} (h : 64 ≤ l.length) : absorb hs l = absorb (mixF constF hs (l.take 64)) (l.drop 64) := by
  rw [absorb, dif_pos h]
theorem absorb_done {hs : Nat → U32} {l : List UInt8} (h : ¬ 64 ≤ l.length) : absorb hs l = (hs, l) := by
  rw [absorb, dif_neg h]
theorem absorb_len (hs : Nat → U32) (l : List UInt8) : (absorb hs l).2.length < 64 := by
  induction l using (measure List.length).wf.induction generalizing hs with
  | _ l ih =>
    by_cases h : 64 ≤ l.length
    · rw [absorb_more h]
      exact ih _ (by simp [measure, invImage, InvImage, WellFoundedRelation.rel]; omega) _
    · rw [absorb_done h]; simp only; omega
/-- What is added in parts is added. -/
theorem absorb_app (hs : Nat → U32) (l m : List UInt8) : absorb (absorb hs l).1 ((absorb hs l).2 ++ m) = absorb hs (l ++ m) := by
  induction l using (measure List.length).wf.induction generalizing hs with
  | _ l ih =>
    by_cases h : 64 ≤ l.length
    · rw [absorb_more h, absorb_more (l := l ++ m) (by simp; omega)]
      have e1 : (l ++ m).take 64 = l.take 64 := by rw [List.take_append_of_le_length h]
      have e2 : (l ++ m).drop 64 = l.drop 64 ++ m := by rw [List.drop_append_of_le_length h]
      rw [e1, e2]
      exact ih _ (by simp [measure, invImage, InvImage, WellFoundedRelation.rel]; omega) _
    · rw [absorb_done h]

/-! ### what is owned, beside one block -/
/-- A sum of these bytes. -/
structure SumR (h0 h : Heap) (bs : Nat) (hs : Nat → U32) (rest : List UInt8) (n : Nat) : Prop where
  new : h0 bs = none
  ex : ∃ v, h bs = some (.own 0 (sumC hs v n) 74) ∧ ∀ X, OwB (h0.set bs X) h v rest

theorem sumC_n (hs : Nat → U32) (v : Value) (n m : Int) : (sumC hs v n).set 73 (.int .i64 m) = sumC hs v m := by
  unfold sumC
  rw [List.set_append_right _ _ (by simp [rowU_len]), List.set_append_right _ _ (by simp [rowU_len])]
  simp [rowU_len]
theorem sumC_v (hs : Nat → U32) (v w : Value) (n : Int) : (sumC hs v n).set 72 w = sumC hs w n := by
  unfold sumC
  rw [List.set_append_right _ _ (by simp [rowU_len]), List.set_append_right _ _ (by simp [rowU_len])]
  simp [rowU_len]
theorem sumC_at72 (hs : Nat → U32) (v : Value) (n : Int) (h : 72 < (sumC hs v n).length) : (sumC hs v n)[72] = v := by
  simp [sumC, List.getElem_append, rowU_len]
theorem sumC_at73 (hs : Nat → U32) (v : Value) (n : Int) (h : 73 < (sumC hs v n).length) : (sumC hs v n)[73] = .int .i64 n := by
  simp [sumC, List.getElem_append, rowU_len]
theorem sumC_h (hs : Nat → U32) (v : Value) (n : Int) : ((sumC hs v n).drop 0).take 8 = rowU hs 8 := by
  unfold sumC; rw [List.drop_zero, List.take_left' (rowU_len _ _)]
theorem sumC_k (hs : Nat → U32) (v : Value) (n : Int) : ((sumC hs v n).drop 8).take 64 = rowU constF 64 := by
  unfold sumC; rw [List.drop_left' (rowU_len _ _), List.take_left' (rowU_len _ _)]
theorem sumC_put (hs hs' : Nat → U32) (v : Value) (n : Int) : splice (sumC hs v n) 0 (rowU hs' 8) = sumC hs' v n := by
  unfold sumC splice
  simp only [List.take_zero, List.nil_append, Nat.zero_add, rowU_len]
  rw [List.drop_left' (rowU_len _ _)]
end Go.Bb
/- Contracts: sums of bytes: bytes are added. -/
namespace Go.Bb
set_option linter.unusedSimpArgs false
set_option linter.unusedVariables false
set_option maxRecDepth 20000

theorem sha_Add_c (E : EnvT tab) {h0 h : Heap} {bs : Nat} {hs : Nat → U32} {rest : List UInt8} {n : Nat} (hle : h0.le h) (p : SumR h0 h bs hs rest n) {v : Value} (b : List UInt8) (s : ∀ X, SlB (h.set bs X) v b) (hb : rest.length + b.length ≤ 1000000000) (hn : n + b.length ≤ 1000000000000) :
    ACallN E.toEnv n_sha_Sum_Add [.pointer (some ⟨bs, 0, none⟩), v] h fun r h' => h0.le h' ∧ SumR h0 h' bs (absorb hs (rest ++ b)).1 (absorb hs (rest ++ b)).2 (n + b.length) := by
  obtain ⟨vr, hbs, ow⟩ := p.ex
  obtain ⟨base, c, rfl⟩ := Sl.shape (s (.obj (.map #[] 0)))
  refine acall h_sha_Sum_Add ir_sha_Sum_Add rfl rfl (wpA_sound ?_)
  unfold ir_sha_Sum_Add
  have c73 : hcell h ⟨bs, 73, none⟩ = some (.int .i64 n) := by rw [hcell_at (off := 73) hbs (by rw [sumC_len]; omega), sumC_at73]
  have w1 : IntKind.i64.wrap ((n : Int) + (b.length : Int)) = ((n + b.length : Nat) : Int) := by rw [wrapI (by omega) (by omega)]; omega
  have s73 : storeV h 1 (.pointer (some ⟨bs, 73, none⟩)) (.int .i64 ((n + b.length : Nat) : Int)) = some (h.set bs (.own 0 (sumC hs vr ((n + b.length : Nat) : Int)) 74)) := by
    rw [storeV_one_at hbs rfl (by rw [sumC_len]; omega) (by rw [sumC_len]; omega), sumC_n]
  have c72 : hcell (h.set bs (.own 0 (sumC hs vr ((n + b.length : Nat) : Int)) 74)) ⟨bs, 72, none⟩ = some vr := by rw [z6n (by rw [sumC_len]; omega), sumC_at72]
  simp -implicitDefEqProofs only [zB1,zB2,zB3,zB4,zB5,zB6,zB7,zB8,zB9,zB10,zB11,y00,y01,y02,y03,y04,y05,y06,y07,y08,y09,y0a,y0b,y0c,y0d,y0e,y0f,y0g,y0h,y0i,y0j,y0k,y0l,y0m,y0n,y0o,y0p,y0q,y0r,y0s,y0t,y0u,y0v,y0w,y0x,y0y,y0z,y10,y11,y12,y13,y14,y15,y16,y17,y18,y19,y1a,y1b,y1c,y1d,y1e,y1f,y1g,y1h,y1i,y1j,y1k,y1l,y1m,y1n,y1o,y1p,y1q,y1r,retO,retL,retV,z69,allV,allP,z6a,z6d,z6e,z6k,z6l,z6m,binV,eqV,unV,oOpt,reduceIte,reduceCtorEq,Nat.reduceEqDiff,Nat.reduceAdd,Nat.reduceMul,Nat.reduceLT,Nat.reduceSub,Int.reduceLT,Int.reduceLE,Int.reduceEq,Int.reduceNe,Int.reduceSub,Int.reduceAdd,Int.reduceMul,Int.reduceBEq,Int.reduceBNe,Int.reduceGT,Int.reduceGE,Nat.reduceGT,Int.reduceToNat,Int.reduceNeg,Nat.reduceLeDiff,Nat.reduceBEq,Nat.reduceBneDiff,Value.cells, c73, w1, s73, c72]
  have leB : (h0.set bs (.own 0 (sumC hs vr ((n + b.length : Nat) : Int)) 74)).le (h.set bs (.own 0 (sumC hs vr ((n + b.length : Nat) : Int)) 74)) := by
    intro c y hc
    by_cases e : c = bs
    · subst e; rw [Heap.set_self] at hc ⊢; exact hc
    · rw [Heap.set_ne e] at hc ⊢; exact hle c y hc
  refine appendP_ow (bytes := 1) (m := b.length) (news := b.map u8V) leB (by omega) ((ow _).put _) (s _) (one_u8 b) (by omega) (by omega) ?_
  intro v1 h1 ow1 le1
  have hbs1 := le1 bs _ (Heap.set_self _ _ _)
  have st72 : storeV h1 1 (.pointer (some ⟨bs, 72, none⟩)) v1 = some (h1.set bs (.own 0 (sumC hs v1 ((n + b.length : Nat) : Int)) 74)) := by
    have hone : one v1 = true := by
      rcases Ow.shape ow1 with ⟨rfl, _⟩ | ⟨_, _, _, rfl⟩ <;> rfl
    rw [storeV_one_at hbs1 hone (by rw [sumC_len]; omega) (by rw [sumC_len]; omega), sumC_v]
  simp -implicitDefEqProofs only [zB1,zB2,zB3,zB4,zB5,zB6,zB7,zB8,zB9,zB10,zB11,y00,y01,y02,y03,y04,y05,y06,y07,y08,y09,y0a,y0b,y0c,y0d,y0e,y0f,y0g,y0h,y0i,y0j,y0k,y0l,y0m,y0n,y0o,y0p,y0q,y0r,y0s,y0t,y0u,y0v,y0w,y0x,y0y,y0z,y10,y11,y12,y13,y14,y15,y16,y17,y18,y19,y1a,y1b,y1c,y1d,y1e,y1f,y1g,y1h,y1i,y1j,y1k,y1l,y1m,y1n,y1o,y1p,y1q,y1r,retO,retL,retV,z69,allV,allP,z6a,z6d,z6e,z6k,z6l,z6m,binV,eqV,unV,oOpt,reduceIte,reduceCtorEq,Nat.reduceEqDiff,Nat.reduceAdd,Nat.reduceMul,Nat.reduceLT,Nat.reduceSub,Int.reduceLT,Int.reduceLE,Int.reduceEq,Int.reduceNe,Int.reduceSub,Int.reduceAdd,Int.reduceMul,Int.reduceBEq,Int.reduceBNe,Int.reduceGT,Int.reduceGE,Nat.reduceGT,Int.reduceToNat,Int.reduceNeg,Nat.reduceLeDiff,Nat.reduceBEq,Nat.reduceBneDiff,Value.cells, st72]
  have hlen : rest.length + b.length = (rest ++ b).length := by simp
  have ow2 : ∀ X, OwB (h0.set bs X) (h1.set bs (.own 0 (sumC hs v1 ((n + b.length : Nat) : Int)) 74)) v1 (rest ++ b) := by
    intro X
    have := (ow1.put (.own 0 (sumC hs v1 ((n + b.length : Nat) : Int)) 74)).off X
    rw [hlen, ← List.map_append] at this
    exact this
  have le2 : h0.le (h1.set bs (.own 0 (sumC hs v1 ((n + b.length : Nat) : Int)) 74)) := by
    refine Heap.le_set (fun c y hc => le1 c y ?_) p.new _
    rw [Heap.set_ne (ne_of_none p.new hc)]; exact hc
  have hbs2 : (h1.set bs (.own 0 (sumC hs v1 ((n + b.length : Nat) : Int)) 74)) bs = some (.own 0 (sumC hs v1 ((n + b.length : Nat) : Int)) 74) := Heap.set_self _ _ _
  generalize (h1.set bs (.own 0 (sumC hs v1 ((n + b.length : Nat) : Int)) 74)) = H0 at ow2 le2 hbs2
  clear ow1 le1 hbs1 st72 leB c72 s73 c73 ow hbs
  generalize hN : n + b.length = N at *
  generalize hR : rest ++ b = R at *
  refine wp_loop' (fun m t H => h0.le H ∧ t = tl [(0, .pointer (some ⟨bs, 0, none⟩))] ∧ ∃ (hs' : Nat → U32) (l : List UInt8) (v' : Value), m = l.length ∧ l.length ≤ 1000000000 ∧ H bs = some (.own 0 (sumC hs' v' N) 74) ∧ (∀ X, OwB (h0.set bs X) H v' l) ∧ absorb hs' l = absorb hs R) R.length
    ⟨le2, rfl, hs, R, v1, rfl, by omega, hbs2, ow2, rfl⟩ ?_
  clear le2 hbs2 ow2
  rintro m t H ⟨leH, rfl, hs', l, v', rfl, hl9, hbs', ow', habs⟩
  obtain ⟨base', c', rfl⟩ := Sl.shape (ow' (.obj (.map #[] 0))).sl
  have c72 : hcell H ⟨bs, 72, none⟩ = some (.slice base' l.length c') := by rw [hcell_at (off := 72) hbs' (by rw [sumC_len]; omega), sumC_at72]
  by_cases h64 : 64 ≤ l.length
  · have g1 : (64 : Int) ≤ l.length := by omega
    rcases Ow.shape (ow' (.obj (.map #[] 0))) with ⟨_, hz, _⟩ | ⟨br, o, c2, hv⟩
    · omega
    simp only [Value.slice.injEq, true_and] at hv
    obtain ⟨rfl, rfl⟩ := hv
    have hc64 : 64 ≤ c' := by
      rcases (ow' (.obj (.map #[] 0))) with ⟨e, _⟩ | ⟨_, _, _, _, _, _, _, e, hc, _⟩
      · cases e
      · simp only [Value.slice.injEq] at e; omega
    have ch : hcells H ⟨bs, 0, none⟩ 8 = some (rowU hs' 8) := by rw [hcells_at hbs' (by rw [sumC_len]; omega), sumC_h]
    have ck : hcells H ⟨bs, 8, none⟩ 64 = some (rowU constF 64) := by rw [hcells_at hbs' (by rw [sumC_len]; omega), sumC_k]
    have bd : bnds l.length c' none (some (some (.int .i64 64))) none = some (0, 64, c') := bnds_hi (by omega) (by omega)
    simp -implicitDefEqProofs only [zB1,zB2,zB3,zB4,zB5,zB6,zB7,zB8,zB9,zB10,zB11,y00,y01,y02,y03,y04,y05,y06,y07,y08,y09,y0a,y0b,y0c,y0d,y0e,y0f,y0g,y0h,y0i,y0j,y0k,y0l,y0m,y0n,y0o,y0p,y0q,y0r,y0s,y0t,y0u,y0v,y0w,y0x,y0y,y0z,y10,y11,y12,y13,y14,y15,y16,y17,y18,y19,y1a,y1b,y1c,y1d,y1e,y1f,y1g,y1h,y1i,y1j,y1k,y1l,y1m,y1n,y1o,y1p,y1q,y1r,retO,retL,retV,z69,allV,allP,z6a,z6d,z6e,z6k,z6l,z6m,binV,eqV,unV,oOpt,reduceIte,reduceCtorEq,Nat.reduceEqDiff,Nat.reduceAdd,Nat.reduceMul,Nat.reduceLT,Nat.reduceSub,Int.reduceLT,Int.reduceLE,Int.reduceEq,Int.reduceNe,Int.reduceSub,Int.reduceAdd,Int.reduceMul,Int.reduceBEq,Int.reduceBNe,Int.reduceGT,Int.reduceGE,Nat.reduceGT,Int.reduceToNat,Int.reduceNeg,Nat.reduceLeDiff,Nat.reduceBEq,Nat.reduceBneDiff,Value.cells, c72, g1, ch, bd, sl_pre, sl_preA]
    rw [add0, Nat.sub_zero]
    refine (sha_mix_c E H hs' constF (l.take 64) ck (by simp; omega) (Sl.headB (ow' (.obj (.map #[] 0))).sl h64)).mono ?_
    rintro r H2 ⟨le2, rfl⟩
    have hb2 := le2 _ _ hbs'
    have st0 : storeV H2 8 (.pointer (some ⟨bs, 0, none⟩)) (.agg (rowU (mixF constF hs' (l.take 64)) 8).toArray) = some (H2.set bs (.own 0 (sumC (mixF constF hs' (l.take 64)) (.slice (some ⟨br, o, none⟩) l.length c') N) 74)) := by
      have := storeV_self (h := H2) (b := bs) (off := 0) (size := 8) (vs := sumC hs' (.slice (some ⟨br, o, none⟩) l.length c') N) (sz := 74) (v := .agg (rowU (mixF constF hs' (l.take 64)) 8).toArray) (us := rowU (mixF constF hs' (l.take 64)) 8) (by omega) (by simp [Value.cells]) (rowU_len _ _) (rowU_one _ _) (by omega) (by omega)
      rw [Heap.set_same hb2, sumC_put] at this
      exact this
    have c72' : hcell (H2.set bs (.own 0 (sumC (mixF constF hs' (l.take 64)) (.slice (some ⟨br, o, none⟩) l.length c') N) 74)) ⟨bs, 72, none⟩ = some (.slice (some ⟨br, o, none⟩) l.length c') := by rw [z6n (by rw [sumC_len]; omega), sumC_at72]
    have bd2 : bnds l.length c' (some (some (.int .i64 64))) none none = some (64, l.length, c') := bnds_lo (by omega) (by omega)
    have st72 : ∀ v2 : Value, one v2 = true → storeV (H2.set bs (.own 0 (sumC (mixF constF hs' (l.take 64)) (.slice (some ⟨br, o, none⟩) l.length c') N) 74)) 1 (.pointer (some ⟨bs, 72, none⟩)) v2 = some (H2.set bs (.own 0 (sumC (mixF constF hs' (l.take 64)) v2 N) 74)) := fun v2 h1 => by
      rw [z6p h1 (by rw [sumC_len]; omega) (by rw [sumC_len]; omega), sumC_v]
    have st72 := fun a n c => st72 (.slice a n c) rfl
    simp -implicitDefEqProofs only [zB1,zB2,zB3,zB4,zB5,zB6,zB7,zB8,zB9,zB10,zB11,y00,y01,y02,y03,y04,y05,y06,y07,y08,y09,y0a,y0b,y0c,y0d,y0e,y0f,y0g,y0h,y0i,y0j,y0k,y0l,y0m,y0n,y0o,y0p,y0q,y0r,y0s,y0t,y0u,y0v,y0w,y0x,y0y,y0z,y10,y11,y12,y13,y14,y15,y16,y17,y18,y19,y1a,y1b,y1c,y1d,y1e,y1f,y1g,y1h,y1i,y1j,y1k,y1l,y1m,y1n,y1o,y1p,y1q,y1r,retO,retL,retV,z69,allV,allP,z6a,z6d,z6e,z6k,z6l,z6m,binV,eqV,unV,oOpt,reduceIte,reduceCtorEq,Nat.reduceEqDiff,Nat.reduceAdd,Nat.reduceMul,Nat.reduceLT,Nat.reduceSub,Int.reduceLT,Int.reduceLE,Int.reduceEq,Int.reduceNe,Int.reduceSub,Int.reduceAdd,Int.reduceMul,Int.reduceBEq,Int.reduceBNe,Int.reduceGT,Int.reduceGE,Nat.reduceGT,Int.reduceToNat,Int.reduceNeg,Nat.reduceLeDiff,Nat.reduceBEq,Nat.reduceBneDiff,Value.cells, st0, c72', bd2, st72, implies_true]
    have owp := fun X => (Ow.post (ow' X) (k := 64) h64).le le2
    refine ⟨(l.drop 64).length, by simp; omega, Heap.le_set (Heap.le_trans leH le2) p.new _, mixF constF hs' (l.take 64), l.drop 64, _, rfl, by simp; omega, Heap.set_self _ _ _, fun X => ?_, ?_⟩
    · have := (owp X).put (.own 0 (sumC (mixF constF hs' (l.take 64)) (.slice (if c' = 64 then some ⟨br, o, none⟩ else some (Addr.add ⟨br, o, none⟩ 64)) (l.length - 64) (c' - 64)) N) 74)
      rw [Nat.mul_one, ← List.map_drop] at this
      unfold OwB
      rw [List.length_drop]
      exact this
    · rw [← habs, absorb_more h64]
  · have g1 : ¬ (64 : Int) ≤ l.length := by omega
    rw [absorb_done h64] at habs
    simp -implicitDefEqProofs only [zB1,zB2,zB3,zB4,zB5,zB6,zB7,zB8,zB9,zB10,zB11,y00,y01,y02,y03,y04,y05,y06,y07,y08,y09,y0a,y0b,y0c,y0d,y0e,y0f,y0g,y0h,y0i,y0j,y0k,y0l,y0m,y0n,y0o,y0p,y0q,y0r,y0s,y0t,y0u,y0v,y0w,y0x,y0y,y0z,y10,y11,y12,y13,y14,y15,y16,y17,y18,y19,y1a,y1b,y1c,y1d,y1e,y1f,y1g,y1h,y1i,y1j,y1k,y1l,y1m,y1n,y1o,y1p,y1q,y1r,retO,retL,retV,z69,allV,allP,z6a,z6d,z6e,z6k,z6l,z6m,binV,eqV,unV,oOpt,reduceIte,reduceCtorEq,Nat.reduceEqDiff,Nat.reduceAdd,Nat.reduceMul,Nat.reduceLT,Nat.reduceSub,Int.reduceLT,Int.reduceLE,Int.reduceEq,Int.reduceNe,Int.reduceSub,Int.reduceAdd,Int.reduceMul,Int.reduceBEq,Int.reduceBNe,Int.reduceGT,Int.reduceGE,Nat.reduceGT,Int.reduceToNat,Int.reduceNeg,Nat.reduceLeDiff,Nat.reduceBEq,Nat.reduceBneDiff,Value.cells, c72, g1]
    refine ⟨leH, p.new, .slice base' l.length c', ?_, ?_⟩
    · rw [← habs]; exact hbs'
    · rw [← habs]; exact ow'
end Go.Bb
/- Contracts: sums of bytes: the end. -/
namespace Go.Bb
set_option linter.unusedSimpArgs false
set_option linter.unusedVariables false
set_option maxRecDepth 20000

def padK (n : Nat) : Nat := (119 - n % 64) % 64
def paddingF (n : Nat) : List UInt8 := (128 :: List.replicate (padK n) 0) ++ bigF (BitVec.ofNat 64 (n * 8)) 8
theorem padK_iff (n j : Nat) (h : j ≤ padK n) : (n % 64 + (1 + j) + 8) % 64 = 0 ↔ j = padK n := by
  unfold padK at *
  omega
theorem tmod_nat (a : Nat) : Int.tmod (a : Int) 64 = ((a % 64 : Nat) : Int) := by
  rw [Int.tmod_eq_emod_of_nonneg (by omega)]; omega

theorem sha_padding_c (E : EnvT tab) (h : Heap) (n : Nat) (hn : n ≤ 1000000000000) : ACallN E.toEnv n_sha_padding [.int .i64 n, .int .i64 64, .int .i64 8] h fun r h' => h.le h' ∧ OwB h h' r (paddingF n) := by
  refine acall h_sha_padding ir_sha_padding rfl rfl (wpA_sound ?_)
  unfold ir_sha_padding
  simp -implicitDefEqProofs only [zB1,zB2,zB3,zB4,zB5,zB6,zB7,zB8,zB9,zB10,zB11,y00,y01,y02,y03,y04,y05,y06,y07,y08,y09,y0a,y0b,y0c,y0d,y0e,y0f,y0g,y0h,y0i,y0j,y0k,y0l,y0m,y0n,y0o,y0p,y0q,y0r,y0s,y0t,y0u,y0v,y0w,y0x,y0y,y0z,y10,y11,y12,y13,y14,y15,y16,y17,y18,y19,y1a,y1b,y1c,y1d,y1e,y1f,y1g,y1h,y1i,y1j,y1k,y1l,y1m,y1n,y1o,y1p,y1q,y1r,retO,retL,retV,z69,allV,allP,z6a,z6d,z6e,z6k,z6l,z6m,binV,eqV,unV,oOpt,reduceIte,reduceCtorEq,Nat.reduceEqDiff,Nat.reduceAdd,Nat.reduceMul,Nat.reduceLT,Nat.reduceSub,Int.reduceLT,Int.reduceLE,Int.reduceEq,Int.reduceNe,Int.reduceSub,Int.reduceAdd,Int.reduceMul,Int.reduceBEq,Int.reduceBNe,Int.reduceGT,Int.reduceGE,Nat.reduceGT,Int.reduceToNat,Int.reduceNeg,Nat.reduceLeDiff,Nat.reduceBEq,Nat.reduceBneDiff,Value.cells]
  intro b1 hb1
  try simp -implicitDefEqProofs only [zB1,zB2,zB3,zB4,zB5,zB6,zB7,zB8,zB9,zB10,zB11,y00,y01,y02,y03,y04,y05,y06,y07,y08,y09,y0a,y0b,y0c,y0d,y0e,y0f,y0g,y0h,y0i,y0j,y0k,y0l,y0m,y0n,y0o,y0p,y0q,y0r,y0s,y0t,y0u,y0v,y0w,y0x,y0y,y0z,y10,y11,y12,y13,y14,y15,y16,y17,y18,y19,y1a,y1b,y1c,y1d,y1e,y1f,y1g,y1h,y1i,y1j,y1k,y1l,y1m,y1n,y1o,y1p,y1q,y1r,retO,retL,retV,z69,allV,allP,z6a,z6d,z6e,z6k,z6l,z6m,binV,eqV,unV,oOpt,reduceIte,reduceCtorEq,Nat.reduceEqDiff,Nat.reduceAdd,Nat.reduceMul,Nat.reduceLT,Nat.reduceSub,Int.reduceLT,Int.reduceLE,Int.reduceEq,Int.reduceNe,Int.reduceSub,Int.reduceAdd,Int.reduceMul,Int.reduceBEq,Int.reduceBNe,Int.reduceGT,Int.reduceGE,Nat.reduceGT,Int.reduceToNat,Int.reduceNeg,Nat.reduceLeDiff,Nat.reduceBEq,Nat.reduceBneDiff,Value.cells]
  have r64 : n % 64 < 64 := Nat.mod_lt _ (by omega)
  have kK : padK n < 64 := by unfold padK; omega
  refine wp_loop' (fun m t H => h.le H ∧ ∃ (j : Nat) (v7 : Value), t = tl [(0, .int .i64 n), (1, .int .i64 64), (2, .int .i64 8), (7, v7)] ∧ j ≤ padK n ∧ m = padK n - j ∧ OwB h H v7 (128 :: List.replicate j 0)) (padK n)
    ⟨Heap.le_set (Heap.le_refl _) hb1 _, 0, _, rfl, by omega, by omega, Ow.new (Heap.le_refl _) hb1 rfl (by simp) (by simp)⟩ ?_
  rintro m t H ⟨hle, j, v7, rfl, hj, rfl, ow⟩
  obtain ⟨base, c, rfl⟩ := Sl.shape ow.sl
  have hlen : ((128 : UInt8) :: List.replicate j 0).length = j + 1 := by simp
  generalize hB : (128 : UInt8) :: List.replicate j 0 = B at ow hlen ⊢
  have tm := tmod_nat n
  have w1 : IntKind.i64.wrap (((n % 64 : Nat) : Int) + ((B.length : Nat) : Int)) = ((n % 64 + (1 + j) : Nat) : Int) := by rw [hlen, wrapI (by omega) (by omega)]; omega
  have w2 : IntKind.i64.wrap (((n % 64 + (1 + j) : Nat) : Int) + 8) = ((n % 64 + (1 + j) + 8 : Nat) : Int) := by rw [wrapI (by omega) (by omega)]; omega
  have tm2 := tmod_nat (n % 64 + (1 + j) + 8)
  have iff := padK_iff n j hj
  by_cases e : j = padK n
  · have z : (n % 64 + (1 + j) + 8) % 64 = 0 := iff.2 e
    rw [z] at tm2
    have n8 : n * 8 < 18446744073709551616 := by omega
    have w3 : IntKind.u64.wrap (n : Int) = (n : Int) := by rw [wrap_u64, ofInt_nat]; simp; omega
    have w4 : IntKind.u64.wrap ((n : Int) * 8) = ((BitVec.ofNat 64 (n * 8)).toNat : Int) := by
      have : (n : Int) * 8 = ((n * 8 : Nat) : Int) := by omega
      rw [this, wrap_u64, ofInt_nat]
    simp -implicitDefEqProofs only [zB1,zB2,zB3,zB4,zB5,zB6,zB7,zB8,zB9,zB10,zB11,y00,y01,y02,y03,y04,y05,y06,y07,y08,y09,y0a,y0b,y0c,y0d,y0e,y0f,y0g,y0h,y0i,y0j,y0k,y0l,y0m,y0n,y0o,y0p,y0q,y0r,y0s,y0t,y0u,y0v,y0w,y0x,y0y,y0z,y10,y11,y12,y13,y14,y15,y16,y17,y18,y19,y1a,y1b,y1c,y1d,y1e,y1f,y1g,y1h,y1i,y1j,y1k,y1l,y1m,y1n,y1o,y1p,y1q,y1r,retO,retL,retV,z69,allV,allP,z6a,z6d,z6e,z6k,z6l,z6m,binV,eqV,unV,oOpt,reduceIte,reduceCtorEq,Nat.reduceEqDiff,Nat.reduceAdd,Nat.reduceMul,Nat.reduceLT,Nat.reduceSub,Int.reduceLT,Int.reduceLE,Int.reduceEq,Int.reduceNe,Int.reduceSub,Int.reduceAdd,Int.reduceMul,Int.reduceBEq,Int.reduceBNe,Int.reduceGT,Int.reduceGE,Nat.reduceGT,Int.reduceToNat,Int.reduceNeg,Nat.reduceLeDiff,Nat.reduceBEq,Nat.reduceBneDiff,Value.cells, tm, w1, w2, tm2, w3, w4]
    refine wp_loop' (fun m t H' => H' = H ∧ t = tl [(0, .int .i64 n), (7, .slice base B.length c), (24, .int .i64 0), (25, .int .i64 0)]) 0 ⟨rfl, rfl⟩ ?_
    rintro m t H' ⟨rfl, rfl⟩
    simp -implicitDefEqProofs only [zB1,zB2,zB3,zB4,zB5,zB6,zB7,zB8,zB9,zB10,zB11,y00,y01,y02,y03,y04,y05,y06,y07,y08,y09,y0a,y0b,y0c,y0d,y0e,y0f,y0g,y0h,y0i,y0j,y0k,y0l,y0m,y0n,y0o,y0p,y0q,y0r,y0s,y0t,y0u,y0v,y0w,y0x,y0y,y0z,y10,y11,y12,y13,y14,y15,y16,y17,y18,y19,y1a,y1b,y1c,y1d,y1e,y1f,y1g,y1h,y1i,y1j,y1k,y1l,y1m,y1n,y1o,y1p,y1q,y1r,retO,retL,retV,z69,allV,allP,z6a,z6d,z6e,z6k,z6l,z6m,binV,eqV,unV,oOpt,reduceIte,reduceCtorEq,Nat.reduceEqDiff,Nat.reduceAdd,Nat.reduceMul,Nat.reduceLT,Nat.reduceSub,Int.reduceLT,Int.reduceLE,Int.reduceEq,Int.reduceNe,Int.reduceSub,Int.reduceAdd,Int.reduceMul,Int.reduceBEq,Int.reduceBNe,Int.reduceGT,Int.reduceGE,Nat.reduceGT,Int.reduceToNat,Int.reduceNeg,Nat.reduceLeDiff,Nat.reduceBEq,Nat.reduceBneDiff,Value.cells, tm, w1, w2, tm2, w3, w4]
    refine (octet_Big_c E H' _ (by rw [hlen]; omega) ow.sl (BitVec.ofNat 64 (n * 8)) 8 (by omega)).mono ?_
    rintro r h2 ⟨le2, ow2⟩
    simp -implicitDefEqProofs only [zB1,zB2,zB3,zB4,zB5,zB6,zB7,zB8,zB9,zB10,zB11,y00,y01,y02,y03,y04,y05,y06,y07,y08,y09,y0a,y0b,y0c,y0d,y0e,y0f,y0g,y0h,y0i,y0j,y0k,y0l,y0m,y0n,y0o,y0p,y0q,y0r,y0s,y0t,y0u,y0v,y0w,y0x,y0y,y0z,y10,y11,y12,y13,y14,y15,y16,y17,y18,y19,y1a,y1b,y1c,y1d,y1e,y1f,y1g,y1h,y1i,y1j,y1k,y1l,y1m,y1n,y1o,y1p,y1q,y1r,retO,retL,retV,z69,allV,allP,z6a,z6d,z6e,z6k,z6l,z6m,binV,eqV,unV,oOpt,reduceIte,reduceCtorEq,Nat.reduceEqDiff,Nat.reduceAdd,Nat.reduceMul,Nat.reduceLT,Nat.reduceSub,Int.reduceLT,Int.reduceLE,Int.reduceEq,Int.reduceNe,Int.reduceSub,Int.reduceAdd,Int.reduceMul,Int.reduceBEq,Int.reduceBNe,Int.reduceGT,Int.reduceGE,Nat.reduceGT,Int.reduceToNat,Int.reduceNeg,Nat.reduceLeDiff,Nat.reduceBEq,Nat.reduceBneDiff,Value.cells]
    refine ⟨Heap.le_trans hle le2, ?_⟩
    unfold paddingF
    rw [← e, hB]
    exact ow2.since hle
  · have z : ¬ (((n % 64 + (1 + j) + 8) % 64 : Nat) : Int) = 0 := fun g => e (iff.1 (by omega))
    simp -implicitDefEqProofs only [zB1,zB2,zB3,zB4,zB5,zB6,zB7,zB8,zB9,zB10,zB11,y00,y01,y02,y03,y04,y05,y06,y07,y08,y09,y0a,y0b,y0c,y0d,y0e,y0f,y0g,y0h,y0i,y0j,y0k,y0l,y0m,y0n,y0o,y0p,y0q,y0r,y0s,y0t,y0u,y0v,y0w,y0x,y0y,y0z,y10,y11,y12,y13,y14,y15,y16,y17,y18,y19,y1a,y1b,y1c,y1d,y1e,y1f,y1g,y1h,y1i,y1j,y1k,y1l,y1m,y1n,y1o,y1p,y1q,y1r,retO,retL,retV,z69,allV,allP,z6a,z6d,z6e,z6k,z6l,z6m,binV,eqV,unV,oOpt,reduceIte,reduceCtorEq,Nat.reduceEqDiff,Nat.reduceAdd,Nat.reduceMul,Nat.reduceLT,Nat.reduceSub,Int.reduceLT,Int.reduceLE,Int.reduceEq,Int.reduceNe,Int.reduceSub,Int.reduceAdd,Int.reduceMul,Int.reduceBEq,Int.reduceBNe,Int.reduceGT,Int.reduceGE,Nat.reduceGT,Int.reduceToNat,Int.reduceNeg,Nat.reduceLeDiff,Nat.reduceBEq,Nat.reduceBneDiff,Value.cells, tm, w1, w2, tm2, z]
    intro b2 hb2
    try simp -implicitDefEqProofs only [zB1,zB2,zB3,zB4,zB5,zB6,zB7,zB8,zB9,zB10,zB11,y00,y01,y02,y03,y04,y05,y06,y07,y08,y09,y0a,y0b,y0c,y0d,y0e,y0f,y0g,y0h,y0i,y0j,y0k,y0l,y0m,y0n,y0o,y0p,y0q,y0r,y0s,y0t,y0u,y0v,y0w,y0x,y0y,y0z,y10,y11,y12,y13,y14,y15,y16,y17,y18,y19,y1a,y1b,y1c,y1d,y1e,y1f,y1g,y1h,y1i,y1j,y1k,y1l,y1m,y1n,y1o,y1p,y1q,y1r,retO,retL,retV,z69,allV,allP,z6a,z6d,z6e,z6k,z6l,z6m,binV,eqV,unV,oOpt,reduceIte,reduceCtorEq,Nat.reduceEqDiff,Nat.reduceAdd,Nat.reduceMul,Nat.reduceLT,Nat.reduceSub,Int.reduceLT,Int.reduceLE,Int.reduceEq,Int.reduceNe,Int.reduceSub,Int.reduceAdd,Int.reduceMul,Int.reduceBEq,Int.reduceBNe,Int.reduceGT,Int.reduceGE,Nat.reduceGT,Int.reduceToNat,Int.reduceNeg,Nat.reduceLeDiff,Nat.reduceBEq,Nat.reduceBneDiff,Value.cells]
    refine appendP_ow (bytes := 1) (m := 1) (news := [.int .u8 0]) (Heap.le_new hle hb2 _) (by omega) (ow.le (Heap.le_set (Heap.le_refl _) hb2 _)) (Sl.lit (n := 1) rfl) rfl (by rw [hlen]; omega) (by rw [hlen]; omega) ?_
    intro v3 H3 ow3 le3
    simp -implicitDefEqProofs only [zB1,zB2,zB3,zB4,zB5,zB6,zB7,zB8,zB9,zB10,zB11,y00,y01,y02,y03,y04,y05,y06,y07,y08,y09,y0a,y0b,y0c,y0d,y0e,y0f,y0g,y0h,y0i,y0j,y0k,y0l,y0m,y0n,y0o,y0p,y0q,y0r,y0s,y0t,y0u,y0v,y0w,y0x,y0y,y0z,y10,y11,y12,y13,y14,y15,y16,y17,y18,y19,y1a,y1b,y1c,y1d,y1e,y1f,y1g,y1h,y1i,y1j,y1k,y1l,y1m,y1n,y1o,y1p,y1q,y1r,retO,retL,retV,z69,allV,allP,z6a,z6d,z6e,z6k,z6l,z6m,binV,eqV,unV,oOpt,reduceIte,reduceCtorEq,Nat.reduceEqDiff,Nat.reduceAdd,Nat.reduceMul,Nat.reduceLT,Nat.reduceSub,Int.reduceLT,Int.reduceLE,Int.reduceEq,Int.reduceNe,Int.reduceSub,Int.reduceAdd,Int.reduceMul,Int.reduceBEq,Int.reduceBNe,Int.reduceGT,Int.reduceGE,Nat.reduceGT,Int.reduceToNat,Int.reduceNeg,Nat.reduceLeDiff,Nat.reduceBEq,Nat.reduceBneDiff,Value.cells]
    refine ⟨_, ?_, le3, j + 1, v3, rfl, by omega, rfl, ?_⟩
    · omega
    · have e3 : (128 : UInt8) :: List.replicate (j + 1) 0 = (128 :: List.replicate j 0) ++ [0] := by rw [List.replicate_succ']; rfl
      rw [e3, hB]
      unfold OwB
      rw [List.length_append, List.map_append]
      exact ow3
end Go.Bb
/- Contracts: sums of bytes: what is told. -/
namespace Go.Bb
set_option linter.unusedSimpArgs false
set_option linter.unusedVariables false
set_option maxRecDepth 20000

theorem SumR.le {h0 h h' : Heap} {bs : Nat} {hs : Nat → U32} {rest : List UInt8} {n : Nat} (p : SumR h0 h bs hs rest n) (x : h.le h') : SumR h0 h' bs hs rest n :=
  ⟨p.new, by obtain ⟨v, h1, h2⟩ := p.ex; exact ⟨v, x _ _ h1, fun X => (h2 X).le x⟩⟩

def outF (H : Nat → U32) (k : Nat) : List UInt8 := (List.range k).flatMap fun i => bigF ((H i).setWidth 64) 4
theorem outF_len (H : Nat → U32) : ∀ k, (outF H k).length = 4 * k
  | 0 => rfl
  | k + 1 => by
      have := outF_len H k
      unfold outF at *
      rw [List.range_succ, List.flatMap_append, List.length_append, this]
      simp [bigF_len]; omega
theorem outF_succ (H : Nat → U32) (k : Nat) : outF H (k + 1) = outF H k ++ bigF ((H k).setWidth 64) 4 := by
  unfold outF; rw [List.range_succ, List.flatMap_append]; simp
def shaEnd (hs : Nat → U32) (rest : List UInt8) (n : Nat) : List UInt8 := outF (absorb hs (rest ++ paddingF n)).1 8

theorem out_splice (H : Nat → U32) (i : Nat) (hi : i < 8) : splice ((outF H i ++ List.replicate (32 - 4 * i) 0).map u8V) (4 * i) (((bigF ((H i).setWidth 64) 4).map u8V).take (min 4 (32 - 4 * i) * 1)) = (outF H (i + 1) ++ List.replicate (32 - 4 * (i + 1)) 0).map u8V := by
  have e1 : min 4 (32 - 4 * i) * 1 = 4 := by omega
  rw [e1, List.take_of_length_le (by simp [bigF_len])]
  unfold splice
  rw [List.map_append, List.take_left' (by simp [outF_len]), ← List.map_append, ← outF_succ]
  rw [List.map_append]
  congr 1
  rw [List.drop_append, List.drop_eq_nil_of_le (by simp [outF_len, bigF_len]), List.nil_append]
  simp only [List.length_map, bigF_len, outF_len, List.map_replicate, List.drop_replicate]
  congr 1
  omega

theorem sha_Word_c (E : EnvT tab) {h0 h : Heap} {bs : Nat} {hs : Nat → U32} {rest : List UInt8} {n : Nat} (hle : h0.le h) (p : SumR h0 h bs hs rest n) (hr : rest.length ≤ 100000000) (hn : n ≤ 100000000000) :
    ACallN E.toEnv n_sha_Sum_Word [.pointer (some ⟨bs, 0, none⟩)] h fun r h' => h.le h' ∧ r = .agg ((shaEnd hs rest n).map u8V).toArray := by
  obtain ⟨vr, hbs, ow⟩ := p.ex
  refine acall h_sha_Sum_Word ir_sha_Sum_Word rfl rfl (wpA_sound ?_)
  unfold ir_sha_Sum_Word
  simp -implicitDefEqProofs only [zB1,zB2,zB3,zB4,zB5,zB6,zB7,zB8,zB9,zB10,zB11,y00,y01,y02,y03,y04,y05,y06,y07,y08,y09,y0a,y0b,y0c,y0d,y0e,y0f,y0g,y0h,y0i,y0j,y0k,y0l,y0m,y0n,y0o,y0p,y0q,y0r,y0s,y0t,y0u,y0v,y0w,y0x,y0y,y0z,y10,y11,y12,y13,y14,y15,y16,y17,y18,y19,y1a,y1b,y1c,y1d,y1e,y1f,y1g,y1h,y1i,y1j,y1k,y1l,y1m,y1n,y1o,y1p,y1q,y1r,retO,retL,retV,z69,allV,allP,z6a,z6d,z6e,z6k,z6l,z6m,binV,eqV,unV,oOpt,reduceIte,reduceCtorEq,Nat.reduceEqDiff,Nat.reduceAdd,Nat.reduceMul,Nat.reduceLT,Nat.reduceSub,Int.reduceLT,Int.reduceLE,Int.reduceEq,Int.reduceNe,Int.reduceSub,Int.reduceAdd,Int.reduceMul,Int.reduceBEq,Int.reduceBNe,Int.reduceGT,Int.reduceGE,Nat.reduceGT,Int.reduceToNat,Int.reduceNeg,Nat.reduceLeDiff,Nat.reduceBEq,Nat.reduceBneDiff,Value.cells]
  intro b2 hb2
  rw [List.length_replicate]
  have le1 : h.le (h.set b2 (.own 0 (List.replicate 32 (.int .u8 0)) 32)) := Heap.le_set (Heap.le_refl _) hb2 _
  have p2 : (h.set b2 (.own 0 (List.replicate 32 (.int .u8 0)) 32)) b2 = some (.own 0 (List.replicate 32 (.int .u8 0)) 32) := Heap.set_self _ _ _
  generalize (h.set b2 (.own 0 (List.replicate 32 (.int .u8 0)) 32)) = h1 at le1 p2
  have hbs1 := le1 _ _ hbs
  have ch : hcells h1 ⟨bs, 0, none⟩ 8 = some (rowU hs 8) := by rw [hcells_at hbs1 (by rw [sumC_len]; omega), sumC_h]
  have ck : hcells h1 ⟨bs, 8, none⟩ 64 = some (rowU constF 64) := by rw [hcells_at hbs1 (by rw [sumC_len]; omega), sumC_k]
  simp -implicitDefEqProofs only [zB1,zB2,zB3,zB4,zB5,zB6,zB7,zB8,zB9,zB10,zB11,y00,y01,y02,y03,y04,y05,y06,y07,y08,y09,y0a,y0b,y0c,y0d,y0e,y0f,y0g,y0h,y0i,y0j,y0k,y0l,y0m,y0n,y0o,y0p,y0q,y0r,y0s,y0t,y0u,y0v,y0w,y0x,y0y,y0z,y10,y11,y12,y13,y14,y15,y16,y17,y18,y19,y1a,y1b,y1c,y1d,y1e,y1f,y1g,y1h,y1i,y1j,y1k,y1l,y1m,y1n,y1o,y1p,y1q,y1r,retO,retL,retV,z69,allV,allP,z6a,z6d,z6e,z6k,z6l,z6m,binV,eqV,unV,oOpt,reduceIte,reduceCtorEq,Nat.reduceEqDiff,Nat.reduceAdd,Nat.reduceMul,Nat.reduceLT,Nat.reduceSub,Int.reduceLT,Int.reduceLE,Int.reduceEq,Int.reduceNe,Int.reduceSub,Int.reduceAdd,Int.reduceMul,Int.reduceBEq,Int.reduceBNe,Int.reduceGT,Int.reduceGE,Nat.reduceGT,Int.reduceToNat,Int.reduceNeg,Nat.reduceLeDiff,Nat.reduceBEq,Nat.reduceBneDiff,Value.cells, ch, ck, rowU_len, sumB1, sumB2 hs, sumB3 hs, implies_true]
  intro bt hbt
  try simp -implicitDefEqProofs only [zB1,zB2,zB3,zB4,zB5,zB6,zB7,zB8,zB9,zB10,zB11,y00,y01,y02,y03,y04,y05,y06,y07,y08,y09,y0a,y0b,y0c,y0d,y0e,y0f,y0g,y0h,y0i,y0j,y0k,y0l,y0m,y0n,y0o,y0p,y0q,y0r,y0s,y0t,y0u,y0v,y0w,y0x,y0y,y0z,y10,y11,y12,y13,y14,y15,y16,y17,y18,y19,y1a,y1b,y1c,y1d,y1e,y1f,y1g,y1h,y1i,y1j,y1k,y1l,y1m,y1n,y1o,y1p,y1q,y1r,retO,retL,retV,z69,allV,allP,z6a,z6d,z6e,z6k,z6l,z6m,binV,eqV,unV,oOpt,reduceIte,reduceCtorEq,Nat.reduceEqDiff,Nat.reduceAdd,Nat.reduceMul,Nat.reduceLT,Nat.reduceSub,Int.reduceLT,Int.reduceLE,Int.reduceEq,Int.reduceNe,Int.reduceSub,Int.reduceAdd,Int.reduceMul,Int.reduceBEq,Int.reduceBNe,Int.reduceGT,Int.reduceGE,Nat.reduceGT,Int.reduceToNat,Int.reduceNeg,Nat.reduceLeDiff,Nat.reduceBEq,Nat.reduceBneDiff,Value.cells, sumC_len]
  have le2 : h1.le (h1.set bt (.own 0 (sumC hs (.slice none 0 0) 0) 74)) := Heap.le_set (Heap.le_refl _) hbt _
  have pt : SumR h1 (h1.set bt (.own 0 (sumC hs (.slice none 0 0) 0) 74)) bt hs [] 0 := ⟨hbt, _, Heap.set_self _ _ _, fun X => Ow.nil _ _ _⟩
  have c72 : hcell (h1.set bt (.own 0 (sumC hs (.slice none 0 0) 0) 74)) ⟨bs, 72, none⟩ = some vr := by rw [hcell_at (off := 72) (le2 _ _ hbs1) (by rw [sumC_len]; omega), sumC_at72]
  have sr : ∀ X, SlB ((h1.set bt (.own 0 (sumC hs (.slice none 0 0) 0) 74)).set bt X) vr rest := fun X => by
    rw [Heap.set_set]
    exact Sl.le (Heap.le_trans le1 (Heap.le_set (Heap.le_refl _) hbt _)) (ow (.obj (.map #[] 0))).sl
  simp -implicitDefEqProofs only [zB1,zB2,zB3,zB4,zB5,zB6,zB7,zB8,zB9,zB10,zB11,y00,y01,y02,y03,y04,y05,y06,y07,y08,y09,y0a,y0b,y0c,y0d,y0e,y0f,y0g,y0h,y0i,y0j,y0k,y0l,y0m,y0n,y0o,y0p,y0q,y0r,y0s,y0t,y0u,y0v,y0w,y0x,y0y,y0z,y10,y11,y12,y13,y14,y15,y16,y17,y18,y19,y1a,y1b,y1c,y1d,y1e,y1f,y1g,y1h,y1i,y1j,y1k,y1l,y1m,y1n,y1o,y1p,y1q,y1r,retO,retL,retV,z69,allV,allP,z6a,z6d,z6e,z6k,z6l,z6m,binV,eqV,unV,oOpt,reduceIte,reduceCtorEq,Nat.reduceEqDiff,Nat.reduceAdd,Nat.reduceMul,Nat.reduceLT,Nat.reduceSub,Int.reduceLT,Int.reduceLE,Int.reduceEq,Int.reduceNe,Int.reduceSub,Int.reduceAdd,Int.reduceMul,Int.reduceBEq,Int.reduceBNe,Int.reduceGT,Int.reduceGE,Nat.reduceGT,Int.reduceToNat,Int.reduceNeg,Nat.reduceLeDiff,Nat.reduceBEq,Nat.reduceBneDiff,Value.cells, c72]
  refine (sha_Add_c E le2 pt rest sr (by simp; omega) (by omega)).mono ?_
  rintro r h3 ⟨le3, p3⟩
  rw [List.nil_append, Nat.zero_add] at p3
  have c73 : hcell h3 ⟨bs, 73, none⟩ = some (.int .i64 n) := by rw [hcell_at (off := 73) (le3 _ _ hbs1) (by rw [sumC_len]; omega), sumC_at73]
  simp -implicitDefEqProofs only [zB1,zB2,zB3,zB4,zB5,zB6,zB7,zB8,zB9,zB10,zB11,y00,y01,y02,y03,y04,y05,y06,y07,y08,y09,y0a,y0b,y0c,y0d,y0e,y0f,y0g,y0h,y0i,y0j,y0k,y0l,y0m,y0n,y0o,y0p,y0q,y0r,y0s,y0t,y0u,y0v,y0w,y0x,y0y,y0z,y10,y11,y12,y13,y14,y15,y16,y17,y18,y19,y1a,y1b,y1c,y1d,y1e,y1f,y1g,y1h,y1i,y1j,y1k,y1l,y1m,y1n,y1o,y1p,y1q,y1r,retO,retL,retV,z69,allV,allP,z6a,z6d,z6e,z6k,z6l,z6m,binV,eqV,unV,oOpt,reduceIte,reduceCtorEq,Nat.reduceEqDiff,Nat.reduceAdd,Nat.reduceMul,Nat.reduceLT,Nat.reduceSub,Int.reduceLT,Int.reduceLE,Int.reduceEq,Int.reduceNe,Int.reduceSub,Int.reduceAdd,Int.reduceMul,Int.reduceBEq,Int.reduceBNe,Int.reduceGT,Int.reduceGE,Nat.reduceGT,Int.reduceToNat,Int.reduceNeg,Nat.reduceLeDiff,Nat.reduceBEq,Nat.reduceBneDiff,Value.cells, c73]
  refine (sha_padding_c E h3 n (by omega)).mono ?_
  rintro vp h4 ⟨le4, owp⟩
  obtain ⟨v3, hb3, _⟩ := p3.ex
  have kp : padK n < 64 := by unfold padK; omega
  have lp : (paddingF n).length ≤ 100 := by simp [paddingF, bigF_len]; omega
  have al := absorb_len hs rest
  simp -implicitDefEqProofs only [zB1,zB2,zB3,zB4,zB5,zB6,zB7,zB8,zB9,zB10,zB11,y00,y01,y02,y03,y04,y05,y06,y07,y08,y09,y0a,y0b,y0c,y0d,y0e,y0f,y0g,y0h,y0i,y0j,y0k,y0l,y0m,y0n,y0o,y0p,y0q,y0r,y0s,y0t,y0u,y0v,y0w,y0x,y0y,y0z,y10,y11,y12,y13,y14,y15,y16,y17,y18,y19,y1a,y1b,y1c,y1d,y1e,y1f,y1g,y1h,y1i,y1j,y1k,y1l,y1m,y1n,y1o,y1p,y1q,y1r,retO,retL,retV,z69,allV,allP,z6a,z6d,z6e,z6k,z6l,z6m,binV,eqV,unV,oOpt,reduceIte,reduceCtorEq,Nat.reduceEqDiff,Nat.reduceAdd,Nat.reduceMul,Nat.reduceLT,Nat.reduceSub,Int.reduceLT,Int.reduceLE,Int.reduceEq,Int.reduceNe,Int.reduceSub,Int.reduceAdd,Int.reduceMul,Int.reduceBEq,Int.reduceBNe,Int.reduceGT,Int.reduceGE,Nat.reduceGT,Int.reduceToNat,Int.reduceNeg,Nat.reduceLeDiff,Nat.reduceBEq,Nat.reduceBneDiff,Value.cells]
  refine (sha_Add_c E (Heap.le_trans le3 le4) (p3.le le4) (paddingF n) (fun X => owp.apart hb3) (by omega) (by omega)).mono ?_
  rintro r h5 ⟨le5, p5⟩
  rw [absorb_app] at p5
  obtain ⟨v5, hb5, _⟩ := p5.ex
  have p25 := le5 _ _ p2
  simp -implicitDefEqProofs only [zB1,zB2,zB3,zB4,zB5,zB6,zB7,zB8,zB9,zB10,zB11,y00,y01,y02,y03,y04,y05,y06,y07,y08,y09,y0a,y0b,y0c,y0d,y0e,y0f,y0g,y0h,y0i,y0j,y0k,y0l,y0m,y0n,y0o,y0p,y0q,y0r,y0s,y0t,y0u,y0v,y0w,y0x,y0y,y0z,y10,y11,y12,y13,y14,y15,y16,y17,y18,y19,y1a,y1b,y1c,y1d,y1e,y1f,y1g,y1h,y1i,y1j,y1k,y1l,y1m,y1n,y1o,y1p,y1q,y1r,retO,retL,retV,z69,allV,allP,z6a,z6d,z6e,z6k,z6l,z6m,binV,eqV,unV,oOpt,reduceIte,reduceCtorEq,Nat.reduceEqDiff,Nat.reduceAdd,Nat.reduceMul,Nat.reduceLT,Nat.reduceSub,Int.reduceLT,Int.reduceLE,Int.reduceEq,Int.reduceNe,Int.reduceSub,Int.reduceAdd,Int.reduceMul,Int.reduceBEq,Int.reduceBNe,Int.reduceGT,Int.reduceGE,Nat.reduceGT,Int.reduceToNat,Int.reduceNeg,Nat.reduceLeDiff,Nat.reduceBEq,Nat.reduceBneDiff,Value.cells]
  intro b4 hb4
  try simp -implicitDefEqProofs only [zB1,zB2,zB3,zB4,zB5,zB6,zB7,zB8,zB9,zB10,zB11,y00,y01,y02,y03,y04,y05,y06,y07,y08,y09,y0a,y0b,y0c,y0d,y0e,y0f,y0g,y0h,y0i,y0j,y0k,y0l,y0m,y0n,y0o,y0p,y0q,y0r,y0s,y0t,y0u,y0v,y0w,y0x,y0y,y0z,y10,y11,y12,y13,y14,y15,y16,y17,y18,y19,y1a,y1b,y1c,y1d,y1e,y1f,y1g,y1h,y1i,y1j,y1k,y1l,y1m,y1n,y1o,y1p,y1q,y1r,retO,retL,retV,z69,allV,allP,z6a,z6d,z6e,z6k,z6l,z6m,binV,eqV,unV,oOpt,reduceIte,reduceCtorEq,Nat.reduceEqDiff,Nat.reduceAdd,Nat.reduceMul,Nat.reduceLT,Nat.reduceSub,Int.reduceLT,Int.reduceLE,Int.reduceEq,Int.reduceNe,Int.reduceSub,Int.reduceAdd,Int.reduceMul,Int.reduceBEq,Int.reduceBNe,Int.reduceGT,Int.reduceGE,Nat.reduceGT,Int.reduceToNat,Int.reduceNeg,Nat.reduceLeDiff,Nat.reduceBEq,Nat.reduceBneDiff,Value.cells]
  rw [List.length_replicate]
  have nb42 := ne_of_none hb4 p25
  have nb4t := ne_of_none hb4 hb5
  have le6 : h1.le (h5.set b4 (.own 0 (List.replicate 32 (.int .u8 0)) 32)) := Heap.le_new le5 hb4 _
  have p46 : (h5.set b4 (.own 0 (List.replicate 32 (.int .u8 0)) 32)) b4 = some (.own 0 ((outF (absorb hs (rest ++ paddingF n)).1 0 ++ List.replicate (32 - 4 * 0) 0).map u8V) 32) := by rw [Heap.set_self]; rfl
  have p26 : (h5.set b4 (.own 0 (List.replicate 32 (.int .u8 0)) 32)) b2 = some (.own 0 (List.replicate 32 (.int .u8 0)) 32) := by rw [Heap.set_ne nb42]; exact p25
  have hb6 : (h5.set b4 (.own 0 (List.replicate 32 (.int .u8 0)) 32)) bt = some (.own 0 (sumC (absorb hs (rest ++ paddingF n)).1 v5 ((rest.length + (paddingF n).length : Nat) : Int)) 74) := by rw [Heap.set_ne nb4t]; exact hb5
  generalize (h5.set b4 (.own 0 (List.replicate 32 (.int .u8 0)) 32)) = H0 at le6 p46 p26 hb6
  have hb4' : h1 b4 = none := Heap.none_of_le le5 hb4
  have hsend : shaEnd hs rest n = outF (absorb hs (rest ++ paddingF n)).1 8 := rfl
  rw [hsend]
  generalize (absorb hs (rest ++ paddingF n)).1 = F at p46 hb6
  have c8 : hcells H0 ⟨bt, 0, none⟩ 8 = some (rowU F 8) := by rw [hcells_at hb6 (by rw [sumC_len]; omega), sumC_h]
  simp -implicitDefEqProofs only [zB1,zB2,zB3,zB4,zB5,zB6,zB7,zB8,zB9,zB10,zB11,y00,y01,y02,y03,y04,y05,y06,y07,y08,y09,y0a,y0b,y0c,y0d,y0e,y0f,y0g,y0h,y0i,y0j,y0k,y0l,y0m,y0n,y0o,y0p,y0q,y0r,y0s,y0t,y0u,y0v,y0w,y0x,y0y,y0z,y10,y11,y12,y13,y14,y15,y16,y17,y18,y19,y1a,y1b,y1c,y1d,y1e,y1f,y1g,y1h,y1i,y1j,y1k,y1l,y1m,y1n,y1o,y1p,y1q,y1r,retO,retL,retV,z69,allV,allP,z6a,z6d,z6e,z6k,z6l,z6m,binV,eqV,unV,oOpt,reduceIte,reduceCtorEq,Nat.reduceEqDiff,Nat.reduceAdd,Nat.reduceMul,Nat.reduceLT,Nat.reduceSub,Int.reduceLT,Int.reduceLE,Int.reduceEq,Int.reduceNe,Int.reduceSub,Int.reduceAdd,Int.reduceMul,Int.reduceBEq,Int.reduceBNe,Int.reduceGT,Int.reduceGE,Nat.reduceGT,Int.reduceToNat,Int.reduceNeg,Nat.reduceLeDiff,Nat.reduceBEq,Nat.reduceBneDiff,Value.cells, c8]
  refine wp_loop' (fun m t H => h1.le H ∧ ∃ (i : Nat), t = tl [(2, .pointer (some ⟨b2, 0, none⟩)), (4, .pointer (some ⟨b4, 0, none⟩)), (33, .agg (rowU F 8).toArray), (34, .int .i64 i)] ∧ i ≤ 8 ∧ m = 8 - i ∧
      H b2 = some (.own 0 (List.replicate 32 (.int .u8 0)) 32) ∧ H b4 = some (.own 0 ((outF F i ++ List.replicate (32 - 4 * i) 0).map u8V) 32)) 8
    ⟨le6, 0, rfl, by omega, by omega, p26, p46⟩ ?_
  rintro m t H ⟨leH, i, rfl, hi, rfl, q2, q4⟩
  by_cases hlt : i < 8
  · have hi1 : (i : Int) < 8 := by omega
    have hi2 : (0 : Int) ≤ i := by omega
    have w1 : IntKind.i64.wrap ((i : Int) + 1) = ((i + 1 : Nat) : Int) := wrapN (by omega)
    have gi : (rowU F 8)[i]? = some (.int .u32 (F i).toNat) := by simp [rowU, hlt]
    have w4 : IntKind.i64.wrap (4 * (i : Int)) = ((4 * i : Nat) : Int) := by rw [wrapI (by omega) (by omega)]; omega
    have bd : bnds 32 32 (some (some (.int .i64 ((4 * i : Nat) : Int)))) none none = some (4 * i, 32, 32) := by rw [bnds_lo (by omega) (by omega), Int.toNat_natCast]
    simp -implicitDefEqProofs only [zB1,zB2,zB3,zB4,zB5,zB6,zB7,zB8,zB9,zB10,zB11,y00,y01,y02,y03,y04,y05,y06,y07,y08,y09,y0a,y0b,y0c,y0d,y0e,y0f,y0g,y0h,y0i,y0j,y0k,y0l,y0m,y0n,y0o,y0p,y0q,y0r,y0s,y0t,y0u,y0v,y0w,y0x,y0y,y0z,y10,y11,y12,y13,y14,y15,y16,y17,y18,y19,y1a,y1b,y1c,y1d,y1e,y1f,y1g,y1h,y1i,y1j,y1k,y1l,y1m,y1n,y1o,y1p,y1q,y1r,retO,retL,retV,z69,allV,allP,z6a,z6d,z6e,z6k,z6l,z6m,binV,eqV,unV,oOpt,reduceIte,reduceCtorEq,Nat.reduceEqDiff,Nat.reduceAdd,Nat.reduceMul,Nat.reduceLT,Nat.reduceSub,Int.reduceLT,Int.reduceLE,Int.reduceEq,Int.reduceNe,Int.reduceSub,Int.reduceAdd,Int.reduceMul,Int.reduceBEq,Int.reduceBNe,Int.reduceGT,Int.reduceGE,Nat.reduceGT,Int.reduceToNat,Int.reduceNeg,Nat.reduceLeDiff,Nat.reduceBEq,Nat.reduceBneDiff,Value.cells, hi1, hi2, Int.toNat_natCast, gi, u32_u64]
    refine (octet_Big_c E H [] (by simp) (.inl ⟨rfl, rfl, rfl⟩) ((F i).setWidth 64) 4 (by omega)).mono ?_
    rintro vb h6 ⟨le6', owb⟩
    rw [List.nil_append] at owb
    have q4' := le6' _ _ q4
    simp -implicitDefEqProofs only [zB1,zB2,zB3,zB4,zB5,zB6,zB7,zB8,zB9,zB10,zB11,y00,y01,y02,y03,y04,y05,y06,y07,y08,y09,y0a,y0b,y0c,y0d,y0e,y0f,y0g,y0h,y0i,y0j,y0k,y0l,y0m,y0n,y0o,y0p,y0q,y0r,y0s,y0t,y0u,y0v,y0w,y0x,y0y,y0z,y10,y11,y12,y13,y14,y15,y16,y17,y18,y19,y1a,y1b,y1c,y1d,y1e,y1f,y1g,y1h,y1i,y1j,y1k,y1l,y1m,y1n,y1o,y1p,y1q,y1r,retO,retL,retV,z69,allV,allP,z6a,z6d,z6e,z6k,z6l,z6m,binV,eqV,unV,oOpt,reduceIte,reduceCtorEq,Nat.reduceEqDiff,Nat.reduceAdd,Nat.reduceMul,Nat.reduceLT,Nat.reduceSub,Int.reduceLT,Int.reduceLE,Int.reduceEq,Int.reduceNe,Int.reduceSub,Int.reduceAdd,Int.reduceMul,Int.reduceBEq,Int.reduceBNe,Int.reduceGT,Int.reduceGE,Nat.reduceGT,Int.reduceToNat,Int.reduceNeg,Nat.reduceLeDiff,Nat.reduceBEq,Nat.reduceBneDiff,Value.cells, w4, bd, implies_true]
    have ea : (if 32 = 4 * i then (⟨b4, 0, none⟩ : Addr) else Addr.add ⟨b4, 0, none⟩ (4 * i)) = ⟨b4, 4 * i, none⟩ := by rw [if_neg (by omega), add_off', Nat.zero_add]
    rw [ea]
    refine copyP_own (size := 1) (m := 4) q4' (by simp [outF_len]; omega) (by simp [outF_len]) (by have := owb.sl; rwa [bigF_len] at this) (one_u8 _) ?_
    rw [out_splice F i hlt]
    simp -implicitDefEqProofs only [zB1,zB2,zB3,zB4,zB5,zB6,zB7,zB8,zB9,zB10,zB11,y00,y01,y02,y03,y04,y05,y06,y07,y08,y09,y0a,y0b,y0c,y0d,y0e,y0f,y0g,y0h,y0i,y0j,y0k,y0l,y0m,y0n,y0o,y0p,y0q,y0r,y0s,y0t,y0u,y0v,y0w,y0x,y0y,y0z,y10,y11,y12,y13,y14,y15,y16,y17,y18,y19,y1a,y1b,y1c,y1d,y1e,y1f,y1g,y1h,y1i,y1j,y1k,y1l,y1m,y1n,y1o,y1p,y1q,y1r,retO,retL,retV,z69,allV,allP,z6a,z6d,z6e,z6k,z6l,z6m,binV,eqV,unV,oOpt,reduceIte,reduceCtorEq,Nat.reduceEqDiff,Nat.reduceAdd,Nat.reduceMul,Nat.reduceLT,Nat.reduceSub,Int.reduceLT,Int.reduceLE,Int.reduceEq,Int.reduceNe,Int.reduceSub,Int.reduceAdd,Int.reduceMul,Int.reduceBEq,Int.reduceBNe,Int.reduceGT,Int.reduceGE,Nat.reduceGT,Int.reduceToNat,Int.reduceNeg,Nat.reduceLeDiff,Nat.reduceBEq,Nat.reduceBneDiff,Value.cells, w1]
    refine ⟨_, by omega, Heap.le_set (Heap.le_trans leH le6') hb4' _, i + 1, rfl, hlt, rfl, by rw [Heap.set_ne (Ne.symm (fun e => nb42 e.symm))]; exact le6' _ _ q2, Heap.set_self _ _ _⟩
  · have hi1 : ¬ (i : Int) < 8 := by omega
    have : i = 8 := by omega
    subst this
    have e0 : (outF F 8 ++ List.replicate (32 - 4 * 8) 0) = outF F 8 := by simp
    rw [e0] at q4
    have hl : hcells H ⟨b4, 0, none⟩ 32 = some ((outF F 8).map u8V) := by rw [hcells_at q4 (by simp [outF_len])]; simp [List.take_of_length_le, outF_len]
    have st : storeV H 32 (.pointer (some ⟨b2, 0, none⟩)) (.agg ((outF F 8).map u8V).toArray) = some (H.set b2 (.own 0 ((outF F 8).map u8V) 32)) := storeV_agg_at q2 (by omega) (by simp [outF_len]) (one_u8 _) (by simp) (by omega)
    have hl2 : hcells (H.set b2 (.own 0 ((outF F 8).map u8V) 32)) ⟨b2, 0, none⟩ 32 = some ((outF F 8).map u8V) := z6o (by simp [outF_len])
    simp -implicitDefEqProofs only [zB1,zB2,zB3,zB4,zB5,zB6,zB7,zB8,zB9,zB10,zB11,y00,y01,y02,y03,y04,y05,y06,y07,y08,y09,y0a,y0b,y0c,y0d,y0e,y0f,y0g,y0h,y0i,y0j,y0k,y0l,y0m,y0n,y0o,y0p,y0q,y0r,y0s,y0t,y0u,y0v,y0w,y0x,y0y,y0z,y10,y11,y12,y13,y14,y15,y16,y17,y18,y19,y1a,y1b,y1c,y1d,y1e,y1f,y1g,y1h,y1i,y1j,y1k,y1l,y1m,y1n,y1o,y1p,y1q,y1r,retO,retL,retV,z69,allV,allP,z6a,z6d,z6e,z6k,z6l,z6m,binV,eqV,unV,oOpt,reduceIte,reduceCtorEq,Nat.reduceEqDiff,Nat.reduceAdd,Nat.reduceMul,Nat.reduceLT,Nat.reduceSub,Int.reduceLT,Int.reduceLE,Int.reduceEq,Int.reduceNe,Int.reduceSub,Int.reduceAdd,Int.reduceMul,Int.reduceBEq,Int.reduceBNe,Int.reduceGT,Int.reduceGE,Nat.reduceGT,Int.reduceToNat,Int.reduceNeg,Nat.reduceLeDiff,Nat.reduceBEq,Nat.reduceBneDiff,Value.cells, hi1, hl, st, hl2]
    exact Heap.le_set (Heap.le_trans le1 leH) hb2 _

def shaF (l : List UInt8) : List UInt8 := shaEnd (absorb startF l).1 (absorb startF l).2 l.length
theorem shaF_len (l : List UInt8) : (shaF l).length = 32 := by unfold shaF shaEnd; rw [outF_len]

theorem sha_Of_c (E : EnvT tab) (h : Heap) {v : Value} (L : List (List UInt8)) (hl : L.length ≤ 1000) (ht : L.flatten.length ≤ 100000000) (s : SlL h v L) :
    ACallN E.toEnv n_sha_Of [v] h fun r h' => h.le h' ∧ r = .agg ((shaF L.flatten).map u8V).toArray := by
  obtain ⟨vs, hvs, sl, el⟩ := s
  obtain ⟨base, c, rfl⟩ := Sl.shape sl
  refine acall h_sha_Of ir_sha_Of rfl rfl (wpA_sound ?_)
  unfold ir_sha_Of
  simp -implicitDefEqProofs only [zB1,zB2,zB3,zB4,zB5,zB6,zB7,zB8,zB9,zB10,zB11,y00,y01,y02,y03,y04,y05,y06,y07,y08,y09,y0a,y0b,y0c,y0d,y0e,y0f,y0g,y0h,y0i,y0j,y0k,y0l,y0m,y0n,y0o,y0p,y0q,y0r,y0s,y0t,y0u,y0v,y0w,y0x,y0y,y0z,y10,y11,y12,y13,y14,y15,y16,y17,y18,y19,y1a,y1b,y1c,y1d,y1e,y1f,y1g,y1h,y1i,y1j,y1k,y1l,y1m,y1n,y1o,y1p,y1q,y1r,retO,retL,retV,z69,allV,allP,z6a,z6d,z6e,z6k,z6l,z6m,binV,eqV,unV,oOpt,reduceIte,reduceCtorEq,Nat.reduceEqDiff,Nat.reduceAdd,Nat.reduceMul,Nat.reduceLT,Nat.reduceSub,Int.reduceLT,Int.reduceLE,Int.reduceEq,Int.reduceNe,Int.reduceSub,Int.reduceAdd,Int.reduceMul,Int.reduceBEq,Int.reduceBNe,Int.reduceGT,Int.reduceGE,Nat.reduceGT,Int.reduceToNat,Int.reduceNeg,Nat.reduceLeDiff,Nat.reduceBEq,Nat.reduceBneDiff,Value.cells]
  intro b2 hb2
  rw [List.length_replicate]
  have le1 : h.le (h.set b2 (.own 0 (List.replicate 32 (.int .u8 0)) 32)) := Heap.le_set (Heap.le_refl _) hb2 _
  have p2 : (h.set b2 (.own 0 (List.replicate 32 (.int .u8 0)) 32)) b2 = some (.own 0 (List.replicate 32 (.int .u8 0)) 32) := Heap.set_self _ _ _
  generalize (h.set b2 (.own 0 (List.replicate 32 (.int .u8 0)) 32)) = h1 at le1 p2
  refine (sha_New_c E h1).mono ?_
  rintro r h2 ⟨le2, bs, rfl, hbs0, hbs⟩
  simp -implicitDefEqProofs only [zB1,zB2,zB3,zB4,zB5,zB6,zB7,zB8,zB9,zB10,zB11,y00,y01,y02,y03,y04,y05,y06,y07,y08,y09,y0a,y0b,y0c,y0d,y0e,y0f,y0g,y0h,y0i,y0j,y0k,y0l,y0m,y0n,y0o,y0p,y0q,y0r,y0s,y0t,y0u,y0v,y0w,y0x,y0y,y0z,y10,y11,y12,y13,y14,y15,y16,y17,y18,y19,y1a,y1b,y1c,y1d,y1e,y1f,y1g,y1h,y1i,y1j,y1k,y1l,y1m,y1n,y1o,y1p,y1q,y1r,retO,retL,retV,z69,allV,allP,z6a,z6d,z6e,z6k,z6l,z6m,binV,eqV,unV,oOpt,reduceIte,reduceCtorEq,Nat.reduceEqDiff,Nat.reduceAdd,Nat.reduceMul,Nat.reduceLT,Nat.reduceSub,Int.reduceLT,Int.reduceLE,Int.reduceEq,Int.reduceNe,Int.reduceSub,Int.reduceAdd,Int.reduceMul,Int.reduceBEq,Int.reduceBNe,Int.reduceGT,Int.reduceGE,Nat.reduceGT,Int.reduceToNat,Int.reduceNeg,Nat.reduceLeDiff,Nat.reduceBEq,Nat.reduceBneDiff,Value.cells]
  have sr0 : SumR h1 h2 bs startF [] 0 := ⟨hbs0, _, hbs, fun X => Ow.nil _ _ _⟩
  refine wp_loop' (fun m t H => h1.le H ∧ ∃ (i : Nat), t = tl [(2, .pointer (some ⟨b2, 0, none⟩)), (3, .pointer (some ⟨bs, 0, none⟩)), (7, .slice base L.length c), (8, .int .i64 L.length), (9, .int .i64 i)] ∧ i ≤ L.length ∧ m = L.length - i ∧
      SumR h1 H bs (absorb startF (L.take i).flatten).1 (absorb startF (L.take i).flatten).2 (L.take i).flatten.length) L.length
    ⟨le2, 0, rfl, by omega, by omega, by rw [List.take_zero, List.flatten_nil, absorb_done (by simp)]; exact sr0⟩ ?_
  rintro m t H ⟨leH, i, rfl, hi, rfl, sr⟩
  have tlen : (L.take i).flatten.length ≤ L.flatten.length := by
    have : L.flatten = (L.take i).flatten ++ (L.drop i).flatten := by rw [← List.flatten_append, List.take_append_drop]
    rw [this, List.length_append]; omega
  have al := absorb_len startF (L.take i).flatten
  by_cases hlt : i < L.length
  · have hi1 : (i : Int) < L.length := by omega
    have hi2 : (0 : Int) ≤ i := by omega
    have w1 : IntKind.i64.wrap ((i : Int) + 1) = ((i + 1 : Nat) : Int) := wrapN (by omega)
    obtain ⟨b, o, c', hv, hc, hcl⟩ := sl.ptr (by omega) (by omega)
    simp only [Value.slice.injEq, true_and] at hv
    obtain ⟨rfl, rfl⟩ := hv
    rw [Nat.mul_one] at hcl
    have ci : hcell H ⟨b, o + i, none⟩ = some vs[i] := by
      rw [hcell_of (hcells_le (Heap.le_trans le1 leH) hcl) i hlt]; simp [hvs, hlt]
    have ei := el i (by omega) hlt
    have e2 : (L.take (i + 1)).flatten = (L.take i).flatten ++ L[i] := by rw [List.take_succ_eq_append_getElem hlt, List.flatten_append]; simp
    have ll : ((L.take i).flatten ++ L[i]).length ≤ L.flatten.length := by
      rw [← e2]
      have : L.flatten = (L.take (i + 1)).flatten ++ (L.drop (i + 1)).flatten := by rw [← List.flatten_append, List.take_append_drop]
      rw [this, List.length_append]; omega
    rw [List.length_append] at ll
    simp -implicitDefEqProofs only [zB1,zB2,zB3,zB4,zB5,zB6,zB7,zB8,zB9,zB10,zB11,y00,y01,y02,y03,y04,y05,y06,y07,y08,y09,y0a,y0b,y0c,y0d,y0e,y0f,y0g,y0h,y0i,y0j,y0k,y0l,y0m,y0n,y0o,y0p,y0q,y0r,y0s,y0t,y0u,y0v,y0w,y0x,y0y,y0z,y10,y11,y12,y13,y14,y15,y16,y17,y18,y19,y1a,y1b,y1c,y1d,y1e,y1f,y1g,y1h,y1i,y1j,y1k,y1l,y1m,y1n,y1o,y1p,y1q,y1r,retO,retL,retV,z69,allV,allP,z6a,z6d,z6e,z6k,z6l,z6m,binV,eqV,unV,oOpt,reduceIte,reduceCtorEq,Nat.reduceEqDiff,Nat.reduceAdd,Nat.reduceMul,Nat.reduceLT,Nat.reduceSub,Int.reduceLT,Int.reduceLE,Int.reduceEq,Int.reduceNe,Int.reduceSub,Int.reduceAdd,Int.reduceMul,Int.reduceBEq,Int.reduceBNe,Int.reduceGT,Int.reduceGE,Nat.reduceGT,Int.reduceToNat,Int.reduceNeg,Nat.reduceLeDiff,Nat.reduceBEq,Nat.reduceBneDiff,Value.cells, hi1, hi2, Int.toNat_natCast, ci]
    refine (sha_Add_c E leH sr L[i] (fun X => ei.le (Heap.le_set (Heap.le_trans le1 leH) (Heap.none_of_le le1 hbs0) X)) (by omega) (by omega)).mono ?_
    rintro r H2 ⟨le3, sr2⟩
    rw [absorb_app, ← e2, ← List.length_append, ← e2] at sr2
    simp -implicitDefEqProofs only [zB1,zB2,zB3,zB4,zB5,zB6,zB7,zB8,zB9,zB10,zB11,y00,y01,y02,y03,y04,y05,y06,y07,y08,y09,y0a,y0b,y0c,y0d,y0e,y0f,y0g,y0h,y0i,y0j,y0k,y0l,y0m,y0n,y0o,y0p,y0q,y0r,y0s,y0t,y0u,y0v,y0w,y0x,y0y,y0z,y10,y11,y12,y13,y14,y15,y16,y17,y18,y19,y1a,y1b,y1c,y1d,y1e,y1f,y1g,y1h,y1i,y1j,y1k,y1l,y1m,y1n,y1o,y1p,y1q,y1r,retO,retL,retV,z69,allV,allP,z6a,z6d,z6e,z6k,z6l,z6m,binV,eqV,unV,oOpt,reduceIte,reduceCtorEq,Nat.reduceEqDiff,Nat.reduceAdd,Nat.reduceMul,Nat.reduceLT,Nat.reduceSub,Int.reduceLT,Int.reduceLE,Int.reduceEq,Int.reduceNe,Int.reduceSub,Int.reduceAdd,Int.reduceMul,Int.reduceBEq,Int.reduceBNe,Int.reduceGT,Int.reduceGE,Nat.reduceGT,Int.reduceToNat,Int.reduceNeg,Nat.reduceLeDiff,Nat.reduceBEq,Nat.reduceBneDiff,Value.cells, w1]
    exact ⟨_, by omega, le3, i + 1, rfl, hlt, rfl, sr2⟩
  · have hi1 : ¬ (i : Int) < L.length := by omega
    have : i = L.length := by omega
    subst this
    rw [List.take_length] at sr al
    simp -implicitDefEqProofs only [zB1,zB2,zB3,zB4,zB5,zB6,zB7,zB8,zB9,zB10,zB11,y00,y01,y02,y03,y04,y05,y06,y07,y08,y09,y0a,y0b,y0c,y0d,y0e,y0f,y0g,y0h,y0i,y0j,y0k,y0l,y0m,y0n,y0o,y0p,y0q,y0r,y0s,y0t,y0u,y0v,y0w,y0x,y0y,y0z,y10,y11,y12,y13,y14,y15,y16,y17,y18,y19,y1a,y1b,y1c,y1d,y1e,y1f,y1g,y1h,y1i,y1j,y1k,y1l,y1m,y1n,y1o,y1p,y1q,y1r,retO,retL,retV,z69,allV,allP,z6a,z6d,z6e,z6k,z6l,z6m,binV,eqV,unV,oOpt,reduceIte,reduceCtorEq,Nat.reduceEqDiff,Nat.reduceAdd,Nat.reduceMul,Nat.reduceLT,Nat.reduceSub,Int.reduceLT,Int.reduceLE,Int.reduceEq,Int.reduceNe,Int.reduceSub,Int.reduceAdd,Int.reduceMul,Int.reduceBEq,Int.reduceBNe,Int.reduceGT,Int.reduceGE,Nat.reduceGT,Int.reduceToNat,Int.reduceNeg,Nat.reduceLeDiff,Nat.reduceBEq,Nat.reduceBneDiff,Value.cells, hi1]
    refine (sha_Word_c E leH sr (by omega) (by omega)).mono ?_
    rintro r H2 ⟨le3, rfl⟩
    have q2 := le3 _ _ (leH _ _ p2)
    have he : shaEnd (absorb startF L.flatten).1 (absorb startF L.flatten).2 L.flatten.length = shaF L.flatten := rfl
    rw [he]
    have st : storeV H2 32 (.pointer (some ⟨b2, 0, none⟩)) (.agg ((shaF L.flatten).map u8V).toArray) = some (H2.set b2 (.own 0 ((shaF L.flatten).map u8V) 32)) := storeV_agg_at q2 (by omega) (by simp [shaF_len]) (one_u8 _) (by simp) (by omega)
    have hl2 : hcells (H2.set b2 (.own 0 ((shaF L.flatten).map u8V) 32)) ⟨b2, 0, none⟩ 32 = some ((shaF L.flatten).map u8V) := z6o (by simp [shaF_len])
    simp -implicitDefEqProofs only [zB1,zB2,zB3,zB4,zB5,zB6,zB7,zB8,zB9,zB10,zB11,y00,y01,y02,y03,y04,y05,y06,y07,y08,y09,y0a,y0b,y0c,y0d,y0e,y0f,y0g,y0h,y0i,y0j,y0k,y0l,y0m,y0n,y0o,y0p,y0q,y0r,y0s,y0t,y0u,y0v,y0w,y0x,y0y,y0z,y10,y11,y12,y13,y14,y15,y16,y17,y18,y19,y1a,y1b,y1c,y1d,y1e,y1f,y1g,y1h,y1i,y1j,y1k,y1l,y1m,y1n,y1o,y1p,y1q,y1r,retO,retL,retV,z69,allV,allP,z6a,z6d,z6e,z6k,z6l,z6m,binV,eqV,unV,oOpt,reduceIte,reduceCtorEq,Nat.reduceEqDiff,Nat.reduceAdd,Nat.reduceMul,Nat.reduceLT,Nat.reduceSub,Int.reduceLT,Int.reduceLE,Int.reduceEq,Int.reduceNe,Int.reduceSub,Int.reduceAdd,Int.reduceMul,Int.reduceBEq,Int.reduceBNe,Int.reduceGT,Int.reduceGE,Nat.reduceGT,Int.reduceToNat,Int.reduceNeg,Nat.reduceLeDiff,Nat.reduceBEq,Nat.reduceBneDiff,Value.cells, st, hl2]
    exact Heap.le_set (Heap.le_trans le1 (Heap.le_trans leH le3)) hb2 _
end Go.Bb
/- The reckoner with blocks mixed at once. -/
namespace Go.Bb
set_option linter.unusedSimpArgs false
set_option linter.unusedVariables false
set_option maxRecDepth 20000

def nextX (b : List UInt8) (ws : List U32) (i : Nat) : U32 :=
  if i < 16 then (fromBigF ((b.drop (4 * i)).take 4)).setWidth 32
  else ws.getD 15 0 + (turnF (ws.getD 14 0) 7 ^^^ turnF (ws.getD 14 0) 18 ^^^ ws.getD 14 0 >>> 3) + ws.getD 6 0 + (turnF (ws.getD 1 0) 17 ^^^ turnF (ws.getD 1 0) 19 ^^^ ws.getD 1 0 >>> 10)
def schedR (b : List UInt8) : Nat → List U32
  | 0 => []
  | i + 1 => nextX b (schedR b i) i :: schedR b i
theorem schedR_get (b : List UInt8) : ∀ i j, j < i → (schedR b i).getD (i - 1 - j) 0 = schedW b i j
  | 0, j, h => by omega
  | i + 1, j, h => by
      have ih := schedR_get b i
      unfold schedR schedW updU
      by_cases e : j = i
      · subst e
        rw [if_pos rfl, Nat.add_sub_cancel, Nat.sub_self, List.getD_cons_zero]
        unfold nextX schedX
        by_cases h16 : j < 16
        · rw [if_pos h16, if_pos h16]
        · rw [if_neg h16, if_neg h16]
          have g : ∀ k, k < j → (schedR b j).getD k 0 = schedW b j (j - (k + 1)) := fun k hk => by
            have := ih (j - (k + 1)) (by omega)
            rwa [show j - 1 - (j - (k + 1)) = k from by omega] at this
          rw [g 15 (by omega), g 14 (by omega), g 6 (by omega), g 1 (by omega)]
      · rw [if_neg e, Nat.add_sub_cancel, show i - j = (i - 1 - j) + 1 from by omega, List.getD_cons_succ]
        exact ih j (by omega)
theorem schedR_64 (b : List UInt8) (i : Nat) (h : i < 64) : (schedR b 64).getD (63 - i) 0 = schedW b 64 i := schedR_get b 64 i h

structure S8 where
  a : U32
  b : U32
  c : U32
  d : U32
  e : U32
  f : U32
  g : U32
  h : U32
def S8.get (s : S8) : Nat → U32
  | 0 => s.a
  | 1 => s.b
  | 2 => s.c
  | 3 => s.d
  | 4 => s.e
  | 5 => s.f
  | 6 => s.g
  | 7 => s.h
  | _ => 0
def S8.tt (K wr : List U32) (s : S8) (i : Nat) : U32 := s.h + (turnF s.e 6 ^^^ turnF s.e 11 ^^^ turnF s.e 25) + ((s.e &&& s.f) ^^^ (~~~s.e &&& s.g)) + K.getD i 0 + wr.getD (63 - i) 0
def S8.step (K wr : List U32) (s : S8) (i : Nat) : S8 :=
  ⟨S8.tt K wr s i + (turnF s.a 2 ^^^ turnF s.a 13 ^^^ turnF s.a 22) + ((s.a &&& s.b) ^^^ (s.a &&& s.c) ^^^ (s.b &&& s.c)), s.a, s.b, s.c, s.d + S8.tt K wr s i, s.e, s.f, s.g⟩
def S8.run (K wr : List U32) (s : S8) : Nat → S8
  | 0 => s
  | i + 1 => S8.step K wr (S8.run K wr s i) i
def S8.ofL (H : List U32) : S8 := ⟨H.getD 0 0, H.getD 1 0, H.getD 2 0, H.getD 3 0, H.getD 4 0, H.getD 5 0, H.getD 6 0, H.getD 7 0⟩
theorem S8.run_get (K H : List U32) (b : List UInt8) : ∀ i, i ≤ 64 → ∀ j, j < 8 → (S8.run K (schedR b 64) (S8.ofL H) i).get j = mixV (fun j => K.getD j 0) (schedW b 64) (fun j => H.getD j 0) i j
  | 0, _, j, hj => by
      match j, hj with
      | 0, _ => rfl
      | 1, _ => rfl
      | 2, _ => rfl
      | 3, _ => rfl
      | 4, _ => rfl
      | 5, _ => rfl
      | 6, _ => rfl
      | 7, _ => rfl
  | i + 1, hi, j, hj => by
      have ih := S8.run_get K H b i (by omega)
      have a0 := ih 0 (by omega)
      have a1 := ih 1 (by omega)
      have a2 := ih 2 (by omega)
      have a3 := ih 3 (by omega)
      have a4 := ih 4 (by omega)
      have a5 := ih 5 (by omega)
      have a6 := ih 6 (by omega)
      have a7 := ih 7 (by omega)
      have hw := schedR_64 b i (by omega)
      unfold S8.run mixV
      generalize S8.run K (schedR b 64) (S8.ofL H) i = s at a0 a1 a2 a3 a4 a5 a6 a7
      generalize mixV (fun j => K.getD j 0) (schedW b 64) (fun j => H.getD j 0) i = v at a0 a1 a2 a3 a4 a5 a6 a7
      simp only [S8.get] at a0 a1 a2 a3 a4 a5 a6 a7
      match j, hj with
      | 0, _ => simp only [S8.get, S8.step, S8.tt, mixX, mixT, mixR, mixM, a0, a1, a2, a3, a4, a5, a6, a7, hw]
      | 1, _ => exact a0
      | 2, _ => exact a1
      | 3, _ => exact a2
      | 4, _ => simp only [S8.get, S8.step, S8.tt, mixX, mixT, mixR, mixM, a0, a1, a2, a3, a4, a5, a6, a7, hw]
      | 5, _ => exact a4
      | 6, _ => exact a5
      | 7, _ => exact a6
/-- A block mixed in, as a row. -/
def mixL (K H : List U32) (b : List UInt8) : List U32 :=
  let s := S8.run K (schedR b 64) (S8.ofL H) 64
  [H.getD 0 0 + s.a, H.getD 1 0 + s.b, H.getD 2 0 + s.c, H.getD 3 0 + s.d, H.getD 4 0 + s.e, H.getD 5 0 + s.f, H.getD 6 0 + s.g, H.getD 7 0 + s.h]
def wordsU (l : List U32) : List Value := l.map fun w => .int .u32 (.ofNat w.toNat)
theorem mixL_row (K H : List U32) (b : List UInt8) : wordsU (mixL K H b) = rowU (mixF (fun j => K.getD j 0) (fun j => H.getD j 0) b) 8 := by
  have h := S8.run_get K H b 64 (Nat.le_refl _)
  unfold mixL mixF
  generalize S8.run K (schedR b 64) (S8.ofL H) 64 = s at h
  have e : rowU (fun j => H.getD j 0 + mixV (fun j => K.getD j 0) (schedW b 64) (fun j => H.getD j 0) 64 j) 8 = rowU (fun j => H.getD j 0 + s.get j) 8 := rowU_congr fun j hj => by rw [h j hj]
  rw [e]; rfl

/-! ### rows of words and bytes, read -/
theorem u8V_of' {n : Nat} (h : n < 256) : u8V (UInt8.ofNat n) = .int .u8 (.ofNat n) := by
  unfold u8V
  have : (UInt8.ofNat n).toNat = n := by rw [UInt8.toNat_ofNat']; omega
  rw [this]; rfl
def toW : List Value → Option (List U32)
  | [] => some []
  | .int .u32 (.ofNat x) :: t => bif Nat.blt x 4294967296 then (toW t).map (BitVec.ofNat 32 x :: ·) else none
  | _ => none
def toB : List Value → Option (List UInt8)
  | [] => some []
  | .int .u8 (.ofNat x) :: t => bif Nat.blt x 256 then (toB t).map (UInt8.ofNat x :: ·) else none
  | _ => none
theorem toW_eq : ∀ {l : List Value} {w : List U32}, toW l = some w → l = wordsU w ∧ l.all isInt = true
  | [], w, h => by simp only [toW, Option.some.injEq] at h; subst h; exact ⟨rfl, rfl⟩
  | x :: t, w, h => by
      unfold toW at h
      split at h
      · rename_i e; cases e
      · rename_i n t' e
        cases e
        cases hb : Nat.blt n 4294967296 with
        | false => rw [hb] at h; cases h
        | true =>
          rw [hb] at h
          simp only [cond_true, Option.map_eq_some_iff] at h
          obtain ⟨w', h1, rfl⟩ := h
          obtain ⟨g1, g2⟩ := toW_eq h1
          have hn : n < 4294967296 := Nat.le_of_ble_eq_true hb
          refine ⟨?_, by simp only [List.all_cons, isInt, Bool.true_and]; exact g2⟩
          unfold wordsU
          rw [List.map_cons]
          have : (BitVec.ofNat 32 n).toNat = n := by simp; omega
          rw [this]
          unfold wordsU at g1
          rw [← g1]
      · cases h
theorem toB_eq : ∀ {l : List Value} {w : List UInt8}, toB l = some w → l = w.map u8V ∧ l.all isInt = true
  | [], w, h => by simp only [toB, Option.some.injEq] at h; subst h; exact ⟨rfl, rfl⟩
  | x :: t, w, h => by
      unfold toB at h
      split at h
      · rename_i e; cases e
      · rename_i n t' e
        cases e
        cases hb : Nat.blt n 256 with
        | false => rw [hb] at h; cases h
        | true =>
          rw [hb] at h
          simp only [cond_true, Option.map_eq_some_iff] at h
          obtain ⟨w', h1, rfl⟩ := h
          obtain ⟨g1, g2⟩ := toB_eq h1
          have hn : n < 256 := Nat.le_of_ble_eq_true hb
          refine ⟨?_, by simp only [List.all_cons, isInt, Bool.true_and]; exact g2⟩
          rw [List.map_cons]
          have : u8V (UInt8.ofNat n) = .int .u8 (.ofNat n) := u8V_of' hn
          rw [this, ← g1]
      · cases h
end Go.Bb
/- The reckoner with blocks mixed at once: it is sound. -/
namespace Go.Bb
set_option linter.unusedSimpArgs false
set_option linter.unusedVariables false
set_option maxRecDepth 20000

noncomputable def mixG (hs : Array Value) (a : Addr) (p : Addr) (m : VM) : RV :=
  match toW hs.toList, cellsE m a (64 * 1), cellsE m p 64 with
  | some H, some bs, some ks =>
    match toB bs, toW ks with
    | some B, some K => bif Nat.beq H.length 8 then some (.agg (wordsU (mixL K H B)).toArray, m) else none
    | _, _ => none
  | _, _, _ => none
noncomputable def mixH (args : List Value) (m : VM) : RV :=
  match args with
  | [.agg hs, .slice (some a) 64 c, .pointer (some p)] => mixG hs a p m
  | _ => none
noncomputable def mixHk : Hooks := fun n => bif Nat.beq n n_sha_mix then some mixH else none

theorem wordsU_row (l : List U32) : wordsU l = rowU (fun j => l.getD j 0) l.length := by
  apply List.ext_getElem
  · simp [wordsU, rowU]
  · intro j a b
    rw [rowU_get]
    have : j < l.length := by simpa [wordsU] using a
    simp [wordsU, this]

theorem VR.agg_ints {fid : Nat → Option FuncId} {r : Rr} {a : Array Value} {v' : Value} (h : VR fid r (.agg a) v') (hi : a.toList.all isInt = true) : v' = .agg a := by
  cases h with
  | one h =>
    cases h with
    | one h => cases h with | base h => cases h with | plain hp => cases hp
    | agg h =>
      have := all2_ints h hi
      rw [Array.toList_inj] at this
      rw [this]

theorem all2_refl_ints {fid : Nat → Option FuncId} {r : Rr} : ∀ {l : List Value}, l.all isInt = true → All2 (VR0 fid r) l l
  | [], _ => .nil
  | x :: l, h => by
      simp only [List.all_cons, Bool.and_eq_true] at h
      refine .cons ?_ (all2_refl_ints h.2)
      have h2 := h.1
      cases x <;> try (cases h2; done)
      exact .base (.plain rfl)
theorem wordsU_ints (l : List U32) : (wordsU l).all isInt = true := by simp [wordsU, isInt]
theorem HS.le {fid : Nat → Option FuncId} {h0 : Heap} {r : Rr} {m : VM} {h h' : Heap} (p : HS fid h0 r m h) (x : h.le h') : HS fid h0 r m h' where
  blk := fun b y hy => by obtain ⟨k, z, a, b', c⟩ := p.blk b y hy; exact ⟨k, z, a, x _ _ b', c⟩
  inj := p.inj
  old := fun b y hy => x _ _ (p.old b y hy)
  own := p.own
  fresh := p.fresh
  room := p.room

theorem mixHk_ok (E : EnvT tab) : HooksOk E.toEnv mixHk := by
  intro h0 n f hf
  unfold mixHk at hf
  cases hn : Nat.beq n n_sha_mix with
  | false => rw [hn] at hf; cases hf
  | true =>
    rw [hn] at hf
    simp only [cond_true, Option.some.injEq] at hf
    subst hf
    have hn' := Nat.eq_of_beq_eq_true hn
    subst hn'
    intro args m v m' r h args' p ha e
    unfold mixH at e
    split at e
    · rename_i hs a c q
      unfold mixG at e
      split at e
      · rename_i H bs ks e1 e2 e3
        split at e
        · rename_i B K e4 e5
          cases hl : Nat.beq H.length 8 with
          | false => rw [hl] at e; cases e
          | true =>
            rw [hl] at e
            simp only [cond_true, Option.some.injEq, Prod.mk.injEq] at e
            obtain ⟨rfl, rfl⟩ := e
            have hl8 := Nat.eq_of_beq_eq_true hl
            obtain ⟨g1, g1'⟩ := toW_eq e1
            obtain ⟨g2, g2'⟩ := toB_eq e4
            obtain ⟨g3, g3'⟩ := toW_eq e5
            cases ha with
            | cons a1 ha =>
              cases ha with
              | cons a2 ha =>
                cases ha with
                | cons a3 ha =>
                  cases ha
                  rw [a1.agg_ints g1']
                  obtain ⟨k, c', o, hsp, hk, rfl, hnc, q0, q1⟩ := a2.of_sl
                  obtain ⟨k2, c2, o2, _, hk2, hv2, l', hc1, hc2⟩ := sl_cells p.toHR a2 (Nat.le_refl 64) e2
                  simp only [Value.slice.injEq, Option.some.injEq, Addr.mk.injEq, true_and, and_true] at hv2
                  obtain ⟨⟨hb2, rfl⟩, rfl⟩ := hv2
                  rw [all2_ints hc2 g2', g2] at hc1
                  obtain ⟨kp, hps, hkp, rfl⟩ := a3.of_ptr
                  obtain ⟨lk, hk1, hk3⟩ := cells_sim p.toHR hkp e3
                  rw [all2_ints hk3 g3', g3] at hk1
                  have lB : B.length = 64 := by
                    have := hcells_length hc1
                    simpa using this
                  have lK : K.length = 64 := by
                    have := hcells_length hk1
                    simpa [wordsU] using this
                  have sb : SlB h (.slice (some ⟨k.b, o, none⟩) 64 c') B := by
                    unfold SlB
                    rw [lB]
                    refine .inr ⟨⟨k.b, o, none⟩, c', rfl, hnc, ?_⟩
                    rw [hb2]; exact hc1
                  rw [wordsU_row, lK] at hk1
                  have hsE : hs = (rowU (fun j => H.getD j 0) 8).toArray := by
                    apply Array.toList_inj.1
                    rw [g1, wordsU_row, hl8]
                  rw [hsE]
                  refine (sha_mix_c E h (fun j => H.getD j 0) (fun j => K.getD j 0) B (bk := kp.b) (ok := q.off + kp.sh) hk1 lB sb).mono ?_
                  rintro v' h' ⟨le', rfl⟩
                  refine ⟨r, Rr.le_refl _, p.le le', ?_⟩
                  rw [← mixL_row]
                  exact .one (.agg (all2_refl_ints (wordsU_ints _)))
        · cases e
      · cases e
    · cases e
end Go.Bb
/- The reckoner with streams' blocks, tags' products and sums' blocks at once. -/
namespace Go.Bb
set_option linter.unusedSimpArgs false
set_option linter.unusedVariables false
set_option maxRecDepth 20000

/-! ### blocks of a stream, as lists -/
def quarL (s : List U32) (i j k l : Nat) : List U32 :=
  let q := quarF ⟨s.getD i 0, s.getD j 0, s.getD k 0, s.getD l 0⟩
  (((s.set i q.a).set j q.b).set k q.c).set l q.d
theorem getD_setU {l : List U32} {i x : Nat} {z : U32} (hi : i < l.length) : (l.set i z).getD x 0 = if x = i then z else l.getD x 0 := by
  simp only [List.getD_eq_getElem?_getD]
  by_cases e : x = i
  · subst e; rw [List.getElem?_set_self hi]; simp
  · rw [List.getElem?_set_ne (Ne.symm e), if_neg e]
theorem quarL_len (s : List U32) (i j k l : Nat) : (quarL s i j k l).length = s.length := by simp [quarL]
theorem quarL_get (s : List U32) (hs : s.length = 16) (i j k l : Nat) (hi : i < 16) (hj : j < 16) (hk : k < 16) (hl : l < 16) : (fun x => (quarL s i j k l).getD x 0) = mixQ (fun x => s.getD x 0) i j k l := by
  funext x
  unfold quarL mixQ updU
  simp only
  rw [getD_setU (by simp [hs]; omega), getD_setU (by simp [hs]; omega), getD_setU (by simp [hs]; omega), getD_setU (by omega)]
def dblL (s : List U32) : List U32 :=
  quarL (quarL (quarL (quarL (quarL (quarL (quarL (quarL s 0 4 8 12) 1 5 9 13) 2 6 10 14) 3 7 11 15) 0 5 10 15) 1 6 11 12) 2 7 8 13) 3 4 9 14
theorem dblL_len (s : List U32) : (dblL s).length = s.length := by unfold dblL; simp only [quarL_len]
theorem dblL_get (s : List U32) (hs : s.length = 16) : (fun x => (dblL s).getD x 0) = diagN (colsN (fun x => s.getD x 0) 4) 4 := by
  unfold dblL
  rw [quarL_get _ (by simp only [quarL_len]; exact hs) 3 4 9 14 (by omega) (by omega) (by omega) (by omega)]
  rw [quarL_get _ (by simp only [quarL_len]; exact hs) 2 7 8 13 (by omega) (by omega) (by omega) (by omega)]
  rw [quarL_get _ (by simp only [quarL_len]; exact hs) 1 6 11 12 (by omega) (by omega) (by omega) (by omega)]
  rw [quarL_get _ (by simp only [quarL_len]; exact hs) 0 5 10 15 (by omega) (by omega) (by omega) (by omega)]
  rw [quarL_get _ (by simp only [quarL_len]; exact hs) 3 7 11 15 (by omega) (by omega) (by omega) (by omega)]
  rw [quarL_get _ (by simp only [quarL_len]; exact hs) 2 6 10 14 (by omega) (by omega) (by omega) (by omega)]
  rw [quarL_get _ (by simp only [quarL_len]; exact hs) 1 5 9 13 (by omega) (by omega) (by omega) (by omega)]
  rw [quarL_get _ hs 0 4 8 12 (by omega) (by omega) (by omega) (by omega)]
  rfl
def roundsL (s : List U32) : Nat → List U32
  | 0 => s
  | n + 1 => dblL (roundsL s n)
theorem roundsL_len (s : List U32) : ∀ n, (roundsL s n).length = s.length
  | 0 => rfl
  | n + 1 => by rw [roundsL, dblL_len, roundsL_len s n]
theorem roundsL_get (s : List U32) (hs : s.length = 16) : ∀ n, (fun x => (roundsL s n).getD x 0) = roundsF (fun x => s.getD x 0) n
  | 0 => rfl
  | n + 1 => by
      rw [roundsF, ← roundsL_get s hs n, ← dblL_get _ (by rw [roundsL_len]; exact hs)]
      rfl
def stateL (key : List UInt8) (count : U32) (nonce : List UInt8) : List U32 :=
  [1634760805, 857760878, 2036477234, 1797285236, wordF key 0, wordF key 1, wordF key 2, wordF key 3, wordF key 4, wordF key 5, wordF key 6, wordF key 7, count, wordF nonce 0, wordF nonce 1, wordF nonce 2]
theorem stateL_get (key : List UInt8) (count : U32) (nonce : List UInt8) : (fun x => (stateL key count nonce).getD x 0) = stateF key count nonce := by
  funext x
  unfold stateL stateF
  match x with
  | 0 => rfl
  | 1 => rfl
  | 2 => rfl
  | 3 => rfl
  | 4 => rfl
  | 5 => rfl
  | 6 => rfl
  | 7 => rfl
  | 8 => rfl
  | 9 => rfl
  | 10 => rfl
  | 11 => rfl
  | 12 => rfl
  | 13 => rfl
  | 14 => rfl
  | 15 => rfl
  | n + 16 =>
    rw [if_neg (by omega), if_neg (by omega), if_neg (by omega), if_neg (by omega)]
    simp
/-- The cells of a block. -/
def cellsL (s r : List U32) : List Value := (List.range 64).map fun k => .int .u8 (.ofNat ((r.getD (k / 4) 0 + s.getD (k / 4) 0).toNat / 256 ^ (k % 4) % 256))
def blkL (s : List U32) : List Value := cellsL s (roundsL s 10)
theorem bytesF_nat (f : Nat → U32) (k : Nat) : ((bytesF f k).toNat : Int) = .ofNat ((f (k / 4)).toNat / 256 ^ (k % 4) % 256) := by
  unfold bytesF
  have e : (256 : Nat) ^ (k % 4) = 2 ^ (8 * (k % 4)) := by rw [Nat.pow_mul]
  rw [e]
  have h := (f (k / 4)).isLt
  show (((UInt8.ofNat (((f (k / 4)).setWidth 64 >>> (8 * (k % 4))).toNat)).toNat : Nat) : Int) = _
  rw [UInt8.toNat_ofNat', BitVec.toNat_ushiftRight, BitVec.toNat_setWidth, Nat.shiftRight_eq_div_pow, Nat.mod_eq_of_lt (show (f (k / 4)).toNat < 2 ^ 64 by omega)]
  rfl
theorem blkL_row (key : List UInt8) (count : U32) (nonce : List UInt8) : blkL (stateL key count nonce) = row8 (blockF key count nonce) 64 := by
  unfold blkL cellsL row8 blockF
  apply List.map_congr_left
  intro k _
  rw [bytesF_nat]
  unfold coutF
  have h1 := congrFun (roundsL_get (stateL key count nonce) rfl 10) (k / 4)
  rw [stateL_get] at h1
  have h2 := congrFun (stateL_get key count nonce) (k / 4)
  rw [← h1, ← h2]
theorem VR.int_eq {fid : Nat → Option FuncId} {r : Rr} {k : IntKind} {n : Int} {v' : Value} (h : VR fid r (.int k n) v') : v' = .int k n := by
  cases h with
  | one h =>
    cases h with
    | one h => cases h with | base h => cases h; rfl
theorem blkL_ints (s : List U32) : (blkL s).all isInt = true := by simp [blkL, cellsL, isInt]
noncomputable def blkH (args : List Value) (m : VM) : RV :=
  match args with
  | [.agg ks, .int .u32 (.ofNat c), .agg ns] =>
    match toB ks.toList, toB ns.toList with
    | some K, some N => bif Nat.beq K.length 32 && (Nat.beq N.length 12 && Nat.blt c 4294967296) then some (.agg (blkL (stateL K (BitVec.ofNat 32 c) N)).toArray, m) else none
    | _, _ => none
  | _ => none
/-! ### products of a tag -/
def toQ : List Value → Option (List Nat)
  | [] => some []
  | .int .u64 (.ofNat x) :: t => bif Nat.blt x 18446744073709551616 then (toQ t).map (x :: ·) else none
  | _ => none
theorem toQ_eq : ∀ {l : List Value} {w : List Nat}, toQ l = some w → l = w.map (fun x => Value.int .u64 (.ofNat x)) ∧ l.all isInt = true ∧ ∀ x ∈ w, x < 18446744073709551616
  | [], w, h => by simp only [toQ, Option.some.injEq] at h; subst h; exact ⟨rfl, rfl, by simp⟩
  | x :: t, w, h => by
      unfold toQ at h
      split at h
      · rename_i e; cases e
      · rename_i n t' e
        cases e
        cases hb : Nat.blt n 18446744073709551616 with
        | false => rw [hb] at h; cases h
        | true =>
          rw [hb] at h
          simp only [cond_true, Option.map_eq_some_iff] at h
          obtain ⟨w', h1, rfl⟩ := h
          obtain ⟨g1, g2, g3⟩ := toQ_eq h1
          have hn : n < 18446744073709551616 := Nat.le_of_ble_eq_true hb
          refine ⟨?_, by simp only [List.all_cons, isInt, Bool.true_and]; exact g2, ?_⟩
          · rw [List.map_cons, ← g1]
          · intro x hx
            rcases List.mem_cons.1 hx with rfl | hx
            · exact hn
            · exact g3 x hx
      · cases h
def n3L (x : N3) : List Value := [.int .u64 (.ofNat x.a), .int .u64 (.ofNat x.b), .int .u64 (.ofNat x.c)]
noncomputable def timG (x y : List Nat) (m : VM) : RV :=
  match x, y with
  | [a, b, c], [r0, r1] => some (.agg (n3L (N3.times ⟨a, b, c⟩ r0 r1)).toArray, m)
  | _, _ => none
noncomputable def timH (args : List Value) (m : VM) : RV :=
  match args with
  | [.agg xs, .agg rs] =>
    match toQ xs.toList, toQ rs.toList with
    | some x, some y => timG x y m
    | _, _ => none
  | _ => none
noncomputable def allHk : Hooks := fun n => bif Nat.beq n n_chacha_Block then some blkH else bif Nat.beq n n_poly_num_times then some timH else mixHk n
theorem allHk_ok (E : EnvT tab) : HooksOk E.toEnv allHk := by
  intro h0 n f hf
  unfold allHk at hf
  cases hn : Nat.beq n n_chacha_Block with
  | true =>
    rw [hn] at hf
    simp only [cond_true, Option.some.injEq] at hf
    subst hf
    have hn' := Nat.eq_of_beq_eq_true hn
    subst hn'
    intro args m v m' r h args' p ha e
    unfold blkH at e
    split at e
    · rename_i ks c ns
      split at e
      · rename_i K N e1 e2
        cases hl : (Nat.beq K.length 32 && (Nat.beq N.length 12 && Nat.blt c 4294967296)) with
        | false => rw [hl] at e; cases e
        | true =>
          rw [hl] at e
          simp only [cond_true, Option.some.injEq, Prod.mk.injEq] at e
          obtain ⟨rfl, rfl⟩ := e
          simp only [Bool.and_eq_true] at hl
          have lK := Nat.eq_of_beq_eq_true hl.1
          have lN := Nat.eq_of_beq_eq_true hl.2.1
          have hc : c < 4294967296 := Nat.le_of_ble_eq_true hl.2.2
          obtain ⟨g1, g1'⟩ := toB_eq e1
          obtain ⟨g2, g2'⟩ := toB_eq e2
          cases ha with
          | cons a1 ha =>
            cases ha with
            | cons a2 ha =>
              cases ha with
              | cons a3 ha =>
                cases ha
                rw [a1.agg_ints g1', a2.int_eq, a3.agg_ints g2']
                have ek : ks = (K.map u8V).toArray := by apply Array.toList_inj.1; rw [g1]
                have en : ns = (N.map u8V).toArray := by apply Array.toList_inj.1; rw [g2]
                have ec : (Int.ofNat c) = ((BitVec.ofNat 32 c).toNat : Int) := by
                  have : (BitVec.ofNat 32 c).toNat = c := by simp; omega
                  rw [this]; rfl
                rw [ek, en, ec]
                refine (chacha_Block_c E h K N (BitVec.ofNat 32 c) lK lN).mono ?_
                rintro v' h' ⟨le', rfl⟩
                refine ⟨r, Rr.le_refl _, p.le le', ?_⟩
                rw [← blkL_row]
                exact .one (.agg (all2_refl_ints (blkL_ints _)))
      · cases e
    · cases e
  | false =>
    rw [hn] at hf
    simp only [cond_false] at hf
    cases hn2 : Nat.beq n n_poly_num_times with
    | true =>
      rw [hn2] at hf
      simp only [cond_true, Option.some.injEq] at hf
      subst hf
      have hn' := Nat.eq_of_beq_eq_true hn2
      subst hn'
      intro args m v m' r h args' p ha e
      unfold timH at e
      split at e
      · rename_i xs rs
        split at e
        · rename_i x y e1 e2
          unfold timG at e
          split at e
          · rename_i a b c r0 r1
            simp only [Option.some.injEq, Prod.mk.injEq] at e
            obtain ⟨rfl, rfl⟩ := e
            obtain ⟨g1, g1', g1''⟩ := toQ_eq e1
            obtain ⟨g2, g2', g2''⟩ := toQ_eq e2
            cases ha with
            | cons a1 ha =>
              cases ha with
              | cons a2 ha =>
                cases ha
                rw [a1.agg_ints g1', a2.agg_ints g2']
                have ex : Value.agg xs = (⟨a, b, c⟩ : N3).V := by
                  unfold N3.V
                  congr 1
                  apply Array.toList_inj.1
                  rw [g1]; rfl
                have er : Value.agg rs = .agg #[.int .u64 (r0 : Int), .int .u64 (r1 : Int)] := by
                  congr 1
                  apply Array.toList_inj.1
                  rw [g2]; rfl
                rw [ex, er]
                refine (num_times_c E h ⟨a, b, c⟩ r0 r1 ⟨g1'' a (by simp), g1'' b (by simp), g1'' c (by simp)⟩ (g2'' r0 (by simp)) (g2'' r1 (by simp))).mono ?_
                rintro v' h' ⟨le', rfl⟩
                refine ⟨r, Rr.le_refl _, p.le le', ?_⟩
                exact .one (.agg (all2_refl_ints (by simp [n3L, isInt])))
          · cases e
        · cases e
      · cases e
    | false =>
      rw [hn2] at hf
      simp only [cond_false] at hf
      exact mixHk_ok E h0 n f hf
end Go.Bb
/- What is closed in the statements on sealing. -/
namespace Go.Bb
set_option maxRecDepth 100000
theorem pk6 : isTrue (evF tab allHk 1000 50 n_bandboxlaw6_AeadKnown [] VM.start) = true := by decide +kernel
theorem bandboxlaw6_AeadKnown_c (E : EnvT tab) (W : World) : ACallN E.toEnv n_bandboxlaw6_AeadKnown [] (roHeap W) fun v _ => v = .bool true :=
  (evF_true (allHk_ok E) _ pk6).mono fun _ _ h => h.1
end Go.Bb
