/- My contracts: BbCcha2 BbCcha3 BbCref4f BbCoct5 BbCcha4 BbPtag BbPtag2 BbUt BbPaead BbCref4g BbCaead0. -/
import Derived.Test.YtfbhhmmjfoemkaaBbG3
import Derived.Test.YtfbhhmmjfoemkaaBbM2
import Derived.Test.YtfbhhmmjfoemkaaBbM1
import Derived.Test.YtfbhhmmjfoemkaaBbTab
/- Contracts: streams of keys: the state. -/
namespace Go.Bb
set_option linter.unusedSimpArgs false
set_option linter.unusedVariables false
set_option maxRecDepth 20000
set_option maxHeartbeats 2000000

/-- The first i ones of one row of words, the rest of another. -/
def blendU (p f : Nat → U32) (i : Nat) : Nat → U32 := fun j => if j < i then p j else f j
theorem blendU_0 (p f : Nat → U32) : blendU p f 0 = f := by funext j; simp [blendU]
theorem blendU_lt {p f : Nat → U32} {i j : Nat} (h : j < i) : blendU p f i j = p j := by simp [blendU, h]
theorem blendU_ge {p f : Nat → U32} {i j : Nat} (h : i ≤ j) : blendU p f i j = f j := by simp [blendU]; omega
theorem blendU_step (p f : Nat → U32) (i : Nat) {z : U32} (hz : z = p i) : updU (blendU p f i) i z = blendU p f (i + 1) := by
  subst hz
  funext j
  simp only [updU, blendU]
  by_cases e : j = i
  · subst e; simp
  · rw [if_neg e]
    by_cases e2 : j < i
    · rw [if_pos e2, if_pos (by omega)]
    · rw [if_neg e2, if_neg (by omega)]
theorem rowU_agg {H : Heap} {b n : Nat} {f : Nat → U32} {old : List Value} (h : H b = some (.own 0 old n)) (hl : old.length = n) (hn : 0 < n) : storeV H n (.pointer (some ⟨b, 0, none⟩)) (.agg (rowU f n).toArray) = some (H.set b (.own 0 (rowU f n) n)) :=
  storeV_agg_at h hn (rowU_len _ _) (rowU_one _ _) hl (by omega)
theorem const16_row : Value.int .u32 1634760805 :: Value.int .u32 857760878 :: Value.int .u32 2036477234 :: Value.int .u32 1797285236 :: List.replicate 12 (Value.int .u32 0) = rowU constC 16 := rfl
theorem slice_at {H : Heap} {b n : Nat} {l : List UInt8} (h : H b = some (.own 0 (l.map u8V) n)) (hl : l.length = n) (k : Nat) (hk : k < n) : SlB H (.slice (some (Addr.add ⟨b, 0, none⟩ k)) (n - k) (n - k)) (l.drop k) := by
  have s := own_sl h
  have := Sl.midB (a := k) (b := l.length) s (by omega) (Nat.le_refl _)
  rw [if_neg (by omega)] at this
  simp only [Option.map_some] at this
  rw [hl] at this
  rw [List.take_of_length_le (by simp; omega)] at this
  exact this

theorem constC_0 (n : Nat) : constC (n + 4) = 0 := rfl
theorem const_blend (key nonce : List UInt8) (count : U32) : rowU constC 16 = rowU (blendU (stateF key count nonce) (fun _ => 0) 4) 16 := by
  apply rowU_congr
  intro j hj
  by_cases h : j < 4
  · rw [blendU_lt h]; unfold stateF; rw [if_pos h]
  · rw [blendU_ge (by omega)]
    obtain ⟨k, rfl⟩ : ∃ k, j = k + 4 := ⟨j - 4, by omega⟩
    exact constC_0 k
theorem chacha_state_c (E : EnvT tab) (h : Heap) (key nonce : List UInt8) (count : U32) (hk : key.length = 32) (hn : nonce.length = 12) :
    ACallN E.toEnv n_chacha_state [.agg (key.map u8V).toArray, .int .u32 count.toNat, .agg (nonce.map u8V).toArray] h fun r h' => h.le h' ∧ r = .agg (rowU (stateF key count nonce) 16).toArray := by
  refine acall h_chacha_state ir_chacha_state rfl rfl (wpA_sound ?_)
  unfold ir_chacha_state
  have hk' : (key.map u8V).length = 32 := by simp [hk]
  have hn' : (nonce.map u8V).length = 12 := by simp [hn]
  have cr := const_blend key nonce count
  have g12 : count = stateF key count nonce 12 := rfl
  have gk : ∀ i, i < 8 → wordF key i = stateF key count nonce (4 + i) := by
    intro i hi
    unfold stateF
    rw [if_neg (by omega), if_pos (by omega), show 4 + i - 4 = i by omega]
  have gn : ∀ i, i < 3 → wordF nonce i = stateF key count nonce (13 + i) := by
    intro i hi
    unfold stateF
    rw [if_neg (by omega), if_neg (by omega), if_neg (by omega), if_pos (by omega), show 13 + i - 13 = i by omega]
  generalize hg : stateF key count nonce = g at cr g12 gk gn ⊢
  simp -implicitDefEqProofs only [zB1,zB2,zB3,zB4,zB5,zB6,zB7,zB8,zB9,zB10,zB11,y00,y01,y02,y03,y04,y05,y06,y07,y08,y09,y0a,y0b,y0c,y0d,y0e,y0f,y0g,y0h,y0i,y0j,y0k,y0l,y0m,y0n,y0o,y0p,y0q,y0r,y0s,y0t,y0u,y0v,y0w,y0x,y0y,y0z,y10,y11,y12,y13,y14,y15,y16,y17,y18,y19,y1a,y1b,y1c,y1d,y1e,y1f,y1g,y1h,y1i,y1j,y1k,y1l,y1m,y1n,y1o,y1p,y1q,y1r,retO,retL,retV,z69,allV,allP,z6a,z6d,z6e,z6k,z6l,z6m,binV,eqV,unV,oOpt,reduceIte,reduceCtorEq,Nat.reduceEqDiff,Nat.reduceAdd,Nat.reduceMul,Nat.reduceLT,Nat.reduceSub,Int.reduceLT,Int.reduceLE,Int.reduceEq,Int.reduceNe,Int.reduceSub,Int.reduceAdd,Int.reduceMul,Int.reduceBEq,Int.reduceBNe,Int.reduceGT,Int.reduceGE,Nat.reduceGT,Int.reduceToNat,Int.reduceNeg,Nat.reduceLeDiff,Nat.reduceBEq,Nat.reduceBneDiff,Value.cells, hk', hn', List.length_replicate, List.drop_replicate, const16_row, cr]
  intro b3 hb3 b5 hb5 b6 hb6 b7 hb7
  obtain ⟨n53, hb5'⟩ := Heap.set_none.1 hb5
  obtain ⟨n65, hb6a⟩ := Heap.set_none.1 hb6
  obtain ⟨n63, hb6'⟩ := Heap.set_none.1 hb6a
  have le1 : h.le (((h.set b3 (.own 0 (key.map u8V) 32)).set b5 (.own 0 (nonce.map u8V) 12)).set b6 (.own 0 (List.replicate 16 (.int .u32 0)) 16)) := Heap.le_set (Heap.le_set (Heap.le_set (Heap.le_refl _) hb3 _) hb5' _) hb6' _
  have q3 : (((h.set b3 (.own 0 (key.map u8V) 32)).set b5 (.own 0 (nonce.map u8V) 12)).set b6 (.own 0 (List.replicate 16 (.int .u32 0)) 16)) b3 = some (.own 0 (key.map u8V) 32) := set_keep (set_keep (Heap.set_self _ _ _) (Ne.symm n53)) (Ne.symm n63)
  have q5 : (((h.set b3 (.own 0 (key.map u8V) 32)).set b5 (.own 0 (nonce.map u8V) 12)).set b6 (.own 0 (List.replicate 16 (.int .u32 0)) 16)) b5 = some (.own 0 (nonce.map u8V) 12) := set_keep (Heap.set_self _ _ _) (Ne.symm n65)
  have q6 : (((h.set b3 (.own 0 (key.map u8V) 32)).set b5 (.own 0 (nonce.map u8V) 12)).set b6 (.own 0 (List.replicate 16 (.int .u32 0)) 16)) b6 = some (.own 0 (List.replicate 16 (.int .u32 0)) 16) := Heap.set_self _ _ _
  generalize (((h.set b3 (.own 0 (key.map u8V) 32)).set b5 (.own 0 (nonce.map u8V) 12)).set b6 (.own 0 (List.replicate 16 (.int .u32 0)) 16)) = h1 at le1 q3 q5 q6 hb7 ⊢
  have hb7' := Heap.none_of_le le1 hb7
  have n73 := ne_of_none hb7 q3
  have n75 := ne_of_none hb7 q5
  have n76 := ne_of_none hb7 q6
  have s7 : storeV (h1.set b7 (.own 0 (List.replicate 16 (.int .u32 0)) 16)) 16 (.pointer (some ⟨b7, 0, none⟩)) (.agg (rowU (blendU g (fun _ => 0) 4) 16).toArray) = some (h1.set b7 (.own 0 (rowU (blendU g (fun _ => 0) 4) 16) 16)) := z6q (by omega) (rowU_len _ _) (rowU_one _ _) (by simp) (by omega)
  simp -implicitDefEqProofs only [zB1,zB2,zB3,zB4,zB5,zB6,zB7,zB8,zB9,zB10,zB11,y00,y01,y02,y03,y04,y05,y06,y07,y08,y09,y0a,y0b,y0c,y0d,y0e,y0f,y0g,y0h,y0i,y0j,y0k,y0l,y0m,y0n,y0o,y0p,y0q,y0r,y0s,y0t,y0u,y0v,y0w,y0x,y0y,y0z,y10,y11,y12,y13,y14,y15,y16,y17,y18,y19,y1a,y1b,y1c,y1d,y1e,y1f,y1g,y1h,y1i,y1j,y1k,y1l,y1m,y1n,y1o,y1p,y1q,y1r,retO,retL,retV,z69,allV,allP,z6a,z6d,z6e,z6k,z6l,z6m,binV,eqV,unV,oOpt,reduceIte,reduceCtorEq,Nat.reduceEqDiff,Nat.reduceAdd,Nat.reduceMul,Nat.reduceLT,Nat.reduceSub,Int.reduceLT,Int.reduceLE,Int.reduceEq,Int.reduceNe,Int.reduceSub,Int.reduceAdd,Int.reduceMul,Int.reduceBEq,Int.reduceBNe,Int.reduceGT,Int.reduceGE,Nat.reduceGT,Int.reduceToNat,Int.reduceNeg,Nat.reduceLeDiff,Nat.reduceBEq,Nat.reduceBneDiff,Value.cells, s7]
  unfold ir_chacha_state_11
  simp -implicitDefEqProofs only [zB1,zB2,zB3,zB4,zB5,zB6,zB7,zB8,zB9,zB10,zB11,y00,y01,y02,y03,y04,y05,y06,y07,y08,y09,y0a,y0b,y0c,y0d,y0e,y0f,y0g,y0h,y0i,y0j,y0k,y0l,y0m,y0n,y0o,y0p,y0q,y0r,y0s,y0t,y0u,y0v,y0w,y0x,y0y,y0z,y10,y11,y12,y13,y14,y15,y16,y17,y18,y19,y1a,y1b,y1c,y1d,y1e,y1f,y1g,y1h,y1i,y1j,y1k,y1l,y1m,y1n,y1o,y1p,y1q,y1r,retO,retL,retV,z69,allV,allP,z6a,z6d,z6e,z6k,z6l,z6m,binV,eqV,unV,oOpt,reduceIte,reduceCtorEq,Nat.reduceEqDiff,Nat.reduceAdd,Nat.reduceMul,Nat.reduceLT,Nat.reduceSub,Int.reduceLT,Int.reduceLE,Int.reduceEq,Int.reduceNe,Int.reduceSub,Int.reduceAdd,Int.reduceMul,Int.reduceBEq,Int.reduceBNe,Int.reduceGT,Int.reduceGE,Nat.reduceGT,Int.reduceToNat,Int.reduceNeg,Nat.reduceLeDiff,Nat.reduceBEq,Nat.reduceBneDiff,Value.cells]
  refine wp_loop' (fun m t H => h.le H ∧ ∃ i : Nat, i ≤ 8 ∧ m = 8 - i ∧ t = tl [(1, .int .u32 count.toNat), (3, .pointer (some ⟨b3, 0, none⟩)), (5, .pointer (some ⟨b5, 0, none⟩)), (6, .pointer (some ⟨b6, 0, none⟩)), (7, .pointer (some ⟨b7, 0, none⟩)), (11, .int .i64 i)] ∧
      H b3 = some (.own 0 (key.map u8V) 32) ∧ H b5 = some (.own 0 (nonce.map u8V) 12) ∧ H b6 = some (.own 0 (List.replicate 16 (.int .u32 0)) 16) ∧ H b7 = some (.own 0 (rowU (blendU g (fun _ => 0) (4 + i)) 16) 16)) 8
    ⟨Heap.le_new le1 hb7 _, 0, by omega, rfl, rfl, set_keep q3 n73, set_keep q5 n75, set_keep q6 n76, Heap.set_self _ _ _⟩ ?_
  clear q3 q5 q6 le1
  rintro m t H ⟨leH, i, hi, rfl, rfl, q3, q5, q6, q7⟩
  by_cases hlt : (i : Int) < 8
  · have hi' : i < 8 := by omega
    have w1 : IntKind.i64.wrap (4 + (i : Int)) = ((4 + i : Nat) : Int) := by rw [wrapI (by omega) (by omega)]; rfl
    have w2 : IntKind.i64.wrap (4 * (i : Int)) = ((4 * i : Nat) : Int) := by rw [wrapI (by omega) (by omega)]; rfl
    have w7 : IntKind.i64.wrap ((i : Int) + 1) = ((i + 1 : Nat) : Int) := wrapN (by omega)
    have bd : bnds 32 32 (some (some (.int .i64 ((4 * i : Nat) : Int)))) none none = some (4 * i, 32, 32) := bnds_lo (by omega) (by omega)
    have ne : ¬ (32 = 4 * i) := by omega
    have e0 : (0 : Int) ≤ ((4 + i : Nat) : Int) := by omega
    have e1 : ((4 + i : Nat) : Int) < 16 := by omega
    simp -implicitDefEqProofs only [zB1,zB2,zB3,zB4,zB5,zB6,zB7,zB8,zB9,zB10,zB11,y00,y01,y02,y03,y04,y05,y06,y07,y08,y09,y0a,y0b,y0c,y0d,y0e,y0f,y0g,y0h,y0i,y0j,y0k,y0l,y0m,y0n,y0o,y0p,y0q,y0r,y0s,y0t,y0u,y0v,y0w,y0x,y0y,y0z,y10,y11,y12,y13,y14,y15,y16,y17,y18,y19,y1a,y1b,y1c,y1d,y1e,y1f,y1g,y1h,y1i,y1j,y1k,y1l,y1m,y1n,y1o,y1p,y1q,y1r,retO,retL,retV,z69,allV,allP,z6a,z6d,z6e,z6k,z6l,z6m,binV,eqV,unV,oOpt,reduceIte,reduceCtorEq,Nat.reduceEqDiff,Nat.reduceAdd,Nat.reduceMul,Nat.reduceLT,Nat.reduceSub,Int.reduceLT,Int.reduceLE,Int.reduceEq,Int.reduceNe,Int.reduceSub,Int.reduceAdd,Int.reduceMul,Int.reduceBEq,Int.reduceBNe,Int.reduceGT,Int.reduceGE,Nat.reduceGT,Int.reduceToNat,Int.reduceNeg,Nat.reduceLeDiff,Nat.reduceBEq,Nat.reduceBneDiff,Value.cells, hlt, w1, w2, bd, ne]
    refine (chacha_word_c E _ (key.drop (4 * i)) (by simp; omega) (by have := slice_at q3 hk (4 * i) (by omega); unfold SlB; rw [List.length_drop, hk]; unfold SlB at this; rw [List.length_drop, hk] at this; exact this)).mono ?_
    rintro r H2 ⟨le2, rfl⟩
    have s8 := rowU_store (z := wordF key i) (le2 _ _ q7) (show 4 + i < 16 by omega)
    rw [blendU_step g _ _ (gk i hi')] at s8
    unfold wordF at s8
    simp -implicitDefEqProofs only [zB1,zB2,zB3,zB4,zB5,zB6,zB7,zB8,zB9,zB10,zB11,y00,y01,y02,y03,y04,y05,y06,y07,y08,y09,y0a,y0b,y0c,y0d,y0e,y0f,y0g,y0h,y0i,y0j,y0k,y0l,y0m,y0n,y0o,y0p,y0q,y0r,y0s,y0t,y0u,y0v,y0w,y0x,y0y,y0z,y10,y11,y12,y13,y14,y15,y16,y17,y18,y19,y1a,y1b,y1c,y1d,y1e,y1f,y1g,y1h,y1i,y1j,y1k,y1l,y1m,y1n,y1o,y1p,y1q,y1r,retO,retL,retV,z69,allV,allP,z6a,z6d,z6e,z6k,z6l,z6m,binV,eqV,unV,oOpt,reduceIte,reduceCtorEq,Nat.reduceEqDiff,Nat.reduceAdd,Nat.reduceMul,Nat.reduceLT,Nat.reduceSub,Int.reduceLT,Int.reduceLE,Int.reduceEq,Int.reduceNe,Int.reduceSub,Int.reduceAdd,Int.reduceMul,Int.reduceBEq,Int.reduceBNe,Int.reduceGT,Int.reduceGE,Nat.reduceGT,Int.reduceToNat,Int.reduceNeg,Nat.reduceLeDiff,Nat.reduceBEq,Nat.reduceBneDiff,Value.cells, e0, e1, Int.toNat_natCast, s8, w7]
    exact ⟨_, by omega, Heap.le_set (Heap.le_trans leH le2) hb7' _, i + 1, by omega, rfl, rfl, set_keep (le2 _ _ q3) n73, set_keep (le2 _ _ q5) n75, set_keep (le2 _ _ q6) n76, Heap.set_self _ _ _⟩
  · obtain rfl : i = 8 := by omega
    simp -implicitDefEqProofs only [zB1,zB2,zB3,zB4,zB5,zB6,zB7,zB8,zB9,zB10,zB11,y00,y01,y02,y03,y04,y05,y06,y07,y08,y09,y0a,y0b,y0c,y0d,y0e,y0f,y0g,y0h,y0i,y0j,y0k,y0l,y0m,y0n,y0o,y0p,y0q,y0r,y0s,y0t,y0u,y0v,y0w,y0x,y0y,y0z,y10,y11,y12,y13,y14,y15,y16,y17,y18,y19,y1a,y1b,y1c,y1d,y1e,y1f,y1g,y1h,y1i,y1j,y1k,y1l,y1m,y1n,y1o,y1p,y1q,y1r,retO,retL,retV,z69,allV,allP,z6a,z6d,z6e,z6k,z6l,z6m,binV,eqV,unV,oOpt,reduceIte,reduceCtorEq,Nat.reduceEqDiff,Nat.reduceAdd,Nat.reduceMul,Nat.reduceLT,Nat.reduceSub,Int.reduceLT,Int.reduceLE,Int.reduceEq,Int.reduceNe,Int.reduceSub,Int.reduceAdd,Int.reduceMul,Int.reduceBEq,Int.reduceBNe,Int.reduceGT,Int.reduceGE,Nat.reduceGT,Int.reduceToNat,Int.reduceNeg,Nat.reduceLeDiff,Nat.reduceBEq,Nat.reduceBneDiff,Value.cells, hlt]
    unfold ir_chacha_state_22
    have s8 := rowU_store (z := count) q7 (show 12 < 16 by omega)
    rw [blendU_step g _ 12 g12] at s8
    simp -implicitDefEqProofs only [zB1,zB2,zB3,zB4,zB5,zB6,zB7,zB8,zB9,zB10,zB11,y00,y01,y02,y03,y04,y05,y06,y07,y08,y09,y0a,y0b,y0c,y0d,y0e,y0f,y0g,y0h,y0i,y0j,y0k,y0l,y0m,y0n,y0o,y0p,y0q,y0r,y0s,y0t,y0u,y0v,y0w,y0x,y0y,y0z,y10,y11,y12,y13,y14,y15,y16,y17,y18,y19,y1a,y1b,y1c,y1d,y1e,y1f,y1g,y1h,y1i,y1j,y1k,y1l,y1m,y1n,y1o,y1p,y1q,y1r,retO,retL,retV,z69,allV,allP,z6a,z6d,z6e,z6k,z6l,z6m,binV,eqV,unV,oOpt,reduceIte,reduceCtorEq,Nat.reduceEqDiff,Nat.reduceAdd,Nat.reduceMul,Nat.reduceLT,Nat.reduceSub,Int.reduceLT,Int.reduceLE,Int.reduceEq,Int.reduceNe,Int.reduceSub,Int.reduceAdd,Int.reduceMul,Int.reduceBEq,Int.reduceBNe,Int.reduceGT,Int.reduceGE,Nat.reduceGT,Int.reduceToNat,Int.reduceNeg,Nat.reduceLeDiff,Nat.reduceBEq,Nat.reduceBneDiff,Value.cells, s8]
    refine wp_loop' (fun m t H => h.le H ∧ ∃ i : Nat, i ≤ 3 ∧ m = 3 - i ∧ t = tl [(5, .pointer (some ⟨b5, 0, none⟩)), (6, .pointer (some ⟨b6, 0, none⟩)), (7, .pointer (some ⟨b7, 0, none⟩)), (24, .int .i64 i)] ∧
        H b5 = some (.own 0 (nonce.map u8V) 12) ∧ H b6 = some (.own 0 (List.replicate 16 (.int .u32 0)) 16) ∧ H b7 = some (.own 0 (rowU (blendU g (fun _ => 0) (13 + i)) 16) 16)) 3
      ⟨Heap.le_set leH hb7' _, 0, by omega, rfl, rfl, set_keep q5 n75, set_keep q6 n76, Heap.set_self _ _ _⟩ ?_
    clear q3 q5 q6 q7 leH s8 hlt hi
    rintro m t H ⟨leH, i, hi, rfl, rfl, q5, q6, q7⟩
    by_cases hlt : (i : Int) < 3
    · have hi' : i < 3 := by omega
      have w1 : IntKind.i64.wrap (13 + (i : Int)) = ((13 + i : Nat) : Int) := by rw [wrapI (by omega) (by omega)]; rfl
      have w2 : IntKind.i64.wrap (4 * (i : Int)) = ((4 * i : Nat) : Int) := by rw [wrapI (by omega) (by omega)]; rfl
      have w7 : IntKind.i64.wrap ((i : Int) + 1) = ((i + 1 : Nat) : Int) := wrapN (by omega)
      have bd : bnds 12 12 (some (some (.int .i64 ((4 * i : Nat) : Int)))) none none = some (4 * i, 12, 12) := bnds_lo (by omega) (by omega)
      have ne : ¬ (12 = 4 * i) := by omega
      have e0 : (0 : Int) ≤ ((13 + i : Nat) : Int) := by omega
      have e1 : ((13 + i : Nat) : Int) < 16 := by omega
      simp -implicitDefEqProofs only [zB1,zB2,zB3,zB4,zB5,zB6,zB7,zB8,zB9,zB10,zB11,y00,y01,y02,y03,y04,y05,y06,y07,y08,y09,y0a,y0b,y0c,y0d,y0e,y0f,y0g,y0h,y0i,y0j,y0k,y0l,y0m,y0n,y0o,y0p,y0q,y0r,y0s,y0t,y0u,y0v,y0w,y0x,y0y,y0z,y10,y11,y12,y13,y14,y15,y16,y17,y18,y19,y1a,y1b,y1c,y1d,y1e,y1f,y1g,y1h,y1i,y1j,y1k,y1l,y1m,y1n,y1o,y1p,y1q,y1r,retO,retL,retV,z69,allV,allP,z6a,z6d,z6e,z6k,z6l,z6m,binV,eqV,unV,oOpt,reduceIte,reduceCtorEq,Nat.reduceEqDiff,Nat.reduceAdd,Nat.reduceMul,Nat.reduceLT,Nat.reduceSub,Int.reduceLT,Int.reduceLE,Int.reduceEq,Int.reduceNe,Int.reduceSub,Int.reduceAdd,Int.reduceMul,Int.reduceBEq,Int.reduceBNe,Int.reduceGT,Int.reduceGE,Nat.reduceGT,Int.reduceToNat,Int.reduceNeg,Nat.reduceLeDiff,Nat.reduceBEq,Nat.reduceBneDiff,Value.cells, hlt, w1, w2, bd, ne]
      refine (chacha_word_c E _ (nonce.drop (4 * i)) (by simp; omega) (by have := slice_at q5 hn (4 * i) (by omega); unfold SlB; rw [List.length_drop, hn]; unfold SlB at this; rw [List.length_drop, hn] at this; exact this)).mono ?_
      rintro r H2 ⟨le2, rfl⟩
      have s8 := rowU_store (z := wordF nonce i) (le2 _ _ q7) (show 13 + i < 16 by omega)
      rw [blendU_step g _ _ (gn i hi')] at s8
      unfold wordF at s8
      simp -implicitDefEqProofs only [zB1,zB2,zB3,zB4,zB5,zB6,zB7,zB8,zB9,zB10,zB11,y00,y01,y02,y03,y04,y05,y06,y07,y08,y09,y0a,y0b,y0c,y0d,y0e,y0f,y0g,y0h,y0i,y0j,y0k,y0l,y0m,y0n,y0o,y0p,y0q,y0r,y0s,y0t,y0u,y0v,y0w,y0x,y0y,y0z,y10,y11,y12,y13,y14,y15,y16,y17,y18,y19,y1a,y1b,y1c,y1d,y1e,y1f,y1g,y1h,y1i,y1j,y1k,y1l,y1m,y1n,y1o,y1p,y1q,y1r,retO,retL,retV,z69,allV,allP,z6a,z6d,z6e,z6k,z6l,z6m,binV,eqV,unV,oOpt,reduceIte,reduceCtorEq,Nat.reduceEqDiff,Nat.reduceAdd,Nat.reduceMul,Nat.reduceLT,Nat.reduceSub,Int.reduceLT,Int.reduceLE,Int.reduceEq,Int.reduceNe,Int.reduceSub,Int.reduceAdd,Int.reduceMul,Int.reduceBEq,Int.reduceBNe,Int.reduceGT,Int.reduceGE,Nat.reduceGT,Int.reduceToNat,Int.reduceNeg,Nat.reduceLeDiff,Nat.reduceBEq,Nat.reduceBneDiff,Value.cells, e0, e1, Int.toNat_natCast, s8, w7]
      exact ⟨_, by omega, Heap.le_set (Heap.le_trans leH le2) hb7' _, i + 1, by omega, rfl, rfl, set_keep (le2 _ _ q5) n75, set_keep (le2 _ _ q6) n76, Heap.set_self _ _ _⟩
    · obtain rfl : i = 3 := by omega
      have eg : rowU (blendU g (fun _ => 0) (13 + 3)) 16 = rowU g 16 := rowU_congr fun j hj => blendU_lt hj
      rw [eg] at q7
      have l7 := rowU_cells q7
      have s6 := rowU_agg (f := g) q6 (by simp) (by omega)
      have l6 : hcells (H.set b6 (.own 0 (rowU g 16) 16)) ⟨b6, 0, none⟩ 16 = some (rowU g 16) := z6o (rowU_len _ _)
      simp -implicitDefEqProofs only [zB1,zB2,zB3,zB4,zB5,zB6,zB7,zB8,zB9,zB10,zB11,y00,y01,y02,y03,y04,y05,y06,y07,y08,y09,y0a,y0b,y0c,y0d,y0e,y0f,y0g,y0h,y0i,y0j,y0k,y0l,y0m,y0n,y0o,y0p,y0q,y0r,y0s,y0t,y0u,y0v,y0w,y0x,y0y,y0z,y10,y11,y12,y13,y14,y15,y16,y17,y18,y19,y1a,y1b,y1c,y1d,y1e,y1f,y1g,y1h,y1i,y1j,y1k,y1l,y1m,y1n,y1o,y1p,y1q,y1r,retO,retL,retV,z69,allV,allP,z6a,z6d,z6e,z6k,z6l,z6m,binV,eqV,unV,oOpt,reduceIte,reduceCtorEq,Nat.reduceEqDiff,Nat.reduceAdd,Nat.reduceMul,Nat.reduceLT,Nat.reduceSub,Int.reduceLT,Int.reduceLE,Int.reduceEq,Int.reduceNe,Int.reduceSub,Int.reduceAdd,Int.reduceMul,Int.reduceBEq,Int.reduceBNe,Int.reduceGT,Int.reduceGE,Nat.reduceGT,Int.reduceToNat,Int.reduceNeg,Nat.reduceLeDiff,Nat.reduceBEq,Nat.reduceBneDiff,Value.cells, hlt, l7, s6, l6]
      exact Heap.le_set leH hb6' _
end Go.Bb
/- Contracts: streams of keys: a block. -/
namespace Go.Bb
set_option linter.unusedSimpArgs false
set_option linter.unusedVariables false
set_option maxRecDepth 20000
set_option maxHeartbeats 2000000

theorem row8_splice (f g : Nat → UInt8) (n a m : Nat) (h : a + m ≤ n) : splice (row8 f n) a (((List.range m).map fun k => g (a + k)).map u8V) = row8 (fun j => if a ≤ j ∧ j < a + m then g j else f j) n := by
  apply List.ext_getElem?
  intro j
  rw [getElem?_splice (by rw [row8_len]; omega)]
  simp only [List.length_map, List.length_range]
  by_cases h1 : j < a
  · rw [if_pos h1]
    have hj : j < n := by omega
    rw [List.getElem?_eq_getElem (by rw [row8_len]; exact hj), List.getElem?_eq_getElem (by rw [row8_len]; exact hj), row8_get, row8_get, if_neg (by omega)]
  · rw [if_neg h1]
    by_cases h2 : j < a + m
    · have hj : j < n := by omega
      rw [if_pos h2, List.getElem?_eq_getElem (l := row8 _ n) (by rw [row8_len]; exact hj), row8_get, if_pos (by omega)]
      rw [List.getElem?_eq_getElem (by simp; omega)]
      simp [u8V]
      rw [show a + (j - a) = j by omega]
    · rw [if_neg h2]
      by_cases hj : j < n
      · rw [List.getElem?_eq_getElem (by rw [row8_len]; exact hj), List.getElem?_eq_getElem (by rw [row8_len]; exact hj), row8_get, row8_get, if_neg (by omega)]
      · rw [List.getElem?_eq_none (by rw [row8_len]; omega), List.getElem?_eq_none (by rw [row8_len]; omega)]
def blend8 (p : Nat → UInt8) (i : Nat) : Nat → UInt8 := fun j => if j < i then p j else 0
theorem blend8_0 (p : Nat → UInt8) (n : Nat) : List.replicate n (Value.int .u8 0) = row8 (blend8 p 0) n := by
  apply List.ext_getElem
  · simp [row8]
  · intro j h1 h2
    rw [row8_get]; simp [blend8]
theorem blend8_all (p : Nat → UInt8) (n : Nat) : row8 (blend8 p n) n = row8 p n := row8_congr fun j hj => by simp [blend8, hj]
theorem blend8_put (p : Nat → UInt8) (i n : Nat) (h : 4 * i + 4 ≤ n) : splice (row8 (blend8 p (4 * i)) n) (4 * i) (((List.range 4).map fun k => p (4 * i + k)).map u8V) = row8 (blend8 p (4 * (i + 1))) n := by
  rw [row8_splice _ p n (4 * i) 4 h]
  apply row8_congr
  intro j hj
  unfold blend8
  by_cases h1 : 4 * i ≤ j ∧ j < 4 * i + 4
  · rw [if_pos h1, if_pos (by omega)]
  · rw [if_neg h1]
    by_cases h2 : j < 4 * i
    · rw [if_pos h2, if_pos (by omega)]
    · rw [if_neg h2, if_neg (by omega)]
theorem tmod4 (a : Nat) : Int.tmod (a : Int) 4 = ((a % 4 : Nat) : Int) := by
  rw [Int.tmod_eq_emod_of_nonneg (by omega)]; rfl

theorem chacha_Block_c (E : EnvT tab) (h : Heap) (key nonce : List UInt8) (count : U32) (hk : key.length = 32) (hn : nonce.length = 12) :
    ACallN E.toEnv n_chacha_Block [.agg (key.map u8V).toArray, .int .u32 count.toNat, .agg (nonce.map u8V).toArray] h fun r h' => h.le h' ∧ r = .agg (row8 (blockF key count nonce) 64).toArray := by
  refine acall h_chacha_Block ir_chacha_Block rfl rfl (wpA_sound ?_)
  unfold ir_chacha_Block
  have hk' : (key.map u8V).length = 32 := by simp [hk]
  have hn' : (nonce.map u8V).length = 12 := by simp [hn]
  unfold blockF
  simp -implicitDefEqProofs only [zB1,zB2,zB3,zB4,zB5,zB6,zB7,zB8,zB9,zB10,zB11,y00,y01,y02,y03,y04,y05,y06,y07,y08,y09,y0a,y0b,y0c,y0d,y0e,y0f,y0g,y0h,y0i,y0j,y0k,y0l,y0m,y0n,y0o,y0p,y0q,y0r,y0s,y0t,y0u,y0v,y0w,y0x,y0y,y0z,y10,y11,y12,y13,y14,y15,y16,y17,y18,y19,y1a,y1b,y1c,y1d,y1e,y1f,y1g,y1h,y1i,y1j,y1k,y1l,y1m,y1n,y1o,y1p,y1q,y1r,retO,retL,retV,z69,allV,allP,z6a,z6d,z6e,z6k,z6l,z6m,binV,eqV,unV,oOpt,reduceIte,reduceCtorEq,Nat.reduceEqDiff,Nat.reduceAdd,Nat.reduceMul,Nat.reduceLT,Nat.reduceSub,Int.reduceLT,Int.reduceLE,Int.reduceEq,Int.reduceNe,Int.reduceSub,Int.reduceAdd,Int.reduceMul,Int.reduceBEq,Int.reduceBNe,Int.reduceGT,Int.reduceGE,Nat.reduceGT,Int.reduceToNat,Int.reduceNeg,Nat.reduceLeDiff,Nat.reduceBEq,Nat.reduceBneDiff,Value.cells, hk', hn', List.length_replicate]
  intro b3 hb3 b5 hb5 b6 hb6
  obtain ⟨n53, hb5'⟩ := Heap.set_none.1 hb5
  obtain ⟨n65, hb6a⟩ := Heap.set_none.1 hb6
  obtain ⟨n63, hb6'⟩ := Heap.set_none.1 hb6a
  have le1 : h.le (((h.set b3 (.own 0 (key.map u8V) 32)).set b5 (.own 0 (nonce.map u8V) 12)).set b6 (.own 0 (List.replicate 64 (.int .u8 0)) 64)) := Heap.le_set (Heap.le_set (Heap.le_set (Heap.le_refl _) hb3 _) hb5' _) hb6' _
  have l3 : hcells (((h.set b3 (.own 0 (key.map u8V) 32)).set b5 (.own 0 (nonce.map u8V) 12)).set b6 (.own 0 (List.replicate 64 (.int .u8 0)) 64)) ⟨b3, 0, none⟩ 32 = some (key.map u8V) := hcells_own0 (set_keep (set_keep (Heap.set_self _ _ _) (Ne.symm n53)) (Ne.symm n63)) hk'
  have l5 : hcells (((h.set b3 (.own 0 (key.map u8V) 32)).set b5 (.own 0 (nonce.map u8V) 12)).set b6 (.own 0 (List.replicate 64 (.int .u8 0)) 64)) ⟨b5, 0, none⟩ 12 = some (nonce.map u8V) := hcells_own0 (set_keep (Heap.set_self _ _ _) (Ne.symm n65)) hn'
  have q6 : (((h.set b3 (.own 0 (key.map u8V) 32)).set b5 (.own 0 (nonce.map u8V) 12)).set b6 (.own 0 (List.replicate 64 (.int .u8 0)) 64)) b6 = some (.own 0 (List.replicate 64 (.int .u8 0)) 64) := Heap.set_self _ _ _
  generalize (((h.set b3 (.own 0 (key.map u8V) 32)).set b5 (.own 0 (nonce.map u8V) 12)).set b6 (.own 0 (List.replicate 64 (.int .u8 0)) 64)) = h1 at le1 l3 l5 q6 ⊢
  try simp -implicitDefEqProofs only [zB1,zB2,zB3,zB4,zB5,zB6,zB7,zB8,zB9,zB10,zB11,y00,y01,y02,y03,y04,y05,y06,y07,y08,y09,y0a,y0b,y0c,y0d,y0e,y0f,y0g,y0h,y0i,y0j,y0k,y0l,y0m,y0n,y0o,y0p,y0q,y0r,y0s,y0t,y0u,y0v,y0w,y0x,y0y,y0z,y10,y11,y12,y13,y14,y15,y16,y17,y18,y19,y1a,y1b,y1c,y1d,y1e,y1f,y1g,y1h,y1i,y1j,y1k,y1l,y1m,y1n,y1o,y1p,y1q,y1r,retO,retL,retV,z69,allV,allP,z6a,z6d,z6e,z6k,z6l,z6m,binV,eqV,unV,oOpt,reduceIte,reduceCtorEq,Nat.reduceEqDiff,Nat.reduceAdd,Nat.reduceMul,Nat.reduceLT,Nat.reduceSub,Int.reduceLT,Int.reduceLE,Int.reduceEq,Int.reduceNe,Int.reduceSub,Int.reduceAdd,Int.reduceMul,Int.reduceBEq,Int.reduceBNe,Int.reduceGT,Int.reduceGE,Nat.reduceGT,Int.reduceToNat,Int.reduceNeg,Nat.reduceLeDiff,Nat.reduceBEq,Nat.reduceBneDiff,Value.cells, l3, l5]
  refine (chacha_state_c E _ key nonce count hk hn).mono ?_
  rintro r h2 ⟨le2, rfl⟩
  generalize stateF key count nonce = st
  have le02 := Heap.le_trans le1 le2
  have q62 := le2 _ _ q6
  simp -implicitDefEqProofs only [zB1,zB2,zB3,zB4,zB5,zB6,zB7,zB8,zB9,zB10,zB11,y00,y01,y02,y03,y04,y05,y06,y07,y08,y09,y0a,y0b,y0c,y0d,y0e,y0f,y0g,y0h,y0i,y0j,y0k,y0l,y0m,y0n,y0o,y0p,y0q,y0r,y0s,y0t,y0u,y0v,y0w,y0x,y0y,y0z,y10,y11,y12,y13,y14,y15,y16,y17,y18,y19,y1a,y1b,y1c,y1d,y1e,y1f,y1g,y1h,y1i,y1j,y1k,y1l,y1m,y1n,y1o,y1p,y1q,y1r,retO,retL,retV,z69,allV,allP,z6a,z6d,z6e,z6k,z6l,z6m,binV,eqV,unV,oOpt,reduceIte,reduceCtorEq,Nat.reduceEqDiff,Nat.reduceAdd,Nat.reduceMul,Nat.reduceLT,Nat.reduceSub,Int.reduceLT,Int.reduceLE,Int.reduceEq,Int.reduceNe,Int.reduceSub,Int.reduceAdd,Int.reduceMul,Int.reduceBEq,Int.reduceBNe,Int.reduceGT,Int.reduceGE,Nat.reduceGT,Int.reduceToNat,Int.reduceNeg,Nat.reduceLeDiff,Nat.reduceBEq,Nat.reduceBneDiff,Value.cells, List.length_replicate]
  intro b7 hb7
  have s7 : storeV (h2.set b7 (.own 0 (List.replicate 16 (.int .u32 0)) 16)) 16 (.pointer (some ⟨b7, 0, none⟩)) (.agg (rowU st 16).toArray) = some (h2.set b7 (.own 0 (rowU st 16) 16)) := z6q (by omega) (rowU_len _ _) (rowU_one _ _) (by simp) (by omega)
  have le7 := Heap.le_new le02 hb7 (.own 0 (rowU st 16) 16)
  have q67 := set_new (X := .own 0 (rowU st 16) 16) hb7 q62
  have q77 := Heap.set_self h2 b7 (.own 0 (rowU st 16) 16)
  have l7 := rowU_cells q77
  simp -implicitDefEqProofs only [zB1,zB2,zB3,zB4,zB5,zB6,zB7,zB8,zB9,zB10,zB11,y00,y01,y02,y03,y04,y05,y06,y07,y08,y09,y0a,y0b,y0c,y0d,y0e,y0f,y0g,y0h,y0i,y0j,y0k,y0l,y0m,y0n,y0o,y0p,y0q,y0r,y0s,y0t,y0u,y0v,y0w,y0x,y0y,y0z,y10,y11,y12,y13,y14,y15,y16,y17,y18,y19,y1a,y1b,y1c,y1d,y1e,y1f,y1g,y1h,y1i,y1j,y1k,y1l,y1m,y1n,y1o,y1p,y1q,y1r,retO,retL,retV,z69,allV,allP,z6a,z6d,z6e,z6k,z6l,z6m,binV,eqV,unV,oOpt,reduceIte,reduceCtorEq,Nat.reduceEqDiff,Nat.reduceAdd,Nat.reduceMul,Nat.reduceLT,Nat.reduceSub,Int.reduceLT,Int.reduceLE,Int.reduceEq,Int.reduceNe,Int.reduceSub,Int.reduceAdd,Int.reduceMul,Int.reduceBEq,Int.reduceBNe,Int.reduceGT,Int.reduceGE,Nat.reduceGT,Int.reduceToNat,Int.reduceNeg,Nat.reduceLeDiff,Nat.reduceBEq,Nat.reduceBneDiff,Value.cells, s7, l7, List.length_replicate]
  generalize (h2.set b7 (.own 0 (rowU st 16) 16)) = h3 at le7 q67 q77 ⊢
  intro b8 hb8
  have s8 : storeV (h3.set b8 (.own 0 (List.replicate 16 (.int .u32 0)) 16)) 16 (.pointer (some ⟨b8, 0, none⟩)) (.agg (rowU st 16).toArray) = some (h3.set b8 (.own 0 (rowU st 16) 16)) := z6q (by omega) (rowU_len _ _) (rowU_one _ _) (by simp) (by omega)
  have le8 := Heap.le_new le7 hb8 (.own 0 (rowU st 16) 16)
  have q68 := set_new (X := .own 0 (rowU st 16) 16) hb8 q67
  have q78 := set_new (X := .own 0 (rowU st 16) 16) hb8 q77
  have q88 := Heap.set_self h3 b8 (.own 0 (rowU st 16) 16)
  have n68 := ne_of_none hb8 q67
  have n78 := ne_of_none hb8 q77
  have hb8' := Heap.none_of_le le7 hb8
  simp -implicitDefEqProofs only [zB1,zB2,zB3,zB4,zB5,zB6,zB7,zB8,zB9,zB10,zB11,y00,y01,y02,y03,y04,y05,y06,y07,y08,y09,y0a,y0b,y0c,y0d,y0e,y0f,y0g,y0h,y0i,y0j,y0k,y0l,y0m,y0n,y0o,y0p,y0q,y0r,y0s,y0t,y0u,y0v,y0w,y0x,y0y,y0z,y10,y11,y12,y13,y14,y15,y16,y17,y18,y19,y1a,y1b,y1c,y1d,y1e,y1f,y1g,y1h,y1i,y1j,y1k,y1l,y1m,y1n,y1o,y1p,y1q,y1r,retO,retL,retV,z69,allV,allP,z6a,z6d,z6e,z6k,z6l,z6m,binV,eqV,unV,oOpt,reduceIte,reduceCtorEq,Nat.reduceEqDiff,Nat.reduceAdd,Nat.reduceMul,Nat.reduceLT,Nat.reduceSub,Int.reduceLT,Int.reduceLE,Int.reduceEq,Int.reduceNe,Int.reduceSub,Int.reduceAdd,Int.reduceMul,Int.reduceBEq,Int.reduceBNe,Int.reduceGT,Int.reduceGE,Nat.reduceGT,Int.reduceToNat,Int.reduceNeg,Nat.reduceLeDiff,Nat.reduceBEq,Nat.reduceBneDiff,Value.cells, s8]
  generalize (h3.set b8 (.own 0 (rowU st 16) 16)) = h4 at le8 q68 q78 q88 ⊢
  refine wp_loop' (fun m t H => h.le H ∧ ∃ n : Nat, n ≤ 10 ∧ m = 10 - n ∧ t = tl [(6, .pointer (some ⟨b6, 0, none⟩)), (7, .pointer (some ⟨b7, 0, none⟩)), (8, .pointer (some ⟨b8, 0, none⟩)), (18, .int .i64 n)] ∧
      H b6 = some (.own 0 (List.replicate 64 (.int .u8 0)) 64) ∧ H b7 = some (.own 0 (rowU st 16) 16) ∧ H b8 = some (.own 0 (rowU (roundsF st n) 16) 16)) 10
    ⟨le8, 0, by omega, rfl, rfl, q68, q78, q88⟩ ?_
  clear q68 q78 q88 le8 l7 l3 l5
  rintro m t H ⟨leH, n, hn10, rfl, rfl, q6, q7, q8⟩
  by_cases hlt : (n : Int) < 10
  · simp -implicitDefEqProofs only [zB1,zB2,zB3,zB4,zB5,zB6,zB7,zB8,zB9,zB10,zB11,y00,y01,y02,y03,y04,y05,y06,y07,y08,y09,y0a,y0b,y0c,y0d,y0e,y0f,y0g,y0h,y0i,y0j,y0k,y0l,y0m,y0n,y0o,y0p,y0q,y0r,y0s,y0t,y0u,y0v,y0w,y0x,y0y,y0z,y10,y11,y12,y13,y14,y15,y16,y17,y18,y19,y1a,y1b,y1c,y1d,y1e,y1f,y1g,y1h,y1i,y1j,y1k,y1l,y1m,y1n,y1o,y1p,y1q,y1r,retO,retL,retV,z69,allV,allP,z6a,z6d,z6e,z6k,z6l,z6m,binV,eqV,unV,oOpt,reduceIte,reduceCtorEq,Nat.reduceEqDiff,Nat.reduceAdd,Nat.reduceMul,Nat.reduceLT,Nat.reduceSub,Int.reduceLT,Int.reduceLE,Int.reduceEq,Int.reduceNe,Int.reduceSub,Int.reduceAdd,Int.reduceMul,Int.reduceBEq,Int.reduceBNe,Int.reduceGT,Int.reduceGE,Nat.reduceGT,Int.reduceToNat,Int.reduceNeg,Nat.reduceLeDiff,Nat.reduceBEq,Nat.reduceBneDiff,Value.cells, hlt]
    unfold ir_chacha_Block_q
    simp -implicitDefEqProofs only [zB1,zB2,zB3,zB4,zB5,zB6,zB7,zB8,zB9,zB10,zB11,y00,y01,y02,y03,y04,y05,y06,y07,y08,y09,y0a,y0b,y0c,y0d,y0e,y0f,y0g,y0h,y0i,y0j,y0k,y0l,y0m,y0n,y0o,y0p,y0q,y0r,y0s,y0t,y0u,y0v,y0w,y0x,y0y,y0z,y10,y11,y12,y13,y14,y15,y16,y17,y18,y19,y1a,y1b,y1c,y1d,y1e,y1f,y1g,y1h,y1i,y1j,y1k,y1l,y1m,y1n,y1o,y1p,y1q,y1r,retO,retL,retV,z69,allV,allP,z6a,z6d,z6e,z6k,z6l,z6m,binV,eqV,unV,oOpt,reduceIte,reduceCtorEq,Nat.reduceEqDiff,Nat.reduceAdd,Nat.reduceMul,Nat.reduceLT,Nat.reduceSub,Int.reduceLT,Int.reduceLE,Int.reduceEq,Int.reduceNe,Int.reduceSub,Int.reduceAdd,Int.reduceMul,Int.reduceBEq,Int.reduceBNe,Int.reduceGT,Int.reduceGE,Nat.reduceGT,Int.reduceToNat,Int.reduceNeg,Nat.reduceLeDiff,Nat.reduceBEq,Nat.reduceBneDiff,Value.cells]
    refine wp_loop' (fun m t H => h.le H ∧ ∃ i : Nat, i ≤ 4 ∧ m = 4 - i ∧ t = tl [(6, .pointer (some ⟨b6, 0, none⟩)), (7, .pointer (some ⟨b7, 0, none⟩)), (8, .pointer (some ⟨b8, 0, none⟩)), (18, .int .i64 n), (20, .int .i64 i)] ∧
        H b6 = some (.own 0 (List.replicate 64 (.int .u8 0)) 64) ∧ H b7 = some (.own 0 (rowU st 16) 16) ∧ H b8 = some (.own 0 (rowU (colsN (roundsF st n) i) 16) 16)) 4
      ⟨leH, 0, by omega, rfl, rfl, q6, q7, q8⟩ ?_
    clear q6 q7 q8 leH
    rintro m t H ⟨leH, i, hi, rfl, rfl, q6, q7, q8⟩
    by_cases hli : (i : Int) < 4
    · have w1 : IntKind.i64.wrap (4 + (i : Int)) = ((4 + i : Nat) : Int) := by rw [wrapI (by omega) (by omega)]; rfl
      have w2 : IntKind.i64.wrap (8 + (i : Int)) = ((8 + i : Nat) : Int) := by rw [wrapI (by omega) (by omega)]; rfl
      have w3 : IntKind.i64.wrap (12 + (i : Int)) = ((12 + i : Nat) : Int) := by rw [wrapI (by omega) (by omega)]; rfl
      have w7 : IntKind.i64.wrap ((i : Int) + 1) = ((i + 1 : Nat) : Int) := wrapN (by omega)
      simp -implicitDefEqProofs only [zB1,zB2,zB3,zB4,zB5,zB6,zB7,zB8,zB9,zB10,zB11,y00,y01,y02,y03,y04,y05,y06,y07,y08,y09,y0a,y0b,y0c,y0d,y0e,y0f,y0g,y0h,y0i,y0j,y0k,y0l,y0m,y0n,y0o,y0p,y0q,y0r,y0s,y0t,y0u,y0v,y0w,y0x,y0y,y0z,y10,y11,y12,y13,y14,y15,y16,y17,y18,y19,y1a,y1b,y1c,y1d,y1e,y1f,y1g,y1h,y1i,y1j,y1k,y1l,y1m,y1n,y1o,y1p,y1q,y1r,retO,retL,retV,z69,allV,allP,z6a,z6d,z6e,z6k,z6l,z6m,binV,eqV,unV,oOpt,reduceIte,reduceCtorEq,Nat.reduceEqDiff,Nat.reduceAdd,Nat.reduceMul,Nat.reduceLT,Nat.reduceSub,Int.reduceLT,Int.reduceLE,Int.reduceEq,Int.reduceNe,Int.reduceSub,Int.reduceAdd,Int.reduceMul,Int.reduceBEq,Int.reduceBNe,Int.reduceGT,Int.reduceGE,Nat.reduceGT,Int.reduceToNat,Int.reduceNeg,Nat.reduceLeDiff,Nat.reduceBEq,Nat.reduceBneDiff,Value.cells, hli, w1, w2, w3]
      refine (chacha_mix_c E q8 i (4 + i) (8 + i) (12 + i) (by omega) (by omega) (by omega) (by omega)).mono ?_
      rintro r H' ⟨rfl, rfl⟩
      simp -implicitDefEqProofs only [zB1,zB2,zB3,zB4,zB5,zB6,zB7,zB8,zB9,zB10,zB11,y00,y01,y02,y03,y04,y05,y06,y07,y08,y09,y0a,y0b,y0c,y0d,y0e,y0f,y0g,y0h,y0i,y0j,y0k,y0l,y0m,y0n,y0o,y0p,y0q,y0r,y0s,y0t,y0u,y0v,y0w,y0x,y0y,y0z,y10,y11,y12,y13,y14,y15,y16,y17,y18,y19,y1a,y1b,y1c,y1d,y1e,y1f,y1g,y1h,y1i,y1j,y1k,y1l,y1m,y1n,y1o,y1p,y1q,y1r,retO,retL,retV,z69,allV,allP,z6a,z6d,z6e,z6k,z6l,z6m,binV,eqV,unV,oOpt,reduceIte,reduceCtorEq,Nat.reduceEqDiff,Nat.reduceAdd,Nat.reduceMul,Nat.reduceLT,Nat.reduceSub,Int.reduceLT,Int.reduceLE,Int.reduceEq,Int.reduceNe,Int.reduceSub,Int.reduceAdd,Int.reduceMul,Int.reduceBEq,Int.reduceBNe,Int.reduceGT,Int.reduceGE,Nat.reduceGT,Int.reduceToNat,Int.reduceNeg,Nat.reduceLeDiff,Nat.reduceBEq,Nat.reduceBneDiff,Value.cells, w7]
      exact ⟨_, by omega, Heap.le_set leH hb8' _, i + 1, by omega, rfl, rfl, set_keep q6 n68, set_keep q7 n78, Heap.set_self _ _ _⟩
    · obtain rfl : i = 4 := by omega
      simp -implicitDefEqProofs only [zB1,zB2,zB3,zB4,zB5,zB6,zB7,zB8,zB9,zB10,zB11,y00,y01,y02,y03,y04,y05,y06,y07,y08,y09,y0a,y0b,y0c,y0d,y0e,y0f,y0g,y0h,y0i,y0j,y0k,y0l,y0m,y0n,y0o,y0p,y0q,y0r,y0s,y0t,y0u,y0v,y0w,y0x,y0y,y0z,y10,y11,y12,y13,y14,y15,y16,y17,y18,y19,y1a,y1b,y1c,y1d,y1e,y1f,y1g,y1h,y1i,y1j,y1k,y1l,y1m,y1n,y1o,y1p,y1q,y1r,retO,retL,retV,z69,allV,allP,z6a,z6d,z6e,z6k,z6l,z6m,binV,eqV,unV,oOpt,reduceIte,reduceCtorEq,Nat.reduceEqDiff,Nat.reduceAdd,Nat.reduceMul,Nat.reduceLT,Nat.reduceSub,Int.reduceLT,Int.reduceLE,Int.reduceEq,Int.reduceNe,Int.reduceSub,Int.reduceAdd,Int.reduceMul,Int.reduceBEq,Int.reduceBNe,Int.reduceGT,Int.reduceGE,Nat.reduceGT,Int.reduceToNat,Int.reduceNeg,Nat.reduceLeDiff,Nat.reduceBEq,Nat.reduceBneDiff,Value.cells, hli]
      unfold ir_chacha_Block_33
      simp -implicitDefEqProofs only [zB1,zB2,zB3,zB4,zB5,zB6,zB7,zB8,zB9,zB10,zB11,y00,y01,y02,y03,y04,y05,y06,y07,y08,y09,y0a,y0b,y0c,y0d,y0e,y0f,y0g,y0h,y0i,y0j,y0k,y0l,y0m,y0n,y0o,y0p,y0q,y0r,y0s,y0t,y0u,y0v,y0w,y0x,y0y,y0z,y10,y11,y12,y13,y14,y15,y16,y17,y18,y19,y1a,y1b,y1c,y1d,y1e,y1f,y1g,y1h,y1i,y1j,y1k,y1l,y1m,y1n,y1o,y1p,y1q,y1r,retO,retL,retV,z69,allV,allP,z6a,z6d,z6e,z6k,z6l,z6m,binV,eqV,unV,oOpt,reduceIte,reduceCtorEq,Nat.reduceEqDiff,Nat.reduceAdd,Nat.reduceMul,Nat.reduceLT,Nat.reduceSub,Int.reduceLT,Int.reduceLE,Int.reduceEq,Int.reduceNe,Int.reduceSub,Int.reduceAdd,Int.reduceMul,Int.reduceBEq,Int.reduceBNe,Int.reduceGT,Int.reduceGE,Nat.reduceGT,Int.reduceToNat,Int.reduceNeg,Nat.reduceLeDiff,Nat.reduceBEq,Nat.reduceBneDiff,Value.cells]
      refine wp_loop' (fun m t H => h.le H ∧ ∃ i : Nat, i ≤ 4 ∧ m = 4 - i ∧ t = tl [(6, .pointer (some ⟨b6, 0, none⟩)), (7, .pointer (some ⟨b7, 0, none⟩)), (8, .pointer (some ⟨b8, 0, none⟩)), (18, .int .i64 n), (32, .int .i64 i)] ∧
          H b6 = some (.own 0 (List.replicate 64 (.int .u8 0)) 64) ∧ H b7 = some (.own 0 (rowU st 16) 16) ∧ H b8 = some (.own 0 (rowU (diagN (colsN (roundsF st n) 4) i) 16) 16)) 4
        ⟨leH, 0, by omega, rfl, rfl, q6, q7, q8⟩ ?_
      clear q6 q7 q8 leH hli hi
      rintro m t H ⟨leH, i, hi, rfl, rfl, q6, q7, q8⟩
      by_cases hli : (i : Int) < 4
      · have w7 : IntKind.i64.wrap ((i : Int) + 1) = ((i + 1 : Nat) : Int) := wrapN (by omega)
        have w8 : IntKind.i64.wrap ((i : Int) + 2) = ((i + 2 : Nat) : Int) := by rw [wrapI (by omega) (by omega)]; rfl
        have w9 : IntKind.i64.wrap ((i : Int) + 3) = ((i + 3 : Nat) : Int) := by rw [wrapI (by omega) (by omega)]; rfl
        have r1 : IntKind.i64.wrap (((i + 1) % 4 : Nat) : Int) = (((i + 1) % 4 : Nat) : Int) := wrapI (by omega) (by omega)
        have r2 : IntKind.i64.wrap (((i + 2) % 4 : Nat) : Int) = (((i + 2) % 4 : Nat) : Int) := wrapI (by omega) (by omega)
        have r3 : IntKind.i64.wrap (((i + 3) % 4 : Nat) : Int) = (((i + 3) % 4 : Nat) : Int) := wrapI (by omega) (by omega)
        have w1 : IntKind.i64.wrap (4 + (((i + 1) % 4 : Nat) : Int)) = ((4 + (i + 1) % 4 : Nat) : Int) := by rw [wrapI (by omega) (by omega)]; rfl
        have w2 : IntKind.i64.wrap (8 + (((i + 2) % 4 : Nat) : Int)) = ((8 + (i + 2) % 4 : Nat) : Int) := by rw [wrapI (by omega) (by omega)]; rfl
        have w3 : IntKind.i64.wrap (12 + (((i + 3) % 4 : Nat) : Int)) = ((12 + (i + 3) % 4 : Nat) : Int) := by rw [wrapI (by omega) (by omega)]; rfl
        simp -implicitDefEqProofs only [zB1,zB2,zB3,zB4,zB5,zB6,zB7,zB8,zB9,zB10,zB11,y00,y01,y02,y03,y04,y05,y06,y07,y08,y09,y0a,y0b,y0c,y0d,y0e,y0f,y0g,y0h,y0i,y0j,y0k,y0l,y0m,y0n,y0o,y0p,y0q,y0r,y0s,y0t,y0u,y0v,y0w,y0x,y0y,y0z,y10,y11,y12,y13,y14,y15,y16,y17,y18,y19,y1a,y1b,y1c,y1d,y1e,y1f,y1g,y1h,y1i,y1j,y1k,y1l,y1m,y1n,y1o,y1p,y1q,y1r,retO,retL,retV,z69,allV,allP,z6a,z6d,z6e,z6k,z6l,z6m,binV,eqV,unV,oOpt,reduceIte,reduceCtorEq,Nat.reduceEqDiff,Nat.reduceAdd,Nat.reduceMul,Nat.reduceLT,Nat.reduceSub,Int.reduceLT,Int.reduceLE,Int.reduceEq,Int.reduceNe,Int.reduceSub,Int.reduceAdd,Int.reduceMul,Int.reduceBEq,Int.reduceBNe,Int.reduceGT,Int.reduceGE,Nat.reduceGT,Int.reduceToNat,Int.reduceNeg,Nat.reduceLeDiff,Nat.reduceBEq,Nat.reduceBneDiff,Value.cells, hli, w7, w8, w9, tmod4, r1, r2, r3, w1, w2, w3]
        refine (chacha_mix_c E q8 i (4 + (i + 1) % 4) (8 + (i + 2) % 4) (12 + (i + 3) % 4) (by omega) (by omega) (by omega) (by omega)).mono ?_
        rintro r H' ⟨rfl, rfl⟩
        simp -implicitDefEqProofs only [zB1,zB2,zB3,zB4,zB5,zB6,zB7,zB8,zB9,zB10,zB11,y00,y01,y02,y03,y04,y05,y06,y07,y08,y09,y0a,y0b,y0c,y0d,y0e,y0f,y0g,y0h,y0i,y0j,y0k,y0l,y0m,y0n,y0o,y0p,y0q,y0r,y0s,y0t,y0u,y0v,y0w,y0x,y0y,y0z,y10,y11,y12,y13,y14,y15,y16,y17,y18,y19,y1a,y1b,y1c,y1d,y1e,y1f,y1g,y1h,y1i,y1j,y1k,y1l,y1m,y1n,y1o,y1p,y1q,y1r,retO,retL,retV,z69,allV,allP,z6a,z6d,z6e,z6k,z6l,z6m,binV,eqV,unV,oOpt,reduceIte,reduceCtorEq,Nat.reduceEqDiff,Nat.reduceAdd,Nat.reduceMul,Nat.reduceLT,Nat.reduceSub,Int.reduceLT,Int.reduceLE,Int.reduceEq,Int.reduceNe,Int.reduceSub,Int.reduceAdd,Int.reduceMul,Int.reduceBEq,Int.reduceBNe,Int.reduceGT,Int.reduceGE,Nat.reduceGT,Int.reduceToNat,Int.reduceNeg,Nat.reduceLeDiff,Nat.reduceBEq,Nat.reduceBneDiff,Value.cells, w7]
        exact ⟨_, by omega, Heap.le_set leH hb8' _, i + 1, by omega, rfl, rfl, set_keep q6 n68, set_keep q7 n78, Heap.set_self _ _ _⟩
      · obtain rfl : i = 4 := by omega
        have w7 : IntKind.i64.wrap ((n : Int) + 1) = ((n + 1 : Nat) : Int) := wrapN (by omega)
        simp -implicitDefEqProofs only [zB1,zB2,zB3,zB4,zB5,zB6,zB7,zB8,zB9,zB10,zB11,y00,y01,y02,y03,y04,y05,y06,y07,y08,y09,y0a,y0b,y0c,y0d,y0e,y0f,y0g,y0h,y0i,y0j,y0k,y0l,y0m,y0n,y0o,y0p,y0q,y0r,y0s,y0t,y0u,y0v,y0w,y0x,y0y,y0z,y10,y11,y12,y13,y14,y15,y16,y17,y18,y19,y1a,y1b,y1c,y1d,y1e,y1f,y1g,y1h,y1i,y1j,y1k,y1l,y1m,y1n,y1o,y1p,y1q,y1r,retO,retL,retV,z69,allV,allP,z6a,z6d,z6e,z6k,z6l,z6m,binV,eqV,unV,oOpt,reduceIte,reduceCtorEq,Nat.reduceEqDiff,Nat.reduceAdd,Nat.reduceMul,Nat.reduceLT,Nat.reduceSub,Int.reduceLT,Int.reduceLE,Int.reduceEq,Int.reduceNe,Int.reduceSub,Int.reduceAdd,Int.reduceMul,Int.reduceBEq,Int.reduceBNe,Int.reduceGT,Int.reduceGE,Nat.reduceGT,Int.reduceToNat,Int.reduceNeg,Nat.reduceLeDiff,Nat.reduceBEq,Nat.reduceBneDiff,Value.cells, hli, w7]
        exact ⟨_, by omega, leH, n + 1, by omega, rfl, rfl, q6, q7, q8⟩
  · obtain rfl : n = 10 := by omega
    simp -implicitDefEqProofs only [zB1,zB2,zB3,zB4,zB5,zB6,zB7,zB8,zB9,zB10,zB11,y00,y01,y02,y03,y04,y05,y06,y07,y08,y09,y0a,y0b,y0c,y0d,y0e,y0f,y0g,y0h,y0i,y0j,y0k,y0l,y0m,y0n,y0o,y0p,y0q,y0r,y0s,y0t,y0u,y0v,y0w,y0x,y0y,y0z,y10,y11,y12,y13,y14,y15,y16,y17,y18,y19,y1a,y1b,y1c,y1d,y1e,y1f,y1g,y1h,y1i,y1j,y1k,y1l,y1m,y1n,y1o,y1p,y1q,y1r,retO,retL,retV,z69,allV,allP,z6a,z6d,z6e,z6k,z6l,z6m,binV,eqV,unV,oOpt,reduceIte,reduceCtorEq,Nat.reduceEqDiff,Nat.reduceAdd,Nat.reduceMul,Nat.reduceLT,Nat.reduceSub,Int.reduceLT,Int.reduceLE,Int.reduceEq,Int.reduceNe,Int.reduceSub,Int.reduceAdd,Int.reduceMul,Int.reduceBEq,Int.reduceBNe,Int.reduceGT,Int.reduceGE,Nat.reduceGT,Int.reduceToNat,Int.reduceNeg,Nat.reduceLeDiff,Nat.reduceBEq,Nat.reduceBneDiff,Value.cells, hlt]
    unfold ir_chacha_Block_q
    simp -implicitDefEqProofs only [zB1,zB2,zB3,zB4,zB5,zB6,zB7,zB8,zB9,zB10,zB11,y00,y01,y02,y03,y04,y05,y06,y07,y08,y09,y0a,y0b,y0c,y0d,y0e,y0f,y0g,y0h,y0i,y0j,y0k,y0l,y0m,y0n,y0o,y0p,y0q,y0r,y0s,y0t,y0u,y0v,y0w,y0x,y0y,y0z,y10,y11,y12,y13,y14,y15,y16,y17,y18,y19,y1a,y1b,y1c,y1d,y1e,y1f,y1g,y1h,y1i,y1j,y1k,y1l,y1m,y1n,y1o,y1p,y1q,y1r,retO,retL,retV,z69,allV,allP,z6a,z6d,z6e,z6k,z6l,z6m,binV,eqV,unV,oOpt,reduceIte,reduceCtorEq,Nat.reduceEqDiff,Nat.reduceAdd,Nat.reduceMul,Nat.reduceLT,Nat.reduceSub,Int.reduceLT,Int.reduceLE,Int.reduceEq,Int.reduceNe,Int.reduceSub,Int.reduceAdd,Int.reduceMul,Int.reduceBEq,Int.reduceBNe,Int.reduceGT,Int.reduceGE,Nat.reduceGT,Int.reduceToNat,Int.reduceNeg,Nat.reduceLeDiff,Nat.reduceBEq,Nat.reduceBneDiff,Value.cells, List.length_replicate]
    intro b11 hb11
    rw [blend8_0 (bytesF (coutF st)) 64]
    have hb11' := Heap.none_of_le leH hb11
    have n611 := ne_of_none hb11 q6
    have n711 := ne_of_none hb11 q7
    have n811 := ne_of_none hb11 q8
    unfold ir_chacha_Block_51
    simp -implicitDefEqProofs only [zB1,zB2,zB3,zB4,zB5,zB6,zB7,zB8,zB9,zB10,zB11,y00,y01,y02,y03,y04,y05,y06,y07,y08,y09,y0a,y0b,y0c,y0d,y0e,y0f,y0g,y0h,y0i,y0j,y0k,y0l,y0m,y0n,y0o,y0p,y0q,y0r,y0s,y0t,y0u,y0v,y0w,y0x,y0y,y0z,y10,y11,y12,y13,y14,y15,y16,y17,y18,y19,y1a,y1b,y1c,y1d,y1e,y1f,y1g,y1h,y1i,y1j,y1k,y1l,y1m,y1n,y1o,y1p,y1q,y1r,retO,retL,retV,z69,allV,allP,z6a,z6d,z6e,z6k,z6l,z6m,binV,eqV,unV,oOpt,reduceIte,reduceCtorEq,Nat.reduceEqDiff,Nat.reduceAdd,Nat.reduceMul,Nat.reduceLT,Nat.reduceSub,Int.reduceLT,Int.reduceLE,Int.reduceEq,Int.reduceNe,Int.reduceSub,Int.reduceAdd,Int.reduceMul,Int.reduceBEq,Int.reduceBNe,Int.reduceGT,Int.reduceGE,Nat.reduceGT,Int.reduceToNat,Int.reduceNeg,Nat.reduceLeDiff,Nat.reduceBEq,Nat.reduceBneDiff,Value.cells]
    have leP := Heap.le_new leH hb11 (.own 0 (row8 (blend8 (bytesF (coutF st)) 0) 64) 64)
    refine wp_loop' (fun m t H => h.le H ∧ ∃ i : Nat, i ≤ 16 ∧ m = 16 - i ∧ t = tl [(6, .pointer (some ⟨b6, 0, none⟩)), (7, .pointer (some ⟨b7, 0, none⟩)), (8, .pointer (some ⟨b8, 0, none⟩)), (11, .pointer (some ⟨b11, 0, none⟩)), (51, .int .i64 i)] ∧
        H b6 = some (.own 0 (List.replicate 64 (.int .u8 0)) 64) ∧ H b7 = some (.own 0 (rowU st 16) 16) ∧ H b8 = some (.own 0 (rowU (roundsF st 10) 16) 16) ∧ H b11 = some (.own 0 (row8 (blend8 (bytesF (coutF st)) (4 * i)) 64) 64)) 16
      ⟨leP, 0, by omega, rfl, rfl, set_new hb11 q6, set_new hb11 q7, set_new hb11 q8, Heap.set_self _ _ _⟩ ?_
    clear q6 q7 q8 leH leP hlt
    rintro m t H ⟨leH, i, hi, rfl, rfl, q6, q7, q8, q11⟩
    by_cases hlt : (i : Int) < 16
    · have hi' : i < 16 := by omega
      have e0 : (0 : Int) ≤ (i : Int) := by omega
      have c8 := rowU_at q8 hi'
      have c7 := rowU_at q7 hi'
      have w7 : IntKind.i64.wrap ((i : Int) + 1) = ((i + 1 : Nat) : Int) := wrapN (by omega)
      have w2 : IntKind.i64.wrap (4 * (i : Int)) = ((4 * i : Nat) : Int) := by rw [wrapI (by omega) (by omega)]; rfl
      have bd : bnds 64 64 (some (some (.int .i64 ((4 * i : Nat) : Int)))) none none = some (4 * i, 64, 64) := bnds_lo (by omega) (by omega)
      have ne : ¬ (64 = 4 * i) := by omega
      simp -implicitDefEqProofs only [zB1,zB2,zB3,zB4,zB5,zB6,zB7,zB8,zB9,zB10,zB11,y00,y01,y02,y03,y04,y05,y06,y07,y08,y09,y0a,y0b,y0c,y0d,y0e,y0f,y0g,y0h,y0i,y0j,y0k,y0l,y0m,y0n,y0o,y0p,y0q,y0r,y0s,y0t,y0u,y0v,y0w,y0x,y0y,y0z,y10,y11,y12,y13,y14,y15,y16,y17,y18,y19,y1a,y1b,y1c,y1d,y1e,y1f,y1g,y1h,y1i,y1j,y1k,y1l,y1m,y1n,y1o,y1p,y1q,y1r,retO,retL,retV,z69,allV,allP,z6a,z6d,z6e,z6k,z6l,z6m,binV,eqV,unV,oOpt,reduceIte,reduceCtorEq,Nat.reduceEqDiff,Nat.reduceAdd,Nat.reduceMul,Nat.reduceLT,Nat.reduceSub,Int.reduceLT,Int.reduceLE,Int.reduceEq,Int.reduceNe,Int.reduceSub,Int.reduceAdd,Int.reduceMul,Int.reduceBEq,Int.reduceBNe,Int.reduceGT,Int.reduceGE,Nat.reduceGT,Int.reduceToNat,Int.reduceNeg,Nat.reduceLeDiff,Nat.reduceBEq,Nat.reduceBneDiff,Value.cells, hlt, e0, Int.toNat_natCast, c8, c7, u32_add, u32_u64]
      refine (octet_Little_c E _ [] (by simp) (Ow.nil H H 1).sl ((coutF st i).setWidth 64) 4 (by omega)).mono ?_
      rintro r H2 ⟨le2, ow⟩
      rw [List.nil_append] at ow
      have so := ow.sl
      unfold SlB at so
      rw [littleF_len] at so
      obtain ⟨base, c, rfl⟩ := Sl.shape so
      have q11' := le2 _ _ q11
      simp -implicitDefEqProofs only [zB1,zB2,zB3,zB4,zB5,zB6,zB7,zB8,zB9,zB10,zB11,y00,y01,y02,y03,y04,y05,y06,y07,y08,y09,y0a,y0b,y0c,y0d,y0e,y0f,y0g,y0h,y0i,y0j,y0k,y0l,y0m,y0n,y0o,y0p,y0q,y0r,y0s,y0t,y0u,y0v,y0w,y0x,y0y,y0z,y10,y11,y12,y13,y14,y15,y16,y17,y18,y19,y1a,y1b,y1c,y1d,y1e,y1f,y1g,y1h,y1i,y1j,y1k,y1l,y1m,y1n,y1o,y1p,y1q,y1r,retO,retL,retV,z69,allV,allP,z6a,z6d,z6e,z6k,z6l,z6m,binV,eqV,unV,oOpt,reduceIte,reduceCtorEq,Nat.reduceEqDiff,Nat.reduceAdd,Nat.reduceMul,Nat.reduceLT,Nat.reduceSub,Int.reduceLT,Int.reduceLE,Int.reduceEq,Int.reduceNe,Int.reduceSub,Int.reduceAdd,Int.reduceMul,Int.reduceBEq,Int.reduceBNe,Int.reduceGT,Int.reduceGE,Nat.reduceGT,Int.reduceToNat,Int.reduceNeg,Nat.reduceLeDiff,Nat.reduceBEq,Nat.reduceBneDiff,Value.cells, w2, bd, ne, add_off', Nat.zero_add, Nat.mul_one, List.mem_cons, List.not_mem_nil, or_false, forall_eq, implies_true]
      refine copyP_own (size := 1) (m := 4) (o := 4 * i) q11' (by rw [row8_len]; omega) (by rw [row8_len]; omega) so (one_u8 _) ?_
      have et : ((littleF ((coutF st i).setWidth 64) 4).map u8V).take (min 4 (64 - 4 * i) * 1) = ((List.range 4).map fun k => bytesF (coutF st) (4 * i + k)).map u8V := by
        rw [List.take_of_length_le (by simp [littleF_len]; omega), bytesF_little]
      rw [et, blend8_put _ _ _ (by omega)]
      simp -implicitDefEqProofs only [zB1,zB2,zB3,zB4,zB5,zB6,zB7,zB8,zB9,zB10,zB11,y00,y01,y02,y03,y04,y05,y06,y07,y08,y09,y0a,y0b,y0c,y0d,y0e,y0f,y0g,y0h,y0i,y0j,y0k,y0l,y0m,y0n,y0o,y0p,y0q,y0r,y0s,y0t,y0u,y0v,y0w,y0x,y0y,y0z,y10,y11,y12,y13,y14,y15,y16,y17,y18,y19,y1a,y1b,y1c,y1d,y1e,y1f,y1g,y1h,y1i,y1j,y1k,y1l,y1m,y1n,y1o,y1p,y1q,y1r,retO,retL,retV,z69,allV,allP,z6a,z6d,z6e,z6k,z6l,z6m,binV,eqV,unV,oOpt,reduceIte,reduceCtorEq,Nat.reduceEqDiff,Nat.reduceAdd,Nat.reduceMul,Nat.reduceLT,Nat.reduceSub,Int.reduceLT,Int.reduceLE,Int.reduceEq,Int.reduceNe,Int.reduceSub,Int.reduceAdd,Int.reduceMul,Int.reduceBEq,Int.reduceBNe,Int.reduceGT,Int.reduceGE,Nat.reduceGT,Int.reduceToNat,Int.reduceNeg,Nat.reduceLeDiff,Nat.reduceBEq,Nat.reduceBneDiff,Value.cells, w7]
      exact ⟨_, by omega, Heap.le_set (Heap.le_trans leH le2) hb11' _, i + 1, by omega, rfl, rfl, set_keep (le2 _ _ q6) n611, set_keep (le2 _ _ q7) n711, set_keep (le2 _ _ q8) n811, Heap.set_self _ _ _⟩
    · obtain rfl : i = 16 := by omega
      have e64 : row8 (blend8 (bytesF (coutF st)) (4 * 16)) 64 = row8 (bytesF (coutF st)) 64 := blend8_all _ _
      rw [e64] at q11
      have l11 : hcells H ⟨b11, 0, none⟩ 64 = some (row8 (bytesF (coutF st)) 64) := hcells_own0 q11 (row8_len _ _)
      have s6 : storeV H 64 (.pointer (some ⟨b6, 0, none⟩)) (.agg (row8 (bytesF (coutF st)) 64).toArray) = some (H.set b6 (.own 0 (row8 (bytesF (coutF st)) 64) 64)) := storeV_agg_at q6 (by omega) (row8_len _ _) (by simp [row8, one]) (by simp) (by omega)
      have l6 : hcells (H.set b6 (.own 0 (row8 (bytesF (coutF st)) 64) 64)) ⟨b6, 0, none⟩ 64 = some (row8 (bytesF (coutF st)) 64) := z6o (row8_len _ _)
      simp -implicitDefEqProofs only [zB1,zB2,zB3,zB4,zB5,zB6,zB7,zB8,zB9,zB10,zB11,y00,y01,y02,y03,y04,y05,y06,y07,y08,y09,y0a,y0b,y0c,y0d,y0e,y0f,y0g,y0h,y0i,y0j,y0k,y0l,y0m,y0n,y0o,y0p,y0q,y0r,y0s,y0t,y0u,y0v,y0w,y0x,y0y,y0z,y10,y11,y12,y13,y14,y15,y16,y17,y18,y19,y1a,y1b,y1c,y1d,y1e,y1f,y1g,y1h,y1i,y1j,y1k,y1l,y1m,y1n,y1o,y1p,y1q,y1r,retO,retL,retV,z69,allV,allP,z6a,z6d,z6e,z6k,z6l,z6m,binV,eqV,unV,oOpt,reduceIte,reduceCtorEq,Nat.reduceEqDiff,Nat.reduceAdd,Nat.reduceMul,Nat.reduceLT,Nat.reduceSub,Int.reduceLT,Int.reduceLE,Int.reduceEq,Int.reduceNe,Int.reduceSub,Int.reduceAdd,Int.reduceMul,Int.reduceBEq,Int.reduceBNe,Int.reduceGT,Int.reduceGE,Nat.reduceGT,Int.reduceToNat,Int.reduceNeg,Nat.reduceLeDiff,Nat.reduceBEq,Nat.reduceBneDiff,Value.cells, hlt, l11, s6, l6]
      exact Heap.le_set leH hb6' _
end Go.Bb
/- The document's streams: a block. -/
namespace Go.Bb
set_option linter.unusedSimpArgs false
set_option linter.unusedVariables false
set_option maxRecDepth 20000
set_option maxHeartbeats 4000000

theorem ref4_Block_c (E : EnvT tab) (h : Heap) (key nonce : List UInt8) (count : U32) (hk : key.length = 32) (hn : nonce.length = 12) :
    ACallN E.toEnv n_bandboxref4_Block [.agg (key.map u8V).toArray, .int .u32 count.toNat, .agg (nonce.map u8V).toArray] h fun r h' => h.le h' ∧ r = .agg (row8 (blockF key count nonce) 64).toArray := by
  refine acall h_bandboxref4_Block ir_bandboxref4_Block rfl rfl (wpA_sound ?_)
  unfold ir_bandboxref4_Block
  have hk' : (key.map u8V).length = 32 := by simp [hk]
  have hn' : (nonce.map u8V).length = 12 := by simp [hn]
  have cr := const_blend key nonce count
  have g12 : count = stateF key count nonce 12 := rfl
  have gk : ∀ i, i < 8 → wordF key i = stateF key count nonce (4 + i) := by
    intro i hi
    unfold stateF
    rw [if_neg (by omega), if_pos (by omega), show 4 + i - 4 = i by omega]
  have gn : ∀ i, i < 3 → wordF nonce i = stateF key count nonce (13 + i) := by
    intro i hi
    unfold stateF
    rw [if_neg (by omega), if_neg (by omega), if_neg (by omega), if_pos (by omega), show 13 + i - 13 = i by omega]
  unfold blockF
  generalize hg : stateF key count nonce = g at cr g12 gk gn ⊢
  simp -implicitDefEqProofs only [zB1,zB2,zB3,zB4,zB5,zB6,zB7,zB8,zB9,zB10,zB11,y00,y01,y02,y03,y04,y05,y06,y07,y08,y09,y0a,y0b,y0c,y0d,y0e,y0f,y0g,y0h,y0i,y0j,y0k,y0l,y0m,y0n,y0o,y0p,y0q,y0r,y0s,y0t,y0u,y0v,y0w,y0x,y0y,y0z,y10,y11,y12,y13,y14,y15,y16,y17,y18,y19,y1a,y1b,y1c,y1d,y1e,y1f,y1g,y1h,y1i,y1j,y1k,y1l,y1m,y1n,y1o,y1p,y1q,y1r,retO,retL,retV,z69,allV,allP,z6a,z6d,z6e,z6k,z6l,z6m,binV,eqV,unV,oOpt,reduceIte,reduceCtorEq,Nat.reduceEqDiff,Nat.reduceAdd,Nat.reduceMul,Nat.reduceLT,Nat.reduceSub,Int.reduceLT,Int.reduceLE,Int.reduceEq,Int.reduceNe,Int.reduceSub,Int.reduceAdd,Int.reduceMul,Int.reduceBEq,Int.reduceBNe,Int.reduceGT,Int.reduceGE,Nat.reduceGT,Int.reduceToNat,Int.reduceNeg,Nat.reduceLeDiff,Nat.reduceBEq,Nat.reduceBneDiff,Value.cells, hk', hn', List.length_replicate]
  intro b3 hb3 b5 hb5 b6 hb6
  obtain ⟨n53, hb5'⟩ := Heap.set_none.1 hb5
  obtain ⟨n65, hb6a⟩ := Heap.set_none.1 hb6
  obtain ⟨n63, hb6'⟩ := Heap.set_none.1 hb6a
  have le1 : h.le (((h.set b3 (.own 0 (key.map u8V) 32)).set b5 (.own 0 (nonce.map u8V) 12)).set b6 (.own 0 (List.replicate 64 (.int .u8 0)) 64)) := Heap.le_set (Heap.le_set (Heap.le_set (Heap.le_refl _) hb3 _) hb5' _) hb6' _
  have q3 : (((h.set b3 (.own 0 (key.map u8V) 32)).set b5 (.own 0 (nonce.map u8V) 12)).set b6 (.own 0 (List.replicate 64 (.int .u8 0)) 64)) b3 = some (.own 0 (key.map u8V) 32) := set_keep (set_keep (Heap.set_self _ _ _) (Ne.symm n53)) (Ne.symm n63)
  have q5 : (((h.set b3 (.own 0 (key.map u8V) 32)).set b5 (.own 0 (nonce.map u8V) 12)).set b6 (.own 0 (List.replicate 64 (.int .u8 0)) 64)) b5 = some (.own 0 (nonce.map u8V) 12) := set_keep (Heap.set_self _ _ _) (Ne.symm n65)
  have q6 : (((h.set b3 (.own 0 (key.map u8V) 32)).set b5 (.own 0 (nonce.map u8V) 12)).set b6 (.own 0 (List.replicate 64 (.int .u8 0)) 64)) b6 = some (.own 0 (List.replicate 64 (.int .u8 0)) 64) := Heap.set_self _ _ _
  generalize (((h.set b3 (.own 0 (key.map u8V) 32)).set b5 (.own 0 (nonce.map u8V) 12)).set b6 (.own 0 (List.replicate 64 (.int .u8 0)) 64)) = h1 at le1 q3 q5 q6 ⊢
  unfold ir_bandboxref4_Block_19
  simp -implicitDefEqProofs only [zB1,zB2,zB3,zB4,zB5,zB6,zB7,zB8,zB9,zB10,zB11,y00,y01,y02,y03,y04,y05,y06,y07,y08,y09,y0a,y0b,y0c,y0d,y0e,y0f,y0g,y0h,y0i,y0j,y0k,y0l,y0m,y0n,y0o,y0p,y0q,y0r,y0s,y0t,y0u,y0v,y0w,y0x,y0y,y0z,y10,y11,y12,y13,y14,y15,y16,y17,y18,y19,y1a,y1b,y1c,y1d,y1e,y1f,y1g,y1h,y1i,y1j,y1k,y1l,y1m,y1n,y1o,y1p,y1q,y1r,retO,retL,retV,z69,allV,allP,z6a,z6d,z6e,z6k,z6l,z6m,binV,eqV,unV,oOpt,reduceIte,reduceCtorEq,Nat.reduceEqDiff,Nat.reduceAdd,Nat.reduceMul,Nat.reduceLT,Nat.reduceSub,Int.reduceLT,Int.reduceLE,Int.reduceEq,Int.reduceNe,Int.reduceSub,Int.reduceAdd,Int.reduceMul,Int.reduceBEq,Int.reduceBNe,Int.reduceGT,Int.reduceGE,Nat.reduceGT,Int.reduceToNat,Int.reduceNeg,Nat.reduceLeDiff,Nat.reduceBEq,Nat.reduceBneDiff,Value.cells, List.length_replicate, List.drop_replicate, const16_row, cr]
  intro b7 hb7
  have hb7' := Heap.none_of_le le1 hb7
  have n73 := ne_of_none hb7 q3
  have n75 := ne_of_none hb7 q5
  have n76 := ne_of_none hb7 q6
  have s7 : storeV (h1.set b7 (.own 0 (List.replicate 16 (.int .u32 0)) 16)) 16 (.pointer (some ⟨b7, 0, none⟩)) (.agg (rowU (blendU g (fun _ => 0) 4) 16).toArray) = some (h1.set b7 (.own 0 (rowU (blendU g (fun _ => 0) 4) 16) 16)) := z6q (by omega) (rowU_len _ _) (rowU_one _ _) (by simp) (by omega)
  simp -implicitDefEqProofs only [zB1,zB2,zB3,zB4,zB5,zB6,zB7,zB8,zB9,zB10,zB11,y00,y01,y02,y03,y04,y05,y06,y07,y08,y09,y0a,y0b,y0c,y0d,y0e,y0f,y0g,y0h,y0i,y0j,y0k,y0l,y0m,y0n,y0o,y0p,y0q,y0r,y0s,y0t,y0u,y0v,y0w,y0x,y0y,y0z,y10,y11,y12,y13,y14,y15,y16,y17,y18,y19,y1a,y1b,y1c,y1d,y1e,y1f,y1g,y1h,y1i,y1j,y1k,y1l,y1m,y1n,y1o,y1p,y1q,y1r,retO,retL,retV,z69,allV,allP,z6a,z6d,z6e,z6k,z6l,z6m,binV,eqV,unV,oOpt,reduceIte,reduceCtorEq,Nat.reduceEqDiff,Nat.reduceAdd,Nat.reduceMul,Nat.reduceLT,Nat.reduceSub,Int.reduceLT,Int.reduceLE,Int.reduceEq,Int.reduceNe,Int.reduceSub,Int.reduceAdd,Int.reduceMul,Int.reduceBEq,Int.reduceBNe,Int.reduceGT,Int.reduceGE,Nat.reduceGT,Int.reduceToNat,Int.reduceNeg,Nat.reduceLeDiff,Nat.reduceBEq,Nat.reduceBneDiff,Value.cells, s7]
  refine wp_loop' (fun m t H => h.le H ∧ ∃ i : Nat, i ≤ 8 ∧ m = 8 - i ∧ t = tl [(1, .int .u32 count.toNat), (3, .pointer (some ⟨b3, 0, none⟩)), (5, .pointer (some ⟨b5, 0, none⟩)), (6, .pointer (some ⟨b6, 0, none⟩)), (7, .pointer (some ⟨b7, 0, none⟩)), (8, .int .i64 i)] ∧
      H b3 = some (.own 0 (key.map u8V) 32) ∧ H b5 = some (.own 0 (nonce.map u8V) 12) ∧ H b6 = some (.own 0 (List.replicate 64 (.int .u8 0)) 64) ∧ H b7 = some (.own 0 (rowU (blendU g (fun _ => 0) (4 + i)) 16) 16)) 8
    ⟨Heap.le_new le1 hb7 _, 0, by omega, rfl, rfl, set_keep q3 n73, set_keep q5 n75, set_keep q6 n76, Heap.set_self _ _ _⟩ ?_
  clear q3 q5 q6 le1
  rintro m t H ⟨leH, i, hi, rfl, rfl, q3, q5, q6, q7⟩
  by_cases hlt : (i : Int) < 8
  · have hi' : i < 8 := by omega
    have w1 : IntKind.i64.wrap (4 + (i : Int)) = ((4 + i : Nat) : Int) := by rw [wrapI (by omega) (by omega)]; rfl
    have w2 : IntKind.i64.wrap (4 * (i : Int)) = ((4 * i : Nat) : Int) := by rw [wrapI (by omega) (by omega)]; rfl
    have w7 : IntKind.i64.wrap ((i : Int) + 1) = ((i + 1 : Nat) : Int) := wrapN (by omega)
    have bd : bnds 32 32 (some (some (.int .i64 ((4 * i : Nat) : Int)))) none none = some (4 * i, 32, 32) := bnds_lo (by omega) (by omega)
    have ne : ¬ (32 = 4 * i) := by omega
    have e0 : (0 : Int) ≤ ((4 + i : Nat) : Int) := by omega
    have e1 : ((4 + i : Nat) : Int) < 16 := by omega
    simp -implicitDefEqProofs only [zB1,zB2,zB3,zB4,zB5,zB6,zB7,zB8,zB9,zB10,zB11,y00,y01,y02,y03,y04,y05,y06,y07,y08,y09,y0a,y0b,y0c,y0d,y0e,y0f,y0g,y0h,y0i,y0j,y0k,y0l,y0m,y0n,y0o,y0p,y0q,y0r,y0s,y0t,y0u,y0v,y0w,y0x,y0y,y0z,y10,y11,y12,y13,y14,y15,y16,y17,y18,y19,y1a,y1b,y1c,y1d,y1e,y1f,y1g,y1h,y1i,y1j,y1k,y1l,y1m,y1n,y1o,y1p,y1q,y1r,retO,retL,retV,z69,allV,allP,z6a,z6d,z6e,z6k,z6l,z6m,binV,eqV,unV,oOpt,reduceIte,reduceCtorEq,Nat.reduceEqDiff,Nat.reduceAdd,Nat.reduceMul,Nat.reduceLT,Nat.reduceSub,Int.reduceLT,Int.reduceLE,Int.reduceEq,Int.reduceNe,Int.reduceSub,Int.reduceAdd,Int.reduceMul,Int.reduceBEq,Int.reduceBNe,Int.reduceGT,Int.reduceGE,Nat.reduceGT,Int.reduceToNat,Int.reduceNeg,Nat.reduceLeDiff,Nat.reduceBEq,Nat.reduceBneDiff,Value.cells, hlt, w1, w2, bd, ne]
    refine (ref4_word_c E _ (key.drop (4 * i)) (by simp; omega) (by have := slice_at q3 hk (4 * i) (by omega); unfold SlB; rw [List.length_drop, hk]; unfold SlB at this; rw [List.length_drop, hk] at this; exact this)).mono ?_
    rintro r H2 ⟨le2, rfl⟩
    have s8 := rowU_store (z := wordF key i) (le2 _ _ q7) (show 4 + i < 16 by omega)
    rw [blendU_step g _ _ (gk i hi')] at s8
    unfold wordF at s8
    simp -implicitDefEqProofs only [zB1,zB2,zB3,zB4,zB5,zB6,zB7,zB8,zB9,zB10,zB11,y00,y01,y02,y03,y04,y05,y06,y07,y08,y09,y0a,y0b,y0c,y0d,y0e,y0f,y0g,y0h,y0i,y0j,y0k,y0l,y0m,y0n,y0o,y0p,y0q,y0r,y0s,y0t,y0u,y0v,y0w,y0x,y0y,y0z,y10,y11,y12,y13,y14,y15,y16,y17,y18,y19,y1a,y1b,y1c,y1d,y1e,y1f,y1g,y1h,y1i,y1j,y1k,y1l,y1m,y1n,y1o,y1p,y1q,y1r,retO,retL,retV,z69,allV,allP,z6a,z6d,z6e,z6k,z6l,z6m,binV,eqV,unV,oOpt,reduceIte,reduceCtorEq,Nat.reduceEqDiff,Nat.reduceAdd,Nat.reduceMul,Nat.reduceLT,Nat.reduceSub,Int.reduceLT,Int.reduceLE,Int.reduceEq,Int.reduceNe,Int.reduceSub,Int.reduceAdd,Int.reduceMul,Int.reduceBEq,Int.reduceBNe,Int.reduceGT,Int.reduceGE,Nat.reduceGT,Int.reduceToNat,Int.reduceNeg,Nat.reduceLeDiff,Nat.reduceBEq,Nat.reduceBneDiff,Value.cells, e0, e1, Int.toNat_natCast, s8, w7]
    exact ⟨_, by omega, Heap.le_set (Heap.le_trans leH le2) hb7' _, i + 1, by omega, rfl, rfl, set_keep (le2 _ _ q3) n73, set_keep (le2 _ _ q5) n75, set_keep (le2 _ _ q6) n76, Heap.set_self _ _ _⟩
  · obtain rfl : i = 8 := by omega
    simp -implicitDefEqProofs only [zB1,zB2,zB3,zB4,zB5,zB6,zB7,zB8,zB9,zB10,zB11,y00,y01,y02,y03,y04,y05,y06,y07,y08,y09,y0a,y0b,y0c,y0d,y0e,y0f,y0g,y0h,y0i,y0j,y0k,y0l,y0m,y0n,y0o,y0p,y0q,y0r,y0s,y0t,y0u,y0v,y0w,y0x,y0y,y0z,y10,y11,y12,y13,y14,y15,y16,y17,y18,y19,y1a,y1b,y1c,y1d,y1e,y1f,y1g,y1h,y1i,y1j,y1k,y1l,y1m,y1n,y1o,y1p,y1q,y1r,retO,retL,retV,z69,allV,allP,z6a,z6d,z6e,z6k,z6l,z6m,binV,eqV,unV,oOpt,reduceIte,reduceCtorEq,Nat.reduceEqDiff,Nat.reduceAdd,Nat.reduceMul,Nat.reduceLT,Nat.reduceSub,Int.reduceLT,Int.reduceLE,Int.reduceEq,Int.reduceNe,Int.reduceSub,Int.reduceAdd,Int.reduceMul,Int.reduceBEq,Int.reduceBNe,Int.reduceGT,Int.reduceGE,Nat.reduceGT,Int.reduceToNat,Int.reduceNeg,Nat.reduceLeDiff,Nat.reduceBEq,Nat.reduceBneDiff,Value.cells, hlt]
    unfold ir_bandboxref4_Block_31
    have s8 := rowU_store (z := count) q7 (show 12 < 16 by omega)
    rw [blendU_step g _ 12 g12] at s8
    simp -implicitDefEqProofs only [zB1,zB2,zB3,zB4,zB5,zB6,zB7,zB8,zB9,zB10,zB11,y00,y01,y02,y03,y04,y05,y06,y07,y08,y09,y0a,y0b,y0c,y0d,y0e,y0f,y0g,y0h,y0i,y0j,y0k,y0l,y0m,y0n,y0o,y0p,y0q,y0r,y0s,y0t,y0u,y0v,y0w,y0x,y0y,y0z,y10,y11,y12,y13,y14,y15,y16,y17,y18,y19,y1a,y1b,y1c,y1d,y1e,y1f,y1g,y1h,y1i,y1j,y1k,y1l,y1m,y1n,y1o,y1p,y1q,y1r,retO,retL,retV,z69,allV,allP,z6a,z6d,z6e,z6k,z6l,z6m,binV,eqV,unV,oOpt,reduceIte,reduceCtorEq,Nat.reduceEqDiff,Nat.reduceAdd,Nat.reduceMul,Nat.reduceLT,Nat.reduceSub,Int.reduceLT,Int.reduceLE,Int.reduceEq,Int.reduceNe,Int.reduceSub,Int.reduceAdd,Int.reduceMul,Int.reduceBEq,Int.reduceBNe,Int.reduceGT,Int.reduceGE,Nat.reduceGT,Int.reduceToNat,Int.reduceNeg,Nat.reduceLeDiff,Nat.reduceBEq,Nat.reduceBneDiff,Value.cells, s8]
    refine wp_loop' (fun m t H => h.le H ∧ ∃ i : Nat, i ≤ 3 ∧ m = 3 - i ∧ t = tl [(5, .pointer (some ⟨b5, 0, none⟩)), (6, .pointer (some ⟨b6, 0, none⟩)), (7, .pointer (some ⟨b7, 0, none⟩)), (9, .int .i64 i)] ∧
        H b5 = some (.own 0 (nonce.map u8V) 12) ∧ H b6 = some (.own 0 (List.replicate 64 (.int .u8 0)) 64) ∧ H b7 = some (.own 0 (rowU (blendU g (fun _ => 0) (13 + i)) 16) 16)) 3
      ⟨Heap.le_set leH hb7' _, 0, by omega, rfl, rfl, set_keep q5 n75, set_keep q6 n76, Heap.set_self _ _ _⟩ ?_
    clear q3 q5 q6 q7 leH s8 hlt hi
    rintro m t H ⟨leH, i, hi, rfl, rfl, q5, q6, q7⟩
    by_cases hlt : (i : Int) < 3
    · have hi' : i < 3 := by omega
      have w1 : IntKind.i64.wrap (13 + (i : Int)) = ((13 + i : Nat) : Int) := by rw [wrapI (by omega) (by omega)]; rfl
      have w2 : IntKind.i64.wrap (4 * (i : Int)) = ((4 * i : Nat) : Int) := by rw [wrapI (by omega) (by omega)]; rfl
      have w7 : IntKind.i64.wrap ((i : Int) + 1) = ((i + 1 : Nat) : Int) := wrapN (by omega)
      have bd : bnds 12 12 (some (some (.int .i64 ((4 * i : Nat) : Int)))) none none = some (4 * i, 12, 12) := bnds_lo (by omega) (by omega)
      have ne : ¬ (12 = 4 * i) := by omega
      have e0 : (0 : Int) ≤ ((13 + i : Nat) : Int) := by omega
      have e1 : ((13 + i : Nat) : Int) < 16 := by omega
      simp -implicitDefEqProofs only [zB1,zB2,zB3,zB4,zB5,zB6,zB7,zB8,zB9,zB10,zB11,y00,y01,y02,y03,y04,y05,y06,y07,y08,y09,y0a,y0b,y0c,y0d,y0e,y0f,y0g,y0h,y0i,y0j,y0k,y0l,y0m,y0n,y0o,y0p,y0q,y0r,y0s,y0t,y0u,y0v,y0w,y0x,y0y,y0z,y10,y11,y12,y13,y14,y15,y16,y17,y18,y19,y1a,y1b,y1c,y1d,y1e,y1f,y1g,y1h,y1i,y1j,y1k,y1l,y1m,y1n,y1o,y1p,y1q,y1r,retO,retL,retV,z69,allV,allP,z6a,z6d,z6e,z6k,z6l,z6m,binV,eqV,unV,oOpt,reduceIte,reduceCtorEq,Nat.reduceEqDiff,Nat.reduceAdd,Nat.reduceMul,Nat.reduceLT,Nat.reduceSub,Int.reduceLT,Int.reduceLE,Int.reduceEq,Int.reduceNe,Int.reduceSub,Int.reduceAdd,Int.reduceMul,Int.reduceBEq,Int.reduceBNe,Int.reduceGT,Int.reduceGE,Nat.reduceGT,Int.reduceToNat,Int.reduceNeg,Nat.reduceLeDiff,Nat.reduceBEq,Nat.reduceBneDiff,Value.cells, hlt, w1, w2, bd, ne]
      refine (ref4_word_c E _ (nonce.drop (4 * i)) (by simp; omega) (by have := slice_at q5 hn (4 * i) (by omega); unfold SlB; rw [List.length_drop, hn]; unfold SlB at this; rw [List.length_drop, hn] at this; exact this)).mono ?_
      rintro r H2 ⟨le2, rfl⟩
      have s8 := rowU_store (z := wordF nonce i) (le2 _ _ q7) (show 13 + i < 16 by omega)
      rw [blendU_step g _ _ (gn i hi')] at s8
      unfold wordF at s8
      simp -implicitDefEqProofs only [zB1,zB2,zB3,zB4,zB5,zB6,zB7,zB8,zB9,zB10,zB11,y00,y01,y02,y03,y04,y05,y06,y07,y08,y09,y0a,y0b,y0c,y0d,y0e,y0f,y0g,y0h,y0i,y0j,y0k,y0l,y0m,y0n,y0o,y0p,y0q,y0r,y0s,y0t,y0u,y0v,y0w,y0x,y0y,y0z,y10,y11,y12,y13,y14,y15,y16,y17,y18,y19,y1a,y1b,y1c,y1d,y1e,y1f,y1g,y1h,y1i,y1j,y1k,y1l,y1m,y1n,y1o,y1p,y1q,y1r,retO,retL,retV,z69,allV,allP,z6a,z6d,z6e,z6k,z6l,z6m,binV,eqV,unV,oOpt,reduceIte,reduceCtorEq,Nat.reduceEqDiff,Nat.reduceAdd,Nat.reduceMul,Nat.reduceLT,Nat.reduceSub,Int.reduceLT,Int.reduceLE,Int.reduceEq,Int.reduceNe,Int.reduceSub,Int.reduceAdd,Int.reduceMul,Int.reduceBEq,Int.reduceBNe,Int.reduceGT,Int.reduceGE,Nat.reduceGT,Int.reduceToNat,Int.reduceNeg,Nat.reduceLeDiff,Nat.reduceBEq,Nat.reduceBneDiff,Value.cells, e0, e1, Int.toNat_natCast, s8, w7]
      exact ⟨_, by omega, Heap.le_set (Heap.le_trans leH le2) hb7' _, i + 1, by omega, rfl, rfl, set_keep (le2 _ _ q5) n75, set_keep (le2 _ _ q6) n76, Heap.set_self _ _ _⟩
    · obtain rfl : i = 3 := by omega
      have eg : rowU (blendU g (fun _ => 0) (13 + 3)) 16 = rowU g 16 := rowU_congr fun j hj => blendU_lt hj
      rw [eg] at q7
      have l7 := rowU_cells q7
      simp -implicitDefEqProofs only [zB1,zB2,zB3,zB4,zB5,zB6,zB7,zB8,zB9,zB10,zB11,y00,y01,y02,y03,y04,y05,y06,y07,y08,y09,y0a,y0b,y0c,y0d,y0e,y0f,y0g,y0h,y0i,y0j,y0k,y0l,y0m,y0n,y0o,y0p,y0q,y0r,y0s,y0t,y0u,y0v,y0w,y0x,y0y,y0z,y10,y11,y12,y13,y14,y15,y16,y17,y18,y19,y1a,y1b,y1c,y1d,y1e,y1f,y1g,y1h,y1i,y1j,y1k,y1l,y1m,y1n,y1o,y1p,y1q,y1r,retO,retL,retV,z69,allV,allP,z6a,z6d,z6e,z6k,z6l,z6m,binV,eqV,unV,oOpt,reduceIte,reduceCtorEq,Nat.reduceEqDiff,Nat.reduceAdd,Nat.reduceMul,Nat.reduceLT,Nat.reduceSub,Int.reduceLT,Int.reduceLE,Int.reduceEq,Int.reduceNe,Int.reduceSub,Int.reduceAdd,Int.reduceMul,Int.reduceBEq,Int.reduceBNe,Int.reduceGT,Int.reduceGE,Nat.reduceGT,Int.reduceToNat,Int.reduceNeg,Nat.reduceLeDiff,Nat.reduceBEq,Nat.reduceBneDiff,Value.cells, hlt]
      clear cr g12 gk gn hg hlt hi q5 eg
      generalize g = st at *
      unfold ir_bandboxref4_Block_44
      simp -implicitDefEqProofs only [zB1,zB2,zB3,zB4,zB5,zB6,zB7,zB8,zB9,zB10,zB11,y00,y01,y02,y03,y04,y05,y06,y07,y08,y09,y0a,y0b,y0c,y0d,y0e,y0f,y0g,y0h,y0i,y0j,y0k,y0l,y0m,y0n,y0o,y0p,y0q,y0r,y0s,y0t,y0u,y0v,y0w,y0x,y0y,y0z,y10,y11,y12,y13,y14,y15,y16,y17,y18,y19,y1a,y1b,y1c,y1d,y1e,y1f,y1g,y1h,y1i,y1j,y1k,y1l,y1m,y1n,y1o,y1p,y1q,y1r,retO,retL,retV,z69,allV,allP,z6a,z6d,z6e,z6k,z6l,z6m,binV,eqV,unV,oOpt,reduceIte,reduceCtorEq,Nat.reduceEqDiff,Nat.reduceAdd,Nat.reduceMul,Nat.reduceLT,Nat.reduceSub,Int.reduceLT,Int.reduceLE,Int.reduceEq,Int.reduceNe,Int.reduceSub,Int.reduceAdd,Int.reduceMul,Int.reduceBEq,Int.reduceBNe,Int.reduceGT,Int.reduceGE,Nat.reduceGT,Int.reduceToNat,Int.reduceNeg,Nat.reduceLeDiff,Nat.reduceBEq,Nat.reduceBneDiff,Value.cells, l7, List.length_replicate]
      intro b8 hb8
      have s8 : storeV (H.set b8 (.own 0 (List.replicate 16 (.int .u32 0)) 16)) 16 (.pointer (some ⟨b8, 0, none⟩)) (.agg (rowU st 16).toArray) = some (H.set b8 (.own 0 (rowU st 16) 16)) := z6q (by omega) (rowU_len _ _) (rowU_one _ _) (by simp) (by omega)
      have le8 := Heap.le_new leH hb8 (.own 0 (rowU st 16) 16)
      have q68 := set_new (X := .own 0 (rowU st 16) 16) hb8 q6
      have q78 := set_new (X := .own 0 (rowU st 16) 16) hb8 q7
      have q88 := Heap.set_self H b8 (.own 0 (rowU st 16) 16)
      have n68 := ne_of_none hb8 q6
      have n78 := ne_of_none hb8 q7
      have hb8' := Heap.none_of_le leH hb8
      simp -implicitDefEqProofs only [zB1,zB2,zB3,zB4,zB5,zB6,zB7,zB8,zB9,zB10,zB11,y00,y01,y02,y03,y04,y05,y06,y07,y08,y09,y0a,y0b,y0c,y0d,y0e,y0f,y0g,y0h,y0i,y0j,y0k,y0l,y0m,y0n,y0o,y0p,y0q,y0r,y0s,y0t,y0u,y0v,y0w,y0x,y0y,y0z,y10,y11,y12,y13,y14,y15,y16,y17,y18,y19,y1a,y1b,y1c,y1d,y1e,y1f,y1g,y1h,y1i,y1j,y1k,y1l,y1m,y1n,y1o,y1p,y1q,y1r,retO,retL,retV,z69,allV,allP,z6a,z6d,z6e,z6k,z6l,z6m,binV,eqV,unV,oOpt,reduceIte,reduceCtorEq,Nat.reduceEqDiff,Nat.reduceAdd,Nat.reduceMul,Nat.reduceLT,Nat.reduceSub,Int.reduceLT,Int.reduceLE,Int.reduceEq,Int.reduceNe,Int.reduceSub,Int.reduceAdd,Int.reduceMul,Int.reduceBEq,Int.reduceBNe,Int.reduceGT,Int.reduceGE,Nat.reduceGT,Int.reduceToNat,Int.reduceNeg,Nat.reduceLeDiff,Nat.reduceBEq,Nat.reduceBneDiff,Value.cells, s8]
      generalize (H.set b8 (.own 0 (rowU st 16) 16)) = h4 at le8 q68 q78 q88 ⊢
      refine wp_loop' (fun m t H => h.le H ∧ ∃ n : Nat, n ≤ 10 ∧ m = 10 - n ∧ t = tl [(6, .pointer (some ⟨b6, 0, none⟩)), (7, .pointer (some ⟨b7, 0, none⟩)), (10, .pointer (some ⟨b8, 0, none⟩)), (11, .int .i64 n)] ∧
          H b6 = some (.own 0 (List.replicate 64 (.int .u8 0)) 64) ∧ H b7 = some (.own 0 (rowU st 16) 16) ∧ H b8 = some (.own 0 (rowU (roundsF st n) 16) 16)) 10
        ⟨le8, 0, by omega, rfl, rfl, q68, q78, q88⟩ ?_
      clear q68 q78 q88 le8 l7 q6 q7 leH s8
      rintro m t H ⟨leH, n, hn10, rfl, rfl, q6, q7, q8⟩
      by_cases hlt : (n : Int) < 10
      · simp -implicitDefEqProofs only [zB1,zB2,zB3,zB4,zB5,zB6,zB7,zB8,zB9,zB10,zB11,y00,y01,y02,y03,y04,y05,y06,y07,y08,y09,y0a,y0b,y0c,y0d,y0e,y0f,y0g,y0h,y0i,y0j,y0k,y0l,y0m,y0n,y0o,y0p,y0q,y0r,y0s,y0t,y0u,y0v,y0w,y0x,y0y,y0z,y10,y11,y12,y13,y14,y15,y16,y17,y18,y19,y1a,y1b,y1c,y1d,y1e,y1f,y1g,y1h,y1i,y1j,y1k,y1l,y1m,y1n,y1o,y1p,y1q,y1r,retO,retL,retV,z69,allV,allP,z6a,z6d,z6e,z6k,z6l,z6m,binV,eqV,unV,oOpt,reduceIte,reduceCtorEq,Nat.reduceEqDiff,Nat.reduceAdd,Nat.reduceMul,Nat.reduceLT,Nat.reduceSub,Int.reduceLT,Int.reduceLE,Int.reduceEq,Int.reduceNe,Int.reduceSub,Int.reduceAdd,Int.reduceMul,Int.reduceBEq,Int.reduceBNe,Int.reduceGT,Int.reduceGE,Nat.reduceGT,Int.reduceToNat,Int.reduceNeg,Nat.reduceLeDiff,Nat.reduceBEq,Nat.reduceBneDiff,Value.cells, hlt]
        refine wp_loop' (fun m t H => h.le H ∧ ∃ i : Nat, i ≤ 4 ∧ m = 4 - i ∧ t = tl [(6, .pointer (some ⟨b6, 0, none⟩)), (7, .pointer (some ⟨b7, 0, none⟩)), (10, .pointer (some ⟨b8, 0, none⟩)), (11, .int .i64 n), (12, .int .i64 i)] ∧
            H b6 = some (.own 0 (List.replicate 64 (.int .u8 0)) 64) ∧ H b7 = some (.own 0 (rowU st 16) 16) ∧ H b8 = some (.own 0 (rowU (colsN (roundsF st n) i) 16) 16)) 4
          ⟨leH, 0, by omega, rfl, rfl, q6, q7, q8⟩ ?_
        clear q6 q7 q8 leH
        rintro m t H ⟨leH, i, hi, rfl, rfl, q6, q7, q8⟩
        by_cases hli : (i : Int) < 4
        · have w1 : IntKind.i64.wrap (4 + (i : Int)) = ((4 + i : Nat) : Int) := by rw [wrapI (by omega) (by omega)]; rfl
          have w2 : IntKind.i64.wrap (8 + (i : Int)) = ((8 + i : Nat) : Int) := by rw [wrapI (by omega) (by omega)]; rfl
          have w3 : IntKind.i64.wrap (12 + (i : Int)) = ((12 + i : Nat) : Int) := by rw [wrapI (by omega) (by omega)]; rfl
          have w7 : IntKind.i64.wrap ((i : Int) + 1) = ((i + 1 : Nat) : Int) := wrapN (by omega)
          have i0 : (0 : Int) ≤ i := by omega
          have j0 : (0 : Int) ≤ ((4 + i : Nat) : Int) := by omega
          have k0 : (0 : Int) ≤ ((8 + i : Nat) : Int) := by omega
          have l0 : (0 : Int) ≤ ((12 + i : Nat) : Int) := by omega
          have i1 : (i : Int) < 16 := by omega
          have j1 : ((4 + i : Nat) : Int) < 16 := by omega
          have k1 : ((8 + i : Nat) : Int) < 16 := by omega
          have l1 : ((12 + i : Nat) : Int) < 16 := by omega
          have ci := rowU_at q8 (show i < 16 by omega)
          have cj := rowU_at q8 (show 4 + i < 16 by omega)
          have ck := rowU_at q8 (show 8 + i < 16 by omega)
          have cl := rowU_at q8 (show 12 + i < 16 by omega)
          have em : colsN (roundsF st n) (i + 1) = mixQ (colsN (roundsF st n) i) i (4 + i) (8 + i) (12 + i) := rfl
          generalize colsN (roundsF st n) i = s at *
          simp -implicitDefEqProofs only [zB1,zB2,zB3,zB4,zB5,zB6,zB7,zB8,zB9,zB10,zB11,y00,y01,y02,y03,y04,y05,y06,y07,y08,y09,y0a,y0b,y0c,y0d,y0e,y0f,y0g,y0h,y0i,y0j,y0k,y0l,y0m,y0n,y0o,y0p,y0q,y0r,y0s,y0t,y0u,y0v,y0w,y0x,y0y,y0z,y10,y11,y12,y13,y14,y15,y16,y17,y18,y19,y1a,y1b,y1c,y1d,y1e,y1f,y1g,y1h,y1i,y1j,y1k,y1l,y1m,y1n,y1o,y1p,y1q,y1r,retO,retL,retV,z69,allV,allP,z6a,z6d,z6e,z6k,z6l,z6m,binV,eqV,unV,oOpt,reduceIte,reduceCtorEq,Nat.reduceEqDiff,Nat.reduceAdd,Nat.reduceMul,Nat.reduceLT,Nat.reduceSub,Int.reduceLT,Int.reduceLE,Int.reduceEq,Int.reduceNe,Int.reduceSub,Int.reduceAdd,Int.reduceMul,Int.reduceBEq,Int.reduceBNe,Int.reduceGT,Int.reduceGE,Nat.reduceGT,Int.reduceToNat,Int.reduceNeg,Nat.reduceLeDiff,Nat.reduceBEq,Nat.reduceBneDiff,Value.cells, hli]
          unfold ir_bandboxref4_Block_61
          simp -implicitDefEqProofs only [zB1,zB2,zB3,zB4,zB5,zB6,zB7,zB8,zB9,zB10,zB11,y00,y01,y02,y03,y04,y05,y06,y07,y08,y09,y0a,y0b,y0c,y0d,y0e,y0f,y0g,y0h,y0i,y0j,y0k,y0l,y0m,y0n,y0o,y0p,y0q,y0r,y0s,y0t,y0u,y0v,y0w,y0x,y0y,y0z,y10,y11,y12,y13,y14,y15,y16,y17,y18,y19,y1a,y1b,y1c,y1d,y1e,y1f,y1g,y1h,y1i,y1j,y1k,y1l,y1m,y1n,y1o,y1p,y1q,y1r,retO,retL,retV,z69,allV,allP,z6a,z6d,z6e,z6k,z6l,z6m,binV,eqV,unV,oOpt,reduceIte,reduceCtorEq,Nat.reduceEqDiff,Nat.reduceAdd,Nat.reduceMul,Nat.reduceLT,Nat.reduceSub,Int.reduceLT,Int.reduceLE,Int.reduceEq,Int.reduceNe,Int.reduceSub,Int.reduceAdd,Int.reduceMul,Int.reduceBEq,Int.reduceBNe,Int.reduceGT,Int.reduceGE,Nat.reduceGT,Int.reduceToNat,Int.reduceNeg,Nat.reduceLeDiff,Nat.reduceBEq,Nat.reduceBneDiff,Value.cells, w1, w2, w3, i0, j0, k0, l0, i1, j1, k1, l1, ci, cj, ck, cl, Int.toNat_natCast]
          refine (ref4_Quarter_c E _ _ _ _ _).mono ?_
          rintro r h' ⟨rfl, rfl⟩
          unfold Q4.V
          unfold mixQ at em
          simp only at em
          generalize quarF ⟨s i, s (4 + i), s (8 + i), s (12 + i)⟩ = q at em ⊢
          have s1 := rowU_store (z := q.a) q8 (show i < 16 by omega)
          have p1 := Heap.set_self h' b8 (.own 0 (rowU (updU s i q.a) 16) 16)
          have s2 := rowU_store (z := q.b) p1 (show 4 + i < 16 by omega)
          rw [Heap.set_set] at s2
          have p2 := Heap.set_self h' b8 (.own 0 (rowU (updU (updU s i q.a) (4 + i) q.b) 16) 16)
          have s3 := rowU_store (z := q.c) p2 (show 8 + i < 16 by omega)
          rw [Heap.set_set] at s3
          have p3 := Heap.set_self h' b8 (.own 0 (rowU (updU (updU (updU s i q.a) (4 + i) q.b) (8 + i) q.c) 16) 16)
          have s4 := rowU_store (z := q.d) p3 (show 12 + i < 16 by omega)
          rw [Heap.set_set] at s4
          simp -implicitDefEqProofs only [zB1,zB2,zB3,zB4,zB5,zB6,zB7,zB8,zB9,zB10,zB11,y00,y01,y02,y03,y04,y05,y06,y07,y08,y09,y0a,y0b,y0c,y0d,y0e,y0f,y0g,y0h,y0i,y0j,y0k,y0l,y0m,y0n,y0o,y0p,y0q,y0r,y0s,y0t,y0u,y0v,y0w,y0x,y0y,y0z,y10,y11,y12,y13,y14,y15,y16,y17,y18,y19,y1a,y1b,y1c,y1d,y1e,y1f,y1g,y1h,y1i,y1j,y1k,y1l,y1m,y1n,y1o,y1p,y1q,y1r,retO,retL,retV,z69,allV,allP,z6a,z6d,z6e,z6k,z6l,z6m,binV,eqV,unV,oOpt,reduceIte,reduceCtorEq,Nat.reduceEqDiff,Nat.reduceAdd,Nat.reduceMul,Nat.reduceLT,Nat.reduceSub,Int.reduceLT,Int.reduceLE,Int.reduceEq,Int.reduceNe,Int.reduceSub,Int.reduceAdd,Int.reduceMul,Int.reduceBEq,Int.reduceBNe,Int.reduceGT,Int.reduceGE,Nat.reduceGT,Int.reduceToNat,Int.reduceNeg,Nat.reduceLeDiff,Nat.reduceBEq,Nat.reduceBneDiff,Value.cells, w1, w2, w3, w7, i0, j0, k0, l0, i1, j1, k1, l1, Int.toNat_natCast, s1, s2, s3, s4, implies_true, List.mem_cons, List.not_mem_nil, or_false, forall_eq, forall_eq_or_imp, and_self]
          exact ⟨_, by omega, Heap.le_set leH hb8' _, i + 1, by omega, rfl, rfl, set_keep q6 n68, set_keep q7 n78, by rw [Heap.set_self, em]⟩
        · obtain rfl : i = 4 := by omega
          simp -implicitDefEqProofs only [zB1,zB2,zB3,zB4,zB5,zB6,zB7,zB8,zB9,zB10,zB11,y00,y01,y02,y03,y04,y05,y06,y07,y08,y09,y0a,y0b,y0c,y0d,y0e,y0f,y0g,y0h,y0i,y0j,y0k,y0l,y0m,y0n,y0o,y0p,y0q,y0r,y0s,y0t,y0u,y0v,y0w,y0x,y0y,y0z,y10,y11,y12,y13,y14,y15,y16,y17,y18,y19,y1a,y1b,y1c,y1d,y1e,y1f,y1g,y1h,y1i,y1j,y1k,y1l,y1m,y1n,y1o,y1p,y1q,y1r,retO,retL,retV,z69,allV,allP,z6a,z6d,z6e,z6k,z6l,z6m,binV,eqV,unV,oOpt,reduceIte,reduceCtorEq,Nat.reduceEqDiff,Nat.reduceAdd,Nat.reduceMul,Nat.reduceLT,Nat.reduceSub,Int.reduceLT,Int.reduceLE,Int.reduceEq,Int.reduceNe,Int.reduceSub,Int.reduceAdd,Int.reduceMul,Int.reduceBEq,Int.reduceBNe,Int.reduceGT,Int.reduceGE,Nat.reduceGT,Int.reduceToNat,Int.reduceNeg,Nat.reduceLeDiff,Nat.reduceBEq,Nat.reduceBneDiff,Value.cells, hli]
          unfold ir_bandboxref4_Block_85
          simp -implicitDefEqProofs only [zB1,zB2,zB3,zB4,zB5,zB6,zB7,zB8,zB9,zB10,zB11,y00,y01,y02,y03,y04,y05,y06,y07,y08,y09,y0a,y0b,y0c,y0d,y0e,y0f,y0g,y0h,y0i,y0j,y0k,y0l,y0m,y0n,y0o,y0p,y0q,y0r,y0s,y0t,y0u,y0v,y0w,y0x,y0y,y0z,y10,y11,y12,y13,y14,y15,y16,y17,y18,y19,y1a,y1b,y1c,y1d,y1e,y1f,y1g,y1h,y1i,y1j,y1k,y1l,y1m,y1n,y1o,y1p,y1q,y1r,retO,retL,retV,z69,allV,allP,z6a,z6d,z6e,z6k,z6l,z6m,binV,eqV,unV,oOpt,reduceIte,reduceCtorEq,Nat.reduceEqDiff,Nat.reduceAdd,Nat.reduceMul,Nat.reduceLT,Nat.reduceSub,Int.reduceLT,Int.reduceLE,Int.reduceEq,Int.reduceNe,Int.reduceSub,Int.reduceAdd,Int.reduceMul,Int.reduceBEq,Int.reduceBNe,Int.reduceGT,Int.reduceGE,Nat.reduceGT,Int.reduceToNat,Int.reduceNeg,Nat.reduceLeDiff,Nat.reduceBEq,Nat.reduceBneDiff,Value.cells]
          refine wp_loop' (fun m t H => h.le H ∧ ∃ i : Nat, i ≤ 4 ∧ m = 4 - i ∧ t = tl [(6, .pointer (some ⟨b6, 0, none⟩)), (7, .pointer (some ⟨b7, 0, none⟩)), (10, .pointer (some ⟨b8, 0, none⟩)), (11, .int .i64 n), (13, .int .i64 i)] ∧
              H b6 = some (.own 0 (List.replicate 64 (.int .u8 0)) 64) ∧ H b7 = some (.own 0 (rowU st 16) 16) ∧ H b8 = some (.own 0 (rowU (diagN (colsN (roundsF st n) 4) i) 16) 16)) 4
            ⟨leH, 0, by omega, rfl, rfl, q6, q7, q8⟩ ?_
          clear q6 q7 q8 leH hli hi
          rintro m t H ⟨leH, i, hi, rfl, rfl, q6, q7, q8⟩
          by_cases hli : (i : Int) < 4
          · have w7 : IntKind.i64.wrap ((i : Int) + 1) = ((i + 1 : Nat) : Int) := wrapN (by omega)
            have w8 : IntKind.i64.wrap ((i : Int) + 2) = ((i + 2 : Nat) : Int) := by rw [wrapI (by omega) (by omega)]; rfl
            have w9 : IntKind.i64.wrap ((i : Int) + 3) = ((i + 3 : Nat) : Int) := by rw [wrapI (by omega) (by omega)]; rfl
            have r1 : IntKind.i64.wrap (((i + 1) % 4 : Nat) : Int) = (((i + 1) % 4 : Nat) : Int) := wrapI (by omega) (by omega)
            have r2 : IntKind.i64.wrap (((i + 2) % 4 : Nat) : Int) = (((i + 2) % 4 : Nat) : Int) := wrapI (by omega) (by omega)
            have r3 : IntKind.i64.wrap (((i + 3) % 4 : Nat) : Int) = (((i + 3) % 4 : Nat) : Int) := wrapI (by omega) (by omega)
            have w1 : IntKind.i64.wrap (4 + (((i + 1) % 4 : Nat) : Int)) = ((4 + (i + 1) % 4 : Nat) : Int) := by rw [wrapI (by omega) (by omega)]; rfl
            have w2 : IntKind.i64.wrap (8 + (((i + 2) % 4 : Nat) : Int)) = ((8 + (i + 2) % 4 : Nat) : Int) := by rw [wrapI (by omega) (by omega)]; rfl
            have w3 : IntKind.i64.wrap (12 + (((i + 3) % 4 : Nat) : Int)) = ((12 + (i + 3) % 4 : Nat) : Int) := by rw [wrapI (by omega) (by omega)]; rfl
            have em : diagN (colsN (roundsF st n) 4) (i + 1) = mixQ (diagN (colsN (roundsF st n) 4) i) i (4 + (i + 1) % 4) (8 + (i + 2) % 4) (12 + (i + 3) % 4) := rfl
            have hj : 4 + (i + 1) % 4 < 16 := by omega
            have hkk : 8 + (i + 2) % 4 < 16 := by omega
            have hl : 12 + (i + 3) % 4 < 16 := by omega
            simp -implicitDefEqProofs only [zB1,zB2,zB3,zB4,zB5,zB6,zB7,zB8,zB9,zB10,zB11,y00,y01,y02,y03,y04,y05,y06,y07,y08,y09,y0a,y0b,y0c,y0d,y0e,y0f,y0g,y0h,y0i,y0j,y0k,y0l,y0m,y0n,y0o,y0p,y0q,y0r,y0s,y0t,y0u,y0v,y0w,y0x,y0y,y0z,y10,y11,y12,y13,y14,y15,y16,y17,y18,y19,y1a,y1b,y1c,y1d,y1e,y1f,y1g,y1h,y1i,y1j,y1k,y1l,y1m,y1n,y1o,y1p,y1q,y1r,retO,retL,retV,z69,allV,allP,z6a,z6d,z6e,z6k,z6l,z6m,binV,eqV,unV,oOpt,reduceIte,reduceCtorEq,Nat.reduceEqDiff,Nat.reduceAdd,Nat.reduceMul,Nat.reduceLT,Nat.reduceSub,Int.reduceLT,Int.reduceLE,Int.reduceEq,Int.reduceNe,Int.reduceSub,Int.reduceAdd,Int.reduceMul,Int.reduceBEq,Int.reduceBNe,Int.reduceGT,Int.reduceGE,Nat.reduceGT,Int.reduceToNat,Int.reduceNeg,Nat.reduceLeDiff,Nat.reduceBEq,Nat.reduceBneDiff,Value.cells, hli, w7, w8, w9, tmod4, r1, r2, r3, w1, w2, w3]
            generalize 4 + (i + 1) % 4 = j at *
            generalize 8 + (i + 2) % 4 = k at *
            generalize 12 + (i + 3) % 4 = l at *
            have i0 : (0 : Int) ≤ i := by omega
            have j0 : (0 : Int) ≤ (j : Int) := by omega
            have k0 : (0 : Int) ≤ (k : Int) := by omega
            have l0 : (0 : Int) ≤ (l : Int) := by omega
            have i1 : (i : Int) < 16 := by omega
            have j1 : (j : Int) < 16 := by omega
            have k1 : (k : Int) < 16 := by omega
            have l1 : (l : Int) < 16 := by omega
            have ci := rowU_at q8 (show i < 16 by omega)
            have cj := rowU_at q8 hj
            have ck := rowU_at q8 hkk
            have cl := rowU_at q8 hl
            generalize diagN (colsN (roundsF st n) 4) i = s at *
            unfold ir_bandboxref4_Block_106
            simp -implicitDefEqProofs only [zB1,zB2,zB3,zB4,zB5,zB6,zB7,zB8,zB9,zB10,zB11,y00,y01,y02,y03,y04,y05,y06,y07,y08,y09,y0a,y0b,y0c,y0d,y0e,y0f,y0g,y0h,y0i,y0j,y0k,y0l,y0m,y0n,y0o,y0p,y0q,y0r,y0s,y0t,y0u,y0v,y0w,y0x,y0y,y0z,y10,y11,y12,y13,y14,y15,y16,y17,y18,y19,y1a,y1b,y1c,y1d,y1e,y1f,y1g,y1h,y1i,y1j,y1k,y1l,y1m,y1n,y1o,y1p,y1q,y1r,retO,retL,retV,z69,allV,allP,z6a,z6d,z6e,z6k,z6l,z6m,binV,eqV,unV,oOpt,reduceIte,reduceCtorEq,Nat.reduceEqDiff,Nat.reduceAdd,Nat.reduceMul,Nat.reduceLT,Nat.reduceSub,Int.reduceLT,Int.reduceLE,Int.reduceEq,Int.reduceNe,Int.reduceSub,Int.reduceAdd,Int.reduceMul,Int.reduceBEq,Int.reduceBNe,Int.reduceGT,Int.reduceGE,Nat.reduceGT,Int.reduceToNat,Int.reduceNeg,Nat.reduceLeDiff,Nat.reduceBEq,Nat.reduceBneDiff,Value.cells, i0, j0, k0, l0, i1, j1, k1, l1, ci, cj, ck, cl, Int.toNat_natCast]
            refine (ref4_Quarter_c E _ _ _ _ _).mono ?_
            rintro r h' ⟨rfl, rfl⟩
            unfold Q4.V
            unfold mixQ at em
            simp only at em
            generalize quarF ⟨s i, s j, s k, s l⟩ = q at em ⊢
            have s1 := rowU_store (z := q.a) q8 (show i < 16 by omega)
            have p1 := Heap.set_self h' b8 (.own 0 (rowU (updU s i q.a) 16) 16)
            have s2 := rowU_store (z := q.b) p1 hj
            rw [Heap.set_set] at s2
            have p2 := Heap.set_self h' b8 (.own 0 (rowU (updU (updU s i q.a) j q.b) 16) 16)
            have s3 := rowU_store (z := q.c) p2 hkk
            rw [Heap.set_set] at s3
            have p3 := Heap.set_self h' b8 (.own 0 (rowU (updU (updU (updU s i q.a) j q.b) k q.c) 16) 16)
            have s4 := rowU_store (z := q.d) p3 hl
            rw [Heap.set_set] at s4
            simp -implicitDefEqProofs only [zB1,zB2,zB3,zB4,zB5,zB6,zB7,zB8,zB9,zB10,zB11,y00,y01,y02,y03,y04,y05,y06,y07,y08,y09,y0a,y0b,y0c,y0d,y0e,y0f,y0g,y0h,y0i,y0j,y0k,y0l,y0m,y0n,y0o,y0p,y0q,y0r,y0s,y0t,y0u,y0v,y0w,y0x,y0y,y0z,y10,y11,y12,y13,y14,y15,y16,y17,y18,y19,y1a,y1b,y1c,y1d,y1e,y1f,y1g,y1h,y1i,y1j,y1k,y1l,y1m,y1n,y1o,y1p,y1q,y1r,retO,retL,retV,z69,allV,allP,z6a,z6d,z6e,z6k,z6l,z6m,binV,eqV,unV,oOpt,reduceIte,reduceCtorEq,Nat.reduceEqDiff,Nat.reduceAdd,Nat.reduceMul,Nat.reduceLT,Nat.reduceSub,Int.reduceLT,Int.reduceLE,Int.reduceEq,Int.reduceNe,Int.reduceSub,Int.reduceAdd,Int.reduceMul,Int.reduceBEq,Int.reduceBNe,Int.reduceGT,Int.reduceGE,Nat.reduceGT,Int.reduceToNat,Int.reduceNeg,Nat.reduceLeDiff,Nat.reduceBEq,Nat.reduceBneDiff,Value.cells, w7, i0, j0, k0, l0, i1, j1, k1, l1, Int.toNat_natCast, s1, s2, s3, s4, implies_true, List.mem_cons, List.not_mem_nil, or_false, forall_eq, forall_eq_or_imp, and_self]
            exact ⟨_, by omega, Heap.le_set leH hb8' _, i + 1, by omega, rfl, rfl, set_keep q6 n68, set_keep q7 n78, by rw [Heap.set_self, em]⟩
          · obtain rfl : i = 4 := by omega
            have w7 : IntKind.i64.wrap ((n : Int) + 1) = ((n + 1 : Nat) : Int) := wrapN (by omega)
            simp -implicitDefEqProofs only [zB1,zB2,zB3,zB4,zB5,zB6,zB7,zB8,zB9,zB10,zB11,y00,y01,y02,y03,y04,y05,y06,y07,y08,y09,y0a,y0b,y0c,y0d,y0e,y0f,y0g,y0h,y0i,y0j,y0k,y0l,y0m,y0n,y0o,y0p,y0q,y0r,y0s,y0t,y0u,y0v,y0w,y0x,y0y,y0z,y10,y11,y12,y13,y14,y15,y16,y17,y18,y19,y1a,y1b,y1c,y1d,y1e,y1f,y1g,y1h,y1i,y1j,y1k,y1l,y1m,y1n,y1o,y1p,y1q,y1r,retO,retL,retV,z69,allV,allP,z6a,z6d,z6e,z6k,z6l,z6m,binV,eqV,unV,oOpt,reduceIte,reduceCtorEq,Nat.reduceEqDiff,Nat.reduceAdd,Nat.reduceMul,Nat.reduceLT,Nat.reduceSub,Int.reduceLT,Int.reduceLE,Int.reduceEq,Int.reduceNe,Int.reduceSub,Int.reduceAdd,Int.reduceMul,Int.reduceBEq,Int.reduceBNe,Int.reduceGT,Int.reduceGE,Nat.reduceGT,Int.reduceToNat,Int.reduceNeg,Nat.reduceLeDiff,Nat.reduceBEq,Nat.reduceBneDiff,Value.cells, hli, w7]
            exact ⟨_, by omega, leH, n + 1, by omega, rfl, rfl, q6, q7, q8⟩
      · obtain rfl : n = 10 := by omega
        simp -implicitDefEqProofs only [zB1,zB2,zB3,zB4,zB5,zB6,zB7,zB8,zB9,zB10,zB11,y00,y01,y02,y03,y04,y05,y06,y07,y08,y09,y0a,y0b,y0c,y0d,y0e,y0f,y0g,y0h,y0i,y0j,y0k,y0l,y0m,y0n,y0o,y0p,y0q,y0r,y0s,y0t,y0u,y0v,y0w,y0x,y0y,y0z,y10,y11,y12,y13,y14,y15,y16,y17,y18,y19,y1a,y1b,y1c,y1d,y1e,y1f,y1g,y1h,y1i,y1j,y1k,y1l,y1m,y1n,y1o,y1p,y1q,y1r,retO,retL,retV,z69,allV,allP,z6a,z6d,z6e,z6k,z6l,z6m,binV,eqV,unV,oOpt,reduceIte,reduceCtorEq,Nat.reduceEqDiff,Nat.reduceAdd,Nat.reduceMul,Nat.reduceLT,Nat.reduceSub,Int.reduceLT,Int.reduceLE,Int.reduceEq,Int.reduceNe,Int.reduceSub,Int.reduceAdd,Int.reduceMul,Int.reduceBEq,Int.reduceBNe,Int.reduceGT,Int.reduceGE,Nat.reduceGT,Int.reduceToNat,Int.reduceNeg,Nat.reduceLeDiff,Nat.reduceBEq,Nat.reduceBneDiff,Value.cells, hlt, List.length_replicate, List.drop_replicate, List.replicate_zero]
        intro b11 hb11
        have r64 : (List.replicate 64 (Value.int .u8 0)).all one = true := by decide
        have s11 : storeV (H.set b11 (.own 0 (List.replicate 64 (.int .u8 0)) 64)) 64 (.pointer (some ⟨b11, 0, none⟩)) (.agg (List.replicate 64 (Value.int .u8 0)).toArray) = some (H.set b11 (.own 0 (List.replicate 64 (.int .u8 0)) 64)) := z6q (by omega) (by simp) r64 (by simp) (by omega)
        have hb11' := Heap.none_of_le leH hb11
        have n611 := ne_of_none hb11 q6
        have n711 := ne_of_none hb11 q7
        have n811 := ne_of_none hb11 q8
        simp -implicitDefEqProofs only [zB1,zB2,zB3,zB4,zB5,zB6,zB7,zB8,zB9,zB10,zB11,y00,y01,y02,y03,y04,y05,y06,y07,y08,y09,y0a,y0b,y0c,y0d,y0e,y0f,y0g,y0h,y0i,y0j,y0k,y0l,y0m,y0n,y0o,y0p,y0q,y0r,y0s,y0t,y0u,y0v,y0w,y0x,y0y,y0z,y10,y11,y12,y13,y14,y15,y16,y17,y18,y19,y1a,y1b,y1c,y1d,y1e,y1f,y1g,y1h,y1i,y1j,y1k,y1l,y1m,y1n,y1o,y1p,y1q,y1r,retO,retL,retV,z69,allV,allP,z6a,z6d,z6e,z6k,z6l,z6m,binV,eqV,unV,oOpt,reduceIte,reduceCtorEq,Nat.reduceEqDiff,Nat.reduceAdd,Nat.reduceMul,Nat.reduceLT,Nat.reduceSub,Int.reduceLT,Int.reduceLE,Int.reduceEq,Int.reduceNe,Int.reduceSub,Int.reduceAdd,Int.reduceMul,Int.reduceBEq,Int.reduceBNe,Int.reduceGT,Int.reduceGE,Nat.reduceGT,Int.reduceToNat,Int.reduceNeg,Nat.reduceLeDiff,Nat.reduceBEq,Nat.reduceBneDiff,Value.cells, s11]
        unfold ir_bandboxref4_Block_18
        simp -implicitDefEqProofs only [zB1,zB2,zB3,zB4,zB5,zB6,zB7,zB8,zB9,zB10,zB11,y00,y01,y02,y03,y04,y05,y06,y07,y08,y09,y0a,y0b,y0c,y0d,y0e,y0f,y0g,y0h,y0i,y0j,y0k,y0l,y0m,y0n,y0o,y0p,y0q,y0r,y0s,y0t,y0u,y0v,y0w,y0x,y0y,y0z,y10,y11,y12,y13,y14,y15,y16,y17,y18,y19,y1a,y1b,y1c,y1d,y1e,y1f,y1g,y1h,y1i,y1j,y1k,y1l,y1m,y1n,y1o,y1p,y1q,y1r,retO,retL,retV,z69,allV,allP,z6a,z6d,z6e,z6k,z6l,z6m,binV,eqV,unV,oOpt,reduceIte,reduceCtorEq,Nat.reduceEqDiff,Nat.reduceAdd,Nat.reduceMul,Nat.reduceLT,Nat.reduceSub,Int.reduceLT,Int.reduceLE,Int.reduceEq,Int.reduceNe,Int.reduceSub,Int.reduceAdd,Int.reduceMul,Int.reduceBEq,Int.reduceBNe,Int.reduceGT,Int.reduceGE,Nat.reduceGT,Int.reduceToNat,Int.reduceNeg,Nat.reduceLeDiff,Nat.reduceBEq,Nat.reduceBneDiff,Value.cells]
        have leP := Heap.le_new leH hb11 (.own 0 (List.replicate 64 (.int .u8 0)) 64)
        refine wp_loop' (fun m t H => h.le H ∧ ∃ i : Nat, i ≤ 16 ∧ m = 16 - i ∧ t = tl [(6, .pointer (some ⟨b6, 0, none⟩)), (7, .pointer (some ⟨b7, 0, none⟩)), (10, .pointer (some ⟨b8, 0, none⟩)), (17, .pointer (some ⟨b11, 0, none⟩)), (18, .int .i64 i)] ∧
            H b6 = some (.own 0 (List.replicate 64 (.int .u8 0)) 64) ∧ H b7 = some (.own 0 (rowU st 16) 16) ∧ H b8 = some (.own 0 (rowU (roundsF st 10) 16) 16) ∧ H b11 = some (.own 0 (row8 (blend8 (bytesF (coutF st)) (4 * i)) 64) 64)) 16
          ⟨leP, 0, by omega, rfl, rfl, set_new hb11 q6, set_new hb11 q7, set_new hb11 q8, by rw [Heap.set_self, blend8_0 (bytesF (coutF st)) 64]⟩ ?_
        clear q6 q7 q8 leH leP hlt
        rintro m t H ⟨leH, i, hi, rfl, rfl, q6, q7, q8, q11⟩
        by_cases hlt : (i : Int) < 16
        · have hi' : i < 16 := by omega
          have e0 : (0 : Int) ≤ (i : Int) := by omega
          have c8 := rowU_at q8 hi'
          have c7 := rowU_at q7 hi'
          have w7 : IntKind.i64.wrap ((i : Int) + 1) = ((i + 1 : Nat) : Int) := wrapN (by omega)
          have w2 : IntKind.i64.wrap (4 * (i : Int)) = ((4 * i : Nat) : Int) := by rw [wrapI (by omega) (by omega)]; rfl
          have bd : bnds 64 64 (some (some (.int .i64 ((4 * i : Nat) : Int)))) none none = some (4 * i, 64, 64) := bnds_lo (by omega) (by omega)
          have ne : ¬ (64 = 4 * i) := by omega
          simp -implicitDefEqProofs only [zB1,zB2,zB3,zB4,zB5,zB6,zB7,zB8,zB9,zB10,zB11,y00,y01,y02,y03,y04,y05,y06,y07,y08,y09,y0a,y0b,y0c,y0d,y0e,y0f,y0g,y0h,y0i,y0j,y0k,y0l,y0m,y0n,y0o,y0p,y0q,y0r,y0s,y0t,y0u,y0v,y0w,y0x,y0y,y0z,y10,y11,y12,y13,y14,y15,y16,y17,y18,y19,y1a,y1b,y1c,y1d,y1e,y1f,y1g,y1h,y1i,y1j,y1k,y1l,y1m,y1n,y1o,y1p,y1q,y1r,retO,retL,retV,z69,allV,allP,z6a,z6d,z6e,z6k,z6l,z6m,binV,eqV,unV,oOpt,reduceIte,reduceCtorEq,Nat.reduceEqDiff,Nat.reduceAdd,Nat.reduceMul,Nat.reduceLT,Nat.reduceSub,Int.reduceLT,Int.reduceLE,Int.reduceEq,Int.reduceNe,Int.reduceSub,Int.reduceAdd,Int.reduceMul,Int.reduceBEq,Int.reduceBNe,Int.reduceGT,Int.reduceGE,Nat.reduceGT,Int.reduceToNat,Int.reduceNeg,Nat.reduceLeDiff,Nat.reduceBEq,Nat.reduceBneDiff,Value.cells, hlt, e0, Int.toNat_natCast, c8, c7, u32_add, u32_u64]
          refine (ref1_Little_c E _ [] (by simp) (Ow.nil H H 1).sl ((coutF st i).setWidth 64) 4 (by omega)).mono ?_
          rintro r H2 ⟨le2, ow⟩
          rw [List.nil_append] at ow
          have so := ow.sl
          unfold SlB at so
          rw [littleF_len] at so
          obtain ⟨base, c, rfl⟩ := Sl.shape so
          have q11' := le2 _ _ q11
          simp -implicitDefEqProofs only [zB1,zB2,zB3,zB4,zB5,zB6,zB7,zB8,zB9,zB10,zB11,y00,y01,y02,y03,y04,y05,y06,y07,y08,y09,y0a,y0b,y0c,y0d,y0e,y0f,y0g,y0h,y0i,y0j,y0k,y0l,y0m,y0n,y0o,y0p,y0q,y0r,y0s,y0t,y0u,y0v,y0w,y0x,y0y,y0z,y10,y11,y12,y13,y14,y15,y16,y17,y18,y19,y1a,y1b,y1c,y1d,y1e,y1f,y1g,y1h,y1i,y1j,y1k,y1l,y1m,y1n,y1o,y1p,y1q,y1r,retO,retL,retV,z69,allV,allP,z6a,z6d,z6e,z6k,z6l,z6m,binV,eqV,unV,oOpt,reduceIte,reduceCtorEq,Nat.reduceEqDiff,Nat.reduceAdd,Nat.reduceMul,Nat.reduceLT,Nat.reduceSub,Int.reduceLT,Int.reduceLE,Int.reduceEq,Int.reduceNe,Int.reduceSub,Int.reduceAdd,Int.reduceMul,Int.reduceBEq,Int.reduceBNe,Int.reduceGT,Int.reduceGE,Nat.reduceGT,Int.reduceToNat,Int.reduceNeg,Nat.reduceLeDiff,Nat.reduceBEq,Nat.reduceBneDiff,Value.cells, w2, bd, ne, add_off', Nat.zero_add, Nat.mul_one, List.mem_cons, List.not_mem_nil, or_false, forall_eq, implies_true]
          refine copyP_own (size := 1) (m := 4) (o := 4 * i) q11' (by rw [row8_len]; omega) (by rw [row8_len]; omega) so (one_u8 _) ?_
          have et : ((littleF ((coutF st i).setWidth 64) 4).map u8V).take (min 4 (64 - 4 * i) * 1) = ((List.range 4).map fun k => bytesF (coutF st) (4 * i + k)).map u8V := by
            rw [List.take_of_length_le (by simp [littleF_len]; omega), bytesF_little]
          rw [et, blend8_put _ _ _ (by omega)]
          simp -implicitDefEqProofs only [zB1,zB2,zB3,zB4,zB5,zB6,zB7,zB8,zB9,zB10,zB11,y00,y01,y02,y03,y04,y05,y06,y07,y08,y09,y0a,y0b,y0c,y0d,y0e,y0f,y0g,y0h,y0i,y0j,y0k,y0l,y0m,y0n,y0o,y0p,y0q,y0r,y0s,y0t,y0u,y0v,y0w,y0x,y0y,y0z,y10,y11,y12,y13,y14,y15,y16,y17,y18,y19,y1a,y1b,y1c,y1d,y1e,y1f,y1g,y1h,y1i,y1j,y1k,y1l,y1m,y1n,y1o,y1p,y1q,y1r,retO,retL,retV,z69,allV,allP,z6a,z6d,z6e,z6k,z6l,z6m,binV,eqV,unV,oOpt,reduceIte,reduceCtorEq,Nat.reduceEqDiff,Nat.reduceAdd,Nat.reduceMul,Nat.reduceLT,Nat.reduceSub,Int.reduceLT,Int.reduceLE,Int.reduceEq,Int.reduceNe,Int.reduceSub,Int.reduceAdd,Int.reduceMul,Int.reduceBEq,Int.reduceBNe,Int.reduceGT,Int.reduceGE,Nat.reduceGT,Int.reduceToNat,Int.reduceNeg,Nat.reduceLeDiff,Nat.reduceBEq,Nat.reduceBneDiff,Value.cells, w7]
          exact ⟨_, by omega, Heap.le_set (Heap.le_trans leH le2) hb11' _, i + 1, by omega, rfl, rfl, set_keep (le2 _ _ q6) n611, set_keep (le2 _ _ q7) n711, set_keep (le2 _ _ q8) n811, Heap.set_self _ _ _⟩
        · obtain rfl : i = 16 := by omega
          have e64 : row8 (blend8 (bytesF (coutF st)) (4 * 16)) 64 = row8 (bytesF (coutF st)) 64 := blend8_all _ _
          rw [e64] at q11
          have l11 : hcells H ⟨b11, 0, none⟩ 64 = some (row8 (bytesF (coutF st)) 64) := hcells_own0 q11 (row8_len _ _)
          have s6 : storeV H 64 (.pointer (some ⟨b6, 0, none⟩)) (.agg (row8 (bytesF (coutF st)) 64).toArray) = some (H.set b6 (.own 0 (row8 (bytesF (coutF st)) 64) 64)) := storeV_agg_at q6 (by omega) (row8_len _ _) (by simp [row8, one]) (by simp) (by omega)
          have l6 : hcells (H.set b6 (.own 0 (row8 (bytesF (coutF st)) 64) 64)) ⟨b6, 0, none⟩ 64 = some (row8 (bytesF (coutF st)) 64) := z6o (row8_len _ _)
          simp -implicitDefEqProofs only [zB1,zB2,zB3,zB4,zB5,zB6,zB7,zB8,zB9,zB10,zB11,y00,y01,y02,y03,y04,y05,y06,y07,y08,y09,y0a,y0b,y0c,y0d,y0e,y0f,y0g,y0h,y0i,y0j,y0k,y0l,y0m,y0n,y0o,y0p,y0q,y0r,y0s,y0t,y0u,y0v,y0w,y0x,y0y,y0z,y10,y11,y12,y13,y14,y15,y16,y17,y18,y19,y1a,y1b,y1c,y1d,y1e,y1f,y1g,y1h,y1i,y1j,y1k,y1l,y1m,y1n,y1o,y1p,y1q,y1r,retO,retL,retV,z69,allV,allP,z6a,z6d,z6e,z6k,z6l,z6m,binV,eqV,unV,oOpt,reduceIte,reduceCtorEq,Nat.reduceEqDiff,Nat.reduceAdd,Nat.reduceMul,Nat.reduceLT,Nat.reduceSub,Int.reduceLT,Int.reduceLE,Int.reduceEq,Int.reduceNe,Int.reduceSub,Int.reduceAdd,Int.reduceMul,Int.reduceBEq,Int.reduceBNe,Int.reduceGT,Int.reduceGE,Nat.reduceGT,Int.reduceToNat,Int.reduceNeg,Nat.reduceLeDiff,Nat.reduceBEq,Nat.reduceBneDiff,Value.cells, hlt, l11, s6, l6]
          exact Heap.le_set leH hb6' _
end Go.Bb
/- Contracts: bytes: exclusive or, equality. -/
namespace Go.Bb
set_option linter.unusedSimpArgs false
set_option linter.unusedVariables false
set_option maxRecDepth 20000
set_option maxHeartbeats 2000000

/-- A row of bytes that are ours, one of them written. -/
theorem byte_store {H : Heap} {b n sz : Nat} {l : List UInt8} {z : UInt8} {i : Nat} (h : H b = some (.own 0 (l.map u8V) sz)) (hi : i < l.length) (hs : l.length ≤ sz) : storeV H 1 (.pointer (some ⟨b, i, none⟩)) (.int .u8 (z.toNat : Int)) = some (H.set b (.own 0 ((l.set i z).map u8V) sz)) := by
  rw [storeV_one_at h rfl (by simpa using hi) (by simpa using hs), List.map_set]
  rfl

theorem octet_Xor_c (E : EnvT tab) (h : Heap) {v w : Value} (a b : List UInt8) (ha : a.length ≤ 140737488350000) (s : SlB h v a) (q : SlB h w b) : ACallN E.toEnv n_octet_Xor [v, w] h fun r h' => h.le h' ∧ OwB h h' r (xorB a b) := by
  obtain ⟨base, c, rfl⟩ := Sl.shape s
  obtain ⟨base2, c2, rfl⟩ := Sl.shape q
  refine acall h_octet_Xor ir_octet_Xor rfl rfl (wpA_sound ?_)
  unfold ir_octet_Xor
  have hmn : (if (b.length : Int) < (a.length : Int) then (b.length : Int) else (a.length : Int)) = ((min a.length b.length : Nat) : Int) := by
    split <;> omega
  have hlen := xorB_len a b
  generalize hk : min a.length b.length = k at hmn hlen
  have m1 : (0 : Int) ≤ (k : Int) ∧ (k : Int) ≤ (k : Int) ∧ (k : Int) ≤ 9223372036854775807 ∧ 1 * (k : Int) ≤ 281474976710656 := by omega
  simp -implicitDefEqProofs only [zB1,zB2,zB3,zB4,zB5,zB6,zB7,zB8,zB9,zB10,zB11,y00,y01,y02,y03,y04,y05,y06,y07,y08,y09,y0a,y0b,y0c,y0d,y0e,y0f,y0g,y0h,y0i,y0j,y0k,y0l,y0m,y0n,y0o,y0p,y0q,y0r,y0s,y0t,y0u,y0v,y0w,y0x,y0y,y0z,y10,y11,y12,y13,y14,y15,y16,y17,y18,y19,y1a,y1b,y1c,y1d,y1e,y1f,y1g,y1h,y1i,y1j,y1k,y1l,y1m,y1n,y1o,y1p,y1q,y1r,retO,retL,retV,z69,allV,allP,z6a,z6d,z6e,z6k,z6l,z6m,binV,eqV,unV,oOpt,reduceIte,reduceCtorEq,Nat.reduceEqDiff,Nat.reduceAdd,Nat.reduceMul,Nat.reduceLT,Nat.reduceSub,Int.reduceLT,Int.reduceLE,Int.reduceEq,Int.reduceNe,Int.reduceSub,Int.reduceAdd,Int.reduceMul,Int.reduceBEq,Int.reduceBNe,Int.reduceGT,Int.reduceGE,Nat.reduceGT,Int.reduceToNat,Int.reduceNeg,Nat.reduceLeDiff,Nat.reduceBEq,Nat.reduceBneDiff,Value.cells, hmn, if_pos m1, Int.toNat_natCast]
  intro b5 hb5
  unfold ir_octet_Xor_13
  simp -implicitDefEqProofs only [zB1,zB2,zB3,zB4,zB5,zB6,zB7,zB8,zB9,zB10,zB11,y00,y01,y02,y03,y04,y05,y06,y07,y08,y09,y0a,y0b,y0c,y0d,y0e,y0f,y0g,y0h,y0i,y0j,y0k,y0l,y0m,y0n,y0o,y0p,y0q,y0r,y0s,y0t,y0u,y0v,y0w,y0x,y0y,y0z,y10,y11,y12,y13,y14,y15,y16,y17,y18,y19,y1a,y1b,y1c,y1d,y1e,y1f,y1g,y1h,y1i,y1j,y1k,y1l,y1m,y1n,y1o,y1p,y1q,y1r,retO,retL,retV,z69,allV,allP,z6a,z6d,z6e,z6k,z6l,z6m,binV,eqV,unV,oOpt,reduceIte,reduceCtorEq,Nat.reduceEqDiff,Nat.reduceAdd,Nat.reduceMul,Nat.reduceLT,Nat.reduceSub,Int.reduceLT,Int.reduceLE,Int.reduceEq,Int.reduceNe,Int.reduceSub,Int.reduceAdd,Int.reduceMul,Int.reduceBEq,Int.reduceBNe,Int.reduceGT,Int.reduceGE,Nat.reduceGT,Int.reduceToNat,Int.reduceNeg,Nat.reduceLeDiff,Nat.reduceBEq,Nat.reduceBneDiff,Value.cells]
  refine wp_loop' (fun m t H => h.le H ∧ ∃ (j : Nat), t = tl [(0, .slice base a.length c), (1, .slice base2 b.length c2), (5, .slice (some ⟨b5, 0, none⟩) k k), (14, .int .i64 k), (15, .int .i64 j)] ∧ j ≤ k ∧ m = k - j ∧
      H b5 = some (.own 0 (((xorB a b).take j ++ List.replicate (k - j) 0).map u8V) k)) k
    ⟨Heap.le_new (Heap.le_refl _) hb5 _, 0, rfl, by omega, by omega, by rw [Heap.set_self]; simp [u8V]⟩ ?_
  rintro m t H ⟨leH, j, rfl, hj, rfl, q5⟩
  by_cases hlt : j < k
  · have e1 : (j : Int) < (k : Int) := by omega
    have e2 : (j : Int) < (a.length : Int) := by omega
    have e3 : (j : Int) < (b.length : Int) := by omega
    have e0 : (0 : Int) ≤ (j : Int) := by omega
    obtain ⟨b', o, c', hv, hc, hcl⟩ := Sl.byte_at s j (by omega)
    simp only [Value.slice.injEq, true_and] at hv
    obtain ⟨rfl, rfl⟩ := hv
    obtain ⟨b2', o2, c2', hv2, hc2, hcl2⟩ := Sl.byte_at q j (by omega)
    simp only [Value.slice.injEq, true_and] at hv2
    obtain ⟨rfl, rfl⟩ := hv2
    have hz := hcl H leH
    have hz2 := hcl2 H leH
    unfold u8V at hz hz2
    have w2 : IntKind.i64.wrap ((j : Int) + 1) = ((j + 1 : Nat) : Int) := wrapN (by omega)
    have st := byte_store (n := k) (z := a[j] ^^^ b[j]) (i := j) q5 (by simp [hlen]; omega) (by simp [hlen]; omega)
    have e : ((xorB a b).take j ++ List.replicate (k - j) 0).set j (a[j]'(by omega) ^^^ b[j]'(by omega)) = (xorB a b).take (j + 1) ++ List.replicate (k - (j + 1)) 0 := by
      rw [xorB_take a b j (by omega) (by omega), List.set_append_right _ _ (by simp [hlen]; omega)]
      have : (List.take j (xorB a b)).length = j := by simp [hlen]; omega
      rw [this, Nat.sub_self, show k - j = (k - (j + 1)) + 1 by omega, List.replicate_succ, List.set_cons_zero, List.append_assoc]
      rfl
    rw [e] at st
    simp -implicitDefEqProofs only [zB1,zB2,zB3,zB4,zB5,zB6,zB7,zB8,zB9,zB10,zB11,y00,y01,y02,y03,y04,y05,y06,y07,y08,y09,y0a,y0b,y0c,y0d,y0e,y0f,y0g,y0h,y0i,y0j,y0k,y0l,y0m,y0n,y0o,y0p,y0q,y0r,y0s,y0t,y0u,y0v,y0w,y0x,y0y,y0z,y10,y11,y12,y13,y14,y15,y16,y17,y18,y19,y1a,y1b,y1c,y1d,y1e,y1f,y1g,y1h,y1i,y1j,y1k,y1l,y1m,y1n,y1o,y1p,y1q,y1r,retO,retL,retV,z69,allV,allP,z6a,z6d,z6e,z6k,z6l,z6m,binV,eqV,unV,oOpt,reduceIte,reduceCtorEq,Nat.reduceEqDiff,Nat.reduceAdd,Nat.reduceMul,Nat.reduceLT,Nat.reduceSub,Int.reduceLT,Int.reduceLE,Int.reduceEq,Int.reduceNe,Int.reduceSub,Int.reduceAdd,Int.reduceMul,Int.reduceBEq,Int.reduceBNe,Int.reduceGT,Int.reduceGE,Nat.reduceGT,Int.reduceToNat,Int.reduceNeg,Nat.reduceLeDiff,Nat.reduceBEq,Nat.reduceBneDiff,Value.cells, e1, e2, e3, e0, Int.toNat_natCast, hz, hz2, u8_xorB, st, w2]
    exact ⟨_, by omega, Heap.le_set leH hb5 _, j + 1, rfl, by omega, rfl, Heap.set_self _ _ _⟩
  · obtain rfl : j = k := by omega
    have e1 : ¬ (j : Int) < (j : Int) := by omega
    simp -implicitDefEqProofs only [zB1,zB2,zB3,zB4,zB5,zB6,zB7,zB8,zB9,zB10,zB11,y00,y01,y02,y03,y04,y05,y06,y07,y08,y09,y0a,y0b,y0c,y0d,y0e,y0f,y0g,y0h,y0i,y0j,y0k,y0l,y0m,y0n,y0o,y0p,y0q,y0r,y0s,y0t,y0u,y0v,y0w,y0x,y0y,y0z,y10,y11,y12,y13,y14,y15,y16,y17,y18,y19,y1a,y1b,y1c,y1d,y1e,y1f,y1g,y1h,y1i,y1j,y1k,y1l,y1m,y1n,y1o,y1p,y1q,y1r,retO,retL,retV,z69,allV,allP,z6a,z6d,z6e,z6k,z6l,z6m,binV,eqV,unV,oOpt,reduceIte,reduceCtorEq,Nat.reduceEqDiff,Nat.reduceAdd,Nat.reduceMul,Nat.reduceLT,Nat.reduceSub,Int.reduceLT,Int.reduceLE,Int.reduceEq,Int.reduceNe,Int.reduceSub,Int.reduceAdd,Int.reduceMul,Int.reduceBEq,Int.reduceBNe,Int.reduceGT,Int.reduceGE,Nat.reduceGT,Int.reduceToNat,Int.reduceNeg,Nat.reduceLeDiff,Nat.reduceBEq,Nat.reduceBneDiff,Value.cells, e1]
    refine ⟨leH, ?_⟩
    rw [List.take_of_length_le (by omega), Nat.sub_self, List.replicate_zero, List.append_nil] at q5
    unfold OwB
    rw [hlen]
    exact .inr ⟨b5, 0, j, j, 0, [], [], rfl, Nat.le_refl _, hb5, by simpa using q5, rfl, by simp [hlen], by omega⟩
def diffB (a b : List UInt8) : UInt8 := (xorB a b).foldl (fun x y => x ||| y) 0
theorem or_zero (x y : UInt8) : x ||| y = 0 ↔ x = 0 ∧ y = 0 := by
  constructor
  · intro h
    have h1 : (x ||| y).toNat = 0 := by rw [h]; rfl
    rw [UInt8.toNat_or] at h1
    have := Nat.or_eq_zero_iff.1 h1
    exact ⟨UInt8.toNat_inj.1 this.1, UInt8.toNat_inj.1 this.2⟩
  · rintro ⟨rfl, rfl⟩; rfl
theorem xor_zero (x y : UInt8) : x ^^^ y = 0 ↔ x = y := UInt8.xor_eq_zero_iff
theorem foldl_or (l : List UInt8) : ∀ x, l.foldl (fun x y => x ||| y) x = 0 ↔ x = 0 ∧ ∀ y ∈ l, y = 0 := by
  induction l with
  | nil => intro x; simp
  | cons a l ih =>
    intro x
    rw [List.foldl_cons, ih, or_zero]
    simp [and_assoc]
theorem xorB_zero : ∀ a b : List UInt8, a.length = b.length → ((∀ y ∈ xorB a b, y = 0) ↔ a = b)
  | [], [], _ => by simp [xorB]
  | [], _ :: _, h => by simp at h
  | _ :: _, [], h => by simp at h
  | x :: a, y :: b, h => by
    have ih := xorB_zero a b (by simpa using h)
    unfold xorB at ih ⊢
    simp only [List.zipWith_cons_cons, List.mem_cons, forall_eq_or_imp, List.cons.injEq, xor_zero]
    rw [ih]
theorem diffB_eq (a b : List UInt8) : (diffB a b = 0 ∧ a.length = b.length) ↔ a = b := by
  unfold diffB
  rw [foldl_or]
  constructor
  · rintro ⟨⟨_, h⟩, hl⟩; exact (xorB_zero a b hl).1 h
  · rintro rfl; exact ⟨⟨rfl, (xorB_zero a a rfl).2 rfl⟩, rfl⟩
theorem octet_Equal_c (E : EnvT tab) (h : Heap) {v w : Value} (a b : List UInt8) (ha : a.length ≤ 140737488350000) (s : SlB h v a) (q : SlB h w b) : ACallN E.toEnv n_octet_Equal [v, w] h fun r h' => h' = h ∧ r = .bool (decide (a = b)) := by
  obtain ⟨base, c, rfl⟩ := Sl.shape s
  obtain ⟨base2, c2, rfl⟩ := Sl.shape q
  refine acall h_octet_Equal ir_octet_Equal rfl rfl (wpA_sound ?_)
  unfold ir_octet_Equal
  have hmn : (if (b.length : Int) < (a.length : Int) then (b.length : Int) else (a.length : Int)) = ((min a.length b.length : Nat) : Int) := by
    split <;> omega
  have hlen := xorB_len a b
  generalize hk : min a.length b.length = k at hmn hlen
  simp -implicitDefEqProofs only [zB1,zB2,zB3,zB4,zB5,zB6,zB7,zB8,zB9,zB10,zB11,y00,y01,y02,y03,y04,y05,y06,y07,y08,y09,y0a,y0b,y0c,y0d,y0e,y0f,y0g,y0h,y0i,y0j,y0k,y0l,y0m,y0n,y0o,y0p,y0q,y0r,y0s,y0t,y0u,y0v,y0w,y0x,y0y,y0z,y10,y11,y12,y13,y14,y15,y16,y17,y18,y19,y1a,y1b,y1c,y1d,y1e,y1f,y1g,y1h,y1i,y1j,y1k,y1l,y1m,y1n,y1o,y1p,y1q,y1r,retO,retL,retV,z69,allV,allP,z6a,z6d,z6e,z6k,z6l,z6m,binV,eqV,unV,oOpt,reduceIte,reduceCtorEq,Nat.reduceEqDiff,Nat.reduceAdd,Nat.reduceMul,Nat.reduceLT,Nat.reduceSub,Int.reduceLT,Int.reduceLE,Int.reduceEq,Int.reduceNe,Int.reduceSub,Int.reduceAdd,Int.reduceMul,Int.reduceBEq,Int.reduceBNe,Int.reduceGT,Int.reduceGE,Nat.reduceGT,Int.reduceToNat,Int.reduceNeg,Nat.reduceLeDiff,Nat.reduceBEq,Nat.reduceBneDiff,Value.cells]
  unfold ir_octet_Equal_7
  simp -implicitDefEqProofs only [zB1,zB2,zB3,zB4,zB5,zB6,zB7,zB8,zB9,zB10,zB11,y00,y01,y02,y03,y04,y05,y06,y07,y08,y09,y0a,y0b,y0c,y0d,y0e,y0f,y0g,y0h,y0i,y0j,y0k,y0l,y0m,y0n,y0o,y0p,y0q,y0r,y0s,y0t,y0u,y0v,y0w,y0x,y0y,y0z,y10,y11,y12,y13,y14,y15,y16,y17,y18,y19,y1a,y1b,y1c,y1d,y1e,y1f,y1g,y1h,y1i,y1j,y1k,y1l,y1m,y1n,y1o,y1p,y1q,y1r,retO,retL,retV,z69,allV,allP,z6a,z6d,z6e,z6k,z6l,z6m,binV,eqV,unV,oOpt,reduceIte,reduceCtorEq,Nat.reduceEqDiff,Nat.reduceAdd,Nat.reduceMul,Nat.reduceLT,Nat.reduceSub,Int.reduceLT,Int.reduceLE,Int.reduceEq,Int.reduceNe,Int.reduceSub,Int.reduceAdd,Int.reduceMul,Int.reduceBEq,Int.reduceBNe,Int.reduceGT,Int.reduceGE,Nat.reduceGT,Int.reduceToNat,Int.reduceNeg,Nat.reduceLeDiff,Nat.reduceBEq,Nat.reduceBneDiff,Value.cells, hmn]
  refine wp_loop' (fun m t H => H = h ∧ ∃ (j : Nat), t = tl [(0, .slice base a.length c), (1, .slice base2 b.length c2), (5, .int .u8 (((xorB a b).take j).foldl (fun x y => x ||| y) 0).toNat), (11, .int .i64 k), (12, .int .i64 j)] ∧ j ≤ k ∧ m = k - j) k
    ⟨rfl, 0, rfl, by omega, by omega⟩ ?_
  rintro m t H ⟨rfl, j, rfl, hj, rfl⟩
  by_cases hlt : j < k
  · have e1 : (j : Int) < (k : Int) := by omega
    have e2 : (j : Int) < (a.length : Int) := by omega
    have e3 : (j : Int) < (b.length : Int) := by omega
    have e0 : (0 : Int) ≤ (j : Int) := by omega
    obtain ⟨b', o, c', hv, hc, hcl⟩ := Sl.byte_at s j (by omega)
    simp only [Value.slice.injEq, true_and] at hv
    obtain ⟨rfl, rfl⟩ := hv
    obtain ⟨b2', o2, c2', hv2, hc2, hcl2⟩ := Sl.byte_at q j (by omega)
    simp only [Value.slice.injEq, true_and] at hv2
    obtain ⟨rfl, rfl⟩ := hv2
    have hz := hcl H (Heap.le_refl _)
    have hz2 := hcl2 H (Heap.le_refl _)
    unfold u8V at hz hz2
    have w2 : IntKind.i64.wrap ((j : Int) + 1) = ((j + 1 : Nat) : Int) := wrapN (by omega)
    simp -implicitDefEqProofs only [zB1,zB2,zB3,zB4,zB5,zB6,zB7,zB8,zB9,zB10,zB11,y00,y01,y02,y03,y04,y05,y06,y07,y08,y09,y0a,y0b,y0c,y0d,y0e,y0f,y0g,y0h,y0i,y0j,y0k,y0l,y0m,y0n,y0o,y0p,y0q,y0r,y0s,y0t,y0u,y0v,y0w,y0x,y0y,y0z,y10,y11,y12,y13,y14,y15,y16,y17,y18,y19,y1a,y1b,y1c,y1d,y1e,y1f,y1g,y1h,y1i,y1j,y1k,y1l,y1m,y1n,y1o,y1p,y1q,y1r,retO,retL,retV,z69,allV,allP,z6a,z6d,z6e,z6k,z6l,z6m,binV,eqV,unV,oOpt,reduceIte,reduceCtorEq,Nat.reduceEqDiff,Nat.reduceAdd,Nat.reduceMul,Nat.reduceLT,Nat.reduceSub,Int.reduceLT,Int.reduceLE,Int.reduceEq,Int.reduceNe,Int.reduceSub,Int.reduceAdd,Int.reduceMul,Int.reduceBEq,Int.reduceBNe,Int.reduceGT,Int.reduceGE,Nat.reduceGT,Int.reduceToNat,Int.reduceNeg,Nat.reduceLeDiff,Nat.reduceBEq,Nat.reduceBneDiff,Value.cells, e1, e2, e3, e0, Int.toNat_natCast, hz, hz2, u8_xorB, u8_or, w2]
    refine ⟨_, by omega, j + 1, ?_, by omega, rfl⟩
    rw [xorB_take a b j (by omega) (by omega), List.foldl_append, List.foldl_cons, List.foldl_nil]
  · obtain rfl : j = k := by omega
    have e1 : ¬ (j : Int) < (j : Int) := by omega
    rw [List.take_of_length_le (by omega)]
    have hd := diffB_eq a b
    unfold diffB at hd
    generalize (xorB a b).foldl (fun x y => x ||| y) 0 = d at hd ⊢
    simp -implicitDefEqProofs only [zB1,zB2,zB3,zB4,zB5,zB6,zB7,zB8,zB9,zB10,zB11,y00,y01,y02,y03,y04,y05,y06,y07,y08,y09,y0a,y0b,y0c,y0d,y0e,y0f,y0g,y0h,y0i,y0j,y0k,y0l,y0m,y0n,y0o,y0p,y0q,y0r,y0s,y0t,y0u,y0v,y0w,y0x,y0y,y0z,y10,y11,y12,y13,y14,y15,y16,y17,y18,y19,y1a,y1b,y1c,y1d,y1e,y1f,y1g,y1h,y1i,y1j,y1k,y1l,y1m,y1n,y1o,y1p,y1q,y1r,retO,retL,retV,z69,allV,allP,z6a,z6d,z6e,z6k,z6l,z6m,binV,eqV,unV,oOpt,reduceIte,reduceCtorEq,Nat.reduceEqDiff,Nat.reduceAdd,Nat.reduceMul,Nat.reduceLT,Nat.reduceSub,Int.reduceLT,Int.reduceLE,Int.reduceEq,Int.reduceNe,Int.reduceSub,Int.reduceAdd,Int.reduceMul,Int.reduceBEq,Int.reduceBNe,Int.reduceGT,Int.reduceGE,Nat.reduceGT,Int.reduceToNat,Int.reduceNeg,Nat.reduceLeDiff,Nat.reduceBEq,Nat.reduceBneDiff,Value.cells, e1]
    unfold ir_octet_Equal_27
    by_cases hz : d = 0
    · subst hz
      by_cases hl : a.length = b.length
      · have hab := hd.1 ⟨rfl, hl⟩
        subst hab
        have e4 : (((0 : UInt8).toNat : Nat) : Int) = 0 := rfl
        simp -implicitDefEqProofs only [zB1,zB2,zB3,zB4,zB5,zB6,zB7,zB8,zB9,zB10,zB11,y00,y01,y02,y03,y04,y05,y06,y07,y08,y09,y0a,y0b,y0c,y0d,y0e,y0f,y0g,y0h,y0i,y0j,y0k,y0l,y0m,y0n,y0o,y0p,y0q,y0r,y0s,y0t,y0u,y0v,y0w,y0x,y0y,y0z,y10,y11,y12,y13,y14,y15,y16,y17,y18,y19,y1a,y1b,y1c,y1d,y1e,y1f,y1g,y1h,y1i,y1j,y1k,y1l,y1m,y1n,y1o,y1p,y1q,y1r,retO,retL,retV,z69,allV,allP,z6a,z6d,z6e,z6k,z6l,z6m,binV,eqV,unV,oOpt,reduceIte,reduceCtorEq,Nat.reduceEqDiff,Nat.reduceAdd,Nat.reduceMul,Nat.reduceLT,Nat.reduceSub,Int.reduceLT,Int.reduceLE,Int.reduceEq,Int.reduceNe,Int.reduceSub,Int.reduceAdd,Int.reduceMul,Int.reduceBEq,Int.reduceBNe,Int.reduceGT,Int.reduceGE,Nat.reduceGT,Int.reduceToNat,Int.reduceNeg,Nat.reduceLeDiff,Nat.reduceBEq,Nat.reduceBneDiff,Value.cells, e4]
        simp
      · have hab : ¬ a = b := fun x => by rw [x] at hl; exact hl rfl
        have e4 : (((0 : UInt8).toNat : Nat) : Int) = 0 := rfl
        have e5 : ¬ ((a.length : Int) = (b.length : Int)) := by omega
        simp -implicitDefEqProofs only [zB1,zB2,zB3,zB4,zB5,zB6,zB7,zB8,zB9,zB10,zB11,y00,y01,y02,y03,y04,y05,y06,y07,y08,y09,y0a,y0b,y0c,y0d,y0e,y0f,y0g,y0h,y0i,y0j,y0k,y0l,y0m,y0n,y0o,y0p,y0q,y0r,y0s,y0t,y0u,y0v,y0w,y0x,y0y,y0z,y10,y11,y12,y13,y14,y15,y16,y17,y18,y19,y1a,y1b,y1c,y1d,y1e,y1f,y1g,y1h,y1i,y1j,y1k,y1l,y1m,y1n,y1o,y1p,y1q,y1r,retO,retL,retV,z69,allV,allP,z6a,z6d,z6e,z6k,z6l,z6m,binV,eqV,unV,oOpt,reduceIte,reduceCtorEq,Nat.reduceEqDiff,Nat.reduceAdd,Nat.reduceMul,Nat.reduceLT,Nat.reduceSub,Int.reduceLT,Int.reduceLE,Int.reduceEq,Int.reduceNe,Int.reduceSub,Int.reduceAdd,Int.reduceMul,Int.reduceBEq,Int.reduceBNe,Int.reduceGT,Int.reduceGE,Nat.reduceGT,Int.reduceToNat,Int.reduceNeg,Nat.reduceLeDiff,Nat.reduceBEq,Nat.reduceBneDiff,Value.cells, e4, e5, hab]
        have e6 : ((a.length : Int) == (b.length : Int)) = false := by simp; omega
        rw [e6]
    · have hab : ¬ a = b := fun x => hz (hd.2 x).1
      have e4 : ¬ ((d.toNat : Int) = 0) := by
        intro x
        apply hz
        apply UInt8.toNat_inj.1
        show d.toNat = 0
        omega
      simp -implicitDefEqProofs only [zB1,zB2,zB3,zB4,zB5,zB6,zB7,zB8,zB9,zB10,zB11,y00,y01,y02,y03,y04,y05,y06,y07,y08,y09,y0a,y0b,y0c,y0d,y0e,y0f,y0g,y0h,y0i,y0j,y0k,y0l,y0m,y0n,y0o,y0p,y0q,y0r,y0s,y0t,y0u,y0v,y0w,y0x,y0y,y0z,y10,y11,y12,y13,y14,y15,y16,y17,y18,y19,y1a,y1b,y1c,y1d,y1e,y1f,y1g,y1h,y1i,y1j,y1k,y1l,y1m,y1n,y1o,y1p,y1q,y1r,retO,retL,retV,z69,allV,allP,z6a,z6d,z6e,z6k,z6l,z6m,binV,eqV,unV,oOpt,reduceIte,reduceCtorEq,Nat.reduceEqDiff,Nat.reduceAdd,Nat.reduceMul,Nat.reduceLT,Nat.reduceSub,Int.reduceLT,Int.reduceLE,Int.reduceEq,Int.reduceNe,Int.reduceSub,Int.reduceAdd,Int.reduceMul,Int.reduceBEq,Int.reduceBNe,Int.reduceGT,Int.reduceGE,Nat.reduceGT,Int.reduceToNat,Int.reduceNeg,Nat.reduceLeDiff,Nat.reduceBEq,Nat.reduceBneDiff,Value.cells, e4, hab]
end Go.Bb
/- Contracts: streams of keys: Xor. -/
namespace Go.Bb
set_option linter.unusedSimpArgs false
set_option linter.unusedVariables false
set_option maxRecDepth 20000
set_option maxHeartbeats 2000000

/-- Bytes, mixed with the stream. -/
def sxF (key : List UInt8) (count : U32) (nonce l : List UInt8) : List UInt8 := (List.range l.length).map fun k => l.getD k 0 ^^^ blockF key (count + BitVec.ofNat 32 (k / 64)) nonce (k % 64)
theorem sxF_len (key : List UInt8) (count : U32) (nonce l : List UInt8) : (sxF key count nonce l).length = l.length := by simp [sxF]
theorem sxF_get {key : List UInt8} {count : U32} {nonce l : List UInt8} {k : Nat} (h : k < l.length) : (sxF key count nonce l)[k]? = some (l[k] ^^^ blockF key (count + BitVec.ofNat 32 (k / 64)) nonce (k % 64)) := by
  simp [sxF, h]
theorem sxF_step (key : List UInt8) (count : U32) (nonce l : List UInt8) (n m : Nat) (hn : 64 * n < l.length) (hm : m = min 64 (l.length - 64 * n)) :
    (sxF key count nonce l).take (64 * (n + 1)) = (sxF key count nonce l).take (64 * n) ++ xorB ((l.drop (64 * n)).take m) (rowL (blockF key (count + BitVec.ofNat 32 n) nonce) 64) := by
  have hx := xorB_len ((l.drop (64 * n)).take m) (rowL (blockF key (count + BitVec.ofNat 32 n) nonce) 64)
  rw [rowL_len, List.length_take, List.length_drop] at hx
  apply List.ext_getElem?
  intro j
  rw [List.getElem?_take, List.getElem?_append]
  have hl : ((sxF key count nonce l).take (64 * n)).length = 64 * n := by rw [List.length_take, sxF_len]; omega
  rw [hl]
  by_cases h1 : j < 64 * n
  · rw [if_pos (by omega), if_pos h1, List.getElem?_take, if_pos h1]
  · rw [if_neg h1]
    by_cases h2 : j < 64 * (n + 1)
    · rw [if_pos h2]
      by_cases h3 : j < l.length
      · rw [sxF_get h3]
        have hj : j - 64 * n < (xorB ((l.drop (64 * n)).take m) (rowL (blockF key (count + BitVec.ofNat 32 n) nonce) 64)).length := by omega
        rw [List.getElem?_eq_getElem hj]
        simp [xorB, rowL]
        have e1 : 64 * n + (j - 64 * n) = j := by omega
        have e2 : j / 64 = n := by omega
        have e3 : j % 64 = j - 64 * n := by omega
        simp only [e1, e2, e3]
      · rw [List.getElem?_eq_none (by rw [sxF_len]; omega), List.getElem?_eq_none (by omega)]
    · rw [if_neg h2, List.getElem?_eq_none (by omega)]
theorem tdiv64 (a : Nat) : Int.tdiv (a : Int) 64 = ((a / 64 : Nat) : Int) := by
  rw [Int.tdiv_eq_ediv_of_nonneg (by omega)]; rfl
theorem tmod64 (a : Nat) : Int.tmod (a : Int) 64 = ((a % 64 : Nat) : Int) := by
  rw [Int.tmod_eq_emod_of_nonneg (by omega)]; rfl
theorem u32_lit (n : Nat) (h : n < 4294967296) : IntKind.u32.wrap (n : Int) = ((BitVec.ofNat 32 n).toNat : Int) := by
  rw [wrap_u32, ofInt_nat]

theorem chaXor23 (E : EnvT tab) {h H : Heap} {base : Option Addr} {c b4 b6 : Nat} {nd : Int} (xs : List (Nat × Value)) (key nonce l : List UInt8) (count : U32) (hk : key.length = 32) (hn : nonce.length = 12) (hl : l.length ≤ 100000000) (hc : nd + count.toNat ≤ 4294967296) (hc0 : 0 ≤ nd) (sl : SlB h (.slice base l.length c) l)
    (hh : h.le H) (q4 : H b4 = some (.own 0 (key.map u8V) 32)) (q6 : H b6 = some (.own 0 (nonce.map u8V) 12)) :
    wpA E.toEnv 58 ir_chacha_Xor_23 (qRet [ARes.tmp 8, ARes.tmp 9] fun r h' => h.le h' ∧ ∃ r', r = .tuple #[r', .int .i64 0] ∧ OwB h h' r' (sxF key count nonce l))
      (tl ([(1, .int .u32 count.toNat), (3, .slice base l.length c), (4, .pointer (some ⟨b4, 0, none⟩)), (6, .pointer (some ⟨b6, 0, none⟩)), (10, .int .i64 nd)] ++ xs)) H := by
  unfold ir_chacha_Xor_23
  have hcn : count.toNat < 4294967296 := count.isLt
  have w1 : IntKind.i64.wrap (count.toNat : Int) = (count.toNat : Int) := wrapI (by omega) (by omega)
  have w2 : IntKind.i64.wrap (4294967296 - (count.toNat : Int)) = 4294967296 - (count.toNat : Int) := wrapI (by omega) (by omega)
  have g1 : ¬ (4294967296 - (count.toNat : Int) < nd) := by omega
  have g1' : nd ≤ 4294967296 - (count.toNat : Int) := by omega
  have hcap : l.length ≤ c := by
    rcases sl with ⟨e, hn, _⟩ | ⟨a, c', e, hc, _⟩
    · omega
    · cases e; exact hc
  have m1 : (0 : Int) ≤ (l.length : Int) ∧ (l.length : Int) ≤ 9223372036854775807 ∧ 1 * (l.length : Int) ≤ 281474976710656 := by omega
  simp -implicitDefEqProofs only [zB1,zB2,zB3,zB4,zB5,zB6,zB7,zB8,zB9,zB10,zB11,y00,y01,y02,y03,y04,y05,y06,y07,y08,y09,y0a,y0b,y0c,y0d,y0e,y0f,y0g,y0h,y0i,y0j,y0k,y0l,y0m,y0n,y0o,y0p,y0q,y0r,y0s,y0t,y0u,y0v,y0w,y0x,y0y,y0z,y10,y11,y12,y13,y14,y15,y16,y17,y18,y19,y1a,y1b,y1c,y1d,y1e,y1f,y1g,y1h,y1i,y1j,y1k,y1l,y1m,y1n,y1o,y1p,y1q,y1r,retO,retL,retV,z69,allV,allP,z6a,z6d,z6e,z6k,z6l,z6m,binV,eqV,unV,oOpt,reduceIte,reduceCtorEq,Nat.reduceEqDiff,Nat.reduceAdd,Nat.reduceMul,Nat.reduceLT,Nat.reduceSub,Int.reduceLT,Int.reduceLE,Int.reduceEq,Int.reduceNe,Int.reduceSub,Int.reduceAdd,Int.reduceMul,Int.reduceBEq,Int.reduceBNe,Int.reduceGT,Int.reduceGE,Nat.reduceGT,Int.reduceToNat,Int.reduceNeg,Nat.reduceLeDiff,Nat.reduceBEq,Nat.reduceBneDiff,Value.cells, w1, w2, g1, g1', if_pos m1, Int.toNat_natCast, Int.toNat_zero]
  intro b11 hb11
  have o11 : OwB H (H.set b11 (.own 0 (List.replicate l.length (.int .u8 0)) l.length)) (.slice (some ⟨b11, 0, none⟩) 0 l.length) [] :=
    .inr ⟨b11, 0, l.length, l.length, 0, [], List.replicate l.length (.int .u8 0), rfl, Nat.zero_le _, hb11, by rw [Heap.set_self]; simp, rfl, by simp, by omega⟩
  have le1 := Heap.le_new (Heap.le_refl H) hb11 (.own 0 (List.replicate l.length (.int .u8 0)) l.length)
  have hlen := sxF_len key count nonce l
  refine wp_loop' (fun m t H' => H.le H' ∧ ∃ (n : Nat) (v11 : Value), t = tl [(1, .int .u32 count.toNat), (3, .slice base l.length c), (4, .pointer (some ⟨b4, 0, none⟩)), (6, .pointer (some ⟨b6, 0, none⟩)), (11, v11), (12, .int .i64 ((64 * n : Nat) : Int))] ∧ 64 * n ≤ l.length + 63 ∧ m = l.length + 64 - 64 * n ∧
      OwB H H' v11 ((sxF key count nonce l).take (64 * n))) (l.length + 64)
    ⟨le1, 0, _, rfl, by omega, by omega, by simpa using o11⟩ ?_
  rintro m t H' ⟨le', n, v11, rfl, hn64, rfl, ow⟩
  by_cases hlt : 64 * n < l.length
  · have e1 : ((64 * n : Nat) : Int) < (l.length : Int) := by omega
    have l4 : hcells H' ⟨b4, 0, none⟩ 32 = some (key.map u8V) := hcells_own0 (le' _ _ q4) (by simp [hk])
    have l6 : hcells H' ⟨b6, 0, none⟩ 12 = some (nonce.map u8V) := hcells_own0 (le' _ _ q6) (by simp [hn])
    have dv : Int.tdiv ((64 * n : Nat) : Int) 64 = (n : Int) := by rw [tdiv64]; congr 1; omega
    have dw : IntKind.i64.wrap (n : Int) = (n : Int) := wrapI (by omega) (by omega)
    have du := u32_lit n (by omega)
    simp -implicitDefEqProofs only [zB1,zB2,zB3,zB4,zB5,zB6,zB7,zB8,zB9,zB10,zB11,y00,y01,y02,y03,y04,y05,y06,y07,y08,y09,y0a,y0b,y0c,y0d,y0e,y0f,y0g,y0h,y0i,y0j,y0k,y0l,y0m,y0n,y0o,y0p,y0q,y0r,y0s,y0t,y0u,y0v,y0w,y0x,y0y,y0z,y10,y11,y12,y13,y14,y15,y16,y17,y18,y19,y1a,y1b,y1c,y1d,y1e,y1f,y1g,y1h,y1i,y1j,y1k,y1l,y1m,y1n,y1o,y1p,y1q,y1r,retO,retL,retV,z69,allV,allP,z6a,z6d,z6e,z6k,z6l,z6m,binV,eqV,unV,oOpt,reduceIte,reduceCtorEq,Nat.reduceEqDiff,Nat.reduceAdd,Nat.reduceMul,Nat.reduceLT,Nat.reduceSub,Int.reduceLT,Int.reduceLE,Int.reduceEq,Int.reduceNe,Int.reduceSub,Int.reduceAdd,Int.reduceMul,Int.reduceBEq,Int.reduceBNe,Int.reduceGT,Int.reduceGE,Nat.reduceGT,Int.reduceToNat,Int.reduceNeg,Nat.reduceLeDiff,Nat.reduceBEq,Nat.reduceBneDiff,Value.cells, e1]
    unfold ir_chacha_Xor_37
    simp -implicitDefEqProofs only [zB1,zB2,zB3,zB4,zB5,zB6,zB7,zB8,zB9,zB10,zB11,y00,y01,y02,y03,y04,y05,y06,y07,y08,y09,y0a,y0b,y0c,y0d,y0e,y0f,y0g,y0h,y0i,y0j,y0k,y0l,y0m,y0n,y0o,y0p,y0q,y0r,y0s,y0t,y0u,y0v,y0w,y0x,y0y,y0z,y10,y11,y12,y13,y14,y15,y16,y17,y18,y19,y1a,y1b,y1c,y1d,y1e,y1f,y1g,y1h,y1i,y1j,y1k,y1l,y1m,y1n,y1o,y1p,y1q,y1r,retO,retL,retV,z69,allV,allP,z6a,z6d,z6e,z6k,z6l,z6m,binV,eqV,unV,oOpt,reduceIte,reduceCtorEq,Nat.reduceEqDiff,Nat.reduceAdd,Nat.reduceMul,Nat.reduceLT,Nat.reduceSub,Int.reduceLT,Int.reduceLE,Int.reduceEq,Int.reduceNe,Int.reduceSub,Int.reduceAdd,Int.reduceMul,Int.reduceBEq,Int.reduceBNe,Int.reduceGT,Int.reduceGE,Nat.reduceGT,Int.reduceToNat,Int.reduceNeg,Nat.reduceLeDiff,Nat.reduceBEq,Nat.reduceBneDiff,Value.cells, l4, l6, dv, dw, du, u32_add]
    refine (chacha_Block_c E _ key nonce _ hk hn).mono ?_
    rintro r H2 ⟨le2, rfl⟩
    simp -implicitDefEqProofs only [zB1,zB2,zB3,zB4,zB5,zB6,zB7,zB8,zB9,zB10,zB11,y00,y01,y02,y03,y04,y05,y06,y07,y08,y09,y0a,y0b,y0c,y0d,y0e,y0f,y0g,y0h,y0i,y0j,y0k,y0l,y0m,y0n,y0o,y0p,y0q,y0r,y0s,y0t,y0u,y0v,y0w,y0x,y0y,y0z,y10,y11,y12,y13,y14,y15,y16,y17,y18,y19,y1a,y1b,y1c,y1d,y1e,y1f,y1g,y1h,y1i,y1j,y1k,y1l,y1m,y1n,y1o,y1p,y1q,y1r,retO,retL,retV,z69,allV,allP,z6a,z6d,z6e,z6k,z6l,z6m,binV,eqV,unV,oOpt,reduceIte,reduceCtorEq,Nat.reduceEqDiff,Nat.reduceAdd,Nat.reduceMul,Nat.reduceLT,Nat.reduceSub,Int.reduceLT,Int.reduceLE,Int.reduceEq,Int.reduceNe,Int.reduceSub,Int.reduceAdd,Int.reduceMul,Int.reduceBEq,Int.reduceBNe,Int.reduceGT,Int.reduceGE,Nat.reduceGT,Int.reduceToNat,Int.reduceNeg,Nat.reduceLeDiff,Nat.reduceBEq,Nat.reduceBneDiff,Value.cells, List.length_replicate]
    intro b13 hb13
    have s13 : storeV (H2.set b13 (.own 0 (List.replicate 64 (.int .u8 0)) 64)) 64 (.pointer (some ⟨b13, 0, none⟩)) (.agg (row8 (blockF key (count + BitVec.ofNat 32 n) nonce) 64).toArray) = some (H2.set b13 (.own 0 (row8 (blockF key (count + BitVec.ofNat 32 n) nonce) 64) 64)) := z6q (by omega) (row8_len _ _) (by simp [row8, one]) (by simp) (by omega)
    have w3 : IntKind.i64.wrap (((64 * n : Nat) : Int) + 64) = ((64 * (n + 1) : Nat) : Int) := by rw [wrapI (by omega) (by omega)]; omega
    obtain ⟨mm, hmm⟩ : ∃ mm, mm = min 64 (l.length - 64 * n) := ⟨_, rfl⟩
    have hmn : (if (l.length : Int) < ((64 * (n + 1) : Nat) : Int) then (l.length : Int) else ((64 * (n + 1) : Nat) : Int)) = ((64 * n + mm : Nat) : Int) := by split <;> omega
    have bd : bnds l.length c (some (some (.int .i64 ((64 * n : Nat) : Int)))) (some (some (.int .i64 ((64 * n + mm : Nat) : Int)))) none = some (64 * n, 64 * n + mm, c) := bnds_both (by omega) (by omega) (by omega)
    have le3 := Heap.le_new le2 hb13 (.own 0 (row8 (blockF key (count + BitVec.ofNat 32 n) nonce) 64) 64)
    have s64 := own_sl (H := H2.set b13 (.own 0 (row8 (blockF key (count + BitVec.ofNat 32 n) nonce) 64) 64)) (b := b13) (l := rowL (blockF key (count + BitVec.ofNat 32 n) nonce) 64) (sz := 64) (by rw [Heap.set_self, rowL_map])
    have sp := Sl.midB (a := 64 * n) (b := 64 * n + mm) (sl.le (Heap.le_trans hh (Heap.le_trans le' le3))) (by omega) (by omega)
    have hst := sxF_step key count nonce l n mm hlt hmm
    rw [show 64 * n + mm - 64 * n = mm by omega] at sp
    have hxl := xorB_len ((l.drop (64 * n)).take mm) (rowL (blockF key (count + BitVec.ofNat 32 n) nonce) 64)
    rw [rowL_len, List.length_take, List.length_drop] at hxl
    generalize blockF key (count + BitVec.ofNat 32 n) nonce = bk at *
    simp -implicitDefEqProofs only [zB1,zB2,zB3,zB4,zB5,zB6,zB7,zB8,zB9,zB10,zB11,y00,y01,y02,y03,y04,y05,y06,y07,y08,y09,y0a,y0b,y0c,y0d,y0e,y0f,y0g,y0h,y0i,y0j,y0k,y0l,y0m,y0n,y0o,y0p,y0q,y0r,y0s,y0t,y0u,y0v,y0w,y0x,y0y,y0z,y10,y11,y12,y13,y14,y15,y16,y17,y18,y19,y1a,y1b,y1c,y1d,y1e,y1f,y1g,y1h,y1i,y1j,y1k,y1l,y1m,y1n,y1o,y1p,y1q,y1r,retO,retL,retV,z69,allV,allP,z6a,z6d,z6e,z6k,z6l,z6m,binV,eqV,unV,oOpt,reduceIte,reduceCtorEq,Nat.reduceEqDiff,Nat.reduceAdd,Nat.reduceMul,Nat.reduceLT,Nat.reduceSub,Int.reduceLT,Int.reduceLE,Int.reduceEq,Int.reduceNe,Int.reduceSub,Int.reduceAdd,Int.reduceMul,Int.reduceBEq,Int.reduceBNe,Int.reduceGT,Int.reduceGE,Nat.reduceGT,Int.reduceToNat,Int.reduceNeg,Nat.reduceLeDiff,Nat.reduceBEq,Nat.reduceBneDiff,Value.cells, s13, w3, hmn, bd, bnds_no, Nat.sub_zero, addz]
    rw [show 64 * n + mm - 64 * n = mm by omega]
    have lp : ((l.drop (64 * n)).take mm).length = mm := by simp; omega
    have lr := rowL_len bk 64
    refine (octet_Xor_c E _ ((l.drop (64 * n)).take mm) (rowL bk 64) (by omega) (by unfold SlB; rw [lp]; unfold SlB at sp; rw [lp] at sp; exact sp) (by unfold SlB at s64; rw [lr] at s64; unfold SlB; rw [lr]; exact s64)).mono ?_
    rintro r H4 ⟨le4, ow4⟩
    have le24 := Heap.le_trans le3 le4
    have le04 := Heap.le_trans le' le24
    simp -implicitDefEqProofs only [zB1,zB2,zB3,zB4,zB5,zB6,zB7,zB8,zB9,zB10,zB11,y00,y01,y02,y03,y04,y05,y06,y07,y08,y09,y0a,y0b,y0c,y0d,y0e,y0f,y0g,y0h,y0i,y0j,y0k,y0l,y0m,y0n,y0o,y0p,y0q,y0r,y0s,y0t,y0u,y0v,y0w,y0x,y0y,y0z,y10,y11,y12,y13,y14,y15,y16,y17,y18,y19,y1a,y1b,y1c,y1d,y1e,y1f,y1g,y1h,y1i,y1j,y1k,y1l,y1m,y1n,y1o,y1p,y1q,y1r,retO,retL,retV,z69,allV,allP,z6a,z6d,z6e,z6k,z6l,z6m,binV,eqV,unV,oOpt,reduceIte,reduceCtorEq,Nat.reduceEqDiff,Nat.reduceAdd,Nat.reduceMul,Nat.reduceLT,Nat.reduceSub,Int.reduceLT,Int.reduceLE,Int.reduceEq,Int.reduceNe,Int.reduceSub,Int.reduceAdd,Int.reduceMul,Int.reduceBEq,Int.reduceBNe,Int.reduceGT,Int.reduceGE,Nat.reduceGT,Int.reduceToNat,Int.reduceNeg,Nat.reduceLeDiff,Nat.reduceBEq,Nat.reduceBneDiff,Value.cells, List.mem_cons, List.not_mem_nil, or_false, forall_eq, implies_true]
    refine appendP_ow (bytes := 1) le04 (by omega) (ow.le le24) ow4.sl (one_u8 _) (by rw [hxl, List.length_take, hlen]; omega) (by rw [hxl, List.length_take, hlen]; omega) ?_
    intro v5 H5 ow5 le5
    simp -implicitDefEqProofs only [zB1,zB2,zB3,zB4,zB5,zB6,zB7,zB8,zB9,zB10,zB11,y00,y01,y02,y03,y04,y05,y06,y07,y08,y09,y0a,y0b,y0c,y0d,y0e,y0f,y0g,y0h,y0i,y0j,y0k,y0l,y0m,y0n,y0o,y0p,y0q,y0r,y0s,y0t,y0u,y0v,y0w,y0x,y0y,y0z,y10,y11,y12,y13,y14,y15,y16,y17,y18,y19,y1a,y1b,y1c,y1d,y1e,y1f,y1g,y1h,y1i,y1j,y1k,y1l,y1m,y1n,y1o,y1p,y1q,y1r,retO,retL,retV,z69,allV,allP,z6a,z6d,z6e,z6k,z6l,z6m,binV,eqV,unV,oOpt,reduceIte,reduceCtorEq,Nat.reduceEqDiff,Nat.reduceAdd,Nat.reduceMul,Nat.reduceLT,Nat.reduceSub,Int.reduceLT,Int.reduceLE,Int.reduceEq,Int.reduceNe,Int.reduceSub,Int.reduceAdd,Int.reduceMul,Int.reduceBEq,Int.reduceBNe,Int.reduceGT,Int.reduceGE,Nat.reduceGT,Int.reduceToNat,Int.reduceNeg,Nat.reduceLeDiff,Nat.reduceBEq,Nat.reduceBneDiff,Value.cells, w3]
    refine ⟨_, by omega, le5, n + 1, v5, rfl, by omega, rfl, ?_⟩
    rw [hst]
    unfold OwB
    rw [List.length_append, List.map_append]
    exact ow5
  · have e1 : ¬ ((64 * n : Nat) : Int) < (l.length : Int) := by omega
    rw [List.take_of_length_le (by omega)] at ow
    simp -implicitDefEqProofs only [zB1,zB2,zB3,zB4,zB5,zB6,zB7,zB8,zB9,zB10,zB11,y00,y01,y02,y03,y04,y05,y06,y07,y08,y09,y0a,y0b,y0c,y0d,y0e,y0f,y0g,y0h,y0i,y0j,y0k,y0l,y0m,y0n,y0o,y0p,y0q,y0r,y0s,y0t,y0u,y0v,y0w,y0x,y0y,y0z,y10,y11,y12,y13,y14,y15,y16,y17,y18,y19,y1a,y1b,y1c,y1d,y1e,y1f,y1g,y1h,y1i,y1j,y1k,y1l,y1m,y1n,y1o,y1p,y1q,y1r,retO,retL,retV,z69,allV,allP,z6a,z6d,z6e,z6k,z6l,z6m,binV,eqV,unV,oOpt,reduceIte,reduceCtorEq,Nat.reduceEqDiff,Nat.reduceAdd,Nat.reduceMul,Nat.reduceLT,Nat.reduceSub,Int.reduceLT,Int.reduceLE,Int.reduceEq,Int.reduceNe,Int.reduceSub,Int.reduceAdd,Int.reduceMul,Int.reduceBEq,Int.reduceBNe,Int.reduceGT,Int.reduceGE,Nat.reduceGT,Int.reduceToNat,Int.reduceNeg,Nat.reduceLeDiff,Nat.reduceBEq,Nat.reduceBneDiff,Value.cells, e1]
    exact ⟨Heap.le_trans hh le', _, rfl, Ow.since hh ow⟩
theorem chacha_Xor_c (E : EnvT tab) (h : Heap) {v : Value} (key nonce l : List UInt8) (count : U32) (hk : key.length = 32) (hn : nonce.length = 12) (hl : l.length ≤ 100000000) (hc : count.toNat + (l.length + 63) / 64 ≤ 4294967296) (sl : SlB h v l) :
    ACallN E.toEnv n_chacha_Xor [.agg (key.map u8V).toArray, .int .u32 count.toNat, .agg (nonce.map u8V).toArray, v] h fun r h' => h.le h' ∧ ∃ r', r = .tuple #[r', .int .i64 0] ∧ OwB h h' r' (sxF key count nonce l) := by
  obtain ⟨base, c, rfl⟩ := Sl.shape sl
  refine acall h_chacha_Xor ir_chacha_Xor rfl rfl (wpA_sound ?_)
  unfold ir_chacha_Xor
  have hk' : (key.map u8V).length = 32 := by simp [hk]
  have hn' : (nonce.map u8V).length = 12 := by simp [hn]
  have d1 : IntKind.i64.wrap ((l.length / 64 : Nat) : Int) = ((l.length / 64 : Nat) : Int) := wrapI (by omega) (by omega)
  have d2 : IntKind.i64.wrap ((l.length % 64 : Nat) : Int) = ((l.length % 64 : Nat) : Int) := wrapI (by omega) (by omega)
  have d3 : IntKind.i64.wrap (((l.length / 64 : Nat) : Int) + 1) = ((l.length / 64 + 1 : Nat) : Int) := wrapN (by omega)
  by_cases g : (0 : Int) < ((l.length % 64 : Nat) : Int)
  · have g' : ¬ ((l.length % 64 : Nat) : Int) ≤ 0 := by omega
    simp -implicitDefEqProofs only [zB1,zB2,zB3,zB4,zB5,zB6,zB7,zB8,zB9,zB10,zB11,y00,y01,y02,y03,y04,y05,y06,y07,y08,y09,y0a,y0b,y0c,y0d,y0e,y0f,y0g,y0h,y0i,y0j,y0k,y0l,y0m,y0n,y0o,y0p,y0q,y0r,y0s,y0t,y0u,y0v,y0w,y0x,y0y,y0z,y10,y11,y12,y13,y14,y15,y16,y17,y18,y19,y1a,y1b,y1c,y1d,y1e,y1f,y1g,y1h,y1i,y1j,y1k,y1l,y1m,y1n,y1o,y1p,y1q,y1r,retO,retL,retV,z69,allV,allP,z6a,z6d,z6e,z6k,z6l,z6m,binV,eqV,unV,oOpt,reduceIte,reduceCtorEq,Nat.reduceEqDiff,Nat.reduceAdd,Nat.reduceMul,Nat.reduceLT,Nat.reduceSub,Int.reduceLT,Int.reduceLE,Int.reduceEq,Int.reduceNe,Int.reduceSub,Int.reduceAdd,Int.reduceMul,Int.reduceBEq,Int.reduceBNe,Int.reduceGT,Int.reduceGE,Nat.reduceGT,Int.reduceToNat,Int.reduceNeg,Nat.reduceLeDiff,Nat.reduceBEq,Nat.reduceBneDiff,Value.cells, hk', hn', tdiv64, tmod64, d1, d2, d3, g, g']
    intro b4 hb4 b6 hb6
    obtain ⟨n64, hb6'⟩ := Heap.set_none.1 hb6
    exact chaXor23 E [] key nonce l count hk hn hl (by omega) (by omega) sl (Heap.le_set (Heap.le_set (Heap.le_refl _) hb4 _) hb6' _) (set_keep (Heap.set_self _ _ _) (Ne.symm n64)) (Heap.set_self _ _ _)
  · have g' : ((l.length % 64 : Nat) : Int) ≤ 0 := by omega
    simp -implicitDefEqProofs only [zB1,zB2,zB3,zB4,zB5,zB6,zB7,zB8,zB9,zB10,zB11,y00,y01,y02,y03,y04,y05,y06,y07,y08,y09,y0a,y0b,y0c,y0d,y0e,y0f,y0g,y0h,y0i,y0j,y0k,y0l,y0m,y0n,y0o,y0p,y0q,y0r,y0s,y0t,y0u,y0v,y0w,y0x,y0y,y0z,y10,y11,y12,y13,y14,y15,y16,y17,y18,y19,y1a,y1b,y1c,y1d,y1e,y1f,y1g,y1h,y1i,y1j,y1k,y1l,y1m,y1n,y1o,y1p,y1q,y1r,retO,retL,retV,z69,allV,allP,z6a,z6d,z6e,z6k,z6l,z6m,binV,eqV,unV,oOpt,reduceIte,reduceCtorEq,Nat.reduceEqDiff,Nat.reduceAdd,Nat.reduceMul,Nat.reduceLT,Nat.reduceSub,Int.reduceLT,Int.reduceLE,Int.reduceEq,Int.reduceNe,Int.reduceSub,Int.reduceAdd,Int.reduceMul,Int.reduceBEq,Int.reduceBNe,Int.reduceGT,Int.reduceGE,Nat.reduceGT,Int.reduceToNat,Int.reduceNeg,Nat.reduceLeDiff,Nat.reduceBEq,Nat.reduceBneDiff,Value.cells, hk', hn', tdiv64, tmod64, d1, d2, d3, g, g']
    intro b4 hb4 b6 hb6
    obtain ⟨n64, hb6'⟩ := Heap.set_none.1 hb6
    exact chaXor23 E [(20, .bool false)] key nonce l count hk hn hl (by omega) (by omega) sl (Heap.le_set (Heap.le_set (Heap.le_refl _) hb4 _) hb6' _) (set_keep (Heap.set_self _ _ _) (Ne.symm n64)) (Heap.set_self _ _ _)
end Go.Bb
/- The program's tag is the document's: plain laws of numbers. -/
namespace Go.Bb
set_option linter.unusedSimpArgs false
set_option linter.unusedVariables false
set_option maxRecDepth 20000

theorem N3.val_eq (x : N3) : x.val = x.a + 18446744073709551616 * x.b + 340282366920938463463374607431768211456 * x.c := rfl
theorem N3.plus_lt {x y : N3} (h : x.val + y.val < 6277101735386680763835789423207666416102355444464034512896) : (x.plus y).val = x.val + y.val := by
  rw [N3.plus_val, Nat.mod_eq_of_lt h]
theorem pair_val (p : Nat) : (⟨p % 18446744073709551616, p / 18446744073709551616, 0⟩ : N3).val = p := by
  rw [N3.val_eq]
  show p % 18446744073709551616 + 18446744073709551616 * (p / 18446744073709551616) + 340282366920938463463374607431768211456 * 0 = p
  omega
theorem N3.col_val {s : N3} {a b : Nat} (h : s.val + a * b < 6277101735386680763835789423207666416102355444464034512896) : (s.col a b).val = s.val + a * b := by
  unfold N3.col
  rw [N3.plus_lt (by rw [pair_val]; exact h), pair_val]
theorem N3.cut_val {x : N3} (hx : x.ok) : x.cut.val = x.val % 1361129467683753853853498429727072845824 + 5 * (x.val / 1361129467683753853853498429727072845824) := by
  obtain ⟨ha, hb, hc⟩ := hx
  have e1 : (⟨x.a, x.b, x.c % 4⟩ : N3).val = x.a + 18446744073709551616 * x.b + 340282366920938463463374607431768211456 * (x.c % 4) := rfl
  have e2 := pair_val (x.c / 4 * 5)
  unfold N3.cut
  rw [N3.plus_lt (by rw [e1, e2]; omega), e1, e2, N3.val_eq]
  omega
theorem N3.carry_val {x y : N3} (h : x.val + y.val < 6277101735386680763835789423207666416102355444464034512896) : (⟨(x.plus y).b, (x.plus y).c, 0⟩ : N3).val = (x.val + y.val) / 18446744073709551616 ∧ (x.plus y).a = (x.val + y.val) % 18446744073709551616 := by
  obtain ⟨ha, hb, hc⟩ := N3.plus_ok x y
  have hv := N3.plus_lt h
  rw [N3.val_eq] at hv
  have e1 : (⟨(x.plus y).b, (x.plus y).c, 0⟩ : N3).val = (x.plus y).b + 18446744073709551616 * (x.plus y).c + 340282366920938463463374607431768211456 * 0 := rfl
  rw [e1]
  omega
theorem z3_val : z3.val = 0 := rfl
/-- Four columns, carried. -/
theorem outs (C : Nat → N3) (h0 : (C 0).val < 170141183460469231731687303715884105728) (h1 : (C 1).val < 170141183460469231731687303715884105728) (h2 : (C 2).val < 170141183460469231731687303715884105728) (h3 : (C 3).val < 9000000000000000000) :
    outW C 0 + 18446744073709551616 * outW C 1 + 340282366920938463463374607431768211456 * outW C 2 + 6277101735386680763835789423207666416102355444464034512896 * outW C 3 =
      (C 0).val + 18446744073709551616 * (C 1).val + 340282366920938463463374607431768211456 * (C 2).val + 6277101735386680763835789423207666416102355444464034512896 * (C 3).val := by
  have k0 : (carryF C 0).val = 0 := rfl
  obtain ⟨v0, w0⟩ := N3.carry_val (x := carryF C 0) (y := C 0) (by omega)
  have k1 : (carryF C 1).val = ((carryF C 0).val + (C 0).val) / 18446744073709551616 := v0
  obtain ⟨v1, w1⟩ := N3.carry_val (x := carryF C 1) (y := C 1) (by omega)
  have k2 : (carryF C 2).val = ((carryF C 1).val + (C 1).val) / 18446744073709551616 := v1
  obtain ⟨v2, w2⟩ := N3.carry_val (x := carryF C 2) (y := C 2) (by omega)
  have k3 : (carryF C 3).val = ((carryF C 2).val + (C 2).val) / 18446744073709551616 := v2
  obtain ⟨v3, w3⟩ := N3.carry_val (x := carryF C 3) (y := C 3) (by omega)
  have o0 : outW C 0 = ((carryF C 0).val + (C 0).val) % 18446744073709551616 := w0
  have o1 : outW C 1 = ((carryF C 1).val + (C 1).val) % 18446744073709551616 := w1
  have o2 : outW C 2 = ((carryF C 2).val + (C 2).val) % 18446744073709551616 := w2
  have o3 : outW C 3 = ((carryF C 3).val + (C 3).val) % 18446744073709551616 := w3
  rw [o0, o1, o2, o3]
  clear v0 v1 v2 v3 w0 w1 w2 w3 o0 o1 o2 o3
  omega
theorem adds5 {x y : N3} (h : x.val + 5 * y.val < 6277101735386680763835789423207666416102355444464034512896) : (addsF x y 5).val = x.val + 5 * y.val := by
  have a1 : (addsF x y 1).val = x.val + y.val := by rw [show addsF x y 1 = x.plus y from rfl, N3.plus_lt (by omega)]
  have a2 : (addsF x y 2).val = x.val + 2 * y.val := by rw [show addsF x y 2 = (addsF x y 1).plus y from rfl, N3.plus_lt (by omega), a1]; omega
  have a3 : (addsF x y 3).val = x.val + 3 * y.val := by rw [show addsF x y 3 = (addsF x y 2).plus y from rfl, N3.plus_lt (by omega), a2]; omega
  have a4 : (addsF x y 4).val = x.val + 4 * y.val := by rw [show addsF x y 4 = (addsF x y 3).plus y from rfl, N3.plus_lt (by omega), a3]; omega
  rw [show addsF x y 5 = (addsF x y 4).plus y from rfl, N3.plus_lt (by omega), a4]; omega
theorem mul_bound {a b A B : Nat} (ha : a ≤ A) (hb : b ≤ B) : a * b ≤ A * B := Nat.mul_le_mul ha hb
theorem N3.times_val {x : N3} {r0 r1 : Nat} (hx : x.ok) (hv : x.val < 2722258935367507707706996859454145691648) (h0 : r0 < 1152921504606846976) (h1 : r1 < 1152921504606846976) :
    (x.times r0 r1).val % PQ = x.val * (r0 + 18446744073709551616 * r1) % PQ ∧ (x.times r0 r1).val < 1361129467683753853853498429727072846000 := by
  obtain ⟨ha, hb, hc⟩ := hx
  rw [N3.val_eq] at hv
  have hc8 : x.c < 8 := by omega
  have p00 := mul_bound (show x.a ≤ 18446744073709551615 by omega) (show r0 ≤ 1152921504606846975 by omega)
  have p01 := mul_bound (show x.a ≤ 18446744073709551615 by omega) (show r1 ≤ 1152921504606846975 by omega)
  have p10 := mul_bound (show x.b ≤ 18446744073709551615 by omega) (show r0 ≤ 1152921504606846975 by omega)
  have p11 := mul_bound (show x.b ≤ 18446744073709551615 by omega) (show r1 ≤ 1152921504606846975 by omega)
  have p20 := mul_bound (show x.c ≤ 7 by omega) (show r0 ≤ 1152921504606846975 by omega)
  have p21 := mul_bound (show x.c ≤ 7 by omega) (show r1 ≤ 1152921504606846975 by omega)
  simp only [Nat.reduceMul] at p00 p01 p10 p11 p20 p21
  have c0 : (colsF x r0 r1 0).val = x.a * r0 := by
    show (z3.col x.a r0).val = _
    rw [N3.col_val (by rw [z3_val]; omega), z3_val, Nat.zero_add]
  have c1 : (colsF x r0 r1 1).val = x.a * r1 + x.b * r0 := by
    show ((z3.col x.a r1).col x.b r0).val = _
    have e : (z3.col x.a r1).val = x.a * r1 := by rw [N3.col_val (by rw [z3_val]; omega), z3_val, Nat.zero_add]
    rw [N3.col_val (by rw [e]; omega), e]
  have c2 : (colsF x r0 r1 2).val = x.b * r1 + x.c * r0 := by
    show ((z3.col x.b r1).col x.c r0).val = _
    have e : (z3.col x.b r1).val = x.b * r1 := by rw [N3.col_val (by rw [z3_val]; omega), z3_val, Nat.zero_add]
    rw [N3.col_val (by rw [e]; omega), e]
  have c3 : (colsF x r0 r1 3).val = x.c * r1 := by
    show (z3.col x.c r1).val = _
    rw [N3.col_val (by rw [z3_val]; omega), z3_val, Nat.zero_add]
  have ho := outs (colsF x r0 r1) (by rw [c0]; omega) (by rw [c1]; omega) (by rw [c2]; omega) (by rw [c3]; omega)
  rw [c0, c1, c2, c3] at ho
  have l0 := outW_lt (colsF x r0 r1) 0
  have l1 := outW_lt (colsF x r0 r1) 1
  have l2 := outW_lt (colsF x r0 r1) 2
  have l3 := outW_lt (colsF x r0 r1) 3
  have eT : x.val * (r0 + 18446744073709551616 * r1) = x.a * r0 + 18446744073709551616 * (x.a * r1 + x.b * r0) + 340282366920938463463374607431768211456 * (x.b * r1 + x.c * r0) + 6277101735386680763835789423207666416102355444464034512896 * (x.c * r1) := by
    rw [N3.val_eq, Nat.mul_add, Nat.add_mul, Nat.add_mul, Nat.mul_left_comm _ 18446744073709551616 r1, Nat.add_mul, Nat.add_mul, Nat.mul_assoc, Nat.mul_assoc, Nat.mul_assoc, Nat.mul_assoc]
    omega
  have vl : (lowF (colsF x r0 r1)).val = outW (colsF x r0 r1) 0 + 18446744073709551616 * outW (colsF x r0 r1) 1 + 340282366920938463463374607431768211456 * (outW (colsF x r0 r1) 2 % 4) := rfl
  have vh : (highF (colsF x r0 r1)).val = outW (colsF x r0 r1) 2 / 4 + outW (colsF x r0 r1) 3 % 4 * 4611686018427387904 + 18446744073709551616 * (outW (colsF x r0 r1) 3 / 4) := by
    show outW (colsF x r0 r1) 2 / 4 + outW (colsF x r0 r1) 3 % 4 * 4611686018427387904 + 18446744073709551616 * (outW (colsF x r0 r1) 3 / 4) + 340282366920938463463374607431768211456 * 0 = _
    omega
  have h5 : (addsF (lowF (colsF x r0 r1)) (highF (colsF x r0 r1)) 5).val = (lowF (colsF x r0 r1)).val + 5 * (highF (colsF x r0 r1)).val := adds5 (by rw [vl, vh]; omega)
  have hcut := N3.cut_val (x := addsF (lowF (colsF x r0 r1)) (highF (colsF x r0 r1)) 5) (addsF_ok (lowF_ok _) 5)
  rw [eT, ← ho]
  show (addsF (lowF (colsF x r0 r1)) (highF (colsF x r0 r1)) 5).cut.val % PQ = _ ∧ (addsF (lowF (colsF x r0 r1)) (highF (colsF x r0 r1)) 5).cut.val < _
  rw [hcut, h5, vl, vh]
  clear hcut h5 vl vh eT ho c0 c1 c2 c3 p00 p01 p10 p11 p20 p21
  generalize outW (colsF x r0 r1) 0 = o0 at *
  generalize outW (colsF x r0 r1) 1 = o1 at *
  generalize outW (colsF x r0 r1) 2 = o2 at *
  generalize outW (colsF x r0 r1) 3 = o3 at *
  unfold PQ
  constructor
  · omega
  · omega
/-- The last step. -/
theorem N3.last_val {x : N3} (hx : x.ok) (hv : x.val < 2722258935367507707706996859454145691648) : x.last.val = x.val % PQ := by
  have v1 := N3.cut_val hx
  have v2 := N3.cut_val (N3.cut_ok x)
  have e5 : (⟨5, 0, 0⟩ : N3).val = 5 := rfl
  have v3 : (x.cut.cut.plus ⟨5, 0, 0⟩).val = x.cut.cut.val + 5 := by rw [N3.plus_lt (by rw [e5]; omega), e5]
  obtain ⟨ga, gb, gc⟩ := N3.plus_ok x.cut.cut ⟨5, 0, 0⟩
  unfold N3.last
  unfold PQ
  have b1 : x.cut.val < 1361129467683753853853498429727072845829 ∧ x.cut.val % 1361129467683753853853498429727072845819 = x.val % 1361129467683753853853498429727072845819 := by omega
  have b2 : x.cut.cut.val < 1361129467683753853853498429727072845824 ∧ x.cut.cut.val % 1361129467683753853853498429727072845819 = x.cut.val % 1361129467683753853853498429727072845819 := by
    clear v1
    omega
  rw [← b1.2, ← b2.2]
  replace b2 := b2.1
  clear v1 v2 b1
  by_cases h : 3 < (x.cut.cut.plus ⟨5, 0, 0⟩).c
  · rw [if_pos h]
    have e : (⟨(x.cut.cut.plus ⟨5, 0, 0⟩).a, (x.cut.cut.plus ⟨5, 0, 0⟩).b, (x.cut.cut.plus ⟨5, 0, 0⟩).c % 4⟩ : N3).val = (x.cut.cut.plus ⟨5, 0, 0⟩).a + 18446744073709551616 * (x.cut.cut.plus ⟨5, 0, 0⟩).b + 340282366920938463463374607431768211456 * ((x.cut.cut.plus ⟨5, 0, 0⟩).c % 4) := rfl
    rw [e]
    rw [N3.val_eq (x.cut.cut.plus _)] at v3
    generalize (x.cut.cut.plus ⟨5, 0, 0⟩).a = a at *
    generalize (x.cut.cut.plus ⟨5, 0, 0⟩).b = b at *
    generalize (x.cut.cut.plus ⟨5, 0, 0⟩).c = c at *
    have c4 : c = 4 := by omega
    subst c4
    rw [show (4 : Nat) % 4 = 0 from rfl, Nat.mod_eq_sub_mod (by omega), Nat.mod_eq_of_lt (by omega)]
    omega
  · rw [if_neg h]
    rw [N3.val_eq (x.cut.cut.plus _)] at v3
    generalize (x.cut.cut.plus ⟨5, 0, 0⟩).a = a at *
    generalize (x.cut.cut.plus ⟨5, 0, 0⟩).b = b at *
    generalize (x.cut.cut.plus ⟨5, 0, 0⟩).c = c at *
    omega
end Go.Bb
/- The program's tag is the document's. -/
namespace Go.Bb
set_option linter.unusedSimpArgs false
set_option linter.unusedVariables false
set_option maxRecDepth 20000

theorem keyR_15 (w : List UInt8) (k : Nat) (h : k = 7 ∨ k = 15) : (keyR w k).toNat ≤ 15 := by
  have e : keyR w k = (w.getD k 0) &&& 15 := by
    unfold keyR clampG clB clA
    rw [if_neg (by omega), if_pos (by omega)]
  rw [e, UInt8.toNat_and]
  exact Nat.and_le_right
theorem leN_top (a : List UInt8) (b : UInt8) (ha : a.length = 7) (hb : b.toNat ≤ 15) : leN (a ++ [b]) < 1152921504606846976 := by
  have h1 := leN_lt a
  rw [ha] at h1
  rw [leN_append, ha]
  have e : leN [b] = b.toNat := by simp [leN]
  rw [e]
  simp only [Nat.reducePow] at h1 ⊢
  omega
theorem keyK_nat (w : List UInt8) (i : Nat) (hi : i < 2) : keyK w i = leN (((rowL (keyR w) 16).drop (8 * i)).take 8) := by
  unfold keyK
  rw [fromLittleF_nat _ (by simp; omega)]
theorem row_cut (f : Nat → UInt8) (i : Nat) (hi : i < 2) : ((rowL f 16).drop (8 * i)).take 8 = ((rowL f 16).drop (8 * i)).take 7 ++ [f (8 * i + 7)] := by
  match i, hi with
  | 0, _ => rfl
  | 1, _ => rfl
theorem keyK_lt (w : List UInt8) (i : Nat) (hi : i < 2) : keyK w i < 1152921504606846976 := by
  rw [keyK_nat w i hi, row_cut _ i hi]
  exact leN_top _ _ (by simp [rowL_len]; omega) (keyR_15 w _ (by omega))
theorem key_val (w : List UInt8) : keyK w 0 + 18446744073709551616 * keyK w 1 = leN (rowL (keyR w) 16) := by
  rw [keyK_nat w 0 (by omega), keyK_nat w 1 (by omega)]
  have e : rowL (keyR w) 16 = ((rowL (keyR w) 16).drop (8 * 0)).take 8 ++ ((rowL (keyR w) 16).drop (8 * 1)).take 8 := by
    rw [Nat.mul_zero, List.drop_zero, Nat.mul_one, List.take_of_length_le (l := (rowL (keyR w) 16).drop 8) (by simp [rowL_len]), List.take_append_drop]
  have l8 : (((rowL (keyR w) 16).drop (8 * 0)).take 8).length = 8 := by simp [rowL_len]
  conv => rhs; rw [e]
  rw [leN_append, l8]
theorem leN_zeros (n : Nat) : leN (List.replicate n 0) = 0 := leN_zero n
theorem blockN_val (l : List UInt8) : (blockN l).val = blkV (l.take 16) := by
  have ht : (l.take 16).length ≤ 16 := by simp; omega
  have key : ∀ t : List UInt8, t.length ≤ 16 → leN ((t ++ [1] ++ List.replicate (32 - t.length) 0).take 8) + 18446744073709551616 * leN (((t ++ [1] ++ List.replicate (32 - t.length) 0).drop 8).take 8) + 340282366920938463463374607431768211456 * ((t ++ [1] ++ List.replicate (32 - t.length) 0).getD 16 0).toNat = blkV t := by
    intro t h
    have hB : (t ++ [1] ++ List.replicate (32 - t.length) 0).length = 33 := by simp; omega
    have h17 : (t ++ [1] ++ List.replicate (32 - t.length) (0 : UInt8)).take 17 = t ++ [1] ++ List.replicate (16 - t.length) 0 := by
      rw [List.take_append, List.take_of_length_le (by simp; omega)]
      congr 1
      simp
      omega
    have e : (t ++ [1] ++ List.replicate (32 - t.length) (0 : UInt8)).take 17 = (t ++ [1] ++ List.replicate (32 - t.length) 0).take 8 ++ (((t ++ [1] ++ List.replicate (32 - t.length) 0).drop 8).take 8 ++ [(t ++ [1] ++ List.replicate (32 - t.length) 0).getD 16 0]) := by
      generalize t ++ [1] ++ List.replicate (32 - t.length) (0 : UInt8) = B at hB
      apply List.ext_getElem
      · simp [hB]
      · intro i h1 h2
        have hi : i < 17 := by simp at h1; omega
        rw [List.getElem_take, List.getElem_append]
        split
        · rw [List.getElem_take]
        · rename_i g1
          rw [List.getElem_append]
          split
          · rw [List.getElem_take, List.getElem_drop]
            congr 1
            simp [hB] at g1 ⊢
            omega
          · rename_i g2
            simp [hB] at g1 g2
            have : i = 16 := by omega
            subst this
            simp [List.getD_eq_getElem?_getD, hB]
    have hv : leN ((t ++ [1] ++ List.replicate (32 - t.length) (0 : UInt8)).take 17) = blkV t := by
      rw [h17, leN_append, leN_append, leN_zeros]
      unfold blkV
      simp [leN]
    rw [← hv, e, leN_append, leN_append]
    have l1 : ((t ++ [1] ++ List.replicate (32 - t.length) (0 : UInt8)).take 8).length = 8 := by simp only [List.length_take, hB]; rfl
    have l2 : (((t ++ [1] ++ List.replicate (32 - t.length) (0 : UInt8)).drop 8).take 8).length = 8 := by simp only [List.length_take, List.length_drop, hB]; rfl
    rw [l1, l2]
    have e1 : ∀ b : UInt8, leN [b] = b.toNat := fun b => by simp [leN]
    rw [e1]
    simp only [Nat.reducePow]
    omega
  have := key (l.take 16) ht
  rw [N3.val_eq]
  show (fromLittleF ((blockB l).take 8)).toNat + 18446744073709551616 * (fromLittleF (((blockB l).drop 8).take 8)).toNat + 340282366920938463463374607431768211456 * ((blockB l).getD 16 0).toNat = _
  rw [fromLittleF_nat _ (by simp; omega), fromLittleF_nat _ (by simp; omega)]
  exact this
theorem blkV_lt (l : List UInt8) (h : l.length ≤ 16) : blkV l < 680564733841876926926749214863536422913 := by
  have h1 := leN_lt l
  have h2 : 256 ^ l.length ≤ 256 ^ 16 := Nat.pow_le_pow_right (by decide) h
  unfold blkV
  simp only [Nat.reducePow] at h2
  omega
theorem blockN_ok (l : List UInt8) : (blockN l).ok := by
  refine ⟨?_, ?_, ?_⟩
  · exact (fromLittleF ((blockB l).take 8)).isLt
  · exact (fromLittleF (((blockB l).drop 8).take 8)).isLt
  · have := ((blockB l).getD 16 0).toNat_lt
    show ((blockB l).getD 16 0).toNat < _
    omega
theorem times_ok (x : N3) (r0 r1 : Nat) : (x.times r0 r1).ok := N3.cut_ok _
theorem tagSum_val (k0 k1 : Nat) (h0 : k0 < 1152921504606846976) (h1 : k1 < 1152921504606846976) : ∀ (n : Nat) (l : List UInt8) (s : N3), l.length ≤ n → s.ok → s.val < 1361129467683753853853498429727072846000 →
    (tagSum k0 k1 s l).ok ∧ (tagSum k0 k1 s l).val < 1361129467683753853853498429727072846000 ∧ (tagSum k0 k1 s l).val % PQ = polyH (k0 + 18446744073709551616 * k1) (s.val % PQ) l
  | 0, l, s, hn, hs, hv => by
    have : l = [] := List.eq_nil_of_length_eq_zero (by omega)
    subst this
    rw [tagSum_done (by simp), polyH_done (by simp)]
    exact ⟨hs, hv, rfl⟩
  | n + 1, l, s, hn, hs, hv => by
    by_cases hl : 0 < l.length
    · rw [tagSum_more hl, polyH_more hl]
      have hb := blkV_lt (l.take 16) (by simp; omega)
      have hbv := blockN_val l
      have hp : (s.plus (blockN l)).val = s.val + blkV (l.take 16) := by rw [N3.plus_lt (by rw [hbv]; omega), hbv]
      obtain ⟨t1, t2⟩ := N3.times_val (x := s.plus (blockN l)) (N3.plus_ok _ _) (by rw [hp]; omega) h0 h1
      obtain ⟨i1, i2, i3⟩ := tagSum_val k0 k1 h0 h1 n (l.drop 16) ((s.plus (blockN l)).times k0 k1) (by simp; omega) (times_ok _ _ _) t2
      refine ⟨i1, i2, ?_⟩
      rw [i3, t1, hp, mod_step]
    · rw [tagSum_done hl, polyH_done hl]
      exact ⟨hs, hv, rfl⟩
theorem tagA_val (r l : List UInt8) : tagA r l = polyH (leN (rowL (keyR r) 16)) 0 l := by
  unfold tagA
  obtain ⟨i1, i2, i3⟩ := tagSum_val (keyK r 0) (keyK r 1) (keyK_lt r 0 (by omega)) (keyK_lt r 1 (by omega)) l.length l z3 (Nat.le_refl _) z3_ok (by rw [z3_val]; omega)
  rw [N3.last_val i1 (by omega), i3, z3_val, Nat.zero_mod, key_val]
theorem tag_same (w l : List UInt8) (hw : w.length = 32) : tagF w l = rowL (tagR w l) 16 := by
  have lT : (tagF w l).length = 16 := by unfold tagF; rw [List.length_append, littleF_len, littleF_len]
  apply List.ext_getElem
  · rw [lT, rowL_len]
  · intro i h1 h2
    have hi : i < 16 := by omega
    have hr : (w.take 16).length = 16 := by simp [hw]
    have hs : (w.drop 16).length = 16 := by simp [hw]
    have hb := tagF_byte (w.take 16) (w.drop 16) l hr hs i hi
    rw [List.take_append_drop, tagA_val] at hb
    have hk : leN (rowL (keyR (w.take 16)) 16) = leN (rowL (keyR w) 16) := by
      rw [← key_val, ← key_val]
      have k0 := keyK_head (w.take 16) (w.drop 16) hr 0
      have k1 := keyK_head (w.take 16) (w.drop 16) hr 1
      rw [List.take_append_drop] at k0 k1
      rw [k0, k1]
    rw [hk] at hb
    have e : (rowL (tagR w l) 16)[i]'h2 = tagR w l i := by simp [rowL]
    refine Eq.trans ?_ e.symm
    unfold tagR
    rw [← hb]
    simp [List.getD_eq_getElem?_getD, h1]
end Go.Bb
/- Rows of bytes, compared. -/
namespace Go.Bb
set_option linter.unusedSimpArgs false
set_option linter.unusedVariables false
set_option maxRecDepth 20000

theorem leaves_u8 : ∀ l : List UInt8, leavesOk (List.replicate l.length (some IntKind.u8)) (l.map u8V) = true
  | [] => rfl
  | b :: l => by
      have := leaves_u8 l
      rw [List.length_cons, List.replicate_succ, List.map_cons, leavesOk, this, Bool.and_true]
      rfl
theorem leavesEq_u8 : ∀ l : List UInt8, leavesEq (l.map u8V) (l.map u8V) = true
  | [] => rfl
  | b :: l => by
      have := leavesEq_u8 l
      rw [List.map_cons, leavesEq, this, Bool.and_true]
      simp [u8V, leafEq]

theorem row8_ok (f : Nat → UInt8) (n : Nat) : leavesOk (List.replicate n (some IntKind.u8)) (row8 f n) = true := by
  have := leaves_u8 (rowL f n)
  rwa [rowL_map, rowL_len] at this
theorem row8_eq (f : Nat → UInt8) (n : Nat) : leavesEq (row8 f n) (row8 f n) = true := by
  have := leavesEq_u8 (rowL f n)
  rwa [rowL_map] at this
theorem tag_row (w l : List UInt8) (hw : w.length = 32) : (tagF w l).map u8V = row8 (tagR w l) 16 := by rw [tag_same w l hw, rowL_map]

end Go.Bb
/- Sealed and opened, in plain words. -/
namespace Go.Bb
set_option linter.unusedSimpArgs false
set_option linter.unusedVariables false

def fillN (n : Nat) : Nat := (16 - n % 16) % 16
def lenB (n : Nat) : List UInt8 := littleF (BitVec.ofNat 64 n) 8
def fillB (l : List UInt8) : List UInt8 := l ++ List.replicate (fillN l.length) 0
def taggedF (beside c : List UInt8) : List UInt8 := fillB beside ++ fillB c ++ (lenB beside.length ++ lenB c.length)
def akeyF (key nonce : List UInt8) : List UInt8 := rowL (blockF key 0 nonce) 32
def atagF (key nonce c beside : List UInt8) : List UInt8 := rowL (tagR (akeyF key nonce) (taggedF beside c)) 16
def sealF (key nonce plain beside : List UInt8) : List UInt8 := sxF key 1 nonce plain ++ atagF key nonce (sxF key 1 nonce plain) beside
/-- What is opened: the error, the bytes. -/
def openF (key nonce sealed beside : List UInt8) : Nat × List UInt8 :=
  if 65552 < sealed.length then (2, [])
  else if sealed.length < 16 then (8, [])
  else if atagF key nonce (sealed.take (sealed.length - 16)) beside = sealed.drop (sealed.length - 16) then (0, sxF key 1 nonce (sealed.take (sealed.length - 16)))
  else (8, [])
theorem lenB_len (n : Nat) : (lenB n).length = 8 := littleF_len _ _
theorem fillN_lt (n : Nat) : fillN n < 16 := Nat.mod_lt _ (by omega)
theorem fillB_len (l : List UInt8) : (fillB l).length = l.length + fillN l.length := by simp [fillB]
theorem akeyF_len (key nonce : List UInt8) : (akeyF key nonce).length = 32 := rowL_len _ _
theorem atagF_len (key nonce c beside : List UInt8) : (atagF key nonce c beside).length = 16 := rowL_len _ _
theorem tagged_len (beside c : List UInt8) : (taggedF beside c).length = beside.length + fillN beside.length + (c.length + fillN c.length) + 16 := by
  unfold taggedF
  simp only [List.length_append, fillB_len, lenB_len]
theorem sealF_len (key nonce plain beside : List UInt8) : (sealF key nonce plain beside).length = plain.length + 16 := by
  unfold sealF; rw [List.length_append, sxF_len, atagF_len]
/-- Twice mixed is as before. -/
theorem sxF_again (key : List UInt8) (count : U32) (nonce l : List UInt8) : sxF key count nonce (sxF key count nonce l) = l := by
  apply List.ext_getElem?
  intro k
  by_cases h : k < l.length
  · have h2 : k < (sxF key count nonce l).length := by rw [sxF_len]; exact h
    rw [sxF_get h2]
    have := sxF_get (key := key) (count := count) (nonce := nonce) h
    rw [List.getElem?_eq_getElem h2] at this
    rw [Option.some.inj this, List.getElem?_eq_getElem h, UInt8.xor_assoc, UInt8.xor_self, UInt8.xor_zero]
  · rw [List.getElem?_eq_none (by rw [sxF_len, sxF_len]; omega), List.getElem?_eq_none (by omega)]
theorem open_seal (key nonce plain beside : List UInt8) (h : plain.length ≤ 65536) : openF key nonce (sealF key nonce plain beside) beside = (0, plain) := by
  have hl := sealF_len key nonce plain beside
  have hs := sxF_len key 1 nonce plain
  unfold openF
  rw [if_neg (by omega), if_neg (by omega), hl]
  have e1 : (sealF key nonce plain beside).take (plain.length + 16 - 16) = sxF key 1 nonce plain := by
    unfold sealF
    rw [List.take_left' (by omega)]
  have e2 : (sealF key nonce plain beside).drop (plain.length + 16 - 16) = atagF key nonce (sxF key 1 nonce plain) beside := by
    unfold sealF
    rw [List.drop_left' (by omega)]
  rw [e1, e2, if_pos rfl, sxF_again]
end Go.Bb
/- The document's streams: Xor. -/
namespace Go.Bb
set_option linter.unusedSimpArgs false
set_option linter.unusedVariables false
set_option maxRecDepth 20000
set_option maxHeartbeats 2000000

theorem ref4Xor37 (E : EnvT tab) {H H' : Heap} {base : Option Addr} {c b4 b6 b12 n mm : Nat} {v11 : Value} {Q : AExit → T → Heap → Prop} (bk : Nat → UInt8) (l out : List UInt8) (hl : l.length ≤ 100000000) (hcap : l.length ≤ c) (hlt : 64 * n < l.length) (hmm : mm = min 64 (l.length - 64 * n)) (sl : SlB H' (.slice base l.length c) l)
    (hh : H.le H') (q12 : H' b12 = some (.own 0 (row8 bk 64) 64)) (ow : OwB H H' v11 out) (ho : out.length ≤ 200000000) (cnt : U32)
    (hQ : ∀ v H2, H.le H2 → OwB H H2 v (out ++ xorB ((l.drop (64 * n)).take mm) (rowL bk 64)) → Q .normal (tl [(1, .int .u32 cnt.toNat), (3, .slice base l.length c), (4, .pointer (some ⟨b4, 0, none⟩)), (6, .pointer (some ⟨b6, 0, none⟩)), (10, v), (11, .int .i64 ((64 * n : Nat) : Int))]) H2) :
    wpA E.toEnv 54 ir_bandboxref4_Xor_37 Q (tl [(1, .int .u32 cnt.toNat), (3, .slice base l.length c), (4, .pointer (some ⟨b4, 0, none⟩)), (6, .pointer (some ⟨b6, 0, none⟩)), (10, v11), (11, .int .i64 ((64 * n : Nat) : Int)), (12, .pointer (some ⟨b12, 0, none⟩))]) H' := by
  unfold ir_bandboxref4_Xor_37
  have w1 : IntKind.i64.wrap ((l.length : Int) - ((64 * n : Nat) : Int)) = ((l.length - 64 * n : Nat) : Int) := by rw [wrapI (by omega) (by omega)]; omega
  have w2 : IntKind.i64.wrap (((64 * n : Nat) : Int) + (mm : Int)) = ((64 * n + mm : Nat) : Int) := by rw [wrapI (by omega) (by omega)]; rfl
  have bd : bnds l.length c (some (some (.int .i64 ((64 * n : Nat) : Int)))) (some (some (.int .i64 ((64 * n + mm : Nat) : Int)))) none = some (64 * n, 64 * n + mm, c) := bnds_both (by omega) (by omega) (by omega)
  have s64 := own_sl (H := H') (b := b12) (l := rowL bk 64) (sz := 64) (by rw [q12, rowL_map])
  have sp := Sl.midB (a := 64 * n) (b := 64 * n + mm) sl (by omega) (by omega)
  rw [show 64 * n + mm - 64 * n = mm by omega] at sp
  have hxl := xorB_len ((l.drop (64 * n)).take mm) (rowL bk 64)
  rw [rowL_len, List.length_take, List.length_drop] at hxl
  have lp : ((l.drop (64 * n)).take mm).length = mm := by simp; omega
  have lr := rowL_len bk 64
  have fin : ∀ K : Value → Heap → Prop, (∀ v H2, H.le H2 → OwB H H2 v (out ++ xorB ((l.drop (64 * n)).take mm) (rowL bk 64)) → K v H2) → ∀ H4 r, H'.le H4 → OwB H' H4 r (xorB ((l.drop (64 * n)).take mm) (rowL bk 64)) → appendP 1 1 H4 v11 r K := by
    intro K hK H4 r le4 ow4
    refine appendP_ow (bytes := 1) (Heap.le_trans hh le4) (by omega) (ow.le le4) ow4.sl (one_u8 _) (by rw [hxl]; omega) (by rw [hxl]; omega) ?_
    intro v5 H5 ow5 le5
    refine hK v5 H5 le5 ?_
    unfold OwB
    rw [List.length_append, List.map_append]
    exact ow5
  by_cases g : (64 : Int) < ((l.length - 64 * n : Nat) : Int)
  · have g' : ¬ ((l.length - 64 * n : Nat) : Int) ≤ 64 := by omega
    have w2' : IntKind.i64.wrap (((64 * n : Nat) : Int) + 64) = ((64 * n + mm : Nat) : Int) := by rw [wrapI (by omega) (by omega)]; omega
    simp -implicitDefEqProofs only [zB1,zB2,zB3,zB4,zB5,zB6,zB7,zB8,zB9,zB10,zB11,y00,y01,y02,y03,y04,y05,y06,y07,y08,y09,y0a,y0b,y0c,y0d,y0e,y0f,y0g,y0h,y0i,y0j,y0k,y0l,y0m,y0n,y0o,y0p,y0q,y0r,y0s,y0t,y0u,y0v,y0w,y0x,y0y,y0z,y10,y11,y12,y13,y14,y15,y16,y17,y18,y19,y1a,y1b,y1c,y1d,y1e,y1f,y1g,y1h,y1i,y1j,y1k,y1l,y1m,y1n,y1o,y1p,y1q,y1r,retO,retL,retV,z69,allV,allP,z6a,z6d,z6e,z6k,z6l,z6m,binV,eqV,unV,oOpt,reduceIte,reduceCtorEq,Nat.reduceEqDiff,Nat.reduceAdd,Nat.reduceMul,Nat.reduceLT,Nat.reduceSub,Int.reduceLT,Int.reduceLE,Int.reduceEq,Int.reduceNe,Int.reduceSub,Int.reduceAdd,Int.reduceMul,Int.reduceBEq,Int.reduceBNe,Int.reduceGT,Int.reduceGE,Nat.reduceGT,Int.reduceToNat,Int.reduceNeg,Nat.reduceLeDiff,Nat.reduceBEq,Nat.reduceBneDiff,Value.cells, w1, g, g', w2', bd, bnds_no, Nat.sub_zero, addz]
    rw [show 64 * n + mm - 64 * n = mm by omega]
    refine (ref1_Xor_c E _ ((l.drop (64 * n)).take mm) (rowL bk 64) (by omega) (by unfold SlB; rw [lp]; unfold SlB at sp; rw [lp] at sp; exact sp) (by unfold SlB at s64; rw [lr] at s64; unfold SlB; rw [lr]; exact s64)).mono ?_
    rintro r H4 ⟨le4, ow4⟩
    simp -implicitDefEqProofs only [zB1,zB2,zB3,zB4,zB5,zB6,zB7,zB8,zB9,zB10,zB11,y00,y01,y02,y03,y04,y05,y06,y07,y08,y09,y0a,y0b,y0c,y0d,y0e,y0f,y0g,y0h,y0i,y0j,y0k,y0l,y0m,y0n,y0o,y0p,y0q,y0r,y0s,y0t,y0u,y0v,y0w,y0x,y0y,y0z,y10,y11,y12,y13,y14,y15,y16,y17,y18,y19,y1a,y1b,y1c,y1d,y1e,y1f,y1g,y1h,y1i,y1j,y1k,y1l,y1m,y1n,y1o,y1p,y1q,y1r,retO,retL,retV,z69,allV,allP,z6a,z6d,z6e,z6k,z6l,z6m,binV,eqV,unV,oOpt,reduceIte,reduceCtorEq,Nat.reduceEqDiff,Nat.reduceAdd,Nat.reduceMul,Nat.reduceLT,Nat.reduceSub,Int.reduceLT,Int.reduceLE,Int.reduceEq,Int.reduceNe,Int.reduceSub,Int.reduceAdd,Int.reduceMul,Int.reduceBEq,Int.reduceBNe,Int.reduceGT,Int.reduceGE,Nat.reduceGT,Int.reduceToNat,Int.reduceNeg,Nat.reduceLeDiff,Nat.reduceBEq,Nat.reduceBneDiff,Value.cells, List.mem_cons, List.not_mem_nil, or_false, forall_eq, implies_true]
    refine fin _ ?_ _ _ le4 ow4
    intro v5 H5 le5 ow5
    simp -implicitDefEqProofs only [zB1,zB2,zB3,zB4,zB5,zB6,zB7,zB8,zB9,zB10,zB11,y00,y01,y02,y03,y04,y05,y06,y07,y08,y09,y0a,y0b,y0c,y0d,y0e,y0f,y0g,y0h,y0i,y0j,y0k,y0l,y0m,y0n,y0o,y0p,y0q,y0r,y0s,y0t,y0u,y0v,y0w,y0x,y0y,y0z,y10,y11,y12,y13,y14,y15,y16,y17,y18,y19,y1a,y1b,y1c,y1d,y1e,y1f,y1g,y1h,y1i,y1j,y1k,y1l,y1m,y1n,y1o,y1p,y1q,y1r,retO,retL,retV,z69,allV,allP,z6a,z6d,z6e,z6k,z6l,z6m,binV,eqV,unV,oOpt,reduceIte,reduceCtorEq,Nat.reduceEqDiff,Nat.reduceAdd,Nat.reduceMul,Nat.reduceLT,Nat.reduceSub,Int.reduceLT,Int.reduceLE,Int.reduceEq,Int.reduceNe,Int.reduceSub,Int.reduceAdd,Int.reduceMul,Int.reduceBEq,Int.reduceBNe,Int.reduceGT,Int.reduceGE,Nat.reduceGT,Int.reduceToNat,Int.reduceNeg,Nat.reduceLeDiff,Nat.reduceBEq,Nat.reduceBneDiff,Value.cells]
    exact hQ v5 H5 le5 ow5
  · have g' : ((l.length - 64 * n : Nat) : Int) ≤ 64 := by omega
    have em : l.length - 64 * n = mm := by omega
    rw [em] at w1 g g'
    simp -implicitDefEqProofs only [zB1,zB2,zB3,zB4,zB5,zB6,zB7,zB8,zB9,zB10,zB11,y00,y01,y02,y03,y04,y05,y06,y07,y08,y09,y0a,y0b,y0c,y0d,y0e,y0f,y0g,y0h,y0i,y0j,y0k,y0l,y0m,y0n,y0o,y0p,y0q,y0r,y0s,y0t,y0u,y0v,y0w,y0x,y0y,y0z,y10,y11,y12,y13,y14,y15,y16,y17,y18,y19,y1a,y1b,y1c,y1d,y1e,y1f,y1g,y1h,y1i,y1j,y1k,y1l,y1m,y1n,y1o,y1p,y1q,y1r,retO,retL,retV,z69,allV,allP,z6a,z6d,z6e,z6k,z6l,z6m,binV,eqV,unV,oOpt,reduceIte,reduceCtorEq,Nat.reduceEqDiff,Nat.reduceAdd,Nat.reduceMul,Nat.reduceLT,Nat.reduceSub,Int.reduceLT,Int.reduceLE,Int.reduceEq,Int.reduceNe,Int.reduceSub,Int.reduceAdd,Int.reduceMul,Int.reduceBEq,Int.reduceBNe,Int.reduceGT,Int.reduceGE,Nat.reduceGT,Int.reduceToNat,Int.reduceNeg,Nat.reduceLeDiff,Nat.reduceBEq,Nat.reduceBneDiff,Value.cells, w1, g, g', w2, bd, bnds_no, Nat.sub_zero, addz]
    rw [show 64 * n + mm - 64 * n = mm by omega]
    refine (ref1_Xor_c E _ ((l.drop (64 * n)).take mm) (rowL bk 64) (by omega) (by unfold SlB; rw [lp]; unfold SlB at sp; rw [lp] at sp; exact sp) (by unfold SlB at s64; rw [lr] at s64; unfold SlB; rw [lr]; exact s64)).mono ?_
    rintro r H4 ⟨le4, ow4⟩
    simp -implicitDefEqProofs only [zB1,zB2,zB3,zB4,zB5,zB6,zB7,zB8,zB9,zB10,zB11,y00,y01,y02,y03,y04,y05,y06,y07,y08,y09,y0a,y0b,y0c,y0d,y0e,y0f,y0g,y0h,y0i,y0j,y0k,y0l,y0m,y0n,y0o,y0p,y0q,y0r,y0s,y0t,y0u,y0v,y0w,y0x,y0y,y0z,y10,y11,y12,y13,y14,y15,y16,y17,y18,y19,y1a,y1b,y1c,y1d,y1e,y1f,y1g,y1h,y1i,y1j,y1k,y1l,y1m,y1n,y1o,y1p,y1q,y1r,retO,retL,retV,z69,allV,allP,z6a,z6d,z6e,z6k,z6l,z6m,binV,eqV,unV,oOpt,reduceIte,reduceCtorEq,Nat.reduceEqDiff,Nat.reduceAdd,Nat.reduceMul,Nat.reduceLT,Nat.reduceSub,Int.reduceLT,Int.reduceLE,Int.reduceEq,Int.reduceNe,Int.reduceSub,Int.reduceAdd,Int.reduceMul,Int.reduceBEq,Int.reduceBNe,Int.reduceGT,Int.reduceGE,Nat.reduceGT,Int.reduceToNat,Int.reduceNeg,Nat.reduceLeDiff,Nat.reduceBEq,Nat.reduceBneDiff,Value.cells, List.mem_cons, List.not_mem_nil, or_false, forall_eq, implies_true]
    refine fin _ ?_ _ _ le4 ow4
    intro v5 H5 le5 ow5
    simp -implicitDefEqProofs only [zB1,zB2,zB3,zB4,zB5,zB6,zB7,zB8,zB9,zB10,zB11,y00,y01,y02,y03,y04,y05,y06,y07,y08,y09,y0a,y0b,y0c,y0d,y0e,y0f,y0g,y0h,y0i,y0j,y0k,y0l,y0m,y0n,y0o,y0p,y0q,y0r,y0s,y0t,y0u,y0v,y0w,y0x,y0y,y0z,y10,y11,y12,y13,y14,y15,y16,y17,y18,y19,y1a,y1b,y1c,y1d,y1e,y1f,y1g,y1h,y1i,y1j,y1k,y1l,y1m,y1n,y1o,y1p,y1q,y1r,retO,retL,retV,z69,allV,allP,z6a,z6d,z6e,z6k,z6l,z6m,binV,eqV,unV,oOpt,reduceIte,reduceCtorEq,Nat.reduceEqDiff,Nat.reduceAdd,Nat.reduceMul,Nat.reduceLT,Nat.reduceSub,Int.reduceLT,Int.reduceLE,Int.reduceEq,Int.reduceNe,Int.reduceSub,Int.reduceAdd,Int.reduceMul,Int.reduceBEq,Int.reduceBNe,Int.reduceGT,Int.reduceGE,Nat.reduceGT,Int.reduceToNat,Int.reduceNeg,Nat.reduceLeDiff,Nat.reduceBEq,Nat.reduceBneDiff,Value.cells]
    exact hQ v5 H5 le5 ow5
theorem ref4_Xor_c (E : EnvT tab) (h : Heap) {v : Value} (key nonce l : List UInt8) (count : U32) (hk : key.length = 32) (hn : nonce.length = 12) (hl : l.length ≤ 100000000) (hc : count.toNat + (l.length + 63) / 64 ≤ 4294967296) (sl : SlB h v l) :
    ACallN E.toEnv n_bandboxref4_Xor [.agg (key.map u8V).toArray, .int .u32 count.toNat, .agg (nonce.map u8V).toArray, v] h fun r h' => h.le h' ∧ ∃ r', r = .tuple #[r', .bool true] ∧ OwB h h' r' (sxF key count nonce l) := by
  obtain ⟨base, c, rfl⟩ := Sl.shape sl
  refine acall h_bandboxref4_Xor ir_bandboxref4_Xor rfl rfl (wpA_sound ?_)
  unfold ir_bandboxref4_Xor
  have hk' : (key.map u8V).length = 32 := by simp [hk]
  have hn' : (nonce.map u8V).length = 12 := by simp [hn]
  have hcn : count.toNat < 4294967296 := count.isLt
  have w0 : IntKind.u64.wrap (count.toNat : Int) = (count.toNat : Int) := wrap_u64l (by omega)
  have w1 : IntKind.i64.wrap ((l.length : Int) + 63) = ((l.length + 63 : Nat) : Int) := by rw [wrapI (by omega) (by omega)]; rfl
  have w2 : IntKind.i64.wrap (((l.length + 63) / 64 : Nat) : Int) = (((l.length + 63) / 64 : Nat) : Int) := wrapI (by omega) (by omega)
  have w3 : IntKind.u64.wrap (((l.length + 63) / 64 : Nat) : Int) = (((l.length + 63) / 64 : Nat) : Int) := wrap_u64l (by omega)
  have w4 : IntKind.u64.wrap ((count.toNat : Int) + (((l.length + 63) / 64 : Nat) : Int)) = ((count.toNat + (l.length + 63) / 64 : Nat) : Int) := by rw [← Int.natCast_add]; exact wrap_u64l (by omega)
  have g : ¬ (4294967296 : Int) < ((count.toNat + (l.length + 63) / 64 : Nat) : Int) := by omega
  have g' : ((count.toNat + (l.length + 63) / 64 : Nat) : Int) ≤ 4294967296 := by omega
  have hcap : l.length ≤ c := by
    rcases sl with ⟨e, hn, _⟩ | ⟨a, c', e, hc, _⟩
    · simp only [Value.slice.injEq] at e; omega
    · cases e; exact hc
  simp -implicitDefEqProofs only [zB1,zB2,zB3,zB4,zB5,zB6,zB7,zB8,zB9,zB10,zB11,y00,y01,y02,y03,y04,y05,y06,y07,y08,y09,y0a,y0b,y0c,y0d,y0e,y0f,y0g,y0h,y0i,y0j,y0k,y0l,y0m,y0n,y0o,y0p,y0q,y0r,y0s,y0t,y0u,y0v,y0w,y0x,y0y,y0z,y10,y11,y12,y13,y14,y15,y16,y17,y18,y19,y1a,y1b,y1c,y1d,y1e,y1f,y1g,y1h,y1i,y1j,y1k,y1l,y1m,y1n,y1o,y1p,y1q,y1r,retO,retL,retV,z69,allV,allP,z6a,z6d,z6e,z6k,z6l,z6m,binV,eqV,unV,oOpt,reduceIte,reduceCtorEq,Nat.reduceEqDiff,Nat.reduceAdd,Nat.reduceMul,Nat.reduceLT,Nat.reduceSub,Int.reduceLT,Int.reduceLE,Int.reduceEq,Int.reduceNe,Int.reduceSub,Int.reduceAdd,Int.reduceMul,Int.reduceBEq,Int.reduceBNe,Int.reduceGT,Int.reduceGE,Nat.reduceGT,Int.reduceToNat,Int.reduceNeg,Nat.reduceLeDiff,Nat.reduceBEq,Nat.reduceBneDiff,Value.cells, hk', hn', w0, w1, tdiv64, w2, w3, w4, g, g']
  intro b4 hb4 b6 hb6
  obtain ⟨n64, hb6'⟩ := Heap.set_none.1 hb6
  have hh : h.le ((h.set b4 (.own 0 (key.map u8V) 32)).set b6 (.own 0 (nonce.map u8V) 12)) := Heap.le_set (Heap.le_set (Heap.le_refl _) hb4 _) hb6' _
  have q4 : ((h.set b4 (.own 0 (key.map u8V) 32)).set b6 (.own 0 (nonce.map u8V) 12)) b4 = some (.own 0 (key.map u8V) 32) := set_keep (Heap.set_self _ _ _) (Ne.symm n64)
  have q6 : ((h.set b4 (.own 0 (key.map u8V) 32)).set b6 (.own 0 (nonce.map u8V) 12)) b6 = some (.own 0 (nonce.map u8V) 12) := Heap.set_self _ _ _
  generalize ((h.set b4 (.own 0 (key.map u8V) 32)).set b6 (.own 0 (nonce.map u8V) 12)) = H at hh q4 q6 ⊢
  unfold ir_bandboxref4_Xor_11
  simp -implicitDefEqProofs only [zB1,zB2,zB3,zB4,zB5,zB6,zB7,zB8,zB9,zB10,zB11,y00,y01,y02,y03,y04,y05,y06,y07,y08,y09,y0a,y0b,y0c,y0d,y0e,y0f,y0g,y0h,y0i,y0j,y0k,y0l,y0m,y0n,y0o,y0p,y0q,y0r,y0s,y0t,y0u,y0v,y0w,y0x,y0y,y0z,y10,y11,y12,y13,y14,y15,y16,y17,y18,y19,y1a,y1b,y1c,y1d,y1e,y1f,y1g,y1h,y1i,y1j,y1k,y1l,y1m,y1n,y1o,y1p,y1q,y1r,retO,retL,retV,z69,allV,allP,z6a,z6d,z6e,z6k,z6l,z6m,binV,eqV,unV,oOpt,reduceIte,reduceCtorEq,Nat.reduceEqDiff,Nat.reduceAdd,Nat.reduceMul,Nat.reduceLT,Nat.reduceSub,Int.reduceLT,Int.reduceLE,Int.reduceEq,Int.reduceNe,Int.reduceSub,Int.reduceAdd,Int.reduceMul,Int.reduceBEq,Int.reduceBNe,Int.reduceGT,Int.reduceGE,Nat.reduceGT,Int.reduceToNat,Int.reduceNeg,Nat.reduceLeDiff,Nat.reduceBEq,Nat.reduceBneDiff,Value.cells]
  have hlen := sxF_len key count nonce l
  refine wp_loop' (fun m t H' => H.le H' ∧ ∃ (n : Nat) (v11 : Value), t = tl [(1, .int .u32 count.toNat), (3, .slice base l.length c), (4, .pointer (some ⟨b4, 0, none⟩)), (6, .pointer (some ⟨b6, 0, none⟩)), (10, v11), (11, .int .i64 ((64 * n : Nat) : Int))] ∧ 64 * n ≤ l.length + 63 ∧ m = l.length + 64 - 64 * n ∧
      OwB H H' v11 ((sxF key count nonce l).take (64 * n))) (l.length + 64)
    ⟨Heap.le_refl _, 0, _, rfl, by omega, by omega, Ow.nil _ _ _⟩ ?_
  rintro m t H' ⟨le', n, v11, rfl, hn64, rfl, ow⟩
  by_cases hlt : 64 * n < l.length
  · have e1 : ((64 * n : Nat) : Int) < (l.length : Int) := by omega
    have l4 : hcells H' ⟨b4, 0, none⟩ 32 = some (key.map u8V) := hcells_own0 (le' _ _ q4) (by simp [hk])
    have l6 : hcells H' ⟨b6, 0, none⟩ 12 = some (nonce.map u8V) := hcells_own0 (le' _ _ q6) (by simp [hn])
    have dv : Int.tdiv ((64 * n : Nat) : Int) 64 = (n : Int) := by rw [tdiv64]; congr 1; omega
    have dw : IntKind.i64.wrap (n : Int) = (n : Int) := wrapI (by omega) (by omega)
    have du := u32_lit n (by omega)
    simp -implicitDefEqProofs only [zB1,zB2,zB3,zB4,zB5,zB6,zB7,zB8,zB9,zB10,zB11,y00,y01,y02,y03,y04,y05,y06,y07,y08,y09,y0a,y0b,y0c,y0d,y0e,y0f,y0g,y0h,y0i,y0j,y0k,y0l,y0m,y0n,y0o,y0p,y0q,y0r,y0s,y0t,y0u,y0v,y0w,y0x,y0y,y0z,y10,y11,y12,y13,y14,y15,y16,y17,y18,y19,y1a,y1b,y1c,y1d,y1e,y1f,y1g,y1h,y1i,y1j,y1k,y1l,y1m,y1n,y1o,y1p,y1q,y1r,retO,retL,retV,z69,allV,allP,z6a,z6d,z6e,z6k,z6l,z6m,binV,eqV,unV,oOpt,reduceIte,reduceCtorEq,Nat.reduceEqDiff,Nat.reduceAdd,Nat.reduceMul,Nat.reduceLT,Nat.reduceSub,Int.reduceLT,Int.reduceLE,Int.reduceEq,Int.reduceNe,Int.reduceSub,Int.reduceAdd,Int.reduceMul,Int.reduceBEq,Int.reduceBNe,Int.reduceGT,Int.reduceGE,Nat.reduceGT,Int.reduceToNat,Int.reduceNeg,Nat.reduceLeDiff,Nat.reduceBEq,Nat.reduceBneDiff,Value.cells, e1, l4, l6, dv, dw, du, u32_add]
    refine (ref4_Block_c E _ key nonce _ hk hn).mono ?_
    rintro r H2 ⟨le2, rfl⟩
    simp -implicitDefEqProofs only [zB1,zB2,zB3,zB4,zB5,zB6,zB7,zB8,zB9,zB10,zB11,y00,y01,y02,y03,y04,y05,y06,y07,y08,y09,y0a,y0b,y0c,y0d,y0e,y0f,y0g,y0h,y0i,y0j,y0k,y0l,y0m,y0n,y0o,y0p,y0q,y0r,y0s,y0t,y0u,y0v,y0w,y0x,y0y,y0z,y10,y11,y12,y13,y14,y15,y16,y17,y18,y19,y1a,y1b,y1c,y1d,y1e,y1f,y1g,y1h,y1i,y1j,y1k,y1l,y1m,y1n,y1o,y1p,y1q,y1r,retO,retL,retV,z69,allV,allP,z6a,z6d,z6e,z6k,z6l,z6m,binV,eqV,unV,oOpt,reduceIte,reduceCtorEq,Nat.reduceEqDiff,Nat.reduceAdd,Nat.reduceMul,Nat.reduceLT,Nat.reduceSub,Int.reduceLT,Int.reduceLE,Int.reduceEq,Int.reduceNe,Int.reduceSub,Int.reduceAdd,Int.reduceMul,Int.reduceBEq,Int.reduceBNe,Int.reduceGT,Int.reduceGE,Nat.reduceGT,Int.reduceToNat,Int.reduceNeg,Nat.reduceLeDiff,Nat.reduceBEq,Nat.reduceBneDiff,Value.cells, List.length_replicate]
    intro b13 hb13
    have s13 : storeV (H2.set b13 (.own 0 (List.replicate 64 (.int .u8 0)) 64)) 64 (.pointer (some ⟨b13, 0, none⟩)) (.agg (row8 (blockF key (count + BitVec.ofNat 32 n) nonce) 64).toArray) = some (H2.set b13 (.own 0 (row8 (blockF key (count + BitVec.ofNat 32 n) nonce) 64) 64)) := z6q (by omega) (row8_len _ _) (by simp [row8, one]) (by simp) (by omega)
    have w3 : IntKind.i64.wrap (((64 * n : Nat) : Int) + 64) = ((64 * (n + 1) : Nat) : Int) := by rw [wrapI (by omega) (by omega)]; omega
    have le3 := Heap.le_trans le' (Heap.le_new le2 hb13 (.own 0 (row8 (blockF key (count + BitVec.ofNat 32 n) nonce) 64) 64))
    have hst := sxF_step key count nonce l n _ hlt rfl
    simp -implicitDefEqProofs only [zB1,zB2,zB3,zB4,zB5,zB6,zB7,zB8,zB9,zB10,zB11,y00,y01,y02,y03,y04,y05,y06,y07,y08,y09,y0a,y0b,y0c,y0d,y0e,y0f,y0g,y0h,y0i,y0j,y0k,y0l,y0m,y0n,y0o,y0p,y0q,y0r,y0s,y0t,y0u,y0v,y0w,y0x,y0y,y0z,y10,y11,y12,y13,y14,y15,y16,y17,y18,y19,y1a,y1b,y1c,y1d,y1e,y1f,y1g,y1h,y1i,y1j,y1k,y1l,y1m,y1n,y1o,y1p,y1q,y1r,retO,retL,retV,z69,allV,allP,z6a,z6d,z6e,z6k,z6l,z6m,binV,eqV,unV,oOpt,reduceIte,reduceCtorEq,Nat.reduceEqDiff,Nat.reduceAdd,Nat.reduceMul,Nat.reduceLT,Nat.reduceSub,Int.reduceLT,Int.reduceLE,Int.reduceEq,Int.reduceNe,Int.reduceSub,Int.reduceAdd,Int.reduceMul,Int.reduceBEq,Int.reduceBNe,Int.reduceGT,Int.reduceGE,Nat.reduceGT,Int.reduceToNat,Int.reduceNeg,Nat.reduceLeDiff,Nat.reduceBEq,Nat.reduceBneDiff,Value.cells, s13]
    refine ref4Xor37 E (blockF key (count + BitVec.ofNat 32 n) nonce) l _ hl hcap hlt rfl (sl.le (Heap.le_trans hh le3)) le3 (Heap.set_self _ _ _) (ow.le (Heap.le_new le2 hb13 _)) (by rw [List.length_take, hlen]; omega) count ?_
    intro v5 H5 le5 ow5
    simp -implicitDefEqProofs only [zB1,zB2,zB3,zB4,zB5,zB6,zB7,zB8,zB9,zB10,zB11,y00,y01,y02,y03,y04,y05,y06,y07,y08,y09,y0a,y0b,y0c,y0d,y0e,y0f,y0g,y0h,y0i,y0j,y0k,y0l,y0m,y0n,y0o,y0p,y0q,y0r,y0s,y0t,y0u,y0v,y0w,y0x,y0y,y0z,y10,y11,y12,y13,y14,y15,y16,y17,y18,y19,y1a,y1b,y1c,y1d,y1e,y1f,y1g,y1h,y1i,y1j,y1k,y1l,y1m,y1n,y1o,y1p,y1q,y1r,retO,retL,retV,z69,allV,allP,z6a,z6d,z6e,z6k,z6l,z6m,binV,eqV,unV,oOpt,reduceIte,reduceCtorEq,Nat.reduceEqDiff,Nat.reduceAdd,Nat.reduceMul,Nat.reduceLT,Nat.reduceSub,Int.reduceLT,Int.reduceLE,Int.reduceEq,Int.reduceNe,Int.reduceSub,Int.reduceAdd,Int.reduceMul,Int.reduceBEq,Int.reduceBNe,Int.reduceGT,Int.reduceGE,Nat.reduceGT,Int.reduceToNat,Int.reduceNeg,Nat.reduceLeDiff,Nat.reduceBEq,Nat.reduceBneDiff,Value.cells, w3]
    refine ⟨_, by omega, le5, n + 1, v5, rfl, by omega, rfl, ?_⟩
    rw [hst]
    exact ow5
  · have e1 : ¬ ((64 * n : Nat) : Int) < (l.length : Int) := by omega
    rw [List.take_of_length_le (by omega)] at ow
    simp -implicitDefEqProofs only [zB1,zB2,zB3,zB4,zB5,zB6,zB7,zB8,zB9,zB10,zB11,y00,y01,y02,y03,y04,y05,y06,y07,y08,y09,y0a,y0b,y0c,y0d,y0e,y0f,y0g,y0h,y0i,y0j,y0k,y0l,y0m,y0n,y0o,y0p,y0q,y0r,y0s,y0t,y0u,y0v,y0w,y0x,y0y,y0z,y10,y11,y12,y13,y14,y15,y16,y17,y18,y19,y1a,y1b,y1c,y1d,y1e,y1f,y1g,y1h,y1i,y1j,y1k,y1l,y1m,y1n,y1o,y1p,y1q,y1r,retO,retL,retV,z69,allV,allP,z6a,z6d,z6e,z6k,z6l,z6m,binV,eqV,unV,oOpt,reduceIte,reduceCtorEq,Nat.reduceEqDiff,Nat.reduceAdd,Nat.reduceMul,Nat.reduceLT,Nat.reduceSub,Int.reduceLT,Int.reduceLE,Int.reduceEq,Int.reduceNe,Int.reduceSub,Int.reduceAdd,Int.reduceMul,Int.reduceBEq,Int.reduceBNe,Int.reduceGT,Int.reduceGE,Nat.reduceGT,Int.reduceToNat,Int.reduceNeg,Nat.reduceLeDiff,Nat.reduceBEq,Nat.reduceBneDiff,Value.cells, e1]
    exact ⟨Heap.le_trans hh le', _, rfl, Ow.since hh ow⟩
end Go.Bb
/- Contracts: sealed and opened: keys, tags. -/
namespace Go.Bb
set_option linter.unusedSimpArgs false
set_option linter.unusedVariables false
set_option maxRecDepth 20000
set_option maxHeartbeats 2000000

theorem row8_take (f : Nat → UInt8) {n m : Nat} (h : m ≤ n) : (row8 f n).take m = row8 f m := by
  apply List.ext_getElem
  · simp [row8]; omega
  · intro j h1 h2
    rw [List.getElem_take, row8_get, row8_get]
theorem u32_0 : ((0 : U32).toNat : Int) = 0 := rfl
theorem u32_1 : ((1 : U32).toNat : Int) = 1 := rfl
theorem akey_row (key nonce : List UInt8) : (akeyF key nonce).map u8V = row8 (blockF key 0 nonce) 32 := rowL_map _ _

theorem aead_Key_c (E : EnvT tab) (h : Heap) (key nonce : List UInt8) (hk : key.length = 32) (hn : nonce.length = 12) :
    ACallN E.toEnv n_aead_Key [.agg (key.map u8V).toArray, .agg (nonce.map u8V).toArray] h fun r h' => h.le h' ∧ r = .agg ((akeyF key nonce).map u8V).toArray := by
  refine acall h_aead_Key ir_aead_Key rfl rfl (wpA_sound ?_)
  unfold ir_aead_Key
  have hk' : (key.map u8V).length = 32 := by simp [hk]
  have hn' : (nonce.map u8V).length = 12 := by simp [hn]
  simp -implicitDefEqProofs only [zB1,zB2,zB3,zB4,zB5,zB6,zB7,zB8,zB9,zB10,zB11,y00,y01,y02,y03,y04,y05,y06,y07,y08,y09,y0a,y0b,y0c,y0d,y0e,y0f,y0g,y0h,y0i,y0j,y0k,y0l,y0m,y0n,y0o,y0p,y0q,y0r,y0s,y0t,y0u,y0v,y0w,y0x,y0y,y0z,y10,y11,y12,y13,y14,y15,y16,y17,y18,y19,y1a,y1b,y1c,y1d,y1e,y1f,y1g,y1h,y1i,y1j,y1k,y1l,y1m,y1n,y1o,y1p,y1q,y1r,retO,retL,retV,z69,allV,allP,z6a,z6d,z6e,z6k,z6l,z6m,binV,eqV,unV,oOpt,reduceIte,reduceCtorEq,Nat.reduceEqDiff,Nat.reduceAdd,Nat.reduceMul,Nat.reduceLT,Nat.reduceSub,Int.reduceLT,Int.reduceLE,Int.reduceEq,Int.reduceNe,Int.reduceSub,Int.reduceAdd,Int.reduceMul,Int.reduceBEq,Int.reduceBNe,Int.reduceGT,Int.reduceGE,Nat.reduceGT,Int.reduceToNat,Int.reduceNeg,Nat.reduceLeDiff,Nat.reduceBEq,Nat.reduceBneDiff,Value.cells, hk', hn', List.length_replicate]
  intro b2 hb2 b3 hb3 b4 hb4
  obtain ⟨n32, hb3'⟩ := Heap.set_none.1 hb3
  obtain ⟨n43, hb4a⟩ := Heap.set_none.1 hb4
  obtain ⟨n42, hb4'⟩ := Heap.set_none.1 hb4a
  have le1 : h.le (((h.set b2 (.own 0 (key.map u8V) 32)).set b3 (.own 0 (nonce.map u8V) 12)).set b4 (.own 0 (List.replicate 32 (.int .u8 0)) 32)) := Heap.le_set (Heap.le_set (Heap.le_set (Heap.le_refl _) hb2 _) hb3' _) hb4' _
  have l2 : hcells (((h.set b2 (.own 0 (key.map u8V) 32)).set b3 (.own 0 (nonce.map u8V) 12)).set b4 (.own 0 (List.replicate 32 (.int .u8 0)) 32)) ⟨b2, 0, none⟩ 32 = some (key.map u8V) := hcells_own0 (set_keep (set_keep (Heap.set_self _ _ _) (Ne.symm n32)) (Ne.symm n42)) hk'
  have l3 : hcells (((h.set b2 (.own 0 (key.map u8V) 32)).set b3 (.own 0 (nonce.map u8V) 12)).set b4 (.own 0 (List.replicate 32 (.int .u8 0)) 32)) ⟨b3, 0, none⟩ 12 = some (nonce.map u8V) := hcells_own0 (set_keep (Heap.set_self _ _ _) (Ne.symm n43)) hn'
  have q4 : (((h.set b2 (.own 0 (key.map u8V) 32)).set b3 (.own 0 (nonce.map u8V) 12)).set b4 (.own 0 (List.replicate 32 (.int .u8 0)) 32)) b4 = some (.own 0 (List.replicate 32 (.int .u8 0)) 32) := Heap.set_self _ _ _
  generalize (((h.set b2 (.own 0 (key.map u8V) 32)).set b3 (.own 0 (nonce.map u8V) 12)).set b4 (.own 0 (List.replicate 32 (.int .u8 0)) 32)) = h1 at le1 l2 l3 q4 ⊢
  try simp -implicitDefEqProofs only [zB1,zB2,zB3,zB4,zB5,zB6,zB7,zB8,zB9,zB10,zB11,y00,y01,y02,y03,y04,y05,y06,y07,y08,y09,y0a,y0b,y0c,y0d,y0e,y0f,y0g,y0h,y0i,y0j,y0k,y0l,y0m,y0n,y0o,y0p,y0q,y0r,y0s,y0t,y0u,y0v,y0w,y0x,y0y,y0z,y10,y11,y12,y13,y14,y15,y16,y17,y18,y19,y1a,y1b,y1c,y1d,y1e,y1f,y1g,y1h,y1i,y1j,y1k,y1l,y1m,y1n,y1o,y1p,y1q,y1r,retO,retL,retV,z69,allV,allP,z6a,z6d,z6e,z6k,z6l,z6m,binV,eqV,unV,oOpt,reduceIte,reduceCtorEq,Nat.reduceEqDiff,Nat.reduceAdd,Nat.reduceMul,Nat.reduceLT,Nat.reduceSub,Int.reduceLT,Int.reduceLE,Int.reduceEq,Int.reduceNe,Int.reduceSub,Int.reduceAdd,Int.reduceMul,Int.reduceBEq,Int.reduceBNe,Int.reduceGT,Int.reduceGE,Nat.reduceGT,Int.reduceToNat,Int.reduceNeg,Nat.reduceLeDiff,Nat.reduceBEq,Nat.reduceBneDiff,Value.cells, l2, l3]
  have hB := chacha_Block_c E h1 key nonce 0 hk hn
  rw [u32_0] at hB
  refine hB.mono ?_
  rintro r h2 ⟨le2, rfl⟩
  rw [akey_row]
  generalize blockF key 0 nonce = bk
  simp -implicitDefEqProofs only [zB1,zB2,zB3,zB4,zB5,zB6,zB7,zB8,zB9,zB10,zB11,y00,y01,y02,y03,y04,y05,y06,y07,y08,y09,y0a,y0b,y0c,y0d,y0e,y0f,y0g,y0h,y0i,y0j,y0k,y0l,y0m,y0n,y0o,y0p,y0q,y0r,y0s,y0t,y0u,y0v,y0w,y0x,y0y,y0z,y10,y11,y12,y13,y14,y15,y16,y17,y18,y19,y1a,y1b,y1c,y1d,y1e,y1f,y1g,y1h,y1i,y1j,y1k,y1l,y1m,y1n,y1o,y1p,y1q,y1r,retO,retL,retV,z69,allV,allP,z6a,z6d,z6e,z6k,z6l,z6m,binV,eqV,unV,oOpt,reduceIte,reduceCtorEq,Nat.reduceEqDiff,Nat.reduceAdd,Nat.reduceMul,Nat.reduceLT,Nat.reduceSub,Int.reduceLT,Int.reduceLE,Int.reduceEq,Int.reduceNe,Int.reduceSub,Int.reduceAdd,Int.reduceMul,Int.reduceBEq,Int.reduceBNe,Int.reduceGT,Int.reduceGE,Nat.reduceGT,Int.reduceToNat,Int.reduceNeg,Nat.reduceLeDiff,Nat.reduceBEq,Nat.reduceBneDiff,Value.cells, List.length_replicate]
  intro b5 hb5
  have s5 : storeV (h2.set b5 (.own 0 (List.replicate 64 (.int .u8 0)) 64)) 64 (.pointer (some ⟨b5, 0, none⟩)) (.agg (row8 bk 64).toArray) = some (h2.set b5 (.own 0 (row8 bk 64) 64)) := z6q (by omega) (row8_len _ _) (by simp [row8, one]) (by simp) (by omega)
  have bd : bnds 64 64 none (some (some (.int .i64 32))) none = some (0, 32, 64) := bnds_hi (by omega) (by omega)
  have q45 := set_new (X := .own 0 (row8 bk 64) 64) hb5 (le2 _ _ q4)
  have l5 : hcells (h2.set b5 (.own 0 (row8 bk 64) 64)) ⟨b5, 0, none⟩ 32 = some (row8 bk 32) := by
    rw [hcells_at (Heap.set_self _ _ _) (by rw [row8_len]; omega), List.drop_zero, row8_take _ (by omega)]
  have s4 : storeV (h2.set b5 (.own 0 (row8 bk 64) 64)) 32 (.pointer (some ⟨b4, 0, none⟩)) (.agg (row8 bk 32).toArray) = some ((h2.set b5 (.own 0 (row8 bk 64) 64)).set b4 (.own 0 (row8 bk 32) 32)) := storeV_agg_at q45 (by omega) (row8_len _ _) (by simp [row8, one]) (by simp) (by omega)
  have l4 : hcells ((h2.set b5 (.own 0 (row8 bk 64) 64)).set b4 (.own 0 (row8 bk 32) 32)) ⟨b4, 0, none⟩ 32 = some (row8 bk 32) := z6o (row8_len _ _)
  simp -implicitDefEqProofs only [zB1,zB2,zB3,zB4,zB5,zB6,zB7,zB8,zB9,zB10,zB11,y00,y01,y02,y03,y04,y05,y06,y07,y08,y09,y0a,y0b,y0c,y0d,y0e,y0f,y0g,y0h,y0i,y0j,y0k,y0l,y0m,y0n,y0o,y0p,y0q,y0r,y0s,y0t,y0u,y0v,y0w,y0x,y0y,y0z,y10,y11,y12,y13,y14,y15,y16,y17,y18,y19,y1a,y1b,y1c,y1d,y1e,y1f,y1g,y1h,y1i,y1j,y1k,y1l,y1m,y1n,y1o,y1p,y1q,y1r,retO,retL,retV,z69,allV,allP,z6a,z6d,z6e,z6k,z6l,z6m,binV,eqV,unV,oOpt,reduceIte,reduceCtorEq,Nat.reduceEqDiff,Nat.reduceAdd,Nat.reduceMul,Nat.reduceLT,Nat.reduceSub,Int.reduceLT,Int.reduceLE,Int.reduceEq,Int.reduceNe,Int.reduceSub,Int.reduceAdd,Int.reduceMul,Int.reduceBEq,Int.reduceBNe,Int.reduceGT,Int.reduceGE,Nat.reduceGT,Int.reduceToNat,Int.reduceNeg,Nat.reduceLeDiff,Nat.reduceBEq,Nat.reduceBneDiff,Value.cells, s5, bd, Nat.sub_zero, addz, l5, s4, l4]
  exact Heap.le_set (Heap.le_new (Heap.le_trans le1 le2) hb5 _) hb4' _

theorem aead_fill_c (E : EnvT tab) (h : Heap) {v : Value} (l : List UInt8) (hl : l.length ≤ 100000000) (s : SlB h v l) : ACallN E.toEnv n_aead_fill [v] h fun r h' => h.le h' ∧ OwB h h' r (List.replicate (fillN l.length) 0) := by
  obtain ⟨base, c, rfl⟩ := Sl.shape s
  refine acall h_aead_fill ir_aead_fill rfl rfl (wpA_sound ?_)
  unfold ir_aead_fill
  have t1 : Int.tmod (l.length : Int) 16 = ((l.length % 16 : Nat) : Int) := by rw [Int.tmod_eq_emod_of_nonneg (by omega)]; rfl
  have w1 : IntKind.i64.wrap ((l.length % 16 : Nat) : Int) = ((l.length % 16 : Nat) : Int) := wrapI (by omega) (by omega)
  have w2 : IntKind.i64.wrap (16 - ((l.length % 16 : Nat) : Int)) = ((16 - l.length % 16 : Nat) : Int) := by rw [wrapI (by omega) (by omega)]; omega
  have t2 : Int.tmod ((16 - l.length % 16 : Nat) : Int) 16 = ((fillN l.length : Nat) : Int) := by rw [Int.tmod_eq_emod_of_nonneg (by omega)]; rfl
  have hf := fillN_lt l.length
  have w3 : IntKind.i64.wrap ((fillN l.length : Nat) : Int) = ((fillN l.length : Nat) : Int) := wrapI (by omega) (by omega)
  generalize fillN l.length = k at *
  have m1 : (0 : Int) ≤ (k : Int) ∧ (k : Int) ≤ (k : Int) ∧ (k : Int) ≤ 9223372036854775807 ∧ 1 * (k : Int) ≤ 281474976710656 := by omega
  simp -implicitDefEqProofs only [zB1,zB2,zB3,zB4,zB5,zB6,zB7,zB8,zB9,zB10,zB11,y00,y01,y02,y03,y04,y05,y06,y07,y08,y09,y0a,y0b,y0c,y0d,y0e,y0f,y0g,y0h,y0i,y0j,y0k,y0l,y0m,y0n,y0o,y0p,y0q,y0r,y0s,y0t,y0u,y0v,y0w,y0x,y0y,y0z,y10,y11,y12,y13,y14,y15,y16,y17,y18,y19,y1a,y1b,y1c,y1d,y1e,y1f,y1g,y1h,y1i,y1j,y1k,y1l,y1m,y1n,y1o,y1p,y1q,y1r,retO,retL,retV,z69,allV,allP,z6a,z6d,z6e,z6k,z6l,z6m,binV,eqV,unV,oOpt,reduceIte,reduceCtorEq,Nat.reduceEqDiff,Nat.reduceAdd,Nat.reduceMul,Nat.reduceLT,Nat.reduceSub,Int.reduceLT,Int.reduceLE,Int.reduceEq,Int.reduceNe,Int.reduceSub,Int.reduceAdd,Int.reduceMul,Int.reduceBEq,Int.reduceBNe,Int.reduceGT,Int.reduceGE,Nat.reduceGT,Int.reduceToNat,Int.reduceNeg,Nat.reduceLeDiff,Nat.reduceBEq,Nat.reduceBneDiff,Value.cells, t1, w1, w2, t2, w3, if_pos m1, Int.toNat_natCast]
  intro b5 hb5
  refine ⟨Heap.le_new (Heap.le_refl _) hb5 _, ?_⟩
  unfold OwB
  rw [List.length_replicate, List.map_replicate]
  exact .inr ⟨b5, 0, k, k, 0, [], [], rfl, Nat.le_refl _, hb5, by rw [Heap.set_self]; simp [u8V], rfl, by simp, by omega⟩
end Go.Bb
