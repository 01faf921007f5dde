/- My contracts: BbCsha1 BbCsha2 BbCsha3 BbCsha4 BbCsha5 BbCjou1 BbCdsk3 BbCdsk4 BbCdsk5. -/
import Derived.Test.YtfekancobbplaaaDoorBbM1
import Derived.Test.YtfekancobbplaaaDoorBbG3
/- Contracts: sums of bytes: a block is mixed in. -/
namespace Go.Bb
set_option linter.unusedSimpArgs false
set_option linter.unusedVariables false
set_option maxRecDepth 20000

theorem rowU_cells {H : Heap} {b n sz : Nat} {f : Nat → U32} (h : H b = some (.own 0 (rowU f n) sz)) : hcells H ⟨b, 0, none⟩ n = some (rowU f n) := by
  rw [hcells_at h (by rw [rowU_len]; omega)]; simp [List.take_of_length_le, rowU_len]

theorem sha_mix_c (E : EnvT tab) (h : Heap) {v : Value} (hs k : Nat → U32) (b : List UInt8) {bk ok : Nat} (kp : hcells h ⟨bk, ok, none⟩ 64 = some (rowU k 64)) (hb : b.length = 64) (s : SlB h v b) :
    ACallN E.toEnv n_sha_mix [.agg (rowU hs 8).toArray, v, .pointer (some ⟨bk, ok, none⟩)] h fun r h' => h.le h' ∧ r = .agg (rowU (mixF k hs b) 8).toArray := by
  obtain ⟨base, c, rfl⟩ := Sl.shape s
  refine acall h_sha_mix ir_sha_mix rfl rfl (wpA_sound ?_)
  unfold ir_sha_mix
  simp -implicitDefEqProofs only [zB1,zB2,zB3,zB4,zB5,zB6,zB7,zB8,zB9,zB10,zB11,y00,y01,y02,y03,y04,y05,y06,y07,y08,y09,y0a,y0b,y0c,y0d,y0e,y0f,y0g,y0h,y0i,y0j,y0k,y0l,y0m,y0n,y0o,y0p,y0q,y0r,y0s,y0t,y0u,y0v,y0w,y0x,y0y,y0z,y10,y11,y12,y13,y14,y15,y16,y17,y18,y19,y1a,y1b,y1c,y1d,y1e,y1f,y1g,y1h,y1i,y1j,y1k,y1l,y1m,y1n,y1o,y1p,y1q,y1r,retO,retL,retV,z6i,allV,allP,z6j,z6m,z6n,z6t,z6u,z6v,binV,eqV,unV,oOpt,reduceIte,reduceCtorEq,Nat.reduceEqDiff,Nat.reduceAdd,Nat.reduceMul,Nat.reduceLT,Nat.reduceSub,Int.reduceLT,Int.reduceLE,Int.reduceEq,Int.reduceNe,Int.reduceSub,Int.reduceAdd,Int.reduceMul,Int.reduceBEq,Int.reduceBNe,Int.reduceGT,Int.reduceGE,Nat.reduceGT,Int.reduceToNat,Int.reduceNeg,Nat.reduceLeDiff,Nat.reduceBEq,Nat.reduceBneDiff,Value.cells]
  rw [rowU_len]
  intro b3 hb3 b6 hb6
  try simp -implicitDefEqProofs only [zB1,zB2,zB3,zB4,zB5,zB6,zB7,zB8,zB9,zB10,zB11,y00,y01,y02,y03,y04,y05,y06,y07,y08,y09,y0a,y0b,y0c,y0d,y0e,y0f,y0g,y0h,y0i,y0j,y0k,y0l,y0m,y0n,y0o,y0p,y0q,y0r,y0s,y0t,y0u,y0v,y0w,y0x,y0y,y0z,y10,y11,y12,y13,y14,y15,y16,y17,y18,y19,y1a,y1b,y1c,y1d,y1e,y1f,y1g,y1h,y1i,y1j,y1k,y1l,y1m,y1n,y1o,y1p,y1q,y1r,retO,retL,retV,z6i,allV,allP,z6j,z6m,z6n,z6t,z6u,z6v,binV,eqV,unV,oOpt,reduceIte,reduceCtorEq,Nat.reduceEqDiff,Nat.reduceAdd,Nat.reduceMul,Nat.reduceLT,Nat.reduceSub,Int.reduceLT,Int.reduceLE,Int.reduceEq,Int.reduceNe,Int.reduceSub,Int.reduceAdd,Int.reduceMul,Int.reduceBEq,Int.reduceBNe,Int.reduceGT,Int.reduceGE,Nat.reduceGT,Int.reduceToNat,Int.reduceNeg,Nat.reduceLeDiff,Nat.reduceBEq,Nat.reduceBneDiff,Value.cells]
  have n63 : b6 ≠ b3 := (Heap.set_none.1 hb6).1
  have hb6' := (Heap.set_none.1 hb6).2
  rw [List.length_replicate]
  have le0 : h.le ((h.set b3 (.own 0 (rowU hs 8) 8)).set b6 (.own 0 (List.replicate 8 (.int .u32 0)) 8)) := Heap.le_new (Heap.le_new (Heap.le_refl _) hb3 _) hb6 _
  have p3 : ((h.set b3 (.own 0 (rowU hs 8) 8)).set b6 (.own 0 (List.replicate 8 (.int .u32 0)) 8)) b3 = some (.own 0 (rowU hs 8) 8) := by rw [Heap.set_ne (Ne.symm n63), Heap.set_self]
  have p6 : ((h.set b3 (.own 0 (rowU hs 8) 8)).set b6 (.own 0 (List.replicate 8 (.int .u32 0)) 8)) b6 = some (.own 0 (rowU (fun _ => 0) 8) 8) := by rw [Heap.set_self, rowU_new]
  generalize ((h.set b3 (.own 0 (rowU hs 8) 8)).set b6 (.own 0 (List.replicate 8 (.int .u32 0)) 8)) = h0 at le0 p3 p6
  refine (sha_schedule_c E h0 b hb (Sl.le le0 s)).mono ?_
  rintro r h1 ⟨le1, rfl⟩
  have le01 := Heap.le_trans le0 le1
  have p3 := le1 _ _ p3
  have p6 := le1 _ _ p6
  simp -implicitDefEqProofs only [zB1,zB2,zB3,zB4,zB5,zB6,zB7,zB8,zB9,zB10,zB11,y00,y01,y02,y03,y04,y05,y06,y07,y08,y09,y0a,y0b,y0c,y0d,y0e,y0f,y0g,y0h,y0i,y0j,y0k,y0l,y0m,y0n,y0o,y0p,y0q,y0r,y0s,y0t,y0u,y0v,y0w,y0x,y0y,y0z,y10,y11,y12,y13,y14,y15,y16,y17,y18,y19,y1a,y1b,y1c,y1d,y1e,y1f,y1g,y1h,y1i,y1j,y1k,y1l,y1m,y1n,y1o,y1p,y1q,y1r,retO,retL,retV,z6i,allV,allP,z6j,z6m,z6n,z6t,z6u,z6v,binV,eqV,unV,oOpt,reduceIte,reduceCtorEq,Nat.reduceEqDiff,Nat.reduceAdd,Nat.reduceMul,Nat.reduceLT,Nat.reduceSub,Int.reduceLT,Int.reduceLE,Int.reduceEq,Int.reduceNe,Int.reduceSub,Int.reduceAdd,Int.reduceMul,Int.reduceBEq,Int.reduceBNe,Int.reduceGT,Int.reduceGE,Nat.reduceGT,Int.reduceToNat,Int.reduceNeg,Nat.reduceLeDiff,Nat.reduceBEq,Nat.reduceBneDiff,Value.cells]
  intro b7 hb7
  have st7 : storeV (h1.set b7 (.own 0 (List.replicate 64 (.int .u32 0)) 64)) 64 (.pointer (some ⟨b7, 0, none⟩)) (.agg (rowU (schedW b 64) 64).toArray) = some (h1.set b7 (.own 0 (rowU (schedW b 64) 64) 64)) := z6z (by omega) (rowU_len _ _) (rowU_one _ _) (by simp) (by omega)
  rw [List.length_replicate]
  have n73 := ne_of_none hb7 p3
  have n76 := ne_of_none hb7 p6
  have l3 : hcells (h1.set b7 (.own 0 (rowU (schedW b 64) 64) 64)) ⟨b3, 0, none⟩ 8 = some (rowU hs 8) := by rw [hcells_ne n73]; exact rowU_cells p3
  simp -implicitDefEqProofs only [zB1,zB2,zB3,zB4,zB5,zB6,zB7,zB8,zB9,zB10,zB11,y00,y01,y02,y03,y04,y05,y06,y07,y08,y09,y0a,y0b,y0c,y0d,y0e,y0f,y0g,y0h,y0i,y0j,y0k,y0l,y0m,y0n,y0o,y0p,y0q,y0r,y0s,y0t,y0u,y0v,y0w,y0x,y0y,y0z,y10,y11,y12,y13,y14,y15,y16,y17,y18,y19,y1a,y1b,y1c,y1d,y1e,y1f,y1g,y1h,y1i,y1j,y1k,y1l,y1m,y1n,y1o,y1p,y1q,y1r,retO,retL,retV,z6i,allV,allP,z6j,z6m,z6n,z6t,z6u,z6v,binV,eqV,unV,oOpt,reduceIte,reduceCtorEq,Nat.reduceEqDiff,Nat.reduceAdd,Nat.reduceMul,Nat.reduceLT,Nat.reduceSub,Int.reduceLT,Int.reduceLE,Int.reduceEq,Int.reduceNe,Int.reduceSub,Int.reduceAdd,Int.reduceMul,Int.reduceBEq,Int.reduceBNe,Int.reduceGT,Int.reduceGE,Nat.reduceGT,Int.reduceToNat,Int.reduceNeg,Nat.reduceLeDiff,Nat.reduceBEq,Nat.reduceBneDiff,Value.cells, st7, l3]
  intro b8 hb8
  have n87 := (Heap.set_none.1 hb8).1
  have hb8' := (Heap.set_none.1 hb8).2
  have n83 := ne_of_none hb8' p3
  have n86 := ne_of_none hb8' p6
  have st8 : storeV ((h1.set b7 (.own 0 (rowU (schedW b 64) 64) 64)).set b8 (.own 0 (List.replicate 8 (.int .u32 0)) 8)) 8 (.pointer (some ⟨b8, 0, none⟩)) (.agg (rowU hs 8).toArray) = some ((h1.set b7 (.own 0 (rowU (schedW b 64) 64) 64)).set b8 (.own 0 (rowU hs 8) 8)) := z6z (by omega) (rowU_len _ _) (rowU_one _ _) (by simp) (by omega)
  rw [List.length_replicate]
  simp -implicitDefEqProofs only [zB1,zB2,zB3,zB4,zB5,zB6,zB7,zB8,zB9,zB10,zB11,y00,y01,y02,y03,y04,y05,y06,y07,y08,y09,y0a,y0b,y0c,y0d,y0e,y0f,y0g,y0h,y0i,y0j,y0k,y0l,y0m,y0n,y0o,y0p,y0q,y0r,y0s,y0t,y0u,y0v,y0w,y0x,y0y,y0z,y10,y11,y12,y13,y14,y15,y16,y17,y18,y19,y1a,y1b,y1c,y1d,y1e,y1f,y1g,y1h,y1i,y1j,y1k,y1l,y1m,y1n,y1o,y1p,y1q,y1r,retO,retL,retV,z6i,allV,allP,z6j,z6m,z6n,z6t,z6u,z6v,binV,eqV,unV,oOpt,reduceIte,reduceCtorEq,Nat.reduceEqDiff,Nat.reduceAdd,Nat.reduceMul,Nat.reduceLT,Nat.reduceSub,Int.reduceLT,Int.reduceLE,Int.reduceEq,Int.reduceNe,Int.reduceSub,Int.reduceAdd,Int.reduceMul,Int.reduceBEq,Int.reduceBNe,Int.reduceGT,Int.reduceGE,Nat.reduceGT,Int.reduceToNat,Int.reduceNeg,Nat.reduceLeDiff,Nat.reduceBEq,Nat.reduceBneDiff,Value.cells, st8]
  have hb7' := Heap.none_of_le le01 hb7
  have hb8'' := Heap.none_of_le le01 hb8'
  generalize hw : schedW b 64 = w at hb8 ⊢
  refine wp_loop' (fun m t H => h.le H ∧ ∃ (i : Nat), t = tl [(2, .pointer (some ⟨bk, ok, none⟩)), (3, .pointer (some ⟨b3, 0, none⟩)), (6, .pointer (some ⟨b6, 0, none⟩)), (7, .pointer (some ⟨b7, 0, none⟩)), (8, .pointer (some ⟨b8, 0, none⟩)), (21, .int .i64 i)] ∧ i ≤ 64 ∧ m = 64 - i ∧
      H b3 = some (.own 0 (rowU hs 8) 8) ∧ H b6 = some (.own 0 (rowU (fun _ => 0) 8) 8) ∧ H b7 = some (.own 0 (rowU w 64) 64) ∧ H b8 = some (.own 0 (rowU (mixV k w hs i) 8) 8)) 64
    ⟨Heap.le_new (Heap.le_new le01 hb7 _) hb8 _, 0, rfl, by omega, by omega, by rw [Heap.set_ne n83, Heap.set_ne n73]; exact p3, by rw [Heap.set_ne n86, Heap.set_ne n76]; exact p6, by rw [Heap.set_ne (Ne.symm n87), Heap.set_self], Heap.set_self _ _ _⟩ ?_
  clear st7 st8 l3
  rintro m t H ⟨hle, i, rfl, hi, rfl, q3, q6, q7, q8⟩
  by_cases hlt : i < 64
  · have hi1 : (i : Int) < 64 := by omega
    have hi2 : (0 : Int) ≤ i := by omega
    have w1 : IntKind.i64.wrap ((i : Int) + 1) = ((i + 1 : Nat) : Int) := wrapN (by omega)
    have ki : hcell H ⟨bk, ok + i, none⟩ = some (.int .u32 (k i).toNat) := by
      rw [hcell_of (hcells_le hle kp) i (by omega)]
      simp [rowU, hlt]
    have wi := rowU_at q7 hlt
    have a0 := rowU_at q8 (show 0 < 8 by omega)
    have a1 := rowU_at q8 (show 1 < 8 by omega)
    have a2 := rowU_at q8 (show 2 < 8 by omega)
    have a3 := rowU_at q8 (show 3 < 8 by omega)
    have a4 := rowU_at q8 (show 4 < 8 by omega)
    have a5 := rowU_at q8 (show 5 < 8 by omega)
    have a6 := rowU_at q8 (show 6 < 8 by omega)
    have a7 := rowU_at q8 (show 7 < 8 by omega)
    have mx := mixX_row k w (mixV k w hs i) i
    have hv : mixV k w hs (i + 1) = mixX k w (mixV k w hs i) i := rfl
    generalize mixV k w hs i = v at a0 a1 a2 a3 a4 a5 a6 a7 mx hv q8
    simp only [mixT, mixR, mixM] at mx
    have st : ∀ us : List Value, rowU (mixX k w v i) 8 = us → storeV H 8 (.pointer (some ⟨b8, 0, none⟩)) (.agg us.toArray) = some (H.set b8 (.own 0 (rowU (mixX k w v i) 8) 8)) := fun us e => by
      rw [← e]; exact storeV_agg_at q8 (by omega) (rowU_len _ _) (rowU_one _ _) (rowU_len _ _) (by omega)
    have st := st _ mx
    simp -implicitDefEqProofs only [zB1,zB2,zB3,zB4,zB5,zB6,zB7,zB8,zB9,zB10,zB11,y00,y01,y02,y03,y04,y05,y06,y07,y08,y09,y0a,y0b,y0c,y0d,y0e,y0f,y0g,y0h,y0i,y0j,y0k,y0l,y0m,y0n,y0o,y0p,y0q,y0r,y0s,y0t,y0u,y0v,y0w,y0x,y0y,y0z,y10,y11,y12,y13,y14,y15,y16,y17,y18,y19,y1a,y1b,y1c,y1d,y1e,y1f,y1g,y1h,y1i,y1j,y1k,y1l,y1m,y1n,y1o,y1p,y1q,y1r,retO,retL,retV,z6i,allV,allP,z6j,z6m,z6n,z6t,z6u,z6v,binV,eqV,unV,oOpt,reduceIte,reduceCtorEq,Nat.reduceEqDiff,Nat.reduceAdd,Nat.reduceMul,Nat.reduceLT,Nat.reduceSub,Int.reduceLT,Int.reduceLE,Int.reduceEq,Int.reduceNe,Int.reduceSub,Int.reduceAdd,Int.reduceMul,Int.reduceBEq,Int.reduceBNe,Int.reduceGT,Int.reduceGE,Nat.reduceGT,Int.reduceToNat,Int.reduceNeg,Nat.reduceLeDiff,Nat.reduceBEq,Nat.reduceBneDiff,Value.cells, hi1, hi2, a0, a4, Int.toNat_natCast]
    refine (sha_turn_c E _ _ 6 rfl (by omega) (by omega)).mono ?_
    rintro r H' ⟨rfl, rfl⟩
    simp -implicitDefEqProofs only [zB1,zB2,zB3,zB4,zB5,zB6,zB7,zB8,zB9,zB10,zB11,y00,y01,y02,y03,y04,y05,y06,y07,y08,y09,y0a,y0b,y0c,y0d,y0e,y0f,y0g,y0h,y0i,y0j,y0k,y0l,y0m,y0n,y0o,y0p,y0q,y0r,y0s,y0t,y0u,y0v,y0w,y0x,y0y,y0z,y10,y11,y12,y13,y14,y15,y16,y17,y18,y19,y1a,y1b,y1c,y1d,y1e,y1f,y1g,y1h,y1i,y1j,y1k,y1l,y1m,y1n,y1o,y1p,y1q,y1r,retO,retL,retV,z6i,allV,allP,z6j,z6m,z6n,z6t,z6u,z6v,binV,eqV,unV,oOpt,reduceIte,reduceCtorEq,Nat.reduceEqDiff,Nat.reduceAdd,Nat.reduceMul,Nat.reduceLT,Nat.reduceSub,Int.reduceLT,Int.reduceLE,Int.reduceEq,Int.reduceNe,Int.reduceSub,Int.reduceAdd,Int.reduceMul,Int.reduceBEq,Int.reduceBNe,Int.reduceGT,Int.reduceGE,Nat.reduceGT,Int.reduceToNat,Int.reduceNeg,Nat.reduceLeDiff,Nat.reduceBEq,Nat.reduceBneDiff,Value.cells]
    refine (sha_turn_c E _ _ 11 rfl (by omega) (by omega)).mono ?_
    rintro r H' ⟨rfl, rfl⟩
    simp -implicitDefEqProofs only [zB1,zB2,zB3,zB4,zB5,zB6,zB7,zB8,zB9,zB10,zB11,y00,y01,y02,y03,y04,y05,y06,y07,y08,y09,y0a,y0b,y0c,y0d,y0e,y0f,y0g,y0h,y0i,y0j,y0k,y0l,y0m,y0n,y0o,y0p,y0q,y0r,y0s,y0t,y0u,y0v,y0w,y0x,y0y,y0z,y10,y11,y12,y13,y14,y15,y16,y17,y18,y19,y1a,y1b,y1c,y1d,y1e,y1f,y1g,y1h,y1i,y1j,y1k,y1l,y1m,y1n,y1o,y1p,y1q,y1r,retO,retL,retV,z6i,allV,allP,z6j,z6m,z6n,z6t,z6u,z6v,binV,eqV,unV,oOpt,reduceIte,reduceCtorEq,Nat.reduceEqDiff,Nat.reduceAdd,Nat.reduceMul,Nat.reduceLT,Nat.reduceSub,Int.reduceLT,Int.reduceLE,Int.reduceEq,Int.reduceNe,Int.reduceSub,Int.reduceAdd,Int.reduceMul,Int.reduceBEq,Int.reduceBNe,Int.reduceGT,Int.reduceGE,Nat.reduceGT,Int.reduceToNat,Int.reduceNeg,Nat.reduceLeDiff,Nat.reduceBEq,Nat.reduceBneDiff,Value.cells, u32_xor]
    refine (sha_turn_c E _ _ 25 rfl (by omega) (by omega)).mono ?_
    rintro r H' ⟨rfl, rfl⟩
    simp -implicitDefEqProofs only [zB1,zB2,zB3,zB4,zB5,zB6,zB7,zB8,zB9,zB10,zB11,y00,y01,y02,y03,y04,y05,y06,y07,y08,y09,y0a,y0b,y0c,y0d,y0e,y0f,y0g,y0h,y0i,y0j,y0k,y0l,y0m,y0n,y0o,y0p,y0q,y0r,y0s,y0t,y0u,y0v,y0w,y0x,y0y,y0z,y10,y11,y12,y13,y14,y15,y16,y17,y18,y19,y1a,y1b,y1c,y1d,y1e,y1f,y1g,y1h,y1i,y1j,y1k,y1l,y1m,y1n,y1o,y1p,y1q,y1r,retO,retL,retV,z6i,allV,allP,z6j,z6m,z6n,z6t,z6u,z6v,binV,eqV,unV,oOpt,reduceIte,reduceCtorEq,Nat.reduceEqDiff,Nat.reduceAdd,Nat.reduceMul,Nat.reduceLT,Nat.reduceSub,Int.reduceLT,Int.reduceLE,Int.reduceEq,Int.reduceNe,Int.reduceSub,Int.reduceAdd,Int.reduceMul,Int.reduceBEq,Int.reduceBNe,Int.reduceGT,Int.reduceGE,Nat.reduceGT,Int.reduceToNat,Int.reduceNeg,Nat.reduceLeDiff,Nat.reduceBEq,Nat.reduceBneDiff,Value.cells, u32_xor, u32_and, u32_not, u32_add, a5, a6, a7, ki, wi, hi1, hi2, Int.toNat_natCast]
    refine (sha_turn_c E _ _ 2 rfl (by omega) (by omega)).mono ?_
    rintro r H' ⟨rfl, rfl⟩
    simp -implicitDefEqProofs only [zB1,zB2,zB3,zB4,zB5,zB6,zB7,zB8,zB9,zB10,zB11,y00,y01,y02,y03,y04,y05,y06,y07,y08,y09,y0a,y0b,y0c,y0d,y0e,y0f,y0g,y0h,y0i,y0j,y0k,y0l,y0m,y0n,y0o,y0p,y0q,y0r,y0s,y0t,y0u,y0v,y0w,y0x,y0y,y0z,y10,y11,y12,y13,y14,y15,y16,y17,y18,y19,y1a,y1b,y1c,y1d,y1e,y1f,y1g,y1h,y1i,y1j,y1k,y1l,y1m,y1n,y1o,y1p,y1q,y1r,retO,retL,retV,z6i,allV,allP,z6j,z6m,z6n,z6t,z6u,z6v,binV,eqV,unV,oOpt,reduceIte,reduceCtorEq,Nat.reduceEqDiff,Nat.reduceAdd,Nat.reduceMul,Nat.reduceLT,Nat.reduceSub,Int.reduceLT,Int.reduceLE,Int.reduceEq,Int.reduceNe,Int.reduceSub,Int.reduceAdd,Int.reduceMul,Int.reduceBEq,Int.reduceBNe,Int.reduceGT,Int.reduceGE,Nat.reduceGT,Int.reduceToNat,Int.reduceNeg,Nat.reduceLeDiff,Nat.reduceBEq,Nat.reduceBneDiff,Value.cells]
    refine (sha_turn_c E _ _ 13 rfl (by omega) (by omega)).mono ?_
    rintro r H' ⟨rfl, rfl⟩
    simp -implicitDefEqProofs only [zB1,zB2,zB3,zB4,zB5,zB6,zB7,zB8,zB9,zB10,zB11,y00,y01,y02,y03,y04,y05,y06,y07,y08,y09,y0a,y0b,y0c,y0d,y0e,y0f,y0g,y0h,y0i,y0j,y0k,y0l,y0m,y0n,y0o,y0p,y0q,y0r,y0s,y0t,y0u,y0v,y0w,y0x,y0y,y0z,y10,y11,y12,y13,y14,y15,y16,y17,y18,y19,y1a,y1b,y1c,y1d,y1e,y1f,y1g,y1h,y1i,y1j,y1k,y1l,y1m,y1n,y1o,y1p,y1q,y1r,retO,retL,retV,z6i,allV,allP,z6j,z6m,z6n,z6t,z6u,z6v,binV,eqV,unV,oOpt,reduceIte,reduceCtorEq,Nat.reduceEqDiff,Nat.reduceAdd,Nat.reduceMul,Nat.reduceLT,Nat.reduceSub,Int.reduceLT,Int.reduceLE,Int.reduceEq,Int.reduceNe,Int.reduceSub,Int.reduceAdd,Int.reduceMul,Int.reduceBEq,Int.reduceBNe,Int.reduceGT,Int.reduceGE,Nat.reduceGT,Int.reduceToNat,Int.reduceNeg,Nat.reduceLeDiff,Nat.reduceBEq,Nat.reduceBneDiff,Value.cells, u32_xor]
    refine (sha_turn_c E _ _ 22 rfl (by omega) (by omega)).mono ?_
    rintro r H' ⟨rfl, rfl⟩
    simp -implicitDefEqProofs only [zB1,zB2,zB3,zB4,zB5,zB6,zB7,zB8,zB9,zB10,zB11,y00,y01,y02,y03,y04,y05,y06,y07,y08,y09,y0a,y0b,y0c,y0d,y0e,y0f,y0g,y0h,y0i,y0j,y0k,y0l,y0m,y0n,y0o,y0p,y0q,y0r,y0s,y0t,y0u,y0v,y0w,y0x,y0y,y0z,y10,y11,y12,y13,y14,y15,y16,y17,y18,y19,y1a,y1b,y1c,y1d,y1e,y1f,y1g,y1h,y1i,y1j,y1k,y1l,y1m,y1n,y1o,y1p,y1q,y1r,retO,retL,retV,z6i,allV,allP,z6j,z6m,z6n,z6t,z6u,z6v,binV,eqV,unV,oOpt,reduceIte,reduceCtorEq,Nat.reduceEqDiff,Nat.reduceAdd,Nat.reduceMul,Nat.reduceLT,Nat.reduceSub,Int.reduceLT,Int.reduceLE,Int.reduceEq,Int.reduceNe,Int.reduceSub,Int.reduceAdd,Int.reduceMul,Int.reduceBEq,Int.reduceBNe,Int.reduceGT,Int.reduceGE,Nat.reduceGT,Int.reduceToNat,Int.reduceNeg,Nat.reduceLeDiff,Nat.reduceBEq,Nat.reduceBneDiff,Value.cells, u32_xor, u32_and, u32_add, a0, a1, a2, a3, a4, a5, a6, Int.toNat_natCast, List.drop_replicate, List.replicate_zero, List.length_replicate, st, w1]
    refine ⟨_, ?_, Heap.le_set hle hb8'' _, i + 1, rfl, hlt, rfl, by rw [Heap.set_ne n83]; exact q3, by rw [Heap.set_ne n86]; exact q6, by rw [Heap.set_ne (Ne.symm n87)]; exact q7, by rw [Heap.set_self, hv]⟩
    omega
  · have hi1 : ¬ (i : Int) < 64 := by omega
    have : i = 64 := by omega
    subst this
    simp -implicitDefEqProofs only [zB1,zB2,zB3,zB4,zB5,zB6,zB7,zB8,zB9,zB10,zB11,y00,y01,y02,y03,y04,y05,y06,y07,y08,y09,y0a,y0b,y0c,y0d,y0e,y0f,y0g,y0h,y0i,y0j,y0k,y0l,y0m,y0n,y0o,y0p,y0q,y0r,y0s,y0t,y0u,y0v,y0w,y0x,y0y,y0z,y10,y11,y12,y13,y14,y15,y16,y17,y18,y19,y1a,y1b,y1c,y1d,y1e,y1f,y1g,y1h,y1i,y1j,y1k,y1l,y1m,y1n,y1o,y1p,y1q,y1r,retO,retL,retV,z6i,allV,allP,z6j,z6m,z6n,z6t,z6u,z6v,binV,eqV,unV,oOpt,reduceIte,reduceCtorEq,Nat.reduceEqDiff,Nat.reduceAdd,Nat.reduceMul,Nat.reduceLT,Nat.reduceSub,Int.reduceLT,Int.reduceLE,Int.reduceEq,Int.reduceNe,Int.reduceSub,Int.reduceAdd,Int.reduceMul,Int.reduceBEq,Int.reduceBNe,Int.reduceGT,Int.reduceGE,Nat.reduceGT,Int.reduceToNat,Int.reduceNeg,Nat.reduceLeDiff,Nat.reduceBEq,Nat.reduceBneDiff,Value.cells, hi1]
    have hV : mixF k hs b = fun j => hs j + mixV k w hs 64 j := by rw [← hw]; rfl
    rw [hV]
    generalize mixV k w hs 64 = V at q8
    refine wp_loop' (fun m t H => h.le H ∧ ∃ (i : Nat), t = tl [(3, .pointer (some ⟨b3, 0, none⟩)), (6, .pointer (some ⟨b6, 0, none⟩)), (8, .pointer (some ⟨b8, 0, none⟩)), (108, .int .i64 i)] ∧ i ≤ 8 ∧ m = 8 - i ∧
        H b3 = some (.own 0 (rowU (fun j => if j < i then hs j + V j else hs j) 8) 8) ∧ H b6 = some (.own 0 (rowU (fun _ => 0) 8) 8) ∧ H b8 = some (.own 0 (rowU V 8) 8)) 8
      ⟨hle, 0, rfl, by omega, by omega, by rw [q3]; rfl, q6, q8⟩ ?_
    clear hle q3 q6 q7 q8 hi1
    rintro m t H ⟨hle, i, rfl, hi, rfl, q3, q6, q8⟩
    by_cases hlt : i < 8
    · have hi1 : (i : Int) < 8 := by omega
      have hi2 : (0 : Int) ≤ i := by omega
      have w1 : IntKind.i64.wrap ((i : Int) + 1) = ((i + 1 : Nat) : Int) := wrapN (by omega)
      have a3 := rowU_at q3 hlt
      have a8 := rowU_at q8 hlt
      have st := rowU_store (z := hs i + V i) q3 hlt
      rw [if_neg (by omega)] at a3
      have e : rowU (updU (fun j => if j < i then hs j + V j else hs j) i (hs i + V i)) 8 = rowU (fun j => if j < i + 1 then hs j + V j else hs j) 8 := by
        apply rowU_congr
        intro j hj
        unfold updU
        by_cases e1 : j = i
        · subst e1; simp
        · rw [if_neg e1]
          by_cases e2 : j < i
          · simp only [e2, if_true]; rw [if_pos (by omega)]
          · simp only [e2, if_false]; rw [if_neg (by omega)]
      rw [e] at st
      simp -implicitDefEqProofs only [zB1,zB2,zB3,zB4,zB5,zB6,zB7,zB8,zB9,zB10,zB11,y00,y01,y02,y03,y04,y05,y06,y07,y08,y09,y0a,y0b,y0c,y0d,y0e,y0f,y0g,y0h,y0i,y0j,y0k,y0l,y0m,y0n,y0o,y0p,y0q,y0r,y0s,y0t,y0u,y0v,y0w,y0x,y0y,y0z,y10,y11,y12,y13,y14,y15,y16,y17,y18,y19,y1a,y1b,y1c,y1d,y1e,y1f,y1g,y1h,y1i,y1j,y1k,y1l,y1m,y1n,y1o,y1p,y1q,y1r,retO,retL,retV,z6i,allV,allP,z6j,z6m,z6n,z6t,z6u,z6v,binV,eqV,unV,oOpt,reduceIte,reduceCtorEq,Nat.reduceEqDiff,Nat.reduceAdd,Nat.reduceMul,Nat.reduceLT,Nat.reduceSub,Int.reduceLT,Int.reduceLE,Int.reduceEq,Int.reduceNe,Int.reduceSub,Int.reduceAdd,Int.reduceMul,Int.reduceBEq,Int.reduceBNe,Int.reduceGT,Int.reduceGE,Nat.reduceGT,Int.reduceToNat,Int.reduceNeg,Nat.reduceLeDiff,Nat.reduceBEq,Nat.reduceBneDiff,Value.cells, hi1, hi2, a3, a8, u32_add, Int.toNat_natCast, st, w1]
      refine ⟨_, ?_, Heap.le_set hle hb3 _, i + 1, rfl, hlt, rfl, Heap.set_self _ _ _, by rw [Heap.set_ne n63]; exact q6, by rw [Heap.set_ne (Ne.symm n83)]; exact q8⟩
      omega
    · have hi1 : ¬ (i : Int) < 8 := by omega
      have : i = 8 := by omega
      subst this
      have e : rowU (fun j => if j < 8 then hs j + V j else hs j) 8 = rowU (fun j => hs j + V j) 8 := rowU_congr fun j hj => if_pos hj
      rw [e] at q3
      have hl := rowU_cells q3
      have st : storeV H 8 (.pointer (some ⟨b6, 0, none⟩)) (.agg (rowU (fun j => hs j + V j) 8).toArray) = some (H.set b6 (.own 0 (rowU (fun j => hs j + V j) 8) 8)) := storeV_agg_at q6 (by omega) (rowU_len _ _) (rowU_one _ _) (rowU_len _ _) (by omega)
      have hl2 : hcells (H.set b6 (.own 0 (rowU (fun j => hs j + V j) 8) 8)) ⟨b6, 0, none⟩ 8 = some (rowU (fun j => hs j + V j) 8) := z6x (rowU_len _ _)
      simp -implicitDefEqProofs only [zB1,zB2,zB3,zB4,zB5,zB6,zB7,zB8,zB9,zB10,zB11,y00,y01,y02,y03,y04,y05,y06,y07,y08,y09,y0a,y0b,y0c,y0d,y0e,y0f,y0g,y0h,y0i,y0j,y0k,y0l,y0m,y0n,y0o,y0p,y0q,y0r,y0s,y0t,y0u,y0v,y0w,y0x,y0y,y0z,y10,y11,y12,y13,y14,y15,y16,y17,y18,y19,y1a,y1b,y1c,y1d,y1e,y1f,y1g,y1h,y1i,y1j,y1k,y1l,y1m,y1n,y1o,y1p,y1q,y1r,retO,retL,retV,z6i,allV,allP,z6j,z6m,z6n,z6t,z6u,z6v,binV,eqV,unV,oOpt,reduceIte,reduceCtorEq,Nat.reduceEqDiff,Nat.reduceAdd,Nat.reduceMul,Nat.reduceLT,Nat.reduceSub,Int.reduceLT,Int.reduceLE,Int.reduceEq,Int.reduceNe,Int.reduceSub,Int.reduceAdd,Int.reduceMul,Int.reduceBEq,Int.reduceBNe,Int.reduceGT,Int.reduceGE,Nat.reduceGT,Int.reduceToNat,Int.reduceNeg,Nat.reduceLeDiff,Nat.reduceBEq,Nat.reduceBneDiff,Value.cells, hi1, hl, st, hl2]
      exact Heap.le_set hle hb6' _
end Go.Bb
/- Contracts: sums of bytes: the beginning. -/
namespace Go.Bb
set_option linter.unusedSimpArgs false
set_option linter.unusedVariables false
set_option maxRecDepth 20000

def startL : List Nat := [1779033703, 3144134277, 1013904242, 2773480762, 1359893119, 2600822924, 528734635, 1541459225]
def constL : List Nat := [1116352408, 1899447441, 3049323471, 3921009573, 961987163, 1508970993, 2453635748, 2870763221, 3624381080, 310598401, 607225278, 1426881987, 1925078388, 2162078206, 2614888103, 3248222580, 3835390401, 4022224774, 264347078, 604807628, 770255983, 1249150122, 1555081692, 1996064986, 2554220882, 2821834349, 2952996808, 3210313671, 3336571891, 3584528711, 113926993, 338241895, 666307205, 773529912, 1294757372, 1396182291, 1695183700, 1986661051, 2177026350, 2456956037, 2730485921, 2820302411, 3259730800, 3345764771, 3516065817, 3600352804, 4094571909, 275423344, 430227734, 506948616, 659060556, 883997877, 958139571, 1322822218, 1537002063, 1747873779, 1955562222, 2024104815, 2227730452, 2361852424, 2428436474, 2756734187, 3204031479, 3329325298]
def startF : Nat → U32 := fun j => BitVec.ofNat 32 (startL.getD j 0)
def constF : Nat → U32 := fun j => BitVec.ofNat 32 (constL.getD j 0)
def wordsV (l : List Nat) : List Value := l.map fun n : Nat => Value.int .u32 (n : Int)
theorem start_row : wordsV startL = rowU startF 8 := by rfl
theorem const_row : wordsV constL = rowU constF 64 := by rfl
theorem withV_of {x : Option Value} {v : Value} {K : Value → Heap → Prop} {h : Heap} (e : x = some v) (k : K v h) : withV x K h := by rw [e]; exact k
theorem words_one (l : List Nat) : (wordsV l).all one = true := by simp [wordsV, one]
theorem sha_start_c (E : EnvT tab) (h : Heap) : ACallN E.toEnv n_sha_start [] h fun v h' => h.le h' ∧ v = .agg (rowU startF 8).toArray := by
  rw [← start_row]
  refine acall h_sha_start ir_sha_start rfl rfl (wpA_sound ?_)
  unfold ir_sha_start
  simp -implicitDefEqProofs only [zB1,zB2,zB3,zB4,zB5,zB6,zB7,zB8,zB9,zB10,zB11,y00,y01,y02,y03,y04,y05,y06,y07,y08,y09,y0a,y0b,y0c,y0d,y0e,y0f,y0g,y0h,y0i,y0j,y0k,y0l,y0m,y0n,y0o,y0p,y0q,y0r,y0s,y0t,y0u,y0v,y0w,y0x,y0y,y0z,y10,y11,y12,y13,y14,y15,y16,y17,y18,y19,y1a,y1b,y1c,y1d,y1e,y1f,y1g,y1h,y1i,y1j,y1k,y1l,y1m,y1n,y1o,y1p,y1q,y1r,retO,retL,retV,z6i,allV,allP,z6j,z6m,z6n,z6t,z6u,z6v,binV,eqV,unV,oOpt,reduceIte,reduceCtorEq,Nat.reduceEqDiff,Nat.reduceAdd,Nat.reduceMul,Nat.reduceLT,Nat.reduceSub,Int.reduceLT,Int.reduceLE,Int.reduceEq,Int.reduceNe,Int.reduceSub,Int.reduceAdd,Int.reduceMul,Int.reduceBEq,Int.reduceBNe,Int.reduceGT,Int.reduceGE,Nat.reduceGT,Int.reduceToNat,Int.reduceNeg,Nat.reduceLeDiff,Nat.reduceBEq,Nat.reduceBneDiff,Value.cells]
  intro b hb
  refine withV_of (v := .agg (wordsV startL).toArray) rfl ?_
  rw [List.length_replicate]
  have st : storeV (h.set b (.own 0 (List.replicate 8 (.int .u32 0)) 8)) 8 (.pointer (some ⟨b, 0, none⟩)) (.agg (wordsV startL).toArray) = some (h.set b (.own 0 (wordsV startL) 8)) := z6z (by omega) rfl (words_one _) rfl (by omega)
  have ld : hcells (h.set b (.own 0 (wordsV startL) 8)) ⟨b, 0, none⟩ 8 = some (wordsV startL) := z6x rfl
  generalize wordsV startL = X at st ld ⊢
  simp -implicitDefEqProofs only [zB1,zB2,zB3,zB4,zB5,zB6,zB7,zB8,zB9,zB10,zB11,y00,y01,y02,y03,y04,y05,y06,y07,y08,y09,y0a,y0b,y0c,y0d,y0e,y0f,y0g,y0h,y0i,y0j,y0k,y0l,y0m,y0n,y0o,y0p,y0q,y0r,y0s,y0t,y0u,y0v,y0w,y0x,y0y,y0z,y10,y11,y12,y13,y14,y15,y16,y17,y18,y19,y1a,y1b,y1c,y1d,y1e,y1f,y1g,y1h,y1i,y1j,y1k,y1l,y1m,y1n,y1o,y1p,y1q,y1r,retO,retL,retV,z6i,allV,allP,z6j,z6m,z6n,z6t,z6u,z6v,binV,eqV,unV,oOpt,reduceIte,reduceCtorEq,Nat.reduceEqDiff,Nat.reduceAdd,Nat.reduceMul,Nat.reduceLT,Nat.reduceSub,Int.reduceLT,Int.reduceLE,Int.reduceEq,Int.reduceNe,Int.reduceSub,Int.reduceAdd,Int.reduceMul,Int.reduceBEq,Int.reduceBNe,Int.reduceGT,Int.reduceGE,Nat.reduceGT,Int.reduceToNat,Int.reduceNeg,Nat.reduceLeDiff,Nat.reduceBEq,Nat.reduceBneDiff,Value.cells, st, ld]
  exact Heap.le_set (Heap.le_refl _) hb _
theorem sha_constants_c (E : EnvT tab) (h : Heap) : ACallN E.toEnv n_sha_constants [] h fun v h' => h.le h' ∧ v = .agg (rowU constF 64).toArray := by
  rw [← const_row]
  refine acall h_sha_constants ir_sha_constants rfl rfl (wpA_sound ?_)
  unfold ir_sha_constants
  simp -implicitDefEqProofs only [zB1,zB2,zB3,zB4,zB5,zB6,zB7,zB8,zB9,zB10,zB11,y00,y01,y02,y03,y04,y05,y06,y07,y08,y09,y0a,y0b,y0c,y0d,y0e,y0f,y0g,y0h,y0i,y0j,y0k,y0l,y0m,y0n,y0o,y0p,y0q,y0r,y0s,y0t,y0u,y0v,y0w,y0x,y0y,y0z,y10,y11,y12,y13,y14,y15,y16,y17,y18,y19,y1a,y1b,y1c,y1d,y1e,y1f,y1g,y1h,y1i,y1j,y1k,y1l,y1m,y1n,y1o,y1p,y1q,y1r,retO,retL,retV,z6i,allV,allP,z6j,z6m,z6n,z6t,z6u,z6v,binV,eqV,unV,oOpt,reduceIte,reduceCtorEq,Nat.reduceEqDiff,Nat.reduceAdd,Nat.reduceMul,Nat.reduceLT,Nat.reduceSub,Int.reduceLT,Int.reduceLE,Int.reduceEq,Int.reduceNe,Int.reduceSub,Int.reduceAdd,Int.reduceMul,Int.reduceBEq,Int.reduceBNe,Int.reduceGT,Int.reduceGE,Nat.reduceGT,Int.reduceToNat,Int.reduceNeg,Nat.reduceLeDiff,Nat.reduceBEq,Nat.reduceBneDiff,Value.cells]
  intro b hb
  unfold ir_sha_constants_1
  rw [z03, z01, z11, z3f]
  refine withV_of (v := .agg (wordsV constL).toArray) rfl ?_
  rw [List.length_replicate]
  have st : storeV (h.set b (.own 0 (List.replicate 64 (.int .u32 0)) 64)) 64 (.pointer (some ⟨b, 0, none⟩)) (.agg (wordsV constL).toArray) = some (h.set b (.own 0 (wordsV constL) 64)) := z6z (by omega) rfl (words_one _) rfl (by omega)
  have ld : hcells (h.set b (.own 0 (wordsV constL) 64)) ⟨b, 0, none⟩ 64 = some (wordsV constL) := z6x rfl
  generalize wordsV constL = X at st ld ⊢
  simp -implicitDefEqProofs only [zB1,zB2,zB3,zB4,zB5,zB6,zB7,zB8,zB9,zB10,zB11,y00,y01,y02,y03,y04,y05,y06,y07,y08,y09,y0a,y0b,y0c,y0d,y0e,y0f,y0g,y0h,y0i,y0j,y0k,y0l,y0m,y0n,y0o,y0p,y0q,y0r,y0s,y0t,y0u,y0v,y0w,y0x,y0y,y0z,y10,y11,y12,y13,y14,y15,y16,y17,y18,y19,y1a,y1b,y1c,y1d,y1e,y1f,y1g,y1h,y1i,y1j,y1k,y1l,y1m,y1n,y1o,y1p,y1q,y1r,retO,retL,retV,z6i,allV,allP,z6j,z6m,z6n,z6t,z6u,z6v,binV,eqV,unV,oOpt,reduceIte,reduceCtorEq,Nat.reduceEqDiff,Nat.reduceAdd,Nat.reduceMul,Nat.reduceLT,Nat.reduceSub,Int.reduceLT,Int.reduceLE,Int.reduceEq,Int.reduceNe,Int.reduceSub,Int.reduceAdd,Int.reduceMul,Int.reduceBEq,Int.reduceBNe,Int.reduceGT,Int.reduceGE,Nat.reduceGT,Int.reduceToNat,Int.reduceNeg,Nat.reduceLeDiff,Nat.reduceBEq,Nat.reduceBneDiff,Value.cells, st, ld]
  exact Heap.le_set (Heap.le_refl _) hb _

/-- A sum so far. -/
def sumC (hs : Nat → U32) (v : Value) (n : Int) : List Value := rowU hs 8 ++ (rowU constF 64 ++ [v, .int .i64 n])
theorem sumC_len (hs : Nat → U32) (v : Value) (n : Int) : (sumC hs v n).length = 74 := by simp [sumC, rowU_len]

theorem sumB1 : 8 ≤ (List.replicate 72 (Value.int IntKind.u32 0) ++ [Value.slice none 0 0, Value.int IntKind.i64 0]).length := by simp
theorem sumB2 (f : Nat → U32) : 72 ≤ (rowU f 8 ++ List.drop 8 (List.replicate 72 (Value.int IntKind.u32 0) ++ [Value.slice none 0 0, Value.int IntKind.i64 0])).length := by simp [rowU_len]
theorem sumB3 (f : Nat → U32) : List.take 8 (rowU f 8 ++ List.drop 8 (List.replicate 72 (Value.int IntKind.u32 0) ++ [Value.slice none 0 0, Value.int IntKind.i64 0])) ++ rowU constF 64 ++ List.drop 72 (rowU f 8 ++ List.drop 8 (List.replicate 72 (Value.int IntKind.u32 0) ++ [Value.slice none 0 0, Value.int IntKind.i64 0])) = sumC f (.slice none 0 0) 0 := by
  have e : List.drop 8 (List.replicate 72 (Value.int IntKind.u32 0) ++ [Value.slice none 0 0, Value.int IntKind.i64 0]) = List.replicate 64 (Value.int IntKind.u32 0) ++ [Value.slice none 0 0, Value.int IntKind.i64 0] := by
    rw [List.drop_append_of_le_length (by simp), List.drop_replicate]
  rw [e, List.take_left' (rowU_len _ _), ← List.append_assoc, List.drop_left' (by simp [rowU_len])]
  unfold sumC
  rw [List.append_assoc]

theorem sha_New_c (E : EnvT tab) (h : Heap) : ACallN E.toEnv n_sha_New [] h fun v h' => h.le h' ∧ ∃ bs, v = .pointer (some ⟨bs, 0, none⟩) ∧ h bs = none ∧ h' bs = some (.own 0 (sumC startF (.slice none 0 0) 0) 74) := by
  refine acall h_sha_New ir_sha_New rfl rfl (wpA_sound ?_)
  unfold ir_sha_New
  simp -implicitDefEqProofs only [zB1,zB2,zB3,zB4,zB5,zB6,zB7,zB8,zB9,zB10,zB11,y00,y01,y02,y03,y04,y05,y06,y07,y08,y09,y0a,y0b,y0c,y0d,y0e,y0f,y0g,y0h,y0i,y0j,y0k,y0l,y0m,y0n,y0o,y0p,y0q,y0r,y0s,y0t,y0u,y0v,y0w,y0x,y0y,y0z,y10,y11,y12,y13,y14,y15,y16,y17,y18,y19,y1a,y1b,y1c,y1d,y1e,y1f,y1g,y1h,y1i,y1j,y1k,y1l,y1m,y1n,y1o,y1p,y1q,y1r,retO,retL,retV,z6i,allV,allP,z6j,z6m,z6n,z6t,z6u,z6v,binV,eqV,unV,oOpt,reduceIte,reduceCtorEq,Nat.reduceEqDiff,Nat.reduceAdd,Nat.reduceMul,Nat.reduceLT,Nat.reduceSub,Int.reduceLT,Int.reduceLE,Int.reduceEq,Int.reduceNe,Int.reduceSub,Int.reduceAdd,Int.reduceMul,Int.reduceBEq,Int.reduceBNe,Int.reduceGT,Int.reduceGE,Nat.reduceGT,Int.reduceToNat,Int.reduceNeg,Nat.reduceLeDiff,Nat.reduceBEq,Nat.reduceBneDiff,Value.cells]
  refine (sha_start_c E h).mono ?_
  rintro v h1 ⟨le1, rfl⟩
  simp -implicitDefEqProofs only [zB1,zB2,zB3,zB4,zB5,zB6,zB7,zB8,zB9,zB10,zB11,y00,y01,y02,y03,y04,y05,y06,y07,y08,y09,y0a,y0b,y0c,y0d,y0e,y0f,y0g,y0h,y0i,y0j,y0k,y0l,y0m,y0n,y0o,y0p,y0q,y0r,y0s,y0t,y0u,y0v,y0w,y0x,y0y,y0z,y10,y11,y12,y13,y14,y15,y16,y17,y18,y19,y1a,y1b,y1c,y1d,y1e,y1f,y1g,y1h,y1i,y1j,y1k,y1l,y1m,y1n,y1o,y1p,y1q,y1r,retO,retL,retV,z6i,allV,allP,z6j,z6m,z6n,z6t,z6u,z6v,binV,eqV,unV,oOpt,reduceIte,reduceCtorEq,Nat.reduceEqDiff,Nat.reduceAdd,Nat.reduceMul,Nat.reduceLT,Nat.reduceSub,Int.reduceLT,Int.reduceLE,Int.reduceEq,Int.reduceNe,Int.reduceSub,Int.reduceAdd,Int.reduceMul,Int.reduceBEq,Int.reduceBNe,Int.reduceGT,Int.reduceGE,Nat.reduceGT,Int.reduceToNat,Int.reduceNeg,Nat.reduceLeDiff,Nat.reduceBEq,Nat.reduceBneDiff,Value.cells]
  refine (sha_constants_c E h1).mono ?_
  rintro v h2 ⟨le2, rfl⟩
  simp -implicitDefEqProofs only [zB1,zB2,zB3,zB4,zB5,zB6,zB7,zB8,zB9,zB10,zB11,y00,y01,y02,y03,y04,y05,y06,y07,y08,y09,y0a,y0b,y0c,y0d,y0e,y0f,y0g,y0h,y0i,y0j,y0k,y0l,y0m,y0n,y0o,y0p,y0q,y0r,y0s,y0t,y0u,y0v,y0w,y0x,y0y,y0z,y10,y11,y12,y13,y14,y15,y16,y17,y18,y19,y1a,y1b,y1c,y1d,y1e,y1f,y1g,y1h,y1i,y1j,y1k,y1l,y1m,y1n,y1o,y1p,y1q,y1r,retO,retL,retV,z6i,allV,allP,z6j,z6m,z6n,z6t,z6u,z6v,binV,eqV,unV,oOpt,reduceIte,reduceCtorEq,Nat.reduceEqDiff,Nat.reduceAdd,Nat.reduceMul,Nat.reduceLT,Nat.reduceSub,Int.reduceLT,Int.reduceLE,Int.reduceEq,Int.reduceNe,Int.reduceSub,Int.reduceAdd,Int.reduceMul,Int.reduceBEq,Int.reduceBNe,Int.reduceGT,Int.reduceGE,Nat.reduceGT,Int.reduceToNat,Int.reduceNeg,Nat.reduceLeDiff,Nat.reduceBEq,Nat.reduceBneDiff,Value.cells, rowU_len, sumB1, sumB2 startF, sumB3 startF]
  intro bs hbs
  try simp -implicitDefEqProofs only [zB1,zB2,zB3,zB4,zB5,zB6,zB7,zB8,zB9,zB10,zB11,y00,y01,y02,y03,y04,y05,y06,y07,y08,y09,y0a,y0b,y0c,y0d,y0e,y0f,y0g,y0h,y0i,y0j,y0k,y0l,y0m,y0n,y0o,y0p,y0q,y0r,y0s,y0t,y0u,y0v,y0w,y0x,y0y,y0z,y10,y11,y12,y13,y14,y15,y16,y17,y18,y19,y1a,y1b,y1c,y1d,y1e,y1f,y1g,y1h,y1i,y1j,y1k,y1l,y1m,y1n,y1o,y1p,y1q,y1r,retO,retL,retV,z6i,allV,allP,z6j,z6m,z6n,z6t,z6u,z6v,binV,eqV,unV,oOpt,reduceIte,reduceCtorEq,Nat.reduceEqDiff,Nat.reduceAdd,Nat.reduceMul,Nat.reduceLT,Nat.reduceSub,Int.reduceLT,Int.reduceLE,Int.reduceEq,Int.reduceNe,Int.reduceSub,Int.reduceAdd,Int.reduceMul,Int.reduceBEq,Int.reduceBNe,Int.reduceGT,Int.reduceGE,Nat.reduceGT,Int.reduceToNat,Int.reduceNeg,Nat.reduceLeDiff,Nat.reduceBEq,Nat.reduceBneDiff,Value.cells]
  exact ⟨Heap.le_new (Heap.le_trans le1 le2) hbs _, bs, rfl, Heap.none_of_le (Heap.le_trans le1 le2) hbs, by rw [Heap.set_self, sumC_len]⟩

/-! ### blocks -/
/-- All whole blocks of bytes are mixed in. -/
def absorb (hs : Nat → U32) (l : List UInt8) : (Nat → U32) × List UInt8 :=
  if h : 64 ≤ l.length then absorb (mixF constF hs (l.take 64)) (l.drop 64) else (hs, l)
termination_by l.length
decreasing_by simp; omega
theorem absorb_more {hs : Nat → U32} {l : List UInt8} (h : 64 ≤ l.length) : absorb hs l = absorb (mixF constF hs (l.take 64)) (l.drop 64) := by
  rw [absorb, dif_pos h]
theorem absorb_done {hs : Nat → U32} {l : List UInt8} (h : ¬ 64 ≤ l.length) : absorb hs l = (hs, l) := by
  rw [absorb, dif_neg h]
theorem absorb_len (hs : Nat → U32) (l : List UInt8) : (absorb hs l).2.length < 64 := by
  induction l using (measure List.length).wf.induction generalizing hs with
  | _ l ih =>
    by_cases h : 64 ≤ l.length
    · rw [absorb_more h]
      exact ih _ (by simp [measure, invImage, InvImage, WellFoundedRelation.rel]; omega) _
    · rw [absorb_done h]; simp only; omega
/-- What is added in parts is added. -/
theorem absorb_app (hs : Nat → U32) (l m : List UInt8) : absorb (absorb hs l).1 ((absorb hs l).2 ++ m) = absorb hs (l ++ m) := by
  induction l using (measure List.length).wf.induction generalizing hs with
  | _ l ih =>
    by_cases h : 64 ≤ l.length
    · rw [absorb_more h, absorb_more (l := l ++ m) (by simp; omega)]
      have e1 : (l ++ m).take 64 = l.take 64 := by rw [List.take_append_of_le_length h]
      have e2 : (l ++ m).drop 64 = l.drop 64 ++ m := by rw [List.drop_append_of_le_length h]
      rw [e1, e2]
      exact ih _ (by simp [measure, invImage, InvImage, WellFoundedRelation.rel]; omega) _
    · rw [absorb_done h]

/-! ### what is owned, beside one block -/
/-- A sum of these bytes. -/
structure SumR (h0 h : Heap) (bs : Nat) (hs : Nat → U32) (rest : List UInt8) (n : Nat) : Prop where
  new : h0 bs = none
  ex : ∃ v, h bs = some (.own 0 (sumC hs v n) 74) ∧ ∀ X, OwB (h0.set bs X) h v rest

theorem sumC_n (hs : Nat → U32) (v : Value) (n m : Int) : (sumC hs v n).set 73 (.int .i64 m) = sumC hs v m := by
  unfold sumC
  rw [List.set_append_right _ _ (by simp [rowU_len]), List.set_append_right _ _ (by simp [rowU_len])]
  simp [rowU_len]
theorem sumC_v (hs : Nat → U32) (v w : Value) (n : Int) : (sumC hs v n).set 72 w = sumC hs w n := by
  unfold sumC
  rw [List.set_append_right _ _ (by simp [rowU_len]), List.set_append_right _ _ (by simp [rowU_len])]
  simp [rowU_len]
theorem sumC_at72 (hs : Nat → U32) (v : Value) (n : Int) (h : 72 < (sumC hs v n).length) : (sumC hs v n)[72] = v := by
  simp [sumC, List.getElem_append, rowU_len]
theorem sumC_at73 (hs : Nat → U32) (v : Value) (n : Int) (h : 73 < (sumC hs v n).length) : (sumC hs v n)[73] = .int .i64 n := by
  simp [sumC, List.getElem_append, rowU_len]
theorem sumC_h (hs : Nat → U32) (v : Value) (n : Int) : ((sumC hs v n).drop 0).take 8 = rowU hs 8 := by
  unfold sumC; rw [List.drop_zero, List.take_left' (rowU_len _ _)]
theorem sumC_k (hs : Nat → U32) (v : Value) (n : Int) : ((sumC hs v n).drop 8).take 64 = rowU constF 64 := by
  unfold sumC; rw [List.drop_left' (rowU_len _ _), List.take_left' (rowU_len _ _)]
theorem sumC_put (hs hs' : Nat → U32) (v : Value) (n : Int) : splice (sumC hs v n) 0 (rowU hs' 8) = sumC hs' v n := by
  unfold sumC splice
  simp only [List.take_zero, List.nil_append, Nat.zero_add, rowU_len]
  rw [List.drop_left' (rowU_len _ _)]
end Go.Bb
/- Contracts: sums of bytes: bytes are added. -/
namespace Go.Bb
set_option linter.unusedSimpArgs false
set_option linter.unusedVariables false
set_option maxRecDepth 20000

theorem sha_Add_c (E : EnvT tab) {h0 h : Heap} {bs : Nat} {hs : Nat → U32} {rest : List UInt8} {n : Nat} (hle : h0.le h) (p : SumR h0 h bs hs rest n) {v : Value} (b : List UInt8) (s : ∀ X, SlB (h.set bs X) v b) (hb : rest.length + b.length ≤ 1000000000) (hn : n + b.length ≤ 1000000000000) :
    ACallN E.toEnv n_sha_Sum_Add [.pointer (some ⟨bs, 0, none⟩), v] h fun r h' => h0.le h' ∧ SumR h0 h' bs (absorb hs (rest ++ b)).1 (absorb hs (rest ++ b)).2 (n + b.length) := by
  obtain ⟨vr, hbs, ow⟩ := p.ex
  obtain ⟨base, c, rfl⟩ := Sl.shape (s (.obj (.map #[] 0)))
  refine acall h_sha_Sum_Add ir_sha_Sum_Add rfl rfl (wpA_sound ?_)
  unfold ir_sha_Sum_Add
  have c73 : hcell h ⟨bs, 73, none⟩ = some (.int .i64 n) := by rw [hcell_at (off := 73) hbs (by rw [sumC_len]; omega), sumC_at73]
  have w1 : IntKind.i64.wrap ((n : Int) + (b.length : Int)) = ((n + b.length : Nat) : Int) := by rw [wrapI (by omega) (by omega)]; omega
  have s73 : storeV h 1 (.pointer (some ⟨bs, 73, none⟩)) (.int .i64 ((n + b.length : Nat) : Int)) = some (h.set bs (.own 0 (sumC hs vr ((n + b.length : Nat) : Int)) 74)) := by
    rw [storeV_one_at hbs rfl (by rw [sumC_len]; omega) (by rw [sumC_len]; omega), sumC_n]
  have c72 : hcell (h.set bs (.own 0 (sumC hs vr ((n + b.length : Nat) : Int)) 74)) ⟨bs, 72, none⟩ = some vr := by rw [z6w (by rw [sumC_len]; omega), sumC_at72]
  simp -implicitDefEqProofs only [zB1,zB2,zB3,zB4,zB5,zB6,zB7,zB8,zB9,zB10,zB11,y00,y01,y02,y03,y04,y05,y06,y07,y08,y09,y0a,y0b,y0c,y0d,y0e,y0f,y0g,y0h,y0i,y0j,y0k,y0l,y0m,y0n,y0o,y0p,y0q,y0r,y0s,y0t,y0u,y0v,y0w,y0x,y0y,y0z,y10,y11,y12,y13,y14,y15,y16,y17,y18,y19,y1a,y1b,y1c,y1d,y1e,y1f,y1g,y1h,y1i,y1j,y1k,y1l,y1m,y1n,y1o,y1p,y1q,y1r,retO,retL,retV,z6i,allV,allP,z6j,z6m,z6n,z6t,z6u,z6v,binV,eqV,unV,oOpt,reduceIte,reduceCtorEq,Nat.reduceEqDiff,Nat.reduceAdd,Nat.reduceMul,Nat.reduceLT,Nat.reduceSub,Int.reduceLT,Int.reduceLE,Int.reduceEq,Int.reduceNe,Int.reduceSub,Int.reduceAdd,Int.reduceMul,Int.reduceBEq,Int.reduceBNe,Int.reduceGT,Int.reduceGE,Nat.reduceGT,Int.reduceToNat,Int.reduceNeg,Nat.reduceLeDiff,Nat.reduceBEq,Nat.reduceBneDiff,Value.cells, c73, w1, s73, c72]
  have leB : (h0.set bs (.own 0 (sumC hs vr ((n + b.length : Nat) : Int)) 74)).le (h.set bs (.own 0 (sumC hs vr ((n + b.length : Nat) : Int)) 74)) := by
    intro c y hc
    by_cases e : c = bs
    · subst e; rw [Heap.set_self] at hc ⊢; exact hc
    · rw [Heap.set_ne e] at hc ⊢; exact hle c y hc
  refine appendP_ow (bytes := 1) (m := b.length) (news := b.map u8V) leB (by omega) ((ow _).put _) (s _) (one_u8 b) (by omega) (by omega) ?_
  intro v1 h1 ow1 le1
  have hbs1 := le1 bs _ (Heap.set_self _ _ _)
  have st72 : storeV h1 1 (.pointer (some ⟨bs, 72, none⟩)) v1 = some (h1.set bs (.own 0 (sumC hs v1 ((n + b.length : Nat) : Int)) 74)) := by
    have hone : one v1 = true := by
      rcases Ow.shape ow1 with ⟨rfl, _⟩ | ⟨_, _, _, rfl⟩ <;> rfl
    rw [storeV_one_at hbs1 hone (by rw [sumC_len]; omega) (by rw [sumC_len]; omega), sumC_v]
  simp -implicitDefEqProofs only [zB1,zB2,zB3,zB4,zB5,zB6,zB7,zB8,zB9,zB10,zB11,y00,y01,y02,y03,y04,y05,y06,y07,y08,y09,y0a,y0b,y0c,y0d,y0e,y0f,y0g,y0h,y0i,y0j,y0k,y0l,y0m,y0n,y0o,y0p,y0q,y0r,y0s,y0t,y0u,y0v,y0w,y0x,y0y,y0z,y10,y11,y12,y13,y14,y15,y16,y17,y18,y19,y1a,y1b,y1c,y1d,y1e,y1f,y1g,y1h,y1i,y1j,y1k,y1l,y1m,y1n,y1o,y1p,y1q,y1r,retO,retL,retV,z6i,allV,allP,z6j,z6m,z6n,z6t,z6u,z6v,binV,eqV,unV,oOpt,reduceIte,reduceCtorEq,Nat.reduceEqDiff,Nat.reduceAdd,Nat.reduceMul,Nat.reduceLT,Nat.reduceSub,Int.reduceLT,Int.reduceLE,Int.reduceEq,Int.reduceNe,Int.reduceSub,Int.reduceAdd,Int.reduceMul,Int.reduceBEq,Int.reduceBNe,Int.reduceGT,Int.reduceGE,Nat.reduceGT,Int.reduceToNat,Int.reduceNeg,Nat.reduceLeDiff,Nat.reduceBEq,Nat.reduceBneDiff,Value.cells, st72]
  have hlen : rest.length + b.length = (rest ++ b).length := by simp
  have ow2 : ∀ X, OwB (h0.set bs X) (h1.set bs (.own 0 (sumC hs v1 ((n + b.length : Nat) : Int)) 74)) v1 (rest ++ b) := by
    intro X
    have := (ow1.put (.own 0 (sumC hs v1 ((n + b.length : Nat) : Int)) 74)).off X
    rw [hlen, ← List.map_append] at this
    exact this
  have le2 : h0.le (h1.set bs (.own 0 (sumC hs v1 ((n + b.length : Nat) : Int)) 74)) := by
    refine Heap.le_set (fun c y hc => le1 c y ?_) p.new _
    rw [Heap.set_ne (ne_of_none p.new hc)]; exact hc
  have hbs2 : (h1.set bs (.own 0 (sumC hs v1 ((n + b.length : Nat) : Int)) 74)) bs = some (.own 0 (sumC hs v1 ((n + b.length : Nat) : Int)) 74) := Heap.set_self _ _ _
  generalize (h1.set bs (.own 0 (sumC hs v1 ((n + b.length : Nat) : Int)) 74)) = H0 at ow2 le2 hbs2
  clear ow1 le1 hbs1 st72 leB c72 s73 c73 ow hbs
  generalize hN : n + b.length = N at *
  generalize hR : rest ++ b = R at *
  refine wp_loop' (fun m t H => h0.le H ∧ t = tl [(0, .pointer (some ⟨bs, 0, none⟩))] ∧ ∃ (hs' : Nat → U32) (l : List UInt8) (v' : Value), m = l.length ∧ l.length ≤ 1000000000 ∧ H bs = some (.own 0 (sumC hs' v' N) 74) ∧ (∀ X, OwB (h0.set bs X) H v' l) ∧ absorb hs' l = absorb hs R) R.length
    ⟨le2, rfl, hs, R, v1, rfl, by omega, hbs2, ow2, rfl⟩ ?_
  clear le2 hbs2 ow2
  rintro m t H ⟨leH, rfl, hs', l, v', rfl, hl9, hbs', ow', habs⟩
  obtain ⟨base', c', rfl⟩ := Sl.shape (ow' (.obj (.map #[] 0))).sl
  have c72 : hcell H ⟨bs, 72, none⟩ = some (.slice base' l.length c') := by rw [hcell_at (off := 72) hbs' (by rw [sumC_len]; omega), sumC_at72]
  by_cases h64 : 64 ≤ l.length
  · have g1 : (64 : Int) ≤ l.length := by omega
    rcases Ow.shape (ow' (.obj (.map #[] 0))) with ⟨_, hz, _⟩ | ⟨br, o, c2, hv⟩
    · omega
    simp only [Value.slice.injEq, true_and] at hv
    obtain ⟨rfl, rfl⟩ := hv
    have hc64 : 64 ≤ c' := by
      rcases (ow' (.obj (.map #[] 0))) with ⟨e, _⟩ | ⟨_, _, _, _, _, _, _, e, hc, _⟩
      · cases e
      · simp only [Value.slice.injEq] at e; omega
    have ch : hcells H ⟨bs, 0, none⟩ 8 = some (rowU hs' 8) := by rw [hcells_at hbs' (by rw [sumC_len]; omega), sumC_h]
    have ck : hcells H ⟨bs, 8, none⟩ 64 = some (rowU constF 64) := by rw [hcells_at hbs' (by rw [sumC_len]; omega), sumC_k]
    have bd : bnds l.length c' none (some (some (.int .i64 64))) none = some (0, 64, c') := bnds_hi (by omega) (by omega)
    simp -implicitDefEqProofs only [zB1,zB2,zB3,zB4,zB5,zB6,zB7,zB8,zB9,zB10,zB11,y00,y01,y02,y03,y04,y05,y06,y07,y08,y09,y0a,y0b,y0c,y0d,y0e,y0f,y0g,y0h,y0i,y0j,y0k,y0l,y0m,y0n,y0o,y0p,y0q,y0r,y0s,y0t,y0u,y0v,y0w,y0x,y0y,y0z,y10,y11,y12,y13,y14,y15,y16,y17,y18,y19,y1a,y1b,y1c,y1d,y1e,y1f,y1g,y1h,y1i,y1j,y1k,y1l,y1m,y1n,y1o,y1p,y1q,y1r,retO,retL,retV,z6i,allV,allP,z6j,z6m,z6n,z6t,z6u,z6v,binV,eqV,unV,oOpt,reduceIte,reduceCtorEq,Nat.reduceEqDiff,Nat.reduceAdd,Nat.reduceMul,Nat.reduceLT,Nat.reduceSub,Int.reduceLT,Int.reduceLE,Int.reduceEq,Int.reduceNe,Int.reduceSub,Int.reduceAdd,Int.reduceMul,Int.reduceBEq,Int.reduceBNe,Int.reduceGT,Int.reduceGE,Nat.reduceGT,Int.reduceToNat,Int.reduceNeg,Nat.reduceLeDiff,Nat.reduceBEq,Nat.reduceBneDiff,Value.cells, c72, g1, ch, bd, sl_pre, sl_preA]
    rw [add0, Nat.sub_zero]
    refine (sha_mix_c E H hs' constF (l.take 64) ck (by simp; omega) (Sl.headB (ow' (.obj (.map #[] 0))).sl h64)).mono ?_
    rintro r H2 ⟨le2, rfl⟩
    have hb2 := le2 _ _ hbs'
    have st0 : storeV H2 8 (.pointer (some ⟨bs, 0, none⟩)) (.agg (rowU (mixF constF hs' (l.take 64)) 8).toArray) = some (H2.set bs (.own 0 (sumC (mixF constF hs' (l.take 64)) (.slice (some ⟨br, o, none⟩) l.length c') N) 74)) := by
      have := storeV_self (h := H2) (b := bs) (off := 0) (size := 8) (vs := sumC hs' (.slice (some ⟨br, o, none⟩) l.length c') N) (sz := 74) (v := .agg (rowU (mixF constF hs' (l.take 64)) 8).toArray) (us := rowU (mixF constF hs' (l.take 64)) 8) (by omega) (by simp [Value.cells]) (rowU_len _ _) (rowU_one _ _) (by omega) (by omega)
      rw [Heap.set_same hb2, sumC_put] at this
      exact this
    have c72' : hcell (H2.set bs (.own 0 (sumC (mixF constF hs' (l.take 64)) (.slice (some ⟨br, o, none⟩) l.length c') N) 74)) ⟨bs, 72, none⟩ = some (.slice (some ⟨br, o, none⟩) l.length c') := by rw [z6w (by rw [sumC_len]; omega), sumC_at72]
    have bd2 : bnds l.length c' (some (some (.int .i64 64))) none none = some (64, l.length, c') := bnds_lo (by omega) (by omega)
    have st72 : ∀ v2 : Value, one v2 = true → storeV (H2.set bs (.own 0 (sumC (mixF constF hs' (l.take 64)) (.slice (some ⟨br, o, none⟩) l.length c') N) 74)) 1 (.pointer (some ⟨bs, 72, none⟩)) v2 = some (H2.set bs (.own 0 (sumC (mixF constF hs' (l.take 64)) v2 N) 74)) := fun v2 h1 => by
      rw [z6y h1 (by rw [sumC_len]; omega) (by rw [sumC_len]; omega), sumC_v]
    have st72 := fun a n c => st72 (.slice a n c) rfl
    simp -implicitDefEqProofs only [zB1,zB2,zB3,zB4,zB5,zB6,zB7,zB8,zB9,zB10,zB11,y00,y01,y02,y03,y04,y05,y06,y07,y08,y09,y0a,y0b,y0c,y0d,y0e,y0f,y0g,y0h,y0i,y0j,y0k,y0l,y0m,y0n,y0o,y0p,y0q,y0r,y0s,y0t,y0u,y0v,y0w,y0x,y0y,y0z,y10,y11,y12,y13,y14,y15,y16,y17,y18,y19,y1a,y1b,y1c,y1d,y1e,y1f,y1g,y1h,y1i,y1j,y1k,y1l,y1m,y1n,y1o,y1p,y1q,y1r,retO,retL,retV,z6i,allV,allP,z6j,z6m,z6n,z6t,z6u,z6v,binV,eqV,unV,oOpt,reduceIte,reduceCtorEq,Nat.reduceEqDiff,Nat.reduceAdd,Nat.reduceMul,Nat.reduceLT,Nat.reduceSub,Int.reduceLT,Int.reduceLE,Int.reduceEq,Int.reduceNe,Int.reduceSub,Int.reduceAdd,Int.reduceMul,Int.reduceBEq,Int.reduceBNe,Int.reduceGT,Int.reduceGE,Nat.reduceGT,Int.reduceToNat,Int.reduceNeg,Nat.reduceLeDiff,Nat.reduceBEq,Nat.reduceBneDiff,Value.cells, st0, c72', bd2, st72, implies_true]
    have owp := fun X => (Ow.post (ow' X) (k := 64) h64).le le2
    refine ⟨(l.drop 64).length, by simp; omega, Heap.le_set (Heap.le_trans leH le2) p.new _, mixF constF hs' (l.take 64), l.drop 64, _, rfl, by simp; omega, Heap.set_self _ _ _, fun X => ?_, ?_⟩
    · have := (owp X).put (.own 0 (sumC (mixF constF hs' (l.take 64)) (.slice (if c' = 64 then some ⟨br, o, none⟩ else some (Addr.add ⟨br, o, none⟩ 64)) (l.length - 64) (c' - 64)) N) 74)
      rw [Nat.mul_one, ← List.map_drop] at this
      unfold OwB
      rw [List.length_drop]
      exact this
    · rw [← habs, absorb_more h64]
  · have g1 : ¬ (64 : Int) ≤ l.length := by omega
    rw [absorb_done h64] at habs
    simp -implicitDefEqProofs only [zB1,zB2,zB3,zB4,zB5,zB6,zB7,zB8,zB9,zB10,zB11,y00,y01,y02,y03,y04,y05,y06,y07,y08,y09,y0a,y0b,y0c,y0d,y0e,y0f,y0g,y0h,y0i,y0j,y0k,y0l,y0m,y0n,y0o,y0p,y0q,y0r,y0s,y0t,y0u,y0v,y0w,y0x,y0y,y0z,y10,y11,y12,y13,y14,y15,y16,y17,y18,y19,y1a,y1b,y1c,y1d,y1e,y1f,y1g,y1h,y1i,y1j,y1k,y1l,y1m,y1n,y1o,y1p,y1q,y1r,retO,retL,retV,z6i,allV,allP,z6j,z6m,z6n,z6t,z6u,z6v,binV,eqV,unV,oOpt,reduceIte,reduceCtorEq,Nat.reduceEqDiff,Nat.reduceAdd,Nat.reduceMul,Nat.reduceLT,Nat.reduceSub,Int.reduceLT,Int.reduceLE,Int.reduceEq,Int.reduceNe,Int.reduceSub,Int.reduceAdd,Int.reduceMul,Int.reduceBEq,Int.reduceBNe,Int.reduceGT,Int.reduceGE,Nat.reduceGT,Int.reduceToNat,Int.reduceNeg,Nat.reduceLeDiff,Nat.reduceBEq,Nat.reduceBneDiff,Value.cells, c72, g1]
    refine ⟨leH, p.new, .slice base' l.length c', ?_, ?_⟩
    · rw [← habs]; exact hbs'
    · rw [← habs]; exact ow'
end Go.Bb
/- Contracts: sums of bytes: the end. -/
namespace Go.Bb
set_option linter.unusedSimpArgs false
set_option linter.unusedVariables false
set_option maxRecDepth 20000

def padK (n : Nat) : Nat := (119 - n % 64) % 64
def paddingF (n : Nat) : List UInt8 := (128 :: List.replicate (padK n) 0) ++ bigF (BitVec.ofNat 64 (n * 8)) 8
theorem padK_iff (n j : Nat) (h : j ≤ padK n) : (n % 64 + (1 + j) + 8) % 64 = 0 ↔ j = padK n := by
  unfold padK at *
  omega
theorem tmod_nat (a : Nat) : Int.tmod (a : Int) 64 = ((a % 64 : Nat) : Int) := by
  rw [Int.tmod_eq_emod_of_nonneg (by omega)]; omega

theorem sha_padding_c (E : EnvT tab) (h : Heap) (n : Nat) (hn : n ≤ 1000000000000) : ACallN E.toEnv n_sha_padding [.int .i64 n, .int .i64 64, .int .i64 8] h fun r h' => h.le h' ∧ OwB h h' r (paddingF n) := by
  refine acall h_sha_padding ir_sha_padding rfl rfl (wpA_sound ?_)
  unfold ir_sha_padding
  simp -implicitDefEqProofs only [zB1,zB2,zB3,zB4,zB5,zB6,zB7,zB8,zB9,zB10,zB11,y00,y01,y02,y03,y04,y05,y06,y07,y08,y09,y0a,y0b,y0c,y0d,y0e,y0f,y0g,y0h,y0i,y0j,y0k,y0l,y0m,y0n,y0o,y0p,y0q,y0r,y0s,y0t,y0u,y0v,y0w,y0x,y0y,y0z,y10,y11,y12,y13,y14,y15,y16,y17,y18,y19,y1a,y1b,y1c,y1d,y1e,y1f,y1g,y1h,y1i,y1j,y1k,y1l,y1m,y1n,y1o,y1p,y1q,y1r,retO,retL,retV,z6i,allV,allP,z6j,z6m,z6n,z6t,z6u,z6v,binV,eqV,unV,oOpt,reduceIte,reduceCtorEq,Nat.reduceEqDiff,Nat.reduceAdd,Nat.reduceMul,Nat.reduceLT,Nat.reduceSub,Int.reduceLT,Int.reduceLE,Int.reduceEq,Int.reduceNe,Int.reduceSub,Int.reduceAdd,Int.reduceMul,Int.reduceBEq,Int.reduceBNe,Int.reduceGT,Int.reduceGE,Nat.reduceGT,Int.reduceToNat,Int.reduceNeg,Nat.reduceLeDiff,Nat.reduceBEq,Nat.reduceBneDiff,Value.cells]
  intro b1 hb1
  try simp -implicitDefEqProofs only [zB1,zB2,zB3,zB4,zB5,zB6,zB7,zB8,zB9,zB10,zB11,y00,y01,y02,y03,y04,y05,y06,y07,y08,y09,y0a,y0b,y0c,y0d,y0e,y0f,y0g,y0h,y0i,y0j,y0k,y0l,y0m,y0n,y0o,y0p,y0q,y0r,y0s,y0t,y0u,y0v,y0w,y0x,y0y,y0z,y10,y11,y12,y13,y14,y15,y16,y17,y18,y19,y1a,y1b,y1c,y1d,y1e,y1f,y1g,y1h,y1i,y1j,y1k,y1l,y1m,y1n,y1o,y1p,y1q,y1r,retO,retL,retV,z6i,allV,allP,z6j,z6m,z6n,z6t,z6u,z6v,binV,eqV,unV,oOpt,reduceIte,reduceCtorEq,Nat.reduceEqDiff,Nat.reduceAdd,Nat.reduceMul,Nat.reduceLT,Nat.reduceSub,Int.reduceLT,Int.reduceLE,Int.reduceEq,Int.reduceNe,Int.reduceSub,Int.reduceAdd,Int.reduceMul,Int.reduceBEq,Int.reduceBNe,Int.reduceGT,Int.reduceGE,Nat.reduceGT,Int.reduceToNat,Int.reduceNeg,Nat.reduceLeDiff,Nat.reduceBEq,Nat.reduceBneDiff,Value.cells]
  have r64 : n % 64 < 64 := Nat.mod_lt _ (by omega)
  have kK : padK n < 64 := by unfold padK; omega
  refine wp_loop' (fun m t H => h.le H ∧ ∃ (j : Nat) (v7 : Value), t = tl [(0, .int .i64 n), (1, .int .i64 64), (2, .int .i64 8), (7, v7)] ∧ j ≤ padK n ∧ m = padK n - j ∧ OwB h H v7 (128 :: List.replicate j 0)) (padK n)
    ⟨Heap.le_set (Heap.le_refl _) hb1 _, 0, _, rfl, by omega, by omega, Ow.new (Heap.le_refl _) hb1 rfl (by simp) (by simp)⟩ ?_
  rintro m t H ⟨hle, j, v7, rfl, hj, rfl, ow⟩
  obtain ⟨base, c, rfl⟩ := Sl.shape ow.sl
  have hlen : ((128 : UInt8) :: List.replicate j 0).length = j + 1 := by simp
  generalize hB : (128 : UInt8) :: List.replicate j 0 = B at ow hlen ⊢
  have tm := tmod_nat n
  have w1 : IntKind.i64.wrap (((n % 64 : Nat) : Int) + ((B.length : Nat) : Int)) = ((n % 64 + (1 + j) : Nat) : Int) := by rw [hlen, wrapI (by omega) (by omega)]; omega
  have w2 : IntKind.i64.wrap (((n % 64 + (1 + j) : Nat) : Int) + 8) = ((n % 64 + (1 + j) + 8 : Nat) : Int) := by rw [wrapI (by omega) (by omega)]; omega
  have tm2 := tmod_nat (n % 64 + (1 + j) + 8)
  have iff := padK_iff n j hj
  by_cases e : j = padK n
  · have z : (n % 64 + (1 + j) + 8) % 64 = 0 := iff.2 e
    rw [z] at tm2
    have n8 : n * 8 < 18446744073709551616 := by omega
    have w3 : IntKind.u64.wrap (n : Int) = (n : Int) := by rw [wrap_u64, ofInt_nat]; simp; omega
    have w4 : IntKind.u64.wrap ((n : Int) * 8) = ((BitVec.ofNat 64 (n * 8)).toNat : Int) := by
      have : (n : Int) * 8 = ((n * 8 : Nat) : Int) := by omega
      rw [this, wrap_u64, ofInt_nat]
    simp -implicitDefEqProofs only [zB1,zB2,zB3,zB4,zB5,zB6,zB7,zB8,zB9,zB10,zB11,y00,y01,y02,y03,y04,y05,y06,y07,y08,y09,y0a,y0b,y0c,y0d,y0e,y0f,y0g,y0h,y0i,y0j,y0k,y0l,y0m,y0n,y0o,y0p,y0q,y0r,y0s,y0t,y0u,y0v,y0w,y0x,y0y,y0z,y10,y11,y12,y13,y14,y15,y16,y17,y18,y19,y1a,y1b,y1c,y1d,y1e,y1f,y1g,y1h,y1i,y1j,y1k,y1l,y1m,y1n,y1o,y1p,y1q,y1r,retO,retL,retV,z6i,allV,allP,z6j,z6m,z6n,z6t,z6u,z6v,binV,eqV,unV,oOpt,reduceIte,reduceCtorEq,Nat.reduceEqDiff,Nat.reduceAdd,Nat.reduceMul,Nat.reduceLT,Nat.reduceSub,Int.reduceLT,Int.reduceLE,Int.reduceEq,Int.reduceNe,Int.reduceSub,Int.reduceAdd,Int.reduceMul,Int.reduceBEq,Int.reduceBNe,Int.reduceGT,Int.reduceGE,Nat.reduceGT,Int.reduceToNat,Int.reduceNeg,Nat.reduceLeDiff,Nat.reduceBEq,Nat.reduceBneDiff,Value.cells, tm, w1, w2, tm2, w3, w4]
    refine wp_loop' (fun m t H' => H' = H ∧ t = tl [(0, .int .i64 n), (7, .slice base B.length c), (24, .int .i64 0), (25, .int .i64 0)]) 0 ⟨rfl, rfl⟩ ?_
    rintro m t H' ⟨rfl, rfl⟩
    simp -implicitDefEqProofs only [zB1,zB2,zB3,zB4,zB5,zB6,zB7,zB8,zB9,zB10,zB11,y00,y01,y02,y03,y04,y05,y06,y07,y08,y09,y0a,y0b,y0c,y0d,y0e,y0f,y0g,y0h,y0i,y0j,y0k,y0l,y0m,y0n,y0o,y0p,y0q,y0r,y0s,y0t,y0u,y0v,y0w,y0x,y0y,y0z,y10,y11,y12,y13,y14,y15,y16,y17,y18,y19,y1a,y1b,y1c,y1d,y1e,y1f,y1g,y1h,y1i,y1j,y1k,y1l,y1m,y1n,y1o,y1p,y1q,y1r,retO,retL,retV,z6i,allV,allP,z6j,z6m,z6n,z6t,z6u,z6v,binV,eqV,unV,oOpt,reduceIte,reduceCtorEq,Nat.reduceEqDiff,Nat.reduceAdd,Nat.reduceMul,Nat.reduceLT,Nat.reduceSub,Int.reduceLT,Int.reduceLE,Int.reduceEq,Int.reduceNe,Int.reduceSub,Int.reduceAdd,Int.reduceMul,Int.reduceBEq,Int.reduceBNe,Int.reduceGT,Int.reduceGE,Nat.reduceGT,Int.reduceToNat,Int.reduceNeg,Nat.reduceLeDiff,Nat.reduceBEq,Nat.reduceBneDiff,Value.cells, tm, w1, w2, tm2, w3, w4]
    refine (octet_Big_c E H' _ (by rw [hlen]; omega) ow.sl (BitVec.ofNat 64 (n * 8)) 8 (by omega)).mono ?_
    rintro r h2 ⟨le2, ow2⟩
    simp -implicitDefEqProofs only [zB1,zB2,zB3,zB4,zB5,zB6,zB7,zB8,zB9,zB10,zB11,y00,y01,y02,y03,y04,y05,y06,y07,y08,y09,y0a,y0b,y0c,y0d,y0e,y0f,y0g,y0h,y0i,y0j,y0k,y0l,y0m,y0n,y0o,y0p,y0q,y0r,y0s,y0t,y0u,y0v,y0w,y0x,y0y,y0z,y10,y11,y12,y13,y14,y15,y16,y17,y18,y19,y1a,y1b,y1c,y1d,y1e,y1f,y1g,y1h,y1i,y1j,y1k,y1l,y1m,y1n,y1o,y1p,y1q,y1r,retO,retL,retV,z6i,allV,allP,z6j,z6m,z6n,z6t,z6u,z6v,binV,eqV,unV,oOpt,reduceIte,reduceCtorEq,Nat.reduceEqDiff,Nat.reduceAdd,Nat.reduceMul,Nat.reduceLT,Nat.reduceSub,Int.reduceLT,Int.reduceLE,Int.reduceEq,Int.reduceNe,Int.reduceSub,Int.reduceAdd,Int.reduceMul,Int.reduceBEq,Int.reduceBNe,Int.reduceGT,Int.reduceGE,Nat.reduceGT,Int.reduceToNat,Int.reduceNeg,Nat.reduceLeDiff,Nat.reduceBEq,Nat.reduceBneDiff,Value.cells]
    refine ⟨Heap.le_trans hle le2, ?_⟩
    unfold paddingF
    rw [← e, hB]
    exact ow2.since hle
  · have z : ¬ (((n % 64 + (1 + j) + 8) % 64 : Nat) : Int) = 0 := fun g => e (iff.1 (by omega))
    simp -implicitDefEqProofs only [zB1,zB2,zB3,zB4,zB5,zB6,zB7,zB8,zB9,zB10,zB11,y00,y01,y02,y03,y04,y05,y06,y07,y08,y09,y0a,y0b,y0c,y0d,y0e,y0f,y0g,y0h,y0i,y0j,y0k,y0l,y0m,y0n,y0o,y0p,y0q,y0r,y0s,y0t,y0u,y0v,y0w,y0x,y0y,y0z,y10,y11,y12,y13,y14,y15,y16,y17,y18,y19,y1a,y1b,y1c,y1d,y1e,y1f,y1g,y1h,y1i,y1j,y1k,y1l,y1m,y1n,y1o,y1p,y1q,y1r,retO,retL,retV,z6i,allV,allP,z6j,z6m,z6n,z6t,z6u,z6v,binV,eqV,unV,oOpt,reduceIte,reduceCtorEq,Nat.reduceEqDiff,Nat.reduceAdd,Nat.reduceMul,Nat.reduceLT,Nat.reduceSub,Int.reduceLT,Int.reduceLE,Int.reduceEq,Int.reduceNe,Int.reduceSub,Int.reduceAdd,Int.reduceMul,Int.reduceBEq,Int.reduceBNe,Int.reduceGT,Int.reduceGE,Nat.reduceGT,Int.reduceToNat,Int.reduceNeg,Nat.reduceLeDiff,Nat.reduceBEq,Nat.reduceBneDiff,Value.cells, tm, w1, w2, tm2, z]
    intro b2 hb2
    try simp -implicitDefEqProofs only [zB1,zB2,zB3,zB4,zB5,zB6,zB7,zB8,zB9,zB10,zB11,y00,y01,y02,y03,y04,y05,y06,y07,y08,y09,y0a,y0b,y0c,y0d,y0e,y0f,y0g,y0h,y0i,y0j,y0k,y0l,y0m,y0n,y0o,y0p,y0q,y0r,y0s,y0t,y0u,y0v,y0w,y0x,y0y,y0z,y10,y11,y12,y13,y14,y15,y16,y17,y18,y19,y1a,y1b,y1c,y1d,y1e,y1f,y1g,y1h,y1i,y1j,y1k,y1l,y1m,y1n,y1o,y1p,y1q,y1r,retO,retL,retV,z6i,allV,allP,z6j,z6m,z6n,z6t,z6u,z6v,binV,eqV,unV,oOpt,reduceIte,reduceCtorEq,Nat.reduceEqDiff,Nat.reduceAdd,Nat.reduceMul,Nat.reduceLT,Nat.reduceSub,Int.reduceLT,Int.reduceLE,Int.reduceEq,Int.reduceNe,Int.reduceSub,Int.reduceAdd,Int.reduceMul,Int.reduceBEq,Int.reduceBNe,Int.reduceGT,Int.reduceGE,Nat.reduceGT,Int.reduceToNat,Int.reduceNeg,Nat.reduceLeDiff,Nat.reduceBEq,Nat.reduceBneDiff,Value.cells]
    refine appendP_ow (bytes := 1) (m := 1) (news := [.int .u8 0]) (Heap.le_new hle hb2 _) (by omega) (ow.le (Heap.le_set (Heap.le_refl _) hb2 _)) (Sl.lit (n := 1) rfl) rfl (by rw [hlen]; omega) (by rw [hlen]; omega) ?_
    intro v3 H3 ow3 le3
    simp -implicitDefEqProofs only [zB1,zB2,zB3,zB4,zB5,zB6,zB7,zB8,zB9,zB10,zB11,y00,y01,y02,y03,y04,y05,y06,y07,y08,y09,y0a,y0b,y0c,y0d,y0e,y0f,y0g,y0h,y0i,y0j,y0k,y0l,y0m,y0n,y0o,y0p,y0q,y0r,y0s,y0t,y0u,y0v,y0w,y0x,y0y,y0z,y10,y11,y12,y13,y14,y15,y16,y17,y18,y19,y1a,y1b,y1c,y1d,y1e,y1f,y1g,y1h,y1i,y1j,y1k,y1l,y1m,y1n,y1o,y1p,y1q,y1r,retO,retL,retV,z6i,allV,allP,z6j,z6m,z6n,z6t,z6u,z6v,binV,eqV,unV,oOpt,reduceIte,reduceCtorEq,Nat.reduceEqDiff,Nat.reduceAdd,Nat.reduceMul,Nat.reduceLT,Nat.reduceSub,Int.reduceLT,Int.reduceLE,Int.reduceEq,Int.reduceNe,Int.reduceSub,Int.reduceAdd,Int.reduceMul,Int.reduceBEq,Int.reduceBNe,Int.reduceGT,Int.reduceGE,Nat.reduceGT,Int.reduceToNat,Int.reduceNeg,Nat.reduceLeDiff,Nat.reduceBEq,Nat.reduceBneDiff,Value.cells]
    refine ⟨_, ?_, le3, j + 1, v3, rfl, by omega, rfl, ?_⟩
    · omega
    · have e3 : (128 : UInt8) :: List.replicate (j + 1) 0 = (128 :: List.replicate j 0) ++ [0] := by rw [List.replicate_succ']; rfl
      rw [e3, hB]
      unfold OwB
      rw [List.length_append, List.map_append]
      exact ow3
end Go.Bb
/- Contracts: sums of bytes: what is told. -/
namespace Go.Bb
set_option linter.unusedSimpArgs false
set_option linter.unusedVariables false
set_option maxRecDepth 20000

theorem SumR.le {h0 h h' : Heap} {bs : Nat} {hs : Nat → U32} {rest : List UInt8} {n : Nat} (p : SumR h0 h bs hs rest n) (x : h.le h') : SumR h0 h' bs hs rest n :=
  ⟨p.new, by obtain ⟨v, h1, h2⟩ := p.ex; exact ⟨v, x _ _ h1, fun X => (h2 X).le x⟩⟩

def outF (H : Nat → U32) (k : Nat) : List UInt8 := (List.range k).flatMap fun i => bigF ((H i).setWidth 64) 4
theorem outF_len (H : Nat → U32) : ∀ k, (outF H k).length = 4 * k
  | 0 => rfl
  | k + 1 => by
      have := outF_len H k
      unfold outF at *
      rw [List.range_succ, List.flatMap_append, List.length_append, this]
      simp [bigF_len]; omega
theorem outF_succ (H : Nat → U32) (k : Nat) : outF H (k + 1) = outF H k ++ bigF ((H k).setWidth 64) 4 := by
  unfold outF; rw [List.range_succ, List.flatMap_append]; simp
def shaEnd (hs : Nat → U32) (rest : List UInt8) (n : Nat) : List UInt8 := outF (absorb hs (rest ++ paddingF n)).1 8

theorem out_splice (H : Nat → U32) (i : Nat) (hi : i < 8) : splice ((outF H i ++ List.replicate (32 - 4 * i) 0).map u8V) (4 * i) (((bigF ((H i).setWidth 64) 4).map u8V).take (min 4 (32 - 4 * i) * 1)) = (outF H (i + 1) ++ List.replicate (32 - 4 * (i + 1)) 0).map u8V := by
  have e1 : min 4 (32 - 4 * i) * 1 = 4 := by omega
  rw [e1, List.take_of_length_le (by simp [bigF_len])]
  unfold splice
  rw [List.map_append, List.take_left' (by simp [outF_len]), ← List.map_append, ← outF_succ]
  rw [List.map_append]
  congr 1
  rw [List.drop_append, List.drop_eq_nil_of_le (by simp [outF_len, bigF_len]), List.nil_append]
  simp only [List.length_map, bigF_len, outF_len, List.map_replicate, List.drop_replicate]
  congr 1
  omega

theorem sha_Word_c (E : EnvT tab) {h0 h : Heap} {bs : Nat} {hs : Nat → U32} {rest : List UInt8} {n : Nat} (hle : h0.le h) (p : SumR h0 h bs hs rest n) (hr : rest.length ≤ 100000000) (hn : n ≤ 100000000000) :
    ACallN E.toEnv n_sha_Sum_Word [.pointer (some ⟨bs, 0, none⟩)] h fun r h' => h.le h' ∧ r = .agg ((shaEnd hs rest n).map u8V).toArray := by
  obtain ⟨vr, hbs, ow⟩ := p.ex
  refine acall h_sha_Sum_Word ir_sha_Sum_Word rfl rfl (wpA_sound ?_)
  unfold ir_sha_Sum_Word
  simp -implicitDefEqProofs only [zB1,zB2,zB3,zB4,zB5,zB6,zB7,zB8,zB9,zB10,zB11,y00,y01,y02,y03,y04,y05,y06,y07,y08,y09,y0a,y0b,y0c,y0d,y0e,y0f,y0g,y0h,y0i,y0j,y0k,y0l,y0m,y0n,y0o,y0p,y0q,y0r,y0s,y0t,y0u,y0v,y0w,y0x,y0y,y0z,y10,y11,y12,y13,y14,y15,y16,y17,y18,y19,y1a,y1b,y1c,y1d,y1e,y1f,y1g,y1h,y1i,y1j,y1k,y1l,y1m,y1n,y1o,y1p,y1q,y1r,retO,retL,retV,z6i,allV,allP,z6j,z6m,z6n,z6t,z6u,z6v,binV,eqV,unV,oOpt,reduceIte,reduceCtorEq,Nat.reduceEqDiff,Nat.reduceAdd,Nat.reduceMul,Nat.reduceLT,Nat.reduceSub,Int.reduceLT,Int.reduceLE,Int.reduceEq,Int.reduceNe,Int.reduceSub,Int.reduceAdd,Int.reduceMul,Int.reduceBEq,Int.reduceBNe,Int.reduceGT,Int.reduceGE,Nat.reduceGT,Int.reduceToNat,Int.reduceNeg,Nat.reduceLeDiff,Nat.reduceBEq,Nat.reduceBneDiff,Value.cells]
  intro b2 hb2
  rw [List.length_replicate]
  have le1 : h.le (h.set b2 (.own 0 (List.replicate 32 (.int .u8 0)) 32)) := Heap.le_set (Heap.le_refl _) hb2 _
  have p2 : (h.set b2 (.own 0 (List.replicate 32 (.int .u8 0)) 32)) b2 = some (.own 0 (List.replicate 32 (.int .u8 0)) 32) := Heap.set_self _ _ _
  generalize (h.set b2 (.own 0 (List.replicate 32 (.int .u8 0)) 32)) = h1 at le1 p2
  have hbs1 := le1 _ _ hbs
  have ch : hcells h1 ⟨bs, 0, none⟩ 8 = some (rowU hs 8) := by rw [hcells_at hbs1 (by rw [sumC_len]; omega), sumC_h]
  have ck : hcells h1 ⟨bs, 8, none⟩ 64 = some (rowU constF 64) := by rw [hcells_at hbs1 (by rw [sumC_len]; omega), sumC_k]
  simp -implicitDefEqProofs only [zB1,zB2,zB3,zB4,zB5,zB6,zB7,zB8,zB9,zB10,zB11,y00,y01,y02,y03,y04,y05,y06,y07,y08,y09,y0a,y0b,y0c,y0d,y0e,y0f,y0g,y0h,y0i,y0j,y0k,y0l,y0m,y0n,y0o,y0p,y0q,y0r,y0s,y0t,y0u,y0v,y0w,y0x,y0y,y0z,y10,y11,y12,y13,y14,y15,y16,y17,y18,y19,y1a,y1b,y1c,y1d,y1e,y1f,y1g,y1h,y1i,y1j,y1k,y1l,y1m,y1n,y1o,y1p,y1q,y1r,retO,retL,retV,z6i,allV,allP,z6j,z6m,z6n,z6t,z6u,z6v,binV,eqV,unV,oOpt,reduceIte,reduceCtorEq,Nat.reduceEqDiff,Nat.reduceAdd,Nat.reduceMul,Nat.reduceLT,Nat.reduceSub,Int.reduceLT,Int.reduceLE,Int.reduceEq,Int.reduceNe,Int.reduceSub,Int.reduceAdd,Int.reduceMul,Int.reduceBEq,Int.reduceBNe,Int.reduceGT,Int.reduceGE,Nat.reduceGT,Int.reduceToNat,Int.reduceNeg,Nat.reduceLeDiff,Nat.reduceBEq,Nat.reduceBneDiff,Value.cells, ch, ck, rowU_len, sumB1, sumB2 hs, sumB3 hs, implies_true]
  intro bt hbt
  try simp -implicitDefEqProofs only [zB1,zB2,zB3,zB4,zB5,zB6,zB7,zB8,zB9,zB10,zB11,y00,y01,y02,y03,y04,y05,y06,y07,y08,y09,y0a,y0b,y0c,y0d,y0e,y0f,y0g,y0h,y0i,y0j,y0k,y0l,y0m,y0n,y0o,y0p,y0q,y0r,y0s,y0t,y0u,y0v,y0w,y0x,y0y,y0z,y10,y11,y12,y13,y14,y15,y16,y17,y18,y19,y1a,y1b,y1c,y1d,y1e,y1f,y1g,y1h,y1i,y1j,y1k,y1l,y1m,y1n,y1o,y1p,y1q,y1r,retO,retL,retV,z6i,allV,allP,z6j,z6m,z6n,z6t,z6u,z6v,binV,eqV,unV,oOpt,reduceIte,reduceCtorEq,Nat.reduceEqDiff,Nat.reduceAdd,Nat.reduceMul,Nat.reduceLT,Nat.reduceSub,Int.reduceLT,Int.reduceLE,Int.reduceEq,Int.reduceNe,Int.reduceSub,Int.reduceAdd,Int.reduceMul,Int.reduceBEq,Int.reduceBNe,Int.reduceGT,Int.reduceGE,Nat.reduceGT,Int.reduceToNat,Int.reduceNeg,Nat.reduceLeDiff,Nat.reduceBEq,Nat.reduceBneDiff,Value.cells, sumC_len]
  have le2 : h1.le (h1.set bt (.own 0 (sumC hs (.slice none 0 0) 0) 74)) := Heap.le_set (Heap.le_refl _) hbt _
  have pt : SumR h1 (h1.set bt (.own 0 (sumC hs (.slice none 0 0) 0) 74)) bt hs [] 0 := ⟨hbt, _, Heap.set_self _ _ _, fun X => Ow.nil _ _ _⟩
  have c72 : hcell (h1.set bt (.own 0 (sumC hs (.slice none 0 0) 0) 74)) ⟨bs, 72, none⟩ = some vr := by rw [hcell_at (off := 72) (le2 _ _ hbs1) (by rw [sumC_len]; omega), sumC_at72]
  have sr : ∀ X, SlB ((h1.set bt (.own 0 (sumC hs (.slice none 0 0) 0) 74)).set bt X) vr rest := fun X => by
    rw [Heap.set_set]
    exact Sl.le (Heap.le_trans le1 (Heap.le_set (Heap.le_refl _) hbt _)) (ow (.obj (.map #[] 0))).sl
  simp -implicitDefEqProofs only [zB1,zB2,zB3,zB4,zB5,zB6,zB7,zB8,zB9,zB10,zB11,y00,y01,y02,y03,y04,y05,y06,y07,y08,y09,y0a,y0b,y0c,y0d,y0e,y0f,y0g,y0h,y0i,y0j,y0k,y0l,y0m,y0n,y0o,y0p,y0q,y0r,y0s,y0t,y0u,y0v,y0w,y0x,y0y,y0z,y10,y11,y12,y13,y14,y15,y16,y17,y18,y19,y1a,y1b,y1c,y1d,y1e,y1f,y1g,y1h,y1i,y1j,y1k,y1l,y1m,y1n,y1o,y1p,y1q,y1r,retO,retL,retV,z6i,allV,allP,z6j,z6m,z6n,z6t,z6u,z6v,binV,eqV,unV,oOpt,reduceIte,reduceCtorEq,Nat.reduceEqDiff,Nat.reduceAdd,Nat.reduceMul,Nat.reduceLT,Nat.reduceSub,Int.reduceLT,Int.reduceLE,Int.reduceEq,Int.reduceNe,Int.reduceSub,Int.reduceAdd,Int.reduceMul,Int.reduceBEq,Int.reduceBNe,Int.reduceGT,Int.reduceGE,Nat.reduceGT,Int.reduceToNat,Int.reduceNeg,Nat.reduceLeDiff,Nat.reduceBEq,Nat.reduceBneDiff,Value.cells, c72]
  refine (sha_Add_c E le2 pt rest sr (by simp; omega) (by omega)).mono ?_
  rintro r h3 ⟨le3, p3⟩
  rw [List.nil_append, Nat.zero_add] at p3
  have c73 : hcell h3 ⟨bs, 73, none⟩ = some (.int .i64 n) := by rw [hcell_at (off := 73) (le3 _ _ hbs1) (by rw [sumC_len]; omega), sumC_at73]
  simp -implicitDefEqProofs only [zB1,zB2,zB3,zB4,zB5,zB6,zB7,zB8,zB9,zB10,zB11,y00,y01,y02,y03,y04,y05,y06,y07,y08,y09,y0a,y0b,y0c,y0d,y0e,y0f,y0g,y0h,y0i,y0j,y0k,y0l,y0m,y0n,y0o,y0p,y0q,y0r,y0s,y0t,y0u,y0v,y0w,y0x,y0y,y0z,y10,y11,y12,y13,y14,y15,y16,y17,y18,y19,y1a,y1b,y1c,y1d,y1e,y1f,y1g,y1h,y1i,y1j,y1k,y1l,y1m,y1n,y1o,y1p,y1q,y1r,retO,retL,retV,z6i,allV,allP,z6j,z6m,z6n,z6t,z6u,z6v,binV,eqV,unV,oOpt,reduceIte,reduceCtorEq,Nat.reduceEqDiff,Nat.reduceAdd,Nat.reduceMul,Nat.reduceLT,Nat.reduceSub,Int.reduceLT,Int.reduceLE,Int.reduceEq,Int.reduceNe,Int.reduceSub,Int.reduceAdd,Int.reduceMul,Int.reduceBEq,Int.reduceBNe,Int.reduceGT,Int.reduceGE,Nat.reduceGT,Int.reduceToNat,Int.reduceNeg,Nat.reduceLeDiff,Nat.reduceBEq,Nat.reduceBneDiff,Value.cells, c73]
  refine (sha_padding_c E h3 n (by omega)).mono ?_
  rintro vp h4 ⟨le4, owp⟩
  obtain ⟨v3, hb3, _⟩ := p3.ex
  have kp : padK n < 64 := by unfold padK; omega
  have lp : (paddingF n).length ≤ 100 := by simp [paddingF, bigF_len]; omega
  have al := absorb_len hs rest
  simp -implicitDefEqProofs only [zB1,zB2,zB3,zB4,zB5,zB6,zB7,zB8,zB9,zB10,zB11,y00,y01,y02,y03,y04,y05,y06,y07,y08,y09,y0a,y0b,y0c,y0d,y0e,y0f,y0g,y0h,y0i,y0j,y0k,y0l,y0m,y0n,y0o,y0p,y0q,y0r,y0s,y0t,y0u,y0v,y0w,y0x,y0y,y0z,y10,y11,y12,y13,y14,y15,y16,y17,y18,y19,y1a,y1b,y1c,y1d,y1e,y1f,y1g,y1h,y1i,y1j,y1k,y1l,y1m,y1n,y1o,y1p,y1q,y1r,retO,retL,retV,z6i,allV,allP,z6j,z6m,z6n,z6t,z6u,z6v,binV,eqV,unV,oOpt,reduceIte,reduceCtorEq,Nat.reduceEqDiff,Nat.reduceAdd,Nat.reduceMul,Nat.reduceLT,Nat.reduceSub,Int.reduceLT,Int.reduceLE,Int.reduceEq,Int.reduceNe,Int.reduceSub,Int.reduceAdd,Int.reduceMul,Int.reduceBEq,Int.reduceBNe,Int.reduceGT,Int.reduceGE,Nat.reduceGT,Int.reduceToNat,Int.reduceNeg,Nat.reduceLeDiff,Nat.reduceBEq,Nat.reduceBneDiff,Value.cells]
  refine (sha_Add_c E (Heap.le_trans le3 le4) (p3.le le4) (paddingF n) (fun X => owp.apart hb3) (by omega) (by omega)).mono ?_
  rintro r h5 ⟨le5, p5⟩
  rw [absorb_app] at p5
  obtain ⟨v5, hb5, _⟩ := p5.ex
  have p25 := le5 _ _ p2
  simp -implicitDefEqProofs only [zB1,zB2,zB3,zB4,zB5,zB6,zB7,zB8,zB9,zB10,zB11,y00,y01,y02,y03,y04,y05,y06,y07,y08,y09,y0a,y0b,y0c,y0d,y0e,y0f,y0g,y0h,y0i,y0j,y0k,y0l,y0m,y0n,y0o,y0p,y0q,y0r,y0s,y0t,y0u,y0v,y0w,y0x,y0y,y0z,y10,y11,y12,y13,y14,y15,y16,y17,y18,y19,y1a,y1b,y1c,y1d,y1e,y1f,y1g,y1h,y1i,y1j,y1k,y1l,y1m,y1n,y1o,y1p,y1q,y1r,retO,retL,retV,z6i,allV,allP,z6j,z6m,z6n,z6t,z6u,z6v,binV,eqV,unV,oOpt,reduceIte,reduceCtorEq,Nat.reduceEqDiff,Nat.reduceAdd,Nat.reduceMul,Nat.reduceLT,Nat.reduceSub,Int.reduceLT,Int.reduceLE,Int.reduceEq,Int.reduceNe,Int.reduceSub,Int.reduceAdd,Int.reduceMul,Int.reduceBEq,Int.reduceBNe,Int.reduceGT,Int.reduceGE,Nat.reduceGT,Int.reduceToNat,Int.reduceNeg,Nat.reduceLeDiff,Nat.reduceBEq,Nat.reduceBneDiff,Value.cells]
  intro b4 hb4
  try simp -implicitDefEqProofs only [zB1,zB2,zB3,zB4,zB5,zB6,zB7,zB8,zB9,zB10,zB11,y00,y01,y02,y03,y04,y05,y06,y07,y08,y09,y0a,y0b,y0c,y0d,y0e,y0f,y0g,y0h,y0i,y0j,y0k,y0l,y0m,y0n,y0o,y0p,y0q,y0r,y0s,y0t,y0u,y0v,y0w,y0x,y0y,y0z,y10,y11,y12,y13,y14,y15,y16,y17,y18,y19,y1a,y1b,y1c,y1d,y1e,y1f,y1g,y1h,y1i,y1j,y1k,y1l,y1m,y1n,y1o,y1p,y1q,y1r,retO,retL,retV,z6i,allV,allP,z6j,z6m,z6n,z6t,z6u,z6v,binV,eqV,unV,oOpt,reduceIte,reduceCtorEq,Nat.reduceEqDiff,Nat.reduceAdd,Nat.reduceMul,Nat.reduceLT,Nat.reduceSub,Int.reduceLT,Int.reduceLE,Int.reduceEq,Int.reduceNe,Int.reduceSub,Int.reduceAdd,Int.reduceMul,Int.reduceBEq,Int.reduceBNe,Int.reduceGT,Int.reduceGE,Nat.reduceGT,Int.reduceToNat,Int.reduceNeg,Nat.reduceLeDiff,Nat.reduceBEq,Nat.reduceBneDiff,Value.cells]
  rw [List.length_replicate]
  have nb42 := ne_of_none hb4 p25
  have nb4t := ne_of_none hb4 hb5
  have le6 : h1.le (h5.set b4 (.own 0 (List.replicate 32 (.int .u8 0)) 32)) := Heap.le_new le5 hb4 _
  have p46 : (h5.set b4 (.own 0 (List.replicate 32 (.int .u8 0)) 32)) b4 = some (.own 0 ((outF (absorb hs (rest ++ paddingF n)).1 0 ++ List.replicate (32 - 4 * 0) 0).map u8V) 32) := by rw [Heap.set_self]; rfl
  have p26 : (h5.set b4 (.own 0 (List.replicate 32 (.int .u8 0)) 32)) b2 = some (.own 0 (List.replicate 32 (.int .u8 0)) 32) := by rw [Heap.set_ne nb42]; exact p25
  have hb6 : (h5.set b4 (.own 0 (List.replicate 32 (.int .u8 0)) 32)) bt = some (.own 0 (sumC (absorb hs (rest ++ paddingF n)).1 v5 ((rest.length + (paddingF n).length : Nat) : Int)) 74) := by rw [Heap.set_ne nb4t]; exact hb5
  generalize (h5.set b4 (.own 0 (List.replicate 32 (.int .u8 0)) 32)) = H0 at le6 p46 p26 hb6
  have hb4' : h1 b4 = none := Heap.none_of_le le5 hb4
  have hsend : shaEnd hs rest n = outF (absorb hs (rest ++ paddingF n)).1 8 := rfl
  rw [hsend]
  generalize (absorb hs (rest ++ paddingF n)).1 = F at p46 hb6
  have c8 : hcells H0 ⟨bt, 0, none⟩ 8 = some (rowU F 8) := by rw [hcells_at hb6 (by rw [sumC_len]; omega), sumC_h]
  simp -implicitDefEqProofs only [zB1,zB2,zB3,zB4,zB5,zB6,zB7,zB8,zB9,zB10,zB11,y00,y01,y02,y03,y04,y05,y06,y07,y08,y09,y0a,y0b,y0c,y0d,y0e,y0f,y0g,y0h,y0i,y0j,y0k,y0l,y0m,y0n,y0o,y0p,y0q,y0r,y0s,y0t,y0u,y0v,y0w,y0x,y0y,y0z,y10,y11,y12,y13,y14,y15,y16,y17,y18,y19,y1a,y1b,y1c,y1d,y1e,y1f,y1g,y1h,y1i,y1j,y1k,y1l,y1m,y1n,y1o,y1p,y1q,y1r,retO,retL,retV,z6i,allV,allP,z6j,z6m,z6n,z6t,z6u,z6v,binV,eqV,unV,oOpt,reduceIte,reduceCtorEq,Nat.reduceEqDiff,Nat.reduceAdd,Nat.reduceMul,Nat.reduceLT,Nat.reduceSub,Int.reduceLT,Int.reduceLE,Int.reduceEq,Int.reduceNe,Int.reduceSub,Int.reduceAdd,Int.reduceMul,Int.reduceBEq,Int.reduceBNe,Int.reduceGT,Int.reduceGE,Nat.reduceGT,Int.reduceToNat,Int.reduceNeg,Nat.reduceLeDiff,Nat.reduceBEq,Nat.reduceBneDiff,Value.cells, c8]
  refine wp_loop' (fun m t H => h1.le H ∧ ∃ (i : Nat), t = tl [(2, .pointer (some ⟨b2, 0, none⟩)), (4, .pointer (some ⟨b4, 0, none⟩)), (33, .agg (rowU F 8).toArray), (34, .int .i64 i)] ∧ i ≤ 8 ∧ m = 8 - i ∧
      H b2 = some (.own 0 (List.replicate 32 (.int .u8 0)) 32) ∧ H b4 = some (.own 0 ((outF F i ++ List.replicate (32 - 4 * i) 0).map u8V) 32)) 8
    ⟨le6, 0, rfl, by omega, by omega, p26, p46⟩ ?_
  rintro m t H ⟨leH, i, rfl, hi, rfl, q2, q4⟩
  by_cases hlt : i < 8
  · have hi1 : (i : Int) < 8 := by omega
    have hi2 : (0 : Int) ≤ i := by omega
    have w1 : IntKind.i64.wrap ((i : Int) + 1) = ((i + 1 : Nat) : Int) := wrapN (by omega)
    have gi : (rowU F 8)[i]? = some (.int .u32 (F i).toNat) := by simp [rowU, hlt]
    have w4 : IntKind.i64.wrap (4 * (i : Int)) = ((4 * i : Nat) : Int) := by rw [wrapI (by omega) (by omega)]; omega
    have bd : bnds 32 32 (some (some (.int .i64 ((4 * i : Nat) : Int)))) none none = some (4 * i, 32, 32) := by rw [bnds_lo (by omega) (by omega), Int.toNat_natCast]
    simp -implicitDefEqProofs only [zB1,zB2,zB3,zB4,zB5,zB6,zB7,zB8,zB9,zB10,zB11,y00,y01,y02,y03,y04,y05,y06,y07,y08,y09,y0a,y0b,y0c,y0d,y0e,y0f,y0g,y0h,y0i,y0j,y0k,y0l,y0m,y0n,y0o,y0p,y0q,y0r,y0s,y0t,y0u,y0v,y0w,y0x,y0y,y0z,y10,y11,y12,y13,y14,y15,y16,y17,y18,y19,y1a,y1b,y1c,y1d,y1e,y1f,y1g,y1h,y1i,y1j,y1k,y1l,y1m,y1n,y1o,y1p,y1q,y1r,retO,retL,retV,z6i,allV,allP,z6j,z6m,z6n,z6t,z6u,z6v,binV,eqV,unV,oOpt,reduceIte,reduceCtorEq,Nat.reduceEqDiff,Nat.reduceAdd,Nat.reduceMul,Nat.reduceLT,Nat.reduceSub,Int.reduceLT,Int.reduceLE,Int.reduceEq,Int.reduceNe,Int.reduceSub,Int.reduceAdd,Int.reduceMul,Int.reduceBEq,Int.reduceBNe,Int.reduceGT,Int.reduceGE,Nat.reduceGT,Int.reduceToNat,Int.reduceNeg,Nat.reduceLeDiff,Nat.reduceBEq,Nat.reduceBneDiff,Value.cells, hi1, hi2, Int.toNat_natCast, gi, u32_u64]
    refine (octet_Big_c E H [] (by simp) (.inl ⟨rfl, rfl, rfl⟩) ((F i).setWidth 64) 4 (by omega)).mono ?_
    rintro vb h6 ⟨le6', owb⟩
    rw [List.nil_append] at owb
    have q4' := le6' _ _ q4
    simp -implicitDefEqProofs only [zB1,zB2,zB3,zB4,zB5,zB6,zB7,zB8,zB9,zB10,zB11,y00,y01,y02,y03,y04,y05,y06,y07,y08,y09,y0a,y0b,y0c,y0d,y0e,y0f,y0g,y0h,y0i,y0j,y0k,y0l,y0m,y0n,y0o,y0p,y0q,y0r,y0s,y0t,y0u,y0v,y0w,y0x,y0y,y0z,y10,y11,y12,y13,y14,y15,y16,y17,y18,y19,y1a,y1b,y1c,y1d,y1e,y1f,y1g,y1h,y1i,y1j,y1k,y1l,y1m,y1n,y1o,y1p,y1q,y1r,retO,retL,retV,z6i,allV,allP,z6j,z6m,z6n,z6t,z6u,z6v,binV,eqV,unV,oOpt,reduceIte,reduceCtorEq,Nat.reduceEqDiff,Nat.reduceAdd,Nat.reduceMul,Nat.reduceLT,Nat.reduceSub,Int.reduceLT,Int.reduceLE,Int.reduceEq,Int.reduceNe,Int.reduceSub,Int.reduceAdd,Int.reduceMul,Int.reduceBEq,Int.reduceBNe,Int.reduceGT,Int.reduceGE,Nat.reduceGT,Int.reduceToNat,Int.reduceNeg,Nat.reduceLeDiff,Nat.reduceBEq,Nat.reduceBneDiff,Value.cells, w4, bd, implies_true]
    have ea : (if 32 = 4 * i then (⟨b4, 0, none⟩ : Addr) else Addr.add ⟨b4, 0, none⟩ (4 * i)) = ⟨b4, 4 * i, none⟩ := by rw [if_neg (by omega), add_off', Nat.zero_add]
    rw [ea]
    refine copyP_own (size := 1) (m := 4) q4' (by simp [outF_len]; omega) (by simp [outF_len]) (by have := owb.sl; rwa [bigF_len] at this) (one_u8 _) ?_
    rw [out_splice F i hlt]
    simp -implicitDefEqProofs only [zB1,zB2,zB3,zB4,zB5,zB6,zB7,zB8,zB9,zB10,zB11,y00,y01,y02,y03,y04,y05,y06,y07,y08,y09,y0a,y0b,y0c,y0d,y0e,y0f,y0g,y0h,y0i,y0j,y0k,y0l,y0m,y0n,y0o,y0p,y0q,y0r,y0s,y0t,y0u,y0v,y0w,y0x,y0y,y0z,y10,y11,y12,y13,y14,y15,y16,y17,y18,y19,y1a,y1b,y1c,y1d,y1e,y1f,y1g,y1h,y1i,y1j,y1k,y1l,y1m,y1n,y1o,y1p,y1q,y1r,retO,retL,retV,z6i,allV,allP,z6j,z6m,z6n,z6t,z6u,z6v,binV,eqV,unV,oOpt,reduceIte,reduceCtorEq,Nat.reduceEqDiff,Nat.reduceAdd,Nat.reduceMul,Nat.reduceLT,Nat.reduceSub,Int.reduceLT,Int.reduceLE,Int.reduceEq,Int.reduceNe,Int.reduceSub,Int.reduceAdd,Int.reduceMul,Int.reduceBEq,Int.reduceBNe,Int.reduceGT,Int.reduceGE,Nat.reduceGT,Int.reduceToNat,Int.reduceNeg,Nat.reduceLeDiff,Nat.reduceBEq,Nat.reduceBneDiff,Value.cells, w1]
    refine ⟨_, by omega, Heap.le_set (Heap.le_trans leH le6') hb4' _, i + 1, rfl, hlt, rfl, by rw [Heap.set_ne (Ne.symm (fun e => nb42 e.symm))]; exact le6' _ _ q2, Heap.set_self _ _ _⟩
  · have hi1 : ¬ (i : Int) < 8 := by omega
    have : i = 8 := by omega
    subst this
    have e0 : (outF F 8 ++ List.replicate (32 - 4 * 8) 0) = outF F 8 := by simp
    rw [e0] at q4
    have hl : hcells H ⟨b4, 0, none⟩ 32 = some ((outF F 8).map u8V) := by rw [hcells_at q4 (by simp [outF_len])]; simp [List.take_of_length_le, outF_len]
    have st : storeV H 32 (.pointer (some ⟨b2, 0, none⟩)) (.agg ((outF F 8).map u8V).toArray) = some (H.set b2 (.own 0 ((outF F 8).map u8V) 32)) := storeV_agg_at q2 (by omega) (by simp [outF_len]) (one_u8 _) (by simp) (by omega)
    have hl2 : hcells (H.set b2 (.own 0 ((outF F 8).map u8V) 32)) ⟨b2, 0, none⟩ 32 = some ((outF F 8).map u8V) := z6x (by simp [outF_len])
    simp -implicitDefEqProofs only [zB1,zB2,zB3,zB4,zB5,zB6,zB7,zB8,zB9,zB10,zB11,y00,y01,y02,y03,y04,y05,y06,y07,y08,y09,y0a,y0b,y0c,y0d,y0e,y0f,y0g,y0h,y0i,y0j,y0k,y0l,y0m,y0n,y0o,y0p,y0q,y0r,y0s,y0t,y0u,y0v,y0w,y0x,y0y,y0z,y10,y11,y12,y13,y14,y15,y16,y17,y18,y19,y1a,y1b,y1c,y1d,y1e,y1f,y1g,y1h,y1i,y1j,y1k,y1l,y1m,y1n,y1o,y1p,y1q,y1r,retO,retL,retV,z6i,allV,allP,z6j,z6m,z6n,z6t,z6u,z6v,binV,eqV,unV,oOpt,reduceIte,reduceCtorEq,Nat.reduceEqDiff,Nat.reduceAdd,Nat.reduceMul,Nat.reduceLT,Nat.reduceSub,Int.reduceLT,Int.reduceLE,Int.reduceEq,Int.reduceNe,Int.reduceSub,Int.reduceAdd,Int.reduceMul,Int.reduceBEq,Int.reduceBNe,Int.reduceGT,Int.reduceGE,Nat.reduceGT,Int.reduceToNat,Int.reduceNeg,Nat.reduceLeDiff,Nat.reduceBEq,Nat.reduceBneDiff,Value.cells, hi1, hl, st, hl2]
    exact Heap.le_set (Heap.le_trans le1 leH) hb2 _

def shaF (l : List UInt8) : List UInt8 := shaEnd (absorb startF l).1 (absorb startF l).2 l.length
theorem shaF_len (l : List UInt8) : (shaF l).length = 32 := by unfold shaF shaEnd; rw [outF_len]

theorem sha_Of_c (E : EnvT tab) (h : Heap) {v : Value} (L : List (List UInt8)) (hl : L.length ≤ 1000) (ht : L.flatten.length ≤ 100000000) (s : SlL h v L) :
    ACallN E.toEnv n_sha_Of [v] h fun r h' => h.le h' ∧ r = .agg ((shaF L.flatten).map u8V).toArray := by
  obtain ⟨vs, hvs, sl, el⟩ := s
  obtain ⟨base, c, rfl⟩ := Sl.shape sl
  refine acall h_sha_Of ir_sha_Of rfl rfl (wpA_sound ?_)
  unfold ir_sha_Of
  simp -implicitDefEqProofs only [zB1,zB2,zB3,zB4,zB5,zB6,zB7,zB8,zB9,zB10,zB11,y00,y01,y02,y03,y04,y05,y06,y07,y08,y09,y0a,y0b,y0c,y0d,y0e,y0f,y0g,y0h,y0i,y0j,y0k,y0l,y0m,y0n,y0o,y0p,y0q,y0r,y0s,y0t,y0u,y0v,y0w,y0x,y0y,y0z,y10,y11,y12,y13,y14,y15,y16,y17,y18,y19,y1a,y1b,y1c,y1d,y1e,y1f,y1g,y1h,y1i,y1j,y1k,y1l,y1m,y1n,y1o,y1p,y1q,y1r,retO,retL,retV,z6i,allV,allP,z6j,z6m,z6n,z6t,z6u,z6v,binV,eqV,unV,oOpt,reduceIte,reduceCtorEq,Nat.reduceEqDiff,Nat.reduceAdd,Nat.reduceMul,Nat.reduceLT,Nat.reduceSub,Int.reduceLT,Int.reduceLE,Int.reduceEq,Int.reduceNe,Int.reduceSub,Int.reduceAdd,Int.reduceMul,Int.reduceBEq,Int.reduceBNe,Int.reduceGT,Int.reduceGE,Nat.reduceGT,Int.reduceToNat,Int.reduceNeg,Nat.reduceLeDiff,Nat.reduceBEq,Nat.reduceBneDiff,Value.cells]
  intro b2 hb2
  rw [List.length_replicate]
  have le1 : h.le (h.set b2 (.own 0 (List.replicate 32 (.int .u8 0)) 32)) := Heap.le_set (Heap.le_refl _) hb2 _
  have p2 : (h.set b2 (.own 0 (List.replicate 32 (.int .u8 0)) 32)) b2 = some (.own 0 (List.replicate 32 (.int .u8 0)) 32) := Heap.set_self _ _ _
  generalize (h.set b2 (.own 0 (List.replicate 32 (.int .u8 0)) 32)) = h1 at le1 p2
  refine (sha_New_c E h1).mono ?_
  rintro r h2 ⟨le2, bs, rfl, hbs0, hbs⟩
  simp -implicitDefEqProofs only [zB1,zB2,zB3,zB4,zB5,zB6,zB7,zB8,zB9,zB10,zB11,y00,y01,y02,y03,y04,y05,y06,y07,y08,y09,y0a,y0b,y0c,y0d,y0e,y0f,y0g,y0h,y0i,y0j,y0k,y0l,y0m,y0n,y0o,y0p,y0q,y0r,y0s,y0t,y0u,y0v,y0w,y0x,y0y,y0z,y10,y11,y12,y13,y14,y15,y16,y17,y18,y19,y1a,y1b,y1c,y1d,y1e,y1f,y1g,y1h,y1i,y1j,y1k,y1l,y1m,y1n,y1o,y1p,y1q,y1r,retO,retL,retV,z6i,allV,allP,z6j,z6m,z6n,z6t,z6u,z6v,binV,eqV,unV,oOpt,reduceIte,reduceCtorEq,Nat.reduceEqDiff,Nat.reduceAdd,Nat.reduceMul,Nat.reduceLT,Nat.reduceSub,Int.reduceLT,Int.reduceLE,Int.reduceEq,Int.reduceNe,Int.reduceSub,Int.reduceAdd,Int.reduceMul,Int.reduceBEq,Int.reduceBNe,Int.reduceGT,Int.reduceGE,Nat.reduceGT,Int.reduceToNat,Int.reduceNeg,Nat.reduceLeDiff,Nat.reduceBEq,Nat.reduceBneDiff,Value.cells]
  have sr0 : SumR h1 h2 bs startF [] 0 := ⟨hbs0, _, hbs, fun X => Ow.nil _ _ _⟩
  refine wp_loop' (fun m t H => h1.le H ∧ ∃ (i : Nat), t = tl [(2, .pointer (some ⟨b2, 0, none⟩)), (3, .pointer (some ⟨bs, 0, none⟩)), (7, .slice base L.length c), (8, .int .i64 L.length), (9, .int .i64 i)] ∧ i ≤ L.length ∧ m = L.length - i ∧
      SumR h1 H bs (absorb startF (L.take i).flatten).1 (absorb startF (L.take i).flatten).2 (L.take i).flatten.length) L.length
    ⟨le2, 0, rfl, by omega, by omega, by rw [List.take_zero, List.flatten_nil, absorb_done (by simp)]; exact sr0⟩ ?_
  rintro m t H ⟨leH, i, rfl, hi, rfl, sr⟩
  have tlen : (L.take i).flatten.length ≤ L.flatten.length := by
    have : L.flatten = (L.take i).flatten ++ (L.drop i).flatten := by rw [← List.flatten_append, List.take_append_drop]
    rw [this, List.length_append]; omega
  have al := absorb_len startF (L.take i).flatten
  by_cases hlt : i < L.length
  · have hi1 : (i : Int) < L.length := by omega
    have hi2 : (0 : Int) ≤ i := by omega
    have w1 : IntKind.i64.wrap ((i : Int) + 1) = ((i + 1 : Nat) : Int) := wrapN (by omega)
    obtain ⟨b, o, c', hv, hc, hcl⟩ := sl.ptr (by omega) (by omega)
    simp only [Value.slice.injEq, true_and] at hv
    obtain ⟨rfl, rfl⟩ := hv
    rw [Nat.mul_one] at hcl
    have ci : hcell H ⟨b, o + i, none⟩ = some vs[i] := by
      rw [hcell_of (hcells_le (Heap.le_trans le1 leH) hcl) i hlt]; simp [hvs, hlt]
    have ei := el i (by omega) hlt
    have e2 : (L.take (i + 1)).flatten = (L.take i).flatten ++ L[i] := by rw [List.take_succ_eq_append_getElem hlt, List.flatten_append]; simp
    have ll : ((L.take i).flatten ++ L[i]).length ≤ L.flatten.length := by
      rw [← e2]
      have : L.flatten = (L.take (i + 1)).flatten ++ (L.drop (i + 1)).flatten := by rw [← List.flatten_append, List.take_append_drop]
      rw [this, List.length_append]; omega
    rw [List.length_append] at ll
    simp -implicitDefEqProofs only [zB1,zB2,zB3,zB4,zB5,zB6,zB7,zB8,zB9,zB10,zB11,y00,y01,y02,y03,y04,y05,y06,y07,y08,y09,y0a,y0b,y0c,y0d,y0e,y0f,y0g,y0h,y0i,y0j,y0k,y0l,y0m,y0n,y0o,y0p,y0q,y0r,y0s,y0t,y0u,y0v,y0w,y0x,y0y,y0z,y10,y11,y12,y13,y14,y15,y16,y17,y18,y19,y1a,y1b,y1c,y1d,y1e,y1f,y1g,y1h,y1i,y1j,y1k,y1l,y1m,y1n,y1o,y1p,y1q,y1r,retO,retL,retV,z6i,allV,allP,z6j,z6m,z6n,z6t,z6u,z6v,binV,eqV,unV,oOpt,reduceIte,reduceCtorEq,Nat.reduceEqDiff,Nat.reduceAdd,Nat.reduceMul,Nat.reduceLT,Nat.reduceSub,Int.reduceLT,Int.reduceLE,Int.reduceEq,Int.reduceNe,Int.reduceSub,Int.reduceAdd,Int.reduceMul,Int.reduceBEq,Int.reduceBNe,Int.reduceGT,Int.reduceGE,Nat.reduceGT,Int.reduceToNat,Int.reduceNeg,Nat.reduceLeDiff,Nat.reduceBEq,Nat.reduceBneDiff,Value.cells, hi1, hi2, Int.toNat_natCast, ci]
    refine (sha_Add_c E leH sr L[i] (fun X => ei.le (Heap.le_set (Heap.le_trans le1 leH) (Heap.none_of_le le1 hbs0) X)) (by omega) (by omega)).mono ?_
    rintro r H2 ⟨le3, sr2⟩
    rw [absorb_app, ← e2, ← List.length_append, ← e2] at sr2
    simp -implicitDefEqProofs only [zB1,zB2,zB3,zB4,zB5,zB6,zB7,zB8,zB9,zB10,zB11,y00,y01,y02,y03,y04,y05,y06,y07,y08,y09,y0a,y0b,y0c,y0d,y0e,y0f,y0g,y0h,y0i,y0j,y0k,y0l,y0m,y0n,y0o,y0p,y0q,y0r,y0s,y0t,y0u,y0v,y0w,y0x,y0y,y0z,y10,y11,y12,y13,y14,y15,y16,y17,y18,y19,y1a,y1b,y1c,y1d,y1e,y1f,y1g,y1h,y1i,y1j,y1k,y1l,y1m,y1n,y1o,y1p,y1q,y1r,retO,retL,retV,z6i,allV,allP,z6j,z6m,z6n,z6t,z6u,z6v,binV,eqV,unV,oOpt,reduceIte,reduceCtorEq,Nat.reduceEqDiff,Nat.reduceAdd,Nat.reduceMul,Nat.reduceLT,Nat.reduceSub,Int.reduceLT,Int.reduceLE,Int.reduceEq,Int.reduceNe,Int.reduceSub,Int.reduceAdd,Int.reduceMul,Int.reduceBEq,Int.reduceBNe,Int.reduceGT,Int.reduceGE,Nat.reduceGT,Int.reduceToNat,Int.reduceNeg,Nat.reduceLeDiff,Nat.reduceBEq,Nat.reduceBneDiff,Value.cells, w1]
    exact ⟨_, by omega, le3, i + 1, rfl, hlt, rfl, sr2⟩
  · have hi1 : ¬ (i : Int) < L.length := by omega
    have : i = L.length := by omega
    subst this
    rw [List.take_length] at sr al
    simp -implicitDefEqProofs only [zB1,zB2,zB3,zB4,zB5,zB6,zB7,zB8,zB9,zB10,zB11,y00,y01,y02,y03,y04,y05,y06,y07,y08,y09,y0a,y0b,y0c,y0d,y0e,y0f,y0g,y0h,y0i,y0j,y0k,y0l,y0m,y0n,y0o,y0p,y0q,y0r,y0s,y0t,y0u,y0v,y0w,y0x,y0y,y0z,y10,y11,y12,y13,y14,y15,y16,y17,y18,y19,y1a,y1b,y1c,y1d,y1e,y1f,y1g,y1h,y1i,y1j,y1k,y1l,y1m,y1n,y1o,y1p,y1q,y1r,retO,retL,retV,z6i,allV,allP,z6j,z6m,z6n,z6t,z6u,z6v,binV,eqV,unV,oOpt,reduceIte,reduceCtorEq,Nat.reduceEqDiff,Nat.reduceAdd,Nat.reduceMul,Nat.reduceLT,Nat.reduceSub,Int.reduceLT,Int.reduceLE,Int.reduceEq,Int.reduceNe,Int.reduceSub,Int.reduceAdd,Int.reduceMul,Int.reduceBEq,Int.reduceBNe,Int.reduceGT,Int.reduceGE,Nat.reduceGT,Int.reduceToNat,Int.reduceNeg,Nat.reduceLeDiff,Nat.reduceBEq,Nat.reduceBneDiff,Value.cells, hi1]
    refine (sha_Word_c E leH sr (by omega) (by omega)).mono ?_
    rintro r H2 ⟨le3, rfl⟩
    have q2 := le3 _ _ (leH _ _ p2)
    have he : shaEnd (absorb startF L.flatten).1 (absorb startF L.flatten).2 L.flatten.length = shaF L.flatten := rfl
    rw [he]
    have st : storeV H2 32 (.pointer (some ⟨b2, 0, none⟩)) (.agg ((shaF L.flatten).map u8V).toArray) = some (H2.set b2 (.own 0 ((shaF L.flatten).map u8V) 32)) := storeV_agg_at q2 (by omega) (by simp [shaF_len]) (one_u8 _) (by simp) (by omega)
    have hl2 : hcells (H2.set b2 (.own 0 ((shaF L.flatten).map u8V) 32)) ⟨b2, 0, none⟩ 32 = some ((shaF L.flatten).map u8V) := z6x (by simp [shaF_len])
    simp -implicitDefEqProofs only [zB1,zB2,zB3,zB4,zB5,zB6,zB7,zB8,zB9,zB10,zB11,y00,y01,y02,y03,y04,y05,y06,y07,y08,y09,y0a,y0b,y0c,y0d,y0e,y0f,y0g,y0h,y0i,y0j,y0k,y0l,y0m,y0n,y0o,y0p,y0q,y0r,y0s,y0t,y0u,y0v,y0w,y0x,y0y,y0z,y10,y11,y12,y13,y14,y15,y16,y17,y18,y19,y1a,y1b,y1c,y1d,y1e,y1f,y1g,y1h,y1i,y1j,y1k,y1l,y1m,y1n,y1o,y1p,y1q,y1r,retO,retL,retV,z6i,allV,allP,z6j,z6m,z6n,z6t,z6u,z6v,binV,eqV,unV,oOpt,reduceIte,reduceCtorEq,Nat.reduceEqDiff,Nat.reduceAdd,Nat.reduceMul,Nat.reduceLT,Nat.reduceSub,Int.reduceLT,Int.reduceLE,Int.reduceEq,Int.reduceNe,Int.reduceSub,Int.reduceAdd,Int.reduceMul,Int.reduceBEq,Int.reduceBNe,Int.reduceGT,Int.reduceGE,Nat.reduceGT,Int.reduceToNat,Int.reduceNeg,Nat.reduceLeDiff,Nat.reduceBEq,Nat.reduceBneDiff,Value.cells, st, hl2]
    exact Heap.le_set (Heap.le_trans le1 (Heap.le_trans leH le3)) hb2 _
end Go.Bb
/- Contracts: a journal's frames. -/
namespace Go.Bb
set_option linter.unusedSimpArgs false
set_option linter.unusedVariables false
set_option maxRecDepth 20000
set_option maxHeartbeats 2000000

theorem bytes_Clone_c (E : EnvT tab) (h : Heap) {v : Value} (l : List UInt8) (hl : l.length ≤ 140737488355328) (s : SlB h v l) : ACallN E.toEnv n_bytes_Clone [v] h fun r h' => h.le h' ∧ OwB h h' r l := by
  refine acall h_bytes_Clone ir_bytes_Clone rfl rfl (wpA_sound ?_)
  unfold ir_bytes_Clone
  rcases s with ⟨rfl, hn, hc⟩ | ⟨a, c, rfl, hc, hcl⟩
  · simp -implicitDefEqProofs only [zB1,zB2,zB3,zB4,zB5,zB6,zB7,zB8,zB9,zB10,zB11,y00,y01,y02,y03,y04,y05,y06,y07,y08,y09,y0a,y0b,y0c,y0d,y0e,y0f,y0g,y0h,y0i,y0j,y0k,y0l,y0m,y0n,y0o,y0p,y0q,y0r,y0s,y0t,y0u,y0v,y0w,y0x,y0y,y0z,y10,y11,y12,y13,y14,y15,y16,y17,y18,y19,y1a,y1b,y1c,y1d,y1e,y1f,y1g,y1h,y1i,y1j,y1k,y1l,y1m,y1n,y1o,y1p,y1q,y1r,retO,retL,retV,z6i,allV,allP,z6j,z6m,z6n,z6t,z6u,z6v,binV,eqV,unV,oOpt,reduceIte,reduceCtorEq,Nat.reduceEqDiff,Nat.reduceAdd,Nat.reduceMul,Nat.reduceLT,Nat.reduceSub,Int.reduceLT,Int.reduceLE,Int.reduceEq,Int.reduceNe,Int.reduceSub,Int.reduceAdd,Int.reduceMul,Int.reduceBEq,Int.reduceBNe,Int.reduceGT,Int.reduceGE,Nat.reduceGT,Int.reduceToNat,Int.reduceNeg,Nat.reduceLeDiff,Nat.reduceBEq,Nat.reduceBneDiff,Value.cells, Option.isNone]
    have : l = [] := List.eq_nil_of_length_eq_zero hn
    subst this
    exact ⟨Heap.le_refl _, Ow.nil _ _ _⟩
  · have s : SlB h (.slice (some a) l.length c) l := .inr ⟨a, c, rfl, hc, hcl⟩
    simp -implicitDefEqProofs only [zB1,zB2,zB3,zB4,zB5,zB6,zB7,zB8,zB9,zB10,zB11,y00,y01,y02,y03,y04,y05,y06,y07,y08,y09,y0a,y0b,y0c,y0d,y0e,y0f,y0g,y0h,y0i,y0j,y0k,y0l,y0m,y0n,y0o,y0p,y0q,y0r,y0s,y0t,y0u,y0v,y0w,y0x,y0y,y0z,y10,y11,y12,y13,y14,y15,y16,y17,y18,y19,y1a,y1b,y1c,y1d,y1e,y1f,y1g,y1h,y1i,y1j,y1k,y1l,y1m,y1n,y1o,y1p,y1q,y1r,retO,retL,retV,z6i,allV,allP,z6j,z6m,z6n,z6t,z6u,z6v,binV,eqV,unV,oOpt,reduceIte,reduceCtorEq,Nat.reduceEqDiff,Nat.reduceAdd,Nat.reduceMul,Nat.reduceLT,Nat.reduceSub,Int.reduceLT,Int.reduceLE,Int.reduceEq,Int.reduceNe,Int.reduceSub,Int.reduceAdd,Int.reduceMul,Int.reduceBEq,Int.reduceBNe,Int.reduceGT,Int.reduceGE,Nat.reduceGT,Int.reduceToNat,Int.reduceNeg,Nat.reduceLeDiff,Nat.reduceBEq,Nat.reduceBneDiff,Value.cells, Option.isNone]
    intro b1 hb1
    try simp -implicitDefEqProofs only [zB1,zB2,zB3,zB4,zB5,zB6,zB7,zB8,zB9,zB10,zB11,y00,y01,y02,y03,y04,y05,y06,y07,y08,y09,y0a,y0b,y0c,y0d,y0e,y0f,y0g,y0h,y0i,y0j,y0k,y0l,y0m,y0n,y0o,y0p,y0q,y0r,y0s,y0t,y0u,y0v,y0w,y0x,y0y,y0z,y10,y11,y12,y13,y14,y15,y16,y17,y18,y19,y1a,y1b,y1c,y1d,y1e,y1f,y1g,y1h,y1i,y1j,y1k,y1l,y1m,y1n,y1o,y1p,y1q,y1r,retO,retL,retV,z6i,allV,allP,z6j,z6m,z6n,z6t,z6u,z6v,binV,eqV,unV,oOpt,reduceIte,reduceCtorEq,Nat.reduceEqDiff,Nat.reduceAdd,Nat.reduceMul,Nat.reduceLT,Nat.reduceSub,Int.reduceLT,Int.reduceLE,Int.reduceEq,Int.reduceNe,Int.reduceSub,Int.reduceAdd,Int.reduceMul,Int.reduceBEq,Int.reduceBNe,Int.reduceGT,Int.reduceGE,Nat.reduceGT,Int.reduceToNat,Int.reduceNeg,Nat.reduceLeDiff,Nat.reduceBEq,Nat.reduceBneDiff,Value.cells]
    refine appendP_ow (bytes := 1) (n := 0) (cells := []) (m := l.length) (news := l.map u8V) (Heap.le_set (Heap.le_refl _) hb1 _) (by omega) (Ow.new (Heap.le_refl _) hb1 rfl (by omega) (by omega)) (s.le (Heap.le_set (Heap.le_refl _) hb1 _)) (one_u8 l) (by omega) (by omega) ?_
    intro v' h' ow le'
    rw [Nat.zero_add, List.nil_append] at ow
    simp -implicitDefEqProofs only [zB1,zB2,zB3,zB4,zB5,zB6,zB7,zB8,zB9,zB10,zB11,y00,y01,y02,y03,y04,y05,y06,y07,y08,y09,y0a,y0b,y0c,y0d,y0e,y0f,y0g,y0h,y0i,y0j,y0k,y0l,y0m,y0n,y0o,y0p,y0q,y0r,y0s,y0t,y0u,y0v,y0w,y0x,y0y,y0z,y10,y11,y12,y13,y14,y15,y16,y17,y18,y19,y1a,y1b,y1c,y1d,y1e,y1f,y1g,y1h,y1i,y1j,y1k,y1l,y1m,y1n,y1o,y1p,y1q,y1r,retO,retL,retV,z6i,allV,allP,z6j,z6m,z6n,z6t,z6u,z6v,binV,eqV,unV,oOpt,reduceIte,reduceCtorEq,Nat.reduceEqDiff,Nat.reduceAdd,Nat.reduceMul,Nat.reduceLT,Nat.reduceSub,Int.reduceLT,Int.reduceLE,Int.reduceEq,Int.reduceNe,Int.reduceSub,Int.reduceAdd,Int.reduceMul,Int.reduceBEq,Int.reduceBNe,Int.reduceGT,Int.reduceGE,Nat.reduceGT,Int.reduceToNat,Int.reduceNeg,Nat.reduceLeDiff,Nat.reduceBEq,Nat.reduceBneDiff,Value.cells]
    exact ⟨le', ow⟩
theorem bytes_Equal_c (E : EnvT tab) (h : Heap) {v w : Value} (a b : List UInt8) (s : SlB h v a) (q : SlB h w b) : ACallN E.toEnv n_bytes_Equal [v, w] h fun r h' => h' = h ∧ r = .bool (a == b) := by
  obtain ⟨ab, ac, rfl⟩ := Sl.shape s
  obtain ⟨bb, bc, rfl⟩ := Sl.shape q
  refine acall h_bytes_Equal ir_bytes_Equal rfl rfl (wpA_sound ?_)
  unfold ir_bytes_Equal
  have f1 := strOfV_sl s
  have f2 := strOfV_sl q
  simp only [strV] at f1 f2
  simp -implicitDefEqProofs only [zB1,zB2,zB3,zB4,zB5,zB6,zB7,zB8,zB9,zB10,zB11,y00,y01,y02,y03,y04,y05,y06,y07,y08,y09,y0a,y0b,y0c,y0d,y0e,y0f,y0g,y0h,y0i,y0j,y0k,y0l,y0m,y0n,y0o,y0p,y0q,y0r,y0s,y0t,y0u,y0v,y0w,y0x,y0y,y0z,y10,y11,y12,y13,y14,y15,y16,y17,y18,y19,y1a,y1b,y1c,y1d,y1e,y1f,y1g,y1h,y1i,y1j,y1k,y1l,y1m,y1n,y1o,y1p,y1q,y1r,retO,retL,retV,z6i,allV,allP,z6j,z6m,z6n,z6t,z6u,z6v,binV,eqV,unV,oOpt,reduceIte,reduceCtorEq,Nat.reduceEqDiff,Nat.reduceAdd,Nat.reduceMul,Nat.reduceLT,Nat.reduceSub,Int.reduceLT,Int.reduceLE,Int.reduceEq,Int.reduceNe,Int.reduceSub,Int.reduceAdd,Int.reduceMul,Int.reduceBEq,Int.reduceBNe,Int.reduceGT,Int.reduceGE,Nat.reduceGT,Int.reduceToNat,Int.reduceNeg,Nat.reduceLeDiff,Nat.reduceBEq,Nat.reduceBneDiff,Value.cells, f1, f2, str_toList]

/-! ### frames -/
def be4 (n : Nat) : List UInt8 := bigF (BitVec.ofNat 64 n) 4
def frameF (b : List UInt8) : List UInt8 := be4 b.length ++ (shaF (be4 b.length ++ b)).take 16 ++ b
def nextF (b : List UInt8) : Option (List UInt8 × List UInt8) :=
  if b.length < 20 then none
  else if b.length - 20 < (fromBigF (b.take 4)).toNat then none
  else if (shaF (b.take 4 ++ (b.drop 20).take (fromBigF (b.take 4)).toNat)).take 16 = (b.drop 4).take 16 then some ((b.drop 20).take (fromBigF (b.take 4)).toNat, b.drop (20 + (fromBigF (b.take 4)).toNat))
  else none
theorem be4_len (n : Nat) : (be4 n).length = 4 := bigF_len _ _
theorem frameF_len (b : List UInt8) : (frameF b).length = 20 + b.length := by
  unfold frameF
  rw [List.length_append, List.length_append, List.length_take, be4_len, shaF_len]; omega
theorem SlL.two {h : Heap} {v a b : Value} {x y : List UInt8} (s : Sl h 1 v 2 [a, b]) (sa : SlB h a x) (sb : SlB h b y) : SlL h v [x, y] := by
  refine ⟨[a, b], rfl, s, fun i h1 h2 => ?_⟩
  match i, h1, h2 with
  | 0, _, _ => exact sa
  | 1, _, _ => exact sb

theorem journal_frame_c (E : EnvT tab) (h : Heap) {v : Value} (b : List UInt8) (hl : b.length ≤ 1000000) (s : SlB h v b) : ACallN E.toEnv n_journal_frame [v] h fun r h' => h.le h' ∧ OwB h h' r (frameF b) := by
  obtain ⟨bb, bc, rfl⟩ := Sl.shape s
  refine acall h_journal_frame ir_journal_frame rfl rfl (wpA_sound ?_)
  unfold ir_journal_frame
  have w1 : IntKind.u64.wrap (b.length : Int) = ((BitVec.ofNat 64 b.length).toNat : Int) := by rw [wrap_u64, ofInt_nat]
  simp -implicitDefEqProofs only [zB1,zB2,zB3,zB4,zB5,zB6,zB7,zB8,zB9,zB10,zB11,y00,y01,y02,y03,y04,y05,y06,y07,y08,y09,y0a,y0b,y0c,y0d,y0e,y0f,y0g,y0h,y0i,y0j,y0k,y0l,y0m,y0n,y0o,y0p,y0q,y0r,y0s,y0t,y0u,y0v,y0w,y0x,y0y,y0z,y10,y11,y12,y13,y14,y15,y16,y17,y18,y19,y1a,y1b,y1c,y1d,y1e,y1f,y1g,y1h,y1i,y1j,y1k,y1l,y1m,y1n,y1o,y1p,y1q,y1r,retO,retL,retV,z6i,allV,allP,z6j,z6m,z6n,z6t,z6u,z6v,binV,eqV,unV,oOpt,reduceIte,reduceCtorEq,Nat.reduceEqDiff,Nat.reduceAdd,Nat.reduceMul,Nat.reduceLT,Nat.reduceSub,Int.reduceLT,Int.reduceLE,Int.reduceEq,Int.reduceNe,Int.reduceSub,Int.reduceAdd,Int.reduceMul,Int.reduceBEq,Int.reduceBNe,Int.reduceGT,Int.reduceGE,Nat.reduceGT,Int.reduceToNat,Int.reduceNeg,Nat.reduceLeDiff,Nat.reduceBEq,Nat.reduceBneDiff,Value.cells, w1]
  refine (octet_Big_c E h [] (by simp) (.inl ⟨rfl, rfl, rfl⟩) (BitVec.ofNat 64 b.length) 4 (by omega)).mono ?_
  rintro vh h1 ⟨le1, ow1⟩
  rw [List.nil_append] at ow1
  have hb4 : (bigF (BitVec.ofNat 64 b.length) 4).length = 4 := bigF_len _ _
  have eF : frameF b = bigF (BitVec.ofNat 64 b.length) 4 ++ (shaF (bigF (BitVec.ofNat 64 b.length) 4 ++ b)).take 16 ++ b := rfl
  rw [eF]
  generalize bigF (BitVec.ofNat 64 b.length) 4 = hd at ow1 hb4 ⊢
  obtain ⟨hb, hc, rfl⟩ := Sl.shape ow1.sl
  simp -implicitDefEqProofs only [zB1,zB2,zB3,zB4,zB5,zB6,zB7,zB8,zB9,zB10,zB11,y00,y01,y02,y03,y04,y05,y06,y07,y08,y09,y0a,y0b,y0c,y0d,y0e,y0f,y0g,y0h,y0i,y0j,y0k,y0l,y0m,y0n,y0o,y0p,y0q,y0r,y0s,y0t,y0u,y0v,y0w,y0x,y0y,y0z,y10,y11,y12,y13,y14,y15,y16,y17,y18,y19,y1a,y1b,y1c,y1d,y1e,y1f,y1g,y1h,y1i,y1j,y1k,y1l,y1m,y1n,y1o,y1p,y1q,y1r,retO,retL,retV,z6i,allV,allP,z6j,z6m,z6n,z6t,z6u,z6v,binV,eqV,unV,oOpt,reduceIte,reduceCtorEq,Nat.reduceEqDiff,Nat.reduceAdd,Nat.reduceMul,Nat.reduceLT,Nat.reduceSub,Int.reduceLT,Int.reduceLE,Int.reduceEq,Int.reduceNe,Int.reduceSub,Int.reduceAdd,Int.reduceMul,Int.reduceBEq,Int.reduceBNe,Int.reduceGT,Int.reduceGE,Nat.reduceGT,Int.reduceToNat,Int.reduceNeg,Nat.reduceLeDiff,Nat.reduceBEq,Nat.reduceBneDiff,Value.cells]
  intro b11 hb11
  try simp -implicitDefEqProofs only [zB1,zB2,zB3,zB4,zB5,zB6,zB7,zB8,zB9,zB10,zB11,y00,y01,y02,y03,y04,y05,y06,y07,y08,y09,y0a,y0b,y0c,y0d,y0e,y0f,y0g,y0h,y0i,y0j,y0k,y0l,y0m,y0n,y0o,y0p,y0q,y0r,y0s,y0t,y0u,y0v,y0w,y0x,y0y,y0z,y10,y11,y12,y13,y14,y15,y16,y17,y18,y19,y1a,y1b,y1c,y1d,y1e,y1f,y1g,y1h,y1i,y1j,y1k,y1l,y1m,y1n,y1o,y1p,y1q,y1r,retO,retL,retV,z6i,allV,allP,z6j,z6m,z6n,z6t,z6u,z6v,binV,eqV,unV,oOpt,reduceIte,reduceCtorEq,Nat.reduceEqDiff,Nat.reduceAdd,Nat.reduceMul,Nat.reduceLT,Nat.reduceSub,Int.reduceLT,Int.reduceLE,Int.reduceEq,Int.reduceNe,Int.reduceSub,Int.reduceAdd,Int.reduceMul,Int.reduceBEq,Int.reduceBNe,Int.reduceGT,Int.reduceGE,Nat.reduceGT,Int.reduceToNat,Int.reduceNeg,Nat.reduceLeDiff,Nat.reduceBEq,Nat.reduceBneDiff,Value.cells]
  have le2 := Heap.le_set (Heap.le_refl h1) hb11 (.own 0 [.slice hb hd.length hc, .slice bb b.length bc] 2)
  have le02 := Heap.le_trans le1 le2
  have s2 : Sl (h1.set b11 (.own 0 [.slice hb hd.length hc, .slice bb b.length bc] 2)) 1 (.slice (some ⟨b11, 0, none⟩) 2 2) 2 [.slice hb hd.length hc, .slice bb b.length bc] := Sl.lit rfl
  refine (sha_Of_c E _ [hd, b] (by simp) (by simp; omega) (SlL.two s2 (ow1.sl.le le2) (s.le le02))).mono ?_
  rintro r h3 ⟨le3, rfl⟩
  have le03 := Heap.le_trans le02 le3
  have hW := shaF_len [hd, b].flatten
  have eW : [hd, b].flatten = hd ++ b := by simp
  rw [eW] at hW ⊢
  generalize shaF (hd ++ b) = S at hW ⊢
  simp -implicitDefEqProofs only [zB1,zB2,zB3,zB4,zB5,zB6,zB7,zB8,zB9,zB10,zB11,y00,y01,y02,y03,y04,y05,y06,y07,y08,y09,y0a,y0b,y0c,y0d,y0e,y0f,y0g,y0h,y0i,y0j,y0k,y0l,y0m,y0n,y0o,y0p,y0q,y0r,y0s,y0t,y0u,y0v,y0w,y0x,y0y,y0z,y10,y11,y12,y13,y14,y15,y16,y17,y18,y19,y1a,y1b,y1c,y1d,y1e,y1f,y1g,y1h,y1i,y1j,y1k,y1l,y1m,y1n,y1o,y1p,y1q,y1r,retO,retL,retV,z6i,allV,allP,z6j,z6m,z6n,z6t,z6u,z6v,binV,eqV,unV,oOpt,reduceIte,reduceCtorEq,Nat.reduceEqDiff,Nat.reduceAdd,Nat.reduceMul,Nat.reduceLT,Nat.reduceSub,Int.reduceLT,Int.reduceLE,Int.reduceEq,Int.reduceNe,Int.reduceSub,Int.reduceAdd,Int.reduceMul,Int.reduceBEq,Int.reduceBNe,Int.reduceGT,Int.reduceGE,Nat.reduceGT,Int.reduceToNat,Int.reduceNeg,Nat.reduceLeDiff,Nat.reduceBEq,Nat.reduceBneDiff,Value.cells]
  intro b4 hb4'
  rw [List.length_replicate]
  have st : storeV (h3.set b4 (.own 0 (List.replicate 32 (.int .u8 0)) 32)) 32 (.pointer (some ⟨b4, 0, none⟩)) (.agg (S.map u8V).toArray) = some (h3.set b4 (.own 0 (S.map u8V) 32)) := z6z (by omega) (by simp [hW]) (one_u8 _) (by simp) (by omega)
  have bd : bnds 32 32 none (some (some (.int .i64 16))) none = some (0, 16, 32) := bnds_hi (by omega) (by omega)
  simp -implicitDefEqProofs only [zB1,zB2,zB3,zB4,zB5,zB6,zB7,zB8,zB9,zB10,zB11,y00,y01,y02,y03,y04,y05,y06,y07,y08,y09,y0a,y0b,y0c,y0d,y0e,y0f,y0g,y0h,y0i,y0j,y0k,y0l,y0m,y0n,y0o,y0p,y0q,y0r,y0s,y0t,y0u,y0v,y0w,y0x,y0y,y0z,y10,y11,y12,y13,y14,y15,y16,y17,y18,y19,y1a,y1b,y1c,y1d,y1e,y1f,y1g,y1h,y1i,y1j,y1k,y1l,y1m,y1n,y1o,y1p,y1q,y1r,retO,retL,retV,z6i,allV,allP,z6j,z6m,z6n,z6t,z6u,z6v,binV,eqV,unV,oOpt,reduceIte,reduceCtorEq,Nat.reduceEqDiff,Nat.reduceAdd,Nat.reduceMul,Nat.reduceLT,Nat.reduceSub,Int.reduceLT,Int.reduceLE,Int.reduceEq,Int.reduceNe,Int.reduceSub,Int.reduceAdd,Int.reduceMul,Int.reduceBEq,Int.reduceBNe,Int.reduceGT,Int.reduceGE,Nat.reduceGT,Int.reduceToNat,Int.reduceNeg,Nat.reduceLeDiff,Nat.reduceBEq,Nat.reduceBneDiff,Value.cells, st, bd, addz, Nat.sub_zero]
  have le4 := Heap.le_set (Heap.le_refl h3) hb4' (.own 0 (S.map u8V) 32)
  have sS : SlB (h3.set b4 (.own 0 (S.map u8V) 32)) (.slice (some ⟨b4, 0, none⟩) S.length S.length) S := own_sl (sz := 32) (Heap.set_self _ _ _)
  rw [hW] at sS
  have s16 := Sl.headB (m := 16) (by rw [hW]; exact sS) (by omega)
  have e16 : (S.take 16).length = 16 := by rw [List.length_take]; omega
  have le04 := Heap.le_trans le03 le4
  have ow4 := ow1.le (Heap.le_trans le2 (Heap.le_trans le3 le4))
  unfold SlB at s16
  rw [e16] at s16
  refine appendP_ow (m := 16) le04 (by omega) ow4 s16 (one_u8 _) (by omega) (by omega) ?_
  intro v5 h5 ow5 le5
  simp -implicitDefEqProofs only [zB1,zB2,zB3,zB4,zB5,zB6,zB7,zB8,zB9,zB10,zB11,y00,y01,y02,y03,y04,y05,y06,y07,y08,y09,y0a,y0b,y0c,y0d,y0e,y0f,y0g,y0h,y0i,y0j,y0k,y0l,y0m,y0n,y0o,y0p,y0q,y0r,y0s,y0t,y0u,y0v,y0w,y0x,y0y,y0z,y10,y11,y12,y13,y14,y15,y16,y17,y18,y19,y1a,y1b,y1c,y1d,y1e,y1f,y1g,y1h,y1i,y1j,y1k,y1l,y1m,y1n,y1o,y1p,y1q,y1r,retO,retL,retV,z6i,allV,allP,z6j,z6m,z6n,z6t,z6u,z6v,binV,eqV,unV,oOpt,reduceIte,reduceCtorEq,Nat.reduceEqDiff,Nat.reduceAdd,Nat.reduceMul,Nat.reduceLT,Nat.reduceSub,Int.reduceLT,Int.reduceLE,Int.reduceEq,Int.reduceNe,Int.reduceSub,Int.reduceAdd,Int.reduceMul,Int.reduceBEq,Int.reduceBNe,Int.reduceGT,Int.reduceGE,Nat.reduceGT,Int.reduceToNat,Int.reduceNeg,Nat.reduceLeDiff,Nat.reduceBEq,Nat.reduceBneDiff,Value.cells]
  refine appendP_ow (m := b.length) le5 (by omega) ow5 (s.le le5) (one_u8 _) (by omega) (by omega) ?_
  intro v6 h6 ow6 le6
  simp -implicitDefEqProofs only [zB1,zB2,zB3,zB4,zB5,zB6,zB7,zB8,zB9,zB10,zB11,y00,y01,y02,y03,y04,y05,y06,y07,y08,y09,y0a,y0b,y0c,y0d,y0e,y0f,y0g,y0h,y0i,y0j,y0k,y0l,y0m,y0n,y0o,y0p,y0q,y0r,y0s,y0t,y0u,y0v,y0w,y0x,y0y,y0z,y10,y11,y12,y13,y14,y15,y16,y17,y18,y19,y1a,y1b,y1c,y1d,y1e,y1f,y1g,y1h,y1i,y1j,y1k,y1l,y1m,y1n,y1o,y1p,y1q,y1r,retO,retL,retV,z6i,allV,allP,z6j,z6m,z6n,z6t,z6u,z6v,binV,eqV,unV,oOpt,reduceIte,reduceCtorEq,Nat.reduceEqDiff,Nat.reduceAdd,Nat.reduceMul,Nat.reduceLT,Nat.reduceSub,Int.reduceLT,Int.reduceLE,Int.reduceEq,Int.reduceNe,Int.reduceSub,Int.reduceAdd,Int.reduceMul,Int.reduceBEq,Int.reduceBNe,Int.reduceGT,Int.reduceGE,Nat.reduceGT,Int.reduceToNat,Int.reduceNeg,Nat.reduceLeDiff,Nat.reduceBEq,Nat.reduceBneDiff,Value.cells]
  refine ⟨le6, ?_⟩
  unfold OwB
  have e2 : (hd ++ S.take 16 ++ b).length = hd.length + 16 + b.length := by rw [List.length_append, List.length_append, e16]
  rw [e2, List.map_append, List.map_append]
  exact ow6

theorem journal_next_c (E : EnvT tab) {h0 h : Heap} (le0 : h0.le h) {v : Value} (b : List UInt8) (hl : b.length ≤ 10000000) (s0 : SlB h0 v b) : ACallN E.toEnv n_journal_next [v] h fun r h' => h.le h' ∧
      ((nextF b = none ∧ r = .tuple #[.slice none 0 0, .slice none 0 0, .bool false]) ∨ (∃ x y vx vy, nextF b = some (x, y) ∧ r = .tuple #[vx, vy, .bool true] ∧ SlB h0 vx x ∧ SlB h0 vy y)) := by
  obtain ⟨bb, bc, rfl⟩ := Sl.shape s0
  have s := s0.le le0
  refine acall h_journal_next ir_journal_next rfl rfl (wpA_sound ?_)
  unfold ir_journal_next nextF
  by_cases g0 : b.length < 20
  · have g0' : (b.length : Int) < 20 := by omega
    rw [if_pos g0]
    simp -implicitDefEqProofs only [zB1,zB2,zB3,zB4,zB5,zB6,zB7,zB8,zB9,zB10,zB11,y00,y01,y02,y03,y04,y05,y06,y07,y08,y09,y0a,y0b,y0c,y0d,y0e,y0f,y0g,y0h,y0i,y0j,y0k,y0l,y0m,y0n,y0o,y0p,y0q,y0r,y0s,y0t,y0u,y0v,y0w,y0x,y0y,y0z,y10,y11,y12,y13,y14,y15,y16,y17,y18,y19,y1a,y1b,y1c,y1d,y1e,y1f,y1g,y1h,y1i,y1j,y1k,y1l,y1m,y1n,y1o,y1p,y1q,y1r,retO,retL,retV,z6i,allV,allP,z6j,z6m,z6n,z6t,z6u,z6v,binV,eqV,unV,oOpt,reduceIte,reduceCtorEq,Nat.reduceEqDiff,Nat.reduceAdd,Nat.reduceMul,Nat.reduceLT,Nat.reduceSub,Int.reduceLT,Int.reduceLE,Int.reduceEq,Int.reduceNe,Int.reduceSub,Int.reduceAdd,Int.reduceMul,Int.reduceBEq,Int.reduceBNe,Int.reduceGT,Int.reduceGE,Nat.reduceGT,Int.reduceToNat,Int.reduceNeg,Nat.reduceLeDiff,Nat.reduceBEq,Nat.reduceBneDiff,Value.cells, g0']
    exact ⟨Heap.le_refl _, .inl trivial⟩
  have g0' : ¬ (b.length : Int) < 20 := by omega
  have hcap := Sl.cap s
  have bd : bnds b.length bc none (some (some (.int .i64 4))) none = some (0, 4, bc) := bnds_hi (by omega) (by omega)
  have s4 := Sl.headB s (m := 4) (by omega)
  have e4 : (b.take 4).length = 4 := by rw [List.length_take]; omega
  have ab : ∀ (x : Option Addr), (if bc = 0 then x else x.map fun a => a.add 0) = x := fun x => addO x bc (fun a _ => addr_add0 a)
  rw [if_neg g0]
  simp -implicitDefEqProofs only [zB1,zB2,zB3,zB4,zB5,zB6,zB7,zB8,zB9,zB10,zB11,y00,y01,y02,y03,y04,y05,y06,y07,y08,y09,y0a,y0b,y0c,y0d,y0e,y0f,y0g,y0h,y0i,y0j,y0k,y0l,y0m,y0n,y0o,y0p,y0q,y0r,y0s,y0t,y0u,y0v,y0w,y0x,y0y,y0z,y10,y11,y12,y13,y14,y15,y16,y17,y18,y19,y1a,y1b,y1c,y1d,y1e,y1f,y1g,y1h,y1i,y1j,y1k,y1l,y1m,y1n,y1o,y1p,y1q,y1r,retO,retL,retV,z6i,allV,allP,z6j,z6m,z6n,z6t,z6u,z6v,binV,eqV,unV,oOpt,reduceIte,reduceCtorEq,Nat.reduceEqDiff,Nat.reduceAdd,Nat.reduceMul,Nat.reduceLT,Nat.reduceSub,Int.reduceLT,Int.reduceLE,Int.reduceEq,Int.reduceNe,Int.reduceSub,Int.reduceAdd,Int.reduceMul,Int.reduceBEq,Int.reduceBNe,Int.reduceGT,Int.reduceGE,Nat.reduceGT,Int.reduceToNat,Int.reduceNeg,Nat.reduceLeDiff,Nat.reduceBEq,Nat.reduceBneDiff,Value.cells, g0', bd, ab, Nat.sub_zero]
  refine (octet_FromBig_c E h (b.take 4) (by omega) (by unfold SlB; rw [e4]; unfold SlB at s4; rw [e4] at s4; exact s4)).mono ?_
  rintro r h1 ⟨rfl, rfl⟩
  have hn := BitVec.isLt (fromBigF (b.take 4))
  generalize fromBigF (b.take 4) = n at hn ⊢
  unfold ir_journal_next_19 u64V
  have w1 : IntKind.i64.wrap ((b.length : Int) - 20) = ((b.length - 20 : Nat) : Int) := by rw [wrapI (by omega) (by omega)]; omega
  have w2 : IntKind.u64.wrap ((b.length - 20 : Nat) : Int) = ((b.length - 20 : Nat) : Int) := by rw [wrap_u64, ofInt_nat, BitVec.toNat_ofNat]; omega
  by_cases g1 : b.length - 20 < n.toNat
  · have g1' : ((b.length - 20 : Nat) : Int) < n.toNat := by omega
    rw [if_pos g1]
    simp -implicitDefEqProofs only [zB1,zB2,zB3,zB4,zB5,zB6,zB7,zB8,zB9,zB10,zB11,y00,y01,y02,y03,y04,y05,y06,y07,y08,y09,y0a,y0b,y0c,y0d,y0e,y0f,y0g,y0h,y0i,y0j,y0k,y0l,y0m,y0n,y0o,y0p,y0q,y0r,y0s,y0t,y0u,y0v,y0w,y0x,y0y,y0z,y10,y11,y12,y13,y14,y15,y16,y17,y18,y19,y1a,y1b,y1c,y1d,y1e,y1f,y1g,y1h,y1i,y1j,y1k,y1l,y1m,y1n,y1o,y1p,y1q,y1r,retO,retL,retV,z6i,allV,allP,z6j,z6m,z6n,z6t,z6u,z6v,binV,eqV,unV,oOpt,reduceIte,reduceCtorEq,Nat.reduceEqDiff,Nat.reduceAdd,Nat.reduceMul,Nat.reduceLT,Nat.reduceSub,Int.reduceLT,Int.reduceLE,Int.reduceEq,Int.reduceNe,Int.reduceSub,Int.reduceAdd,Int.reduceMul,Int.reduceBEq,Int.reduceBNe,Int.reduceGT,Int.reduceGE,Nat.reduceGT,Int.reduceToNat,Int.reduceNeg,Nat.reduceLeDiff,Nat.reduceBEq,Nat.reduceBneDiff,Value.cells, w1, w2, g1']
    exact ⟨Heap.le_refl _, .inl trivial⟩
  have g1' : ¬ ((b.length - 20 : Nat) : Int) < n.toNat := by omega
  rw [if_neg g1]
  have w3 : IntKind.i64.wrap (n.toNat : Int) = n.toNat := wrapI (by omega) (by omega)
  have w4 : IntKind.i64.wrap (20 + (n.toNat : Int)) = ((20 + n.toNat : Nat) : Int) := by rw [wrapI (by omega) (by omega)]; omega
  have b1 : bnds b.length bc (some (some (.int .i64 20))) (some (some (.int .i64 ((20 + n.toNat : Nat) : Int)))) none = some (20, 20 + n.toNat, bc) := bnds_both (by omega) (by omega) (by omega)
  have b2 : bnds b.length bc (some (some (.int .i64 ((20 + n.toNat : Nat) : Int)))) none none = some (20 + n.toNat, b.length, bc) := bnds_lo (by omega) (by omega)
  have b3 : bnds b.length bc (some (some (.int .i64 4))) (some (some (.int .i64 20))) none = some (4, 20, bc) := bnds_both (by omega) (by omega) (by omega)
  have sX := Sl.midB s0 (a := 20) (b := 20 + n.toNat) (by omega) (by omega)
  have sY := Sl.midB s0 (a := 20 + n.toNat) (b := b.length) (by omega) (by omega)
  have sZ := Sl.midB s (a := 4) (b := 20) (by omega) (by omega)
  rw [List.take_of_length_le (by rw [List.length_drop]; omega)] at sY
  have en : 20 + n.toNat - 20 = n.toNat := by omega
  rw [en] at sX
  have lX : ((b.drop 20).take n.toNat).length = n.toNat := by rw [List.length_take, List.length_drop]; omega
  have lZ : ((b.drop 4).take (20 - 4)).length = 16 := by rw [List.length_take, List.length_drop]; omega
  simp -implicitDefEqProofs only [zB1,zB2,zB3,zB4,zB5,zB6,zB7,zB8,zB9,zB10,zB11,y00,y01,y02,y03,y04,y05,y06,y07,y08,y09,y0a,y0b,y0c,y0d,y0e,y0f,y0g,y0h,y0i,y0j,y0k,y0l,y0m,y0n,y0o,y0p,y0q,y0r,y0s,y0t,y0u,y0v,y0w,y0x,y0y,y0z,y10,y11,y12,y13,y14,y15,y16,y17,y18,y19,y1a,y1b,y1c,y1d,y1e,y1f,y1g,y1h,y1i,y1j,y1k,y1l,y1m,y1n,y1o,y1p,y1q,y1r,retO,retL,retV,z6i,allV,allP,z6j,z6m,z6n,z6t,z6u,z6v,binV,eqV,unV,oOpt,reduceIte,reduceCtorEq,Nat.reduceEqDiff,Nat.reduceAdd,Nat.reduceMul,Nat.reduceLT,Nat.reduceSub,Int.reduceLT,Int.reduceLE,Int.reduceEq,Int.reduceNe,Int.reduceSub,Int.reduceAdd,Int.reduceMul,Int.reduceBEq,Int.reduceBNe,Int.reduceGT,Int.reduceGE,Nat.reduceGT,Int.reduceToNat,Int.reduceNeg,Nat.reduceLeDiff,Nat.reduceBEq,Nat.reduceBneDiff,Value.cells, w1, w2, g1', w3, w4, b1, b2, en]
  generalize (if bc = 20 then bb else bb.map fun x => x.add 20) = xb at sX ⊢
  generalize (if bc = 20 + n.toNat then bb else bb.map fun x => x.add (20 + n.toNat)) = yb at sY ⊢
  generalize hX : (b.drop 20).take n.toNat = X at sX lX ⊢
  unfold ir_journal_next_35
  simp -implicitDefEqProofs only [zB1,zB2,zB3,zB4,zB5,zB6,zB7,zB8,zB9,zB10,zB11,y00,y01,y02,y03,y04,y05,y06,y07,y08,y09,y0a,y0b,y0c,y0d,y0e,y0f,y0g,y0h,y0i,y0j,y0k,y0l,y0m,y0n,y0o,y0p,y0q,y0r,y0s,y0t,y0u,y0v,y0w,y0x,y0y,y0z,y10,y11,y12,y13,y14,y15,y16,y17,y18,y19,y1a,y1b,y1c,y1d,y1e,y1f,y1g,y1h,y1i,y1j,y1k,y1l,y1m,y1n,y1o,y1p,y1q,y1r,retO,retL,retV,z6i,allV,allP,z6j,z6m,z6n,z6t,z6u,z6v,binV,eqV,unV,oOpt,reduceIte,reduceCtorEq,Nat.reduceEqDiff,Nat.reduceAdd,Nat.reduceMul,Nat.reduceLT,Nat.reduceSub,Int.reduceLT,Int.reduceLE,Int.reduceEq,Int.reduceNe,Int.reduceSub,Int.reduceAdd,Int.reduceMul,Int.reduceBEq,Int.reduceBNe,Int.reduceGT,Int.reduceGE,Nat.reduceGT,Int.reduceToNat,Int.reduceNeg,Nat.reduceLeDiff,Nat.reduceBEq,Nat.reduceBneDiff,Value.cells, bd, ab, Nat.sub_zero]
  intro b38 hb38
  try simp -implicitDefEqProofs only [zB1,zB2,zB3,zB4,zB5,zB6,zB7,zB8,zB9,zB10,zB11,y00,y01,y02,y03,y04,y05,y06,y07,y08,y09,y0a,y0b,y0c,y0d,y0e,y0f,y0g,y0h,y0i,y0j,y0k,y0l,y0m,y0n,y0o,y0p,y0q,y0r,y0s,y0t,y0u,y0v,y0w,y0x,y0y,y0z,y10,y11,y12,y13,y14,y15,y16,y17,y18,y19,y1a,y1b,y1c,y1d,y1e,y1f,y1g,y1h,y1i,y1j,y1k,y1l,y1m,y1n,y1o,y1p,y1q,y1r,retO,retL,retV,z6i,allV,allP,z6j,z6m,z6n,z6t,z6u,z6v,binV,eqV,unV,oOpt,reduceIte,reduceCtorEq,Nat.reduceEqDiff,Nat.reduceAdd,Nat.reduceMul,Nat.reduceLT,Nat.reduceSub,Int.reduceLT,Int.reduceLE,Int.reduceEq,Int.reduceNe,Int.reduceSub,Int.reduceAdd,Int.reduceMul,Int.reduceBEq,Int.reduceBNe,Int.reduceGT,Int.reduceGE,Nat.reduceGT,Int.reduceToNat,Int.reduceNeg,Nat.reduceLeDiff,Nat.reduceBEq,Nat.reduceBneDiff,Value.cells]
  have le2 := Heap.le_set (Heap.le_refl h1) hb38 (.own 0 [.slice bb 4 bc, .slice xb n.toNat (bc - 20)] 2)
  have s2 : Sl (h1.set b38 (.own 0 [.slice bb 4 bc, .slice xb n.toNat (bc - 20)] 2)) 1 (.slice (some ⟨b38, 0, none⟩) 2 2) 2 [.slice bb 4 bc, .slice xb n.toNat (bc - 20)] := Sl.lit rfl
  refine (sha_Of_c E _ [b.take 4, X] (by simp) (by simp; omega) (SlL.two s2 (s4.le le2) (sX.le (Heap.le_trans le0 le2)))).mono ?_
  rintro r h3 ⟨le3, rfl⟩
  have le03 := Heap.le_trans le2 le3
  have hW := shaF_len [b.take 4, X].flatten
  have eW : [b.take 4, X].flatten = b.take 4 ++ X := by simp
  rw [eW] at hW ⊢
  generalize shaF (b.take 4 ++ X) = S at hW ⊢
  simp -implicitDefEqProofs only [zB1,zB2,zB3,zB4,zB5,zB6,zB7,zB8,zB9,zB10,zB11,y00,y01,y02,y03,y04,y05,y06,y07,y08,y09,y0a,y0b,y0c,y0d,y0e,y0f,y0g,y0h,y0i,y0j,y0k,y0l,y0m,y0n,y0o,y0p,y0q,y0r,y0s,y0t,y0u,y0v,y0w,y0x,y0y,y0z,y10,y11,y12,y13,y14,y15,y16,y17,y18,y19,y1a,y1b,y1c,y1d,y1e,y1f,y1g,y1h,y1i,y1j,y1k,y1l,y1m,y1n,y1o,y1p,y1q,y1r,retO,retL,retV,z6i,allV,allP,z6j,z6m,z6n,z6t,z6u,z6v,binV,eqV,unV,oOpt,reduceIte,reduceCtorEq,Nat.reduceEqDiff,Nat.reduceAdd,Nat.reduceMul,Nat.reduceLT,Nat.reduceSub,Int.reduceLT,Int.reduceLE,Int.reduceEq,Int.reduceNe,Int.reduceSub,Int.reduceAdd,Int.reduceMul,Int.reduceBEq,Int.reduceBNe,Int.reduceGT,Int.reduceGE,Nat.reduceGT,Int.reduceToNat,Int.reduceNeg,Nat.reduceLeDiff,Nat.reduceBEq,Nat.reduceBneDiff,Value.cells]
  intro b9 hb9
  rw [List.length_replicate]
  have st : storeV (h3.set b9 (.own 0 (List.replicate 32 (.int .u8 0)) 32)) 32 (.pointer (some ⟨b9, 0, none⟩)) (.agg (S.map u8V).toArray) = some (h3.set b9 (.own 0 (S.map u8V) 32)) := z6z (by omega) (by simp [hW]) (one_u8 _) (by simp) (by omega)
  have bd2 : bnds 32 32 none (some (some (.int .i64 16))) none = some (0, 16, 32) := bnds_hi (by omega) (by omega)
  simp -implicitDefEqProofs only [zB1,zB2,zB3,zB4,zB5,zB6,zB7,zB8,zB9,zB10,zB11,y00,y01,y02,y03,y04,y05,y06,y07,y08,y09,y0a,y0b,y0c,y0d,y0e,y0f,y0g,y0h,y0i,y0j,y0k,y0l,y0m,y0n,y0o,y0p,y0q,y0r,y0s,y0t,y0u,y0v,y0w,y0x,y0y,y0z,y10,y11,y12,y13,y14,y15,y16,y17,y18,y19,y1a,y1b,y1c,y1d,y1e,y1f,y1g,y1h,y1i,y1j,y1k,y1l,y1m,y1n,y1o,y1p,y1q,y1r,retO,retL,retV,z6i,allV,allP,z6j,z6m,z6n,z6t,z6u,z6v,binV,eqV,unV,oOpt,reduceIte,reduceCtorEq,Nat.reduceEqDiff,Nat.reduceAdd,Nat.reduceMul,Nat.reduceLT,Nat.reduceSub,Int.reduceLT,Int.reduceLE,Int.reduceEq,Int.reduceNe,Int.reduceSub,Int.reduceAdd,Int.reduceMul,Int.reduceBEq,Int.reduceBNe,Int.reduceGT,Int.reduceGE,Nat.reduceGT,Int.reduceToNat,Int.reduceNeg,Nat.reduceLeDiff,Nat.reduceBEq,Nat.reduceBneDiff,Value.cells, st, bd2, b3, addz, Nat.sub_zero, Nat.reduceSub]
  have le4 := Heap.le_set (Heap.le_refl h3) hb9 (.own 0 (S.map u8V) 32)
  have le04 := Heap.le_trans le03 le4
  have sS : SlB (h3.set b9 (.own 0 (S.map u8V) 32)) (.slice (some ⟨b9, 0, none⟩) S.length S.length) S := own_sl (sz := 32) (Heap.set_self _ _ _)
  rw [hW] at sS
  have s16 := Sl.headB (m := 16) (by rw [hW]; exact sS) (by omega)
  refine (bytes_Equal_c E _ (S.take 16) ((b.drop 4).take (20 - 4)) s16 (sZ.le le04)).mono ?_
  rintro r h5 ⟨rfl, rfl⟩
  by_cases q : S.take 16 = (b.drop 4).take 16
  · have q' : (S.take 16 == (b.drop 4).take (20 - 4)) = true := by rw [q]; exact beq_self_eq_true _
    rw [if_pos q]
    simp -implicitDefEqProofs only [zB1,zB2,zB3,zB4,zB5,zB6,zB7,zB8,zB9,zB10,zB11,y00,y01,y02,y03,y04,y05,y06,y07,y08,y09,y0a,y0b,y0c,y0d,y0e,y0f,y0g,y0h,y0i,y0j,y0k,y0l,y0m,y0n,y0o,y0p,y0q,y0r,y0s,y0t,y0u,y0v,y0w,y0x,y0y,y0z,y10,y11,y12,y13,y14,y15,y16,y17,y18,y19,y1a,y1b,y1c,y1d,y1e,y1f,y1g,y1h,y1i,y1j,y1k,y1l,y1m,y1n,y1o,y1p,y1q,y1r,retO,retL,retV,z6i,allV,allP,z6j,z6m,z6n,z6t,z6u,z6v,binV,eqV,unV,oOpt,reduceIte,reduceCtorEq,Nat.reduceEqDiff,Nat.reduceAdd,Nat.reduceMul,Nat.reduceLT,Nat.reduceSub,Int.reduceLT,Int.reduceLE,Int.reduceEq,Int.reduceNe,Int.reduceSub,Int.reduceAdd,Int.reduceMul,Int.reduceBEq,Int.reduceBNe,Int.reduceGT,Int.reduceGE,Nat.reduceGT,Int.reduceToNat,Int.reduceNeg,Nat.reduceLeDiff,Nat.reduceBEq,Nat.reduceBneDiff,Value.cells, q']
    exact ⟨le04, .inr ⟨X, _, _, _, rfl, rfl, sX, sY⟩⟩
  · have q' : (S.take 16 == (b.drop 4).take (20 - 4)) = false := by
      rw [Bool.eq_false_iff]
      intro e
      exact q (eq_of_beq e)
    rw [if_neg q]
    simp -implicitDefEqProofs only [zB1,zB2,zB3,zB4,zB5,zB6,zB7,zB8,zB9,zB10,zB11,y00,y01,y02,y03,y04,y05,y06,y07,y08,y09,y0a,y0b,y0c,y0d,y0e,y0f,y0g,y0h,y0i,y0j,y0k,y0l,y0m,y0n,y0o,y0p,y0q,y0r,y0s,y0t,y0u,y0v,y0w,y0x,y0y,y0z,y10,y11,y12,y13,y14,y15,y16,y17,y18,y19,y1a,y1b,y1c,y1d,y1e,y1f,y1g,y1h,y1i,y1j,y1k,y1l,y1m,y1n,y1o,y1p,y1q,y1r,retO,retL,retV,z6i,allV,allP,z6j,z6m,z6n,z6t,z6u,z6v,binV,eqV,unV,oOpt,reduceIte,reduceCtorEq,Nat.reduceEqDiff,Nat.reduceAdd,Nat.reduceMul,Nat.reduceLT,Nat.reduceSub,Int.reduceLT,Int.reduceLE,Int.reduceEq,Int.reduceNe,Int.reduceSub,Int.reduceAdd,Int.reduceMul,Int.reduceBEq,Int.reduceBNe,Int.reduceGT,Int.reduceGE,Nat.reduceGT,Int.reduceToNat,Int.reduceNeg,Nat.reduceLeDiff,Nat.reduceBEq,Nat.reduceBneDiff,Value.cells, q']
    exact ⟨le04, .inl trivial⟩
end Go.Bb
/- Contracts: disks: what is asked, found, how great. -/
namespace Go.Bb
set_option linter.unusedSimpArgs false
set_option linter.unusedVariables false
set_option maxRecDepth 20000
set_option maxHeartbeats 2000000

theorem disk_ask_c (E : EnvT tab) {κ : Pal} {H : Heap} {d : Nat} {D : DiskF} (R : DiskR κ H d D) {vn : Value} (names : List (List UInt8)) (hn : names.length ≤ 100) (hl : ∀ s ∈ names, s.length ≤ 9000000000000000000) (sn : Sl H 1 vn names.length (names.map strV)) :
    ACallN E.toEnv n_disk_Disk_ask [ptrV d, vn] H fun r H' => H' = H ∧ r = .int .i64 (askF D names : Nat) := by
  obtain ⟨G, r, clk, V⟩ := R
  obtain ⟨base, c, rfl⟩ := Sl.shape sn
  refine acall h_disk_Disk_ask ir_disk_Disk_ask rfl rfl (wpA_sound ?_)
  unfold ir_disk_Disk_ask
  have c2 : hcell H ⟨d, 2, none⟩ = some (.bool D.on) := by rw [hcell_at V.qd (by simp)]; rfl
  simp -implicitDefEqProofs only [zB1,zB2,zB3,zB4,zB5,zB6,zB7,zB8,zB9,zB10,zB11,y00,y01,y02,y03,y04,y05,y06,y07,y08,y09,y0a,y0b,y0c,y0d,y0e,y0f,y0g,y0h,y0i,y0j,y0k,y0l,y0m,y0n,y0o,y0p,y0q,y0r,y0s,y0t,y0u,y0v,y0w,y0x,y0y,y0z,y10,y11,y12,y13,y14,y15,y16,y17,y18,y19,y1a,y1b,y1c,y1d,y1e,y1f,y1g,y1h,y1i,y1j,y1k,y1l,y1m,y1n,y1o,y1p,y1q,y1r,retO,retL,retV,z6i,allV,allP,z6j,z6m,z6n,z6t,z6u,z6v,binV,eqV,unV,oOpt,reduceIte,reduceCtorEq,Nat.reduceEqDiff,Nat.reduceAdd,Nat.reduceMul,Nat.reduceLT,Nat.reduceSub,Int.reduceLT,Int.reduceLE,Int.reduceEq,Int.reduceNe,Int.reduceSub,Int.reduceAdd,Int.reduceMul,Int.reduceBEq,Int.reduceBNe,Int.reduceGT,Int.reduceGE,Nat.reduceGT,Int.reduceToNat,Int.reduceNeg,Nat.reduceLeDiff,Nat.reduceBEq,Nat.reduceBneDiff,Value.cells]
  unfold ir_disk_Disk_ask_7 askF
  by_cases on : D.on = true
  · simp -implicitDefEqProofs only [zB1,zB2,zB3,zB4,zB5,zB6,zB7,zB8,zB9,zB10,zB11,y00,y01,y02,y03,y04,y05,y06,y07,y08,y09,y0a,y0b,y0c,y0d,y0e,y0f,y0g,y0h,y0i,y0j,y0k,y0l,y0m,y0n,y0o,y0p,y0q,y0r,y0s,y0t,y0u,y0v,y0w,y0x,y0y,y0z,y10,y11,y12,y13,y14,y15,y16,y17,y18,y19,y1a,y1b,y1c,y1d,y1e,y1f,y1g,y1h,y1i,y1j,y1k,y1l,y1m,y1n,y1o,y1p,y1q,y1r,retO,retL,retV,z6i,allV,allP,z6j,z6m,z6n,z6t,z6u,z6v,binV,eqV,unV,oOpt,reduceIte,reduceCtorEq,Nat.reduceEqDiff,Nat.reduceAdd,Nat.reduceMul,Nat.reduceLT,Nat.reduceSub,Int.reduceLT,Int.reduceLE,Int.reduceEq,Int.reduceNe,Int.reduceSub,Int.reduceAdd,Int.reduceMul,Int.reduceBEq,Int.reduceBNe,Int.reduceGT,Int.reduceGE,Nat.reduceGT,Int.reduceToNat,Int.reduceNeg,Nat.reduceLeDiff,Nat.reduceBEq,Nat.reduceBneDiff,Value.cells, c2, on]
    refine wp_loop' (fun m t K => K = H ∧ ∃ i : Nat, t = tl [(12, .slice base names.length c), (13, .int .i64 names.length), (14, .int .i64 i)] ∧ i ≤ names.length ∧ m = names.length - i ∧ (names.take i).all goodName = true) names.length
      ⟨rfl, 0, rfl, by omega, by omega, by simp⟩ ?_
    rintro m t K ⟨rfl, i, rfl, hi, rfl, ha⟩
    by_cases hlt : i < names.length
    · have hi1 : (i : Int) < names.length := by omega
      have hi2 : (0 : Int) ≤ i := by omega
      have w1 : IntKind.i64.wrap ((i : Int) + 1) = ((i + 1 : Nat) : Int) := wrapN (by omega)
      obtain ⟨b, o, c', hv, hc, hcl⟩ := sn.ptr (by omega) (by omega)
      simp only [Value.slice.injEq, true_and] at hv
      obtain ⟨rfl, rfl⟩ := hv
      rw [Nat.mul_one] at hcl
      have ci := hcell_of hcl i (by simpa using hlt)
      rw [List.getElem?_map, List.getElem?_eq_getElem hlt, Option.map_some] at ci
      simp -implicitDefEqProofs only [zB1,zB2,zB3,zB4,zB5,zB6,zB7,zB8,zB9,zB10,zB11,y00,y01,y02,y03,y04,y05,y06,y07,y08,y09,y0a,y0b,y0c,y0d,y0e,y0f,y0g,y0h,y0i,y0j,y0k,y0l,y0m,y0n,y0o,y0p,y0q,y0r,y0s,y0t,y0u,y0v,y0w,y0x,y0y,y0z,y10,y11,y12,y13,y14,y15,y16,y17,y18,y19,y1a,y1b,y1c,y1d,y1e,y1f,y1g,y1h,y1i,y1j,y1k,y1l,y1m,y1n,y1o,y1p,y1q,y1r,retO,retL,retV,z6i,allV,allP,z6j,z6m,z6n,z6t,z6u,z6v,binV,eqV,unV,oOpt,reduceIte,reduceCtorEq,Nat.reduceEqDiff,Nat.reduceAdd,Nat.reduceMul,Nat.reduceLT,Nat.reduceSub,Int.reduceLT,Int.reduceLE,Int.reduceEq,Int.reduceNe,Int.reduceSub,Int.reduceAdd,Int.reduceMul,Int.reduceBEq,Int.reduceBNe,Int.reduceGT,Int.reduceGE,Nat.reduceGT,Int.reduceToNat,Int.reduceNeg,Nat.reduceLeDiff,Nat.reduceBEq,Nat.reduceBneDiff,Value.cells, hi1, hi2, Int.toNat_natCast, ci]
      refine (disk_good_c E K names[i] (hl _ (List.getElem_mem hlt))).mono ?_
      rintro v K2 ⟨rfl, rfl⟩
      by_cases g : goodName names[i] = true
      · simp -implicitDefEqProofs only [zB1,zB2,zB3,zB4,zB5,zB6,zB7,zB8,zB9,zB10,zB11,y00,y01,y02,y03,y04,y05,y06,y07,y08,y09,y0a,y0b,y0c,y0d,y0e,y0f,y0g,y0h,y0i,y0j,y0k,y0l,y0m,y0n,y0o,y0p,y0q,y0r,y0s,y0t,y0u,y0v,y0w,y0x,y0y,y0z,y10,y11,y12,y13,y14,y15,y16,y17,y18,y19,y1a,y1b,y1c,y1d,y1e,y1f,y1g,y1h,y1i,y1j,y1k,y1l,y1m,y1n,y1o,y1p,y1q,y1r,retO,retL,retV,z6i,allV,allP,z6j,z6m,z6n,z6t,z6u,z6v,binV,eqV,unV,oOpt,reduceIte,reduceCtorEq,Nat.reduceEqDiff,Nat.reduceAdd,Nat.reduceMul,Nat.reduceLT,Nat.reduceSub,Int.reduceLT,Int.reduceLE,Int.reduceEq,Int.reduceNe,Int.reduceSub,Int.reduceAdd,Int.reduceMul,Int.reduceBEq,Int.reduceBNe,Int.reduceGT,Int.reduceGE,Nat.reduceGT,Int.reduceToNat,Int.reduceNeg,Nat.reduceLeDiff,Nat.reduceBEq,Nat.reduceBneDiff,Value.cells, g, w1]
        refine ⟨_, ?_, i + 1, rfl, by omega, rfl, ?_⟩
        · omega
        · rw [List.take_succ_eq_append_getElem hlt, List.all_append, ha]; simp [g]
      · have hf : names.all goodName = false := by
          rw [List.all_eq_false]
          exact ⟨names[i], List.getElem_mem hlt, by simpa using g⟩
        simp -implicitDefEqProofs only [zB1,zB2,zB3,zB4,zB5,zB6,zB7,zB8,zB9,zB10,zB11,y00,y01,y02,y03,y04,y05,y06,y07,y08,y09,y0a,y0b,y0c,y0d,y0e,y0f,y0g,y0h,y0i,y0j,y0k,y0l,y0m,y0n,y0o,y0p,y0q,y0r,y0s,y0t,y0u,y0v,y0w,y0x,y0y,y0z,y10,y11,y12,y13,y14,y15,y16,y17,y18,y19,y1a,y1b,y1c,y1d,y1e,y1f,y1g,y1h,y1i,y1j,y1k,y1l,y1m,y1n,y1o,y1p,y1q,y1r,retO,retL,retV,z6i,allV,allP,z6j,z6m,z6n,z6t,z6u,z6v,binV,eqV,unV,oOpt,reduceIte,reduceCtorEq,Nat.reduceEqDiff,Nat.reduceAdd,Nat.reduceMul,Nat.reduceLT,Nat.reduceSub,Int.reduceLT,Int.reduceLE,Int.reduceEq,Int.reduceNe,Int.reduceSub,Int.reduceAdd,Int.reduceMul,Int.reduceBEq,Int.reduceBNe,Int.reduceGT,Int.reduceGE,Nat.reduceGT,Int.reduceToNat,Int.reduceNeg,Nat.reduceLeDiff,Nat.reduceBEq,Nat.reduceBneDiff,Value.cells, g, hf]
    · have hi1 : ¬ (i : Int) < names.length := by omega
      have e : i = names.length := by omega
      subst e
      rw [List.take_length] at ha
      simp -implicitDefEqProofs only [zB1,zB2,zB3,zB4,zB5,zB6,zB7,zB8,zB9,zB10,zB11,y00,y01,y02,y03,y04,y05,y06,y07,y08,y09,y0a,y0b,y0c,y0d,y0e,y0f,y0g,y0h,y0i,y0j,y0k,y0l,y0m,y0n,y0o,y0p,y0q,y0r,y0s,y0t,y0u,y0v,y0w,y0x,y0y,y0z,y10,y11,y12,y13,y14,y15,y16,y17,y18,y19,y1a,y1b,y1c,y1d,y1e,y1f,y1g,y1h,y1i,y1j,y1k,y1l,y1m,y1n,y1o,y1p,y1q,y1r,retO,retL,retV,z6i,allV,allP,z6j,z6m,z6n,z6t,z6u,z6v,binV,eqV,unV,oOpt,reduceIte,reduceCtorEq,Nat.reduceEqDiff,Nat.reduceAdd,Nat.reduceMul,Nat.reduceLT,Nat.reduceSub,Int.reduceLT,Int.reduceLE,Int.reduceEq,Int.reduceNe,Int.reduceSub,Int.reduceAdd,Int.reduceMul,Int.reduceBEq,Int.reduceBNe,Int.reduceGT,Int.reduceGE,Nat.reduceGT,Int.reduceToNat,Int.reduceNeg,Nat.reduceLeDiff,Nat.reduceBEq,Nat.reduceBneDiff,Value.cells, hi1, ha]
  · simp -implicitDefEqProofs only [zB1,zB2,zB3,zB4,zB5,zB6,zB7,zB8,zB9,zB10,zB11,y00,y01,y02,y03,y04,y05,y06,y07,y08,y09,y0a,y0b,y0c,y0d,y0e,y0f,y0g,y0h,y0i,y0j,y0k,y0l,y0m,y0n,y0o,y0p,y0q,y0r,y0s,y0t,y0u,y0v,y0w,y0x,y0y,y0z,y10,y11,y12,y13,y14,y15,y16,y17,y18,y19,y1a,y1b,y1c,y1d,y1e,y1f,y1g,y1h,y1i,y1j,y1k,y1l,y1m,y1n,y1o,y1p,y1q,y1r,retO,retL,retV,z6i,allV,allP,z6j,z6m,z6n,z6t,z6u,z6v,binV,eqV,unV,oOpt,reduceIte,reduceCtorEq,Nat.reduceEqDiff,Nat.reduceAdd,Nat.reduceMul,Nat.reduceLT,Nat.reduceSub,Int.reduceLT,Int.reduceLE,Int.reduceEq,Int.reduceNe,Int.reduceSub,Int.reduceAdd,Int.reduceMul,Int.reduceBEq,Int.reduceBNe,Int.reduceGT,Int.reduceGE,Nat.reduceGT,Int.reduceToNat,Int.reduceNeg,Nat.reduceLeDiff,Nat.reduceBEq,Nat.reduceBneDiff,Value.cells, c2, on]

theorem disk_find_c (E : EnvT tab) {κ : Pal} {H : Heap} {d : Nat} {D : DiskF} {G : List GFile} {r clk : Nat} (V : DiskV κ H d D G r clk) (s : List UInt8) (hs : s.length ≤ 9000000000000000000) :
    ACallN E.toEnv n_disk_Disk_find [ptrV d, strV s] H fun v H' => H.le H' ∧
      ((askF D [s] ≠ 0 ∧ v = .tuple #[.pointer none, .int .i64 (askF D [s] : Nat)]) ∨ (askF D [s] = 0 ∧ Lack G s ∧ v = .tuple #[.pointer none, .int .i64 4]) ∨
      (askF D [s] = 0 ∧ ∃ A g B, G = A ++ g :: B ∧ Lack A s ∧ g.name = s ∧ v = .tuple #[ptrV g.f, .int .i64 0])) := by
  refine acall h_disk_Disk_find ir_disk_Disk_find rfl rfl (wpA_sound ?_)
  unfold ir_disk_Disk_find
  simp -implicitDefEqProofs only [zB1,zB2,zB3,zB4,zB5,zB6,zB7,zB8,zB9,zB10,zB11,y00,y01,y02,y03,y04,y05,y06,y07,y08,y09,y0a,y0b,y0c,y0d,y0e,y0f,y0g,y0h,y0i,y0j,y0k,y0l,y0m,y0n,y0o,y0p,y0q,y0r,y0s,y0t,y0u,y0v,y0w,y0x,y0y,y0z,y10,y11,y12,y13,y14,y15,y16,y17,y18,y19,y1a,y1b,y1c,y1d,y1e,y1f,y1g,y1h,y1i,y1j,y1k,y1l,y1m,y1n,y1o,y1p,y1q,y1r,retO,retL,retV,z6i,allV,allP,z6j,z6m,z6n,z6t,z6u,z6v,binV,eqV,unV,oOpt,reduceIte,reduceCtorEq,Nat.reduceEqDiff,Nat.reduceAdd,Nat.reduceMul,Nat.reduceLT,Nat.reduceSub,Int.reduceLT,Int.reduceLE,Int.reduceEq,Int.reduceNe,Int.reduceSub,Int.reduceAdd,Int.reduceMul,Int.reduceBEq,Int.reduceBNe,Int.reduceGT,Int.reduceGE,Nat.reduceGT,Int.reduceToNat,Int.reduceNeg,Nat.reduceLeDiff,Nat.reduceBEq,Nat.reduceBneDiff,Value.cells]
  intro b hb
  try simp -implicitDefEqProofs only [zB1,zB2,zB3,zB4,zB5,zB6,zB7,zB8,zB9,zB10,zB11,y00,y01,y02,y03,y04,y05,y06,y07,y08,y09,y0a,y0b,y0c,y0d,y0e,y0f,y0g,y0h,y0i,y0j,y0k,y0l,y0m,y0n,y0o,y0p,y0q,y0r,y0s,y0t,y0u,y0v,y0w,y0x,y0y,y0z,y10,y11,y12,y13,y14,y15,y16,y17,y18,y19,y1a,y1b,y1c,y1d,y1e,y1f,y1g,y1h,y1i,y1j,y1k,y1l,y1m,y1n,y1o,y1p,y1q,y1r,retO,retL,retV,z6i,allV,allP,z6j,z6m,z6n,z6t,z6u,z6v,binV,eqV,unV,oOpt,reduceIte,reduceCtorEq,Nat.reduceEqDiff,Nat.reduceAdd,Nat.reduceMul,Nat.reduceLT,Nat.reduceSub,Int.reduceLT,Int.reduceLE,Int.reduceEq,Int.reduceNe,Int.reduceSub,Int.reduceAdd,Int.reduceMul,Int.reduceBEq,Int.reduceBNe,Int.reduceGT,Int.reduceGE,Nat.reduceGT,Int.reduceToNat,Int.reduceNeg,Nat.reduceLeDiff,Nat.reduceBEq,Nat.reduceBneDiff,Value.cells, strV]
  have le1 := Heap.le_set (Heap.le_refl H) hb (.own 0 [strV s] 1)
  have sn : Sl (H.set b (.own 0 [strV s] 1)) 1 (.slice (some ⟨b, 0, none⟩) 1 1) 1 [strV s] := Sl.lit rfl
  refine (disk_ask_c E ⟨G, r, clk, V.le le1⟩ [s] (by simp) (by simpa using hs) sn).mono ?_
  rintro v H1 ⟨rfl, rfl⟩
  generalize (H.set b (.own 0 [strV s] 1)) = H1 at le1
  have V1 := V.le le1
  have c1 : hcell H1 ⟨d, 1, none⟩ = some (.map (some r)) := by rw [hcell_at V1.qd (by simp)]; rfl
  have ma : mapAt H1 r = some ((G.map GFile.e).toArray, clk) := by simp [mapAt, V1.qr]
  have kf : keyFit .str (.string ⟨s.toArray⟩) = some () := rfl
  by_cases e : askF D [s] = 0
  · rcases lack_or G s with l | ⟨A, g, B, rfl, l, hg⟩
    · have fv := findG_none (s := s) 0 l
      simp only [strV] at fv
      simp -implicitDefEqProofs only [zB1,zB2,zB3,zB4,zB5,zB6,zB7,zB8,zB9,zB10,zB11,y00,y01,y02,y03,y04,y05,y06,y07,y08,y09,y0a,y0b,y0c,y0d,y0e,y0f,y0g,y0h,y0i,y0j,y0k,y0l,y0m,y0n,y0o,y0p,y0q,y0r,y0s,y0t,y0u,y0v,y0w,y0x,y0y,y0z,y10,y11,y12,y13,y14,y15,y16,y17,y18,y19,y1a,y1b,y1c,y1d,y1e,y1f,y1g,y1h,y1i,y1j,y1k,y1l,y1m,y1n,y1o,y1p,y1q,y1r,retO,retL,retV,z6i,allV,allP,z6j,z6m,z6n,z6t,z6u,z6v,binV,eqV,unV,oOpt,reduceIte,reduceCtorEq,Nat.reduceEqDiff,Nat.reduceAdd,Nat.reduceMul,Nat.reduceLT,Nat.reduceSub,Int.reduceLT,Int.reduceLE,Int.reduceEq,Int.reduceNe,Int.reduceSub,Int.reduceAdd,Int.reduceMul,Int.reduceBEq,Int.reduceBNe,Int.reduceGT,Int.reduceGE,Nat.reduceGT,Int.reduceToNat,Int.reduceNeg,Nat.reduceLeDiff,Nat.reduceBEq,Nat.reduceBneDiff,Value.cells, e]
      unfold ir_disk_Disk_find_17
      simp -implicitDefEqProofs only [zB1,zB2,zB3,zB4,zB5,zB6,zB7,zB8,zB9,zB10,zB11,y00,y01,y02,y03,y04,y05,y06,y07,y08,y09,y0a,y0b,y0c,y0d,y0e,y0f,y0g,y0h,y0i,y0j,y0k,y0l,y0m,y0n,y0o,y0p,y0q,y0r,y0s,y0t,y0u,y0v,y0w,y0x,y0y,y0z,y10,y11,y12,y13,y14,y15,y16,y17,y18,y19,y1a,y1b,y1c,y1d,y1e,y1f,y1g,y1h,y1i,y1j,y1k,y1l,y1m,y1n,y1o,y1p,y1q,y1r,retO,retL,retV,z6i,allV,allP,z6j,z6m,z6n,z6t,z6u,z6v,binV,eqV,unV,oOpt,reduceIte,reduceCtorEq,Nat.reduceEqDiff,Nat.reduceAdd,Nat.reduceMul,Nat.reduceLT,Nat.reduceSub,Int.reduceLT,Int.reduceLE,Int.reduceEq,Int.reduceNe,Int.reduceSub,Int.reduceAdd,Int.reduceMul,Int.reduceBEq,Int.reduceBNe,Int.reduceGT,Int.reduceGE,Nat.reduceGT,Int.reduceToNat,Int.reduceNeg,Nat.reduceLeDiff,Nat.reduceBEq,Nat.reduceBneDiff,Value.cells, c1, ma, kf, fv]
      exact ⟨le1, .inr (.inl l)⟩
    · have fv := findG_some (B := B) hg 0 l
      simp only [strV] at fv
      simp -implicitDefEqProofs only [zB1,zB2,zB3,zB4,zB5,zB6,zB7,zB8,zB9,zB10,zB11,y00,y01,y02,y03,y04,y05,y06,y07,y08,y09,y0a,y0b,y0c,y0d,y0e,y0f,y0g,y0h,y0i,y0j,y0k,y0l,y0m,y0n,y0o,y0p,y0q,y0r,y0s,y0t,y0u,y0v,y0w,y0x,y0y,y0z,y10,y11,y12,y13,y14,y15,y16,y17,y18,y19,y1a,y1b,y1c,y1d,y1e,y1f,y1g,y1h,y1i,y1j,y1k,y1l,y1m,y1n,y1o,y1p,y1q,y1r,retO,retL,retV,z6i,allV,allP,z6j,z6m,z6n,z6t,z6u,z6v,binV,eqV,unV,oOpt,reduceIte,reduceCtorEq,Nat.reduceEqDiff,Nat.reduceAdd,Nat.reduceMul,Nat.reduceLT,Nat.reduceSub,Int.reduceLT,Int.reduceLE,Int.reduceEq,Int.reduceNe,Int.reduceSub,Int.reduceAdd,Int.reduceMul,Int.reduceBEq,Int.reduceBNe,Int.reduceGT,Int.reduceGE,Nat.reduceGT,Int.reduceToNat,Int.reduceNeg,Nat.reduceLeDiff,Nat.reduceBEq,Nat.reduceBneDiff,Value.cells, e]
      unfold ir_disk_Disk_find_17
      simp -implicitDefEqProofs only [zB1,zB2,zB3,zB4,zB5,zB6,zB7,zB8,zB9,zB10,zB11,y00,y01,y02,y03,y04,y05,y06,y07,y08,y09,y0a,y0b,y0c,y0d,y0e,y0f,y0g,y0h,y0i,y0j,y0k,y0l,y0m,y0n,y0o,y0p,y0q,y0r,y0s,y0t,y0u,y0v,y0w,y0x,y0y,y0z,y10,y11,y12,y13,y14,y15,y16,y17,y18,y19,y1a,y1b,y1c,y1d,y1e,y1f,y1g,y1h,y1i,y1j,y1k,y1l,y1m,y1n,y1o,y1p,y1q,y1r,retO,retL,retV,z6i,allV,allP,z6j,z6m,z6n,z6t,z6u,z6v,binV,eqV,unV,oOpt,reduceIte,reduceCtorEq,Nat.reduceEqDiff,Nat.reduceAdd,Nat.reduceMul,Nat.reduceLT,Nat.reduceSub,Int.reduceLT,Int.reduceLE,Int.reduceEq,Int.reduceNe,Int.reduceSub,Int.reduceAdd,Int.reduceMul,Int.reduceBEq,Int.reduceBNe,Int.reduceGT,Int.reduceGE,Nat.reduceGT,Int.reduceToNat,Int.reduceNeg,Nat.reduceLeDiff,Nat.reduceBEq,Nat.reduceBneDiff,Value.cells, c1, ma, kf, fv]
      exact ⟨le1, .inr (.inr ⟨A, g, B, rfl, l, hg, rfl⟩)⟩
  · have e' : ¬ ((askF D [s] : Nat) : Int) = 0 := by omega
    have e2 : (((askF D [s] : Nat) : Int) == 0) = false := by simpa using e
    simp -implicitDefEqProofs only [zB1,zB2,zB3,zB4,zB5,zB6,zB7,zB8,zB9,zB10,zB11,y00,y01,y02,y03,y04,y05,y06,y07,y08,y09,y0a,y0b,y0c,y0d,y0e,y0f,y0g,y0h,y0i,y0j,y0k,y0l,y0m,y0n,y0o,y0p,y0q,y0r,y0s,y0t,y0u,y0v,y0w,y0x,y0y,y0z,y10,y11,y12,y13,y14,y15,y16,y17,y18,y19,y1a,y1b,y1c,y1d,y1e,y1f,y1g,y1h,y1i,y1j,y1k,y1l,y1m,y1n,y1o,y1p,y1q,y1r,retO,retL,retV,z6i,allV,allP,z6j,z6m,z6n,z6t,z6u,z6v,binV,eqV,unV,oOpt,reduceIte,reduceCtorEq,Nat.reduceEqDiff,Nat.reduceAdd,Nat.reduceMul,Nat.reduceLT,Nat.reduceSub,Int.reduceLT,Int.reduceLE,Int.reduceEq,Int.reduceNe,Int.reduceSub,Int.reduceAdd,Int.reduceMul,Int.reduceBEq,Int.reduceBNe,Int.reduceGT,Int.reduceGE,Nat.reduceGT,Int.reduceToNat,Int.reduceNeg,Nat.reduceLeDiff,Nat.reduceBEq,Nat.reduceBneDiff,Value.cells, e, e', e2]
    exact ⟨le1, .inl trivial⟩

/-! ### walks over the files -/
theorem left_mem {G done rest : List GFile} (hp : (done ++ rest).Perm G) (nb : (G.map (·.born)).Nodup) {e : MapEntry} (he : e ∈ (leftOf (G.map GFile.e).toArray (done.map (·.born)).toArray).toList) : ∃ A g B, rest = A ++ g :: B ∧ e = g.e := by
  unfold leftOf at he
  rw [Array.toList_filter, List.mem_filter] at he
  obtain ⟨h1, h2⟩ := he
  obtain ⟨g, hg, rfl⟩ := List.mem_map.1 h1
  have h3 : g.born ∉ done.map (·.born) := by
    intro hh
    have : (done.map (·.born)).toArray.contains g.e.born = true := by simpa [GFile.e] using hh
    rw [this] at h2; cases h2
  rcases List.mem_append.1 (hp.mem_iff.2 hg) with hd | hr
  · exact absurd (List.mem_map_of_mem hd) h3
  · obtain ⟨A, B, e⟩ := List.append_of_mem hr
    exact ⟨A, g, B, e, rfl⟩
theorem left_none {G done rest : List GFile} (hp : (done ++ rest).Perm G) (nb : (G.map (·.born)).Nodup) (he : (leftOf (G.map GFile.e).toArray (done.map (·.born)).toArray).size = 0) : rest = [] := by
  cases rest with
  | nil => rfl
  | cons g rest =>
    exfalso
    have hg : g ∈ G := hp.mem_iff.1 (by simp)
    have nd : ((done ++ g :: rest).map (·.born)).Nodup := (hp.map _).nodup_iff.2 nb
    have h3 : g.born ∉ done.map (·.born) := by
      rw [List.map_append, List.nodup_append] at nd
      intro hh
      exact nd.2.2 _ hh _ (by simp) rfl
    have : g.e ∈ (leftOf (G.map GFile.e).toArray (done.map (·.born)).toArray).toList := by
      unfold leftOf
      rw [Array.toList_filter, List.mem_filter]
      refine ⟨by simpa using List.mem_map_of_mem hg, ?_⟩
      have : (done.map (·.born)).toArray.contains g.e.born = false := by simpa [GFile.e] using h3
      rw [this]; rfl
    rw [← Array.length_toList] at he
    rw [List.eq_nil_of_length_eq_zero he] at this
    cases this
theorem perm_step {G done A B : List GFile} {g : GFile} (hp : (done ++ (A ++ g :: B)).Perm G) : ((done ++ [g]) ++ (A ++ B)).Perm G := by
  refine List.Perm.trans ?_ hp
  rw [List.append_assoc]
  exact List.Perm.append_left done (show (g :: (A ++ B)).Perm (A ++ g :: B) from List.perm_middle.symm)
theorem sum_perm {G done rest : List GFile} (hp : (done ++ rest).Perm G) : (done.map fun g => g.F.size).sum + (rest.map fun g => g.F.size).sum = sizeF (G.map fun g => (g.name, g.F)) := by
  unfold sizeF
  rw [List.map_map, ← List.sum_append_nat, ← List.map_append]
  exact (hp.map _).sum_nat
theorem seen_push (done : List GFile) (g : GFile) : (done.map (·.born)).toArray.push g.e.born = ((done ++ [g]).map (·.born)).toArray := by
  simp [GFile.e]
theorem born_lt {G : List GFile} {clk : Nat} (lb : ∀ g ∈ G, g.born < clk) : ∀ e ∈ (G.map GFile.e).toArray.toList, e.born < clk := by
  intro e he
  obtain ⟨g, hg, rfl⟩ := List.mem_map.1 he
  exact lb g hg
theorem born_nd {G : List GFile} (nb : (G.map (·.born)).Nodup) : ((G.map GFile.e).toArray.toList.map (·.born)).Nodup := by
  show ((G.map GFile.e).map (·.born)).Nodup
  rw [List.map_map]; exact nb

theorem disk_size_c (E : EnvT tab) {κ : Pal} {H : Heap} {d : Nat} {D : DiskF} (R : DiskR κ H d D) (ok : D.ok) :
    ACallN E.toEnv n_disk_Disk_size [ptrV d] H fun v H' => H.le H' ∧ v = .int .i64 (sizeF D.files : Nat) := by
  obtain ⟨G, r, clk, V⟩ := R
  refine acall h_disk_Disk_size ir_disk_Disk_size rfl rfl (wpA_sound ?_)
  unfold ir_disk_Disk_size
  have c1 : hcell H ⟨d, 1, none⟩ = some (.map (some r)) := by rw [hcell_at V.qd (by simp)]; rfl
  have ma : mapAt H r = some ((G.map GFile.e).toArray, clk) := by simp [mapAt, V.qr]
  simp -implicitDefEqProofs only [zB1,zB2,zB3,zB4,zB5,zB6,zB7,zB8,zB9,zB10,zB11,y00,y01,y02,y03,y04,y05,y06,y07,y08,y09,y0a,y0b,y0c,y0d,y0e,y0f,y0g,y0h,y0i,y0j,y0k,y0l,y0m,y0n,y0o,y0p,y0q,y0r,y0s,y0t,y0u,y0v,y0w,y0x,y0y,y0z,y10,y11,y12,y13,y14,y15,y16,y17,y18,y19,y1a,y1b,y1c,y1d,y1e,y1f,y1g,y1h,y1i,y1j,y1k,y1l,y1m,y1n,y1o,y1p,y1q,y1r,retO,retL,retV,z6i,allV,allP,z6j,z6m,z6n,z6t,z6u,z6v,binV,eqV,unV,oOpt,reduceIte,reduceCtorEq,Nat.reduceEqDiff,Nat.reduceAdd,Nat.reduceMul,Nat.reduceLT,Nat.reduceSub,Int.reduceLT,Int.reduceLE,Int.reduceEq,Int.reduceNe,Int.reduceSub,Int.reduceAdd,Int.reduceMul,Int.reduceBEq,Int.reduceBNe,Int.reduceGT,Int.reduceGE,Nat.reduceGT,Int.reduceToNat,Int.reduceNeg,Nat.reduceLeDiff,Nat.reduceBEq,Nat.reduceBneDiff,Value.cells, c1]
  refine rangeP_map ma ?_
  intro b hb
  simp -implicitDefEqProofs only [zB1,zB2,zB3,zB4,zB5,zB6,zB7,zB8,zB9,zB10,zB11,y00,y01,y02,y03,y04,y05,y06,y07,y08,y09,y0a,y0b,y0c,y0d,y0e,y0f,y0g,y0h,y0i,y0j,y0k,y0l,y0m,y0n,y0o,y0p,y0q,y0r,y0s,y0t,y0u,y0v,y0w,y0x,y0y,y0z,y10,y11,y12,y13,y14,y15,y16,y17,y18,y19,y1a,y1b,y1c,y1d,y1e,y1f,y1g,y1h,y1i,y1j,y1k,y1l,y1m,y1n,y1o,y1p,y1q,y1r,retO,retL,retV,z6i,allV,allP,z6j,z6m,z6n,z6t,z6u,z6v,binV,eqV,unV,oOpt,reduceIte,reduceCtorEq,Nat.reduceEqDiff,Nat.reduceAdd,Nat.reduceMul,Nat.reduceLT,Nat.reduceSub,Int.reduceLT,Int.reduceLE,Int.reduceEq,Int.reduceNe,Int.reduceSub,Int.reduceAdd,Int.reduceMul,Int.reduceBEq,Int.reduceBNe,Int.reduceGT,Int.reduceGE,Nat.reduceGT,Int.reduceToNat,Int.reduceNeg,Nat.reduceLeDiff,Nat.reduceBEq,Nat.reduceBneDiff,Value.cells]
  refine wp_loop' (fun m t K => ∃ done rest : List GFile, (done ++ rest).Perm G ∧ t = tl [(3, .int .i64 ((done.map fun g => g.F.size).sum : Nat)), (10, ptrV b)] ∧ m = rest.length ∧ H.le K ∧ K b = some (.obj (.mapIter (some r) clk (done.map (·.born)).toArray clk))) G.length
    ⟨[], G, List.Perm.refl _, rfl, rfl, Heap.le_set (Heap.le_refl _) hb _, Heap.set_self _ _ _⟩ ?_
  rintro m t K ⟨done, rest, hp, rfl, rfl, leK, qb⟩
  have VK := V.le leK
  have maK : ∀ K', H.le K' → mapAt K' r = some ((G.map GFile.e).toArray, clk) := fun K' x => by simp [mapAt, (V.le x).qr]
  have sz := ok.2.1
  rw [V.files] at sz
  have sp := sum_perm hp
  simp -implicitDefEqProofs only [zB1,zB2,zB3,zB4,zB5,zB6,zB7,zB8,zB9,zB10,zB11,y00,y01,y02,y03,y04,y05,y06,y07,y08,y09,y0a,y0b,y0c,y0d,y0e,y0f,y0g,y0h,y0i,y0j,y0k,y0l,y0m,y0n,y0o,y0p,y0q,y0r,y0s,y0t,y0u,y0v,y0w,y0x,y0y,y0z,y10,y11,y12,y13,y14,y15,y16,y17,y18,y19,y1a,y1b,y1c,y1d,y1e,y1f,y1g,y1h,y1i,y1j,y1k,y1l,y1m,y1n,y1o,y1p,y1q,y1r,retO,retL,retV,z6i,allV,allP,z6j,z6m,z6n,z6t,z6u,z6v,binV,eqV,unV,oOpt,reduceIte,reduceCtorEq,Nat.reduceEqDiff,Nat.reduceAdd,Nat.reduceMul,Nat.reduceLT,Nat.reduceSub,Int.reduceLT,Int.reduceLE,Int.reduceEq,Int.reduceNe,Int.reduceSub,Int.reduceAdd,Int.reduceMul,Int.reduceBEq,Int.reduceBNe,Int.reduceGT,Int.reduceGE,Nat.reduceGT,Int.reduceToNat,Int.reduceNeg,Nat.reduceLeDiff,Nat.reduceBEq,Nat.reduceBneDiff,Value.cells]
  refine nextP_map qb (maK K leK) (born_lt V.lb) (Nat.le_refl _) ?_ ?_
  · intro h0
    have := left_none hp V.nb h0
    subst this
    simp -implicitDefEqProofs only [zB1,zB2,zB3,zB4,zB5,zB6,zB7,zB8,zB9,zB10,zB11,y00,y01,y02,y03,y04,y05,y06,y07,y08,y09,y0a,y0b,y0c,y0d,y0e,y0f,y0g,y0h,y0i,y0j,y0k,y0l,y0m,y0n,y0o,y0p,y0q,y0r,y0s,y0t,y0u,y0v,y0w,y0x,y0y,y0z,y10,y11,y12,y13,y14,y15,y16,y17,y18,y19,y1a,y1b,y1c,y1d,y1e,y1f,y1g,y1h,y1i,y1j,y1k,y1l,y1m,y1n,y1o,y1p,y1q,y1r,retO,retL,retV,z6i,allV,allP,z6j,z6m,z6n,z6t,z6u,z6v,binV,eqV,unV,oOpt,reduceIte,reduceCtorEq,Nat.reduceEqDiff,Nat.reduceAdd,Nat.reduceMul,Nat.reduceLT,Nat.reduceSub,Int.reduceLT,Int.reduceLE,Int.reduceEq,Int.reduceNe,Int.reduceSub,Int.reduceAdd,Int.reduceMul,Int.reduceBEq,Int.reduceBNe,Int.reduceGT,Int.reduceGE,Nat.reduceGT,Int.reduceToNat,Int.reduceNeg,Nat.reduceLeDiff,Nat.reduceBEq,Nat.reduceBneDiff,Value.cells]
    rw [V.files, ← sp]
    exact ⟨leK, by simp⟩
  · intro e he
    obtain ⟨A, g, B, rfl, rfl⟩ := left_mem hp V.nb he
    have hg : g ∈ G := hp.mem_iff.1 (by simp)
    have leK1 : H.le (K.set b (.obj (.mapIter (some r) clk ((done.map (·.born)).toArray.push g.e.born) clk))) := Heap.le_set leK hb _
    rw [seen_push] at leK1 ⊢
    have qb1 : (K.set b (.obj (.mapIter (some r) clk ((done ++ [g]).map (·.born)).toArray clk))) b = some (.obj (.mapIter (some r) clk ((done ++ [g]).map (·.born)).toArray clk)) := Heap.set_self _ _ _
    generalize (K.set b (.obj (.mapIter (some r) clk ((done ++ [g]).map (·.born)).toArray clk))) = K1 at leK1 qb1 ⊢
    have en : entryV K1 (.pointer (some ⟨b, 0, none⟩)) = some (.tuple #[g.e.key, g.e.val]) := by
      refine entryV_map (en := g.e) (c0 := clk) (m := r) (since := clk) (seen := (done.map (·.born)).toArray) ?_ (maK K1 leK1) (by simpa using List.mem_map_of_mem hg) (born_nd V.nb)
      rw [qb1, seen_push]
    simp -implicitDefEqProofs only [zB1,zB2,zB3,zB4,zB5,zB6,zB7,zB8,zB9,zB10,zB11,y00,y01,y02,y03,y04,y05,y06,y07,y08,y09,y0a,y0b,y0c,y0d,y0e,y0f,y0g,y0h,y0i,y0j,y0k,y0l,y0m,y0n,y0o,y0p,y0q,y0r,y0s,y0t,y0u,y0v,y0w,y0x,y0y,y0z,y10,y11,y12,y13,y14,y15,y16,y17,y18,y19,y1a,y1b,y1c,y1d,y1e,y1f,y1g,y1h,y1i,y1j,y1k,y1l,y1m,y1n,y1o,y1p,y1q,y1r,retO,retL,retV,z6i,allV,allP,z6j,z6m,z6n,z6t,z6u,z6v,binV,eqV,unV,oOpt,reduceIte,reduceCtorEq,Nat.reduceEqDiff,Nat.reduceAdd,Nat.reduceMul,Nat.reduceLT,Nat.reduceSub,Int.reduceLT,Int.reduceLE,Int.reduceEq,Int.reduceNe,Int.reduceSub,Int.reduceAdd,Int.reduceMul,Int.reduceBEq,Int.reduceBNe,Int.reduceGT,Int.reduceGE,Nat.reduceGT,Int.reduceToNat,Int.reduceNeg,Nat.reduceLeDiff,Nat.reduceBEq,Nat.reduceBneDiff,Value.cells, en]
    have okg : g.F.ok := (ok.1 (g.name, g.F) (by rw [V.files]; exact List.mem_map_of_mem hg)).1
    refine (file_size_c E ((V.R g hg).le leK1) okg).mono ?_
    rintro v K2 ⟨rfl, rfl⟩
    have e2 : ((done ++ [g]).map fun g => g.F.size).sum = (done.map fun g => g.F.size).sum + g.F.size := by simp
    have e3 : ((A ++ g :: B).map fun g => g.F.size).sum = (A.map fun g => g.F.size).sum + (g.F.size + (B.map fun g => g.F.size).sum) := by simp
    have w : IntKind.i64.wrap (((done.map fun g => g.F.size).sum : Nat) + (g.F.size : Nat)) = ((((done ++ [g]).map fun g => g.F.size).sum : Nat) : Int) := by
      rw [wrapI (by omega) (by omega), e2]; omega
    simp -implicitDefEqProofs only [zB1,zB2,zB3,zB4,zB5,zB6,zB7,zB8,zB9,zB10,zB11,y00,y01,y02,y03,y04,y05,y06,y07,y08,y09,y0a,y0b,y0c,y0d,y0e,y0f,y0g,y0h,y0i,y0j,y0k,y0l,y0m,y0n,y0o,y0p,y0q,y0r,y0s,y0t,y0u,y0v,y0w,y0x,y0y,y0z,y10,y11,y12,y13,y14,y15,y16,y17,y18,y19,y1a,y1b,y1c,y1d,y1e,y1f,y1g,y1h,y1i,y1j,y1k,y1l,y1m,y1n,y1o,y1p,y1q,y1r,retO,retL,retV,z6i,allV,allP,z6j,z6m,z6n,z6t,z6u,z6v,binV,eqV,unV,oOpt,reduceIte,reduceCtorEq,Nat.reduceEqDiff,Nat.reduceAdd,Nat.reduceMul,Nat.reduceLT,Nat.reduceSub,Int.reduceLT,Int.reduceLE,Int.reduceEq,Int.reduceNe,Int.reduceSub,Int.reduceAdd,Int.reduceMul,Int.reduceBEq,Int.reduceBNe,Int.reduceGT,Int.reduceGE,Nat.reduceGT,Int.reduceToNat,Int.reduceNeg,Nat.reduceLeDiff,Nat.reduceBEq,Nat.reduceBneDiff,Value.cells, w]
    exact ⟨_, by simp, done ++ [g], A ++ B, perm_step hp, rfl, rfl, leK1, qb1⟩
theorem disk_Power_c (E : EnvT tab) {κ : Pal} {H : Heap} {d : Nat} {D : DiskF} (R : DiskR κ H d D) : ACallN E.toEnv n_disk_Disk_Power [ptrV d] H fun v H' => H' = H ∧ v = .bool D.on := by
  obtain ⟨G, r, clk, V⟩ := R
  refine acall h_disk_Disk_Power ir_disk_Disk_Power rfl rfl (wpA_sound ?_)
  unfold ir_disk_Disk_Power
  have c2 : hcell H ⟨d, 2, none⟩ = some (.bool D.on) := by rw [hcell_at V.qd (by simp)]; rfl
  simp -implicitDefEqProofs only [zB1,zB2,zB3,zB4,zB5,zB6,zB7,zB8,zB9,zB10,zB11,y00,y01,y02,y03,y04,y05,y06,y07,y08,y09,y0a,y0b,y0c,y0d,y0e,y0f,y0g,y0h,y0i,y0j,y0k,y0l,y0m,y0n,y0o,y0p,y0q,y0r,y0s,y0t,y0u,y0v,y0w,y0x,y0y,y0z,y10,y11,y12,y13,y14,y15,y16,y17,y18,y19,y1a,y1b,y1c,y1d,y1e,y1f,y1g,y1h,y1i,y1j,y1k,y1l,y1m,y1n,y1o,y1p,y1q,y1r,retO,retL,retV,z6i,allV,allP,z6j,z6m,z6n,z6t,z6u,z6v,binV,eqV,unV,oOpt,reduceIte,reduceCtorEq,Nat.reduceEqDiff,Nat.reduceAdd,Nat.reduceMul,Nat.reduceLT,Nat.reduceSub,Int.reduceLT,Int.reduceLE,Int.reduceEq,Int.reduceNe,Int.reduceSub,Int.reduceAdd,Int.reduceMul,Int.reduceBEq,Int.reduceBNe,Int.reduceGT,Int.reduceGE,Nat.reduceGT,Int.reduceToNat,Int.reduceNeg,Nat.reduceLeDiff,Nat.reduceBEq,Nat.reduceBneDiff,Value.cells, c2]
theorem disk_Lives_c (E : EnvT tab) {κ : Pal} {H : Heap} {d : Nat} {D : DiskF} (R : DiskR κ H d D) : ACallN E.toEnv n_disk_Disk_Lives [ptrV d] H fun v H' => H' = H ∧ v = .int .i64 D.lives := by
  obtain ⟨G, r, clk, V⟩ := R
  refine acall h_disk_Disk_Lives ir_disk_Disk_Lives rfl rfl (wpA_sound ?_)
  unfold ir_disk_Disk_Lives
  have c2 : hcell H ⟨d, 3, none⟩ = some (.int .i64 D.lives) := by rw [hcell_at V.qd (by simp)]; rfl
  simp -implicitDefEqProofs only [zB1,zB2,zB3,zB4,zB5,zB6,zB7,zB8,zB9,zB10,zB11,y00,y01,y02,y03,y04,y05,y06,y07,y08,y09,y0a,y0b,y0c,y0d,y0e,y0f,y0g,y0h,y0i,y0j,y0k,y0l,y0m,y0n,y0o,y0p,y0q,y0r,y0s,y0t,y0u,y0v,y0w,y0x,y0y,y0z,y10,y11,y12,y13,y14,y15,y16,y17,y18,y19,y1a,y1b,y1c,y1d,y1e,y1f,y1g,y1h,y1i,y1j,y1k,y1l,y1m,y1n,y1o,y1p,y1q,y1r,retO,retL,retV,z6i,allV,allP,z6j,z6m,z6n,z6t,z6u,z6v,binV,eqV,unV,oOpt,reduceIte,reduceCtorEq,Nat.reduceEqDiff,Nat.reduceAdd,Nat.reduceMul,Nat.reduceLT,Nat.reduceSub,Int.reduceLT,Int.reduceLE,Int.reduceEq,Int.reduceNe,Int.reduceSub,Int.reduceAdd,Int.reduceMul,Int.reduceBEq,Int.reduceBNe,Int.reduceGT,Int.reduceGE,Nat.reduceGT,Int.reduceToNat,Int.reduceNeg,Nat.reduceLeDiff,Nat.reduceBEq,Nat.reduceBneDiff,Value.cells, c2]
theorem disk_Read_c (E : EnvT tab) {κ : Pal} {H : Heap} {d : Nat} {D : DiskF} (R : DiskR κ H d D) (ok : D.ok) (s : List UInt8) (hs : s.length ≤ 9000000000000000000) :
    ACallN E.toEnv n_disk_Disk_Read [ptrV d, strV s] H fun v H' => H.le H' ∧ ∃ b c, v = .tuple #[.slice b (readF D s).1.length c, .int .i64 ((readF D s).2 : Nat)] ∧ OwB H H' (.slice b (readF D s).1.length c) (readF D s).1 := by
  obtain ⟨G, r, clk, V⟩ := R
  refine acall h_disk_Disk_Read ir_disk_Disk_Read rfl rfl (wpA_sound ?_)
  unfold ir_disk_Disk_Read
  simp -implicitDefEqProofs only [zB1,zB2,zB3,zB4,zB5,zB6,zB7,zB8,zB9,zB10,zB11,y00,y01,y02,y03,y04,y05,y06,y07,y08,y09,y0a,y0b,y0c,y0d,y0e,y0f,y0g,y0h,y0i,y0j,y0k,y0l,y0m,y0n,y0o,y0p,y0q,y0r,y0s,y0t,y0u,y0v,y0w,y0x,y0y,y0z,y10,y11,y12,y13,y14,y15,y16,y17,y18,y19,y1a,y1b,y1c,y1d,y1e,y1f,y1g,y1h,y1i,y1j,y1k,y1l,y1m,y1n,y1o,y1p,y1q,y1r,retO,retL,retV,z6i,allV,allP,z6j,z6m,z6n,z6t,z6u,z6v,binV,eqV,unV,oOpt,reduceIte,reduceCtorEq,Nat.reduceEqDiff,Nat.reduceAdd,Nat.reduceMul,Nat.reduceLT,Nat.reduceSub,Int.reduceLT,Int.reduceLE,Int.reduceEq,Int.reduceNe,Int.reduceSub,Int.reduceAdd,Int.reduceMul,Int.reduceBEq,Int.reduceBNe,Int.reduceGT,Int.reduceGE,Nat.reduceGT,Int.reduceToNat,Int.reduceNeg,Nat.reduceLeDiff,Nat.reduceBEq,Nat.reduceBneDiff,Value.cells]
  refine (disk_find_c E V s hs).mono ?_
  rintro v H1 ⟨le1, h⟩
  unfold readF
  rw [V.files]
  rcases h with ⟨e, rfl⟩ | ⟨e, l, rfl⟩ | ⟨e, A, g, B, rfl, l, hg, rfl⟩
  · rw [if_neg e]
    have e' : ¬ ((askF D [s] : Nat) : Int) = 0 := by omega
    simp -implicitDefEqProofs only [zB1,zB2,zB3,zB4,zB5,zB6,zB7,zB8,zB9,zB10,zB11,y00,y01,y02,y03,y04,y05,y06,y07,y08,y09,y0a,y0b,y0c,y0d,y0e,y0f,y0g,y0h,y0i,y0j,y0k,y0l,y0m,y0n,y0o,y0p,y0q,y0r,y0s,y0t,y0u,y0v,y0w,y0x,y0y,y0z,y10,y11,y12,y13,y14,y15,y16,y17,y18,y19,y1a,y1b,y1c,y1d,y1e,y1f,y1g,y1h,y1i,y1j,y1k,y1l,y1m,y1n,y1o,y1p,y1q,y1r,retO,retL,retV,z6i,allV,allP,z6j,z6m,z6n,z6t,z6u,z6v,binV,eqV,unV,oOpt,reduceIte,reduceCtorEq,Nat.reduceEqDiff,Nat.reduceAdd,Nat.reduceMul,Nat.reduceLT,Nat.reduceSub,Int.reduceLT,Int.reduceLE,Int.reduceEq,Int.reduceNe,Int.reduceSub,Int.reduceAdd,Int.reduceMul,Int.reduceBEq,Int.reduceBNe,Int.reduceGT,Int.reduceGE,Nat.reduceGT,Int.reduceToNat,Int.reduceNeg,Nat.reduceLeDiff,Nat.reduceBEq,Nat.reduceBneDiff,Value.cells, e']
    exact ⟨le1, none, 0, rfl, Ow.nil _ _ _⟩
  · rw [if_pos e, look_lack l]
    simp -implicitDefEqProofs only [zB1,zB2,zB3,zB4,zB5,zB6,zB7,zB8,zB9,zB10,zB11,y00,y01,y02,y03,y04,y05,y06,y07,y08,y09,y0a,y0b,y0c,y0d,y0e,y0f,y0g,y0h,y0i,y0j,y0k,y0l,y0m,y0n,y0o,y0p,y0q,y0r,y0s,y0t,y0u,y0v,y0w,y0x,y0y,y0z,y10,y11,y12,y13,y14,y15,y16,y17,y18,y19,y1a,y1b,y1c,y1d,y1e,y1f,y1g,y1h,y1i,y1j,y1k,y1l,y1m,y1n,y1o,y1p,y1q,y1r,retO,retL,retV,z6i,allV,allP,z6j,z6m,z6n,z6t,z6u,z6v,binV,eqV,unV,oOpt,reduceIte,reduceCtorEq,Nat.reduceEqDiff,Nat.reduceAdd,Nat.reduceMul,Nat.reduceLT,Nat.reduceSub,Int.reduceLT,Int.reduceLE,Int.reduceEq,Int.reduceNe,Int.reduceSub,Int.reduceAdd,Int.reduceMul,Int.reduceBEq,Int.reduceBNe,Int.reduceGT,Int.reduceGE,Nat.reduceGT,Int.reduceToNat,Int.reduceNeg,Nat.reduceLeDiff,Nat.reduceBEq,Nat.reduceBneDiff,Value.cells]
    exact ⟨le1, none, 0, rfl, Ow.nil _ _ _⟩
  · rw [if_pos e, look_some l hg]
    simp -implicitDefEqProofs only [zB1,zB2,zB3,zB4,zB5,zB6,zB7,zB8,zB9,zB10,zB11,y00,y01,y02,y03,y04,y05,y06,y07,y08,y09,y0a,y0b,y0c,y0d,y0e,y0f,y0g,y0h,y0i,y0j,y0k,y0l,y0m,y0n,y0o,y0p,y0q,y0r,y0s,y0t,y0u,y0v,y0w,y0x,y0y,y0z,y10,y11,y12,y13,y14,y15,y16,y17,y18,y19,y1a,y1b,y1c,y1d,y1e,y1f,y1g,y1h,y1i,y1j,y1k,y1l,y1m,y1n,y1o,y1p,y1q,y1r,retO,retL,retV,z6i,allV,allP,z6j,z6m,z6n,z6t,z6u,z6v,binV,eqV,unV,oOpt,reduceIte,reduceCtorEq,Nat.reduceEqDiff,Nat.reduceAdd,Nat.reduceMul,Nat.reduceLT,Nat.reduceSub,Int.reduceLT,Int.reduceLE,Int.reduceEq,Int.reduceNe,Int.reduceSub,Int.reduceAdd,Int.reduceMul,Int.reduceBEq,Int.reduceBNe,Int.reduceGT,Int.reduceGE,Nat.reduceGT,Int.reduceToNat,Int.reduceNeg,Nat.reduceLeDiff,Nat.reduceBEq,Nat.reduceBneDiff,Value.cells]
    have hm : g ∈ A ++ g :: B := by simp
    have okg : g.F.ok := (ok.1 (g.name, g.F) (by rw [V.files]; exact List.mem_map_of_mem hm)).1
    refine (file_all_c E ((V.R g hm).le le1) okg).mono ?_
    rintro v H2 ⟨le2, o⟩
    obtain ⟨b, c, rfl⟩ := Sl.shape o.sl
    simp -implicitDefEqProofs only [zB1,zB2,zB3,zB4,zB5,zB6,zB7,zB8,zB9,zB10,zB11,y00,y01,y02,y03,y04,y05,y06,y07,y08,y09,y0a,y0b,y0c,y0d,y0e,y0f,y0g,y0h,y0i,y0j,y0k,y0l,y0m,y0n,y0o,y0p,y0q,y0r,y0s,y0t,y0u,y0v,y0w,y0x,y0y,y0z,y10,y11,y12,y13,y14,y15,y16,y17,y18,y19,y1a,y1b,y1c,y1d,y1e,y1f,y1g,y1h,y1i,y1j,y1k,y1l,y1m,y1n,y1o,y1p,y1q,y1r,retO,retL,retV,z6i,allV,allP,z6j,z6m,z6n,z6t,z6u,z6v,binV,eqV,unV,oOpt,reduceIte,reduceCtorEq,Nat.reduceEqDiff,Nat.reduceAdd,Nat.reduceMul,Nat.reduceLT,Nat.reduceSub,Int.reduceLT,Int.reduceLE,Int.reduceEq,Int.reduceNe,Int.reduceSub,Int.reduceAdd,Int.reduceMul,Int.reduceBEq,Int.reduceBNe,Int.reduceGT,Int.reduceGE,Nat.reduceGT,Int.reduceToNat,Int.reduceNeg,Nat.reduceLeDiff,Nat.reduceBEq,Nat.reduceBneDiff,Value.cells]
    exact ⟨Heap.le_trans le1 le2, b, c, rfl, o.since le1⟩
end Go.Bb
/- Contracts: disks that change. -/
namespace Go.Bb
set_option linter.unusedSimpArgs false
set_option linter.unusedVariables false
set_option maxRecDepth 20000
set_option maxHeartbeats 2000000

abbrev nF (G : List GFile) : Files := G.map fun g => (g.name, g.F)
theorem ext_d {κ κ' : Pal} {H H' : Heap} {d x : Nat} (h : Ext (· = (d, d, x)) κ H κ' H') : Ext (diskC d) κ H κ' H' := h.mono fun c e => by subst e; rfl
theorem ext_f {κ κ' : Pal} {H H' : Heap} {d f : Nat} (h : Ext (fileC d f) κ H κ' H') : Ext (diskC d) κ H κ' H' := h.mono fun c e => e.1
theorem DiskV.set_d {κ : Pal} {H : Heap} {d : Nat} {D : DiskF} {G : List GFile} {r clk : Nat} (V : DiskV κ H d D G r clk) (on : Bool) (lives : Int) :
    DiskV κ (H.set d (.own 0 [.int .i64 D.room, .map (some r), .bool on, .int .i64 lives] 4)) d { D with on := on, lives := lives } G r clk := by
  have e := Ext.set (H := H) V.kd (.own 0 [.int .i64 D.room, .map (some r), .bool on, .int .i64 lives] 4)
  exact ⟨V.kd, Heap.set_self _ _ _, V.kr, (e.blk V.kr (by simp) V.qr).1, V.files, V.nf, V.nn, V.nb, V.lb, fun g hg => (V.R g hg).ext e fun r hr q => by simp at q; omega⟩
theorem DiskV.set_r {κ : Pal} {H : Heap} {d : Nat} {D : DiskF} {G : List GFile} {r clk : Nat} (V : DiskV κ H d D G r clk) (G' : List GFile) (clk' : Nat) (nf : (G'.map (·.f)).Nodup) (nn : (G'.map (·.name)).Nodup) (nb : (G'.map (·.born)).Nodup) (lb : ∀ g ∈ G', g.born < clk') (R : ∀ g ∈ G', FileR κ H d g.f g.F) :
    DiskV κ (H.set r (.obj (.map (G'.map GFile.e).toArray clk'))) d { D with files := nF G' } G' r clk' := by
  have e := Ext.set (H := H) V.kr (.obj (.map (G'.map GFile.e).toArray clk'))
  exact ⟨V.kd, (e.blk V.kd (by simp) V.qd).1, V.kr, Heap.set_self _ _ _, rfl, nf, nn, nb, lb, fun g hg => (R g hg).ext e fun r hr q => by simp at q; omega⟩
theorem DiskV.file {κ κ' : Pal} {H H' : Heap} {d : Nat} {D : DiskF} {A B : List GFile} {g : GFile} {r clk : Nat} (V : DiskV κ H d D (A ++ g :: B) r clk) {F' : FileF} (e : Ext (fileC d g.f) κ H κ' H') (R : FileR κ' H' d g.f F') :
    DiskV κ' H' d { D with files := nF (A ++ { g with F := F' } :: B) } (A ++ { g with F := F' } :: B) r clk := by
  obtain ⟨g1, g2⟩ := e.blk V.kd (fun q => by have := q.2.2; simp at this) V.qd
  obtain ⟨g3, g4⟩ := e.blk V.kr (fun q => by have := q.2.2; simp at this) V.qr
  have nf := V.nf
  refine ⟨g2, g1, g4, ?_, rfl, ?_, ?_, ?_, ?_, ?_⟩
  · rw [g3]; simp [GFile.e]
  · simpa using V.nf
  · simpa using V.nn
  · simpa using V.nb
  · intro x hx
    rcases List.mem_append.1 hx with hx | hx
    · exact V.lb x (by simp [hx])
    · rcases List.mem_cons.1 hx with rfl | hx
      · exact V.lb g (by simp)
      · exact V.lb x (by simp [hx])
  · rw [List.map_append, List.map_cons, List.nodup_append] at nf
    obtain ⟨n1, n2, n3⟩ := nf
    rw [List.nodup_cons] at n2
    intro x hx
    rcases List.mem_append.1 hx with hx | hx
    · refine (V.R x (by simp [hx])).ext e fun r hr q => ?_
      exact n3 x.f (List.mem_map_of_mem hx) g.f (by simp) q.2.1
    · rcases List.mem_cons.1 hx with rfl | hx
      · exact R
      · refine (V.R x (by simp [hx])).ext e fun r hr q => ?_
        exact n2.1 (by rw [← show x.f = g.f from q.2.1]; exact List.mem_map_of_mem hx)
theorem nn_parts {A B : List GFile} {g : GFile} (nn : ((A ++ g :: B).map (·.name)).Nodup) : Lack A g.name ∧ Lack B g.name := by
  rw [List.map_append, List.map_cons, List.nodup_append] at nn
  obtain ⟨n1, n2, n3⟩ := nn
  rw [List.nodup_cons] at n2
  exact ⟨fun x hx => n3 x.name (List.mem_map_of_mem hx) g.name (by simp), fun x hx e => n2.1 (by rw [← e]; exact List.mem_map_of_mem hx)⟩
theorem turn_lack {A : List GFile} {s : List UInt8} (l : Lack A s) (F : FileF) : turnF' (nF A) s F = nF A := by
  unfold turnF'
  rw [List.map_map]
  apply List.map_congr_left
  intro g hg
  simp [l g hg]
theorem turn_eq {A B : List GFile} {g : GFile} {s : List UInt8} (hs : g.name = s) (nn : ((A ++ g :: B).map (·.name)).Nodup) (F : FileF) : turnF' (nF (A ++ g :: B)) s F = nF (A ++ { g with F := F } :: B) := by
  subst hs
  obtain ⟨l1, l2⟩ := nn_parts nn
  have h1 := turn_lack l1 F
  have h2 := turn_lack l2 F
  unfold nF turnF' at *
  rw [List.map_append, List.map_append, h1, List.map_cons, List.map_cons, h2, List.map_append, List.map_cons]
  simp
theorem del_lack {A : List GFile} {s : List UInt8} (l : Lack A s) : delFile (nF A) s = nF A := by
  unfold delFile
  rw [List.filter_eq_self]
  intro x hx
  obtain ⟨g, hg, rfl⟩ := List.mem_map.1 hx
  simpa using l g hg
theorem del_eq {A B : List GFile} {g : GFile} {s : List UInt8} (hs : g.name = s) (nn : ((A ++ g :: B).map (·.name)).Nodup) : delFile (nF (A ++ g :: B)) s = nF (A ++ B) := by
  subst hs
  obtain ⟨l1, l2⟩ := nn_parts nn
  have h1 := del_lack l1
  have h2 := del_lack l2
  unfold nF delFile at *
  rw [List.map_append, List.filter_append, h1, List.map_cons, List.filter_cons, h2, List.map_append]
  simp
theorem sub_nodup {α : Type} {A B : List GFile} {g : GFile} (p : GFile → α) (n : ((A ++ g :: B).map p).Nodup) : ((A ++ B).map p).Nodup := by
  refine List.Sublist.nodup (List.Sublist.map p ?_) n
  exact List.Sublist.append_left (List.sublist_cons_self g B) A
theorem sub_mem {A B : List GFile} {g x : GFile} (h : x ∈ A ++ B) : x ∈ A ++ g :: B := by
  rcases List.mem_append.1 h with h | h
  · exact List.mem_append.2 (.inl h)
  · exact List.mem_append.2 (.inr (List.mem_cons_of_mem _ h))
theorem sub_new {α : Type} {A B : List GFile} {g : GFile} (p : GFile → α) (n : ((A ++ g :: B).map p).Nodup) : ∀ x ∈ A ++ B, p x ≠ p g := by
  rw [List.map_append, List.map_cons, List.nodup_append] at n
  obtain ⟨n1, n2, n3⟩ := n
  rw [List.nodup_cons] at n2
  intro x hx e
  rcases List.mem_append.1 hx with hx | hx
  · exact n3 (p x) (List.mem_map_of_mem hx) (p g) (by simp) e
  · exact n2.1 (by rw [← e]; exact List.mem_map_of_mem hx)
/-- An entry less. -/
theorem mdel_eq {H : Heap} {A B : List GFile} {g : GFile} {r clk : Nat} {s : List UInt8} (q : H r = some (.obj (.map ((A ++ g :: B).map GFile.e).toArray clk))) (l : Lack A s) (hs : g.name = s) :
    mdelV H .str (.map (some r)) (strV s) = some (H.set r (.obj (.map ((A ++ B).map GFile.e).toArray clk))) := by
  have fv := findG_some (B := B) hs 0 l
  simp only [mdelV, q, show keyFit .str (strV s) = some () from rfl]
  rw [fv]
  simp only [Nat.zero_add]
  congr 4
  apply Array.ext'
  simp only [Array.eraseIdxIfInBounds, List.size_toArray, List.length_map, List.length_append, List.length_cons]
  rw [dif_pos (by omega)]
  simp [List.eraseIdx_append_of_length_le]
/-- An entry more. -/
theorem mupd_new {H : Heap} {G : List GFile} {r clk f : Nat} {s : List UInt8} (F : FileF) (q : H r = some (.obj (.map (G.map GFile.e).toArray clk))) (l : Lack G s) :
    mupdV H .str (.map (some r)) (strV s) (ptrV f) = some (H.set r (.obj (.map ((G ++ [(⟨s, f, clk, F⟩ : GFile)]).map GFile.e).toArray (clk + 1)))) := by
  have fv := findG_none (s := s) 0 l
  simp only [mupdV, q, show keyFit .str (strV s) = some () from rfl]
  rw [fv]
  simp [GFile.e]
/-- An entry that is turned. -/
theorem mupd_old {H : Heap} {A B : List GFile} {g : GFile} {r clk f : Nat} {s : List UInt8} (F : FileF) (q : H r = some (.obj (.map ((A ++ g :: B).map GFile.e).toArray clk))) (l : Lack A s) (hs : g.name = s) :
    mupdV H .str (.map (some r)) (strV s) (ptrV f) = some (H.set r (.obj (.map ((A ++ (⟨s, f, g.born, F⟩ : GFile) :: B).map GFile.e).toArray clk))) := by
  have fv := findG_some (B := B) hs 0 l
  simp only [mupdV, q, show keyFit .str (strV s) = some () from rfl]
  rw [fv]
  simp only [Nat.zero_add]
  congr 4
  apply Array.ext'
  simp only [List.modify_toArray]
  have : ∀ (A : List MapEntry) (x : MapEntry) (B : List MapEntry) (φ : MapEntry → MapEntry), (A ++ x :: B).modify A.length φ = A ++ φ x :: B := by
    intro A x B φ
    induction A with
    | nil => rfl
    | cons a A ih => simp only [List.cons_append, List.length_cons, List.modify_succ_cons, ih]
  have h2 := this (A.map GFile.e) g.e (B.map GFile.e) (fun e => { e with key := strV s, val := ptrV f })
  rw [List.length_map] at h2
  rw [List.map_append, List.map_cons, h2, List.map_append, List.map_cons]
  rfl
end Go.Bb
/- Contracts: a disk's calls that change it. -/
namespace Go.Bb
set_option linter.unusedSimpArgs false
set_option linter.unusedVariables false
set_option maxRecDepth 20000
set_option maxHeartbeats 2000000

theorem file_write {κ : Pal} {G : Heap} {d f : Nat} {F : FileF} {vs vw xv wv : Value} {ws : List Value} {l : List UInt8} {K : Value → Heap → Prop} (R : FileV κ G d f F vs vw ws) (x : Sl G 1 xv 1 [wv]) (ow : OwK κ (d, f, 3) G 1 wv l.length (l.map u8V)) (hb : F.writes.length ≤ 100000)
    (hk : ∀ v G', G' f = some (.own 0 [vs, vw] 2) → (∃ base c, v = .slice base (F.writes.length + 1) c) → (∃ κ', Ext (fileC d f) κ G κ' (G'.set f (.own 0 [vs, v] 2)) ∧ FileR κ' (G'.set f (.own 0 [vs, v] 2)) d f (writeF F l)) → K v G') : appendP 1 24 G vw xv K := by
  obtain ⟨k, q, s1, s2, hl, s3⟩ := R
  have ho : [wv].all one = true := by
    obtain ⟨b, c, rfl⟩ := Sl.shape ow.sl
    rfl
  refine appendP_ow (Heap.but_le G κ (d, f, 2)) (by omega) s2 x ho (by omega) (by omega) ?_
  intro v G' o le
  have e1 := Ext.grow le
  obtain ⟨q', k'⟩ := e1.blk k (by simp) q
  have e2 := Ext.set (H := G') k' (.own 0 [vs, v] 2)
  refine hk v G' q' (Sl.shape o.sl) ⟨κ.grow G (d, f, 2), (e1.mono fun c h => by subst h; exact ⟨rfl, rfl, (by omega : (2 : Nat) < 4)⟩).trans (e2.mono fun c h => by subst h; exact ⟨rfl, rfl, Nat.zero_lt_succ _⟩), vs, v, ws ++ [wv], k', Heap.set_self _ _ _, e2.own (by simp) (e1.own (by simp) s1), ?_, ?_, ?_⟩
  · refine e2.own (by simp) ?_
    have := OwK.grown o
    simpa [writeF] using this
  · simp [writeF, hl]
  · intro i h1 h2
    refine e2.own (by simp) (e1.own (by simp) ?_)
    by_cases hi : i < ws.length
    · have hi2 : i < F.writes.length := by omega
      have := s3 i hi hi2
      simp only [writeF, List.getElem_append_left hi, List.getElem_append_left hi2]
      exact this
    · have : i = ws.length := by
        simp at h1; omega
      subst this
      have e3 : (ws ++ [wv])[ws.length]'h1 = wv := by simp
      have e4 : (writeF F l).writes[ws.length]'h2 = l := by
        simp only [writeF]
        rw [List.getElem_append_right (by omega)]
        simp [hl]
      rw [e3, e4]; exact ow

theorem Sl.obj_set {H : Heap} {r : Nat} {o : Obj} {size n : Nat} {v : Value} {cells : List Value} (q : H r = some (.obj o)) (s : Sl H size v n cells) (X : Blk) : Sl (H.set r X) size v n cells := by
  rcases s with s | ⟨a, c, h1, h2, h3⟩
  · exact .inl s
  · refine .inr ⟨a, c, h1, h2, ?_⟩
    by_cases e : a.block = r
    · obtain ⟨ab, ao, asp⟩ := a
      simp only at e; subst e
      generalize n * size = m at h3 ⊢
      cases m with
      | zero => simpa [hcells] using h3
      | succ m => cases asp <;> simp [hcells, q] at h3
    · obtain ⟨ab, ao, asp⟩ := a
      rw [hcells_ne e]; exact h3
theorem append40 (E : EnvT tab) {κ : Pal} {H : Heap} {d : Nat} {D : DiskF} {A B : List GFile} {g : GFile} {r clk : Nat} (V : DiskV κ H d D (A ++ g :: B) r clk) {s : List UInt8} (l : Lack A s) (hs : g.name = s) {base : Option Addr} {c : Nat} {b : List UInt8} (sb : SlB H (.slice base b.length c) b) (hb : b.length ≤ 140737488355328) (hw : g.F.writes.length ≤ 100000)
    {P : Value → Heap → Prop} (hk : ∀ κ' H', Ext (diskC d) κ H κ' H' → DiskR κ' H' d { D with files := turnF' D.files s (writeF g.F b) } → P (.int .i64 0) H') :
    wpA E.toEnv 57 ir_disk_Disk_Append_40 (qRet [.tmp 6] P) (tl [(0, ptrV d), (1, .string ⟨s.toArray⟩), (2, .slice base b.length c)]) H := by
  have c1 : hcell H ⟨d, 1, none⟩ = some (.map (some r)) := by rw [hcell_at V.qd (by simp)]; rfl
  have ma : mapAt H r = some (((A ++ g :: B).map GFile.e).toArray, clk) := by simp [mapAt, V.qr]
  have kf : keyFit .str (.string ⟨s.toArray⟩) = some () := rfl
  have fv := findG_some (B := B) hs 0 l
  simp only [strV] at fv
  have hg : g ∈ A ++ g :: B := by simp
  obtain ⟨vs, vw, ws, R⟩ := V.R g hg
  unfold ir_disk_Disk_Append_40
  simp -implicitDefEqProofs only [zB1,zB2,zB3,zB4,zB5,zB6,zB7,zB8,zB9,zB10,zB11,y00,y01,y02,y03,y04,y05,y06,y07,y08,y09,y0a,y0b,y0c,y0d,y0e,y0f,y0g,y0h,y0i,y0j,y0k,y0l,y0m,y0n,y0o,y0p,y0q,y0r,y0s,y0t,y0u,y0v,y0w,y0x,y0y,y0z,y10,y11,y12,y13,y14,y15,y16,y17,y18,y19,y1a,y1b,y1c,y1d,y1e,y1f,y1g,y1h,y1i,y1j,y1k,y1l,y1m,y1n,y1o,y1p,y1q,y1r,retO,retL,retV,z6i,allV,allP,z6j,z6m,z6n,z6t,z6u,z6v,binV,eqV,unV,oOpt,reduceIte,reduceCtorEq,Nat.reduceEqDiff,Nat.reduceAdd,Nat.reduceMul,Nat.reduceLT,Nat.reduceSub,Int.reduceLT,Int.reduceLE,Int.reduceEq,Int.reduceNe,Int.reduceSub,Int.reduceAdd,Int.reduceMul,Int.reduceBEq,Int.reduceBNe,Int.reduceGT,Int.reduceGE,Nat.reduceGT,Int.reduceToNat,Int.reduceNeg,Nat.reduceLeDiff,Nat.reduceBEq,Nat.reduceBneDiff,Value.cells, c1, ma, kf, fv]
  refine (Clone_c E H b hb sb).mono ?_
  rintro wv H1 ⟨le1, o1⟩
  have e1 : Ext (fun _ => False) κ H (κ.grow H (d, g.f, 3)) H1 := Ext.tint le1
  have R1 := R.ext e1 (fun _ _ q => q)
  have ow1 : OwK (κ.grow H (d, g.f, 3)) (d, g.f, 3) H1 1 wv b.length (b.map u8V) := OwK.tinted o1
  obtain ⟨wb, wc, rfl⟩ := Sl.shape o1.sl
  have q0 : hcell H ⟨g.f, 1, none⟩ = some vw := by rw [hcell_at R.2.1 (by simp)]; rfl
  have q1 : hcell H1 ⟨g.f, 1, none⟩ = some vw := by rw [hcell_at R1.2.1 (by simp)]; rfl
  simp -implicitDefEqProofs only [zB1,zB2,zB3,zB4,zB5,zB6,zB7,zB8,zB9,zB10,zB11,y00,y01,y02,y03,y04,y05,y06,y07,y08,y09,y0a,y0b,y0c,y0d,y0e,y0f,y0g,y0h,y0i,y0j,y0k,y0l,y0m,y0n,y0o,y0p,y0q,y0r,y0s,y0t,y0u,y0v,y0w,y0x,y0y,y0z,y10,y11,y12,y13,y14,y15,y16,y17,y18,y19,y1a,y1b,y1c,y1d,y1e,y1f,y1g,y1h,y1i,y1j,y1k,y1l,y1m,y1n,y1o,y1p,y1q,y1r,retO,retL,retV,z6i,allV,allP,z6j,z6m,z6n,z6t,z6u,z6v,binV,eqV,unV,oOpt,reduceIte,reduceCtorEq,Nat.reduceEqDiff,Nat.reduceAdd,Nat.reduceMul,Nat.reduceLT,Nat.reduceSub,Int.reduceLT,Int.reduceLE,Int.reduceEq,Int.reduceNe,Int.reduceSub,Int.reduceAdd,Int.reduceMul,Int.reduceBEq,Int.reduceBNe,Int.reduceGT,Int.reduceGE,Nat.reduceGT,Int.reduceToNat,Int.reduceNeg,Nat.reduceLeDiff,Nat.reduceBEq,Nat.reduceBneDiff,Value.cells, q0, q1, implies_true, List.mem_cons, List.not_mem_nil, List.mem_singleton, or_false, forall_eq, forall_eq_or_imp, and_self, List.length_replicate, List.drop_replicate, List.replicate_zero]
  intro b53 hb53
  try simp -implicitDefEqProofs only [zB1,zB2,zB3,zB4,zB5,zB6,zB7,zB8,zB9,zB10,zB11,y00,y01,y02,y03,y04,y05,y06,y07,y08,y09,y0a,y0b,y0c,y0d,y0e,y0f,y0g,y0h,y0i,y0j,y0k,y0l,y0m,y0n,y0o,y0p,y0q,y0r,y0s,y0t,y0u,y0v,y0w,y0x,y0y,y0z,y10,y11,y12,y13,y14,y15,y16,y17,y18,y19,y1a,y1b,y1c,y1d,y1e,y1f,y1g,y1h,y1i,y1j,y1k,y1l,y1m,y1n,y1o,y1p,y1q,y1r,retO,retL,retV,z6i,allV,allP,z6j,z6m,z6n,z6t,z6u,z6v,binV,eqV,unV,oOpt,reduceIte,reduceCtorEq,Nat.reduceEqDiff,Nat.reduceAdd,Nat.reduceMul,Nat.reduceLT,Nat.reduceSub,Int.reduceLT,Int.reduceLE,Int.reduceEq,Int.reduceNe,Int.reduceSub,Int.reduceAdd,Int.reduceMul,Int.reduceBEq,Int.reduceBNe,Int.reduceGT,Int.reduceGE,Nat.reduceGT,Int.reduceToNat,Int.reduceNeg,Nat.reduceLeDiff,Nat.reduceBEq,Nat.reduceBneDiff,Value.cells]
  have le2 := Heap.le_set (Heap.le_refl H1) hb53 (.own 0 [.slice wb b.length wc] 1)
  have sx : Sl (H1.set b53 (.own 0 [.slice wb b.length wc] 1)) 1 (.slice (some ⟨b53, 0, none⟩) 1 1) 1 [.slice wb b.length wc] := Sl.lit rfl
  have R2 := R1.ext (Ext.le (cs := fun _ => False) le2) (fun _ _ q => q)
  refine file_write R2 sx (OwK.le le2 ow1) hw ?_
  rintro v G' qf ⟨vb, vc, rfl⟩ ⟨κ', e3, R3⟩
  have st : storeV G' 1 (.pointer (some ⟨g.f, 1, none⟩)) (.slice vb (g.F.writes.length + 1) vc) = some (G'.set g.f (.own 0 [vs, .slice vb (g.F.writes.length + 1) vc] 2)) := storeV_one_at qf rfl (by simp) (by simp)
  simp -implicitDefEqProofs only [zB1,zB2,zB3,zB4,zB5,zB6,zB7,zB8,zB9,zB10,zB11,y00,y01,y02,y03,y04,y05,y06,y07,y08,y09,y0a,y0b,y0c,y0d,y0e,y0f,y0g,y0h,y0i,y0j,y0k,y0l,y0m,y0n,y0o,y0p,y0q,y0r,y0s,y0t,y0u,y0v,y0w,y0x,y0y,y0z,y10,y11,y12,y13,y14,y15,y16,y17,y18,y19,y1a,y1b,y1c,y1d,y1e,y1f,y1g,y1h,y1i,y1j,y1k,y1l,y1m,y1n,y1o,y1p,y1q,y1r,retO,retL,retV,z6i,allV,allP,z6j,z6m,z6n,z6t,z6u,z6v,binV,eqV,unV,oOpt,reduceIte,reduceCtorEq,Nat.reduceEqDiff,Nat.reduceAdd,Nat.reduceMul,Nat.reduceLT,Nat.reduceSub,Int.reduceLT,Int.reduceLE,Int.reduceEq,Int.reduceNe,Int.reduceSub,Int.reduceAdd,Int.reduceMul,Int.reduceBEq,Int.reduceBNe,Int.reduceGT,Int.reduceGE,Nat.reduceGT,Int.reduceToNat,Int.reduceNeg,Nat.reduceLeDiff,Nat.reduceBEq,Nat.reduceBneDiff,Value.cells, st, implies_true]
  have e13 : Ext (fileC d g.f) κ H κ' (G'.set g.f (.own 0 [vs, .slice vb (g.F.writes.length + 1) vc] 2)) := ((e1.mono fun c h => h.elim).trans (Ext.le le2)).trans e3
  refine hk κ' _ (ext_f e13) ?_
  rw [V.files, turn_eq hs V.nn]
  exact ⟨_, _, _, V.file e13 R3⟩

theorem disk_Append_c (E : EnvT tab) {κ : Pal} {H : Heap} {d : Nat} {D : DiskF} (R : DiskR κ H d D) (ok : D.ok) (s : List UInt8) (hs : s.length ≤ 9000000000000000000) {vb : Value} (b : List UInt8) (hb : b.length ≤ 140737488355328) (sb : SlB H vb b) :
    ACallN E.toEnv n_disk_Disk_Append [ptrV d, strV s, vb] H fun v H' => v = .int .i64 ((appendF D s b).2 : Nat) ∧ ∃ κ', Ext (diskC d) κ H κ' H' ∧ DiskR κ' H' d (appendF D s b).1 := by
  obtain ⟨G, r, clk, V⟩ := R
  obtain ⟨base, c, rfl⟩ := Sl.shape sb
  refine acall h_disk_Disk_Append ir_disk_Disk_Append rfl rfl (wpA_sound ?_)
  unfold ir_disk_Disk_Append
  simp -implicitDefEqProofs only [zB1,zB2,zB3,zB4,zB5,zB6,zB7,zB8,zB9,zB10,zB11,y00,y01,y02,y03,y04,y05,y06,y07,y08,y09,y0a,y0b,y0c,y0d,y0e,y0f,y0g,y0h,y0i,y0j,y0k,y0l,y0m,y0n,y0o,y0p,y0q,y0r,y0s,y0t,y0u,y0v,y0w,y0x,y0y,y0z,y10,y11,y12,y13,y14,y15,y16,y17,y18,y19,y1a,y1b,y1c,y1d,y1e,y1f,y1g,y1h,y1i,y1j,y1k,y1l,y1m,y1n,y1o,y1p,y1q,y1r,retO,retL,retV,z6i,allV,allP,z6j,z6m,z6n,z6t,z6u,z6v,binV,eqV,unV,oOpt,reduceIte,reduceCtorEq,Nat.reduceEqDiff,Nat.reduceAdd,Nat.reduceMul,Nat.reduceLT,Nat.reduceSub,Int.reduceLT,Int.reduceLE,Int.reduceEq,Int.reduceNe,Int.reduceSub,Int.reduceAdd,Int.reduceMul,Int.reduceBEq,Int.reduceBNe,Int.reduceGT,Int.reduceGE,Nat.reduceGT,Int.reduceToNat,Int.reduceNeg,Nat.reduceLeDiff,Nat.reduceBEq,Nat.reduceBneDiff,Value.cells]
  intro b11 hb11
  try simp -implicitDefEqProofs only [zB1,zB2,zB3,zB4,zB5,zB6,zB7,zB8,zB9,zB10,zB11,y00,y01,y02,y03,y04,y05,y06,y07,y08,y09,y0a,y0b,y0c,y0d,y0e,y0f,y0g,y0h,y0i,y0j,y0k,y0l,y0m,y0n,y0o,y0p,y0q,y0r,y0s,y0t,y0u,y0v,y0w,y0x,y0y,y0z,y10,y11,y12,y13,y14,y15,y16,y17,y18,y19,y1a,y1b,y1c,y1d,y1e,y1f,y1g,y1h,y1i,y1j,y1k,y1l,y1m,y1n,y1o,y1p,y1q,y1r,retO,retL,retV,z6i,allV,allP,z6j,z6m,z6n,z6t,z6u,z6v,binV,eqV,unV,oOpt,reduceIte,reduceCtorEq,Nat.reduceEqDiff,Nat.reduceAdd,Nat.reduceMul,Nat.reduceLT,Nat.reduceSub,Int.reduceLT,Int.reduceLE,Int.reduceEq,Int.reduceNe,Int.reduceSub,Int.reduceAdd,Int.reduceMul,Int.reduceBEq,Int.reduceBNe,Int.reduceGT,Int.reduceGE,Nat.reduceGT,Int.reduceToNat,Int.reduceNeg,Nat.reduceLeDiff,Nat.reduceBEq,Nat.reduceBneDiff,Value.cells, strV]
  have le1 := Heap.le_set (Heap.le_refl H) hb11 (.own 0 [strV s] 1)
  have sn : Sl (H.set b11 (.own 0 [strV s] 1)) 1 (.slice (some ⟨b11, 0, none⟩) 1 1) 1 [strV s] := Sl.lit rfl
  refine (disk_ask_c E ⟨G, r, clk, V.le le1⟩ [s] (by simp) (by simpa using hs) sn).mono ?_
  rintro v H1 ⟨rfl, rfl⟩
  generalize (H.set b11 (.own 0 [strV s] 1)) = H1 at le1
  have V1 := V.le le1
  unfold appendF
  by_cases e : askF D [s] = 0
  · rw [if_pos e]
    have e2 : ((askF D [s] : Nat) : Int) = 0 := by omega
    simp -implicitDefEqProofs only [zB1,zB2,zB3,zB4,zB5,zB6,zB7,zB8,zB9,zB10,zB11,y00,y01,y02,y03,y04,y05,y06,y07,y08,y09,y0a,y0b,y0c,y0d,y0e,y0f,y0g,y0h,y0i,y0j,y0k,y0l,y0m,y0n,y0o,y0p,y0q,y0r,y0s,y0t,y0u,y0v,y0w,y0x,y0y,y0z,y10,y11,y12,y13,y14,y15,y16,y17,y18,y19,y1a,y1b,y1c,y1d,y1e,y1f,y1g,y1h,y1i,y1j,y1k,y1l,y1m,y1n,y1o,y1p,y1q,y1r,retO,retL,retV,z6i,allV,allP,z6j,z6m,z6n,z6t,z6u,z6v,binV,eqV,unV,oOpt,reduceIte,reduceCtorEq,Nat.reduceEqDiff,Nat.reduceAdd,Nat.reduceMul,Nat.reduceLT,Nat.reduceSub,Int.reduceLT,Int.reduceLE,Int.reduceEq,Int.reduceNe,Int.reduceSub,Int.reduceAdd,Int.reduceMul,Int.reduceBEq,Int.reduceBNe,Int.reduceGT,Int.reduceGE,Nat.reduceGT,Int.reduceToNat,Int.reduceNeg,Nat.reduceLeDiff,Nat.reduceBEq,Nat.reduceBneDiff,Value.cells, e2]
    refine (disk_size_c E ⟨G, r, clk, V1⟩ ok).mono ?_
    rintro v H2 ⟨le2, rfl⟩
    have V2 := V1.le le2
    have c01 : hcell H1 ⟨d, 0, none⟩ = some (.int .i64 D.room) := by rw [hcell_at V1.qd (by simp)]; rfl
    have c02 : hcell H2 ⟨d, 0, none⟩ = some (.int .i64 D.room) := by rw [hcell_at V2.qd (by simp)]; rfl
    have hz := ok.2.1
    have hr1 := ok.2.2.1
    have hr2 := ok.2.2.2
    have w : IntKind.i64.wrap (D.room - (sizeF D.files : Nat)) = D.room - (sizeF D.files : Nat) := wrapI (by omega) (by omega)
    have le02 := Heap.le_trans le1 le2
    by_cases full : D.room - (sizeF D.files : Nat) < (b.length : Nat)
    · rw [if_pos full]
      simp -implicitDefEqProofs only [zB1,zB2,zB3,zB4,zB5,zB6,zB7,zB8,zB9,zB10,zB11,y00,y01,y02,y03,y04,y05,y06,y07,y08,y09,y0a,y0b,y0c,y0d,y0e,y0f,y0g,y0h,y0i,y0j,y0k,y0l,y0m,y0n,y0o,y0p,y0q,y0r,y0s,y0t,y0u,y0v,y0w,y0x,y0y,y0z,y10,y11,y12,y13,y14,y15,y16,y17,y18,y19,y1a,y1b,y1c,y1d,y1e,y1f,y1g,y1h,y1i,y1j,y1k,y1l,y1m,y1n,y1o,y1p,y1q,y1r,retO,retL,retV,z6i,allV,allP,z6j,z6m,z6n,z6t,z6u,z6v,binV,eqV,unV,oOpt,reduceIte,reduceCtorEq,Nat.reduceEqDiff,Nat.reduceAdd,Nat.reduceMul,Nat.reduceLT,Nat.reduceSub,Int.reduceLT,Int.reduceLE,Int.reduceEq,Int.reduceNe,Int.reduceSub,Int.reduceAdd,Int.reduceMul,Int.reduceBEq,Int.reduceBNe,Int.reduceGT,Int.reduceGE,Nat.reduceGT,Int.reduceToNat,Int.reduceNeg,Nat.reduceLeDiff,Nat.reduceBEq,Nat.reduceBneDiff,Value.cells, c01, c02, w, full, implies_true, List.mem_cons, List.not_mem_nil, List.mem_singleton, or_false, forall_eq, forall_eq_or_imp, and_self]
      exact ⟨κ, Ext.le le02, ⟨G, r, clk, V2⟩⟩
    · rw [if_neg full]
      simp -implicitDefEqProofs only [zB1,zB2,zB3,zB4,zB5,zB6,zB7,zB8,zB9,zB10,zB11,y00,y01,y02,y03,y04,y05,y06,y07,y08,y09,y0a,y0b,y0c,y0d,y0e,y0f,y0g,y0h,y0i,y0j,y0k,y0l,y0m,y0n,y0o,y0p,y0q,y0r,y0s,y0t,y0u,y0v,y0w,y0x,y0y,y0z,y10,y11,y12,y13,y14,y15,y16,y17,y18,y19,y1a,y1b,y1c,y1d,y1e,y1f,y1g,y1h,y1i,y1j,y1k,y1l,y1m,y1n,y1o,y1p,y1q,y1r,retO,retL,retV,z6i,allV,allP,z6j,z6m,z6n,z6t,z6u,z6v,binV,eqV,unV,oOpt,reduceIte,reduceCtorEq,Nat.reduceEqDiff,Nat.reduceAdd,Nat.reduceMul,Nat.reduceLT,Nat.reduceSub,Int.reduceLT,Int.reduceLE,Int.reduceEq,Int.reduceNe,Int.reduceSub,Int.reduceAdd,Int.reduceMul,Int.reduceBEq,Int.reduceBNe,Int.reduceGT,Int.reduceGE,Nat.reduceGT,Int.reduceToNat,Int.reduceNeg,Nat.reduceLeDiff,Nat.reduceBEq,Nat.reduceBneDiff,Value.cells, c01, c02, w, full, implies_true, List.mem_cons, List.not_mem_nil, List.mem_singleton, or_false, forall_eq, forall_eq_or_imp, and_self]
      unfold ir_disk_Disk_Append_26
      have c12 : hcell H2 ⟨d, 1, none⟩ = some (.map (some r)) := by rw [hcell_at V2.qd (by simp)]; rfl
      have ma : mapAt H2 r = some ((G.map GFile.e).toArray, clk) := by simp [mapAt, V2.qr]
      have kf : keyFit .str (.string ⟨s.toArray⟩) = some () := rfl
      rcases lack_or G s with l | ⟨A, g, B, rfl, l, hg⟩
      · have fv := findG_none (s := s) 0 l
        simp only [strV] at fv
        have el : lookF D.files s = none := by rw [V.files]; exact look_lack l
        simp only [el]
        simp -implicitDefEqProofs only [zB1,zB2,zB3,zB4,zB5,zB6,zB7,zB8,zB9,zB10,zB11,y00,y01,y02,y03,y04,y05,y06,y07,y08,y09,y0a,y0b,y0c,y0d,y0e,y0f,y0g,y0h,y0i,y0j,y0k,y0l,y0m,y0n,y0o,y0p,y0q,y0r,y0s,y0t,y0u,y0v,y0w,y0x,y0y,y0z,y10,y11,y12,y13,y14,y15,y16,y17,y18,y19,y1a,y1b,y1c,y1d,y1e,y1f,y1g,y1h,y1i,y1j,y1k,y1l,y1m,y1n,y1o,y1p,y1q,y1r,retO,retL,retV,z6i,allV,allP,z6j,z6m,z6n,z6t,z6u,z6v,binV,eqV,unV,oOpt,reduceIte,reduceCtorEq,Nat.reduceEqDiff,Nat.reduceAdd,Nat.reduceMul,Nat.reduceLT,Nat.reduceSub,Int.reduceLT,Int.reduceLE,Int.reduceEq,Int.reduceNe,Int.reduceSub,Int.reduceAdd,Int.reduceMul,Int.reduceBEq,Int.reduceBNe,Int.reduceGT,Int.reduceGE,Nat.reduceGT,Int.reduceToNat,Int.reduceNeg,Nat.reduceLeDiff,Nat.reduceBEq,Nat.reduceBneDiff,Value.cells, c12, ma, kf, fv, Option.isNone_none, Option.isNone_some]
        intro f hf
        try simp -implicitDefEqProofs only [zB1,zB2,zB3,zB4,zB5,zB6,zB7,zB8,zB9,zB10,zB11,y00,y01,y02,y03,y04,y05,y06,y07,y08,y09,y0a,y0b,y0c,y0d,y0e,y0f,y0g,y0h,y0i,y0j,y0k,y0l,y0m,y0n,y0o,y0p,y0q,y0r,y0s,y0t,y0u,y0v,y0w,y0x,y0y,y0z,y10,y11,y12,y13,y14,y15,y16,y17,y18,y19,y1a,y1b,y1c,y1d,y1e,y1f,y1g,y1h,y1i,y1j,y1k,y1l,y1m,y1n,y1o,y1p,y1q,y1r,retO,retL,retV,z6i,allV,allP,z6j,z6m,z6n,z6t,z6u,z6v,binV,eqV,unV,oOpt,reduceIte,reduceCtorEq,Nat.reduceEqDiff,Nat.reduceAdd,Nat.reduceMul,Nat.reduceLT,Nat.reduceSub,Int.reduceLT,Int.reduceLE,Int.reduceEq,Int.reduceNe,Int.reduceSub,Int.reduceAdd,Int.reduceMul,Int.reduceBEq,Int.reduceBNe,Int.reduceGT,Int.reduceGE,Nat.reduceGT,Int.reduceToNat,Int.reduceNeg,Nat.reduceLeDiff,Nat.reduceBEq,Nat.reduceBneDiff,Value.cells]
        have e3 : Ext (fun _ => False) κ H2 (fun i => if i = f then some (d, f, 0) else κ i) (H2.set f (.own 0 [.slice none 0 0, .slice none 0 0] 2)) := Ext.new hf _ _
        have V3 := V2.ext e3 (fun _ _ q => q)
        have le3 := Heap.le_set (Heap.le_refl H2) hf (.own 0 [.slice none 0 0, .slice none 0 0] 2)
        have Rf : FileR (fun i => if i = f then some (d, f, 0) else κ i) (H2.set f (.own 0 [.slice none 0 0, .slice none 0 0] 2)) d f {} := ⟨_, _, [], by simp, Heap.set_self _ _ _, Ow.nil _ _ _, Ow.nil _ _ _, rfl, fun i h1 h2 => by simp at h1⟩
        have nf' : ∀ g ∈ G, g.f ≠ f := by
          intro g hg
          obtain ⟨_, _, _, _, q, _⟩ := V2.R g hg
          exact ne_of_none hf q
        generalize (H2.set f (.own 0 [.slice none 0 0, .slice none 0 0] 2)) = H3 at e3 V3 Rf le3 ⊢
        generalize (fun i => if i = f then some (d, f, 0) else κ i) = κ3 at e3 V3 Rf
        have c13 : hcell H3 ⟨d, 1, none⟩ = some (.map (some r)) := by rw [hcell_at V3.qd (by simp)]; rfl
        have mu := mupd_new (f := f) {} V3.qr l
        simp only [strV] at mu
        have V4 := V3.set_r (G ++ [⟨s, f, clk, {}⟩]) (clk + 1) (by simp only [List.map_append, List.map_cons, List.map_nil]; rw [List.nodup_append]; exact ⟨V.nf, by simp, fun a ha b hb => by
            obtain ⟨g, hg, rfl⟩ := List.mem_map.1 ha
            rw [List.mem_singleton] at hb; subst hb; exact nf' g hg⟩)
          (by simp only [List.map_append, List.map_cons, List.map_nil]; rw [List.nodup_append]; exact ⟨V.nn, by simp, fun a ha b hb => by
            obtain ⟨g, hg, rfl⟩ := List.mem_map.1 ha
            rw [List.mem_singleton] at hb; subst hb; exact l g hg⟩)
          (by simp only [List.map_append, List.map_cons, List.map_nil]; rw [List.nodup_append]; exact ⟨V.nb, by simp, fun a ha b hb => by
            obtain ⟨g, hg, rfl⟩ := List.mem_map.1 ha
            rw [List.mem_singleton] at hb; subst hb; exact Nat.ne_of_lt (V.lb g hg)⟩)
          (by
            intro x hx
            rcases List.mem_append.1 hx with hx | hx
            · exact Nat.lt_succ_of_lt (V.lb x hx)
            · rw [List.mem_singleton] at hx; subst hx; exact Nat.lt_succ_self _)
          (by
            intro x hx
            rcases List.mem_append.1 hx with hx | hx
            · exact V3.R x hx
            · rw [List.mem_singleton] at hx; subst hx; exact Rf)
        simp -implicitDefEqProofs only [zB1,zB2,zB3,zB4,zB5,zB6,zB7,zB8,zB9,zB10,zB11,y00,y01,y02,y03,y04,y05,y06,y07,y08,y09,y0a,y0b,y0c,y0d,y0e,y0f,y0g,y0h,y0i,y0j,y0k,y0l,y0m,y0n,y0o,y0p,y0q,y0r,y0s,y0t,y0u,y0v,y0w,y0x,y0y,y0z,y10,y11,y12,y13,y14,y15,y16,y17,y18,y19,y1a,y1b,y1c,y1d,y1e,y1f,y1g,y1h,y1i,y1j,y1k,y1l,y1m,y1n,y1o,y1p,y1q,y1r,retO,retL,retV,z6i,allV,allP,z6j,z6m,z6n,z6t,z6u,z6v,binV,eqV,unV,oOpt,reduceIte,reduceCtorEq,Nat.reduceEqDiff,Nat.reduceAdd,Nat.reduceMul,Nat.reduceLT,Nat.reduceSub,Int.reduceLT,Int.reduceLE,Int.reduceEq,Int.reduceNe,Int.reduceSub,Int.reduceAdd,Int.reduceMul,Int.reduceBEq,Int.reduceBNe,Int.reduceGT,Int.reduceGE,Nat.reduceGT,Int.reduceToNat,Int.reduceNeg,Nat.reduceLeDiff,Nat.reduceBEq,Nat.reduceBneDiff,Value.cells, c12, c13, mu]
        have e4 : Ext (diskC d) κ3 H3 κ3 (H3.set r (.obj (.map ((G ++ [(⟨s, f, clk, {}⟩ : GFile)]).map GFile.e).toArray (clk + 1)))) := ext_d (Ext.set V3.kr _)
        have e04 := (((Ext.le le02).trans (e3.mono fun c h => h.elim)).trans e4 : Ext (diskC d) κ H κ3 _)
        have sb4 : SlB (H3.set r (.obj (.map ((G ++ [(⟨s, f, clk, {}⟩ : GFile)]).map GFile.e).toArray (clk + 1)))) (.slice base b.length c) b := Sl.obj_set V3.qr ((sb.le le02).le le3) _
        generalize (H3.set r (.obj (.map ((G ++ [(⟨s, f, clk, {}⟩ : GFile)]).map GFile.e).toArray (clk + 1)))) = H4 at V4 e04 sb4 ⊢
        refine append40 E V4 l rfl sb4 hb (by simp) ?_
        intro κ' H' e5 R5
        refine ⟨rfl, κ', e04.trans e5, ?_⟩
        have : turnF' (nF (G ++ [⟨s, f, clk, {}⟩])) s (writeF {} b) = D.files ++ [(s, ⟨[], [b]⟩)] := by
          rw [turn_eq (A := G) (B := []) (g := ⟨s, f, clk, {}⟩) rfl V4.nn, V.files]
          simp [nF, writeF]
        simp only [this] at R5
        exact R5
      · have fv := findG_some (B := B) hg 0 l
        simp only [strV] at fv
        have el : lookF D.files s = some g.F := by rw [V.files]; exact look_some l hg
        simp only [el]
        simp -implicitDefEqProofs only [zB1,zB2,zB3,zB4,zB5,zB6,zB7,zB8,zB9,zB10,zB11,y00,y01,y02,y03,y04,y05,y06,y07,y08,y09,y0a,y0b,y0c,y0d,y0e,y0f,y0g,y0h,y0i,y0j,y0k,y0l,y0m,y0n,y0o,y0p,y0q,y0r,y0s,y0t,y0u,y0v,y0w,y0x,y0y,y0z,y10,y11,y12,y13,y14,y15,y16,y17,y18,y19,y1a,y1b,y1c,y1d,y1e,y1f,y1g,y1h,y1i,y1j,y1k,y1l,y1m,y1n,y1o,y1p,y1q,y1r,retO,retL,retV,z6i,allV,allP,z6j,z6m,z6n,z6t,z6u,z6v,binV,eqV,unV,oOpt,reduceIte,reduceCtorEq,Nat.reduceEqDiff,Nat.reduceAdd,Nat.reduceMul,Nat.reduceLT,Nat.reduceSub,Int.reduceLT,Int.reduceLE,Int.reduceEq,Int.reduceNe,Int.reduceSub,Int.reduceAdd,Int.reduceMul,Int.reduceBEq,Int.reduceBNe,Int.reduceGT,Int.reduceGE,Nat.reduceGT,Int.reduceToNat,Int.reduceNeg,Nat.reduceLeDiff,Nat.reduceBEq,Nat.reduceBneDiff,Value.cells, c12, ma, kf, fv, Option.isNone_none, Option.isNone_some]
        have hm : g ∈ A ++ g :: B := by simp
        have okg : g.F.ok := (ok.1 (g.name, g.F) (by rw [V.files]; exact List.mem_map_of_mem hm)).1
        refine append40 E V2 l hg (sb.le le02) hb okg.1 ?_
        intro κ' H' e5 R5
        exact ⟨rfl, κ', (Ext.le le02).trans e5, R5⟩
  · rw [if_neg e]
    have e2 : ¬ ((askF D [s] : Nat) : Int) = 0 := by omega
    simp -implicitDefEqProofs only [zB1,zB2,zB3,zB4,zB5,zB6,zB7,zB8,zB9,zB10,zB11,y00,y01,y02,y03,y04,y05,y06,y07,y08,y09,y0a,y0b,y0c,y0d,y0e,y0f,y0g,y0h,y0i,y0j,y0k,y0l,y0m,y0n,y0o,y0p,y0q,y0r,y0s,y0t,y0u,y0v,y0w,y0x,y0y,y0z,y10,y11,y12,y13,y14,y15,y16,y17,y18,y19,y1a,y1b,y1c,y1d,y1e,y1f,y1g,y1h,y1i,y1j,y1k,y1l,y1m,y1n,y1o,y1p,y1q,y1r,retO,retL,retV,z6i,allV,allP,z6j,z6m,z6n,z6t,z6u,z6v,binV,eqV,unV,oOpt,reduceIte,reduceCtorEq,Nat.reduceEqDiff,Nat.reduceAdd,Nat.reduceMul,Nat.reduceLT,Nat.reduceSub,Int.reduceLT,Int.reduceLE,Int.reduceEq,Int.reduceNe,Int.reduceSub,Int.reduceAdd,Int.reduceMul,Int.reduceBEq,Int.reduceBNe,Int.reduceGT,Int.reduceGE,Nat.reduceGT,Int.reduceToNat,Int.reduceNeg,Nat.reduceLeDiff,Nat.reduceBEq,Nat.reduceBneDiff,Value.cells, e2]
    exact ⟨κ, Ext.le le1, ⟨G, r, clk, V1⟩⟩
end Go.Bb
