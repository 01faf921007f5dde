/- My contracts: BbLepo4. -/
import Derived.Test.YtfekancobbplaaaBbG3
import Derived.Test.YtfekancobbplaaaBbM1
/- The law EpochKnown. -/
namespace Go.Bb
set_option linter.unusedSimpArgs false
set_option linter.unusedVariables false
set_option maxRecDepth 100000
set_option maxHeartbeats 2000000

theorem pkU0 : isRow (evF tab mixHk 1000 50 n_epoch_Unwrap [.slice none 0 0, .agg (List.replicate 32 (Value.int .u8 0)).toArray, .int .i64 0, .int .i64 8] VM.start) (List.replicate 32 (Value.int .u8 0)) 1 = true := by decide +kernel
theorem pkU1 : isRow (evF tab mixHk 1000 50 n_epoch_Unwrap [.slice none 0 0, .agg (List.replicate 32 (Value.int .u8 0)).toArray, .int .i64 0, .int .i64 0] VM.start) (List.replicate 32 (Value.int .u8 0)) 8 = true := by decide +kernel
theorem pkNo : isAgg (evF tab mixHk 1000 50 n_epoch_Nonce [.int .i64 1, .int .i64 258] VM.start) [.int .u8 0, .int .u8 0, .int .u8 0, .int .u8 1, .int .u8 0, .int .u8 0, .int .u8 0, .int .u8 0, .int .u8 0, .int .u8 0, .int .u8 1, .int .u8 2] = true := by decide +kernel
theorem epoch_Wrap_bad (E : EnvT tab) (H : Heap) (z : List Value) (hz : z.length = 32) (d : Int) : ACallN E.toEnv n_epoch_Wrap [.agg z.toArray, .agg z.toArray, .int .i64 (-1), .int .i64 d] H fun v h' => H.le h' ∧ v = .tuple #[.slice none 0 0, .int .i64 1] := by
  refine acall h_epoch_Wrap ir_epoch_Wrap rfl rfl (wpA_sound ?_)
  unfold ir_epoch_Wrap
  simp -implicitDefEqProofs only [zB1,zB2,zB3,zB4,zB5,zB6,zB7,zB8,zB9,zB10,zB11,y00,y01,y02,y03,y04,y05,y06,y07,y08,y09,y0a,y0b,y0c,y0d,y0e,y0f,y0g,y0h,y0i,y0j,y0k,y0l,y0m,y0n,y0o,y0p,y0q,y0r,y0s,y0t,y0u,y0v,y0w,y0x,y0y,y0z,y10,y11,y12,y13,y14,y15,y16,y17,y18,y19,y1a,y1b,y1c,y1d,y1e,y1f,y1g,y1h,y1i,y1j,y1k,y1l,y1m,y1n,y1o,y1p,y1q,y1r,retO,retL,retV,z6i,allV,allP,z6j,z6m,z6n,z6t,z6u,z6v,binV,eqV,unV,oOpt,reduceIte,reduceCtorEq,Nat.reduceEqDiff,Nat.reduceAdd,Nat.reduceMul,Nat.reduceLT,Nat.reduceSub,Int.reduceLT,Int.reduceLE,Int.reduceEq,Int.reduceNe,Int.reduceSub,Int.reduceAdd,Int.reduceMul,Int.reduceBEq,Int.reduceBNe,Int.reduceGT,Int.reduceGE,Nat.reduceGT,Int.reduceToNat,Int.reduceNeg,Nat.reduceLeDiff,Nat.reduceBEq,Nat.reduceBneDiff,Value.cells]
  intro b4 hb4
  try simp -implicitDefEqProofs only [zB1,zB2,zB3,zB4,zB5,zB6,zB7,zB8,zB9,zB10,zB11,y00,y01,y02,y03,y04,y05,y06,y07,y08,y09,y0a,y0b,y0c,y0d,y0e,y0f,y0g,y0h,y0i,y0j,y0k,y0l,y0m,y0n,y0o,y0p,y0q,y0r,y0s,y0t,y0u,y0v,y0w,y0x,y0y,y0z,y10,y11,y12,y13,y14,y15,y16,y17,y18,y19,y1a,y1b,y1c,y1d,y1e,y1f,y1g,y1h,y1i,y1j,y1k,y1l,y1m,y1n,y1o,y1p,y1q,y1r,retO,retL,retV,z6i,allV,allP,z6j,z6m,z6n,z6t,z6u,z6v,binV,eqV,unV,oOpt,reduceIte,reduceCtorEq,Nat.reduceEqDiff,Nat.reduceAdd,Nat.reduceMul,Nat.reduceLT,Nat.reduceSub,Int.reduceLT,Int.reduceLE,Int.reduceEq,Int.reduceNe,Int.reduceSub,Int.reduceAdd,Int.reduceMul,Int.reduceBEq,Int.reduceBNe,Int.reduceGT,Int.reduceGE,Nat.reduceGT,Int.reduceToNat,Int.reduceNeg,Nat.reduceLeDiff,Nat.reduceBEq,Nat.reduceBneDiff,Value.cells, hz]
  intro b5 hb5
  try simp -implicitDefEqProofs only [zB1,zB2,zB3,zB4,zB5,zB6,zB7,zB8,zB9,zB10,zB11,y00,y01,y02,y03,y04,y05,y06,y07,y08,y09,y0a,y0b,y0c,y0d,y0e,y0f,y0g,y0h,y0i,y0j,y0k,y0l,y0m,y0n,y0o,y0p,y0q,y0r,y0s,y0t,y0u,y0v,y0w,y0x,y0y,y0z,y10,y11,y12,y13,y14,y15,y16,y17,y18,y19,y1a,y1b,y1c,y1d,y1e,y1f,y1g,y1h,y1i,y1j,y1k,y1l,y1m,y1n,y1o,y1p,y1q,y1r,retO,retL,retV,z6i,allV,allP,z6j,z6m,z6n,z6t,z6u,z6v,binV,eqV,unV,oOpt,reduceIte,reduceCtorEq,Nat.reduceEqDiff,Nat.reduceAdd,Nat.reduceMul,Nat.reduceLT,Nat.reduceSub,Int.reduceLT,Int.reduceLE,Int.reduceEq,Int.reduceNe,Int.reduceSub,Int.reduceAdd,Int.reduceMul,Int.reduceBEq,Int.reduceBNe,Int.reduceGT,Int.reduceGE,Nat.reduceGT,Int.reduceToNat,Int.reduceNeg,Nat.reduceLeDiff,Nat.reduceBEq,Nat.reduceBneDiff,Value.cells, hz]
  refine (epoch_good_c E _ (-1)).mono ?_
  rintro v h3 ⟨rfl, rfl⟩
  have g : decide ((0 : Int) ≤ -1 ∧ (-1 : Int) ≤ 1099511627776) = false := by decide
  rw [g]
  simp -implicitDefEqProofs only [zB1,zB2,zB3,zB4,zB5,zB6,zB7,zB8,zB9,zB10,zB11,y00,y01,y02,y03,y04,y05,y06,y07,y08,y09,y0a,y0b,y0c,y0d,y0e,y0f,y0g,y0h,y0i,y0j,y0k,y0l,y0m,y0n,y0o,y0p,y0q,y0r,y0s,y0t,y0u,y0v,y0w,y0x,y0y,y0z,y10,y11,y12,y13,y14,y15,y16,y17,y18,y19,y1a,y1b,y1c,y1d,y1e,y1f,y1g,y1h,y1i,y1j,y1k,y1l,y1m,y1n,y1o,y1p,y1q,y1r,retO,retL,retV,z6i,allV,allP,z6j,z6m,z6n,z6t,z6u,z6v,binV,eqV,unV,oOpt,reduceIte,reduceCtorEq,Nat.reduceEqDiff,Nat.reduceAdd,Nat.reduceMul,Nat.reduceLT,Nat.reduceSub,Int.reduceLT,Int.reduceLE,Int.reduceEq,Int.reduceNe,Int.reduceSub,Int.reduceAdd,Int.reduceMul,Int.reduceBEq,Int.reduceBNe,Int.reduceGT,Int.reduceGE,Nat.reduceGT,Int.reduceToNat,Int.reduceNeg,Nat.reduceLeDiff,Nat.reduceBEq,Nat.reduceBneDiff,Value.cells]
  exact Heap.le_trans (Heap.le_set (Heap.le_refl _) hb4 _) (Heap.le_set (Heap.le_refl _) hb5 _)
theorem bandboxlaw22_EpochKnown_c (E : EnvT tab) (X : ColOk E) (W : World) : ACallN E.toEnv n_bandboxlaw22_EpochKnown [] (roHeap W) fun v _ => v = .bool true := by
  generalize roHeap W = h
  refine acall h_bandboxlaw22_EpochKnown ir_bandboxlaw22_EpochKnown rfl rfl (wpA_sound ?_)
  unfold ir_bandboxlaw22_EpochKnown
  simp -implicitDefEqProofs only [zB1,zB2,zB3,zB4,zB5,zB6,zB7,zB8,zB9,zB10,zB11,y00,y01,y02,y03,y04,y05,y06,y07,y08,y09,y0a,y0b,y0c,y0d,y0e,y0f,y0g,y0h,y0i,y0j,y0k,y0l,y0m,y0n,y0o,y0p,y0q,y0r,y0s,y0t,y0u,y0v,y0w,y0x,y0y,y0z,y10,y11,y12,y13,y14,y15,y16,y17,y18,y19,y1a,y1b,y1c,y1d,y1e,y1f,y1g,y1h,y1i,y1j,y1k,y1l,y1m,y1n,y1o,y1p,y1q,y1r,retO,retL,retV,z6i,allV,allP,z6j,z6m,z6n,z6t,z6u,z6v,binV,eqV,unV,oOpt,reduceIte,reduceCtorEq,Nat.reduceEqDiff,Nat.reduceAdd,Nat.reduceMul,Nat.reduceLT,Nat.reduceSub,Int.reduceLT,Int.reduceLE,Int.reduceEq,Int.reduceNe,Int.reduceSub,Int.reduceAdd,Int.reduceMul,Int.reduceBEq,Int.reduceBNe,Int.reduceGT,Int.reduceGE,Nat.reduceGT,Int.reduceToNat,Int.reduceNeg,Nat.reduceLeDiff,Nat.reduceBEq,Nat.reduceBneDiff,Value.cells]
  refine (law22_awake_k E h).mono ?_
  rintro v h1 ⟨rfl, -⟩
  simp -implicitDefEqProofs only [zB1,zB2,zB3,zB4,zB5,zB6,zB7,zB8,zB9,zB10,zB11,y00,y01,y02,y03,y04,y05,y06,y07,y08,y09,y0a,y0b,y0c,y0d,y0e,y0f,y0g,y0h,y0i,y0j,y0k,y0l,y0m,y0n,y0o,y0p,y0q,y0r,y0s,y0t,y0u,y0v,y0w,y0x,y0y,y0z,y10,y11,y12,y13,y14,y15,y16,y17,y18,y19,y1a,y1b,y1c,y1d,y1e,y1f,y1g,y1h,y1i,y1j,y1k,y1l,y1m,y1n,y1o,y1p,y1q,y1r,retO,retL,retV,z6i,allV,allP,z6j,z6m,z6n,z6t,z6u,z6v,binV,eqV,unV,oOpt,reduceIte,reduceCtorEq,Nat.reduceEqDiff,Nat.reduceAdd,Nat.reduceMul,Nat.reduceLT,Nat.reduceSub,Int.reduceLT,Int.reduceLE,Int.reduceEq,Int.reduceNe,Int.reduceSub,Int.reduceAdd,Int.reduceMul,Int.reduceBEq,Int.reduceBNe,Int.reduceGT,Int.reduceGE,Nat.reduceGT,Int.reduceToNat,Int.reduceNeg,Nat.reduceLeDiff,Nat.reduceBEq,Nat.reduceBneDiff,Value.cells]
  refine (epoch_New_c E h1).mono ?_
  rintro pv h2 ⟨le2, R2⟩
  obtain ⟨p, hp⟩ : ∃ p, pv = .pointer (some ⟨p, 0, none⟩) := by
    obtain ⟨b, r, es, cc, e, _⟩ := R2
    exact ⟨b, e⟩
  subst hp
  simp -implicitDefEqProofs only [zB1,zB2,zB3,zB4,zB5,zB6,zB7,zB8,zB9,zB10,zB11,y00,y01,y02,y03,y04,y05,y06,y07,y08,y09,y0a,y0b,y0c,y0d,y0e,y0f,y0g,y0h,y0i,y0j,y0k,y0l,y0m,y0n,y0o,y0p,y0q,y0r,y0s,y0t,y0u,y0v,y0w,y0x,y0y,y0z,y10,y11,y12,y13,y14,y15,y16,y17,y18,y19,y1a,y1b,y1c,y1d,y1e,y1f,y1g,y1h,y1i,y1j,y1k,y1l,y1m,y1n,y1o,y1p,y1q,y1r,retO,retL,retV,z6i,allV,allP,z6j,z6m,z6n,z6t,z6u,z6v,binV,eqV,unV,oOpt,reduceIte,reduceCtorEq,Nat.reduceEqDiff,Nat.reduceAdd,Nat.reduceMul,Nat.reduceLT,Nat.reduceSub,Int.reduceLT,Int.reduceLE,Int.reduceEq,Int.reduceNe,Int.reduceSub,Int.reduceAdd,Int.reduceMul,Int.reduceBEq,Int.reduceBNe,Int.reduceGT,Int.reduceGE,Nat.reduceGT,Int.reduceToNat,Int.reduceNeg,Nat.reduceLeDiff,Nat.reduceBEq,Nat.reduceBneDiff,Value.cells]
  unfold ir_bandboxlaw22_EpochKnown_23
  simp -implicitDefEqProofs only [zB1,zB2,zB3,zB4,zB5,zB6,zB7,zB8,zB9,zB10,zB11,y00,y01,y02,y03,y04,y05,y06,y07,y08,y09,y0a,y0b,y0c,y0d,y0e,y0f,y0g,y0h,y0i,y0j,y0k,y0l,y0m,y0n,y0o,y0p,y0q,y0r,y0s,y0t,y0u,y0v,y0w,y0x,y0y,y0z,y10,y11,y12,y13,y14,y15,y16,y17,y18,y19,y1a,y1b,y1c,y1d,y1e,y1f,y1g,y1h,y1i,y1j,y1k,y1l,y1m,y1n,y1o,y1p,y1q,y1r,retO,retL,retV,z6i,allV,allP,z6j,z6m,z6n,z6t,z6u,z6v,binV,eqV,unV,oOpt,reduceIte,reduceCtorEq,Nat.reduceEqDiff,Nat.reduceAdd,Nat.reduceMul,Nat.reduceLT,Nat.reduceSub,Int.reduceLT,Int.reduceLE,Int.reduceEq,Int.reduceNe,Int.reduceSub,Int.reduceAdd,Int.reduceMul,Int.reduceBEq,Int.reduceBNe,Int.reduceGT,Int.reduceGE,Nat.reduceGT,Int.reduceToNat,Int.reduceNeg,Nat.reduceLeDiff,Nat.reduceBEq,Nat.reduceBneDiff,Value.cells]
  refine (epoch_Last_c E X R2 (by simp) (by simp)).mono ?_
  rintro r h3 ⟨le3, m3, rfl, z3, -⟩
  have R3 := R2.le le3
  have le13 := Heap.le_trans le2 le3
  have r1 : Value.int .u8 1 :: List.drop 1 (List.replicate 32 (Value.int .u8 0)) = (word1 1).map u8V := rfl
  have r2 : Value.int .u8 2 :: List.drop 1 (List.replicate 32 (Value.int .u8 0)) = (word1 2).map u8V := rfl
  have r3 : Value.int .u8 3 :: List.drop 1 (List.replicate 32 (Value.int .u8 0)) = (word1 3).map u8V := rfl
  have p1 : putF [] 5 (word1 1) = ([(5, word1 1)], 0) := by decide
  have p2 : putF [(5, word1 1)] 5 (word1 1) = ([(5, word1 1)], 0) := by decide
  have p3 : putF [(5, word1 1)] 5 (word1 2) = ([(5, word1 1)], 5) := by decide
  have p4 : putF [(5, word1 1)] 2 (word1 3) = ([(5, word1 1), (2, word1 3)], 0) := by decide
  have p5 : ∀ L, putF L (-1) (List.replicate 32 0) = (L, 1) := fun L => by unfold putF; rw [if_neg (by omega)]
  have p6 : ∀ L, putF L 1099511627777 (List.replicate 32 0) = (L, 1) := fun L => by unfold putF; rw [if_neg (by omega)]
  simp -implicitDefEqProofs only [zB1,zB2,zB3,zB4,zB5,zB6,zB7,zB8,zB9,zB10,zB11,y00,y01,y02,y03,y04,y05,y06,y07,y08,y09,y0a,y0b,y0c,y0d,y0e,y0f,y0g,y0h,y0i,y0j,y0k,y0l,y0m,y0n,y0o,y0p,y0q,y0r,y0s,y0t,y0u,y0v,y0w,y0x,y0y,y0z,y10,y11,y12,y13,y14,y15,y16,y17,y18,y19,y1a,y1b,y1c,y1d,y1e,y1f,y1g,y1h,y1i,y1j,y1k,y1l,y1m,y1n,y1o,y1p,y1q,y1r,retO,retL,retV,z6i,allV,allP,z6j,z6m,z6n,z6t,z6u,z6v,binV,eqV,unV,oOpt,reduceIte,reduceCtorEq,Nat.reduceEqDiff,Nat.reduceAdd,Nat.reduceMul,Nat.reduceLT,Nat.reduceSub,Int.reduceLT,Int.reduceLE,Int.reduceEq,Int.reduceNe,Int.reduceSub,Int.reduceAdd,Int.reduceMul,Int.reduceBEq,Int.reduceBNe,Int.reduceGT,Int.reduceGE,Nat.reduceGT,Int.reduceToNat,Int.reduceNeg,Nat.reduceLeDiff,Nat.reduceBEq,Nat.reduceBneDiff,Value.cells, List.length_replicate, r1]
  refine (epoch_Put_c E le13 R3 (by simp) 5 (word1 1) rfl).mono ?_
  rintro r h4 ⟨le4, rfl, R4⟩
  rw [p1] at R4 ⊢
  simp -implicitDefEqProofs only [zB1,zB2,zB3,zB4,zB5,zB6,zB7,zB8,zB9,zB10,zB11,y00,y01,y02,y03,y04,y05,y06,y07,y08,y09,y0a,y0b,y0c,y0d,y0e,y0f,y0g,y0h,y0i,y0j,y0k,y0l,y0m,y0n,y0o,y0p,y0q,y0r,y0s,y0t,y0u,y0v,y0w,y0x,y0y,y0z,y10,y11,y12,y13,y14,y15,y16,y17,y18,y19,y1a,y1b,y1c,y1d,y1e,y1f,y1g,y1h,y1i,y1j,y1k,y1l,y1m,y1n,y1o,y1p,y1q,y1r,retO,retL,retV,z6i,allV,allP,z6j,z6m,z6n,z6t,z6u,z6v,binV,eqV,unV,oOpt,reduceIte,reduceCtorEq,Nat.reduceEqDiff,Nat.reduceAdd,Nat.reduceMul,Nat.reduceLT,Nat.reduceSub,Int.reduceLT,Int.reduceLE,Int.reduceEq,Int.reduceNe,Int.reduceSub,Int.reduceAdd,Int.reduceMul,Int.reduceBEq,Int.reduceBNe,Int.reduceGT,Int.reduceGE,Nat.reduceGT,Int.reduceToNat,Int.reduceNeg,Nat.reduceLeDiff,Nat.reduceBEq,Nat.reduceBneDiff,Value.cells, List.length_replicate, r1]
  refine (epoch_Put_c E le4 R4 (by simp [word1_len]) 5 (word1 1) rfl).mono ?_
  rintro r h5 ⟨le5, rfl, R5⟩
  rw [p2] at R5 ⊢
  simp -implicitDefEqProofs only [zB1,zB2,zB3,zB4,zB5,zB6,zB7,zB8,zB9,zB10,zB11,y00,y01,y02,y03,y04,y05,y06,y07,y08,y09,y0a,y0b,y0c,y0d,y0e,y0f,y0g,y0h,y0i,y0j,y0k,y0l,y0m,y0n,y0o,y0p,y0q,y0r,y0s,y0t,y0u,y0v,y0w,y0x,y0y,y0z,y10,y11,y12,y13,y14,y15,y16,y17,y18,y19,y1a,y1b,y1c,y1d,y1e,y1f,y1g,y1h,y1i,y1j,y1k,y1l,y1m,y1n,y1o,y1p,y1q,y1r,retO,retL,retV,z6i,allV,allP,z6j,z6m,z6n,z6t,z6u,z6v,binV,eqV,unV,oOpt,reduceIte,reduceCtorEq,Nat.reduceEqDiff,Nat.reduceAdd,Nat.reduceMul,Nat.reduceLT,Nat.reduceSub,Int.reduceLT,Int.reduceLE,Int.reduceEq,Int.reduceNe,Int.reduceSub,Int.reduceAdd,Int.reduceMul,Int.reduceBEq,Int.reduceBNe,Int.reduceGT,Int.reduceGE,Nat.reduceGT,Int.reduceToNat,Int.reduceNeg,Nat.reduceLeDiff,Nat.reduceBEq,Nat.reduceBneDiff,Value.cells, List.length_replicate, r2]
  refine (epoch_Put_c E le5 R5 (by simp [word1_len]) 5 (word1 2) rfl).mono ?_
  rintro r h6 ⟨le6, rfl, R6⟩
  rw [p3] at R6 ⊢
  simp -implicitDefEqProofs only [zB1,zB2,zB3,zB4,zB5,zB6,zB7,zB8,zB9,zB10,zB11,y00,y01,y02,y03,y04,y05,y06,y07,y08,y09,y0a,y0b,y0c,y0d,y0e,y0f,y0g,y0h,y0i,y0j,y0k,y0l,y0m,y0n,y0o,y0p,y0q,y0r,y0s,y0t,y0u,y0v,y0w,y0x,y0y,y0z,y10,y11,y12,y13,y14,y15,y16,y17,y18,y19,y1a,y1b,y1c,y1d,y1e,y1f,y1g,y1h,y1i,y1j,y1k,y1l,y1m,y1n,y1o,y1p,y1q,y1r,retO,retL,retV,z6i,allV,allP,z6j,z6m,z6n,z6t,z6u,z6v,binV,eqV,unV,oOpt,reduceIte,reduceCtorEq,Nat.reduceEqDiff,Nat.reduceAdd,Nat.reduceMul,Nat.reduceLT,Nat.reduceSub,Int.reduceLT,Int.reduceLE,Int.reduceEq,Int.reduceNe,Int.reduceSub,Int.reduceAdd,Int.reduceMul,Int.reduceBEq,Int.reduceBNe,Int.reduceGT,Int.reduceGE,Nat.reduceGT,Int.reduceToNat,Int.reduceNeg,Nat.reduceLeDiff,Nat.reduceBEq,Nat.reduceBneDiff,Value.cells, List.length_replicate, r3]
  refine (epoch_Put_c E le6 R6 (by simp [word1_len]) 2 (word1 3) rfl).mono ?_
  rintro r h7 ⟨le7, rfl, R7⟩
  rw [p4] at R7 ⊢
  simp -implicitDefEqProofs only [zB1,zB2,zB3,zB4,zB5,zB6,zB7,zB8,zB9,zB10,zB11,y00,y01,y02,y03,y04,y05,y06,y07,y08,y09,y0a,y0b,y0c,y0d,y0e,y0f,y0g,y0h,y0i,y0j,y0k,y0l,y0m,y0n,y0o,y0p,y0q,y0r,y0s,y0t,y0u,y0v,y0w,y0x,y0y,y0z,y10,y11,y12,y13,y14,y15,y16,y17,y18,y19,y1a,y1b,y1c,y1d,y1e,y1f,y1g,y1h,y1i,y1j,y1k,y1l,y1m,y1n,y1o,y1p,y1q,y1r,retO,retL,retV,z6i,allV,allP,z6j,z6m,z6n,z6t,z6u,z6v,binV,eqV,unV,oOpt,reduceIte,reduceCtorEq,Nat.reduceEqDiff,Nat.reduceAdd,Nat.reduceMul,Nat.reduceLT,Nat.reduceSub,Int.reduceLT,Int.reduceLE,Int.reduceEq,Int.reduceNe,Int.reduceSub,Int.reduceAdd,Int.reduceMul,Int.reduceBEq,Int.reduceBNe,Int.reduceGT,Int.reduceGE,Nat.reduceGT,Int.reduceToNat,Int.reduceNeg,Nat.reduceLeDiff,Nat.reduceBEq,Nat.reduceBneDiff,Value.cells]
  unfold ir_bandboxlaw22_EpochKnown_40
  simp -implicitDefEqProofs only [zB1,zB2,zB3,zB4,zB5,zB6,zB7,zB8,zB9,zB10,zB11,y00,y01,y02,y03,y04,y05,y06,y07,y08,y09,y0a,y0b,y0c,y0d,y0e,y0f,y0g,y0h,y0i,y0j,y0k,y0l,y0m,y0n,y0o,y0p,y0q,y0r,y0s,y0t,y0u,y0v,y0w,y0x,y0y,y0z,y10,y11,y12,y13,y14,y15,y16,y17,y18,y19,y1a,y1b,y1c,y1d,y1e,y1f,y1g,y1h,y1i,y1j,y1k,y1l,y1m,y1n,y1o,y1p,y1q,y1r,retO,retL,retV,z6i,allV,allP,z6j,z6m,z6n,z6t,z6u,z6v,binV,eqV,unV,oOpt,reduceIte,reduceCtorEq,Nat.reduceEqDiff,Nat.reduceAdd,Nat.reduceMul,Nat.reduceLT,Nat.reduceSub,Int.reduceLT,Int.reduceLE,Int.reduceEq,Int.reduceNe,Int.reduceSub,Int.reduceAdd,Int.reduceMul,Int.reduceBEq,Int.reduceBNe,Int.reduceGT,Int.reduceGE,Nat.reduceGT,Int.reduceToNat,Int.reduceNeg,Nat.reduceLeDiff,Nat.reduceBEq,Nat.reduceBneDiff,Value.cells]
  refine (epoch_Last_c E X R7 (by simp) (by simp)).mono ?_
  rintro r h8 ⟨le8, m8, rfl, -, l8⟩
  have R8 := R7.le le8
  have hm8 : m8 = 5 := last_one (l8 (by simp)) ⟨⟨(5, word1 1), by simp, rfl⟩, by simp⟩
  subst hm8
  simp -implicitDefEqProofs only [zB1,zB2,zB3,zB4,zB5,zB6,zB7,zB8,zB9,zB10,zB11,y00,y01,y02,y03,y04,y05,y06,y07,y08,y09,y0a,y0b,y0c,y0d,y0e,y0f,y0g,y0h,y0i,y0j,y0k,y0l,y0m,y0n,y0o,y0p,y0q,y0r,y0s,y0t,y0u,y0v,y0w,y0x,y0y,y0z,y10,y11,y12,y13,y14,y15,y16,y17,y18,y19,y1a,y1b,y1c,y1d,y1e,y1f,y1g,y1h,y1i,y1j,y1k,y1l,y1m,y1n,y1o,y1p,y1q,y1r,retO,retL,retV,z6i,allV,allP,z6j,z6m,z6n,z6t,z6u,z6v,binV,eqV,unV,oOpt,reduceIte,reduceCtorEq,Nat.reduceEqDiff,Nat.reduceAdd,Nat.reduceMul,Nat.reduceLT,Nat.reduceSub,Int.reduceLT,Int.reduceLE,Int.reduceEq,Int.reduceNe,Int.reduceSub,Int.reduceAdd,Int.reduceMul,Int.reduceBEq,Int.reduceBNe,Int.reduceGT,Int.reduceGE,Nat.reduceGT,Int.reduceToNat,Int.reduceNeg,Nat.reduceLeDiff,Nat.reduceBEq,Nat.reduceBneDiff,Value.cells]
  refine (epoch_Get_c E (Heap.le_trans le7 le8) R8 (by simp [word1_len]) 3).mono ?_
  rintro r h9 ⟨le9, rfl⟩
  have g3 : getK [(5, word1 1), (2, word1 3)] 3 = none := by decide
  rw [g3]
  have R9 := R8.le le9
  have zr : (List.replicate 32 (0 : UInt8)).map u8V = List.replicate 32 (Value.int .u8 0) := by rw [List.map_replicate]; rfl
  simp -implicitDefEqProofs only [zB1,zB2,zB3,zB4,zB5,zB6,zB7,zB8,zB9,zB10,zB11,y00,y01,y02,y03,y04,y05,y06,y07,y08,y09,y0a,y0b,y0c,y0d,y0e,y0f,y0g,y0h,y0i,y0j,y0k,y0l,y0m,y0n,y0o,y0p,y0q,y0r,y0s,y0t,y0u,y0v,y0w,y0x,y0y,y0z,y10,y11,y12,y13,y14,y15,y16,y17,y18,y19,y1a,y1b,y1c,y1d,y1e,y1f,y1g,y1h,y1i,y1j,y1k,y1l,y1m,y1n,y1o,y1p,y1q,y1r,retO,retL,retV,z6i,allV,allP,z6j,z6m,z6n,z6t,z6u,z6v,binV,eqV,unV,oOpt,reduceIte,reduceCtorEq,Nat.reduceEqDiff,Nat.reduceAdd,Nat.reduceMul,Nat.reduceLT,Nat.reduceSub,Int.reduceLT,Int.reduceLE,Int.reduceEq,Int.reduceNe,Int.reduceSub,Int.reduceAdd,Int.reduceMul,Int.reduceBEq,Int.reduceBNe,Int.reduceGT,Int.reduceGE,Nat.reduceGT,Int.reduceToNat,Int.reduceNeg,Nat.reduceLeDiff,Nat.reduceBEq,Nat.reduceBneDiff,Value.cells, List.length_replicate, Option.getD_none, zr]
  intro b9 hb9
  have zl : (List.replicate 32 (Value.int .u8 0)).length = 32 := by simp
  have zo : (List.replicate 32 (Value.int .u8 0)).all one = true := by rw [← zr]; exact one_u8 _
  have stZ : ∀ (G : Heap) (b : Nat), storeV (G.set b (.own 0 (List.replicate 32 (.int .u8 0)) 32)) 32 (.pointer (some ⟨b, 0, none⟩)) (.agg (List.replicate 32 (Value.int .u8 0)).toArray) = some (G.set b (.own 0 (List.replicate 32 (.int .u8 0)) 32)) := fun G b => z6z (by omega) zl zo zl (by omega)
  have st9 := stZ h9 b9
  simp -implicitDefEqProofs only [zB1,zB2,zB3,zB4,zB5,zB6,zB7,zB8,zB9,zB10,zB11,y00,y01,y02,y03,y04,y05,y06,y07,y08,y09,y0a,y0b,y0c,y0d,y0e,y0f,y0g,y0h,y0i,y0j,y0k,y0l,y0m,y0n,y0o,y0p,y0q,y0r,y0s,y0t,y0u,y0v,y0w,y0x,y0y,y0z,y10,y11,y12,y13,y14,y15,y16,y17,y18,y19,y1a,y1b,y1c,y1d,y1e,y1f,y1g,y1h,y1i,y1j,y1k,y1l,y1m,y1n,y1o,y1p,y1q,y1r,retO,retL,retV,z6i,allV,allP,z6j,z6m,z6n,z6t,z6u,z6v,binV,eqV,unV,oOpt,reduceIte,reduceCtorEq,Nat.reduceEqDiff,Nat.reduceAdd,Nat.reduceMul,Nat.reduceLT,Nat.reduceSub,Int.reduceLT,Int.reduceLE,Int.reduceEq,Int.reduceNe,Int.reduceSub,Int.reduceAdd,Int.reduceMul,Int.reduceBEq,Int.reduceBNe,Int.reduceGT,Int.reduceGE,Nat.reduceGT,Int.reduceToNat,Int.reduceNeg,Nat.reduceLeDiff,Nat.reduceBEq,Nat.reduceBneDiff,Value.cells, st9, zl]
  have le9b := Heap.le_set (Heap.le_refl h9) hb9 (.own 0 (List.replicate 32 (.int .u8 0)) 32)
  generalize (h9.set b9 (.own 0 (List.replicate 32 (.int .u8 0)) 32)) = h10 at le9b ⊢
  refine (epoch_Wrap_bad E h10 _ zl 0).mono ?_
  rintro r h11 ⟨le11, rfl⟩
  simp -implicitDefEqProofs only [zB1,zB2,zB3,zB4,zB5,zB6,zB7,zB8,zB9,zB10,zB11,y00,y01,y02,y03,y04,y05,y06,y07,y08,y09,y0a,y0b,y0c,y0d,y0e,y0f,y0g,y0h,y0i,y0j,y0k,y0l,y0m,y0n,y0o,y0p,y0q,y0r,y0s,y0t,y0u,y0v,y0w,y0x,y0y,y0z,y10,y11,y12,y13,y14,y15,y16,y17,y18,y19,y1a,y1b,y1c,y1d,y1e,y1f,y1g,y1h,y1i,y1j,y1k,y1l,y1m,y1n,y1o,y1p,y1q,y1r,retO,retL,retV,z6i,allV,allP,z6j,z6m,z6n,z6t,z6u,z6v,binV,eqV,unV,oOpt,reduceIte,reduceCtorEq,Nat.reduceEqDiff,Nat.reduceAdd,Nat.reduceMul,Nat.reduceLT,Nat.reduceSub,Int.reduceLT,Int.reduceLE,Int.reduceEq,Int.reduceNe,Int.reduceSub,Int.reduceAdd,Int.reduceMul,Int.reduceBEq,Int.reduceBNe,Int.reduceGT,Int.reduceGE,Nat.reduceGT,Int.reduceToNat,Int.reduceNeg,Nat.reduceLeDiff,Nat.reduceBEq,Nat.reduceBneDiff,Value.cells]
  unfold ir_bandboxlaw22_EpochKnown_56
  simp -implicitDefEqProofs only [zB1,zB2,zB3,zB4,zB5,zB6,zB7,zB8,zB9,zB10,zB11,y00,y01,y02,y03,y04,y05,y06,y07,y08,y09,y0a,y0b,y0c,y0d,y0e,y0f,y0g,y0h,y0i,y0j,y0k,y0l,y0m,y0n,y0o,y0p,y0q,y0r,y0s,y0t,y0u,y0v,y0w,y0x,y0y,y0z,y10,y11,y12,y13,y14,y15,y16,y17,y18,y19,y1a,y1b,y1c,y1d,y1e,y1f,y1g,y1h,y1i,y1j,y1k,y1l,y1m,y1n,y1o,y1p,y1q,y1r,retO,retL,retV,z6i,allV,allP,z6j,z6m,z6n,z6t,z6u,z6v,binV,eqV,unV,oOpt,reduceIte,reduceCtorEq,Nat.reduceEqDiff,Nat.reduceAdd,Nat.reduceMul,Nat.reduceLT,Nat.reduceSub,Int.reduceLT,Int.reduceLE,Int.reduceEq,Int.reduceNe,Int.reduceSub,Int.reduceAdd,Int.reduceMul,Int.reduceBEq,Int.reduceBNe,Int.reduceGT,Int.reduceGE,Nat.reduceGT,Int.reduceToNat,Int.reduceNeg,Nat.reduceLeDiff,Nat.reduceBEq,Nat.reduceBneDiff,Value.cells, zl]
  refine (evF_row (mixHk_ok E) rfl h11 pkU0).mono ?_
  rintro r h12 ⟨le12, rfl⟩
  simp -implicitDefEqProofs only [zB1,zB2,zB3,zB4,zB5,zB6,zB7,zB8,zB9,zB10,zB11,y00,y01,y02,y03,y04,y05,y06,y07,y08,y09,y0a,y0b,y0c,y0d,y0e,y0f,y0g,y0h,y0i,y0j,y0k,y0l,y0m,y0n,y0o,y0p,y0q,y0r,y0s,y0t,y0u,y0v,y0w,y0x,y0y,y0z,y10,y11,y12,y13,y14,y15,y16,y17,y18,y19,y1a,y1b,y1c,y1d,y1e,y1f,y1g,y1h,y1i,y1j,y1k,y1l,y1m,y1n,y1o,y1p,y1q,y1r,retO,retL,retV,z6i,allV,allP,z6j,z6m,z6n,z6t,z6u,z6v,binV,eqV,unV,oOpt,reduceIte,reduceCtorEq,Nat.reduceEqDiff,Nat.reduceAdd,Nat.reduceMul,Nat.reduceLT,Nat.reduceSub,Int.reduceLT,Int.reduceLE,Int.reduceEq,Int.reduceNe,Int.reduceSub,Int.reduceAdd,Int.reduceMul,Int.reduceBEq,Int.reduceBNe,Int.reduceGT,Int.reduceGE,Nat.reduceGT,Int.reduceToNat,Int.reduceNeg,Nat.reduceLeDiff,Nat.reduceBEq,Nat.reduceBneDiff,Value.cells, zl]
  intro b13 hb13
  have st13 := stZ h12 b13
  simp -implicitDefEqProofs only [zB1,zB2,zB3,zB4,zB5,zB6,zB7,zB8,zB9,zB10,zB11,y00,y01,y02,y03,y04,y05,y06,y07,y08,y09,y0a,y0b,y0c,y0d,y0e,y0f,y0g,y0h,y0i,y0j,y0k,y0l,y0m,y0n,y0o,y0p,y0q,y0r,y0s,y0t,y0u,y0v,y0w,y0x,y0y,y0z,y10,y11,y12,y13,y14,y15,y16,y17,y18,y19,y1a,y1b,y1c,y1d,y1e,y1f,y1g,y1h,y1i,y1j,y1k,y1l,y1m,y1n,y1o,y1p,y1q,y1r,retO,retL,retV,z6i,allV,allP,z6j,z6m,z6n,z6t,z6u,z6v,binV,eqV,unV,oOpt,reduceIte,reduceCtorEq,Nat.reduceEqDiff,Nat.reduceAdd,Nat.reduceMul,Nat.reduceLT,Nat.reduceSub,Int.reduceLT,Int.reduceLE,Int.reduceEq,Int.reduceNe,Int.reduceSub,Int.reduceAdd,Int.reduceMul,Int.reduceBEq,Int.reduceBNe,Int.reduceGT,Int.reduceGE,Nat.reduceGT,Int.reduceToNat,Int.reduceNeg,Nat.reduceLeDiff,Nat.reduceBEq,Nat.reduceBneDiff,Value.cells, st13, zl]
  have le13b := Heap.le_set (Heap.le_refl h12) hb13 (.own 0 (List.replicate 32 (.int .u8 0)) 32)
  generalize (h12.set b13 (.own 0 (List.replicate 32 (.int .u8 0)) 32)) = h13 at le13b ⊢
  refine (evF_row (mixHk_ok E) rfl h13 pkU1).mono ?_
  rintro r h14 ⟨le14, rfl⟩
  simp -implicitDefEqProofs only [zB1,zB2,zB3,zB4,zB5,zB6,zB7,zB8,zB9,zB10,zB11,y00,y01,y02,y03,y04,y05,y06,y07,y08,y09,y0a,y0b,y0c,y0d,y0e,y0f,y0g,y0h,y0i,y0j,y0k,y0l,y0m,y0n,y0o,y0p,y0q,y0r,y0s,y0t,y0u,y0v,y0w,y0x,y0y,y0z,y10,y11,y12,y13,y14,y15,y16,y17,y18,y19,y1a,y1b,y1c,y1d,y1e,y1f,y1g,y1h,y1i,y1j,y1k,y1l,y1m,y1n,y1o,y1p,y1q,y1r,retO,retL,retV,z6i,allV,allP,z6j,z6m,z6n,z6t,z6u,z6v,binV,eqV,unV,oOpt,reduceIte,reduceCtorEq,Nat.reduceEqDiff,Nat.reduceAdd,Nat.reduceMul,Nat.reduceLT,Nat.reduceSub,Int.reduceLT,Int.reduceLE,Int.reduceEq,Int.reduceNe,Int.reduceSub,Int.reduceAdd,Int.reduceMul,Int.reduceBEq,Int.reduceBNe,Int.reduceGT,Int.reduceGE,Nat.reduceGT,Int.reduceToNat,Int.reduceNeg,Nat.reduceLeDiff,Nat.reduceBEq,Nat.reduceBneDiff,Value.cells, zl]
  intro b15 hb15
  have st15 := stZ h14 b15
  simp -implicitDefEqProofs only [zB1,zB2,zB3,zB4,zB5,zB6,zB7,zB8,zB9,zB10,zB11,y00,y01,y02,y03,y04,y05,y06,y07,y08,y09,y0a,y0b,y0c,y0d,y0e,y0f,y0g,y0h,y0i,y0j,y0k,y0l,y0m,y0n,y0o,y0p,y0q,y0r,y0s,y0t,y0u,y0v,y0w,y0x,y0y,y0z,y10,y11,y12,y13,y14,y15,y16,y17,y18,y19,y1a,y1b,y1c,y1d,y1e,y1f,y1g,y1h,y1i,y1j,y1k,y1l,y1m,y1n,y1o,y1p,y1q,y1r,retO,retL,retV,z6i,allV,allP,z6j,z6m,z6n,z6t,z6u,z6v,binV,eqV,unV,oOpt,reduceIte,reduceCtorEq,Nat.reduceEqDiff,Nat.reduceAdd,Nat.reduceMul,Nat.reduceLT,Nat.reduceSub,Int.reduceLT,Int.reduceLE,Int.reduceEq,Int.reduceNe,Int.reduceSub,Int.reduceAdd,Int.reduceMul,Int.reduceBEq,Int.reduceBNe,Int.reduceGT,Int.reduceGE,Nat.reduceGT,Int.reduceToNat,Int.reduceNeg,Nat.reduceLeDiff,Nat.reduceBEq,Nat.reduceBneDiff,Value.cells, st15, zl]
  have le15b := Heap.le_set (Heap.le_refl h14) hb15 (.own 0 (List.replicate 32 (.int .u8 0)) 32)
  generalize (h14.set b15 (.own 0 (List.replicate 32 (.int .u8 0)) 32)) = h15 at le15b ⊢
  have leZ : h9.le h15 := Heap.le_trans le9b (Heap.le_trans le11 (Heap.le_trans le12 (Heap.le_trans le13b (Heap.le_trans le14 le15b))))
  have R15 := R9.le leZ
  have leB : h1.le h15 := Heap.le_trans le7 (Heap.le_trans le8 (Heap.le_trans le9 leZ))
  unfold ir_bandboxlaw22_EpochKnown_65
  simp -implicitDefEqProofs only [zB1,zB2,zB3,zB4,zB5,zB6,zB7,zB8,zB9,zB10,zB11,y00,y01,y02,y03,y04,y05,y06,y07,y08,y09,y0a,y0b,y0c,y0d,y0e,y0f,y0g,y0h,y0i,y0j,y0k,y0l,y0m,y0n,y0o,y0p,y0q,y0r,y0s,y0t,y0u,y0v,y0w,y0x,y0y,y0z,y10,y11,y12,y13,y14,y15,y16,y17,y18,y19,y1a,y1b,y1c,y1d,y1e,y1f,y1g,y1h,y1i,y1j,y1k,y1l,y1m,y1n,y1o,y1p,y1q,y1r,retO,retL,retV,z6i,allV,allP,z6j,z6m,z6n,z6t,z6u,z6v,binV,eqV,unV,oOpt,reduceIte,reduceCtorEq,Nat.reduceEqDiff,Nat.reduceAdd,Nat.reduceMul,Nat.reduceLT,Nat.reduceSub,Int.reduceLT,Int.reduceLE,Int.reduceEq,Int.reduceNe,Int.reduceSub,Int.reduceAdd,Int.reduceMul,Int.reduceBEq,Int.reduceBNe,Int.reduceGT,Int.reduceGE,Nat.reduceGT,Int.reduceToNat,Int.reduceNeg,Nat.reduceLeDiff,Nat.reduceBEq,Nat.reduceBneDiff,Value.cells, zl, Option.isSome_none]
  refine (epoch_Len_c E R15).mono ?_
  rintro r h16 ⟨rfl, rfl⟩
  simp -implicitDefEqProofs only [zB1,zB2,zB3,zB4,zB5,zB6,zB7,zB8,zB9,zB10,zB11,y00,y01,y02,y03,y04,y05,y06,y07,y08,y09,y0a,y0b,y0c,y0d,y0e,y0f,y0g,y0h,y0i,y0j,y0k,y0l,y0m,y0n,y0o,y0p,y0q,y0r,y0s,y0t,y0u,y0v,y0w,y0x,y0y,y0z,y10,y11,y12,y13,y14,y15,y16,y17,y18,y19,y1a,y1b,y1c,y1d,y1e,y1f,y1g,y1h,y1i,y1j,y1k,y1l,y1m,y1n,y1o,y1p,y1q,y1r,retO,retL,retV,z6i,allV,allP,z6j,z6m,z6n,z6t,z6u,z6v,binV,eqV,unV,oOpt,reduceIte,reduceCtorEq,Nat.reduceEqDiff,Nat.reduceAdd,Nat.reduceMul,Nat.reduceLT,Nat.reduceSub,Int.reduceLT,Int.reduceLE,Int.reduceEq,Int.reduceNe,Int.reduceSub,Int.reduceAdd,Int.reduceMul,Int.reduceBEq,Int.reduceBNe,Int.reduceGT,Int.reduceGE,Nat.reduceGT,Int.reduceToNat,Int.reduceNeg,Nat.reduceLeDiff,Nat.reduceBEq,Nat.reduceBneDiff,Value.cells, zl]
  have put0 := fun (G : Heap) (L : RL) (le : h1.le G) (R : RingR h1 G (.pointer (some ⟨p, 0, none⟩)) L) (h : ∀ x ∈ L, x.2.length = 32) (k : Int) => epoch_Put_c E le R h k (List.replicate 32 0) (by simp)
  rw [zr] at put0
  refine (put0 _ _ leB R15 (by simp [word1_len]) (-1)).mono ?_
  rintro r h17 ⟨le17, rfl, R17⟩
  rw [p5] at R17 ⊢
  simp -implicitDefEqProofs only [zB1,zB2,zB3,zB4,zB5,zB6,zB7,zB8,zB9,zB10,zB11,y00,y01,y02,y03,y04,y05,y06,y07,y08,y09,y0a,y0b,y0c,y0d,y0e,y0f,y0g,y0h,y0i,y0j,y0k,y0l,y0m,y0n,y0o,y0p,y0q,y0r,y0s,y0t,y0u,y0v,y0w,y0x,y0y,y0z,y10,y11,y12,y13,y14,y15,y16,y17,y18,y19,y1a,y1b,y1c,y1d,y1e,y1f,y1g,y1h,y1i,y1j,y1k,y1l,y1m,y1n,y1o,y1p,y1q,y1r,retO,retL,retV,z6i,allV,allP,z6j,z6m,z6n,z6t,z6u,z6v,binV,eqV,unV,oOpt,reduceIte,reduceCtorEq,Nat.reduceEqDiff,Nat.reduceAdd,Nat.reduceMul,Nat.reduceLT,Nat.reduceSub,Int.reduceLT,Int.reduceLE,Int.reduceEq,Int.reduceNe,Int.reduceSub,Int.reduceAdd,Int.reduceMul,Int.reduceBEq,Int.reduceBNe,Int.reduceGT,Int.reduceGE,Nat.reduceGT,Int.reduceToNat,Int.reduceNeg,Nat.reduceLeDiff,Nat.reduceBEq,Nat.reduceBneDiff,Value.cells, zl]
  refine (put0 _ _ le17 R17 (by simp [word1_len]) 1099511627777).mono ?_
  rintro r h18 ⟨le18, rfl, R18⟩
  rw [p6] at R18 ⊢
  simp -implicitDefEqProofs only [zB1,zB2,zB3,zB4,zB5,zB6,zB7,zB8,zB9,zB10,zB11,y00,y01,y02,y03,y04,y05,y06,y07,y08,y09,y0a,y0b,y0c,y0d,y0e,y0f,y0g,y0h,y0i,y0j,y0k,y0l,y0m,y0n,y0o,y0p,y0q,y0r,y0s,y0t,y0u,y0v,y0w,y0x,y0y,y0z,y10,y11,y12,y13,y14,y15,y16,y17,y18,y19,y1a,y1b,y1c,y1d,y1e,y1f,y1g,y1h,y1i,y1j,y1k,y1l,y1m,y1n,y1o,y1p,y1q,y1r,retO,retL,retV,z6i,allV,allP,z6j,z6m,z6n,z6t,z6u,z6v,binV,eqV,unV,oOpt,reduceIte,reduceCtorEq,Nat.reduceEqDiff,Nat.reduceAdd,Nat.reduceMul,Nat.reduceLT,Nat.reduceSub,Int.reduceLT,Int.reduceLE,Int.reduceEq,Int.reduceNe,Int.reduceSub,Int.reduceAdd,Int.reduceMul,Int.reduceBEq,Int.reduceBNe,Int.reduceGT,Int.reduceGE,Nat.reduceGT,Int.reduceToNat,Int.reduceNeg,Nat.reduceLeDiff,Nat.reduceBEq,Nat.reduceBneDiff,Value.cells, zl]
  refine (evF_aggA (mixHk_ok E) rfl h18 pkNo).mono ?_
  rintro r h19 ⟨le19, rfl⟩
  have z12 : List.replicate 12 (Value.int .u8 0) = [Value.int .u8 0, Value.int .u8 0, Value.int .u8 0, Value.int .u8 0, Value.int .u8 0, Value.int .u8 0, Value.int .u8 0, Value.int .u8 0, Value.int .u8 0, Value.int .u8 0, Value.int .u8 0, Value.int .u8 0] := rfl
  have k1 := leaves_u8 [0, 0, 0, 1, 0, 0, 0, 0, 0, 0, 1, 2]
  have k3 := leavesEq_u8 [0, 0, 0, 1, 0, 0, 0, 0, 0, 0, 1, 2]
  have ex : ([0, 0, 0, 1, 0, 0, 0, 0, 0, 0, 1, 2] : List UInt8).map u8V = [Value.int .u8 0, Value.int .u8 0, Value.int .u8 0, Value.int .u8 1, Value.int .u8 0, Value.int .u8 0, Value.int .u8 0, Value.int .u8 0, Value.int .u8 0, Value.int .u8 0, Value.int .u8 1, Value.int .u8 2] := rfl
  have el : ([0, 0, 0, 1, 0, 0, 0, 0, 0, 0, 1, 2] : List UInt8).length = 12 := rfl
  rw [ex, el] at k1
  rw [ex] at k3
  simp -implicitDefEqProofs only [zB1,zB2,zB3,zB4,zB5,zB6,zB7,zB8,zB9,zB10,zB11,y00,y01,y02,y03,y04,y05,y06,y07,y08,y09,y0a,y0b,y0c,y0d,y0e,y0f,y0g,y0h,y0i,y0j,y0k,y0l,y0m,y0n,y0o,y0p,y0q,y0r,y0s,y0t,y0u,y0v,y0w,y0x,y0y,y0z,y10,y11,y12,y13,y14,y15,y16,y17,y18,y19,y1a,y1b,y1c,y1d,y1e,y1f,y1g,y1h,y1i,y1j,y1k,y1l,y1m,y1n,y1o,y1p,y1q,y1r,retO,retL,retV,z6i,allV,allP,z6j,z6m,z6n,z6t,z6u,z6v,binV,eqV,unV,oOpt,reduceIte,reduceCtorEq,Nat.reduceEqDiff,Nat.reduceAdd,Nat.reduceMul,Nat.reduceLT,Nat.reduceSub,Int.reduceLT,Int.reduceLE,Int.reduceEq,Int.reduceNe,Int.reduceSub,Int.reduceAdd,Int.reduceMul,Int.reduceBEq,Int.reduceBNe,Int.reduceGT,Int.reduceGE,Nat.reduceGT,Int.reduceToNat,Int.reduceNeg,Nat.reduceLeDiff,Nat.reduceBEq,Nat.reduceBneDiff,Value.cells, z12, k1, k3]
end Go.Bb
