/- My contracts: BbCsha5 BbCsha6 BbCsha7. -/
import Derived.Test.YtgoifophjcbpaaaBbM2
import Derived.Test.YtgoifophjcbpaaaBbM1
/- Contracts: sums of bytes: what is told. -/
namespace Go.Bb
set_option linter.unusedSimpArgs false
set_option linter.unusedVariables false
set_option maxRecDepth 20000

theorem Ow.apart {h0 h : Heap} {bs : Nat} {y X : Blk} {size n : Nat} {v : Value} {cells : List Value} (s : Ow h0 h size v n cells) (hb : h0 bs = some y) : Sl (h.set bs X) size v n cells := by
  have s2 : Ow h0 (h.set bs X) size v n cells := by
    rcases s with s | ⟨b, o, c, sz, st, pre, rest, h1, h2, h3, h4, h5⟩
    · exact .inl s
    · exact .inr ⟨b, o, c, sz, st, pre, rest, h1, h2, h3, by rw [Heap.set_ne (by intro e; subst e; rw [hb] at h3; cases h3)]; exact h4, h5⟩
  exact s2.sl
theorem SumR.le {h0 h h' : Heap} {bs : Nat} {hs : Nat → U32} {rest : List UInt8} {n : Nat} (p : SumR h0 h bs hs rest n) (x : h.le h') : SumR h0 h' bs hs rest n :=
  ⟨p.new, by obtain ⟨v, h1, h2⟩ := p.ex; exact ⟨v, x _ _ h1, fun X => (h2 X).le x⟩⟩

def outF (H : Nat → U32) (k : Nat) : List UInt8 := (List.range k).flatMap fun i => bigF ((H i).setWidth 64) 4
theorem outF_len (H : Nat → U32) : ∀ k, (outF H k).length = 4 * k
  | 0 => rfl
  | k + 1 => by
      have := outF_len H k
      unfold outF at *
      rw [List.range_succ, List.flatMap_append, List.length_append, this]
      simp [bigF_len]; omega
theorem outF_succ (H : Nat → U32) (k : Nat) : outF H (k + 1) = outF H k ++ bigF ((H k).setWidth 64) 4 := by
  unfold outF; rw [List.range_succ, List.flatMap_append]; simp
def shaEnd (hs : Nat → U32) (rest : List UInt8) (n : Nat) : List UInt8 := outF (absorb hs (rest ++ paddingF n)).1 8

theorem out_splice (H : Nat → U32) (i : Nat) (hi : i < 8) : splice ((outF H i ++ List.replicate (32 - 4 * i) 0).map u8V) (4 * i) (((bigF ((H i).setWidth 64) 4).map u8V).take (min 4 (32 - 4 * i) * 1)) = (outF H (i + 1) ++ List.replicate (32 - 4 * (i + 1)) 0).map u8V := by
  have e1 : min 4 (32 - 4 * i) * 1 = 4 := by omega
  rw [e1, List.take_of_length_le (by simp [bigF_len])]
  unfold splice
  rw [List.map_append, List.take_left' (by simp [outF_len]), ← List.map_append, ← outF_succ]
  rw [List.map_append]
  congr 1
  rw [List.drop_append, List.drop_eq_nil_of_le (by simp [outF_len, bigF_len]), List.nil_append]
  simp only [List.length_map, bigF_len, outF_len, List.map_replicate, List.drop_replicate]
  congr 1
  omega

theorem sha_Word_c (E : EnvT tab) {h0 h : Heap} {bs : Nat} {hs : Nat → U32} {rest : List UInt8} {n : Nat} (hle : h0.le h) (p : SumR h0 h bs hs rest n) (hr : rest.length ≤ 100000000) (hn : n ≤ 100000000000) :
    ACallN E.toEnv n_sha_Sum_Word [.pointer (some ⟨bs, 0, none⟩)] h fun r h' => h.le h' ∧ r = .agg ((shaEnd hs rest n).map u8V).toArray := by
  obtain ⟨vr, hbs, ow⟩ := p.ex
  refine acall h_sha_Sum_Word ir_sha_Sum_Word rfl rfl (wpA_sound ?_)
  unfold ir_sha_Sum_Word
  simp -implicitDefEqProofs only [z00,z01,z02,z03,z04,z05,z06,z07,z08,z09,z0a,z0b,z0c,z0d,z0e,z0f,z0g,z0h,z0i,z0j,z0k,z0l,z0m,z0n,retO,retL,retV,z0o,z0p,z0q,z0r,z0s,z0t,z0u,z0v,z0w,z0x,z0y,z0z,z10,z11,z12,z13,z14,z15,z16,z17,z18,z19,z1a,z1b,z1c,z1d,z1e,z1f,z1g,z1h,z1i,z1j,z1k,z1l,z1m,z1n,z1o,z1p,z1q,z1r,z1s,z1t,z1u,z1v,z1w,z1x,z1y,z1z,z20,z21,z22,z23,z24,z25,z26,z27,z28,z29,z2a,z2b,z2c,z2d,z2e,z2f,z2g,z2h,z2i,z2j,z2k,z2l,z2m,z2n,z2o,z2p,z2q,z2r,z2s,z2t,z2u,z2v,z2w,z2x,z2y,z2z,z30,z31,z32,z33,z34,z35,z36,z37,z38,z39,z3a,z3b,z3c,z3d,z3e,z3f,z3g,z3h,z3i,z3j,z3k,z3l,z3m,z3n,z3o,z3p,z3q,z3r,z3s,z3t,z3u,z3v,z3w,z3x,z3y,z3z,z40,z41,z42,z43,z44,z45,z46,z47,z48,z49,z4a,z4b,z4c,z4d,z4e,z4f,z4g,z4h,z4i,z4j,z4k,z4l,z4m,z4n,z4o,z4p,z4q,z4r,z4s,z4t,z4u,z4v,z4w,z4x,z4y,z4z,z50,z51,z52,z53,z54,z55,z56,z57,z58,z59,z5a,z5b,z5c,z5d,z5e,z5f,z5g,z5h,z5i,z5j,z5k,z5l,z5m,z5n,z5o,z5p,z5q,z5r,z5s,z5t,z5u,z5v,z5w,z5x,z5y,z5z,z60,z61,z62,z63,z64,z65,z66,z67,z68,z69,allV,allP,z6a,z6b,z6c,z6d,z6e,z6f,z6g,z6h,z6i,z6j,z6k,z6l,z6m,Option.map_some,Option.map_none,Option.some.injEq,reduceIte,reduceCtorEq,Nat.reduceEqDiff,Nat.reduceAdd,Nat.reduceMul,Nat.reduceLT,Nat.reduceSub,Int.reduceLT,Int.reduceLE,Int.reduceEq,Int.reduceNe,Int.reduceSub,Int.reduceAdd,Int.reduceMul,Int.reduceBEq,Int.reduceBNe,Int.reduceGT,Int.reduceGE,Nat.reduceGT,Int.reduceToNat,Int.reduceNeg,Nat.reduceLeDiff,Nat.reduceBEq,Nat.reduceBneDiff,binV,eqV,unV,oOpt,true_and,and_true,Value.cells,List.length_cons,List.length_nil,List.append_nil,List.nil_append,List.cons_append,List.drop_succ_cons,List.drop_zero,List.take_succ_cons,List.take_zero,List.take_nil,List.getElem?_cons_zero,List.getElem?_cons_succ,decide_true,decide_false,decide_eq_true_eq,decide_eq_false_iff_not,Bool.false_eq_true,Bool.true_eq_false,Bool.not_true,Bool.not_false,Bool.not_eq_true',Bool.not_eq_false',Bool.not_eq_true,Bool.not_eq_false,false_implies,true_implies,beq_iff_eq,beq_eq_false_iff_ne,bne_iff_ne,bne_eq_false_iff_eq,ne_eq,ge_iff_le,gt_iff_lt,Int.not_lt,Int.not_le,not_true_eq_false,not_false_eq_true,if_true,if_false,z6n,z6o,z6p,z6q,Heap.set_set,z6r,z6s,z6t,z6u,z6v,z6w,List.getElem_cons_zero,List.getElem_cons_succ,List.set_cons_zero,List.set_cons_succ,List.length_set,List.all_cons,List.all_nil,Bool.and_true,Bool.true_and,Bool.and_self,Nat.add_zero,Nat.zero_add,Nat.zero_lt_succ,Int.cast_ofNat_Int,List.size_toArray,List.flatten_replicate_singleton,Nat.mul_one,Nat.le_refl,Nat.lt_irrefl,Nat.le_add_left]
  intro b2 hb2
  rw [List.length_replicate]
  have le1 : h.le (h.set b2 (.own 0 (List.replicate 32 (.int .u8 0)) 32)) := Heap.le_set (Heap.le_refl _) hb2 _
  have p2 : (h.set b2 (.own 0 (List.replicate 32 (.int .u8 0)) 32)) b2 = some (.own 0 (List.replicate 32 (.int .u8 0)) 32) := Heap.set_self _ _ _
  generalize (h.set b2 (.own 0 (List.replicate 32 (.int .u8 0)) 32)) = h1 at le1 p2
  have hbs1 := le1 _ _ hbs
  have ch : hcells h1 ⟨bs, 0, none⟩ 8 = some (rowU hs 8) := by rw [hcells_at hbs1 (by rw [sumC_len]; omega), sumC_h]
  have ck : hcells h1 ⟨bs, 8, none⟩ 64 = some (rowU constF 64) := by rw [hcells_at hbs1 (by rw [sumC_len]; omega), sumC_k]
  simp -implicitDefEqProofs only [z00,z01,z02,z03,z04,z05,z06,z07,z08,z09,z0a,z0b,z0c,z0d,z0e,z0f,z0g,z0h,z0i,z0j,z0k,z0l,z0m,z0n,retO,retL,retV,z0o,z0p,z0q,z0r,z0s,z0t,z0u,z0v,z0w,z0x,z0y,z0z,z10,z11,z12,z13,z14,z15,z16,z17,z18,z19,z1a,z1b,z1c,z1d,z1e,z1f,z1g,z1h,z1i,z1j,z1k,z1l,z1m,z1n,z1o,z1p,z1q,z1r,z1s,z1t,z1u,z1v,z1w,z1x,z1y,z1z,z20,z21,z22,z23,z24,z25,z26,z27,z28,z29,z2a,z2b,z2c,z2d,z2e,z2f,z2g,z2h,z2i,z2j,z2k,z2l,z2m,z2n,z2o,z2p,z2q,z2r,z2s,z2t,z2u,z2v,z2w,z2x,z2y,z2z,z30,z31,z32,z33,z34,z35,z36,z37,z38,z39,z3a,z3b,z3c,z3d,z3e,z3f,z3g,z3h,z3i,z3j,z3k,z3l,z3m,z3n,z3o,z3p,z3q,z3r,z3s,z3t,z3u,z3v,z3w,z3x,z3y,z3z,z40,z41,z42,z43,z44,z45,z46,z47,z48,z49,z4a,z4b,z4c,z4d,z4e,z4f,z4g,z4h,z4i,z4j,z4k,z4l,z4m,z4n,z4o,z4p,z4q,z4r,z4s,z4t,z4u,z4v,z4w,z4x,z4y,z4z,z50,z51,z52,z53,z54,z55,z56,z57,z58,z59,z5a,z5b,z5c,z5d,z5e,z5f,z5g,z5h,z5i,z5j,z5k,z5l,z5m,z5n,z5o,z5p,z5q,z5r,z5s,z5t,z5u,z5v,z5w,z5x,z5y,z5z,z60,z61,z62,z63,z64,z65,z66,z67,z68,z69,allV,allP,z6a,z6b,z6c,z6d,z6e,z6f,z6g,z6h,z6i,z6j,z6k,z6l,z6m,Option.map_some,Option.map_none,Option.some.injEq,reduceIte,reduceCtorEq,Nat.reduceEqDiff,Nat.reduceAdd,Nat.reduceMul,Nat.reduceLT,Nat.reduceSub,Int.reduceLT,Int.reduceLE,Int.reduceEq,Int.reduceNe,Int.reduceSub,Int.reduceAdd,Int.reduceMul,Int.reduceBEq,Int.reduceBNe,Int.reduceGT,Int.reduceGE,Nat.reduceGT,Int.reduceToNat,Int.reduceNeg,Nat.reduceLeDiff,Nat.reduceBEq,Nat.reduceBneDiff,binV,eqV,unV,oOpt,true_and,and_true,Value.cells,List.length_cons,List.length_nil,List.append_nil,List.nil_append,List.cons_append,List.drop_succ_cons,List.drop_zero,List.take_succ_cons,List.take_zero,List.take_nil,List.getElem?_cons_zero,List.getElem?_cons_succ,decide_true,decide_false,decide_eq_true_eq,decide_eq_false_iff_not,Bool.false_eq_true,Bool.true_eq_false,Bool.not_true,Bool.not_false,Bool.not_eq_true',Bool.not_eq_false',Bool.not_eq_true,Bool.not_eq_false,false_implies,true_implies,beq_iff_eq,beq_eq_false_iff_ne,bne_iff_ne,bne_eq_false_iff_eq,ne_eq,ge_iff_le,gt_iff_lt,Int.not_lt,Int.not_le,not_true_eq_false,not_false_eq_true,if_true,if_false,z6n,z6o,z6p,z6q,Heap.set_set,z6r,z6s,z6t,z6u,z6v,z6w,List.getElem_cons_zero,List.getElem_cons_succ,List.set_cons_zero,List.set_cons_succ,List.length_set,List.all_cons,List.all_nil,Bool.and_true,Bool.true_and,Bool.and_self,Nat.add_zero,Nat.zero_add,Nat.zero_lt_succ,Int.cast_ofNat_Int,List.size_toArray,List.flatten_replicate_singleton,Nat.mul_one,Nat.le_refl,Nat.lt_irrefl,Nat.le_add_left, ch, ck, rowU_len, sumB1, sumB2 hs, sumB3 hs, implies_true]
  intro bt hbt
  try simp -implicitDefEqProofs only [z00,z01,z02,z03,z04,z05,z06,z07,z08,z09,z0a,z0b,z0c,z0d,z0e,z0f,z0g,z0h,z0i,z0j,z0k,z0l,z0m,z0n,retO,retL,retV,z0o,z0p,z0q,z0r,z0s,z0t,z0u,z0v,z0w,z0x,z0y,z0z,z10,z11,z12,z13,z14,z15,z16,z17,z18,z19,z1a,z1b,z1c,z1d,z1e,z1f,z1g,z1h,z1i,z1j,z1k,z1l,z1m,z1n,z1o,z1p,z1q,z1r,z1s,z1t,z1u,z1v,z1w,z1x,z1y,z1z,z20,z21,z22,z23,z24,z25,z26,z27,z28,z29,z2a,z2b,z2c,z2d,z2e,z2f,z2g,z2h,z2i,z2j,z2k,z2l,z2m,z2n,z2o,z2p,z2q,z2r,z2s,z2t,z2u,z2v,z2w,z2x,z2y,z2z,z30,z31,z32,z33,z34,z35,z36,z37,z38,z39,z3a,z3b,z3c,z3d,z3e,z3f,z3g,z3h,z3i,z3j,z3k,z3l,z3m,z3n,z3o,z3p,z3q,z3r,z3s,z3t,z3u,z3v,z3w,z3x,z3y,z3z,z40,z41,z42,z43,z44,z45,z46,z47,z48,z49,z4a,z4b,z4c,z4d,z4e,z4f,z4g,z4h,z4i,z4j,z4k,z4l,z4m,z4n,z4o,z4p,z4q,z4r,z4s,z4t,z4u,z4v,z4w,z4x,z4y,z4z,z50,z51,z52,z53,z54,z55,z56,z57,z58,z59,z5a,z5b,z5c,z5d,z5e,z5f,z5g,z5h,z5i,z5j,z5k,z5l,z5m,z5n,z5o,z5p,z5q,z5r,z5s,z5t,z5u,z5v,z5w,z5x,z5y,z5z,z60,z61,z62,z63,z64,z65,z66,z67,z68,z69,allV,allP,z6a,z6b,z6c,z6d,z6e,z6f,z6g,z6h,z6i,z6j,z6k,z6l,z6m,Option.map_some,Option.map_none,Option.some.injEq,reduceIte,reduceCtorEq,Nat.reduceEqDiff,Nat.reduceAdd,Nat.reduceMul,Nat.reduceLT,Nat.reduceSub,Int.reduceLT,Int.reduceLE,Int.reduceEq,Int.reduceNe,Int.reduceSub,Int.reduceAdd,Int.reduceMul,Int.reduceBEq,Int.reduceBNe,Int.reduceGT,Int.reduceGE,Nat.reduceGT,Int.reduceToNat,Int.reduceNeg,Nat.reduceLeDiff,Nat.reduceBEq,Nat.reduceBneDiff,binV,eqV,unV,oOpt,true_and,and_true,Value.cells,List.length_cons,List.length_nil,List.append_nil,List.nil_append,List.cons_append,List.drop_succ_cons,List.drop_zero,List.take_succ_cons,List.take_zero,List.take_nil,List.getElem?_cons_zero,List.getElem?_cons_succ,decide_true,decide_false,decide_eq_true_eq,decide_eq_false_iff_not,Bool.false_eq_true,Bool.true_eq_false,Bool.not_true,Bool.not_false,Bool.not_eq_true',Bool.not_eq_false',Bool.not_eq_true,Bool.not_eq_false,false_implies,true_implies,beq_iff_eq,beq_eq_false_iff_ne,bne_iff_ne,bne_eq_false_iff_eq,ne_eq,ge_iff_le,gt_iff_lt,Int.not_lt,Int.not_le,not_true_eq_false,not_false_eq_true,if_true,if_false,z6n,z6o,z6p,z6q,Heap.set_set,z6r,z6s,z6t,z6u,z6v,z6w,List.getElem_cons_zero,List.getElem_cons_succ,List.set_cons_zero,List.set_cons_succ,List.length_set,List.all_cons,List.all_nil,Bool.and_true,Bool.true_and,Bool.and_self,Nat.add_zero,Nat.zero_add,Nat.zero_lt_succ,Int.cast_ofNat_Int,List.size_toArray,List.flatten_replicate_singleton,Nat.mul_one,Nat.le_refl,Nat.lt_irrefl,Nat.le_add_left, sumC_len]
  have le2 : h1.le (h1.set bt (.own 0 (sumC hs (.slice none 0 0) 0) 74)) := Heap.le_set (Heap.le_refl _) hbt _
  have pt : SumR h1 (h1.set bt (.own 0 (sumC hs (.slice none 0 0) 0) 74)) bt hs [] 0 := ⟨hbt, _, Heap.set_self _ _ _, fun X => Ow.nil _ _ _⟩
  have c72 : hcell (h1.set bt (.own 0 (sumC hs (.slice none 0 0) 0) 74)) ⟨bs, 72, none⟩ = some vr := by rw [hcell_at (off := 72) (le2 _ _ hbs1) (by rw [sumC_len]; omega), sumC_at72]
  have sr : ∀ X, SlB ((h1.set bt (.own 0 (sumC hs (.slice none 0 0) 0) 74)).set bt X) vr rest := fun X => by
    rw [Heap.set_set]
    exact Sl.le (Heap.le_trans le1 (Heap.le_set (Heap.le_refl _) hbt _)) (ow (.obj (.map #[] 0))).sl
  simp -implicitDefEqProofs only [z00,z01,z02,z03,z04,z05,z06,z07,z08,z09,z0a,z0b,z0c,z0d,z0e,z0f,z0g,z0h,z0i,z0j,z0k,z0l,z0m,z0n,retO,retL,retV,z0o,z0p,z0q,z0r,z0s,z0t,z0u,z0v,z0w,z0x,z0y,z0z,z10,z11,z12,z13,z14,z15,z16,z17,z18,z19,z1a,z1b,z1c,z1d,z1e,z1f,z1g,z1h,z1i,z1j,z1k,z1l,z1m,z1n,z1o,z1p,z1q,z1r,z1s,z1t,z1u,z1v,z1w,z1x,z1y,z1z,z20,z21,z22,z23,z24,z25,z26,z27,z28,z29,z2a,z2b,z2c,z2d,z2e,z2f,z2g,z2h,z2i,z2j,z2k,z2l,z2m,z2n,z2o,z2p,z2q,z2r,z2s,z2t,z2u,z2v,z2w,z2x,z2y,z2z,z30,z31,z32,z33,z34,z35,z36,z37,z38,z39,z3a,z3b,z3c,z3d,z3e,z3f,z3g,z3h,z3i,z3j,z3k,z3l,z3m,z3n,z3o,z3p,z3q,z3r,z3s,z3t,z3u,z3v,z3w,z3x,z3y,z3z,z40,z41,z42,z43,z44,z45,z46,z47,z48,z49,z4a,z4b,z4c,z4d,z4e,z4f,z4g,z4h,z4i,z4j,z4k,z4l,z4m,z4n,z4o,z4p,z4q,z4r,z4s,z4t,z4u,z4v,z4w,z4x,z4y,z4z,z50,z51,z52,z53,z54,z55,z56,z57,z58,z59,z5a,z5b,z5c,z5d,z5e,z5f,z5g,z5h,z5i,z5j,z5k,z5l,z5m,z5n,z5o,z5p,z5q,z5r,z5s,z5t,z5u,z5v,z5w,z5x,z5y,z5z,z60,z61,z62,z63,z64,z65,z66,z67,z68,z69,allV,allP,z6a,z6b,z6c,z6d,z6e,z6f,z6g,z6h,z6i,z6j,z6k,z6l,z6m,Option.map_some,Option.map_none,Option.some.injEq,reduceIte,reduceCtorEq,Nat.reduceEqDiff,Nat.reduceAdd,Nat.reduceMul,Nat.reduceLT,Nat.reduceSub,Int.reduceLT,Int.reduceLE,Int.reduceEq,Int.reduceNe,Int.reduceSub,Int.reduceAdd,Int.reduceMul,Int.reduceBEq,Int.reduceBNe,Int.reduceGT,Int.reduceGE,Nat.reduceGT,Int.reduceToNat,Int.reduceNeg,Nat.reduceLeDiff,Nat.reduceBEq,Nat.reduceBneDiff,binV,eqV,unV,oOpt,true_and,and_true,Value.cells,List.length_cons,List.length_nil,List.append_nil,List.nil_append,List.cons_append,List.drop_succ_cons,List.drop_zero,List.take_succ_cons,List.take_zero,List.take_nil,List.getElem?_cons_zero,List.getElem?_cons_succ,decide_true,decide_false,decide_eq_true_eq,decide_eq_false_iff_not,Bool.false_eq_true,Bool.true_eq_false,Bool.not_true,Bool.not_false,Bool.not_eq_true',Bool.not_eq_false',Bool.not_eq_true,Bool.not_eq_false,false_implies,true_implies,beq_iff_eq,beq_eq_false_iff_ne,bne_iff_ne,bne_eq_false_iff_eq,ne_eq,ge_iff_le,gt_iff_lt,Int.not_lt,Int.not_le,not_true_eq_false,not_false_eq_true,if_true,if_false,z6n,z6o,z6p,z6q,Heap.set_set,z6r,z6s,z6t,z6u,z6v,z6w,List.getElem_cons_zero,List.getElem_cons_succ,List.set_cons_zero,List.set_cons_succ,List.length_set,List.all_cons,List.all_nil,Bool.and_true,Bool.true_and,Bool.and_self,Nat.add_zero,Nat.zero_add,Nat.zero_lt_succ,Int.cast_ofNat_Int,List.size_toArray,List.flatten_replicate_singleton,Nat.mul_one,Nat.le_refl,Nat.lt_irrefl,Nat.le_add_left, c72]
  refine (sha_Add_c E le2 pt rest sr (by simp; omega) (by omega)).mono ?_
  rintro r h3 ⟨le3, p3⟩
  rw [List.nil_append, Nat.zero_add] at p3
  have c73 : hcell h3 ⟨bs, 73, none⟩ = some (.int .i64 n) := by rw [hcell_at (off := 73) (le3 _ _ hbs1) (by rw [sumC_len]; omega), sumC_at73]
  simp -implicitDefEqProofs only [z00,z01,z02,z03,z04,z05,z06,z07,z08,z09,z0a,z0b,z0c,z0d,z0e,z0f,z0g,z0h,z0i,z0j,z0k,z0l,z0m,z0n,retO,retL,retV,z0o,z0p,z0q,z0r,z0s,z0t,z0u,z0v,z0w,z0x,z0y,z0z,z10,z11,z12,z13,z14,z15,z16,z17,z18,z19,z1a,z1b,z1c,z1d,z1e,z1f,z1g,z1h,z1i,z1j,z1k,z1l,z1m,z1n,z1o,z1p,z1q,z1r,z1s,z1t,z1u,z1v,z1w,z1x,z1y,z1z,z20,z21,z22,z23,z24,z25,z26,z27,z28,z29,z2a,z2b,z2c,z2d,z2e,z2f,z2g,z2h,z2i,z2j,z2k,z2l,z2m,z2n,z2o,z2p,z2q,z2r,z2s,z2t,z2u,z2v,z2w,z2x,z2y,z2z,z30,z31,z32,z33,z34,z35,z36,z37,z38,z39,z3a,z3b,z3c,z3d,z3e,z3f,z3g,z3h,z3i,z3j,z3k,z3l,z3m,z3n,z3o,z3p,z3q,z3r,z3s,z3t,z3u,z3v,z3w,z3x,z3y,z3z,z40,z41,z42,z43,z44,z45,z46,z47,z48,z49,z4a,z4b,z4c,z4d,z4e,z4f,z4g,z4h,z4i,z4j,z4k,z4l,z4m,z4n,z4o,z4p,z4q,z4r,z4s,z4t,z4u,z4v,z4w,z4x,z4y,z4z,z50,z51,z52,z53,z54,z55,z56,z57,z58,z59,z5a,z5b,z5c,z5d,z5e,z5f,z5g,z5h,z5i,z5j,z5k,z5l,z5m,z5n,z5o,z5p,z5q,z5r,z5s,z5t,z5u,z5v,z5w,z5x,z5y,z5z,z60,z61,z62,z63,z64,z65,z66,z67,z68,z69,allV,allP,z6a,z6b,z6c,z6d,z6e,z6f,z6g,z6h,z6i,z6j,z6k,z6l,z6m,Option.map_some,Option.map_none,Option.some.injEq,reduceIte,reduceCtorEq,Nat.reduceEqDiff,Nat.reduceAdd,Nat.reduceMul,Nat.reduceLT,Nat.reduceSub,Int.reduceLT,Int.reduceLE,Int.reduceEq,Int.reduceNe,Int.reduceSub,Int.reduceAdd,Int.reduceMul,Int.reduceBEq,Int.reduceBNe,Int.reduceGT,Int.reduceGE,Nat.reduceGT,Int.reduceToNat,Int.reduceNeg,Nat.reduceLeDiff,Nat.reduceBEq,Nat.reduceBneDiff,binV,eqV,unV,oOpt,true_and,and_true,Value.cells,List.length_cons,List.length_nil,List.append_nil,List.nil_append,List.cons_append,List.drop_succ_cons,List.drop_zero,List.take_succ_cons,List.take_zero,List.take_nil,List.getElem?_cons_zero,List.getElem?_cons_succ,decide_true,decide_false,decide_eq_true_eq,decide_eq_false_iff_not,Bool.false_eq_true,Bool.true_eq_false,Bool.not_true,Bool.not_false,Bool.not_eq_true',Bool.not_eq_false',Bool.not_eq_true,Bool.not_eq_false,false_implies,true_implies,beq_iff_eq,beq_eq_false_iff_ne,bne_iff_ne,bne_eq_false_iff_eq,ne_eq,ge_iff_le,gt_iff_lt,Int.not_lt,Int.not_le,not_true_eq_false,not_false_eq_true,if_true,if_false,z6n,z6o,z6p,z6q,Heap.set_set,z6r,z6s,z6t,z6u,z6v,z6w,List.getElem_cons_zero,List.getElem_cons_succ,List.set_cons_zero,List.set_cons_succ,List.length_set,List.all_cons,List.all_nil,Bool.and_true,Bool.true_and,Bool.and_self,Nat.add_zero,Nat.zero_add,Nat.zero_lt_succ,Int.cast_ofNat_Int,List.size_toArray,List.flatten_replicate_singleton,Nat.mul_one,Nat.le_refl,Nat.lt_irrefl,Nat.le_add_left, c73]
  refine (sha_padding_c E h3 n (by omega)).mono ?_
  rintro vp h4 ⟨le4, owp⟩
  obtain ⟨v3, hb3, _⟩ := p3.ex
  have kp : padK n < 64 := by unfold padK; omega
  have lp : (paddingF n).length ≤ 100 := by simp [paddingF, bigF_len]; omega
  have al := absorb_len hs rest
  simp -implicitDefEqProofs only [z00,z01,z02,z03,z04,z05,z06,z07,z08,z09,z0a,z0b,z0c,z0d,z0e,z0f,z0g,z0h,z0i,z0j,z0k,z0l,z0m,z0n,retO,retL,retV,z0o,z0p,z0q,z0r,z0s,z0t,z0u,z0v,z0w,z0x,z0y,z0z,z10,z11,z12,z13,z14,z15,z16,z17,z18,z19,z1a,z1b,z1c,z1d,z1e,z1f,z1g,z1h,z1i,z1j,z1k,z1l,z1m,z1n,z1o,z1p,z1q,z1r,z1s,z1t,z1u,z1v,z1w,z1x,z1y,z1z,z20,z21,z22,z23,z24,z25,z26,z27,z28,z29,z2a,z2b,z2c,z2d,z2e,z2f,z2g,z2h,z2i,z2j,z2k,z2l,z2m,z2n,z2o,z2p,z2q,z2r,z2s,z2t,z2u,z2v,z2w,z2x,z2y,z2z,z30,z31,z32,z33,z34,z35,z36,z37,z38,z39,z3a,z3b,z3c,z3d,z3e,z3f,z3g,z3h,z3i,z3j,z3k,z3l,z3m,z3n,z3o,z3p,z3q,z3r,z3s,z3t,z3u,z3v,z3w,z3x,z3y,z3z,z40,z41,z42,z43,z44,z45,z46,z47,z48,z49,z4a,z4b,z4c,z4d,z4e,z4f,z4g,z4h,z4i,z4j,z4k,z4l,z4m,z4n,z4o,z4p,z4q,z4r,z4s,z4t,z4u,z4v,z4w,z4x,z4y,z4z,z50,z51,z52,z53,z54,z55,z56,z57,z58,z59,z5a,z5b,z5c,z5d,z5e,z5f,z5g,z5h,z5i,z5j,z5k,z5l,z5m,z5n,z5o,z5p,z5q,z5r,z5s,z5t,z5u,z5v,z5w,z5x,z5y,z5z,z60,z61,z62,z63,z64,z65,z66,z67,z68,z69,allV,allP,z6a,z6b,z6c,z6d,z6e,z6f,z6g,z6h,z6i,z6j,z6k,z6l,z6m,Option.map_some,Option.map_none,Option.some.injEq,reduceIte,reduceCtorEq,Nat.reduceEqDiff,Nat.reduceAdd,Nat.reduceMul,Nat.reduceLT,Nat.reduceSub,Int.reduceLT,Int.reduceLE,Int.reduceEq,Int.reduceNe,Int.reduceSub,Int.reduceAdd,Int.reduceMul,Int.reduceBEq,Int.reduceBNe,Int.reduceGT,Int.reduceGE,Nat.reduceGT,Int.reduceToNat,Int.reduceNeg,Nat.reduceLeDiff,Nat.reduceBEq,Nat.reduceBneDiff,binV,eqV,unV,oOpt,true_and,and_true,Value.cells,List.length_cons,List.length_nil,List.append_nil,List.nil_append,List.cons_append,List.drop_succ_cons,List.drop_zero,List.take_succ_cons,List.take_zero,List.take_nil,List.getElem?_cons_zero,List.getElem?_cons_succ,decide_true,decide_false,decide_eq_true_eq,decide_eq_false_iff_not,Bool.false_eq_true,Bool.true_eq_false,Bool.not_true,Bool.not_false,Bool.not_eq_true',Bool.not_eq_false',Bool.not_eq_true,Bool.not_eq_false,false_implies,true_implies,beq_iff_eq,beq_eq_false_iff_ne,bne_iff_ne,bne_eq_false_iff_eq,ne_eq,ge_iff_le,gt_iff_lt,Int.not_lt,Int.not_le,not_true_eq_false,not_false_eq_true,if_true,if_false,z6n,z6o,z6p,z6q,Heap.set_set,z6r,z6s,z6t,z6u,z6v,z6w,List.getElem_cons_zero,List.getElem_cons_succ,List.set_cons_zero,List.set_cons_succ,List.length_set,List.all_cons,List.all_nil,Bool.and_true,Bool.true_and,Bool.and_self,Nat.add_zero,Nat.zero_add,Nat.zero_lt_succ,Int.cast_ofNat_Int,List.size_toArray,List.flatten_replicate_singleton,Nat.mul_one,Nat.le_refl,Nat.lt_irrefl,Nat.le_add_left]
  refine (sha_Add_c E (Heap.le_trans le3 le4) (p3.le le4) (paddingF n) (fun X => owp.apart hb3) (by omega) (by omega)).mono ?_
  rintro r h5 ⟨le5, p5⟩
  rw [absorb_app] at p5
  obtain ⟨v5, hb5, _⟩ := p5.ex
  have p25 := le5 _ _ p2
  simp -implicitDefEqProofs only [z00,z01,z02,z03,z04,z05,z06,z07,z08,z09,z0a,z0b,z0c,z0d,z0e,z0f,z0g,z0h,z0i,z0j,z0k,z0l,z0m,z0n,retO,retL,retV,z0o,z0p,z0q,z0r,z0s,z0t,z0u,z0v,z0w,z0x,z0y,z0z,z10,z11,z12,z13,z14,z15,z16,z17,z18,z19,z1a,z1b,z1c,z1d,z1e,z1f,z1g,z1h,z1i,z1j,z1k,z1l,z1m,z1n,z1o,z1p,z1q,z1r,z1s,z1t,z1u,z1v,z1w,z1x,z1y,z1z,z20,z21,z22,z23,z24,z25,z26,z27,z28,z29,z2a,z2b,z2c,z2d,z2e,z2f,z2g,z2h,z2i,z2j,z2k,z2l,z2m,z2n,z2o,z2p,z2q,z2r,z2s,z2t,z2u,z2v,z2w,z2x,z2y,z2z,z30,z31,z32,z33,z34,z35,z36,z37,z38,z39,z3a,z3b,z3c,z3d,z3e,z3f,z3g,z3h,z3i,z3j,z3k,z3l,z3m,z3n,z3o,z3p,z3q,z3r,z3s,z3t,z3u,z3v,z3w,z3x,z3y,z3z,z40,z41,z42,z43,z44,z45,z46,z47,z48,z49,z4a,z4b,z4c,z4d,z4e,z4f,z4g,z4h,z4i,z4j,z4k,z4l,z4m,z4n,z4o,z4p,z4q,z4r,z4s,z4t,z4u,z4v,z4w,z4x,z4y,z4z,z50,z51,z52,z53,z54,z55,z56,z57,z58,z59,z5a,z5b,z5c,z5d,z5e,z5f,z5g,z5h,z5i,z5j,z5k,z5l,z5m,z5n,z5o,z5p,z5q,z5r,z5s,z5t,z5u,z5v,z5w,z5x,z5y,z5z,z60,z61,z62,z63,z64,z65,z66,z67,z68,z69,allV,allP,z6a,z6b,z6c,z6d,z6e,z6f,z6g,z6h,z6i,z6j,z6k,z6l,z6m,Option.map_some,Option.map_none,Option.some.injEq,reduceIte,reduceCtorEq,Nat.reduceEqDiff,Nat.reduceAdd,Nat.reduceMul,Nat.reduceLT,Nat.reduceSub,Int.reduceLT,Int.reduceLE,Int.reduceEq,Int.reduceNe,Int.reduceSub,Int.reduceAdd,Int.reduceMul,Int.reduceBEq,Int.reduceBNe,Int.reduceGT,Int.reduceGE,Nat.reduceGT,Int.reduceToNat,Int.reduceNeg,Nat.reduceLeDiff,Nat.reduceBEq,Nat.reduceBneDiff,binV,eqV,unV,oOpt,true_and,and_true,Value.cells,List.length_cons,List.length_nil,List.append_nil,List.nil_append,List.cons_append,List.drop_succ_cons,List.drop_zero,List.take_succ_cons,List.take_zero,List.take_nil,List.getElem?_cons_zero,List.getElem?_cons_succ,decide_true,decide_false,decide_eq_true_eq,decide_eq_false_iff_not,Bool.false_eq_true,Bool.true_eq_false,Bool.not_true,Bool.not_false,Bool.not_eq_true',Bool.not_eq_false',Bool.not_eq_true,Bool.not_eq_false,false_implies,true_implies,beq_iff_eq,beq_eq_false_iff_ne,bne_iff_ne,bne_eq_false_iff_eq,ne_eq,ge_iff_le,gt_iff_lt,Int.not_lt,Int.not_le,not_true_eq_false,not_false_eq_true,if_true,if_false,z6n,z6o,z6p,z6q,Heap.set_set,z6r,z6s,z6t,z6u,z6v,z6w,List.getElem_cons_zero,List.getElem_cons_succ,List.set_cons_zero,List.set_cons_succ,List.length_set,List.all_cons,List.all_nil,Bool.and_true,Bool.true_and,Bool.and_self,Nat.add_zero,Nat.zero_add,Nat.zero_lt_succ,Int.cast_ofNat_Int,List.size_toArray,List.flatten_replicate_singleton,Nat.mul_one,Nat.le_refl,Nat.lt_irrefl,Nat.le_add_left]
  intro b4 hb4
  try simp -implicitDefEqProofs only [z00,z01,z02,z03,z04,z05,z06,z07,z08,z09,z0a,z0b,z0c,z0d,z0e,z0f,z0g,z0h,z0i,z0j,z0k,z0l,z0m,z0n,retO,retL,retV,z0o,z0p,z0q,z0r,z0s,z0t,z0u,z0v,z0w,z0x,z0y,z0z,z10,z11,z12,z13,z14,z15,z16,z17,z18,z19,z1a,z1b,z1c,z1d,z1e,z1f,z1g,z1h,z1i,z1j,z1k,z1l,z1m,z1n,z1o,z1p,z1q,z1r,z1s,z1t,z1u,z1v,z1w,z1x,z1y,z1z,z20,z21,z22,z23,z24,z25,z26,z27,z28,z29,z2a,z2b,z2c,z2d,z2e,z2f,z2g,z2h,z2i,z2j,z2k,z2l,z2m,z2n,z2o,z2p,z2q,z2r,z2s,z2t,z2u,z2v,z2w,z2x,z2y,z2z,z30,z31,z32,z33,z34,z35,z36,z37,z38,z39,z3a,z3b,z3c,z3d,z3e,z3f,z3g,z3h,z3i,z3j,z3k,z3l,z3m,z3n,z3o,z3p,z3q,z3r,z3s,z3t,z3u,z3v,z3w,z3x,z3y,z3z,z40,z41,z42,z43,z44,z45,z46,z47,z48,z49,z4a,z4b,z4c,z4d,z4e,z4f,z4g,z4h,z4i,z4j,z4k,z4l,z4m,z4n,z4o,z4p,z4q,z4r,z4s,z4t,z4u,z4v,z4w,z4x,z4y,z4z,z50,z51,z52,z53,z54,z55,z56,z57,z58,z59,z5a,z5b,z5c,z5d,z5e,z5f,z5g,z5h,z5i,z5j,z5k,z5l,z5m,z5n,z5o,z5p,z5q,z5r,z5s,z5t,z5u,z5v,z5w,z5x,z5y,z5z,z60,z61,z62,z63,z64,z65,z66,z67,z68,z69,allV,allP,z6a,z6b,z6c,z6d,z6e,z6f,z6g,z6h,z6i,z6j,z6k,z6l,z6m,Option.map_some,Option.map_none,Option.some.injEq,reduceIte,reduceCtorEq,Nat.reduceEqDiff,Nat.reduceAdd,Nat.reduceMul,Nat.reduceLT,Nat.reduceSub,Int.reduceLT,Int.reduceLE,Int.reduceEq,Int.reduceNe,Int.reduceSub,Int.reduceAdd,Int.reduceMul,Int.reduceBEq,Int.reduceBNe,Int.reduceGT,Int.reduceGE,Nat.reduceGT,Int.reduceToNat,Int.reduceNeg,Nat.reduceLeDiff,Nat.reduceBEq,Nat.reduceBneDiff,binV,eqV,unV,oOpt,true_and,and_true,Value.cells,List.length_cons,List.length_nil,List.append_nil,List.nil_append,List.cons_append,List.drop_succ_cons,List.drop_zero,List.take_succ_cons,List.take_zero,List.take_nil,List.getElem?_cons_zero,List.getElem?_cons_succ,decide_true,decide_false,decide_eq_true_eq,decide_eq_false_iff_not,Bool.false_eq_true,Bool.true_eq_false,Bool.not_true,Bool.not_false,Bool.not_eq_true',Bool.not_eq_false',Bool.not_eq_true,Bool.not_eq_false,false_implies,true_implies,beq_iff_eq,beq_eq_false_iff_ne,bne_iff_ne,bne_eq_false_iff_eq,ne_eq,ge_iff_le,gt_iff_lt,Int.not_lt,Int.not_le,not_true_eq_false,not_false_eq_true,if_true,if_false,z6n,z6o,z6p,z6q,Heap.set_set,z6r,z6s,z6t,z6u,z6v,z6w,List.getElem_cons_zero,List.getElem_cons_succ,List.set_cons_zero,List.set_cons_succ,List.length_set,List.all_cons,List.all_nil,Bool.and_true,Bool.true_and,Bool.and_self,Nat.add_zero,Nat.zero_add,Nat.zero_lt_succ,Int.cast_ofNat_Int,List.size_toArray,List.flatten_replicate_singleton,Nat.mul_one,Nat.le_refl,Nat.lt_irrefl,Nat.le_add_left]
  rw [List.length_replicate]
  have nb42 := ne_of_none hb4 p25
  have nb4t := ne_of_none hb4 hb5
  have le6 : h1.le (h5.set b4 (.own 0 (List.replicate 32 (.int .u8 0)) 32)) := Heap.le_new le5 hb4 _
  have p46 : (h5.set b4 (.own 0 (List.replicate 32 (.int .u8 0)) 32)) b4 = some (.own 0 ((outF (absorb hs (rest ++ paddingF n)).1 0 ++ List.replicate (32 - 4 * 0) 0).map u8V) 32) := by rw [Heap.set_self]; rfl
  have p26 : (h5.set b4 (.own 0 (List.replicate 32 (.int .u8 0)) 32)) b2 = some (.own 0 (List.replicate 32 (.int .u8 0)) 32) := by rw [Heap.set_ne nb42]; exact p25
  have hb6 : (h5.set b4 (.own 0 (List.replicate 32 (.int .u8 0)) 32)) bt = some (.own 0 (sumC (absorb hs (rest ++ paddingF n)).1 v5 ((rest.length + (paddingF n).length : Nat) : Int)) 74) := by rw [Heap.set_ne nb4t]; exact hb5
  generalize (h5.set b4 (.own 0 (List.replicate 32 (.int .u8 0)) 32)) = H0 at le6 p46 p26 hb6
  have hb4' : h1 b4 = none := Heap.none_of_le le5 hb4
  have hsend : shaEnd hs rest n = outF (absorb hs (rest ++ paddingF n)).1 8 := rfl
  rw [hsend]
  generalize (absorb hs (rest ++ paddingF n)).1 = F at p46 hb6
  have c8 : hcells H0 ⟨bt, 0, none⟩ 8 = some (rowU F 8) := by rw [hcells_at hb6 (by rw [sumC_len]; omega), sumC_h]
  simp -implicitDefEqProofs only [z00,z01,z02,z03,z04,z05,z06,z07,z08,z09,z0a,z0b,z0c,z0d,z0e,z0f,z0g,z0h,z0i,z0j,z0k,z0l,z0m,z0n,retO,retL,retV,z0o,z0p,z0q,z0r,z0s,z0t,z0u,z0v,z0w,z0x,z0y,z0z,z10,z11,z12,z13,z14,z15,z16,z17,z18,z19,z1a,z1b,z1c,z1d,z1e,z1f,z1g,z1h,z1i,z1j,z1k,z1l,z1m,z1n,z1o,z1p,z1q,z1r,z1s,z1t,z1u,z1v,z1w,z1x,z1y,z1z,z20,z21,z22,z23,z24,z25,z26,z27,z28,z29,z2a,z2b,z2c,z2d,z2e,z2f,z2g,z2h,z2i,z2j,z2k,z2l,z2m,z2n,z2o,z2p,z2q,z2r,z2s,z2t,z2u,z2v,z2w,z2x,z2y,z2z,z30,z31,z32,z33,z34,z35,z36,z37,z38,z39,z3a,z3b,z3c,z3d,z3e,z3f,z3g,z3h,z3i,z3j,z3k,z3l,z3m,z3n,z3o,z3p,z3q,z3r,z3s,z3t,z3u,z3v,z3w,z3x,z3y,z3z,z40,z41,z42,z43,z44,z45,z46,z47,z48,z49,z4a,z4b,z4c,z4d,z4e,z4f,z4g,z4h,z4i,z4j,z4k,z4l,z4m,z4n,z4o,z4p,z4q,z4r,z4s,z4t,z4u,z4v,z4w,z4x,z4y,z4z,z50,z51,z52,z53,z54,z55,z56,z57,z58,z59,z5a,z5b,z5c,z5d,z5e,z5f,z5g,z5h,z5i,z5j,z5k,z5l,z5m,z5n,z5o,z5p,z5q,z5r,z5s,z5t,z5u,z5v,z5w,z5x,z5y,z5z,z60,z61,z62,z63,z64,z65,z66,z67,z68,z69,allV,allP,z6a,z6b,z6c,z6d,z6e,z6f,z6g,z6h,z6i,z6j,z6k,z6l,z6m,Option.map_some,Option.map_none,Option.some.injEq,reduceIte,reduceCtorEq,Nat.reduceEqDiff,Nat.reduceAdd,Nat.reduceMul,Nat.reduceLT,Nat.reduceSub,Int.reduceLT,Int.reduceLE,Int.reduceEq,Int.reduceNe,Int.reduceSub,Int.reduceAdd,Int.reduceMul,Int.reduceBEq,Int.reduceBNe,Int.reduceGT,Int.reduceGE,Nat.reduceGT,Int.reduceToNat,Int.reduceNeg,Nat.reduceLeDiff,Nat.reduceBEq,Nat.reduceBneDiff,binV,eqV,unV,oOpt,true_and,and_true,Value.cells,List.length_cons,List.length_nil,List.append_nil,List.nil_append,List.cons_append,List.drop_succ_cons,List.drop_zero,List.take_succ_cons,List.take_zero,List.take_nil,List.getElem?_cons_zero,List.getElem?_cons_succ,decide_true,decide_false,decide_eq_true_eq,decide_eq_false_iff_not,Bool.false_eq_true,Bool.true_eq_false,Bool.not_true,Bool.not_false,Bool.not_eq_true',Bool.not_eq_false',Bool.not_eq_true,Bool.not_eq_false,false_implies,true_implies,beq_iff_eq,beq_eq_false_iff_ne,bne_iff_ne,bne_eq_false_iff_eq,ne_eq,ge_iff_le,gt_iff_lt,Int.not_lt,Int.not_le,not_true_eq_false,not_false_eq_true,if_true,if_false,z6n,z6o,z6p,z6q,Heap.set_set,z6r,z6s,z6t,z6u,z6v,z6w,List.getElem_cons_zero,List.getElem_cons_succ,List.set_cons_zero,List.set_cons_succ,List.length_set,List.all_cons,List.all_nil,Bool.and_true,Bool.true_and,Bool.and_self,Nat.add_zero,Nat.zero_add,Nat.zero_lt_succ,Int.cast_ofNat_Int,List.size_toArray,List.flatten_replicate_singleton,Nat.mul_one,Nat.le_refl,Nat.lt_irrefl,Nat.le_add_left, c8]
  refine wp_loop' (fun m t H => h1.le H ∧ ∃ (i : Nat), t = tl [(2, .pointer (some ⟨b2, 0, none⟩)), (4, .pointer (some ⟨b4, 0, none⟩)), (33, .agg (rowU F 8).toArray), (34, .int .i64 i)] ∧ i ≤ 8 ∧ m = 8 - i ∧
      H b2 = some (.own 0 (List.replicate 32 (.int .u8 0)) 32) ∧ H b4 = some (.own 0 ((outF F i ++ List.replicate (32 - 4 * i) 0).map u8V) 32)) 8
    ⟨le6, 0, rfl, by omega, by omega, p26, p46⟩ ?_
  rintro m t H ⟨leH, i, rfl, hi, rfl, q2, q4⟩
  by_cases hlt : i < 8
  · have hi1 : (i : Int) < 8 := by omega
    have hi2 : (0 : Int) ≤ i := by omega
    have w1 : IntKind.i64.wrap ((i : Int) + 1) = ((i + 1 : Nat) : Int) := wrapN (by omega)
    have gi : (rowU F 8)[i]? = some (.int .u32 (F i).toNat) := by simp [rowU, hlt]
    have w4 : IntKind.i64.wrap (4 * (i : Int)) = ((4 * i : Nat) : Int) := by rw [wrapI (by omega) (by omega)]; omega
    have bd : bnds 32 32 (some (some (.int .i64 ((4 * i : Nat) : Int)))) none none = some (4 * i, 32, 32) := by rw [bnds_lo (by omega) (by omega), Int.toNat_natCast]
    simp -implicitDefEqProofs only [z00,z01,z02,z03,z04,z05,z06,z07,z08,z09,z0a,z0b,z0c,z0d,z0e,z0f,z0g,z0h,z0i,z0j,z0k,z0l,z0m,z0n,retO,retL,retV,z0o,z0p,z0q,z0r,z0s,z0t,z0u,z0v,z0w,z0x,z0y,z0z,z10,z11,z12,z13,z14,z15,z16,z17,z18,z19,z1a,z1b,z1c,z1d,z1e,z1f,z1g,z1h,z1i,z1j,z1k,z1l,z1m,z1n,z1o,z1p,z1q,z1r,z1s,z1t,z1u,z1v,z1w,z1x,z1y,z1z,z20,z21,z22,z23,z24,z25,z26,z27,z28,z29,z2a,z2b,z2c,z2d,z2e,z2f,z2g,z2h,z2i,z2j,z2k,z2l,z2m,z2n,z2o,z2p,z2q,z2r,z2s,z2t,z2u,z2v,z2w,z2x,z2y,z2z,z30,z31,z32,z33,z34,z35,z36,z37,z38,z39,z3a,z3b,z3c,z3d,z3e,z3f,z3g,z3h,z3i,z3j,z3k,z3l,z3m,z3n,z3o,z3p,z3q,z3r,z3s,z3t,z3u,z3v,z3w,z3x,z3y,z3z,z40,z41,z42,z43,z44,z45,z46,z47,z48,z49,z4a,z4b,z4c,z4d,z4e,z4f,z4g,z4h,z4i,z4j,z4k,z4l,z4m,z4n,z4o,z4p,z4q,z4r,z4s,z4t,z4u,z4v,z4w,z4x,z4y,z4z,z50,z51,z52,z53,z54,z55,z56,z57,z58,z59,z5a,z5b,z5c,z5d,z5e,z5f,z5g,z5h,z5i,z5j,z5k,z5l,z5m,z5n,z5o,z5p,z5q,z5r,z5s,z5t,z5u,z5v,z5w,z5x,z5y,z5z,z60,z61,z62,z63,z64,z65,z66,z67,z68,z69,allV,allP,z6a,z6b,z6c,z6d,z6e,z6f,z6g,z6h,z6i,z6j,z6k,z6l,z6m,Option.map_some,Option.map_none,Option.some.injEq,reduceIte,reduceCtorEq,Nat.reduceEqDiff,Nat.reduceAdd,Nat.reduceMul,Nat.reduceLT,Nat.reduceSub,Int.reduceLT,Int.reduceLE,Int.reduceEq,Int.reduceNe,Int.reduceSub,Int.reduceAdd,Int.reduceMul,Int.reduceBEq,Int.reduceBNe,Int.reduceGT,Int.reduceGE,Nat.reduceGT,Int.reduceToNat,Int.reduceNeg,Nat.reduceLeDiff,Nat.reduceBEq,Nat.reduceBneDiff,binV,eqV,unV,oOpt,true_and,and_true,Value.cells,List.length_cons,List.length_nil,List.append_nil,List.nil_append,List.cons_append,List.drop_succ_cons,List.drop_zero,List.take_succ_cons,List.take_zero,List.take_nil,List.getElem?_cons_zero,List.getElem?_cons_succ,decide_true,decide_false,decide_eq_true_eq,decide_eq_false_iff_not,Bool.false_eq_true,Bool.true_eq_false,Bool.not_true,Bool.not_false,Bool.not_eq_true',Bool.not_eq_false',Bool.not_eq_true,Bool.not_eq_false,false_implies,true_implies,beq_iff_eq,beq_eq_false_iff_ne,bne_iff_ne,bne_eq_false_iff_eq,ne_eq,ge_iff_le,gt_iff_lt,Int.not_lt,Int.not_le,not_true_eq_false,not_false_eq_true,if_true,if_false,z6n,z6o,z6p,z6q,Heap.set_set,z6r,z6s,z6t,z6u,z6v,z6w,List.getElem_cons_zero,List.getElem_cons_succ,List.set_cons_zero,List.set_cons_succ,List.length_set,List.all_cons,List.all_nil,Bool.and_true,Bool.true_and,Bool.and_self,Nat.add_zero,Nat.zero_add,Nat.zero_lt_succ,Int.cast_ofNat_Int,List.size_toArray,List.flatten_replicate_singleton,Nat.mul_one,Nat.le_refl,Nat.lt_irrefl,Nat.le_add_left, hi1, hi2, Int.toNat_natCast, gi, u32_u64]
    refine (octet_Big_c E H [] (by simp) (.inl ⟨rfl, rfl, rfl⟩) ((F i).setWidth 64) 4 (by omega)).mono ?_
    rintro vb h6 ⟨le6', owb⟩
    rw [List.nil_append] at owb
    have q4' := le6' _ _ q4
    simp -implicitDefEqProofs only [z00,z01,z02,z03,z04,z05,z06,z07,z08,z09,z0a,z0b,z0c,z0d,z0e,z0f,z0g,z0h,z0i,z0j,z0k,z0l,z0m,z0n,retO,retL,retV,z0o,z0p,z0q,z0r,z0s,z0t,z0u,z0v,z0w,z0x,z0y,z0z,z10,z11,z12,z13,z14,z15,z16,z17,z18,z19,z1a,z1b,z1c,z1d,z1e,z1f,z1g,z1h,z1i,z1j,z1k,z1l,z1m,z1n,z1o,z1p,z1q,z1r,z1s,z1t,z1u,z1v,z1w,z1x,z1y,z1z,z20,z21,z22,z23,z24,z25,z26,z27,z28,z29,z2a,z2b,z2c,z2d,z2e,z2f,z2g,z2h,z2i,z2j,z2k,z2l,z2m,z2n,z2o,z2p,z2q,z2r,z2s,z2t,z2u,z2v,z2w,z2x,z2y,z2z,z30,z31,z32,z33,z34,z35,z36,z37,z38,z39,z3a,z3b,z3c,z3d,z3e,z3f,z3g,z3h,z3i,z3j,z3k,z3l,z3m,z3n,z3o,z3p,z3q,z3r,z3s,z3t,z3u,z3v,z3w,z3x,z3y,z3z,z40,z41,z42,z43,z44,z45,z46,z47,z48,z49,z4a,z4b,z4c,z4d,z4e,z4f,z4g,z4h,z4i,z4j,z4k,z4l,z4m,z4n,z4o,z4p,z4q,z4r,z4s,z4t,z4u,z4v,z4w,z4x,z4y,z4z,z50,z51,z52,z53,z54,z55,z56,z57,z58,z59,z5a,z5b,z5c,z5d,z5e,z5f,z5g,z5h,z5i,z5j,z5k,z5l,z5m,z5n,z5o,z5p,z5q,z5r,z5s,z5t,z5u,z5v,z5w,z5x,z5y,z5z,z60,z61,z62,z63,z64,z65,z66,z67,z68,z69,allV,allP,z6a,z6b,z6c,z6d,z6e,z6f,z6g,z6h,z6i,z6j,z6k,z6l,z6m,Option.map_some,Option.map_none,Option.some.injEq,reduceIte,reduceCtorEq,Nat.reduceEqDiff,Nat.reduceAdd,Nat.reduceMul,Nat.reduceLT,Nat.reduceSub,Int.reduceLT,Int.reduceLE,Int.reduceEq,Int.reduceNe,Int.reduceSub,Int.reduceAdd,Int.reduceMul,Int.reduceBEq,Int.reduceBNe,Int.reduceGT,Int.reduceGE,Nat.reduceGT,Int.reduceToNat,Int.reduceNeg,Nat.reduceLeDiff,Nat.reduceBEq,Nat.reduceBneDiff,binV,eqV,unV,oOpt,true_and,and_true,Value.cells,List.length_cons,List.length_nil,List.append_nil,List.nil_append,List.cons_append,List.drop_succ_cons,List.drop_zero,List.take_succ_cons,List.take_zero,List.take_nil,List.getElem?_cons_zero,List.getElem?_cons_succ,decide_true,decide_false,decide_eq_true_eq,decide_eq_false_iff_not,Bool.false_eq_true,Bool.true_eq_false,Bool.not_true,Bool.not_false,Bool.not_eq_true',Bool.not_eq_false',Bool.not_eq_true,Bool.not_eq_false,false_implies,true_implies,beq_iff_eq,beq_eq_false_iff_ne,bne_iff_ne,bne_eq_false_iff_eq,ne_eq,ge_iff_le,gt_iff_lt,Int.not_lt,Int.not_le,not_true_eq_false,not_false_eq_true,if_true,if_false,z6n,z6o,z6p,z6q,Heap.set_set,z6r,z6s,z6t,z6u,z6v,z6w,List.getElem_cons_zero,List.getElem_cons_succ,List.set_cons_zero,List.set_cons_succ,List.length_set,List.all_cons,List.all_nil,Bool.and_true,Bool.true_and,Bool.and_self,Nat.add_zero,Nat.zero_add,Nat.zero_lt_succ,Int.cast_ofNat_Int,List.size_toArray,List.flatten_replicate_singleton,Nat.mul_one,Nat.le_refl,Nat.lt_irrefl,Nat.le_add_left, w4, bd, implies_true]
    have ea : (if 32 = 4 * i then (⟨b4, 0, none⟩ : Addr) else Addr.add ⟨b4, 0, none⟩ (4 * i)) = ⟨b4, 4 * i, none⟩ := by rw [if_neg (by omega), add_off', Nat.zero_add]
    rw [ea]
    refine copyP_own (size := 1) (m := 4) q4' (by simp [outF_len]; omega) (by simp [outF_len]) (by have := owb.sl; rwa [bigF_len] at this) (one_u8 _) ?_
    rw [out_splice F i hlt]
    simp -implicitDefEqProofs only [z00,z01,z02,z03,z04,z05,z06,z07,z08,z09,z0a,z0b,z0c,z0d,z0e,z0f,z0g,z0h,z0i,z0j,z0k,z0l,z0m,z0n,retO,retL,retV,z0o,z0p,z0q,z0r,z0s,z0t,z0u,z0v,z0w,z0x,z0y,z0z,z10,z11,z12,z13,z14,z15,z16,z17,z18,z19,z1a,z1b,z1c,z1d,z1e,z1f,z1g,z1h,z1i,z1j,z1k,z1l,z1m,z1n,z1o,z1p,z1q,z1r,z1s,z1t,z1u,z1v,z1w,z1x,z1y,z1z,z20,z21,z22,z23,z24,z25,z26,z27,z28,z29,z2a,z2b,z2c,z2d,z2e,z2f,z2g,z2h,z2i,z2j,z2k,z2l,z2m,z2n,z2o,z2p,z2q,z2r,z2s,z2t,z2u,z2v,z2w,z2x,z2y,z2z,z30,z31,z32,z33,z34,z35,z36,z37,z38,z39,z3a,z3b,z3c,z3d,z3e,z3f,z3g,z3h,z3i,z3j,z3k,z3l,z3m,z3n,z3o,z3p,z3q,z3r,z3s,z3t,z3u,z3v,z3w,z3x,z3y,z3z,z40,z41,z42,z43,z44,z45,z46,z47,z48,z49,z4a,z4b,z4c,z4d,z4e,z4f,z4g,z4h,z4i,z4j,z4k,z4l,z4m,z4n,z4o,z4p,z4q,z4r,z4s,z4t,z4u,z4v,z4w,z4x,z4y,z4z,z50,z51,z52,z53,z54,z55,z56,z57,z58,z59,z5a,z5b,z5c,z5d,z5e,z5f,z5g,z5h,z5i,z5j,z5k,z5l,z5m,z5n,z5o,z5p,z5q,z5r,z5s,z5t,z5u,z5v,z5w,z5x,z5y,z5z,z60,z61,z62,z63,z64,z65,z66,z67,z68,z69,allV,allP,z6a,z6b,z6c,z6d,z6e,z6f,z6g,z6h,z6i,z6j,z6k,z6l,z6m,Option.map_some,Option.map_none,Option.some.injEq,reduceIte,reduceCtorEq,Nat.reduceEqDiff,Nat.reduceAdd,Nat.reduceMul,Nat.reduceLT,Nat.reduceSub,Int.reduceLT,Int.reduceLE,Int.reduceEq,Int.reduceNe,Int.reduceSub,Int.reduceAdd,Int.reduceMul,Int.reduceBEq,Int.reduceBNe,Int.reduceGT,Int.reduceGE,Nat.reduceGT,Int.reduceToNat,Int.reduceNeg,Nat.reduceLeDiff,Nat.reduceBEq,Nat.reduceBneDiff,binV,eqV,unV,oOpt,true_and,and_true,Value.cells,List.length_cons,List.length_nil,List.append_nil,List.nil_append,List.cons_append,List.drop_succ_cons,List.drop_zero,List.take_succ_cons,List.take_zero,List.take_nil,List.getElem?_cons_zero,List.getElem?_cons_succ,decide_true,decide_false,decide_eq_true_eq,decide_eq_false_iff_not,Bool.false_eq_true,Bool.true_eq_false,Bool.not_true,Bool.not_false,Bool.not_eq_true',Bool.not_eq_false',Bool.not_eq_true,Bool.not_eq_false,false_implies,true_implies,beq_iff_eq,beq_eq_false_iff_ne,bne_iff_ne,bne_eq_false_iff_eq,ne_eq,ge_iff_le,gt_iff_lt,Int.not_lt,Int.not_le,not_true_eq_false,not_false_eq_true,if_true,if_false,z6n,z6o,z6p,z6q,Heap.set_set,z6r,z6s,z6t,z6u,z6v,z6w,List.getElem_cons_zero,List.getElem_cons_succ,List.set_cons_zero,List.set_cons_succ,List.length_set,List.all_cons,List.all_nil,Bool.and_true,Bool.true_and,Bool.and_self,Nat.add_zero,Nat.zero_add,Nat.zero_lt_succ,Int.cast_ofNat_Int,List.size_toArray,List.flatten_replicate_singleton,Nat.mul_one,Nat.le_refl,Nat.lt_irrefl,Nat.le_add_left, w1]
    refine ⟨_, by omega, Heap.le_set (Heap.le_trans leH le6') hb4' _, i + 1, rfl, hlt, rfl, by rw [Heap.set_ne (Ne.symm (fun e => nb42 e.symm))]; exact le6' _ _ q2, Heap.set_self _ _ _⟩
  · have hi1 : ¬ (i : Int) < 8 := by omega
    have : i = 8 := by omega
    subst this
    have e0 : (outF F 8 ++ List.replicate (32 - 4 * 8) 0) = outF F 8 := by simp
    rw [e0] at q4
    have hl : hcells H ⟨b4, 0, none⟩ 32 = some ((outF F 8).map u8V) := by rw [hcells_at q4 (by simp [outF_len])]; simp [List.take_of_length_le, outF_len]
    have st : storeV H 32 (.pointer (some ⟨b2, 0, none⟩)) (.agg ((outF F 8).map u8V).toArray) = some (H.set b2 (.own 0 ((outF F 8).map u8V) 32)) := storeV_agg_at q2 (by omega) (by simp [outF_len]) (one_u8 _) (by simp) (by omega)
    have hl2 : hcells (H.set b2 (.own 0 ((outF F 8).map u8V) 32)) ⟨b2, 0, none⟩ 32 = some ((outF F 8).map u8V) := z6o (by simp [outF_len])
    simp -implicitDefEqProofs only [z00,z01,z02,z03,z04,z05,z06,z07,z08,z09,z0a,z0b,z0c,z0d,z0e,z0f,z0g,z0h,z0i,z0j,z0k,z0l,z0m,z0n,retO,retL,retV,z0o,z0p,z0q,z0r,z0s,z0t,z0u,z0v,z0w,z0x,z0y,z0z,z10,z11,z12,z13,z14,z15,z16,z17,z18,z19,z1a,z1b,z1c,z1d,z1e,z1f,z1g,z1h,z1i,z1j,z1k,z1l,z1m,z1n,z1o,z1p,z1q,z1r,z1s,z1t,z1u,z1v,z1w,z1x,z1y,z1z,z20,z21,z22,z23,z24,z25,z26,z27,z28,z29,z2a,z2b,z2c,z2d,z2e,z2f,z2g,z2h,z2i,z2j,z2k,z2l,z2m,z2n,z2o,z2p,z2q,z2r,z2s,z2t,z2u,z2v,z2w,z2x,z2y,z2z,z30,z31,z32,z33,z34,z35,z36,z37,z38,z39,z3a,z3b,z3c,z3d,z3e,z3f,z3g,z3h,z3i,z3j,z3k,z3l,z3m,z3n,z3o,z3p,z3q,z3r,z3s,z3t,z3u,z3v,z3w,z3x,z3y,z3z,z40,z41,z42,z43,z44,z45,z46,z47,z48,z49,z4a,z4b,z4c,z4d,z4e,z4f,z4g,z4h,z4i,z4j,z4k,z4l,z4m,z4n,z4o,z4p,z4q,z4r,z4s,z4t,z4u,z4v,z4w,z4x,z4y,z4z,z50,z51,z52,z53,z54,z55,z56,z57,z58,z59,z5a,z5b,z5c,z5d,z5e,z5f,z5g,z5h,z5i,z5j,z5k,z5l,z5m,z5n,z5o,z5p,z5q,z5r,z5s,z5t,z5u,z5v,z5w,z5x,z5y,z5z,z60,z61,z62,z63,z64,z65,z66,z67,z68,z69,allV,allP,z6a,z6b,z6c,z6d,z6e,z6f,z6g,z6h,z6i,z6j,z6k,z6l,z6m,Option.map_some,Option.map_none,Option.some.injEq,reduceIte,reduceCtorEq,Nat.reduceEqDiff,Nat.reduceAdd,Nat.reduceMul,Nat.reduceLT,Nat.reduceSub,Int.reduceLT,Int.reduceLE,Int.reduceEq,Int.reduceNe,Int.reduceSub,Int.reduceAdd,Int.reduceMul,Int.reduceBEq,Int.reduceBNe,Int.reduceGT,Int.reduceGE,Nat.reduceGT,Int.reduceToNat,Int.reduceNeg,Nat.reduceLeDiff,Nat.reduceBEq,Nat.reduceBneDiff,binV,eqV,unV,oOpt,true_and,and_true,Value.cells,List.length_cons,List.length_nil,List.append_nil,List.nil_append,List.cons_append,List.drop_succ_cons,List.drop_zero,List.take_succ_cons,List.take_zero,List.take_nil,List.getElem?_cons_zero,List.getElem?_cons_succ,decide_true,decide_false,decide_eq_true_eq,decide_eq_false_iff_not,Bool.false_eq_true,Bool.true_eq_false,Bool.not_true,Bool.not_false,Bool.not_eq_true',Bool.not_eq_false',Bool.not_eq_true,Bool.not_eq_false,false_implies,true_implies,beq_iff_eq,beq_eq_false_iff_ne,bne_iff_ne,bne_eq_false_iff_eq,ne_eq,ge_iff_le,gt_iff_lt,Int.not_lt,Int.not_le,not_true_eq_false,not_false_eq_true,if_true,if_false,z6n,z6o,z6p,z6q,Heap.set_set,z6r,z6s,z6t,z6u,z6v,z6w,List.getElem_cons_zero,List.getElem_cons_succ,List.set_cons_zero,List.set_cons_succ,List.length_set,List.all_cons,List.all_nil,Bool.and_true,Bool.true_and,Bool.and_self,Nat.add_zero,Nat.zero_add,Nat.zero_lt_succ,Int.cast_ofNat_Int,List.size_toArray,List.flatten_replicate_singleton,Nat.mul_one,Nat.le_refl,Nat.lt_irrefl,Nat.le_add_left, hi1, hl, st, hl2]
    exact Heap.le_set (Heap.le_trans le1 leH) hb2 _

/-- A slice of slices of bytes. -/
def SlL (h : Heap) (v : Value) (L : List (List UInt8)) : Prop := ∃ vs : List Value, vs.length = L.length ∧ Sl h 1 v L.length vs ∧ ∀ i (h1 : i < vs.length) (h2 : i < L.length), SlB h vs[i] L[i]
theorem SlL.le {h h' : Heap} {v : Value} {L : List (List UInt8)} (x : h.le h') (s : SlL h v L) : SlL h' v L := by
  obtain ⟨vs, h1, h2, h3⟩ := s
  exact ⟨vs, h1, h2.le x, fun i a b => (h3 i a b).le x⟩
def shaF (l : List UInt8) : List UInt8 := shaEnd (absorb startF l).1 (absorb startF l).2 l.length
theorem shaF_len (l : List UInt8) : (shaF l).length = 32 := by unfold shaF shaEnd; rw [outF_len]

theorem sha_Of_c (E : EnvT tab) (h : Heap) {v : Value} (L : List (List UInt8)) (hl : L.length ≤ 1000) (ht : L.flatten.length ≤ 100000000) (s : SlL h v L) :
    ACallN E.toEnv n_sha_Of [v] h fun r h' => h.le h' ∧ r = .agg ((shaF L.flatten).map u8V).toArray := by
  obtain ⟨vs, hvs, sl, el⟩ := s
  obtain ⟨base, c, rfl⟩ := Sl.shape sl
  refine acall h_sha_Of ir_sha_Of rfl rfl (wpA_sound ?_)
  unfold ir_sha_Of
  simp -implicitDefEqProofs only [z00,z01,z02,z03,z04,z05,z06,z07,z08,z09,z0a,z0b,z0c,z0d,z0e,z0f,z0g,z0h,z0i,z0j,z0k,z0l,z0m,z0n,retO,retL,retV,z0o,z0p,z0q,z0r,z0s,z0t,z0u,z0v,z0w,z0x,z0y,z0z,z10,z11,z12,z13,z14,z15,z16,z17,z18,z19,z1a,z1b,z1c,z1d,z1e,z1f,z1g,z1h,z1i,z1j,z1k,z1l,z1m,z1n,z1o,z1p,z1q,z1r,z1s,z1t,z1u,z1v,z1w,z1x,z1y,z1z,z20,z21,z22,z23,z24,z25,z26,z27,z28,z29,z2a,z2b,z2c,z2d,z2e,z2f,z2g,z2h,z2i,z2j,z2k,z2l,z2m,z2n,z2o,z2p,z2q,z2r,z2s,z2t,z2u,z2v,z2w,z2x,z2y,z2z,z30,z31,z32,z33,z34,z35,z36,z37,z38,z39,z3a,z3b,z3c,z3d,z3e,z3f,z3g,z3h,z3i,z3j,z3k,z3l,z3m,z3n,z3o,z3p,z3q,z3r,z3s,z3t,z3u,z3v,z3w,z3x,z3y,z3z,z40,z41,z42,z43,z44,z45,z46,z47,z48,z49,z4a,z4b,z4c,z4d,z4e,z4f,z4g,z4h,z4i,z4j,z4k,z4l,z4m,z4n,z4o,z4p,z4q,z4r,z4s,z4t,z4u,z4v,z4w,z4x,z4y,z4z,z50,z51,z52,z53,z54,z55,z56,z57,z58,z59,z5a,z5b,z5c,z5d,z5e,z5f,z5g,z5h,z5i,z5j,z5k,z5l,z5m,z5n,z5o,z5p,z5q,z5r,z5s,z5t,z5u,z5v,z5w,z5x,z5y,z5z,z60,z61,z62,z63,z64,z65,z66,z67,z68,z69,allV,allP,z6a,z6b,z6c,z6d,z6e,z6f,z6g,z6h,z6i,z6j,z6k,z6l,z6m,Option.map_some,Option.map_none,Option.some.injEq,reduceIte,reduceCtorEq,Nat.reduceEqDiff,Nat.reduceAdd,Nat.reduceMul,Nat.reduceLT,Nat.reduceSub,Int.reduceLT,Int.reduceLE,Int.reduceEq,Int.reduceNe,Int.reduceSub,Int.reduceAdd,Int.reduceMul,Int.reduceBEq,Int.reduceBNe,Int.reduceGT,Int.reduceGE,Nat.reduceGT,Int.reduceToNat,Int.reduceNeg,Nat.reduceLeDiff,Nat.reduceBEq,Nat.reduceBneDiff,binV,eqV,unV,oOpt,true_and,and_true,Value.cells,List.length_cons,List.length_nil,List.append_nil,List.nil_append,List.cons_append,List.drop_succ_cons,List.drop_zero,List.take_succ_cons,List.take_zero,List.take_nil,List.getElem?_cons_zero,List.getElem?_cons_succ,decide_true,decide_false,decide_eq_true_eq,decide_eq_false_iff_not,Bool.false_eq_true,Bool.true_eq_false,Bool.not_true,Bool.not_false,Bool.not_eq_true',Bool.not_eq_false',Bool.not_eq_true,Bool.not_eq_false,false_implies,true_implies,beq_iff_eq,beq_eq_false_iff_ne,bne_iff_ne,bne_eq_false_iff_eq,ne_eq,ge_iff_le,gt_iff_lt,Int.not_lt,Int.not_le,not_true_eq_false,not_false_eq_true,if_true,if_false,z6n,z6o,z6p,z6q,Heap.set_set,z6r,z6s,z6t,z6u,z6v,z6w,List.getElem_cons_zero,List.getElem_cons_succ,List.set_cons_zero,List.set_cons_succ,List.length_set,List.all_cons,List.all_nil,Bool.and_true,Bool.true_and,Bool.and_self,Nat.add_zero,Nat.zero_add,Nat.zero_lt_succ,Int.cast_ofNat_Int,List.size_toArray,List.flatten_replicate_singleton,Nat.mul_one,Nat.le_refl,Nat.lt_irrefl,Nat.le_add_left]
  intro b2 hb2
  rw [List.length_replicate]
  have le1 : h.le (h.set b2 (.own 0 (List.replicate 32 (.int .u8 0)) 32)) := Heap.le_set (Heap.le_refl _) hb2 _
  have p2 : (h.set b2 (.own 0 (List.replicate 32 (.int .u8 0)) 32)) b2 = some (.own 0 (List.replicate 32 (.int .u8 0)) 32) := Heap.set_self _ _ _
  generalize (h.set b2 (.own 0 (List.replicate 32 (.int .u8 0)) 32)) = h1 at le1 p2
  refine (sha_New_c E h1).mono ?_
  rintro r h2 ⟨le2, bs, rfl, hbs0, hbs⟩
  simp -implicitDefEqProofs only [z00,z01,z02,z03,z04,z05,z06,z07,z08,z09,z0a,z0b,z0c,z0d,z0e,z0f,z0g,z0h,z0i,z0j,z0k,z0l,z0m,z0n,retO,retL,retV,z0o,z0p,z0q,z0r,z0s,z0t,z0u,z0v,z0w,z0x,z0y,z0z,z10,z11,z12,z13,z14,z15,z16,z17,z18,z19,z1a,z1b,z1c,z1d,z1e,z1f,z1g,z1h,z1i,z1j,z1k,z1l,z1m,z1n,z1o,z1p,z1q,z1r,z1s,z1t,z1u,z1v,z1w,z1x,z1y,z1z,z20,z21,z22,z23,z24,z25,z26,z27,z28,z29,z2a,z2b,z2c,z2d,z2e,z2f,z2g,z2h,z2i,z2j,z2k,z2l,z2m,z2n,z2o,z2p,z2q,z2r,z2s,z2t,z2u,z2v,z2w,z2x,z2y,z2z,z30,z31,z32,z33,z34,z35,z36,z37,z38,z39,z3a,z3b,z3c,z3d,z3e,z3f,z3g,z3h,z3i,z3j,z3k,z3l,z3m,z3n,z3o,z3p,z3q,z3r,z3s,z3t,z3u,z3v,z3w,z3x,z3y,z3z,z40,z41,z42,z43,z44,z45,z46,z47,z48,z49,z4a,z4b,z4c,z4d,z4e,z4f,z4g,z4h,z4i,z4j,z4k,z4l,z4m,z4n,z4o,z4p,z4q,z4r,z4s,z4t,z4u,z4v,z4w,z4x,z4y,z4z,z50,z51,z52,z53,z54,z55,z56,z57,z58,z59,z5a,z5b,z5c,z5d,z5e,z5f,z5g,z5h,z5i,z5j,z5k,z5l,z5m,z5n,z5o,z5p,z5q,z5r,z5s,z5t,z5u,z5v,z5w,z5x,z5y,z5z,z60,z61,z62,z63,z64,z65,z66,z67,z68,z69,allV,allP,z6a,z6b,z6c,z6d,z6e,z6f,z6g,z6h,z6i,z6j,z6k,z6l,z6m,Option.map_some,Option.map_none,Option.some.injEq,reduceIte,reduceCtorEq,Nat.reduceEqDiff,Nat.reduceAdd,Nat.reduceMul,Nat.reduceLT,Nat.reduceSub,Int.reduceLT,Int.reduceLE,Int.reduceEq,Int.reduceNe,Int.reduceSub,Int.reduceAdd,Int.reduceMul,Int.reduceBEq,Int.reduceBNe,Int.reduceGT,Int.reduceGE,Nat.reduceGT,Int.reduceToNat,Int.reduceNeg,Nat.reduceLeDiff,Nat.reduceBEq,Nat.reduceBneDiff,binV,eqV,unV,oOpt,true_and,and_true,Value.cells,List.length_cons,List.length_nil,List.append_nil,List.nil_append,List.cons_append,List.drop_succ_cons,List.drop_zero,List.take_succ_cons,List.take_zero,List.take_nil,List.getElem?_cons_zero,List.getElem?_cons_succ,decide_true,decide_false,decide_eq_true_eq,decide_eq_false_iff_not,Bool.false_eq_true,Bool.true_eq_false,Bool.not_true,Bool.not_false,Bool.not_eq_true',Bool.not_eq_false',Bool.not_eq_true,Bool.not_eq_false,false_implies,true_implies,beq_iff_eq,beq_eq_false_iff_ne,bne_iff_ne,bne_eq_false_iff_eq,ne_eq,ge_iff_le,gt_iff_lt,Int.not_lt,Int.not_le,not_true_eq_false,not_false_eq_true,if_true,if_false,z6n,z6o,z6p,z6q,Heap.set_set,z6r,z6s,z6t,z6u,z6v,z6w,List.getElem_cons_zero,List.getElem_cons_succ,List.set_cons_zero,List.set_cons_succ,List.length_set,List.all_cons,List.all_nil,Bool.and_true,Bool.true_and,Bool.and_self,Nat.add_zero,Nat.zero_add,Nat.zero_lt_succ,Int.cast_ofNat_Int,List.size_toArray,List.flatten_replicate_singleton,Nat.mul_one,Nat.le_refl,Nat.lt_irrefl,Nat.le_add_left]
  have sr0 : SumR h1 h2 bs startF [] 0 := ⟨hbs0, _, hbs, fun X => Ow.nil _ _ _⟩
  refine wp_loop' (fun m t H => h1.le H ∧ ∃ (i : Nat), t = tl [(2, .pointer (some ⟨b2, 0, none⟩)), (3, .pointer (some ⟨bs, 0, none⟩)), (7, .slice base L.length c), (8, .int .i64 L.length), (9, .int .i64 i)] ∧ i ≤ L.length ∧ m = L.length - i ∧
      SumR h1 H bs (absorb startF (L.take i).flatten).1 (absorb startF (L.take i).flatten).2 (L.take i).flatten.length) L.length
    ⟨le2, 0, rfl, by omega, by omega, by rw [List.take_zero, List.flatten_nil, absorb_done (by simp)]; exact sr0⟩ ?_
  rintro m t H ⟨leH, i, rfl, hi, rfl, sr⟩
  have tlen : (L.take i).flatten.length ≤ L.flatten.length := by
    have : L.flatten = (L.take i).flatten ++ (L.drop i).flatten := by rw [← List.flatten_append, List.take_append_drop]
    rw [this, List.length_append]; omega
  have al := absorb_len startF (L.take i).flatten
  by_cases hlt : i < L.length
  · have hi1 : (i : Int) < L.length := by omega
    have hi2 : (0 : Int) ≤ i := by omega
    have w1 : IntKind.i64.wrap ((i : Int) + 1) = ((i + 1 : Nat) : Int) := wrapN (by omega)
    obtain ⟨b, o, c', hv, hc, hcl⟩ := sl.ptr (by omega) (by omega)
    simp only [Value.slice.injEq, true_and] at hv
    obtain ⟨rfl, rfl⟩ := hv
    rw [Nat.mul_one] at hcl
    have ci : hcell H ⟨b, o + i, none⟩ = some vs[i] := by
      rw [hcell_of (hcells_le (Heap.le_trans le1 leH) hcl) i hlt]; simp [hvs, hlt]
    have ei := el i (by omega) hlt
    have e2 : (L.take (i + 1)).flatten = (L.take i).flatten ++ L[i] := by rw [List.take_succ_eq_append_getElem hlt, List.flatten_append]; simp
    have ll : ((L.take i).flatten ++ L[i]).length ≤ L.flatten.length := by
      rw [← e2]
      have : L.flatten = (L.take (i + 1)).flatten ++ (L.drop (i + 1)).flatten := by rw [← List.flatten_append, List.take_append_drop]
      rw [this, List.length_append]; omega
    rw [List.length_append] at ll
    simp -implicitDefEqProofs only [z00,z01,z02,z03,z04,z05,z06,z07,z08,z09,z0a,z0b,z0c,z0d,z0e,z0f,z0g,z0h,z0i,z0j,z0k,z0l,z0m,z0n,retO,retL,retV,z0o,z0p,z0q,z0r,z0s,z0t,z0u,z0v,z0w,z0x,z0y,z0z,z10,z11,z12,z13,z14,z15,z16,z17,z18,z19,z1a,z1b,z1c,z1d,z1e,z1f,z1g,z1h,z1i,z1j,z1k,z1l,z1m,z1n,z1o,z1p,z1q,z1r,z1s,z1t,z1u,z1v,z1w,z1x,z1y,z1z,z20,z21,z22,z23,z24,z25,z26,z27,z28,z29,z2a,z2b,z2c,z2d,z2e,z2f,z2g,z2h,z2i,z2j,z2k,z2l,z2m,z2n,z2o,z2p,z2q,z2r,z2s,z2t,z2u,z2v,z2w,z2x,z2y,z2z,z30,z31,z32,z33,z34,z35,z36,z37,z38,z39,z3a,z3b,z3c,z3d,z3e,z3f,z3g,z3h,z3i,z3j,z3k,z3l,z3m,z3n,z3o,z3p,z3q,z3r,z3s,z3t,z3u,z3v,z3w,z3x,z3y,z3z,z40,z41,z42,z43,z44,z45,z46,z47,z48,z49,z4a,z4b,z4c,z4d,z4e,z4f,z4g,z4h,z4i,z4j,z4k,z4l,z4m,z4n,z4o,z4p,z4q,z4r,z4s,z4t,z4u,z4v,z4w,z4x,z4y,z4z,z50,z51,z52,z53,z54,z55,z56,z57,z58,z59,z5a,z5b,z5c,z5d,z5e,z5f,z5g,z5h,z5i,z5j,z5k,z5l,z5m,z5n,z5o,z5p,z5q,z5r,z5s,z5t,z5u,z5v,z5w,z5x,z5y,z5z,z60,z61,z62,z63,z64,z65,z66,z67,z68,z69,allV,allP,z6a,z6b,z6c,z6d,z6e,z6f,z6g,z6h,z6i,z6j,z6k,z6l,z6m,Option.map_some,Option.map_none,Option.some.injEq,reduceIte,reduceCtorEq,Nat.reduceEqDiff,Nat.reduceAdd,Nat.reduceMul,Nat.reduceLT,Nat.reduceSub,Int.reduceLT,Int.reduceLE,Int.reduceEq,Int.reduceNe,Int.reduceSub,Int.reduceAdd,Int.reduceMul,Int.reduceBEq,Int.reduceBNe,Int.reduceGT,Int.reduceGE,Nat.reduceGT,Int.reduceToNat,Int.reduceNeg,Nat.reduceLeDiff,Nat.reduceBEq,Nat.reduceBneDiff,binV,eqV,unV,oOpt,true_and,and_true,Value.cells,List.length_cons,List.length_nil,List.append_nil,List.nil_append,List.cons_append,List.drop_succ_cons,List.drop_zero,List.take_succ_cons,List.take_zero,List.take_nil,List.getElem?_cons_zero,List.getElem?_cons_succ,decide_true,decide_false,decide_eq_true_eq,decide_eq_false_iff_not,Bool.false_eq_true,Bool.true_eq_false,Bool.not_true,Bool.not_false,Bool.not_eq_true',Bool.not_eq_false',Bool.not_eq_true,Bool.not_eq_false,false_implies,true_implies,beq_iff_eq,beq_eq_false_iff_ne,bne_iff_ne,bne_eq_false_iff_eq,ne_eq,ge_iff_le,gt_iff_lt,Int.not_lt,Int.not_le,not_true_eq_false,not_false_eq_true,if_true,if_false,z6n,z6o,z6p,z6q,Heap.set_set,z6r,z6s,z6t,z6u,z6v,z6w,List.getElem_cons_zero,List.getElem_cons_succ,List.set_cons_zero,List.set_cons_succ,List.length_set,List.all_cons,List.all_nil,Bool.and_true,Bool.true_and,Bool.and_self,Nat.add_zero,Nat.zero_add,Nat.zero_lt_succ,Int.cast_ofNat_Int,List.size_toArray,List.flatten_replicate_singleton,Nat.mul_one,Nat.le_refl,Nat.lt_irrefl,Nat.le_add_left, hi1, hi2, Int.toNat_natCast, ci]
    refine (sha_Add_c E leH sr L[i] (fun X => ei.le (Heap.le_set (Heap.le_trans le1 leH) (Heap.none_of_le le1 hbs0) X)) (by omega) (by omega)).mono ?_
    rintro r H2 ⟨le3, sr2⟩
    rw [absorb_app, ← e2, ← List.length_append, ← e2] at sr2
    simp -implicitDefEqProofs only [z00,z01,z02,z03,z04,z05,z06,z07,z08,z09,z0a,z0b,z0c,z0d,z0e,z0f,z0g,z0h,z0i,z0j,z0k,z0l,z0m,z0n,retO,retL,retV,z0o,z0p,z0q,z0r,z0s,z0t,z0u,z0v,z0w,z0x,z0y,z0z,z10,z11,z12,z13,z14,z15,z16,z17,z18,z19,z1a,z1b,z1c,z1d,z1e,z1f,z1g,z1h,z1i,z1j,z1k,z1l,z1m,z1n,z1o,z1p,z1q,z1r,z1s,z1t,z1u,z1v,z1w,z1x,z1y,z1z,z20,z21,z22,z23,z24,z25,z26,z27,z28,z29,z2a,z2b,z2c,z2d,z2e,z2f,z2g,z2h,z2i,z2j,z2k,z2l,z2m,z2n,z2o,z2p,z2q,z2r,z2s,z2t,z2u,z2v,z2w,z2x,z2y,z2z,z30,z31,z32,z33,z34,z35,z36,z37,z38,z39,z3a,z3b,z3c,z3d,z3e,z3f,z3g,z3h,z3i,z3j,z3k,z3l,z3m,z3n,z3o,z3p,z3q,z3r,z3s,z3t,z3u,z3v,z3w,z3x,z3y,z3z,z40,z41,z42,z43,z44,z45,z46,z47,z48,z49,z4a,z4b,z4c,z4d,z4e,z4f,z4g,z4h,z4i,z4j,z4k,z4l,z4m,z4n,z4o,z4p,z4q,z4r,z4s,z4t,z4u,z4v,z4w,z4x,z4y,z4z,z50,z51,z52,z53,z54,z55,z56,z57,z58,z59,z5a,z5b,z5c,z5d,z5e,z5f,z5g,z5h,z5i,z5j,z5k,z5l,z5m,z5n,z5o,z5p,z5q,z5r,z5s,z5t,z5u,z5v,z5w,z5x,z5y,z5z,z60,z61,z62,z63,z64,z65,z66,z67,z68,z69,allV,allP,z6a,z6b,z6c,z6d,z6e,z6f,z6g,z6h,z6i,z6j,z6k,z6l,z6m,Option.map_some,Option.map_none,Option.some.injEq,reduceIte,reduceCtorEq,Nat.reduceEqDiff,Nat.reduceAdd,Nat.reduceMul,Nat.reduceLT,Nat.reduceSub,Int.reduceLT,Int.reduceLE,Int.reduceEq,Int.reduceNe,Int.reduceSub,Int.reduceAdd,Int.reduceMul,Int.reduceBEq,Int.reduceBNe,Int.reduceGT,Int.reduceGE,Nat.reduceGT,Int.reduceToNat,Int.reduceNeg,Nat.reduceLeDiff,Nat.reduceBEq,Nat.reduceBneDiff,binV,eqV,unV,oOpt,true_and,and_true,Value.cells,List.length_cons,List.length_nil,List.append_nil,List.nil_append,List.cons_append,List.drop_succ_cons,List.drop_zero,List.take_succ_cons,List.take_zero,List.take_nil,List.getElem?_cons_zero,List.getElem?_cons_succ,decide_true,decide_false,decide_eq_true_eq,decide_eq_false_iff_not,Bool.false_eq_true,Bool.true_eq_false,Bool.not_true,Bool.not_false,Bool.not_eq_true',Bool.not_eq_false',Bool.not_eq_true,Bool.not_eq_false,false_implies,true_implies,beq_iff_eq,beq_eq_false_iff_ne,bne_iff_ne,bne_eq_false_iff_eq,ne_eq,ge_iff_le,gt_iff_lt,Int.not_lt,Int.not_le,not_true_eq_false,not_false_eq_true,if_true,if_false,z6n,z6o,z6p,z6q,Heap.set_set,z6r,z6s,z6t,z6u,z6v,z6w,List.getElem_cons_zero,List.getElem_cons_succ,List.set_cons_zero,List.set_cons_succ,List.length_set,List.all_cons,List.all_nil,Bool.and_true,Bool.true_and,Bool.and_self,Nat.add_zero,Nat.zero_add,Nat.zero_lt_succ,Int.cast_ofNat_Int,List.size_toArray,List.flatten_replicate_singleton,Nat.mul_one,Nat.le_refl,Nat.lt_irrefl,Nat.le_add_left, w1]
    exact ⟨_, by omega, le3, i + 1, rfl, hlt, rfl, sr2⟩
  · have hi1 : ¬ (i : Int) < L.length := by omega
    have : i = L.length := by omega
    subst this
    rw [List.take_length] at sr al
    simp -implicitDefEqProofs only [z00,z01,z02,z03,z04,z05,z06,z07,z08,z09,z0a,z0b,z0c,z0d,z0e,z0f,z0g,z0h,z0i,z0j,z0k,z0l,z0m,z0n,retO,retL,retV,z0o,z0p,z0q,z0r,z0s,z0t,z0u,z0v,z0w,z0x,z0y,z0z,z10,z11,z12,z13,z14,z15,z16,z17,z18,z19,z1a,z1b,z1c,z1d,z1e,z1f,z1g,z1h,z1i,z1j,z1k,z1l,z1m,z1n,z1o,z1p,z1q,z1r,z1s,z1t,z1u,z1v,z1w,z1x,z1y,z1z,z20,z21,z22,z23,z24,z25,z26,z27,z28,z29,z2a,z2b,z2c,z2d,z2e,z2f,z2g,z2h,z2i,z2j,z2k,z2l,z2m,z2n,z2o,z2p,z2q,z2r,z2s,z2t,z2u,z2v,z2w,z2x,z2y,z2z,z30,z31,z32,z33,z34,z35,z36,z37,z38,z39,z3a,z3b,z3c,z3d,z3e,z3f,z3g,z3h,z3i,z3j,z3k,z3l,z3m,z3n,z3o,z3p,z3q,z3r,z3s,z3t,z3u,z3v,z3w,z3x,z3y,z3z,z40,z41,z42,z43,z44,z45,z46,z47,z48,z49,z4a,z4b,z4c,z4d,z4e,z4f,z4g,z4h,z4i,z4j,z4k,z4l,z4m,z4n,z4o,z4p,z4q,z4r,z4s,z4t,z4u,z4v,z4w,z4x,z4y,z4z,z50,z51,z52,z53,z54,z55,z56,z57,z58,z59,z5a,z5b,z5c,z5d,z5e,z5f,z5g,z5h,z5i,z5j,z5k,z5l,z5m,z5n,z5o,z5p,z5q,z5r,z5s,z5t,z5u,z5v,z5w,z5x,z5y,z5z,z60,z61,z62,z63,z64,z65,z66,z67,z68,z69,allV,allP,z6a,z6b,z6c,z6d,z6e,z6f,z6g,z6h,z6i,z6j,z6k,z6l,z6m,Option.map_some,Option.map_none,Option.some.injEq,reduceIte,reduceCtorEq,Nat.reduceEqDiff,Nat.reduceAdd,Nat.reduceMul,Nat.reduceLT,Nat.reduceSub,Int.reduceLT,Int.reduceLE,Int.reduceEq,Int.reduceNe,Int.reduceSub,Int.reduceAdd,Int.reduceMul,Int.reduceBEq,Int.reduceBNe,Int.reduceGT,Int.reduceGE,Nat.reduceGT,Int.reduceToNat,Int.reduceNeg,Nat.reduceLeDiff,Nat.reduceBEq,Nat.reduceBneDiff,binV,eqV,unV,oOpt,true_and,and_true,Value.cells,List.length_cons,List.length_nil,List.append_nil,List.nil_append,List.cons_append,List.drop_succ_cons,List.drop_zero,List.take_succ_cons,List.take_zero,List.take_nil,List.getElem?_cons_zero,List.getElem?_cons_succ,decide_true,decide_false,decide_eq_true_eq,decide_eq_false_iff_not,Bool.false_eq_true,Bool.true_eq_false,Bool.not_true,Bool.not_false,Bool.not_eq_true',Bool.not_eq_false',Bool.not_eq_true,Bool.not_eq_false,false_implies,true_implies,beq_iff_eq,beq_eq_false_iff_ne,bne_iff_ne,bne_eq_false_iff_eq,ne_eq,ge_iff_le,gt_iff_lt,Int.not_lt,Int.not_le,not_true_eq_false,not_false_eq_true,if_true,if_false,z6n,z6o,z6p,z6q,Heap.set_set,z6r,z6s,z6t,z6u,z6v,z6w,List.getElem_cons_zero,List.getElem_cons_succ,List.set_cons_zero,List.set_cons_succ,List.length_set,List.all_cons,List.all_nil,Bool.and_true,Bool.true_and,Bool.and_self,Nat.add_zero,Nat.zero_add,Nat.zero_lt_succ,Int.cast_ofNat_Int,List.size_toArray,List.flatten_replicate_singleton,Nat.mul_one,Nat.le_refl,Nat.lt_irrefl,Nat.le_add_left, hi1]
    refine (sha_Word_c E leH sr (by omega) (by omega)).mono ?_
    rintro r H2 ⟨le3, rfl⟩
    have q2 := le3 _ _ (leH _ _ p2)
    have he : shaEnd (absorb startF L.flatten).1 (absorb startF L.flatten).2 L.flatten.length = shaF L.flatten := rfl
    rw [he]
    have st : storeV H2 32 (.pointer (some ⟨b2, 0, none⟩)) (.agg ((shaF L.flatten).map u8V).toArray) = some (H2.set b2 (.own 0 ((shaF L.flatten).map u8V) 32)) := storeV_agg_at q2 (by omega) (by simp [shaF_len]) (one_u8 _) (by simp) (by omega)
    have hl2 : hcells (H2.set b2 (.own 0 ((shaF L.flatten).map u8V) 32)) ⟨b2, 0, none⟩ 32 = some ((shaF L.flatten).map u8V) := z6o (by simp [shaF_len])
    simp -implicitDefEqProofs only [z00,z01,z02,z03,z04,z05,z06,z07,z08,z09,z0a,z0b,z0c,z0d,z0e,z0f,z0g,z0h,z0i,z0j,z0k,z0l,z0m,z0n,retO,retL,retV,z0o,z0p,z0q,z0r,z0s,z0t,z0u,z0v,z0w,z0x,z0y,z0z,z10,z11,z12,z13,z14,z15,z16,z17,z18,z19,z1a,z1b,z1c,z1d,z1e,z1f,z1g,z1h,z1i,z1j,z1k,z1l,z1m,z1n,z1o,z1p,z1q,z1r,z1s,z1t,z1u,z1v,z1w,z1x,z1y,z1z,z20,z21,z22,z23,z24,z25,z26,z27,z28,z29,z2a,z2b,z2c,z2d,z2e,z2f,z2g,z2h,z2i,z2j,z2k,z2l,z2m,z2n,z2o,z2p,z2q,z2r,z2s,z2t,z2u,z2v,z2w,z2x,z2y,z2z,z30,z31,z32,z33,z34,z35,z36,z37,z38,z39,z3a,z3b,z3c,z3d,z3e,z3f,z3g,z3h,z3i,z3j,z3k,z3l,z3m,z3n,z3o,z3p,z3q,z3r,z3s,z3t,z3u,z3v,z3w,z3x,z3y,z3z,z40,z41,z42,z43,z44,z45,z46,z47,z48,z49,z4a,z4b,z4c,z4d,z4e,z4f,z4g,z4h,z4i,z4j,z4k,z4l,z4m,z4n,z4o,z4p,z4q,z4r,z4s,z4t,z4u,z4v,z4w,z4x,z4y,z4z,z50,z51,z52,z53,z54,z55,z56,z57,z58,z59,z5a,z5b,z5c,z5d,z5e,z5f,z5g,z5h,z5i,z5j,z5k,z5l,z5m,z5n,z5o,z5p,z5q,z5r,z5s,z5t,z5u,z5v,z5w,z5x,z5y,z5z,z60,z61,z62,z63,z64,z65,z66,z67,z68,z69,allV,allP,z6a,z6b,z6c,z6d,z6e,z6f,z6g,z6h,z6i,z6j,z6k,z6l,z6m,Option.map_some,Option.map_none,Option.some.injEq,reduceIte,reduceCtorEq,Nat.reduceEqDiff,Nat.reduceAdd,Nat.reduceMul,Nat.reduceLT,Nat.reduceSub,Int.reduceLT,Int.reduceLE,Int.reduceEq,Int.reduceNe,Int.reduceSub,Int.reduceAdd,Int.reduceMul,Int.reduceBEq,Int.reduceBNe,Int.reduceGT,Int.reduceGE,Nat.reduceGT,Int.reduceToNat,Int.reduceNeg,Nat.reduceLeDiff,Nat.reduceBEq,Nat.reduceBneDiff,binV,eqV,unV,oOpt,true_and,and_true,Value.cells,List.length_cons,List.length_nil,List.append_nil,List.nil_append,List.cons_append,List.drop_succ_cons,List.drop_zero,List.take_succ_cons,List.take_zero,List.take_nil,List.getElem?_cons_zero,List.getElem?_cons_succ,decide_true,decide_false,decide_eq_true_eq,decide_eq_false_iff_not,Bool.false_eq_true,Bool.true_eq_false,Bool.not_true,Bool.not_false,Bool.not_eq_true',Bool.not_eq_false',Bool.not_eq_true,Bool.not_eq_false,false_implies,true_implies,beq_iff_eq,beq_eq_false_iff_ne,bne_iff_ne,bne_eq_false_iff_eq,ne_eq,ge_iff_le,gt_iff_lt,Int.not_lt,Int.not_le,not_true_eq_false,not_false_eq_true,if_true,if_false,z6n,z6o,z6p,z6q,Heap.set_set,z6r,z6s,z6t,z6u,z6v,z6w,List.getElem_cons_zero,List.getElem_cons_succ,List.set_cons_zero,List.set_cons_succ,List.length_set,List.all_cons,List.all_nil,Bool.and_true,Bool.true_and,Bool.and_self,Nat.add_zero,Nat.zero_add,Nat.zero_lt_succ,Int.cast_ofNat_Int,List.size_toArray,List.flatten_replicate_singleton,Nat.mul_one,Nat.le_refl,Nat.lt_irrefl,Nat.le_add_left, st, hl2]
    exact Heap.le_set (Heap.le_trans le1 (Heap.le_trans leH le3)) hb2 _
end Go.Bb
/- The reckoner with blocks mixed at once. -/
namespace Go.Bb
set_option linter.unusedSimpArgs false
set_option linter.unusedVariables false
set_option maxRecDepth 20000

def nextX (b : List UInt8) (ws : List U32) (i : Nat) : U32 :=
  if i < 16 then (fromBigF ((b.drop (4 * i)).take 4)).setWidth 32
  else ws.getD 15 0 + (turnF (ws.getD 14 0) 7 ^^^ turnF (ws.getD 14 0) 18 ^^^ ws.getD 14 0 >>> 3) + ws.getD 6 0 + (turnF (ws.getD 1 0) 17 ^^^ turnF (ws.getD 1 0) 19 ^^^ ws.getD 1 0 >>> 10)
def schedR (b : List UInt8) : Nat → List U32
  | 0 => []
  | i + 1 => nextX b (schedR b i) i :: schedR b i
theorem schedR_get (b : List UInt8) : ∀ i j, j < i → (schedR b i).getD (i - 1 - j) 0 = schedW b i j
  | 0, j, h => by omega
  | i + 1, j, h => by
      have ih := schedR_get b i
      unfold schedR schedW updU
      by_cases e : j = i
      · subst e
        rw [if_pos rfl, Nat.add_sub_cancel, Nat.sub_self, List.getD_cons_zero]
        unfold nextX schedX
        by_cases h16 : j < 16
        · rw [if_pos h16, if_pos h16]
        · rw [if_neg h16, if_neg h16]
          have g : ∀ k, k < j → (schedR b j).getD k 0 = schedW b j (j - (k + 1)) := fun k hk => by
            have := ih (j - (k + 1)) (by omega)
            rwa [show j - 1 - (j - (k + 1)) = k from by omega] at this
          rw [g 15 (by omega), g 14 (by omega), g 6 (by omega), g 1 (by omega)]
      · rw [if_neg e, Nat.add_sub_cancel, show i - j = (i - 1 - j) + 1 from by omega, List.getD_cons_succ]
        exact ih j (by omega)
theorem schedR_64 (b : List UInt8) (i : Nat) (h : i < 64) : (schedR b 64).getD (63 - i) 0 = schedW b 64 i := schedR_get b 64 i h

structure S8 where
  a : U32
  b : U32
  c : U32
  d : U32
  e : U32
  f : U32
  g : U32
  h : U32
def S8.get (s : S8) : Nat → U32
  | 0 => s.a
  | 1 => s.b
  | 2 => s.c
  | 3 => s.d
  | 4 => s.e
  | 5 => s.f
  | 6 => s.g
  | 7 => s.h
  | _ => 0
def S8.tt (K wr : List U32) (s : S8) (i : Nat) : U32 := s.h + (turnF s.e 6 ^^^ turnF s.e 11 ^^^ turnF s.e 25) + ((s.e &&& s.f) ^^^ (~~~s.e &&& s.g)) + K.getD i 0 + wr.getD (63 - i) 0
def S8.step (K wr : List U32) (s : S8) (i : Nat) : S8 :=
  ⟨S8.tt K wr s i + (turnF s.a 2 ^^^ turnF s.a 13 ^^^ turnF s.a 22) + ((s.a &&& s.b) ^^^ (s.a &&& s.c) ^^^ (s.b &&& s.c)), s.a, s.b, s.c, s.d + S8.tt K wr s i, s.e, s.f, s.g⟩
def S8.run (K wr : List U32) (s : S8) : Nat → S8
  | 0 => s
  | i + 1 => S8.step K wr (S8.run K wr s i) i
def S8.ofL (H : List U32) : S8 := ⟨H.getD 0 0, H.getD 1 0, H.getD 2 0, H.getD 3 0, H.getD 4 0, H.getD 5 0, H.getD 6 0, H.getD 7 0⟩
theorem S8.run_get (K H : List U32) (b : List UInt8) : ∀ i, i ≤ 64 → ∀ j, j < 8 → (S8.run K (schedR b 64) (S8.ofL H) i).get j = mixV (fun j => K.getD j 0) (schedW b 64) (fun j => H.getD j 0) i j
  | 0, _, j, hj => by
      match j, hj with
      | 0, _ => rfl
      | 1, _ => rfl
      | 2, _ => rfl
      | 3, _ => rfl
      | 4, _ => rfl
      | 5, _ => rfl
      | 6, _ => rfl
      | 7, _ => rfl
  | i + 1, hi, j, hj => by
      have ih := S8.run_get K H b i (by omega)
      have a0 := ih 0 (by omega)
      have a1 := ih 1 (by omega)
      have a2 := ih 2 (by omega)
      have a3 := ih 3 (by omega)
      have a4 := ih 4 (by omega)
      have a5 := ih 5 (by omega)
      have a6 := ih 6 (by omega)
      have a7 := ih 7 (by omega)
      have hw := schedR_64 b i (by omega)
      unfold S8.run mixV
      generalize S8.run K (schedR b 64) (S8.ofL H) i = s at a0 a1 a2 a3 a4 a5 a6 a7
      generalize mixV (fun j => K.getD j 0) (schedW b 64) (fun j => H.getD j 0) i = v at a0 a1 a2 a3 a4 a5 a6 a7
      simp only [S8.get] at a0 a1 a2 a3 a4 a5 a6 a7
      match j, hj with
      | 0, _ => simp only [S8.get, S8.step, S8.tt, mixX, mixT, mixR, mixM, a0, a1, a2, a3, a4, a5, a6, a7, hw]
      | 1, _ => exact a0
      | 2, _ => exact a1
      | 3, _ => exact a2
      | 4, _ => simp only [S8.get, S8.step, S8.tt, mixX, mixT, mixR, mixM, a0, a1, a2, a3, a4, a5, a6, a7, hw]
      | 5, _ => exact a4
      | 6, _ => exact a5
      | 7, _ => exact a6
/-- A block mixed in, as a row. -/
def mixL (K H : List U32) (b : List UInt8) : List U32 :=
  let s := S8.run K (schedR b 64) (S8.ofL H) 64
  [H.getD 0 0 + s.a, H.getD 1 0 + s.b, H.getD 2 0 + s.c, H.getD 3 0 + s.d, H.getD 4 0 + s.e, H.getD 5 0 + s.f, H.getD 6 0 + s.g, H.getD 7 0 + s.h]
def wordsU (l : List U32) : List Value := l.map fun w => .int .u32 (.ofNat w.toNat)
theorem mixL_row (K H : List U32) (b : List UInt8) : wordsU (mixL K H b) = rowU (mixF (fun j => K.getD j 0) (fun j => H.getD j 0) b) 8 := by
  have h := S8.run_get K H b 64 (Nat.le_refl _)
  unfold mixL mixF
  generalize S8.run K (schedR b 64) (S8.ofL H) 64 = s at h
  have e : rowU (fun j => H.getD j 0 + mixV (fun j => K.getD j 0) (schedW b 64) (fun j => H.getD j 0) 64 j) 8 = rowU (fun j => H.getD j 0 + s.get j) 8 := rowU_congr fun j hj => by rw [h j hj]
  rw [e]; rfl

/-! ### rows of words and bytes, read -/
theorem u8V_of' {n : Nat} (h : n < 256) : u8V (UInt8.ofNat n) = .int .u8 (.ofNat n) := by
  unfold u8V
  have : (UInt8.ofNat n).toNat = n := by rw [UInt8.toNat_ofNat']; omega
  rw [this]; rfl
def toW : List Value → Option (List U32)
  | [] => some []
  | .int .u32 (.ofNat x) :: t => bif Nat.blt x 4294967296 then (toW t).map (BitVec.ofNat 32 x :: ·) else none
  | _ => none
def toB : List Value → Option (List UInt8)
  | [] => some []
  | .int .u8 (.ofNat x) :: t => bif Nat.blt x 256 then (toB t).map (UInt8.ofNat x :: ·) else none
  | _ => none
theorem toW_eq : ∀ {l : List Value} {w : List U32}, toW l = some w → l = wordsU w ∧ l.all isInt = true
  | [], w, h => by simp only [toW, Option.some.injEq] at h; subst h; exact ⟨rfl, rfl⟩
  | x :: t, w, h => by
      unfold toW at h
      split at h
      · rename_i e; cases e
      · rename_i n t' e
        cases e
        cases hb : Nat.blt n 4294967296 with
        | false => rw [hb] at h; cases h
        | true =>
          rw [hb] at h
          simp only [cond_true, Option.map_eq_some_iff] at h
          obtain ⟨w', h1, rfl⟩ := h
          obtain ⟨g1, g2⟩ := toW_eq h1
          have hn : n < 4294967296 := Nat.le_of_ble_eq_true hb
          refine ⟨?_, by simp only [List.all_cons, isInt, Bool.true_and]; exact g2⟩
          unfold wordsU
          rw [List.map_cons]
          have : (BitVec.ofNat 32 n).toNat = n := by simp; omega
          rw [this]
          unfold wordsU at g1
          rw [← g1]
      · cases h
theorem toB_eq : ∀ {l : List Value} {w : List UInt8}, toB l = some w → l = w.map u8V ∧ l.all isInt = true
  | [], w, h => by simp only [toB, Option.some.injEq] at h; subst h; exact ⟨rfl, rfl⟩
  | x :: t, w, h => by
      unfold toB at h
      split at h
      · rename_i e; cases e
      · rename_i n t' e
        cases e
        cases hb : Nat.blt n 256 with
        | false => rw [hb] at h; cases h
        | true =>
          rw [hb] at h
          simp only [cond_true, Option.map_eq_some_iff] at h
          obtain ⟨w', h1, rfl⟩ := h
          obtain ⟨g1, g2⟩ := toB_eq h1
          have hn : n < 256 := Nat.le_of_ble_eq_true hb
          refine ⟨?_, by simp only [List.all_cons, isInt, Bool.true_and]; exact g2⟩
          rw [List.map_cons]
          have : u8V (UInt8.ofNat n) = .int .u8 (.ofNat n) := u8V_of' hn
          rw [this, ← g1]
      · cases h
end Go.Bb
/- The reckoner with blocks mixed at once: it is sound. -/
namespace Go.Bb
set_option linter.unusedSimpArgs false
set_option linter.unusedVariables false
set_option maxRecDepth 20000

noncomputable def mixG (hs : Array Value) (a : Addr) (p : Addr) (m : VM) : RV :=
  match toW hs.toList, cellsE m a (64 * 1), cellsE m p 64 with
  | some H, some bs, some ks =>
    match toB bs, toW ks with
    | some B, some K => bif Nat.beq H.length 8 then some (.agg (wordsU (mixL K H B)).toArray, m) else none
    | _, _ => none
  | _, _, _ => none
noncomputable def mixH (args : List Value) (m : VM) : RV :=
  match args with
  | [.agg hs, .slice (some a) 64 c, .pointer (some p)] => mixG hs a p m
  | _ => none
noncomputable def mixHk : Hooks := fun n => bif Nat.beq n n_sha_mix then some mixH else none

theorem wordsU_row (l : List U32) : wordsU l = rowU (fun j => l.getD j 0) l.length := by
  apply List.ext_getElem
  · simp [wordsU, rowU]
  · intro j a b
    rw [rowU_get]
    have : j < l.length := by simpa [wordsU] using a
    simp [wordsU, this]

theorem VR.agg_ints {fid : Nat → Option FuncId} {r : Rr} {a : Array Value} {v' : Value} (h : VR fid r (.agg a) v') (hi : a.toList.all isInt = true) : v' = .agg a := by
  cases h with
  | one h =>
    cases h with
    | one h => cases h with | base h => cases h with | plain hp => cases hp
    | agg h =>
      have := all2_ints h hi
      rw [Array.toList_inj] at this
      rw [this]

theorem all2_refl_ints {fid : Nat → Option FuncId} {r : Rr} : ∀ {l : List Value}, l.all isInt = true → All2 (VR0 fid r) l l
  | [], _ => .nil
  | x :: l, h => by
      simp only [List.all_cons, Bool.and_eq_true] at h
      refine .cons ?_ (all2_refl_ints h.2)
      have h2 := h.1
      cases x <;> try (cases h2; done)
      exact .base (.plain rfl)
theorem wordsU_ints (l : List U32) : (wordsU l).all isInt = true := by simp [wordsU, isInt]
theorem HS.le {fid : Nat → Option FuncId} {h0 : Heap} {r : Rr} {m : VM} {h h' : Heap} (p : HS fid h0 r m h) (x : h.le h') : HS fid h0 r m h' where
  blk := fun b y hy => by obtain ⟨k, z, a, b', c⟩ := p.blk b y hy; exact ⟨k, z, a, x _ _ b', c⟩
  inj := p.inj
  old := fun b y hy => x _ _ (p.old b y hy)
  own := p.own
  fresh := p.fresh
  room := p.room

theorem mixHk_ok (E : EnvT tab) : HooksOk E.toEnv mixHk := by
  intro h0 n f hf
  unfold mixHk at hf
  cases hn : Nat.beq n n_sha_mix with
  | false => rw [hn] at hf; cases hf
  | true =>
    rw [hn] at hf
    simp only [cond_true, Option.some.injEq] at hf
    subst hf
    have hn' := Nat.eq_of_beq_eq_true hn
    subst hn'
    intro args m v m' r h args' p ha e
    unfold mixH at e
    split at e
    · rename_i hs a c q
      unfold mixG at e
      split at e
      · rename_i H bs ks e1 e2 e3
        split at e
        · rename_i B K e4 e5
          cases hl : Nat.beq H.length 8 with
          | false => rw [hl] at e; cases e
          | true =>
            rw [hl] at e
            simp only [cond_true, Option.some.injEq, Prod.mk.injEq] at e
            obtain ⟨rfl, rfl⟩ := e
            have hl8 := Nat.eq_of_beq_eq_true hl
            obtain ⟨g1, g1'⟩ := toW_eq e1
            obtain ⟨g2, g2'⟩ := toB_eq e4
            obtain ⟨g3, g3'⟩ := toW_eq e5
            cases ha with
            | cons a1 ha =>
              cases ha with
              | cons a2 ha =>
                cases ha with
                | cons a3 ha =>
                  cases ha
                  rw [a1.agg_ints g1']
                  obtain ⟨k, c', o, hsp, hk, rfl, hnc, q0, q1⟩ := a2.of_sl
                  obtain ⟨k2, c2, o2, _, hk2, hv2, l', hc1, hc2⟩ := sl_cells p.toHR a2 (Nat.le_refl 64) e2
                  simp only [Value.slice.injEq, Option.some.injEq, Addr.mk.injEq, true_and, and_true] at hv2
                  obtain ⟨⟨hb2, rfl⟩, rfl⟩ := hv2
                  rw [all2_ints hc2 g2', g2] at hc1
                  obtain ⟨kp, hps, hkp, rfl⟩ := a3.of_ptr
                  obtain ⟨lk, hk1, hk3⟩ := cells_sim p.toHR hkp e3
                  rw [all2_ints hk3 g3', g3] at hk1
                  have lB : B.length = 64 := by
                    have := hcells_length hc1
                    simpa using this
                  have lK : K.length = 64 := by
                    have := hcells_length hk1
                    simpa [wordsU] using this
                  have sb : SlB h (.slice (some ⟨k.b, o, none⟩) 64 c') B := by
                    unfold SlB
                    rw [lB]
                    refine .inr ⟨⟨k.b, o, none⟩, c', rfl, hnc, ?_⟩
                    rw [hb2]; exact hc1
                  rw [wordsU_row, lK] at hk1
                  have hsE : hs = (rowU (fun j => H.getD j 0) 8).toArray := by
                    apply Array.toList_inj.1
                    rw [g1, wordsU_row, hl8]
                  rw [hsE]
                  refine (sha_mix_c E h (fun j => H.getD j 0) (fun j => K.getD j 0) B (bk := kp.b) (ok := q.off + kp.sh) hk1 lB sb).mono ?_
                  rintro v' h' ⟨le', rfl⟩
                  refine ⟨r, Rr.le_refl _, p.le le', ?_⟩
                  rw [← mixL_row]
                  exact .one (.agg (all2_refl_ints (wordsU_ints _)))
        · cases e
      · cases e
    · cases e
end Go.Bb
