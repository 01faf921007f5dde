/- My contracts: BbCknow5 BbLknow0 BbPknow2 BbCref15. -/
import Derived.Test.YtgoifophjcbpaaaBbM3
import Derived.Test.YtgoifophjcbpaaaBbG4
import Derived.Test.YtgoifophjcbpaaaBbG3
/- Contracts of the package know: Can, Same; of the statements' own has, same. -/
namespace Go.Bb
set_option linter.unusedSimpArgs false
set_option linter.unusedVariables false
set_option maxRecDepth 20000

/-- An int of a slice of ints. -/
theorem Sl.int_at {h : Heap} {v : Value} {M : List Int} (s : Sl h 1 v M.length (M.map (.int .i64))) (j : Nat) (hj : j < M.length) :
    ∃ b o c, v = .slice (some ⟨b, o, none⟩) M.length c ∧ M.length ≤ c ∧ ∀ H, h.le H → hcell H ⟨b, o + j * 1, none⟩ = some (.int .i64 M[j]) := by
  obtain ⟨b, o, c', hv, hc, hcl⟩ := Sl.at (L := M) (f := fun z => [Value.int .i64 z]) (size := 1) (by simp) (by rw [flat_one]; exact s) j hj (by omega)
  refine ⟨b, o, c', hv, hc, fun H hle => ?_⟩
  have hz := hcell_of (hcl H hle) 0 (by omega)
  simpa using hz

theorem wrap_succ {j n : Nat} (h : j < n) (hn : n ≤ 9223372036854775807) : IntKind.i64.wrap ((j : Int) + 1) = ((j + 1 : Nat) : Int) := by
  rw [wrap_i64 (by omega) (by omega)]; rfl

theorem know_Can_c (E : EnvT tab) (h : Heap) {v w : Value} (L : List Th) (M : List Int) (a : Int) (hl : L.length ≤ 9223372036854775807) (hm : M.length ≤ 9223372036854775807) (s : Sl h 4 v L.length (L.flatMap Th.cells)) (sm : Sl h 1 w M.length (M.map (.int .i64))) :
    ACallN E.toEnv n_know_Can [v, .int .i64 a, w] h fun r h' => h.le h' ∧ r = .bool ((allK L M).contains a) := by
  refine acall h_know_Can ir_know_Can rfl rfl (wpA_sound ?_)
  unfold ir_know_Can
  simp -implicitDefEqProofs only [z00,z01,z02,z03,z04,z05,z06,z07,z08,z09,z0a,z0b,z0c,z0d,z0e,z0f,z0g,z0h,z0i,z0j,z0k,z0l,z0m,z0n,retO,retL,retV,z0o,z0p,z0q,z0r,z0s,z0t,z0u,z0v,z0w,z0x,z0y,z0z,z10,z11,z12,z13,z14,z15,z16,z17,z18,z19,z1a,z1b,z1c,z1d,z1e,z1f,z1g,z1h,z1i,z1j,z1k,z1l,z1m,z1n,z1o,z1p,z1q,z1r,z1s,z1t,z1u,z1v,z1w,z1x,z1y,z1z,z20,z21,z22,z23,z24,z25,z26,z27,z28,z29,z2a,z2b,z2c,z2d,z2e,z2f,z2g,z2h,z2i,z2j,z2k,z2l,z2m,z2n,z2o,z2p,z2q,z2r,z2s,z2t,z2u,z2v,z2w,z2x,z2y,z2z,z30,z31,z32,z33,z34,z35,z36,z37,z38,z39,z3a,z3b,z3c,z3d,z3e,z3f,z3g,z3h,z3i,z3j,z3k,z3l,z3m,z3n,z3o,z3p,z3q,z3r,z3s,z3t,z3u,z3v,z3w,z3x,z3y,z3z,z40,z41,z42,z43,z44,z45,z46,z47,z48,z49,z4a,z4b,z4c,z4d,z4e,z4f,z4g,z4h,z4i,z4j,z4k,z4l,z4m,z4n,z4o,z4p,z4q,z4r,z4s,z4t,z4u,z4v,z4w,z4x,z4y,z4z,z50,z51,z52,z53,z54,z55,z56,z57,z58,z59,z5a,z5b,z5c,z5d,z5e,z5f,z5g,z5h,z5i,z5j,z5k,z5l,z5m,z5n,z5o,z5p,z5q,z5r,z5s,z5t,z5u,z5v,z5w,z5x,z5y,z5z,z60,z61,z62,z63,z64,z65,z66,z67,z68,z69,allV,allP,z6a,z6b,z6c,z6d,z6e,z6f,z6g,z6h,z6i,z6j,z6k,z6l,z6m,Option.map_some,Option.map_none,Option.some.injEq,reduceIte,reduceCtorEq,Nat.reduceEqDiff,Nat.reduceAdd,Nat.reduceMul,Nat.reduceLT,Nat.reduceSub,Int.reduceLT,Int.reduceLE,Int.reduceEq,Int.reduceNe,Int.reduceSub,Int.reduceAdd,Int.reduceMul,Int.reduceBEq,Int.reduceBNe,Int.reduceGT,Int.reduceGE,Nat.reduceGT,Int.reduceToNat,Int.reduceNeg,Nat.reduceLeDiff,Nat.reduceBEq,Nat.reduceBneDiff,binV,eqV,unV,oOpt,true_and,and_true,Value.cells,List.length_cons,List.length_nil,List.append_nil,List.nil_append,List.cons_append,List.drop_succ_cons,List.drop_zero,List.take_succ_cons,List.take_zero,List.take_nil,List.getElem?_cons_zero,List.getElem?_cons_succ,decide_true,decide_false,decide_eq_true_eq,decide_eq_false_iff_not,Bool.false_eq_true,Bool.true_eq_false,Bool.not_true,Bool.not_false,Bool.not_eq_true',Bool.not_eq_false',Bool.not_eq_true,Bool.not_eq_false,false_implies,true_implies,beq_iff_eq,beq_eq_false_iff_ne,bne_iff_ne,bne_eq_false_iff_eq,ne_eq,ge_iff_le,gt_iff_lt,Int.not_lt,Int.not_le,not_true_eq_false,not_false_eq_true,if_true,if_false,z6n,z6o,z6p,z6q,Heap.set_set,z6r,z6s,z6t,z6u,z6v,z6w,List.getElem_cons_zero,List.getElem_cons_succ,List.set_cons_zero,List.set_cons_succ,List.length_set,List.all_cons,List.all_nil,Bool.and_true,Bool.true_and,Bool.and_self,Nat.add_zero,Nat.zero_add,Nat.zero_lt_succ,Int.cast_ofNat_Int,List.size_toArray,List.flatten_replicate_singleton,Nat.mul_one,Nat.le_refl,Nat.lt_irrefl,Nat.le_add_left]
  refine (know_All_c E h L M hl hm s sm).mono ?_
  rintro r h1 ⟨le1, ow⟩
  have so := ow.sl
  obtain ⟨base, c, rfl⟩ := so.shape
  have hlen : (allK L M).length ≤ 9223372036854775807 := by
    unfold allK
    split
    · rw [List.length_map]
      have := List.length_filter_le (knB L M) (List.range L.length)
      rw [List.length_range] at this
      omega
    · simp
  generalize allK L M = A at so ow hlen
  simp -implicitDefEqProofs only [z00,z01,z02,z03,z04,z05,z06,z07,z08,z09,z0a,z0b,z0c,z0d,z0e,z0f,z0g,z0h,z0i,z0j,z0k,z0l,z0m,z0n,retO,retL,retV,z0o,z0p,z0q,z0r,z0s,z0t,z0u,z0v,z0w,z0x,z0y,z0z,z10,z11,z12,z13,z14,z15,z16,z17,z18,z19,z1a,z1b,z1c,z1d,z1e,z1f,z1g,z1h,z1i,z1j,z1k,z1l,z1m,z1n,z1o,z1p,z1q,z1r,z1s,z1t,z1u,z1v,z1w,z1x,z1y,z1z,z20,z21,z22,z23,z24,z25,z26,z27,z28,z29,z2a,z2b,z2c,z2d,z2e,z2f,z2g,z2h,z2i,z2j,z2k,z2l,z2m,z2n,z2o,z2p,z2q,z2r,z2s,z2t,z2u,z2v,z2w,z2x,z2y,z2z,z30,z31,z32,z33,z34,z35,z36,z37,z38,z39,z3a,z3b,z3c,z3d,z3e,z3f,z3g,z3h,z3i,z3j,z3k,z3l,z3m,z3n,z3o,z3p,z3q,z3r,z3s,z3t,z3u,z3v,z3w,z3x,z3y,z3z,z40,z41,z42,z43,z44,z45,z46,z47,z48,z49,z4a,z4b,z4c,z4d,z4e,z4f,z4g,z4h,z4i,z4j,z4k,z4l,z4m,z4n,z4o,z4p,z4q,z4r,z4s,z4t,z4u,z4v,z4w,z4x,z4y,z4z,z50,z51,z52,z53,z54,z55,z56,z57,z58,z59,z5a,z5b,z5c,z5d,z5e,z5f,z5g,z5h,z5i,z5j,z5k,z5l,z5m,z5n,z5o,z5p,z5q,z5r,z5s,z5t,z5u,z5v,z5w,z5x,z5y,z5z,z60,z61,z62,z63,z64,z65,z66,z67,z68,z69,allV,allP,z6a,z6b,z6c,z6d,z6e,z6f,z6g,z6h,z6i,z6j,z6k,z6l,z6m,Option.map_some,Option.map_none,Option.some.injEq,reduceIte,reduceCtorEq,Nat.reduceEqDiff,Nat.reduceAdd,Nat.reduceMul,Nat.reduceLT,Nat.reduceSub,Int.reduceLT,Int.reduceLE,Int.reduceEq,Int.reduceNe,Int.reduceSub,Int.reduceAdd,Int.reduceMul,Int.reduceBEq,Int.reduceBNe,Int.reduceGT,Int.reduceGE,Nat.reduceGT,Int.reduceToNat,Int.reduceNeg,Nat.reduceLeDiff,Nat.reduceBEq,Nat.reduceBneDiff,binV,eqV,unV,oOpt,true_and,and_true,Value.cells,List.length_cons,List.length_nil,List.append_nil,List.nil_append,List.cons_append,List.drop_succ_cons,List.drop_zero,List.take_succ_cons,List.take_zero,List.take_nil,List.getElem?_cons_zero,List.getElem?_cons_succ,decide_true,decide_false,decide_eq_true_eq,decide_eq_false_iff_not,Bool.false_eq_true,Bool.true_eq_false,Bool.not_true,Bool.not_false,Bool.not_eq_true',Bool.not_eq_false',Bool.not_eq_true,Bool.not_eq_false,false_implies,true_implies,beq_iff_eq,beq_eq_false_iff_ne,bne_iff_ne,bne_eq_false_iff_eq,ne_eq,ge_iff_le,gt_iff_lt,Int.not_lt,Int.not_le,not_true_eq_false,not_false_eq_true,if_true,if_false,z6n,z6o,z6p,z6q,Heap.set_set,z6r,z6s,z6t,z6u,z6v,z6w,List.getElem_cons_zero,List.getElem_cons_succ,List.set_cons_zero,List.set_cons_succ,List.length_set,List.all_cons,List.all_nil,Bool.and_true,Bool.true_and,Bool.and_self,Nat.add_zero,Nat.zero_add,Nat.zero_lt_succ,Int.cast_ofNat_Int,List.size_toArray,List.flatten_replicate_singleton,Nat.mul_one,Nat.le_refl,Nat.lt_irrefl,Nat.le_add_left]
  refine wp_loop' (fun m t H => H = h1 ∧ ∃ (j : Nat), t = tl [(1, .int .i64 a), (11, .slice base A.length c), (12, .int .i64 A.length), (13, .int .i64 j)] ∧ j ≤ A.length ∧ m = A.length - j ∧ (A.take j).contains a = false) A.length
    ⟨rfl, 0, rfl, by omega, by omega, rfl⟩ ?_
  rintro m t H ⟨rfl, j, rfl, hj, rfl, hno⟩
  by_cases hlt : j < A.length
  · obtain ⟨b, o, c', hv, hc, hcl⟩ := so.int_at j hlt
    simp only [Value.slice.injEq, true_and] at hv
    obtain ⟨rfl, rfl⟩ := hv
    have hz := hcl H (Heap.le_refl _)
    rw [Nat.mul_one] at hz
    have e1 : (j : Int) < A.length := by omega
    have e2 : (0 : Int) ≤ j := by omega
    by_cases he : A[j] = a
    · simp -implicitDefEqProofs only [z00,z01,z02,z03,z04,z05,z06,z07,z08,z09,z0a,z0b,z0c,z0d,z0e,z0f,z0g,z0h,z0i,z0j,z0k,z0l,z0m,z0n,retO,retL,retV,z0o,z0p,z0q,z0r,z0s,z0t,z0u,z0v,z0w,z0x,z0y,z0z,z10,z11,z12,z13,z14,z15,z16,z17,z18,z19,z1a,z1b,z1c,z1d,z1e,z1f,z1g,z1h,z1i,z1j,z1k,z1l,z1m,z1n,z1o,z1p,z1q,z1r,z1s,z1t,z1u,z1v,z1w,z1x,z1y,z1z,z20,z21,z22,z23,z24,z25,z26,z27,z28,z29,z2a,z2b,z2c,z2d,z2e,z2f,z2g,z2h,z2i,z2j,z2k,z2l,z2m,z2n,z2o,z2p,z2q,z2r,z2s,z2t,z2u,z2v,z2w,z2x,z2y,z2z,z30,z31,z32,z33,z34,z35,z36,z37,z38,z39,z3a,z3b,z3c,z3d,z3e,z3f,z3g,z3h,z3i,z3j,z3k,z3l,z3m,z3n,z3o,z3p,z3q,z3r,z3s,z3t,z3u,z3v,z3w,z3x,z3y,z3z,z40,z41,z42,z43,z44,z45,z46,z47,z48,z49,z4a,z4b,z4c,z4d,z4e,z4f,z4g,z4h,z4i,z4j,z4k,z4l,z4m,z4n,z4o,z4p,z4q,z4r,z4s,z4t,z4u,z4v,z4w,z4x,z4y,z4z,z50,z51,z52,z53,z54,z55,z56,z57,z58,z59,z5a,z5b,z5c,z5d,z5e,z5f,z5g,z5h,z5i,z5j,z5k,z5l,z5m,z5n,z5o,z5p,z5q,z5r,z5s,z5t,z5u,z5v,z5w,z5x,z5y,z5z,z60,z61,z62,z63,z64,z65,z66,z67,z68,z69,allV,allP,z6a,z6b,z6c,z6d,z6e,z6f,z6g,z6h,z6i,z6j,z6k,z6l,z6m,Option.map_some,Option.map_none,Option.some.injEq,reduceIte,reduceCtorEq,Nat.reduceEqDiff,Nat.reduceAdd,Nat.reduceMul,Nat.reduceLT,Nat.reduceSub,Int.reduceLT,Int.reduceLE,Int.reduceEq,Int.reduceNe,Int.reduceSub,Int.reduceAdd,Int.reduceMul,Int.reduceBEq,Int.reduceBNe,Int.reduceGT,Int.reduceGE,Nat.reduceGT,Int.reduceToNat,Int.reduceNeg,Nat.reduceLeDiff,Nat.reduceBEq,Nat.reduceBneDiff,binV,eqV,unV,oOpt,true_and,and_true,Value.cells,List.length_cons,List.length_nil,List.append_nil,List.nil_append,List.cons_append,List.drop_succ_cons,List.drop_zero,List.take_succ_cons,List.take_zero,List.take_nil,List.getElem?_cons_zero,List.getElem?_cons_succ,decide_true,decide_false,decide_eq_true_eq,decide_eq_false_iff_not,Bool.false_eq_true,Bool.true_eq_false,Bool.not_true,Bool.not_false,Bool.not_eq_true',Bool.not_eq_false',Bool.not_eq_true,Bool.not_eq_false,false_implies,true_implies,beq_iff_eq,beq_eq_false_iff_ne,bne_iff_ne,bne_eq_false_iff_eq,ne_eq,ge_iff_le,gt_iff_lt,Int.not_lt,Int.not_le,not_true_eq_false,not_false_eq_true,if_true,if_false,z6n,z6o,z6p,z6q,Heap.set_set,z6r,z6s,z6t,z6u,z6v,z6w,List.getElem_cons_zero,List.getElem_cons_succ,List.set_cons_zero,List.set_cons_succ,List.length_set,List.all_cons,List.all_nil,Bool.and_true,Bool.true_and,Bool.and_self,Nat.add_zero,Nat.zero_add,Nat.zero_lt_succ,Int.cast_ofNat_Int,List.size_toArray,List.flatten_replicate_singleton,Nat.mul_one,Nat.le_refl,Nat.lt_irrefl,Nat.le_add_left, e1, e2, hz, Int.toNat_natCast, he]
      refine ⟨le1, ?_⟩
      have : A.contains a = true := List.contains_iff_mem.2 (by rw [← he]; exact List.getElem_mem hlt)
      rw [this]
    · simp -implicitDefEqProofs only [z00,z01,z02,z03,z04,z05,z06,z07,z08,z09,z0a,z0b,z0c,z0d,z0e,z0f,z0g,z0h,z0i,z0j,z0k,z0l,z0m,z0n,retO,retL,retV,z0o,z0p,z0q,z0r,z0s,z0t,z0u,z0v,z0w,z0x,z0y,z0z,z10,z11,z12,z13,z14,z15,z16,z17,z18,z19,z1a,z1b,z1c,z1d,z1e,z1f,z1g,z1h,z1i,z1j,z1k,z1l,z1m,z1n,z1o,z1p,z1q,z1r,z1s,z1t,z1u,z1v,z1w,z1x,z1y,z1z,z20,z21,z22,z23,z24,z25,z26,z27,z28,z29,z2a,z2b,z2c,z2d,z2e,z2f,z2g,z2h,z2i,z2j,z2k,z2l,z2m,z2n,z2o,z2p,z2q,z2r,z2s,z2t,z2u,z2v,z2w,z2x,z2y,z2z,z30,z31,z32,z33,z34,z35,z36,z37,z38,z39,z3a,z3b,z3c,z3d,z3e,z3f,z3g,z3h,z3i,z3j,z3k,z3l,z3m,z3n,z3o,z3p,z3q,z3r,z3s,z3t,z3u,z3v,z3w,z3x,z3y,z3z,z40,z41,z42,z43,z44,z45,z46,z47,z48,z49,z4a,z4b,z4c,z4d,z4e,z4f,z4g,z4h,z4i,z4j,z4k,z4l,z4m,z4n,z4o,z4p,z4q,z4r,z4s,z4t,z4u,z4v,z4w,z4x,z4y,z4z,z50,z51,z52,z53,z54,z55,z56,z57,z58,z59,z5a,z5b,z5c,z5d,z5e,z5f,z5g,z5h,z5i,z5j,z5k,z5l,z5m,z5n,z5o,z5p,z5q,z5r,z5s,z5t,z5u,z5v,z5w,z5x,z5y,z5z,z60,z61,z62,z63,z64,z65,z66,z67,z68,z69,allV,allP,z6a,z6b,z6c,z6d,z6e,z6f,z6g,z6h,z6i,z6j,z6k,z6l,z6m,Option.map_some,Option.map_none,Option.some.injEq,reduceIte,reduceCtorEq,Nat.reduceEqDiff,Nat.reduceAdd,Nat.reduceMul,Nat.reduceLT,Nat.reduceSub,Int.reduceLT,Int.reduceLE,Int.reduceEq,Int.reduceNe,Int.reduceSub,Int.reduceAdd,Int.reduceMul,Int.reduceBEq,Int.reduceBNe,Int.reduceGT,Int.reduceGE,Nat.reduceGT,Int.reduceToNat,Int.reduceNeg,Nat.reduceLeDiff,Nat.reduceBEq,Nat.reduceBneDiff,binV,eqV,unV,oOpt,true_and,and_true,Value.cells,List.length_cons,List.length_nil,List.append_nil,List.nil_append,List.cons_append,List.drop_succ_cons,List.drop_zero,List.take_succ_cons,List.take_zero,List.take_nil,List.getElem?_cons_zero,List.getElem?_cons_succ,decide_true,decide_false,decide_eq_true_eq,decide_eq_false_iff_not,Bool.false_eq_true,Bool.true_eq_false,Bool.not_true,Bool.not_false,Bool.not_eq_true',Bool.not_eq_false',Bool.not_eq_true,Bool.not_eq_false,false_implies,true_implies,beq_iff_eq,beq_eq_false_iff_ne,bne_iff_ne,bne_eq_false_iff_eq,ne_eq,ge_iff_le,gt_iff_lt,Int.not_lt,Int.not_le,not_true_eq_false,not_false_eq_true,if_true,if_false,z6n,z6o,z6p,z6q,Heap.set_set,z6r,z6s,z6t,z6u,z6v,z6w,List.getElem_cons_zero,List.getElem_cons_succ,List.set_cons_zero,List.set_cons_succ,List.length_set,List.all_cons,List.all_nil,Bool.and_true,Bool.true_and,Bool.and_self,Nat.add_zero,Nat.zero_add,Nat.zero_lt_succ,Int.cast_ofNat_Int,List.size_toArray,List.flatten_replicate_singleton,Nat.mul_one,Nat.le_refl,Nat.lt_irrefl,Nat.le_add_left, e1, e2, hz, Int.toNat_natCast, he, wrap_succ hlt hlen]
      refine ⟨_, ?_, j + 1, rfl, hlt, rfl, ?_⟩
      · omega
      · rw [List.take_succ_eq_append_getElem hlt]
        simp only [List.contains_eq_mem, List.mem_append, List.mem_singleton, decide_eq_false_iff_not] at hno ⊢
        rintro (h | h)
        · exact hno h
        · exact he h.symm
  · have e1 : ¬ (j : Int) < A.length := by omega
    have : j = A.length := by omega
    subst this
    rw [List.take_length] at hno
    simp -implicitDefEqProofs only [z00,z01,z02,z03,z04,z05,z06,z07,z08,z09,z0a,z0b,z0c,z0d,z0e,z0f,z0g,z0h,z0i,z0j,z0k,z0l,z0m,z0n,retO,retL,retV,z0o,z0p,z0q,z0r,z0s,z0t,z0u,z0v,z0w,z0x,z0y,z0z,z10,z11,z12,z13,z14,z15,z16,z17,z18,z19,z1a,z1b,z1c,z1d,z1e,z1f,z1g,z1h,z1i,z1j,z1k,z1l,z1m,z1n,z1o,z1p,z1q,z1r,z1s,z1t,z1u,z1v,z1w,z1x,z1y,z1z,z20,z21,z22,z23,z24,z25,z26,z27,z28,z29,z2a,z2b,z2c,z2d,z2e,z2f,z2g,z2h,z2i,z2j,z2k,z2l,z2m,z2n,z2o,z2p,z2q,z2r,z2s,z2t,z2u,z2v,z2w,z2x,z2y,z2z,z30,z31,z32,z33,z34,z35,z36,z37,z38,z39,z3a,z3b,z3c,z3d,z3e,z3f,z3g,z3h,z3i,z3j,z3k,z3l,z3m,z3n,z3o,z3p,z3q,z3r,z3s,z3t,z3u,z3v,z3w,z3x,z3y,z3z,z40,z41,z42,z43,z44,z45,z46,z47,z48,z49,z4a,z4b,z4c,z4d,z4e,z4f,z4g,z4h,z4i,z4j,z4k,z4l,z4m,z4n,z4o,z4p,z4q,z4r,z4s,z4t,z4u,z4v,z4w,z4x,z4y,z4z,z50,z51,z52,z53,z54,z55,z56,z57,z58,z59,z5a,z5b,z5c,z5d,z5e,z5f,z5g,z5h,z5i,z5j,z5k,z5l,z5m,z5n,z5o,z5p,z5q,z5r,z5s,z5t,z5u,z5v,z5w,z5x,z5y,z5z,z60,z61,z62,z63,z64,z65,z66,z67,z68,z69,allV,allP,z6a,z6b,z6c,z6d,z6e,z6f,z6g,z6h,z6i,z6j,z6k,z6l,z6m,Option.map_some,Option.map_none,Option.some.injEq,reduceIte,reduceCtorEq,Nat.reduceEqDiff,Nat.reduceAdd,Nat.reduceMul,Nat.reduceLT,Nat.reduceSub,Int.reduceLT,Int.reduceLE,Int.reduceEq,Int.reduceNe,Int.reduceSub,Int.reduceAdd,Int.reduceMul,Int.reduceBEq,Int.reduceBNe,Int.reduceGT,Int.reduceGE,Nat.reduceGT,Int.reduceToNat,Int.reduceNeg,Nat.reduceLeDiff,Nat.reduceBEq,Nat.reduceBneDiff,binV,eqV,unV,oOpt,true_and,and_true,Value.cells,List.length_cons,List.length_nil,List.append_nil,List.nil_append,List.cons_append,List.drop_succ_cons,List.drop_zero,List.take_succ_cons,List.take_zero,List.take_nil,List.getElem?_cons_zero,List.getElem?_cons_succ,decide_true,decide_false,decide_eq_true_eq,decide_eq_false_iff_not,Bool.false_eq_true,Bool.true_eq_false,Bool.not_true,Bool.not_false,Bool.not_eq_true',Bool.not_eq_false',Bool.not_eq_true,Bool.not_eq_false,false_implies,true_implies,beq_iff_eq,beq_eq_false_iff_ne,bne_iff_ne,bne_eq_false_iff_eq,ne_eq,ge_iff_le,gt_iff_lt,Int.not_lt,Int.not_le,not_true_eq_false,not_false_eq_true,if_true,if_false,z6n,z6o,z6p,z6q,Heap.set_set,z6r,z6s,z6t,z6u,z6v,z6w,List.getElem_cons_zero,List.getElem_cons_succ,List.set_cons_zero,List.set_cons_succ,List.length_set,List.all_cons,List.all_nil,Bool.and_true,Bool.true_and,Bool.and_self,Nat.add_zero,Nat.zero_add,Nat.zero_lt_succ,Int.cast_ofNat_Int,List.size_toArray,List.flatten_replicate_singleton,Nat.mul_one,Nat.le_refl,Nat.lt_irrefl,Nat.le_add_left, e1]
    rw [hno]
    exact ⟨le1, rfl⟩

noncomputable def sameK (L : List Th) (a b : Int) : Bool := if goodT L = true ∧ belowB a L.length = true ∧ belowB b L.length = true then decide (FI L a.toNat = FI L b.toNat) else false
theorem know_Same_c (E : EnvT tab) (h : Heap) {v : Value} (L : List Th) (a b : Int) (hl : L.length ≤ 9223372036854775807) (s : Sl h 4 v L.length (L.flatMap Th.cells)) :
    ACallN E.toEnv n_know_Same [v, .int .i64 a, .int .i64 b] h fun r h' => h.le h' ∧ r = .bool (sameK L a b) := by
  obtain ⟨base, c, rfl⟩ := s.shape
  refine acall h_know_Same ir_know_Same rfl rfl (wpA_sound ?_)
  unfold ir_know_Same
  simp -implicitDefEqProofs only [z00,z01,z02,z03,z04,z05,z06,z07,z08,z09,z0a,z0b,z0c,z0d,z0e,z0f,z0g,z0h,z0i,z0j,z0k,z0l,z0m,z0n,retO,retL,retV,z0o,z0p,z0q,z0r,z0s,z0t,z0u,z0v,z0w,z0x,z0y,z0z,z10,z11,z12,z13,z14,z15,z16,z17,z18,z19,z1a,z1b,z1c,z1d,z1e,z1f,z1g,z1h,z1i,z1j,z1k,z1l,z1m,z1n,z1o,z1p,z1q,z1r,z1s,z1t,z1u,z1v,z1w,z1x,z1y,z1z,z20,z21,z22,z23,z24,z25,z26,z27,z28,z29,z2a,z2b,z2c,z2d,z2e,z2f,z2g,z2h,z2i,z2j,z2k,z2l,z2m,z2n,z2o,z2p,z2q,z2r,z2s,z2t,z2u,z2v,z2w,z2x,z2y,z2z,z30,z31,z32,z33,z34,z35,z36,z37,z38,z39,z3a,z3b,z3c,z3d,z3e,z3f,z3g,z3h,z3i,z3j,z3k,z3l,z3m,z3n,z3o,z3p,z3q,z3r,z3s,z3t,z3u,z3v,z3w,z3x,z3y,z3z,z40,z41,z42,z43,z44,z45,z46,z47,z48,z49,z4a,z4b,z4c,z4d,z4e,z4f,z4g,z4h,z4i,z4j,z4k,z4l,z4m,z4n,z4o,z4p,z4q,z4r,z4s,z4t,z4u,z4v,z4w,z4x,z4y,z4z,z50,z51,z52,z53,z54,z55,z56,z57,z58,z59,z5a,z5b,z5c,z5d,z5e,z5f,z5g,z5h,z5i,z5j,z5k,z5l,z5m,z5n,z5o,z5p,z5q,z5r,z5s,z5t,z5u,z5v,z5w,z5x,z5y,z5z,z60,z61,z62,z63,z64,z65,z66,z67,z68,z69,allV,allP,z6a,z6b,z6c,z6d,z6e,z6f,z6g,z6h,z6i,z6j,z6k,z6l,z6m,Option.map_some,Option.map_none,Option.some.injEq,reduceIte,reduceCtorEq,Nat.reduceEqDiff,Nat.reduceAdd,Nat.reduceMul,Nat.reduceLT,Nat.reduceSub,Int.reduceLT,Int.reduceLE,Int.reduceEq,Int.reduceNe,Int.reduceSub,Int.reduceAdd,Int.reduceMul,Int.reduceBEq,Int.reduceBNe,Int.reduceGT,Int.reduceGE,Nat.reduceGT,Int.reduceToNat,Int.reduceNeg,Nat.reduceLeDiff,Nat.reduceBEq,Nat.reduceBneDiff,binV,eqV,unV,oOpt,true_and,and_true,Value.cells,List.length_cons,List.length_nil,List.append_nil,List.nil_append,List.cons_append,List.drop_succ_cons,List.drop_zero,List.take_succ_cons,List.take_zero,List.take_nil,List.getElem?_cons_zero,List.getElem?_cons_succ,decide_true,decide_false,decide_eq_true_eq,decide_eq_false_iff_not,Bool.false_eq_true,Bool.true_eq_false,Bool.not_true,Bool.not_false,Bool.not_eq_true',Bool.not_eq_false',Bool.not_eq_true,Bool.not_eq_false,false_implies,true_implies,beq_iff_eq,beq_eq_false_iff_ne,bne_iff_ne,bne_eq_false_iff_eq,ne_eq,ge_iff_le,gt_iff_lt,Int.not_lt,Int.not_le,not_true_eq_false,not_false_eq_true,if_true,if_false,z6n,z6o,z6p,z6q,Heap.set_set,z6r,z6s,z6t,z6u,z6v,z6w,List.getElem_cons_zero,List.getElem_cons_succ,List.set_cons_zero,List.set_cons_succ,List.length_set,List.all_cons,List.all_nil,Bool.and_true,Bool.true_and,Bool.and_self,Nat.add_zero,Nat.zero_add,Nat.zero_lt_succ,Int.cast_ofNat_Int,List.size_toArray,List.flatten_replicate_singleton,Nat.mul_one,Nat.le_refl,Nat.lt_irrefl,Nat.le_add_left]
  refine (know_Good_c E h L hl s).mono ?_
  rintro v h0 ⟨le0, rfl⟩
  cases hgT : goodT L with
  | false =>
    simp -implicitDefEqProofs only [z00,z01,z02,z03,z04,z05,z06,z07,z08,z09,z0a,z0b,z0c,z0d,z0e,z0f,z0g,z0h,z0i,z0j,z0k,z0l,z0m,z0n,retO,retL,retV,z0o,z0p,z0q,z0r,z0s,z0t,z0u,z0v,z0w,z0x,z0y,z0z,z10,z11,z12,z13,z14,z15,z16,z17,z18,z19,z1a,z1b,z1c,z1d,z1e,z1f,z1g,z1h,z1i,z1j,z1k,z1l,z1m,z1n,z1o,z1p,z1q,z1r,z1s,z1t,z1u,z1v,z1w,z1x,z1y,z1z,z20,z21,z22,z23,z24,z25,z26,z27,z28,z29,z2a,z2b,z2c,z2d,z2e,z2f,z2g,z2h,z2i,z2j,z2k,z2l,z2m,z2n,z2o,z2p,z2q,z2r,z2s,z2t,z2u,z2v,z2w,z2x,z2y,z2z,z30,z31,z32,z33,z34,z35,z36,z37,z38,z39,z3a,z3b,z3c,z3d,z3e,z3f,z3g,z3h,z3i,z3j,z3k,z3l,z3m,z3n,z3o,z3p,z3q,z3r,z3s,z3t,z3u,z3v,z3w,z3x,z3y,z3z,z40,z41,z42,z43,z44,z45,z46,z47,z48,z49,z4a,z4b,z4c,z4d,z4e,z4f,z4g,z4h,z4i,z4j,z4k,z4l,z4m,z4n,z4o,z4p,z4q,z4r,z4s,z4t,z4u,z4v,z4w,z4x,z4y,z4z,z50,z51,z52,z53,z54,z55,z56,z57,z58,z59,z5a,z5b,z5c,z5d,z5e,z5f,z5g,z5h,z5i,z5j,z5k,z5l,z5m,z5n,z5o,z5p,z5q,z5r,z5s,z5t,z5u,z5v,z5w,z5x,z5y,z5z,z60,z61,z62,z63,z64,z65,z66,z67,z68,z69,allV,allP,z6a,z6b,z6c,z6d,z6e,z6f,z6g,z6h,z6i,z6j,z6k,z6l,z6m,Option.map_some,Option.map_none,Option.some.injEq,reduceIte,reduceCtorEq,Nat.reduceEqDiff,Nat.reduceAdd,Nat.reduceMul,Nat.reduceLT,Nat.reduceSub,Int.reduceLT,Int.reduceLE,Int.reduceEq,Int.reduceNe,Int.reduceSub,Int.reduceAdd,Int.reduceMul,Int.reduceBEq,Int.reduceBNe,Int.reduceGT,Int.reduceGE,Nat.reduceGT,Int.reduceToNat,Int.reduceNeg,Nat.reduceLeDiff,Nat.reduceBEq,Nat.reduceBneDiff,binV,eqV,unV,oOpt,true_and,and_true,Value.cells,List.length_cons,List.length_nil,List.append_nil,List.nil_append,List.cons_append,List.drop_succ_cons,List.drop_zero,List.take_succ_cons,List.take_zero,List.take_nil,List.getElem?_cons_zero,List.getElem?_cons_succ,decide_true,decide_false,decide_eq_true_eq,decide_eq_false_iff_not,Bool.false_eq_true,Bool.true_eq_false,Bool.not_true,Bool.not_false,Bool.not_eq_true',Bool.not_eq_false',Bool.not_eq_true,Bool.not_eq_false,false_implies,true_implies,beq_iff_eq,beq_eq_false_iff_ne,bne_iff_ne,bne_eq_false_iff_eq,ne_eq,ge_iff_le,gt_iff_lt,Int.not_lt,Int.not_le,not_true_eq_false,not_false_eq_true,if_true,if_false,z6n,z6o,z6p,z6q,Heap.set_set,z6r,z6s,z6t,z6u,z6v,z6w,List.getElem_cons_zero,List.getElem_cons_succ,List.set_cons_zero,List.set_cons_succ,List.length_set,List.all_cons,List.all_nil,Bool.and_true,Bool.true_and,Bool.and_self,Nat.add_zero,Nat.zero_add,Nat.zero_lt_succ,Int.cast_ofNat_Int,List.size_toArray,List.flatten_replicate_singleton,Nat.mul_one,Nat.le_refl,Nat.lt_irrefl,Nat.le_add_left]
    exact ⟨le0, by simp [sameK, hgT]⟩
  | true =>
  have hg := goodT_true.1 hgT
  simp -implicitDefEqProofs only [z00,z01,z02,z03,z04,z05,z06,z07,z08,z09,z0a,z0b,z0c,z0d,z0e,z0f,z0g,z0h,z0i,z0j,z0k,z0l,z0m,z0n,retO,retL,retV,z0o,z0p,z0q,z0r,z0s,z0t,z0u,z0v,z0w,z0x,z0y,z0z,z10,z11,z12,z13,z14,z15,z16,z17,z18,z19,z1a,z1b,z1c,z1d,z1e,z1f,z1g,z1h,z1i,z1j,z1k,z1l,z1m,z1n,z1o,z1p,z1q,z1r,z1s,z1t,z1u,z1v,z1w,z1x,z1y,z1z,z20,z21,z22,z23,z24,z25,z26,z27,z28,z29,z2a,z2b,z2c,z2d,z2e,z2f,z2g,z2h,z2i,z2j,z2k,z2l,z2m,z2n,z2o,z2p,z2q,z2r,z2s,z2t,z2u,z2v,z2w,z2x,z2y,z2z,z30,z31,z32,z33,z34,z35,z36,z37,z38,z39,z3a,z3b,z3c,z3d,z3e,z3f,z3g,z3h,z3i,z3j,z3k,z3l,z3m,z3n,z3o,z3p,z3q,z3r,z3s,z3t,z3u,z3v,z3w,z3x,z3y,z3z,z40,z41,z42,z43,z44,z45,z46,z47,z48,z49,z4a,z4b,z4c,z4d,z4e,z4f,z4g,z4h,z4i,z4j,z4k,z4l,z4m,z4n,z4o,z4p,z4q,z4r,z4s,z4t,z4u,z4v,z4w,z4x,z4y,z4z,z50,z51,z52,z53,z54,z55,z56,z57,z58,z59,z5a,z5b,z5c,z5d,z5e,z5f,z5g,z5h,z5i,z5j,z5k,z5l,z5m,z5n,z5o,z5p,z5q,z5r,z5s,z5t,z5u,z5v,z5w,z5x,z5y,z5z,z60,z61,z62,z63,z64,z65,z66,z67,z68,z69,allV,allP,z6a,z6b,z6c,z6d,z6e,z6f,z6g,z6h,z6i,z6j,z6k,z6l,z6m,Option.map_some,Option.map_none,Option.some.injEq,reduceIte,reduceCtorEq,Nat.reduceEqDiff,Nat.reduceAdd,Nat.reduceMul,Nat.reduceLT,Nat.reduceSub,Int.reduceLT,Int.reduceLE,Int.reduceEq,Int.reduceNe,Int.reduceSub,Int.reduceAdd,Int.reduceMul,Int.reduceBEq,Int.reduceBNe,Int.reduceGT,Int.reduceGE,Nat.reduceGT,Int.reduceToNat,Int.reduceNeg,Nat.reduceLeDiff,Nat.reduceBEq,Nat.reduceBneDiff,binV,eqV,unV,oOpt,true_and,and_true,Value.cells,List.length_cons,List.length_nil,List.append_nil,List.nil_append,List.cons_append,List.drop_succ_cons,List.drop_zero,List.take_succ_cons,List.take_zero,List.take_nil,List.getElem?_cons_zero,List.getElem?_cons_succ,decide_true,decide_false,decide_eq_true_eq,decide_eq_false_iff_not,Bool.false_eq_true,Bool.true_eq_false,Bool.not_true,Bool.not_false,Bool.not_eq_true',Bool.not_eq_false',Bool.not_eq_true,Bool.not_eq_false,false_implies,true_implies,beq_iff_eq,beq_eq_false_iff_ne,bne_iff_ne,bne_eq_false_iff_eq,ne_eq,ge_iff_le,gt_iff_lt,Int.not_lt,Int.not_le,not_true_eq_false,not_false_eq_true,if_true,if_false,z6n,z6o,z6p,z6q,Heap.set_set,z6r,z6s,z6t,z6u,z6v,z6w,List.getElem_cons_zero,List.getElem_cons_succ,List.set_cons_zero,List.set_cons_succ,List.length_set,List.all_cons,List.all_nil,Bool.and_true,Bool.true_and,Bool.and_self,Nat.add_zero,Nat.zero_add,Nat.zero_lt_succ,Int.cast_ofNat_Int,List.size_toArray,List.flatten_replicate_singleton,Nat.mul_one,Nat.le_refl,Nat.lt_irrefl,Nat.le_add_left]
  refine (know_below_c E _ _ _).mono ?_
  rintro v h1 ⟨rfl, rfl⟩
  cases hA : belowB a L.length with
  | false =>
    simp -implicitDefEqProofs only [z00,z01,z02,z03,z04,z05,z06,z07,z08,z09,z0a,z0b,z0c,z0d,z0e,z0f,z0g,z0h,z0i,z0j,z0k,z0l,z0m,z0n,retO,retL,retV,z0o,z0p,z0q,z0r,z0s,z0t,z0u,z0v,z0w,z0x,z0y,z0z,z10,z11,z12,z13,z14,z15,z16,z17,z18,z19,z1a,z1b,z1c,z1d,z1e,z1f,z1g,z1h,z1i,z1j,z1k,z1l,z1m,z1n,z1o,z1p,z1q,z1r,z1s,z1t,z1u,z1v,z1w,z1x,z1y,z1z,z20,z21,z22,z23,z24,z25,z26,z27,z28,z29,z2a,z2b,z2c,z2d,z2e,z2f,z2g,z2h,z2i,z2j,z2k,z2l,z2m,z2n,z2o,z2p,z2q,z2r,z2s,z2t,z2u,z2v,z2w,z2x,z2y,z2z,z30,z31,z32,z33,z34,z35,z36,z37,z38,z39,z3a,z3b,z3c,z3d,z3e,z3f,z3g,z3h,z3i,z3j,z3k,z3l,z3m,z3n,z3o,z3p,z3q,z3r,z3s,z3t,z3u,z3v,z3w,z3x,z3y,z3z,z40,z41,z42,z43,z44,z45,z46,z47,z48,z49,z4a,z4b,z4c,z4d,z4e,z4f,z4g,z4h,z4i,z4j,z4k,z4l,z4m,z4n,z4o,z4p,z4q,z4r,z4s,z4t,z4u,z4v,z4w,z4x,z4y,z4z,z50,z51,z52,z53,z54,z55,z56,z57,z58,z59,z5a,z5b,z5c,z5d,z5e,z5f,z5g,z5h,z5i,z5j,z5k,z5l,z5m,z5n,z5o,z5p,z5q,z5r,z5s,z5t,z5u,z5v,z5w,z5x,z5y,z5z,z60,z61,z62,z63,z64,z65,z66,z67,z68,z69,allV,allP,z6a,z6b,z6c,z6d,z6e,z6f,z6g,z6h,z6i,z6j,z6k,z6l,z6m,Option.map_some,Option.map_none,Option.some.injEq,reduceIte,reduceCtorEq,Nat.reduceEqDiff,Nat.reduceAdd,Nat.reduceMul,Nat.reduceLT,Nat.reduceSub,Int.reduceLT,Int.reduceLE,Int.reduceEq,Int.reduceNe,Int.reduceSub,Int.reduceAdd,Int.reduceMul,Int.reduceBEq,Int.reduceBNe,Int.reduceGT,Int.reduceGE,Nat.reduceGT,Int.reduceToNat,Int.reduceNeg,Nat.reduceLeDiff,Nat.reduceBEq,Nat.reduceBneDiff,binV,eqV,unV,oOpt,true_and,and_true,Value.cells,List.length_cons,List.length_nil,List.append_nil,List.nil_append,List.cons_append,List.drop_succ_cons,List.drop_zero,List.take_succ_cons,List.take_zero,List.take_nil,List.getElem?_cons_zero,List.getElem?_cons_succ,decide_true,decide_false,decide_eq_true_eq,decide_eq_false_iff_not,Bool.false_eq_true,Bool.true_eq_false,Bool.not_true,Bool.not_false,Bool.not_eq_true',Bool.not_eq_false',Bool.not_eq_true,Bool.not_eq_false,false_implies,true_implies,beq_iff_eq,beq_eq_false_iff_ne,bne_iff_ne,bne_eq_false_iff_eq,ne_eq,ge_iff_le,gt_iff_lt,Int.not_lt,Int.not_le,not_true_eq_false,not_false_eq_true,if_true,if_false,z6n,z6o,z6p,z6q,Heap.set_set,z6r,z6s,z6t,z6u,z6v,z6w,List.getElem_cons_zero,List.getElem_cons_succ,List.set_cons_zero,List.set_cons_succ,List.length_set,List.all_cons,List.all_nil,Bool.and_true,Bool.true_and,Bool.and_self,Nat.add_zero,Nat.zero_add,Nat.zero_lt_succ,Int.cast_ofNat_Int,List.size_toArray,List.flatten_replicate_singleton,Nat.mul_one,Nat.le_refl,Nat.lt_irrefl,Nat.le_add_left]
    exact ⟨le0, by simp [sameK, hA]⟩
  | true =>
  simp -implicitDefEqProofs only [z00,z01,z02,z03,z04,z05,z06,z07,z08,z09,z0a,z0b,z0c,z0d,z0e,z0f,z0g,z0h,z0i,z0j,z0k,z0l,z0m,z0n,retO,retL,retV,z0o,z0p,z0q,z0r,z0s,z0t,z0u,z0v,z0w,z0x,z0y,z0z,z10,z11,z12,z13,z14,z15,z16,z17,z18,z19,z1a,z1b,z1c,z1d,z1e,z1f,z1g,z1h,z1i,z1j,z1k,z1l,z1m,z1n,z1o,z1p,z1q,z1r,z1s,z1t,z1u,z1v,z1w,z1x,z1y,z1z,z20,z21,z22,z23,z24,z25,z26,z27,z28,z29,z2a,z2b,z2c,z2d,z2e,z2f,z2g,z2h,z2i,z2j,z2k,z2l,z2m,z2n,z2o,z2p,z2q,z2r,z2s,z2t,z2u,z2v,z2w,z2x,z2y,z2z,z30,z31,z32,z33,z34,z35,z36,z37,z38,z39,z3a,z3b,z3c,z3d,z3e,z3f,z3g,z3h,z3i,z3j,z3k,z3l,z3m,z3n,z3o,z3p,z3q,z3r,z3s,z3t,z3u,z3v,z3w,z3x,z3y,z3z,z40,z41,z42,z43,z44,z45,z46,z47,z48,z49,z4a,z4b,z4c,z4d,z4e,z4f,z4g,z4h,z4i,z4j,z4k,z4l,z4m,z4n,z4o,z4p,z4q,z4r,z4s,z4t,z4u,z4v,z4w,z4x,z4y,z4z,z50,z51,z52,z53,z54,z55,z56,z57,z58,z59,z5a,z5b,z5c,z5d,z5e,z5f,z5g,z5h,z5i,z5j,z5k,z5l,z5m,z5n,z5o,z5p,z5q,z5r,z5s,z5t,z5u,z5v,z5w,z5x,z5y,z5z,z60,z61,z62,z63,z64,z65,z66,z67,z68,z69,allV,allP,z6a,z6b,z6c,z6d,z6e,z6f,z6g,z6h,z6i,z6j,z6k,z6l,z6m,Option.map_some,Option.map_none,Option.some.injEq,reduceIte,reduceCtorEq,Nat.reduceEqDiff,Nat.reduceAdd,Nat.reduceMul,Nat.reduceLT,Nat.reduceSub,Int.reduceLT,Int.reduceLE,Int.reduceEq,Int.reduceNe,Int.reduceSub,Int.reduceAdd,Int.reduceMul,Int.reduceBEq,Int.reduceBNe,Int.reduceGT,Int.reduceGE,Nat.reduceGT,Int.reduceToNat,Int.reduceNeg,Nat.reduceLeDiff,Nat.reduceBEq,Nat.reduceBneDiff,binV,eqV,unV,oOpt,true_and,and_true,Value.cells,List.length_cons,List.length_nil,List.append_nil,List.nil_append,List.cons_append,List.drop_succ_cons,List.drop_zero,List.take_succ_cons,List.take_zero,List.take_nil,List.getElem?_cons_zero,List.getElem?_cons_succ,decide_true,decide_false,decide_eq_true_eq,decide_eq_false_iff_not,Bool.false_eq_true,Bool.true_eq_false,Bool.not_true,Bool.not_false,Bool.not_eq_true',Bool.not_eq_false',Bool.not_eq_true,Bool.not_eq_false,false_implies,true_implies,beq_iff_eq,beq_eq_false_iff_ne,bne_iff_ne,bne_eq_false_iff_eq,ne_eq,ge_iff_le,gt_iff_lt,Int.not_lt,Int.not_le,not_true_eq_false,not_false_eq_true,if_true,if_false,z6n,z6o,z6p,z6q,Heap.set_set,z6r,z6s,z6t,z6u,z6v,z6w,List.getElem_cons_zero,List.getElem_cons_succ,List.set_cons_zero,List.set_cons_succ,List.length_set,List.all_cons,List.all_nil,Bool.and_true,Bool.true_and,Bool.and_self,Nat.add_zero,Nat.zero_add,Nat.zero_lt_succ,Int.cast_ofNat_Int,List.size_toArray,List.flatten_replicate_singleton,Nat.mul_one,Nat.le_refl,Nat.lt_irrefl,Nat.le_add_left]
  refine (know_below_c E _ _ _).mono ?_
  rintro v h2 ⟨rfl, rfl⟩
  cases hB : belowB b L.length with
  | false =>
    simp -implicitDefEqProofs only [z00,z01,z02,z03,z04,z05,z06,z07,z08,z09,z0a,z0b,z0c,z0d,z0e,z0f,z0g,z0h,z0i,z0j,z0k,z0l,z0m,z0n,retO,retL,retV,z0o,z0p,z0q,z0r,z0s,z0t,z0u,z0v,z0w,z0x,z0y,z0z,z10,z11,z12,z13,z14,z15,z16,z17,z18,z19,z1a,z1b,z1c,z1d,z1e,z1f,z1g,z1h,z1i,z1j,z1k,z1l,z1m,z1n,z1o,z1p,z1q,z1r,z1s,z1t,z1u,z1v,z1w,z1x,z1y,z1z,z20,z21,z22,z23,z24,z25,z26,z27,z28,z29,z2a,z2b,z2c,z2d,z2e,z2f,z2g,z2h,z2i,z2j,z2k,z2l,z2m,z2n,z2o,z2p,z2q,z2r,z2s,z2t,z2u,z2v,z2w,z2x,z2y,z2z,z30,z31,z32,z33,z34,z35,z36,z37,z38,z39,z3a,z3b,z3c,z3d,z3e,z3f,z3g,z3h,z3i,z3j,z3k,z3l,z3m,z3n,z3o,z3p,z3q,z3r,z3s,z3t,z3u,z3v,z3w,z3x,z3y,z3z,z40,z41,z42,z43,z44,z45,z46,z47,z48,z49,z4a,z4b,z4c,z4d,z4e,z4f,z4g,z4h,z4i,z4j,z4k,z4l,z4m,z4n,z4o,z4p,z4q,z4r,z4s,z4t,z4u,z4v,z4w,z4x,z4y,z4z,z50,z51,z52,z53,z54,z55,z56,z57,z58,z59,z5a,z5b,z5c,z5d,z5e,z5f,z5g,z5h,z5i,z5j,z5k,z5l,z5m,z5n,z5o,z5p,z5q,z5r,z5s,z5t,z5u,z5v,z5w,z5x,z5y,z5z,z60,z61,z62,z63,z64,z65,z66,z67,z68,z69,allV,allP,z6a,z6b,z6c,z6d,z6e,z6f,z6g,z6h,z6i,z6j,z6k,z6l,z6m,Option.map_some,Option.map_none,Option.some.injEq,reduceIte,reduceCtorEq,Nat.reduceEqDiff,Nat.reduceAdd,Nat.reduceMul,Nat.reduceLT,Nat.reduceSub,Int.reduceLT,Int.reduceLE,Int.reduceEq,Int.reduceNe,Int.reduceSub,Int.reduceAdd,Int.reduceMul,Int.reduceBEq,Int.reduceBNe,Int.reduceGT,Int.reduceGE,Nat.reduceGT,Int.reduceToNat,Int.reduceNeg,Nat.reduceLeDiff,Nat.reduceBEq,Nat.reduceBneDiff,binV,eqV,unV,oOpt,true_and,and_true,Value.cells,List.length_cons,List.length_nil,List.append_nil,List.nil_append,List.cons_append,List.drop_succ_cons,List.drop_zero,List.take_succ_cons,List.take_zero,List.take_nil,List.getElem?_cons_zero,List.getElem?_cons_succ,decide_true,decide_false,decide_eq_true_eq,decide_eq_false_iff_not,Bool.false_eq_true,Bool.true_eq_false,Bool.not_true,Bool.not_false,Bool.not_eq_true',Bool.not_eq_false',Bool.not_eq_true,Bool.not_eq_false,false_implies,true_implies,beq_iff_eq,beq_eq_false_iff_ne,bne_iff_ne,bne_eq_false_iff_eq,ne_eq,ge_iff_le,gt_iff_lt,Int.not_lt,Int.not_le,not_true_eq_false,not_false_eq_true,if_true,if_false,z6n,z6o,z6p,z6q,Heap.set_set,z6r,z6s,z6t,z6u,z6v,z6w,List.getElem_cons_zero,List.getElem_cons_succ,List.set_cons_zero,List.set_cons_succ,List.length_set,List.all_cons,List.all_nil,Bool.and_true,Bool.true_and,Bool.and_self,Nat.add_zero,Nat.zero_add,Nat.zero_lt_succ,Int.cast_ofNat_Int,List.size_toArray,List.flatten_replicate_singleton,Nat.mul_one,Nat.le_refl,Nat.lt_irrefl,Nat.le_add_left]
    exact ⟨le0, by simp [sameK, hB]⟩
  | true =>
  simp -implicitDefEqProofs only [z00,z01,z02,z03,z04,z05,z06,z07,z08,z09,z0a,z0b,z0c,z0d,z0e,z0f,z0g,z0h,z0i,z0j,z0k,z0l,z0m,z0n,retO,retL,retV,z0o,z0p,z0q,z0r,z0s,z0t,z0u,z0v,z0w,z0x,z0y,z0z,z10,z11,z12,z13,z14,z15,z16,z17,z18,z19,z1a,z1b,z1c,z1d,z1e,z1f,z1g,z1h,z1i,z1j,z1k,z1l,z1m,z1n,z1o,z1p,z1q,z1r,z1s,z1t,z1u,z1v,z1w,z1x,z1y,z1z,z20,z21,z22,z23,z24,z25,z26,z27,z28,z29,z2a,z2b,z2c,z2d,z2e,z2f,z2g,z2h,z2i,z2j,z2k,z2l,z2m,z2n,z2o,z2p,z2q,z2r,z2s,z2t,z2u,z2v,z2w,z2x,z2y,z2z,z30,z31,z32,z33,z34,z35,z36,z37,z38,z39,z3a,z3b,z3c,z3d,z3e,z3f,z3g,z3h,z3i,z3j,z3k,z3l,z3m,z3n,z3o,z3p,z3q,z3r,z3s,z3t,z3u,z3v,z3w,z3x,z3y,z3z,z40,z41,z42,z43,z44,z45,z46,z47,z48,z49,z4a,z4b,z4c,z4d,z4e,z4f,z4g,z4h,z4i,z4j,z4k,z4l,z4m,z4n,z4o,z4p,z4q,z4r,z4s,z4t,z4u,z4v,z4w,z4x,z4y,z4z,z50,z51,z52,z53,z54,z55,z56,z57,z58,z59,z5a,z5b,z5c,z5d,z5e,z5f,z5g,z5h,z5i,z5j,z5k,z5l,z5m,z5n,z5o,z5p,z5q,z5r,z5s,z5t,z5u,z5v,z5w,z5x,z5y,z5z,z60,z61,z62,z63,z64,z65,z66,z67,z68,z69,allV,allP,z6a,z6b,z6c,z6d,z6e,z6f,z6g,z6h,z6i,z6j,z6k,z6l,z6m,Option.map_some,Option.map_none,Option.some.injEq,reduceIte,reduceCtorEq,Nat.reduceEqDiff,Nat.reduceAdd,Nat.reduceMul,Nat.reduceLT,Nat.reduceSub,Int.reduceLT,Int.reduceLE,Int.reduceEq,Int.reduceNe,Int.reduceSub,Int.reduceAdd,Int.reduceMul,Int.reduceBEq,Int.reduceBNe,Int.reduceGT,Int.reduceGE,Nat.reduceGT,Int.reduceToNat,Int.reduceNeg,Nat.reduceLeDiff,Nat.reduceBEq,Nat.reduceBneDiff,binV,eqV,unV,oOpt,true_and,and_true,Value.cells,List.length_cons,List.length_nil,List.append_nil,List.nil_append,List.cons_append,List.drop_succ_cons,List.drop_zero,List.take_succ_cons,List.take_zero,List.take_nil,List.getElem?_cons_zero,List.getElem?_cons_succ,decide_true,decide_false,decide_eq_true_eq,decide_eq_false_iff_not,Bool.false_eq_true,Bool.true_eq_false,Bool.not_true,Bool.not_false,Bool.not_eq_true',Bool.not_eq_false',Bool.not_eq_true,Bool.not_eq_false,false_implies,true_implies,beq_iff_eq,beq_eq_false_iff_ne,bne_iff_ne,bne_eq_false_iff_eq,ne_eq,ge_iff_le,gt_iff_lt,Int.not_lt,Int.not_le,not_true_eq_false,not_false_eq_true,if_true,if_false,z6n,z6o,z6p,z6q,Heap.set_set,z6r,z6s,z6t,z6u,z6v,z6w,List.getElem_cons_zero,List.getElem_cons_succ,List.set_cons_zero,List.set_cons_succ,List.length_set,List.all_cons,List.all_nil,Bool.and_true,Bool.true_and,Bool.and_self,Nat.add_zero,Nat.zero_add,Nat.zero_lt_succ,Int.cast_ofNat_Int,List.size_toArray,List.flatten_replicate_singleton,Nat.mul_one,Nat.le_refl,Nat.lt_irrefl,Nat.le_add_left]
  refine (know_firsts_c E _ L hg (s.le le0)).mono ?_
  rintro v h3 ⟨le3, bf, rfl, hbf0, hbf⟩
  have hA' := hA
  have hB' := hB
  simp only [belowB, Bool.and_eq_true, decide_eq_true_eq] at hA' hB'
  obtain ⟨x, rfl⟩ : ∃ x : Nat, a = x := ⟨a.toNat, by omega⟩
  obtain ⟨y, rfl⟩ : ∃ y : Nat, b = y := ⟨b.toNat, by omega⟩
  obtain ⟨f1, f2, f3⟩ := firstsF_at L (i := x) (by omega)
  obtain ⟨g1, g2, g3⟩ := firstsF_at L (i := y) (by omega)
  have c1 : hcell h3 ⟨bf, x, none⟩ = some (.int .i64 (FI L x)) := by rw [hcell_at (off := x) hbf (by simpa using f1)]; simp [f2]
  have c2 : hcell h3 ⟨bf, y, none⟩ = some (.int .i64 (FI L y)) := by rw [hcell_at (off := y) hbf (by simpa using g1)]; simp [g2]
  have e1 : (x : Int) < L.length := by omega
  have e2 : (y : Int) < L.length := by omega
  have e3 : (0 : Int) ≤ x := by omega
  have e4 : (0 : Int) ≤ y := by omega
  simp -implicitDefEqProofs only [z00,z01,z02,z03,z04,z05,z06,z07,z08,z09,z0a,z0b,z0c,z0d,z0e,z0f,z0g,z0h,z0i,z0j,z0k,z0l,z0m,z0n,retO,retL,retV,z0o,z0p,z0q,z0r,z0s,z0t,z0u,z0v,z0w,z0x,z0y,z0z,z10,z11,z12,z13,z14,z15,z16,z17,z18,z19,z1a,z1b,z1c,z1d,z1e,z1f,z1g,z1h,z1i,z1j,z1k,z1l,z1m,z1n,z1o,z1p,z1q,z1r,z1s,z1t,z1u,z1v,z1w,z1x,z1y,z1z,z20,z21,z22,z23,z24,z25,z26,z27,z28,z29,z2a,z2b,z2c,z2d,z2e,z2f,z2g,z2h,z2i,z2j,z2k,z2l,z2m,z2n,z2o,z2p,z2q,z2r,z2s,z2t,z2u,z2v,z2w,z2x,z2y,z2z,z30,z31,z32,z33,z34,z35,z36,z37,z38,z39,z3a,z3b,z3c,z3d,z3e,z3f,z3g,z3h,z3i,z3j,z3k,z3l,z3m,z3n,z3o,z3p,z3q,z3r,z3s,z3t,z3u,z3v,z3w,z3x,z3y,z3z,z40,z41,z42,z43,z44,z45,z46,z47,z48,z49,z4a,z4b,z4c,z4d,z4e,z4f,z4g,z4h,z4i,z4j,z4k,z4l,z4m,z4n,z4o,z4p,z4q,z4r,z4s,z4t,z4u,z4v,z4w,z4x,z4y,z4z,z50,z51,z52,z53,z54,z55,z56,z57,z58,z59,z5a,z5b,z5c,z5d,z5e,z5f,z5g,z5h,z5i,z5j,z5k,z5l,z5m,z5n,z5o,z5p,z5q,z5r,z5s,z5t,z5u,z5v,z5w,z5x,z5y,z5z,z60,z61,z62,z63,z64,z65,z66,z67,z68,z69,allV,allP,z6a,z6b,z6c,z6d,z6e,z6f,z6g,z6h,z6i,z6j,z6k,z6l,z6m,Option.map_some,Option.map_none,Option.some.injEq,reduceIte,reduceCtorEq,Nat.reduceEqDiff,Nat.reduceAdd,Nat.reduceMul,Nat.reduceLT,Nat.reduceSub,Int.reduceLT,Int.reduceLE,Int.reduceEq,Int.reduceNe,Int.reduceSub,Int.reduceAdd,Int.reduceMul,Int.reduceBEq,Int.reduceBNe,Int.reduceGT,Int.reduceGE,Nat.reduceGT,Int.reduceToNat,Int.reduceNeg,Nat.reduceLeDiff,Nat.reduceBEq,Nat.reduceBneDiff,binV,eqV,unV,oOpt,true_and,and_true,Value.cells,List.length_cons,List.length_nil,List.append_nil,List.nil_append,List.cons_append,List.drop_succ_cons,List.drop_zero,List.take_succ_cons,List.take_zero,List.take_nil,List.getElem?_cons_zero,List.getElem?_cons_succ,decide_true,decide_false,decide_eq_true_eq,decide_eq_false_iff_not,Bool.false_eq_true,Bool.true_eq_false,Bool.not_true,Bool.not_false,Bool.not_eq_true',Bool.not_eq_false',Bool.not_eq_true,Bool.not_eq_false,false_implies,true_implies,beq_iff_eq,beq_eq_false_iff_ne,bne_iff_ne,bne_eq_false_iff_eq,ne_eq,ge_iff_le,gt_iff_lt,Int.not_lt,Int.not_le,not_true_eq_false,not_false_eq_true,if_true,if_false,z6n,z6o,z6p,z6q,Heap.set_set,z6r,z6s,z6t,z6u,z6v,z6w,List.getElem_cons_zero,List.getElem_cons_succ,List.set_cons_zero,List.set_cons_succ,List.length_set,List.all_cons,List.all_nil,Bool.and_true,Bool.true_and,Bool.and_self,Nat.add_zero,Nat.zero_add,Nat.zero_lt_succ,Int.cast_ofNat_Int,List.size_toArray,List.flatten_replicate_singleton,Nat.mul_one,Nat.le_refl,Nat.lt_irrefl,Nat.le_add_left, c1, c2, e1, e2, e3, e4, Int.toNat_natCast]
  refine ⟨Heap.le_trans le0 le3, ?_⟩
  simp only [sameK, hgT, hA, hB, and_self, if_true, Int.toNat_natCast, Value.bool.injEq]
  rw [Bool.eq_iff_iff]; simp only [beq_iff_eq, decide_eq_true_eq]; omega

theorem law18_has_c (E : EnvT tab) (h : Heap) {v : Value} (A : List Int) (a : Int) (hlen : A.length ≤ 9223372036854775807) (so : Sl h 1 v A.length (A.map (.int .i64))) :
    ACallN E.toEnv n_bandboxlaw18_has [v, .int .i64 a] h fun r h' => h' = h ∧ r = .bool (A.contains a) := by
  obtain ⟨base, c, rfl⟩ := so.shape
  refine acall h_bandboxlaw18_has ir_bandboxlaw18_has rfl rfl (wpA_sound ?_)
  unfold ir_bandboxlaw18_has
  simp -implicitDefEqProofs only [z00,z01,z02,z03,z04,z05,z06,z07,z08,z09,z0a,z0b,z0c,z0d,z0e,z0f,z0g,z0h,z0i,z0j,z0k,z0l,z0m,z0n,retO,retL,retV,z0o,z0p,z0q,z0r,z0s,z0t,z0u,z0v,z0w,z0x,z0y,z0z,z10,z11,z12,z13,z14,z15,z16,z17,z18,z19,z1a,z1b,z1c,z1d,z1e,z1f,z1g,z1h,z1i,z1j,z1k,z1l,z1m,z1n,z1o,z1p,z1q,z1r,z1s,z1t,z1u,z1v,z1w,z1x,z1y,z1z,z20,z21,z22,z23,z24,z25,z26,z27,z28,z29,z2a,z2b,z2c,z2d,z2e,z2f,z2g,z2h,z2i,z2j,z2k,z2l,z2m,z2n,z2o,z2p,z2q,z2r,z2s,z2t,z2u,z2v,z2w,z2x,z2y,z2z,z30,z31,z32,z33,z34,z35,z36,z37,z38,z39,z3a,z3b,z3c,z3d,z3e,z3f,z3g,z3h,z3i,z3j,z3k,z3l,z3m,z3n,z3o,z3p,z3q,z3r,z3s,z3t,z3u,z3v,z3w,z3x,z3y,z3z,z40,z41,z42,z43,z44,z45,z46,z47,z48,z49,z4a,z4b,z4c,z4d,z4e,z4f,z4g,z4h,z4i,z4j,z4k,z4l,z4m,z4n,z4o,z4p,z4q,z4r,z4s,z4t,z4u,z4v,z4w,z4x,z4y,z4z,z50,z51,z52,z53,z54,z55,z56,z57,z58,z59,z5a,z5b,z5c,z5d,z5e,z5f,z5g,z5h,z5i,z5j,z5k,z5l,z5m,z5n,z5o,z5p,z5q,z5r,z5s,z5t,z5u,z5v,z5w,z5x,z5y,z5z,z60,z61,z62,z63,z64,z65,z66,z67,z68,z69,allV,allP,z6a,z6b,z6c,z6d,z6e,z6f,z6g,z6h,z6i,z6j,z6k,z6l,z6m,Option.map_some,Option.map_none,Option.some.injEq,reduceIte,reduceCtorEq,Nat.reduceEqDiff,Nat.reduceAdd,Nat.reduceMul,Nat.reduceLT,Nat.reduceSub,Int.reduceLT,Int.reduceLE,Int.reduceEq,Int.reduceNe,Int.reduceSub,Int.reduceAdd,Int.reduceMul,Int.reduceBEq,Int.reduceBNe,Int.reduceGT,Int.reduceGE,Nat.reduceGT,Int.reduceToNat,Int.reduceNeg,Nat.reduceLeDiff,Nat.reduceBEq,Nat.reduceBneDiff,binV,eqV,unV,oOpt,true_and,and_true,Value.cells,List.length_cons,List.length_nil,List.append_nil,List.nil_append,List.cons_append,List.drop_succ_cons,List.drop_zero,List.take_succ_cons,List.take_zero,List.take_nil,List.getElem?_cons_zero,List.getElem?_cons_succ,decide_true,decide_false,decide_eq_true_eq,decide_eq_false_iff_not,Bool.false_eq_true,Bool.true_eq_false,Bool.not_true,Bool.not_false,Bool.not_eq_true',Bool.not_eq_false',Bool.not_eq_true,Bool.not_eq_false,false_implies,true_implies,beq_iff_eq,beq_eq_false_iff_ne,bne_iff_ne,bne_eq_false_iff_eq,ne_eq,ge_iff_le,gt_iff_lt,Int.not_lt,Int.not_le,not_true_eq_false,not_false_eq_true,if_true,if_false,z6n,z6o,z6p,z6q,Heap.set_set,z6r,z6s,z6t,z6u,z6v,z6w,List.getElem_cons_zero,List.getElem_cons_succ,List.set_cons_zero,List.set_cons_succ,List.length_set,List.all_cons,List.all_nil,Bool.and_true,Bool.true_and,Bool.and_self,Nat.add_zero,Nat.zero_add,Nat.zero_lt_succ,Int.cast_ofNat_Int,List.size_toArray,List.flatten_replicate_singleton,Nat.mul_one,Nat.le_refl,Nat.lt_irrefl,Nat.le_add_left]
  refine wp_loop' (fun m t H => H = h ∧ ∃ (j : Nat), t = tl [(0, .slice base A.length c), (1, .int .i64 a), (5, .int .i64 j)] ∧ j ≤ A.length ∧ m = A.length - j ∧ (A.take j).contains a = false) A.length
    ⟨rfl, 0, rfl, by omega, by omega, rfl⟩ ?_
  rintro m t H ⟨rfl, j, rfl, hj, rfl, hno⟩
  by_cases hlt : j < A.length
  · obtain ⟨b, o, c', hv, hc, hcl⟩ := so.int_at j hlt
    simp only [Value.slice.injEq, true_and] at hv
    obtain ⟨rfl, rfl⟩ := hv
    have hz := hcl H (Heap.le_refl _)
    rw [Nat.mul_one] at hz
    have e1 : (j : Int) < A.length := by omega
    have e2 : (0 : Int) ≤ j := by omega
    by_cases he : A[j] = a
    · simp -implicitDefEqProofs only [z00,z01,z02,z03,z04,z05,z06,z07,z08,z09,z0a,z0b,z0c,z0d,z0e,z0f,z0g,z0h,z0i,z0j,z0k,z0l,z0m,z0n,retO,retL,retV,z0o,z0p,z0q,z0r,z0s,z0t,z0u,z0v,z0w,z0x,z0y,z0z,z10,z11,z12,z13,z14,z15,z16,z17,z18,z19,z1a,z1b,z1c,z1d,z1e,z1f,z1g,z1h,z1i,z1j,z1k,z1l,z1m,z1n,z1o,z1p,z1q,z1r,z1s,z1t,z1u,z1v,z1w,z1x,z1y,z1z,z20,z21,z22,z23,z24,z25,z26,z27,z28,z29,z2a,z2b,z2c,z2d,z2e,z2f,z2g,z2h,z2i,z2j,z2k,z2l,z2m,z2n,z2o,z2p,z2q,z2r,z2s,z2t,z2u,z2v,z2w,z2x,z2y,z2z,z30,z31,z32,z33,z34,z35,z36,z37,z38,z39,z3a,z3b,z3c,z3d,z3e,z3f,z3g,z3h,z3i,z3j,z3k,z3l,z3m,z3n,z3o,z3p,z3q,z3r,z3s,z3t,z3u,z3v,z3w,z3x,z3y,z3z,z40,z41,z42,z43,z44,z45,z46,z47,z48,z49,z4a,z4b,z4c,z4d,z4e,z4f,z4g,z4h,z4i,z4j,z4k,z4l,z4m,z4n,z4o,z4p,z4q,z4r,z4s,z4t,z4u,z4v,z4w,z4x,z4y,z4z,z50,z51,z52,z53,z54,z55,z56,z57,z58,z59,z5a,z5b,z5c,z5d,z5e,z5f,z5g,z5h,z5i,z5j,z5k,z5l,z5m,z5n,z5o,z5p,z5q,z5r,z5s,z5t,z5u,z5v,z5w,z5x,z5y,z5z,z60,z61,z62,z63,z64,z65,z66,z67,z68,z69,allV,allP,z6a,z6b,z6c,z6d,z6e,z6f,z6g,z6h,z6i,z6j,z6k,z6l,z6m,Option.map_some,Option.map_none,Option.some.injEq,reduceIte,reduceCtorEq,Nat.reduceEqDiff,Nat.reduceAdd,Nat.reduceMul,Nat.reduceLT,Nat.reduceSub,Int.reduceLT,Int.reduceLE,Int.reduceEq,Int.reduceNe,Int.reduceSub,Int.reduceAdd,Int.reduceMul,Int.reduceBEq,Int.reduceBNe,Int.reduceGT,Int.reduceGE,Nat.reduceGT,Int.reduceToNat,Int.reduceNeg,Nat.reduceLeDiff,Nat.reduceBEq,Nat.reduceBneDiff,binV,eqV,unV,oOpt,true_and,and_true,Value.cells,List.length_cons,List.length_nil,List.append_nil,List.nil_append,List.cons_append,List.drop_succ_cons,List.drop_zero,List.take_succ_cons,List.take_zero,List.take_nil,List.getElem?_cons_zero,List.getElem?_cons_succ,decide_true,decide_false,decide_eq_true_eq,decide_eq_false_iff_not,Bool.false_eq_true,Bool.true_eq_false,Bool.not_true,Bool.not_false,Bool.not_eq_true',Bool.not_eq_false',Bool.not_eq_true,Bool.not_eq_false,false_implies,true_implies,beq_iff_eq,beq_eq_false_iff_ne,bne_iff_ne,bne_eq_false_iff_eq,ne_eq,ge_iff_le,gt_iff_lt,Int.not_lt,Int.not_le,not_true_eq_false,not_false_eq_true,if_true,if_false,z6n,z6o,z6p,z6q,Heap.set_set,z6r,z6s,z6t,z6u,z6v,z6w,List.getElem_cons_zero,List.getElem_cons_succ,List.set_cons_zero,List.set_cons_succ,List.length_set,List.all_cons,List.all_nil,Bool.and_true,Bool.true_and,Bool.and_self,Nat.add_zero,Nat.zero_add,Nat.zero_lt_succ,Int.cast_ofNat_Int,List.size_toArray,List.flatten_replicate_singleton,Nat.mul_one,Nat.le_refl,Nat.lt_irrefl,Nat.le_add_left, e1, e2, hz, Int.toNat_natCast, he]
      have : A.contains a = true := List.contains_iff_mem.2 (by rw [← he]; exact List.getElem_mem hlt)
      rw [this]
    · simp -implicitDefEqProofs only [z00,z01,z02,z03,z04,z05,z06,z07,z08,z09,z0a,z0b,z0c,z0d,z0e,z0f,z0g,z0h,z0i,z0j,z0k,z0l,z0m,z0n,retO,retL,retV,z0o,z0p,z0q,z0r,z0s,z0t,z0u,z0v,z0w,z0x,z0y,z0z,z10,z11,z12,z13,z14,z15,z16,z17,z18,z19,z1a,z1b,z1c,z1d,z1e,z1f,z1g,z1h,z1i,z1j,z1k,z1l,z1m,z1n,z1o,z1p,z1q,z1r,z1s,z1t,z1u,z1v,z1w,z1x,z1y,z1z,z20,z21,z22,z23,z24,z25,z26,z27,z28,z29,z2a,z2b,z2c,z2d,z2e,z2f,z2g,z2h,z2i,z2j,z2k,z2l,z2m,z2n,z2o,z2p,z2q,z2r,z2s,z2t,z2u,z2v,z2w,z2x,z2y,z2z,z30,z31,z32,z33,z34,z35,z36,z37,z38,z39,z3a,z3b,z3c,z3d,z3e,z3f,z3g,z3h,z3i,z3j,z3k,z3l,z3m,z3n,z3o,z3p,z3q,z3r,z3s,z3t,z3u,z3v,z3w,z3x,z3y,z3z,z40,z41,z42,z43,z44,z45,z46,z47,z48,z49,z4a,z4b,z4c,z4d,z4e,z4f,z4g,z4h,z4i,z4j,z4k,z4l,z4m,z4n,z4o,z4p,z4q,z4r,z4s,z4t,z4u,z4v,z4w,z4x,z4y,z4z,z50,z51,z52,z53,z54,z55,z56,z57,z58,z59,z5a,z5b,z5c,z5d,z5e,z5f,z5g,z5h,z5i,z5j,z5k,z5l,z5m,z5n,z5o,z5p,z5q,z5r,z5s,z5t,z5u,z5v,z5w,z5x,z5y,z5z,z60,z61,z62,z63,z64,z65,z66,z67,z68,z69,allV,allP,z6a,z6b,z6c,z6d,z6e,z6f,z6g,z6h,z6i,z6j,z6k,z6l,z6m,Option.map_some,Option.map_none,Option.some.injEq,reduceIte,reduceCtorEq,Nat.reduceEqDiff,Nat.reduceAdd,Nat.reduceMul,Nat.reduceLT,Nat.reduceSub,Int.reduceLT,Int.reduceLE,Int.reduceEq,Int.reduceNe,Int.reduceSub,Int.reduceAdd,Int.reduceMul,Int.reduceBEq,Int.reduceBNe,Int.reduceGT,Int.reduceGE,Nat.reduceGT,Int.reduceToNat,Int.reduceNeg,Nat.reduceLeDiff,Nat.reduceBEq,Nat.reduceBneDiff,binV,eqV,unV,oOpt,true_and,and_true,Value.cells,List.length_cons,List.length_nil,List.append_nil,List.nil_append,List.cons_append,List.drop_succ_cons,List.drop_zero,List.take_succ_cons,List.take_zero,List.take_nil,List.getElem?_cons_zero,List.getElem?_cons_succ,decide_true,decide_false,decide_eq_true_eq,decide_eq_false_iff_not,Bool.false_eq_true,Bool.true_eq_false,Bool.not_true,Bool.not_false,Bool.not_eq_true',Bool.not_eq_false',Bool.not_eq_true,Bool.not_eq_false,false_implies,true_implies,beq_iff_eq,beq_eq_false_iff_ne,bne_iff_ne,bne_eq_false_iff_eq,ne_eq,ge_iff_le,gt_iff_lt,Int.not_lt,Int.not_le,not_true_eq_false,not_false_eq_true,if_true,if_false,z6n,z6o,z6p,z6q,Heap.set_set,z6r,z6s,z6t,z6u,z6v,z6w,List.getElem_cons_zero,List.getElem_cons_succ,List.set_cons_zero,List.set_cons_succ,List.length_set,List.all_cons,List.all_nil,Bool.and_true,Bool.true_and,Bool.and_self,Nat.add_zero,Nat.zero_add,Nat.zero_lt_succ,Int.cast_ofNat_Int,List.size_toArray,List.flatten_replicate_singleton,Nat.mul_one,Nat.le_refl,Nat.lt_irrefl,Nat.le_add_left, e1, e2, hz, Int.toNat_natCast, he, wrap_succ hlt hlen]
      refine ⟨_, ?_, j + 1, rfl, hlt, rfl, ?_⟩
      · omega
      · rw [List.take_succ_eq_append_getElem hlt]
        simp only [List.contains_eq_mem, List.mem_append, List.mem_singleton, decide_eq_false_iff_not] at hno ⊢
        rintro (h | h)
        · exact hno h
        · exact he h.symm
  · have e1 : ¬ (j : Int) < A.length := by omega
    have : j = A.length := by omega
    subst this
    rw [List.take_length] at hno
    simp -implicitDefEqProofs only [z00,z01,z02,z03,z04,z05,z06,z07,z08,z09,z0a,z0b,z0c,z0d,z0e,z0f,z0g,z0h,z0i,z0j,z0k,z0l,z0m,z0n,retO,retL,retV,z0o,z0p,z0q,z0r,z0s,z0t,z0u,z0v,z0w,z0x,z0y,z0z,z10,z11,z12,z13,z14,z15,z16,z17,z18,z19,z1a,z1b,z1c,z1d,z1e,z1f,z1g,z1h,z1i,z1j,z1k,z1l,z1m,z1n,z1o,z1p,z1q,z1r,z1s,z1t,z1u,z1v,z1w,z1x,z1y,z1z,z20,z21,z22,z23,z24,z25,z26,z27,z28,z29,z2a,z2b,z2c,z2d,z2e,z2f,z2g,z2h,z2i,z2j,z2k,z2l,z2m,z2n,z2o,z2p,z2q,z2r,z2s,z2t,z2u,z2v,z2w,z2x,z2y,z2z,z30,z31,z32,z33,z34,z35,z36,z37,z38,z39,z3a,z3b,z3c,z3d,z3e,z3f,z3g,z3h,z3i,z3j,z3k,z3l,z3m,z3n,z3o,z3p,z3q,z3r,z3s,z3t,z3u,z3v,z3w,z3x,z3y,z3z,z40,z41,z42,z43,z44,z45,z46,z47,z48,z49,z4a,z4b,z4c,z4d,z4e,z4f,z4g,z4h,z4i,z4j,z4k,z4l,z4m,z4n,z4o,z4p,z4q,z4r,z4s,z4t,z4u,z4v,z4w,z4x,z4y,z4z,z50,z51,z52,z53,z54,z55,z56,z57,z58,z59,z5a,z5b,z5c,z5d,z5e,z5f,z5g,z5h,z5i,z5j,z5k,z5l,z5m,z5n,z5o,z5p,z5q,z5r,z5s,z5t,z5u,z5v,z5w,z5x,z5y,z5z,z60,z61,z62,z63,z64,z65,z66,z67,z68,z69,allV,allP,z6a,z6b,z6c,z6d,z6e,z6f,z6g,z6h,z6i,z6j,z6k,z6l,z6m,Option.map_some,Option.map_none,Option.some.injEq,reduceIte,reduceCtorEq,Nat.reduceEqDiff,Nat.reduceAdd,Nat.reduceMul,Nat.reduceLT,Nat.reduceSub,Int.reduceLT,Int.reduceLE,Int.reduceEq,Int.reduceNe,Int.reduceSub,Int.reduceAdd,Int.reduceMul,Int.reduceBEq,Int.reduceBNe,Int.reduceGT,Int.reduceGE,Nat.reduceGT,Int.reduceToNat,Int.reduceNeg,Nat.reduceLeDiff,Nat.reduceBEq,Nat.reduceBneDiff,binV,eqV,unV,oOpt,true_and,and_true,Value.cells,List.length_cons,List.length_nil,List.append_nil,List.nil_append,List.cons_append,List.drop_succ_cons,List.drop_zero,List.take_succ_cons,List.take_zero,List.take_nil,List.getElem?_cons_zero,List.getElem?_cons_succ,decide_true,decide_false,decide_eq_true_eq,decide_eq_false_iff_not,Bool.false_eq_true,Bool.true_eq_false,Bool.not_true,Bool.not_false,Bool.not_eq_true',Bool.not_eq_false',Bool.not_eq_true,Bool.not_eq_false,false_implies,true_implies,beq_iff_eq,beq_eq_false_iff_ne,bne_iff_ne,bne_eq_false_iff_eq,ne_eq,ge_iff_le,gt_iff_lt,Int.not_lt,Int.not_le,not_true_eq_false,not_false_eq_true,if_true,if_false,z6n,z6o,z6p,z6q,Heap.set_set,z6r,z6s,z6t,z6u,z6v,z6w,List.getElem_cons_zero,List.getElem_cons_succ,List.set_cons_zero,List.set_cons_succ,List.length_set,List.all_cons,List.all_nil,Bool.and_true,Bool.true_and,Bool.and_self,Nat.add_zero,Nat.zero_add,Nat.zero_lt_succ,Int.cast_ofNat_Int,List.size_toArray,List.flatten_replicate_singleton,Nat.mul_one,Nat.le_refl,Nat.lt_irrefl,Nat.le_add_left, e1]
    rw [hno]

theorem law18_same_c (E : EnvT tab) (h : Heap) {v w : Value} (A B : List Int) (hlen : A.length ≤ 9223372036854775807) (hlenB : B.length ≤ 9223372036854775807) (so : Sl h 1 v A.length (A.map (.int .i64))) (sb : Sl h 1 w B.length (B.map (.int .i64))) :
    ACallN E.toEnv n_bandboxlaw18_same [v, w] h fun r h' => h' = h ∧ r = .bool (decide (A = B)) := by
  obtain ⟨base, c, rfl⟩ := so.shape
  obtain ⟨bbase, bc, rfl⟩ := sb.shape
  refine acall h_bandboxlaw18_same ir_bandboxlaw18_same rfl rfl (wpA_sound ?_)
  unfold ir_bandboxlaw18_same
  by_cases hAB : A.length = B.length
  · have e0 : (A.length : Int) = B.length := by omega
    simp -implicitDefEqProofs only [z00,z01,z02,z03,z04,z05,z06,z07,z08,z09,z0a,z0b,z0c,z0d,z0e,z0f,z0g,z0h,z0i,z0j,z0k,z0l,z0m,z0n,retO,retL,retV,z0o,z0p,z0q,z0r,z0s,z0t,z0u,z0v,z0w,z0x,z0y,z0z,z10,z11,z12,z13,z14,z15,z16,z17,z18,z19,z1a,z1b,z1c,z1d,z1e,z1f,z1g,z1h,z1i,z1j,z1k,z1l,z1m,z1n,z1o,z1p,z1q,z1r,z1s,z1t,z1u,z1v,z1w,z1x,z1y,z1z,z20,z21,z22,z23,z24,z25,z26,z27,z28,z29,z2a,z2b,z2c,z2d,z2e,z2f,z2g,z2h,z2i,z2j,z2k,z2l,z2m,z2n,z2o,z2p,z2q,z2r,z2s,z2t,z2u,z2v,z2w,z2x,z2y,z2z,z30,z31,z32,z33,z34,z35,z36,z37,z38,z39,z3a,z3b,z3c,z3d,z3e,z3f,z3g,z3h,z3i,z3j,z3k,z3l,z3m,z3n,z3o,z3p,z3q,z3r,z3s,z3t,z3u,z3v,z3w,z3x,z3y,z3z,z40,z41,z42,z43,z44,z45,z46,z47,z48,z49,z4a,z4b,z4c,z4d,z4e,z4f,z4g,z4h,z4i,z4j,z4k,z4l,z4m,z4n,z4o,z4p,z4q,z4r,z4s,z4t,z4u,z4v,z4w,z4x,z4y,z4z,z50,z51,z52,z53,z54,z55,z56,z57,z58,z59,z5a,z5b,z5c,z5d,z5e,z5f,z5g,z5h,z5i,z5j,z5k,z5l,z5m,z5n,z5o,z5p,z5q,z5r,z5s,z5t,z5u,z5v,z5w,z5x,z5y,z5z,z60,z61,z62,z63,z64,z65,z66,z67,z68,z69,allV,allP,z6a,z6b,z6c,z6d,z6e,z6f,z6g,z6h,z6i,z6j,z6k,z6l,z6m,Option.map_some,Option.map_none,Option.some.injEq,reduceIte,reduceCtorEq,Nat.reduceEqDiff,Nat.reduceAdd,Nat.reduceMul,Nat.reduceLT,Nat.reduceSub,Int.reduceLT,Int.reduceLE,Int.reduceEq,Int.reduceNe,Int.reduceSub,Int.reduceAdd,Int.reduceMul,Int.reduceBEq,Int.reduceBNe,Int.reduceGT,Int.reduceGE,Nat.reduceGT,Int.reduceToNat,Int.reduceNeg,Nat.reduceLeDiff,Nat.reduceBEq,Nat.reduceBneDiff,binV,eqV,unV,oOpt,true_and,and_true,Value.cells,List.length_cons,List.length_nil,List.append_nil,List.nil_append,List.cons_append,List.drop_succ_cons,List.drop_zero,List.take_succ_cons,List.take_zero,List.take_nil,List.getElem?_cons_zero,List.getElem?_cons_succ,decide_true,decide_false,decide_eq_true_eq,decide_eq_false_iff_not,Bool.false_eq_true,Bool.true_eq_false,Bool.not_true,Bool.not_false,Bool.not_eq_true',Bool.not_eq_false',Bool.not_eq_true,Bool.not_eq_false,false_implies,true_implies,beq_iff_eq,beq_eq_false_iff_ne,bne_iff_ne,bne_eq_false_iff_eq,ne_eq,ge_iff_le,gt_iff_lt,Int.not_lt,Int.not_le,not_true_eq_false,not_false_eq_true,if_true,if_false,z6n,z6o,z6p,z6q,Heap.set_set,z6r,z6s,z6t,z6u,z6v,z6w,List.getElem_cons_zero,List.getElem_cons_succ,List.set_cons_zero,List.set_cons_succ,List.length_set,List.all_cons,List.all_nil,Bool.and_true,Bool.true_and,Bool.and_self,Nat.add_zero,Nat.zero_add,Nat.zero_lt_succ,Int.cast_ofNat_Int,List.size_toArray,List.flatten_replicate_singleton,Nat.mul_one,Nat.le_refl,Nat.lt_irrefl,Nat.le_add_left, e0]
    refine wp_loop' (fun m t H => H = h ∧ ∃ (j : Nat), t = tl [(0, .slice base A.length c), (1, .slice bbase B.length bc), (5, .int .i64 j)] ∧ j ≤ A.length ∧ m = A.length - j ∧ A.take j = B.take j) A.length
      ⟨rfl, 0, rfl, by omega, by omega, rfl⟩ ?_
    rintro m t H ⟨rfl, j, rfl, hj, rfl, heq⟩
    by_cases hlt : j < A.length
    · have hltB : j < B.length := by omega
      obtain ⟨b, o, c', hv, hc, hcl⟩ := so.int_at j hlt
      simp only [Value.slice.injEq, true_and] at hv
      obtain ⟨rfl, rfl⟩ := hv
      obtain ⟨b2, o2, c2', hv2, hc2, hcl2⟩ := sb.int_at j hltB
      simp only [Value.slice.injEq, true_and] at hv2
      obtain ⟨rfl, rfl⟩ := hv2
      have hz := hcl H (Heap.le_refl _)
      have hz2 := hcl2 H (Heap.le_refl _)
      rw [Nat.mul_one] at hz hz2
      have e1 : (j : Int) < A.length := by omega
      have e1B : (j : Int) < B.length := by omega
      have e2 : (0 : Int) ≤ j := by omega
      by_cases he : A[j] = B[j]
      · simp -implicitDefEqProofs only [z00,z01,z02,z03,z04,z05,z06,z07,z08,z09,z0a,z0b,z0c,z0d,z0e,z0f,z0g,z0h,z0i,z0j,z0k,z0l,z0m,z0n,retO,retL,retV,z0o,z0p,z0q,z0r,z0s,z0t,z0u,z0v,z0w,z0x,z0y,z0z,z10,z11,z12,z13,z14,z15,z16,z17,z18,z19,z1a,z1b,z1c,z1d,z1e,z1f,z1g,z1h,z1i,z1j,z1k,z1l,z1m,z1n,z1o,z1p,z1q,z1r,z1s,z1t,z1u,z1v,z1w,z1x,z1y,z1z,z20,z21,z22,z23,z24,z25,z26,z27,z28,z29,z2a,z2b,z2c,z2d,z2e,z2f,z2g,z2h,z2i,z2j,z2k,z2l,z2m,z2n,z2o,z2p,z2q,z2r,z2s,z2t,z2u,z2v,z2w,z2x,z2y,z2z,z30,z31,z32,z33,z34,z35,z36,z37,z38,z39,z3a,z3b,z3c,z3d,z3e,z3f,z3g,z3h,z3i,z3j,z3k,z3l,z3m,z3n,z3o,z3p,z3q,z3r,z3s,z3t,z3u,z3v,z3w,z3x,z3y,z3z,z40,z41,z42,z43,z44,z45,z46,z47,z48,z49,z4a,z4b,z4c,z4d,z4e,z4f,z4g,z4h,z4i,z4j,z4k,z4l,z4m,z4n,z4o,z4p,z4q,z4r,z4s,z4t,z4u,z4v,z4w,z4x,z4y,z4z,z50,z51,z52,z53,z54,z55,z56,z57,z58,z59,z5a,z5b,z5c,z5d,z5e,z5f,z5g,z5h,z5i,z5j,z5k,z5l,z5m,z5n,z5o,z5p,z5q,z5r,z5s,z5t,z5u,z5v,z5w,z5x,z5y,z5z,z60,z61,z62,z63,z64,z65,z66,z67,z68,z69,allV,allP,z6a,z6b,z6c,z6d,z6e,z6f,z6g,z6h,z6i,z6j,z6k,z6l,z6m,Option.map_some,Option.map_none,Option.some.injEq,reduceIte,reduceCtorEq,Nat.reduceEqDiff,Nat.reduceAdd,Nat.reduceMul,Nat.reduceLT,Nat.reduceSub,Int.reduceLT,Int.reduceLE,Int.reduceEq,Int.reduceNe,Int.reduceSub,Int.reduceAdd,Int.reduceMul,Int.reduceBEq,Int.reduceBNe,Int.reduceGT,Int.reduceGE,Nat.reduceGT,Int.reduceToNat,Int.reduceNeg,Nat.reduceLeDiff,Nat.reduceBEq,Nat.reduceBneDiff,binV,eqV,unV,oOpt,true_and,and_true,Value.cells,List.length_cons,List.length_nil,List.append_nil,List.nil_append,List.cons_append,List.drop_succ_cons,List.drop_zero,List.take_succ_cons,List.take_zero,List.take_nil,List.getElem?_cons_zero,List.getElem?_cons_succ,decide_true,decide_false,decide_eq_true_eq,decide_eq_false_iff_not,Bool.false_eq_true,Bool.true_eq_false,Bool.not_true,Bool.not_false,Bool.not_eq_true',Bool.not_eq_false',Bool.not_eq_true,Bool.not_eq_false,false_implies,true_implies,beq_iff_eq,beq_eq_false_iff_ne,bne_iff_ne,bne_eq_false_iff_eq,ne_eq,ge_iff_le,gt_iff_lt,Int.not_lt,Int.not_le,not_true_eq_false,not_false_eq_true,if_true,if_false,z6n,z6o,z6p,z6q,Heap.set_set,z6r,z6s,z6t,z6u,z6v,z6w,List.getElem_cons_zero,List.getElem_cons_succ,List.set_cons_zero,List.set_cons_succ,List.length_set,List.all_cons,List.all_nil,Bool.and_true,Bool.true_and,Bool.and_self,Nat.add_zero,Nat.zero_add,Nat.zero_lt_succ,Int.cast_ofNat_Int,List.size_toArray,List.flatten_replicate_singleton,Nat.mul_one,Nat.le_refl,Nat.lt_irrefl,Nat.le_add_left, e1, e1B, e2, hz, hz2, Int.toNat_natCast, he, wrap_succ hlt hlen]
        refine ⟨_, ?_, j + 1, rfl, hlt, rfl, ?_⟩
        · omega
        · rw [List.take_succ_eq_append_getElem hlt, List.take_succ_eq_append_getElem hltB, heq, he]
      · simp -implicitDefEqProofs only [z00,z01,z02,z03,z04,z05,z06,z07,z08,z09,z0a,z0b,z0c,z0d,z0e,z0f,z0g,z0h,z0i,z0j,z0k,z0l,z0m,z0n,retO,retL,retV,z0o,z0p,z0q,z0r,z0s,z0t,z0u,z0v,z0w,z0x,z0y,z0z,z10,z11,z12,z13,z14,z15,z16,z17,z18,z19,z1a,z1b,z1c,z1d,z1e,z1f,z1g,z1h,z1i,z1j,z1k,z1l,z1m,z1n,z1o,z1p,z1q,z1r,z1s,z1t,z1u,z1v,z1w,z1x,z1y,z1z,z20,z21,z22,z23,z24,z25,z26,z27,z28,z29,z2a,z2b,z2c,z2d,z2e,z2f,z2g,z2h,z2i,z2j,z2k,z2l,z2m,z2n,z2o,z2p,z2q,z2r,z2s,z2t,z2u,z2v,z2w,z2x,z2y,z2z,z30,z31,z32,z33,z34,z35,z36,z37,z38,z39,z3a,z3b,z3c,z3d,z3e,z3f,z3g,z3h,z3i,z3j,z3k,z3l,z3m,z3n,z3o,z3p,z3q,z3r,z3s,z3t,z3u,z3v,z3w,z3x,z3y,z3z,z40,z41,z42,z43,z44,z45,z46,z47,z48,z49,z4a,z4b,z4c,z4d,z4e,z4f,z4g,z4h,z4i,z4j,z4k,z4l,z4m,z4n,z4o,z4p,z4q,z4r,z4s,z4t,z4u,z4v,z4w,z4x,z4y,z4z,z50,z51,z52,z53,z54,z55,z56,z57,z58,z59,z5a,z5b,z5c,z5d,z5e,z5f,z5g,z5h,z5i,z5j,z5k,z5l,z5m,z5n,z5o,z5p,z5q,z5r,z5s,z5t,z5u,z5v,z5w,z5x,z5y,z5z,z60,z61,z62,z63,z64,z65,z66,z67,z68,z69,allV,allP,z6a,z6b,z6c,z6d,z6e,z6f,z6g,z6h,z6i,z6j,z6k,z6l,z6m,Option.map_some,Option.map_none,Option.some.injEq,reduceIte,reduceCtorEq,Nat.reduceEqDiff,Nat.reduceAdd,Nat.reduceMul,Nat.reduceLT,Nat.reduceSub,Int.reduceLT,Int.reduceLE,Int.reduceEq,Int.reduceNe,Int.reduceSub,Int.reduceAdd,Int.reduceMul,Int.reduceBEq,Int.reduceBNe,Int.reduceGT,Int.reduceGE,Nat.reduceGT,Int.reduceToNat,Int.reduceNeg,Nat.reduceLeDiff,Nat.reduceBEq,Nat.reduceBneDiff,binV,eqV,unV,oOpt,true_and,and_true,Value.cells,List.length_cons,List.length_nil,List.append_nil,List.nil_append,List.cons_append,List.drop_succ_cons,List.drop_zero,List.take_succ_cons,List.take_zero,List.take_nil,List.getElem?_cons_zero,List.getElem?_cons_succ,decide_true,decide_false,decide_eq_true_eq,decide_eq_false_iff_not,Bool.false_eq_true,Bool.true_eq_false,Bool.not_true,Bool.not_false,Bool.not_eq_true',Bool.not_eq_false',Bool.not_eq_true,Bool.not_eq_false,false_implies,true_implies,beq_iff_eq,beq_eq_false_iff_ne,bne_iff_ne,bne_eq_false_iff_eq,ne_eq,ge_iff_le,gt_iff_lt,Int.not_lt,Int.not_le,not_true_eq_false,not_false_eq_true,if_true,if_false,z6n,z6o,z6p,z6q,Heap.set_set,z6r,z6s,z6t,z6u,z6v,z6w,List.getElem_cons_zero,List.getElem_cons_succ,List.set_cons_zero,List.set_cons_succ,List.length_set,List.all_cons,List.all_nil,Bool.and_true,Bool.true_and,Bool.and_self,Nat.add_zero,Nat.zero_add,Nat.zero_lt_succ,Int.cast_ofNat_Int,List.size_toArray,List.flatten_replicate_singleton,Nat.mul_one,Nat.le_refl,Nat.lt_irrefl,Nat.le_add_left, e1, e1B, e2, hz, hz2, Int.toNat_natCast, he]
        have : decide (A = B) = false := by
          rw [decide_eq_false_iff_not]
          intro h; subst h; exact he rfl
        rw [this]
    · have e1 : ¬ (j : Int) < A.length := by omega
      have hj2 : j = A.length := by omega
      subst hj2
      rw [List.take_length, hAB, List.take_length] at heq
      simp -implicitDefEqProofs only [z00,z01,z02,z03,z04,z05,z06,z07,z08,z09,z0a,z0b,z0c,z0d,z0e,z0f,z0g,z0h,z0i,z0j,z0k,z0l,z0m,z0n,retO,retL,retV,z0o,z0p,z0q,z0r,z0s,z0t,z0u,z0v,z0w,z0x,z0y,z0z,z10,z11,z12,z13,z14,z15,z16,z17,z18,z19,z1a,z1b,z1c,z1d,z1e,z1f,z1g,z1h,z1i,z1j,z1k,z1l,z1m,z1n,z1o,z1p,z1q,z1r,z1s,z1t,z1u,z1v,z1w,z1x,z1y,z1z,z20,z21,z22,z23,z24,z25,z26,z27,z28,z29,z2a,z2b,z2c,z2d,z2e,z2f,z2g,z2h,z2i,z2j,z2k,z2l,z2m,z2n,z2o,z2p,z2q,z2r,z2s,z2t,z2u,z2v,z2w,z2x,z2y,z2z,z30,z31,z32,z33,z34,z35,z36,z37,z38,z39,z3a,z3b,z3c,z3d,z3e,z3f,z3g,z3h,z3i,z3j,z3k,z3l,z3m,z3n,z3o,z3p,z3q,z3r,z3s,z3t,z3u,z3v,z3w,z3x,z3y,z3z,z40,z41,z42,z43,z44,z45,z46,z47,z48,z49,z4a,z4b,z4c,z4d,z4e,z4f,z4g,z4h,z4i,z4j,z4k,z4l,z4m,z4n,z4o,z4p,z4q,z4r,z4s,z4t,z4u,z4v,z4w,z4x,z4y,z4z,z50,z51,z52,z53,z54,z55,z56,z57,z58,z59,z5a,z5b,z5c,z5d,z5e,z5f,z5g,z5h,z5i,z5j,z5k,z5l,z5m,z5n,z5o,z5p,z5q,z5r,z5s,z5t,z5u,z5v,z5w,z5x,z5y,z5z,z60,z61,z62,z63,z64,z65,z66,z67,z68,z69,allV,allP,z6a,z6b,z6c,z6d,z6e,z6f,z6g,z6h,z6i,z6j,z6k,z6l,z6m,Option.map_some,Option.map_none,Option.some.injEq,reduceIte,reduceCtorEq,Nat.reduceEqDiff,Nat.reduceAdd,Nat.reduceMul,Nat.reduceLT,Nat.reduceSub,Int.reduceLT,Int.reduceLE,Int.reduceEq,Int.reduceNe,Int.reduceSub,Int.reduceAdd,Int.reduceMul,Int.reduceBEq,Int.reduceBNe,Int.reduceGT,Int.reduceGE,Nat.reduceGT,Int.reduceToNat,Int.reduceNeg,Nat.reduceLeDiff,Nat.reduceBEq,Nat.reduceBneDiff,binV,eqV,unV,oOpt,true_and,and_true,Value.cells,List.length_cons,List.length_nil,List.append_nil,List.nil_append,List.cons_append,List.drop_succ_cons,List.drop_zero,List.take_succ_cons,List.take_zero,List.take_nil,List.getElem?_cons_zero,List.getElem?_cons_succ,decide_true,decide_false,decide_eq_true_eq,decide_eq_false_iff_not,Bool.false_eq_true,Bool.true_eq_false,Bool.not_true,Bool.not_false,Bool.not_eq_true',Bool.not_eq_false',Bool.not_eq_true,Bool.not_eq_false,false_implies,true_implies,beq_iff_eq,beq_eq_false_iff_ne,bne_iff_ne,bne_eq_false_iff_eq,ne_eq,ge_iff_le,gt_iff_lt,Int.not_lt,Int.not_le,not_true_eq_false,not_false_eq_true,if_true,if_false,z6n,z6o,z6p,z6q,Heap.set_set,z6r,z6s,z6t,z6u,z6v,z6w,List.getElem_cons_zero,List.getElem_cons_succ,List.set_cons_zero,List.set_cons_succ,List.length_set,List.all_cons,List.all_nil,Bool.and_true,Bool.true_and,Bool.and_self,Nat.add_zero,Nat.zero_add,Nat.zero_lt_succ,Int.cast_ofNat_Int,List.size_toArray,List.flatten_replicate_singleton,Nat.mul_one,Nat.le_refl,Nat.lt_irrefl,Nat.le_add_left, e1]
      rw [decide_eq_true heq]
  · have e0 : ¬ (A.length : Int) = B.length := by omega
    simp -implicitDefEqProofs only [z00,z01,z02,z03,z04,z05,z06,z07,z08,z09,z0a,z0b,z0c,z0d,z0e,z0f,z0g,z0h,z0i,z0j,z0k,z0l,z0m,z0n,retO,retL,retV,z0o,z0p,z0q,z0r,z0s,z0t,z0u,z0v,z0w,z0x,z0y,z0z,z10,z11,z12,z13,z14,z15,z16,z17,z18,z19,z1a,z1b,z1c,z1d,z1e,z1f,z1g,z1h,z1i,z1j,z1k,z1l,z1m,z1n,z1o,z1p,z1q,z1r,z1s,z1t,z1u,z1v,z1w,z1x,z1y,z1z,z20,z21,z22,z23,z24,z25,z26,z27,z28,z29,z2a,z2b,z2c,z2d,z2e,z2f,z2g,z2h,z2i,z2j,z2k,z2l,z2m,z2n,z2o,z2p,z2q,z2r,z2s,z2t,z2u,z2v,z2w,z2x,z2y,z2z,z30,z31,z32,z33,z34,z35,z36,z37,z38,z39,z3a,z3b,z3c,z3d,z3e,z3f,z3g,z3h,z3i,z3j,z3k,z3l,z3m,z3n,z3o,z3p,z3q,z3r,z3s,z3t,z3u,z3v,z3w,z3x,z3y,z3z,z40,z41,z42,z43,z44,z45,z46,z47,z48,z49,z4a,z4b,z4c,z4d,z4e,z4f,z4g,z4h,z4i,z4j,z4k,z4l,z4m,z4n,z4o,z4p,z4q,z4r,z4s,z4t,z4u,z4v,z4w,z4x,z4y,z4z,z50,z51,z52,z53,z54,z55,z56,z57,z58,z59,z5a,z5b,z5c,z5d,z5e,z5f,z5g,z5h,z5i,z5j,z5k,z5l,z5m,z5n,z5o,z5p,z5q,z5r,z5s,z5t,z5u,z5v,z5w,z5x,z5y,z5z,z60,z61,z62,z63,z64,z65,z66,z67,z68,z69,allV,allP,z6a,z6b,z6c,z6d,z6e,z6f,z6g,z6h,z6i,z6j,z6k,z6l,z6m,Option.map_some,Option.map_none,Option.some.injEq,reduceIte,reduceCtorEq,Nat.reduceEqDiff,Nat.reduceAdd,Nat.reduceMul,Nat.reduceLT,Nat.reduceSub,Int.reduceLT,Int.reduceLE,Int.reduceEq,Int.reduceNe,Int.reduceSub,Int.reduceAdd,Int.reduceMul,Int.reduceBEq,Int.reduceBNe,Int.reduceGT,Int.reduceGE,Nat.reduceGT,Int.reduceToNat,Int.reduceNeg,Nat.reduceLeDiff,Nat.reduceBEq,Nat.reduceBneDiff,binV,eqV,unV,oOpt,true_and,and_true,Value.cells,List.length_cons,List.length_nil,List.append_nil,List.nil_append,List.cons_append,List.drop_succ_cons,List.drop_zero,List.take_succ_cons,List.take_zero,List.take_nil,List.getElem?_cons_zero,List.getElem?_cons_succ,decide_true,decide_false,decide_eq_true_eq,decide_eq_false_iff_not,Bool.false_eq_true,Bool.true_eq_false,Bool.not_true,Bool.not_false,Bool.not_eq_true',Bool.not_eq_false',Bool.not_eq_true,Bool.not_eq_false,false_implies,true_implies,beq_iff_eq,beq_eq_false_iff_ne,bne_iff_ne,bne_eq_false_iff_eq,ne_eq,ge_iff_le,gt_iff_lt,Int.not_lt,Int.not_le,not_true_eq_false,not_false_eq_true,if_true,if_false,z6n,z6o,z6p,z6q,Heap.set_set,z6r,z6s,z6t,z6u,z6v,z6w,List.getElem_cons_zero,List.getElem_cons_succ,List.set_cons_zero,List.set_cons_succ,List.length_set,List.all_cons,List.all_nil,Bool.and_true,Bool.true_and,Bool.and_self,Nat.add_zero,Nat.zero_add,Nat.zero_lt_succ,Int.cast_ofNat_Int,List.size_toArray,List.flatten_replicate_singleton,Nat.mul_one,Nat.le_refl,Nat.lt_irrefl,Nat.le_add_left, e0]
    have : decide (A = B) = false := by
      rw [decide_eq_false_iff_not]
      intro h; subst h; exact hAB rfl
    rw [this]
end Go.Bb
/- The statements on what can be known: what they share. -/
namespace Go.Bb
set_option linter.unusedSimpArgs false
set_option linter.unusedVariables false
set_option maxRecDepth 100000

theorem aw18 : isTrue (evF tab noHooks 1000 50 n_bandboxlaw18_awake [] VM.start) = true := by decide +kernel
theorem law18_awake_c (E : EnvT tab) (h : Heap) : ACallN E.toEnv n_bandboxlaw18_awake [] h fun v h' => v = .bool true ∧ h.le h' := evF_true noHooks_ok h aw18

theorem ok_ints {W : World} {k : IntKind} {v : Value} (h : Shp.ok W (.slice 1 (.int k)) v) : ∃ M : List Int, Sl (roHeap W) 1 v M.length (M.map (.int k)) ∧ M.length ≤ 9223372036854775807 ∧ ∀ x ∈ M, k.min ≤ x ∧ x ≤ k.max := by
  obtain ⟨M, h1, h2, h3⟩ := Shp.ok_rows (fun z => [Value.int k z]) (fun z => k.min ≤ z ∧ z ≤ k.max) (by simp) (fun l hl => by obtain ⟨n, rfl, hn⟩ := hl; exact ⟨n, rfl, hn⟩) h
  rw [flat_one] at h1
  exact ⟨M, h1, h2, h3⟩
theorem ok_things {W : World} {v : Value} (h : Shp.ok W (.slice 4 (.struct 4 (.fld 0 1 (.int .i64) (.fld 1 1 (.int .i64) (.fld 2 1 (.int .i64) (.fld 3 1 (.int .i64) .fend)))))) v) :
    ∃ L : List Th, Sl (roHeap W) 4 v L.length (L.flatMap Th.cells) ∧ L.length ≤ 9223372036854775807 := by
  obtain ⟨L, h1, h2, _⟩ := Shp.ok_rows Th.cells (fun _ => True) cells_len (fun l hl => by
    obtain ⟨hl, ⟨a, ha, _⟩, ⟨b, hb, _⟩, ⟨c, hc, _⟩, ⟨d, hd, _⟩, _⟩ := hl
    refine ⟨⟨a, b, c, d⟩, ?_, trivial⟩
    match l, hl with
    | [x, y, z, w], _ =>
      simp at ha hb hc hd
      subst ha; subst hb; subst hc; subst hd
      rfl) h
  exact ⟨L, h1, h2⟩

theorem allK_bad {L : List Th} {M : List Int} (h : goodT L = false) : allK L M = [] := by unfold allK; rw [h]; rfl
theorem mem_allK {L : List Th} {M : List Int} (hg : goodT L = true) (z : Int) : z ∈ allK L M ↔ ∃ i : Nat, z = i ∧ i < L.length ∧ Kn L (fun z => z ∈ M) i := by
  unfold allK
  rw [if_pos hg]
  simp only [List.mem_map, List.mem_filter, List.mem_range, knB_true]
  constructor
  · rintro ⟨i, ⟨h1, h2⟩, rfl⟩; exact ⟨i, rfl, h1, h2⟩
  · rintro ⟨i, rfl, h1, h2⟩; exact ⟨i, ⟨h1, h2⟩, rfl⟩
theorem allK_congr {L : List Th} {M M' : List Int} (h : ∀ i, i < L.length → (Kn L (fun z => z ∈ M) i ↔ Kn L (fun z => z ∈ M') i)) : allK L M = allK L M' := by
  unfold allK
  split
  · congr 1
    apply List.filter_congr
    intro i hi
    rw [Bool.eq_iff_iff, knB_true, knB_true]
    exact h i (List.mem_range.1 hi)
  · rfl
theorem allK_len {L : List Th} {M : List Int} : (allK L M).length ≤ L.length := by
  unfold allK
  split
  · rw [List.length_map]
    have := List.length_filter_le (knB L M) (List.range L.length)
    rw [List.length_range] at this
    exact this
  · simp
theorem allK_mono {L : List Th} {A B : List Int} : ∀ z ∈ allK L A, z ∈ allK L (A ++ B) := by
  intro z hz
  cases hg : goodT L with
  | false => rw [allK_bad hg] at hz; cases hz
  | true =>
    rw [mem_allK hg] at hz ⊢
    obtain ⟨i, h1, h2, h3⟩ := hz
    exact ⟨i, h1, h2, h3.mono fun x hx => List.mem_append_left _ hx⟩
theorem allK_again {L : List Th} {A : List Int} (hg : goodT L = true) : allK L (allK L A) = allK L A := by
  apply allK_congr
  intro i hi
  constructor
  · refine Kn.bind ?_
    intro j hj
    rw [mem_allK hg] at hj
    obtain ⟨k, h1, _, h3⟩ := hj
    have : j = k := by omega
    subst this; exact h3
  · intro h
    exact .base hi ((mem_allK hg _).2 ⟨i, rfl, hi, h⟩)
theorem allK_nil {L : List Th} : allK L [] = [] := by
  cases hg : goodT L with
  | false => exact allK_bad hg
  | true =>
    apply List.eq_nil_iff_forall_not_mem.2
    intro z hz
    rw [mem_allK hg] at hz
    obtain ⟨i, _, _, h⟩ := hz
    exact Kn.none (h.mono fun x hx => by cases hx)
end Go.Bb
/- What can be known: which things are the same; a letter that stays sealed. -/
namespace Go.Bb
set_option linter.unusedSimpArgs false
set_option linter.unusedVariables false

theorem fstep_prefix (s : FSt) (x : Th) : s.1 <+: (fstep s x).1 := by
  unfold fstep
  split <;> exact List.prefix_append _ _
theorem foldl_prefix : ∀ (L : List Th) (s : FSt), s.1 <+: (L.foldl fstep s).1
  | [], s => List.prefix_refl _
  | x :: L, s => (fstep_prefix s x).trans (foldl_prefix L (fstep s x))
theorem firsts_take (L : List Th) (i : Nat) (hi : i ≤ L.length) : (firstsS (L.take i)).1 = (firstsF L).take i := by
  have h1 : (firstsS (L.take i)).1 <+: firstsF L := by
    unfold firstsF firstsS
    have := foldl_prefix (L.drop i) ((L.take i).foldl fstep ([], []))
    rw [← List.foldl_append, List.take_append_drop] at this
    exact this
  have h2 : (firstsS (L.take i)).1.length = i := by
    unfold firstsS; rw [firstsS_len]; simp; omega
  obtain ⟨t, ht⟩ := h1
  rw [← ht, List.take_left' h2]

/-- A thing's shape, by all the first ones. -/
def shF (L : List Th) (i : Nat) : Th := (L.getD i ⟨0, 0, 0, 0⟩).shape (firstsF L) i
theorem shF_take {L : List Th} (hg : GoodT L) {i : Nat} (hi : i < L.length) : L[i].shape ((firstsF L).take i) i = shF L i := by
  obtain ⟨ha, hb, _⟩ := ok_ab hg hi
  have e : L.getD i ⟨0, 0, 0, 0⟩ = L[i] := by rw [List.getD_eq_getElem?_getD, List.getElem?_eq_getElem hi]; rfl
  have take : ∀ (z : Int), z.toNat < i → ((firstsF L).take i).getD z.toNat 0 = (firstsF L).getD z.toNat 0 := by
    intro z hz
    rw [List.getD_eq_getElem?_getD, List.getElem?_take, if_pos hz, ← List.getD_eq_getElem?_getD]
  unfold shF Th.shape
  rw [e]
  obtain ⟨k1, k2, k3⟩ : (L[i].k = 2 ∨ L[i].k = 3 ∨ L[i].k = 4 → L[i].a.toNat < i) ∧ (L[i].k = 2 ∨ L[i].k = 3 → L[i].b.toNat < i) ∧ (L[i].k = 1 ∨ L[i].k = 2 ∨ L[i].k = 3 ∨ L[i].k = 4) := ⟨fun h => (ha h).1, fun h => (hb h).1, (ok_ab hg hi).2.2⟩
  by_cases h1 : L[i].k = 1
  · rw [if_pos h1, if_pos h1]
  rw [if_neg h1, if_neg h1]
  by_cases h2 : L[i].k = 2
  · rw [if_pos h2, if_pos h2, take _ (k1 (.inl h2)), take _ (k2 (.inl h2))]
  rw [if_neg h2, if_neg h2]
  by_cases h3 : L[i].k = 3
  · rw [if_pos h3, if_pos h3, take _ (k1 (.inr (.inl h3))), take _ (k2 (.inr h3))]
  rw [if_neg h3, if_neg h3, take _ (k1 (.inr (.inr (by omega))))]

theorem seen_inv {L : List Th} (hg : GoodT L) : ∀ i, i ≤ L.length → (∀ j, j < i → (shF L j, (FI L j : Int)) ∈ (firstsS (L.take i)).2) ∧
    (∀ p ∈ (firstsS (L.take i)).2, ∃ j, j < i ∧ p.1 = shF L j ∧ p.2 = (j : Int)) ∧ (∀ p ∈ (firstsS (L.take i)).2, ∀ q ∈ (firstsS (L.take i)).2, p.1 = q.1 → p = q)
  | 0, _ => by simp [firstsS]
  | i + 1, hi => by
    obtain ⟨h1, h2, h3⟩ := seen_inv hg i (by omega)
    have htk : L.take (i + 1) = L.take i ++ [L[i]] := by rw [List.take_succ_eq_append_getElem (by omega)]
    have hout := firsts_take L i (by omega)
    have hlen : (firstsS (L.take i)).1.length = i := by rw [hout, List.length_take, firstsF_len]; omega
    have hF : (firstsS (L.take (i + 1))).1 = (firstsF L).take (i + 1) := firsts_take L (i + 1) hi
    obtain ⟨f1, f2, f3⟩ := firstsF_at L (i := i) (by omega)
    have hFi : (firstsS (L.take (i + 1))).1[i]? = some (FI L i : Int) := by rw [hF, List.getElem?_take, if_pos (by omega), List.getElem?_eq_getElem f1, f2]
    rw [htk, firstsS_snoc] at hFi ⊢
    have hsh : L[i].shape (firstsS (L.take i)).1 (firstsS (L.take i)).1.length = shF L i := by rw [hlen, hout]; exact shF_take hg (by omega)
    unfold fstep at hFi ⊢
    rw [hsh] at hFi ⊢
    split at hFi
    · rename_i p hp
      simp only at hFi ⊢
      have hpm := List.mem_of_find?_eq_some hp
      have hpe : p.1 = shF L i := by have := List.find?_some hp; simpa using this
      rw [List.getElem?_append_right (by omega), hlen] at hFi
      simp at hFi
      refine ⟨fun j hj => ?_, fun q hq => ?_, h3⟩
      · by_cases e : j = i
        · subst e
          have : (shF L j, (FI L j : Int)) = p := by rw [← hpe, ← hFi]
          rw [this]; exact hpm
        · exact h1 j (by omega)
      · obtain ⟨j, a, b⟩ := h2 q hq
        exact ⟨j, by omega, b⟩
    · rename_i hp
      simp only at hFi ⊢
      rw [List.getElem?_append_right (by omega), hlen] at hFi
      simp at hFi
      have hne : ∀ q ∈ (firstsS (L.take i)).2, q.1 ≠ shF L i := by
        intro q hq he
        have := List.find?_eq_none.1 hp q hq
        simp [he] at this
      refine ⟨fun j hj => ?_, fun q hq => ?_, fun p hp q hq he => ?_⟩
      · by_cases e : j = i
        · subst e
          rw [hlen, ← hFi]; simp
        · exact List.mem_append_left _ (h1 j (by omega))
      · rw [List.mem_append, List.mem_singleton] at hq
        rcases hq with hq | rfl
        · obtain ⟨j, a, b⟩ := h2 q hq
          exact ⟨j, by omega, b⟩
        · exact ⟨i, by omega, rfl, by simp [hlen]⟩
      · rw [List.mem_append, List.mem_singleton] at hp hq
        rcases hp with hp | rfl <;> rcases hq with hq | rfl
        · exact h3 p hp q hq he
        · exact absurd he (hne p hp)
        · exact absurd he.symm (hne q hq)
        · rfl

/-- The same, as their shapes say. -/
theorem FI_iff {L : List Th} (hg : GoodT L) {i j : Nat} (hi : i < L.length) (hj : j < L.length) : FI L i = FI L j ↔ shF L i = shF L j := by
  obtain ⟨h1, h2, h3⟩ := seen_inv hg L.length (Nat.le_refl _)
  have a := h1 i hi
  have b := h1 j hj
  constructor
  · intro e
    obtain ⟨x, _, x1, x2⟩ := h2 _ a
    obtain ⟨y, _, y1, y2⟩ := h2 _ b
    simp only at x1 x2 y1 y2
    have : x = y := by omega
    subst this
    rw [x1, y1]
  · intro e
    have := h3 _ a _ b e
    simp only [Prod.mk.injEq] at this
    omega
/-- A secret is the same as itself alone. -/
theorem secret_alone {L : List Th} (hg : GoodT L) {i j : Nat} (hi : i < L.length) (hj : j < L.length) (hk : L[i].k = 1) (h : FI L i = FI L j) : i = j := by
  rw [FI_iff hg hi hj] at h
  have e1 : L.getD i ⟨0, 0, 0, 0⟩ = L[i] := by rw [List.getD_eq_getElem?_getD, List.getElem?_eq_getElem hi]; rfl
  have e2 : L.getD j ⟨0, 0, 0, 0⟩ = L[j] := by rw [List.getD_eq_getElem?_getD, List.getElem?_eq_getElem hj]; rfl
  unfold shF at h
  rw [e1, e2] at h
  have s1 : L[i].shape (firstsF L) i = ⟨1, 0, 0, i⟩ := by unfold Th.shape; rw [if_pos hk]
  rw [s1] at h
  unfold Th.shape at h
  split at h
  · simp only [Th.mk.injEq, true_and] at h; omega
  · split at h
    · simp at h
    · split at h <;> simp at h

theorem good_append {L N : List Th} (hg : GoodT L) (hn : ∀ (i : Nat) (h : i < N.length), N[i].ok (L.length + i) = true) (hl : L.length + N.length ≤ 500) : GoodT (L ++ N) := by
  refine ⟨fun i hi => ?_, by simpa using hl⟩
  by_cases h : i < L.length
  · rw [List.getElem_append_left h]; exact hg.1 i h
  · rw [List.getElem_append_right (by omega)]
    have := hn (i - L.length) (by simp at hi; omega)
    rwa [show L.length + (i - L.length) = i from by omega] at this

section
variable {L : List Th} {n : Nat} {S : Int → Prop}

theorem sealed_good (hg : GoodT L) (hn : L.length = n) (h : n ≤ 50) : GoodT (L ++ [⟨1, 0, 0, 0⟩, ⟨1, 0, 0, 0⟩, ⟨3, n, (n : Int) + 1, 0⟩]) := by
  refine good_append hg ?_ (by simp; omega)
  intro i hi
  simp at hi
  have : i = 0 ∨ i = 1 ∨ i = 2 := by omega
  rcases this with rfl | rfl | rfl
  · rfl
  · rfl
  · simp [Th.ok, belowB, hn]; omega

theorem sealed_stays (hg : GoodT L) (hn : L.length = n) (h : n ≤ 50) (hS : ∀ i : Nat, S i → i < n ∨ i = n + 2) {i : Nat} (k : Kn (L ++ [⟨1, 0, 0, 0⟩, ⟨1, 0, 0, 0⟩, ⟨3, n, (n : Int) + 1, 0⟩]) S i) : i < n ∨ i = n + 2 := by
  have hgu := sealed_good hg hn h
  generalize hu : L ++ [(⟨1, 0, 0, 0⟩ : Th), ⟨1, 0, 0, 0⟩, ⟨3, n, (n : Int) + 1, 0⟩] = u at k hgu
  have hul : u.length = n + 3 := by rw [← hu]; simp [hn]
  have u0 : ∀ h, u[n]'h = ⟨1, 0, 0, 0⟩ := by intro h; subst hu; subst hn; simp
  have u1 : ∀ h, u[n + 1]'h = ⟨1, 0, 0, 0⟩ := by intro h; subst hu; subst hn; simp
  have u2 : ∀ h, u[n + 2]'h = ⟨3, n, (n : Int) + 1, 0⟩ := by intro h; subst hu; subst hn; simp
  have four : ∀ j, j < u.length → j < n ∨ j = n ∨ j = n + 1 ∨ j = n + 2 := by intro j hj; omega
  induction k with
  | base hi hs => exact hS _ hs
  | same hi he hk ih =>
    rename_i i j
    rcases four i hi with h | rfl | rfl | h
    · exact .inl h
    · have hj : j < u.length := by rcases ih with h | h <;> omega
      have := secret_alone hgu hi hj (by rw [u0]) he
      omega
    · have hj : j < u.length := by rcases ih with h | h <;> omega
      have := secret_alone hgu hi hj (by rw [u1]) he
      omega
    · exact .inr h
  | fst hi hk hkn ih =>
    rename_i i
    have := ((ok_ab hgu hi).1 (.inl hk)).1
    rcases ih with h | rfl
    · left; omega
    · rw [u2] at hk; simp at hk
  | snd hi hk hkn ih =>
    rename_i i
    have := ((ok_ab hgu hi).2.1 (.inl hk)).1
    rcases ih with h | rfl
    · left; omega
    · rw [u2] at hk; simp at hk
  | opened hi hk hkn hka ih iha =>
    rename_i i
    have := ((ok_ab hgu hi).2.1 (.inr hk)).1
    rcases ih with h | rfl
    · left; omega
    · rw [u2] at iha
      simp at iha
  | pair hi hk hka hkb iha ihb =>
    rename_i i
    rcases four i hi with h | rfl | rfl | h
    · exact .inl h
    · rw [u0] at hk; simp at hk
    · rw [u1] at hk; simp at hk
    · exact .inr h
  | key hi hk hka ih =>
    rename_i i
    rcases four i hi with h | rfl | rfl | h
    · exact .inl h
    · rw [u0] at hk; simp at hk
    · rw [u1] at hk; simp at hk
    · exact .inr h

theorem sealed_opens (hn : L.length = n) (h2 : S ((n : Int) + 2)) (h0 : S n) : Kn (L ++ [⟨1, 0, 0, 0⟩, ⟨1, 0, 0, 0⟩, ⟨3, n, (n : Int) + 1, 0⟩]) S (n + 1) := by
  subst hn
  have a := Kn.base (L := L ++ [⟨1, 0, 0, 0⟩, ⟨1, 0, 0, 0⟩, ⟨3, (L.length : Int), (L.length : Int) + 1, 0⟩]) (S := S) (i := L.length + 2) (by simp) (by simpa using h2)
  have b := Kn.base (L := L ++ [⟨1, 0, 0, 0⟩, ⟨1, 0, 0, 0⟩, ⟨3, (L.length : Int), (L.length : Int) + 1, 0⟩]) (S := S) (i := L.length) (by simp) (by simpa using h0)
  have := Kn.opened (by simp) (by simp) a (by simpa using b)
  simpa using this
end
end Go.Bb
/- Contracts: what can be known, the document's own answer. -/
namespace Go.Bb
set_option linter.unusedSimpArgs false
set_option linter.unusedVariables false
set_option maxRecDepth 20000

theorem th_ok (x : Th) (i : Nat) : x.ok i = true ↔ (x.k = 1 ∨ (x.k = 2 ∨ x.k = 3) ∧ 0 ≤ x.a ∧ x.a < i ∧ 0 ≤ x.b ∧ x.b < i ∨ x.k = 4 ∧ 0 ≤ x.a ∧ x.a < i) := by
  unfold Th.ok belowB
  by_cases k1 : x.k = 1
  · simp [k1]
  by_cases k2 : x.k = 2
  · simp [k2]; omega
  by_cases k3 : x.k = 3
  · simp [k3]; omega
  by_cases k4 : x.k = 4
  · simp [k4]
  · simp [k1, k2, k3, k4]

set_option maxHeartbeats 2000000 in
theorem refGood_c (E : EnvT tab) (h : Heap) {v : Value} (L : List Th) (hl : L.length ≤ 9223372036854775807) (s : Sl h 4 v L.length (L.flatMap Th.cells)) : ACallN E.toEnv n_bandboxref15_GoodTable [v] h fun r h' => h' = h ∧ r = .bool (goodT L) := by
  obtain ⟨base, c, rfl⟩ := s.shape
  refine acall h_bandboxref15_GoodTable ir_bandboxref15_GoodTable rfl rfl (wpA_sound ?_)
  unfold ir_bandboxref15_GoodTable
  simp -implicitDefEqProofs only [z00,z01,z02,z03,z04,z05,z06,z07,z08,z09,z0a,z0b,z0c,z0d,z0e,z0f,z0g,z0h,z0i,z0j,z0k,z0l,z0m,z0n,retO,retL,retV,z0o,z0p,z0q,z0r,z0s,z0t,z0u,z0v,z0w,z0x,z0y,z0z,z10,z11,z12,z13,z14,z15,z16,z17,z18,z19,z1a,z1b,z1c,z1d,z1e,z1f,z1g,z1h,z1i,z1j,z1k,z1l,z1m,z1n,z1o,z1p,z1q,z1r,z1s,z1t,z1u,z1v,z1w,z1x,z1y,z1z,z20,z21,z22,z23,z24,z25,z26,z27,z28,z29,z2a,z2b,z2c,z2d,z2e,z2f,z2g,z2h,z2i,z2j,z2k,z2l,z2m,z2n,z2o,z2p,z2q,z2r,z2s,z2t,z2u,z2v,z2w,z2x,z2y,z2z,z30,z31,z32,z33,z34,z35,z36,z37,z38,z39,z3a,z3b,z3c,z3d,z3e,z3f,z3g,z3h,z3i,z3j,z3k,z3l,z3m,z3n,z3o,z3p,z3q,z3r,z3s,z3t,z3u,z3v,z3w,z3x,z3y,z3z,z40,z41,z42,z43,z44,z45,z46,z47,z48,z49,z4a,z4b,z4c,z4d,z4e,z4f,z4g,z4h,z4i,z4j,z4k,z4l,z4m,z4n,z4o,z4p,z4q,z4r,z4s,z4t,z4u,z4v,z4w,z4x,z4y,z4z,z50,z51,z52,z53,z54,z55,z56,z57,z58,z59,z5a,z5b,z5c,z5d,z5e,z5f,z5g,z5h,z5i,z5j,z5k,z5l,z5m,z5n,z5o,z5p,z5q,z5r,z5s,z5t,z5u,z5v,z5w,z5x,z5y,z5z,z60,z61,z62,z63,z64,z65,z66,z67,z68,z69,allV,allP,z6a,z6b,z6c,z6d,z6e,z6f,z6g,z6h,z6i,z6j,z6k,z6l,z6m,Option.map_some,Option.map_none,Option.some.injEq,reduceIte,reduceCtorEq,Nat.reduceEqDiff,Nat.reduceAdd,Nat.reduceMul,Nat.reduceLT,Nat.reduceSub,Int.reduceLT,Int.reduceLE,Int.reduceEq,Int.reduceNe,Int.reduceSub,Int.reduceAdd,Int.reduceMul,Int.reduceBEq,Int.reduceBNe,Int.reduceGT,Int.reduceGE,Nat.reduceGT,Int.reduceToNat,Int.reduceNeg,Nat.reduceLeDiff,Nat.reduceBEq,Nat.reduceBneDiff,binV,eqV,unV,oOpt,true_and,and_true,Value.cells,List.length_cons,List.length_nil,List.append_nil,List.nil_append,List.cons_append,List.drop_succ_cons,List.drop_zero,List.take_succ_cons,List.take_zero,List.take_nil,List.getElem?_cons_zero,List.getElem?_cons_succ,decide_true,decide_false,decide_eq_true_eq,decide_eq_false_iff_not,Bool.false_eq_true,Bool.true_eq_false,Bool.not_true,Bool.not_false,Bool.not_eq_true',Bool.not_eq_false',Bool.not_eq_true,Bool.not_eq_false,false_implies,true_implies,beq_iff_eq,beq_eq_false_iff_ne,bne_iff_ne,bne_eq_false_iff_eq,ne_eq,ge_iff_le,gt_iff_lt,Int.not_lt,Int.not_le,not_true_eq_false,not_false_eq_true,if_true,if_false,z6n,z6o,z6p,z6q,Heap.set_set,z6r,z6s,z6t,z6u,z6v,z6w,List.getElem_cons_zero,List.getElem_cons_succ,List.set_cons_zero,List.set_cons_succ,List.length_set,List.all_cons,List.all_nil,Bool.and_true,Bool.true_and,Bool.and_self,Nat.add_zero,Nat.zero_add,Nat.zero_lt_succ,Int.cast_ofNat_Int,List.size_toArray,List.flatten_replicate_singleton,Nat.mul_one,Nat.le_refl,Nat.lt_irrefl,Nat.le_add_left]
  refine wp_loop' (fun m t h' => h' = h ∧ ∃ (i : Nat), t = tl [(0, .slice base L.length c), (3, .int .i64 i)] ∧ i ≤ L.length ∧ m = L.length - i ∧ ∀ j (hj : j < i) (hj2 : j < L.length), L[j].ok j = true) L.length
    ⟨rfl, 0, rfl, by omega, by omega, fun j hj => by omega⟩ ?_
  rintro m t h' ⟨rfl, i, rfl, hi, rfl, hok⟩
  by_cases hlt : i < L.length
  · obtain ⟨b, o, c', hv, hc, hcell⟩ := s.at cells_len i hlt (by omega)
    simp only [Value.slice.injEq, true_and] at hv
    obtain ⟨rfl, rfl⟩ := hv
    have hi1 : (i : Int) < L.length := by omega
    have hi2 : (0 : Int) ≤ i := by omega
    have hi3 := hcell _ (Heap.le_refl _)
    have z0 := hcell_of hi3 0 (by omega)
    have z1 := hcell_of hi3 1 (by omega)
    have z2 := hcell_of hi3 2 (by omega)
    simp only [Th.cells, List.getElem?_cons_zero, List.getElem?_cons_succ, Nat.add_zero] at z0 z1 z2
    have hw : IntKind.i64.wrap ((i : Int) + 1) = ((i + 1 : Nat) : Int) := by rw [wrap_i64 (by omega) (by omega)]; rfl
    have yes : L[i].ok i = true → ∃ m, m < L.length - i ∧ ∃ (i' : Nat), tl [(0, Value.slice (some ⟨b, o, none⟩) L.length c), (3, .int .i64 ((i + 1 : Nat) : Int))] = tl [(0, Value.slice (some ⟨b, o, none⟩) L.length c), (3, .int .i64 i')] ∧ i' ≤ L.length ∧ m = L.length - i' ∧ ∀ j (hj : j < i') (hj2 : j < L.length), L[j].ok j = true := by
      intro ho
      refine ⟨_, by omega, i + 1, rfl, by omega, rfl, ?_⟩
      intro j hj hj2
      by_cases e : j = i
      · subst e; exact ho
      · exact hok j (by omega) hj2
    have no : ¬ L[i].ok i = true → goodT L = false := by
      intro ho
      rw [goodT_false]
      exact fun hg => ho (hg.1 i hlt)
    generalize L[i] = x at z0 z1 z2 yes no
    rw [th_ok] at yes no
    by_cases k0 : x.k < 1
    · simp -implicitDefEqProofs only [z00,z01,z02,z03,z04,z05,z06,z07,z08,z09,z0a,z0b,z0c,z0d,z0e,z0f,z0g,z0h,z0i,z0j,z0k,z0l,z0m,z0n,retO,retL,retV,z0o,z0p,z0q,z0r,z0s,z0t,z0u,z0v,z0w,z0x,z0y,z0z,z10,z11,z12,z13,z14,z15,z16,z17,z18,z19,z1a,z1b,z1c,z1d,z1e,z1f,z1g,z1h,z1i,z1j,z1k,z1l,z1m,z1n,z1o,z1p,z1q,z1r,z1s,z1t,z1u,z1v,z1w,z1x,z1y,z1z,z20,z21,z22,z23,z24,z25,z26,z27,z28,z29,z2a,z2b,z2c,z2d,z2e,z2f,z2g,z2h,z2i,z2j,z2k,z2l,z2m,z2n,z2o,z2p,z2q,z2r,z2s,z2t,z2u,z2v,z2w,z2x,z2y,z2z,z30,z31,z32,z33,z34,z35,z36,z37,z38,z39,z3a,z3b,z3c,z3d,z3e,z3f,z3g,z3h,z3i,z3j,z3k,z3l,z3m,z3n,z3o,z3p,z3q,z3r,z3s,z3t,z3u,z3v,z3w,z3x,z3y,z3z,z40,z41,z42,z43,z44,z45,z46,z47,z48,z49,z4a,z4b,z4c,z4d,z4e,z4f,z4g,z4h,z4i,z4j,z4k,z4l,z4m,z4n,z4o,z4p,z4q,z4r,z4s,z4t,z4u,z4v,z4w,z4x,z4y,z4z,z50,z51,z52,z53,z54,z55,z56,z57,z58,z59,z5a,z5b,z5c,z5d,z5e,z5f,z5g,z5h,z5i,z5j,z5k,z5l,z5m,z5n,z5o,z5p,z5q,z5r,z5s,z5t,z5u,z5v,z5w,z5x,z5y,z5z,z60,z61,z62,z63,z64,z65,z66,z67,z68,z69,allV,allP,z6a,z6b,z6c,z6d,z6e,z6f,z6g,z6h,z6i,z6j,z6k,z6l,z6m,Option.map_some,Option.map_none,Option.some.injEq,reduceIte,reduceCtorEq,Nat.reduceEqDiff,Nat.reduceAdd,Nat.reduceMul,Nat.reduceLT,Nat.reduceSub,Int.reduceLT,Int.reduceLE,Int.reduceEq,Int.reduceNe,Int.reduceSub,Int.reduceAdd,Int.reduceMul,Int.reduceBEq,Int.reduceBNe,Int.reduceGT,Int.reduceGE,Nat.reduceGT,Int.reduceToNat,Int.reduceNeg,Nat.reduceLeDiff,Nat.reduceBEq,Nat.reduceBneDiff,binV,eqV,unV,oOpt,true_and,and_true,Value.cells,List.length_cons,List.length_nil,List.append_nil,List.nil_append,List.cons_append,List.drop_succ_cons,List.drop_zero,List.take_succ_cons,List.take_zero,List.take_nil,List.getElem?_cons_zero,List.getElem?_cons_succ,decide_true,decide_false,decide_eq_true_eq,decide_eq_false_iff_not,Bool.false_eq_true,Bool.true_eq_false,Bool.not_true,Bool.not_false,Bool.not_eq_true',Bool.not_eq_false',Bool.not_eq_true,Bool.not_eq_false,false_implies,true_implies,beq_iff_eq,beq_eq_false_iff_ne,bne_iff_ne,bne_eq_false_iff_eq,ne_eq,ge_iff_le,gt_iff_lt,Int.not_lt,Int.not_le,not_true_eq_false,not_false_eq_true,if_true,if_false,z6n,z6o,z6p,z6q,Heap.set_set,z6r,z6s,z6t,z6u,z6v,z6w,List.getElem_cons_zero,List.getElem_cons_succ,List.set_cons_zero,List.set_cons_succ,List.length_set,List.all_cons,List.all_nil,Bool.and_true,Bool.true_and,Bool.and_self,Nat.add_zero,Nat.zero_add,Nat.zero_lt_succ,Int.cast_ofNat_Int,List.size_toArray,List.flatten_replicate_singleton,Nat.mul_one,Nat.le_refl,Nat.lt_irrefl,Nat.le_add_left, hi1, hi2, z0, z1, z2, Int.toNat_natCast, k0]
      rw [no (by omega)]
    by_cases k5 : 4 < x.k
    · simp -implicitDefEqProofs only [z00,z01,z02,z03,z04,z05,z06,z07,z08,z09,z0a,z0b,z0c,z0d,z0e,z0f,z0g,z0h,z0i,z0j,z0k,z0l,z0m,z0n,retO,retL,retV,z0o,z0p,z0q,z0r,z0s,z0t,z0u,z0v,z0w,z0x,z0y,z0z,z10,z11,z12,z13,z14,z15,z16,z17,z18,z19,z1a,z1b,z1c,z1d,z1e,z1f,z1g,z1h,z1i,z1j,z1k,z1l,z1m,z1n,z1o,z1p,z1q,z1r,z1s,z1t,z1u,z1v,z1w,z1x,z1y,z1z,z20,z21,z22,z23,z24,z25,z26,z27,z28,z29,z2a,z2b,z2c,z2d,z2e,z2f,z2g,z2h,z2i,z2j,z2k,z2l,z2m,z2n,z2o,z2p,z2q,z2r,z2s,z2t,z2u,z2v,z2w,z2x,z2y,z2z,z30,z31,z32,z33,z34,z35,z36,z37,z38,z39,z3a,z3b,z3c,z3d,z3e,z3f,z3g,z3h,z3i,z3j,z3k,z3l,z3m,z3n,z3o,z3p,z3q,z3r,z3s,z3t,z3u,z3v,z3w,z3x,z3y,z3z,z40,z41,z42,z43,z44,z45,z46,z47,z48,z49,z4a,z4b,z4c,z4d,z4e,z4f,z4g,z4h,z4i,z4j,z4k,z4l,z4m,z4n,z4o,z4p,z4q,z4r,z4s,z4t,z4u,z4v,z4w,z4x,z4y,z4z,z50,z51,z52,z53,z54,z55,z56,z57,z58,z59,z5a,z5b,z5c,z5d,z5e,z5f,z5g,z5h,z5i,z5j,z5k,z5l,z5m,z5n,z5o,z5p,z5q,z5r,z5s,z5t,z5u,z5v,z5w,z5x,z5y,z5z,z60,z61,z62,z63,z64,z65,z66,z67,z68,z69,allV,allP,z6a,z6b,z6c,z6d,z6e,z6f,z6g,z6h,z6i,z6j,z6k,z6l,z6m,Option.map_some,Option.map_none,Option.some.injEq,reduceIte,reduceCtorEq,Nat.reduceEqDiff,Nat.reduceAdd,Nat.reduceMul,Nat.reduceLT,Nat.reduceSub,Int.reduceLT,Int.reduceLE,Int.reduceEq,Int.reduceNe,Int.reduceSub,Int.reduceAdd,Int.reduceMul,Int.reduceBEq,Int.reduceBNe,Int.reduceGT,Int.reduceGE,Nat.reduceGT,Int.reduceToNat,Int.reduceNeg,Nat.reduceLeDiff,Nat.reduceBEq,Nat.reduceBneDiff,binV,eqV,unV,oOpt,true_and,and_true,Value.cells,List.length_cons,List.length_nil,List.append_nil,List.nil_append,List.cons_append,List.drop_succ_cons,List.drop_zero,List.take_succ_cons,List.take_zero,List.take_nil,List.getElem?_cons_zero,List.getElem?_cons_succ,decide_true,decide_false,decide_eq_true_eq,decide_eq_false_iff_not,Bool.false_eq_true,Bool.true_eq_false,Bool.not_true,Bool.not_false,Bool.not_eq_true',Bool.not_eq_false',Bool.not_eq_true,Bool.not_eq_false,false_implies,true_implies,beq_iff_eq,beq_eq_false_iff_ne,bne_iff_ne,bne_eq_false_iff_eq,ne_eq,ge_iff_le,gt_iff_lt,Int.not_lt,Int.not_le,not_true_eq_false,not_false_eq_true,if_true,if_false,z6n,z6o,z6p,z6q,Heap.set_set,z6r,z6s,z6t,z6u,z6v,z6w,List.getElem_cons_zero,List.getElem_cons_succ,List.set_cons_zero,List.set_cons_succ,List.length_set,List.all_cons,List.all_nil,Bool.and_true,Bool.true_and,Bool.and_self,Nat.add_zero,Nat.zero_add,Nat.zero_lt_succ,Int.cast_ofNat_Int,List.size_toArray,List.flatten_replicate_singleton,Nat.mul_one,Nat.le_refl,Nat.lt_irrefl,Nat.le_add_left, hi1, hi2, z0, z1, z2, Int.toNat_natCast, k0, k5]
      rw [no (by omega)]
    by_cases k1 : x.k = 1
    · simp -implicitDefEqProofs only [z00,z01,z02,z03,z04,z05,z06,z07,z08,z09,z0a,z0b,z0c,z0d,z0e,z0f,z0g,z0h,z0i,z0j,z0k,z0l,z0m,z0n,retO,retL,retV,z0o,z0p,z0q,z0r,z0s,z0t,z0u,z0v,z0w,z0x,z0y,z0z,z10,z11,z12,z13,z14,z15,z16,z17,z18,z19,z1a,z1b,z1c,z1d,z1e,z1f,z1g,z1h,z1i,z1j,z1k,z1l,z1m,z1n,z1o,z1p,z1q,z1r,z1s,z1t,z1u,z1v,z1w,z1x,z1y,z1z,z20,z21,z22,z23,z24,z25,z26,z27,z28,z29,z2a,z2b,z2c,z2d,z2e,z2f,z2g,z2h,z2i,z2j,z2k,z2l,z2m,z2n,z2o,z2p,z2q,z2r,z2s,z2t,z2u,z2v,z2w,z2x,z2y,z2z,z30,z31,z32,z33,z34,z35,z36,z37,z38,z39,z3a,z3b,z3c,z3d,z3e,z3f,z3g,z3h,z3i,z3j,z3k,z3l,z3m,z3n,z3o,z3p,z3q,z3r,z3s,z3t,z3u,z3v,z3w,z3x,z3y,z3z,z40,z41,z42,z43,z44,z45,z46,z47,z48,z49,z4a,z4b,z4c,z4d,z4e,z4f,z4g,z4h,z4i,z4j,z4k,z4l,z4m,z4n,z4o,z4p,z4q,z4r,z4s,z4t,z4u,z4v,z4w,z4x,z4y,z4z,z50,z51,z52,z53,z54,z55,z56,z57,z58,z59,z5a,z5b,z5c,z5d,z5e,z5f,z5g,z5h,z5i,z5j,z5k,z5l,z5m,z5n,z5o,z5p,z5q,z5r,z5s,z5t,z5u,z5v,z5w,z5x,z5y,z5z,z60,z61,z62,z63,z64,z65,z66,z67,z68,z69,allV,allP,z6a,z6b,z6c,z6d,z6e,z6f,z6g,z6h,z6i,z6j,z6k,z6l,z6m,Option.map_some,Option.map_none,Option.some.injEq,reduceIte,reduceCtorEq,Nat.reduceEqDiff,Nat.reduceAdd,Nat.reduceMul,Nat.reduceLT,Nat.reduceSub,Int.reduceLT,Int.reduceLE,Int.reduceEq,Int.reduceNe,Int.reduceSub,Int.reduceAdd,Int.reduceMul,Int.reduceBEq,Int.reduceBNe,Int.reduceGT,Int.reduceGE,Nat.reduceGT,Int.reduceToNat,Int.reduceNeg,Nat.reduceLeDiff,Nat.reduceBEq,Nat.reduceBneDiff,binV,eqV,unV,oOpt,true_and,and_true,Value.cells,List.length_cons,List.length_nil,List.append_nil,List.nil_append,List.cons_append,List.drop_succ_cons,List.drop_zero,List.take_succ_cons,List.take_zero,List.take_nil,List.getElem?_cons_zero,List.getElem?_cons_succ,decide_true,decide_false,decide_eq_true_eq,decide_eq_false_iff_not,Bool.false_eq_true,Bool.true_eq_false,Bool.not_true,Bool.not_false,Bool.not_eq_true',Bool.not_eq_false',Bool.not_eq_true,Bool.not_eq_false,false_implies,true_implies,beq_iff_eq,beq_eq_false_iff_ne,bne_iff_ne,bne_eq_false_iff_eq,ne_eq,ge_iff_le,gt_iff_lt,Int.not_lt,Int.not_le,not_true_eq_false,not_false_eq_true,if_true,if_false,z6n,z6o,z6p,z6q,Heap.set_set,z6r,z6s,z6t,z6u,z6v,z6w,List.getElem_cons_zero,List.getElem_cons_succ,List.set_cons_zero,List.set_cons_succ,List.length_set,List.all_cons,List.all_nil,Bool.and_true,Bool.true_and,Bool.and_self,Nat.add_zero,Nat.zero_add,Nat.zero_lt_succ,Int.cast_ofNat_Int,List.size_toArray,List.flatten_replicate_singleton,Nat.mul_one,Nat.le_refl,Nat.lt_irrefl,Nat.le_add_left, hi1, hi2, z0, z1, z2, Int.toNat_natCast, k1, hw]
      exact yes (.inl k1)
    have k1' : 1 < x.k := by omega
    by_cases a0 : x.a < 0
    · simp -implicitDefEqProofs only [z00,z01,z02,z03,z04,z05,z06,z07,z08,z09,z0a,z0b,z0c,z0d,z0e,z0f,z0g,z0h,z0i,z0j,z0k,z0l,z0m,z0n,retO,retL,retV,z0o,z0p,z0q,z0r,z0s,z0t,z0u,z0v,z0w,z0x,z0y,z0z,z10,z11,z12,z13,z14,z15,z16,z17,z18,z19,z1a,z1b,z1c,z1d,z1e,z1f,z1g,z1h,z1i,z1j,z1k,z1l,z1m,z1n,z1o,z1p,z1q,z1r,z1s,z1t,z1u,z1v,z1w,z1x,z1y,z1z,z20,z21,z22,z23,z24,z25,z26,z27,z28,z29,z2a,z2b,z2c,z2d,z2e,z2f,z2g,z2h,z2i,z2j,z2k,z2l,z2m,z2n,z2o,z2p,z2q,z2r,z2s,z2t,z2u,z2v,z2w,z2x,z2y,z2z,z30,z31,z32,z33,z34,z35,z36,z37,z38,z39,z3a,z3b,z3c,z3d,z3e,z3f,z3g,z3h,z3i,z3j,z3k,z3l,z3m,z3n,z3o,z3p,z3q,z3r,z3s,z3t,z3u,z3v,z3w,z3x,z3y,z3z,z40,z41,z42,z43,z44,z45,z46,z47,z48,z49,z4a,z4b,z4c,z4d,z4e,z4f,z4g,z4h,z4i,z4j,z4k,z4l,z4m,z4n,z4o,z4p,z4q,z4r,z4s,z4t,z4u,z4v,z4w,z4x,z4y,z4z,z50,z51,z52,z53,z54,z55,z56,z57,z58,z59,z5a,z5b,z5c,z5d,z5e,z5f,z5g,z5h,z5i,z5j,z5k,z5l,z5m,z5n,z5o,z5p,z5q,z5r,z5s,z5t,z5u,z5v,z5w,z5x,z5y,z5z,z60,z61,z62,z63,z64,z65,z66,z67,z68,z69,allV,allP,z6a,z6b,z6c,z6d,z6e,z6f,z6g,z6h,z6i,z6j,z6k,z6l,z6m,Option.map_some,Option.map_none,Option.some.injEq,reduceIte,reduceCtorEq,Nat.reduceEqDiff,Nat.reduceAdd,Nat.reduceMul,Nat.reduceLT,Nat.reduceSub,Int.reduceLT,Int.reduceLE,Int.reduceEq,Int.reduceNe,Int.reduceSub,Int.reduceAdd,Int.reduceMul,Int.reduceBEq,Int.reduceBNe,Int.reduceGT,Int.reduceGE,Nat.reduceGT,Int.reduceToNat,Int.reduceNeg,Nat.reduceLeDiff,Nat.reduceBEq,Nat.reduceBneDiff,binV,eqV,unV,oOpt,true_and,and_true,Value.cells,List.length_cons,List.length_nil,List.append_nil,List.nil_append,List.cons_append,List.drop_succ_cons,List.drop_zero,List.take_succ_cons,List.take_zero,List.take_nil,List.getElem?_cons_zero,List.getElem?_cons_succ,decide_true,decide_false,decide_eq_true_eq,decide_eq_false_iff_not,Bool.false_eq_true,Bool.true_eq_false,Bool.not_true,Bool.not_false,Bool.not_eq_true',Bool.not_eq_false',Bool.not_eq_true,Bool.not_eq_false,false_implies,true_implies,beq_iff_eq,beq_eq_false_iff_ne,bne_iff_ne,bne_eq_false_iff_eq,ne_eq,ge_iff_le,gt_iff_lt,Int.not_lt,Int.not_le,not_true_eq_false,not_false_eq_true,if_true,if_false,z6n,z6o,z6p,z6q,Heap.set_set,z6r,z6s,z6t,z6u,z6v,z6w,List.getElem_cons_zero,List.getElem_cons_succ,List.set_cons_zero,List.set_cons_succ,List.length_set,List.all_cons,List.all_nil,Bool.and_true,Bool.true_and,Bool.and_self,Nat.add_zero,Nat.zero_add,Nat.zero_lt_succ,Int.cast_ofNat_Int,List.size_toArray,List.flatten_replicate_singleton,Nat.mul_one,Nat.le_refl,Nat.lt_irrefl,Nat.le_add_left, hi1, hi2, z0, z1, z2, Int.toNat_natCast, k0, k5, k1', a0]
      rw [no (by omega)]
    by_cases a1 : (i : Int) ≤ x.a
    · simp -implicitDefEqProofs only [z00,z01,z02,z03,z04,z05,z06,z07,z08,z09,z0a,z0b,z0c,z0d,z0e,z0f,z0g,z0h,z0i,z0j,z0k,z0l,z0m,z0n,retO,retL,retV,z0o,z0p,z0q,z0r,z0s,z0t,z0u,z0v,z0w,z0x,z0y,z0z,z10,z11,z12,z13,z14,z15,z16,z17,z18,z19,z1a,z1b,z1c,z1d,z1e,z1f,z1g,z1h,z1i,z1j,z1k,z1l,z1m,z1n,z1o,z1p,z1q,z1r,z1s,z1t,z1u,z1v,z1w,z1x,z1y,z1z,z20,z21,z22,z23,z24,z25,z26,z27,z28,z29,z2a,z2b,z2c,z2d,z2e,z2f,z2g,z2h,z2i,z2j,z2k,z2l,z2m,z2n,z2o,z2p,z2q,z2r,z2s,z2t,z2u,z2v,z2w,z2x,z2y,z2z,z30,z31,z32,z33,z34,z35,z36,z37,z38,z39,z3a,z3b,z3c,z3d,z3e,z3f,z3g,z3h,z3i,z3j,z3k,z3l,z3m,z3n,z3o,z3p,z3q,z3r,z3s,z3t,z3u,z3v,z3w,z3x,z3y,z3z,z40,z41,z42,z43,z44,z45,z46,z47,z48,z49,z4a,z4b,z4c,z4d,z4e,z4f,z4g,z4h,z4i,z4j,z4k,z4l,z4m,z4n,z4o,z4p,z4q,z4r,z4s,z4t,z4u,z4v,z4w,z4x,z4y,z4z,z50,z51,z52,z53,z54,z55,z56,z57,z58,z59,z5a,z5b,z5c,z5d,z5e,z5f,z5g,z5h,z5i,z5j,z5k,z5l,z5m,z5n,z5o,z5p,z5q,z5r,z5s,z5t,z5u,z5v,z5w,z5x,z5y,z5z,z60,z61,z62,z63,z64,z65,z66,z67,z68,z69,allV,allP,z6a,z6b,z6c,z6d,z6e,z6f,z6g,z6h,z6i,z6j,z6k,z6l,z6m,Option.map_some,Option.map_none,Option.some.injEq,reduceIte,reduceCtorEq,Nat.reduceEqDiff,Nat.reduceAdd,Nat.reduceMul,Nat.reduceLT,Nat.reduceSub,Int.reduceLT,Int.reduceLE,Int.reduceEq,Int.reduceNe,Int.reduceSub,Int.reduceAdd,Int.reduceMul,Int.reduceBEq,Int.reduceBNe,Int.reduceGT,Int.reduceGE,Nat.reduceGT,Int.reduceToNat,Int.reduceNeg,Nat.reduceLeDiff,Nat.reduceBEq,Nat.reduceBneDiff,binV,eqV,unV,oOpt,true_and,and_true,Value.cells,List.length_cons,List.length_nil,List.append_nil,List.nil_append,List.cons_append,List.drop_succ_cons,List.drop_zero,List.take_succ_cons,List.take_zero,List.take_nil,List.getElem?_cons_zero,List.getElem?_cons_succ,decide_true,decide_false,decide_eq_true_eq,decide_eq_false_iff_not,Bool.false_eq_true,Bool.true_eq_false,Bool.not_true,Bool.not_false,Bool.not_eq_true',Bool.not_eq_false',Bool.not_eq_true,Bool.not_eq_false,false_implies,true_implies,beq_iff_eq,beq_eq_false_iff_ne,bne_iff_ne,bne_eq_false_iff_eq,ne_eq,ge_iff_le,gt_iff_lt,Int.not_lt,Int.not_le,not_true_eq_false,not_false_eq_true,if_true,if_false,z6n,z6o,z6p,z6q,Heap.set_set,z6r,z6s,z6t,z6u,z6v,z6w,List.getElem_cons_zero,List.getElem_cons_succ,List.set_cons_zero,List.set_cons_succ,List.length_set,List.all_cons,List.all_nil,Bool.and_true,Bool.true_and,Bool.and_self,Nat.add_zero,Nat.zero_add,Nat.zero_lt_succ,Int.cast_ofNat_Int,List.size_toArray,List.flatten_replicate_singleton,Nat.mul_one,Nat.le_refl,Nat.lt_irrefl,Nat.le_add_left, hi1, hi2, z0, z1, z2, Int.toNat_natCast, k0, k5, k1', a0, a1]
      rw [no (by omega)]
    by_cases k4 : x.k = 4
    · simp -implicitDefEqProofs only [z00,z01,z02,z03,z04,z05,z06,z07,z08,z09,z0a,z0b,z0c,z0d,z0e,z0f,z0g,z0h,z0i,z0j,z0k,z0l,z0m,z0n,retO,retL,retV,z0o,z0p,z0q,z0r,z0s,z0t,z0u,z0v,z0w,z0x,z0y,z0z,z10,z11,z12,z13,z14,z15,z16,z17,z18,z19,z1a,z1b,z1c,z1d,z1e,z1f,z1g,z1h,z1i,z1j,z1k,z1l,z1m,z1n,z1o,z1p,z1q,z1r,z1s,z1t,z1u,z1v,z1w,z1x,z1y,z1z,z20,z21,z22,z23,z24,z25,z26,z27,z28,z29,z2a,z2b,z2c,z2d,z2e,z2f,z2g,z2h,z2i,z2j,z2k,z2l,z2m,z2n,z2o,z2p,z2q,z2r,z2s,z2t,z2u,z2v,z2w,z2x,z2y,z2z,z30,z31,z32,z33,z34,z35,z36,z37,z38,z39,z3a,z3b,z3c,z3d,z3e,z3f,z3g,z3h,z3i,z3j,z3k,z3l,z3m,z3n,z3o,z3p,z3q,z3r,z3s,z3t,z3u,z3v,z3w,z3x,z3y,z3z,z40,z41,z42,z43,z44,z45,z46,z47,z48,z49,z4a,z4b,z4c,z4d,z4e,z4f,z4g,z4h,z4i,z4j,z4k,z4l,z4m,z4n,z4o,z4p,z4q,z4r,z4s,z4t,z4u,z4v,z4w,z4x,z4y,z4z,z50,z51,z52,z53,z54,z55,z56,z57,z58,z59,z5a,z5b,z5c,z5d,z5e,z5f,z5g,z5h,z5i,z5j,z5k,z5l,z5m,z5n,z5o,z5p,z5q,z5r,z5s,z5t,z5u,z5v,z5w,z5x,z5y,z5z,z60,z61,z62,z63,z64,z65,z66,z67,z68,z69,allV,allP,z6a,z6b,z6c,z6d,z6e,z6f,z6g,z6h,z6i,z6j,z6k,z6l,z6m,Option.map_some,Option.map_none,Option.some.injEq,reduceIte,reduceCtorEq,Nat.reduceEqDiff,Nat.reduceAdd,Nat.reduceMul,Nat.reduceLT,Nat.reduceSub,Int.reduceLT,Int.reduceLE,Int.reduceEq,Int.reduceNe,Int.reduceSub,Int.reduceAdd,Int.reduceMul,Int.reduceBEq,Int.reduceBNe,Int.reduceGT,Int.reduceGE,Nat.reduceGT,Int.reduceToNat,Int.reduceNeg,Nat.reduceLeDiff,Nat.reduceBEq,Nat.reduceBneDiff,binV,eqV,unV,oOpt,true_and,and_true,Value.cells,List.length_cons,List.length_nil,List.append_nil,List.nil_append,List.cons_append,List.drop_succ_cons,List.drop_zero,List.take_succ_cons,List.take_zero,List.take_nil,List.getElem?_cons_zero,List.getElem?_cons_succ,decide_true,decide_false,decide_eq_true_eq,decide_eq_false_iff_not,Bool.false_eq_true,Bool.true_eq_false,Bool.not_true,Bool.not_false,Bool.not_eq_true',Bool.not_eq_false',Bool.not_eq_true,Bool.not_eq_false,false_implies,true_implies,beq_iff_eq,beq_eq_false_iff_ne,bne_iff_ne,bne_eq_false_iff_eq,ne_eq,ge_iff_le,gt_iff_lt,Int.not_lt,Int.not_le,not_true_eq_false,not_false_eq_true,if_true,if_false,z6n,z6o,z6p,z6q,Heap.set_set,z6r,z6s,z6t,z6u,z6v,z6w,List.getElem_cons_zero,List.getElem_cons_succ,List.set_cons_zero,List.set_cons_succ,List.length_set,List.all_cons,List.all_nil,Bool.and_true,Bool.true_and,Bool.and_self,Nat.add_zero,Nat.zero_add,Nat.zero_lt_succ,Int.cast_ofNat_Int,List.size_toArray,List.flatten_replicate_singleton,Nat.mul_one,Nat.le_refl,Nat.lt_irrefl,Nat.le_add_left, hi1, hi2, z0, z1, z2, Int.toNat_natCast, k4, a0, a1, hw]
      exact yes (by omega)
    have k23 : x.k = 2 ∨ x.k = 3 := by omega
    have main : (x.k = 2 ∨ x.k = 3) → ¬ x.k = 2 → x.k = 3 := by omega
    by_cases b0 : x.b < 0
    · rcases k23 with k | k <;> simp -implicitDefEqProofs only [z00,z01,z02,z03,z04,z05,z06,z07,z08,z09,z0a,z0b,z0c,z0d,z0e,z0f,z0g,z0h,z0i,z0j,z0k,z0l,z0m,z0n,retO,retL,retV,z0o,z0p,z0q,z0r,z0s,z0t,z0u,z0v,z0w,z0x,z0y,z0z,z10,z11,z12,z13,z14,z15,z16,z17,z18,z19,z1a,z1b,z1c,z1d,z1e,z1f,z1g,z1h,z1i,z1j,z1k,z1l,z1m,z1n,z1o,z1p,z1q,z1r,z1s,z1t,z1u,z1v,z1w,z1x,z1y,z1z,z20,z21,z22,z23,z24,z25,z26,z27,z28,z29,z2a,z2b,z2c,z2d,z2e,z2f,z2g,z2h,z2i,z2j,z2k,z2l,z2m,z2n,z2o,z2p,z2q,z2r,z2s,z2t,z2u,z2v,z2w,z2x,z2y,z2z,z30,z31,z32,z33,z34,z35,z36,z37,z38,z39,z3a,z3b,z3c,z3d,z3e,z3f,z3g,z3h,z3i,z3j,z3k,z3l,z3m,z3n,z3o,z3p,z3q,z3r,z3s,z3t,z3u,z3v,z3w,z3x,z3y,z3z,z40,z41,z42,z43,z44,z45,z46,z47,z48,z49,z4a,z4b,z4c,z4d,z4e,z4f,z4g,z4h,z4i,z4j,z4k,z4l,z4m,z4n,z4o,z4p,z4q,z4r,z4s,z4t,z4u,z4v,z4w,z4x,z4y,z4z,z50,z51,z52,z53,z54,z55,z56,z57,z58,z59,z5a,z5b,z5c,z5d,z5e,z5f,z5g,z5h,z5i,z5j,z5k,z5l,z5m,z5n,z5o,z5p,z5q,z5r,z5s,z5t,z5u,z5v,z5w,z5x,z5y,z5z,z60,z61,z62,z63,z64,z65,z66,z67,z68,z69,allV,allP,z6a,z6b,z6c,z6d,z6e,z6f,z6g,z6h,z6i,z6j,z6k,z6l,z6m,Option.map_some,Option.map_none,Option.some.injEq,reduceIte,reduceCtorEq,Nat.reduceEqDiff,Nat.reduceAdd,Nat.reduceMul,Nat.reduceLT,Nat.reduceSub,Int.reduceLT,Int.reduceLE,Int.reduceEq,Int.reduceNe,Int.reduceSub,Int.reduceAdd,Int.reduceMul,Int.reduceBEq,Int.reduceBNe,Int.reduceGT,Int.reduceGE,Nat.reduceGT,Int.reduceToNat,Int.reduceNeg,Nat.reduceLeDiff,Nat.reduceBEq,Nat.reduceBneDiff,binV,eqV,unV,oOpt,true_and,and_true,Value.cells,List.length_cons,List.length_nil,List.append_nil,List.nil_append,List.cons_append,List.drop_succ_cons,List.drop_zero,List.take_succ_cons,List.take_zero,List.take_nil,List.getElem?_cons_zero,List.getElem?_cons_succ,decide_true,decide_false,decide_eq_true_eq,decide_eq_false_iff_not,Bool.false_eq_true,Bool.true_eq_false,Bool.not_true,Bool.not_false,Bool.not_eq_true',Bool.not_eq_false',Bool.not_eq_true,Bool.not_eq_false,false_implies,true_implies,beq_iff_eq,beq_eq_false_iff_ne,bne_iff_ne,bne_eq_false_iff_eq,ne_eq,ge_iff_le,gt_iff_lt,Int.not_lt,Int.not_le,not_true_eq_false,not_false_eq_true,if_true,if_false,z6n,z6o,z6p,z6q,Heap.set_set,z6r,z6s,z6t,z6u,z6v,z6w,List.getElem_cons_zero,List.getElem_cons_succ,List.set_cons_zero,List.set_cons_succ,List.length_set,List.all_cons,List.all_nil,Bool.and_true,Bool.true_and,Bool.and_self,Nat.add_zero,Nat.zero_add,Nat.zero_lt_succ,Int.cast_ofNat_Int,List.size_toArray,List.flatten_replicate_singleton,Nat.mul_one,Nat.le_refl,Nat.lt_irrefl,Nat.le_add_left, hi1, hi2, z0, z1, z2, Int.toNat_natCast, k, a0, a1, b0]
      all_goals rw [no (by omega)]
    by_cases b1 : (i : Int) ≤ x.b
    · rcases k23 with k | k <;> simp -implicitDefEqProofs only [z00,z01,z02,z03,z04,z05,z06,z07,z08,z09,z0a,z0b,z0c,z0d,z0e,z0f,z0g,z0h,z0i,z0j,z0k,z0l,z0m,z0n,retO,retL,retV,z0o,z0p,z0q,z0r,z0s,z0t,z0u,z0v,z0w,z0x,z0y,z0z,z10,z11,z12,z13,z14,z15,z16,z17,z18,z19,z1a,z1b,z1c,z1d,z1e,z1f,z1g,z1h,z1i,z1j,z1k,z1l,z1m,z1n,z1o,z1p,z1q,z1r,z1s,z1t,z1u,z1v,z1w,z1x,z1y,z1z,z20,z21,z22,z23,z24,z25,z26,z27,z28,z29,z2a,z2b,z2c,z2d,z2e,z2f,z2g,z2h,z2i,z2j,z2k,z2l,z2m,z2n,z2o,z2p,z2q,z2r,z2s,z2t,z2u,z2v,z2w,z2x,z2y,z2z,z30,z31,z32,z33,z34,z35,z36,z37,z38,z39,z3a,z3b,z3c,z3d,z3e,z3f,z3g,z3h,z3i,z3j,z3k,z3l,z3m,z3n,z3o,z3p,z3q,z3r,z3s,z3t,z3u,z3v,z3w,z3x,z3y,z3z,z40,z41,z42,z43,z44,z45,z46,z47,z48,z49,z4a,z4b,z4c,z4d,z4e,z4f,z4g,z4h,z4i,z4j,z4k,z4l,z4m,z4n,z4o,z4p,z4q,z4r,z4s,z4t,z4u,z4v,z4w,z4x,z4y,z4z,z50,z51,z52,z53,z54,z55,z56,z57,z58,z59,z5a,z5b,z5c,z5d,z5e,z5f,z5g,z5h,z5i,z5j,z5k,z5l,z5m,z5n,z5o,z5p,z5q,z5r,z5s,z5t,z5u,z5v,z5w,z5x,z5y,z5z,z60,z61,z62,z63,z64,z65,z66,z67,z68,z69,allV,allP,z6a,z6b,z6c,z6d,z6e,z6f,z6g,z6h,z6i,z6j,z6k,z6l,z6m,Option.map_some,Option.map_none,Option.some.injEq,reduceIte,reduceCtorEq,Nat.reduceEqDiff,Nat.reduceAdd,Nat.reduceMul,Nat.reduceLT,Nat.reduceSub,Int.reduceLT,Int.reduceLE,Int.reduceEq,Int.reduceNe,Int.reduceSub,Int.reduceAdd,Int.reduceMul,Int.reduceBEq,Int.reduceBNe,Int.reduceGT,Int.reduceGE,Nat.reduceGT,Int.reduceToNat,Int.reduceNeg,Nat.reduceLeDiff,Nat.reduceBEq,Nat.reduceBneDiff,binV,eqV,unV,oOpt,true_and,and_true,Value.cells,List.length_cons,List.length_nil,List.append_nil,List.nil_append,List.cons_append,List.drop_succ_cons,List.drop_zero,List.take_succ_cons,List.take_zero,List.take_nil,List.getElem?_cons_zero,List.getElem?_cons_succ,decide_true,decide_false,decide_eq_true_eq,decide_eq_false_iff_not,Bool.false_eq_true,Bool.true_eq_false,Bool.not_true,Bool.not_false,Bool.not_eq_true',Bool.not_eq_false',Bool.not_eq_true,Bool.not_eq_false,false_implies,true_implies,beq_iff_eq,beq_eq_false_iff_ne,bne_iff_ne,bne_eq_false_iff_eq,ne_eq,ge_iff_le,gt_iff_lt,Int.not_lt,Int.not_le,not_true_eq_false,not_false_eq_true,if_true,if_false,z6n,z6o,z6p,z6q,Heap.set_set,z6r,z6s,z6t,z6u,z6v,z6w,List.getElem_cons_zero,List.getElem_cons_succ,List.set_cons_zero,List.set_cons_succ,List.length_set,List.all_cons,List.all_nil,Bool.and_true,Bool.true_and,Bool.and_self,Nat.add_zero,Nat.zero_add,Nat.zero_lt_succ,Int.cast_ofNat_Int,List.size_toArray,List.flatten_replicate_singleton,Nat.mul_one,Nat.le_refl,Nat.lt_irrefl,Nat.le_add_left, hi1, hi2, z0, z1, z2, Int.toNat_natCast, k, a0, a1, b0, b1]
      all_goals rw [no (by omega)]
    rcases k23 with k | k <;> simp -implicitDefEqProofs only [z00,z01,z02,z03,z04,z05,z06,z07,z08,z09,z0a,z0b,z0c,z0d,z0e,z0f,z0g,z0h,z0i,z0j,z0k,z0l,z0m,z0n,retO,retL,retV,z0o,z0p,z0q,z0r,z0s,z0t,z0u,z0v,z0w,z0x,z0y,z0z,z10,z11,z12,z13,z14,z15,z16,z17,z18,z19,z1a,z1b,z1c,z1d,z1e,z1f,z1g,z1h,z1i,z1j,z1k,z1l,z1m,z1n,z1o,z1p,z1q,z1r,z1s,z1t,z1u,z1v,z1w,z1x,z1y,z1z,z20,z21,z22,z23,z24,z25,z26,z27,z28,z29,z2a,z2b,z2c,z2d,z2e,z2f,z2g,z2h,z2i,z2j,z2k,z2l,z2m,z2n,z2o,z2p,z2q,z2r,z2s,z2t,z2u,z2v,z2w,z2x,z2y,z2z,z30,z31,z32,z33,z34,z35,z36,z37,z38,z39,z3a,z3b,z3c,z3d,z3e,z3f,z3g,z3h,z3i,z3j,z3k,z3l,z3m,z3n,z3o,z3p,z3q,z3r,z3s,z3t,z3u,z3v,z3w,z3x,z3y,z3z,z40,z41,z42,z43,z44,z45,z46,z47,z48,z49,z4a,z4b,z4c,z4d,z4e,z4f,z4g,z4h,z4i,z4j,z4k,z4l,z4m,z4n,z4o,z4p,z4q,z4r,z4s,z4t,z4u,z4v,z4w,z4x,z4y,z4z,z50,z51,z52,z53,z54,z55,z56,z57,z58,z59,z5a,z5b,z5c,z5d,z5e,z5f,z5g,z5h,z5i,z5j,z5k,z5l,z5m,z5n,z5o,z5p,z5q,z5r,z5s,z5t,z5u,z5v,z5w,z5x,z5y,z5z,z60,z61,z62,z63,z64,z65,z66,z67,z68,z69,allV,allP,z6a,z6b,z6c,z6d,z6e,z6f,z6g,z6h,z6i,z6j,z6k,z6l,z6m,Option.map_some,Option.map_none,Option.some.injEq,reduceIte,reduceCtorEq,Nat.reduceEqDiff,Nat.reduceAdd,Nat.reduceMul,Nat.reduceLT,Nat.reduceSub,Int.reduceLT,Int.reduceLE,Int.reduceEq,Int.reduceNe,Int.reduceSub,Int.reduceAdd,Int.reduceMul,Int.reduceBEq,Int.reduceBNe,Int.reduceGT,Int.reduceGE,Nat.reduceGT,Int.reduceToNat,Int.reduceNeg,Nat.reduceLeDiff,Nat.reduceBEq,Nat.reduceBneDiff,binV,eqV,unV,oOpt,true_and,and_true,Value.cells,List.length_cons,List.length_nil,List.append_nil,List.nil_append,List.cons_append,List.drop_succ_cons,List.drop_zero,List.take_succ_cons,List.take_zero,List.take_nil,List.getElem?_cons_zero,List.getElem?_cons_succ,decide_true,decide_false,decide_eq_true_eq,decide_eq_false_iff_not,Bool.false_eq_true,Bool.true_eq_false,Bool.not_true,Bool.not_false,Bool.not_eq_true',Bool.not_eq_false',Bool.not_eq_true,Bool.not_eq_false,false_implies,true_implies,beq_iff_eq,beq_eq_false_iff_ne,bne_iff_ne,bne_eq_false_iff_eq,ne_eq,ge_iff_le,gt_iff_lt,Int.not_lt,Int.not_le,not_true_eq_false,not_false_eq_true,if_true,if_false,z6n,z6o,z6p,z6q,Heap.set_set,z6r,z6s,z6t,z6u,z6v,z6w,List.getElem_cons_zero,List.getElem_cons_succ,List.set_cons_zero,List.set_cons_succ,List.length_set,List.all_cons,List.all_nil,Bool.and_true,Bool.true_and,Bool.and_self,Nat.add_zero,Nat.zero_add,Nat.zero_lt_succ,Int.cast_ofNat_Int,List.size_toArray,List.flatten_replicate_singleton,Nat.mul_one,Nat.le_refl,Nat.lt_irrefl,Nat.le_add_left, hi1, hi2, z0, z1, z2, Int.toNat_natCast, k, a0, a1, b0, b1, hw]
    all_goals exact yes (by omega)
  · have hi1 : ¬ (i : Int) < L.length := by omega
    have : i = L.length := by omega
    subst this
    simp -implicitDefEqProofs only [z00,z01,z02,z03,z04,z05,z06,z07,z08,z09,z0a,z0b,z0c,z0d,z0e,z0f,z0g,z0h,z0i,z0j,z0k,z0l,z0m,z0n,retO,retL,retV,z0o,z0p,z0q,z0r,z0s,z0t,z0u,z0v,z0w,z0x,z0y,z0z,z10,z11,z12,z13,z14,z15,z16,z17,z18,z19,z1a,z1b,z1c,z1d,z1e,z1f,z1g,z1h,z1i,z1j,z1k,z1l,z1m,z1n,z1o,z1p,z1q,z1r,z1s,z1t,z1u,z1v,z1w,z1x,z1y,z1z,z20,z21,z22,z23,z24,z25,z26,z27,z28,z29,z2a,z2b,z2c,z2d,z2e,z2f,z2g,z2h,z2i,z2j,z2k,z2l,z2m,z2n,z2o,z2p,z2q,z2r,z2s,z2t,z2u,z2v,z2w,z2x,z2y,z2z,z30,z31,z32,z33,z34,z35,z36,z37,z38,z39,z3a,z3b,z3c,z3d,z3e,z3f,z3g,z3h,z3i,z3j,z3k,z3l,z3m,z3n,z3o,z3p,z3q,z3r,z3s,z3t,z3u,z3v,z3w,z3x,z3y,z3z,z40,z41,z42,z43,z44,z45,z46,z47,z48,z49,z4a,z4b,z4c,z4d,z4e,z4f,z4g,z4h,z4i,z4j,z4k,z4l,z4m,z4n,z4o,z4p,z4q,z4r,z4s,z4t,z4u,z4v,z4w,z4x,z4y,z4z,z50,z51,z52,z53,z54,z55,z56,z57,z58,z59,z5a,z5b,z5c,z5d,z5e,z5f,z5g,z5h,z5i,z5j,z5k,z5l,z5m,z5n,z5o,z5p,z5q,z5r,z5s,z5t,z5u,z5v,z5w,z5x,z5y,z5z,z60,z61,z62,z63,z64,z65,z66,z67,z68,z69,allV,allP,z6a,z6b,z6c,z6d,z6e,z6f,z6g,z6h,z6i,z6j,z6k,z6l,z6m,Option.map_some,Option.map_none,Option.some.injEq,reduceIte,reduceCtorEq,Nat.reduceEqDiff,Nat.reduceAdd,Nat.reduceMul,Nat.reduceLT,Nat.reduceSub,Int.reduceLT,Int.reduceLE,Int.reduceEq,Int.reduceNe,Int.reduceSub,Int.reduceAdd,Int.reduceMul,Int.reduceBEq,Int.reduceBNe,Int.reduceGT,Int.reduceGE,Nat.reduceGT,Int.reduceToNat,Int.reduceNeg,Nat.reduceLeDiff,Nat.reduceBEq,Nat.reduceBneDiff,binV,eqV,unV,oOpt,true_and,and_true,Value.cells,List.length_cons,List.length_nil,List.append_nil,List.nil_append,List.cons_append,List.drop_succ_cons,List.drop_zero,List.take_succ_cons,List.take_zero,List.take_nil,List.getElem?_cons_zero,List.getElem?_cons_succ,decide_true,decide_false,decide_eq_true_eq,decide_eq_false_iff_not,Bool.false_eq_true,Bool.true_eq_false,Bool.not_true,Bool.not_false,Bool.not_eq_true',Bool.not_eq_false',Bool.not_eq_true,Bool.not_eq_false,false_implies,true_implies,beq_iff_eq,beq_eq_false_iff_ne,bne_iff_ne,bne_eq_false_iff_eq,ne_eq,ge_iff_le,gt_iff_lt,Int.not_lt,Int.not_le,not_true_eq_false,not_false_eq_true,if_true,if_false,z6n,z6o,z6p,z6q,Heap.set_set,z6r,z6s,z6t,z6u,z6v,z6w,List.getElem_cons_zero,List.getElem_cons_succ,List.set_cons_zero,List.set_cons_succ,List.length_set,List.all_cons,List.all_nil,Bool.and_true,Bool.true_and,Bool.and_self,Nat.add_zero,Nat.zero_add,Nat.zero_lt_succ,Int.cast_ofNat_Int,List.size_toArray,List.flatten_replicate_singleton,Nat.mul_one,Nat.le_refl,Nat.lt_irrefl,Nat.le_add_left, hi1]
    have : goodT L = decide ((L.length : Int) ≤ 500) := by
      by_cases h5 : L.length ≤ 500
      · rw [decide_eq_true (by omega), goodT_true]
        exact ⟨fun j hj => hok j hj hj, h5⟩
      · rw [decide_eq_false (by omega), goodT_false]
        exact fun hg => h5 hg.2
    rw [this]
end Go.Bb
