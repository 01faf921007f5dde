/- My contracts: BbCknow3 BbPknow. -/
import Derived.Test.YtgoifophjcbpaaaBbM1
/- Contracts of the package know: a step. -/
namespace Go.Bb
set_option linter.unusedSimpArgs false
set_option linter.unusedVariables false
set_option maxRecDepth 20000

theorem Heap.leB_new {h h' : Heap} {k b : Nat} (x : h.leB h' k) (hb : h b = none) (y : Blk) : h.leB (h'.set b y) k := by
  intro c z hc hz
  rw [Heap.set_ne (ne_of_none hb hz)]; exact x c z hc hz
theorem Heap.leB_of_new {h h' : Heap} {k b : Nat} (hb : h b = none) (y : Blk) (x : (h.set b y).leB h' k) : h.leB h' k := by
  intro c z hc hz
  exact x c z hc (by rw [Heap.set_ne (ne_of_none hb hz)]; exact hz)

theorem know_step_c (E : EnvT tab) {h : Heap} {bk bf bn : Nat} {vt : Value} {L : List Th} {ks : List Bool} (hg : GoodT L) (p : Knw h bk bf bn vt L ks) (s : Sl h 4 vt L.length (L.flatMap Th.cells)) {i : Nat} (hi : i < L.length) :
    ACallN E.toEnv n_know_knower_step [.pointer (some ⟨bk, 0, none⟩), .int .i64 i] h fun v h' => h.leB h' bn ∧ Knw h' bk bf bn vt L (stepF L ks L[i] i).1 ∧ v = .bool (stepF L ks L[i] i).2 := by
  obtain ⟨b, o, c, rfl, hc, hcl⟩ := s.at cells_len i hi (by omega)
  have hi1 : (i : Int) < L.length := by omega
  have hi2 : (0 : Int) ≤ i := by omega
  have hi3 := hcl h (Heap.le_refl _)
  have hx := hg.1 i hi
  have c0 : hcell h ⟨bk, 0, none⟩ = _ := hcell_at (off := 0) p.k (by simp)
  clear hcl s
  generalize L[i] = x at hi3 hx
  unfold Th.cells at hi3
  refine acall h_know_knower_step ir_know_knower_step rfl rfl (wpA_sound ?_)
  unfold ir_know_knower_step
  simp -implicitDefEqProofs only [z00,z01,z02,z03,z04,z05,z06,z07,z08,z09,z0a,z0b,z0c,z0d,z0e,z0f,z0g,z0h,z0i,z0j,z0k,z0l,z0m,z0n,retO,retL,retV,z0o,z0p,z0q,z0r,z0s,z0t,z0u,z0v,z0w,z0x,z0y,z0z,z10,z11,z12,z13,z14,z15,z16,z17,z18,z19,z1a,z1b,z1c,z1d,z1e,z1f,z1g,z1h,z1i,z1j,z1k,z1l,z1m,z1n,z1o,z1p,z1q,z1r,z1s,z1t,z1u,z1v,z1w,z1x,z1y,z1z,z20,z21,z22,z23,z24,z25,z26,z27,z28,z29,z2a,z2b,z2c,z2d,z2e,z2f,z2g,z2h,z2i,z2j,z2k,z2l,z2m,z2n,z2o,z2p,z2q,z2r,z2s,z2t,z2u,z2v,z2w,z2x,z2y,z2z,z30,z31,z32,z33,z34,z35,z36,z37,z38,z39,z3a,z3b,z3c,z3d,z3e,z3f,z3g,z3h,z3i,z3j,z3k,z3l,z3m,z3n,z3o,z3p,z3q,z3r,z3s,z3t,z3u,z3v,z3w,z3x,z3y,z3z,z40,z41,z42,z43,z44,z45,z46,z47,z48,z49,z4a,z4b,z4c,z4d,z4e,z4f,z4g,z4h,z4i,z4j,z4k,z4l,z4m,z4n,z4o,z4p,z4q,z4r,z4s,z4t,z4u,z4v,z4w,z4x,z4y,z4z,z50,z51,z52,z53,z54,z55,z56,z57,z58,z59,z5a,z5b,z5c,z5d,z5e,z5f,z5g,z5h,z5i,z5j,z5k,z5l,z5m,z5n,z5o,z5p,z5q,z5r,z5s,z5t,z5u,z5v,z5w,z5x,z5y,z5z,z60,z61,z62,z63,z64,z65,z66,z67,z68,z69,allV,allP,z6a,z6b,z6c,z6d,z6e,z6f,z6g,z6h,z6i,z6j,z6k,z6l,z6m,Option.map_some,Option.map_none,Option.some.injEq,reduceIte,reduceCtorEq,Nat.reduceEqDiff,Nat.reduceAdd,Nat.reduceMul,Nat.reduceLT,Nat.reduceSub,Int.reduceLT,Int.reduceLE,Int.reduceEq,Int.reduceNe,Int.reduceSub,Int.reduceAdd,Int.reduceMul,Int.reduceBEq,Int.reduceBNe,Int.reduceGT,Int.reduceGE,Nat.reduceGT,Int.reduceToNat,Int.reduceNeg,Nat.reduceLeDiff,Nat.reduceBEq,Nat.reduceBneDiff,binV,eqV,unV,oOpt,true_and,and_true,Value.cells,List.length_cons,List.length_nil,List.append_nil,List.nil_append,List.cons_append,List.drop_succ_cons,List.drop_zero,List.take_succ_cons,List.take_zero,List.take_nil,List.getElem?_cons_zero,List.getElem?_cons_succ,decide_true,decide_false,decide_eq_true_eq,decide_eq_false_iff_not,Bool.false_eq_true,Bool.true_eq_false,Bool.not_true,Bool.not_false,Bool.not_eq_true',Bool.not_eq_false',Bool.not_eq_true,Bool.not_eq_false,false_implies,true_implies,beq_iff_eq,beq_eq_false_iff_ne,bne_iff_ne,bne_eq_false_iff_eq,ne_eq,ge_iff_le,gt_iff_lt,Int.not_lt,Int.not_le,not_true_eq_false,not_false_eq_true,if_true,if_false,z6n,z6o,z6p,z6q,Heap.set_set,z6r,z6s,z6t,z6u,z6v,z6w,List.getElem_cons_zero,List.getElem_cons_succ,List.set_cons_zero,List.set_cons_succ,List.length_set,List.all_cons,List.all_nil,Bool.and_true,Bool.true_and,Bool.and_self,Nat.add_zero,Nat.zero_add,Nat.zero_lt_succ,Int.cast_ofNat_Int,List.size_toArray,List.flatten_replicate_singleton,Nat.mul_one,Nat.le_refl,Nat.lt_irrefl,Nat.le_add_left, hi1, hi2, hi3, Int.toNat_natCast, c0]
  intro b1 hb1
  have p1 : Knw (h.set b1 (.own 0 [.int .i64 x.k, .int .i64 x.a, .int .i64 x.b, .int .i64 x.n] 4)) bk bf bn _ L ks := p.le (Heap.le_set (Heap.le_refl _) hb1 _)
  have nb : b1 ≠ bn := Ne.symm (ne_of_none hb1 p.n)
  have q1 : (h.set b1 (.own 0 [.int .i64 x.k, .int .i64 x.a, .int .i64 x.b, .int .i64 x.n] 4)) b1 = _ := Heap.set_self h b1 _
  have back : ∀ H', (h.set b1 (.own 0 [.int .i64 x.k, .int .i64 x.a, .int .i64 x.b, .int .i64 x.n] 4)).leB H' bn → h.leB H' bn := fun H' x => Heap.leB_of_new hb1 _ x
  generalize (h.set b1 (.own 0 [.int .i64 x.k, .int .i64 x.a, .int .i64 x.b, .int .i64 x.n] 4)) = H1 at p1 q1 back
  -- what the box tells as long as it stands
  have box : ∀ H, H b1 = some (.own 0 [.int .i64 x.k, .int .i64 x.a, .int .i64 x.b, .int .i64 x.n] 4) →
      hcell H ⟨b1, 0, none⟩ = some (.int .i64 x.k) ∧ hcell H ⟨b1, 1, none⟩ = some (.int .i64 x.a) ∧ hcell H ⟨b1, 2, none⟩ = some (.int .i64 x.b) := fun H hH =>
    ⟨hcell_at (off := 0) hH (by simp), hcell_at (off := 1) hH (by simp), hcell_at (off := 2) hH (by simp)⟩
  obtain ⟨x0, x1, x2⟩ := box H1 q1
  have inA : x.k = 2 ∨ x.k = 3 ∨ x.k = 4 → ∃ a : Nat, x.a = a ∧ a < L.length := by
    intro hk
    have : belowB x.a i = true := by
      unfold Th.ok at hx
      rcases hk with k | k | k <;> simp only [k, Int.reduceEq, if_true, if_false, Bool.and_eq_true] at hx
      · exact hx.1
      · exact hx.1
      · exact hx
    simp only [belowB, Bool.and_eq_true, decide_eq_true_eq] at this
    exact ⟨x.a.toNat, by omega, by omega⟩
  have inB : x.k = 2 ∨ x.k = 3 → ∃ a : Nat, x.b = a ∧ a < L.length := by
    intro hk
    have : belowB x.b i = true := by
      unfold Th.ok at hx
      rcases hk with k | k <;> simp only [k, Int.reduceEq, if_true, if_false, Bool.and_eq_true] at hx
      · exact hx.2
      · exact hx.2
    simp only [belowB, Bool.and_eq_true, decide_eq_true_eq] at this
    exact ⟨x.b.toNat, by omega, by omega⟩
  have four : x.k ≠ 1 → x.k ≠ 2 → x.k ≠ 3 → x.k = 4 := by
    intro k1 k2 k3
    unfold Th.ok at hx
    rw [if_neg k1, if_neg k2, if_neg k3] at hx
    split at hx
    · assumption
    · cases hx
  refine (know_has_c E p1 hi).mono ?_
  rintro v h' ⟨rfl, rfl⟩
  cases hH : hasF L ks i with
  | true =>
    by_cases k2 : x.k = 2
    · obtain ⟨a, ea, la⟩ := inA (.inl k2)
      obtain ⟨d, eb, lb⟩ := inB (.inl k2)
      simp -implicitDefEqProofs only [z00,z01,z02,z03,z04,z05,z06,z07,z08,z09,z0a,z0b,z0c,z0d,z0e,z0f,z0g,z0h,z0i,z0j,z0k,z0l,z0m,z0n,retO,retL,retV,z0o,z0p,z0q,z0r,z0s,z0t,z0u,z0v,z0w,z0x,z0y,z0z,z10,z11,z12,z13,z14,z15,z16,z17,z18,z19,z1a,z1b,z1c,z1d,z1e,z1f,z1g,z1h,z1i,z1j,z1k,z1l,z1m,z1n,z1o,z1p,z1q,z1r,z1s,z1t,z1u,z1v,z1w,z1x,z1y,z1z,z20,z21,z22,z23,z24,z25,z26,z27,z28,z29,z2a,z2b,z2c,z2d,z2e,z2f,z2g,z2h,z2i,z2j,z2k,z2l,z2m,z2n,z2o,z2p,z2q,z2r,z2s,z2t,z2u,z2v,z2w,z2x,z2y,z2z,z30,z31,z32,z33,z34,z35,z36,z37,z38,z39,z3a,z3b,z3c,z3d,z3e,z3f,z3g,z3h,z3i,z3j,z3k,z3l,z3m,z3n,z3o,z3p,z3q,z3r,z3s,z3t,z3u,z3v,z3w,z3x,z3y,z3z,z40,z41,z42,z43,z44,z45,z46,z47,z48,z49,z4a,z4b,z4c,z4d,z4e,z4f,z4g,z4h,z4i,z4j,z4k,z4l,z4m,z4n,z4o,z4p,z4q,z4r,z4s,z4t,z4u,z4v,z4w,z4x,z4y,z4z,z50,z51,z52,z53,z54,z55,z56,z57,z58,z59,z5a,z5b,z5c,z5d,z5e,z5f,z5g,z5h,z5i,z5j,z5k,z5l,z5m,z5n,z5o,z5p,z5q,z5r,z5s,z5t,z5u,z5v,z5w,z5x,z5y,z5z,z60,z61,z62,z63,z64,z65,z66,z67,z68,z69,allV,allP,z6a,z6b,z6c,z6d,z6e,z6f,z6g,z6h,z6i,z6j,z6k,z6l,z6m,Option.map_some,Option.map_none,Option.some.injEq,reduceIte,reduceCtorEq,Nat.reduceEqDiff,Nat.reduceAdd,Nat.reduceMul,Nat.reduceLT,Nat.reduceSub,Int.reduceLT,Int.reduceLE,Int.reduceEq,Int.reduceNe,Int.reduceSub,Int.reduceAdd,Int.reduceMul,Int.reduceBEq,Int.reduceBNe,Int.reduceGT,Int.reduceGE,Nat.reduceGT,Int.reduceToNat,Int.reduceNeg,Nat.reduceLeDiff,Nat.reduceBEq,Nat.reduceBneDiff,binV,eqV,unV,oOpt,true_and,and_true,Value.cells,List.length_cons,List.length_nil,List.append_nil,List.nil_append,List.cons_append,List.drop_succ_cons,List.drop_zero,List.take_succ_cons,List.take_zero,List.take_nil,List.getElem?_cons_zero,List.getElem?_cons_succ,decide_true,decide_false,decide_eq_true_eq,decide_eq_false_iff_not,Bool.false_eq_true,Bool.true_eq_false,Bool.not_true,Bool.not_false,Bool.not_eq_true',Bool.not_eq_false',Bool.not_eq_true,Bool.not_eq_false,false_implies,true_implies,beq_iff_eq,beq_eq_false_iff_ne,bne_iff_ne,bne_eq_false_iff_eq,ne_eq,ge_iff_le,gt_iff_lt,Int.not_lt,Int.not_le,not_true_eq_false,not_false_eq_true,if_true,if_false,z6n,z6o,z6p,z6q,Heap.set_set,z6r,z6s,z6t,z6u,z6v,z6w,List.getElem_cons_zero,List.getElem_cons_succ,List.set_cons_zero,List.set_cons_succ,List.length_set,List.all_cons,List.all_nil,Bool.and_true,Bool.true_and,Bool.and_self,Nat.add_zero,Nat.zero_add,Nat.zero_lt_succ,Int.cast_ofNat_Int,List.size_toArray,List.flatten_replicate_singleton,Nat.mul_one,Nat.le_refl,Nat.lt_irrefl,Nat.le_add_left, x0, x1, k2, ea]
      refine (know_learn_c E p1 la).mono ?_
      rintro v H2 ⟨le2, p2, rfl⟩
      obtain ⟨_, _, y2⟩ := box H2 (le2 _ _ nb q1)
      simp -implicitDefEqProofs only [z00,z01,z02,z03,z04,z05,z06,z07,z08,z09,z0a,z0b,z0c,z0d,z0e,z0f,z0g,z0h,z0i,z0j,z0k,z0l,z0m,z0n,retO,retL,retV,z0o,z0p,z0q,z0r,z0s,z0t,z0u,z0v,z0w,z0x,z0y,z0z,z10,z11,z12,z13,z14,z15,z16,z17,z18,z19,z1a,z1b,z1c,z1d,z1e,z1f,z1g,z1h,z1i,z1j,z1k,z1l,z1m,z1n,z1o,z1p,z1q,z1r,z1s,z1t,z1u,z1v,z1w,z1x,z1y,z1z,z20,z21,z22,z23,z24,z25,z26,z27,z28,z29,z2a,z2b,z2c,z2d,z2e,z2f,z2g,z2h,z2i,z2j,z2k,z2l,z2m,z2n,z2o,z2p,z2q,z2r,z2s,z2t,z2u,z2v,z2w,z2x,z2y,z2z,z30,z31,z32,z33,z34,z35,z36,z37,z38,z39,z3a,z3b,z3c,z3d,z3e,z3f,z3g,z3h,z3i,z3j,z3k,z3l,z3m,z3n,z3o,z3p,z3q,z3r,z3s,z3t,z3u,z3v,z3w,z3x,z3y,z3z,z40,z41,z42,z43,z44,z45,z46,z47,z48,z49,z4a,z4b,z4c,z4d,z4e,z4f,z4g,z4h,z4i,z4j,z4k,z4l,z4m,z4n,z4o,z4p,z4q,z4r,z4s,z4t,z4u,z4v,z4w,z4x,z4y,z4z,z50,z51,z52,z53,z54,z55,z56,z57,z58,z59,z5a,z5b,z5c,z5d,z5e,z5f,z5g,z5h,z5i,z5j,z5k,z5l,z5m,z5n,z5o,z5p,z5q,z5r,z5s,z5t,z5u,z5v,z5w,z5x,z5y,z5z,z60,z61,z62,z63,z64,z65,z66,z67,z68,z69,allV,allP,z6a,z6b,z6c,z6d,z6e,z6f,z6g,z6h,z6i,z6j,z6k,z6l,z6m,Option.map_some,Option.map_none,Option.some.injEq,reduceIte,reduceCtorEq,Nat.reduceEqDiff,Nat.reduceAdd,Nat.reduceMul,Nat.reduceLT,Nat.reduceSub,Int.reduceLT,Int.reduceLE,Int.reduceEq,Int.reduceNe,Int.reduceSub,Int.reduceAdd,Int.reduceMul,Int.reduceBEq,Int.reduceBNe,Int.reduceGT,Int.reduceGE,Nat.reduceGT,Int.reduceToNat,Int.reduceNeg,Nat.reduceLeDiff,Nat.reduceBEq,Nat.reduceBneDiff,binV,eqV,unV,oOpt,true_and,and_true,Value.cells,List.length_cons,List.length_nil,List.append_nil,List.nil_append,List.cons_append,List.drop_succ_cons,List.drop_zero,List.take_succ_cons,List.take_zero,List.take_nil,List.getElem?_cons_zero,List.getElem?_cons_succ,decide_true,decide_false,decide_eq_true_eq,decide_eq_false_iff_not,Bool.false_eq_true,Bool.true_eq_false,Bool.not_true,Bool.not_false,Bool.not_eq_true',Bool.not_eq_false',Bool.not_eq_true,Bool.not_eq_false,false_implies,true_implies,beq_iff_eq,beq_eq_false_iff_ne,bne_iff_ne,bne_eq_false_iff_eq,ne_eq,ge_iff_le,gt_iff_lt,Int.not_lt,Int.not_le,not_true_eq_false,not_false_eq_true,if_true,if_false,z6n,z6o,z6p,z6q,Heap.set_set,z6r,z6s,z6t,z6u,z6v,z6w,List.getElem_cons_zero,List.getElem_cons_succ,List.set_cons_zero,List.set_cons_succ,List.length_set,List.all_cons,List.all_nil,Bool.and_true,Bool.true_and,Bool.and_self,Nat.add_zero,Nat.zero_add,Nat.zero_lt_succ,Int.cast_ofNat_Int,List.size_toArray,List.flatten_replicate_singleton,Nat.mul_one,Nat.le_refl,Nat.lt_irrefl,Nat.le_add_left, x2, y2, eb, List.mem_singleton, forall_eq]
      refine (know_learn_c E p2 lb).mono ?_
      rintro v H3 ⟨le3, p3, rfl⟩
      have fin : stepF L ks x i = (learnF L (learnF L ks a) d, !hasF L ks a || !hasF L (learnF L ks a) d) := by
        unfold stepF; rw [hH, if_pos rfl, if_pos k2, ea, eb]; rfl
      rw [fin]
      cases hA : hasF L ks a with
      | false => simp -implicitDefEqProofs only [z00,z01,z02,z03,z04,z05,z06,z07,z08,z09,z0a,z0b,z0c,z0d,z0e,z0f,z0g,z0h,z0i,z0j,z0k,z0l,z0m,z0n,retO,retL,retV,z0o,z0p,z0q,z0r,z0s,z0t,z0u,z0v,z0w,z0x,z0y,z0z,z10,z11,z12,z13,z14,z15,z16,z17,z18,z19,z1a,z1b,z1c,z1d,z1e,z1f,z1g,z1h,z1i,z1j,z1k,z1l,z1m,z1n,z1o,z1p,z1q,z1r,z1s,z1t,z1u,z1v,z1w,z1x,z1y,z1z,z20,z21,z22,z23,z24,z25,z26,z27,z28,z29,z2a,z2b,z2c,z2d,z2e,z2f,z2g,z2h,z2i,z2j,z2k,z2l,z2m,z2n,z2o,z2p,z2q,z2r,z2s,z2t,z2u,z2v,z2w,z2x,z2y,z2z,z30,z31,z32,z33,z34,z35,z36,z37,z38,z39,z3a,z3b,z3c,z3d,z3e,z3f,z3g,z3h,z3i,z3j,z3k,z3l,z3m,z3n,z3o,z3p,z3q,z3r,z3s,z3t,z3u,z3v,z3w,z3x,z3y,z3z,z40,z41,z42,z43,z44,z45,z46,z47,z48,z49,z4a,z4b,z4c,z4d,z4e,z4f,z4g,z4h,z4i,z4j,z4k,z4l,z4m,z4n,z4o,z4p,z4q,z4r,z4s,z4t,z4u,z4v,z4w,z4x,z4y,z4z,z50,z51,z52,z53,z54,z55,z56,z57,z58,z59,z5a,z5b,z5c,z5d,z5e,z5f,z5g,z5h,z5i,z5j,z5k,z5l,z5m,z5n,z5o,z5p,z5q,z5r,z5s,z5t,z5u,z5v,z5w,z5x,z5y,z5z,z60,z61,z62,z63,z64,z65,z66,z67,z68,z69,allV,allP,z6a,z6b,z6c,z6d,z6e,z6f,z6g,z6h,z6i,z6j,z6k,z6l,z6m,Option.map_some,Option.map_none,Option.some.injEq,reduceIte,reduceCtorEq,Nat.reduceEqDiff,Nat.reduceAdd,Nat.reduceMul,Nat.reduceLT,Nat.reduceSub,Int.reduceLT,Int.reduceLE,Int.reduceEq,Int.reduceNe,Int.reduceSub,Int.reduceAdd,Int.reduceMul,Int.reduceBEq,Int.reduceBNe,Int.reduceGT,Int.reduceGE,Nat.reduceGT,Int.reduceToNat,Int.reduceNeg,Nat.reduceLeDiff,Nat.reduceBEq,Nat.reduceBneDiff,binV,eqV,unV,oOpt,true_and,and_true,Value.cells,List.length_cons,List.length_nil,List.append_nil,List.nil_append,List.cons_append,List.drop_succ_cons,List.drop_zero,List.take_succ_cons,List.take_zero,List.take_nil,List.getElem?_cons_zero,List.getElem?_cons_succ,decide_true,decide_false,decide_eq_true_eq,decide_eq_false_iff_not,Bool.false_eq_true,Bool.true_eq_false,Bool.not_true,Bool.not_false,Bool.not_eq_true',Bool.not_eq_false',Bool.not_eq_true,Bool.not_eq_false,false_implies,true_implies,beq_iff_eq,beq_eq_false_iff_ne,bne_iff_ne,bne_eq_false_iff_eq,ne_eq,ge_iff_le,gt_iff_lt,Int.not_lt,Int.not_le,not_true_eq_false,not_false_eq_true,if_true,if_false,z6n,z6o,z6p,z6q,Heap.set_set,z6r,z6s,z6t,z6u,z6v,z6w,List.getElem_cons_zero,List.getElem_cons_succ,List.set_cons_zero,List.set_cons_succ,List.length_set,List.all_cons,List.all_nil,Bool.and_true,Bool.true_and,Bool.and_self,Nat.add_zero,Nat.zero_add,Nat.zero_lt_succ,Int.cast_ofNat_Int,List.size_toArray,List.flatten_replicate_singleton,Nat.mul_one,Nat.le_refl,Nat.lt_irrefl,Nat.le_add_left]; exact ⟨back _ (Heap.leB_trans le2 le3), p3, by simp⟩
      | true => simp -implicitDefEqProofs only [z00,z01,z02,z03,z04,z05,z06,z07,z08,z09,z0a,z0b,z0c,z0d,z0e,z0f,z0g,z0h,z0i,z0j,z0k,z0l,z0m,z0n,retO,retL,retV,z0o,z0p,z0q,z0r,z0s,z0t,z0u,z0v,z0w,z0x,z0y,z0z,z10,z11,z12,z13,z14,z15,z16,z17,z18,z19,z1a,z1b,z1c,z1d,z1e,z1f,z1g,z1h,z1i,z1j,z1k,z1l,z1m,z1n,z1o,z1p,z1q,z1r,z1s,z1t,z1u,z1v,z1w,z1x,z1y,z1z,z20,z21,z22,z23,z24,z25,z26,z27,z28,z29,z2a,z2b,z2c,z2d,z2e,z2f,z2g,z2h,z2i,z2j,z2k,z2l,z2m,z2n,z2o,z2p,z2q,z2r,z2s,z2t,z2u,z2v,z2w,z2x,z2y,z2z,z30,z31,z32,z33,z34,z35,z36,z37,z38,z39,z3a,z3b,z3c,z3d,z3e,z3f,z3g,z3h,z3i,z3j,z3k,z3l,z3m,z3n,z3o,z3p,z3q,z3r,z3s,z3t,z3u,z3v,z3w,z3x,z3y,z3z,z40,z41,z42,z43,z44,z45,z46,z47,z48,z49,z4a,z4b,z4c,z4d,z4e,z4f,z4g,z4h,z4i,z4j,z4k,z4l,z4m,z4n,z4o,z4p,z4q,z4r,z4s,z4t,z4u,z4v,z4w,z4x,z4y,z4z,z50,z51,z52,z53,z54,z55,z56,z57,z58,z59,z5a,z5b,z5c,z5d,z5e,z5f,z5g,z5h,z5i,z5j,z5k,z5l,z5m,z5n,z5o,z5p,z5q,z5r,z5s,z5t,z5u,z5v,z5w,z5x,z5y,z5z,z60,z61,z62,z63,z64,z65,z66,z67,z68,z69,allV,allP,z6a,z6b,z6c,z6d,z6e,z6f,z6g,z6h,z6i,z6j,z6k,z6l,z6m,Option.map_some,Option.map_none,Option.some.injEq,reduceIte,reduceCtorEq,Nat.reduceEqDiff,Nat.reduceAdd,Nat.reduceMul,Nat.reduceLT,Nat.reduceSub,Int.reduceLT,Int.reduceLE,Int.reduceEq,Int.reduceNe,Int.reduceSub,Int.reduceAdd,Int.reduceMul,Int.reduceBEq,Int.reduceBNe,Int.reduceGT,Int.reduceGE,Nat.reduceGT,Int.reduceToNat,Int.reduceNeg,Nat.reduceLeDiff,Nat.reduceBEq,Nat.reduceBneDiff,binV,eqV,unV,oOpt,true_and,and_true,Value.cells,List.length_cons,List.length_nil,List.append_nil,List.nil_append,List.cons_append,List.drop_succ_cons,List.drop_zero,List.take_succ_cons,List.take_zero,List.take_nil,List.getElem?_cons_zero,List.getElem?_cons_succ,decide_true,decide_false,decide_eq_true_eq,decide_eq_false_iff_not,Bool.false_eq_true,Bool.true_eq_false,Bool.not_true,Bool.not_false,Bool.not_eq_true',Bool.not_eq_false',Bool.not_eq_true,Bool.not_eq_false,false_implies,true_implies,beq_iff_eq,beq_eq_false_iff_ne,bne_iff_ne,bne_eq_false_iff_eq,ne_eq,ge_iff_le,gt_iff_lt,Int.not_lt,Int.not_le,not_true_eq_false,not_false_eq_true,if_true,if_false,z6n,z6o,z6p,z6q,Heap.set_set,z6r,z6s,z6t,z6u,z6v,z6w,List.getElem_cons_zero,List.getElem_cons_succ,List.set_cons_zero,List.set_cons_succ,List.length_set,List.all_cons,List.all_nil,Bool.and_true,Bool.true_and,Bool.and_self,Nat.add_zero,Nat.zero_add,Nat.zero_lt_succ,Int.cast_ofNat_Int,List.size_toArray,List.flatten_replicate_singleton,Nat.mul_one,Nat.le_refl,Nat.lt_irrefl,Nat.le_add_left]; exact ⟨back _ (Heap.leB_trans le2 le3), p3, by simp⟩
    · by_cases k3 : x.k = 3
      · obtain ⟨a, ea, la⟩ := inA (.inr (.inl k3))
        obtain ⟨d, eb, lb⟩ := inB (.inr k3)
        simp -implicitDefEqProofs only [z00,z01,z02,z03,z04,z05,z06,z07,z08,z09,z0a,z0b,z0c,z0d,z0e,z0f,z0g,z0h,z0i,z0j,z0k,z0l,z0m,z0n,retO,retL,retV,z0o,z0p,z0q,z0r,z0s,z0t,z0u,z0v,z0w,z0x,z0y,z0z,z10,z11,z12,z13,z14,z15,z16,z17,z18,z19,z1a,z1b,z1c,z1d,z1e,z1f,z1g,z1h,z1i,z1j,z1k,z1l,z1m,z1n,z1o,z1p,z1q,z1r,z1s,z1t,z1u,z1v,z1w,z1x,z1y,z1z,z20,z21,z22,z23,z24,z25,z26,z27,z28,z29,z2a,z2b,z2c,z2d,z2e,z2f,z2g,z2h,z2i,z2j,z2k,z2l,z2m,z2n,z2o,z2p,z2q,z2r,z2s,z2t,z2u,z2v,z2w,z2x,z2y,z2z,z30,z31,z32,z33,z34,z35,z36,z37,z38,z39,z3a,z3b,z3c,z3d,z3e,z3f,z3g,z3h,z3i,z3j,z3k,z3l,z3m,z3n,z3o,z3p,z3q,z3r,z3s,z3t,z3u,z3v,z3w,z3x,z3y,z3z,z40,z41,z42,z43,z44,z45,z46,z47,z48,z49,z4a,z4b,z4c,z4d,z4e,z4f,z4g,z4h,z4i,z4j,z4k,z4l,z4m,z4n,z4o,z4p,z4q,z4r,z4s,z4t,z4u,z4v,z4w,z4x,z4y,z4z,z50,z51,z52,z53,z54,z55,z56,z57,z58,z59,z5a,z5b,z5c,z5d,z5e,z5f,z5g,z5h,z5i,z5j,z5k,z5l,z5m,z5n,z5o,z5p,z5q,z5r,z5s,z5t,z5u,z5v,z5w,z5x,z5y,z5z,z60,z61,z62,z63,z64,z65,z66,z67,z68,z69,allV,allP,z6a,z6b,z6c,z6d,z6e,z6f,z6g,z6h,z6i,z6j,z6k,z6l,z6m,Option.map_some,Option.map_none,Option.some.injEq,reduceIte,reduceCtorEq,Nat.reduceEqDiff,Nat.reduceAdd,Nat.reduceMul,Nat.reduceLT,Nat.reduceSub,Int.reduceLT,Int.reduceLE,Int.reduceEq,Int.reduceNe,Int.reduceSub,Int.reduceAdd,Int.reduceMul,Int.reduceBEq,Int.reduceBNe,Int.reduceGT,Int.reduceGE,Nat.reduceGT,Int.reduceToNat,Int.reduceNeg,Nat.reduceLeDiff,Nat.reduceBEq,Nat.reduceBneDiff,binV,eqV,unV,oOpt,true_and,and_true,Value.cells,List.length_cons,List.length_nil,List.append_nil,List.nil_append,List.cons_append,List.drop_succ_cons,List.drop_zero,List.take_succ_cons,List.take_zero,List.take_nil,List.getElem?_cons_zero,List.getElem?_cons_succ,decide_true,decide_false,decide_eq_true_eq,decide_eq_false_iff_not,Bool.false_eq_true,Bool.true_eq_false,Bool.not_true,Bool.not_false,Bool.not_eq_true',Bool.not_eq_false',Bool.not_eq_true,Bool.not_eq_false,false_implies,true_implies,beq_iff_eq,beq_eq_false_iff_ne,bne_iff_ne,bne_eq_false_iff_eq,ne_eq,ge_iff_le,gt_iff_lt,Int.not_lt,Int.not_le,not_true_eq_false,not_false_eq_true,if_true,if_false,z6n,z6o,z6p,z6q,Heap.set_set,z6r,z6s,z6t,z6u,z6v,z6w,List.getElem_cons_zero,List.getElem_cons_succ,List.set_cons_zero,List.set_cons_succ,List.length_set,List.all_cons,List.all_nil,Bool.and_true,Bool.true_and,Bool.and_self,Nat.add_zero,Nat.zero_add,Nat.zero_lt_succ,Int.cast_ofNat_Int,List.size_toArray,List.flatten_replicate_singleton,Nat.mul_one,Nat.le_refl,Nat.lt_irrefl,Nat.le_add_left, x0, x1, k3, ea]
        refine (know_has_c E p1 la).mono ?_
        rintro v H2 ⟨rfl, rfl⟩
        cases hA : hasF L ks a with
        | true =>
          simp -implicitDefEqProofs only [z00,z01,z02,z03,z04,z05,z06,z07,z08,z09,z0a,z0b,z0c,z0d,z0e,z0f,z0g,z0h,z0i,z0j,z0k,z0l,z0m,z0n,retO,retL,retV,z0o,z0p,z0q,z0r,z0s,z0t,z0u,z0v,z0w,z0x,z0y,z0z,z10,z11,z12,z13,z14,z15,z16,z17,z18,z19,z1a,z1b,z1c,z1d,z1e,z1f,z1g,z1h,z1i,z1j,z1k,z1l,z1m,z1n,z1o,z1p,z1q,z1r,z1s,z1t,z1u,z1v,z1w,z1x,z1y,z1z,z20,z21,z22,z23,z24,z25,z26,z27,z28,z29,z2a,z2b,z2c,z2d,z2e,z2f,z2g,z2h,z2i,z2j,z2k,z2l,z2m,z2n,z2o,z2p,z2q,z2r,z2s,z2t,z2u,z2v,z2w,z2x,z2y,z2z,z30,z31,z32,z33,z34,z35,z36,z37,z38,z39,z3a,z3b,z3c,z3d,z3e,z3f,z3g,z3h,z3i,z3j,z3k,z3l,z3m,z3n,z3o,z3p,z3q,z3r,z3s,z3t,z3u,z3v,z3w,z3x,z3y,z3z,z40,z41,z42,z43,z44,z45,z46,z47,z48,z49,z4a,z4b,z4c,z4d,z4e,z4f,z4g,z4h,z4i,z4j,z4k,z4l,z4m,z4n,z4o,z4p,z4q,z4r,z4s,z4t,z4u,z4v,z4w,z4x,z4y,z4z,z50,z51,z52,z53,z54,z55,z56,z57,z58,z59,z5a,z5b,z5c,z5d,z5e,z5f,z5g,z5h,z5i,z5j,z5k,z5l,z5m,z5n,z5o,z5p,z5q,z5r,z5s,z5t,z5u,z5v,z5w,z5x,z5y,z5z,z60,z61,z62,z63,z64,z65,z66,z67,z68,z69,allV,allP,z6a,z6b,z6c,z6d,z6e,z6f,z6g,z6h,z6i,z6j,z6k,z6l,z6m,Option.map_some,Option.map_none,Option.some.injEq,reduceIte,reduceCtorEq,Nat.reduceEqDiff,Nat.reduceAdd,Nat.reduceMul,Nat.reduceLT,Nat.reduceSub,Int.reduceLT,Int.reduceLE,Int.reduceEq,Int.reduceNe,Int.reduceSub,Int.reduceAdd,Int.reduceMul,Int.reduceBEq,Int.reduceBNe,Int.reduceGT,Int.reduceGE,Nat.reduceGT,Int.reduceToNat,Int.reduceNeg,Nat.reduceLeDiff,Nat.reduceBEq,Nat.reduceBneDiff,binV,eqV,unV,oOpt,true_and,and_true,Value.cells,List.length_cons,List.length_nil,List.append_nil,List.nil_append,List.cons_append,List.drop_succ_cons,List.drop_zero,List.take_succ_cons,List.take_zero,List.take_nil,List.getElem?_cons_zero,List.getElem?_cons_succ,decide_true,decide_false,decide_eq_true_eq,decide_eq_false_iff_not,Bool.false_eq_true,Bool.true_eq_false,Bool.not_true,Bool.not_false,Bool.not_eq_true',Bool.not_eq_false',Bool.not_eq_true,Bool.not_eq_false,false_implies,true_implies,beq_iff_eq,beq_eq_false_iff_ne,bne_iff_ne,bne_eq_false_iff_eq,ne_eq,ge_iff_le,gt_iff_lt,Int.not_lt,Int.not_le,not_true_eq_false,not_false_eq_true,if_true,if_false,z6n,z6o,z6p,z6q,Heap.set_set,z6r,z6s,z6t,z6u,z6v,z6w,List.getElem_cons_zero,List.getElem_cons_succ,List.set_cons_zero,List.set_cons_succ,List.length_set,List.all_cons,List.all_nil,Bool.and_true,Bool.true_and,Bool.and_self,Nat.add_zero,Nat.zero_add,Nat.zero_lt_succ,Int.cast_ofNat_Int,List.size_toArray,List.flatten_replicate_singleton,Nat.mul_one,Nat.le_refl,Nat.lt_irrefl,Nat.le_add_left, x2, eb]
          refine (know_learn_c E p1 lb).mono ?_
          rintro v H3 ⟨le3, p3, rfl⟩
          have fin : stepF L ks x i = (learnF L ks d, !hasF L ks d) := by
            unfold stepF; rw [hH, if_pos rfl, if_neg k2, ea, eb, if_pos ⟨k3, hA⟩]; rfl
          rw [fin]
          simp -implicitDefEqProofs only [z00,z01,z02,z03,z04,z05,z06,z07,z08,z09,z0a,z0b,z0c,z0d,z0e,z0f,z0g,z0h,z0i,z0j,z0k,z0l,z0m,z0n,retO,retL,retV,z0o,z0p,z0q,z0r,z0s,z0t,z0u,z0v,z0w,z0x,z0y,z0z,z10,z11,z12,z13,z14,z15,z16,z17,z18,z19,z1a,z1b,z1c,z1d,z1e,z1f,z1g,z1h,z1i,z1j,z1k,z1l,z1m,z1n,z1o,z1p,z1q,z1r,z1s,z1t,z1u,z1v,z1w,z1x,z1y,z1z,z20,z21,z22,z23,z24,z25,z26,z27,z28,z29,z2a,z2b,z2c,z2d,z2e,z2f,z2g,z2h,z2i,z2j,z2k,z2l,z2m,z2n,z2o,z2p,z2q,z2r,z2s,z2t,z2u,z2v,z2w,z2x,z2y,z2z,z30,z31,z32,z33,z34,z35,z36,z37,z38,z39,z3a,z3b,z3c,z3d,z3e,z3f,z3g,z3h,z3i,z3j,z3k,z3l,z3m,z3n,z3o,z3p,z3q,z3r,z3s,z3t,z3u,z3v,z3w,z3x,z3y,z3z,z40,z41,z42,z43,z44,z45,z46,z47,z48,z49,z4a,z4b,z4c,z4d,z4e,z4f,z4g,z4h,z4i,z4j,z4k,z4l,z4m,z4n,z4o,z4p,z4q,z4r,z4s,z4t,z4u,z4v,z4w,z4x,z4y,z4z,z50,z51,z52,z53,z54,z55,z56,z57,z58,z59,z5a,z5b,z5c,z5d,z5e,z5f,z5g,z5h,z5i,z5j,z5k,z5l,z5m,z5n,z5o,z5p,z5q,z5r,z5s,z5t,z5u,z5v,z5w,z5x,z5y,z5z,z60,z61,z62,z63,z64,z65,z66,z67,z68,z69,allV,allP,z6a,z6b,z6c,z6d,z6e,z6f,z6g,z6h,z6i,z6j,z6k,z6l,z6m,Option.map_some,Option.map_none,Option.some.injEq,reduceIte,reduceCtorEq,Nat.reduceEqDiff,Nat.reduceAdd,Nat.reduceMul,Nat.reduceLT,Nat.reduceSub,Int.reduceLT,Int.reduceLE,Int.reduceEq,Int.reduceNe,Int.reduceSub,Int.reduceAdd,Int.reduceMul,Int.reduceBEq,Int.reduceBNe,Int.reduceGT,Int.reduceGE,Nat.reduceGT,Int.reduceToNat,Int.reduceNeg,Nat.reduceLeDiff,Nat.reduceBEq,Nat.reduceBneDiff,binV,eqV,unV,oOpt,true_and,and_true,Value.cells,List.length_cons,List.length_nil,List.append_nil,List.nil_append,List.cons_append,List.drop_succ_cons,List.drop_zero,List.take_succ_cons,List.take_zero,List.take_nil,List.getElem?_cons_zero,List.getElem?_cons_succ,decide_true,decide_false,decide_eq_true_eq,decide_eq_false_iff_not,Bool.false_eq_true,Bool.true_eq_false,Bool.not_true,Bool.not_false,Bool.not_eq_true',Bool.not_eq_false',Bool.not_eq_true,Bool.not_eq_false,false_implies,true_implies,beq_iff_eq,beq_eq_false_iff_ne,bne_iff_ne,bne_eq_false_iff_eq,ne_eq,ge_iff_le,gt_iff_lt,Int.not_lt,Int.not_le,not_true_eq_false,not_false_eq_true,if_true,if_false,z6n,z6o,z6p,z6q,Heap.set_set,z6r,z6s,z6t,z6u,z6v,z6w,List.getElem_cons_zero,List.getElem_cons_succ,List.set_cons_zero,List.set_cons_succ,List.length_set,List.all_cons,List.all_nil,Bool.and_true,Bool.true_and,Bool.and_self,Nat.add_zero,Nat.zero_add,Nat.zero_lt_succ,Int.cast_ofNat_Int,List.size_toArray,List.flatten_replicate_singleton,Nat.mul_one,Nat.le_refl,Nat.lt_irrefl,Nat.le_add_left]
          exact ⟨back _ le3, p3⟩
        | false =>
          have fin : stepF L ks x i = (ks, false) := by
            unfold stepF; rw [hH, if_pos rfl, if_neg k2, ea, if_neg (by rintro ⟨_, h⟩; rw [show ((a : Int)).toNat = a from rfl, hA] at h; cases h)]
          rw [fin]
          simp -implicitDefEqProofs only [z00,z01,z02,z03,z04,z05,z06,z07,z08,z09,z0a,z0b,z0c,z0d,z0e,z0f,z0g,z0h,z0i,z0j,z0k,z0l,z0m,z0n,retO,retL,retV,z0o,z0p,z0q,z0r,z0s,z0t,z0u,z0v,z0w,z0x,z0y,z0z,z10,z11,z12,z13,z14,z15,z16,z17,z18,z19,z1a,z1b,z1c,z1d,z1e,z1f,z1g,z1h,z1i,z1j,z1k,z1l,z1m,z1n,z1o,z1p,z1q,z1r,z1s,z1t,z1u,z1v,z1w,z1x,z1y,z1z,z20,z21,z22,z23,z24,z25,z26,z27,z28,z29,z2a,z2b,z2c,z2d,z2e,z2f,z2g,z2h,z2i,z2j,z2k,z2l,z2m,z2n,z2o,z2p,z2q,z2r,z2s,z2t,z2u,z2v,z2w,z2x,z2y,z2z,z30,z31,z32,z33,z34,z35,z36,z37,z38,z39,z3a,z3b,z3c,z3d,z3e,z3f,z3g,z3h,z3i,z3j,z3k,z3l,z3m,z3n,z3o,z3p,z3q,z3r,z3s,z3t,z3u,z3v,z3w,z3x,z3y,z3z,z40,z41,z42,z43,z44,z45,z46,z47,z48,z49,z4a,z4b,z4c,z4d,z4e,z4f,z4g,z4h,z4i,z4j,z4k,z4l,z4m,z4n,z4o,z4p,z4q,z4r,z4s,z4t,z4u,z4v,z4w,z4x,z4y,z4z,z50,z51,z52,z53,z54,z55,z56,z57,z58,z59,z5a,z5b,z5c,z5d,z5e,z5f,z5g,z5h,z5i,z5j,z5k,z5l,z5m,z5n,z5o,z5p,z5q,z5r,z5s,z5t,z5u,z5v,z5w,z5x,z5y,z5z,z60,z61,z62,z63,z64,z65,z66,z67,z68,z69,allV,allP,z6a,z6b,z6c,z6d,z6e,z6f,z6g,z6h,z6i,z6j,z6k,z6l,z6m,Option.map_some,Option.map_none,Option.some.injEq,reduceIte,reduceCtorEq,Nat.reduceEqDiff,Nat.reduceAdd,Nat.reduceMul,Nat.reduceLT,Nat.reduceSub,Int.reduceLT,Int.reduceLE,Int.reduceEq,Int.reduceNe,Int.reduceSub,Int.reduceAdd,Int.reduceMul,Int.reduceBEq,Int.reduceBNe,Int.reduceGT,Int.reduceGE,Nat.reduceGT,Int.reduceToNat,Int.reduceNeg,Nat.reduceLeDiff,Nat.reduceBEq,Nat.reduceBneDiff,binV,eqV,unV,oOpt,true_and,and_true,Value.cells,List.length_cons,List.length_nil,List.append_nil,List.nil_append,List.cons_append,List.drop_succ_cons,List.drop_zero,List.take_succ_cons,List.take_zero,List.take_nil,List.getElem?_cons_zero,List.getElem?_cons_succ,decide_true,decide_false,decide_eq_true_eq,decide_eq_false_iff_not,Bool.false_eq_true,Bool.true_eq_false,Bool.not_true,Bool.not_false,Bool.not_eq_true',Bool.not_eq_false',Bool.not_eq_true,Bool.not_eq_false,false_implies,true_implies,beq_iff_eq,beq_eq_false_iff_ne,bne_iff_ne,bne_eq_false_iff_eq,ne_eq,ge_iff_le,gt_iff_lt,Int.not_lt,Int.not_le,not_true_eq_false,not_false_eq_true,if_true,if_false,z6n,z6o,z6p,z6q,Heap.set_set,z6r,z6s,z6t,z6u,z6v,z6w,List.getElem_cons_zero,List.getElem_cons_succ,List.set_cons_zero,List.set_cons_succ,List.length_set,List.all_cons,List.all_nil,Bool.and_true,Bool.true_and,Bool.and_self,Nat.add_zero,Nat.zero_add,Nat.zero_lt_succ,Int.cast_ofNat_Int,List.size_toArray,List.flatten_replicate_singleton,Nat.mul_one,Nat.le_refl,Nat.lt_irrefl,Nat.le_add_left]
          exact ⟨back _ (Heap.leB_refl _ _), p1⟩
      · have fin : stepF L ks x i = (ks, false) := by
          unfold stepF; rw [hH, if_pos rfl, if_neg k2, if_neg (fun h => k3 h.1)]
        rw [fin]
        simp -implicitDefEqProofs only [z00,z01,z02,z03,z04,z05,z06,z07,z08,z09,z0a,z0b,z0c,z0d,z0e,z0f,z0g,z0h,z0i,z0j,z0k,z0l,z0m,z0n,retO,retL,retV,z0o,z0p,z0q,z0r,z0s,z0t,z0u,z0v,z0w,z0x,z0y,z0z,z10,z11,z12,z13,z14,z15,z16,z17,z18,z19,z1a,z1b,z1c,z1d,z1e,z1f,z1g,z1h,z1i,z1j,z1k,z1l,z1m,z1n,z1o,z1p,z1q,z1r,z1s,z1t,z1u,z1v,z1w,z1x,z1y,z1z,z20,z21,z22,z23,z24,z25,z26,z27,z28,z29,z2a,z2b,z2c,z2d,z2e,z2f,z2g,z2h,z2i,z2j,z2k,z2l,z2m,z2n,z2o,z2p,z2q,z2r,z2s,z2t,z2u,z2v,z2w,z2x,z2y,z2z,z30,z31,z32,z33,z34,z35,z36,z37,z38,z39,z3a,z3b,z3c,z3d,z3e,z3f,z3g,z3h,z3i,z3j,z3k,z3l,z3m,z3n,z3o,z3p,z3q,z3r,z3s,z3t,z3u,z3v,z3w,z3x,z3y,z3z,z40,z41,z42,z43,z44,z45,z46,z47,z48,z49,z4a,z4b,z4c,z4d,z4e,z4f,z4g,z4h,z4i,z4j,z4k,z4l,z4m,z4n,z4o,z4p,z4q,z4r,z4s,z4t,z4u,z4v,z4w,z4x,z4y,z4z,z50,z51,z52,z53,z54,z55,z56,z57,z58,z59,z5a,z5b,z5c,z5d,z5e,z5f,z5g,z5h,z5i,z5j,z5k,z5l,z5m,z5n,z5o,z5p,z5q,z5r,z5s,z5t,z5u,z5v,z5w,z5x,z5y,z5z,z60,z61,z62,z63,z64,z65,z66,z67,z68,z69,allV,allP,z6a,z6b,z6c,z6d,z6e,z6f,z6g,z6h,z6i,z6j,z6k,z6l,z6m,Option.map_some,Option.map_none,Option.some.injEq,reduceIte,reduceCtorEq,Nat.reduceEqDiff,Nat.reduceAdd,Nat.reduceMul,Nat.reduceLT,Nat.reduceSub,Int.reduceLT,Int.reduceLE,Int.reduceEq,Int.reduceNe,Int.reduceSub,Int.reduceAdd,Int.reduceMul,Int.reduceBEq,Int.reduceBNe,Int.reduceGT,Int.reduceGE,Nat.reduceGT,Int.reduceToNat,Int.reduceNeg,Nat.reduceLeDiff,Nat.reduceBEq,Nat.reduceBneDiff,binV,eqV,unV,oOpt,true_and,and_true,Value.cells,List.length_cons,List.length_nil,List.append_nil,List.nil_append,List.cons_append,List.drop_succ_cons,List.drop_zero,List.take_succ_cons,List.take_zero,List.take_nil,List.getElem?_cons_zero,List.getElem?_cons_succ,decide_true,decide_false,decide_eq_true_eq,decide_eq_false_iff_not,Bool.false_eq_true,Bool.true_eq_false,Bool.not_true,Bool.not_false,Bool.not_eq_true',Bool.not_eq_false',Bool.not_eq_true,Bool.not_eq_false,false_implies,true_implies,beq_iff_eq,beq_eq_false_iff_ne,bne_iff_ne,bne_eq_false_iff_eq,ne_eq,ge_iff_le,gt_iff_lt,Int.not_lt,Int.not_le,not_true_eq_false,not_false_eq_true,if_true,if_false,z6n,z6o,z6p,z6q,Heap.set_set,z6r,z6s,z6t,z6u,z6v,z6w,List.getElem_cons_zero,List.getElem_cons_succ,List.set_cons_zero,List.set_cons_succ,List.length_set,List.all_cons,List.all_nil,Bool.and_true,Bool.true_and,Bool.and_self,Nat.add_zero,Nat.zero_add,Nat.zero_lt_succ,Int.cast_ofNat_Int,List.size_toArray,List.flatten_replicate_singleton,Nat.mul_one,Nat.le_refl,Nat.lt_irrefl,Nat.le_add_left, x0, k2, k3]
        exact ⟨back _ (Heap.leB_refl _ _), p1⟩
  | false =>
    have hH' : ¬ hasF L ks i = true := by rw [hH]; simp
    by_cases k23 : x.k = 2 ∨ x.k = 3
    · obtain ⟨a, ea, la⟩ := inA (by rcases k23 with k | k; exact .inl k; exact .inr (.inl k))
      obtain ⟨d, eb, lb⟩ := inB k23
      have all : stepF L ks x i = if hasF L ks a = true ∧ hasF L ks d = true then (learnF L ks i, true) else (ks, false) := by
        unfold stepF; rw [if_neg hH', if_pos k23, ea, eb]; rfl
      rw [all]
      rcases k23 with k | k
      all_goals
        simp -implicitDefEqProofs only [z00,z01,z02,z03,z04,z05,z06,z07,z08,z09,z0a,z0b,z0c,z0d,z0e,z0f,z0g,z0h,z0i,z0j,z0k,z0l,z0m,z0n,retO,retL,retV,z0o,z0p,z0q,z0r,z0s,z0t,z0u,z0v,z0w,z0x,z0y,z0z,z10,z11,z12,z13,z14,z15,z16,z17,z18,z19,z1a,z1b,z1c,z1d,z1e,z1f,z1g,z1h,z1i,z1j,z1k,z1l,z1m,z1n,z1o,z1p,z1q,z1r,z1s,z1t,z1u,z1v,z1w,z1x,z1y,z1z,z20,z21,z22,z23,z24,z25,z26,z27,z28,z29,z2a,z2b,z2c,z2d,z2e,z2f,z2g,z2h,z2i,z2j,z2k,z2l,z2m,z2n,z2o,z2p,z2q,z2r,z2s,z2t,z2u,z2v,z2w,z2x,z2y,z2z,z30,z31,z32,z33,z34,z35,z36,z37,z38,z39,z3a,z3b,z3c,z3d,z3e,z3f,z3g,z3h,z3i,z3j,z3k,z3l,z3m,z3n,z3o,z3p,z3q,z3r,z3s,z3t,z3u,z3v,z3w,z3x,z3y,z3z,z40,z41,z42,z43,z44,z45,z46,z47,z48,z49,z4a,z4b,z4c,z4d,z4e,z4f,z4g,z4h,z4i,z4j,z4k,z4l,z4m,z4n,z4o,z4p,z4q,z4r,z4s,z4t,z4u,z4v,z4w,z4x,z4y,z4z,z50,z51,z52,z53,z54,z55,z56,z57,z58,z59,z5a,z5b,z5c,z5d,z5e,z5f,z5g,z5h,z5i,z5j,z5k,z5l,z5m,z5n,z5o,z5p,z5q,z5r,z5s,z5t,z5u,z5v,z5w,z5x,z5y,z5z,z60,z61,z62,z63,z64,z65,z66,z67,z68,z69,allV,allP,z6a,z6b,z6c,z6d,z6e,z6f,z6g,z6h,z6i,z6j,z6k,z6l,z6m,Option.map_some,Option.map_none,Option.some.injEq,reduceIte,reduceCtorEq,Nat.reduceEqDiff,Nat.reduceAdd,Nat.reduceMul,Nat.reduceLT,Nat.reduceSub,Int.reduceLT,Int.reduceLE,Int.reduceEq,Int.reduceNe,Int.reduceSub,Int.reduceAdd,Int.reduceMul,Int.reduceBEq,Int.reduceBNe,Int.reduceGT,Int.reduceGE,Nat.reduceGT,Int.reduceToNat,Int.reduceNeg,Nat.reduceLeDiff,Nat.reduceBEq,Nat.reduceBneDiff,binV,eqV,unV,oOpt,true_and,and_true,Value.cells,List.length_cons,List.length_nil,List.append_nil,List.nil_append,List.cons_append,List.drop_succ_cons,List.drop_zero,List.take_succ_cons,List.take_zero,List.take_nil,List.getElem?_cons_zero,List.getElem?_cons_succ,decide_true,decide_false,decide_eq_true_eq,decide_eq_false_iff_not,Bool.false_eq_true,Bool.true_eq_false,Bool.not_true,Bool.not_false,Bool.not_eq_true',Bool.not_eq_false',Bool.not_eq_true,Bool.not_eq_false,false_implies,true_implies,beq_iff_eq,beq_eq_false_iff_ne,bne_iff_ne,bne_eq_false_iff_eq,ne_eq,ge_iff_le,gt_iff_lt,Int.not_lt,Int.not_le,not_true_eq_false,not_false_eq_true,if_true,if_false,z6n,z6o,z6p,z6q,Heap.set_set,z6r,z6s,z6t,z6u,z6v,z6w,List.getElem_cons_zero,List.getElem_cons_succ,List.set_cons_zero,List.set_cons_succ,List.length_set,List.all_cons,List.all_nil,Bool.and_true,Bool.true_and,Bool.and_self,Nat.add_zero,Nat.zero_add,Nat.zero_lt_succ,Int.cast_ofNat_Int,List.size_toArray,List.flatten_replicate_singleton,Nat.mul_one,Nat.le_refl,Nat.lt_irrefl,Nat.le_add_left, x0, x1, k, ea]
        refine (know_has_c E p1 la).mono ?_
        rintro v H2 ⟨rfl, rfl⟩
        cases hA : hasF L ks a with
        | false =>
          simp -implicitDefEqProofs only [z00,z01,z02,z03,z04,z05,z06,z07,z08,z09,z0a,z0b,z0c,z0d,z0e,z0f,z0g,z0h,z0i,z0j,z0k,z0l,z0m,z0n,retO,retL,retV,z0o,z0p,z0q,z0r,z0s,z0t,z0u,z0v,z0w,z0x,z0y,z0z,z10,z11,z12,z13,z14,z15,z16,z17,z18,z19,z1a,z1b,z1c,z1d,z1e,z1f,z1g,z1h,z1i,z1j,z1k,z1l,z1m,z1n,z1o,z1p,z1q,z1r,z1s,z1t,z1u,z1v,z1w,z1x,z1y,z1z,z20,z21,z22,z23,z24,z25,z26,z27,z28,z29,z2a,z2b,z2c,z2d,z2e,z2f,z2g,z2h,z2i,z2j,z2k,z2l,z2m,z2n,z2o,z2p,z2q,z2r,z2s,z2t,z2u,z2v,z2w,z2x,z2y,z2z,z30,z31,z32,z33,z34,z35,z36,z37,z38,z39,z3a,z3b,z3c,z3d,z3e,z3f,z3g,z3h,z3i,z3j,z3k,z3l,z3m,z3n,z3o,z3p,z3q,z3r,z3s,z3t,z3u,z3v,z3w,z3x,z3y,z3z,z40,z41,z42,z43,z44,z45,z46,z47,z48,z49,z4a,z4b,z4c,z4d,z4e,z4f,z4g,z4h,z4i,z4j,z4k,z4l,z4m,z4n,z4o,z4p,z4q,z4r,z4s,z4t,z4u,z4v,z4w,z4x,z4y,z4z,z50,z51,z52,z53,z54,z55,z56,z57,z58,z59,z5a,z5b,z5c,z5d,z5e,z5f,z5g,z5h,z5i,z5j,z5k,z5l,z5m,z5n,z5o,z5p,z5q,z5r,z5s,z5t,z5u,z5v,z5w,z5x,z5y,z5z,z60,z61,z62,z63,z64,z65,z66,z67,z68,z69,allV,allP,z6a,z6b,z6c,z6d,z6e,z6f,z6g,z6h,z6i,z6j,z6k,z6l,z6m,Option.map_some,Option.map_none,Option.some.injEq,reduceIte,reduceCtorEq,Nat.reduceEqDiff,Nat.reduceAdd,Nat.reduceMul,Nat.reduceLT,Nat.reduceSub,Int.reduceLT,Int.reduceLE,Int.reduceEq,Int.reduceNe,Int.reduceSub,Int.reduceAdd,Int.reduceMul,Int.reduceBEq,Int.reduceBNe,Int.reduceGT,Int.reduceGE,Nat.reduceGT,Int.reduceToNat,Int.reduceNeg,Nat.reduceLeDiff,Nat.reduceBEq,Nat.reduceBneDiff,binV,eqV,unV,oOpt,true_and,and_true,Value.cells,List.length_cons,List.length_nil,List.append_nil,List.nil_append,List.cons_append,List.drop_succ_cons,List.drop_zero,List.take_succ_cons,List.take_zero,List.take_nil,List.getElem?_cons_zero,List.getElem?_cons_succ,decide_true,decide_false,decide_eq_true_eq,decide_eq_false_iff_not,Bool.false_eq_true,Bool.true_eq_false,Bool.not_true,Bool.not_false,Bool.not_eq_true',Bool.not_eq_false',Bool.not_eq_true,Bool.not_eq_false,false_implies,true_implies,beq_iff_eq,beq_eq_false_iff_ne,bne_iff_ne,bne_eq_false_iff_eq,ne_eq,ge_iff_le,gt_iff_lt,Int.not_lt,Int.not_le,not_true_eq_false,not_false_eq_true,if_true,if_false,z6n,z6o,z6p,z6q,Heap.set_set,z6r,z6s,z6t,z6u,z6v,z6w,List.getElem_cons_zero,List.getElem_cons_succ,List.set_cons_zero,List.set_cons_succ,List.length_set,List.all_cons,List.all_nil,Bool.and_true,Bool.true_and,Bool.and_self,Nat.add_zero,Nat.zero_add,Nat.zero_lt_succ,Int.cast_ofNat_Int,List.size_toArray,List.flatten_replicate_singleton,Nat.mul_one,Nat.le_refl,Nat.lt_irrefl,Nat.le_add_left, false_and]
          exact ⟨back _ (Heap.leB_refl _ _), p1⟩
        | true =>
          simp -implicitDefEqProofs only [z00,z01,z02,z03,z04,z05,z06,z07,z08,z09,z0a,z0b,z0c,z0d,z0e,z0f,z0g,z0h,z0i,z0j,z0k,z0l,z0m,z0n,retO,retL,retV,z0o,z0p,z0q,z0r,z0s,z0t,z0u,z0v,z0w,z0x,z0y,z0z,z10,z11,z12,z13,z14,z15,z16,z17,z18,z19,z1a,z1b,z1c,z1d,z1e,z1f,z1g,z1h,z1i,z1j,z1k,z1l,z1m,z1n,z1o,z1p,z1q,z1r,z1s,z1t,z1u,z1v,z1w,z1x,z1y,z1z,z20,z21,z22,z23,z24,z25,z26,z27,z28,z29,z2a,z2b,z2c,z2d,z2e,z2f,z2g,z2h,z2i,z2j,z2k,z2l,z2m,z2n,z2o,z2p,z2q,z2r,z2s,z2t,z2u,z2v,z2w,z2x,z2y,z2z,z30,z31,z32,z33,z34,z35,z36,z37,z38,z39,z3a,z3b,z3c,z3d,z3e,z3f,z3g,z3h,z3i,z3j,z3k,z3l,z3m,z3n,z3o,z3p,z3q,z3r,z3s,z3t,z3u,z3v,z3w,z3x,z3y,z3z,z40,z41,z42,z43,z44,z45,z46,z47,z48,z49,z4a,z4b,z4c,z4d,z4e,z4f,z4g,z4h,z4i,z4j,z4k,z4l,z4m,z4n,z4o,z4p,z4q,z4r,z4s,z4t,z4u,z4v,z4w,z4x,z4y,z4z,z50,z51,z52,z53,z54,z55,z56,z57,z58,z59,z5a,z5b,z5c,z5d,z5e,z5f,z5g,z5h,z5i,z5j,z5k,z5l,z5m,z5n,z5o,z5p,z5q,z5r,z5s,z5t,z5u,z5v,z5w,z5x,z5y,z5z,z60,z61,z62,z63,z64,z65,z66,z67,z68,z69,allV,allP,z6a,z6b,z6c,z6d,z6e,z6f,z6g,z6h,z6i,z6j,z6k,z6l,z6m,Option.map_some,Option.map_none,Option.some.injEq,reduceIte,reduceCtorEq,Nat.reduceEqDiff,Nat.reduceAdd,Nat.reduceMul,Nat.reduceLT,Nat.reduceSub,Int.reduceLT,Int.reduceLE,Int.reduceEq,Int.reduceNe,Int.reduceSub,Int.reduceAdd,Int.reduceMul,Int.reduceBEq,Int.reduceBNe,Int.reduceGT,Int.reduceGE,Nat.reduceGT,Int.reduceToNat,Int.reduceNeg,Nat.reduceLeDiff,Nat.reduceBEq,Nat.reduceBneDiff,binV,eqV,unV,oOpt,true_and,and_true,Value.cells,List.length_cons,List.length_nil,List.append_nil,List.nil_append,List.cons_append,List.drop_succ_cons,List.drop_zero,List.take_succ_cons,List.take_zero,List.take_nil,List.getElem?_cons_zero,List.getElem?_cons_succ,decide_true,decide_false,decide_eq_true_eq,decide_eq_false_iff_not,Bool.false_eq_true,Bool.true_eq_false,Bool.not_true,Bool.not_false,Bool.not_eq_true',Bool.not_eq_false',Bool.not_eq_true,Bool.not_eq_false,false_implies,true_implies,beq_iff_eq,beq_eq_false_iff_ne,bne_iff_ne,bne_eq_false_iff_eq,ne_eq,ge_iff_le,gt_iff_lt,Int.not_lt,Int.not_le,not_true_eq_false,not_false_eq_true,if_true,if_false,z6n,z6o,z6p,z6q,Heap.set_set,z6r,z6s,z6t,z6u,z6v,z6w,List.getElem_cons_zero,List.getElem_cons_succ,List.set_cons_zero,List.set_cons_succ,List.length_set,List.all_cons,List.all_nil,Bool.and_true,Bool.true_and,Bool.and_self,Nat.add_zero,Nat.zero_add,Nat.zero_lt_succ,Int.cast_ofNat_Int,List.size_toArray,List.flatten_replicate_singleton,Nat.mul_one,Nat.le_refl,Nat.lt_irrefl,Nat.le_add_left, x2, eb]
          refine (know_has_c E p1 lb).mono ?_
          rintro v H2 ⟨rfl, rfl⟩
          cases hB : hasF L ks d with
          | false =>
            simp -implicitDefEqProofs only [z00,z01,z02,z03,z04,z05,z06,z07,z08,z09,z0a,z0b,z0c,z0d,z0e,z0f,z0g,z0h,z0i,z0j,z0k,z0l,z0m,z0n,retO,retL,retV,z0o,z0p,z0q,z0r,z0s,z0t,z0u,z0v,z0w,z0x,z0y,z0z,z10,z11,z12,z13,z14,z15,z16,z17,z18,z19,z1a,z1b,z1c,z1d,z1e,z1f,z1g,z1h,z1i,z1j,z1k,z1l,z1m,z1n,z1o,z1p,z1q,z1r,z1s,z1t,z1u,z1v,z1w,z1x,z1y,z1z,z20,z21,z22,z23,z24,z25,z26,z27,z28,z29,z2a,z2b,z2c,z2d,z2e,z2f,z2g,z2h,z2i,z2j,z2k,z2l,z2m,z2n,z2o,z2p,z2q,z2r,z2s,z2t,z2u,z2v,z2w,z2x,z2y,z2z,z30,z31,z32,z33,z34,z35,z36,z37,z38,z39,z3a,z3b,z3c,z3d,z3e,z3f,z3g,z3h,z3i,z3j,z3k,z3l,z3m,z3n,z3o,z3p,z3q,z3r,z3s,z3t,z3u,z3v,z3w,z3x,z3y,z3z,z40,z41,z42,z43,z44,z45,z46,z47,z48,z49,z4a,z4b,z4c,z4d,z4e,z4f,z4g,z4h,z4i,z4j,z4k,z4l,z4m,z4n,z4o,z4p,z4q,z4r,z4s,z4t,z4u,z4v,z4w,z4x,z4y,z4z,z50,z51,z52,z53,z54,z55,z56,z57,z58,z59,z5a,z5b,z5c,z5d,z5e,z5f,z5g,z5h,z5i,z5j,z5k,z5l,z5m,z5n,z5o,z5p,z5q,z5r,z5s,z5t,z5u,z5v,z5w,z5x,z5y,z5z,z60,z61,z62,z63,z64,z65,z66,z67,z68,z69,allV,allP,z6a,z6b,z6c,z6d,z6e,z6f,z6g,z6h,z6i,z6j,z6k,z6l,z6m,Option.map_some,Option.map_none,Option.some.injEq,reduceIte,reduceCtorEq,Nat.reduceEqDiff,Nat.reduceAdd,Nat.reduceMul,Nat.reduceLT,Nat.reduceSub,Int.reduceLT,Int.reduceLE,Int.reduceEq,Int.reduceNe,Int.reduceSub,Int.reduceAdd,Int.reduceMul,Int.reduceBEq,Int.reduceBNe,Int.reduceGT,Int.reduceGE,Nat.reduceGT,Int.reduceToNat,Int.reduceNeg,Nat.reduceLeDiff,Nat.reduceBEq,Nat.reduceBneDiff,binV,eqV,unV,oOpt,true_and,and_true,Value.cells,List.length_cons,List.length_nil,List.append_nil,List.nil_append,List.cons_append,List.drop_succ_cons,List.drop_zero,List.take_succ_cons,List.take_zero,List.take_nil,List.getElem?_cons_zero,List.getElem?_cons_succ,decide_true,decide_false,decide_eq_true_eq,decide_eq_false_iff_not,Bool.false_eq_true,Bool.true_eq_false,Bool.not_true,Bool.not_false,Bool.not_eq_true',Bool.not_eq_false',Bool.not_eq_true,Bool.not_eq_false,false_implies,true_implies,beq_iff_eq,beq_eq_false_iff_ne,bne_iff_ne,bne_eq_false_iff_eq,ne_eq,ge_iff_le,gt_iff_lt,Int.not_lt,Int.not_le,not_true_eq_false,not_false_eq_true,if_true,if_false,z6n,z6o,z6p,z6q,Heap.set_set,z6r,z6s,z6t,z6u,z6v,z6w,List.getElem_cons_zero,List.getElem_cons_succ,List.set_cons_zero,List.set_cons_succ,List.length_set,List.all_cons,List.all_nil,Bool.and_true,Bool.true_and,Bool.and_self,Nat.add_zero,Nat.zero_add,Nat.zero_lt_succ,Int.cast_ofNat_Int,List.size_toArray,List.flatten_replicate_singleton,Nat.mul_one,Nat.le_refl,Nat.lt_irrefl,Nat.le_add_left, and_false]
            exact ⟨back _ (Heap.leB_refl _ _), p1⟩
          | true =>
            simp -implicitDefEqProofs only [z00,z01,z02,z03,z04,z05,z06,z07,z08,z09,z0a,z0b,z0c,z0d,z0e,z0f,z0g,z0h,z0i,z0j,z0k,z0l,z0m,z0n,retO,retL,retV,z0o,z0p,z0q,z0r,z0s,z0t,z0u,z0v,z0w,z0x,z0y,z0z,z10,z11,z12,z13,z14,z15,z16,z17,z18,z19,z1a,z1b,z1c,z1d,z1e,z1f,z1g,z1h,z1i,z1j,z1k,z1l,z1m,z1n,z1o,z1p,z1q,z1r,z1s,z1t,z1u,z1v,z1w,z1x,z1y,z1z,z20,z21,z22,z23,z24,z25,z26,z27,z28,z29,z2a,z2b,z2c,z2d,z2e,z2f,z2g,z2h,z2i,z2j,z2k,z2l,z2m,z2n,z2o,z2p,z2q,z2r,z2s,z2t,z2u,z2v,z2w,z2x,z2y,z2z,z30,z31,z32,z33,z34,z35,z36,z37,z38,z39,z3a,z3b,z3c,z3d,z3e,z3f,z3g,z3h,z3i,z3j,z3k,z3l,z3m,z3n,z3o,z3p,z3q,z3r,z3s,z3t,z3u,z3v,z3w,z3x,z3y,z3z,z40,z41,z42,z43,z44,z45,z46,z47,z48,z49,z4a,z4b,z4c,z4d,z4e,z4f,z4g,z4h,z4i,z4j,z4k,z4l,z4m,z4n,z4o,z4p,z4q,z4r,z4s,z4t,z4u,z4v,z4w,z4x,z4y,z4z,z50,z51,z52,z53,z54,z55,z56,z57,z58,z59,z5a,z5b,z5c,z5d,z5e,z5f,z5g,z5h,z5i,z5j,z5k,z5l,z5m,z5n,z5o,z5p,z5q,z5r,z5s,z5t,z5u,z5v,z5w,z5x,z5y,z5z,z60,z61,z62,z63,z64,z65,z66,z67,z68,z69,allV,allP,z6a,z6b,z6c,z6d,z6e,z6f,z6g,z6h,z6i,z6j,z6k,z6l,z6m,Option.map_some,Option.map_none,Option.some.injEq,reduceIte,reduceCtorEq,Nat.reduceEqDiff,Nat.reduceAdd,Nat.reduceMul,Nat.reduceLT,Nat.reduceSub,Int.reduceLT,Int.reduceLE,Int.reduceEq,Int.reduceNe,Int.reduceSub,Int.reduceAdd,Int.reduceMul,Int.reduceBEq,Int.reduceBNe,Int.reduceGT,Int.reduceGE,Nat.reduceGT,Int.reduceToNat,Int.reduceNeg,Nat.reduceLeDiff,Nat.reduceBEq,Nat.reduceBneDiff,binV,eqV,unV,oOpt,true_and,and_true,Value.cells,List.length_cons,List.length_nil,List.append_nil,List.nil_append,List.cons_append,List.drop_succ_cons,List.drop_zero,List.take_succ_cons,List.take_zero,List.take_nil,List.getElem?_cons_zero,List.getElem?_cons_succ,decide_true,decide_false,decide_eq_true_eq,decide_eq_false_iff_not,Bool.false_eq_true,Bool.true_eq_false,Bool.not_true,Bool.not_false,Bool.not_eq_true',Bool.not_eq_false',Bool.not_eq_true,Bool.not_eq_false,false_implies,true_implies,beq_iff_eq,beq_eq_false_iff_ne,bne_iff_ne,bne_eq_false_iff_eq,ne_eq,ge_iff_le,gt_iff_lt,Int.not_lt,Int.not_le,not_true_eq_false,not_false_eq_true,if_true,if_false,z6n,z6o,z6p,z6q,Heap.set_set,z6r,z6s,z6t,z6u,z6v,z6w,List.getElem_cons_zero,List.getElem_cons_succ,List.set_cons_zero,List.set_cons_succ,List.length_set,List.all_cons,List.all_nil,Bool.and_true,Bool.true_and,Bool.and_self,Nat.add_zero,Nat.zero_add,Nat.zero_lt_succ,Int.cast_ofNat_Int,List.size_toArray,List.flatten_replicate_singleton,Nat.mul_one,Nat.le_refl,Nat.lt_irrefl,Nat.le_add_left, and_self]
            refine (know_learn_c E p1 hi).mono ?_
            rintro v H3 ⟨le3, p3, rfl⟩
            rw [hH]
            simp -implicitDefEqProofs only [z00,z01,z02,z03,z04,z05,z06,z07,z08,z09,z0a,z0b,z0c,z0d,z0e,z0f,z0g,z0h,z0i,z0j,z0k,z0l,z0m,z0n,retO,retL,retV,z0o,z0p,z0q,z0r,z0s,z0t,z0u,z0v,z0w,z0x,z0y,z0z,z10,z11,z12,z13,z14,z15,z16,z17,z18,z19,z1a,z1b,z1c,z1d,z1e,z1f,z1g,z1h,z1i,z1j,z1k,z1l,z1m,z1n,z1o,z1p,z1q,z1r,z1s,z1t,z1u,z1v,z1w,z1x,z1y,z1z,z20,z21,z22,z23,z24,z25,z26,z27,z28,z29,z2a,z2b,z2c,z2d,z2e,z2f,z2g,z2h,z2i,z2j,z2k,z2l,z2m,z2n,z2o,z2p,z2q,z2r,z2s,z2t,z2u,z2v,z2w,z2x,z2y,z2z,z30,z31,z32,z33,z34,z35,z36,z37,z38,z39,z3a,z3b,z3c,z3d,z3e,z3f,z3g,z3h,z3i,z3j,z3k,z3l,z3m,z3n,z3o,z3p,z3q,z3r,z3s,z3t,z3u,z3v,z3w,z3x,z3y,z3z,z40,z41,z42,z43,z44,z45,z46,z47,z48,z49,z4a,z4b,z4c,z4d,z4e,z4f,z4g,z4h,z4i,z4j,z4k,z4l,z4m,z4n,z4o,z4p,z4q,z4r,z4s,z4t,z4u,z4v,z4w,z4x,z4y,z4z,z50,z51,z52,z53,z54,z55,z56,z57,z58,z59,z5a,z5b,z5c,z5d,z5e,z5f,z5g,z5h,z5i,z5j,z5k,z5l,z5m,z5n,z5o,z5p,z5q,z5r,z5s,z5t,z5u,z5v,z5w,z5x,z5y,z5z,z60,z61,z62,z63,z64,z65,z66,z67,z68,z69,allV,allP,z6a,z6b,z6c,z6d,z6e,z6f,z6g,z6h,z6i,z6j,z6k,z6l,z6m,Option.map_some,Option.map_none,Option.some.injEq,reduceIte,reduceCtorEq,Nat.reduceEqDiff,Nat.reduceAdd,Nat.reduceMul,Nat.reduceLT,Nat.reduceSub,Int.reduceLT,Int.reduceLE,Int.reduceEq,Int.reduceNe,Int.reduceSub,Int.reduceAdd,Int.reduceMul,Int.reduceBEq,Int.reduceBNe,Int.reduceGT,Int.reduceGE,Nat.reduceGT,Int.reduceToNat,Int.reduceNeg,Nat.reduceLeDiff,Nat.reduceBEq,Nat.reduceBneDiff,binV,eqV,unV,oOpt,true_and,and_true,Value.cells,List.length_cons,List.length_nil,List.append_nil,List.nil_append,List.cons_append,List.drop_succ_cons,List.drop_zero,List.take_succ_cons,List.take_zero,List.take_nil,List.getElem?_cons_zero,List.getElem?_cons_succ,decide_true,decide_false,decide_eq_true_eq,decide_eq_false_iff_not,Bool.false_eq_true,Bool.true_eq_false,Bool.not_true,Bool.not_false,Bool.not_eq_true',Bool.not_eq_false',Bool.not_eq_true,Bool.not_eq_false,false_implies,true_implies,beq_iff_eq,beq_eq_false_iff_ne,bne_iff_ne,bne_eq_false_iff_eq,ne_eq,ge_iff_le,gt_iff_lt,Int.not_lt,Int.not_le,not_true_eq_false,not_false_eq_true,if_true,if_false,z6n,z6o,z6p,z6q,Heap.set_set,z6r,z6s,z6t,z6u,z6v,z6w,List.getElem_cons_zero,List.getElem_cons_succ,List.set_cons_zero,List.set_cons_succ,List.length_set,List.all_cons,List.all_nil,Bool.and_true,Bool.true_and,Bool.and_self,Nat.add_zero,Nat.zero_add,Nat.zero_lt_succ,Int.cast_ofNat_Int,List.size_toArray,List.flatten_replicate_singleton,Nat.mul_one,Nat.le_refl,Nat.lt_irrefl,Nat.le_add_left]
            exact ⟨back _ le3, p3⟩
    · by_cases k4 : x.k = 4
      · obtain ⟨a, ea, la⟩ := inA (.inr (.inr k4))
        have all : stepF L ks x i = if hasF L ks a = true then (learnF L ks i, true) else (ks, false) := by
          unfold stepF; rw [if_neg hH', if_neg k23, if_pos k4, ea]; rfl
        rw [all]
        simp -implicitDefEqProofs only [z00,z01,z02,z03,z04,z05,z06,z07,z08,z09,z0a,z0b,z0c,z0d,z0e,z0f,z0g,z0h,z0i,z0j,z0k,z0l,z0m,z0n,retO,retL,retV,z0o,z0p,z0q,z0r,z0s,z0t,z0u,z0v,z0w,z0x,z0y,z0z,z10,z11,z12,z13,z14,z15,z16,z17,z18,z19,z1a,z1b,z1c,z1d,z1e,z1f,z1g,z1h,z1i,z1j,z1k,z1l,z1m,z1n,z1o,z1p,z1q,z1r,z1s,z1t,z1u,z1v,z1w,z1x,z1y,z1z,z20,z21,z22,z23,z24,z25,z26,z27,z28,z29,z2a,z2b,z2c,z2d,z2e,z2f,z2g,z2h,z2i,z2j,z2k,z2l,z2m,z2n,z2o,z2p,z2q,z2r,z2s,z2t,z2u,z2v,z2w,z2x,z2y,z2z,z30,z31,z32,z33,z34,z35,z36,z37,z38,z39,z3a,z3b,z3c,z3d,z3e,z3f,z3g,z3h,z3i,z3j,z3k,z3l,z3m,z3n,z3o,z3p,z3q,z3r,z3s,z3t,z3u,z3v,z3w,z3x,z3y,z3z,z40,z41,z42,z43,z44,z45,z46,z47,z48,z49,z4a,z4b,z4c,z4d,z4e,z4f,z4g,z4h,z4i,z4j,z4k,z4l,z4m,z4n,z4o,z4p,z4q,z4r,z4s,z4t,z4u,z4v,z4w,z4x,z4y,z4z,z50,z51,z52,z53,z54,z55,z56,z57,z58,z59,z5a,z5b,z5c,z5d,z5e,z5f,z5g,z5h,z5i,z5j,z5k,z5l,z5m,z5n,z5o,z5p,z5q,z5r,z5s,z5t,z5u,z5v,z5w,z5x,z5y,z5z,z60,z61,z62,z63,z64,z65,z66,z67,z68,z69,allV,allP,z6a,z6b,z6c,z6d,z6e,z6f,z6g,z6h,z6i,z6j,z6k,z6l,z6m,Option.map_some,Option.map_none,Option.some.injEq,reduceIte,reduceCtorEq,Nat.reduceEqDiff,Nat.reduceAdd,Nat.reduceMul,Nat.reduceLT,Nat.reduceSub,Int.reduceLT,Int.reduceLE,Int.reduceEq,Int.reduceNe,Int.reduceSub,Int.reduceAdd,Int.reduceMul,Int.reduceBEq,Int.reduceBNe,Int.reduceGT,Int.reduceGE,Nat.reduceGT,Int.reduceToNat,Int.reduceNeg,Nat.reduceLeDiff,Nat.reduceBEq,Nat.reduceBneDiff,binV,eqV,unV,oOpt,true_and,and_true,Value.cells,List.length_cons,List.length_nil,List.append_nil,List.nil_append,List.cons_append,List.drop_succ_cons,List.drop_zero,List.take_succ_cons,List.take_zero,List.take_nil,List.getElem?_cons_zero,List.getElem?_cons_succ,decide_true,decide_false,decide_eq_true_eq,decide_eq_false_iff_not,Bool.false_eq_true,Bool.true_eq_false,Bool.not_true,Bool.not_false,Bool.not_eq_true',Bool.not_eq_false',Bool.not_eq_true,Bool.not_eq_false,false_implies,true_implies,beq_iff_eq,beq_eq_false_iff_ne,bne_iff_ne,bne_eq_false_iff_eq,ne_eq,ge_iff_le,gt_iff_lt,Int.not_lt,Int.not_le,not_true_eq_false,not_false_eq_true,if_true,if_false,z6n,z6o,z6p,z6q,Heap.set_set,z6r,z6s,z6t,z6u,z6v,z6w,List.getElem_cons_zero,List.getElem_cons_succ,List.set_cons_zero,List.set_cons_succ,List.length_set,List.all_cons,List.all_nil,Bool.and_true,Bool.true_and,Bool.and_self,Nat.add_zero,Nat.zero_add,Nat.zero_lt_succ,Int.cast_ofNat_Int,List.size_toArray,List.flatten_replicate_singleton,Nat.mul_one,Nat.le_refl,Nat.lt_irrefl,Nat.le_add_left, x0, x1, k4, ea]
        refine (know_has_c E p1 la).mono ?_
        rintro v H2 ⟨rfl, rfl⟩
        cases hA : hasF L ks a with
        | false =>
          simp -implicitDefEqProofs only [z00,z01,z02,z03,z04,z05,z06,z07,z08,z09,z0a,z0b,z0c,z0d,z0e,z0f,z0g,z0h,z0i,z0j,z0k,z0l,z0m,z0n,retO,retL,retV,z0o,z0p,z0q,z0r,z0s,z0t,z0u,z0v,z0w,z0x,z0y,z0z,z10,z11,z12,z13,z14,z15,z16,z17,z18,z19,z1a,z1b,z1c,z1d,z1e,z1f,z1g,z1h,z1i,z1j,z1k,z1l,z1m,z1n,z1o,z1p,z1q,z1r,z1s,z1t,z1u,z1v,z1w,z1x,z1y,z1z,z20,z21,z22,z23,z24,z25,z26,z27,z28,z29,z2a,z2b,z2c,z2d,z2e,z2f,z2g,z2h,z2i,z2j,z2k,z2l,z2m,z2n,z2o,z2p,z2q,z2r,z2s,z2t,z2u,z2v,z2w,z2x,z2y,z2z,z30,z31,z32,z33,z34,z35,z36,z37,z38,z39,z3a,z3b,z3c,z3d,z3e,z3f,z3g,z3h,z3i,z3j,z3k,z3l,z3m,z3n,z3o,z3p,z3q,z3r,z3s,z3t,z3u,z3v,z3w,z3x,z3y,z3z,z40,z41,z42,z43,z44,z45,z46,z47,z48,z49,z4a,z4b,z4c,z4d,z4e,z4f,z4g,z4h,z4i,z4j,z4k,z4l,z4m,z4n,z4o,z4p,z4q,z4r,z4s,z4t,z4u,z4v,z4w,z4x,z4y,z4z,z50,z51,z52,z53,z54,z55,z56,z57,z58,z59,z5a,z5b,z5c,z5d,z5e,z5f,z5g,z5h,z5i,z5j,z5k,z5l,z5m,z5n,z5o,z5p,z5q,z5r,z5s,z5t,z5u,z5v,z5w,z5x,z5y,z5z,z60,z61,z62,z63,z64,z65,z66,z67,z68,z69,allV,allP,z6a,z6b,z6c,z6d,z6e,z6f,z6g,z6h,z6i,z6j,z6k,z6l,z6m,Option.map_some,Option.map_none,Option.some.injEq,reduceIte,reduceCtorEq,Nat.reduceEqDiff,Nat.reduceAdd,Nat.reduceMul,Nat.reduceLT,Nat.reduceSub,Int.reduceLT,Int.reduceLE,Int.reduceEq,Int.reduceNe,Int.reduceSub,Int.reduceAdd,Int.reduceMul,Int.reduceBEq,Int.reduceBNe,Int.reduceGT,Int.reduceGE,Nat.reduceGT,Int.reduceToNat,Int.reduceNeg,Nat.reduceLeDiff,Nat.reduceBEq,Nat.reduceBneDiff,binV,eqV,unV,oOpt,true_and,and_true,Value.cells,List.length_cons,List.length_nil,List.append_nil,List.nil_append,List.cons_append,List.drop_succ_cons,List.drop_zero,List.take_succ_cons,List.take_zero,List.take_nil,List.getElem?_cons_zero,List.getElem?_cons_succ,decide_true,decide_false,decide_eq_true_eq,decide_eq_false_iff_not,Bool.false_eq_true,Bool.true_eq_false,Bool.not_true,Bool.not_false,Bool.not_eq_true',Bool.not_eq_false',Bool.not_eq_true,Bool.not_eq_false,false_implies,true_implies,beq_iff_eq,beq_eq_false_iff_ne,bne_iff_ne,bne_eq_false_iff_eq,ne_eq,ge_iff_le,gt_iff_lt,Int.not_lt,Int.not_le,not_true_eq_false,not_false_eq_true,if_true,if_false,z6n,z6o,z6p,z6q,Heap.set_set,z6r,z6s,z6t,z6u,z6v,z6w,List.getElem_cons_zero,List.getElem_cons_succ,List.set_cons_zero,List.set_cons_succ,List.length_set,List.all_cons,List.all_nil,Bool.and_true,Bool.true_and,Bool.and_self,Nat.add_zero,Nat.zero_add,Nat.zero_lt_succ,Int.cast_ofNat_Int,List.size_toArray,List.flatten_replicate_singleton,Nat.mul_one,Nat.le_refl,Nat.lt_irrefl,Nat.le_add_left]
          exact ⟨back _ (Heap.leB_refl _ _), p1⟩
        | true =>
          simp -implicitDefEqProofs only [z00,z01,z02,z03,z04,z05,z06,z07,z08,z09,z0a,z0b,z0c,z0d,z0e,z0f,z0g,z0h,z0i,z0j,z0k,z0l,z0m,z0n,retO,retL,retV,z0o,z0p,z0q,z0r,z0s,z0t,z0u,z0v,z0w,z0x,z0y,z0z,z10,z11,z12,z13,z14,z15,z16,z17,z18,z19,z1a,z1b,z1c,z1d,z1e,z1f,z1g,z1h,z1i,z1j,z1k,z1l,z1m,z1n,z1o,z1p,z1q,z1r,z1s,z1t,z1u,z1v,z1w,z1x,z1y,z1z,z20,z21,z22,z23,z24,z25,z26,z27,z28,z29,z2a,z2b,z2c,z2d,z2e,z2f,z2g,z2h,z2i,z2j,z2k,z2l,z2m,z2n,z2o,z2p,z2q,z2r,z2s,z2t,z2u,z2v,z2w,z2x,z2y,z2z,z30,z31,z32,z33,z34,z35,z36,z37,z38,z39,z3a,z3b,z3c,z3d,z3e,z3f,z3g,z3h,z3i,z3j,z3k,z3l,z3m,z3n,z3o,z3p,z3q,z3r,z3s,z3t,z3u,z3v,z3w,z3x,z3y,z3z,z40,z41,z42,z43,z44,z45,z46,z47,z48,z49,z4a,z4b,z4c,z4d,z4e,z4f,z4g,z4h,z4i,z4j,z4k,z4l,z4m,z4n,z4o,z4p,z4q,z4r,z4s,z4t,z4u,z4v,z4w,z4x,z4y,z4z,z50,z51,z52,z53,z54,z55,z56,z57,z58,z59,z5a,z5b,z5c,z5d,z5e,z5f,z5g,z5h,z5i,z5j,z5k,z5l,z5m,z5n,z5o,z5p,z5q,z5r,z5s,z5t,z5u,z5v,z5w,z5x,z5y,z5z,z60,z61,z62,z63,z64,z65,z66,z67,z68,z69,allV,allP,z6a,z6b,z6c,z6d,z6e,z6f,z6g,z6h,z6i,z6j,z6k,z6l,z6m,Option.map_some,Option.map_none,Option.some.injEq,reduceIte,reduceCtorEq,Nat.reduceEqDiff,Nat.reduceAdd,Nat.reduceMul,Nat.reduceLT,Nat.reduceSub,Int.reduceLT,Int.reduceLE,Int.reduceEq,Int.reduceNe,Int.reduceSub,Int.reduceAdd,Int.reduceMul,Int.reduceBEq,Int.reduceBNe,Int.reduceGT,Int.reduceGE,Nat.reduceGT,Int.reduceToNat,Int.reduceNeg,Nat.reduceLeDiff,Nat.reduceBEq,Nat.reduceBneDiff,binV,eqV,unV,oOpt,true_and,and_true,Value.cells,List.length_cons,List.length_nil,List.append_nil,List.nil_append,List.cons_append,List.drop_succ_cons,List.drop_zero,List.take_succ_cons,List.take_zero,List.take_nil,List.getElem?_cons_zero,List.getElem?_cons_succ,decide_true,decide_false,decide_eq_true_eq,decide_eq_false_iff_not,Bool.false_eq_true,Bool.true_eq_false,Bool.not_true,Bool.not_false,Bool.not_eq_true',Bool.not_eq_false',Bool.not_eq_true,Bool.not_eq_false,false_implies,true_implies,beq_iff_eq,beq_eq_false_iff_ne,bne_iff_ne,bne_eq_false_iff_eq,ne_eq,ge_iff_le,gt_iff_lt,Int.not_lt,Int.not_le,not_true_eq_false,not_false_eq_true,if_true,if_false,z6n,z6o,z6p,z6q,Heap.set_set,z6r,z6s,z6t,z6u,z6v,z6w,List.getElem_cons_zero,List.getElem_cons_succ,List.set_cons_zero,List.set_cons_succ,List.length_set,List.all_cons,List.all_nil,Bool.and_true,Bool.true_and,Bool.and_self,Nat.add_zero,Nat.zero_add,Nat.zero_lt_succ,Int.cast_ofNat_Int,List.size_toArray,List.flatten_replicate_singleton,Nat.mul_one,Nat.le_refl,Nat.lt_irrefl,Nat.le_add_left]
          refine (know_learn_c E p1 hi).mono ?_
          rintro v H3 ⟨le3, p3, rfl⟩
          rw [hH]
          simp -implicitDefEqProofs only [z00,z01,z02,z03,z04,z05,z06,z07,z08,z09,z0a,z0b,z0c,z0d,z0e,z0f,z0g,z0h,z0i,z0j,z0k,z0l,z0m,z0n,retO,retL,retV,z0o,z0p,z0q,z0r,z0s,z0t,z0u,z0v,z0w,z0x,z0y,z0z,z10,z11,z12,z13,z14,z15,z16,z17,z18,z19,z1a,z1b,z1c,z1d,z1e,z1f,z1g,z1h,z1i,z1j,z1k,z1l,z1m,z1n,z1o,z1p,z1q,z1r,z1s,z1t,z1u,z1v,z1w,z1x,z1y,z1z,z20,z21,z22,z23,z24,z25,z26,z27,z28,z29,z2a,z2b,z2c,z2d,z2e,z2f,z2g,z2h,z2i,z2j,z2k,z2l,z2m,z2n,z2o,z2p,z2q,z2r,z2s,z2t,z2u,z2v,z2w,z2x,z2y,z2z,z30,z31,z32,z33,z34,z35,z36,z37,z38,z39,z3a,z3b,z3c,z3d,z3e,z3f,z3g,z3h,z3i,z3j,z3k,z3l,z3m,z3n,z3o,z3p,z3q,z3r,z3s,z3t,z3u,z3v,z3w,z3x,z3y,z3z,z40,z41,z42,z43,z44,z45,z46,z47,z48,z49,z4a,z4b,z4c,z4d,z4e,z4f,z4g,z4h,z4i,z4j,z4k,z4l,z4m,z4n,z4o,z4p,z4q,z4r,z4s,z4t,z4u,z4v,z4w,z4x,z4y,z4z,z50,z51,z52,z53,z54,z55,z56,z57,z58,z59,z5a,z5b,z5c,z5d,z5e,z5f,z5g,z5h,z5i,z5j,z5k,z5l,z5m,z5n,z5o,z5p,z5q,z5r,z5s,z5t,z5u,z5v,z5w,z5x,z5y,z5z,z60,z61,z62,z63,z64,z65,z66,z67,z68,z69,allV,allP,z6a,z6b,z6c,z6d,z6e,z6f,z6g,z6h,z6i,z6j,z6k,z6l,z6m,Option.map_some,Option.map_none,Option.some.injEq,reduceIte,reduceCtorEq,Nat.reduceEqDiff,Nat.reduceAdd,Nat.reduceMul,Nat.reduceLT,Nat.reduceSub,Int.reduceLT,Int.reduceLE,Int.reduceEq,Int.reduceNe,Int.reduceSub,Int.reduceAdd,Int.reduceMul,Int.reduceBEq,Int.reduceBNe,Int.reduceGT,Int.reduceGE,Nat.reduceGT,Int.reduceToNat,Int.reduceNeg,Nat.reduceLeDiff,Nat.reduceBEq,Nat.reduceBneDiff,binV,eqV,unV,oOpt,true_and,and_true,Value.cells,List.length_cons,List.length_nil,List.append_nil,List.nil_append,List.cons_append,List.drop_succ_cons,List.drop_zero,List.take_succ_cons,List.take_zero,List.take_nil,List.getElem?_cons_zero,List.getElem?_cons_succ,decide_true,decide_false,decide_eq_true_eq,decide_eq_false_iff_not,Bool.false_eq_true,Bool.true_eq_false,Bool.not_true,Bool.not_false,Bool.not_eq_true',Bool.not_eq_false',Bool.not_eq_true,Bool.not_eq_false,false_implies,true_implies,beq_iff_eq,beq_eq_false_iff_ne,bne_iff_ne,bne_eq_false_iff_eq,ne_eq,ge_iff_le,gt_iff_lt,Int.not_lt,Int.not_le,not_true_eq_false,not_false_eq_true,if_true,if_false,z6n,z6o,z6p,z6q,Heap.set_set,z6r,z6s,z6t,z6u,z6v,z6w,List.getElem_cons_zero,List.getElem_cons_succ,List.set_cons_zero,List.set_cons_succ,List.length_set,List.all_cons,List.all_nil,Bool.and_true,Bool.true_and,Bool.and_self,Nat.add_zero,Nat.zero_add,Nat.zero_lt_succ,Int.cast_ofNat_Int,List.size_toArray,List.flatten_replicate_singleton,Nat.mul_one,Nat.le_refl,Nat.lt_irrefl,Nat.le_add_left]
          exact ⟨back _ le3, p3⟩
      · have k1 : x.k ≠ 2 := fun h => k23 (.inl h)
        have k3 : x.k ≠ 3 := fun h => k23 (.inr h)
        have fin : stepF L ks x i = (ks, false) := by
          unfold stepF; rw [if_neg hH', if_neg k23, if_neg k4]
        rw [fin]
        simp -implicitDefEqProofs only [z00,z01,z02,z03,z04,z05,z06,z07,z08,z09,z0a,z0b,z0c,z0d,z0e,z0f,z0g,z0h,z0i,z0j,z0k,z0l,z0m,z0n,retO,retL,retV,z0o,z0p,z0q,z0r,z0s,z0t,z0u,z0v,z0w,z0x,z0y,z0z,z10,z11,z12,z13,z14,z15,z16,z17,z18,z19,z1a,z1b,z1c,z1d,z1e,z1f,z1g,z1h,z1i,z1j,z1k,z1l,z1m,z1n,z1o,z1p,z1q,z1r,z1s,z1t,z1u,z1v,z1w,z1x,z1y,z1z,z20,z21,z22,z23,z24,z25,z26,z27,z28,z29,z2a,z2b,z2c,z2d,z2e,z2f,z2g,z2h,z2i,z2j,z2k,z2l,z2m,z2n,z2o,z2p,z2q,z2r,z2s,z2t,z2u,z2v,z2w,z2x,z2y,z2z,z30,z31,z32,z33,z34,z35,z36,z37,z38,z39,z3a,z3b,z3c,z3d,z3e,z3f,z3g,z3h,z3i,z3j,z3k,z3l,z3m,z3n,z3o,z3p,z3q,z3r,z3s,z3t,z3u,z3v,z3w,z3x,z3y,z3z,z40,z41,z42,z43,z44,z45,z46,z47,z48,z49,z4a,z4b,z4c,z4d,z4e,z4f,z4g,z4h,z4i,z4j,z4k,z4l,z4m,z4n,z4o,z4p,z4q,z4r,z4s,z4t,z4u,z4v,z4w,z4x,z4y,z4z,z50,z51,z52,z53,z54,z55,z56,z57,z58,z59,z5a,z5b,z5c,z5d,z5e,z5f,z5g,z5h,z5i,z5j,z5k,z5l,z5m,z5n,z5o,z5p,z5q,z5r,z5s,z5t,z5u,z5v,z5w,z5x,z5y,z5z,z60,z61,z62,z63,z64,z65,z66,z67,z68,z69,allV,allP,z6a,z6b,z6c,z6d,z6e,z6f,z6g,z6h,z6i,z6j,z6k,z6l,z6m,Option.map_some,Option.map_none,Option.some.injEq,reduceIte,reduceCtorEq,Nat.reduceEqDiff,Nat.reduceAdd,Nat.reduceMul,Nat.reduceLT,Nat.reduceSub,Int.reduceLT,Int.reduceLE,Int.reduceEq,Int.reduceNe,Int.reduceSub,Int.reduceAdd,Int.reduceMul,Int.reduceBEq,Int.reduceBNe,Int.reduceGT,Int.reduceGE,Nat.reduceGT,Int.reduceToNat,Int.reduceNeg,Nat.reduceLeDiff,Nat.reduceBEq,Nat.reduceBneDiff,binV,eqV,unV,oOpt,true_and,and_true,Value.cells,List.length_cons,List.length_nil,List.append_nil,List.nil_append,List.cons_append,List.drop_succ_cons,List.drop_zero,List.take_succ_cons,List.take_zero,List.take_nil,List.getElem?_cons_zero,List.getElem?_cons_succ,decide_true,decide_false,decide_eq_true_eq,decide_eq_false_iff_not,Bool.false_eq_true,Bool.true_eq_false,Bool.not_true,Bool.not_false,Bool.not_eq_true',Bool.not_eq_false',Bool.not_eq_true,Bool.not_eq_false,false_implies,true_implies,beq_iff_eq,beq_eq_false_iff_ne,bne_iff_ne,bne_eq_false_iff_eq,ne_eq,ge_iff_le,gt_iff_lt,Int.not_lt,Int.not_le,not_true_eq_false,not_false_eq_true,if_true,if_false,z6n,z6o,z6p,z6q,Heap.set_set,z6r,z6s,z6t,z6u,z6v,z6w,List.getElem_cons_zero,List.getElem_cons_succ,List.set_cons_zero,List.set_cons_succ,List.length_set,List.all_cons,List.all_nil,Bool.and_true,Bool.true_and,Bool.and_self,Nat.add_zero,Nat.zero_add,Nat.zero_lt_succ,Int.cast_ofNat_Int,List.size_toArray,List.flatten_replicate_singleton,Nat.mul_one,Nat.le_refl,Nat.lt_irrefl,Nat.le_add_left, x0, k1, k3, k4]
        exact ⟨back _ (Heap.leB_refl _ _), p1⟩
end Go.Bb
/- What can be known, in plain words: the least that is closed. -/
namespace Go.Bb
set_option linter.unusedSimpArgs false
set_option linter.unusedVariables false

inductive Kn (L : List Th) (S : Int → Prop) : Nat → Prop
  | base {i : Nat} (hi : i < L.length) (h : S i) : Kn L S i
  | same {i j : Nat} (hi : i < L.length) (he : FI L i = FI L j) (h : Kn L S j) : Kn L S i
  | fst {i : Nat} (hi : i < L.length) (hk : L[i].k = 2) (h : Kn L S i) : Kn L S L[i].a.toNat
  | snd {i : Nat} (hi : i < L.length) (hk : L[i].k = 2) (h : Kn L S i) : Kn L S L[i].b.toNat
  | opened {i : Nat} (hi : i < L.length) (hk : L[i].k = 3) (h : Kn L S i) (ha : Kn L S L[i].a.toNat) : Kn L S L[i].b.toNat
  | pair {i : Nat} (hi : i < L.length) (hk : L[i].k = 2 ∨ L[i].k = 3) (ha : Kn L S L[i].a.toNat) (hb : Kn L S L[i].b.toNat) : Kn L S i
  | key {i : Nat} (hi : i < L.length) (hk : L[i].k = 4) (ha : Kn L S L[i].a.toNat) : Kn L S i

theorem Kn.mono {L : List Th} {S S' : Int → Prop} (h : ∀ x, S x → S' x) {i : Nat} (k : Kn L S i) : Kn L S' i := by
  induction k with
  | base hi hs => exact .base hi (h _ hs)
  | same hi he _ ih => exact .same hi he ih
  | fst hi hk _ ih => exact .fst hi hk ih
  | snd hi hk _ ih => exact .snd hi hk ih
  | opened hi hk _ _ ih ih' => exact .opened hi hk ih ih'
  | pair hi hk _ _ ih ih' => exact .pair hi hk ih ih'
  | key hi hk _ ih => exact .key hi hk ih

/-- What all that is known tells is known. -/
theorem Kn.bind {L : List Th} {S S' : Int → Prop} (h : ∀ i : Nat, S' i → Kn L S i) {i : Nat} (k : Kn L S' i) : Kn L S i := by
  induction k with
  | base hi hs => exact h _ hs
  | same hi he _ ih => exact .same hi he ih
  | fst hi hk _ ih => exact .fst hi hk ih
  | snd hi hk _ ih => exact .snd hi hk ih
  | opened hi hk _ _ ih ih' => exact .opened hi hk ih ih'
  | pair hi hk _ _ ih ih' => exact .pair hi hk ih ih'
  | key hi hk _ ih => exact .key hi hk ih

theorem Kn.none {L : List Th} {i : Nat} (k : Kn L (fun _ => False) i) : False := by
  induction k with
  | base hi hs => exact hs
  | same hi he _ ih => exact ih
  | fst hi hk _ ih => exact ih
  | snd hi hk _ ih => exact ih
  | opened hi hk _ _ ih ih' => exact ih
  | pair hi hk _ _ ih ih' => exact ih
  | key hi hk _ ih => exact ih

/-! ### the rows of what is known -/
section
variable {L : List Th} {ks : List Bool} {S : Int → Prop}

theorem hasF_lt (hl : ks.length = L.length) {i : Nat} (h : hasF L ks i = true) : FI L i < L.length := by
  unfold hasF at h
  rcases Nat.lt_or_ge (FI L i) ks.length with g | g
  · omega
  · rw [List.getD_eq_getElem?_getD, List.getElem?_eq_none g] at h; cases h
theorem hasF_learn (d i : Nat) (hd : FI L d < ks.length) : hasF L (learnF L ks d) i = (decide (FI L i = FI L d) || hasF L ks i) := by
  unfold hasF learnF
  rw [List.getD_eq_getElem?_getD, List.getElem?_set, List.getD_eq_getElem?_getD]
  by_cases e : FI L d = FI L i
  · rw [if_pos e, if_pos hd]; simp [e]
  · rw [if_neg e]; simp [Ne.symm e]
theorem learnF_len (d : Nat) : (learnF L ks d).length = ks.length := by simp [learnF]
theorem learnF_same (d : Nat) (h : hasF L ks d = true) : learnF L ks d = ks := by
  unfold learnF
  unfold hasF at h
  apply List.ext_getElem?
  intro i
  rw [List.getElem?_set]
  split
  · rename_i e
    subst e
    split
    · rename_i hl
      rw [List.getD_eq_getElem?_getD, List.getElem?_eq_getElem hl] at h
      rw [List.getElem?_eq_getElem hl]
      simpa using h.symm
    · rename_i hl; rw [List.getElem?_eq_none (by omega)]
  · rfl

def SoundK (L : List Th) (S : Int → Prop) (ks : List Bool) : Prop := ks.length = L.length ∧ ∀ i, i < L.length → hasF L ks i = true → Kn L S i
theorem FI_lt {i : Nat} (hi : i < L.length) : FI L i < L.length := by obtain ⟨_, _, h⟩ := firstsF_at L hi; omega
theorem SoundK.learn (s : SoundK L S ks) {d : Nat} (hd : d < L.length) (hk : Kn L S d) : SoundK L S (learnF L ks d) := by
  refine ⟨by rw [learnF_len]; exact s.1, fun i hi h => ?_⟩
  rw [hasF_learn d i (by rw [s.1]; exact FI_lt hd)] at h
  simp only [Bool.or_eq_true, decide_eq_true_eq] at h
  rcases h with h | h
  · exact .same hi h hk
  · exact s.2 i hi h

theorem ok_ab (hg : GoodT L) {i : Nat} (hi : i < L.length) : (L[i].k = 2 ∨ L[i].k = 3 ∨ L[i].k = 4 → L[i].a.toNat < i ∧ 0 ≤ L[i].a) ∧ (L[i].k = 2 ∨ L[i].k = 3 → L[i].b.toNat < i ∧ 0 ≤ L[i].b) ∧ (L[i].k = 1 ∨ L[i].k = 2 ∨ L[i].k = 3 ∨ L[i].k = 4) := by
  have hx := hg.1 i hi
  generalize L[i] = x at hx
  unfold Th.ok at hx
  by_cases k1 : x.k = 1
  · simp [k1]
  by_cases k2 : x.k = 2
  · rw [if_neg k1, if_pos k2] at hx
    simp only [belowB, Bool.and_eq_true, decide_eq_true_eq] at hx
    exact ⟨fun _ => by omega, fun _ => by omega, .inr (.inl k2)⟩
  by_cases k3 : x.k = 3
  · rw [if_neg k1, if_neg k2, if_pos k3] at hx
    simp only [belowB, Bool.and_eq_true, decide_eq_true_eq] at hx
    exact ⟨fun _ => by omega, fun _ => by omega, .inr (.inr (.inl k3))⟩
  by_cases k4 : x.k = 4
  · rw [if_neg k1, if_neg k2, if_neg k3, if_pos k4] at hx
    simp only [belowB, Bool.and_eq_true, decide_eq_true_eq] at hx
    exact ⟨fun _ => by omega, fun h => by omega, .inr (.inr (.inr k4))⟩
  · rw [if_neg k1, if_neg k2, if_neg k3, if_neg k4] at hx; cases hx

theorem SoundK.step (hg : GoodT L) (s : SoundK L S ks) {i : Nat} (hi : i < L.length) : SoundK L S (stepF L ks L[i] i).1 := by
  obtain ⟨ha, hb, _⟩ := ok_ab hg hi
  unfold stepF
  split
  · rename_i h
    have hki := s.2 i hi h
    split
    · rename_i k2
      have a1 := ha (.inl k2)
      have b1 := hb (.inl k2)
      exact (s.learn (by omega) (.fst hi k2 hki)).learn (by omega) (.snd hi k2 hki)
    · split
      · rename_i k3
        have a1 := ha (.inr (.inl k3.1))
        have b1 := hb (.inr k3.1)
        exact s.learn (by omega) (.opened hi k3.1 hki (s.2 _ (by omega) k3.2))
      · exact s
  · split
    · rename_i k
      split
      · rename_i h2
        have a1 := ha (by rcases k with k | k; exact .inl k; exact .inr (.inl k))
        have b1 := hb k
        exact s.learn hi (.pair hi k (s.2 _ (by omega) h2.1) (s.2 _ (by omega) h2.2))
      · exact s
    · split
      · rename_i k4
        split
        · rename_i h2
          have a1 := ha (.inr (.inr k4))
          exact s.learn hi (.key hi k4 (s.2 _ (by omega) h2))
        · exact s
      · exact s

/-- How much is not known. -/
def leftK (ks : List Bool) : Nat := ks.countP (fun b => !b)
theorem leftK_set (ks : List Bool) (d : Nat) : leftK (ks.set d true) ≤ leftK ks ∧ (ks.getD d false = false → d < ks.length → leftK (ks.set d true) < leftK ks) := by
  unfold leftK
  induction ks generalizing d with
  | nil => simp
  | cons b ks ih =>
    cases d with
    | zero => cases b <;> simp
    | succ d =>
      obtain ⟨h1, h2⟩ := ih d
      simp only [List.set_cons_succ, List.countP_cons, List.getD_cons_succ, List.length_cons]
      refine ⟨by omega, fun h3 h4 => ?_⟩
      have := h2 h3 (by omega)
      omega
theorem leftK_learn (hl : ks.length = L.length) {d : Nat} (hd : d < L.length) : leftK (learnF L ks d) ≤ leftK ks ∧ (hasF L ks d = false → leftK (learnF L ks d) < leftK ks) := by
  obtain ⟨h1, h2⟩ := leftK_set ks (FI L d)
  exact ⟨h1, fun h => h2 h (by rw [hl]; exact FI_lt hd)⟩

theorem stepF_len (x : Th) (i : Nat) : (stepF L ks x i).1.length = ks.length := by
  unfold stepF
  repeat' split
  all_goals simp [learnF_len]

theorem step_left (hg : GoodT L) (hl : ks.length = L.length) {i : Nat} (hi : i < L.length) (h : (stepF L ks L[i] i).2 = true) : leftK (stepF L ks L[i] i).1 < leftK ks := by
  obtain ⟨ha, hb, _⟩ := ok_ab hg hi
  revert h
  unfold stepF
  split
  · rename_i hh
    split
    · rename_i k2
      have a1 := ha (.inl k2)
      have b1 := hb (.inl k2)
      intro h
      obtain ⟨g1, g2⟩ := leftK_learn (L := L) (ks := ks) hl (d := L[i].a.toNat) (by omega)
      obtain ⟨g3, g4⟩ := leftK_learn (L := L) (ks := learnF L ks L[i].a.toNat) (by rw [learnF_len]; exact hl) (d := L[i].b.toNat) (by omega)
      simp only [Bool.or_eq_true, Bool.not_eq_true'] at h
      rcases h with h | h
      · have := g2 h; simp only; omega
      · have := g4 h; simp only; omega
    · split
      · rename_i k3
        have b1 := hb (.inr k3.1)
        intro h
        obtain ⟨g1, g2⟩ := leftK_learn (L := L) (ks := ks) hl (d := L[i].b.toNat) (by omega)
        exact g2 (by simpa using h)
      · intro h; cases h
  · rename_i hh
    have hh' : hasF L ks i = false := by simpa using hh
    obtain ⟨g1, g2⟩ := leftK_learn (L := L) (ks := ks) hl hi
    split
    · split
      · intro _; exact g2 hh'
      · intro h; cases h
    · split
      · split
        · intro _; exact g2 hh'
        · intro h; cases h
      · intro h; cases h

theorem learn_mono (hl : ks.length = L.length) {d i : Nat} (hd : d < L.length) (h : hasF L ks i = true) : hasF L (learnF L ks d) i = true := by
  rw [hasF_learn d i (by rw [hl]; exact FI_lt hd), h]; simp
theorem step_mono (hg : GoodT L) (hl : ks.length = L.length) {i j : Nat} (hi : i < L.length) (h : hasF L ks j = true) : hasF L (stepF L ks L[i] i).1 j = true := by
  obtain ⟨ha, hb, _⟩ := ok_ab hg hi
  unfold stepF
  split
  · split
    · rename_i k2
      have a1 := ha (.inl k2)
      have b1 := hb (.inl k2)
      exact learn_mono (by rw [learnF_len]; exact hl) (by omega) (learn_mono hl (by omega) h)
    · split
      · rename_i k3
        have b1 := hb (.inr k3.1)
        exact learn_mono hl (by omega) h
      · exact h
  · split
    · split
      · exact learn_mono hl hi h
      · exact h
    · split
      · split
        · exact learn_mono hl hi h
        · exact h
      · exact h

/-- Nothing more is learnt of i. -/
theorem step_done (hg : GoodT L) (hl : ks.length = L.length) {i : Nat} (hi : i < L.length) (h : (stepF L ks L[i] i).2 = false) : (stepF L ks L[i] i).1 = ks ∧
    (hasF L ks i = true → L[i].k = 2 → hasF L ks L[i].a.toNat = true ∧ hasF L ks L[i].b.toNat = true) ∧
    (hasF L ks i = true → L[i].k = 3 → hasF L ks L[i].a.toNat = true → hasF L ks L[i].b.toNat = true) ∧
    (L[i].k = 2 ∨ L[i].k = 3 → hasF L ks L[i].a.toNat = true → hasF L ks L[i].b.toNat = true → hasF L ks i = true) ∧
    (L[i].k = 4 → hasF L ks L[i].a.toNat = true → hasF L ks i = true) := by
  obtain ⟨ha, hb, _⟩ := ok_ab hg hi
  generalize hx : L[i] = x at h ha hb
  unfold stepF at h ⊢
  by_cases hh : hasF L ks i = true
  · rw [if_pos hh] at h ⊢
    by_cases k2 : x.k = 2
    · rw [if_pos k2] at h ⊢
      simp only [Bool.or_eq_false_iff, Bool.not_eq_false'] at h
      have e1 := learnF_same (L := L) (ks := ks) _ h.1
      rw [e1] at h
      have e2 := learnF_same (L := L) (ks := ks) _ h.2
      refine ⟨by simp only [e1, e2], fun _ _ => h, fun _ k3 => by omega, fun _ _ _ => hh, fun k4 => by omega⟩
    · rw [if_neg k2] at h ⊢
      by_cases k3 : x.k = 3 ∧ hasF L ks x.a.toNat = true
      · rw [if_pos k3] at h ⊢
        have e1 : hasF L ks x.b.toNat = true := by simpa using h
        exact ⟨learnF_same _ e1, fun _ k => absurd k k2, fun _ _ _ => e1, fun _ _ _ => hh, fun _ _ => hh⟩
      · rw [if_neg k3]
        exact ⟨rfl, fun _ k => absurd k k2, fun _ k a => absurd ⟨k, a⟩ k3, fun _ _ _ => hh, fun _ _ => hh⟩
  · rw [if_neg hh] at h ⊢
    by_cases k23 : x.k = 2 ∨ x.k = 3
    · rw [if_pos k23] at h ⊢
      by_cases h2 : hasF L ks x.a.toNat = true ∧ hasF L ks x.b.toNat = true
      · rw [if_pos h2] at h; cases h
      · rw [if_neg h2]
        exact ⟨rfl, fun q => absurd q hh, fun q => absurd q hh, fun _ a b => absurd ⟨a, b⟩ h2, fun k4 => by omega⟩
    · rw [if_neg k23] at h ⊢
      by_cases k4 : x.k = 4
      · rw [if_pos k4] at h ⊢
        by_cases h2 : hasF L ks x.a.toNat = true
        · rw [if_pos h2] at h; cases h
        · rw [if_neg h2]
          exact ⟨rfl, fun q => absurd q hh, fun q => absurd q hh, fun k => absurd k k23, fun _ a => absurd a h2⟩
      · rw [if_neg k4]
        exact ⟨rfl, fun q => absurd q hh, fun q => absurd q hh, fun k => absurd k k23, fun k => absurd k k4⟩

/-- Closed: all that can be known is known. -/
theorem closed_all (hg : GoodT L) (hl : ks.length = L.length) (hb : ∀ i : Nat, i < L.length → S i → hasF L ks i = true) (hc : ∀ i (hi : i < L.length), (stepF L ks L[i] i).2 = false) {i : Nat} (k : Kn L S i) : hasF L ks i = true := by
  induction k with
  | base hi hs => exact hb _ hi hs
  | same hi he _ ih => unfold hasF at *; rw [he]; exact ih
  | fst hi hk _ ih => exact ((step_done hg hl hi (hc _ hi)).2.1 ih hk).1
  | snd hi hk _ ih => exact ((step_done hg hl hi (hc _ hi)).2.1 ih hk).2
  | opened hi hk _ _ ih ih' => exact (step_done hg hl hi (hc _ hi)).2.2.1 ih hk ih'
  | pair hi hk _ _ ih ih' => exact (step_done hg hl hi (hc _ hi)).2.2.2.1 hk ih ih'
  | key hi hk _ ih => exact (step_done hg hl hi (hc _ hi)).2.2.2.2 hk ih
end
end Go.Bb
