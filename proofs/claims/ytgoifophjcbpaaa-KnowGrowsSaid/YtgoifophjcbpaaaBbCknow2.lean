/- Contracts of the package know: what is known. -/
import Derived.Test.YtgoifophjcbpaaaBbCknow1
namespace Go.Bb
set_option linter.unusedSimpArgs false
set_option linter.unusedVariables false
set_option maxRecDepth 20000

/-! ### the first ones lie ahead -/
theorem fstep_inv (s : FSt) (x : Th) (h1 : ∀ (j : Nat) (y : Int), s.1[j]? = some y → 0 ≤ y ∧ y ≤ j) (h2 : ∀ p ∈ s.2, 0 ≤ p.2 ∧ p.2 < s.1.length) :
    (∀ (j : Nat) (y : Int), (fstep s x).1[j]? = some y → 0 ≤ y ∧ y ≤ j) ∧ (∀ p ∈ (fstep s x).2, 0 ≤ p.2 ∧ p.2 < (fstep s x).1.length) := by
  have app : ∀ z : Int, 0 ≤ z → z ≤ s.1.length → ∀ (j : Nat) (y : Int), (s.1 ++ [z])[j]? = some y → 0 ≤ y ∧ y ≤ j := by
    intro z z0 z1 j y hy
    rw [List.getElem?_append] at hy
    split at hy
    · exact h1 j y hy
    · rename_i hj
      have : j - s.1.length = 0 := by
        rcases Nat.eq_zero_or_pos (j - s.1.length) with g | g
        · exact g
        · rw [List.getElem?_eq_none (by simp; omega)] at hy; cases hy
      rw [this] at hy
      simp at hy; subst hy
      omega
  unfold fstep
  split
  · rename_i p hp
    have := h2 p (List.mem_of_find?_eq_some hp)
    refine ⟨app _ this.1 (by omega), ?_⟩
    intro q hq
    have := h2 q hq
    simp only [List.length_append, List.length_cons, List.length_nil]; omega
  · refine ⟨app _ (by omega) (by omega), ?_⟩
    intro q hq
    simp only [List.mem_append, List.mem_singleton] at hq
    simp only [List.length_append, List.length_cons, List.length_nil]
    rcases hq with hq | rfl
    · have := h2 q hq; omega
    · simp; omega
theorem firstsS_inv : ∀ (L : List Th) (s : FSt), (∀ (j : Nat) (y : Int), s.1[j]? = some y → 0 ≤ y ∧ y ≤ j) → (∀ p ∈ s.2, 0 ≤ p.2 ∧ p.2 < s.1.length) →
    (∀ (j : Nat) (y : Int), (L.foldl fstep s).1[j]? = some y → 0 ≤ y ∧ y ≤ j)
  | [], s, h1, h2 => h1
  | x :: L, s, h1, h2 => by
    obtain ⟨g1, g2⟩ := fstep_inv s x h1 h2
    exact firstsS_inv L _ g1 g2

/-- The first one that is the same. -/
def FI (L : List Th) (i : Nat) : Nat := ((firstsF L).getD i 0).toNat
theorem firstsF_at (L : List Th) {i : Nat} (hi : i < L.length) : ∃ h : i < (firstsF L).length, (firstsF L)[i] = (FI L i : Int) ∧ FI L i ≤ i := by
  have hl := firstsF_len L
  refine ⟨by omega, ?_⟩
  have := firstsS_inv L ([], []) (by simp) (by simp) i ((firstsF L)[i]'(by omega)) (by rw [← List.getElem?_eq_getElem]; rfl)
  unfold FI
  rw [List.getD_eq_getElem?_getD, List.getElem?_eq_getElem (by omega)]
  simp only [Option.getD_some]
  omega

/-! ### what is known -/
def hasF (L : List Th) (ks : List Bool) (i : Nat) : Bool := ks.getD (FI L i) false
def learnF (L : List Th) (ks : List Bool) (i : Nat) : List Bool := ks.set (FI L i) true
def stepF (L : List Th) (ks : List Bool) (x : Th) (i : Nat) : List Bool × Bool :=
  if hasF L ks i = true then
    if x.k = 2 then (learnF L (learnF L ks x.a.toNat) x.b.toNat, !hasF L ks x.a.toNat || !hasF L (learnF L ks x.a.toNat) x.b.toNat)
    else if x.k = 3 ∧ hasF L ks x.a.toNat = true then (learnF L ks x.b.toNat, !hasF L ks x.b.toNat)
    else (ks, false)
  else if x.k = 2 ∨ x.k = 3 then
    if hasF L ks x.a.toNat = true ∧ hasF L ks x.b.toNat = true then (learnF L ks i, true) else (ks, false)
  else if x.k = 4 then
    if hasF L ks x.a.toNat = true then (learnF L ks i, true) else (ks, false)
  else (ks, false)

structure Knw (h : Heap) (bk bf bn : Nat) (vt : Value) (L : List Th) (ks : List Bool) : Prop where
  k : h bk = some (.own 0 [vt, .slice (some ⟨bf, 0, none⟩) L.length L.length, .slice (some ⟨bn, 0, none⟩) L.length L.length] 3)
  f : h bf = some (.own 0 ((firstsF L).map (.int .i64)) L.length)
  n : h bn = some (.own 0 (ks.map .bool) L.length)
  len : ks.length = L.length
  kf : bk ≠ bf
  kn : bk ≠ bn
  fn : bf ≠ bn

theorem Knw.le {h h' : Heap} {bk bf bn : Nat} {vt : Value} {L : List Th} {ks : List Bool} (p : Knw h bk bf bn vt L ks) (x : h.le h') : Knw h' bk bf bn vt L ks :=
  ⟨x _ _ p.k, x _ _ p.f, x _ _ p.n, p.len, p.kf, p.kn, p.fn⟩
def Heap.leB (h h' : Heap) (b : Nat) : Prop := ∀ c x, c ≠ b → h c = some x → h' c = some x
theorem Heap.leB_refl (h : Heap) (b : Nat) : h.leB h b := fun _ _ _ x => x
theorem Heap.leB_trans {a b c : Heap} {k : Nat} (x : a.leB b k) (y : b.leB c k) : a.leB c k := fun i v hn h => y i v hn (x i v hn h)
theorem Heap.le_leB {a b : Heap} {k : Nat} (x : a.le b) : a.leB b k := fun i v _ h => x i v h

section
variable (E : EnvT tab) {h : Heap} {bk bf bn : Nat} {vt : Value} {L : List Th} {ks : List Bool}

theorem know_has_c (p : Knw h bk bf bn vt L ks) {i : Nat} (hi : i < L.length) : ACallN E.toEnv n_know_knower_has [.pointer (some ⟨bk, 0, none⟩), .int .i64 i] h fun v h' => h' = h ∧ v = .bool (hasF L ks i) := by
  obtain ⟨f1, f2, f3⟩ := firstsF_at L hi
  have c0 : hcell h ⟨bk, 1, none⟩ = _ := hcell_at (off := 1) p.k (by simp)
  have c1 : hcell h ⟨bk, 2, none⟩ = _ := hcell_at (off := 2) p.k (by simp)
  have c2 : hcell h ⟨bf, i, none⟩ = some (.int .i64 (FI L i)) := by rw [hcell_at (off := i) p.f (by simpa using f1)]; simp [f2]
  have c3 : hcell h ⟨bn, FI L i, none⟩ = some (.bool (hasF L ks i)) := by
    have hl := p.len
    rw [hcell_at (off := FI L i) p.n (by simp; omega)]
    simp [hasF, List.getD_eq_getElem?_getD, List.getElem?_eq_getElem (show FI L i < ks.length by omega)]
  have e1 : (i : Int) < L.length := by omega
  have e2 : (0 : Int) ≤ i := by omega
  have e3 : (FI L i : Int) < L.length := by omega
  have e4 : (0 : Int) ≤ FI L i := by omega
  refine acall h_know_knower_has ir_know_knower_has rfl rfl (wpA_sound ?_)
  unfold ir_know_knower_has
  simp -implicitDefEqProofs only [wpA_skip, wpA_ops, wpA_dops, wpA_seq, wpA_cond, wpA_block, wpA_scope, wpA_exit, wpA_ret, wpA_loop, WhenA_true, WhenA_false, condO_true, condO_false, condO_bool, qSeq_normal, qSeq_exit, qSeq_ret, qBlock_normal, qBlock_ret, qBlock_same, qBlock_other, qRet_normal, qRet_ret, retO, retL, retV, guardOps_bool, WhenS_true, WhenS_false, WhenR_true, WhenR_false, guardD_bool, WhenD_true, WhenD_false, WhenN_true, WhenN_false, runOps_nil, runOps_none, runOps_guard, runD_nil, runD_guard, contOps_app, contDW_app, contDA_app, contK_app, withV_some, withV_none, withH_some, withH_none, withA_some, withA_none, withB_some, callO_some, callvO_some, storeO_some, appendO_some, appendZO_some, copyO_some, mupdO_some, mdelO_some, bytesOfO_some, markO_some, step_mv, runD_mv, step_num, runD_num, step_pick, runD_pick, step_load, runD_load, step_nilc, runD_nilc, step_bin, runD_bin, step_eqv, runD_eqv, step_eqa, runD_eqa, step_un, runD_un, step_conv, runD_conv, step_strOf, runD_strOf, step_strId, runD_strId, step_faddr, runD_faddr, step_field, runD_field, step_iaddrA, runD_iaddrA, step_iaddrS, runD_iaddrS, step_idxA, runD_idxA, step_idxS, runD_idxS, step_ext, runD_ext, step_lenS, runD_lenS, step_lenStr, runD_lenStr, step_capS, runD_capS, step_mn, runD_mn, step_mx, runD_mx, step_slStr, runD_slStr, step_slSl, runD_slSl, step_slArr, runD_slArr, step_arrOf, runD_arrOf, step_fn, runD_fn, step_build, runD_build, step_prim, runD_prim, step_lookup, runD_lookup, step_lenM, runD_lenM, step_alloc, runD_alloc, step_box, runD_box, step_bslice, runD_bslice, step_mslice, runD_mslice, step_mmap, runD_mmap, runD_store, runD_call, runD_callv, runD_append, runD_appendZ, runD_copy, runD_mupd, runD_mdel, runD_bytesOf, runD_mark, runDb_mv, runDb_num, runDb_pick, runDb_load, runDb_nilc, runDb_bin, runDb_eqv, runDb_eqa, runDb_un, runDb_conv, runDb_strOf, runDb_strId, runDb_faddr, runDb_field, runDb_iaddrA, runDb_iaddrS, runDb_idxA, runDb_idxS, runDb_ext, runDb_lenS, runDb_lenStr, runDb_capS, runDb_mn, runDb_mx, runDb_slStr, runDb_slSl, runDb_slArr, runDb_arrOf, runDb_fn, runDb_build, runDb_prim, runDb_lookup, runDb_lenM, step_call, step_callv, step_store, step_append, step_appendZ, step_copy, step_mupd, step_mdel, step_bytesOf, step_mark, pureV, allocV, allV, allP, fillL, oev_t, oev_c, readK, partK, tput_some, tput_none, tl_nil, tl_cons, tkeep_eq, keepL, consO, argsT, Option.map_some, Option.map_none, Option.some.injEq, reduceIte, reduceCtorEq, Nat.reduceEqDiff, Nat.reduceAdd, Nat.reduceMul, Nat.reduceLT, Nat.reduceSub, Int.reduceLT, Int.reduceLE, Int.reduceEq, Int.reduceNe, Int.reduceBEq, Int.reduceBNe, Int.reduceGT, Int.reduceGE, Nat.reduceGT, Int.reduceToNat, Int.reduceNeg, Nat.reduceLeDiff, Nat.reduceBEq, Nat.reduceBneDiff, binV, eqV, unV, oOpt, true_and, and_true, Value.cells, List.length_cons, List.length_nil, List.append_nil, List.nil_append, List.cons_append, List.drop_succ_cons, List.drop_zero, List.take_succ_cons, List.take_zero, List.take_nil, List.getElem?_cons_zero, List.getElem?_cons_succ, decide_true, decide_false, decide_eq_true_eq, decide_eq_false_iff_not, Bool.false_eq_true, Bool.true_eq_false, Bool.not_true, Bool.not_false, Bool.not_eq_true', Bool.not_eq_false', Bool.not_eq_true, Bool.not_eq_false, false_implies, true_implies, beq_iff_eq, beq_eq_false_iff_ne, bne_iff_ne, bne_eq_false_iff_eq, ne_eq, ge_iff_le, gt_iff_lt, Int.not_lt, Int.not_le, not_true_eq_false, not_false_eq_true, if_true, if_false, hcell_self, hcells_self, storeV_one, storeV_agg, Heap.set_set, one_int, one_bool, one_str, one_ptr, one_slice, one_map, List.getElem_cons_zero, List.getElem_cons_succ, List.set_cons_zero, List.set_cons_succ, List.length_set, List.all_cons, List.all_nil, Bool.and_true, Bool.true_and, Bool.and_self, Nat.add_zero, Nat.zero_add, Nat.zero_lt_succ, Int.cast_ofNat_Int, List.size_toArray, List.flatten_replicate_singleton, Nat.mul_one, Nat.le_refl, Nat.lt_irrefl, Nat.le_add_left, c0, c1, c2, c3, e1, e2, e3, e4, Int.toNat_natCast]

theorem know_learn_c (p : Knw h bk bf bn vt L ks) {i : Nat} (hi : i < L.length) : ACallN E.toEnv n_know_knower_learn [.pointer (some ⟨bk, 0, none⟩), .int .i64 i] h fun v h' => h.leB h' bn ∧ Knw h' bk bf bn vt L (learnF L ks i) ∧ v = .bool (!hasF L ks i) := by
  obtain ⟨f1, f2, f3⟩ := firstsF_at L hi
  have c0 : hcell h ⟨bk, 1, none⟩ = _ := hcell_at (off := 1) p.k (by simp)
  have c1 : hcell h ⟨bk, 2, none⟩ = _ := hcell_at (off := 2) p.k (by simp)
  have c2 : hcell h ⟨bf, i, none⟩ = some (.int .i64 (FI L i)) := by rw [hcell_at (off := i) p.f (by simpa using f1)]; simp [f2]
  have hl := p.len
  have c3 : storeV h 1 (.pointer (some ⟨bn, FI L i, none⟩)) (.bool true) = _ := storeV_one_at (off := FI L i) p.n rfl (by simp; omega) (by simp; omega)
  have e1 : (i : Int) < L.length := by omega
  have e2 : (0 : Int) ≤ i := by omega
  have e3 : (FI L i : Int) < L.length := by omega
  have e4 : (0 : Int) ≤ FI L i := by omega
  refine acall h_know_knower_learn ir_know_knower_learn rfl rfl (wpA_sound ?_)
  unfold ir_know_knower_learn
  simp -implicitDefEqProofs only [wpA_skip, wpA_ops, wpA_dops, wpA_seq, wpA_cond, wpA_block, wpA_scope, wpA_exit, wpA_ret, wpA_loop, WhenA_true, WhenA_false, condO_true, condO_false, condO_bool, qSeq_normal, qSeq_exit, qSeq_ret, qBlock_normal, qBlock_ret, qBlock_same, qBlock_other, qRet_normal, qRet_ret, retO, retL, retV, guardOps_bool, WhenS_true, WhenS_false, WhenR_true, WhenR_false, guardD_bool, WhenD_true, WhenD_false, WhenN_true, WhenN_false, runOps_nil, runOps_none, runOps_guard, runD_nil, runD_guard, contOps_app, contDW_app, contDA_app, contK_app, withV_some, withV_none, withH_some, withH_none, withA_some, withA_none, withB_some, callO_some, callvO_some, storeO_some, appendO_some, appendZO_some, copyO_some, mupdO_some, mdelO_some, bytesOfO_some, markO_some, step_mv, runD_mv, step_num, runD_num, step_pick, runD_pick, step_load, runD_load, step_nilc, runD_nilc, step_bin, runD_bin, step_eqv, runD_eqv, step_eqa, runD_eqa, step_un, runD_un, step_conv, runD_conv, step_strOf, runD_strOf, step_strId, runD_strId, step_faddr, runD_faddr, step_field, runD_field, step_iaddrA, runD_iaddrA, step_iaddrS, runD_iaddrS, step_idxA, runD_idxA, step_idxS, runD_idxS, step_ext, runD_ext, step_lenS, runD_lenS, step_lenStr, runD_lenStr, step_capS, runD_capS, step_mn, runD_mn, step_mx, runD_mx, step_slStr, runD_slStr, step_slSl, runD_slSl, step_slArr, runD_slArr, step_arrOf, runD_arrOf, step_fn, runD_fn, step_build, runD_build, step_prim, runD_prim, step_lookup, runD_lookup, step_lenM, runD_lenM, step_alloc, runD_alloc, step_box, runD_box, step_bslice, runD_bslice, step_mslice, runD_mslice, step_mmap, runD_mmap, runD_store, runD_call, runD_callv, runD_append, runD_appendZ, runD_copy, runD_mupd, runD_mdel, runD_bytesOf, runD_mark, runDb_mv, runDb_num, runDb_pick, runDb_load, runDb_nilc, runDb_bin, runDb_eqv, runDb_eqa, runDb_un, runDb_conv, runDb_strOf, runDb_strId, runDb_faddr, runDb_field, runDb_iaddrA, runDb_iaddrS, runDb_idxA, runDb_idxS, runDb_ext, runDb_lenS, runDb_lenStr, runDb_capS, runDb_mn, runDb_mx, runDb_slStr, runDb_slSl, runDb_slArr, runDb_arrOf, runDb_fn, runDb_build, runDb_prim, runDb_lookup, runDb_lenM, step_call, step_callv, step_store, step_append, step_appendZ, step_copy, step_mupd, step_mdel, step_bytesOf, step_mark, pureV, allocV, allV, allP, fillL, oev_t, oev_c, readK, partK, tput_some, tput_none, tl_nil, tl_cons, tkeep_eq, keepL, consO, argsT, Option.map_some, Option.map_none, Option.some.injEq, reduceIte, reduceCtorEq, Nat.reduceEqDiff, Nat.reduceAdd, Nat.reduceMul, Nat.reduceLT, Nat.reduceSub, Int.reduceLT, Int.reduceLE, Int.reduceEq, Int.reduceNe, Int.reduceBEq, Int.reduceBNe, Int.reduceGT, Int.reduceGE, Nat.reduceGT, Int.reduceToNat, Int.reduceNeg, Nat.reduceLeDiff, Nat.reduceBEq, Nat.reduceBneDiff, binV, eqV, unV, oOpt, true_and, and_true, Value.cells, List.length_cons, List.length_nil, List.append_nil, List.nil_append, List.cons_append, List.drop_succ_cons, List.drop_zero, List.take_succ_cons, List.take_zero, List.take_nil, List.getElem?_cons_zero, List.getElem?_cons_succ, decide_true, decide_false, decide_eq_true_eq, decide_eq_false_iff_not, Bool.false_eq_true, Bool.true_eq_false, Bool.not_true, Bool.not_false, Bool.not_eq_true', Bool.not_eq_false', Bool.not_eq_true, Bool.not_eq_false, false_implies, true_implies, beq_iff_eq, beq_eq_false_iff_ne, bne_iff_ne, bne_eq_false_iff_eq, ne_eq, ge_iff_le, gt_iff_lt, Int.not_lt, Int.not_le, not_true_eq_false, not_false_eq_true, if_true, if_false, hcell_self, hcells_self, storeV_one, storeV_agg, Heap.set_set, one_int, one_bool, one_str, one_ptr, one_slice, one_map, List.getElem_cons_zero, List.getElem_cons_succ, List.set_cons_zero, List.set_cons_succ, List.length_set, List.all_cons, List.all_nil, Bool.and_true, Bool.true_and, Bool.and_self, Nat.add_zero, Nat.zero_add, Nat.zero_lt_succ, Int.cast_ofNat_Int, List.size_toArray, List.flatten_replicate_singleton, Nat.mul_one, Nat.le_refl, Nat.lt_irrefl, Nat.le_add_left]
  refine (know_has_c E p hi).mono ?_
  rintro v h' ⟨rfl, rfl⟩
  simp -implicitDefEqProofs only [wpA_skip, wpA_ops, wpA_dops, wpA_seq, wpA_cond, wpA_block, wpA_scope, wpA_exit, wpA_ret, wpA_loop, WhenA_true, WhenA_false, condO_true, condO_false, condO_bool, qSeq_normal, qSeq_exit, qSeq_ret, qBlock_normal, qBlock_ret, qBlock_same, qBlock_other, qRet_normal, qRet_ret, retO, retL, retV, guardOps_bool, WhenS_true, WhenS_false, WhenR_true, WhenR_false, guardD_bool, WhenD_true, WhenD_false, WhenN_true, WhenN_false, runOps_nil, runOps_none, runOps_guard, runD_nil, runD_guard, contOps_app, contDW_app, contDA_app, contK_app, withV_some, withV_none, withH_some, withH_none, withA_some, withA_none, withB_some, callO_some, callvO_some, storeO_some, appendO_some, appendZO_some, copyO_some, mupdO_some, mdelO_some, bytesOfO_some, markO_some, step_mv, runD_mv, step_num, runD_num, step_pick, runD_pick, step_load, runD_load, step_nilc, runD_nilc, step_bin, runD_bin, step_eqv, runD_eqv, step_eqa, runD_eqa, step_un, runD_un, step_conv, runD_conv, step_strOf, runD_strOf, step_strId, runD_strId, step_faddr, runD_faddr, step_field, runD_field, step_iaddrA, runD_iaddrA, step_iaddrS, runD_iaddrS, step_idxA, runD_idxA, step_idxS, runD_idxS, step_ext, runD_ext, step_lenS, runD_lenS, step_lenStr, runD_lenStr, step_capS, runD_capS, step_mn, runD_mn, step_mx, runD_mx, step_slStr, runD_slStr, step_slSl, runD_slSl, step_slArr, runD_slArr, step_arrOf, runD_arrOf, step_fn, runD_fn, step_build, runD_build, step_prim, runD_prim, step_lookup, runD_lookup, step_lenM, runD_lenM, step_alloc, runD_alloc, step_box, runD_box, step_bslice, runD_bslice, step_mslice, runD_mslice, step_mmap, runD_mmap, runD_store, runD_call, runD_callv, runD_append, runD_appendZ, runD_copy, runD_mupd, runD_mdel, runD_bytesOf, runD_mark, runDb_mv, runDb_num, runDb_pick, runDb_load, runDb_nilc, runDb_bin, runDb_eqv, runDb_eqa, runDb_un, runDb_conv, runDb_strOf, runDb_strId, runDb_faddr, runDb_field, runDb_iaddrA, runDb_iaddrS, runDb_idxA, runDb_idxS, runDb_ext, runDb_lenS, runDb_lenStr, runDb_capS, runDb_mn, runDb_mx, runDb_slStr, runDb_slSl, runDb_slArr, runDb_arrOf, runDb_fn, runDb_build, runDb_prim, runDb_lookup, runDb_lenM, step_call, step_callv, step_store, step_append, step_appendZ, step_copy, step_mupd, step_mdel, step_bytesOf, step_mark, pureV, allocV, allV, allP, fillL, oev_t, oev_c, readK, partK, tput_some, tput_none, tl_nil, tl_cons, tkeep_eq, keepL, consO, argsT, Option.map_some, Option.map_none, Option.some.injEq, reduceIte, reduceCtorEq, Nat.reduceEqDiff, Nat.reduceAdd, Nat.reduceMul, Nat.reduceLT, Nat.reduceSub, Int.reduceLT, Int.reduceLE, Int.reduceEq, Int.reduceNe, Int.reduceBEq, Int.reduceBNe, Int.reduceGT, Int.reduceGE, Nat.reduceGT, Int.reduceToNat, Int.reduceNeg, Nat.reduceLeDiff, Nat.reduceBEq, Nat.reduceBneDiff, binV, eqV, unV, oOpt, true_and, and_true, Value.cells, List.length_cons, List.length_nil, List.append_nil, List.nil_append, List.cons_append, List.drop_succ_cons, List.drop_zero, List.take_succ_cons, List.take_zero, List.take_nil, List.getElem?_cons_zero, List.getElem?_cons_succ, decide_true, decide_false, decide_eq_true_eq, decide_eq_false_iff_not, Bool.false_eq_true, Bool.true_eq_false, Bool.not_true, Bool.not_false, Bool.not_eq_true', Bool.not_eq_false', Bool.not_eq_true, Bool.not_eq_false, false_implies, true_implies, beq_iff_eq, beq_eq_false_iff_ne, bne_iff_ne, bne_eq_false_iff_eq, ne_eq, ge_iff_le, gt_iff_lt, Int.not_lt, Int.not_le, not_true_eq_false, not_false_eq_true, if_true, if_false, hcell_self, hcells_self, storeV_one, storeV_agg, Heap.set_set, one_int, one_bool, one_str, one_ptr, one_slice, one_map, List.getElem_cons_zero, List.getElem_cons_succ, List.set_cons_zero, List.set_cons_succ, List.length_set, List.all_cons, List.all_nil, Bool.and_true, Bool.true_and, Bool.and_self, Nat.add_zero, Nat.zero_add, Nat.zero_lt_succ, Int.cast_ofNat_Int, List.size_toArray, List.flatten_replicate_singleton, Nat.mul_one, Nat.le_refl, Nat.lt_irrefl, Nat.le_add_left, c0, c1, c2, c3, e1, e2, e3, e4, Int.toNat_natCast]
  refine ⟨fun c x hc hx => by rw [Heap.set_ne hc]; exact hx, ?_⟩
  refine ⟨by rw [Heap.set_ne p.kn]; exact p.k, by rw [Heap.set_ne p.fn]; exact p.f, by rw [Heap.set_self, learnF, List.map_set], by simp [learnF, hl], p.kf, p.kn, p.fn⟩
end
end Go.Bb
