/- My contracts: BbCref4e BbCref1 BbLpoly4 BbLpoly5. -/
import Derived.Test.YtfbhhmmjfoemkaaBbG3
import Derived.Test.YtfbhhmmjfoemkaaBbM2
import Derived.Test.YtfbhhmmjfoemkaaBbM1
import Derived.Test.YtfbhhmmjfoemkaaBbTab
/- The document's poly: Tag. -/
namespace Go.Bb
set_option linter.unusedSimpArgs false
set_option linter.unusedVariables false
set_option maxRecDepth 20000
set_option maxHeartbeats 4000000

theorem tag13 (E : EnvT tab) {h H : Heap} {Q : AExit → T → Heap → Prop} {base : Option Addr} {c b2 b4 b7 b9 b11 i n : Nat} {l : List UInt8} {q r : Nat → Nat} {nz : Int} (xs : List (Nat × Value)) (hnz : nz = (n : Int))
    (sl : SlB h (.slice base l.length c) l) (hi : i < l.length) (hl : l.length ≤ 100000000) (hn : n = min 16 (l.length - i)) (hh : h.le H) (h9 : h b9 = none) (h11 : h b11 = none)
    (q7 : H b7 = some (.own 0 (rowK .u32 r 17) 17)) (q9 : H b9 = some (.own 0 (rowK .u32 q 17) 17)) (q11 : H b11 = some (.own 0 (rowK .u32 (fun _ => 0) 17) 17))
    (hr : ∀ j, j < 17 → r j < 256) (nq : NormD q) (n97 : b7 ≠ b9) (nb : b7 ≠ b11) (n911 : b9 ≠ b11)
    (hQ : ∀ H' p, h.le H' → (∀ b y, b ≠ b9 → b ≠ b11 → H b = some y → H' b = some y) → H' b9 = some (.own 0 (rowK .u32 p 17) 17) → NormD p → valD p 17 % PQ = (valD q 17 + blkV ((l.drop i).take n)) * valD r 17 % PQ →
      Q .normal (tl [(1, .slice base l.length c), (2, .pointer (some ⟨b2, 0, none⟩)), (4, .pointer (some ⟨b4, 0, none⟩)), (7, .pointer (some ⟨b7, 0, none⟩)), (9, .pointer (some ⟨b9, 0, none⟩)), (10, .int .i64 i)]) H') :
    wpA E.toEnv 95 ir_bandboxref4_Tag_13 Q (tl ([(1, .slice base l.length c), (2, .pointer (some ⟨b2, 0, none⟩)), (4, .pointer (some ⟨b4, 0, none⟩)), (7, .pointer (some ⟨b7, 0, none⟩)), (9, .pointer (some ⟨b9, 0, none⟩)), (10, .int .i64 i), (11, .pointer (some ⟨b11, 0, none⟩)), (12, .int .i64 nz)] ++ xs)) H := by
  subst hnz
  unfold ir_bandboxref4_Tag_13
  simp -implicitDefEqProofs only [zB1,zB2,zB3,zB4,zB5,zB6,zB7,zB8,zB9,zB10,zB11,y00,y01,y02,y03,y04,y05,y06,y07,y08,y09,y0a,y0b,y0c,y0d,y0e,y0f,y0g,y0h,y0i,y0j,y0k,y0l,y0m,y0n,y0o,y0p,y0q,y0r,y0s,y0t,y0u,y0v,y0w,y0x,y0y,y0z,y10,y11,y12,y13,y14,y15,y16,y17,y18,y19,y1a,y1b,y1c,y1d,y1e,y1f,y1g,y1h,y1i,y1j,y1k,y1l,y1m,y1n,y1o,y1p,y1q,y1r,retO,retL,retV,z69,allV,allP,z6a,z6d,z6e,z6k,z6l,z6m,binV,eqV,unV,oOpt,reduceIte,reduceCtorEq,Nat.reduceEqDiff,Nat.reduceAdd,Nat.reduceMul,Nat.reduceLT,Nat.reduceSub,Int.reduceLT,Int.reduceLE,Int.reduceEq,Int.reduceNe,Int.reduceSub,Int.reduceAdd,Int.reduceMul,Int.reduceBEq,Int.reduceBNe,Int.reduceGT,Int.reduceGE,Nat.reduceGT,Int.reduceToNat,Int.reduceNeg,Nat.reduceLeDiff,Nat.reduceBEq,Nat.reduceBneDiff,Value.cells]
  refine wp_loop' (fun m t H' => ∃ k : Nat, k ≤ n ∧ m = n - k ∧ t = tl [(1, .slice base l.length c), (2, .pointer (some ⟨b2, 0, none⟩)), (4, .pointer (some ⟨b4, 0, none⟩)), (7, .pointer (some ⟨b7, 0, none⟩)), (9, .pointer (some ⟨b9, 0, none⟩)), (10, .int .i64 i), (11, .pointer (some ⟨b11, 0, none⟩)), (12, .int .i64 n), (13, .int .i64 k)] ∧
    H' = H.set b11 (.own 0 (rowK .u32 (blendF (fun j => (((l.drop i).take n).getD j 0).toNat) (fun _ => 0) k) 17) 17)) n ⟨0, by omega, by omega, rfl, by rw [blendF_0, Heap.set_same q11]⟩ ?_
  rintro m t H' ⟨k, hk, rfl, rfl, rfl⟩
  have q11' := Heap.set_self H b11 (.own 0 (rowK .u32 (blendF (fun j => (((l.drop i).take n).getD j 0).toNat) (fun _ => 0) k) 17) 17)
  by_cases hlt : (k : Int) < (n : Int)
  · have hk' : k < n := by omega
    have hx : l[i + k]'(by omega) = ((l.drop i).take n).getD k 0 := by
      simp [List.getD_eq_getElem?_getD, List.getElem?_take, List.getElem?_drop, hk']
      rw [List.getElem?_eq_getElem (by omega)]; rfl
    obtain ⟨b, o, c', hv, hc, hcl⟩ := Sl.byte_at sl (i + k) (by omega)
    simp only [Value.slice.injEq, true_and] at hv
    obtain ⟨rfl, rfl⟩ := hv
    have hz := hcl (H.set b11 (.own 0 (rowK .u32 (blendF (fun j => (((l.drop i).take n).getD j 0).toNat) (fun _ => 0) k) 17) 17)) (Heap.le_set hh h11 _)
    rw [hx] at hz
    unfold u8V at hz
    have e1 : (0 : Int) ≤ ((i + k : Nat) : Int) := by omega
    have e2 : ((i + k : Nat) : Int) < (l.length : Int) := by omega
    have e3 : (k : Int) < 17 := by omega
    have e0 : (0 : Int) ≤ (k : Int) := by omega
    have w1 : IntKind.i64.wrap ((i : Int) + (k : Int)) = ((i + k : Nat) : Int) := by rw [wrapI (by omega) (by omega)]; rfl
    have ht : (((l.drop i).take n).getD k 0).toNat < 256 := (((l.drop i).take n).getD k 0).toNat_lt
    have w2 : IntKind.u32.wrap ((((l.drop i).take n).getD k 0).toNat : Int) = ((((l.drop i).take n).getD k 0).toNat : Int) := wrap_u32n (by omega)
    have w7 : IntKind.i64.wrap ((k : Int) + 1) = ((k + 1 : Nat) : Int) := wrapN (by omega)
    have s11 := rowK_store (z := (((l.drop i).take n).getD k 0).toNat) q11' (show k < 17 by omega) (Nat.le_refl _)
    rw [Heap.set_set, blendF_step (fun j => (((l.drop i).take n).getD j 0).toNat)] at s11
    simp -implicitDefEqProofs only [zB1,zB2,zB3,zB4,zB5,zB6,zB7,zB8,zB9,zB10,zB11,y00,y01,y02,y03,y04,y05,y06,y07,y08,y09,y0a,y0b,y0c,y0d,y0e,y0f,y0g,y0h,y0i,y0j,y0k,y0l,y0m,y0n,y0o,y0p,y0q,y0r,y0s,y0t,y0u,y0v,y0w,y0x,y0y,y0z,y10,y11,y12,y13,y14,y15,y16,y17,y18,y19,y1a,y1b,y1c,y1d,y1e,y1f,y1g,y1h,y1i,y1j,y1k,y1l,y1m,y1n,y1o,y1p,y1q,y1r,retO,retL,retV,z69,allV,allP,z6a,z6d,z6e,z6k,z6l,z6m,binV,eqV,unV,oOpt,reduceIte,reduceCtorEq,Nat.reduceEqDiff,Nat.reduceAdd,Nat.reduceMul,Nat.reduceLT,Nat.reduceSub,Int.reduceLT,Int.reduceLE,Int.reduceEq,Int.reduceNe,Int.reduceSub,Int.reduceAdd,Int.reduceMul,Int.reduceBEq,Int.reduceBNe,Int.reduceGT,Int.reduceGE,Nat.reduceGT,Int.reduceToNat,Int.reduceNeg,Nat.reduceLeDiff,Nat.reduceBEq,Nat.reduceBneDiff,Value.cells, hlt, e0, e1, e2, e3, w1, hz, w2, s11, w7, Int.toNat_natCast]
    exact ⟨_, by omega, k + 1, by omega, rfl, rfl, rfl⟩
  · obtain rfl : k = n := by omega
    have lL : ((l.drop i).take k).length = k := by simp; omega
    have e1 : (0 : Int) ≤ (k : Int) := by omega
    have e2 : (k : Int) < 17 := by omega
    have s11 := rowK_store (z := 1) q11' (show k < 17 by omega) (Nat.le_refl _)
    have eD : upd (blendF (fun j => (((l.drop i).take k).getD j 0).toNat) (fun _ => 0) k) k 1 = endD ((l.drop i).take k) := by unfold endD; rw [lL]
    rw [Heap.set_set, eD, show ((1 : Nat) : Int) = 1 from rfl] at s11
    have hb1 : blkV ((l.drop i).take k) = valD (endD ((l.drop i).take k)) 17 := by rw [endD_val _ (by omega), blkV]
    have d1 := endD_lt ((l.drop i).take k)
    have d2 := endD_16 ((l.drop i).take k) (by omega)
    rw [hb1] at hQ
    generalize endD ((l.drop i).take k) = g at s11 d1 d2 hQ
    simp -implicitDefEqProofs only [zB1,zB2,zB3,zB4,zB5,zB6,zB7,zB8,zB9,zB10,zB11,y00,y01,y02,y03,y04,y05,y06,y07,y08,y09,y0a,y0b,y0c,y0d,y0e,y0f,y0g,y0h,y0i,y0j,y0k,y0l,y0m,y0n,y0o,y0p,y0q,y0r,y0s,y0t,y0u,y0v,y0w,y0x,y0y,y0z,y10,y11,y12,y13,y14,y15,y16,y17,y18,y19,y1a,y1b,y1c,y1d,y1e,y1f,y1g,y1h,y1i,y1j,y1k,y1l,y1m,y1n,y1o,y1p,y1q,y1r,retO,retL,retV,z69,allV,allP,z6a,z6d,z6e,z6k,z6l,z6m,binV,eqV,unV,oOpt,reduceIte,reduceCtorEq,Nat.reduceEqDiff,Nat.reduceAdd,Nat.reduceMul,Nat.reduceLT,Nat.reduceSub,Int.reduceLT,Int.reduceLE,Int.reduceEq,Int.reduceNe,Int.reduceSub,Int.reduceAdd,Int.reduceMul,Int.reduceBEq,Int.reduceBNe,Int.reduceGT,Int.reduceGE,Nat.reduceGT,Int.reduceToNat,Int.reduceNeg,Nat.reduceLeDiff,Nat.reduceBEq,Nat.reduceBneDiff,Value.cells, hlt]
    unfold ir_bandboxref4_Tag_60
    simp -implicitDefEqProofs only [zB1,zB2,zB3,zB4,zB5,zB6,zB7,zB8,zB9,zB10,zB11,y00,y01,y02,y03,y04,y05,y06,y07,y08,y09,y0a,y0b,y0c,y0d,y0e,y0f,y0g,y0h,y0i,y0j,y0k,y0l,y0m,y0n,y0o,y0p,y0q,y0r,y0s,y0t,y0u,y0v,y0w,y0x,y0y,y0z,y10,y11,y12,y13,y14,y15,y16,y17,y18,y19,y1a,y1b,y1c,y1d,y1e,y1f,y1g,y1h,y1i,y1j,y1k,y1l,y1m,y1n,y1o,y1p,y1q,y1r,retO,retL,retV,z69,allV,allP,z6a,z6d,z6e,z6k,z6l,z6m,binV,eqV,unV,oOpt,reduceIte,reduceCtorEq,Nat.reduceEqDiff,Nat.reduceAdd,Nat.reduceMul,Nat.reduceLT,Nat.reduceSub,Int.reduceLT,Int.reduceLE,Int.reduceEq,Int.reduceNe,Int.reduceSub,Int.reduceAdd,Int.reduceMul,Int.reduceBEq,Int.reduceBNe,Int.reduceGT,Int.reduceGE,Nat.reduceGT,Int.reduceToNat,Int.reduceNeg,Nat.reduceLeDiff,Nat.reduceBEq,Nat.reduceBneDiff,Value.cells, e1, e2, Int.toNat_natCast, s11]
    have l9 : hcells (H.set b11 (.own 0 (rowK .u32 g 17) 17)) ⟨b9, 0, none⟩ 17 = some (rowK .u32 q 17) := rowK_cells (set_keep q9 n911)
    have l7 : hcells (H.set b11 (.own 0 (rowK .u32 g 17) 17)) ⟨b7, 0, none⟩ 17 = some (rowK .u32 r 17) := rowK_cells (set_keep q7 nb)
    have l11 : hcells (H.set b11 (.own 0 (rowK .u32 g 17) 17)) ⟨b11, 0, none⟩ 17 = some (rowK .u32 g 17) := z6o (rowK_len _ _ _)
    have q71 : (H.set b11 (.own 0 (rowK .u32 g 17) 17)) b7 = some (.own 0 (rowK .u32 r 17) 17) := set_keep q7 nb
    have q91 : (H.set b11 (.own 0 (rowK .u32 g 17) 17)) b9 = some (.own 0 (rowK .u32 q 17) 17) := set_keep q9 n911
    have hh1 : h.le (H.set b11 (.own 0 (rowK .u32 g 17) 17)) := Heap.le_set hh h11 _
    have keep1 : ∀ b y, b ≠ b9 → b ≠ b11 → H b = some y → (H.set b11 (.own 0 (rowK .u32 g 17) 17)) b = some y := fun b y _ x hy => set_keep hy x
    generalize (H.set b11 (.own 0 (rowK .u32 g 17) 17)) = H1 at l9 l7 l11 q71 q91 hh1 keep1 ⊢
    simp -implicitDefEqProofs only [zB1,zB2,zB3,zB4,zB5,zB6,zB7,zB8,zB9,zB10,zB11,y00,y01,y02,y03,y04,y05,y06,y07,y08,y09,y0a,y0b,y0c,y0d,y0e,y0f,y0g,y0h,y0i,y0j,y0k,y0l,y0m,y0n,y0o,y0p,y0q,y0r,y0s,y0t,y0u,y0v,y0w,y0x,y0y,y0z,y10,y11,y12,y13,y14,y15,y16,y17,y18,y19,y1a,y1b,y1c,y1d,y1e,y1f,y1g,y1h,y1i,y1j,y1k,y1l,y1m,y1n,y1o,y1p,y1q,y1r,retO,retL,retV,z69,allV,allP,z6a,z6d,z6e,z6k,z6l,z6m,binV,eqV,unV,oOpt,reduceIte,reduceCtorEq,Nat.reduceEqDiff,Nat.reduceAdd,Nat.reduceMul,Nat.reduceLT,Nat.reduceSub,Int.reduceLT,Int.reduceLE,Int.reduceEq,Int.reduceNe,Int.reduceSub,Int.reduceAdd,Int.reduceMul,Int.reduceBEq,Int.reduceBNe,Int.reduceGT,Int.reduceGE,Nat.reduceGT,Int.reduceToNat,Int.reduceNeg,Nat.reduceLeDiff,Nat.reduceBEq,Nat.reduceBneDiff,Value.cells, l9, l11]
    refine (ref4_plus_c E _ q g (fun j hj => by have := norm_255 nq j hj; omega) (fun j hj => by have := d1 j; omega)).mono ?_
    rintro v H2 ⟨le2, rfl⟩
    have l7' := hcells_le le2 l7
    simp -implicitDefEqProofs only [zB1,zB2,zB3,zB4,zB5,zB6,zB7,zB8,zB9,zB10,zB11,y00,y01,y02,y03,y04,y05,y06,y07,y08,y09,y0a,y0b,y0c,y0d,y0e,y0f,y0g,y0h,y0i,y0j,y0k,y0l,y0m,y0n,y0o,y0p,y0q,y0r,y0s,y0t,y0u,y0v,y0w,y0x,y0y,y0z,y10,y11,y12,y13,y14,y15,y16,y17,y18,y19,y1a,y1b,y1c,y1d,y1e,y1f,y1g,y1h,y1i,y1j,y1k,y1l,y1m,y1n,y1o,y1p,y1q,y1r,retO,retL,retV,z69,allV,allP,z6a,z6d,z6e,z6k,z6l,z6m,binV,eqV,unV,oOpt,reduceIte,reduceCtorEq,Nat.reduceEqDiff,Nat.reduceAdd,Nat.reduceMul,Nat.reduceLT,Nat.reduceSub,Int.reduceLT,Int.reduceLE,Int.reduceEq,Int.reduceNe,Int.reduceSub,Int.reduceAdd,Int.reduceMul,Int.reduceBEq,Int.reduceBNe,Int.reduceGT,Int.reduceGE,Nat.reduceGT,Int.reduceToNat,Int.reduceNeg,Nat.reduceLeDiff,Nat.reduceBEq,Nat.reduceBneDiff,Value.cells, l7, l7', List.mem_cons, List.not_mem_nil, List.mem_singleton, or_false, forall_eq, forall_eq_or_imp, implies_true]
    refine (ref4_times_c E _ (addD q g) r (sum_lt nq (fun j _ => d1 j) d2) hr).mono ?_
    rintro v H3 ⟨le3, p, rfl, np, hv⟩
    rw [addD_val] at hv
    have le13 := Heap.le_trans le2 le3
    have s9 := rowK_agg (k := .u32) (f := p) (le13 _ _ q91) (rowK_len _ _ _) (by omega)
    simp -implicitDefEqProofs only [zB1,zB2,zB3,zB4,zB5,zB6,zB7,zB8,zB9,zB10,zB11,y00,y01,y02,y03,y04,y05,y06,y07,y08,y09,y0a,y0b,y0c,y0d,y0e,y0f,y0g,y0h,y0i,y0j,y0k,y0l,y0m,y0n,y0o,y0p,y0q,y0r,y0s,y0t,y0u,y0v,y0w,y0x,y0y,y0z,y10,y11,y12,y13,y14,y15,y16,y17,y18,y19,y1a,y1b,y1c,y1d,y1e,y1f,y1g,y1h,y1i,y1j,y1k,y1l,y1m,y1n,y1o,y1p,y1q,y1r,retO,retL,retV,z69,allV,allP,z6a,z6d,z6e,z6k,z6l,z6m,binV,eqV,unV,oOpt,reduceIte,reduceCtorEq,Nat.reduceEqDiff,Nat.reduceAdd,Nat.reduceMul,Nat.reduceLT,Nat.reduceSub,Int.reduceLT,Int.reduceLE,Int.reduceEq,Int.reduceNe,Int.reduceSub,Int.reduceAdd,Int.reduceMul,Int.reduceBEq,Int.reduceBNe,Int.reduceGT,Int.reduceGE,Nat.reduceGT,Int.reduceToNat,Int.reduceNeg,Nat.reduceLeDiff,Nat.reduceBEq,Nat.reduceBneDiff,Value.cells, s9]
    exact hQ _ p (Heap.le_set (Heap.le_trans hh1 le13) h9 _) (fun b y x1 x2 hy => set_keep (le13 _ _ (keep1 b y x1 x2 hy)) x1) (Heap.set_self _ _ _) np hv

theorem blkV_take (l : List UInt8) (i n : Nat) (hn : n = min 16 (l.length - i)) : blkV ((l.drop i).take n) = blkV ((l.drop i).take 16) := by
  have : (l.drop i).take n = (l.drop i).take 16 := by
    rw [hn]
    by_cases e : 16 ≤ l.length - i
    · rw [Nat.min_eq_left e]
    · rw [Nat.min_eq_right (by omega), List.take_of_length_le (by simp), List.take_of_length_le (by simp; omega)]
  rw [this]

theorem ref4_Tag_c (E : EnvT tab) (h : Heap) {v : Value} (w l : List UInt8) (hw : w.length = 32) (hl : l.length ≤ 100000000) (sl : SlB h v l) :
    ACallN E.toEnv n_bandboxref4_Tag [.agg (w.map u8V).toArray, v] h fun r h' => h.le h' ∧ r = .agg (row8 (tagR w l) 16).toArray := by
  obtain ⟨base, c, rfl⟩ := Sl.shape sl
  refine acall h_bandboxref4_Tag ir_bandboxref4_Tag rfl rfl (wpA_sound ?_)
  unfold ir_bandboxref4_Tag
  have hw' : (w.map u8V).length = 32 := by simp [hw]
  have r16 : (List.replicate 16 (Value.int .u8 0)).all one = true := by decide
  simp -implicitDefEqProofs only [zB1,zB2,zB3,zB4,zB5,zB6,zB7,zB8,zB9,zB10,zB11,y00,y01,y02,y03,y04,y05,y06,y07,y08,y09,y0a,y0b,y0c,y0d,y0e,y0f,y0g,y0h,y0i,y0j,y0k,y0l,y0m,y0n,y0o,y0p,y0q,y0r,y0s,y0t,y0u,y0v,y0w,y0x,y0y,y0z,y10,y11,y12,y13,y14,y15,y16,y17,y18,y19,y1a,y1b,y1c,y1d,y1e,y1f,y1g,y1h,y1i,y1j,y1k,y1l,y1m,y1n,y1o,y1p,y1q,y1r,retO,retL,retV,z69,allV,allP,z6a,z6d,z6e,z6k,z6l,z6m,binV,eqV,unV,oOpt,reduceIte,reduceCtorEq,Nat.reduceEqDiff,Nat.reduceAdd,Nat.reduceMul,Nat.reduceLT,Nat.reduceSub,Int.reduceLT,Int.reduceLE,Int.reduceEq,Int.reduceNe,Int.reduceSub,Int.reduceAdd,Int.reduceMul,Int.reduceBEq,Int.reduceBNe,Int.reduceGT,Int.reduceGE,Nat.reduceGT,Int.reduceToNat,Int.reduceNeg,Nat.reduceLeDiff,Nat.reduceBEq,Nat.reduceBneDiff,Value.cells, hw', List.length_replicate]
  intro b2 hb2 b4 hb4
  obtain ⟨n42, hb4'⟩ := Heap.set_none.1 hb4
  have le1 : h.le ((h.set b2 (.own 0 (w.map u8V) 32)).set b4 (.own 0 (List.replicate 16 (.int .u8 0)) 16)) := Heap.le_set (Heap.le_set (Heap.le_refl _) hb2 _) hb4' _
  have q2 : ((h.set b2 (.own 0 (w.map u8V) 32)).set b4 (.own 0 (List.replicate 16 (.int .u8 0)) 16)) b2 = some (.own 0 (w.map u8V) 32) := set_keep (Heap.set_self _ _ _) (Ne.symm n42)
  have q4 : ((h.set b2 (.own 0 (w.map u8V) 32)).set b4 (.own 0 (List.replicate 16 (.int .u8 0)) 16)) b4 = some (.own 0 (List.replicate 16 (.int .u8 0)) 16) := Heap.set_self _ _ _
  generalize ((h.set b2 (.own 0 (w.map u8V) 32)).set b4 (.own 0 (List.replicate 16 (.int .u8 0)) 16)) = h1 at le1 q2 q4 ⊢
  intro b5 hb5
  have st5 : storeV (h1.set b5 (.own 0 (List.replicate 16 (.int .u8 0)) 16)) 16 (.pointer (some ⟨b5, 0, none⟩)) (.agg (List.replicate 16 (Value.int .u8 0)).toArray) = some (h1.set b5 (.own 0 (List.replicate 16 (.int .u8 0)) 16)) := z6q (by omega) (by simp) r16 (by simp) (by omega)
  have bd1 : bnds 32 32 none (some (some (.int .i64 16))) none = some (0, 16, 32) := bnds_hi (by omega) (by omega)
  have n52 := ne_of_none hb5 q2
  simp -implicitDefEqProofs only [zB1,zB2,zB3,zB4,zB5,zB6,zB7,zB8,zB9,zB10,zB11,y00,y01,y02,y03,y04,y05,y06,y07,y08,y09,y0a,y0b,y0c,y0d,y0e,y0f,y0g,y0h,y0i,y0j,y0k,y0l,y0m,y0n,y0o,y0p,y0q,y0r,y0s,y0t,y0u,y0v,y0w,y0x,y0y,y0z,y10,y11,y12,y13,y14,y15,y16,y17,y18,y19,y1a,y1b,y1c,y1d,y1e,y1f,y1g,y1h,y1i,y1j,y1k,y1l,y1m,y1n,y1o,y1p,y1q,y1r,retO,retL,retV,z69,allV,allP,z6a,z6d,z6e,z6k,z6l,z6m,binV,eqV,unV,oOpt,reduceIte,reduceCtorEq,Nat.reduceEqDiff,Nat.reduceAdd,Nat.reduceMul,Nat.reduceLT,Nat.reduceSub,Int.reduceLT,Int.reduceLE,Int.reduceEq,Int.reduceNe,Int.reduceSub,Int.reduceAdd,Int.reduceMul,Int.reduceBEq,Int.reduceBNe,Int.reduceGT,Int.reduceGE,Nat.reduceGT,Int.reduceToNat,Int.reduceNeg,Nat.reduceLeDiff,Nat.reduceBEq,Nat.reduceBneDiff,Value.cells, st5, bnds_no, bd1, Nat.sub_zero, addz, implies_true]
  have sW := own_sl (l := w) (sz := 32) (H := h1.set b5 (.own 0 (List.replicate 16 (.int .u8 0)) 16)) (by rw [Heap.set_ne n52]; exact q2)
  have sW16 := Sl.headB sW (m := 16) (by omega)
  rw [hw] at sW16
  have l16 : (w.take 16).length = 16 := by simp [hw]
  refine copyP_own (size := 1) (m := 16) (Heap.set_self _ _ _) (by simp) (by simp) (by unfold SlB at sW16; rw [l16] at sW16; exact sW16) (one_u8 _) ?_
  have eC : splice (List.replicate 16 (Value.int .u8 0)) 0 (((w.take 16).map u8V).take (min 16 16 * 1)) = (w.take 16).map u8V := by
    rw [List.take_of_length_le (by simp; omega)]
    unfold splice
    simp only [List.take_zero, List.nil_append, List.length_map, l16, Nat.zero_add, List.drop_replicate, Nat.sub_self, List.replicate_zero, List.append_nil]
  rw [eC, Heap.set_set]
  have l5 : hcells (h1.set b5 (.own 0 ((w.take 16).map u8V) 16)) ⟨b5, 0, none⟩ 16 = some (row8 (fun j => w.getD j 0) 16) := by
    rw [z6o (by simp; omega), ← row8_list, l16]
    congr 1
    apply row8_congr
    intro k hk
    simp [List.getElem?_take, hk]
  have le5 := Heap.le_new le1 hb5 (.own 0 ((w.take 16).map u8V) 16)
  have q25 := set_new (X := .own 0 ((w.take 16).map u8V) 16) hb5 q2
  have q45 := set_new (X := .own 0 ((w.take 16).map u8V) 16) hb5 q4
  generalize (h1.set b5 (.own 0 ((w.take 16).map u8V) 16)) = h2 at l5 le5 q25 q45 ⊢
  simp -implicitDefEqProofs only [zB1,zB2,zB3,zB4,zB5,zB6,zB7,zB8,zB9,zB10,zB11,y00,y01,y02,y03,y04,y05,y06,y07,y08,y09,y0a,y0b,y0c,y0d,y0e,y0f,y0g,y0h,y0i,y0j,y0k,y0l,y0m,y0n,y0o,y0p,y0q,y0r,y0s,y0t,y0u,y0v,y0w,y0x,y0y,y0z,y10,y11,y12,y13,y14,y15,y16,y17,y18,y19,y1a,y1b,y1c,y1d,y1e,y1f,y1g,y1h,y1i,y1j,y1k,y1l,y1m,y1n,y1o,y1p,y1q,y1r,retO,retL,retV,z69,allV,allP,z6a,z6d,z6e,z6k,z6l,z6m,binV,eqV,unV,oOpt,reduceIte,reduceCtorEq,Nat.reduceEqDiff,Nat.reduceAdd,Nat.reduceMul,Nat.reduceLT,Nat.reduceSub,Int.reduceLT,Int.reduceLE,Int.reduceEq,Int.reduceNe,Int.reduceSub,Int.reduceAdd,Int.reduceMul,Int.reduceBEq,Int.reduceBNe,Int.reduceGT,Int.reduceGE,Nat.reduceGT,Int.reduceToNat,Int.reduceNeg,Nat.reduceLeDiff,Nat.reduceBEq,Nat.reduceBneDiff,Value.cells]
  unfold ir_bandboxref4_Tag_22
  simp -implicitDefEqProofs only [zB1,zB2,zB3,zB4,zB5,zB6,zB7,zB8,zB9,zB10,zB11,y00,y01,y02,y03,y04,y05,y06,y07,y08,y09,y0a,y0b,y0c,y0d,y0e,y0f,y0g,y0h,y0i,y0j,y0k,y0l,y0m,y0n,y0o,y0p,y0q,y0r,y0s,y0t,y0u,y0v,y0w,y0x,y0y,y0z,y10,y11,y12,y13,y14,y15,y16,y17,y18,y19,y1a,y1b,y1c,y1d,y1e,y1f,y1g,y1h,y1i,y1j,y1k,y1l,y1m,y1n,y1o,y1p,y1q,y1r,retO,retL,retV,z69,allV,allP,z6a,z6d,z6e,z6k,z6l,z6m,binV,eqV,unV,oOpt,reduceIte,reduceCtorEq,Nat.reduceEqDiff,Nat.reduceAdd,Nat.reduceMul,Nat.reduceLT,Nat.reduceSub,Int.reduceLT,Int.reduceLE,Int.reduceEq,Int.reduceNe,Int.reduceSub,Int.reduceAdd,Int.reduceMul,Int.reduceBEq,Int.reduceBNe,Int.reduceGT,Int.reduceGE,Nat.reduceGT,Int.reduceToNat,Int.reduceNeg,Nat.reduceLeDiff,Nat.reduceBEq,Nat.reduceBneDiff,Value.cells, l5]
  refine (ref4_Clamp_c E _ _).mono ?_
  rintro r h3 ⟨le3, rfl⟩
  have eR : row8 (clampG fun j => w.getD j 0) 16 = row8 (keyR w) 16 := rfl
  rw [eR]
  simp -implicitDefEqProofs only [zB1,zB2,zB3,zB4,zB5,zB6,zB7,zB8,zB9,zB10,zB11,y00,y01,y02,y03,y04,y05,y06,y07,y08,y09,y0a,y0b,y0c,y0d,y0e,y0f,y0g,y0h,y0i,y0j,y0k,y0l,y0m,y0n,y0o,y0p,y0q,y0r,y0s,y0t,y0u,y0v,y0w,y0x,y0y,y0z,y10,y11,y12,y13,y14,y15,y16,y17,y18,y19,y1a,y1b,y1c,y1d,y1e,y1f,y1g,y1h,y1i,y1j,y1k,y1l,y1m,y1n,y1o,y1p,y1q,y1r,retO,retL,retV,z69,allV,allP,z6a,z6d,z6e,z6k,z6l,z6m,binV,eqV,unV,oOpt,reduceIte,reduceCtorEq,Nat.reduceEqDiff,Nat.reduceAdd,Nat.reduceMul,Nat.reduceLT,Nat.reduceSub,Int.reduceLT,Int.reduceLE,Int.reduceEq,Int.reduceNe,Int.reduceSub,Int.reduceAdd,Int.reduceMul,Int.reduceBEq,Int.reduceBNe,Int.reduceGT,Int.reduceGE,Nat.reduceGT,Int.reduceToNat,Int.reduceNeg,Nat.reduceLeDiff,Nat.reduceBEq,Nat.reduceBneDiff,Value.cells, List.length_replicate]
  intro b6 hb6
  have st6 : storeV (h3.set b6 (.own 0 (List.replicate 16 (.int .u8 0)) 16)) 16 (.pointer (some ⟨b6, 0, none⟩)) (.agg (row8 (keyR w) 16).toArray) = some (h3.set b6 (.own 0 (row8 (keyR w) 16) 16)) := z6q (by omega) (row8_len _ _) (by simp [row8, one]) (by simp) (by omega)
  simp -implicitDefEqProofs only [zB1,zB2,zB3,zB4,zB5,zB6,zB7,zB8,zB9,zB10,zB11,y00,y01,y02,y03,y04,y05,y06,y07,y08,y09,y0a,y0b,y0c,y0d,y0e,y0f,y0g,y0h,y0i,y0j,y0k,y0l,y0m,y0n,y0o,y0p,y0q,y0r,y0s,y0t,y0u,y0v,y0w,y0x,y0y,y0z,y10,y11,y12,y13,y14,y15,y16,y17,y18,y19,y1a,y1b,y1c,y1d,y1e,y1f,y1g,y1h,y1i,y1j,y1k,y1l,y1m,y1n,y1o,y1p,y1q,y1r,retO,retL,retV,z69,allV,allP,z6a,z6d,z6e,z6k,z6l,z6m,binV,eqV,unV,oOpt,reduceIte,reduceCtorEq,Nat.reduceEqDiff,Nat.reduceAdd,Nat.reduceMul,Nat.reduceLT,Nat.reduceSub,Int.reduceLT,Int.reduceLE,Int.reduceEq,Int.reduceNe,Int.reduceSub,Int.reduceAdd,Int.reduceMul,Int.reduceBEq,Int.reduceBNe,Int.reduceGT,Int.reduceGE,Nat.reduceGT,Int.reduceToNat,Int.reduceNeg,Nat.reduceLeDiff,Nat.reduceBEq,Nat.reduceBneDiff,Value.cells, st6, List.length_replicate]
  have le6 := Heap.le_new (Heap.le_trans le5 le3) hb6 (.own 0 (row8 (keyR w) 16) 16)
  have q26 := set_new (X := .own 0 (row8 (keyR w) 16) 16) hb6 (le3 _ _ q25)
  have q46 := set_new (X := .own 0 (row8 (keyR w) 16) 16) hb6 (le3 _ _ q45)
  have q66 := Heap.set_self h3 b6 (.own 0 (row8 (keyR w) 16) 16)
  generalize (h3.set b6 (.own 0 (row8 (keyR w) 16) 16)) = h4 at le6 q26 q46 q66 ⊢
  intro b7 hb7
  rw [rowK_zero .u32 17]
  have hb7' := Heap.none_of_le le6 hb7
  have le7 := Heap.le_new le6 hb7 (.own 0 (rowK .u32 (fun _ => 0) 17) 17)
  have q27 := set_new (X := .own 0 (rowK .u32 (fun _ => 0) 17) 17) hb7 q26
  have q47 := set_new (X := .own 0 (rowK .u32 (fun _ => 0) 17) 17) hb7 q46
  have q67 := set_new (X := .own 0 (rowK .u32 (fun _ => 0) 17) 17) hb7 q66
  have q77 := Heap.set_self h4 b7 (.own 0 (rowK .u32 (fun _ => 0) 17) 17)
  have n27 := ne_of_none hb7 q26
  have n47 := ne_of_none hb7 q46
  have n67 := ne_of_none hb7 q66
  generalize (h4.set b7 (.own 0 (rowK .u32 (fun _ => 0) 17) 17)) = h5 at le7 q27 q47 q67 q77 ⊢
  refine wp_loop' (fun m t H => h.le H ∧ ∃ i : Nat, i ≤ 16 ∧ m = 16 - i ∧ t = tl [(1, .slice base l.length c), (2, .pointer (some ⟨b2, 0, none⟩)), (4, .pointer (some ⟨b4, 0, none⟩)), (6, .pointer (some ⟨b6, 0, none⟩)), (7, .pointer (some ⟨b7, 0, none⟩)), (8, .int .i64 i)] ∧
      H b2 = some (.own 0 (w.map u8V) 32) ∧ H b4 = some (.own 0 (List.replicate 16 (.int .u8 0)) 16) ∧ H b6 = some (.own 0 (row8 (keyR w) 16) 16) ∧
      H b7 = some (.own 0 (rowK .u32 (blendF (fun j => (keyR w j).toNat) (fun _ => 0) i) 17) 17)) 16 ⟨le7, 0, by omega, rfl, rfl, q27, q47, q67, by rw [blendF_0]; exact q77⟩ ?_
  clear q27 q47 q67 q77 le7
  rintro m t H ⟨leH, i, hi, rfl, rfl, q2, q4, q6, q7⟩
  by_cases hlt : (i : Int) < 16
  · have hi' : i < 16 := by omega
    have e0 : (0 : Int) ≤ (i : Int) := by omega
    have e17 : (i : Int) < 17 := by omega
    have c6 := row8_at q6 hi'
    have ht : (keyR w i).toNat < 256 := (keyR w i).toNat_lt
    have w2 : IntKind.u32.wrap ((keyR w i).toNat : Int) = ((keyR w i).toNat : Int) := wrap_u32n (by omega)
    have w7 : IntKind.i64.wrap ((i : Int) + 1) = ((i + 1 : Nat) : Int) := wrapN (by omega)
    have s7 := rowK_store (z := (keyR w i).toNat) q7 (show i < 17 by omega) (Nat.le_refl _)
    rw [blendF_step (fun j => (keyR w j).toNat)] at s7
    simp -implicitDefEqProofs only [zB1,zB2,zB3,zB4,zB5,zB6,zB7,zB8,zB9,zB10,zB11,y00,y01,y02,y03,y04,y05,y06,y07,y08,y09,y0a,y0b,y0c,y0d,y0e,y0f,y0g,y0h,y0i,y0j,y0k,y0l,y0m,y0n,y0o,y0p,y0q,y0r,y0s,y0t,y0u,y0v,y0w,y0x,y0y,y0z,y10,y11,y12,y13,y14,y15,y16,y17,y18,y19,y1a,y1b,y1c,y1d,y1e,y1f,y1g,y1h,y1i,y1j,y1k,y1l,y1m,y1n,y1o,y1p,y1q,y1r,retO,retL,retV,z69,allV,allP,z6a,z6d,z6e,z6k,z6l,z6m,binV,eqV,unV,oOpt,reduceIte,reduceCtorEq,Nat.reduceEqDiff,Nat.reduceAdd,Nat.reduceMul,Nat.reduceLT,Nat.reduceSub,Int.reduceLT,Int.reduceLE,Int.reduceEq,Int.reduceNe,Int.reduceSub,Int.reduceAdd,Int.reduceMul,Int.reduceBEq,Int.reduceBNe,Int.reduceGT,Int.reduceGE,Nat.reduceGT,Int.reduceToNat,Int.reduceNeg,Nat.reduceLeDiff,Nat.reduceBEq,Nat.reduceBneDiff,Value.cells, hlt, e0, e17, c6, w2, w7, s7, Int.toNat_natCast]
    exact ⟨_, by omega, Heap.le_set leH hb7' _, i + 1, by omega, rfl, rfl, set_keep q2 n27, set_keep q4 n47, set_keep q6 n67, Heap.set_self _ _ _⟩
  · obtain rfl : i = 16 := by omega
    have q7' : H b7 = some (.own 0 (rowK .u32 (rD w) 17) 17) := q7
    simp -implicitDefEqProofs only [zB1,zB2,zB3,zB4,zB5,zB6,zB7,zB8,zB9,zB10,zB11,y00,y01,y02,y03,y04,y05,y06,y07,y08,y09,y0a,y0b,y0c,y0d,y0e,y0f,y0g,y0h,y0i,y0j,y0k,y0l,y0m,y0n,y0o,y0p,y0q,y0r,y0s,y0t,y0u,y0v,y0w,y0x,y0y,y0z,y10,y11,y12,y13,y14,y15,y16,y17,y18,y19,y1a,y1b,y1c,y1d,y1e,y1f,y1g,y1h,y1i,y1j,y1k,y1l,y1m,y1n,y1o,y1p,y1q,y1r,retO,retL,retV,z69,allV,allP,z6a,z6d,z6e,z6k,z6l,z6m,binV,eqV,unV,oOpt,reduceIte,reduceCtorEq,Nat.reduceEqDiff,Nat.reduceAdd,Nat.reduceMul,Nat.reduceLT,Nat.reduceSub,Int.reduceLT,Int.reduceLE,Int.reduceEq,Int.reduceNe,Int.reduceSub,Int.reduceAdd,Int.reduceMul,Int.reduceBEq,Int.reduceBNe,Int.reduceGT,Int.reduceGE,Nat.reduceGT,Int.reduceToNat,Int.reduceNeg,Nat.reduceLeDiff,Nat.reduceBEq,Nat.reduceBneDiff,Value.cells, hlt, List.length_replicate]
    intro b9 hb9
    rw [rowK_len]
    have hb9' := Heap.none_of_le leH hb9
    have n29 := ne_of_none hb9 q2
    have n49 := ne_of_none hb9 q4
    have n79 := ne_of_none hb9 q7'
    have le9 := Heap.le_new leH hb9 (.own 0 (rowK .u32 (fun _ => 0) 17) 17)
    have q29 := set_new (X := .own 0 (rowK .u32 (fun _ => 0) 17) 17) hb9 q2
    have q49 := set_new (X := .own 0 (rowK .u32 (fun _ => 0) 17) 17) hb9 q4
    have q79 := set_new (X := .own 0 (rowK .u32 (fun _ => 0) 17) 17) hb9 q7'
    have q99 := Heap.set_self H b9 (.own 0 (rowK .u32 (fun _ => 0) 17) 17)
    generalize (H.set b9 (.own 0 (rowK .u32 (fun _ => 0) 17) 17)) = H1 at le9 q29 q49 q79 q99 ⊢
    clear q2 q4 q6 q7 q7' leH hlt hi
    unfold ir_bandboxref4_Tag_10
    simp -implicitDefEqProofs only [zB1,zB2,zB3,zB4,zB5,zB6,zB7,zB8,zB9,zB10,zB11,y00,y01,y02,y03,y04,y05,y06,y07,y08,y09,y0a,y0b,y0c,y0d,y0e,y0f,y0g,y0h,y0i,y0j,y0k,y0l,y0m,y0n,y0o,y0p,y0q,y0r,y0s,y0t,y0u,y0v,y0w,y0x,y0y,y0z,y10,y11,y12,y13,y14,y15,y16,y17,y18,y19,y1a,y1b,y1c,y1d,y1e,y1f,y1g,y1h,y1i,y1j,y1k,y1l,y1m,y1n,y1o,y1p,y1q,y1r,retO,retL,retV,z69,allV,allP,z6a,z6d,z6e,z6k,z6l,z6m,binV,eqV,unV,oOpt,reduceIte,reduceCtorEq,Nat.reduceEqDiff,Nat.reduceAdd,Nat.reduceMul,Nat.reduceLT,Nat.reduceSub,Int.reduceLT,Int.reduceLE,Int.reduceEq,Int.reduceNe,Int.reduceSub,Int.reduceAdd,Int.reduceMul,Int.reduceBEq,Int.reduceBNe,Int.reduceGT,Int.reduceGE,Nat.reduceGT,Int.reduceToNat,Int.reduceNeg,Nat.reduceLeDiff,Nat.reduceBEq,Nat.reduceBneDiff,Value.cells]
    have eRv := rD_val w
    have hrl := rD_lt w
    refine wp_loop' (fun m t H => h.le H ∧ ∃ i : Nat, m = l.length - i ∧ i ≤ 100000016 ∧ t = tl [(1, .slice base l.length c), (2, .pointer (some ⟨b2, 0, none⟩)), (4, .pointer (some ⟨b4, 0, none⟩)), (7, .pointer (some ⟨b7, 0, none⟩)), (9, .pointer (some ⟨b9, 0, none⟩)), (10, .int .i64 i)] ∧
      H b2 = some (.own 0 (w.map u8V) 32) ∧ H b4 = some (.own 0 (List.replicate 16 (.int .u8 0)) 16) ∧ H b7 = some (.own 0 (rowK .u32 (rD w) 17) 17) ∧
      ∃ q, H b9 = some (.own 0 (rowK .u32 q 17) 17) ∧ NormD q ∧ polyH (leN (rowL (keyR w) 16)) (valD q 17 % PQ) (l.drop i) = polyH (leN (rowL (keyR w) 16)) 0 l) l.length
      ⟨le9, 0, by omega, by omega, rfl, q29, q49, q79, fun _ => 0, q99, ⟨fun j _ => Nat.succ_pos 255, Nat.succ_pos 3⟩, by rw [valD_zero, Nat.zero_mod, List.drop_zero]⟩ ?_
    clear q29 q49 q79 q99 le9
    rintro m t H ⟨leH, i, rfl, hi, rfl, q2, q4, q7, q, q9, nq, hv⟩
    by_cases hlt : (i : Int) < (l.length : Int)
    · have hi' : i < l.length := by omega
      have w1 : IntKind.i64.wrap ((l.length : Int) - (i : Int)) = ((l.length - i : Nat) : Int) := by rw [wrapI (by omega) (by omega)]; omega
      have w7 : IntKind.i64.wrap ((i : Int) + 16) = ((i + 16 : Nat) : Int) := by rw [wrapI (by omega) (by omega)]; rfl
      rw [polyH_more (by simp; omega), List.drop_drop] at hv
      simp -implicitDefEqProofs only [zB1,zB2,zB3,zB4,zB5,zB6,zB7,zB8,zB9,zB10,zB11,y00,y01,y02,y03,y04,y05,y06,y07,y08,y09,y0a,y0b,y0c,y0d,y0e,y0f,y0g,y0h,y0i,y0j,y0k,y0l,y0m,y0n,y0o,y0p,y0q,y0r,y0s,y0t,y0u,y0v,y0w,y0x,y0y,y0z,y10,y11,y12,y13,y14,y15,y16,y17,y18,y19,y1a,y1b,y1c,y1d,y1e,y1f,y1g,y1h,y1i,y1j,y1k,y1l,y1m,y1n,y1o,y1p,y1q,y1r,retO,retL,retV,z69,allV,allP,z6a,z6d,z6e,z6k,z6l,z6m,binV,eqV,unV,oOpt,reduceIte,reduceCtorEq,Nat.reduceEqDiff,Nat.reduceAdd,Nat.reduceMul,Nat.reduceLT,Nat.reduceSub,Int.reduceLT,Int.reduceLE,Int.reduceEq,Int.reduceNe,Int.reduceSub,Int.reduceAdd,Int.reduceMul,Int.reduceBEq,Int.reduceBNe,Int.reduceGT,Int.reduceGE,Nat.reduceGT,Int.reduceToNat,Int.reduceNeg,Nat.reduceLeDiff,Nat.reduceBEq,Nat.reduceBneDiff,Value.cells, hlt, List.length_replicate]
      intro b11 hb11
      rw [rowK_zero .u32 17]
      have n211 := ne_of_none hb11 q2
      have n411 := ne_of_none hb11 q4
      have n711 := ne_of_none hb11 q7
      have n911 := ne_of_none hb11 q9
      have le11 := Heap.le_new leH hb11 (.own 0 (rowK .u32 (fun _ => 0) 17) 17)
      have p2 := set_new (X := .own 0 (rowK .u32 (fun _ => 0) 17) 17) hb11 q2
      have p4 := set_new (X := .own 0 (rowK .u32 (fun _ => 0) 17) 17) hb11 q4
      have p7 := set_new (X := .own 0 (rowK .u32 (fun _ => 0) 17) 17) hb11 q7
      have p9 := set_new (X := .own 0 (rowK .u32 (fun _ => 0) 17) 17) hb11 q9
      have p11 := Heap.set_self H b11 (.own 0 (rowK .u32 (fun _ => 0) 17) 17)
      generalize (H.set b11 (.own 0 (rowK .u32 (fun _ => 0) 17) 17)) = H2 at le11 p2 p4 p7 p9 p11 ⊢
      have hb11' := Heap.none_of_le leH hb11
      by_cases g16 : (16 : Int) < ((l.length - i : Nat) : Int)
      · have hn : 16 = min 16 (l.length - i) := by omega
        have g16' : ¬ ((l.length - i : Nat) : Int) ≤ 16 := by omega
        simp -implicitDefEqProofs only [zB1,zB2,zB3,zB4,zB5,zB6,zB7,zB8,zB9,zB10,zB11,y00,y01,y02,y03,y04,y05,y06,y07,y08,y09,y0a,y0b,y0c,y0d,y0e,y0f,y0g,y0h,y0i,y0j,y0k,y0l,y0m,y0n,y0o,y0p,y0q,y0r,y0s,y0t,y0u,y0v,y0w,y0x,y0y,y0z,y10,y11,y12,y13,y14,y15,y16,y17,y18,y19,y1a,y1b,y1c,y1d,y1e,y1f,y1g,y1h,y1i,y1j,y1k,y1l,y1m,y1n,y1o,y1p,y1q,y1r,retO,retL,retV,z69,allV,allP,z6a,z6d,z6e,z6k,z6l,z6m,binV,eqV,unV,oOpt,reduceIte,reduceCtorEq,Nat.reduceEqDiff,Nat.reduceAdd,Nat.reduceMul,Nat.reduceLT,Nat.reduceSub,Int.reduceLT,Int.reduceLE,Int.reduceEq,Int.reduceNe,Int.reduceSub,Int.reduceAdd,Int.reduceMul,Int.reduceBEq,Int.reduceBNe,Int.reduceGT,Int.reduceGE,Nat.reduceGT,Int.reduceToNat,Int.reduceNeg,Nat.reduceLeDiff,Nat.reduceBEq,Nat.reduceBneDiff,Value.cells, w1, g16, g16']
        refine tag13 E (n := 16) (nz := 16) [] rfl sl hi' hl hn le11 hb9' hb11' p7 p9 p11 (fun j _ => hrl j) nq n79 n711 n911 ?_
        intro H' p le' keep pp np hvp
        simp -implicitDefEqProofs only [zB1,zB2,zB3,zB4,zB5,zB6,zB7,zB8,zB9,zB10,zB11,y00,y01,y02,y03,y04,y05,y06,y07,y08,y09,y0a,y0b,y0c,y0d,y0e,y0f,y0g,y0h,y0i,y0j,y0k,y0l,y0m,y0n,y0o,y0p,y0q,y0r,y0s,y0t,y0u,y0v,y0w,y0x,y0y,y0z,y10,y11,y12,y13,y14,y15,y16,y17,y18,y19,y1a,y1b,y1c,y1d,y1e,y1f,y1g,y1h,y1i,y1j,y1k,y1l,y1m,y1n,y1o,y1p,y1q,y1r,retO,retL,retV,z69,allV,allP,z6a,z6d,z6e,z6k,z6l,z6m,binV,eqV,unV,oOpt,reduceIte,reduceCtorEq,Nat.reduceEqDiff,Nat.reduceAdd,Nat.reduceMul,Nat.reduceLT,Nat.reduceSub,Int.reduceLT,Int.reduceLE,Int.reduceEq,Int.reduceNe,Int.reduceSub,Int.reduceAdd,Int.reduceMul,Int.reduceBEq,Int.reduceBNe,Int.reduceGT,Int.reduceGE,Nat.reduceGT,Int.reduceToNat,Int.reduceNeg,Nat.reduceLeDiff,Nat.reduceBEq,Nat.reduceBneDiff,Value.cells, w7]
        refine ⟨l.length - (i + 16), by omega, le', i + 16, rfl, by omega, rfl, keep _ _ n29 n211 p2, keep _ _ n49 n411 p4, keep _ _ n79 n711 p7, p, pp, np, ?_⟩
        rw [hvp, ← mod_step, eRv]
        exact hv
      · have hn : l.length - i = min 16 (l.length - i) := by omega
        have g16' : ((l.length - i : Nat) : Int) ≤ 16 := by omega
        simp -implicitDefEqProofs only [zB1,zB2,zB3,zB4,zB5,zB6,zB7,zB8,zB9,zB10,zB11,y00,y01,y02,y03,y04,y05,y06,y07,y08,y09,y0a,y0b,y0c,y0d,y0e,y0f,y0g,y0h,y0i,y0j,y0k,y0l,y0m,y0n,y0o,y0p,y0q,y0r,y0s,y0t,y0u,y0v,y0w,y0x,y0y,y0z,y10,y11,y12,y13,y14,y15,y16,y17,y18,y19,y1a,y1b,y1c,y1d,y1e,y1f,y1g,y1h,y1i,y1j,y1k,y1l,y1m,y1n,y1o,y1p,y1q,y1r,retO,retL,retV,z69,allV,allP,z6a,z6d,z6e,z6k,z6l,z6m,binV,eqV,unV,oOpt,reduceIte,reduceCtorEq,Nat.reduceEqDiff,Nat.reduceAdd,Nat.reduceMul,Nat.reduceLT,Nat.reduceSub,Int.reduceLT,Int.reduceLE,Int.reduceEq,Int.reduceNe,Int.reduceSub,Int.reduceAdd,Int.reduceMul,Int.reduceBEq,Int.reduceBNe,Int.reduceGT,Int.reduceGE,Nat.reduceGT,Int.reduceToNat,Int.reduceNeg,Nat.reduceLeDiff,Nat.reduceBEq,Nat.reduceBneDiff,Value.cells, w1, g16, g16']
        refine tag13 E (n := l.length - i) [(45, .bool false)] rfl sl hi' hl hn le11 hb9' hb11' p7 p9 p11 (fun j _ => hrl j) nq n79 n711 n911 ?_
        intro H' p le' keep pp np hvp
        simp -implicitDefEqProofs only [zB1,zB2,zB3,zB4,zB5,zB6,zB7,zB8,zB9,zB10,zB11,y00,y01,y02,y03,y04,y05,y06,y07,y08,y09,y0a,y0b,y0c,y0d,y0e,y0f,y0g,y0h,y0i,y0j,y0k,y0l,y0m,y0n,y0o,y0p,y0q,y0r,y0s,y0t,y0u,y0v,y0w,y0x,y0y,y0z,y10,y11,y12,y13,y14,y15,y16,y17,y18,y19,y1a,y1b,y1c,y1d,y1e,y1f,y1g,y1h,y1i,y1j,y1k,y1l,y1m,y1n,y1o,y1p,y1q,y1r,retO,retL,retV,z69,allV,allP,z6a,z6d,z6e,z6k,z6l,z6m,binV,eqV,unV,oOpt,reduceIte,reduceCtorEq,Nat.reduceEqDiff,Nat.reduceAdd,Nat.reduceMul,Nat.reduceLT,Nat.reduceSub,Int.reduceLT,Int.reduceLE,Int.reduceEq,Int.reduceNe,Int.reduceSub,Int.reduceAdd,Int.reduceMul,Int.reduceBEq,Int.reduceBNe,Int.reduceGT,Int.reduceGE,Nat.reduceGT,Int.reduceToNat,Int.reduceNeg,Nat.reduceLeDiff,Nat.reduceBEq,Nat.reduceBneDiff,Value.cells, w7]
        refine ⟨l.length - (i + 16), by omega, le', i + 16, rfl, by omega, rfl, keep _ _ n29 n211 p2, keep _ _ n49 n411 p4, keep _ _ n79 n711 p7, p, pp, np, ?_⟩
        rw [hvp, blkV_take l i _ hn, ← mod_step, eRv]
        exact hv
    · rw [polyH_done (by simp; omega)] at hv
      have l9 := rowK_cells q9
      simp -implicitDefEqProofs only [zB1,zB2,zB3,zB4,zB5,zB6,zB7,zB8,zB9,zB10,zB11,y00,y01,y02,y03,y04,y05,y06,y07,y08,y09,y0a,y0b,y0c,y0d,y0e,y0f,y0g,y0h,y0i,y0j,y0k,y0l,y0m,y0n,y0o,y0p,y0q,y0r,y0s,y0t,y0u,y0v,y0w,y0x,y0y,y0z,y10,y11,y12,y13,y14,y15,y16,y17,y18,y19,y1a,y1b,y1c,y1d,y1e,y1f,y1g,y1h,y1i,y1j,y1k,y1l,y1m,y1n,y1o,y1p,y1q,y1r,retO,retL,retV,z69,allV,allP,z6a,z6d,z6e,z6k,z6l,z6m,binV,eqV,unV,oOpt,reduceIte,reduceCtorEq,Nat.reduceEqDiff,Nat.reduceAdd,Nat.reduceMul,Nat.reduceLT,Nat.reduceSub,Int.reduceLT,Int.reduceLE,Int.reduceEq,Int.reduceNe,Int.reduceSub,Int.reduceAdd,Int.reduceMul,Int.reduceBEq,Int.reduceBNe,Int.reduceGT,Int.reduceGE,Nat.reduceGT,Int.reduceToNat,Int.reduceNeg,Nat.reduceLeDiff,Nat.reduceBEq,Nat.reduceBneDiff,Value.cells, hlt, l9]
      refine (ref4_least_c E _ q (norm_255 nq)).mono ?_
      rintro v H2 ⟨le2, p, rfl, np, hvp⟩
      rw [hv] at hvp
      have s9 := rowK_agg (k := .u32) (f := p) (le2 _ _ q9) (rowK_len _ _ _) (by omega)
      simp -implicitDefEqProofs only [zB1,zB2,zB3,zB4,zB5,zB6,zB7,zB8,zB9,zB10,zB11,y00,y01,y02,y03,y04,y05,y06,y07,y08,y09,y0a,y0b,y0c,y0d,y0e,y0f,y0g,y0h,y0i,y0j,y0k,y0l,y0m,y0n,y0o,y0p,y0q,y0r,y0s,y0t,y0u,y0v,y0w,y0x,y0y,y0z,y10,y11,y12,y13,y14,y15,y16,y17,y18,y19,y1a,y1b,y1c,y1d,y1e,y1f,y1g,y1h,y1i,y1j,y1k,y1l,y1m,y1n,y1o,y1p,y1q,y1r,retO,retL,retV,z69,allV,allP,z6a,z6d,z6e,z6k,z6l,z6m,binV,eqV,unV,oOpt,reduceIte,reduceCtorEq,Nat.reduceEqDiff,Nat.reduceAdd,Nat.reduceMul,Nat.reduceLT,Nat.reduceSub,Int.reduceLT,Int.reduceLE,Int.reduceEq,Int.reduceNe,Int.reduceSub,Int.reduceAdd,Int.reduceMul,Int.reduceBEq,Int.reduceBNe,Int.reduceGT,Int.reduceGE,Nat.reduceGT,Int.reduceToNat,Int.reduceNeg,Nat.reduceLeDiff,Nat.reduceBEq,Nat.reduceBneDiff,Value.cells, s9]
      have leP := Heap.le_set (Heap.le_trans leH le2) hb9' (.own 0 (rowK .u32 p 17) 17)
      have p2 := set_keep (X := .own 0 (rowK .u32 p 17) 17) (le2 _ _ q2) n29
      have p4 := set_keep (X := .own 0 (rowK .u32 p 17) 17) (le2 _ _ q4) n49
      have p9 := Heap.set_self H2 b9 (.own 0 (rowK .u32 p 17) 17)
      generalize (H2.set b9 (.own 0 (rowK .u32 p 17) 17)) = H3 at leP p2 p4 p9 ⊢
      clear q2 q4 q7 q9 s9 l9 hlt leH le2
      unfold ir_bandboxref4_Tag_14
      simp -implicitDefEqProofs only [zB1,zB2,zB3,zB4,zB5,zB6,zB7,zB8,zB9,zB10,zB11,y00,y01,y02,y03,y04,y05,y06,y07,y08,y09,y0a,y0b,y0c,y0d,y0e,y0f,y0g,y0h,y0i,y0j,y0k,y0l,y0m,y0n,y0o,y0p,y0q,y0r,y0s,y0t,y0u,y0v,y0w,y0x,y0y,y0z,y10,y11,y12,y13,y14,y15,y16,y17,y18,y19,y1a,y1b,y1c,y1d,y1e,y1f,y1g,y1h,y1i,y1j,y1k,y1l,y1m,y1n,y1o,y1p,y1q,y1r,retO,retL,retV,z69,allV,allP,z6a,z6d,z6e,z6k,z6l,z6m,binV,eqV,unV,oOpt,reduceIte,reduceCtorEq,Nat.reduceEqDiff,Nat.reduceAdd,Nat.reduceMul,Nat.reduceLT,Nat.reduceSub,Int.reduceLT,Int.reduceLE,Int.reduceEq,Int.reduceNe,Int.reduceSub,Int.reduceAdd,Int.reduceMul,Int.reduceBEq,Int.reduceBNe,Int.reduceGT,Int.reduceGE,Nat.reduceGT,Int.reduceToNat,Int.reduceNeg,Nat.reduceLeDiff,Nat.reduceBEq,Nat.reduceBneDiff,Value.cells, List.length_replicate]
      intro b14 hb14
      rw [rowK_zero .u32 17]
      have hb14' := Heap.none_of_le leP hb14
      have n214 := ne_of_none hb14 p2
      have n414 := ne_of_none hb14 p4
      have n914 := ne_of_none hb14 p9
      refine wp_loop' (fun m t H => h.le H ∧ ∃ i : Nat, i ≤ 16 ∧ m = 16 - i ∧ t = tl [(2, .pointer (some ⟨b2, 0, none⟩)), (4, .pointer (some ⟨b4, 0, none⟩)), (9, .pointer (some ⟨b9, 0, none⟩)), (14, .pointer (some ⟨b14, 0, none⟩)), (15, .int .i64 i)] ∧
        H b2 = some (.own 0 (w.map u8V) 32) ∧ H b4 = some (.own 0 (List.replicate 16 (.int .u8 0)) 16) ∧ H b9 = some (.own 0 (rowK .u32 p 17) 17) ∧
        H b14 = some (.own 0 (rowK .u32 (blendF (fun j => (w.getD (16 + j) 0).toNat) (fun _ => 0) i) 17) 17)) 16
        ⟨Heap.le_new leP hb14 _, 0, by omega, rfl, rfl, set_new hb14 p2, set_new hb14 p4, set_new hb14 p9, by rw [blendF_0, Heap.set_self]⟩ ?_
      clear p2 p4 p9 leP
      rintro m t H ⟨leH, i, hi, rfl, rfl, q2, q4, q9, q14⟩
      by_cases hlt : (i : Int) < 16
      · have hi' : i < 16 := by omega
        have e0 : (0 : Int) ≤ (i : Int) := by omega
        have e17 : (i : Int) < 17 := by omega
        have e1 : (0 : Int) ≤ ((16 + i : Nat) : Int) := by omega
        have e2 : ((16 + i : Nat) : Int) < 32 := by omega
        have w1 : IntKind.i64.wrap (16 + (i : Int)) = ((16 + i : Nat) : Int) := by rw [wrapI (by omega) (by omega)]; omega
        have c2 : hcell H ⟨b2, 16 + i, none⟩ = some (.int .u8 ((w.getD (16 + i) 0).toNat : Int)) := by
          rw [hcell_at q2 (by simp; omega)]
          have : 16 + i < w.length := by omega
          simp [u8V, List.getD, this]
        have ht : (w.getD (16 + i) 0).toNat < 256 := (w.getD (16 + i) 0).toNat_lt
        have w2 : IntKind.u32.wrap ((w.getD (16 + i) 0).toNat : Int) = ((w.getD (16 + i) 0).toNat : Int) := wrap_u32n (by omega)
        have w7 : IntKind.i64.wrap ((i : Int) + 1) = ((i + 1 : Nat) : Int) := wrapN (by omega)
        have s7 := rowK_store (z := (w.getD (16 + i) 0).toNat) q14 (show i < 17 by omega) (Nat.le_refl _)
        rw [blendF_step (fun j => (w.getD (16 + j) 0).toNat)] at s7
        simp -implicitDefEqProofs only [zB1,zB2,zB3,zB4,zB5,zB6,zB7,zB8,zB9,zB10,zB11,y00,y01,y02,y03,y04,y05,y06,y07,y08,y09,y0a,y0b,y0c,y0d,y0e,y0f,y0g,y0h,y0i,y0j,y0k,y0l,y0m,y0n,y0o,y0p,y0q,y0r,y0s,y0t,y0u,y0v,y0w,y0x,y0y,y0z,y10,y11,y12,y13,y14,y15,y16,y17,y18,y19,y1a,y1b,y1c,y1d,y1e,y1f,y1g,y1h,y1i,y1j,y1k,y1l,y1m,y1n,y1o,y1p,y1q,y1r,retO,retL,retV,z69,allV,allP,z6a,z6d,z6e,z6k,z6l,z6m,binV,eqV,unV,oOpt,reduceIte,reduceCtorEq,Nat.reduceEqDiff,Nat.reduceAdd,Nat.reduceMul,Nat.reduceLT,Nat.reduceSub,Int.reduceLT,Int.reduceLE,Int.reduceEq,Int.reduceNe,Int.reduceSub,Int.reduceAdd,Int.reduceMul,Int.reduceBEq,Int.reduceBNe,Int.reduceGT,Int.reduceGE,Nat.reduceGT,Int.reduceToNat,Int.reduceNeg,Nat.reduceLeDiff,Nat.reduceBEq,Nat.reduceBneDiff,Value.cells, hlt, e0, e17, e1, e2, w1, c2, w2, w7, s7, Int.toNat_natCast]
        exact ⟨_, by omega, Heap.le_set leH hb14' _, i + 1, by omega, rfl, rfl, set_keep q2 n214, set_keep q4 n414, set_keep q9 n914, Heap.set_self _ _ _⟩
      · obtain rfl : i = 16 := by omega
        have q14' : H b14 = some (.own 0 (rowK .u32 (sD w) 17) 17) := q14
        have l9 := rowK_cells q9
        have l14 := rowK_cells q14'
        simp -implicitDefEqProofs only [zB1,zB2,zB3,zB4,zB5,zB6,zB7,zB8,zB9,zB10,zB11,y00,y01,y02,y03,y04,y05,y06,y07,y08,y09,y0a,y0b,y0c,y0d,y0e,y0f,y0g,y0h,y0i,y0j,y0k,y0l,y0m,y0n,y0o,y0p,y0q,y0r,y0s,y0t,y0u,y0v,y0w,y0x,y0y,y0z,y10,y11,y12,y13,y14,y15,y16,y17,y18,y19,y1a,y1b,y1c,y1d,y1e,y1f,y1g,y1h,y1i,y1j,y1k,y1l,y1m,y1n,y1o,y1p,y1q,y1r,retO,retL,retV,z69,allV,allP,z6a,z6d,z6e,z6k,z6l,z6m,binV,eqV,unV,oOpt,reduceIte,reduceCtorEq,Nat.reduceEqDiff,Nat.reduceAdd,Nat.reduceMul,Nat.reduceLT,Nat.reduceSub,Int.reduceLT,Int.reduceLE,Int.reduceEq,Int.reduceNe,Int.reduceSub,Int.reduceAdd,Int.reduceMul,Int.reduceBEq,Int.reduceBNe,Int.reduceGT,Int.reduceGE,Nat.reduceGT,Int.reduceToNat,Int.reduceNeg,Nat.reduceLeDiff,Nat.reduceBEq,Nat.reduceBneDiff,Value.cells, hlt, l9, l14]
        refine (ref4_plus_c E _ p (sD w) (fun j hj => by have := norm_255 np j hj; omega) (fun j hj => by have := sD_lt w j; omega)).mono ?_
        rintro v H4 ⟨le4, rfl⟩
        have hsum := addD_val p (sD w)
        rw [hvp, sD_val w hw] at hsum
        have hd : ∀ j, j < 16 → addD p (sD w) j < 256 := fun j hj => addD_lt _ _ hj
        generalize addD p (sD w) = g at hsum hd ⊢
        have s9 := rowK_agg (k := .u32) (f := g) (le4 _ _ q9) (rowK_len _ _ _) (by omega)
        simp -implicitDefEqProofs only [zB1,zB2,zB3,zB4,zB5,zB6,zB7,zB8,zB9,zB10,zB11,y00,y01,y02,y03,y04,y05,y06,y07,y08,y09,y0a,y0b,y0c,y0d,y0e,y0f,y0g,y0h,y0i,y0j,y0k,y0l,y0m,y0n,y0o,y0p,y0q,y0r,y0s,y0t,y0u,y0v,y0w,y0x,y0y,y0z,y10,y11,y12,y13,y14,y15,y16,y17,y18,y19,y1a,y1b,y1c,y1d,y1e,y1f,y1g,y1h,y1i,y1j,y1k,y1l,y1m,y1n,y1o,y1p,y1q,y1r,retO,retL,retV,z69,allV,allP,z6a,z6d,z6e,z6k,z6l,z6m,binV,eqV,unV,oOpt,reduceIte,reduceCtorEq,Nat.reduceEqDiff,Nat.reduceAdd,Nat.reduceMul,Nat.reduceLT,Nat.reduceSub,Int.reduceLT,Int.reduceLE,Int.reduceEq,Int.reduceNe,Int.reduceSub,Int.reduceAdd,Int.reduceMul,Int.reduceBEq,Int.reduceBNe,Int.reduceGT,Int.reduceGE,Nat.reduceGT,Int.reduceToNat,Int.reduceNeg,Nat.reduceLeDiff,Nat.reduceBEq,Nat.reduceBneDiff,Value.cells, s9]
        have leP := Heap.le_set (Heap.le_trans leH le4) hb9' (.own 0 (rowK .u32 g 17) 17)
        have p4 := set_keep (X := .own 0 (rowK .u32 g 17) 17) (le4 _ _ q4) n49
        have p9 := Heap.set_self H4 b9 (.own 0 (rowK .u32 g 17) 17)
        generalize (H4.set b9 (.own 0 (rowK .u32 g 17) 17)) = H5 at leP p4 p9 ⊢
        have eT : row8 (tagR w l) 16 = row8 (fun j => UInt8.ofNat (g j)) 16 := by
          apply row8_congr
          intro j hj
          unfold tagR
          rw [← hsum, u8_mod, valD_byte (by omega) (fun k hk => hd k (by omega))]
        rw [eT]
        clear q2 q4 q9 q14 q14' l9 l14 s9 leH le4 hlt hi
        unfold ir_bandboxref4_Tag_83
        simp -implicitDefEqProofs only [zB1,zB2,zB3,zB4,zB5,zB6,zB7,zB8,zB9,zB10,zB11,y00,y01,y02,y03,y04,y05,y06,y07,y08,y09,y0a,y0b,y0c,y0d,y0e,y0f,y0g,y0h,y0i,y0j,y0k,y0l,y0m,y0n,y0o,y0p,y0q,y0r,y0s,y0t,y0u,y0v,y0w,y0x,y0y,y0z,y10,y11,y12,y13,y14,y15,y16,y17,y18,y19,y1a,y1b,y1c,y1d,y1e,y1f,y1g,y1h,y1i,y1j,y1k,y1l,y1m,y1n,y1o,y1p,y1q,y1r,retO,retL,retV,z69,allV,allP,z6a,z6d,z6e,z6k,z6l,z6m,binV,eqV,unV,oOpt,reduceIte,reduceCtorEq,Nat.reduceEqDiff,Nat.reduceAdd,Nat.reduceMul,Nat.reduceLT,Nat.reduceSub,Int.reduceLT,Int.reduceLE,Int.reduceEq,Int.reduceNe,Int.reduceSub,Int.reduceAdd,Int.reduceMul,Int.reduceBEq,Int.reduceBNe,Int.reduceGT,Int.reduceGE,Nat.reduceGT,Int.reduceToNat,Int.reduceNeg,Nat.reduceLeDiff,Nat.reduceBEq,Nat.reduceBneDiff,Value.cells, List.length_replicate, List.drop_replicate, List.replicate_zero]
        intro b16 hb16
        have st16 : storeV (H5.set b16 (.own 0 (List.replicate 16 (.int .u8 0)) 16)) 16 (.pointer (some ⟨b16, 0, none⟩)) (.agg (List.replicate 16 (Value.int .u8 0)).toArray) = some (H5.set b16 (.own 0 (List.replicate 16 (.int .u8 0)) 16)) := z6q (by omega) (by simp) r16 (by simp) (by omega)
        have hb16' := Heap.none_of_le leP hb16
        have n416 := ne_of_none hb16 p4
        have n916 := ne_of_none hb16 p9
        simp -implicitDefEqProofs only [zB1,zB2,zB3,zB4,zB5,zB6,zB7,zB8,zB9,zB10,zB11,y00,y01,y02,y03,y04,y05,y06,y07,y08,y09,y0a,y0b,y0c,y0d,y0e,y0f,y0g,y0h,y0i,y0j,y0k,y0l,y0m,y0n,y0o,y0p,y0q,y0r,y0s,y0t,y0u,y0v,y0w,y0x,y0y,y0z,y10,y11,y12,y13,y14,y15,y16,y17,y18,y19,y1a,y1b,y1c,y1d,y1e,y1f,y1g,y1h,y1i,y1j,y1k,y1l,y1m,y1n,y1o,y1p,y1q,y1r,retO,retL,retV,z69,allV,allP,z6a,z6d,z6e,z6k,z6l,z6m,binV,eqV,unV,oOpt,reduceIte,reduceCtorEq,Nat.reduceEqDiff,Nat.reduceAdd,Nat.reduceMul,Nat.reduceLT,Nat.reduceSub,Int.reduceLT,Int.reduceLE,Int.reduceEq,Int.reduceNe,Int.reduceSub,Int.reduceAdd,Int.reduceMul,Int.reduceBEq,Int.reduceBNe,Int.reduceGT,Int.reduceGE,Nat.reduceGT,Int.reduceToNat,Int.reduceNeg,Nat.reduceLeDiff,Nat.reduceBEq,Nat.reduceBneDiff,Value.cells, st16]
        refine wp_loop' (fun m t H => h.le H ∧ ∃ i : Nat, i ≤ 16 ∧ m = 16 - i ∧ t = tl [(4, .pointer (some ⟨b4, 0, none⟩)), (9, .pointer (some ⟨b9, 0, none⟩)), (16, .pointer (some ⟨b16, 0, none⟩)), (17, .int .i64 i)] ∧
          H b4 = some (.own 0 (List.replicate 16 (.int .u8 0)) 16) ∧ H b9 = some (.own 0 (rowK .u32 g 17) 17) ∧
          H b16 = some (.own 0 (row8 (fun j => if j < i then UInt8.ofNat (g j) else 0) 16) 16)) 16
          ⟨Heap.le_new leP hb16 _, 0, by omega, rfl, rfl, set_new hb16 p4, set_new hb16 p9, by rw [Heap.set_self]; congr 2⟩ ?_
        clear p4 p9 leP
        rintro m t H ⟨leH, i, hi, rfl, rfl, q4, q9, q16⟩
        by_cases hlt : (i : Int) < 16
        · have hi' : i < 16 := by omega
          have e0 : (0 : Int) ≤ (i : Int) := by omega
          have e17 : (i : Int) < 17 := by omega
          have c9 := rowK_at q9 (show i < 17 by omega)
          have w2 : IntKind.u8.wrap (g i : Int) = ((UInt8.ofNat (g i)).toNat : Int) := by rw [wrap_u8, ofInt_nat]; simp
          have w7 : IntKind.i64.wrap ((i : Int) + 1) = ((i + 1 : Nat) : Int) := wrapN (by omega)
          have s16 := row8_store (z := UInt8.ofNat (g i)) q16 hi'
          simp -implicitDefEqProofs only [zB1,zB2,zB3,zB4,zB5,zB6,zB7,zB8,zB9,zB10,zB11,y00,y01,y02,y03,y04,y05,y06,y07,y08,y09,y0a,y0b,y0c,y0d,y0e,y0f,y0g,y0h,y0i,y0j,y0k,y0l,y0m,y0n,y0o,y0p,y0q,y0r,y0s,y0t,y0u,y0v,y0w,y0x,y0y,y0z,y10,y11,y12,y13,y14,y15,y16,y17,y18,y19,y1a,y1b,y1c,y1d,y1e,y1f,y1g,y1h,y1i,y1j,y1k,y1l,y1m,y1n,y1o,y1p,y1q,y1r,retO,retL,retV,z69,allV,allP,z6a,z6d,z6e,z6k,z6l,z6m,binV,eqV,unV,oOpt,reduceIte,reduceCtorEq,Nat.reduceEqDiff,Nat.reduceAdd,Nat.reduceMul,Nat.reduceLT,Nat.reduceSub,Int.reduceLT,Int.reduceLE,Int.reduceEq,Int.reduceNe,Int.reduceSub,Int.reduceAdd,Int.reduceMul,Int.reduceBEq,Int.reduceBNe,Int.reduceGT,Int.reduceGE,Nat.reduceGT,Int.reduceToNat,Int.reduceNeg,Nat.reduceLeDiff,Nat.reduceBEq,Nat.reduceBneDiff,Value.cells, hlt, e0, e17, c9, w2, w7, s16, Int.toNat_natCast]
          refine ⟨_, by omega, Heap.le_set leH hb16' _, i + 1, by omega, rfl, rfl, set_keep q4 n416, set_keep q9 n916, ?_⟩
          rw [Heap.set_self]
          have eS : row8 (fun k => if k = i then UInt8.ofNat (g i) else if k < i then UInt8.ofNat (g k) else 0) 16 = row8 (fun j => if j < i + 1 then UInt8.ofNat (g j) else 0) 16 := by
            apply row8_congr
            intro k _
            by_cases e : k = i
            · subst e; simp
            · rw [if_neg e]
              by_cases e2 : k < i
              · rw [if_pos e2, if_pos (by omega)]
              · rw [if_neg e2, if_neg (by omega)]
          rw [eS]
        · obtain rfl : i = 16 := by omega
          have eF : row8 (fun j => if j < 16 then UInt8.ofNat (g j) else 0) 16 = row8 (fun j => UInt8.ofNat (g j)) 16 := row8_congr fun k hk => by rw [if_pos hk]
          rw [eF] at q16
          have l16 : hcells H ⟨b16, 0, none⟩ 16 = some (row8 (fun j => UInt8.ofNat (g j)) 16) := by rw [hcells_at q16 (by rw [row8_len]; omega)]; simp [List.take_of_length_le, row8_len]
          have s4 : storeV H 16 (.pointer (some ⟨b4, 0, none⟩)) (.agg (row8 (fun j => UInt8.ofNat (g j)) 16).toArray) = some (H.set b4 (.own 0 (row8 (fun j => UInt8.ofNat (g j)) 16) 16)) := storeV_agg_at q4 (by omega) (row8_len _ _) (by simp [row8, one]) (by simp) (by omega)
          have l4 : hcells (H.set b4 (.own 0 (row8 (fun j => UInt8.ofNat (g j)) 16) 16)) ⟨b4, 0, none⟩ 16 = some (row8 (fun j => UInt8.ofNat (g j)) 16) := z6o (row8_len _ _)
          simp -implicitDefEqProofs only [zB1,zB2,zB3,zB4,zB5,zB6,zB7,zB8,zB9,zB10,zB11,y00,y01,y02,y03,y04,y05,y06,y07,y08,y09,y0a,y0b,y0c,y0d,y0e,y0f,y0g,y0h,y0i,y0j,y0k,y0l,y0m,y0n,y0o,y0p,y0q,y0r,y0s,y0t,y0u,y0v,y0w,y0x,y0y,y0z,y10,y11,y12,y13,y14,y15,y16,y17,y18,y19,y1a,y1b,y1c,y1d,y1e,y1f,y1g,y1h,y1i,y1j,y1k,y1l,y1m,y1n,y1o,y1p,y1q,y1r,retO,retL,retV,z69,allV,allP,z6a,z6d,z6e,z6k,z6l,z6m,binV,eqV,unV,oOpt,reduceIte,reduceCtorEq,Nat.reduceEqDiff,Nat.reduceAdd,Nat.reduceMul,Nat.reduceLT,Nat.reduceSub,Int.reduceLT,Int.reduceLE,Int.reduceEq,Int.reduceNe,Int.reduceSub,Int.reduceAdd,Int.reduceMul,Int.reduceBEq,Int.reduceBNe,Int.reduceGT,Int.reduceGE,Nat.reduceGT,Int.reduceToNat,Int.reduceNeg,Nat.reduceLeDiff,Nat.reduceBEq,Nat.reduceBneDiff,Value.cells, hlt, l16, s4, l4]
          exact Heap.le_set leH hb4' _
end Go.Bb
/- The document's bytes: Join. -/
namespace Go.Bb
set_option linter.unusedSimpArgs false
set_option linter.unusedVariables false
set_option maxRecDepth 20000

theorem ref1_Join_c (E : EnvT tab) (h : Heap) {v : Value} (L : List (List UInt8)) (hl : L.length ≤ 100000) (ht : L.flatten.length ≤ 100000000) (s : SlL h v L) :
    ACallN E.toEnv n_bandboxref1_Join [v] h fun r h' => h.le h' ∧ OwB h h' r L.flatten := by
  obtain ⟨base, c, rfl⟩ := s.shape
  refine acall h_bandboxref1_Join ir_bandboxref1_Join rfl rfl (wpA_sound ?_)
  unfold ir_bandboxref1_Join
  simp -implicitDefEqProofs only [zB1,zB2,zB3,zB4,zB5,zB6,zB7,zB8,zB9,zB10,zB11,y00,y01,y02,y03,y04,y05,y06,y07,y08,y09,y0a,y0b,y0c,y0d,y0e,y0f,y0g,y0h,y0i,y0j,y0k,y0l,y0m,y0n,y0o,y0p,y0q,y0r,y0s,y0t,y0u,y0v,y0w,y0x,y0y,y0z,y10,y11,y12,y13,y14,y15,y16,y17,y18,y19,y1a,y1b,y1c,y1d,y1e,y1f,y1g,y1h,y1i,y1j,y1k,y1l,y1m,y1n,y1o,y1p,y1q,y1r,retO,retL,retV,z69,allV,allP,z6a,z6d,z6e,z6k,z6l,z6m,binV,eqV,unV,oOpt,reduceIte,reduceCtorEq,Nat.reduceEqDiff,Nat.reduceAdd,Nat.reduceMul,Nat.reduceLT,Nat.reduceSub,Int.reduceLT,Int.reduceLE,Int.reduceEq,Int.reduceNe,Int.reduceSub,Int.reduceAdd,Int.reduceMul,Int.reduceBEq,Int.reduceBNe,Int.reduceGT,Int.reduceGE,Nat.reduceGT,Int.reduceToNat,Int.reduceNeg,Nat.reduceLeDiff,Nat.reduceBEq,Nat.reduceBneDiff,Value.cells]
  refine wp_loop' (fun m t H => h.le H ∧ ∃ (i : Nat) (v3 : Value), t = tl [(0, .slice base L.length c), (3, v3), (4, .int .i64 i)] ∧ i ≤ L.length ∧ m = L.length - i ∧ OwB h H v3 (L.take i).flatten) L.length
    ⟨Heap.le_refl _, 0, _, rfl, by omega, by omega, Ow.nil _ _ _⟩ ?_
  rintro m t H ⟨leH, i, v3, rfl, hi, rfl, ow⟩
  by_cases hlt : i < L.length
  · have hi1 : (i : Int) < L.length := by omega
    have hi2 : (0 : Int) ≤ i := by omega
    have w1 : IntKind.i64.wrap ((i : Int) + 1) = ((i + 1 : Nat) : Int) := wrapN (by omega)
    obtain ⟨b, o, u, bi, ci, rfl, eu, su, cu⟩ := s.part i hlt
    have c1 := cu H leH
    have hf := flat_take L (i + 1)
    have hs := flat_succ L i hlt
    rw [hs, List.length_append] at hf
    simp -implicitDefEqProofs only [zB1,zB2,zB3,zB4,zB5,zB6,zB7,zB8,zB9,zB10,zB11,y00,y01,y02,y03,y04,y05,y06,y07,y08,y09,y0a,y0b,y0c,y0d,y0e,y0f,y0g,y0h,y0i,y0j,y0k,y0l,y0m,y0n,y0o,y0p,y0q,y0r,y0s,y0t,y0u,y0v,y0w,y0x,y0y,y0z,y10,y11,y12,y13,y14,y15,y16,y17,y18,y19,y1a,y1b,y1c,y1d,y1e,y1f,y1g,y1h,y1i,y1j,y1k,y1l,y1m,y1n,y1o,y1p,y1q,y1r,retO,retL,retV,z69,allV,allP,z6a,z6d,z6e,z6k,z6l,z6m,binV,eqV,unV,oOpt,reduceIte,reduceCtorEq,Nat.reduceEqDiff,Nat.reduceAdd,Nat.reduceMul,Nat.reduceLT,Nat.reduceSub,Int.reduceLT,Int.reduceLE,Int.reduceEq,Int.reduceNe,Int.reduceSub,Int.reduceAdd,Int.reduceMul,Int.reduceBEq,Int.reduceBNe,Int.reduceGT,Int.reduceGE,Nat.reduceGT,Int.reduceToNat,Int.reduceNeg,Nat.reduceLeDiff,Nat.reduceBEq,Nat.reduceBneDiff,Value.cells, hi1, hi2, Int.toNat_natCast, c1]
    refine appendP_ow (bytes := 1) (m := L[i].length) (news := L[i].map u8V) leH (by omega) ow (su.le leH) (one_u8 _) (by omega) (by omega) ?_
    intro v7 h7 ow7 le7
    simp -implicitDefEqProofs only [zB1,zB2,zB3,zB4,zB5,zB6,zB7,zB8,zB9,zB10,zB11,y00,y01,y02,y03,y04,y05,y06,y07,y08,y09,y0a,y0b,y0c,y0d,y0e,y0f,y0g,y0h,y0i,y0j,y0k,y0l,y0m,y0n,y0o,y0p,y0q,y0r,y0s,y0t,y0u,y0v,y0w,y0x,y0y,y0z,y10,y11,y12,y13,y14,y15,y16,y17,y18,y19,y1a,y1b,y1c,y1d,y1e,y1f,y1g,y1h,y1i,y1j,y1k,y1l,y1m,y1n,y1o,y1p,y1q,y1r,retO,retL,retV,z69,allV,allP,z6a,z6d,z6e,z6k,z6l,z6m,binV,eqV,unV,oOpt,reduceIte,reduceCtorEq,Nat.reduceEqDiff,Nat.reduceAdd,Nat.reduceMul,Nat.reduceLT,Nat.reduceSub,Int.reduceLT,Int.reduceLE,Int.reduceEq,Int.reduceNe,Int.reduceSub,Int.reduceAdd,Int.reduceMul,Int.reduceBEq,Int.reduceBNe,Int.reduceGT,Int.reduceGE,Nat.reduceGT,Int.reduceToNat,Int.reduceNeg,Nat.reduceLeDiff,Nat.reduceBEq,Nat.reduceBneDiff,Value.cells, w1]
    refine ⟨L.length - (i + 1), by omega, le7, i + 1, v7, rfl, by omega, rfl, ?_⟩
    rw [hs]
    unfold OwB
    rw [List.length_append, List.map_append]
    exact ow7
  · have hi1 : ¬ (i : Int) < L.length := by omega
    have : i = L.length := by omega
    subst this
    rw [List.take_length] at ow
    simp -implicitDefEqProofs only [zB1,zB2,zB3,zB4,zB5,zB6,zB7,zB8,zB9,zB10,zB11,y00,y01,y02,y03,y04,y05,y06,y07,y08,y09,y0a,y0b,y0c,y0d,y0e,y0f,y0g,y0h,y0i,y0j,y0k,y0l,y0m,y0n,y0o,y0p,y0q,y0r,y0s,y0t,y0u,y0v,y0w,y0x,y0y,y0z,y10,y11,y12,y13,y14,y15,y16,y17,y18,y19,y1a,y1b,y1c,y1d,y1e,y1f,y1g,y1h,y1i,y1j,y1k,y1l,y1m,y1n,y1o,y1p,y1q,y1r,retO,retL,retV,z69,allV,allP,z6a,z6d,z6e,z6k,z6l,z6m,binV,eqV,unV,oOpt,reduceIte,reduceCtorEq,Nat.reduceEqDiff,Nat.reduceAdd,Nat.reduceMul,Nat.reduceLT,Nat.reduceSub,Int.reduceLT,Int.reduceLE,Int.reduceEq,Int.reduceNe,Int.reduceSub,Int.reduceAdd,Int.reduceMul,Int.reduceBEq,Int.reduceBNe,Int.reduceGT,Int.reduceGE,Nat.reduceGT,Int.reduceToNat,Int.reduceNeg,Nat.reduceLeDiff,Nat.reduceBEq,Nat.reduceBneDiff,Value.cells, hi1]
    exact ⟨leH, ow⟩
end Go.Bb
/- The law PolySays. -/
namespace Go.Bb
set_option linter.unusedSimpArgs false
set_option linter.unusedVariables false
set_option maxRecDepth 20000
set_option maxHeartbeats 2000000

theorem row8_ok (f : Nat → UInt8) (n : Nat) : leavesOk (List.replicate n (some IntKind.u8)) (row8 f n) = true := by
  have := leaves_u8 (rowL f n)
  rwa [rowL_map, rowL_len] at this
theorem row8_eq (f : Nat → UInt8) (n : Nat) : leavesEq (row8 f n) (row8 f n) = true := by
  have := leavesEq_u8 (rowL f n)
  rwa [rowL_map] at this
theorem tag_row (w l : List UInt8) (hw : w.length = 32) : (tagF w l).map u8V = row8 (tagR w l) 16 := by rw [tag_same w l hw, rowL_map]

theorem bandboxlaw5_PolySays_c (E : EnvT tab) (W : World) {v0 v1 v2 : Value} (s0 : Shp.ok W (.array 32 1 (.int .u8)) v0) (s1 : Shp.ok W (.slice 1 (.slice 1 (.int .u8))) v1) (s2 : Shp.ok W (.array 16 1 (.int .u8)) v2) :
    ACallN E.toEnv n_bandboxlaw5_PolySays [v0, v1, v2] (roHeap W) fun v _ => v = .bool true := by
  obtain ⟨w, hw, rfl⟩ := ok_array s0
  obtain ⟨L, sL, hL, hLs⟩ := ok_bytesL s1
  obtain ⟨r, hr, rfl⟩ := ok_array s2
  obtain ⟨base, c, rfl⟩ := sL.shape
  generalize roHeap W = h at sL
  refine acall h_bandboxlaw5_PolySays ir_bandboxlaw5_PolySays rfl rfl (wpA_sound ?_)
  unfold ir_bandboxlaw5_PolySays
  have hw' : (w.map u8V).length = 32 := by simp [hw]
  have hr' : (r.map u8V).length = 16 := by simp [hr]
  simp -implicitDefEqProofs only [zB1,zB2,zB3,zB4,zB5,zB6,zB7,zB8,zB9,zB10,zB11,y00,y01,y02,y03,y04,y05,y06,y07,y08,y09,y0a,y0b,y0c,y0d,y0e,y0f,y0g,y0h,y0i,y0j,y0k,y0l,y0m,y0n,y0o,y0p,y0q,y0r,y0s,y0t,y0u,y0v,y0w,y0x,y0y,y0z,y10,y11,y12,y13,y14,y15,y16,y17,y18,y19,y1a,y1b,y1c,y1d,y1e,y1f,y1g,y1h,y1i,y1j,y1k,y1l,y1m,y1n,y1o,y1p,y1q,y1r,retO,retL,retV,z69,allV,allP,z6a,z6d,z6e,z6k,z6l,z6m,binV,eqV,unV,oOpt,reduceIte,reduceCtorEq,Nat.reduceEqDiff,Nat.reduceAdd,Nat.reduceMul,Nat.reduceLT,Nat.reduceSub,Int.reduceLT,Int.reduceLE,Int.reduceEq,Int.reduceNe,Int.reduceSub,Int.reduceAdd,Int.reduceMul,Int.reduceBEq,Int.reduceBNe,Int.reduceGT,Int.reduceGE,Nat.reduceGT,Int.reduceToNat,Int.reduceNeg,Nat.reduceLeDiff,Nat.reduceBEq,Nat.reduceBneDiff,Value.cells, hw', hr']
  intro b3 hb3 b5 hb5
  obtain ⟨n53, hb5'⟩ := Heap.set_none.1 hb5
  have le1 : h.le ((h.set b3 (.own 0 (w.map u8V) 32)).set b5 (.own 0 (r.map u8V) 16)) := Heap.le_set (Heap.le_set (Heap.le_refl _) hb3 _) hb5' _
  have q3 : ((h.set b3 (.own 0 (w.map u8V) 32)).set b5 (.own 0 (r.map u8V) 16)) b3 = some (.own 0 (w.map u8V) 32) := set_keep (Heap.set_self _ _ _) (Ne.symm n53)
  have q5 : ((h.set b3 (.own 0 (w.map u8V) 32)).set b5 (.own 0 (r.map u8V) 16)) b5 = some (.own 0 (r.map u8V) 16) := Heap.set_self _ _ _
  generalize ((h.set b3 (.own 0 (w.map u8V) 32)).set b5 (.own 0 (r.map u8V) 16)) = h1 at le1 q3 q5 ⊢
  refine (law5_awake_c E _).mono ?_
  rintro v h2 ⟨rfl, le2⟩
  have le02 := Heap.le_trans le1 le2
  have q32 := le2 _ _ q3
  have q52 := le2 _ _ q5
  simp -implicitDefEqProofs only [zB1,zB2,zB3,zB4,zB5,zB6,zB7,zB8,zB9,zB10,zB11,y00,y01,y02,y03,y04,y05,y06,y07,y08,y09,y0a,y0b,y0c,y0d,y0e,y0f,y0g,y0h,y0i,y0j,y0k,y0l,y0m,y0n,y0o,y0p,y0q,y0r,y0s,y0t,y0u,y0v,y0w,y0x,y0y,y0z,y10,y11,y12,y13,y14,y15,y16,y17,y18,y19,y1a,y1b,y1c,y1d,y1e,y1f,y1g,y1h,y1i,y1j,y1k,y1l,y1m,y1n,y1o,y1p,y1q,y1r,retO,retL,retV,z69,allV,allP,z6a,z6d,z6e,z6k,z6l,z6m,binV,eqV,unV,oOpt,reduceIte,reduceCtorEq,Nat.reduceEqDiff,Nat.reduceAdd,Nat.reduceMul,Nat.reduceLT,Nat.reduceSub,Int.reduceLT,Int.reduceLE,Int.reduceEq,Int.reduceNe,Int.reduceSub,Int.reduceAdd,Int.reduceMul,Int.reduceBEq,Int.reduceBNe,Int.reduceGT,Int.reduceGE,Nat.reduceGT,Int.reduceToNat,Int.reduceNeg,Nat.reduceLeDiff,Nat.reduceBEq,Nat.reduceBneDiff,Value.cells]
  unfold ir_bandboxlaw5_PolySays_10
  by_cases g0 : (6 : Int) < L.length
  · simp -implicitDefEqProofs only [zB1,zB2,zB3,zB4,zB5,zB6,zB7,zB8,zB9,zB10,zB11,y00,y01,y02,y03,y04,y05,y06,y07,y08,y09,y0a,y0b,y0c,y0d,y0e,y0f,y0g,y0h,y0i,y0j,y0k,y0l,y0m,y0n,y0o,y0p,y0q,y0r,y0s,y0t,y0u,y0v,y0w,y0x,y0y,y0z,y10,y11,y12,y13,y14,y15,y16,y17,y18,y19,y1a,y1b,y1c,y1d,y1e,y1f,y1g,y1h,y1i,y1j,y1k,y1l,y1m,y1n,y1o,y1p,y1q,y1r,retO,retL,retV,z69,allV,allP,z6a,z6d,z6e,z6k,z6l,z6m,binV,eqV,unV,oOpt,reduceIte,reduceCtorEq,Nat.reduceEqDiff,Nat.reduceAdd,Nat.reduceMul,Nat.reduceLT,Nat.reduceSub,Int.reduceLT,Int.reduceLE,Int.reduceEq,Int.reduceNe,Int.reduceSub,Int.reduceAdd,Int.reduceMul,Int.reduceBEq,Int.reduceBNe,Int.reduceGT,Int.reduceGE,Nat.reduceGT,Int.reduceToNat,Int.reduceNeg,Nat.reduceLeDiff,Nat.reduceBEq,Nat.reduceBneDiff,Value.cells, g0]
  simp -implicitDefEqProofs only [zB1,zB2,zB3,zB4,zB5,zB6,zB7,zB8,zB9,zB10,zB11,y00,y01,y02,y03,y04,y05,y06,y07,y08,y09,y0a,y0b,y0c,y0d,y0e,y0f,y0g,y0h,y0i,y0j,y0k,y0l,y0m,y0n,y0o,y0p,y0q,y0r,y0s,y0t,y0u,y0v,y0w,y0x,y0y,y0z,y10,y11,y12,y13,y14,y15,y16,y17,y18,y19,y1a,y1b,y1c,y1d,y1e,y1f,y1g,y1h,y1i,y1j,y1k,y1l,y1m,y1n,y1o,y1p,y1q,y1r,retO,retL,retV,z69,allV,allP,z6a,z6d,z6e,z6k,z6l,z6m,binV,eqV,unV,oOpt,reduceIte,reduceCtorEq,Nat.reduceEqDiff,Nat.reduceAdd,Nat.reduceMul,Nat.reduceLT,Nat.reduceSub,Int.reduceLT,Int.reduceLE,Int.reduceEq,Int.reduceNe,Int.reduceSub,Int.reduceAdd,Int.reduceMul,Int.reduceBEq,Int.reduceBNe,Int.reduceGT,Int.reduceGE,Nat.reduceGT,Int.reduceToNat,Int.reduceNeg,Nat.reduceLeDiff,Nat.reduceBEq,Nat.reduceBneDiff,Value.cells, g0]
  have q32 := le2 _ _ q3
  have q52 := le2 _ _ q5
  clear q3 q5 le2 le1
  refine wp_loop' (fun m t H => H = h2 ∧ ∃ i : Nat, t = tl [(1, .slice base L.length c), (3, .pointer (some ⟨b3, 0, none⟩)), (5, .pointer (some ⟨b5, 0, none⟩)), (7, .int .i64 i)] ∧ i ≤ L.length ∧ m = L.length - i ∧ ∀ j (hj : j < L.length), j < i → L[j].length ≤ 150) L.length
    ⟨rfl, 0, rfl, by omega, by omega, fun j _ hj => by omega⟩ ?_
  rintro m t H ⟨rfl, i, rfl, hi, rfl, hall⟩
  by_cases hlt : i < L.length
  · have hi1 : (i : Int) < L.length := by omega
    have hi2 : (0 : Int) ≤ i := by omega
    have w1 : IntKind.i64.wrap ((i : Int) + 1) = ((i + 1 : Nat) : Int) := wrapN (by omega)
    obtain ⟨b, o, u, bi, ci, rfl, eu, su, cu⟩ := sL.part i hlt
    have c1 := cu H le02
    rw [eu] at c1
    by_cases g1 : (150 : Int) < L[i].length
    · have g1' : ¬ (L[i].length : Int) ≤ 150 := by omega
      simp -implicitDefEqProofs only [zB1,zB2,zB3,zB4,zB5,zB6,zB7,zB8,zB9,zB10,zB11,y00,y01,y02,y03,y04,y05,y06,y07,y08,y09,y0a,y0b,y0c,y0d,y0e,y0f,y0g,y0h,y0i,y0j,y0k,y0l,y0m,y0n,y0o,y0p,y0q,y0r,y0s,y0t,y0u,y0v,y0w,y0x,y0y,y0z,y10,y11,y12,y13,y14,y15,y16,y17,y18,y19,y1a,y1b,y1c,y1d,y1e,y1f,y1g,y1h,y1i,y1j,y1k,y1l,y1m,y1n,y1o,y1p,y1q,y1r,retO,retL,retV,z69,allV,allP,z6a,z6d,z6e,z6k,z6l,z6m,binV,eqV,unV,oOpt,reduceIte,reduceCtorEq,Nat.reduceEqDiff,Nat.reduceAdd,Nat.reduceMul,Nat.reduceLT,Nat.reduceSub,Int.reduceLT,Int.reduceLE,Int.reduceEq,Int.reduceNe,Int.reduceSub,Int.reduceAdd,Int.reduceMul,Int.reduceBEq,Int.reduceBNe,Int.reduceGT,Int.reduceGE,Nat.reduceGT,Int.reduceToNat,Int.reduceNeg,Nat.reduceLeDiff,Nat.reduceBEq,Nat.reduceBneDiff,Value.cells, hi1, hi2, Int.toNat_natCast, c1, g1, g1']
    · have g1' : (L[i].length : Int) ≤ 150 := by omega
      simp -implicitDefEqProofs only [zB1,zB2,zB3,zB4,zB5,zB6,zB7,zB8,zB9,zB10,zB11,y00,y01,y02,y03,y04,y05,y06,y07,y08,y09,y0a,y0b,y0c,y0d,y0e,y0f,y0g,y0h,y0i,y0j,y0k,y0l,y0m,y0n,y0o,y0p,y0q,y0r,y0s,y0t,y0u,y0v,y0w,y0x,y0y,y0z,y10,y11,y12,y13,y14,y15,y16,y17,y18,y19,y1a,y1b,y1c,y1d,y1e,y1f,y1g,y1h,y1i,y1j,y1k,y1l,y1m,y1n,y1o,y1p,y1q,y1r,retO,retL,retV,z69,allV,allP,z6a,z6d,z6e,z6k,z6l,z6m,binV,eqV,unV,oOpt,reduceIte,reduceCtorEq,Nat.reduceEqDiff,Nat.reduceAdd,Nat.reduceMul,Nat.reduceLT,Nat.reduceSub,Int.reduceLT,Int.reduceLE,Int.reduceEq,Int.reduceNe,Int.reduceSub,Int.reduceAdd,Int.reduceMul,Int.reduceBEq,Int.reduceBNe,Int.reduceGT,Int.reduceGE,Nat.reduceGT,Int.reduceToNat,Int.reduceNeg,Nat.reduceLeDiff,Nat.reduceBEq,Nat.reduceBneDiff,Value.cells, hi1, hi2, Int.toNat_natCast, c1, g1, g1', w1]
      refine ⟨L.length - (i + 1), by omega, i + 1, rfl, by omega, rfl, ?_⟩
      intro j hj hji
      by_cases e : j = i
      · subst e; omega
      · exact hall j hj (by omega)
  · have hi1 : ¬ (i : Int) < L.length := by omega
    have hf : L.flatten.length ≤ L.length * 150 := flat_bound fun l hl => by
      obtain ⟨j, hj, rfl⟩ := List.getElem_of_mem hl
      exact hall j hj (by omega)
    simp -implicitDefEqProofs only [zB1,zB2,zB3,zB4,zB5,zB6,zB7,zB8,zB9,zB10,zB11,y00,y01,y02,y03,y04,y05,y06,y07,y08,y09,y0a,y0b,y0c,y0d,y0e,y0f,y0g,y0h,y0i,y0j,y0k,y0l,y0m,y0n,y0o,y0p,y0q,y0r,y0s,y0t,y0u,y0v,y0w,y0x,y0y,y0z,y10,y11,y12,y13,y14,y15,y16,y17,y18,y19,y1a,y1b,y1c,y1d,y1e,y1f,y1g,y1h,y1i,y1j,y1k,y1l,y1m,y1n,y1o,y1p,y1q,y1r,retO,retL,retV,z69,allV,allP,z6a,z6d,z6e,z6k,z6l,z6m,binV,eqV,unV,oOpt,reduceIte,reduceCtorEq,Nat.reduceEqDiff,Nat.reduceAdd,Nat.reduceMul,Nat.reduceLT,Nat.reduceSub,Int.reduceLT,Int.reduceLE,Int.reduceEq,Int.reduceNe,Int.reduceSub,Int.reduceAdd,Int.reduceMul,Int.reduceBEq,Int.reduceBNe,Int.reduceGT,Int.reduceGE,Nat.reduceGT,Int.reduceToNat,Int.reduceNeg,Nat.reduceLeDiff,Nat.reduceBEq,Nat.reduceBneDiff,Value.cells, hi1]
    unfold ir_bandboxlaw5_PolySays_25
    have l3 : ∀ H', H.le H' → hcells H' ⟨b3, 0, none⟩ 32 = some (w.map u8V) := fun H' x => by rw [hcells_at (x _ _ q32) (by simp [hw])]; simp [List.take_of_length_le, hw]
    have l5 : ∀ H', H.le H' → hcells H' ⟨b5, 0, none⟩ 16 = some (row8 (fun j => r.getD j 0) 16) := fun H' x => by
      rw [hcells_at (x _ _ q52) (by simp [hr]), ← hr, row8_list]; simp [List.take_of_length_le]
    have a3 := l3 H (Heap.le_refl _)
    simp -implicitDefEqProofs only [zB1,zB2,zB3,zB4,zB5,zB6,zB7,zB8,zB9,zB10,zB11,y00,y01,y02,y03,y04,y05,y06,y07,y08,y09,y0a,y0b,y0c,y0d,y0e,y0f,y0g,y0h,y0i,y0j,y0k,y0l,y0m,y0n,y0o,y0p,y0q,y0r,y0s,y0t,y0u,y0v,y0w,y0x,y0y,y0z,y10,y11,y12,y13,y14,y15,y16,y17,y18,y19,y1a,y1b,y1c,y1d,y1e,y1f,y1g,y1h,y1i,y1j,y1k,y1l,y1m,y1n,y1o,y1p,y1q,y1r,retO,retL,retV,z69,allV,allP,z6a,z6d,z6e,z6k,z6l,z6m,binV,eqV,unV,oOpt,reduceIte,reduceCtorEq,Nat.reduceEqDiff,Nat.reduceAdd,Nat.reduceMul,Nat.reduceLT,Nat.reduceSub,Int.reduceLT,Int.reduceLE,Int.reduceEq,Int.reduceNe,Int.reduceSub,Int.reduceAdd,Int.reduceMul,Int.reduceBEq,Int.reduceBNe,Int.reduceGT,Int.reduceGE,Nat.reduceGT,Int.reduceToNat,Int.reduceNeg,Nat.reduceLeDiff,Nat.reduceBEq,Nat.reduceBneDiff,Value.cells, a3]
    refine (poly_Tag_c E _ w L hw (by omega) (by omega) (sL.le le02)).mono ?_
    rintro v h3 ⟨le3, rfl⟩
    rw [tag_row w _ hw]
    have le03 := Heap.le_trans le02 le3
    simp -implicitDefEqProofs only [zB1,zB2,zB3,zB4,zB5,zB6,zB7,zB8,zB9,zB10,zB11,y00,y01,y02,y03,y04,y05,y06,y07,y08,y09,y0a,y0b,y0c,y0d,y0e,y0f,y0g,y0h,y0i,y0j,y0k,y0l,y0m,y0n,y0o,y0p,y0q,y0r,y0s,y0t,y0u,y0v,y0w,y0x,y0y,y0z,y10,y11,y12,y13,y14,y15,y16,y17,y18,y19,y1a,y1b,y1c,y1d,y1e,y1f,y1g,y1h,y1i,y1j,y1k,y1l,y1m,y1n,y1o,y1p,y1q,y1r,retO,retL,retV,z69,allV,allP,z6a,z6d,z6e,z6k,z6l,z6m,binV,eqV,unV,oOpt,reduceIte,reduceCtorEq,Nat.reduceEqDiff,Nat.reduceAdd,Nat.reduceMul,Nat.reduceLT,Nat.reduceSub,Int.reduceLT,Int.reduceLE,Int.reduceEq,Int.reduceNe,Int.reduceSub,Int.reduceAdd,Int.reduceMul,Int.reduceBEq,Int.reduceBNe,Int.reduceGT,Int.reduceGE,Nat.reduceGT,Int.reduceToNat,Int.reduceNeg,Nat.reduceLeDiff,Nat.reduceBEq,Nat.reduceBneDiff,Value.cells, List.mem_cons, List.not_mem_nil, List.mem_singleton, or_false, forall_eq, forall_eq_or_imp, implies_true]
    refine (ref1_Join_c E _ L (by omega) (by omega) (sL.le le03)).mono ?_
    rintro v h4 ⟨le4, ow⟩
    have le34 := Heap.le_trans le3 le4
    have b1 := l3 h3 le3
    have b2 := l3 h4 le34
    simp -implicitDefEqProofs only [zB1,zB2,zB3,zB4,zB5,zB6,zB7,zB8,zB9,zB10,zB11,y00,y01,y02,y03,y04,y05,y06,y07,y08,y09,y0a,y0b,y0c,y0d,y0e,y0f,y0g,y0h,y0i,y0j,y0k,y0l,y0m,y0n,y0o,y0p,y0q,y0r,y0s,y0t,y0u,y0v,y0w,y0x,y0y,y0z,y10,y11,y12,y13,y14,y15,y16,y17,y18,y19,y1a,y1b,y1c,y1d,y1e,y1f,y1g,y1h,y1i,y1j,y1k,y1l,y1m,y1n,y1o,y1p,y1q,y1r,retO,retL,retV,z69,allV,allP,z6a,z6d,z6e,z6k,z6l,z6m,binV,eqV,unV,oOpt,reduceIte,reduceCtorEq,Nat.reduceEqDiff,Nat.reduceAdd,Nat.reduceMul,Nat.reduceLT,Nat.reduceSub,Int.reduceLT,Int.reduceLE,Int.reduceEq,Int.reduceNe,Int.reduceSub,Int.reduceAdd,Int.reduceMul,Int.reduceBEq,Int.reduceBNe,Int.reduceGT,Int.reduceGE,Nat.reduceGT,Int.reduceToNat,Int.reduceNeg,Nat.reduceLeDiff,Nat.reduceBEq,Nat.reduceBneDiff,Value.cells, a3, b1, b2, List.mem_cons, List.not_mem_nil, List.mem_singleton, or_false, forall_eq, forall_eq_or_imp, implies_true, and_true, true_and]
    refine (ref4_Tag_c E _ w L.flatten hw (by omega) ow.sl).mono ?_
    rintro v h5 ⟨le5, rfl⟩
    have k1 := row8_ok (tagR w L.flatten) 16
    have k2 := row8_eq (tagR w L.flatten) 16
    have le35 := Heap.le_trans le34 le5
    have d5 := l5 h5 le35
    simp -implicitDefEqProofs only [zB1,zB2,zB3,zB4,zB5,zB6,zB7,zB8,zB9,zB10,zB11,y00,y01,y02,y03,y04,y05,y06,y07,y08,y09,y0a,y0b,y0c,y0d,y0e,y0f,y0g,y0h,y0i,y0j,y0k,y0l,y0m,y0n,y0o,y0p,y0q,y0r,y0s,y0t,y0u,y0v,y0w,y0x,y0y,y0z,y10,y11,y12,y13,y14,y15,y16,y17,y18,y19,y1a,y1b,y1c,y1d,y1e,y1f,y1g,y1h,y1i,y1j,y1k,y1l,y1m,y1n,y1o,y1p,y1q,y1r,retO,retL,retV,z69,allV,allP,z6a,z6d,z6e,z6k,z6l,z6m,binV,eqV,unV,oOpt,reduceIte,reduceCtorEq,Nat.reduceEqDiff,Nat.reduceAdd,Nat.reduceMul,Nat.reduceLT,Nat.reduceSub,Int.reduceLT,Int.reduceLE,Int.reduceEq,Int.reduceNe,Int.reduceSub,Int.reduceAdd,Int.reduceMul,Int.reduceBEq,Int.reduceBNe,Int.reduceGT,Int.reduceGE,Nat.reduceGT,Int.reduceToNat,Int.reduceNeg,Nat.reduceLeDiff,Nat.reduceBEq,Nat.reduceBneDiff,Value.cells, k1, k2, d5]
    refine (poly_Clamp_c E _ _).mono ?_
    rintro v h6 ⟨le6, rfl⟩
    have le36 := Heap.le_trans le35 le6
    have d6 := l5 h6 le36
    simp -implicitDefEqProofs only [zB1,zB2,zB3,zB4,zB5,zB6,zB7,zB8,zB9,zB10,zB11,y00,y01,y02,y03,y04,y05,y06,y07,y08,y09,y0a,y0b,y0c,y0d,y0e,y0f,y0g,y0h,y0i,y0j,y0k,y0l,y0m,y0n,y0o,y0p,y0q,y0r,y0s,y0t,y0u,y0v,y0w,y0x,y0y,y0z,y10,y11,y12,y13,y14,y15,y16,y17,y18,y19,y1a,y1b,y1c,y1d,y1e,y1f,y1g,y1h,y1i,y1j,y1k,y1l,y1m,y1n,y1o,y1p,y1q,y1r,retO,retL,retV,z69,allV,allP,z6a,z6d,z6e,z6k,z6l,z6m,binV,eqV,unV,oOpt,reduceIte,reduceCtorEq,Nat.reduceEqDiff,Nat.reduceAdd,Nat.reduceMul,Nat.reduceLT,Nat.reduceSub,Int.reduceLT,Int.reduceLE,Int.reduceEq,Int.reduceNe,Int.reduceSub,Int.reduceAdd,Int.reduceMul,Int.reduceBEq,Int.reduceBNe,Int.reduceGT,Int.reduceGE,Nat.reduceGT,Int.reduceToNat,Int.reduceNeg,Nat.reduceLeDiff,Nat.reduceBEq,Nat.reduceBneDiff,Value.cells, d5, d6, List.mem_cons, List.not_mem_nil, List.mem_singleton, or_false, forall_eq, forall_eq_or_imp, implies_true, and_true, true_and]
    refine (ref4_Clamp_c E _ _).mono ?_
    rintro v h7 ⟨le7, rfl⟩
    have k3 := row8_ok (clampG fun j => r.getD j 0) 16
    have k4 := row8_eq (clampG fun j => r.getD j 0) 16
    have le37 := Heap.le_trans le36 le7
    have d7 := l5 h7 le37
    simp -implicitDefEqProofs only [zB1,zB2,zB3,zB4,zB5,zB6,zB7,zB8,zB9,zB10,zB11,y00,y01,y02,y03,y04,y05,y06,y07,y08,y09,y0a,y0b,y0c,y0d,y0e,y0f,y0g,y0h,y0i,y0j,y0k,y0l,y0m,y0n,y0o,y0p,y0q,y0r,y0s,y0t,y0u,y0v,y0w,y0x,y0y,y0z,y10,y11,y12,y13,y14,y15,y16,y17,y18,y19,y1a,y1b,y1c,y1d,y1e,y1f,y1g,y1h,y1i,y1j,y1k,y1l,y1m,y1n,y1o,y1p,y1q,y1r,retO,retL,retV,z69,allV,allP,z6a,z6d,z6e,z6k,z6l,z6m,binV,eqV,unV,oOpt,reduceIte,reduceCtorEq,Nat.reduceEqDiff,Nat.reduceAdd,Nat.reduceMul,Nat.reduceLT,Nat.reduceSub,Int.reduceLT,Int.reduceLE,Int.reduceEq,Int.reduceNe,Int.reduceSub,Int.reduceAdd,Int.reduceMul,Int.reduceBEq,Int.reduceBNe,Int.reduceGT,Int.reduceGE,Nat.reduceGT,Int.reduceToNat,Int.reduceNeg,Nat.reduceLeDiff,Nat.reduceBEq,Nat.reduceBneDiff,Value.cells, k3, k4, d7]
    refine (poly_Clamp_c E _ _).mono ?_
    rintro v h8 ⟨le8, rfl⟩
    have le38 := Heap.le_trans le37 le8
    have d8 := l5 h8 le38
    simp -implicitDefEqProofs only [zB1,zB2,zB3,zB4,zB5,zB6,zB7,zB8,zB9,zB10,zB11,y00,y01,y02,y03,y04,y05,y06,y07,y08,y09,y0a,y0b,y0c,y0d,y0e,y0f,y0g,y0h,y0i,y0j,y0k,y0l,y0m,y0n,y0o,y0p,y0q,y0r,y0s,y0t,y0u,y0v,y0w,y0x,y0y,y0z,y10,y11,y12,y13,y14,y15,y16,y17,y18,y19,y1a,y1b,y1c,y1d,y1e,y1f,y1g,y1h,y1i,y1j,y1k,y1l,y1m,y1n,y1o,y1p,y1q,y1r,retO,retL,retV,z69,allV,allP,z6a,z6d,z6e,z6k,z6l,z6m,binV,eqV,unV,oOpt,reduceIte,reduceCtorEq,Nat.reduceEqDiff,Nat.reduceAdd,Nat.reduceMul,Nat.reduceLT,Nat.reduceSub,Int.reduceLT,Int.reduceLE,Int.reduceEq,Int.reduceNe,Int.reduceSub,Int.reduceAdd,Int.reduceMul,Int.reduceBEq,Int.reduceBNe,Int.reduceGT,Int.reduceGE,Nat.reduceGT,Int.reduceToNat,Int.reduceNeg,Nat.reduceLeDiff,Nat.reduceBEq,Nat.reduceBneDiff,Value.cells]
    refine (poly_Clamp_c E _ _).mono ?_
    rintro v h9 ⟨le9, rfl⟩
    have le39 := Heap.le_trans le38 le9
    have d9 := l5 h9 le39
    have ea : row8 (clampG (clampG fun j => r.getD j 0)) 16 = row8 (clampG fun j => r.getD j 0) 16 := row8_congr fun k _ => clamp_again _ k
    rw [ea]
    simp -implicitDefEqProofs only [zB1,zB2,zB3,zB4,zB5,zB6,zB7,zB8,zB9,zB10,zB11,y00,y01,y02,y03,y04,y05,y06,y07,y08,y09,y0a,y0b,y0c,y0d,y0e,y0f,y0g,y0h,y0i,y0j,y0k,y0l,y0m,y0n,y0o,y0p,y0q,y0r,y0s,y0t,y0u,y0v,y0w,y0x,y0y,y0z,y10,y11,y12,y13,y14,y15,y16,y17,y18,y19,y1a,y1b,y1c,y1d,y1e,y1f,y1g,y1h,y1i,y1j,y1k,y1l,y1m,y1n,y1o,y1p,y1q,y1r,retO,retL,retV,z69,allV,allP,z6a,z6d,z6e,z6k,z6l,z6m,binV,eqV,unV,oOpt,reduceIte,reduceCtorEq,Nat.reduceEqDiff,Nat.reduceAdd,Nat.reduceMul,Nat.reduceLT,Nat.reduceSub,Int.reduceLT,Int.reduceLE,Int.reduceEq,Int.reduceNe,Int.reduceSub,Int.reduceAdd,Int.reduceMul,Int.reduceBEq,Int.reduceBNe,Int.reduceGT,Int.reduceGE,Nat.reduceGT,Int.reduceToNat,Int.reduceNeg,Nat.reduceLeDiff,Nat.reduceBEq,Nat.reduceBneDiff,Value.cells, d7, d8, d9, List.mem_cons, List.not_mem_nil, List.mem_singleton, or_false, forall_eq, forall_eq_or_imp, implies_true, and_true, true_and]
    refine (poly_Clamp_c E _ _).mono ?_
    rintro v h10 ⟨le10, rfl⟩
    simp -implicitDefEqProofs only [zB1,zB2,zB3,zB4,zB5,zB6,zB7,zB8,zB9,zB10,zB11,y00,y01,y02,y03,y04,y05,y06,y07,y08,y09,y0a,y0b,y0c,y0d,y0e,y0f,y0g,y0h,y0i,y0j,y0k,y0l,y0m,y0n,y0o,y0p,y0q,y0r,y0s,y0t,y0u,y0v,y0w,y0x,y0y,y0z,y10,y11,y12,y13,y14,y15,y16,y17,y18,y19,y1a,y1b,y1c,y1d,y1e,y1f,y1g,y1h,y1i,y1j,y1k,y1l,y1m,y1n,y1o,y1p,y1q,y1r,retO,retL,retV,z69,allV,allP,z6a,z6d,z6e,z6k,z6l,z6m,binV,eqV,unV,oOpt,reduceIte,reduceCtorEq,Nat.reduceEqDiff,Nat.reduceAdd,Nat.reduceMul,Nat.reduceLT,Nat.reduceSub,Int.reduceLT,Int.reduceLE,Int.reduceEq,Int.reduceNe,Int.reduceSub,Int.reduceAdd,Int.reduceMul,Int.reduceBEq,Int.reduceBNe,Int.reduceGT,Int.reduceGE,Nat.reduceGT,Int.reduceToNat,Int.reduceNeg,Nat.reduceLeDiff,Nat.reduceBEq,Nat.reduceBneDiff,Value.cells, k3, k4]
end Go.Bb
/- The law PolyEnds. -/
namespace Go.Bb
set_option linter.unusedSimpArgs false
set_option linter.unusedVariables false
set_option maxRecDepth 20000
set_option maxHeartbeats 2000000

theorem bandboxlaw5_PolyEnds_c (E : EnvT tab) (W : World) {v0 v1 v2 : Value} (s0 : Shp.ok W (.array 32 1 (.int .u8)) v0) (s1 : Shp.ok W (.slice 1 (.int .u8)) v1) (s2 : Shp.ok W (.int .i64) v2) :
    ACallN E.toEnv n_bandboxlaw5_PolyEnds [v0, v1, v2] (roHeap W) fun v _ => v = .bool true := by
  obtain ⟨w, hw, rfl⟩ := ok_array s0
  obtain ⟨l, sl, hl⟩ := ok_bytes s1
  obtain ⟨n, rfl, hn0, hn1⟩ := Shp.ok_int s2
  obtain ⟨base, c, rfl⟩ := Sl.shape sl
  generalize roHeap W = h at sl
  refine acall h_bandboxlaw5_PolyEnds ir_bandboxlaw5_PolyEnds rfl rfl (wpA_sound ?_)
  unfold ir_bandboxlaw5_PolyEnds
  have hw' : (w.map u8V).length = 32 := by simp [hw]
  simp -implicitDefEqProofs only [zB1,zB2,zB3,zB4,zB5,zB6,zB7,zB8,zB9,zB10,zB11,y00,y01,y02,y03,y04,y05,y06,y07,y08,y09,y0a,y0b,y0c,y0d,y0e,y0f,y0g,y0h,y0i,y0j,y0k,y0l,y0m,y0n,y0o,y0p,y0q,y0r,y0s,y0t,y0u,y0v,y0w,y0x,y0y,y0z,y10,y11,y12,y13,y14,y15,y16,y17,y18,y19,y1a,y1b,y1c,y1d,y1e,y1f,y1g,y1h,y1i,y1j,y1k,y1l,y1m,y1n,y1o,y1p,y1q,y1r,retO,retL,retV,z69,allV,allP,z6a,z6d,z6e,z6k,z6l,z6m,binV,eqV,unV,oOpt,reduceIte,reduceCtorEq,Nat.reduceEqDiff,Nat.reduceAdd,Nat.reduceMul,Nat.reduceLT,Nat.reduceSub,Int.reduceLT,Int.reduceLE,Int.reduceEq,Int.reduceNe,Int.reduceSub,Int.reduceAdd,Int.reduceMul,Int.reduceBEq,Int.reduceBNe,Int.reduceGT,Int.reduceGE,Nat.reduceGT,Int.reduceToNat,Int.reduceNeg,Nat.reduceLeDiff,Nat.reduceBEq,Nat.reduceBneDiff,Value.cells, hw']
  intro b3 hb3
  have le1 : h.le (h.set b3 (.own 0 (w.map u8V) 32)) := Heap.le_set (Heap.le_refl _) hb3 _
  have q3 := Heap.set_self h b3 (.own 0 (w.map u8V) 32)
  generalize (h.set b3 (.own 0 (w.map u8V) 32)) = h1 at le1 q3 ⊢
  unfold ir_bandboxlaw5_PolyEnds_8
  simp -implicitDefEqProofs only [zB1,zB2,zB3,zB4,zB5,zB6,zB7,zB8,zB9,zB10,zB11,y00,y01,y02,y03,y04,y05,y06,y07,y08,y09,y0a,y0b,y0c,y0d,y0e,y0f,y0g,y0h,y0i,y0j,y0k,y0l,y0m,y0n,y0o,y0p,y0q,y0r,y0s,y0t,y0u,y0v,y0w,y0x,y0y,y0z,y10,y11,y12,y13,y14,y15,y16,y17,y18,y19,y1a,y1b,y1c,y1d,y1e,y1f,y1g,y1h,y1i,y1j,y1k,y1l,y1m,y1n,y1o,y1p,y1q,y1r,retO,retL,retV,z69,allV,allP,z6a,z6d,z6e,z6k,z6l,z6m,binV,eqV,unV,oOpt,reduceIte,reduceCtorEq,Nat.reduceEqDiff,Nat.reduceAdd,Nat.reduceMul,Nat.reduceLT,Nat.reduceSub,Int.reduceLT,Int.reduceLE,Int.reduceEq,Int.reduceNe,Int.reduceSub,Int.reduceAdd,Int.reduceMul,Int.reduceBEq,Int.reduceBNe,Int.reduceGT,Int.reduceGE,Nat.reduceGT,Int.reduceToNat,Int.reduceNeg,Nat.reduceLeDiff,Nat.reduceBEq,Nat.reduceBneDiff,Value.cells]
  refine (law5_awake_c E _).mono ?_
  rintro v h2 ⟨rfl, le2⟩
  have le02 := Heap.le_trans le1 le2
  have q32 := le2 _ _ q3
  by_cases g0 : (200 : Int) < l.length
  · simp -implicitDefEqProofs only [zB1,zB2,zB3,zB4,zB5,zB6,zB7,zB8,zB9,zB10,zB11,y00,y01,y02,y03,y04,y05,y06,y07,y08,y09,y0a,y0b,y0c,y0d,y0e,y0f,y0g,y0h,y0i,y0j,y0k,y0l,y0m,y0n,y0o,y0p,y0q,y0r,y0s,y0t,y0u,y0v,y0w,y0x,y0y,y0z,y10,y11,y12,y13,y14,y15,y16,y17,y18,y19,y1a,y1b,y1c,y1d,y1e,y1f,y1g,y1h,y1i,y1j,y1k,y1l,y1m,y1n,y1o,y1p,y1q,y1r,retO,retL,retV,z69,allV,allP,z6a,z6d,z6e,z6k,z6l,z6m,binV,eqV,unV,oOpt,reduceIte,reduceCtorEq,Nat.reduceEqDiff,Nat.reduceAdd,Nat.reduceMul,Nat.reduceLT,Nat.reduceSub,Int.reduceLT,Int.reduceLE,Int.reduceEq,Int.reduceNe,Int.reduceSub,Int.reduceAdd,Int.reduceMul,Int.reduceBEq,Int.reduceBNe,Int.reduceGT,Int.reduceGE,Nat.reduceGT,Int.reduceToNat,Int.reduceNeg,Nat.reduceLeDiff,Nat.reduceBEq,Nat.reduceBneDiff,Value.cells, g0]
  by_cases g1 : n < 0
  · simp -implicitDefEqProofs only [zB1,zB2,zB3,zB4,zB5,zB6,zB7,zB8,zB9,zB10,zB11,y00,y01,y02,y03,y04,y05,y06,y07,y08,y09,y0a,y0b,y0c,y0d,y0e,y0f,y0g,y0h,y0i,y0j,y0k,y0l,y0m,y0n,y0o,y0p,y0q,y0r,y0s,y0t,y0u,y0v,y0w,y0x,y0y,y0z,y10,y11,y12,y13,y14,y15,y16,y17,y18,y19,y1a,y1b,y1c,y1d,y1e,y1f,y1g,y1h,y1i,y1j,y1k,y1l,y1m,y1n,y1o,y1p,y1q,y1r,retO,retL,retV,z69,allV,allP,z6a,z6d,z6e,z6k,z6l,z6m,binV,eqV,unV,oOpt,reduceIte,reduceCtorEq,Nat.reduceEqDiff,Nat.reduceAdd,Nat.reduceMul,Nat.reduceLT,Nat.reduceSub,Int.reduceLT,Int.reduceLE,Int.reduceEq,Int.reduceNe,Int.reduceSub,Int.reduceAdd,Int.reduceMul,Int.reduceBEq,Int.reduceBNe,Int.reduceGT,Int.reduceGE,Nat.reduceGT,Int.reduceToNat,Int.reduceNeg,Nat.reduceLeDiff,Nat.reduceBEq,Nat.reduceBneDiff,Value.cells, g0, g1]
  by_cases g2 : 40 < n
  · simp -implicitDefEqProofs only [zB1,zB2,zB3,zB4,zB5,zB6,zB7,zB8,zB9,zB10,zB11,y00,y01,y02,y03,y04,y05,y06,y07,y08,y09,y0a,y0b,y0c,y0d,y0e,y0f,y0g,y0h,y0i,y0j,y0k,y0l,y0m,y0n,y0o,y0p,y0q,y0r,y0s,y0t,y0u,y0v,y0w,y0x,y0y,y0z,y10,y11,y12,y13,y14,y15,y16,y17,y18,y19,y1a,y1b,y1c,y1d,y1e,y1f,y1g,y1h,y1i,y1j,y1k,y1l,y1m,y1n,y1o,y1p,y1q,y1r,retO,retL,retV,z69,allV,allP,z6a,z6d,z6e,z6k,z6l,z6m,binV,eqV,unV,oOpt,reduceIte,reduceCtorEq,Nat.reduceEqDiff,Nat.reduceAdd,Nat.reduceMul,Nat.reduceLT,Nat.reduceSub,Int.reduceLT,Int.reduceLE,Int.reduceEq,Int.reduceNe,Int.reduceSub,Int.reduceAdd,Int.reduceMul,Int.reduceBEq,Int.reduceBNe,Int.reduceGT,Int.reduceGE,Nat.reduceGT,Int.reduceToNat,Int.reduceNeg,Nat.reduceLeDiff,Nat.reduceBEq,Nat.reduceBneDiff,Value.cells, g0, g1, g2]
  obtain ⟨k, rfl⟩ : ∃ k : Nat, n = (k : Int) := ⟨n.toNat, by omega⟩
  have l3 : ∀ H', h2.le H' → hcells H' ⟨b3, 0, none⟩ 32 = some (w.map u8V) := fun H' x => by rw [hcells_at (x _ _ q32) (by simp [hw])]; simp [List.take_of_length_le, hw]
  simp -implicitDefEqProofs only [zB1,zB2,zB3,zB4,zB5,zB6,zB7,zB8,zB9,zB10,zB11,y00,y01,y02,y03,y04,y05,y06,y07,y08,y09,y0a,y0b,y0c,y0d,y0e,y0f,y0g,y0h,y0i,y0j,y0k,y0l,y0m,y0n,y0o,y0p,y0q,y0r,y0s,y0t,y0u,y0v,y0w,y0x,y0y,y0z,y10,y11,y12,y13,y14,y15,y16,y17,y18,y19,y1a,y1b,y1c,y1d,y1e,y1f,y1g,y1h,y1i,y1j,y1k,y1l,y1m,y1n,y1o,y1p,y1q,y1r,retO,retL,retV,z69,allV,allP,z6a,z6d,z6e,z6k,z6l,z6m,binV,eqV,unV,oOpt,reduceIte,reduceCtorEq,Nat.reduceEqDiff,Nat.reduceAdd,Nat.reduceMul,Nat.reduceLT,Nat.reduceSub,Int.reduceLT,Int.reduceLE,Int.reduceEq,Int.reduceNe,Int.reduceSub,Int.reduceAdd,Int.reduceMul,Int.reduceBEq,Int.reduceBNe,Int.reduceGT,Int.reduceGE,Nat.reduceGT,Int.reduceToNat,Int.reduceNeg,Nat.reduceLeDiff,Nat.reduceBEq,Nat.reduceBneDiff,Value.cells, g0, g1, g2]
  intro b4 hb4
  refine appendP_ow (bytes := 1) (n := 0) (cells := []) (m := l.length) (news := l.map u8V) (Heap.le_set (Heap.le_refl _) hb4 _) (by omega) (Ow.new (Heap.le_refl _) hb4 rfl (by omega) (by omega)) (sl.le (Heap.le_trans le02 (Heap.le_set (Heap.le_refl _) hb4 _))) (one_u8 l) (by omega) (by omega) ?_
  intro v4 h4 ow4 le4
  rw [Nat.zero_add, List.nil_append] at ow4
  simp -implicitDefEqProofs only [zB1,zB2,zB3,zB4,zB5,zB6,zB7,zB8,zB9,zB10,zB11,y00,y01,y02,y03,y04,y05,y06,y07,y08,y09,y0a,y0b,y0c,y0d,y0e,y0f,y0g,y0h,y0i,y0j,y0k,y0l,y0m,y0n,y0o,y0p,y0q,y0r,y0s,y0t,y0u,y0v,y0w,y0x,y0y,y0z,y10,y11,y12,y13,y14,y15,y16,y17,y18,y19,y1a,y1b,y1c,y1d,y1e,y1f,y1g,y1h,y1i,y1j,y1k,y1l,y1m,y1n,y1o,y1p,y1q,y1r,retO,retL,retV,z69,allV,allP,z6a,z6d,z6e,z6k,z6l,z6m,binV,eqV,unV,oOpt,reduceIte,reduceCtorEq,Nat.reduceEqDiff,Nat.reduceAdd,Nat.reduceMul,Nat.reduceLT,Nat.reduceSub,Int.reduceLT,Int.reduceLE,Int.reduceEq,Int.reduceNe,Int.reduceSub,Int.reduceAdd,Int.reduceMul,Int.reduceBEq,Int.reduceBNe,Int.reduceGT,Int.reduceGE,Nat.reduceGT,Int.reduceToNat,Int.reduceNeg,Nat.reduceLeDiff,Nat.reduceBEq,Nat.reduceBneDiff,Value.cells]
  refine appendZP_ow (bytes := 1) (m := k) (cells := l.map u8V) le4 (by omega) ow4 rfl rfl (by omega) (by omega) ?_
  intro v5 h5 ow5 le5
  have o5 : OwB h2 h5 v5 (l ++ List.replicate k 0) := by
    unfold OwB
    rw [List.length_append, List.length_replicate, List.map_append, ← rep_u8]
    exact ow5
  obtain ⟨base5, c5, rfl⟩ := Sl.shape o5.sl
  have lc : (l ++ List.replicate k (0 : UInt8)).length ≤ 240 := by simp; omega
  have fC : [l ++ List.replicate k (0 : UInt8)].flatten = l ++ List.replicate k 0 := by simp
  have fD : [l, List.replicate k (0 : UInt8)].flatten = l ++ List.replicate k 0 := by simp
  have ed : List.drop 1 (List.replicate 1 (Value.slice none 0 0)) = [] := rfl
  have ed2 : List.drop 2 (List.replicate 2 (Value.slice none 0 0)) = [] := rfl
  generalize l ++ List.replicate k (0 : UInt8) = C at o5 lc fC fD
  simp -implicitDefEqProofs only [zB1,zB2,zB3,zB4,zB5,zB6,zB7,zB8,zB9,zB10,zB11,y00,y01,y02,y03,y04,y05,y06,y07,y08,y09,y0a,y0b,y0c,y0d,y0e,y0f,y0g,y0h,y0i,y0j,y0k,y0l,y0m,y0n,y0o,y0p,y0q,y0r,y0s,y0t,y0u,y0v,y0w,y0x,y0y,y0z,y10,y11,y12,y13,y14,y15,y16,y17,y18,y19,y1a,y1b,y1c,y1d,y1e,y1f,y1g,y1h,y1i,y1j,y1k,y1l,y1m,y1n,y1o,y1p,y1q,y1r,retO,retL,retV,z69,allV,allP,z6a,z6d,z6e,z6k,z6l,z6m,binV,eqV,unV,oOpt,reduceIte,reduceCtorEq,Nat.reduceEqDiff,Nat.reduceAdd,Nat.reduceMul,Nat.reduceLT,Nat.reduceSub,Int.reduceLT,Int.reduceLE,Int.reduceEq,Int.reduceNe,Int.reduceSub,Int.reduceAdd,Int.reduceMul,Int.reduceBEq,Int.reduceBNe,Int.reduceGT,Int.reduceGE,Nat.reduceGT,Int.reduceToNat,Int.reduceNeg,Nat.reduceLeDiff,Nat.reduceBEq,Nat.reduceBneDiff,Value.cells]
  unfold ir_bandboxlaw5_PolyEnds_26
  have a5 := l3 h5 le5
  simp -implicitDefEqProofs only [zB1,zB2,zB3,zB4,zB5,zB6,zB7,zB8,zB9,zB10,zB11,y00,y01,y02,y03,y04,y05,y06,y07,y08,y09,y0a,y0b,y0c,y0d,y0e,y0f,y0g,y0h,y0i,y0j,y0k,y0l,y0m,y0n,y0o,y0p,y0q,y0r,y0s,y0t,y0u,y0v,y0w,y0x,y0y,y0z,y10,y11,y12,y13,y14,y15,y16,y17,y18,y19,y1a,y1b,y1c,y1d,y1e,y1f,y1g,y1h,y1i,y1j,y1k,y1l,y1m,y1n,y1o,y1p,y1q,y1r,retO,retL,retV,z69,allV,allP,z6a,z6d,z6e,z6k,z6l,z6m,binV,eqV,unV,oOpt,reduceIte,reduceCtorEq,Nat.reduceEqDiff,Nat.reduceAdd,Nat.reduceMul,Nat.reduceLT,Nat.reduceSub,Int.reduceLT,Int.reduceLE,Int.reduceEq,Int.reduceNe,Int.reduceSub,Int.reduceAdd,Int.reduceMul,Int.reduceBEq,Int.reduceBNe,Int.reduceGT,Int.reduceGE,Nat.reduceGT,Int.reduceToNat,Int.reduceNeg,Nat.reduceLeDiff,Nat.reduceBEq,Nat.reduceBneDiff,Value.cells, a5, implies_true, ed, List.length_replicate]
  intro bP hbP
  refine (poly_Tag_c E _ w [C] hw (by simp) (by rw [fC]; omega) (SlL.lit1 hbP o5.sl)).mono ?_
  rintro v h6 ⟨le6, rfl⟩
  rw [fC, tag_row w _ hw]
  have le56 : h5.le h6 := Heap.le_trans (Heap.le_set (Heap.le_refl _) hbP _) le6
  have a6 := l3 h6 (Heap.le_trans le5 le56)
  have a5' := l3 _ (Heap.le_trans le5 (Heap.le_set (Heap.le_refl h5) hbP (.own 0 [.slice base5 C.length c5] 1)))
  simp -implicitDefEqProofs only [zB1,zB2,zB3,zB4,zB5,zB6,zB7,zB8,zB9,zB10,zB11,y00,y01,y02,y03,y04,y05,y06,y07,y08,y09,y0a,y0b,y0c,y0d,y0e,y0f,y0g,y0h,y0i,y0j,y0k,y0l,y0m,y0n,y0o,y0p,y0q,y0r,y0s,y0t,y0u,y0v,y0w,y0x,y0y,y0z,y10,y11,y12,y13,y14,y15,y16,y17,y18,y19,y1a,y1b,y1c,y1d,y1e,y1f,y1g,y1h,y1i,y1j,y1k,y1l,y1m,y1n,y1o,y1p,y1q,y1r,retO,retL,retV,z69,allV,allP,z6a,z6d,z6e,z6k,z6l,z6m,binV,eqV,unV,oOpt,reduceIte,reduceCtorEq,Nat.reduceEqDiff,Nat.reduceAdd,Nat.reduceMul,Nat.reduceLT,Nat.reduceSub,Int.reduceLT,Int.reduceLE,Int.reduceEq,Int.reduceNe,Int.reduceSub,Int.reduceAdd,Int.reduceMul,Int.reduceBEq,Int.reduceBNe,Int.reduceGT,Int.reduceGE,Nat.reduceGT,Int.reduceToNat,Int.reduceNeg,Nat.reduceLeDiff,Nat.reduceBEq,Nat.reduceBneDiff,Value.cells, a5, a5', a6, implies_true, List.mem_cons, List.not_mem_nil, List.mem_singleton, or_false, forall_eq, forall_eq_or_imp, and_true, true_and]
  refine (ref4_Tag_c E _ w C hw (by omega) (o5.sl.le le56)).mono ?_
  rintro v h7 ⟨le7, rfl⟩
  have k1 := row8_ok (tagR w C) 16
  have k2 := row8_eq (tagR w C) 16
  have le57 := Heap.le_trans le56 le7
  have a7 := l3 h7 (Heap.le_trans le5 le57)
  simp -implicitDefEqProofs only [zB1,zB2,zB3,zB4,zB5,zB6,zB7,zB8,zB9,zB10,zB11,y00,y01,y02,y03,y04,y05,y06,y07,y08,y09,y0a,y0b,y0c,y0d,y0e,y0f,y0g,y0h,y0i,y0j,y0k,y0l,y0m,y0n,y0o,y0p,y0q,y0r,y0s,y0t,y0u,y0v,y0w,y0x,y0y,y0z,y10,y11,y12,y13,y14,y15,y16,y17,y18,y19,y1a,y1b,y1c,y1d,y1e,y1f,y1g,y1h,y1i,y1j,y1k,y1l,y1m,y1n,y1o,y1p,y1q,y1r,retO,retL,retV,z69,allV,allP,z6a,z6d,z6e,z6k,z6l,z6m,binV,eqV,unV,oOpt,reduceIte,reduceCtorEq,Nat.reduceEqDiff,Nat.reduceAdd,Nat.reduceMul,Nat.reduceLT,Nat.reduceSub,Int.reduceLT,Int.reduceLE,Int.reduceEq,Int.reduceNe,Int.reduceSub,Int.reduceAdd,Int.reduceMul,Int.reduceBEq,Int.reduceBNe,Int.reduceGT,Int.reduceGE,Nat.reduceGT,Int.reduceToNat,Int.reduceNeg,Nat.reduceLeDiff,Nat.reduceBEq,Nat.reduceBneDiff,Value.cells, k1, k2, a7]
  have m1 : (0 : Int) ≤ (k : Int) ∧ (k : Int) ≤ (k : Int) ∧ (k : Int) ≤ 9223372036854775807 ∧ 1 * (k : Int) ≤ 281474976710656 := by omega
  simp -implicitDefEqProofs only [zB1,zB2,zB3,zB4,zB5,zB6,zB7,zB8,zB9,zB10,zB11,y00,y01,y02,y03,y04,y05,y06,y07,y08,y09,y0a,y0b,y0c,y0d,y0e,y0f,y0g,y0h,y0i,y0j,y0k,y0l,y0m,y0n,y0o,y0p,y0q,y0r,y0s,y0t,y0u,y0v,y0w,y0x,y0y,y0z,y10,y11,y12,y13,y14,y15,y16,y17,y18,y19,y1a,y1b,y1c,y1d,y1e,y1f,y1g,y1h,y1i,y1j,y1k,y1l,y1m,y1n,y1o,y1p,y1q,y1r,retO,retL,retV,z69,allV,allP,z6a,z6d,z6e,z6k,z6l,z6m,binV,eqV,unV,oOpt,reduceIte,reduceCtorEq,Nat.reduceEqDiff,Nat.reduceAdd,Nat.reduceMul,Nat.reduceLT,Nat.reduceSub,Int.reduceLT,Int.reduceLE,Int.reduceEq,Int.reduceNe,Int.reduceSub,Int.reduceAdd,Int.reduceMul,Int.reduceBEq,Int.reduceBNe,Int.reduceGT,Int.reduceGE,Nat.reduceGT,Int.reduceToNat,Int.reduceNeg,Nat.reduceLeDiff,Nat.reduceBEq,Nat.reduceBneDiff,Value.cells, if_pos m1, Int.toNat_natCast]
  intro b9 hb9
  have o9 : OwB h7 (h7.set b9 (.own 0 (List.replicate k (.int .u8 0)) k)) (.slice (some ⟨b9, 0, none⟩) k k) (List.replicate k 0) := by
    have := Ow.new (h0 := h7) (h := h7) (Heap.le_refl _) hb9 (size := 1) (n := k) (c := k) (sz := k) (vs := (List.replicate k (0 : UInt8)).map u8V) (by simp) (by omega) (by omega)
    unfold OwB
    rw [List.length_replicate]
    rw [List.map_replicate] at this ⊢
    exact this
  have le9 : h7.le (h7.set b9 (.own 0 (List.replicate k (.int .u8 0)) k)) := Heap.le_new (Heap.le_refl _) hb9 _
  generalize (h7.set b9 (.own 0 (List.replicate k (.int .u8 0)) k)) = h8 at o9 le9 ⊢
  have s9 := o9.sl
  unfold SlB at s9
  have le08 := Heap.le_trans le02 (Heap.le_trans le5 (Heap.le_trans le57 le9))
  simp -implicitDefEqProofs only [zB1,zB2,zB3,zB4,zB5,zB6,zB7,zB8,zB9,zB10,zB11,y00,y01,y02,y03,y04,y05,y06,y07,y08,y09,y0a,y0b,y0c,y0d,y0e,y0f,y0g,y0h,y0i,y0j,y0k,y0l,y0m,y0n,y0o,y0p,y0q,y0r,y0s,y0t,y0u,y0v,y0w,y0x,y0y,y0z,y10,y11,y12,y13,y14,y15,y16,y17,y18,y19,y1a,y1b,y1c,y1d,y1e,y1f,y1g,y1h,y1i,y1j,y1k,y1l,y1m,y1n,y1o,y1p,y1q,y1r,retO,retL,retV,z69,allV,allP,z6a,z6d,z6e,z6k,z6l,z6m,binV,eqV,unV,oOpt,reduceIte,reduceCtorEq,Nat.reduceEqDiff,Nat.reduceAdd,Nat.reduceMul,Nat.reduceLT,Nat.reduceSub,Int.reduceLT,Int.reduceLE,Int.reduceEq,Int.reduceNe,Int.reduceSub,Int.reduceAdd,Int.reduceMul,Int.reduceBEq,Int.reduceBNe,Int.reduceGT,Int.reduceGE,Nat.reduceGT,Int.reduceToNat,Int.reduceNeg,Nat.reduceLeDiff,Nat.reduceBEq,Nat.reduceBneDiff,Value.cells, ed2, List.length_replicate]
  intro b10 hb10
  have s9' : SlB h8 (.slice (some ⟨b9, 0, none⟩) k k) (List.replicate k 0) := s9
  refine (poly_Tag_c E _ w [l, List.replicate k 0] hw (by simp) (by rw [fD]; omega) (SlL.lit2 hb10 (sl.le le08) s9')).mono ?_
  rintro v h10 ⟨le10, rfl⟩
  rw [fD, tag_row w _ hw]
  have le810 : h8.le h10 := Heap.le_trans (Heap.le_set (Heap.le_refl _) hb10 _) le10
  have le510 := Heap.le_trans le57 (Heap.le_trans le9 le810)
  have a10 := l3 h10 (Heap.le_trans le5 le510)
  have a10' := l3 _ (Heap.le_trans le5 (Heap.le_trans le57 (Heap.le_trans le9 (Heap.le_set (Heap.le_refl h8) hb10 (.own 0 [.slice base l.length c, .slice (some ⟨b9, 0, none⟩) k k] 2)))))
  simp -implicitDefEqProofs only [zB1,zB2,zB3,zB4,zB5,zB6,zB7,zB8,zB9,zB10,zB11,y00,y01,y02,y03,y04,y05,y06,y07,y08,y09,y0a,y0b,y0c,y0d,y0e,y0f,y0g,y0h,y0i,y0j,y0k,y0l,y0m,y0n,y0o,y0p,y0q,y0r,y0s,y0t,y0u,y0v,y0w,y0x,y0y,y0z,y10,y11,y12,y13,y14,y15,y16,y17,y18,y19,y1a,y1b,y1c,y1d,y1e,y1f,y1g,y1h,y1i,y1j,y1k,y1l,y1m,y1n,y1o,y1p,y1q,y1r,retO,retL,retV,z69,allV,allP,z6a,z6d,z6e,z6k,z6l,z6m,binV,eqV,unV,oOpt,reduceIte,reduceCtorEq,Nat.reduceEqDiff,Nat.reduceAdd,Nat.reduceMul,Nat.reduceLT,Nat.reduceSub,Int.reduceLT,Int.reduceLE,Int.reduceEq,Int.reduceNe,Int.reduceSub,Int.reduceAdd,Int.reduceMul,Int.reduceBEq,Int.reduceBNe,Int.reduceGT,Int.reduceGE,Nat.reduceGT,Int.reduceToNat,Int.reduceNeg,Nat.reduceLeDiff,Nat.reduceBEq,Nat.reduceBneDiff,Value.cells, a7, a10, a10', implies_true, List.mem_cons, List.not_mem_nil, List.mem_singleton, or_false, forall_eq, forall_eq_or_imp, and_true, true_and, ed, List.length_replicate]
  intro bQ hbQ
  refine (poly_Tag_c E _ w [C] hw (by simp) (by rw [fC]; omega) (SlL.lit1 hbQ (o5.sl.le le510))).mono ?_
  rintro v h11 ⟨le11, rfl⟩
  rw [fC, tag_row w _ hw]
  simp -implicitDefEqProofs only [zB1,zB2,zB3,zB4,zB5,zB6,zB7,zB8,zB9,zB10,zB11,y00,y01,y02,y03,y04,y05,y06,y07,y08,y09,y0a,y0b,y0c,y0d,y0e,y0f,y0g,y0h,y0i,y0j,y0k,y0l,y0m,y0n,y0o,y0p,y0q,y0r,y0s,y0t,y0u,y0v,y0w,y0x,y0y,y0z,y10,y11,y12,y13,y14,y15,y16,y17,y18,y19,y1a,y1b,y1c,y1d,y1e,y1f,y1g,y1h,y1i,y1j,y1k,y1l,y1m,y1n,y1o,y1p,y1q,y1r,retO,retL,retV,z69,allV,allP,z6a,z6d,z6e,z6k,z6l,z6m,binV,eqV,unV,oOpt,reduceIte,reduceCtorEq,Nat.reduceEqDiff,Nat.reduceAdd,Nat.reduceMul,Nat.reduceLT,Nat.reduceSub,Int.reduceLT,Int.reduceLE,Int.reduceEq,Int.reduceNe,Int.reduceSub,Int.reduceAdd,Int.reduceMul,Int.reduceBEq,Int.reduceBNe,Int.reduceGT,Int.reduceGE,Nat.reduceGT,Int.reduceToNat,Int.reduceNeg,Nat.reduceLeDiff,Nat.reduceBEq,Nat.reduceBneDiff,Value.cells, k1, k2]
end Go.Bb
