/- My contracts: BbCpoly5 BbLpoly2 BbPref5 BbPcha BbCsha0 BbCsha1 BbCcha0 BbUm BbCcha1 BbCwrd BbCcha2 BbCcha3 BbCref1 BbCref1b BbCref4f BbCoct5 BbCcha4 BbPtag BbPtag2 BbUt BbPaead BbPwir BbCnon BbCpad BbLpad0 BbCpad2 BbCpad3 BbPsea. -/
import Derived.Test.YtkgegppgaeadiaaDoorBbM1
import Derived.Test.YtkgegppgaeadiaaDoorBbG3
import Derived.Test.YtkgegppgaeadiaaDoorBbTab
/- Contracts: tags. -/
namespace Go.Bb
set_option linter.unusedSimpArgs false
set_option linter.unusedVariables false
set_option maxRecDepth 20000

def blockB (l : List UInt8) : List UInt8 := l.take 16 ++ [1] ++ List.replicate (32 - (l.take 16).length) 0
def blockN (l : List UInt8) : N3 := ⟨(fromLittleF ((blockB l).take 8)).toNat, (fromLittleF (((blockB l).drop 8).take 8)).toNat, ((blockB l).getD 16 0).toNat⟩
def tagSum (k0 k1 : Nat) (s : N3) (l : List UInt8) : N3 :=
  if h : 0 < l.length then tagSum k0 k1 ((s.plus (blockN l)).times k0 k1) (l.drop 16) else s
termination_by l.length
decreasing_by simp; omega
theorem tagSum_more {k0 k1 : Nat} {s : N3} {l : List UInt8} (h : 0 < l.length) : tagSum k0 k1 s l = tagSum k0 k1 ((s.plus (blockN l)).times k0 k1) (l.drop 16) := by
  rw [tagSum, dif_pos h]
theorem tagSum_done {k0 k1 : Nat} {s : N3} {l : List UInt8} (h : ¬ 0 < l.length) : tagSum k0 k1 s l = s := by
  rw [tagSum, dif_neg h]
/-- The first words of a clamped row. -/
def rowL (f : Nat → UInt8) (n : Nat) : List UInt8 := (List.range n).map f
theorem rowL_len (f : Nat → UInt8) (n : Nat) : (rowL f n).length = n := by simp [rowL]
theorem rowL_map (f : Nat → UInt8) (n : Nat) : (rowL f n).map u8V = row8 f n := by simp [rowL, row8, u8V]
def keyR (w : List UInt8) : Nat → UInt8 := clampG fun j => w.getD j 0
def keyK (w : List UInt8) (i : Nat) : Nat := (fromLittleF (((rowL (keyR w) 16).drop (8 * i)).take 8)).toNat
def tagN (w all : List UInt8) : N3 := (tagSum (keyK w 0) (keyK w 1) z3 all).last.plus ⟨(fromLittleF ((w.drop 16).take 8)).toNat, (fromLittleF ((w.drop 24).take 8)).toNat, 0⟩
def tagF (w all : List UInt8) : List UInt8 := littleF (BitVec.ofNat 64 (tagN w all).a) 8 ++ littleF (BitVec.ofNat 64 (tagN w all).b) 8

theorem poly_Tag_c (E : EnvT tab) (h : Heap) {v : Value} (w : List UInt8) (L : List (List UInt8)) (hw : w.length = 32) (hl : L.length ≤ 100000) (ht : L.flatten.length ≤ 100000000) (s : SlL h v L) :
    ACallN E.toEnv n_poly_Tag [.agg (w.map u8V).toArray, v] h fun r h' => h.le h' ∧ r = .agg ((tagF w L.flatten).map u8V).toArray := by
  refine acall h_poly_Tag ir_poly_Tag rfl rfl (wpA_sound ?_)
  unfold ir_poly_Tag
  have hw' : (w.map u8V).length = 32 := by simp [hw]
  simp -implicitDefEqProofs only [zA,reduceIte,reduceCtorEq,Nat.reduceEqDiff,Nat.reduceAdd,Nat.reduceMul,Nat.reduceLT,Nat.reduceSub,Int.reduceLT,Int.reduceLE,Int.reduceEq,Int.reduceNe,Int.reduceSub,Int.reduceAdd,Int.reduceMul,Int.reduceBEq,Int.reduceBNe,Int.reduceGT,Int.reduceGE,Nat.reduceGT,Int.reduceToNat,Int.reduceNeg,Nat.reduceLeDiff,Nat.reduceBEq,Nat.reduceBneDiff]
  rw [hw']
  intro b2 hb2 b4 hb4
  try simp -implicitDefEqProofs only [zA,reduceIte,reduceCtorEq,Nat.reduceEqDiff,Nat.reduceAdd,Nat.reduceMul,Nat.reduceLT,Nat.reduceSub,Int.reduceLT,Int.reduceLE,Int.reduceEq,Int.reduceNe,Int.reduceSub,Int.reduceAdd,Int.reduceMul,Int.reduceBEq,Int.reduceBNe,Int.reduceGT,Int.reduceGE,Nat.reduceGT,Int.reduceToNat,Int.reduceNeg,Nat.reduceLeDiff,Nat.reduceBEq,Nat.reduceBneDiff]
  rw [List.length_replicate]
  have n42 := (Heap.set_none.1 hb4).1
  have hb4' := (Heap.set_none.1 hb4).2
  have bd1 : bnds 32 32 none (some (some (.int .i64 16))) none = some (0, 16, 32) := bnds_hi (by omega) (by omega)
  have le0 : h.le ((h.set b2 (.own 0 (w.map u8V) 32)).set b4 (.own 0 (List.replicate 16 (.int .u8 0)) 16)) := Heap.le_set (Heap.le_set (Heap.le_refl _) hb2 _) hb4' _
  have q2 : ((h.set b2 (.own 0 (w.map u8V) 32)).set b4 (.own 0 (List.replicate 16 (.int .u8 0)) 16)) b2 = some (.own 0 (w.map u8V) 32) := by rw [Heap.set_ne (Ne.symm n42), Heap.set_self]
  have q4 : ((h.set b2 (.own 0 (w.map u8V) 32)).set b4 (.own 0 (List.replicate 16 (.int .u8 0)) 16)) b4 = some (.own 0 (List.replicate 16 (.int .u8 0)) 16) := Heap.set_self _ _ _
  generalize ((h.set b2 (.own 0 (w.map u8V) 32)).set b4 (.own 0 (List.replicate 16 (.int .u8 0)) 16)) = h1 at le0 q2 q4 ⊢
  have c16 : hcells h1 ⟨b2, 0, none⟩ 16 = some (row8 (fun j => w.getD j 0) 16) := by
    rw [hcells_at q2 (by simp [hw]), List.drop_zero, ← List.map_take, ← row8_list]
    have : (w.take 16).length = 16 := by simp [hw]
    rw [this]
    congr 1
    apply row8_congr
    intro k hk
    simp [List.getElem?_take, hk]
  simp -implicitDefEqProofs only [zA,reduceIte,reduceCtorEq,Nat.reduceEqDiff,Nat.reduceAdd,Nat.reduceMul,Nat.reduceLT,Nat.reduceSub,Int.reduceLT,Int.reduceLE,Int.reduceEq,Int.reduceNe,Int.reduceSub,Int.reduceAdd,Int.reduceMul,Int.reduceBEq,Int.reduceBNe,Int.reduceGT,Int.reduceGE,Nat.reduceGT,Int.reduceToNat,Int.reduceNeg,Nat.reduceLeDiff,Nat.reduceBEq,Nat.reduceBneDiff, bd1, Nat.sub_zero, addz, c16]
  refine (poly_Clamp_c E h1 _).mono ?_
  rintro r h2 ⟨le2, rfl⟩
  have eR : row8 (clampG fun j => w.getD j 0) 16 = (rowL (keyR w) 16).map u8V := (rowL_map _ _).symm
  rw [eR]
  have hk0 : keyK w 0 = (fromLittleF ((rowL (keyR w) 16).take 8)).toNat := rfl
  have hk1 : keyK w 1 = (fromLittleF (((rowL (keyR w) 16).drop 8).take 8)).toNat := rfl
  have hR := rowL_len (keyR w) 16
  generalize rowL (keyR w) 16 = R at hk0 hk1 hR ⊢
  simp -implicitDefEqProofs only [zA,reduceIte,reduceCtorEq,Nat.reduceEqDiff,Nat.reduceAdd,Nat.reduceMul,Nat.reduceLT,Nat.reduceSub,Int.reduceLT,Int.reduceLE,Int.reduceEq,Int.reduceNe,Int.reduceSub,Int.reduceAdd,Int.reduceMul,Int.reduceBEq,Int.reduceBNe,Int.reduceGT,Int.reduceGE,Nat.reduceGT,Int.reduceToNat,Int.reduceNeg,Nat.reduceLeDiff,Nat.reduceBEq,Nat.reduceBneDiff]
  intro b5 hb5
  rw [List.length_replicate]
  have st5 : storeV (h2.set b5 (.own 0 (List.replicate 16 (.int .u8 0)) 16)) 16 (.pointer (some ⟨b5, 0, none⟩)) (.agg (R.map u8V).toArray) = some (h2.set b5 (.own 0 (R.map u8V) 16)) := z6z (by omega) (by simp [hR]) (one_u8 _) (by simp) (by omega)
  have bd2 : bnds 16 16 none (some (some (.int .i64 8))) none = some (0, 8, 16) := bnds_hi (by omega) (by omega)
  have bd3 : bnds 16 16 (some (some (.int .i64 8))) none none = some (8, 16, 16) := bnds_lo (by omega) (by omega)
  have q25 := le2 _ _ q2
  have q45 := le2 _ _ q4
  have n52 := ne_of_none hb5 q25
  have n54 := ne_of_none hb5 q45
  have le3 : h.le (h2.set b5 (.own 0 (R.map u8V) 16)) := Heap.le_new (Heap.le_trans le0 le2) hb5 _
  have r5 := own_sl (l := R) (sz := 16) (H := h2.set b5 (.own 0 (R.map u8V) 16)) (Heap.set_self _ _ _)
  have r2 : (h2.set b5 (.own 0 (R.map u8V) 16)) b2 = some (.own 0 (w.map u8V) 32) := by rw [Heap.set_ne n52]; exact q25
  have r4 : (h2.set b5 (.own 0 (R.map u8V) 16)) b4 = some (.own 0 (List.replicate 16 (.int .u8 0)) 16) := by rw [Heap.set_ne n54]; exact q45
  have ea : (Addr.add ⟨b5, 0, none⟩ 8 : Addr) = ⟨b5, 8, none⟩ := by rw [add_off', Nat.zero_add]
  simp -implicitDefEqProofs only [zA,reduceIte,reduceCtorEq,Nat.reduceEqDiff,Nat.reduceAdd,Nat.reduceMul,Nat.reduceLT,Nat.reduceSub,Int.reduceLT,Int.reduceLE,Int.reduceEq,Int.reduceNe,Int.reduceSub,Int.reduceAdd,Int.reduceMul,Int.reduceBEq,Int.reduceBNe,Int.reduceGT,Int.reduceGE,Nat.reduceGT,Int.reduceToNat,Int.reduceNeg,Nat.reduceLeDiff,Nat.reduceBEq,Nat.reduceBneDiff, st5, bd2, Nat.sub_zero, addz]
  generalize (h2.set b5 (.own 0 (R.map u8V) 16)) = h3 at le3 r5 r2 r4 ⊢
  have s51 := Sl.headB r5 (m := 8) (by omega)
  rw [hR] at s51
  refine (poly_word_c E h3 (R.take 8) (by simp; omega) s51).mono ?_
  rintro r h4 ⟨le4, rfl⟩
  simp -implicitDefEqProofs only [zA,reduceIte,reduceCtorEq,Nat.reduceEqDiff,Nat.reduceAdd,Nat.reduceMul,Nat.reduceLT,Nat.reduceSub,Int.reduceLT,Int.reduceLE,Int.reduceEq,Int.reduceNe,Int.reduceSub,Int.reduceAdd,Int.reduceMul,Int.reduceBEq,Int.reduceBNe,Int.reduceGT,Int.reduceGE,Nat.reduceGT,Int.reduceToNat,Int.reduceNeg,Nat.reduceLeDiff,Nat.reduceBEq,Nat.reduceBneDiff, bd3, addz, ea, implies_true, List.mem_singleton, forall_eq]
  have s52 : SlB h4 (.slice (some ⟨b5, 8, none⟩) 8 8) ((R.drop 8).take 8) := by
    have := Sl.midB (a := 8) (b := 16) (by rw [hR] at r5; rw [hR]; exact r5) (by omega) (by omega)
    rw [if_neg (by omega), Option.map_some, ea] at this
    exact Sl.le le4 this
  refine (poly_word_c E h4 ((R.drop 8).take 8) (by simp; omega) s52).mono ?_
  rintro r h5 ⟨le5, rfl⟩
  unfold u64V
  rw [← hk0, ← hk1]
  have lk0 : keyK w 0 < 18446744073709551616 := BitVec.isLt _
  have lk1 : keyK w 1 < 18446744073709551616 := BitVec.isLt _
  generalize hKK0 : keyK w 0 = k0 at *
  generalize hKK1 : keyK w 1 = k1 at *
  simp -implicitDefEqProofs only [zA,reduceIte,reduceCtorEq,Nat.reduceEqDiff,Nat.reduceAdd,Nat.reduceMul,Nat.reduceLT,Nat.reduceSub,Int.reduceLT,Int.reduceLE,Int.reduceEq,Int.reduceNe,Int.reduceSub,Int.reduceAdd,Int.reduceMul,Int.reduceBEq,Int.reduceBNe,Int.reduceGT,Int.reduceGE,Nat.reduceGT,Int.reduceToNat,Int.reduceNeg,Nat.reduceLeDiff,Nat.reduceBEq,Nat.reduceBneDiff, implies_true]
  intro b6 hb6 b7 hb7
  have le35 := Heap.le_trans le4 le5
  have r25 := le35 _ _ r2
  have r45 := le35 _ _ r4
  have n62 := ne_of_none hb6 r25
  have n64 := ne_of_none hb6 r45
  have n76 := (Heap.set_none.1 hb7).1
  have hb7' := (Heap.set_none.1 hb7).2
  have n72 := ne_of_none hb7' r25
  have n74 := ne_of_none hb7' r45
  have le6 : h.le ((h5.set b6 (.own 0 [.int .u64 (k0 : Int), .int .u64 (k1 : Int)] 2)).set b7 (.own 0 [.int .u64 0, .int .u64 0, .int .u64 0] 3)) := by
    have a := Heap.le_trans le3 le35
    exact Heap.le_set (Heap.le_set a (Heap.none_of_le a hb6) _) (Heap.none_of_le a hb7') _
  have t2 : ((h5.set b6 (.own 0 [.int .u64 (k0 : Int), .int .u64 (k1 : Int)] 2)).set b7 (.own 0 [.int .u64 0, .int .u64 0, .int .u64 0] 3)) b2 = some (.own 0 (w.map u8V) 32) := by rw [Heap.set_ne n72, Heap.set_ne n62]; exact r25
  have t4 : ((h5.set b6 (.own 0 [.int .u64 (k0 : Int), .int .u64 (k1 : Int)] 2)).set b7 (.own 0 [.int .u64 0, .int .u64 0, .int .u64 0] 3)) b4 = some (.own 0 (List.replicate 16 (.int .u8 0)) 16) := by rw [Heap.set_ne n74, Heap.set_ne n64]; exact r45
  have t6 : ((h5.set b6 (.own 0 [.int .u64 (k0 : Int), .int .u64 (k1 : Int)] 2)).set b7 (.own 0 [.int .u64 0, .int .u64 0, .int .u64 0] 3)) b6 = some (.own 0 [.int .u64 (k0 : Int), .int .u64 (k1 : Int)] 2) := by rw [Heap.set_ne (Ne.symm n76), Heap.set_self]
  have t7 : ((h5.set b6 (.own 0 [.int .u64 (k0 : Int), .int .u64 (k1 : Int)] 2)).set b7 (.own 0 [.int .u64 0, .int .u64 0, .int .u64 0] 3)) b7 = some (.own 0 z3.cells 3) := Heap.set_self _ _ _
  have hb7h : h b7 = none := Heap.none_of_le (Heap.le_trans le3 le35) hb7'
  generalize ((h5.set b6 (.own 0 [.int .u64 (k0 : Int), .int .u64 (k1 : Int)] 2)).set b7 (.own 0 [.int .u64 0, .int .u64 0, .int .u64 0] 3)) = h6 at le6 t2 t4 t6 t7 ⊢
  refine (Concat_c E h6 L hl ht (s.le le6)).mono ?_
  rintro v8 h7 ⟨le7, ow8⟩
  have s8 := ow8.sl
  obtain ⟨b8, c8, rfl⟩ := Sl.shape s8
  have hall := Nat.le_refl L.flatten.length
  have u2 := le7 _ _ t2
  have u4 := le7 _ _ t4
  have u6 := le7 _ _ t6
  have u7 := le7 _ _ t7
  have leh7 := Heap.le_trans le6 le7
  simp -implicitDefEqProofs only [zA,reduceIte,reduceCtorEq,Nat.reduceEqDiff,Nat.reduceAdd,Nat.reduceMul,Nat.reduceLT,Nat.reduceSub,Int.reduceLT,Int.reduceLE,Int.reduceEq,Int.reduceNe,Int.reduceSub,Int.reduceAdd,Int.reduceMul,Int.reduceBEq,Int.reduceBNe,Int.reduceGT,Int.reduceGE,Nat.reduceGT,Int.reduceToNat,Int.reduceNeg,Nat.reduceLeDiff,Nat.reduceBEq,Nat.reduceBneDiff]
  refine wp_loop' (fun m t H => h6.le (H.set b7 (.own 0 z3.cells 3)) ∧ h.le H ∧ ∃ (l : List UInt8) (v8 : Value) (S : N3), t = tl [(2, .pointer (some ⟨b2, 0, none⟩)), (4, .pointer (some ⟨b4, 0, none⟩)), (6, .pointer (some ⟨b6, 0, none⟩)), (7, .pointer (some ⟨b7, 0, none⟩)), (8, v8)] ∧ m = l.length ∧ l.length ≤ 100000000 ∧
      H b7 = some (.own 0 S.cells 3) ∧ S.ok ∧ (∀ X, SlB (H.set b7 X) v8 l) ∧ tagSum k0 k1 S l = tagSum k0 k1 z3 L.flatten) L.flatten.length
    ⟨by rw [Heap.set_same u7]; exact le7, leh7, L.flatten, _, z3, rfl, rfl, by omega, u7, z3_ok, fun X => ow8.apart t7, rfl⟩ ?_
  clear u2 u4 u6 u7 s8 ow8 leh7 le7
  rintro m t H ⟨le6H, leH, l, v8, S, rfl, rfl, hl8, q7, okS, sl, hsum⟩
  have s8 := sl (.own 0 S.cells 3)
  rw [Heap.set_same q7] at s8
  obtain ⟨b8, c8, rfl⟩ := Sl.shape s8
  have at6 : ∀ b X, b ≠ b7 → h6 b = some X → H b = some X := fun b X hne hx => by
    have := le6H b X hx
    rwa [Heap.set_ne hne] at this
  have p6 := at6 b6 _ (Ne.symm n76) t6
  have p2 := at6 b2 _ n72 t2
  have p4 := at6 b4 _ n74 t4
  by_cases hlt : 0 < l.length
  · have g0 : (0 : Int) < l.length := by omega
    obtain ⟨N, hN⟩ : ∃ N, N = (l.take 16).length := ⟨_, rfl⟩
    have hN2 : N ≤ 16 ∧ N ≤ l.length ∧ 0 < N := by rw [hN, List.length_take]; omega
    have hmn : (if (16 : Int) < (l.length : Int) then (16 : Int) else (l.length : Int)) = (N : Int) := by
      rw [hN, List.length_take]
      split <;> omega
    have hc8 : l.length ≤ c8 := by
      rcases s8 with ⟨e, hz, _⟩ | ⟨_, _, e, hc, _⟩
      · omega
      · simp only [Value.slice.injEq] at e; omega
    have bdN : bnds l.length c8 none (some (some (.int .i64 (N : Int)))) none = some (0, N, c8) := by rw [bnds_hi (by omega) (by omega), Int.toNat_natCast]
    simp -implicitDefEqProofs only [zA,reduceIte,reduceCtorEq,Nat.reduceEqDiff,Nat.reduceAdd,Nat.reduceMul,Nat.reduceLT,Nat.reduceSub,Int.reduceLT,Int.reduceLE,Int.reduceEq,Int.reduceNe,Int.reduceSub,Int.reduceAdd,Int.reduceMul,Int.reduceBEq,Int.reduceBNe,Int.reduceGT,Int.reduceGE,Nat.reduceGT,Int.reduceToNat,Int.reduceNeg,Nat.reduceLeDiff,Nat.reduceBEq,Nat.reduceBneDiff, g0, hmn, bdN]
    rw [addO b8 c8 (fun a _ => addr_add0 a), Nat.sub_zero]
    have st := Sl.headB s8 (m := N) (by omega)
    have eT : l.take N = l.take 16 := by
      rw [hN, List.length_take]
      by_cases c : 16 ≤ l.length
      · rw [Nat.min_eq_left c]
      · rw [Nat.min_eq_right (by omega), List.take_of_length_le (Nat.le_refl _), List.take_of_length_le (by omega)]
    rw [eT] at st
    refine (Clone_c E H (l.take 16) (by omega) (by unfold SlB; rw [← hN]; unfold SlB at st; rw [← hN] at st; exact st)).mono ?_
    rintro v9 h8 ⟨le8, ow9⟩
    simp -implicitDefEqProofs only [zA,reduceIte,reduceCtorEq,Nat.reduceEqDiff,Nat.reduceAdd,Nat.reduceMul,Nat.reduceLT,Nat.reduceSub,Int.reduceLT,Int.reduceLE,Int.reduceEq,Int.reduceNe,Int.reduceSub,Int.reduceAdd,Int.reduceMul,Int.reduceBEq,Int.reduceBNe,Int.reduceGT,Int.reduceGE,Nat.reduceGT,Int.reduceToNat,Int.reduceNeg,Nat.reduceLeDiff,Nat.reduceBEq,Nat.reduceBneDiff]
    intro bO hbO
    try simp -implicitDefEqProofs only [zA,reduceIte,reduceCtorEq,Nat.reduceEqDiff,Nat.reduceAdd,Nat.reduceMul,Nat.reduceLT,Nat.reduceSub,Int.reduceLT,Int.reduceLE,Int.reduceEq,Int.reduceNe,Int.reduceSub,Int.reduceAdd,Int.reduceMul,Int.reduceBEq,Int.reduceBNe,Int.reduceGT,Int.reduceGE,Nat.reduceGT,Int.reduceToNat,Int.reduceNeg,Nat.reduceLeDiff,Nat.reduceBEq,Nat.reduceBneDiff]
    refine appendP_ow (bytes := 1) (m := 1) (news := [.int .u8 1]) (Heap.le_new le8 hbO _) (by omega) (ow9.le (Heap.le_set (Heap.le_refl _) hbO _)) (Sl.lit (n := 1) rfl) rfl (by omega) (by omega) ?_
    intro v10 h9 ow10 le9
    have w32 : IntKind.i64.wrap (32 - (N : Int)) = ((32 - N : Nat) : Int) := by rw [wrapI (by omega) (by omega)]; omega
    simp -implicitDefEqProofs only [zA,reduceIte,reduceCtorEq,Nat.reduceEqDiff,Nat.reduceAdd,Nat.reduceMul,Nat.reduceLT,Nat.reduceSub,Int.reduceLT,Int.reduceLE,Int.reduceEq,Int.reduceNe,Int.reduceSub,Int.reduceAdd,Int.reduceMul,Int.reduceBEq,Int.reduceBNe,Int.reduceGT,Int.reduceGE,Nat.reduceGT,Int.reduceToNat,Int.reduceNeg,Nat.reduceLeDiff,Nat.reduceBEq,Nat.reduceBneDiff, w32]
    refine appendZP_ow (m := 32 - N) le9 (by omega) ow10 rfl rfl (by omega) (by omega) ?_
    intro v11 h10 ow11 le10
    have eB : (l.take 16).map u8V ++ [Value.int .u8 1] ++ (List.replicate (32 - N) [Value.int .u8 0]).flatten = (blockB l).map u8V := by
      unfold blockB
      rw [← hN, List.flatten_replicate_singleton]
      simp only [List.map_append, List.map_replicate]
      rfl
    have lB : (blockB l).length = 33 := by unfold blockB; rw [← hN]; simp only [List.length_append, List.length_replicate, ← hN, List.length_cons, List.length_nil]; omega
    rw [eB] at ow11
    have e33 : (l.take 16).length + 1 + (32 - N) = 33 := by omega
    rw [e33] at ow11
    have sB : SlB h10 v11 (blockB l) := by unfold SlB; rw [lB]; exact ow11.sl
    have hbl : blockN l = ⟨(fromLittleF ((blockB l).take 8)).toNat, (fromLittleF (((blockB l).drop 8).take 8)).toNat, ((blockB l).getD 16 0).toNat⟩ := rfl
    have hts := tagSum_more (k0 := k0) (k1 := k1) (s := S) hlt
    rw [hbl] at hts
    generalize blockB l = B at *
    obtain ⟨b11, c11, rfl⟩ := Sl.shape sB
    have hc11 : B.length ≤ c11 := by
      rcases sB with ⟨e, hz, _⟩ | ⟨_, _, e, hc, _⟩
      · omega
      · simp only [Value.slice.injEq] at e; omega
    obtain ⟨bb, oo, c', hv, _, hat⟩ := Sl.byte_at sB 16 (by omega)
    simp only [Value.slice.injEq, true_and] at hv
    obtain ⟨rfl, rfl⟩ := hv
    have bd8 : bnds B.length c11 none (some (some (.int .i64 8))) none = some (0, 8, c11) := bnds_hi (by omega) (by omega)
    have bd816 : bnds B.length c11 (some (some (.int .i64 8))) (some (some (.int .i64 16))) none = some (8, 16, c11) := bnds_both (by omega) (by omega) (by omega)
    have y7 : ∀ H', h10.le H' → hcells H' ⟨b7, 0, none⟩ 3 = some S.cells := fun H' x => by rw [hcells_at (x _ _ (le10 _ _ q7)) (by simp [N3.cells])]; rfl
    have y6 : ∀ H', h10.le H' → hcells H' ⟨b6, 0, none⟩ 2 = some [.int .u64 (k0 : Int), .int .u64 (k1 : Int)] := fun H' x => by rw [hcells_at (x _ _ (le10 _ _ p6)) (by simp)]; rfl
    have y16 : ∀ H', h10.le H' → hcell H' ⟨bb, oo + 16, none⟩ = some (.int .u8 ((B.getD 16 0).toNat : Int)) := fun H' x => by
      rw [hat H' x]
      have : B.getD 16 0 = B[16]'(by omega) := by simp [List.getD_eq_getElem?_getD, List.getElem?_eq_getElem (show 16 < B.length by omega)]
      rw [this]; rfl
    have sB8 := Sl.headB sB (m := 8) (by omega)
    have g16 : (16 : Int) < B.length := by omega
    simp -implicitDefEqProofs only [zA,reduceIte,reduceCtorEq,Nat.reduceEqDiff,Nat.reduceAdd,Nat.reduceMul,Nat.reduceLT,Nat.reduceSub,Int.reduceLT,Int.reduceLE,Int.reduceEq,Int.reduceNe,Int.reduceSub,Int.reduceAdd,Int.reduceMul,Int.reduceBEq,Int.reduceBNe,Int.reduceGT,Int.reduceGE,Nat.reduceGT,Int.reduceToNat,Int.reduceNeg,Nat.reduceLeDiff,Nat.reduceBEq,Nat.reduceBneDiff, bd8, Nat.sub_zero, addz, ite_self]
    refine (poly_word_c E h10 (B.take 8) (by simp; omega) (by unfold SlB; unfold SlB at sB8; have : (B.take 8).length = 8 := (by simp; omega); rw [this] at sB8 ⊢; exact sB8)).mono ?_
    rintro r h11 ⟨le11, rfl⟩
    have sM := Sl.le le11 (Sl.midB sB (a := 8) (b := 16) (by omega) (by omega))
    have a1 := y7 h10 (Heap.le_refl _)
    have a2 := y7 h11 le11
    simp -implicitDefEqProofs only [zA,reduceIte,reduceCtorEq,Nat.reduceEqDiff,Nat.reduceAdd,Nat.reduceMul,Nat.reduceLT,Nat.reduceSub,Int.reduceLT,Int.reduceLE,Int.reduceEq,Int.reduceNe,Int.reduceSub,Int.reduceAdd,Int.reduceMul,Int.reduceBEq,Int.reduceBNe,Int.reduceGT,Int.reduceGE,Nat.reduceGT,Int.reduceToNat,Int.reduceNeg,Nat.reduceLeDiff,Nat.reduceBEq,Nat.reduceBneDiff, bd816, a1, a2, implies_true, List.mem_singleton, forall_eq]
    refine (poly_word_c E h11 ((B.drop 8).take 8) (by simp; omega) sM).mono ?_
    rintro r h12 ⟨le12, rfl⟩
    have le1012 := Heap.le_trans le11 le12
    have a3 := y7 h12 le1012
    have b1' := y16 h10 (Heap.le_refl _)
    have b2' := y16 h11 le11
    have b3' := y16 h12 le1012
    have g16' : (16 : Int) < (B.length : Int) := g16
    have wz : IntKind.u64.wrap ((B.getD 16 0).toNat : Int) = ((B.getD 16 0).toNat : Int) := wrap_u64n (by have := (B.getD 16 0).toNat_lt; omega)
    have eS : Value.agg S.cells.toArray = S.V := rfl
    simp -implicitDefEqProofs only [zA,reduceIte,reduceCtorEq,Nat.reduceEqDiff,Nat.reduceAdd,Nat.reduceMul,Nat.reduceLT,Nat.reduceSub,Int.reduceLT,Int.reduceLE,Int.reduceEq,Int.reduceNe,Int.reduceSub,Int.reduceAdd,Int.reduceMul,Int.reduceBEq,Int.reduceBNe,Int.reduceGT,Int.reduceGE,Nat.reduceGT,Int.reduceToNat,Int.reduceNeg,Nat.reduceLeDiff,Nat.reduceBEq,Nat.reduceBneDiff, u64V, a1, a2, a3, b1', b2', b3', g16', wz, eS, implies_true, List.mem_singleton, forall_eq, List.mem_cons, forall_eq_or_imp, List.not_mem_nil]
    generalize hM : (⟨(fromLittleF (B.take 8)).toNat, (fromLittleF ((B.drop 8).take 8)).toNat, (B.getD 16 0).toNat⟩ : N3) = M at *
    have okM : M.ok := by rw [← hM]; exact ⟨BitVec.isLt _, BitVec.isLt _, by have := (B.getD 16 0).toNat_lt; simp only; omega⟩
    have eM : Value.agg #[.int .u64 ((fromLittleF (B.take 8)).toNat : Int), .int .u64 ((fromLittleF ((B.drop 8).take 8)).toNat : Int), .int .u64 ((B.getD 16 0).toNat : Int)] = M.V := by rw [← hM]; rfl
    rw [eM]
    refine (num_plus_c E h12 S M okS okM).mono ?_
    rintro r h13 ⟨le13, rfl⟩
    have le1013 := Heap.le_trans le1012 le13
    have d0 := y6 h10 (Heap.le_refl _)
    have d1 := y6 h11 le11
    have d2 := y6 h12 le1012
    have d3 := y6 h13 le1013
    simp -implicitDefEqProofs only [zA,reduceIte,reduceCtorEq,Nat.reduceEqDiff,Nat.reduceAdd,Nat.reduceMul,Nat.reduceLT,Nat.reduceSub,Int.reduceLT,Int.reduceLE,Int.reduceEq,Int.reduceNe,Int.reduceSub,Int.reduceAdd,Int.reduceMul,Int.reduceBEq,Int.reduceBNe,Int.reduceGT,Int.reduceGE,Nat.reduceGT,Int.reduceToNat,Int.reduceNeg,Nat.reduceLeDiff,Nat.reduceBEq,Nat.reduceBneDiff, d0, d1, d2, d3, implies_true, List.mem_singleton, forall_eq, List.mem_cons, forall_eq_or_imp, List.not_mem_nil]
    refine (num_times_c E h13 (S.plus M) k0 k1 (N3.plus_ok _ _) lk0 lk1).mono ?_
    rintro r h14 ⟨le14, rfl⟩
    have leH14 := Heap.le_trans le10 (Heap.le_trans le1013 le14)
    have okT : ((S.plus M).times k0 k1).ok := N3.cut_ok _
    generalize (S.plus M).times k0 k1 = T at *
    have st7 := store3 T (leH14 _ _ q7) rfl
    have bdD : bnds l.length c8 (some (some (.int .i64 (N : Int)))) none none = some (N, l.length, c8) := by rw [bnds_lo (by omega) (by omega), Int.toNat_natCast]
    simp -implicitDefEqProofs only [zA,reduceIte,reduceCtorEq,Nat.reduceEqDiff,Nat.reduceAdd,Nat.reduceMul,Nat.reduceLT,Nat.reduceSub,Int.reduceLT,Int.reduceLE,Int.reduceEq,Int.reduceNe,Int.reduceSub,Int.reduceAdd,Int.reduceMul,Int.reduceBEq,Int.reduceBNe,Int.reduceGT,Int.reduceGE,Nat.reduceGT,Int.reduceToNat,Int.reduceNeg,Nat.reduceLeDiff,Nat.reduceBEq,Nat.reduceBneDiff, st7, bdD, implies_true]
    have eD : l.drop N = l.drop 16 := by
      rw [hN, List.length_take]
      by_cases c : 16 ≤ l.length
      · rw [Nat.min_eq_left c]
      · rw [Nat.min_eq_right (by omega), List.drop_eq_nil_of_le (Nat.le_refl _), List.drop_eq_nil_of_le (by omega)]
    have lD : (l.drop 16).length = l.length - N := by rw [← eD, List.length_drop]
    refine ⟨(l.drop 16).length, by omega, fun b x hx => le_sets leH14 b7 _ b x (le6H b x hx), Heap.le_set (Heap.le_trans leH leH14) hb7h _, l.drop 16, _, T, rfl, rfl, by omega, Heap.set_self _ _ _, okT, fun X => ?_, by rw [← hts]; exact hsum⟩
    have sp := Sl.post (sl X) (k := N) (by omega)
    simp only [Nat.mul_one] at sp
    rw [← List.map_drop, eD] at sp
    unfold SlB
    rw [lD]
    exact Sl.le (le_sets leH14 b7 X) sp
  · have g0 : ¬ (0 : Int) < l.length := by omega
    rw [tagSum_done hlt] at hsum
    have l7 : hcells H ⟨b7, 0, none⟩ 3 = some S.cells := by rw [hcells_at q7 (by simp [N3.cells])]; rfl
    have eS : Value.agg S.cells.toArray = S.V := rfl
    have hT : tagN w L.flatten = S.last.plus ⟨(fromLittleF ((w.drop 16).take 8)).toNat, (fromLittleF ((w.drop 24).take 8)).toNat, 0⟩ := by
      unfold tagN; rw [hKK0, hKK1, ← hsum]
    simp -implicitDefEqProofs only [zA,reduceIte,reduceCtorEq,Nat.reduceEqDiff,Nat.reduceAdd,Nat.reduceMul,Nat.reduceLT,Nat.reduceSub,Int.reduceLT,Int.reduceLE,Int.reduceEq,Int.reduceNe,Int.reduceSub,Int.reduceAdd,Int.reduceMul,Int.reduceBEq,Int.reduceBNe,Int.reduceGT,Int.reduceGE,Nat.reduceGT,Int.reduceToNat,Int.reduceNeg,Nat.reduceLeDiff,Nat.reduceBEq,Nat.reduceBneDiff, g0, l7, eS]
    refine (num_last_c E H S okS).mono ?_
    rintro r h8 ⟨le8, rfl⟩
    have okL := N3.last_ok S
    generalize S.last = Z at *
    have bdA : bnds 32 32 (some (some (.int .i64 16))) (some (some (.int .i64 24))) none = some (16, 24, 32) := bnds_both (by omega) (by omega) (by omega)
    have bdB : bnds 32 32 (some (some (.int .i64 24))) none none = some (24, 32, 32) := bnds_lo (by omega) (by omega)
    have eA1 : (Addr.add ⟨b2, 0, none⟩ 16 : Addr) = ⟨b2, 16, none⟩ := by rw [add_off', Nat.zero_add]
    have eA2 : (Addr.add ⟨b2, 0, none⟩ 24 : Addr) = ⟨b2, 24, none⟩ := by rw [add_off', Nat.zero_add]
    have sW := own_sl (le8 _ _ p2)
    have sA : SlB h8 (.slice (some ⟨b2, 16, none⟩) 8 16) ((w.drop 16).take 8) := by
      have := Sl.midB (a := 16) (b := 24) sW (by omega) (by omega)
      rw [hw, if_neg (by omega), Option.map_some, eA1] at this
      exact this
    have sB : SlB h8 (.slice (some ⟨b2, 24, none⟩) 8 8) ((w.drop 24).take 8) := by
      have := Sl.midB (a := 24) (b := 32) sW (by omega) (by omega)
      rw [hw, if_neg (by omega), Option.map_some, eA2] at this
      exact this
    simp -implicitDefEqProofs only [zA,reduceIte,reduceCtorEq,Nat.reduceEqDiff,Nat.reduceAdd,Nat.reduceMul,Nat.reduceLT,Nat.reduceSub,Int.reduceLT,Int.reduceLE,Int.reduceEq,Int.reduceNe,Int.reduceSub,Int.reduceAdd,Int.reduceMul,Int.reduceBEq,Int.reduceBNe,Int.reduceGT,Int.reduceGE,Nat.reduceGT,Int.reduceToNat,Int.reduceNeg,Nat.reduceLeDiff,Nat.reduceBEq,Nat.reduceBneDiff, bdA, eA1, implies_true, List.mem_singleton, forall_eq]
    refine (poly_word_c E h8 ((w.drop 16).take 8) (by simp; omega) sA).mono ?_
    rintro r h9 ⟨le9, rfl⟩
    simp -implicitDefEqProofs only [zA,reduceIte,reduceCtorEq,Nat.reduceEqDiff,Nat.reduceAdd,Nat.reduceMul,Nat.reduceLT,Nat.reduceSub,Int.reduceLT,Int.reduceLE,Int.reduceEq,Int.reduceNe,Int.reduceSub,Int.reduceAdd,Int.reduceMul,Int.reduceBEq,Int.reduceBNe,Int.reduceGT,Int.reduceGE,Nat.reduceGT,Int.reduceToNat,Int.reduceNeg,Nat.reduceLeDiff,Nat.reduceBEq,Nat.reduceBneDiff, bdB, eA2, implies_true, List.mem_singleton, forall_eq]
    refine (poly_word_c E h9 ((w.drop 24).take 8) (by simp; omega) (Sl.le le9 sB)).mono ?_
    rintro r h10 ⟨le10, rfl⟩
    simp -implicitDefEqProofs only [zA,reduceIte,reduceCtorEq,Nat.reduceEqDiff,Nat.reduceAdd,Nat.reduceMul,Nat.reduceLT,Nat.reduceSub,Int.reduceLT,Int.reduceLE,Int.reduceEq,Int.reduceNe,Int.reduceSub,Int.reduceAdd,Int.reduceMul,Int.reduceBEq,Int.reduceBNe,Int.reduceGT,Int.reduceGE,Nat.reduceGT,Int.reduceToNat,Int.reduceNeg,Nat.reduceLeDiff,Nat.reduceBEq,Nat.reduceBneDiff, u64V, implies_true]
    generalize hM : (⟨(fromLittleF ((w.drop 16).take 8)).toNat, (fromLittleF ((w.drop 24).take 8)).toNat, 0⟩ : N3) = M at *
    have okM : M.ok := by rw [← hM]; exact ⟨BitVec.isLt _, BitVec.isLt _, by simp⟩
    have eM : Value.agg #[.int .u64 ((fromLittleF ((w.drop 16).take 8)).toNat : Int), .int .u64 ((fromLittleF ((w.drop 24).take 8)).toNat : Int), .int .u64 0] = M.V := by rw [← hM]; rfl
    rw [eM]
    refine (num_plus_c E h10 Z M okL okM).mono ?_
    rintro r h11 ⟨le11, rfl⟩
    have okT := N3.plus_ok Z M
    have hF : tagF w L.flatten = littleF (BitVec.ofNat 64 (Z.plus M).a) 8 ++ littleF (BitVec.ofNat 64 (Z.plus M).b) 8 := by unfold tagF; rw [hT]
    rw [hF]
    generalize Z.plus M = T at *
    simp -implicitDefEqProofs only [zA,reduceIte,reduceCtorEq,Nat.reduceEqDiff,Nat.reduceAdd,Nat.reduceMul,Nat.reduceLT,Nat.reduceSub,Int.reduceLT,Int.reduceLE,Int.reduceEq,Int.reduceNe,Int.reduceSub,Int.reduceAdd,Int.reduceMul,Int.reduceBEq,Int.reduceBNe,Int.reduceGT,Int.reduceGE,Nat.reduceGT,Int.reduceToNat,Int.reduceNeg,Nat.reduceLeDiff,Nat.reduceBEq,Nat.reduceBneDiff, implies_true]
    intro bT hbT
    have stT : storeV (h11.set bT (.own 0 [.int .u64 0, .int .u64 0, .int .u64 0] 3)) 3 (.pointer (some ⟨bT, 0, none⟩)) T.V = some (h11.set bT (.own 0 T.cells 3)) := z6z (by omega) rfl rfl rfl (by omega)
    have le12 : H.le (h11.set bT (.own 0 T.cells 3)) := Heap.le_new (Heap.le_trans le8 (Heap.le_trans le9 (Heap.le_trans le10 le11))) hbT _
    have qT : (h11.set bT (.own 0 T.cells 3)) bT = some (.own 0 T.cells 3) := Heap.set_self _ _ _
    simp -implicitDefEqProofs only [zA,reduceIte,reduceCtorEq,Nat.reduceEqDiff,Nat.reduceAdd,Nat.reduceMul,Nat.reduceLT,Nat.reduceSub,Int.reduceLT,Int.reduceLE,Int.reduceEq,Int.reduceNe,Int.reduceSub,Int.reduceAdd,Int.reduceMul,Int.reduceBEq,Int.reduceBNe,Int.reduceGT,Int.reduceGE,Nat.reduceGT,Int.reduceToNat,Int.reduceNeg,Nat.reduceLeDiff,Nat.reduceBEq,Nat.reduceBneDiff, stT, implies_true]
    generalize (h11.set bT (.own 0 T.cells 3)) = h12 at le12 qT ⊢
    have lA : ∀ H', h12.le H' → hcell H' ⟨bT, 0, none⟩ = some (.int .u64 (T.a : Int)) := fun H' x => hcell_at (x _ _ qT) (by simp [N3.cells])
    have lB : ∀ H', h12.le H' → hcell H' ⟨bT, 1, none⟩ = some (.int .u64 (T.b : Int)) := fun H' x => hcell_at (x _ _ qT) (by simp [N3.cells])
    have eA : (T.a : Int) = ((BitVec.ofNat 64 T.a).toNat : Int) := by have := okT.1; simp; omega
    have eB : (T.b : Int) = ((BitVec.ofNat 64 T.b).toNat : Int) := by have := okT.2.1; simp; omega
    rw [eA] at lA
    rw [eB] at lB
    generalize BitVec.ofNat 64 T.a = A at *
    generalize BitVec.ofNat 64 T.b = D at *
    have a1 := lA h12 (Heap.le_refl _)
    have a2 := lB h12 (Heap.le_refl _)
    simp -implicitDefEqProofs only [zA,reduceIte,reduceCtorEq,Nat.reduceEqDiff,Nat.reduceAdd,Nat.reduceMul,Nat.reduceLT,Nat.reduceSub,Int.reduceLT,Int.reduceLE,Int.reduceEq,Int.reduceNe,Int.reduceSub,Int.reduceAdd,Int.reduceMul,Int.reduceBEq,Int.reduceBNe,Int.reduceGT,Int.reduceGE,Nat.reduceGT,Int.reduceToNat,Int.reduceNeg,Nat.reduceLeDiff,Nat.reduceBEq,Nat.reduceBneDiff, a1, a2, implies_true]
    refine (octet_Little_c E h12 [] (by simp) (.inl ⟨rfl, rfl, rfl⟩) A 8 (by omega)).mono ?_
    rintro vA h13 ⟨le13, owA⟩
    rw [List.nil_append] at owA
    have a3 := lB h13 le13
    simp -implicitDefEqProofs only [zA,reduceIte,reduceCtorEq,Nat.reduceEqDiff,Nat.reduceAdd,Nat.reduceMul,Nat.reduceLT,Nat.reduceSub,Int.reduceLT,Int.reduceLE,Int.reduceEq,Int.reduceNe,Int.reduceSub,Int.reduceAdd,Int.reduceMul,Int.reduceBEq,Int.reduceBNe,Int.reduceGT,Int.reduceGE,Nat.reduceGT,Int.reduceToNat,Int.reduceNeg,Nat.reduceLeDiff,Nat.reduceBEq,Nat.reduceBneDiff, a2, a3, implies_true, List.mem_singleton, forall_eq]
    refine (octet_Little_c E h13 (littleF A 8) (by rw [littleF_len]; omega) owA.sl D 8 (by omega)).mono ?_
    rintro vD h14 ⟨le14, owD⟩
    have lO : (littleF A 8 ++ littleF D 8).length = 16 := by rw [List.length_append, littleF_len, littleF_len]
    have sO := owD.sl
    generalize littleF A 8 ++ littleF D 8 = O at *
    obtain ⟨bO, oO, cO, rfl, hcO, hclO⟩ := sO.ptr (by omega) (by omega)
    have g16 : (16 : Int) ≤ O.length := by omega
    rw [lO] at hclO
    have leH14 := Heap.le_trans le12 (Heap.le_trans le13 le14)
    have q4' := leH14 _ _ p4
    have st4 : storeV h14 16 (.pointer (some ⟨b4, 0, none⟩)) (.agg (O.map u8V).toArray) = some (h14.set b4 (.own 0 (O.map u8V) 16)) := storeV_agg_at q4' (by omega) (by simp [lO]) (one_u8 _) (by simp) (by omega)
    have l4 : hcells (h14.set b4 (.own 0 (O.map u8V) 16)) ⟨b4, 0, none⟩ 16 = some (O.map u8V) := z6x (by simp [lO])
    have hO16 : 16 ≤ O.length := by omega
    simp -implicitDefEqProofs only [zA,reduceIte,reduceCtorEq,Nat.reduceEqDiff,Nat.reduceAdd,Nat.reduceMul,Nat.reduceLT,Nat.reduceSub,Int.reduceLT,Int.reduceLE,Int.reduceEq,Int.reduceNe,Int.reduceSub,Int.reduceAdd,Int.reduceMul,Int.reduceBEq,Int.reduceBNe,Int.reduceGT,Int.reduceGE,Nat.reduceGT,Int.reduceToNat,Int.reduceNeg,Nat.reduceLeDiff,Nat.reduceBEq,Nat.reduceBneDiff, g16, hO16, hclO, st4, l4, implies_true, lO]
    exact Heap.le_set (Heap.le_trans leH leH14) hb4' _

/-! ### bits that do not count -/
theorem clampG_congr {f g : Nat → UInt8} {k : Nat} (h : f k = g k) : clampG f k = clampG g k := by
  unfold clampG clB clA
  simp only [h]
end Go.Bb
/- The law PolyAdds: plain part. -/
namespace Go.Bb
set_option linter.unusedSimpArgs false
set_option linter.unusedVariables false

/-- The number of a row of bytes, low byte first. -/
def leN : List UInt8 → Nat
  | [] => 0
  | b :: l => b.toNat + 256 * leN l
theorem leN_lt : ∀ l : List UInt8, leN l < 256 ^ l.length
  | [] => by simp [leN]
  | b :: l => by
    have := leN_lt l
    have hb : b.toNat < 256 := b.toNat_lt
    simp only [leN, List.length_cons, Nat.pow_succ]
    omega
theorem shl_or8 (v : U64) (b : UInt8) (hv : v.toNat < 72057594037927936) : (v <<< 8 ||| BitVec.ofNat 64 b.toNat).toNat = b.toNat + 256 * v.toNat := by
  have hb : b.toNat < 2 ^ 8 := b.toNat_lt
  rw [BitVec.toNat_or, BitVec.toNat_shiftLeft, BitVec.toNat_ofNat, Nat.shiftLeft_eq, Nat.mod_eq_of_lt (by omega), Nat.mod_eq_of_lt (by omega), Nat.mul_comm, ← Nat.two_pow_add_eq_or_of_lt hb]
  omega
theorem fromLittleF_nat : ∀ l : List UInt8, l.length ≤ 8 → (fromLittleF l).toNat = leN l
  | [], _ => rfl
  | b :: l, h => by
    have ih := fromLittleF_nat l (by simp at h; omega)
    have e : fromLittleF (b :: l) = fromLittleF l <<< 8 ||| BitVec.ofNat 64 b.toNat := by simp [fromLittleF, fromBigF]
    have lt := leN_lt l
    have hp : 256 ^ l.length ≤ 256 ^ 7 := Nat.pow_le_pow_right (by decide) (by simp at h; omega)
    rw [e, shl_or8 _ _ (by rw [ih]; omega), ih, leN]
theorem littleF_byte (v : U64) (n i : Nat) (h : i < n) : (littleF v n).getD i 0 = UInt8.ofNat (v.toNat / 256 ^ i) := by
  have e : (256 : Nat) ^ i = 2 ^ (8 * i) := by rw [Nat.pow_mul]
  simp [littleF, List.getD, h, e, Nat.shiftRight_eq_div_pow]
theorem leN_append : ∀ a b : List UInt8, leN (a ++ b) = leN a + 256 ^ a.length * leN b
  | [], b => by simp [leN]
  | x :: a, b => by
    simp only [List.cons_append, leN, leN_append a b, List.length_cons, Nat.pow_succ]
    rw [Nat.mul_add, Nat.mul_comm (256 ^ a.length) 256, Nat.mul_assoc]; omega
theorem u8_mod (a : Nat) : UInt8.ofNat a = UInt8.ofNat (a % 256) := by
  apply UInt8.toNat_inj.1; simp
theorem gD_app (a b : List UInt8) (i : Nat) (h : i < a.length) : (a ++ b).getD i 0 = a.getD i 0 := by
  simp only [List.getD_eq_getElem?_getD, List.getElem?_append_left h]
theorem gD_app2 (a b : List UInt8) (i : Nat) (h : a.length ≤ i) : (a ++ b).getD i 0 = b.getD (i - a.length) 0 := by
  simp only [List.getD_eq_getElem?_getD, List.getElem?_append_right h]
/-- A word of two: bytes of its number. -/
theorem little2_byte (x : N3) (hx : x.ok) (i : Nat) (h : i < 16) : (littleF (BitVec.ofNat 64 x.a) 8 ++ littleF (BitVec.ofNat 64 x.b) 8).getD i 0 = UInt8.ofNat (x.val / 256 ^ i) := by
  obtain ⟨ha, hb, hc⟩ := hx
  have ea : (BitVec.ofNat 64 x.a).toNat = x.a := by rw [BitVec.toNat_ofNat]; omega
  have eb : (BitVec.ofNat 64 x.b).toNat = x.b := by rw [BitVec.toNat_ofNat]; omega
  have key : ∀ j < 16, x.val / 256 ^ j % 256 = (if j < 8 then x.a / 256 ^ j else x.b / 256 ^ (j - 8)) % 256 := by
    intro j hj
    have : j = 0 ∨ j = 1 ∨ j = 2 ∨ j = 3 ∨ j = 4 ∨ j = 5 ∨ j = 6 ∨ j = 7 ∨ j = 8 ∨ j = 9 ∨ j = 10 ∨ j = 11 ∨ j = 12 ∨ j = 13 ∨ j = 14 ∨ j = 15 := by omega
    rcases this with rfl | rfl | rfl | rfl | rfl | rfl | rfl | rfl | rfl | rfl | rfl | rfl | rfl | rfl | rfl | rfl <;> simp only [N3.val] <;> simp <;> omega
  rw [u8_mod (x.val / 256 ^ i), key i h]
  by_cases g : i < 8
  · rw [if_pos g, gD_app _ _ _ (by rw [littleF_len]; exact g), littleF_byte _ _ _ g, ea, u8_mod (x.a / 256 ^ i)]
  · rw [if_neg g, gD_app2 _ _ _ (by rw [littleF_len]; omega), littleF_len, littleF_byte _ _ _ (by omega), eb, u8_mod (x.b / 256 ^ (i - 8))]
theorem mod_byte (x i : Nat) (h : i < 16) : x % 6277101735386680763835789423207666416102355444464034512896 / 256 ^ i % 256 = x / 256 ^ i % 256 := by
  have e : (6277101735386680763835789423207666416102355444464034512896 : Nat) = 256 ^ i * 256 ^ (24 - i) := by rw [← Nat.pow_add, show i + (24 - i) = 24 by omega]
  rw [e, Nat.mod_mul_right_div_self, Nat.mod_mod_of_dvd]
  exact Nat.dvd_trans (by decide) (Nat.pow_dvd_pow 256 (show 1 ≤ 24 - i by omega))
def tagA (r all : List UInt8) : Nat := (tagSum (keyK r 0) (keyK r 1) z3 all).last.val
theorem keyK_head (r s : List UInt8) (hr : r.length = 16) (i : Nat) : keyK (r ++ s) i = keyK r i := by
  have : rowL (keyR (r ++ s)) 16 = rowL (keyR r) 16 := by
    unfold rowL
    apply List.map_congr_left
    intro j hj
    have hj16 : j < 16 := List.mem_range.1 hj
    exact clampG_congr (gD_app r s j (by omega))
  unfold keyK; rw [this]
theorem tagF_byte (r s all : List UInt8) (hr : r.length = 16) (hs : s.length = 16) (i : Nat) (h : i < 16) : (tagF (r ++ s) all).getD i 0 = UInt8.ofNat ((tagA r all + leN s) / 256 ^ i) := by
  have d16 : (r ++ s).drop 16 = s := by rw [List.drop_left' hr]
  have d24 : (r ++ s).drop 24 = s.drop 8 := by rw [show 24 = 16 + 8 from rfl, ← List.drop_drop, d16]
  have hv : (⟨(fromLittleF (s.take 8)).toNat, (fromLittleF ((s.drop 8).take 8)).toNat, 0⟩ : N3).val = leN s := by
    rw [fromLittleF_nat _ (by simp; omega), fromLittleF_nat _ (by simp; omega)]
    rw [show (s.drop 8).take 8 = s.drop 8 by rw [List.take_of_length_le]; simp [hs]]
    conv => rhs; rw [← List.take_append_drop 8 s, leN_append, List.length_take, hs]
    simp [N3.val]
  unfold tagF
  rw [little2_byte (tagN (r ++ s) all) (N3.plus_ok _ _) i h, u8_mod, u8_mod ((tagA r all + leN s) / 256 ^ i)]
  unfold tagN
  rw [N3.plus_val, mod_byte _ _ h, d16, d24, hv, keyK_head r s hr, keyK_head r s hr]
  rfl
theorem leN_zero (n : Nat) : leN (List.replicate n 0) = 0 := by
  induction n with
  | zero => rfl
  | succ n ih => rw [List.replicate_succ, leN, ih]; rfl
end Go.Bb
/- The tag, as numbers: plain laws. -/
namespace Go.Bb
set_option linter.unusedSimpArgs false
set_option linter.unusedVariables false
set_option maxRecDepth 20000

def blkV (l : List UInt8) : Nat := leN l + 256 ^ l.length
def polyH (R acc : Nat) (l : List UInt8) : Nat :=
  if h : 0 < l.length then polyH R ((acc + blkV (l.take 16)) * R % PQ) (l.drop 16) else acc
termination_by l.length
decreasing_by simp; omega
theorem polyH_more {R acc : Nat} {l : List UInt8} (h : 0 < l.length) : polyH R acc l = polyH R ((acc + blkV (l.take 16)) * R % PQ) (l.drop 16) := by
  rw [polyH, dif_pos h]
theorem polyH_done {R acc : Nat} {l : List UInt8} (h : ¬ 0 < l.length) : polyH R acc l = acc := by
  rw [polyH, dif_neg h]
theorem mod_step (a b R : Nat) : (a % PQ + b) * R % PQ = (a + b) * R % PQ := by
  rw [Nat.mul_mod, Nat.mod_add_mod, ← Nat.mul_mod]
/-- The document's tag. -/
def tagR (w l : List UInt8) (i : Nat) : UInt8 := UInt8.ofNat ((polyH (leN (rowL (keyR w) 16)) 0 l + leN (w.drop 16)) / 256 ^ i)
end Go.Bb
/- Streams of keys, in plain words. -/
namespace Go.Bb
set_option linter.unusedSimpArgs false
set_option linter.unusedVariables false

structure Q4 where
  a : U32
  b : U32
  c : U32
  d : U32
/-- Turned to the left. -/
def rotF (x : U32) (n : Nat) : U32 := turnF x (32 - n)
def quarF (q : Q4) : Q4 :=
  let a1 := q.a + q.b
  let d1 := rotF (q.d ^^^ a1) 16
  let c1 := q.c + d1
  let b1 := rotF (q.b ^^^ c1) 12
  let a2 := a1 + b1
  let d2 := rotF (d1 ^^^ a2) 8
  let c2 := c1 + d2
  let b2 := rotF (b1 ^^^ c2) 7
  ⟨a2, b2, c2, d2⟩
def Q4.V (q : Q4) : Value := .tuple #[.int .u32 q.a.toNat, .int .u32 q.b.toNat, .int .u32 q.c.toNat, .int .u32 q.d.toNat]
/-- Four words of a state, mixed. -/
def mixQ (s : Nat → U32) (i j k l : Nat) : Nat → U32 :=
  let q := quarF ⟨s i, s j, s k, s l⟩
  updU (updU (updU (updU s i q.a) j q.b) k q.c) l q.d
def colsN (s : Nat → U32) : Nat → (Nat → U32)
  | 0 => s
  | i + 1 => mixQ (colsN s i) i (4 + i) (8 + i) (12 + i)
def diagN (s : Nat → U32) : Nat → (Nat → U32)
  | 0 => s
  | i + 1 => mixQ (diagN s i) i (4 + (i + 1) % 4) (8 + (i + 2) % 4) (12 + (i + 3) % 4)
def roundsF (s : Nat → U32) : Nat → (Nat → U32)
  | 0 => s
  | n + 1 => diagN (colsN (roundsF s n) 4) 4
def wordF (l : List UInt8) (i : Nat) : U32 := (fromLittleF ((l.drop (4 * i)).take 4)).setWidth 32
def constC (j : Nat) : U32 := match j with | 0 => 1634760805 | 1 => 857760878 | 2 => 2036477234 | 3 => 1797285236 | _ => 0
def stateF (key : List UInt8) (count : U32) (nonce : List UInt8) (j : Nat) : U32 :=
  if j < 4 then constC j else if j < 12 then wordF key (j - 4) else if j = 12 then count else if j < 16 then wordF nonce (j - 13) else 0
def coutF (s : Nat → U32) : Nat → U32 := fun j => roundsF s 10 j + s j
/-- The bytes of words. -/
def bytesF (f : Nat → U32) (k : Nat) : UInt8 := UInt8.ofNat (((f (k / 4)).setWidth 64 : U64) >>> (8 * (k % 4))).toNat
def blockF (key : List UInt8) (count : U32) (nonce : List UInt8) : Nat → UInt8 := bytesF (coutF (stateF key count nonce))
theorem bytesF_little (f : Nat → U32) (i : Nat) : littleF ((f i).setWidth 64) 4 = (List.range 4).map fun k => bytesF f (4 * i + k) := by
  unfold littleF
  apply List.map_congr_left
  intro k hk
  have hk4 : k < 4 := List.mem_range.1 hk
  unfold bytesF
  rw [show (4 * i + k) / 4 = i by omega, show (4 * i + k) % 4 = k by omega]
end Go.Bb
/- Contracts: sums of bytes: turns, the schedule. -/
namespace Go.Bb
set_option linter.unusedSimpArgs false
set_option linter.unusedVariables false
set_option maxRecDepth 20000

end Go.Bb
/- Contracts: sums of bytes: a block is mixed in. -/
namespace Go.Bb
set_option linter.unusedSimpArgs false
set_option linter.unusedVariables false
set_option maxRecDepth 20000

theorem rowU_cells {H : Heap} {b n sz : Nat} {f : Nat → U32} (h : H b = some (.own 0 (rowU f n) sz)) : hcells H ⟨b, 0, none⟩ n = some (rowU f n) := by
  rw [hcells_at h (by rw [rowU_len]; omega)]; simp [List.take_of_length_le, rowU_len]

end Go.Bb
/- Contracts: streams of keys: turns, quarters. -/
namespace Go.Bb
set_option linter.unusedSimpArgs false
set_option linter.unusedVariables false
set_option maxRecDepth 20000
set_option maxHeartbeats 2000000

theorem rotl_m : ∀ n : Nat, n < 32 → 1 ≤ n → (BitVec.ofInt 64 (n : Int) &&& BitVec.ofNat 64 31).toNat = n := by decide
theorem RotL_c (E : EnvT tab) (h : Heap) (x : U32) (n : Nat) {z : Int} (hz : z = n) (h1 : 1 ≤ n) (h2 : n ≤ 31) : ACallN E.toEnv n_math_bits_RotateLeft32 [.int .u32 x.toNat, .int .i64 z] h fun r h' => h' = h ∧ r = .int .u32 (rotF x n).toNat := by
  subst hz
  refine acall h_math_bits_RotateLeft32 ir_math_bits_RotateLeft32 rfl rfl (wpA_sound ?_)
  unfold ir_math_bits_RotateLeft32
  have w1 : IntKind.u64.wrap (n : Int) = ((BitVec.ofInt 64 (n : Int)).toNat : Int) := wrap_u64 _
  have w2 : IntKind.u64.wrap ((BitVec.ofInt IntKind.u64.bits ((BitVec.ofInt 64 (n : Int)).toNat : Int) &&& BitVec.ofInt IntKind.u64.bits 31).toNat : Int) = (n : Int) := by
    have := u64_and (BitVec.ofInt 64 (n : Int)) (BitVec.ofNat 64 31)
    rw [rotl_m n (by omega) h1] at this
    exact this
  have w3 : IntKind.u64.wrap (32 - (n : Int)) = ((32 - n : Nat) : Int) := by
    have : (32 - (n : Int)) = ((32 - n : Nat) : Int) := by omega
    rw [this]; exact wrap_u64l (by omega)
  have n1 : ¬ ((n : Int) < 0) := by omega
  have n2 : ¬ (((32 - n : Nat) : Int) < 0) := by omega
  have s1 : IntKind.u32.wrap ((x.toNat : Int) * 2 ^ (min n IntKind.u32.bits)) = ((x <<< n).toNat : Int) := u32_shl x n (by omega)
  have s2 : ((x.toNat : Int).fdiv (2 ^ (min (32 - n) IntKind.u32.bits))) = ((x >>> (32 - n)).toNat : Int) := u32_shr x (32 - n) (by omega)
  have e : rotF x n = x <<< n ||| x >>> (32 - n) := by unfold rotF turnF; rw [show 32 - (32 - n) = n by omega]
  rw [e]
  simp -implicitDefEqProofs only [zA,reduceIte,reduceCtorEq,Nat.reduceEqDiff,Nat.reduceAdd,Nat.reduceMul,Nat.reduceLT,Nat.reduceSub,Int.reduceLT,Int.reduceLE,Int.reduceEq,Int.reduceNe,Int.reduceSub,Int.reduceAdd,Int.reduceMul,Int.reduceBEq,Int.reduceBNe,Int.reduceGT,Int.reduceGE,Nat.reduceGT,Int.reduceToNat,Int.reduceNeg,Nat.reduceLeDiff,Nat.reduceBEq,Nat.reduceBneDiff, w1, w2, w3, n1, n2, Int.toNat_natCast, s1, s2, u32_or]
theorem chacha_Quarter_c (E : EnvT tab) (h : Heap) (a b c d : U32) : ACallN E.toEnv n_chacha_Quarter [.int .u32 a.toNat, .int .u32 b.toNat, .int .u32 c.toNat, .int .u32 d.toNat] h fun r h' => h' = h ∧ r = (quarF ⟨a, b, c, d⟩).V := by
  refine acall h_chacha_Quarter ir_chacha_Quarter rfl rfl (wpA_sound ?_)
  unfold ir_chacha_Quarter
  simp -implicitDefEqProofs only [zA,reduceIte,reduceCtorEq,Nat.reduceEqDiff,Nat.reduceAdd,Nat.reduceMul,Nat.reduceLT,Nat.reduceSub,Int.reduceLT,Int.reduceLE,Int.reduceEq,Int.reduceNe,Int.reduceSub,Int.reduceAdd,Int.reduceMul,Int.reduceBEq,Int.reduceBNe,Int.reduceGT,Int.reduceGE,Nat.reduceGT,Int.reduceToNat,Int.reduceNeg,Nat.reduceLeDiff,Nat.reduceBEq,Nat.reduceBneDiff, u32_add, u32_xor]
  refine (RotL_c E _ _ 16 rfl (by omega) (by omega)).mono ?_
  rintro r h' ⟨rfl, rfl⟩
  simp -implicitDefEqProofs only [zA,reduceIte,reduceCtorEq,Nat.reduceEqDiff,Nat.reduceAdd,Nat.reduceMul,Nat.reduceLT,Nat.reduceSub,Int.reduceLT,Int.reduceLE,Int.reduceEq,Int.reduceNe,Int.reduceSub,Int.reduceAdd,Int.reduceMul,Int.reduceBEq,Int.reduceBNe,Int.reduceGT,Int.reduceGE,Nat.reduceGT,Int.reduceToNat,Int.reduceNeg,Nat.reduceLeDiff,Nat.reduceBEq,Nat.reduceBneDiff, u32_add, u32_xor]
  refine (RotL_c E _ _ 12 rfl (by omega) (by omega)).mono ?_
  rintro r h' ⟨rfl, rfl⟩
  simp -implicitDefEqProofs only [zA,reduceIte,reduceCtorEq,Nat.reduceEqDiff,Nat.reduceAdd,Nat.reduceMul,Nat.reduceLT,Nat.reduceSub,Int.reduceLT,Int.reduceLE,Int.reduceEq,Int.reduceNe,Int.reduceSub,Int.reduceAdd,Int.reduceMul,Int.reduceBEq,Int.reduceBNe,Int.reduceGT,Int.reduceGE,Nat.reduceGT,Int.reduceToNat,Int.reduceNeg,Nat.reduceLeDiff,Nat.reduceBEq,Nat.reduceBneDiff, u32_add, u32_xor]
  unfold ir_chacha_Quarter_26
  simp -implicitDefEqProofs only [zA,reduceIte,reduceCtorEq,Nat.reduceEqDiff,Nat.reduceAdd,Nat.reduceMul,Nat.reduceLT,Nat.reduceSub,Int.reduceLT,Int.reduceLE,Int.reduceEq,Int.reduceNe,Int.reduceSub,Int.reduceAdd,Int.reduceMul,Int.reduceBEq,Int.reduceBNe,Int.reduceGT,Int.reduceGE,Nat.reduceGT,Int.reduceToNat,Int.reduceNeg,Nat.reduceLeDiff,Nat.reduceBEq,Nat.reduceBneDiff, u32_add, u32_xor]
  refine (RotL_c E _ _ 8 rfl (by omega) (by omega)).mono ?_
  rintro r h' ⟨rfl, rfl⟩
  simp -implicitDefEqProofs only [zA,reduceIte,reduceCtorEq,Nat.reduceEqDiff,Nat.reduceAdd,Nat.reduceMul,Nat.reduceLT,Nat.reduceSub,Int.reduceLT,Int.reduceLE,Int.reduceEq,Int.reduceNe,Int.reduceSub,Int.reduceAdd,Int.reduceMul,Int.reduceBEq,Int.reduceBNe,Int.reduceGT,Int.reduceGE,Nat.reduceGT,Int.reduceToNat,Int.reduceNeg,Nat.reduceLeDiff,Nat.reduceBEq,Nat.reduceBneDiff, u32_add, u32_xor]
  refine (RotL_c E _ _ 7 rfl (by omega) (by omega)).mono ?_
  rintro r h' ⟨rfl, rfl⟩
  simp -implicitDefEqProofs only [zA,reduceIte,reduceCtorEq,Nat.reduceEqDiff,Nat.reduceAdd,Nat.reduceMul,Nat.reduceLT,Nat.reduceSub,Int.reduceLT,Int.reduceLE,Int.reduceEq,Int.reduceNe,Int.reduceSub,Int.reduceAdd,Int.reduceMul,Int.reduceBEq,Int.reduceBNe,Int.reduceGT,Int.reduceGE,Nat.reduceGT,Int.reduceToNat,Int.reduceNeg,Nat.reduceLeDiff,Nat.reduceBEq,Nat.reduceBneDiff, u32_add, u32_xor]
  rfl
end Go.Bb
/- Arguments: slices of slices of bytes, texts. -/
namespace Go.Bb
set_option linter.unusedSimpArgs false
set_option linter.unusedVariables false

/-- A part of what is read, at its place. -/
theorem SlL.part {h : Heap} {base : Option Addr} {c : Nat} {L : List (List UInt8)} (s : SlL h (.slice base L.length c) L) (i : Nat) (hi : i < L.length) :
    ∃ b o u bi ci, base = some ⟨b, o, none⟩ ∧ u = .slice bi L[i].length ci ∧ SlB h u L[i] ∧ ∀ H, h.le H → hcell H ⟨b, o + i, none⟩ = some u := by
  obtain ⟨vs, hvs, sl, el⟩ := s
  obtain ⟨b, o, c', hv, hc, hcl⟩ := sl.ptr (by omega) (by omega)
  simp only [Value.slice.injEq, true_and] at hv
  obtain ⟨rfl, rfl⟩ := hv
  rw [Nat.mul_one] at hcl
  obtain ⟨bi, ci, e⟩ := Sl.shape (el i (by omega) hi)
  refine ⟨b, o, vs[i]'(by omega), bi, ci, rfl, e, el i (by omega) hi, fun H hH => ?_⟩
  rw [hcell_of (hcells_le hH hcl) i hi]; simp [hvs, hi]
theorem SlL.shape {h : Heap} {v : Value} {L : List (List UInt8)} (s : SlL h v L) : ∃ base c, v = .slice base L.length c := by
  obtain ⟨vs, hvs, sl, el⟩ := s
  exact Sl.shape sl
theorem u8_xorB (b c : UInt8) : IntKind.u8.wrap ((BitVec.ofInt IntKind.u8.bits (b.toNat : Int) ^^^ BitVec.ofInt IntKind.u8.bits (c.toNat : Int)).toNat : Int) = ((b ^^^ c).toNat : Int) := by
  rw [show IntKind.u8.bits = 8 from rfl, wrap_u8]
  simp only [ofInt_nat]
  congr 1
  simp [UInt8.toNat_xor]
theorem u8_or (b c : UInt8) : IntKind.u8.wrap ((BitVec.ofInt IntKind.u8.bits (b.toNat : Int) ||| BitVec.ofInt IntKind.u8.bits (c.toNat : Int)).toNat : Int) = ((b ||| c).toNat : Int) := by
  rw [show IntKind.u8.bits = 8 from rfl, wrap_u8]
  simp only [ofInt_nat]
  congr 1
  simp [UInt8.toNat_or]
def xorB (a b : List UInt8) : List UInt8 := List.zipWith (fun x y => x ^^^ y) a b
theorem xorB_len (a b : List UInt8) : (xorB a b).length = min a.length b.length := by simp [xorB]
theorem xorB_take (a b : List UInt8) (i : Nat) (ha : i < a.length) (hb : i < b.length) : (xorB a b).take (i + 1) = (xorB a b).take i ++ [a[i] ^^^ b[i]] := by
  have h : i < (xorB a b).length := by rw [xorB_len]; omega
  rw [List.take_succ_eq_append_getElem h]
  simp [xorB]
end Go.Bb
/- Contracts: streams of keys: mix, words. -/
namespace Go.Bb
set_option linter.unusedSimpArgs false
set_option linter.unusedVariables false
set_option maxRecDepth 20000
set_option maxHeartbeats 2000000

theorem chacha_mix_c (E : EnvT tab) {h : Heap} {b : Nat} {s : Nat → U32} (hb : h b = some (.own 0 (rowU s 16) 16)) (i j k l : Nat) (hi : i < 16) (hj : j < 16) (hk : k < 16) (hl : l < 16) :
    ACallN E.toEnv n_chacha_mix [.pointer (some ⟨b, 0, none⟩), .int .i64 i, .int .i64 j, .int .i64 k, .int .i64 l] h fun r h' => h' = h.set b (.own 0 (rowU (mixQ s i j k l) 16) 16) ∧ r = .tuple #[] := by
  refine acall h_chacha_mix ir_chacha_mix rfl rfl (wpA_sound ?_)
  unfold ir_chacha_mix
  have i0 : (0 : Int) ≤ i := by omega
  have j0 : (0 : Int) ≤ j := by omega
  have k0 : (0 : Int) ≤ k := by omega
  have l0 : (0 : Int) ≤ l := by omega
  have i1 : (i : Int) < 16 := by omega
  have j1 : (j : Int) < 16 := by omega
  have k1 : (k : Int) < 16 := by omega
  have l1 : (l : Int) < 16 := by omega
  have ci := rowU_at hb hi
  have cj := rowU_at hb hj
  have ck := rowU_at hb hk
  have cl := rowU_at hb hl
  simp -implicitDefEqProofs only [zA,reduceIte,reduceCtorEq,Nat.reduceEqDiff,Nat.reduceAdd,Nat.reduceMul,Nat.reduceLT,Nat.reduceSub,Int.reduceLT,Int.reduceLE,Int.reduceEq,Int.reduceNe,Int.reduceSub,Int.reduceAdd,Int.reduceMul,Int.reduceBEq,Int.reduceBNe,Int.reduceGT,Int.reduceGE,Nat.reduceGT,Int.reduceToNat,Int.reduceNeg,Nat.reduceLeDiff,Nat.reduceBEq,Nat.reduceBneDiff, i0, j0, k0, l0, i1, j1, k1, l1, ci, cj, ck, cl, Int.toNat_natCast]
  refine (chacha_Quarter_c E _ _ _ _ _).mono ?_
  rintro r h' ⟨rfl, rfl⟩
  unfold Q4.V mixQ
  generalize quarF ⟨s i, s j, s k, s l⟩ = q
  have s1 := rowU_store (z := q.a) hb hi
  have q1 := Heap.set_self h' b (.own 0 (rowU (updU s i q.a) 16) 16)
  have s2 := rowU_store (z := q.b) q1 hj
  rw [Heap.set_set] at s2
  have q2 := Heap.set_self h' b (.own 0 (rowU (updU (updU s i q.a) j q.b) 16) 16)
  have s3 := rowU_store (z := q.c) q2 hk
  rw [Heap.set_set] at s3
  have q3 := Heap.set_self h' b (.own 0 (rowU (updU (updU (updU s i q.a) j q.b) k q.c) 16) 16)
  have s4 := rowU_store (z := q.d) q3 hl
  rw [Heap.set_set] at s4
  simp -implicitDefEqProofs only [zA,reduceIte,reduceCtorEq,Nat.reduceEqDiff,Nat.reduceAdd,Nat.reduceMul,Nat.reduceLT,Nat.reduceSub,Int.reduceLT,Int.reduceLE,Int.reduceEq,Int.reduceNe,Int.reduceSub,Int.reduceAdd,Int.reduceMul,Int.reduceBEq,Int.reduceBNe,Int.reduceGT,Int.reduceGE,Nat.reduceGT,Int.reduceToNat,Int.reduceNeg,Nat.reduceLeDiff,Nat.reduceBEq,Nat.reduceBneDiff, i0, j0, k0, l0, i1, j1, k1, l1, Int.toNat_natCast, s1, s2, s3, s4, implies_true, List.mem_cons, List.not_mem_nil, or_false, forall_eq, forall_eq_or_imp, and_self]
end Go.Bb
/- Contracts: streams of keys: words. -/
namespace Go.Bb
set_option linter.unusedSimpArgs false
set_option linter.unusedVariables false
set_option maxRecDepth 20000

theorem chacha_word_c (E : EnvT tab) (h : Heap) {v : Value} (l : List UInt8) (hl : 4 ≤ l.length) (s : SlB h v l) : ACallN E.toEnv n_chacha_word [v] h fun r h' => h.le h' ∧ r = .int .u32 ((fromLittleF (l.take 4)).setWidth 32).toNat := by
  obtain ⟨base, c, rfl⟩ := Sl.shape s
  refine acall h_chacha_word ir_chacha_word rfl rfl (wpA_sound ?_)
  unfold ir_chacha_word
  have hc : l.length ≤ c := by
    rcases s with ⟨e, hn, _⟩ | ⟨a, c', e, hc, _⟩
    · omega
    · cases e; exact hc
  have bd : bnds l.length c none (some (some (.int .i64 4))) none = some (0, 4, c) := bnds_hi (by omega) (by omega)
  have hs := Sl.headB s (m := 4) hl
  have l4 : (l.take 4).length = 4 := by simp; omega
  unfold SlB at hs
  rw [l4] at hs
  simp -implicitDefEqProofs only [zA,reduceIte,reduceCtorEq,Nat.reduceEqDiff,Nat.reduceAdd,Nat.reduceMul,Nat.reduceLT,Nat.reduceSub,Int.reduceLT,Int.reduceLE,Int.reduceEq,Int.reduceNe,Int.reduceSub,Int.reduceAdd,Int.reduceMul,Int.reduceBEq,Int.reduceBNe,Int.reduceGT,Int.reduceGE,Nat.reduceGT,Int.reduceToNat,Int.reduceNeg,Nat.reduceLeDiff,Nat.reduceBEq,Nat.reduceBneDiff, bd, Nat.sub_zero]
  rw [addO base c fun a _ => addr_add0 a]
  refine (octet_FromLittle_c E h (l.take 4) (by omega) (by unfold SlB; rw [l4]; exact hs)).mono ?_
  rintro r h1 ⟨le1, rfl⟩
  simp -implicitDefEqProofs only [zA,reduceIte,reduceCtorEq,Nat.reduceEqDiff,Nat.reduceAdd,Nat.reduceMul,Nat.reduceLT,Nat.reduceSub,Int.reduceLT,Int.reduceLE,Int.reduceEq,Int.reduceNe,Int.reduceSub,Int.reduceAdd,Int.reduceMul,Int.reduceBEq,Int.reduceBNe,Int.reduceGT,Int.reduceGE,Nat.reduceGT,Int.reduceToNat,Int.reduceNeg,Nat.reduceLeDiff,Nat.reduceBEq,Nat.reduceBneDiff, u64V, u64_u32]
  exact le1
end Go.Bb
/- Contracts: streams of keys: the state. -/
namespace Go.Bb
set_option linter.unusedSimpArgs false
set_option linter.unusedVariables false
set_option maxRecDepth 20000
set_option maxHeartbeats 2000000

/-- The first i ones of one row of words, the rest of another. -/
def blendU (p f : Nat → U32) (i : Nat) : Nat → U32 := fun j => if j < i then p j else f j
theorem blendU_lt {p f : Nat → U32} {i j : Nat} (h : j < i) : blendU p f i j = p j := by simp [blendU, h]
theorem blendU_ge {p f : Nat → U32} {i j : Nat} (h : i ≤ j) : blendU p f i j = f j := by simp [blendU]; omega
theorem blendU_step (p f : Nat → U32) (i : Nat) {z : U32} (hz : z = p i) : updU (blendU p f i) i z = blendU p f (i + 1) := by
  subst hz
  funext j
  simp only [updU, blendU]
  by_cases e : j = i
  · subst e; simp
  · rw [if_neg e]
    by_cases e2 : j < i
    · rw [if_pos e2, if_pos (by omega)]
    · rw [if_neg e2, if_neg (by omega)]
theorem rowU_agg {H : Heap} {b n : Nat} {f : Nat → U32} {old : List Value} (h : H b = some (.own 0 old n)) (hl : old.length = n) (hn : 0 < n) : storeV H n (.pointer (some ⟨b, 0, none⟩)) (.agg (rowU f n).toArray) = some (H.set b (.own 0 (rowU f n) n)) :=
  storeV_agg_at h hn (rowU_len _ _) (rowU_one _ _) hl (by omega)
theorem const16_row : Value.int .u32 1634760805 :: Value.int .u32 857760878 :: Value.int .u32 2036477234 :: Value.int .u32 1797285236 :: List.replicate 12 (Value.int .u32 0) = rowU constC 16 := rfl
theorem slice_at {H : Heap} {b n : Nat} {l : List UInt8} (h : H b = some (.own 0 (l.map u8V) n)) (hl : l.length = n) (k : Nat) (hk : k < n) : SlB H (.slice (some (Addr.add ⟨b, 0, none⟩ k)) (n - k) (n - k)) (l.drop k) := by
  have s := own_sl h
  have := Sl.midB (a := k) (b := l.length) s (by omega) (Nat.le_refl _)
  rw [if_neg (by omega)] at this
  simp only [Option.map_some] at this
  rw [hl] at this
  rw [List.take_of_length_le (by simp; omega)] at this
  exact this

theorem constC_0 (n : Nat) : constC (n + 4) = 0 := rfl
theorem const_blend (key nonce : List UInt8) (count : U32) : rowU constC 16 = rowU (blendU (stateF key count nonce) (fun _ => 0) 4) 16 := by
  apply rowU_congr
  intro j hj
  by_cases h : j < 4
  · rw [blendU_lt h]; unfold stateF; rw [if_pos h]
  · rw [blendU_ge (by omega)]
    obtain ⟨k, rfl⟩ : ∃ k, j = k + 4 := ⟨j - 4, by omega⟩
    exact constC_0 k
theorem chacha_state_c (E : EnvT tab) (h : Heap) (key nonce : List UInt8) (count : U32) (hk : key.length = 32) (hn : nonce.length = 12) :
    ACallN E.toEnv n_chacha_state [.agg (key.map u8V).toArray, .int .u32 count.toNat, .agg (nonce.map u8V).toArray] h fun r h' => h.le h' ∧ r = .agg (rowU (stateF key count nonce) 16).toArray := by
  refine acall h_chacha_state ir_chacha_state rfl rfl (wpA_sound ?_)
  unfold ir_chacha_state
  have hk' : (key.map u8V).length = 32 := by simp [hk]
  have hn' : (nonce.map u8V).length = 12 := by simp [hn]
  have cr := const_blend key nonce count
  have g12 : count = stateF key count nonce 12 := rfl
  have gk : ∀ i, i < 8 → wordF key i = stateF key count nonce (4 + i) := by
    intro i hi
    unfold stateF
    rw [if_neg (by omega), if_pos (by omega), show 4 + i - 4 = i by omega]
  have gn : ∀ i, i < 3 → wordF nonce i = stateF key count nonce (13 + i) := by
    intro i hi
    unfold stateF
    rw [if_neg (by omega), if_neg (by omega), if_neg (by omega), if_pos (by omega), show 13 + i - 13 = i by omega]
  generalize hg : stateF key count nonce = g at cr g12 gk gn ⊢
  simp -implicitDefEqProofs only [zA,reduceIte,reduceCtorEq,Nat.reduceEqDiff,Nat.reduceAdd,Nat.reduceMul,Nat.reduceLT,Nat.reduceSub,Int.reduceLT,Int.reduceLE,Int.reduceEq,Int.reduceNe,Int.reduceSub,Int.reduceAdd,Int.reduceMul,Int.reduceBEq,Int.reduceBNe,Int.reduceGT,Int.reduceGE,Nat.reduceGT,Int.reduceToNat,Int.reduceNeg,Nat.reduceLeDiff,Nat.reduceBEq,Nat.reduceBneDiff, hk', hn', List.length_replicate, List.drop_replicate, const16_row, cr]
  intro b3 hb3 b5 hb5 b6 hb6 b7 hb7
  obtain ⟨n53, hb5'⟩ := Heap.set_none.1 hb5
  obtain ⟨n65, hb6a⟩ := Heap.set_none.1 hb6
  obtain ⟨n63, hb6'⟩ := Heap.set_none.1 hb6a
  have le1 : h.le (((h.set b3 (.own 0 (key.map u8V) 32)).set b5 (.own 0 (nonce.map u8V) 12)).set b6 (.own 0 (List.replicate 16 (.int .u32 0)) 16)) := Heap.le_set (Heap.le_set (Heap.le_set (Heap.le_refl _) hb3 _) hb5' _) hb6' _
  have q3 : (((h.set b3 (.own 0 (key.map u8V) 32)).set b5 (.own 0 (nonce.map u8V) 12)).set b6 (.own 0 (List.replicate 16 (.int .u32 0)) 16)) b3 = some (.own 0 (key.map u8V) 32) := set_keep (set_keep (Heap.set_self _ _ _) (Ne.symm n53)) (Ne.symm n63)
  have q5 : (((h.set b3 (.own 0 (key.map u8V) 32)).set b5 (.own 0 (nonce.map u8V) 12)).set b6 (.own 0 (List.replicate 16 (.int .u32 0)) 16)) b5 = some (.own 0 (nonce.map u8V) 12) := set_keep (Heap.set_self _ _ _) (Ne.symm n65)
  have q6 : (((h.set b3 (.own 0 (key.map u8V) 32)).set b5 (.own 0 (nonce.map u8V) 12)).set b6 (.own 0 (List.replicate 16 (.int .u32 0)) 16)) b6 = some (.own 0 (List.replicate 16 (.int .u32 0)) 16) := Heap.set_self _ _ _
  generalize (((h.set b3 (.own 0 (key.map u8V) 32)).set b5 (.own 0 (nonce.map u8V) 12)).set b6 (.own 0 (List.replicate 16 (.int .u32 0)) 16)) = h1 at le1 q3 q5 q6 hb7 ⊢
  have hb7' := Heap.none_of_le le1 hb7
  have n73 := ne_of_none hb7 q3
  have n75 := ne_of_none hb7 q5
  have n76 := ne_of_none hb7 q6
  have s7 : storeV (h1.set b7 (.own 0 (List.replicate 16 (.int .u32 0)) 16)) 16 (.pointer (some ⟨b7, 0, none⟩)) (.agg (rowU (blendU g (fun _ => 0) 4) 16).toArray) = some (h1.set b7 (.own 0 (rowU (blendU g (fun _ => 0) 4) 16) 16)) := z6z (by omega) (rowU_len _ _) (rowU_one _ _) (by simp) (by omega)
  simp -implicitDefEqProofs only [zA,reduceIte,reduceCtorEq,Nat.reduceEqDiff,Nat.reduceAdd,Nat.reduceMul,Nat.reduceLT,Nat.reduceSub,Int.reduceLT,Int.reduceLE,Int.reduceEq,Int.reduceNe,Int.reduceSub,Int.reduceAdd,Int.reduceMul,Int.reduceBEq,Int.reduceBNe,Int.reduceGT,Int.reduceGE,Nat.reduceGT,Int.reduceToNat,Int.reduceNeg,Nat.reduceLeDiff,Nat.reduceBEq,Nat.reduceBneDiff, s7]
  unfold ir_chacha_state_11
  simp -implicitDefEqProofs only [zA,reduceIte,reduceCtorEq,Nat.reduceEqDiff,Nat.reduceAdd,Nat.reduceMul,Nat.reduceLT,Nat.reduceSub,Int.reduceLT,Int.reduceLE,Int.reduceEq,Int.reduceNe,Int.reduceSub,Int.reduceAdd,Int.reduceMul,Int.reduceBEq,Int.reduceBNe,Int.reduceGT,Int.reduceGE,Nat.reduceGT,Int.reduceToNat,Int.reduceNeg,Nat.reduceLeDiff,Nat.reduceBEq,Nat.reduceBneDiff]
  refine wp_loop' (fun m t H => h.le H ∧ ∃ i : Nat, i ≤ 8 ∧ m = 8 - i ∧ t = tl [(1, .int .u32 count.toNat), (3, .pointer (some ⟨b3, 0, none⟩)), (5, .pointer (some ⟨b5, 0, none⟩)), (6, .pointer (some ⟨b6, 0, none⟩)), (7, .pointer (some ⟨b7, 0, none⟩)), (11, .int .i64 i)] ∧
      H b3 = some (.own 0 (key.map u8V) 32) ∧ H b5 = some (.own 0 (nonce.map u8V) 12) ∧ H b6 = some (.own 0 (List.replicate 16 (.int .u32 0)) 16) ∧ H b7 = some (.own 0 (rowU (blendU g (fun _ => 0) (4 + i)) 16) 16)) 8
    ⟨Heap.le_new le1 hb7 _, 0, by omega, rfl, rfl, set_keep q3 n73, set_keep q5 n75, set_keep q6 n76, Heap.set_self _ _ _⟩ ?_
  clear q3 q5 q6 le1
  rintro m t H ⟨leH, i, hi, rfl, rfl, q3, q5, q6, q7⟩
  by_cases hlt : (i : Int) < 8
  · have hi' : i < 8 := by omega
    have w1 : IntKind.i64.wrap (4 + (i : Int)) = ((4 + i : Nat) : Int) := by rw [wrapI (by omega) (by omega)]; rfl
    have w2 : IntKind.i64.wrap (4 * (i : Int)) = ((4 * i : Nat) : Int) := by rw [wrapI (by omega) (by omega)]; rfl
    have w7 : IntKind.i64.wrap ((i : Int) + 1) = ((i + 1 : Nat) : Int) := wrapN (by omega)
    have bd : bnds 32 32 (some (some (.int .i64 ((4 * i : Nat) : Int)))) none none = some (4 * i, 32, 32) := bnds_lo (by omega) (by omega)
    have ne : ¬ (32 = 4 * i) := by omega
    have e0 : (0 : Int) ≤ ((4 + i : Nat) : Int) := by omega
    have e1 : ((4 + i : Nat) : Int) < 16 := by omega
    simp -implicitDefEqProofs only [zA,reduceIte,reduceCtorEq,Nat.reduceEqDiff,Nat.reduceAdd,Nat.reduceMul,Nat.reduceLT,Nat.reduceSub,Int.reduceLT,Int.reduceLE,Int.reduceEq,Int.reduceNe,Int.reduceSub,Int.reduceAdd,Int.reduceMul,Int.reduceBEq,Int.reduceBNe,Int.reduceGT,Int.reduceGE,Nat.reduceGT,Int.reduceToNat,Int.reduceNeg,Nat.reduceLeDiff,Nat.reduceBEq,Nat.reduceBneDiff, hlt, w1, w2, bd, ne]
    refine (chacha_word_c E _ (key.drop (4 * i)) (by simp; omega) (by have := slice_at q3 hk (4 * i) (by omega); unfold SlB; rw [List.length_drop, hk]; unfold SlB at this; rw [List.length_drop, hk] at this; exact this)).mono ?_
    rintro r H2 ⟨le2, rfl⟩
    have s8 := rowU_store (z := wordF key i) (le2 _ _ q7) (show 4 + i < 16 by omega)
    rw [blendU_step g _ _ (gk i hi')] at s8
    unfold wordF at s8
    simp -implicitDefEqProofs only [zA,reduceIte,reduceCtorEq,Nat.reduceEqDiff,Nat.reduceAdd,Nat.reduceMul,Nat.reduceLT,Nat.reduceSub,Int.reduceLT,Int.reduceLE,Int.reduceEq,Int.reduceNe,Int.reduceSub,Int.reduceAdd,Int.reduceMul,Int.reduceBEq,Int.reduceBNe,Int.reduceGT,Int.reduceGE,Nat.reduceGT,Int.reduceToNat,Int.reduceNeg,Nat.reduceLeDiff,Nat.reduceBEq,Nat.reduceBneDiff, e0, e1, Int.toNat_natCast, s8, w7]
    exact ⟨_, by omega, Heap.le_set (Heap.le_trans leH le2) hb7' _, i + 1, by omega, rfl, rfl, set_keep (le2 _ _ q3) n73, set_keep (le2 _ _ q5) n75, set_keep (le2 _ _ q6) n76, Heap.set_self _ _ _⟩
  · obtain rfl : i = 8 := by omega
    simp -implicitDefEqProofs only [zA,reduceIte,reduceCtorEq,Nat.reduceEqDiff,Nat.reduceAdd,Nat.reduceMul,Nat.reduceLT,Nat.reduceSub,Int.reduceLT,Int.reduceLE,Int.reduceEq,Int.reduceNe,Int.reduceSub,Int.reduceAdd,Int.reduceMul,Int.reduceBEq,Int.reduceBNe,Int.reduceGT,Int.reduceGE,Nat.reduceGT,Int.reduceToNat,Int.reduceNeg,Nat.reduceLeDiff,Nat.reduceBEq,Nat.reduceBneDiff, hlt]
    unfold ir_chacha_state_22
    have s8 := rowU_store (z := count) q7 (show 12 < 16 by omega)
    rw [blendU_step g _ 12 g12] at s8
    simp -implicitDefEqProofs only [zA,reduceIte,reduceCtorEq,Nat.reduceEqDiff,Nat.reduceAdd,Nat.reduceMul,Nat.reduceLT,Nat.reduceSub,Int.reduceLT,Int.reduceLE,Int.reduceEq,Int.reduceNe,Int.reduceSub,Int.reduceAdd,Int.reduceMul,Int.reduceBEq,Int.reduceBNe,Int.reduceGT,Int.reduceGE,Nat.reduceGT,Int.reduceToNat,Int.reduceNeg,Nat.reduceLeDiff,Nat.reduceBEq,Nat.reduceBneDiff, s8]
    refine wp_loop' (fun m t H => h.le H ∧ ∃ i : Nat, i ≤ 3 ∧ m = 3 - i ∧ t = tl [(5, .pointer (some ⟨b5, 0, none⟩)), (6, .pointer (some ⟨b6, 0, none⟩)), (7, .pointer (some ⟨b7, 0, none⟩)), (24, .int .i64 i)] ∧
        H b5 = some (.own 0 (nonce.map u8V) 12) ∧ H b6 = some (.own 0 (List.replicate 16 (.int .u32 0)) 16) ∧ H b7 = some (.own 0 (rowU (blendU g (fun _ => 0) (13 + i)) 16) 16)) 3
      ⟨Heap.le_set leH hb7' _, 0, by omega, rfl, rfl, set_keep q5 n75, set_keep q6 n76, Heap.set_self _ _ _⟩ ?_
    clear q3 q5 q6 q7 leH s8 hlt hi
    rintro m t H ⟨leH, i, hi, rfl, rfl, q5, q6, q7⟩
    by_cases hlt : (i : Int) < 3
    · have hi' : i < 3 := by omega
      have w1 : IntKind.i64.wrap (13 + (i : Int)) = ((13 + i : Nat) : Int) := by rw [wrapI (by omega) (by omega)]; rfl
      have w2 : IntKind.i64.wrap (4 * (i : Int)) = ((4 * i : Nat) : Int) := by rw [wrapI (by omega) (by omega)]; rfl
      have w7 : IntKind.i64.wrap ((i : Int) + 1) = ((i + 1 : Nat) : Int) := wrapN (by omega)
      have bd : bnds 12 12 (some (some (.int .i64 ((4 * i : Nat) : Int)))) none none = some (4 * i, 12, 12) := bnds_lo (by omega) (by omega)
      have ne : ¬ (12 = 4 * i) := by omega
      have e0 : (0 : Int) ≤ ((13 + i : Nat) : Int) := by omega
      have e1 : ((13 + i : Nat) : Int) < 16 := by omega
      simp -implicitDefEqProofs only [zA,reduceIte,reduceCtorEq,Nat.reduceEqDiff,Nat.reduceAdd,Nat.reduceMul,Nat.reduceLT,Nat.reduceSub,Int.reduceLT,Int.reduceLE,Int.reduceEq,Int.reduceNe,Int.reduceSub,Int.reduceAdd,Int.reduceMul,Int.reduceBEq,Int.reduceBNe,Int.reduceGT,Int.reduceGE,Nat.reduceGT,Int.reduceToNat,Int.reduceNeg,Nat.reduceLeDiff,Nat.reduceBEq,Nat.reduceBneDiff, hlt, w1, w2, bd, ne]
      refine (chacha_word_c E _ (nonce.drop (4 * i)) (by simp; omega) (by have := slice_at q5 hn (4 * i) (by omega); unfold SlB; rw [List.length_drop, hn]; unfold SlB at this; rw [List.length_drop, hn] at this; exact this)).mono ?_
      rintro r H2 ⟨le2, rfl⟩
      have s8 := rowU_store (z := wordF nonce i) (le2 _ _ q7) (show 13 + i < 16 by omega)
      rw [blendU_step g _ _ (gn i hi')] at s8
      unfold wordF at s8
      simp -implicitDefEqProofs only [zA,reduceIte,reduceCtorEq,Nat.reduceEqDiff,Nat.reduceAdd,Nat.reduceMul,Nat.reduceLT,Nat.reduceSub,Int.reduceLT,Int.reduceLE,Int.reduceEq,Int.reduceNe,Int.reduceSub,Int.reduceAdd,Int.reduceMul,Int.reduceBEq,Int.reduceBNe,Int.reduceGT,Int.reduceGE,Nat.reduceGT,Int.reduceToNat,Int.reduceNeg,Nat.reduceLeDiff,Nat.reduceBEq,Nat.reduceBneDiff, e0, e1, Int.toNat_natCast, s8, w7]
      exact ⟨_, by omega, Heap.le_set (Heap.le_trans leH le2) hb7' _, i + 1, by omega, rfl, rfl, set_keep (le2 _ _ q5) n75, set_keep (le2 _ _ q6) n76, Heap.set_self _ _ _⟩
    · obtain rfl : i = 3 := by omega
      have eg : rowU (blendU g (fun _ => 0) (13 + 3)) 16 = rowU g 16 := rowU_congr fun j hj => blendU_lt hj
      rw [eg] at q7
      have l7 := rowU_cells q7
      have s6 := rowU_agg (f := g) q6 (by simp) (by omega)
      have l6 : hcells (H.set b6 (.own 0 (rowU g 16) 16)) ⟨b6, 0, none⟩ 16 = some (rowU g 16) := z6x (rowU_len _ _)
      simp -implicitDefEqProofs only [zA,reduceIte,reduceCtorEq,Nat.reduceEqDiff,Nat.reduceAdd,Nat.reduceMul,Nat.reduceLT,Nat.reduceSub,Int.reduceLT,Int.reduceLE,Int.reduceEq,Int.reduceNe,Int.reduceSub,Int.reduceAdd,Int.reduceMul,Int.reduceBEq,Int.reduceBNe,Int.reduceGT,Int.reduceGE,Nat.reduceGT,Int.reduceToNat,Int.reduceNeg,Nat.reduceLeDiff,Nat.reduceBEq,Nat.reduceBneDiff, hlt, l7, s6, l6]
      exact Heap.le_set leH hb6' _
end Go.Bb
/- Contracts: streams of keys: a block. -/
namespace Go.Bb
set_option linter.unusedSimpArgs false
set_option linter.unusedVariables false
set_option maxRecDepth 20000
set_option maxHeartbeats 2000000

theorem row8_splice (f g : Nat → UInt8) (n a m : Nat) (h : a + m ≤ n) : splice (row8 f n) a (((List.range m).map fun k => g (a + k)).map u8V) = row8 (fun j => if a ≤ j ∧ j < a + m then g j else f j) n := by
  apply List.ext_getElem?
  intro j
  rw [getElem?_splice (by rw [row8_len]; omega)]
  simp only [List.length_map, List.length_range]
  by_cases h1 : j < a
  · rw [if_pos h1]
    have hj : j < n := by omega
    rw [List.getElem?_eq_getElem (by rw [row8_len]; exact hj), List.getElem?_eq_getElem (by rw [row8_len]; exact hj), row8_get, row8_get, if_neg (by omega)]
  · rw [if_neg h1]
    by_cases h2 : j < a + m
    · have hj : j < n := by omega
      rw [if_pos h2, List.getElem?_eq_getElem (l := row8 _ n) (by rw [row8_len]; exact hj), row8_get, if_pos (by omega)]
      rw [List.getElem?_eq_getElem (by simp; omega)]
      simp [u8V]
      rw [show a + (j - a) = j by omega]
    · rw [if_neg h2]
      by_cases hj : j < n
      · rw [List.getElem?_eq_getElem (by rw [row8_len]; exact hj), List.getElem?_eq_getElem (by rw [row8_len]; exact hj), row8_get, row8_get, if_neg (by omega)]
      · rw [List.getElem?_eq_none (by rw [row8_len]; omega), List.getElem?_eq_none (by rw [row8_len]; omega)]
def blend8 (p : Nat → UInt8) (i : Nat) : Nat → UInt8 := fun j => if j < i then p j else 0
theorem blend8_0 (p : Nat → UInt8) (n : Nat) : List.replicate n (Value.int .u8 0) = row8 (blend8 p 0) n := by
  apply List.ext_getElem
  · simp [row8]
  · intro j h1 h2
    rw [row8_get]; simp [blend8]
theorem blend8_all (p : Nat → UInt8) (n : Nat) : row8 (blend8 p n) n = row8 p n := row8_congr fun j hj => by simp [blend8, hj]
theorem blend8_put (p : Nat → UInt8) (i n : Nat) (h : 4 * i + 4 ≤ n) : splice (row8 (blend8 p (4 * i)) n) (4 * i) (((List.range 4).map fun k => p (4 * i + k)).map u8V) = row8 (blend8 p (4 * (i + 1))) n := by
  rw [row8_splice _ p n (4 * i) 4 h]
  apply row8_congr
  intro j hj
  unfold blend8
  by_cases h1 : 4 * i ≤ j ∧ j < 4 * i + 4
  · rw [if_pos h1, if_pos (by omega)]
  · rw [if_neg h1]
    by_cases h2 : j < 4 * i
    · rw [if_pos h2, if_pos (by omega)]
    · rw [if_neg h2, if_neg (by omega)]
theorem tmod4 (a : Nat) : Int.tmod (a : Int) 4 = ((a % 4 : Nat) : Int) := by
  rw [Int.tmod_eq_emod_of_nonneg (by omega)]; rfl

theorem chacha_Block_c (E : EnvT tab) (h : Heap) (key nonce : List UInt8) (count : U32) (hk : key.length = 32) (hn : nonce.length = 12) :
    ACallN E.toEnv n_chacha_Block [.agg (key.map u8V).toArray, .int .u32 count.toNat, .agg (nonce.map u8V).toArray] h fun r h' => h.le h' ∧ r = .agg (row8 (blockF key count nonce) 64).toArray := by
  refine acall h_chacha_Block ir_chacha_Block rfl rfl (wpA_sound ?_)
  unfold ir_chacha_Block
  have hk' : (key.map u8V).length = 32 := by simp [hk]
  have hn' : (nonce.map u8V).length = 12 := by simp [hn]
  unfold blockF
  simp -implicitDefEqProofs only [zA,reduceIte,reduceCtorEq,Nat.reduceEqDiff,Nat.reduceAdd,Nat.reduceMul,Nat.reduceLT,Nat.reduceSub,Int.reduceLT,Int.reduceLE,Int.reduceEq,Int.reduceNe,Int.reduceSub,Int.reduceAdd,Int.reduceMul,Int.reduceBEq,Int.reduceBNe,Int.reduceGT,Int.reduceGE,Nat.reduceGT,Int.reduceToNat,Int.reduceNeg,Nat.reduceLeDiff,Nat.reduceBEq,Nat.reduceBneDiff, hk', hn', List.length_replicate]
  intro b3 hb3 b5 hb5 b6 hb6
  obtain ⟨n53, hb5'⟩ := Heap.set_none.1 hb5
  obtain ⟨n65, hb6a⟩ := Heap.set_none.1 hb6
  obtain ⟨n63, hb6'⟩ := Heap.set_none.1 hb6a
  have le1 : h.le (((h.set b3 (.own 0 (key.map u8V) 32)).set b5 (.own 0 (nonce.map u8V) 12)).set b6 (.own 0 (List.replicate 64 (.int .u8 0)) 64)) := Heap.le_set (Heap.le_set (Heap.le_set (Heap.le_refl _) hb3 _) hb5' _) hb6' _
  have l3 : hcells (((h.set b3 (.own 0 (key.map u8V) 32)).set b5 (.own 0 (nonce.map u8V) 12)).set b6 (.own 0 (List.replicate 64 (.int .u8 0)) 64)) ⟨b3, 0, none⟩ 32 = some (key.map u8V) := hcells_own0 (set_keep (set_keep (Heap.set_self _ _ _) (Ne.symm n53)) (Ne.symm n63)) hk'
  have l5 : hcells (((h.set b3 (.own 0 (key.map u8V) 32)).set b5 (.own 0 (nonce.map u8V) 12)).set b6 (.own 0 (List.replicate 64 (.int .u8 0)) 64)) ⟨b5, 0, none⟩ 12 = some (nonce.map u8V) := hcells_own0 (set_keep (Heap.set_self _ _ _) (Ne.symm n65)) hn'
  have q6 : (((h.set b3 (.own 0 (key.map u8V) 32)).set b5 (.own 0 (nonce.map u8V) 12)).set b6 (.own 0 (List.replicate 64 (.int .u8 0)) 64)) b6 = some (.own 0 (List.replicate 64 (.int .u8 0)) 64) := Heap.set_self _ _ _
  generalize (((h.set b3 (.own 0 (key.map u8V) 32)).set b5 (.own 0 (nonce.map u8V) 12)).set b6 (.own 0 (List.replicate 64 (.int .u8 0)) 64)) = h1 at le1 l3 l5 q6 ⊢
  try simp -implicitDefEqProofs only [zA,reduceIte,reduceCtorEq,Nat.reduceEqDiff,Nat.reduceAdd,Nat.reduceMul,Nat.reduceLT,Nat.reduceSub,Int.reduceLT,Int.reduceLE,Int.reduceEq,Int.reduceNe,Int.reduceSub,Int.reduceAdd,Int.reduceMul,Int.reduceBEq,Int.reduceBNe,Int.reduceGT,Int.reduceGE,Nat.reduceGT,Int.reduceToNat,Int.reduceNeg,Nat.reduceLeDiff,Nat.reduceBEq,Nat.reduceBneDiff, l3, l5]
  refine (chacha_state_c E _ key nonce count hk hn).mono ?_
  rintro r h2 ⟨le2, rfl⟩
  generalize stateF key count nonce = st
  have le02 := Heap.le_trans le1 le2
  have q62 := le2 _ _ q6
  simp -implicitDefEqProofs only [zA,reduceIte,reduceCtorEq,Nat.reduceEqDiff,Nat.reduceAdd,Nat.reduceMul,Nat.reduceLT,Nat.reduceSub,Int.reduceLT,Int.reduceLE,Int.reduceEq,Int.reduceNe,Int.reduceSub,Int.reduceAdd,Int.reduceMul,Int.reduceBEq,Int.reduceBNe,Int.reduceGT,Int.reduceGE,Nat.reduceGT,Int.reduceToNat,Int.reduceNeg,Nat.reduceLeDiff,Nat.reduceBEq,Nat.reduceBneDiff, List.length_replicate]
  intro b7 hb7
  have s7 : storeV (h2.set b7 (.own 0 (List.replicate 16 (.int .u32 0)) 16)) 16 (.pointer (some ⟨b7, 0, none⟩)) (.agg (rowU st 16).toArray) = some (h2.set b7 (.own 0 (rowU st 16) 16)) := z6z (by omega) (rowU_len _ _) (rowU_one _ _) (by simp) (by omega)
  have le7 := Heap.le_new le02 hb7 (.own 0 (rowU st 16) 16)
  have q67 := set_new (X := .own 0 (rowU st 16) 16) hb7 q62
  have q77 := Heap.set_self h2 b7 (.own 0 (rowU st 16) 16)
  have l7 := rowU_cells q77
  simp -implicitDefEqProofs only [zA,reduceIte,reduceCtorEq,Nat.reduceEqDiff,Nat.reduceAdd,Nat.reduceMul,Nat.reduceLT,Nat.reduceSub,Int.reduceLT,Int.reduceLE,Int.reduceEq,Int.reduceNe,Int.reduceSub,Int.reduceAdd,Int.reduceMul,Int.reduceBEq,Int.reduceBNe,Int.reduceGT,Int.reduceGE,Nat.reduceGT,Int.reduceToNat,Int.reduceNeg,Nat.reduceLeDiff,Nat.reduceBEq,Nat.reduceBneDiff, s7, l7, List.length_replicate]
  generalize (h2.set b7 (.own 0 (rowU st 16) 16)) = h3 at le7 q67 q77 ⊢
  intro b8 hb8
  have s8 : storeV (h3.set b8 (.own 0 (List.replicate 16 (.int .u32 0)) 16)) 16 (.pointer (some ⟨b8, 0, none⟩)) (.agg (rowU st 16).toArray) = some (h3.set b8 (.own 0 (rowU st 16) 16)) := z6z (by omega) (rowU_len _ _) (rowU_one _ _) (by simp) (by omega)
  have le8 := Heap.le_new le7 hb8 (.own 0 (rowU st 16) 16)
  have q68 := set_new (X := .own 0 (rowU st 16) 16) hb8 q67
  have q78 := set_new (X := .own 0 (rowU st 16) 16) hb8 q77
  have q88 := Heap.set_self h3 b8 (.own 0 (rowU st 16) 16)
  have n68 := ne_of_none hb8 q67
  have n78 := ne_of_none hb8 q77
  have hb8' := Heap.none_of_le le7 hb8
  simp -implicitDefEqProofs only [zA,reduceIte,reduceCtorEq,Nat.reduceEqDiff,Nat.reduceAdd,Nat.reduceMul,Nat.reduceLT,Nat.reduceSub,Int.reduceLT,Int.reduceLE,Int.reduceEq,Int.reduceNe,Int.reduceSub,Int.reduceAdd,Int.reduceMul,Int.reduceBEq,Int.reduceBNe,Int.reduceGT,Int.reduceGE,Nat.reduceGT,Int.reduceToNat,Int.reduceNeg,Nat.reduceLeDiff,Nat.reduceBEq,Nat.reduceBneDiff, s8]
  generalize (h3.set b8 (.own 0 (rowU st 16) 16)) = h4 at le8 q68 q78 q88 ⊢
  refine wp_loop' (fun m t H => h.le H ∧ ∃ n : Nat, n ≤ 10 ∧ m = 10 - n ∧ t = tl [(6, .pointer (some ⟨b6, 0, none⟩)), (7, .pointer (some ⟨b7, 0, none⟩)), (8, .pointer (some ⟨b8, 0, none⟩)), (18, .int .i64 n)] ∧
      H b6 = some (.own 0 (List.replicate 64 (.int .u8 0)) 64) ∧ H b7 = some (.own 0 (rowU st 16) 16) ∧ H b8 = some (.own 0 (rowU (roundsF st n) 16) 16)) 10
    ⟨le8, 0, by omega, rfl, rfl, q68, q78, q88⟩ ?_
  clear q68 q78 q88 le8 l7 l3 l5
  rintro m t H ⟨leH, n, hn10, rfl, rfl, q6, q7, q8⟩
  by_cases hlt : (n : Int) < 10
  · simp -implicitDefEqProofs only [zA,reduceIte,reduceCtorEq,Nat.reduceEqDiff,Nat.reduceAdd,Nat.reduceMul,Nat.reduceLT,Nat.reduceSub,Int.reduceLT,Int.reduceLE,Int.reduceEq,Int.reduceNe,Int.reduceSub,Int.reduceAdd,Int.reduceMul,Int.reduceBEq,Int.reduceBNe,Int.reduceGT,Int.reduceGE,Nat.reduceGT,Int.reduceToNat,Int.reduceNeg,Nat.reduceLeDiff,Nat.reduceBEq,Nat.reduceBneDiff, hlt]
    unfold ir_chacha_Block_q
    simp -implicitDefEqProofs only [zA,reduceIte,reduceCtorEq,Nat.reduceEqDiff,Nat.reduceAdd,Nat.reduceMul,Nat.reduceLT,Nat.reduceSub,Int.reduceLT,Int.reduceLE,Int.reduceEq,Int.reduceNe,Int.reduceSub,Int.reduceAdd,Int.reduceMul,Int.reduceBEq,Int.reduceBNe,Int.reduceGT,Int.reduceGE,Nat.reduceGT,Int.reduceToNat,Int.reduceNeg,Nat.reduceLeDiff,Nat.reduceBEq,Nat.reduceBneDiff]
    refine wp_loop' (fun m t H => h.le H ∧ ∃ i : Nat, i ≤ 4 ∧ m = 4 - i ∧ t = tl [(6, .pointer (some ⟨b6, 0, none⟩)), (7, .pointer (some ⟨b7, 0, none⟩)), (8, .pointer (some ⟨b8, 0, none⟩)), (18, .int .i64 n), (20, .int .i64 i)] ∧
        H b6 = some (.own 0 (List.replicate 64 (.int .u8 0)) 64) ∧ H b7 = some (.own 0 (rowU st 16) 16) ∧ H b8 = some (.own 0 (rowU (colsN (roundsF st n) i) 16) 16)) 4
      ⟨leH, 0, by omega, rfl, rfl, q6, q7, q8⟩ ?_
    clear q6 q7 q8 leH
    rintro m t H ⟨leH, i, hi, rfl, rfl, q6, q7, q8⟩
    by_cases hli : (i : Int) < 4
    · have w1 : IntKind.i64.wrap (4 + (i : Int)) = ((4 + i : Nat) : Int) := by rw [wrapI (by omega) (by omega)]; rfl
      have w2 : IntKind.i64.wrap (8 + (i : Int)) = ((8 + i : Nat) : Int) := by rw [wrapI (by omega) (by omega)]; rfl
      have w3 : IntKind.i64.wrap (12 + (i : Int)) = ((12 + i : Nat) : Int) := by rw [wrapI (by omega) (by omega)]; rfl
      have w7 : IntKind.i64.wrap ((i : Int) + 1) = ((i + 1 : Nat) : Int) := wrapN (by omega)
      simp -implicitDefEqProofs only [zA,reduceIte,reduceCtorEq,Nat.reduceEqDiff,Nat.reduceAdd,Nat.reduceMul,Nat.reduceLT,Nat.reduceSub,Int.reduceLT,Int.reduceLE,Int.reduceEq,Int.reduceNe,Int.reduceSub,Int.reduceAdd,Int.reduceMul,Int.reduceBEq,Int.reduceBNe,Int.reduceGT,Int.reduceGE,Nat.reduceGT,Int.reduceToNat,Int.reduceNeg,Nat.reduceLeDiff,Nat.reduceBEq,Nat.reduceBneDiff, hli, w1, w2, w3]
      refine (chacha_mix_c E q8 i (4 + i) (8 + i) (12 + i) (by omega) (by omega) (by omega) (by omega)).mono ?_
      rintro r H' ⟨rfl, rfl⟩
      simp -implicitDefEqProofs only [zA,reduceIte,reduceCtorEq,Nat.reduceEqDiff,Nat.reduceAdd,Nat.reduceMul,Nat.reduceLT,Nat.reduceSub,Int.reduceLT,Int.reduceLE,Int.reduceEq,Int.reduceNe,Int.reduceSub,Int.reduceAdd,Int.reduceMul,Int.reduceBEq,Int.reduceBNe,Int.reduceGT,Int.reduceGE,Nat.reduceGT,Int.reduceToNat,Int.reduceNeg,Nat.reduceLeDiff,Nat.reduceBEq,Nat.reduceBneDiff, w7]
      exact ⟨_, by omega, Heap.le_set leH hb8' _, i + 1, by omega, rfl, rfl, set_keep q6 n68, set_keep q7 n78, Heap.set_self _ _ _⟩
    · obtain rfl : i = 4 := by omega
      simp -implicitDefEqProofs only [zA,reduceIte,reduceCtorEq,Nat.reduceEqDiff,Nat.reduceAdd,Nat.reduceMul,Nat.reduceLT,Nat.reduceSub,Int.reduceLT,Int.reduceLE,Int.reduceEq,Int.reduceNe,Int.reduceSub,Int.reduceAdd,Int.reduceMul,Int.reduceBEq,Int.reduceBNe,Int.reduceGT,Int.reduceGE,Nat.reduceGT,Int.reduceToNat,Int.reduceNeg,Nat.reduceLeDiff,Nat.reduceBEq,Nat.reduceBneDiff, hli]
      unfold ir_chacha_Block_33
      simp -implicitDefEqProofs only [zA,reduceIte,reduceCtorEq,Nat.reduceEqDiff,Nat.reduceAdd,Nat.reduceMul,Nat.reduceLT,Nat.reduceSub,Int.reduceLT,Int.reduceLE,Int.reduceEq,Int.reduceNe,Int.reduceSub,Int.reduceAdd,Int.reduceMul,Int.reduceBEq,Int.reduceBNe,Int.reduceGT,Int.reduceGE,Nat.reduceGT,Int.reduceToNat,Int.reduceNeg,Nat.reduceLeDiff,Nat.reduceBEq,Nat.reduceBneDiff]
      refine wp_loop' (fun m t H => h.le H ∧ ∃ i : Nat, i ≤ 4 ∧ m = 4 - i ∧ t = tl [(6, .pointer (some ⟨b6, 0, none⟩)), (7, .pointer (some ⟨b7, 0, none⟩)), (8, .pointer (some ⟨b8, 0, none⟩)), (18, .int .i64 n), (32, .int .i64 i)] ∧
          H b6 = some (.own 0 (List.replicate 64 (.int .u8 0)) 64) ∧ H b7 = some (.own 0 (rowU st 16) 16) ∧ H b8 = some (.own 0 (rowU (diagN (colsN (roundsF st n) 4) i) 16) 16)) 4
        ⟨leH, 0, by omega, rfl, rfl, q6, q7, q8⟩ ?_
      clear q6 q7 q8 leH hli hi
      rintro m t H ⟨leH, i, hi, rfl, rfl, q6, q7, q8⟩
      by_cases hli : (i : Int) < 4
      · have w7 : IntKind.i64.wrap ((i : Int) + 1) = ((i + 1 : Nat) : Int) := wrapN (by omega)
        have w8 : IntKind.i64.wrap ((i : Int) + 2) = ((i + 2 : Nat) : Int) := by rw [wrapI (by omega) (by omega)]; rfl
        have w9 : IntKind.i64.wrap ((i : Int) + 3) = ((i + 3 : Nat) : Int) := by rw [wrapI (by omega) (by omega)]; rfl
        have r1 : IntKind.i64.wrap (((i + 1) % 4 : Nat) : Int) = (((i + 1) % 4 : Nat) : Int) := wrapI (by omega) (by omega)
        have r2 : IntKind.i64.wrap (((i + 2) % 4 : Nat) : Int) = (((i + 2) % 4 : Nat) : Int) := wrapI (by omega) (by omega)
        have r3 : IntKind.i64.wrap (((i + 3) % 4 : Nat) : Int) = (((i + 3) % 4 : Nat) : Int) := wrapI (by omega) (by omega)
        have w1 : IntKind.i64.wrap (4 + (((i + 1) % 4 : Nat) : Int)) = ((4 + (i + 1) % 4 : Nat) : Int) := by rw [wrapI (by omega) (by omega)]; rfl
        have w2 : IntKind.i64.wrap (8 + (((i + 2) % 4 : Nat) : Int)) = ((8 + (i + 2) % 4 : Nat) : Int) := by rw [wrapI (by omega) (by omega)]; rfl
        have w3 : IntKind.i64.wrap (12 + (((i + 3) % 4 : Nat) : Int)) = ((12 + (i + 3) % 4 : Nat) : Int) := by rw [wrapI (by omega) (by omega)]; rfl
        simp -implicitDefEqProofs only [zA,reduceIte,reduceCtorEq,Nat.reduceEqDiff,Nat.reduceAdd,Nat.reduceMul,Nat.reduceLT,Nat.reduceSub,Int.reduceLT,Int.reduceLE,Int.reduceEq,Int.reduceNe,Int.reduceSub,Int.reduceAdd,Int.reduceMul,Int.reduceBEq,Int.reduceBNe,Int.reduceGT,Int.reduceGE,Nat.reduceGT,Int.reduceToNat,Int.reduceNeg,Nat.reduceLeDiff,Nat.reduceBEq,Nat.reduceBneDiff, hli, w7, w8, w9, tmod4, r1, r2, r3, w1, w2, w3]
        refine (chacha_mix_c E q8 i (4 + (i + 1) % 4) (8 + (i + 2) % 4) (12 + (i + 3) % 4) (by omega) (by omega) (by omega) (by omega)).mono ?_
        rintro r H' ⟨rfl, rfl⟩
        simp -implicitDefEqProofs only [zA,reduceIte,reduceCtorEq,Nat.reduceEqDiff,Nat.reduceAdd,Nat.reduceMul,Nat.reduceLT,Nat.reduceSub,Int.reduceLT,Int.reduceLE,Int.reduceEq,Int.reduceNe,Int.reduceSub,Int.reduceAdd,Int.reduceMul,Int.reduceBEq,Int.reduceBNe,Int.reduceGT,Int.reduceGE,Nat.reduceGT,Int.reduceToNat,Int.reduceNeg,Nat.reduceLeDiff,Nat.reduceBEq,Nat.reduceBneDiff, w7]
        exact ⟨_, by omega, Heap.le_set leH hb8' _, i + 1, by omega, rfl, rfl, set_keep q6 n68, set_keep q7 n78, Heap.set_self _ _ _⟩
      · obtain rfl : i = 4 := by omega
        have w7 : IntKind.i64.wrap ((n : Int) + 1) = ((n + 1 : Nat) : Int) := wrapN (by omega)
        simp -implicitDefEqProofs only [zA,reduceIte,reduceCtorEq,Nat.reduceEqDiff,Nat.reduceAdd,Nat.reduceMul,Nat.reduceLT,Nat.reduceSub,Int.reduceLT,Int.reduceLE,Int.reduceEq,Int.reduceNe,Int.reduceSub,Int.reduceAdd,Int.reduceMul,Int.reduceBEq,Int.reduceBNe,Int.reduceGT,Int.reduceGE,Nat.reduceGT,Int.reduceToNat,Int.reduceNeg,Nat.reduceLeDiff,Nat.reduceBEq,Nat.reduceBneDiff, hli, w7]
        exact ⟨_, by omega, leH, n + 1, by omega, rfl, rfl, q6, q7, q8⟩
  · obtain rfl : n = 10 := by omega
    simp -implicitDefEqProofs only [zA,reduceIte,reduceCtorEq,Nat.reduceEqDiff,Nat.reduceAdd,Nat.reduceMul,Nat.reduceLT,Nat.reduceSub,Int.reduceLT,Int.reduceLE,Int.reduceEq,Int.reduceNe,Int.reduceSub,Int.reduceAdd,Int.reduceMul,Int.reduceBEq,Int.reduceBNe,Int.reduceGT,Int.reduceGE,Nat.reduceGT,Int.reduceToNat,Int.reduceNeg,Nat.reduceLeDiff,Nat.reduceBEq,Nat.reduceBneDiff, hlt]
    unfold ir_chacha_Block_q
    simp -implicitDefEqProofs only [zA,reduceIte,reduceCtorEq,Nat.reduceEqDiff,Nat.reduceAdd,Nat.reduceMul,Nat.reduceLT,Nat.reduceSub,Int.reduceLT,Int.reduceLE,Int.reduceEq,Int.reduceNe,Int.reduceSub,Int.reduceAdd,Int.reduceMul,Int.reduceBEq,Int.reduceBNe,Int.reduceGT,Int.reduceGE,Nat.reduceGT,Int.reduceToNat,Int.reduceNeg,Nat.reduceLeDiff,Nat.reduceBEq,Nat.reduceBneDiff, List.length_replicate]
    intro b11 hb11
    rw [blend8_0 (bytesF (coutF st)) 64]
    have hb11' := Heap.none_of_le leH hb11
    have n611 := ne_of_none hb11 q6
    have n711 := ne_of_none hb11 q7
    have n811 := ne_of_none hb11 q8
    unfold ir_chacha_Block_51
    simp -implicitDefEqProofs only [zA,reduceIte,reduceCtorEq,Nat.reduceEqDiff,Nat.reduceAdd,Nat.reduceMul,Nat.reduceLT,Nat.reduceSub,Int.reduceLT,Int.reduceLE,Int.reduceEq,Int.reduceNe,Int.reduceSub,Int.reduceAdd,Int.reduceMul,Int.reduceBEq,Int.reduceBNe,Int.reduceGT,Int.reduceGE,Nat.reduceGT,Int.reduceToNat,Int.reduceNeg,Nat.reduceLeDiff,Nat.reduceBEq,Nat.reduceBneDiff]
    have leP := Heap.le_new leH hb11 (.own 0 (row8 (blend8 (bytesF (coutF st)) 0) 64) 64)
    refine wp_loop' (fun m t H => h.le H ∧ ∃ i : Nat, i ≤ 16 ∧ m = 16 - i ∧ t = tl [(6, .pointer (some ⟨b6, 0, none⟩)), (7, .pointer (some ⟨b7, 0, none⟩)), (8, .pointer (some ⟨b8, 0, none⟩)), (11, .pointer (some ⟨b11, 0, none⟩)), (51, .int .i64 i)] ∧
        H b6 = some (.own 0 (List.replicate 64 (.int .u8 0)) 64) ∧ H b7 = some (.own 0 (rowU st 16) 16) ∧ H b8 = some (.own 0 (rowU (roundsF st 10) 16) 16) ∧ H b11 = some (.own 0 (row8 (blend8 (bytesF (coutF st)) (4 * i)) 64) 64)) 16
      ⟨leP, 0, by omega, rfl, rfl, set_new hb11 q6, set_new hb11 q7, set_new hb11 q8, Heap.set_self _ _ _⟩ ?_
    clear q6 q7 q8 leH leP hlt
    rintro m t H ⟨leH, i, hi, rfl, rfl, q6, q7, q8, q11⟩
    by_cases hlt : (i : Int) < 16
    · have hi' : i < 16 := by omega
      have e0 : (0 : Int) ≤ (i : Int) := by omega
      have c8 := rowU_at q8 hi'
      have c7 := rowU_at q7 hi'
      have w7 : IntKind.i64.wrap ((i : Int) + 1) = ((i + 1 : Nat) : Int) := wrapN (by omega)
      have w2 : IntKind.i64.wrap (4 * (i : Int)) = ((4 * i : Nat) : Int) := by rw [wrapI (by omega) (by omega)]; rfl
      have bd : bnds 64 64 (some (some (.int .i64 ((4 * i : Nat) : Int)))) none none = some (4 * i, 64, 64) := bnds_lo (by omega) (by omega)
      have ne : ¬ (64 = 4 * i) := by omega
      simp -implicitDefEqProofs only [zA,reduceIte,reduceCtorEq,Nat.reduceEqDiff,Nat.reduceAdd,Nat.reduceMul,Nat.reduceLT,Nat.reduceSub,Int.reduceLT,Int.reduceLE,Int.reduceEq,Int.reduceNe,Int.reduceSub,Int.reduceAdd,Int.reduceMul,Int.reduceBEq,Int.reduceBNe,Int.reduceGT,Int.reduceGE,Nat.reduceGT,Int.reduceToNat,Int.reduceNeg,Nat.reduceLeDiff,Nat.reduceBEq,Nat.reduceBneDiff, hlt, e0, Int.toNat_natCast, c8, c7, u32_add, u32_u64]
      refine (octet_Little_c E _ [] (by simp) (Ow.nil H H 1).sl ((coutF st i).setWidth 64) 4 (by omega)).mono ?_
      rintro r H2 ⟨le2, ow⟩
      rw [List.nil_append] at ow
      have so := ow.sl
      unfold SlB at so
      rw [littleF_len] at so
      obtain ⟨base, c, rfl⟩ := Sl.shape so
      have q11' := le2 _ _ q11
      simp -implicitDefEqProofs only [zA,reduceIte,reduceCtorEq,Nat.reduceEqDiff,Nat.reduceAdd,Nat.reduceMul,Nat.reduceLT,Nat.reduceSub,Int.reduceLT,Int.reduceLE,Int.reduceEq,Int.reduceNe,Int.reduceSub,Int.reduceAdd,Int.reduceMul,Int.reduceBEq,Int.reduceBNe,Int.reduceGT,Int.reduceGE,Nat.reduceGT,Int.reduceToNat,Int.reduceNeg,Nat.reduceLeDiff,Nat.reduceBEq,Nat.reduceBneDiff, w2, bd, ne, add_off', Nat.zero_add, Nat.mul_one, List.mem_cons, List.not_mem_nil, or_false, forall_eq, implies_true]
      refine copyP_own (size := 1) (m := 4) (o := 4 * i) q11' (by rw [row8_len]; omega) (by rw [row8_len]; omega) so (one_u8 _) ?_
      have et : ((littleF ((coutF st i).setWidth 64) 4).map u8V).take (min 4 (64 - 4 * i) * 1) = ((List.range 4).map fun k => bytesF (coutF st) (4 * i + k)).map u8V := by
        rw [List.take_of_length_le (by simp [littleF_len]; omega), bytesF_little]
      rw [et, blend8_put _ _ _ (by omega)]
      simp -implicitDefEqProofs only [zA,reduceIte,reduceCtorEq,Nat.reduceEqDiff,Nat.reduceAdd,Nat.reduceMul,Nat.reduceLT,Nat.reduceSub,Int.reduceLT,Int.reduceLE,Int.reduceEq,Int.reduceNe,Int.reduceSub,Int.reduceAdd,Int.reduceMul,Int.reduceBEq,Int.reduceBNe,Int.reduceGT,Int.reduceGE,Nat.reduceGT,Int.reduceToNat,Int.reduceNeg,Nat.reduceLeDiff,Nat.reduceBEq,Nat.reduceBneDiff, w7]
      exact ⟨_, by omega, Heap.le_set (Heap.le_trans leH le2) hb11' _, i + 1, by omega, rfl, rfl, set_keep (le2 _ _ q6) n611, set_keep (le2 _ _ q7) n711, set_keep (le2 _ _ q8) n811, Heap.set_self _ _ _⟩
    · obtain rfl : i = 16 := by omega
      have e64 : row8 (blend8 (bytesF (coutF st)) (4 * 16)) 64 = row8 (bytesF (coutF st)) 64 := blend8_all _ _
      rw [e64] at q11
      have l11 : hcells H ⟨b11, 0, none⟩ 64 = some (row8 (bytesF (coutF st)) 64) := hcells_own0 q11 (row8_len _ _)
      have s6 : storeV H 64 (.pointer (some ⟨b6, 0, none⟩)) (.agg (row8 (bytesF (coutF st)) 64).toArray) = some (H.set b6 (.own 0 (row8 (bytesF (coutF st)) 64) 64)) := storeV_agg_at q6 (by omega) (row8_len _ _) (by simp [row8, one]) (by simp) (by omega)
      have l6 : hcells (H.set b6 (.own 0 (row8 (bytesF (coutF st)) 64) 64)) ⟨b6, 0, none⟩ 64 = some (row8 (bytesF (coutF st)) 64) := z6x (row8_len _ _)
      simp -implicitDefEqProofs only [zA,reduceIte,reduceCtorEq,Nat.reduceEqDiff,Nat.reduceAdd,Nat.reduceMul,Nat.reduceLT,Nat.reduceSub,Int.reduceLT,Int.reduceLE,Int.reduceEq,Int.reduceNe,Int.reduceSub,Int.reduceAdd,Int.reduceMul,Int.reduceBEq,Int.reduceBNe,Int.reduceGT,Int.reduceGE,Nat.reduceGT,Int.reduceToNat,Int.reduceNeg,Nat.reduceLeDiff,Nat.reduceBEq,Nat.reduceBneDiff, hlt, l11, s6, l6]
      exact Heap.le_set leH hb6' _
end Go.Bb
/- The document's bytes: Join. -/
namespace Go.Bb
set_option linter.unusedSimpArgs false
set_option linter.unusedVariables false
set_option maxRecDepth 20000

end Go.Bb
/- The document's bytes: numbers, exclusive or. -/
namespace Go.Bb
set_option linter.unusedSimpArgs false
set_option linter.unusedVariables false
set_option maxRecDepth 20000
set_option maxHeartbeats 2000000

end Go.Bb
/- The document's streams: a block. -/
namespace Go.Bb
set_option linter.unusedSimpArgs false
set_option linter.unusedVariables false
set_option maxRecDepth 20000
set_option maxHeartbeats 4000000

end Go.Bb
/- Contracts: bytes: exclusive or, equality. -/
namespace Go.Bb
set_option linter.unusedSimpArgs false
set_option linter.unusedVariables false
set_option maxRecDepth 20000
set_option maxHeartbeats 2000000

/-- A row of bytes that are ours, one of them written. -/
theorem byte_store {H : Heap} {b n sz : Nat} {l : List UInt8} {z : UInt8} {i : Nat} (h : H b = some (.own 0 (l.map u8V) sz)) (hi : i < l.length) (hs : l.length ≤ sz) : storeV H 1 (.pointer (some ⟨b, i, none⟩)) (.int .u8 (z.toNat : Int)) = some (H.set b (.own 0 ((l.set i z).map u8V) sz)) := by
  rw [storeV_one_at h rfl (by simpa using hi) (by simpa using hs), List.map_set]
  rfl

theorem octet_Xor_c (E : EnvT tab) (h : Heap) {v w : Value} (a b : List UInt8) (ha : a.length ≤ 140737488350000) (s : SlB h v a) (q : SlB h w b) : ACallN E.toEnv n_octet_Xor [v, w] h fun r h' => h.le h' ∧ OwB h h' r (xorB a b) := by
  obtain ⟨base, c, rfl⟩ := Sl.shape s
  obtain ⟨base2, c2, rfl⟩ := Sl.shape q
  refine acall h_octet_Xor ir_octet_Xor rfl rfl (wpA_sound ?_)
  unfold ir_octet_Xor
  have hmn : (if (b.length : Int) < (a.length : Int) then (b.length : Int) else (a.length : Int)) = ((min a.length b.length : Nat) : Int) := by
    split <;> omega
  have hlen := xorB_len a b
  generalize hk : min a.length b.length = k at hmn hlen
  have m1 : (0 : Int) ≤ (k : Int) ∧ (k : Int) ≤ (k : Int) ∧ (k : Int) ≤ 9223372036854775807 ∧ 1 * (k : Int) ≤ 281474976710656 := by omega
  simp -implicitDefEqProofs only [zA,reduceIte,reduceCtorEq,Nat.reduceEqDiff,Nat.reduceAdd,Nat.reduceMul,Nat.reduceLT,Nat.reduceSub,Int.reduceLT,Int.reduceLE,Int.reduceEq,Int.reduceNe,Int.reduceSub,Int.reduceAdd,Int.reduceMul,Int.reduceBEq,Int.reduceBNe,Int.reduceGT,Int.reduceGE,Nat.reduceGT,Int.reduceToNat,Int.reduceNeg,Nat.reduceLeDiff,Nat.reduceBEq,Nat.reduceBneDiff, hmn, if_pos m1, Int.toNat_natCast]
  intro b5 hb5
  unfold ir_octet_Xor_13
  simp -implicitDefEqProofs only [zA,reduceIte,reduceCtorEq,Nat.reduceEqDiff,Nat.reduceAdd,Nat.reduceMul,Nat.reduceLT,Nat.reduceSub,Int.reduceLT,Int.reduceLE,Int.reduceEq,Int.reduceNe,Int.reduceSub,Int.reduceAdd,Int.reduceMul,Int.reduceBEq,Int.reduceBNe,Int.reduceGT,Int.reduceGE,Nat.reduceGT,Int.reduceToNat,Int.reduceNeg,Nat.reduceLeDiff,Nat.reduceBEq,Nat.reduceBneDiff]
  refine wp_loop' (fun m t H => h.le H ∧ ∃ (j : Nat), t = tl [(0, .slice base a.length c), (1, .slice base2 b.length c2), (5, .slice (some ⟨b5, 0, none⟩) k k), (14, .int .i64 k), (15, .int .i64 j)] ∧ j ≤ k ∧ m = k - j ∧
      H b5 = some (.own 0 (((xorB a b).take j ++ List.replicate (k - j) 0).map u8V) k)) k
    ⟨Heap.le_new (Heap.le_refl _) hb5 _, 0, rfl, by omega, by omega, by rw [Heap.set_self]; simp [u8V]⟩ ?_
  rintro m t H ⟨leH, j, rfl, hj, rfl, q5⟩
  by_cases hlt : j < k
  · have e1 : (j : Int) < (k : Int) := by omega
    have e2 : (j : Int) < (a.length : Int) := by omega
    have e3 : (j : Int) < (b.length : Int) := by omega
    have e0 : (0 : Int) ≤ (j : Int) := by omega
    obtain ⟨b', o, c', hv, hc, hcl⟩ := Sl.byte_at s j (by omega)
    simp only [Value.slice.injEq, true_and] at hv
    obtain ⟨rfl, rfl⟩ := hv
    obtain ⟨b2', o2, c2', hv2, hc2, hcl2⟩ := Sl.byte_at q j (by omega)
    simp only [Value.slice.injEq, true_and] at hv2
    obtain ⟨rfl, rfl⟩ := hv2
    have hz := hcl H leH
    have hz2 := hcl2 H leH
    unfold u8V at hz hz2
    have w2 : IntKind.i64.wrap ((j : Int) + 1) = ((j + 1 : Nat) : Int) := wrapN (by omega)
    have st := byte_store (n := k) (z := a[j] ^^^ b[j]) (i := j) q5 (by simp [hlen]; omega) (by simp [hlen]; omega)
    have e : ((xorB a b).take j ++ List.replicate (k - j) 0).set j (a[j]'(by omega) ^^^ b[j]'(by omega)) = (xorB a b).take (j + 1) ++ List.replicate (k - (j + 1)) 0 := by
      rw [xorB_take a b j (by omega) (by omega), List.set_append_right _ _ (by simp [hlen]; omega)]
      have : (List.take j (xorB a b)).length = j := by simp [hlen]; omega
      rw [this, Nat.sub_self, show k - j = (k - (j + 1)) + 1 by omega, List.replicate_succ, List.set_cons_zero, List.append_assoc]
      rfl
    rw [e] at st
    simp -implicitDefEqProofs only [zA,reduceIte,reduceCtorEq,Nat.reduceEqDiff,Nat.reduceAdd,Nat.reduceMul,Nat.reduceLT,Nat.reduceSub,Int.reduceLT,Int.reduceLE,Int.reduceEq,Int.reduceNe,Int.reduceSub,Int.reduceAdd,Int.reduceMul,Int.reduceBEq,Int.reduceBNe,Int.reduceGT,Int.reduceGE,Nat.reduceGT,Int.reduceToNat,Int.reduceNeg,Nat.reduceLeDiff,Nat.reduceBEq,Nat.reduceBneDiff, e1, e2, e3, e0, Int.toNat_natCast, hz, hz2, u8_xorB, st, w2]
    exact ⟨_, by omega, Heap.le_set leH hb5 _, j + 1, rfl, by omega, rfl, Heap.set_self _ _ _⟩
  · obtain rfl : j = k := by omega
    have e1 : ¬ (j : Int) < (j : Int) := by omega
    simp -implicitDefEqProofs only [zA,reduceIte,reduceCtorEq,Nat.reduceEqDiff,Nat.reduceAdd,Nat.reduceMul,Nat.reduceLT,Nat.reduceSub,Int.reduceLT,Int.reduceLE,Int.reduceEq,Int.reduceNe,Int.reduceSub,Int.reduceAdd,Int.reduceMul,Int.reduceBEq,Int.reduceBNe,Int.reduceGT,Int.reduceGE,Nat.reduceGT,Int.reduceToNat,Int.reduceNeg,Nat.reduceLeDiff,Nat.reduceBEq,Nat.reduceBneDiff, e1]
    refine ⟨leH, ?_⟩
    rw [List.take_of_length_le (by omega), Nat.sub_self, List.replicate_zero, List.append_nil] at q5
    unfold OwB
    rw [hlen]
    exact .inr ⟨b5, 0, j, j, 0, [], [], rfl, Nat.le_refl _, hb5, by simpa using q5, rfl, by simp [hlen], by omega⟩
def diffB (a b : List UInt8) : UInt8 := (xorB a b).foldl (fun x y => x ||| y) 0
theorem or_zero (x y : UInt8) : x ||| y = 0 ↔ x = 0 ∧ y = 0 := by
  constructor
  · intro h
    have h1 : (x ||| y).toNat = 0 := by rw [h]; rfl
    rw [UInt8.toNat_or] at h1
    have := Nat.or_eq_zero_iff.1 h1
    exact ⟨UInt8.toNat_inj.1 this.1, UInt8.toNat_inj.1 this.2⟩
  · rintro ⟨rfl, rfl⟩; rfl
theorem xor_zero (x y : UInt8) : x ^^^ y = 0 ↔ x = y := UInt8.xor_eq_zero_iff
theorem foldl_or (l : List UInt8) : ∀ x, l.foldl (fun x y => x ||| y) x = 0 ↔ x = 0 ∧ ∀ y ∈ l, y = 0 := by
  induction l with
  | nil => intro x; simp
  | cons a l ih =>
    intro x
    rw [List.foldl_cons, ih, or_zero]
    simp [and_assoc]
theorem xorB_zero : ∀ a b : List UInt8, a.length = b.length → ((∀ y ∈ xorB a b, y = 0) ↔ a = b)
  | [], [], _ => by simp [xorB]
  | [], _ :: _, h => by simp at h
  | _ :: _, [], h => by simp at h
  | x :: a, y :: b, h => by
    have ih := xorB_zero a b (by simpa using h)
    unfold xorB at ih ⊢
    simp only [List.zipWith_cons_cons, List.mem_cons, forall_eq_or_imp, List.cons.injEq, xor_zero]
    rw [ih]
theorem diffB_eq (a b : List UInt8) : (diffB a b = 0 ∧ a.length = b.length) ↔ a = b := by
  unfold diffB
  rw [foldl_or]
  constructor
  · rintro ⟨⟨_, h⟩, hl⟩; exact (xorB_zero a b hl).1 h
  · rintro rfl; exact ⟨⟨rfl, (xorB_zero a a rfl).2 rfl⟩, rfl⟩
theorem octet_Equal_c (E : EnvT tab) (h : Heap) {v w : Value} (a b : List UInt8) (ha : a.length ≤ 140737488350000) (s : SlB h v a) (q : SlB h w b) : ACallN E.toEnv n_octet_Equal [v, w] h fun r h' => h' = h ∧ r = .bool (decide (a = b)) := by
  obtain ⟨base, c, rfl⟩ := Sl.shape s
  obtain ⟨base2, c2, rfl⟩ := Sl.shape q
  refine acall h_octet_Equal ir_octet_Equal rfl rfl (wpA_sound ?_)
  unfold ir_octet_Equal
  have hmn : (if (b.length : Int) < (a.length : Int) then (b.length : Int) else (a.length : Int)) = ((min a.length b.length : Nat) : Int) := by
    split <;> omega
  have hlen := xorB_len a b
  generalize hk : min a.length b.length = k at hmn hlen
  simp -implicitDefEqProofs only [zA,reduceIte,reduceCtorEq,Nat.reduceEqDiff,Nat.reduceAdd,Nat.reduceMul,Nat.reduceLT,Nat.reduceSub,Int.reduceLT,Int.reduceLE,Int.reduceEq,Int.reduceNe,Int.reduceSub,Int.reduceAdd,Int.reduceMul,Int.reduceBEq,Int.reduceBNe,Int.reduceGT,Int.reduceGE,Nat.reduceGT,Int.reduceToNat,Int.reduceNeg,Nat.reduceLeDiff,Nat.reduceBEq,Nat.reduceBneDiff]
  unfold ir_octet_Equal_7
  simp -implicitDefEqProofs only [zA,reduceIte,reduceCtorEq,Nat.reduceEqDiff,Nat.reduceAdd,Nat.reduceMul,Nat.reduceLT,Nat.reduceSub,Int.reduceLT,Int.reduceLE,Int.reduceEq,Int.reduceNe,Int.reduceSub,Int.reduceAdd,Int.reduceMul,Int.reduceBEq,Int.reduceBNe,Int.reduceGT,Int.reduceGE,Nat.reduceGT,Int.reduceToNat,Int.reduceNeg,Nat.reduceLeDiff,Nat.reduceBEq,Nat.reduceBneDiff, hmn]
  refine wp_loop' (fun m t H => H = h ∧ ∃ (j : Nat), t = tl [(0, .slice base a.length c), (1, .slice base2 b.length c2), (5, .int .u8 (((xorB a b).take j).foldl (fun x y => x ||| y) 0).toNat), (11, .int .i64 k), (12, .int .i64 j)] ∧ j ≤ k ∧ m = k - j) k
    ⟨rfl, 0, rfl, by omega, by omega⟩ ?_
  rintro m t H ⟨rfl, j, rfl, hj, rfl⟩
  by_cases hlt : j < k
  · have e1 : (j : Int) < (k : Int) := by omega
    have e2 : (j : Int) < (a.length : Int) := by omega
    have e3 : (j : Int) < (b.length : Int) := by omega
    have e0 : (0 : Int) ≤ (j : Int) := by omega
    obtain ⟨b', o, c', hv, hc, hcl⟩ := Sl.byte_at s j (by omega)
    simp only [Value.slice.injEq, true_and] at hv
    obtain ⟨rfl, rfl⟩ := hv
    obtain ⟨b2', o2, c2', hv2, hc2, hcl2⟩ := Sl.byte_at q j (by omega)
    simp only [Value.slice.injEq, true_and] at hv2
    obtain ⟨rfl, rfl⟩ := hv2
    have hz := hcl H (Heap.le_refl _)
    have hz2 := hcl2 H (Heap.le_refl _)
    unfold u8V at hz hz2
    have w2 : IntKind.i64.wrap ((j : Int) + 1) = ((j + 1 : Nat) : Int) := wrapN (by omega)
    simp -implicitDefEqProofs only [zA,reduceIte,reduceCtorEq,Nat.reduceEqDiff,Nat.reduceAdd,Nat.reduceMul,Nat.reduceLT,Nat.reduceSub,Int.reduceLT,Int.reduceLE,Int.reduceEq,Int.reduceNe,Int.reduceSub,Int.reduceAdd,Int.reduceMul,Int.reduceBEq,Int.reduceBNe,Int.reduceGT,Int.reduceGE,Nat.reduceGT,Int.reduceToNat,Int.reduceNeg,Nat.reduceLeDiff,Nat.reduceBEq,Nat.reduceBneDiff, e1, e2, e3, e0, Int.toNat_natCast, hz, hz2, u8_xorB, u8_or, w2]
    refine ⟨_, by omega, j + 1, ?_, by omega, rfl⟩
    rw [xorB_take a b j (by omega) (by omega), List.foldl_append, List.foldl_cons, List.foldl_nil]
  · obtain rfl : j = k := by omega
    have e1 : ¬ (j : Int) < (j : Int) := by omega
    rw [List.take_of_length_le (by omega)]
    have hd := diffB_eq a b
    unfold diffB at hd
    generalize (xorB a b).foldl (fun x y => x ||| y) 0 = d at hd ⊢
    simp -implicitDefEqProofs only [zA,reduceIte,reduceCtorEq,Nat.reduceEqDiff,Nat.reduceAdd,Nat.reduceMul,Nat.reduceLT,Nat.reduceSub,Int.reduceLT,Int.reduceLE,Int.reduceEq,Int.reduceNe,Int.reduceSub,Int.reduceAdd,Int.reduceMul,Int.reduceBEq,Int.reduceBNe,Int.reduceGT,Int.reduceGE,Nat.reduceGT,Int.reduceToNat,Int.reduceNeg,Nat.reduceLeDiff,Nat.reduceBEq,Nat.reduceBneDiff, e1]
    unfold ir_octet_Equal_27
    by_cases hz : d = 0
    · subst hz
      by_cases hl : a.length = b.length
      · have hab := hd.1 ⟨rfl, hl⟩
        subst hab
        have e4 : (((0 : UInt8).toNat : Nat) : Int) = 0 := rfl
        simp -implicitDefEqProofs only [zA,reduceIte,reduceCtorEq,Nat.reduceEqDiff,Nat.reduceAdd,Nat.reduceMul,Nat.reduceLT,Nat.reduceSub,Int.reduceLT,Int.reduceLE,Int.reduceEq,Int.reduceNe,Int.reduceSub,Int.reduceAdd,Int.reduceMul,Int.reduceBEq,Int.reduceBNe,Int.reduceGT,Int.reduceGE,Nat.reduceGT,Int.reduceToNat,Int.reduceNeg,Nat.reduceLeDiff,Nat.reduceBEq,Nat.reduceBneDiff, e4]
        simp
      · have hab : ¬ a = b := fun x => by rw [x] at hl; exact hl rfl
        have e4 : (((0 : UInt8).toNat : Nat) : Int) = 0 := rfl
        have e5 : ¬ ((a.length : Int) = (b.length : Int)) := by omega
        simp -implicitDefEqProofs only [zA,reduceIte,reduceCtorEq,Nat.reduceEqDiff,Nat.reduceAdd,Nat.reduceMul,Nat.reduceLT,Nat.reduceSub,Int.reduceLT,Int.reduceLE,Int.reduceEq,Int.reduceNe,Int.reduceSub,Int.reduceAdd,Int.reduceMul,Int.reduceBEq,Int.reduceBNe,Int.reduceGT,Int.reduceGE,Nat.reduceGT,Int.reduceToNat,Int.reduceNeg,Nat.reduceLeDiff,Nat.reduceBEq,Nat.reduceBneDiff, e4, e5, hab]
        have e6 : ((a.length : Int) == (b.length : Int)) = false := by simp; omega
        rw [e6]
    · have hab : ¬ a = b := fun x => hz (hd.2 x).1
      have e4 : ¬ ((d.toNat : Int) = 0) := by
        intro x
        apply hz
        apply UInt8.toNat_inj.1
        show d.toNat = 0
        omega
      simp -implicitDefEqProofs only [zA,reduceIte,reduceCtorEq,Nat.reduceEqDiff,Nat.reduceAdd,Nat.reduceMul,Nat.reduceLT,Nat.reduceSub,Int.reduceLT,Int.reduceLE,Int.reduceEq,Int.reduceNe,Int.reduceSub,Int.reduceAdd,Int.reduceMul,Int.reduceBEq,Int.reduceBNe,Int.reduceGT,Int.reduceGE,Nat.reduceGT,Int.reduceToNat,Int.reduceNeg,Nat.reduceLeDiff,Nat.reduceBEq,Nat.reduceBneDiff, e4, hab]
end Go.Bb
/- Contracts: streams of keys: Xor. -/
namespace Go.Bb
set_option linter.unusedSimpArgs false
set_option linter.unusedVariables false
set_option maxRecDepth 20000
set_option maxHeartbeats 2000000

/-- Bytes, mixed with the stream. -/
def sxF (key : List UInt8) (count : U32) (nonce l : List UInt8) : List UInt8 := (List.range l.length).map fun k => l.getD k 0 ^^^ blockF key (count + BitVec.ofNat 32 (k / 64)) nonce (k % 64)
theorem sxF_len (key : List UInt8) (count : U32) (nonce l : List UInt8) : (sxF key count nonce l).length = l.length := by simp [sxF]
theorem sxF_get {key : List UInt8} {count : U32} {nonce l : List UInt8} {k : Nat} (h : k < l.length) : (sxF key count nonce l)[k]? = some (l[k] ^^^ blockF key (count + BitVec.ofNat 32 (k / 64)) nonce (k % 64)) := by
  simp [sxF, h]
theorem sxF_step (key : List UInt8) (count : U32) (nonce l : List UInt8) (n m : Nat) (hn : 64 * n < l.length) (hm : m = min 64 (l.length - 64 * n)) :
    (sxF key count nonce l).take (64 * (n + 1)) = (sxF key count nonce l).take (64 * n) ++ xorB ((l.drop (64 * n)).take m) (rowL (blockF key (count + BitVec.ofNat 32 n) nonce) 64) := by
  have hx := xorB_len ((l.drop (64 * n)).take m) (rowL (blockF key (count + BitVec.ofNat 32 n) nonce) 64)
  rw [rowL_len, List.length_take, List.length_drop] at hx
  apply List.ext_getElem?
  intro j
  rw [List.getElem?_take, List.getElem?_append]
  have hl : ((sxF key count nonce l).take (64 * n)).length = 64 * n := by rw [List.length_take, sxF_len]; omega
  rw [hl]
  by_cases h1 : j < 64 * n
  · rw [if_pos (by omega), if_pos h1, List.getElem?_take, if_pos h1]
  · rw [if_neg h1]
    by_cases h2 : j < 64 * (n + 1)
    · rw [if_pos h2]
      by_cases h3 : j < l.length
      · rw [sxF_get h3]
        have hj : j - 64 * n < (xorB ((l.drop (64 * n)).take m) (rowL (blockF key (count + BitVec.ofNat 32 n) nonce) 64)).length := by omega
        rw [List.getElem?_eq_getElem hj]
        simp [xorB, rowL]
        have e1 : 64 * n + (j - 64 * n) = j := by omega
        have e2 : j / 64 = n := by omega
        have e3 : j % 64 = j - 64 * n := by omega
        simp only [e1, e2, e3]
      · rw [List.getElem?_eq_none (by rw [sxF_len]; omega), List.getElem?_eq_none (by omega)]
    · rw [if_neg h2, List.getElem?_eq_none (by omega)]
theorem tdiv64 (a : Nat) : Int.tdiv (a : Int) 64 = ((a / 64 : Nat) : Int) := by
  rw [Int.tdiv_eq_ediv_of_nonneg (by omega)]; rfl
theorem tmod64 (a : Nat) : Int.tmod (a : Int) 64 = ((a % 64 : Nat) : Int) := by
  rw [Int.tmod_eq_emod_of_nonneg (by omega)]; rfl
theorem u32_lit (n : Nat) (h : n < 4294967296) : IntKind.u32.wrap (n : Int) = ((BitVec.ofNat 32 n).toNat : Int) := by
  rw [wrap_u32, ofInt_nat]

theorem chaXor23 (E : EnvT tab) {h H : Heap} {base : Option Addr} {c b4 b6 : Nat} {nd : Int} (xs : List (Nat × Value)) (key nonce l : List UInt8) (count : U32) (hk : key.length = 32) (hn : nonce.length = 12) (hl : l.length ≤ 100000000) (hc : nd + count.toNat ≤ 4294967296) (hc0 : 0 ≤ nd) (sl : SlB h (.slice base l.length c) l)
    (hh : h.le H) (q4 : H b4 = some (.own 0 (key.map u8V) 32)) (q6 : H b6 = some (.own 0 (nonce.map u8V) 12)) :
    wpA E.toEnv 58 ir_chacha_Xor_23 (qRet [ARes.tmp 8, ARes.tmp 9] fun r h' => h.le h' ∧ ∃ r', r = .tuple #[r', .int .i64 0] ∧ OwB h h' r' (sxF key count nonce l))
      (tl ([(1, .int .u32 count.toNat), (3, .slice base l.length c), (4, .pointer (some ⟨b4, 0, none⟩)), (6, .pointer (some ⟨b6, 0, none⟩)), (10, .int .i64 nd)] ++ xs)) H := by
  unfold ir_chacha_Xor_23
  have hcn : count.toNat < 4294967296 := count.isLt
  have w1 : IntKind.i64.wrap (count.toNat : Int) = (count.toNat : Int) := wrapI (by omega) (by omega)
  have w2 : IntKind.i64.wrap (4294967296 - (count.toNat : Int)) = 4294967296 - (count.toNat : Int) := wrapI (by omega) (by omega)
  have g1 : ¬ (4294967296 - (count.toNat : Int) < nd) := by omega
  have g1' : nd ≤ 4294967296 - (count.toNat : Int) := by omega
  have hcap : l.length ≤ c := by
    rcases sl with ⟨e, hn, _⟩ | ⟨a, c', e, hc, _⟩
    · omega
    · cases e; exact hc
  have m1 : (0 : Int) ≤ (l.length : Int) ∧ (l.length : Int) ≤ 9223372036854775807 ∧ 1 * (l.length : Int) ≤ 281474976710656 := by omega
  simp -implicitDefEqProofs only [zA,reduceIte,reduceCtorEq,Nat.reduceEqDiff,Nat.reduceAdd,Nat.reduceMul,Nat.reduceLT,Nat.reduceSub,Int.reduceLT,Int.reduceLE,Int.reduceEq,Int.reduceNe,Int.reduceSub,Int.reduceAdd,Int.reduceMul,Int.reduceBEq,Int.reduceBNe,Int.reduceGT,Int.reduceGE,Nat.reduceGT,Int.reduceToNat,Int.reduceNeg,Nat.reduceLeDiff,Nat.reduceBEq,Nat.reduceBneDiff, w1, w2, g1, g1', if_pos m1, Int.toNat_natCast, Int.toNat_zero]
  intro b11 hb11
  have o11 : OwB H (H.set b11 (.own 0 (List.replicate l.length (.int .u8 0)) l.length)) (.slice (some ⟨b11, 0, none⟩) 0 l.length) [] :=
    .inr ⟨b11, 0, l.length, l.length, 0, [], List.replicate l.length (.int .u8 0), rfl, Nat.zero_le _, hb11, by rw [Heap.set_self]; simp, rfl, by simp, by omega⟩
  have le1 := Heap.le_new (Heap.le_refl H) hb11 (.own 0 (List.replicate l.length (.int .u8 0)) l.length)
  have hlen := sxF_len key count nonce l
  refine wp_loop' (fun m t H' => H.le H' ∧ ∃ (n : Nat) (v11 : Value), t = tl [(1, .int .u32 count.toNat), (3, .slice base l.length c), (4, .pointer (some ⟨b4, 0, none⟩)), (6, .pointer (some ⟨b6, 0, none⟩)), (11, v11), (12, .int .i64 ((64 * n : Nat) : Int))] ∧ 64 * n ≤ l.length + 63 ∧ m = l.length + 64 - 64 * n ∧
      OwB H H' v11 ((sxF key count nonce l).take (64 * n))) (l.length + 64)
    ⟨le1, 0, _, rfl, by omega, by omega, by simpa using o11⟩ ?_
  rintro m t H' ⟨le', n, v11, rfl, hn64, rfl, ow⟩
  by_cases hlt : 64 * n < l.length
  · have e1 : ((64 * n : Nat) : Int) < (l.length : Int) := by omega
    have l4 : hcells H' ⟨b4, 0, none⟩ 32 = some (key.map u8V) := hcells_own0 (le' _ _ q4) (by simp [hk])
    have l6 : hcells H' ⟨b6, 0, none⟩ 12 = some (nonce.map u8V) := hcells_own0 (le' _ _ q6) (by simp [hn])
    have dv : Int.tdiv ((64 * n : Nat) : Int) 64 = (n : Int) := by rw [tdiv64]; congr 1; omega
    have dw : IntKind.i64.wrap (n : Int) = (n : Int) := wrapI (by omega) (by omega)
    have du := u32_lit n (by omega)
    simp -implicitDefEqProofs only [zA,reduceIte,reduceCtorEq,Nat.reduceEqDiff,Nat.reduceAdd,Nat.reduceMul,Nat.reduceLT,Nat.reduceSub,Int.reduceLT,Int.reduceLE,Int.reduceEq,Int.reduceNe,Int.reduceSub,Int.reduceAdd,Int.reduceMul,Int.reduceBEq,Int.reduceBNe,Int.reduceGT,Int.reduceGE,Nat.reduceGT,Int.reduceToNat,Int.reduceNeg,Nat.reduceLeDiff,Nat.reduceBEq,Nat.reduceBneDiff, e1]
    unfold ir_chacha_Xor_37
    simp -implicitDefEqProofs only [zA,reduceIte,reduceCtorEq,Nat.reduceEqDiff,Nat.reduceAdd,Nat.reduceMul,Nat.reduceLT,Nat.reduceSub,Int.reduceLT,Int.reduceLE,Int.reduceEq,Int.reduceNe,Int.reduceSub,Int.reduceAdd,Int.reduceMul,Int.reduceBEq,Int.reduceBNe,Int.reduceGT,Int.reduceGE,Nat.reduceGT,Int.reduceToNat,Int.reduceNeg,Nat.reduceLeDiff,Nat.reduceBEq,Nat.reduceBneDiff, l4, l6, dv, dw, du, u32_add]
    refine (chacha_Block_c E _ key nonce _ hk hn).mono ?_
    rintro r H2 ⟨le2, rfl⟩
    simp -implicitDefEqProofs only [zA,reduceIte,reduceCtorEq,Nat.reduceEqDiff,Nat.reduceAdd,Nat.reduceMul,Nat.reduceLT,Nat.reduceSub,Int.reduceLT,Int.reduceLE,Int.reduceEq,Int.reduceNe,Int.reduceSub,Int.reduceAdd,Int.reduceMul,Int.reduceBEq,Int.reduceBNe,Int.reduceGT,Int.reduceGE,Nat.reduceGT,Int.reduceToNat,Int.reduceNeg,Nat.reduceLeDiff,Nat.reduceBEq,Nat.reduceBneDiff, List.length_replicate]
    intro b13 hb13
    have s13 : storeV (H2.set b13 (.own 0 (List.replicate 64 (.int .u8 0)) 64)) 64 (.pointer (some ⟨b13, 0, none⟩)) (.agg (row8 (blockF key (count + BitVec.ofNat 32 n) nonce) 64).toArray) = some (H2.set b13 (.own 0 (row8 (blockF key (count + BitVec.ofNat 32 n) nonce) 64) 64)) := z6z (by omega) (row8_len _ _) (by simp [row8, one]) (by simp) (by omega)
    have w3 : IntKind.i64.wrap (((64 * n : Nat) : Int) + 64) = ((64 * (n + 1) : Nat) : Int) := by rw [wrapI (by omega) (by omega)]; omega
    obtain ⟨mm, hmm⟩ : ∃ mm, mm = min 64 (l.length - 64 * n) := ⟨_, rfl⟩
    have hmn : (if (l.length : Int) < ((64 * (n + 1) : Nat) : Int) then (l.length : Int) else ((64 * (n + 1) : Nat) : Int)) = ((64 * n + mm : Nat) : Int) := by split <;> omega
    have bd : bnds l.length c (some (some (.int .i64 ((64 * n : Nat) : Int)))) (some (some (.int .i64 ((64 * n + mm : Nat) : Int)))) none = some (64 * n, 64 * n + mm, c) := bnds_both (by omega) (by omega) (by omega)
    have le3 := Heap.le_new le2 hb13 (.own 0 (row8 (blockF key (count + BitVec.ofNat 32 n) nonce) 64) 64)
    have s64 := own_sl (H := H2.set b13 (.own 0 (row8 (blockF key (count + BitVec.ofNat 32 n) nonce) 64) 64)) (b := b13) (l := rowL (blockF key (count + BitVec.ofNat 32 n) nonce) 64) (sz := 64) (by rw [Heap.set_self, rowL_map])
    have sp := Sl.midB (a := 64 * n) (b := 64 * n + mm) (sl.le (Heap.le_trans hh (Heap.le_trans le' le3))) (by omega) (by omega)
    have hst := sxF_step key count nonce l n mm hlt hmm
    rw [show 64 * n + mm - 64 * n = mm by omega] at sp
    have hxl := xorB_len ((l.drop (64 * n)).take mm) (rowL (blockF key (count + BitVec.ofNat 32 n) nonce) 64)
    rw [rowL_len, List.length_take, List.length_drop] at hxl
    generalize blockF key (count + BitVec.ofNat 32 n) nonce = bk at *
    simp -implicitDefEqProofs only [zA,reduceIte,reduceCtorEq,Nat.reduceEqDiff,Nat.reduceAdd,Nat.reduceMul,Nat.reduceLT,Nat.reduceSub,Int.reduceLT,Int.reduceLE,Int.reduceEq,Int.reduceNe,Int.reduceSub,Int.reduceAdd,Int.reduceMul,Int.reduceBEq,Int.reduceBNe,Int.reduceGT,Int.reduceGE,Nat.reduceGT,Int.reduceToNat,Int.reduceNeg,Nat.reduceLeDiff,Nat.reduceBEq,Nat.reduceBneDiff, s13, w3, hmn, bd, bnds_no, Nat.sub_zero, addz]
    rw [show 64 * n + mm - 64 * n = mm by omega]
    have lp : ((l.drop (64 * n)).take mm).length = mm := by simp; omega
    have lr := rowL_len bk 64
    refine (octet_Xor_c E _ ((l.drop (64 * n)).take mm) (rowL bk 64) (by omega) (by unfold SlB; rw [lp]; unfold SlB at sp; rw [lp] at sp; exact sp) (by unfold SlB at s64; rw [lr] at s64; unfold SlB; rw [lr]; exact s64)).mono ?_
    rintro r H4 ⟨le4, ow4⟩
    have le24 := Heap.le_trans le3 le4
    have le04 := Heap.le_trans le' le24
    simp -implicitDefEqProofs only [zA,reduceIte,reduceCtorEq,Nat.reduceEqDiff,Nat.reduceAdd,Nat.reduceMul,Nat.reduceLT,Nat.reduceSub,Int.reduceLT,Int.reduceLE,Int.reduceEq,Int.reduceNe,Int.reduceSub,Int.reduceAdd,Int.reduceMul,Int.reduceBEq,Int.reduceBNe,Int.reduceGT,Int.reduceGE,Nat.reduceGT,Int.reduceToNat,Int.reduceNeg,Nat.reduceLeDiff,Nat.reduceBEq,Nat.reduceBneDiff, List.mem_cons, List.not_mem_nil, or_false, forall_eq, implies_true]
    refine appendP_ow (bytes := 1) le04 (by omega) (ow.le le24) ow4.sl (one_u8 _) (by rw [hxl, List.length_take, hlen]; omega) (by rw [hxl, List.length_take, hlen]; omega) ?_
    intro v5 H5 ow5 le5
    simp -implicitDefEqProofs only [zA,reduceIte,reduceCtorEq,Nat.reduceEqDiff,Nat.reduceAdd,Nat.reduceMul,Nat.reduceLT,Nat.reduceSub,Int.reduceLT,Int.reduceLE,Int.reduceEq,Int.reduceNe,Int.reduceSub,Int.reduceAdd,Int.reduceMul,Int.reduceBEq,Int.reduceBNe,Int.reduceGT,Int.reduceGE,Nat.reduceGT,Int.reduceToNat,Int.reduceNeg,Nat.reduceLeDiff,Nat.reduceBEq,Nat.reduceBneDiff, w3]
    refine ⟨_, by omega, le5, n + 1, v5, rfl, by omega, rfl, ?_⟩
    rw [hst]
    unfold OwB
    rw [List.length_append, List.map_append]
    exact ow5
  · have e1 : ¬ ((64 * n : Nat) : Int) < (l.length : Int) := by omega
    rw [List.take_of_length_le (by omega)] at ow
    simp -implicitDefEqProofs only [zA,reduceIte,reduceCtorEq,Nat.reduceEqDiff,Nat.reduceAdd,Nat.reduceMul,Nat.reduceLT,Nat.reduceSub,Int.reduceLT,Int.reduceLE,Int.reduceEq,Int.reduceNe,Int.reduceSub,Int.reduceAdd,Int.reduceMul,Int.reduceBEq,Int.reduceBNe,Int.reduceGT,Int.reduceGE,Nat.reduceGT,Int.reduceToNat,Int.reduceNeg,Nat.reduceLeDiff,Nat.reduceBEq,Nat.reduceBneDiff, e1]
    exact ⟨Heap.le_trans hh le', _, rfl, Ow.since hh ow⟩
theorem chacha_Xor_c (E : EnvT tab) (h : Heap) {v : Value} (key nonce l : List UInt8) (count : U32) (hk : key.length = 32) (hn : nonce.length = 12) (hl : l.length ≤ 100000000) (hc : count.toNat + (l.length + 63) / 64 ≤ 4294967296) (sl : SlB h v l) :
    ACallN E.toEnv n_chacha_Xor [.agg (key.map u8V).toArray, .int .u32 count.toNat, .agg (nonce.map u8V).toArray, v] h fun r h' => h.le h' ∧ ∃ r', r = .tuple #[r', .int .i64 0] ∧ OwB h h' r' (sxF key count nonce l) := by
  obtain ⟨base, c, rfl⟩ := Sl.shape sl
  refine acall h_chacha_Xor ir_chacha_Xor rfl rfl (wpA_sound ?_)
  unfold ir_chacha_Xor
  have hk' : (key.map u8V).length = 32 := by simp [hk]
  have hn' : (nonce.map u8V).length = 12 := by simp [hn]
  have d1 : IntKind.i64.wrap ((l.length / 64 : Nat) : Int) = ((l.length / 64 : Nat) : Int) := wrapI (by omega) (by omega)
  have d2 : IntKind.i64.wrap ((l.length % 64 : Nat) : Int) = ((l.length % 64 : Nat) : Int) := wrapI (by omega) (by omega)
  have d3 : IntKind.i64.wrap (((l.length / 64 : Nat) : Int) + 1) = ((l.length / 64 + 1 : Nat) : Int) := wrapN (by omega)
  by_cases g : (0 : Int) < ((l.length % 64 : Nat) : Int)
  · have g' : ¬ ((l.length % 64 : Nat) : Int) ≤ 0 := by omega
    simp -implicitDefEqProofs only [zA,reduceIte,reduceCtorEq,Nat.reduceEqDiff,Nat.reduceAdd,Nat.reduceMul,Nat.reduceLT,Nat.reduceSub,Int.reduceLT,Int.reduceLE,Int.reduceEq,Int.reduceNe,Int.reduceSub,Int.reduceAdd,Int.reduceMul,Int.reduceBEq,Int.reduceBNe,Int.reduceGT,Int.reduceGE,Nat.reduceGT,Int.reduceToNat,Int.reduceNeg,Nat.reduceLeDiff,Nat.reduceBEq,Nat.reduceBneDiff, hk', hn', tdiv64, tmod64, d1, d2, d3, g, g']
    intro b4 hb4 b6 hb6
    obtain ⟨n64, hb6'⟩ := Heap.set_none.1 hb6
    exact chaXor23 E [] key nonce l count hk hn hl (by omega) (by omega) sl (Heap.le_set (Heap.le_set (Heap.le_refl _) hb4 _) hb6' _) (set_keep (Heap.set_self _ _ _) (Ne.symm n64)) (Heap.set_self _ _ _)
  · have g' : ((l.length % 64 : Nat) : Int) ≤ 0 := by omega
    simp -implicitDefEqProofs only [zA,reduceIte,reduceCtorEq,Nat.reduceEqDiff,Nat.reduceAdd,Nat.reduceMul,Nat.reduceLT,Nat.reduceSub,Int.reduceLT,Int.reduceLE,Int.reduceEq,Int.reduceNe,Int.reduceSub,Int.reduceAdd,Int.reduceMul,Int.reduceBEq,Int.reduceBNe,Int.reduceGT,Int.reduceGE,Nat.reduceGT,Int.reduceToNat,Int.reduceNeg,Nat.reduceLeDiff,Nat.reduceBEq,Nat.reduceBneDiff, hk', hn', tdiv64, tmod64, d1, d2, d3, g, g']
    intro b4 hb4 b6 hb6
    obtain ⟨n64, hb6'⟩ := Heap.set_none.1 hb6
    exact chaXor23 E [(20, .bool false)] key nonce l count hk hn hl (by omega) (by omega) sl (Heap.le_set (Heap.le_set (Heap.le_refl _) hb4 _) hb6' _) (set_keep (Heap.set_self _ _ _) (Ne.symm n64)) (Heap.set_self _ _ _)
end Go.Bb
/- The program's tag is the document's: plain laws of numbers. -/
namespace Go.Bb
set_option linter.unusedSimpArgs false
set_option linter.unusedVariables false
set_option maxRecDepth 20000

theorem N3.val_eq (x : N3) : x.val = x.a + 18446744073709551616 * x.b + 340282366920938463463374607431768211456 * x.c := rfl
theorem N3.plus_lt {x y : N3} (h : x.val + y.val < 6277101735386680763835789423207666416102355444464034512896) : (x.plus y).val = x.val + y.val := by
  rw [N3.plus_val, Nat.mod_eq_of_lt h]
theorem pair_val (p : Nat) : (⟨p % 18446744073709551616, p / 18446744073709551616, 0⟩ : N3).val = p := by
  rw [N3.val_eq]
  show p % 18446744073709551616 + 18446744073709551616 * (p / 18446744073709551616) + 340282366920938463463374607431768211456 * 0 = p
  omega
theorem N3.col_val {s : N3} {a b : Nat} (h : s.val + a * b < 6277101735386680763835789423207666416102355444464034512896) : (s.col a b).val = s.val + a * b := by
  unfold N3.col
  rw [N3.plus_lt (by rw [pair_val]; exact h), pair_val]
theorem N3.cut_val {x : N3} (hx : x.ok) : x.cut.val = x.val % 1361129467683753853853498429727072845824 + 5 * (x.val / 1361129467683753853853498429727072845824) := by
  obtain ⟨ha, hb, hc⟩ := hx
  have e1 : (⟨x.a, x.b, x.c % 4⟩ : N3).val = x.a + 18446744073709551616 * x.b + 340282366920938463463374607431768211456 * (x.c % 4) := rfl
  have e2 := pair_val (x.c / 4 * 5)
  unfold N3.cut
  rw [N3.plus_lt (by rw [e1, e2]; omega), e1, e2, N3.val_eq]
  omega
theorem N3.carry_val {x y : N3} (h : x.val + y.val < 6277101735386680763835789423207666416102355444464034512896) : (⟨(x.plus y).b, (x.plus y).c, 0⟩ : N3).val = (x.val + y.val) / 18446744073709551616 ∧ (x.plus y).a = (x.val + y.val) % 18446744073709551616 := by
  obtain ⟨ha, hb, hc⟩ := N3.plus_ok x y
  have hv := N3.plus_lt h
  rw [N3.val_eq] at hv
  have e1 : (⟨(x.plus y).b, (x.plus y).c, 0⟩ : N3).val = (x.plus y).b + 18446744073709551616 * (x.plus y).c + 340282366920938463463374607431768211456 * 0 := rfl
  rw [e1]
  omega
theorem z3_val : z3.val = 0 := rfl
/-- Four columns, carried. -/
theorem outs (C : Nat → N3) (h0 : (C 0).val < 170141183460469231731687303715884105728) (h1 : (C 1).val < 170141183460469231731687303715884105728) (h2 : (C 2).val < 170141183460469231731687303715884105728) (h3 : (C 3).val < 9000000000000000000) :
    outW C 0 + 18446744073709551616 * outW C 1 + 340282366920938463463374607431768211456 * outW C 2 + 6277101735386680763835789423207666416102355444464034512896 * outW C 3 =
      (C 0).val + 18446744073709551616 * (C 1).val + 340282366920938463463374607431768211456 * (C 2).val + 6277101735386680763835789423207666416102355444464034512896 * (C 3).val := by
  have k0 : (carryF C 0).val = 0 := rfl
  obtain ⟨v0, w0⟩ := N3.carry_val (x := carryF C 0) (y := C 0) (by omega)
  have k1 : (carryF C 1).val = ((carryF C 0).val + (C 0).val) / 18446744073709551616 := v0
  obtain ⟨v1, w1⟩ := N3.carry_val (x := carryF C 1) (y := C 1) (by omega)
  have k2 : (carryF C 2).val = ((carryF C 1).val + (C 1).val) / 18446744073709551616 := v1
  obtain ⟨v2, w2⟩ := N3.carry_val (x := carryF C 2) (y := C 2) (by omega)
  have k3 : (carryF C 3).val = ((carryF C 2).val + (C 2).val) / 18446744073709551616 := v2
  obtain ⟨v3, w3⟩ := N3.carry_val (x := carryF C 3) (y := C 3) (by omega)
  have o0 : outW C 0 = ((carryF C 0).val + (C 0).val) % 18446744073709551616 := w0
  have o1 : outW C 1 = ((carryF C 1).val + (C 1).val) % 18446744073709551616 := w1
  have o2 : outW C 2 = ((carryF C 2).val + (C 2).val) % 18446744073709551616 := w2
  have o3 : outW C 3 = ((carryF C 3).val + (C 3).val) % 18446744073709551616 := w3
  rw [o0, o1, o2, o3]
  clear v0 v1 v2 v3 w0 w1 w2 w3 o0 o1 o2 o3
  omega
theorem adds5 {x y : N3} (h : x.val + 5 * y.val < 6277101735386680763835789423207666416102355444464034512896) : (addsF x y 5).val = x.val + 5 * y.val := by
  have a1 : (addsF x y 1).val = x.val + y.val := by rw [show addsF x y 1 = x.plus y from rfl, N3.plus_lt (by omega)]
  have a2 : (addsF x y 2).val = x.val + 2 * y.val := by rw [show addsF x y 2 = (addsF x y 1).plus y from rfl, N3.plus_lt (by omega), a1]; omega
  have a3 : (addsF x y 3).val = x.val + 3 * y.val := by rw [show addsF x y 3 = (addsF x y 2).plus y from rfl, N3.plus_lt (by omega), a2]; omega
  have a4 : (addsF x y 4).val = x.val + 4 * y.val := by rw [show addsF x y 4 = (addsF x y 3).plus y from rfl, N3.plus_lt (by omega), a3]; omega
  rw [show addsF x y 5 = (addsF x y 4).plus y from rfl, N3.plus_lt (by omega), a4]; omega
theorem mul_bound {a b A B : Nat} (ha : a ≤ A) (hb : b ≤ B) : a * b ≤ A * B := Nat.mul_le_mul ha hb
theorem N3.times_val {x : N3} {r0 r1 : Nat} (hx : x.ok) (hv : x.val < 2722258935367507707706996859454145691648) (h0 : r0 < 1152921504606846976) (h1 : r1 < 1152921504606846976) :
    (x.times r0 r1).val % PQ = x.val * (r0 + 18446744073709551616 * r1) % PQ ∧ (x.times r0 r1).val < 1361129467683753853853498429727072846000 := by
  obtain ⟨ha, hb, hc⟩ := hx
  rw [N3.val_eq] at hv
  have hc8 : x.c < 8 := by omega
  have p00 := mul_bound (show x.a ≤ 18446744073709551615 by omega) (show r0 ≤ 1152921504606846975 by omega)
  have p01 := mul_bound (show x.a ≤ 18446744073709551615 by omega) (show r1 ≤ 1152921504606846975 by omega)
  have p10 := mul_bound (show x.b ≤ 18446744073709551615 by omega) (show r0 ≤ 1152921504606846975 by omega)
  have p11 := mul_bound (show x.b ≤ 18446744073709551615 by omega) (show r1 ≤ 1152921504606846975 by omega)
  have p20 := mul_bound (show x.c ≤ 7 by omega) (show r0 ≤ 1152921504606846975 by omega)
  have p21 := mul_bound (show x.c ≤ 7 by omega) (show r1 ≤ 1152921504606846975 by omega)
  simp only [Nat.reduceMul] at p00 p01 p10 p11 p20 p21
  have c0 : (colsF x r0 r1 0).val = x.a * r0 := by
    show (z3.col x.a r0).val = _
    rw [N3.col_val (by rw [z3_val]; omega), z3_val, Nat.zero_add]
  have c1 : (colsF x r0 r1 1).val = x.a * r1 + x.b * r0 := by
    show ((z3.col x.a r1).col x.b r0).val = _
    have e : (z3.col x.a r1).val = x.a * r1 := by rw [N3.col_val (by rw [z3_val]; omega), z3_val, Nat.zero_add]
    rw [N3.col_val (by rw [e]; omega), e]
  have c2 : (colsF x r0 r1 2).val = x.b * r1 + x.c * r0 := by
    show ((z3.col x.b r1).col x.c r0).val = _
    have e : (z3.col x.b r1).val = x.b * r1 := by rw [N3.col_val (by rw [z3_val]; omega), z3_val, Nat.zero_add]
    rw [N3.col_val (by rw [e]; omega), e]
  have c3 : (colsF x r0 r1 3).val = x.c * r1 := by
    show (z3.col x.c r1).val = _
    rw [N3.col_val (by rw [z3_val]; omega), z3_val, Nat.zero_add]
  have ho := outs (colsF x r0 r1) (by rw [c0]; omega) (by rw [c1]; omega) (by rw [c2]; omega) (by rw [c3]; omega)
  rw [c0, c1, c2, c3] at ho
  have l0 := outW_lt (colsF x r0 r1) 0
  have l1 := outW_lt (colsF x r0 r1) 1
  have l2 := outW_lt (colsF x r0 r1) 2
  have l3 := outW_lt (colsF x r0 r1) 3
  have eT : x.val * (r0 + 18446744073709551616 * r1) = x.a * r0 + 18446744073709551616 * (x.a * r1 + x.b * r0) + 340282366920938463463374607431768211456 * (x.b * r1 + x.c * r0) + 6277101735386680763835789423207666416102355444464034512896 * (x.c * r1) := by
    rw [N3.val_eq, Nat.mul_add, Nat.add_mul, Nat.add_mul, Nat.mul_left_comm _ 18446744073709551616 r1, Nat.add_mul, Nat.add_mul, Nat.mul_assoc, Nat.mul_assoc, Nat.mul_assoc, Nat.mul_assoc]
    omega
  have vl : (lowF (colsF x r0 r1)).val = outW (colsF x r0 r1) 0 + 18446744073709551616 * outW (colsF x r0 r1) 1 + 340282366920938463463374607431768211456 * (outW (colsF x r0 r1) 2 % 4) := rfl
  have vh : (highF (colsF x r0 r1)).val = outW (colsF x r0 r1) 2 / 4 + outW (colsF x r0 r1) 3 % 4 * 4611686018427387904 + 18446744073709551616 * (outW (colsF x r0 r1) 3 / 4) := by
    show outW (colsF x r0 r1) 2 / 4 + outW (colsF x r0 r1) 3 % 4 * 4611686018427387904 + 18446744073709551616 * (outW (colsF x r0 r1) 3 / 4) + 340282366920938463463374607431768211456 * 0 = _
    omega
  have h5 : (addsF (lowF (colsF x r0 r1)) (highF (colsF x r0 r1)) 5).val = (lowF (colsF x r0 r1)).val + 5 * (highF (colsF x r0 r1)).val := adds5 (by rw [vl, vh]; omega)
  have hcut := N3.cut_val (x := addsF (lowF (colsF x r0 r1)) (highF (colsF x r0 r1)) 5) (addsF_ok (lowF_ok _) 5)
  rw [eT, ← ho]
  show (addsF (lowF (colsF x r0 r1)) (highF (colsF x r0 r1)) 5).cut.val % PQ = _ ∧ (addsF (lowF (colsF x r0 r1)) (highF (colsF x r0 r1)) 5).cut.val < _
  rw [hcut, h5, vl, vh]
  clear hcut h5 vl vh eT ho c0 c1 c2 c3 p00 p01 p10 p11 p20 p21
  generalize outW (colsF x r0 r1) 0 = o0 at *
  generalize outW (colsF x r0 r1) 1 = o1 at *
  generalize outW (colsF x r0 r1) 2 = o2 at *
  generalize outW (colsF x r0 r1) 3 = o3 at *
  unfold PQ
  constructor
  · omega
  · omega
/-- The last step. -/
theorem N3.last_val {x : N3} (hx : x.ok) (hv : x.val < 2722258935367507707706996859454145691648) : x.last.val = x.val % PQ := by
  have v1 := N3.cut_val hx
  have v2 := N3.cut_val (N3.cut_ok x)
  have e5 : (⟨5, 0, 0⟩ : N3).val = 5 := rfl
  have v3 : (x.cut.cut.plus ⟨5, 0, 0⟩).val = x.cut.cut.val + 5 := by rw [N3.plus_lt (by rw [e5]; omega), e5]
  obtain ⟨ga, gb, gc⟩ := N3.plus_ok x.cut.cut ⟨5, 0, 0⟩
  unfold N3.last
  unfold PQ
  have b1 : x.cut.val < 1361129467683753853853498429727072845829 ∧ x.cut.val % 1361129467683753853853498429727072845819 = x.val % 1361129467683753853853498429727072845819 := by omega
  have b2 : x.cut.cut.val < 1361129467683753853853498429727072845824 ∧ x.cut.cut.val % 1361129467683753853853498429727072845819 = x.cut.val % 1361129467683753853853498429727072845819 := by
    clear v1
    omega
  rw [← b1.2, ← b2.2]
  replace b2 := b2.1
  clear v1 v2 b1
  by_cases h : 3 < (x.cut.cut.plus ⟨5, 0, 0⟩).c
  · rw [if_pos h]
    have e : (⟨(x.cut.cut.plus ⟨5, 0, 0⟩).a, (x.cut.cut.plus ⟨5, 0, 0⟩).b, (x.cut.cut.plus ⟨5, 0, 0⟩).c % 4⟩ : N3).val = (x.cut.cut.plus ⟨5, 0, 0⟩).a + 18446744073709551616 * (x.cut.cut.plus ⟨5, 0, 0⟩).b + 340282366920938463463374607431768211456 * ((x.cut.cut.plus ⟨5, 0, 0⟩).c % 4) := rfl
    rw [e]
    rw [N3.val_eq (x.cut.cut.plus _)] at v3
    generalize (x.cut.cut.plus ⟨5, 0, 0⟩).a = a at *
    generalize (x.cut.cut.plus ⟨5, 0, 0⟩).b = b at *
    generalize (x.cut.cut.plus ⟨5, 0, 0⟩).c = c at *
    have c4 : c = 4 := by omega
    subst c4
    rw [show (4 : Nat) % 4 = 0 from rfl, Nat.mod_eq_sub_mod (by omega), Nat.mod_eq_of_lt (by omega)]
    omega
  · rw [if_neg h]
    rw [N3.val_eq (x.cut.cut.plus _)] at v3
    generalize (x.cut.cut.plus ⟨5, 0, 0⟩).a = a at *
    generalize (x.cut.cut.plus ⟨5, 0, 0⟩).b = b at *
    generalize (x.cut.cut.plus ⟨5, 0, 0⟩).c = c at *
    omega
end Go.Bb
/- The program's tag is the document's. -/
namespace Go.Bb
set_option linter.unusedSimpArgs false
set_option linter.unusedVariables false
set_option maxRecDepth 20000

theorem keyR_15 (w : List UInt8) (k : Nat) (h : k = 7 ∨ k = 15) : (keyR w k).toNat ≤ 15 := by
  have e : keyR w k = (w.getD k 0) &&& 15 := by
    unfold keyR clampG clB clA
    rw [if_neg (by omega), if_pos (by omega)]
  rw [e, UInt8.toNat_and]
  exact Nat.and_le_right
theorem leN_top (a : List UInt8) (b : UInt8) (ha : a.length = 7) (hb : b.toNat ≤ 15) : leN (a ++ [b]) < 1152921504606846976 := by
  have h1 := leN_lt a
  rw [ha] at h1
  rw [leN_append, ha]
  have e : leN [b] = b.toNat := by simp [leN]
  rw [e]
  simp only [Nat.reducePow] at h1 ⊢
  omega
theorem keyK_nat (w : List UInt8) (i : Nat) (hi : i < 2) : keyK w i = leN (((rowL (keyR w) 16).drop (8 * i)).take 8) := by
  unfold keyK
  rw [fromLittleF_nat _ (by simp; omega)]
theorem row_cut (f : Nat → UInt8) (i : Nat) (hi : i < 2) : ((rowL f 16).drop (8 * i)).take 8 = ((rowL f 16).drop (8 * i)).take 7 ++ [f (8 * i + 7)] := by
  match i, hi with
  | 0, _ => rfl
  | 1, _ => rfl
theorem keyK_lt (w : List UInt8) (i : Nat) (hi : i < 2) : keyK w i < 1152921504606846976 := by
  rw [keyK_nat w i hi, row_cut _ i hi]
  exact leN_top _ _ (by simp [rowL_len]; omega) (keyR_15 w _ (by omega))
theorem key_val (w : List UInt8) : keyK w 0 + 18446744073709551616 * keyK w 1 = leN (rowL (keyR w) 16) := by
  rw [keyK_nat w 0 (by omega), keyK_nat w 1 (by omega)]
  have e : rowL (keyR w) 16 = ((rowL (keyR w) 16).drop (8 * 0)).take 8 ++ ((rowL (keyR w) 16).drop (8 * 1)).take 8 := by
    rw [Nat.mul_zero, List.drop_zero, Nat.mul_one, List.take_of_length_le (l := (rowL (keyR w) 16).drop 8) (by simp [rowL_len]), List.take_append_drop]
  have l8 : (((rowL (keyR w) 16).drop (8 * 0)).take 8).length = 8 := by simp [rowL_len]
  conv => rhs; rw [e]
  rw [leN_append, l8]
theorem leN_zeros (n : Nat) : leN (List.replicate n 0) = 0 := leN_zero n
theorem blockN_val (l : List UInt8) : (blockN l).val = blkV (l.take 16) := by
  have ht : (l.take 16).length ≤ 16 := by simp; omega
  have key : ∀ t : List UInt8, t.length ≤ 16 → leN ((t ++ [1] ++ List.replicate (32 - t.length) 0).take 8) + 18446744073709551616 * leN (((t ++ [1] ++ List.replicate (32 - t.length) 0).drop 8).take 8) + 340282366920938463463374607431768211456 * ((t ++ [1] ++ List.replicate (32 - t.length) 0).getD 16 0).toNat = blkV t := by
    intro t h
    have hB : (t ++ [1] ++ List.replicate (32 - t.length) 0).length = 33 := by simp; omega
    have h17 : (t ++ [1] ++ List.replicate (32 - t.length) (0 : UInt8)).take 17 = t ++ [1] ++ List.replicate (16 - t.length) 0 := by
      rw [List.take_append, List.take_of_length_le (by simp; omega)]
      congr 1
      simp
      omega
    have e : (t ++ [1] ++ List.replicate (32 - t.length) (0 : UInt8)).take 17 = (t ++ [1] ++ List.replicate (32 - t.length) 0).take 8 ++ (((t ++ [1] ++ List.replicate (32 - t.length) 0).drop 8).take 8 ++ [(t ++ [1] ++ List.replicate (32 - t.length) 0).getD 16 0]) := by
      generalize t ++ [1] ++ List.replicate (32 - t.length) (0 : UInt8) = B at hB
      apply List.ext_getElem
      · simp [hB]
      · intro i h1 h2
        have hi : i < 17 := by simp at h1; omega
        rw [List.getElem_take, List.getElem_append]
        split
        · rw [List.getElem_take]
        · rename_i g1
          rw [List.getElem_append]
          split
          · rw [List.getElem_take, List.getElem_drop]
            congr 1
            simp [hB] at g1 ⊢
            omega
          · rename_i g2
            simp [hB] at g1 g2
            have : i = 16 := by omega
            subst this
            simp [List.getD_eq_getElem?_getD, hB]
    have hv : leN ((t ++ [1] ++ List.replicate (32 - t.length) (0 : UInt8)).take 17) = blkV t := by
      rw [h17, leN_append, leN_append, leN_zeros]
      unfold blkV
      simp [leN]
    rw [← hv, e, leN_append, leN_append]
    have l1 : ((t ++ [1] ++ List.replicate (32 - t.length) (0 : UInt8)).take 8).length = 8 := by simp only [List.length_take, hB]; rfl
    have l2 : (((t ++ [1] ++ List.replicate (32 - t.length) (0 : UInt8)).drop 8).take 8).length = 8 := by simp only [List.length_take, List.length_drop, hB]; rfl
    rw [l1, l2]
    have e1 : ∀ b : UInt8, leN [b] = b.toNat := fun b => by simp [leN]
    rw [e1]
    simp only [Nat.reducePow]
    omega
  have := key (l.take 16) ht
  rw [N3.val_eq]
  show (fromLittleF ((blockB l).take 8)).toNat + 18446744073709551616 * (fromLittleF (((blockB l).drop 8).take 8)).toNat + 340282366920938463463374607431768211456 * ((blockB l).getD 16 0).toNat = _
  rw [fromLittleF_nat _ (by simp; omega), fromLittleF_nat _ (by simp; omega)]
  exact this
theorem blkV_lt (l : List UInt8) (h : l.length ≤ 16) : blkV l < 680564733841876926926749214863536422913 := by
  have h1 := leN_lt l
  have h2 : 256 ^ l.length ≤ 256 ^ 16 := Nat.pow_le_pow_right (by decide) h
  unfold blkV
  simp only [Nat.reducePow] at h2
  omega
theorem times_ok (x : N3) (r0 r1 : Nat) : (x.times r0 r1).ok := N3.cut_ok _
theorem tagSum_val (k0 k1 : Nat) (h0 : k0 < 1152921504606846976) (h1 : k1 < 1152921504606846976) : ∀ (n : Nat) (l : List UInt8) (s : N3), l.length ≤ n → s.ok → s.val < 1361129467683753853853498429727072846000 →
    (tagSum k0 k1 s l).ok ∧ (tagSum k0 k1 s l).val < 1361129467683753853853498429727072846000 ∧ (tagSum k0 k1 s l).val % PQ = polyH (k0 + 18446744073709551616 * k1) (s.val % PQ) l
  | 0, l, s, hn, hs, hv => by
    have : l = [] := List.eq_nil_of_length_eq_zero (by omega)
    subst this
    rw [tagSum_done (by simp), polyH_done (by simp)]
    exact ⟨hs, hv, rfl⟩
  | n + 1, l, s, hn, hs, hv => by
    by_cases hl : 0 < l.length
    · rw [tagSum_more hl, polyH_more hl]
      have hb := blkV_lt (l.take 16) (by simp; omega)
      have hbv := blockN_val l
      have hp : (s.plus (blockN l)).val = s.val + blkV (l.take 16) := by rw [N3.plus_lt (by rw [hbv]; omega), hbv]
      obtain ⟨t1, t2⟩ := N3.times_val (x := s.plus (blockN l)) (N3.plus_ok _ _) (by rw [hp]; omega) h0 h1
      obtain ⟨i1, i2, i3⟩ := tagSum_val k0 k1 h0 h1 n (l.drop 16) ((s.plus (blockN l)).times k0 k1) (by simp; omega) (times_ok _ _ _) t2
      refine ⟨i1, i2, ?_⟩
      rw [i3, t1, hp, mod_step]
    · rw [tagSum_done hl, polyH_done hl]
      exact ⟨hs, hv, rfl⟩
theorem tagA_val (r l : List UInt8) : tagA r l = polyH (leN (rowL (keyR r) 16)) 0 l := by
  unfold tagA
  obtain ⟨i1, i2, i3⟩ := tagSum_val (keyK r 0) (keyK r 1) (keyK_lt r 0 (by omega)) (keyK_lt r 1 (by omega)) l.length l z3 (Nat.le_refl _) z3_ok (by rw [z3_val]; omega)
  rw [N3.last_val i1 (by omega), i3, z3_val, Nat.zero_mod, key_val]
theorem tag_same (w l : List UInt8) (hw : w.length = 32) : tagF w l = rowL (tagR w l) 16 := by
  have lT : (tagF w l).length = 16 := by unfold tagF; rw [List.length_append, littleF_len, littleF_len]
  apply List.ext_getElem
  · rw [lT, rowL_len]
  · intro i h1 h2
    have hi : i < 16 := by omega
    have hr : (w.take 16).length = 16 := by simp [hw]
    have hs : (w.drop 16).length = 16 := by simp [hw]
    have hb := tagF_byte (w.take 16) (w.drop 16) l hr hs i hi
    rw [List.take_append_drop, tagA_val] at hb
    have hk : leN (rowL (keyR (w.take 16)) 16) = leN (rowL (keyR w) 16) := by
      rw [← key_val, ← key_val]
      have k0 := keyK_head (w.take 16) (w.drop 16) hr 0
      have k1 := keyK_head (w.take 16) (w.drop 16) hr 1
      rw [List.take_append_drop] at k0 k1
      rw [k0, k1]
    rw [hk] at hb
    have e : (rowL (tagR w l) 16)[i]'h2 = tagR w l i := by simp [rowL]
    refine Eq.trans ?_ e.symm
    unfold tagR
    rw [← hb]
    simp [List.getD_eq_getElem?_getD, h1]
end Go.Bb
/- Rows of bytes, compared. -/
namespace Go.Bb
set_option linter.unusedSimpArgs false
set_option linter.unusedVariables false
set_option maxRecDepth 20000

end Go.Bb
/- Sealed and opened, in plain words. -/
namespace Go.Bb
set_option linter.unusedSimpArgs false
set_option linter.unusedVariables false

def fillN (n : Nat) : Nat := (16 - n % 16) % 16
def lenB (n : Nat) : List UInt8 := littleF (BitVec.ofNat 64 n) 8
def fillB (l : List UInt8) : List UInt8 := l ++ List.replicate (fillN l.length) 0
def taggedF (beside c : List UInt8) : List UInt8 := fillB beside ++ fillB c ++ (lenB beside.length ++ lenB c.length)
def akeyF (key nonce : List UInt8) : List UInt8 := rowL (blockF key 0 nonce) 32
def atagF (key nonce c beside : List UInt8) : List UInt8 := rowL (tagR (akeyF key nonce) (taggedF beside c)) 16
def sealF (key nonce plain beside : List UInt8) : List UInt8 := sxF key 1 nonce plain ++ atagF key nonce (sxF key 1 nonce plain) beside
/-- What is opened: the error, the bytes. -/
def openF (key nonce sealed beside : List UInt8) : Nat × List UInt8 :=
  if 65552 < sealed.length then (2, [])
  else if sealed.length < 16 then (8, [])
  else if atagF key nonce (sealed.take (sealed.length - 16)) beside = sealed.drop (sealed.length - 16) then (0, sxF key 1 nonce (sealed.take (sealed.length - 16)))
  else (8, [])
theorem lenB_len (n : Nat) : (lenB n).length = 8 := littleF_len _ _
theorem fillN_lt (n : Nat) : fillN n < 16 := Nat.mod_lt _ (by omega)
theorem fillB_len (l : List UInt8) : (fillB l).length = l.length + fillN l.length := by simp [fillB]
theorem akeyF_len (key nonce : List UInt8) : (akeyF key nonce).length = 32 := rowL_len _ _
theorem atagF_len (key nonce c beside : List UInt8) : (atagF key nonce c beside).length = 16 := rowL_len _ _
theorem tagged_len (beside c : List UInt8) : (taggedF beside c).length = beside.length + fillN beside.length + (c.length + fillN c.length) + 16 := by
  unfold taggedF
  simp only [List.length_append, fillB_len, lenB_len]
theorem sealF_len (key nonce plain beside : List UInt8) : (sealF key nonce plain beside).length = plain.length + 16 := by
  unfold sealF; rw [List.length_append, sxF_len, atagF_len]
/-- Twice mixed is as before. -/
theorem sxF_again (key : List UInt8) (count : U32) (nonce l : List UInt8) : sxF key count nonce (sxF key count nonce l) = l := by
  apply List.ext_getElem?
  intro k
  by_cases h : k < l.length
  · have h2 : k < (sxF key count nonce l).length := by rw [sxF_len]; exact h
    rw [sxF_get h2]
    have := sxF_get (key := key) (count := count) (nonce := nonce) h
    rw [List.getElem?_eq_getElem h2] at this
    rw [Option.some.inj this, List.getElem?_eq_getElem h, UInt8.xor_assoc, UInt8.xor_self, UInt8.xor_zero]
  · rw [List.getElem?_eq_none (by rw [sxF_len, sxF_len]; omega), List.getElem?_eq_none (by omega)]
theorem open_seal (key nonce plain beside : List UInt8) (h : plain.length ≤ 65536) : openF key nonce (sealF key nonce plain beside) beside = (0, plain) := by
  have hl := sealF_len key nonce plain beside
  have hs := sxF_len key 1 nonce plain
  unfold openF
  rw [if_neg (by omega), if_neg (by omega), hl]
  have e1 : (sealF key nonce plain beside).take (plain.length + 16 - 16) = sxF key 1 nonce plain := by
    unfold sealF
    rw [List.take_left' (by omega)]
  have e2 : (sealF key nonce plain beside).drop (plain.length + 16 - 16) = atagF key nonce (sxF key 1 nonce plain) beside := by
    unfold sealF
    rw [List.drop_left' (by omega)]
  rw [e1, e2, if_pos rfl, sxF_again]
end Go.Bb
/- Plain: numbers and texts in bytes, edits in bytes. -/
namespace Go.Bb
set_option linter.unusedSimpArgs false
set_option linter.unusedVariables false

def numF (n : Nat) : List UInt8 := if h : n < 128 then [UInt8.ofNat n] else UInt8.ofNat (n % 128 + 128) :: numF (n / 128)
termination_by n
decreasing_by omega
theorem numF_lt {n : Nat} (h : n < 128) : numF n = [UInt8.ofNat n] := by rw [numF, dif_pos h]
theorem numF_ge {n : Nat} (h : ¬ n < 128) : numF n = UInt8.ofNat (n % 128 + 128) :: numF (n / 128) := by rw [numF, dif_neg h]
theorem numF_len : ∀ k n : Nat, n < 128 ^ k → 0 < k → (numF n).length ≤ k
  | 0, _, _, h => by omega
  | k + 1, n, h, _ => by
      by_cases g : n < 128
      · rw [numF_lt g]; simp
      · rw [numF_ge g, List.length_cons]
        have h1 : n / 128 < 128 ^ k := by rw [Nat.div_lt_iff_lt_mul (by omega)]; rw [Nat.pow_succ] at h; exact h
        have h2 : 0 < k := by
          rcases Nat.eq_zero_or_pos k with e | e
          · subst e; simp at h1; omega
          · exact e
        have := numF_len k (n / 128) h1 h2
        omega
/-- A number read: so many bytes at most, from the i-th on. -/
def rdF (lim : Nat) : Nat → Nat → Nat → List UInt8 → Option (Nat × List UInt8)
  | 0, _, _, _ => none
  | _ + 1, _, _, [] => none
  | k + 1, i, v, c :: l =>
    if 128 ≤ c.toNat then rdF lim k (i + 1) (v + c.toNat % 128 * 128 ^ i) l
    else if (0 < i ∧ c.toNat = 0) ∨ lim < v + c.toNat % 128 * 128 ^ i then none
    else some (v + c.toNat % 128 * 128 ^ i, l)
theorem rdF_num (lim : Nat) (r : List UInt8) : ∀ k i v n, n < 128 ^ k → (0 < i → 0 < n) → v + n * 128 ^ i ≤ lim → 0 < k → rdF lim k i v (numF n ++ r) = some (v + n * 128 ^ i, r)
  | 0, _, _, _, _, _, _, h => by omega
  | k + 1, i, v, n, h, hi, hl, _ => by
      by_cases g : n < 128
      · rw [numF_lt g, List.singleton_append, rdF]
        have e : (UInt8.ofNat n).toNat = n := by simp; omega
        rw [e, if_neg (by omega), Nat.mod_eq_of_lt g, if_neg]
        rintro (⟨a, b⟩ | a)
        · have := hi a; omega
        · omega
      · rw [numF_ge g, List.cons_append, rdF]
        have e : (UInt8.ofNat (n % 128 + 128)).toNat = n % 128 + 128 := by simp; omega
        have h1 : n / 128 < 128 ^ k := by rw [Nat.div_lt_iff_lt_mul (by omega)]; rw [Nat.pow_succ] at h; exact h
        have h2 : 0 < k := by
          rcases Nat.eq_zero_or_pos k with e | e
          · subst e; simp at h1; omega
          · exact e
        have e2 : (n % 128 + 128) % 128 = n % 128 := by omega
        have e3 : n % 128 * 128 ^ i + n / 128 * 128 ^ (i + 1) = n * 128 ^ i := by
          rw [Nat.pow_succ, Nat.mul_comm (128 ^ i) 128, ← Nat.mul_assoc, ← Nat.add_mul]
          congr 1; omega
        rw [e, if_pos (by omega), e2, rdF_num lim r k (i + 1) _ (n / 128) h1 (fun _ => by omega) (by omega) h2]
        congr 2; omega
theorem rdF_le (lim : Nat) : ∀ k i v l n r, rdF lim k i v l = some (n, r) → n ≤ lim
  | 0, _, _, _, _, _, h => by simp [rdF] at h
  | _ + 1, _, _, [], _, _, h => by simp [rdF] at h
  | k + 1, i, v, c :: l, n, r, h => by
      rw [rdF] at h
      split at h
      · exact rdF_le lim k _ _ l n r h
      · split at h
        · cases h
        · rename_i g
          simp only [Option.some.injEq, Prod.mk.injEq] at h
          omega
theorem rdF_suf (lim : Nat) : ∀ k i v l n r, rdF lim k i v l = some (n, r) → ∃ j, j < l.length ∧ j < k ∧ r = l.drop (j + 1)
  | 0, _, _, _, _, _, h => by simp [rdF] at h
  | _ + 1, _, _, [], _, _, h => by simp [rdF] at h
  | k + 1, i, v, c :: l, n, r, h => by
      rw [rdF] at h
      split at h
      · obtain ⟨j, a, b, e⟩ := rdF_suf lim k _ _ l n r h
        exact ⟨j + 1, by simp; omega, by omega, by rw [e]; rfl⟩
      · split at h
        · cases h
        · simp only [Option.some.injEq, Prod.mk.injEq] at h
          exact ⟨0, by simp, by omega, by rw [← h.2]; rfl⟩
/-- With a lower bound: the same, or nothing. -/
theorem rdF_low {lim low : Nat} (hl : low ≤ lim) : ∀ k i v l, rdF low k i v l = match rdF lim k i v l with
    | none => none
    | some (n, r) => if n ≤ low then some (n, r) else none
  | 0, _, _, _ => by simp [rdF]
  | _ + 1, _, _, [] => by simp [rdF]
  | k + 1, i, v, c :: l => by
      rw [rdF, rdF]
      by_cases g : 128 ≤ c.toNat
      · rw [if_pos g, if_pos g]; exact rdF_low hl k _ _ l
      · rw [if_neg g, if_neg g]
        by_cases a : 0 < i ∧ c.toNat = 0
        · rw [if_pos (.inl a), if_pos (.inl a)]
        by_cases b : lim < v + c.toNat % 128 * 128 ^ i
        · rw [if_pos (show (0 < i ∧ c.toNat = 0) ∨ low < v + c.toNat % 128 * 128 ^ i from .inr (by omega)), if_pos (show (0 < i ∧ c.toNat = 0) ∨ lim < v + c.toNat % 128 * 128 ^ i from .inr b)]
        · rw [if_neg (show ¬ ((0 < i ∧ c.toNat = 0) ∨ lim < v + c.toNat % 128 * 128 ^ i) from fun x => x.elim a b)]
          simp only
          by_cases d : low < v + c.toNat % 128 * 128 ^ i
          · rw [if_pos (.inr d), if_neg (by omega)]
          · rw [if_neg (show ¬ ((0 < i ∧ c.toNat = 0) ∨ low < v + c.toNat % 128 * 128 ^ i) from fun x => x.elim a d), if_pos (by omega)]

abbrev RS := Option (List UInt8)
def numS (lim : Nat) : RS → Nat × RS
  | none => (0, none)
  | some l => match rdF lim 9 0 0 l with
    | none => (0, none)
    | some (n, r) => (n, some r)
def takeS (n : Nat) : RS → List UInt8 × RS
  | none => ([], none)
  | some l => if n ≤ l.length then (l.take n, some (l.drop n)) else ([], none)
def bytesS (lim : Nat) (s : RS) : List UInt8 × RS := takeS (numS lim s).1 (numS lim s).2
def RS.len : RS → Nat
  | none => 0
  | some l => l.length
theorem numS_le (lim : Nat) (s : RS) : (numS lim s).1 ≤ lim := by
  unfold numS
  split
  · exact Nat.zero_le _
  · split
    · exact Nat.zero_le _
    · exact rdF_le _ _ _ _ _ _ _ ‹_›
theorem numS_len (lim : Nat) (s : RS) : (numS lim s).2.len ≤ s.len := by
  unfold numS
  split
  · exact Nat.le_refl _
  · split
    · exact Nat.zero_le _
    · obtain ⟨j, a, b, e⟩ := rdF_suf _ _ _ _ _ _ _ ‹_›
      simp [RS.len, e]
theorem takeS_len (n : Nat) (s : RS) : (takeS n s).2.len ≤ s.len := by
  unfold takeS
  split
  · exact Nat.le_refl _
  · split
    · simp [RS.len]
    · exact Nat.zero_le _
theorem bytesS_len (lim : Nat) (s : RS) : (bytesS lim s).2.len ≤ s.len := Nat.le_trans (takeS_len _ _) (numS_len _ _)
theorem takeS_fst (n : Nat) (s : RS) : (takeS n s).1.length ≤ n := by
  unfold takeS
  split
  · exact Nat.zero_le _
  · split
    · simp; omega
    · exact Nat.zero_le _
theorem bytesS_fst (lim : Nat) (s : RS) : (bytesS lim s).1.length ≤ lim := Nat.le_trans (takeS_fst _ _) (numS_le _ _)
theorem numS_num {lim n : Nat} (h : n ≤ lim) (h2 : n < 9223372036854775808) (r : List UInt8) : numS lim (some (numF n ++ r)) = (n, some r) := by
  unfold numS
  simp only
  rw [rdF_num lim r 9 0 0 n (by omega) (fun h => by omega) (by omega) (by omega)]
  simp
def bytesW (x : List UInt8) : List UInt8 := numF x.length ++ x
theorem bytesS_bytes {lim : Nat} {x : List UInt8} (h : x.length ≤ lim) (h2 : x.length < 9223372036854775808) (r : List UInt8) : bytesS lim (some (bytesW x ++ r)) = (x, some r) := by
  unfold bytesS bytesW
  rw [List.append_assoc, numS_num h h2]
  simp [takeS]
theorem numS_none (lim : Nat) : numS lim none = (0, none) := rfl
theorem bytesS_none (lim : Nat) : bytesS lim none = ([], none) := rfl

/-- An edit. -/
structure Ed where
  dev : Int
  n : Int
  seen : List Int
  kind : Int
  con : List UInt8
  fld : List UInt8
  val : List UInt8
  time : Int
def ZE : Ed := ⟨0, 0, List.replicate 8 0, 0, [], [], [], 0⟩
def M40 : Nat := 1099511627776
def vecG (v : List Int) : Bool := v.all fun n => decide (0 ≤ n ∧ n ≤ 1099511627776)
def nameG (s : List UInt8) : Bool := (s.all fun c => decide (33 ≤ c.toNat ∧ c.toNat ≤ 126)) && decide (1 ≤ s.length ∧ s.length ≤ 40)
def goodE (e : Ed) : Bool :=
  decide (0 ≤ e.dev ∧ e.dev < 8) && decide (1 ≤ e.n ∧ e.n ≤ 1099511627776) && vecG e.seen && decide (e.seen[e.dev.toNat]? = some (e.n - 1)) &&
  decide (0 ≤ e.time ∧ e.time ≤ 1099511627776) && nameG e.con &&
  (decide (e.kind = 1) && (nameG e.fld && decide (e.val.length ≤ 200)) || decide (e.kind = 2) && (decide (e.fld = []) && decide (e.val = [])))
def numsW (v : List Int) : List UInt8 := v.flatMap fun n => numF n.toNat
def putE (e : Ed) : List UInt8 :=
  numF e.dev.toNat ++ numF e.n.toNat ++ numsW e.seen ++ numF e.kind.toNat ++ numF e.time.toNat ++ bytesW e.con ++ bytesW e.fld ++ bytesW e.val
def numsS (lim : Nat) : Nat → RS → List Int × RS
  | 0, s => ([], s)
  | k + 1, s => (((numS lim s).1 : Int) :: (numsS lim k (numS lim s).2).1, (numsS lim k (numS lim s).2).2)
def vecS (s : RS) : List Int × RS := (if (numsS M40 8 s).2.isSome then (numsS M40 8 s).1 else List.replicate 8 0, (numsS M40 8 s).2)
theorem numsS_fst (lim : Nat) : ∀ k s, (numsS lim k s).1.length = k
  | 0, _ => rfl
  | k + 1, s => by simp [numsS, numsS_fst lim k]
theorem vecS_fst (s : RS) : (vecS s).1.length = 8 := by
  unfold vecS; split <;> simp [numsS_fst]
theorem numsS_len (lim : Nat) : ∀ k s, (numsS lim k s).2.len ≤ s.len
  | 0, _ => Nat.le_refl _
  | k + 1, s => Nat.le_trans (numsS_len lim k _) (numS_len lim s)
theorem vecS_len (s : RS) : (vecS s).2.len ≤ s.len := numsS_len _ _ _
/-- The edit that stands in bytes, as it is read; what is left. -/
def rdE (dl : Nat) (s : RS) : Ed × RS :=
  let a := numS dl s
  let b := numS M40 a.2
  let c := vecS b.2
  let d := numS 2 c.2
  let t := numS M40 d.2
  let f := bytesS 40 t.2
  let g := bytesS 40 f.2
  let h := bytesS 200 g.2
  (⟨a.1, b.1, c.1, d.1, f.1, g.1, h.1, t.1⟩, h.2)
def getE (dl : Nat) (l : List UInt8) : Option Ed := if (rdE dl (some l)).2 = some [] ∧ goodE (rdE dl (some l)).1 = true then some (rdE dl (some l)).1 else none
theorem numsS_nums (lim : Nat) (hl : lim < 9223372036854775808) (r : List UInt8) : ∀ v : List Int, (∀ n ∈ v, 0 ≤ n ∧ n ≤ lim) → numsS lim v.length (some (numsW v ++ r)) = (v, some r)
  | [], _ => rfl
  | n :: v, h => by
      have h0 := h n (by simp)
      have e : numsW (n :: v) ++ r = numF n.toNat ++ (numsW v ++ r) := by simp [numsW]
      rw [List.length_cons, numsS, e, numS_num (by omega) (by omega)]
      simp only
      rw [numsS_nums lim hl r v fun m hm => h m (by simp [hm])]
      simp only [Prod.mk.injEq, List.cons.injEq, and_true]
      omega
structure GoodE (e : Ed) : Prop where
  dev : 0 ≤ e.dev ∧ e.dev < 8
  n : 1 ≤ e.n ∧ e.n ≤ 1099511627776
  seen : ∀ n ∈ e.seen, 0 ≤ n ∧ n ≤ 1099511627776
  last : e.seen[e.dev.toNat]? = some (e.n - 1)
  time : 0 ≤ e.time ∧ e.time ≤ 1099511627776
  con : e.con.length ≤ 40
  fld : e.fld.length ≤ 40
  val : e.val.length ≤ 200
  kind : e.kind = 1 ∨ e.kind = 2
theorem goodE_iff {e : Ed} (h : goodE e = true) : GoodE e := by
  simp only [goodE, Bool.and_eq_true, Bool.or_eq_true, decide_eq_true_eq, vecG, List.all_eq_true, nameG] at h
  obtain ⟨⟨⟨⟨⟨⟨h1, h2⟩, h3⟩, h4⟩, h5⟩, h6⟩, h7⟩ := h
  refine ⟨h1, h2, h3, h4, h5, h6.2.2, ?_, ?_, ?_⟩
  · rcases h7 with h7 | h7
    · exact h7.2.1.2.2
    · rw [h7.2.1]; simp
  · rcases h7 with h7 | h7
    · exact h7.2.2
    · rw [h7.2.2]; simp
  · rcases h7 with h7 | h7
    · exact .inl h7.1
    · exact .inr h7.1
theorem rd_put (dl : Nat) (hd : 7 ≤ dl) {e : Ed} (h : goodE e = true) (h8 : e.seen.length = 8) : rdE dl (some (putE e)) = (e, some []) := by
  have g := goodE_iff h
  obtain ⟨dev, n, seen, kind, con, fld, val, time⟩ := e
  obtain ⟨g1, g2, g3, g4, g5, g6, g7, g8, g9⟩ := g
  simp only at *
  unfold putE rdE
  simp only [List.append_assoc]
  rw [numS_num (by omega) (by omega)]
  simp only
  rw [numS_num (by unfold M40; omega) (by omega)]
  simp only
  have hv := numsS_nums M40 (by unfold M40; omega) (numF kind.toNat ++ (numF time.toNat ++ (bytesW con ++ (bytesW fld ++ bytesW val)))) seen (by unfold M40; exact g3)
  rw [h8] at hv
  unfold vecS
  rw [hv]
  simp only [Option.isSome_some, if_true]
  rw [numS_num (by omega) (by omega)]
  simp only
  rw [numS_num (by unfold M40; omega) (by omega)]
  simp only
  rw [bytesS_bytes g6 (by omega)]
  simp only
  rw [bytesS_bytes g7 (by omega)]
  simp only
  have := bytesS_bytes g8 (by omega) []
  rw [List.append_nil] at this
  rw [this]
  simp only [Prod.mk.injEq, Ed.mk.injEq, and_true, true_and]
  omega
theorem get_put (dl : Nat) (hd : 7 ≤ dl) {e : Ed} (h : goodE e = true) (h8 : e.seen.length = 8) : getE dl (putE e) = some e := by
  unfold getE
  rw [rd_put dl hd h h8, if_pos ⟨rfl, h⟩]
/-- The two bounds of a device's number tell the same. -/
theorem getE_8 (l : List UInt8) : getE 8 l = getE 7 l := by
  have hl := rdF_low (lim := 8) (low := 7) (by omega) 9 0 0 l
  cases hr : rdF 8 9 0 0 l with
  | none =>
    rw [hr] at hl
    have a : numS 8 (some l) = (0, none) := by simp [numS, hr]
    have b : numS 7 (some l) = (0, none) := by simp [numS, hl]
    unfold getE rdE
    rw [a, b]
  | some x =>
    obtain ⟨n, r⟩ := x
    rw [hr] at hl
    simp only at hl
    by_cases h : n ≤ 7
    · rw [if_pos h] at hl
      have a : numS 8 (some l) = (n, some r) := by simp [numS, hr]
      have b : numS 7 (some l) = (n, some r) := by simp [numS, hl]
      unfold getE rdE
      rw [a, b]
    · rw [if_neg h] at hl
      have b : numS 7 (some l) = (0, none) := by simp [numS, hl]
      have a : numS 8 (some l) = (n, some r) := by simp [numS, hr]
      have e1 : getE 7 l = none := by
        unfold getE rdE
        rw [b]
        rw [if_neg]
        rintro ⟨x, -⟩
        exact absurd x (by simp [numS_none, bytesS_none, vecS, numsS])
      have e2 : getE 8 l = none := by
        unfold getE
        rw [if_neg]
        rintro ⟨-, x⟩
        have := (goodE_iff x).dev.2
        unfold rdE at this
        rw [a] at this
        simp only at this
        omega
      rw [e1, e2]
theorem bytesW_len {x : List UInt8} (k : Nat) (h : x.length < 128 ^ k) (hk : 0 < k) : (bytesW x).length ≤ k + x.length := by
  unfold bytesW
  have := numF_len k _ h hk
  simp; omega
theorem numsW_len : ∀ v : List Int, (∀ n ∈ v, 0 ≤ n ∧ n ≤ 1099511627776) → (numsW v).length ≤ 9 * v.length
  | [], _ => by simp [numsW]
  | n :: v, h => by
      have h0 := h n (by simp)
      have := numsW_len v fun m hm => h m (by simp [hm])
      have h1 := numF_len 9 n.toNat (by omega) (by omega)
      have e : numsW (n :: v) = numF n.toNat ++ numsW v := rfl
      rw [e, List.length_append, List.length_cons]
      omega
theorem putE_len {e : Ed} (h : goodE e = true) (h8 : e.seen.length = 8) : (putE e).length ≤ 500 := by
  have g := goodE_iff h
  obtain ⟨dev, n, seen, kind, con, fld, val, time⟩ := e
  obtain ⟨g1, g2, g3, g4, g5, g6, g7, g8, g9⟩ := g
  simp only at *
  unfold putE
  simp only [List.length_append]
  have a1 := numF_len 9 dev.toNat (by omega) (by omega)
  have a2 := numF_len 9 n.toNat (by omega) (by omega)
  have a3 := numsW_len seen g3
  have a4 := numF_len 9 kind.toNat (by omega) (by omega)
  have a5 := numF_len 9 time.toNat (by omega) (by omega)
  have a6 := bytesW_len (x := con) 9 (by omega) (by omega)
  have a7 := bytesW_len (x := fld) 9 (by omega) (by omega)
  have a8 := bytesW_len (x := val) 9 (by omega) (by omega)
  omega
end Go.Bb
/- Contracts: nonces. -/
namespace Go.Bb
set_option linter.unusedSimpArgs false
set_option linter.unusedVariables false
set_option maxRecDepth 20000
set_option maxHeartbeats 2000000

def nonceF (dev n : Nat) : List UInt8 := bigF (BitVec.ofNat 64 dev) 4 ++ bigF (BitVec.ofNat 64 n) 8
theorem nonceF_len (dev n : Nat) : (nonceF dev n).length = 12 := by simp [nonceF, bigF_len]
theorem wrap_u64N (n : Nat) (h : n < 18446744073709551616) : IntKind.u64.wrap (n : Int) = ((BitVec.ofNat 64 n).toNat : Int) := by
  rw [BitVec.toNat_ofNat, Nat.mod_eq_of_lt h]
  simp [IntKind.wrap, IntKind.bits, IntKind.signed]; omega

theorem vec_Dev_c (E : EnvT tab) (h : Heap) (n : Int) : ACallN E.toEnv n_vec_Dev [.int .i64 n] h fun r h' => h' = h ∧ r = .bool (decide (0 ≤ n ∧ n < 8)) := by
  refine acall h_vec_Dev ir_vec_Dev rfl rfl (wpA_sound ?_)
  unfold ir_vec_Dev
  by_cases g0 : 0 ≤ n
  · by_cases g1 : n < 8
    · simp -implicitDefEqProofs only [zA,reduceIte,reduceCtorEq,Nat.reduceEqDiff,Nat.reduceAdd,Nat.reduceMul,Nat.reduceLT,Nat.reduceSub,Int.reduceLT,Int.reduceLE,Int.reduceEq,Int.reduceNe,Int.reduceSub,Int.reduceAdd,Int.reduceMul,Int.reduceBEq,Int.reduceBNe,Int.reduceGT,Int.reduceGE,Nat.reduceGT,Int.reduceToNat,Int.reduceNeg,Nat.reduceLeDiff,Nat.reduceBEq,Nat.reduceBneDiff, g0, g1]
    · simp -implicitDefEqProofs only [zA,reduceIte,reduceCtorEq,Nat.reduceEqDiff,Nat.reduceAdd,Nat.reduceMul,Nat.reduceLT,Nat.reduceSub,Int.reduceLT,Int.reduceLE,Int.reduceEq,Int.reduceNe,Int.reduceSub,Int.reduceAdd,Int.reduceMul,Int.reduceBEq,Int.reduceBNe,Int.reduceGT,Int.reduceGE,Nat.reduceGT,Int.reduceToNat,Int.reduceNeg,Nat.reduceLeDiff,Nat.reduceBEq,Nat.reduceBneDiff, g0, g1]
  · simp -implicitDefEqProofs only [zA,reduceIte,reduceCtorEq,Nat.reduceEqDiff,Nat.reduceAdd,Nat.reduceMul,Nat.reduceLT,Nat.reduceSub,Int.reduceLT,Int.reduceLE,Int.reduceEq,Int.reduceNe,Int.reduceSub,Int.reduceAdd,Int.reduceMul,Int.reduceBEq,Int.reduceBNe,Int.reduceGT,Int.reduceGE,Nat.reduceGT,Int.reduceToNat,Int.reduceNeg,Nat.reduceLeDiff,Nat.reduceBEq,Nat.reduceBneDiff, g0, false_and]
theorem epoch_Nonce_c (E : EnvT tab) (h : Heap) (dev n : Nat) (hd : dev < 9223372036854775808) (hn : n < 9223372036854775808) :
    ACallN E.toEnv n_epoch_Nonce [.int .i64 dev, .int .i64 n] h fun r h' => h.le h' ∧ r = .agg ((nonceF dev n).map u8V).toArray := by
  refine acall h_epoch_Nonce ir_epoch_Nonce rfl rfl (wpA_sound ?_)
  unfold ir_epoch_Nonce
  have w1 := wrap_u64N dev (by omega)
  have w2 := wrap_u64N n (by omega)
  simp -implicitDefEqProofs only [zA,reduceIte,reduceCtorEq,Nat.reduceEqDiff,Nat.reduceAdd,Nat.reduceMul,Nat.reduceLT,Nat.reduceSub,Int.reduceLT,Int.reduceLE,Int.reduceEq,Int.reduceNe,Int.reduceSub,Int.reduceAdd,Int.reduceMul,Int.reduceBEq,Int.reduceBNe,Int.reduceGT,Int.reduceGE,Nat.reduceGT,Int.reduceToNat,Int.reduceNeg,Nat.reduceLeDiff,Nat.reduceBEq,Nat.reduceBneDiff]
  intro b4 hb4
  rw [List.length_replicate]
  have le1 : h.le (h.set b4 (.own 0 (List.replicate 12 (.int .u8 0)) 12)) := Heap.le_set (Heap.le_refl _) hb4 _
  have q4 : (h.set b4 (.own 0 (List.replicate 12 (.int .u8 0)) 12)) b4 = some (.own 0 (List.replicate 12 (.int .u8 0)) 12) := Heap.set_self _ _ _
  generalize (h.set b4 (.own 0 (List.replicate 12 (.int .u8 0)) 12)) = h1 at le1 q4
  simp -implicitDefEqProofs only [zA,reduceIte,reduceCtorEq,Nat.reduceEqDiff,Nat.reduceAdd,Nat.reduceMul,Nat.reduceLT,Nat.reduceSub,Int.reduceLT,Int.reduceLE,Int.reduceEq,Int.reduceNe,Int.reduceSub,Int.reduceAdd,Int.reduceMul,Int.reduceBEq,Int.reduceBNe,Int.reduceGT,Int.reduceGE,Nat.reduceGT,Int.reduceToNat,Int.reduceNeg,Nat.reduceLeDiff,Nat.reduceBEq,Nat.reduceBneDiff, w1]
  refine (octet_Big_c E h1 [] (by simp) (.inl ⟨rfl, rfl, rfl⟩) (BitVec.ofNat 64 dev) 4 (by omega)).mono ?_
  rintro r h2 ⟨le2, ow2⟩
  rw [List.nil_append] at ow2
  simp -implicitDefEqProofs only [zA,reduceIte,reduceCtorEq,Nat.reduceEqDiff,Nat.reduceAdd,Nat.reduceMul,Nat.reduceLT,Nat.reduceSub,Int.reduceLT,Int.reduceLE,Int.reduceEq,Int.reduceNe,Int.reduceSub,Int.reduceAdd,Int.reduceMul,Int.reduceBEq,Int.reduceBNe,Int.reduceGT,Int.reduceGE,Nat.reduceGT,Int.reduceToNat,Int.reduceNeg,Nat.reduceLeDiff,Nat.reduceBEq,Nat.reduceBneDiff, w2]
  refine (octet_Big_c E h2 (bigF (BitVec.ofNat 64 dev) 4) (by rw [bigF_len]; omega) ow2.sl (BitVec.ofNat 64 n) 8 (by omega)).mono ?_
  rintro r h3 ⟨le3, ow3⟩
  have ex := nonceF_len dev n
  change OwB h2 h3 r (nonceF dev n) at ow3
  generalize nonceF dev n = X at *
  obtain ⟨b, o, c', rfl, hc, hcl⟩ := ow3.sl.ptr (by omega) (by omega)
  rw [ex, Nat.mul_one] at hcl
  have q5 := le3 _ _ (le2 _ _ q4)
  have e1 : ¬ (X.length < 12) := by omega
  have st : storeV h3 12 (.pointer (some ⟨b4, 0, none⟩)) (.agg (X.map u8V).toArray) = some (h3.set b4 (.own 0 (X.map u8V) 12)) := storeV_agg_at q5 (by omega) (by simp [ex]) (one_u8 _) (by simp) (by omega)
  have hl2 : hcells (h3.set b4 (.own 0 (X.map u8V) 12)) ⟨b4, 0, none⟩ 12 = some (X.map u8V) := z6x (by simp [ex])
  simp -implicitDefEqProofs only [zA,reduceIte,reduceCtorEq,Nat.reduceEqDiff,Nat.reduceAdd,Nat.reduceMul,Nat.reduceLT,Nat.reduceSub,Int.reduceLT,Int.reduceLE,Int.reduceEq,Int.reduceNe,Int.reduceSub,Int.reduceAdd,Int.reduceMul,Int.reduceBEq,Int.reduceBNe,Int.reduceGT,Int.reduceGE,Nat.reduceGT,Int.reduceToNat,Int.reduceNeg,Nat.reduceLeDiff,Nat.reduceBEq,Nat.reduceBneDiff, e1, hcl, st, hl2]
  exact Heap.le_set (Heap.le_trans le1 (Heap.le_trans le2 le3)) hb4 _

end Go.Bb
/- Contracts of the package pad. -/
namespace Go.Bb
set_option linter.unusedSimpArgs false
set_option linter.unusedVariables false

theorem w64 {n : Int} (h0 : -9223372036854775808 ≤ n) (h1 : n ≤ 9223372036854775807) : IntKind.i64.wrap n = n := by
  simp [IntKind.wrap, IntKind.bits, IntKind.signed]; omega

/-- The least bucket above n. -/
def bk (n : Int) : Int :=
  if n < 64 then 64 else if n < 128 then 128 else if n < 256 then 256 else if n < 512 then 512 else if n < 1024 then 1024 else if n < 2048 then 2048
  else if n < 4096 then 4096 else if n < 8192 then 8192 else if n < 16384 then 16384 else if n < 32768 then 32768 else 65536

def bkA (n : Int) : Int × Int := if n < 0 then (0, 1) else if 65536 ≤ n then (0, 2) else (bk n, 0)

theorem bk_of {n x : Int} {k : Nat} (hk : k ≤ 10) (hx : x = 64 * 2 ^ k) (hlow : k = 0 ∨ 32 * 2 ^ k < n + 1) (hge : n + 1 ≤ x) : bk n = x := by
  have hc : k = 0 ∨ k = 1 ∨ k = 2 ∨ k = 3 ∨ k = 4 ∨ k = 5 ∨ k = 6 ∨ k = 7 ∨ k = 8 ∨ k = 9 ∨ k = 10 := by omega
  unfold bk
  rcases hc with rfl | rfl | rfl | rfl | rfl | rfl | rfl | rfl | rfl | rfl | rfl <;> simp only [Int.reducePow, Int.reduceMul] at hx hlow <;>
    (repeat (first | rw [if_pos (by omega)] | rw [if_neg (by omega)])) <;> omega

theorem pad_Bucket_c (E : EnvT tab) (h : Heap) (n : Int) : ACallN E.toEnv n_pad_Bucket [.int .i64 n] h fun v h' => h' = h ∧ v = .tuple #[.int .i64 (bkA n).1, .int .i64 (bkA n).2] := by
  refine acall h_pad_Bucket ir_pad_Bucket rfl rfl (wpA_sound ?_)
  unfold ir_pad_Bucket
  simp -implicitDefEqProofs only [zA,reduceIte,reduceCtorEq,Nat.reduceEqDiff,Nat.reduceAdd,Nat.reduceMul,Nat.reduceLT,Nat.reduceSub,Int.reduceLT,Int.reduceLE,Int.reduceEq,Int.reduceNe,Int.reduceSub,Int.reduceAdd,Int.reduceMul,Int.reduceBEq,Int.reduceBNe,Int.reduceGT,Int.reduceGE,Nat.reduceGT,Int.reduceToNat,Int.reduceNeg,Nat.reduceLeDiff,Nat.reduceBEq,Nat.reduceBneDiff]
  refine ⟨fun h1 => ?_, fun h0 => ?_⟩
  · simp -implicitDefEqProofs only [zA,reduceIte,reduceCtorEq,Nat.reduceEqDiff,Nat.reduceAdd,Nat.reduceMul,Nat.reduceLT,Nat.reduceSub,Int.reduceLT,Int.reduceLE,Int.reduceEq,Int.reduceNe,Int.reduceSub,Int.reduceAdd,Int.reduceMul,Int.reduceBEq,Int.reduceBNe,Int.reduceGT,Int.reduceGE,Nat.reduceGT,Int.reduceToNat,Int.reduceNeg,Nat.reduceLeDiff,Nat.reduceBEq,Nat.reduceBneDiff]
    simp [bkA, h1]
  simp -implicitDefEqProofs only [zA,reduceIte,reduceCtorEq,Nat.reduceEqDiff,Nat.reduceAdd,Nat.reduceMul,Nat.reduceLT,Nat.reduceSub,Int.reduceLT,Int.reduceLE,Int.reduceEq,Int.reduceNe,Int.reduceSub,Int.reduceAdd,Int.reduceMul,Int.reduceBEq,Int.reduceBNe,Int.reduceGT,Int.reduceGE,Nat.reduceGT,Int.reduceToNat,Int.reduceNeg,Nat.reduceLeDiff,Nat.reduceBEq,Nat.reduceBneDiff]
  refine ⟨fun h1 => ?_, fun h1 => ?_⟩
  · have : ¬ n < 0 := by omega
    simp -implicitDefEqProofs only [zA,reduceIte,reduceCtorEq,Nat.reduceEqDiff,Nat.reduceAdd,Nat.reduceMul,Nat.reduceLT,Nat.reduceSub,Int.reduceLT,Int.reduceLE,Int.reduceEq,Int.reduceNe,Int.reduceSub,Int.reduceAdd,Int.reduceMul,Int.reduceBEq,Int.reduceBNe,Int.reduceGT,Int.reduceGE,Nat.reduceGT,Int.reduceToNat,Int.reduceNeg,Nat.reduceLeDiff,Nat.reduceBEq,Nat.reduceBneDiff]
    simp [bkA, this, h1]
  · simp -implicitDefEqProofs only [zA,reduceIte,reduceCtorEq,Nat.reduceEqDiff,Nat.reduceAdd,Nat.reduceMul,Nat.reduceLT,Nat.reduceSub,Int.reduceLT,Int.reduceLE,Int.reduceEq,Int.reduceNe,Int.reduceSub,Int.reduceAdd,Int.reduceMul,Int.reduceBEq,Int.reduceBNe,Int.reduceGT,Int.reduceGE,Nat.reduceGT,Int.reduceToNat,Int.reduceNeg,Nat.reduceLeDiff,Nat.reduceBEq,Nat.reduceBneDiff]
    refine wp_loop' (fun m t h' => h' = h ∧ ∃ (k : Nat) (x : Int), t = tl [(0, .int .i64 n), (4, .int .i64 x)] ∧ k ≤ 10 ∧ m = 10 - k ∧ x = 64 * 2 ^ k ∧ (k = 0 ∨ 32 * 2 ^ k < n + 1)) 10 ⟨rfl, 0, 64, rfl, by omega, rfl, rfl, .inl rfl⟩ ?_
    rintro m t h' ⟨rfl, k, x, rfl, hk, rfl, hx, hlow⟩
    simp -implicitDefEqProofs only [zA,reduceIte,reduceCtorEq,Nat.reduceEqDiff,Nat.reduceAdd,Nat.reduceMul,Nat.reduceLT,Nat.reduceSub,Int.reduceLT,Int.reduceLE,Int.reduceEq,Int.reduceNe,Int.reduceSub,Int.reduceAdd,Int.reduceMul,Int.reduceBEq,Int.reduceBNe,Int.reduceGT,Int.reduceGE,Nat.reduceGT,Int.reduceToNat,Int.reduceNeg,Nat.reduceLeDiff,Nat.reduceBEq,Nat.reduceBneDiff, w64 (n := n + 1) (by omega) (by omega)]
    refine ⟨fun hlt => ?_, fun hge => ?_⟩
    · simp -implicitDefEqProofs only [zA,reduceIte,reduceCtorEq,Nat.reduceEqDiff,Nat.reduceAdd,Nat.reduceMul,Nat.reduceLT,Nat.reduceSub,Int.reduceLT,Int.reduceLE,Int.reduceEq,Int.reduceNe,Int.reduceSub,Int.reduceAdd,Int.reduceMul,Int.reduceBEq,Int.reduceBNe,Int.reduceGT,Int.reduceGE,Nat.reduceGT,Int.reduceToNat,Int.reduceNeg,Nat.reduceLeDiff,Nat.reduceBEq,Nat.reduceBneDiff]
      have hk10 : k < 10 := by
        rcases Nat.lt_or_ge k 10 with g | g
        · exact g
        · have : k = 10 := by omega
          subst this
          have h2 : x = 65536 := by rw [hx]; decide
          omega
      refine ⟨10 - (k + 1), by omega, k + 1, IntKind.i64.wrap (x * 2), rfl, by omega, rfl, ?_, ?_⟩
      · have : (2 : Int) ^ k ≤ 512 := by
          have hk2 : 2 ^ k ≤ 2 ^ 9 := Nat.pow_le_pow_right (by omega) (by omega)
          have e : ((2 ^ k : Nat) : Int) = (2 : Int) ^ k := by simp
          omega
        have hp : (0 : Int) < 2 ^ k := Int.pow_pos (by omega)
        rw [w64 (by omega) (by omega), hx, Int.pow_succ]; omega
      · right; rw [Int.pow_succ]; omega
    · simp -implicitDefEqProofs only [zA,reduceIte,reduceCtorEq,Nat.reduceEqDiff,Nat.reduceAdd,Nat.reduceMul,Nat.reduceLT,Nat.reduceSub,Int.reduceLT,Int.reduceLE,Int.reduceEq,Int.reduceNe,Int.reduceSub,Int.reduceAdd,Int.reduceMul,Int.reduceBEq,Int.reduceBNe,Int.reduceGT,Int.reduceGE,Nat.reduceGT,Int.reduceToNat,Int.reduceNeg,Nat.reduceLeDiff,Nat.reduceBEq,Nat.reduceBneDiff]
      have h2 : ¬ n < 0 := by omega
      have h3 : ¬ 65536 ≤ n := by omega
      simp only [bkA, h2, h3, if_false, bk_of hk hx hlow hge, and_self]
end Go.Bb
/- Buckets: the plain laws. -/
namespace Go.Bb
set_option linter.unusedSimpArgs false
set_option linter.unusedVariables false

theorem bk_pow (n : Int) (h0 : 0 ≤ n) (h1 : n ≤ 65535) : ∃ k : Nat, k ≤ 10 ∧ bk n = 64 * 2 ^ k ∧ n < bk n ∧ (k = 0 ∨ 32 * 2 ^ k ≤ n) := by
  unfold bk
  by_cases c0 : n < 64
  · exact ⟨0, by omega, by rw [if_pos c0]; rfl, by rw [if_pos c0]; omega, .inl rfl⟩
  by_cases c1 : n < 128
  · exact ⟨1, by omega, by simp only [c0, c1, if_true, if_false]; rfl, by simp only [c0, c1, if_true, if_false], .inr (by simp only [Int.reducePow, Int.reduceMul]; omega)⟩
  by_cases c2 : n < 256
  · exact ⟨2, by omega, by simp only [c0, c1, c2, if_true, if_false]; rfl, by simp only [c0, c1, c2, if_true, if_false], .inr (by simp only [Int.reducePow, Int.reduceMul]; omega)⟩
  by_cases c3 : n < 512
  · exact ⟨3, by omega, by simp only [c0, c1, c2, c3, if_true, if_false]; rfl, by simp only [c0, c1, c2, c3, if_true, if_false], .inr (by simp only [Int.reducePow, Int.reduceMul]; omega)⟩
  by_cases c4 : n < 1024
  · exact ⟨4, by omega, by simp only [c0, c1, c2, c3, c4, if_true, if_false]; rfl, by simp only [c0, c1, c2, c3, c4, if_true, if_false], .inr (by simp only [Int.reducePow, Int.reduceMul]; omega)⟩
  by_cases c5 : n < 2048
  · exact ⟨5, by omega, by simp only [c0, c1, c2, c3, c4, c5, if_true, if_false]; rfl, by simp only [c0, c1, c2, c3, c4, c5, if_true, if_false], .inr (by simp only [Int.reducePow, Int.reduceMul]; omega)⟩
  by_cases c6 : n < 4096
  · exact ⟨6, by omega, by simp only [c0, c1, c2, c3, c4, c5, c6, if_true, if_false]; rfl, by simp only [c0, c1, c2, c3, c4, c5, c6, if_true, if_false], .inr (by simp only [Int.reducePow, Int.reduceMul]; omega)⟩
  by_cases c7 : n < 8192
  · exact ⟨7, by omega, by simp only [c0, c1, c2, c3, c4, c5, c6, c7, if_true, if_false]; rfl, by simp only [c0, c1, c2, c3, c4, c5, c6, c7, if_true, if_false], .inr (by simp only [Int.reducePow, Int.reduceMul]; omega)⟩
  by_cases c8 : n < 16384
  · exact ⟨8, by omega, by simp only [c0, c1, c2, c3, c4, c5, c6, c7, c8, if_true, if_false]; rfl, by simp only [c0, c1, c2, c3, c4, c5, c6, c7, c8, if_true, if_false], .inr (by simp only [Int.reducePow, Int.reduceMul]; omega)⟩
  by_cases c9 : n < 32768
  · exact ⟨9, by omega, by simp only [c0, c1, c2, c3, c4, c5, c6, c7, c8, c9, if_true, if_false]; rfl, by simp only [c0, c1, c2, c3, c4, c5, c6, c7, c8, c9, if_true, if_false], .inr (by simp only [Int.reducePow, Int.reduceMul]; omega)⟩
  · exact ⟨10, by omega, by simp only [c0, c1, c2, c3, c4, c5, c6, c7, c8, c9, if_false]; rfl, by simp only [c0, c1, c2, c3, c4, c5, c6, c7, c8, c9, if_false]; omega, .inr (by simp only [Int.reducePow, Int.reduceMul]; omega)⟩

theorem bkA_in {n : Int} (h0 : 0 ≤ n) (h1 : n ≤ 65535) : bkA n = (bk n, 0) := by
  unfold bkA
  rw [if_neg (by omega), if_neg (by omega)]
theorem pow10 {k : Nat} (h : k ≤ 10) : (1 : Int) ≤ 2 ^ k ∧ (2 : Int) ^ k ≤ 1024 := by
  have hk2 : 2 ^ k ≤ 2 ^ 10 := Nat.pow_le_pow_right (by omega) h
  have hk3 : 2 ^ 0 ≤ 2 ^ k := Nat.pow_le_pow_right (by omega) (by omega)
  have e : ((2 ^ k : Nat) : Int) = (2 : Int) ^ k := by simp
  omega
end Go.Bb
/- Contracts: pads. -/
namespace Go.Bb
set_option linter.unusedSimpArgs false
set_option linter.unusedVariables false
set_option maxRecDepth 20000

theorem bytes_Clone_c (E : EnvT tab) (h : Heap) {v : Value} (l : List UInt8) (hl : l.length ≤ 140737488355328) (s : SlB h v l) : ACallN E.toEnv n_bytes_Clone [v] h fun r h' => h.le h' ∧ OwB h h' r l := by
  refine acall h_bytes_Clone ir_bytes_Clone rfl rfl (wpA_sound ?_)
  unfold ir_bytes_Clone
  rcases s with ⟨rfl, hn, hc⟩ | ⟨a, c, rfl, hc, hcl⟩
  · simp -implicitDefEqProofs only [zA,reduceIte,reduceCtorEq,Nat.reduceEqDiff,Nat.reduceAdd,Nat.reduceMul,Nat.reduceLT,Nat.reduceSub,Int.reduceLT,Int.reduceLE,Int.reduceEq,Int.reduceNe,Int.reduceSub,Int.reduceAdd,Int.reduceMul,Int.reduceBEq,Int.reduceBNe,Int.reduceGT,Int.reduceGE,Nat.reduceGT,Int.reduceToNat,Int.reduceNeg,Nat.reduceLeDiff,Nat.reduceBEq,Nat.reduceBneDiff, Option.isNone]
    have : l = [] := List.eq_nil_of_length_eq_zero hn
    subst this
    exact ⟨Heap.le_refl _, Ow.nil _ _ _⟩
  · have s : SlB h (.slice (some a) l.length c) l := .inr ⟨a, c, rfl, hc, hcl⟩
    simp -implicitDefEqProofs only [zA,reduceIte,reduceCtorEq,Nat.reduceEqDiff,Nat.reduceAdd,Nat.reduceMul,Nat.reduceLT,Nat.reduceSub,Int.reduceLT,Int.reduceLE,Int.reduceEq,Int.reduceNe,Int.reduceSub,Int.reduceAdd,Int.reduceMul,Int.reduceBEq,Int.reduceBNe,Int.reduceGT,Int.reduceGE,Nat.reduceGT,Int.reduceToNat,Int.reduceNeg,Nat.reduceLeDiff,Nat.reduceBEq,Nat.reduceBneDiff, Option.isNone]
    intro b1 hb1
    try simp -implicitDefEqProofs only [zA,reduceIte,reduceCtorEq,Nat.reduceEqDiff,Nat.reduceAdd,Nat.reduceMul,Nat.reduceLT,Nat.reduceSub,Int.reduceLT,Int.reduceLE,Int.reduceEq,Int.reduceNe,Int.reduceSub,Int.reduceAdd,Int.reduceMul,Int.reduceBEq,Int.reduceBNe,Int.reduceGT,Int.reduceGE,Nat.reduceGT,Int.reduceToNat,Int.reduceNeg,Nat.reduceLeDiff,Nat.reduceBEq,Nat.reduceBneDiff]
    refine appendP_ow (bytes := 1) (n := 0) (cells := []) (m := l.length) (news := l.map u8V) (Heap.le_set (Heap.le_refl _) hb1 _) (by omega) (Ow.new (Heap.le_refl _) hb1 rfl (by omega) (by omega)) (s.le (Heap.le_set (Heap.le_refl _) hb1 _)) (one_u8 l) (by omega) (by omega) ?_
    intro v' h' ow le'
    rw [Nat.zero_add, List.nil_append] at ow
    simp -implicitDefEqProofs only [zA,reduceIte,reduceCtorEq,Nat.reduceEqDiff,Nat.reduceAdd,Nat.reduceMul,Nat.reduceLT,Nat.reduceSub,Int.reduceLT,Int.reduceLE,Int.reduceEq,Int.reduceNe,Int.reduceSub,Int.reduceAdd,Int.reduceMul,Int.reduceBEq,Int.reduceBNe,Int.reduceGT,Int.reduceGE,Nat.reduceGT,Int.reduceToNat,Int.reduceNeg,Nat.reduceLeDiff,Nat.reduceBEq,Nat.reduceBneDiff]
    exact ⟨le', ow⟩

/-- Bytes and their bucket's rest. -/
def padF (l : List UInt8) : List UInt8 := l ++ 128 :: List.replicate ((bk l.length).toNat - l.length - 1) 0
theorem bk_gt {n : Nat} (h : n ≤ 65535) : (n : Int) < bk n ∧ bk n ≤ 65536 := by
  obtain ⟨k, hk, e, hlt, _⟩ := bk_pow n (by omega) (by omega)
  have := pow10 hk
  omega
theorem padF_len {l : List UInt8} (h : l.length ≤ 65535) : ((padF l).length : Int) = bk l.length := by
  have := bk_gt h
  simp [padF]; omega

theorem pad_cells (l : List UInt8) (B : Nat) (h : l.length < B) : (splice (List.replicate B (Value.int .u8 0)) 0 ((l.map u8V).take (min l.length B * 1))).set l.length (.int .u8 128) = (l ++ 128 :: List.replicate (B - l.length - 1) 0).map u8V := by
  have e1 : min l.length B * 1 = l.length := by omega
  have e2 : ((l.map u8V).take l.length) = l.map u8V := List.take_of_length_le (by simp)
  rw [e1, e2]
  unfold splice
  simp only [List.take_zero, List.nil_append, List.length_map, Nat.zero_add, List.drop_replicate]
  obtain ⟨m, hm⟩ : ∃ m, B - l.length = m + 1 := ⟨B - l.length - 1, by omega⟩
  rw [hm, List.replicate_succ, List.set_append_right _ _ (by simp)]
  simp [u8V]

theorem pad_Pad_c (E : EnvT tab) (h : Heap) {v : Value} (l : List UInt8) (hl : l.length ≤ 65535) (s : SlB h v l) : ACallN E.toEnv n_pad_Pad [v] h fun r h' => h.le h' ∧ ∃ r', r = .tuple #[r', .int .i64 0] ∧ OwB h h' r' (padF l) := by
  obtain ⟨base, c, rfl⟩ := Sl.shape s
  refine acall h_pad_Pad ir_pad_Pad rfl rfl (wpA_sound ?_)
  unfold ir_pad_Pad
  simp -implicitDefEqProofs only [zA,reduceIte,reduceCtorEq,Nat.reduceEqDiff,Nat.reduceAdd,Nat.reduceMul,Nat.reduceLT,Nat.reduceSub,Int.reduceLT,Int.reduceLE,Int.reduceEq,Int.reduceNe,Int.reduceSub,Int.reduceAdd,Int.reduceMul,Int.reduceBEq,Int.reduceBNe,Int.reduceGT,Int.reduceGE,Nat.reduceGT,Int.reduceToNat,Int.reduceNeg,Nat.reduceLeDiff,Nat.reduceBEq,Nat.reduceBneDiff]
  refine (pad_Bucket_c E _ _).mono ?_
  rintro v h' ⟨rfl, rfl⟩
  rw [bkA_in (by omega) (by omega)]
  obtain ⟨g1, g2⟩ := bk_gt hl
  obtain ⟨B, hB⟩ : ∃ B : Nat, bk l.length = B := ⟨(bk l.length).toNat, by omega⟩
  rw [hB] at g1 g2 ⊢
  have e1 : (0 : Int) ≤ B := by omega
  have e2 : (B : Int) ≤ 9223372036854775807 := by omega
  have e3 : (B : Int) ≤ 281474976710656 := by omega
  simp -implicitDefEqProofs only [zA,reduceIte,reduceCtorEq,Nat.reduceEqDiff,Nat.reduceAdd,Nat.reduceMul,Nat.reduceLT,Nat.reduceSub,Int.reduceLT,Int.reduceLE,Int.reduceEq,Int.reduceNe,Int.reduceSub,Int.reduceAdd,Int.reduceMul,Int.reduceBEq,Int.reduceBNe,Int.reduceGT,Int.reduceGE,Nat.reduceGT,Int.reduceToNat,Int.reduceNeg,Nat.reduceLeDiff,Nat.reduceBEq,Nat.reduceBneDiff, e1, e2, e3, Int.toNat_natCast, Int.le_refl, Int.one_mul]
  intro b1 hb1
  try simp -implicitDefEqProofs only [zA,reduceIte,reduceCtorEq,Nat.reduceEqDiff,Nat.reduceAdd,Nat.reduceMul,Nat.reduceLT,Nat.reduceSub,Int.reduceLT,Int.reduceLE,Int.reduceEq,Int.reduceNe,Int.reduceSub,Int.reduceAdd,Int.reduceMul,Int.reduceBEq,Int.reduceBNe,Int.reduceGT,Int.reduceGE,Nat.reduceGT,Int.reduceToNat,Int.reduceNeg,Nat.reduceLeDiff,Nat.reduceBEq,Nat.reduceBneDiff]
  refine copyP_own (size := 1) (Heap.set_self _ _ _) (by simp) (by simp) (Sl.le (Heap.le_set (Heap.le_refl _) hb1 _) s) (one_u8 l) ?_
  rw [Heap.set_set]
  have e4 : (0 : Int) ≤ l.length := by omega
  have e5 : l.length < (splice (List.replicate B (Value.int .u8 0)) 0 ((l.map u8V).take (min l.length B * 1))).length := by
    rw [splice_length (by simp)]; simp; omega
  have e6 : (splice (List.replicate B (Value.int .u8 0)) 0 ((l.map u8V).take (min l.length B * 1))).length = B := by
    rw [splice_length (by simp)]; simp; omega
  have hst : storeV (h'.set b1 (.own 0 (splice (List.replicate B (Value.int .u8 0)) 0 ((l.map u8V).take (min l.length B * 1))) B)) 1 (.pointer (some ⟨b1, l.length, none⟩)) (.int .u8 128) = _ := z6y (off := l.length) rfl e5 (by omega)
  rw [pad_cells l B (by omega)] at hst
  generalize splice (List.replicate B (Value.int .u8 0)) 0 ((l.map u8V).take (min l.length B * 1)) = X at hst
  simp -implicitDefEqProofs only [zA,reduceIte,reduceCtorEq,Nat.reduceEqDiff,Nat.reduceAdd,Nat.reduceMul,Nat.reduceLT,Nat.reduceSub,Int.reduceLT,Int.reduceLE,Int.reduceEq,Int.reduceNe,Int.reduceSub,Int.reduceAdd,Int.reduceMul,Int.reduceBEq,Int.reduceBNe,Int.reduceGT,Int.reduceGE,Nat.reduceGT,Int.reduceToNat,Int.reduceNeg,Nat.reduceLeDiff,Nat.reduceBEq,Nat.reduceBneDiff, e4, g1, Int.toNat_natCast, hst]
  refine ⟨Heap.le_set (Heap.le_refl _) hb1 _, _, rfl, ?_⟩
  have hp : padF l = l ++ 128 :: List.replicate (B - l.length - 1) 0 := by unfold padF; rw [hB]; rfl
  have hlen : (padF l).length = B := by have := padF_len hl; omega
  rw [← hp]
  unfold OwB
  rw [hlen]
  exact Ow.new (Heap.le_refl _) hb1 (by simp [hlen]) (Nat.le_refl _) (by simp)

end Go.Bb
/- Contracts: pads taken off. -/
namespace Go.Bb
set_option linter.unusedSimpArgs false
set_option linter.unusedVariables false
set_option maxRecDepth 20000

/-- The bytes left when zeros are taken from the end. -/
def trimN (l : List UInt8) : Nat → Nat
  | 0 => 0
  | n + 1 => if l[n]? = some 0 then trimN l n else n + 1
theorem trimN_le (l : List UInt8) : ∀ n, trimN l n ≤ n
  | 0 => Nat.le_refl _
  | n + 1 => by unfold trimN; split; have := trimN_le l n; omega; exact Nat.le_refl _
theorem trimN_zero (l : List UInt8) : ∀ n k, trimN l n ≤ k → k < n → l[k]? = some 0
  | 0, k, _, h => by omega
  | n + 1, k, h1, h2 => by
      unfold trimN at h1
      split at h1
      · rename_i hz
        by_cases e : k = n
        · subst e; exact hz
        · exact trimN_zero l n k h1 (by omega)
      · omega
theorem trimN_of (l : List UInt8) : ∀ n m, m ≤ n → (∀ k, m ≤ k → k < n → l[k]? = some 0) → trimN l n = trimN l m
  | 0, m, h, _ => by have : m = 0 := by omega
                     subst this; rfl
  | n + 1, m, h, hz => by
      by_cases e : m = n + 1
      · subst e; rfl
      · have h1 := hz n (by omega) (by omega)
        have h2 := trimN_of l n m (by omega) fun k g1 g2 => hz k g1 (by omega)
        rw [trimN, if_pos h1, h2]

theorem padF_trim (l : List UInt8) : trimN (padF l) (padF l).length = l.length + 1 := by
  have h1 : l.length + 1 ≤ (padF l).length := by simp [padF]
  rw [trimN_of (padF l) _ _ h1]
  · rw [trimN, if_neg]
    simp [padF]
  · intro k g1 g2
    unfold padF at g2 ⊢
    rw [List.getElem?_append_right (by omega)]
    obtain ⟨j, rfl⟩ : ∃ j, k = l.length + 1 + j := ⟨k - (l.length + 1), by omega⟩
    have : l.length + 1 + j - l.length = j + 1 := by omega
    rw [this, List.getElem?_cons_succ, List.getElem?_replicate, if_pos]
    simp at g2; omega
theorem padF_take (l : List UInt8) : (padF l).take l.length = l := by simp [padF]

/-- The bytes under a pad. -/
def unpadF (l : List UInt8) : Option (List UInt8) :=
  if trimN l l.length ≠ 0 ∧ padF (l.take (trimN l l.length - 1)) = l then some (l.take (trimN l l.length - 1)) else none
theorem unpad_pad (l : List UInt8) : unpadF (padF l) = some l := by
  unfold unpadF
  rw [padF_trim, Nat.add_sub_cancel, padF_take, if_pos ⟨by omega, rfl⟩]
theorem pad_iff (l : List UInt8) (hl : l.length ≤ 65536) (m : Nat) (hm : trimN l l.length = m + 1) : padF (l.take m) = l ↔ (l[m]? = some 128 ∧ bk m = l.length) := by
  have hle := trimN_le l l.length
  have hlen : (l.take m).length = m := by rw [List.length_take]; omega
  have hb := bk_gt (n := m) (by omega)
  constructor
  · intro h
    constructor
    · rw [← h]; unfold padF
      rw [List.getElem?_append_right (by omega)]
      simp [hlen]
    · have := padF_len (l := l.take m) (by omega)
      rw [h, hlen] at this
      exact this.symm
  · rintro ⟨h1, h2⟩
    apply List.ext_getElem?
    intro i
    unfold padF
    rw [hlen, h2]
    by_cases g1 : i < m
    · rw [List.getElem?_append_left (by omega), List.getElem?_take, if_pos g1]
    rw [List.getElem?_append_right (by omega), hlen]
    by_cases g2 : i = m
    · subst g2; simp [h1]
    obtain ⟨j, rfl⟩ : ∃ j, i = m + 1 + j := ⟨i - (m + 1), by omega⟩
    have : m + 1 + j - m = j + 1 := by omega
    rw [this, List.getElem?_cons_succ, List.getElem?_replicate]
    by_cases g3 : m + 1 + j < l.length
    · rw [if_pos (by omega), trimN_zero l l.length _ (by omega) g3]
    · rw [if_neg (by omega), List.getElem?_eq_none (by omega)]

theorem bytes_trimRightByte_c (E : EnvT tab) (h : Heap) {v : Value} (l : List UInt8) (hl : l.length ≤ 140737488355328) (s : SlB h v l) : ACallN E.toEnv n_bytes_trimRightByte [v, .int .u8 0] h fun r h' => h' = h ∧ ∃ base c, v = .slice base l.length c ∧ r = .slice base (trimN l l.length) c := by
  obtain ⟨base, c, rfl⟩ := Sl.shape s
  refine acall h_bytes_trimRightByte ir_bytes_trimRightByte rfl rfl (wpA_sound ?_)
  unfold ir_bytes_trimRightByte
  simp -implicitDefEqProofs only [zA,reduceIte,reduceCtorEq,Nat.reduceEqDiff,Nat.reduceAdd,Nat.reduceMul,Nat.reduceLT,Nat.reduceSub,Int.reduceLT,Int.reduceLE,Int.reduceEq,Int.reduceNe,Int.reduceSub,Int.reduceAdd,Int.reduceMul,Int.reduceBEq,Int.reduceBNe,Int.reduceGT,Int.reduceGE,Nat.reduceGT,Int.reduceToNat,Int.reduceNeg,Nat.reduceLeDiff,Nat.reduceBEq,Nat.reduceBneDiff]
  have hc : l.length ≤ c := by
    rcases s with ⟨e, hn, _⟩ | ⟨a, c', e, hc, _⟩
    · omega
    · simp only [Value.slice.injEq] at e
      omega
  refine wp_loop' (fun m t h' => h' = h ∧ t = tl [(0, .slice base m c), (1, .int .u8 0)] ∧ m ≤ l.length ∧ trimN l l.length = trimN l m) l.length ⟨rfl, rfl, Nat.le_refl _, rfl⟩ ?_
  rintro m t h' ⟨rfl, rfl, hm, he⟩
  rcases m with - | m
  · simp -implicitDefEqProofs only [zA,reduceIte,reduceCtorEq,Nat.reduceEqDiff,Nat.reduceAdd,Nat.reduceMul,Nat.reduceLT,Nat.reduceSub,Int.reduceLT,Int.reduceLE,Int.reduceEq,Int.reduceNe,Int.reduceSub,Int.reduceAdd,Int.reduceMul,Int.reduceBEq,Int.reduceBNe,Int.reduceGT,Int.reduceGE,Nat.reduceGT,Int.reduceToNat,Int.reduceNeg,Nat.reduceLeDiff,Nat.reduceBEq,Nat.reduceBneDiff]
    exact ⟨base, c, rfl, by rw [he]; rfl⟩
  obtain ⟨b, o, c', hv, _, hat⟩ := Sl.byte_at s m (by omega)
  simp only [Value.slice.injEq] at hv
  obtain ⟨rfl, _, rfl⟩ := hv
  have hat := hat _ (Heap.le_refl _)
  have e1 : ((m + 1 : Nat) : Int) - 1 = m := by omega
  have e2 : (0 : Int) < ((m + 1 : Nat) : Int) := by omega
  have e3 : (0 : Int) ≤ m := by omega
  have e4 : (m : Int) < ((m + 1 : Nat) : Int) := by omega
  have hw : IntKind.i64.wrap (((m + 1 : Nat) : Int) - 1) = m := by rw [e1]; exact w64 (by omega) (by omega)
  by_cases hz : l[m] = 0
  · have hu : u8V l[m] = .int .u8 0 := by rw [hz]; rfl
    simp -implicitDefEqProofs only [zA,reduceIte,reduceCtorEq,Nat.reduceEqDiff,Nat.reduceAdd,Nat.reduceMul,Nat.reduceLT,Nat.reduceSub,Int.reduceLT,Int.reduceLE,Int.reduceEq,Int.reduceNe,Int.reduceSub,Int.reduceAdd,Int.reduceMul,Int.reduceBEq,Int.reduceBNe,Int.reduceGT,Int.reduceGE,Nat.reduceGT,Int.reduceToNat,Int.reduceNeg,Nat.reduceLeDiff,Nat.reduceBEq,Nat.reduceBneDiff, e2, hw, e3, e4, Int.toNat_natCast, hat, hu, bnds_hi e3 (show (m : Int) ≤ c by omega), sl_pre, sl_preA]
    refine ⟨m, by omega, ?_, by omega, ?_⟩
    · have : (if c = 0 then some (⟨b, o, none⟩ : Addr) else some (Addr.add ⟨b, o, none⟩ 0)) = some ⟨b, o, none⟩ := by
        split
        · rfl
        · unfold Addr.add; simp
      rw [this, Nat.sub_zero, Nat.sub_zero]
    · rw [he, trimN, if_pos (by rw [List.getElem?_eq_getElem (by omega), hz])]
  · have hz' : ¬ ((l[m].toNat : Nat) : Int) = 0 := fun e => hz (UInt8.toNat_inj.1 (by simpa using e))
    simp -implicitDefEqProofs only [zA,reduceIte,reduceCtorEq,Nat.reduceEqDiff,Nat.reduceAdd,Nat.reduceMul,Nat.reduceLT,Nat.reduceSub,Int.reduceLT,Int.reduceLE,Int.reduceEq,Int.reduceNe,Int.reduceSub,Int.reduceAdd,Int.reduceMul,Int.reduceBEq,Int.reduceBNe,Int.reduceGT,Int.reduceGE,Nat.reduceGT,Int.reduceToNat,Int.reduceNeg,Nat.reduceLeDiff,Nat.reduceBEq,Nat.reduceBneDiff, e2, hw, e3, e4, Int.toNat_natCast, hat, u8V, hz']
    refine ⟨_, _, rfl, ?_⟩
    rw [he, trimN, if_neg]
    rw [List.getElem?_eq_getElem (by omega)]
    simp [hz]

theorem bytes_TrimRight_c (E : EnvT tab) (h : Heap) {v : Value} (l : List UInt8) (hl : l.length ≤ 140737488355328) (s : SlB h v l) : ACallN E.toEnv n_bytes_TrimRight [v, .string ⟨#[0]⟩] h fun r h' => h' = h ∧ ((∃ base c, v = .slice base l.length c ∧ r = .slice base (trimN l l.length) c)) := by
  obtain ⟨base, c, rfl⟩ := Sl.shape s
  refine acall h_bytes_TrimRight ir_bytes_TrimRight rfl rfl (wpA_sound ?_)
  unfold ir_bytes_TrimRight
  by_cases h0 : l.length = 0
  · simp -implicitDefEqProofs only [zA,reduceIte,reduceCtorEq,Nat.reduceEqDiff,Nat.reduceAdd,Nat.reduceMul,Nat.reduceLT,Nat.reduceSub,Int.reduceLT,Int.reduceLE,Int.reduceEq,Int.reduceNe,Int.reduceSub,Int.reduceAdd,Int.reduceMul,Int.reduceBEq,Int.reduceBNe,Int.reduceGT,Int.reduceGE,Nat.reduceGT,Int.reduceToNat,Int.reduceNeg,Nat.reduceLeDiff,Nat.reduceBEq,Nat.reduceBneDiff, h0]
    refine ⟨_, _, rfl, ?_⟩
    have := List.eq_nil_of_length_eq_zero h0
    subst this; rfl
  have h0' : ¬ ((l.length : Nat) : Int) = 0 := by omega
  have e1 : ByteArray.toList ⟨#[0]⟩ = [0] := Go.ByteArray.toList_mk [0]
  have e2 : ByteArray.toList ByteArray.empty = [] := Go.ByteArray.toList_mk []
  have e3 : ByteArray.size ⟨#[0]⟩ = 1 := rfl
  have e4 : ((UInt8.toNat 0 : Nat) : Int) = 0 := rfl
  simp -implicitDefEqProofs only [zA,reduceIte,reduceCtorEq,Nat.reduceEqDiff,Nat.reduceAdd,Nat.reduceMul,Nat.reduceLT,Nat.reduceSub,Int.reduceLT,Int.reduceLE,Int.reduceEq,Int.reduceNe,Int.reduceSub,Int.reduceAdd,Int.reduceMul,Int.reduceBEq,Int.reduceBNe,Int.reduceGT,Int.reduceGE,Nat.reduceGT,Int.reduceToNat,Int.reduceNeg,Nat.reduceLeDiff,Nat.reduceBEq,Nat.reduceBneDiff, h0', e1, e2, e3, e4]
  refine (bytes_trimRightByte_c E _ l hl s).mono ?_
  rintro r h' ⟨rfl, base', c', hv, rfl⟩
  simp -implicitDefEqProofs only [zA,reduceIte,reduceCtorEq,Nat.reduceEqDiff,Nat.reduceAdd,Nat.reduceMul,Nat.reduceLT,Nat.reduceSub,Int.reduceLT,Int.reduceLE,Int.reduceEq,Int.reduceNe,Int.reduceSub,Int.reduceAdd,Int.reduceMul,Int.reduceBEq,Int.reduceBNe,Int.reduceGT,Int.reduceGE,Nat.reduceGT,Int.reduceToNat,Int.reduceNeg,Nat.reduceLeDiff,Nat.reduceBEq,Nat.reduceBneDiff]
  exact ⟨_, _, hv, rfl⟩

def unpadV (l : List UInt8) (r : Value) (h : Heap) (bad good : Value) : Prop :=
  match unpadF l with
  | none => r = .tuple #[.slice none 0 0, bad]
  | some x => ∃ r', r = .tuple #[r', good] ∧ SlB h r' x

theorem unpadF_zero {l : List UInt8} (h : trimN l l.length = 0) : unpadF l = none := by
  unfold unpadF; rw [if_neg]; rintro ⟨h1, _⟩; exact h1 h
theorem unpadF_no {l : List UInt8} {m : Nat} (hm : trimN l l.length = m + 1) (h : ¬ padF (l.take m) = l) : unpadF l = none := by
  unfold unpadF; rw [hm, if_neg]; rintro ⟨_, h1⟩; exact h h1
theorem unpadF_yes {l : List UInt8} {m : Nat} (hm : trimN l l.length = m + 1) (h : padF (l.take m) = l) : unpadF l = some (l.take m) := by
  unfold unpadF; rw [hm, if_pos ⟨by omega, h⟩]; rfl

theorem take_map {α β : Type} (f : α → β) (l : List α) (n : Nat) : (l.map f).take n = (l.take n).map f := by
  rw [List.map_take]
theorem Sl.preB {h : Heap} {base : Option Addr} {c m : Nat} {l : List UInt8} (s : SlB h (.slice base l.length c) l) (hm : m ≤ l.length) : SlB h (.slice base m c) (l.take m) := by
  have := Sl.pre s hm
  rw [Nat.mul_one, take_map] at this
  have e : (l.take m).length = m := by rw [List.length_take]; omega
  unfold SlB
  rw [e]; exact this

theorem pad_Unpad_c (E : EnvT tab) (h : Heap) {v : Value} (l : List UInt8) (hl : l.length ≤ 65536) (s : SlB h v l) : ACallN E.toEnv n_pad_Unpad [v] h fun r h' => h.le h' ∧ unpadV l r h' (.int .i64 3) (.int .i64 0) := by
  obtain ⟨base, c, rfl⟩ := Sl.shape s
  refine acall h_pad_Unpad ir_pad_Unpad rfl rfl (wpA_sound ?_)
  unfold ir_pad_Unpad
  have hc : l.length ≤ c := by
    rcases s with ⟨e, hn, _⟩ | ⟨a, c', e, hc, _⟩
    · omega
    · simp only [Value.slice.injEq] at e
      omega
  simp -implicitDefEqProofs only [zA,reduceIte,reduceCtorEq,Nat.reduceEqDiff,Nat.reduceAdd,Nat.reduceMul,Nat.reduceLT,Nat.reduceSub,Int.reduceLT,Int.reduceLE,Int.reduceEq,Int.reduceNe,Int.reduceSub,Int.reduceAdd,Int.reduceMul,Int.reduceBEq,Int.reduceBNe,Int.reduceGT,Int.reduceGE,Nat.reduceGT,Int.reduceToNat,Int.reduceNeg,Nat.reduceLeDiff,Nat.reduceBEq,Nat.reduceBneDiff]
  refine (bytes_TrimRight_c E _ l (by omega) s).mono ?_
  rintro r h' ⟨rfl, base', c', hv, rfl⟩
  simp only [Value.slice.injEq] at hv
  obtain ⟨rfl, _, rfl⟩ := hv
  have hle := trimN_le l l.length
  rcases hn : trimN l l.length with - | m
  · simp -implicitDefEqProofs only [zA,reduceIte,reduceCtorEq,Nat.reduceEqDiff,Nat.reduceAdd,Nat.reduceMul,Nat.reduceLT,Nat.reduceSub,Int.reduceLT,Int.reduceLE,Int.reduceEq,Int.reduceNe,Int.reduceSub,Int.reduceAdd,Int.reduceMul,Int.reduceBEq,Int.reduceBNe,Int.reduceGT,Int.reduceGE,Nat.reduceGT,Int.reduceToNat,Int.reduceNeg,Nat.reduceLeDiff,Nat.reduceBEq,Nat.reduceBneDiff]
    unfold unpadV
    rw [unpadF_zero hn]
    exact ⟨Heap.le_refl _, rfl⟩
  rw [hn] at hle
  obtain ⟨b, o, c', hv, _, hat⟩ := Sl.byte_at s m (by omega)
  simp only [Value.slice.injEq] at hv
  obtain ⟨rfl, _, rfl⟩ := hv
  have hat := hat _ (Heap.le_refl _)
  have e0 : ¬ ((m + 1 : Nat) : Int) = 0 := by omega
  have e1 : ((m + 1 : Nat) : Int) - 1 = m := by omega
  have e3 : (0 : Int) ≤ m := by omega
  have e4 : (m : Int) < ((m + 1 : Nat) : Int) := by omega
  have hw : IntKind.i64.wrap (((m + 1 : Nat) : Int) - 1) = m := by rw [e1]; exact w64 (by omega) (by omega)
  have hpi := pad_iff l hl m hn
  by_cases hz : l[m] = 128
  · have hu : u8V l[m] = .int .u8 128 := by rw [hz]; rfl
    have hz2 : l[m]? = some 128 := by rw [List.getElem?_eq_getElem (by omega), hz]
    simp -implicitDefEqProofs only [zA,reduceIte,reduceCtorEq,Nat.reduceEqDiff,Nat.reduceAdd,Nat.reduceMul,Nat.reduceLT,Nat.reduceSub,Int.reduceLT,Int.reduceLE,Int.reduceEq,Int.reduceNe,Int.reduceSub,Int.reduceAdd,Int.reduceMul,Int.reduceBEq,Int.reduceBNe,Int.reduceGT,Int.reduceGE,Nat.reduceGT,Int.reduceToNat,Int.reduceNeg,Nat.reduceLeDiff,Nat.reduceBEq,Nat.reduceBneDiff, e0, hw, e3, e4, Int.toNat_natCast, hat, hu, bnds_hi e3 (show (m : Int) ≤ c by omega), sl_pre, sl_preA]
    refine (pad_Bucket_c E _ _).mono ?_
    rintro v h'' ⟨rfl, rfl⟩
    rw [Nat.sub_zero, bkA_in (by omega) (by omega)]
    by_cases hb : bk m = l.length
    · simp -implicitDefEqProofs only [zA,reduceIte,reduceCtorEq,Nat.reduceEqDiff,Nat.reduceAdd,Nat.reduceMul,Nat.reduceLT,Nat.reduceSub,Int.reduceLT,Int.reduceLE,Int.reduceEq,Int.reduceNe,Int.reduceSub,Int.reduceAdd,Int.reduceMul,Int.reduceBEq,Int.reduceBNe,Int.reduceGT,Int.reduceGE,Nat.reduceGT,Int.reduceToNat,Int.reduceNeg,Nat.reduceLeDiff,Nat.reduceBEq,Nat.reduceBneDiff, hb]
      have hp := hpi.2 ⟨hz2, hb⟩
      have e5 : (l.take m).length ≤ 140737488355328 := by rw [List.length_take]; omega
      have hif : (if c = 0 then some (⟨b, o, none⟩ : Addr) else some (Addr.add ⟨b, o, none⟩ 0)) = some ⟨b, o, none⟩ := by
        split
        · rfl
        · unfold Addr.add; simp
      rw [hif, Nat.sub_zero]
      refine (bytes_Clone_c E _ _ e5 (Sl.preB s (by omega))).mono ?_
      rintro r h3 ⟨hle3, ow⟩
      simp -implicitDefEqProofs only [zA,reduceIte,reduceCtorEq,Nat.reduceEqDiff,Nat.reduceAdd,Nat.reduceMul,Nat.reduceLT,Nat.reduceSub,Int.reduceLT,Int.reduceLE,Int.reduceEq,Int.reduceNe,Int.reduceSub,Int.reduceAdd,Int.reduceMul,Int.reduceBEq,Int.reduceBNe,Int.reduceGT,Int.reduceGE,Nat.reduceGT,Int.reduceToNat,Int.reduceNeg,Nat.reduceLeDiff,Nat.reduceBEq,Nat.reduceBneDiff]
      refine ⟨hle3, ?_⟩
      unfold unpadV
      rw [unpadF_yes hn hp]
      exact ⟨_, rfl, ow.sl⟩
    · simp -implicitDefEqProofs only [zA,reduceIte,reduceCtorEq,Nat.reduceEqDiff,Nat.reduceAdd,Nat.reduceMul,Nat.reduceLT,Nat.reduceSub,Int.reduceLT,Int.reduceLE,Int.reduceEq,Int.reduceNe,Int.reduceSub,Int.reduceAdd,Int.reduceMul,Int.reduceBEq,Int.reduceBNe,Int.reduceGT,Int.reduceGE,Nat.reduceGT,Int.reduceToNat,Int.reduceNeg,Nat.reduceLeDiff,Nat.reduceBEq,Nat.reduceBneDiff, hb]
      refine ⟨Heap.le_refl _, ?_⟩
      unfold unpadV
      rw [unpadF_no hn fun e => hb (hpi.1 e).2]
  · have hz' : ¬ ((l[m].toNat : Nat) : Int) = 128 := fun e => hz (UInt8.toNat_inj.1 (by simp; omega))
    simp -implicitDefEqProofs only [zA,reduceIte,reduceCtorEq,Nat.reduceEqDiff,Nat.reduceAdd,Nat.reduceMul,Nat.reduceLT,Nat.reduceSub,Int.reduceLT,Int.reduceLE,Int.reduceEq,Int.reduceNe,Int.reduceSub,Int.reduceAdd,Int.reduceMul,Int.reduceBEq,Int.reduceBNe,Int.reduceGT,Int.reduceGE,Nat.reduceGT,Int.reduceToNat,Int.reduceNeg,Nat.reduceLeDiff,Nat.reduceBEq,Nat.reduceBneDiff, e0, hw, e3, e4, Int.toNat_natCast, hat, u8V, hz']
    refine ⟨Heap.le_refl _, ?_⟩
    unfold unpadV
    rw [unpadF_no hn fun e => hz (by have := (hpi.1 e).1; rw [List.getElem?_eq_getElem (by omega)] at this; exact Option.some.inj this)]
end Go.Bb
/- Plain: sealed edits. -/
namespace Go.Bb
set_option linter.unusedSimpArgs false
set_option linter.unusedVariables false
set_option maxRecDepth 20000

def labW (a d n : Nat) : List UInt8 := numF a ++ numF d ++ numF n
def bodyF (key : List UInt8) (a : Nat) (e : Ed) : List UInt8 :=
  labW a e.dev.toNat e.n.toNat ++ bytesW (sealF key (nonceF e.dev.toNat e.n.toNat) (padF (putE e)) (labW a e.dev.toNat e.n.toNat))
def sealL (L : RL) (k : Int) (e : Ed) : Nat × List UInt8 :=
  if goodE e = true then match getK L k with
    | none => (4, [])
    | some key => (0, bodyF key k.toNat e)
  else (1, [])
def bktG (m : Nat) : Bool := decide (bkA ((m : Int) - 16 - 1) = ((m : Int) - 16, 0))
/-- The label and the sealed bytes, as they are read; what is left. -/
def rdL (dl : Nat) (s : RS) : (Nat × Nat × Nat × List UInt8) × RS :=
  let a := numS M40 s
  let d := numS dl a.2
  let n := numS M40 d.2
  let c := bytesS 65552 n.2
  ((a.1, d.1, n.1, c.1), c.2)
def okL (x : (Nat × Nat × Nat × List UInt8) × RS) : Bool := decide (x.2 = some []) && decide (x.1.2.1 < 8) && decide (1 ≤ x.1.2.2.1) && bktG x.1.2.2.2.length
def labL (dl : Nat) (l : List UInt8) : Option (Nat × Nat × Nat × List UInt8) := if okL (rdL dl (some l)) = true then some (rdL dl (some l)).1 else none
def openL (L : RL) (l : List UInt8) : Nat × Ed :=
  match labL 7 l with
  | none => (3, ZE)
  | some (a, d, n, c) =>
    match getK L a with
    | none => (4, ZE)
    | some key =>
      if (openF key (nonceF d n) c (labW a d n)).1 = 0 then
        match unpadF (openF key (nonceF d n) c (labW a d n)).2 with
        | none => (3, ZE)
        | some x => match getE 7 x with
          | none => (3, ZE)
          | some e => if e.dev = d ∧ e.n = n then (0, e) else (3, ZE)
      else (8, ZE)
def sizeL (e : Ed) : Nat := if goodE e = true then (bk (putE e).length).toNat else 0

theorem labL_8 (l : List UInt8) : labL 8 l = labL 7 l := by
  unfold labL rdL
  cases ha : numS M40 (some l) with
  | mk a s =>
    simp only
    cases s with
    | none => rfl
    | some m =>
      have hl := rdF_low (lim := 8) (low := 7) (by omega) 9 0 0 m
      cases hr : rdF 8 9 0 0 m with
      | none =>
        rw [hr] at hl
        have a : numS 8 (some m) = (0, none) := by simp [numS, hr]
        have b : numS 7 (some m) = (0, none) := by simp [numS, hl]
        rw [a, b]
      | some x =>
        obtain ⟨n, r⟩ := x
        rw [hr] at hl
        simp only at hl
        by_cases h : n ≤ 7
        · rw [if_pos h] at hl
          have a : numS 8 (some m) = (n, some r) := by simp [numS, hr]
          have b : numS 7 (some m) = (n, some r) := by simp [numS, hl]
          rw [a, b]
        · rw [if_neg h] at hl
          have b : numS 7 (some m) = (0, none) := by simp [numS, hl]
          have a : numS 8 (some m) = (n, some r) := by simp [numS, hr]
          rw [a, b]
          have h8 : ¬ n < 8 := by omega
          simp [okL, numS_none, bytesS_none, h8]
theorem bktG_bk (n : Int) : bktG ((bk n).toNat + 16) = true := by
  unfold bktG
  have h : ∃ k : Nat, k ≤ 10 ∧ bk n = 64 * 2 ^ k := by
    unfold bk
    repeat' split
    · exact ⟨0, by omega, rfl⟩
    · exact ⟨1, by omega, rfl⟩
    · exact ⟨2, by omega, rfl⟩
    · exact ⟨3, by omega, rfl⟩
    · exact ⟨4, by omega, rfl⟩
    · exact ⟨5, by omega, rfl⟩
    · exact ⟨6, by omega, rfl⟩
    · exact ⟨7, by omega, rfl⟩
    · exact ⟨8, by omega, rfl⟩
    · exact ⟨9, by omega, rfl⟩
    · exact ⟨10, by omega, rfl⟩
  obtain ⟨k, hk, e⟩ := h
  rw [e]
  have hc : k = 0 ∨ k = 1 ∨ k = 2 ∨ k = 3 ∨ k = 4 ∨ k = 5 ∨ k = 6 ∨ k = 7 ∨ k = 8 ∨ k = 9 ∨ k = 10 := by omega
  rcases hc with rfl | rfl | rfl | rfl | rfl | rfl | rfl | rfl | rfl | rfl | rfl <;> decide
theorem labL_body (dl : Nat) (hd : 7 ≤ dl) (key : List UInt8) (a : Nat) (ha : a ≤ 1099511627776) {e : Ed} (h : goodE e = true) (h8 : e.seen.length = 8) :
    labL dl (bodyF key a e) = some (a, e.dev.toNat, e.n.toNat, sealF key (nonceF e.dev.toNat e.n.toNat) (padF (putE e)) (labW a e.dev.toNat e.n.toNat)) := by
  have g := goodE_iff h
  have hp := putE_len h h8
  have hl := padF_len (l := putE e) (by omega)
  have hb := bk_gt (n := (putE e).length) (by omega)
  have hs := sealF_len key (nonceF e.dev.toNat e.n.toNat) (padF (putE e)) (labW a e.dev.toNat e.n.toNat)
  have gd := g.dev
  have gn := g.n
  have e1 : rdL dl (some (bodyF key a e)) = ((a, e.dev.toNat, e.n.toNat, sealF key (nonceF e.dev.toNat e.n.toNat) (padF (putE e)) (labW a e.dev.toNat e.n.toNat)), some []) := by
    unfold bodyF
    generalize sealF key (nonceF e.dev.toNat e.n.toNat) (padF (putE e)) (labW a e.dev.toNat e.n.toNat) = C at *
    unfold labW rdL
    simp only [List.append_assoc]
    rw [numS_num (by unfold M40; omega) (by omega)]
    simp only
    rw [numS_num (by omega) (by omega)]
    simp only
    rw [numS_num (by unfold M40; omega) (by omega)]
    simp only
    have := bytesS_bytes (lim := 65552) (x := C) (by omega) (by omega) []
    rw [List.append_nil] at this
    rw [this]
  unfold labL
  rw [e1, if_pos]
  unfold okL
  simp only [Bool.and_eq_true, decide_eq_true_eq, true_and]
  refine ⟨⟨by omega, by omega⟩, ?_⟩
  rw [hs]
  have : (padF (putE e)).length = (bk (putE e).length).toNat := by omega
  rw [this]
  exact bktG_bk _
theorem open_seal_L (L : RL) (key : List UInt8) (k : Int) (hk : 0 ≤ k ∧ k ≤ 1099511627776) {e : Ed} (h : goodE e = true) (h8 : e.seen.length = 8) (hg : getK L k = some key) :
    openL L (bodyF key k.toNat e) = (0, e) := by
  have g := goodE_iff h
  have hp := putE_len h h8
  have hl := padF_len (l := putE e) (by omega)
  have hb := bk_gt (n := (putE e).length) (by omega)
  have gd := g.dev
  have gn := g.n
  unfold openL
  rw [labL_body 7 (by omega) key k.toNat (by omega) h h8]
  simp only
  have ek : ((k.toNat : Nat) : Int) = k := by omega
  rw [ek, hg]
  simp only
  rw [open_seal _ _ _ _ (by omega)]
  simp only [if_true]
  rw [unpad_pad]
  simp only
  rw [get_put 7 (by omega) h h8]
  simp only
  rw [if_pos (by omega)]
theorem body_len (key : List UInt8) (a : Nat) {e : Ed} (h : goodE e = true) (h8 : e.seen.length = 8) :
    (bodyF key a e).length = (labW a e.dev.toNat e.n.toNat).length + (numF (sizeL e + 16)).length + sizeL e + 16 := by
  have hp := putE_len h h8
  have hl := padF_len (l := putE e) (by omega)
  have hs := sealF_len key (nonceF e.dev.toNat e.n.toNat) (padF (putE e)) (labW a e.dev.toNat e.n.toNat)
  have hz : (padF (putE e)).length = sizeL e := by unfold sizeL; rw [if_pos h]; omega
  unfold bodyF bytesW
  rw [List.length_append, List.length_append, hs, hz]
  omega
end Go.Bb
