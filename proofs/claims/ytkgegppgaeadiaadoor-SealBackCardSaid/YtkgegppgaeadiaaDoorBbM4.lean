/- My contracts: BbCsea3 BbUed BbLsea0 BbLsea1. -/
import Derived.Test.YtkgegppgaeadiaaDoorBbM3
import Derived.Test.YtkgegppgaeadiaaDoorBbG3
import Derived.Test.YtkgegppgaeadiaaDoorBbM2
import Derived.Test.YtkgegppgaeadiaaDoorBbM1
/- Contracts: sealed edits opened. -/
namespace Go.Bb
set_option linter.unusedSimpArgs false
set_option linter.unusedVariables false
set_option maxRecDepth 20000
set_option maxHeartbeats 2000000

theorem labL_facts {dl : Nat} {l : List UInt8} {a d n : Nat} {c : List UInt8} (h : labL dl l = some (a, d, n, c)) : a ≤ 1099511627776 ∧ d < 8 ∧ 1 ≤ n ∧ n ≤ 1099511627776 ∧ c.length ≤ 65552 ∧ bktG c.length = true := by
  unfold labL at h
  split at h
  · rename_i ho
    have e := Option.some.inj h
    unfold okL at ho
    simp only [Bool.and_eq_true, decide_eq_true_eq] at ho
    obtain ⟨⟨⟨h1, h2⟩, h3⟩, h4⟩ := ho
    have e1 : (rdL dl (some l)).1.1 = a := congrArg (·.1) e
    have e2 : (rdL dl (some l)).1.2.1 = d := congrArg (·.2.1) e
    have e3 : (rdL dl (some l)).1.2.2.1 = n := congrArg (·.2.2.1) e
    have e4 : (rdL dl (some l)).1.2.2.2 = c := congrArg (·.2.2.2) e
    rw [e2] at h2
    rw [e3] at h3
    rw [e4] at h4
    refine ⟨by rw [← e1]; exact numS_le _ _, h2, h3, by rw [← e3]; exact numS_le _ _, by rw [← e4]; exact bytesS_fst _ _, h4⟩
  · cases h
theorem openF_len (key nonce c beside : List UInt8) : (openF key nonce c beside).2.length ≤ c.length - 16 := by
  unfold openF
  split
  · simp
  · split
    · simp
    · split
      · simp [sxF_len]
      · simp
theorem getE_facts {dl : Nat} {l : List UInt8} {e : Ed} (h : getE dl l = some e) : goodE e = true ∧ e.seen.length = 8 := by
  unfold getE at h
  split at h
  · rename_i ho
    have := Option.some.inj h
    subst this
    exact ⟨ho.2, vecS_fst _⟩
  · cases h
theorem unpadF_len {l x : List UInt8} (h : unpadF l = some x) : x.length ≤ l.length := by
  unfold unpadF at h
  split at h
  · have := Option.some.inj h
    rw [← this, List.length_take]; omega
  · cases h
theorem dot_ok (x y : Int) : leavesOk [some .i64, some .i64] (dotC x y) = true := rfl
theorem dot_eq (x y d n : Int) : leavesEq (dotC x y) (dotC d n) = decide (x = d ∧ y = n) := by
  simp only [dotC, leavesEq, leafEq, Bool.and_true]
  by_cases g1 : x = d
  · by_cases g2 : y = n
    · simp [g1, g2]
    · simp [g1, g2]
  · simp [g1]
theorem seal_Open_c (E : EnvT tab) {h0 H : Heap} (leH : h0.le H) {p v : Value} {L : RL} (R : RingR h0 H p L) (hL : ∀ x ∈ L, x.2.length = 32) (l : List UInt8) (hl : l.length ≤ 100000) (s : SlB H v l) :
    ACallN E.toEnv n_seal_Open [p, v] H fun r H' => H.le H' ∧ r = .tuple #[.agg (edC (openL L l).2).toArray, .int .i64 ((openL L l).1 : Nat)] := by
  obtain ⟨pp, hpp⟩ : ∃ b, p = .pointer (some ⟨b, 0, none⟩) := by
    obtain ⟨b, r, es, c, rfl, _⟩ := R
    exact ⟨b, rfl⟩
  subst hpp
  refine acall h_seal_Open ir_seal_Open rfl rfl (wpA_sound ?_)
  unfold ir_seal_Open
  have zl := edC_len (e := ZE) rfl
  simp -implicitDefEqProofs only [zA,reduceIte,reduceCtorEq,Nat.reduceEqDiff,Nat.reduceAdd,Nat.reduceMul,Nat.reduceLT,Nat.reduceSub,Int.reduceLT,Int.reduceLE,Int.reduceEq,Int.reduceNe,Int.reduceSub,Int.reduceAdd,Int.reduceMul,Int.reduceBEq,Int.reduceBNe,Int.reduceGT,Int.reduceGE,Nat.reduceGT,Int.reduceToNat,Int.reduceNeg,Nat.reduceLeDiff,Nat.reduceBEq,Nat.reduceBneDiff]
  intro b4 hb4
  try simp -implicitDefEqProofs only [zA,reduceIte,reduceCtorEq,Nat.reduceEqDiff,Nat.reduceAdd,Nat.reduceMul,Nat.reduceLT,Nat.reduceSub,Int.reduceLT,Int.reduceLE,Int.reduceEq,Int.reduceNe,Int.reduceSub,Int.reduceAdd,Int.reduceMul,Int.reduceBEq,Int.reduceBNe,Int.reduceGT,Int.reduceGE,Nat.reduceGT,Int.reduceToNat,Int.reduceNeg,Nat.reduceLeDiff,Nat.reduceBEq,Nat.reduceBneDiff]
  rw [← edC_ZE, zl]
  have le4 := Heap.le_set (Heap.le_refl H) hb4 (.own 0 (edC ZE) 15)
  have q4 : (H.set b4 (.own 0 (edC ZE) 15)) b4 = some (.own 0 (edC ZE) 15) := Heap.set_self _ _ _
  generalize (H.set b4 (.own 0 (edC ZE) 15)) = H1 at le4 q4 ⊢
  refine (seal_read_c E H1 l hl (s.le le4)).mono ?_
  rintro r H2 ⟨le2, r', rfl, ow2⟩
  have stA : ∀ (G : Heap) (e : Ed), H1.le G → e.seen.length = 8 → storeV G 15 (.pointer (some ⟨b4, 0, none⟩)) (.agg (edC e).toArray) = some (G.set b4 (.own 0 (edC e) 15)) := fun G e x h => storeV_agg_at (x _ _ q4) (by omega) (edC_len h) (edC_one e) zl (by omega)
  have ld : ∀ (G : Heap) (e : Ed), e.seen.length = 8 → hcells (G.set b4 (.own 0 (edC e) 15)) ⟨b4, 0, none⟩ 15 = some (edC e) := fun G e h => z6x (by rw [edC_len h])
  have leF : ∀ (G : Heap) X, H1.le G → H.le (G.set b4 X) := fun G X x => Heap.le_set (Heap.le_trans le4 x) hb4 _
  have ev : (labL 7 l = none → readV l = ((0, 0, 0, []), 3)) ∧ ∀ x, labL 7 l = some x → readV l = (x, 0) := by
    unfold readV
    rw [labL_8]
    constructor
    · intro h; rw [h]
    · intro x h; rw [h]
  obtain ⟨V, hV⟩ : ∃ V, V = readV l := ⟨_, rfl⟩
  rw [← hV] at ow2 ⊢ ev
  simp -implicitDefEqProofs only [zA,reduceIte,reduceCtorEq,Nat.reduceEqDiff,Nat.reduceAdd,Nat.reduceMul,Nat.reduceLT,Nat.reduceSub,Int.reduceLT,Int.reduceLE,Int.reduceEq,Int.reduceNe,Int.reduceSub,Int.reduceAdd,Int.reduceMul,Int.reduceBEq,Int.reduceBNe,Int.reduceGT,Int.reduceGE,Nat.reduceGT,Int.reduceToNat,Int.reduceNeg,Nat.reduceLeDiff,Nat.reduceBEq,Nat.reduceBneDiff]
  intro b7 hb7
  try simp -implicitDefEqProofs only [zA,reduceIte,reduceCtorEq,Nat.reduceEqDiff,Nat.reduceAdd,Nat.reduceMul,Nat.reduceLT,Nat.reduceSub,Int.reduceLT,Int.reduceLE,Int.reduceEq,Int.reduceNe,Int.reduceSub,Int.reduceAdd,Int.reduceMul,Int.reduceBEq,Int.reduceBNe,Int.reduceGT,Int.reduceGE,Nat.reduceGT,Int.reduceToNat,Int.reduceNeg,Nat.reduceLeDiff,Nat.reduceBEq,Nat.reduceBneDiff]
  have st7 : storeV (H2.set b7 (.own 0 [.int .i64 0, .int .i64 0] 2)) 2 (.pointer (some ⟨b7, 0, none⟩)) (.agg (dotC V.1.2.1 V.1.2.2.1).toArray) = some (H2.set b7 (.own 0 (dotC V.1.2.1 V.1.2.2.1) 2)) := z6z (by omega) rfl rfl rfl (by omega)
  have le7 := Heap.le_set (Heap.le_refl H2) hb7 (.own 0 (dotC V.1.2.1 V.1.2.2.1) 2)
  have q7 : (H2.set b7 (.own 0 (dotC V.1.2.1 V.1.2.2.1) 2)) b7 = some (.own 0 (dotC V.1.2.1 V.1.2.2.1) 2) := Heap.set_self _ _ _
  simp -implicitDefEqProofs only [zA,reduceIte,reduceCtorEq,Nat.reduceEqDiff,Nat.reduceAdd,Nat.reduceMul,Nat.reduceLT,Nat.reduceSub,Int.reduceLT,Int.reduceLE,Int.reduceEq,Int.reduceNe,Int.reduceSub,Int.reduceAdd,Int.reduceMul,Int.reduceBEq,Int.reduceBNe,Int.reduceGT,Int.reduceGE,Nat.reduceGT,Int.reduceToNat,Int.reduceNeg,Nat.reduceLeDiff,Nat.reduceBEq,Nat.reduceBneDiff, st7]
  generalize (H2.set b7 (.own 0 (dotC V.1.2.1 V.1.2.2.1) 2)) = H3 at le7 q7 ⊢
  have le13 := Heap.le_trans le2 le7
  unfold openL
  unfold ir_seal_Open_22
  cases hlab : labL 7 l with
  | none =>
    have := ev.1 hlab
    rw [this]
    have stZ := stA H3 ZE le13 rfl
    have ldZ := ld H3 ZE rfl
    rw [edC_ZE] at stZ ldZ
    simp -implicitDefEqProofs only [zA,reduceIte,reduceCtorEq,Nat.reduceEqDiff,Nat.reduceAdd,Nat.reduceMul,Nat.reduceLT,Nat.reduceSub,Int.reduceLT,Int.reduceLE,Int.reduceEq,Int.reduceNe,Int.reduceSub,Int.reduceAdd,Int.reduceMul,Int.reduceBEq,Int.reduceBNe,Int.reduceGT,Int.reduceGE,Nat.reduceGT,Int.reduceToNat,Int.reduceNeg,Nat.reduceLeDiff,Nat.reduceBEq,Nat.reduceBneDiff, stZ, ldZ]
    exact ⟨leF _ _ le13, rfl⟩
  | some x =>
    obtain ⟨a, d, n, c⟩ := x
    have := ev.2 _ hlab
    rw [this] at q7 ow2 ⊢
    simp only at q7 ow2
    clear this ev st7
    obtain ⟨f1, f2, f3, f4, f5, f6⟩ := labL_facts hlab
    have cd : ∀ G, H3.le G → hcell G ⟨b7, 0, none⟩ = some (.int .i64 d) := fun G x => by rw [hcell_at (x _ _ q7) (by simp [dotC])]; rfl
    have cn : ∀ G, H3.le G → hcell G ⟨b7, 1, none⟩ = some (.int .i64 n) := fun G x => by rw [hcell_at (x _ _ q7) (by simp [dotC])]; rfl
    have c2 : ∀ G, H3.le G → hcells G ⟨b7, 0, none⟩ 2 = some (dotC d n) := fun G x => by rw [hcells_at (x _ _ q7) (by simp [dotC])]; rfl
    simp -implicitDefEqProofs only [zA,reduceIte,reduceCtorEq,Nat.reduceEqDiff,Nat.reduceAdd,Nat.reduceMul,Nat.reduceLT,Nat.reduceSub,Int.reduceLT,Int.reduceLE,Int.reduceEq,Int.reduceNe,Int.reduceSub,Int.reduceAdd,Int.reduceMul,Int.reduceBEq,Int.reduceBNe,Int.reduceGT,Int.reduceGE,Nat.reduceGT,Int.reduceToNat,Int.reduceNeg,Nat.reduceLeDiff,Nat.reduceBEq,Nat.reduceBneDiff]
    refine (epoch_Get_c E (Heap.le_trans leH (Heap.le_trans le4 le13)) (R.le (Heap.le_trans le4 le13)) hL a).mono ?_
    rintro r H4 ⟨le34, rfl⟩
    have wl : ((getK L a).getD (List.replicate 32 0)).length = 32 := by
      cases h : getK L a with
      | none => simp
      | some key =>
        obtain ⟨x, hx, -, rfl⟩ := getK_mem h
        exact hL x hx
    have wk : ∀ key, getK L a = some key → (getK L a).getD (List.replicate 32 0) = key := fun key h => by rw [h]; rfl
    generalize (getK L a).getD (List.replicate 32 0) = W at wl wk
    simp -implicitDefEqProofs only [zA,reduceIte,reduceCtorEq,Nat.reduceEqDiff,Nat.reduceAdd,Nat.reduceMul,Nat.reduceLT,Nat.reduceSub,Int.reduceLT,Int.reduceLE,Int.reduceEq,Int.reduceNe,Int.reduceSub,Int.reduceAdd,Int.reduceMul,Int.reduceBEq,Int.reduceBNe,Int.reduceGT,Int.reduceGE,Nat.reduceGT,Int.reduceToNat,Int.reduceNeg,Nat.reduceLeDiff,Nat.reduceBEq,Nat.reduceBneDiff]
    intro b10 hb10
    try simp -implicitDefEqProofs only [zA,reduceIte,reduceCtorEq,Nat.reduceEqDiff,Nat.reduceAdd,Nat.reduceMul,Nat.reduceLT,Nat.reduceSub,Int.reduceLT,Int.reduceLE,Int.reduceEq,Int.reduceNe,Int.reduceSub,Int.reduceAdd,Int.reduceMul,Int.reduceBEq,Int.reduceBNe,Int.reduceGT,Int.reduceGE,Nat.reduceGT,Int.reduceToNat,Int.reduceNeg,Nat.reduceLeDiff,Nat.reduceBEq,Nat.reduceBneDiff, List.length_replicate]
    have st10 : storeV (H4.set b10 (.own 0 (List.replicate 32 (.int .u8 0)) 32)) 32 (.pointer (some ⟨b10, 0, none⟩)) (.agg (W.map u8V).toArray) = some (H4.set b10 (.own 0 (W.map u8V) 32)) := z6z (by omega) (by simp [wl]) (one_u8 _) (by simp) (by omega)
    have le10 := Heap.le_set (Heap.le_refl H4) hb10 (.own 0 (W.map u8V) 32)
    have q10 : (H4.set b10 (.own 0 (W.map u8V) 32)) b10 = some (.own 0 (W.map u8V) 32) := Heap.set_self _ _ _
    simp -implicitDefEqProofs only [zA,reduceIte,reduceCtorEq,Nat.reduceEqDiff,Nat.reduceAdd,Nat.reduceMul,Nat.reduceLT,Nat.reduceSub,Int.reduceLT,Int.reduceLE,Int.reduceEq,Int.reduceNe,Int.reduceSub,Int.reduceAdd,Int.reduceMul,Int.reduceBEq,Int.reduceBNe,Int.reduceGT,Int.reduceGE,Nat.reduceGT,Int.reduceToNat,Int.reduceNeg,Nat.reduceLeDiff,Nat.reduceBEq,Nat.reduceBneDiff, st10]
    generalize (H4.set b10 (.own 0 (W.map u8V) 32)) = H5 at le10 q10 ⊢
    have le35 := Heap.le_trans le34 le10
    have le15 := Heap.le_trans le13 le35
    cases hk : getK L a with
    | none =>
      have stZ := stA H5 ZE le15 rfl
      have ldZ := ld H5 ZE rfl
      rw [edC_ZE] at stZ ldZ
      simp -implicitDefEqProofs only [zA,reduceIte,reduceCtorEq,Nat.reduceEqDiff,Nat.reduceAdd,Nat.reduceMul,Nat.reduceLT,Nat.reduceSub,Int.reduceLT,Int.reduceLE,Int.reduceEq,Int.reduceNe,Int.reduceSub,Int.reduceAdd,Int.reduceMul,Int.reduceBEq,Int.reduceBNe,Int.reduceGT,Int.reduceGE,Nat.reduceGT,Int.reduceToNat,Int.reduceNeg,Nat.reduceLeDiff,Nat.reduceBEq,Nat.reduceBneDiff, Option.isSome, stZ, ldZ]
      exact ⟨leF _ _ le15, rfl⟩
    | some key =>
      obtain rfl := wk key hk
      simp -implicitDefEqProofs only [zA,reduceIte,reduceCtorEq,Nat.reduceEqDiff,Nat.reduceAdd,Nat.reduceMul,Nat.reduceLT,Nat.reduceSub,Int.reduceLT,Int.reduceLE,Int.reduceEq,Int.reduceNe,Int.reduceSub,Int.reduceAdd,Int.reduceMul,Int.reduceBEq,Int.reduceBNe,Int.reduceGT,Int.reduceGE,Nat.reduceGT,Int.reduceToNat,Int.reduceNeg,Nat.reduceLeDiff,Nat.reduceBEq,Nat.reduceBneDiff, Option.isSome]
      unfold ir_seal_Open_37
      simp -implicitDefEqProofs only [zA,reduceIte,reduceCtorEq,Nat.reduceEqDiff,Nat.reduceAdd,Nat.reduceMul,Nat.reduceLT,Nat.reduceSub,Int.reduceLT,Int.reduceLE,Int.reduceEq,Int.reduceNe,Int.reduceSub,Int.reduceAdd,Int.reduceMul,Int.reduceBEq,Int.reduceBNe,Int.reduceGT,Int.reduceGE,Nat.reduceGT,Int.reduceToNat,Int.reduceNeg,Nat.reduceLeDiff,Nat.reduceBEq,Nat.reduceBneDiff, cd H5 le35, cn H5 le35]
      refine (epoch_Nonce_c E H5 d n (by omega) (by omega)).mono ?_
      rintro r H6 ⟨le6, rfl⟩
      have le36 := Heap.le_trans le35 le6
      simp -implicitDefEqProofs only [zA,reduceIte,reduceCtorEq,Nat.reduceEqDiff,Nat.reduceAdd,Nat.reduceMul,Nat.reduceLT,Nat.reduceSub,Int.reduceLT,Int.reduceLE,Int.reduceEq,Int.reduceNe,Int.reduceSub,Int.reduceAdd,Int.reduceMul,Int.reduceBEq,Int.reduceBNe,Int.reduceGT,Int.reduceGE,Nat.reduceGT,Int.reduceToNat,Int.reduceNeg,Nat.reduceLeDiff,Nat.reduceBEq,Nat.reduceBneDiff, c2 H5 le35, c2 H6 le36, implies_true, List.mem_cons, List.not_mem_nil, List.mem_singleton, or_false, forall_eq, forall_eq_or_imp, and_self]
      refine (seal_label_c E H6 a d n (by omega) (by omega) (by omega)).mono ?_
      rintro r3 H7 ⟨le7', ow7⟩
      have le37 := Heap.le_trans le36 le7'
      have cw : ∀ G, H5.le G → hcells G ⟨b10, 0, none⟩ 32 = some (W.map u8V) := fun G x => by
        rw [hcells_at (x _ _ q10) (by simp [wl])]; simp [List.take_of_length_le, wl]
      have ll := labW_len (a := a) (d := d) (n := n) (by omega) (by omega) (by omega)
      simp -implicitDefEqProofs only [zA,reduceIte,reduceCtorEq,Nat.reduceEqDiff,Nat.reduceAdd,Nat.reduceMul,Nat.reduceLT,Nat.reduceSub,Int.reduceLT,Int.reduceLE,Int.reduceEq,Int.reduceNe,Int.reduceSub,Int.reduceAdd,Int.reduceMul,Int.reduceBEq,Int.reduceBNe,Int.reduceGT,Int.reduceGE,Nat.reduceGT,Int.reduceToNat,Int.reduceNeg,Nat.reduceLeDiff,Nat.reduceBEq,Nat.reduceBneDiff, cw H5 (Heap.le_refl _), cw H6 le6, cw H7 (Heap.le_trans le6 le7'), implies_true, List.mem_cons, List.not_mem_nil, List.mem_singleton, or_false, forall_eq, forall_eq_or_imp, and_self]
      refine (aead_Open_c E H7 W (nonceF d n) c (labW a d n) wl (nonceF_len _ _) (by omega) (by omega) (ow2.sl.le (Heap.le_trans le7 le37)) ow7.sl).mono ?_
      rintro r5 H8 ⟨le8, r5', rfl, ow8⟩
      have le18 := Heap.le_trans le13 (Heap.le_trans le37 le8)
      have ol := openF_len W (nonceF d n) c (labW a d n)
      generalize openF W (nonceF d n) c (labW a d n) = O at ow8 ol ⊢
      obtain ⟨o1, o2⟩ := O
      simp only at ow8 ol ⊢
      by_cases ho : o1 = 0
      · subst ho
        rw [if_pos rfl]
        simp -implicitDefEqProofs only [zA,reduceIte,reduceCtorEq,Nat.reduceEqDiff,Nat.reduceAdd,Nat.reduceMul,Nat.reduceLT,Nat.reduceSub,Int.reduceLT,Int.reduceLE,Int.reduceEq,Int.reduceNe,Int.reduceSub,Int.reduceAdd,Int.reduceMul,Int.reduceBEq,Int.reduceBNe,Int.reduceGT,Int.reduceGE,Nat.reduceGT,Int.reduceToNat,Int.reduceNeg,Nat.reduceLeDiff,Nat.reduceBEq,Nat.reduceBneDiff]
        unfold ir_seal_Open_53
        simp -implicitDefEqProofs only [zA,reduceIte,reduceCtorEq,Nat.reduceEqDiff,Nat.reduceAdd,Nat.reduceMul,Nat.reduceLT,Nat.reduceSub,Int.reduceLT,Int.reduceLE,Int.reduceEq,Int.reduceNe,Int.reduceSub,Int.reduceAdd,Int.reduceMul,Int.reduceBEq,Int.reduceBNe,Int.reduceGT,Int.reduceGE,Nat.reduceGT,Int.reduceToNat,Int.reduceNeg,Nat.reduceLeDiff,Nat.reduceBEq,Nat.reduceBneDiff]
        refine (pad_Unpad_c E H8 o2 (by omega) ow8.sl).mono ?_
        rintro r H9 ⟨le9, hu⟩
        have le19 := Heap.le_trans le18 le9
        unfold unpadV at hu
        cases hx : unpadF o2 with
        | none =>
          rw [hx] at hu
          subst hu
          have stZ := stA H9 ZE le19 rfl
          have ldZ := ld H9 ZE rfl
          rw [edC_ZE] at stZ ldZ
          simp -implicitDefEqProofs only [zA,reduceIte,reduceCtorEq,Nat.reduceEqDiff,Nat.reduceAdd,Nat.reduceMul,Nat.reduceLT,Nat.reduceSub,Int.reduceLT,Int.reduceLE,Int.reduceEq,Int.reduceNe,Int.reduceSub,Int.reduceAdd,Int.reduceMul,Int.reduceBEq,Int.reduceBNe,Int.reduceGT,Int.reduceGE,Nat.reduceGT,Int.reduceToNat,Int.reduceNeg,Nat.reduceLeDiff,Nat.reduceBEq,Nat.reduceBneDiff, stZ, ldZ]
          exact ⟨leF _ _ le19, rfl⟩
        | some x =>
          rw [hx] at hu
          simp only at hu
          obtain ⟨u', rfl, su⟩ := hu
          have xl := unpadF_len hx
          simp -implicitDefEqProofs only [zA,reduceIte,reduceCtorEq,Nat.reduceEqDiff,Nat.reduceAdd,Nat.reduceMul,Nat.reduceLT,Nat.reduceSub,Int.reduceLT,Int.reduceLE,Int.reduceEq,Int.reduceNe,Int.reduceSub,Int.reduceAdd,Int.reduceMul,Int.reduceBEq,Int.reduceBNe,Int.reduceGT,Int.reduceGE,Nat.reduceGT,Int.reduceToNat,Int.reduceNeg,Nat.reduceLeDiff,Nat.reduceBEq,Nat.reduceBneDiff]
          refine (op_Get_c E H9 x (by omega) su).mono ?_
          rintro r H10 ⟨le10', rfl⟩
          rw [getE_8]
          have le110 := Heap.le_trans le19 le10'
          have e8 : ((getE 7 x).getD ZE).seen.length = 8 := by
            cases h : getE 7 x with
            | none => rfl
            | some e => exact (getE_facts h).2
          have eE : ∀ e, getE 7 x = some e → (getE 7 x).getD ZE = e := fun e h => by rw [h]; rfl
          generalize (getE 7 x).getD ZE = e at e8 eE
          simp -implicitDefEqProofs only [zA,reduceIte,reduceCtorEq,Nat.reduceEqDiff,Nat.reduceAdd,Nat.reduceMul,Nat.reduceLT,Nat.reduceSub,Int.reduceLT,Int.reduceLE,Int.reduceEq,Int.reduceNe,Int.reduceSub,Int.reduceAdd,Int.reduceMul,Int.reduceBEq,Int.reduceBNe,Int.reduceGT,Int.reduceGE,Nat.reduceGT,Int.reduceToNat,Int.reduceNeg,Nat.reduceLeDiff,Nat.reduceBEq,Nat.reduceBneDiff]
          intro b14 hb14
          try simp -implicitDefEqProofs only [zA,reduceIte,reduceCtorEq,Nat.reduceEqDiff,Nat.reduceAdd,Nat.reduceMul,Nat.reduceLT,Nat.reduceSub,Int.reduceLT,Int.reduceLE,Int.reduceEq,Int.reduceNe,Int.reduceSub,Int.reduceAdd,Int.reduceMul,Int.reduceBEq,Int.reduceBNe,Int.reduceGT,Int.reduceGE,Nat.reduceGT,Int.reduceToNat,Int.reduceNeg,Nat.reduceLeDiff,Nat.reduceBEq,Nat.reduceBneDiff]
          rw [← edC_ZE, zl]
          have st14 : storeV (H10.set b14 (.own 0 (edC ZE) 15)) 15 (.pointer (some ⟨b14, 0, none⟩)) (.agg (edC e).toArray) = some (H10.set b14 (.own 0 (edC e) 15)) := z6z (by omega) (edC_len e8) (edC_one e) zl (by omega)
          have le14 := Heap.le_set (Heap.le_refl H10) hb14 (.own 0 (edC e) 15)
          have A : EdAt (H10.set b14 (.own 0 (edC e) 15)) b14 e := EdAt.of (Heap.set_self _ _ _) e8
          simp -implicitDefEqProofs only [zA,reduceIte,reduceCtorEq,Nat.reduceEqDiff,Nat.reduceAdd,Nat.reduceMul,Nat.reduceLT,Nat.reduceSub,Int.reduceLT,Int.reduceLE,Int.reduceEq,Int.reduceNe,Int.reduceSub,Int.reduceAdd,Int.reduceMul,Int.reduceBEq,Int.reduceBNe,Int.reduceGT,Int.reduceGE,Nat.reduceGT,Int.reduceToNat,Int.reduceNeg,Nat.reduceLeDiff,Nat.reduceBEq,Nat.reduceBneDiff, st14]
          generalize (H10.set b14 (.own 0 (edC e) 15)) = H11 at le14 A ⊢
          have le111 := Heap.le_trans le110 le14
          have le311 : H3.le H11 := Heap.le_trans le37 (Heap.le_trans le8 (Heap.le_trans le9 (Heap.le_trans le10' le14)))
          have stZ := stA H11 ZE le111 rfl
          have ldZ := ld H11 ZE rfl
          rw [edC_ZE] at stZ ldZ
          have stE := stA H11 e le111 e8
          have ldE := ld H11 e e8
          unfold ir_seal_Open_65
          cases hg : getE 7 x with
          | none =>
            simp -implicitDefEqProofs only [zA,reduceIte,reduceCtorEq,Nat.reduceEqDiff,Nat.reduceAdd,Nat.reduceMul,Nat.reduceLT,Nat.reduceSub,Int.reduceLT,Int.reduceLE,Int.reduceEq,Int.reduceNe,Int.reduceSub,Int.reduceAdd,Int.reduceMul,Int.reduceBEq,Int.reduceBNe,Int.reduceGT,Int.reduceGE,Nat.reduceGT,Int.reduceToNat,Int.reduceNeg,Nat.reduceLeDiff,Nat.reduceBEq,Nat.reduceBneDiff, Option.isSome, stZ, ldZ]
            exact ⟨leF _ _ le111, rfl⟩
          | some e' =>
            obtain rfl := eE e' hg
            simp only
            have cE : hcells H11 ⟨b14, 0, none⟩ 2 = some (dotC e.dev e.n) := by
              rw [hcells_at A.own (by have := edC_len e8; omega)]
              rfl
            have cD := c2 H11 le311
            have k1 := dot_ok e.dev e.n
            have k2 := dot_ok d n
            have k3 := dot_eq e.dev e.n d n
            by_cases hd : e.dev = d ∧ e.n = n
            · rw [decide_eq_true hd] at k3
              rw [if_pos hd]
              simp -implicitDefEqProofs only [zA,reduceIte,reduceCtorEq,Nat.reduceEqDiff,Nat.reduceAdd,Nat.reduceMul,Nat.reduceLT,Nat.reduceSub,Int.reduceLT,Int.reduceLE,Int.reduceEq,Int.reduceNe,Int.reduceSub,Int.reduceAdd,Int.reduceMul,Int.reduceBEq,Int.reduceBNe,Int.reduceGT,Int.reduceGE,Nat.reduceGT,Int.reduceToNat,Int.reduceNeg,Nat.reduceLeDiff,Nat.reduceBEq,Nat.reduceBneDiff, Option.isSome, cE, cD, k1, k2, k3, A.all, stE, ldE]
              exact leF _ _ le111
            · rw [decide_eq_false hd] at k3
              rw [if_neg hd]
              simp -implicitDefEqProofs only [zA,reduceIte,reduceCtorEq,Nat.reduceEqDiff,Nat.reduceAdd,Nat.reduceMul,Nat.reduceLT,Nat.reduceSub,Int.reduceLT,Int.reduceLE,Int.reduceEq,Int.reduceNe,Int.reduceSub,Int.reduceAdd,Int.reduceMul,Int.reduceBEq,Int.reduceBNe,Int.reduceGT,Int.reduceGE,Nat.reduceGT,Int.reduceToNat,Int.reduceNeg,Nat.reduceLeDiff,Nat.reduceBEq,Nat.reduceBneDiff, Option.isSome, cE, cD, k1, k2, k3, stZ, ldZ]
              exact ⟨leF _ _ le111, rfl⟩
      · have ho' : ¬ ((o1 : Nat) : Int) = 0 := by omega
        rw [if_neg ho]
        have stZ := stA H8 ZE le18 rfl
        have ldZ := ld H8 ZE rfl
        rw [edC_ZE] at stZ ldZ
        simp -implicitDefEqProofs only [zA,reduceIte,reduceCtorEq,Nat.reduceEqDiff,Nat.reduceAdd,Nat.reduceMul,Nat.reduceLT,Nat.reduceSub,Int.reduceLT,Int.reduceLE,Int.reduceEq,Int.reduceNe,Int.reduceSub,Int.reduceAdd,Int.reduceMul,Int.reduceBEq,Int.reduceBNe,Int.reduceGT,Int.reduceGE,Nat.reduceGT,Int.reduceToNat,Int.reduceNeg,Nat.reduceLeDiff,Nat.reduceBEq,Nat.reduceBneDiff, ho', stZ, ldZ]
        exact ⟨leF _ _ le18, rfl⟩
end Go.Bb
/- Arguments: edits. -/
namespace Go.Bb
set_option linter.unusedSimpArgs false
set_option linter.unusedVariables false
set_option maxRecDepth 20000

theorem list15 {α : Type} {l : List α} (h : l.length = 15) : ∃ a0 a1 a2 a3 a4 a5 a6 a7 a8 a9 a10 a11 a12 a13 a14, l = [a0, a1, a2, a3, a4, a5, a6, a7, a8, a9, a10, a11, a12, a13, a14] := by
  match l, h with
  | [a0, a1, a2, a3, a4, a5, a6, a7, a8, a9, a10, a11, a12, a13, a14], _ => exact ⟨a0, a1, a2, a3, a4, a5, a6, a7, a8, a9, a10, a11, a12, a13, a14, rfl⟩
theorem str_strV (s : ByteArray) : Value.string s = strV s.data.toList := by simp [strV]
theorem ok_edC {W : World} {v : Value} (h : Shp.ok W (.struct 15 (.fld 0 2 (.struct 2 (.fld 0 1 (.int .i64) (.fld 1 1 (.int .i64) .fend))) (.fld 2 8 (.array 8 1 (.int .i64)) (.fld 10 1 (.int .i64) (.fld 11 1 .str (.fld 12 1 .str (.fld 13 1 .str (.fld 14 1 (.int .i64) .fend)))))))) v) :
    ∃ e : Ed, v = .agg (Value.int .i64 e.dev :: .int .i64 e.n :: (e.seen.map (.int .i64) ++ [.int .i64 e.kind, strV e.con, strV e.fld, strV e.val, .int .i64 e.time])).toArray ∧ e.seen.length = 8 ∧ -9223372036854775808 ≤ e.n ∧ e.n ≤ 9223372036854775807 ∧ -9223372036854775808 ≤ e.dev ∧ e.dev ≤ 9223372036854775807 ∧ e.con.length ≤ 9223372036854775807 ∧ e.fld.length ≤ 9223372036854775807 ∧ e.val.length ≤ 9223372036854775807 := by
  obtain ⟨⟨h1, h2⟩, h3⟩ := h
  simp only [Shp.wide, if_true] at h3
  obtain ⟨cs, rfl⟩ := h3
  have hc : (Value.agg cs).cells = cs := rfl
  rw [hc] at h1 h2
  obtain ⟨c0, c1, c2, c3, c4, c5, c6, c7, c8, c9, c10, c11, c12, c13, c14, hl⟩ := list15 h1
  rw [hl] at h2
  simp only [Shp.okC] at h2
  obtain ⟨⟨-, ⟨d, e0, d1, d2⟩, ⟨n, e1, n1, n2⟩, -⟩, ⟨-, hs⟩, ⟨k, e10, k1, k2⟩, ⟨s11, e11, l11⟩, ⟨s12, e12, l12⟩, ⟨s13, e13, l13⟩, ⟨t, e14, t1, t2⟩, -⟩ := h2
  obtain ⟨x0, f0, -⟩ := hs 0 (by omega)
  obtain ⟨x1, f1, -⟩ := hs 1 (by omega)
  obtain ⟨x2, f2, -⟩ := hs 2 (by omega)
  obtain ⟨x3, f3, -⟩ := hs 3 (by omega)
  obtain ⟨x4, f4, -⟩ := hs 4 (by omega)
  obtain ⟨x5, f5, -⟩ := hs 5 (by omega)
  obtain ⟨x6, f6, -⟩ := hs 6 (by omega)
  obtain ⟨x7, f7, -⟩ := hs 7 (by omega)
  cases e0; cases e1; cases e10; cases e11; cases e12; cases e13; cases e14
  cases f0; cases f1; cases f2; cases f3; cases f4; cases f5; cases f6; cases f7
  refine ⟨⟨d, n, [x0, x1, x2, x3, x4, x5, x6, x7], k, s11.data.toList, s12.data.toList, s13.data.toList, t⟩, ?_, rfl, n1, n2, d1, d2, by simpa using l11, by simpa using l12, by simpa using l13⟩
  congr 1
  apply Array.toList_inj.1
  rw [hl]
  simp only [str_strV]
  rfl
end Go.Bb
/- The laws of sealed edits: rings, an edit, awake. -/
namespace Go.Bb
set_option linter.unusedSimpArgs false
set_option linter.unusedVariables false
set_option maxRecDepth 20000
set_option maxHeartbeats 2000000

/-- The ring of some keys. -/
def ringL (K : List UInt8) : RL := K.zipIdx.map fun x => ((x.2 : Int), word1 x.1)
theorem ringL_len (K : List UInt8) : (ringL K).length = K.length := by simp [ringL]
theorem ringL_get (K : List UInt8) (i : Nat) (h : i < (ringL K).length) : (ringL K)[i] = ((i : Int), word1 (K[i]'(by rw [ringL_len] at h; exact h))) := by
  simp [ringL]
theorem ringL_snoc (A : List UInt8) (k : UInt8) : ringL (A ++ [k]) = ringL A ++ [((A.length : Int), word1 k)] := by
  simp [ringL, List.zipIdx_append]
theorem ringL_mem {K : List UInt8} {y : Int × List UInt8} (h : y ∈ ringL K) : ∃ i : Nat, i < K.length ∧ y.1 = i ∧ y.2.length = 32 := by
  obtain ⟨i, hi, rfl⟩ := List.getElem_of_mem h
  rw [ringL_get]
  rw [ringL_len] at hi
  exact ⟨i, hi, rfl, rfl⟩
theorem ringL_no {K : List UInt8} {k : Int} (h : k < 0 ∨ (K.length : Int) ≤ k) : getK (ringL K) k = none := by
  refine getK_no fun y hy => ?_
  obtain ⟨i, hi, e, -⟩ := ringL_mem hy
  rw [e]; omega
theorem ringL_at {K : List UInt8} (i : Nat) (h : i < K.length) : getK (ringL K) i = some (word1 K[i]) := by
  have hi : i < (ringL K).length := by rw [ringL_len]; exact h
  have := getK_at (L := ringL K) (k := (i : Int)) hi (fun y hy => by
    obtain ⟨j, hj, rfl⟩ := List.getElem_of_mem hy
    rw [List.getElem_take, ringL_get]
    simp only [List.length_take] at hj
    simp only
    omega) (by rw [ringL_get])
  rw [this, ringL_get]
theorem ringL_ok (K : List UInt8) (h : K.length ≤ 1000) : LOk K.length (ringL K) :=
  ⟨fun x hx => (ringL_mem hx).choose_spec.2.2, fun y hy => by
    obtain ⟨i, hi, e, -⟩ := ringL_mem hy
    rw [e]; omega, by rw [ringL_len]; exact Nat.le_refl _⟩
theorem ringL_put (A : List UInt8) (k : UInt8) (h : A.length < 500) : putF (ringL A) A.length (word1 k) = (ringL (A ++ [k]), 0) := by
  unfold putF
  have g := ringL_no (K := A) (k := A.length) (.inr (Int.le_refl _))
  rw [if_pos (by omega), g]
  simp only
  rw [if_neg (by rw [ringL_len]; omega), ringL_snoc]
theorem law23_rings_c (E : EnvT tab) (H : Heap) {v : Value} (K : List UInt8) (hK : K.length ≤ 400) (s : SlB H v K) :
    ACallN E.toEnv n_bandboxlaw23_rings [v] H fun r H' => H.le H' ∧ ∃ p w, r = .tuple #[.pointer (some ⟨p, 0, none⟩), .pointer (some ⟨w, 0, none⟩)] ∧ P2 H H' p w (ringL K) := by
  obtain ⟨kb, kc, rfl⟩ := Sl.shape s
  refine acall h_bandboxlaw23_rings ir_bandboxlaw23_rings rfl rfl (wpA_sound ?_)
  unfold ir_bandboxlaw23_rings
  simp -implicitDefEqProofs only [zA,reduceIte,reduceCtorEq,Nat.reduceEqDiff,Nat.reduceAdd,Nat.reduceMul,Nat.reduceLT,Nat.reduceSub,Int.reduceLT,Int.reduceLE,Int.reduceEq,Int.reduceNe,Int.reduceSub,Int.reduceAdd,Int.reduceMul,Int.reduceBEq,Int.reduceBNe,Int.reduceGT,Int.reduceGE,Nat.reduceGT,Int.reduceToNat,Int.reduceNeg,Nat.reduceLeDiff,Nat.reduceBEq,Nat.reduceBneDiff]
  refine (epoch_New_c E H).mono ?_
  rintro pv h2 ⟨le2, R2⟩
  obtain ⟨p, hp⟩ : ∃ p, pv = .pointer (some ⟨p, 0, none⟩) := by
    obtain ⟨b, r, es, cc, e, _⟩ := R2
    exact ⟨b, e⟩
  subst hp
  simp -implicitDefEqProofs only [zA,reduceIte,reduceCtorEq,Nat.reduceEqDiff,Nat.reduceAdd,Nat.reduceMul,Nat.reduceLT,Nat.reduceSub,Int.reduceLT,Int.reduceLE,Int.reduceEq,Int.reduceNe,Int.reduceSub,Int.reduceAdd,Int.reduceMul,Int.reduceBEq,Int.reduceBNe,Int.reduceGT,Int.reduceGE,Nat.reduceGT,Int.reduceToNat,Int.reduceNeg,Nat.reduceLeDiff,Nat.reduceBEq,Nat.reduceBneDiff]
  intro w hw
  try simp -implicitDefEqProofs only [zA,reduceIte,reduceCtorEq,Nat.reduceEqDiff,Nat.reduceAdd,Nat.reduceMul,Nat.reduceLT,Nat.reduceSub,Int.reduceLT,Int.reduceLE,Int.reduceEq,Int.reduceNe,Int.reduceSub,Int.reduceAdd,Int.reduceMul,Int.reduceBEq,Int.reduceBNe,Int.reduceGT,Int.reduceGE,Nat.reduceGT,Int.reduceToNat,Int.reduceNeg,Nat.reduceLeDiff,Nat.reduceBEq,Nat.reduceBneDiff]
  have P0 : P2 H (h2.set w (.own 0 [.slice none 0 0] 1)) p w [] := by
    have hw1 : H w = none := Heap.none_of_le le2 hw
    refine ⟨H.set w (.own 0 [.slice none 0 0] 1), Heap.le_set (Heap.le_refl _) hw1 _, hw1, ?_, ?_, .slice none 0 0, Heap.set_self _ _ _, .inl ⟨rfl, rfl, rfl⟩⟩
    · intro c x hx
      by_cases e : c = w
      · subst e; rw [Heap.set_self] at hx ⊢; exact hx
      · rw [Heap.set_ne e] at hx ⊢; exact le2 _ _ hx
    · obtain ⟨b, r, es, cc, e1, e2, e3, e4, e5, e6, e7⟩ := R2
      have hb : b ≠ w := by intro e; subst e; rw [hw] at e5; cases e5
      have hr : r ≠ w := by intro e; subst e; rw [hw] at e6; cases e6
      exact ⟨b, r, es, cc, e1, by rw [Heap.set_ne hb]; exact e2, by rw [Heap.set_ne hr]; exact e3, e4, by rw [Heap.set_ne hb]; exact e5, by rw [Heap.set_ne hr]; exact e6, e7⟩
  generalize (h2.set w (.own 0 [.slice none 0 0] 1)) = h3 at P0 ⊢
  clear R2 le2 hw
  refine wp_loop' (fun m t G => ∃ (i : Nat), t = tl [(0, .slice kb K.length kc), (4, .pointer (some ⟨p, 0, none⟩)), (5, .pointer (some ⟨w, 0, none⟩)), (6, .int .i64 i)] ∧ i ≤ K.length ∧ m = K.length - i ∧ P2 H G p w (ringL (K.take i))) K.length
    ⟨0, rfl, by omega, by omega, P0⟩ ?_
  rintro m t G ⟨i, rfl, hi, rfl, P⟩
  have leG : H.le G := by obtain ⟨h0, a, b, c, d, e⟩ := P; exact Heap.le_trans a c
  by_cases hlt : i < K.length
  · have hi1 : (i : Int) < K.length := by omega
    have hi2 : (0 : Int) ≤ i := by omega
    have w1 : IntKind.i64.wrap ((i : Int) + 1) = ((i + 1 : Nat) : Int) := wrapN (by omega)
    obtain ⟨b, o, c', hv, ck⟩ := u8_at s i hlt
    simp only [Value.slice.injEq, true_and] at hv
    obtain ⟨rfl, rfl⟩ := hv
    have ckG := ck G leG
    have tk : (K.take i).length = i := by rw [List.length_take]; omega
    have I := ringL_ok (K.take i) (by omega)
    rw [tk] at I
    have ts : K.take (i + 1) = K.take i ++ [K[i]] := List.take_succ_eq_append_getElem hlt
    have pu := ringL_put (K.take i) K[i] (by omega)
    rw [tk, ← ts] at pu
    generalize K[i]'(by omega) = kx at ck ckG pu
    simp -implicitDefEqProofs only [zA,reduceIte,reduceCtorEq,Nat.reduceEqDiff,Nat.reduceAdd,Nat.reduceMul,Nat.reduceLT,Nat.reduceSub,Int.reduceLT,Int.reduceLE,Int.reduceEq,Int.reduceNe,Int.reduceSub,Int.reduceAdd,Int.reduceMul,Int.reduceBEq,Int.reduceBNe,Int.reduceGT,Int.reduceGE,Nat.reduceGT,Int.reduceToNat,Int.reduceNeg,Nat.reduceLeDiff,Nat.reduceBEq,Nat.reduceBneDiff, hi1]
    unfold ir_bandboxlaw23_rings_20
    simp -implicitDefEqProofs only [zA,reduceIte,reduceCtorEq,Nat.reduceEqDiff,Nat.reduceAdd,Nat.reduceMul,Nat.reduceLT,Nat.reduceSub,Int.reduceLT,Int.reduceLE,Int.reduceEq,Int.reduceNe,Int.reduceSub,Int.reduceAdd,Int.reduceMul,Int.reduceBEq,Int.reduceBNe,Int.reduceGT,Int.reduceGE,Nat.reduceGT,Int.reduceToNat,Int.reduceNeg,Nat.reduceLeDiff,Nat.reduceBEq,Nat.reduceBneDiff, hi1, hi2, Int.toNat_natCast, ckG, List.length_replicate, word1_row]
    refine (P2.put E P I (by omega) i (wd := word1 kx) (word1_len _)).mono ?_
    rintro r H1 ⟨rfl, le1, n2⟩
    have ckH1 := ck H1 le1
    simp -implicitDefEqProofs only [zA,reduceIte,reduceCtorEq,Nat.reduceEqDiff,Nat.reduceAdd,Nat.reduceMul,Nat.reduceLT,Nat.reduceSub,Int.reduceLT,Int.reduceLE,Int.reduceEq,Int.reduceNe,Int.reduceSub,Int.reduceAdd,Int.reduceMul,Int.reduceBEq,Int.reduceBNe,Int.reduceGT,Int.reduceGE,Nat.reduceGT,Int.reduceToNat,Int.reduceNeg,Nat.reduceLeDiff,Nat.reduceBEq,Nat.reduceBneDiff, hi1, hi2, Int.toNat_natCast, ckH1, List.length_replicate, word1_row]
    refine n2.mono ?_
    rintro r H2 ⟨rfl, P2'⟩
    rw [pu] at P2'
    simp -implicitDefEqProofs only [zA,reduceIte,reduceCtorEq,Nat.reduceEqDiff,Nat.reduceAdd,Nat.reduceMul,Nat.reduceLT,Nat.reduceSub,Int.reduceLT,Int.reduceLE,Int.reduceEq,Int.reduceNe,Int.reduceSub,Int.reduceAdd,Int.reduceMul,Int.reduceBEq,Int.reduceBNe,Int.reduceGT,Int.reduceGE,Nat.reduceGT,Int.reduceToNat,Int.reduceNeg,Nat.reduceLeDiff,Nat.reduceBEq,Nat.reduceBneDiff, w1]
    exact ⟨K.length - (i + 1), by omega, i + 1, rfl, by omega, rfl, P2'⟩
  · have e : i = K.length := by omega
    subst e
    rw [List.take_length] at P
    have hi1 : ¬ (K.length : Int) < K.length := by omega
    simp -implicitDefEqProofs only [zA,reduceIte,reduceCtorEq,Nat.reduceEqDiff,Nat.reduceAdd,Nat.reduceMul,Nat.reduceLT,Nat.reduceSub,Int.reduceLT,Int.reduceLE,Int.reduceEq,Int.reduceNe,Int.reduceSub,Int.reduceAdd,Int.reduceMul,Int.reduceBEq,Int.reduceBNe,Int.reduceGT,Int.reduceGE,Nat.reduceGT,Int.reduceToNat,Int.reduceNeg,Nat.reduceLeDiff,Nat.reduceBEq,Nat.reduceBneDiff, hi1]
    exact ⟨leG, p, w, rfl, P⟩
end Go.Bb
/- The law SealBack. -/
namespace Go.Bb
set_option linter.unusedSimpArgs false
set_option linter.unusedVariables false
set_option maxRecDepth 20000
set_option maxHeartbeats 2000000

def someE : Ed := ⟨1, 2, [0, 1, 0, 0, 0, 0, 0, 0], 1, [99], [102], [118], 0⟩
theorem someE_ok : EdOk someE := ⟨rfl, by decide, by decide, by decide, by decide⟩
theorem someE_good : goodE someE = true := by decide
theorem law23_some_c (E : EnvT tab) (H : Heap) : ACallN E.toEnv n_bandboxlaw23_some [] H fun r H' => H.le H' ∧ r = .agg (edC someE).toArray := by
  refine acall h_bandboxlaw23_some ir_bandboxlaw23_some rfl rfl (wpA_sound ?_)
  unfold ir_bandboxlaw23_some
  have r8 : List.replicate 8 (Value.int .i64 0) = [.int .i64 0, .int .i64 0, .int .i64 0, .int .i64 0, .int .i64 0, .int .i64 0, .int .i64 0, .int .i64 0] := rfl
  have rz : List.replicate 11 (Value.int .i64 0) ++ [Value.string .empty, .string .empty, .string .empty, .int .i64 0] = edC ZE := rfl
  have zl := edC_len (e := ZE) rfl
  have zx : edC ZE = [.int .i64 0, .int .i64 0, .int .i64 0, .int .i64 0, .int .i64 0, .int .i64 0, .int .i64 0, .int .i64 0, .int .i64 0, .int .i64 0, .int .i64 0, .string .empty, .string .empty, .string .empty, .int .i64 0] := rfl
  rw [rz]
  simp -implicitDefEqProofs only [zA,reduceIte,reduceCtorEq,Nat.reduceEqDiff,Nat.reduceAdd,Nat.reduceMul,Nat.reduceLT,Nat.reduceSub,Int.reduceLT,Int.reduceLE,Int.reduceEq,Int.reduceNe,Int.reduceSub,Int.reduceAdd,Int.reduceMul,Int.reduceBEq,Int.reduceBNe,Int.reduceGT,Int.reduceGE,Nat.reduceGT,Int.reduceToNat,Int.reduceNeg,Nat.reduceLeDiff,Nat.reduceBEq,Nat.reduceBneDiff]
  intro b hb
  rw [zl]
  try simp -implicitDefEqProofs only [zA,reduceIte,reduceCtorEq,Nat.reduceEqDiff,Nat.reduceAdd,Nat.reduceMul,Nat.reduceLT,Nat.reduceSub,Int.reduceLT,Int.reduceLE,Int.reduceEq,Int.reduceNe,Int.reduceSub,Int.reduceAdd,Int.reduceMul,Int.reduceBEq,Int.reduceBNe,Int.reduceGT,Int.reduceGE,Nat.reduceGT,Int.reduceToNat,Int.reduceNeg,Nat.reduceLeDiff,Nat.reduceBEq,Nat.reduceBneDiff, r8, zx, List.length_cons, List.length_nil, List.drop_succ_cons, List.drop_zero, List.take_succ_cons, List.take_zero, List.cons_append, List.nil_append, List.take_nil, List.drop_nil]
  exact ⟨Heap.le_set (Heap.le_refl _) hb _, rfl⟩
theorem law23_long_c (E : EnvT tab) (H : Heap) (e : Ed) (h8 : e.seen.length = 8) : ACallN E.toEnv n_bandboxlaw23_long [.agg (edC e).toArray] H fun r H' => H.le H' ∧ r = .bool (decide (60 < e.con.length ∨ 60 < e.fld.length ∨ 250 < e.val.length)) := by
  refine acall h_bandboxlaw23_long ir_bandboxlaw23_long rfl rfl (wpA_sound ?_)
  unfold ir_bandboxlaw23_long
  have el := edC_len h8
  simp -implicitDefEqProofs only [zA,reduceIte,reduceCtorEq,Nat.reduceEqDiff,Nat.reduceAdd,Nat.reduceMul,Nat.reduceLT,Nat.reduceSub,Int.reduceLT,Int.reduceLE,Int.reduceEq,Int.reduceNe,Int.reduceSub,Int.reduceAdd,Int.reduceMul,Int.reduceBEq,Int.reduceBNe,Int.reduceGT,Int.reduceGE,Nat.reduceGT,Int.reduceToNat,Int.reduceNeg,Nat.reduceLeDiff,Nat.reduceBEq,Nat.reduceBneDiff]
  intro b hb
  try simp -implicitDefEqProofs only [zA,reduceIte,reduceCtorEq,Nat.reduceEqDiff,Nat.reduceAdd,Nat.reduceMul,Nat.reduceLT,Nat.reduceSub,Int.reduceLT,Int.reduceLE,Int.reduceEq,Int.reduceNe,Int.reduceSub,Int.reduceAdd,Int.reduceMul,Int.reduceBEq,Int.reduceBNe,Int.reduceGT,Int.reduceGE,Nat.reduceGT,Int.reduceToNat,Int.reduceNeg,Nat.reduceLeDiff,Nat.reduceBEq,Nat.reduceBneDiff]
  rw [el]
  have le1 := Heap.le_set (Heap.le_refl H) hb (.own 0 (edC e) 15)
  have A : EdAt (H.set b (.own 0 (edC e) 15)) b e := EdAt.of (Heap.set_self _ _ _) h8
  generalize (H.set b (.own 0 (edC e) 15)) = H1 at le1 A
  have v1 : strV e.con = .string ⟨e.con.toArray⟩ := rfl
  have v2 : strV e.fld = .string ⟨e.fld.toArray⟩ := rfl
  have v3 : strV e.val = .string ⟨e.val.toArray⟩ := rfl
  have z1 := strW_size e.con
  have z2 := strW_size e.fld
  have z3 := strW_size e.val
  have k1 := A.con
  have k2 := A.fld
  have k3 := A.val
  rw [v1] at k1
  rw [v2] at k2
  rw [v3] at k3
  by_cases g1 : 60 < e.con.length
  · have g1' : (60 : Int) < e.con.length := by omega
    simp -implicitDefEqProofs only [zA,reduceIte,reduceCtorEq,Nat.reduceEqDiff,Nat.reduceAdd,Nat.reduceMul,Nat.reduceLT,Nat.reduceSub,Int.reduceLT,Int.reduceLE,Int.reduceEq,Int.reduceNe,Int.reduceSub,Int.reduceAdd,Int.reduceMul,Int.reduceBEq,Int.reduceBNe,Int.reduceGT,Int.reduceGE,Nat.reduceGT,Int.reduceToNat,Int.reduceNeg,Nat.reduceLeDiff,Nat.reduceBEq,Nat.reduceBneDiff, k1, z1, g1', g1, true_or, decide_true]
    exact le1
  have g1' : ¬ (60 : Int) < e.con.length := by omega
  by_cases g2 : 60 < e.fld.length
  · have g2' : (60 : Int) < e.fld.length := by omega
    simp -implicitDefEqProofs only [zA,reduceIte,reduceCtorEq,Nat.reduceEqDiff,Nat.reduceAdd,Nat.reduceMul,Nat.reduceLT,Nat.reduceSub,Int.reduceLT,Int.reduceLE,Int.reduceEq,Int.reduceNe,Int.reduceSub,Int.reduceAdd,Int.reduceMul,Int.reduceBEq,Int.reduceBNe,Int.reduceGT,Int.reduceGE,Nat.reduceGT,Int.reduceToNat,Int.reduceNeg,Nat.reduceLeDiff,Nat.reduceBEq,Nat.reduceBneDiff, k1, k2, z1, z2, g1', g1, g2', g2, true_or, or_true, decide_true]
    exact le1
  have g2' : ¬ (60 : Int) < e.fld.length := by omega
  by_cases g3 : 250 < e.val.length
  · have g3' : (250 : Int) < e.val.length := by omega
    simp -implicitDefEqProofs only [zA,reduceIte,reduceCtorEq,Nat.reduceEqDiff,Nat.reduceAdd,Nat.reduceMul,Nat.reduceLT,Nat.reduceSub,Int.reduceLT,Int.reduceLE,Int.reduceEq,Int.reduceNe,Int.reduceSub,Int.reduceAdd,Int.reduceMul,Int.reduceBEq,Int.reduceBNe,Int.reduceGT,Int.reduceGE,Nat.reduceGT,Int.reduceToNat,Int.reduceNeg,Nat.reduceLeDiff,Nat.reduceBEq,Nat.reduceBneDiff, k1, k2, k3, z1, z2, z3, g1', g1, g2', g2, g3', g3, true_or, or_true, decide_true]
    exact le1
  · have g3' : ¬ (250 : Int) < e.val.length := by omega
    simp -implicitDefEqProofs only [zA,reduceIte,reduceCtorEq,Nat.reduceEqDiff,Nat.reduceAdd,Nat.reduceMul,Nat.reduceLT,Nat.reduceSub,Int.reduceLT,Int.reduceLE,Int.reduceEq,Int.reduceNe,Int.reduceSub,Int.reduceAdd,Int.reduceMul,Int.reduceBEq,Int.reduceBNe,Int.reduceGT,Int.reduceGE,Nat.reduceGT,Int.reduceToNat,Int.reduceNeg,Nat.reduceLeDiff,Nat.reduceBEq,Nat.reduceBneDiff, k1, k2, k3, z1, z2, z3, g1', g1, g2', g2, g3', g3, or_self, decide_false]
    exact le1
theorem P2.ring {h1 H : Heap} {p w : Nat} {L : RL} (P : P2 h1 H p w L) : ∃ h0, h0.le H ∧ RingR h0 H (.pointer (some ⟨p, 0, none⟩)) L ∧ h1.le h0 := by
  obtain ⟨h0, a, c, d, R, G⟩ := P
  exact ⟨h0, d, R, a⟩
theorem RingR.off {h0 H : Heap} {p : Value} {L : RL} (R : RingR h0 H p L) (le : h0.le H) {b7 : Nat} (hb : h0 b7 ≠ none) (X : Blk) : ∃ h0', h0'.le (H.set b7 X) ∧ RingR h0' (H.set b7 X) p L ∧ h0' b7 = none ∧ ∀ c, c ≠ b7 → h0' c = h0 c := by
  obtain ⟨b, r, es, c, e1, e2, e3, e4, e5, e6, e7⟩ := R
  have n1 : b ≠ b7 := by intro e; subst e; exact hb e2
  have n2 : r ≠ b7 := by intro e; subst e; exact hb e3
  refine ⟨fun c => if c = b7 then none else h0 c, ?_, ⟨b, r, es, c, e1, by simp only; rw [if_neg n1]; exact e2, by simp only; rw [if_neg n2]; exact e3, e4, by rw [Heap.set_ne n1]; exact e5, by rw [Heap.set_ne n2]; exact e6, e7⟩, by simp, fun c hc => by simp only; rw [if_neg hc]⟩
  intro c x hx
  simp only at hx
  split at hx
  · cases hx
  · rename_i hc
    rw [Heap.set_ne hc]; exact le _ _ hx
theorem P2.leH {h1 H : Heap} {p w : Nat} {L : RL} (P : P2 h1 H p w L) : h1.le H := by
  obtain ⟨h0, a, c, d, R, G⟩ := P
  exact Heap.le_trans a d
theorem ed_ok (e : Ed) (h8 : e.seen.length = 8) : leavesOk (List.replicate 11 (some IntKind.i64) ++ [none, none, none, some .i64]) (edC e) = true := by
  obtain ⟨dev, n, seen, kind, con, fld, val, time⟩ := e
  simp only at h8
  match seen, h8 with
  | [a0, a1, a2, a3, a4, a5, a6, a7], _ => rfl
theorem leavesEq_self : ∀ l : List Value, (∀ v ∈ l, leafEq v v = true) → leavesEq l l = true
  | [], _ => rfl
  | v :: l, h => by
      rw [leavesEq, h v (by simp), leavesEq_self l fun u hu => h u (by simp [hu])]
      rfl
theorem ed_eq (e : Ed) : leavesEq (edC e) (edC e) = true := by
  refine leavesEq_self _ fun v hv => ?_
  have hi : ∀ n : Int, leafEq (.int .i64 n) (.int .i64 n) = true := fun n => by simp [leafEq]
  have hs : ∀ l : List UInt8, leafEq (strV l) (strV l) = true := fun l => by simp [leafEq, strV]
  unfold edC at hv
  rcases List.mem_cons.1 hv with rfl | hv
  · exact hi _
  rcases List.mem_cons.1 hv with rfl | hv
  · exact hi _
  rcases List.mem_append.1 hv with hv | hv
  · obtain ⟨n, -, rfl⟩ := List.mem_map.1 hv
    exact hi _
  simp only [List.mem_cons, List.not_mem_nil, or_false] at hv
  rcases hv with rfl | rfl | rfl | rfl | rfl
  · exact hi _
  · exact hs _
  · exact hs _
  · exact hs _
  · exact hi _
theorem putE_some : (putE someE).length = 18 := by
  simp [putE, someE, numsW, bytesW, numF_lt]
theorem sizeE_some : sizeL someE = 64 := by
  unfold sizeL
  rw [if_pos someE_good, putE_some]
  rfl
theorem law23_awake_c (E : EnvT tab) (H : Heap) : ACallN E.toEnv n_bandboxlaw23_awake [] H fun r H' => H.le H' ∧ r = .bool true := by
  refine acall h_bandboxlaw23_awake ir_bandboxlaw23_awake rfl rfl (wpA_sound ?_)
  unfold ir_bandboxlaw23_awake
  simp -implicitDefEqProofs only [zA,reduceIte,reduceCtorEq,Nat.reduceEqDiff,Nat.reduceAdd,Nat.reduceMul,Nat.reduceLT,Nat.reduceSub,Int.reduceLT,Int.reduceLE,Int.reduceEq,Int.reduceNe,Int.reduceSub,Int.reduceAdd,Int.reduceMul,Int.reduceBEq,Int.reduceBNe,Int.reduceGT,Int.reduceGE,Nat.reduceGT,Int.reduceToNat,Int.reduceNeg,Nat.reduceLeDiff,Nat.reduceBEq,Nat.reduceBneDiff, List.length_replicate, List.drop_replicate, List.replicate_zero]
  intro b0 hb0
  try simp -implicitDefEqProofs only [zA,reduceIte,reduceCtorEq,Nat.reduceEqDiff,Nat.reduceAdd,Nat.reduceMul,Nat.reduceLT,Nat.reduceSub,Int.reduceLT,Int.reduceLE,Int.reduceEq,Int.reduceNe,Int.reduceSub,Int.reduceAdd,Int.reduceMul,Int.reduceBEq,Int.reduceBNe,Int.reduceGT,Int.reduceGE,Nat.reduceGT,Int.reduceToNat,Int.reduceNeg,Nat.reduceLeDiff,Nat.reduceBEq,Nat.reduceBneDiff]
  have le0 := Heap.le_set (Heap.le_refl H) hb0 (.own 0 [.int .u8 7] 1)
  have s0 : SlB (H.set b0 (.own 0 [.int .u8 7] 1)) (.slice (some ⟨b0, 0, none⟩) 1 1) [7] := Sl.lit (n := 1) rfl
  generalize (H.set b0 (.own 0 [.int .u8 7] 1)) = H0 at le0 s0 ⊢
  refine (law23_rings_c E H0 [7] (by simp) s0).mono ?_
  rintro r H1 ⟨le1, p, w, rfl, P⟩
  have I := ringL_ok [7] (by simp)
  obtain ⟨h0, leR, R, -⟩ := P.ring
  have hg : getK (ringL [7]) 0 = some (word1 7) := ringL_at 0 (by simp)
  simp -implicitDefEqProofs only [zA,reduceIte,reduceCtorEq,Nat.reduceEqDiff,Nat.reduceAdd,Nat.reduceMul,Nat.reduceLT,Nat.reduceSub,Int.reduceLT,Int.reduceLE,Int.reduceEq,Int.reduceNe,Int.reduceSub,Int.reduceAdd,Int.reduceMul,Int.reduceBEq,Int.reduceBNe,Int.reduceGT,Int.reduceGE,Nat.reduceGT,Int.reduceToNat,Int.reduceNeg,Nat.reduceLeDiff,Nat.reduceBEq,Nat.reduceBneDiff]
  unfold ir_bandboxlaw23_awake_12
  simp -implicitDefEqProofs only [zA,reduceIte,reduceCtorEq,Nat.reduceEqDiff,Nat.reduceAdd,Nat.reduceMul,Nat.reduceLT,Nat.reduceSub,Int.reduceLT,Int.reduceLE,Int.reduceEq,Int.reduceNe,Int.reduceSub,Int.reduceAdd,Int.reduceMul,Int.reduceBEq,Int.reduceBNe,Int.reduceGT,Int.reduceGE,Nat.reduceGT,Int.reduceToNat,Int.reduceNeg,Nat.reduceLeDiff,Nat.reduceBEq,Nat.reduceBneDiff]
  refine (law23_some_c E H1).mono ?_
  rintro r H2 ⟨le2, rfl⟩
  simp -implicitDefEqProofs only [zA,reduceIte,reduceCtorEq,Nat.reduceEqDiff,Nat.reduceAdd,Nat.reduceMul,Nat.reduceLT,Nat.reduceSub,Int.reduceLT,Int.reduceLE,Int.reduceEq,Int.reduceNe,Int.reduceSub,Int.reduceAdd,Int.reduceMul,Int.reduceBEq,Int.reduceBNe,Int.reduceGT,Int.reduceGE,Nat.reduceGT,Int.reduceToNat,Int.reduceNeg,Nat.reduceLeDiff,Nat.reduceBEq,Nat.reduceBneDiff]
  refine (seal_Seal_c E (Heap.le_trans leR le2) (R.le le2) I.l32 I.rng 0 someE someE_ok).mono ?_
  rintro r H3 ⟨le3, r', rfl, ow3⟩
  have e3 : sealL (ringL [7]) 0 someE = (0, bodyF (word1 7) 0 someE) := by
    unfold sealL
    rw [if_pos someE_good, hg]
    rfl
  rw [e3] at ow3 ⊢
  have bl := body_len (word1 7) 0 someE_good rfl
  have bl2 : (bodyF (word1 7) 0 someE).length = 84 := by
    rw [bl, sizeE_some]
    simp [labW, someE, numF_lt]
  obtain ⟨rb, rc, rfl⟩ := Sl.shape ow3.sl
  simp only at ow3
  have s3 := ow3.sl
  rw [bl2]
  simp -implicitDefEqProofs only [zA,reduceIte,reduceCtorEq,Nat.reduceEqDiff,Nat.reduceAdd,Nat.reduceMul,Nat.reduceLT,Nat.reduceSub,Int.reduceLT,Int.reduceLE,Int.reduceEq,Int.reduceNe,Int.reduceSub,Int.reduceAdd,Int.reduceMul,Int.reduceBEq,Int.reduceBNe,Int.reduceGT,Int.reduceGE,Nat.reduceGT,Int.reduceToNat,Int.reduceNeg,Nat.reduceLeDiff,Nat.reduceBEq,Nat.reduceBneDiff]
  refine (seal_Open_c E (Heap.le_trans leR (Heap.le_trans le2 le3)) (R.le (Heap.le_trans le2 le3)) I.l32 (bodyF (word1 7) 0 someE) (by omega) (by rw [← bl2]; exact s3)).mono ?_
  rintro r H4 ⟨le4, rfl⟩
  have e4 := open_seal_L (ringL [7]) (word1 7) 0 (by omega) someE_good rfl hg
  have e5 : bodyF (word1 7) (0 : Int).toNat someE = bodyF (word1 7) 0 someE := rfl
  rw [e5] at e4
  rw [e4]
  have zl := edC_len (e := ZE) rfl
  simp -implicitDefEqProofs only [zA,reduceIte,reduceCtorEq,Nat.reduceEqDiff,Nat.reduceAdd,Nat.reduceMul,Nat.reduceLT,Nat.reduceSub,Int.reduceLT,Int.reduceLE,Int.reduceEq,Int.reduceNe,Int.reduceSub,Int.reduceAdd,Int.reduceMul,Int.reduceBEq,Int.reduceBNe,Int.reduceGT,Int.reduceGE,Nat.reduceGT,Int.reduceToNat,Int.reduceNeg,Nat.reduceLeDiff,Nat.reduceBEq,Nat.reduceBneDiff]
  intro b5 hb5
  rw [← edC_ZE, zl]
  try simp -implicitDefEqProofs only [zA,reduceIte,reduceCtorEq,Nat.reduceEqDiff,Nat.reduceAdd,Nat.reduceMul,Nat.reduceLT,Nat.reduceSub,Int.reduceLT,Int.reduceLE,Int.reduceEq,Int.reduceNe,Int.reduceSub,Int.reduceAdd,Int.reduceMul,Int.reduceBEq,Int.reduceBNe,Int.reduceGT,Int.reduceGE,Nat.reduceGT,Int.reduceToNat,Int.reduceNeg,Nat.reduceLeDiff,Nat.reduceBEq,Nat.reduceBneDiff]
  have st5 : storeV (H4.set b5 (.own 0 (edC ZE) 15)) 15 (.pointer (some ⟨b5, 0, none⟩)) (.agg (edC someE).toArray) = some (H4.set b5 (.own 0 (edC someE) 15)) := z6z (by omega) (edC_len rfl) (edC_one _) zl (by omega)
  have A : EdAt (H4.set b5 (.own 0 (edC someE) 15)) b5 someE := EdAt.of (Heap.set_self _ _ _) rfl
  have le5 := Heap.le_set (Heap.le_refl H4) hb5 (.own 0 (edC someE) 15)
  simp -implicitDefEqProofs only [zA,reduceIte,reduceCtorEq,Nat.reduceEqDiff,Nat.reduceAdd,Nat.reduceMul,Nat.reduceLT,Nat.reduceSub,Int.reduceLT,Int.reduceLE,Int.reduceEq,Int.reduceNe,Int.reduceSub,Int.reduceAdd,Int.reduceMul,Int.reduceBEq,Int.reduceBNe,Int.reduceGT,Int.reduceGE,Nat.reduceGT,Int.reduceToNat,Int.reduceNeg,Nat.reduceLeDiff,Nat.reduceBEq,Nat.reduceBneDiff, st5]
  generalize (H4.set b5 (.own 0 (edC someE) 15)) = H5 at A le5 ⊢
  unfold ir_bandboxlaw23_awake_26
  simp -implicitDefEqProofs only [zA,reduceIte,reduceCtorEq,Nat.reduceEqDiff,Nat.reduceAdd,Nat.reduceMul,Nat.reduceLT,Nat.reduceSub,Int.reduceLT,Int.reduceLE,Int.reduceEq,Int.reduceNe,Int.reduceSub,Int.reduceAdd,Int.reduceMul,Int.reduceBEq,Int.reduceBNe,Int.reduceGT,Int.reduceGE,Nat.reduceGT,Int.reduceToNat,Int.reduceNeg,Nat.reduceLeDiff,Nat.reduceBEq,Nat.reduceBneDiff]
  refine (law23_some_c E H5).mono ?_
  rintro r H6 ⟨le6, rfl⟩
  have k1 := ed_ok someE rfl
  have k2 := ed_eq someE
  have A6 := A.le rfl le6
  simp -implicitDefEqProofs only [zA,reduceIte,reduceCtorEq,Nat.reduceEqDiff,Nat.reduceAdd,Nat.reduceMul,Nat.reduceLT,Nat.reduceSub,Int.reduceLT,Int.reduceLE,Int.reduceEq,Int.reduceNe,Int.reduceSub,Int.reduceAdd,Int.reduceMul,Int.reduceBEq,Int.reduceBNe,Int.reduceGT,Int.reduceGE,Nat.reduceGT,Int.reduceToNat,Int.reduceNeg,Nat.reduceLeDiff,Nat.reduceBEq,Nat.reduceBneDiff, A.all, A6.all, k1, k2, implies_true, List.mem_cons, List.not_mem_nil, List.mem_singleton, or_false, forall_eq, forall_eq_or_imp, and_self]
  refine (law23_some_c E H6).mono ?_
  rintro r H7 ⟨le7, rfl⟩
  simp -implicitDefEqProofs only [zA,reduceIte,reduceCtorEq,Nat.reduceEqDiff,Nat.reduceAdd,Nat.reduceMul,Nat.reduceLT,Nat.reduceSub,Int.reduceLT,Int.reduceLE,Int.reduceEq,Int.reduceNe,Int.reduceSub,Int.reduceAdd,Int.reduceMul,Int.reduceBEq,Int.reduceBNe,Int.reduceGT,Int.reduceGE,Nat.reduceGT,Int.reduceToNat,Int.reduceNeg,Nat.reduceLeDiff,Nat.reduceBEq,Nat.reduceBneDiff]
  refine (seal_Size_c E H7 someE someE_ok).mono ?_
  rintro r H8 ⟨le8, rfl⟩
  rw [sizeE_some]
  simp -implicitDefEqProofs only [zA,reduceIte,reduceCtorEq,Nat.reduceEqDiff,Nat.reduceAdd,Nat.reduceMul,Nat.reduceLT,Nat.reduceSub,Int.reduceLT,Int.reduceLE,Int.reduceEq,Int.reduceNe,Int.reduceSub,Int.reduceAdd,Int.reduceMul,Int.reduceBEq,Int.reduceBNe,Int.reduceGT,Int.reduceGE,Nat.reduceGT,Int.reduceToNat,Int.reduceNeg,Nat.reduceLeDiff,Nat.reduceBEq,Nat.reduceBneDiff]
  exact Heap.le_trans le0 (Heap.le_trans le1 (Heap.le_trans le2 (Heap.le_trans le3 (Heap.le_trans le4 (Heap.le_trans le5 (Heap.le_trans le6 (Heap.le_trans le7 le8)))))))
theorem ed_dot (e : Ed) (d n : Int) : splice (edC e) 0 (dotC d n) = edC { e with dev := d, n := n } := rfl
theorem ed_seen1 (e : Ed) (h8 : e.seen.length = 8) (i : Nat) (hi : i < 8) (x : Int) : (edC e).set (2 + i) (.int .i64 x) = edC { e with seen := e.seen.set i x } := by
  unfold edC
  rw [Nat.add_comm 2 i, List.set_cons_succ, List.set_cons_succ, List.set_append_left _ _ (by simp [h8]; omega)]
  rw [List.map_set]
theorem bandboxlaw23_SealBack_c (E : EnvT tab) (W : World) {v0 v1 v2 v3 : Value} (s0 : Shp.ok W (.slice 1 (.int .u8)) v0) (s1 : Shp.ok W (.int .i64) v1) (s2 : Shp.ok W (.struct 15 (.fld 0 2 (.struct 2 (.fld 0 1 (.int .i64) (.fld 1 1 (.int .i64) .fend))) (.fld 2 8 (.array 8 1 (.int .i64)) (.fld 10 1 (.int .i64) (.fld 11 1 .str (.fld 12 1 .str (.fld 13 1 .str (.fld 14 1 (.int .i64) .fend)))))))) v2) (s3 : Shp.ok W (.struct 15 (.fld 0 2 (.struct 2 (.fld 0 1 (.int .i64) (.fld 1 1 (.int .i64) .fend))) (.fld 2 8 (.array 8 1 (.int .i64)) (.fld 10 1 (.int .i64) (.fld 11 1 .str (.fld 12 1 .str (.fld 13 1 .str (.fld 14 1 (.int .i64) .fend)))))))) v3) :
    ACallN E.toEnv n_bandboxlaw23_SealBack [v0, v1, v2, v3] (roHeap W) fun v _ => v = .bool true := by
  obtain ⟨K, sk, -⟩ := ok_bytes s0
  obtain ⟨k, rfl, -⟩ := Shp.ok_int s1
  obtain ⟨a, rfl, a8, an1, an2, ad1, ad2, ac, af, av⟩ := ok_edC s2
  obtain ⟨e, rfl, e8, en1, en2, ed1, ed2, ec, ef, ev⟩ := ok_edC s3
  obtain ⟨kb, kc, rfl⟩ := Sl.shape sk
  generalize roHeap W = H at sk
  change ACallN E.toEnv n_bandboxlaw23_SealBack [_, _, .agg (edC a).toArray, .agg (edC e).toArray] H _
  refine acall h_bandboxlaw23_SealBack ir_bandboxlaw23_SealBack rfl rfl (wpA_sound ?_)
  unfold ir_bandboxlaw23_SealBack
  have al := edC_len a8
  have el := edC_len e8
  simp -implicitDefEqProofs only [zA,reduceIte,reduceCtorEq,Nat.reduceEqDiff,Nat.reduceAdd,Nat.reduceMul,Nat.reduceLT,Nat.reduceSub,Int.reduceLT,Int.reduceLE,Int.reduceEq,Int.reduceNe,Int.reduceSub,Int.reduceAdd,Int.reduceMul,Int.reduceBEq,Int.reduceBNe,Int.reduceGT,Int.reduceGE,Nat.reduceGT,Int.reduceToNat,Int.reduceNeg,Nat.reduceLeDiff,Nat.reduceBEq,Nat.reduceBneDiff]
  intro b6 hb6
  try simp -implicitDefEqProofs only [zA,reduceIte,reduceCtorEq,Nat.reduceEqDiff,Nat.reduceAdd,Nat.reduceMul,Nat.reduceLT,Nat.reduceSub,Int.reduceLT,Int.reduceLE,Int.reduceEq,Int.reduceNe,Int.reduceSub,Int.reduceAdd,Int.reduceMul,Int.reduceBEq,Int.reduceBNe,Int.reduceGT,Int.reduceGE,Nat.reduceGT,Int.reduceToNat,Int.reduceNeg,Nat.reduceLeDiff,Nat.reduceBEq,Nat.reduceBneDiff]
  rw [al]
  have le6 := Heap.le_set (Heap.le_refl H) hb6 (.own 0 (edC a) 15)
  have A : EdAt (H.set b6 (.own 0 (edC a) 15)) b6 a := EdAt.of (Heap.set_self _ _ _) a8
  generalize (H.set b6 (.own 0 (edC a) 15)) = H1 at le6 A ⊢
  intro b7 hb7
  try simp -implicitDefEqProofs only [zA,reduceIte,reduceCtorEq,Nat.reduceEqDiff,Nat.reduceAdd,Nat.reduceMul,Nat.reduceLT,Nat.reduceSub,Int.reduceLT,Int.reduceLE,Int.reduceEq,Int.reduceNe,Int.reduceSub,Int.reduceAdd,Int.reduceMul,Int.reduceBEq,Int.reduceBNe,Int.reduceGT,Int.reduceGE,Nat.reduceGT,Int.reduceToNat,Int.reduceNeg,Nat.reduceLeDiff,Nat.reduceBEq,Nat.reduceBneDiff]
  rw [el]
  have le7 := Heap.le_set (Heap.le_refl H1) hb7 (.own 0 (edC e) 15)
  have B : EdAt (H1.set b7 (.own 0 (edC e) 15)) b7 e := EdAt.of (Heap.set_self _ _ _) e8
  have n67 : b6 ≠ b7 := by intro q; subst q; rw [A.own] at hb7; cases hb7
  replace A := A.le a8 le7
  generalize (H1.set b7 (.own 0 (edC e) 15)) = H2 at le7 A B ⊢
  replace sk := sk.le (Heap.le_trans le6 le7)
  clear le6 le7 hb6 hb7
  refine (law23_awake_c E H2).mono ?_
  rintro r H3 ⟨le3, rfl⟩
  replace A := A.le a8 le3
  replace B := B.le e8 le3
  replace sk := sk.le le3
  clear le3
  simp -implicitDefEqProofs only [zA,reduceIte,reduceCtorEq,Nat.reduceEqDiff,Nat.reduceAdd,Nat.reduceMul,Nat.reduceLT,Nat.reduceSub,Int.reduceLT,Int.reduceLE,Int.reduceEq,Int.reduceNe,Int.reduceSub,Int.reduceAdd,Int.reduceMul,Int.reduceBEq,Int.reduceBNe,Int.reduceGT,Int.reduceGE,Nat.reduceGT,Int.reduceToNat,Int.reduceNeg,Nat.reduceLeDiff,Nat.reduceBEq,Nat.reduceBneDiff]
  unfold ir_bandboxlaw23_SealBack_19
  by_cases g0 : (K.length : Int) < 1
  · simp -implicitDefEqProofs only [zA,reduceIte,reduceCtorEq,Nat.reduceEqDiff,Nat.reduceAdd,Nat.reduceMul,Nat.reduceLT,Nat.reduceSub,Int.reduceLT,Int.reduceLE,Int.reduceEq,Int.reduceNe,Int.reduceSub,Int.reduceAdd,Int.reduceMul,Int.reduceBEq,Int.reduceBNe,Int.reduceGT,Int.reduceGE,Nat.reduceGT,Int.reduceToNat,Int.reduceNeg,Nat.reduceLeDiff,Nat.reduceBEq,Nat.reduceBneDiff, g0]
  by_cases g1 : 6 < (K.length : Int)
  · simp -implicitDefEqProofs only [zA,reduceIte,reduceCtorEq,Nat.reduceEqDiff,Nat.reduceAdd,Nat.reduceMul,Nat.reduceLT,Nat.reduceSub,Int.reduceLT,Int.reduceLE,Int.reduceEq,Int.reduceNe,Int.reduceSub,Int.reduceAdd,Int.reduceMul,Int.reduceBEq,Int.reduceBNe,Int.reduceGT,Int.reduceGE,Nat.reduceGT,Int.reduceToNat,Int.reduceNeg,Nat.reduceLeDiff,Nat.reduceBEq,Nat.reduceBneDiff, g0, g1]
  by_cases g2 : k < 0
  · simp -implicitDefEqProofs only [zA,reduceIte,reduceCtorEq,Nat.reduceEqDiff,Nat.reduceAdd,Nat.reduceMul,Nat.reduceLT,Nat.reduceSub,Int.reduceLT,Int.reduceLE,Int.reduceEq,Int.reduceNe,Int.reduceSub,Int.reduceAdd,Int.reduceMul,Int.reduceBEq,Int.reduceBNe,Int.reduceGT,Int.reduceGE,Nat.reduceGT,Int.reduceToNat,Int.reduceNeg,Nat.reduceLeDiff,Nat.reduceBEq,Nat.reduceBneDiff, g0, g1, g2]
  by_cases g3 : (K.length : Int) ≤ k
  · simp -implicitDefEqProofs only [zA,reduceIte,reduceCtorEq,Nat.reduceEqDiff,Nat.reduceAdd,Nat.reduceMul,Nat.reduceLT,Nat.reduceSub,Int.reduceLT,Int.reduceLE,Int.reduceEq,Int.reduceNe,Int.reduceSub,Int.reduceAdd,Int.reduceMul,Int.reduceBEq,Int.reduceBNe,Int.reduceGT,Int.reduceGE,Nat.reduceGT,Int.reduceToNat,Int.reduceNeg,Nat.reduceLeDiff,Nat.reduceBEq,Nat.reduceBneDiff, g0, g1, g2, g3]
  simp -implicitDefEqProofs only [zA,reduceIte,reduceCtorEq,Nat.reduceEqDiff,Nat.reduceAdd,Nat.reduceMul,Nat.reduceLT,Nat.reduceSub,Int.reduceLT,Int.reduceLE,Int.reduceEq,Int.reduceNe,Int.reduceSub,Int.reduceAdd,Int.reduceMul,Int.reduceBEq,Int.reduceBNe,Int.reduceGT,Int.reduceGE,Nat.reduceGT,Int.reduceToNat,Int.reduceNeg,Nat.reduceLeDiff,Nat.reduceBEq,Nat.reduceBneDiff, g0, g1, g2, g3, A.all]
  refine (law23_long_c E H3 a a8).mono ?_
  rintro r H4 ⟨le4, rfl⟩
  replace A := A.le a8 le4
  replace B := B.le e8 le4
  replace sk := sk.le le4
  clear le4
  by_cases g4 : 60 < a.con.length ∨ 60 < a.fld.length ∨ 250 < a.val.length
  · simp -implicitDefEqProofs only [zA,reduceIte,reduceCtorEq,Nat.reduceEqDiff,Nat.reduceAdd,Nat.reduceMul,Nat.reduceLT,Nat.reduceSub,Int.reduceLT,Int.reduceLE,Int.reduceEq,Int.reduceNe,Int.reduceSub,Int.reduceAdd,Int.reduceMul,Int.reduceBEq,Int.reduceBNe,Int.reduceGT,Int.reduceGE,Nat.reduceGT,Int.reduceToNat,Int.reduceNeg,Nat.reduceLeDiff,Nat.reduceBEq,Nat.reduceBneDiff, g4, decide_true]
  simp -implicitDefEqProofs only [zA,reduceIte,reduceCtorEq,Nat.reduceEqDiff,Nat.reduceAdd,Nat.reduceMul,Nat.reduceLT,Nat.reduceSub,Int.reduceLT,Int.reduceLE,Int.reduceEq,Int.reduceNe,Int.reduceSub,Int.reduceAdd,Int.reduceMul,Int.reduceBEq,Int.reduceBNe,Int.reduceGT,Int.reduceGE,Nat.reduceGT,Int.reduceToNat,Int.reduceNeg,Nat.reduceLeDiff,Nat.reduceBEq,Nat.reduceBneDiff, g4, decide_false, B.all]
  refine (law23_long_c E H4 e e8).mono ?_
  rintro r H5 ⟨le5, rfl⟩
  replace A := A.le a8 le5
  replace B := B.le e8 le5
  replace sk := sk.le le5
  clear le5
  by_cases g5 : 60 < e.con.length ∨ 60 < e.fld.length ∨ 250 < e.val.length
  · simp -implicitDefEqProofs only [zA,reduceIte,reduceCtorEq,Nat.reduceEqDiff,Nat.reduceAdd,Nat.reduceMul,Nat.reduceLT,Nat.reduceSub,Int.reduceLT,Int.reduceLE,Int.reduceEq,Int.reduceNe,Int.reduceSub,Int.reduceAdd,Int.reduceMul,Int.reduceBEq,Int.reduceBNe,Int.reduceGT,Int.reduceGE,Nat.reduceGT,Int.reduceToNat,Int.reduceNeg,Nat.reduceLeDiff,Nat.reduceBEq,Nat.reduceBneDiff, g5, decide_true]
  have oa : EdOk a := ⟨a8, by omega, by omega, an1, an2⟩
  have oe : EdOk e := ⟨e8, by omega, by omega, en1, en2⟩
  simp -implicitDefEqProofs only [zA,reduceIte,reduceCtorEq,Nat.reduceEqDiff,Nat.reduceAdd,Nat.reduceMul,Nat.reduceLT,Nat.reduceSub,Int.reduceLT,Int.reduceLE,Int.reduceEq,Int.reduceNe,Int.reduceSub,Int.reduceAdd,Int.reduceMul,Int.reduceBEq,Int.reduceBNe,Int.reduceGT,Int.reduceGE,Nat.reduceGT,Int.reduceToNat,Int.reduceNeg,Nat.reduceLeDiff,Nat.reduceBEq,Nat.reduceBneDiff, g5, decide_false, A.all]
  refine (op_Good_c E H5 a a8 oa.con oa.fld an1 an2).mono ?_
  rintro r H6 ⟨le6, rfl⟩
  replace A := A.le a8 le6
  replace B := B.le e8 le6
  replace sk := sk.le le6
  clear le6
  cases ga : goodE a with
  | false => simp -implicitDefEqProofs only [zA,reduceIte,reduceCtorEq,Nat.reduceEqDiff,Nat.reduceAdd,Nat.reduceMul,Nat.reduceLT,Nat.reduceSub,Int.reduceLT,Int.reduceLE,Int.reduceEq,Int.reduceNe,Int.reduceSub,Int.reduceAdd,Int.reduceMul,Int.reduceBEq,Int.reduceBNe,Int.reduceGT,Int.reduceGE,Nat.reduceGT,Int.reduceToNat,Int.reduceNeg,Nat.reduceLeDiff,Nat.reduceBEq,Nat.reduceBneDiff]
  | true =>
    simp -implicitDefEqProofs only [zA,reduceIte,reduceCtorEq,Nat.reduceEqDiff,Nat.reduceAdd,Nat.reduceMul,Nat.reduceLT,Nat.reduceSub,Int.reduceLT,Int.reduceLE,Int.reduceEq,Int.reduceNe,Int.reduceSub,Int.reduceAdd,Int.reduceMul,Int.reduceBEq,Int.reduceBNe,Int.reduceGT,Int.reduceGE,Nat.reduceGT,Int.reduceToNat,Int.reduceNeg,Nat.reduceLeDiff,Nat.reduceBEq,Nat.reduceBneDiff, B.all]
    refine (op_Good_c E H6 e e8 oe.con oe.fld en1 en2).mono ?_
    rintro r H7 ⟨le7, rfl⟩
    replace A := A.le a8 le7
    replace B := B.le e8 le7
    replace sk := sk.le le7
    clear le7
    cases ge : goodE e with
    | false => simp -implicitDefEqProofs only [zA,reduceIte,reduceCtorEq,Nat.reduceEqDiff,Nat.reduceAdd,Nat.reduceMul,Nat.reduceLT,Nat.reduceSub,Int.reduceLT,Int.reduceLE,Int.reduceEq,Int.reduceNe,Int.reduceSub,Int.reduceAdd,Int.reduceMul,Int.reduceBEq,Int.reduceBNe,Int.reduceGT,Int.reduceGE,Nat.reduceGT,Int.reduceToNat,Int.reduceNeg,Nat.reduceLeDiff,Nat.reduceBEq,Nat.reduceBneDiff]
    | true =>
      simp -implicitDefEqProofs only [zA,reduceIte,reduceCtorEq,Nat.reduceEqDiff,Nat.reduceAdd,Nat.reduceMul,Nat.reduceLT,Nat.reduceSub,Int.reduceLT,Int.reduceLE,Int.reduceEq,Int.reduceNe,Int.reduceSub,Int.reduceAdd,Int.reduceMul,Int.reduceBEq,Int.reduceBNe,Int.reduceGT,Int.reduceGE,Nat.reduceGT,Int.reduceToNat,Int.reduceNeg,Nat.reduceLeDiff,Nat.reduceBEq,Nat.reduceBneDiff]
      unfold ir_bandboxlaw23_SealBack_56
      simp -implicitDefEqProofs only [zA,reduceIte,reduceCtorEq,Nat.reduceEqDiff,Nat.reduceAdd,Nat.reduceMul,Nat.reduceLT,Nat.reduceSub,Int.reduceLT,Int.reduceLE,Int.reduceEq,Int.reduceNe,Int.reduceSub,Int.reduceAdd,Int.reduceMul,Int.reduceBEq,Int.reduceBNe,Int.reduceGT,Int.reduceGE,Nat.reduceGT,Int.reduceToNat,Int.reduceNeg,Nat.reduceLeDiff,Nat.reduceBEq,Nat.reduceBneDiff]
      refine (law23_rings_c E H7 K (by omega) sk).mono ?_
      rintro r H8 ⟨le8, p, w, rfl, P⟩
      have I := ringL_ok K (by omega)
      obtain ⟨h0, leR, R, le70⟩ := P.ring
      have g7 := B.own
      have h07 : h0 b7 ≠ none := by rw [le70 _ _ g7]; simp
      replace A := A.le a8 le8
      replace B := B.le e8 le8
      have ik : k.toNat < K.length := by omega
      have hg : getK (ringL K) k = some (word1 (K[k.toNat]'ik)) := by
        have := ringL_at k.toNat ik
        rwa [show ((k.toNat : Nat) : Int) = k by omega] at this
      generalize word1 (K[k.toNat]'ik) = key at hg
      simp -implicitDefEqProofs only [zA,reduceIte,reduceCtorEq,Nat.reduceEqDiff,Nat.reduceAdd,Nat.reduceMul,Nat.reduceLT,Nat.reduceSub,Int.reduceLT,Int.reduceLE,Int.reduceEq,Int.reduceNe,Int.reduceSub,Int.reduceAdd,Int.reduceMul,Int.reduceBEq,Int.reduceBNe,Int.reduceGT,Int.reduceGE,Nat.reduceGT,Int.reduceToNat,Int.reduceNeg,Nat.reduceLeDiff,Nat.reduceBEq,Nat.reduceBneDiff, A.all]
      refine (seal_Seal_c E leR R I.l32 I.rng k a oa).mono ?_
      rintro r H9 ⟨le9, r', rfl, ow9⟩
      have e3 : sealL (ringL K) k a = (0, bodyF key k.toNat a) := by
        unfold sealL
        rw [if_pos ga, hg]
      rw [e3] at ow9 ⊢
      have bl := body_len key k.toNat ga a8
      have sz1 : sizeL a ≤ 65536 := by
        unfold sizeL
        rw [if_pos ga]
        have := bk_gt (n := (putE a).length) (by have := putE_len ga a8; omega)
        omega
      obtain ⟨rb, rc, rfl⟩ := Sl.shape ow9.sl
      simp only at ow9
      have s9 := ow9.sl
      replace A := A.le a8 le9
      replace B := B.le e8 le9
      have g := goodE_iff ga
      obtain ⟨⟨d1, d2⟩, ⟨n1, n2⟩, -, -, -, -, -, -, -⟩ := g
      have ll := labW_len (a := k.toNat) (d := a.dev.toNat) (n := a.n.toNat) (by omega) (by omega) (by omega)
      have h9 := numF_len 9 (sizeL a + 16) (by omega) (by omega)
      simp -implicitDefEqProofs only [zA,reduceIte,reduceCtorEq,Nat.reduceEqDiff,Nat.reduceAdd,Nat.reduceMul,Nat.reduceLT,Nat.reduceSub,Int.reduceLT,Int.reduceLE,Int.reduceEq,Int.reduceNe,Int.reduceSub,Int.reduceAdd,Int.reduceMul,Int.reduceBEq,Int.reduceBNe,Int.reduceGT,Int.reduceGE,Nat.reduceGT,Int.reduceToNat,Int.reduceNeg,Nat.reduceLeDiff,Nat.reduceBEq,Nat.reduceBneDiff]
      refine (seal_Open_c E (Heap.le_trans leR le9) (R.le le9) I.l32 (bodyF key k.toNat a) (by omega) s9).mono ?_
      rintro r H10 ⟨le10, rfl⟩
      have e4 := open_seal_L (ringL K) key k (by omega) ga a8 hg
      rw [e4]
      replace A := A.le a8 le10
      replace B := B.le e8 le10
      have zl := edC_len (e := ZE) rfl
      simp -implicitDefEqProofs only [zA,reduceIte,reduceCtorEq,Nat.reduceEqDiff,Nat.reduceAdd,Nat.reduceMul,Nat.reduceLT,Nat.reduceSub,Int.reduceLT,Int.reduceLE,Int.reduceEq,Int.reduceNe,Int.reduceSub,Int.reduceAdd,Int.reduceMul,Int.reduceBEq,Int.reduceBNe,Int.reduceGT,Int.reduceGE,Nat.reduceGT,Int.reduceToNat,Int.reduceNeg,Nat.reduceLeDiff,Nat.reduceBEq,Nat.reduceBneDiff]
      intro b13 hb13
      rw [← edC_ZE, zl]
      try simp -implicitDefEqProofs only [zA,reduceIte,reduceCtorEq,Nat.reduceEqDiff,Nat.reduceAdd,Nat.reduceMul,Nat.reduceLT,Nat.reduceSub,Int.reduceLT,Int.reduceLE,Int.reduceEq,Int.reduceNe,Int.reduceSub,Int.reduceAdd,Int.reduceMul,Int.reduceBEq,Int.reduceBNe,Int.reduceGT,Int.reduceGE,Nat.reduceGT,Int.reduceToNat,Int.reduceNeg,Nat.reduceLeDiff,Nat.reduceBEq,Nat.reduceBneDiff]
      have st13 : storeV (H10.set b13 (.own 0 (edC ZE) 15)) 15 (.pointer (some ⟨b13, 0, none⟩)) (.agg (edC a).toArray) = some (H10.set b13 (.own 0 (edC a) 15)) := z6z (by omega) (edC_len a8) (edC_one _) zl (by omega)
      have U : EdAt (H10.set b13 (.own 0 (edC a) 15)) b13 a := EdAt.of (Heap.set_self _ _ _) a8
      have le13 := Heap.le_set (Heap.le_refl H10) hb13 (.own 0 (edC a) 15)
      simp -implicitDefEqProofs only [zA,reduceIte,reduceCtorEq,Nat.reduceEqDiff,Nat.reduceAdd,Nat.reduceMul,Nat.reduceLT,Nat.reduceSub,Int.reduceLT,Int.reduceLE,Int.reduceEq,Int.reduceNe,Int.reduceSub,Int.reduceAdd,Int.reduceMul,Int.reduceBEq,Int.reduceBNe,Int.reduceGT,Int.reduceGE,Nat.reduceGT,Int.reduceToNat,Int.reduceNeg,Nat.reduceLeDiff,Nat.reduceBEq,Nat.reduceBneDiff, st13]
      generalize (H10.set b13 (.own 0 (edC a) 15)) = H11 at U le13 ⊢
      replace A := A.le a8 le13
      replace B := B.le e8 le13
      have k1 := ed_ok a a8
      have k2 := ed_eq a
      unfold ir_bandboxlaw23_SealBack_73
      have dA : hcells H11 ⟨b6, 0, none⟩ 2 = some (dotC a.dev a.n) := by
        rw [hcells_at A.own (by omega)]; rfl
      have stD : storeV H11 2 (.pointer (some ⟨b7, 0, none⟩)) (.agg (dotC a.dev a.n).toArray) = some (H11.set b7 (.own 0 (edC { e with dev := a.dev, n := a.n }) 15)) := by
        have h := storeV_self (h := H11) (b := b7) (vs := edC e) (off := 0) (sz := 15) (size := 2) (v := .agg (dotC a.dev a.n).toArray) (us := dotC a.dev a.n) (by omega) (by simp [Value.cells]) rfl rfl (by omega) (by omega)
        rw [Heap.set_same B.own, ed_dot] at h
        exact h
      simp -implicitDefEqProofs only [zA,reduceIte,reduceCtorEq,Nat.reduceEqDiff,Nat.reduceAdd,Nat.reduceMul,Nat.reduceLT,Nat.reduceSub,Int.reduceLT,Int.reduceLE,Int.reduceEq,Int.reduceNe,Int.reduceSub,Int.reduceAdd,Int.reduceMul,Int.reduceBEq,Int.reduceBNe,Int.reduceGT,Int.reduceGE,Nat.reduceGT,Int.reduceToNat,Int.reduceNeg,Nat.reduceLeDiff,Nat.reduceBEq,Nat.reduceBneDiff, U.all, A.all, k1, k2, dA, stD]
      have q11 := B.own
      obtain ⟨e1, he1⟩ : ∃ e1 : Ed, e1 = { e with dev := a.dev, n := a.n } := ⟨_, rfl⟩
      obtain ⟨e2, he2⟩ : ∃ e2 : Ed, e2 = { e1 with seen := e1.seen.set a.dev.toNat (a.n - 1) } := ⟨_, rfl⟩
      have e18 : e1.seen.length = 8 := by rw [he1]; exact e8
      have e28 : e2.seen.length = 8 := by rw [he2]; simp [e18]
      rw [← he1] at stD ⊢
      have st2 : storeV (H11.set b7 (.own 0 (edC e1) 15)) 1 (.pointer (some ⟨b7, 2 + a.dev.toNat, none⟩)) (.int .i64 (a.n - 1)) = some (H11.set b7 (.own 0 (edC e2) 15)) := by
        have h := z6y (h := H11) (b := b7) (vs := edC e1) (off := 2 + a.dev.toNat) (sz := 15) (v := .int .i64 (a.n - 1)) rfl (by have := edC_len e18; omega) (by have := edC_len e18; omega)
        rw [ed_seen1 e1 e18 _ (by omega), ← he2] at h
        exact h
      have w1 : IntKind.i64.wrap (a.n - 1) = a.n - 1 := wrapI (by omega) (by omega)
      have A' : ∀ X, EdAt (H11.set b7 X) b6 a := fun X => EdAt.of (by rw [Heap.set_ne n67]; exact A.own) a8
      have B2 : EdAt (H11.set b7 (.own 0 (edC e2) 15)) b7 e2 := EdAt.of (Heap.set_self _ _ _) e28
      obtain ⟨h0', leR', R', -⟩ := (R.le (Heap.le_trans le9 (Heap.le_trans le10 le13))).off (Heap.le_trans leR (Heap.le_trans le9 (Heap.le_trans le10 le13))) h07 (.own 0 (edC e2) 15)
      have A1 := A' (.own 0 (edC e1) 15)
      have A2 := A' (.own 0 (edC e2) 15)
      have oe2 : EdOk e2 := by
        refine ⟨e28, ?_, ?_, ?_, ?_⟩
        · rw [he2, he1]; exact oe.con
        · rw [he2, he1]; exact oe.fld
        · rw [he2, he1]; exact an1
        · rw [he2, he1]; exact an2
      have x1 : e2.dev = a.dev := by rw [he2, he1]
      have x2 : e2.n = a.n := by rw [he2, he1]
      clear he1 he2 e3 e4 U k1 k2 dA stD st13 le13 hb13 le10
      unfold ir_bandboxlaw23_SealBack_87
      simp -implicitDefEqProofs only [zA,reduceIte,reduceCtorEq,Nat.reduceEqDiff,Nat.reduceAdd,Nat.reduceMul,Nat.reduceLT,Nat.reduceSub,Int.reduceLT,Int.reduceLE,Int.reduceEq,Int.reduceNe,Int.reduceSub,Int.reduceAdd,Int.reduceMul,Int.reduceBEq,Int.reduceBNe,Int.reduceGT,Int.reduceGE,Nat.reduceGT,Int.reduceToNat,Int.reduceNeg,Nat.reduceLeDiff,Nat.reduceBEq,Nat.reduceBneDiff, A1.dev, A1.n, w1, d1, d2, st2]
      generalize (H11.set b7 (.own 0 (edC e2) 15)) = G at leR' R' A2 B2 ⊢
      simp -implicitDefEqProofs only [zA,reduceIte,reduceCtorEq,Nat.reduceEqDiff,Nat.reduceAdd,Nat.reduceMul,Nat.reduceLT,Nat.reduceSub,Int.reduceLT,Int.reduceLE,Int.reduceEq,Int.reduceNe,Int.reduceSub,Int.reduceAdd,Int.reduceMul,Int.reduceBEq,Int.reduceBNe,Int.reduceGT,Int.reduceGE,Nat.reduceGT,Int.reduceToNat,Int.reduceNeg,Nat.reduceLeDiff,Nat.reduceBEq,Nat.reduceBneDiff, B2.all]
      refine (op_Good_c E G e2 e28 oe2.con oe2.fld oe2.n1 oe2.n2).mono ?_
      rintro r G1 ⟨leG1, rfl⟩
      have A3 := A2.le a8 leG1
      have B3 := B2.le e28 leG1
      cases g2' : goodE e2 with
      | false => simp -implicitDefEqProofs only [zA,reduceIte,reduceCtorEq,Nat.reduceEqDiff,Nat.reduceAdd,Nat.reduceMul,Nat.reduceLT,Nat.reduceSub,Int.reduceLT,Int.reduceLE,Int.reduceEq,Int.reduceNe,Int.reduceSub,Int.reduceAdd,Int.reduceMul,Int.reduceBEq,Int.reduceBNe,Int.reduceGT,Int.reduceGE,Nat.reduceGT,Int.reduceToNat,Int.reduceNeg,Nat.reduceLeDiff,Nat.reduceBEq,Nat.reduceBneDiff]
      | true =>
        simp -implicitDefEqProofs only [zA,reduceIte,reduceCtorEq,Nat.reduceEqDiff,Nat.reduceAdd,Nat.reduceMul,Nat.reduceLT,Nat.reduceSub,Int.reduceLT,Int.reduceLE,Int.reduceEq,Int.reduceNe,Int.reduceSub,Int.reduceAdd,Int.reduceMul,Int.reduceBEq,Int.reduceBNe,Int.reduceGT,Int.reduceGE,Nat.reduceGT,Int.reduceToNat,Int.reduceNeg,Nat.reduceLeDiff,Nat.reduceBEq,Nat.reduceBneDiff, A3.all, A2.all, implies_true, List.mem_cons, List.not_mem_nil, List.mem_singleton, or_false, forall_eq, forall_eq_or_imp, and_self]
        refine (seal_Size_c E G1 a oa).mono ?_
        rintro r G2 ⟨leG2, rfl⟩
        have B4 := B3.le e28 leG2
        simp -implicitDefEqProofs only [zA,reduceIte,reduceCtorEq,Nat.reduceEqDiff,Nat.reduceAdd,Nat.reduceMul,Nat.reduceLT,Nat.reduceSub,Int.reduceLT,Int.reduceLE,Int.reduceEq,Int.reduceNe,Int.reduceSub,Int.reduceAdd,Int.reduceMul,Int.reduceBEq,Int.reduceBNe,Int.reduceGT,Int.reduceGE,Nat.reduceGT,Int.reduceToNat,Int.reduceNeg,Nat.reduceLeDiff,Nat.reduceBEq,Nat.reduceBneDiff, B2.all, B3.all, B4.all, implies_true, List.mem_cons, List.not_mem_nil, List.mem_singleton, or_false, forall_eq, forall_eq_or_imp, and_self]
        refine (seal_Size_c E G2 e2 oe2).mono ?_
        rintro r G3 ⟨leG3, rfl⟩
        have B5 := B4.le e28 leG3
        have leA := Heap.le_trans leG1 (Heap.le_trans leG2 leG3)
        by_cases gz : sizeL a = sizeL e2
        · have gz' : ((sizeL a : Int) != (sizeL e2 : Int)) = false := by rw [gz]; exact bne_self_eq_false _
          simp -implicitDefEqProofs only [zA,reduceIte,reduceCtorEq,Nat.reduceEqDiff,Nat.reduceAdd,Nat.reduceMul,Nat.reduceLT,Nat.reduceSub,Int.reduceLT,Int.reduceLE,Int.reduceEq,Int.reduceNe,Int.reduceSub,Int.reduceAdd,Int.reduceMul,Int.reduceBEq,Int.reduceBNe,Int.reduceGT,Int.reduceGE,Nat.reduceGT,Int.reduceToNat,Int.reduceNeg,Nat.reduceLeDiff,Nat.reduceBEq,Nat.reduceBneDiff, gz']
          unfold ir_bandboxlaw23_SealBack_107
          simp -implicitDefEqProofs only [zA,reduceIte,reduceCtorEq,Nat.reduceEqDiff,Nat.reduceAdd,Nat.reduceMul,Nat.reduceLT,Nat.reduceSub,Int.reduceLT,Int.reduceLE,Int.reduceEq,Int.reduceNe,Int.reduceSub,Int.reduceAdd,Int.reduceMul,Int.reduceBEq,Int.reduceBNe,Int.reduceGT,Int.reduceGE,Nat.reduceGT,Int.reduceToNat,Int.reduceNeg,Nat.reduceLeDiff,Nat.reduceBEq,Nat.reduceBneDiff, B5.all]
          refine (seal_Seal_c E (Heap.le_trans leR' leA) (R'.le leA) I.l32 I.rng k e2 oe2).mono ?_
          rintro r G4 ⟨leG4, r2', rfl, ow4⟩
          have e3 : sealL (ringL K) k e2 = (0, bodyF key k.toNat e2) := by
            unfold sealL
            rw [if_pos g2', hg]
          rw [e3] at ow4 ⊢
          have bl2 := body_len key k.toNat g2' e28
          rw [x1, x2, ← gz] at bl2
          obtain ⟨yb, yc, rfl⟩ := Sl.shape ow4.sl
          have bl3 : (bodyF key k.toNat e2).length = (bodyF key k.toNat a).length := by rw [bl, bl2]
          simp only
          rw [bl3]
          simp -implicitDefEqProofs only [zA,reduceIte,reduceCtorEq,Nat.reduceEqDiff,Nat.reduceAdd,Nat.reduceMul,Nat.reduceLT,Nat.reduceSub,Int.reduceLT,Int.reduceLE,Int.reduceEq,Int.reduceNe,Int.reduceSub,Int.reduceAdd,Int.reduceMul,Int.reduceBEq,Int.reduceBNe,Int.reduceGT,Int.reduceGE,Nat.reduceGT,Int.reduceToNat,Int.reduceNeg,Nat.reduceLeDiff,Nat.reduceBEq,Nat.reduceBneDiff, beq_self_eq_true]
        · have gz' : ((sizeL a : Int) != (sizeL e2 : Int)) = true := by rw [bne_iff_ne]; omega
          simp -implicitDefEqProofs only [zA,reduceIte,reduceCtorEq,Nat.reduceEqDiff,Nat.reduceAdd,Nat.reduceMul,Nat.reduceLT,Nat.reduceSub,Int.reduceLT,Int.reduceLE,Int.reduceEq,Int.reduceNe,Int.reduceSub,Int.reduceAdd,Int.reduceMul,Int.reduceBEq,Int.reduceBNe,Int.reduceGT,Int.reduceGE,Nat.reduceGT,Int.reduceToNat,Int.reduceNeg,Nat.reduceLeDiff,Nat.reduceBEq,Nat.reduceBneDiff, gz']
end Go.Bb
