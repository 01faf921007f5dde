/- My contracts: BbCslc BbCpoly5 BbLpoly2 BbPref5 BbPcha BbCsha0 BbCsha1 BbCcha0 BbUk BbUm BbCcha1 BbCref1 BbCref1b. -/
import Derived.Test.YtfbhhmmjfoemkaaBbG3
import Derived.Test.YtfbhhmmjfoemkaaBbM1
import Derived.Test.YtfbhhmmjfoemkaaBbTab
/- Contracts: slices of bytes joined. -/
namespace Go.Bb
set_option linter.unusedSimpArgs false
set_option linter.unusedVariables false
set_option maxRecDepth 20000

theorem Ow.head {h0 h : Heap} {size n c : Nat} {base : Option Addr} {cells : List Value} (s : Ow h0 h size (.slice base n c) n cells) {k : Nat} (hk : k ≤ n) : Ow h0 h size (.slice base k c) k (cells.take (k * size)) := by
  have hm : k * size ≤ n * size := Nat.mul_le_mul_right _ hk
  rcases s with ⟨e, rfl, rfl⟩ | ⟨b, o, c', sz, st, pre, rest, e, hc, hn, hb, ho, hl, hz⟩
  · simp only [Value.slice.injEq] at e
    obtain ⟨rfl, _, rfl⟩ := e
    have : k = 0 := by omega
    subst this
    exact .inl ⟨rfl, rfl, by simp⟩
  · simp only [Value.slice.injEq] at e
    obtain ⟨rfl, _, rfl⟩ := e
    refine .inr ⟨b, o, c, sz, st, pre, cells.drop (k * size) ++ rest, rfl, by omega, hn, ?_, ho, by rw [List.length_take]; omega, hz⟩
    rw [hb, List.append_assoc pre, List.append_assoc pre, ← List.append_assoc (cells.take _), List.take_append_drop]
theorem appendZP_ow {size bytes n m : Nat} {z : List Value} {h0 h : Heap} {v : Value} {cells : List Value} {k : IntKind} {K : Value → Heap → Prop} (hle : h0.le h) (hsz : 0 < size) (s : Ow h0 h size v n cells) (hz : z.length = size) (h1 : z.all one = true)
    (hb : (n + m) * bytes ≤ 140737488355328) (hm : n + m ≤ 9223372036854775807)
    (hk : ∀ v h', Ow h0 h' size v (n + m) (cells ++ (List.replicate m z).flatten) → h0.le h' → K v h') : appendZP size bytes z h v (.int k (m : Int)) K := by
  obtain ⟨base, c, rfl⟩ : ∃ base c, v = .slice base n c := by
    rcases s with ⟨rfl, rfl, _⟩ | ⟨b, o, c, sz, _, _, _, rfl, _⟩
    · exact ⟨_, _, rfl⟩
    · exact ⟨_, _, rfl⟩
  simp only [appendZP, Int.toNat_natCast]
  have hmb : m * bytes ≤ (n + m) * bytes := Nat.mul_le_mul_right _ (by omega)
  refine ⟨by omega, by omega, ?_, append_ow hle hsz s (by simp [hz]) (fun u hu => ?_) hb hm hk⟩
  · rw [← Int.natCast_mul]; omega
  · obtain ⟨l, hl, hu⟩ := List.mem_flatten.1 hu
    rw [List.eq_of_mem_replicate hl] at hu
    exact List.all_eq_true.1 h1 u hu

theorem Grow_c (E : EnvT tab) (h : Heap) (n : Nat) (hn : n ≤ 100000000) : ACallN E.toEnv n_slices_Grow_byte_byte [.slice none 0 0, .int .i64 n] h fun r h' => h.le h' ∧ OwB h h' r [] := by
  refine acall h_slices_Grow_byte_byte ir_slices_Grow_byte_byte rfl rfl (wpA_sound ?_)
  unfold ir_slices_Grow_byte_byte
  have n0 : ¬ (n : Int) < 0 := by omega
  have w0 : IntKind.i64.wrap 0 = 0 := by decide
  have w1 : IntKind.i64.wrap ((n : Int) - 0) = (n : Int) := by rw [wrapI (by omega) (by omega)]; omega
  by_cases hz : n = 0
  · subst hz
    simp -implicitDefEqProofs only [zB1,zB2,zB3,zB4,zB5,zB6,zB7,zB8,zB9,zB10,zB11,y00,y01,y02,y03,y04,y05,y06,y07,y08,y09,y0a,y0b,y0c,y0d,y0e,y0f,y0g,y0h,y0i,y0j,y0k,y0l,y0m,y0n,y0o,y0p,y0q,y0r,y0s,y0t,y0u,y0v,y0w,y0x,y0y,y0z,y10,y11,y12,y13,y14,y15,y16,y17,y18,y19,y1a,y1b,y1c,y1d,y1e,y1f,y1g,y1h,y1i,y1j,y1k,y1l,y1m,y1n,y1o,y1p,y1q,y1r,retO,retL,retV,z69,allV,allP,z6a,z6d,z6e,z6k,z6l,z6m,binV,eqV,unV,oOpt,reduceIte,reduceCtorEq,Nat.reduceEqDiff,Nat.reduceAdd,Nat.reduceMul,Nat.reduceLT,Nat.reduceSub,Int.reduceLT,Int.reduceLE,Int.reduceEq,Int.reduceNe,Int.reduceSub,Int.reduceAdd,Int.reduceMul,Int.reduceBEq,Int.reduceBNe,Int.reduceGT,Int.reduceGE,Nat.reduceGT,Int.reduceToNat,Int.reduceNeg,Nat.reduceLeDiff,Nat.reduceBEq,Nat.reduceBneDiff,Value.cells, w0]
    exact ⟨Heap.le_refl _, Ow.nil _ _ _⟩
  · have g0 : (0 : Int) < n := by omega
    have bd : bnds 0 0 none (some (some (.int .i64 0))) none = some (0, 0, 0) := by decide
    simp -implicitDefEqProofs only [zB1,zB2,zB3,zB4,zB5,zB6,zB7,zB8,zB9,zB10,zB11,y00,y01,y02,y03,y04,y05,y06,y07,y08,y09,y0a,y0b,y0c,y0d,y0e,y0f,y0g,y0h,y0i,y0j,y0k,y0l,y0m,y0n,y0o,y0p,y0q,y0r,y0s,y0t,y0u,y0v,y0w,y0x,y0y,y0z,y10,y11,y12,y13,y14,y15,y16,y17,y18,y19,y1a,y1b,y1c,y1d,y1e,y1f,y1g,y1h,y1i,y1j,y1k,y1l,y1m,y1n,y1o,y1p,y1q,y1r,retO,retL,retV,z69,allV,allP,z6a,z6d,z6e,z6k,z6l,z6m,binV,eqV,unV,oOpt,reduceIte,reduceCtorEq,Nat.reduceEqDiff,Nat.reduceAdd,Nat.reduceMul,Nat.reduceLT,Nat.reduceSub,Int.reduceLT,Int.reduceLE,Int.reduceEq,Int.reduceNe,Int.reduceSub,Int.reduceAdd,Int.reduceMul,Int.reduceBEq,Int.reduceBNe,Int.reduceGT,Int.reduceGE,Nat.reduceGT,Int.reduceToNat,Int.reduceNeg,Nat.reduceLeDiff,Nat.reduceBEq,Nat.reduceBneDiff,Value.cells, n0, w0, w1, g0, bd]
    refine appendZP_ow (n := 0) (m := n) (cells := []) (Heap.le_refl _) (by omega) (Ow.nil _ _ _) rfl rfl (by omega) (by omega) ?_
    intro v1 h1 ow1 le1
    rw [Nat.zero_add, List.nil_append] at ow1
    obtain ⟨b1, c1, rfl⟩ := Sl.shape ow1.sl
    have bd2 : bnds n c1 none (some (some (.int .i64 0))) none = some (0, 0, c1) := bnds_hi (by omega) (by omega)
    simp -implicitDefEqProofs only [zB1,zB2,zB3,zB4,zB5,zB6,zB7,zB8,zB9,zB10,zB11,y00,y01,y02,y03,y04,y05,y06,y07,y08,y09,y0a,y0b,y0c,y0d,y0e,y0f,y0g,y0h,y0i,y0j,y0k,y0l,y0m,y0n,y0o,y0p,y0q,y0r,y0s,y0t,y0u,y0v,y0w,y0x,y0y,y0z,y10,y11,y12,y13,y14,y15,y16,y17,y18,y19,y1a,y1b,y1c,y1d,y1e,y1f,y1g,y1h,y1i,y1j,y1k,y1l,y1m,y1n,y1o,y1p,y1q,y1r,retO,retL,retV,z69,allV,allP,z6a,z6d,z6e,z6k,z6l,z6m,binV,eqV,unV,oOpt,reduceIte,reduceCtorEq,Nat.reduceEqDiff,Nat.reduceAdd,Nat.reduceMul,Nat.reduceLT,Nat.reduceSub,Int.reduceLT,Int.reduceLE,Int.reduceEq,Int.reduceNe,Int.reduceSub,Int.reduceAdd,Int.reduceMul,Int.reduceBEq,Int.reduceBNe,Int.reduceGT,Int.reduceGE,Nat.reduceGT,Int.reduceToNat,Int.reduceNeg,Nat.reduceLeDiff,Nat.reduceBEq,Nat.reduceBneDiff,Value.cells, bd2]
    rw [addO b1 c1 (fun a _ => addr_add0 a), Nat.sub_zero]
    have := ow1.head (k := 0) (by omega)
    rw [Nat.zero_mul, List.take_zero] at this
    exact ⟨le1, this⟩

theorem flat_len_take {L : List (List UInt8)} (i : Nat) : (L.take i).flatten.length ≤ L.flatten.length := by
  have : L.flatten = (L.take i).flatten ++ (L.drop i).flatten := by rw [← List.flatten_append, List.take_append_drop]
  rw [this, List.length_append]; omega
theorem Concat_c (E : EnvT tab) (h : Heap) {v : Value} (L : List (List UInt8)) (hl : L.length ≤ 100000) (ht : L.flatten.length ≤ 100000000) (s : SlL h v L) :
    ACallN E.toEnv n_slices_Concat_byte_byte [v] h fun r h' => h.le h' ∧ OwB h h' r L.flatten := by
  obtain ⟨vs, hvs, sl, el⟩ := s
  obtain ⟨base, c, rfl⟩ := Sl.shape sl
  refine acall h_slices_Concat_byte_byte ir_slices_Concat_byte_byte rfl rfl (wpA_sound ?_)
  unfold ir_slices_Concat_byte_byte
  simp -implicitDefEqProofs only [zB1,zB2,zB3,zB4,zB5,zB6,zB7,zB8,zB9,zB10,zB11,y00,y01,y02,y03,y04,y05,y06,y07,y08,y09,y0a,y0b,y0c,y0d,y0e,y0f,y0g,y0h,y0i,y0j,y0k,y0l,y0m,y0n,y0o,y0p,y0q,y0r,y0s,y0t,y0u,y0v,y0w,y0x,y0y,y0z,y10,y11,y12,y13,y14,y15,y16,y17,y18,y19,y1a,y1b,y1c,y1d,y1e,y1f,y1g,y1h,y1i,y1j,y1k,y1l,y1m,y1n,y1o,y1p,y1q,y1r,retO,retL,retV,z69,allV,allP,z6a,z6d,z6e,z6k,z6l,z6m,binV,eqV,unV,oOpt,reduceIte,reduceCtorEq,Nat.reduceEqDiff,Nat.reduceAdd,Nat.reduceMul,Nat.reduceLT,Nat.reduceSub,Int.reduceLT,Int.reduceLE,Int.reduceEq,Int.reduceNe,Int.reduceSub,Int.reduceAdd,Int.reduceMul,Int.reduceBEq,Int.reduceBNe,Int.reduceGT,Int.reduceGE,Nat.reduceGT,Int.reduceToNat,Int.reduceNeg,Nat.reduceLeDiff,Nat.reduceBEq,Nat.reduceBneDiff,Value.cells]
  -- a part
  have part : ∀ i (hi : i < L.length) H, h.le H → ∃ b o, base = some ⟨b, o, none⟩ ∧ hcell H ⟨b, o + i, none⟩ = some (vs[i]'(by omega)) ∧ ∃ bi ci, vs[i]'(by omega) = .slice bi L[i].length ci := by
    intro i hi H hH
    obtain ⟨b, o, c', hv, hc, hcl⟩ := sl.ptr (by omega) (by omega)
    simp only [Value.slice.injEq, true_and] at hv
    obtain ⟨rfl, rfl⟩ := hv
    rw [Nat.mul_one] at hcl
    refine ⟨b, o, rfl, ?_, Sl.shape (el i (by omega) hi)⟩
    rw [hcell_of (hcells_le hH hcl) i hi]; simp [hvs, hi]
  have step : ∀ i (hi : i < L.length), (L.take (i + 1)).flatten = (L.take i).flatten ++ L[i] := fun i hi => by rw [List.take_succ_eq_append_getElem hi, List.flatten_append]; simp
  refine wp_loop' (fun m t H => H = h ∧ ∃ (i : Nat), t = tl [(0, .slice base L.length c), (3, .int .i64 ((L.take i).flatten.length : Nat)), (9, .slice base L.length c), (10, .int .i64 L.length), (11, .int .i64 i)] ∧ i ≤ L.length ∧ m = L.length - i) L.length
    ⟨rfl, 0, rfl, by omega, by omega⟩ ?_
  rintro m t H ⟨rfl, i, rfl, hi, rfl⟩
  by_cases hlt : i < L.length
  · have hi1 : (i : Int) < L.length := by omega
    have hi2 : (0 : Int) ≤ i := by omega
    have w1 : IntKind.i64.wrap ((i : Int) + 1) = ((i + 1 : Nat) : Int) := wrapN (by omega)
    obtain ⟨b, o, rfl, ci, bi, cci, ei⟩ := part i hlt H (Heap.le_refl _)
    have hf := flat_len_take (L := L) (i + 1)
    have hs := step i hlt
    rw [hs, List.length_append] at hf
    have w2 : IntKind.i64.wrap ((((L.take i).flatten.length : Nat) : Int) + ((L[i].length : Nat) : Int)) = (((L.take (i + 1)).flatten.length : Nat) : Int) := by rw [hs, List.length_append, wrapI (by omega) (by omega)]; omega
    have n2 : ¬ (((L.take (i + 1)).flatten.length : Nat) : Int) < 0 := by omega
    generalize hF : (L.take i).flatten.length = F at *
    generalize hF2 : (L.take (i + 1)).flatten.length = F2 at *
    rw [ei] at ci
    simp -implicitDefEqProofs only [zB1,zB2,zB3,zB4,zB5,zB6,zB7,zB8,zB9,zB10,zB11,y00,y01,y02,y03,y04,y05,y06,y07,y08,y09,y0a,y0b,y0c,y0d,y0e,y0f,y0g,y0h,y0i,y0j,y0k,y0l,y0m,y0n,y0o,y0p,y0q,y0r,y0s,y0t,y0u,y0v,y0w,y0x,y0y,y0z,y10,y11,y12,y13,y14,y15,y16,y17,y18,y19,y1a,y1b,y1c,y1d,y1e,y1f,y1g,y1h,y1i,y1j,y1k,y1l,y1m,y1n,y1o,y1p,y1q,y1r,retO,retL,retV,z69,allV,allP,z6a,z6d,z6e,z6k,z6l,z6m,binV,eqV,unV,oOpt,reduceIte,reduceCtorEq,Nat.reduceEqDiff,Nat.reduceAdd,Nat.reduceMul,Nat.reduceLT,Nat.reduceSub,Int.reduceLT,Int.reduceLE,Int.reduceEq,Int.reduceNe,Int.reduceSub,Int.reduceAdd,Int.reduceMul,Int.reduceBEq,Int.reduceBNe,Int.reduceGT,Int.reduceGE,Nat.reduceGT,Int.reduceToNat,Int.reduceNeg,Nat.reduceLeDiff,Nat.reduceBEq,Nat.reduceBneDiff,Value.cells, hi1, hi2, Int.toNat_natCast, ci, w2, n2, w1]
    exact ⟨_, by omega, i + 1, by rw [hF2], by omega, rfl⟩
  · have hi1 : ¬ (i : Int) < L.length := by omega
    have : i = L.length := by omega
    subst this
    rw [List.take_length]
    generalize hFF : L.flatten.length = FF at *
    simp -implicitDefEqProofs only [zB1,zB2,zB3,zB4,zB5,zB6,zB7,zB8,zB9,zB10,zB11,y00,y01,y02,y03,y04,y05,y06,y07,y08,y09,y0a,y0b,y0c,y0d,y0e,y0f,y0g,y0h,y0i,y0j,y0k,y0l,y0m,y0n,y0o,y0p,y0q,y0r,y0s,y0t,y0u,y0v,y0w,y0x,y0y,y0z,y10,y11,y12,y13,y14,y15,y16,y17,y18,y19,y1a,y1b,y1c,y1d,y1e,y1f,y1g,y1h,y1i,y1j,y1k,y1l,y1m,y1n,y1o,y1p,y1q,y1r,retO,retL,retV,z69,allV,allP,z6a,z6d,z6e,z6k,z6l,z6m,binV,eqV,unV,oOpt,reduceIte,reduceCtorEq,Nat.reduceEqDiff,Nat.reduceAdd,Nat.reduceMul,Nat.reduceLT,Nat.reduceSub,Int.reduceLT,Int.reduceLE,Int.reduceEq,Int.reduceNe,Int.reduceSub,Int.reduceAdd,Int.reduceMul,Int.reduceBEq,Int.reduceBNe,Int.reduceGT,Int.reduceGE,Nat.reduceGT,Int.reduceToNat,Int.reduceNeg,Nat.reduceLeDiff,Nat.reduceBEq,Nat.reduceBneDiff,Value.cells, hi1]
    refine (Grow_c E H FF (by omega)).mono ?_
    rintro r h1 ⟨le1, ow1⟩
    simp -implicitDefEqProofs only [zB1,zB2,zB3,zB4,zB5,zB6,zB7,zB8,zB9,zB10,zB11,y00,y01,y02,y03,y04,y05,y06,y07,y08,y09,y0a,y0b,y0c,y0d,y0e,y0f,y0g,y0h,y0i,y0j,y0k,y0l,y0m,y0n,y0o,y0p,y0q,y0r,y0s,y0t,y0u,y0v,y0w,y0x,y0y,y0z,y10,y11,y12,y13,y14,y15,y16,y17,y18,y19,y1a,y1b,y1c,y1d,y1e,y1f,y1g,y1h,y1i,y1j,y1k,y1l,y1m,y1n,y1o,y1p,y1q,y1r,retO,retL,retV,z69,allV,allP,z6a,z6d,z6e,z6k,z6l,z6m,binV,eqV,unV,oOpt,reduceIte,reduceCtorEq,Nat.reduceEqDiff,Nat.reduceAdd,Nat.reduceMul,Nat.reduceLT,Nat.reduceSub,Int.reduceLT,Int.reduceLE,Int.reduceEq,Int.reduceNe,Int.reduceSub,Int.reduceAdd,Int.reduceMul,Int.reduceBEq,Int.reduceBNe,Int.reduceGT,Int.reduceGE,Nat.reduceGT,Int.reduceToNat,Int.reduceNeg,Nat.reduceLeDiff,Nat.reduceBEq,Nat.reduceBneDiff,Value.cells]
    refine wp_loop' (fun m t H' => H.le H' ∧ ∃ (i : Nat) (v6 : Value), t = tl [(6, v6), (25, .slice base L.length c), (26, .int .i64 L.length), (27, .int .i64 i)] ∧ i ≤ L.length ∧ m = L.length - i ∧ OwB H H' v6 (L.take i).flatten) L.length
      ⟨le1, 0, r, rfl, by omega, by omega, by rw [List.take_zero]; exact ow1⟩ ?_
    rintro m t H' ⟨leH, i, v6, rfl, hi, rfl, ow⟩
    by_cases hlt : i < L.length
    · have hi1 : (i : Int) < L.length := by omega
      have hi2 : (0 : Int) ≤ i := by omega
      have w1 : IntKind.i64.wrap ((i : Int) + 1) = ((i + 1 : Nat) : Int) := wrapN (by omega)
      obtain ⟨b, o, rfl, ci, bi, cci, ei⟩ := part i hlt H' leH
      have si := (el i (by omega) hlt).le leH
      have hf := flat_len_take (L := L) (i + 1)
      have hs := step i hlt
      rw [hs, List.length_append] at hf
      simp -implicitDefEqProofs only [zB1,zB2,zB3,zB4,zB5,zB6,zB7,zB8,zB9,zB10,zB11,y00,y01,y02,y03,y04,y05,y06,y07,y08,y09,y0a,y0b,y0c,y0d,y0e,y0f,y0g,y0h,y0i,y0j,y0k,y0l,y0m,y0n,y0o,y0p,y0q,y0r,y0s,y0t,y0u,y0v,y0w,y0x,y0y,y0z,y10,y11,y12,y13,y14,y15,y16,y17,y18,y19,y1a,y1b,y1c,y1d,y1e,y1f,y1g,y1h,y1i,y1j,y1k,y1l,y1m,y1n,y1o,y1p,y1q,y1r,retO,retL,retV,z69,allV,allP,z6a,z6d,z6e,z6k,z6l,z6m,binV,eqV,unV,oOpt,reduceIte,reduceCtorEq,Nat.reduceEqDiff,Nat.reduceAdd,Nat.reduceMul,Nat.reduceLT,Nat.reduceSub,Int.reduceLT,Int.reduceLE,Int.reduceEq,Int.reduceNe,Int.reduceSub,Int.reduceAdd,Int.reduceMul,Int.reduceBEq,Int.reduceBNe,Int.reduceGT,Int.reduceGE,Nat.reduceGT,Int.reduceToNat,Int.reduceNeg,Nat.reduceLeDiff,Nat.reduceBEq,Nat.reduceBneDiff,Value.cells, hi1, hi2, Int.toNat_natCast, ci]
      refine appendP_ow (bytes := 1) (m := L[i].length) (news := L[i].map u8V) leH (by omega) ow si (one_u8 _) (by omega) (by omega) ?_
      intro v7 h7 ow7 le7
      simp -implicitDefEqProofs only [zB1,zB2,zB3,zB4,zB5,zB6,zB7,zB8,zB9,zB10,zB11,y00,y01,y02,y03,y04,y05,y06,y07,y08,y09,y0a,y0b,y0c,y0d,y0e,y0f,y0g,y0h,y0i,y0j,y0k,y0l,y0m,y0n,y0o,y0p,y0q,y0r,y0s,y0t,y0u,y0v,y0w,y0x,y0y,y0z,y10,y11,y12,y13,y14,y15,y16,y17,y18,y19,y1a,y1b,y1c,y1d,y1e,y1f,y1g,y1h,y1i,y1j,y1k,y1l,y1m,y1n,y1o,y1p,y1q,y1r,retO,retL,retV,z69,allV,allP,z6a,z6d,z6e,z6k,z6l,z6m,binV,eqV,unV,oOpt,reduceIte,reduceCtorEq,Nat.reduceEqDiff,Nat.reduceAdd,Nat.reduceMul,Nat.reduceLT,Nat.reduceSub,Int.reduceLT,Int.reduceLE,Int.reduceEq,Int.reduceNe,Int.reduceSub,Int.reduceAdd,Int.reduceMul,Int.reduceBEq,Int.reduceBNe,Int.reduceGT,Int.reduceGE,Nat.reduceGT,Int.reduceToNat,Int.reduceNeg,Nat.reduceLeDiff,Nat.reduceBEq,Nat.reduceBneDiff,Value.cells, w1]
      refine ⟨L.length - (i + 1), by omega, le7, i + 1, v7, rfl, by omega, rfl, ?_⟩
      rw [hs]
      unfold OwB
      rw [List.length_append, List.map_append]
      exact ow7
    · have hi1 : ¬ (i : Int) < L.length := by omega
      have : i = L.length := by omega
      subst this
      rw [List.take_length] at ow
      simp -implicitDefEqProofs only [zB1,zB2,zB3,zB4,zB5,zB6,zB7,zB8,zB9,zB10,zB11,y00,y01,y02,y03,y04,y05,y06,y07,y08,y09,y0a,y0b,y0c,y0d,y0e,y0f,y0g,y0h,y0i,y0j,y0k,y0l,y0m,y0n,y0o,y0p,y0q,y0r,y0s,y0t,y0u,y0v,y0w,y0x,y0y,y0z,y10,y11,y12,y13,y14,y15,y16,y17,y18,y19,y1a,y1b,y1c,y1d,y1e,y1f,y1g,y1h,y1i,y1j,y1k,y1l,y1m,y1n,y1o,y1p,y1q,y1r,retO,retL,retV,z69,allV,allP,z6a,z6d,z6e,z6k,z6l,z6m,binV,eqV,unV,oOpt,reduceIte,reduceCtorEq,Nat.reduceEqDiff,Nat.reduceAdd,Nat.reduceMul,Nat.reduceLT,Nat.reduceSub,Int.reduceLT,Int.reduceLE,Int.reduceEq,Int.reduceNe,Int.reduceSub,Int.reduceAdd,Int.reduceMul,Int.reduceBEq,Int.reduceBNe,Int.reduceGT,Int.reduceGE,Nat.reduceGT,Int.reduceToNat,Int.reduceNeg,Nat.reduceLeDiff,Nat.reduceBEq,Nat.reduceBneDiff,Value.cells, hi1]
      exact ⟨leH, ow⟩
end Go.Bb
/- Contracts: tags. -/
namespace Go.Bb
set_option linter.unusedSimpArgs false
set_option linter.unusedVariables false
set_option maxRecDepth 20000

def blockB (l : List UInt8) : List UInt8 := l.take 16 ++ [1] ++ List.replicate (32 - (l.take 16).length) 0
def blockN (l : List UInt8) : N3 := ⟨(fromLittleF ((blockB l).take 8)).toNat, (fromLittleF (((blockB l).drop 8).take 8)).toNat, ((blockB l).getD 16 0).toNat⟩
def tagSum (k0 k1 : Nat) (s : N3) (l : List UInt8) : N3 :=
  if h : 0 < l.length then tagSum k0 k1 ((s.plus (blockN l)).times k0 k1) (l.drop 16) else s
termination_by l.length
decreasing_by simp; omega
theorem tagSum_more {k0 k1 : Nat} {s : N3} {l : List UInt8} (h : 0 < l.length) : tagSum k0 k1 s l = tagSum k0 k1 ((s.plus (blockN l)).times k0 k1) (l.drop 16) := by
  rw [tagSum, dif_pos h]
theorem tagSum_done {k0 k1 : Nat} {s : N3} {l : List UInt8} (h : ¬ 0 < l.length) : tagSum k0 k1 s l = s := by
  rw [tagSum, dif_neg h]
/-- The first words of a clamped row. -/
def rowL (f : Nat → UInt8) (n : Nat) : List UInt8 := (List.range n).map f
theorem rowL_len (f : Nat → UInt8) (n : Nat) : (rowL f n).length = n := by simp [rowL]
theorem rowL_map (f : Nat → UInt8) (n : Nat) : (rowL f n).map u8V = row8 f n := by simp [rowL, row8, u8V]
def keyR (w : List UInt8) : Nat → UInt8 := clampG fun j => w.getD j 0
def keyK (w : List UInt8) (i : Nat) : Nat := (fromLittleF (((rowL (keyR w) 16).drop (8 * i)).take 8)).toNat
def tagN (w all : List UInt8) : N3 := (tagSum (keyK w 0) (keyK w 1) z3 all).last.plus ⟨(fromLittleF ((w.drop 16).take 8)).toNat, (fromLittleF ((w.drop 24).take 8)).toNat, 0⟩
def tagF (w all : List UInt8) : List UInt8 := littleF (BitVec.ofNat 64 (tagN w all).a) 8 ++ littleF (BitVec.ofNat 64 (tagN w all).b) 8

theorem poly_Tag_c (E : EnvT tab) (h : Heap) {v : Value} (w : List UInt8) (L : List (List UInt8)) (hw : w.length = 32) (hl : L.length ≤ 100000) (ht : L.flatten.length ≤ 100000000) (s : SlL h v L) :
    ACallN E.toEnv n_poly_Tag [.agg (w.map u8V).toArray, v] h fun r h' => h.le h' ∧ r = .agg ((tagF w L.flatten).map u8V).toArray := by
  refine acall h_poly_Tag ir_poly_Tag rfl rfl (wpA_sound ?_)
  unfold ir_poly_Tag
  have hw' : (w.map u8V).length = 32 := by simp [hw]
  simp -implicitDefEqProofs only [zB1,zB2,zB3,zB4,zB5,zB6,zB7,zB8,zB9,zB10,zB11,y00,y01,y02,y03,y04,y05,y06,y07,y08,y09,y0a,y0b,y0c,y0d,y0e,y0f,y0g,y0h,y0i,y0j,y0k,y0l,y0m,y0n,y0o,y0p,y0q,y0r,y0s,y0t,y0u,y0v,y0w,y0x,y0y,y0z,y10,y11,y12,y13,y14,y15,y16,y17,y18,y19,y1a,y1b,y1c,y1d,y1e,y1f,y1g,y1h,y1i,y1j,y1k,y1l,y1m,y1n,y1o,y1p,y1q,y1r,retO,retL,retV,z69,allV,allP,z6a,z6d,z6e,z6k,z6l,z6m,binV,eqV,unV,oOpt,reduceIte,reduceCtorEq,Nat.reduceEqDiff,Nat.reduceAdd,Nat.reduceMul,Nat.reduceLT,Nat.reduceSub,Int.reduceLT,Int.reduceLE,Int.reduceEq,Int.reduceNe,Int.reduceSub,Int.reduceAdd,Int.reduceMul,Int.reduceBEq,Int.reduceBNe,Int.reduceGT,Int.reduceGE,Nat.reduceGT,Int.reduceToNat,Int.reduceNeg,Nat.reduceLeDiff,Nat.reduceBEq,Nat.reduceBneDiff,Value.cells]
  rw [hw']
  intro b2 hb2 b4 hb4
  try simp -implicitDefEqProofs only [zB1,zB2,zB3,zB4,zB5,zB6,zB7,zB8,zB9,zB10,zB11,y00,y01,y02,y03,y04,y05,y06,y07,y08,y09,y0a,y0b,y0c,y0d,y0e,y0f,y0g,y0h,y0i,y0j,y0k,y0l,y0m,y0n,y0o,y0p,y0q,y0r,y0s,y0t,y0u,y0v,y0w,y0x,y0y,y0z,y10,y11,y12,y13,y14,y15,y16,y17,y18,y19,y1a,y1b,y1c,y1d,y1e,y1f,y1g,y1h,y1i,y1j,y1k,y1l,y1m,y1n,y1o,y1p,y1q,y1r,retO,retL,retV,z69,allV,allP,z6a,z6d,z6e,z6k,z6l,z6m,binV,eqV,unV,oOpt,reduceIte,reduceCtorEq,Nat.reduceEqDiff,Nat.reduceAdd,Nat.reduceMul,Nat.reduceLT,Nat.reduceSub,Int.reduceLT,Int.reduceLE,Int.reduceEq,Int.reduceNe,Int.reduceSub,Int.reduceAdd,Int.reduceMul,Int.reduceBEq,Int.reduceBNe,Int.reduceGT,Int.reduceGE,Nat.reduceGT,Int.reduceToNat,Int.reduceNeg,Nat.reduceLeDiff,Nat.reduceBEq,Nat.reduceBneDiff,Value.cells]
  rw [List.length_replicate]
  have n42 := (Heap.set_none.1 hb4).1
  have hb4' := (Heap.set_none.1 hb4).2
  have bd1 : bnds 32 32 none (some (some (.int .i64 16))) none = some (0, 16, 32) := bnds_hi (by omega) (by omega)
  have le0 : h.le ((h.set b2 (.own 0 (w.map u8V) 32)).set b4 (.own 0 (List.replicate 16 (.int .u8 0)) 16)) := Heap.le_set (Heap.le_set (Heap.le_refl _) hb2 _) hb4' _
  have q2 : ((h.set b2 (.own 0 (w.map u8V) 32)).set b4 (.own 0 (List.replicate 16 (.int .u8 0)) 16)) b2 = some (.own 0 (w.map u8V) 32) := by rw [Heap.set_ne (Ne.symm n42), Heap.set_self]
  have q4 : ((h.set b2 (.own 0 (w.map u8V) 32)).set b4 (.own 0 (List.replicate 16 (.int .u8 0)) 16)) b4 = some (.own 0 (List.replicate 16 (.int .u8 0)) 16) := Heap.set_self _ _ _
  generalize ((h.set b2 (.own 0 (w.map u8V) 32)).set b4 (.own 0 (List.replicate 16 (.int .u8 0)) 16)) = h1 at le0 q2 q4 ⊢
  have c16 : hcells h1 ⟨b2, 0, none⟩ 16 = some (row8 (fun j => w.getD j 0) 16) := by
    rw [hcells_at q2 (by simp [hw]), List.drop_zero, ← List.map_take, ← row8_list]
    have : (w.take 16).length = 16 := by simp [hw]
    rw [this]
    congr 1
    apply row8_congr
    intro k hk
    simp [List.getElem?_take, hk]
  simp -implicitDefEqProofs only [zB1,zB2,zB3,zB4,zB5,zB6,zB7,zB8,zB9,zB10,zB11,y00,y01,y02,y03,y04,y05,y06,y07,y08,y09,y0a,y0b,y0c,y0d,y0e,y0f,y0g,y0h,y0i,y0j,y0k,y0l,y0m,y0n,y0o,y0p,y0q,y0r,y0s,y0t,y0u,y0v,y0w,y0x,y0y,y0z,y10,y11,y12,y13,y14,y15,y16,y17,y18,y19,y1a,y1b,y1c,y1d,y1e,y1f,y1g,y1h,y1i,y1j,y1k,y1l,y1m,y1n,y1o,y1p,y1q,y1r,retO,retL,retV,z69,allV,allP,z6a,z6d,z6e,z6k,z6l,z6m,binV,eqV,unV,oOpt,reduceIte,reduceCtorEq,Nat.reduceEqDiff,Nat.reduceAdd,Nat.reduceMul,Nat.reduceLT,Nat.reduceSub,Int.reduceLT,Int.reduceLE,Int.reduceEq,Int.reduceNe,Int.reduceSub,Int.reduceAdd,Int.reduceMul,Int.reduceBEq,Int.reduceBNe,Int.reduceGT,Int.reduceGE,Nat.reduceGT,Int.reduceToNat,Int.reduceNeg,Nat.reduceLeDiff,Nat.reduceBEq,Nat.reduceBneDiff,Value.cells, bd1, Nat.sub_zero, addz, c16]
  refine (poly_Clamp_c E h1 _).mono ?_
  rintro r h2 ⟨le2, rfl⟩
  have eR : row8 (clampG fun j => w.getD j 0) 16 = (rowL (keyR w) 16).map u8V := (rowL_map _ _).symm
  rw [eR]
  have hk0 : keyK w 0 = (fromLittleF ((rowL (keyR w) 16).take 8)).toNat := rfl
  have hk1 : keyK w 1 = (fromLittleF (((rowL (keyR w) 16).drop 8).take 8)).toNat := rfl
  have hR := rowL_len (keyR w) 16
  generalize rowL (keyR w) 16 = R at hk0 hk1 hR ⊢
  simp -implicitDefEqProofs only [zB1,zB2,zB3,zB4,zB5,zB6,zB7,zB8,zB9,zB10,zB11,y00,y01,y02,y03,y04,y05,y06,y07,y08,y09,y0a,y0b,y0c,y0d,y0e,y0f,y0g,y0h,y0i,y0j,y0k,y0l,y0m,y0n,y0o,y0p,y0q,y0r,y0s,y0t,y0u,y0v,y0w,y0x,y0y,y0z,y10,y11,y12,y13,y14,y15,y16,y17,y18,y19,y1a,y1b,y1c,y1d,y1e,y1f,y1g,y1h,y1i,y1j,y1k,y1l,y1m,y1n,y1o,y1p,y1q,y1r,retO,retL,retV,z69,allV,allP,z6a,z6d,z6e,z6k,z6l,z6m,binV,eqV,unV,oOpt,reduceIte,reduceCtorEq,Nat.reduceEqDiff,Nat.reduceAdd,Nat.reduceMul,Nat.reduceLT,Nat.reduceSub,Int.reduceLT,Int.reduceLE,Int.reduceEq,Int.reduceNe,Int.reduceSub,Int.reduceAdd,Int.reduceMul,Int.reduceBEq,Int.reduceBNe,Int.reduceGT,Int.reduceGE,Nat.reduceGT,Int.reduceToNat,Int.reduceNeg,Nat.reduceLeDiff,Nat.reduceBEq,Nat.reduceBneDiff,Value.cells]
  intro b5 hb5
  rw [List.length_replicate]
  have st5 : storeV (h2.set b5 (.own 0 (List.replicate 16 (.int .u8 0)) 16)) 16 (.pointer (some ⟨b5, 0, none⟩)) (.agg (R.map u8V).toArray) = some (h2.set b5 (.own 0 (R.map u8V) 16)) := z6q (by omega) (by simp [hR]) (one_u8 _) (by simp) (by omega)
  have bd2 : bnds 16 16 none (some (some (.int .i64 8))) none = some (0, 8, 16) := bnds_hi (by omega) (by omega)
  have bd3 : bnds 16 16 (some (some (.int .i64 8))) none none = some (8, 16, 16) := bnds_lo (by omega) (by omega)
  have q25 := le2 _ _ q2
  have q45 := le2 _ _ q4
  have n52 := ne_of_none hb5 q25
  have n54 := ne_of_none hb5 q45
  have le3 : h.le (h2.set b5 (.own 0 (R.map u8V) 16)) := Heap.le_new (Heap.le_trans le0 le2) hb5 _
  have r5 := own_sl (l := R) (sz := 16) (H := h2.set b5 (.own 0 (R.map u8V) 16)) (Heap.set_self _ _ _)
  have r2 : (h2.set b5 (.own 0 (R.map u8V) 16)) b2 = some (.own 0 (w.map u8V) 32) := by rw [Heap.set_ne n52]; exact q25
  have r4 : (h2.set b5 (.own 0 (R.map u8V) 16)) b4 = some (.own 0 (List.replicate 16 (.int .u8 0)) 16) := by rw [Heap.set_ne n54]; exact q45
  have ea : (Addr.add ⟨b5, 0, none⟩ 8 : Addr) = ⟨b5, 8, none⟩ := by rw [add_off', Nat.zero_add]
  simp -implicitDefEqProofs only [zB1,zB2,zB3,zB4,zB5,zB6,zB7,zB8,zB9,zB10,zB11,y00,y01,y02,y03,y04,y05,y06,y07,y08,y09,y0a,y0b,y0c,y0d,y0e,y0f,y0g,y0h,y0i,y0j,y0k,y0l,y0m,y0n,y0o,y0p,y0q,y0r,y0s,y0t,y0u,y0v,y0w,y0x,y0y,y0z,y10,y11,y12,y13,y14,y15,y16,y17,y18,y19,y1a,y1b,y1c,y1d,y1e,y1f,y1g,y1h,y1i,y1j,y1k,y1l,y1m,y1n,y1o,y1p,y1q,y1r,retO,retL,retV,z69,allV,allP,z6a,z6d,z6e,z6k,z6l,z6m,binV,eqV,unV,oOpt,reduceIte,reduceCtorEq,Nat.reduceEqDiff,Nat.reduceAdd,Nat.reduceMul,Nat.reduceLT,Nat.reduceSub,Int.reduceLT,Int.reduceLE,Int.reduceEq,Int.reduceNe,Int.reduceSub,Int.reduceAdd,Int.reduceMul,Int.reduceBEq,Int.reduceBNe,Int.reduceGT,Int.reduceGE,Nat.reduceGT,Int.reduceToNat,Int.reduceNeg,Nat.reduceLeDiff,Nat.reduceBEq,Nat.reduceBneDiff,Value.cells, st5, bd2, Nat.sub_zero, addz]
  generalize (h2.set b5 (.own 0 (R.map u8V) 16)) = h3 at le3 r5 r2 r4 ⊢
  have s51 := Sl.headB r5 (m := 8) (by omega)
  rw [hR] at s51
  refine (poly_word_c E h3 (R.take 8) (by simp; omega) s51).mono ?_
  rintro r h4 ⟨le4, rfl⟩
  simp -implicitDefEqProofs only [zB1,zB2,zB3,zB4,zB5,zB6,zB7,zB8,zB9,zB10,zB11,y00,y01,y02,y03,y04,y05,y06,y07,y08,y09,y0a,y0b,y0c,y0d,y0e,y0f,y0g,y0h,y0i,y0j,y0k,y0l,y0m,y0n,y0o,y0p,y0q,y0r,y0s,y0t,y0u,y0v,y0w,y0x,y0y,y0z,y10,y11,y12,y13,y14,y15,y16,y17,y18,y19,y1a,y1b,y1c,y1d,y1e,y1f,y1g,y1h,y1i,y1j,y1k,y1l,y1m,y1n,y1o,y1p,y1q,y1r,retO,retL,retV,z69,allV,allP,z6a,z6d,z6e,z6k,z6l,z6m,binV,eqV,unV,oOpt,reduceIte,reduceCtorEq,Nat.reduceEqDiff,Nat.reduceAdd,Nat.reduceMul,Nat.reduceLT,Nat.reduceSub,Int.reduceLT,Int.reduceLE,Int.reduceEq,Int.reduceNe,Int.reduceSub,Int.reduceAdd,Int.reduceMul,Int.reduceBEq,Int.reduceBNe,Int.reduceGT,Int.reduceGE,Nat.reduceGT,Int.reduceToNat,Int.reduceNeg,Nat.reduceLeDiff,Nat.reduceBEq,Nat.reduceBneDiff,Value.cells, bd3, addz, ea, implies_true, List.mem_singleton, forall_eq]
  have s52 : SlB h4 (.slice (some ⟨b5, 8, none⟩) 8 8) ((R.drop 8).take 8) := by
    have := Sl.midB (a := 8) (b := 16) (by rw [hR] at r5; rw [hR]; exact r5) (by omega) (by omega)
    rw [if_neg (by omega), Option.map_some, ea] at this
    exact Sl.le le4 this
  refine (poly_word_c E h4 ((R.drop 8).take 8) (by simp; omega) s52).mono ?_
  rintro r h5 ⟨le5, rfl⟩
  unfold u64V
  rw [← hk0, ← hk1]
  have lk0 : keyK w 0 < 18446744073709551616 := BitVec.isLt _
  have lk1 : keyK w 1 < 18446744073709551616 := BitVec.isLt _
  generalize hKK0 : keyK w 0 = k0 at *
  generalize hKK1 : keyK w 1 = k1 at *
  simp -implicitDefEqProofs only [zB1,zB2,zB3,zB4,zB5,zB6,zB7,zB8,zB9,zB10,zB11,y00,y01,y02,y03,y04,y05,y06,y07,y08,y09,y0a,y0b,y0c,y0d,y0e,y0f,y0g,y0h,y0i,y0j,y0k,y0l,y0m,y0n,y0o,y0p,y0q,y0r,y0s,y0t,y0u,y0v,y0w,y0x,y0y,y0z,y10,y11,y12,y13,y14,y15,y16,y17,y18,y19,y1a,y1b,y1c,y1d,y1e,y1f,y1g,y1h,y1i,y1j,y1k,y1l,y1m,y1n,y1o,y1p,y1q,y1r,retO,retL,retV,z69,allV,allP,z6a,z6d,z6e,z6k,z6l,z6m,binV,eqV,unV,oOpt,reduceIte,reduceCtorEq,Nat.reduceEqDiff,Nat.reduceAdd,Nat.reduceMul,Nat.reduceLT,Nat.reduceSub,Int.reduceLT,Int.reduceLE,Int.reduceEq,Int.reduceNe,Int.reduceSub,Int.reduceAdd,Int.reduceMul,Int.reduceBEq,Int.reduceBNe,Int.reduceGT,Int.reduceGE,Nat.reduceGT,Int.reduceToNat,Int.reduceNeg,Nat.reduceLeDiff,Nat.reduceBEq,Nat.reduceBneDiff,Value.cells, implies_true]
  intro b6 hb6 b7 hb7
  have le35 := Heap.le_trans le4 le5
  have r25 := le35 _ _ r2
  have r45 := le35 _ _ r4
  have n62 := ne_of_none hb6 r25
  have n64 := ne_of_none hb6 r45
  have n76 := (Heap.set_none.1 hb7).1
  have hb7' := (Heap.set_none.1 hb7).2
  have n72 := ne_of_none hb7' r25
  have n74 := ne_of_none hb7' r45
  have le6 : h.le ((h5.set b6 (.own 0 [.int .u64 (k0 : Int), .int .u64 (k1 : Int)] 2)).set b7 (.own 0 [.int .u64 0, .int .u64 0, .int .u64 0] 3)) := by
    have a := Heap.le_trans le3 le35
    exact Heap.le_set (Heap.le_set a (Heap.none_of_le a hb6) _) (Heap.none_of_le a hb7') _
  have t2 : ((h5.set b6 (.own 0 [.int .u64 (k0 : Int), .int .u64 (k1 : Int)] 2)).set b7 (.own 0 [.int .u64 0, .int .u64 0, .int .u64 0] 3)) b2 = some (.own 0 (w.map u8V) 32) := by rw [Heap.set_ne n72, Heap.set_ne n62]; exact r25
  have t4 : ((h5.set b6 (.own 0 [.int .u64 (k0 : Int), .int .u64 (k1 : Int)] 2)).set b7 (.own 0 [.int .u64 0, .int .u64 0, .int .u64 0] 3)) b4 = some (.own 0 (List.replicate 16 (.int .u8 0)) 16) := by rw [Heap.set_ne n74, Heap.set_ne n64]; exact r45
  have t6 : ((h5.set b6 (.own 0 [.int .u64 (k0 : Int), .int .u64 (k1 : Int)] 2)).set b7 (.own 0 [.int .u64 0, .int .u64 0, .int .u64 0] 3)) b6 = some (.own 0 [.int .u64 (k0 : Int), .int .u64 (k1 : Int)] 2) := by rw [Heap.set_ne (Ne.symm n76), Heap.set_self]
  have t7 : ((h5.set b6 (.own 0 [.int .u64 (k0 : Int), .int .u64 (k1 : Int)] 2)).set b7 (.own 0 [.int .u64 0, .int .u64 0, .int .u64 0] 3)) b7 = some (.own 0 z3.cells 3) := Heap.set_self _ _ _
  have hb7h : h b7 = none := Heap.none_of_le (Heap.le_trans le3 le35) hb7'
  generalize ((h5.set b6 (.own 0 [.int .u64 (k0 : Int), .int .u64 (k1 : Int)] 2)).set b7 (.own 0 [.int .u64 0, .int .u64 0, .int .u64 0] 3)) = h6 at le6 t2 t4 t6 t7 ⊢
  refine (Concat_c E h6 L hl ht (s.le le6)).mono ?_
  rintro v8 h7 ⟨le7, ow8⟩
  have s8 := ow8.sl
  obtain ⟨b8, c8, rfl⟩ := Sl.shape s8
  have hall := Nat.le_refl L.flatten.length
  have u2 := le7 _ _ t2
  have u4 := le7 _ _ t4
  have u6 := le7 _ _ t6
  have u7 := le7 _ _ t7
  have leh7 := Heap.le_trans le6 le7
  simp -implicitDefEqProofs only [zB1,zB2,zB3,zB4,zB5,zB6,zB7,zB8,zB9,zB10,zB11,y00,y01,y02,y03,y04,y05,y06,y07,y08,y09,y0a,y0b,y0c,y0d,y0e,y0f,y0g,y0h,y0i,y0j,y0k,y0l,y0m,y0n,y0o,y0p,y0q,y0r,y0s,y0t,y0u,y0v,y0w,y0x,y0y,y0z,y10,y11,y12,y13,y14,y15,y16,y17,y18,y19,y1a,y1b,y1c,y1d,y1e,y1f,y1g,y1h,y1i,y1j,y1k,y1l,y1m,y1n,y1o,y1p,y1q,y1r,retO,retL,retV,z69,allV,allP,z6a,z6d,z6e,z6k,z6l,z6m,binV,eqV,unV,oOpt,reduceIte,reduceCtorEq,Nat.reduceEqDiff,Nat.reduceAdd,Nat.reduceMul,Nat.reduceLT,Nat.reduceSub,Int.reduceLT,Int.reduceLE,Int.reduceEq,Int.reduceNe,Int.reduceSub,Int.reduceAdd,Int.reduceMul,Int.reduceBEq,Int.reduceBNe,Int.reduceGT,Int.reduceGE,Nat.reduceGT,Int.reduceToNat,Int.reduceNeg,Nat.reduceLeDiff,Nat.reduceBEq,Nat.reduceBneDiff,Value.cells]
  refine wp_loop' (fun m t H => h6.le (H.set b7 (.own 0 z3.cells 3)) ∧ h.le H ∧ ∃ (l : List UInt8) (v8 : Value) (S : N3), t = tl [(2, .pointer (some ⟨b2, 0, none⟩)), (4, .pointer (some ⟨b4, 0, none⟩)), (6, .pointer (some ⟨b6, 0, none⟩)), (7, .pointer (some ⟨b7, 0, none⟩)), (8, v8)] ∧ m = l.length ∧ l.length ≤ 100000000 ∧
      H b7 = some (.own 0 S.cells 3) ∧ S.ok ∧ (∀ X, SlB (H.set b7 X) v8 l) ∧ tagSum k0 k1 S l = tagSum k0 k1 z3 L.flatten) L.flatten.length
    ⟨by rw [Heap.set_same u7]; exact le7, leh7, L.flatten, _, z3, rfl, rfl, by omega, u7, z3_ok, fun X => ow8.apart t7, rfl⟩ ?_
  clear u2 u4 u6 u7 s8 ow8 leh7 le7
  rintro m t H ⟨le6H, leH, l, v8, S, rfl, rfl, hl8, q7, okS, sl, hsum⟩
  have s8 := sl (.own 0 S.cells 3)
  rw [Heap.set_same q7] at s8
  obtain ⟨b8, c8, rfl⟩ := Sl.shape s8
  have at6 : ∀ b X, b ≠ b7 → h6 b = some X → H b = some X := fun b X hne hx => by
    have := le6H b X hx
    rwa [Heap.set_ne hne] at this
  have p6 := at6 b6 _ (Ne.symm n76) t6
  have p2 := at6 b2 _ n72 t2
  have p4 := at6 b4 _ n74 t4
  by_cases hlt : 0 < l.length
  · have g0 : (0 : Int) < l.length := by omega
    obtain ⟨N, hN⟩ : ∃ N, N = (l.take 16).length := ⟨_, rfl⟩
    have hN2 : N ≤ 16 ∧ N ≤ l.length ∧ 0 < N := by rw [hN, List.length_take]; omega
    have hmn : (if (16 : Int) < (l.length : Int) then (16 : Int) else (l.length : Int)) = (N : Int) := by
      rw [hN, List.length_take]
      split <;> omega
    have hc8 : l.length ≤ c8 := by
      rcases s8 with ⟨e, hz, _⟩ | ⟨_, _, e, hc, _⟩
      · omega
      · simp only [Value.slice.injEq] at e; omega
    have bdN : bnds l.length c8 none (some (some (.int .i64 (N : Int)))) none = some (0, N, c8) := by rw [bnds_hi (by omega) (by omega), Int.toNat_natCast]
    simp -implicitDefEqProofs only [zB1,zB2,zB3,zB4,zB5,zB6,zB7,zB8,zB9,zB10,zB11,y00,y01,y02,y03,y04,y05,y06,y07,y08,y09,y0a,y0b,y0c,y0d,y0e,y0f,y0g,y0h,y0i,y0j,y0k,y0l,y0m,y0n,y0o,y0p,y0q,y0r,y0s,y0t,y0u,y0v,y0w,y0x,y0y,y0z,y10,y11,y12,y13,y14,y15,y16,y17,y18,y19,y1a,y1b,y1c,y1d,y1e,y1f,y1g,y1h,y1i,y1j,y1k,y1l,y1m,y1n,y1o,y1p,y1q,y1r,retO,retL,retV,z69,allV,allP,z6a,z6d,z6e,z6k,z6l,z6m,binV,eqV,unV,oOpt,reduceIte,reduceCtorEq,Nat.reduceEqDiff,Nat.reduceAdd,Nat.reduceMul,Nat.reduceLT,Nat.reduceSub,Int.reduceLT,Int.reduceLE,Int.reduceEq,Int.reduceNe,Int.reduceSub,Int.reduceAdd,Int.reduceMul,Int.reduceBEq,Int.reduceBNe,Int.reduceGT,Int.reduceGE,Nat.reduceGT,Int.reduceToNat,Int.reduceNeg,Nat.reduceLeDiff,Nat.reduceBEq,Nat.reduceBneDiff,Value.cells, g0, hmn, bdN]
    rw [addO b8 c8 (fun a _ => addr_add0 a), Nat.sub_zero]
    have st := Sl.headB s8 (m := N) (by omega)
    have eT : l.take N = l.take 16 := by
      rw [hN, List.length_take]
      by_cases c : 16 ≤ l.length
      · rw [Nat.min_eq_left c]
      · rw [Nat.min_eq_right (by omega), List.take_of_length_le (Nat.le_refl _), List.take_of_length_le (by omega)]
    rw [eT] at st
    refine (Clone_c E H (l.take 16) (by omega) (by unfold SlB; rw [← hN]; unfold SlB at st; rw [← hN] at st; exact st)).mono ?_
    rintro v9 h8 ⟨le8, ow9⟩
    simp -implicitDefEqProofs only [zB1,zB2,zB3,zB4,zB5,zB6,zB7,zB8,zB9,zB10,zB11,y00,y01,y02,y03,y04,y05,y06,y07,y08,y09,y0a,y0b,y0c,y0d,y0e,y0f,y0g,y0h,y0i,y0j,y0k,y0l,y0m,y0n,y0o,y0p,y0q,y0r,y0s,y0t,y0u,y0v,y0w,y0x,y0y,y0z,y10,y11,y12,y13,y14,y15,y16,y17,y18,y19,y1a,y1b,y1c,y1d,y1e,y1f,y1g,y1h,y1i,y1j,y1k,y1l,y1m,y1n,y1o,y1p,y1q,y1r,retO,retL,retV,z69,allV,allP,z6a,z6d,z6e,z6k,z6l,z6m,binV,eqV,unV,oOpt,reduceIte,reduceCtorEq,Nat.reduceEqDiff,Nat.reduceAdd,Nat.reduceMul,Nat.reduceLT,Nat.reduceSub,Int.reduceLT,Int.reduceLE,Int.reduceEq,Int.reduceNe,Int.reduceSub,Int.reduceAdd,Int.reduceMul,Int.reduceBEq,Int.reduceBNe,Int.reduceGT,Int.reduceGE,Nat.reduceGT,Int.reduceToNat,Int.reduceNeg,Nat.reduceLeDiff,Nat.reduceBEq,Nat.reduceBneDiff,Value.cells]
    intro bO hbO
    try simp -implicitDefEqProofs only [zB1,zB2,zB3,zB4,zB5,zB6,zB7,zB8,zB9,zB10,zB11,y00,y01,y02,y03,y04,y05,y06,y07,y08,y09,y0a,y0b,y0c,y0d,y0e,y0f,y0g,y0h,y0i,y0j,y0k,y0l,y0m,y0n,y0o,y0p,y0q,y0r,y0s,y0t,y0u,y0v,y0w,y0x,y0y,y0z,y10,y11,y12,y13,y14,y15,y16,y17,y18,y19,y1a,y1b,y1c,y1d,y1e,y1f,y1g,y1h,y1i,y1j,y1k,y1l,y1m,y1n,y1o,y1p,y1q,y1r,retO,retL,retV,z69,allV,allP,z6a,z6d,z6e,z6k,z6l,z6m,binV,eqV,unV,oOpt,reduceIte,reduceCtorEq,Nat.reduceEqDiff,Nat.reduceAdd,Nat.reduceMul,Nat.reduceLT,Nat.reduceSub,Int.reduceLT,Int.reduceLE,Int.reduceEq,Int.reduceNe,Int.reduceSub,Int.reduceAdd,Int.reduceMul,Int.reduceBEq,Int.reduceBNe,Int.reduceGT,Int.reduceGE,Nat.reduceGT,Int.reduceToNat,Int.reduceNeg,Nat.reduceLeDiff,Nat.reduceBEq,Nat.reduceBneDiff,Value.cells]
    refine appendP_ow (bytes := 1) (m := 1) (news := [.int .u8 1]) (Heap.le_new le8 hbO _) (by omega) (ow9.le (Heap.le_set (Heap.le_refl _) hbO _)) (Sl.lit (n := 1) rfl) rfl (by omega) (by omega) ?_
    intro v10 h9 ow10 le9
    have w32 : IntKind.i64.wrap (32 - (N : Int)) = ((32 - N : Nat) : Int) := by rw [wrapI (by omega) (by omega)]; omega
    simp -implicitDefEqProofs only [zB1,zB2,zB3,zB4,zB5,zB6,zB7,zB8,zB9,zB10,zB11,y00,y01,y02,y03,y04,y05,y06,y07,y08,y09,y0a,y0b,y0c,y0d,y0e,y0f,y0g,y0h,y0i,y0j,y0k,y0l,y0m,y0n,y0o,y0p,y0q,y0r,y0s,y0t,y0u,y0v,y0w,y0x,y0y,y0z,y10,y11,y12,y13,y14,y15,y16,y17,y18,y19,y1a,y1b,y1c,y1d,y1e,y1f,y1g,y1h,y1i,y1j,y1k,y1l,y1m,y1n,y1o,y1p,y1q,y1r,retO,retL,retV,z69,allV,allP,z6a,z6d,z6e,z6k,z6l,z6m,binV,eqV,unV,oOpt,reduceIte,reduceCtorEq,Nat.reduceEqDiff,Nat.reduceAdd,Nat.reduceMul,Nat.reduceLT,Nat.reduceSub,Int.reduceLT,Int.reduceLE,Int.reduceEq,Int.reduceNe,Int.reduceSub,Int.reduceAdd,Int.reduceMul,Int.reduceBEq,Int.reduceBNe,Int.reduceGT,Int.reduceGE,Nat.reduceGT,Int.reduceToNat,Int.reduceNeg,Nat.reduceLeDiff,Nat.reduceBEq,Nat.reduceBneDiff,Value.cells, w32]
    refine appendZP_ow (m := 32 - N) le9 (by omega) ow10 rfl rfl (by omega) (by omega) ?_
    intro v11 h10 ow11 le10
    have eB : (l.take 16).map u8V ++ [Value.int .u8 1] ++ (List.replicate (32 - N) [Value.int .u8 0]).flatten = (blockB l).map u8V := by
      unfold blockB
      rw [← hN, List.flatten_replicate_singleton]
      simp only [List.map_append, List.map_replicate]
      rfl
    have lB : (blockB l).length = 33 := by unfold blockB; rw [← hN]; simp only [List.length_append, List.length_replicate, ← hN, List.length_cons, List.length_nil]; omega
    rw [eB] at ow11
    have e33 : (l.take 16).length + 1 + (32 - N) = 33 := by omega
    rw [e33] at ow11
    have sB : SlB h10 v11 (blockB l) := by unfold SlB; rw [lB]; exact ow11.sl
    have hbl : blockN l = ⟨(fromLittleF ((blockB l).take 8)).toNat, (fromLittleF (((blockB l).drop 8).take 8)).toNat, ((blockB l).getD 16 0).toNat⟩ := rfl
    have hts := tagSum_more (k0 := k0) (k1 := k1) (s := S) hlt
    rw [hbl] at hts
    generalize blockB l = B at *
    obtain ⟨b11, c11, rfl⟩ := Sl.shape sB
    have hc11 : B.length ≤ c11 := by
      rcases sB with ⟨e, hz, _⟩ | ⟨_, _, e, hc, _⟩
      · omega
      · simp only [Value.slice.injEq] at e; omega
    obtain ⟨bb, oo, c', hv, _, hat⟩ := Sl.byte_at sB 16 (by omega)
    simp only [Value.slice.injEq, true_and] at hv
    obtain ⟨rfl, rfl⟩ := hv
    have bd8 : bnds B.length c11 none (some (some (.int .i64 8))) none = some (0, 8, c11) := bnds_hi (by omega) (by omega)
    have bd816 : bnds B.length c11 (some (some (.int .i64 8))) (some (some (.int .i64 16))) none = some (8, 16, c11) := bnds_both (by omega) (by omega) (by omega)
    have y7 : ∀ H', h10.le H' → hcells H' ⟨b7, 0, none⟩ 3 = some S.cells := fun H' x => by rw [hcells_at (x _ _ (le10 _ _ q7)) (by simp [N3.cells])]; rfl
    have y6 : ∀ H', h10.le H' → hcells H' ⟨b6, 0, none⟩ 2 = some [.int .u64 (k0 : Int), .int .u64 (k1 : Int)] := fun H' x => by rw [hcells_at (x _ _ (le10 _ _ p6)) (by simp)]; rfl
    have y16 : ∀ H', h10.le H' → hcell H' ⟨bb, oo + 16, none⟩ = some (.int .u8 ((B.getD 16 0).toNat : Int)) := fun H' x => by
      rw [hat H' x]
      have : B.getD 16 0 = B[16]'(by omega) := by simp [List.getD_eq_getElem?_getD, List.getElem?_eq_getElem (show 16 < B.length by omega)]
      rw [this]; rfl
    have sB8 := Sl.headB sB (m := 8) (by omega)
    have g16 : (16 : Int) < B.length := by omega
    simp -implicitDefEqProofs only [zB1,zB2,zB3,zB4,zB5,zB6,zB7,zB8,zB9,zB10,zB11,y00,y01,y02,y03,y04,y05,y06,y07,y08,y09,y0a,y0b,y0c,y0d,y0e,y0f,y0g,y0h,y0i,y0j,y0k,y0l,y0m,y0n,y0o,y0p,y0q,y0r,y0s,y0t,y0u,y0v,y0w,y0x,y0y,y0z,y10,y11,y12,y13,y14,y15,y16,y17,y18,y19,y1a,y1b,y1c,y1d,y1e,y1f,y1g,y1h,y1i,y1j,y1k,y1l,y1m,y1n,y1o,y1p,y1q,y1r,retO,retL,retV,z69,allV,allP,z6a,z6d,z6e,z6k,z6l,z6m,binV,eqV,unV,oOpt,reduceIte,reduceCtorEq,Nat.reduceEqDiff,Nat.reduceAdd,Nat.reduceMul,Nat.reduceLT,Nat.reduceSub,Int.reduceLT,Int.reduceLE,Int.reduceEq,Int.reduceNe,Int.reduceSub,Int.reduceAdd,Int.reduceMul,Int.reduceBEq,Int.reduceBNe,Int.reduceGT,Int.reduceGE,Nat.reduceGT,Int.reduceToNat,Int.reduceNeg,Nat.reduceLeDiff,Nat.reduceBEq,Nat.reduceBneDiff,Value.cells, bd8, Nat.sub_zero, addz, ite_self]
    refine (poly_word_c E h10 (B.take 8) (by simp; omega) (by unfold SlB; unfold SlB at sB8; have : (B.take 8).length = 8 := (by simp; omega); rw [this] at sB8 ⊢; exact sB8)).mono ?_
    rintro r h11 ⟨le11, rfl⟩
    have sM := Sl.le le11 (Sl.midB sB (a := 8) (b := 16) (by omega) (by omega))
    have a1 := y7 h10 (Heap.le_refl _)
    have a2 := y7 h11 le11
    simp -implicitDefEqProofs only [zB1,zB2,zB3,zB4,zB5,zB6,zB7,zB8,zB9,zB10,zB11,y00,y01,y02,y03,y04,y05,y06,y07,y08,y09,y0a,y0b,y0c,y0d,y0e,y0f,y0g,y0h,y0i,y0j,y0k,y0l,y0m,y0n,y0o,y0p,y0q,y0r,y0s,y0t,y0u,y0v,y0w,y0x,y0y,y0z,y10,y11,y12,y13,y14,y15,y16,y17,y18,y19,y1a,y1b,y1c,y1d,y1e,y1f,y1g,y1h,y1i,y1j,y1k,y1l,y1m,y1n,y1o,y1p,y1q,y1r,retO,retL,retV,z69,allV,allP,z6a,z6d,z6e,z6k,z6l,z6m,binV,eqV,unV,oOpt,reduceIte,reduceCtorEq,Nat.reduceEqDiff,Nat.reduceAdd,Nat.reduceMul,Nat.reduceLT,Nat.reduceSub,Int.reduceLT,Int.reduceLE,Int.reduceEq,Int.reduceNe,Int.reduceSub,Int.reduceAdd,Int.reduceMul,Int.reduceBEq,Int.reduceBNe,Int.reduceGT,Int.reduceGE,Nat.reduceGT,Int.reduceToNat,Int.reduceNeg,Nat.reduceLeDiff,Nat.reduceBEq,Nat.reduceBneDiff,Value.cells, bd816, a1, a2, implies_true, List.mem_singleton, forall_eq]
    refine (poly_word_c E h11 ((B.drop 8).take 8) (by simp; omega) sM).mono ?_
    rintro r h12 ⟨le12, rfl⟩
    have le1012 := Heap.le_trans le11 le12
    have a3 := y7 h12 le1012
    have b1' := y16 h10 (Heap.le_refl _)
    have b2' := y16 h11 le11
    have b3' := y16 h12 le1012
    have g16' : (16 : Int) < (B.length : Int) := g16
    have wz : IntKind.u64.wrap ((B.getD 16 0).toNat : Int) = ((B.getD 16 0).toNat : Int) := wrap_u64n (by have := (B.getD 16 0).toNat_lt; omega)
    have eS : Value.agg S.cells.toArray = S.V := rfl
    simp -implicitDefEqProofs only [zB1,zB2,zB3,zB4,zB5,zB6,zB7,zB8,zB9,zB10,zB11,y00,y01,y02,y03,y04,y05,y06,y07,y08,y09,y0a,y0b,y0c,y0d,y0e,y0f,y0g,y0h,y0i,y0j,y0k,y0l,y0m,y0n,y0o,y0p,y0q,y0r,y0s,y0t,y0u,y0v,y0w,y0x,y0y,y0z,y10,y11,y12,y13,y14,y15,y16,y17,y18,y19,y1a,y1b,y1c,y1d,y1e,y1f,y1g,y1h,y1i,y1j,y1k,y1l,y1m,y1n,y1o,y1p,y1q,y1r,retO,retL,retV,z69,allV,allP,z6a,z6d,z6e,z6k,z6l,z6m,binV,eqV,unV,oOpt,reduceIte,reduceCtorEq,Nat.reduceEqDiff,Nat.reduceAdd,Nat.reduceMul,Nat.reduceLT,Nat.reduceSub,Int.reduceLT,Int.reduceLE,Int.reduceEq,Int.reduceNe,Int.reduceSub,Int.reduceAdd,Int.reduceMul,Int.reduceBEq,Int.reduceBNe,Int.reduceGT,Int.reduceGE,Nat.reduceGT,Int.reduceToNat,Int.reduceNeg,Nat.reduceLeDiff,Nat.reduceBEq,Nat.reduceBneDiff,Value.cells, u64V, a1, a2, a3, b1', b2', b3', g16', wz, eS, implies_true, List.mem_singleton, forall_eq, List.mem_cons, forall_eq_or_imp, List.not_mem_nil]
    generalize hM : (⟨(fromLittleF (B.take 8)).toNat, (fromLittleF ((B.drop 8).take 8)).toNat, (B.getD 16 0).toNat⟩ : N3) = M at *
    have okM : M.ok := by rw [← hM]; exact ⟨BitVec.isLt _, BitVec.isLt _, by have := (B.getD 16 0).toNat_lt; simp only; omega⟩
    have eM : Value.agg #[.int .u64 ((fromLittleF (B.take 8)).toNat : Int), .int .u64 ((fromLittleF ((B.drop 8).take 8)).toNat : Int), .int .u64 ((B.getD 16 0).toNat : Int)] = M.V := by rw [← hM]; rfl
    rw [eM]
    refine (num_plus_c E h12 S M okS okM).mono ?_
    rintro r h13 ⟨le13, rfl⟩
    have le1013 := Heap.le_trans le1012 le13
    have d0 := y6 h10 (Heap.le_refl _)
    have d1 := y6 h11 le11
    have d2 := y6 h12 le1012
    have d3 := y6 h13 le1013
    simp -implicitDefEqProofs only [zB1,zB2,zB3,zB4,zB5,zB6,zB7,zB8,zB9,zB10,zB11,y00,y01,y02,y03,y04,y05,y06,y07,y08,y09,y0a,y0b,y0c,y0d,y0e,y0f,y0g,y0h,y0i,y0j,y0k,y0l,y0m,y0n,y0o,y0p,y0q,y0r,y0s,y0t,y0u,y0v,y0w,y0x,y0y,y0z,y10,y11,y12,y13,y14,y15,y16,y17,y18,y19,y1a,y1b,y1c,y1d,y1e,y1f,y1g,y1h,y1i,y1j,y1k,y1l,y1m,y1n,y1o,y1p,y1q,y1r,retO,retL,retV,z69,allV,allP,z6a,z6d,z6e,z6k,z6l,z6m,binV,eqV,unV,oOpt,reduceIte,reduceCtorEq,Nat.reduceEqDiff,Nat.reduceAdd,Nat.reduceMul,Nat.reduceLT,Nat.reduceSub,Int.reduceLT,Int.reduceLE,Int.reduceEq,Int.reduceNe,Int.reduceSub,Int.reduceAdd,Int.reduceMul,Int.reduceBEq,Int.reduceBNe,Int.reduceGT,Int.reduceGE,Nat.reduceGT,Int.reduceToNat,Int.reduceNeg,Nat.reduceLeDiff,Nat.reduceBEq,Nat.reduceBneDiff,Value.cells, d0, d1, d2, d3, implies_true, List.mem_singleton, forall_eq, List.mem_cons, forall_eq_or_imp, List.not_mem_nil]
    refine (num_times_c E h13 (S.plus M) k0 k1 (N3.plus_ok _ _) lk0 lk1).mono ?_
    rintro r h14 ⟨le14, rfl⟩
    have leH14 := Heap.le_trans le10 (Heap.le_trans le1013 le14)
    have okT : ((S.plus M).times k0 k1).ok := N3.cut_ok _
    generalize (S.plus M).times k0 k1 = T at *
    have st7 := store3 T (leH14 _ _ q7) rfl
    have bdD : bnds l.length c8 (some (some (.int .i64 (N : Int)))) none none = some (N, l.length, c8) := by rw [bnds_lo (by omega) (by omega), Int.toNat_natCast]
    simp -implicitDefEqProofs only [zB1,zB2,zB3,zB4,zB5,zB6,zB7,zB8,zB9,zB10,zB11,y00,y01,y02,y03,y04,y05,y06,y07,y08,y09,y0a,y0b,y0c,y0d,y0e,y0f,y0g,y0h,y0i,y0j,y0k,y0l,y0m,y0n,y0o,y0p,y0q,y0r,y0s,y0t,y0u,y0v,y0w,y0x,y0y,y0z,y10,y11,y12,y13,y14,y15,y16,y17,y18,y19,y1a,y1b,y1c,y1d,y1e,y1f,y1g,y1h,y1i,y1j,y1k,y1l,y1m,y1n,y1o,y1p,y1q,y1r,retO,retL,retV,z69,allV,allP,z6a,z6d,z6e,z6k,z6l,z6m,binV,eqV,unV,oOpt,reduceIte,reduceCtorEq,Nat.reduceEqDiff,Nat.reduceAdd,Nat.reduceMul,Nat.reduceLT,Nat.reduceSub,Int.reduceLT,Int.reduceLE,Int.reduceEq,Int.reduceNe,Int.reduceSub,Int.reduceAdd,Int.reduceMul,Int.reduceBEq,Int.reduceBNe,Int.reduceGT,Int.reduceGE,Nat.reduceGT,Int.reduceToNat,Int.reduceNeg,Nat.reduceLeDiff,Nat.reduceBEq,Nat.reduceBneDiff,Value.cells, st7, bdD, implies_true]
    have eD : l.drop N = l.drop 16 := by
      rw [hN, List.length_take]
      by_cases c : 16 ≤ l.length
      · rw [Nat.min_eq_left c]
      · rw [Nat.min_eq_right (by omega), List.drop_eq_nil_of_le (Nat.le_refl _), List.drop_eq_nil_of_le (by omega)]
    have lD : (l.drop 16).length = l.length - N := by rw [← eD, List.length_drop]
    refine ⟨(l.drop 16).length, by omega, fun b x hx => le_sets leH14 b7 _ b x (le6H b x hx), Heap.le_set (Heap.le_trans leH leH14) hb7h _, l.drop 16, _, T, rfl, rfl, by omega, Heap.set_self _ _ _, okT, fun X => ?_, by rw [← hts]; exact hsum⟩
    have sp := Sl.post (sl X) (k := N) (by omega)
    simp only [Nat.mul_one] at sp
    rw [← List.map_drop, eD] at sp
    unfold SlB
    rw [lD]
    exact Sl.le (le_sets leH14 b7 X) sp
  · have g0 : ¬ (0 : Int) < l.length := by omega
    rw [tagSum_done hlt] at hsum
    have l7 : hcells H ⟨b7, 0, none⟩ 3 = some S.cells := by rw [hcells_at q7 (by simp [N3.cells])]; rfl
    have eS : Value.agg S.cells.toArray = S.V := rfl
    have hT : tagN w L.flatten = S.last.plus ⟨(fromLittleF ((w.drop 16).take 8)).toNat, (fromLittleF ((w.drop 24).take 8)).toNat, 0⟩ := by
      unfold tagN; rw [hKK0, hKK1, ← hsum]
    simp -implicitDefEqProofs only [zB1,zB2,zB3,zB4,zB5,zB6,zB7,zB8,zB9,zB10,zB11,y00,y01,y02,y03,y04,y05,y06,y07,y08,y09,y0a,y0b,y0c,y0d,y0e,y0f,y0g,y0h,y0i,y0j,y0k,y0l,y0m,y0n,y0o,y0p,y0q,y0r,y0s,y0t,y0u,y0v,y0w,y0x,y0y,y0z,y10,y11,y12,y13,y14,y15,y16,y17,y18,y19,y1a,y1b,y1c,y1d,y1e,y1f,y1g,y1h,y1i,y1j,y1k,y1l,y1m,y1n,y1o,y1p,y1q,y1r,retO,retL,retV,z69,allV,allP,z6a,z6d,z6e,z6k,z6l,z6m,binV,eqV,unV,oOpt,reduceIte,reduceCtorEq,Nat.reduceEqDiff,Nat.reduceAdd,Nat.reduceMul,Nat.reduceLT,Nat.reduceSub,Int.reduceLT,Int.reduceLE,Int.reduceEq,Int.reduceNe,Int.reduceSub,Int.reduceAdd,Int.reduceMul,Int.reduceBEq,Int.reduceBNe,Int.reduceGT,Int.reduceGE,Nat.reduceGT,Int.reduceToNat,Int.reduceNeg,Nat.reduceLeDiff,Nat.reduceBEq,Nat.reduceBneDiff,Value.cells, g0, l7, eS]
    refine (num_last_c E H S okS).mono ?_
    rintro r h8 ⟨le8, rfl⟩
    have okL := N3.last_ok S
    generalize S.last = Z at *
    have bdA : bnds 32 32 (some (some (.int .i64 16))) (some (some (.int .i64 24))) none = some (16, 24, 32) := bnds_both (by omega) (by omega) (by omega)
    have bdB : bnds 32 32 (some (some (.int .i64 24))) none none = some (24, 32, 32) := bnds_lo (by omega) (by omega)
    have eA1 : (Addr.add ⟨b2, 0, none⟩ 16 : Addr) = ⟨b2, 16, none⟩ := by rw [add_off', Nat.zero_add]
    have eA2 : (Addr.add ⟨b2, 0, none⟩ 24 : Addr) = ⟨b2, 24, none⟩ := by rw [add_off', Nat.zero_add]
    have sW := own_sl (le8 _ _ p2)
    have sA : SlB h8 (.slice (some ⟨b2, 16, none⟩) 8 16) ((w.drop 16).take 8) := by
      have := Sl.midB (a := 16) (b := 24) sW (by omega) (by omega)
      rw [hw, if_neg (by omega), Option.map_some, eA1] at this
      exact this
    have sB : SlB h8 (.slice (some ⟨b2, 24, none⟩) 8 8) ((w.drop 24).take 8) := by
      have := Sl.midB (a := 24) (b := 32) sW (by omega) (by omega)
      rw [hw, if_neg (by omega), Option.map_some, eA2] at this
      exact this
    simp -implicitDefEqProofs only [zB1,zB2,zB3,zB4,zB5,zB6,zB7,zB8,zB9,zB10,zB11,y00,y01,y02,y03,y04,y05,y06,y07,y08,y09,y0a,y0b,y0c,y0d,y0e,y0f,y0g,y0h,y0i,y0j,y0k,y0l,y0m,y0n,y0o,y0p,y0q,y0r,y0s,y0t,y0u,y0v,y0w,y0x,y0y,y0z,y10,y11,y12,y13,y14,y15,y16,y17,y18,y19,y1a,y1b,y1c,y1d,y1e,y1f,y1g,y1h,y1i,y1j,y1k,y1l,y1m,y1n,y1o,y1p,y1q,y1r,retO,retL,retV,z69,allV,allP,z6a,z6d,z6e,z6k,z6l,z6m,binV,eqV,unV,oOpt,reduceIte,reduceCtorEq,Nat.reduceEqDiff,Nat.reduceAdd,Nat.reduceMul,Nat.reduceLT,Nat.reduceSub,Int.reduceLT,Int.reduceLE,Int.reduceEq,Int.reduceNe,Int.reduceSub,Int.reduceAdd,Int.reduceMul,Int.reduceBEq,Int.reduceBNe,Int.reduceGT,Int.reduceGE,Nat.reduceGT,Int.reduceToNat,Int.reduceNeg,Nat.reduceLeDiff,Nat.reduceBEq,Nat.reduceBneDiff,Value.cells, bdA, eA1, implies_true, List.mem_singleton, forall_eq]
    refine (poly_word_c E h8 ((w.drop 16).take 8) (by simp; omega) sA).mono ?_
    rintro r h9 ⟨le9, rfl⟩
    simp -implicitDefEqProofs only [zB1,zB2,zB3,zB4,zB5,zB6,zB7,zB8,zB9,zB10,zB11,y00,y01,y02,y03,y04,y05,y06,y07,y08,y09,y0a,y0b,y0c,y0d,y0e,y0f,y0g,y0h,y0i,y0j,y0k,y0l,y0m,y0n,y0o,y0p,y0q,y0r,y0s,y0t,y0u,y0v,y0w,y0x,y0y,y0z,y10,y11,y12,y13,y14,y15,y16,y17,y18,y19,y1a,y1b,y1c,y1d,y1e,y1f,y1g,y1h,y1i,y1j,y1k,y1l,y1m,y1n,y1o,y1p,y1q,y1r,retO,retL,retV,z69,allV,allP,z6a,z6d,z6e,z6k,z6l,z6m,binV,eqV,unV,oOpt,reduceIte,reduceCtorEq,Nat.reduceEqDiff,Nat.reduceAdd,Nat.reduceMul,Nat.reduceLT,Nat.reduceSub,Int.reduceLT,Int.reduceLE,Int.reduceEq,Int.reduceNe,Int.reduceSub,Int.reduceAdd,Int.reduceMul,Int.reduceBEq,Int.reduceBNe,Int.reduceGT,Int.reduceGE,Nat.reduceGT,Int.reduceToNat,Int.reduceNeg,Nat.reduceLeDiff,Nat.reduceBEq,Nat.reduceBneDiff,Value.cells, bdB, eA2, implies_true, List.mem_singleton, forall_eq]
    refine (poly_word_c E h9 ((w.drop 24).take 8) (by simp; omega) (Sl.le le9 sB)).mono ?_
    rintro r h10 ⟨le10, rfl⟩
    simp -implicitDefEqProofs only [zB1,zB2,zB3,zB4,zB5,zB6,zB7,zB8,zB9,zB10,zB11,y00,y01,y02,y03,y04,y05,y06,y07,y08,y09,y0a,y0b,y0c,y0d,y0e,y0f,y0g,y0h,y0i,y0j,y0k,y0l,y0m,y0n,y0o,y0p,y0q,y0r,y0s,y0t,y0u,y0v,y0w,y0x,y0y,y0z,y10,y11,y12,y13,y14,y15,y16,y17,y18,y19,y1a,y1b,y1c,y1d,y1e,y1f,y1g,y1h,y1i,y1j,y1k,y1l,y1m,y1n,y1o,y1p,y1q,y1r,retO,retL,retV,z69,allV,allP,z6a,z6d,z6e,z6k,z6l,z6m,binV,eqV,unV,oOpt,reduceIte,reduceCtorEq,Nat.reduceEqDiff,Nat.reduceAdd,Nat.reduceMul,Nat.reduceLT,Nat.reduceSub,Int.reduceLT,Int.reduceLE,Int.reduceEq,Int.reduceNe,Int.reduceSub,Int.reduceAdd,Int.reduceMul,Int.reduceBEq,Int.reduceBNe,Int.reduceGT,Int.reduceGE,Nat.reduceGT,Int.reduceToNat,Int.reduceNeg,Nat.reduceLeDiff,Nat.reduceBEq,Nat.reduceBneDiff,Value.cells, u64V, implies_true]
    generalize hM : (⟨(fromLittleF ((w.drop 16).take 8)).toNat, (fromLittleF ((w.drop 24).take 8)).toNat, 0⟩ : N3) = M at *
    have okM : M.ok := by rw [← hM]; exact ⟨BitVec.isLt _, BitVec.isLt _, by simp⟩
    have eM : Value.agg #[.int .u64 ((fromLittleF ((w.drop 16).take 8)).toNat : Int), .int .u64 ((fromLittleF ((w.drop 24).take 8)).toNat : Int), .int .u64 0] = M.V := by rw [← hM]; rfl
    rw [eM]
    refine (num_plus_c E h10 Z M okL okM).mono ?_
    rintro r h11 ⟨le11, rfl⟩
    have okT := N3.plus_ok Z M
    have hF : tagF w L.flatten = littleF (BitVec.ofNat 64 (Z.plus M).a) 8 ++ littleF (BitVec.ofNat 64 (Z.plus M).b) 8 := by unfold tagF; rw [hT]
    rw [hF]
    generalize Z.plus M = T at *
    simp -implicitDefEqProofs only [zB1,zB2,zB3,zB4,zB5,zB6,zB7,zB8,zB9,zB10,zB11,y00,y01,y02,y03,y04,y05,y06,y07,y08,y09,y0a,y0b,y0c,y0d,y0e,y0f,y0g,y0h,y0i,y0j,y0k,y0l,y0m,y0n,y0o,y0p,y0q,y0r,y0s,y0t,y0u,y0v,y0w,y0x,y0y,y0z,y10,y11,y12,y13,y14,y15,y16,y17,y18,y19,y1a,y1b,y1c,y1d,y1e,y1f,y1g,y1h,y1i,y1j,y1k,y1l,y1m,y1n,y1o,y1p,y1q,y1r,retO,retL,retV,z69,allV,allP,z6a,z6d,z6e,z6k,z6l,z6m,binV,eqV,unV,oOpt,reduceIte,reduceCtorEq,Nat.reduceEqDiff,Nat.reduceAdd,Nat.reduceMul,Nat.reduceLT,Nat.reduceSub,Int.reduceLT,Int.reduceLE,Int.reduceEq,Int.reduceNe,Int.reduceSub,Int.reduceAdd,Int.reduceMul,Int.reduceBEq,Int.reduceBNe,Int.reduceGT,Int.reduceGE,Nat.reduceGT,Int.reduceToNat,Int.reduceNeg,Nat.reduceLeDiff,Nat.reduceBEq,Nat.reduceBneDiff,Value.cells, implies_true]
    intro bT hbT
    have stT : storeV (h11.set bT (.own 0 [.int .u64 0, .int .u64 0, .int .u64 0] 3)) 3 (.pointer (some ⟨bT, 0, none⟩)) T.V = some (h11.set bT (.own 0 T.cells 3)) := z6q (by omega) rfl rfl rfl (by omega)
    have le12 : H.le (h11.set bT (.own 0 T.cells 3)) := Heap.le_new (Heap.le_trans le8 (Heap.le_trans le9 (Heap.le_trans le10 le11))) hbT _
    have qT : (h11.set bT (.own 0 T.cells 3)) bT = some (.own 0 T.cells 3) := Heap.set_self _ _ _
    simp -implicitDefEqProofs only [zB1,zB2,zB3,zB4,zB5,zB6,zB7,zB8,zB9,zB10,zB11,y00,y01,y02,y03,y04,y05,y06,y07,y08,y09,y0a,y0b,y0c,y0d,y0e,y0f,y0g,y0h,y0i,y0j,y0k,y0l,y0m,y0n,y0o,y0p,y0q,y0r,y0s,y0t,y0u,y0v,y0w,y0x,y0y,y0z,y10,y11,y12,y13,y14,y15,y16,y17,y18,y19,y1a,y1b,y1c,y1d,y1e,y1f,y1g,y1h,y1i,y1j,y1k,y1l,y1m,y1n,y1o,y1p,y1q,y1r,retO,retL,retV,z69,allV,allP,z6a,z6d,z6e,z6k,z6l,z6m,binV,eqV,unV,oOpt,reduceIte,reduceCtorEq,Nat.reduceEqDiff,Nat.reduceAdd,Nat.reduceMul,Nat.reduceLT,Nat.reduceSub,Int.reduceLT,Int.reduceLE,Int.reduceEq,Int.reduceNe,Int.reduceSub,Int.reduceAdd,Int.reduceMul,Int.reduceBEq,Int.reduceBNe,Int.reduceGT,Int.reduceGE,Nat.reduceGT,Int.reduceToNat,Int.reduceNeg,Nat.reduceLeDiff,Nat.reduceBEq,Nat.reduceBneDiff,Value.cells, stT, implies_true]
    generalize (h11.set bT (.own 0 T.cells 3)) = h12 at le12 qT ⊢
    have lA : ∀ H', h12.le H' → hcell H' ⟨bT, 0, none⟩ = some (.int .u64 (T.a : Int)) := fun H' x => hcell_at (x _ _ qT) (by simp [N3.cells])
    have lB : ∀ H', h12.le H' → hcell H' ⟨bT, 1, none⟩ = some (.int .u64 (T.b : Int)) := fun H' x => hcell_at (x _ _ qT) (by simp [N3.cells])
    have eA : (T.a : Int) = ((BitVec.ofNat 64 T.a).toNat : Int) := by have := okT.1; simp; omega
    have eB : (T.b : Int) = ((BitVec.ofNat 64 T.b).toNat : Int) := by have := okT.2.1; simp; omega
    rw [eA] at lA
    rw [eB] at lB
    generalize BitVec.ofNat 64 T.a = A at *
    generalize BitVec.ofNat 64 T.b = D at *
    have a1 := lA h12 (Heap.le_refl _)
    have a2 := lB h12 (Heap.le_refl _)
    simp -implicitDefEqProofs only [zB1,zB2,zB3,zB4,zB5,zB6,zB7,zB8,zB9,zB10,zB11,y00,y01,y02,y03,y04,y05,y06,y07,y08,y09,y0a,y0b,y0c,y0d,y0e,y0f,y0g,y0h,y0i,y0j,y0k,y0l,y0m,y0n,y0o,y0p,y0q,y0r,y0s,y0t,y0u,y0v,y0w,y0x,y0y,y0z,y10,y11,y12,y13,y14,y15,y16,y17,y18,y19,y1a,y1b,y1c,y1d,y1e,y1f,y1g,y1h,y1i,y1j,y1k,y1l,y1m,y1n,y1o,y1p,y1q,y1r,retO,retL,retV,z69,allV,allP,z6a,z6d,z6e,z6k,z6l,z6m,binV,eqV,unV,oOpt,reduceIte,reduceCtorEq,Nat.reduceEqDiff,Nat.reduceAdd,Nat.reduceMul,Nat.reduceLT,Nat.reduceSub,Int.reduceLT,Int.reduceLE,Int.reduceEq,Int.reduceNe,Int.reduceSub,Int.reduceAdd,Int.reduceMul,Int.reduceBEq,Int.reduceBNe,Int.reduceGT,Int.reduceGE,Nat.reduceGT,Int.reduceToNat,Int.reduceNeg,Nat.reduceLeDiff,Nat.reduceBEq,Nat.reduceBneDiff,Value.cells, a1, a2, implies_true]
    refine (octet_Little_c E h12 [] (by simp) (.inl ⟨rfl, rfl, rfl⟩) A 8 (by omega)).mono ?_
    rintro vA h13 ⟨le13, owA⟩
    rw [List.nil_append] at owA
    have a3 := lB h13 le13
    simp -implicitDefEqProofs only [zB1,zB2,zB3,zB4,zB5,zB6,zB7,zB8,zB9,zB10,zB11,y00,y01,y02,y03,y04,y05,y06,y07,y08,y09,y0a,y0b,y0c,y0d,y0e,y0f,y0g,y0h,y0i,y0j,y0k,y0l,y0m,y0n,y0o,y0p,y0q,y0r,y0s,y0t,y0u,y0v,y0w,y0x,y0y,y0z,y10,y11,y12,y13,y14,y15,y16,y17,y18,y19,y1a,y1b,y1c,y1d,y1e,y1f,y1g,y1h,y1i,y1j,y1k,y1l,y1m,y1n,y1o,y1p,y1q,y1r,retO,retL,retV,z69,allV,allP,z6a,z6d,z6e,z6k,z6l,z6m,binV,eqV,unV,oOpt,reduceIte,reduceCtorEq,Nat.reduceEqDiff,Nat.reduceAdd,Nat.reduceMul,Nat.reduceLT,Nat.reduceSub,Int.reduceLT,Int.reduceLE,Int.reduceEq,Int.reduceNe,Int.reduceSub,Int.reduceAdd,Int.reduceMul,Int.reduceBEq,Int.reduceBNe,Int.reduceGT,Int.reduceGE,Nat.reduceGT,Int.reduceToNat,Int.reduceNeg,Nat.reduceLeDiff,Nat.reduceBEq,Nat.reduceBneDiff,Value.cells, a2, a3, implies_true, List.mem_singleton, forall_eq]
    refine (octet_Little_c E h13 (littleF A 8) (by rw [littleF_len]; omega) owA.sl D 8 (by omega)).mono ?_
    rintro vD h14 ⟨le14, owD⟩
    have lO : (littleF A 8 ++ littleF D 8).length = 16 := by rw [List.length_append, littleF_len, littleF_len]
    have sO := owD.sl
    generalize littleF A 8 ++ littleF D 8 = O at *
    obtain ⟨bO, oO, cO, rfl, hcO, hclO⟩ := sO.ptr (by omega) (by omega)
    have g16 : (16 : Int) ≤ O.length := by omega
    rw [lO] at hclO
    have leH14 := Heap.le_trans le12 (Heap.le_trans le13 le14)
    have q4' := leH14 _ _ p4
    have st4 : storeV h14 16 (.pointer (some ⟨b4, 0, none⟩)) (.agg (O.map u8V).toArray) = some (h14.set b4 (.own 0 (O.map u8V) 16)) := storeV_agg_at q4' (by omega) (by simp [lO]) (one_u8 _) (by simp) (by omega)
    have l4 : hcells (h14.set b4 (.own 0 (O.map u8V) 16)) ⟨b4, 0, none⟩ 16 = some (O.map u8V) := z6o (by simp [lO])
    have hO16 : 16 ≤ O.length := by omega
    simp -implicitDefEqProofs only [zB1,zB2,zB3,zB4,zB5,zB6,zB7,zB8,zB9,zB10,zB11,y00,y01,y02,y03,y04,y05,y06,y07,y08,y09,y0a,y0b,y0c,y0d,y0e,y0f,y0g,y0h,y0i,y0j,y0k,y0l,y0m,y0n,y0o,y0p,y0q,y0r,y0s,y0t,y0u,y0v,y0w,y0x,y0y,y0z,y10,y11,y12,y13,y14,y15,y16,y17,y18,y19,y1a,y1b,y1c,y1d,y1e,y1f,y1g,y1h,y1i,y1j,y1k,y1l,y1m,y1n,y1o,y1p,y1q,y1r,retO,retL,retV,z69,allV,allP,z6a,z6d,z6e,z6k,z6l,z6m,binV,eqV,unV,oOpt,reduceIte,reduceCtorEq,Nat.reduceEqDiff,Nat.reduceAdd,Nat.reduceMul,Nat.reduceLT,Nat.reduceSub,Int.reduceLT,Int.reduceLE,Int.reduceEq,Int.reduceNe,Int.reduceSub,Int.reduceAdd,Int.reduceMul,Int.reduceBEq,Int.reduceBNe,Int.reduceGT,Int.reduceGE,Nat.reduceGT,Int.reduceToNat,Int.reduceNeg,Nat.reduceLeDiff,Nat.reduceBEq,Nat.reduceBneDiff,Value.cells, g16, hO16, hclO, st4, l4, implies_true, lO]
    exact Heap.le_set (Heap.le_trans leH leH14) hb4' _

/-! ### bits that do not count -/
theorem clampG_congr {f g : Nat → UInt8} {k : Nat} (h : f k = g k) : clampG f k = clampG g k := by
  unfold clampG clB clA
  simp only [h]
theorem tagF_clamp (w c all : List UInt8) (hw : w.length = 32) (hc : c = rowL (keyR w) 16) : tagF (c ++ w.drop 16) all = tagF w all := by
  have lc : c.length = 16 := by rw [hc, rowL_len]
  have hr : rowL (keyR (c ++ w.drop 16)) 16 = rowL (keyR w) 16 := by
    unfold rowL
    apply List.map_congr_left
    intro j hj
    have hj16 : j < 16 := List.mem_range.1 hj
    unfold keyR
    rw [← clamp_again (fun j => w.getD j 0) j]
    apply clampG_congr
    have : (c ++ w.drop 16).getD j 0 = c.getD j 0 := by
      rw [List.getD_eq_getElem?_getD, List.getElem?_append_left (by omega), ← List.getD_eq_getElem?_getD]
    have hcj : c.getD j 0 = clampG (fun j => w.getD j 0) j := by rw [hc]; simp [rowL, hj16, keyR]
    show (c ++ w.drop 16).getD j 0 = clampG (fun j => w.getD j 0) j
    rw [this, hcj]
  have hk : ∀ i, keyK (c ++ w.drop 16) i = keyK w i := fun i => by unfold keyK; rw [hr]
  have d16 : (c ++ w.drop 16).drop 16 = w.drop 16 := by rw [List.drop_left' lc]
  have d24 : (c ++ w.drop 16).drop 24 = w.drop 24 := by
    rw [show 24 = 16 + 8 from rfl, ← List.drop_drop, d16, List.drop_drop]
  have ht : tagN (c ++ w.drop 16) all = tagN w all := by unfold tagN; rw [hk, hk, d16, d24]
  unfold tagF
  rw [ht]
end Go.Bb
/- The law PolyAdds: plain part. -/
namespace Go.Bb
set_option linter.unusedSimpArgs false
set_option linter.unusedVariables false

/-- Adding byte by byte with a carry. -/
theorem chainB (A S q : Nat) (hq : 0 < q) : (A + S) / q % 256 = ((A % q + S % q) / q + A / q % 256 + S / q % 256) % 256 := by
  rw [Nat.add_div hq]
  have h1 : A % q < q := Nat.mod_lt _ hq
  have h2 : S % q < q := Nat.mod_lt _ hq
  by_cases h : q ≤ A % q + S % q
  · have : (A % q + S % q) / q = 1 := by
      rw [Nat.div_eq_iff hq]; omega
    rw [this, if_pos h]; omega
  · have : (A % q + S % q) / q = 0 := Nat.div_eq_of_lt (by omega)
    rw [this, if_neg h]; omega
theorem chainC (A S q : Nat) (hq : 0 < q) : (A % (q * 256) + S % (q * 256)) / (q * 256) = ((A % q + S % q) / q + A / q % 256 + S / q % 256) / 256 := by
  rw [← Nat.div_div_eq_div_mul, Nat.mod_mul, Nat.mod_mul]
  congr 1
  rw [show A % q + q * (A / q % 256) + (S % q + q * (S / q % 256)) = (A % q + S % q) + q * (A / q % 256 + S / q % 256) by rw [Nat.mul_add]; omega]
  rw [Nat.add_mul_div_left _ _ hq]; omega
/-- The number of a row of bytes, low byte first. -/
def leN : List UInt8 → Nat
  | [] => 0
  | b :: l => b.toNat + 256 * leN l
theorem leN_lt : ∀ l : List UInt8, leN l < 256 ^ l.length
  | [] => by simp [leN]
  | b :: l => by
    have := leN_lt l
    have hb : b.toNat < 256 := b.toNat_lt
    simp only [leN, List.length_cons, Nat.pow_succ]
    omega
theorem leN_byte : ∀ (l : List UInt8) (i : Nat), leN l / 256 ^ i % 256 = (l.getD i 0).toNat
  | [], i => by simp [leN]
  | b :: l, 0 => by
    have hb : b.toNat < 256 := b.toNat_lt
    simp only [leN, Nat.pow_zero, Nat.div_one, List.getD_cons_zero]
    omega
  | b :: l, i + 1 => by
    have hb : b.toNat < 256 := b.toNat_lt
    rw [List.getD_cons_succ, ← leN_byte l i, Nat.pow_succ, Nat.mul_comm, ← Nat.div_div_eq_div_mul]
    congr 2
    simp only [leN]; omega
theorem shl_or8 (v : U64) (b : UInt8) (hv : v.toNat < 72057594037927936) : (v <<< 8 ||| BitVec.ofNat 64 b.toNat).toNat = b.toNat + 256 * v.toNat := by
  have hb : b.toNat < 2 ^ 8 := b.toNat_lt
  rw [BitVec.toNat_or, BitVec.toNat_shiftLeft, BitVec.toNat_ofNat, Nat.shiftLeft_eq, Nat.mod_eq_of_lt (by omega), Nat.mod_eq_of_lt (by omega), Nat.mul_comm, ← Nat.two_pow_add_eq_or_of_lt hb]
  omega
theorem fromLittleF_nat : ∀ l : List UInt8, l.length ≤ 8 → (fromLittleF l).toNat = leN l
  | [], _ => rfl
  | b :: l, h => by
    have ih := fromLittleF_nat l (by simp at h; omega)
    have e : fromLittleF (b :: l) = fromLittleF l <<< 8 ||| BitVec.ofNat 64 b.toNat := by simp [fromLittleF, fromBigF]
    have lt := leN_lt l
    have hp : 256 ^ l.length ≤ 256 ^ 7 := Nat.pow_le_pow_right (by decide) (by simp at h; omega)
    rw [e, shl_or8 _ _ (by rw [ih]; omega), ih, leN]
theorem littleF_byte (v : U64) (n i : Nat) (h : i < n) : (littleF v n).getD i 0 = UInt8.ofNat (v.toNat / 256 ^ i) := by
  have e : (256 : Nat) ^ i = 2 ^ (8 * i) := by rw [Nat.pow_mul]
  simp [littleF, List.getD, h, e, Nat.shiftRight_eq_div_pow]
theorem leN_append : ∀ a b : List UInt8, leN (a ++ b) = leN a + 256 ^ a.length * leN b
  | [], b => by simp [leN]
  | x :: a, b => by
    simp only [List.cons_append, leN, leN_append a b, List.length_cons, Nat.pow_succ]
    rw [Nat.mul_add, Nat.mul_comm (256 ^ a.length) 256, Nat.mul_assoc]; omega
theorem u8_mod (a : Nat) : UInt8.ofNat a = UInt8.ofNat (a % 256) := by
  apply UInt8.toNat_inj.1; simp
theorem gD_app (a b : List UInt8) (i : Nat) (h : i < a.length) : (a ++ b).getD i 0 = a.getD i 0 := by
  simp only [List.getD_eq_getElem?_getD, List.getElem?_append_left h]
theorem gD_app2 (a b : List UInt8) (i : Nat) (h : a.length ≤ i) : (a ++ b).getD i 0 = b.getD (i - a.length) 0 := by
  simp only [List.getD_eq_getElem?_getD, List.getElem?_append_right h]
/-- A word of two: bytes of its number. -/
theorem little2_byte (x : N3) (hx : x.ok) (i : Nat) (h : i < 16) : (littleF (BitVec.ofNat 64 x.a) 8 ++ littleF (BitVec.ofNat 64 x.b) 8).getD i 0 = UInt8.ofNat (x.val / 256 ^ i) := by
  obtain ⟨ha, hb, hc⟩ := hx
  have ea : (BitVec.ofNat 64 x.a).toNat = x.a := by rw [BitVec.toNat_ofNat]; omega
  have eb : (BitVec.ofNat 64 x.b).toNat = x.b := by rw [BitVec.toNat_ofNat]; omega
  have key : ∀ j < 16, x.val / 256 ^ j % 256 = (if j < 8 then x.a / 256 ^ j else x.b / 256 ^ (j - 8)) % 256 := by
    intro j hj
    have : j = 0 ∨ j = 1 ∨ j = 2 ∨ j = 3 ∨ j = 4 ∨ j = 5 ∨ j = 6 ∨ j = 7 ∨ j = 8 ∨ j = 9 ∨ j = 10 ∨ j = 11 ∨ j = 12 ∨ j = 13 ∨ j = 14 ∨ j = 15 := by omega
    rcases this with rfl | rfl | rfl | rfl | rfl | rfl | rfl | rfl | rfl | rfl | rfl | rfl | rfl | rfl | rfl | rfl <;> simp only [N3.val] <;> simp <;> omega
  rw [u8_mod (x.val / 256 ^ i), key i h]
  by_cases g : i < 8
  · rw [if_pos g, gD_app _ _ _ (by rw [littleF_len]; exact g), littleF_byte _ _ _ g, ea, u8_mod (x.a / 256 ^ i)]
  · rw [if_neg g, gD_app2 _ _ _ (by rw [littleF_len]; omega), littleF_len, littleF_byte _ _ _ (by omega), eb, u8_mod (x.b / 256 ^ (i - 8))]
theorem mod_byte (x i : Nat) (h : i < 16) : x % 6277101735386680763835789423207666416102355444464034512896 / 256 ^ i % 256 = x / 256 ^ i % 256 := by
  have e : (6277101735386680763835789423207666416102355444464034512896 : Nat) = 256 ^ i * 256 ^ (24 - i) := by rw [← Nat.pow_add, show i + (24 - i) = 24 by omega]
  rw [e, Nat.mod_mul_right_div_self, Nat.mod_mod_of_dvd]
  exact Nat.dvd_trans (by decide) (Nat.pow_dvd_pow 256 (show 1 ≤ 24 - i by omega))
def tagA (r all : List UInt8) : Nat := (tagSum (keyK r 0) (keyK r 1) z3 all).last.val
theorem keyK_head (r s : List UInt8) (hr : r.length = 16) (i : Nat) : keyK (r ++ s) i = keyK r i := by
  have : rowL (keyR (r ++ s)) 16 = rowL (keyR r) 16 := by
    unfold rowL
    apply List.map_congr_left
    intro j hj
    have hj16 : j < 16 := List.mem_range.1 hj
    exact clampG_congr (gD_app r s j (by omega))
  unfold keyK; rw [this]
theorem tagF_byte (r s all : List UInt8) (hr : r.length = 16) (hs : s.length = 16) (i : Nat) (h : i < 16) : (tagF (r ++ s) all).getD i 0 = UInt8.ofNat ((tagA r all + leN s) / 256 ^ i) := by
  have d16 : (r ++ s).drop 16 = s := by rw [List.drop_left' hr]
  have d24 : (r ++ s).drop 24 = s.drop 8 := by rw [show 24 = 16 + 8 from rfl, ← List.drop_drop, d16]
  have hv : (⟨(fromLittleF (s.take 8)).toNat, (fromLittleF ((s.drop 8).take 8)).toNat, 0⟩ : N3).val = leN s := by
    rw [fromLittleF_nat _ (by simp; omega), fromLittleF_nat _ (by simp; omega)]
    rw [show (s.drop 8).take 8 = s.drop 8 by rw [List.take_of_length_le]; simp [hs]]
    conv => rhs; rw [← List.take_append_drop 8 s, leN_append, List.length_take, hs]
    simp [N3.val]
  unfold tagF
  rw [little2_byte (tagN (r ++ s) all) (N3.plus_ok _ _) i h, u8_mod, u8_mod ((tagA r all + leN s) / 256 ^ i)]
  unfold tagN
  rw [N3.plus_val, mod_byte _ _ h, d16, d24, hv, keyK_head r s hr, keyK_head r s hr]
  rfl
theorem leN_zero (n : Nat) : leN (List.replicate n 0) = 0 := by
  induction n with
  | zero => rfl
  | succ n ih => rw [List.replicate_succ, leN, ih]; rfl
/-- The carry before byte i. -/
def carA (A S i : Nat) : Nat := (A % 256 ^ i + S % 256 ^ i) / 256 ^ i
theorem carA_0 (A S : Nat) : carA A S 0 = 0 := by simp [carA, Nat.mod_one]
theorem adds_byte (r s all : List UInt8) (hr : r.length = 16) (hs : s.length = 16) (i : Nat) (h : i < 16) :
    (tagF (r ++ s) all).getD i 0 = UInt8.ofNat (carA (tagA r all) (leN s) i + ((tagF (r ++ List.replicate 16 0) all).getD i 0).toNat + (s.getD i 0).toNat) := by
  have hq : 0 < 256 ^ i := Nat.pow_pos (by decide)
  rw [tagF_byte r s all hr hs i h, tagF_byte r _ all hr (by simp) i h, leN_zero, Nat.add_zero, ← leN_byte s i, u8_mod, chainB _ _ _ hq, ← u8_mod]
  simp [carA]
theorem adds_car (r s all : List UInt8) (hr : r.length = 16) (hs : s.length = 16) (i : Nat) (h : i < 16) :
    carA (tagA r all) (leN s) (i + 1) = (carA (tagA r all) (leN s) i + ((tagF (r ++ List.replicate 16 0) all).getD i 0).toNat + (s.getD i 0).toNat) / 256 := by
  have hq : 0 < 256 ^ i := Nat.pow_pos (by decide)
  rw [tagF_byte r _ all hr (by simp) i h, leN_zero, Nat.add_zero, ← leN_byte s i]
  simp only [carA, Nat.pow_succ]
  rw [chainC _ _ _ hq]
  simp
theorem carA_le (r s all : List UInt8) (hr : r.length = 16) (hs : s.length = 16) : ∀ i ≤ 16, carA (tagA r all) (leN s) i ≤ 1
  | 0, _ => by rw [carA_0]; omega
  | i + 1, h => by
    have := carA_le r s all hr hs i (by omega)
    have h1 := ((tagF (r ++ List.replicate 16 0) all).getD i 0).toNat_lt
    have h2 := (s.getD i 0).toNat_lt
    rw [adds_car r s all hr hs i (by omega)]; omega
end Go.Bb
/- The tag, as numbers: plain laws. -/
namespace Go.Bb
set_option linter.unusedSimpArgs false
set_option linter.unusedVariables false
set_option maxRecDepth 20000

theorem valD_shift (f : Nat → Nat) : ∀ n, valD f (n + 1) = f 0 + 256 * valD (fun j => f (j + 1)) n
  | 0 => by simp [valD]
  | n + 1 => by
    rw [valD, valD_shift f n, valD, Nat.pow_succ]
    rw [Nat.mul_add, ← Nat.add_assoc, Nat.mul_comm (256 ^ n) 256, Nat.mul_left_comm]
theorem valD_leN : ∀ l : List UInt8, valD (fun j => (l.getD j 0).toNat) l.length = leN l
  | [] => rfl
  | b :: l => by
    rw [List.length_cons, valD_shift, leN]
    have := valD_leN l
    simp only [List.getD_eq_getElem?_getD, List.getElem?_cons_zero, Option.getD_some, List.getElem?_cons_succ] at this ⊢
    rw [this]
theorem valD_zero (n : Nat) : valD (fun _ => 0) n = 0 := by
  induction n with
  | zero => rfl
  | succ n ih => rw [valD, ih]; simp
theorem valD_blend (B : Nat → Nat) (n : Nat) : ∀ N, n ≤ N → valD (blendF B (fun _ => 0) n) N = valD B n
  | 0, h => by
    have : n = 0 := by omega
    subst this; rfl
  | N + 1, h => by
    by_cases e : n = N + 1
    · subst e
      exact valD_congr fun j hj => blendF_lt hj
    · rw [valD, valD_blend B n N (by omega), blendF_ge (by omega)]; simp
/-- A block, with its end. -/
def endD (l : List UInt8) : Nat → Nat := upd (blendF (fun j => (l.getD j 0).toNat) (fun _ => 0) l.length) l.length 1
theorem endD_val (l : List UInt8) (h : l.length ≤ 16) : valD (endD l) 17 = leN l + 256 ^ l.length := by
  unfold endD
  have hu := valD_upd (blendF (fun j => (l.getD j 0).toNat) (fun _ => 0) l.length) l.length 1 17 (by omega)
  rw [blendF_at, valD_blend _ _ _ (by omega), valD_leN] at hu
  omega
theorem endD_lt (l : List UInt8) (j : Nat) : endD l j < 256 := by
  unfold endD
  by_cases e : j = l.length
  · rw [e, upd_self]; omega
  · rw [upd_ne e]
    by_cases e2 : j < l.length
    · rw [blendF_lt e2]; exact (l.getD j 0).toNat_lt
    · rw [blendF_ge (by omega)]; omega
theorem carD_1 {f g : Nat → Nat} (hf : ∀ j, j < 17 → f j < 256) (hg : ∀ j, j < 17 → g j < 256) : ∀ i, i ≤ 17 → carD f g i ≤ 1
  | 0, _ => by simp [carD]
  | i + 1, h => by
    have := carD_1 hf hg i (by omega)
    have := hf i (by omega)
    have := hg i (by omega)
    rw [carD]; omega
theorem sum_lt {q g : Nat → Nat} (hq : NormD q) (hg : ∀ j, j < 17 → g j < 256) (h16 : g 16 ≤ 1) : ∀ j, j < 17 → addD q g j < 256 := by
  intro j hj
  by_cases e : j = 16
  · subst e
    rw [addD_16]
    have := carD_1 (norm_255 hq) hg 16 (by omega)
    have := hq.2
    omega
  · exact addD_lt _ _ (by omega)
theorem endD_16 (l : List UInt8) (h : l.length ≤ 16) : endD l 16 ≤ 1 := by
  unfold endD
  by_cases e : 16 = l.length
  · rw [← e, upd_self]; omega
  · rw [upd_ne e, blendF_ge (by omega)]; omega
def blkV (l : List UInt8) : Nat := leN l + 256 ^ l.length
def polyH (R acc : Nat) (l : List UInt8) : Nat :=
  if h : 0 < l.length then polyH R ((acc + blkV (l.take 16)) * R % PQ) (l.drop 16) else acc
termination_by l.length
decreasing_by simp; omega
theorem polyH_more {R acc : Nat} {l : List UInt8} (h : 0 < l.length) : polyH R acc l = polyH R ((acc + blkV (l.take 16)) * R % PQ) (l.drop 16) := by
  rw [polyH, dif_pos h]
theorem polyH_done {R acc : Nat} {l : List UInt8} (h : ¬ 0 < l.length) : polyH R acc l = acc := by
  rw [polyH, dif_neg h]
theorem mod_step (a b R : Nat) : (a % PQ + b) * R % PQ = (a + b) * R % PQ := by
  rw [Nat.mul_mod, Nat.mod_add_mod, ← Nat.mul_mod]
def rD (w : List UInt8) : Nat → Nat := blendF (fun j => (keyR w j).toNat) (fun _ => 0) 16
theorem rD_lt (w : List UInt8) (j : Nat) : rD w j < 256 := by
  unfold rD
  by_cases e2 : j < 16
  · rw [blendF_lt e2]; exact (keyR w j).toNat_lt
  · rw [blendF_ge (by omega)]; omega
def sD (w : List UInt8) : Nat → Nat := blendF (fun j => (w.getD (16 + j) 0).toNat) (fun _ => 0) 16
theorem sD_lt (w : List UInt8) (j : Nat) : sD w j < 256 := by
  unfold sD
  by_cases e2 : j < 16
  · rw [blendF_lt e2]; exact (w.getD (16 + j) 0).toNat_lt
  · rw [blendF_ge (by omega)]; omega
theorem sD_val (w : List UInt8) (h : w.length = 32) : valD (sD w) 17 = leN (w.drop 16) := by
  unfold sD
  rw [valD_blend _ _ _ (by omega), ← valD_leN, List.length_drop, h]
  apply valD_congr
  intro j hj
  simp [List.getD_eq_getElem?_getD, List.getElem?_drop]
theorem rD_val (w : List UInt8) : valD (rD w) 17 = leN (rowL (keyR w) 16) := by
  unfold rD
  rw [valD_blend _ _ _ (by omega), ← valD_leN, rowL_len]
  apply valD_congr
  intro j hj
  simp [List.getD_eq_getElem?_getD, rowL, hj]
/-- The document's tag. -/
def tagR (w l : List UInt8) (i : Nat) : UInt8 := UInt8.ofNat ((polyH (leN (rowL (keyR w) 16)) 0 l + leN (w.drop 16)) / 256 ^ i)
end Go.Bb
/- Streams of keys, in plain words. -/
namespace Go.Bb
set_option linter.unusedSimpArgs false
set_option linter.unusedVariables false

structure Q4 where
  a : U32
  b : U32
  c : U32
  d : U32
/-- Turned to the left. -/
def rotF (x : U32) (n : Nat) : U32 := turnF x (32 - n)
def quarF (q : Q4) : Q4 :=
  let a1 := q.a + q.b
  let d1 := rotF (q.d ^^^ a1) 16
  let c1 := q.c + d1
  let b1 := rotF (q.b ^^^ c1) 12
  let a2 := a1 + b1
  let d2 := rotF (d1 ^^^ a2) 8
  let c2 := c1 + d2
  let b2 := rotF (b1 ^^^ c2) 7
  ⟨a2, b2, c2, d2⟩
def Q4.V (q : Q4) : Value := .tuple #[.int .u32 q.a.toNat, .int .u32 q.b.toNat, .int .u32 q.c.toNat, .int .u32 q.d.toNat]
/-- Four words of a state, mixed. -/
def mixQ (s : Nat → U32) (i j k l : Nat) : Nat → U32 :=
  let q := quarF ⟨s i, s j, s k, s l⟩
  updU (updU (updU (updU s i q.a) j q.b) k q.c) l q.d
def colsN (s : Nat → U32) : Nat → (Nat → U32)
  | 0 => s
  | i + 1 => mixQ (colsN s i) i (4 + i) (8 + i) (12 + i)
def diagN (s : Nat → U32) : Nat → (Nat → U32)
  | 0 => s
  | i + 1 => mixQ (diagN s i) i (4 + (i + 1) % 4) (8 + (i + 2) % 4) (12 + (i + 3) % 4)
def roundsF (s : Nat → U32) : Nat → (Nat → U32)
  | 0 => s
  | n + 1 => diagN (colsN (roundsF s n) 4) 4
def wordF (l : List UInt8) (i : Nat) : U32 := (fromLittleF ((l.drop (4 * i)).take 4)).setWidth 32
def constC (j : Nat) : U32 := match j with | 0 => 1634760805 | 1 => 857760878 | 2 => 2036477234 | 3 => 1797285236 | _ => 0
def stateF (key : List UInt8) (count : U32) (nonce : List UInt8) (j : Nat) : U32 :=
  if j < 4 then constC j else if j < 12 then wordF key (j - 4) else if j = 12 then count else if j < 16 then wordF nonce (j - 13) else 0
def coutF (s : Nat → U32) : Nat → U32 := fun j => roundsF s 10 j + s j
/-- The bytes of words. -/
def bytesF (f : Nat → U32) (k : Nat) : UInt8 := UInt8.ofNat (((f (k / 4)).setWidth 64 : U64) >>> (8 * (k % 4))).toNat
def blockF (key : List UInt8) (count : U32) (nonce : List UInt8) : Nat → UInt8 := bytesF (coutF (stateF key count nonce))
theorem bytesF_little (f : Nat → U32) (i : Nat) : littleF ((f i).setWidth 64) 4 = (List.range 4).map fun k => bytesF f (4 * i + k) := by
  unfold littleF
  apply List.map_congr_left
  intro k hk
  have hk4 : k < 4 := List.mem_range.1 hk
  unfold bytesF
  rw [show (4 * i + k) / 4 = i by omega, show (4 * i + k) % 4 = k by omega]
end Go.Bb
/- Contracts: sums of bytes: turns, the schedule. -/
namespace Go.Bb
set_option linter.unusedSimpArgs false
set_option linter.unusedVariables false
set_option maxRecDepth 20000

theorem rot_s (n : Nat) (h1 : 1 ≤ n) (h2 : n ≤ 31) : IntKind.u64.wrap (IntKind.i64.wrap (-(n : Int))) = ((BitVec.ofInt 64 (-(n : Int))).toNat : Int) := by
  have : IntKind.i64.wrap (-(n : Int)) = -(n : Int) := wrapI (by omega) (by omega)
  rw [this, wrap_u64]
theorem rot_m : ∀ n : Nat, n < 32 → 1 ≤ n → (BitVec.ofInt 64 (-(n : Int)) &&& BitVec.ofNat 64 31).toNat = 32 - n := by decide
theorem RotateLeft32_c (E : EnvT tab) (h : Heap) (x : U32) (n : Nat) (h1 : 1 ≤ n) (h2 : n ≤ 31) : ACallN E.toEnv n_math_bits_RotateLeft32 [.int .u32 x.toNat, .int .i64 (-(n : Int))] h fun r h' => h' = h ∧ r = .int .u32 (turnF x n).toNat := by
  refine acall h_math_bits_RotateLeft32 ir_math_bits_RotateLeft32 rfl rfl (wpA_sound ?_)
  unfold ir_math_bits_RotateLeft32
  have w1 : IntKind.u64.wrap (-(n : Int)) = ((BitVec.ofInt 64 (-(n : Int))).toNat : Int) := wrap_u64 _
  have w2 : IntKind.u64.wrap ((BitVec.ofInt IntKind.u64.bits ((BitVec.ofInt 64 (-(n : Int))).toNat : Int) &&& BitVec.ofInt IntKind.u64.bits 31).toNat : Int) = ((32 - n : Nat) : Int) := by
    have := u64_and (BitVec.ofInt 64 (-(n : Int))) (BitVec.ofNat 64 31)
    rw [rot_m n (by omega) h1] at this
    exact this
  have w3 : IntKind.u64.wrap (32 - ((32 - n : Nat) : Int)) = (n : Int) := by
    have : (32 - ((32 - n : Nat) : Int)) = n := by omega
    rw [this, wrap_u64, ofInt_nat]; simp; omega
  have n1 : ¬ (((32 - n : Nat) : Int) < 0) := by omega
  have n2 : ¬ ((n : Int) < 0) := by omega
  have s1 : IntKind.u32.wrap ((x.toNat : Int) * 2 ^ (min (32 - n) IntKind.u32.bits)) = ((x <<< (32 - n)).toNat : Int) := u32_shl x (32 - n) (by omega)
  have s2 : ((x.toNat : Int).fdiv (2 ^ (min n IntKind.u32.bits))) = ((x >>> n).toNat : Int) := u32_shr x n (by omega)
  simp -implicitDefEqProofs only [zB1,zB2,zB3,zB4,zB5,zB6,zB7,zB8,zB9,zB10,zB11,y00,y01,y02,y03,y04,y05,y06,y07,y08,y09,y0a,y0b,y0c,y0d,y0e,y0f,y0g,y0h,y0i,y0j,y0k,y0l,y0m,y0n,y0o,y0p,y0q,y0r,y0s,y0t,y0u,y0v,y0w,y0x,y0y,y0z,y10,y11,y12,y13,y14,y15,y16,y17,y18,y19,y1a,y1b,y1c,y1d,y1e,y1f,y1g,y1h,y1i,y1j,y1k,y1l,y1m,y1n,y1o,y1p,y1q,y1r,retO,retL,retV,z69,allV,allP,z6a,z6d,z6e,z6k,z6l,z6m,binV,eqV,unV,oOpt,reduceIte,reduceCtorEq,Nat.reduceEqDiff,Nat.reduceAdd,Nat.reduceMul,Nat.reduceLT,Nat.reduceSub,Int.reduceLT,Int.reduceLE,Int.reduceEq,Int.reduceNe,Int.reduceSub,Int.reduceAdd,Int.reduceMul,Int.reduceBEq,Int.reduceBNe,Int.reduceGT,Int.reduceGE,Nat.reduceGT,Int.reduceToNat,Int.reduceNeg,Nat.reduceLeDiff,Nat.reduceBEq,Nat.reduceBneDiff,Value.cells, w1, w2, w3, n1, n2, Int.toNat_natCast, s1, s2, u32_or]
  rfl

theorem sha_turn_c (E : EnvT tab) (h : Heap) (x : U32) (n : Nat) {z : Int} (hz : z = n) (h1 : 1 ≤ n) (h2 : n ≤ 31) : ACallN E.toEnv n_sha_turn [.int .u32 x.toNat, .int .i64 z] h fun r h' => h' = h ∧ r = .int .u32 (turnF x n).toNat := by
  subst hz
  refine acall h_sha_turn ir_sha_turn rfl rfl (wpA_sound ?_)
  unfold ir_sha_turn
  have w : IntKind.i64.wrap (0 - (n : Int)) = -(n : Int) := by rw [wrapI (by omega) (by omega)]; omega
  simp -implicitDefEqProofs only [zB1,zB2,zB3,zB4,zB5,zB6,zB7,zB8,zB9,zB10,zB11,y00,y01,y02,y03,y04,y05,y06,y07,y08,y09,y0a,y0b,y0c,y0d,y0e,y0f,y0g,y0h,y0i,y0j,y0k,y0l,y0m,y0n,y0o,y0p,y0q,y0r,y0s,y0t,y0u,y0v,y0w,y0x,y0y,y0z,y10,y11,y12,y13,y14,y15,y16,y17,y18,y19,y1a,y1b,y1c,y1d,y1e,y1f,y1g,y1h,y1i,y1j,y1k,y1l,y1m,y1n,y1o,y1p,y1q,y1r,retO,retL,retV,z69,allV,allP,z6a,z6d,z6e,z6k,z6l,z6m,binV,eqV,unV,oOpt,reduceIte,reduceCtorEq,Nat.reduceEqDiff,Nat.reduceAdd,Nat.reduceMul,Nat.reduceLT,Nat.reduceSub,Int.reduceLT,Int.reduceLE,Int.reduceEq,Int.reduceNe,Int.reduceSub,Int.reduceAdd,Int.reduceMul,Int.reduceBEq,Int.reduceBNe,Int.reduceGT,Int.reduceGE,Nat.reduceGT,Int.reduceToNat,Int.reduceNeg,Nat.reduceLeDiff,Nat.reduceBEq,Nat.reduceBneDiff,Value.cells, w]
  refine (RotateLeft32_c E _ x n h1 h2).mono ?_
  rintro r h' ⟨rfl, rfl⟩
  simp -implicitDefEqProofs only [zB1,zB2,zB3,zB4,zB5,zB6,zB7,zB8,zB9,zB10,zB11,y00,y01,y02,y03,y04,y05,y06,y07,y08,y09,y0a,y0b,y0c,y0d,y0e,y0f,y0g,y0h,y0i,y0j,y0k,y0l,y0m,y0n,y0o,y0p,y0q,y0r,y0s,y0t,y0u,y0v,y0w,y0x,y0y,y0z,y10,y11,y12,y13,y14,y15,y16,y17,y18,y19,y1a,y1b,y1c,y1d,y1e,y1f,y1g,y1h,y1i,y1j,y1k,y1l,y1m,y1n,y1o,y1p,y1q,y1r,retO,retL,retV,z69,allV,allP,z6a,z6d,z6e,z6k,z6l,z6m,binV,eqV,unV,oOpt,reduceIte,reduceCtorEq,Nat.reduceEqDiff,Nat.reduceAdd,Nat.reduceMul,Nat.reduceLT,Nat.reduceSub,Int.reduceLT,Int.reduceLE,Int.reduceEq,Int.reduceNe,Int.reduceSub,Int.reduceAdd,Int.reduceMul,Int.reduceBEq,Int.reduceBNe,Int.reduceGT,Int.reduceGE,Nat.reduceGT,Int.reduceToNat,Int.reduceNeg,Nat.reduceLeDiff,Nat.reduceBEq,Nat.reduceBneDiff,Value.cells]

theorem sh3 (x : U32) : (x.toNat : Int).fdiv (2 ^ (min (Int.toNat 3) IntKind.u32.bits)) = ((x >>> 3).toNat : Int) := u32_shr x 3 (by omega)
theorem sh3' (x : U32) : (x.toNat : Int).fdiv (2 ^ (min 3 IntKind.u32.bits)) = ((x >>> 3).toNat : Int) := u32_shr x 3 (by omega)
theorem sh10 (x : U32) : (x.toNat : Int).fdiv (2 ^ (min (Int.toNat 10) IntKind.u32.bits)) = ((x >>> 10).toNat : Int) := u32_shr x 10 (by omega)
theorem sh10' (x : U32) : (x.toNat : Int).fdiv (2 ^ (min 10 IntKind.u32.bits)) = ((x >>> 10).toNat : Int) := u32_shr x 10 (by omega)
theorem take_drop_len {α : Type} (l : List α) (a n : Nat) (h : a + n ≤ l.length) : ((l.drop a).take n).length = n := by simp; omega

theorem sha_schedule_c (E : EnvT tab) (h : Heap) {v : Value} (b : List UInt8) (hb : b.length = 64) (s : SlB h v b) : ACallN E.toEnv n_sha_schedule [v] h fun r h' => h.le h' ∧ r = .agg (rowU (schedW b 64) 64).toArray := by
  obtain ⟨base, c, rfl⟩ := Sl.shape s
  have hc : b.length ≤ c := by
    rcases s with ⟨e, hn, _⟩ | ⟨a, c', e, hc, _⟩
    · omega
    · simp only [Value.slice.injEq] at e
      omega
  refine acall h_sha_schedule ir_sha_schedule rfl rfl (wpA_sound ?_)
  unfold ir_sha_schedule
  simp -implicitDefEqProofs only [zB1,zB2,zB3,zB4,zB5,zB6,zB7,zB8,zB9,zB10,zB11,y00,y01,y02,y03,y04,y05,y06,y07,y08,y09,y0a,y0b,y0c,y0d,y0e,y0f,y0g,y0h,y0i,y0j,y0k,y0l,y0m,y0n,y0o,y0p,y0q,y0r,y0s,y0t,y0u,y0v,y0w,y0x,y0y,y0z,y10,y11,y12,y13,y14,y15,y16,y17,y18,y19,y1a,y1b,y1c,y1d,y1e,y1f,y1g,y1h,y1i,y1j,y1k,y1l,y1m,y1n,y1o,y1p,y1q,y1r,retO,retL,retV,z69,allV,allP,z6a,z6d,z6e,z6k,z6l,z6m,binV,eqV,unV,oOpt,reduceIte,reduceCtorEq,Nat.reduceEqDiff,Nat.reduceAdd,Nat.reduceMul,Nat.reduceLT,Nat.reduceSub,Int.reduceLT,Int.reduceLE,Int.reduceEq,Int.reduceNe,Int.reduceSub,Int.reduceAdd,Int.reduceMul,Int.reduceBEq,Int.reduceBNe,Int.reduceGT,Int.reduceGE,Nat.reduceGT,Int.reduceToNat,Int.reduceNeg,Nat.reduceLeDiff,Nat.reduceBEq,Nat.reduceBneDiff,Value.cells]
  intro b2 hb2 b3 hb3
  have n23 : b3 ≠ b2 := (Heap.set_none.1 hb3).1
  have hb3' := (Heap.set_none.1 hb3).2
  rw [rowU_new, rowU_len]
  refine wp_loop' (fun m t H => h.le H ∧ ∃ (i : Nat), t = tl [(0, .slice base b.length c), (2, .pointer (some ⟨b2, 0, none⟩)), (3, .pointer (some ⟨b3, 0, none⟩)), (11, .int .i64 i)] ∧ i ≤ 64 ∧ m = 64 - i ∧
      H b2 = some (.own 0 (rowU (fun _ => 0) 64) 64) ∧ H b3 = some (.own 0 (rowU (schedW b i) 64) 64)) 64
    ⟨Heap.le_new (Heap.le_new (Heap.le_refl _) hb2 _) hb3 _, 0, rfl, by omega, by omega, by rw [Heap.set_ne (Ne.symm n23), Heap.set_self], Heap.set_self _ _ _⟩ ?_
  rintro m t H ⟨hle, i, rfl, hi, rfl, q2, q3⟩
  by_cases hlt : i < 64
  · have hi1 : (i : Int) < 64 := by omega
    have hi2 : (0 : Int) ≤ i := by omega
    have w1 : IntKind.i64.wrap ((i : Int) + 1) = ((i + 1 : Nat) : Int) := wrapN (by omega)
    have st := rowU_store (z := schedX b (schedW b i) i) q3 hlt
    have fin : ∃ m, m < 64 - i ∧ h.le (H.set b3 (.own 0 (rowU (updU (schedW b i) i (schedX b (schedW b i) i)) 64) 64)) ∧ ∃ (i' : Nat), tl [(0, Value.slice base b.length c), (2, .pointer (some ⟨b2, 0, none⟩)), (3, .pointer (some ⟨b3, 0, none⟩)), (11, .int .i64 ((i + 1 : Nat) : Int))] =
        tl [(0, Value.slice base b.length c), (2, .pointer (some ⟨b2, 0, none⟩)), (3, .pointer (some ⟨b3, 0, none⟩)), (11, .int .i64 i')] ∧ i' ≤ 64 ∧ m = 64 - i' ∧
        (H.set b3 (.own 0 (rowU (updU (schedW b i) i (schedX b (schedW b i) i)) 64) 64)) b2 = some (.own 0 (rowU (fun _ => 0) 64) 64) ∧ (H.set b3 (.own 0 (rowU (updU (schedW b i) i (schedX b (schedW b i) i)) 64) 64)) b3 = some (.own 0 (rowU (schedW b i') 64) 64) :=
      ⟨_, by omega, Heap.le_set hle hb3' _, i + 1, rfl, by omega, rfl, by rw [Heap.set_ne (Ne.symm n23)]; exact q2, Heap.set_self _ _ _⟩
    by_cases h16 : i < 16
    · have g1 : (i : Int) < 16 := by omega
      have w2 : IntKind.i64.wrap (4 * (i : Int)) = ((4 * i : Nat) : Int) := by rw [wrapI (by omega) (by omega)]; omega
      have w3 : IntKind.i64.wrap (((4 * i : Nat) : Int) + 4) = ((4 * i + 4 : Nat) : Int) := by rw [wrapI (by omega) (by omega)]; omega
      have bd : bnds b.length c (some (some (.int .i64 ((4 * i : Nat) : Int)))) (some (some (.int .i64 ((4 * i + 4 : Nat) : Int)))) none = some (4 * i, 4 * i + 4, c) := by
        rw [bnds_both (by omega) (by omega) (by omega), Int.toNat_natCast, Int.toNat_natCast]
      simp -implicitDefEqProofs only [zB1,zB2,zB3,zB4,zB5,zB6,zB7,zB8,zB9,zB10,zB11,y00,y01,y02,y03,y04,y05,y06,y07,y08,y09,y0a,y0b,y0c,y0d,y0e,y0f,y0g,y0h,y0i,y0j,y0k,y0l,y0m,y0n,y0o,y0p,y0q,y0r,y0s,y0t,y0u,y0v,y0w,y0x,y0y,y0z,y10,y11,y12,y13,y14,y15,y16,y17,y18,y19,y1a,y1b,y1c,y1d,y1e,y1f,y1g,y1h,y1i,y1j,y1k,y1l,y1m,y1n,y1o,y1p,y1q,y1r,retO,retL,retV,z69,allV,allP,z6a,z6d,z6e,z6k,z6l,z6m,binV,eqV,unV,oOpt,reduceIte,reduceCtorEq,Nat.reduceEqDiff,Nat.reduceAdd,Nat.reduceMul,Nat.reduceLT,Nat.reduceSub,Int.reduceLT,Int.reduceLE,Int.reduceEq,Int.reduceNe,Int.reduceSub,Int.reduceAdd,Int.reduceMul,Int.reduceBEq,Int.reduceBNe,Int.reduceGT,Int.reduceGE,Nat.reduceGT,Int.reduceToNat,Int.reduceNeg,Nat.reduceLeDiff,Nat.reduceBEq,Nat.reduceBneDiff,Value.cells, hi1, hi2, g1, w2, w3, bd]
      have sm := Sl.midB (Sl.le hle s) (a := 4 * i) (b := 4 * i + 4) (by omega) (by omega)
      have e4 : 4 * i + 4 - 4 * i = 4 := by omega
      rw [e4] at sm ⊢
      have e5 : ((b.drop (4 * i)).take 4).length = 4 := by simp; omega
      refine (octet_FromBig_c E _ _ (by omega) sm).mono ?_
      rintro r H' ⟨rfl, rfl⟩
      have ex : schedX b (schedW b i) i = (fromBigF ((b.drop (4 * i)).take 4)).setWidth 32 := by unfold schedX; rw [if_pos h16]
      rw [ex] at st fin
      unfold u64V
      simp -implicitDefEqProofs only [zB1,zB2,zB3,zB4,zB5,zB6,zB7,zB8,zB9,zB10,zB11,y00,y01,y02,y03,y04,y05,y06,y07,y08,y09,y0a,y0b,y0c,y0d,y0e,y0f,y0g,y0h,y0i,y0j,y0k,y0l,y0m,y0n,y0o,y0p,y0q,y0r,y0s,y0t,y0u,y0v,y0w,y0x,y0y,y0z,y10,y11,y12,y13,y14,y15,y16,y17,y18,y19,y1a,y1b,y1c,y1d,y1e,y1f,y1g,y1h,y1i,y1j,y1k,y1l,y1m,y1n,y1o,y1p,y1q,y1r,retO,retL,retV,z69,allV,allP,z6a,z6d,z6e,z6k,z6l,z6m,binV,eqV,unV,oOpt,reduceIte,reduceCtorEq,Nat.reduceEqDiff,Nat.reduceAdd,Nat.reduceMul,Nat.reduceLT,Nat.reduceSub,Int.reduceLT,Int.reduceLE,Int.reduceEq,Int.reduceNe,Int.reduceSub,Int.reduceAdd,Int.reduceMul,Int.reduceBEq,Int.reduceBNe,Int.reduceGT,Int.reduceGE,Nat.reduceGT,Int.reduceToNat,Int.reduceNeg,Nat.reduceLeDiff,Nat.reduceBEq,Nat.reduceBneDiff,Value.cells, hi1, hi2, u64_u32, Int.toNat_natCast, st, w1]
      exact fin
    · have g1 : ¬ (i : Int) < 16 := by omega
      have w15 : IntKind.i64.wrap ((i : Int) - 15) = ((i - 15 : Nat) : Int) := by rw [wrapI (by omega) (by omega)]; omega
      have w2 : IntKind.i64.wrap ((i : Int) - 2) = ((i - 2 : Nat) : Int) := by rw [wrapI (by omega) (by omega)]; omega
      have w16 : IntKind.i64.wrap ((i : Int) - 16) = ((i - 16 : Nat) : Int) := by rw [wrapI (by omega) (by omega)]; omega
      have w7 : IntKind.i64.wrap ((i : Int) - 7) = ((i - 7 : Nat) : Int) := by rw [wrapI (by omega) (by omega)]; omega
      have a15 := rowU_at q3 (show i - 15 < 64 by omega)
      have a2 := rowU_at q3 (show i - 2 < 64 by omega)
      have a16 := rowU_at q3 (show i - 16 < 64 by omega)
      have a7 := rowU_at q3 (show i - 7 < 64 by omega)
      have ex : schedX b (schedW b i) i = schedW b i (i - 16) + (turnF (schedW b i (i - 15)) 7 ^^^ turnF (schedW b i (i - 15)) 18 ^^^ schedW b i (i - 15) >>> 3) + schedW b i (i - 7) + (turnF (schedW b i (i - 2)) 17 ^^^ turnF (schedW b i (i - 2)) 19 ^^^ schedW b i (i - 2) >>> 10) := by
        conv => lhs; unfold schedX
        rw [if_neg h16]
      rw [ex] at st fin
      have lt : ∀ k : Nat, k ≤ i → ((i - k : Nat) : Int) < 64 := fun k hk => by omega
      have l15 := lt 15 (by omega)
      have l2 := lt 2 (by omega)
      have l16 := lt 16 (by omega)
      have l7 := lt 7 (by omega)
      have ge : ∀ k : Nat, (0 : Int) ≤ ((i - k : Nat) : Int) := fun k => by omega
      generalize schedW b i = w at a15 a2 a16 a7 st fin
      simp -implicitDefEqProofs only [zB1,zB2,zB3,zB4,zB5,zB6,zB7,zB8,zB9,zB10,zB11,y00,y01,y02,y03,y04,y05,y06,y07,y08,y09,y0a,y0b,y0c,y0d,y0e,y0f,y0g,y0h,y0i,y0j,y0k,y0l,y0m,y0n,y0o,y0p,y0q,y0r,y0s,y0t,y0u,y0v,y0w,y0x,y0y,y0z,y10,y11,y12,y13,y14,y15,y16,y17,y18,y19,y1a,y1b,y1c,y1d,y1e,y1f,y1g,y1h,y1i,y1j,y1k,y1l,y1m,y1n,y1o,y1p,y1q,y1r,retO,retL,retV,z69,allV,allP,z6a,z6d,z6e,z6k,z6l,z6m,binV,eqV,unV,oOpt,reduceIte,reduceCtorEq,Nat.reduceEqDiff,Nat.reduceAdd,Nat.reduceMul,Nat.reduceLT,Nat.reduceSub,Int.reduceLT,Int.reduceLE,Int.reduceEq,Int.reduceNe,Int.reduceSub,Int.reduceAdd,Int.reduceMul,Int.reduceBEq,Int.reduceBNe,Int.reduceGT,Int.reduceGE,Nat.reduceGT,Int.reduceToNat,Int.reduceNeg,Nat.reduceLeDiff,Nat.reduceBEq,Nat.reduceBneDiff,Value.cells, hi1, hi2, g1, w15, w2, a15, a2, l15, l2, ge, Int.toNat_natCast]
      refine (sha_turn_c E _ _ 7 rfl (by omega) (by omega)).mono ?_
      rintro r H' ⟨rfl, rfl⟩
      simp -implicitDefEqProofs only [zB1,zB2,zB3,zB4,zB5,zB6,zB7,zB8,zB9,zB10,zB11,y00,y01,y02,y03,y04,y05,y06,y07,y08,y09,y0a,y0b,y0c,y0d,y0e,y0f,y0g,y0h,y0i,y0j,y0k,y0l,y0m,y0n,y0o,y0p,y0q,y0r,y0s,y0t,y0u,y0v,y0w,y0x,y0y,y0z,y10,y11,y12,y13,y14,y15,y16,y17,y18,y19,y1a,y1b,y1c,y1d,y1e,y1f,y1g,y1h,y1i,y1j,y1k,y1l,y1m,y1n,y1o,y1p,y1q,y1r,retO,retL,retV,z69,allV,allP,z6a,z6d,z6e,z6k,z6l,z6m,binV,eqV,unV,oOpt,reduceIte,reduceCtorEq,Nat.reduceEqDiff,Nat.reduceAdd,Nat.reduceMul,Nat.reduceLT,Nat.reduceSub,Int.reduceLT,Int.reduceLE,Int.reduceEq,Int.reduceNe,Int.reduceSub,Int.reduceAdd,Int.reduceMul,Int.reduceBEq,Int.reduceBNe,Int.reduceGT,Int.reduceGE,Nat.reduceGT,Int.reduceToNat,Int.reduceNeg,Nat.reduceLeDiff,Nat.reduceBEq,Nat.reduceBneDiff,Value.cells]
      refine (sha_turn_c E _ _ 18 rfl (by omega) (by omega)).mono ?_
      rintro r H' ⟨rfl, rfl⟩
      simp -implicitDefEqProofs only [zB1,zB2,zB3,zB4,zB5,zB6,zB7,zB8,zB9,zB10,zB11,y00,y01,y02,y03,y04,y05,y06,y07,y08,y09,y0a,y0b,y0c,y0d,y0e,y0f,y0g,y0h,y0i,y0j,y0k,y0l,y0m,y0n,y0o,y0p,y0q,y0r,y0s,y0t,y0u,y0v,y0w,y0x,y0y,y0z,y10,y11,y12,y13,y14,y15,y16,y17,y18,y19,y1a,y1b,y1c,y1d,y1e,y1f,y1g,y1h,y1i,y1j,y1k,y1l,y1m,y1n,y1o,y1p,y1q,y1r,retO,retL,retV,z69,allV,allP,z6a,z6d,z6e,z6k,z6l,z6m,binV,eqV,unV,oOpt,reduceIte,reduceCtorEq,Nat.reduceEqDiff,Nat.reduceAdd,Nat.reduceMul,Nat.reduceLT,Nat.reduceSub,Int.reduceLT,Int.reduceLE,Int.reduceEq,Int.reduceNe,Int.reduceSub,Int.reduceAdd,Int.reduceMul,Int.reduceBEq,Int.reduceBNe,Int.reduceGT,Int.reduceGE,Nat.reduceGT,Int.reduceToNat,Int.reduceNeg,Nat.reduceLeDiff,Nat.reduceBEq,Nat.reduceBneDiff,Value.cells, u32_xor, sh3, sh3']
      refine (sha_turn_c E _ _ 17 rfl (by omega) (by omega)).mono ?_
      rintro r H' ⟨rfl, rfl⟩
      simp -implicitDefEqProofs only [zB1,zB2,zB3,zB4,zB5,zB6,zB7,zB8,zB9,zB10,zB11,y00,y01,y02,y03,y04,y05,y06,y07,y08,y09,y0a,y0b,y0c,y0d,y0e,y0f,y0g,y0h,y0i,y0j,y0k,y0l,y0m,y0n,y0o,y0p,y0q,y0r,y0s,y0t,y0u,y0v,y0w,y0x,y0y,y0z,y10,y11,y12,y13,y14,y15,y16,y17,y18,y19,y1a,y1b,y1c,y1d,y1e,y1f,y1g,y1h,y1i,y1j,y1k,y1l,y1m,y1n,y1o,y1p,y1q,y1r,retO,retL,retV,z69,allV,allP,z6a,z6d,z6e,z6k,z6l,z6m,binV,eqV,unV,oOpt,reduceIte,reduceCtorEq,Nat.reduceEqDiff,Nat.reduceAdd,Nat.reduceMul,Nat.reduceLT,Nat.reduceSub,Int.reduceLT,Int.reduceLE,Int.reduceEq,Int.reduceNe,Int.reduceSub,Int.reduceAdd,Int.reduceMul,Int.reduceBEq,Int.reduceBNe,Int.reduceGT,Int.reduceGE,Nat.reduceGT,Int.reduceToNat,Int.reduceNeg,Nat.reduceLeDiff,Nat.reduceBEq,Nat.reduceBneDiff,Value.cells]
      refine (sha_turn_c E _ _ 19 rfl (by omega) (by omega)).mono ?_
      rintro r H' ⟨rfl, rfl⟩
      simp -implicitDefEqProofs only [zB1,zB2,zB3,zB4,zB5,zB6,zB7,zB8,zB9,zB10,zB11,y00,y01,y02,y03,y04,y05,y06,y07,y08,y09,y0a,y0b,y0c,y0d,y0e,y0f,y0g,y0h,y0i,y0j,y0k,y0l,y0m,y0n,y0o,y0p,y0q,y0r,y0s,y0t,y0u,y0v,y0w,y0x,y0y,y0z,y10,y11,y12,y13,y14,y15,y16,y17,y18,y19,y1a,y1b,y1c,y1d,y1e,y1f,y1g,y1h,y1i,y1j,y1k,y1l,y1m,y1n,y1o,y1p,y1q,y1r,retO,retL,retV,z69,allV,allP,z6a,z6d,z6e,z6k,z6l,z6m,binV,eqV,unV,oOpt,reduceIte,reduceCtorEq,Nat.reduceEqDiff,Nat.reduceAdd,Nat.reduceMul,Nat.reduceLT,Nat.reduceSub,Int.reduceLT,Int.reduceLE,Int.reduceEq,Int.reduceNe,Int.reduceSub,Int.reduceAdd,Int.reduceMul,Int.reduceBEq,Int.reduceBNe,Int.reduceGT,Int.reduceGE,Nat.reduceGT,Int.reduceToNat,Int.reduceNeg,Nat.reduceLeDiff,Nat.reduceBEq,Nat.reduceBneDiff,Value.cells, u32_xor, u32_add, sh10, sh10', w16, w7, a16, a7, l16, l7, ge, Int.toNat_natCast, hi1, hi2, st, w1]
      exact fin
  · have hi1 : ¬ (i : Int) < 64 := by omega
    have : i = 64 := by omega
    subst this
    have hl : hcells H ⟨b3, 0, none⟩ 64 = some (rowU (schedW b 64) 64) := by rw [hcells_at q3 (by rw [rowU_len]; omega)]; simp [List.take_of_length_le, rowU_len]
    have st : storeV H 64 (.pointer (some ⟨b2, 0, none⟩)) (.agg (rowU (schedW b 64) 64).toArray) = some (H.set b2 (.own 0 (rowU (schedW b 64) 64) 64)) := storeV_agg_at q2 (by omega) (rowU_len _ _) (rowU_one _ _) (rowU_len _ _) (by omega)
    have hl2 : hcells (H.set b2 (.own 0 (rowU (schedW b 64) 64) 64)) ⟨b2, 0, none⟩ 64 = some (rowU (schedW b 64) 64) := z6o (rowU_len _ _)
    simp -implicitDefEqProofs only [zB1,zB2,zB3,zB4,zB5,zB6,zB7,zB8,zB9,zB10,zB11,y00,y01,y02,y03,y04,y05,y06,y07,y08,y09,y0a,y0b,y0c,y0d,y0e,y0f,y0g,y0h,y0i,y0j,y0k,y0l,y0m,y0n,y0o,y0p,y0q,y0r,y0s,y0t,y0u,y0v,y0w,y0x,y0y,y0z,y10,y11,y12,y13,y14,y15,y16,y17,y18,y19,y1a,y1b,y1c,y1d,y1e,y1f,y1g,y1h,y1i,y1j,y1k,y1l,y1m,y1n,y1o,y1p,y1q,y1r,retO,retL,retV,z69,allV,allP,z6a,z6d,z6e,z6k,z6l,z6m,binV,eqV,unV,oOpt,reduceIte,reduceCtorEq,Nat.reduceEqDiff,Nat.reduceAdd,Nat.reduceMul,Nat.reduceLT,Nat.reduceSub,Int.reduceLT,Int.reduceLE,Int.reduceEq,Int.reduceNe,Int.reduceSub,Int.reduceAdd,Int.reduceMul,Int.reduceBEq,Int.reduceBNe,Int.reduceGT,Int.reduceGE,Nat.reduceGT,Int.reduceToNat,Int.reduceNeg,Nat.reduceLeDiff,Nat.reduceBEq,Nat.reduceBneDiff,Value.cells, hi1, hl, st, hl2]
    exact Heap.le_set hle hb2 _
end Go.Bb
/- Contracts: sums of bytes: a block is mixed in. -/
namespace Go.Bb
set_option linter.unusedSimpArgs false
set_option linter.unusedVariables false
set_option maxRecDepth 20000

theorem rowU_cells {H : Heap} {b n sz : Nat} {f : Nat → U32} (h : H b = some (.own 0 (rowU f n) sz)) : hcells H ⟨b, 0, none⟩ n = some (rowU f n) := by
  rw [hcells_at h (by rw [rowU_len]; omega)]; simp [List.take_of_length_le, rowU_len]

theorem sha_mix_c (E : EnvT tab) (h : Heap) {v : Value} (hs k : Nat → U32) (b : List UInt8) {bk ok : Nat} (kp : hcells h ⟨bk, ok, none⟩ 64 = some (rowU k 64)) (hb : b.length = 64) (s : SlB h v b) :
    ACallN E.toEnv n_sha_mix [.agg (rowU hs 8).toArray, v, .pointer (some ⟨bk, ok, none⟩)] h fun r h' => h.le h' ∧ r = .agg (rowU (mixF k hs b) 8).toArray := by
  obtain ⟨base, c, rfl⟩ := Sl.shape s
  refine acall h_sha_mix ir_sha_mix rfl rfl (wpA_sound ?_)
  unfold ir_sha_mix
  simp -implicitDefEqProofs only [zB1,zB2,zB3,zB4,zB5,zB6,zB7,zB8,zB9,zB10,zB11,y00,y01,y02,y03,y04,y05,y06,y07,y08,y09,y0a,y0b,y0c,y0d,y0e,y0f,y0g,y0h,y0i,y0j,y0k,y0l,y0m,y0n,y0o,y0p,y0q,y0r,y0s,y0t,y0u,y0v,y0w,y0x,y0y,y0z,y10,y11,y12,y13,y14,y15,y16,y17,y18,y19,y1a,y1b,y1c,y1d,y1e,y1f,y1g,y1h,y1i,y1j,y1k,y1l,y1m,y1n,y1o,y1p,y1q,y1r,retO,retL,retV,z69,allV,allP,z6a,z6d,z6e,z6k,z6l,z6m,binV,eqV,unV,oOpt,reduceIte,reduceCtorEq,Nat.reduceEqDiff,Nat.reduceAdd,Nat.reduceMul,Nat.reduceLT,Nat.reduceSub,Int.reduceLT,Int.reduceLE,Int.reduceEq,Int.reduceNe,Int.reduceSub,Int.reduceAdd,Int.reduceMul,Int.reduceBEq,Int.reduceBNe,Int.reduceGT,Int.reduceGE,Nat.reduceGT,Int.reduceToNat,Int.reduceNeg,Nat.reduceLeDiff,Nat.reduceBEq,Nat.reduceBneDiff,Value.cells]
  rw [rowU_len]
  intro b3 hb3 b6 hb6
  try simp -implicitDefEqProofs only [zB1,zB2,zB3,zB4,zB5,zB6,zB7,zB8,zB9,zB10,zB11,y00,y01,y02,y03,y04,y05,y06,y07,y08,y09,y0a,y0b,y0c,y0d,y0e,y0f,y0g,y0h,y0i,y0j,y0k,y0l,y0m,y0n,y0o,y0p,y0q,y0r,y0s,y0t,y0u,y0v,y0w,y0x,y0y,y0z,y10,y11,y12,y13,y14,y15,y16,y17,y18,y19,y1a,y1b,y1c,y1d,y1e,y1f,y1g,y1h,y1i,y1j,y1k,y1l,y1m,y1n,y1o,y1p,y1q,y1r,retO,retL,retV,z69,allV,allP,z6a,z6d,z6e,z6k,z6l,z6m,binV,eqV,unV,oOpt,reduceIte,reduceCtorEq,Nat.reduceEqDiff,Nat.reduceAdd,Nat.reduceMul,Nat.reduceLT,Nat.reduceSub,Int.reduceLT,Int.reduceLE,Int.reduceEq,Int.reduceNe,Int.reduceSub,Int.reduceAdd,Int.reduceMul,Int.reduceBEq,Int.reduceBNe,Int.reduceGT,Int.reduceGE,Nat.reduceGT,Int.reduceToNat,Int.reduceNeg,Nat.reduceLeDiff,Nat.reduceBEq,Nat.reduceBneDiff,Value.cells]
  have n63 : b6 ≠ b3 := (Heap.set_none.1 hb6).1
  have hb6' := (Heap.set_none.1 hb6).2
  rw [List.length_replicate]
  have le0 : h.le ((h.set b3 (.own 0 (rowU hs 8) 8)).set b6 (.own 0 (List.replicate 8 (.int .u32 0)) 8)) := Heap.le_new (Heap.le_new (Heap.le_refl _) hb3 _) hb6 _
  have p3 : ((h.set b3 (.own 0 (rowU hs 8) 8)).set b6 (.own 0 (List.replicate 8 (.int .u32 0)) 8)) b3 = some (.own 0 (rowU hs 8) 8) := by rw [Heap.set_ne (Ne.symm n63), Heap.set_self]
  have p6 : ((h.set b3 (.own 0 (rowU hs 8) 8)).set b6 (.own 0 (List.replicate 8 (.int .u32 0)) 8)) b6 = some (.own 0 (rowU (fun _ => 0) 8) 8) := by rw [Heap.set_self, rowU_new]
  generalize ((h.set b3 (.own 0 (rowU hs 8) 8)).set b6 (.own 0 (List.replicate 8 (.int .u32 0)) 8)) = h0 at le0 p3 p6
  refine (sha_schedule_c E h0 b hb (Sl.le le0 s)).mono ?_
  rintro r h1 ⟨le1, rfl⟩
  have le01 := Heap.le_trans le0 le1
  have p3 := le1 _ _ p3
  have p6 := le1 _ _ p6
  simp -implicitDefEqProofs only [zB1,zB2,zB3,zB4,zB5,zB6,zB7,zB8,zB9,zB10,zB11,y00,y01,y02,y03,y04,y05,y06,y07,y08,y09,y0a,y0b,y0c,y0d,y0e,y0f,y0g,y0h,y0i,y0j,y0k,y0l,y0m,y0n,y0o,y0p,y0q,y0r,y0s,y0t,y0u,y0v,y0w,y0x,y0y,y0z,y10,y11,y12,y13,y14,y15,y16,y17,y18,y19,y1a,y1b,y1c,y1d,y1e,y1f,y1g,y1h,y1i,y1j,y1k,y1l,y1m,y1n,y1o,y1p,y1q,y1r,retO,retL,retV,z69,allV,allP,z6a,z6d,z6e,z6k,z6l,z6m,binV,eqV,unV,oOpt,reduceIte,reduceCtorEq,Nat.reduceEqDiff,Nat.reduceAdd,Nat.reduceMul,Nat.reduceLT,Nat.reduceSub,Int.reduceLT,Int.reduceLE,Int.reduceEq,Int.reduceNe,Int.reduceSub,Int.reduceAdd,Int.reduceMul,Int.reduceBEq,Int.reduceBNe,Int.reduceGT,Int.reduceGE,Nat.reduceGT,Int.reduceToNat,Int.reduceNeg,Nat.reduceLeDiff,Nat.reduceBEq,Nat.reduceBneDiff,Value.cells]
  intro b7 hb7
  have st7 : storeV (h1.set b7 (.own 0 (List.replicate 64 (.int .u32 0)) 64)) 64 (.pointer (some ⟨b7, 0, none⟩)) (.agg (rowU (schedW b 64) 64).toArray) = some (h1.set b7 (.own 0 (rowU (schedW b 64) 64) 64)) := z6q (by omega) (rowU_len _ _) (rowU_one _ _) (by simp) (by omega)
  rw [List.length_replicate]
  have n73 := ne_of_none hb7 p3
  have n76 := ne_of_none hb7 p6
  have l3 : hcells (h1.set b7 (.own 0 (rowU (schedW b 64) 64) 64)) ⟨b3, 0, none⟩ 8 = some (rowU hs 8) := by rw [hcells_ne n73]; exact rowU_cells p3
  simp -implicitDefEqProofs only [zB1,zB2,zB3,zB4,zB5,zB6,zB7,zB8,zB9,zB10,zB11,y00,y01,y02,y03,y04,y05,y06,y07,y08,y09,y0a,y0b,y0c,y0d,y0e,y0f,y0g,y0h,y0i,y0j,y0k,y0l,y0m,y0n,y0o,y0p,y0q,y0r,y0s,y0t,y0u,y0v,y0w,y0x,y0y,y0z,y10,y11,y12,y13,y14,y15,y16,y17,y18,y19,y1a,y1b,y1c,y1d,y1e,y1f,y1g,y1h,y1i,y1j,y1k,y1l,y1m,y1n,y1o,y1p,y1q,y1r,retO,retL,retV,z69,allV,allP,z6a,z6d,z6e,z6k,z6l,z6m,binV,eqV,unV,oOpt,reduceIte,reduceCtorEq,Nat.reduceEqDiff,Nat.reduceAdd,Nat.reduceMul,Nat.reduceLT,Nat.reduceSub,Int.reduceLT,Int.reduceLE,Int.reduceEq,Int.reduceNe,Int.reduceSub,Int.reduceAdd,Int.reduceMul,Int.reduceBEq,Int.reduceBNe,Int.reduceGT,Int.reduceGE,Nat.reduceGT,Int.reduceToNat,Int.reduceNeg,Nat.reduceLeDiff,Nat.reduceBEq,Nat.reduceBneDiff,Value.cells, st7, l3]
  intro b8 hb8
  have n87 := (Heap.set_none.1 hb8).1
  have hb8' := (Heap.set_none.1 hb8).2
  have n83 := ne_of_none hb8' p3
  have n86 := ne_of_none hb8' p6
  have st8 : storeV ((h1.set b7 (.own 0 (rowU (schedW b 64) 64) 64)).set b8 (.own 0 (List.replicate 8 (.int .u32 0)) 8)) 8 (.pointer (some ⟨b8, 0, none⟩)) (.agg (rowU hs 8).toArray) = some ((h1.set b7 (.own 0 (rowU (schedW b 64) 64) 64)).set b8 (.own 0 (rowU hs 8) 8)) := z6q (by omega) (rowU_len _ _) (rowU_one _ _) (by simp) (by omega)
  rw [List.length_replicate]
  simp -implicitDefEqProofs only [zB1,zB2,zB3,zB4,zB5,zB6,zB7,zB8,zB9,zB10,zB11,y00,y01,y02,y03,y04,y05,y06,y07,y08,y09,y0a,y0b,y0c,y0d,y0e,y0f,y0g,y0h,y0i,y0j,y0k,y0l,y0m,y0n,y0o,y0p,y0q,y0r,y0s,y0t,y0u,y0v,y0w,y0x,y0y,y0z,y10,y11,y12,y13,y14,y15,y16,y17,y18,y19,y1a,y1b,y1c,y1d,y1e,y1f,y1g,y1h,y1i,y1j,y1k,y1l,y1m,y1n,y1o,y1p,y1q,y1r,retO,retL,retV,z69,allV,allP,z6a,z6d,z6e,z6k,z6l,z6m,binV,eqV,unV,oOpt,reduceIte,reduceCtorEq,Nat.reduceEqDiff,Nat.reduceAdd,Nat.reduceMul,Nat.reduceLT,Nat.reduceSub,Int.reduceLT,Int.reduceLE,Int.reduceEq,Int.reduceNe,Int.reduceSub,Int.reduceAdd,Int.reduceMul,Int.reduceBEq,Int.reduceBNe,Int.reduceGT,Int.reduceGE,Nat.reduceGT,Int.reduceToNat,Int.reduceNeg,Nat.reduceLeDiff,Nat.reduceBEq,Nat.reduceBneDiff,Value.cells, st8]
  have hb7' := Heap.none_of_le le01 hb7
  have hb8'' := Heap.none_of_le le01 hb8'
  generalize hw : schedW b 64 = w at hb8 ⊢
  refine wp_loop' (fun m t H => h.le H ∧ ∃ (i : Nat), t = tl [(2, .pointer (some ⟨bk, ok, none⟩)), (3, .pointer (some ⟨b3, 0, none⟩)), (6, .pointer (some ⟨b6, 0, none⟩)), (7, .pointer (some ⟨b7, 0, none⟩)), (8, .pointer (some ⟨b8, 0, none⟩)), (21, .int .i64 i)] ∧ i ≤ 64 ∧ m = 64 - i ∧
      H b3 = some (.own 0 (rowU hs 8) 8) ∧ H b6 = some (.own 0 (rowU (fun _ => 0) 8) 8) ∧ H b7 = some (.own 0 (rowU w 64) 64) ∧ H b8 = some (.own 0 (rowU (mixV k w hs i) 8) 8)) 64
    ⟨Heap.le_new (Heap.le_new le01 hb7 _) hb8 _, 0, rfl, by omega, by omega, by rw [Heap.set_ne n83, Heap.set_ne n73]; exact p3, by rw [Heap.set_ne n86, Heap.set_ne n76]; exact p6, by rw [Heap.set_ne (Ne.symm n87), Heap.set_self], Heap.set_self _ _ _⟩ ?_
  clear st7 st8 l3
  rintro m t H ⟨hle, i, rfl, hi, rfl, q3, q6, q7, q8⟩
  by_cases hlt : i < 64
  · have hi1 : (i : Int) < 64 := by omega
    have hi2 : (0 : Int) ≤ i := by omega
    have w1 : IntKind.i64.wrap ((i : Int) + 1) = ((i + 1 : Nat) : Int) := wrapN (by omega)
    have ki : hcell H ⟨bk, ok + i, none⟩ = some (.int .u32 (k i).toNat) := by
      rw [hcell_of (hcells_le hle kp) i (by omega)]
      simp [rowU, hlt]
    have wi := rowU_at q7 hlt
    have a0 := rowU_at q8 (show 0 < 8 by omega)
    have a1 := rowU_at q8 (show 1 < 8 by omega)
    have a2 := rowU_at q8 (show 2 < 8 by omega)
    have a3 := rowU_at q8 (show 3 < 8 by omega)
    have a4 := rowU_at q8 (show 4 < 8 by omega)
    have a5 := rowU_at q8 (show 5 < 8 by omega)
    have a6 := rowU_at q8 (show 6 < 8 by omega)
    have a7 := rowU_at q8 (show 7 < 8 by omega)
    have mx := mixX_row k w (mixV k w hs i) i
    have hv : mixV k w hs (i + 1) = mixX k w (mixV k w hs i) i := rfl
    generalize mixV k w hs i = v at a0 a1 a2 a3 a4 a5 a6 a7 mx hv q8
    simp only [mixT, mixR, mixM] at mx
    have st : ∀ us : List Value, rowU (mixX k w v i) 8 = us → storeV H 8 (.pointer (some ⟨b8, 0, none⟩)) (.agg us.toArray) = some (H.set b8 (.own 0 (rowU (mixX k w v i) 8) 8)) := fun us e => by
      rw [← e]; exact storeV_agg_at q8 (by omega) (rowU_len _ _) (rowU_one _ _) (rowU_len _ _) (by omega)
    have st := st _ mx
    simp -implicitDefEqProofs only [zB1,zB2,zB3,zB4,zB5,zB6,zB7,zB8,zB9,zB10,zB11,y00,y01,y02,y03,y04,y05,y06,y07,y08,y09,y0a,y0b,y0c,y0d,y0e,y0f,y0g,y0h,y0i,y0j,y0k,y0l,y0m,y0n,y0o,y0p,y0q,y0r,y0s,y0t,y0u,y0v,y0w,y0x,y0y,y0z,y10,y11,y12,y13,y14,y15,y16,y17,y18,y19,y1a,y1b,y1c,y1d,y1e,y1f,y1g,y1h,y1i,y1j,y1k,y1l,y1m,y1n,y1o,y1p,y1q,y1r,retO,retL,retV,z69,allV,allP,z6a,z6d,z6e,z6k,z6l,z6m,binV,eqV,unV,oOpt,reduceIte,reduceCtorEq,Nat.reduceEqDiff,Nat.reduceAdd,Nat.reduceMul,Nat.reduceLT,Nat.reduceSub,Int.reduceLT,Int.reduceLE,Int.reduceEq,Int.reduceNe,Int.reduceSub,Int.reduceAdd,Int.reduceMul,Int.reduceBEq,Int.reduceBNe,Int.reduceGT,Int.reduceGE,Nat.reduceGT,Int.reduceToNat,Int.reduceNeg,Nat.reduceLeDiff,Nat.reduceBEq,Nat.reduceBneDiff,Value.cells, hi1, hi2, a0, a4, Int.toNat_natCast]
    refine (sha_turn_c E _ _ 6 rfl (by omega) (by omega)).mono ?_
    rintro r H' ⟨rfl, rfl⟩
    simp -implicitDefEqProofs only [zB1,zB2,zB3,zB4,zB5,zB6,zB7,zB8,zB9,zB10,zB11,y00,y01,y02,y03,y04,y05,y06,y07,y08,y09,y0a,y0b,y0c,y0d,y0e,y0f,y0g,y0h,y0i,y0j,y0k,y0l,y0m,y0n,y0o,y0p,y0q,y0r,y0s,y0t,y0u,y0v,y0w,y0x,y0y,y0z,y10,y11,y12,y13,y14,y15,y16,y17,y18,y19,y1a,y1b,y1c,y1d,y1e,y1f,y1g,y1h,y1i,y1j,y1k,y1l,y1m,y1n,y1o,y1p,y1q,y1r,retO,retL,retV,z69,allV,allP,z6a,z6d,z6e,z6k,z6l,z6m,binV,eqV,unV,oOpt,reduceIte,reduceCtorEq,Nat.reduceEqDiff,Nat.reduceAdd,Nat.reduceMul,Nat.reduceLT,Nat.reduceSub,Int.reduceLT,Int.reduceLE,Int.reduceEq,Int.reduceNe,Int.reduceSub,Int.reduceAdd,Int.reduceMul,Int.reduceBEq,Int.reduceBNe,Int.reduceGT,Int.reduceGE,Nat.reduceGT,Int.reduceToNat,Int.reduceNeg,Nat.reduceLeDiff,Nat.reduceBEq,Nat.reduceBneDiff,Value.cells]
    refine (sha_turn_c E _ _ 11 rfl (by omega) (by omega)).mono ?_
    rintro r H' ⟨rfl, rfl⟩
    simp -implicitDefEqProofs only [zB1,zB2,zB3,zB4,zB5,zB6,zB7,zB8,zB9,zB10,zB11,y00,y01,y02,y03,y04,y05,y06,y07,y08,y09,y0a,y0b,y0c,y0d,y0e,y0f,y0g,y0h,y0i,y0j,y0k,y0l,y0m,y0n,y0o,y0p,y0q,y0r,y0s,y0t,y0u,y0v,y0w,y0x,y0y,y0z,y10,y11,y12,y13,y14,y15,y16,y17,y18,y19,y1a,y1b,y1c,y1d,y1e,y1f,y1g,y1h,y1i,y1j,y1k,y1l,y1m,y1n,y1o,y1p,y1q,y1r,retO,retL,retV,z69,allV,allP,z6a,z6d,z6e,z6k,z6l,z6m,binV,eqV,unV,oOpt,reduceIte,reduceCtorEq,Nat.reduceEqDiff,Nat.reduceAdd,Nat.reduceMul,Nat.reduceLT,Nat.reduceSub,Int.reduceLT,Int.reduceLE,Int.reduceEq,Int.reduceNe,Int.reduceSub,Int.reduceAdd,Int.reduceMul,Int.reduceBEq,Int.reduceBNe,Int.reduceGT,Int.reduceGE,Nat.reduceGT,Int.reduceToNat,Int.reduceNeg,Nat.reduceLeDiff,Nat.reduceBEq,Nat.reduceBneDiff,Value.cells, u32_xor]
    refine (sha_turn_c E _ _ 25 rfl (by omega) (by omega)).mono ?_
    rintro r H' ⟨rfl, rfl⟩
    simp -implicitDefEqProofs only [zB1,zB2,zB3,zB4,zB5,zB6,zB7,zB8,zB9,zB10,zB11,y00,y01,y02,y03,y04,y05,y06,y07,y08,y09,y0a,y0b,y0c,y0d,y0e,y0f,y0g,y0h,y0i,y0j,y0k,y0l,y0m,y0n,y0o,y0p,y0q,y0r,y0s,y0t,y0u,y0v,y0w,y0x,y0y,y0z,y10,y11,y12,y13,y14,y15,y16,y17,y18,y19,y1a,y1b,y1c,y1d,y1e,y1f,y1g,y1h,y1i,y1j,y1k,y1l,y1m,y1n,y1o,y1p,y1q,y1r,retO,retL,retV,z69,allV,allP,z6a,z6d,z6e,z6k,z6l,z6m,binV,eqV,unV,oOpt,reduceIte,reduceCtorEq,Nat.reduceEqDiff,Nat.reduceAdd,Nat.reduceMul,Nat.reduceLT,Nat.reduceSub,Int.reduceLT,Int.reduceLE,Int.reduceEq,Int.reduceNe,Int.reduceSub,Int.reduceAdd,Int.reduceMul,Int.reduceBEq,Int.reduceBNe,Int.reduceGT,Int.reduceGE,Nat.reduceGT,Int.reduceToNat,Int.reduceNeg,Nat.reduceLeDiff,Nat.reduceBEq,Nat.reduceBneDiff,Value.cells, u32_xor, u32_and, u32_not, u32_add, a5, a6, a7, ki, wi, hi1, hi2, Int.toNat_natCast]
    refine (sha_turn_c E _ _ 2 rfl (by omega) (by omega)).mono ?_
    rintro r H' ⟨rfl, rfl⟩
    simp -implicitDefEqProofs only [zB1,zB2,zB3,zB4,zB5,zB6,zB7,zB8,zB9,zB10,zB11,y00,y01,y02,y03,y04,y05,y06,y07,y08,y09,y0a,y0b,y0c,y0d,y0e,y0f,y0g,y0h,y0i,y0j,y0k,y0l,y0m,y0n,y0o,y0p,y0q,y0r,y0s,y0t,y0u,y0v,y0w,y0x,y0y,y0z,y10,y11,y12,y13,y14,y15,y16,y17,y18,y19,y1a,y1b,y1c,y1d,y1e,y1f,y1g,y1h,y1i,y1j,y1k,y1l,y1m,y1n,y1o,y1p,y1q,y1r,retO,retL,retV,z69,allV,allP,z6a,z6d,z6e,z6k,z6l,z6m,binV,eqV,unV,oOpt,reduceIte,reduceCtorEq,Nat.reduceEqDiff,Nat.reduceAdd,Nat.reduceMul,Nat.reduceLT,Nat.reduceSub,Int.reduceLT,Int.reduceLE,Int.reduceEq,Int.reduceNe,Int.reduceSub,Int.reduceAdd,Int.reduceMul,Int.reduceBEq,Int.reduceBNe,Int.reduceGT,Int.reduceGE,Nat.reduceGT,Int.reduceToNat,Int.reduceNeg,Nat.reduceLeDiff,Nat.reduceBEq,Nat.reduceBneDiff,Value.cells]
    refine (sha_turn_c E _ _ 13 rfl (by omega) (by omega)).mono ?_
    rintro r H' ⟨rfl, rfl⟩
    simp -implicitDefEqProofs only [zB1,zB2,zB3,zB4,zB5,zB6,zB7,zB8,zB9,zB10,zB11,y00,y01,y02,y03,y04,y05,y06,y07,y08,y09,y0a,y0b,y0c,y0d,y0e,y0f,y0g,y0h,y0i,y0j,y0k,y0l,y0m,y0n,y0o,y0p,y0q,y0r,y0s,y0t,y0u,y0v,y0w,y0x,y0y,y0z,y10,y11,y12,y13,y14,y15,y16,y17,y18,y19,y1a,y1b,y1c,y1d,y1e,y1f,y1g,y1h,y1i,y1j,y1k,y1l,y1m,y1n,y1o,y1p,y1q,y1r,retO,retL,retV,z69,allV,allP,z6a,z6d,z6e,z6k,z6l,z6m,binV,eqV,unV,oOpt,reduceIte,reduceCtorEq,Nat.reduceEqDiff,Nat.reduceAdd,Nat.reduceMul,Nat.reduceLT,Nat.reduceSub,Int.reduceLT,Int.reduceLE,Int.reduceEq,Int.reduceNe,Int.reduceSub,Int.reduceAdd,Int.reduceMul,Int.reduceBEq,Int.reduceBNe,Int.reduceGT,Int.reduceGE,Nat.reduceGT,Int.reduceToNat,Int.reduceNeg,Nat.reduceLeDiff,Nat.reduceBEq,Nat.reduceBneDiff,Value.cells, u32_xor]
    refine (sha_turn_c E _ _ 22 rfl (by omega) (by omega)).mono ?_
    rintro r H' ⟨rfl, rfl⟩
    simp -implicitDefEqProofs only [zB1,zB2,zB3,zB4,zB5,zB6,zB7,zB8,zB9,zB10,zB11,y00,y01,y02,y03,y04,y05,y06,y07,y08,y09,y0a,y0b,y0c,y0d,y0e,y0f,y0g,y0h,y0i,y0j,y0k,y0l,y0m,y0n,y0o,y0p,y0q,y0r,y0s,y0t,y0u,y0v,y0w,y0x,y0y,y0z,y10,y11,y12,y13,y14,y15,y16,y17,y18,y19,y1a,y1b,y1c,y1d,y1e,y1f,y1g,y1h,y1i,y1j,y1k,y1l,y1m,y1n,y1o,y1p,y1q,y1r,retO,retL,retV,z69,allV,allP,z6a,z6d,z6e,z6k,z6l,z6m,binV,eqV,unV,oOpt,reduceIte,reduceCtorEq,Nat.reduceEqDiff,Nat.reduceAdd,Nat.reduceMul,Nat.reduceLT,Nat.reduceSub,Int.reduceLT,Int.reduceLE,Int.reduceEq,Int.reduceNe,Int.reduceSub,Int.reduceAdd,Int.reduceMul,Int.reduceBEq,Int.reduceBNe,Int.reduceGT,Int.reduceGE,Nat.reduceGT,Int.reduceToNat,Int.reduceNeg,Nat.reduceLeDiff,Nat.reduceBEq,Nat.reduceBneDiff,Value.cells, u32_xor, u32_and, u32_add, a0, a1, a2, a3, a4, a5, a6, Int.toNat_natCast, List.drop_replicate, List.replicate_zero, List.length_replicate, st, w1]
    refine ⟨_, ?_, Heap.le_set hle hb8'' _, i + 1, rfl, hlt, rfl, by rw [Heap.set_ne n83]; exact q3, by rw [Heap.set_ne n86]; exact q6, by rw [Heap.set_ne (Ne.symm n87)]; exact q7, by rw [Heap.set_self, hv]⟩
    omega
  · have hi1 : ¬ (i : Int) < 64 := by omega
    have : i = 64 := by omega
    subst this
    simp -implicitDefEqProofs only [zB1,zB2,zB3,zB4,zB5,zB6,zB7,zB8,zB9,zB10,zB11,y00,y01,y02,y03,y04,y05,y06,y07,y08,y09,y0a,y0b,y0c,y0d,y0e,y0f,y0g,y0h,y0i,y0j,y0k,y0l,y0m,y0n,y0o,y0p,y0q,y0r,y0s,y0t,y0u,y0v,y0w,y0x,y0y,y0z,y10,y11,y12,y13,y14,y15,y16,y17,y18,y19,y1a,y1b,y1c,y1d,y1e,y1f,y1g,y1h,y1i,y1j,y1k,y1l,y1m,y1n,y1o,y1p,y1q,y1r,retO,retL,retV,z69,allV,allP,z6a,z6d,z6e,z6k,z6l,z6m,binV,eqV,unV,oOpt,reduceIte,reduceCtorEq,Nat.reduceEqDiff,Nat.reduceAdd,Nat.reduceMul,Nat.reduceLT,Nat.reduceSub,Int.reduceLT,Int.reduceLE,Int.reduceEq,Int.reduceNe,Int.reduceSub,Int.reduceAdd,Int.reduceMul,Int.reduceBEq,Int.reduceBNe,Int.reduceGT,Int.reduceGE,Nat.reduceGT,Int.reduceToNat,Int.reduceNeg,Nat.reduceLeDiff,Nat.reduceBEq,Nat.reduceBneDiff,Value.cells, hi1]
    have hV : mixF k hs b = fun j => hs j + mixV k w hs 64 j := by rw [← hw]; rfl
    rw [hV]
    generalize mixV k w hs 64 = V at q8
    refine wp_loop' (fun m t H => h.le H ∧ ∃ (i : Nat), t = tl [(3, .pointer (some ⟨b3, 0, none⟩)), (6, .pointer (some ⟨b6, 0, none⟩)), (8, .pointer (some ⟨b8, 0, none⟩)), (108, .int .i64 i)] ∧ i ≤ 8 ∧ m = 8 - i ∧
        H b3 = some (.own 0 (rowU (fun j => if j < i then hs j + V j else hs j) 8) 8) ∧ H b6 = some (.own 0 (rowU (fun _ => 0) 8) 8) ∧ H b8 = some (.own 0 (rowU V 8) 8)) 8
      ⟨hle, 0, rfl, by omega, by omega, by rw [q3]; rfl, q6, q8⟩ ?_
    clear hle q3 q6 q7 q8 hi1
    rintro m t H ⟨hle, i, rfl, hi, rfl, q3, q6, q8⟩
    by_cases hlt : i < 8
    · have hi1 : (i : Int) < 8 := by omega
      have hi2 : (0 : Int) ≤ i := by omega
      have w1 : IntKind.i64.wrap ((i : Int) + 1) = ((i + 1 : Nat) : Int) := wrapN (by omega)
      have a3 := rowU_at q3 hlt
      have a8 := rowU_at q8 hlt
      have st := rowU_store (z := hs i + V i) q3 hlt
      rw [if_neg (by omega)] at a3
      have e : rowU (updU (fun j => if j < i then hs j + V j else hs j) i (hs i + V i)) 8 = rowU (fun j => if j < i + 1 then hs j + V j else hs j) 8 := by
        apply rowU_congr
        intro j hj
        unfold updU
        by_cases e1 : j = i
        · subst e1; simp
        · rw [if_neg e1]
          by_cases e2 : j < i
          · simp only [e2, if_true]; rw [if_pos (by omega)]
          · simp only [e2, if_false]; rw [if_neg (by omega)]
      rw [e] at st
      simp -implicitDefEqProofs only [zB1,zB2,zB3,zB4,zB5,zB6,zB7,zB8,zB9,zB10,zB11,y00,y01,y02,y03,y04,y05,y06,y07,y08,y09,y0a,y0b,y0c,y0d,y0e,y0f,y0g,y0h,y0i,y0j,y0k,y0l,y0m,y0n,y0o,y0p,y0q,y0r,y0s,y0t,y0u,y0v,y0w,y0x,y0y,y0z,y10,y11,y12,y13,y14,y15,y16,y17,y18,y19,y1a,y1b,y1c,y1d,y1e,y1f,y1g,y1h,y1i,y1j,y1k,y1l,y1m,y1n,y1o,y1p,y1q,y1r,retO,retL,retV,z69,allV,allP,z6a,z6d,z6e,z6k,z6l,z6m,binV,eqV,unV,oOpt,reduceIte,reduceCtorEq,Nat.reduceEqDiff,Nat.reduceAdd,Nat.reduceMul,Nat.reduceLT,Nat.reduceSub,Int.reduceLT,Int.reduceLE,Int.reduceEq,Int.reduceNe,Int.reduceSub,Int.reduceAdd,Int.reduceMul,Int.reduceBEq,Int.reduceBNe,Int.reduceGT,Int.reduceGE,Nat.reduceGT,Int.reduceToNat,Int.reduceNeg,Nat.reduceLeDiff,Nat.reduceBEq,Nat.reduceBneDiff,Value.cells, hi1, hi2, a3, a8, u32_add, Int.toNat_natCast, st, w1]
      refine ⟨_, ?_, Heap.le_set hle hb3 _, i + 1, rfl, hlt, rfl, Heap.set_self _ _ _, by rw [Heap.set_ne n63]; exact q6, by rw [Heap.set_ne (Ne.symm n83)]; exact q8⟩
      omega
    · have hi1 : ¬ (i : Int) < 8 := by omega
      have : i = 8 := by omega
      subst this
      have e : rowU (fun j => if j < 8 then hs j + V j else hs j) 8 = rowU (fun j => hs j + V j) 8 := rowU_congr fun j hj => if_pos hj
      rw [e] at q3
      have hl := rowU_cells q3
      have st : storeV H 8 (.pointer (some ⟨b6, 0, none⟩)) (.agg (rowU (fun j => hs j + V j) 8).toArray) = some (H.set b6 (.own 0 (rowU (fun j => hs j + V j) 8) 8)) := storeV_agg_at q6 (by omega) (rowU_len _ _) (rowU_one _ _) (rowU_len _ _) (by omega)
      have hl2 : hcells (H.set b6 (.own 0 (rowU (fun j => hs j + V j) 8) 8)) ⟨b6, 0, none⟩ 8 = some (rowU (fun j => hs j + V j) 8) := z6o (rowU_len _ _)
      simp -implicitDefEqProofs only [zB1,zB2,zB3,zB4,zB5,zB6,zB7,zB8,zB9,zB10,zB11,y00,y01,y02,y03,y04,y05,y06,y07,y08,y09,y0a,y0b,y0c,y0d,y0e,y0f,y0g,y0h,y0i,y0j,y0k,y0l,y0m,y0n,y0o,y0p,y0q,y0r,y0s,y0t,y0u,y0v,y0w,y0x,y0y,y0z,y10,y11,y12,y13,y14,y15,y16,y17,y18,y19,y1a,y1b,y1c,y1d,y1e,y1f,y1g,y1h,y1i,y1j,y1k,y1l,y1m,y1n,y1o,y1p,y1q,y1r,retO,retL,retV,z69,allV,allP,z6a,z6d,z6e,z6k,z6l,z6m,binV,eqV,unV,oOpt,reduceIte,reduceCtorEq,Nat.reduceEqDiff,Nat.reduceAdd,Nat.reduceMul,Nat.reduceLT,Nat.reduceSub,Int.reduceLT,Int.reduceLE,Int.reduceEq,Int.reduceNe,Int.reduceSub,Int.reduceAdd,Int.reduceMul,Int.reduceBEq,Int.reduceBNe,Int.reduceGT,Int.reduceGE,Nat.reduceGT,Int.reduceToNat,Int.reduceNeg,Nat.reduceLeDiff,Nat.reduceBEq,Nat.reduceBneDiff,Value.cells, hi1, hl, st, hl2]
      exact Heap.le_set hle hb6' _
end Go.Bb
/- Contracts: streams of keys: turns, quarters. -/
namespace Go.Bb
set_option linter.unusedSimpArgs false
set_option linter.unusedVariables false
set_option maxRecDepth 20000
set_option maxHeartbeats 2000000

theorem rotl_m : ∀ n : Nat, n < 32 → 1 ≤ n → (BitVec.ofInt 64 (n : Int) &&& BitVec.ofNat 64 31).toNat = n := by decide
theorem RotL_c (E : EnvT tab) (h : Heap) (x : U32) (n : Nat) {z : Int} (hz : z = n) (h1 : 1 ≤ n) (h2 : n ≤ 31) : ACallN E.toEnv n_math_bits_RotateLeft32 [.int .u32 x.toNat, .int .i64 z] h fun r h' => h' = h ∧ r = .int .u32 (rotF x n).toNat := by
  subst hz
  refine acall h_math_bits_RotateLeft32 ir_math_bits_RotateLeft32 rfl rfl (wpA_sound ?_)
  unfold ir_math_bits_RotateLeft32
  have w1 : IntKind.u64.wrap (n : Int) = ((BitVec.ofInt 64 (n : Int)).toNat : Int) := wrap_u64 _
  have w2 : IntKind.u64.wrap ((BitVec.ofInt IntKind.u64.bits ((BitVec.ofInt 64 (n : Int)).toNat : Int) &&& BitVec.ofInt IntKind.u64.bits 31).toNat : Int) = (n : Int) := by
    have := u64_and (BitVec.ofInt 64 (n : Int)) (BitVec.ofNat 64 31)
    rw [rotl_m n (by omega) h1] at this
    exact this
  have w3 : IntKind.u64.wrap (32 - (n : Int)) = ((32 - n : Nat) : Int) := by
    have : (32 - (n : Int)) = ((32 - n : Nat) : Int) := by omega
    rw [this]; exact wrap_u64l (by omega)
  have n1 : ¬ ((n : Int) < 0) := by omega
  have n2 : ¬ (((32 - n : Nat) : Int) < 0) := by omega
  have s1 : IntKind.u32.wrap ((x.toNat : Int) * 2 ^ (min n IntKind.u32.bits)) = ((x <<< n).toNat : Int) := u32_shl x n (by omega)
  have s2 : ((x.toNat : Int).fdiv (2 ^ (min (32 - n) IntKind.u32.bits))) = ((x >>> (32 - n)).toNat : Int) := u32_shr x (32 - n) (by omega)
  have e : rotF x n = x <<< n ||| x >>> (32 - n) := by unfold rotF turnF; rw [show 32 - (32 - n) = n by omega]
  rw [e]
  simp -implicitDefEqProofs only [zB1,zB2,zB3,zB4,zB5,zB6,zB7,zB8,zB9,zB10,zB11,y00,y01,y02,y03,y04,y05,y06,y07,y08,y09,y0a,y0b,y0c,y0d,y0e,y0f,y0g,y0h,y0i,y0j,y0k,y0l,y0m,y0n,y0o,y0p,y0q,y0r,y0s,y0t,y0u,y0v,y0w,y0x,y0y,y0z,y10,y11,y12,y13,y14,y15,y16,y17,y18,y19,y1a,y1b,y1c,y1d,y1e,y1f,y1g,y1h,y1i,y1j,y1k,y1l,y1m,y1n,y1o,y1p,y1q,y1r,retO,retL,retV,z69,allV,allP,z6a,z6d,z6e,z6k,z6l,z6m,binV,eqV,unV,oOpt,reduceIte,reduceCtorEq,Nat.reduceEqDiff,Nat.reduceAdd,Nat.reduceMul,Nat.reduceLT,Nat.reduceSub,Int.reduceLT,Int.reduceLE,Int.reduceEq,Int.reduceNe,Int.reduceSub,Int.reduceAdd,Int.reduceMul,Int.reduceBEq,Int.reduceBNe,Int.reduceGT,Int.reduceGE,Nat.reduceGT,Int.reduceToNat,Int.reduceNeg,Nat.reduceLeDiff,Nat.reduceBEq,Nat.reduceBneDiff,Value.cells, w1, w2, w3, n1, n2, Int.toNat_natCast, s1, s2, u32_or]
theorem ref4_left_c (E : EnvT tab) (h : Heap) (x : U32) (n : Nat) {z : Int} (hz : z = n) (h1 : 1 ≤ n) (h2 : n ≤ 31) : ACallN E.toEnv n_bandboxref4_left [.int .u32 x.toNat, .int .u64 z] h fun r h' => h' = h ∧ r = .int .u32 (rotF x n).toNat := by
  subst hz
  refine acall h_bandboxref4_left ir_bandboxref4_left rfl rfl (wpA_sound ?_)
  unfold ir_bandboxref4_left
  have w3 : IntKind.u64.wrap (32 - (n : Int)) = ((32 - n : Nat) : Int) := by
    have : (32 - (n : Int)) = ((32 - n : Nat) : Int) := by omega
    rw [this]; exact wrap_u64l (by omega)
  have n1 : ¬ ((n : Int) < 0) := by omega
  have n2 : ¬ (((32 - n : Nat) : Int) < 0) := by omega
  have s1 : IntKind.u32.wrap ((x.toNat : Int) * 2 ^ (min n IntKind.u32.bits)) = ((x <<< n).toNat : Int) := u32_shl x n (by omega)
  have s2 : ((x.toNat : Int).fdiv (2 ^ (min (32 - n) IntKind.u32.bits))) = ((x >>> (32 - n)).toNat : Int) := u32_shr x (32 - n) (by omega)
  have e : rotF x n = x <<< n ||| x >>> (32 - n) := by unfold rotF turnF; rw [show 32 - (32 - n) = n by omega]
  rw [e]
  simp -implicitDefEqProofs only [zB1,zB2,zB3,zB4,zB5,zB6,zB7,zB8,zB9,zB10,zB11,y00,y01,y02,y03,y04,y05,y06,y07,y08,y09,y0a,y0b,y0c,y0d,y0e,y0f,y0g,y0h,y0i,y0j,y0k,y0l,y0m,y0n,y0o,y0p,y0q,y0r,y0s,y0t,y0u,y0v,y0w,y0x,y0y,y0z,y10,y11,y12,y13,y14,y15,y16,y17,y18,y19,y1a,y1b,y1c,y1d,y1e,y1f,y1g,y1h,y1i,y1j,y1k,y1l,y1m,y1n,y1o,y1p,y1q,y1r,retO,retL,retV,z69,allV,allP,z6a,z6d,z6e,z6k,z6l,z6m,binV,eqV,unV,oOpt,reduceIte,reduceCtorEq,Nat.reduceEqDiff,Nat.reduceAdd,Nat.reduceMul,Nat.reduceLT,Nat.reduceSub,Int.reduceLT,Int.reduceLE,Int.reduceEq,Int.reduceNe,Int.reduceSub,Int.reduceAdd,Int.reduceMul,Int.reduceBEq,Int.reduceBNe,Int.reduceGT,Int.reduceGE,Nat.reduceGT,Int.reduceToNat,Int.reduceNeg,Nat.reduceLeDiff,Nat.reduceBEq,Nat.reduceBneDiff,Value.cells, w3, n1, n2, Int.toNat_natCast, s1, s2, u32_or]
theorem chacha_Quarter_c (E : EnvT tab) (h : Heap) (a b c d : U32) : ACallN E.toEnv n_chacha_Quarter [.int .u32 a.toNat, .int .u32 b.toNat, .int .u32 c.toNat, .int .u32 d.toNat] h fun r h' => h' = h ∧ r = (quarF ⟨a, b, c, d⟩).V := by
  refine acall h_chacha_Quarter ir_chacha_Quarter rfl rfl (wpA_sound ?_)
  unfold ir_chacha_Quarter
  simp -implicitDefEqProofs only [zB1,zB2,zB3,zB4,zB5,zB6,zB7,zB8,zB9,zB10,zB11,y00,y01,y02,y03,y04,y05,y06,y07,y08,y09,y0a,y0b,y0c,y0d,y0e,y0f,y0g,y0h,y0i,y0j,y0k,y0l,y0m,y0n,y0o,y0p,y0q,y0r,y0s,y0t,y0u,y0v,y0w,y0x,y0y,y0z,y10,y11,y12,y13,y14,y15,y16,y17,y18,y19,y1a,y1b,y1c,y1d,y1e,y1f,y1g,y1h,y1i,y1j,y1k,y1l,y1m,y1n,y1o,y1p,y1q,y1r,retO,retL,retV,z69,allV,allP,z6a,z6d,z6e,z6k,z6l,z6m,binV,eqV,unV,oOpt,reduceIte,reduceCtorEq,Nat.reduceEqDiff,Nat.reduceAdd,Nat.reduceMul,Nat.reduceLT,Nat.reduceSub,Int.reduceLT,Int.reduceLE,Int.reduceEq,Int.reduceNe,Int.reduceSub,Int.reduceAdd,Int.reduceMul,Int.reduceBEq,Int.reduceBNe,Int.reduceGT,Int.reduceGE,Nat.reduceGT,Int.reduceToNat,Int.reduceNeg,Nat.reduceLeDiff,Nat.reduceBEq,Nat.reduceBneDiff,Value.cells, u32_add, u32_xor]
  refine (RotL_c E _ _ 16 rfl (by omega) (by omega)).mono ?_
  rintro r h' ⟨rfl, rfl⟩
  simp -implicitDefEqProofs only [zB1,zB2,zB3,zB4,zB5,zB6,zB7,zB8,zB9,zB10,zB11,y00,y01,y02,y03,y04,y05,y06,y07,y08,y09,y0a,y0b,y0c,y0d,y0e,y0f,y0g,y0h,y0i,y0j,y0k,y0l,y0m,y0n,y0o,y0p,y0q,y0r,y0s,y0t,y0u,y0v,y0w,y0x,y0y,y0z,y10,y11,y12,y13,y14,y15,y16,y17,y18,y19,y1a,y1b,y1c,y1d,y1e,y1f,y1g,y1h,y1i,y1j,y1k,y1l,y1m,y1n,y1o,y1p,y1q,y1r,retO,retL,retV,z69,allV,allP,z6a,z6d,z6e,z6k,z6l,z6m,binV,eqV,unV,oOpt,reduceIte,reduceCtorEq,Nat.reduceEqDiff,Nat.reduceAdd,Nat.reduceMul,Nat.reduceLT,Nat.reduceSub,Int.reduceLT,Int.reduceLE,Int.reduceEq,Int.reduceNe,Int.reduceSub,Int.reduceAdd,Int.reduceMul,Int.reduceBEq,Int.reduceBNe,Int.reduceGT,Int.reduceGE,Nat.reduceGT,Int.reduceToNat,Int.reduceNeg,Nat.reduceLeDiff,Nat.reduceBEq,Nat.reduceBneDiff,Value.cells, u32_add, u32_xor]
  refine (RotL_c E _ _ 12 rfl (by omega) (by omega)).mono ?_
  rintro r h' ⟨rfl, rfl⟩
  simp -implicitDefEqProofs only [zB1,zB2,zB3,zB4,zB5,zB6,zB7,zB8,zB9,zB10,zB11,y00,y01,y02,y03,y04,y05,y06,y07,y08,y09,y0a,y0b,y0c,y0d,y0e,y0f,y0g,y0h,y0i,y0j,y0k,y0l,y0m,y0n,y0o,y0p,y0q,y0r,y0s,y0t,y0u,y0v,y0w,y0x,y0y,y0z,y10,y11,y12,y13,y14,y15,y16,y17,y18,y19,y1a,y1b,y1c,y1d,y1e,y1f,y1g,y1h,y1i,y1j,y1k,y1l,y1m,y1n,y1o,y1p,y1q,y1r,retO,retL,retV,z69,allV,allP,z6a,z6d,z6e,z6k,z6l,z6m,binV,eqV,unV,oOpt,reduceIte,reduceCtorEq,Nat.reduceEqDiff,Nat.reduceAdd,Nat.reduceMul,Nat.reduceLT,Nat.reduceSub,Int.reduceLT,Int.reduceLE,Int.reduceEq,Int.reduceNe,Int.reduceSub,Int.reduceAdd,Int.reduceMul,Int.reduceBEq,Int.reduceBNe,Int.reduceGT,Int.reduceGE,Nat.reduceGT,Int.reduceToNat,Int.reduceNeg,Nat.reduceLeDiff,Nat.reduceBEq,Nat.reduceBneDiff,Value.cells, u32_add, u32_xor]
  unfold ir_chacha_Quarter_26
  simp -implicitDefEqProofs only [zB1,zB2,zB3,zB4,zB5,zB6,zB7,zB8,zB9,zB10,zB11,y00,y01,y02,y03,y04,y05,y06,y07,y08,y09,y0a,y0b,y0c,y0d,y0e,y0f,y0g,y0h,y0i,y0j,y0k,y0l,y0m,y0n,y0o,y0p,y0q,y0r,y0s,y0t,y0u,y0v,y0w,y0x,y0y,y0z,y10,y11,y12,y13,y14,y15,y16,y17,y18,y19,y1a,y1b,y1c,y1d,y1e,y1f,y1g,y1h,y1i,y1j,y1k,y1l,y1m,y1n,y1o,y1p,y1q,y1r,retO,retL,retV,z69,allV,allP,z6a,z6d,z6e,z6k,z6l,z6m,binV,eqV,unV,oOpt,reduceIte,reduceCtorEq,Nat.reduceEqDiff,Nat.reduceAdd,Nat.reduceMul,Nat.reduceLT,Nat.reduceSub,Int.reduceLT,Int.reduceLE,Int.reduceEq,Int.reduceNe,Int.reduceSub,Int.reduceAdd,Int.reduceMul,Int.reduceBEq,Int.reduceBNe,Int.reduceGT,Int.reduceGE,Nat.reduceGT,Int.reduceToNat,Int.reduceNeg,Nat.reduceLeDiff,Nat.reduceBEq,Nat.reduceBneDiff,Value.cells, u32_add, u32_xor]
  refine (RotL_c E _ _ 8 rfl (by omega) (by omega)).mono ?_
  rintro r h' ⟨rfl, rfl⟩
  simp -implicitDefEqProofs only [zB1,zB2,zB3,zB4,zB5,zB6,zB7,zB8,zB9,zB10,zB11,y00,y01,y02,y03,y04,y05,y06,y07,y08,y09,y0a,y0b,y0c,y0d,y0e,y0f,y0g,y0h,y0i,y0j,y0k,y0l,y0m,y0n,y0o,y0p,y0q,y0r,y0s,y0t,y0u,y0v,y0w,y0x,y0y,y0z,y10,y11,y12,y13,y14,y15,y16,y17,y18,y19,y1a,y1b,y1c,y1d,y1e,y1f,y1g,y1h,y1i,y1j,y1k,y1l,y1m,y1n,y1o,y1p,y1q,y1r,retO,retL,retV,z69,allV,allP,z6a,z6d,z6e,z6k,z6l,z6m,binV,eqV,unV,oOpt,reduceIte,reduceCtorEq,Nat.reduceEqDiff,Nat.reduceAdd,Nat.reduceMul,Nat.reduceLT,Nat.reduceSub,Int.reduceLT,Int.reduceLE,Int.reduceEq,Int.reduceNe,Int.reduceSub,Int.reduceAdd,Int.reduceMul,Int.reduceBEq,Int.reduceBNe,Int.reduceGT,Int.reduceGE,Nat.reduceGT,Int.reduceToNat,Int.reduceNeg,Nat.reduceLeDiff,Nat.reduceBEq,Nat.reduceBneDiff,Value.cells, u32_add, u32_xor]
  refine (RotL_c E _ _ 7 rfl (by omega) (by omega)).mono ?_
  rintro r h' ⟨rfl, rfl⟩
  simp -implicitDefEqProofs only [zB1,zB2,zB3,zB4,zB5,zB6,zB7,zB8,zB9,zB10,zB11,y00,y01,y02,y03,y04,y05,y06,y07,y08,y09,y0a,y0b,y0c,y0d,y0e,y0f,y0g,y0h,y0i,y0j,y0k,y0l,y0m,y0n,y0o,y0p,y0q,y0r,y0s,y0t,y0u,y0v,y0w,y0x,y0y,y0z,y10,y11,y12,y13,y14,y15,y16,y17,y18,y19,y1a,y1b,y1c,y1d,y1e,y1f,y1g,y1h,y1i,y1j,y1k,y1l,y1m,y1n,y1o,y1p,y1q,y1r,retO,retL,retV,z69,allV,allP,z6a,z6d,z6e,z6k,z6l,z6m,binV,eqV,unV,oOpt,reduceIte,reduceCtorEq,Nat.reduceEqDiff,Nat.reduceAdd,Nat.reduceMul,Nat.reduceLT,Nat.reduceSub,Int.reduceLT,Int.reduceLE,Int.reduceEq,Int.reduceNe,Int.reduceSub,Int.reduceAdd,Int.reduceMul,Int.reduceBEq,Int.reduceBNe,Int.reduceGT,Int.reduceGE,Nat.reduceGT,Int.reduceToNat,Int.reduceNeg,Nat.reduceLeDiff,Nat.reduceBEq,Nat.reduceBneDiff,Value.cells, u32_add, u32_xor]
  rfl
theorem ref4_Quarter_c (E : EnvT tab) (h : Heap) (a b c d : U32) : ACallN E.toEnv n_bandboxref4_Quarter [.int .u32 a.toNat, .int .u32 b.toNat, .int .u32 c.toNat, .int .u32 d.toNat] h fun r h' => h' = h ∧ r = (quarF ⟨a, b, c, d⟩).V := by
  refine acall h_bandboxref4_Quarter ir_bandboxref4_Quarter rfl rfl (wpA_sound ?_)
  unfold ir_bandboxref4_Quarter
  simp -implicitDefEqProofs only [zB1,zB2,zB3,zB4,zB5,zB6,zB7,zB8,zB9,zB10,zB11,y00,y01,y02,y03,y04,y05,y06,y07,y08,y09,y0a,y0b,y0c,y0d,y0e,y0f,y0g,y0h,y0i,y0j,y0k,y0l,y0m,y0n,y0o,y0p,y0q,y0r,y0s,y0t,y0u,y0v,y0w,y0x,y0y,y0z,y10,y11,y12,y13,y14,y15,y16,y17,y18,y19,y1a,y1b,y1c,y1d,y1e,y1f,y1g,y1h,y1i,y1j,y1k,y1l,y1m,y1n,y1o,y1p,y1q,y1r,retO,retL,retV,z69,allV,allP,z6a,z6d,z6e,z6k,z6l,z6m,binV,eqV,unV,oOpt,reduceIte,reduceCtorEq,Nat.reduceEqDiff,Nat.reduceAdd,Nat.reduceMul,Nat.reduceLT,Nat.reduceSub,Int.reduceLT,Int.reduceLE,Int.reduceEq,Int.reduceNe,Int.reduceSub,Int.reduceAdd,Int.reduceMul,Int.reduceBEq,Int.reduceBNe,Int.reduceGT,Int.reduceGE,Nat.reduceGT,Int.reduceToNat,Int.reduceNeg,Nat.reduceLeDiff,Nat.reduceBEq,Nat.reduceBneDiff,Value.cells, u32_add, u32_xor]
  refine (ref4_left_c E _ _ 16 rfl (by omega) (by omega)).mono ?_
  rintro r h' ⟨rfl, rfl⟩
  simp -implicitDefEqProofs only [zB1,zB2,zB3,zB4,zB5,zB6,zB7,zB8,zB9,zB10,zB11,y00,y01,y02,y03,y04,y05,y06,y07,y08,y09,y0a,y0b,y0c,y0d,y0e,y0f,y0g,y0h,y0i,y0j,y0k,y0l,y0m,y0n,y0o,y0p,y0q,y0r,y0s,y0t,y0u,y0v,y0w,y0x,y0y,y0z,y10,y11,y12,y13,y14,y15,y16,y17,y18,y19,y1a,y1b,y1c,y1d,y1e,y1f,y1g,y1h,y1i,y1j,y1k,y1l,y1m,y1n,y1o,y1p,y1q,y1r,retO,retL,retV,z69,allV,allP,z6a,z6d,z6e,z6k,z6l,z6m,binV,eqV,unV,oOpt,reduceIte,reduceCtorEq,Nat.reduceEqDiff,Nat.reduceAdd,Nat.reduceMul,Nat.reduceLT,Nat.reduceSub,Int.reduceLT,Int.reduceLE,Int.reduceEq,Int.reduceNe,Int.reduceSub,Int.reduceAdd,Int.reduceMul,Int.reduceBEq,Int.reduceBNe,Int.reduceGT,Int.reduceGE,Nat.reduceGT,Int.reduceToNat,Int.reduceNeg,Nat.reduceLeDiff,Nat.reduceBEq,Nat.reduceBneDiff,Value.cells, u32_add, u32_xor]
  refine (ref4_left_c E _ _ 12 rfl (by omega) (by omega)).mono ?_
  rintro r h' ⟨rfl, rfl⟩
  simp -implicitDefEqProofs only [zB1,zB2,zB3,zB4,zB5,zB6,zB7,zB8,zB9,zB10,zB11,y00,y01,y02,y03,y04,y05,y06,y07,y08,y09,y0a,y0b,y0c,y0d,y0e,y0f,y0g,y0h,y0i,y0j,y0k,y0l,y0m,y0n,y0o,y0p,y0q,y0r,y0s,y0t,y0u,y0v,y0w,y0x,y0y,y0z,y10,y11,y12,y13,y14,y15,y16,y17,y18,y19,y1a,y1b,y1c,y1d,y1e,y1f,y1g,y1h,y1i,y1j,y1k,y1l,y1m,y1n,y1o,y1p,y1q,y1r,retO,retL,retV,z69,allV,allP,z6a,z6d,z6e,z6k,z6l,z6m,binV,eqV,unV,oOpt,reduceIte,reduceCtorEq,Nat.reduceEqDiff,Nat.reduceAdd,Nat.reduceMul,Nat.reduceLT,Nat.reduceSub,Int.reduceLT,Int.reduceLE,Int.reduceEq,Int.reduceNe,Int.reduceSub,Int.reduceAdd,Int.reduceMul,Int.reduceBEq,Int.reduceBNe,Int.reduceGT,Int.reduceGE,Nat.reduceGT,Int.reduceToNat,Int.reduceNeg,Nat.reduceLeDiff,Nat.reduceBEq,Nat.reduceBneDiff,Value.cells, u32_add, u32_xor]
  unfold ir_bandboxref4_Quarter_26
  simp -implicitDefEqProofs only [zB1,zB2,zB3,zB4,zB5,zB6,zB7,zB8,zB9,zB10,zB11,y00,y01,y02,y03,y04,y05,y06,y07,y08,y09,y0a,y0b,y0c,y0d,y0e,y0f,y0g,y0h,y0i,y0j,y0k,y0l,y0m,y0n,y0o,y0p,y0q,y0r,y0s,y0t,y0u,y0v,y0w,y0x,y0y,y0z,y10,y11,y12,y13,y14,y15,y16,y17,y18,y19,y1a,y1b,y1c,y1d,y1e,y1f,y1g,y1h,y1i,y1j,y1k,y1l,y1m,y1n,y1o,y1p,y1q,y1r,retO,retL,retV,z69,allV,allP,z6a,z6d,z6e,z6k,z6l,z6m,binV,eqV,unV,oOpt,reduceIte,reduceCtorEq,Nat.reduceEqDiff,Nat.reduceAdd,Nat.reduceMul,Nat.reduceLT,Nat.reduceSub,Int.reduceLT,Int.reduceLE,Int.reduceEq,Int.reduceNe,Int.reduceSub,Int.reduceAdd,Int.reduceMul,Int.reduceBEq,Int.reduceBNe,Int.reduceGT,Int.reduceGE,Nat.reduceGT,Int.reduceToNat,Int.reduceNeg,Nat.reduceLeDiff,Nat.reduceBEq,Nat.reduceBneDiff,Value.cells, u32_add, u32_xor]
  refine (ref4_left_c E _ _ 8 rfl (by omega) (by omega)).mono ?_
  rintro r h' ⟨rfl, rfl⟩
  simp -implicitDefEqProofs only [zB1,zB2,zB3,zB4,zB5,zB6,zB7,zB8,zB9,zB10,zB11,y00,y01,y02,y03,y04,y05,y06,y07,y08,y09,y0a,y0b,y0c,y0d,y0e,y0f,y0g,y0h,y0i,y0j,y0k,y0l,y0m,y0n,y0o,y0p,y0q,y0r,y0s,y0t,y0u,y0v,y0w,y0x,y0y,y0z,y10,y11,y12,y13,y14,y15,y16,y17,y18,y19,y1a,y1b,y1c,y1d,y1e,y1f,y1g,y1h,y1i,y1j,y1k,y1l,y1m,y1n,y1o,y1p,y1q,y1r,retO,retL,retV,z69,allV,allP,z6a,z6d,z6e,z6k,z6l,z6m,binV,eqV,unV,oOpt,reduceIte,reduceCtorEq,Nat.reduceEqDiff,Nat.reduceAdd,Nat.reduceMul,Nat.reduceLT,Nat.reduceSub,Int.reduceLT,Int.reduceLE,Int.reduceEq,Int.reduceNe,Int.reduceSub,Int.reduceAdd,Int.reduceMul,Int.reduceBEq,Int.reduceBNe,Int.reduceGT,Int.reduceGE,Nat.reduceGT,Int.reduceToNat,Int.reduceNeg,Nat.reduceLeDiff,Nat.reduceBEq,Nat.reduceBneDiff,Value.cells, u32_add, u32_xor]
  refine (ref4_left_c E _ _ 7 rfl (by omega) (by omega)).mono ?_
  rintro r h' ⟨rfl, rfl⟩
  simp -implicitDefEqProofs only [zB1,zB2,zB3,zB4,zB5,zB6,zB7,zB8,zB9,zB10,zB11,y00,y01,y02,y03,y04,y05,y06,y07,y08,y09,y0a,y0b,y0c,y0d,y0e,y0f,y0g,y0h,y0i,y0j,y0k,y0l,y0m,y0n,y0o,y0p,y0q,y0r,y0s,y0t,y0u,y0v,y0w,y0x,y0y,y0z,y10,y11,y12,y13,y14,y15,y16,y17,y18,y19,y1a,y1b,y1c,y1d,y1e,y1f,y1g,y1h,y1i,y1j,y1k,y1l,y1m,y1n,y1o,y1p,y1q,y1r,retO,retL,retV,z69,allV,allP,z6a,z6d,z6e,z6k,z6l,z6m,binV,eqV,unV,oOpt,reduceIte,reduceCtorEq,Nat.reduceEqDiff,Nat.reduceAdd,Nat.reduceMul,Nat.reduceLT,Nat.reduceSub,Int.reduceLT,Int.reduceLE,Int.reduceEq,Int.reduceNe,Int.reduceSub,Int.reduceAdd,Int.reduceMul,Int.reduceBEq,Int.reduceBNe,Int.reduceGT,Int.reduceGE,Nat.reduceGT,Int.reduceToNat,Int.reduceNeg,Nat.reduceLeDiff,Nat.reduceBEq,Nat.reduceBneDiff,Value.cells, u32_add, u32_xor]
  rfl
end Go.Bb
/- Arguments: bytes and words. -/
namespace Go.Bb
set_option linter.unusedSimpArgs false
set_option linter.unusedVariables false

theorem flatMap_single {α β : Type} (f : α → β) : ∀ L : List α, (L.flatMap fun x => [f x]) = L.map f
  | [] => rfl
  | x :: L => by simp [flatMap_single f L]
theorem u8V_of {n : Int} (h0 : 0 ≤ n) (h1 : n ≤ 255) : u8V (UInt8.ofNat n.toNat) = .int .u8 n := by
  unfold u8V
  have : (UInt8.ofNat n.toNat).toNat = n.toNat := by rw [UInt8.toNat_ofNat']; omega
  rw [this]; congr 1; omega
theorem ok_bytes {W : World} {v : Value} (h : Shp.ok W (.slice 1 (.int .u8)) v) : ∃ l : List UInt8, SlB (roHeap W) v l ∧ l.length ≤ 9223372036854775807 := by
  obtain ⟨L, h1, h2, h3⟩ := Shp.ok_rows (f := fun b : UInt8 => [u8V b]) (Pr := fun _ => True) (fun _ => rfl) (fun l hl => by
    obtain ⟨n, rfl, a, b⟩ := hl
    exact ⟨UInt8.ofNat n.toNat, by rw [u8V_of (by simpa [IntKind.min, IntKind.signed] using a) (by simpa [IntKind.max, IntKind.signed, IntKind.bits] using b)], trivial⟩) h
  refine ⟨L, ?_, h2⟩
  rw [flatMap_single] at h1
  exact h1
end Go.Bb
namespace Go.Bb
def byteOf : Value → UInt8
  | .int _ z => UInt8.ofNat z.toNat
  | _ => 0
theorem ok_array {W : World} {n : Nat} {v : Value} (h : Shp.ok W (.array n 1 (.int .u8)) v) : ∃ l : List UInt8, l.length = n ∧ v = .agg (l.map u8V).toArray := by
  obtain ⟨⟨h1, h2⟩, h3⟩ := h
  simp only [Shp.wide, if_true] at h3
  obtain ⟨cs, rfl⟩ := h3
  have hc : (Value.agg cs).cells = cs := rfl
  rw [hc] at h1 h2
  rw [Nat.mul_one] at h1
  refine ⟨cs.toList.map byteOf, by simpa using h1, ?_⟩
  congr 1
  apply Array.toList_inj.1
  simp only
  apply List.ext_getElem
  · simp
  · intro i a b
    have hi : i < n := by rw [← h1]; exact a
    obtain ⟨z, hz, z0, z1⟩ := h2 i hi
    rw [Nat.mul_one] at hz
    have e : cs.toList[i] = .int .u8 z := by
      have h4 : ((cs.toList.drop i).take 1)[0]? = some (.int .u8 z) := by rw [hz]; rfl
      rw [List.getElem?_take, if_pos (by omega), List.getElem?_drop, Nat.add_zero, List.getElem?_eq_getElem a] at h4
      exact Option.some.inj h4
    rw [e]
    simp only [List.getElem_map]
    rw [e]
    exact (u8V_of (by simpa [IntKind.min, IntKind.signed] using z0) (by simpa [IntKind.max, IntKind.signed, IntKind.bits] using z1)).symm
end Go.Bb
/- Arguments: slices of slices of bytes, texts. -/
namespace Go.Bb
set_option linter.unusedSimpArgs false
set_option linter.unusedVariables false

theorem ok_bytesL {W : World} {v : Value} (h : Shp.ok W (.slice 1 (.slice 1 (.int .u8))) v) : ∃ L : List (List UInt8), SlL (roHeap W) v L ∧ L.length ≤ 9223372036854775807 ∧ ∀ l ∈ L, l.length ≤ 9223372036854775807 := by
  obtain ⟨X, h1, h2, h3⟩ := Shp.ok_rows (α := Value × List UInt8) (f := fun x => [x.1]) (Pr := fun x => SlB (roHeap W) x.1 x.2 ∧ x.2.length ≤ 9223372036854775807) (fun _ => rfl) (fun l hl => by
    have key : ∀ u : Value, l = [u] → u.cells.toList = [u] → one u = true → ∃ x : Value × List UInt8, l = [x.1] ∧ SlB (roHeap W) x.1 x.2 ∧ x.2.length ≤ 9223372036854775807 := by
      intro u e ec eo
      obtain ⟨b, g1, g2⟩ := ok_bytes (W := W) (v := u) ⟨by rw [ec, ← e]; exact hl, eo⟩
      exact ⟨(u, b), e, g1, g2⟩
    rcases hl with e | ⟨a, len, cap, e, _⟩
    · exact key _ e rfl rfl
    · exact key _ e rfl rfl) h
  rw [flatMap_single] at h1
  refine ⟨X.map (·.2), ⟨X.map (·.1), by simp, by rw [List.length_map]; exact h1, ?_⟩, by simpa using h2, ?_⟩
  · intro i a b
    have hi : i < X.length := by simpa using a
    have := (h3 X[i] (List.getElem_mem hi)).1
    simpa using this
  · intro l hl
    obtain ⟨x, hx, rfl⟩ := List.mem_map.1 hl
    exact (h3 x hx).2
theorem ok_text {W : World} {v : Value} (h : Shp.ok W .str v) : ∃ l : List UInt8, v = strV l ∧ l.length ≤ 9223372036854775807 := by
  obtain ⟨s, rfl, hs⟩ := Shp.ok_str h
  exact ⟨s.data.toList, by simp [strV], by simpa using hs⟩
/-- A part of what is read, at its place. -/
theorem SlL.part {h : Heap} {base : Option Addr} {c : Nat} {L : List (List UInt8)} (s : SlL h (.slice base L.length c) L) (i : Nat) (hi : i < L.length) :
    ∃ b o u bi ci, base = some ⟨b, o, none⟩ ∧ u = .slice bi L[i].length ci ∧ SlB h u L[i] ∧ ∀ H, h.le H → hcell H ⟨b, o + i, none⟩ = some u := by
  obtain ⟨vs, hvs, sl, el⟩ := s
  obtain ⟨b, o, c', hv, hc, hcl⟩ := sl.ptr (by omega) (by omega)
  simp only [Value.slice.injEq, true_and] at hv
  obtain ⟨rfl, rfl⟩ := hv
  rw [Nat.mul_one] at hcl
  obtain ⟨bi, ci, e⟩ := Sl.shape (el i (by omega) hi)
  refine ⟨b, o, vs[i]'(by omega), bi, ci, rfl, e, el i (by omega) hi, fun H hH => ?_⟩
  rw [hcell_of (hcells_le hH hcl) i hi]; simp [hvs, hi]
theorem SlL.shape {h : Heap} {v : Value} {L : List (List UInt8)} (s : SlL h v L) : ∃ base c, v = .slice base L.length c := by
  obtain ⟨vs, hvs, sl, el⟩ := s
  exact Sl.shape sl
theorem flat_take (L : List (List UInt8)) (i : Nat) : (L.take i).flatten.length ≤ L.flatten.length := by
  have : L.flatten = (L.take i).flatten ++ (L.drop i).flatten := by rw [← List.flatten_append, List.take_append_drop]
  rw [this, List.length_append]; omega
theorem flat_succ (L : List (List UInt8)) (i : Nat) (hi : i < L.length) : (L.take (i + 1)).flatten = (L.take i).flatten ++ L[i] := by rw [List.take_succ_eq_append_getElem hi, List.flatten_append]; simp
theorem flat_bound {L : List (List UInt8)} {m : Nat} (h : ∀ l ∈ L, l.length ≤ m) : L.flatten.length ≤ L.length * m := by
  induction L with
  | nil => simp
  | cons a L ih =>
    have := ih fun l hl => h l (by simp [hl])
    have := h a (by simp)
    simp only [List.flatten_cons, List.length_append, List.length_cons, Nat.succ_mul]
    omega
theorem SlL.lit1 {H : Heap} {b : Nat} (hb : H b = none) {u : Value} {l : List UInt8} (s : SlB H u l) : SlL (H.set b (.own 0 [u] 1)) (.slice (some ⟨b, 0, none⟩) 1 1) [l] := by
  refine ⟨[u], rfl, Sl.lit (n := 1) rfl, ?_⟩
  intro i x y
  match i, x, y with
  | 0, _, _ => exact Sl.le (Heap.le_new (Heap.le_refl _) hb _) s
theorem SlL.lit2 {H : Heap} {b : Nat} (hb : H b = none) {u v : Value} {l m : List UInt8} (s : SlB H u l) (t : SlB H v m) : SlL (H.set b (.own 0 [u, v] 2)) (.slice (some ⟨b, 0, none⟩) 2 2) [l, m] := by
  refine ⟨[u, v], rfl, Sl.lit (n := 2) rfl, ?_⟩
  intro i x y
  match i, x, y with
  | 0, _, _ => exact Sl.le (Heap.le_new (Heap.le_refl _) hb _) s
  | 1, _, _ => exact Sl.le (Heap.le_new (Heap.le_refl _) hb _) t
theorem rep_u8 (n : Nat) : (List.replicate n [Value.int .u8 0]).flatten = (List.replicate n (0 : UInt8)).map u8V := by
  induction n with
  | zero => rfl
  | succ n ih => rw [List.replicate_succ, List.flatten_cons, ih, List.replicate_succ, List.map_cons]; rfl
/-- One byte more. -/
theorem app1 {h0 H : Heap} {b1 : Nat} {v : Value} {l : List UInt8} {x : UInt8} {K : Value → Heap → Prop} (leH : h0.le H) (hb1 : H b1 = none) (ow : OwB h0 H v l) (hl : l.length ≤ 140737488355000)
    (hk : ∀ v' H', OwB h0 H' v' (l ++ [x]) → h0.le H' → K v' H') : appendP 1 1 (H.set b1 (.own 0 [.int .u8 (x.toNat : Int)] 1)) v (.slice (some ⟨b1, 0, none⟩) 1 1) K := by
  refine appendP_ow (bytes := 1) (m := 1) (news := [u8V x]) (Heap.le_new leH hb1 _) (by omega) (ow.le (Heap.le_set (Heap.le_refl _) hb1 _)) (Sl.lit (n := 1) rfl) rfl (by omega) (by omega) ?_
  intro v3 H3 ow3 le3
  refine hk v3 H3 ?_ le3
  unfold OwB
  rw [List.length_append, List.map_append]
  exact ow3
theorem u8_xorB (b c : UInt8) : IntKind.u8.wrap ((BitVec.ofInt IntKind.u8.bits (b.toNat : Int) ^^^ BitVec.ofInt IntKind.u8.bits (c.toNat : Int)).toNat : Int) = ((b ^^^ c).toNat : Int) := by
  rw [show IntKind.u8.bits = 8 from rfl, wrap_u8]
  simp only [ofInt_nat]
  congr 1
  simp [UInt8.toNat_xor]
theorem u8_or (b c : UInt8) : IntKind.u8.wrap ((BitVec.ofInt IntKind.u8.bits (b.toNat : Int) ||| BitVec.ofInt IntKind.u8.bits (c.toNat : Int)).toNat : Int) = ((b ||| c).toNat : Int) := by
  rw [show IntKind.u8.bits = 8 from rfl, wrap_u8]
  simp only [ofInt_nat]
  congr 1
  simp [UInt8.toNat_or]
def xorB (a b : List UInt8) : List UInt8 := List.zipWith (fun x y => x ^^^ y) a b
theorem xorB_len (a b : List UInt8) : (xorB a b).length = min a.length b.length := by simp [xorB]
theorem xorB_take (a b : List UInt8) (i : Nat) (ha : i < a.length) (hb : i < b.length) : (xorB a b).take (i + 1) = (xorB a b).take i ++ [a[i] ^^^ b[i]] := by
  have h : i < (xorB a b).length := by rw [xorB_len]; omega
  rw [List.take_succ_eq_append_getElem h]
  simp [xorB]
end Go.Bb
/- Contracts: streams of keys: mix, words. -/
namespace Go.Bb
set_option linter.unusedSimpArgs false
set_option linter.unusedVariables false
set_option maxRecDepth 20000
set_option maxHeartbeats 2000000

theorem chacha_mix_c (E : EnvT tab) {h : Heap} {b : Nat} {s : Nat → U32} (hb : h b = some (.own 0 (rowU s 16) 16)) (i j k l : Nat) (hi : i < 16) (hj : j < 16) (hk : k < 16) (hl : l < 16) :
    ACallN E.toEnv n_chacha_mix [.pointer (some ⟨b, 0, none⟩), .int .i64 i, .int .i64 j, .int .i64 k, .int .i64 l] h fun r h' => h' = h.set b (.own 0 (rowU (mixQ s i j k l) 16) 16) ∧ r = .tuple #[] := by
  refine acall h_chacha_mix ir_chacha_mix rfl rfl (wpA_sound ?_)
  unfold ir_chacha_mix
  have i0 : (0 : Int) ≤ i := by omega
  have j0 : (0 : Int) ≤ j := by omega
  have k0 : (0 : Int) ≤ k := by omega
  have l0 : (0 : Int) ≤ l := by omega
  have i1 : (i : Int) < 16 := by omega
  have j1 : (j : Int) < 16 := by omega
  have k1 : (k : Int) < 16 := by omega
  have l1 : (l : Int) < 16 := by omega
  have ci := rowU_at hb hi
  have cj := rowU_at hb hj
  have ck := rowU_at hb hk
  have cl := rowU_at hb hl
  simp -implicitDefEqProofs only [zB1,zB2,zB3,zB4,zB5,zB6,zB7,zB8,zB9,zB10,zB11,y00,y01,y02,y03,y04,y05,y06,y07,y08,y09,y0a,y0b,y0c,y0d,y0e,y0f,y0g,y0h,y0i,y0j,y0k,y0l,y0m,y0n,y0o,y0p,y0q,y0r,y0s,y0t,y0u,y0v,y0w,y0x,y0y,y0z,y10,y11,y12,y13,y14,y15,y16,y17,y18,y19,y1a,y1b,y1c,y1d,y1e,y1f,y1g,y1h,y1i,y1j,y1k,y1l,y1m,y1n,y1o,y1p,y1q,y1r,retO,retL,retV,z69,allV,allP,z6a,z6d,z6e,z6k,z6l,z6m,binV,eqV,unV,oOpt,reduceIte,reduceCtorEq,Nat.reduceEqDiff,Nat.reduceAdd,Nat.reduceMul,Nat.reduceLT,Nat.reduceSub,Int.reduceLT,Int.reduceLE,Int.reduceEq,Int.reduceNe,Int.reduceSub,Int.reduceAdd,Int.reduceMul,Int.reduceBEq,Int.reduceBNe,Int.reduceGT,Int.reduceGE,Nat.reduceGT,Int.reduceToNat,Int.reduceNeg,Nat.reduceLeDiff,Nat.reduceBEq,Nat.reduceBneDiff,Value.cells, i0, j0, k0, l0, i1, j1, k1, l1, ci, cj, ck, cl, Int.toNat_natCast]
  refine (chacha_Quarter_c E _ _ _ _ _).mono ?_
  rintro r h' ⟨rfl, rfl⟩
  unfold Q4.V mixQ
  generalize quarF ⟨s i, s j, s k, s l⟩ = q
  have s1 := rowU_store (z := q.a) hb hi
  have q1 := Heap.set_self h' b (.own 0 (rowU (updU s i q.a) 16) 16)
  have s2 := rowU_store (z := q.b) q1 hj
  rw [Heap.set_set] at s2
  have q2 := Heap.set_self h' b (.own 0 (rowU (updU (updU s i q.a) j q.b) 16) 16)
  have s3 := rowU_store (z := q.c) q2 hk
  rw [Heap.set_set] at s3
  have q3 := Heap.set_self h' b (.own 0 (rowU (updU (updU (updU s i q.a) j q.b) k q.c) 16) 16)
  have s4 := rowU_store (z := q.d) q3 hl
  rw [Heap.set_set] at s4
  simp -implicitDefEqProofs only [zB1,zB2,zB3,zB4,zB5,zB6,zB7,zB8,zB9,zB10,zB11,y00,y01,y02,y03,y04,y05,y06,y07,y08,y09,y0a,y0b,y0c,y0d,y0e,y0f,y0g,y0h,y0i,y0j,y0k,y0l,y0m,y0n,y0o,y0p,y0q,y0r,y0s,y0t,y0u,y0v,y0w,y0x,y0y,y0z,y10,y11,y12,y13,y14,y15,y16,y17,y18,y19,y1a,y1b,y1c,y1d,y1e,y1f,y1g,y1h,y1i,y1j,y1k,y1l,y1m,y1n,y1o,y1p,y1q,y1r,retO,retL,retV,z69,allV,allP,z6a,z6d,z6e,z6k,z6l,z6m,binV,eqV,unV,oOpt,reduceIte,reduceCtorEq,Nat.reduceEqDiff,Nat.reduceAdd,Nat.reduceMul,Nat.reduceLT,Nat.reduceSub,Int.reduceLT,Int.reduceLE,Int.reduceEq,Int.reduceNe,Int.reduceSub,Int.reduceAdd,Int.reduceMul,Int.reduceBEq,Int.reduceBNe,Int.reduceGT,Int.reduceGE,Nat.reduceGT,Int.reduceToNat,Int.reduceNeg,Nat.reduceLeDiff,Nat.reduceBEq,Nat.reduceBneDiff,Value.cells, i0, j0, k0, l0, i1, j1, k1, l1, Int.toNat_natCast, s1, s2, s3, s4, implies_true, List.mem_cons, List.not_mem_nil, or_false, forall_eq, forall_eq_or_imp, and_self]
end Go.Bb
/- The document's bytes: Join. -/
namespace Go.Bb
set_option linter.unusedSimpArgs false
set_option linter.unusedVariables false
set_option maxRecDepth 20000

theorem ref1_Join_c (E : EnvT tab) (h : Heap) {v : Value} (L : List (List UInt8)) (hl : L.length ≤ 100000) (ht : L.flatten.length ≤ 100000000) (s : SlL h v L) :
    ACallN E.toEnv n_bandboxref1_Join [v] h fun r h' => h.le h' ∧ OwB h h' r L.flatten := by
  obtain ⟨base, c, rfl⟩ := s.shape
  refine acall h_bandboxref1_Join ir_bandboxref1_Join rfl rfl (wpA_sound ?_)
  unfold ir_bandboxref1_Join
  simp -implicitDefEqProofs only [zB1,zB2,zB3,zB4,zB5,zB6,zB7,zB8,zB9,zB10,zB11,y00,y01,y02,y03,y04,y05,y06,y07,y08,y09,y0a,y0b,y0c,y0d,y0e,y0f,y0g,y0h,y0i,y0j,y0k,y0l,y0m,y0n,y0o,y0p,y0q,y0r,y0s,y0t,y0u,y0v,y0w,y0x,y0y,y0z,y10,y11,y12,y13,y14,y15,y16,y17,y18,y19,y1a,y1b,y1c,y1d,y1e,y1f,y1g,y1h,y1i,y1j,y1k,y1l,y1m,y1n,y1o,y1p,y1q,y1r,retO,retL,retV,z69,allV,allP,z6a,z6d,z6e,z6k,z6l,z6m,binV,eqV,unV,oOpt,reduceIte,reduceCtorEq,Nat.reduceEqDiff,Nat.reduceAdd,Nat.reduceMul,Nat.reduceLT,Nat.reduceSub,Int.reduceLT,Int.reduceLE,Int.reduceEq,Int.reduceNe,Int.reduceSub,Int.reduceAdd,Int.reduceMul,Int.reduceBEq,Int.reduceBNe,Int.reduceGT,Int.reduceGE,Nat.reduceGT,Int.reduceToNat,Int.reduceNeg,Nat.reduceLeDiff,Nat.reduceBEq,Nat.reduceBneDiff,Value.cells]
  refine wp_loop' (fun m t H => h.le H ∧ ∃ (i : Nat) (v3 : Value), t = tl [(0, .slice base L.length c), (3, v3), (4, .int .i64 i)] ∧ i ≤ L.length ∧ m = L.length - i ∧ OwB h H v3 (L.take i).flatten) L.length
    ⟨Heap.le_refl _, 0, _, rfl, by omega, by omega, Ow.nil _ _ _⟩ ?_
  rintro m t H ⟨leH, i, v3, rfl, hi, rfl, ow⟩
  by_cases hlt : i < L.length
  · have hi1 : (i : Int) < L.length := by omega
    have hi2 : (0 : Int) ≤ i := by omega
    have w1 : IntKind.i64.wrap ((i : Int) + 1) = ((i + 1 : Nat) : Int) := wrapN (by omega)
    obtain ⟨b, o, u, bi, ci, rfl, eu, su, cu⟩ := s.part i hlt
    have c1 := cu H leH
    have hf := flat_take L (i + 1)
    have hs := flat_succ L i hlt
    rw [hs, List.length_append] at hf
    simp -implicitDefEqProofs only [zB1,zB2,zB3,zB4,zB5,zB6,zB7,zB8,zB9,zB10,zB11,y00,y01,y02,y03,y04,y05,y06,y07,y08,y09,y0a,y0b,y0c,y0d,y0e,y0f,y0g,y0h,y0i,y0j,y0k,y0l,y0m,y0n,y0o,y0p,y0q,y0r,y0s,y0t,y0u,y0v,y0w,y0x,y0y,y0z,y10,y11,y12,y13,y14,y15,y16,y17,y18,y19,y1a,y1b,y1c,y1d,y1e,y1f,y1g,y1h,y1i,y1j,y1k,y1l,y1m,y1n,y1o,y1p,y1q,y1r,retO,retL,retV,z69,allV,allP,z6a,z6d,z6e,z6k,z6l,z6m,binV,eqV,unV,oOpt,reduceIte,reduceCtorEq,Nat.reduceEqDiff,Nat.reduceAdd,Nat.reduceMul,Nat.reduceLT,Nat.reduceSub,Int.reduceLT,Int.reduceLE,Int.reduceEq,Int.reduceNe,Int.reduceSub,Int.reduceAdd,Int.reduceMul,Int.reduceBEq,Int.reduceBNe,Int.reduceGT,Int.reduceGE,Nat.reduceGT,Int.reduceToNat,Int.reduceNeg,Nat.reduceLeDiff,Nat.reduceBEq,Nat.reduceBneDiff,Value.cells, hi1, hi2, Int.toNat_natCast, c1]
    refine appendP_ow (bytes := 1) (m := L[i].length) (news := L[i].map u8V) leH (by omega) ow (su.le leH) (one_u8 _) (by omega) (by omega) ?_
    intro v7 h7 ow7 le7
    simp -implicitDefEqProofs only [zB1,zB2,zB3,zB4,zB5,zB6,zB7,zB8,zB9,zB10,zB11,y00,y01,y02,y03,y04,y05,y06,y07,y08,y09,y0a,y0b,y0c,y0d,y0e,y0f,y0g,y0h,y0i,y0j,y0k,y0l,y0m,y0n,y0o,y0p,y0q,y0r,y0s,y0t,y0u,y0v,y0w,y0x,y0y,y0z,y10,y11,y12,y13,y14,y15,y16,y17,y18,y19,y1a,y1b,y1c,y1d,y1e,y1f,y1g,y1h,y1i,y1j,y1k,y1l,y1m,y1n,y1o,y1p,y1q,y1r,retO,retL,retV,z69,allV,allP,z6a,z6d,z6e,z6k,z6l,z6m,binV,eqV,unV,oOpt,reduceIte,reduceCtorEq,Nat.reduceEqDiff,Nat.reduceAdd,Nat.reduceMul,Nat.reduceLT,Nat.reduceSub,Int.reduceLT,Int.reduceLE,Int.reduceEq,Int.reduceNe,Int.reduceSub,Int.reduceAdd,Int.reduceMul,Int.reduceBEq,Int.reduceBNe,Int.reduceGT,Int.reduceGE,Nat.reduceGT,Int.reduceToNat,Int.reduceNeg,Nat.reduceLeDiff,Nat.reduceBEq,Nat.reduceBneDiff,Value.cells, w1]
    refine ⟨L.length - (i + 1), by omega, le7, i + 1, v7, rfl, by omega, rfl, ?_⟩
    rw [hs]
    unfold OwB
    rw [List.length_append, List.map_append]
    exact ow7
  · have hi1 : ¬ (i : Int) < L.length := by omega
    have : i = L.length := by omega
    subst this
    rw [List.take_length] at ow
    simp -implicitDefEqProofs only [zB1,zB2,zB3,zB4,zB5,zB6,zB7,zB8,zB9,zB10,zB11,y00,y01,y02,y03,y04,y05,y06,y07,y08,y09,y0a,y0b,y0c,y0d,y0e,y0f,y0g,y0h,y0i,y0j,y0k,y0l,y0m,y0n,y0o,y0p,y0q,y0r,y0s,y0t,y0u,y0v,y0w,y0x,y0y,y0z,y10,y11,y12,y13,y14,y15,y16,y17,y18,y19,y1a,y1b,y1c,y1d,y1e,y1f,y1g,y1h,y1i,y1j,y1k,y1l,y1m,y1n,y1o,y1p,y1q,y1r,retO,retL,retV,z69,allV,allP,z6a,z6d,z6e,z6k,z6l,z6m,binV,eqV,unV,oOpt,reduceIte,reduceCtorEq,Nat.reduceEqDiff,Nat.reduceAdd,Nat.reduceMul,Nat.reduceLT,Nat.reduceSub,Int.reduceLT,Int.reduceLE,Int.reduceEq,Int.reduceNe,Int.reduceSub,Int.reduceAdd,Int.reduceMul,Int.reduceBEq,Int.reduceBNe,Int.reduceGT,Int.reduceGE,Nat.reduceGT,Int.reduceToNat,Int.reduceNeg,Nat.reduceLeDiff,Nat.reduceBEq,Nat.reduceBneDiff,Value.cells, hi1]
    exact ⟨leH, ow⟩
end Go.Bb
/- The document's bytes: numbers, exclusive or. -/
namespace Go.Bb
set_option linter.unusedSimpArgs false
set_option linter.unusedVariables false
set_option maxRecDepth 20000
set_option maxHeartbeats 2000000

theorem ref1_FromBig_c (E : EnvT tab) (h : Heap) {v : Value} (l : List UInt8) (hl : l.length ≤ 8) (s : SlB h v l) : ACallN E.toEnv n_bandboxref1_FromBig [v] h fun r h' => h' = h ∧ r = .tuple #[u64V (fromBigF l), .bool true] := by
  obtain ⟨base, c, rfl⟩ := Sl.shape s
  refine acall h_bandboxref1_FromBig ir_bandboxref1_FromBig rfl rfl (wpA_sound ?_)
  unfold ir_bandboxref1_FromBig
  have g1 : ¬ (8 : Int) < l.length := by omega
  simp -implicitDefEqProofs only [zB1,zB2,zB3,zB4,zB5,zB6,zB7,zB8,zB9,zB10,zB11,y00,y01,y02,y03,y04,y05,y06,y07,y08,y09,y0a,y0b,y0c,y0d,y0e,y0f,y0g,y0h,y0i,y0j,y0k,y0l,y0m,y0n,y0o,y0p,y0q,y0r,y0s,y0t,y0u,y0v,y0w,y0x,y0y,y0z,y10,y11,y12,y13,y14,y15,y16,y17,y18,y19,y1a,y1b,y1c,y1d,y1e,y1f,y1g,y1h,y1i,y1j,y1k,y1l,y1m,y1n,y1o,y1p,y1q,y1r,retO,retL,retV,z69,allV,allP,z6a,z6d,z6e,z6k,z6l,z6m,binV,eqV,unV,oOpt,reduceIte,reduceCtorEq,Nat.reduceEqDiff,Nat.reduceAdd,Nat.reduceMul,Nat.reduceLT,Nat.reduceSub,Int.reduceLT,Int.reduceLE,Int.reduceEq,Int.reduceNe,Int.reduceSub,Int.reduceAdd,Int.reduceMul,Int.reduceBEq,Int.reduceBNe,Int.reduceGT,Int.reduceGE,Nat.reduceGT,Int.reduceToNat,Int.reduceNeg,Nat.reduceLeDiff,Nat.reduceBEq,Nat.reduceBneDiff,Value.cells, g1]
  unfold ir_bandboxref1_FromBig_4
  simp -implicitDefEqProofs only [zB1,zB2,zB3,zB4,zB5,zB6,zB7,zB8,zB9,zB10,zB11,y00,y01,y02,y03,y04,y05,y06,y07,y08,y09,y0a,y0b,y0c,y0d,y0e,y0f,y0g,y0h,y0i,y0j,y0k,y0l,y0m,y0n,y0o,y0p,y0q,y0r,y0s,y0t,y0u,y0v,y0w,y0x,y0y,y0z,y10,y11,y12,y13,y14,y15,y16,y17,y18,y19,y1a,y1b,y1c,y1d,y1e,y1f,y1g,y1h,y1i,y1j,y1k,y1l,y1m,y1n,y1o,y1p,y1q,y1r,retO,retL,retV,z69,allV,allP,z6a,z6d,z6e,z6k,z6l,z6m,binV,eqV,unV,oOpt,reduceIte,reduceCtorEq,Nat.reduceEqDiff,Nat.reduceAdd,Nat.reduceMul,Nat.reduceLT,Nat.reduceSub,Int.reduceLT,Int.reduceLE,Int.reduceEq,Int.reduceNe,Int.reduceSub,Int.reduceAdd,Int.reduceMul,Int.reduceBEq,Int.reduceBNe,Int.reduceGT,Int.reduceGE,Nat.reduceGT,Int.reduceToNat,Int.reduceNeg,Nat.reduceLeDiff,Nat.reduceBEq,Nat.reduceBneDiff,Value.cells]
  refine wp_loop' (fun m t H => H = h ∧ ∃ (j : Nat), t = tl [(0, .slice base l.length c), (4, .int .u64 (fromBigF (l.take j)).toNat), (5, .int .i64 j)] ∧ j ≤ l.length ∧ m = l.length - j) l.length
    ⟨rfl, 0, rfl, by omega, by omega⟩ ?_
  rintro m t H ⟨rfl, j, rfl, hj, rfl⟩
  by_cases hlt : j < l.length
  · obtain ⟨b, o, c', hv, hc, hcl⟩ := Sl.byte_at s j hlt
    simp only [Value.slice.injEq, true_and] at hv
    obtain ⟨rfl, rfl⟩ := hv
    have hz := hcl H (Heap.le_refl _)
    unfold u8V at hz
    have e1 : (j : Int) < l.length := by omega
    have e2 : (0 : Int) ≤ j := by omega
    simp -implicitDefEqProofs only [zB1,zB2,zB3,zB4,zB5,zB6,zB7,zB8,zB9,zB10,zB11,y00,y01,y02,y03,y04,y05,y06,y07,y08,y09,y0a,y0b,y0c,y0d,y0e,y0f,y0g,y0h,y0i,y0j,y0k,y0l,y0m,y0n,y0o,y0p,y0q,y0r,y0s,y0t,y0u,y0v,y0w,y0x,y0y,y0z,y10,y11,y12,y13,y14,y15,y16,y17,y18,y19,y1a,y1b,y1c,y1d,y1e,y1f,y1g,y1h,y1i,y1j,y1k,y1l,y1m,y1n,y1o,y1p,y1q,y1r,retO,retL,retV,z69,allV,allP,z6a,z6d,z6e,z6k,z6l,z6m,binV,eqV,unV,oOpt,reduceIte,reduceCtorEq,Nat.reduceEqDiff,Nat.reduceAdd,Nat.reduceMul,Nat.reduceLT,Nat.reduceSub,Int.reduceLT,Int.reduceLE,Int.reduceEq,Int.reduceNe,Int.reduceSub,Int.reduceAdd,Int.reduceMul,Int.reduceBEq,Int.reduceBNe,Int.reduceGT,Int.reduceGE,Nat.reduceGT,Int.reduceToNat,Int.reduceNeg,Nat.reduceLeDiff,Nat.reduceBEq,Nat.reduceBneDiff,Value.cells, e1, e2, hz, Int.toNat_natCast, u64_shl, u8_u64, u64_or, wrapN (n := j) (by omega)]
    refine ⟨_, ?_, j + 1, ?_, hlt, rfl⟩
    · omega
    · rw [List.take_succ_eq_append_getElem hlt]
      simp only [fromBigF, List.foldl_append, List.foldl_cons, List.foldl_nil]
  · have e1 : ¬ (j : Int) < l.length := by omega
    have : j = l.length := by omega
    subst this
    rw [List.take_length]
    simp -implicitDefEqProofs only [zB1,zB2,zB3,zB4,zB5,zB6,zB7,zB8,zB9,zB10,zB11,y00,y01,y02,y03,y04,y05,y06,y07,y08,y09,y0a,y0b,y0c,y0d,y0e,y0f,y0g,y0h,y0i,y0j,y0k,y0l,y0m,y0n,y0o,y0p,y0q,y0r,y0s,y0t,y0u,y0v,y0w,y0x,y0y,y0z,y10,y11,y12,y13,y14,y15,y16,y17,y18,y19,y1a,y1b,y1c,y1d,y1e,y1f,y1g,y1h,y1i,y1j,y1k,y1l,y1m,y1n,y1o,y1p,y1q,y1r,retO,retL,retV,z69,allV,allP,z6a,z6d,z6e,z6k,z6l,z6m,binV,eqV,unV,oOpt,reduceIte,reduceCtorEq,Nat.reduceEqDiff,Nat.reduceAdd,Nat.reduceMul,Nat.reduceLT,Nat.reduceSub,Int.reduceLT,Int.reduceLE,Int.reduceEq,Int.reduceNe,Int.reduceSub,Int.reduceAdd,Int.reduceMul,Int.reduceBEq,Int.reduceBNe,Int.reduceGT,Int.reduceGE,Nat.reduceGT,Int.reduceToNat,Int.reduceNeg,Nat.reduceLeDiff,Nat.reduceBEq,Nat.reduceBneDiff,Value.cells, e1]
    rfl
theorem ref1_Turn_c (E : EnvT tab) (h : Heap) {v : Value} (l : List UInt8) (hl : l.length ≤ 140737488355000) (s : SlB h v l) : ACallN E.toEnv n_bandboxref1_Turn [v] h fun r h' => h.le h' ∧ OwB h h' r l.reverse := by
  obtain ⟨base, c, rfl⟩ := Sl.shape s
  refine acall h_bandboxref1_Turn ir_bandboxref1_Turn rfl rfl (wpA_sound ?_)
  unfold ir_bandboxref1_Turn
  have w0 : IntKind.i64.wrap ((l.length : Int) - 1) = (l.length : Int) - 1 - ((0 : Nat) : Int) := by rw [wrapI (by omega) (by omega)]; omega
  simp -implicitDefEqProofs only [zB1,zB2,zB3,zB4,zB5,zB6,zB7,zB8,zB9,zB10,zB11,y00,y01,y02,y03,y04,y05,y06,y07,y08,y09,y0a,y0b,y0c,y0d,y0e,y0f,y0g,y0h,y0i,y0j,y0k,y0l,y0m,y0n,y0o,y0p,y0q,y0r,y0s,y0t,y0u,y0v,y0w,y0x,y0y,y0z,y10,y11,y12,y13,y14,y15,y16,y17,y18,y19,y1a,y1b,y1c,y1d,y1e,y1f,y1g,y1h,y1i,y1j,y1k,y1l,y1m,y1n,y1o,y1p,y1q,y1r,retO,retL,retV,z69,allV,allP,z6a,z6d,z6e,z6k,z6l,z6m,binV,eqV,unV,oOpt,reduceIte,reduceCtorEq,Nat.reduceEqDiff,Nat.reduceAdd,Nat.reduceMul,Nat.reduceLT,Nat.reduceSub,Int.reduceLT,Int.reduceLE,Int.reduceEq,Int.reduceNe,Int.reduceSub,Int.reduceAdd,Int.reduceMul,Int.reduceBEq,Int.reduceBNe,Int.reduceGT,Int.reduceGE,Nat.reduceGT,Int.reduceToNat,Int.reduceNeg,Nat.reduceLeDiff,Nat.reduceBEq,Nat.reduceBneDiff,Value.cells, w0]
  refine wp_loop' (fun m t H => h.le H ∧ ∃ (j : Nat) (v3 : Value), t = tl [(0, .slice base l.length c), (3, v3), (4, .int .i64 ((l.length : Int) - 1 - (j : Nat)))] ∧ j ≤ l.length ∧ m = l.length - j ∧ OwB h H v3 (l.reverse.take j)) l.length
    ⟨Heap.le_refl _, 0, _, rfl, by omega, by omega, Ow.nil _ _ _⟩ ?_
  rintro m t H ⟨leH, j, v3, rfl, hj, rfl, ow⟩
  by_cases hlt : j < l.length
  · have e2 : (0 : Int) ≤ (l.length : Int) - 1 - (j : Int) := by omega
    obtain ⟨k, hk⟩ : ∃ k : Nat, (l.length : Int) - 1 - (j : Int) = (k : Int) := ⟨l.length - 1 - j, by omega⟩
    have hk' : k = l.length - 1 - j := by omega
    obtain ⟨b, o, c', hv, hc, hcl⟩ := Sl.byte_at s k (by omega)
    simp only [Value.slice.injEq, true_and] at hv
    obtain ⟨rfl, rfl⟩ := hv
    have hz := hcl H leH
    unfold u8V at hz
    have e0 : (0 : Int) ≤ (k : Int) := by omega
    have e1 : (k : Int) < (l.length : Int) := by omega
    have w1 : IntKind.i64.wrap ((k : Int) - 1) = (l.length : Int) - 1 - ((j + 1 : Nat) : Int) := by rw [wrapI (by omega) (by omega)]; omega
    rw [hk]
    simp -implicitDefEqProofs only [zB1,zB2,zB3,zB4,zB5,zB6,zB7,zB8,zB9,zB10,zB11,y00,y01,y02,y03,y04,y05,y06,y07,y08,y09,y0a,y0b,y0c,y0d,y0e,y0f,y0g,y0h,y0i,y0j,y0k,y0l,y0m,y0n,y0o,y0p,y0q,y0r,y0s,y0t,y0u,y0v,y0w,y0x,y0y,y0z,y10,y11,y12,y13,y14,y15,y16,y17,y18,y19,y1a,y1b,y1c,y1d,y1e,y1f,y1g,y1h,y1i,y1j,y1k,y1l,y1m,y1n,y1o,y1p,y1q,y1r,retO,retL,retV,z69,allV,allP,z6a,z6d,z6e,z6k,z6l,z6m,binV,eqV,unV,oOpt,reduceIte,reduceCtorEq,Nat.reduceEqDiff,Nat.reduceAdd,Nat.reduceMul,Nat.reduceLT,Nat.reduceSub,Int.reduceLT,Int.reduceLE,Int.reduceEq,Int.reduceNe,Int.reduceSub,Int.reduceAdd,Int.reduceMul,Int.reduceBEq,Int.reduceBNe,Int.reduceGT,Int.reduceGE,Nat.reduceGT,Int.reduceToNat,Int.reduceNeg,Nat.reduceLeDiff,Nat.reduceBEq,Nat.reduceBneDiff,Value.cells, e0, e1, hz, Int.toNat_natCast]
    intro b1 hb1
    try simp -implicitDefEqProofs only [zB1,zB2,zB3,zB4,zB5,zB6,zB7,zB8,zB9,zB10,zB11,y00,y01,y02,y03,y04,y05,y06,y07,y08,y09,y0a,y0b,y0c,y0d,y0e,y0f,y0g,y0h,y0i,y0j,y0k,y0l,y0m,y0n,y0o,y0p,y0q,y0r,y0s,y0t,y0u,y0v,y0w,y0x,y0y,y0z,y10,y11,y12,y13,y14,y15,y16,y17,y18,y19,y1a,y1b,y1c,y1d,y1e,y1f,y1g,y1h,y1i,y1j,y1k,y1l,y1m,y1n,y1o,y1p,y1q,y1r,retO,retL,retV,z69,allV,allP,z6a,z6d,z6e,z6k,z6l,z6m,binV,eqV,unV,oOpt,reduceIte,reduceCtorEq,Nat.reduceEqDiff,Nat.reduceAdd,Nat.reduceMul,Nat.reduceLT,Nat.reduceSub,Int.reduceLT,Int.reduceLE,Int.reduceEq,Int.reduceNe,Int.reduceSub,Int.reduceAdd,Int.reduceMul,Int.reduceBEq,Int.reduceBNe,Int.reduceGT,Int.reduceGE,Nat.reduceGT,Int.reduceToNat,Int.reduceNeg,Nat.reduceLeDiff,Nat.reduceBEq,Nat.reduceBneDiff,Value.cells]
    refine app1 leH hb1 ow (by simp; omega) ?_
    intro v4 H4 ow4 le4
    simp -implicitDefEqProofs only [zB1,zB2,zB3,zB4,zB5,zB6,zB7,zB8,zB9,zB10,zB11,y00,y01,y02,y03,y04,y05,y06,y07,y08,y09,y0a,y0b,y0c,y0d,y0e,y0f,y0g,y0h,y0i,y0j,y0k,y0l,y0m,y0n,y0o,y0p,y0q,y0r,y0s,y0t,y0u,y0v,y0w,y0x,y0y,y0z,y10,y11,y12,y13,y14,y15,y16,y17,y18,y19,y1a,y1b,y1c,y1d,y1e,y1f,y1g,y1h,y1i,y1j,y1k,y1l,y1m,y1n,y1o,y1p,y1q,y1r,retO,retL,retV,z69,allV,allP,z6a,z6d,z6e,z6k,z6l,z6m,binV,eqV,unV,oOpt,reduceIte,reduceCtorEq,Nat.reduceEqDiff,Nat.reduceAdd,Nat.reduceMul,Nat.reduceLT,Nat.reduceSub,Int.reduceLT,Int.reduceLE,Int.reduceEq,Int.reduceNe,Int.reduceSub,Int.reduceAdd,Int.reduceMul,Int.reduceBEq,Int.reduceBNe,Int.reduceGT,Int.reduceGE,Nat.reduceGT,Int.reduceToNat,Int.reduceNeg,Nat.reduceLeDiff,Nat.reduceBEq,Nat.reduceBneDiff,Value.cells, w1]
    refine ⟨l.length - (j + 1), by omega, le4, j + 1, v4, rfl, by omega, rfl, ?_⟩
    rw [List.take_succ_eq_append_getElem (by simpa using hlt)]
    have : l.reverse[j]'(by simpa using hlt) = l[k]'(by omega) := by simp [hk']
    rw [this]
    exact ow4
  · have e2 : ¬ (0 : Int) ≤ (l.length : Int) - 1 - (j : Int) := by omega
    have : j = l.length := by omega
    subst this
    rw [List.take_of_length_le (by simp)] at ow
    simp -implicitDefEqProofs only [zB1,zB2,zB3,zB4,zB5,zB6,zB7,zB8,zB9,zB10,zB11,y00,y01,y02,y03,y04,y05,y06,y07,y08,y09,y0a,y0b,y0c,y0d,y0e,y0f,y0g,y0h,y0i,y0j,y0k,y0l,y0m,y0n,y0o,y0p,y0q,y0r,y0s,y0t,y0u,y0v,y0w,y0x,y0y,y0z,y10,y11,y12,y13,y14,y15,y16,y17,y18,y19,y1a,y1b,y1c,y1d,y1e,y1f,y1g,y1h,y1i,y1j,y1k,y1l,y1m,y1n,y1o,y1p,y1q,y1r,retO,retL,retV,z69,allV,allP,z6a,z6d,z6e,z6k,z6l,z6m,binV,eqV,unV,oOpt,reduceIte,reduceCtorEq,Nat.reduceEqDiff,Nat.reduceAdd,Nat.reduceMul,Nat.reduceLT,Nat.reduceSub,Int.reduceLT,Int.reduceLE,Int.reduceEq,Int.reduceNe,Int.reduceSub,Int.reduceAdd,Int.reduceMul,Int.reduceBEq,Int.reduceBNe,Int.reduceGT,Int.reduceGE,Nat.reduceGT,Int.reduceToNat,Int.reduceNeg,Nat.reduceLeDiff,Nat.reduceBEq,Nat.reduceBneDiff,Value.cells, e2]
    exact ⟨leH, ow⟩
theorem ref1_FromLittle_c (E : EnvT tab) (h : Heap) {v : Value} (l : List UInt8) (hl : l.length ≤ 8) (s : SlB h v l) : ACallN E.toEnv n_bandboxref1_FromLittle [v] h fun r h' => h.le h' ∧ r = .tuple #[u64V (fromLittleF l), .bool true] := by
  refine acall h_bandboxref1_FromLittle ir_bandboxref1_FromLittle rfl rfl (wpA_sound ?_)
  unfold ir_bandboxref1_FromLittle
  simp -implicitDefEqProofs only [zB1,zB2,zB3,zB4,zB5,zB6,zB7,zB8,zB9,zB10,zB11,y00,y01,y02,y03,y04,y05,y06,y07,y08,y09,y0a,y0b,y0c,y0d,y0e,y0f,y0g,y0h,y0i,y0j,y0k,y0l,y0m,y0n,y0o,y0p,y0q,y0r,y0s,y0t,y0u,y0v,y0w,y0x,y0y,y0z,y10,y11,y12,y13,y14,y15,y16,y17,y18,y19,y1a,y1b,y1c,y1d,y1e,y1f,y1g,y1h,y1i,y1j,y1k,y1l,y1m,y1n,y1o,y1p,y1q,y1r,retO,retL,retV,z69,allV,allP,z6a,z6d,z6e,z6k,z6l,z6m,binV,eqV,unV,oOpt,reduceIte,reduceCtorEq,Nat.reduceEqDiff,Nat.reduceAdd,Nat.reduceMul,Nat.reduceLT,Nat.reduceSub,Int.reduceLT,Int.reduceLE,Int.reduceEq,Int.reduceNe,Int.reduceSub,Int.reduceAdd,Int.reduceMul,Int.reduceBEq,Int.reduceBNe,Int.reduceGT,Int.reduceGE,Nat.reduceGT,Int.reduceToNat,Int.reduceNeg,Nat.reduceLeDiff,Nat.reduceBEq,Nat.reduceBneDiff,Value.cells]
  refine (ref1_Turn_c E h l (by omega) s).mono ?_
  rintro r h1 ⟨le1, ow⟩
  simp -implicitDefEqProofs only [zB1,zB2,zB3,zB4,zB5,zB6,zB7,zB8,zB9,zB10,zB11,y00,y01,y02,y03,y04,y05,y06,y07,y08,y09,y0a,y0b,y0c,y0d,y0e,y0f,y0g,y0h,y0i,y0j,y0k,y0l,y0m,y0n,y0o,y0p,y0q,y0r,y0s,y0t,y0u,y0v,y0w,y0x,y0y,y0z,y10,y11,y12,y13,y14,y15,y16,y17,y18,y19,y1a,y1b,y1c,y1d,y1e,y1f,y1g,y1h,y1i,y1j,y1k,y1l,y1m,y1n,y1o,y1p,y1q,y1r,retO,retL,retV,z69,allV,allP,z6a,z6d,z6e,z6k,z6l,z6m,binV,eqV,unV,oOpt,reduceIte,reduceCtorEq,Nat.reduceEqDiff,Nat.reduceAdd,Nat.reduceMul,Nat.reduceLT,Nat.reduceSub,Int.reduceLT,Int.reduceLE,Int.reduceEq,Int.reduceNe,Int.reduceSub,Int.reduceAdd,Int.reduceMul,Int.reduceBEq,Int.reduceBNe,Int.reduceGT,Int.reduceGE,Nat.reduceGT,Int.reduceToNat,Int.reduceNeg,Nat.reduceLeDiff,Nat.reduceBEq,Nat.reduceBneDiff,Value.cells]
  refine (ref1_FromBig_c E h1 l.reverse (by simpa using hl) ow.sl).mono ?_
  rintro r2 h2 ⟨rfl, rfl⟩
  simp -implicitDefEqProofs only [zB1,zB2,zB3,zB4,zB5,zB6,zB7,zB8,zB9,zB10,zB11,y00,y01,y02,y03,y04,y05,y06,y07,y08,y09,y0a,y0b,y0c,y0d,y0e,y0f,y0g,y0h,y0i,y0j,y0k,y0l,y0m,y0n,y0o,y0p,y0q,y0r,y0s,y0t,y0u,y0v,y0w,y0x,y0y,y0z,y10,y11,y12,y13,y14,y15,y16,y17,y18,y19,y1a,y1b,y1c,y1d,y1e,y1f,y1g,y1h,y1i,y1j,y1k,y1l,y1m,y1n,y1o,y1p,y1q,y1r,retO,retL,retV,z69,allV,allP,z6a,z6d,z6e,z6k,z6l,z6m,binV,eqV,unV,oOpt,reduceIte,reduceCtorEq,Nat.reduceEqDiff,Nat.reduceAdd,Nat.reduceMul,Nat.reduceLT,Nat.reduceSub,Int.reduceLT,Int.reduceLE,Int.reduceEq,Int.reduceNe,Int.reduceSub,Int.reduceAdd,Int.reduceMul,Int.reduceBEq,Int.reduceBNe,Int.reduceGT,Int.reduceGE,Nat.reduceGT,Int.reduceToNat,Int.reduceNeg,Nat.reduceLeDiff,Nat.reduceBEq,Nat.reduceBneDiff,Value.cells]
  exact ⟨le1, rfl⟩
theorem ref1_held_c (E : EnvT tab) (h : Heap) (n : Nat) (hn : n ≤ 8) : ACallN E.toEnv n_bandboxref1_held [.int .i64 n] h fun r h' => h' = h ∧ r = .int .i64 n := by
  refine acall h_bandboxref1_held ir_bandboxref1_held rfl rfl (wpA_sound ?_)
  unfold ir_bandboxref1_held
  have g1 : ¬ (n : Int) < 0 := by omega
  have g2 : ¬ (8 : Int) < n := by omega
  have g3 : (n : Int) ≤ 8 := by omega
  simp -implicitDefEqProofs only [zB1,zB2,zB3,zB4,zB5,zB6,zB7,zB8,zB9,zB10,zB11,y00,y01,y02,y03,y04,y05,y06,y07,y08,y09,y0a,y0b,y0c,y0d,y0e,y0f,y0g,y0h,y0i,y0j,y0k,y0l,y0m,y0n,y0o,y0p,y0q,y0r,y0s,y0t,y0u,y0v,y0w,y0x,y0y,y0z,y10,y11,y12,y13,y14,y15,y16,y17,y18,y19,y1a,y1b,y1c,y1d,y1e,y1f,y1g,y1h,y1i,y1j,y1k,y1l,y1m,y1n,y1o,y1p,y1q,y1r,retO,retL,retV,z69,allV,allP,z6a,z6d,z6e,z6k,z6l,z6m,binV,eqV,unV,oOpt,reduceIte,reduceCtorEq,Nat.reduceEqDiff,Nat.reduceAdd,Nat.reduceMul,Nat.reduceLT,Nat.reduceSub,Int.reduceLT,Int.reduceLE,Int.reduceEq,Int.reduceNe,Int.reduceSub,Int.reduceAdd,Int.reduceMul,Int.reduceBEq,Int.reduceBNe,Int.reduceGT,Int.reduceGE,Nat.reduceGT,Int.reduceToNat,Int.reduceNeg,Nat.reduceLeDiff,Nat.reduceBEq,Nat.reduceBneDiff,Value.cells, g1, g2, g3]
theorem ref1_Little_c (E : EnvT tab) (h : Heap) {b : Value} (l : List UInt8) (hl : l.length ≤ 140737488350000) (s : SlB h b l) (v : U64) (n : Nat) (hn : n ≤ 8) : ACallN E.toEnv n_bandboxref1_Little [b, .int .u64 v.toNat, .int .i64 n] h fun r h' => h.le h' ∧ OwB h h' r (l ++ littleF v n) := by
  refine acall h_bandboxref1_Little ir_bandboxref1_Little rfl rfl (wpA_sound ?_)
  unfold ir_bandboxref1_Little
  simp -implicitDefEqProofs only [zB1,zB2,zB3,zB4,zB5,zB6,zB7,zB8,zB9,zB10,zB11,y00,y01,y02,y03,y04,y05,y06,y07,y08,y09,y0a,y0b,y0c,y0d,y0e,y0f,y0g,y0h,y0i,y0j,y0k,y0l,y0m,y0n,y0o,y0p,y0q,y0r,y0s,y0t,y0u,y0v,y0w,y0x,y0y,y0z,y10,y11,y12,y13,y14,y15,y16,y17,y18,y19,y1a,y1b,y1c,y1d,y1e,y1f,y1g,y1h,y1i,y1j,y1k,y1l,y1m,y1n,y1o,y1p,y1q,y1r,retO,retL,retV,z69,allV,allP,z6a,z6d,z6e,z6k,z6l,z6m,binV,eqV,unV,oOpt,reduceIte,reduceCtorEq,Nat.reduceEqDiff,Nat.reduceAdd,Nat.reduceMul,Nat.reduceLT,Nat.reduceSub,Int.reduceLT,Int.reduceLE,Int.reduceEq,Int.reduceNe,Int.reduceSub,Int.reduceAdd,Int.reduceMul,Int.reduceBEq,Int.reduceBNe,Int.reduceGT,Int.reduceGE,Nat.reduceGT,Int.reduceToNat,Int.reduceNeg,Nat.reduceLeDiff,Nat.reduceBEq,Nat.reduceBneDiff,Value.cells]
  unfold ir_bandboxref1_Little_9
  simp -implicitDefEqProofs only [zB1,zB2,zB3,zB4,zB5,zB6,zB7,zB8,zB9,zB10,zB11,y00,y01,y02,y03,y04,y05,y06,y07,y08,y09,y0a,y0b,y0c,y0d,y0e,y0f,y0g,y0h,y0i,y0j,y0k,y0l,y0m,y0n,y0o,y0p,y0q,y0r,y0s,y0t,y0u,y0v,y0w,y0x,y0y,y0z,y10,y11,y12,y13,y14,y15,y16,y17,y18,y19,y1a,y1b,y1c,y1d,y1e,y1f,y1g,y1h,y1i,y1j,y1k,y1l,y1m,y1n,y1o,y1p,y1q,y1r,retO,retL,retV,z69,allV,allP,z6a,z6d,z6e,z6k,z6l,z6m,binV,eqV,unV,oOpt,reduceIte,reduceCtorEq,Nat.reduceEqDiff,Nat.reduceAdd,Nat.reduceMul,Nat.reduceLT,Nat.reduceSub,Int.reduceLT,Int.reduceLE,Int.reduceEq,Int.reduceNe,Int.reduceSub,Int.reduceAdd,Int.reduceMul,Int.reduceBEq,Int.reduceBNe,Int.reduceGT,Int.reduceGE,Nat.reduceGT,Int.reduceToNat,Int.reduceNeg,Nat.reduceLeDiff,Nat.reduceBEq,Nat.reduceBneDiff,Value.cells]
  intro b1 hb1
  refine appendP_ow (bytes := 1) (n := 0) (cells := []) (m := l.length) (news := l.map u8V) (Heap.le_set (Heap.le_refl _) hb1 _) (by omega) (Ow.new (Heap.le_refl _) hb1 rfl (by omega) (by omega)) (s.le (Heap.le_set (Heap.le_refl _) hb1 _)) (one_u8 l) (by omega) (by omega) ?_
  intro v' h1 ow le1
  rw [Nat.zero_add, List.nil_append] at ow
  simp -implicitDefEqProofs only [zB1,zB2,zB3,zB4,zB5,zB6,zB7,zB8,zB9,zB10,zB11,y00,y01,y02,y03,y04,y05,y06,y07,y08,y09,y0a,y0b,y0c,y0d,y0e,y0f,y0g,y0h,y0i,y0j,y0k,y0l,y0m,y0n,y0o,y0p,y0q,y0r,y0s,y0t,y0u,y0v,y0w,y0x,y0y,y0z,y10,y11,y12,y13,y14,y15,y16,y17,y18,y19,y1a,y1b,y1c,y1d,y1e,y1f,y1g,y1h,y1i,y1j,y1k,y1l,y1m,y1n,y1o,y1p,y1q,y1r,retO,retL,retV,z69,allV,allP,z6a,z6d,z6e,z6k,z6l,z6m,binV,eqV,unV,oOpt,reduceIte,reduceCtorEq,Nat.reduceEqDiff,Nat.reduceAdd,Nat.reduceMul,Nat.reduceLT,Nat.reduceSub,Int.reduceLT,Int.reduceLE,Int.reduceEq,Int.reduceNe,Int.reduceSub,Int.reduceAdd,Int.reduceMul,Int.reduceBEq,Int.reduceBNe,Int.reduceGT,Int.reduceGE,Nat.reduceGT,Int.reduceToNat,Int.reduceNeg,Nat.reduceLeDiff,Nat.reduceBEq,Nat.reduceBneDiff,Value.cells]
  refine wp_loop' (fun m t H => h.le H ∧ ∃ (j : Nat) (v7 : Value), t = tl [(1, .int .u64 v.toNat), (2, .int .i64 n), (7, v7), (8, .int .i64 j)] ∧ j ≤ n ∧ m = n - j ∧ OwB h H v7 (l ++ littleF v j)) n
    ⟨le1, 0, _, rfl, by omega, by omega, by simpa [littleF] using ow⟩ ?_
  rintro m t H ⟨leH, j, v7, rfl, hj, rfl, ow'⟩
  simp -implicitDefEqProofs only [zB1,zB2,zB3,zB4,zB5,zB6,zB7,zB8,zB9,zB10,zB11,y00,y01,y02,y03,y04,y05,y06,y07,y08,y09,y0a,y0b,y0c,y0d,y0e,y0f,y0g,y0h,y0i,y0j,y0k,y0l,y0m,y0n,y0o,y0p,y0q,y0r,y0s,y0t,y0u,y0v,y0w,y0x,y0y,y0z,y10,y11,y12,y13,y14,y15,y16,y17,y18,y19,y1a,y1b,y1c,y1d,y1e,y1f,y1g,y1h,y1i,y1j,y1k,y1l,y1m,y1n,y1o,y1p,y1q,y1r,retO,retL,retV,z69,allV,allP,z6a,z6d,z6e,z6k,z6l,z6m,binV,eqV,unV,oOpt,reduceIte,reduceCtorEq,Nat.reduceEqDiff,Nat.reduceAdd,Nat.reduceMul,Nat.reduceLT,Nat.reduceSub,Int.reduceLT,Int.reduceLE,Int.reduceEq,Int.reduceNe,Int.reduceSub,Int.reduceAdd,Int.reduceMul,Int.reduceBEq,Int.reduceBNe,Int.reduceGT,Int.reduceGE,Nat.reduceGT,Int.reduceToNat,Int.reduceNeg,Nat.reduceLeDiff,Nat.reduceBEq,Nat.reduceBneDiff,Value.cells]
  refine (ref1_held_c E H n hn).mono ?_
  rintro r H' ⟨rfl, rfl⟩
  by_cases hlt : j < n
  · have e1 : (j : Int) < n := by omega
    have w1 : IntKind.i64.wrap (8 * (j : Int)) = ((8 * j : Nat) : Int) := by rw [wrapI (by omega) (by omega)]; omega
    have w1' : IntKind.u64.wrap ((8 * j : Nat) : Int) = ((8 * j : Nat) : Int) := wrap_u64l (by omega)
    have w2 : IntKind.i64.wrap ((j : Int) + 1) = ((j + 1 : Nat) : Int) := wrapN (by omega)
    have n1 : ¬ (((8 * j : Nat) : Int) < 0) := by omega
    have sh : ((v.toNat : Int).fdiv (2 ^ (min (8 * j) IntKind.u64.bits))) = ((v >>> (8 * j)).toNat : Int) := u64_shr v (8 * j) (by omega)
    simp -implicitDefEqProofs only [zB1,zB2,zB3,zB4,zB5,zB6,zB7,zB8,zB9,zB10,zB11,y00,y01,y02,y03,y04,y05,y06,y07,y08,y09,y0a,y0b,y0c,y0d,y0e,y0f,y0g,y0h,y0i,y0j,y0k,y0l,y0m,y0n,y0o,y0p,y0q,y0r,y0s,y0t,y0u,y0v,y0w,y0x,y0y,y0z,y10,y11,y12,y13,y14,y15,y16,y17,y18,y19,y1a,y1b,y1c,y1d,y1e,y1f,y1g,y1h,y1i,y1j,y1k,y1l,y1m,y1n,y1o,y1p,y1q,y1r,retO,retL,retV,z69,allV,allP,z6a,z6d,z6e,z6k,z6l,z6m,binV,eqV,unV,oOpt,reduceIte,reduceCtorEq,Nat.reduceEqDiff,Nat.reduceAdd,Nat.reduceMul,Nat.reduceLT,Nat.reduceSub,Int.reduceLT,Int.reduceLE,Int.reduceEq,Int.reduceNe,Int.reduceSub,Int.reduceAdd,Int.reduceMul,Int.reduceBEq,Int.reduceBNe,Int.reduceGT,Int.reduceGE,Nat.reduceGT,Int.reduceToNat,Int.reduceNeg,Nat.reduceLeDiff,Nat.reduceBEq,Nat.reduceBneDiff,Value.cells, e1, w1, w1', n1, Int.toNat_natCast, sh, u64_u8]
    intro b1 hb1
    try simp -implicitDefEqProofs only [zB1,zB2,zB3,zB4,zB5,zB6,zB7,zB8,zB9,zB10,zB11,y00,y01,y02,y03,y04,y05,y06,y07,y08,y09,y0a,y0b,y0c,y0d,y0e,y0f,y0g,y0h,y0i,y0j,y0k,y0l,y0m,y0n,y0o,y0p,y0q,y0r,y0s,y0t,y0u,y0v,y0w,y0x,y0y,y0z,y10,y11,y12,y13,y14,y15,y16,y17,y18,y19,y1a,y1b,y1c,y1d,y1e,y1f,y1g,y1h,y1i,y1j,y1k,y1l,y1m,y1n,y1o,y1p,y1q,y1r,retO,retL,retV,z69,allV,allP,z6a,z6d,z6e,z6k,z6l,z6m,binV,eqV,unV,oOpt,reduceIte,reduceCtorEq,Nat.reduceEqDiff,Nat.reduceAdd,Nat.reduceMul,Nat.reduceLT,Nat.reduceSub,Int.reduceLT,Int.reduceLE,Int.reduceEq,Int.reduceNe,Int.reduceSub,Int.reduceAdd,Int.reduceMul,Int.reduceBEq,Int.reduceBNe,Int.reduceGT,Int.reduceGE,Nat.reduceGT,Int.reduceToNat,Int.reduceNeg,Nat.reduceLeDiff,Nat.reduceBEq,Nat.reduceBneDiff,Value.cells]
    refine app1 leH hb1 ow' (by rw [List.length_append, littleF_len]; omega) ?_
    intro v3 H3 ow3 le3
    simp -implicitDefEqProofs only [zB1,zB2,zB3,zB4,zB5,zB6,zB7,zB8,zB9,zB10,zB11,y00,y01,y02,y03,y04,y05,y06,y07,y08,y09,y0a,y0b,y0c,y0d,y0e,y0f,y0g,y0h,y0i,y0j,y0k,y0l,y0m,y0n,y0o,y0p,y0q,y0r,y0s,y0t,y0u,y0v,y0w,y0x,y0y,y0z,y10,y11,y12,y13,y14,y15,y16,y17,y18,y19,y1a,y1b,y1c,y1d,y1e,y1f,y1g,y1h,y1i,y1j,y1k,y1l,y1m,y1n,y1o,y1p,y1q,y1r,retO,retL,retV,z69,allV,allP,z6a,z6d,z6e,z6k,z6l,z6m,binV,eqV,unV,oOpt,reduceIte,reduceCtorEq,Nat.reduceEqDiff,Nat.reduceAdd,Nat.reduceMul,Nat.reduceLT,Nat.reduceSub,Int.reduceLT,Int.reduceLE,Int.reduceEq,Int.reduceNe,Int.reduceSub,Int.reduceAdd,Int.reduceMul,Int.reduceBEq,Int.reduceBNe,Int.reduceGT,Int.reduceGE,Nat.reduceGT,Int.reduceToNat,Int.reduceNeg,Nat.reduceLeDiff,Nat.reduceBEq,Nat.reduceBneDiff,Value.cells, w2]
    refine ⟨n - (j + 1), by omega, le3, j + 1, v3, rfl, by omega, rfl, ?_⟩
    rw [littleF_succ, ← List.append_assoc]
    exact ow3
  · have e1 : ¬ (j : Int) < n := by omega
    have : j = n := by omega
    subst this
    simp -implicitDefEqProofs only [zB1,zB2,zB3,zB4,zB5,zB6,zB7,zB8,zB9,zB10,zB11,y00,y01,y02,y03,y04,y05,y06,y07,y08,y09,y0a,y0b,y0c,y0d,y0e,y0f,y0g,y0h,y0i,y0j,y0k,y0l,y0m,y0n,y0o,y0p,y0q,y0r,y0s,y0t,y0u,y0v,y0w,y0x,y0y,y0z,y10,y11,y12,y13,y14,y15,y16,y17,y18,y19,y1a,y1b,y1c,y1d,y1e,y1f,y1g,y1h,y1i,y1j,y1k,y1l,y1m,y1n,y1o,y1p,y1q,y1r,retO,retL,retV,z69,allV,allP,z6a,z6d,z6e,z6k,z6l,z6m,binV,eqV,unV,oOpt,reduceIte,reduceCtorEq,Nat.reduceEqDiff,Nat.reduceAdd,Nat.reduceMul,Nat.reduceLT,Nat.reduceSub,Int.reduceLT,Int.reduceLE,Int.reduceEq,Int.reduceNe,Int.reduceSub,Int.reduceAdd,Int.reduceMul,Int.reduceBEq,Int.reduceBNe,Int.reduceGT,Int.reduceGE,Nat.reduceGT,Int.reduceToNat,Int.reduceNeg,Nat.reduceLeDiff,Nat.reduceBEq,Nat.reduceBneDiff,Value.cells, e1]
    exact ⟨leH, ow'⟩
theorem ref1_Xor_c (E : EnvT tab) (h : Heap) {v w : Value} (a b : List UInt8) (ha : a.length ≤ 140737488350000) (s : SlB h v a) (q : SlB h w b) : ACallN E.toEnv n_bandboxref1_Xor [v, w] h fun r h' => h.le h' ∧ OwB h h' r (xorB a b) := by
  obtain ⟨base, c, rfl⟩ := Sl.shape s
  obtain ⟨base2, c2, rfl⟩ := Sl.shape q
  refine acall h_bandboxref1_Xor ir_bandboxref1_Xor rfl rfl (wpA_sound ?_)
  unfold ir_bandboxref1_Xor
  simp -implicitDefEqProofs only [zB1,zB2,zB3,zB4,zB5,zB6,zB7,zB8,zB9,zB10,zB11,y00,y01,y02,y03,y04,y05,y06,y07,y08,y09,y0a,y0b,y0c,y0d,y0e,y0f,y0g,y0h,y0i,y0j,y0k,y0l,y0m,y0n,y0o,y0p,y0q,y0r,y0s,y0t,y0u,y0v,y0w,y0x,y0y,y0z,y10,y11,y12,y13,y14,y15,y16,y17,y18,y19,y1a,y1b,y1c,y1d,y1e,y1f,y1g,y1h,y1i,y1j,y1k,y1l,y1m,y1n,y1o,y1p,y1q,y1r,retO,retL,retV,z69,allV,allP,z6a,z6d,z6e,z6k,z6l,z6m,binV,eqV,unV,oOpt,reduceIte,reduceCtorEq,Nat.reduceEqDiff,Nat.reduceAdd,Nat.reduceMul,Nat.reduceLT,Nat.reduceSub,Int.reduceLT,Int.reduceLE,Int.reduceEq,Int.reduceNe,Int.reduceSub,Int.reduceAdd,Int.reduceMul,Int.reduceBEq,Int.reduceBNe,Int.reduceGT,Int.reduceGE,Nat.reduceGT,Int.reduceToNat,Int.reduceNeg,Nat.reduceLeDiff,Nat.reduceBEq,Nat.reduceBneDiff,Value.cells]
  have hlen := xorB_len a b
  refine wp_loop' (fun m t H => h.le H ∧ ∃ (j : Nat) (v5 : Value), t = tl [(0, .slice base a.length c), (1, .slice base2 b.length c2), (5, v5), (6, .int .i64 j)] ∧ j ≤ min a.length b.length ∧ m = min a.length b.length - j ∧ OwB h H v5 ((xorB a b).take j)) (min a.length b.length)
    ⟨Heap.le_refl _, 0, _, rfl, by omega, by omega, Ow.nil _ _ _⟩ ?_
  rintro m t H ⟨leH, j, v5, rfl, hj, rfl, ow⟩
  by_cases hla : j < a.length
  · have e1 : (j : Int) < (a.length : Int) := by omega
    by_cases hlb : j < b.length
    · have e2 : (j : Int) < (b.length : Int) := by omega
      have e0 : (0 : Int) ≤ (j : Int) := by omega
      obtain ⟨b', o, c', hv, hc, hcl⟩ := Sl.byte_at s j hla
      simp only [Value.slice.injEq, true_and] at hv
      obtain ⟨rfl, rfl⟩ := hv
      obtain ⟨b2', o2, c2', hv2, hc2, hcl2⟩ := Sl.byte_at q j hlb
      simp only [Value.slice.injEq, true_and] at hv2
      obtain ⟨rfl, rfl⟩ := hv2
      have hz := hcl H leH
      have hz2 := hcl2 H leH
      unfold u8V at hz hz2
      have w2 : IntKind.i64.wrap ((j : Int) + 1) = ((j + 1 : Nat) : Int) := wrapN (by omega)
      simp -implicitDefEqProofs only [zB1,zB2,zB3,zB4,zB5,zB6,zB7,zB8,zB9,zB10,zB11,y00,y01,y02,y03,y04,y05,y06,y07,y08,y09,y0a,y0b,y0c,y0d,y0e,y0f,y0g,y0h,y0i,y0j,y0k,y0l,y0m,y0n,y0o,y0p,y0q,y0r,y0s,y0t,y0u,y0v,y0w,y0x,y0y,y0z,y10,y11,y12,y13,y14,y15,y16,y17,y18,y19,y1a,y1b,y1c,y1d,y1e,y1f,y1g,y1h,y1i,y1j,y1k,y1l,y1m,y1n,y1o,y1p,y1q,y1r,retO,retL,retV,z69,allV,allP,z6a,z6d,z6e,z6k,z6l,z6m,binV,eqV,unV,oOpt,reduceIte,reduceCtorEq,Nat.reduceEqDiff,Nat.reduceAdd,Nat.reduceMul,Nat.reduceLT,Nat.reduceSub,Int.reduceLT,Int.reduceLE,Int.reduceEq,Int.reduceNe,Int.reduceSub,Int.reduceAdd,Int.reduceMul,Int.reduceBEq,Int.reduceBNe,Int.reduceGT,Int.reduceGE,Nat.reduceGT,Int.reduceToNat,Int.reduceNeg,Nat.reduceLeDiff,Nat.reduceBEq,Nat.reduceBneDiff,Value.cells, e1, e2, ir_bandboxref1_Xor_19, e0, Int.toNat_natCast, hz, hz2, u8_xorB]
      intro b1 hb1
      try simp -implicitDefEqProofs only [zB1,zB2,zB3,zB4,zB5,zB6,zB7,zB8,zB9,zB10,zB11,y00,y01,y02,y03,y04,y05,y06,y07,y08,y09,y0a,y0b,y0c,y0d,y0e,y0f,y0g,y0h,y0i,y0j,y0k,y0l,y0m,y0n,y0o,y0p,y0q,y0r,y0s,y0t,y0u,y0v,y0w,y0x,y0y,y0z,y10,y11,y12,y13,y14,y15,y16,y17,y18,y19,y1a,y1b,y1c,y1d,y1e,y1f,y1g,y1h,y1i,y1j,y1k,y1l,y1m,y1n,y1o,y1p,y1q,y1r,retO,retL,retV,z69,allV,allP,z6a,z6d,z6e,z6k,z6l,z6m,binV,eqV,unV,oOpt,reduceIte,reduceCtorEq,Nat.reduceEqDiff,Nat.reduceAdd,Nat.reduceMul,Nat.reduceLT,Nat.reduceSub,Int.reduceLT,Int.reduceLE,Int.reduceEq,Int.reduceNe,Int.reduceSub,Int.reduceAdd,Int.reduceMul,Int.reduceBEq,Int.reduceBNe,Int.reduceGT,Int.reduceGE,Nat.reduceGT,Int.reduceToNat,Int.reduceNeg,Nat.reduceLeDiff,Nat.reduceBEq,Nat.reduceBneDiff,Value.cells]
      refine app1 leH hb1 ow (by simp; omega) ?_
      intro v3 H3 ow3 le3
      simp -implicitDefEqProofs only [zB1,zB2,zB3,zB4,zB5,zB6,zB7,zB8,zB9,zB10,zB11,y00,y01,y02,y03,y04,y05,y06,y07,y08,y09,y0a,y0b,y0c,y0d,y0e,y0f,y0g,y0h,y0i,y0j,y0k,y0l,y0m,y0n,y0o,y0p,y0q,y0r,y0s,y0t,y0u,y0v,y0w,y0x,y0y,y0z,y10,y11,y12,y13,y14,y15,y16,y17,y18,y19,y1a,y1b,y1c,y1d,y1e,y1f,y1g,y1h,y1i,y1j,y1k,y1l,y1m,y1n,y1o,y1p,y1q,y1r,retO,retL,retV,z69,allV,allP,z6a,z6d,z6e,z6k,z6l,z6m,binV,eqV,unV,oOpt,reduceIte,reduceCtorEq,Nat.reduceEqDiff,Nat.reduceAdd,Nat.reduceMul,Nat.reduceLT,Nat.reduceSub,Int.reduceLT,Int.reduceLE,Int.reduceEq,Int.reduceNe,Int.reduceSub,Int.reduceAdd,Int.reduceMul,Int.reduceBEq,Int.reduceBNe,Int.reduceGT,Int.reduceGE,Nat.reduceGT,Int.reduceToNat,Int.reduceNeg,Nat.reduceLeDiff,Nat.reduceBEq,Nat.reduceBneDiff,Value.cells, w2]
      refine ⟨_, by omega, le3, j + 1, v3, rfl, by omega, rfl, ?_⟩
      rw [xorB_take a b j hla hlb]
      exact ow3
    · have e2 : ¬ (j : Int) < (b.length : Int) := by omega
      have : j = min a.length b.length := by omega
      rw [List.take_of_length_le (by omega)] at ow
      simp -implicitDefEqProofs only [zB1,zB2,zB3,zB4,zB5,zB6,zB7,zB8,zB9,zB10,zB11,y00,y01,y02,y03,y04,y05,y06,y07,y08,y09,y0a,y0b,y0c,y0d,y0e,y0f,y0g,y0h,y0i,y0j,y0k,y0l,y0m,y0n,y0o,y0p,y0q,y0r,y0s,y0t,y0u,y0v,y0w,y0x,y0y,y0z,y10,y11,y12,y13,y14,y15,y16,y17,y18,y19,y1a,y1b,y1c,y1d,y1e,y1f,y1g,y1h,y1i,y1j,y1k,y1l,y1m,y1n,y1o,y1p,y1q,y1r,retO,retL,retV,z69,allV,allP,z6a,z6d,z6e,z6k,z6l,z6m,binV,eqV,unV,oOpt,reduceIte,reduceCtorEq,Nat.reduceEqDiff,Nat.reduceAdd,Nat.reduceMul,Nat.reduceLT,Nat.reduceSub,Int.reduceLT,Int.reduceLE,Int.reduceEq,Int.reduceNe,Int.reduceSub,Int.reduceAdd,Int.reduceMul,Int.reduceBEq,Int.reduceBNe,Int.reduceGT,Int.reduceGE,Nat.reduceGT,Int.reduceToNat,Int.reduceNeg,Nat.reduceLeDiff,Nat.reduceBEq,Nat.reduceBneDiff,Value.cells, e1, e2]
      exact ⟨leH, ow⟩
  · have e1 : ¬ (j : Int) < (a.length : Int) := by omega
    rw [List.take_of_length_le (by omega)] at ow
    simp -implicitDefEqProofs only [zB1,zB2,zB3,zB4,zB5,zB6,zB7,zB8,zB9,zB10,zB11,y00,y01,y02,y03,y04,y05,y06,y07,y08,y09,y0a,y0b,y0c,y0d,y0e,y0f,y0g,y0h,y0i,y0j,y0k,y0l,y0m,y0n,y0o,y0p,y0q,y0r,y0s,y0t,y0u,y0v,y0w,y0x,y0y,y0z,y10,y11,y12,y13,y14,y15,y16,y17,y18,y19,y1a,y1b,y1c,y1d,y1e,y1f,y1g,y1h,y1i,y1j,y1k,y1l,y1m,y1n,y1o,y1p,y1q,y1r,retO,retL,retV,z69,allV,allP,z6a,z6d,z6e,z6k,z6l,z6m,binV,eqV,unV,oOpt,reduceIte,reduceCtorEq,Nat.reduceEqDiff,Nat.reduceAdd,Nat.reduceMul,Nat.reduceLT,Nat.reduceSub,Int.reduceLT,Int.reduceLE,Int.reduceEq,Int.reduceNe,Int.reduceSub,Int.reduceAdd,Int.reduceMul,Int.reduceBEq,Int.reduceBNe,Int.reduceGT,Int.reduceGE,Nat.reduceGT,Int.reduceToNat,Int.reduceNeg,Nat.reduceLeDiff,Nat.reduceBEq,Nat.reduceBneDiff,Value.cells, e1]
    exact ⟨leH, ow⟩
theorem ref4_word_c (E : EnvT tab) (h : Heap) {v : Value} (l : List UInt8) (hl : 4 ≤ l.length) (s : SlB h v l) : ACallN E.toEnv n_bandboxref4_word [v] h fun r h' => h.le h' ∧ r = .int .u32 ((fromLittleF (l.take 4)).setWidth 32).toNat := by
  obtain ⟨base, c, rfl⟩ := Sl.shape s
  refine acall h_bandboxref4_word ir_bandboxref4_word rfl rfl (wpA_sound ?_)
  unfold ir_bandboxref4_word
  have hc : l.length ≤ c := by
    rcases s with ⟨e, hn, _⟩ | ⟨a, c', e, hc, _⟩
    · omega
    · cases e; exact hc
  have bd : bnds l.length c none (some (some (.int .i64 4))) none = some (0, 4, c) := bnds_hi (by omega) (by omega)
  have hs := Sl.headB s (m := 4) hl
  have l4 : (l.take 4).length = 4 := by simp; omega
  unfold SlB at hs
  rw [l4] at hs
  simp -implicitDefEqProofs only [zB1,zB2,zB3,zB4,zB5,zB6,zB7,zB8,zB9,zB10,zB11,y00,y01,y02,y03,y04,y05,y06,y07,y08,y09,y0a,y0b,y0c,y0d,y0e,y0f,y0g,y0h,y0i,y0j,y0k,y0l,y0m,y0n,y0o,y0p,y0q,y0r,y0s,y0t,y0u,y0v,y0w,y0x,y0y,y0z,y10,y11,y12,y13,y14,y15,y16,y17,y18,y19,y1a,y1b,y1c,y1d,y1e,y1f,y1g,y1h,y1i,y1j,y1k,y1l,y1m,y1n,y1o,y1p,y1q,y1r,retO,retL,retV,z69,allV,allP,z6a,z6d,z6e,z6k,z6l,z6m,binV,eqV,unV,oOpt,reduceIte,reduceCtorEq,Nat.reduceEqDiff,Nat.reduceAdd,Nat.reduceMul,Nat.reduceLT,Nat.reduceSub,Int.reduceLT,Int.reduceLE,Int.reduceEq,Int.reduceNe,Int.reduceSub,Int.reduceAdd,Int.reduceMul,Int.reduceBEq,Int.reduceBNe,Int.reduceGT,Int.reduceGE,Nat.reduceGT,Int.reduceToNat,Int.reduceNeg,Nat.reduceLeDiff,Nat.reduceBEq,Nat.reduceBneDiff,Value.cells, bd, Nat.sub_zero]
  rw [addO base c fun a _ => addr_add0 a]
  refine (ref1_FromLittle_c E h (l.take 4) (by omega) (by unfold SlB; rw [l4]; exact hs)).mono ?_
  rintro r h1 ⟨le1, rfl⟩
  simp -implicitDefEqProofs only [zB1,zB2,zB3,zB4,zB5,zB6,zB7,zB8,zB9,zB10,zB11,y00,y01,y02,y03,y04,y05,y06,y07,y08,y09,y0a,y0b,y0c,y0d,y0e,y0f,y0g,y0h,y0i,y0j,y0k,y0l,y0m,y0n,y0o,y0p,y0q,y0r,y0s,y0t,y0u,y0v,y0w,y0x,y0y,y0z,y10,y11,y12,y13,y14,y15,y16,y17,y18,y19,y1a,y1b,y1c,y1d,y1e,y1f,y1g,y1h,y1i,y1j,y1k,y1l,y1m,y1n,y1o,y1p,y1q,y1r,retO,retL,retV,z69,allV,allP,z6a,z6d,z6e,z6k,z6l,z6m,binV,eqV,unV,oOpt,reduceIte,reduceCtorEq,Nat.reduceEqDiff,Nat.reduceAdd,Nat.reduceMul,Nat.reduceLT,Nat.reduceSub,Int.reduceLT,Int.reduceLE,Int.reduceEq,Int.reduceNe,Int.reduceSub,Int.reduceAdd,Int.reduceMul,Int.reduceBEq,Int.reduceBNe,Int.reduceGT,Int.reduceGE,Nat.reduceGT,Int.reduceToNat,Int.reduceNeg,Nat.reduceLeDiff,Nat.reduceBEq,Nat.reduceBneDiff,Value.cells, u64V, u64_u32]
  exact le1
theorem chacha_word_c (E : EnvT tab) (h : Heap) {v : Value} (l : List UInt8) (hl : 4 ≤ l.length) (s : SlB h v l) : ACallN E.toEnv n_chacha_word [v] h fun r h' => h.le h' ∧ r = .int .u32 ((fromLittleF (l.take 4)).setWidth 32).toNat := by
  obtain ⟨base, c, rfl⟩ := Sl.shape s
  refine acall h_chacha_word ir_chacha_word rfl rfl (wpA_sound ?_)
  unfold ir_chacha_word
  have hc : l.length ≤ c := by
    rcases s with ⟨e, hn, _⟩ | ⟨a, c', e, hc, _⟩
    · omega
    · cases e; exact hc
  have bd : bnds l.length c none (some (some (.int .i64 4))) none = some (0, 4, c) := bnds_hi (by omega) (by omega)
  have hs := Sl.headB s (m := 4) hl
  have l4 : (l.take 4).length = 4 := by simp; omega
  unfold SlB at hs
  rw [l4] at hs
  simp -implicitDefEqProofs only [zB1,zB2,zB3,zB4,zB5,zB6,zB7,zB8,zB9,zB10,zB11,y00,y01,y02,y03,y04,y05,y06,y07,y08,y09,y0a,y0b,y0c,y0d,y0e,y0f,y0g,y0h,y0i,y0j,y0k,y0l,y0m,y0n,y0o,y0p,y0q,y0r,y0s,y0t,y0u,y0v,y0w,y0x,y0y,y0z,y10,y11,y12,y13,y14,y15,y16,y17,y18,y19,y1a,y1b,y1c,y1d,y1e,y1f,y1g,y1h,y1i,y1j,y1k,y1l,y1m,y1n,y1o,y1p,y1q,y1r,retO,retL,retV,z69,allV,allP,z6a,z6d,z6e,z6k,z6l,z6m,binV,eqV,unV,oOpt,reduceIte,reduceCtorEq,Nat.reduceEqDiff,Nat.reduceAdd,Nat.reduceMul,Nat.reduceLT,Nat.reduceSub,Int.reduceLT,Int.reduceLE,Int.reduceEq,Int.reduceNe,Int.reduceSub,Int.reduceAdd,Int.reduceMul,Int.reduceBEq,Int.reduceBNe,Int.reduceGT,Int.reduceGE,Nat.reduceGT,Int.reduceToNat,Int.reduceNeg,Nat.reduceLeDiff,Nat.reduceBEq,Nat.reduceBneDiff,Value.cells, bd, Nat.sub_zero]
  rw [addO base c fun a _ => addr_add0 a]
  refine (octet_FromLittle_c E h (l.take 4) (by omega) (by unfold SlB; rw [l4]; exact hs)).mono ?_
  rintro r h1 ⟨le1, rfl⟩
  simp -implicitDefEqProofs only [zB1,zB2,zB3,zB4,zB5,zB6,zB7,zB8,zB9,zB10,zB11,y00,y01,y02,y03,y04,y05,y06,y07,y08,y09,y0a,y0b,y0c,y0d,y0e,y0f,y0g,y0h,y0i,y0j,y0k,y0l,y0m,y0n,y0o,y0p,y0q,y0r,y0s,y0t,y0u,y0v,y0w,y0x,y0y,y0z,y10,y11,y12,y13,y14,y15,y16,y17,y18,y19,y1a,y1b,y1c,y1d,y1e,y1f,y1g,y1h,y1i,y1j,y1k,y1l,y1m,y1n,y1o,y1p,y1q,y1r,retO,retL,retV,z69,allV,allP,z6a,z6d,z6e,z6k,z6l,z6m,binV,eqV,unV,oOpt,reduceIte,reduceCtorEq,Nat.reduceEqDiff,Nat.reduceAdd,Nat.reduceMul,Nat.reduceLT,Nat.reduceSub,Int.reduceLT,Int.reduceLE,Int.reduceEq,Int.reduceNe,Int.reduceSub,Int.reduceAdd,Int.reduceMul,Int.reduceBEq,Int.reduceBNe,Int.reduceGT,Int.reduceGE,Nat.reduceGT,Int.reduceToNat,Int.reduceNeg,Nat.reduceLeDiff,Nat.reduceBEq,Nat.reduceBneDiff,Value.cells, u64V, u64_u32]
  exact le1
end Go.Bb
