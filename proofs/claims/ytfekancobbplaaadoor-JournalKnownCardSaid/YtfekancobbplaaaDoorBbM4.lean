/- My contracts: BbLjou0 BbCoct2 BbCoct3 BbLjou1 BbLjou2 BbLjou3 BbLjou4 BbLjou5 BbLjou6 BbCjou8 BbLjou7 BbLjouA BbLjou11. -/
import Derived.Test.YtfekancobbplaaaDoorBbM3
import Derived.Test.YtfekancobbplaaaDoorBbG3
import Derived.Test.YtfekancobbplaaaDoorBbM1
/- Laws on journals: what all share. -/
namespace Go.Bb
set_option linter.unusedSimpArgs false
set_option linter.unusedVariables false
set_option maxRecDepth 100000
set_option maxHeartbeats 2000000

theorem law14_same_c (E : EnvT tab) {H : Heap} {v w : Value} (A B : List (List UInt8)) (sA : SlL H v A) (sB : SlL H w B) (hA : A.length ≤ 1000000000) (hB : B.length ≤ 1000000000) : ACallN E.toEnv n_bandboxlaw14_same [v, w] H fun r H' => H' = H ∧ r = .bool (decide (A = B)) := by
  obtain ⟨Ab, Ac, rfl⟩ := sA.shape
  obtain ⟨Bb', Bc, rfl⟩ := sB.shape
  refine acall h_bandboxlaw14_same ir_bandboxlaw14_same rfl rfl (wpA_sound ?_)
  unfold ir_bandboxlaw14_same
  by_cases hl : A.length = B.length
  · have hl' : ((A.length : Int) != (B.length : Int)) = false := by rw [hl]; simp
    simp -implicitDefEqProofs only [zB1,zB2,zB3,zB4,zB5,zB6,zB7,zB8,zB9,zB10,zB11,y00,y01,y02,y03,y04,y05,y06,y07,y08,y09,y0a,y0b,y0c,y0d,y0e,y0f,y0g,y0h,y0i,y0j,y0k,y0l,y0m,y0n,y0o,y0p,y0q,y0r,y0s,y0t,y0u,y0v,y0w,y0x,y0y,y0z,y10,y11,y12,y13,y14,y15,y16,y17,y18,y19,y1a,y1b,y1c,y1d,y1e,y1f,y1g,y1h,y1i,y1j,y1k,y1l,y1m,y1n,y1o,y1p,y1q,y1r,retO,retL,retV,z6i,allV,allP,z6j,z6m,z6n,z6t,z6u,z6v,binV,eqV,unV,oOpt,reduceIte,reduceCtorEq,Nat.reduceEqDiff,Nat.reduceAdd,Nat.reduceMul,Nat.reduceLT,Nat.reduceSub,Int.reduceLT,Int.reduceLE,Int.reduceEq,Int.reduceNe,Int.reduceSub,Int.reduceAdd,Int.reduceMul,Int.reduceBEq,Int.reduceBNe,Int.reduceGT,Int.reduceGE,Nat.reduceGT,Int.reduceToNat,Int.reduceNeg,Nat.reduceLeDiff,Nat.reduceBEq,Nat.reduceBneDiff,Value.cells, hl']
    unfold ir_bandboxlaw14_same_5
    simp -implicitDefEqProofs only [zB1,zB2,zB3,zB4,zB5,zB6,zB7,zB8,zB9,zB10,zB11,y00,y01,y02,y03,y04,y05,y06,y07,y08,y09,y0a,y0b,y0c,y0d,y0e,y0f,y0g,y0h,y0i,y0j,y0k,y0l,y0m,y0n,y0o,y0p,y0q,y0r,y0s,y0t,y0u,y0v,y0w,y0x,y0y,y0z,y10,y11,y12,y13,y14,y15,y16,y17,y18,y19,y1a,y1b,y1c,y1d,y1e,y1f,y1g,y1h,y1i,y1j,y1k,y1l,y1m,y1n,y1o,y1p,y1q,y1r,retO,retL,retV,z6i,allV,allP,z6j,z6m,z6n,z6t,z6u,z6v,binV,eqV,unV,oOpt,reduceIte,reduceCtorEq,Nat.reduceEqDiff,Nat.reduceAdd,Nat.reduceMul,Nat.reduceLT,Nat.reduceSub,Int.reduceLT,Int.reduceLE,Int.reduceEq,Int.reduceNe,Int.reduceSub,Int.reduceAdd,Int.reduceMul,Int.reduceBEq,Int.reduceBNe,Int.reduceGT,Int.reduceGE,Nat.reduceGT,Int.reduceToNat,Int.reduceNeg,Nat.reduceLeDiff,Nat.reduceBEq,Nat.reduceBneDiff,Value.cells]
    refine wp_loop' (fun m t G => G = H ∧ ∃ i : Nat, t = tl [(0, .slice Ab A.length Ac), (1, .slice Bb' B.length Bc), (5, .int .i64 i)] ∧ i ≤ A.length ∧ m = A.length - i ∧ A.take i = B.take i) A.length
      ⟨rfl, 0, rfl, by omega, by omega, by simp⟩ ?_
    rintro m t G ⟨rfl, i, rfl, hi, rfl, he⟩
    by_cases hlt : i < A.length
    · have hi1 : (i : Int) < A.length := by omega
      have hi2 : (0 : Int) ≤ i := by omega
      have hi3 : (i : Int) < B.length := by omega
      have w1 : IntKind.i64.wrap ((i : Int) + 1) = ((i + 1 : Nat) : Int) := wrapN (by omega)
      obtain ⟨b, o, bi, ci, rfl, si, ciH⟩ := sA.at' i hlt
      obtain ⟨b2, o2, bi2, ci2, rfl, si2, ciH2⟩ := sB.at' i (by omega)
      have c1 := ciH G (Heap.le_refl _)
      have c2 := ciH2 G (Heap.le_refl _)
      have f1 := strOfV_sl si
      have f2 := strOfV_sl si2
      simp only [strV] at f1 f2
      by_cases e : A[i] = B[i]'(by omega)
      · have e1 : (A[i] == B[i]'(by omega)) = true := by rw [e]; simp
        simp -implicitDefEqProofs only [zB1,zB2,zB3,zB4,zB5,zB6,zB7,zB8,zB9,zB10,zB11,y00,y01,y02,y03,y04,y05,y06,y07,y08,y09,y0a,y0b,y0c,y0d,y0e,y0f,y0g,y0h,y0i,y0j,y0k,y0l,y0m,y0n,y0o,y0p,y0q,y0r,y0s,y0t,y0u,y0v,y0w,y0x,y0y,y0z,y10,y11,y12,y13,y14,y15,y16,y17,y18,y19,y1a,y1b,y1c,y1d,y1e,y1f,y1g,y1h,y1i,y1j,y1k,y1l,y1m,y1n,y1o,y1p,y1q,y1r,retO,retL,retV,z6i,allV,allP,z6j,z6m,z6n,z6t,z6u,z6v,binV,eqV,unV,oOpt,reduceIte,reduceCtorEq,Nat.reduceEqDiff,Nat.reduceAdd,Nat.reduceMul,Nat.reduceLT,Nat.reduceSub,Int.reduceLT,Int.reduceLE,Int.reduceEq,Int.reduceNe,Int.reduceSub,Int.reduceAdd,Int.reduceMul,Int.reduceBEq,Int.reduceBNe,Int.reduceGT,Int.reduceGE,Nat.reduceGT,Int.reduceToNat,Int.reduceNeg,Nat.reduceLeDiff,Nat.reduceBEq,Nat.reduceBneDiff,Value.cells, hi1, hi2, hi3, Int.toNat_natCast, c1, c2, f1, f2, str_toList, e1, w1]
        refine ⟨_, ?_, i + 1, rfl, by omega, rfl, ?_⟩
        · omega
        · rw [List.take_succ_eq_append_getElem hlt, List.take_succ_eq_append_getElem (by omega), he, e]
      · have e1 : (A[i] == B[i]'(by omega)) = false := by simpa using e
        have en : ¬ A = B := fun q => e (by subst q; rfl)
        simp -implicitDefEqProofs only [zB1,zB2,zB3,zB4,zB5,zB6,zB7,zB8,zB9,zB10,zB11,y00,y01,y02,y03,y04,y05,y06,y07,y08,y09,y0a,y0b,y0c,y0d,y0e,y0f,y0g,y0h,y0i,y0j,y0k,y0l,y0m,y0n,y0o,y0p,y0q,y0r,y0s,y0t,y0u,y0v,y0w,y0x,y0y,y0z,y10,y11,y12,y13,y14,y15,y16,y17,y18,y19,y1a,y1b,y1c,y1d,y1e,y1f,y1g,y1h,y1i,y1j,y1k,y1l,y1m,y1n,y1o,y1p,y1q,y1r,retO,retL,retV,z6i,allV,allP,z6j,z6m,z6n,z6t,z6u,z6v,binV,eqV,unV,oOpt,reduceIte,reduceCtorEq,Nat.reduceEqDiff,Nat.reduceAdd,Nat.reduceMul,Nat.reduceLT,Nat.reduceSub,Int.reduceLT,Int.reduceLE,Int.reduceEq,Int.reduceNe,Int.reduceSub,Int.reduceAdd,Int.reduceMul,Int.reduceBEq,Int.reduceBNe,Int.reduceGT,Int.reduceGE,Nat.reduceGT,Int.reduceToNat,Int.reduceNeg,Nat.reduceLeDiff,Nat.reduceBEq,Nat.reduceBneDiff,Value.cells, hi1, hi2, hi3, Int.toNat_natCast, c1, c2, f1, f2, str_toList, e1, en]
    · have hi1 : ¬ (i : Int) < A.length := by omega
      have e0 : i = A.length := by omega
      subst e0
      rw [List.take_length, hl, List.take_length] at he
      subst he
      simp -implicitDefEqProofs only [zB1,zB2,zB3,zB4,zB5,zB6,zB7,zB8,zB9,zB10,zB11,y00,y01,y02,y03,y04,y05,y06,y07,y08,y09,y0a,y0b,y0c,y0d,y0e,y0f,y0g,y0h,y0i,y0j,y0k,y0l,y0m,y0n,y0o,y0p,y0q,y0r,y0s,y0t,y0u,y0v,y0w,y0x,y0y,y0z,y10,y11,y12,y13,y14,y15,y16,y17,y18,y19,y1a,y1b,y1c,y1d,y1e,y1f,y1g,y1h,y1i,y1j,y1k,y1l,y1m,y1n,y1o,y1p,y1q,y1r,retO,retL,retV,z6i,allV,allP,z6j,z6m,z6n,z6t,z6u,z6v,binV,eqV,unV,oOpt,reduceIte,reduceCtorEq,Nat.reduceEqDiff,Nat.reduceAdd,Nat.reduceMul,Nat.reduceLT,Nat.reduceSub,Int.reduceLT,Int.reduceLE,Int.reduceEq,Int.reduceNe,Int.reduceSub,Int.reduceAdd,Int.reduceMul,Int.reduceBEq,Int.reduceBNe,Int.reduceGT,Int.reduceGE,Nat.reduceGT,Int.reduceToNat,Int.reduceNeg,Nat.reduceLeDiff,Nat.reduceBEq,Nat.reduceBneDiff,Value.cells, hi1]
  · have hl' : ((A.length : Int) != (B.length : Int)) = true := by simp; omega
    have en : ¬ A = B := fun q => hl (by rw [q])
    simp -implicitDefEqProofs only [zB1,zB2,zB3,zB4,zB5,zB6,zB7,zB8,zB9,zB10,zB11,y00,y01,y02,y03,y04,y05,y06,y07,y08,y09,y0a,y0b,y0c,y0d,y0e,y0f,y0g,y0h,y0i,y0j,y0k,y0l,y0m,y0n,y0o,y0p,y0q,y0r,y0s,y0t,y0u,y0v,y0w,y0x,y0y,y0z,y10,y11,y12,y13,y14,y15,y16,y17,y18,y19,y1a,y1b,y1c,y1d,y1e,y1f,y1g,y1h,y1i,y1j,y1k,y1l,y1m,y1n,y1o,y1p,y1q,y1r,retO,retL,retV,z6i,allV,allP,z6j,z6m,z6n,z6t,z6u,z6v,binV,eqV,unV,oOpt,reduceIte,reduceCtorEq,Nat.reduceEqDiff,Nat.reduceAdd,Nat.reduceMul,Nat.reduceLT,Nat.reduceSub,Int.reduceLT,Int.reduceLE,Int.reduceEq,Int.reduceNe,Int.reduceSub,Int.reduceAdd,Int.reduceMul,Int.reduceBEq,Int.reduceBNe,Int.reduceGT,Int.reduceGE,Nat.reduceGT,Int.reduceToNat,Int.reduceNeg,Nat.reduceLeDiff,Nat.reduceBEq,Nat.reduceBneDiff,Value.cells, hl', en]
theorem open_empty (room : Int) : openF { room := room } = (some { lives := 1 }, { room := room }, 0) := by rfl
theorem readBase_empty (room : Int) : readBaseF { lives := 1 } { room := room } = ({ lives := 1 }, 0) := by rfl
end Go.Bb
/- Contracts: numbers, the lowest byte first. -/
namespace Go.Bb
set_option linter.unusedSimpArgs false
set_option linter.unusedVariables false
set_option maxRecDepth 20000

end Go.Bb
/- Contracts: bytes turned round. -/
namespace Go.Bb
set_option linter.unusedSimpArgs false
set_option linter.unusedVariables false
set_option maxRecDepth 20000

end Go.Bb
/- Rows with colours; the law JournalApart. -/
namespace Go.Bb
set_option linter.unusedSimpArgs false
set_option linter.unusedVariables false
set_option maxRecDepth 20000
set_option maxHeartbeats 2000000

/-- Rows that are ours: a thing of their own. -/
def RowsK (κ : Pal) (H : Heap) (T : Nat) (v : Value) (L : List (List UInt8)) : Prop :=
  ∃ vs : List Value, OwK κ (T, 0, 12) H 1 v L.length vs ∧ vs.length = L.length ∧ ∀ i (h1 : i < vs.length) (h2 : i < L.length), OwK κ (T, i, 11) H 1 vs[i] L[i].length (L[i].map u8V)
theorem RowsK.ext {cs : Col → Prop} {κ κ' : Pal} {H H' : Heap} {T : Nat} {v : Value} {L : List (List UInt8)} (a : Ext cs κ H κ' H') (n : ∀ c : Col, c.1 = T → ¬ cs c) (R : RowsK κ H T v L) : RowsK κ' H' T v L := by
  obtain ⟨vs, s, l, e⟩ := R
  exact ⟨vs, a.own (n _ rfl) s, l, fun i h1 h2 => a.own (n _ rfl) (e i h1 h2)⟩
theorem RowsK.sl {κ : Pal} {H : Heap} {T : Nat} {v : Value} {L : List (List UInt8)} (n : RowsK κ H T v L) : SlL H v L := by
  obtain ⟨vs, s, l, e⟩ := n
  exact ⟨vs, l, s.sl, fun i h1 h2 => (e i h1 h2).sl⟩
theorem RowsK.nil (κ : Pal) (H : Heap) (T : Nat) : RowsK κ H T (.slice none 0 0) [] := ⟨[], Ow.nil _ _ _, rfl, fun i h1 => by simp at h1⟩
/-- A palette that has new colours for what is new. -/
def Pal.merge (κ : Pal) (H : Heap) (κi : Pal) (T : Nat) : Pal := fun b => if H b = none then (κi b).map (fun c => (T, c.2)) else κ b
theorem Ext.merge {cs : Col → Prop} {κ κi : Pal} {H H' : Heap} (T : Nat) (h : H.le H') : Ext cs κ H (κ.merge H κi T) H' := by
  intro b x q n
  refine ⟨h b x q, ?_⟩
  unfold Pal.merge; rw [if_neg (by rw [q]; simp)]
theorem merge_own {κ κi : Pal} {H H' : Heap} {T : Nat} {x : Nat × Nat} (hi : ∀ b, H b ≠ none → κi b = none) {size m : Nat} {v : Value} {cells : List Value} (s : OwK κi (0, x) H' size v m cells) : OwK (κ.merge H κi T) (T, x) H' size v m cells := by
  rcases s with s | ⟨b, o, c', sz, st, pre, rest, h1, h2, h3, h4, h5⟩
  · exact .inl s
  · refine .inr ⟨b, o, c', sz, st, pre, rest, h1, h2, Heap.but_none.2 (.inl ?_), h4, h5⟩
    rcases Heap.but_none.1 h3 with hk | hn
    · unfold Pal.merge
      rw [if_pos]
      · rw [hk]; rfl
      · cases hH : H b with
        | none => rfl
        | some y => rw [hi b (by rw [hH]; simp)] at hk; cases hk
    · rw [hn] at h4; cases h4
theorem NewL.rows {κ κi : Pal} {H H' : Heap} {v : Value} {L : List (List UInt8)} (T : Nat) (n : NewL H H' κi v L) : RowsK (κ.merge H κi T) H' T v L := by
  obtain ⟨hi, vs, s, l, e⟩ := n
  exact ⟨vs, merge_own hi s, l, fun i h1 h2 => merge_own hi (e i h1 h2)⟩
theorem lit1_bare {κ : Pal} {H h0 : Heap} {b : Nat} (hb : H b = none) (le : h0.le (H.bare κ)) {wv : Value} {l : List UInt8} (s : SlB h0 wv l) : SlL ((H.set b (.own 0 [wv] 1)).bare (fun i => if i = b then none else κ i)) (.slice (some ⟨b, 0, none⟩) 1 1) [l] := by
  have e : Ext (fun _ => False) κ H (fun i => if i = b then none else κ i) (H.set b (.own 0 [wv] 1)) := Ext.new hb _ none
  refine ⟨[wv], rfl, ?_, ?_⟩
  · refine .inr ⟨⟨b, 0, none⟩, 1, rfl, Nat.le_refl _, ?_⟩
    rw [hcells_at (vs := [wv]) (sz := 1) (Heap.bare_some.2 ⟨Heap.set_self _ _ _, by simp⟩) (by simp)]
    rfl
  · intro i h1 h2
    have : i = 0 := by simp at h1; omega
    subst this
    exact s.le (Heap.le_trans le e.bare)
theorem add1 {J : JF} {D : DiskF} {b : List UInt8} (dn : doneF J D = false) (hb : b.length ≤ 16384) (h : (appendF D (nameF J.turn J.part) (frameF b)).2 = 0) :
    addF J D [b] = ({ J with written := true, recs := J.recs ++ [b] }, (appendF D (nameF J.turn J.part) (frameF b)).1, 0) := by
  unfold addF
  have : [b].any (fun b => decide (16384 < b.length)) = false := by simp; omega
  rw [dn, this]
  simp only [addL, h, if_true, Bool.false_eq_true, if_false]
end Go.Bb
/- Frames, plainly: what is read back. -/
namespace Go.Bb
set_option linter.unusedSimpArgs false
set_option linter.unusedVariables false
set_option maxRecDepth 20000

theorem take_app' {α : Type} {a b : List α} {n : Nat} (h : a.length = n) : (a ++ b).take n = a := by subst h; simp
theorem drop_app' {α : Type} {a b : List α} {n : Nat} (h : a.length = n) : (a ++ b).drop n = b := by subst h; simp
theorem big_step (v : U64) (n : Nat) : (v >>> (8 * (n + 1))) <<< 8 ||| BitVec.ofNat 64 (UInt8.ofNat (v >>> (8 * n)).toNat).toNat = v >>> (8 * n) := by
  apply BitVec.eq_of_getLsbD_eq
  intro i hi
  have e : (UInt8.ofNat (v >>> (8 * n)).toNat).toNat = (v >>> (8 * n)).toNat % 2 ^ 8 := by simp
  rw [e]
  simp only [BitVec.getLsbD_or, BitVec.getLsbD_shiftLeft, BitVec.getLsbD_ushiftRight, BitVec.getLsbD_ofNat, hi, decide_true, Bool.true_and, Nat.testBit_mod_two_pow]
  by_cases h8 : i < 8
  · have : (v >>> (8 * n)).toNat.testBit i = v.getLsbD (8 * n + i) := by
      rw [← BitVec.getLsbD_ushiftRight]; rfl
    simp [h8, this]
    rfl
  · simp only [h8, decide_false, Bool.not_false, Bool.true_and, Bool.false_and, Bool.or_false]
    congr 1; omega
theorem big_fold (v : U64) : ∀ n, (bigF v n).foldl (fun (w : U64) (b : UInt8) => w <<< 8 ||| BitVec.ofNat 64 b.toNat) (v >>> (8 * n)) = v
  | 0 => by simp [bigF]
  | n + 1 => by
    rw [bigF_succ, List.foldl_cons, big_step]
    exact big_fold v n
theorem fromBig_big (v : U64) (n : Nat) (h : v.toNat < 2 ^ (8 * n)) : fromBigF (bigF v n) = v := by
  have : v >>> (8 * n) = 0#64 := by
    apply BitVec.eq_of_toNat_eq
    rw [BitVec.toNat_ushiftRight, Nat.shiftRight_eq_div_pow, Nat.div_eq_of_lt h]; rfl
  unfold fromBigF
  have h2 := big_fold v n
  rw [this] at h2
  exact h2
theorem fromBig_be4 {n : Nat} (h : n < 4294967296) : (fromBigF (be4 n)).toNat = n := by
  unfold be4
  have e : (BitVec.ofNat 64 n).toNat = n := by rw [BitVec.toNat_ofNat]; omega
  rw [fromBig_big _ 4 (by rw [e]; omega), e]
theorem nextF_frame (b r : List UInt8) (h : b.length < 4294967296) : nextF (frameF b ++ r) = some (b, r) := by
  have hS := shaF_len (be4 b.length ++ b)
  have hfr := frameF_len b
  have h4 := be4_len b.length
  have hb := fromBig_be4 h
  have eF : frameF b ++ r = be4 b.length ++ ((shaF (be4 b.length ++ b)).take 16 ++ (b ++ r)) := by unfold frameF; simp only [List.append_assoc]
  have l16 : ((shaF (be4 b.length ++ b)).take 16).length = 16 := by rw [List.length_take]; omega
  have t4 : (frameF b ++ r).take 4 = be4 b.length := by rw [eF]; exact take_app' h4
  have d4 : ((frameF b ++ r).drop 4).take 16 = (shaF (be4 b.length ++ b)).take 16 := by rw [eF, drop_app' h4]; exact take_app' l16
  have d20 : (frameF b ++ r).drop 20 = b ++ r := by
    rw [eF, ← List.append_assoc]
    exact drop_app' (by rw [List.length_append]; omega)
  have dn : (frameF b ++ r).drop (20 + b.length) = r := drop_app' (by rw [hfr])
  unfold nextF
  rw [t4, hb, d20, take_app' rfl, d4, dn, if_neg (by rw [List.length_append]; omega), if_neg (by rw [List.length_append]; omega), if_pos rfl]
theorem parse_fuel : ∀ (n m : Nat) (b : List UInt8), b.length ≤ n → b.length ≤ m → parseF n b = parseF m b
  | 0, 0, _, _, _ => rfl
  | 0, m + 1, b, h, _ => by
    have : b.length = 0 := by omega
    simp [parseF, this]
  | n + 1, 0, b, _, h => by
    have : b.length = 0 := by omega
    simp [parseF, this]
  | n + 1, m + 1, b, h1, h2 => by
    unfold parseF
    by_cases hz : b.length = 0
    · rw [if_pos hz, if_pos hz]
    · rw [if_neg hz, if_neg hz]
      cases hn : nextF b with
      | none => rfl
      | some q =>
        obtain ⟨x, y⟩ := q
        have := (nextF_len hn).1
        simp only
        rw [parse_fuel n m y (by omega) (by omega)]
def parse (b : List UInt8) : List (List UInt8) × Bool := parseF b.length b
theorem parse_nil : parse [] = ([], true) := rfl
theorem parse_none {b : List UInt8} (h : nextF b = none) (hz : b ≠ []) : parse b = ([], false) := by
  unfold parse
  cases b with
  | nil => exact absurd rfl hz
  | cons x l => simp [parseF, h]
theorem parse_some {b x y : List UInt8} (h : nextF b = some (x, y)) : parse b = (x :: (parse y).1, (parse y).2) := by
  have hl := (nextF_len h).1
  unfold parse
  obtain ⟨n, hn⟩ : ∃ n, b.length = n + 1 := ⟨b.length - 1, by omega⟩
  rw [hn, parseF, if_neg (by omega), h]
  simp only
  rw [parse_fuel n y.length y (by omega) (Nat.le_refl _)]
theorem parse_frames : ∀ (w : List (List UInt8)) (R : List UInt8), (∀ b ∈ w, b.length < 4294967296) → parse (w.flatMap frameF ++ R) = (w ++ (parse R).1, (parse R).2)
  | [], R, _ => rfl
  | b :: w, R, h => by
    rw [List.flatMap_cons, List.append_assoc, parse_some (nextF_frame b _ (h b (by simp))), parse_frames w R fun x hx => h x (List.mem_cons_of_mem _ hx)]
    rfl
theorem parse_all (w : List (List UInt8)) (h : ∀ b ∈ w, b.length < 4294967296) : parse (w.flatMap frameF) = (w, true) := by
  have := parse_frames w [] h
  rw [List.append_nil, parse_nil, List.append_nil] at this
  exact this
end Go.Bb
/- A journal's disk, plainly: the base, the files of records. -/
namespace Go.Bb
set_option linter.unusedSimpArgs false
set_option linter.unusedVariables false
set_option maxRecDepth 20000

def partsF (T : Nat) : Nat → List FileF → Files
  | _, [] => []
  | k, F :: l => (nameF T k, F) :: partsF T (k + 1) l
def be8 (T : Nat) : List UInt8 := bigF (BitVec.ofNat 64 T) 8
def baseL (T : Nat) (base : List UInt8) : Files := if T = 0 then [] else [(baseN, ⟨frameF (be8 T ++ base), []⟩)]
def dJ (room lives : Int) (T : Nat) (base : List UInt8) (fs : List FileF) : DiskF := { room := room, files := baseL T base ++ partsF T 0 fs, on := true, lives := lives }
theorem look_app' (A B : Files) (s : List UInt8) : lookF (A ++ B) s = (lookF A s).or (lookF B s) := by
  unfold lookF
  rw [List.find?_append]
  cases List.find? (fun x => decide (x.1 = s)) A <;> rfl
theorem look_cons (x : List UInt8 × FileF) (L : Files) (s : List UInt8) : lookF (x :: L) s = if x.1 = s then some x.2 else lookF L s := by
  unfold lookF
  rw [List.find?_cons]
  by_cases h : x.1 = s <;> simp [h]
theorem name_ne_base (T k : Nat) : nameF T k ≠ baseN := by
  obtain ⟨x, h⟩ := name_r T k
  rw [h]; simp [baseN]
theorem name_ne_new (T k : Nat) : nameF T k ≠ newN := by
  obtain ⟨x, h⟩ := name_r T k
  rw [h]; simp [newN]
theorem look_parts {T q : Nat} (hT : T < 64) (hq : q < 64) : ∀ (k : Nat) (fs : List FileF), k + fs.length ≤ 64 → lookF (partsF T k fs) (nameF T q) = if k ≤ q then fs[q - k]? else none
  | k, [], _ => by simp [partsF, lookF]
  | k, F :: l, h => by
    simp only [List.length_cons] at h
    rw [partsF, look_cons, look_parts hT hq (k + 1) l (by omega)]
    by_cases e : nameF T k = nameF T q
    · obtain ⟨-, rfl⟩ := name_inj hT (by omega) hT hq e
      simp
    · have hk : k ≠ q := fun h => e (by rw [h])
      rw [if_neg e]
      by_cases h1 : k ≤ q
      · rw [if_pos (by omega), if_pos h1]
        rw [show q - k = q - (k + 1) + 1 by omega, List.getElem?_cons_succ]
      · rw [if_neg (by omega), if_neg h1]
theorem look_parts_ne {T : Nat} {s : List UInt8} : ∀ (k : Nat) (fs : List FileF), (∀ q, k ≤ q → q < k + fs.length → nameF T q ≠ s) → lookF (partsF T k fs) s = none
  | k, [], _ => by simp [partsF, lookF]
  | k, F :: l, h => by
    rw [partsF, look_cons, if_neg (h k (Nat.le_refl _) (by simp)), look_parts_ne (k + 1) l fun q h1 h2 => h q (by omega) (by simp only [List.length_cons]; omega)]
theorem turn_parts {T q : Nat} (hT : T < 64) (hq : q < 64) (F : FileF) : ∀ (k : Nat) (fs : List FileF), k + fs.length ≤ 64 → k ≤ q → turnF' (partsF T k fs) (nameF T q) F = partsF T k (fs.set (q - k) F)
  | k, [], _, _ => by simp [partsF, turnF']
  | k, G :: l, h, hkq => by
    simp only [List.length_cons] at h
    have e : turnF' (partsF T k (G :: l)) (nameF T q) F = (if nameF T k = nameF T q then (nameF T k, F) else (nameF T k, G)) :: turnF' (partsF T (k + 1) l) (nameF T q) F := rfl
    rw [e]
    by_cases c : k = q
    · subst c
      rw [if_pos rfl, Nat.sub_self, List.set_cons_zero, partsF]
      congr 1
      have : ∀ (m : Nat) (fs : List FileF), k < m → m + fs.length ≤ 64 → turnF' (partsF T m fs) (nameF T k) F = partsF T m fs := by
        intro m fs
        induction fs generalizing m with
        | nil => intro _ _; rfl
        | cons X fs ih =>
          intro h1 h2
          simp only [List.length_cons] at h2
          have e : turnF' (partsF T m (X :: fs)) (nameF T k) F = (if nameF T m = nameF T k then (nameF T m, F) else (nameF T m, X)) :: turnF' (partsF T (m + 1) fs) (nameF T k) F := rfl
          rw [e, if_neg (fun q => by have := (name_inj hT (by omega) hT hq q).2; omega), ih (m + 1) (by omega) (by omega)]
          rfl
      exact this (k + 1) l (by omega) (by omega)
    · rw [if_neg (fun h => c (name_inj hT (by omega) hT hq h).2), turn_parts hT hq F (k + 1) l (by omega) (by omega)]
      rw [show q - k = q - (k + 1) + 1 by omega, List.set_cons_succ, partsF]
theorem parts_app (T : Nat) : ∀ (k : Nat) (a b : List FileF), partsF T k (a ++ b) = partsF T k a ++ partsF T (k + a.length) b
  | k, [], b => by simp [partsF]
  | k, F :: a, b => by
    rw [List.cons_append, partsF, partsF, parts_app T (k + 1) a b, List.cons_append, List.length_cons]
    congr 3; omega
theorem parts_size (T : Nat) : ∀ (k : Nat) (fs : List FileF), sizeF (partsF T k fs) = (fs.map FileF.size).sum
  | _, [] => rfl
  | k, F :: l => by
    have := parts_size T (k + 1) l
    simp only [partsF, sizeF, List.map_cons, List.sum_cons] at this ⊢
    omega
theorem parts_map (T : Nat) (φ : FileF → FileF) : ∀ (k : Nat) (fs : List FileF), (partsF T k fs).map (fun x => (x.1, φ x.2)) = partsF T k (fs.map φ)
  | _, [] => rfl
  | k, F :: l => by rw [partsF, List.map_cons, parts_map T φ (k + 1) l]; rfl
theorem base_look {T q : Nat} {base : List UInt8} : lookF (baseL T base) (nameF T q) = none := by
  unfold baseL
  split
  · rfl
  · rw [look_cons, if_neg (name_ne_base T q).symm]; rfl
section
variable {room lives : Int} {T : Nat} {base : List UInt8} {fs : List FileF}
theorem dJ_look (hT : T < 64) {q : Nat} (hq : q < 64) (hf : fs.length ≤ 64) : lookF (dJ room lives T base fs).files (nameF T q) = fs[q]? := by
  unfold dJ
  rw [look_app', base_look, Option.none_or, look_parts hT hq 0 fs (by omega), if_pos (Nat.zero_le _), Nat.sub_zero]
theorem dJ_turn (hT : T < 64) {q : Nat} (hq : q < 64) (hf : fs.length ≤ 64) (F : FileF) : turnF' (dJ room lives T base fs).files (nameF T q) F = (dJ room lives T base (fs.set q F)).files := by
  unfold dJ
  have e : ∀ A B : Files, turnF' (A ++ B) (nameF T q) F = turnF' A (nameF T q) F ++ turnF' B (nameF T q) F := fun A B => List.map_append
  simp only
  rw [e, turn_parts hT hq F 0 fs (by omega) (Nat.zero_le _), Nat.sub_zero]
  congr 1
  unfold baseL
  split
  · rfl
  · simp only [turnF', List.map_cons, List.map_nil, if_neg (name_ne_base T q).symm]
theorem dJ_base (hT : T ≠ 0) : lookF (dJ room lives T base fs).files baseN = some ⟨frameF (be8 T ++ base), []⟩ := by
  unfold dJ baseL
  rw [look_app', if_neg hT, look_cons, if_pos rfl]; rfl
theorem dJ_base0 (hT : T = 0) : lookF (dJ room lives T base fs).files baseN = none := by
  unfold dJ baseL
  rw [look_app', if_pos hT, look_parts_ne 0 fs fun q _ _ => name_ne_base T q]; rfl
theorem dJ_new : lookF (dJ room lives T base fs).files newN = none := by
  unfold dJ
  rw [look_app', look_parts_ne 0 fs fun q _ _ => name_ne_new T q]
  unfold baseL
  split
  · rfl
  · rw [look_cons, if_neg (by simp [baseN, newN])]; rfl
theorem dJ_other (hT : T < 64) {U q : Nat} (hU : U < 64) (hq : q < 64) (ne : U ≠ T) (hf : fs.length ≤ 64) : lookF (dJ room lives T base fs).files (nameF U q) = none := by
  unfold dJ
  rw [look_app', look_parts_ne 0 fs fun k _ h h2 => ne (name_inj hT (by omega) hU hq h2).1.symm]
  unfold baseL
  split
  · rfl
  · rw [look_cons, if_neg (name_ne_base U q).symm]; rfl
def baseS (T : Nat) (base : List UInt8) : Nat := if T = 0 then 0 else 28 + base.length
theorem be8_len (T : Nat) : (be8 T).length = 8 := bigF_len _ _
theorem dJ_size : sizeF (dJ room lives T base fs).files = baseS T base + (fs.map FileF.size).sum := by
  unfold dJ
  rw [size_snoc, parts_size]
  congr 1
  unfold baseL baseS
  split
  · rfl
  · simp [sizeF, FileF.size, FileF.all, frameF_len, be8_len]; omega
theorem dJ_append (hT : T < 64) {q : Nat} (hq : q < 64) (hf : fs.length ≤ 64) {b : List UInt8} (hqf : q ≤ fs.length) (hz : (baseS T base : Int) + ((fs.map FileF.size).sum : Nat) + (b.length : Nat) ≤ room) :
    appendF (dJ room lives T base fs) (nameF T q) b = (dJ room lives T base (if q < fs.length then fs.set q (writeF (fs.getD q {}) b) else fs ++ [⟨[], [b]⟩]), 0) := by
  unfold appendF
  rw [ask1 rfl (name_good hT hq), if_pos rfl, dJ_size, if_neg (by simp only [dJ]; omega), dJ_look hT hq hf]
  by_cases h : q < fs.length
  · rw [List.getElem?_eq_getElem h, if_pos h]
    simp only
    rw [dJ_turn hT hq hf]
    have : fs.getD q {} = fs[q] := by simp [List.getD, List.getElem?_eq_getElem h]
    rw [this]; rfl
  · have e : q = fs.length := by omega
    subst e
    rw [List.getElem?_eq_none (Nat.le_refl _), if_neg h]
    simp only [dJ]
    rw [parts_app, Nat.zero_add, List.append_assoc]; rfl
theorem dJ_sync (hT : T < 64) {q : Nat} (hq : q < 64) (hf : fs.length ≤ 64) (h : q < fs.length) : syncF (dJ room lives T base fs) (nameF T q) = (dJ room lives T base (fs.set q (fs[q].sync)), 0) := by
  unfold syncF
  rw [ask1 rfl (name_good hT hq), if_pos rfl, dJ_look hT hq hf, List.getElem?_eq_getElem h]
  simp only
  rw [dJ_turn hT hq hf]; rfl
theorem dJ_read (hT : T < 64) {q : Nat} (hq : q < 64) (hf : fs.length ≤ 64) (h : q < fs.length) : readF (dJ room lives T base fs) (nameF T q) = (fs[q].all, 0) := by
  unfold readF
  rw [ask1 rfl (name_good hT hq), if_pos rfl, dJ_look hT hq hf, List.getElem?_eq_getElem h]
theorem dJ_read_none (hT : T < 64) {q : Nat} (hq : q < 64) (hf : fs.length ≤ 64) (h : fs.length ≤ q) : readF (dJ room lives T base fs) (nameF T q) = ([], 4) := by
  unfold readF
  rw [ask1 rfl (name_good hT hq), if_pos rfl, dJ_look hT hq hf, List.getElem?_eq_none h]
theorem dJ_drop_new : dropF (dJ room lives T base fs) newN = (dJ room lives T base fs, 4) := by
  unfold dropF
  rw [ask1 rfl (by decide), if_pos rfl, dJ_new]
theorem crash_safe (S : List UInt8) (keep : U64) (torn : Int) : FileF.crash ⟨S, []⟩ keep torn = ⟨S, []⟩ := by simp [FileF.crash, lastF, keptF]
theorem dJ_crash (keep : U64) (torn : Int) : onF (crashF (dJ room lives T base fs) keep torn) = dJ room (lives + 1) T base (fs.map fun F => F.crash keep torn) := by
  unfold onF crashF dJ
  simp only
  rw [List.map_append, parts_map T (fun F => F.crash keep torn)]
  congr 2
  unfold baseL
  split
  · rfl
  · simp only [List.map_cons, List.map_nil, crash_safe]
theorem dJ_ok {n : Nat} (hw : ∀ F ∈ fs, F.writes.length ≤ n) (hz : (baseS T base : Int) + ((fs.map FileF.size).sum : Nat) ≤ room) (hr : room ≤ 1048576) : (dJ room lives T base fs).okW n := by
  refine ⟨?_, by rw [dJ_size]; simp only [dJ]; omega, hr⟩
  intro x hx
  have hp : ∀ (k : Nat) (fs : List FileF), (∀ F ∈ fs, F.writes.length ≤ n) → ∀ x ∈ partsF T k fs, x.2.writes.length ≤ n ∧ x.1.length ≤ 20 := by
    intro k fs
    induction fs generalizing k with
    | nil => intro _ x hx; cases hx
    | cons F l ih =>
      intro h x hx
      rcases List.mem_cons.1 hx with rfl | hx
      · exact ⟨h F (by simp), name_len⟩
      · exact ih (k + 1) (fun G hG => h G (List.mem_cons_of_mem _ hG)) x hx
  rcases List.mem_append.1 hx with hx | hx
  · unfold baseL at hx
    split at hx
    · cases hx
    · rw [List.mem_singleton] at hx; subst hx; exact ⟨by simp, by simp [baseN]⟩
  · exact hp 0 fs hw x hx

/-! ### opened -/
theorem readBase_dJ (hT : T < 64) (hb : T = 0 → base = []) (hbl : base.length ≤ 65536) : readBaseF { lives := lives } (dJ room lives T base fs) = ({ lives := lives, turn := T, base := base }, 0) := by
  unfold readBaseF readF
  rw [ask1 rfl (by decide), if_pos rfl]
  by_cases h : T = 0
  · have := hb h
    subst this
    rw [dJ_base0 h]
    subst h
    rfl
  · rw [dJ_base h]
    have e : FileF.all ⟨frameF (be8 T ++ base), []⟩ = frameF (be8 T ++ base) ++ [] := by simp [FileF.all]
    simp only [if_true, e]
    rw [nextF_frame _ [] (by rw [List.length_append, be8_len]; omega)]
    simp only [List.length_nil, true_and]
    rw [if_pos (by rw [List.length_append, be8_len]; omega)]
    have t8 : (be8 T ++ base).take 8 = be8 T := take_app' (be8_len T)
    have d8 : (be8 T ++ base).drop 8 = base := drop_app' (be8_len T)
    rw [t8, d8]
    have e : (BitVec.ofNat 64 T).toNat = T := by rw [BitVec.toNat_ofNat]; omega
    have : (fromBigF (be8 T)).toNat = T := by
      unfold be8
      rw [fromBig_big _ 8 (by rw [e]; omega), e]
    rw [this]
def recsOf (fs : List FileF) : List (List UInt8) := fs.flatMap fun F => (parse F.all).1
/-- The file that is written, and whether there is one, once the files of records are read. -/
def lastP : Nat → Nat × Bool → List FileF → Nat × Bool
  | _, pr, [] => pr
  | p, _, F :: l => lastP (p + 1) (if (parse F.all).2 then (p, true) else (p + 1, false)) l
theorem openL_dJ (hT : T < 64) : ∀ (rest done : List FileF) (f : Nat) (J : JF), rest.length < f → done.length + rest.length ≤ 62 → J.turn = T →
    openL f J (dJ room lives T base (done ++ rest)) done.length = ({ J with recs := J.recs ++ recsOf rest, part := (lastP done.length (J.part, J.written) rest).1, written := (lastP done.length (J.part, J.written) rest).2 }, dJ room lives T base (done ++ rest.map FileF.sync))
  | [], done, f, J, hf, hl, ht => by
    obtain ⟨f, rfl⟩ : ∃ f', f = f' + 1 := ⟨f - 1, by simp at hf; omega⟩
    simp only [List.length_nil, Nat.add_zero] at hl
    have : (readPartF J (dJ room lives T base (done ++ [])) done.length).2.2 = false := by
      unfold readPartF
      rw [ht, dJ_read_none hT (by omega) (by simp; omega) (by simp)]
      rfl
    rw [openL, this]
    simp [recsOf, lastP]
  | F :: l, done, f, J, hf, hl, ht => by
    obtain ⟨f, rfl⟩ : ∃ f', f = f' + 1 := ⟨f - 1, by simp at hf; omega⟩
    simp only [List.length_cons] at hf hl
    have hlt : done.length < (done ++ F :: l).length := by simp
    have hg : (done ++ F :: l)[done.length]'hlt = F := by simp
    have hr := dJ_read (room := room) (lives := lives) (base := base) hT (q := done.length) (by omega) (by simp; omega) hlt
    have hs := dJ_sync (room := room) (lives := lives) (base := base) hT (q := done.length) (by omega) (by simp; omega) hlt
    rw [hg] at hr hs
    have hset : (done ++ F :: l).set done.length F.sync = (done ++ [F.sync]) ++ l := by
      rw [List.set_append_right _ _ (Nat.le_refl _), Nat.sub_self, List.set_cons_zero, List.append_assoc]; rfl
    rw [hset] at hs
    have e : readPartF J (dJ room lives T base (done ++ F :: l)) done.length = ({ J with part := if (parse F.all).2 then done.length else done.length + 1, written := (parse F.all).2, recs := J.recs ++ (parse F.all).1 }, dJ room lives T base ((done ++ [F.sync]) ++ l), true) := by
      unfold readPartF
      rw [ht, hr, hs]
      rfl
    rw [openL, e]
    simp only [if_true]
    have dl : done.length + 1 = (done ++ [F.sync]).length := by simp
    have ih := openL_dJ hT l (done ++ [F.sync]) f { J with part := if (parse F.all).2 then done.length else done.length + 1, written := (parse F.all).2, recs := J.recs ++ (parse F.all).1 } (by omega) (by simp; omega) ht
    rw [← dl] at ih
    rw [ih]
    have ep : (if (parse F.all).2 = true then (done.length, true) else (done.length + 1, false)) = ((if (parse F.all).2 = true then done.length else done.length + 1), (parse F.all).2) := by
      by_cases h : (parse F.all).2 = true
      · rw [if_pos h, if_pos h, h]
      · rw [if_neg h, if_neg h]
        congr 1
        simpa using Eq.symm (Bool.eq_false_iff.2 h)
    simp only [lastP, ep, recsOf, List.flatMap_cons, List.map_cons, List.append_assoc, List.cons_append, List.nil_append]
theorem tidy_none {U : Nat} {D : DiskF} (f : Nat) (h : lookF D.files (nameF U 0) = none) : tidyF U (f + 1) D 0 = D := by
  unfold tidyF
  rw [if_neg (drop_fails h)]
theorem open_dJ (hT : T < 64) (hb : T = 0 → base = []) (hbl : base.length ≤ 65536) (hf : fs.length ≤ 62) :
    openF (dJ room lives T base fs) = (some { lives := lives, turn := T, base := base, recs := recsOf fs, part := (lastP 0 (0, false) fs).1, written := (lastP 0 (0, false) fs).2 }, dJ room lives T base (fs.map FileF.sync), 0) := by
  have hl : lives = (dJ room lives T base fs).lives := rfl
  unfold openF
  rw [← hl, readBase_dJ hT hb hbl]
  simp only [if_true]
  have eo : openD { lives := lives, turn := T, base := base } (dJ room lives T base fs) = dJ room lives T base fs := by
    unfold openD
    rw [dJ_drop_new]
    split
    · rename_i h
      exact tidy_none 63 (dJ_other hT (by simp only; omega) (by omega) (by simp only at h ⊢; omega) (by omega))
    · rfl
  rw [eo]
  have := openL_dJ (room := room) (lives := lives) (base := base) hT fs [] 63 { lives := lives, turn := T, base := base } (by omega) (by simp; omega) rfl
  simp only [List.nil_append, List.length_nil] at this
  rw [this]
end
end Go.Bb
/- The law JournalFull. -/
namespace Go.Bb
set_option linter.unusedSimpArgs false
set_option linter.unusedVariables false
set_option maxRecDepth 20000
set_option maxHeartbeats 2000000

theorem SlL.pre {h : Heap} {base : Option Addr} {c : Nat} {L : List (List UInt8)} (s : SlL h (.slice base L.length c) L) {k : Nat} (hk : k ≤ L.length) : SlL h (.slice base k c) (L.take k) := by
  obtain ⟨vs, h1, h2, h3⟩ := s
  have h4 := Sl.pre h2 hk
  rw [Nat.mul_one] at h4
  have e : (L.take k).length = k := by rw [List.length_take]; omega
  refine ⟨vs.take k, by rw [List.length_take, List.length_take, h1], by rw [e]; exact h4, fun i a b => ?_⟩
  have := h3 i (by rw [List.length_take] at a; omega) (by rw [List.length_take] at b; omega)
  simpa using this
theorem SlL.cap {h : Heap} {base : Option Addr} {c : Nat} {L : List (List UInt8)} (s : SlL h (.slice base L.length c) L) : L.length ≤ c := by
  obtain ⟨vs, h1, h2, h3⟩ := s
  exact Sl.cap h2
end Go.Bb
/- A journal and its disk, plainly: what stays behind any fall. -/
namespace Go.Bb
set_option linter.unusedSimpArgs false
set_option linter.unusedVariables false
set_option maxRecDepth 20000

theorem sha_zero : (shaF [0, 0, 0, 0]).take 16 ≠ List.replicate 16 0 := by decide +kernel
theorem nextF_zeros (n : Nat) (hn : 20 ≤ n) (R : List UInt8) : nextF (List.replicate n 0 ++ R) = none := by
  have t4 : (List.replicate n (0 : UInt8) ++ R).take 4 = [0, 0, 0, 0] := by
    rw [List.take_append_of_le_length (by simp; omega), List.take_replicate, Nat.min_eq_left (by omega)]; rfl
  have d4 : ((List.replicate n (0 : UInt8) ++ R).drop 4).take 16 = List.replicate 16 0 := by
    rw [List.drop_append_of_le_length (by simp; omega), List.drop_replicate, List.take_append_of_le_length (by simp; omega), List.take_replicate, Nat.min_eq_left (by omega)]
  have hb : (fromBigF [0, 0, 0, 0]).toNat = 0 := by decide
  unfold nextF
  rw [t4, hb, d4, List.take_zero, List.append_nil, if_neg (by simp; omega), if_neg (by omega), if_neg sha_zero]
theorem nextF_cut (b : List UInt8) (q : Nat) (hq : q < (frameF b).length) (hb : b.length < 4294967296) : nextF ((frameF b).take q) = none := by
  have hfr := frameF_len b
  have lq : ((frameF b).take q).length = q := by rw [List.length_take]; omega
  unfold nextF
  rw [lq]
  by_cases h : q < 20
  · rw [if_pos h]
  · rw [if_neg h]
    have t4 : ((frameF b).take q).take 4 = be4 b.length := by
      rw [List.take_take, Nat.min_eq_left (by omega)]
      unfold frameF
      rw [List.append_assoc]
      exact take_app' (be4_len _)
    rw [t4, fromBig_be4 hb, if_pos (by omega)]
theorem nextF_app {b x y : List UInt8} (R : List UInt8) (h : nextF b = some (x, y)) : nextF (b ++ R) = some (x, y ++ R) := by
  unfold nextF at h
  split at h
  · cases h
  rename_i h1
  split at h
  · cases h
  rename_i h2
  split at h
  · rename_i h3
    simp only [Option.some.injEq, Prod.mk.injEq] at h
    obtain ⟨rfl, rfl⟩ := h
    have t4 : (b ++ R).take 4 = b.take 4 := List.take_append_of_le_length (by omega)
    have t20 : ((b ++ R).drop 20).take (fromBigF (b.take 4)).toNat = (b.drop 20).take (fromBigF (b.take 4)).toNat := by
      rw [List.drop_append_of_le_length (by omega), List.take_append_of_le_length (by rw [List.length_drop]; omega)]
    have t16 : ((b ++ R).drop 4).take 16 = (b.drop 4).take 16 := by
      rw [List.drop_append_of_le_length (by omega), List.take_append_of_le_length (by rw [List.length_drop]; omega)]
    unfold nextF
    rw [t4, t20, t16, if_neg (by rw [List.length_append]; omega), if_neg (by rw [List.length_append]; omega), if_pos h3, List.drop_append_of_le_length (by omega)]
  · cases h
theorem parse_whole : ∀ (n : Nat) (b R : List UInt8), b.length ≤ n → (parse b).2 = true → parse (b ++ R) = ((parse b).1 ++ (parse R).1, (parse R).2)
  | 0, b, R, hn, h => by
    have : b = [] := List.eq_nil_of_length_eq_zero (by omega)
    subst this; rfl
  | n + 1, b, R, hn, h => by
    by_cases hz : b = []
    · subst hz; rfl
    · cases hx : nextF b with
      | none => rw [parse_none hx hz] at h; cases h
      | some q =>
        obtain ⟨x, y⟩ := q
        have hl := (nextF_len hx).1
        rw [parse_some hx] at h ⊢
        rw [parse_some (nextF_app R hx), parse_whole n y R (by omega) h]
        rfl
/-- What is kept from write k on. -/
def keptK (keep : U64) (torn : Int) (l k : Nat) (W : List (List UInt8)) : List UInt8 := (List.range' k (l - k)).flatMap fun i => leftF keep torn l i (W.getD i [])
theorem kept_eq (keep : U64) (torn : Int) (l : Nat) (W : List (List UInt8)) : keptF keep torn l W l = keptK keep torn l 0 W := by
  unfold keptF keptK
  rw [Nat.sub_zero, List.range_eq_range']
theorem keptK_parse (keep : U64) (torn : Int) (l : Nat) (w : List (List UInt8)) (hw : ∀ b ∈ w, b.length < 4294967296) (hl : l ≤ w.length) : ∀ (n k : Nat), l - k = n → k ≤ l → ∃ m fl, m ≤ l - k ∧ parse (keptK keep torn l k (w.map frameF)) = ((w.drop k).take m, fl)
  | 0, k, hn, hk => ⟨0, true, by omega, by unfold keptK; rw [hn]; simp [parse_nil]⟩
  | n + 1, k, hn, hk => by
    have hkl : k < l := by omega
    have hkw : k < w.length := by omega
    have eg : (w.map frameF).getD k [] = frameF w[k] := by simp [List.getD, List.getElem?_eq_getElem hkw]
    have es : keptK keep torn l k (w.map frameF) = leftF keep torn l k (frameF w[k]) ++ keptK keep torn l (k + 1) (w.map frameF) := by
      unfold keptK
      rw [show l - k = (l - (k + 1)) + 1 by omega, List.range'_succ, List.flatMap_cons, eg]
    have hb := hw _ (List.getElem_mem hkw)
    have hfr := frameF_len w[k]
    rw [es]
    unfold leftF
    by_cases st : staysF keep k = true
    · rw [if_pos st]
      by_cases c : k + 1 = l ∧ 0 < torn
      · rw [if_pos c]
        have e0 : keptK keep torn l (k + 1) (w.map frameF) = [] := by unfold keptK; rw [show l - (k + 1) = 0 by omega]; rfl
        rw [e0, List.append_nil]
        have hq : (frameF w[k]).length - min torn.toNat (frameF w[k]).length < (frameF w[k]).length := by
          have := c.2; omega
        by_cases hz : (frameF w[k]).take ((frameF w[k]).length - min torn.toNat (frameF w[k]).length) = []
        · rw [hz]; exact ⟨0, true, by omega, by simp [parse_nil]⟩
        · exact ⟨0, false, by omega, by rw [parse_none (nextF_cut _ _ hq hb) hz]; simp⟩
      · rw [if_neg c]
        obtain ⟨m, fl, hm, e⟩ := keptK_parse keep torn l w hw hl n (k + 1) (by omega) (by omega)
        refine ⟨m + 1, fl, by omega, ?_⟩
        rw [parse_some (nextF_frame w[k] _ hb), e, List.drop_eq_getElem_cons hkw, List.take_succ_cons]
    · rw [if_neg st, hfr]
      refine ⟨0, false, by omega, ?_⟩
      have hne : List.replicate (20 + w[k].length) (0 : UInt8) ++ keptK keep torn l (k + 1) (w.map frameF) ≠ [] := by
        intro h
        have := congrArg List.length h
        simp only [List.length_append, List.length_replicate, List.length_nil] at this
        omega
      rw [parse_none (nextF_zeros _ (by omega) _) hne]
      rfl
theorem last_none : ∀ n, lastF 0#64 n = 0
  | 0 => rfl
  | n + 1 => by
    unfold lastF
    rw [if_neg (by simp [staysF]), last_none n]
/-- Behind a fall: a file's bytes tell its safe records, and a beginning of the others. -/
theorem crash_parse {S : List UInt8} {w : List (List UInt8)} (hS : (parse S).2 = true) (hw : ∀ b ∈ w, b.length < 4294967296) (keep : U64) (torn : Int) :
    ∃ X m fl, FileF.crash ⟨S, w.map frameF⟩ keep torn = ⟨X, []⟩ ∧ m ≤ w.length ∧ parse X = ((parse S).1 ++ w.take m, fl) ∧ X.length ≤ S.length + (w.flatMap frameF).length ∧ (keep = 0#64 → m = 0) := by
  have hl := lastF_le keep (w.map frameF).length
  have hk := keptF_len keep torn (lastF keep (w.map frameF).length) (w.map frameF) _ hl
  have ht := take_flat_len (w.map frameF) (lastF keep (w.map frameF).length)
  obtain ⟨m, fl, hm, e⟩ := keptK_parse keep torn (lastF keep (w.map frameF).length) w hw (by rw [List.length_map] at hl; rwa [List.length_map]) _ 0 rfl (by omega)
  refine ⟨_, m, fl, rfl, by have hl2 := hl; rw [List.length_map] at hl2 hm; omega, ?_, ?_, fun h0 => by subst h0; rw [last_none] at hm; omega⟩
  · simp only
    rw [parse_whole _ S _ (Nat.le_refl _) hS, kept_eq, e]
    rfl
  · simp only [List.length_append, List.flatMap] at *
    omega

/-! ### a journal with its disk -/
structure JS (room lives : Int) (T : Nat) (base : List UInt8) (old : List FileF) (cur : Option FileF) (k z : Nat) (J : JF) (D : DiskF) : Prop where
  eD : D = dJ room lives T base (old ++ cur.toList)
  eJ : J = { lives := lives, turn := T, part := old.length, written := cur.isSome, base := base, recs := recsOf (old ++ cur.toList) }
  hT : T < 60
  hb : T = 0 → base = []
  hbl : base.length ≤ 65536
  ho : old.length ≤ 58
  hold : ∀ F ∈ old, F.writes = [] ∧ (parse F.all).2 = false
  hcur : ∀ F, cur = some F → ∃ w : List (List UInt8), F.writes = w.map frameF ∧ (parse F.safe).2 = true ∧ (∀ b ∈ w, b.length < 4294967296) ∧ w.length ≤ k
  hz : ((old ++ cur.toList).map FileF.size).sum ≤ z
theorem whole_all {F : FileF} {w : List (List UInt8)} (h1 : F.writes = w.map frameF) (h2 : (parse F.safe).2 = true) (h3 : ∀ b ∈ w, b.length < 4294967296) : parse F.all = ((parse F.safe).1 ++ w, true) := by
  unfold FileF.all
  rw [h1, parse_whole _ F.safe _ (Nat.le_refl _) h2]
  have : (w.map frameF).flatten = w.flatMap frameF := rfl
  rw [this, parse_all w h3]
/-- How many records are safe. -/
def safeN (old : List FileF) (cur : Option FileF) : Nat := (recsOf old).length + (match cur with | none => 0 | some F => (parse F.safe).1.length)
theorem recs_app (a b : List FileF) : recsOf (a ++ b) = recsOf a ++ recsOf b := by simp [recsOf]
theorem recs_one (F : FileF) : recsOf [F] = (parse F.all).1 := by simp [recsOf]
theorem lastP_app : ∀ (p : Nat) (pr : Nat × Bool) (l : List FileF) (F : FileF), lastP p pr (l ++ [F]) = if (parse F.all).2 = true then (p + l.length, true) else (p + l.length + 1, false)
  | p, pr, [], F => rfl
  | p, pr, G :: l, F => by
    rw [List.cons_append, lastP, lastP_app (p + 1) _ l F, List.length_cons]
    rw [show p + 1 + l.length = p + (l.length + 1) by omega]
theorem lastP_old {old : List FileF} (h : ∀ F ∈ old, F.writes = [] ∧ (parse F.all).2 = false) : lastP 0 (0, false) old = (old.length, false) := by
  rcases List.eq_nil_or_concat old with rfl | ⟨l, F, rfl⟩
  · rfl
  · rw [List.concat_eq_append] at h ⊢
    rw [lastP_app, if_neg (by rw [(h F (by simp)).2]; simp)]
    simp
theorem sync_old {F : FileF} (h : F.writes = []) : F.sync = F := by
  obtain ⟨s, w⟩ := F
  simp only at h
  subst h
  simp [FileF.sync, FileF.all]
theorem crash_old {F : FileF} (h : F.writes = []) (keep : U64) (torn : Int) : F.crash keep torn = F := by
  obtain ⟨s, w⟩ := F
  simp only at h
  subst h
  exact crash_safe _ _ _
section
variable {room lives : Int} {T : Nat} {base : List UInt8} {old : List FileF} {cur : Option FileF} {k z : Nat} {J : JF} {D : DiskF}
theorem JS.okW (S : JS room lives T base old cur k z J D) (h : (baseS T base : Int) + z ≤ room) (hr : room ≤ 1048576) : D.okW k := by
  rw [S.eD]
  refine dJ_ok ?_ (by have := S.hz; omega) hr
  intro F hF
  rcases List.mem_append.1 hF with hF | hF
  · rw [(S.hold F hF).1]; simp
  · cases hc : cur with
    | none => rw [hc] at hF; simp at hF
    | some G =>
      rw [hc] at hF
      simp at hF
      subst hF
      obtain ⟨w, h1, _, _, h4⟩ := S.hcur F hc
      rw [h1, List.length_map]; exact h4
theorem JS.done (S : JS room lives T base old cur k z J D) : doneF J D = false := by
  rw [S.eD, S.eJ]; simp [doneF, dJ]
theorem cur_len (old : List FileF) (cur : Option FileF) : old.length ≤ (old ++ cur.toList).length ∧ (old ++ cur.toList).length ≤ old.length + 1 := by
  cases cur <;> simp
/-- A frame more. -/
def curAdd (cur : Option FileF) (b : List UInt8) : FileF := writeF (cur.getD {}) (frameF b)
theorem JS.append (S : JS room lives T base old cur k z J D) (b : List UInt8) (hb : b.length ≤ 16384) (hr : (baseS T base : Int) + z + 20 + b.length ≤ room) :
    appendF D (nameF T old.length) (frameF b) = (dJ room lives T base (old ++ (some (curAdd cur b)).toList), 0) ∧
    JS room lives T base old (some (curAdd cur b)) (k + 1) (z + 20 + b.length) { J with written := true, recs := J.recs ++ [b] } (dJ room lives T base (old ++ (some (curAdd cur b)).toList)) := by
  have hz := S.hz
  have hc := cur_len old cur
  have hfr := frameF_len b
  have ho := S.ho
  have hT := S.hT
  have ha := dJ_append (room := room) (lives := lives) (T := T) (base := base) (fs := old ++ cur.toList) (by omega) (q := old.length) (by omega) (by omega) (b := frameF b) hc.1 (by omega)
  have e1 : (if old.length < (old ++ cur.toList).length then (old ++ cur.toList).set old.length (writeF ((old ++ cur.toList).getD old.length {}) (frameF b)) else old ++ cur.toList ++ [⟨[], [frameF b]⟩]) = old ++ (some (curAdd cur b)).toList := by
    cases cur with
    | none => simp [curAdd, writeF]
    | some F => simp [curAdd, List.getD]
  rw [e1] at ha
  have hcu : ∃ w : List (List UInt8), (cur.getD {}).writes = w.map frameF ∧ (parse (cur.getD {}).safe).2 = true ∧ (∀ b ∈ w, b.length < 4294967296) ∧ w.length ≤ k ∧ recsOf (old ++ cur.toList) = recsOf old ++ ((parse (cur.getD {}).safe).1 ++ w) := by
    cases hcc : cur with
    | none => exact ⟨[], rfl, rfl, by simp, by simp, by simp [parse_nil]⟩
    | some F =>
      obtain ⟨w, h1, h2, h3, h4⟩ := S.hcur F hcc
      refine ⟨w, h1, h2, h3, h4, ?_⟩
      show recsOf (old ++ [F]) = _
      rw [recs_app, recs_one, whole_all h1 h2 h3]; rfl
  obtain ⟨w, h1, h2, h3, h4, h5⟩ := hcu
  have hw' : (curAdd cur b).writes = (w ++ [b]).map frameF := by simp [curAdd, writeF, h1]
  have hs' : (curAdd cur b).safe = (cur.getD {}).safe := rfl
  have h3' : ∀ x ∈ w ++ [b], x.length < 4294967296 := by
    intro x hx
    rcases List.mem_append.1 hx with hx | hx
    · exact h3 x hx
    · rw [List.mem_singleton] at hx; subst hx; omega
  refine ⟨by rw [S.eD]; exact ha, rfl, ?_, S.hT, S.hb, S.hbl, S.ho, S.hold, ?_, ?_⟩
  · have e := S.eJ
    subst e
    simp only [Option.isSome_some, JF.mk.injEq, true_and, and_true]
    show recsOf (old ++ cur.toList) ++ [b] = recsOf (old ++ [curAdd cur b])
    rw [h5, recs_app, recs_one, whole_all hw' (by rw [hs']; exact h2) h3', hs', List.append_assoc, List.append_assoc]
  · intro F hF
    simp only [Option.some.injEq] at hF
    subst hF
    exact ⟨w ++ [b], hw', by rw [hs']; exact h2, h3', by simp; omega⟩
  · have : ((old ++ (some (curAdd cur b)).toList).map FileF.size).sum = ((old ++ cur.toList).map FileF.size).sum + (20 + b.length) := by
      have : (curAdd cur b).size = (cur.getD {}).size + (20 + b.length) := by rw [curAdd, write_size, hfr]
      cases cur with
      | none => simp [this]; simp [FileF.size, FileF.all]
      | some F => simp [this]; omega
    omega
theorem JS.add1 (S : JS room lives T base old cur k z J D) (b : List UInt8) (hb : b.length ≤ 16384) (hr : (baseS T base : Int) + z + 20 + b.length ≤ room) :
    addF J D [b] = ({ J with written := true, recs := J.recs ++ [b] }, dJ room lives T base (old ++ (some (curAdd cur b)).toList), 0) := by
  obtain ⟨h1, -⟩ := S.append b hb hr
  have en : nameF J.turn J.part = nameF T old.length := by rw [S.eJ]
  rw [Go.Bb.add1 S.done hb (by rw [en, h1]), en, h1]
theorem JS.sync (S : JS room lives T base old cur k z J D) : (syncJ J D).2 = 0 ∧ ∃ cur', JS room lives T base old cur' k z J (syncJ J D).1 ∧ safeN old cur' = J.recs.length := by
  have hc := cur_len old cur
  have ho := S.ho
  have hT := S.hT
  have S0 := S
  cases hcc : cur with
  | none =>
    have e : syncJ J D = (D, 0) := by
      unfold syncJ
      rw [S.done, if_neg (by simp), if_neg (by rw [S.eJ, hcc]; simp)]
    rw [e]
    refine ⟨rfl, none, by rw [← hcc]; exact S, ?_⟩
    rw [S.eJ, hcc]
    simp [safeN]
  | some F =>
    obtain ⟨w, h1, h2, h3, h4⟩ := S.hcur F hcc
    have hall := whole_all h1 h2 h3
    have hlt : old.length < (old ++ [F]).length := by simp
    have e : syncJ J D = (dJ room lives T base (old ++ [F.sync]), 0) := by
      unfold syncJ
      rw [S.done, if_neg (by simp), if_pos (by rw [S.eJ, hcc]; rfl)]
      have en : nameF J.turn J.part = nameF T old.length := by rw [S.eJ]
      rw [en, S.eD, hcc]
      show syncF (dJ room lives T base (old ++ [F])) _ = _
      rw [dJ_sync (by omega) (by omega) (by simp; omega) hlt]
      have : (old ++ [F])[old.length]'hlt = F := by simp
      rw [this, List.set_append_right _ _ (Nat.le_refl _), Nat.sub_self, List.set_cons_zero]
    rw [e]
    have hsa : F.sync.all = F.all := by simp [FileF.sync, FileF.all]
    refine ⟨rfl, some F.sync, ⟨rfl, ?_, S.hT, S.hb, S.hbl, S.ho, S.hold, ?_, ?_⟩, ?_⟩
    · rw [S.eJ, hcc]
      simp only [Option.isSome_some, JF.mk.injEq, true_and, and_true]
      show recsOf (old ++ [F]) = recsOf (old ++ [F.sync])
      rw [recs_app, recs_app, recs_one, recs_one, hsa]
    · intro G hG
      simp only [Option.some.injEq] at hG
      subst hG
      refine ⟨[], rfl, ?_, by simp, by simp⟩
      show (parse F.all).2 = true
      rw [hall]
    · have := S.hz
      rw [hcc] at this
      have : F.sync.size = F.size := by simp [FileF.size, hsa]
      simp [this] at *
      omega
    · rw [S.eJ, hcc]
      show (recsOf old).length + (parse F.all).1.length = (recsOf (old ++ [F])).length
      rw [recs_app, recs_one, List.length_append]
/-- A fall, and opened anew. -/
theorem JS.reopen' (S : JS room lives T base old cur k z J D) (ho : old.length ≤ 57) (keep : U64) (torn : Int) :
    ∃ J' old' cur' n, openF (onF (crashF D keep torn)) = (some J', dJ room (lives + 1) T base (old' ++ cur'.toList), 0) ∧ JS room (lives + 1) T base old' cur' 0 z J' (dJ room (lives + 1) T base (old' ++ cur'.toList)) ∧
      safeN old cur ≤ n ∧ n ≤ J.recs.length ∧ J'.recs = J.recs.take n ∧ safeN old' cur' = n ∧ old'.length ≤ old.length + 1 ∧
      (readBaseF { lives := lives + 1 } (onF (crashF D keep torn))).1.turn = T ∧ onF (crashF D keep torn) = dJ room (lives + 1) T base (old' ++ cur'.toList) ∧ (keep = 0#64 → n = safeN old cur) := by
  have hT := S.hT
  have hco : old.map (fun F => F.crash keep torn) = old := by
    conv => rhs; rw [← List.map_id old]
    apply List.map_congr_left
    intro F hF
    exact crash_old (S.hold F hF).1 keep torn
  have hso : old.map FileF.sync = old := by
    conv => rhs; rw [← List.map_id old]
    apply List.map_congr_left
    intro F hF
    exact sync_old (S.hold F hF).1
  have hz := S.hz
  cases hcc : cur with
  | none =>
    rw [hcc] at hz
    have eD : onF (crashF D keep torn) = dJ room (lives + 1) T base (old ++ (none : Option FileF).toList) := by
      rw [S.eD, hcc, dJ_crash]
      simp [hco]
    have eo := open_dJ (room := room) (lives := lives + 1) (base := base) (fs := old) (T := T) (by omega) S.hb S.hbl (by omega)
    have er := readBase_dJ (room := room) (lives := lives + 1) (base := base) (fs := old) (T := T) (by omega) S.hb S.hbl
    rw [hso] at eo
    have eJ := S.eJ
    rw [hcc] at eJ
    refine ⟨_, old, none, (recsOf old).length, by rw [eD]; simpa using eo, ?_, by simp [safeN], by rw [eJ]; simp, by rw [eJ]; simp, by simp [safeN], by omega, by rw [eD]; simp [er], eD, fun _ => by simp [safeN]⟩
    refine ⟨rfl, ?_, S.hT, S.hb, S.hbl, by omega, S.hold, (fun F hF => by cases hF), hz⟩
    rw [lastP_old S.hold]
    simp
  | some F =>
    rw [hcc] at hz
    obtain ⟨w, h1, h2, h3, h4⟩ := S.hcur F hcc
    have eF : F = ⟨F.safe, w.map frameF⟩ := by rw [← h1]
    obtain ⟨X, m, fl, hX, hm, hp, hxl, hm0⟩ := crash_parse (S := F.safe) (w := w) h2 h3 keep torn
    rw [← eF] at hX
    have eD : onF (crashF D keep torn) = dJ room (lives + 1) T base (old ++ [⟨X, []⟩]) := by
      rw [S.eD, hcc, dJ_crash]
      simp [hco, hX]
    have eo := open_dJ (room := room) (lives := lives + 1) (base := base) (fs := old ++ [⟨X, []⟩]) (T := T) (by omega) S.hb S.hbl (by simp; omega)
    have er := readBase_dJ (room := room) (lives := lives + 1) (base := base) (fs := old ++ [⟨X, []⟩]) (T := T) (by omega) S.hb S.hbl
    have hsx : FileF.sync ⟨X, []⟩ = ⟨X, []⟩ := sync_old rfl
    have hax : FileF.all ⟨X, []⟩ = X := by simp [FileF.all]
    rw [List.map_append, hso, List.map_cons, List.map_nil, hsx, lastP_app, hax, hp, Nat.zero_add] at eo
    have hall := whole_all h1 h2 h3
    have hrecs : J.recs = recsOf old ++ ((parse F.safe).1 ++ w) := by
      rw [S.eJ, hcc]
      show recsOf (old ++ [F]) = _
      rw [recs_app, recs_one, hall]
    have hrx : recsOf (old ++ [⟨X, []⟩]) = J.recs.take ((recsOf old).length + (parse F.safe).1.length + m) := by
      have hA : (recsOf old).length + (parse F.safe).1.length = (recsOf old ++ (parse F.safe).1).length := by simp
      rw [recs_app, recs_one, hax, hp, hrecs, hA, ← List.append_assoc (recsOf old) _ w, List.take_length_add_append, List.append_assoc]
    have hsz : X.length ≤ F.size := by
      have : F.size = F.safe.length + (w.flatMap frameF).length := by
        rw [FileF.size, FileF.all, h1, List.length_append]; rfl
      omega
    have hz' : ((old ++ [(⟨X, []⟩ : FileF)]).map FileF.size).sum ≤ z := by
      have e1 : FileF.size ⟨X, []⟩ = X.length := by simp [FileF.size, FileF.all]
      simp only [Option.toList_some, List.map_append, List.sum_append_nat, List.map_cons, List.map_nil, List.sum_cons, List.sum_nil] at hz ⊢
      omega
    have hsn : safeN old (some F) = (recsOf old).length + (parse F.safe).1.length := rfl
    have hn : (recsOf old).length + (parse F.safe).1.length + m ≤ J.recs.length := by rw [hrecs]; simp; omega
    cases fl with
    | true =>
      rw [if_pos rfl] at eo
      refine ⟨_, old, some ⟨X, []⟩, (recsOf old).length + (parse F.safe).1.length + m, by rw [eD]; exact eo, ⟨rfl, ?_, S.hT, S.hb, S.hbl, by omega, S.hold, ?_, hz'⟩, by rw [hsn]; omega, hn, hrx, ?_, by omega, by rw [eD, er], eD, fun h0 => by rw [hsn, hm0 h0]; rfl⟩
      · rfl
      · intro G hG
        simp only [Option.some.injEq] at hG
        subst hG
        exact ⟨[], rfl, by simp only; rw [hp], by simp, by simp⟩
      · show (recsOf old).length + (parse X).1.length = _
        rw [hp]; simp; omega
    | false =>
      rw [if_neg (by simp)] at eo
      refine ⟨_, old ++ [⟨X, []⟩], none, (recsOf old).length + (parse F.safe).1.length + m, by rw [eD]; simpa using eo, ⟨rfl, ?_, S.hT, S.hb, S.hbl, by simp; omega, ?_, (fun F hF => by cases hF), by simpa using hz'⟩, by rw [hsn]; omega, hn, hrx, ?_, by simp, by rw [eD, er], by simpa using eD, fun h0 => by rw [hsn, hm0 h0]; rfl⟩
      · simp
      · intro G hG
        rcases List.mem_append.1 hG with hG | hG
        · exact S.hold G hG
        · rw [List.mem_singleton] at hG; subst hG
          exact ⟨rfl, by rw [hax, hp]⟩
      · show (recsOf (old ++ [⟨X, []⟩])).length + 0 = _
        rw [recs_app, recs_one, hax, hp]; simp; omega
theorem JS.start (room : Int) : JS room 1 0 [] [] none 0 0 { lives := 1 } { room := room } := ⟨rfl, rfl, by omega, fun _ => rfl, by simp, by simp, by simp, (fun F hF => by cases hF), by simp⟩
end
end Go.Bb
/- A journal's calls, with what stays; the law JournalHoles. -/
namespace Go.Bb
set_option linter.unusedSimpArgs false
set_option linter.unusedVariables false
set_option maxRecDepth 20000
set_option maxHeartbeats 2000000

structure AtD (h1 : Heap) (κ : Pal) (H : Heap) (d : Nat) (D : DiskF) : Prop where
  B : h1.le (H.bare κ)
  R : DiskR κ H d D
structure At (h1 : Heap) (κ : Pal) (H : Heap) (d j : Nat) (J : JF) (D : DiskF) : Prop where
  A : AtD h1 κ H d D
  N : JouR κ H j d J
  ne : d ≠ j
theorem AtD.ext {cs : Col → Prop} {h1 : Heap} {κ κ' : Pal} {H H' : Heap} {d : Nat} {D : DiskF} (A : AtD h1 κ H d D) (e : Ext cs κ H κ' H') (n : ∀ c : Col, c.1 = d → ¬ cs c) : AtD h1 κ' H' d D := ⟨Heap.le_trans A.B e.bare, A.R.ext e n⟩
theorem At.ext {cs : Col → Prop} {h1 : Heap} {κ κ' : Pal} {H H' : Heap} {d j : Nat} {J : JF} {D : DiskF} (A : At h1 κ H d j J D) (e : Ext cs κ H κ' H') (n : ∀ c : Col, c.1 = d ∨ c.1 = j → ¬ cs c) : At h1 κ' H' d j J D := ⟨A.A.ext e fun c h => n c (.inl h), A.N.ext e fun c h => n c (.inr h), A.ne⟩
theorem At.le {h1 : Heap} {κ : Pal} {H H' : Heap} {d j : Nat} {J : JF} {D : DiskF} (A : At h1 κ H d j J D) (h : H.le H') : At h1 κ H' d j J D := A.ext (Ext.le (cs := fun _ => False) h) fun _ _ q => q
theorem AtD.hle {h1 : Heap} {κ : Pal} {H : Heap} {d : Nat} {D : DiskF} (A : AtD h1 κ H d D) : h1.le H := Heap.le_trans A.B (Heap.bare_le _ _)
section
variable {h1 : Heap} {κ : Pal} {H : Heap} {d j : Nat} {J : JF} {D : DiskF} {room lives : Int} {T : Nat} {base : List UInt8} {old : List FileF} {cur : Option FileF} {k z : Nat}
theorem at_crash (E : EnvT tab) (A : AtD h1 κ H d D) (ok : D.ok) (keep : U64) (torn : Int) : ACallN E.toEnv n_disk_Disk_Crash [ptrV d, .int .u64 keep.toNat, .int .i64 torn] H fun v H' => ∃ κ', AtD h1 κ' H' d (crashF D keep torn) := by
  refine (disk_Crash_c E A.R ok keep torn).mono ?_
  rintro v H' ⟨κ', e, R⟩
  exact ⟨κ', Heap.le_trans A.B e.bare, R⟩
theorem at_on (E : EnvT tab) (A : AtD h1 κ H d D) (hl : -9000000000000000000 ≤ D.lives) (hl2 : D.lives ≤ 9000000000000000000) : ACallN E.toEnv n_disk_Disk_On [ptrV d] H fun v H' => AtD h1 κ H' d (onF D) := by
  refine (disk_On_c E A.R hl hl2).mono ?_
  rintro v H' ⟨e, R⟩
  exact ⟨Heap.le_trans A.B e.bare, R⟩
theorem at_add1 (E : EnvT tab) (A : At h1 κ H d j J D) (S : JS room lives T base old cur k z J D) {v : Value} {b : List UInt8} (sA : SlL (H.bare κ) v [b]) (hb : b.length ≤ 16384) (hz : (baseS T base : Int) + z + 20 + b.length ≤ room) (hr : room ≤ 1048576) (hk : k ≤ 90000) (hn : J.recs.length ≤ 90000) :
    ACallN E.toEnv n_journal_Journal_Add [ptrV j, v] H fun r H' => r = .int .i64 0 ∧ ∃ κ' J' D', At h1 κ' H' d j J' D' ∧ JS room lives T base old (some (curAdd cur b)) (k + 1) (z + 20 + b.length) J' D' ∧ J'.recs = J.recs ++ [b] := by
  have ok := S.okW (by omega) hr
  have ht : J.turn < 64 := by rw [S.eJ]; have := S.hT; simp only; omega
  have hp : J.part < 64 := by rw [S.eJ]; have := S.ho; simp only; omega
  refine (journal_Add_c E A.N A.A.R A.ne ok ht hp [b] sA (by simp; omega) (by simp; omega)).mono ?_
  rintro r H' ⟨rfl, κ', e, N, R⟩
  have h1' := S.add1 b hb hz
  obtain ⟨-, h2'⟩ := S.append b hb hz
  rw [h1'] at N R ⊢
  exact ⟨rfl, κ', _, _, ⟨⟨Heap.le_trans A.A.B e.bare, R⟩, N, A.ne⟩, h2', rfl⟩
theorem at_sync (E : EnvT tab) (A : At h1 κ H d j J D) (S : JS room lives T base old cur k z J D) (hz : (baseS T base : Int) + z ≤ room) (hr : room ≤ 1048576) (hk : k ≤ 90000) :
    ACallN E.toEnv n_journal_Journal_Sync [ptrV j] H fun r H' => r = .int .i64 0 ∧ ∃ κ' D' cur', At h1 κ' H' d j J D' ∧ JS room lives T base old cur' k z J D' ∧ safeN old cur' = J.recs.length := by
  have ok := S.okW hz hr
  have ht : J.turn < 64 := by rw [S.eJ]; have := S.hT; simp only; omega
  have hp : J.part < 64 := by rw [S.eJ]; have := S.ho; simp only; omega
  refine (journal_Sync_c E A.N A.A.R A.ne (ok.ok (by omega)) ht hp).mono ?_
  rintro r H' ⟨rfl, κ', e, N, R⟩
  obtain ⟨h1', cur', h2', h3'⟩ := S.sync
  rw [h1']
  exact ⟨rfl, κ', _, cur', ⟨⟨Heap.le_trans A.A.B e.bare, R⟩, N, A.ne⟩, h2', h3'⟩
theorem at_reopen' (E : EnvT tab) (S : JS room lives T base old cur k z J D) (ho : old.length ≤ 57) {keep : U64} {torn : Int} (A : AtD h1 κ H d (onF (crashF D keep torn))) (hz : (baseS T base : Int) + z ≤ room) (hr : room ≤ 1048576) :
    ACallN E.toEnv n_journal_Open [ptrV d] H fun r H' => ∃ j' κ' J' D' old' cur' n, r = .tuple #[ptrV j', .int .i64 0] ∧ H j' = none ∧ Ext (jdC j' d) κ H κ' H' ∧ At h1 κ' H' d j' J' D' ∧ JS room (lives + 1) T base old' cur' 0 z J' D' ∧
      safeN old cur ≤ n ∧ n ≤ J.recs.length ∧ J'.recs = J.recs.take n ∧ safeN old' cur' = n ∧ old'.length ≤ old.length + 1 ∧ (keep = 0#64 → n = safeN old cur) := by
  obtain ⟨J', old', cur', n, e1, S', e3, e4, e5, e6, e7, e8, e9, e10⟩ := S.reopen' ho keep torn
  have ok := S'.okW hz hr
  have hl := cur_len old' cur'
  have hT := S.hT
  have lv : (onF (crashF D keep torn)).lives = lives + 1 := by rw [e9]; rfl
  refine (journal_Open_c E A.R rfl (n := 0) (by rw [e9]; exact ok) (by omega) (by rw [lv, e8]; omega) (by
    rw [lv, e8, e9]
    intro h
    exact ⟨0, by omega, dJ_other (by omega) (by omega) (by omega) (by omega) (by omega)⟩) (by
    rw [lv, e8, e9]
    exact ⟨60, by omega, by rw [dJ_look (by omega) (by omega) (by omega)]; exact List.getElem?_eq_none (by omega)⟩)).mono ?_
  rintro v H' ⟨j', κ', hj, ne, e, R, hm⟩
  rw [e1] at R hm
  obtain ⟨rfl, N⟩ := hm
  exact ⟨j', κ', J', _, old', cur', n, rfl, hj, e, ⟨⟨Heap.le_trans A.B e.bare, R⟩, N, ne⟩, S', e3, e4, e5, e6, e7, e10⟩
theorem at_start (E : EnvT tab) (room : Int) (hr1 : 64 ≤ room) (hr2 : room ≤ 1048576) (A : AtD h1 κ H d { room := room }) :
    ACallN E.toEnv n_journal_Open [ptrV d] H fun r H' => ∃ j' κ' J' D', r = .tuple #[ptrV j', .int .i64 0] ∧ At h1 κ' H' d j' J' D' ∧ JS room 1 0 [] [] none 0 0 J' D' ∧ J'.recs = [] := by
  refine (journal_Open_c E A.R rfl (n := 0) ⟨by simp, by simp [sizeF]; omega, hr2⟩ (by omega) (by rw [readBase_empty]; decide) (by rw [readBase_empty]; intro h; simp at h) (by rw [readBase_empty]; exact ⟨0, by omega, rfl⟩)).mono ?_
  rintro v h3 ⟨j, κ3, hj, ne, e3, R3, hm⟩
  rw [open_empty] at R3 hm
  obtain ⟨rfl, J3⟩ := hm
  exact ⟨j, κ3, _, _, rfl, ⟨⟨Heap.le_trans A.B e3.bare, R3⟩, J3, ne⟩, JS.start room, rfl⟩
theorem at_new (E : EnvT tab) (h : Heap) (room : Int) (hr1 : 64 ≤ room) (hr2 : room ≤ 1048576) : ACallN E.toEnv n_disk_New [.int .i64 room] h fun v H' => ∃ d κ', v = .tuple #[ptrV d, .int .i64 0] ∧ AtD h κ' H' d { room := room } := by
  refine (disk_New_c E (fun _ => none) h room).mono ?_
  rintro v h2 ⟨-, -, hN⟩
  obtain ⟨d, κ2, rfl, -, e2, R2⟩ := hN ⟨hr1, hr2⟩
  exact ⟨d, κ2, rfl, fun b x q => Heap.bare_some.2 (e2.plain rfl q), R2⟩
theorem JS.lives_eq (S : JS room lives T base old cur k z J D) (keep : U64) (torn : Int) : (crashF D keep torn).lives = lives := by rw [S.eD]; rfl
/-- A row of one, new. -/
theorem At.lit (A : At h1 κ H d j J D) {b : Nat} (hb : H b = none) {wv : Value} {l : List UInt8} (s : SlB h1 wv l) : ∃ κ', At h1 κ' (H.set b (.own 0 [wv] 1)) d j J D ∧ SlL ((H.set b (.own 0 [wv] 1)).bare κ') (.slice (some ⟨b, 0, none⟩) 1 1) [l] :=
  ⟨fun i => if i = b then none else κ i, A.ext (Ext.new hb _ none) (fun _ _ q => q), lit1_bare hb A.A.B s⟩
end

end Go.Bb
/- Contracts: a journal's base kept. -/
namespace Go.Bb
set_option linter.unusedSimpArgs false
set_option linter.unusedVariables false
set_option maxRecDepth 20000
set_option maxHeartbeats 2000000

def be8' (T : Nat) : List UInt8 := bigF (BitVec.ofNat 64 T) 8
def keptD (J : JF) (D : DiskF) : DiskF := tidyF J.turn 64 (renameF (syncF D newN).1 newN baseN).1 0
def keepF (J : JF) (D : DiskF) (b : List UInt8) : JF × DiskF × Nat :=
  if doneF J D then (J, D, 7)
  else if 65536 < b.length then (J, D, 2)
  else if (appendF D newN (frameF (be8' (J.turn + 1) ++ b))).2 = 0 then ({ J with turn := J.turn + 1, part := 0, written := false, base := b, recs := [] }, keptD J (appendF D newN (frameF (be8' (J.turn + 1) ++ b))).1, 0)
  else ({ J with full := true }, (appendF D newN (frameF (be8' (J.turn + 1) ++ b))).1, (appendF D newN (frameF (be8' (J.turn + 1) ++ b))).2)
theorem journal_Keep_c (E : EnvT tab) {κ : Pal} {H : Heap} {j d : Nat} {J : JF} {D : DiskF} {n : Nat} (R : JouR κ H j d J) (RD : DiskR κ H d D) (ne : d ≠ j) (ok : D.okW n) (hn : n ≤ 90000) (ht : J.turn + 1 < 64) {vb : Value} {b : List UInt8} (hb : b.length ≤ 1000000) (sb : SlB (H.bare κ) vb b)
    {P : Nat} (hP : P < 63) (hl : lookF (renameF (syncF (appendF D newN (frameF (be8' (J.turn + 1) ++ b))).1 newN).1 newN baseN).1.files (nameF J.turn P) = none) :
    ACallN E.toEnv n_journal_Journal_Keep [ptrV j, vb] H fun r H' => r = .int .i64 ((keepF J D b).2.2 : Nat) ∧ ∃ κ', Ext (jdC j d) κ H κ' H' ∧ JouR κ' H' j d (keepF J D b).1 ∧ DiskR κ' H' d (keepF J D b).2.1 := by
  obtain ⟨bb, bc, rfl⟩ := Sl.shape sb
  refine acall h_journal_Journal_Keep ir_journal_Journal_Keep rfl rfl (wpA_sound ?_)
  unfold ir_journal_Journal_Keep
  simp -implicitDefEqProofs only [zB1,zB2,zB3,zB4,zB5,zB6,zB7,zB8,zB9,zB10,zB11,y00,y01,y02,y03,y04,y05,y06,y07,y08,y09,y0a,y0b,y0c,y0d,y0e,y0f,y0g,y0h,y0i,y0j,y0k,y0l,y0m,y0n,y0o,y0p,y0q,y0r,y0s,y0t,y0u,y0v,y0w,y0x,y0y,y0z,y10,y11,y12,y13,y14,y15,y16,y17,y18,y19,y1a,y1b,y1c,y1d,y1e,y1f,y1g,y1h,y1i,y1j,y1k,y1l,y1m,y1n,y1o,y1p,y1q,y1r,retO,retL,retV,z6i,allV,allP,z6j,z6m,z6n,z6t,z6u,z6v,binV,eqV,unV,oOpt,reduceIte,reduceCtorEq,Nat.reduceEqDiff,Nat.reduceAdd,Nat.reduceMul,Nat.reduceLT,Nat.reduceSub,Int.reduceLT,Int.reduceLE,Int.reduceEq,Int.reduceNe,Int.reduceSub,Int.reduceAdd,Int.reduceMul,Int.reduceBEq,Int.reduceBNe,Int.reduceGT,Int.reduceGE,Nat.reduceGT,Int.reduceToNat,Int.reduceNeg,Nat.reduceLeDiff,Nat.reduceBEq,Nat.reduceBneDiff,Value.cells]
  refine (journal_Done_c E R RD).mono ?_
  rintro v H1 ⟨rfl, rfl⟩
  unfold keepF
  by_cases dn : doneF J D = true
  · simp -implicitDefEqProofs only [zB1,zB2,zB3,zB4,zB5,zB6,zB7,zB8,zB9,zB10,zB11,y00,y01,y02,y03,y04,y05,y06,y07,y08,y09,y0a,y0b,y0c,y0d,y0e,y0f,y0g,y0h,y0i,y0j,y0k,y0l,y0m,y0n,y0o,y0p,y0q,y0r,y0s,y0t,y0u,y0v,y0w,y0x,y0y,y0z,y10,y11,y12,y13,y14,y15,y16,y17,y18,y19,y1a,y1b,y1c,y1d,y1e,y1f,y1g,y1h,y1i,y1j,y1k,y1l,y1m,y1n,y1o,y1p,y1q,y1r,retO,retL,retV,z6i,allV,allP,z6j,z6m,z6n,z6t,z6u,z6v,binV,eqV,unV,oOpt,reduceIte,reduceCtorEq,Nat.reduceEqDiff,Nat.reduceAdd,Nat.reduceMul,Nat.reduceLT,Nat.reduceSub,Int.reduceLT,Int.reduceLE,Int.reduceEq,Int.reduceNe,Int.reduceSub,Int.reduceAdd,Int.reduceMul,Int.reduceBEq,Int.reduceBNe,Int.reduceGT,Int.reduceGE,Nat.reduceGT,Int.reduceToNat,Int.reduceNeg,Nat.reduceLeDiff,Nat.reduceBEq,Nat.reduceBneDiff,Value.cells, dn]
    exact ⟨κ, Ext.refl _ _ _, R, RD⟩
  by_cases g : 65536 < b.length
  · have g' : (65536 : Int) < b.length := by omega
    simp -implicitDefEqProofs only [zB1,zB2,zB3,zB4,zB5,zB6,zB7,zB8,zB9,zB10,zB11,y00,y01,y02,y03,y04,y05,y06,y07,y08,y09,y0a,y0b,y0c,y0d,y0e,y0f,y0g,y0h,y0i,y0j,y0k,y0l,y0m,y0n,y0o,y0p,y0q,y0r,y0s,y0t,y0u,y0v,y0w,y0x,y0y,y0z,y10,y11,y12,y13,y14,y15,y16,y17,y18,y19,y1a,y1b,y1c,y1d,y1e,y1f,y1g,y1h,y1i,y1j,y1k,y1l,y1m,y1n,y1o,y1p,y1q,y1r,retO,retL,retV,z6i,allV,allP,z6j,z6m,z6n,z6t,z6u,z6v,binV,eqV,unV,oOpt,reduceIte,reduceCtorEq,Nat.reduceEqDiff,Nat.reduceAdd,Nat.reduceMul,Nat.reduceLT,Nat.reduceSub,Int.reduceLT,Int.reduceLE,Int.reduceEq,Int.reduceNe,Int.reduceSub,Int.reduceAdd,Int.reduceMul,Int.reduceBEq,Int.reduceBNe,Int.reduceGT,Int.reduceGE,Nat.reduceGT,Int.reduceToNat,Int.reduceNeg,Nat.reduceLeDiff,Nat.reduceBEq,Nat.reduceBneDiff,Value.cells, dn, g', g]
    exact ⟨κ, Ext.refl _ _ _, R, RD⟩
  have g' : ¬ (65536 : Int) < b.length := by omega
  obtain ⟨vb5, vr5, rs5, RV⟩ := R
  have q := RV.2.1
  have j0 : ∀ M, H1.le M → hcell M ⟨j, 0, none⟩ = some (ptrV d) := fun M x => by rw [hcell_at (x _ _ q) (by simp)]; rfl
  have j2 : hcell H1 ⟨j, 2, none⟩ = some (.int .u64 (J.turn : Nat)) := by rw [hcell_at q (by simp)]; rfl
  have w3 : IntKind.u64.wrap ((J.turn : Int) + 1) = ((J.turn + 1 : Nat) : Int) := by
    rw [show (J.turn : Int) + 1 = ((J.turn + 1 : Nat) : Int) by omega, wrap_u64, ofInt_nat, BitVec.toNat_ofNat]; omega
  have w4 : ((J.turn + 1 : Nat) : Int) = ((BitVec.ofNat 64 (J.turn + 1)).toNat : Int) := by rw [BitVec.toNat_ofNat]; omega
  simp -implicitDefEqProofs only [zB1,zB2,zB3,zB4,zB5,zB6,zB7,zB8,zB9,zB10,zB11,y00,y01,y02,y03,y04,y05,y06,y07,y08,y09,y0a,y0b,y0c,y0d,y0e,y0f,y0g,y0h,y0i,y0j,y0k,y0l,y0m,y0n,y0o,y0p,y0q,y0r,y0s,y0t,y0u,y0v,y0w,y0x,y0y,y0z,y10,y11,y12,y13,y14,y15,y16,y17,y18,y19,y1a,y1b,y1c,y1d,y1e,y1f,y1g,y1h,y1i,y1j,y1k,y1l,y1m,y1n,y1o,y1p,y1q,y1r,retO,retL,retV,z6i,allV,allP,z6j,z6m,z6n,z6t,z6u,z6v,binV,eqV,unV,oOpt,reduceIte,reduceCtorEq,Nat.reduceEqDiff,Nat.reduceAdd,Nat.reduceMul,Nat.reduceLT,Nat.reduceSub,Int.reduceLT,Int.reduceLE,Int.reduceEq,Int.reduceNe,Int.reduceSub,Int.reduceAdd,Int.reduceMul,Int.reduceBEq,Int.reduceBNe,Int.reduceGT,Int.reduceGE,Nat.reduceGT,Int.reduceToNat,Int.reduceNeg,Nat.reduceLeDiff,Nat.reduceBEq,Nat.reduceBneDiff,Value.cells, dn, g', g]
  unfold ir_journal_Journal_Keep_14
  simp -implicitDefEqProofs only [zB1,zB2,zB3,zB4,zB5,zB6,zB7,zB8,zB9,zB10,zB11,y00,y01,y02,y03,y04,y05,y06,y07,y08,y09,y0a,y0b,y0c,y0d,y0e,y0f,y0g,y0h,y0i,y0j,y0k,y0l,y0m,y0n,y0o,y0p,y0q,y0r,y0s,y0t,y0u,y0v,y0w,y0x,y0y,y0z,y10,y11,y12,y13,y14,y15,y16,y17,y18,y19,y1a,y1b,y1c,y1d,y1e,y1f,y1g,y1h,y1i,y1j,y1k,y1l,y1m,y1n,y1o,y1p,y1q,y1r,retO,retL,retV,z6i,allV,allP,z6j,z6m,z6n,z6t,z6u,z6v,binV,eqV,unV,oOpt,reduceIte,reduceCtorEq,Nat.reduceEqDiff,Nat.reduceAdd,Nat.reduceMul,Nat.reduceLT,Nat.reduceSub,Int.reduceLT,Int.reduceLE,Int.reduceEq,Int.reduceNe,Int.reduceSub,Int.reduceAdd,Int.reduceMul,Int.reduceBEq,Int.reduceBNe,Int.reduceGT,Int.reduceGE,Nat.reduceGT,Int.reduceToNat,Int.reduceNeg,Nat.reduceLeDiff,Nat.reduceBEq,Nat.reduceBneDiff,Value.cells, j2, w3]
  rw [w4]
  refine (octet_Big_c E H1 [] (by simp) (.inl ⟨rfl, rfl, rfl⟩) (BitVec.ofNat 64 (J.turn + 1)) 8 (by omega)).mono ?_
  rintro vh H2 ⟨le2, ow2⟩
  rw [List.nil_append] at ow2
  have h8 : (bigF (BitVec.ofNat 64 (J.turn + 1)) 8).length = 8 := bigF_len _ _
  obtain ⟨hbb, hbc, rfl⟩ := Sl.shape ow2.sl
  simp -implicitDefEqProofs only [zB1,zB2,zB3,zB4,zB5,zB6,zB7,zB8,zB9,zB10,zB11,y00,y01,y02,y03,y04,y05,y06,y07,y08,y09,y0a,y0b,y0c,y0d,y0e,y0f,y0g,y0h,y0i,y0j,y0k,y0l,y0m,y0n,y0o,y0p,y0q,y0r,y0s,y0t,y0u,y0v,y0w,y0x,y0y,y0z,y10,y11,y12,y13,y14,y15,y16,y17,y18,y19,y1a,y1b,y1c,y1d,y1e,y1f,y1g,y1h,y1i,y1j,y1k,y1l,y1m,y1n,y1o,y1p,y1q,y1r,retO,retL,retV,z6i,allV,allP,z6j,z6m,z6n,z6t,z6u,z6v,binV,eqV,unV,oOpt,reduceIte,reduceCtorEq,Nat.reduceEqDiff,Nat.reduceAdd,Nat.reduceMul,Nat.reduceLT,Nat.reduceSub,Int.reduceLT,Int.reduceLE,Int.reduceEq,Int.reduceNe,Int.reduceSub,Int.reduceAdd,Int.reduceMul,Int.reduceBEq,Int.reduceBNe,Int.reduceGT,Int.reduceGE,Nat.reduceGT,Int.reduceToNat,Int.reduceNeg,Nat.reduceLeDiff,Nat.reduceBEq,Nat.reduceBneDiff,Value.cells]
  refine appendP_ow (m := b.length) le2 (by omega) ow2 (sb.le (Heap.le_trans (Heap.bare_le _ _) le2)) (one_u8 _) (by omega) (by omega) ?_
  intro v3 H3 ow3 le3
  have e8 : be8' (J.turn + 1) = bigF (BitVec.ofNat 64 (J.turn + 1)) 8 := rfl
  have s3 : SlB H3 v3 (be8' (J.turn + 1) ++ b) := by
    have := ow3.sl
    unfold SlB
    rw [List.length_append, List.map_append, e8]
    exact this
  have l3 : (be8' (J.turn + 1) ++ b).length = 8 + b.length := by rw [List.length_append, e8, h8]
  obtain ⟨b3, c3, rfl⟩ := Sl.shape s3
  simp -implicitDefEqProofs only [zB1,zB2,zB3,zB4,zB5,zB6,zB7,zB8,zB9,zB10,zB11,y00,y01,y02,y03,y04,y05,y06,y07,y08,y09,y0a,y0b,y0c,y0d,y0e,y0f,y0g,y0h,y0i,y0j,y0k,y0l,y0m,y0n,y0o,y0p,y0q,y0r,y0s,y0t,y0u,y0v,y0w,y0x,y0y,y0z,y10,y11,y12,y13,y14,y15,y16,y17,y18,y19,y1a,y1b,y1c,y1d,y1e,y1f,y1g,y1h,y1i,y1j,y1k,y1l,y1m,y1n,y1o,y1p,y1q,y1r,retO,retL,retV,z6i,allV,allP,z6j,z6m,z6n,z6t,z6u,z6v,binV,eqV,unV,oOpt,reduceIte,reduceCtorEq,Nat.reduceEqDiff,Nat.reduceAdd,Nat.reduceMul,Nat.reduceLT,Nat.reduceSub,Int.reduceLT,Int.reduceLE,Int.reduceEq,Int.reduceNe,Int.reduceSub,Int.reduceAdd,Int.reduceMul,Int.reduceBEq,Int.reduceBNe,Int.reduceGT,Int.reduceGE,Nat.reduceGT,Int.reduceToNat,Int.reduceNeg,Nat.reduceLeDiff,Nat.reduceBEq,Nat.reduceBneDiff,Value.cells]
  refine (journal_frame_c E H3 (be8' (J.turn + 1) ++ b) (by omega) s3).mono ?_
  rintro vf H4 ⟨le4, of4⟩
  have le04 := Heap.le_trans le3 le4
  have j03 := j0 H3 le3
  have j04 := j0 H4 le04
  simp -implicitDefEqProofs only [zB1,zB2,zB3,zB4,zB5,zB6,zB7,zB8,zB9,zB10,zB11,y00,y01,y02,y03,y04,y05,y06,y07,y08,y09,y0a,y0b,y0c,y0d,y0e,y0f,y0g,y0h,y0i,y0j,y0k,y0l,y0m,y0n,y0o,y0p,y0q,y0r,y0s,y0t,y0u,y0v,y0w,y0x,y0y,y0z,y10,y11,y12,y13,y14,y15,y16,y17,y18,y19,y1a,y1b,y1c,y1d,y1e,y1f,y1g,y1h,y1i,y1j,y1k,y1l,y1m,y1n,y1o,y1p,y1q,y1r,retO,retL,retV,z6i,allV,allP,z6j,z6m,z6n,z6t,z6u,z6v,binV,eqV,unV,oOpt,reduceIte,reduceCtorEq,Nat.reduceEqDiff,Nat.reduceAdd,Nat.reduceMul,Nat.reduceLT,Nat.reduceSub,Int.reduceLT,Int.reduceLE,Int.reduceEq,Int.reduceNe,Int.reduceSub,Int.reduceAdd,Int.reduceMul,Int.reduceBEq,Int.reduceBNe,Int.reduceGT,Int.reduceGE,Nat.reduceGT,Int.reduceToNat,Int.reduceNeg,Nat.reduceLeDiff,Nat.reduceBEq,Nat.reduceBneDiff,Value.cells, j03, j04, implies_true, List.mem_cons, List.not_mem_nil, List.mem_singleton, or_false, forall_eq, forall_eq_or_imp, and_self]
  have hfl := frameF_len (be8' (J.turn + 1) ++ b)
  refine (disk_Append_c E (RD.le le04) (ok.ok (by omega)) newN (by simp [newN]) (frameF (be8' (J.turn + 1) ++ b)) (by omega) of4.sl).mono ?_
  rintro v H5 ⟨rfl, κ5, e5, R5⟩
  have ok5 : (appendF D newN (frameF (be8' (J.turn + 1) ++ b))).1.okW (n + 1) := append_ok ok RD.nd (by simp [newN])
  have e15 : Ext (diskC d) κ H1 κ5 H5 := (Ext.le le04).trans e5
  have RV5 := RV.ext e15 fun c h q => ne (by unfold diskC at q; rw [← q, h])
  have sb5 := sb.le e15.bare
  generalize appendF D newN (frameF (be8' (J.turn + 1) ++ b)) = X at R5 ok5 hl ⊢
  obtain ⟨D5, er⟩ := X
  simp only at R5 ok5 hl ⊢
  by_cases ez : ¬ er = 0
  · have ez' : ¬ ((er : Nat) : Int) = 0 := by omega
    simp -implicitDefEqProofs only [zB1,zB2,zB3,zB4,zB5,zB6,zB7,zB8,zB9,zB10,zB11,y00,y01,y02,y03,y04,y05,y06,y07,y08,y09,y0a,y0b,y0c,y0d,y0e,y0f,y0g,y0h,y0i,y0j,y0k,y0l,y0m,y0n,y0o,y0p,y0q,y0r,y0s,y0t,y0u,y0v,y0w,y0x,y0y,y0z,y10,y11,y12,y13,y14,y15,y16,y17,y18,y19,y1a,y1b,y1c,y1d,y1e,y1f,y1g,y1h,y1i,y1j,y1k,y1l,y1m,y1n,y1o,y1p,y1q,y1r,retO,retL,retV,z6i,allV,allP,z6j,z6m,z6n,z6t,z6u,z6v,binV,eqV,unV,oOpt,reduceIte,reduceCtorEq,Nat.reduceEqDiff,Nat.reduceAdd,Nat.reduceMul,Nat.reduceLT,Nat.reduceSub,Int.reduceLT,Int.reduceLE,Int.reduceEq,Int.reduceNe,Int.reduceSub,Int.reduceAdd,Int.reduceMul,Int.reduceBEq,Int.reduceBNe,Int.reduceGT,Int.reduceGE,Nat.reduceGT,Int.reduceToNat,Int.reduceNeg,Nat.reduceLeDiff,Nat.reduceBEq,Nat.reduceBneDiff,Value.cells, ez', ez]
    refine (journal_failed_c E ⟨vb5, vr5, rs5, RV5⟩ er).mono ?_
    rintro v H6 ⟨rfl, e6, R6⟩
    simp -implicitDefEqProofs only [zB1,zB2,zB3,zB4,zB5,zB6,zB7,zB8,zB9,zB10,zB11,y00,y01,y02,y03,y04,y05,y06,y07,y08,y09,y0a,y0b,y0c,y0d,y0e,y0f,y0g,y0h,y0i,y0j,y0k,y0l,y0m,y0n,y0o,y0p,y0q,y0r,y0s,y0t,y0u,y0v,y0w,y0x,y0y,y0z,y10,y11,y12,y13,y14,y15,y16,y17,y18,y19,y1a,y1b,y1c,y1d,y1e,y1f,y1g,y1h,y1i,y1j,y1k,y1l,y1m,y1n,y1o,y1p,y1q,y1r,retO,retL,retV,z6i,allV,allP,z6j,z6m,z6n,z6t,z6u,z6v,binV,eqV,unV,oOpt,reduceIte,reduceCtorEq,Nat.reduceEqDiff,Nat.reduceAdd,Nat.reduceMul,Nat.reduceLT,Nat.reduceSub,Int.reduceLT,Int.reduceLE,Int.reduceEq,Int.reduceNe,Int.reduceSub,Int.reduceAdd,Int.reduceMul,Int.reduceBEq,Int.reduceBNe,Int.reduceGT,Int.reduceGE,Nat.reduceGT,Int.reduceToNat,Int.reduceNeg,Nat.reduceLeDiff,Nat.reduceBEq,Nat.reduceBneDiff,Value.cells]
    exact ⟨κ5, (ext_dj e15).trans (ext_jd e6), R6, R5.off e6 ne.symm⟩
  have ez := Decidable.not_not.1 ez
  subst ez
  simp -implicitDefEqProofs only [zB1,zB2,zB3,zB4,zB5,zB6,zB7,zB8,zB9,zB10,zB11,y00,y01,y02,y03,y04,y05,y06,y07,y08,y09,y0a,y0b,y0c,y0d,y0e,y0f,y0g,y0h,y0i,y0j,y0k,y0l,y0m,y0n,y0o,y0p,y0q,y0r,y0s,y0t,y0u,y0v,y0w,y0x,y0y,y0z,y10,y11,y12,y13,y14,y15,y16,y17,y18,y19,y1a,y1b,y1c,y1d,y1e,y1f,y1g,y1h,y1i,y1j,y1k,y1l,y1m,y1n,y1o,y1p,y1q,y1r,retO,retL,retV,z6i,allV,allP,z6j,z6m,z6n,z6t,z6u,z6v,binV,eqV,unV,oOpt,reduceIte,reduceCtorEq,Nat.reduceEqDiff,Nat.reduceAdd,Nat.reduceMul,Nat.reduceLT,Nat.reduceSub,Int.reduceLT,Int.reduceLE,Int.reduceEq,Int.reduceNe,Int.reduceSub,Int.reduceAdd,Int.reduceMul,Int.reduceBEq,Int.reduceBNe,Int.reduceGT,Int.reduceGE,Nat.reduceGT,Int.reduceToNat,Int.reduceNeg,Nat.reduceLeDiff,Nat.reduceBEq,Nat.reduceBneDiff,Value.cells]
  unfold ir_journal_Journal_Keep_34
  have k0 : hcell H5 ⟨j, 0, none⟩ = some (ptrV d) := by rw [hcell_at RV5.2.1 (by simp)]; rfl
  simp -implicitDefEqProofs only [zB1,zB2,zB3,zB4,zB5,zB6,zB7,zB8,zB9,zB10,zB11,y00,y01,y02,y03,y04,y05,y06,y07,y08,y09,y0a,y0b,y0c,y0d,y0e,y0f,y0g,y0h,y0i,y0j,y0k,y0l,y0m,y0n,y0o,y0p,y0q,y0r,y0s,y0t,y0u,y0v,y0w,y0x,y0y,y0z,y10,y11,y12,y13,y14,y15,y16,y17,y18,y19,y1a,y1b,y1c,y1d,y1e,y1f,y1g,y1h,y1i,y1j,y1k,y1l,y1m,y1n,y1o,y1p,y1q,y1r,retO,retL,retV,z6i,allV,allP,z6j,z6m,z6n,z6t,z6u,z6v,binV,eqV,unV,oOpt,reduceIte,reduceCtorEq,Nat.reduceEqDiff,Nat.reduceAdd,Nat.reduceMul,Nat.reduceLT,Nat.reduceSub,Int.reduceLT,Int.reduceLE,Int.reduceEq,Int.reduceNe,Int.reduceSub,Int.reduceAdd,Int.reduceMul,Int.reduceBEq,Int.reduceBNe,Int.reduceGT,Int.reduceGE,Nat.reduceGT,Int.reduceToNat,Int.reduceNeg,Nat.reduceLeDiff,Nat.reduceBEq,Nat.reduceBneDiff,Value.cells, k0]
  refine (disk_Sync_c E R5 (ok5.ok (by omega)) newN (by simp [newN])).mono ?_
  rintro v H6 ⟨rfl, κ6, e6, R6⟩
  have RV6 := RV5.ext e6 fun c h q => ne (by unfold diskC at q; rw [← q, h])
  have k06 : hcell H6 ⟨j, 0, none⟩ = some (ptrV d) := by rw [hcell_at RV6.2.1 (by simp)]; rfl
  simp -implicitDefEqProofs only [zB1,zB2,zB3,zB4,zB5,zB6,zB7,zB8,zB9,zB10,zB11,y00,y01,y02,y03,y04,y05,y06,y07,y08,y09,y0a,y0b,y0c,y0d,y0e,y0f,y0g,y0h,y0i,y0j,y0k,y0l,y0m,y0n,y0o,y0p,y0q,y0r,y0s,y0t,y0u,y0v,y0w,y0x,y0y,y0z,y10,y11,y12,y13,y14,y15,y16,y17,y18,y19,y1a,y1b,y1c,y1d,y1e,y1f,y1g,y1h,y1i,y1j,y1k,y1l,y1m,y1n,y1o,y1p,y1q,y1r,retO,retL,retV,z6i,allV,allP,z6j,z6m,z6n,z6t,z6u,z6v,binV,eqV,unV,oOpt,reduceIte,reduceCtorEq,Nat.reduceEqDiff,Nat.reduceAdd,Nat.reduceMul,Nat.reduceLT,Nat.reduceSub,Int.reduceLT,Int.reduceLE,Int.reduceEq,Int.reduceNe,Int.reduceSub,Int.reduceAdd,Int.reduceMul,Int.reduceBEq,Int.reduceBNe,Int.reduceGT,Int.reduceGE,Nat.reduceGT,Int.reduceToNat,Int.reduceNeg,Nat.reduceLeDiff,Nat.reduceBEq,Nat.reduceBneDiff,Value.cells, k06]
  refine (disk_Rename_c E R6 newN baseN (by simp [newN]) (by simp [baseN])).mono ?_
  rintro v H7 ⟨rfl, κ7, e7, R7⟩
  have RV7 := RV6.ext e7 fun c h q => ne (by unfold diskC at q; rw [← q, h])
  have k27 : hcell H7 ⟨j, 2, none⟩ = some (.int .u64 (J.turn : Nat)) := by rw [hcell_at RV7.2.1 (by simp)]; rfl
  simp -implicitDefEqProofs only [zB1,zB2,zB3,zB4,zB5,zB6,zB7,zB8,zB9,zB10,zB11,y00,y01,y02,y03,y04,y05,y06,y07,y08,y09,y0a,y0b,y0c,y0d,y0e,y0f,y0g,y0h,y0i,y0j,y0k,y0l,y0m,y0n,y0o,y0p,y0q,y0r,y0s,y0t,y0u,y0v,y0w,y0x,y0y,y0z,y10,y11,y12,y13,y14,y15,y16,y17,y18,y19,y1a,y1b,y1c,y1d,y1e,y1f,y1g,y1h,y1i,y1j,y1k,y1l,y1m,y1n,y1o,y1p,y1q,y1r,retO,retL,retV,z6i,allV,allP,z6j,z6m,z6n,z6t,z6u,z6v,binV,eqV,unV,oOpt,reduceIte,reduceCtorEq,Nat.reduceEqDiff,Nat.reduceAdd,Nat.reduceMul,Nat.reduceLT,Nat.reduceSub,Int.reduceLT,Int.reduceLE,Int.reduceEq,Int.reduceNe,Int.reduceSub,Int.reduceAdd,Int.reduceMul,Int.reduceBEq,Int.reduceBNe,Int.reduceGT,Int.reduceGE,Nat.reduceGT,Int.reduceToNat,Int.reduceNeg,Nat.reduceLeDiff,Nat.reduceBEq,Nat.reduceBneDiff,Value.cells, k27]
  refine (journal_tidy_c E ⟨vb5, vr5, rs5, RV7⟩ R7 ne J.turn (by omega) hP hl).mono ?_
  rintro v H8 ⟨κ8, e8', R8, RD8⟩
  obtain ⟨vb8, vr8, rs8, RV8⟩ := R8
  have e58 : Ext (diskC d) κ5 H5 κ8 H8 := (e6.trans e7).trans e8'
  have sb8 := sb5.le e58.bare
  have k28 : hcell H8 ⟨j, 2, none⟩ = some (.int .u64 (J.turn : Nat)) := by rw [hcell_at RV8.2.1 (by simp)]; rfl
  have st1 : storeV H8 1 (.pointer (some ⟨j, 2, none⟩)) (.int .u64 ((J.turn + 1 : Nat) : Int)) = some (H8.set j (.own 0 [ptrV d, .int .i64 J.lives, .int .u64 ((J.turn + 1 : Nat) : Int), .int .i64 (J.part : Nat), .bool J.written, vb8, vr8, .bool J.full] 8)) := storeV_one_at RV8.2.1 rfl (by simp) (by simp)
  have st2 : storeV (H8.set j (.own 0 [ptrV d, .int .i64 J.lives, .int .u64 ((J.turn + 1 : Nat) : Int), .int .i64 (J.part : Nat), .bool J.written, vb8, vr8, .bool J.full] 8)) 1 (.pointer (some ⟨j, 3, none⟩)) (.int .i64 0) = some ((H8.set j (.own 0 [ptrV d, .int .i64 J.lives, .int .u64 ((J.turn + 1 : Nat) : Int), .int .i64 (J.part : Nat), .bool J.written, vb8, vr8, .bool J.full] 8)).set j (.own 0 [ptrV d, .int .i64 J.lives, .int .u64 ((J.turn + 1 : Nat) : Int), .int .i64 0, .bool J.written, vb8, vr8, .bool J.full] 8)) := storeV_one_at (Heap.set_self _ _ _) rfl (by simp) (by simp)
  have st3 : storeV (H8.set j (.own 0 [ptrV d, .int .i64 J.lives, .int .u64 ((J.turn + 1 : Nat) : Int), .int .i64 0, .bool J.written, vb8, vr8, .bool J.full] 8)) 1 (.pointer (some ⟨j, 4, none⟩)) (.bool false) = some ((H8.set j (.own 0 [ptrV d, .int .i64 J.lives, .int .u64 ((J.turn + 1 : Nat) : Int), .int .i64 0, .bool J.written, vb8, vr8, .bool J.full] 8)).set j (.own 0 [ptrV d, .int .i64 J.lives, .int .u64 ((J.turn + 1 : Nat) : Int), .int .i64 0, .bool false, vb8, vr8, .bool J.full] 8)) := storeV_one_at (Heap.set_self _ _ _) rfl (by simp) (by simp)
  have P9 := RV8.put (J.turn + 1) 0 false J.full
  have e9 := RV8.put_ext (.own 0 [ptrV d, .int .i64 J.lives, .int .u64 ((J.turn + 1 : Nat) : Int), .int .i64 0, .bool false, vb8, vr8, .bool J.full] 8)
  have sb9 := sb8.le e9.bare
  have RD9 := RD8.off e9 ne.symm
  simp -implicitDefEqProofs only [zB1,zB2,zB3,zB4,zB5,zB6,zB7,zB8,zB9,zB10,zB11,y00,y01,y02,y03,y04,y05,y06,y07,y08,y09,y0a,y0b,y0c,y0d,y0e,y0f,y0g,y0h,y0i,y0j,y0k,y0l,y0m,y0n,y0o,y0p,y0q,y0r,y0s,y0t,y0u,y0v,y0w,y0x,y0y,y0z,y10,y11,y12,y13,y14,y15,y16,y17,y18,y19,y1a,y1b,y1c,y1d,y1e,y1f,y1g,y1h,y1i,y1j,y1k,y1l,y1m,y1n,y1o,y1p,y1q,y1r,retO,retL,retV,z6i,allV,allP,z6j,z6m,z6n,z6t,z6u,z6v,binV,eqV,unV,oOpt,reduceIte,reduceCtorEq,Nat.reduceEqDiff,Nat.reduceAdd,Nat.reduceMul,Nat.reduceLT,Nat.reduceSub,Int.reduceLT,Int.reduceLE,Int.reduceEq,Int.reduceNe,Int.reduceSub,Int.reduceAdd,Int.reduceMul,Int.reduceBEq,Int.reduceBNe,Int.reduceGT,Int.reduceGE,Nat.reduceGT,Int.reduceToNat,Int.reduceNeg,Nat.reduceLeDiff,Nat.reduceBEq,Nat.reduceBneDiff,Value.cells]
  unfold ir_journal_Journal_Keep_50
  simp -implicitDefEqProofs only [zB1,zB2,zB3,zB4,zB5,zB6,zB7,zB8,zB9,zB10,zB11,y00,y01,y02,y03,y04,y05,y06,y07,y08,y09,y0a,y0b,y0c,y0d,y0e,y0f,y0g,y0h,y0i,y0j,y0k,y0l,y0m,y0n,y0o,y0p,y0q,y0r,y0s,y0t,y0u,y0v,y0w,y0x,y0y,y0z,y10,y11,y12,y13,y14,y15,y16,y17,y18,y19,y1a,y1b,y1c,y1d,y1e,y1f,y1g,y1h,y1i,y1j,y1k,y1l,y1m,y1n,y1o,y1p,y1q,y1r,retO,retL,retV,z6i,allV,allP,z6j,z6m,z6n,z6t,z6u,z6v,binV,eqV,unV,oOpt,reduceIte,reduceCtorEq,Nat.reduceEqDiff,Nat.reduceAdd,Nat.reduceMul,Nat.reduceLT,Nat.reduceSub,Int.reduceLT,Int.reduceLE,Int.reduceEq,Int.reduceNe,Int.reduceSub,Int.reduceAdd,Int.reduceMul,Int.reduceBEq,Int.reduceBNe,Int.reduceGT,Int.reduceGE,Nat.reduceGT,Int.reduceToNat,Int.reduceNeg,Nat.reduceLeDiff,Nat.reduceBEq,Nat.reduceBneDiff,Value.cells, k28, w3, st1, st2, st3]
  have e09 : Ext (jdC j d) κ H1 κ8 (H8.set j (.own 0 [ptrV d, .int .i64 J.lives, .int .u64 ((J.turn + 1 : Nat) : Int), .int .i64 0, .bool false, vb8, vr8, .bool J.full] 8)) := (ext_dj (e15.trans e58)).trans (ext_jd e9)
  generalize (H8.set j (.own 0 [ptrV d, .int .i64 J.lives, .int .u64 ((J.turn + 1 : Nat) : Int), .int .i64 0, .bool false, vb8, vr8, .bool J.full] 8)) = H9 at P9 sb9 RD9 e09 ⊢
  refine (bytes_Clone_c E H9 b (by omega) (sb9.le (Heap.bare_le _ _))).mono ?_
  rintro wv H10 ⟨le10, o10⟩
  have e10 : Ext (fun _ => False) κ8 H9 (κ8.grow H9 (j, j, 8)) H10 := Ext.tint le10
  have P10 := P9.ext e10 (fun _ _ q => q)
  have o10' : OwK (κ8.grow H9 (j, j, 8)) (j, j, 8) H10 1 wv b.length (b.map u8V) := OwK.tinted o10
  have RD10 := RD9.ext e10 (fun _ _ q => q)
  obtain ⟨wb, wc, rfl⟩ := Sl.shape o10.sl
  have st4 : storeV H10 1 (.pointer (some ⟨j, 5, none⟩)) (.slice wb b.length wc) = some (H10.set j (.own 0 [ptrV d, .int .i64 J.lives, .int .u64 ((J.turn + 1 : Nat) : Int), .int .i64 0, .bool false, .slice wb b.length wc, vr8, .bool J.full] 8)) := storeV_one_at P10.2.1 rfl (by simp) (by simp)
  have st5 : storeV (H10.set j (.own 0 [ptrV d, .int .i64 J.lives, .int .u64 ((J.turn + 1 : Nat) : Int), .int .i64 0, .bool false, .slice wb b.length wc, vr8, .bool J.full] 8)) 1 (.pointer (some ⟨j, 6, none⟩)) (.slice none 0 0) = some ((H10.set j (.own 0 [ptrV d, .int .i64 J.lives, .int .u64 ((J.turn + 1 : Nat) : Int), .int .i64 0, .bool false, .slice wb b.length wc, vr8, .bool J.full] 8)).set j (.own 0 [ptrV d, .int .i64 J.lives, .int .u64 ((J.turn + 1 : Nat) : Int), .int .i64 0, .bool false, .slice wb b.length wc, .slice none 0 0, .bool J.full] 8)) := storeV_one_at (Heap.set_self _ _ _) rfl (by simp) (by simp)
  have e11 := P10.put_ext (.own 0 [ptrV d, .int .i64 J.lives, .int .u64 ((J.turn + 1 : Nat) : Int), .int .i64 0, .bool false, .slice wb b.length wc, .slice none 0 0, .bool J.full] 8)
  simp -implicitDefEqProofs only [zB1,zB2,zB3,zB4,zB5,zB6,zB7,zB8,zB9,zB10,zB11,y00,y01,y02,y03,y04,y05,y06,y07,y08,y09,y0a,y0b,y0c,y0d,y0e,y0f,y0g,y0h,y0i,y0j,y0k,y0l,y0m,y0n,y0o,y0p,y0q,y0r,y0s,y0t,y0u,y0v,y0w,y0x,y0y,y0z,y10,y11,y12,y13,y14,y15,y16,y17,y18,y19,y1a,y1b,y1c,y1d,y1e,y1f,y1g,y1h,y1i,y1j,y1k,y1l,y1m,y1n,y1o,y1p,y1q,y1r,retO,retL,retV,z6i,allV,allP,z6j,z6m,z6n,z6t,z6u,z6v,binV,eqV,unV,oOpt,reduceIte,reduceCtorEq,Nat.reduceEqDiff,Nat.reduceAdd,Nat.reduceMul,Nat.reduceLT,Nat.reduceSub,Int.reduceLT,Int.reduceLE,Int.reduceEq,Int.reduceNe,Int.reduceSub,Int.reduceAdd,Int.reduceMul,Int.reduceBEq,Int.reduceBNe,Int.reduceGT,Int.reduceGE,Nat.reduceGT,Int.reduceToNat,Int.reduceNeg,Nat.reduceLeDiff,Nat.reduceBEq,Nat.reduceBneDiff,Value.cells, st4, st5]
  refine ⟨_, (e09.trans (e10.mono fun c h => h.elim)).trans (ext_jd e11), ⟨.slice wb b.length wc, .slice none 0 0, [], P10.1, Heap.set_self _ _ _, ?_, Ow.nil _ _ _, rfl, fun i h1 h2 => by simp at h1⟩, RD10.off e11 ne.symm⟩
  exact (Ext.set (H := H10) P10.1 _).own (by simp) o10'
end Go.Bb
/- A base kept, plainly; records added, many at once. -/
namespace Go.Bb
set_option linter.unusedSimpArgs false
set_option linter.unusedVariables false
set_option maxRecDepth 20000
set_option maxHeartbeats 2000000

theorem del_self {L : Files} {s : List UInt8} (h : ∀ x ∈ L, x.1 ≠ s) : delFile L s = L := by
  unfold delFile
  rw [List.filter_eq_self]
  intro x hx
  simpa using h x hx
theorem del_app (A B : Files) (s : List UInt8) : delFile (A ++ B) s = delFile A s ++ delFile B s := by simp [delFile]
theorem look_none_of {L : Files} {s : List UInt8} (h : ∀ x ∈ L, x.1 ≠ s) : lookF L s = none := by
  unfold lookF
  rw [Option.map_eq_none_iff, List.find?_eq_none]
  intro x hx
  simpa using h x hx
theorem look_ne_of {L : Files} {s : List UInt8} (h : lookF L s = none) : ∀ x ∈ L, x.1 ≠ s := by
  unfold lookF at h
  rw [Option.map_eq_none_iff, List.find?_eq_none] at h
  intro x hx
  simpa using h x hx
theorem turn_self {L : Files} {s : List UInt8} (h : ∀ x ∈ L, x.1 ≠ s) (F : FileF) : turnF' L s F = L := by
  unfold turnF'
  conv => rhs; rw [← List.map_id L]
  apply List.map_congr_left
  intro x hx
  rw [if_neg (h x hx)]; rfl
theorem parts_names {T : Nat} : ∀ (k : Nat) (fs : List FileF), ∀ x ∈ partsF T k fs, ∃ q, k ≤ q ∧ q < k + fs.length ∧ x.1 = nameF T q
  | k, [], x, hx => by cases hx
  | k, F :: l, x, hx => by
    rcases List.mem_cons.1 hx with rfl | hx
    · exact ⟨k, Nat.le_refl _, by simp, rfl⟩
    · obtain ⟨q, h1, h2, h3⟩ := parts_names (k + 1) l x hx
      exact ⟨q, by omega, by simp only [List.length_cons]; omega, h3⟩
theorem tidy_parts {T : Nat} (hT : T < 64) {A B : Files} (hA : ∀ x ∈ A ++ B, ∀ q, x.1 ≠ nameF T q) : ∀ (rest : List FileF) (p f : Nat) (D : DiskF), rest.length < f → p + rest.length ≤ 63 → D.on = true → D.files = A ++ (partsF T p rest ++ B) → tidyF T f D p = { D with files := A ++ B }
  | [], p, f, D, hf, hp, on, hD => by
    obtain ⟨f, rfl⟩ : ∃ f', f = f' + 1 := ⟨f - 1, by simp at hf; omega⟩
    have hD' : D.files = A ++ B := by rw [hD]; rfl
    have : lookF D.files (nameF T p) = none := by rw [hD']; exact look_none_of fun x hx => hA x hx p
    rw [tidyF, if_neg (drop_fails this)]
    obtain ⟨a, b, c, e⟩ := D
    simp only at hD'
    subst hD'; rfl
  | F :: l, p, f, D, hf, hp, on, hD => by
    obtain ⟨f, rfl⟩ : ∃ f', f = f' + 1 := ⟨f - 1, by simp at hf; omega⟩
    simp only [List.length_cons] at hf hp
    have hAn : ∀ x ∈ A, x.1 ≠ nameF T p := fun x hx => hA x (List.mem_append.2 (.inl hx)) p
    have hBn : ∀ x ∈ B, x.1 ≠ nameF T p := fun x hx => hA x (List.mem_append.2 (.inr hx)) p
    have hPn : ∀ x ∈ partsF T (p + 1) l, x.1 ≠ nameF T p := by
      intro x hx e
      obtain ⟨q, h1, h2, h3⟩ := parts_names (p + 1) l x hx
      have := (name_inj hT (by omega) hT (by omega) (h3.symm.trans e)).2
      omega
    have hl : lookF D.files (nameF T p) = some F := by
      rw [hD, look_app', look_none_of hAn, Option.none_or, partsF, List.cons_append, look_cons, if_pos rfl]
    have hdel : delFile D.files (nameF T p) = A ++ (partsF T (p + 1) l ++ B) := by
      rw [hD, partsF, List.cons_append, del_app, del_self hAn]
      have : delFile ((nameF T p, F) :: (partsF T (p + 1) l ++ B)) (nameF T p) = delFile (partsF T (p + 1) l ++ B) (nameF T p) := by simp [delFile]
      rw [this, del_app, del_self hPn, del_self hBn]
    have hd : dropF D (nameF T p) = ({ D with files := A ++ (partsF T (p + 1) l ++ B) }, 0) := by
      unfold dropF
      rw [ask1 on (name_good hT (by omega)), if_pos rfl, hl, hdel]
    rw [tidyF, hd, if_pos rfl]
    exact tidy_parts hT hA l (p + 1) f _ (by omega) (by omega) on rfl
section
variable {room lives : Int} {T : Nat} {base : List UInt8} {old : List FileF} {cur : Option FileF} {k z : Nat} {J : JF} {D : DiskF}
def curAddL : Option FileF → List (List UInt8) → Option FileF
  | cur, [] => cur
  | cur, b :: L => curAddL (some (curAdd cur b)) L
theorem safe_add (old : List FileF) (cur : Option FileF) (b : List UInt8) : safeN old (some (curAdd cur b)) = safeN old cur := by
  unfold safeN curAdd
  cases cur <;> rfl
theorem JS.addL : ∀ (L : List (List UInt8)) {cur : Option FileF} {k z : Nat} {J : JF} {D : DiskF}, JS room lives T base old cur k z J D → (∀ b ∈ L, b.length ≤ 16384) → (baseS T base : Int) + z + ((L.flatMap frameF).length : Nat) ≤ room →
    ∃ D', Go.Bb.addL (nameF T old.length) L D J.written = (D', 0, (curAddL cur L).isSome) ∧ JS room lives T base old (curAddL cur L) (k + L.length) (z + (L.flatMap frameF).length) { J with written := (curAddL cur L).isSome, recs := J.recs ++ L } D'
  | [], cur, k, z, J, D, S, _, _ => by
    refine ⟨D, ?_, ?_⟩
    · rw [Go.Bb.addL, S.eJ]; rfl
    · have e : ({ J with written := (curAddL cur []).isSome, recs := J.recs ++ [] } : JF) = J := by
        rw [List.append_nil, S.eJ]; rfl
      rw [e]; simpa [curAddL] using S
  | b :: L, cur, k, z, J, D, S, hb, hz => by
    have hfr := frameF_len b
    rw [List.flatMap_cons, List.length_append, hfr] at hz
    obtain ⟨h1, h2⟩ := S.append b (hb b (by simp)) (by omega)
    obtain ⟨D', h3, h4⟩ := JS.addL L h2 (fun x hx => hb x (List.mem_cons_of_mem _ hx)) (by omega)
    refine ⟨D', ?_, ?_⟩
    · rw [Go.Bb.addL, h1, if_pos rfl]
      exact h3
    · have e1 : k + 1 + L.length = k + (b :: L).length := by simp only [List.length_cons]; omega
      have e2 : z + 20 + b.length + (L.flatMap frameF).length = z + ((b :: L).flatMap frameF).length := by rw [List.flatMap_cons, List.length_append, hfr]; omega
      rw [e1, e2] at h4
      simp only [List.append_assoc, List.cons_append, List.nil_append] at h4
      exact h4
theorem JS.addF (S : JS room lives T base old cur k z J D) (L : List (List UInt8)) (hb : ∀ b ∈ L, b.length ≤ 16384) (hz : (baseS T base : Int) + z + ((L.flatMap frameF).length : Nat) ≤ room) :
    ∃ J' D', Go.Bb.addF J D L = (J', D', 0) ∧ JS room lives T base old (curAddL cur L) (k + L.length) (z + (L.flatMap frameF).length) J' D' ∧ J'.recs = J.recs ++ L := by
  obtain ⟨D', h1, h2⟩ := S.addL L hb hz
  refine ⟨_, D', ?_, h2, rfl⟩
  have en : nameF J.turn J.part = nameF T old.length := by rw [S.eJ]
  have ha : L.any (fun b => decide (16384 < b.length)) = false := by
    rw [List.any_eq_false]
    intro x hx
    have := hb x hx
    simp; omega
  unfold Go.Bb.addF
  rw [S.done, ha, en, h1]
  simp
theorem keep_disk (hT : T + 1 < 60) {fs : List FileF} (hf : fs.length ≤ 60) {b : List UInt8} (hz : (baseS T base : Int) + ((fs.map FileF.size).sum : Nat) + ((frameF (be8 (T + 1) ++ b)).length : Nat) ≤ room) (J : JF) (hJ : J.turn = T) :
    (appendF (dJ room lives T base fs) newN (frameF (be8 (T + 1) ++ b))).2 = 0 ∧
    (∃ P, P < 63 ∧ lookF (renameF (syncF (appendF (dJ room lives T base fs) newN (frameF (be8 (T + 1) ++ b))).1 newN).1 newN baseN).1.files (nameF T P) = none) ∧
    keptD J (appendF (dJ room lives T base fs) newN (frameF (be8 (T + 1) ++ b))).1 = dJ room lives (T + 1) b [] := by
  generalize hX : frameF (be8 (T + 1) ++ b) = X at hz
  have gn : goodName newN = true := by decide
  have gb : goodName baseN = true := by decide
  have hnew := dJ_new (room := room) (lives := lives) (T := T) (base := base) (fs := fs)
  have hne := look_ne_of hnew
  have e1 : appendF (dJ room lives T base fs) newN X = ({ dJ room lives T base fs with files := (dJ room lives T base fs).files ++ [(newN, ⟨[], [X]⟩)] }, 0) := by
    unfold appendF
    rw [ask1 rfl gn, if_pos rfl, dJ_size, if_neg (by simp only [dJ]; omega), hnew]
  have e2 : syncF { dJ room lives T base fs with files := (dJ room lives T base fs).files ++ [(newN, ⟨[], [X]⟩)] } newN = ({ dJ room lives T base fs with files := (dJ room lives T base fs).files ++ [(newN, ⟨X, []⟩)] }, 0) := by
    unfold syncF
    rw [ask1 rfl gn, if_pos rfl]
    have hl : lookF ((dJ room lives T base fs).files ++ [(newN, ⟨[], [X]⟩)]) newN = some ⟨[], [X]⟩ := by rw [look_app', hnew, Option.none_or, look_cons, if_pos rfl]
    have ht : turnF' ((dJ room lives T base fs).files ++ [(newN, ⟨[], [X]⟩)]) newN (FileF.sync ⟨[], [X]⟩) = (dJ room lives T base fs).files ++ [(newN, ⟨X, []⟩)] := by
      have : ∀ A B : Files, turnF' (A ++ B) newN (FileF.sync ⟨[], [X]⟩) = turnF' A newN (FileF.sync ⟨[], [X]⟩) ++ turnF' B newN (FileF.sync ⟨[], [X]⟩) := fun A B => List.map_append
      rw [this, turn_self hne]
      simp [turnF', FileF.sync, FileF.all]
    simp only [hl, ht]
  have e3 : renameF { dJ room lives T base fs with files := (dJ room lives T base fs).files ++ [(newN, ⟨X, []⟩)] } newN baseN = ({ dJ room lives T base fs with files := putFile (dJ room lives T base fs).files baseN ⟨X, []⟩ }, 0) := by
    unfold renameF
    have ha : askF { dJ room lives T base fs with files := (dJ room lives T base fs).files ++ [(newN, ⟨X, []⟩)] } [newN, baseN] = 0 := by
      show (if true = true then (if [newN, baseN].all goodName = true then 0 else 1) else 7) = 0
      rw [if_pos rfl, if_pos (by simp [gn, gb])]
    have hl : lookF ((dJ room lives T base fs).files ++ [(newN, ⟨X, []⟩)]) newN = some ⟨X, []⟩ := by rw [look_app', hnew, Option.none_or, look_cons, if_pos rfl]
    have hd : delFile ((dJ room lives T base fs).files ++ [(newN, ⟨X, []⟩)]) newN = (dJ room lives T base fs).files := by
      rw [del_app, del_self hne]
      simp [delFile]
    rw [ha, if_pos rfl]
    simp only [hl, hd]
  rw [e1]
  unfold keptD
  rw [hJ]
  simp only [e2, e3]
  refine ⟨trivial, ⟨60, by omega, ?_⟩, ?_⟩
  · have h0 := dJ_look (room := room) (lives := lives) (T := T) (base := base) (fs := fs) (by omega) (q := 60) (by omega) (by omega)
    rw [List.getElem?_eq_none (by omega)] at h0
    unfold putFile
    split
    · exact look_turn h0
    · rw [look_app', h0, Option.none_or, look_cons, if_neg (name_ne_base T 60).symm]; rfl
  · have hbn : ∀ x ∈ [(baseN, (⟨X, []⟩ : FileF))], ∀ q, x.1 ≠ nameF T q := by
      intro x hx q
      rw [List.mem_singleton] at hx; subst hx
      exact (name_ne_base T q).symm
    have hfin : ({ dJ room lives T base fs with files := [(baseN, (⟨X, []⟩ : FileF))] } : DiskF) = dJ room lives (T + 1) b [] := by
      have hbL : baseL (T + 1) b = [(baseN, ⟨frameF (be8 (T + 1) ++ b), []⟩)] := by unfold baseL; rw [if_neg (by omega)]
      show ({ room := room, files := [(baseN, (⟨X, []⟩ : FileF))], on := true, lives := lives } : DiskF) = { room := room, files := baseL (T + 1) b ++ partsF (T + 1) 0 [], on := true, lives := lives }
      rw [hbL, hX]; rfl
    by_cases h : T = 0
    · have hp : putFile (dJ room lives T base fs).files baseN ⟨X, []⟩ = [] ++ (partsF T 0 fs ++ [(baseN, ⟨X, []⟩)]) := by
        unfold putFile
        rw [dJ_base0 h]
        simp only [Option.isSome_none, Bool.false_eq_true, if_false]
        unfold dJ baseL
        rw [if_pos h]; rfl
      rw [hp, tidy_parts (by omega) (A := []) (B := [(baseN, ⟨X, []⟩)]) (by simpa using hbn) fs 0 64 _ (by omega) (by omega) rfl rfl]
      exact hfin
    · have hp : putFile (dJ room lives T base fs).files baseN ⟨X, []⟩ = [(baseN, ⟨X, []⟩)] ++ (partsF T 0 fs ++ []) := by
        unfold putFile
        rw [dJ_base h]
        simp only [Option.isSome_some, if_true]
        unfold dJ baseL
        rw [if_neg h]
        have : ∀ x ∈ partsF T 0 fs, x.1 ≠ baseN := by
          intro x hx
          obtain ⟨q, -, -, h3⟩ := parts_names 0 fs x hx
          rw [h3]; exact name_ne_base T q
        have h2 := turn_self this ⟨X, []⟩
        unfold turnF' at h2 ⊢
        rw [List.map_append, h2, List.append_nil]
        rfl
      rw [hp, tidy_parts (by omega) (A := [(baseN, ⟨X, []⟩)]) (B := []) (by simpa using hbn) fs 0 64 _ (by omega) (by omega) rfl rfl]
      exact hfin
theorem JS.keep (S : JS room lives T base old cur k z J D) (hT : T + 1 < 60) {b : List UInt8} (hb : b.length ≤ 65536) (hz : (baseS T base : Int) + z + 28 + b.length ≤ room) :
    ∃ J', keepF J D b = (J', dJ room lives (T + 1) b [], 0) ∧ JS room lives (T + 1) b [] none 0 0 J' (dJ room lives (T + 1) b []) ∧ J'.recs = [] ∧
      ∃ P, P < 63 ∧ lookF (renameF (syncF (appendF D newN (frameF (be8' (J.turn + 1) ++ b))).1 newN).1 newN baseN).1.files (nameF J.turn P) = none := by
  have hJ : J.turn = T := by rw [S.eJ]
  have hc := cur_len old cur
  have ho := S.ho
  have hz' := S.hz
  have hX : (frameF (be8 (T + 1) ++ b)).length = 28 + b.length := by rw [frameF_len, List.length_append, be8_len]; omega
  obtain ⟨h1, h2, h3⟩ := keep_disk (room := room) (lives := lives) (T := T) (base := base) hT (fs := old ++ cur.toList) (by omega) (b := b) (by rw [hX]; omega) J hJ
  have e8 : be8' (J.turn + 1) = be8 (T + 1) := by rw [hJ]; rfl
  have eD := S.eD
  refine ⟨{ J with turn := T + 1, part := 0, written := false, base := b, recs := [] }, ?_, ⟨rfl, ?_, by omega, by omega, hb, by simp, by simp, (fun F hF => by cases hF), by simp⟩, rfl, ?_⟩
  · unfold keepF
    rw [S.done, if_neg (by simp), if_neg (by omega), e8, eD, if_pos h1, h3, hJ]
  · rw [S.eJ]; rfl
  · rw [e8, hJ, eD]; exact h2
end
section
variable {h1 : Heap} {κ : Pal} {H : Heap} {d j : Nat} {J : JF} {D : DiskF} {room lives : Int} {T : Nat} {base : List UInt8} {old : List FileF} {cur : Option FileF} {k z : Nat}
theorem at_keep (E : EnvT tab) (A : At h1 κ H d j J D) (S : JS room lives T base old cur k z J D) (hT : T + 1 < 60) {v : Value} {b : List UInt8} (sb : SlB (H.bare κ) v b) (hb : b.length ≤ 65536) (hz : (baseS T base : Int) + z + 28 + b.length ≤ room) (hr : room ≤ 1048576) (hk : k ≤ 90000) :
    ACallN E.toEnv n_journal_Journal_Keep [ptrV j, v] H fun r H' => r = .int .i64 0 ∧ ∃ κ' J' D', At h1 κ' H' d j J' D' ∧ JS room lives (T + 1) b [] none 0 0 J' D' ∧ J'.recs = [] := by
  have ok := S.okW (by omega) hr
  obtain ⟨J', e1, e2, e3, P, hP, hl⟩ := S.keep hT hb hz
  refine (journal_Keep_c E A.N A.A.R A.ne ok hk (by rw [S.eJ]; simp only; omega) (by omega) sb hP hl).mono ?_
  rintro r H' ⟨rfl, κ', e, N, R⟩
  rw [e1] at N R ⊢
  exact ⟨rfl, κ', _, _, ⟨⟨Heap.le_trans A.A.B e.bare, R⟩, N, A.ne⟩, e2, e3⟩
end
end Go.Bb
/- The journal's example awake, by what its calls do. -/
namespace Go.Bb
set_option linter.unusedSimpArgs false
set_option linter.unusedVariables false
set_option maxRecDepth 20000
set_option maxHeartbeats 2000000

theorem lit_bytes {κ : Pal} {H : Heap} {b : Nat} (l : List UInt8) (sz : Nat) : SlB ((H.set b (.own 0 (l.map u8V) sz)).bare (fun i => if i = b then none else κ i)) (.slice (some ⟨b, 0, none⟩) l.length l.length) l :=
  .inr ⟨⟨b, 0, none⟩, l.length, rfl, Nat.le_refl _, by rw [hcells_at (Heap.bare_some.2 ⟨Heap.set_self _ _ _, by simp⟩) (by simp)]; simp [List.take_of_length_le]⟩
/-- A row of one text, new. -/
theorem At.lit2 {h1 : Heap} {κ : Pal} {H : Heap} {d j : Nat} {J : JF} {D : DiskF} (A : At h1 κ H d j J D) {b c : Nat} (hb : H b = none) (l : List UInt8) {sz : Nat} (hc : (H.set b (.own 0 (l.map u8V) sz)) c = none) :
    ∃ κ', At h1 κ' ((H.set b (.own 0 (l.map u8V) sz)).set c (.own 0 [.slice (some ⟨b, 0, none⟩) l.length l.length] 1)) d j J D ∧ SlL (((H.set b (.own 0 (l.map u8V) sz)).set c (.own 0 [.slice (some ⟨b, 0, none⟩) l.length l.length] 1)).bare κ') (.slice (some ⟨c, 0, none⟩) 1 1) [l] := by
  have A1 := A.ext (Ext.new hb (.own 0 (l.map u8V) sz) none) (fun _ _ q => (q : False))
  have s1 := lit_bytes (κ := κ) (H := H) (b := b) l sz
  exact ⟨_, A1.ext (Ext.new hc _ none) (fun _ _ q => (q : False)), lit1_bare hc (Heap.le_refl _) s1⟩

theorem NewL.bare {κ κi : Pal} {H H' : Heap} {v : Value} {L : List (List UInt8)} (n : NewL H H' κi v L) : SlL (H'.bare (κ.merge H (fun _ => none) 0)) v L := by
  obtain ⟨hi, vs, s, l, e⟩ := n
  have key : ∀ {c : Col} {size m : Nat} {v : Value} {cells : List Value}, OwK κi c H' size v m cells → OwK κi c (H'.bare (κ.merge H (fun _ => none) 0)) size v m cells := by
    intro c size m v cells s
    rcases s with s | ⟨b, o, c', sz, st, pre, rest, h1, h2, h3, h4, h5⟩
    · exact .inl s
    · rcases Heap.but_none.1 h3 with hk | hn
      · refine .inr ⟨b, o, c', sz, st, pre, rest, h1, h2, Heap.but_none.2 (.inl hk), Heap.bare_some.2 ⟨h4, ?_⟩, h5⟩
        unfold Pal.merge
        rw [if_pos]
        · rfl
        · cases hH : H b with
          | none => rfl
          | some y => rw [hi b (by rw [hH]; simp)] at hk; cases hk
      · rw [hn] at h4; cases h4
  exact ⟨vs, l, (key s).sl, fun i h1 h2 => (key (e i h1 h2)).sl⟩
theorem At.ground {h1 : Heap} {κ : Pal} {H : Heap} {d j : Nat} {J : JF} {D : DiskF} (A : At h1 κ H d j J D) : At (H.bare κ) κ H d j J D := ⟨⟨Heap.le_refl _, A.A.R⟩, A.N, A.ne⟩
theorem law14_awake_d (E : EnvT tab) (h : Heap) : ACallN E.toEnv n_bandboxlaw14_awake [] h fun v h' => v = .bool true ∧ h.le h' := by
  refine acall h_bandboxlaw14_awake ir_bandboxlaw14_awake rfl rfl (wpA_sound ?_)
  unfold ir_bandboxlaw14_awake
  have hbs : baseS 0 [] = 0 := rfl
  simp -implicitDefEqProofs only [zB1,zB2,zB3,zB4,zB5,zB6,zB7,zB8,zB9,zB10,zB11,y00,y01,y02,y03,y04,y05,y06,y07,y08,y09,y0a,y0b,y0c,y0d,y0e,y0f,y0g,y0h,y0i,y0j,y0k,y0l,y0m,y0n,y0o,y0p,y0q,y0r,y0s,y0t,y0u,y0v,y0w,y0x,y0y,y0z,y10,y11,y12,y13,y14,y15,y16,y17,y18,y19,y1a,y1b,y1c,y1d,y1e,y1f,y1g,y1h,y1i,y1j,y1k,y1l,y1m,y1n,y1o,y1p,y1q,y1r,retO,retL,retV,z6i,allV,allP,z6j,z6m,z6n,z6t,z6u,z6v,binV,eqV,unV,oOpt,reduceIte,reduceCtorEq,Nat.reduceEqDiff,Nat.reduceAdd,Nat.reduceMul,Nat.reduceLT,Nat.reduceSub,Int.reduceLT,Int.reduceLE,Int.reduceEq,Int.reduceNe,Int.reduceSub,Int.reduceAdd,Int.reduceMul,Int.reduceBEq,Int.reduceBNe,Int.reduceGT,Int.reduceGE,Nat.reduceGT,Int.reduceToNat,Int.reduceNeg,Nat.reduceLeDiff,Nat.reduceBEq,Nat.reduceBneDiff,Value.cells]
  refine (at_new E h 10000 (by omega) (by omega)).mono ?_
  rintro v h2 ⟨d, κ2, rfl, A2⟩
  simp -implicitDefEqProofs only [zB1,zB2,zB3,zB4,zB5,zB6,zB7,zB8,zB9,zB10,zB11,y00,y01,y02,y03,y04,y05,y06,y07,y08,y09,y0a,y0b,y0c,y0d,y0e,y0f,y0g,y0h,y0i,y0j,y0k,y0l,y0m,y0n,y0o,y0p,y0q,y0r,y0s,y0t,y0u,y0v,y0w,y0x,y0y,y0z,y10,y11,y12,y13,y14,y15,y16,y17,y18,y19,y1a,y1b,y1c,y1d,y1e,y1f,y1g,y1h,y1i,y1j,y1k,y1l,y1m,y1n,y1o,y1p,y1q,y1r,retO,retL,retV,z6i,allV,allP,z6j,z6m,z6n,z6t,z6u,z6v,binV,eqV,unV,oOpt,reduceIte,reduceCtorEq,Nat.reduceEqDiff,Nat.reduceAdd,Nat.reduceMul,Nat.reduceLT,Nat.reduceSub,Int.reduceLT,Int.reduceLE,Int.reduceEq,Int.reduceNe,Int.reduceSub,Int.reduceAdd,Int.reduceMul,Int.reduceBEq,Int.reduceBNe,Int.reduceGT,Int.reduceGE,Nat.reduceGT,Int.reduceToNat,Int.reduceNeg,Nat.reduceLeDiff,Nat.reduceBEq,Nat.reduceBneDiff,Value.cells]
  refine (at_start E 10000 (by omega) (by omega) A2).mono ?_
  rintro v h3 ⟨j, κ3, J3, D3, rfl, A3, S3, hr3⟩
  simp -implicitDefEqProofs only [zB1,zB2,zB3,zB4,zB5,zB6,zB7,zB8,zB9,zB10,zB11,y00,y01,y02,y03,y04,y05,y06,y07,y08,y09,y0a,y0b,y0c,y0d,y0e,y0f,y0g,y0h,y0i,y0j,y0k,y0l,y0m,y0n,y0o,y0p,y0q,y0r,y0s,y0t,y0u,y0v,y0w,y0x,y0y,y0z,y10,y11,y12,y13,y14,y15,y16,y17,y18,y19,y1a,y1b,y1c,y1d,y1e,y1f,y1g,y1h,y1i,y1j,y1k,y1l,y1m,y1n,y1o,y1p,y1q,y1r,retO,retL,retV,z6i,allV,allP,z6j,z6m,z6n,z6t,z6u,z6v,binV,eqV,unV,oOpt,reduceIte,reduceCtorEq,Nat.reduceEqDiff,Nat.reduceAdd,Nat.reduceMul,Nat.reduceLT,Nat.reduceSub,Int.reduceLT,Int.reduceLE,Int.reduceEq,Int.reduceNe,Int.reduceSub,Int.reduceAdd,Int.reduceMul,Int.reduceBEq,Int.reduceBNe,Int.reduceGT,Int.reduceGE,Nat.reduceGT,Int.reduceToNat,Int.reduceNeg,Nat.reduceLeDiff,Nat.reduceBEq,Nat.reduceBneDiff,Value.cells]
  unfold ir_bandboxlaw14_awake_20
  simp -implicitDefEqProofs only [zB1,zB2,zB3,zB4,zB5,zB6,zB7,zB8,zB9,zB10,zB11,y00,y01,y02,y03,y04,y05,y06,y07,y08,y09,y0a,y0b,y0c,y0d,y0e,y0f,y0g,y0h,y0i,y0j,y0k,y0l,y0m,y0n,y0o,y0p,y0q,y0r,y0s,y0t,y0u,y0v,y0w,y0x,y0y,y0z,y10,y11,y12,y13,y14,y15,y16,y17,y18,y19,y1a,y1b,y1c,y1d,y1e,y1f,y1g,y1h,y1i,y1j,y1k,y1l,y1m,y1n,y1o,y1p,y1q,y1r,retO,retL,retV,z6i,allV,allP,z6j,z6m,z6n,z6t,z6u,z6v,binV,eqV,unV,oOpt,reduceIte,reduceCtorEq,Nat.reduceEqDiff,Nat.reduceAdd,Nat.reduceMul,Nat.reduceLT,Nat.reduceSub,Int.reduceLT,Int.reduceLE,Int.reduceEq,Int.reduceNe,Int.reduceSub,Int.reduceAdd,Int.reduceMul,Int.reduceBEq,Int.reduceBNe,Int.reduceGT,Int.reduceGE,Nat.reduceGT,Int.reduceToNat,Int.reduceNeg,Nat.reduceLeDiff,Nat.reduceBEq,Nat.reduceBneDiff,Value.cells]
  intro b1 hb1
  try simp -implicitDefEqProofs only [zB1,zB2,zB3,zB4,zB5,zB6,zB7,zB8,zB9,zB10,zB11,y00,y01,y02,y03,y04,y05,y06,y07,y08,y09,y0a,y0b,y0c,y0d,y0e,y0f,y0g,y0h,y0i,y0j,y0k,y0l,y0m,y0n,y0o,y0p,y0q,y0r,y0s,y0t,y0u,y0v,y0w,y0x,y0y,y0z,y10,y11,y12,y13,y14,y15,y16,y17,y18,y19,y1a,y1b,y1c,y1d,y1e,y1f,y1g,y1h,y1i,y1j,y1k,y1l,y1m,y1n,y1o,y1p,y1q,y1r,retO,retL,retV,z6i,allV,allP,z6j,z6m,z6n,z6t,z6u,z6v,binV,eqV,unV,oOpt,reduceIte,reduceCtorEq,Nat.reduceEqDiff,Nat.reduceAdd,Nat.reduceMul,Nat.reduceLT,Nat.reduceSub,Int.reduceLT,Int.reduceLE,Int.reduceEq,Int.reduceNe,Int.reduceSub,Int.reduceAdd,Int.reduceMul,Int.reduceBEq,Int.reduceBNe,Int.reduceGT,Int.reduceGE,Nat.reduceGT,Int.reduceToNat,Int.reduceNeg,Nat.reduceLeDiff,Nat.reduceBEq,Nat.reduceBneDiff,Value.cells]
  have m1 : markV (h3.set b1 (.own 0 [.int .u8 120] 1)) (.slice (some ⟨b1, 0, none⟩) 1 1) = some (.slice (some ⟨b1, 0, none⟩) 1 1) := by simp [markV, Heap.set_self]
  simp -implicitDefEqProofs only [zB1,zB2,zB3,zB4,zB5,zB6,zB7,zB8,zB9,zB10,zB11,y00,y01,y02,y03,y04,y05,y06,y07,y08,y09,y0a,y0b,y0c,y0d,y0e,y0f,y0g,y0h,y0i,y0j,y0k,y0l,y0m,y0n,y0o,y0p,y0q,y0r,y0s,y0t,y0u,y0v,y0w,y0x,y0y,y0z,y10,y11,y12,y13,y14,y15,y16,y17,y18,y19,y1a,y1b,y1c,y1d,y1e,y1f,y1g,y1h,y1i,y1j,y1k,y1l,y1m,y1n,y1o,y1p,y1q,y1r,retO,retL,retV,z6i,allV,allP,z6j,z6m,z6n,z6t,z6u,z6v,binV,eqV,unV,oOpt,reduceIte,reduceCtorEq,Nat.reduceEqDiff,Nat.reduceAdd,Nat.reduceMul,Nat.reduceLT,Nat.reduceSub,Int.reduceLT,Int.reduceLE,Int.reduceEq,Int.reduceNe,Int.reduceSub,Int.reduceAdd,Int.reduceMul,Int.reduceBEq,Int.reduceBNe,Int.reduceGT,Int.reduceGE,Nat.reduceGT,Int.reduceToNat,Int.reduceNeg,Nat.reduceLeDiff,Nat.reduceBEq,Nat.reduceBneDiff,Value.cells, m1, List.length_replicate, List.drop_replicate, List.replicate_zero]
  intro b2 hb2
  try simp -implicitDefEqProofs only [zB1,zB2,zB3,zB4,zB5,zB6,zB7,zB8,zB9,zB10,zB11,y00,y01,y02,y03,y04,y05,y06,y07,y08,y09,y0a,y0b,y0c,y0d,y0e,y0f,y0g,y0h,y0i,y0j,y0k,y0l,y0m,y0n,y0o,y0p,y0q,y0r,y0s,y0t,y0u,y0v,y0w,y0x,y0y,y0z,y10,y11,y12,y13,y14,y15,y16,y17,y18,y19,y1a,y1b,y1c,y1d,y1e,y1f,y1g,y1h,y1i,y1j,y1k,y1l,y1m,y1n,y1o,y1p,y1q,y1r,retO,retL,retV,z6i,allV,allP,z6j,z6m,z6n,z6t,z6u,z6v,binV,eqV,unV,oOpt,reduceIte,reduceCtorEq,Nat.reduceEqDiff,Nat.reduceAdd,Nat.reduceMul,Nat.reduceLT,Nat.reduceSub,Int.reduceLT,Int.reduceLE,Int.reduceEq,Int.reduceNe,Int.reduceSub,Int.reduceAdd,Int.reduceMul,Int.reduceBEq,Int.reduceBNe,Int.reduceGT,Int.reduceGE,Nat.reduceGT,Int.reduceToNat,Int.reduceNeg,Nat.reduceLeDiff,Nat.reduceBEq,Nat.reduceBneDiff,Value.cells]
  obtain ⟨κ4, A4, sA4⟩ := A3.lit2 hb1 [120] (sz := 1) hb2
  refine (at_add1 E A4 S3 sA4 (by simp) (by rw [hbs]; simp) (by omega) (by omega) (by rw [hr3]; simp)).mono ?_
  rintro r h5 ⟨rfl, κ5, J5, D5, A5, S5, hr5⟩
  rw [hr3, List.nil_append] at hr5
  simp -implicitDefEqProofs only [zB1,zB2,zB3,zB4,zB5,zB6,zB7,zB8,zB9,zB10,zB11,y00,y01,y02,y03,y04,y05,y06,y07,y08,y09,y0a,y0b,y0c,y0d,y0e,y0f,y0g,y0h,y0i,y0j,y0k,y0l,y0m,y0n,y0o,y0p,y0q,y0r,y0s,y0t,y0u,y0v,y0w,y0x,y0y,y0z,y10,y11,y12,y13,y14,y15,y16,y17,y18,y19,y1a,y1b,y1c,y1d,y1e,y1f,y1g,y1h,y1i,y1j,y1k,y1l,y1m,y1n,y1o,y1p,y1q,y1r,retO,retL,retV,z6i,allV,allP,z6j,z6m,z6n,z6t,z6u,z6v,binV,eqV,unV,oOpt,reduceIte,reduceCtorEq,Nat.reduceEqDiff,Nat.reduceAdd,Nat.reduceMul,Nat.reduceLT,Nat.reduceSub,Int.reduceLT,Int.reduceLE,Int.reduceEq,Int.reduceNe,Int.reduceSub,Int.reduceAdd,Int.reduceMul,Int.reduceBEq,Int.reduceBNe,Int.reduceGT,Int.reduceGE,Nat.reduceGT,Int.reduceToNat,Int.reduceNeg,Nat.reduceLeDiff,Nat.reduceBEq,Nat.reduceBneDiff,Value.cells]
  refine (at_sync E A5 S5 (by rw [hbs]; simp) (by omega) (by omega)).mono ?_
  rintro r h6 ⟨rfl, κ6, D6, cur6, A6, S6, hs6⟩
  simp -implicitDefEqProofs only [zB1,zB2,zB3,zB4,zB5,zB6,zB7,zB8,zB9,zB10,zB11,y00,y01,y02,y03,y04,y05,y06,y07,y08,y09,y0a,y0b,y0c,y0d,y0e,y0f,y0g,y0h,y0i,y0j,y0k,y0l,y0m,y0n,y0o,y0p,y0q,y0r,y0s,y0t,y0u,y0v,y0w,y0x,y0y,y0z,y10,y11,y12,y13,y14,y15,y16,y17,y18,y19,y1a,y1b,y1c,y1d,y1e,y1f,y1g,y1h,y1i,y1j,y1k,y1l,y1m,y1n,y1o,y1p,y1q,y1r,retO,retL,retV,z6i,allV,allP,z6j,z6m,z6n,z6t,z6u,z6v,binV,eqV,unV,oOpt,reduceIte,reduceCtorEq,Nat.reduceEqDiff,Nat.reduceAdd,Nat.reduceMul,Nat.reduceLT,Nat.reduceSub,Int.reduceLT,Int.reduceLE,Int.reduceEq,Int.reduceNe,Int.reduceSub,Int.reduceAdd,Int.reduceMul,Int.reduceBEq,Int.reduceBNe,Int.reduceGT,Int.reduceGE,Nat.reduceGT,Int.reduceToNat,Int.reduceNeg,Nat.reduceLeDiff,Nat.reduceBEq,Nat.reduceBneDiff,Value.cells]
  intro b3 hb3
  try simp -implicitDefEqProofs only [zB1,zB2,zB3,zB4,zB5,zB6,zB7,zB8,zB9,zB10,zB11,y00,y01,y02,y03,y04,y05,y06,y07,y08,y09,y0a,y0b,y0c,y0d,y0e,y0f,y0g,y0h,y0i,y0j,y0k,y0l,y0m,y0n,y0o,y0p,y0q,y0r,y0s,y0t,y0u,y0v,y0w,y0x,y0y,y0z,y10,y11,y12,y13,y14,y15,y16,y17,y18,y19,y1a,y1b,y1c,y1d,y1e,y1f,y1g,y1h,y1i,y1j,y1k,y1l,y1m,y1n,y1o,y1p,y1q,y1r,retO,retL,retV,z6i,allV,allP,z6j,z6m,z6n,z6t,z6u,z6v,binV,eqV,unV,oOpt,reduceIte,reduceCtorEq,Nat.reduceEqDiff,Nat.reduceAdd,Nat.reduceMul,Nat.reduceLT,Nat.reduceSub,Int.reduceLT,Int.reduceLE,Int.reduceEq,Int.reduceNe,Int.reduceSub,Int.reduceAdd,Int.reduceMul,Int.reduceBEq,Int.reduceBNe,Int.reduceGT,Int.reduceGE,Nat.reduceGT,Int.reduceToNat,Int.reduceNeg,Nat.reduceLeDiff,Nat.reduceBEq,Nat.reduceBneDiff,Value.cells]
  have m2 : markV (h6.set b3 (.own 0 [.int .u8 121] 1)) (.slice (some ⟨b3, 0, none⟩) 1 1) = some (.slice (some ⟨b3, 0, none⟩) 1 1) := by simp [markV, Heap.set_self]
  simp -implicitDefEqProofs only [zB1,zB2,zB3,zB4,zB5,zB6,zB7,zB8,zB9,zB10,zB11,y00,y01,y02,y03,y04,y05,y06,y07,y08,y09,y0a,y0b,y0c,y0d,y0e,y0f,y0g,y0h,y0i,y0j,y0k,y0l,y0m,y0n,y0o,y0p,y0q,y0r,y0s,y0t,y0u,y0v,y0w,y0x,y0y,y0z,y10,y11,y12,y13,y14,y15,y16,y17,y18,y19,y1a,y1b,y1c,y1d,y1e,y1f,y1g,y1h,y1i,y1j,y1k,y1l,y1m,y1n,y1o,y1p,y1q,y1r,retO,retL,retV,z6i,allV,allP,z6j,z6m,z6n,z6t,z6u,z6v,binV,eqV,unV,oOpt,reduceIte,reduceCtorEq,Nat.reduceEqDiff,Nat.reduceAdd,Nat.reduceMul,Nat.reduceLT,Nat.reduceSub,Int.reduceLT,Int.reduceLE,Int.reduceEq,Int.reduceNe,Int.reduceSub,Int.reduceAdd,Int.reduceMul,Int.reduceBEq,Int.reduceBNe,Int.reduceGT,Int.reduceGE,Nat.reduceGT,Int.reduceToNat,Int.reduceNeg,Nat.reduceLeDiff,Nat.reduceBEq,Nat.reduceBneDiff,Value.cells, m2, List.length_replicate, List.drop_replicate, List.replicate_zero]
  intro b4 hb4
  try simp -implicitDefEqProofs only [zB1,zB2,zB3,zB4,zB5,zB6,zB7,zB8,zB9,zB10,zB11,y00,y01,y02,y03,y04,y05,y06,y07,y08,y09,y0a,y0b,y0c,y0d,y0e,y0f,y0g,y0h,y0i,y0j,y0k,y0l,y0m,y0n,y0o,y0p,y0q,y0r,y0s,y0t,y0u,y0v,y0w,y0x,y0y,y0z,y10,y11,y12,y13,y14,y15,y16,y17,y18,y19,y1a,y1b,y1c,y1d,y1e,y1f,y1g,y1h,y1i,y1j,y1k,y1l,y1m,y1n,y1o,y1p,y1q,y1r,retO,retL,retV,z6i,allV,allP,z6j,z6m,z6n,z6t,z6u,z6v,binV,eqV,unV,oOpt,reduceIte,reduceCtorEq,Nat.reduceEqDiff,Nat.reduceAdd,Nat.reduceMul,Nat.reduceLT,Nat.reduceSub,Int.reduceLT,Int.reduceLE,Int.reduceEq,Int.reduceNe,Int.reduceSub,Int.reduceAdd,Int.reduceMul,Int.reduceBEq,Int.reduceBNe,Int.reduceGT,Int.reduceGE,Nat.reduceGT,Int.reduceToNat,Int.reduceNeg,Nat.reduceLeDiff,Nat.reduceBEq,Nat.reduceBneDiff,Value.cells]
  obtain ⟨κ7, A7, sA7⟩ := A6.lit2 hb3 [121] (sz := 1) hb4
  refine (at_add1 E A7 S6 sA7 (by simp) (by rw [hbs]; simp) (by omega) (by omega) (by rw [hr5]; simp)).mono ?_
  rintro r h8 ⟨rfl, κ8, J8, D8, A8, S8, hr8⟩
  rw [hr5] at hr8 hs6
  simp -implicitDefEqProofs only [zB1,zB2,zB3,zB4,zB5,zB6,zB7,zB8,zB9,zB10,zB11,y00,y01,y02,y03,y04,y05,y06,y07,y08,y09,y0a,y0b,y0c,y0d,y0e,y0f,y0g,y0h,y0i,y0j,y0k,y0l,y0m,y0n,y0o,y0p,y0q,y0r,y0s,y0t,y0u,y0v,y0w,y0x,y0y,y0z,y10,y11,y12,y13,y14,y15,y16,y17,y18,y19,y1a,y1b,y1c,y1d,y1e,y1f,y1g,y1h,y1i,y1j,y1k,y1l,y1m,y1n,y1o,y1p,y1q,y1r,retO,retL,retV,z6i,allV,allP,z6j,z6m,z6n,z6t,z6u,z6v,binV,eqV,unV,oOpt,reduceIte,reduceCtorEq,Nat.reduceEqDiff,Nat.reduceAdd,Nat.reduceMul,Nat.reduceLT,Nat.reduceSub,Int.reduceLT,Int.reduceLE,Int.reduceEq,Int.reduceNe,Int.reduceSub,Int.reduceAdd,Int.reduceMul,Int.reduceBEq,Int.reduceBNe,Int.reduceGT,Int.reduceGE,Nat.reduceGT,Int.reduceToNat,Int.reduceNeg,Nat.reduceLeDiff,Nat.reduceBEq,Nat.reduceBneDiff,Value.cells]
  unfold ir_bandboxlaw14_awake_38
  simp -implicitDefEqProofs only [zB1,zB2,zB3,zB4,zB5,zB6,zB7,zB8,zB9,zB10,zB11,y00,y01,y02,y03,y04,y05,y06,y07,y08,y09,y0a,y0b,y0c,y0d,y0e,y0f,y0g,y0h,y0i,y0j,y0k,y0l,y0m,y0n,y0o,y0p,y0q,y0r,y0s,y0t,y0u,y0v,y0w,y0x,y0y,y0z,y10,y11,y12,y13,y14,y15,y16,y17,y18,y19,y1a,y1b,y1c,y1d,y1e,y1f,y1g,y1h,y1i,y1j,y1k,y1l,y1m,y1n,y1o,y1p,y1q,y1r,retO,retL,retV,z6i,allV,allP,z6j,z6m,z6n,z6t,z6u,z6v,binV,eqV,unV,oOpt,reduceIte,reduceCtorEq,Nat.reduceEqDiff,Nat.reduceAdd,Nat.reduceMul,Nat.reduceLT,Nat.reduceSub,Int.reduceLT,Int.reduceLE,Int.reduceEq,Int.reduceNe,Int.reduceSub,Int.reduceAdd,Int.reduceMul,Int.reduceBEq,Int.reduceBNe,Int.reduceGT,Int.reduceGE,Nat.reduceGT,Int.reduceToNat,Int.reduceNeg,Nat.reduceLeDiff,Nat.reduceBEq,Nat.reduceBneDiff,Value.cells]
  have hJ8b : ∀ l ∈ J8.recs, l.length ≤ 1000000 := by rw [hr8]; simp
  refine (journal_All_c E A8.N (by rw [hr8]; simp) hJ8b).mono ?_
  rintro av h9 ⟨le9, κx, N9⟩
  have A9 : At h _ h9 d j J8 D8 := A8.ext (Ext.merge (κi := fun _ => none) 0 le9) (fun _ _ q => (q : False))
  have s9 := N9.bare (κ := κ8)
  have hh9 := A9.A.B
  rw [hr8] at s9
  generalize κ8.merge h8 (fun _ => none) 0 = κ9 at A9 s9 hh9
  replace A9 := A9.ground
  obtain ⟨ab, ac, rfl⟩ := s9.shape
  generalize h9.bare κ9 = h0 at A9 s9 hh9
  simp -implicitDefEqProofs only [zB1,zB2,zB3,zB4,zB5,zB6,zB7,zB8,zB9,zB10,zB11,y00,y01,y02,y03,y04,y05,y06,y07,y08,y09,y0a,y0b,y0c,y0d,y0e,y0f,y0g,y0h,y0i,y0j,y0k,y0l,y0m,y0n,y0o,y0p,y0q,y0r,y0s,y0t,y0u,y0v,y0w,y0x,y0y,y0z,y10,y11,y12,y13,y14,y15,y16,y17,y18,y19,y1a,y1b,y1c,y1d,y1e,y1f,y1g,y1h,y1i,y1j,y1k,y1l,y1m,y1n,y1o,y1p,y1q,y1r,retO,retL,retV,z6i,allV,allP,z6j,z6m,z6n,z6t,z6u,z6v,binV,eqV,unV,oOpt,reduceIte,reduceCtorEq,Nat.reduceEqDiff,Nat.reduceAdd,Nat.reduceMul,Nat.reduceLT,Nat.reduceSub,Int.reduceLT,Int.reduceLE,Int.reduceEq,Int.reduceNe,Int.reduceSub,Int.reduceAdd,Int.reduceMul,Int.reduceBEq,Int.reduceBNe,Int.reduceGT,Int.reduceGE,Nat.reduceGT,Int.reduceToNat,Int.reduceNeg,Nat.reduceLeDiff,Nat.reduceBEq,Nat.reduceBneDiff,Value.cells]
  have ok9 := (S8.okW (by rw [hbs]; simp) (by omega)).ok (by omega)
  refine (at_crash E A9.A ok9 0#64 0).mono ?_
  rintro v h10 ⟨κ10, A10⟩
  simp -implicitDefEqProofs only [zB1,zB2,zB3,zB4,zB5,zB6,zB7,zB8,zB9,zB10,zB11,y00,y01,y02,y03,y04,y05,y06,y07,y08,y09,y0a,y0b,y0c,y0d,y0e,y0f,y0g,y0h,y0i,y0j,y0k,y0l,y0m,y0n,y0o,y0p,y0q,y0r,y0s,y0t,y0u,y0v,y0w,y0x,y0y,y0z,y10,y11,y12,y13,y14,y15,y16,y17,y18,y19,y1a,y1b,y1c,y1d,y1e,y1f,y1g,y1h,y1i,y1j,y1k,y1l,y1m,y1n,y1o,y1p,y1q,y1r,retO,retL,retV,z6i,allV,allP,z6j,z6m,z6n,z6t,z6u,z6v,binV,eqV,unV,oOpt,reduceIte,reduceCtorEq,Nat.reduceEqDiff,Nat.reduceAdd,Nat.reduceMul,Nat.reduceLT,Nat.reduceSub,Int.reduceLT,Int.reduceLE,Int.reduceEq,Int.reduceNe,Int.reduceSub,Int.reduceAdd,Int.reduceMul,Int.reduceBEq,Int.reduceBNe,Int.reduceGT,Int.reduceGE,Nat.reduceGT,Int.reduceToNat,Int.reduceNeg,Nat.reduceLeDiff,Nat.reduceBEq,Nat.reduceBneDiff,Value.cells]
  refine (at_on E A10 (by rw [S8.lives_eq]; omega) (by rw [S8.lives_eq]; omega)).mono ?_
  rintro v h11 A11
  simp -implicitDefEqProofs only [zB1,zB2,zB3,zB4,zB5,zB6,zB7,zB8,zB9,zB10,zB11,y00,y01,y02,y03,y04,y05,y06,y07,y08,y09,y0a,y0b,y0c,y0d,y0e,y0f,y0g,y0h,y0i,y0j,y0k,y0l,y0m,y0n,y0o,y0p,y0q,y0r,y0s,y0t,y0u,y0v,y0w,y0x,y0y,y0z,y10,y11,y12,y13,y14,y15,y16,y17,y18,y19,y1a,y1b,y1c,y1d,y1e,y1f,y1g,y1h,y1i,y1j,y1k,y1l,y1m,y1n,y1o,y1p,y1q,y1r,retO,retL,retV,z6i,allV,allP,z6j,z6m,z6n,z6t,z6u,z6v,binV,eqV,unV,oOpt,reduceIte,reduceCtorEq,Nat.reduceEqDiff,Nat.reduceAdd,Nat.reduceMul,Nat.reduceLT,Nat.reduceSub,Int.reduceLT,Int.reduceLE,Int.reduceEq,Int.reduceNe,Int.reduceSub,Int.reduceAdd,Int.reduceMul,Int.reduceBEq,Int.reduceBNe,Int.reduceGT,Int.reduceGE,Nat.reduceGT,Int.reduceToNat,Int.reduceNeg,Nat.reduceLeDiff,Nat.reduceBEq,Nat.reduceBneDiff,Value.cells]
  refine (at_reopen' E S8 (by simp) A11 (by rw [hbs]; simp) (by omega)).mono ?_
  rintro v h12 ⟨j', κ12, J12, D12, old12, cur12, n, rfl, -, -, A12, S12, hn1, hn2, hn3, hn4, hn5, hn6⟩
  have hn : n = 1 := by rw [hn6 rfl, safe_add, hs6]; rfl
  subst hn
  rw [hr8] at hn3
  have hb12 : J12.base = [] := by rw [S12.eJ]
  simp -implicitDefEqProofs only [zB1,zB2,zB3,zB4,zB5,zB6,zB7,zB8,zB9,zB10,zB11,y00,y01,y02,y03,y04,y05,y06,y07,y08,y09,y0a,y0b,y0c,y0d,y0e,y0f,y0g,y0h,y0i,y0j,y0k,y0l,y0m,y0n,y0o,y0p,y0q,y0r,y0s,y0t,y0u,y0v,y0w,y0x,y0y,y0z,y10,y11,y12,y13,y14,y15,y16,y17,y18,y19,y1a,y1b,y1c,y1d,y1e,y1f,y1g,y1h,y1i,y1j,y1k,y1l,y1m,y1n,y1o,y1p,y1q,y1r,retO,retL,retV,z6i,allV,allP,z6j,z6m,z6n,z6t,z6u,z6v,binV,eqV,unV,oOpt,reduceIte,reduceCtorEq,Nat.reduceEqDiff,Nat.reduceAdd,Nat.reduceMul,Nat.reduceLT,Nat.reduceSub,Int.reduceLT,Int.reduceLE,Int.reduceEq,Int.reduceNe,Int.reduceSub,Int.reduceAdd,Int.reduceMul,Int.reduceBEq,Int.reduceBNe,Int.reduceGT,Int.reduceGE,Nat.reduceGT,Int.reduceToNat,Int.reduceNeg,Nat.reduceLeDiff,Nat.reduceBEq,Nat.reduceBneDiff,Value.cells]
  unfold ir_bandboxlaw14_awake_55
  simp -implicitDefEqProofs only [zB1,zB2,zB3,zB4,zB5,zB6,zB7,zB8,zB9,zB10,zB11,y00,y01,y02,y03,y04,y05,y06,y07,y08,y09,y0a,y0b,y0c,y0d,y0e,y0f,y0g,y0h,y0i,y0j,y0k,y0l,y0m,y0n,y0o,y0p,y0q,y0r,y0s,y0t,y0u,y0v,y0w,y0x,y0y,y0z,y10,y11,y12,y13,y14,y15,y16,y17,y18,y19,y1a,y1b,y1c,y1d,y1e,y1f,y1g,y1h,y1i,y1j,y1k,y1l,y1m,y1n,y1o,y1p,y1q,y1r,retO,retL,retV,z6i,allV,allP,z6j,z6m,z6n,z6t,z6u,z6v,binV,eqV,unV,oOpt,reduceIte,reduceCtorEq,Nat.reduceEqDiff,Nat.reduceAdd,Nat.reduceMul,Nat.reduceLT,Nat.reduceSub,Int.reduceLT,Int.reduceLE,Int.reduceEq,Int.reduceNe,Int.reduceSub,Int.reduceAdd,Int.reduceMul,Int.reduceBEq,Int.reduceBNe,Int.reduceGT,Int.reduceGE,Nat.reduceGT,Int.reduceToNat,Int.reduceNeg,Nat.reduceLeDiff,Nat.reduceBEq,Nat.reduceBneDiff,Value.cells, List.length_replicate, List.drop_replicate, List.replicate_zero]
  intro b1 hb1
  try simp -implicitDefEqProofs only [zB1,zB2,zB3,zB4,zB5,zB6,zB7,zB8,zB9,zB10,zB11,y00,y01,y02,y03,y04,y05,y06,y07,y08,y09,y0a,y0b,y0c,y0d,y0e,y0f,y0g,y0h,y0i,y0j,y0k,y0l,y0m,y0n,y0o,y0p,y0q,y0r,y0s,y0t,y0u,y0v,y0w,y0x,y0y,y0z,y10,y11,y12,y13,y14,y15,y16,y17,y18,y19,y1a,y1b,y1c,y1d,y1e,y1f,y1g,y1h,y1i,y1j,y1k,y1l,y1m,y1n,y1o,y1p,y1q,y1r,retO,retL,retV,z6i,allV,allP,z6j,z6m,z6n,z6t,z6u,z6v,binV,eqV,unV,oOpt,reduceIte,reduceCtorEq,Nat.reduceEqDiff,Nat.reduceAdd,Nat.reduceMul,Nat.reduceLT,Nat.reduceSub,Int.reduceLT,Int.reduceLE,Int.reduceEq,Int.reduceNe,Int.reduceSub,Int.reduceAdd,Int.reduceMul,Int.reduceBEq,Int.reduceBNe,Int.reduceGT,Int.reduceGE,Nat.reduceGT,Int.reduceToNat,Int.reduceNeg,Nat.reduceLeDiff,Nat.reduceBEq,Nat.reduceBneDiff,Value.cells]
  have m1 : markV (h12.set b1 (.own 0 [.int .u8 120] 1)) (.slice (some ⟨b1, 0, none⟩) 1 1) = some (.slice (some ⟨b1, 0, none⟩) 1 1) := by simp [markV, Heap.set_self]
  simp -implicitDefEqProofs only [zB1,zB2,zB3,zB4,zB5,zB6,zB7,zB8,zB9,zB10,zB11,y00,y01,y02,y03,y04,y05,y06,y07,y08,y09,y0a,y0b,y0c,y0d,y0e,y0f,y0g,y0h,y0i,y0j,y0k,y0l,y0m,y0n,y0o,y0p,y0q,y0r,y0s,y0t,y0u,y0v,y0w,y0x,y0y,y0z,y10,y11,y12,y13,y14,y15,y16,y17,y18,y19,y1a,y1b,y1c,y1d,y1e,y1f,y1g,y1h,y1i,y1j,y1k,y1l,y1m,y1n,y1o,y1p,y1q,y1r,retO,retL,retV,z6i,allV,allP,z6j,z6m,z6n,z6t,z6u,z6v,binV,eqV,unV,oOpt,reduceIte,reduceCtorEq,Nat.reduceEqDiff,Nat.reduceAdd,Nat.reduceMul,Nat.reduceLT,Nat.reduceSub,Int.reduceLT,Int.reduceLE,Int.reduceEq,Int.reduceNe,Int.reduceSub,Int.reduceAdd,Int.reduceMul,Int.reduceBEq,Int.reduceBNe,Int.reduceGT,Int.reduceGE,Nat.reduceGT,Int.reduceToNat,Int.reduceNeg,Nat.reduceLeDiff,Nat.reduceBEq,Nat.reduceBneDiff,Value.cells, m1, List.length_replicate, List.drop_replicate, List.replicate_zero]
  intro b2 hb2
  try simp -implicitDefEqProofs only [zB1,zB2,zB3,zB4,zB5,zB6,zB7,zB8,zB9,zB10,zB11,y00,y01,y02,y03,y04,y05,y06,y07,y08,y09,y0a,y0b,y0c,y0d,y0e,y0f,y0g,y0h,y0i,y0j,y0k,y0l,y0m,y0n,y0o,y0p,y0q,y0r,y0s,y0t,y0u,y0v,y0w,y0x,y0y,y0z,y10,y11,y12,y13,y14,y15,y16,y17,y18,y19,y1a,y1b,y1c,y1d,y1e,y1f,y1g,y1h,y1i,y1j,y1k,y1l,y1m,y1n,y1o,y1p,y1q,y1r,retO,retL,retV,z6i,allV,allP,z6j,z6m,z6n,z6t,z6u,z6v,binV,eqV,unV,oOpt,reduceIte,reduceCtorEq,Nat.reduceEqDiff,Nat.reduceAdd,Nat.reduceMul,Nat.reduceLT,Nat.reduceSub,Int.reduceLT,Int.reduceLE,Int.reduceEq,Int.reduceNe,Int.reduceSub,Int.reduceAdd,Int.reduceMul,Int.reduceBEq,Int.reduceBNe,Int.reduceGT,Int.reduceGE,Nat.reduceGT,Int.reduceToNat,Int.reduceNeg,Nat.reduceLeDiff,Nat.reduceBEq,Nat.reduceBneDiff,Value.cells]
  have le2 := Heap.le_set (Heap.le_refl (h12.set b1 (.own 0 [.int .u8 120] 1))) hb2 (.own 0 [.int .u8 121] 1)
  generalize hg : h12.set b1 (.own 0 [.int .u8 120] 1) = g at *
  have m2 : markV (g.set b2 (.own 0 [.int .u8 121] 1)) (.slice (some ⟨b2, 0, none⟩) 1 1) = some (.slice (some ⟨b2, 0, none⟩) 1 1) := by simp [markV, Heap.set_self]
  simp -implicitDefEqProofs only [zB1,zB2,zB3,zB4,zB5,zB6,zB7,zB8,zB9,zB10,zB11,y00,y01,y02,y03,y04,y05,y06,y07,y08,y09,y0a,y0b,y0c,y0d,y0e,y0f,y0g,y0h,y0i,y0j,y0k,y0l,y0m,y0n,y0o,y0p,y0q,y0r,y0s,y0t,y0u,y0v,y0w,y0x,y0y,y0z,y10,y11,y12,y13,y14,y15,y16,y17,y18,y19,y1a,y1b,y1c,y1d,y1e,y1f,y1g,y1h,y1i,y1j,y1k,y1l,y1m,y1n,y1o,y1p,y1q,y1r,retO,retL,retV,z6i,allV,allP,z6j,z6m,z6n,z6t,z6u,z6v,binV,eqV,unV,oOpt,reduceIte,reduceCtorEq,Nat.reduceEqDiff,Nat.reduceAdd,Nat.reduceMul,Nat.reduceLT,Nat.reduceSub,Int.reduceLT,Int.reduceLE,Int.reduceEq,Int.reduceNe,Int.reduceSub,Int.reduceAdd,Int.reduceMul,Int.reduceBEq,Int.reduceBNe,Int.reduceGT,Int.reduceGE,Nat.reduceGT,Int.reduceToNat,Int.reduceNeg,Nat.reduceLeDiff,Nat.reduceBEq,Nat.reduceBneDiff,Value.cells, m2, List.length_replicate, List.drop_replicate, List.replicate_zero]
  intro b3 hb3
  try simp -implicitDefEqProofs only [zB1,zB2,zB3,zB4,zB5,zB6,zB7,zB8,zB9,zB10,zB11,y00,y01,y02,y03,y04,y05,y06,y07,y08,y09,y0a,y0b,y0c,y0d,y0e,y0f,y0g,y0h,y0i,y0j,y0k,y0l,y0m,y0n,y0o,y0p,y0q,y0r,y0s,y0t,y0u,y0v,y0w,y0x,y0y,y0z,y10,y11,y12,y13,y14,y15,y16,y17,y18,y19,y1a,y1b,y1c,y1d,y1e,y1f,y1g,y1h,y1i,y1j,y1k,y1l,y1m,y1n,y1o,y1p,y1q,y1r,retO,retL,retV,z6i,allV,allP,z6j,z6m,z6n,z6t,z6u,z6v,binV,eqV,unV,oOpt,reduceIte,reduceCtorEq,Nat.reduceEqDiff,Nat.reduceAdd,Nat.reduceMul,Nat.reduceLT,Nat.reduceSub,Int.reduceLT,Int.reduceLE,Int.reduceEq,Int.reduceNe,Int.reduceSub,Int.reduceAdd,Int.reduceMul,Int.reduceBEq,Int.reduceBNe,Int.reduceGT,Int.reduceGE,Nat.reduceGT,Int.reduceToNat,Int.reduceNeg,Nat.reduceLeDiff,Nat.reduceBEq,Nat.reduceBneDiff,Value.cells]
  have leg : h12.le g := by rw [← hg]; exact Heap.le_set (Heap.le_refl h12) hb1 _
  have q1 : SlB g (.slice (some ⟨b1, 0, none⟩) 1 1) [120] := own_sl (l := [120]) (sz := 1) (by rw [← hg]; exact Heap.set_self _ _ _)
  have q2 : SlB (g.set b2 (.own 0 [.int .u8 121] 1)) (.slice (some ⟨b2, 0, none⟩) 1 1) [121] := own_sl (l := [121]) (sz := 1) (Heap.set_self _ _ _)
  have sq := SlL.lit2 hb3 (q1.le le2) q2
  have le3 := Heap.le_set (Heap.le_refl (g.set b2 (.own 0 [.int .u8 121] 1))) hb3 (.own 0 [.slice (some ⟨b1, 0, none⟩) 1 1, .slice (some ⟨b2, 0, none⟩) 1 1] 2)
  have leF : h12.le ((g.set b2 (.own 0 [.int .u8 121] 1)).set b3 (.own 0 [.slice (some ⟨b1, 0, none⟩) 1 1, .slice (some ⟨b2, 0, none⟩) 1 1] 2)) := Heap.le_trans leg (Heap.le_trans le2 le3)
  generalize (g.set b2 (.own 0 [.int .u8 121] 1)).set b3 (.own 0 [.slice (some ⟨b1, 0, none⟩) 1 1, .slice (some ⟨b2, 0, none⟩) 1 1] 2) = H3 at sq leF
  have A13 := A12.le leF
  refine (law14_same_c E [[120], [121]] [[120], [121]] (s9.le A13.A.hle) sq (by simp) (by simp)).mono ?_
  rintro r H4 ⟨rfl, rfl⟩
  simp -implicitDefEqProofs only [zB1,zB2,zB3,zB4,zB5,zB6,zB7,zB8,zB9,zB10,zB11,y00,y01,y02,y03,y04,y05,y06,y07,y08,y09,y0a,y0b,y0c,y0d,y0e,y0f,y0g,y0h,y0i,y0j,y0k,y0l,y0m,y0n,y0o,y0p,y0q,y0r,y0s,y0t,y0u,y0v,y0w,y0x,y0y,y0z,y10,y11,y12,y13,y14,y15,y16,y17,y18,y19,y1a,y1b,y1c,y1d,y1e,y1f,y1g,y1h,y1i,y1j,y1k,y1l,y1m,y1n,y1o,y1p,y1q,y1r,retO,retL,retV,z6i,allV,allP,z6j,z6m,z6n,z6t,z6u,z6v,binV,eqV,unV,oOpt,reduceIte,reduceCtorEq,Nat.reduceEqDiff,Nat.reduceAdd,Nat.reduceMul,Nat.reduceLT,Nat.reduceSub,Int.reduceLT,Int.reduceLE,Int.reduceEq,Int.reduceNe,Int.reduceSub,Int.reduceAdd,Int.reduceMul,Int.reduceBEq,Int.reduceBNe,Int.reduceGT,Int.reduceGE,Nat.reduceGT,Int.reduceToNat,Int.reduceNeg,Nat.reduceLeDiff,Nat.reduceBEq,Nat.reduceBneDiff,Value.cells]
  have hJ12b : ∀ l ∈ J12.recs, l.length ≤ 1000000 := by rw [hn3]; simp
  refine (journal_All_c E A13.N (by rw [hn3]; simp) hJ12b).mono ?_
  rintro av H5 ⟨le5, κy, N5⟩
  have A14 := A13.le le5
  have sR := N5.sl
  rw [hn3] at sR
  obtain ⟨rb, rc, rfl⟩ := sR.shape
  simp -implicitDefEqProofs only [zB1,zB2,zB3,zB4,zB5,zB6,zB7,zB8,zB9,zB10,zB11,y00,y01,y02,y03,y04,y05,y06,y07,y08,y09,y0a,y0b,y0c,y0d,y0e,y0f,y0g,y0h,y0i,y0j,y0k,y0l,y0m,y0n,y0o,y0p,y0q,y0r,y0s,y0t,y0u,y0v,y0w,y0x,y0y,y0z,y10,y11,y12,y13,y14,y15,y16,y17,y18,y19,y1a,y1b,y1c,y1d,y1e,y1f,y1g,y1h,y1i,y1j,y1k,y1l,y1m,y1n,y1o,y1p,y1q,y1r,retO,retL,retV,z6i,allV,allP,z6j,z6m,z6n,z6t,z6u,z6v,binV,eqV,unV,oOpt,reduceIte,reduceCtorEq,Nat.reduceEqDiff,Nat.reduceAdd,Nat.reduceMul,Nat.reduceLT,Nat.reduceSub,Int.reduceLT,Int.reduceLE,Int.reduceEq,Int.reduceNe,Int.reduceSub,Int.reduceAdd,Int.reduceMul,Int.reduceBEq,Int.reduceBNe,Int.reduceGT,Int.reduceGE,Nat.reduceGT,Int.reduceToNat,Int.reduceNeg,Nat.reduceLeDiff,Nat.reduceBEq,Nat.reduceBneDiff,Value.cells, List.length_replicate, List.drop_replicate, List.replicate_zero]
  intro b4 hb4
  try simp -implicitDefEqProofs only [zB1,zB2,zB3,zB4,zB5,zB6,zB7,zB8,zB9,zB10,zB11,y00,y01,y02,y03,y04,y05,y06,y07,y08,y09,y0a,y0b,y0c,y0d,y0e,y0f,y0g,y0h,y0i,y0j,y0k,y0l,y0m,y0n,y0o,y0p,y0q,y0r,y0s,y0t,y0u,y0v,y0w,y0x,y0y,y0z,y10,y11,y12,y13,y14,y15,y16,y17,y18,y19,y1a,y1b,y1c,y1d,y1e,y1f,y1g,y1h,y1i,y1j,y1k,y1l,y1m,y1n,y1o,y1p,y1q,y1r,retO,retL,retV,z6i,allV,allP,z6j,z6m,z6n,z6t,z6u,z6v,binV,eqV,unV,oOpt,reduceIte,reduceCtorEq,Nat.reduceEqDiff,Nat.reduceAdd,Nat.reduceMul,Nat.reduceLT,Nat.reduceSub,Int.reduceLT,Int.reduceLE,Int.reduceEq,Int.reduceNe,Int.reduceSub,Int.reduceAdd,Int.reduceMul,Int.reduceBEq,Int.reduceBNe,Int.reduceGT,Int.reduceGE,Nat.reduceGT,Int.reduceToNat,Int.reduceNeg,Nat.reduceLeDiff,Nat.reduceBEq,Nat.reduceBneDiff,Value.cells]
  have le6 := Heap.le_set (Heap.le_refl H5) hb4 (.own 0 [.int .u8 120] 1)
  have m3 : markV (H5.set b4 (.own 0 [.int .u8 120] 1)) (.slice (some ⟨b4, 0, none⟩) 1 1) = some (.slice (some ⟨b4, 0, none⟩) 1 1) := by simp [markV, Heap.set_self]
  simp -implicitDefEqProofs only [zB1,zB2,zB3,zB4,zB5,zB6,zB7,zB8,zB9,zB10,zB11,y00,y01,y02,y03,y04,y05,y06,y07,y08,y09,y0a,y0b,y0c,y0d,y0e,y0f,y0g,y0h,y0i,y0j,y0k,y0l,y0m,y0n,y0o,y0p,y0q,y0r,y0s,y0t,y0u,y0v,y0w,y0x,y0y,y0z,y10,y11,y12,y13,y14,y15,y16,y17,y18,y19,y1a,y1b,y1c,y1d,y1e,y1f,y1g,y1h,y1i,y1j,y1k,y1l,y1m,y1n,y1o,y1p,y1q,y1r,retO,retL,retV,z6i,allV,allP,z6j,z6m,z6n,z6t,z6u,z6v,binV,eqV,unV,oOpt,reduceIte,reduceCtorEq,Nat.reduceEqDiff,Nat.reduceAdd,Nat.reduceMul,Nat.reduceLT,Nat.reduceSub,Int.reduceLT,Int.reduceLE,Int.reduceEq,Int.reduceNe,Int.reduceSub,Int.reduceAdd,Int.reduceMul,Int.reduceBEq,Int.reduceBNe,Int.reduceGT,Int.reduceGE,Nat.reduceGT,Int.reduceToNat,Int.reduceNeg,Nat.reduceLeDiff,Nat.reduceBEq,Nat.reduceBneDiff,Value.cells, m3, List.length_replicate, List.drop_replicate, List.replicate_zero]
  intro b5 hb5
  try simp -implicitDefEqProofs only [zB1,zB2,zB3,zB4,zB5,zB6,zB7,zB8,zB9,zB10,zB11,y00,y01,y02,y03,y04,y05,y06,y07,y08,y09,y0a,y0b,y0c,y0d,y0e,y0f,y0g,y0h,y0i,y0j,y0k,y0l,y0m,y0n,y0o,y0p,y0q,y0r,y0s,y0t,y0u,y0v,y0w,y0x,y0y,y0z,y10,y11,y12,y13,y14,y15,y16,y17,y18,y19,y1a,y1b,y1c,y1d,y1e,y1f,y1g,y1h,y1i,y1j,y1k,y1l,y1m,y1n,y1o,y1p,y1q,y1r,retO,retL,retV,z6i,allV,allP,z6j,z6m,z6n,z6t,z6u,z6v,binV,eqV,unV,oOpt,reduceIte,reduceCtorEq,Nat.reduceEqDiff,Nat.reduceAdd,Nat.reduceMul,Nat.reduceLT,Nat.reduceSub,Int.reduceLT,Int.reduceLE,Int.reduceEq,Int.reduceNe,Int.reduceSub,Int.reduceAdd,Int.reduceMul,Int.reduceBEq,Int.reduceBNe,Int.reduceGT,Int.reduceGE,Nat.reduceGT,Int.reduceToNat,Int.reduceNeg,Nat.reduceLeDiff,Nat.reduceBEq,Nat.reduceBneDiff,Value.cells]
  have q4 : SlB (H5.set b4 (.own 0 [.int .u8 120] 1)) (.slice (some ⟨b4, 0, none⟩) 1 1) [120] := own_sl (l := [120]) (sz := 1) (Heap.set_self _ _ _)
  have sq1 := SlL.lit1 hb5 q4
  have le7 := Heap.le_set (Heap.le_refl (H5.set b4 (.own 0 [.int .u8 120] 1))) hb5 (.own 0 [.slice (some ⟨b4, 0, none⟩) 1 1] 1)
  have leG := Heap.le_trans le6 le7
  generalize (H5.set b4 (.own 0 [.int .u8 120] 1)).set b5 (.own 0 [.slice (some ⟨b4, 0, none⟩) 1 1] 1) = H6 at sq1 leG
  have A15 := A14.le leG
  refine (law14_same_c E [[120]] [[120]] (sR.le leG) sq1 (by simp) (by simp)).mono ?_
  rintro r H7 ⟨rfl, rfl⟩
  simp -implicitDefEqProofs only [zB1,zB2,zB3,zB4,zB5,zB6,zB7,zB8,zB9,zB10,zB11,y00,y01,y02,y03,y04,y05,y06,y07,y08,y09,y0a,y0b,y0c,y0d,y0e,y0f,y0g,y0h,y0i,y0j,y0k,y0l,y0m,y0n,y0o,y0p,y0q,y0r,y0s,y0t,y0u,y0v,y0w,y0x,y0y,y0z,y10,y11,y12,y13,y14,y15,y16,y17,y18,y19,y1a,y1b,y1c,y1d,y1e,y1f,y1g,y1h,y1i,y1j,y1k,y1l,y1m,y1n,y1o,y1p,y1q,y1r,retO,retL,retV,z6i,allV,allP,z6j,z6m,z6n,z6t,z6u,z6v,binV,eqV,unV,oOpt,reduceIte,reduceCtorEq,Nat.reduceEqDiff,Nat.reduceAdd,Nat.reduceMul,Nat.reduceLT,Nat.reduceSub,Int.reduceLT,Int.reduceLE,Int.reduceEq,Int.reduceNe,Int.reduceSub,Int.reduceAdd,Int.reduceMul,Int.reduceBEq,Int.reduceBNe,Int.reduceGT,Int.reduceGE,Nat.reduceGT,Int.reduceToNat,Int.reduceNeg,Nat.reduceLeDiff,Nat.reduceBEq,Nat.reduceBneDiff,Value.cells]
  refine (journal_Base_c E A15.N (by rw [hb12]; simp)).mono ?_
  rintro r H8 ⟨le8, ow⟩
  rw [hb12] at ow
  obtain ⟨zb, zc, rfl⟩ := Sl.shape ow.sl
  simp -implicitDefEqProofs only [zB1,zB2,zB3,zB4,zB5,zB6,zB7,zB8,zB9,zB10,zB11,y00,y01,y02,y03,y04,y05,y06,y07,y08,y09,y0a,y0b,y0c,y0d,y0e,y0f,y0g,y0h,y0i,y0j,y0k,y0l,y0m,y0n,y0o,y0p,y0q,y0r,y0s,y0t,y0u,y0v,y0w,y0x,y0y,y0z,y10,y11,y12,y13,y14,y15,y16,y17,y18,y19,y1a,y1b,y1c,y1d,y1e,y1f,y1g,y1h,y1i,y1j,y1k,y1l,y1m,y1n,y1o,y1p,y1q,y1r,retO,retL,retV,z6i,allV,allP,z6j,z6m,z6n,z6t,z6u,z6v,binV,eqV,unV,oOpt,reduceIte,reduceCtorEq,Nat.reduceEqDiff,Nat.reduceAdd,Nat.reduceMul,Nat.reduceLT,Nat.reduceSub,Int.reduceLT,Int.reduceLE,Int.reduceEq,Int.reduceNe,Int.reduceSub,Int.reduceAdd,Int.reduceMul,Int.reduceBEq,Int.reduceBNe,Int.reduceGT,Int.reduceGE,Nat.reduceGT,Int.reduceToNat,Int.reduceNeg,Nat.reduceLeDiff,Nat.reduceBEq,Nat.reduceBneDiff,Value.cells]
  exact Heap.le_trans hh9 (Heap.le_trans A15.A.hle le8)
end Go.Bb
/- The law JournalKnown, by what the calls do. -/
namespace Go.Bb
set_option linter.unusedSimpArgs false
set_option linter.unusedVariables false
set_option maxRecDepth 20000
set_option maxHeartbeats 2000000

section
variable {h1 : Heap} {κ : Pal} {H : Heap} {d j : Nat} {J : JF} {D : DiskF}
theorem at_crash2 (E : EnvT tab) (A : At h1 κ H d j J D) (ok : D.ok) (keep : U64) (torn : Int) : ACallN E.toEnv n_disk_Disk_Crash [ptrV d, .int .u64 keep.toNat, .int .i64 torn] H fun v H' => ∃ κ', At h1 κ' H' d j J (crashF D keep torn) := by
  refine (disk_Crash_c E A.A.R ok keep torn).mono ?_
  rintro v H' ⟨κ', e, R⟩
  exact ⟨κ', ⟨Heap.le_trans A.A.B e.bare, R⟩, A.N.ext e (fun c h q => A.ne (q.symm.trans h)), A.ne⟩
theorem at_on2 (E : EnvT tab) (A : At h1 κ H d j J D) (hl : -9000000000000000000 ≤ D.lives) (hl2 : D.lives ≤ 9000000000000000000) : ACallN E.toEnv n_disk_Disk_On [ptrV d] H fun v H' => At h1 κ H' d j J (onF D) := by
  refine (disk_On_c E A.A.R hl hl2).mono ?_
  rintro v H' ⟨e, R⟩
  exact ⟨⟨Heap.le_trans A.A.B e.bare, R⟩, A.N.ext e (fun c h q => A.ne (q.symm.trans h)), A.ne⟩
theorem journal_Open_off (E : EnvT tab) (RD : DiskR κ H d D) (off : D.on = false) : ACallN E.toEnv n_journal_Open [ptrV d] H fun r H' => H' = H ∧ r = .tuple #[.pointer none, .int .i64 7] := by
  refine acall h_journal_Open ir_journal_Open rfl rfl (wpA_sound ?_)
  unfold ir_journal_Open
  simp -implicitDefEqProofs only [zB1,zB2,zB3,zB4,zB5,zB6,zB7,zB8,zB9,zB10,zB11,y00,y01,y02,y03,y04,y05,y06,y07,y08,y09,y0a,y0b,y0c,y0d,y0e,y0f,y0g,y0h,y0i,y0j,y0k,y0l,y0m,y0n,y0o,y0p,y0q,y0r,y0s,y0t,y0u,y0v,y0w,y0x,y0y,y0z,y10,y11,y12,y13,y14,y15,y16,y17,y18,y19,y1a,y1b,y1c,y1d,y1e,y1f,y1g,y1h,y1i,y1j,y1k,y1l,y1m,y1n,y1o,y1p,y1q,y1r,retO,retL,retV,z6i,allV,allP,z6j,z6m,z6n,z6t,z6u,z6v,binV,eqV,unV,oOpt,reduceIte,reduceCtorEq,Nat.reduceEqDiff,Nat.reduceAdd,Nat.reduceMul,Nat.reduceLT,Nat.reduceSub,Int.reduceLT,Int.reduceLE,Int.reduceEq,Int.reduceNe,Int.reduceSub,Int.reduceAdd,Int.reduceMul,Int.reduceBEq,Int.reduceBNe,Int.reduceGT,Int.reduceGE,Nat.reduceGT,Int.reduceToNat,Int.reduceNeg,Nat.reduceLeDiff,Nat.reduceBEq,Nat.reduceBneDiff,Value.cells]
  unfold ir_journal_Open_7
  simp -implicitDefEqProofs only [zB1,zB2,zB3,zB4,zB5,zB6,zB7,zB8,zB9,zB10,zB11,y00,y01,y02,y03,y04,y05,y06,y07,y08,y09,y0a,y0b,y0c,y0d,y0e,y0f,y0g,y0h,y0i,y0j,y0k,y0l,y0m,y0n,y0o,y0p,y0q,y0r,y0s,y0t,y0u,y0v,y0w,y0x,y0y,y0z,y10,y11,y12,y13,y14,y15,y16,y17,y18,y19,y1a,y1b,y1c,y1d,y1e,y1f,y1g,y1h,y1i,y1j,y1k,y1l,y1m,y1n,y1o,y1p,y1q,y1r,retO,retL,retV,z6i,allV,allP,z6j,z6m,z6n,z6t,z6u,z6v,binV,eqV,unV,oOpt,reduceIte,reduceCtorEq,Nat.reduceEqDiff,Nat.reduceAdd,Nat.reduceMul,Nat.reduceLT,Nat.reduceSub,Int.reduceLT,Int.reduceLE,Int.reduceEq,Int.reduceNe,Int.reduceSub,Int.reduceAdd,Int.reduceMul,Int.reduceBEq,Int.reduceBNe,Int.reduceGT,Int.reduceGE,Nat.reduceGT,Int.reduceToNat,Int.reduceNeg,Nat.reduceLeDiff,Nat.reduceBEq,Nat.reduceBneDiff,Value.cells]
  refine (disk_Power_c E RD).mono ?_
  rintro v H1 ⟨rfl, rfl⟩
  simp -implicitDefEqProofs only [zB1,zB2,zB3,zB4,zB5,zB6,zB7,zB8,zB9,zB10,zB11,y00,y01,y02,y03,y04,y05,y06,y07,y08,y09,y0a,y0b,y0c,y0d,y0e,y0f,y0g,y0h,y0i,y0j,y0k,y0l,y0m,y0n,y0o,y0p,y0q,y0r,y0s,y0t,y0u,y0v,y0w,y0x,y0y,y0z,y10,y11,y12,y13,y14,y15,y16,y17,y18,y19,y1a,y1b,y1c,y1d,y1e,y1f,y1g,y1h,y1i,y1j,y1k,y1l,y1m,y1n,y1o,y1p,y1q,y1r,retO,retL,retV,z6i,allV,allP,z6j,z6m,z6n,z6t,z6u,z6v,binV,eqV,unV,oOpt,reduceIte,reduceCtorEq,Nat.reduceEqDiff,Nat.reduceAdd,Nat.reduceMul,Nat.reduceLT,Nat.reduceSub,Int.reduceLT,Int.reduceLE,Int.reduceEq,Int.reduceNe,Int.reduceSub,Int.reduceAdd,Int.reduceMul,Int.reduceBEq,Int.reduceBNe,Int.reduceGT,Int.reduceGE,Nat.reduceGT,Int.reduceToNat,Int.reduceNeg,Nat.reduceLeDiff,Nat.reduceBEq,Nat.reduceBneDiff,Value.cells, off]
/-- What is new has no colour. -/
def Pal.un (κ : Pal) (H : Heap) : Pal := κ.merge H (fun _ => none) 0
theorem un_none {b : Nat} (hb : H b = none) : κ.un H b = none := by unfold Pal.un Pal.merge; rw [if_pos hb]; rfl
theorem At.un {H' : Heap} (A : At h1 κ H d j J D) (le : H.le H') : At h1 (κ.un H) H' d j J D := A.ext (Ext.merge (κi := fun _ => none) 0 le) (fun _ _ q => (q : False))
theorem own_un {H' : Heap} {κ' : Pal} {b n : Nat} {l : List UInt8} {sz : Nat} (k : κ' b = none) (q : H' b = some (.own 0 (l.map u8V) sz)) (hn : n = l.length) : SlB (H'.bare κ') (.slice (some ⟨b, 0, none⟩) n n) l := by
  subst hn; exact own_sl (Heap.bare_some.2 ⟨q, k⟩)
theorem rows2_un {H' : Heap} {κ' : Pal} {b : Nat} {u v : Value} {l m : List UInt8} (k : κ' b = none) (q : H' b = some (.own 0 [u, v] 2)) (s : SlB (H'.bare κ') u l) (t : SlB (H'.bare κ') v m) : SlL (H'.bare κ') (.slice (some ⟨b, 0, none⟩) 2 2) [l, m] := by
  refine ⟨[u, v], rfl, .inr ⟨⟨b, 0, none⟩, 2, rfl, Nat.le_refl _, by rw [hcells_at (vs := [u, v]) (sz := 2) (Heap.bare_some.2 ⟨q, k⟩) (by simp)]; rfl⟩, ?_⟩
  intro i x y
  match i, x, y with
  | 0, _, _ => exact s
  | 1, _, _ => exact t
end
theorem bandboxlaw14_JournalKnown_c (E : EnvT tab) (W : World) : ACallN E.toEnv n_bandboxlaw14_JournalKnown [] (roHeap W) fun v _ => v = .bool true := by
  generalize roHeap W = h
  refine acall h_bandboxlaw14_JournalKnown ir_bandboxlaw14_JournalKnown rfl rfl (wpA_sound ?_)
  unfold ir_bandboxlaw14_JournalKnown
  have hbs : baseS 0 [] = 0 := rfl
  simp -implicitDefEqProofs only [zB1,zB2,zB3,zB4,zB5,zB6,zB7,zB8,zB9,zB10,zB11,y00,y01,y02,y03,y04,y05,y06,y07,y08,y09,y0a,y0b,y0c,y0d,y0e,y0f,y0g,y0h,y0i,y0j,y0k,y0l,y0m,y0n,y0o,y0p,y0q,y0r,y0s,y0t,y0u,y0v,y0w,y0x,y0y,y0z,y10,y11,y12,y13,y14,y15,y16,y17,y18,y19,y1a,y1b,y1c,y1d,y1e,y1f,y1g,y1h,y1i,y1j,y1k,y1l,y1m,y1n,y1o,y1p,y1q,y1r,retO,retL,retV,z6i,allV,allP,z6j,z6m,z6n,z6t,z6u,z6v,binV,eqV,unV,oOpt,reduceIte,reduceCtorEq,Nat.reduceEqDiff,Nat.reduceAdd,Nat.reduceMul,Nat.reduceLT,Nat.reduceSub,Int.reduceLT,Int.reduceLE,Int.reduceEq,Int.reduceNe,Int.reduceSub,Int.reduceAdd,Int.reduceMul,Int.reduceBEq,Int.reduceBNe,Int.reduceGT,Int.reduceGE,Nat.reduceGT,Int.reduceToNat,Int.reduceNeg,Nat.reduceLeDiff,Nat.reduceBEq,Nat.reduceBneDiff,Value.cells]
  refine (law14_awake_d E h).mono ?_
  rintro v h1 ⟨rfl, -⟩
  simp -implicitDefEqProofs only [zB1,zB2,zB3,zB4,zB5,zB6,zB7,zB8,zB9,zB10,zB11,y00,y01,y02,y03,y04,y05,y06,y07,y08,y09,y0a,y0b,y0c,y0d,y0e,y0f,y0g,y0h,y0i,y0j,y0k,y0l,y0m,y0n,y0o,y0p,y0q,y0r,y0s,y0t,y0u,y0v,y0w,y0x,y0y,y0z,y10,y11,y12,y13,y14,y15,y16,y17,y18,y19,y1a,y1b,y1c,y1d,y1e,y1f,y1g,y1h,y1i,y1j,y1k,y1l,y1m,y1n,y1o,y1p,y1q,y1r,retO,retL,retV,z6i,allV,allP,z6j,z6m,z6n,z6t,z6u,z6v,binV,eqV,unV,oOpt,reduceIte,reduceCtorEq,Nat.reduceEqDiff,Nat.reduceAdd,Nat.reduceMul,Nat.reduceLT,Nat.reduceSub,Int.reduceLT,Int.reduceLE,Int.reduceEq,Int.reduceNe,Int.reduceSub,Int.reduceAdd,Int.reduceMul,Int.reduceBEq,Int.reduceBNe,Int.reduceGT,Int.reduceGE,Nat.reduceGT,Int.reduceToNat,Int.reduceNeg,Nat.reduceLeDiff,Nat.reduceBEq,Nat.reduceBneDiff,Value.cells]
  refine (at_new E h1 262144 (by omega) (by omega)).mono ?_
  rintro v h2 ⟨d, κ2, rfl, A2⟩
  simp -implicitDefEqProofs only [zB1,zB2,zB3,zB4,zB5,zB6,zB7,zB8,zB9,zB10,zB11,y00,y01,y02,y03,y04,y05,y06,y07,y08,y09,y0a,y0b,y0c,y0d,y0e,y0f,y0g,y0h,y0i,y0j,y0k,y0l,y0m,y0n,y0o,y0p,y0q,y0r,y0s,y0t,y0u,y0v,y0w,y0x,y0y,y0z,y10,y11,y12,y13,y14,y15,y16,y17,y18,y19,y1a,y1b,y1c,y1d,y1e,y1f,y1g,y1h,y1i,y1j,y1k,y1l,y1m,y1n,y1o,y1p,y1q,y1r,retO,retL,retV,z6i,allV,allP,z6j,z6m,z6n,z6t,z6u,z6v,binV,eqV,unV,oOpt,reduceIte,reduceCtorEq,Nat.reduceEqDiff,Nat.reduceAdd,Nat.reduceMul,Nat.reduceLT,Nat.reduceSub,Int.reduceLT,Int.reduceLE,Int.reduceEq,Int.reduceNe,Int.reduceSub,Int.reduceAdd,Int.reduceMul,Int.reduceBEq,Int.reduceBNe,Int.reduceGT,Int.reduceGE,Nat.reduceGT,Int.reduceToNat,Int.reduceNeg,Nat.reduceLeDiff,Nat.reduceBEq,Nat.reduceBneDiff,Value.cells]
  refine (at_start E 262144 (by omega) (by omega) A2).mono ?_
  rintro v h3 ⟨j, κ3, J3, D3, rfl, A3, S3, hr3⟩
  simp -implicitDefEqProofs only [zB1,zB2,zB3,zB4,zB5,zB6,zB7,zB8,zB9,zB10,zB11,y00,y01,y02,y03,y04,y05,y06,y07,y08,y09,y0a,y0b,y0c,y0d,y0e,y0f,y0g,y0h,y0i,y0j,y0k,y0l,y0m,y0n,y0o,y0p,y0q,y0r,y0s,y0t,y0u,y0v,y0w,y0x,y0y,y0z,y10,y11,y12,y13,y14,y15,y16,y17,y18,y19,y1a,y1b,y1c,y1d,y1e,y1f,y1g,y1h,y1i,y1j,y1k,y1l,y1m,y1n,y1o,y1p,y1q,y1r,retO,retL,retV,z6i,allV,allP,z6j,z6m,z6n,z6t,z6u,z6v,binV,eqV,unV,oOpt,reduceIte,reduceCtorEq,Nat.reduceEqDiff,Nat.reduceAdd,Nat.reduceMul,Nat.reduceLT,Nat.reduceSub,Int.reduceLT,Int.reduceLE,Int.reduceEq,Int.reduceNe,Int.reduceSub,Int.reduceAdd,Int.reduceMul,Int.reduceBEq,Int.reduceBNe,Int.reduceGT,Int.reduceGE,Nat.reduceGT,Int.reduceToNat,Int.reduceNeg,Nat.reduceLeDiff,Nat.reduceBEq,Nat.reduceBneDiff,Value.cells, List.length_replicate, List.drop_replicate, List.replicate_zero]
  intro b1 hb1
  try simp -implicitDefEqProofs only [zB1,zB2,zB3,zB4,zB5,zB6,zB7,zB8,zB9,zB10,zB11,y00,y01,y02,y03,y04,y05,y06,y07,y08,y09,y0a,y0b,y0c,y0d,y0e,y0f,y0g,y0h,y0i,y0j,y0k,y0l,y0m,y0n,y0o,y0p,y0q,y0r,y0s,y0t,y0u,y0v,y0w,y0x,y0y,y0z,y10,y11,y12,y13,y14,y15,y16,y17,y18,y19,y1a,y1b,y1c,y1d,y1e,y1f,y1g,y1h,y1i,y1j,y1k,y1l,y1m,y1n,y1o,y1p,y1q,y1r,retO,retL,retV,z6i,allV,allP,z6j,z6m,z6n,z6t,z6u,z6v,binV,eqV,unV,oOpt,reduceIte,reduceCtorEq,Nat.reduceEqDiff,Nat.reduceAdd,Nat.reduceMul,Nat.reduceLT,Nat.reduceSub,Int.reduceLT,Int.reduceLE,Int.reduceEq,Int.reduceNe,Int.reduceSub,Int.reduceAdd,Int.reduceMul,Int.reduceBEq,Int.reduceBNe,Int.reduceGT,Int.reduceGE,Nat.reduceGT,Int.reduceToNat,Int.reduceNeg,Nat.reduceLeDiff,Nat.reduceBEq,Nat.reduceBneDiff,Value.cells]
  have m1 : markV (h3.set b1 (.own 0 [.int .u8 120] 1)) (.slice (some ⟨b1, 0, none⟩) 1 1) = some (.slice (some ⟨b1, 0, none⟩) 1 1) := by simp [markV, Heap.set_self]
  simp -implicitDefEqProofs only [zB1,zB2,zB3,zB4,zB5,zB6,zB7,zB8,zB9,zB10,zB11,y00,y01,y02,y03,y04,y05,y06,y07,y08,y09,y0a,y0b,y0c,y0d,y0e,y0f,y0g,y0h,y0i,y0j,y0k,y0l,y0m,y0n,y0o,y0p,y0q,y0r,y0s,y0t,y0u,y0v,y0w,y0x,y0y,y0z,y10,y11,y12,y13,y14,y15,y16,y17,y18,y19,y1a,y1b,y1c,y1d,y1e,y1f,y1g,y1h,y1i,y1j,y1k,y1l,y1m,y1n,y1o,y1p,y1q,y1r,retO,retL,retV,z6i,allV,allP,z6j,z6m,z6n,z6t,z6u,z6v,binV,eqV,unV,oOpt,reduceIte,reduceCtorEq,Nat.reduceEqDiff,Nat.reduceAdd,Nat.reduceMul,Nat.reduceLT,Nat.reduceSub,Int.reduceLT,Int.reduceLE,Int.reduceEq,Int.reduceNe,Int.reduceSub,Int.reduceAdd,Int.reduceMul,Int.reduceBEq,Int.reduceBNe,Int.reduceGT,Int.reduceGE,Nat.reduceGT,Int.reduceToNat,Int.reduceNeg,Nat.reduceLeDiff,Nat.reduceBEq,Nat.reduceBneDiff,Value.cells, m1]
  intro b2 hb2
  try simp -implicitDefEqProofs only [zB1,zB2,zB3,zB4,zB5,zB6,zB7,zB8,zB9,zB10,zB11,y00,y01,y02,y03,y04,y05,y06,y07,y08,y09,y0a,y0b,y0c,y0d,y0e,y0f,y0g,y0h,y0i,y0j,y0k,y0l,y0m,y0n,y0o,y0p,y0q,y0r,y0s,y0t,y0u,y0v,y0w,y0x,y0y,y0z,y10,y11,y12,y13,y14,y15,y16,y17,y18,y19,y1a,y1b,y1c,y1d,y1e,y1f,y1g,y1h,y1i,y1j,y1k,y1l,y1m,y1n,y1o,y1p,y1q,y1r,retO,retL,retV,z6i,allV,allP,z6j,z6m,z6n,z6t,z6u,z6v,binV,eqV,unV,oOpt,reduceIte,reduceCtorEq,Nat.reduceEqDiff,Nat.reduceAdd,Nat.reduceMul,Nat.reduceLT,Nat.reduceSub,Int.reduceLT,Int.reduceLE,Int.reduceEq,Int.reduceNe,Int.reduceSub,Int.reduceAdd,Int.reduceMul,Int.reduceBEq,Int.reduceBNe,Int.reduceGT,Int.reduceGE,Nat.reduceGT,Int.reduceToNat,Int.reduceNeg,Nat.reduceLeDiff,Nat.reduceBEq,Nat.reduceBneDiff,Value.cells, List.length_replicate, List.drop_replicate, List.replicate_zero]
  obtain ⟨Z, hZ, lZ⟩ : ∃ Z : List UInt8, List.replicate 16385 (Value.int .u8 0) = Z.map u8V ∧ Z.length = 16385 := ⟨List.replicate 16385 0, by rw [List.map_replicate]; rfl, List.length_replicate⟩
  rw [hZ]
  rw [hZ] at *
  intro b3 hb3
  try simp -implicitDefEqProofs only [zB1,zB2,zB3,zB4,zB5,zB6,zB7,zB8,zB9,zB10,zB11,y00,y01,y02,y03,y04,y05,y06,y07,y08,y09,y0a,y0b,y0c,y0d,y0e,y0f,y0g,y0h,y0i,y0j,y0k,y0l,y0m,y0n,y0o,y0p,y0q,y0r,y0s,y0t,y0u,y0v,y0w,y0x,y0y,y0z,y10,y11,y12,y13,y14,y15,y16,y17,y18,y19,y1a,y1b,y1c,y1d,y1e,y1f,y1g,y1h,y1i,y1j,y1k,y1l,y1m,y1n,y1o,y1p,y1q,y1r,retO,retL,retV,z6i,allV,allP,z6j,z6m,z6n,z6t,z6u,z6v,binV,eqV,unV,oOpt,reduceIte,reduceCtorEq,Nat.reduceEqDiff,Nat.reduceAdd,Nat.reduceMul,Nat.reduceLT,Nat.reduceSub,Int.reduceLT,Int.reduceLE,Int.reduceEq,Int.reduceNe,Int.reduceSub,Int.reduceAdd,Int.reduceMul,Int.reduceBEq,Int.reduceBNe,Int.reduceGT,Int.reduceGE,Nat.reduceGT,Int.reduceToNat,Int.reduceNeg,Nat.reduceLeDiff,Nat.reduceBEq,Nat.reduceBneDiff,Value.cells]
  have le1 := Heap.le_set (Heap.le_refl h3) hb1 (.own 0 [.int .u8 120] 1)
  have le2 := Heap.le_set (Heap.le_refl (h3.set b1 (.own 0 [.int .u8 120] 1))) hb2 (.own 0 (Z.map u8V) 16385)
  have le3 := Heap.le_set (Heap.le_refl ((h3.set b1 (.own 0 [.int .u8 120] 1)).set b2 (.own 0 (Z.map u8V) 16385))) hb3 (.own 0 [.slice (some ⟨b1, 0, none⟩) 1 1, .slice (some ⟨b2, 0, none⟩) 16385 16385] 2)
  have n2 := Heap.none_of_le le1 hb2
  have n3 := Heap.none_of_le (Heap.le_trans le1 le2) hb3
  have A4 := A3.un (Heap.le_trans le1 (Heap.le_trans le2 le3))
  have sx := own_un (κ' := κ3.un h3) (l := [120]) (n := 1) (un_none hb1) (le3 _ _ (le2 _ _ (Heap.set_self _ _ _))) rfl
  have sZ := own_un (κ' := κ3.un h3) (l := Z) (n := 16385) (un_none n2) (le3 _ _ (Heap.set_self _ _ _)) lZ.symm
  have sL := rows2_un (κ' := κ3.un h3) (un_none n3) (Heap.set_self _ _ _) sx sZ
  generalize ((h3.set b1 (.own 0 [.int .u8 120] 1)).set b2 (.own 0 (Z.map u8V) 16385)).set b3 (.own 0 [.slice (some ⟨b1, 0, none⟩) 1 1, .slice (some ⟨b2, 0, none⟩) 16385 16385] 2) = h4 at *
  generalize κ3.un h3 = κ4 at *
  have ok3 := S3.okW (by rw [hbs]; simp) (by omega)
  have ht : J3.turn < 64 := by rw [S3.eJ]; simp
  have hp : J3.part < 64 := by rw [S3.eJ]; simp
  refine (journal_Add_c E A4.N A4.A.R A4.ne ok3 ht hp [[120], Z] sL (by simp) (by rw [hr3]; simp)).mono ?_
  have ea : addF J3 D3 [[120], Z] = (J3, D3, 2) := by
    unfold addF
    rw [S3.done, if_neg (by simp), if_pos (by simp; omega)]
  rw [ea]
  rintro r h5 ⟨rfl, κ5, e5, N5, R5⟩
  have A5 : At h1 κ5 h5 d j J3 D3 := ⟨⟨Heap.le_trans A4.A.B e5.bare, R5⟩, N5, A4.ne⟩
  simp -implicitDefEqProofs only [zB1,zB2,zB3,zB4,zB5,zB6,zB7,zB8,zB9,zB10,zB11,y00,y01,y02,y03,y04,y05,y06,y07,y08,y09,y0a,y0b,y0c,y0d,y0e,y0f,y0g,y0h,y0i,y0j,y0k,y0l,y0m,y0n,y0o,y0p,y0q,y0r,y0s,y0t,y0u,y0v,y0w,y0x,y0y,y0z,y10,y11,y12,y13,y14,y15,y16,y17,y18,y19,y1a,y1b,y1c,y1d,y1e,y1f,y1g,y1h,y1i,y1j,y1k,y1l,y1m,y1n,y1o,y1p,y1q,y1r,retO,retL,retV,z6i,allV,allP,z6j,z6m,z6n,z6t,z6u,z6v,binV,eqV,unV,oOpt,reduceIte,reduceCtorEq,Nat.reduceEqDiff,Nat.reduceAdd,Nat.reduceMul,Nat.reduceLT,Nat.reduceSub,Int.reduceLT,Int.reduceLE,Int.reduceEq,Int.reduceNe,Int.reduceSub,Int.reduceAdd,Int.reduceMul,Int.reduceBEq,Int.reduceBNe,Int.reduceGT,Int.reduceGE,Nat.reduceGT,Int.reduceToNat,Int.reduceNeg,Nat.reduceLeDiff,Nat.reduceBEq,Nat.reduceBneDiff,Value.cells]
  unfold ir_bandboxlaw14_JournalKnown_34
  simp -implicitDefEqProofs only [zB1,zB2,zB3,zB4,zB5,zB6,zB7,zB8,zB9,zB10,zB11,y00,y01,y02,y03,y04,y05,y06,y07,y08,y09,y0a,y0b,y0c,y0d,y0e,y0f,y0g,y0h,y0i,y0j,y0k,y0l,y0m,y0n,y0o,y0p,y0q,y0r,y0s,y0t,y0u,y0v,y0w,y0x,y0y,y0z,y10,y11,y12,y13,y14,y15,y16,y17,y18,y19,y1a,y1b,y1c,y1d,y1e,y1f,y1g,y1h,y1i,y1j,y1k,y1l,y1m,y1n,y1o,y1p,y1q,y1r,retO,retL,retV,z6i,allV,allP,z6j,z6m,z6n,z6t,z6u,z6v,binV,eqV,unV,oOpt,reduceIte,reduceCtorEq,Nat.reduceEqDiff,Nat.reduceAdd,Nat.reduceMul,Nat.reduceLT,Nat.reduceSub,Int.reduceLT,Int.reduceLE,Int.reduceEq,Int.reduceNe,Int.reduceSub,Int.reduceAdd,Int.reduceMul,Int.reduceBEq,Int.reduceBNe,Int.reduceGT,Int.reduceGE,Nat.reduceGT,Int.reduceToNat,Int.reduceNeg,Nat.reduceLeDiff,Nat.reduceBEq,Nat.reduceBneDiff,Value.cells]
  refine (journal_All_c E A5.N (by rw [hr3]; simp) (by rw [hr3]; simp)).mono ?_
  rintro av h6 ⟨le6, κx, N6⟩
  have A6 := A5.le le6
  have s6 := N6.sl
  rw [hr3] at s6
  obtain ⟨ab, ac, rfl⟩ := s6.shape
  simp -implicitDefEqProofs only [zB1,zB2,zB3,zB4,zB5,zB6,zB7,zB8,zB9,zB10,zB11,y00,y01,y02,y03,y04,y05,y06,y07,y08,y09,y0a,y0b,y0c,y0d,y0e,y0f,y0g,y0h,y0i,y0j,y0k,y0l,y0m,y0n,y0o,y0p,y0q,y0r,y0s,y0t,y0u,y0v,y0w,y0x,y0y,y0z,y10,y11,y12,y13,y14,y15,y16,y17,y18,y19,y1a,y1b,y1c,y1d,y1e,y1f,y1g,y1h,y1i,y1j,y1k,y1l,y1m,y1n,y1o,y1p,y1q,y1r,retO,retL,retV,z6i,allV,allP,z6j,z6m,z6n,z6t,z6u,z6v,binV,eqV,unV,oOpt,reduceIte,reduceCtorEq,Nat.reduceEqDiff,Nat.reduceAdd,Nat.reduceMul,Nat.reduceLT,Nat.reduceSub,Int.reduceLT,Int.reduceLE,Int.reduceEq,Int.reduceNe,Int.reduceSub,Int.reduceAdd,Int.reduceMul,Int.reduceBEq,Int.reduceBNe,Int.reduceGT,Int.reduceGE,Nat.reduceGT,Int.reduceToNat,Int.reduceNeg,Nat.reduceLeDiff,Nat.reduceBEq,Nat.reduceBneDiff,Value.cells]
  intro b4 hb4
  try simp -implicitDefEqProofs only [zB1,zB2,zB3,zB4,zB5,zB6,zB7,zB8,zB9,zB10,zB11,y00,y01,y02,y03,y04,y05,y06,y07,y08,y09,y0a,y0b,y0c,y0d,y0e,y0f,y0g,y0h,y0i,y0j,y0k,y0l,y0m,y0n,y0o,y0p,y0q,y0r,y0s,y0t,y0u,y0v,y0w,y0x,y0y,y0z,y10,y11,y12,y13,y14,y15,y16,y17,y18,y19,y1a,y1b,y1c,y1d,y1e,y1f,y1g,y1h,y1i,y1j,y1k,y1l,y1m,y1n,y1o,y1p,y1q,y1r,retO,retL,retV,z6i,allV,allP,z6j,z6m,z6n,z6t,z6u,z6v,binV,eqV,unV,oOpt,reduceIte,reduceCtorEq,Nat.reduceEqDiff,Nat.reduceAdd,Nat.reduceMul,Nat.reduceLT,Nat.reduceSub,Int.reduceLT,Int.reduceLE,Int.reduceEq,Int.reduceNe,Int.reduceSub,Int.reduceAdd,Int.reduceMul,Int.reduceBEq,Int.reduceBNe,Int.reduceGT,Int.reduceGE,Nat.reduceGT,Int.reduceToNat,Int.reduceNeg,Nat.reduceLeDiff,Nat.reduceBEq,Nat.reduceBneDiff,Value.cells]
  obtain ⟨Y, hY, lY⟩ : ∃ Y : List UInt8, List.replicate 65537 (Value.int .u8 0) = Y.map u8V ∧ Y.length = 65537 := ⟨List.replicate 65537 0, by rw [List.map_replicate]; rfl, List.length_replicate⟩
  rw [hY]
  have le7 := Heap.le_set (Heap.le_refl h6) hb4 (.own 0 (Y.map u8V) 65537)
  have A7 := A6.un le7
  have sY := own_un (κ' := κ5.un h6) (l := Y) (n := 65537) (un_none hb4) (Heap.set_self h6 b4 (.own 0 (Y.map u8V) 65537)) lY.symm
  generalize h6.set b4 (.own 0 (Y.map u8V) 65537) = h7 at *
  generalize κ5.un h6 = κ7 at *
  have hJ3 : J3.turn = 0 := by rw [S3.eJ]
  obtain ⟨-, ⟨P, hP, hl⟩, -⟩ := keep_disk (room := 262144) (lives := 1) (T := 0) (base := []) (by omega) (fs := []) (by simp) (b := Y) (by rw [frameF_len, List.length_append, be8_len, lY, hbs]; simp) J3 hJ3
  have eD3 : D3 = dJ 262144 1 0 [] [] := by rw [S3.eD]; rfl
  rw [← eD3] at hl
  refine (journal_Keep_c E A7.N A7.A.R A7.ne ok3 (by omega) (by omega) (by omega) sY hP (by rw [hJ3]; exact hl)).mono ?_
  have ek : keepF J3 D3 Y = (J3, D3, 2) := by
    unfold keepF
    rw [S3.done, if_neg (by simp), if_pos (by omega)]
  rw [ek]
  rintro r h8 ⟨rfl, κ8, e8, N8, R8⟩
  have A8 : At h1 κ8 h8 d j J3 D3 := ⟨⟨Heap.le_trans A7.A.B e8.bare, R8⟩, N8, A7.ne⟩
  simp -implicitDefEqProofs only [zB1,zB2,zB3,zB4,zB5,zB6,zB7,zB8,zB9,zB10,zB11,y00,y01,y02,y03,y04,y05,y06,y07,y08,y09,y0a,y0b,y0c,y0d,y0e,y0f,y0g,y0h,y0i,y0j,y0k,y0l,y0m,y0n,y0o,y0p,y0q,y0r,y0s,y0t,y0u,y0v,y0w,y0x,y0y,y0z,y10,y11,y12,y13,y14,y15,y16,y17,y18,y19,y1a,y1b,y1c,y1d,y1e,y1f,y1g,y1h,y1i,y1j,y1k,y1l,y1m,y1n,y1o,y1p,y1q,y1r,retO,retL,retV,z6i,allV,allP,z6j,z6m,z6n,z6t,z6u,z6v,binV,eqV,unV,oOpt,reduceIte,reduceCtorEq,Nat.reduceEqDiff,Nat.reduceAdd,Nat.reduceMul,Nat.reduceLT,Nat.reduceSub,Int.reduceLT,Int.reduceLE,Int.reduceEq,Int.reduceNe,Int.reduceSub,Int.reduceAdd,Int.reduceMul,Int.reduceBEq,Int.reduceBNe,Int.reduceGT,Int.reduceGE,Nat.reduceGT,Int.reduceToNat,Int.reduceNeg,Nat.reduceLeDiff,Nat.reduceBEq,Nat.reduceBneDiff,Value.cells, List.length_replicate, List.drop_replicate, List.replicate_zero]
  intro b5 hb5
  try simp -implicitDefEqProofs only [zB1,zB2,zB3,zB4,zB5,zB6,zB7,zB8,zB9,zB10,zB11,y00,y01,y02,y03,y04,y05,y06,y07,y08,y09,y0a,y0b,y0c,y0d,y0e,y0f,y0g,y0h,y0i,y0j,y0k,y0l,y0m,y0n,y0o,y0p,y0q,y0r,y0s,y0t,y0u,y0v,y0w,y0x,y0y,y0z,y10,y11,y12,y13,y14,y15,y16,y17,y18,y19,y1a,y1b,y1c,y1d,y1e,y1f,y1g,y1h,y1i,y1j,y1k,y1l,y1m,y1n,y1o,y1p,y1q,y1r,retO,retL,retV,z6i,allV,allP,z6j,z6m,z6n,z6t,z6u,z6v,binV,eqV,unV,oOpt,reduceIte,reduceCtorEq,Nat.reduceEqDiff,Nat.reduceAdd,Nat.reduceMul,Nat.reduceLT,Nat.reduceSub,Int.reduceLT,Int.reduceLE,Int.reduceEq,Int.reduceNe,Int.reduceSub,Int.reduceAdd,Int.reduceMul,Int.reduceBEq,Int.reduceBNe,Int.reduceGT,Int.reduceGE,Nat.reduceGT,Int.reduceToNat,Int.reduceNeg,Nat.reduceLeDiff,Nat.reduceBEq,Nat.reduceBneDiff,Value.cells]
  have mb5 : markV (h8.set b5 (.own 0 [.int .u8 112] 1)) (.slice (some ⟨b5, 0, none⟩) 1 1) = some (.slice (some ⟨b5, 0, none⟩) 1 1) := by simp [markV, Heap.set_self]
  simp -implicitDefEqProofs only [zB1,zB2,zB3,zB4,zB5,zB6,zB7,zB8,zB9,zB10,zB11,y00,y01,y02,y03,y04,y05,y06,y07,y08,y09,y0a,y0b,y0c,y0d,y0e,y0f,y0g,y0h,y0i,y0j,y0k,y0l,y0m,y0n,y0o,y0p,y0q,y0r,y0s,y0t,y0u,y0v,y0w,y0x,y0y,y0z,y10,y11,y12,y13,y14,y15,y16,y17,y18,y19,y1a,y1b,y1c,y1d,y1e,y1f,y1g,y1h,y1i,y1j,y1k,y1l,y1m,y1n,y1o,y1p,y1q,y1r,retO,retL,retV,z6i,allV,allP,z6j,z6m,z6n,z6t,z6u,z6v,binV,eqV,unV,oOpt,reduceIte,reduceCtorEq,Nat.reduceEqDiff,Nat.reduceAdd,Nat.reduceMul,Nat.reduceLT,Nat.reduceSub,Int.reduceLT,Int.reduceLE,Int.reduceEq,Int.reduceNe,Int.reduceSub,Int.reduceAdd,Int.reduceMul,Int.reduceBEq,Int.reduceBNe,Int.reduceGT,Int.reduceGE,Nat.reduceGT,Int.reduceToNat,Int.reduceNeg,Nat.reduceLeDiff,Nat.reduceBEq,Nat.reduceBneDiff,Value.cells, mb5, List.length_replicate, List.drop_replicate, List.replicate_zero]
  intro b6 hb6
  try simp -implicitDefEqProofs only [zB1,zB2,zB3,zB4,zB5,zB6,zB7,zB8,zB9,zB10,zB11,y00,y01,y02,y03,y04,y05,y06,y07,y08,y09,y0a,y0b,y0c,y0d,y0e,y0f,y0g,y0h,y0i,y0j,y0k,y0l,y0m,y0n,y0o,y0p,y0q,y0r,y0s,y0t,y0u,y0v,y0w,y0x,y0y,y0z,y10,y11,y12,y13,y14,y15,y16,y17,y18,y19,y1a,y1b,y1c,y1d,y1e,y1f,y1g,y1h,y1i,y1j,y1k,y1l,y1m,y1n,y1o,y1p,y1q,y1r,retO,retL,retV,z6i,allV,allP,z6j,z6m,z6n,z6t,z6u,z6v,binV,eqV,unV,oOpt,reduceIte,reduceCtorEq,Nat.reduceEqDiff,Nat.reduceAdd,Nat.reduceMul,Nat.reduceLT,Nat.reduceSub,Int.reduceLT,Int.reduceLE,Int.reduceEq,Int.reduceNe,Int.reduceSub,Int.reduceAdd,Int.reduceMul,Int.reduceBEq,Int.reduceBNe,Int.reduceGT,Int.reduceGE,Nat.reduceGT,Int.reduceToNat,Int.reduceNeg,Nat.reduceLeDiff,Nat.reduceBEq,Nat.reduceBneDiff,Value.cells]
  obtain ⟨κ9, A9, sA9⟩ := A8.lit2 hb5 [112] (sz := 1) hb6
  refine (at_add1 E A9 S3 sA9 (by simp) (by rw [hbs]; simp) (by omega) (by omega) (by rw [hr3]; simp)).mono ?_
  rintro r h10 ⟨rfl, κ10, J10, D10, A10, S10, hr10⟩
  simp -implicitDefEqProofs only [zB1,zB2,zB3,zB4,zB5,zB6,zB7,zB8,zB9,zB10,zB11,y00,y01,y02,y03,y04,y05,y06,y07,y08,y09,y0a,y0b,y0c,y0d,y0e,y0f,y0g,y0h,y0i,y0j,y0k,y0l,y0m,y0n,y0o,y0p,y0q,y0r,y0s,y0t,y0u,y0v,y0w,y0x,y0y,y0z,y10,y11,y12,y13,y14,y15,y16,y17,y18,y19,y1a,y1b,y1c,y1d,y1e,y1f,y1g,y1h,y1i,y1j,y1k,y1l,y1m,y1n,y1o,y1p,y1q,y1r,retO,retL,retV,z6i,allV,allP,z6j,z6m,z6n,z6t,z6u,z6v,binV,eqV,unV,oOpt,reduceIte,reduceCtorEq,Nat.reduceEqDiff,Nat.reduceAdd,Nat.reduceMul,Nat.reduceLT,Nat.reduceSub,Int.reduceLT,Int.reduceLE,Int.reduceEq,Int.reduceNe,Int.reduceSub,Int.reduceAdd,Int.reduceMul,Int.reduceBEq,Int.reduceBNe,Int.reduceGT,Int.reduceGE,Nat.reduceGT,Int.reduceToNat,Int.reduceNeg,Nat.reduceLeDiff,Nat.reduceBEq,Nat.reduceBneDiff,Value.cells, List.length_replicate, List.drop_replicate, List.replicate_zero]
  intro b7 hb7
  try simp -implicitDefEqProofs only [zB1,zB2,zB3,zB4,zB5,zB6,zB7,zB8,zB9,zB10,zB11,y00,y01,y02,y03,y04,y05,y06,y07,y08,y09,y0a,y0b,y0c,y0d,y0e,y0f,y0g,y0h,y0i,y0j,y0k,y0l,y0m,y0n,y0o,y0p,y0q,y0r,y0s,y0t,y0u,y0v,y0w,y0x,y0y,y0z,y10,y11,y12,y13,y14,y15,y16,y17,y18,y19,y1a,y1b,y1c,y1d,y1e,y1f,y1g,y1h,y1i,y1j,y1k,y1l,y1m,y1n,y1o,y1p,y1q,y1r,retO,retL,retV,z6i,allV,allP,z6j,z6m,z6n,z6t,z6u,z6v,binV,eqV,unV,oOpt,reduceIte,reduceCtorEq,Nat.reduceEqDiff,Nat.reduceAdd,Nat.reduceMul,Nat.reduceLT,Nat.reduceSub,Int.reduceLT,Int.reduceLE,Int.reduceEq,Int.reduceNe,Int.reduceSub,Int.reduceAdd,Int.reduceMul,Int.reduceBEq,Int.reduceBNe,Int.reduceGT,Int.reduceGE,Nat.reduceGT,Int.reduceToNat,Int.reduceNeg,Nat.reduceLeDiff,Nat.reduceBEq,Nat.reduceBneDiff,Value.cells]
  have mb7 : markV (h10.set b7 (.own 0 [.int .u8 98, .int .u8 97, .int .u8 115, .int .u8 101] 4)) (.slice (some ⟨b7, 0, none⟩) 4 4) = some (.slice (some ⟨b7, 0, none⟩) 4 4) := by simp [markV, Heap.set_self]
  simp -implicitDefEqProofs only [zB1,zB2,zB3,zB4,zB5,zB6,zB7,zB8,zB9,zB10,zB11,y00,y01,y02,y03,y04,y05,y06,y07,y08,y09,y0a,y0b,y0c,y0d,y0e,y0f,y0g,y0h,y0i,y0j,y0k,y0l,y0m,y0n,y0o,y0p,y0q,y0r,y0s,y0t,y0u,y0v,y0w,y0x,y0y,y0z,y10,y11,y12,y13,y14,y15,y16,y17,y18,y19,y1a,y1b,y1c,y1d,y1e,y1f,y1g,y1h,y1i,y1j,y1k,y1l,y1m,y1n,y1o,y1p,y1q,y1r,retO,retL,retV,z6i,allV,allP,z6j,z6m,z6n,z6t,z6u,z6v,binV,eqV,unV,oOpt,reduceIte,reduceCtorEq,Nat.reduceEqDiff,Nat.reduceAdd,Nat.reduceMul,Nat.reduceLT,Nat.reduceSub,Int.reduceLT,Int.reduceLE,Int.reduceEq,Int.reduceNe,Int.reduceSub,Int.reduceAdd,Int.reduceMul,Int.reduceBEq,Int.reduceBNe,Int.reduceGT,Int.reduceGE,Nat.reduceGT,Int.reduceToNat,Int.reduceNeg,Nat.reduceLeDiff,Nat.reduceBEq,Nat.reduceBneDiff,Value.cells, mb7, List.length_replicate, List.drop_replicate, List.replicate_zero]
  have le11 := Heap.le_set (Heap.le_refl h10) hb7 (.own 0 [.int .u8 98, .int .u8 97, .int .u8 115, .int .u8 101] 4)
  have A11 := A10.un le11
  have sb := own_un (κ' := κ10.un h10) (l := [98, 97, 115, 101]) (n := 4) (un_none hb7) (Heap.set_self h10 b7 (.own 0 [.int .u8 98, .int .u8 97, .int .u8 115, .int .u8 101] 4)) rfl
  refine (at_keep E A11 S10 (by omega) sb (by simp) (by rw [hbs]; simp) (by omega) (by omega)).mono ?_
  rintro r h12 ⟨rfl, κ12, J12, D12, A12, S12, hr12⟩
  simp -implicitDefEqProofs only [zB1,zB2,zB3,zB4,zB5,zB6,zB7,zB8,zB9,zB10,zB11,y00,y01,y02,y03,y04,y05,y06,y07,y08,y09,y0a,y0b,y0c,y0d,y0e,y0f,y0g,y0h,y0i,y0j,y0k,y0l,y0m,y0n,y0o,y0p,y0q,y0r,y0s,y0t,y0u,y0v,y0w,y0x,y0y,y0z,y10,y11,y12,y13,y14,y15,y16,y17,y18,y19,y1a,y1b,y1c,y1d,y1e,y1f,y1g,y1h,y1i,y1j,y1k,y1l,y1m,y1n,y1o,y1p,y1q,y1r,retO,retL,retV,z6i,allV,allP,z6j,z6m,z6n,z6t,z6u,z6v,binV,eqV,unV,oOpt,reduceIte,reduceCtorEq,Nat.reduceEqDiff,Nat.reduceAdd,Nat.reduceMul,Nat.reduceLT,Nat.reduceSub,Int.reduceLT,Int.reduceLE,Int.reduceEq,Int.reduceNe,Int.reduceSub,Int.reduceAdd,Int.reduceMul,Int.reduceBEq,Int.reduceBNe,Int.reduceGT,Int.reduceGE,Nat.reduceGT,Int.reduceToNat,Int.reduceNeg,Nat.reduceLeDiff,Nat.reduceBEq,Nat.reduceBneDiff,Value.cells]
  unfold ir_bandboxlaw14_JournalKnown_49
  simp -implicitDefEqProofs only [zB1,zB2,zB3,zB4,zB5,zB6,zB7,zB8,zB9,zB10,zB11,y00,y01,y02,y03,y04,y05,y06,y07,y08,y09,y0a,y0b,y0c,y0d,y0e,y0f,y0g,y0h,y0i,y0j,y0k,y0l,y0m,y0n,y0o,y0p,y0q,y0r,y0s,y0t,y0u,y0v,y0w,y0x,y0y,y0z,y10,y11,y12,y13,y14,y15,y16,y17,y18,y19,y1a,y1b,y1c,y1d,y1e,y1f,y1g,y1h,y1i,y1j,y1k,y1l,y1m,y1n,y1o,y1p,y1q,y1r,retO,retL,retV,z6i,allV,allP,z6j,z6m,z6n,z6t,z6u,z6v,binV,eqV,unV,oOpt,reduceIte,reduceCtorEq,Nat.reduceEqDiff,Nat.reduceAdd,Nat.reduceMul,Nat.reduceLT,Nat.reduceSub,Int.reduceLT,Int.reduceLE,Int.reduceEq,Int.reduceNe,Int.reduceSub,Int.reduceAdd,Int.reduceMul,Int.reduceBEq,Int.reduceBNe,Int.reduceGT,Int.reduceGE,Nat.reduceGT,Int.reduceToNat,Int.reduceNeg,Nat.reduceLeDiff,Nat.reduceBEq,Nat.reduceBneDiff,Value.cells]
  have hbs1 : baseS 1 [98, 97, 115, 101] = 32 := rfl
  refine (journal_All_c E A12.N (by rw [hr12]; simp) (by rw [hr12]; simp)).mono ?_
  rintro av2 h13 ⟨le13, κy, N13⟩
  have A13 := A12.le le13
  have s13 := N13.sl
  rw [hr12] at s13
  obtain ⟨ab2, ac2, rfl⟩ := s13.shape
  simp -implicitDefEqProofs only [zB1,zB2,zB3,zB4,zB5,zB6,zB7,zB8,zB9,zB10,zB11,y00,y01,y02,y03,y04,y05,y06,y07,y08,y09,y0a,y0b,y0c,y0d,y0e,y0f,y0g,y0h,y0i,y0j,y0k,y0l,y0m,y0n,y0o,y0p,y0q,y0r,y0s,y0t,y0u,y0v,y0w,y0x,y0y,y0z,y10,y11,y12,y13,y14,y15,y16,y17,y18,y19,y1a,y1b,y1c,y1d,y1e,y1f,y1g,y1h,y1i,y1j,y1k,y1l,y1m,y1n,y1o,y1p,y1q,y1r,retO,retL,retV,z6i,allV,allP,z6j,z6m,z6n,z6t,z6u,z6v,binV,eqV,unV,oOpt,reduceIte,reduceCtorEq,Nat.reduceEqDiff,Nat.reduceAdd,Nat.reduceMul,Nat.reduceLT,Nat.reduceSub,Int.reduceLT,Int.reduceLE,Int.reduceEq,Int.reduceNe,Int.reduceSub,Int.reduceAdd,Int.reduceMul,Int.reduceBEq,Int.reduceBNe,Int.reduceGT,Int.reduceGE,Nat.reduceGT,Int.reduceToNat,Int.reduceNeg,Nat.reduceLeDiff,Nat.reduceBEq,Nat.reduceBneDiff,Value.cells, List.length_replicate, List.drop_replicate, List.replicate_zero]
  intro b8 hb8
  try simp -implicitDefEqProofs only [zB1,zB2,zB3,zB4,zB5,zB6,zB7,zB8,zB9,zB10,zB11,y00,y01,y02,y03,y04,y05,y06,y07,y08,y09,y0a,y0b,y0c,y0d,y0e,y0f,y0g,y0h,y0i,y0j,y0k,y0l,y0m,y0n,y0o,y0p,y0q,y0r,y0s,y0t,y0u,y0v,y0w,y0x,y0y,y0z,y10,y11,y12,y13,y14,y15,y16,y17,y18,y19,y1a,y1b,y1c,y1d,y1e,y1f,y1g,y1h,y1i,y1j,y1k,y1l,y1m,y1n,y1o,y1p,y1q,y1r,retO,retL,retV,z6i,allV,allP,z6j,z6m,z6n,z6t,z6u,z6v,binV,eqV,unV,oOpt,reduceIte,reduceCtorEq,Nat.reduceEqDiff,Nat.reduceAdd,Nat.reduceMul,Nat.reduceLT,Nat.reduceSub,Int.reduceLT,Int.reduceLE,Int.reduceEq,Int.reduceNe,Int.reduceSub,Int.reduceAdd,Int.reduceMul,Int.reduceBEq,Int.reduceBNe,Int.reduceGT,Int.reduceGE,Nat.reduceGT,Int.reduceToNat,Int.reduceNeg,Nat.reduceLeDiff,Nat.reduceBEq,Nat.reduceBneDiff,Value.cells]
  have mb8 : markV (h13.set b8 (.own 0 [.int .u8 113] 1)) (.slice (some ⟨b8, 0, none⟩) 1 1) = some (.slice (some ⟨b8, 0, none⟩) 1 1) := by simp [markV, Heap.set_self]
  simp -implicitDefEqProofs only [zB1,zB2,zB3,zB4,zB5,zB6,zB7,zB8,zB9,zB10,zB11,y00,y01,y02,y03,y04,y05,y06,y07,y08,y09,y0a,y0b,y0c,y0d,y0e,y0f,y0g,y0h,y0i,y0j,y0k,y0l,y0m,y0n,y0o,y0p,y0q,y0r,y0s,y0t,y0u,y0v,y0w,y0x,y0y,y0z,y10,y11,y12,y13,y14,y15,y16,y17,y18,y19,y1a,y1b,y1c,y1d,y1e,y1f,y1g,y1h,y1i,y1j,y1k,y1l,y1m,y1n,y1o,y1p,y1q,y1r,retO,retL,retV,z6i,allV,allP,z6j,z6m,z6n,z6t,z6u,z6v,binV,eqV,unV,oOpt,reduceIte,reduceCtorEq,Nat.reduceEqDiff,Nat.reduceAdd,Nat.reduceMul,Nat.reduceLT,Nat.reduceSub,Int.reduceLT,Int.reduceLE,Int.reduceEq,Int.reduceNe,Int.reduceSub,Int.reduceAdd,Int.reduceMul,Int.reduceBEq,Int.reduceBNe,Int.reduceGT,Int.reduceGE,Nat.reduceGT,Int.reduceToNat,Int.reduceNeg,Nat.reduceLeDiff,Nat.reduceBEq,Nat.reduceBneDiff,Value.cells, mb8, List.length_replicate, List.drop_replicate, List.replicate_zero]
  intro b9 hb9
  try simp -implicitDefEqProofs only [zB1,zB2,zB3,zB4,zB5,zB6,zB7,zB8,zB9,zB10,zB11,y00,y01,y02,y03,y04,y05,y06,y07,y08,y09,y0a,y0b,y0c,y0d,y0e,y0f,y0g,y0h,y0i,y0j,y0k,y0l,y0m,y0n,y0o,y0p,y0q,y0r,y0s,y0t,y0u,y0v,y0w,y0x,y0y,y0z,y10,y11,y12,y13,y14,y15,y16,y17,y18,y19,y1a,y1b,y1c,y1d,y1e,y1f,y1g,y1h,y1i,y1j,y1k,y1l,y1m,y1n,y1o,y1p,y1q,y1r,retO,retL,retV,z6i,allV,allP,z6j,z6m,z6n,z6t,z6u,z6v,binV,eqV,unV,oOpt,reduceIte,reduceCtorEq,Nat.reduceEqDiff,Nat.reduceAdd,Nat.reduceMul,Nat.reduceLT,Nat.reduceSub,Int.reduceLT,Int.reduceLE,Int.reduceEq,Int.reduceNe,Int.reduceSub,Int.reduceAdd,Int.reduceMul,Int.reduceBEq,Int.reduceBNe,Int.reduceGT,Int.reduceGE,Nat.reduceGT,Int.reduceToNat,Int.reduceNeg,Nat.reduceLeDiff,Nat.reduceBEq,Nat.reduceBneDiff,Value.cells]
  obtain ⟨κ14, A14, sA14⟩ := A13.lit2 hb8 [113] (sz := 1) hb9
  refine (at_add1 E A14 S12 sA14 (by simp) (by rw [hbs1]; simp) (by omega) (by omega) (by rw [hr12]; simp)).mono ?_
  rintro r h15 ⟨rfl, κ15, J15, D15, A15, S15, hr15⟩
  rw [hr12, List.nil_append] at hr15
  simp -implicitDefEqProofs only [zB1,zB2,zB3,zB4,zB5,zB6,zB7,zB8,zB9,zB10,zB11,y00,y01,y02,y03,y04,y05,y06,y07,y08,y09,y0a,y0b,y0c,y0d,y0e,y0f,y0g,y0h,y0i,y0j,y0k,y0l,y0m,y0n,y0o,y0p,y0q,y0r,y0s,y0t,y0u,y0v,y0w,y0x,y0y,y0z,y10,y11,y12,y13,y14,y15,y16,y17,y18,y19,y1a,y1b,y1c,y1d,y1e,y1f,y1g,y1h,y1i,y1j,y1k,y1l,y1m,y1n,y1o,y1p,y1q,y1r,retO,retL,retV,z6i,allV,allP,z6j,z6m,z6n,z6t,z6u,z6v,binV,eqV,unV,oOpt,reduceIte,reduceCtorEq,Nat.reduceEqDiff,Nat.reduceAdd,Nat.reduceMul,Nat.reduceLT,Nat.reduceSub,Int.reduceLT,Int.reduceLE,Int.reduceEq,Int.reduceNe,Int.reduceSub,Int.reduceAdd,Int.reduceMul,Int.reduceBEq,Int.reduceBNe,Int.reduceGT,Int.reduceGE,Nat.reduceGT,Int.reduceToNat,Int.reduceNeg,Nat.reduceLeDiff,Nat.reduceBEq,Nat.reduceBneDiff,Value.cells]
  refine (at_sync E A15 S15 (by rw [hbs1]; simp) (by omega) (by omega)).mono ?_
  rintro r h16 ⟨rfl, κ16, D16, cur16, A16, S16, hs16⟩
  rw [hr15] at hs16
  simp -implicitDefEqProofs only [zB1,zB2,zB3,zB4,zB5,zB6,zB7,zB8,zB9,zB10,zB11,y00,y01,y02,y03,y04,y05,y06,y07,y08,y09,y0a,y0b,y0c,y0d,y0e,y0f,y0g,y0h,y0i,y0j,y0k,y0l,y0m,y0n,y0o,y0p,y0q,y0r,y0s,y0t,y0u,y0v,y0w,y0x,y0y,y0z,y10,y11,y12,y13,y14,y15,y16,y17,y18,y19,y1a,y1b,y1c,y1d,y1e,y1f,y1g,y1h,y1i,y1j,y1k,y1l,y1m,y1n,y1o,y1p,y1q,y1r,retO,retL,retV,z6i,allV,allP,z6j,z6m,z6n,z6t,z6u,z6v,binV,eqV,unV,oOpt,reduceIte,reduceCtorEq,Nat.reduceEqDiff,Nat.reduceAdd,Nat.reduceMul,Nat.reduceLT,Nat.reduceSub,Int.reduceLT,Int.reduceLE,Int.reduceEq,Int.reduceNe,Int.reduceSub,Int.reduceAdd,Int.reduceMul,Int.reduceBEq,Int.reduceBNe,Int.reduceGT,Int.reduceGE,Nat.reduceGT,Int.reduceToNat,Int.reduceNeg,Nat.reduceLeDiff,Nat.reduceBEq,Nat.reduceBneDiff,Value.cells]
  have ok16 := (S16.okW (by rw [hbs1]; simp) (by omega)).ok (by omega)
  refine (at_crash2 E A16 ok16 0#64 0).mono ?_
  rintro v h17 ⟨κ17, A17⟩
  obtain ⟨J', old', cur', n, -, S', -, -, -, -, -, -, e9, -⟩ := S16.reopen' (by simp) 0#64 0
  have okC : (crashF D16 0#64 0).okW 0 := by
    have : (onF (crashF D16 0#64 0)).okW 0 := by rw [e9]; exact S'.okW (by rw [hbs1]; simp) (by omega)
    exact this
  have hJ15t : J15.turn = 1 := by rw [S15.eJ]
  have hJ15p : J15.part = 0 := by rw [S15.eJ]; rfl
  have hJ15l : J15.lives = 1 := by rw [S15.eJ]
  have off : (crashF D16 0#64 0).on = false := rfl
  have dn1 : doneF J15 (crashF D16 0#64 0) = true := by unfold doneF; rw [off]; simp
  simp -implicitDefEqProofs only [zB1,zB2,zB3,zB4,zB5,zB6,zB7,zB8,zB9,zB10,zB11,y00,y01,y02,y03,y04,y05,y06,y07,y08,y09,y0a,y0b,y0c,y0d,y0e,y0f,y0g,y0h,y0i,y0j,y0k,y0l,y0m,y0n,y0o,y0p,y0q,y0r,y0s,y0t,y0u,y0v,y0w,y0x,y0y,y0z,y10,y11,y12,y13,y14,y15,y16,y17,y18,y19,y1a,y1b,y1c,y1d,y1e,y1f,y1g,y1h,y1i,y1j,y1k,y1l,y1m,y1n,y1o,y1p,y1q,y1r,retO,retL,retV,z6i,allV,allP,z6j,z6m,z6n,z6t,z6u,z6v,binV,eqV,unV,oOpt,reduceIte,reduceCtorEq,Nat.reduceEqDiff,Nat.reduceAdd,Nat.reduceMul,Nat.reduceLT,Nat.reduceSub,Int.reduceLT,Int.reduceLE,Int.reduceEq,Int.reduceNe,Int.reduceSub,Int.reduceAdd,Int.reduceMul,Int.reduceBEq,Int.reduceBNe,Int.reduceGT,Int.reduceGE,Nat.reduceGT,Int.reduceToNat,Int.reduceNeg,Nat.reduceLeDiff,Nat.reduceBEq,Nat.reduceBneDiff,Value.cells, List.length_replicate, List.drop_replicate, List.replicate_zero]
  intro b10 hb10
  try simp -implicitDefEqProofs only [zB1,zB2,zB3,zB4,zB5,zB6,zB7,zB8,zB9,zB10,zB11,y00,y01,y02,y03,y04,y05,y06,y07,y08,y09,y0a,y0b,y0c,y0d,y0e,y0f,y0g,y0h,y0i,y0j,y0k,y0l,y0m,y0n,y0o,y0p,y0q,y0r,y0s,y0t,y0u,y0v,y0w,y0x,y0y,y0z,y10,y11,y12,y13,y14,y15,y16,y17,y18,y19,y1a,y1b,y1c,y1d,y1e,y1f,y1g,y1h,y1i,y1j,y1k,y1l,y1m,y1n,y1o,y1p,y1q,y1r,retO,retL,retV,z6i,allV,allP,z6j,z6m,z6n,z6t,z6u,z6v,binV,eqV,unV,oOpt,reduceIte,reduceCtorEq,Nat.reduceEqDiff,Nat.reduceAdd,Nat.reduceMul,Nat.reduceLT,Nat.reduceSub,Int.reduceLT,Int.reduceLE,Int.reduceEq,Int.reduceNe,Int.reduceSub,Int.reduceAdd,Int.reduceMul,Int.reduceBEq,Int.reduceBNe,Int.reduceGT,Int.reduceGE,Nat.reduceGT,Int.reduceToNat,Int.reduceNeg,Nat.reduceLeDiff,Nat.reduceBEq,Nat.reduceBneDiff,Value.cells]
  obtain ⟨κ18, A18, sA18⟩ := A17.lit hb10 (wv := .slice none 0 0) (l := []) (.inl ⟨rfl, rfl, rfl⟩)
  refine (journal_Add_c E A18.N A18.A.R A18.ne okC (by omega) (by omega) [[]] sA18 (by simp) (by rw [hr15]; simp)).mono ?_
  have ea : addF J15 (crashF D16 0#64 0) [[]] = (J15, crashF D16 0#64 0, 7) := by
    unfold addF
    rw [dn1, if_pos rfl]
  rw [ea]
  rintro r h19 ⟨rfl, κ19, e19, N19, R19⟩
  have A19 : At h1 κ19 h19 d j J15 (crashF D16 0#64 0) := ⟨⟨Heap.le_trans A18.A.B e19.bare, R19⟩, N19, A18.ne⟩
  simp -implicitDefEqProofs only [zB1,zB2,zB3,zB4,zB5,zB6,zB7,zB8,zB9,zB10,zB11,y00,y01,y02,y03,y04,y05,y06,y07,y08,y09,y0a,y0b,y0c,y0d,y0e,y0f,y0g,y0h,y0i,y0j,y0k,y0l,y0m,y0n,y0o,y0p,y0q,y0r,y0s,y0t,y0u,y0v,y0w,y0x,y0y,y0z,y10,y11,y12,y13,y14,y15,y16,y17,y18,y19,y1a,y1b,y1c,y1d,y1e,y1f,y1g,y1h,y1i,y1j,y1k,y1l,y1m,y1n,y1o,y1p,y1q,y1r,retO,retL,retV,z6i,allV,allP,z6j,z6m,z6n,z6t,z6u,z6v,binV,eqV,unV,oOpt,reduceIte,reduceCtorEq,Nat.reduceEqDiff,Nat.reduceAdd,Nat.reduceMul,Nat.reduceLT,Nat.reduceSub,Int.reduceLT,Int.reduceLE,Int.reduceEq,Int.reduceNe,Int.reduceSub,Int.reduceAdd,Int.reduceMul,Int.reduceBEq,Int.reduceBNe,Int.reduceGT,Int.reduceGE,Nat.reduceGT,Int.reduceToNat,Int.reduceNeg,Nat.reduceLeDiff,Nat.reduceBEq,Nat.reduceBneDiff,Value.cells]
  unfold ir_bandboxlaw14_JournalKnown_65
  simp -implicitDefEqProofs only [zB1,zB2,zB3,zB4,zB5,zB6,zB7,zB8,zB9,zB10,zB11,y00,y01,y02,y03,y04,y05,y06,y07,y08,y09,y0a,y0b,y0c,y0d,y0e,y0f,y0g,y0h,y0i,y0j,y0k,y0l,y0m,y0n,y0o,y0p,y0q,y0r,y0s,y0t,y0u,y0v,y0w,y0x,y0y,y0z,y10,y11,y12,y13,y14,y15,y16,y17,y18,y19,y1a,y1b,y1c,y1d,y1e,y1f,y1g,y1h,y1i,y1j,y1k,y1l,y1m,y1n,y1o,y1p,y1q,y1r,retO,retL,retV,z6i,allV,allP,z6j,z6m,z6n,z6t,z6u,z6v,binV,eqV,unV,oOpt,reduceIte,reduceCtorEq,Nat.reduceEqDiff,Nat.reduceAdd,Nat.reduceMul,Nat.reduceLT,Nat.reduceSub,Int.reduceLT,Int.reduceLE,Int.reduceEq,Int.reduceNe,Int.reduceSub,Int.reduceAdd,Int.reduceMul,Int.reduceBEq,Int.reduceBNe,Int.reduceGT,Int.reduceGE,Nat.reduceGT,Int.reduceToNat,Int.reduceNeg,Nat.reduceLeDiff,Nat.reduceBEq,Nat.reduceBneDiff,Value.cells]
  refine (journal_Open_off E A19.A.R off).mono ?_
  rintro r h20 ⟨rfl, rfl⟩
  simp -implicitDefEqProofs only [zB1,zB2,zB3,zB4,zB5,zB6,zB7,zB8,zB9,zB10,zB11,y00,y01,y02,y03,y04,y05,y06,y07,y08,y09,y0a,y0b,y0c,y0d,y0e,y0f,y0g,y0h,y0i,y0j,y0k,y0l,y0m,y0n,y0o,y0p,y0q,y0r,y0s,y0t,y0u,y0v,y0w,y0x,y0y,y0z,y10,y11,y12,y13,y14,y15,y16,y17,y18,y19,y1a,y1b,y1c,y1d,y1e,y1f,y1g,y1h,y1i,y1j,y1k,y1l,y1m,y1n,y1o,y1p,y1q,y1r,retO,retL,retV,z6i,allV,allP,z6j,z6m,z6n,z6t,z6u,z6v,binV,eqV,unV,oOpt,reduceIte,reduceCtorEq,Nat.reduceEqDiff,Nat.reduceAdd,Nat.reduceMul,Nat.reduceLT,Nat.reduceSub,Int.reduceLT,Int.reduceLE,Int.reduceEq,Int.reduceNe,Int.reduceSub,Int.reduceAdd,Int.reduceMul,Int.reduceBEq,Int.reduceBNe,Int.reduceGT,Int.reduceGE,Nat.reduceGT,Int.reduceToNat,Int.reduceNeg,Nat.reduceLeDiff,Nat.reduceBEq,Nat.reduceBneDiff,Value.cells]
  refine (at_on2 E A19 (by rw [S16.lives_eq]; omega) (by rw [S16.lives_eq]; omega)).mono ?_
  rintro v h21 A21
  simp -implicitDefEqProofs only [zB1,zB2,zB3,zB4,zB5,zB6,zB7,zB8,zB9,zB10,zB11,y00,y01,y02,y03,y04,y05,y06,y07,y08,y09,y0a,y0b,y0c,y0d,y0e,y0f,y0g,y0h,y0i,y0j,y0k,y0l,y0m,y0n,y0o,y0p,y0q,y0r,y0s,y0t,y0u,y0v,y0w,y0x,y0y,y0z,y10,y11,y12,y13,y14,y15,y16,y17,y18,y19,y1a,y1b,y1c,y1d,y1e,y1f,y1g,y1h,y1i,y1j,y1k,y1l,y1m,y1n,y1o,y1p,y1q,y1r,retO,retL,retV,z6i,allV,allP,z6j,z6m,z6n,z6t,z6u,z6v,binV,eqV,unV,oOpt,reduceIte,reduceCtorEq,Nat.reduceEqDiff,Nat.reduceAdd,Nat.reduceMul,Nat.reduceLT,Nat.reduceSub,Int.reduceLT,Int.reduceLE,Int.reduceEq,Int.reduceNe,Int.reduceSub,Int.reduceAdd,Int.reduceMul,Int.reduceBEq,Int.reduceBNe,Int.reduceGT,Int.reduceGE,Nat.reduceGT,Int.reduceToNat,Int.reduceNeg,Nat.reduceLeDiff,Nat.reduceBEq,Nat.reduceBneDiff,Value.cells]
  have lv : (onF (crashF D16 0#64 0)).lives = 2 := by
    show (crashF D16 0#64 0).lives + 1 = 2
    rw [S16.lives_eq]; rfl
  have dn2 : doneF J15 (onF (crashF D16 0#64 0)) = true := by unfold doneF; rw [lv, hJ15l]; simp
  have okO : (onF (crashF D16 0#64 0)).okW 0 := okC
  refine (journal_Sync_c E A21.N A21.A.R A21.ne (okO.ok (by omega)) (by omega) (by omega)).mono ?_
  have es : syncJ J15 (onF (crashF D16 0#64 0)) = (onF (crashF D16 0#64 0), 7) := by
    unfold syncJ
    rw [dn2, if_pos rfl]
  rw [es]
  rintro r h22 ⟨rfl, κ22, e22, N22, R22⟩
  simp -implicitDefEqProofs only [zB1,zB2,zB3,zB4,zB5,zB6,zB7,zB8,zB9,zB10,zB11,y00,y01,y02,y03,y04,y05,y06,y07,y08,y09,y0a,y0b,y0c,y0d,y0e,y0f,y0g,y0h,y0i,y0j,y0k,y0l,y0m,y0n,y0o,y0p,y0q,y0r,y0s,y0t,y0u,y0v,y0w,y0x,y0y,y0z,y10,y11,y12,y13,y14,y15,y16,y17,y18,y19,y1a,y1b,y1c,y1d,y1e,y1f,y1g,y1h,y1i,y1j,y1k,y1l,y1m,y1n,y1o,y1p,y1q,y1r,retO,retL,retV,z6i,allV,allP,z6j,z6m,z6n,z6t,z6u,z6v,binV,eqV,unV,oOpt,reduceIte,reduceCtorEq,Nat.reduceEqDiff,Nat.reduceAdd,Nat.reduceMul,Nat.reduceLT,Nat.reduceSub,Int.reduceLT,Int.reduceLE,Int.reduceEq,Int.reduceNe,Int.reduceSub,Int.reduceAdd,Int.reduceMul,Int.reduceBEq,Int.reduceBNe,Int.reduceGT,Int.reduceGE,Nat.reduceGT,Int.reduceToNat,Int.reduceNeg,Nat.reduceLeDiff,Nat.reduceBEq,Nat.reduceBneDiff,Value.cells]
  refine (journal_Done_c E N22 R22).mono ?_
  rintro r h23 ⟨rfl, rfl⟩
  rw [dn2]
  simp -implicitDefEqProofs only [zB1,zB2,zB3,zB4,zB5,zB6,zB7,zB8,zB9,zB10,zB11,y00,y01,y02,y03,y04,y05,y06,y07,y08,y09,y0a,y0b,y0c,y0d,y0e,y0f,y0g,y0h,y0i,y0j,y0k,y0l,y0m,y0n,y0o,y0p,y0q,y0r,y0s,y0t,y0u,y0v,y0w,y0x,y0y,y0z,y10,y11,y12,y13,y14,y15,y16,y17,y18,y19,y1a,y1b,y1c,y1d,y1e,y1f,y1g,y1h,y1i,y1j,y1k,y1l,y1m,y1n,y1o,y1p,y1q,y1r,retO,retL,retV,z6i,allV,allP,z6j,z6m,z6n,z6t,z6u,z6v,binV,eqV,unV,oOpt,reduceIte,reduceCtorEq,Nat.reduceEqDiff,Nat.reduceAdd,Nat.reduceMul,Nat.reduceLT,Nat.reduceSub,Int.reduceLT,Int.reduceLE,Int.reduceEq,Int.reduceNe,Int.reduceSub,Int.reduceAdd,Int.reduceMul,Int.reduceBEq,Int.reduceBNe,Int.reduceGT,Int.reduceGE,Nat.reduceGT,Int.reduceToNat,Int.reduceNeg,Nat.reduceLeDiff,Nat.reduceBEq,Nat.reduceBneDiff,Value.cells]
  have A23 : AtD h1 κ22 h23 d (onF (crashF D16 0#64 0)) := ⟨Heap.le_trans A21.A.B e22.bare, R22⟩
  refine (at_reopen' E S16 (by simp) A23 (by rw [hbs1]; simp) (by omega)).mono ?_
  rintro v h24 ⟨j', κ24, J24, D24, old24, cur24, n24, rfl, -, -, A24, S24, hn1, hn2, hn3, hn4, hn5, hn6⟩
  have hn : n24 = 1 := by rw [hn6 rfl, hs16]; rfl
  subst hn
  rw [hr15] at hn3
  have hb24 : J24.base = [98, 97, 115, 101] := by rw [S24.eJ]
  simp -implicitDefEqProofs only [zB1,zB2,zB3,zB4,zB5,zB6,zB7,zB8,zB9,zB10,zB11,y00,y01,y02,y03,y04,y05,y06,y07,y08,y09,y0a,y0b,y0c,y0d,y0e,y0f,y0g,y0h,y0i,y0j,y0k,y0l,y0m,y0n,y0o,y0p,y0q,y0r,y0s,y0t,y0u,y0v,y0w,y0x,y0y,y0z,y10,y11,y12,y13,y14,y15,y16,y17,y18,y19,y1a,y1b,y1c,y1d,y1e,y1f,y1g,y1h,y1i,y1j,y1k,y1l,y1m,y1n,y1o,y1p,y1q,y1r,retO,retL,retV,z6i,allV,allP,z6j,z6m,z6n,z6t,z6u,z6v,binV,eqV,unV,oOpt,reduceIte,reduceCtorEq,Nat.reduceEqDiff,Nat.reduceAdd,Nat.reduceMul,Nat.reduceLT,Nat.reduceSub,Int.reduceLT,Int.reduceLE,Int.reduceEq,Int.reduceNe,Int.reduceSub,Int.reduceAdd,Int.reduceMul,Int.reduceBEq,Int.reduceBNe,Int.reduceGT,Int.reduceGE,Nat.reduceGT,Int.reduceToNat,Int.reduceNeg,Nat.reduceLeDiff,Nat.reduceBEq,Nat.reduceBneDiff,Value.cells]
  unfold ir_bandboxlaw14_JournalKnown_82
  simp -implicitDefEqProofs only [zB1,zB2,zB3,zB4,zB5,zB6,zB7,zB8,zB9,zB10,zB11,y00,y01,y02,y03,y04,y05,y06,y07,y08,y09,y0a,y0b,y0c,y0d,y0e,y0f,y0g,y0h,y0i,y0j,y0k,y0l,y0m,y0n,y0o,y0p,y0q,y0r,y0s,y0t,y0u,y0v,y0w,y0x,y0y,y0z,y10,y11,y12,y13,y14,y15,y16,y17,y18,y19,y1a,y1b,y1c,y1d,y1e,y1f,y1g,y1h,y1i,y1j,y1k,y1l,y1m,y1n,y1o,y1p,y1q,y1r,retO,retL,retV,z6i,allV,allP,z6j,z6m,z6n,z6t,z6u,z6v,binV,eqV,unV,oOpt,reduceIte,reduceCtorEq,Nat.reduceEqDiff,Nat.reduceAdd,Nat.reduceMul,Nat.reduceLT,Nat.reduceSub,Int.reduceLT,Int.reduceLE,Int.reduceEq,Int.reduceNe,Int.reduceSub,Int.reduceAdd,Int.reduceMul,Int.reduceBEq,Int.reduceBNe,Int.reduceGT,Int.reduceGE,Nat.reduceGT,Int.reduceToNat,Int.reduceNeg,Nat.reduceLeDiff,Nat.reduceBEq,Nat.reduceBneDiff,Value.cells]
  refine (journal_Base_c E A24.N (by rw [hb24]; simp)).mono ?_
  rintro r h25 ⟨le25, ow25⟩
  have A25 := A24.le le25
  rw [hb24] at ow25
  have s25 := ow25.sl
  obtain ⟨zb, zc, rfl⟩ := Sl.shape s25
  have f1 : strOfV h25 (.slice zb 4 zc) = some (.string ⟨#[98, 97, 115, 101]⟩) := strOfV_sl s25
  simp -implicitDefEqProofs only [zB1,zB2,zB3,zB4,zB5,zB6,zB7,zB8,zB9,zB10,zB11,y00,y01,y02,y03,y04,y05,y06,y07,y08,y09,y0a,y0b,y0c,y0d,y0e,y0f,y0g,y0h,y0i,y0j,y0k,y0l,y0m,y0n,y0o,y0p,y0q,y0r,y0s,y0t,y0u,y0v,y0w,y0x,y0y,y0z,y10,y11,y12,y13,y14,y15,y16,y17,y18,y19,y1a,y1b,y1c,y1d,y1e,y1f,y1g,y1h,y1i,y1j,y1k,y1l,y1m,y1n,y1o,y1p,y1q,y1r,retO,retL,retV,z6i,allV,allP,z6j,z6m,z6n,z6t,z6u,z6v,binV,eqV,unV,oOpt,reduceIte,reduceCtorEq,Nat.reduceEqDiff,Nat.reduceAdd,Nat.reduceMul,Nat.reduceLT,Nat.reduceSub,Int.reduceLT,Int.reduceLE,Int.reduceEq,Int.reduceNe,Int.reduceSub,Int.reduceAdd,Int.reduceMul,Int.reduceBEq,Int.reduceBNe,Int.reduceGT,Int.reduceGE,Nat.reduceGT,Int.reduceToNat,Int.reduceNeg,Nat.reduceLeDiff,Nat.reduceBEq,Nat.reduceBneDiff,Value.cells, f1]
  refine (journal_All_c E A25.N (by rw [hn3]; simp) (by rw [hn3]; simp)).mono ?_
  rintro av h26 ⟨le26, κz, N26⟩
  have A26 := A25.le le26
  have s26 := N26.sl
  rw [hn3] at s26
  obtain ⟨ab3, ac3, rfl⟩ := s26.shape
  simp -implicitDefEqProofs only [zB1,zB2,zB3,zB4,zB5,zB6,zB7,zB8,zB9,zB10,zB11,y00,y01,y02,y03,y04,y05,y06,y07,y08,y09,y0a,y0b,y0c,y0d,y0e,y0f,y0g,y0h,y0i,y0j,y0k,y0l,y0m,y0n,y0o,y0p,y0q,y0r,y0s,y0t,y0u,y0v,y0w,y0x,y0y,y0z,y10,y11,y12,y13,y14,y15,y16,y17,y18,y19,y1a,y1b,y1c,y1d,y1e,y1f,y1g,y1h,y1i,y1j,y1k,y1l,y1m,y1n,y1o,y1p,y1q,y1r,retO,retL,retV,z6i,allV,allP,z6j,z6m,z6n,z6t,z6u,z6v,binV,eqV,unV,oOpt,reduceIte,reduceCtorEq,Nat.reduceEqDiff,Nat.reduceAdd,Nat.reduceMul,Nat.reduceLT,Nat.reduceSub,Int.reduceLT,Int.reduceLE,Int.reduceEq,Int.reduceNe,Int.reduceSub,Int.reduceAdd,Int.reduceMul,Int.reduceBEq,Int.reduceBNe,Int.reduceGT,Int.reduceGE,Nat.reduceGT,Int.reduceToNat,Int.reduceNeg,Nat.reduceLeDiff,Nat.reduceBEq,Nat.reduceBneDiff,Value.cells, List.length_replicate, List.drop_replicate, List.replicate_zero]
  intro b11 hb11
  try simp -implicitDefEqProofs only [zB1,zB2,zB3,zB4,zB5,zB6,zB7,zB8,zB9,zB10,zB11,y00,y01,y02,y03,y04,y05,y06,y07,y08,y09,y0a,y0b,y0c,y0d,y0e,y0f,y0g,y0h,y0i,y0j,y0k,y0l,y0m,y0n,y0o,y0p,y0q,y0r,y0s,y0t,y0u,y0v,y0w,y0x,y0y,y0z,y10,y11,y12,y13,y14,y15,y16,y17,y18,y19,y1a,y1b,y1c,y1d,y1e,y1f,y1g,y1h,y1i,y1j,y1k,y1l,y1m,y1n,y1o,y1p,y1q,y1r,retO,retL,retV,z6i,allV,allP,z6j,z6m,z6n,z6t,z6u,z6v,binV,eqV,unV,oOpt,reduceIte,reduceCtorEq,Nat.reduceEqDiff,Nat.reduceAdd,Nat.reduceMul,Nat.reduceLT,Nat.reduceSub,Int.reduceLT,Int.reduceLE,Int.reduceEq,Int.reduceNe,Int.reduceSub,Int.reduceAdd,Int.reduceMul,Int.reduceBEq,Int.reduceBNe,Int.reduceGT,Int.reduceGE,Nat.reduceGT,Int.reduceToNat,Int.reduceNeg,Nat.reduceLeDiff,Nat.reduceBEq,Nat.reduceBneDiff,Value.cells]
  have m11 : markV (h26.set b11 (.own 0 [.int .u8 113] 1)) (.slice (some ⟨b11, 0, none⟩) 1 1) = some (.slice (some ⟨b11, 0, none⟩) 1 1) := by simp [markV, Heap.set_self]
  simp -implicitDefEqProofs only [zB1,zB2,zB3,zB4,zB5,zB6,zB7,zB8,zB9,zB10,zB11,y00,y01,y02,y03,y04,y05,y06,y07,y08,y09,y0a,y0b,y0c,y0d,y0e,y0f,y0g,y0h,y0i,y0j,y0k,y0l,y0m,y0n,y0o,y0p,y0q,y0r,y0s,y0t,y0u,y0v,y0w,y0x,y0y,y0z,y10,y11,y12,y13,y14,y15,y16,y17,y18,y19,y1a,y1b,y1c,y1d,y1e,y1f,y1g,y1h,y1i,y1j,y1k,y1l,y1m,y1n,y1o,y1p,y1q,y1r,retO,retL,retV,z6i,allV,allP,z6j,z6m,z6n,z6t,z6u,z6v,binV,eqV,unV,oOpt,reduceIte,reduceCtorEq,Nat.reduceEqDiff,Nat.reduceAdd,Nat.reduceMul,Nat.reduceLT,Nat.reduceSub,Int.reduceLT,Int.reduceLE,Int.reduceEq,Int.reduceNe,Int.reduceSub,Int.reduceAdd,Int.reduceMul,Int.reduceBEq,Int.reduceBNe,Int.reduceGT,Int.reduceGE,Nat.reduceGT,Int.reduceToNat,Int.reduceNeg,Nat.reduceLeDiff,Nat.reduceBEq,Nat.reduceBneDiff,Value.cells, m11, List.length_replicate, List.drop_replicate, List.replicate_zero]
  intro b12 hb12
  try simp -implicitDefEqProofs only [zB1,zB2,zB3,zB4,zB5,zB6,zB7,zB8,zB9,zB10,zB11,y00,y01,y02,y03,y04,y05,y06,y07,y08,y09,y0a,y0b,y0c,y0d,y0e,y0f,y0g,y0h,y0i,y0j,y0k,y0l,y0m,y0n,y0o,y0p,y0q,y0r,y0s,y0t,y0u,y0v,y0w,y0x,y0y,y0z,y10,y11,y12,y13,y14,y15,y16,y17,y18,y19,y1a,y1b,y1c,y1d,y1e,y1f,y1g,y1h,y1i,y1j,y1k,y1l,y1m,y1n,y1o,y1p,y1q,y1r,retO,retL,retV,z6i,allV,allP,z6j,z6m,z6n,z6t,z6u,z6v,binV,eqV,unV,oOpt,reduceIte,reduceCtorEq,Nat.reduceEqDiff,Nat.reduceAdd,Nat.reduceMul,Nat.reduceLT,Nat.reduceSub,Int.reduceLT,Int.reduceLE,Int.reduceEq,Int.reduceNe,Int.reduceSub,Int.reduceAdd,Int.reduceMul,Int.reduceBEq,Int.reduceBNe,Int.reduceGT,Int.reduceGE,Nat.reduceGT,Int.reduceToNat,Int.reduceNeg,Nat.reduceLeDiff,Nat.reduceBEq,Nat.reduceBneDiff,Value.cells]
  have le27 := Heap.le_set (Heap.le_refl h26) hb11 (.own 0 [.int .u8 113] 1)
  have q4 : SlB (h26.set b11 (.own 0 [.int .u8 113] 1)) (.slice (some ⟨b11, 0, none⟩) 1 1) [113] := own_sl (l := [113]) (sz := 1) (Heap.set_self _ _ _)
  have sq1 := SlL.lit1 hb12 q4
  have le28 := Heap.le_set (Heap.le_refl (h26.set b11 (.own 0 [.int .u8 113] 1))) hb12 (.own 0 [.slice (some ⟨b11, 0, none⟩) 1 1] 1)
  have leG := Heap.le_trans le27 le28
  generalize (h26.set b11 (.own 0 [.int .u8 113] 1)).set b12 (.own 0 [.slice (some ⟨b11, 0, none⟩) 1 1] 1) = h28 at sq1 leG
  have A28 := A26.le leG
  refine (law14_same_c E [[113]] [[113]] (s26.le leG) sq1 (by simp) (by simp)).mono ?_
  rintro r h29 ⟨rfl, rfl⟩
  simp -implicitDefEqProofs only [zB1,zB2,zB3,zB4,zB5,zB6,zB7,zB8,zB9,zB10,zB11,y00,y01,y02,y03,y04,y05,y06,y07,y08,y09,y0a,y0b,y0c,y0d,y0e,y0f,y0g,y0h,y0i,y0j,y0k,y0l,y0m,y0n,y0o,y0p,y0q,y0r,y0s,y0t,y0u,y0v,y0w,y0x,y0y,y0z,y10,y11,y12,y13,y14,y15,y16,y17,y18,y19,y1a,y1b,y1c,y1d,y1e,y1f,y1g,y1h,y1i,y1j,y1k,y1l,y1m,y1n,y1o,y1p,y1q,y1r,retO,retL,retV,z6i,allV,allP,z6j,z6m,z6n,z6t,z6u,z6v,binV,eqV,unV,oOpt,reduceIte,reduceCtorEq,Nat.reduceEqDiff,Nat.reduceAdd,Nat.reduceMul,Nat.reduceLT,Nat.reduceSub,Int.reduceLT,Int.reduceLE,Int.reduceEq,Int.reduceNe,Int.reduceSub,Int.reduceAdd,Int.reduceMul,Int.reduceBEq,Int.reduceBNe,Int.reduceGT,Int.reduceGE,Nat.reduceGT,Int.reduceToNat,Int.reduceNeg,Nat.reduceLeDiff,Nat.reduceBEq,Nat.reduceBneDiff,Value.cells]
  refine (journal_Done_c E A28.N A28.A.R).mono ?_
  rintro r h30 ⟨rfl, rfl⟩
  rw [S24.done]
  simp -implicitDefEqProofs only [zB1,zB2,zB3,zB4,zB5,zB6,zB7,zB8,zB9,zB10,zB11,y00,y01,y02,y03,y04,y05,y06,y07,y08,y09,y0a,y0b,y0c,y0d,y0e,y0f,y0g,y0h,y0i,y0j,y0k,y0l,y0m,y0n,y0o,y0p,y0q,y0r,y0s,y0t,y0u,y0v,y0w,y0x,y0y,y0z,y10,y11,y12,y13,y14,y15,y16,y17,y18,y19,y1a,y1b,y1c,y1d,y1e,y1f,y1g,y1h,y1i,y1j,y1k,y1l,y1m,y1n,y1o,y1p,y1q,y1r,retO,retL,retV,z6i,allV,allP,z6j,z6m,z6n,z6t,z6u,z6v,binV,eqV,unV,oOpt,reduceIte,reduceCtorEq,Nat.reduceEqDiff,Nat.reduceAdd,Nat.reduceMul,Nat.reduceLT,Nat.reduceSub,Int.reduceLT,Int.reduceLE,Int.reduceEq,Int.reduceNe,Int.reduceSub,Int.reduceAdd,Int.reduceMul,Int.reduceBEq,Int.reduceBNe,Int.reduceGT,Int.reduceGE,Nat.reduceGT,Int.reduceToNat,Int.reduceNeg,Nat.reduceLeDiff,Nat.reduceBEq,Nat.reduceBneDiff,Value.cells]
end Go.Bb
