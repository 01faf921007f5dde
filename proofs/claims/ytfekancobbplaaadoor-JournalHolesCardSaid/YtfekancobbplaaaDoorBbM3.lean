/- My contracts: BbCjou3 BbCdsk7 BbLdsk0 BbCjou4 BbCjou5 BbCjou6 BbCjou7 BbCsha6 BbCsha7 BbLjou0 BbCoct2 BbCoct3 BbLjou1 BbLjou2 BbLjou3 BbLjou4. -/
import Derived.Test.YtfekancobbplaaaDoorBbG3
import Derived.Test.YtfekancobbplaaaDoorBbM2
import Derived.Test.YtfekancobbplaaaDoorBbG4
import Derived.Test.YtfekancobbplaaaDoorBbM1
/- Contracts: all records of a journal; records more. -/
namespace Go.Bb
set_option linter.unusedSimpArgs false
set_option linter.unusedVariables false
set_option maxRecDepth 20000
set_option maxHeartbeats 2000000

theorem SlL.at' {h : Heap} {base : Option Addr} {c : Nat} {L : List (List UInt8)} (s : SlL h (.slice base L.length c) L) (i : Nat) (hi : i < L.length) :
    ∃ b o bi ci, base = some ⟨b, o, none⟩ ∧ SlB h (.slice bi L[i].length ci) L[i] ∧ ∀ H, h.le H → hcell H ⟨b, o + i, none⟩ = some (.slice bi L[i].length ci) := by
  obtain ⟨vs, hv, sl, el⟩ := s
  obtain ⟨b, o, c', e, hc, hcl⟩ := sl.ptr (by omega) (by omega)
  simp only [Value.slice.injEq, true_and] at e
  have si := el i (by omega) hi
  obtain ⟨bi, ci, ei⟩ := Sl.shape si
  rw [ei] at si
  refine ⟨b, o, bi, ci, e.1, si, fun H le => ?_⟩
  rw [Nat.mul_one] at hcl
  rw [hcell_of (hcells_le le hcl) i hi, List.getElem?_eq_getElem (by omega), ei]
/-- New rows, each by itself: colours of their own. -/
def NewL (H H' : Heap) (κ : Pal) (v : Value) (L : List (List UInt8)) : Prop :=
  (∀ b, H b ≠ none → κ b = none) ∧ ∃ vs : List Value, OwK κ (0, 0, 12) H' 1 v L.length vs ∧ vs.length = L.length ∧ ∀ i (h1 : i < vs.length) (h2 : i < L.length), OwK κ (0, i, 11) H' 1 vs[i] L[i].length (L[i].map u8V)
theorem NewL.sl {H H' : Heap} {κ : Pal} {v : Value} {L : List (List UInt8)} (n : NewL H H' κ v L) : SlL H' v L := by
  obtain ⟨-, vs, s, l, e⟩ := n
  exact ⟨vs, l, s.sl, fun i h1 h2 => (e i h1 h2).sl⟩
theorem journal_All_c (E : EnvT tab) {κ : Pal} {H : Heap} {j d : Nat} {J : JF} (R : JouR κ H j d J) (hl : J.recs.length ≤ 100000) (hb : ∀ l ∈ J.recs, l.length ≤ 1000000) :
    ACallN E.toEnv n_journal_Journal_All [ptrV j] H fun r H' => H.le H' ∧ ∃ κ', NewL H H' κ' r J.recs := by
  obtain ⟨vb, vr, rs, k, q, s1, s2, lr, s3⟩ := R
  have sL : SlL H vr J.recs := ⟨rs, lr, s2.sl, fun i h1 h2 => (s3 i h1 h2).sl⟩
  obtain ⟨rb, rc, rfl⟩ := sL.shape
  refine acall h_journal_Journal_All ir_journal_Journal_All rfl rfl (wpA_sound ?_)
  unfold ir_journal_Journal_All
  have c6 : hcell H ⟨j, 6, none⟩ = some (.slice rb J.recs.length rc) := by rw [hcell_at q (by simp)]; rfl
  simp -implicitDefEqProofs only [zB1,zB2,zB3,zB4,zB5,zB6,zB7,zB8,zB9,zB10,zB11,y00,y01,y02,y03,y04,y05,y06,y07,y08,y09,y0a,y0b,y0c,y0d,y0e,y0f,y0g,y0h,y0i,y0j,y0k,y0l,y0m,y0n,y0o,y0p,y0q,y0r,y0s,y0t,y0u,y0v,y0w,y0x,y0y,y0z,y10,y11,y12,y13,y14,y15,y16,y17,y18,y19,y1a,y1b,y1c,y1d,y1e,y1f,y1g,y1h,y1i,y1j,y1k,y1l,y1m,y1n,y1o,y1p,y1q,y1r,retO,retL,retV,z6i,allV,allP,z6j,z6m,z6n,z6t,z6u,z6v,binV,eqV,unV,oOpt,reduceIte,reduceCtorEq,Nat.reduceEqDiff,Nat.reduceAdd,Nat.reduceMul,Nat.reduceLT,Nat.reduceSub,Int.reduceLT,Int.reduceLE,Int.reduceEq,Int.reduceNe,Int.reduceSub,Int.reduceAdd,Int.reduceMul,Int.reduceBEq,Int.reduceBNe,Int.reduceGT,Int.reduceGE,Nat.reduceGT,Int.reduceToNat,Int.reduceNeg,Nat.reduceLeDiff,Nat.reduceBEq,Nat.reduceBneDiff,Value.cells, c6]
  refine wp_loop' (fun m t G => ∃ (i : Nat) (acc : Value) (κ' : Pal), t = tl [(3, acc), (9, .slice rb J.recs.length rc), (10, .int .i64 J.recs.length), (11, .int .i64 i)] ∧ i ≤ J.recs.length ∧ m = J.recs.length - i ∧ H.le G ∧ NewL H G κ' acc (J.recs.take i)) J.recs.length
    ⟨0, .slice none 0 0, fun _ => none, rfl, by omega, by omega, Heap.le_refl _, fun _ _ => rfl, [], Ow.nil _ _ _, by simp, fun i h1 => by simp at h1⟩ ?_
  rintro m t G ⟨i, acc, κ', rfl, hi, rfl, leG, N⟩
  by_cases hlt : i < J.recs.length
  · have hi1 : (i : Int) < J.recs.length := by omega
    have hi2 : (0 : Int) ≤ i := by omega
    have w1 : IntKind.i64.wrap ((i : Int) + 1) = ((i + 1 : Nat) : Int) := wrapN (by omega)
    obtain ⟨b, o, bi, ci, rfl, si, ciH⟩ := sL.at' i hlt
    have c1 := ciH G leG
    have hbi := hb _ (List.getElem_mem hlt)
    simp -implicitDefEqProofs only [zB1,zB2,zB3,zB4,zB5,zB6,zB7,zB8,zB9,zB10,zB11,y00,y01,y02,y03,y04,y05,y06,y07,y08,y09,y0a,y0b,y0c,y0d,y0e,y0f,y0g,y0h,y0i,y0j,y0k,y0l,y0m,y0n,y0o,y0p,y0q,y0r,y0s,y0t,y0u,y0v,y0w,y0x,y0y,y0z,y10,y11,y12,y13,y14,y15,y16,y17,y18,y19,y1a,y1b,y1c,y1d,y1e,y1f,y1g,y1h,y1i,y1j,y1k,y1l,y1m,y1n,y1o,y1p,y1q,y1r,retO,retL,retV,z6i,allV,allP,z6j,z6m,z6n,z6t,z6u,z6v,binV,eqV,unV,oOpt,reduceIte,reduceCtorEq,Nat.reduceEqDiff,Nat.reduceAdd,Nat.reduceMul,Nat.reduceLT,Nat.reduceSub,Int.reduceLT,Int.reduceLE,Int.reduceEq,Int.reduceNe,Int.reduceSub,Int.reduceAdd,Int.reduceMul,Int.reduceBEq,Int.reduceBNe,Int.reduceGT,Int.reduceGE,Nat.reduceGT,Int.reduceToNat,Int.reduceNeg,Nat.reduceLeDiff,Nat.reduceBEq,Nat.reduceBneDiff,Value.cells, hi1, hi2, Int.toNat_natCast, c1]
    refine (bytes_Clone_c E G J.recs[i] (by omega) (si.le leG)).mono ?_
    rintro wv G1 ⟨le1, o1⟩
    obtain ⟨hN, vs, sN, lN, eN⟩ := N
    have e1 : Ext (fun _ => False) κ' G (κ'.grow G (0, i, 11)) G1 := Ext.tint le1
    have ow1 : OwK (κ'.grow G (0, i, 11)) (0, i, 11) G1 1 wv J.recs[i].length (J.recs[i].map u8V) := OwK.tinted o1
    have hN1 : ∀ b, H b ≠ none → (κ'.grow G (0, i, 11)) b = none := by
      intro b hb
      unfold Pal.grow
      rw [if_neg, hN b hb]
      intro hn
      cases hH : H b with
      | none => exact hb hH
      | some x => rw [leG b x hH] at hn; cases hn
    have sN1 := e1.own (fun q => q) sN
    obtain ⟨wb, wc, rfl⟩ := Sl.shape o1.sl
    simp -implicitDefEqProofs only [zB1,zB2,zB3,zB4,zB5,zB6,zB7,zB8,zB9,zB10,zB11,y00,y01,y02,y03,y04,y05,y06,y07,y08,y09,y0a,y0b,y0c,y0d,y0e,y0f,y0g,y0h,y0i,y0j,y0k,y0l,y0m,y0n,y0o,y0p,y0q,y0r,y0s,y0t,y0u,y0v,y0w,y0x,y0y,y0z,y10,y11,y12,y13,y14,y15,y16,y17,y18,y19,y1a,y1b,y1c,y1d,y1e,y1f,y1g,y1h,y1i,y1j,y1k,y1l,y1m,y1n,y1o,y1p,y1q,y1r,retO,retL,retV,z6i,allV,allP,z6j,z6m,z6n,z6t,z6u,z6v,binV,eqV,unV,oOpt,reduceIte,reduceCtorEq,Nat.reduceEqDiff,Nat.reduceAdd,Nat.reduceMul,Nat.reduceLT,Nat.reduceSub,Int.reduceLT,Int.reduceLE,Int.reduceEq,Int.reduceNe,Int.reduceSub,Int.reduceAdd,Int.reduceMul,Int.reduceBEq,Int.reduceBNe,Int.reduceGT,Int.reduceGE,Nat.reduceGT,Int.reduceToNat,Int.reduceNeg,Nat.reduceLeDiff,Nat.reduceBEq,Nat.reduceBneDiff,Value.cells, List.length_replicate, List.drop_replicate, List.replicate_zero]
    intro b18 hb18
    try simp -implicitDefEqProofs only [zB1,zB2,zB3,zB4,zB5,zB6,zB7,zB8,zB9,zB10,zB11,y00,y01,y02,y03,y04,y05,y06,y07,y08,y09,y0a,y0b,y0c,y0d,y0e,y0f,y0g,y0h,y0i,y0j,y0k,y0l,y0m,y0n,y0o,y0p,y0q,y0r,y0s,y0t,y0u,y0v,y0w,y0x,y0y,y0z,y10,y11,y12,y13,y14,y15,y16,y17,y18,y19,y1a,y1b,y1c,y1d,y1e,y1f,y1g,y1h,y1i,y1j,y1k,y1l,y1m,y1n,y1o,y1p,y1q,y1r,retO,retL,retV,z6i,allV,allP,z6j,z6m,z6n,z6t,z6u,z6v,binV,eqV,unV,oOpt,reduceIte,reduceCtorEq,Nat.reduceEqDiff,Nat.reduceAdd,Nat.reduceMul,Nat.reduceLT,Nat.reduceSub,Int.reduceLT,Int.reduceLE,Int.reduceEq,Int.reduceNe,Int.reduceSub,Int.reduceAdd,Int.reduceMul,Int.reduceBEq,Int.reduceBNe,Int.reduceGT,Int.reduceGE,Nat.reduceGT,Int.reduceToNat,Int.reduceNeg,Nat.reduceLeDiff,Nat.reduceBEq,Nat.reduceBneDiff,Value.cells]
    have le2 := Heap.le_set (Heap.le_refl G1) hb18 (.own 0 [.slice wb J.recs[i].length wc] 1)
    have sx : Sl (G1.set b18 (.own 0 [.slice wb J.recs[i].length wc] 1)) 1 (.slice (some ⟨b18, 0, none⟩) 1 1) 1 [.slice wb J.recs[i].length wc] := Sl.lit rfl
    have le02 := Heap.le_trans leG (Heap.le_trans le1 le2)
    generalize (G1.set b18 (.own 0 [.slice wb J.recs[i].length wc] 1)) = G2 at le2 sx le02 ⊢
    have lT : (J.recs.take i).length = i := by rw [List.length_take]; omega
    refine appendP_ow (m := 1) (Heap.but_le G2 (κ'.grow G (0, i, 11)) (0, 0, 12)) (by omega) (OwK.le le2 sN1) sx rfl (by omega) (by omega) ?_
    intro v G3 o3 le3
    have e3 := Ext.grow le3
    have e12 : Ext (fun _ => False) (κ'.grow G (0, i, 11)) G1 (κ'.grow G (0, i, 11)) G2 := Ext.le le2
    simp -implicitDefEqProofs only [zB1,zB2,zB3,zB4,zB5,zB6,zB7,zB8,zB9,zB10,zB11,y00,y01,y02,y03,y04,y05,y06,y07,y08,y09,y0a,y0b,y0c,y0d,y0e,y0f,y0g,y0h,y0i,y0j,y0k,y0l,y0m,y0n,y0o,y0p,y0q,y0r,y0s,y0t,y0u,y0v,y0w,y0x,y0y,y0z,y10,y11,y12,y13,y14,y15,y16,y17,y18,y19,y1a,y1b,y1c,y1d,y1e,y1f,y1g,y1h,y1i,y1j,y1k,y1l,y1m,y1n,y1o,y1p,y1q,y1r,retO,retL,retV,z6i,allV,allP,z6j,z6m,z6n,z6t,z6u,z6v,binV,eqV,unV,oOpt,reduceIte,reduceCtorEq,Nat.reduceEqDiff,Nat.reduceAdd,Nat.reduceMul,Nat.reduceLT,Nat.reduceSub,Int.reduceLT,Int.reduceLE,Int.reduceEq,Int.reduceNe,Int.reduceSub,Int.reduceAdd,Int.reduceMul,Int.reduceBEq,Int.reduceBNe,Int.reduceGT,Int.reduceGE,Nat.reduceGT,Int.reduceToNat,Int.reduceNeg,Nat.reduceLeDiff,Nat.reduceBEq,Nat.reduceBneDiff,Value.cells, w1]
    have hG2 : ∀ b, H b ≠ none → G2 b ≠ none := by
      intro b hb hn
      cases hH : H b with
      | none => exact hb hH
      | some x => rw [le02 b x hH] at hn; cases hn
    refine ⟨_, ?_, i + 1, v, (κ'.grow G (0, i, 11)).grow G2 (0, 0, 12), rfl, by omega, rfl, ?_, ?_, vs ++ [.slice wb J.recs[i].length wc], ?_, ?_, ?_⟩
    · omega
    · intro b x hx
      refine le3 b x (Heap.but_some (le02 b x hx) ?_)
      rw [hN1 b (by rw [hx]; simp)]
      simp
    · intro b hb
      unfold Pal.grow
      rw [if_neg (hG2 b hb)]
      exact hN1 b hb
    · have := OwK.grown o3
      have e : (J.recs.take (i + 1)).length = (J.recs.take i).length + 1 := by rw [List.length_take, List.length_take]; omega
      rw [e]
      exact this
    · simp [lN]; omega
    · intro k h1 h2
      have hk : k ≤ i := by simp at h2; omega
      refine e3.own (by simp) (e12.own (fun q => q) ?_)
      by_cases hki : k < i
      · have := eN k (by omega) (by omega)
        have g1 : (vs ++ [.slice wb J.recs[i].length wc])[k]'h1 = vs[k]'(by omega) := List.getElem_append_left (by omega)
        have g2 : (J.recs.take (i + 1))[k]'h2 = (J.recs.take i)[k]'(by omega) := by simp
        rw [g1, g2]
        exact e1.own (fun q => q) this
      · have : k = i := by omega
        subst this
        have g1 : (vs ++ [.slice wb J.recs[k].length wc])[k]'h1 = .slice wb J.recs[k].length wc := by
          rw [List.getElem_append_right (by omega)]; simp
        have g2 : (J.recs.take (k + 1))[k]'h2 = J.recs[k] := by simp
        rw [g1, g2]; exact ow1
  · have hi1 : ¬ (i : Int) < J.recs.length := by omega
    have e : i = J.recs.length := by omega
    subst e
    rw [List.take_length] at N
    simp -implicitDefEqProofs only [zB1,zB2,zB3,zB4,zB5,zB6,zB7,zB8,zB9,zB10,zB11,y00,y01,y02,y03,y04,y05,y06,y07,y08,y09,y0a,y0b,y0c,y0d,y0e,y0f,y0g,y0h,y0i,y0j,y0k,y0l,y0m,y0n,y0o,y0p,y0q,y0r,y0s,y0t,y0u,y0v,y0w,y0x,y0y,y0z,y10,y11,y12,y13,y14,y15,y16,y17,y18,y19,y1a,y1b,y1c,y1d,y1e,y1f,y1g,y1h,y1i,y1j,y1k,y1l,y1m,y1n,y1o,y1p,y1q,y1r,retO,retL,retV,z6i,allV,allP,z6j,z6m,z6n,z6t,z6u,z6v,binV,eqV,unV,oOpt,reduceIte,reduceCtorEq,Nat.reduceEqDiff,Nat.reduceAdd,Nat.reduceMul,Nat.reduceLT,Nat.reduceSub,Int.reduceLT,Int.reduceLE,Int.reduceEq,Int.reduceNe,Int.reduceSub,Int.reduceAdd,Int.reduceMul,Int.reduceBEq,Int.reduceBNe,Int.reduceGT,Int.reduceGE,Nat.reduceGT,Int.reduceToNat,Int.reduceNeg,Nat.reduceLeDiff,Nat.reduceBEq,Nat.reduceBneDiff,Value.cells, hi1]
    exact ⟨leG, κ', N⟩
end Go.Bb
/- Contracts: a disk that falls. -/
namespace Go.Bb
set_option linter.unusedSimpArgs false
set_option linter.unusedVariables false
set_option maxRecDepth 20000
set_option maxHeartbeats 2000000

theorem disk_Crash_c (E : EnvT tab) {κ : Pal} {H : Heap} {d : Nat} {D : DiskF} (R : DiskR κ H d D) (ok : D.ok) (keep : U64) (torn : Int) :
    ACallN E.toEnv n_disk_Disk_Crash [ptrV d, .int .u64 keep.toNat, .int .i64 torn] H fun v H' => ∃ κ', Ext (diskC d) κ H κ' H' ∧ DiskR κ' H' d (crashF D keep torn) := by
  obtain ⟨G, r, clk, V⟩ := R
  refine acall h_disk_Disk_Crash ir_disk_Disk_Crash rfl rfl (wpA_sound ?_)
  unfold ir_disk_Disk_Crash
  have c1 : hcell H ⟨d, 1, none⟩ = some (.map (some r)) := by rw [hcell_at V.qd (by simp)]; rfl
  have ma : mapAt H r = some ((G.map GFile.e).toArray, clk) := by simp [mapAt, V.qr]
  simp -implicitDefEqProofs only [zB1,zB2,zB3,zB4,zB5,zB6,zB7,zB8,zB9,zB10,zB11,y00,y01,y02,y03,y04,y05,y06,y07,y08,y09,y0a,y0b,y0c,y0d,y0e,y0f,y0g,y0h,y0i,y0j,y0k,y0l,y0m,y0n,y0o,y0p,y0q,y0r,y0s,y0t,y0u,y0v,y0w,y0x,y0y,y0z,y10,y11,y12,y13,y14,y15,y16,y17,y18,y19,y1a,y1b,y1c,y1d,y1e,y1f,y1g,y1h,y1i,y1j,y1k,y1l,y1m,y1n,y1o,y1p,y1q,y1r,retO,retL,retV,z6i,allV,allP,z6j,z6m,z6n,z6t,z6u,z6v,binV,eqV,unV,oOpt,reduceIte,reduceCtorEq,Nat.reduceEqDiff,Nat.reduceAdd,Nat.reduceMul,Nat.reduceLT,Nat.reduceSub,Int.reduceLT,Int.reduceLE,Int.reduceEq,Int.reduceNe,Int.reduceSub,Int.reduceAdd,Int.reduceMul,Int.reduceBEq,Int.reduceBNe,Int.reduceGT,Int.reduceGE,Nat.reduceGT,Int.reduceToNat,Int.reduceNeg,Nat.reduceLeDiff,Nat.reduceBEq,Nat.reduceBneDiff,Value.cells, c1]
  refine rangeP_map ma ?_
  intro b hb
  have e0 : Ext (fun _ => False) κ H (fun i => if i = b then some (d, d, 6) else κ i) (H.set b (.obj (.mapIter (some r) clk #[] clk))) := Ext.new hb _ _
  have kb : (fun i => if i = b then some (d, d, 6) else κ i) b = some (d, d, 6) := by simp
  have qb : (H.set b (.obj (.mapIter (some r) clk #[] clk))) b = some (.obj (.mapIter (some r) clk #[] clk)) := Heap.set_self _ _ _
  have V1 := V.ext e0 (fun _ _ q => q)
  simp -implicitDefEqProofs only [zB1,zB2,zB3,zB4,zB5,zB6,zB7,zB8,zB9,zB10,zB11,y00,y01,y02,y03,y04,y05,y06,y07,y08,y09,y0a,y0b,y0c,y0d,y0e,y0f,y0g,y0h,y0i,y0j,y0k,y0l,y0m,y0n,y0o,y0p,y0q,y0r,y0s,y0t,y0u,y0v,y0w,y0x,y0y,y0z,y10,y11,y12,y13,y14,y15,y16,y17,y18,y19,y1a,y1b,y1c,y1d,y1e,y1f,y1g,y1h,y1i,y1j,y1k,y1l,y1m,y1n,y1o,y1p,y1q,y1r,retO,retL,retV,z6i,allV,allP,z6j,z6m,z6n,z6t,z6u,z6v,binV,eqV,unV,oOpt,reduceIte,reduceCtorEq,Nat.reduceEqDiff,Nat.reduceAdd,Nat.reduceMul,Nat.reduceLT,Nat.reduceSub,Int.reduceLT,Int.reduceLE,Int.reduceEq,Int.reduceNe,Int.reduceSub,Int.reduceAdd,Int.reduceMul,Int.reduceBEq,Int.reduceBNe,Int.reduceGT,Int.reduceGE,Nat.reduceGT,Int.reduceToNat,Int.reduceNeg,Nat.reduceLeDiff,Nat.reduceBEq,Nat.reduceBneDiff,Value.cells]
  generalize (H.set b (.obj (.mapIter (some r) clk #[] clk))) = H1 at e0 qb V1 ⊢
  generalize (fun i => if i = b then some (d, d, 6) else κ i) = κ1 at e0 kb V1
  refine wp_loop' (fun m t K => ∃ (done rest : List GFile) (κ' : Pal), (done ++ rest).Perm G ∧ t = tl [(0, ptrV d), (1, .int .u64 keep.toNat), (2, .int .i64 torn), (12, ptrV b)] ∧ m = rest.length ∧ Ext (fun c => c.1 = d ∧ ¬ (c.2.2 = 4 ∨ c.2.2 = 5)) κ1 H1 κ' K ∧
      κ' b = some (d, d, 6) ∧ K b = some (.obj (.mapIter (some r) clk (done.map (·.born)).toArray clk)) ∧ (∀ g ∈ done, FileR κ' K d g.f (g.F.crash keep torn)) ∧ (∀ g ∈ rest, FileR κ' K d g.f g.F)) G.length
    ⟨[], G, κ1, List.Perm.refl _, rfl, rfl, Ext.refl _ _ _, kb, qb, by simp, V1.R⟩ ?_
  rintro m t K ⟨done, rest, κ', hp, rfl, rfl, eK, kbK, qbK, R1, R2⟩
  obtain ⟨qr, kr⟩ := eK.blk V1.kr (fun q => q.2 (.inr rfl)) V1.qr
  obtain ⟨qd, kd⟩ := eK.blk V1.kd (fun q => q.2 (.inl rfl)) V1.qd
  have maK : mapAt K r = some ((G.map GFile.e).toArray, clk) := by simp [mapAt, qr]
  simp -implicitDefEqProofs only [zB1,zB2,zB3,zB4,zB5,zB6,zB7,zB8,zB9,zB10,zB11,y00,y01,y02,y03,y04,y05,y06,y07,y08,y09,y0a,y0b,y0c,y0d,y0e,y0f,y0g,y0h,y0i,y0j,y0k,y0l,y0m,y0n,y0o,y0p,y0q,y0r,y0s,y0t,y0u,y0v,y0w,y0x,y0y,y0z,y10,y11,y12,y13,y14,y15,y16,y17,y18,y19,y1a,y1b,y1c,y1d,y1e,y1f,y1g,y1h,y1i,y1j,y1k,y1l,y1m,y1n,y1o,y1p,y1q,y1r,retO,retL,retV,z6i,allV,allP,z6j,z6m,z6n,z6t,z6u,z6v,binV,eqV,unV,oOpt,reduceIte,reduceCtorEq,Nat.reduceEqDiff,Nat.reduceAdd,Nat.reduceMul,Nat.reduceLT,Nat.reduceSub,Int.reduceLT,Int.reduceLE,Int.reduceEq,Int.reduceNe,Int.reduceSub,Int.reduceAdd,Int.reduceMul,Int.reduceBEq,Int.reduceBNe,Int.reduceGT,Int.reduceGE,Nat.reduceGT,Int.reduceToNat,Int.reduceNeg,Nat.reduceLeDiff,Nat.reduceBEq,Nat.reduceBneDiff,Value.cells]
  refine nextP_map qbK maK (born_lt V.lb) (Nat.le_refl _) ?_ ?_
  · intro h0
    have := left_none hp V.nb h0
    subst this
    rw [List.append_nil] at hp
    have st : storeV K 1 (.pointer (some ⟨d, 2, none⟩)) (.bool false) = some (K.set d (.own 0 [.int .i64 D.room, .map (some r), .bool false, .int .i64 D.lives] 4)) := storeV_one_at qd rfl (by simp) (by simp)
    simp -implicitDefEqProofs only [zB1,zB2,zB3,zB4,zB5,zB6,zB7,zB8,zB9,zB10,zB11,y00,y01,y02,y03,y04,y05,y06,y07,y08,y09,y0a,y0b,y0c,y0d,y0e,y0f,y0g,y0h,y0i,y0j,y0k,y0l,y0m,y0n,y0o,y0p,y0q,y0r,y0s,y0t,y0u,y0v,y0w,y0x,y0y,y0z,y10,y11,y12,y13,y14,y15,y16,y17,y18,y19,y1a,y1b,y1c,y1d,y1e,y1f,y1g,y1h,y1i,y1j,y1k,y1l,y1m,y1n,y1o,y1p,y1q,y1r,retO,retL,retV,z6i,allV,allP,z6j,z6m,z6n,z6t,z6u,z6v,binV,eqV,unV,oOpt,reduceIte,reduceCtorEq,Nat.reduceEqDiff,Nat.reduceAdd,Nat.reduceMul,Nat.reduceLT,Nat.reduceSub,Int.reduceLT,Int.reduceLE,Int.reduceEq,Int.reduceNe,Int.reduceSub,Int.reduceAdd,Int.reduceMul,Int.reduceBEq,Int.reduceBNe,Int.reduceGT,Int.reduceGE,Nat.reduceGT,Int.reduceToNat,Int.reduceNeg,Nat.reduceLeDiff,Nat.reduceBEq,Nat.reduceBneDiff,Value.cells, st]
    have V2 : DiskV κ' K d { D with files := nF (G.map fun g => { g with F := g.F.crash keep torn }) } (G.map fun g => { g with F := g.F.crash keep torn }) r clk := by
      refine ⟨kd, qd, kr, ?_, rfl, ?_, ?_, ?_, ?_, ?_⟩
      · rw [qr, List.map_map]; rfl
      · rw [List.map_map]; exact V.nf
      · rw [List.map_map]; exact V.nn
      · rw [List.map_map]; exact V.nb
      · intro g hg
        obtain ⟨x, hx, rfl⟩ := List.mem_map.1 hg
        exact V.lb x hx
      · intro g hg
        obtain ⟨x, hx, rfl⟩ := List.mem_map.1 hg
        exact R1 x (hp.mem_iff.2 hx)
    have V3 := V2.set_d false D.lives
    refine ⟨κ', ((e0.mono fun c h => h.elim).trans (eK.mono fun c h => h.1)).trans (ext_d (Ext.set kd _)), G.map (fun g => { g with F := g.F.crash keep torn }), r, clk, ?_⟩
    have ef : nF (G.map fun g => { g with F := g.F.crash keep torn }) = D.files.map fun x => (x.1, x.2.crash keep torn) := by
      rw [V.files, nF, List.map_map, List.map_map]; rfl
    unfold crashF
    rw [← ef]
    exact V3
  · intro e he
    obtain ⟨A, g, B, rfl, rfl⟩ := left_mem hp V.nb he
    have hg : g ∈ G := hp.mem_iff.1 (by simp)
    rw [seen_push]
    have e1 := Ext.set (H := K) kbK (.obj (.mapIter (some r) clk ((done ++ [g]).map (·.born)).toArray clk))
    have qb1 : (K.set b (.obj (.mapIter (some r) clk ((done ++ [g]).map (·.born)).toArray clk))) b = some (.obj (.mapIter (some r) clk ((done ++ [g]).map (·.born)).toArray clk)) := Heap.set_self _ _ _
    generalize (K.set b (.obj (.mapIter (some r) clk ((done ++ [g]).map (·.born)).toArray clk))) = K1 at e1 qb1 ⊢
    have eK1 := eK.trans (e1.mono (ds := fun c => c.1 = d ∧ ¬ (c.2.2 = 4 ∨ c.2.2 = 5)) fun c h => by subst h; simp)
    obtain ⟨qr1, kr1⟩ := e1.blk kr (by simp) qr
    have maK1 : mapAt K1 r = some ((G.map GFile.e).toArray, clk) := by simp [mapAt, qr1]
    have en : entryV K1 (.pointer (some ⟨b, 0, none⟩)) = some (.tuple #[g.e.key, g.e.val]) := by
      refine entryV_map (en := g.e) (c0 := clk) (m := r) (since := clk) (seen := (done.map (·.born)).toArray) ?_ maK1 (by simpa using List.mem_map_of_mem hg) (born_nd V.nb)
      rw [qb1, seen_push]
    simp -implicitDefEqProofs only [zB1,zB2,zB3,zB4,zB5,zB6,zB7,zB8,zB9,zB10,zB11,y00,y01,y02,y03,y04,y05,y06,y07,y08,y09,y0a,y0b,y0c,y0d,y0e,y0f,y0g,y0h,y0i,y0j,y0k,y0l,y0m,y0n,y0o,y0p,y0q,y0r,y0s,y0t,y0u,y0v,y0w,y0x,y0y,y0z,y10,y11,y12,y13,y14,y15,y16,y17,y18,y19,y1a,y1b,y1c,y1d,y1e,y1f,y1g,y1h,y1i,y1j,y1k,y1l,y1m,y1n,y1o,y1p,y1q,y1r,retO,retL,retV,z6i,allV,allP,z6j,z6m,z6n,z6t,z6u,z6v,binV,eqV,unV,oOpt,reduceIte,reduceCtorEq,Nat.reduceEqDiff,Nat.reduceAdd,Nat.reduceMul,Nat.reduceLT,Nat.reduceSub,Int.reduceLT,Int.reduceLE,Int.reduceEq,Int.reduceNe,Int.reduceSub,Int.reduceAdd,Int.reduceMul,Int.reduceBEq,Int.reduceBNe,Int.reduceGT,Int.reduceGE,Nat.reduceGT,Int.reduceToNat,Int.reduceNeg,Nat.reduceLeDiff,Nat.reduceBEq,Nat.reduceBneDiff,Value.cells, en]
    have okg : g.F.ok := (ok.1 (g.name, g.F) (by rw [V.files]; exact List.mem_map_of_mem hg)).1
    have S1 : ∀ x F, FileR κ' K d x F → FileR κ' K1 d x F := fun x F h => h.ext e1 fun r hr q => by simp at q; omega
    refine (file_crash_c E (S1 _ _ (R2 g (by simp))) okg keep torn).mono ?_
    rintro v K2 ⟨κ2, e2, Rg⟩
    simp -implicitDefEqProofs only [zB1,zB2,zB3,zB4,zB5,zB6,zB7,zB8,zB9,zB10,zB11,y00,y01,y02,y03,y04,y05,y06,y07,y08,y09,y0a,y0b,y0c,y0d,y0e,y0f,y0g,y0h,y0i,y0j,y0k,y0l,y0m,y0n,y0o,y0p,y0q,y0r,y0s,y0t,y0u,y0v,y0w,y0x,y0y,y0z,y10,y11,y12,y13,y14,y15,y16,y17,y18,y19,y1a,y1b,y1c,y1d,y1e,y1f,y1g,y1h,y1i,y1j,y1k,y1l,y1m,y1n,y1o,y1p,y1q,y1r,retO,retL,retV,z6i,allV,allP,z6j,z6m,z6n,z6t,z6u,z6v,binV,eqV,unV,oOpt,reduceIte,reduceCtorEq,Nat.reduceEqDiff,Nat.reduceAdd,Nat.reduceMul,Nat.reduceLT,Nat.reduceSub,Int.reduceLT,Int.reduceLE,Int.reduceEq,Int.reduceNe,Int.reduceSub,Int.reduceAdd,Int.reduceMul,Int.reduceBEq,Int.reduceBNe,Int.reduceGT,Int.reduceGE,Nat.reduceGT,Int.reduceToNat,Int.reduceNeg,Nat.reduceLeDiff,Nat.reduceBEq,Nat.reduceBneDiff,Value.cells]
    have nfp : ((done ++ (A ++ g :: B)).map (·.f)).Nodup := (hp.map _).nodup_iff.2 V.nf
    have nfp2 : (((done ++ A) ++ g :: B).map (·.f)).Nodup := by rw [List.append_assoc]; exact nfp
    have nn := sub_new (·.f) nfp2
    obtain ⟨qb2, kb2⟩ := e2.blk (κ := κ') kbK (fun q => by have := q.2.2; simp at this) qb1
    have S2 : ∀ x ∈ (done ++ A) ++ B, ∀ F, FileR κ' K1 d x.f F → FileR κ2 K2 d x.f F := fun x hx F h => h.ext e2 fun r hr q => nn x hx q.2.1
    refine ⟨_, ?_, done ++ [g], A ++ B, κ2, perm_step hp, rfl, eK1.trans (e2.mono fun c h => ⟨h.1, by have := h.2.2; omega⟩), kb2, qb2, ?_, ?_⟩
    · simp
    · intro x hx
      rcases List.mem_append.1 hx with hx | hx
      · exact S2 x (by simp [hx]) _ (S1 _ _ (R1 x hx))
      · rw [List.mem_singleton] at hx; subst hx; exact Rg
    · intro x hx
      refine S2 x ?_ _ (S1 _ _ (R2 x (sub_mem hx)))
      rcases List.mem_append.1 hx with hx | hx <;> simp [hx]
end Go.Bb
/- Laws on disks: what all share. -/
namespace Go.Bb
set_option linter.unusedSimpArgs false
set_option linter.unusedVariables false
set_option maxRecDepth 100000
set_option maxHeartbeats 2000000

/-- What was there at first is there still, and has no colour. -/
def Base (h : Heap) (κ : Pal) (H : Heap) : Prop := ∀ b x, h b = some x → H b = some x ∧ κ b = none
theorem Base.start (h : Heap) : Base h (fun _ => none) h := fun b x q => ⟨q, rfl⟩
theorem Base.ext {h : Heap} {κ κ' : Pal} {H H' : Heap} {cs : Col → Prop} (B : Base h κ H) (e : Ext cs κ H κ' H') : Base h κ' H' := fun b x q => by
  obtain ⟨h1, h2⟩ := B b x q
  exact e.plain h2 h1
theorem Base.le {h : Heap} {κ : Pal} {H : Heap} (B : Base h κ H) : h.le H := fun b x q => (B b x q).1
theorem SlL.at {h : Heap} {base : Option Addr} {c : Nat} {L : List (List UInt8)} (s : SlL h (.slice base L.length c) L) (i : Nat) (hi : i < L.length) :
    ∃ b o bi ci, base = some ⟨b, o, none⟩ ∧ SlB h (.slice bi L[i].length ci) L[i] ∧ ∀ H, h.le H → hcell H ⟨b, o + i, none⟩ = some (.slice bi L[i].length ci) := by
  obtain ⟨vs, hv, sl, el⟩ := s
  obtain ⟨b, o, c', e, hc, hcl⟩ := sl.ptr (by omega) (by omega)
  simp only [Value.slice.injEq, true_and] at e
  have si := el i (by omega) hi
  obtain ⟨bi, ci, ei⟩ := Sl.shape si
  rw [ei] at si
  refine ⟨b, o, bi, ci, e.1, si, fun H le => ?_⟩
  rw [Nat.mul_one] at hcl
  rw [hcell_of (hcells_le le hcl) i hi, List.getElem?_eq_getElem (by omega), ei]
theorem size_le {L : Files} {x : List UInt8 × FileF} (h : x ∈ L) : x.2.size ≤ sizeF L := by
  induction L with
  | nil => cases h
  | cons y L ih =>
    simp only [sizeF, List.map_cons, List.sum_cons] at ih ⊢
    rcases List.mem_cons.1 h with rfl | h
    · omega
    · have := ih h; omega
theorem ask1 {D : DiskF} {s : List UInt8} (on : D.on = true) (g : goodName s = true) : askF D [s] = 0 := by
  unfold askF; rw [if_pos on, if_pos (by simp [g])]
end Go.Bb
/- Contracts: records added to a journal. -/
namespace Go.Bb
set_option linter.unusedSimpArgs false
set_option linter.unusedVariables false
set_option maxRecDepth 20000
set_option maxHeartbeats 2000000

/-- A disk that fits, of at most n writes a file. -/
def DiskF.okW (D : DiskF) (n : Nat) : Prop := (∀ x ∈ D.files, x.2.writes.length ≤ n ∧ x.1.length ≤ 20) ∧ (sizeF D.files : Int) ≤ D.room ∧ D.room ≤ 1048576
theorem DiskF.okW.ok {D : DiskF} {n : Nat} (h : D.okW n) (hn : n ≤ 100000) : D.ok := by
  obtain ⟨h1, h2, h3⟩ := h
  refine ⟨fun x hx => ⟨⟨by have := (h1 x hx).1; omega, ?_⟩, (h1 x hx).2⟩, by omega, h3, by omega⟩
  have := size_le hx
  unfold FileF.size at this
  omega
theorem DiskF.okW.mono {D : DiskF} {n m : Nat} (h : D.okW n) (hn : n ≤ m) : D.okW m := ⟨fun x hx => ⟨by have := (h.1 x hx).1; omega, (h.1 x hx).2⟩, h.2⟩
theorem size_snoc (A B : Files) : sizeF (A ++ B) = sizeF A + sizeF B := by simp [sizeF]
theorem turn_size {L : Files} {s : List UInt8} {F F' : FileF} {k : Nat} (nd : (L.map (·.1)).Nodup) (hl : lookF L s = some F) (hF : F'.size = F.size + k) : sizeF (turnF' L s F') = sizeF L + k := by
  induction L with
  | nil => simp [lookF] at hl
  | cons x L ih =>
    rw [List.map_cons, List.nodup_cons] at nd
    by_cases e : x.1 = s
    · subst e
      have : x.2 = F := by simpa [lookF] using hl
      subst this
      have hL : turnF' L x.1 F' = L := by
        unfold turnF'
        conv => rhs; rw [← List.map_id L]
        apply List.map_congr_left
        intro y hy
        rw [if_neg]
        · rfl
        · intro q; exact nd.1 (by rw [← q]; exact List.mem_map_of_mem hy)
      have : turnF' (x :: L) x.1 F' = (x.1, F') :: turnF' L x.1 F' := by simp [turnF']
      rw [this, hL]
      simp only [sizeF, List.map_cons, List.sum_cons, hF]
      omega
    · have hl' : lookF L s = some F := by
        simpa [lookF, List.find?_cons, e] using hl
      have h1 := ih nd.2 hl'
      have : turnF' (x :: L) s F' = x :: turnF' L s F' := by simp [turnF', e]
      rw [this]
      simp only [sizeF, List.map_cons, List.sum_cons] at h1 ⊢
      omega
/-- Names once each. -/
def DiskF.nd (D : DiskF) : Prop := (D.files.map (·.1)).Nodup
theorem DiskR.nd {κ : Pal} {H : Heap} {d : Nat} {D : DiskF} (R : DiskR κ H d D) : D.nd := by
  obtain ⟨G, r, clk, V⟩ := R
  unfold DiskF.nd
  rw [V.files, List.map_map]
  exact V.nn
theorem write_size (F : FileF) (b : List UInt8) : (writeF F b).size = F.size + b.length := by
  simp [FileF.size, FileF.all, writeF]
  omega
theorem append_ok {D : DiskF} {n : Nat} (h : D.okW n) (nd : D.nd) {s b : List UInt8} (hs : s.length ≤ 20) : (appendF D s b).1.okW (n + 1) := by
  unfold appendF
  split
  · split
    · exact h.mono (by omega)
    · rename_i full
      split
      · refine ⟨?_, ?_, h.2.2⟩
        · intro x hx
          rcases List.mem_append.1 hx with hx | hx
          · have := h.1 x hx; exact ⟨by omega, this.2⟩
          · rw [List.mem_singleton] at hx; subst hx; exact ⟨by simp, hs⟩
        · show ((sizeF (D.files ++ [(s, ⟨[], [b]⟩)]) : Nat) : Int) ≤ D.room
          rw [size_snoc]
          simp only [sizeF, List.map_cons, List.map_nil, List.sum_cons, List.sum_nil, FileF.size, FileF.all, List.nil_append, List.flatten_singleton] at full ⊢
          omega
      · rename_i F hF
        refine ⟨?_, ?_, h.2.2⟩
        · intro x hx
          obtain ⟨y, hy, rfl⟩ := List.mem_map.1 hx
          have := h.1 y hy
          split
          · have hF' : ∃ y ∈ D.files, y.2 = F := by
              unfold lookF at hF
              obtain ⟨z, hz, rfl⟩ := Option.map_eq_some_iff.1 hF
              exact ⟨z, List.mem_of_find?_eq_some hz, rfl⟩
            obtain ⟨z, hz, rfl⟩ := hF'
            have h2 := h.1 z hz
            exact ⟨by simp [writeF]; omega, this.2⟩
          · exact ⟨by omega, this.2⟩
        · show ((sizeF (turnF' D.files s (writeF F b)) : Nat) : Int) ≤ D.room
          rw [turn_size nd hF (write_size F b)]
          omega
  · exact h.mono (by omega)

def addL (nm : List UInt8) : List (List UInt8) → DiskF → Bool → DiskF × Nat × Bool
  | [], D, w => (D, 0, w)
  | b :: L, D, w => if (appendF D nm (frameF b)).2 = 0 then addL nm L (appendF D nm (frameF b)).1 true else ((appendF D nm (frameF b)).1, (appendF D nm (frameF b)).2, w)
def addF (J : JF) (D : DiskF) (L : List (List UInt8)) : JF × DiskF × Nat :=
  if doneF J D then (J, D, 7)
  else if L.any (fun b => decide (16384 < b.length)) then (J, D, 2)
  else if (addL (nameF J.turn J.part) L D J.written).2.1 = 0 then ({ J with written := (addL (nameF J.turn J.part) L D J.written).2.2, recs := J.recs ++ L }, (addL (nameF J.turn J.part) L D J.written).1, 0)
  else ({ J with written := (addL (nameF J.turn J.part) L D J.written).2.2, full := true }, (addL (nameF J.turn J.part) L D J.written).1, (addL (nameF J.turn J.part) L D J.written).2.1)
def jdC (j d : Nat) : Col → Prop := fun c => c.1 = j ∨ c.1 = d
theorem ext_jd {κ κ' : Pal} {H H' : Heap} {j d : Nat} (h : Ext (jouC j) κ H κ' H') : Ext (jdC j d) κ H κ' H' := h.mono fun c e => .inl e
theorem ext_dj {κ κ' : Pal} {H H' : Heap} {j d : Nat} (h : Ext (diskC d) κ H κ' H') : Ext (jdC j d) κ H κ' H' := h.mono fun c e => .inr e

/-- What is put behind the records. -/
theorem jou_write {κ : Pal} {G : Heap} {j d : Nat} {J : JF} {vb vr xv wv : Value} {rs : List Value} {l : List UInt8} {K : Value → Heap → Prop} (R : JouV κ G j d J vb vr rs) (x : Sl G 1 xv 1 [wv]) (ow : OwK κ (j, j, 10) G 1 wv l.length (l.map u8V)) (hb : J.recs.length ≤ 1000000000)
    (hk : ∀ v G', storeV G' 1 (.pointer (some ⟨j, 6, none⟩)) v = some (G'.set j (.own 0 [ptrV d, .int .i64 J.lives, .int .u64 (J.turn : Nat), .int .i64 (J.part : Nat), .bool J.written, vb, v, .bool J.full] 8)) →
      (∃ base c, v = .slice base (J.recs.length + 1) c) → (∃ κ', Ext (jouC j) κ G κ' (G'.set j (.own 0 [ptrV d, .int .i64 J.lives, .int .u64 (J.turn : Nat), .int .i64 (J.part : Nat), .bool J.written, vb, v, .bool J.full] 8)) ∧ JouR κ' (G'.set j (.own 0 [ptrV d, .int .i64 J.lives, .int .u64 (J.turn : Nat), .int .i64 (J.part : Nat), .bool J.written, vb, v, .bool J.full] 8)) j d { J with recs := J.recs ++ [l] }) → K v G') : appendP 1 24 G vr xv K := by
  obtain ⟨k, q, s1, s2, hl, s3⟩ := R
  have ho : [wv].all one = true := by
    obtain ⟨b, c, rfl⟩ := Sl.shape ow.sl
    rfl
  refine appendP_ow (Heap.but_le G κ (j, j, 9)) (by omega) s2 x ho (by omega) (by omega) ?_
  intro v G' o le
  have e1 := Ext.grow le
  obtain ⟨q', k'⟩ := e1.blk k (by simp) q
  obtain ⟨vb', vc', rfl⟩ := Sl.shape o.sl
  have e2 := Ext.set (H := G') k' (.own 0 [ptrV d, .int .i64 J.lives, .int .u64 (J.turn : Nat), .int .i64 (J.part : Nat), .bool J.written, vb, .slice vb' (J.recs.length + 1) vc', .bool J.full] 8)
  refine hk _ G' (storeV_one_at q' rfl (by simp) (by simp)) ⟨vb', vc', rfl⟩ ⟨κ.grow G (j, j, 9), (ext_j e1).trans (ext_j e2), vb, _, rs ++ [wv], k', Heap.set_self _ _ _, e2.own (by simp) (e1.own (by simp) s1), ?_, ?_, ?_⟩
  · refine e2.own (by simp) ?_
    have := OwK.grown o
    simpa using this
  · simp [hl]
  · intro i h1 h2
    refine e2.own (by simp) (e1.own (by simp) ?_)
    by_cases hi : i < rs.length
    · have hi2 : i < J.recs.length := by omega
      have := s3 i hi hi2
      simp only [List.getElem_append_left hi, List.getElem_append_left hi2]
      exact this
    · have : i = rs.length := by
        simp at h1; omega
      subst this
      have e3 : (rs ++ [wv])[rs.length]'h1 = wv := by simp
      have e4 : (J.recs ++ [l])[rs.length]'h2 = l := by
        rw [List.getElem_append_right (by omega)]
        simp [hl]
      rw [e3, e4]; exact ow

theorem journal_Add_c (E : EnvT tab) {κ : Pal} {H : Heap} {j d : Nat} {J : JF} {D : DiskF} {n : Nat} (R : JouR κ H j d J) (RD : DiskR κ H d D) (ne : d ≠ j) (ok : D.okW n) (ht : J.turn < 64) (hp : J.part < 64) {vL : Value} (L : List (List UInt8)) (sL : SlL (H.bare κ) vL L) (hn : n + L.length ≤ 100000) (hr : J.recs.length + L.length ≤ 100000) :
    ACallN E.toEnv n_journal_Journal_Add [ptrV j, vL] H fun r H' => r = .int .i64 ((addF J D L).2.2 : Nat) ∧ ∃ κ', Ext (jdC j d) κ H κ' H' ∧ JouR κ' H' j d (addF J D L).1 ∧ DiskR κ' H' d (addF J D L).2.1 := by
  obtain ⟨Lb, Lc, rfl⟩ := sL.shape
  refine acall h_journal_Journal_Add ir_journal_Journal_Add rfl rfl (wpA_sound ?_)
  unfold ir_journal_Journal_Add
  simp -implicitDefEqProofs only [zB1,zB2,zB3,zB4,zB5,zB6,zB7,zB8,zB9,zB10,zB11,y00,y01,y02,y03,y04,y05,y06,y07,y08,y09,y0a,y0b,y0c,y0d,y0e,y0f,y0g,y0h,y0i,y0j,y0k,y0l,y0m,y0n,y0o,y0p,y0q,y0r,y0s,y0t,y0u,y0v,y0w,y0x,y0y,y0z,y10,y11,y12,y13,y14,y15,y16,y17,y18,y19,y1a,y1b,y1c,y1d,y1e,y1f,y1g,y1h,y1i,y1j,y1k,y1l,y1m,y1n,y1o,y1p,y1q,y1r,retO,retL,retV,z6i,allV,allP,z6j,z6m,z6n,z6t,z6u,z6v,binV,eqV,unV,oOpt,reduceIte,reduceCtorEq,Nat.reduceEqDiff,Nat.reduceAdd,Nat.reduceMul,Nat.reduceLT,Nat.reduceSub,Int.reduceLT,Int.reduceLE,Int.reduceEq,Int.reduceNe,Int.reduceSub,Int.reduceAdd,Int.reduceMul,Int.reduceBEq,Int.reduceBNe,Int.reduceGT,Int.reduceGE,Nat.reduceGT,Int.reduceToNat,Int.reduceNeg,Nat.reduceLeDiff,Nat.reduceBEq,Nat.reduceBneDiff,Value.cells]
  refine (journal_Done_c E R RD).mono ?_
  rintro v H1 ⟨rfl, rfl⟩
  unfold addF
  by_cases dn : doneF J D = true
  · simp -implicitDefEqProofs only [zB1,zB2,zB3,zB4,zB5,zB6,zB7,zB8,zB9,zB10,zB11,y00,y01,y02,y03,y04,y05,y06,y07,y08,y09,y0a,y0b,y0c,y0d,y0e,y0f,y0g,y0h,y0i,y0j,y0k,y0l,y0m,y0n,y0o,y0p,y0q,y0r,y0s,y0t,y0u,y0v,y0w,y0x,y0y,y0z,y10,y11,y12,y13,y14,y15,y16,y17,y18,y19,y1a,y1b,y1c,y1d,y1e,y1f,y1g,y1h,y1i,y1j,y1k,y1l,y1m,y1n,y1o,y1p,y1q,y1r,retO,retL,retV,z6i,allV,allP,z6j,z6m,z6n,z6t,z6u,z6v,binV,eqV,unV,oOpt,reduceIte,reduceCtorEq,Nat.reduceEqDiff,Nat.reduceAdd,Nat.reduceMul,Nat.reduceLT,Nat.reduceSub,Int.reduceLT,Int.reduceLE,Int.reduceEq,Int.reduceNe,Int.reduceSub,Int.reduceAdd,Int.reduceMul,Int.reduceBEq,Int.reduceBNe,Int.reduceGT,Int.reduceGE,Nat.reduceGT,Int.reduceToNat,Int.reduceNeg,Nat.reduceLeDiff,Nat.reduceBEq,Nat.reduceBneDiff,Value.cells, dn]
    exact ⟨κ, Ext.refl _ _ _, R, RD⟩
  simp -implicitDefEqProofs only [zB1,zB2,zB3,zB4,zB5,zB6,zB7,zB8,zB9,zB10,zB11,y00,y01,y02,y03,y04,y05,y06,y07,y08,y09,y0a,y0b,y0c,y0d,y0e,y0f,y0g,y0h,y0i,y0j,y0k,y0l,y0m,y0n,y0o,y0p,y0q,y0r,y0s,y0t,y0u,y0v,y0w,y0x,y0y,y0z,y10,y11,y12,y13,y14,y15,y16,y17,y18,y19,y1a,y1b,y1c,y1d,y1e,y1f,y1g,y1h,y1i,y1j,y1k,y1l,y1m,y1n,y1o,y1p,y1q,y1r,retO,retL,retV,z6i,allV,allP,z6j,z6m,z6n,z6t,z6u,z6v,binV,eqV,unV,oOpt,reduceIte,reduceCtorEq,Nat.reduceEqDiff,Nat.reduceAdd,Nat.reduceMul,Nat.reduceLT,Nat.reduceSub,Int.reduceLT,Int.reduceLE,Int.reduceEq,Int.reduceNe,Int.reduceSub,Int.reduceAdd,Int.reduceMul,Int.reduceBEq,Int.reduceBNe,Int.reduceGT,Int.reduceGE,Nat.reduceGT,Int.reduceToNat,Int.reduceNeg,Nat.reduceLeDiff,Nat.reduceBEq,Nat.reduceBneDiff,Value.cells, dn]
  refine wp_loop' (fun m t G => G = H1 ∧ ∃ i : Nat, t = tl [(0, ptrV j), (1, .slice Lb L.length Lc), (14, .slice Lb L.length Lc), (15, .int .i64 L.length), (16, .int .i64 i)] ∧ i ≤ L.length ∧ m = L.length - i ∧ (L.take i).any (fun b => decide (16384 < b.length)) = false) L.length
    ⟨rfl, 0, rfl, by omega, by omega, by simp⟩ ?_
  rintro m t G ⟨rfl, i, rfl, hi, rfl, ha⟩
  by_cases hlt : i < L.length
  · have hi1 : (i : Int) < L.length := by omega
    have hi2 : (0 : Int) ≤ i := by omega
    have w1 : IntKind.i64.wrap ((i : Int) + 1) = ((i + 1 : Nat) : Int) := wrapN (by omega)
    obtain ⟨b, o, bi, ci, rfl, si, ciH⟩ := sL.at' i hlt
    have c1 := ciH G (Heap.bare_le _ _)
    by_cases g : 16384 < L[i].length
    · have g' : (16384 : Int) < L[i].length := by omega
      have an : L.any (fun b => decide (16384 < b.length)) = true := by
        rw [List.any_eq_true]
        exact ⟨L[i], List.getElem_mem hlt, by simpa using g⟩
      simp -implicitDefEqProofs only [zB1,zB2,zB3,zB4,zB5,zB6,zB7,zB8,zB9,zB10,zB11,y00,y01,y02,y03,y04,y05,y06,y07,y08,y09,y0a,y0b,y0c,y0d,y0e,y0f,y0g,y0h,y0i,y0j,y0k,y0l,y0m,y0n,y0o,y0p,y0q,y0r,y0s,y0t,y0u,y0v,y0w,y0x,y0y,y0z,y10,y11,y12,y13,y14,y15,y16,y17,y18,y19,y1a,y1b,y1c,y1d,y1e,y1f,y1g,y1h,y1i,y1j,y1k,y1l,y1m,y1n,y1o,y1p,y1q,y1r,retO,retL,retV,z6i,allV,allP,z6j,z6m,z6n,z6t,z6u,z6v,binV,eqV,unV,oOpt,reduceIte,reduceCtorEq,Nat.reduceEqDiff,Nat.reduceAdd,Nat.reduceMul,Nat.reduceLT,Nat.reduceSub,Int.reduceLT,Int.reduceLE,Int.reduceEq,Int.reduceNe,Int.reduceSub,Int.reduceAdd,Int.reduceMul,Int.reduceBEq,Int.reduceBNe,Int.reduceGT,Int.reduceGE,Nat.reduceGT,Int.reduceToNat,Int.reduceNeg,Nat.reduceLeDiff,Nat.reduceBEq,Nat.reduceBneDiff,Value.cells, hi1, hi2, Int.toNat_natCast, c1, g', an]
      exact ⟨κ, Ext.refl _ _ _, R, RD⟩
    · have g' : ¬ (16384 : Int) < L[i].length := by omega
      simp -implicitDefEqProofs only [zB1,zB2,zB3,zB4,zB5,zB6,zB7,zB8,zB9,zB10,zB11,y00,y01,y02,y03,y04,y05,y06,y07,y08,y09,y0a,y0b,y0c,y0d,y0e,y0f,y0g,y0h,y0i,y0j,y0k,y0l,y0m,y0n,y0o,y0p,y0q,y0r,y0s,y0t,y0u,y0v,y0w,y0x,y0y,y0z,y10,y11,y12,y13,y14,y15,y16,y17,y18,y19,y1a,y1b,y1c,y1d,y1e,y1f,y1g,y1h,y1i,y1j,y1k,y1l,y1m,y1n,y1o,y1p,y1q,y1r,retO,retL,retV,z6i,allV,allP,z6j,z6m,z6n,z6t,z6u,z6v,binV,eqV,unV,oOpt,reduceIte,reduceCtorEq,Nat.reduceEqDiff,Nat.reduceAdd,Nat.reduceMul,Nat.reduceLT,Nat.reduceSub,Int.reduceLT,Int.reduceLE,Int.reduceEq,Int.reduceNe,Int.reduceSub,Int.reduceAdd,Int.reduceMul,Int.reduceBEq,Int.reduceBNe,Int.reduceGT,Int.reduceGE,Nat.reduceGT,Int.reduceToNat,Int.reduceNeg,Nat.reduceLeDiff,Nat.reduceBEq,Nat.reduceBneDiff,Value.cells, hi1, hi2, Int.toNat_natCast, c1, g', w1]
      refine ⟨_, ?_, i + 1, rfl, by omega, rfl, ?_⟩
      · omega
      · rw [List.take_succ_eq_append_getElem hlt, List.any_append, ha]; simpa using g
  have hi1 : ¬ (i : Int) < L.length := by omega
  have e0 : i = L.length := by omega
  subst e0
  rw [List.take_length] at ha
  have hlen : ∀ b ∈ L, b.length ≤ 16384 := by
    intro b hb
    rw [List.any_eq_false] at ha
    have := ha b hb
    simpa using this
  simp only [ha]
  simp -implicitDefEqProofs only [zB1,zB2,zB3,zB4,zB5,zB6,zB7,zB8,zB9,zB10,zB11,y00,y01,y02,y03,y04,y05,y06,y07,y08,y09,y0a,y0b,y0c,y0d,y0e,y0f,y0g,y0h,y0i,y0j,y0k,y0l,y0m,y0n,y0o,y0p,y0q,y0r,y0s,y0t,y0u,y0v,y0w,y0x,y0y,y0z,y10,y11,y12,y13,y14,y15,y16,y17,y18,y19,y1a,y1b,y1c,y1d,y1e,y1f,y1g,y1h,y1i,y1j,y1k,y1l,y1m,y1n,y1o,y1p,y1q,y1r,retO,retL,retV,z6i,allV,allP,z6j,z6m,z6n,z6t,z6u,z6v,binV,eqV,unV,oOpt,reduceIte,reduceCtorEq,Nat.reduceEqDiff,Nat.reduceAdd,Nat.reduceMul,Nat.reduceLT,Nat.reduceSub,Int.reduceLT,Int.reduceLE,Int.reduceEq,Int.reduceNe,Int.reduceSub,Int.reduceAdd,Int.reduceMul,Int.reduceBEq,Int.reduceBNe,Int.reduceGT,Int.reduceGE,Nat.reduceGT,Int.reduceToNat,Int.reduceNeg,Nat.reduceLeDiff,Nat.reduceBEq,Nat.reduceBneDiff,Value.cells, hi1]
  unfold ir_journal_Journal_Add_24
  simp -implicitDefEqProofs only [zB1,zB2,zB3,zB4,zB5,zB6,zB7,zB8,zB9,zB10,zB11,y00,y01,y02,y03,y04,y05,y06,y07,y08,y09,y0a,y0b,y0c,y0d,y0e,y0f,y0g,y0h,y0i,y0j,y0k,y0l,y0m,y0n,y0o,y0p,y0q,y0r,y0s,y0t,y0u,y0v,y0w,y0x,y0y,y0z,y10,y11,y12,y13,y14,y15,y16,y17,y18,y19,y1a,y1b,y1c,y1d,y1e,y1f,y1g,y1h,y1i,y1j,y1k,y1l,y1m,y1n,y1o,y1p,y1q,y1r,retO,retL,retV,z6i,allV,allP,z6j,z6m,z6n,z6t,z6u,z6v,binV,eqV,unV,oOpt,reduceIte,reduceCtorEq,Nat.reduceEqDiff,Nat.reduceAdd,Nat.reduceMul,Nat.reduceLT,Nat.reduceSub,Int.reduceLT,Int.reduceLE,Int.reduceEq,Int.reduceNe,Int.reduceSub,Int.reduceAdd,Int.reduceMul,Int.reduceBEq,Int.reduceBNe,Int.reduceGT,Int.reduceGE,Nat.reduceGT,Int.reduceToNat,Int.reduceNeg,Nat.reduceLeDiff,Nat.reduceBEq,Nat.reduceBneDiff,Value.cells]
  refine wp_loop' (fun m t K => ∃ (i : Nat) (κ' : Pal) (Di : DiskF) (wi : Bool), t = tl [(0, ptrV j), (1, .slice Lb L.length Lc), (24, .slice Lb L.length Lc), (25, .int .i64 L.length), (26, .int .i64 i)] ∧ i ≤ L.length ∧ m = L.length - i ∧
      Ext (jdC j d) κ G κ' K ∧ JouR κ' K j d { J with written := wi } ∧ DiskR κ' K d Di ∧ Di.okW (n + i) ∧ addL (nameF J.turn J.part) L D J.written = addL (nameF J.turn J.part) (L.drop i) Di wi) L.length
    ⟨0, κ, D, J.written, rfl, by omega, by omega, Ext.refl _ _ _, R, RD, ok, rfl⟩ ?_
  rintro m t K ⟨i, κ', Di, wi, rfl, hi, rfl, eK, RK, RDK, okK, eA⟩
  have sLK := eK.bare
  by_cases hlt : i < L.length
  · have hi1 : (i : Int) < L.length := by omega
    have hi2 : (0 : Int) ≤ i := by omega
    have w1 : IntKind.i64.wrap ((i : Int) + 1) = ((i + 1 : Nat) : Int) := wrapN (by omega)
    obtain ⟨b, o, bi, ci, rfl, si, ciH⟩ := sL.at' i hlt
    have c1 := ciH K (Heap.le_trans sLK (Heap.bare_le _ _))
    have hli := hlen _ (List.getElem_mem hlt)
    obtain ⟨vb, vr, rs, RV⟩ := RK
    have q := RV.2.1
    have j0 : ∀ M, K.le M → hcell M ⟨j, 0, none⟩ = some (ptrV d) := fun M x => by rw [hcell_at (x _ _ q) (by simp)]; rfl
    have j2 : hcell K ⟨j, 2, none⟩ = some (.int .u64 (J.turn : Nat)) := by rw [hcell_at q (by simp)]; rfl
    have j3 : hcell K ⟨j, 3, none⟩ = some (.int .i64 (J.part : Nat)) := by rw [hcell_at q (by simp)]; rfl
    have j00 := j0 K (Heap.le_refl _)
    simp -implicitDefEqProofs only [zB1,zB2,zB3,zB4,zB5,zB6,zB7,zB8,zB9,zB10,zB11,y00,y01,y02,y03,y04,y05,y06,y07,y08,y09,y0a,y0b,y0c,y0d,y0e,y0f,y0g,y0h,y0i,y0j,y0k,y0l,y0m,y0n,y0o,y0p,y0q,y0r,y0s,y0t,y0u,y0v,y0w,y0x,y0y,y0z,y10,y11,y12,y13,y14,y15,y16,y17,y18,y19,y1a,y1b,y1c,y1d,y1e,y1f,y1g,y1h,y1i,y1j,y1k,y1l,y1m,y1n,y1o,y1p,y1q,y1r,retO,retL,retV,z6i,allV,allP,z6j,z6m,z6n,z6t,z6u,z6v,binV,eqV,unV,oOpt,reduceIte,reduceCtorEq,Nat.reduceEqDiff,Nat.reduceAdd,Nat.reduceMul,Nat.reduceLT,Nat.reduceSub,Int.reduceLT,Int.reduceLE,Int.reduceEq,Int.reduceNe,Int.reduceSub,Int.reduceAdd,Int.reduceMul,Int.reduceBEq,Int.reduceBNe,Int.reduceGT,Int.reduceGE,Nat.reduceGT,Int.reduceToNat,Int.reduceNeg,Nat.reduceLeDiff,Nat.reduceBEq,Nat.reduceBneDiff,Value.cells, hi1, hi2, Int.toNat_natCast, c1]
    unfold ir_journal_Journal_Add_34
    simp -implicitDefEqProofs only [zB1,zB2,zB3,zB4,zB5,zB6,zB7,zB8,zB9,zB10,zB11,y00,y01,y02,y03,y04,y05,y06,y07,y08,y09,y0a,y0b,y0c,y0d,y0e,y0f,y0g,y0h,y0i,y0j,y0k,y0l,y0m,y0n,y0o,y0p,y0q,y0r,y0s,y0t,y0u,y0v,y0w,y0x,y0y,y0z,y10,y11,y12,y13,y14,y15,y16,y17,y18,y19,y1a,y1b,y1c,y1d,y1e,y1f,y1g,y1h,y1i,y1j,y1k,y1l,y1m,y1n,y1o,y1p,y1q,y1r,retO,retL,retV,z6i,allV,allP,z6j,z6m,z6n,z6t,z6u,z6v,binV,eqV,unV,oOpt,reduceIte,reduceCtorEq,Nat.reduceEqDiff,Nat.reduceAdd,Nat.reduceMul,Nat.reduceLT,Nat.reduceSub,Int.reduceLT,Int.reduceLE,Int.reduceEq,Int.reduceNe,Int.reduceSub,Int.reduceAdd,Int.reduceMul,Int.reduceBEq,Int.reduceBNe,Int.reduceGT,Int.reduceGE,Nat.reduceGT,Int.reduceToNat,Int.reduceNeg,Nat.reduceLeDiff,Nat.reduceBEq,Nat.reduceBneDiff,Value.cells, j2, j3]
    refine (journal_name_c E K J.turn J.part ht hp).mono ?_
    rintro v K1 ⟨le1, rfl⟩
    have j01 := j0 K1 le1
    simp -implicitDefEqProofs only [zB1,zB2,zB3,zB4,zB5,zB6,zB7,zB8,zB9,zB10,zB11,y00,y01,y02,y03,y04,y05,y06,y07,y08,y09,y0a,y0b,y0c,y0d,y0e,y0f,y0g,y0h,y0i,y0j,y0k,y0l,y0m,y0n,y0o,y0p,y0q,y0r,y0s,y0t,y0u,y0v,y0w,y0x,y0y,y0z,y10,y11,y12,y13,y14,y15,y16,y17,y18,y19,y1a,y1b,y1c,y1d,y1e,y1f,y1g,y1h,y1i,y1j,y1k,y1l,y1m,y1n,y1o,y1p,y1q,y1r,retO,retL,retV,z6i,allV,allP,z6j,z6m,z6n,z6t,z6u,z6v,binV,eqV,unV,oOpt,reduceIte,reduceCtorEq,Nat.reduceEqDiff,Nat.reduceAdd,Nat.reduceMul,Nat.reduceLT,Nat.reduceSub,Int.reduceLT,Int.reduceLE,Int.reduceEq,Int.reduceNe,Int.reduceSub,Int.reduceAdd,Int.reduceMul,Int.reduceBEq,Int.reduceBNe,Int.reduceGT,Int.reduceGE,Nat.reduceGT,Int.reduceToNat,Int.reduceNeg,Nat.reduceLeDiff,Nat.reduceBEq,Nat.reduceBneDiff,Value.cells, implies_true]
    refine (journal_frame_c E K1 L[i] (by omega) (si.le (Heap.le_trans sLK (Heap.le_trans (Heap.bare_le _ _) le1)))).mono ?_
    rintro vf K2 ⟨le2, of2⟩
    have le02 := Heap.le_trans le1 le2
    have j02 := j0 K2 le02
    simp -implicitDefEqProofs only [zB1,zB2,zB3,zB4,zB5,zB6,zB7,zB8,zB9,zB10,zB11,y00,y01,y02,y03,y04,y05,y06,y07,y08,y09,y0a,y0b,y0c,y0d,y0e,y0f,y0g,y0h,y0i,y0j,y0k,y0l,y0m,y0n,y0o,y0p,y0q,y0r,y0s,y0t,y0u,y0v,y0w,y0x,y0y,y0z,y10,y11,y12,y13,y14,y15,y16,y17,y18,y19,y1a,y1b,y1c,y1d,y1e,y1f,y1g,y1h,y1i,y1j,y1k,y1l,y1m,y1n,y1o,y1p,y1q,y1r,retO,retL,retV,z6i,allV,allP,z6j,z6m,z6n,z6t,z6u,z6v,binV,eqV,unV,oOpt,reduceIte,reduceCtorEq,Nat.reduceEqDiff,Nat.reduceAdd,Nat.reduceMul,Nat.reduceLT,Nat.reduceSub,Int.reduceLT,Int.reduceLE,Int.reduceEq,Int.reduceNe,Int.reduceSub,Int.reduceAdd,Int.reduceMul,Int.reduceBEq,Int.reduceBNe,Int.reduceGT,Int.reduceGE,Nat.reduceGT,Int.reduceToNat,Int.reduceNeg,Nat.reduceLeDiff,Nat.reduceBEq,Nat.reduceBneDiff,Value.cells, j00, j01, j02, implies_true, List.mem_cons, List.not_mem_nil, List.mem_singleton, or_false, forall_eq, forall_eq_or_imp, and_self]
    have nl : (nameF J.turn J.part).length ≤ 20 := by have := name_good ht hp; unfold goodName at this; simp at this; omega
    refine (disk_Append_c E (RDK.le le02) (okK.ok (by omega)) (nameF J.turn J.part) (by omega) (frameF L[i]) (by rw [frameF_len]; omega) of2.sl).mono ?_
    rintro v K3 ⟨rfl, κ3, e3, R3⟩
    have eK3 := eK.trans ((Ext.le le02).trans (ext_dj e3))
    have RV3 := (RV.ext (Ext.le (cs := fun _ => False) le02) (fun _ _ q => q)).ext e3 fun c h q => ne (by unfold diskC at q; rw [← q, h])
    have ok3 : (appendF Di (nameF J.turn J.part) (frameF L[i])).1.okW (n + i + 1) := append_ok okK RDK.nd nl
    have eD : L.drop i = L[i] :: L.drop (i + 1) := by rw [List.drop_eq_getElem_cons hlt]
    rw [eD, addL] at eA
    generalize appendF Di (nameF J.turn J.part) (frameF L[i]) = X at eA R3 ok3 ⊢
    obtain ⟨D3, er⟩ := X
    by_cases ez : er = 0
    · subst ez
      simp only [if_true] at eA
      have st : storeV K3 1 (.pointer (some ⟨j, 4, none⟩)) (.bool true) = some (K3.set j (.own 0 [ptrV d, .int .i64 J.lives, .int .u64 (J.turn : Nat), .int .i64 (J.part : Nat), .bool true, vb, vr, .bool J.full] 8)) := storeV_one_at RV3.2.1 rfl (by simp) (by simp)
      simp -implicitDefEqProofs only [zB1,zB2,zB3,zB4,zB5,zB6,zB7,zB8,zB9,zB10,zB11,y00,y01,y02,y03,y04,y05,y06,y07,y08,y09,y0a,y0b,y0c,y0d,y0e,y0f,y0g,y0h,y0i,y0j,y0k,y0l,y0m,y0n,y0o,y0p,y0q,y0r,y0s,y0t,y0u,y0v,y0w,y0x,y0y,y0z,y10,y11,y12,y13,y14,y15,y16,y17,y18,y19,y1a,y1b,y1c,y1d,y1e,y1f,y1g,y1h,y1i,y1j,y1k,y1l,y1m,y1n,y1o,y1p,y1q,y1r,retO,retL,retV,z6i,allV,allP,z6j,z6m,z6n,z6t,z6u,z6v,binV,eqV,unV,oOpt,reduceIte,reduceCtorEq,Nat.reduceEqDiff,Nat.reduceAdd,Nat.reduceMul,Nat.reduceLT,Nat.reduceSub,Int.reduceLT,Int.reduceLE,Int.reduceEq,Int.reduceNe,Int.reduceSub,Int.reduceAdd,Int.reduceMul,Int.reduceBEq,Int.reduceBNe,Int.reduceGT,Int.reduceGE,Nat.reduceGT,Int.reduceToNat,Int.reduceNeg,Nat.reduceLeDiff,Nat.reduceBEq,Nat.reduceBneDiff,Value.cells, st, w1]
      have e4 := RV3.put_ext (.own 0 [ptrV d, .int .i64 J.lives, .int .u64 (J.turn : Nat), .int .i64 (J.part : Nat), .bool true, vb, vr, .bool J.full] 8)
      refine ⟨_, ?_, i + 1, κ3, D3, true, rfl, by omega, rfl, eK3.trans (ext_jd e4), ⟨vb, vr, rs, RV3.put J.turn J.part true J.full⟩, R3.off e4 ne.symm, by rw [← Nat.add_assoc]; exact ok3, eA⟩
      omega
    · have ez' : ¬ ((er : Nat) : Int) = 0 := by omega
      simp only [ez, if_false] at eA
      simp -implicitDefEqProofs only [zB1,zB2,zB3,zB4,zB5,zB6,zB7,zB8,zB9,zB10,zB11,y00,y01,y02,y03,y04,y05,y06,y07,y08,y09,y0a,y0b,y0c,y0d,y0e,y0f,y0g,y0h,y0i,y0j,y0k,y0l,y0m,y0n,y0o,y0p,y0q,y0r,y0s,y0t,y0u,y0v,y0w,y0x,y0y,y0z,y10,y11,y12,y13,y14,y15,y16,y17,y18,y19,y1a,y1b,y1c,y1d,y1e,y1f,y1g,y1h,y1i,y1j,y1k,y1l,y1m,y1n,y1o,y1p,y1q,y1r,retO,retL,retV,z6i,allV,allP,z6j,z6m,z6n,z6t,z6u,z6v,binV,eqV,unV,oOpt,reduceIte,reduceCtorEq,Nat.reduceEqDiff,Nat.reduceAdd,Nat.reduceMul,Nat.reduceLT,Nat.reduceSub,Int.reduceLT,Int.reduceLE,Int.reduceEq,Int.reduceNe,Int.reduceSub,Int.reduceAdd,Int.reduceMul,Int.reduceBEq,Int.reduceBNe,Int.reduceGT,Int.reduceGE,Nat.reduceGT,Int.reduceToNat,Int.reduceNeg,Nat.reduceLeDiff,Nat.reduceBEq,Nat.reduceBneDiff,Value.cells, ez']
      refine (journal_failed_c E ⟨vb, vr, rs, RV3⟩ er).mono ?_
      rintro v K4 ⟨rfl, e4, R4⟩
      rw [eA]
      simp only [ez, if_false]
      simp -implicitDefEqProofs only [zB1,zB2,zB3,zB4,zB5,zB6,zB7,zB8,zB9,zB10,zB11,y00,y01,y02,y03,y04,y05,y06,y07,y08,y09,y0a,y0b,y0c,y0d,y0e,y0f,y0g,y0h,y0i,y0j,y0k,y0l,y0m,y0n,y0o,y0p,y0q,y0r,y0s,y0t,y0u,y0v,y0w,y0x,y0y,y0z,y10,y11,y12,y13,y14,y15,y16,y17,y18,y19,y1a,y1b,y1c,y1d,y1e,y1f,y1g,y1h,y1i,y1j,y1k,y1l,y1m,y1n,y1o,y1p,y1q,y1r,retO,retL,retV,z6i,allV,allP,z6j,z6m,z6n,z6t,z6u,z6v,binV,eqV,unV,oOpt,reduceIte,reduceCtorEq,Nat.reduceEqDiff,Nat.reduceAdd,Nat.reduceMul,Nat.reduceLT,Nat.reduceSub,Int.reduceLT,Int.reduceLE,Int.reduceEq,Int.reduceNe,Int.reduceSub,Int.reduceAdd,Int.reduceMul,Int.reduceBEq,Int.reduceBNe,Int.reduceGT,Int.reduceGE,Nat.reduceGT,Int.reduceToNat,Int.reduceNeg,Nat.reduceLeDiff,Nat.reduceBEq,Nat.reduceBneDiff,Value.cells]
      exact ⟨κ3, eK3.trans (ext_jd e4), R4, R3.off e4 ne.symm⟩
  have hi1 : ¬ (i : Int) < L.length := by omega
  have e0 : i = L.length := by omega
  subst e0
  rw [List.drop_length, addL] at eA
  rw [eA]
  simp -implicitDefEqProofs only [zB1,zB2,zB3,zB4,zB5,zB6,zB7,zB8,zB9,zB10,zB11,y00,y01,y02,y03,y04,y05,y06,y07,y08,y09,y0a,y0b,y0c,y0d,y0e,y0f,y0g,y0h,y0i,y0j,y0k,y0l,y0m,y0n,y0o,y0p,y0q,y0r,y0s,y0t,y0u,y0v,y0w,y0x,y0y,y0z,y10,y11,y12,y13,y14,y15,y16,y17,y18,y19,y1a,y1b,y1c,y1d,y1e,y1f,y1g,y1h,y1i,y1j,y1k,y1l,y1m,y1n,y1o,y1p,y1q,y1r,retO,retL,retV,z6i,allV,allP,z6j,z6m,z6n,z6t,z6u,z6v,binV,eqV,unV,oOpt,reduceIte,reduceCtorEq,Nat.reduceEqDiff,Nat.reduceAdd,Nat.reduceMul,Nat.reduceLT,Nat.reduceSub,Int.reduceLT,Int.reduceLE,Int.reduceEq,Int.reduceNe,Int.reduceSub,Int.reduceAdd,Int.reduceMul,Int.reduceBEq,Int.reduceBNe,Int.reduceGT,Int.reduceGE,Nat.reduceGT,Int.reduceToNat,Int.reduceNeg,Nat.reduceLeDiff,Nat.reduceBEq,Nat.reduceBneDiff,Value.cells, hi1]
  unfold ir_journal_Journal_Add_55
  simp -implicitDefEqProofs only [zB1,zB2,zB3,zB4,zB5,zB6,zB7,zB8,zB9,zB10,zB11,y00,y01,y02,y03,y04,y05,y06,y07,y08,y09,y0a,y0b,y0c,y0d,y0e,y0f,y0g,y0h,y0i,y0j,y0k,y0l,y0m,y0n,y0o,y0p,y0q,y0r,y0s,y0t,y0u,y0v,y0w,y0x,y0y,y0z,y10,y11,y12,y13,y14,y15,y16,y17,y18,y19,y1a,y1b,y1c,y1d,y1e,y1f,y1g,y1h,y1i,y1j,y1k,y1l,y1m,y1n,y1o,y1p,y1q,y1r,retO,retL,retV,z6i,allV,allP,z6j,z6m,z6n,z6t,z6u,z6v,binV,eqV,unV,oOpt,reduceIte,reduceCtorEq,Nat.reduceEqDiff,Nat.reduceAdd,Nat.reduceMul,Nat.reduceLT,Nat.reduceSub,Int.reduceLT,Int.reduceLE,Int.reduceEq,Int.reduceNe,Int.reduceSub,Int.reduceAdd,Int.reduceMul,Int.reduceBEq,Int.reduceBNe,Int.reduceGT,Int.reduceGE,Nat.reduceGT,Int.reduceToNat,Int.reduceNeg,Nat.reduceLeDiff,Nat.reduceBEq,Nat.reduceBneDiff,Value.cells]
  refine wp_loop' (fun m t M => ∃ (i : Nat) (κ2 : Pal), t = tl [(0, ptrV j), (55, .slice Lb L.length Lc), (56, .int .i64 L.length), (57, .int .i64 i)] ∧ i ≤ L.length ∧ m = L.length - i ∧
      Ext (jouC j) κ' K κ2 M ∧ JouR κ2 M j d { J with written := wi, recs := J.recs ++ L.take i }) L.length
    ⟨0, κ', rfl, by omega, by omega, Ext.refl _ _ _, by simpa using RK⟩ ?_
  rintro m t M ⟨i, κ2, rfl, hi, rfl, eM, RM⟩
  by_cases hlt : i < L.length
  · have hi1 : (i : Int) < L.length := by omega
    have hi2 : (0 : Int) ≤ i := by omega
    have w1 : IntKind.i64.wrap ((i : Int) + 1) = ((i + 1 : Nat) : Int) := wrapN (by omega)
    obtain ⟨b, o, bi, ci, rfl, si, ciH⟩ := sL.at' i hlt
    have lM := Heap.le_trans sLK (Heap.le_trans eM.bare (Heap.bare_le _ _))
    have c1 := ciH M lM
    have hli := hlen _ (List.getElem_mem hlt)
    obtain ⟨vb, vr, rs, RV⟩ := RM
    have q := RV.2.1
    simp -implicitDefEqProofs only [zB1,zB2,zB3,zB4,zB5,zB6,zB7,zB8,zB9,zB10,zB11,y00,y01,y02,y03,y04,y05,y06,y07,y08,y09,y0a,y0b,y0c,y0d,y0e,y0f,y0g,y0h,y0i,y0j,y0k,y0l,y0m,y0n,y0o,y0p,y0q,y0r,y0s,y0t,y0u,y0v,y0w,y0x,y0y,y0z,y10,y11,y12,y13,y14,y15,y16,y17,y18,y19,y1a,y1b,y1c,y1d,y1e,y1f,y1g,y1h,y1i,y1j,y1k,y1l,y1m,y1n,y1o,y1p,y1q,y1r,retO,retL,retV,z6i,allV,allP,z6j,z6m,z6n,z6t,z6u,z6v,binV,eqV,unV,oOpt,reduceIte,reduceCtorEq,Nat.reduceEqDiff,Nat.reduceAdd,Nat.reduceMul,Nat.reduceLT,Nat.reduceSub,Int.reduceLT,Int.reduceLE,Int.reduceEq,Int.reduceNe,Int.reduceSub,Int.reduceAdd,Int.reduceMul,Int.reduceBEq,Int.reduceBNe,Int.reduceGT,Int.reduceGE,Nat.reduceGT,Int.reduceToNat,Int.reduceNeg,Nat.reduceLeDiff,Nat.reduceBEq,Nat.reduceBneDiff,Value.cells, hi1, hi2, Int.toNat_natCast, c1]
    refine (bytes_Clone_c E M L[i] (by omega) (si.le lM)).mono ?_
    rintro wv M1 ⟨le1, o1⟩
    have e1 : Ext (fun _ => False) κ2 M (κ2.grow M (j, j, 10)) M1 := Ext.tint le1
    have RV1 := RV.ext e1 (fun _ _ q => q)
    have ow1 : OwK (κ2.grow M (j, j, 10)) (j, j, 10) M1 1 wv L[i].length (L[i].map u8V) := OwK.tinted o1
    obtain ⟨wb, wc, rfl⟩ := Sl.shape o1.sl
    have j60 : hcell M ⟨j, 6, none⟩ = some vr := by rw [hcell_at q (by simp)]; rfl
    have j61 : hcell M1 ⟨j, 6, none⟩ = some vr := by rw [hcell_at (le1 _ _ q) (by simp)]; rfl
    simp -implicitDefEqProofs only [zB1,zB2,zB3,zB4,zB5,zB6,zB7,zB8,zB9,zB10,zB11,y00,y01,y02,y03,y04,y05,y06,y07,y08,y09,y0a,y0b,y0c,y0d,y0e,y0f,y0g,y0h,y0i,y0j,y0k,y0l,y0m,y0n,y0o,y0p,y0q,y0r,y0s,y0t,y0u,y0v,y0w,y0x,y0y,y0z,y10,y11,y12,y13,y14,y15,y16,y17,y18,y19,y1a,y1b,y1c,y1d,y1e,y1f,y1g,y1h,y1i,y1j,y1k,y1l,y1m,y1n,y1o,y1p,y1q,y1r,retO,retL,retV,z6i,allV,allP,z6j,z6m,z6n,z6t,z6u,z6v,binV,eqV,unV,oOpt,reduceIte,reduceCtorEq,Nat.reduceEqDiff,Nat.reduceAdd,Nat.reduceMul,Nat.reduceLT,Nat.reduceSub,Int.reduceLT,Int.reduceLE,Int.reduceEq,Int.reduceNe,Int.reduceSub,Int.reduceAdd,Int.reduceMul,Int.reduceBEq,Int.reduceBNe,Int.reduceGT,Int.reduceGE,Nat.reduceGT,Int.reduceToNat,Int.reduceNeg,Nat.reduceLeDiff,Nat.reduceBEq,Nat.reduceBneDiff,Value.cells, j60, j61, implies_true, List.mem_cons, List.not_mem_nil, List.mem_singleton, or_false, forall_eq, forall_eq_or_imp, and_self, List.length_replicate, List.drop_replicate, List.replicate_zero]
    intro b68 hb68
    try simp -implicitDefEqProofs only [zB1,zB2,zB3,zB4,zB5,zB6,zB7,zB8,zB9,zB10,zB11,y00,y01,y02,y03,y04,y05,y06,y07,y08,y09,y0a,y0b,y0c,y0d,y0e,y0f,y0g,y0h,y0i,y0j,y0k,y0l,y0m,y0n,y0o,y0p,y0q,y0r,y0s,y0t,y0u,y0v,y0w,y0x,y0y,y0z,y10,y11,y12,y13,y14,y15,y16,y17,y18,y19,y1a,y1b,y1c,y1d,y1e,y1f,y1g,y1h,y1i,y1j,y1k,y1l,y1m,y1n,y1o,y1p,y1q,y1r,retO,retL,retV,z6i,allV,allP,z6j,z6m,z6n,z6t,z6u,z6v,binV,eqV,unV,oOpt,reduceIte,reduceCtorEq,Nat.reduceEqDiff,Nat.reduceAdd,Nat.reduceMul,Nat.reduceLT,Nat.reduceSub,Int.reduceLT,Int.reduceLE,Int.reduceEq,Int.reduceNe,Int.reduceSub,Int.reduceAdd,Int.reduceMul,Int.reduceBEq,Int.reduceBNe,Int.reduceGT,Int.reduceGE,Nat.reduceGT,Int.reduceToNat,Int.reduceNeg,Nat.reduceLeDiff,Nat.reduceBEq,Nat.reduceBneDiff,Value.cells]
    have le2 := Heap.le_set (Heap.le_refl M1) hb68 (.own 0 [.slice wb L[i].length wc] 1)
    have sx : Sl (M1.set b68 (.own 0 [.slice wb L[i].length wc] 1)) 1 (.slice (some ⟨b68, 0, none⟩) 1 1) 1 [.slice wb L[i].length wc] := Sl.lit rfl
    refine jou_write (RV1.ext (Ext.le (cs := fun _ => False) le2) (fun _ _ q => q)) sx (OwK.le le2 ow1) (by simp only [List.length_append, List.length_take]; omega) ?_
    rintro v M3 st ⟨vb3, vc3, rfl⟩ ⟨κ3, e3, R3⟩
    simp -implicitDefEqProofs only [zB1,zB2,zB3,zB4,zB5,zB6,zB7,zB8,zB9,zB10,zB11,y00,y01,y02,y03,y04,y05,y06,y07,y08,y09,y0a,y0b,y0c,y0d,y0e,y0f,y0g,y0h,y0i,y0j,y0k,y0l,y0m,y0n,y0o,y0p,y0q,y0r,y0s,y0t,y0u,y0v,y0w,y0x,y0y,y0z,y10,y11,y12,y13,y14,y15,y16,y17,y18,y19,y1a,y1b,y1c,y1d,y1e,y1f,y1g,y1h,y1i,y1j,y1k,y1l,y1m,y1n,y1o,y1p,y1q,y1r,retO,retL,retV,z6i,allV,allP,z6j,z6m,z6n,z6t,z6u,z6v,binV,eqV,unV,oOpt,reduceIte,reduceCtorEq,Nat.reduceEqDiff,Nat.reduceAdd,Nat.reduceMul,Nat.reduceLT,Nat.reduceSub,Int.reduceLT,Int.reduceLE,Int.reduceEq,Int.reduceNe,Int.reduceSub,Int.reduceAdd,Int.reduceMul,Int.reduceBEq,Int.reduceBNe,Int.reduceGT,Int.reduceGE,Nat.reduceGT,Int.reduceToNat,Int.reduceNeg,Nat.reduceLeDiff,Nat.reduceBEq,Nat.reduceBneDiff,Value.cells, st, w1, implies_true]
    refine ⟨_, ?_, i + 1, κ3, rfl, by omega, rfl, ((eM.trans (e1.mono fun c h => h.elim)).trans (Ext.le le2)).trans e3, ?_⟩
    · omega
    · have et : J.recs ++ L.take (i + 1) = J.recs ++ L.take i ++ [L[i]] := by rw [List.take_succ_eq_append_getElem hlt, List.append_assoc]
      rw [et]; exact R3
  · have hi1 : ¬ (i : Int) < L.length := by omega
    have e0 : i = L.length := by omega
    subst e0
    rw [List.take_length] at RM
    simp -implicitDefEqProofs only [zB1,zB2,zB3,zB4,zB5,zB6,zB7,zB8,zB9,zB10,zB11,y00,y01,y02,y03,y04,y05,y06,y07,y08,y09,y0a,y0b,y0c,y0d,y0e,y0f,y0g,y0h,y0i,y0j,y0k,y0l,y0m,y0n,y0o,y0p,y0q,y0r,y0s,y0t,y0u,y0v,y0w,y0x,y0y,y0z,y10,y11,y12,y13,y14,y15,y16,y17,y18,y19,y1a,y1b,y1c,y1d,y1e,y1f,y1g,y1h,y1i,y1j,y1k,y1l,y1m,y1n,y1o,y1p,y1q,y1r,retO,retL,retV,z6i,allV,allP,z6j,z6m,z6n,z6t,z6u,z6v,binV,eqV,unV,oOpt,reduceIte,reduceCtorEq,Nat.reduceEqDiff,Nat.reduceAdd,Nat.reduceMul,Nat.reduceLT,Nat.reduceSub,Int.reduceLT,Int.reduceLE,Int.reduceEq,Int.reduceNe,Int.reduceSub,Int.reduceAdd,Int.reduceMul,Int.reduceBEq,Int.reduceBNe,Int.reduceGT,Int.reduceGE,Nat.reduceGT,Int.reduceToNat,Int.reduceNeg,Nat.reduceLeDiff,Nat.reduceBEq,Nat.reduceBneDiff,Value.cells, hi1]
    exact ⟨κ2, eK.trans (ext_jd eM), RM, RDK.off eM ne.symm⟩
end Go.Bb
/- Contracts: a journal's base read; old files let go. -/
namespace Go.Bb
set_option linter.unusedSimpArgs false
set_option linter.unusedVariables false
set_option maxRecDepth 20000
set_option maxHeartbeats 2000000

theorem name_len {t p : Nat} : (nameF t p).length ≤ 20 := by
  have h1 := b36_len t
  have h2 := b36_len p
  unfold nameF
  simp only [List.length_append, List.length_singleton]
  omega
def tidyF (T : Nat) : Nat → DiskF → Nat → DiskF
  | 0, D, _ => D
  | f + 1, D, p => if (dropF D (nameF T p)).2 = 0 then tidyF T f (dropF D (nameF T p)).1 (p + 1) else D
theorem look_del {L : Files} {s t : List UInt8} (h : lookF L t = none) : lookF (delFile L s) t = none := by
  unfold lookF delFile at *
  rw [Option.map_eq_none_iff, List.find?_eq_none] at *
  intro x hx
  exact h x (List.mem_filter.1 hx).1
theorem drop_look {D : DiskF} {s t : List UInt8} (h : lookF D.files t = none) : lookF (dropF D s).1.files t = none := by
  unfold dropF
  split
  · split
    · exact h
    · exact look_del h
  · exact h
theorem drop_fails {D : DiskF} {t : List UInt8} (h : lookF D.files t = none) : (dropF D t).2 ≠ 0 := by
  unfold dropF
  split
  · rw [h]; simp
  · rename_i e; exact e
theorem drop_same {D : DiskF} {t : List UInt8} (h : (dropF D t).2 ≠ 0) : (dropF D t).1 = D := by
  unfold dropF at *
  split
  · rename_i e
    rw [if_pos e] at h
    split
    · rfl
    · rename_i x; rw [x] at h; simp at h
  · rfl
theorem drop_ok {D : DiskF} {n : Nat} (h : D.okW n) (s : List UInt8) : (dropF D s).1.okW n := by
  unfold dropF
  split
  · split
    · exact h
    · refine ⟨fun x hx => h.1 x (List.mem_filter.1 hx).1, ?_, h.2.2⟩
      have : sizeF (delFile D.files s) ≤ sizeF D.files := by
        have : ∀ L : Files, sizeF (delFile L s) ≤ sizeF L := by
          intro L
          induction L with
          | nil => exact Nat.le_refl _
          | cons x L ih =>
            unfold delFile at ih ⊢
            rw [List.filter_cons]
            split
            · simp only [sizeF, List.map_cons, List.sum_cons] at ih ⊢; omega
            · simp only [sizeF, List.map_cons, List.sum_cons] at ih ⊢; omega
        exact this _
      have := h.2.1
      show ((sizeF (delFile D.files s) : Nat) : Int) ≤ D.room
      omega
  · exact h
theorem journal_tidy_c (E : EnvT tab) {κ : Pal} {H : Heap} {j d : Nat} {J : JF} {D : DiskF} (R : JouR κ H j d J) (RD : DiskR κ H d D) (ne : d ≠ j) (T : Nat) (ht : T < 64) {P : Nat} (hP : P < 63) (hl : lookF D.files (nameF T P) = none) :
    ACallN E.toEnv n_journal_Journal_tidy [ptrV j, .int .u64 T] H fun r H' => ∃ κ', Ext (diskC d) κ H κ' H' ∧ JouR κ' H' j d J ∧ DiskR κ' H' d (tidyF T 64 D 0) := by
  refine acall h_journal_Journal_tidy ir_journal_Journal_tidy rfl rfl (wpA_sound ?_)
  unfold ir_journal_Journal_tidy
  generalize hTF : tidyF T 64 D 0 = TF
  simp -implicitDefEqProofs only [zB1,zB2,zB3,zB4,zB5,zB6,zB7,zB8,zB9,zB10,zB11,y00,y01,y02,y03,y04,y05,y06,y07,y08,y09,y0a,y0b,y0c,y0d,y0e,y0f,y0g,y0h,y0i,y0j,y0k,y0l,y0m,y0n,y0o,y0p,y0q,y0r,y0s,y0t,y0u,y0v,y0w,y0x,y0y,y0z,y10,y11,y12,y13,y14,y15,y16,y17,y18,y19,y1a,y1b,y1c,y1d,y1e,y1f,y1g,y1h,y1i,y1j,y1k,y1l,y1m,y1n,y1o,y1p,y1q,y1r,retO,retL,retV,z6i,allV,allP,z6j,z6m,z6n,z6t,z6u,z6v,binV,eqV,unV,oOpt,reduceIte,reduceCtorEq,Nat.reduceEqDiff,Nat.reduceAdd,Nat.reduceMul,Nat.reduceLT,Nat.reduceSub,Int.reduceLT,Int.reduceLE,Int.reduceEq,Int.reduceNe,Int.reduceSub,Int.reduceAdd,Int.reduceMul,Int.reduceBEq,Int.reduceBNe,Int.reduceGT,Int.reduceGE,Nat.reduceGT,Int.reduceToNat,Int.reduceNeg,Nat.reduceLeDiff,Nat.reduceBEq,Nat.reduceBneDiff,Value.cells]
  refine wp_loop' (fun m t G => ∃ (p : Nat) (κ' : Pal) (Dp : DiskF), t = tl [(0, ptrV j), (1, .int .u64 T), (4, .int .i64 p)] ∧ p ≤ P ∧ m = P - p ∧ Ext (diskC d) κ H κ' G ∧ JouR κ' G j d J ∧ DiskR κ' G d Dp ∧ lookF Dp.files (nameF T P) = none ∧ TF = tidyF T (64 - p) Dp p) P
    ⟨0, κ, D, rfl, by omega, by omega, Ext.refl _ _ _, R, RD, hl, hTF.symm⟩ ?_
  rintro m t G ⟨p, κ', Dp, rfl, hp, rfl, eG, RG, RDG, hlp, eT⟩
  have w1 : IntKind.i64.wrap ((p : Int) + 1) = ((p + 1 : Nat) : Int) := wrapN (by omega)
  obtain ⟨vb, vr, rs, RV⟩ := RG
  have q := RV.2.1
  have j0 : ∀ M, G.le M → hcell M ⟨j, 0, none⟩ = some (ptrV d) := fun M x => by rw [hcell_at (x _ _ q) (by simp)]; rfl
  have j00 := j0 G (Heap.le_refl _)
  simp -implicitDefEqProofs only [zB1,zB2,zB3,zB4,zB5,zB6,zB7,zB8,zB9,zB10,zB11,y00,y01,y02,y03,y04,y05,y06,y07,y08,y09,y0a,y0b,y0c,y0d,y0e,y0f,y0g,y0h,y0i,y0j,y0k,y0l,y0m,y0n,y0o,y0p,y0q,y0r,y0s,y0t,y0u,y0v,y0w,y0x,y0y,y0z,y10,y11,y12,y13,y14,y15,y16,y17,y18,y19,y1a,y1b,y1c,y1d,y1e,y1f,y1g,y1h,y1i,y1j,y1k,y1l,y1m,y1n,y1o,y1p,y1q,y1r,retO,retL,retV,z6i,allV,allP,z6j,z6m,z6n,z6t,z6u,z6v,binV,eqV,unV,oOpt,reduceIte,reduceCtorEq,Nat.reduceEqDiff,Nat.reduceAdd,Nat.reduceMul,Nat.reduceLT,Nat.reduceSub,Int.reduceLT,Int.reduceLE,Int.reduceEq,Int.reduceNe,Int.reduceSub,Int.reduceAdd,Int.reduceMul,Int.reduceBEq,Int.reduceBNe,Int.reduceGT,Int.reduceGE,Nat.reduceGT,Int.reduceToNat,Int.reduceNeg,Nat.reduceLeDiff,Nat.reduceBEq,Nat.reduceBneDiff,Value.cells]
  refine (journal_name_c E G T p ht (by omega)).mono ?_
  rintro v G1 ⟨le1, rfl⟩
  have j01 := j0 G1 le1
  simp -implicitDefEqProofs only [zB1,zB2,zB3,zB4,zB5,zB6,zB7,zB8,zB9,zB10,zB11,y00,y01,y02,y03,y04,y05,y06,y07,y08,y09,y0a,y0b,y0c,y0d,y0e,y0f,y0g,y0h,y0i,y0j,y0k,y0l,y0m,y0n,y0o,y0p,y0q,y0r,y0s,y0t,y0u,y0v,y0w,y0x,y0y,y0z,y10,y11,y12,y13,y14,y15,y16,y17,y18,y19,y1a,y1b,y1c,y1d,y1e,y1f,y1g,y1h,y1i,y1j,y1k,y1l,y1m,y1n,y1o,y1p,y1q,y1r,retO,retL,retV,z6i,allV,allP,z6j,z6m,z6n,z6t,z6u,z6v,binV,eqV,unV,oOpt,reduceIte,reduceCtorEq,Nat.reduceEqDiff,Nat.reduceAdd,Nat.reduceMul,Nat.reduceLT,Nat.reduceSub,Int.reduceLT,Int.reduceLE,Int.reduceEq,Int.reduceNe,Int.reduceSub,Int.reduceAdd,Int.reduceMul,Int.reduceBEq,Int.reduceBNe,Int.reduceGT,Int.reduceGE,Nat.reduceGT,Int.reduceToNat,Int.reduceNeg,Nat.reduceLeDiff,Nat.reduceBEq,Nat.reduceBneDiff,Value.cells, j00, j01, implies_true, List.mem_cons, List.not_mem_nil, List.mem_singleton, or_false, forall_eq, forall_eq_or_imp, and_self]
  refine (disk_Drop_c E (RDG.le le1) (nameF T p) (by have := @name_len T p; omega)).mono ?_
  rintro v G2 ⟨rfl, κ2, e2, R2⟩
  have RV2 := (RV.ext (Ext.le (cs := fun _ => False) le1) (fun _ _ q => q)).ext e2 fun c h q => ne (by unfold diskC at q; rw [← q, h])
  have e02 := eG.trans ((Ext.le le1).trans e2)
  obtain ⟨f, hf⟩ : ∃ f, 64 - p = f + 1 := ⟨63 - p, by omega⟩
  rw [hf, tidyF] at eT
  by_cases z : (dropF Dp (nameF T p)).2 = 0
  · rw [if_pos z] at eT
    have hpP : p < P := by
      by_cases h : p = P
      · subst h; exact absurd z (drop_fails hlp)
      · omega
    have z' : (((dropF Dp (nameF T p)).2 : Nat) : Int) = 0 := by omega
    simp -implicitDefEqProofs only [zB1,zB2,zB3,zB4,zB5,zB6,zB7,zB8,zB9,zB10,zB11,y00,y01,y02,y03,y04,y05,y06,y07,y08,y09,y0a,y0b,y0c,y0d,y0e,y0f,y0g,y0h,y0i,y0j,y0k,y0l,y0m,y0n,y0o,y0p,y0q,y0r,y0s,y0t,y0u,y0v,y0w,y0x,y0y,y0z,y10,y11,y12,y13,y14,y15,y16,y17,y18,y19,y1a,y1b,y1c,y1d,y1e,y1f,y1g,y1h,y1i,y1j,y1k,y1l,y1m,y1n,y1o,y1p,y1q,y1r,retO,retL,retV,z6i,allV,allP,z6j,z6m,z6n,z6t,z6u,z6v,binV,eqV,unV,oOpt,reduceIte,reduceCtorEq,Nat.reduceEqDiff,Nat.reduceAdd,Nat.reduceMul,Nat.reduceLT,Nat.reduceSub,Int.reduceLT,Int.reduceLE,Int.reduceEq,Int.reduceNe,Int.reduceSub,Int.reduceAdd,Int.reduceMul,Int.reduceBEq,Int.reduceBNe,Int.reduceGT,Int.reduceGE,Nat.reduceGT,Int.reduceToNat,Int.reduceNeg,Nat.reduceLeDiff,Nat.reduceBEq,Nat.reduceBneDiff,Value.cells, z', beq_self_eq_true, w1]
    refine ⟨_, ?_, p + 1, κ2, _, rfl, by omega, rfl, e02, ⟨vb, vr, rs, RV2⟩, R2, drop_look hlp, ?_⟩
    · omega
    · rw [eT]; congr 1; omega
  · rw [if_neg z] at eT
    rw [drop_same z] at R2
    have z' : ((((dropF Dp (nameF T p)).2 : Nat) : Int) == 0) = false := by simpa using z
    simp -implicitDefEqProofs only [zB1,zB2,zB3,zB4,zB5,zB6,zB7,zB8,zB9,zB10,zB11,y00,y01,y02,y03,y04,y05,y06,y07,y08,y09,y0a,y0b,y0c,y0d,y0e,y0f,y0g,y0h,y0i,y0j,y0k,y0l,y0m,y0n,y0o,y0p,y0q,y0r,y0s,y0t,y0u,y0v,y0w,y0x,y0y,y0z,y10,y11,y12,y13,y14,y15,y16,y17,y18,y19,y1a,y1b,y1c,y1d,y1e,y1f,y1g,y1h,y1i,y1j,y1k,y1l,y1m,y1n,y1o,y1p,y1q,y1r,retO,retL,retV,z6i,allV,allP,z6j,z6m,z6n,z6t,z6u,z6v,binV,eqV,unV,oOpt,reduceIte,reduceCtorEq,Nat.reduceEqDiff,Nat.reduceAdd,Nat.reduceMul,Nat.reduceLT,Nat.reduceSub,Int.reduceLT,Int.reduceLE,Int.reduceEq,Int.reduceNe,Int.reduceSub,Int.reduceAdd,Int.reduceMul,Int.reduceBEq,Int.reduceBNe,Int.reduceGT,Int.reduceGE,Nat.reduceGT,Int.reduceToNat,Int.reduceNeg,Nat.reduceLeDiff,Nat.reduceBEq,Nat.reduceBneDiff,Value.cells, z']
    rw [eT]
    exact ⟨κ2, e02, ⟨vb, vr, rs, RV2⟩, R2⟩

def baseN : List UInt8 := [98, 97, 115, 101]
def newN : List UInt8 := [110, 101, 119]
def readBaseF (J : JF) (D : DiskF) : JF × Nat :=
  if (readF D baseN).2 = 0 then
    match nextF (readF D baseN).1 with
    | some (x, y) => if y.length = 0 ∧ 8 ≤ x.length then ({ J with turn := (fromBigF (x.take 8)).toNat, base := x.drop 8 }, 0) else (J, 3)
    | none => (J, 3)
  else if (readF D baseN).2 = 4 then (J, 0) else (J, (readF D baseN).2)
/-- The base is another one. -/
theorem JouV.setb {κ : Pal} {H : Heap} {j d : Nat} {J : JF} {vb vr wv : Value} {rs : List Value} {b : List UInt8} (R : JouV κ H j d J vb vr rs) (o : OwK κ (j, j, 8) H 1 wv b.length (b.map u8V)) :
    JouV κ (H.set j (.own 0 [ptrV d, .int .i64 J.lives, .int .u64 (J.turn : Nat), .int .i64 (J.part : Nat), .bool J.written, wv, vr, .bool J.full] 8)) j d { J with base := b } wv vr rs := by
  obtain ⟨k, q, s1, s2, l, s3⟩ := R
  have e := Ext.set (H := H) k (.own 0 [ptrV d, .int .i64 J.lives, .int .u64 (J.turn : Nat), .int .i64 (J.part : Nat), .bool J.written, wv, vr, .bool J.full] 8)
  exact ⟨k, Heap.set_self _ _ _, e.own (by simp) o, e.own (by simp) s2, l, fun i h1 h2 => e.own (by simp) (s3 i h1 h2)⟩
theorem nextF_len {b x y : List UInt8} (h : nextF b = some (x, y)) : 20 + x.length + y.length = b.length ∧ x.length < 4294967296 * 4294967296 := by
  unfold nextF at h
  split at h
  · cases h
  · split at h
    · cases h
    · split at h
      · simp only [Option.some.injEq, Prod.mk.injEq] at h
        obtain ⟨rfl, rfl⟩ := h
        have := (fromBigF (b.take 4)).isLt
        rw [List.length_take, List.length_drop, List.length_drop]
        omega
      · cases h
theorem journal_readBase_c (E : EnvT tab) {κ : Pal} {H : Heap} {j d : Nat} {J : JF} {D : DiskF} (R : JouR κ H j d J) (RD : DiskR κ H d D) (ok : D.ok) :
    ACallN E.toEnv n_journal_Journal_readBase [ptrV j] H fun r H' => r = .int .i64 ((readBaseF J D).2 : Nat) ∧ ∃ κ', Ext (jouC j) κ H κ' H' ∧ JouR κ' H' j d (readBaseF J D).1 := by
  have R0 := R
  obtain ⟨vb, vr, rs, RV⟩ := R
  have q := RV.2.1
  refine acall h_journal_Journal_readBase ir_journal_Journal_readBase rfl rfl (wpA_sound ?_)
  unfold ir_journal_Journal_readBase
  have c0 : hcell H ⟨j, 0, none⟩ = some (ptrV d) := by rw [hcell_at q (by simp)]; rfl
  simp -implicitDefEqProofs only [zB1,zB2,zB3,zB4,zB5,zB6,zB7,zB8,zB9,zB10,zB11,y00,y01,y02,y03,y04,y05,y06,y07,y08,y09,y0a,y0b,y0c,y0d,y0e,y0f,y0g,y0h,y0i,y0j,y0k,y0l,y0m,y0n,y0o,y0p,y0q,y0r,y0s,y0t,y0u,y0v,y0w,y0x,y0y,y0z,y10,y11,y12,y13,y14,y15,y16,y17,y18,y19,y1a,y1b,y1c,y1d,y1e,y1f,y1g,y1h,y1i,y1j,y1k,y1l,y1m,y1n,y1o,y1p,y1q,y1r,retO,retL,retV,z6i,allV,allP,z6j,z6m,z6n,z6t,z6u,z6v,binV,eqV,unV,oOpt,reduceIte,reduceCtorEq,Nat.reduceEqDiff,Nat.reduceAdd,Nat.reduceMul,Nat.reduceLT,Nat.reduceSub,Int.reduceLT,Int.reduceLE,Int.reduceEq,Int.reduceNe,Int.reduceSub,Int.reduceAdd,Int.reduceMul,Int.reduceBEq,Int.reduceBNe,Int.reduceGT,Int.reduceGE,Nat.reduceGT,Int.reduceToNat,Int.reduceNeg,Nat.reduceLeDiff,Nat.reduceBEq,Nat.reduceBneDiff,Value.cells, c0]
  refine (disk_Read_c E RD ok baseN (by simp [baseN])).mono ?_
  rintro v H1 ⟨le1, sb, sc, rfl, o1⟩
  have hlen : (readF D baseN).1.length ≤ 1048576 := by
    unfold readF
    split
    · split
      · simp
      · rename_i F hF
        unfold lookF at hF
        obtain ⟨z, hz, rfl⟩ := Option.map_eq_some_iff.1 hF
        have := size_le (List.mem_of_find?_eq_some hz)
        have := ok.2.1
        unfold FileF.size at *
        show z.2.all.length ≤ _
        omega
    · simp
  unfold readBaseF
  generalize readF D baseN = X at o1 hlen ⊢
  obtain ⟨b, e⟩ := X
  simp only at o1 hlen ⊢
  have ew : Ext (fun _ => False) κ H (κ.wash H) H1 := Ext.wash le1
  have RV1 := RV.ext ew (fun _ _ q => q)
  have s1 : SlB (H1.bare (κ.wash H)) (.slice sb b.length sc) b := o1.bare
  have ej : Ext (jouC j) κ H (κ.wash H) H1 := ew.mono fun c h => h.elim
  generalize κ.wash H = κ1 at RV1 s1 ej
  by_cases e0 : e = 0
  · subst e0
    simp -implicitDefEqProofs only [zB1,zB2,zB3,zB4,zB5,zB6,zB7,zB8,zB9,zB10,zB11,y00,y01,y02,y03,y04,y05,y06,y07,y08,y09,y0a,y0b,y0c,y0d,y0e,y0f,y0g,y0h,y0i,y0j,y0k,y0l,y0m,y0n,y0o,y0p,y0q,y0r,y0s,y0t,y0u,y0v,y0w,y0x,y0y,y0z,y10,y11,y12,y13,y14,y15,y16,y17,y18,y19,y1a,y1b,y1c,y1d,y1e,y1f,y1g,y1h,y1i,y1j,y1k,y1l,y1m,y1n,y1o,y1p,y1q,y1r,retO,retL,retV,z6i,allV,allP,z6j,z6m,z6n,z6t,z6u,z6v,binV,eqV,unV,oOpt,reduceIte,reduceCtorEq,Nat.reduceEqDiff,Nat.reduceAdd,Nat.reduceMul,Nat.reduceLT,Nat.reduceSub,Int.reduceLT,Int.reduceLE,Int.reduceEq,Int.reduceNe,Int.reduceSub,Int.reduceAdd,Int.reduceMul,Int.reduceBEq,Int.reduceBNe,Int.reduceGT,Int.reduceGE,Nat.reduceGT,Int.reduceToNat,Int.reduceNeg,Nat.reduceLeDiff,Nat.reduceBEq,Nat.reduceBneDiff,Value.cells, beq_self_eq_true]
    unfold ir_journal_Journal_readBase_23
    simp -implicitDefEqProofs only [zB1,zB2,zB3,zB4,zB5,zB6,zB7,zB8,zB9,zB10,zB11,y00,y01,y02,y03,y04,y05,y06,y07,y08,y09,y0a,y0b,y0c,y0d,y0e,y0f,y0g,y0h,y0i,y0j,y0k,y0l,y0m,y0n,y0o,y0p,y0q,y0r,y0s,y0t,y0u,y0v,y0w,y0x,y0y,y0z,y10,y11,y12,y13,y14,y15,y16,y17,y18,y19,y1a,y1b,y1c,y1d,y1e,y1f,y1g,y1h,y1i,y1j,y1k,y1l,y1m,y1n,y1o,y1p,y1q,y1r,retO,retL,retV,z6i,allV,allP,z6j,z6m,z6n,z6t,z6u,z6v,binV,eqV,unV,oOpt,reduceIte,reduceCtorEq,Nat.reduceEqDiff,Nat.reduceAdd,Nat.reduceMul,Nat.reduceLT,Nat.reduceSub,Int.reduceLT,Int.reduceLE,Int.reduceEq,Int.reduceNe,Int.reduceSub,Int.reduceAdd,Int.reduceMul,Int.reduceBEq,Int.reduceBNe,Int.reduceGT,Int.reduceGE,Nat.reduceGT,Int.reduceToNat,Int.reduceNeg,Nat.reduceLeDiff,Nat.reduceBEq,Nat.reduceBneDiff,Value.cells]
    refine (journal_next_c E (Heap.bare_le H1 κ1) b (by omega) s1).mono ?_
    rintro v H2 ⟨le2, h⟩
    have ej2 := ej.trans (Ext.le (κ := κ1) le2)
    have RV2 := RV1.ext (Ext.le (cs := fun _ => False) le2) (fun _ _ q => q)
    have lb2 : (H1.bare κ1).le (H2.bare κ1) := (Ext.le (cs := fun _ => False) le2).bare
    rcases h with ⟨hn, rfl⟩ | ⟨x, y, vx, vy, hn, rfl, sx, sy⟩
    · rw [hn]
      simp -implicitDefEqProofs only [zB1,zB2,zB3,zB4,zB5,zB6,zB7,zB8,zB9,zB10,zB11,y00,y01,y02,y03,y04,y05,y06,y07,y08,y09,y0a,y0b,y0c,y0d,y0e,y0f,y0g,y0h,y0i,y0j,y0k,y0l,y0m,y0n,y0o,y0p,y0q,y0r,y0s,y0t,y0u,y0v,y0w,y0x,y0y,y0z,y10,y11,y12,y13,y14,y15,y16,y17,y18,y19,y1a,y1b,y1c,y1d,y1e,y1f,y1g,y1h,y1i,y1j,y1k,y1l,y1m,y1n,y1o,y1p,y1q,y1r,retO,retL,retV,z6i,allV,allP,z6j,z6m,z6n,z6t,z6u,z6v,binV,eqV,unV,oOpt,reduceIte,reduceCtorEq,Nat.reduceEqDiff,Nat.reduceAdd,Nat.reduceMul,Nat.reduceLT,Nat.reduceSub,Int.reduceLT,Int.reduceLE,Int.reduceEq,Int.reduceNe,Int.reduceSub,Int.reduceAdd,Int.reduceMul,Int.reduceBEq,Int.reduceBNe,Int.reduceGT,Int.reduceGE,Nat.reduceGT,Int.reduceToNat,Int.reduceNeg,Nat.reduceLeDiff,Nat.reduceBEq,Nat.reduceBneDiff,Value.cells]
      exact ⟨κ1, ej2, ⟨vb, vr, rs, RV2⟩⟩
    · rw [hn]
      obtain ⟨xb, xc, rfl⟩ := Sl.shape sx
      obtain ⟨yb, yc, rfl⟩ := Sl.shape sy
      have hcap := Sl.cap sx
      obtain ⟨nl, -⟩ := nextF_len hn
      by_cases hy : y.length = 0
      · by_cases hx : 8 ≤ x.length
        · have g1 : ¬ ((0 : Int) < y.length) := by omega
          have g2 : ¬ ((x.length : Int) < 8) := by omega
          have b1 : bnds x.length xc none (some (some (.int .i64 8))) none = some (0, 8, xc) := bnds_hi (by omega) (by omega)
          have b2 : bnds x.length xc (some (some (.int .i64 8))) none none = some (8, x.length, xc) := bnds_lo (by omega) (by omega)
          have ab : ∀ (z : Option Addr), (if xc = 0 then z else z.map fun a => a.add 0) = z := fun z => addO z xc (fun a _ => addr_add0 a)
          have e8 : (x.take 8).length = 8 := by rw [List.length_take]; omega
          have s8 := Sl.headB (sx.le (Heap.le_trans lb2 (Heap.bare_le _ _))) (m := 8) hx
          have s9 := Sl.midB (sx.le lb2) (a := 8) (b := x.length) hx (Nat.le_refl _)
          rw [List.take_of_length_le (by rw [List.length_drop]; omega)] at s9
          simp -implicitDefEqProofs only [zB1,zB2,zB3,zB4,zB5,zB6,zB7,zB8,zB9,zB10,zB11,y00,y01,y02,y03,y04,y05,y06,y07,y08,y09,y0a,y0b,y0c,y0d,y0e,y0f,y0g,y0h,y0i,y0j,y0k,y0l,y0m,y0n,y0o,y0p,y0q,y0r,y0s,y0t,y0u,y0v,y0w,y0x,y0y,y0z,y10,y11,y12,y13,y14,y15,y16,y17,y18,y19,y1a,y1b,y1c,y1d,y1e,y1f,y1g,y1h,y1i,y1j,y1k,y1l,y1m,y1n,y1o,y1p,y1q,y1r,retO,retL,retV,z6i,allV,allP,z6j,z6m,z6n,z6t,z6u,z6v,binV,eqV,unV,oOpt,reduceIte,reduceCtorEq,Nat.reduceEqDiff,Nat.reduceAdd,Nat.reduceMul,Nat.reduceLT,Nat.reduceSub,Int.reduceLT,Int.reduceLE,Int.reduceEq,Int.reduceNe,Int.reduceSub,Int.reduceAdd,Int.reduceMul,Int.reduceBEq,Int.reduceBNe,Int.reduceGT,Int.reduceGE,Nat.reduceGT,Int.reduceToNat,Int.reduceNeg,Nat.reduceLeDiff,Nat.reduceBEq,Nat.reduceBneDiff,Value.cells, g1, g2, hy, hx]
          unfold ir_journal_Journal_readBase_41
          simp -implicitDefEqProofs only [zB1,zB2,zB3,zB4,zB5,zB6,zB7,zB8,zB9,zB10,zB11,y00,y01,y02,y03,y04,y05,y06,y07,y08,y09,y0a,y0b,y0c,y0d,y0e,y0f,y0g,y0h,y0i,y0j,y0k,y0l,y0m,y0n,y0o,y0p,y0q,y0r,y0s,y0t,y0u,y0v,y0w,y0x,y0y,y0z,y10,y11,y12,y13,y14,y15,y16,y17,y18,y19,y1a,y1b,y1c,y1d,y1e,y1f,y1g,y1h,y1i,y1j,y1k,y1l,y1m,y1n,y1o,y1p,y1q,y1r,retO,retL,retV,z6i,allV,allP,z6j,z6m,z6n,z6t,z6u,z6v,binV,eqV,unV,oOpt,reduceIte,reduceCtorEq,Nat.reduceEqDiff,Nat.reduceAdd,Nat.reduceMul,Nat.reduceLT,Nat.reduceSub,Int.reduceLT,Int.reduceLE,Int.reduceEq,Int.reduceNe,Int.reduceSub,Int.reduceAdd,Int.reduceMul,Int.reduceBEq,Int.reduceBNe,Int.reduceGT,Int.reduceGE,Nat.reduceGT,Int.reduceToNat,Int.reduceNeg,Nat.reduceLeDiff,Nat.reduceBEq,Nat.reduceBneDiff,Value.cells, b1, b2, ab, Nat.sub_zero]
          refine (octet_FromBig_c E H2 (x.take 8) (by omega) (by unfold SlB; rw [e8]; unfold SlB at s8; rw [e8] at s8; exact s8)).mono ?_
          rintro v H3 ⟨rfl, rfl⟩
          have st1 : storeV H3 1 (.pointer (some ⟨j, 2, none⟩)) (.int .u64 ((fromBigF (x.take 8)).toNat : Nat)) = some (H3.set j (.own 0 [ptrV d, .int .i64 J.lives, .int .u64 ((fromBigF (x.take 8)).toNat : Nat), .int .i64 (J.part : Nat), .bool J.written, vb, vr, .bool J.full] 8)) := storeV_one_at RV2.2.1 rfl (by simp) (by simp)
          have P1 := RV2.put (fromBigF (x.take 8)).toNat J.part J.written J.full
          have e3 := RV2.put_ext (.own 0 [ptrV d, .int .i64 J.lives, .int .u64 ((fromBigF (x.take 8)).toNat : Nat), .int .i64 (J.part : Nat), .bool J.written, vb, vr, .bool J.full] 8)
          have s10 := s9.le e3.bare
          simp -implicitDefEqProofs only [zB1,zB2,zB3,zB4,zB5,zB6,zB7,zB8,zB9,zB10,zB11,y00,y01,y02,y03,y04,y05,y06,y07,y08,y09,y0a,y0b,y0c,y0d,y0e,y0f,y0g,y0h,y0i,y0j,y0k,y0l,y0m,y0n,y0o,y0p,y0q,y0r,y0s,y0t,y0u,y0v,y0w,y0x,y0y,y0z,y10,y11,y12,y13,y14,y15,y16,y17,y18,y19,y1a,y1b,y1c,y1d,y1e,y1f,y1g,y1h,y1i,y1j,y1k,y1l,y1m,y1n,y1o,y1p,y1q,y1r,retO,retL,retV,z6i,allV,allP,z6j,z6m,z6n,z6t,z6u,z6v,binV,eqV,unV,oOpt,reduceIte,reduceCtorEq,Nat.reduceEqDiff,Nat.reduceAdd,Nat.reduceMul,Nat.reduceLT,Nat.reduceSub,Int.reduceLT,Int.reduceLE,Int.reduceEq,Int.reduceNe,Int.reduceSub,Int.reduceAdd,Int.reduceMul,Int.reduceBEq,Int.reduceBNe,Int.reduceGT,Int.reduceGE,Nat.reduceGT,Int.reduceToNat,Int.reduceNeg,Nat.reduceLeDiff,Nat.reduceBEq,Nat.reduceBneDiff,Value.cells, u64V, st1, b2]
          generalize (H3.set j (.own 0 [ptrV d, .int .i64 J.lives, .int .u64 ((fromBigF (x.take 8)).toNat : Nat), .int .i64 (J.part : Nat), .bool J.written, vb, vr, .bool J.full] 8)) = H4 at P1 e3 s10 ⊢
          refine (bytes_Clone_c E H4 (x.drop 8) (by rw [List.length_drop]; omega) (s10.le (Heap.bare_le _ _))).mono ?_
          rintro wv H5 ⟨le5, o5⟩
          have e5 : Ext (fun _ => False) κ1 H4 (κ1.grow H4 (j, j, 8)) H5 := Ext.tint le5
          have P5 := P1.ext e5 (fun _ _ q => q)
          have o5' : OwK (κ1.grow H4 (j, j, 8)) (j, j, 8) H5 1 wv (x.drop 8).length ((x.drop 8).map u8V) := OwK.tinted o5
          have ow1 : one wv = true := by
            obtain ⟨wb, wc, rfl⟩ := Sl.shape o5.sl
            rfl
          have st2 : storeV H5 1 (.pointer (some ⟨j, 5, none⟩)) wv = some (H5.set j (.own 0 [ptrV d, .int .i64 J.lives, .int .u64 ((fromBigF (x.take 8)).toNat : Nat), .int .i64 (J.part : Nat), .bool J.written, wv, vr, .bool J.full] 8)) := storeV_one_at P5.2.1 ow1 (by simp) (by simp)
          have P6 := P5.setb o5'
          have e6 := P5.put_ext (.own 0 [ptrV d, .int .i64 J.lives, .int .u64 ((fromBigF (x.take 8)).toNat : Nat), .int .i64 (J.part : Nat), .bool J.written, wv, vr, .bool J.full] 8)
          simp -implicitDefEqProofs only [zB1,zB2,zB3,zB4,zB5,zB6,zB7,zB8,zB9,zB10,zB11,y00,y01,y02,y03,y04,y05,y06,y07,y08,y09,y0a,y0b,y0c,y0d,y0e,y0f,y0g,y0h,y0i,y0j,y0k,y0l,y0m,y0n,y0o,y0p,y0q,y0r,y0s,y0t,y0u,y0v,y0w,y0x,y0y,y0z,y10,y11,y12,y13,y14,y15,y16,y17,y18,y19,y1a,y1b,y1c,y1d,y1e,y1f,y1g,y1h,y1i,y1j,y1k,y1l,y1m,y1n,y1o,y1p,y1q,y1r,retO,retL,retV,z6i,allV,allP,z6j,z6m,z6n,z6t,z6u,z6v,binV,eqV,unV,oOpt,reduceIte,reduceCtorEq,Nat.reduceEqDiff,Nat.reduceAdd,Nat.reduceMul,Nat.reduceLT,Nat.reduceSub,Int.reduceLT,Int.reduceLE,Int.reduceEq,Int.reduceNe,Int.reduceSub,Int.reduceAdd,Int.reduceMul,Int.reduceBEq,Int.reduceBNe,Int.reduceGT,Int.reduceGE,Nat.reduceGT,Int.reduceToNat,Int.reduceNeg,Nat.reduceLeDiff,Nat.reduceBEq,Nat.reduceBneDiff,Value.cells, st2]
          exact ⟨_, ((ej2.trans e3).trans (e5.mono fun c h => h.elim)).trans e6, wv, vr, rs, P6⟩
        · have g1 : ¬ ((0 : Int) < y.length) := by omega
          have g2 : ((x.length : Int) < 8) := by omega
          simp -implicitDefEqProofs only [zB1,zB2,zB3,zB4,zB5,zB6,zB7,zB8,zB9,zB10,zB11,y00,y01,y02,y03,y04,y05,y06,y07,y08,y09,y0a,y0b,y0c,y0d,y0e,y0f,y0g,y0h,y0i,y0j,y0k,y0l,y0m,y0n,y0o,y0p,y0q,y0r,y0s,y0t,y0u,y0v,y0w,y0x,y0y,y0z,y10,y11,y12,y13,y14,y15,y16,y17,y18,y19,y1a,y1b,y1c,y1d,y1e,y1f,y1g,y1h,y1i,y1j,y1k,y1l,y1m,y1n,y1o,y1p,y1q,y1r,retO,retL,retV,z6i,allV,allP,z6j,z6m,z6n,z6t,z6u,z6v,binV,eqV,unV,oOpt,reduceIte,reduceCtorEq,Nat.reduceEqDiff,Nat.reduceAdd,Nat.reduceMul,Nat.reduceLT,Nat.reduceSub,Int.reduceLT,Int.reduceLE,Int.reduceEq,Int.reduceNe,Int.reduceSub,Int.reduceAdd,Int.reduceMul,Int.reduceBEq,Int.reduceBNe,Int.reduceGT,Int.reduceGE,Nat.reduceGT,Int.reduceToNat,Int.reduceNeg,Nat.reduceLeDiff,Nat.reduceBEq,Nat.reduceBneDiff,Value.cells, g1, g2, hy, hx]
          exact ⟨κ1, ej2, ⟨vb, vr, rs, RV2⟩⟩
      · have g1 : ((0 : Int) < y.length) := by omega
        simp -implicitDefEqProofs only [zB1,zB2,zB3,zB4,zB5,zB6,zB7,zB8,zB9,zB10,zB11,y00,y01,y02,y03,y04,y05,y06,y07,y08,y09,y0a,y0b,y0c,y0d,y0e,y0f,y0g,y0h,y0i,y0j,y0k,y0l,y0m,y0n,y0o,y0p,y0q,y0r,y0s,y0t,y0u,y0v,y0w,y0x,y0y,y0z,y10,y11,y12,y13,y14,y15,y16,y17,y18,y19,y1a,y1b,y1c,y1d,y1e,y1f,y1g,y1h,y1i,y1j,y1k,y1l,y1m,y1n,y1o,y1p,y1q,y1r,retO,retL,retV,z6i,allV,allP,z6j,z6m,z6n,z6t,z6u,z6v,binV,eqV,unV,oOpt,reduceIte,reduceCtorEq,Nat.reduceEqDiff,Nat.reduceAdd,Nat.reduceMul,Nat.reduceLT,Nat.reduceSub,Int.reduceLT,Int.reduceLE,Int.reduceEq,Int.reduceNe,Int.reduceSub,Int.reduceAdd,Int.reduceMul,Int.reduceBEq,Int.reduceBNe,Int.reduceGT,Int.reduceGE,Nat.reduceGT,Int.reduceToNat,Int.reduceNeg,Nat.reduceLeDiff,Nat.reduceBEq,Nat.reduceBneDiff,Value.cells, g1, hy, false_and]
        exact ⟨κ1, ej2, ⟨vb, vr, rs, RV2⟩⟩
  · have e0' : (((e : Nat) : Int) == 0) = false := by simpa using e0
    by_cases e4 : e = 4
    · subst e4
      simp -implicitDefEqProofs only [zB1,zB2,zB3,zB4,zB5,zB6,zB7,zB8,zB9,zB10,zB11,y00,y01,y02,y03,y04,y05,y06,y07,y08,y09,y0a,y0b,y0c,y0d,y0e,y0f,y0g,y0h,y0i,y0j,y0k,y0l,y0m,y0n,y0o,y0p,y0q,y0r,y0s,y0t,y0u,y0v,y0w,y0x,y0y,y0z,y10,y11,y12,y13,y14,y15,y16,y17,y18,y19,y1a,y1b,y1c,y1d,y1e,y1f,y1g,y1h,y1i,y1j,y1k,y1l,y1m,y1n,y1o,y1p,y1q,y1r,retO,retL,retV,z6i,allV,allP,z6j,z6m,z6n,z6t,z6u,z6v,binV,eqV,unV,oOpt,reduceIte,reduceCtorEq,Nat.reduceEqDiff,Nat.reduceAdd,Nat.reduceMul,Nat.reduceLT,Nat.reduceSub,Int.reduceLT,Int.reduceLE,Int.reduceEq,Int.reduceNe,Int.reduceSub,Int.reduceAdd,Int.reduceMul,Int.reduceBEq,Int.reduceBNe,Int.reduceGT,Int.reduceGE,Nat.reduceGT,Int.reduceToNat,Int.reduceNeg,Nat.reduceLeDiff,Nat.reduceBEq,Nat.reduceBneDiff,Value.cells, e0', e0, beq_self_eq_true]
      exact ⟨κ1, ej, ⟨vb, vr, rs, RV1⟩⟩
    · have e4' : (((e : Nat) : Int) == 4) = false := by simp; omega
      simp -implicitDefEqProofs only [zB1,zB2,zB3,zB4,zB5,zB6,zB7,zB8,zB9,zB10,zB11,y00,y01,y02,y03,y04,y05,y06,y07,y08,y09,y0a,y0b,y0c,y0d,y0e,y0f,y0g,y0h,y0i,y0j,y0k,y0l,y0m,y0n,y0o,y0p,y0q,y0r,y0s,y0t,y0u,y0v,y0w,y0x,y0y,y0z,y10,y11,y12,y13,y14,y15,y16,y17,y18,y19,y1a,y1b,y1c,y1d,y1e,y1f,y1g,y1h,y1i,y1j,y1k,y1l,y1m,y1n,y1o,y1p,y1q,y1r,retO,retL,retV,z6i,allV,allP,z6j,z6m,z6n,z6t,z6u,z6v,binV,eqV,unV,oOpt,reduceIte,reduceCtorEq,Nat.reduceEqDiff,Nat.reduceAdd,Nat.reduceMul,Nat.reduceLT,Nat.reduceSub,Int.reduceLT,Int.reduceLE,Int.reduceEq,Int.reduceNe,Int.reduceSub,Int.reduceAdd,Int.reduceMul,Int.reduceBEq,Int.reduceBNe,Int.reduceGT,Int.reduceGE,Nat.reduceGT,Int.reduceToNat,Int.reduceNeg,Nat.reduceLeDiff,Nat.reduceBEq,Nat.reduceBneDiff,Value.cells, e0', e4', e0, e4]
      exact ⟨κ1, ej, ⟨vb, vr, rs, RV1⟩⟩
end Go.Bb
/- Contracts: a journal's file of records read. -/
namespace Go.Bb
set_option linter.unusedSimpArgs false
set_option linter.unusedVariables false
set_option maxRecDepth 20000
set_option maxHeartbeats 2000000

def parseF : Nat → List UInt8 → List (List UInt8) × Bool
  | 0, b => ([], decide (b.length = 0))
  | n + 1, b => if b.length = 0 then ([], true) else
    match nextF b with
    | none => ([], false)
    | some (x, y) => (x :: (parseF n y).1, (parseF n y).2)
theorem parseF_len : ∀ (n : Nat) (b : List UInt8), (parseF n b).1.length * 20 ≤ b.length
  | 0, b => by simp [parseF]
  | n + 1, b => by
    unfold parseF
    split
    · simp
    · split
      · simp
      · rename_i x y h
        have h1 := (nextF_len h).1
        have h2 := parseF_len n y
        simp only [List.length_cons]
        omega
def readPartF (J : JF) (D : DiskF) (p : Nat) : JF × DiskF × Bool :=
  if (readF D (nameF J.turn p)).2 = 0 then
    ({ J with part := if (parseF (readF D (nameF J.turn p)).1.length (readF D (nameF J.turn p)).1).2 then p else p + 1, written := (parseF (readF D (nameF J.turn p)).1.length (readF D (nameF J.turn p)).1).2, recs := J.recs ++ (parseF (readF D (nameF J.turn p)).1.length (readF D (nameF J.turn p)).1).1 },
      (syncF D (nameF J.turn p)).1, true)
  else (J, D, false)
theorem readF_len {D : DiskF} (ok : D.ok) (s : List UInt8) : (readF D s).1.length ≤ 1048576 := by
  unfold readF
  split
  · split
    · simp
    · rename_i F hF
      unfold lookF at hF
      obtain ⟨z, hz, rfl⟩ := Option.map_eq_some_iff.1 hF
      have := size_le (List.mem_of_find?_eq_some hz)
      have := ok.2.1
      unfold FileF.size at *
      show z.2.all.length ≤ _
      omega
  · simp
theorem journal_readPart_c (E : EnvT tab) {κ : Pal} {H : Heap} {j d : Nat} {J : JF} {D : DiskF} (R : JouR κ H j d J) (RD : DiskR κ H d D) (ne : d ≠ j) (ok : D.ok) (ht : J.turn < 64) (p : Nat) (hp : p < 64) (hr : J.recs.length ≤ 10000000) :
    ACallN E.toEnv n_journal_Journal_readPart [ptrV j, .int .i64 p] H fun r H' => r = .bool (readPartF J D p).2.2 ∧ ∃ κ', Ext (jdC j d) κ H κ' H' ∧ JouR κ' H' j d (readPartF J D p).1 ∧ DiskR κ' H' d (readPartF J D p).2.1 := by
  have R0 := R
  obtain ⟨vb, vr, rs, RV⟩ := R
  have q := RV.2.1
  refine acall h_journal_Journal_readPart ir_journal_Journal_readPart rfl rfl (wpA_sound ?_)
  unfold ir_journal_Journal_readPart
  have j0 : ∀ M, H.le M → hcell M ⟨j, 0, none⟩ = some (ptrV d) := fun M x => by rw [hcell_at (x _ _ q) (by simp)]; rfl
  have j2 : hcell H ⟨j, 2, none⟩ = some (.int .u64 (J.turn : Nat)) := by rw [hcell_at q (by simp)]; rfl
  have j00 := j0 H (Heap.le_refl _)
  simp -implicitDefEqProofs only [zB1,zB2,zB3,zB4,zB5,zB6,zB7,zB8,zB9,zB10,zB11,y00,y01,y02,y03,y04,y05,y06,y07,y08,y09,y0a,y0b,y0c,y0d,y0e,y0f,y0g,y0h,y0i,y0j,y0k,y0l,y0m,y0n,y0o,y0p,y0q,y0r,y0s,y0t,y0u,y0v,y0w,y0x,y0y,y0z,y10,y11,y12,y13,y14,y15,y16,y17,y18,y19,y1a,y1b,y1c,y1d,y1e,y1f,y1g,y1h,y1i,y1j,y1k,y1l,y1m,y1n,y1o,y1p,y1q,y1r,retO,retL,retV,z6i,allV,allP,z6j,z6m,z6n,z6t,z6u,z6v,binV,eqV,unV,oOpt,reduceIte,reduceCtorEq,Nat.reduceEqDiff,Nat.reduceAdd,Nat.reduceMul,Nat.reduceLT,Nat.reduceSub,Int.reduceLT,Int.reduceLE,Int.reduceEq,Int.reduceNe,Int.reduceSub,Int.reduceAdd,Int.reduceMul,Int.reduceBEq,Int.reduceBNe,Int.reduceGT,Int.reduceGE,Nat.reduceGT,Int.reduceToNat,Int.reduceNeg,Nat.reduceLeDiff,Nat.reduceBEq,Nat.reduceBneDiff,Value.cells, j2]
  refine (journal_name_c E H J.turn p ht hp).mono ?_
  rintro v H1 ⟨le1, rfl⟩
  have j01 := j0 H1 le1
  simp -implicitDefEqProofs only [zB1,zB2,zB3,zB4,zB5,zB6,zB7,zB8,zB9,zB10,zB11,y00,y01,y02,y03,y04,y05,y06,y07,y08,y09,y0a,y0b,y0c,y0d,y0e,y0f,y0g,y0h,y0i,y0j,y0k,y0l,y0m,y0n,y0o,y0p,y0q,y0r,y0s,y0t,y0u,y0v,y0w,y0x,y0y,y0z,y10,y11,y12,y13,y14,y15,y16,y17,y18,y19,y1a,y1b,y1c,y1d,y1e,y1f,y1g,y1h,y1i,y1j,y1k,y1l,y1m,y1n,y1o,y1p,y1q,y1r,retO,retL,retV,z6i,allV,allP,z6j,z6m,z6n,z6t,z6u,z6v,binV,eqV,unV,oOpt,reduceIte,reduceCtorEq,Nat.reduceEqDiff,Nat.reduceAdd,Nat.reduceMul,Nat.reduceLT,Nat.reduceSub,Int.reduceLT,Int.reduceLE,Int.reduceEq,Int.reduceNe,Int.reduceSub,Int.reduceAdd,Int.reduceMul,Int.reduceBEq,Int.reduceBNe,Int.reduceGT,Int.reduceGE,Nat.reduceGT,Int.reduceToNat,Int.reduceNeg,Nat.reduceLeDiff,Nat.reduceBEq,Nat.reduceBneDiff,Value.cells, j00, j01, implies_true, List.mem_cons, List.not_mem_nil, List.mem_singleton, or_false, forall_eq, forall_eq_or_imp, and_self]
  refine (disk_Read_c E (RD.le le1) ok (nameF J.turn p) (by have := @name_len J.turn p; omega)).mono ?_
  rintro v H2 ⟨le2, sb, sc, rfl, o2⟩
  have hlen := readF_len ok (nameF J.turn p)
  unfold readPartF
  generalize readF D (nameF J.turn p) = X at o2 hlen ⊢
  obtain ⟨b, e⟩ := X
  simp only at o2 hlen ⊢
  have le02 := Heap.le_trans le1 le2
  by_cases e0 : ¬ e = 0
  · have e0' : ¬ ((e : Nat) : Int) = 0 := by omega
    simp -implicitDefEqProofs only [zB1,zB2,zB3,zB4,zB5,zB6,zB7,zB8,zB9,zB10,zB11,y00,y01,y02,y03,y04,y05,y06,y07,y08,y09,y0a,y0b,y0c,y0d,y0e,y0f,y0g,y0h,y0i,y0j,y0k,y0l,y0m,y0n,y0o,y0p,y0q,y0r,y0s,y0t,y0u,y0v,y0w,y0x,y0y,y0z,y10,y11,y12,y13,y14,y15,y16,y17,y18,y19,y1a,y1b,y1c,y1d,y1e,y1f,y1g,y1h,y1i,y1j,y1k,y1l,y1m,y1n,y1o,y1p,y1q,y1r,retO,retL,retV,z6i,allV,allP,z6j,z6m,z6n,z6t,z6u,z6v,binV,eqV,unV,oOpt,reduceIte,reduceCtorEq,Nat.reduceEqDiff,Nat.reduceAdd,Nat.reduceMul,Nat.reduceLT,Nat.reduceSub,Int.reduceLT,Int.reduceLE,Int.reduceEq,Int.reduceNe,Int.reduceSub,Int.reduceAdd,Int.reduceMul,Int.reduceBEq,Int.reduceBNe,Int.reduceGT,Int.reduceGE,Nat.reduceGT,Int.reduceToNat,Int.reduceNeg,Nat.reduceLeDiff,Nat.reduceBEq,Nat.reduceBneDiff,Value.cells, e0', e0]
    exact ⟨κ, Ext.le le02, R0.le le02, RD.le le02⟩
  have e0 := Decidable.not_not.1 e0
  subst e0
  have ew : Ext (fun _ => False) κ H ((κ.wash H1)) H2 := (Ext.le (cs := fun _ => False) le1).trans (Ext.wash le2)
  have RV2 := RV.ext ew (fun _ _ q => q)
  have RD2 := RD.ext ew (fun _ _ q => q)
  have s2 : SlB (H2.bare (κ.wash H1)) (.slice sb b.length sc) b := o2.bare
  generalize κ.wash H1 = κ2 at ew RV2 RD2 s2
  have q2 := RV2.2.1
  have k0 : ∀ M, H2.le M → hcell M ⟨j, 0, none⟩ = some (ptrV d) := fun M x => by rw [hcell_at (x _ _ q2) (by simp)]; rfl
  have k2 : hcell H2 ⟨j, 2, none⟩ = some (.int .u64 (J.turn : Nat)) := by rw [hcell_at q2 (by simp)]; rfl
  have k00 := k0 H2 (Heap.le_refl _)
  simp -implicitDefEqProofs only [zB1,zB2,zB3,zB4,zB5,zB6,zB7,zB8,zB9,zB10,zB11,y00,y01,y02,y03,y04,y05,y06,y07,y08,y09,y0a,y0b,y0c,y0d,y0e,y0f,y0g,y0h,y0i,y0j,y0k,y0l,y0m,y0n,y0o,y0p,y0q,y0r,y0s,y0t,y0u,y0v,y0w,y0x,y0y,y0z,y10,y11,y12,y13,y14,y15,y16,y17,y18,y19,y1a,y1b,y1c,y1d,y1e,y1f,y1g,y1h,y1i,y1j,y1k,y1l,y1m,y1n,y1o,y1p,y1q,y1r,retO,retL,retV,z6i,allV,allP,z6j,z6m,z6n,z6t,z6u,z6v,binV,eqV,unV,oOpt,reduceIte,reduceCtorEq,Nat.reduceEqDiff,Nat.reduceAdd,Nat.reduceMul,Nat.reduceLT,Nat.reduceSub,Int.reduceLT,Int.reduceLE,Int.reduceEq,Int.reduceNe,Int.reduceSub,Int.reduceAdd,Int.reduceMul,Int.reduceBEq,Int.reduceBNe,Int.reduceGT,Int.reduceGE,Nat.reduceGT,Int.reduceToNat,Int.reduceNeg,Nat.reduceLeDiff,Nat.reduceBEq,Nat.reduceBneDiff,Value.cells]
  unfold ir_journal_Journal_readPart_30
  simp -implicitDefEqProofs only [zB1,zB2,zB3,zB4,zB5,zB6,zB7,zB8,zB9,zB10,zB11,y00,y01,y02,y03,y04,y05,y06,y07,y08,y09,y0a,y0b,y0c,y0d,y0e,y0f,y0g,y0h,y0i,y0j,y0k,y0l,y0m,y0n,y0o,y0p,y0q,y0r,y0s,y0t,y0u,y0v,y0w,y0x,y0y,y0z,y10,y11,y12,y13,y14,y15,y16,y17,y18,y19,y1a,y1b,y1c,y1d,y1e,y1f,y1g,y1h,y1i,y1j,y1k,y1l,y1m,y1n,y1o,y1p,y1q,y1r,retO,retL,retV,z6i,allV,allP,z6j,z6m,z6n,z6t,z6u,z6v,binV,eqV,unV,oOpt,reduceIte,reduceCtorEq,Nat.reduceEqDiff,Nat.reduceAdd,Nat.reduceMul,Nat.reduceLT,Nat.reduceSub,Int.reduceLT,Int.reduceLE,Int.reduceEq,Int.reduceNe,Int.reduceSub,Int.reduceAdd,Int.reduceMul,Int.reduceBEq,Int.reduceBNe,Int.reduceGT,Int.reduceGE,Nat.reduceGT,Int.reduceToNat,Int.reduceNeg,Nat.reduceLeDiff,Nat.reduceBEq,Nat.reduceBneDiff,Value.cells, k2]
  refine (journal_name_c E H2 J.turn p ht hp).mono ?_
  rintro v H3 ⟨le3, rfl⟩
  have k01 := k0 H3 le3
  simp -implicitDefEqProofs only [zB1,zB2,zB3,zB4,zB5,zB6,zB7,zB8,zB9,zB10,zB11,y00,y01,y02,y03,y04,y05,y06,y07,y08,y09,y0a,y0b,y0c,y0d,y0e,y0f,y0g,y0h,y0i,y0j,y0k,y0l,y0m,y0n,y0o,y0p,y0q,y0r,y0s,y0t,y0u,y0v,y0w,y0x,y0y,y0z,y10,y11,y12,y13,y14,y15,y16,y17,y18,y19,y1a,y1b,y1c,y1d,y1e,y1f,y1g,y1h,y1i,y1j,y1k,y1l,y1m,y1n,y1o,y1p,y1q,y1r,retO,retL,retV,z6i,allV,allP,z6j,z6m,z6n,z6t,z6u,z6v,binV,eqV,unV,oOpt,reduceIte,reduceCtorEq,Nat.reduceEqDiff,Nat.reduceAdd,Nat.reduceMul,Nat.reduceLT,Nat.reduceSub,Int.reduceLT,Int.reduceLE,Int.reduceEq,Int.reduceNe,Int.reduceSub,Int.reduceAdd,Int.reduceMul,Int.reduceBEq,Int.reduceBNe,Int.reduceGT,Int.reduceGE,Nat.reduceGT,Int.reduceToNat,Int.reduceNeg,Nat.reduceLeDiff,Nat.reduceBEq,Nat.reduceBneDiff,Value.cells, k00, k01, implies_true, List.mem_cons, List.not_mem_nil, List.mem_singleton, or_false, forall_eq, forall_eq_or_imp, and_self]
  refine (disk_Sync_c E (RD2.le le3) ok (nameF J.turn p) (by have := @name_len J.turn p; omega)).mono ?_
  rintro v H4 ⟨rfl, κ4, e4, R4⟩
  have e24 : Ext (diskC d) κ2 H2 κ4 H4 := (Ext.le le3).trans e4
  have RV4 := RV2.ext e24 fun c h q => ne (by unfold diskC at q; rw [← q, h])
  have s4 := s2.le e24.bare
  have e04 : Ext (jdC j d) κ H κ4 H4 := (ew.mono fun c h => h.elim).trans (ext_dj e24)
  have st1 : storeV H4 1 (.pointer (some ⟨j, 3, none⟩)) (.int .i64 p) = some (H4.set j (.own 0 [ptrV d, .int .i64 J.lives, .int .u64 (J.turn : Nat), .int .i64 (p : Nat), .bool J.written, vb, vr, .bool J.full] 8)) := storeV_one_at RV4.2.1 rfl (by simp) (by simp)
  have st2 : storeV (H4.set j (.own 0 [ptrV d, .int .i64 J.lives, .int .u64 (J.turn : Nat), .int .i64 (p : Nat), .bool J.written, vb, vr, .bool J.full] 8)) 1 (.pointer (some ⟨j, 4, none⟩)) (.bool true) = some ((H4.set j (.own 0 [ptrV d, .int .i64 J.lives, .int .u64 (J.turn : Nat), .int .i64 (p : Nat), .bool J.written, vb, vr, .bool J.full] 8)).set j (.own 0 [ptrV d, .int .i64 J.lives, .int .u64 (J.turn : Nat), .int .i64 (p : Nat), .bool true, vb, vr, .bool J.full] 8)) := storeV_one_at (Heap.set_self _ _ _) rfl (by simp) (by simp)
  have P1 := RV4.put J.turn p true J.full
  have e5 := RV4.put_ext (.own 0 [ptrV d, .int .i64 J.lives, .int .u64 (J.turn : Nat), .int .i64 (p : Nat), .bool true, vb, vr, .bool J.full] 8)
  have s5 := s4.le e5.bare
  have R5 := R4.off e5 ne.symm
  have e05 := e04.trans (ext_jd e5)
  simp -implicitDefEqProofs only [zB1,zB2,zB3,zB4,zB5,zB6,zB7,zB8,zB9,zB10,zB11,y00,y01,y02,y03,y04,y05,y06,y07,y08,y09,y0a,y0b,y0c,y0d,y0e,y0f,y0g,y0h,y0i,y0j,y0k,y0l,y0m,y0n,y0o,y0p,y0q,y0r,y0s,y0t,y0u,y0v,y0w,y0x,y0y,y0z,y10,y11,y12,y13,y14,y15,y16,y17,y18,y19,y1a,y1b,y1c,y1d,y1e,y1f,y1g,y1h,y1i,y1j,y1k,y1l,y1m,y1n,y1o,y1p,y1q,y1r,retO,retL,retV,z6i,allV,allP,z6j,z6m,z6n,z6t,z6u,z6v,binV,eqV,unV,oOpt,reduceIte,reduceCtorEq,Nat.reduceEqDiff,Nat.reduceAdd,Nat.reduceMul,Nat.reduceLT,Nat.reduceSub,Int.reduceLT,Int.reduceLE,Int.reduceEq,Int.reduceNe,Int.reduceSub,Int.reduceAdd,Int.reduceMul,Int.reduceBEq,Int.reduceBNe,Int.reduceGT,Int.reduceGE,Nat.reduceGT,Int.reduceToNat,Int.reduceNeg,Nat.reduceLeDiff,Nat.reduceBEq,Nat.reduceBneDiff,Value.cells, st1, st2]
  generalize (H4.set j (.own 0 [ptrV d, .int .i64 J.lives, .int .u64 (J.turn : Nat), .int .i64 (p : Nat), .bool true, vb, vr, .bool J.full] 8)) = H5 at P1 s5 R5 e05 ⊢
  clear e4 e24 e04 e5 st1 st2
  refine wp_loop' (fun m t G => ∃ (acc : List (List UInt8)) (rest : List UInt8) (κ' : Pal) (rb : Option Addr) (rc f : Nat), t = tl [(0, ptrV j), (1, .int .i64 p), (5, .slice rb rest.length rc)] ∧ m = rest.length ∧ Ext (jouC j) κ4 H5 κ' G ∧ SlB (H5.bare κ4) (.slice rb rest.length rc) rest ∧
      JouR κ' G j d { J with part := p, written := true, recs := J.recs ++ acc } ∧ rest.length ≤ f ∧ parseF b.length b = (acc ++ (parseF f rest).1, (parseF f rest).2) ∧ acc.length * 20 + rest.length ≤ b.length) b.length
    ⟨[], b, κ4, sb, sc, b.length, rfl, rfl, Ext.refl _ _ _, s5, ⟨vb, vr, rs, by simpa using P1⟩, Nat.le_refl _, by simp, by simp⟩ ?_
  rintro m t G ⟨acc, rest, κ', rb, rc, f, rfl, rfl, eG, sr, RG, hf, eP, hacc⟩
  have RDG := R5.off eG ne.symm
  have e0G := e05.trans (ext_jd eG)
  by_cases hz : rest.length = 0
  · have g1 : ¬ (0 : Int) < rest.length := by omega
    have eP' : parseF b.length b = (acc, true) := by
      rw [eP]
      cases f with
      | zero => simp [parseF, hz]
      | succ f => simp [parseF, hz]
    simp -implicitDefEqProofs only [zB1,zB2,zB3,zB4,zB5,zB6,zB7,zB8,zB9,zB10,zB11,y00,y01,y02,y03,y04,y05,y06,y07,y08,y09,y0a,y0b,y0c,y0d,y0e,y0f,y0g,y0h,y0i,y0j,y0k,y0l,y0m,y0n,y0o,y0p,y0q,y0r,y0s,y0t,y0u,y0v,y0w,y0x,y0y,y0z,y10,y11,y12,y13,y14,y15,y16,y17,y18,y19,y1a,y1b,y1c,y1d,y1e,y1f,y1g,y1h,y1i,y1j,y1k,y1l,y1m,y1n,y1o,y1p,y1q,y1r,retO,retL,retV,z6i,allV,allP,z6j,z6m,z6n,z6t,z6u,z6v,binV,eqV,unV,oOpt,reduceIte,reduceCtorEq,Nat.reduceEqDiff,Nat.reduceAdd,Nat.reduceMul,Nat.reduceLT,Nat.reduceSub,Int.reduceLT,Int.reduceLE,Int.reduceEq,Int.reduceNe,Int.reduceSub,Int.reduceAdd,Int.reduceMul,Int.reduceBEq,Int.reduceBNe,Int.reduceGT,Int.reduceGE,Nat.reduceGT,Int.reduceToNat,Int.reduceNeg,Nat.reduceLeDiff,Nat.reduceBEq,Nat.reduceBneDiff,Value.cells, g1]
    rw [eP']
    exact ⟨κ', e0G, RG, RDG⟩
  have g1 : (0 : Int) < rest.length := by omega
  obtain ⟨f, rfl⟩ : ∃ f', f = f' + 1 := ⟨f - 1, by omega⟩
  rw [parseF, if_neg hz] at eP
  obtain ⟨vb6, vr6, rs6, RV6⟩ := RG
  have le0 : (H5.bare κ4).le G := Heap.le_trans eG.bare (Heap.bare_le _ _)
  simp -implicitDefEqProofs only [zB1,zB2,zB3,zB4,zB5,zB6,zB7,zB8,zB9,zB10,zB11,y00,y01,y02,y03,y04,y05,y06,y07,y08,y09,y0a,y0b,y0c,y0d,y0e,y0f,y0g,y0h,y0i,y0j,y0k,y0l,y0m,y0n,y0o,y0p,y0q,y0r,y0s,y0t,y0u,y0v,y0w,y0x,y0y,y0z,y10,y11,y12,y13,y14,y15,y16,y17,y18,y19,y1a,y1b,y1c,y1d,y1e,y1f,y1g,y1h,y1i,y1j,y1k,y1l,y1m,y1n,y1o,y1p,y1q,y1r,retO,retL,retV,z6i,allV,allP,z6j,z6m,z6n,z6t,z6u,z6v,binV,eqV,unV,oOpt,reduceIte,reduceCtorEq,Nat.reduceEqDiff,Nat.reduceAdd,Nat.reduceMul,Nat.reduceLT,Nat.reduceSub,Int.reduceLT,Int.reduceLE,Int.reduceEq,Int.reduceNe,Int.reduceSub,Int.reduceAdd,Int.reduceMul,Int.reduceBEq,Int.reduceBNe,Int.reduceGT,Int.reduceGE,Nat.reduceGT,Int.reduceToNat,Int.reduceNeg,Nat.reduceLeDiff,Nat.reduceBEq,Nat.reduceBneDiff,Value.cells, g1]
  unfold ir_journal_Journal_readPart_48
  simp -implicitDefEqProofs only [zB1,zB2,zB3,zB4,zB5,zB6,zB7,zB8,zB9,zB10,zB11,y00,y01,y02,y03,y04,y05,y06,y07,y08,y09,y0a,y0b,y0c,y0d,y0e,y0f,y0g,y0h,y0i,y0j,y0k,y0l,y0m,y0n,y0o,y0p,y0q,y0r,y0s,y0t,y0u,y0v,y0w,y0x,y0y,y0z,y10,y11,y12,y13,y14,y15,y16,y17,y18,y19,y1a,y1b,y1c,y1d,y1e,y1f,y1g,y1h,y1i,y1j,y1k,y1l,y1m,y1n,y1o,y1p,y1q,y1r,retO,retL,retV,z6i,allV,allP,z6j,z6m,z6n,z6t,z6u,z6v,binV,eqV,unV,oOpt,reduceIte,reduceCtorEq,Nat.reduceEqDiff,Nat.reduceAdd,Nat.reduceMul,Nat.reduceLT,Nat.reduceSub,Int.reduceLT,Int.reduceLE,Int.reduceEq,Int.reduceNe,Int.reduceSub,Int.reduceAdd,Int.reduceMul,Int.reduceBEq,Int.reduceBNe,Int.reduceGT,Int.reduceGE,Nat.reduceGT,Int.reduceToNat,Int.reduceNeg,Nat.reduceLeDiff,Nat.reduceBEq,Nat.reduceBneDiff,Value.cells]
  refine (journal_next_c E le0 rest (by omega) sr).mono ?_
  rintro v H6 ⟨le6, h⟩
  have RV7 := RV6.ext (Ext.le (cs := fun _ => False) le6) (fun _ _ q => q)
  rcases h with ⟨hn, rfl⟩ | ⟨x, y, vx, vy, hn, rfl, sx, sy⟩
  · rw [hn] at eP
    simp only at eP
    have wp : IntKind.i64.wrap ((p : Int) + 1) = ((p + 1 : Nat) : Int) := wrapN (by omega)
    have st1 : storeV H6 1 (.pointer (some ⟨j, 3, none⟩)) (.int .i64 ((p + 1 : Nat) : Int)) = some (H6.set j (.own 0 [ptrV d, .int .i64 J.lives, .int .u64 (J.turn : Nat), .int .i64 ((p + 1 : Nat) : Int), .bool true, vb6, vr6, .bool J.full] 8)) := storeV_one_at RV7.2.1 rfl (by simp) (by simp)
    have st2 : storeV (H6.set j (.own 0 [ptrV d, .int .i64 J.lives, .int .u64 (J.turn : Nat), .int .i64 ((p + 1 : Nat) : Int), .bool true, vb6, vr6, .bool J.full] 8)) 1 (.pointer (some ⟨j, 4, none⟩)) (.bool false) = some ((H6.set j (.own 0 [ptrV d, .int .i64 J.lives, .int .u64 (J.turn : Nat), .int .i64 ((p + 1 : Nat) : Int), .bool true, vb6, vr6, .bool J.full] 8)).set j (.own 0 [ptrV d, .int .i64 J.lives, .int .u64 (J.turn : Nat), .int .i64 ((p + 1 : Nat) : Int), .bool false, vb6, vr6, .bool J.full] 8)) := storeV_one_at (Heap.set_self _ _ _) rfl (by simp) (by simp)
    have P7 := RV7.put J.turn (p + 1) false J.full
    have e7 := RV7.put_ext (.own 0 [ptrV d, .int .i64 J.lives, .int .u64 (J.turn : Nat), .int .i64 ((p + 1 : Nat) : Int), .bool false, vb6, vr6, .bool J.full] 8)
    simp -implicitDefEqProofs only [zB1,zB2,zB3,zB4,zB5,zB6,zB7,zB8,zB9,zB10,zB11,y00,y01,y02,y03,y04,y05,y06,y07,y08,y09,y0a,y0b,y0c,y0d,y0e,y0f,y0g,y0h,y0i,y0j,y0k,y0l,y0m,y0n,y0o,y0p,y0q,y0r,y0s,y0t,y0u,y0v,y0w,y0x,y0y,y0z,y10,y11,y12,y13,y14,y15,y16,y17,y18,y19,y1a,y1b,y1c,y1d,y1e,y1f,y1g,y1h,y1i,y1j,y1k,y1l,y1m,y1n,y1o,y1p,y1q,y1r,retO,retL,retV,z6i,allV,allP,z6j,z6m,z6n,z6t,z6u,z6v,binV,eqV,unV,oOpt,reduceIte,reduceCtorEq,Nat.reduceEqDiff,Nat.reduceAdd,Nat.reduceMul,Nat.reduceLT,Nat.reduceSub,Int.reduceLT,Int.reduceLE,Int.reduceEq,Int.reduceNe,Int.reduceSub,Int.reduceAdd,Int.reduceMul,Int.reduceBEq,Int.reduceBNe,Int.reduceGT,Int.reduceGE,Nat.reduceGT,Int.reduceToNat,Int.reduceNeg,Nat.reduceLeDiff,Nat.reduceBEq,Nat.reduceBneDiff,Value.cells, wp, st1, st2]
    rw [eP, List.append_nil]
    exact ⟨κ', (e0G.trans (Ext.le le6)).trans (ext_jd e7), ⟨vb6, vr6, rs6, P7⟩, (RDG.le le6).off e7 ne.symm⟩
  · rw [hn] at eP
    simp only at eP
    obtain ⟨xb, xc, rfl⟩ := Sl.shape sx
    obtain ⟨yb, yc, rfl⟩ := Sl.shape sy
    obtain ⟨nl, -⟩ := nextF_len hn
    have le06 := Heap.le_trans le0 le6
    simp -implicitDefEqProofs only [zB1,zB2,zB3,zB4,zB5,zB6,zB7,zB8,zB9,zB10,zB11,y00,y01,y02,y03,y04,y05,y06,y07,y08,y09,y0a,y0b,y0c,y0d,y0e,y0f,y0g,y0h,y0i,y0j,y0k,y0l,y0m,y0n,y0o,y0p,y0q,y0r,y0s,y0t,y0u,y0v,y0w,y0x,y0y,y0z,y10,y11,y12,y13,y14,y15,y16,y17,y18,y19,y1a,y1b,y1c,y1d,y1e,y1f,y1g,y1h,y1i,y1j,y1k,y1l,y1m,y1n,y1o,y1p,y1q,y1r,retO,retL,retV,z6i,allV,allP,z6j,z6m,z6n,z6t,z6u,z6v,binV,eqV,unV,oOpt,reduceIte,reduceCtorEq,Nat.reduceEqDiff,Nat.reduceAdd,Nat.reduceMul,Nat.reduceLT,Nat.reduceSub,Int.reduceLT,Int.reduceLE,Int.reduceEq,Int.reduceNe,Int.reduceSub,Int.reduceAdd,Int.reduceMul,Int.reduceBEq,Int.reduceBNe,Int.reduceGT,Int.reduceGE,Nat.reduceGT,Int.reduceToNat,Int.reduceNeg,Nat.reduceLeDiff,Nat.reduceBEq,Nat.reduceBneDiff,Value.cells]
    unfold ir_journal_Journal_readPart_68
    have q7 := RV7.2.1
    have m60 : hcell H6 ⟨j, 6, none⟩ = some vr6 := by rw [hcell_at q7 (by simp)]; rfl
    simp -implicitDefEqProofs only [zB1,zB2,zB3,zB4,zB5,zB6,zB7,zB8,zB9,zB10,zB11,y00,y01,y02,y03,y04,y05,y06,y07,y08,y09,y0a,y0b,y0c,y0d,y0e,y0f,y0g,y0h,y0i,y0j,y0k,y0l,y0m,y0n,y0o,y0p,y0q,y0r,y0s,y0t,y0u,y0v,y0w,y0x,y0y,y0z,y10,y11,y12,y13,y14,y15,y16,y17,y18,y19,y1a,y1b,y1c,y1d,y1e,y1f,y1g,y1h,y1i,y1j,y1k,y1l,y1m,y1n,y1o,y1p,y1q,y1r,retO,retL,retV,z6i,allV,allP,z6j,z6m,z6n,z6t,z6u,z6v,binV,eqV,unV,oOpt,reduceIte,reduceCtorEq,Nat.reduceEqDiff,Nat.reduceAdd,Nat.reduceMul,Nat.reduceLT,Nat.reduceSub,Int.reduceLT,Int.reduceLE,Int.reduceEq,Int.reduceNe,Int.reduceSub,Int.reduceAdd,Int.reduceMul,Int.reduceBEq,Int.reduceBNe,Int.reduceGT,Int.reduceGE,Nat.reduceGT,Int.reduceToNat,Int.reduceNeg,Nat.reduceLeDiff,Nat.reduceBEq,Nat.reduceBneDiff,Value.cells]
    refine (bytes_Clone_c E H6 x (by omega) (sx.le le06)).mono ?_
    rintro wv H7 ⟨le7, o7⟩
    have e7 : Ext (fun _ => False) κ' H6 (κ'.grow H6 (j, j, 10)) H7 := Ext.tint le7
    have RV8 := RV7.ext e7 (fun _ _ q => q)
    have ow7 : OwK (κ'.grow H6 (j, j, 10)) (j, j, 10) H7 1 wv x.length (x.map u8V) := OwK.tinted o7
    obtain ⟨wb, wc, rfl⟩ := Sl.shape o7.sl
    have m61 : hcell H7 ⟨j, 6, none⟩ = some vr6 := by rw [hcell_at (le7 _ _ q7) (by simp)]; rfl
    simp -implicitDefEqProofs only [zB1,zB2,zB3,zB4,zB5,zB6,zB7,zB8,zB9,zB10,zB11,y00,y01,y02,y03,y04,y05,y06,y07,y08,y09,y0a,y0b,y0c,y0d,y0e,y0f,y0g,y0h,y0i,y0j,y0k,y0l,y0m,y0n,y0o,y0p,y0q,y0r,y0s,y0t,y0u,y0v,y0w,y0x,y0y,y0z,y10,y11,y12,y13,y14,y15,y16,y17,y18,y19,y1a,y1b,y1c,y1d,y1e,y1f,y1g,y1h,y1i,y1j,y1k,y1l,y1m,y1n,y1o,y1p,y1q,y1r,retO,retL,retV,z6i,allV,allP,z6j,z6m,z6n,z6t,z6u,z6v,binV,eqV,unV,oOpt,reduceIte,reduceCtorEq,Nat.reduceEqDiff,Nat.reduceAdd,Nat.reduceMul,Nat.reduceLT,Nat.reduceSub,Int.reduceLT,Int.reduceLE,Int.reduceEq,Int.reduceNe,Int.reduceSub,Int.reduceAdd,Int.reduceMul,Int.reduceBEq,Int.reduceBNe,Int.reduceGT,Int.reduceGE,Nat.reduceGT,Int.reduceToNat,Int.reduceNeg,Nat.reduceLeDiff,Nat.reduceBEq,Nat.reduceBneDiff,Value.cells, m60, m61, implies_true, List.mem_cons, List.not_mem_nil, List.mem_singleton, or_false, forall_eq, forall_eq_or_imp, and_self, List.length_replicate, List.drop_replicate, List.replicate_zero]
    intro b70 hb70
    try simp -implicitDefEqProofs only [zB1,zB2,zB3,zB4,zB5,zB6,zB7,zB8,zB9,zB10,zB11,y00,y01,y02,y03,y04,y05,y06,y07,y08,y09,y0a,y0b,y0c,y0d,y0e,y0f,y0g,y0h,y0i,y0j,y0k,y0l,y0m,y0n,y0o,y0p,y0q,y0r,y0s,y0t,y0u,y0v,y0w,y0x,y0y,y0z,y10,y11,y12,y13,y14,y15,y16,y17,y18,y19,y1a,y1b,y1c,y1d,y1e,y1f,y1g,y1h,y1i,y1j,y1k,y1l,y1m,y1n,y1o,y1p,y1q,y1r,retO,retL,retV,z6i,allV,allP,z6j,z6m,z6n,z6t,z6u,z6v,binV,eqV,unV,oOpt,reduceIte,reduceCtorEq,Nat.reduceEqDiff,Nat.reduceAdd,Nat.reduceMul,Nat.reduceLT,Nat.reduceSub,Int.reduceLT,Int.reduceLE,Int.reduceEq,Int.reduceNe,Int.reduceSub,Int.reduceAdd,Int.reduceMul,Int.reduceBEq,Int.reduceBNe,Int.reduceGT,Int.reduceGE,Nat.reduceGT,Int.reduceToNat,Int.reduceNeg,Nat.reduceLeDiff,Nat.reduceBEq,Nat.reduceBneDiff,Value.cells]
    have le8 := Heap.le_set (Heap.le_refl H7) hb70 (.own 0 [.slice wb x.length wc] 1)
    have sx8 : Sl (H7.set b70 (.own 0 [.slice wb x.length wc] 1)) 1 (.slice (some ⟨b70, 0, none⟩) 1 1) 1 [.slice wb x.length wc] := Sl.lit rfl
    refine jou_write (RV8.ext (Ext.le (cs := fun _ => False) le8) (fun _ _ q => q)) sx8 (OwK.le le8 ow7) (by simp only [List.length_append]; omega) ?_
    rintro v M3 st ⟨vb3, vc3, rfl⟩ ⟨κ3, e3, R3⟩
    simp -implicitDefEqProofs only [zB1,zB2,zB3,zB4,zB5,zB6,zB7,zB8,zB9,zB10,zB11,y00,y01,y02,y03,y04,y05,y06,y07,y08,y09,y0a,y0b,y0c,y0d,y0e,y0f,y0g,y0h,y0i,y0j,y0k,y0l,y0m,y0n,y0o,y0p,y0q,y0r,y0s,y0t,y0u,y0v,y0w,y0x,y0y,y0z,y10,y11,y12,y13,y14,y15,y16,y17,y18,y19,y1a,y1b,y1c,y1d,y1e,y1f,y1g,y1h,y1i,y1j,y1k,y1l,y1m,y1n,y1o,y1p,y1q,y1r,retO,retL,retV,z6i,allV,allP,z6j,z6m,z6n,z6t,z6u,z6v,binV,eqV,unV,oOpt,reduceIte,reduceCtorEq,Nat.reduceEqDiff,Nat.reduceAdd,Nat.reduceMul,Nat.reduceLT,Nat.reduceSub,Int.reduceLT,Int.reduceLE,Int.reduceEq,Int.reduceNe,Int.reduceSub,Int.reduceAdd,Int.reduceMul,Int.reduceBEq,Int.reduceBNe,Int.reduceGT,Int.reduceGE,Nat.reduceGT,Int.reduceToNat,Int.reduceNeg,Nat.reduceLeDiff,Nat.reduceBEq,Nat.reduceBneDiff,Value.cells, st, implies_true]
    refine ⟨_, ?_, acc ++ [x], y, κ3, yb, yc, f, rfl, rfl, (((eG.trans (Ext.le le6)).trans (e7.mono fun c h => h.elim)).trans (Ext.le le8)).trans e3, sy, ?_, by omega, ?_, ?_⟩
    · omega
    · rw [← List.append_assoc]; exact R3
    · rw [eP, List.append_assoc]; rfl
    · simp only [List.length_append, List.length_singleton]; omega
end Go.Bb
/- Contracts: a journal opened. -/
namespace Go.Bb
set_option linter.unusedSimpArgs false
set_option linter.unusedVariables false
set_option maxRecDepth 20000
set_option maxHeartbeats 2000000

def openL : Nat → JF → DiskF → Nat → JF × DiskF
  | 0, J, D, _ => (J, D)
  | f + 1, J, D, p => if (readPartF J D p).2.2 = true then openL f (readPartF J D p).1 (readPartF J D p).2.1 (p + 1) else (J, D)
def openD (J : JF) (D : DiskF) : DiskF := if 0 < J.turn then tidyF (J.turn - 1) 64 (dropF D newN).1 0 else (dropF D newN).1
def openF (D : DiskF) : Option JF × DiskF × Nat :=
  if (readBaseF { lives := D.lives } D).2 = 0 then
    (some (openL 63 (readBaseF { lives := D.lives } D).1 (openD (readBaseF { lives := D.lives } D).1 D) 0).1, (openL 63 (readBaseF { lives := D.lives } D).1 (openD (readBaseF { lives := D.lives } D).1 D) 0).2, 0)
  else (none, D, (readBaseF { lives := D.lives } D).2)
theorem look_turn {L : Files} {s t : List UInt8} {F : FileF} (h : lookF L t = none) : lookF (turnF' L s F) t = none := by
  unfold lookF turnF' at *
  rw [Option.map_eq_none_iff, List.find?_eq_none] at *
  intro x hx
  obtain ⟨y, hy, rfl⟩ := List.mem_map.1 hx
  have := h y hy
  split <;> simpa using this
theorem sync_look {D : DiskF} {s t : List UInt8} (h : lookF D.files t = none) : lookF (syncF D s).1.files t = none := by
  unfold syncF
  split
  · split
    · exact h
    · exact look_turn h
  · exact h
theorem sync_ok {D : DiskF} {n : Nat} (h : D.okW n) (nd : D.nd) (s : List UInt8) : (syncF D s).1.okW n := by
  unfold syncF
  split
  · split
    · exact h
    · rename_i F hF
      refine ⟨?_, ?_, h.2.2⟩
      · intro x hx
        obtain ⟨y, hy, rfl⟩ := List.mem_map.1 hx
        have := h.1 y hy
        split
        · exact ⟨by simp [FileF.sync], this.2⟩
        · exact this
      · show ((sizeF (turnF' D.files s F.sync) : Nat) : Int) ≤ D.room
        rw [turn_size (k := 0) nd hF (by simp [FileF.size, FileF.all, FileF.sync])]
        exact h.2.1
  · exact h
theorem tidy_ok {T n : Nat} : ∀ (f : Nat) {D : DiskF} (p : Nat), D.okW n → (tidyF T f D p).okW n
  | 0, _, _, h => h
  | f + 1, D, p, h => by
    unfold tidyF
    split
    · exact tidy_ok f (p + 1) (drop_ok h _)
    · exact h
theorem tidy_look {T : Nat} {t : List UInt8} : ∀ (f : Nat) {D : DiskF} (p : Nat), lookF D.files t = none → lookF (tidyF T f D p).files t = none
  | 0, _, _, h => h
  | f + 1, D, p, h => by
    unfold tidyF
    split
    · exact tidy_look f (p + 1) (drop_look h)
    · exact h
theorem readPart_turn (J : JF) (D : DiskF) (p : Nat) : (readPartF J D p).1.turn = J.turn := by
  unfold readPartF; split <;> rfl
theorem readPart_look {J : JF} {D : DiskF} {p : Nat} {t : List UInt8} (h : lookF D.files t = none) : lookF (readPartF J D p).2.1.files t = none := by
  unfold readPartF
  split
  · exact sync_look h
  · exact h
theorem readPart_ok {J : JF} {D : DiskF} {p n : Nat} (h : D.okW n) (nd : D.nd) : (readPartF J D p).2.1.okW n := by
  unfold readPartF
  split
  · exact sync_ok h nd _
  · exact h
theorem readPart_recs {J : JF} {D : DiskF} (ok : D.ok) (p : Nat) : (readPartF J D p).1.recs.length ≤ J.recs.length + 60000 := by
  unfold readPartF
  split
  · have h1 := readF_len ok (nameF J.turn p)
    have h2 := parseF_len (readF D (nameF J.turn p)).1.length (readF D (nameF J.turn p)).1
    simp only [List.length_append]
    omega
  · simp
theorem readPart_none {J : JF} {D : DiskF} {p : Nat} (h : lookF D.files (nameF J.turn p) = none) : (readPartF J D p).2.2 = false := by
  have : (readF D (nameF J.turn p)).2 ≠ 0 := by
    unfold readF
    split
    · rw [h]; simp
    · rename_i e; exact e
  unfold readPartF
  rw [if_neg this]
theorem readPart_same {J : JF} {D : DiskF} {p : Nat} (h : (readPartF J D p).2.2 = false) : (readPartF J D p).1 = J ∧ (readPartF J D p).2.1 = D := by
  unfold readPartF at *
  split
  · rename_i e; rw [if_pos e] at h; cases h
  · exact ⟨rfl, rfl⟩

theorem readBase_recs (J : JF) (D : DiskF) : (readBaseF J D).1.recs = J.recs := by
  unfold readBaseF
  split
  · split
    · split <;> rfl
    · rfl
  · split <;> rfl
theorem journal_Open_c (E : EnvT tab) {κ : Pal} {H : Heap} {d : Nat} {D : DiskF} {n : Nat} (RD : DiskR κ H d D) (on : D.on = true) (ok : D.okW n) (hn : n ≤ 100000) (hT : (readBaseF { lives := D.lives } D).1.turn < 64)
    (h1 : 0 < (readBaseF { lives := D.lives } D).1.turn → ∃ P, P < 63 ∧ lookF D.files (nameF ((readBaseF { lives := D.lives } D).1.turn - 1) P) = none) (h2 : ∃ P, P < 62 ∧ lookF D.files (nameF (readBaseF { lives := D.lives } D).1.turn P) = none) :
    ACallN E.toEnv n_journal_Open [ptrV d] H fun r H' => ∃ j κ', H j = none ∧ d ≠ j ∧ Ext (jdC j d) κ H κ' H' ∧ DiskR κ' H' d (openF D).2.1 ∧
      (match (openF D).1 with | some J => r = .tuple #[ptrV j, .int .i64 0] ∧ JouR κ' H' j d J | none => r = .tuple #[.pointer none, .int .i64 ((openF D).2.2 : Nat)]) := by
  refine acall h_journal_Open ir_journal_Open rfl rfl (wpA_sound ?_)
  unfold ir_journal_Open
  simp -implicitDefEqProofs only [zB1,zB2,zB3,zB4,zB5,zB6,zB7,zB8,zB9,zB10,zB11,y00,y01,y02,y03,y04,y05,y06,y07,y08,y09,y0a,y0b,y0c,y0d,y0e,y0f,y0g,y0h,y0i,y0j,y0k,y0l,y0m,y0n,y0o,y0p,y0q,y0r,y0s,y0t,y0u,y0v,y0w,y0x,y0y,y0z,y10,y11,y12,y13,y14,y15,y16,y17,y18,y19,y1a,y1b,y1c,y1d,y1e,y1f,y1g,y1h,y1i,y1j,y1k,y1l,y1m,y1n,y1o,y1p,y1q,y1r,retO,retL,retV,z6i,allV,allP,z6j,z6m,z6n,z6t,z6u,z6v,binV,eqV,unV,oOpt,reduceIte,reduceCtorEq,Nat.reduceEqDiff,Nat.reduceAdd,Nat.reduceMul,Nat.reduceLT,Nat.reduceSub,Int.reduceLT,Int.reduceLE,Int.reduceEq,Int.reduceNe,Int.reduceSub,Int.reduceAdd,Int.reduceMul,Int.reduceBEq,Int.reduceBNe,Int.reduceGT,Int.reduceGE,Nat.reduceGT,Int.reduceToNat,Int.reduceNeg,Nat.reduceLeDiff,Nat.reduceBEq,Nat.reduceBneDiff,Value.cells]
  unfold ir_journal_Open_7
  simp -implicitDefEqProofs only [zB1,zB2,zB3,zB4,zB5,zB6,zB7,zB8,zB9,zB10,zB11,y00,y01,y02,y03,y04,y05,y06,y07,y08,y09,y0a,y0b,y0c,y0d,y0e,y0f,y0g,y0h,y0i,y0j,y0k,y0l,y0m,y0n,y0o,y0p,y0q,y0r,y0s,y0t,y0u,y0v,y0w,y0x,y0y,y0z,y10,y11,y12,y13,y14,y15,y16,y17,y18,y19,y1a,y1b,y1c,y1d,y1e,y1f,y1g,y1h,y1i,y1j,y1k,y1l,y1m,y1n,y1o,y1p,y1q,y1r,retO,retL,retV,z6i,allV,allP,z6j,z6m,z6n,z6t,z6u,z6v,binV,eqV,unV,oOpt,reduceIte,reduceCtorEq,Nat.reduceEqDiff,Nat.reduceAdd,Nat.reduceMul,Nat.reduceLT,Nat.reduceSub,Int.reduceLT,Int.reduceLE,Int.reduceEq,Int.reduceNe,Int.reduceSub,Int.reduceAdd,Int.reduceMul,Int.reduceBEq,Int.reduceBNe,Int.reduceGT,Int.reduceGE,Nat.reduceGT,Int.reduceToNat,Int.reduceNeg,Nat.reduceLeDiff,Nat.reduceBEq,Nat.reduceBneDiff,Value.cells]
  refine (disk_Power_c E RD).mono ?_
  rintro v H1 ⟨rfl, rfl⟩
  simp -implicitDefEqProofs only [zB1,zB2,zB3,zB4,zB5,zB6,zB7,zB8,zB9,zB10,zB11,y00,y01,y02,y03,y04,y05,y06,y07,y08,y09,y0a,y0b,y0c,y0d,y0e,y0f,y0g,y0h,y0i,y0j,y0k,y0l,y0m,y0n,y0o,y0p,y0q,y0r,y0s,y0t,y0u,y0v,y0w,y0x,y0y,y0z,y10,y11,y12,y13,y14,y15,y16,y17,y18,y19,y1a,y1b,y1c,y1d,y1e,y1f,y1g,y1h,y1i,y1j,y1k,y1l,y1m,y1n,y1o,y1p,y1q,y1r,retO,retL,retV,z6i,allV,allP,z6j,z6m,z6n,z6t,z6u,z6v,binV,eqV,unV,oOpt,reduceIte,reduceCtorEq,Nat.reduceEqDiff,Nat.reduceAdd,Nat.reduceMul,Nat.reduceLT,Nat.reduceSub,Int.reduceLT,Int.reduceLE,Int.reduceEq,Int.reduceNe,Int.reduceSub,Int.reduceAdd,Int.reduceMul,Int.reduceBEq,Int.reduceBNe,Int.reduceGT,Int.reduceGE,Nat.reduceGT,Int.reduceToNat,Int.reduceNeg,Nat.reduceLeDiff,Nat.reduceBEq,Nat.reduceBneDiff,Value.cells, on]
  refine (disk_Lives_c E RD).mono ?_
  rintro v H2 ⟨rfl, rfl⟩
  simp -implicitDefEqProofs only [zB1,zB2,zB3,zB4,zB5,zB6,zB7,zB8,zB9,zB10,zB11,y00,y01,y02,y03,y04,y05,y06,y07,y08,y09,y0a,y0b,y0c,y0d,y0e,y0f,y0g,y0h,y0i,y0j,y0k,y0l,y0m,y0n,y0o,y0p,y0q,y0r,y0s,y0t,y0u,y0v,y0w,y0x,y0y,y0z,y10,y11,y12,y13,y14,y15,y16,y17,y18,y19,y1a,y1b,y1c,y1d,y1e,y1f,y1g,y1h,y1i,y1j,y1k,y1l,y1m,y1n,y1o,y1p,y1q,y1r,retO,retL,retV,z6i,allV,allP,z6j,z6m,z6n,z6t,z6u,z6v,binV,eqV,unV,oOpt,reduceIte,reduceCtorEq,Nat.reduceEqDiff,Nat.reduceAdd,Nat.reduceMul,Nat.reduceLT,Nat.reduceSub,Int.reduceLT,Int.reduceLE,Int.reduceEq,Int.reduceNe,Int.reduceSub,Int.reduceAdd,Int.reduceMul,Int.reduceBEq,Int.reduceBNe,Int.reduceGT,Int.reduceGE,Nat.reduceGT,Int.reduceToNat,Int.reduceNeg,Nat.reduceLeDiff,Nat.reduceBEq,Nat.reduceBneDiff,Value.cells]
  intro j hj
  try simp -implicitDefEqProofs only [zB1,zB2,zB3,zB4,zB5,zB6,zB7,zB8,zB9,zB10,zB11,y00,y01,y02,y03,y04,y05,y06,y07,y08,y09,y0a,y0b,y0c,y0d,y0e,y0f,y0g,y0h,y0i,y0j,y0k,y0l,y0m,y0n,y0o,y0p,y0q,y0r,y0s,y0t,y0u,y0v,y0w,y0x,y0y,y0z,y10,y11,y12,y13,y14,y15,y16,y17,y18,y19,y1a,y1b,y1c,y1d,y1e,y1f,y1g,y1h,y1i,y1j,y1k,y1l,y1m,y1n,y1o,y1p,y1q,y1r,retO,retL,retV,z6i,allV,allP,z6j,z6m,z6n,z6t,z6u,z6v,binV,eqV,unV,oOpt,reduceIte,reduceCtorEq,Nat.reduceEqDiff,Nat.reduceAdd,Nat.reduceMul,Nat.reduceLT,Nat.reduceSub,Int.reduceLT,Int.reduceLE,Int.reduceEq,Int.reduceNe,Int.reduceSub,Int.reduceAdd,Int.reduceMul,Int.reduceBEq,Int.reduceBNe,Int.reduceGT,Int.reduceGE,Nat.reduceGT,Int.reduceToNat,Int.reduceNeg,Nat.reduceLeDiff,Nat.reduceBEq,Nat.reduceBneDiff,Value.cells]
  have ne : d ≠ j := by
    obtain ⟨G, r, clk, V⟩ := RD
    exact ne_of_none hj V.qd
  have e0 : Ext (fun _ => False) κ H2 (fun i => if i = j then some (j, j, 7) else κ i) (H2.set j (.own 0 [ptrV d, .int .i64 D.lives, .int .u64 0, .int .i64 0, .bool false, .slice none 0 0, .slice none 0 0, .bool false] 8)) := Ext.new hj _ _
  have RD0 := RD.ext e0 (fun _ _ q => q)
  have RJ0 : JouR (fun i => if i = j then some (j, j, 7) else κ i) (H2.set j (.own 0 [ptrV d, .int .i64 D.lives, .int .u64 0, .int .i64 0, .bool false, .slice none 0 0, .slice none 0 0, .bool false] 8)) j d { lives := D.lives } :=
    ⟨_, _, [], by simp, Heap.set_self _ _ _, Ow.nil _ _ _, Ow.nil _ _ _, rfl, fun i h1 h2 => by simp at h1⟩
  generalize (H2.set j (.own 0 [ptrV d, .int .i64 D.lives, .int .u64 0, .int .i64 0, .bool false, .slice none 0 0, .slice none 0 0, .bool false] 8)) = H3 at e0 RD0 RJ0 ⊢
  generalize (fun i => if i = j then some (j, j, 7) else κ i) = κ3 at e0 RD0 RJ0
  have okD := ok.ok hn
  refine (journal_readBase_c E RJ0 RD0 okD).mono ?_
  rintro v H4 ⟨rfl, κ4, e4, RJ4⟩
  have RD4 := RD0.off e4 ne.symm
  have e04 : Ext (jdC j d) κ H2 κ4 H4 := (e0.mono fun c h => h.elim).trans (ext_jd e4)
  have hrec := readBase_recs { lives := D.lives } D
  unfold openF
  generalize readBaseF { lives := D.lives } D = X at RJ4 hT h1 h2 hrec ⊢
  obtain ⟨J1, eb⟩ := X
  simp only at RJ4 hT h1 h2 hrec ⊢
  by_cases z : ¬ eb = 0
  · have z' : ¬ ((eb : Nat) : Int) = 0 := by omega
    simp only [z, if_false]
    simp -implicitDefEqProofs only [zB1,zB2,zB3,zB4,zB5,zB6,zB7,zB8,zB9,zB10,zB11,y00,y01,y02,y03,y04,y05,y06,y07,y08,y09,y0a,y0b,y0c,y0d,y0e,y0f,y0g,y0h,y0i,y0j,y0k,y0l,y0m,y0n,y0o,y0p,y0q,y0r,y0s,y0t,y0u,y0v,y0w,y0x,y0y,y0z,y10,y11,y12,y13,y14,y15,y16,y17,y18,y19,y1a,y1b,y1c,y1d,y1e,y1f,y1g,y1h,y1i,y1j,y1k,y1l,y1m,y1n,y1o,y1p,y1q,y1r,retO,retL,retV,z6i,allV,allP,z6j,z6m,z6n,z6t,z6u,z6v,binV,eqV,unV,oOpt,reduceIte,reduceCtorEq,Nat.reduceEqDiff,Nat.reduceAdd,Nat.reduceMul,Nat.reduceLT,Nat.reduceSub,Int.reduceLT,Int.reduceLE,Int.reduceEq,Int.reduceNe,Int.reduceSub,Int.reduceAdd,Int.reduceMul,Int.reduceBEq,Int.reduceBNe,Int.reduceGT,Int.reduceGE,Nat.reduceGT,Int.reduceToNat,Int.reduceNeg,Nat.reduceLeDiff,Nat.reduceBEq,Nat.reduceBneDiff,Value.cells, z']
    exact ⟨j, κ4, hj, ne, e04, RD4⟩
  have z := Decidable.not_not.1 z
  subst z
  simp only [if_true]
  simp -implicitDefEqProofs only [zB1,zB2,zB3,zB4,zB5,zB6,zB7,zB8,zB9,zB10,zB11,y00,y01,y02,y03,y04,y05,y06,y07,y08,y09,y0a,y0b,y0c,y0d,y0e,y0f,y0g,y0h,y0i,y0j,y0k,y0l,y0m,y0n,y0o,y0p,y0q,y0r,y0s,y0t,y0u,y0v,y0w,y0x,y0y,y0z,y10,y11,y12,y13,y14,y15,y16,y17,y18,y19,y1a,y1b,y1c,y1d,y1e,y1f,y1g,y1h,y1i,y1j,y1k,y1l,y1m,y1n,y1o,y1p,y1q,y1r,retO,retL,retV,z6i,allV,allP,z6j,z6m,z6n,z6t,z6u,z6v,binV,eqV,unV,oOpt,reduceIte,reduceCtorEq,Nat.reduceEqDiff,Nat.reduceAdd,Nat.reduceMul,Nat.reduceLT,Nat.reduceSub,Int.reduceLT,Int.reduceLE,Int.reduceEq,Int.reduceNe,Int.reduceSub,Int.reduceAdd,Int.reduceMul,Int.reduceBEq,Int.reduceBNe,Int.reduceGT,Int.reduceGE,Nat.reduceGT,Int.reduceToNat,Int.reduceNeg,Nat.reduceLeDiff,Nat.reduceBEq,Nat.reduceBneDiff,Value.cells]
  refine (disk_Drop_c E RD4 newN (by simp [newN])).mono ?_
  rintro v H5 ⟨rfl, κ5, e5, RD5⟩
  have RJ5 := RJ4.apart e5 ne
  have e05 := e04.trans (ext_dj e5)
  have ok5 : (dropF D newN).1.okW n := drop_ok ok _
  have tail : ∀ (κ6 : Pal) (H6 : Heap) (D6 : DiskF), Ext (jdC j d) κ H2 κ6 H6 → JouR κ6 H6 j d J1 → DiskR κ6 H6 d D6 → D6.okW n → (∃ P, P < 62 ∧ lookF D6.files (nameF J1.turn P) = none) → ∀ (Q : Value → Heap → Prop),
      (∀ κ' H', Ext (jdC j d) κ H2 κ' H' → DiskR κ' H' d (openL 63 J1 D6 0).2 → JouR κ' H' j d (openL 63 J1 D6 0).1 → Q (.tuple #[ptrV j, .int .i64 0]) H') →
      AW E.toEnv 40 (.loop (.seq (.seq (.ops [
     ⟨(some 34), .mv (.t 4), none⟩,
     ⟨(some 35), .mv (.t 6), none⟩,
     ⟨(some 36), .call 213 [.t 34, .t 35], none⟩] [4, 6, 36])
 (.cond (.t 36)
 .skip
 (.exit 0)))
 (.seq (.block 1 .skip)
 (.ops [
     ⟨(some 37), .mv (.t 6), none⟩,
     ⟨(some 38), .bin .add (.t 37) (.c (.int .i64 1)), none⟩,
     ⟨(some 6), .mv (.t 38), none⟩] [4, 6])))) (qBlock 0 (qSeq (wpA E.toEnv 40 (.seq (.ops [
   ⟨(some 39), .mv (.t 4), none⟩,
   ⟨(some 2), .mv (.t 39), none⟩,
   ⟨(some 3), .mv (.c (.int .i64 0)), none⟩] [2, 3])
 .ret) (qRet [.tmp 2, .tmp 3] Q)) (qRet [.tmp 2, .tmp 3] Q))) (tl [(4, ptrV j), (6, .int .i64 0)]) H6 := by
    rintro κ6 H6 D6 e6 RJ6 RD6 ok6 ⟨P, hP, hl⟩ Q hQ
    generalize hOF : openL 63 J1 D6 0 = OF at hQ
    refine wp_loop' (fun m t G => ∃ (p : Nat) (κ' : Pal) (Jp : JF) (Dp : DiskF), t = tl [(4, ptrV j), (6, .int .i64 p)] ∧ p ≤ P ∧ m = P - p ∧ Ext (jdC j d) κ H2 κ' G ∧ JouR κ' G j d Jp ∧ DiskR κ' G d Dp ∧ Dp.okW n ∧ lookF Dp.files (nameF J1.turn P) = none ∧ Jp.turn = J1.turn ∧ Jp.recs.length ≤ 60000 * p ∧ OF = openL (63 - p) Jp Dp p) P
      ⟨0, κ6, J1, D6, rfl, by omega, by omega, e6, RJ6, RD6, ok6, hl, rfl, by simp [hrec], hOF.symm⟩ ?_
    rintro m t G ⟨p, κ', Jp, Dp, rfl, hp, rfl, eG, RG, RDG, okp, hlp, tp, rp, eO⟩
    have w1 : IntKind.i64.wrap ((p : Int) + 1) = ((p + 1 : Nat) : Int) := wrapN (by omega)
    have okDp := okp.ok hn
    simp -implicitDefEqProofs only [zB1,zB2,zB3,zB4,zB5,zB6,zB7,zB8,zB9,zB10,zB11,y00,y01,y02,y03,y04,y05,y06,y07,y08,y09,y0a,y0b,y0c,y0d,y0e,y0f,y0g,y0h,y0i,y0j,y0k,y0l,y0m,y0n,y0o,y0p,y0q,y0r,y0s,y0t,y0u,y0v,y0w,y0x,y0y,y0z,y10,y11,y12,y13,y14,y15,y16,y17,y18,y19,y1a,y1b,y1c,y1d,y1e,y1f,y1g,y1h,y1i,y1j,y1k,y1l,y1m,y1n,y1o,y1p,y1q,y1r,retO,retL,retV,z6i,allV,allP,z6j,z6m,z6n,z6t,z6u,z6v,binV,eqV,unV,oOpt,reduceIte,reduceCtorEq,Nat.reduceEqDiff,Nat.reduceAdd,Nat.reduceMul,Nat.reduceLT,Nat.reduceSub,Int.reduceLT,Int.reduceLE,Int.reduceEq,Int.reduceNe,Int.reduceSub,Int.reduceAdd,Int.reduceMul,Int.reduceBEq,Int.reduceBNe,Int.reduceGT,Int.reduceGE,Nat.reduceGT,Int.reduceToNat,Int.reduceNeg,Nat.reduceLeDiff,Nat.reduceBEq,Nat.reduceBneDiff,Value.cells]
    refine (journal_readPart_c E RG RDG ne okDp (by omega) p (by omega) (by omega)).mono ?_
    rintro v G1 ⟨rfl, κ2, e2, R2, RD2⟩
    obtain ⟨f, hf⟩ : ∃ f, 63 - p = f + 1 := ⟨62 - p, by omega⟩
    rw [hf, openL] at eO
    have rr := readPart_recs (J := Jp) okDp p
    have lk := readPart_look (J := Jp) (p := p) hlp
    have okq := readPart_ok (J := Jp) (p := p) okp RDG.nd
    by_cases z : (readPartF Jp Dp p).2.2 = true
    · rw [if_pos z] at eO
      have hpP : p < P := by
        by_cases h : p = P
        · subst h
          rw [← tp] at hlp
          rw [readPart_none hlp] at z; cases z
        · omega
      simp -implicitDefEqProofs only [zB1,zB2,zB3,zB4,zB5,zB6,zB7,zB8,zB9,zB10,zB11,y00,y01,y02,y03,y04,y05,y06,y07,y08,y09,y0a,y0b,y0c,y0d,y0e,y0f,y0g,y0h,y0i,y0j,y0k,y0l,y0m,y0n,y0o,y0p,y0q,y0r,y0s,y0t,y0u,y0v,y0w,y0x,y0y,y0z,y10,y11,y12,y13,y14,y15,y16,y17,y18,y19,y1a,y1b,y1c,y1d,y1e,y1f,y1g,y1h,y1i,y1j,y1k,y1l,y1m,y1n,y1o,y1p,y1q,y1r,retO,retL,retV,z6i,allV,allP,z6j,z6m,z6n,z6t,z6u,z6v,binV,eqV,unV,oOpt,reduceIte,reduceCtorEq,Nat.reduceEqDiff,Nat.reduceAdd,Nat.reduceMul,Nat.reduceLT,Nat.reduceSub,Int.reduceLT,Int.reduceLE,Int.reduceEq,Int.reduceNe,Int.reduceSub,Int.reduceAdd,Int.reduceMul,Int.reduceBEq,Int.reduceBNe,Int.reduceGT,Int.reduceGE,Nat.reduceGT,Int.reduceToNat,Int.reduceNeg,Nat.reduceLeDiff,Nat.reduceBEq,Nat.reduceBneDiff,Value.cells, z, w1]
      refine ⟨_, ?_, p + 1, κ2, _, _, rfl, by omega, rfl, eG.trans e2, R2, RD2, okq, lk, ?_, by omega, ?_⟩
      · omega
      · rw [readPart_turn, tp]
      · rw [eO]; congr 1; omega
    · have z' : (readPartF Jp Dp p).2.2 = false := by simpa using z
      rw [if_neg z] at eO
      obtain ⟨s1, s2⟩ := readPart_same z'
      rw [s1] at R2
      rw [s2] at RD2
      simp -implicitDefEqProofs only [zB1,zB2,zB3,zB4,zB5,zB6,zB7,zB8,zB9,zB10,zB11,y00,y01,y02,y03,y04,y05,y06,y07,y08,y09,y0a,y0b,y0c,y0d,y0e,y0f,y0g,y0h,y0i,y0j,y0k,y0l,y0m,y0n,y0o,y0p,y0q,y0r,y0s,y0t,y0u,y0v,y0w,y0x,y0y,y0z,y10,y11,y12,y13,y14,y15,y16,y17,y18,y19,y1a,y1b,y1c,y1d,y1e,y1f,y1g,y1h,y1i,y1j,y1k,y1l,y1m,y1n,y1o,y1p,y1q,y1r,retO,retL,retV,z6i,allV,allP,z6j,z6m,z6n,z6t,z6u,z6v,binV,eqV,unV,oOpt,reduceIte,reduceCtorEq,Nat.reduceEqDiff,Nat.reduceAdd,Nat.reduceMul,Nat.reduceLT,Nat.reduceSub,Int.reduceLT,Int.reduceLE,Int.reduceEq,Int.reduceNe,Int.reduceSub,Int.reduceAdd,Int.reduceMul,Int.reduceBEq,Int.reduceBNe,Int.reduceGT,Int.reduceGE,Nat.reduceGT,Int.reduceToNat,Int.reduceNeg,Nat.reduceLeDiff,Nat.reduceBEq,Nat.reduceBneDiff,Value.cells, z']
      refine hQ κ2 G1 (eG.trans e2) ?_ ?_
      · rw [eO]; exact RD2
      · rw [eO]; exact R2
  unfold ir_journal_Open_22
  obtain ⟨vb, vr, rs, RV5⟩ := RJ5
  have j2 : hcell H5 ⟨j, 2, none⟩ = some (.int .u64 (J1.turn : Nat)) := by rw [hcell_at RV5.2.1 (by simp)]; rfl
  by_cases ht : 0 < J1.turn
  · have ht' : (0 : Int) < J1.turn := by omega
    have w3 : IntKind.u64.wrap ((J1.turn : Int) - 1) = ((J1.turn - 1 : Nat) : Int) := by
      rw [show (J1.turn : Int) - 1 = ((J1.turn - 1 : Nat) : Int) by omega, wrap_u64, ofInt_nat, BitVec.toNat_ofNat]; omega
    obtain ⟨P1, hP1, hl1⟩ := h1 ht
    obtain ⟨P2, hP2, hl2⟩ := h2
    simp -implicitDefEqProofs only [zB1,zB2,zB3,zB4,zB5,zB6,zB7,zB8,zB9,zB10,zB11,y00,y01,y02,y03,y04,y05,y06,y07,y08,y09,y0a,y0b,y0c,y0d,y0e,y0f,y0g,y0h,y0i,y0j,y0k,y0l,y0m,y0n,y0o,y0p,y0q,y0r,y0s,y0t,y0u,y0v,y0w,y0x,y0y,y0z,y10,y11,y12,y13,y14,y15,y16,y17,y18,y19,y1a,y1b,y1c,y1d,y1e,y1f,y1g,y1h,y1i,y1j,y1k,y1l,y1m,y1n,y1o,y1p,y1q,y1r,retO,retL,retV,z6i,allV,allP,z6j,z6m,z6n,z6t,z6u,z6v,binV,eqV,unV,oOpt,reduceIte,reduceCtorEq,Nat.reduceEqDiff,Nat.reduceAdd,Nat.reduceMul,Nat.reduceLT,Nat.reduceSub,Int.reduceLT,Int.reduceLE,Int.reduceEq,Int.reduceNe,Int.reduceSub,Int.reduceAdd,Int.reduceMul,Int.reduceBEq,Int.reduceBNe,Int.reduceGT,Int.reduceGE,Nat.reduceGT,Int.reduceToNat,Int.reduceNeg,Nat.reduceLeDiff,Nat.reduceBEq,Nat.reduceBneDiff,Value.cells, j2, ht', w3]
    refine (journal_tidy_c E ⟨vb, vr, rs, RV5⟩ RD5 ne (J1.turn - 1) (by omega) hP1 (drop_look hl1)).mono ?_
    rintro v H6 ⟨κ6, e6, RJ6, RD6⟩
    simp -implicitDefEqProofs only [zB1,zB2,zB3,zB4,zB5,zB6,zB7,zB8,zB9,zB10,zB11,y00,y01,y02,y03,y04,y05,y06,y07,y08,y09,y0a,y0b,y0c,y0d,y0e,y0f,y0g,y0h,y0i,y0j,y0k,y0l,y0m,y0n,y0o,y0p,y0q,y0r,y0s,y0t,y0u,y0v,y0w,y0x,y0y,y0z,y10,y11,y12,y13,y14,y15,y16,y17,y18,y19,y1a,y1b,y1c,y1d,y1e,y1f,y1g,y1h,y1i,y1j,y1k,y1l,y1m,y1n,y1o,y1p,y1q,y1r,retO,retL,retV,z6i,allV,allP,z6j,z6m,z6n,z6t,z6u,z6v,binV,eqV,unV,oOpt,reduceIte,reduceCtorEq,Nat.reduceEqDiff,Nat.reduceAdd,Nat.reduceMul,Nat.reduceLT,Nat.reduceSub,Int.reduceLT,Int.reduceLE,Int.reduceEq,Int.reduceNe,Int.reduceSub,Int.reduceAdd,Int.reduceMul,Int.reduceBEq,Int.reduceBNe,Int.reduceGT,Int.reduceGE,Nat.reduceGT,Int.reduceToNat,Int.reduceNeg,Nat.reduceLeDiff,Nat.reduceBEq,Nat.reduceBneDiff,Value.cells]
    have eo : openD J1 D = tidyF (J1.turn - 1) 64 (dropF D newN).1 0 := by unfold openD; rw [if_pos ht]
    rw [← eo] at RD6
    refine tail κ6 H6 (openD J1 D) (e05.trans (ext_dj e6)) RJ6 RD6 (by rw [eo]; exact tidy_ok _ _ ok5) ⟨P2, hP2, by rw [eo]; exact tidy_look _ _ (drop_look hl2)⟩ _ ?_
    intro κ' H' a b c
    exact ⟨j, κ', hj, ne, a, b, rfl, c⟩
  · have ht' : ¬ (0 : Int) < J1.turn := by omega
    simp -implicitDefEqProofs only [zB1,zB2,zB3,zB4,zB5,zB6,zB7,zB8,zB9,zB10,zB11,y00,y01,y02,y03,y04,y05,y06,y07,y08,y09,y0a,y0b,y0c,y0d,y0e,y0f,y0g,y0h,y0i,y0j,y0k,y0l,y0m,y0n,y0o,y0p,y0q,y0r,y0s,y0t,y0u,y0v,y0w,y0x,y0y,y0z,y10,y11,y12,y13,y14,y15,y16,y17,y18,y19,y1a,y1b,y1c,y1d,y1e,y1f,y1g,y1h,y1i,y1j,y1k,y1l,y1m,y1n,y1o,y1p,y1q,y1r,retO,retL,retV,z6i,allV,allP,z6j,z6m,z6n,z6t,z6u,z6v,binV,eqV,unV,oOpt,reduceIte,reduceCtorEq,Nat.reduceEqDiff,Nat.reduceAdd,Nat.reduceMul,Nat.reduceLT,Nat.reduceSub,Int.reduceLT,Int.reduceLE,Int.reduceEq,Int.reduceNe,Int.reduceSub,Int.reduceAdd,Int.reduceMul,Int.reduceBEq,Int.reduceBNe,Int.reduceGT,Int.reduceGE,Nat.reduceGT,Int.reduceToNat,Int.reduceNeg,Nat.reduceLeDiff,Nat.reduceBEq,Nat.reduceBneDiff,Value.cells, j2, ht']
    obtain ⟨P2, hP2, hl2⟩ := h2
    have eo : openD J1 D = (dropF D newN).1 := by unfold openD; rw [if_neg ht]
    rw [← eo] at RD5 ok5
    refine tail κ5 H5 (openD J1 D) e05 ⟨vb, vr, rs, RV5⟩ RD5 ok5 ⟨P2, hP2, by rw [eo]; exact drop_look hl2⟩ _ ?_
    intro κ' H' a b c
    exact ⟨j, κ', hj, ne, a, b, rfl, c⟩
end Go.Bb
/- The reckoner with blocks mixed at once. -/
namespace Go.Bb
set_option linter.unusedSimpArgs false
set_option linter.unusedVariables false
set_option maxRecDepth 20000

def nextX (b : List UInt8) (ws : List U32) (i : Nat) : U32 :=
  if i < 16 then (fromBigF ((b.drop (4 * i)).take 4)).setWidth 32
  else ws.getD 15 0 + (turnF (ws.getD 14 0) 7 ^^^ turnF (ws.getD 14 0) 18 ^^^ ws.getD 14 0 >>> 3) + ws.getD 6 0 + (turnF (ws.getD 1 0) 17 ^^^ turnF (ws.getD 1 0) 19 ^^^ ws.getD 1 0 >>> 10)
def schedR (b : List UInt8) : Nat → List U32
  | 0 => []
  | i + 1 => nextX b (schedR b i) i :: schedR b i
theorem schedR_get (b : List UInt8) : ∀ i j, j < i → (schedR b i).getD (i - 1 - j) 0 = schedW b i j
  | 0, j, h => by omega
  | i + 1, j, h => by
      have ih := schedR_get b i
      unfold schedR schedW updU
      by_cases e : j = i
      · subst e
        rw [if_pos rfl, Nat.add_sub_cancel, Nat.sub_self, List.getD_cons_zero]
        unfold nextX schedX
        by_cases h16 : j < 16
        · rw [if_pos h16, if_pos h16]
        · rw [if_neg h16, if_neg h16]
          have g : ∀ k, k < j → (schedR b j).getD k 0 = schedW b j (j - (k + 1)) := fun k hk => by
            have := ih (j - (k + 1)) (by omega)
            rwa [show j - 1 - (j - (k + 1)) = k from by omega] at this
          rw [g 15 (by omega), g 14 (by omega), g 6 (by omega), g 1 (by omega)]
      · rw [if_neg e, Nat.add_sub_cancel, show i - j = (i - 1 - j) + 1 from by omega, List.getD_cons_succ]
        exact ih j (by omega)
theorem schedR_64 (b : List UInt8) (i : Nat) (h : i < 64) : (schedR b 64).getD (63 - i) 0 = schedW b 64 i := schedR_get b 64 i h

structure S8 where
  a : U32
  b : U32
  c : U32
  d : U32
  e : U32
  f : U32
  g : U32
  h : U32
def S8.get (s : S8) : Nat → U32
  | 0 => s.a
  | 1 => s.b
  | 2 => s.c
  | 3 => s.d
  | 4 => s.e
  | 5 => s.f
  | 6 => s.g
  | 7 => s.h
  | _ => 0
def S8.tt (K wr : List U32) (s : S8) (i : Nat) : U32 := s.h + (turnF s.e 6 ^^^ turnF s.e 11 ^^^ turnF s.e 25) + ((s.e &&& s.f) ^^^ (~~~s.e &&& s.g)) + K.getD i 0 + wr.getD (63 - i) 0
def S8.step (K wr : List U32) (s : S8) (i : Nat) : S8 :=
  ⟨S8.tt K wr s i + (turnF s.a 2 ^^^ turnF s.a 13 ^^^ turnF s.a 22) + ((s.a &&& s.b) ^^^ (s.a &&& s.c) ^^^ (s.b &&& s.c)), s.a, s.b, s.c, s.d + S8.tt K wr s i, s.e, s.f, s.g⟩
def S8.run (K wr : List U32) (s : S8) : Nat → S8
  | 0 => s
  | i + 1 => S8.step K wr (S8.run K wr s i) i
def S8.ofL (H : List U32) : S8 := ⟨H.getD 0 0, H.getD 1 0, H.getD 2 0, H.getD 3 0, H.getD 4 0, H.getD 5 0, H.getD 6 0, H.getD 7 0⟩
theorem S8.run_get (K H : List U32) (b : List UInt8) : ∀ i, i ≤ 64 → ∀ j, j < 8 → (S8.run K (schedR b 64) (S8.ofL H) i).get j = mixV (fun j => K.getD j 0) (schedW b 64) (fun j => H.getD j 0) i j
  | 0, _, j, hj => by
      match j, hj with
      | 0, _ => rfl
      | 1, _ => rfl
      | 2, _ => rfl
      | 3, _ => rfl
      | 4, _ => rfl
      | 5, _ => rfl
      | 6, _ => rfl
      | 7, _ => rfl
  | i + 1, hi, j, hj => by
      have ih := S8.run_get K H b i (by omega)
      have a0 := ih 0 (by omega)
      have a1 := ih 1 (by omega)
      have a2 := ih 2 (by omega)
      have a3 := ih 3 (by omega)
      have a4 := ih 4 (by omega)
      have a5 := ih 5 (by omega)
      have a6 := ih 6 (by omega)
      have a7 := ih 7 (by omega)
      have hw := schedR_64 b i (by omega)
      unfold S8.run mixV
      generalize S8.run K (schedR b 64) (S8.ofL H) i = s at a0 a1 a2 a3 a4 a5 a6 a7
      generalize mixV (fun j => K.getD j 0) (schedW b 64) (fun j => H.getD j 0) i = v at a0 a1 a2 a3 a4 a5 a6 a7
      simp only [S8.get] at a0 a1 a2 a3 a4 a5 a6 a7
      match j, hj with
      | 0, _ => simp only [S8.get, S8.step, S8.tt, mixX, mixT, mixR, mixM, a0, a1, a2, a3, a4, a5, a6, a7, hw]
      | 1, _ => exact a0
      | 2, _ => exact a1
      | 3, _ => exact a2
      | 4, _ => simp only [S8.get, S8.step, S8.tt, mixX, mixT, mixR, mixM, a0, a1, a2, a3, a4, a5, a6, a7, hw]
      | 5, _ => exact a4
      | 6, _ => exact a5
      | 7, _ => exact a6
/-- A block mixed in, as a row. -/
def mixL (K H : List U32) (b : List UInt8) : List U32 :=
  let s := S8.run K (schedR b 64) (S8.ofL H) 64
  [H.getD 0 0 + s.a, H.getD 1 0 + s.b, H.getD 2 0 + s.c, H.getD 3 0 + s.d, H.getD 4 0 + s.e, H.getD 5 0 + s.f, H.getD 6 0 + s.g, H.getD 7 0 + s.h]
def wordsU (l : List U32) : List Value := l.map fun w => .int .u32 (.ofNat w.toNat)
theorem mixL_row (K H : List U32) (b : List UInt8) : wordsU (mixL K H b) = rowU (mixF (fun j => K.getD j 0) (fun j => H.getD j 0) b) 8 := by
  have h := S8.run_get K H b 64 (Nat.le_refl _)
  unfold mixL mixF
  generalize S8.run K (schedR b 64) (S8.ofL H) 64 = s at h
  have e : rowU (fun j => H.getD j 0 + mixV (fun j => K.getD j 0) (schedW b 64) (fun j => H.getD j 0) 64 j) 8 = rowU (fun j => H.getD j 0 + s.get j) 8 := rowU_congr fun j hj => by rw [h j hj]
  rw [e]; rfl

/-! ### rows of words and bytes, read -/
theorem u8V_of' {n : Nat} (h : n < 256) : u8V (UInt8.ofNat n) = .int .u8 (.ofNat n) := by
  unfold u8V
  have : (UInt8.ofNat n).toNat = n := by rw [UInt8.toNat_ofNat']; omega
  rw [this]; rfl
def toW : List Value → Option (List U32)
  | [] => some []
  | .int .u32 (.ofNat x) :: t => bif Nat.blt x 4294967296 then (toW t).map (BitVec.ofNat 32 x :: ·) else none
  | _ => none
def toB : List Value → Option (List UInt8)
  | [] => some []
  | .int .u8 (.ofNat x) :: t => bif Nat.blt x 256 then (toB t).map (UInt8.ofNat x :: ·) else none
  | _ => none
theorem toW_eq : ∀ {l : List Value} {w : List U32}, toW l = some w → l = wordsU w ∧ l.all isInt = true
  | [], w, h => by simp only [toW, Option.some.injEq] at h; subst h; exact ⟨rfl, rfl⟩
  | x :: t, w, h => by
      unfold toW at h
      split at h
      · rename_i e; cases e
      · rename_i n t' e
        cases e
        cases hb : Nat.blt n 4294967296 with
        | false => rw [hb] at h; cases h
        | true =>
          rw [hb] at h
          simp only [cond_true, Option.map_eq_some_iff] at h
          obtain ⟨w', h1, rfl⟩ := h
          obtain ⟨g1, g2⟩ := toW_eq h1
          have hn : n < 4294967296 := Nat.le_of_ble_eq_true hb
          refine ⟨?_, by simp only [List.all_cons, isInt, Bool.true_and]; exact g2⟩
          unfold wordsU
          rw [List.map_cons]
          have : (BitVec.ofNat 32 n).toNat = n := by simp; omega
          rw [this]
          unfold wordsU at g1
          rw [← g1]
      · cases h
theorem toB_eq : ∀ {l : List Value} {w : List UInt8}, toB l = some w → l = w.map u8V ∧ l.all isInt = true
  | [], w, h => by simp only [toB, Option.some.injEq] at h; subst h; exact ⟨rfl, rfl⟩
  | x :: t, w, h => by
      unfold toB at h
      split at h
      · rename_i e; cases e
      · rename_i n t' e
        cases e
        cases hb : Nat.blt n 256 with
        | false => rw [hb] at h; cases h
        | true =>
          rw [hb] at h
          simp only [cond_true, Option.map_eq_some_iff] at h
          obtain ⟨w', h1, rfl⟩ := h
          obtain ⟨g1, g2⟩ := toB_eq h1
          have hn : n < 256 := Nat.le_of_ble_eq_true hb
          refine ⟨?_, by simp only [List.all_cons, isInt, Bool.true_and]; exact g2⟩
          rw [List.map_cons]
          have : u8V (UInt8.ofNat n) = .int .u8 (.ofNat n) := u8V_of' hn
          rw [this, ← g1]
      · cases h
end Go.Bb
/- The reckoner with blocks mixed at once: it is sound. -/
namespace Go.Bb
set_option linter.unusedSimpArgs false
set_option linter.unusedVariables false
set_option maxRecDepth 20000

noncomputable def mixG (hs : Array Value) (a : Addr) (p : Addr) (m : VM) : RV :=
  match toW hs.toList, cellsE m a (64 * 1), cellsE m p 64 with
  | some H, some bs, some ks =>
    match toB bs, toW ks with
    | some B, some K => bif Nat.beq H.length 8 then some (.agg (wordsU (mixL K H B)).toArray, m) else none
    | _, _ => none
  | _, _, _ => none
noncomputable def mixH (args : List Value) (m : VM) : RV :=
  match args with
  | [.agg hs, .slice (some a) 64 c, .pointer (some p)] => mixG hs a p m
  | _ => none
noncomputable def mixHk : Hooks := fun n => bif Nat.beq n n_sha_mix then some mixH else none

theorem wordsU_row (l : List U32) : wordsU l = rowU (fun j => l.getD j 0) l.length := by
  apply List.ext_getElem
  · simp [wordsU, rowU]
  · intro j a b
    rw [rowU_get]
    have : j < l.length := by simpa [wordsU] using a
    simp [wordsU, this]

theorem VR.agg_ints {fid : Nat → Option FuncId} {r : Rr} {a : Array Value} {v' : Value} (h : VR fid r (.agg a) v') (hi : a.toList.all isInt = true) : v' = .agg a := by
  cases h with
  | one h =>
    cases h with
    | one h => cases h with | base h => cases h with | plain hp => cases hp
    | agg h =>
      have := all2_ints h hi
      rw [Array.toList_inj] at this
      rw [this]

theorem all2_refl_ints {fid : Nat → Option FuncId} {r : Rr} : ∀ {l : List Value}, l.all isInt = true → All2 (VR0 fid r) l l
  | [], _ => .nil
  | x :: l, h => by
      simp only [List.all_cons, Bool.and_eq_true] at h
      refine .cons ?_ (all2_refl_ints h.2)
      have h2 := h.1
      cases x <;> try (cases h2; done)
      exact .base (.plain rfl)
theorem wordsU_ints (l : List U32) : (wordsU l).all isInt = true := by simp [wordsU, isInt]
theorem HS.le {fid : Nat → Option FuncId} {h0 : Heap} {r : Rr} {m : VM} {h h' : Heap} (p : HS fid h0 r m h) (x : h.le h') : HS fid h0 r m h' where
  blk := fun b y hy => by obtain ⟨k, z, a, b', c⟩ := p.blk b y hy; exact ⟨k, z, a, x _ _ b', c⟩
  inj := p.inj
  old := fun b y hy => x _ _ (p.old b y hy)
  own := p.own
  fresh := p.fresh
  room := p.room

theorem mixHk_ok (E : EnvT tab) : HooksOk E.toEnv mixHk := by
  intro h0 n f hf
  unfold mixHk at hf
  cases hn : Nat.beq n n_sha_mix with
  | false => rw [hn] at hf; cases hf
  | true =>
    rw [hn] at hf
    simp only [cond_true, Option.some.injEq] at hf
    subst hf
    have hn' := Nat.eq_of_beq_eq_true hn
    subst hn'
    intro args m v m' r h args' p ha e
    unfold mixH at e
    split at e
    · rename_i hs a c q
      unfold mixG at e
      split at e
      · rename_i H bs ks e1 e2 e3
        split at e
        · rename_i B K e4 e5
          cases hl : Nat.beq H.length 8 with
          | false => rw [hl] at e; cases e
          | true =>
            rw [hl] at e
            simp only [cond_true, Option.some.injEq, Prod.mk.injEq] at e
            obtain ⟨rfl, rfl⟩ := e
            have hl8 := Nat.eq_of_beq_eq_true hl
            obtain ⟨g1, g1'⟩ := toW_eq e1
            obtain ⟨g2, g2'⟩ := toB_eq e4
            obtain ⟨g3, g3'⟩ := toW_eq e5
            cases ha with
            | cons a1 ha =>
              cases ha with
              | cons a2 ha =>
                cases ha with
                | cons a3 ha =>
                  cases ha
                  rw [a1.agg_ints g1']
                  obtain ⟨k, c', o, hsp, hk, rfl, hnc, q0, q1⟩ := a2.of_sl
                  obtain ⟨k2, c2, o2, _, hk2, hv2, l', hc1, hc2⟩ := sl_cells p.toHR a2 (Nat.le_refl 64) e2
                  simp only [Value.slice.injEq, Option.some.injEq, Addr.mk.injEq, true_and, and_true] at hv2
                  obtain ⟨⟨hb2, rfl⟩, rfl⟩ := hv2
                  rw [all2_ints hc2 g2', g2] at hc1
                  obtain ⟨kp, hps, hkp, rfl⟩ := a3.of_ptr
                  obtain ⟨lk, hk1, hk3⟩ := cells_sim p.toHR hkp e3
                  rw [all2_ints hk3 g3', g3] at hk1
                  have lB : B.length = 64 := by
                    have := hcells_length hc1
                    simpa using this
                  have lK : K.length = 64 := by
                    have := hcells_length hk1
                    simpa [wordsU] using this
                  have sb : SlB h (.slice (some ⟨k.b, o, none⟩) 64 c') B := by
                    unfold SlB
                    rw [lB]
                    refine .inr ⟨⟨k.b, o, none⟩, c', rfl, hnc, ?_⟩
                    rw [hb2]; exact hc1
                  rw [wordsU_row, lK] at hk1
                  have hsE : hs = (rowU (fun j => H.getD j 0) 8).toArray := by
                    apply Array.toList_inj.1
                    rw [g1, wordsU_row, hl8]
                  rw [hsE]
                  refine (sha_mix_c E h (fun j => H.getD j 0) (fun j => K.getD j 0) B (bk := kp.b) (ok := q.off + kp.sh) hk1 lB sb).mono ?_
                  rintro v' h' ⟨le', rfl⟩
                  refine ⟨r, Rr.le_refl _, p.le le', ?_⟩
                  rw [← mixL_row]
                  exact .one (.agg (all2_refl_ints (wordsU_ints _)))
        · cases e
      · cases e
    · cases e
end Go.Bb
/- Laws on journals: what all share. -/
namespace Go.Bb
set_option linter.unusedSimpArgs false
set_option linter.unusedVariables false
set_option maxRecDepth 100000
set_option maxHeartbeats 2000000

theorem pk14a : isTrue (evF tab mixHk 1000 50 n_bandboxlaw14_awake [] VM.start) = true := by decide +kernel
theorem law14_awake_c (E : EnvT tab) (h : Heap) : ACallN E.toEnv n_bandboxlaw14_awake [] h fun v h' => v = .bool true ∧ h.le h' := evF_true (mixHk_ok E) _ pk14a
theorem law14_same_c (E : EnvT tab) {H : Heap} {v w : Value} (A B : List (List UInt8)) (sA : SlL H v A) (sB : SlL H w B) (hA : A.length ≤ 1000000000) (hB : B.length ≤ 1000000000) : ACallN E.toEnv n_bandboxlaw14_same [v, w] H fun r H' => H' = H ∧ r = .bool (decide (A = B)) := by
  obtain ⟨Ab, Ac, rfl⟩ := sA.shape
  obtain ⟨Bb', Bc, rfl⟩ := sB.shape
  refine acall h_bandboxlaw14_same ir_bandboxlaw14_same rfl rfl (wpA_sound ?_)
  unfold ir_bandboxlaw14_same
  by_cases hl : A.length = B.length
  · have hl' : ((A.length : Int) != (B.length : Int)) = false := by rw [hl]; simp
    simp -implicitDefEqProofs only [zB1,zB2,zB3,zB4,zB5,zB6,zB7,zB8,zB9,zB10,zB11,y00,y01,y02,y03,y04,y05,y06,y07,y08,y09,y0a,y0b,y0c,y0d,y0e,y0f,y0g,y0h,y0i,y0j,y0k,y0l,y0m,y0n,y0o,y0p,y0q,y0r,y0s,y0t,y0u,y0v,y0w,y0x,y0y,y0z,y10,y11,y12,y13,y14,y15,y16,y17,y18,y19,y1a,y1b,y1c,y1d,y1e,y1f,y1g,y1h,y1i,y1j,y1k,y1l,y1m,y1n,y1o,y1p,y1q,y1r,retO,retL,retV,z6i,allV,allP,z6j,z6m,z6n,z6t,z6u,z6v,binV,eqV,unV,oOpt,reduceIte,reduceCtorEq,Nat.reduceEqDiff,Nat.reduceAdd,Nat.reduceMul,Nat.reduceLT,Nat.reduceSub,Int.reduceLT,Int.reduceLE,Int.reduceEq,Int.reduceNe,Int.reduceSub,Int.reduceAdd,Int.reduceMul,Int.reduceBEq,Int.reduceBNe,Int.reduceGT,Int.reduceGE,Nat.reduceGT,Int.reduceToNat,Int.reduceNeg,Nat.reduceLeDiff,Nat.reduceBEq,Nat.reduceBneDiff,Value.cells, hl']
    unfold ir_bandboxlaw14_same_5
    simp -implicitDefEqProofs only [zB1,zB2,zB3,zB4,zB5,zB6,zB7,zB8,zB9,zB10,zB11,y00,y01,y02,y03,y04,y05,y06,y07,y08,y09,y0a,y0b,y0c,y0d,y0e,y0f,y0g,y0h,y0i,y0j,y0k,y0l,y0m,y0n,y0o,y0p,y0q,y0r,y0s,y0t,y0u,y0v,y0w,y0x,y0y,y0z,y10,y11,y12,y13,y14,y15,y16,y17,y18,y19,y1a,y1b,y1c,y1d,y1e,y1f,y1g,y1h,y1i,y1j,y1k,y1l,y1m,y1n,y1o,y1p,y1q,y1r,retO,retL,retV,z6i,allV,allP,z6j,z6m,z6n,z6t,z6u,z6v,binV,eqV,unV,oOpt,reduceIte,reduceCtorEq,Nat.reduceEqDiff,Nat.reduceAdd,Nat.reduceMul,Nat.reduceLT,Nat.reduceSub,Int.reduceLT,Int.reduceLE,Int.reduceEq,Int.reduceNe,Int.reduceSub,Int.reduceAdd,Int.reduceMul,Int.reduceBEq,Int.reduceBNe,Int.reduceGT,Int.reduceGE,Nat.reduceGT,Int.reduceToNat,Int.reduceNeg,Nat.reduceLeDiff,Nat.reduceBEq,Nat.reduceBneDiff,Value.cells]
    refine wp_loop' (fun m t G => G = H ∧ ∃ i : Nat, t = tl [(0, .slice Ab A.length Ac), (1, .slice Bb' B.length Bc), (5, .int .i64 i)] ∧ i ≤ A.length ∧ m = A.length - i ∧ A.take i = B.take i) A.length
      ⟨rfl, 0, rfl, by omega, by omega, by simp⟩ ?_
    rintro m t G ⟨rfl, i, rfl, hi, rfl, he⟩
    by_cases hlt : i < A.length
    · have hi1 : (i : Int) < A.length := by omega
      have hi2 : (0 : Int) ≤ i := by omega
      have hi3 : (i : Int) < B.length := by omega
      have w1 : IntKind.i64.wrap ((i : Int) + 1) = ((i + 1 : Nat) : Int) := wrapN (by omega)
      obtain ⟨b, o, bi, ci, rfl, si, ciH⟩ := sA.at' i hlt
      obtain ⟨b2, o2, bi2, ci2, rfl, si2, ciH2⟩ := sB.at' i (by omega)
      have c1 := ciH G (Heap.le_refl _)
      have c2 := ciH2 G (Heap.le_refl _)
      have f1 := strOfV_sl si
      have f2 := strOfV_sl si2
      simp only [strV] at f1 f2
      by_cases e : A[i] = B[i]'(by omega)
      · have e1 : (A[i] == B[i]'(by omega)) = true := by rw [e]; simp
        simp -implicitDefEqProofs only [zB1,zB2,zB3,zB4,zB5,zB6,zB7,zB8,zB9,zB10,zB11,y00,y01,y02,y03,y04,y05,y06,y07,y08,y09,y0a,y0b,y0c,y0d,y0e,y0f,y0g,y0h,y0i,y0j,y0k,y0l,y0m,y0n,y0o,y0p,y0q,y0r,y0s,y0t,y0u,y0v,y0w,y0x,y0y,y0z,y10,y11,y12,y13,y14,y15,y16,y17,y18,y19,y1a,y1b,y1c,y1d,y1e,y1f,y1g,y1h,y1i,y1j,y1k,y1l,y1m,y1n,y1o,y1p,y1q,y1r,retO,retL,retV,z6i,allV,allP,z6j,z6m,z6n,z6t,z6u,z6v,binV,eqV,unV,oOpt,reduceIte,reduceCtorEq,Nat.reduceEqDiff,Nat.reduceAdd,Nat.reduceMul,Nat.reduceLT,Nat.reduceSub,Int.reduceLT,Int.reduceLE,Int.reduceEq,Int.reduceNe,Int.reduceSub,Int.reduceAdd,Int.reduceMul,Int.reduceBEq,Int.reduceBNe,Int.reduceGT,Int.reduceGE,Nat.reduceGT,Int.reduceToNat,Int.reduceNeg,Nat.reduceLeDiff,Nat.reduceBEq,Nat.reduceBneDiff,Value.cells, hi1, hi2, hi3, Int.toNat_natCast, c1, c2, f1, f2, str_toList, e1, w1]
        refine ⟨_, ?_, i + 1, rfl, by omega, rfl, ?_⟩
        · omega
        · rw [List.take_succ_eq_append_getElem hlt, List.take_succ_eq_append_getElem (by omega), he, e]
      · have e1 : (A[i] == B[i]'(by omega)) = false := by simpa using e
        have en : ¬ A = B := fun q => e (by subst q; rfl)
        simp -implicitDefEqProofs only [zB1,zB2,zB3,zB4,zB5,zB6,zB7,zB8,zB9,zB10,zB11,y00,y01,y02,y03,y04,y05,y06,y07,y08,y09,y0a,y0b,y0c,y0d,y0e,y0f,y0g,y0h,y0i,y0j,y0k,y0l,y0m,y0n,y0o,y0p,y0q,y0r,y0s,y0t,y0u,y0v,y0w,y0x,y0y,y0z,y10,y11,y12,y13,y14,y15,y16,y17,y18,y19,y1a,y1b,y1c,y1d,y1e,y1f,y1g,y1h,y1i,y1j,y1k,y1l,y1m,y1n,y1o,y1p,y1q,y1r,retO,retL,retV,z6i,allV,allP,z6j,z6m,z6n,z6t,z6u,z6v,binV,eqV,unV,oOpt,reduceIte,reduceCtorEq,Nat.reduceEqDiff,Nat.reduceAdd,Nat.reduceMul,Nat.reduceLT,Nat.reduceSub,Int.reduceLT,Int.reduceLE,Int.reduceEq,Int.reduceNe,Int.reduceSub,Int.reduceAdd,Int.reduceMul,Int.reduceBEq,Int.reduceBNe,Int.reduceGT,Int.reduceGE,Nat.reduceGT,Int.reduceToNat,Int.reduceNeg,Nat.reduceLeDiff,Nat.reduceBEq,Nat.reduceBneDiff,Value.cells, hi1, hi2, hi3, Int.toNat_natCast, c1, c2, f1, f2, str_toList, e1, en]
    · have hi1 : ¬ (i : Int) < A.length := by omega
      have e0 : i = A.length := by omega
      subst e0
      rw [List.take_length, hl, List.take_length] at he
      subst he
      simp -implicitDefEqProofs only [zB1,zB2,zB3,zB4,zB5,zB6,zB7,zB8,zB9,zB10,zB11,y00,y01,y02,y03,y04,y05,y06,y07,y08,y09,y0a,y0b,y0c,y0d,y0e,y0f,y0g,y0h,y0i,y0j,y0k,y0l,y0m,y0n,y0o,y0p,y0q,y0r,y0s,y0t,y0u,y0v,y0w,y0x,y0y,y0z,y10,y11,y12,y13,y14,y15,y16,y17,y18,y19,y1a,y1b,y1c,y1d,y1e,y1f,y1g,y1h,y1i,y1j,y1k,y1l,y1m,y1n,y1o,y1p,y1q,y1r,retO,retL,retV,z6i,allV,allP,z6j,z6m,z6n,z6t,z6u,z6v,binV,eqV,unV,oOpt,reduceIte,reduceCtorEq,Nat.reduceEqDiff,Nat.reduceAdd,Nat.reduceMul,Nat.reduceLT,Nat.reduceSub,Int.reduceLT,Int.reduceLE,Int.reduceEq,Int.reduceNe,Int.reduceSub,Int.reduceAdd,Int.reduceMul,Int.reduceBEq,Int.reduceBNe,Int.reduceGT,Int.reduceGE,Nat.reduceGT,Int.reduceToNat,Int.reduceNeg,Nat.reduceLeDiff,Nat.reduceBEq,Nat.reduceBneDiff,Value.cells, hi1]
  · have hl' : ((A.length : Int) != (B.length : Int)) = true := by simp; omega
    have en : ¬ A = B := fun q => hl (by rw [q])
    simp -implicitDefEqProofs only [zB1,zB2,zB3,zB4,zB5,zB6,zB7,zB8,zB9,zB10,zB11,y00,y01,y02,y03,y04,y05,y06,y07,y08,y09,y0a,y0b,y0c,y0d,y0e,y0f,y0g,y0h,y0i,y0j,y0k,y0l,y0m,y0n,y0o,y0p,y0q,y0r,y0s,y0t,y0u,y0v,y0w,y0x,y0y,y0z,y10,y11,y12,y13,y14,y15,y16,y17,y18,y19,y1a,y1b,y1c,y1d,y1e,y1f,y1g,y1h,y1i,y1j,y1k,y1l,y1m,y1n,y1o,y1p,y1q,y1r,retO,retL,retV,z6i,allV,allP,z6j,z6m,z6n,z6t,z6u,z6v,binV,eqV,unV,oOpt,reduceIte,reduceCtorEq,Nat.reduceEqDiff,Nat.reduceAdd,Nat.reduceMul,Nat.reduceLT,Nat.reduceSub,Int.reduceLT,Int.reduceLE,Int.reduceEq,Int.reduceNe,Int.reduceSub,Int.reduceAdd,Int.reduceMul,Int.reduceBEq,Int.reduceBNe,Int.reduceGT,Int.reduceGE,Nat.reduceGT,Int.reduceToNat,Int.reduceNeg,Nat.reduceLeDiff,Nat.reduceBEq,Nat.reduceBneDiff,Value.cells, hl', en]
theorem open_empty (room : Int) : openF { room := room } = (some { lives := 1 }, { room := room }, 0) := by rfl
theorem readBase_empty (room : Int) : readBaseF { lives := 1 } { room := room } = ({ lives := 1 }, 0) := by rfl
end Go.Bb
/- Contracts: numbers, the lowest byte first. -/
namespace Go.Bb
set_option linter.unusedSimpArgs false
set_option linter.unusedVariables false
set_option maxRecDepth 20000

end Go.Bb
/- Contracts: bytes turned round. -/
namespace Go.Bb
set_option linter.unusedSimpArgs false
set_option linter.unusedVariables false
set_option maxRecDepth 20000

end Go.Bb
/- Rows with colours; the law JournalApart. -/
namespace Go.Bb
set_option linter.unusedSimpArgs false
set_option linter.unusedVariables false
set_option maxRecDepth 20000
set_option maxHeartbeats 2000000

/-- Rows that are ours: a thing of their own. -/
def RowsK (κ : Pal) (H : Heap) (T : Nat) (v : Value) (L : List (List UInt8)) : Prop :=
  ∃ vs : List Value, OwK κ (T, 0, 12) H 1 v L.length vs ∧ vs.length = L.length ∧ ∀ i (h1 : i < vs.length) (h2 : i < L.length), OwK κ (T, i, 11) H 1 vs[i] L[i].length (L[i].map u8V)
theorem RowsK.ext {cs : Col → Prop} {κ κ' : Pal} {H H' : Heap} {T : Nat} {v : Value} {L : List (List UInt8)} (a : Ext cs κ H κ' H') (n : ∀ c : Col, c.1 = T → ¬ cs c) (R : RowsK κ H T v L) : RowsK κ' H' T v L := by
  obtain ⟨vs, s, l, e⟩ := R
  exact ⟨vs, a.own (n _ rfl) s, l, fun i h1 h2 => a.own (n _ rfl) (e i h1 h2)⟩
theorem RowsK.sl {κ : Pal} {H : Heap} {T : Nat} {v : Value} {L : List (List UInt8)} (n : RowsK κ H T v L) : SlL H v L := by
  obtain ⟨vs, s, l, e⟩ := n
  exact ⟨vs, l, s.sl, fun i h1 h2 => (e i h1 h2).sl⟩
theorem RowsK.nil (κ : Pal) (H : Heap) (T : Nat) : RowsK κ H T (.slice none 0 0) [] := ⟨[], Ow.nil _ _ _, rfl, fun i h1 => by simp at h1⟩
/-- A palette that has new colours for what is new. -/
def Pal.merge (κ : Pal) (H : Heap) (κi : Pal) (T : Nat) : Pal := fun b => if H b = none then (κi b).map (fun c => (T, c.2)) else κ b
theorem Ext.merge {cs : Col → Prop} {κ κi : Pal} {H H' : Heap} (T : Nat) (h : H.le H') : Ext cs κ H (κ.merge H κi T) H' := by
  intro b x q n
  refine ⟨h b x q, ?_⟩
  unfold Pal.merge; rw [if_neg (by rw [q]; simp)]
theorem merge_own {κ κi : Pal} {H H' : Heap} {T : Nat} {x : Nat × Nat} (hi : ∀ b, H b ≠ none → κi b = none) {size m : Nat} {v : Value} {cells : List Value} (s : OwK κi (0, x) H' size v m cells) : OwK (κ.merge H κi T) (T, x) H' size v m cells := by
  rcases s with s | ⟨b, o, c', sz, st, pre, rest, h1, h2, h3, h4, h5⟩
  · exact .inl s
  · refine .inr ⟨b, o, c', sz, st, pre, rest, h1, h2, Heap.but_none.2 (.inl ?_), h4, h5⟩
    rcases Heap.but_none.1 h3 with hk | hn
    · unfold Pal.merge
      rw [if_pos]
      · rw [hk]; rfl
      · cases hH : H b with
        | none => rfl
        | some y => rw [hi b (by rw [hH]; simp)] at hk; cases hk
    · rw [hn] at h4; cases h4
theorem NewL.rows {κ κi : Pal} {H H' : Heap} {v : Value} {L : List (List UInt8)} (T : Nat) (n : NewL H H' κi v L) : RowsK (κ.merge H κi T) H' T v L := by
  obtain ⟨hi, vs, s, l, e⟩ := n
  exact ⟨vs, merge_own hi s, l, fun i h1 h2 => merge_own hi (e i h1 h2)⟩
theorem lit1_bare {κ : Pal} {H h0 : Heap} {b : Nat} (hb : H b = none) (le : h0.le (H.bare κ)) {wv : Value} {l : List UInt8} (s : SlB h0 wv l) : SlL ((H.set b (.own 0 [wv] 1)).bare (fun i => if i = b then none else κ i)) (.slice (some ⟨b, 0, none⟩) 1 1) [l] := by
  have e : Ext (fun _ => False) κ H (fun i => if i = b then none else κ i) (H.set b (.own 0 [wv] 1)) := Ext.new hb _ none
  refine ⟨[wv], rfl, ?_, ?_⟩
  · refine .inr ⟨⟨b, 0, none⟩, 1, rfl, Nat.le_refl _, ?_⟩
    rw [hcells_at (vs := [wv]) (sz := 1) (Heap.bare_some.2 ⟨Heap.set_self _ _ _, by simp⟩) (by simp)]
    rfl
  · intro i h1 h2
    have : i = 0 := by simp at h1; omega
    subst this
    exact s.le (Heap.le_trans le e.bare)
theorem add1 {J : JF} {D : DiskF} {b : List UInt8} (dn : doneF J D = false) (hb : b.length ≤ 16384) (h : (appendF D (nameF J.turn J.part) (frameF b)).2 = 0) :
    addF J D [b] = ({ J with written := true, recs := J.recs ++ [b] }, (appendF D (nameF J.turn J.part) (frameF b)).1, 0) := by
  unfold addF
  have : [b].any (fun b => decide (16384 < b.length)) = false := by simp; omega
  rw [dn, this]
  simp only [addL, h, if_true, Bool.false_eq_true, if_false]
end Go.Bb
/- Frames, plainly: what is read back. -/
namespace Go.Bb
set_option linter.unusedSimpArgs false
set_option linter.unusedVariables false
set_option maxRecDepth 20000

theorem take_app' {α : Type} {a b : List α} {n : Nat} (h : a.length = n) : (a ++ b).take n = a := by subst h; simp
theorem drop_app' {α : Type} {a b : List α} {n : Nat} (h : a.length = n) : (a ++ b).drop n = b := by subst h; simp
theorem big_step (v : U64) (n : Nat) : (v >>> (8 * (n + 1))) <<< 8 ||| BitVec.ofNat 64 (UInt8.ofNat (v >>> (8 * n)).toNat).toNat = v >>> (8 * n) := by
  apply BitVec.eq_of_getLsbD_eq
  intro i hi
  have e : (UInt8.ofNat (v >>> (8 * n)).toNat).toNat = (v >>> (8 * n)).toNat % 2 ^ 8 := by simp
  rw [e]
  simp only [BitVec.getLsbD_or, BitVec.getLsbD_shiftLeft, BitVec.getLsbD_ushiftRight, BitVec.getLsbD_ofNat, hi, decide_true, Bool.true_and, Nat.testBit_mod_two_pow]
  by_cases h8 : i < 8
  · have : (v >>> (8 * n)).toNat.testBit i = v.getLsbD (8 * n + i) := by
      rw [← BitVec.getLsbD_ushiftRight]; rfl
    simp [h8, this]
    rfl
  · simp only [h8, decide_false, Bool.not_false, Bool.true_and, Bool.false_and, Bool.or_false]
    congr 1; omega
theorem big_fold (v : U64) : ∀ n, (bigF v n).foldl (fun (w : U64) (b : UInt8) => w <<< 8 ||| BitVec.ofNat 64 b.toNat) (v >>> (8 * n)) = v
  | 0 => by simp [bigF]
  | n + 1 => by
    rw [bigF_succ, List.foldl_cons, big_step]
    exact big_fold v n
theorem fromBig_big (v : U64) (n : Nat) (h : v.toNat < 2 ^ (8 * n)) : fromBigF (bigF v n) = v := by
  have : v >>> (8 * n) = 0#64 := by
    apply BitVec.eq_of_toNat_eq
    rw [BitVec.toNat_ushiftRight, Nat.shiftRight_eq_div_pow, Nat.div_eq_of_lt h]; rfl
  unfold fromBigF
  have h2 := big_fold v n
  rw [this] at h2
  exact h2
theorem fromBig_be4 {n : Nat} (h : n < 4294967296) : (fromBigF (be4 n)).toNat = n := by
  unfold be4
  have e : (BitVec.ofNat 64 n).toNat = n := by rw [BitVec.toNat_ofNat]; omega
  rw [fromBig_big _ 4 (by rw [e]; omega), e]
theorem nextF_frame (b r : List UInt8) (h : b.length < 4294967296) : nextF (frameF b ++ r) = some (b, r) := by
  have hS := shaF_len (be4 b.length ++ b)
  have hfr := frameF_len b
  have h4 := be4_len b.length
  have hb := fromBig_be4 h
  have eF : frameF b ++ r = be4 b.length ++ ((shaF (be4 b.length ++ b)).take 16 ++ (b ++ r)) := by unfold frameF; simp only [List.append_assoc]
  have l16 : ((shaF (be4 b.length ++ b)).take 16).length = 16 := by rw [List.length_take]; omega
  have t4 : (frameF b ++ r).take 4 = be4 b.length := by rw [eF]; exact take_app' h4
  have d4 : ((frameF b ++ r).drop 4).take 16 = (shaF (be4 b.length ++ b)).take 16 := by rw [eF, drop_app' h4]; exact take_app' l16
  have d20 : (frameF b ++ r).drop 20 = b ++ r := by
    rw [eF, ← List.append_assoc]
    exact drop_app' (by rw [List.length_append]; omega)
  have dn : (frameF b ++ r).drop (20 + b.length) = r := drop_app' (by rw [hfr])
  unfold nextF
  rw [t4, hb, d20, take_app' rfl, d4, dn, if_neg (by rw [List.length_append]; omega), if_neg (by rw [List.length_append]; omega), if_pos rfl]
theorem parse_fuel : ∀ (n m : Nat) (b : List UInt8), b.length ≤ n → b.length ≤ m → parseF n b = parseF m b
  | 0, 0, _, _, _ => rfl
  | 0, m + 1, b, h, _ => by
    have : b.length = 0 := by omega
    simp [parseF, this]
  | n + 1, 0, b, _, h => by
    have : b.length = 0 := by omega
    simp [parseF, this]
  | n + 1, m + 1, b, h1, h2 => by
    unfold parseF
    by_cases hz : b.length = 0
    · rw [if_pos hz, if_pos hz]
    · rw [if_neg hz, if_neg hz]
      cases hn : nextF b with
      | none => rfl
      | some q =>
        obtain ⟨x, y⟩ := q
        have := (nextF_len hn).1
        simp only
        rw [parse_fuel n m y (by omega) (by omega)]
def parse (b : List UInt8) : List (List UInt8) × Bool := parseF b.length b
theorem parse_nil : parse [] = ([], true) := rfl
theorem parse_none {b : List UInt8} (h : nextF b = none) (hz : b ≠ []) : parse b = ([], false) := by
  unfold parse
  cases b with
  | nil => exact absurd rfl hz
  | cons x l => simp [parseF, h]
theorem parse_some {b x y : List UInt8} (h : nextF b = some (x, y)) : parse b = (x :: (parse y).1, (parse y).2) := by
  have hl := (nextF_len h).1
  unfold parse
  obtain ⟨n, hn⟩ : ∃ n, b.length = n + 1 := ⟨b.length - 1, by omega⟩
  rw [hn, parseF, if_neg (by omega), h]
  simp only
  rw [parse_fuel n y.length y (by omega) (Nat.le_refl _)]
theorem parse_frames : ∀ (w : List (List UInt8)) (R : List UInt8), (∀ b ∈ w, b.length < 4294967296) → parse (w.flatMap frameF ++ R) = (w ++ (parse R).1, (parse R).2)
  | [], R, _ => rfl
  | b :: w, R, h => by
    rw [List.flatMap_cons, List.append_assoc, parse_some (nextF_frame b _ (h b (by simp))), parse_frames w R fun x hx => h x (List.mem_cons_of_mem _ hx)]
    rfl
theorem parse_all (w : List (List UInt8)) (h : ∀ b ∈ w, b.length < 4294967296) : parse (w.flatMap frameF) = (w, true) := by
  have := parse_frames w [] h
  rw [List.append_nil, parse_nil, List.append_nil] at this
  exact this
end Go.Bb
/- A journal's disk, plainly: the base, the files of records. -/
namespace Go.Bb
set_option linter.unusedSimpArgs false
set_option linter.unusedVariables false
set_option maxRecDepth 20000

def partsF (T : Nat) : Nat → List FileF → Files
  | _, [] => []
  | k, F :: l => (nameF T k, F) :: partsF T (k + 1) l
def be8 (T : Nat) : List UInt8 := bigF (BitVec.ofNat 64 T) 8
def baseL (T : Nat) (base : List UInt8) : Files := if T = 0 then [] else [(baseN, ⟨frameF (be8 T ++ base), []⟩)]
def dJ (room lives : Int) (T : Nat) (base : List UInt8) (fs : List FileF) : DiskF := { room := room, files := baseL T base ++ partsF T 0 fs, on := true, lives := lives }
theorem look_app' (A B : Files) (s : List UInt8) : lookF (A ++ B) s = (lookF A s).or (lookF B s) := by
  unfold lookF
  rw [List.find?_append]
  cases List.find? (fun x => decide (x.1 = s)) A <;> rfl
theorem look_cons (x : List UInt8 × FileF) (L : Files) (s : List UInt8) : lookF (x :: L) s = if x.1 = s then some x.2 else lookF L s := by
  unfold lookF
  rw [List.find?_cons]
  by_cases h : x.1 = s <;> simp [h]
theorem name_ne_base (T k : Nat) : nameF T k ≠ baseN := by
  obtain ⟨x, h⟩ := name_r T k
  rw [h]; simp [baseN]
theorem name_ne_new (T k : Nat) : nameF T k ≠ newN := by
  obtain ⟨x, h⟩ := name_r T k
  rw [h]; simp [newN]
theorem look_parts {T q : Nat} (hT : T < 64) (hq : q < 64) : ∀ (k : Nat) (fs : List FileF), k + fs.length ≤ 64 → lookF (partsF T k fs) (nameF T q) = if k ≤ q then fs[q - k]? else none
  | k, [], _ => by simp [partsF, lookF]
  | k, F :: l, h => by
    simp only [List.length_cons] at h
    rw [partsF, look_cons, look_parts hT hq (k + 1) l (by omega)]
    by_cases e : nameF T k = nameF T q
    · obtain ⟨-, rfl⟩ := name_inj hT (by omega) hT hq e
      simp
    · have hk : k ≠ q := fun h => e (by rw [h])
      rw [if_neg e]
      by_cases h1 : k ≤ q
      · rw [if_pos (by omega), if_pos h1]
        rw [show q - k = q - (k + 1) + 1 by omega, List.getElem?_cons_succ]
      · rw [if_neg (by omega), if_neg h1]
theorem look_parts_ne {T : Nat} {s : List UInt8} : ∀ (k : Nat) (fs : List FileF), (∀ q, k ≤ q → q < k + fs.length → nameF T q ≠ s) → lookF (partsF T k fs) s = none
  | k, [], _ => by simp [partsF, lookF]
  | k, F :: l, h => by
    rw [partsF, look_cons, if_neg (h k (Nat.le_refl _) (by simp)), look_parts_ne (k + 1) l fun q h1 h2 => h q (by omega) (by simp only [List.length_cons]; omega)]
theorem turn_parts {T q : Nat} (hT : T < 64) (hq : q < 64) (F : FileF) : ∀ (k : Nat) (fs : List FileF), k + fs.length ≤ 64 → k ≤ q → turnF' (partsF T k fs) (nameF T q) F = partsF T k (fs.set (q - k) F)
  | k, [], _, _ => by simp [partsF, turnF']
  | k, G :: l, h, hkq => by
    simp only [List.length_cons] at h
    have e : turnF' (partsF T k (G :: l)) (nameF T q) F = (if nameF T k = nameF T q then (nameF T k, F) else (nameF T k, G)) :: turnF' (partsF T (k + 1) l) (nameF T q) F := rfl
    rw [e]
    by_cases c : k = q
    · subst c
      rw [if_pos rfl, Nat.sub_self, List.set_cons_zero, partsF]
      congr 1
      have : ∀ (m : Nat) (fs : List FileF), k < m → m + fs.length ≤ 64 → turnF' (partsF T m fs) (nameF T k) F = partsF T m fs := by
        intro m fs
        induction fs generalizing m with
        | nil => intro _ _; rfl
        | cons X fs ih =>
          intro h1 h2
          simp only [List.length_cons] at h2
          have e : turnF' (partsF T m (X :: fs)) (nameF T k) F = (if nameF T m = nameF T k then (nameF T m, F) else (nameF T m, X)) :: turnF' (partsF T (m + 1) fs) (nameF T k) F := rfl
          rw [e, if_neg (fun q => by have := (name_inj hT (by omega) hT hq q).2; omega), ih (m + 1) (by omega) (by omega)]
          rfl
      exact this (k + 1) l (by omega) (by omega)
    · rw [if_neg (fun h => c (name_inj hT (by omega) hT hq h).2), turn_parts hT hq F (k + 1) l (by omega) (by omega)]
      rw [show q - k = q - (k + 1) + 1 by omega, List.set_cons_succ, partsF]
theorem parts_app (T : Nat) : ∀ (k : Nat) (a b : List FileF), partsF T k (a ++ b) = partsF T k a ++ partsF T (k + a.length) b
  | k, [], b => by simp [partsF]
  | k, F :: a, b => by
    rw [List.cons_append, partsF, partsF, parts_app T (k + 1) a b, List.cons_append, List.length_cons]
    congr 3; omega
theorem parts_size (T : Nat) : ∀ (k : Nat) (fs : List FileF), sizeF (partsF T k fs) = (fs.map FileF.size).sum
  | _, [] => rfl
  | k, F :: l => by
    have := parts_size T (k + 1) l
    simp only [partsF, sizeF, List.map_cons, List.sum_cons] at this ⊢
    omega
theorem parts_map (T : Nat) (φ : FileF → FileF) : ∀ (k : Nat) (fs : List FileF), (partsF T k fs).map (fun x => (x.1, φ x.2)) = partsF T k (fs.map φ)
  | _, [] => rfl
  | k, F :: l => by rw [partsF, List.map_cons, parts_map T φ (k + 1) l]; rfl
theorem base_look {T q : Nat} {base : List UInt8} : lookF (baseL T base) (nameF T q) = none := by
  unfold baseL
  split
  · rfl
  · rw [look_cons, if_neg (name_ne_base T q).symm]; rfl
section
variable {room lives : Int} {T : Nat} {base : List UInt8} {fs : List FileF}
theorem dJ_look (hT : T < 64) {q : Nat} (hq : q < 64) (hf : fs.length ≤ 64) : lookF (dJ room lives T base fs).files (nameF T q) = fs[q]? := by
  unfold dJ
  rw [look_app', base_look, Option.none_or, look_parts hT hq 0 fs (by omega), if_pos (Nat.zero_le _), Nat.sub_zero]
theorem dJ_turn (hT : T < 64) {q : Nat} (hq : q < 64) (hf : fs.length ≤ 64) (F : FileF) : turnF' (dJ room lives T base fs).files (nameF T q) F = (dJ room lives T base (fs.set q F)).files := by
  unfold dJ
  have e : ∀ A B : Files, turnF' (A ++ B) (nameF T q) F = turnF' A (nameF T q) F ++ turnF' B (nameF T q) F := fun A B => List.map_append
  simp only
  rw [e, turn_parts hT hq F 0 fs (by omega) (Nat.zero_le _), Nat.sub_zero]
  congr 1
  unfold baseL
  split
  · rfl
  · simp only [turnF', List.map_cons, List.map_nil, if_neg (name_ne_base T q).symm]
theorem dJ_base (hT : T ≠ 0) : lookF (dJ room lives T base fs).files baseN = some ⟨frameF (be8 T ++ base), []⟩ := by
  unfold dJ baseL
  rw [look_app', if_neg hT, look_cons, if_pos rfl]; rfl
theorem dJ_base0 (hT : T = 0) : lookF (dJ room lives T base fs).files baseN = none := by
  unfold dJ baseL
  rw [look_app', if_pos hT, look_parts_ne 0 fs fun q _ _ => name_ne_base T q]; rfl
theorem dJ_new : lookF (dJ room lives T base fs).files newN = none := by
  unfold dJ
  rw [look_app', look_parts_ne 0 fs fun q _ _ => name_ne_new T q]
  unfold baseL
  split
  · rfl
  · rw [look_cons, if_neg (by simp [baseN, newN])]; rfl
theorem dJ_other (hT : T < 64) {U q : Nat} (hU : U < 64) (hq : q < 64) (ne : U ≠ T) (hf : fs.length ≤ 64) : lookF (dJ room lives T base fs).files (nameF U q) = none := by
  unfold dJ
  rw [look_app', look_parts_ne 0 fs fun k _ h h2 => ne (name_inj hT (by omega) hU hq h2).1.symm]
  unfold baseL
  split
  · rfl
  · rw [look_cons, if_neg (name_ne_base U q).symm]; rfl
def baseS (T : Nat) (base : List UInt8) : Nat := if T = 0 then 0 else 28 + base.length
theorem be8_len (T : Nat) : (be8 T).length = 8 := bigF_len _ _
theorem dJ_size : sizeF (dJ room lives T base fs).files = baseS T base + (fs.map FileF.size).sum := by
  unfold dJ
  rw [size_snoc, parts_size]
  congr 1
  unfold baseL baseS
  split
  · rfl
  · simp [sizeF, FileF.size, FileF.all, frameF_len, be8_len]; omega
theorem dJ_append (hT : T < 64) {q : Nat} (hq : q < 64) (hf : fs.length ≤ 64) {b : List UInt8} (hqf : q ≤ fs.length) (hz : (baseS T base : Int) + ((fs.map FileF.size).sum : Nat) + (b.length : Nat) ≤ room) :
    appendF (dJ room lives T base fs) (nameF T q) b = (dJ room lives T base (if q < fs.length then fs.set q (writeF (fs.getD q {}) b) else fs ++ [⟨[], [b]⟩]), 0) := by
  unfold appendF
  rw [ask1 rfl (name_good hT hq), if_pos rfl, dJ_size, if_neg (by simp only [dJ]; omega), dJ_look hT hq hf]
  by_cases h : q < fs.length
  · rw [List.getElem?_eq_getElem h, if_pos h]
    simp only
    rw [dJ_turn hT hq hf]
    have : fs.getD q {} = fs[q] := by simp [List.getD, List.getElem?_eq_getElem h]
    rw [this]; rfl
  · have e : q = fs.length := by omega
    subst e
    rw [List.getElem?_eq_none (Nat.le_refl _), if_neg h]
    simp only [dJ]
    rw [parts_app, Nat.zero_add, List.append_assoc]; rfl
theorem dJ_sync (hT : T < 64) {q : Nat} (hq : q < 64) (hf : fs.length ≤ 64) (h : q < fs.length) : syncF (dJ room lives T base fs) (nameF T q) = (dJ room lives T base (fs.set q (fs[q].sync)), 0) := by
  unfold syncF
  rw [ask1 rfl (name_good hT hq), if_pos rfl, dJ_look hT hq hf, List.getElem?_eq_getElem h]
  simp only
  rw [dJ_turn hT hq hf]; rfl
theorem dJ_read (hT : T < 64) {q : Nat} (hq : q < 64) (hf : fs.length ≤ 64) (h : q < fs.length) : readF (dJ room lives T base fs) (nameF T q) = (fs[q].all, 0) := by
  unfold readF
  rw [ask1 rfl (name_good hT hq), if_pos rfl, dJ_look hT hq hf, List.getElem?_eq_getElem h]
theorem dJ_read_none (hT : T < 64) {q : Nat} (hq : q < 64) (hf : fs.length ≤ 64) (h : fs.length ≤ q) : readF (dJ room lives T base fs) (nameF T q) = ([], 4) := by
  unfold readF
  rw [ask1 rfl (name_good hT hq), if_pos rfl, dJ_look hT hq hf, List.getElem?_eq_none h]
theorem dJ_drop_new : dropF (dJ room lives T base fs) newN = (dJ room lives T base fs, 4) := by
  unfold dropF
  rw [ask1 rfl (by decide), if_pos rfl, dJ_new]
theorem crash_safe (S : List UInt8) (keep : U64) (torn : Int) : FileF.crash ⟨S, []⟩ keep torn = ⟨S, []⟩ := by simp [FileF.crash, lastF, keptF]
theorem dJ_crash (keep : U64) (torn : Int) : onF (crashF (dJ room lives T base fs) keep torn) = dJ room (lives + 1) T base (fs.map fun F => F.crash keep torn) := by
  unfold onF crashF dJ
  simp only
  rw [List.map_append, parts_map T (fun F => F.crash keep torn)]
  congr 2
  unfold baseL
  split
  · rfl
  · simp only [List.map_cons, List.map_nil, crash_safe]
theorem dJ_ok {n : Nat} (hw : ∀ F ∈ fs, F.writes.length ≤ n) (hz : (baseS T base : Int) + ((fs.map FileF.size).sum : Nat) ≤ room) (hr : room ≤ 1048576) : (dJ room lives T base fs).okW n := by
  refine ⟨?_, by rw [dJ_size]; simp only [dJ]; omega, hr⟩
  intro x hx
  have hp : ∀ (k : Nat) (fs : List FileF), (∀ F ∈ fs, F.writes.length ≤ n) → ∀ x ∈ partsF T k fs, x.2.writes.length ≤ n ∧ x.1.length ≤ 20 := by
    intro k fs
    induction fs generalizing k with
    | nil => intro _ x hx; cases hx
    | cons F l ih =>
      intro h x hx
      rcases List.mem_cons.1 hx with rfl | hx
      · exact ⟨h F (by simp), name_len⟩
      · exact ih (k + 1) (fun G hG => h G (List.mem_cons_of_mem _ hG)) x hx
  rcases List.mem_append.1 hx with hx | hx
  · unfold baseL at hx
    split at hx
    · cases hx
    · rw [List.mem_singleton] at hx; subst hx; exact ⟨by simp, by simp [baseN]⟩
  · exact hp 0 fs hw x hx

/-! ### opened -/
theorem readBase_dJ (hT : T < 64) (hb : T = 0 → base = []) (hbl : base.length ≤ 65536) : readBaseF { lives := lives } (dJ room lives T base fs) = ({ lives := lives, turn := T, base := base }, 0) := by
  unfold readBaseF readF
  rw [ask1 rfl (by decide), if_pos rfl]
  by_cases h : T = 0
  · have := hb h
    subst this
    rw [dJ_base0 h]
    subst h
    rfl
  · rw [dJ_base h]
    have e : FileF.all ⟨frameF (be8 T ++ base), []⟩ = frameF (be8 T ++ base) ++ [] := by simp [FileF.all]
    simp only [if_true, e]
    rw [nextF_frame _ [] (by rw [List.length_append, be8_len]; omega)]
    simp only [List.length_nil, true_and]
    rw [if_pos (by rw [List.length_append, be8_len]; omega)]
    have t8 : (be8 T ++ base).take 8 = be8 T := take_app' (be8_len T)
    have d8 : (be8 T ++ base).drop 8 = base := drop_app' (be8_len T)
    rw [t8, d8]
    have e : (BitVec.ofNat 64 T).toNat = T := by rw [BitVec.toNat_ofNat]; omega
    have : (fromBigF (be8 T)).toNat = T := by
      unfold be8
      rw [fromBig_big _ 8 (by rw [e]; omega), e]
    rw [this]
def recsOf (fs : List FileF) : List (List UInt8) := fs.flatMap fun F => (parse F.all).1
/-- The file that is written, and whether there is one, once the files of records are read. -/
def lastP : Nat → Nat × Bool → List FileF → Nat × Bool
  | _, pr, [] => pr
  | p, _, F :: l => lastP (p + 1) (if (parse F.all).2 then (p, true) else (p + 1, false)) l
theorem openL_dJ (hT : T < 64) : ∀ (rest done : List FileF) (f : Nat) (J : JF), rest.length < f → done.length + rest.length ≤ 62 → J.turn = T →
    openL f J (dJ room lives T base (done ++ rest)) done.length = ({ J with recs := J.recs ++ recsOf rest, part := (lastP done.length (J.part, J.written) rest).1, written := (lastP done.length (J.part, J.written) rest).2 }, dJ room lives T base (done ++ rest.map FileF.sync))
  | [], done, f, J, hf, hl, ht => by
    obtain ⟨f, rfl⟩ : ∃ f', f = f' + 1 := ⟨f - 1, by simp at hf; omega⟩
    simp only [List.length_nil, Nat.add_zero] at hl
    have : (readPartF J (dJ room lives T base (done ++ [])) done.length).2.2 = false := by
      unfold readPartF
      rw [ht, dJ_read_none hT (by omega) (by simp; omega) (by simp)]
      rfl
    rw [openL, this]
    simp [recsOf, lastP]
  | F :: l, done, f, J, hf, hl, ht => by
    obtain ⟨f, rfl⟩ : ∃ f', f = f' + 1 := ⟨f - 1, by simp at hf; omega⟩
    simp only [List.length_cons] at hf hl
    have hlt : done.length < (done ++ F :: l).length := by simp
    have hg : (done ++ F :: l)[done.length]'hlt = F := by simp
    have hr := dJ_read (room := room) (lives := lives) (base := base) hT (q := done.length) (by omega) (by simp; omega) hlt
    have hs := dJ_sync (room := room) (lives := lives) (base := base) hT (q := done.length) (by omega) (by simp; omega) hlt
    rw [hg] at hr hs
    have hset : (done ++ F :: l).set done.length F.sync = (done ++ [F.sync]) ++ l := by
      rw [List.set_append_right _ _ (Nat.le_refl _), Nat.sub_self, List.set_cons_zero, List.append_assoc]; rfl
    rw [hset] at hs
    have e : readPartF J (dJ room lives T base (done ++ F :: l)) done.length = ({ J with part := if (parse F.all).2 then done.length else done.length + 1, written := (parse F.all).2, recs := J.recs ++ (parse F.all).1 }, dJ room lives T base ((done ++ [F.sync]) ++ l), true) := by
      unfold readPartF
      rw [ht, hr, hs]
      rfl
    rw [openL, e]
    simp only [if_true]
    have dl : done.length + 1 = (done ++ [F.sync]).length := by simp
    have ih := openL_dJ hT l (done ++ [F.sync]) f { J with part := if (parse F.all).2 then done.length else done.length + 1, written := (parse F.all).2, recs := J.recs ++ (parse F.all).1 } (by omega) (by simp; omega) ht
    rw [← dl] at ih
    rw [ih]
    have ep : (if (parse F.all).2 = true then (done.length, true) else (done.length + 1, false)) = ((if (parse F.all).2 = true then done.length else done.length + 1), (parse F.all).2) := by
      by_cases h : (parse F.all).2 = true
      · rw [if_pos h, if_pos h, h]
      · rw [if_neg h, if_neg h]
        congr 1
        simpa using Eq.symm (Bool.eq_false_iff.2 h)
    simp only [lastP, ep, recsOf, List.flatMap_cons, List.map_cons, List.append_assoc, List.cons_append, List.nil_append]
theorem tidy_none {U : Nat} {D : DiskF} (f : Nat) (h : lookF D.files (nameF U 0) = none) : tidyF U (f + 1) D 0 = D := by
  unfold tidyF
  rw [if_neg (drop_fails h)]
theorem open_dJ (hT : T < 64) (hb : T = 0 → base = []) (hbl : base.length ≤ 65536) (hf : fs.length ≤ 62) :
    openF (dJ room lives T base fs) = (some { lives := lives, turn := T, base := base, recs := recsOf fs, part := (lastP 0 (0, false) fs).1, written := (lastP 0 (0, false) fs).2 }, dJ room lives T base (fs.map FileF.sync), 0) := by
  have hl : lives = (dJ room lives T base fs).lives := rfl
  unfold openF
  rw [← hl, readBase_dJ hT hb hbl]
  simp only [if_true]
  have eo : openD { lives := lives, turn := T, base := base } (dJ room lives T base fs) = dJ room lives T base fs := by
    unfold openD
    rw [dJ_drop_new]
    split
    · rename_i h
      exact tidy_none 63 (dJ_other hT (by simp only; omega) (by omega) (by simp only at h ⊢; omega) (by omega))
    · rfl
  rw [eo]
  have := openL_dJ (room := room) (lives := lives) (base := base) hT fs [] 63 { lives := lives, turn := T, base := base } (by omega) (by simp; omega) rfl
  simp only [List.nil_append, List.length_nil] at this
  rw [this]
end
end Go.Bb
/- The law JournalFull. -/
namespace Go.Bb
set_option linter.unusedSimpArgs false
set_option linter.unusedVariables false
set_option maxRecDepth 20000
set_option maxHeartbeats 2000000

theorem SlL.pre {h : Heap} {base : Option Addr} {c : Nat} {L : List (List UInt8)} (s : SlL h (.slice base L.length c) L) {k : Nat} (hk : k ≤ L.length) : SlL h (.slice base k c) (L.take k) := by
  obtain ⟨vs, h1, h2, h3⟩ := s
  have h4 := Sl.pre h2 hk
  rw [Nat.mul_one] at h4
  have e : (L.take k).length = k := by rw [List.length_take]; omega
  refine ⟨vs.take k, by rw [List.length_take, List.length_take, h1], by rw [e]; exact h4, fun i a b => ?_⟩
  have := h3 i (by rw [List.length_take] at a; omega) (by rw [List.length_take] at b; omega)
  simpa using this
theorem SlL.cap {h : Heap} {base : Option Addr} {c : Nat} {L : List (List UInt8)} (s : SlL h (.slice base L.length c) L) : L.length ≤ c := by
  obtain ⟨vs, h1, h2, h3⟩ := s
  exact Sl.cap h2
end Go.Bb
