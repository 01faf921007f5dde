/- My contracts: BbBrd3 BbLbk3 BbBrd4 BbBrg BbBrd5 BbLbk7. -/
import Derived.Test.YthealcnfgedddaaBbM2
import Derived.Test.YthealcnfgedddaaBbG3
import Derived.Test.YthealcnfgedddaaBbM1
namespace Go.Bb
set_option linter.unusedSimpArgs false
set_option linter.unusedVariables false
set_option maxRecDepth 20000
set_option maxHeartbeats 2000000
open Go.MapKept
theorem qlo (S : List Ed) (con fld : Str) : (allB S con fld).length ≤ S.length := by
  have h1 := q7c S
  unfold allB
  rw [List.length_map]
  exact Nat.le_trans (List.length_filter_le _ _) h1
theorem qhd (E : EnvT tab) {H : Heap} {w : Nat} {S : List Ed} (ok : BkS S) (B : WB H w S) :
    ACallN E.toEnv qaj [.pointer (some ⟨w, 0, none⟩)] H fun v H' => H.le H' ∧ SlS H' v (q7s S) := by
  refine q1i q2k q19 rfl rfl (q01 ?_)
  unfold q19
  simp -implicitDefEqProofs only [zA,reduceIte,reduceCtorEq,Nat.reduceEqDiff,Nat.reduceAdd,Nat.reduceMul,Nat.reduceLT,Nat.reduceSub,Int.reduceLT,Int.reduceLE,Int.reduceEq,Int.reduceNe,Int.reduceSub,Int.reduceAdd,Int.reduceMul,Int.reduceBEq,Int.reduceBNe,Int.reduceGT,Int.reduceGE,Nat.reduceGT,Int.reduceToNat,Int.reduceNeg,Nat.reduceLeDiff,Nat.reduceBEq,Nat.reduceBneDiff]
  refine (qcw E ok B).mono ?_
  rintro lv H1 ⟨le1, sl⟩
  obtain ⟨base, c, rfl⟩ := sl.shape
  have l8 := qdj ok
  have hll := q7c S
  have hS := ok.len
  have hcS : q7s S = qjr ((q7z S).map (·.con)) := rfl
  generalize q7z S = l at sl l8 hll hcS
  simp -implicitDefEqProofs only [zA,reduceIte,reduceCtorEq,Nat.reduceEqDiff,Nat.reduceAdd,Nat.reduceMul,Nat.reduceLT,Nat.reduceSub,Int.reduceLT,Int.reduceLE,Int.reduceEq,Int.reduceNe,Int.reduceSub,Int.reduceAdd,Int.reduceMul,Int.reduceBEq,Int.reduceBNe,Int.reduceGT,Int.reduceGE,Nat.reduceGT,Int.reduceToNat,Int.reduceNeg,Nat.reduceLeDiff,Nat.reduceBEq,Nat.reduceBneDiff]
  refine q0s (fun m t G => ∃ (i : Nat) (v : Value) (M : List Str), t = tl [(3, v), (4, .slice base l.length c), (5, .int .i64 i)] ∧ i ≤ l.length ∧ m = l.length - i ∧ H1.le G ∧ SlS G v M ∧ M.Pairwise (· < ·) ∧ (∀ y, y ∈ M ↔ y ∈ (l.take i).map (·.con)) ∧ M.length ≤ i) l.length
    ⟨0, _, [], rfl, by omega, by omega, Heap.q04 _, .inl ⟨rfl, rfl, rfl⟩, List.Pairwise.nil, by simp, by simp⟩ ?_
  rintro m t G ⟨i, v, M, rfl, hi, rfl, le, sM, hM, hmem, hlen⟩
  by_cases hlt : i < l.length
  · obtain ⟨bs, o, c', hv, hc, hce⟩ := sl.edAt l8 i hlt
    simp only [Value.slice.injEq, true_and] at hv
    obtain ⟨rfl, rfl⟩ := hv
    have hi1 : (i : Int) < l.length := by omega
    have hi2 : (0 : Int) ≤ i := by omega
    have w1 : IntKind.i64.wrap ((i : Int) + 1) = ((i + 1 : Nat) : Int) := q9r (by omega)
    have hx8 := l8 l[i] (List.getElem_mem hlt)
    obtain ⟨y0, y1, y10, y11, y12, y13, y14⟩ := qfh hx8 (hce _ le)
    have et : l.take (i + 1) = l.take i ++ [l[i]] := List.take_succ_eq_append_getElem hlt
    simp -implicitDefEqProofs only [zA,reduceIte,reduceCtorEq,Nat.reduceEqDiff,Nat.reduceAdd,Nat.reduceMul,Nat.reduceLT,Nat.reduceSub,Int.reduceLT,Int.reduceLE,Int.reduceEq,Int.reduceNe,Int.reduceSub,Int.reduceAdd,Int.reduceMul,Int.reduceBEq,Int.reduceBNe,Int.reduceGT,Int.reduceGE,Nat.reduceGT,Int.reduceToNat,Int.reduceNeg,Nat.reduceLeDiff,Nat.reduceBEq,Nat.reduceBneDiff,hi1,hi2,Int.toNat_natCast,y11]
    refine (qe3 E sM (by omega) hM l[i].con).mono ?_
    rintro r G2 ⟨le2, N, sN, hN, hmemN, hlenN⟩
    simp -implicitDefEqProofs only [zA,reduceIte,reduceCtorEq,Nat.reduceEqDiff,Nat.reduceAdd,Nat.reduceMul,Nat.reduceLT,Nat.reduceSub,Int.reduceLT,Int.reduceLE,Int.reduceEq,Int.reduceNe,Int.reduceSub,Int.reduceAdd,Int.reduceMul,Int.reduceBEq,Int.reduceBNe,Int.reduceGT,Int.reduceGE,Nat.reduceGT,Int.reduceToNat,Int.reduceNeg,Nat.reduceLeDiff,Nat.reduceBEq,Nat.reduceBneDiff,w1]
    refine ⟨_, ?_, i + 1, r, N, rfl, by omega, rfl, Heap.q00 le le2, sN, hN, fun y => ?_, by omega⟩
    · omega
    · rw [hmemN, hmem, et, List.map_append, List.mem_append]
      simp only [List.map_cons, List.map_nil, List.mem_singleton]
      exact Or.comm
  · have hi1 : ¬ (i : Int) < l.length := by omega
    have q : i = l.length := by omega
    subst q
    rw [List.take_length] at hmem
    have e : M = q7s S := qc4 hM (by rw [hcS]; exact (qam _).1) fun y => by rw [hmem, hcS, (qam _).2]
    simp -implicitDefEqProofs only [zA,reduceIte,reduceCtorEq,Nat.reduceEqDiff,Nat.reduceAdd,Nat.reduceMul,Nat.reduceLT,Nat.reduceSub,Int.reduceLT,Int.reduceLE,Int.reduceEq,Int.reduceNe,Int.reduceSub,Int.reduceAdd,Int.reduceMul,Int.reduceBEq,Int.reduceBNe,Int.reduceGT,Int.reduceGE,Nat.reduceGT,Int.reduceToNat,Int.reduceNeg,Nat.reduceLeDiff,Nat.reduceBEq,Nat.reduceBneDiff,hi1]
    rw [e] at sM
    exact ⟨Heap.q00 le1 le, sM⟩
theorem qj6 (E : EnvT tab) {H : Heap} {w : Nat} {S : List Ed} (ok : BkS S) (B : WB H w S) (con : Str) :
    ACallN E.toEnv qb6 [.pointer (some ⟨w, 0, none⟩), strV con] H fun v H' => H.le H' ∧ SlS H' v (qd5 S con) := by
  refine q1i q3b q1k rfl rfl (q01 ?_)
  unfold q1k
  simp -implicitDefEqProofs only [zA,reduceIte,reduceCtorEq,Nat.reduceEqDiff,Nat.reduceAdd,Nat.reduceMul,Nat.reduceLT,Nat.reduceSub,Int.reduceLT,Int.reduceLE,Int.reduceEq,Int.reduceNe,Int.reduceSub,Int.reduceAdd,Int.reduceMul,Int.reduceBEq,Int.reduceBNe,Int.reduceGT,Int.reduceGE,Nat.reduceGT,Int.reduceToNat,Int.reduceNeg,Nat.reduceLeDiff,Nat.reduceBEq,Nat.reduceBneDiff]
  refine (qcw E ok B).mono ?_
  rintro lv H1 ⟨le1, sl⟩
  obtain ⟨base, c, rfl⟩ := sl.shape
  have l8 := qdj ok
  have hll := q7c S
  have hS := ok.len
  have hcS : qd5 S con = qjr (((q7z S).filter fun e => decide (e.con = con)).map (·.fld)) := rfl
  generalize q7z S = l at sl l8 hll hcS
  simp -implicitDefEqProofs only [zA,reduceIte,reduceCtorEq,Nat.reduceEqDiff,Nat.reduceAdd,Nat.reduceMul,Nat.reduceLT,Nat.reduceSub,Int.reduceLT,Int.reduceLE,Int.reduceEq,Int.reduceNe,Int.reduceSub,Int.reduceAdd,Int.reduceMul,Int.reduceBEq,Int.reduceBNe,Int.reduceGT,Int.reduceGE,Nat.reduceGT,Int.reduceToNat,Int.reduceNeg,Nat.reduceLeDiff,Nat.reduceBEq,Nat.reduceBneDiff]
  unfold q5b
  simp -implicitDefEqProofs only [zA,reduceIte,reduceCtorEq,Nat.reduceEqDiff,Nat.reduceAdd,Nat.reduceMul,Nat.reduceLT,Nat.reduceSub,Int.reduceLT,Int.reduceLE,Int.reduceEq,Int.reduceNe,Int.reduceSub,Int.reduceAdd,Int.reduceMul,Int.reduceBEq,Int.reduceBNe,Int.reduceGT,Int.reduceGE,Nat.reduceGT,Int.reduceToNat,Int.reduceNeg,Nat.reduceLeDiff,Nat.reduceBEq,Nat.reduceBneDiff]
  refine q0s (fun m t G => ∃ (i : Nat) (v : Value) (M : List Str), t = tl [(1, strV con), (5, v), (6, .slice base l.length c), (7, .int .i64 i)] ∧ i ≤ l.length ∧ m = l.length - i ∧ H1.le G ∧ SlS G v M ∧ M.Pairwise (· < ·) ∧ (∀ y, y ∈ M ↔ y ∈ ((l.take i).filter fun e => decide (e.con = con)).map (·.fld)) ∧ M.length ≤ i) l.length
    ⟨0, _, [], rfl, by omega, by omega, Heap.q04 _, .inl ⟨rfl, rfl, rfl⟩, List.Pairwise.nil, by simp, by simp⟩ ?_
  rintro m t G ⟨i, v, M, rfl, hi, rfl, le, sM, hM, hmem, hlen⟩
  by_cases hlt : i < l.length
  · obtain ⟨bs, o, c', hv, hc, hce⟩ := sl.edAt l8 i hlt
    simp only [Value.slice.injEq, true_and] at hv
    obtain ⟨rfl, rfl⟩ := hv
    have hi1 : (i : Int) < l.length := by omega
    have hi2 : (0 : Int) ≤ i := by omega
    have w1 : IntKind.i64.wrap ((i : Int) + 1) = ((i + 1 : Nat) : Int) := q9r (by omega)
    have hx8 := l8 l[i] (List.getElem_mem hlt)
    obtain ⟨y0, y1, y10, y11, y12, y13, y14⟩ := qfh hx8 (hce _ le)
    have et : l.take (i + 1) = l.take i ++ [l[i]] := List.take_succ_eq_append_getElem hlt
    have se := qaa l[i].con con
    by_cases e : l[i].con = con
    · rw [decide_eq_true e] at se
      simp -implicitDefEqProofs only [zA,reduceIte,reduceCtorEq,Nat.reduceEqDiff,Nat.reduceAdd,Nat.reduceMul,Nat.reduceLT,Nat.reduceSub,Int.reduceLT,Int.reduceLE,Int.reduceEq,Int.reduceNe,Int.reduceSub,Int.reduceAdd,Int.reduceMul,Int.reduceBEq,Int.reduceBNe,Int.reduceGT,Int.reduceGE,Nat.reduceGT,Int.reduceToNat,Int.reduceNeg,Nat.reduceLeDiff,Nat.reduceBEq,Nat.reduceBneDiff,hi1,hi2,Int.toNat_natCast,y11,y12,se]
      refine (qe3 E sM (by omega) hM l[i].fld).mono ?_
      rintro r G2 ⟨le2, N, sN, hN, hmemN, hlenN⟩
      simp -implicitDefEqProofs only [zA,reduceIte,reduceCtorEq,Nat.reduceEqDiff,Nat.reduceAdd,Nat.reduceMul,Nat.reduceLT,Nat.reduceSub,Int.reduceLT,Int.reduceLE,Int.reduceEq,Int.reduceNe,Int.reduceSub,Int.reduceAdd,Int.reduceMul,Int.reduceBEq,Int.reduceBNe,Int.reduceGT,Int.reduceGE,Nat.reduceGT,Int.reduceToNat,Int.reduceNeg,Nat.reduceLeDiff,Nat.reduceBEq,Nat.reduceBneDiff,w1]
      refine ⟨_, ?_, i + 1, r, N, rfl, by omega, rfl, Heap.q00 le le2, sN, hN, fun y => ?_, by omega⟩
      · omega
      · rw [hmemN, hmem, et, List.filter_append, List.map_append, List.mem_append]
        simp only [List.filter_cons, e, decide_true, if_true, List.filter_nil, List.map_cons, List.map_nil, List.mem_singleton]
        exact Or.comm
    · rw [decide_eq_false e] at se
      simp -implicitDefEqProofs only [zA,reduceIte,reduceCtorEq,Nat.reduceEqDiff,Nat.reduceAdd,Nat.reduceMul,Nat.reduceLT,Nat.reduceSub,Int.reduceLT,Int.reduceLE,Int.reduceEq,Int.reduceNe,Int.reduceSub,Int.reduceAdd,Int.reduceMul,Int.reduceBEq,Int.reduceBNe,Int.reduceGT,Int.reduceGE,Nat.reduceGT,Int.reduceToNat,Int.reduceNeg,Nat.reduceLeDiff,Nat.reduceBEq,Nat.reduceBneDiff,hi1,hi2,Int.toNat_natCast,y11,se,w1]
      refine ⟨_, ?_, i + 1, v, M, rfl, by omega, rfl, le, sM, hM, fun y => ?_, by omega⟩
      · omega
      · rw [hmem, et, List.filter_append, List.map_append, List.mem_append]
        simp [List.filter_cons, e]
  · have hi1 : ¬ (i : Int) < l.length := by omega
    have q : i = l.length := by omega
    subst q
    rw [List.take_length] at hmem
    have e : M = qd5 S con := qc4 hM (by rw [hcS]; exact (qam _).1) fun y => by rw [hmem, hcS, (qam _).2]
    simp -implicitDefEqProofs only [zA,reduceIte,reduceCtorEq,Nat.reduceEqDiff,Nat.reduceAdd,Nat.reduceMul,Nat.reduceLT,Nat.reduceSub,Int.reduceLT,Int.reduceLE,Int.reduceEq,Int.reduceNe,Int.reduceSub,Int.reduceAdd,Int.reduceMul,Int.reduceBEq,Int.reduceBNe,Int.reduceGT,Int.reduceGE,Nat.reduceGT,Int.reduceToNat,Int.reduceNeg,Nat.reduceLeDiff,Nat.reduceBEq,Nat.reduceBneDiff,hi1]
    rw [e] at sM
    exact ⟨Heap.q00 le1 le, sM⟩
theorem qi6 (E : EnvT tab) {H : Heap} {w : Nat} {S : List Ed} (ok : BkS S) (B : WB H w S) (con fld : Str) :
    ACallN E.toEnv qcc [.pointer (some ⟨w, 0, none⟩), strV con, strV fld] H fun v H' => H.le H' ∧ SlS H' v (allB S con fld) := by
  refine q1i q55 q26 rfl rfl (q01 ?_)
  unfold q26
  simp -implicitDefEqProofs only [zA,reduceIte,reduceCtorEq,Nat.reduceEqDiff,Nat.reduceAdd,Nat.reduceMul,Nat.reduceLT,Nat.reduceSub,Int.reduceLT,Int.reduceLE,Int.reduceEq,Int.reduceNe,Int.reduceSub,Int.reduceAdd,Int.reduceMul,Int.reduceBEq,Int.reduceBNe,Int.reduceGT,Int.reduceGE,Nat.reduceGT,Int.reduceToNat,Int.reduceNeg,Nat.reduceLeDiff,Nat.reduceBEq,Nat.reduceBneDiff]
  refine (qcw E ok B).mono ?_
  rintro lv H1 ⟨le1, sl⟩
  obtain ⟨base, c, rfl⟩ := sl.shape
  have l8 := qdj ok
  have hll := q7c S
  have hS := ok.len
  have hcS : allB S con fld = ((q7z S).filter fun e => decide (e.con = con) && decide (e.fld = fld)).map (·.val) := rfl
  generalize q7z S = l at sl l8 hll hcS
  simp -implicitDefEqProofs only [zA,reduceIte,reduceCtorEq,Nat.reduceEqDiff,Nat.reduceAdd,Nat.reduceMul,Nat.reduceLT,Nat.reduceSub,Int.reduceLT,Int.reduceLE,Int.reduceEq,Int.reduceNe,Int.reduceSub,Int.reduceAdd,Int.reduceMul,Int.reduceBEq,Int.reduceBNe,Int.reduceGT,Int.reduceGE,Nat.reduceGT,Int.reduceToNat,Int.reduceNeg,Nat.reduceLeDiff,Nat.reduceBEq,Nat.reduceBneDiff]
  unfold q6j
  simp -implicitDefEqProofs only [zA,reduceIte,reduceCtorEq,Nat.reduceEqDiff,Nat.reduceAdd,Nat.reduceMul,Nat.reduceLT,Nat.reduceSub,Int.reduceLT,Int.reduceLE,Int.reduceEq,Int.reduceNe,Int.reduceSub,Int.reduceAdd,Int.reduceMul,Int.reduceBEq,Int.reduceBNe,Int.reduceGT,Int.reduceGE,Nat.reduceGT,Int.reduceToNat,Int.reduceNeg,Nat.reduceLeDiff,Nat.reduceBEq,Nat.reduceBneDiff]
  refine q0s (fun m t G => ∃ (i : Nat) (v : Value) (M : List Str), t = tl [(1, strV con), (2, strV fld), (7, v), (8, .slice base l.length c), (9, .int .i64 i)] ∧ i ≤ l.length ∧ m = l.length - i ∧ H1.le G ∧ Ow H1 G 1 v M.length (M.map strV) ∧ M = ((l.take i).filter fun e => decide (e.con = con) && decide (e.fld = fld)).map (·.val) ∧ M.length ≤ i) l.length
    ⟨0, _, [], rfl, by omega, by omega, Heap.q04 _, Ow.nil _ _ _, by simp, by simp⟩ ?_
  rintro m t G ⟨i, v, M, rfl, hi, rfl, le, oM, hM, hlen⟩
  by_cases hlt : i < l.length
  · obtain ⟨bs, o, c', hv, hc, hce⟩ := sl.edAt l8 i hlt
    simp only [Value.slice.injEq, true_and] at hv
    obtain ⟨rfl, rfl⟩ := hv
    have hi1 : (i : Int) < l.length := by omega
    have hi2 : (0 : Int) ≤ i := by omega
    have w1 : IntKind.i64.wrap ((i : Int) + 1) = ((i + 1 : Nat) : Int) := q9r (by omega)
    have hx8 := l8 l[i] (List.getElem_mem hlt)
    obtain ⟨y0, y1, y10, y11, y12, y13, y14⟩ := qfh hx8 (hce _ le)
    have et : l.take (i + 1) = l.take i ++ [l[i]] := List.take_succ_eq_append_getElem hlt
    have se := qaa l[i].con con
    have sf := qaa l[i].fld fld
    by_cases e : l[i].con = con
    · rw [decide_eq_true e] at se
      by_cases f : l[i].fld = fld
      · rw [decide_eq_true f] at sf
        simp -implicitDefEqProofs only [zA,reduceIte,reduceCtorEq,Nat.reduceEqDiff,Nat.reduceAdd,Nat.reduceMul,Nat.reduceLT,Nat.reduceSub,Int.reduceLT,Int.reduceLE,Int.reduceEq,Int.reduceNe,Int.reduceSub,Int.reduceAdd,Int.reduceMul,Int.reduceBEq,Int.reduceBNe,Int.reduceGT,Int.reduceGE,Nat.reduceGT,Int.reduceToNat,Int.reduceNeg,Nat.reduceLeDiff,Nat.reduceBEq,Nat.reduceBneDiff,hi1,hi2,Int.toNat_natCast,y11,y12,se,sf]
        unfold q1q
        simp -implicitDefEqProofs only [zA,reduceIte,reduceCtorEq,Nat.reduceEqDiff,Nat.reduceAdd,Nat.reduceMul,Nat.reduceLT,Nat.reduceSub,Int.reduceLT,Int.reduceLE,Int.reduceEq,Int.reduceNe,Int.reduceSub,Int.reduceAdd,Int.reduceMul,Int.reduceBEq,Int.reduceBNe,Int.reduceGT,Int.reduceGE,Nat.reduceGT,Int.reduceToNat,Int.reduceNeg,Nat.reduceLeDiff,Nat.reduceBEq,Nat.reduceBneDiff,hi1,hi2,Int.toNat_natCast,y13]
        intro b7 hb7
        try simp -implicitDefEqProofs only [zA,reduceIte,reduceCtorEq,Nat.reduceEqDiff,Nat.reduceAdd,Nat.reduceMul,Nat.reduceLT,Nat.reduceSub,Int.reduceLT,Int.reduceLE,Int.reduceEq,Int.reduceNe,Int.reduceSub,Int.reduceAdd,Int.reduceMul,Int.reduceBEq,Int.reduceBNe,Int.reduceGT,Int.reduceGE,Nat.reduceGT,Int.reduceToNat,Int.reduceNeg,Nat.reduceLeDiff,Nat.reduceBEq,Nat.reduceBneDiff]
        have le8 := Heap.q0a (Heap.q04 G) hb7 (.own 0 [strV l[i].val] 1)
        have sx : Sl (G.set b7 (.own 0 [strV l[i].val] 1)) 1 (.slice (some ⟨b7, 0, none⟩) 1 1) 1 [strV l[i].val] := Sl.lit (n := 1) rfl
        refine q1t (m := 1) (Heap.q00 le le8) (by omega) (oM.le le8) sx rfl (by omega) (by omega) ?_
        intro v2 G2 o2 le9
        simp -implicitDefEqProofs only [zA,reduceIte,reduceCtorEq,Nat.reduceEqDiff,Nat.reduceAdd,Nat.reduceMul,Nat.reduceLT,Nat.reduceSub,Int.reduceLT,Int.reduceLE,Int.reduceEq,Int.reduceNe,Int.reduceSub,Int.reduceAdd,Int.reduceMul,Int.reduceBEq,Int.reduceBNe,Int.reduceGT,Int.reduceGE,Nat.reduceGT,Int.reduceToNat,Int.reduceNeg,Nat.reduceLeDiff,Nat.reduceBEq,Nat.reduceBneDiff,w1]
        refine ⟨_, ?_, i + 1, v2, M ++ [l[i].val], rfl, by omega, rfl, le9, ?_, ?_, by simp; omega⟩
        · omega
        · rw [List.length_append, List.map_append]; exact o2
        · rw [et, List.filter_append, List.map_append, ← hM]
          simp [List.filter_cons, e, f]
      · rw [decide_eq_false f] at sf
        simp -implicitDefEqProofs only [zA,reduceIte,reduceCtorEq,Nat.reduceEqDiff,Nat.reduceAdd,Nat.reduceMul,Nat.reduceLT,Nat.reduceSub,Int.reduceLT,Int.reduceLE,Int.reduceEq,Int.reduceNe,Int.reduceSub,Int.reduceAdd,Int.reduceMul,Int.reduceBEq,Int.reduceBNe,Int.reduceGT,Int.reduceGE,Nat.reduceGT,Int.reduceToNat,Int.reduceNeg,Nat.reduceLeDiff,Nat.reduceBEq,Nat.reduceBneDiff,hi1,hi2,Int.toNat_natCast,y11,y12,se,sf]
        unfold q1q
        simp -implicitDefEqProofs only [zA,reduceIte,reduceCtorEq,Nat.reduceEqDiff,Nat.reduceAdd,Nat.reduceMul,Nat.reduceLT,Nat.reduceSub,Int.reduceLT,Int.reduceLE,Int.reduceEq,Int.reduceNe,Int.reduceSub,Int.reduceAdd,Int.reduceMul,Int.reduceBEq,Int.reduceBNe,Int.reduceGT,Int.reduceGE,Nat.reduceGT,Int.reduceToNat,Int.reduceNeg,Nat.reduceLeDiff,Nat.reduceBEq,Nat.reduceBneDiff,w1]
        refine ⟨_, ?_, i + 1, v, M, rfl, by omega, rfl, le, oM, ?_, by omega⟩
        · omega
        · rw [et, List.filter_append, List.map_append, ← hM]
          simp [List.filter_cons, e, f]
    · rw [decide_eq_false e] at se
      simp -implicitDefEqProofs only [zA,reduceIte,reduceCtorEq,Nat.reduceEqDiff,Nat.reduceAdd,Nat.reduceMul,Nat.reduceLT,Nat.reduceSub,Int.reduceLT,Int.reduceLE,Int.reduceEq,Int.reduceNe,Int.reduceSub,Int.reduceAdd,Int.reduceMul,Int.reduceBEq,Int.reduceBNe,Int.reduceGT,Int.reduceGE,Nat.reduceGT,Int.reduceToNat,Int.reduceNeg,Nat.reduceLeDiff,Nat.reduceBEq,Nat.reduceBneDiff,hi1,hi2,Int.toNat_natCast,y11,se]
      unfold q1q
      simp -implicitDefEqProofs only [zA,reduceIte,reduceCtorEq,Nat.reduceEqDiff,Nat.reduceAdd,Nat.reduceMul,Nat.reduceLT,Nat.reduceSub,Int.reduceLT,Int.reduceLE,Int.reduceEq,Int.reduceNe,Int.reduceSub,Int.reduceAdd,Int.reduceMul,Int.reduceBEq,Int.reduceBNe,Int.reduceGT,Int.reduceGE,Nat.reduceGT,Int.reduceToNat,Int.reduceNeg,Nat.reduceLeDiff,Nat.reduceBEq,Nat.reduceBneDiff,w1]
      refine ⟨_, ?_, i + 1, v, M, rfl, by omega, rfl, le, oM, ?_, by omega⟩
      · omega
      · rw [et, List.filter_append, List.map_append, ← hM]
        simp [List.filter_cons, e]
  · have hi1 : ¬ (i : Int) < l.length := by omega
    have q : i = l.length := by omega
    subst q
    rw [List.take_length, ← hcS] at hM
    simp -implicitDefEqProofs only [zA,reduceIte,reduceCtorEq,Nat.reduceEqDiff,Nat.reduceAdd,Nat.reduceMul,Nat.reduceLT,Nat.reduceSub,Int.reduceLT,Int.reduceLE,Int.reduceEq,Int.reduceNe,Int.reduceSub,Int.reduceAdd,Int.reduceMul,Int.reduceBEq,Int.reduceBNe,Int.reduceGT,Int.reduceGE,Nat.reduceGT,Int.reduceToNat,Int.reduceNeg,Nat.reduceLeDiff,Nat.reduceBEq,Nat.reduceBneDiff,hi1]
    rw [hM] at oM
    exact ⟨Heap.q00 le1 le, oM.sl⟩
theorem qjx (E : EnvT tab) {H : Heap} {w : Nat} {S : List Ed} (ok : BkS S) (B : WB H w S) (con fld : Str) :
    ACallN E.toEnv qbm [.pointer (some ⟨w, 0, none⟩), strV con, strV fld] H fun v H' => H.le H' ∧ v = .tuple #[strV ((allB S con fld).getLastD []), .bool (decide (allB S con fld ≠ []))] := by
  refine q1i q42 q1p rfl rfl (q01 ?_)
  unfold q1p
  simp -implicitDefEqProofs only [zA,reduceIte,reduceCtorEq,Nat.reduceEqDiff,Nat.reduceAdd,Nat.reduceMul,Nat.reduceLT,Nat.reduceSub,Int.reduceLT,Int.reduceLE,Int.reduceEq,Int.reduceNe,Int.reduceSub,Int.reduceAdd,Int.reduceMul,Int.reduceBEq,Int.reduceBNe,Int.reduceGT,Int.reduceGE,Nat.reduceGT,Int.reduceToNat,Int.reduceNeg,Nat.reduceLeDiff,Nat.reduceBEq,Nat.reduceBneDiff]
  refine (qi6 E ok B con fld).mono ?_
  rintro v H1 ⟨le1, sl⟩
  have hl := qlo S con fld
  have hS := ok.len
  obtain ⟨base, c, rfl⟩ := sl.shape
  generalize allB S con fld = L at sl hl
  by_cases h0 : L = []
  · subst h0
    simp -implicitDefEqProofs only [zA,reduceIte,reduceCtorEq,Nat.reduceEqDiff,Nat.reduceAdd,Nat.reduceMul,Nat.reduceLT,Nat.reduceSub,Int.reduceLT,Int.reduceLE,Int.reduceEq,Int.reduceNe,Int.reduceSub,Int.reduceAdd,Int.reduceMul,Int.reduceBEq,Int.reduceBNe,Int.reduceGT,Int.reduceGE,Nat.reduceGT,Int.reduceToNat,Int.reduceNeg,Nat.reduceLeDiff,Nat.reduceBEq,Nat.reduceBneDiff,List.length_nil]
    exact ⟨le1, rfl⟩
  · have hpos : 0 < L.length := List.length_pos_iff.2 h0
    have hl1 : L.length - 1 < L.length := by omega
    obtain ⟨x1, o1, d1, e1, k1⟩ := SlS.cell sl (L.length - 1) hl1
    simp only [Value.slice.injEq, true_and] at e1
    obtain ⟨rfl, rfl⟩ := e1
    have n0 : ¬ ((L.length : Int) = 0) := by omega
    have w1 : IntKind.i64.wrap ((L.length : Int) - 1) = ((L.length - 1 : Nat) : Int) := by rw [qn3 (by omega) (by omega)]; omega
    have j1 : (0 : Int) ≤ ((L.length - 1 : Nat) : Int) := by omega
    have j2 : ((L.length - 1 : Nat) : Int) < L.length := by omega
    have hlast : L.getLastD [] = L[L.length - 1] := by
      rw [List.getLastD_eq_getLast?, List.getLast?_eq_getElem?, List.getElem?_eq_getElem hl1]; rfl
    have hd : decide (L ≠ []) = true := decide_eq_true h0
    rw [hlast, hd]
    simp -implicitDefEqProofs only [zA,reduceIte,reduceCtorEq,Nat.reduceEqDiff,Nat.reduceAdd,Nat.reduceMul,Nat.reduceLT,Nat.reduceSub,Int.reduceLT,Int.reduceLE,Int.reduceEq,Int.reduceNe,Int.reduceSub,Int.reduceAdd,Int.reduceMul,Int.reduceBEq,Int.reduceBNe,Int.reduceGT,Int.reduceGE,Nat.reduceGT,Int.reduceToNat,Int.reduceNeg,Nat.reduceLeDiff,Nat.reduceBEq,Nat.reduceBneDiff,n0,w1,j1,j2,Int.toNat_natCast,k1]
    exact le1
end Go.Bb
namespace Go.Bb
set_option linter.unusedSimpArgs false
set_option linter.unusedVariables false
set_option maxRecDepth 20000
set_option maxHeartbeats 2000000
open Go.MapKept
structure MostV (G : Heap) (bm : Nat) (v : List Int) : Prop where
  own : G bm = some (.own 0 (v.map (.int .i64)) 8)
  h8 : v.length = 8
  bd : ∀ x ∈ v, 0 ≤ x ∧ x ≤ 1099511627776
theorem MostV.le {G G' : Heap} {bm : Nat} {v : List Int} (m : MostV G bm v) (le : G.le G') : MostV G' bm v := ⟨le _ _ m.own, m.h8, m.bd⟩
theorem MostV.keep {G G' : Heap} {bm q : Nat} {v : List Int} (m : MostV G bm v) (k : Keep q G G') (h : bm ≠ q) : MostV G' bm v := ⟨k _ _ m.own h, m.h8, m.bd⟩
theorem MostV.cell {G : Heap} {bm : Nat} {v : List Int} (m : MostV G bm v) {d : Int} (h0 : 0 ≤ d) (h1 : d < 8) : q0u G ⟨bm, d.toNat, none⟩ = some (.int .i64 (v.getD d.toNat 0)) := by
  have hl : d.toNat < v.length := by rw [m.h8]; omega
  rw [q0z m.own (by simp; exact hl)]
  simp [List.getD, hl]
theorem MostV.val {G : Heap} {bm : Nat} {v : List Int} (m : MostV G bm v) (d : Int) : 0 ≤ v.getD d.toNat 0 ∧ v.getD d.toNat 0 ≤ 1099511627776 := by
  by_cases hl : d.toNat < v.length
  · have : v.getD d.toNat 0 = v[d.toNat] := by simp [List.getD, hl]
    rw [this]; exact m.bd _ (List.getElem_mem hl)
  · have : v.getD d.toNat 0 = 0 := by simp [List.getD, hl]
    rw [this]; omega
theorem MostV.at {G : Heap} {bm : Nat} {v : List Int} (m : MostV G bm v) : q08 G ⟨bm, 0, none⟩ 8 = some (v.map (.int .i64)) := by
  rw [q2e m.own (by simp [m.h8])]
  simp [m.h8, List.take_of_length_le]
theorem MostV.put {G : Heap} {bm : Nat} {v : List Int} (m : MostV G bm v) {d x : Int} (h0 : 0 ≤ d) (h1 : d < 8) (hx : 0 ≤ x ∧ x ≤ 1099511627776) :
    q4g G 1 (.pointer (some ⟨bm, d.toNat, none⟩)) (.int .i64 x) = some (G.set bm (.own 0 ((v.set d.toNat x).map (.int .i64)) 8)) ∧ MostV (G.set bm (.own 0 ((v.set d.toNat x).map (.int .i64)) 8)) bm (v.set d.toNat x) := by
  refine ⟨?_, Heap.q03 _ _ _, by rw [List.length_set]; exact m.h8, fun y hy => ?_⟩
  · rw [qc5 m.own rfl (by simp [m.h8]; omega) (by simp [m.h8]), List.map_set]
  · rcases List.mem_or_eq_of_mem_set hy with h | h
    · exact m.bd y h
    · rw [h]; exact hx
end Go.Bb
namespace Go.Bb
set_option linter.unusedSimpArgs false
set_option linter.unusedVariables false
set_option maxRecDepth 20000
set_option maxHeartbeats 2000000
open Go.MapKept
theorem VecOf.nil : VecOf [] (List.replicate 8 0) := ⟨rfl, fun d hd => ⟨0, by rw [List.getElem?_replicate, if_pos hd]; rfl, fun j h1 h2 => by omega, by simp⟩⟩
theorem VecOf.more {S : List Ed} (ok : BkS S) {i : Nat} (hi : i < S.length) {v : List Int} (h : VecOf (S.take i) v) :
    VecOf (S.take (i + 1)) (if S[i].n = v.getD S[i].dev.toNat 0 + 1 then v.set S[i].dev.toNat S[i].n else v) := by
  have g := qm4.1 (ok.good S[i] (List.getElem_mem hi))
  have h0 := g.d0
  have h8 := g.d8
  have et : S.take (i + 1) = S.take i ++ [S[i]] := List.take_succ_eq_append_getElem hi
  have hmem : ∀ x, x ∈ S.take (i + 1) ↔ x ∈ S.take i ∨ x = S[i] := fun x => by rw [et, List.mem_append, List.mem_singleton]
  have hless : ∀ x ∈ S.take i, q17 x S[i] := fun x hx => by
    obtain ⟨j, hj, rfl⟩ := List.getElem_of_mem hx
    rw [List.length_take] at hj
    rw [List.getElem_take]
    have := ok.rise
    rw [List.pairwise_iff_getElem] at this
    exact this j i (by omega) hi (by omega)
  generalize S[i] = e at g h0 h8 hmem hless
  have hd8 : e.dev.toNat < 8 := by omega
  obtain ⟨k, hk, hc⟩ := h.2 e.dev.toNat hd8
  have hde : ((e.dev.toNat : Nat) : Int) = e.dev := by omega
  rw [hde] at hc
  rw [qhn hk]
  by_cases q : e.n = (k : Int) + 1
  · rw [if_pos q]
    refine ⟨by rw [List.length_set]; exact h.1, fun d hd => ?_⟩
    by_cases hdd : d = e.dev.toNat
    · subst hdd
      refine ⟨k + 1, by rw [List.getElem?_set, if_pos rfl, if_pos (by rw [h.1]; exact hd), q]; rfl, fun j h1 h2 => ?_, fun x hx => ?_⟩
      · by_cases hj : j = k + 1
        · exact ⟨e, (hmem e).2 (.inr rfl), hde.symm, by rw [q, hj]; rfl⟩
        · obtain ⟨x, hx, hq⟩ := hc.1 j h1 (by omega)
          exact ⟨x, (hmem x).2 (.inl hx), by rw [hde]; exact hq⟩
      · rcases (hmem x).1 hx with hx | hx
        · have := hless x hx
          unfold q17 at this
          omega
        · rw [hx]; omega
    · obtain ⟨m, h1, h2, h3⟩ := h.2 d hd
      refine ⟨m, by rw [List.getElem?_set, if_neg (Ne.symm hdd)]; exact h1, fun j a b => ?_, fun x hx => ?_⟩
      · obtain ⟨x, hx, hq⟩ := h2 j a b
        exact ⟨x, (hmem x).2 (.inl hx), hq⟩
      · rcases (hmem x).1 hx with hx | hx
        · exact h3 x hx
        · rw [hx]; omega
  · rw [if_neg q]
    refine ⟨h.1, fun d hd => ?_⟩
    obtain ⟨m, h1, h2, h3⟩ := h.2 d hd
    refine ⟨m, h1, fun j a b => ?_, fun x hx => ?_⟩
    · obtain ⟨x, hx, hq⟩ := h2 j a b
      exact ⟨x, (hmem x).2 (.inl hx), hq⟩
    · rcases (hmem x).1 hx with hx | hx
      · exact h3 x hx
      · rw [hx]
        rintro ⟨a, b⟩
        have : d = e.dev.toNat := by omega
        subst this
        rw [hk] at h1
        simp only [Option.some.injEq] at h1
        omega
theorem VecOf.bd {S : List Ed} (ok : BkS S) {i : Nat} {v : List Int} (h : VecOf (S.take i) v) : ∀ x ∈ v, 0 ≤ x ∧ x ≤ 1099511627776 := fun x hx => by
  obtain ⟨d, hd, rfl⟩ := List.getElem_of_mem hx
  have hd8 : d < 8 := by rw [← h.1]; exact hd
  obtain ⟨k, hk, h2, _⟩ := h.2 d hd8
  rw [List.getElem?_eq_getElem hd] at hk
  simp only [Option.some.injEq] at hk
  rw [hk]
  by_cases h0 : k = 0
  · omega
  · obtain ⟨e, he, h3, h4⟩ := h2 k (by omega) (Nat.le_refl _)
    have := (qm4.1 (ok.good e (List.mem_of_mem_take he))).n2
    omega
theorem qi4 (E : EnvT tab) {H : Heap} {w : Nat} {S : List Ed} (ok : BkS S) (B : WB H w S) :
    ACallN E.toEnv qcb [.pointer (some ⟨w, 0, none⟩)] H fun x H' => H.le H' ∧ ∃ v, VecOf S v ∧ x = .agg (v.map (.int .i64)).toArray := by
  obtain ⟨lv, qw, sw⟩ := B
  obtain ⟨base, c, rfl⟩ := sw.shape
  have h8 := ok.h8
  have hS := ok.len
  refine q1i q54 q25 rfl rfl (q01 ?_)
  unfold q25
  simp -implicitDefEqProofs only [zA,reduceIte,reduceCtorEq,Nat.reduceEqDiff,Nat.reduceAdd,Nat.reduceMul,Nat.reduceLT,Nat.reduceSub,Int.reduceLT,Int.reduceLE,Int.reduceEq,Int.reduceNe,Int.reduceSub,Int.reduceAdd,Int.reduceMul,Int.reduceBEq,Int.reduceBNe,Int.reduceGT,Int.reduceGE,Nat.reduceGT,Int.reduceToNat,Int.reduceNeg,Nat.reduceLeDiff,Nat.reduceBEq,Nat.reduceBneDiff]
  intro b2 hb2
  try simp -implicitDefEqProofs only [zA,reduceIte,reduceCtorEq,Nat.reduceEqDiff,Nat.reduceAdd,Nat.reduceMul,Nat.reduceLT,Nat.reduceSub,Int.reduceLT,Int.reduceLE,Int.reduceEq,Int.reduceNe,Int.reduceSub,Int.reduceAdd,Int.reduceMul,Int.reduceBEq,Int.reduceBNe,Int.reduceGT,Int.reduceGE,Nat.reduceGT,Int.reduceToNat,Int.reduceNeg,Nat.reduceLeDiff,Nat.reduceBEq,Nat.reduceBneDiff]
  intro b3 hb3
  have ne : b3 ≠ b2 := by intro e; subst e; rw [Heap.q03] at hb3; cases hb3
  have hb3' : H b3 = none := by rw [Heap.q0x ne] at hb3; exact hb3
  have st0 : q4g ((H.set b2 (.own 0 (List.replicate 8 (.int .i64 0)) 8)).set b3 (.own 0 (List.replicate 8 (.int .i64 0)) 8)) 8 (.pointer (some ⟨b3, 0, none⟩)) (.agg (List.replicate 8 (Value.int IntKind.i64 0)).toArray) = some ((H.set b2 (.own 0 (List.replicate 8 (.int .i64 0)) 8)).set b3 (.own 0 (List.replicate 8 (.int .i64 0)) 8)) := z6z (by decide) (by simp) (by simp [Bb.one]) (by simp) (by decide)
  try simp -implicitDefEqProofs only [zA,reduceIte,reduceCtorEq,Nat.reduceEqDiff,Nat.reduceAdd,Nat.reduceMul,Nat.reduceLT,Nat.reduceSub,Int.reduceLT,Int.reduceLE,Int.reduceEq,Int.reduceNe,Int.reduceSub,Int.reduceAdd,Int.reduceMul,Int.reduceBEq,Int.reduceBNe,Int.reduceGT,Int.reduceGE,Nat.reduceGT,Int.reduceToNat,Int.reduceNeg,Nat.reduceLeDiff,Nat.reduceBEq,Nat.reduceBneDiff,List.length_replicate,st0]
  have V0 : VS H ((H.set b2 (.own 0 (List.replicate 8 (.int .i64 0)) 8)).set b3 (.own 0 (List.replicate 8 (.int .i64 0)) 8)) b2 b3 (List.replicate 8 0) :=
    ⟨Heap.qfo (Heap.q0a (Heap.q04 _) hb2 _) hb3 _, hb2, hb3', ne.symm, by rw [Heap.q0x ne.symm, Heap.q03], by rw [Heap.q03]; rfl, rfl⟩
  generalize ((H.set b2 (.own 0 (List.replicate 8 (.int .i64 0)) 8)).set b3 (.own 0 (List.replicate 8 (.int .i64 0)) 8)) = G0 at V0 ⊢
  refine q0s (fun m t G => ∃ (i : Nat) (v : List Int), t = tl [(0, .pointer (some ⟨w, 0, none⟩)), (2, .pointer (some ⟨b2, 0, none⟩)), (3, .pointer (some ⟨b3, 0, none⟩)), (4, .int .i64 i)] ∧ i ≤ S.length ∧ m = S.length - i ∧ VS H G b2 b3 v ∧ VecOf (S.take i) v) S.length
    ⟨0, _, rfl, by omega, by omega, V0, by rw [List.take_zero]; exact VecOf.nil⟩ ?_
  rintro m t G ⟨i, v, rfl, hi, rfl, V, hv⟩
  have cw : q0u G ⟨w, 0, none⟩ = some (.slice base S.length c) := by rw [q0z (V.le _ _ qw) (by simp)]; rfl
  by_cases hlt : i < S.length
  · obtain ⟨bs, o, c', hv', hc, hce⟩ := sw.edAt h8 i hlt
    simp only [Value.slice.injEq, true_and] at hv'
    obtain ⟨rfl, rfl⟩ := hv'
    have hi1 : (i : Int) < S.length := by omega
    have hi2 : (0 : Int) ≤ i := by omega
    have w1 : IntKind.i64.wrap ((i : Int) + 1) = ((i + 1 : Nat) : Int) := q9r (by omega)
    have hx8 := h8 S[i] (List.getElem_mem hlt)
    have gx := qm4.1 (ok.good S[i] (List.getElem_mem hlt))
    have hi3 := qg6 hx8 (hce _ V.le)
    simp -implicitDefEqProofs only [zA,reduceIte,reduceCtorEq,Nat.reduceEqDiff,Nat.reduceAdd,Nat.reduceMul,Nat.reduceLT,Nat.reduceSub,Int.reduceLT,Int.reduceLE,Int.reduceEq,Int.reduceNe,Int.reduceSub,Int.reduceAdd,Int.reduceMul,Int.reduceBEq,Int.reduceBNe,Int.reduceGT,Int.reduceGE,Nat.reduceGT,Int.reduceToNat,Int.reduceNeg,Nat.reduceLeDiff,Nat.reduceBEq,Nat.reduceBneDiff,cw,hi1]
    unfold q6i
    simp -implicitDefEqProofs only [zA,reduceIte,reduceCtorEq,Nat.reduceEqDiff,Nat.reduceAdd,Nat.reduceMul,Nat.reduceLT,Nat.reduceSub,Int.reduceLT,Int.reduceLE,Int.reduceEq,Int.reduceNe,Int.reduceSub,Int.reduceAdd,Int.reduceMul,Int.reduceBEq,Int.reduceBNe,Int.reduceGT,Int.reduceGE,Nat.reduceGT,Int.reduceToNat,Int.reduceNeg,Nat.reduceLeDiff,Nat.reduceBEq,Nat.reduceBneDiff,cw,hi1,hi2,Int.toNat_natCast,hi3]
    intro bd hbd
    have sd : q4g (G.set bd (.own 0 [.int .i64 0, .int .i64 0] 2)) 2 (.pointer (some ⟨bd, 0, none⟩)) (.agg [Value.int .i64 S[i].dev, Value.int .i64 S[i].n].toArray) = some (G.set bd (.own 0 [.int .i64 S[i].dev, .int .i64 S[i].n] 2)) := z6z (by decide) rfl rfl rfl (by decide)
    try simp -implicitDefEqProofs only [zA,reduceIte,reduceCtorEq,Nat.reduceEqDiff,Nat.reduceAdd,Nat.reduceMul,Nat.reduceLT,Nat.reduceSub,Int.reduceLT,Int.reduceLE,Int.reduceEq,Int.reduceNe,Int.reduceSub,Int.reduceAdd,Int.reduceMul,Int.reduceBEq,Int.reduceBNe,Int.reduceGT,Int.reduceGE,Nat.reduceGT,Int.reduceToNat,Int.reduceNeg,Nat.reduceLeDiff,Nat.reduceBEq,Nat.reduceBneDiff,sd]
    have led : G.le (G.set bd (.own 0 [.int .i64 S[i].dev, .int .i64 S[i].n] 2)) := Heap.q0a (Heap.q04 _) hbd _
    have qd : (G.set bd (.own 0 [.int .i64 S[i].dev, .int .i64 S[i].n] 2)) bd = some (.own 0 [.int .i64 S[i].dev, .int .i64 S[i].n] 2) := Heap.q03 _ _ _
    generalize (G.set bd (.own 0 [.int .i64 S[i].dev, .int .i64 S[i].n] 2)) = G4 at led qd ⊢
    have V4 := V.more led
    have M4 : MostV G4 b3 v := ⟨V4.q3, V4.h8, hv.bd ok⟩
    have cd0 : q0u G4 ⟨bd, 0, none⟩ = some (.int .i64 S[i].dev) := by rw [q0z qd (by simp)]; rfl
    have cd1 : q0u G4 ⟨bd, 1, none⟩ = some (.int .i64 S[i].n) := by rw [q0z qd (by simp)]; rfl
    have g0 := gx.d0
    have g8 := gx.d8
    have cm := M4.cell g0 g8
    have hvd := M4.val S[i].dev
    have w2 : IntKind.i64.wrap (v.getD S[i].dev.toNat 0 + 1) = v.getD S[i].dev.toNat 0 + 1 := qn3 (by omega) (by omega)
    have hmore := hv.more ok hlt
    by_cases gt : S[i].n = v.getD S[i].dev.toNat 0 + 1
    · obtain ⟨st, M5⟩ := M4.put g0 g8 (x := S[i].n) ⟨by have := gx.n1; omega, gx.n2⟩
      rw [if_pos gt] at hmore
      have gt' : (S[i].n = v.getD S[i].dev.toNat 0 + 1) = True := eq_true gt
      simp -implicitDefEqProofs only [zA,reduceIte,reduceCtorEq,Nat.reduceEqDiff,Nat.reduceAdd,Nat.reduceMul,Nat.reduceLT,Nat.reduceSub,Int.reduceLT,Int.reduceLE,Int.reduceEq,Int.reduceNe,Int.reduceSub,Int.reduceAdd,Int.reduceMul,Int.reduceBEq,Int.reduceBNe,Int.reduceGT,Int.reduceGE,Nat.reduceGT,Int.reduceToNat,Int.reduceNeg,Nat.reduceLeDiff,Nat.reduceBEq,Nat.reduceBneDiff,cd0,cd1,g0,g8,cm,w2,gt',st,w1]
      refine ⟨_, ?_, i + 1, _, rfl, by omega, rfl, V4.put _ (by rw [List.length_set]; exact V4.h8), hmore⟩
      omega
    · rw [if_neg gt] at hmore
      have gt' : (S[i].n = v.getD S[i].dev.toNat 0 + 1) = False := eq_false gt
      simp -implicitDefEqProofs only [zA,reduceIte,reduceCtorEq,Nat.reduceEqDiff,Nat.reduceAdd,Nat.reduceMul,Nat.reduceLT,Nat.reduceSub,Int.reduceLT,Int.reduceLE,Int.reduceEq,Int.reduceNe,Int.reduceSub,Int.reduceAdd,Int.reduceMul,Int.reduceBEq,Int.reduceBNe,Int.reduceGT,Int.reduceGE,Nat.reduceGT,Int.reduceToNat,Int.reduceNeg,Nat.reduceLeDiff,Nat.reduceBEq,Nat.reduceBneDiff,cd0,cd1,g0,g8,cm,w2,gt',w1]
      refine ⟨_, ?_, i + 1, v, rfl, by omega, rfl, V4, hmore⟩
      omega
  · have hi1 : ¬ (i : Int) < S.length := by omega
    have e : i = S.length := by omega
    subst e
    rw [List.take_length] at hv
    have ld : q08 G ⟨b3, 0, none⟩ 8 = some (v.map (.int .i64)) := by
      rw [q2e V.q3 (by simp [V.h8])]
      simp [V.h8, List.take_of_length_le]
    have vl : (v.map (Value.int .i64)).length = 8 := by simp [V.h8]
    have st : q4g G 8 (.pointer (some ⟨b2, 0, none⟩)) (.agg (v.map (.int .i64)).toArray) = some (G.set b2 (.own 0 (v.map (.int .i64)) 8)) :=
      q4x V.q2 (by decide) vl (by simp [Bb.one]) (by simp) (by decide)
    have l2 : q08 (G.set b2 (.own 0 (v.map (.int .i64)) 8)) ⟨b2, 0, none⟩ 8 = some (v.map (.int .i64)) := z6x vl
    simp -implicitDefEqProofs only [zA,reduceIte,reduceCtorEq,Nat.reduceEqDiff,Nat.reduceAdd,Nat.reduceMul,Nat.reduceLT,Nat.reduceSub,Int.reduceLT,Int.reduceLE,Int.reduceEq,Int.reduceNe,Int.reduceSub,Int.reduceAdd,Int.reduceMul,Int.reduceBEq,Int.reduceBNe,Int.reduceGT,Int.reduceGE,Nat.reduceGT,Int.reduceToNat,Int.reduceNeg,Nat.reduceLeDiff,Nat.reduceBEq,Nat.reduceBneDiff,cw,hi1,ld,st,l2]
    exact ⟨Heap.q0a V.le V.n2 _, v, hv, rfl⟩
theorem ql0 (E : EnvT tab) {H : Heap} {w : Nat} {S : List Ed} (ok : BkS S) (B : WB H w S) (dev : Int) :
    ACallN E.toEnv qbt [.pointer (some ⟨w, 0, none⟩), .int .i64 dev] H fun x H' => H.le H' ∧
      (0 ≤ dev ∧ dev < 8 → ∃ v k : _, VecOf S v ∧ v[dev.toNat]? = some k ∧ x = .tuple #[dotK dev (k + 1), .agg (v.map (.int .i64)).toArray]) ∧
      (¬ (0 ≤ dev ∧ dev < 8) → x = .tuple #[dotK 0 0, .agg ((List.replicate 8 (0 : Int)).map (.int .i64)).toArray]) := by
  refine q1i q4o q1w rfl rfl (q01 ?_)
  unfold q1w
  simp -implicitDefEqProofs only [zA,reduceIte,reduceCtorEq,Nat.reduceEqDiff,Nat.reduceAdd,Nat.reduceMul,Nat.reduceLT,Nat.reduceSub,Int.reduceLT,Int.reduceLE,Int.reduceEq,Int.reduceNe,Int.reduceSub,Int.reduceAdd,Int.reduceMul,Int.reduceBEq,Int.reduceBNe,Int.reduceGT,Int.reduceGE,Nat.reduceGT,Int.reduceToNat,Int.reduceNeg,Nat.reduceLeDiff,Nat.reduceBEq,Nat.reduceBneDiff]
  intro b4 hb4
  try simp -implicitDefEqProofs only [zA,reduceIte,reduceCtorEq,Nat.reduceEqDiff,Nat.reduceAdd,Nat.reduceMul,Nat.reduceLT,Nat.reduceSub,Int.reduceLT,Int.reduceLE,Int.reduceEq,Int.reduceNe,Int.reduceSub,Int.reduceAdd,Int.reduceMul,Int.reduceBEq,Int.reduceBNe,Int.reduceGT,Int.reduceGE,Nat.reduceGT,Int.reduceToNat,Int.reduceNeg,Nat.reduceLeDiff,Nat.reduceBEq,Nat.reduceBneDiff]
  intro b5 hb5
  try simp -implicitDefEqProofs only [zA,reduceIte,reduceCtorEq,Nat.reduceEqDiff,Nat.reduceAdd,Nat.reduceMul,Nat.reduceLT,Nat.reduceSub,Int.reduceLT,Int.reduceLE,Int.reduceEq,Int.reduceNe,Int.reduceSub,Int.reduceAdd,Int.reduceMul,Int.reduceBEq,Int.reduceBNe,Int.reduceGT,Int.reduceGE,Nat.reduceGT,Int.reduceToNat,Int.reduceNeg,Nat.reduceLeDiff,Nat.reduceBEq,Nat.reduceBneDiff]
  have ne : b5 ≠ b4 := by intro e; subst e; rw [Heap.q03] at hb5; cases hb5
  have hb5' : H b5 = none := by rw [Heap.q0x ne] at hb5; exact hb5
  rw [List.length_replicate]
  have le0 : H.le ((H.set b4 (.own 0 [.int .i64 0, .int .i64 0] 2)).set b5 (.own 0 (List.replicate 8 (.int .i64 0)) 8)) := Heap.qfo (Heap.q0a (Heap.q04 _) hb4 _) hb5 _
  have q4 : ((H.set b4 (.own 0 [.int .i64 0, .int .i64 0] 2)).set b5 (.own 0 (List.replicate 8 (.int .i64 0)) 8)) b4 = some (.own 0 [.int .i64 0, .int .i64 0] 2) := by rw [Heap.q0x ne.symm, Heap.q03]
  have q5 : ((H.set b4 (.own 0 [.int .i64 0, .int .i64 0] 2)).set b5 (.own 0 (List.replicate 8 (.int .i64 0)) 8)) b5 = some (.own 0 (List.replicate 8 (.int .i64 0)) 8) := Heap.q03 _ _ _
  generalize ((H.set b4 (.own 0 [.int .i64 0, .int .i64 0] 2)).set b5 (.own 0 (List.replicate 8 (.int .i64 0)) 8)) = G1 at le0 q4 q5 ⊢
  have fin : ∀ (G2 : Heap), G1.le G2 → ∀ (a c : Int) (w : List Int), w.length = 8 →
      q4g G2 2 (.pointer (some ⟨b4, 0, none⟩)) (.agg [Value.int .i64 a, Value.int .i64 c].toArray) = some (G2.set b4 (.own 0 [.int .i64 a, .int .i64 c] 2)) ∧
      q4g (G2.set b4 (.own 0 [.int .i64 a, .int .i64 c] 2)) 8 (.pointer (some ⟨b5, 0, none⟩)) (.agg (w.map (.int .i64)).toArray) = some ((G2.set b4 (.own 0 [.int .i64 a, .int .i64 c] 2)).set b5 (.own 0 (w.map (.int .i64)) 8)) ∧
      q08 ((G2.set b4 (.own 0 [.int .i64 a, .int .i64 c] 2)).set b5 (.own 0 (w.map (.int .i64)) 8)) ⟨b4, 0, none⟩ 2 = some [.int .i64 a, .int .i64 c] ∧
      q08 ((G2.set b4 (.own 0 [.int .i64 a, .int .i64 c] 2)).set b5 (.own 0 (w.map (.int .i64)) 8)) ⟨b5, 0, none⟩ 8 = some (w.map (.int .i64)) ∧
      H.le ((G2.set b4 (.own 0 [.int .i64 a, .int .i64 c] 2)).set b5 (.own 0 (w.map (.int .i64)) 8)) := by
    intro G2 le a c w hw
    have h1 : ((G2.set b4 (.own 0 [.int .i64 a, .int .i64 c] 2)).set b5 (.own 0 (w.map (.int .i64)) 8)) b4 = some (.own 0 [.int .i64 a, .int .i64 c] 2) := by rw [Heap.q0x ne.symm, Heap.q03]
    refine ⟨q4x (le _ _ q4) (by decide) rfl rfl rfl (by decide), q4x (vs := List.replicate 8 (.int .i64 0)) (by rw [Heap.q0x ne]; exact le _ _ q5) (by decide) (by simp [hw]) (by simp [Bb.one]) (by simp) (by decide), ?_, z6x (by simp [hw]), Heap.q0a (Heap.q0a (Heap.q00 le0 le) hb4 _) hb5' _⟩
    rw [q2e h1 (by simp)]; rfl
  by_cases g1 : dev < 0
  · obtain ⟨f1, f2, f3, f4, f5⟩ := fin G1 (Heap.q04 _) 0 0 (List.replicate 8 0) (by simp)
    rw [List.map_replicate] at f2 f3 f4 f5
    have gn : ¬ (0 ≤ dev ∧ dev < 8) := by omega
    have g1b : ¬ 0 ≤ dev := by omega
    simp -implicitDefEqProofs only [zA,reduceIte,reduceCtorEq,Nat.reduceEqDiff,Nat.reduceAdd,Nat.reduceMul,Nat.reduceLT,Nat.reduceSub,Int.reduceLT,Int.reduceLE,Int.reduceEq,Int.reduceNe,Int.reduceSub,Int.reduceAdd,Int.reduceMul,Int.reduceBEq,Int.reduceBNe,Int.reduceGT,Int.reduceGE,Nat.reduceGT,Int.reduceToNat,Int.reduceNeg,Nat.reduceLeDiff,Nat.reduceBEq,Nat.reduceBneDiff,g1,g1b,f1,f2,f3,f4,List.map_replicate]
    refine ⟨f5, fun h => ?_, fun _ => rfl⟩
    exact absurd h (by first | omega | simp)
  by_cases g2 : 7 < dev
  · obtain ⟨f1, f2, f3, f4, f5⟩ := fin G1 (Heap.q04 _) 0 0 (List.replicate 8 0) (by simp)
    rw [List.map_replicate] at f2 f3 f4 f5
    have gn : ¬ (0 ≤ dev ∧ dev < 8) := by omega
    have g1b : 0 ≤ dev := by omega
    have g2b : ¬ dev ≤ 7 := by omega
    simp -implicitDefEqProofs only [zA,reduceIte,reduceCtorEq,Nat.reduceEqDiff,Nat.reduceAdd,Nat.reduceMul,Nat.reduceLT,Nat.reduceSub,Int.reduceLT,Int.reduceLE,Int.reduceEq,Int.reduceNe,Int.reduceSub,Int.reduceAdd,Int.reduceMul,Int.reduceBEq,Int.reduceBNe,Int.reduceGT,Int.reduceGE,Nat.reduceGT,Int.reduceToNat,Int.reduceNeg,Nat.reduceLeDiff,Nat.reduceBEq,Nat.reduceBneDiff,g1,g1b,g2,g2b,f1,f2,f3,f4,List.map_replicate]
    refine ⟨f5, fun h => ?_, fun _ => rfl⟩
    exact absurd h (by first | omega | simp)
  have g : 0 ≤ dev ∧ dev < 8 := by omega
  have BG := B.le le0
  have g1b : 0 ≤ dev := by omega
  have g2b : dev ≤ 7 := by omega
  simp -implicitDefEqProofs only [zA,reduceIte,reduceCtorEq,Nat.reduceEqDiff,Nat.reduceAdd,Nat.reduceMul,Nat.reduceLT,Nat.reduceSub,Int.reduceLT,Int.reduceLE,Int.reduceEq,Int.reduceNe,Int.reduceSub,Int.reduceAdd,Int.reduceMul,Int.reduceBEq,Int.reduceBNe,Int.reduceGT,Int.reduceGE,Nat.reduceGT,Int.reduceToNat,Int.reduceNeg,Nat.reduceLeDiff,Nat.reduceBEq,Nat.reduceBneDiff,g1,g1b,g2,g2b]
  unfold q5v
  simp -implicitDefEqProofs only [zA,reduceIte,reduceCtorEq,Nat.reduceEqDiff,Nat.reduceAdd,Nat.reduceMul,Nat.reduceLT,Nat.reduceSub,Int.reduceLT,Int.reduceLE,Int.reduceEq,Int.reduceNe,Int.reduceSub,Int.reduceAdd,Int.reduceMul,Int.reduceBEq,Int.reduceBNe,Int.reduceGT,Int.reduceGE,Nat.reduceGT,Int.reduceToNat,Int.reduceNeg,Nat.reduceLeDiff,Nat.reduceBEq,Nat.reduceBneDiff]
  refine (qi4 E ok BG).mono ?_
  rintro x G2 ⟨le2, v, hv, rfl⟩
  have v8 := hv.1
  have vl : (v.map (Value.int .i64)).length = 8 := by simp [v8]
  simp -implicitDefEqProofs only [zA,reduceIte,reduceCtorEq,Nat.reduceEqDiff,Nat.reduceAdd,Nat.reduceMul,Nat.reduceLT,Nat.reduceSub,Int.reduceLT,Int.reduceLE,Int.reduceEq,Int.reduceNe,Int.reduceSub,Int.reduceAdd,Int.reduceMul,Int.reduceBEq,Int.reduceBNe,Int.reduceGT,Int.reduceGE,Nat.reduceGT,Int.reduceToNat,Int.reduceNeg,Nat.reduceLeDiff,Nat.reduceBEq,Nat.reduceBneDiff]
  intro b6 hb6
  rw [List.length_replicate]
  have s6 : q4g (G2.set b6 (.own 0 (List.replicate 8 (.int .i64 0)) 8)) 8 (.pointer (some ⟨b6, 0, none⟩)) (.agg (v.map (.int .i64)).toArray) = some (G2.set b6 (.own 0 (v.map (.int .i64)) 8)) := z6z (by decide) vl (by simp [Bb.one]) (by simp) (by decide)
  have le6 := Heap.q0a (Heap.q04 G2) hb6 (.own 0 (v.map (.int .i64)) 8)
  have q6 : (G2.set b6 (.own 0 (v.map (.int .i64)) 8)) b6 = some (.own 0 (v.map (.int .i64)) 8) := Heap.q03 _ _ _
  have leY := Heap.q00 le2 le6
  obtain ⟨k, hk, hc⟩ := hv.2 dev.toNat (by omega)
  have hD : dev.toNat < v.length := by omega
  have hvd : v[dev.toNat] = k := by rw [List.getElem?_eq_getElem hD] at hk; simpa using hk
  have hkb := hc.1.le ok
  have w2 : IntKind.i64.wrap ((k : Int) + 1) = ((k + 1 : Nat) : Int) := q9r (by omega)
  have n64 : b6 ≠ b4 := fun e => by rw [e, le2 _ _ q4] at hb6; cases hb6
  try simp -implicitDefEqProofs only [zA,reduceIte,reduceCtorEq,Nat.reduceEqDiff,Nat.reduceAdd,Nat.reduceMul,Nat.reduceLT,Nat.reduceSub,Int.reduceLT,Int.reduceLE,Int.reduceEq,Int.reduceNe,Int.reduceSub,Int.reduceAdd,Int.reduceMul,Int.reduceBEq,Int.reduceBNe,Int.reduceGT,Int.reduceGE,Nat.reduceGT,Int.reduceToNat,Int.reduceNeg,Nat.reduceLeDiff,Nat.reduceBEq,Nat.reduceBneDiff,s6]
  generalize (G2.set b6 (.own 0 (v.map (.int .i64)) 8)) = G3 at le6 q6 leY ⊢
  have c6 : q0u G3 ⟨b6, dev.toNat, none⟩ = some (.int .i64 k) := by rw [q0z q6 (by simp; omega)]; simp [hvd]
  have l6 : q08 G3 ⟨b6, 0, none⟩ 8 = some (v.map (.int .i64)) := by
    rw [q2e q6 (by simp [v8])]
    simp [v8, List.take_of_length_le]
  obtain ⟨f1, f2, f3, f4, f5⟩ := fin G3 leY dev ((k + 1 : Nat) : Int) v v8
  have g1' := g.1
  have g2' := g.2
  have l6b : q08 (G3.set b4 (.own 0 [.int .i64 dev, .int .i64 ((k + 1 : Nat) : Int)] 2)) ⟨b6, 0, none⟩ 8 = some (v.map (.int .i64)) := by
    rw [q2e (vs := v.map (.int .i64)) (by rw [Heap.q0x n64]; exact q6) (by simp [v8])]
    simp [v8, List.take_of_length_le]
  simp -implicitDefEqProofs only [zA,reduceIte,reduceCtorEq,Nat.reduceEqDiff,Nat.reduceAdd,Nat.reduceMul,Nat.reduceLT,Nat.reduceSub,Int.reduceLT,Int.reduceLE,Int.reduceEq,Int.reduceNe,Int.reduceSub,Int.reduceAdd,Int.reduceMul,Int.reduceBEq,Int.reduceBNe,Int.reduceGT,Int.reduceGE,Nat.reduceGT,Int.reduceToNat,Int.reduceNeg,Nat.reduceLeDiff,Nat.reduceBEq,Nat.reduceBneDiff,g1',g2',c6,w2,f1,l6,l6b,f2,f3,f4]
  exact ⟨fun G hG => by rw [List.mem_singleton.1 hG, l6]; rfl, f5, ⟨v, k, hv, hk, rfl⟩, fun h => absurd g.2 (by omega)⟩
theorem qky (E : EnvT tab) {H : Heap} {v w : Value} {L : List Ed} (s : SlE H v L) (q : SlE H w L) (h8 : ∀ e ∈ L, e.seen.length = 8) (hl : L.length ≤ 1000000) :
    ACallN E.toEnv qek [v, w] H fun r H' => H' = H ∧ r = .bool true := by
  obtain ⟨b1, c1, rfl⟩ := s.shape
  obtain ⟨b2, c2, rfl⟩ := q.shape
  refine q1i q8h q4c rfl rfl (q01 ?_)
  unfold q4c
  have g' : ((L.length : Int) != L.length) = false := by simp
  simp -implicitDefEqProofs only [zA,reduceIte,reduceCtorEq,Nat.reduceEqDiff,Nat.reduceAdd,Nat.reduceMul,Nat.reduceLT,Nat.reduceSub,Int.reduceLT,Int.reduceLE,Int.reduceEq,Int.reduceNe,Int.reduceSub,Int.reduceAdd,Int.reduceMul,Int.reduceBEq,Int.reduceBNe,Int.reduceGT,Int.reduceGE,Nat.reduceGT,Int.reduceToNat,Int.reduceNeg,Nat.reduceLeDiff,Nat.reduceBEq,Nat.reduceBneDiff,g']
  unfold q9n
  simp -implicitDefEqProofs only [zA,reduceIte,reduceCtorEq,Nat.reduceEqDiff,Nat.reduceAdd,Nat.reduceMul,Nat.reduceLT,Nat.reduceSub,Int.reduceLT,Int.reduceLE,Int.reduceEq,Int.reduceNe,Int.reduceSub,Int.reduceAdd,Int.reduceMul,Int.reduceBEq,Int.reduceBNe,Int.reduceGT,Int.reduceGE,Nat.reduceGT,Int.reduceToNat,Int.reduceNeg,Nat.reduceLeDiff,Nat.reduceBEq,Nat.reduceBneDiff]
  refine q0s (fun m t G => G = H ∧ ∃ i : Nat, t = tl [(0, .slice b1 L.length c1), (1, .slice b2 L.length c2), (5, .int .i64 i)] ∧ i ≤ L.length ∧ m = L.length - i) L.length
    ⟨rfl, 0, rfl, by omega, by omega⟩ ?_
  rintro m t G ⟨rfl, i, rfl, hi, rfl⟩
  by_cases hlt : i < L.length
  · have hi1 : (i : Int) < L.length := by omega
    have hi2 : (0 : Int) ≤ i := by omega
    have w1 : IntKind.i64.wrap ((i : Int) + 1) = ((i + 1 : Nat) : Int) := q9r (by omega)
    obtain ⟨x1, o1, d1, e1, _, k1⟩ := s.edAt h8 i hlt
    obtain ⟨x2, o2, d2, e2, _, k2⟩ := q.edAt h8 i hlt
    simp only [Value.slice.injEq, true_and] at e1 e2
    obtain ⟨rfl, rfl⟩ := e1
    obtain ⟨rfl, rfl⟩ := e2
    have l1 := k1 _ (Heap.q04 _)
    have l2 := k2 _ (Heap.q04 _)
    have hx8 := h8 L[i] (List.getElem_mem hlt)
    have z1 := qas L[i] hx8
    have z3 : q0b (edC L[i]) (edC L[i]) = true := by rw [qeq L[i] L[i] hx8 hx8]; simp
    simp -implicitDefEqProofs only [zA,reduceIte,reduceCtorEq,Nat.reduceEqDiff,Nat.reduceAdd,Nat.reduceMul,Nat.reduceLT,Nat.reduceSub,Int.reduceLT,Int.reduceLE,Int.reduceEq,Int.reduceNe,Int.reduceSub,Int.reduceAdd,Int.reduceMul,Int.reduceBEq,Int.reduceBNe,Int.reduceGT,Int.reduceGE,Nat.reduceGT,Int.reduceToNat,Int.reduceNeg,Nat.reduceLeDiff,Nat.reduceBEq,Nat.reduceBneDiff,hi1,hi2,Int.toNat_natCast,l1,l2,z1,z3,w1]
    refine ⟨_, ?_, i + 1, rfl, by omega, rfl⟩
    omega
  · have hi1 : ¬ (i : Int) < L.length := by omega
    simp -implicitDefEqProofs only [zA,reduceIte,reduceCtorEq,Nat.reduceEqDiff,Nat.reduceAdd,Nat.reduceMul,Nat.reduceLT,Nat.reduceSub,Int.reduceLT,Int.reduceLE,Int.reduceEq,Int.reduceNe,Int.reduceSub,Int.reduceAdd,Int.reduceMul,Int.reduceBEq,Int.reduceBNe,Int.reduceGT,Int.reduceGE,Nat.reduceGT,Int.reduceToNat,Int.reduceNeg,Nat.reduceLeDiff,Nat.reduceBEq,Nat.reduceBneDiff,hi1]
theorem qjk (E : EnvT tab) (H : Heap) (e : Ed) (h8 : e.seen.length = 8) : ACallN E.toEnv qg3 [edV e] H fun r H' => H.le H' ∧ r = edV e := by
  refine q1i qa2 q5w rfl rfl (q01 ?_)
  unfold q5w edV
  have el := q1o h8
  simp -implicitDefEqProofs only [zA,reduceIte,reduceCtorEq,Nat.reduceEqDiff,Nat.reduceAdd,Nat.reduceMul,Nat.reduceLT,Nat.reduceSub,Int.reduceLT,Int.reduceLE,Int.reduceEq,Int.reduceNe,Int.reduceSub,Int.reduceAdd,Int.reduceMul,Int.reduceBEq,Int.reduceBNe,Int.reduceGT,Int.reduceGE,Nat.reduceGT,Int.reduceToNat,Int.reduceNeg,Nat.reduceLeDiff,Nat.reduceBEq,Nat.reduceBneDiff]
  intro b hb
  try simp -implicitDefEqProofs only [zA,reduceIte,reduceCtorEq,Nat.reduceEqDiff,Nat.reduceAdd,Nat.reduceMul,Nat.reduceLT,Nat.reduceSub,Int.reduceLT,Int.reduceLE,Int.reduceEq,Int.reduceNe,Int.reduceSub,Int.reduceAdd,Int.reduceMul,Int.reduceBEq,Int.reduceBNe,Int.reduceGT,Int.reduceGE,Nat.reduceGT,Int.reduceToNat,Int.reduceNeg,Nat.reduceLeDiff,Nat.reduceBEq,Nat.reduceBneDiff]
  rw [el]
  intro b2 hb2
  have ne : b2 ≠ b := by intro e; subst e; rw [Heap.q03] at hb2; cases hb2
  have hb2' : H b2 = none := by rw [Heap.q0x ne] at hb2; exact hb2
  have le1 : H.le ((H.set b (.own 0 (edC e) 15)).set b2 (.own 0 Z15 Z15.length)) := Heap.qfo (Heap.q0a (Heap.q04 _) hb _) hb2 _
  have A : EdAt ((H.set b (.own 0 (edC e) 15)).set b2 (.own 0 Z15 Z15.length)) b e := EdAt.of (by rw [Heap.q0x ne.symm, Heap.q03]) h8
  have s6 := stE (H.set b (.own 0 (edC e) 15)) b2 h8
  unfold Z15 at le1 A s6
  try simp -implicitDefEqProofs only [zA,reduceIte,reduceCtorEq,Nat.reduceEqDiff,Nat.reduceAdd,Nat.reduceMul,Nat.reduceLT,Nat.reduceSub,Int.reduceLT,Int.reduceLE,Int.reduceEq,Int.reduceNe,Int.reduceSub,Int.reduceAdd,Int.reduceMul,Int.reduceBEq,Int.reduceBNe,Int.reduceGT,Int.reduceGE,Nat.reduceGT,Int.reduceToNat,Int.reduceNeg,Nat.reduceLeDiff,Nat.reduceBEq,Nat.reduceBneDiff,A.dot,A.seen,A.kind,A.con,A.fld,A.val,A.time]
  refine withV_eq (v := .agg (edC e).toArray) ?_ ?_
  · clear s6 A le1 hb2 ne hb2' el hb
    obtain ⟨dev, n, seen, kind, con, fld, val, time⟩ := e
    obtain ⟨a0, a1, a2, a3, a4, a5, a6, a7, rfl⟩ := len8 h8
    rfl
  have l6 : q08 ((H.set b (.own 0 (edC e) 15)).set b2 (.own 0 (edC e) 15)) ⟨b2, 0, none⟩ 15 = some (edC e) := z6x el
  try simp -implicitDefEqProofs only [zA,reduceIte,reduceCtorEq,Nat.reduceEqDiff,Nat.reduceAdd,Nat.reduceMul,Nat.reduceLT,Nat.reduceSub,Int.reduceLT,Int.reduceLE,Int.reduceEq,Int.reduceNe,Int.reduceSub,Int.reduceAdd,Int.reduceMul,Int.reduceBEq,Int.reduceBNe,Int.reduceGT,Int.reduceGE,Nat.reduceGT,Int.reduceToNat,Int.reduceNeg,Nat.reduceLeDiff,Nat.reduceBEq,Nat.reduceBneDiff,s6,l6]
  exact Heap.q0a (Heap.q0a (Heap.q04 _) hb _) hb2' _
theorem qm1 (E : EnvT tab) {H : Heap} {v : Value} {L : List Ed} (s : SlE H v L) (h8 : ∀ e ∈ L, e.seen.length = 8) (hl : L.length ≤ 1000000) :
    ACallN E.toEnv qf5 [v] H fun r H' => H.le H' ∧ SlE H' r L := by
  obtain ⟨base, c, rfl⟩ := s.shape
  refine q1i q9i q52 rfl rfl (q01 ?_)
  unfold q52
  simp -implicitDefEqProofs only [zA,reduceIte,reduceCtorEq,Nat.reduceEqDiff,Nat.reduceAdd,Nat.reduceMul,Nat.reduceLT,Nat.reduceSub,Int.reduceLT,Int.reduceLE,Int.reduceEq,Int.reduceNe,Int.reduceSub,Int.reduceAdd,Int.reduceMul,Int.reduceBEq,Int.reduceBNe,Int.reduceGT,Int.reduceGE,Nat.reduceGT,Int.reduceToNat,Int.reduceNeg,Nat.reduceLeDiff,Nat.reduceBEq,Nat.reduceBneDiff]
  refine q0s (fun m t G => ∃ (i : Nat) (v : Value), t = tl [(0, .slice base L.length c), (3, v), (4, .int .i64 i)] ∧ i ≤ L.length ∧ m = L.length - i ∧ H.le G ∧ Ow H G 15 v i ((L.take i).flatMap edC)) L.length
    ⟨0, _, rfl, by omega, by omega, Heap.q04 _, by rw [List.take_zero]; exact Ow.nil _ _ _⟩ ?_
  rintro m t G ⟨i, v, rfl, hi, rfl, le, oM⟩
  by_cases hlt : i < L.length
  · obtain ⟨bs, o, c', hv, hc, hce⟩ := s.edAt h8 i hlt
    simp only [Value.slice.injEq, true_and] at hv
    obtain ⟨rfl, rfl⟩ := hv
    have hi1 : (i : Int) < L.length := by omega
    have hi2 : (0 : Int) ≤ i := by omega
    have w1 : IntKind.i64.wrap ((i : Int) + 1) = ((i + 1 : Nat) : Int) := q9r (by omega)
    have hx8 := h8 L[i] (List.getElem_mem hlt)
    have l1 := hce _ le
    have el := q1o hx8
    have et : L.take (i + 1) = L.take i ++ [L[i]] := List.take_succ_eq_append_getElem hlt
    simp -implicitDefEqProofs only [zA,reduceIte,reduceCtorEq,Nat.reduceEqDiff,Nat.reduceAdd,Nat.reduceMul,Nat.reduceLT,Nat.reduceSub,Int.reduceLT,Int.reduceLE,Int.reduceEq,Int.reduceNe,Int.reduceSub,Int.reduceAdd,Int.reduceMul,Int.reduceBEq,Int.reduceBNe,Int.reduceGT,Int.reduceGE,Nat.reduceGT,Int.reduceToNat,Int.reduceNeg,Nat.reduceLeDiff,Nat.reduceBEq,Nat.reduceBneDiff,hi1,hi2,Int.toNat_natCast,l1]
    refine (qjk E G L[i] hx8).mono ?_
    rintro r G2 ⟨le2, rfl⟩
    have z1 := qj1
    have z2 := qht
    unfold Z15 at z1 z2
    unfold edV
    simp -implicitDefEqProofs only [zA,reduceIte,reduceCtorEq,Nat.reduceEqDiff,Nat.reduceAdd,Nat.reduceMul,Nat.reduceLT,Nat.reduceSub,Int.reduceLT,Int.reduceLE,Int.reduceEq,Int.reduceNe,Int.reduceSub,Int.reduceAdd,Int.reduceMul,Int.reduceBEq,Int.reduceBNe,Int.reduceGT,Int.reduceGE,Nat.reduceGT,Int.reduceToNat,Int.reduceNeg,Nat.reduceLeDiff,Nat.reduceBEq,Nat.reduceBneDiff,z1,z2,List.append_nil,el,List.replicate_one,List.flatten_singleton]
    intro b7 hb7
    try simp -implicitDefEqProofs only [zA,reduceIte,reduceCtorEq,Nat.reduceEqDiff,Nat.reduceAdd,Nat.reduceMul,Nat.reduceLT,Nat.reduceSub,Int.reduceLT,Int.reduceLE,Int.reduceEq,Int.reduceNe,Int.reduceSub,Int.reduceAdd,Int.reduceMul,Int.reduceBEq,Int.reduceBNe,Int.reduceGT,Int.reduceGE,Nat.reduceGT,Int.reduceToNat,Int.reduceNeg,Nat.reduceLeDiff,Nat.reduceBEq,Nat.reduceBneDiff]
    have le8 := Heap.q0a (Heap.q04 G2) hb7 (.own 0 (edC L[i]) 15)
    have sx : Sl (G2.set b7 (.own 0 (edC L[i]) 15)) 15 (.slice (some ⟨b7, 0, none⟩) 1 1) 1 (edC L[i]) := Sl.lit (by rw [el])
    refine q1t (m := 1) (Heap.q00 le (Heap.q00 le2 le8)) (by omega) (oM.le (Heap.q00 le2 le8)) sx (qd6 _) (by omega) (by omega) ?_
    intro v2 G3 o2 le9
    simp -implicitDefEqProofs only [zA,reduceIte,reduceCtorEq,Nat.reduceEqDiff,Nat.reduceAdd,Nat.reduceMul,Nat.reduceLT,Nat.reduceSub,Int.reduceLT,Int.reduceLE,Int.reduceEq,Int.reduceNe,Int.reduceSub,Int.reduceAdd,Int.reduceMul,Int.reduceBEq,Int.reduceBNe,Int.reduceGT,Int.reduceGE,Nat.reduceGT,Int.reduceToNat,Int.reduceNeg,Nat.reduceLeDiff,Nat.reduceBEq,Nat.reduceBneDiff,w1]
    refine ⟨_, ?_, i + 1, v2, rfl, by omega, rfl, le9, ?_⟩
    · omega
    · rw [et, List.flatMap_append]; simpa using o2
  · have hi1 : ¬ (i : Int) < L.length := by omega
    have e : i = L.length := by omega
    subst e
    rw [List.take_length] at oM
    simp -implicitDefEqProofs only [zA,reduceIte,reduceCtorEq,Nat.reduceEqDiff,Nat.reduceAdd,Nat.reduceMul,Nat.reduceLT,Nat.reduceSub,Int.reduceLT,Int.reduceLE,Int.reduceEq,Int.reduceNe,Int.reduceSub,Int.reduceAdd,Int.reduceMul,Int.reduceBEq,Int.reduceBNe,Int.reduceGT,Int.reduceGE,Nat.reduceGT,Int.reduceToNat,Int.reduceNeg,Nat.reduceLeDiff,Nat.reduceBEq,Nat.reduceBneDiff,hi1]
    exact ⟨le, oM.sl⟩
end Go.Bb
namespace Go.Bb
set_option linter.unusedSimpArgs false
set_option linter.unusedVariables false
set_option maxRecDepth 20000
set_option maxHeartbeats 2000000
theorem qi5 (E : EnvT tab) (H : Heap) (v : List Int) (h8 : v.length = 8) : ACallN E.toEnv qcq [.agg (v.map (.int .i64)).toArray] H fun r H' => H.le H' ∧ r = .bool (vecG v) := by
  refine q1i q5m q2j rfl rfl (q01 ?_)
  unfold q2j
  have vl : (v.map (Value.int .i64)).length = 8 := by simp [h8]
  simp -implicitDefEqProofs only [zA,reduceIte,reduceCtorEq,Nat.reduceEqDiff,Nat.reduceAdd,Nat.reduceMul,Nat.reduceLT,Nat.reduceSub,Int.reduceLT,Int.reduceLE,Int.reduceEq,Int.reduceNe,Int.reduceSub,Int.reduceAdd,Int.reduceMul,Int.reduceBEq,Int.reduceBNe,Int.reduceGT,Int.reduceGE,Nat.reduceGT,Int.reduceToNat,Int.reduceNeg,Nat.reduceLeDiff,Nat.reduceBEq,Nat.reduceBneDiff]
  intro b hb
  try simp -implicitDefEqProofs only [zA,reduceIte,reduceCtorEq,Nat.reduceEqDiff,Nat.reduceAdd,Nat.reduceMul,Nat.reduceLT,Nat.reduceSub,Int.reduceLT,Int.reduceLE,Int.reduceEq,Int.reduceNe,Int.reduceSub,Int.reduceAdd,Int.reduceMul,Int.reduceBEq,Int.reduceBNe,Int.reduceGT,Int.reduceGE,Nat.reduceGT,Int.reduceToNat,Int.reduceNeg,Nat.reduceLeDiff,Nat.reduceBEq,Nat.reduceBneDiff]
  rw [vl]
  have le1 := Heap.q0a (Heap.q04 H) hb (.own 0 (v.map (.int .i64)) 8)
  have q : (H.set b (.own 0 (v.map (.int .i64)) 8)) b = some (.own 0 (v.map (.int .i64)) 8) := Heap.q03 _ _ _
  generalize (H.set b (.own 0 (v.map (.int .i64)) 8)) = H1 at le1 q
  refine q0s (fun m t G => G = H1 ∧ ∃ i : Nat, t = tl [(1, .pointer (some ⟨b, 0, none⟩)), (3, .int .i64 i)] ∧ i ≤ 8 ∧ m = 8 - i ∧ (v.take i).all (fun n => decide (0 ≤ n ∧ n ≤ 1099511627776)) = true) 8
    ⟨rfl, 0, rfl, by omega, by omega, by simp⟩ ?_
  rintro m t G ⟨rfl, i, rfl, hi, rfl, ha⟩
  by_cases hlt : i < 8
  · have hi1 : (i : Int) < 8 := by omega
    have hi2 : (0 : Int) ≤ i := by omega
    have w1 : IntKind.i64.wrap ((i : Int) + 1) = ((i + 1 : Nat) : Int) := q9r (by omega)
    have ci : q0u G ⟨b, i, none⟩ = some (.int .i64 (v[i]'(by omega))) := by
      rw [q0z q (by omega)]; simp
    have et : v.take (i + 1) = v.take i ++ [v[i]'(by omega)] := List.take_succ_eq_append_getElem (by omega)
    have hmem : v[i]'(by omega) ∈ v := List.getElem_mem _
    generalize v[i]'(by omega) = x at ci et hmem
    by_cases g : 0 ≤ x ∧ x ≤ 1099511627776
    · have g1 : ¬ (x < 0) := by omega
      have g2 : ¬ (1099511627776 < x) := by omega
      simp -implicitDefEqProofs only [zA,reduceIte,reduceCtorEq,Nat.reduceEqDiff,Nat.reduceAdd,Nat.reduceMul,Nat.reduceLT,Nat.reduceSub,Int.reduceLT,Int.reduceLE,Int.reduceEq,Int.reduceNe,Int.reduceSub,Int.reduceAdd,Int.reduceMul,Int.reduceBEq,Int.reduceBNe,Int.reduceGT,Int.reduceGE,Nat.reduceGT,Int.reduceToNat,Int.reduceNeg,Nat.reduceLeDiff,Nat.reduceBEq,Nat.reduceBneDiff,hi1,hi2,Int.toNat_natCast,ci,g1,g2,w1]
      refine ⟨_, ?_, i + 1, rfl, by omega, rfl, ?_⟩
      · omega
      · rw [et, List.all_append, ha]; simp [g]
    · have hf : vecG v = false := by
        unfold vecG
        rw [List.all_eq_false]
        exact ⟨x, hmem, by simpa using g⟩
      rw [hf]
      by_cases g1 : x < 0
      · simp -implicitDefEqProofs only [zA,reduceIte,reduceCtorEq,Nat.reduceEqDiff,Nat.reduceAdd,Nat.reduceMul,Nat.reduceLT,Nat.reduceSub,Int.reduceLT,Int.reduceLE,Int.reduceEq,Int.reduceNe,Int.reduceSub,Int.reduceAdd,Int.reduceMul,Int.reduceBEq,Int.reduceBNe,Int.reduceGT,Int.reduceGE,Nat.reduceGT,Int.reduceToNat,Int.reduceNeg,Nat.reduceLeDiff,Nat.reduceBEq,Nat.reduceBneDiff,hi1,hi2,Int.toNat_natCast,ci,g1]
        exact le1
      · have g2 : 1099511627776 < x := by omega
        simp -implicitDefEqProofs only [zA,reduceIte,reduceCtorEq,Nat.reduceEqDiff,Nat.reduceAdd,Nat.reduceMul,Nat.reduceLT,Nat.reduceSub,Int.reduceLT,Int.reduceLE,Int.reduceEq,Int.reduceNe,Int.reduceSub,Int.reduceAdd,Int.reduceMul,Int.reduceBEq,Int.reduceBNe,Int.reduceGT,Int.reduceGE,Nat.reduceGT,Int.reduceToNat,Int.reduceNeg,Nat.reduceLeDiff,Nat.reduceBEq,Nat.reduceBneDiff,hi1,hi2,Int.toNat_natCast,ci,g1,g2]
        exact le1
  · have e : i = 8 := by omega
    subst e
    rw [List.take_of_length_le (by omega)] at ha
    have hf : vecG v = true := ha
    simp -implicitDefEqProofs only [zA,reduceIte,reduceCtorEq,Nat.reduceEqDiff,Nat.reduceAdd,Nat.reduceMul,Nat.reduceLT,Nat.reduceSub,Int.reduceLT,Int.reduceLE,Int.reduceEq,Int.reduceNe,Int.reduceSub,Int.reduceAdd,Int.reduceMul,Int.reduceBEq,Int.reduceBNe,Int.reduceGT,Int.reduceGE,Nat.reduceGT,Int.reduceToNat,Int.reduceNeg,Nat.reduceLeDiff,Nat.reduceBEq,Nat.reduceBneDiff,hf]
    exact le1
theorem qgp (E : EnvT tab) (H : Heap) (s : List UInt8) (hs : s.length ≤ 9000000000000000000) : ACallN E.toEnv qej [strV s] H fun r H' => H' = H ∧ r = .bool (qcp s) := by
  refine q1i q8g q4b rfl rfl (q01 ?_)
  unfold q4b strV
  have ez := q93 s
  unfold qcp
  simp -implicitDefEqProofs only [zA,reduceIte,reduceCtorEq,Nat.reduceEqDiff,Nat.reduceAdd,Nat.reduceMul,Nat.reduceLT,Nat.reduceSub,Int.reduceLT,Int.reduceLE,Int.reduceEq,Int.reduceNe,Int.reduceSub,Int.reduceAdd,Int.reduceMul,Int.reduceBEq,Int.reduceBNe,Int.reduceGT,Int.reduceGE,Nat.reduceGT,Int.reduceToNat,Int.reduceNeg,Nat.reduceLeDiff,Nat.reduceBEq,Nat.reduceBneDiff,ez]
  refine q0s (fun m t G => G = H ∧ ∃ i : Nat, t = tl [(0, .string ⟨s.toArray⟩), (3, .int .i64 i)] ∧ i ≤ s.length ∧ m = s.length - i ∧ (s.take i).all (fun b => decide (33 ≤ b.toNat ∧ b.toNat ≤ 126)) = true) s.length
    ⟨rfl, 0, rfl, by omega, by omega, by simp⟩ ?_
  rintro m t G ⟨rfl, i, rfl, hi, rfl, ha⟩
  by_cases hlt : i < s.length
  · have hi1 : (i : Int) < s.length := by omega
    have hi2 : (0 : Int) ≤ i := by omega
    have w1 : IntKind.i64.wrap ((i : Int) + 1) = ((i + 1 : Nat) : Int) := q9r (by omega)
    have ix : s[i]? = some s[i] := List.getElem?_eq_getElem hlt
    have ad : s.toArray.toList = s := rfl
    by_cases g : 33 ≤ s[i].toNat ∧ s[i].toNat ≤ 126
    · have g1 : ¬ ((s[i].toNat : Int) < 33) := by omega
      have g2 : ¬ ((126 : Int) < s[i].toNat) := by omega
      simp -implicitDefEqProofs only [zA,reduceIte,reduceCtorEq,Nat.reduceEqDiff,Nat.reduceAdd,Nat.reduceMul,Nat.reduceLT,Nat.reduceSub,Int.reduceLT,Int.reduceLE,Int.reduceEq,Int.reduceNe,Int.reduceSub,Int.reduceAdd,Int.reduceMul,Int.reduceBEq,Int.reduceBNe,Int.reduceGT,Int.reduceGE,Nat.reduceGT,Int.reduceToNat,Int.reduceNeg,Nat.reduceLeDiff,Nat.reduceBEq,Nat.reduceBneDiff,ez,hi1,hi2,Int.toNat_natCast,ad,ix,g1,g2,w1]
      refine ⟨_, ?_, i + 1, rfl, by omega, rfl, ?_⟩
      · omega
      · rw [List.take_succ_eq_append_getElem hlt, List.all_append, ha]; simp [g]
    · have hf : s.all (fun b => decide (33 ≤ b.toNat ∧ b.toNat ≤ 126)) = false := by
        rw [List.all_eq_false]
        exact ⟨s[i], List.getElem_mem hlt, by simpa using g⟩
      rw [hf]
      by_cases g1 : (s[i].toNat : Int) < 33
      · simp -implicitDefEqProofs only [zA,reduceIte,reduceCtorEq,Nat.reduceEqDiff,Nat.reduceAdd,Nat.reduceMul,Nat.reduceLT,Nat.reduceSub,Int.reduceLT,Int.reduceLE,Int.reduceEq,Int.reduceNe,Int.reduceSub,Int.reduceAdd,Int.reduceMul,Int.reduceBEq,Int.reduceBNe,Int.reduceGT,Int.reduceGE,Nat.reduceGT,Int.reduceToNat,Int.reduceNeg,Nat.reduceLeDiff,Nat.reduceBEq,Nat.reduceBneDiff,ez,hi1,hi2,Int.toNat_natCast,ad,ix,g1,Bool.false_and]
      · have g2 : (126 : Int) < s[i].toNat := by omega
        simp -implicitDefEqProofs only [zA,reduceIte,reduceCtorEq,Nat.reduceEqDiff,Nat.reduceAdd,Nat.reduceMul,Nat.reduceLT,Nat.reduceSub,Int.reduceLT,Int.reduceLE,Int.reduceEq,Int.reduceNe,Int.reduceSub,Int.reduceAdd,Int.reduceMul,Int.reduceBEq,Int.reduceBNe,Int.reduceGT,Int.reduceGE,Nat.reduceGT,Int.reduceToNat,Int.reduceNeg,Nat.reduceLeDiff,Nat.reduceBEq,Nat.reduceBneDiff,ez,hi1,hi2,Int.toNat_natCast,ad,ix,g1,g2,Bool.false_and]
  · have hi1 : ¬ (i : Int) < s.length := by omega
    have e : i = s.length := by omega
    subst e
    rw [List.take_length] at ha
    rw [ha, Bool.true_and]
    simp -implicitDefEqProofs only [zA,reduceIte,reduceCtorEq,Nat.reduceEqDiff,Nat.reduceAdd,Nat.reduceMul,Nat.reduceLT,Nat.reduceSub,Int.reduceLT,Int.reduceLE,Int.reduceEq,Int.reduceNe,Int.reduceSub,Int.reduceAdd,Int.reduceMul,Int.reduceBEq,Int.reduceBNe,Int.reduceGT,Int.reduceGE,Nat.reduceGT,Int.reduceToNat,Int.reduceNeg,Nat.reduceLeDiff,Nat.reduceBEq,Nat.reduceBneDiff,ez,hi1]
    unfold q9b
    by_cases g1 : 1 ≤ s.length
    · have g1' : (1 : Int) ≤ s.length := by omega
      by_cases g2 : s.length ≤ 40
      · have g2' : (s.length : Int) ≤ 40 := by omega
        simp -implicitDefEqProofs only [zA,reduceIte,reduceCtorEq,Nat.reduceEqDiff,Nat.reduceAdd,Nat.reduceMul,Nat.reduceLT,Nat.reduceSub,Int.reduceLT,Int.reduceLE,Int.reduceEq,Int.reduceNe,Int.reduceSub,Int.reduceAdd,Int.reduceMul,Int.reduceBEq,Int.reduceBNe,Int.reduceGT,Int.reduceGE,Nat.reduceGT,Int.reduceToNat,Int.reduceNeg,Nat.reduceLeDiff,Nat.reduceBEq,Nat.reduceBneDiff,ez,g1',g2',g1,g2]
      · have g2' : ¬ (s.length : Int) ≤ 40 := by omega
        simp -implicitDefEqProofs only [zA,reduceIte,reduceCtorEq,Nat.reduceEqDiff,Nat.reduceAdd,Nat.reduceMul,Nat.reduceLT,Nat.reduceSub,Int.reduceLT,Int.reduceLE,Int.reduceEq,Int.reduceNe,Int.reduceSub,Int.reduceAdd,Int.reduceMul,Int.reduceBEq,Int.reduceBNe,Int.reduceGT,Int.reduceGE,Nat.reduceGT,Int.reduceToNat,Int.reduceNeg,Nat.reduceLeDiff,Nat.reduceBEq,Nat.reduceBneDiff,ez,g1',g2',g1,g2]
    · have g1' : ¬ (1 : Int) ≤ s.length := by omega
      simp -implicitDefEqProofs only [zA,reduceIte,reduceCtorEq,Nat.reduceEqDiff,Nat.reduceAdd,Nat.reduceMul,Nat.reduceLT,Nat.reduceSub,Int.reduceLT,Int.reduceLE,Int.reduceEq,Int.reduceNe,Int.reduceSub,Int.reduceAdd,Int.reduceMul,Int.reduceBEq,Int.reduceBNe,Int.reduceGT,Int.reduceGE,Nat.reduceGT,Int.reduceToNat,Int.reduceNeg,Nat.reduceLeDiff,Nat.reduceBEq,Nat.reduceBneDiff,ez,g1',g1,false_and]
theorem qhc (E : EnvT tab) (H : Heap) (e : Ed) (h8 : e.seen.length = 8) (hc : e.con.length ≤ 9000000000000000000) (hf : e.fld.length ≤ 9000000000000000000) (hn : -9223372036854775808 ≤ e.n) (hn2 : e.n ≤ 9223372036854775807) :
    ACallN E.toEnv qca [.agg (edC e).toArray] H fun r H' => H.le H' ∧ r = .bool (q43 e) := by
  refine q1i q53 q24 rfl rfl (q01 ?_)
  unfold q24
  have el := q1o h8
  simp -implicitDefEqProofs only [zA,reduceIte,reduceCtorEq,Nat.reduceEqDiff,Nat.reduceAdd,Nat.reduceMul,Nat.reduceLT,Nat.reduceSub,Int.reduceLT,Int.reduceLE,Int.reduceEq,Int.reduceNe,Int.reduceSub,Int.reduceAdd,Int.reduceMul,Int.reduceBEq,Int.reduceBNe,Int.reduceGT,Int.reduceGE,Nat.reduceGT,Int.reduceToNat,Int.reduceNeg,Nat.reduceLeDiff,Nat.reduceBEq,Nat.reduceBneDiff]
  intro b hb
  try simp -implicitDefEqProofs only [zA,reduceIte,reduceCtorEq,Nat.reduceEqDiff,Nat.reduceAdd,Nat.reduceMul,Nat.reduceLT,Nat.reduceSub,Int.reduceLT,Int.reduceLE,Int.reduceEq,Int.reduceNe,Int.reduceSub,Int.reduceAdd,Int.reduceMul,Int.reduceBEq,Int.reduceBNe,Int.reduceGT,Int.reduceGE,Nat.reduceGT,Int.reduceToNat,Int.reduceNeg,Nat.reduceLeDiff,Nat.reduceBEq,Nat.reduceBneDiff]
  rw [el]
  have le1 := Heap.q0a (Heap.q04 H) hb (.own 0 (edC e) 15)
  have A : EdAt (H.set b (.own 0 (edC e) 15)) b e := EdAt.of (Heap.q03 _ _ _) h8
  generalize (H.set b (.own 0 (edC e) 15)) = H1 at le1 A
  unfold q6x
  by_cases c0 : e.dev < 0
  · have hf : q43 e = false := by (have : ¬ (0 ≤ e.dev) := by omega); (simp [q43, this])
    rw [hf]
    simp -implicitDefEqProofs only [zA,reduceIte,reduceCtorEq,Nat.reduceEqDiff,Nat.reduceAdd,Nat.reduceMul,Nat.reduceLT,Nat.reduceSub,Int.reduceLT,Int.reduceLE,Int.reduceEq,Int.reduceNe,Int.reduceSub,Int.reduceAdd,Int.reduceMul,Int.reduceBEq,Int.reduceBNe,Int.reduceGT,Int.reduceGE,Nat.reduceGT,Int.reduceToNat,Int.reduceNeg,Nat.reduceLeDiff,Nat.reduceBEq,Nat.reduceBneDiff,A.dev,c0]
    exact le1
  by_cases c1 : 7 < e.dev
  · have hf : q43 e = false := by (have : ¬ (e.dev < 8) := by omega); (simp [q43, this])
    rw [hf]
    simp -implicitDefEqProofs only [zA,reduceIte,reduceCtorEq,Nat.reduceEqDiff,Nat.reduceAdd,Nat.reduceMul,Nat.reduceLT,Nat.reduceSub,Int.reduceLT,Int.reduceLE,Int.reduceEq,Int.reduceNe,Int.reduceSub,Int.reduceAdd,Int.reduceMul,Int.reduceBEq,Int.reduceBNe,Int.reduceGT,Int.reduceGE,Nat.reduceGT,Int.reduceToNat,Int.reduceNeg,Nat.reduceLeDiff,Nat.reduceBEq,Nat.reduceBneDiff,A.dev,c0,c1]
    exact le1
  by_cases c2 : e.n < 1
  · have hf : q43 e = false := by (have : ¬ (1 ≤ e.n) := by omega); (simp [q43, this])
    rw [hf]
    simp -implicitDefEqProofs only [zA,reduceIte,reduceCtorEq,Nat.reduceEqDiff,Nat.reduceAdd,Nat.reduceMul,Nat.reduceLT,Nat.reduceSub,Int.reduceLT,Int.reduceLE,Int.reduceEq,Int.reduceNe,Int.reduceSub,Int.reduceAdd,Int.reduceMul,Int.reduceBEq,Int.reduceBNe,Int.reduceGT,Int.reduceGE,Nat.reduceGT,Int.reduceToNat,Int.reduceNeg,Nat.reduceLeDiff,Nat.reduceBEq,Nat.reduceBneDiff,A.dev,c0,c1,A.n,c2]
    exact le1
  by_cases c3 : 1099511627776 < e.n
  · have hf : q43 e = false := by (have : ¬ (e.n ≤ 1099511627776) := by omega); (simp [q43, this])
    rw [hf]
    simp -implicitDefEqProofs only [zA,reduceIte,reduceCtorEq,Nat.reduceEqDiff,Nat.reduceAdd,Nat.reduceMul,Nat.reduceLT,Nat.reduceSub,Int.reduceLT,Int.reduceLE,Int.reduceEq,Int.reduceNe,Int.reduceSub,Int.reduceAdd,Int.reduceMul,Int.reduceBEq,Int.reduceBNe,Int.reduceGT,Int.reduceGE,Nat.reduceGT,Int.reduceToNat,Int.reduceNeg,Nat.reduceLeDiff,Nat.reduceBEq,Nat.reduceBneDiff,A.dev,c0,c1,A.n,c2,c3]
    exact le1
  have w1 : IntKind.i64.wrap (e.n - 1) = e.n - 1 := qn3 (by omega) (by omega)
  simp -implicitDefEqProofs only [zA,reduceIte,reduceCtorEq,Nat.reduceEqDiff,Nat.reduceAdd,Nat.reduceMul,Nat.reduceLT,Nat.reduceSub,Int.reduceLT,Int.reduceLE,Int.reduceEq,Int.reduceNe,Int.reduceSub,Int.reduceAdd,Int.reduceMul,Int.reduceBEq,Int.reduceBNe,Int.reduceGT,Int.reduceGE,Nat.reduceGT,Int.reduceToNat,Int.reduceNeg,Nat.reduceLeDiff,Nat.reduceBEq,Nat.reduceBneDiff,A.dev,c0,c1,A.n,c2,c3,A.seen]
  refine (qi5 E H1 e.seen h8).mono ?_
  rintro r H3 ⟨le3, rfl⟩
  have A3 := A.le h8 le3
  have hD : e.dev.toNat < e.seen.length := by omega
  have xD := A3.at' e.dev.toNat hD
  have q1 : (0 : Int) ≤ e.dev := by omega
  have q2 : e.dev < 8 := by omega
  have leH := Heap.q00 le1 le3
  by_cases c4 : vecG e.seen = true
  · by_cases c5 : e.seen[e.dev.toNat] = e.n - 1
    · have hn1 : 1 ≤ e.n := by omega
      have hn3 : e.n ≤ 1099511627776 := by omega
      have e5 : e.seen[e.dev.toNat]? = some (e.n - 1) := by rw [List.getElem?_eq_getElem hD, c5]
      have e0 : q43 e = (decide (0 ≤ e.time ∧ e.time ≤ 1099511627776) && qcp e.con && (decide (e.kind = 1) && (qcp e.fld && decide (e.val.length ≤ 200)) || decide (e.kind = 2) && (decide (e.fld = []) && decide (e.val = [])))) := by
        simp [q43, q1, q2, hn1, hn3, c4, e5]
      rw [e0]
      clear e0 e5
      have x1 := A.at' e.dev.toNat hD
      by_cases d1 : e.time < 0
      · have d1' : ¬ 0 ≤ e.time := by omega
        simp -implicitDefEqProofs only [zA,reduceIte,reduceCtorEq,Nat.reduceEqDiff,Nat.reduceAdd,Nat.reduceMul,Nat.reduceLT,Nat.reduceSub,Int.reduceLT,Int.reduceLE,Int.reduceEq,Int.reduceNe,Int.reduceSub,Int.reduceAdd,Int.reduceMul,Int.reduceBEq,Int.reduceBNe,Int.reduceGT,Int.reduceGE,Nat.reduceGT,Int.reduceToNat,Int.reduceNeg,Nat.reduceLeDiff,Nat.reduceBEq,Nat.reduceBneDiff,c4,A3.dev,A3.n,xD,q1,q2,w1,c5,bne_self_eq_false,A3.time,A.dev,A.n,A.time,x1,d1,d1',false_and,decide_false,Bool.false_and,implies_true,List.mem_cons,List.not_mem_nil,List.mem_singleton,or_false,forall_eq,forall_eq_or_imp,and_self]
        exact leH
      by_cases d2 : 1099511627776 < e.time
      · have d1' : ¬ (0 ≤ e.time ∧ e.time ≤ 1099511627776) := by omega
        simp -implicitDefEqProofs only [zA,reduceIte,reduceCtorEq,Nat.reduceEqDiff,Nat.reduceAdd,Nat.reduceMul,Nat.reduceLT,Nat.reduceSub,Int.reduceLT,Int.reduceLE,Int.reduceEq,Int.reduceNe,Int.reduceSub,Int.reduceAdd,Int.reduceMul,Int.reduceBEq,Int.reduceBNe,Int.reduceGT,Int.reduceGE,Nat.reduceGT,Int.reduceToNat,Int.reduceNeg,Nat.reduceLeDiff,Nat.reduceBEq,Nat.reduceBneDiff,c4,A3.dev,A3.n,xD,q1,q2,w1,c5,bne_self_eq_false,A3.time,A.dev,A.n,A.time,x1,d1,d2,d1',decide_false,Bool.false_and,implies_true,List.mem_cons,List.not_mem_nil,List.mem_singleton,or_false,forall_eq,forall_eq_or_imp,and_self]
        exact leH
      have d1' : 0 ≤ e.time ∧ e.time ≤ 1099511627776 := by omega
      simp -implicitDefEqProofs only [zA,reduceIte,reduceCtorEq,Nat.reduceEqDiff,Nat.reduceAdd,Nat.reduceMul,Nat.reduceLT,Nat.reduceSub,Int.reduceLT,Int.reduceLE,Int.reduceEq,Int.reduceNe,Int.reduceSub,Int.reduceAdd,Int.reduceMul,Int.reduceBEq,Int.reduceBNe,Int.reduceGT,Int.reduceGE,Nat.reduceGT,Int.reduceToNat,Int.reduceNeg,Nat.reduceLeDiff,Nat.reduceBEq,Nat.reduceBneDiff,c4,A3.dev,A3.n,xD,q1,q2,w1,c5,bne_self_eq_false,A3.time,A.dev,A.n,A.time,x1,d1,d2,A3.con,A.con,implies_true,List.mem_cons,List.not_mem_nil,List.mem_singleton,or_false,forall_eq,forall_eq_or_imp,and_self]
      refine (qgp E H3 e.con hc).mono ?_
      rintro r H4 ⟨rfl, rfl⟩
      cases d3 : qcp e.con with
      | false =>
        simp -implicitDefEqProofs only [zA,reduceIte,reduceCtorEq,Nat.reduceEqDiff,Nat.reduceAdd,Nat.reduceMul,Nat.reduceLT,Nat.reduceSub,Int.reduceLT,Int.reduceLE,Int.reduceEq,Int.reduceNe,Int.reduceSub,Int.reduceAdd,Int.reduceMul,Int.reduceBEq,Int.reduceBNe,Int.reduceGT,Int.reduceGE,Nat.reduceGT,Int.reduceToNat,Int.reduceNeg,Nat.reduceLeDiff,Nat.reduceBEq,Nat.reduceBneDiff,d1',decide_true,Bool.true_and,Bool.false_and]
        exact leH
      | true =>
        have ev := q93 e.val
        have vv : strV e.val = .string ⟨e.val.toArray⟩ := rfl
        have k3 := A3.val
        rw [vv] at k3
        have k1 := A.val
        rw [vv] at k1
        by_cases d4 : 200 < e.val.length
        · have d4' : (200 : Int) < e.val.length := by omega
          have hv : decide (e.val.length ≤ 200) = false := decide_eq_false (by omega)
          have hv2 : decide (e.val = []) = false := decide_eq_false (by intro h; rw [h] at d4; simp at d4)
          rw [hv, hv2]
          simp -implicitDefEqProofs only [zA,reduceIte,reduceCtorEq,Nat.reduceEqDiff,Nat.reduceAdd,Nat.reduceMul,Nat.reduceLT,Nat.reduceSub,Int.reduceLT,Int.reduceLE,Int.reduceEq,Int.reduceNe,Int.reduceSub,Int.reduceAdd,Int.reduceMul,Int.reduceBEq,Int.reduceBNe,Int.reduceGT,Int.reduceGE,Nat.reduceGT,Int.reduceToNat,Int.reduceNeg,Nat.reduceLeDiff,Nat.reduceBEq,Nat.reduceBneDiff,d1',decide_true,Bool.true_and,k3,k1,ev,d4',Bool.and_false,Bool.or_false,implies_true,List.mem_cons,List.not_mem_nil,List.mem_singleton,or_false,forall_eq,forall_eq_or_imp,and_self]
          exact leH
        · have d4' : ¬ (200 : Int) < e.val.length := by omega
          have hv : decide (e.val.length ≤ 200) = true := decide_eq_true (by omega)
          rw [hv, Bool.and_true]
          simp -implicitDefEqProofs only [zA,reduceIte,reduceCtorEq,Nat.reduceEqDiff,Nat.reduceAdd,Nat.reduceMul,Nat.reduceLT,Nat.reduceSub,Int.reduceLT,Int.reduceLE,Int.reduceEq,Int.reduceNe,Int.reduceSub,Int.reduceAdd,Int.reduceMul,Int.reduceBEq,Int.reduceBNe,Int.reduceGT,Int.reduceGE,Nat.reduceGT,Int.reduceToNat,Int.reduceNeg,Nat.reduceLeDiff,Nat.reduceBEq,Nat.reduceBneDiff,d1',decide_true,Bool.true_and,k3,k1,ev,d4',implies_true,List.mem_cons,List.not_mem_nil,List.mem_singleton,or_false,forall_eq,forall_eq_or_imp,and_self]
          unfold q6f
          by_cases d5 : e.kind = 2
          · have d6 : ¬ e.kind = 1 := by omega
            have b1 := qhr e.fld
            have b2 := qhr e.val
            generalize decide (e.fld = []) = p1 at b1 ⊢
            generalize decide (e.val = []) = p2 at b2 ⊢
            cases p1 with
            | true =>
              simp -implicitDefEqProofs only [zA,reduceIte,reduceCtorEq,Nat.reduceEqDiff,Nat.reduceAdd,Nat.reduceMul,Nat.reduceLT,Nat.reduceSub,Int.reduceLT,Int.reduceLE,Int.reduceEq,Int.reduceNe,Int.reduceSub,Int.reduceAdd,Int.reduceMul,Int.reduceBEq,Int.reduceBNe,Int.reduceGT,Int.reduceGE,Nat.reduceGT,Int.reduceToNat,Int.reduceNeg,Nat.reduceLeDiff,Nat.reduceBEq,Nat.reduceBneDiff,d5,d6,A3.kind,A3.fld,A3.val,b1,b2,Bool.true_and,Bool.false_and,decide_true]
              exact ⟨leH, rfl⟩
            | false =>
              simp -implicitDefEqProofs only [zA,reduceIte,reduceCtorEq,Nat.reduceEqDiff,Nat.reduceAdd,Nat.reduceMul,Nat.reduceLT,Nat.reduceSub,Int.reduceLT,Int.reduceLE,Int.reduceEq,Int.reduceNe,Int.reduceSub,Int.reduceAdd,Int.reduceMul,Int.reduceBEq,Int.reduceBNe,Int.reduceGT,Int.reduceGE,Nat.reduceGT,Int.reduceToNat,Int.reduceNeg,Nat.reduceLeDiff,Nat.reduceBEq,Nat.reduceBneDiff,d5,d6,A3.kind,A3.fld,b1,Bool.false_and,decide_false]
              exact ⟨leH, rfl⟩
          · by_cases d6 : e.kind = 1
            · simp -implicitDefEqProofs only [zA,reduceIte,reduceCtorEq,Nat.reduceEqDiff,Nat.reduceAdd,Nat.reduceMul,Nat.reduceLT,Nat.reduceSub,Int.reduceLT,Int.reduceLE,Int.reduceEq,Int.reduceNe,Int.reduceSub,Int.reduceAdd,Int.reduceMul,Int.reduceBEq,Int.reduceBNe,Int.reduceGT,Int.reduceGE,Nat.reduceGT,Int.reduceToNat,Int.reduceNeg,Nat.reduceLeDiff,Nat.reduceBEq,Nat.reduceBneDiff,d5,d6,A3.kind,A3.fld]
              refine (qgp E _ e.fld hf).mono ?_
              rintro r H5 ⟨rfl, rfl⟩
              simp -implicitDefEqProofs only [zA,reduceIte,reduceCtorEq,Nat.reduceEqDiff,Nat.reduceAdd,Nat.reduceMul,Nat.reduceLT,Nat.reduceSub,Int.reduceLT,Int.reduceLE,Int.reduceEq,Int.reduceNe,Int.reduceSub,Int.reduceAdd,Int.reduceMul,Int.reduceBEq,Int.reduceBNe,Int.reduceGT,Int.reduceGE,Nat.reduceGT,Int.reduceToNat,Int.reduceNeg,Nat.reduceLeDiff,Nat.reduceBEq,Nat.reduceBneDiff,d5,d6,decide_true,decide_false,Bool.true_and,Bool.false_and,Bool.or_false]
              exact leH
            · simp -implicitDefEqProofs only [zA,reduceIte,reduceCtorEq,Nat.reduceEqDiff,Nat.reduceAdd,Nat.reduceMul,Nat.reduceLT,Nat.reduceSub,Int.reduceLT,Int.reduceLE,Int.reduceEq,Int.reduceNe,Int.reduceSub,Int.reduceAdd,Int.reduceMul,Int.reduceBEq,Int.reduceBNe,Int.reduceGT,Int.reduceGE,Nat.reduceGT,Int.reduceToNat,Int.reduceNeg,Nat.reduceLeDiff,Nat.reduceBEq,Nat.reduceBneDiff,d5,d6,A3.kind,decide_true,decide_false,Bool.true_and,Bool.false_and,Bool.or_false]
              exact leH
    · have c5' : (e.seen[e.dev.toNat] != e.n - 1) = true := by simpa using c5
      have hf : q43 e = false := by
        have : ¬ e.seen[e.dev.toNat]? = some (e.n - 1) := by rw [List.getElem?_eq_getElem hD]; simpa using c5
        simp [q43, this]
      rw [hf]
      simp -implicitDefEqProofs only [zA,reduceIte,reduceCtorEq,Nat.reduceEqDiff,Nat.reduceAdd,Nat.reduceMul,Nat.reduceLT,Nat.reduceSub,Int.reduceLT,Int.reduceLE,Int.reduceEq,Int.reduceNe,Int.reduceSub,Int.reduceAdd,Int.reduceMul,Int.reduceBEq,Int.reduceBNe,Int.reduceGT,Int.reduceGE,Nat.reduceGT,Int.reduceToNat,Int.reduceNeg,Nat.reduceLeDiff,Nat.reduceBEq,Nat.reduceBneDiff,c4,A3.dev,A3.n,xD,q1,q2,w1,c5']
      exact leH
  · have c4' : vecG e.seen = false := by simpa using c4
    have hf : q43 e = false := by simp [q43, c4']
    rw [hf]
    simp -implicitDefEqProofs only [zA,reduceIte,reduceCtorEq,Nat.reduceEqDiff,Nat.reduceAdd,Nat.reduceMul,Nat.reduceLT,Nat.reduceSub,Int.reduceLT,Int.reduceLE,Int.reduceEq,Int.reduceNe,Int.reduceSub,Int.reduceAdd,Int.reduceMul,Int.reduceBEq,Int.reduceBNe,Int.reduceGT,Int.reduceGE,Nat.reduceGT,Int.reduceToNat,Int.reduceNeg,Nat.reduceLeDiff,Nat.reduceBEq,Nat.reduceBneDiff,c4']
    exact leH
end Go.Bb
namespace Go.Bb
set_option linter.unusedSimpArgs false
set_option linter.unusedVariables false
set_option maxRecDepth 20000
set_option maxHeartbeats 2000000
open Go.MapKept
theorem dot_eq {l m : List Ed} (hl : l.Pairwise q17) (hm : m.Pairwise q17) (h : ∀ x, x ∈ l ↔ x ∈ m) : l = m := by
  have h1 := q9s qbh (fun x y z => @q8l x y z) hm hl (fun e he => (h e).1 he)
  have h2 := q9s qbh (fun x y z => @q8l x y z) hl hm (fun e he => (h e).2 he)
  exact h1.eq_of_length (Nat.le_antisymm h1.length_le h2.length_le)
theorem qis {S : List Ed} (ok : BkS S) {k : Nat} {e : Ed} (h1 : ∀ x ∈ S.take k, q17 x e) (h2 : ∀ h : k < S.length, q17 e S[k]) : ∀ s ∈ S, ¬ qbk s e := by
  intro s hs
  obtain ⟨j, hj, rfl⟩ := List.getElem_of_mem hs
  by_cases hjk : j < k
  · have := h1 S[j] (List.mem_take_iff_getElem.2 ⟨j, by omega, rfl⟩)
    unfold q17 at this; unfold qbk; omega
  · have hk : k < S.length := by omega
    have := h2 hk
    have hd := ok.rise
    rw [List.pairwise_iff_getElem] at hd
    by_cases e2 : j = k
    · subst e2; unfold q17 at this; unfold qbk; omega
    · have h3 := hd k j hk hj (by omega)
      unfold q17 at this h3; unfold qbk; omega
theorem ins_at {S : List Ed} (ok : BkS S) {k : Nat} {e : Ed} (h1 : ∀ x ∈ S.take k, q17 x e) (h2 : ∀ h : k < S.length, q17 e S[k]) : insR q17 e S = S.take k ++ e :: S.drop k := by
  have hs := qis ok h1 h2
  refine dot_eq (qci (fun x y z => @q8l x y z) ok.rise fun x hx => ?_) (qed (fun x y z => @q8l x y z) ok.rise h1 h2) fun x => by rw [qab, qjy]
  have := hs x hx
  unfold qbk at this; unfold q17; omega
def AddQ (H : Heap) (w : Nat) (S : List Ed) (e : Ed) (v : Value) (H' : Heap) : Prop :=
  v = .int .i64 (addB S e).2 ∧ ((H.le H' ∧ (addB S e).1 = S) ∨ (∃ lv, H' w = some (.own 0 [lv] 1) ∧ Ow H H' 15 lv (addB S e).1.length ((addB S e).1.flatMap edC) ∧ Keep w H H'))
theorem qgq (E : EnvT tab) {H H1 : Heap} {w be : Nat} {base : Option Addr} {c : Nat} {S : List Ed} {e : Ed} (ok : BkS S) (le : H.le H1) (qw : H w = some (.own 0 [.slice base S.length c] 1)) (s : SlE H1 (.slice base S.length c) S) (h8 : e.seen.length = 8) (A : EdAt H1 be e)
    (hl : S.length < 500) {k : Nat} (hk : k ≤ S.length) (hadd : addB S e = (S.take k ++ e :: S.drop k, 0)) :
    wpA E.toEnv 119 q2u (qRet [.tmp 4] (AddQ H w S e)) (tl [(0, .pointer (some ⟨w, 0, none⟩)), (3, .pointer (some ⟨be, 0, none⟩)), (5, .int .i64 k), (97, .bool false)]) H1 := by
  have hcap := Sl.capge s
  have hk2 : (0 : Int) ≤ k := by omega
  have hkc : (k : Int) ≤ c := by omega
  have hkn : (k : Int) ≤ S.length := by omega
  have bh := qmb (n := S.length) (c := c) (k := .i64) hk2 hkc
  have bl := qma (n := S.length) (c := c) (k := .i64) hk2 hkn
  have sh := Sl.pre s hk
  have sp := Sl.post s hk
  rw [qk9 ok.h8] at sh
  rw [qka ok.h8] at sp
  have el := q1o h8
  have cw : q0u H1 ⟨w, 0, none⟩ = some (.slice base S.length c) := by rw [q0z (le _ _ qw) (by simp)]; rfl
  unfold q2u
  simp -implicitDefEqProofs only [zA,reduceIte,reduceCtorEq,Nat.reduceEqDiff,Nat.reduceAdd,Nat.reduceMul,Nat.reduceLT,Nat.reduceSub,Int.reduceLT,Int.reduceLE,Int.reduceEq,Int.reduceNe,Int.reduceSub,Int.reduceAdd,Int.reduceMul,Int.reduceBEq,Int.reduceBNe,Int.reduceGT,Int.reduceGE,Nat.reduceGT,Int.reduceToNat,Int.reduceNeg,Nat.reduceLeDiff,Nat.reduceBEq,Nat.reduceBneDiff,List.flatten_nil,List.replicate_zero,cw]
  intro b6 hb6
  have le6 := Heap.q0a (Heap.q04 H1) hb6 (.own 0 [] 0)
  try simp -implicitDefEqProofs only [zA,reduceIte,reduceCtorEq,Nat.reduceEqDiff,Nat.reduceAdd,Nat.reduceMul,Nat.reduceLT,Nat.reduceSub,Int.reduceLT,Int.reduceLE,Int.reduceEq,Int.reduceNe,Int.reduceSub,Int.reduceAdd,Int.reduceMul,Int.reduceBEq,Int.reduceBNe,Int.reduceGT,Int.reduceGE,Nat.reduceGT,Int.reduceToNat,Int.reduceNeg,Nat.reduceLeDiff,Nat.reduceBEq,Nat.reduceBneDiff,bh,cw,Int.toNat_natCast,Nat.sub_zero]
  have a0 : (if c = 0 then base else base.map (fun x => x.add 0)) = base := by
    split
    · rfl
    · cases base <;> simp [Addr.add]
  rw [a0]
  refine q1t (n := 0) (cells := []) (m := k) (news := (S.take k).flatMap edC) le6 (by omega) (Ow.new (c := 0) (sz := 0) (Heap.q04 _) hb6 rfl (by omega) (by omega)) (sh.le le6) (qho _) (by omega) (by omega) ?_
  intro v1 G1 o1 le7
  rw [Nat.zero_add, List.nil_append] at o1
  obtain ⟨vb1, vc1, rfl⟩ := Sl.shape o1.sl
  have cw1 := qfb le7 cw
  have A1 := A.le h8 le7
  have z1 := qj1
  have z2 := qht
  unfold Z15 at z1 z2
  simp -implicitDefEqProofs only [zA,reduceIte,reduceCtorEq,Nat.reduceEqDiff,Nat.reduceAdd,Nat.reduceMul,Nat.reduceLT,Nat.reduceSub,Int.reduceLT,Int.reduceLE,Int.reduceEq,Int.reduceNe,Int.reduceSub,Int.reduceAdd,Int.reduceMul,Int.reduceBEq,Int.reduceBNe,Int.reduceGT,Int.reduceGE,Nat.reduceGT,Int.reduceToNat,Int.reduceNeg,Nat.reduceLeDiff,Nat.reduceBEq,Nat.reduceBneDiff,z1,z2,List.append_nil,cw1,cw,A.all,A1.all,el,List.replicate_one,List.flatten_singleton,implies_true,List.mem_cons,List.not_mem_nil,List.mem_singleton,or_false,forall_eq,forall_eq_or_imp,and_self]
  intro b7 hb7
  have le8 := Heap.q0a (Heap.q04 G1) hb7 (.own 0 (edC e) 15)
  have sx : Sl (G1.set b7 (.own 0 (edC e) 15)) 15 (.slice (some ⟨b7, 0, none⟩) 1 1) 1 (edC e) := Sl.lit (by rw [el])
  refine q1t (m := 1) (Heap.q00 le7 le8) (by omega) (o1.le le8) sx (qd6 _) (by omega) (by omega) ?_
  intro v2 G2 o2 le9
  obtain ⟨vb2, vc2, rfl⟩ := Sl.shape o2.sl
  have cw2 := qfb le9 cw
  simp -implicitDefEqProofs only [zA,reduceIte,reduceCtorEq,Nat.reduceEqDiff,Nat.reduceAdd,Nat.reduceMul,Nat.reduceLT,Nat.reduceSub,Int.reduceLT,Int.reduceLE,Int.reduceEq,Int.reduceNe,Int.reduceSub,Int.reduceAdd,Int.reduceMul,Int.reduceBEq,Int.reduceBNe,Int.reduceGT,Int.reduceGE,Nat.reduceGT,Int.reduceToNat,Int.reduceNeg,Nat.reduceLeDiff,Nat.reduceBEq,Nat.reduceBneDiff,bl,cw,cw1,cw2,Int.toNat_natCast,implies_true,List.mem_cons,List.not_mem_nil,List.mem_singleton,or_false,forall_eq,forall_eq_or_imp,and_self]
  refine q1t (m := S.length - k) le9 (by omega) o2 (sp.le le9) (qho _) (by omega) (by omega) ?_
  intro v3 G3 o3 le10
  obtain ⟨vb3, vc3, rfl⟩ := Sl.shape o3.sl
  have q3 := le10 _ _ (le _ _ qw)
  have st : q4g G3 1 (.pointer (some ⟨w, 0, none⟩)) (.slice vb3 (k + 1 + (S.length - k)) vc3) = some (G3.set w (.own 0 [.slice vb3 (k + 1 + (S.length - k)) vc3] 1)) := qc5 q3 rfl (by simp) (by simp)
  simp -implicitDefEqProofs only [zA,reduceIte,reduceCtorEq,Nat.reduceEqDiff,Nat.reduceAdd,Nat.reduceMul,Nat.reduceLT,Nat.reduceSub,Int.reduceLT,Int.reduceLE,Int.reduceEq,Int.reduceNe,Int.reduceSub,Int.reduceAdd,Int.reduceMul,Int.reduceBEq,Int.reduceBNe,Int.reduceGT,Int.reduceGE,Nat.reduceGT,Int.reduceToNat,Int.reduceNeg,Nat.reduceLeDiff,Nat.reduceBEq,Nat.reduceBneDiff,st,implies_true]
  have e1 : (S.take k ++ e :: S.drop k).length = k + 1 + (S.length - k) := by
    rw [List.length_append, List.length_cons, List.length_take, List.length_drop, Nat.min_eq_left hk]; omega
  have e2 : (S.take k ++ e :: S.drop k).flatMap edC = (S.take k).flatMap edC ++ edC e ++ (S.drop k).flatMap edC := by simp
  refine ⟨by rw [hadd], .inr ⟨_, Heap.q03 _ _ _, ?_, ?_⟩⟩
  · rw [hadd]
    simp only
    rw [e1, e2]
    have o4 := o3.since le
    rcases o4 with s0 | ⟨b, o, c', sz, st', pre, rest, p1, p2, p3, p4, p5⟩
    · exact .inl s0
    · refine .inr ⟨b, o, c', sz, st', pre, rest, p1, p2, p3, ?_, p5⟩
      rw [Heap.q0x (by intro e; subst e; rw [qw] at p3; cases p3)]
      exact p4
  · intro c x hx hc
    rw [Heap.q0x hc]
    exact le10 _ _ (le _ _ hx)
theorem qgr (E : EnvT tab) {H H1 : Heap} {w be : Nat} {base : Option Addr} {c : Nat} {S : List Ed} {e : Ed} (ok : BkS S) (le : H.le H1) (qw : H w = some (.own 0 [.slice base S.length c] 1)) (s : SlE H1 (.slice base S.length c) S) (h8 : e.seen.length = 8) (A : EdAt H1 be e)
    (hg : q43 e = true) {k : Nat} (hk : k < S.length) (hlt : ∀ y ∈ S.take k, q17 y e) (hge : ¬ q17 S[k] e) :
    wpA E.toEnv 119 q1l (qRet [.tmp 4] (AddQ H w S e)) (tl [(0, .pointer (some ⟨w, 0, none⟩)), (3, .pointer (some ⟨be, 0, none⟩)), (5, .int .i64 k), (60, .bool false)]) H1 := by
  have hS := ok.len
  have hk1 : (k : Int) < S.length := by omega
  have hk2 : (0 : Int) ≤ k := by omega
  have cw : q0u H1 ⟨w, 0, none⟩ = some (.slice base S.length c) := by rw [q0z (le _ _ qw) (by simp)]; rfl
  have s0 := s
  obtain ⟨x1, o1, d1, e1, _, k1⟩ := s.edAt ok.h8 k hk
  simp only [Value.slice.injEq, true_and] at e1
  obtain ⟨rfl, rfl⟩ := e1
  have hx8 := ok.h8 S[k] (List.getElem_mem hk)
  have l1 := k1 _ (Heap.q04 _)
  have ld := qg6 hx8 l1
  have hle := qgv S[k].dev S[k].n e.dev e.n
  have lk : ∀ a b : Int, q05 [some IntKind.i64, some IntKind.i64] [Value.int .i64 a, .int .i64 b] = true := fun _ _ => rfl
  unfold q1l
  by_cases c1 : S[k].dev = e.dev ∧ S[k].n = e.n
  · rw [decide_eq_true c1] at hle
    have hold := addB_old ok hg (List.getElem_mem hk) c1
    have z1 := qas S[k] hx8
    have z2 := qas e h8
    have z3 := qeq S[k] e hx8 h8
    simp -implicitDefEqProofs only [zA,reduceIte,reduceCtorEq,Nat.reduceEqDiff,Nat.reduceAdd,Nat.reduceMul,Nat.reduceLT,Nat.reduceSub,Int.reduceLT,Int.reduceLE,Int.reduceEq,Int.reduceNe,Int.reduceSub,Int.reduceAdd,Int.reduceMul,Int.reduceBEq,Int.reduceBNe,Int.reduceGT,Int.reduceGE,Nat.reduceGT,Int.reduceToNat,Int.reduceNeg,Nat.reduceLeDiff,Nat.reduceBEq,Nat.reduceBneDiff,cw,hk1,hk2,Int.toNat_natCast,ld,A.dot,lk,hle]
    unfold q1r
    by_cases c2 : S[k] = e
    · rw [if_pos c2] at hold
      have z3' : q0b (edC S[k]) (edC e) = true := by rw [z3]; simp [c2]
      simp -implicitDefEqProofs only [zA,reduceIte,reduceCtorEq,Nat.reduceEqDiff,Nat.reduceAdd,Nat.reduceMul,Nat.reduceLT,Nat.reduceSub,Int.reduceLT,Int.reduceLE,Int.reduceEq,Int.reduceNe,Int.reduceSub,Int.reduceAdd,Int.reduceMul,Int.reduceBEq,Int.reduceBNe,Int.reduceGT,Int.reduceGE,Nat.reduceGT,Int.reduceToNat,Int.reduceNeg,Nat.reduceLeDiff,Nat.reduceBEq,Nat.reduceBneDiff,cw,hk1,hk2,Int.toNat_natCast,l1,A.all,z1,z2,z3']
      exact ⟨by rw [hold], .inl ⟨le, by rw [hold]⟩⟩
    · rw [if_neg c2] at hold
      have z3' : q0b (edC S[k]) (edC e) = false := by rw [z3]; simp [c2]
      simp -implicitDefEqProofs only [zA,reduceIte,reduceCtorEq,Nat.reduceEqDiff,Nat.reduceAdd,Nat.reduceMul,Nat.reduceLT,Nat.reduceSub,Int.reduceLT,Int.reduceLE,Int.reduceEq,Int.reduceNe,Int.reduceSub,Int.reduceAdd,Int.reduceMul,Int.reduceBEq,Int.reduceBNe,Int.reduceGT,Int.reduceGE,Nat.reduceGT,Int.reduceToNat,Int.reduceNeg,Nat.reduceLeDiff,Nat.reduceBEq,Nat.reduceBneDiff,cw,hk1,hk2,Int.toNat_natCast,l1,A.all,z1,z2,z3']
      exact ⟨by rw [hold], .inl ⟨le, by rw [hold]⟩⟩
  · rw [decide_eq_false c1] at hle
    have h2 : ∀ h : k < S.length, q17 e S[k] := fun _ => by unfold q17 at hge ⊢; omega
    have hn : addB S e = (if 500 ≤ S.length then (S, 2) else (S.take k ++ e :: S.drop k, 0)) := by
      have := qis ok hlt h2
      rw [← ins_at ok hlt h2]
      unfold addB
      rw [if_pos hg, q9j.2 this]
    simp -implicitDefEqProofs only [zA,reduceIte,reduceCtorEq,Nat.reduceEqDiff,Nat.reduceAdd,Nat.reduceMul,Nat.reduceLT,Nat.reduceSub,Int.reduceLT,Int.reduceLE,Int.reduceEq,Int.reduceNe,Int.reduceSub,Int.reduceAdd,Int.reduceMul,Int.reduceBEq,Int.reduceBNe,Int.reduceGT,Int.reduceGE,Nat.reduceGT,Int.reduceToNat,Int.reduceNeg,Nat.reduceLeDiff,Nat.reduceBEq,Nat.reduceBneDiff,cw,hk1,hk2,Int.toNat_natCast,ld,A.dot,lk,hle]
    unfold q1r
    simp -implicitDefEqProofs only [zA,reduceIte,reduceCtorEq,Nat.reduceEqDiff,Nat.reduceAdd,Nat.reduceMul,Nat.reduceLT,Nat.reduceSub,Int.reduceLT,Int.reduceLE,Int.reduceEq,Int.reduceNe,Int.reduceSub,Int.reduceAdd,Int.reduceMul,Int.reduceBEq,Int.reduceBNe,Int.reduceGT,Int.reduceGE,Nat.reduceGT,Int.reduceToNat,Int.reduceNeg,Nat.reduceLeDiff,Nat.reduceBEq,Nat.reduceBneDiff]
    unfold q2v
    by_cases g5 : 500 ≤ S.length
    · have g5' : (500 : Int) ≤ S.length := by omega
      rw [if_pos g5] at hn
      simp -implicitDefEqProofs only [zA,reduceIte,reduceCtorEq,Nat.reduceEqDiff,Nat.reduceAdd,Nat.reduceMul,Nat.reduceLT,Nat.reduceSub,Int.reduceLT,Int.reduceLE,Int.reduceEq,Int.reduceNe,Int.reduceSub,Int.reduceAdd,Int.reduceMul,Int.reduceBEq,Int.reduceBNe,Int.reduceGT,Int.reduceGE,Nat.reduceGT,Int.reduceToNat,Int.reduceNeg,Nat.reduceLeDiff,Nat.reduceBEq,Nat.reduceBneDiff,cw,g5']
      exact ⟨by rw [hn], .inl ⟨le, by rw [hn]⟩⟩
    · have g5' : ¬ (500 : Int) ≤ S.length := by omega
      rw [if_neg g5] at hn
      simp -implicitDefEqProofs only [zA,reduceIte,reduceCtorEq,Nat.reduceEqDiff,Nat.reduceAdd,Nat.reduceMul,Nat.reduceLT,Nat.reduceSub,Int.reduceLT,Int.reduceLE,Int.reduceEq,Int.reduceNe,Int.reduceSub,Int.reduceAdd,Int.reduceMul,Int.reduceBEq,Int.reduceBNe,Int.reduceGT,Int.reduceGE,Nat.reduceGT,Int.reduceToNat,Int.reduceNeg,Nat.reduceLeDiff,Nat.reduceBEq,Nat.reduceBneDiff,cw,g5']
      exact qgq E ok le qw s0 h8 A (by omega) (by omega) hn
theorem qlv (E : EnvT tab) {H : Heap} {w : Nat} {S : List Ed} (ok : BkS S) (B : WB H w S) (e : Ed) (h8 : e.seen.length = 8) (hc : e.con.length ≤ 9000000000000000000) (hf : e.fld.length ≤ 9000000000000000000) (hn : -9223372036854775808 ≤ e.n) (hn2 : e.n ≤ 9223372036854775807) :
    ACallN E.toEnv qcd [.pointer (some ⟨w, 0, none⟩), edV e] H (AddQ H w S e) := by
  obtain ⟨lv, qw, sw⟩ := B
  obtain ⟨base, c, rfl⟩ := sw.shape
  have hS8 := ok.h8
  have hS := ok.len
  have el := q1o h8
  refine q1i q56 q27 rfl rfl (q01 ?_)
  unfold q27 edV
  simp -implicitDefEqProofs only [zA,reduceIte,reduceCtorEq,Nat.reduceEqDiff,Nat.reduceAdd,Nat.reduceMul,Nat.reduceLT,Nat.reduceSub,Int.reduceLT,Int.reduceLE,Int.reduceEq,Int.reduceNe,Int.reduceSub,Int.reduceAdd,Int.reduceMul,Int.reduceBEq,Int.reduceBNe,Int.reduceGT,Int.reduceGE,Nat.reduceGT,Int.reduceToNat,Int.reduceNeg,Nat.reduceLeDiff,Nat.reduceBEq,Nat.reduceBneDiff]
  intro be hbe
  try simp -implicitDefEqProofs only [zA,reduceIte,reduceCtorEq,Nat.reduceEqDiff,Nat.reduceAdd,Nat.reduceMul,Nat.reduceLT,Nat.reduceSub,Int.reduceLT,Int.reduceLE,Int.reduceEq,Int.reduceNe,Int.reduceSub,Int.reduceAdd,Int.reduceMul,Int.reduceBEq,Int.reduceBNe,Int.reduceGT,Int.reduceGE,Nat.reduceGT,Int.reduceToNat,Int.reduceNeg,Nat.reduceLeDiff,Nat.reduceBEq,Nat.reduceBneDiff]
  rw [el]
  have le00 := Heap.q0a (Heap.q04 H) hbe (.own 0 (edC e) 15)
  have A00 : EdAt (H.set be (.own 0 (edC e) 15)) be e := EdAt.of (Heap.q03 _ _ _) h8
  generalize (H.set be (.own 0 (edC e) 15)) = H00 at le00 A00 ⊢
  try simp -implicitDefEqProofs only [zA,reduceIte,reduceCtorEq,Nat.reduceEqDiff,Nat.reduceAdd,Nat.reduceMul,Nat.reduceLT,Nat.reduceSub,Int.reduceLT,Int.reduceLE,Int.reduceEq,Int.reduceNe,Int.reduceSub,Int.reduceAdd,Int.reduceMul,Int.reduceBEq,Int.reduceBNe,Int.reduceGT,Int.reduceGE,Nat.reduceGT,Int.reduceToNat,Int.reduceNeg,Nat.reduceLeDiff,Nat.reduceBEq,Nat.reduceBneDiff,A00.all]
  refine (qhc E H00 e h8 hc hf hn hn2).mono ?_
  rintro r H1 ⟨le1, rfl⟩
  have le := Heap.q00 le00 le1
  have A := A00.le h8 le1
  have s1 := sw.le le
  have cw : q0u H1 ⟨w, 0, none⟩ = some (.slice base S.length c) := by rw [q0z (le _ _ qw) (by simp)]; rfl
  cases hg : q43 e with
  | false =>
    simp -implicitDefEqProofs only [zA,reduceIte,reduceCtorEq,Nat.reduceEqDiff,Nat.reduceAdd,Nat.reduceMul,Nat.reduceLT,Nat.reduceSub,Int.reduceLT,Int.reduceLE,Int.reduceEq,Int.reduceNe,Int.reduceSub,Int.reduceAdd,Int.reduceMul,Int.reduceBEq,Int.reduceBNe,Int.reduceGT,Int.reduceGE,Nat.reduceGT,Int.reduceToNat,Int.reduceNeg,Nat.reduceLeDiff,Nat.reduceBEq,Nat.reduceBneDiff]
    exact ⟨by rw [qn1 hg], .inl ⟨le, by rw [qn1 hg]⟩⟩
  | true =>
  simp -implicitDefEqProofs only [zA,reduceIte,reduceCtorEq,Nat.reduceEqDiff,Nat.reduceAdd,Nat.reduceMul,Nat.reduceLT,Nat.reduceSub,Int.reduceLT,Int.reduceLE,Int.reduceEq,Int.reduceNe,Int.reduceSub,Int.reduceAdd,Int.reduceMul,Int.reduceBEq,Int.reduceBNe,Int.reduceGT,Int.reduceGE,Nat.reduceGT,Int.reduceToNat,Int.reduceNeg,Nat.reduceLeDiff,Nat.reduceBEq,Nat.reduceBneDiff]
  unfold q6y
  simp -implicitDefEqProofs only [zA,reduceIte,reduceCtorEq,Nat.reduceEqDiff,Nat.reduceAdd,Nat.reduceMul,Nat.reduceLT,Nat.reduceSub,Int.reduceLT,Int.reduceLE,Int.reduceEq,Int.reduceNe,Int.reduceSub,Int.reduceAdd,Int.reduceMul,Int.reduceBEq,Int.reduceBNe,Int.reduceGT,Int.reduceGE,Nat.reduceGT,Int.reduceToNat,Int.reduceNeg,Nat.reduceLeDiff,Nat.reduceBEq,Nat.reduceBneDiff]
  refine q0s (fun m t G => G = H1 ∧ ∃ k : Nat, t = tl [(0, .pointer (some ⟨w, 0, none⟩)), (3, .pointer (some ⟨be, 0, none⟩)), (5, .int .i64 k)] ∧ k ≤ S.length ∧ m = S.length - k ∧ ∀ y ∈ S.take k, q17 y e) S.length
    ⟨rfl, 0, rfl, by omega, by omega, by simp⟩ ?_
  rintro m t G ⟨rfl, k, rfl, hk, rfl, hlt⟩
  have new : (∀ h : k < S.length, q17 e S[k]) → addB S e = (if 500 ≤ S.length then (S, 2) else (S.take k ++ e :: S.drop k, 0)) := fun h2 => by
    have := qis ok hlt h2
    rw [← ins_at ok hlt h2]
    unfold addB
    rw [if_pos hg, q9j.2 this]
  by_cases hkl : k < S.length
  · have hk1 : (k : Int) < S.length := by omega
    have hk2 : (0 : Int) ≤ k := by omega
    have w1 : IntKind.i64.wrap ((k : Int) + 1) = ((k + 1 : Nat) : Int) := q9r (by omega)
    obtain ⟨x1, o1, d1, e1, _, k1⟩ := s1.edAt hS8 k hkl
    simp only [Value.slice.injEq, true_and] at e1
    obtain ⟨rfl, rfl⟩ := e1
    have hx8 := hS8 S[k] (List.getElem_mem hkl)
    have l1 := k1 _ (Heap.q04 _)
    obtain ⟨y0, y1, y10, y11, y12, y13, y14⟩ := qfh hx8 l1
    have ld := qg6 hx8 l1
    have et : S.take (k + 1) = S.take k ++ [S[k]] := List.take_succ_eq_append_getElem hkl
    have step : q17 S[k] e → ∀ y ∈ S.take (k + 1), q17 y e := fun h y hy => by
      rw [et] at hy
      rcases List.mem_append.1 hy with h' | h'
      · exact hlt y h'
      · rw [List.mem_singleton.1 h']; exact h
    by_cases c1 : S[k].dev < e.dev
    · simp -implicitDefEqProofs only [zA,reduceIte,reduceCtorEq,Nat.reduceEqDiff,Nat.reduceAdd,Nat.reduceMul,Nat.reduceLT,Nat.reduceSub,Int.reduceLT,Int.reduceLE,Int.reduceEq,Int.reduceNe,Int.reduceSub,Int.reduceAdd,Int.reduceMul,Int.reduceBEq,Int.reduceBNe,Int.reduceGT,Int.reduceGE,Nat.reduceGT,Int.reduceToNat,Int.reduceNeg,Nat.reduceLeDiff,Nat.reduceBEq,Nat.reduceBneDiff,cw,hk1,hk2,Int.toNat_natCast,y0,y1,A.dev,A.n,c1,w1]
      refine ⟨_, ?_, k + 1, rfl, by omega, rfl, step (.inl c1)⟩
      omega
    by_cases c2 : S[k].dev = e.dev
    · by_cases c3 : S[k].n < e.n
      · have c2' : (S[k].dev = e.dev) = True := eq_true c2
        have c1' : (S[k].dev < e.dev) = False := eq_false c1
        simp -implicitDefEqProofs only [zA,reduceIte,reduceCtorEq,Nat.reduceEqDiff,Nat.reduceAdd,Nat.reduceMul,Nat.reduceLT,Nat.reduceSub,Int.reduceLT,Int.reduceLE,Int.reduceEq,Int.reduceNe,Int.reduceSub,Int.reduceAdd,Int.reduceMul,Int.reduceBEq,Int.reduceBNe,Int.reduceGT,Int.reduceGE,Nat.reduceGT,Int.reduceToNat,Int.reduceNeg,Nat.reduceLeDiff,Nat.reduceBEq,Nat.reduceBneDiff,cw,hk1,hk2,Int.toNat_natCast,y0,y1,A.dev,A.n,c1',c2',c3,w1]
        refine ⟨_, ?_, k + 1, rfl, by omega, rfl, step (.inr ⟨c2, c3⟩)⟩
        omega
      · have c2' : (S[k].dev = e.dev) = True := eq_true c2
        have c1' : (S[k].dev < e.dev) = False := eq_false c1
        simp -implicitDefEqProofs only [zA,reduceIte,reduceCtorEq,Nat.reduceEqDiff,Nat.reduceAdd,Nat.reduceMul,Nat.reduceLT,Nat.reduceSub,Int.reduceLT,Int.reduceLE,Int.reduceEq,Int.reduceNe,Int.reduceSub,Int.reduceAdd,Int.reduceMul,Int.reduceBEq,Int.reduceBNe,Int.reduceGT,Int.reduceGE,Nat.reduceGT,Int.reduceToNat,Int.reduceNeg,Nat.reduceLeDiff,Nat.reduceBEq,Nat.reduceBneDiff,cw,hk1,hk2,Int.toNat_natCast,y0,y1,A.dev,A.n,c1',c2',c3]
        exact qgr E ok le qw s1 h8 A hg hkl hlt (by unfold q17; omega)
    · have c2' : (S[k].dev = e.dev) = False := eq_false c2
      have c1' : (S[k].dev < e.dev) = False := eq_false c1
      simp -implicitDefEqProofs only [zA,reduceIte,reduceCtorEq,Nat.reduceEqDiff,Nat.reduceAdd,Nat.reduceMul,Nat.reduceLT,Nat.reduceSub,Int.reduceLT,Int.reduceLE,Int.reduceEq,Int.reduceNe,Int.reduceSub,Int.reduceAdd,Int.reduceMul,Int.reduceBEq,Int.reduceBNe,Int.reduceGT,Int.reduceGE,Nat.reduceGT,Int.reduceToNat,Int.reduceNeg,Nat.reduceLeDiff,Nat.reduceBEq,Nat.reduceBneDiff,cw,hk1,hk2,Int.toNat_natCast,y0,y1,A.dev,A.n,c1',c2']
      exact qgr E ok le qw s1 h8 A hg hkl hlt (by unfold q17; omega)
  · have hk1 : ¬ (k : Int) < S.length := by omega
    have hn := new fun h => absurd h hkl
    simp -implicitDefEqProofs only [zA,reduceIte,reduceCtorEq,Nat.reduceEqDiff,Nat.reduceAdd,Nat.reduceMul,Nat.reduceLT,Nat.reduceSub,Int.reduceLT,Int.reduceLE,Int.reduceEq,Int.reduceNe,Int.reduceSub,Int.reduceAdd,Int.reduceMul,Int.reduceBEq,Int.reduceBNe,Int.reduceGT,Int.reduceGE,Nat.reduceGT,Int.reduceToNat,Int.reduceNeg,Nat.reduceLeDiff,Nat.reduceBEq,Nat.reduceBneDiff,cw,hk1]
    unfold q1l
    simp -implicitDefEqProofs only [zA,reduceIte,reduceCtorEq,Nat.reduceEqDiff,Nat.reduceAdd,Nat.reduceMul,Nat.reduceLT,Nat.reduceSub,Int.reduceLT,Int.reduceLE,Int.reduceEq,Int.reduceNe,Int.reduceSub,Int.reduceAdd,Int.reduceMul,Int.reduceBEq,Int.reduceBNe,Int.reduceGT,Int.reduceGE,Nat.reduceGT,Int.reduceToNat,Int.reduceNeg,Nat.reduceLeDiff,Nat.reduceBEq,Nat.reduceBneDiff,cw,hk1]
    unfold q1r
    simp -implicitDefEqProofs only [zA,reduceIte,reduceCtorEq,Nat.reduceEqDiff,Nat.reduceAdd,Nat.reduceMul,Nat.reduceLT,Nat.reduceSub,Int.reduceLT,Int.reduceLE,Int.reduceEq,Int.reduceNe,Int.reduceSub,Int.reduceAdd,Int.reduceMul,Int.reduceBEq,Int.reduceBNe,Int.reduceGT,Int.reduceGE,Nat.reduceGT,Int.reduceToNat,Int.reduceNeg,Nat.reduceLeDiff,Nat.reduceBEq,Nat.reduceBneDiff]
    unfold q2v
    by_cases g5 : 500 ≤ S.length
    · have g5' : (500 : Int) ≤ S.length := by omega
      rw [if_pos g5] at hn
      simp -implicitDefEqProofs only [zA,reduceIte,reduceCtorEq,Nat.reduceEqDiff,Nat.reduceAdd,Nat.reduceMul,Nat.reduceLT,Nat.reduceSub,Int.reduceLT,Int.reduceLE,Int.reduceEq,Int.reduceNe,Int.reduceSub,Int.reduceAdd,Int.reduceMul,Int.reduceBEq,Int.reduceBNe,Int.reduceGT,Int.reduceGE,Nat.reduceGT,Int.reduceToNat,Int.reduceNeg,Nat.reduceLeDiff,Nat.reduceBEq,Nat.reduceBneDiff,cw,g5']
      exact ⟨by rw [hn], .inl ⟨le, by rw [hn]⟩⟩
    · have g5' : ¬ (500 : Int) ≤ S.length := by omega
      rw [if_neg g5] at hn
      simp -implicitDefEqProofs only [zA,reduceIte,reduceCtorEq,Nat.reduceEqDiff,Nat.reduceAdd,Nat.reduceMul,Nat.reduceLT,Nat.reduceSub,Int.reduceLT,Int.reduceLE,Int.reduceEq,Int.reduceNe,Int.reduceSub,Int.reduceAdd,Int.reduceMul,Int.reduceBEq,Int.reduceBNe,Int.reduceGT,Int.reduceGE,Nat.reduceGT,Int.reduceToNat,Int.reduceNeg,Nat.reduceLeDiff,Nat.reduceBEq,Nat.reduceBneDiff,cw,g5']
      exact qgq E ok le qw s1 h8 A (by omega) hk hn
end Go.Bb
namespace Go.Bb
set_option linter.unusedSimpArgs false
set_option linter.unusedVariables false
set_option maxRecDepth 20000
set_option maxHeartbeats 2000000
open Go.MapKept
theorem AddQ.wx {r : Nat} {H H' : Heap} {w : Nat} {S : List Ed} {e : Ed} {v : Value} (X : WX r H w S) (hr : H r ≠ none) (Q : AddQ H w S e v H') : WX r H' w (addB S e).1 ∧ Keep w H H' ∧ v = .int .i64 (addB S e).2 := by
  obtain ⟨h1, ⟨le, h2⟩ | ⟨lv, q, o, k⟩⟩ := Q
  · rw [h2]; exact ⟨X.le le, Keep.qnq le, h1⟩
  · exact ⟨⟨X.ne, lv, q, o.offR hr⟩, k, h1⟩
theorem qle (S : List Ed) (con : Str) : (qd5 S con).length ≤ S.length := by
  have h1 := q7c S
  have h2 := Lib.compact_length_le (q9l (((q7z S).filter fun e => decide (e.con = con)).map (·.fld)))
  have h3 := List.length_filter_le (fun e : Ed => decide (e.con = con)) (q7z S)
  unfold qd5 qjr
  rw [qan, List.length_map] at h2
  omega
def NextQ (S : List Ed) (dev : Int) (x : Value) : Prop :=
  (0 ≤ dev ∧ dev < 8 → ∃ v k : _, VecOf S v ∧ v[dev.toNat]? = some k ∧ x = .tuple #[dotK dev (k + 1), .agg (v.map (.int .i64)).toArray]) ∧ (¬ (0 ≤ dev ∧ dev < 8) → x = .tuple #[dotK 0 0, .agg ((List.replicate 8 (0 : Int)).map (.int .i64)).toArray])
theorem qoi {S : List Ed} {dev : Int} {x : Value} (h1 : NextQ S dev x) :
    ∃ (d n : Int) (v : List Int), v.length = 8 ∧ x = .tuple #[dotK d n, .agg (v.map (.int .i64)).toArray] ∧ ∀ y, NextQ S dev y → y = .tuple #[dotK d n, .agg (v.map (.int .i64)).toArray] := by
  by_cases g : 0 ≤ dev ∧ dev < 8
  · obtain ⟨v, k, hv, hk, e1⟩ := h1.1 g
    refine ⟨_, _, v, hv.1, e1, fun y h2 => ?_⟩
    obtain ⟨v', k', hv', hk', e2⟩ := h2.1 g
    have e := hv.eq hv'
    subst e
    rw [hk] at hk'
    simp only [Option.some.injEq] at hk'
    subst hk'
    exact e2
  · exact ⟨_, _, _, by simp, h1.2 g, fun y h2 => h2.2 g⟩
theorem qc2 (E : EnvT tab) (K : BkOk E) (W : World) {v0 v1 v2 v3 : Value} (s0 : Shp.ok W (.slice 15 edShp) v0) (s1 : Shp.ok W .str v1) (s2 : Shp.ok W .str v2) (s3 : Shp.ok W (.int .i64) v3) :
    ACallN E.toEnv qbu [v0, v1, v2, v3] (qcv W) fun v _ => v = .bool true := by
  obtain ⟨L, sL, hL, aL⟩ := ok_eds s0
  obtain ⟨con, rfl, hcon⟩ := qog s1
  obtain ⟨fld, rfl, hfld⟩ := qog s2
  obtain ⟨dev, rfl, hd1, hd2⟩ := Shp.ok_int s3
  have hL8 : ∀ e ∈ L, e.seen.length = 8 := fun e he => (aL e he).h8
  generalize qcv W = H at sL
  obtain ⟨base, c, rfl⟩ := sL.shape
  have vc : strV con = .string ⟨con.toArray⟩ := rfl
  have vf : strV fld = .string ⟨fld.toArray⟩ := rfl
  have zc := q93 con
  have zf := q93 fld
  refine q1i q4p q1x rfl rfl (q01 ?_)
  unfold q1x
  simp -implicitDefEqProofs only [zA,reduceIte,reduceCtorEq,Nat.reduceEqDiff,Nat.reduceAdd,Nat.reduceMul,Nat.reduceLT,Nat.reduceSub,Int.reduceLT,Int.reduceLE,Int.reduceEq,Int.reduceNe,Int.reduceSub,Int.reduceAdd,Int.reduceMul,Int.reduceBEq,Int.reduceBNe,Int.reduceGT,Int.reduceGE,Nat.reduceGT,Int.reduceToNat,Int.reduceNeg,Nat.reduceLeDiff,Nat.reduceBEq,Nat.reduceBneDiff]
  refine (qk3 E K H).mono ?_
  rintro v H0 ⟨le0, rfl⟩
  by_cases g1 : (40 : Int) < L.length
  · simp -implicitDefEqProofs only [zA,reduceIte,reduceCtorEq,Nat.reduceEqDiff,Nat.reduceAdd,Nat.reduceMul,Nat.reduceLT,Nat.reduceSub,Int.reduceLT,Int.reduceLE,Int.reduceEq,Int.reduceNe,Int.reduceSub,Int.reduceAdd,Int.reduceMul,Int.reduceBEq,Int.reduceBNe,Int.reduceGT,Int.reduceGE,Nat.reduceGT,Int.reduceToNat,Int.reduceNeg,Nat.reduceLeDiff,Nat.reduceBEq,Nat.reduceBneDiff,g1]
  by_cases g2 : (60 : Int) < con.length
  · simp -implicitDefEqProofs only [zA,reduceIte,reduceCtorEq,Nat.reduceEqDiff,Nat.reduceAdd,Nat.reduceMul,Nat.reduceLT,Nat.reduceSub,Int.reduceLT,Int.reduceLE,Int.reduceEq,Int.reduceNe,Int.reduceSub,Int.reduceAdd,Int.reduceMul,Int.reduceBEq,Int.reduceBNe,Int.reduceGT,Int.reduceGE,Nat.reduceGT,Int.reduceToNat,Int.reduceNeg,Nat.reduceLeDiff,Nat.reduceBEq,Nat.reduceBneDiff,g1,vc,zc,g2]
  by_cases g3 : (60 : Int) < fld.length
  · simp -implicitDefEqProofs only [zA,reduceIte,reduceCtorEq,Nat.reduceEqDiff,Nat.reduceAdd,Nat.reduceMul,Nat.reduceLT,Nat.reduceSub,Int.reduceLT,Int.reduceLE,Int.reduceEq,Int.reduceNe,Int.reduceSub,Int.reduceAdd,Int.reduceMul,Int.reduceBEq,Int.reduceBNe,Int.reduceGT,Int.reduceGE,Nat.reduceGT,Int.reduceToNat,Int.reduceNeg,Nat.reduceLeDiff,Nat.reduceBEq,Nat.reduceBneDiff,g1,vc,zc,g2,vf,zf,g3]
  simp -implicitDefEqProofs only [zA,reduceIte,reduceCtorEq,Nat.reduceEqDiff,Nat.reduceAdd,Nat.reduceMul,Nat.reduceLT,Nat.reduceSub,Int.reduceLT,Int.reduceLE,Int.reduceEq,Int.reduceNe,Int.reduceSub,Int.reduceAdd,Int.reduceMul,Int.reduceBEq,Int.reduceBNe,Int.reduceGT,Int.reduceGE,Nat.reduceGT,Int.reduceToNat,Int.reduceNeg,Nat.reduceLeDiff,Nat.reduceBEq,Nat.reduceBneDiff,g1,vc,zc,g2,vf,zf,g3]
  rw [← vc, ← vf]
  unfold q61
  simp -implicitDefEqProofs only [zA,reduceIte,reduceCtorEq,Nat.reduceEqDiff,Nat.reduceAdd,Nat.reduceMul,Nat.reduceLT,Nat.reduceSub,Int.reduceLT,Int.reduceLE,Int.reduceEq,Int.reduceNe,Int.reduceSub,Int.reduceAdd,Int.reduceMul,Int.reduceBEq,Int.reduceBNe,Int.reduceGT,Int.reduceGE,Nat.reduceGT,Int.reduceToNat,Int.reduceNeg,Nat.reduceLeDiff,Nat.reduceBEq,Nat.reduceBneDiff]
  refine (qjp E H0).mono ?_
  rintro v H1 ⟨le1, ba, ra, rfl, nba, nra, A1⟩
  simp -implicitDefEqProofs only [zA,reduceIte,reduceCtorEq,Nat.reduceEqDiff,Nat.reduceAdd,Nat.reduceMul,Nat.reduceLT,Nat.reduceSub,Int.reduceLT,Int.reduceLE,Int.reduceEq,Int.reduceNe,Int.reduceSub,Int.reduceAdd,Int.reduceMul,Int.reduceBEq,Int.reduceBNe,Int.reduceGT,Int.reduceGE,Nat.reduceGT,Int.reduceToNat,Int.reduceNeg,Nat.reduceLeDiff,Nat.reduceBEq,Nat.reduceBneDiff]
  intro w hw
  try simp -implicitDefEqProofs only [zA,reduceIte,reduceCtorEq,Nat.reduceEqDiff,Nat.reduceAdd,Nat.reduceMul,Nat.reduceLT,Nat.reduceSub,Int.reduceLT,Int.reduceLE,Int.reduceEq,Int.reduceNe,Int.reduceSub,Int.reduceAdd,Int.reduceMul,Int.reduceBEq,Int.reduceBNe,Int.reduceGT,Int.reduceGE,Nat.reduceGT,Int.reduceToNat,Int.reduceNeg,Nat.reduceLeDiff,Nat.reduceBEq,Nat.reduceBneDiff]
  have dw := A1.apart hw
  have leH := Heap.q00 le0 le1
  have fra : H ra = none := Heap.q4q le0 nra
  have fw : H w = none := Heap.q4q leH hw
  have le2 : H1.le (H1.set w (.own 0 [.slice none 0 0] 1)) := Heap.q0a (Heap.q04 _) hw _
  have A2 := A1.le le2
  have X2 : WX ra (H1.set w (.own 0 [.slice none 0 0] 1)) w [] := ⟨dw.2.symm, _, Heap.q03 _ _ _, Ow.nil _ _ _⟩
  have leH2 := Heap.q00 leH le2
  generalize (H1.set w (.own 0 [.slice none 0 0] 1)) = H2 at le2 A2 X2 leH2 ⊢
  refine q0s (fun m t G => ∃ i : Nat, t = tl [(0, .slice base L.length c), (1, strV con), (2, strV fld), (3, .int .i64 dev), (9, .pointer (some ⟨ba, 0, none⟩)), (10, .pointer (some ⟨w, 0, none⟩)), (11, .int .i64 i)] ∧ i ≤ L.length ∧ m = L.length - i ∧ H.le G ∧ BookAt G ba ra (qhj [] (L.take i)) ∧ WX ra G w (qhj [] (L.take i))) L.length
    ⟨0, rfl, by omega, by omega, leH2, A2, X2⟩ ?_
  rintro m t G ⟨i, rfl, hi, rfl, le, A, X⟩
  by_cases hlt : i < L.length
  · obtain ⟨bs, o, c', hv, hc, hce⟩ := sL.edAt hL8 i hlt
    simp only [Value.slice.injEq, true_and] at hv
    obtain ⟨rfl, rfl⟩ := hv
    have hi1 : (i : Int) < L.length := by omega
    have hi2 : (0 : Int) ≤ i := by omega
    have w1 : IntKind.i64.wrap ((i : Int) + 1) = ((i + 1 : Nat) : Int) := q9r (by omega)
    have hi3 := hce _ le
    have ay := aL L[i] (List.getElem_mem hlt)
    have et : L.take (i + 1) = L.take i ++ [L[i]] := List.take_succ_eq_append_getElem hlt
    simp -implicitDefEqProofs only [zA,reduceIte,reduceCtorEq,Nat.reduceEqDiff,Nat.reduceAdd,Nat.reduceMul,Nat.reduceLT,Nat.reduceSub,Int.reduceLT,Int.reduceLE,Int.reduceEq,Int.reduceNe,Int.reduceSub,Int.reduceAdd,Int.reduceMul,Int.reduceBEq,Int.reduceBNe,Int.reduceGT,Int.reduceGE,Nat.reduceGT,Int.reduceToNat,Int.reduceNeg,Nat.reduceLeDiff,Nat.reduceBEq,Nat.reduceBneDiff,hi1]
    unfold q60
    simp -implicitDefEqProofs only [zA,reduceIte,reduceCtorEq,Nat.reduceEqDiff,Nat.reduceAdd,Nat.reduceMul,Nat.reduceLT,Nat.reduceSub,Int.reduceLT,Int.reduceLE,Int.reduceEq,Int.reduceNe,Int.reduceSub,Int.reduceAdd,Int.reduceMul,Int.reduceBEq,Int.reduceBNe,Int.reduceGT,Int.reduceGE,Nat.reduceGT,Int.reduceToNat,Int.reduceNeg,Nat.reduceLeDiff,Nat.reduceBEq,Nat.reduceBneDiff,hi1,hi2,Int.toNat_natCast,hi3]
    refine (long_c E G L[i] ay.h8).mono ?_
    rintro v G1 ⟨leg1, rfl⟩
    cases hlg : longE L[i] with
    | true => simp -implicitDefEqProofs only [zA,reduceIte,reduceCtorEq,Nat.reduceEqDiff,Nat.reduceAdd,Nat.reduceMul,Nat.reduceLT,Nat.reduceSub,Int.reduceLT,Int.reduceLE,Int.reduceEq,Int.reduceNe,Int.reduceSub,Int.reduceAdd,Int.reduceMul,Int.reduceBEq,Int.reduceBNe,Int.reduceGT,Int.reduceGE,Nat.reduceGT,Int.reduceToNat,Int.reduceNeg,Nat.reduceLeDiff,Nat.reduceBEq,Nat.reduceBneDiff]
    | false =>
      have hlg' : L[i].con.length ≤ 60 ∧ L[i].fld.length ≤ 60 := by
        unfold longE at hlg
        simp only [Bool.or_eq_false_iff, decide_eq_false_iff_not] at hlg
        omega
      have leG1 := Heap.q00 le leg1
      have hi4 := hce _ leG1
      have A1g := A.le leg1
      have X1g := X.le leg1
      have okS := A.ok
      have lS := qlp (L.take i) []
      simp only [List.length_nil, Nat.zero_add, List.length_take] at lS
      have hnext : qhj [] (L.take (i + 1)) = (addB (qhj [] (L.take i)) L[i]).1 := by rw [et, qno]
      simp -implicitDefEqProofs only [zA,reduceIte,reduceCtorEq,Nat.reduceEqDiff,Nat.reduceAdd,Nat.reduceMul,Nat.reduceLT,Nat.reduceSub,Int.reduceLT,Int.reduceLE,Int.reduceEq,Int.reduceNe,Int.reduceSub,Int.reduceAdd,Int.reduceMul,Int.reduceBEq,Int.reduceBNe,Int.reduceGT,Int.reduceGE,Nat.reduceGT,Int.reduceToNat,Int.reduceNeg,Nat.reduceLeDiff,Nat.reduceBEq,Nat.reduceBneDiff,hi1,hi2,Int.toNat_natCast,hi4]
      refine (qgf E A1g L[i] ay.h8 ay.hc ay.hf ay.n1 ay.n2).mono ?_
      rintro v G2 ⟨rfl, A2g, k2⟩
      have leG2 := Keep.fresh fra leG1 k2
      have hi5 := hce _ leG2
      have X2g := X1g.keep k2
      have hi5' : ∀ g ∈ [G1], q08 g ⟨bs, o + i * 15, none⟩ 15 = some (edC L[i]) := fun g hg => by rw [List.mem_singleton.1 hg]; exact hi4
      simp -implicitDefEqProofs only [zA,reduceIte,reduceCtorEq,Nat.reduceEqDiff,Nat.reduceAdd,Nat.reduceMul,Nat.reduceLT,Nat.reduceSub,Int.reduceLT,Int.reduceLE,Int.reduceEq,Int.reduceNe,Int.reduceSub,Int.reduceAdd,Int.reduceMul,Int.reduceBEq,Int.reduceBNe,Int.reduceGT,Int.reduceGE,Nat.reduceGT,Int.reduceToNat,Int.reduceNeg,Nat.reduceLeDiff,Nat.reduceBEq,Nat.reduceBneDiff,hi1,hi2,Int.toNat_natCast,hi5,hi4,implies_true,List.mem_cons,List.not_mem_nil,List.mem_singleton,or_false,forall_eq,forall_eq_or_imp,and_self,true_and]
      refine (qjk E G2 L[i] ay.h8).mono ?_
      rintro v G3 ⟨leg3, rfl⟩
      have A3g := A2g.le leg3
      have X3g := X2g.le leg3
      have leG3 := Heap.q00 leG2 leg3
      simp -implicitDefEqProofs only [zA,reduceIte,reduceCtorEq,Nat.reduceEqDiff,Nat.reduceAdd,Nat.reduceMul,Nat.reduceLT,Nat.reduceSub,Int.reduceLT,Int.reduceLE,Int.reduceEq,Int.reduceNe,Int.reduceSub,Int.reduceAdd,Int.reduceMul,Int.reduceBEq,Int.reduceBNe,Int.reduceGT,Int.reduceGE,Nat.reduceGT,Int.reduceToNat,Int.reduceNeg,Nat.reduceLeDiff,Nat.reduceBEq,Nat.reduceBneDiff,implies_true,List.mem_cons,List.not_mem_nil,List.mem_singleton,or_false,forall_eq,forall_eq_or_imp,and_self,true_and]
      refine (qlv E okS X3g.wb L[i] ay.h8 (by omega) (by omega) ay.n1 ay.n2).mono ?_
      rintro v G4 Q4
      obtain ⟨X4, k4, rfl⟩ := AddQ.wx X3g (by obtain ⟨es, cc, LL, qq, _⟩ := A3g.qr; rw [qq]; simp) Q4
      have A4 := A3g.keep k4 (fun e => by have := A1.qb; rw [e, hw] at this; cases this) dw.2
      have leG4 := Keep.fresh fw leG3 k4
      rw [← hnext] at A4 X4
      simp -implicitDefEqProofs only [zA,reduceIte,reduceCtorEq,Nat.reduceEqDiff,Nat.reduceAdd,Nat.reduceMul,Nat.reduceLT,Nat.reduceSub,Int.reduceLT,Int.reduceLE,Int.reduceEq,Int.reduceNe,Int.reduceSub,Int.reduceAdd,Int.reduceMul,Int.reduceBEq,Int.reduceBNe,Int.reduceGT,Int.reduceGE,Nat.reduceGT,Int.reduceToNat,Int.reduceNeg,Nat.reduceLeDiff,Nat.reduceBEq,Nat.reduceBneDiff,bne_self_eq_false]
      have okT := A4.ok
      have lT := okT.len
      generalize hT : qhj [] (L.take (i + 1)) = T at A4 X4 okT lT
      unfold q5z
      simp -implicitDefEqProofs only [zA,reduceIte,reduceCtorEq,Nat.reduceEqDiff,Nat.reduceAdd,Nat.reduceMul,Nat.reduceLT,Nat.reduceSub,Int.reduceLT,Int.reduceLE,Int.reduceEq,Int.reduceNe,Int.reduceSub,Int.reduceAdd,Int.reduceMul,Int.reduceBEq,Int.reduceBNe,Int.reduceGT,Int.reduceGE,Nat.reduceGT,Int.reduceToNat,Int.reduceNeg,Nat.reduceLeDiff,Nat.reduceBEq,Nat.reduceBneDiff]
      refine (qh5 E K A4 con fld).mono ?_
      rintro v G5 ⟨leg5, rfl⟩
      simp -implicitDefEqProofs only [zA,reduceIte,reduceCtorEq,Nat.reduceEqDiff,Nat.reduceAdd,Nat.reduceMul,Nat.reduceLT,Nat.reduceSub,Int.reduceLT,Int.reduceLE,Int.reduceEq,Int.reduceNe,Int.reduceSub,Int.reduceAdd,Int.reduceMul,Int.reduceBEq,Int.reduceBNe,Int.reduceGT,Int.reduceGE,Nat.reduceGT,Int.reduceToNat,Int.reduceNeg,Nat.reduceLeDiff,Nat.reduceBEq,Nat.reduceBneDiff]
      refine (qjx E okT (X4.wb.le leg5) con fld).mono ?_
      rintro v G6 ⟨leg6, rfl⟩
      have le56 := Heap.q00 leg5 leg6
      simp -implicitDefEqProofs only [zA,reduceIte,reduceCtorEq,Nat.reduceEqDiff,Nat.reduceAdd,Nat.reduceMul,Nat.reduceLT,Nat.reduceSub,Int.reduceLT,Int.reduceLE,Int.reduceEq,Int.reduceNe,Int.reduceSub,Int.reduceAdd,Int.reduceMul,Int.reduceBEq,Int.reduceBNe,Int.reduceGT,Int.reduceGE,Nat.reduceGT,Int.reduceToNat,Int.reduceNeg,Nat.reduceLeDiff,Nat.reduceBEq,Nat.reduceBneDiff]
      unfold q5y
      simp -implicitDefEqProofs only [zA,reduceIte,reduceCtorEq,Nat.reduceEqDiff,Nat.reduceAdd,Nat.reduceMul,Nat.reduceLT,Nat.reduceSub,Int.reduceLT,Int.reduceLE,Int.reduceEq,Int.reduceNe,Int.reduceSub,Int.reduceAdd,Int.reduceMul,Int.reduceBEq,Int.reduceBNe,Int.reduceGT,Int.reduceGE,Nat.reduceGT,Int.reduceToNat,Int.reduceNeg,Nat.reduceLeDiff,Nat.reduceBEq,Nat.reduceBneDiff]
      refine (qm9 E (A4.le le56) dev).mono ?_
      rintro x G7 ⟨leg7, hx⟩
      obtain ⟨dd, dn, nv, nv8, rfl, hy⟩ := qoi (S := T) (dev := dev) hx
      have le57 := Heap.q00 le56 leg7
      simp -implicitDefEqProofs only [zA,reduceIte,reduceCtorEq,Nat.reduceEqDiff,Nat.reduceAdd,Nat.reduceMul,Nat.reduceLT,Nat.reduceSub,Int.reduceLT,Int.reduceLE,Int.reduceEq,Int.reduceNe,Int.reduceSub,Int.reduceAdd,Int.reduceMul,Int.reduceBEq,Int.reduceBNe,Int.reduceGT,Int.reduceGE,Nat.reduceGT,Int.reduceToNat,Int.reduceNeg,Nat.reduceLeDiff,Nat.reduceBEq,Nat.reduceBneDiff]
      intro p hp
      try simp -implicitDefEqProofs only [zA,reduceIte,reduceCtorEq,Nat.reduceEqDiff,Nat.reduceAdd,Nat.reduceMul,Nat.reduceLT,Nat.reduceSub,Int.reduceLT,Int.reduceLE,Int.reduceEq,Int.reduceNe,Int.reduceSub,Int.reduceAdd,Int.reduceMul,Int.reduceBEq,Int.reduceBNe,Int.reduceGT,Int.reduceGE,Nat.reduceGT,Int.reduceToNat,Int.reduceNeg,Nat.reduceLeDiff,Nat.reduceBEq,Nat.reduceBneDiff]
      intro q hq
      obtain ⟨s1, s2, le8, qp, qq, -⟩ := qmw G7 hp hq dd dn nv nv8
      try simp -implicitDefEqProofs only [zA,reduceIte,reduceCtorEq,Nat.reduceEqDiff,Nat.reduceAdd,Nat.reduceMul,Nat.reduceLT,Nat.reduceSub,Int.reduceLT,Int.reduceLE,Int.reduceEq,Int.reduceNe,Int.reduceSub,Int.reduceAdd,Int.reduceMul,Int.reduceBEq,Int.reduceBNe,Int.reduceGT,Int.reduceGE,Nat.reduceGT,Int.reduceToNat,Int.reduceNeg,Nat.reduceLeDiff,Nat.reduceBEq,Nat.reduceBneDiff,List.length_replicate,s1,s2]
      have le58 := Heap.q00 le57 le8
      generalize ((G7.set p (.own 0 [Value.int .i64 dd, .int .i64 dn] 2)).set q (.own 0 (nv.map (.int .i64)) 8)) = G8 at le8 qp qq le58 ⊢
      refine (ql0 E okT (X4.wb.le le58) dev).mono ?_
      rintro y G9 ⟨leg9, hy2⟩
      have hy3 := hy y hy2
      subst hy3
      have le59 := Heap.q00 le58 leg9
      simp -implicitDefEqProofs only [zA,reduceIte,reduceCtorEq,Nat.reduceEqDiff,Nat.reduceAdd,Nat.reduceMul,Nat.reduceLT,Nat.reduceSub,Int.reduceLT,Int.reduceLE,Int.reduceEq,Int.reduceNe,Int.reduceSub,Int.reduceAdd,Int.reduceMul,Int.reduceBEq,Int.reduceBNe,Int.reduceGT,Int.reduceGE,Nat.reduceGT,Int.reduceToNat,Int.reduceNeg,Nat.reduceLeDiff,Nat.reduceBEq,Nat.reduceBneDiff]
      intro p2 hp2
      try simp -implicitDefEqProofs only [zA,reduceIte,reduceCtorEq,Nat.reduceEqDiff,Nat.reduceAdd,Nat.reduceMul,Nat.reduceLT,Nat.reduceSub,Int.reduceLT,Int.reduceLE,Int.reduceEq,Int.reduceNe,Int.reduceSub,Int.reduceAdd,Int.reduceMul,Int.reduceBEq,Int.reduceBNe,Int.reduceGT,Int.reduceGE,Nat.reduceGT,Int.reduceToNat,Int.reduceNeg,Nat.reduceLeDiff,Nat.reduceBEq,Nat.reduceBneDiff]
      intro q2 hq2
      obtain ⟨s3, s4, le10, qp2, qq2, -⟩ := qmw G9 hp2 hq2 dd dn nv nv8
      try simp -implicitDefEqProofs only [zA,reduceIte,reduceCtorEq,Nat.reduceEqDiff,Nat.reduceAdd,Nat.reduceMul,Nat.reduceLT,Nat.reduceSub,Int.reduceLT,Int.reduceLE,Int.reduceEq,Int.reduceNe,Int.reduceSub,Int.reduceAdd,Int.reduceMul,Int.reduceBEq,Int.reduceBNe,Int.reduceGT,Int.reduceGE,Nat.reduceGT,Int.reduceToNat,Int.reduceNeg,Nat.reduceLeDiff,Nat.reduceBEq,Nat.reduceBneDiff,List.length_replicate,s3,s4]
      have le510 := Heap.q00 le59 le10
      have qp' := le10 _ _ (leg9 _ _ qp)
      have qq' := le10 _ _ (leg9 _ _ qq)
      generalize ((G9.set p2 (.own 0 [Value.int .i64 dd, .int .i64 dn] 2)).set q2 (.own 0 (nv.map (.int .i64)) 8)) = G10 at le10 qp2 qq2 le510 qp' qq' ⊢
      have A10 := A4.le le510
      have X10 := X4.wb.le le510
      have l5 : q08 G10 ⟨p, 0, none⟩ 2 = some [Value.int .i64 dd, .int .i64 dn] := by rw [q2e qp' (by simp)]; rfl
      have l6 : q08 G10 ⟨q, 0, none⟩ 8 = some (nv.map (.int .i64)) := by rw [q2e qq' (by simp [nv8])]; simp [nv8, List.take_of_length_le]
      have l7 : q08 G10 ⟨p2, 0, none⟩ 2 = some [Value.int .i64 dd, .int .i64 dn] := by rw [q2e qp2 (by simp)]; rfl
      have l8 : q08 G10 ⟨q2, 0, none⟩ 8 = some (nv.map (.int .i64)) := by rw [q2e qq2 (by simp [nv8])]; simp [nv8, List.take_of_length_le]
      have lk : ∀ a b : Int, q05 [some IntKind.i64, some IntKind.i64] [Value.int .i64 a, .int .i64 b] = true := fun _ _ => rfl
      have le2' := qgv dd dn dd dn
      rw [decide_eq_true ⟨rfl, rfl⟩] at le2'
      have lk8 : ∀ v : List Int, v.length = 8 → q05 (List.replicate 8 (some IntKind.i64)) (v.map (.int .i64)) = true := fun v h => by
        obtain ⟨a0, a1, a2, a3, a4, a5, a6, a7, rfl⟩ := len8 h; rfl
      have lv8 : ∀ v : List Int, v.length = 8 → q0b (v.map (.int .i64)) (v.map (.int .i64)) = true := fun v h => by
        obtain ⟨a0, a1, a2, a3, a4, a5, a6, a7, rfl⟩ := len8 h; simp [q0b, qd1]
      have k1 := lk8 nv nv8
      have k3 := lv8 nv nv8
      have sn := qlq ((allB T con fld).getLastD []) ((allB T con fld).getLastD [])
      rw [decide_eq_true rfl] at sn
      unfold q5x
      simp -implicitDefEqProofs only [zA,reduceIte,reduceCtorEq,Nat.reduceEqDiff,Nat.reduceAdd,Nat.reduceMul,Nat.reduceLT,Nat.reduceSub,Int.reduceLT,Int.reduceLE,Int.reduceEq,Int.reduceNe,Int.reduceSub,Int.reduceAdd,Int.reduceMul,Int.reduceBEq,Int.reduceBNe,Int.reduceGT,Int.reduceGE,Nat.reduceGT,Int.reduceToNat,Int.reduceNeg,Nat.reduceLeDiff,Nat.reduceBEq,Nat.reduceBneDiff,sn,l5,l6,l7,l8,lk,le2',k1,k3,bne_self_eq_false]
      have cl := qkb T
      have fl := qle T con
      have al := qlo T con fld
      refine (qdb E K A10).mono ?_
      rintro v G11 ⟨le11, ow11⟩
      simp -implicitDefEqProofs only [zA,reduceIte,reduceCtorEq,Nat.reduceEqDiff,Nat.reduceAdd,Nat.reduceMul,Nat.reduceLT,Nat.reduceSub,Int.reduceLT,Int.reduceLE,Int.reduceEq,Int.reduceNe,Int.reduceSub,Int.reduceAdd,Int.reduceMul,Int.reduceBEq,Int.reduceBNe,Int.reduceGT,Int.reduceGE,Nat.reduceGT,Int.reduceToNat,Int.reduceNeg,Nat.reduceLeDiff,Nat.reduceBEq,Nat.reduceBneDiff]
      refine (qhd E okT (X10.le le11)).mono ?_
      rintro v2 G12 ⟨le12, sl12⟩
      simp -implicitDefEqProofs only [zA,reduceIte,reduceCtorEq,Nat.reduceEqDiff,Nat.reduceAdd,Nat.reduceMul,Nat.reduceLT,Nat.reduceSub,Int.reduceLT,Int.reduceLE,Int.reduceEq,Int.reduceNe,Int.reduceSub,Int.reduceAdd,Int.reduceMul,Int.reduceBEq,Int.reduceBNe,Int.reduceGT,Int.reduceGE,Nat.reduceGT,Int.reduceToNat,Int.reduceNeg,Nat.reduceLeDiff,Nat.reduceBEq,Nat.reduceBneDiff]
      refine (qhy E (Sl.le le12 ow11.sl) sl12 (by omega) (by omega)).mono ?_
      rintro v3 G12' ⟨rfl, rfl⟩
      rw [decide_eq_true rfl]
      have le12' := Heap.q00 le11 le12
      simp -implicitDefEqProofs only [zA,reduceIte,reduceCtorEq,Nat.reduceEqDiff,Nat.reduceAdd,Nat.reduceMul,Nat.reduceLT,Nat.reduceSub,Int.reduceLT,Int.reduceLE,Int.reduceEq,Int.reduceNe,Int.reduceSub,Int.reduceAdd,Int.reduceMul,Int.reduceBEq,Int.reduceBNe,Int.reduceGT,Int.reduceGE,Nat.reduceGT,Int.reduceToNat,Int.reduceNeg,Nat.reduceLeDiff,Nat.reduceBEq,Nat.reduceBneDiff]
      refine (qkh E K (A10.le le12') con).mono ?_
      rintro v G13 ⟨le13, ow13⟩
      simp -implicitDefEqProofs only [zA,reduceIte,reduceCtorEq,Nat.reduceEqDiff,Nat.reduceAdd,Nat.reduceMul,Nat.reduceLT,Nat.reduceSub,Int.reduceLT,Int.reduceLE,Int.reduceEq,Int.reduceNe,Int.reduceSub,Int.reduceAdd,Int.reduceMul,Int.reduceBEq,Int.reduceBNe,Int.reduceGT,Int.reduceGE,Nat.reduceGT,Int.reduceToNat,Int.reduceNeg,Nat.reduceLeDiff,Nat.reduceBEq,Nat.reduceBneDiff]
      refine (qj6 E okT ((X10.le le12').le le13) con).mono ?_
      rintro v2 G14 ⟨le14, sl14⟩
      simp -implicitDefEqProofs only [zA,reduceIte,reduceCtorEq,Nat.reduceEqDiff,Nat.reduceAdd,Nat.reduceMul,Nat.reduceLT,Nat.reduceSub,Int.reduceLT,Int.reduceLE,Int.reduceEq,Int.reduceNe,Int.reduceSub,Int.reduceAdd,Int.reduceMul,Int.reduceBEq,Int.reduceBNe,Int.reduceGT,Int.reduceGE,Nat.reduceGT,Int.reduceToNat,Int.reduceNeg,Nat.reduceLeDiff,Nat.reduceBEq,Nat.reduceBneDiff]
      refine (qhy E (Sl.le le14 ow13.sl) sl14 (by omega) (by omega)).mono ?_
      rintro v3 G14' ⟨rfl, rfl⟩
      rw [decide_eq_true rfl]
      have le14' := Heap.q00 le12' (Heap.q00 le13 le14)
      simp -implicitDefEqProofs only [zA,reduceIte,reduceCtorEq,Nat.reduceEqDiff,Nat.reduceAdd,Nat.reduceMul,Nat.reduceLT,Nat.reduceSub,Int.reduceLT,Int.reduceLE,Int.reduceEq,Int.reduceNe,Int.reduceSub,Int.reduceAdd,Int.reduceMul,Int.reduceBEq,Int.reduceBNe,Int.reduceGT,Int.reduceGE,Nat.reduceGT,Int.reduceToNat,Int.reduceNeg,Nat.reduceLeDiff,Nat.reduceBEq,Nat.reduceBneDiff]
      refine (qge E K (A10.le le14') con fld).mono ?_
      rintro v G15 ⟨le15, ow15⟩
      simp -implicitDefEqProofs only [zA,reduceIte,reduceCtorEq,Nat.reduceEqDiff,Nat.reduceAdd,Nat.reduceMul,Nat.reduceLT,Nat.reduceSub,Int.reduceLT,Int.reduceLE,Int.reduceEq,Int.reduceNe,Int.reduceSub,Int.reduceAdd,Int.reduceMul,Int.reduceBEq,Int.reduceBNe,Int.reduceGT,Int.reduceGE,Nat.reduceGT,Int.reduceToNat,Int.reduceNeg,Nat.reduceLeDiff,Nat.reduceBEq,Nat.reduceBneDiff]
      refine (qi6 E okT ((X10.le le14').le le15) con fld).mono ?_
      rintro v2 G16 ⟨le16, sl16⟩
      simp -implicitDefEqProofs only [zA,reduceIte,reduceCtorEq,Nat.reduceEqDiff,Nat.reduceAdd,Nat.reduceMul,Nat.reduceLT,Nat.reduceSub,Int.reduceLT,Int.reduceLE,Int.reduceEq,Int.reduceNe,Int.reduceSub,Int.reduceAdd,Int.reduceMul,Int.reduceBEq,Int.reduceBNe,Int.reduceGT,Int.reduceGE,Nat.reduceGT,Int.reduceToNat,Int.reduceNeg,Nat.reduceLeDiff,Nat.reduceBEq,Nat.reduceBneDiff]
      refine (qhy E (Sl.le le16 ow15.sl) sl16 (by omega) (by omega)).mono ?_
      rintro v3 G16' ⟨rfl, rfl⟩
      rw [decide_eq_true rfl]
      have le16' := Heap.q00 le14' (Heap.q00 le15 le16)
      simp -implicitDefEqProofs only [zA,reduceIte,reduceCtorEq,Nat.reduceEqDiff,Nat.reduceAdd,Nat.reduceMul,Nat.reduceLT,Nat.reduceSub,Int.reduceLT,Int.reduceLE,Int.reduceEq,Int.reduceNe,Int.reduceSub,Int.reduceAdd,Int.reduceMul,Int.reduceBEq,Int.reduceBNe,Int.reduceGT,Int.reduceGE,Nat.reduceGT,Int.reduceToNat,Int.reduceNeg,Nat.reduceLeDiff,Nat.reduceBEq,Nat.reduceBneDiff]
      refine (qgd E (A10.le le16')).mono ?_
      rintro v G17 ⟨le17, v1, hv1, rfl⟩
      simp -implicitDefEqProofs only [zA,reduceIte,reduceCtorEq,Nat.reduceEqDiff,Nat.reduceAdd,Nat.reduceMul,Nat.reduceLT,Nat.reduceSub,Int.reduceLT,Int.reduceLE,Int.reduceEq,Int.reduceNe,Int.reduceSub,Int.reduceAdd,Int.reduceMul,Int.reduceBEq,Int.reduceBNe,Int.reduceGT,Int.reduceGE,Nat.reduceGT,Int.reduceToNat,Int.reduceNeg,Nat.reduceLeDiff,Nat.reduceBEq,Nat.reduceBneDiff]
      refine (qi4 E okT ((X10.le le16').le le17)).mono ?_
      rintro v G18 ⟨le18, v2, hv2, rfl⟩
      have ev := hv1.eq hv2
      subst ev
      have k5 := lk8 v1 hv1.1
      have k6 := lv8 v1 hv1.1
      have le18' := Heap.q00 le510 (Heap.q00 le16' (Heap.q00 le17 le18))
      simp -implicitDefEqProofs only [zA,reduceIte,reduceCtorEq,Nat.reduceEqDiff,Nat.reduceAdd,Nat.reduceMul,Nat.reduceLT,Nat.reduceSub,Int.reduceLT,Int.reduceLE,Int.reduceEq,Int.reduceNe,Int.reduceSub,Int.reduceAdd,Int.reduceMul,Int.reduceBEq,Int.reduceBNe,Int.reduceGT,Int.reduceGE,Nat.reduceGT,Int.reduceToNat,Int.reduceNeg,Nat.reduceLeDiff,Nat.reduceBEq,Nat.reduceBneDiff,k5,k6,w1]
      refine ⟨_, ?_, i + 1, rfl, by omega, rfl, Heap.q00 leG4 le18', ?_, ?_⟩
      · omega
      · rw [hT]; exact A4.le le18'
      · rw [hT]; exact X4.le le18'
  · have hi1 : ¬ (i : Int) < L.length := by omega
    have okS := A.ok
    have lS := okS.len
    generalize qhj [] (L.take i) = S at A X okS lS
    simp -implicitDefEqProofs only [zA,reduceIte,reduceCtorEq,Nat.reduceEqDiff,Nat.reduceAdd,Nat.reduceMul,Nat.reduceLT,Nat.reduceSub,Int.reduceLT,Int.reduceLE,Int.reduceEq,Int.reduceNe,Int.reduceSub,Int.reduceAdd,Int.reduceMul,Int.reduceBEq,Int.reduceBNe,Int.reduceGT,Int.reduceGE,Nat.reduceGT,Int.reduceToNat,Int.reduceNeg,Nat.reduceLeDiff,Nat.reduceBEq,Nat.reduceBneDiff,hi1]
    unfold q5c
    simp -implicitDefEqProofs only [zA,reduceIte,reduceCtorEq,Nat.reduceEqDiff,Nat.reduceAdd,Nat.reduceMul,Nat.reduceLT,Nat.reduceSub,Int.reduceLT,Int.reduceLE,Int.reduceEq,Int.reduceNe,Int.reduceSub,Int.reduceAdd,Int.reduceMul,Int.reduceBEq,Int.reduceBNe,Int.reduceGT,Int.reduceGE,Nat.reduceGT,Int.reduceToNat,Int.reduceNeg,Nat.reduceLeDiff,Nat.reduceBEq,Nat.reduceBneDiff]
    refine (qh6 E K A).mono ?_
    rintro v G1 ⟨leg1, ow1⟩
    simp -implicitDefEqProofs only [zA,reduceIte,reduceCtorEq,Nat.reduceEqDiff,Nat.reduceAdd,Nat.reduceMul,Nat.reduceLT,Nat.reduceSub,Int.reduceLT,Int.reduceLE,Int.reduceEq,Int.reduceNe,Int.reduceSub,Int.reduceAdd,Int.reduceMul,Int.reduceBEq,Int.reduceBNe,Int.reduceGT,Int.reduceGE,Nat.reduceGT,Int.reduceToNat,Int.reduceNeg,Nat.reduceLeDiff,Nat.reduceBEq,Nat.reduceBneDiff,implies_true,List.mem_cons,List.not_mem_nil,List.mem_singleton,or_false,forall_eq,forall_eq_or_imp,and_self,true_and]
    refine (qm1 E ow1.sl okS.h8 (by omega)).mono ?_
    rintro v2 G2 ⟨leg2, sl2⟩
    obtain ⟨lv, q, olv⟩ := X.at'
    have cw : q0u G ⟨w, 0, none⟩ = some lv := by rw [q0z q (by simp)]; rfl
    have cw1 := qfb leg1 cw
    have cw2 := qfb leg2 cw1
    simp -implicitDefEqProofs only [zA,reduceIte,reduceCtorEq,Nat.reduceEqDiff,Nat.reduceAdd,Nat.reduceMul,Nat.reduceLT,Nat.reduceSub,Int.reduceLT,Int.reduceLE,Int.reduceEq,Int.reduceNe,Int.reduceSub,Int.reduceAdd,Int.reduceMul,Int.reduceBEq,Int.reduceBNe,Int.reduceGT,Int.reduceGE,Nat.reduceGT,Int.reduceToNat,Int.reduceNeg,Nat.reduceLeDiff,Nat.reduceBEq,Nat.reduceBneDiff,cw,cw1,cw2,implies_true,List.mem_cons,List.not_mem_nil,List.mem_singleton,or_false,forall_eq,forall_eq_or_imp,and_self,true_and]
    refine (qky E sl2 (olv.sl.le (Heap.q00 leg1 leg2)) okS.h8 (by omega)).mono ?_
    rintro r G3 ⟨rfl, rfl⟩
    simp -implicitDefEqProofs only [zA,reduceIte,reduceCtorEq,Nat.reduceEqDiff,Nat.reduceAdd,Nat.reduceMul,Nat.reduceLT,Nat.reduceSub,Int.reduceLT,Int.reduceLE,Int.reduceEq,Int.reduceNe,Int.reduceSub,Int.reduceAdd,Int.reduceMul,Int.reduceBEq,Int.reduceBNe,Int.reduceGT,Int.reduceGE,Nat.reduceGT,Int.reduceToNat,Int.reduceNeg,Nat.reduceLeDiff,Nat.reduceBEq,Nat.reduceBneDiff]
end Go.Bb
