/- My contracts: BbBo5 BbBo6 BbBo7 BbBo8 BbBo9 BbPbs BbBoA BbUed BbLbk0 BbPbl BbLbk1 BbLbk2 BbPbm BbPbn BbLbk5. -/
import Derived.Test.YthealcnfgedddaaBbM1
import Derived.Test.YthealcnfgedddaaBbG3
namespace Go.Bb
set_option linter.unusedSimpArgs false
set_option linter.unusedVariables false
set_option maxRecDepth 20000
set_option maxHeartbeats 2000000
open Go.MapKept
theorem qma {E : Env} {n : Nat} {g : FuncId} {first cap vs : List Value} {h : Heap} {K : Value → Heap → Prop} (hg : E.fid n = some g) (a : ACallN E n (first ++ vs ++ cap) h K) : qjv E h K (.func (.func g) first.toArray cap.toArray) vs :=
  ⟨⟨n, hg⟩, by simpa using a g hg⟩
theorem Sl.edAt {H : Heap} {v : Value} {S : List Ed} (h8 : ∀ e ∈ S, e.seen.length = 8) (s : Sl H 15 v S.length (S.flatMap edC)) (i : Nat) (hi : i < S.length) :
    ∃ b o c, v = .slice (some ⟨b, o, none⟩) S.length c ∧ S.length ≤ c ∧ ∀ h', H.le h' → q0j h' ⟨b, o + i * 15, none⟩ 15 = some (edC S[i]) := by
  obtain ⟨l, rfl⟩ := toG h8
  rw [← qd5, List.length_map] at s
  rw [List.length_map] at hi
  obtain ⟨b, o, c, h1, h2, h3⟩ := s.at qbl i hi (by decide)
  refine ⟨b, o, c, by rw [List.length_map]; exact h1, by rw [List.length_map]; exact h2, fun h' hle => ?_⟩
  rw [h3 h' hle, List.getElem_map]
  rfl
theorem qct (E : EnvT tab) (K : BkOk E) {H : Heap} {v : Value} {S : List Ed} (h8 : ∀ e ∈ S, e.seen.length = 8) (hl : S.length ≤ 100000) (s : Sl H 15 v S.length (S.flatMap edC)) {y : Ed} (hy : y.seen.length = 8) {b0 : Nat} (q0 : H b0 = some (.own 0 (edC y) 15)) :
    ACallN E.toEnv q78 [v, .func (.func 60) #[] #[.pointer (some ⟨b0, 0, none⟩)]] H fun r H' => H.le H' ∧ r = .int .i64 (if S.any (fun a => qak a y) then (S.findIdx (fun a => qak a y) : Int) else -1) := by
  obtain ⟨base, c, rfl⟩ := s.shape
  refine q2r q1c q0p rfl rfl (q02 ?_)
  unfold q0p
  simp -implicitDefEqProofs only [zA,reduceIte,reduceCtorEq,Nat.reduceEqDiff,Nat.reduceAdd,Nat.reduceMul,Nat.reduceLT,Nat.reduceSub,Int.reduceLT,Int.reduceLE,Int.reduceEq,Int.reduceNe,Int.reduceSub,Int.reduceAdd,Int.reduceMul,Int.reduceBEq,Int.reduceBNe,Int.reduceGT,Int.reduceGE,Nat.reduceGT,Int.reduceToNat,Int.reduceNeg,Nat.reduceLeDiff,Nat.reduceBEq,Nat.reduceBneDiff]
  refine q1p (fun m t G => H.le G ∧ ∃ i : Nat, t = tl [(0, .slice base S.length c), (1, .func (.func 60) [].toArray [.pointer (some ⟨b0, 0, none⟩)].toArray), (7, .int .i64 S.length), (8, .int .i64 i)] ∧ i ≤ S.length ∧ m = S.length - i ∧ (S.take i).any (fun a => qak a y) = false) S.length
    ⟨Heap.q0a _, 0, rfl, by omega, by omega, by simp⟩ ?_
  rintro m t G ⟨le, i, rfl, hi, rfl, ha⟩
  by_cases hlt : i < S.length
  · obtain ⟨b, o, c', hv, hc, q1i⟩ := s.edAt h8 i hlt
    simp only [Value.slice.injEq, true_and] at hv
    obtain ⟨rfl, rfl⟩ := hv
    have hi1 : (i : Int) < S.length := by omega
    have hi2 : (0 : Int) ≤ i := by omega
    have w1 : IntKind.i64.wrap ((i : Int) + 1) = ((i + 1 : Nat) : Int) := qc7 (by omega)
    have hi3 := q1i _ le
    have hx := h8 S[i] (List.getElem_mem hlt)
    simp -implicitDefEqProofs only [zA,reduceIte,reduceCtorEq,Nat.reduceEqDiff,Nat.reduceAdd,Nat.reduceMul,Nat.reduceLT,Nat.reduceSub,Int.reduceLT,Int.reduceLE,Int.reduceEq,Int.reduceNe,Int.reduceSub,Int.reduceAdd,Int.reduceMul,Int.reduceBEq,Int.reduceBNe,Int.reduceGT,Int.reduceGE,Nat.reduceGT,Int.reduceToNat,Int.reduceNeg,Nat.reduceLeDiff,Nat.reduceBEq,Nat.reduceBneDiff,hi1,hi2,Int.toNat_natCast,hi3]
    refine qma (first := []) (cap := [.pointer (some ⟨b0, 0, none⟩)]) (vs := [.agg (edC S[i]).toArray]) K.f60 ?_
    refine (qhj E G S[i] y hx hy (le _ _ q0)).mono ?_
    rintro r G1 ⟨le1, rfl⟩
    have leX := Heap.q05 le le1
    have et : S.take (i + 1) = S.take i ++ [S[i]] := List.take_succ_eq_append_getElem hlt
    by_cases g : qak S[i] y = true
    · have e1 : S.any (fun a => qak a y) = true := List.any_eq_true.2 ⟨S[i], List.getElem_mem hlt, g⟩
      have e2 : S.findIdx (fun a => qak a y) = i := by
        rw [List.findIdx_eq hlt]
        refine ⟨g, fun j hj => ?_⟩
        rw [List.any_eq_false] at ha
        have := ha S[j] (by rw [List.mem_take_iff_getElem]; exact ⟨j, by omega, rfl⟩)
        simpa using this
      simp -implicitDefEqProofs only [zA,reduceIte,reduceCtorEq,Nat.reduceEqDiff,Nat.reduceAdd,Nat.reduceMul,Nat.reduceLT,Nat.reduceSub,Int.reduceLT,Int.reduceLE,Int.reduceEq,Int.reduceNe,Int.reduceSub,Int.reduceAdd,Int.reduceMul,Int.reduceBEq,Int.reduceBNe,Int.reduceGT,Int.reduceGE,Nat.reduceGT,Int.reduceToNat,Int.reduceNeg,Nat.reduceLeDiff,Nat.reduceBEq,Nat.reduceBneDiff,g,e1,e2]
      exact leX
    · have g' : qak S[i] y = false := by simpa using g
      simp -implicitDefEqProofs only [zA,reduceIte,reduceCtorEq,Nat.reduceEqDiff,Nat.reduceAdd,Nat.reduceMul,Nat.reduceLT,Nat.reduceSub,Int.reduceLT,Int.reduceLE,Int.reduceEq,Int.reduceNe,Int.reduceSub,Int.reduceAdd,Int.reduceMul,Int.reduceBEq,Int.reduceBNe,Int.reduceGT,Int.reduceGE,Nat.reduceGT,Int.reduceToNat,Int.reduceNeg,Nat.reduceLeDiff,Nat.reduceBEq,Nat.reduceBneDiff,g',w1]
      refine ⟨_, ?_, leX, i + 1, rfl, by omega, rfl, ?_⟩
      · omega
      · rw [et, List.any_append, ha]; simp [g']
  · have hi1 : ¬ (i : Int) < S.length := by omega
    have e : i = S.length := by omega
    subst e
    rw [List.take_length] at ha
    simp -implicitDefEqProofs only [zA,reduceIte,reduceCtorEq,Nat.reduceEqDiff,Nat.reduceAdd,Nat.reduceMul,Nat.reduceLT,Nat.reduceSub,Int.reduceLT,Int.reduceLE,Int.reduceEq,Int.reduceNe,Int.reduceSub,Int.reduceAdd,Int.reduceMul,Int.reduceBEq,Int.reduceBNe,Int.reduceGT,Int.reduceGE,Nat.reduceGT,Int.reduceToNat,Int.reduceNeg,Nat.reduceLeDiff,Nat.reduceBEq,Nat.reduceBneDiff,hi1,ha]
    exact le
theorem qap (E : EnvT tab) (K : BkOk E) {H : Heap} {v : Value} {S : List Ed} (h8 : ∀ e ∈ S, e.seen.length = 8) (hl : S.length ≤ 100000) (s : Sl H 15 v S.length (S.flatMap edC)) {y : Ed} (hy : y.seen.length = 8) {b0 : Nat} (q0 : H b0 = some (.own 0 (edC y) 15)) :
    ACallN E.toEnv q5o [v, .func (.func 60) #[] #[.pointer (some ⟨b0, 0, none⟩)]] H fun r H' => H.le H' ∧ r = .bool (S.any (fun a => qak a y)) := by
  refine q2r q12 q0g rfl rfl (q02 ?_)
  unfold q0g
  simp -implicitDefEqProofs only [zA,reduceIte,reduceCtorEq,Nat.reduceEqDiff,Nat.reduceAdd,Nat.reduceMul,Nat.reduceLT,Nat.reduceSub,Int.reduceLT,Int.reduceLE,Int.reduceEq,Int.reduceNe,Int.reduceSub,Int.reduceAdd,Int.reduceMul,Int.reduceBEq,Int.reduceBNe,Int.reduceGT,Int.reduceGE,Nat.reduceGT,Int.reduceToNat,Int.reduceNeg,Nat.reduceLeDiff,Nat.reduceBEq,Nat.reduceBneDiff]
  refine (qct E K h8 hl s hy q0).mono ?_
  rintro r H1 ⟨le1, rfl⟩
  cases g : S.any (fun a => qak a y) with
  | true =>
    have h0 : (0 : Int) ≤ (S.findIdx (fun a => qak a y) : Nat) := by omega
    simp -implicitDefEqProofs only [zA,reduceIte,reduceCtorEq,Nat.reduceEqDiff,Nat.reduceAdd,Nat.reduceMul,Nat.reduceLT,Nat.reduceSub,Int.reduceLT,Int.reduceLE,Int.reduceEq,Int.reduceNe,Int.reduceSub,Int.reduceAdd,Int.reduceMul,Int.reduceBEq,Int.reduceBNe,Int.reduceGT,Int.reduceGE,Nat.reduceGT,Int.reduceToNat,Int.reduceNeg,Nat.reduceLeDiff,Nat.reduceBEq,Nat.reduceBneDiff,h0]
    exact le1
  | false =>
    simp -implicitDefEqProofs only [zA,reduceIte,reduceCtorEq,Nat.reduceEqDiff,Nat.reduceAdd,Nat.reduceMul,Nat.reduceLT,Nat.reduceSub,Int.reduceLT,Int.reduceLE,Int.reduceEq,Int.reduceNe,Int.reduceSub,Int.reduceAdd,Int.reduceMul,Int.reduceBEq,Int.reduceBNe,Int.reduceGT,Int.reduceGE,Nat.reduceGT,Int.reduceToNat,Int.reduceNeg,Nat.reduceLeDiff,Nat.reduceBEq,Nat.reduceBneDiff]
    exact le1
def Z15 : List Value := List.replicate 11 (.int .i64 0) ++ [.string .empty, .string .empty, .string .empty, .int .i64 0]
theorem qmh : Z15.length = 15 := rfl
theorem zf15 : (List.replicate 1 (List.replicate 11 (Value.int .i64 0) ++ [.string .empty, .string .empty, .string .empty, .int .i64 0])).flatten = Z15 := rfl
theorem Z15_drop : List.drop 15 Z15 = [] := rfl
theorem stE (G : Heap) (b : Nat) {e : Ed} (h8 : e.seen.length = 8) : q88 (G.set b (.own 0 Z15 Z15.length)) 15 (.pointer (some ⟨b, 0, none⟩)) (.agg (edC e).toArray) = some (G.set b (.own 0 (edC e) 15)) :=
  z6z (by decide) (q46 h8) (qfx e) qmh (by decide)
def qal (S : List Ed) (e : Ed) : Bool := decide (e.kind = 1) && !S.any fun a => qak a e
theorem qdb (x y : Ed) : qm6 x y < 0 ↔ q8j x y := by
  rw [← qlo]
  unfold qm6
  cases qke x y <;> simp
theorem qco (E : EnvT tab) (K : BkOk E) {H : Heap} {b r : Nat} {S : List Ed} (B : BookAt H b r S) :
    ACallN E.toEnv qer [.pointer (some ⟨b, 0, none⟩)] H fun v H' => H.le H' ∧ Ow H H' 15 v (q9l S).length ((q9l S).flatMap edC) := by
  refine q2r q8d q5k rfl rfl (q02 ?_)
  unfold q5k
  have hS := B.ok.len
  have h8 := B.ok.h8
  simp -implicitDefEqProofs only [zA,reduceIte,reduceCtorEq,Nat.reduceEqDiff,Nat.reduceAdd,Nat.reduceMul,Nat.reduceLT,Nat.reduceSub,Int.reduceLT,Int.reduceLE,Int.reduceEq,Int.reduceNe,Int.reduceSub,Int.reduceAdd,Int.reduceMul,Int.reduceBEq,Int.reduceBNe,Int.reduceGT,Int.reduceGE,Nat.reduceGT,Int.reduceToNat,Int.reduceNeg,Nat.reduceLeDiff,Nat.reduceBEq,Nat.reduceBneDiff]
  refine (qb3 E K B).mono ?_
  rintro v H1 ⟨le1, ow1⟩
  have sl1 := ow1.sl
  obtain ⟨base, c, rfl⟩ := sl1.shape
  have e60 := K.f60
  simp -implicitDefEqProofs only [zA,reduceIte,reduceCtorEq,Nat.reduceEqDiff,Nat.reduceAdd,Nat.reduceMul,Nat.reduceLT,Nat.reduceSub,Int.reduceLT,Int.reduceLE,Int.reduceEq,Int.reduceNe,Int.reduceSub,Int.reduceAdd,Int.reduceMul,Int.reduceBEq,Int.reduceBNe,Int.reduceGT,Int.reduceGE,Nat.reduceGT,Int.reduceToNat,Int.reduceNeg,Nat.reduceLeDiff,Nat.reduceBEq,Nat.reduceBneDiff]
  refine q1p (fun m t G => H1.le G ∧ ∃ (i : Nat) (vl : Value), t = tl [(3, vl), (4, .slice base S.length c), (10, .slice base S.length c), (11, .int .i64 S.length), (12, .int .i64 i)] ∧ i ≤ S.length ∧ m = S.length - i ∧ Ow H1 G 15 vl ((S.take i).filter (qal S)).length (((S.take i).filter (qal S)).flatMap edC)) S.length
    ⟨Heap.q0a _, 0, _, rfl, by omega, by omega, Ow.nil _ _ _⟩ ?_
  rintro m t G ⟨le, i, vl, rfl, hi, rfl, ow⟩
  by_cases hlt : i < S.length
  · obtain ⟨bs, o, c', hv, hc, q1i⟩ := sl1.edAt h8 i hlt
    simp only [Value.slice.injEq, true_and] at hv
    obtain ⟨rfl, rfl⟩ := hv
    have hi1 : (i : Int) < S.length := by omega
    have hi2 : (0 : Int) ≤ i := by omega
    have w1 : IntKind.i64.wrap ((i : Int) + 1) = ((i + 1 : Nat) : Int) := qc7 (by omega)
    have hi3 := q1i _ le
    have hx := h8 S[i] (List.getElem_mem hlt)
    have et : S.take (i + 1) = S.take i ++ [S[i]] := List.take_succ_eq_append_getElem hlt
    generalize S[i] = y at hi3 hx et
    simp -implicitDefEqProofs only [zA,reduceIte,reduceCtorEq,Nat.reduceEqDiff,Nat.reduceAdd,Nat.reduceMul,Nat.reduceLT,Nat.reduceSub,Int.reduceLT,Int.reduceLE,Int.reduceEq,Int.reduceNe,Int.reduceSub,Int.reduceAdd,Int.reduceMul,Int.reduceBEq,Int.reduceBNe,Int.reduceGT,Int.reduceGE,Nat.reduceGT,Int.reduceToNat,Int.reduceNeg,Nat.reduceLeDiff,Nat.reduceBEq,Nat.reduceBneDiff,hi1,hi2,Int.toNat_natCast,hi3]
    intro b6 hb6
    have s6 := stE G b6 hx
    unfold Z15 at s6
    try simp -implicitDefEqProofs only [zA,reduceIte,reduceCtorEq,Nat.reduceEqDiff,Nat.reduceAdd,Nat.reduceMul,Nat.reduceLT,Nat.reduceSub,Int.reduceLT,Int.reduceLE,Int.reduceEq,Int.reduceNe,Int.reduceSub,Int.reduceAdd,Int.reduceMul,Int.reduceBEq,Int.reduceBNe,Int.reduceGT,Int.reduceGE,Nat.reduceGT,Int.reduceToNat,Int.reduceNeg,Nat.reduceLeDiff,Nat.reduceBEq,Nat.reduceBneDiff,s6]
    have le6 : G.le (G.set b6 (.own 0 (edC y) 15)) := Heap.q0v (Heap.q0a _) hb6 _
    have A : EdAt (G.set b6 (.own 0 (edC y) 15)) b6 y := EdAt.of (Heap.q03 _ _ _) hx
    have ow6 := ow.le le6
    have leB := Heap.q05 le le6
    generalize (G.set b6 (.own 0 (edC y) 15)) = G6 at le6 A ow6 leB
    unfold q8g
    have hyes : qal S y = true → (S.take (i + 1)).filter (qal S) = (S.take i).filter (qal S) ++ [y] := fun h => by rw [et, List.filter_append]; simp [h]
    have hno : qal S y = false → (S.take (i + 1)).filter (qal S) = (S.take i).filter (qal S) := fun h => by rw [et, List.filter_append]; simp [h]
    by_cases k1 : y.kind = 1
    · simp -implicitDefEqProofs only [zA,reduceIte,reduceCtorEq,Nat.reduceEqDiff,Nat.reduceAdd,Nat.reduceMul,Nat.reduceLT,Nat.reduceSub,Int.reduceLT,Int.reduceLE,Int.reduceEq,Int.reduceNe,Int.reduceSub,Int.reduceAdd,Int.reduceMul,Int.reduceBEq,Int.reduceBNe,Int.reduceGT,Int.reduceGE,Nat.reduceGT,Int.reduceToNat,Int.reduceNeg,Nat.reduceLeDiff,Nat.reduceBEq,Nat.reduceBneDiff,e60,A.kind,k1]
      refine (qap E K h8 (by omega) (sl1.le leB) hx A.own).mono ?_
      rintro r G7 ⟨le7, rfl⟩
      have A7 := A.le hx le7
      have ow7 := ow6.le le7
      have leC := Heap.q05 leB le7
      cases g : S.any (fun a => qak a y) with
      | true =>
        have hp : qal S y = false := by simp [qal, g]
        simp -implicitDefEqProofs only [zA,reduceIte,reduceCtorEq,Nat.reduceEqDiff,Nat.reduceAdd,Nat.reduceMul,Nat.reduceLT,Nat.reduceSub,Int.reduceLT,Int.reduceLE,Int.reduceEq,Int.reduceNe,Int.reduceSub,Int.reduceAdd,Int.reduceMul,Int.reduceBEq,Int.reduceBNe,Int.reduceGT,Int.reduceGE,Nat.reduceGT,Int.reduceToNat,Int.reduceNeg,Nat.reduceLeDiff,Nat.reduceBEq,Nat.reduceBneDiff,w1]
        refine ⟨_, ?_, leC, i + 1, vl, rfl, by omega, rfl, ?_⟩
        · omega
        · rw [hno hp]; exact ow7
      | false =>
        have hp : qal S y = true := by simp [qal, g, k1]
        have hy15 := q46 hx
        simp -implicitDefEqProofs only [zA,reduceIte,reduceCtorEq,Nat.reduceEqDiff,Nat.reduceAdd,Nat.reduceMul,Nat.reduceLT,Nat.reduceSub,Int.reduceLT,Int.reduceLE,Int.reduceEq,Int.reduceNe,Int.reduceSub,Int.reduceAdd,Int.reduceMul,Int.reduceBEq,Int.reduceBNe,Int.reduceGT,Int.reduceGE,Nat.reduceGT,Int.reduceToNat,Int.reduceNeg,Nat.reduceLeDiff,Nat.reduceBEq,Nat.reduceBneDiff,A7.all,zf15,qmh,Z15_drop,hy15,List.append_nil]
        intro b8 hb8
        have le8 := Heap.q0v (Heap.q0a G7) hb8 (.own 0 (edC y) 15)
        try simp -implicitDefEqProofs only [zA,reduceIte,reduceCtorEq,Nat.reduceEqDiff,Nat.reduceAdd,Nat.reduceMul,Nat.reduceLT,Nat.reduceSub,Int.reduceLT,Int.reduceLE,Int.reduceEq,Int.reduceNe,Int.reduceSub,Int.reduceAdd,Int.reduceMul,Int.reduceBEq,Int.reduceBNe,Int.reduceGT,Int.reduceGE,Nat.reduceGT,Int.reduceToNat,Int.reduceNeg,Nat.reduceLeDiff,Nat.reduceBEq,Nat.reduceBneDiff]
        refine qbq (bytes := 144) (m := 1) (news := edC y) (Heap.q05 leC le8) (by decide) (ow7.le le8) (Sl.lit (n := 1) hy15) (qfx y) (by have := List.length_filter_le (qal S) (S.take i); rw [List.length_take] at this; omega) (by have := List.length_filter_le (qal S) (S.take i); rw [List.length_take] at this; omega) ?_
        intro v' h' ow9 le9
        simp -implicitDefEqProofs only [zA,reduceIte,reduceCtorEq,Nat.reduceEqDiff,Nat.reduceAdd,Nat.reduceMul,Nat.reduceLT,Nat.reduceSub,Int.reduceLT,Int.reduceLE,Int.reduceEq,Int.reduceNe,Int.reduceSub,Int.reduceAdd,Int.reduceMul,Int.reduceBEq,Int.reduceBNe,Int.reduceGT,Int.reduceGE,Nat.reduceGT,Int.reduceToNat,Int.reduceNeg,Nat.reduceLeDiff,Nat.reduceBEq,Nat.reduceBneDiff,w1]
        refine ⟨_, ?_, le9, i + 1, v', rfl, by omega, rfl, ?_⟩
        · omega
        · rw [hyes hp, List.flatMap_append, List.length_append]; simpa using ow9
    · have hp : qal S y = false := by simp [qal, k1]
      simp -implicitDefEqProofs only [zA,reduceIte,reduceCtorEq,Nat.reduceEqDiff,Nat.reduceAdd,Nat.reduceMul,Nat.reduceLT,Nat.reduceSub,Int.reduceLT,Int.reduceLE,Int.reduceEq,Int.reduceNe,Int.reduceSub,Int.reduceAdd,Int.reduceMul,Int.reduceBEq,Int.reduceBNe,Int.reduceGT,Int.reduceGE,Nat.reduceGT,Int.reduceToNat,Int.reduceNeg,Nat.reduceLeDiff,Nat.reduceBEq,Nat.reduceBneDiff,e60,A.kind,k1,w1]
      refine ⟨_, ?_, leB, i + 1, vl, rfl, by omega, rfl, ?_⟩
      · omega
      · rw [hno hp]; exact ow6
  · have hi1 : ¬ (i : Int) < S.length := by omega
    have e : i = S.length := by omega
    subst e
    rw [List.take_length] at ow
    have e63 := oev_fv K.f63
    simp -implicitDefEqProofs only [zA,reduceIte,reduceCtorEq,Nat.reduceEqDiff,Nat.reduceAdd,Nat.reduceMul,Nat.reduceLT,Nat.reduceSub,Int.reduceLT,Int.reduceLE,Int.reduceEq,Int.reduceNe,Int.reduceSub,Int.reduceAdd,Int.reduceMul,Int.reduceBEq,Int.reduceBNe,Int.reduceGT,Int.reduceGE,Nat.reduceGT,Int.reduceToNat,Int.reduceNeg,Nat.reduceLeDiff,Nat.reduceBEq,Nat.reduceBneDiff,hi1,e63]
    have hf8 : ∀ e ∈ S.filter (qal S), e.seen.length = 8 := fun e he => h8 e (List.mem_filter.1 he).1
    have hfl := List.length_filter_le (qal S) S
    refine (qjn E K hf8 ow (by omega) K.f63 qm6 (fun x => by rw [qdb]; exact q9c x) (fun x y z a b => by rw [qdb] at *; exact q81 a b) (fun x y z a b => by rw [qdb] at *; unfold q8j q59 at *; omega)
      (fun x y hx hy => (qhi E _ x y hx hy).mono fun r H' h => h.2)).mono ?_
    rintro u H2 ⟨S2, p2, s2, ow2, k2⟩
    simp -implicitDefEqProofs only [zA,reduceIte,reduceCtorEq,Nat.reduceEqDiff,Nat.reduceAdd,Nat.reduceMul,Nat.reduceLT,Nat.reduceSub,Int.reduceLT,Int.reduceLE,Int.reduceEq,Int.reduceNe,Int.reduceSub,Int.reduceAdd,Int.reduceMul,Int.reduceBEq,Int.reduceBNe,Int.reduceGT,Int.reduceGE,Nat.reduceGT,Int.reduceToNat,Int.reduceNeg,Nat.reduceLeDiff,Nat.reduceBEq,Nat.reduceBneDiff]
    have e2 : S2 = q9l S := by
      refine q8i q9c (fun x y z => q81) (p2.trans (q9p _ _).symm) ?_ (qeb B.ok)
      refine qas p2 (B.ok.apart.sublist List.filter_sublist) ?_
      exact s2.imp fun {x y} h => by rw [qdb] at h; exact h
    subst e2
    refine ⟨fun k x hx => ?_, ow2.since le1⟩
    have h1 := le1 k x hx
    rw [k2 k (by rw [h1]; simp)]
    exact le k x h1
end Go.Bb
namespace Go.Bb
set_option linter.unusedSimpArgs false
set_option linter.unusedVariables false
set_option maxRecDepth 20000
set_option maxHeartbeats 2000000
open Go.MapKept
deriving instance DecidableEq for Ed
theorem leafStr (a b : List UInt8) : qcz (strV a) (strV b) = decide (a = b) := by
  simp only [strV, qcz, qb9]
  rw [Bool.eq_iff_iff]; simp
theorem qa6 (e : Ed) (h8 : e.seen.length = 8) : q06 (List.replicate 11 (some IntKind.i64) ++ [none, none, none, some IntKind.i64]) (edC e) = true := by
  obtain ⟨dev, n, seen, kind, con, fld, val, time⟩ := e
  simp only at h8
  match seen, h8 with
  | [a, b, c, d, e, f, g, h], _ => rfl
theorem qa7 (x y : Ed) (hx : x.seen.length = 8) (hy : y.seen.length = 8) : q0e (edC x) (edC y) = decide (x = y) := by
  obtain ⟨dev, n, seen, kind, con, fld, val, time⟩ := x
  obtain ⟨dev', n', seen', kind', con', fld', val', time'⟩ := y
  simp only at hx hy
  match seen, hx, seen', hy with
  | [a, b, c, d, e, f, g, h], _, [a', b', c', d', e', f', g', h'], _ =>
    simp only [edC, List.map_cons, List.map_nil, List.cons_append, List.nil_append, q0e, leafStr]
    simp only [qcz]
    rw [Bool.eq_iff_iff]
    simp
    intro _ _
    simp only [and_assoc]
abbrev KD : KeyT := .agg [some .i64, some .i64]
def dotK (d n : Int) : Value := .agg #[.int .i64 d, .int .i64 n]
def q97 (L : List Ed) (d n : Int) : Option Ed := L.find? fun x => decide (x.dev = d ∧ x.n = n)
theorem keyD (d n d' n' : Int) : keyV KD (dotK d n) (dotK d' n') = some (decide (d' = d ∧ n' = n)) := by
  simp only [keyV, dotK, q06, q8t, q0e, qcz, decide_true, Bool.and_true, if_true]
  congr 1
  rw [Bool.eq_iff_iff]
  simp
  omega
theorem qbk {d n : Int} : ∀ {es : List MapEntry} {L : List Ed} (i : Nat), EntB es L → q97 L d n = none → q6e KD (dotK d n) es i = some none
  | [], _, _, _, _ => rfl
  | e :: es, [], i, h, _ => by simp [EntB] at h
  | e :: es, x :: L, i, h, hn => by
      simp only [EntB, List.map_cons, List.cons.injEq, Prod.mk.injEq] at h
      obtain ⟨⟨h1, h2⟩, h3⟩ := h
      unfold q97 at hn
      rw [List.find?_cons] at hn
      have hx : ¬ (x.dev = d ∧ x.n = n) := by
        intro q
        simp [q] at hn
      unfold q6e
      rw [h1, show dotV x = dotK x.dev x.n from rfl, keyD, decide_eq_false hx]
      exact qbk (i + 1) h3 (by simpa [q97, hx] using hn)
theorem qbj {d n : Int} {w : Ed} : ∀ {es : List MapEntry} {L : List Ed} (i : Nat), EntB es L → q97 L d n = some w → ∃ j, q6e KD (dotK d n) es i = some (some (j, edV w))
  | [], [], _, _, hs => by simp [q97] at hs
  | [], _ :: _, _, h, _ => by simp [EntB] at h
  | e :: es, [], i, h, _ => by simp [EntB] at h
  | e :: es, x :: L, i, h, hs => by
      simp only [EntB, List.map_cons, List.cons.injEq, Prod.mk.injEq] at h
      obtain ⟨⟨h1, h2⟩, h3⟩ := h
      unfold q97 at hs
      rw [List.find?_cons] at hs
      unfold q6e
      rw [h1, show dotV x = dotK x.dev x.n from rfl, keyD]
      by_cases hx : x.dev = d ∧ x.n = n
      · rw [decide_eq_true hx]
        have hw : x = w := by simpa [hx] using hs
        exact ⟨i, by rw [h2, hw]⟩
      · rw [decide_eq_false hx]
        exact qbj (i + 1) h3 (by simpa [q97, hx] using hs)
theorem q8c {S : List Ed} {d n : Int} : q97 S d n = none ↔ ∀ x ∈ S, ¬ (x.dev = d ∧ x.n = n) := by
  unfold q97; rw [List.find?_eq_none]; simp
theorem getD_some {S : List Ed} {d n : Int} {w : Ed} (h : q97 S d n = some w) : w ∈ S ∧ w.dev = d ∧ w.n = n := by
  unfold q97 at h
  exact ⟨List.mem_of_find?_eq_some h, by simpa using List.find?_some h⟩
theorem qfs {L S : List Ed} (p : L.Perm S) (ok : BkS S) (d n : Int) : q97 L d n = q97 S d n := by
  cases hs : q97 S d n with
  | none =>
    rw [q8c] at hs ⊢
    exact fun x hx => hs x (p.mem_iff.1 hx)
  | some w =>
    cases hl : q97 L d n with
    | none =>
      rw [q8c] at hl
      have := getD_some hs
      exact absurd this.2 (hl w (p.mem_iff.2 this.1))
    | some v =>
      have h1 := getD_some hs
      have h2 := getD_some hl
      rw [ok.tot (p.mem_iff.1 h2.1) h1.1 (by rw [h2.2.1, h1.2.1]) (by rw [h2.2.2, h1.2.2])]
def addB (S : List Ed) (e : Ed) : List Ed × Int :=
  if qac e = true then
    match q97 S e.dev e.n with
    | some old => if old = e then (S, 0) else (S, 10)
    | none => if 500 ≤ S.length then (S, 2) else (insR q59 e S, 0)
  else (S, 1)
theorem BkS.ins {S : List Ed} (ok : BkS S) {e : Ed} (hg : qac e = true) (h8 : e.seen.length = 8) (hn : q97 S e.dev e.n = none) (hl : ¬ 500 ≤ S.length) : BkS (insR q59 e S) := by
  have hp := q58 q59 e S
  rw [q8c] at hn
  refine ⟨qab (fun x y z => @qad x y z) ok.rise fun x hx => ?_, fun x hx => ?_, fun x hx => ?_, ?_⟩
  · have := hn x hx
    unfold q59; omega
  · rcases List.mem_cons.1 (hp.mem_iff.1 hx) with h | h
    · rw [h]; exact hg
    · exact ok.good x h
  · rcases List.mem_cons.1 (hp.mem_iff.1 hx) with h | h
    · rw [h]; exact h8
    · exact ok.h8 x h
  · rw [hp.length_eq, List.length_cons]; omega
theorem qgu (E : EnvT tab) (h : Heap) : ACallN E.toEnv qka [] h fun v h' => h.le h' ∧ ∃ b r, v = .pointer (some ⟨b, 0, none⟩) ∧ h b = none ∧ h r = none ∧ BookAt h' b r [] := by
  refine q2r qdx qa9 rfl rfl (q02 ?_)
  unfold qa9
  simp -implicitDefEqProofs only [zA,reduceIte,reduceCtorEq,Nat.reduceEqDiff,Nat.reduceAdd,Nat.reduceMul,Nat.reduceLT,Nat.reduceSub,Int.reduceLT,Int.reduceLE,Int.reduceEq,Int.reduceNe,Int.reduceSub,Int.reduceAdd,Int.reduceMul,Int.reduceBEq,Int.reduceBNe,Int.reduceGT,Int.reduceGE,Nat.reduceGT,Int.reduceToNat,Int.reduceNeg,Nat.reduceLeDiff,Nat.reduceBEq,Nat.reduceBneDiff]
  intro b hb
  try simp -implicitDefEqProofs only [zA,reduceIte,reduceCtorEq,Nat.reduceEqDiff,Nat.reduceAdd,Nat.reduceMul,Nat.reduceLT,Nat.reduceSub,Int.reduceLT,Int.reduceLE,Int.reduceEq,Int.reduceNe,Int.reduceSub,Int.reduceAdd,Int.reduceMul,Int.reduceBEq,Int.reduceBNe,Int.reduceGT,Int.reduceGE,Nat.reduceGT,Int.reduceToNat,Int.reduceNeg,Nat.reduceLeDiff,Nat.reduceBEq,Nat.reduceBneDiff]
  intro r hr
  try simp -implicitDefEqProofs only [zA,reduceIte,reduceCtorEq,Nat.reduceEqDiff,Nat.reduceAdd,Nat.reduceMul,Nat.reduceLT,Nat.reduceSub,Int.reduceLT,Int.reduceLE,Int.reduceEq,Int.reduceNe,Int.reduceSub,Int.reduceAdd,Int.reduceMul,Int.reduceBEq,Int.reduceBNe,Int.reduceGT,Int.reduceGE,Nat.reduceGT,Int.reduceToNat,Int.reduceNeg,Nat.reduceLeDiff,Nat.reduceBEq,Nat.reduceBneDiff]
  have ne : r ≠ b := by intro e; subst e; rw [Heap.q03] at hr; cases hr
  have hr' : h r = none := by rw [Heap.q42 ne] at hr; exact hr
  refine ⟨Heap.qg9 (Heap.q0v (Heap.q0a _) hb _) hr _, r, b, rfl, hr', hb, ne, Heap.q03 _ _ _, ⟨#[], 0, [], by rw [Heap.q42 ne.symm, Heap.q03], rfl, List.Perm.refl _, stamped_empty _⟩, BkS.nil⟩
def Keep (r : Nat) (H H' : Heap) : Prop := ∀ k x, H k = some x → k ≠ r → H' k = some x
theorem Keep.of_le {r : Nat} {H H' : Heap} (le : H.le H') : Keep r H H' := fun k x h _ => le k x h
theorem qbo (E : EnvT tab) {H : Heap} {b r : Nat} {S : List Ed} (B : BookAt H b r S) (e : Ed) (h8 : e.seen.length = 8) (hc : e.con.length ≤ 9223372036854775807) (hf : e.fld.length ≤ 9223372036854775807) (hn : -9223372036854775808 ≤ e.n) (hn2 : e.n ≤ 9223372036854775807) :
    ACallN E.toEnv qfj [.pointer (some ⟨b, 0, none⟩), edV e] H fun v H' => v = .int .i64 (addB S e).2 ∧ BookAt H' b r (addB S e).1 ∧ Keep r H H' := by
  refine q2r q94 q6j rfl rfl (q02 ?_)
  unfold q6j edV
  have el := q46 h8
  simp -implicitDefEqProofs only [zA,reduceIte,reduceCtorEq,Nat.reduceEqDiff,Nat.reduceAdd,Nat.reduceMul,Nat.reduceLT,Nat.reduceSub,Int.reduceLT,Int.reduceLE,Int.reduceEq,Int.reduceNe,Int.reduceSub,Int.reduceAdd,Int.reduceMul,Int.reduceBEq,Int.reduceBNe,Int.reduceGT,Int.reduceGE,Nat.reduceGT,Int.reduceToNat,Int.reduceNeg,Nat.reduceLeDiff,Nat.reduceBEq,Nat.reduceBneDiff]
  intro b3 hb3
  try simp -implicitDefEqProofs only [zA,reduceIte,reduceCtorEq,Nat.reduceEqDiff,Nat.reduceAdd,Nat.reduceMul,Nat.reduceLT,Nat.reduceSub,Int.reduceLT,Int.reduceLE,Int.reduceEq,Int.reduceNe,Int.reduceSub,Int.reduceAdd,Int.reduceMul,Int.reduceBEq,Int.reduceBNe,Int.reduceGT,Int.reduceGE,Nat.reduceGT,Int.reduceToNat,Int.reduceNeg,Nat.reduceLeDiff,Nat.reduceBEq,Nat.reduceBneDiff]
  rw [el]
  have le3 := Heap.q0v (Heap.q0a H) hb3 (.own 0 (edC e) 15)
  have A : EdAt (H.set b3 (.own 0 (edC e) 15)) b3 e := EdAt.of (Heap.q03 _ _ _) h8
  have B3 := B.le le3
  generalize (H.set b3 (.own 0 (edC e) 15)) = G at le3 A B3
  simp -implicitDefEqProofs only [zA,reduceIte,reduceCtorEq,Nat.reduceEqDiff,Nat.reduceAdd,Nat.reduceMul,Nat.reduceLT,Nat.reduceSub,Int.reduceLT,Int.reduceLE,Int.reduceEq,Int.reduceNe,Int.reduceSub,Int.reduceAdd,Int.reduceMul,Int.reduceBEq,Int.reduceBNe,Int.reduceGT,Int.reduceGE,Nat.reduceGT,Int.reduceToNat,Int.reduceNeg,Nat.reduceLeDiff,Nat.reduceBEq,Nat.reduceBneDiff,A.all]
  refine (qk5 E G e h8 hc hf hn hn2).mono ?_
  rintro v G1 ⟨le1, rfl⟩
  have A1 := A.le h8 le1
  have B1 := B3.le le1
  have leX := Heap.q05 le3 le1
  cases hg : qac e with
  | false =>
    have ea : addB S e = (S, 1) := by simp [addB, hg]
    rw [ea]
    simp -implicitDefEqProofs only [zA,reduceIte,reduceCtorEq,Nat.reduceEqDiff,Nat.reduceAdd,Nat.reduceMul,Nat.reduceLT,Nat.reduceSub,Int.reduceLT,Int.reduceLE,Int.reduceEq,Int.reduceNe,Int.reduceSub,Int.reduceAdd,Int.reduceMul,Int.reduceBEq,Int.reduceBNe,Int.reduceGT,Int.reduceGE,Nat.reduceGT,Int.reduceToNat,Int.reduceNeg,Nat.reduceLeDiff,Nat.reduceBEq,Nat.reduceBneDiff]
    exact ⟨B1, Keep.of_le leX⟩
  | true =>
    obtain ⟨es, c, L, qr, en, hp, st⟩ := B1.qr
    have cb : q1i G1 ⟨b, 0, none⟩ = some (.map (some r)) := by rw [q3o B1.qb (by simp)]; rfl
    have ma : q5a G1 r = some (es, c) := by simp [q5a, qr]
    have kf : q8u (.agg [some IntKind.i64, some IntKind.i64]) (.agg #[Value.int .i64 e.dev, Value.int .i64 e.n]) = some () := rfl
    have hL : es.size = S.length := by
      have := congrArg List.length en
      simp only [List.length_map, Array.length_toList] at this
      rw [this, hp.length_eq]
    have hgp := qfs hp B1.ok e.dev e.n
    have fl : ∀ (d n : Int) (es : List MapEntry), q6e (.agg [some IntKind.i64, some IntKind.i64]) (.agg [Value.int .i64 d, Value.int .i64 n].toArray) es 0 = q6e KD (dotK d n) es 0 := fun _ _ _ => rfl
    unfold addB
    rw [if_pos hg]
    cases hgd : q97 S e.dev e.n with
    | none =>
      rw [hgd] at hgp
      have fv := qbk 0 en hgp
      simp -implicitDefEqProofs only [zA,reduceIte,reduceCtorEq,Nat.reduceEqDiff,Nat.reduceAdd,Nat.reduceMul,Nat.reduceLT,Nat.reduceSub,Int.reduceLT,Int.reduceLE,Int.reduceEq,Int.reduceNe,Int.reduceSub,Int.reduceAdd,Int.reduceMul,Int.reduceBEq,Int.reduceBNe,Int.reduceGT,Int.reduceGE,Nat.reduceGT,Int.reduceToNat,Int.reduceNeg,Nat.reduceLeDiff,Nat.reduceBEq,Nat.reduceBneDiff,cb,A1.dot,ma,fl,fv,kf]
      intro b5 hb5
      have s5 : q88 (G1.set b5 (.own 0 Z15 Z15.length)) 15 (.pointer (some ⟨b5, 0, none⟩)) (.agg Z15.toArray) = some (G1.set b5 (.own 0 Z15 15)) := z6z (by decide) rfl rfl rfl (by decide)
      unfold Z15 at s5
      simp -implicitDefEqProofs only [zA,reduceIte,reduceCtorEq,Nat.reduceEqDiff,Nat.reduceAdd,Nat.reduceMul,Nat.reduceLT,Nat.reduceSub,Int.reduceLT,Int.reduceLE,Int.reduceEq,Int.reduceNe,Int.reduceSub,Int.reduceAdd,Int.reduceMul,Int.reduceBEq,Int.reduceBNe,Int.reduceGT,Int.reduceGE,Nat.reduceGT,Int.reduceToNat,Int.reduceNeg,Nat.reduceLeDiff,Nat.reduceBEq,Nat.reduceBneDiff,s5]
      have le5 := Heap.q0v (Heap.q0a G1) hb5 (.own 0 (List.replicate 11 (.int .i64 0) ++ [.string .empty, .string .empty, .string .empty, .int .i64 0]) 15)
      have B5 := B1.le le5
      have qr5 := le5 _ _ qr
      have A5 := A1.le h8 le5
      have leY := Heap.q05 leX le5
      generalize (G1.set b5 (.own 0 (List.replicate 11 (.int .i64 0) ++ [.string .empty, .string .empty, .string .empty, .int .i64 0]) 15)) = G5 at le5 B5 qr5 A5 leY
      unfold q6x
      simp -implicitDefEqProofs only [zA,reduceIte,reduceCtorEq,Nat.reduceEqDiff,Nat.reduceAdd,Nat.reduceMul,Nat.reduceLT,Nat.reduceSub,Int.reduceLT,Int.reduceLE,Int.reduceEq,Int.reduceNe,Int.reduceSub,Int.reduceAdd,Int.reduceMul,Int.reduceBEq,Int.reduceBNe,Int.reduceGT,Int.reduceGE,Nat.reduceGT,Int.reduceToNat,Int.reduceNeg,Nat.reduceLeDiff,Nat.reduceBEq,Nat.reduceBneDiff]
      unfold q8z
      have cb5 : q1i G5 ⟨b, 0, none⟩ = some (.map (some r)) := by rw [q3o B5.qb (by simp)]; rfl
      have ma5 : q5a G5 r = some (es, c) := by simp [q5a, qr5]
      by_cases g5 : 500 ≤ S.length
      · have g5' : (500 : Int) ≤ (es.size : Int) := by rw [hL]; omega
        simp -implicitDefEqProofs only [zA,reduceIte,reduceCtorEq,Nat.reduceEqDiff,Nat.reduceAdd,Nat.reduceMul,Nat.reduceLT,Nat.reduceSub,Int.reduceLT,Int.reduceLE,Int.reduceEq,Int.reduceNe,Int.reduceSub,Int.reduceAdd,Int.reduceMul,Int.reduceBEq,Int.reduceBNe,Int.reduceGT,Int.reduceGE,Nat.reduceGT,Int.reduceToNat,Int.reduceNeg,Nat.reduceLeDiff,Nat.reduceBEq,Nat.reduceBneDiff,cb5,ma5,g5',g5]
        exact ⟨fun _ _ => trivial, B5, Keep.of_le leY⟩
      · have g5' : ¬ (500 : Int) ≤ (es.size : Int) := by rw [hL]; omega
        have mu : qlk G5 (.agg [some IntKind.i64, some IntKind.i64]) (.map (some r)) (.agg [Value.int .i64 e.dev, Value.int .i64 e.n].toArray) (.agg (edC e).toArray) = some (G5.set r (.obj (.map (es.push { key := dotV e, val := edV e, born := c }) (c + 1)))) := by
          simp only [qlk, qr5, kf, fl, fv]
          rfl
        simp -implicitDefEqProofs only [zA,reduceIte,reduceCtorEq,Nat.reduceEqDiff,Nat.reduceAdd,Nat.reduceMul,Nat.reduceLT,Nat.reduceSub,Int.reduceLT,Int.reduceLE,Int.reduceEq,Int.reduceNe,Int.reduceSub,Int.reduceAdd,Int.reduceMul,Int.reduceBEq,Int.reduceBNe,Int.reduceGT,Int.reduceGE,Nat.reduceGT,Int.reduceToNat,Int.reduceNeg,Nat.reduceLeDiff,Nat.reduceBEq,Nat.reduceBneDiff,cb5,ma5,g5',g5,A5.dot,A5.all,mu]
        refine ⟨fun _ _ => trivial, ⟨B5.ne, by rw [Heap.q42 B5.ne]; exact B5.qb, ⟨_, _, L ++ [e], Heap.q03 _ _ _, ?_, ?_, ?_⟩, B5.ok.ins hg h8 hgd g5⟩, fun k x hx hk => ?_⟩
        · unfold EntB at en ⊢
          rw [Array.toList_push, List.map_append, List.map_append, en]
          rfl
        · refine List.Perm.trans ?_ (q58 q59 e S).symm
          exact (List.perm_append_comm).trans (hp.cons e)
        · refine stamped_push st fun x hx hke => ?_
          have h1 : (x.key, x.val) ∈ es.toList.map (fun e => (e.key, e.val)) := List.mem_map_of_mem hx
          unfold EntB at en
          rw [en] at h1
          obtain ⟨y, hy, he⟩ := List.mem_map.1 h1
          simp only [Prod.mk.injEq] at he
          rw [q8c] at hgp
          have h2 : dotV y = dotV e := by rw [he.1]; exact hke
          simp only [dotV, Value.agg.injEq] at h2
          refine hgp y hy ?_
          simpa using h2
        · rw [Heap.q42 hk]; exact leY k x hx
    | some old =>
      rw [hgd] at hgp
      obtain ⟨j, fv⟩ := qbj 0 en hgp
      have ho8 : old.seen.length = 8 := B1.ok.h8 old (getD_some hgd).1
      unfold edV at fv
      simp -implicitDefEqProofs only [zA,reduceIte,reduceCtorEq,Nat.reduceEqDiff,Nat.reduceAdd,Nat.reduceMul,Nat.reduceLT,Nat.reduceSub,Int.reduceLT,Int.reduceLE,Int.reduceEq,Int.reduceNe,Int.reduceSub,Int.reduceAdd,Int.reduceMul,Int.reduceBEq,Int.reduceBNe,Int.reduceGT,Int.reduceGE,Nat.reduceGT,Int.reduceToNat,Int.reduceNeg,Nat.reduceLeDiff,Nat.reduceBEq,Nat.reduceBneDiff,cb,A1.dot,ma,fl,fv,kf]
      intro b5 hb5
      have s5 := stE G1 b5 ho8
      unfold Z15 at s5
      simp -implicitDefEqProofs only [zA,reduceIte,reduceCtorEq,Nat.reduceEqDiff,Nat.reduceAdd,Nat.reduceMul,Nat.reduceLT,Nat.reduceSub,Int.reduceLT,Int.reduceLE,Int.reduceEq,Int.reduceNe,Int.reduceSub,Int.reduceAdd,Int.reduceMul,Int.reduceBEq,Int.reduceBNe,Int.reduceGT,Int.reduceGE,Nat.reduceGT,Int.reduceToNat,Int.reduceNeg,Nat.reduceLeDiff,Nat.reduceBEq,Nat.reduceBneDiff,s5]
      have le5 := Heap.q0v (Heap.q0a G1) hb5 (.own 0 (edC old) 15)
      have O5 : EdAt (G1.set b5 (.own 0 (edC old) 15)) b5 old := EdAt.of (Heap.q03 _ _ _) ho8
      have B5 := B1.le le5
      have A5 := A1.le h8 le5
      have leY := Heap.q05 leX le5
      generalize (G1.set b5 (.own 0 (edC old) 15)) = G5 at le5 B5 O5 A5 leY
      unfold q6x
      have k1 := qa6 old ho8
      have k2 := qa6 e h8
      have k3 := qa7 old e ho8 h8
      by_cases oe : old = e
      · subst oe
        have k3' : q0e (edC old) (edC old) = true := by rw [k3]; simp
        simp -implicitDefEqProofs only [zA,reduceIte,reduceCtorEq,Nat.reduceEqDiff,Nat.reduceAdd,Nat.reduceMul,Nat.reduceLT,Nat.reduceSub,Int.reduceLT,Int.reduceLE,Int.reduceEq,Int.reduceNe,Int.reduceSub,Int.reduceAdd,Int.reduceMul,Int.reduceBEq,Int.reduceBNe,Int.reduceGT,Int.reduceGE,Nat.reduceGT,Int.reduceToNat,Int.reduceNeg,Nat.reduceLeDiff,Nat.reduceBEq,Nat.reduceBneDiff,O5.all,A5.all,k1,k2,k3']
        exact ⟨fun _ _ => trivial, B5, Keep.of_le leY⟩
      · have k3' : q0e (edC old) (edC e) = false := by rw [k3]; simp [oe]
        simp -implicitDefEqProofs only [zA,reduceIte,reduceCtorEq,Nat.reduceEqDiff,Nat.reduceAdd,Nat.reduceMul,Nat.reduceLT,Nat.reduceSub,Int.reduceLT,Int.reduceLE,Int.reduceEq,Int.reduceNe,Int.reduceSub,Int.reduceAdd,Int.reduceMul,Int.reduceBEq,Int.reduceBNe,Int.reduceGT,Int.reduceGE,Nat.reduceGT,Int.reduceToNat,Int.reduceNeg,Nat.reduceLeDiff,Nat.reduceBEq,Nat.reduceBneDiff,O5.all,A5.all,k1,k2,k3',oe]
        exact ⟨fun _ _ => trivial, B5, Keep.of_le leY⟩
end Go.Bb
namespace Go.Bb
set_option linter.unusedSimpArgs false
set_option linter.unusedVariables false
set_option maxRecDepth 20000
set_option maxHeartbeats 2000000
open Go.MapKept
abbrev Str := List UInt8
def q7t (l : List Str) : List Str := l.mergeSort fun x y => decide (x ≤ y)
theorem q8m (l : List Str) : (q7t l).length = l.length := by simp [q7t]
theorem qhx (E : EnvT tab) (K : BkOk E) {h0 H : Heap} {v : Value} {L : List Str} (s : Ow h0 H 1 v L.length (L.map strV)) (hl : L.length ≤ 100000) :
    ACallN E.toEnv q29 [v] H fun r H' => Ow h0 H' 1 v (q7t L).length ((q7t L).map strV) ∧ (∀ b, h0 b ≠ none → H' b = H b) := by
  rcases s with ⟨rfl, hn, hc⟩ | ⟨b, o, c, sz, st, pre, rest, rfl, h2, h3, h4, h5, h6, h7⟩
  · have : L = [] := List.eq_nil_of_length_eq_zero hn
    subst this
    refine (qk1 E H).mono ?_
    rintro r H' rfl
    exact ⟨by simp [q7t]; exact Ow.nil _ _ _, fun _ _ => rfl⟩
  · intro f hf
    rw [K.f49] at hf
    cases hf
    refine qh0 E.toEnv K.P L h4 h5 hl ?_
    refine ⟨.inr ⟨b, o, c, sz, st, pre, rest, by rw [q8m], by rw [q8m]; exact h2, h3, by rw [Heap.q03]; rfl, h5, by simp, h7⟩, fun k hk => ?_⟩
    rw [Heap.q42 (fun e => hk (by rw [e]; exact h3))]
theorem qeh (E : EnvT tab) (K : BkOk E) {h0 H : Heap} {v : Value} {L : List Str} (s : Ow h0 H 1 v L.length (L.map strV)) (hl : L.length ≤ 100000) :
    ACallN E.toEnv q3w [v] H fun r H' => Ow h0 H' 1 r (Lib.compact L).length ((Lib.compact L).map strV) ∧ (∀ b, h0 b ≠ none → H' b = H b) := by
  rcases s with ⟨rfl, hn, hc⟩ | ⟨b, o, c, sz, st, pre, rest, rfl, h2, h3, h4, h5, h6, h7⟩
  · have : L = [] := List.eq_nil_of_length_eq_zero hn
    subst this
    intro f hf
    rw [K.f50] at hf
    cases hf
    exact qgd E.toEnv K.P ⟨Ow.nil _ _ _, fun _ _ => rfl⟩
  · intro f hf
    rw [K.f50] at hf
    cases hf
    have hle := Lib.compact_length_le L
    refine qet E.toEnv K.P L h4 h5 hl h2 ?_
    refine ⟨.inr ⟨b, o, c, sz, st, pre, List.replicate (L.length - (Lib.compact L).length) (strV []) ++ rest, rfl, by omega, h3, by rw [Heap.q03]; simp, h5, by simp, h7⟩, fun k hk => ?_⟩
    rw [Heap.q42 (fun e => hk (by rw [e]; exact h3))]
def qit (l : List Str) : List Str := Lib.compact (q7t l)
theorem qd4 {H H1 H2 : Heap} (le : H.le H1) (k : ∀ b, H b ≠ none → H2 b = H1 b) : H.le H2 := fun b x h => by
  rw [k b (by rw [h]; simp)]; exact le b x h
def allB (S : List Ed) (con fld : Str) : List Str := ((q9l S).filter fun e => decide (e.con = con) && decide (e.fld = fld)).map (·.val)
theorem q8q (S : List Ed) : (q9l S).length ≤ S.length := by
  unfold q9l
  rw [(q9p _ _).length_eq]
  exact List.length_filter_le _ _
theorem qh7 {S : List Ed} (ok : BkS S) : ∀ e ∈ q9l S, e.seen.length = 8 := fun e he => ok.h8 e (qia.1 he).1
theorem qbn (E : EnvT tab) (K : BkOk E) {H : Heap} {b r : Nat} {S : List Ed} (B : BookAt H b r S) (con fld : Str) :
    ACallN E.toEnv qfi [.pointer (some ⟨b, 0, none⟩), strV con, strV fld] H fun v H' => H.le H' ∧ Ow H H' 1 v (allB S con fld).length ((allB S con fld).map strV) := by
  refine q2r q93 q6i rfl rfl (q02 ?_)
  unfold q6i
  have hS := B.ok.len
  have hl := q8q S
  have h8 := qh7 B.ok
  simp -implicitDefEqProofs only [zA,reduceIte,reduceCtorEq,Nat.reduceEqDiff,Nat.reduceAdd,Nat.reduceMul,Nat.reduceLT,Nat.reduceSub,Int.reduceLT,Int.reduceLE,Int.reduceEq,Int.reduceNe,Int.reduceSub,Int.reduceAdd,Int.reduceMul,Int.reduceBEq,Int.reduceBNe,Int.reduceGT,Int.reduceGE,Nat.reduceGT,Int.reduceToNat,Int.reduceNeg,Nat.reduceLeDiff,Nat.reduceBEq,Nat.reduceBneDiff]
  refine (qco E K B).mono ?_
  rintro v H1 ⟨le1, ow1⟩
  have sl1 := ow1.sl
  obtain ⟨base, c, rfl⟩ := sl1.shape
  unfold allB
  generalize q9l S = L at hl h8 ow1 sl1 ⊢
  simp -implicitDefEqProofs only [zA,reduceIte,reduceCtorEq,Nat.reduceEqDiff,Nat.reduceAdd,Nat.reduceMul,Nat.reduceLT,Nat.reduceSub,Int.reduceLT,Int.reduceLE,Int.reduceEq,Int.reduceNe,Int.reduceSub,Int.reduceAdd,Int.reduceMul,Int.reduceBEq,Int.reduceBNe,Int.reduceGT,Int.reduceGE,Nat.reduceGT,Int.reduceToNat,Int.reduceNeg,Nat.reduceLeDiff,Nat.reduceBEq,Nat.reduceBneDiff]
  refine q1p (fun m t G => H1.le G ∧ ∃ (i : Nat) (vl : Value), t = tl [(1, strV con), (2, strV fld), (7, vl), (11, .slice base L.length c), (12, .int .i64 L.length), (13, .int .i64 i)] ∧ i ≤ L.length ∧ m = L.length - i ∧ Ow H1 G 1 vl (((L.take i).filter fun e => decide (e.con = con) && decide (e.fld = fld)).map (·.val)).length ((((L.take i).filter fun e => decide (e.con = con) && decide (e.fld = fld)).map (·.val)).map strV)) L.length
    ⟨Heap.q0a _, 0, _, rfl, by omega, by omega, Ow.nil _ _ _⟩ ?_
  rintro m t G ⟨le, i, vl, rfl, hi, rfl, ow⟩
  by_cases hlt : i < L.length
  · obtain ⟨bs, o, c', hv, hc, q1i⟩ := sl1.edAt h8 i hlt
    simp only [Value.slice.injEq, true_and] at hv
    obtain ⟨rfl, rfl⟩ := hv
    have hi1 : (i : Int) < L.length := by omega
    have hi2 : (0 : Int) ≤ i := by omega
    have w1 : IntKind.i64.wrap ((i : Int) + 1) = ((i + 1 : Nat) : Int) := qc7 (by omega)
    have hi3 := q1i _ le
    have hx := h8 L[i] (List.getElem_mem hlt)
    have et : L.take (i + 1) = L.take i ++ [L[i]] := List.take_succ_eq_append_getElem hlt
    generalize L[i] = y at hi3 hx et
    simp -implicitDefEqProofs only [zA,reduceIte,reduceCtorEq,Nat.reduceEqDiff,Nat.reduceAdd,Nat.reduceMul,Nat.reduceLT,Nat.reduceSub,Int.reduceLT,Int.reduceLE,Int.reduceEq,Int.reduceNe,Int.reduceSub,Int.reduceAdd,Int.reduceMul,Int.reduceBEq,Int.reduceBNe,Int.reduceGT,Int.reduceGE,Nat.reduceGT,Int.reduceToNat,Int.reduceNeg,Nat.reduceLeDiff,Nat.reduceBEq,Nat.reduceBneDiff,hi1]
    unfold q8y
    simp -implicitDefEqProofs only [zA,reduceIte,reduceCtorEq,Nat.reduceEqDiff,Nat.reduceAdd,Nat.reduceMul,Nat.reduceLT,Nat.reduceSub,Int.reduceLT,Int.reduceLE,Int.reduceEq,Int.reduceNe,Int.reduceSub,Int.reduceAdd,Int.reduceMul,Int.reduceBEq,Int.reduceBNe,Int.reduceGT,Int.reduceGE,Nat.reduceGT,Int.reduceToNat,Int.reduceNeg,Nat.reduceLeDiff,Nat.reduceBEq,Nat.reduceBneDiff,hi1,hi2,Int.toNat_natCast,hi3]
    intro b6 hb6
    have s6 := stE G b6 hx
    unfold Z15 at s6
    try simp -implicitDefEqProofs only [zA,reduceIte,reduceCtorEq,Nat.reduceEqDiff,Nat.reduceAdd,Nat.reduceMul,Nat.reduceLT,Nat.reduceSub,Int.reduceLT,Int.reduceLE,Int.reduceEq,Int.reduceNe,Int.reduceSub,Int.reduceAdd,Int.reduceMul,Int.reduceBEq,Int.reduceBNe,Int.reduceGT,Int.reduceGE,Nat.reduceGT,Int.reduceToNat,Int.reduceNeg,Nat.reduceLeDiff,Nat.reduceBEq,Nat.reduceBneDiff,s6]
    have le6 : G.le (G.set b6 (.own 0 (edC y) 15)) := Heap.q0v (Heap.q0a _) hb6 _
    have A : EdAt (G.set b6 (.own 0 (edC y) 15)) b6 y := EdAt.of (Heap.q03 _ _ _) hx
    have ow6 := ow.le le6
    have leB := Heap.q05 le le6
    generalize (G.set b6 (.own 0 (edC y) 15)) = G6 at le6 A ow6 leB
    have e1 := qf6 y.con con
    have e2 := qf6 y.fld fld
    have hn : ((L.take i).filter fun e => decide (e.con = con) && decide (e.fld = fld)).length ≤ i := by
      have := List.length_filter_le (fun e : Ed => decide (e.con = con) && decide (e.fld = fld)) (L.take i)
      rw [List.length_take] at this; omega
    have no : (decide (y.con = con) && decide (y.fld = fld)) = false → Ow H1 G6 1 vl (((L.take (i + 1)).filter fun e => decide (e.con = con) && decide (e.fld = fld)).map (·.val)).length ((((L.take (i + 1)).filter fun e => decide (e.con = con) && decide (e.fld = fld)).map (·.val)).map strV) := fun h => by
      rw [et, List.filter_append]
      simp only [List.filter_cons, h, List.filter_nil, List.append_nil, Bool.false_eq_true, if_false]
      exact ow6
    by_cases g1 : y.con = con
    · rw [decide_eq_true g1] at e1
      by_cases g2 : y.fld = fld
      · rw [decide_eq_true g2] at e2
        simp -implicitDefEqProofs only [zA,reduceIte,reduceCtorEq,Nat.reduceEqDiff,Nat.reduceAdd,Nat.reduceMul,Nat.reduceLT,Nat.reduceSub,Int.reduceLT,Int.reduceLE,Int.reduceEq,Int.reduceNe,Int.reduceSub,Int.reduceAdd,Int.reduceMul,Int.reduceBEq,Int.reduceBNe,Int.reduceGT,Int.reduceGE,Nat.reduceGT,Int.reduceToNat,Int.reduceNeg,Nat.reduceLeDiff,Nat.reduceBEq,Nat.reduceBneDiff,A.con,e1,A.fld,e2,A.val]
        intro b8 hb8
        try simp -implicitDefEqProofs only [zA,reduceIte,reduceCtorEq,Nat.reduceEqDiff,Nat.reduceAdd,Nat.reduceMul,Nat.reduceLT,Nat.reduceSub,Int.reduceLT,Int.reduceLE,Int.reduceEq,Int.reduceNe,Int.reduceSub,Int.reduceAdd,Int.reduceMul,Int.reduceBEq,Int.reduceBNe,Int.reduceGT,Int.reduceGE,Nat.reduceGT,Int.reduceToNat,Int.reduceNeg,Nat.reduceLeDiff,Nat.reduceBEq,Nat.reduceBneDiff]
        have le8 := Heap.q0v (Heap.q0a G6) hb8 (.own 0 [strV y.val] 1)
        refine qbq (bytes := 16) (m := 1) (news := [strV y.val]) (Heap.q05 leB le8) (by decide) (ow6.le le8) (Sl.lit (n := 1) rfl) rfl (by rw [List.length_map]; omega) (by rw [List.length_map]; omega) ?_
        intro v' h' ow9 le9
        simp -implicitDefEqProofs only [zA,reduceIte,reduceCtorEq,Nat.reduceEqDiff,Nat.reduceAdd,Nat.reduceMul,Nat.reduceLT,Nat.reduceSub,Int.reduceLT,Int.reduceLE,Int.reduceEq,Int.reduceNe,Int.reduceSub,Int.reduceAdd,Int.reduceMul,Int.reduceBEq,Int.reduceBNe,Int.reduceGT,Int.reduceGE,Nat.reduceGT,Int.reduceToNat,Int.reduceNeg,Nat.reduceLeDiff,Nat.reduceBEq,Nat.reduceBneDiff,w1]
        refine ⟨_, ?_, le9, i + 1, v', rfl, by omega, rfl, ?_⟩
        · omega
        · rw [et, List.filter_append]
          simp only [List.filter_cons, g1, g2, decide_true, Bool.and_self, if_true, List.filter_nil, List.map_append, List.length_append, List.map_cons, List.map_nil, List.length_cons, List.length_nil]
          simpa using ow9
      · rw [decide_eq_false g2] at e2
        simp -implicitDefEqProofs only [zA,reduceIte,reduceCtorEq,Nat.reduceEqDiff,Nat.reduceAdd,Nat.reduceMul,Nat.reduceLT,Nat.reduceSub,Int.reduceLT,Int.reduceLE,Int.reduceEq,Int.reduceNe,Int.reduceSub,Int.reduceAdd,Int.reduceMul,Int.reduceBEq,Int.reduceBNe,Int.reduceGT,Int.reduceGE,Nat.reduceGT,Int.reduceToNat,Int.reduceNeg,Nat.reduceLeDiff,Nat.reduceBEq,Nat.reduceBneDiff,A.con,e1,A.fld,e2,w1]
        refine ⟨_, ?_, leB, i + 1, vl, rfl, by omega, rfl, no (by simp [g2])⟩
        omega
    · rw [decide_eq_false g1] at e1
      simp -implicitDefEqProofs only [zA,reduceIte,reduceCtorEq,Nat.reduceEqDiff,Nat.reduceAdd,Nat.reduceMul,Nat.reduceLT,Nat.reduceSub,Int.reduceLT,Int.reduceLE,Int.reduceEq,Int.reduceNe,Int.reduceSub,Int.reduceAdd,Int.reduceMul,Int.reduceBEq,Int.reduceBNe,Int.reduceGT,Int.reduceGE,Nat.reduceGT,Int.reduceToNat,Int.reduceNeg,Nat.reduceLeDiff,Nat.reduceBEq,Nat.reduceBneDiff,A.con,e1,w1]
      refine ⟨_, ?_, leB, i + 1, vl, rfl, by omega, rfl, no (by simp [g1])⟩
      omega
  · have hi1 : ¬ (i : Int) < L.length := by omega
    have e : i = L.length := by omega
    subst e
    rw [List.take_length] at ow
    simp -implicitDefEqProofs only [zA,reduceIte,reduceCtorEq,Nat.reduceEqDiff,Nat.reduceAdd,Nat.reduceMul,Nat.reduceLT,Nat.reduceSub,Int.reduceLT,Int.reduceLE,Int.reduceEq,Int.reduceNe,Int.reduceSub,Int.reduceAdd,Int.reduceMul,Int.reduceBEq,Int.reduceBNe,Int.reduceGT,Int.reduceGE,Nat.reduceGT,Int.reduceToNat,Int.reduceNeg,Nat.reduceLeDiff,Nat.reduceBEq,Nat.reduceBneDiff,hi1]
    exact ⟨Heap.q05 le1 le, ow.since le1⟩
def qcm (S : List Ed) (con : Str) : List Str := qit (((q9l S).filter fun e => decide (e.con = con)).map (·.fld))
def q7r (S : List Ed) : List Str := qit ((q9l S).map (·.con))
theorem qhk (E : EnvT tab) (K : BkOk E) {H : Heap} {b r : Nat} {S : List Ed} (B : BookAt H b r S) (con : Str) :
    ACallN E.toEnv qcx [.pointer (some ⟨b, 0, none⟩), strV con] H fun v H' => H.le H' ∧ Ow H H' 1 v (qcm S con).length ((qcm S con).map strV) := by
  refine q2r q7q q45 rfl rfl (q02 ?_)
  unfold q45
  have hS := B.ok.len
  have hl := q8q S
  have h8 := qh7 B.ok
  simp -implicitDefEqProofs only [zA,reduceIte,reduceCtorEq,Nat.reduceEqDiff,Nat.reduceAdd,Nat.reduceMul,Nat.reduceLT,Nat.reduceSub,Int.reduceLT,Int.reduceLE,Int.reduceEq,Int.reduceNe,Int.reduceSub,Int.reduceAdd,Int.reduceMul,Int.reduceBEq,Int.reduceBNe,Int.reduceGT,Int.reduceGE,Nat.reduceGT,Int.reduceToNat,Int.reduceNeg,Nat.reduceLeDiff,Nat.reduceBEq,Nat.reduceBneDiff]
  refine (qco E K B).mono ?_
  rintro v H1 ⟨le1, ow1⟩
  have sl1 := ow1.sl
  obtain ⟨base, c, rfl⟩ := sl1.shape
  unfold qcm
  generalize q9l S = L at hl h8 ow1 sl1 ⊢
  simp -implicitDefEqProofs only [zA,reduceIte,reduceCtorEq,Nat.reduceEqDiff,Nat.reduceAdd,Nat.reduceMul,Nat.reduceLT,Nat.reduceSub,Int.reduceLT,Int.reduceLE,Int.reduceEq,Int.reduceNe,Int.reduceSub,Int.reduceAdd,Int.reduceMul,Int.reduceBEq,Int.reduceBNe,Int.reduceGT,Int.reduceGE,Nat.reduceGT,Int.reduceToNat,Int.reduceNeg,Nat.reduceLeDiff,Nat.reduceBEq,Nat.reduceBneDiff]
  unfold q7u
  simp -implicitDefEqProofs only [zA,reduceIte,reduceCtorEq,Nat.reduceEqDiff,Nat.reduceAdd,Nat.reduceMul,Nat.reduceLT,Nat.reduceSub,Int.reduceLT,Int.reduceLE,Int.reduceEq,Int.reduceNe,Int.reduceSub,Int.reduceAdd,Int.reduceMul,Int.reduceBEq,Int.reduceBNe,Int.reduceGT,Int.reduceGE,Nat.reduceGT,Int.reduceToNat,Int.reduceNeg,Nat.reduceLeDiff,Nat.reduceBEq,Nat.reduceBneDiff]
  refine q1p (fun m t G => H1.le G ∧ ∃ (i : Nat) (vl : Value), t = tl [(1, strV con), (5, vl), (9, .slice base L.length c), (10, .int .i64 L.length), (11, .int .i64 i)] ∧ i ≤ L.length ∧ m = L.length - i ∧ Ow H1 G 1 vl (((L.take i).filter fun e => decide (e.con = con)).map (·.fld)).length ((((L.take i).filter fun e => decide (e.con = con)).map (·.fld)).map strV)) L.length
    ⟨Heap.q0a _, 0, _, rfl, by omega, by omega, Ow.nil _ _ _⟩ ?_
  rintro m t G ⟨le, i, vl, rfl, hi, rfl, ow⟩
  by_cases hlt : i < L.length
  · obtain ⟨bs, o, c', hv, hc, q1i⟩ := sl1.edAt h8 i hlt
    simp only [Value.slice.injEq, true_and] at hv
    obtain ⟨rfl, rfl⟩ := hv
    have hi1 : (i : Int) < L.length := by omega
    have hi2 : (0 : Int) ≤ i := by omega
    have w1 : IntKind.i64.wrap ((i : Int) + 1) = ((i + 1 : Nat) : Int) := qc7 (by omega)
    have hi3 := q1i _ le
    have hx := h8 L[i] (List.getElem_mem hlt)
    have et : L.take (i + 1) = L.take i ++ [L[i]] := List.take_succ_eq_append_getElem hlt
    generalize L[i] = y at hi3 hx et
    simp -implicitDefEqProofs only [zA,reduceIte,reduceCtorEq,Nat.reduceEqDiff,Nat.reduceAdd,Nat.reduceMul,Nat.reduceLT,Nat.reduceSub,Int.reduceLT,Int.reduceLE,Int.reduceEq,Int.reduceNe,Int.reduceSub,Int.reduceAdd,Int.reduceMul,Int.reduceBEq,Int.reduceBNe,Int.reduceGT,Int.reduceGE,Nat.reduceGT,Int.reduceToNat,Int.reduceNeg,Nat.reduceLeDiff,Nat.reduceBEq,Nat.reduceBneDiff,hi1,hi2,Int.toNat_natCast,hi3]
    intro b6 hb6
    have s6 := stE G b6 hx
    unfold Z15 at s6
    try simp -implicitDefEqProofs only [zA,reduceIte,reduceCtorEq,Nat.reduceEqDiff,Nat.reduceAdd,Nat.reduceMul,Nat.reduceLT,Nat.reduceSub,Int.reduceLT,Int.reduceLE,Int.reduceEq,Int.reduceNe,Int.reduceSub,Int.reduceAdd,Int.reduceMul,Int.reduceBEq,Int.reduceBNe,Int.reduceGT,Int.reduceGE,Nat.reduceGT,Int.reduceToNat,Int.reduceNeg,Nat.reduceLeDiff,Nat.reduceBEq,Nat.reduceBneDiff,s6]
    have le6 : G.le (G.set b6 (.own 0 (edC y) 15)) := Heap.q0v (Heap.q0a _) hb6 _
    have A : EdAt (G.set b6 (.own 0 (edC y) 15)) b6 y := EdAt.of (Heap.q03 _ _ _) hx
    have ow6 := ow.le le6
    have leB := Heap.q05 le le6
    generalize (G.set b6 (.own 0 (edC y) 15)) = G6 at le6 A ow6 leB
    have hn : ((L.take i).filter fun e => decide (e.con = con)).length ≤ i := by
      have := List.length_filter_le (fun e : Ed => decide (e.con = con)) (L.take i)
      rw [List.length_take] at this; omega
    have e1 := qf6 y.con con
    by_cases g1 : y.con = con
    · rw [decide_eq_true g1] at e1
      · simp -implicitDefEqProofs only [zA,reduceIte,reduceCtorEq,Nat.reduceEqDiff,Nat.reduceAdd,Nat.reduceMul,Nat.reduceLT,Nat.reduceSub,Int.reduceLT,Int.reduceLE,Int.reduceEq,Int.reduceNe,Int.reduceSub,Int.reduceAdd,Int.reduceMul,Int.reduceBEq,Int.reduceBNe,Int.reduceGT,Int.reduceGE,Nat.reduceGT,Int.reduceToNat,Int.reduceNeg,Nat.reduceLeDiff,Nat.reduceBEq,Nat.reduceBneDiff,A.con,e1,A.fld]
        intro b8 hb8
        try simp -implicitDefEqProofs only [zA,reduceIte,reduceCtorEq,Nat.reduceEqDiff,Nat.reduceAdd,Nat.reduceMul,Nat.reduceLT,Nat.reduceSub,Int.reduceLT,Int.reduceLE,Int.reduceEq,Int.reduceNe,Int.reduceSub,Int.reduceAdd,Int.reduceMul,Int.reduceBEq,Int.reduceBNe,Int.reduceGT,Int.reduceGE,Nat.reduceGT,Int.reduceToNat,Int.reduceNeg,Nat.reduceLeDiff,Nat.reduceBEq,Nat.reduceBneDiff]
        have le8 := Heap.q0v (Heap.q0a G6) hb8 (.own 0 [strV y.fld] 1)
        refine qbq (bytes := 16) (m := 1) (news := [strV y.fld]) (Heap.q05 leB le8) (by decide) (ow6.le le8) (Sl.lit (n := 1) rfl) rfl (by rw [List.length_map]; omega) (by rw [List.length_map]; omega) ?_
        intro v' h' ow9 le9
        simp -implicitDefEqProofs only [zA,reduceIte,reduceCtorEq,Nat.reduceEqDiff,Nat.reduceAdd,Nat.reduceMul,Nat.reduceLT,Nat.reduceSub,Int.reduceLT,Int.reduceLE,Int.reduceEq,Int.reduceNe,Int.reduceSub,Int.reduceAdd,Int.reduceMul,Int.reduceBEq,Int.reduceBNe,Int.reduceGT,Int.reduceGE,Nat.reduceGT,Int.reduceToNat,Int.reduceNeg,Nat.reduceLeDiff,Nat.reduceBEq,Nat.reduceBneDiff,w1]
        refine ⟨_, ?_, le9, i + 1, v', rfl, by omega, rfl, ?_⟩
        · omega
        · rw [et, List.filter_append]
          simp only [List.filter_cons, g1, decide_true, if_true, List.filter_nil, List.map_append, List.length_append, List.map_cons, List.map_nil, List.length_cons, List.length_nil]
          simpa using ow9
    · rw [decide_eq_false g1] at e1
      simp -implicitDefEqProofs only [zA,reduceIte,reduceCtorEq,Nat.reduceEqDiff,Nat.reduceAdd,Nat.reduceMul,Nat.reduceLT,Nat.reduceSub,Int.reduceLT,Int.reduceLE,Int.reduceEq,Int.reduceNe,Int.reduceSub,Int.reduceAdd,Int.reduceMul,Int.reduceBEq,Int.reduceBNe,Int.reduceGT,Int.reduceGE,Nat.reduceGT,Int.reduceToNat,Int.reduceNeg,Nat.reduceLeDiff,Nat.reduceBEq,Nat.reduceBneDiff,A.con,e1,w1]
      refine ⟨_, ?_, leB, i + 1, vl, rfl, by omega, rfl, ?_⟩
      · omega
      · rw [et, List.filter_append]
        simp only [List.filter_cons, g1, decide_false, List.filter_nil, List.append_nil, Bool.false_eq_true, if_false]
        exact ow6
  · have hi1 : ¬ (i : Int) < L.length := by omega
    have e : i = L.length := by omega
    subst e
    rw [List.take_length] at ow
    have hn2 : (L.filter fun e => decide (e.con = con)).length ≤ L.length := List.length_filter_le _ _
    simp -implicitDefEqProofs only [zA,reduceIte,reduceCtorEq,Nat.reduceEqDiff,Nat.reduceAdd,Nat.reduceMul,Nat.reduceLT,Nat.reduceSub,Int.reduceLT,Int.reduceLE,Int.reduceEq,Int.reduceNe,Int.reduceSub,Int.reduceAdd,Int.reduceMul,Int.reduceBEq,Int.reduceBNe,Int.reduceGT,Int.reduceGE,Nat.reduceGT,Int.reduceToNat,Int.reduceNeg,Nat.reduceLeDiff,Nat.reduceBEq,Nat.reduceBneDiff,hi1]
    refine (qhx E K ow (by rw [List.length_map]; omega)).mono ?_
    rintro u H2 ⟨ow2, k2⟩
    have leU := qd4 le k2
    simp -implicitDefEqProofs only [zA,reduceIte,reduceCtorEq,Nat.reduceEqDiff,Nat.reduceAdd,Nat.reduceMul,Nat.reduceLT,Nat.reduceSub,Int.reduceLT,Int.reduceLE,Int.reduceEq,Int.reduceNe,Int.reduceSub,Int.reduceAdd,Int.reduceMul,Int.reduceBEq,Int.reduceBNe,Int.reduceGT,Int.reduceGE,Nat.reduceGT,Int.reduceToNat,Int.reduceNeg,Nat.reduceLeDiff,Nat.reduceBEq,Nat.reduceBneDiff]
    refine (qeh E K ow2 (by rw [q8m, List.length_map]; omega)).mono ?_
    rintro u H3 ⟨ow3, k3⟩
    have leV := qd4 leU k3
    simp -implicitDefEqProofs only [zA,reduceIte,reduceCtorEq,Nat.reduceEqDiff,Nat.reduceAdd,Nat.reduceMul,Nat.reduceLT,Nat.reduceSub,Int.reduceLT,Int.reduceLE,Int.reduceEq,Int.reduceNe,Int.reduceSub,Int.reduceAdd,Int.reduceMul,Int.reduceBEq,Int.reduceBNe,Int.reduceGT,Int.reduceGE,Nat.reduceGT,Int.reduceToNat,Int.reduceNeg,Nat.reduceLeDiff,Nat.reduceBEq,Nat.reduceBneDiff]
    exact ⟨Heap.q05 le1 leV, ow3.since le1⟩
theorem qb4 (E : EnvT tab) (K : BkOk E) {H : Heap} {b r : Nat} {S : List Ed} (B : BookAt H b r S) :
    ACallN E.toEnv qbu [.pointer (some ⟨b, 0, none⟩)] H fun v H' => H.le H' ∧ Ow H H' 1 v (q7r S).length ((q7r S).map strV) := by
  refine q2r q5w q33 rfl rfl (q02 ?_)
  unfold q33
  have hS := B.ok.len
  have hl := q8q S
  have h8 := qh7 B.ok
  simp -implicitDefEqProofs only [zA,reduceIte,reduceCtorEq,Nat.reduceEqDiff,Nat.reduceAdd,Nat.reduceMul,Nat.reduceLT,Nat.reduceSub,Int.reduceLT,Int.reduceLE,Int.reduceEq,Int.reduceNe,Int.reduceSub,Int.reduceAdd,Int.reduceMul,Int.reduceBEq,Int.reduceBNe,Int.reduceGT,Int.reduceGE,Nat.reduceGT,Int.reduceToNat,Int.reduceNeg,Nat.reduceLeDiff,Nat.reduceBEq,Nat.reduceBneDiff]
  unfold q7m
  simp -implicitDefEqProofs only [zA,reduceIte,reduceCtorEq,Nat.reduceEqDiff,Nat.reduceAdd,Nat.reduceMul,Nat.reduceLT,Nat.reduceSub,Int.reduceLT,Int.reduceLE,Int.reduceEq,Int.reduceNe,Int.reduceSub,Int.reduceAdd,Int.reduceMul,Int.reduceBEq,Int.reduceBNe,Int.reduceGT,Int.reduceGE,Nat.reduceGT,Int.reduceToNat,Int.reduceNeg,Nat.reduceLeDiff,Nat.reduceBEq,Nat.reduceBneDiff]
  refine (qco E K B).mono ?_
  rintro v H1 ⟨le1, ow1⟩
  have sl1 := ow1.sl
  obtain ⟨base, c, rfl⟩ := sl1.shape
  unfold q7r
  generalize q9l S = L at hl h8 ow1 sl1 ⊢
  simp -implicitDefEqProofs only [zA,reduceIte,reduceCtorEq,Nat.reduceEqDiff,Nat.reduceAdd,Nat.reduceMul,Nat.reduceLT,Nat.reduceSub,Int.reduceLT,Int.reduceLE,Int.reduceEq,Int.reduceNe,Int.reduceSub,Int.reduceAdd,Int.reduceMul,Int.reduceBEq,Int.reduceBNe,Int.reduceGT,Int.reduceGE,Nat.reduceGT,Int.reduceToNat,Int.reduceNeg,Nat.reduceLeDiff,Nat.reduceBEq,Nat.reduceBneDiff]
  refine q1p (fun m t G => H1.le G ∧ ∃ (i : Nat) (vl : Value), t = tl [(3, vl), (7, .slice base L.length c), (8, .int .i64 L.length), (9, .int .i64 i)] ∧ i ≤ L.length ∧ m = L.length - i ∧ Ow H1 G 1 vl ((L.take i).map (·.con)).length (((L.take i).map (·.con)).map strV)) L.length
    ⟨Heap.q0a _, 0, _, rfl, by omega, by omega, Ow.nil _ _ _⟩ ?_
  rintro m t G ⟨le, i, vl, rfl, hi, rfl, ow⟩
  by_cases hlt : i < L.length
  · obtain ⟨bs, o, c', hv, hc, q1i⟩ := sl1.edAt h8 i hlt
    simp only [Value.slice.injEq, true_and] at hv
    obtain ⟨rfl, rfl⟩ := hv
    have hi1 : (i : Int) < L.length := by omega
    have hi2 : (0 : Int) ≤ i := by omega
    have w1 : IntKind.i64.wrap ((i : Int) + 1) = ((i + 1 : Nat) : Int) := qc7 (by omega)
    have hi3 := q1i _ le
    have hx := h8 L[i] (List.getElem_mem hlt)
    have et : L.take (i + 1) = L.take i ++ [L[i]] := List.take_succ_eq_append_getElem hlt
    generalize L[i] = y at hi3 hx et
    simp -implicitDefEqProofs only [zA,reduceIte,reduceCtorEq,Nat.reduceEqDiff,Nat.reduceAdd,Nat.reduceMul,Nat.reduceLT,Nat.reduceSub,Int.reduceLT,Int.reduceLE,Int.reduceEq,Int.reduceNe,Int.reduceSub,Int.reduceAdd,Int.reduceMul,Int.reduceBEq,Int.reduceBNe,Int.reduceGT,Int.reduceGE,Nat.reduceGT,Int.reduceToNat,Int.reduceNeg,Nat.reduceLeDiff,Nat.reduceBEq,Nat.reduceBneDiff,hi1,hi2,Int.toNat_natCast,hi3]
    intro b6 hb6
    have s6 := stE G b6 hx
    unfold Z15 at s6
    try simp -implicitDefEqProofs only [zA,reduceIte,reduceCtorEq,Nat.reduceEqDiff,Nat.reduceAdd,Nat.reduceMul,Nat.reduceLT,Nat.reduceSub,Int.reduceLT,Int.reduceLE,Int.reduceEq,Int.reduceNe,Int.reduceSub,Int.reduceAdd,Int.reduceMul,Int.reduceBEq,Int.reduceBNe,Int.reduceGT,Int.reduceGE,Nat.reduceGT,Int.reduceToNat,Int.reduceNeg,Nat.reduceLeDiff,Nat.reduceBEq,Nat.reduceBneDiff,s6]
    have le6 : G.le (G.set b6 (.own 0 (edC y) 15)) := Heap.q0v (Heap.q0a _) hb6 _
    have A : EdAt (G.set b6 (.own 0 (edC y) 15)) b6 y := EdAt.of (Heap.q03 _ _ _) hx
    have ow6 := ow.le le6
    have leB := Heap.q05 le le6
    generalize (G.set b6 (.own 0 (edC y) 15)) = G6 at le6 A ow6 leB
    have hn : (L.take i).length ≤ i := by rw [List.length_take]; omega
    · · simp -implicitDefEqProofs only [zA,reduceIte,reduceCtorEq,Nat.reduceEqDiff,Nat.reduceAdd,Nat.reduceMul,Nat.reduceLT,Nat.reduceSub,Int.reduceLT,Int.reduceLE,Int.reduceEq,Int.reduceNe,Int.reduceSub,Int.reduceAdd,Int.reduceMul,Int.reduceBEq,Int.reduceBNe,Int.reduceGT,Int.reduceGE,Nat.reduceGT,Int.reduceToNat,Int.reduceNeg,Nat.reduceLeDiff,Nat.reduceBEq,Nat.reduceBneDiff,A.con]
        intro b8 hb8
        try simp -implicitDefEqProofs only [zA,reduceIte,reduceCtorEq,Nat.reduceEqDiff,Nat.reduceAdd,Nat.reduceMul,Nat.reduceLT,Nat.reduceSub,Int.reduceLT,Int.reduceLE,Int.reduceEq,Int.reduceNe,Int.reduceSub,Int.reduceAdd,Int.reduceMul,Int.reduceBEq,Int.reduceBNe,Int.reduceGT,Int.reduceGE,Nat.reduceGT,Int.reduceToNat,Int.reduceNeg,Nat.reduceLeDiff,Nat.reduceBEq,Nat.reduceBneDiff]
        have le8 := Heap.q0v (Heap.q0a G6) hb8 (.own 0 [strV y.con] 1)
        refine qbq (bytes := 16) (m := 1) (news := [strV y.con]) (Heap.q05 leB le8) (by decide) (ow6.le le8) (Sl.lit (n := 1) rfl) rfl (by rw [List.length_map]; omega) (by rw [List.length_map]; omega) ?_
        intro v' h' ow9 le9
        simp -implicitDefEqProofs only [zA,reduceIte,reduceCtorEq,Nat.reduceEqDiff,Nat.reduceAdd,Nat.reduceMul,Nat.reduceLT,Nat.reduceSub,Int.reduceLT,Int.reduceLE,Int.reduceEq,Int.reduceNe,Int.reduceSub,Int.reduceAdd,Int.reduceMul,Int.reduceBEq,Int.reduceBNe,Int.reduceGT,Int.reduceGE,Nat.reduceGT,Int.reduceToNat,Int.reduceNeg,Nat.reduceLeDiff,Nat.reduceBEq,Nat.reduceBneDiff,w1]
        refine ⟨_, ?_, le9, i + 1, v', rfl, by omega, rfl, ?_⟩
        · omega
        · rw [et]
          simp only [List.map_append, List.length_append, List.map_cons, List.map_nil, List.length_cons, List.length_nil]
          simpa using ow9
  · have hi1 : ¬ (i : Int) < L.length := by omega
    have e : i = L.length := by omega
    subst e
    rw [List.take_length] at ow
    have hn2 : L.length ≤ L.length := Nat.le_refl _
    simp -implicitDefEqProofs only [zA,reduceIte,reduceCtorEq,Nat.reduceEqDiff,Nat.reduceAdd,Nat.reduceMul,Nat.reduceLT,Nat.reduceSub,Int.reduceLT,Int.reduceLE,Int.reduceEq,Int.reduceNe,Int.reduceSub,Int.reduceAdd,Int.reduceMul,Int.reduceBEq,Int.reduceBNe,Int.reduceGT,Int.reduceGE,Nat.reduceGT,Int.reduceToNat,Int.reduceNeg,Nat.reduceLeDiff,Nat.reduceBEq,Nat.reduceBneDiff,hi1]
    refine (qhx E K ow (by rw [List.length_map]; omega)).mono ?_
    rintro u H2 ⟨ow2, k2⟩
    have leU := qd4 le k2
    simp -implicitDefEqProofs only [zA,reduceIte,reduceCtorEq,Nat.reduceEqDiff,Nat.reduceAdd,Nat.reduceMul,Nat.reduceLT,Nat.reduceSub,Int.reduceLT,Int.reduceLE,Int.reduceEq,Int.reduceNe,Int.reduceSub,Int.reduceAdd,Int.reduceMul,Int.reduceBEq,Int.reduceBNe,Int.reduceGT,Int.reduceGE,Nat.reduceGT,Int.reduceToNat,Int.reduceNeg,Nat.reduceLeDiff,Nat.reduceBEq,Nat.reduceBneDiff]
    refine (qeh E K ow2 (by rw [q8m, List.length_map]; omega)).mono ?_
    rintro u H3 ⟨ow3, k3⟩
    have leV := qd4 leU k3
    simp -implicitDefEqProofs only [zA,reduceIte,reduceCtorEq,Nat.reduceEqDiff,Nat.reduceAdd,Nat.reduceMul,Nat.reduceLT,Nat.reduceSub,Int.reduceLT,Int.reduceLE,Int.reduceEq,Int.reduceNe,Int.reduceSub,Int.reduceAdd,Int.reduceMul,Int.reduceBEq,Int.reduceBNe,Int.reduceGT,Int.reduceGE,Nat.reduceGT,Int.reduceToNat,Int.reduceNeg,Nat.reduceLeDiff,Nat.reduceBEq,Nat.reduceBneDiff]
    exact ⟨Heap.q05 le1 leV, ow3.since le1⟩
theorem qio (E : EnvT tab) (K : BkOk E) {H : Heap} {b r : Nat} {S : List Ed} (B : BookAt H b r S) (con fld : Str) :
    ACallN E.toEnv qdr [.pointer (some ⟨b, 0, none⟩), strV con, strV fld] H fun v H' => H.le H' ∧ v = .tuple #[strV ((allB S con fld).getLastD []), .bool (decide (allB S con fld ≠ []))] := by
  refine q2r q85 q4p rfl rfl (q02 ?_)
  unfold q4p
  simp -implicitDefEqProofs only [zA,reduceIte,reduceCtorEq,Nat.reduceEqDiff,Nat.reduceAdd,Nat.reduceMul,Nat.reduceLT,Nat.reduceSub,Int.reduceLT,Int.reduceLE,Int.reduceEq,Int.reduceNe,Int.reduceSub,Int.reduceAdd,Int.reduceMul,Int.reduceBEq,Int.reduceBNe,Int.reduceGT,Int.reduceGE,Nat.reduceGT,Int.reduceToNat,Int.reduceNeg,Nat.reduceLeDiff,Nat.reduceBEq,Nat.reduceBneDiff]
  refine (qbn E K B con fld).mono ?_
  rintro v H1 ⟨le1, ow⟩
  have sl := ow.sl
  have hl : (allB S con fld).length ≤ 500 := by
    have h1 := q8q S
    have h2 := B.ok.len
    unfold allB
    rw [List.length_map]
    have := List.length_filter_le (fun e : Ed => decide (e.con = con) && decide (e.fld = fld)) (q9l S)
    omega
  generalize allB S con fld = L at ow sl hl ⊢
  obtain ⟨base, c, rfl⟩ := sl.shape
  by_cases h0 : L = []
  · subst h0
    simp -implicitDefEqProofs only [zA,reduceIte,reduceCtorEq,Nat.reduceEqDiff,Nat.reduceAdd,Nat.reduceMul,Nat.reduceLT,Nat.reduceSub,Int.reduceLT,Int.reduceLE,Int.reduceEq,Int.reduceNe,Int.reduceSub,Int.reduceAdd,Int.reduceMul,Int.reduceBEq,Int.reduceBNe,Int.reduceGT,Int.reduceGE,Nat.reduceGT,Int.reduceToNat,Int.reduceNeg,Nat.reduceLeDiff,Nat.reduceBEq,Nat.reduceBneDiff,List.length_nil]
    exact ⟨le1, rfl⟩
  · have hp : 0 < L.length := List.length_pos_iff.2 h0
    have h1 : ¬ ((L.length : Int) = 0) := by omega
    have w1 : IntKind.i64.wrap ((L.length : Int) - 1) = ((L.length - 1 : Nat) : Int) := by
      have e : ((L.length : Int) - 1) = ((L.length - 1 : Nat) : Int) := by omega
      rw [e]
      exact wrapI (by omega) (by omega)
    rw [← q9m strV L] at sl
    obtain ⟨bs, o, c', hv, hc, q1i⟩ := Sl.at (f := fun s => [strV s]) (fun _ => rfl) sl (L.length - 1) (by omega) (by decide)
    simp only [Value.slice.injEq, true_and] at hv
    obtain ⟨rfl, rfl⟩ := hv
    have hi1 : ((L.length - 1 : Nat) : Int) < L.length := by omega
    have hi2 : (0 : Int) ≤ ((L.length - 1 : Nat) : Int) := by omega
    have h3 := q1i H1 (Heap.q0a _)
    have hi3 := qha h3 0 Nat.zero_lt_one
    simp only [List.getElem?_cons_zero, Nat.mul_one, Nat.add_zero] at hi3
    have e1 : L.getLastD [] = L[L.length - 1] := by
      rw [List.getLastD_eq_getLast?, List.getLast?_eq_getElem?, List.getElem?_eq_getElem (by omega)]; rfl
    rw [e1]
    simp -implicitDefEqProofs only [zA,reduceIte,reduceCtorEq,Nat.reduceEqDiff,Nat.reduceAdd,Nat.reduceMul,Nat.reduceLT,Nat.reduceSub,Int.reduceLT,Int.reduceLE,Int.reduceEq,Int.reduceNe,Int.reduceSub,Int.reduceAdd,Int.reduceMul,Int.reduceBEq,Int.reduceBNe,Int.reduceGT,Int.reduceGE,Nat.reduceGT,Int.reduceToNat,Int.reduceNeg,Nat.reduceLeDiff,Nat.reduceBEq,Nat.reduceBneDiff,h1,w1,hi1,hi2,Int.toNat_natCast,hi3]
    refine ⟨le1, ?_⟩
    simp [h0]
end Go.Bb
namespace Go.Bb
set_option linter.unusedSimpArgs false
set_option linter.unusedVariables false
set_option maxRecDepth 20000
set_option maxHeartbeats 2000000
open Go.MapKept
def Has1 (S : List Ed) (d : Int) (k : Nat) : Prop := ∀ j : Nat, 1 ≤ j → j ≤ k → ∃ e ∈ S, e.dev = d ∧ e.n = j
def CntB (S : List Ed) (d : Int) (k : Nat) : Prop := Has1 S d k ∧ ∀ e ∈ S, ¬ (e.dev = d ∧ e.n = (k + 1 : Nat))
def VecOf (S : List Ed) (v : List Int) : Prop := v.length = 8 ∧ ∀ d : Nat, d < 8 → ∃ k : Nat, v[d]? = some (k : Int) ∧ CntB S d k
theorem Has1.le {S : List Ed} (ok : BkS S) {d : Int} {k : Nat} (h : Has1 S d k) : k ≤ 1099511627776 := by
  by_cases h0 : k = 0
  · omega
  obtain ⟨e, he, hd, hn⟩ := h k (by omega) (Nat.le_refl _)
  have := ok.good e he
  simp only [qac, Bool.and_eq_true, decide_eq_true_eq] at this
  have := this.1.1.1.1.1.2.2
  omega
theorem CntB.eq {S : List Ed} {d : Int} {k m : Nat} (h : CntB S d k) (g : CntB S d m) : k = m := by
  rcases Nat.lt_trichotomy k m with c | c | c
  · obtain ⟨e, he, hd, hn⟩ := g.1 (k + 1) (by omega) (by omega)
    exact absurd ⟨hd, hn⟩ (h.2 e he)
  · exact c
  · obtain ⟨e, he, hd, hn⟩ := h.1 (m + 1) (by omega) (by omega)
    exact absurd ⟨hd, hn⟩ (g.2 e he)
theorem VecOf.eq {S : List Ed} {v w : List Int} (h : VecOf S v) (g : VecOf S w) : v = w := by
  apply List.ext_getElem?
  intro i
  by_cases hi : i < 8
  · obtain ⟨k, h1, h2⟩ := h.2 i hi
    obtain ⟨m, g1, g2⟩ := g.2 i hi
    rw [h1, g1, h2.eq g2]
  · rw [List.getElem?_eq_none (by rw [h.1]; omega), List.getElem?_eq_none (by rw [g.1]; omega)]
structure VS (H G : Heap) (b2 b3 : Nat) (v : List Int) : Prop where
  le : H.le G
  n2 : H b2 = none
  n3 : H b3 = none
  ne : b2 ≠ b3
  q2 : G b2 = some (.own 0 (List.replicate 8 (.int .i64 0)) 8)
  q3 : G b3 = some (.own 0 (v.map (.int .i64)) 8)
  h8 : v.length = 8
theorem VS.more {H G G' : Heap} {b2 b3 : Nat} {v : List Int} (s : VS H G b2 b3 v) (le : G.le G') : VS H G' b2 b3 v :=
  ⟨Heap.q05 s.le le, s.n2, s.n3, s.ne, le _ _ s.q2, le _ _ s.q3, s.h8⟩
theorem VS.put {H G : Heap} {b2 b3 : Nat} {v : List Int} (s : VS H G b2 b3 v) (w : List Int) (hw : w.length = 8) : VS H (G.set b3 (.own 0 (w.map (.int .i64)) 8)) b2 b3 w :=
  ⟨Heap.q0v s.le s.n3 _, s.n2, s.n3, s.ne, by rw [Heap.q42 s.ne]; exact s.q2, Heap.q03 _ _ _, hw⟩
theorem VS.cell {H G : Heap} {b2 b3 : Nat} {v : List Int} (s : VS H G b2 b3 v) (i : Nat) (hi : i < 8) : q1i G ⟨b3, i, none⟩ = some (.int .i64 (v[i]'(by rw [s.h8]; exact hi))) := by
  rw [q3o s.q3 (by simp [s.h8]; exact hi)]
  simp
theorem fvKD (d n : Int) (es : List MapEntry) : q6e (.agg [some IntKind.i64, some IntKind.i64]) (.agg [Value.int .i64 d, Value.int .i64 n].toArray) es 0 = q6e KD (dotK d n) es 0 := rfl
theorem qdz (E : EnvT tab) {H : Heap} {b r : Nat} {S : List Ed} (B : BookAt H b r S) :
    ACallN E.toEnv qfh [.pointer (some ⟨b, 0, none⟩)] H fun x H' => H.le H' ∧ ∃ v, VecOf S v ∧ x = .agg (v.map (.int .i64)).toArray := by
  refine q2r q92 q6h rfl rfl (q02 ?_)
  unfold q6h
  simp -implicitDefEqProofs only [zA,reduceIte,reduceCtorEq,Nat.reduceEqDiff,Nat.reduceAdd,Nat.reduceMul,Nat.reduceLT,Nat.reduceSub,Int.reduceLT,Int.reduceLE,Int.reduceEq,Int.reduceNe,Int.reduceSub,Int.reduceAdd,Int.reduceMul,Int.reduceBEq,Int.reduceBNe,Int.reduceGT,Int.reduceGE,Nat.reduceGT,Int.reduceToNat,Int.reduceNeg,Nat.reduceLeDiff,Nat.reduceBEq,Nat.reduceBneDiff]
  intro b2 hb2
  try simp -implicitDefEqProofs only [zA,reduceIte,reduceCtorEq,Nat.reduceEqDiff,Nat.reduceAdd,Nat.reduceMul,Nat.reduceLT,Nat.reduceSub,Int.reduceLT,Int.reduceLE,Int.reduceEq,Int.reduceNe,Int.reduceSub,Int.reduceAdd,Int.reduceMul,Int.reduceBEq,Int.reduceBNe,Int.reduceGT,Int.reduceGE,Nat.reduceGT,Int.reduceToNat,Int.reduceNeg,Nat.reduceLeDiff,Nat.reduceBEq,Nat.reduceBneDiff]
  intro b3 hb3
  try simp -implicitDefEqProofs only [zA,reduceIte,reduceCtorEq,Nat.reduceEqDiff,Nat.reduceAdd,Nat.reduceMul,Nat.reduceLT,Nat.reduceSub,Int.reduceLT,Int.reduceLE,Int.reduceEq,Int.reduceNe,Int.reduceSub,Int.reduceAdd,Int.reduceMul,Int.reduceBEq,Int.reduceBNe,Int.reduceGT,Int.reduceGE,Nat.reduceGT,Int.reduceToNat,Int.reduceNeg,Nat.reduceLeDiff,Nat.reduceBEq,Nat.reduceBneDiff,List.length_replicate]
  have ne : b3 ≠ b2 := by intro e; subst e; rw [Heap.q03] at hb3; cases hb3
  have hb3' : H b3 = none := by rw [Heap.q42 ne] at hb3; exact hb3
  have V0 : VS H ((H.set b2 (.own 0 (List.replicate 8 (.int .i64 0)) 8)).set b3 (.own 0 (List.replicate 8 (.int .i64 0)) 8)) b2 b3 (List.replicate 8 0) :=
    ⟨Heap.qg9 (Heap.q0v (Heap.q0a _) hb2 _) hb3 _, hb2, hb3', ne.symm, by rw [Heap.q42 ne.symm, Heap.q03], by rw [Heap.q03]; rfl, rfl⟩
  generalize ((H.set b2 (.own 0 (List.replicate 8 (.int .i64 0)) 8)).set b3 (.own 0 (List.replicate 8 (.int .i64 0)) 8)) = G0 at V0
  refine q1p (fun m t G => ∃ (i : Nat) (v : List Int), t = tl [(0, .pointer (some ⟨b, 0, none⟩)), (2, .pointer (some ⟨b2, 0, none⟩)), (3, .pointer (some ⟨b3, 0, none⟩)), (7, .int .i64 i)] ∧ i ≤ 8 ∧ m = 8 - i ∧ VS H G b2 b3 v ∧ (∀ d : Nat, d < i → ∃ k : Nat, v[d]? = some (k : Int) ∧ CntB S d k) ∧ (∀ d : Nat, i ≤ d → d < 8 → v[d]? = some 0)) 8
    ⟨0, _, rfl, by omega, by omega, V0, fun d hd => by omega, fun d _ hd => by rw [List.getElem?_replicate, if_pos hd]⟩ ?_
  rintro m t G ⟨i, v, rfl, hi, rfl, V, hdone, hrest⟩
  by_cases hlt : i < 8
  · have hi1 : (i : Int) < 8 := by omega
    have hi2 : (0 : Int) ≤ i := by omega
    have w1 : IntKind.i64.wrap ((i : Int) + 1) = ((i + 1 : Nat) : Int) := qc7 (by omega)
    simp -implicitDefEqProofs only [zA,reduceIte,reduceCtorEq,Nat.reduceEqDiff,Nat.reduceAdd,Nat.reduceMul,Nat.reduceLT,Nat.reduceSub,Int.reduceLT,Int.reduceLE,Int.reduceEq,Int.reduceNe,Int.reduceSub,Int.reduceAdd,Int.reduceMul,Int.reduceBEq,Int.reduceBNe,Int.reduceGT,Int.reduceGE,Nat.reduceGT,Int.reduceToNat,Int.reduceNeg,Nat.reduceLeDiff,Nat.reduceBEq,Nat.reduceBneDiff,hi1]
    unfold q8x
    simp -implicitDefEqProofs only [zA,reduceIte,reduceCtorEq,Nat.reduceEqDiff,Nat.reduceAdd,Nat.reduceMul,Nat.reduceLT,Nat.reduceSub,Int.reduceLT,Int.reduceLE,Int.reduceEq,Int.reduceNe,Int.reduceSub,Int.reduceAdd,Int.reduceMul,Int.reduceBEq,Int.reduceBNe,Int.reduceGT,Int.reduceGE,Nat.reduceGT,Int.reduceToNat,Int.reduceNeg,Nat.reduceLeDiff,Nat.reduceBEq,Nat.reduceBneDiff]
    refine q1p (fun m t G => ∃ (k : Nat) (w : List Int), t = tl [(0, .pointer (some ⟨b, 0, none⟩)), (2, .pointer (some ⟨b2, 0, none⟩)), (3, .pointer (some ⟨b3, 0, none⟩)), (4, .int .i64 i), (7, .int .i64 i)] ∧ m = 1099511627776 - k ∧ VS H G b2 b3 w ∧ Has1 S i k ∧ w[i]? = some (k : Int) ∧ (∀ d : Nat, d ≠ i → w[d]? = v[d]?)) 1099511627776
      ⟨0, v, rfl, by omega, V, fun j h1 h2 => by omega, hrest i (Nat.le_refl _) hlt, fun _ _ => rfl⟩ ?_
    rintro m t G1 ⟨k, w, rfl, rfl, W, hh, hwi, hoth⟩
    have hk := hh.le B.ok
    have BG := B.le W.le
    obtain ⟨es, c, L, qr, en, hp, st⟩ := BG.qr
    have cb : q1i G1 ⟨b, 0, none⟩ = some (.map (some r)) := by rw [q3o BG.qb (by simp)]; rfl
    have ma : q5a G1 r = some (es, c) := by simp [q5a, qr]
    have c3 := W.cell i hlt
    have hwi2 : w[i]'(by rw [W.h8]; exact hlt) = k := by rw [List.getElem?_eq_getElem (by rw [W.h8]; exact hlt)] at hwi; simpa using hwi
    rw [hwi2] at c3
    have w2 : IntKind.i64.wrap ((k : Int) + 1) = ((k + 1 : Nat) : Int) := qc7 (by omega)
    have kf : q8u (.agg [some IntKind.i64, some IntKind.i64]) (.agg #[Value.int .i64 i, Value.int .i64 ((k + 1 : Nat) : Int)]) = some () := rfl
    have hgp := qfs hp BG.ok i ((k + 1 : Nat) : Int)
    cases hgd : q97 S i ((k + 1 : Nat) : Int) with
    | none =>
      rw [hgd] at hgp
      have fv := qbk 0 en hgp
      simp -implicitDefEqProofs only [zA,reduceIte,reduceCtorEq,Nat.reduceEqDiff,Nat.reduceAdd,Nat.reduceMul,Nat.reduceLT,Nat.reduceSub,Int.reduceLT,Int.reduceLE,Int.reduceEq,Int.reduceNe,Int.reduceSub,Int.reduceAdd,Int.reduceMul,Int.reduceBEq,Int.reduceBNe,Int.reduceGT,Int.reduceGE,Nat.reduceGT,Int.reduceToNat,Int.reduceNeg,Nat.reduceLeDiff,Nat.reduceBEq,Nat.reduceBneDiff,cb,hi1,hi2,Int.toNat_natCast,c3,w2,ma,fvKD,fv,kf]
      intro b5 hb5
      have s5 : q88 (G1.set b5 (.own 0 Z15 Z15.length)) 15 (.pointer (some ⟨b5, 0, none⟩)) (.agg Z15.toArray) = some (G1.set b5 (.own 0 Z15 15)) := z6z (by decide) rfl rfl rfl (by decide)
      unfold Z15 at s5
      have le5 := Heap.q0v (Heap.q0a G1) hb5 (.own 0 (List.replicate 11 (.int .i64 0) ++ [.string .empty, .string .empty, .string .empty, .int .i64 0]) 15)
      simp -implicitDefEqProofs only [zA,reduceIte,reduceCtorEq,Nat.reduceEqDiff,Nat.reduceAdd,Nat.reduceMul,Nat.reduceLT,Nat.reduceSub,Int.reduceLT,Int.reduceLE,Int.reduceEq,Int.reduceNe,Int.reduceSub,Int.reduceAdd,Int.reduceMul,Int.reduceBEq,Int.reduceBNe,Int.reduceGT,Int.reduceGE,Nat.reduceGT,Int.reduceToNat,Int.reduceNeg,Nat.reduceLeDiff,Nat.reduceBEq,Nat.reduceBneDiff,s5,w1]
      refine ⟨fun _ _ => trivial, _, ?_, i + 1, w, rfl, by omega, rfl, W.more le5, fun d hd => ?_, fun d h1 h2 => ?_⟩
      · omega
      · by_cases e : d = i
        · subst e
          rw [q8c] at hgd
          exact ⟨k, hwi, hh, hgd⟩
        · rw [hoth d e]; exact hdone d (by omega)
      · rw [hoth d (by omega)]; exact hrest d (by omega) h2
    | some e =>
      rw [hgd] at hgp
      obtain ⟨j, fv⟩ := qbj 0 en hgp
      unfold edV at fv
      have hge := getD_some hgd
      have he8 := BG.ok.h8 e hge.1
      simp -implicitDefEqProofs only [zA,reduceIte,reduceCtorEq,Nat.reduceEqDiff,Nat.reduceAdd,Nat.reduceMul,Nat.reduceLT,Nat.reduceSub,Int.reduceLT,Int.reduceLE,Int.reduceEq,Int.reduceNe,Int.reduceSub,Int.reduceAdd,Int.reduceMul,Int.reduceBEq,Int.reduceBNe,Int.reduceGT,Int.reduceGE,Nat.reduceGT,Int.reduceToNat,Int.reduceNeg,Nat.reduceLeDiff,Nat.reduceBEq,Nat.reduceBneDiff,cb,hi1,hi2,Int.toNat_natCast,c3,w2,ma,fvKD,fv,kf]
      intro b5 hb5
      have s5 := stE G1 b5 he8
      unfold Z15 at s5
      have le5 := Heap.q0v (Heap.q0a G1) hb5 (.own 0 (edC e) 15)
      have W5 := W.more le5
      simp -implicitDefEqProofs only [zA,reduceIte,reduceCtorEq,Nat.reduceEqDiff,Nat.reduceAdd,Nat.reduceMul,Nat.reduceLT,Nat.reduceSub,Int.reduceLT,Int.reduceLE,Int.reduceEq,Int.reduceNe,Int.reduceSub,Int.reduceAdd,Int.reduceMul,Int.reduceBEq,Int.reduceBNe,Int.reduceGT,Int.reduceGE,Nat.reduceGT,Int.reduceToNat,Int.reduceNeg,Nat.reduceLeDiff,Nat.reduceBEq,Nat.reduceBneDiff,s5]
      unfold q8w
      generalize (G1.set b5 (.own 0 (edC e) 15)) = G5 at le5 W5 ⊢
      have c5 := W5.cell i hlt
      rw [hwi2] at c5
      have st6 : q88 G5 1 (.pointer (some ⟨b3, i, none⟩)) (.int .i64 ((k + 1 : Nat) : Int)) = some (G5.set b3 (.own 0 ((w.set i ((k + 1 : Nat) : Int)).map (.int .i64)) 8)) := by
        rw [qgy W5.q3 rfl (by simp [W5.h8]; exact hlt) (by simp [W5.h8]), List.map_set]
      simp -implicitDefEqProofs only [zA,reduceIte,reduceCtorEq,Nat.reduceEqDiff,Nat.reduceAdd,Nat.reduceMul,Nat.reduceLT,Nat.reduceSub,Int.reduceLT,Int.reduceLE,Int.reduceEq,Int.reduceNe,Int.reduceSub,Int.reduceAdd,Int.reduceMul,Int.reduceBEq,Int.reduceBNe,Int.reduceGT,Int.reduceGE,Nat.reduceGT,Int.reduceToNat,Int.reduceNeg,Nat.reduceLeDiff,Nat.reduceBEq,Nat.reduceBneDiff,hi1,hi2,Int.toNat_natCast,c5,w2,st6]
      have hk1 : Has1 S i (k + 1) := fun j h1 h2 => by
        by_cases e' : j = k + 1
        · exact ⟨e, hge.1, hge.2.1, by rw [e']; exact hge.2.2⟩
        · exact hh j h1 (by omega)
      have hk2 := hk1.le B.ok
      refine ⟨fun _ _ => trivial, _, ?_, k + 1, w.set i ((k + 1 : Nat) : Int), rfl, W5.put _ (by rw [List.length_set]; exact W5.h8), hk1, ?_, fun d hd => ?_⟩
      · omega
      · rw [List.getElem?_set]; simp [W5.h8, hlt]
      · rw [List.getElem?_set, if_neg (Ne.symm hd)]; exact hoth d hd
  · have hi1 : ¬ (i : Int) < 8 := by omega
    have e : i = 8 := by omega
    subst e
    have ld : q0j G ⟨b3, 0, none⟩ 8 = some (v.map (.int .i64)) := by
      rw [qau V.q3 (by simp [V.h8])]
      simp [V.h8, List.take_of_length_le]
    have vl : (v.map (Value.int .i64)).length = 8 := by simp [V.h8]
    have st : q88 G 8 (.pointer (some ⟨b2, 0, none⟩)) (.agg (v.map (.int .i64)).toArray) = some (G.set b2 (.own 0 (v.map (.int .i64)) 8)) :=
      qa0 V.q2 (by decide) vl (by simp [Bb.one]) (by simp) (by decide)
    have l2 : q0j (G.set b2 (.own 0 (v.map (.int .i64)) 8)) ⟨b2, 0, none⟩ 8 = some (v.map (.int .i64)) := z6x vl
    simp -implicitDefEqProofs only [zA,reduceIte,reduceCtorEq,Nat.reduceEqDiff,Nat.reduceAdd,Nat.reduceMul,Nat.reduceLT,Nat.reduceSub,Int.reduceLT,Int.reduceLE,Int.reduceEq,Int.reduceNe,Int.reduceSub,Int.reduceAdd,Int.reduceMul,Int.reduceBEq,Int.reduceBNe,Int.reduceGT,Int.reduceGE,Nat.reduceGT,Int.reduceToNat,Int.reduceNeg,Nat.reduceLeDiff,Nat.reduceBEq,Nat.reduceBneDiff,hi1,ld,st,l2]
    exact ⟨Heap.q0v V.le V.n2 _, v, ⟨V.h8, hdone⟩, rfl⟩
end Go.Bb
namespace Go.Bb
set_option linter.unusedSimpArgs false
set_option linter.unusedVariables false
set_option maxRecDepth 20000
set_option maxHeartbeats 2000000
open Go.MapKept
theorem qjb (E : EnvT tab) (K : BkOk E) {H : Heap} {b r : Nat} {S : List Ed} (B : BookAt H b r S) :
    ACallN E.toEnv qes [.pointer (some ⟨b, 0, none⟩)] H fun x H' => H.le H' ∧ ∃ b' r', x = .pointer (some ⟨b', 0, none⟩) ∧ H b' = none ∧ H r' = none ∧ BookAt H' b' r' S := by
  obtain ⟨es, c, L, qr, en, hp, st⟩ := B.qr
  refine q2r q8e q5l rfl rfl (q02 ?_)
  unfold q5l
  have cb : q1i H ⟨b, 0, none⟩ = some (.map (some r)) := by rw [q3o B.qb (by simp)]; rfl
  simp -implicitDefEqProofs only [zA,reduceIte,reduceCtorEq,Nat.reduceEqDiff,Nat.reduceAdd,Nat.reduceMul,Nat.reduceLT,Nat.reduceSub,Int.reduceLT,Int.reduceLE,Int.reduceEq,Int.reduceNe,Int.reduceSub,Int.reduceAdd,Int.reduceMul,Int.reduceBEq,Int.reduceBNe,Int.reduceGT,Int.reduceGE,Nat.reduceGT,Int.reduceToNat,Int.reduceNeg,Nat.reduceLeDiff,Nat.reduceBEq,Nat.reduceBneDiff,cb]
  intro f hf
  have e54 := K.f54
  rw [show q13 = 284 from rfl] at e54
  rw [e54] at hf
  cases hf
  refine qj8 E.toEnv K.P qr ?_
  intro r' hr'
  simp -implicitDefEqProofs only [zA,reduceIte,reduceCtorEq,Nat.reduceEqDiff,Nat.reduceAdd,Nat.reduceMul,Nat.reduceLT,Nat.reduceSub,Int.reduceLT,Int.reduceLE,Int.reduceEq,Int.reduceNe,Int.reduceSub,Int.reduceAdd,Int.reduceMul,Int.reduceBEq,Int.reduceBNe,Int.reduceGT,Int.reduceGE,Nat.reduceGT,Int.reduceToNat,Int.reduceNeg,Nat.reduceLeDiff,Nat.reduceBEq,Nat.reduceBneDiff]
  intro b' hb'
  try simp -implicitDefEqProofs only [zA,reduceIte,reduceCtorEq,Nat.reduceEqDiff,Nat.reduceAdd,Nat.reduceMul,Nat.reduceLT,Nat.reduceSub,Int.reduceLT,Int.reduceLE,Int.reduceEq,Int.reduceNe,Int.reduceSub,Int.reduceAdd,Int.reduceMul,Int.reduceBEq,Int.reduceBNe,Int.reduceGT,Int.reduceGE,Nat.reduceGT,Int.reduceToNat,Int.reduceNeg,Nat.reduceLeDiff,Nat.reduceBEq,Nat.reduceBneDiff]
  have ne : b' ≠ r' := by intro e; subst e; rw [Heap.q03] at hb'; cases hb'
  have hb2 : H b' = none := by rw [Heap.q42 ne] at hb'; exact hb'
  refine ⟨Heap.qg9 (Heap.q0v (Heap.q0a _) hr' _) hb' _, b', r', rfl, hb2, hr', ne, Heap.q03 _ _ _, ⟨es, c, L, by rw [Heap.q42 ne.symm, Heap.q03], en, hp, st⟩, B.ok⟩
theorem ent_getD {L S : List Ed} (p : L.Perm S) (ok : BkS S) {e : Ed} (he : e ∈ L) : q97 S e.dev e.n = some e := by
  cases h : q97 S e.dev e.n with
  | none => rw [q8c] at h; exact absurd ⟨rfl, rfl⟩ (h e (p.mem_iff.1 he))
  | some w =>
    have := getD_some h
    rw [ok.tot this.1 (p.mem_iff.1 he) this.2.1 this.2.2]
theorem q9o {R : Ed → Ed → Prop} (irr : ∀ x, ¬ R x x) (tr : ∀ x y z, R x y → R y z → R x z) : ∀ {T S : List Ed}, T.Pairwise R → S.Pairwise R → (∀ e ∈ S, e ∈ T) → S.Sublist T
  | [], S, _, _, h => by
    cases S with
    | nil => exact List.Sublist.slnil
    | cons x S => exact absurd (h x (List.mem_cons_self ..)) (by simp)
  | y :: T, [], _, _, _ => List.nil_sublist _
  | y :: T, x :: S, ht, hs, h => by
    rw [List.pairwise_cons] at ht hs
    by_cases e : x = y
    · subst e
      refine (q9o irr tr ht.2 hs.2 fun z hz => ?_).cons_cons x
      rcases List.mem_cons.1 (h z (List.mem_cons_of_mem _ hz)) with k | k
      · subst k; exact absurd (hs.1 _ hz) (irr _)
      · exact k
    · have hx : x ∈ T := (List.mem_cons.1 (h x (List.mem_cons_self ..))).resolve_left e
      refine (q9o irr tr ht.2 (List.pairwise_cons.2 hs) fun z hz => ?_).cons y
      rcases List.mem_cons.1 (h z hz) with k | k
      · subst k
        rcases List.mem_cons.1 hz with q | q
        · exact absurd q.symm e
        · exact absurd (tr _ _ _ (ht.1 x hx) (hs.1 _ q)) (irr _)
      · exact k
theorem qlz {S T : List Ed} (ok : BkS S) (ok2 : BkS T) (hl : S.length = T.length) (h : ∀ e ∈ S, e ∈ T) : S = T :=
  (q9o qax (fun x y z => @qad x y z) ok2.rise ok.rise h).eq_of_length hl
theorem qi9 (E : EnvT tab) {H : Heap} {b r b2 r2 : Nat} {S T : List Ed} (B : BookAt H b r S) (B2 : BookAt H b2 r2 T) :
    ACallN E.toEnv q17 [.map (some r), .map (some r2)] H fun x H' => H.le H' ∧ x = .bool (decide (S = T)) := by
  obtain ⟨es, c, L, qr, en, hp, st⟩ := B.qr
  obtain ⟨es2, c2, L2, qr2, en2, hp2, st2⟩ := B2.qr
  refine q2r q04 q01 rfl rfl (q02 ?_)
  unfold q01
  have hl : es.size = L.length := by simpa using congrArg List.length en
  have hl2 : es2.size = L2.length := by simpa using congrArg List.length en2
  have hpl := hp.length_eq
  have hpl2 := hp2.length_eq
  have ma : q5a H r = some (es, c) := by simp [q5a, qr]
  have ma2 : q5a H r2 = some (es2, c2) := by simp [q5a, qr2]
  by_cases g : (es.size : Int) = es2.size
  · simp -implicitDefEqProofs only [zA,reduceIte,reduceCtorEq,Nat.reduceEqDiff,Nat.reduceAdd,Nat.reduceMul,Nat.reduceLT,Nat.reduceSub,Int.reduceLT,Int.reduceLE,Int.reduceEq,Int.reduceNe,Int.reduceSub,Int.reduceAdd,Int.reduceMul,Int.reduceBEq,Int.reduceBNe,Int.reduceGT,Int.reduceGE,Nat.reduceGT,Int.reduceToNat,Int.reduceNeg,Nat.reduceLeDiff,Nat.reduceBEq,Nat.reduceBneDiff,ma,ma2,g,bne_self_eq_false]
    refine qk3 ma ?_
    intro b hb
    simp -implicitDefEqProofs only [zA,reduceIte,reduceCtorEq,Nat.reduceEqDiff,Nat.reduceAdd,Nat.reduceMul,Nat.reduceLT,Nat.reduceSub,Int.reduceLT,Int.reduceLE,Int.reduceEq,Int.reduceNe,Int.reduceSub,Int.reduceAdd,Int.reduceMul,Int.reduceBEq,Int.reduceBNe,Int.reduceGT,Int.reduceGE,Nat.reduceGT,Int.reduceToNat,Int.reduceNeg,Nat.reduceLeDiff,Nat.reduceBEq,Nat.reduceBneDiff]
    refine q1p (fun m t K => ∃ (seen : Array Nat) (ents : List MapEntry), Came es seen ents ∧ (∀ en ∈ ents, ∀ x ∈ L, en.val = edV x → x ∈ T) ∧ (t = tl [(1, .map (some r2)), (15, .pointer (some ⟨b, 0, none⟩))] ∨ t = tl [(1, .map (some r2)), (15, .pointer (some ⟨b, 0, none⟩)), (33, .bool false)]) ∧ m = (leftOf es seen).size ∧ H.le K ∧ K b = some (.obj (.mapIter (some r) c seen c))) (leftOf es #[]).size
      ⟨#[], [], Came.start es, by simp, .inl rfl, rfl, Heap.q0v (Heap.q0a _) hb _, Heap.q03 _ _ _⟩ ?_
    rintro m t K ⟨seen, ents, hC, hE, ht, rfl, leK, qb⟩
    have maK : ∀ K', H.le K' → q5a K' r = some (es, c) := fun K' x => by simp [q5a, x _ _ qr]
    have ma2K : ∀ K', H.le K' → q5a K' r2 = some (es2, c2) := fun K' x => by simp [q5a, x _ _ qr2]
    rcases ht with rfl | rfl
    all_goals
      simp -implicitDefEqProofs only [zA,reduceIte,reduceCtorEq,Nat.reduceEqDiff,Nat.reduceAdd,Nat.reduceMul,Nat.reduceLT,Nat.reduceSub,Int.reduceLT,Int.reduceLE,Int.reduceEq,Int.reduceNe,Int.reduceSub,Int.reduceAdd,Int.reduceMul,Int.reduceBEq,Int.reduceBNe,Int.reduceGT,Int.reduceGE,Nat.reduceGT,Int.reduceToNat,Int.reduceNeg,Nat.reduceLeDiff,Nat.reduceBEq,Nat.reduceBneDiff]
      refine qlc qb (maK K leK) st.1 (Nat.le_refl _) ?_ ?_
      · intro h0
        have hall := hC.done h0
        have hsub : ∀ x ∈ S, x ∈ T := fun x hx => by
          have hxL := hp.mem_iff.2 hx
          have h1 : (dotV x, edV x) ∈ L.map fun x => (dotV x, edV x) := List.mem_map_of_mem hxL
          unfold EntB at en
          rw [← en] at h1
          obtain ⟨en', he', hk'⟩ := List.mem_map.1 h1
          simp only [Prod.mk.injEq] at hk'
          exact hE en' (hall.mem_iff.2 he') x hxL hk'.2
        have hST : S = T := qlz B.ok B2.ok (by omega) hsub
        simp -implicitDefEqProofs only [zA,reduceIte,reduceCtorEq,Nat.reduceEqDiff,Nat.reduceAdd,Nat.reduceMul,Nat.reduceLT,Nat.reduceSub,Int.reduceLT,Int.reduceLE,Int.reduceEq,Int.reduceNe,Int.reduceSub,Int.reduceAdd,Int.reduceMul,Int.reduceBEq,Int.reduceBNe,Int.reduceGT,Int.reduceGE,Nat.reduceGT,Int.reduceToNat,Int.reduceNeg,Nat.reduceLeDiff,Nat.reduceBEq,Nat.reduceBneDiff,hST]
        exact leK
      · intro en' he'
        have hmem : en' ∈ es.toList := by rw [q8r] at he'; exact (List.mem_filter.1 he').1
        obtain ⟨x, hxL, hkx⟩ : ∃ x ∈ L, (dotV x, edV x) = (en'.key, en'.val) := by
          have h1 : (en'.key, en'.val) ∈ es.toList.map (fun e => (e.key, e.val)) := List.mem_map_of_mem hmem
          unfold EntB at en
          rw [en] at h1
          obtain ⟨x, hx, he⟩ := List.mem_map.1 h1
          exact ⟨x, hx, he⟩
        simp only [Prod.mk.injEq] at hkx
        have hx8 := B.ok.h8 x (hp.mem_iff.1 hxL)
        have leK1 : H.le (K.set b (.obj (.mapIter (some r) c (seen.push en'.born) c))) := Heap.q0v leK hb _
        have qb1 : (K.set b (.obj (.mapIter (some r) c (seen.push en'.born) c))) b = some (.obj (.mapIter (some r) c (seen.push en'.born) c)) := Heap.q03 _ _ _
        have hC1 := hC.step st he'
        have hlt1 := qc3 he'
        generalize (K.set b (.obj (.mapIter (some r) c (seen.push en'.born) c))) = K1 at leK1 qb1 ⊢
        have hen : qgs K1 (.pointer (some ⟨b, 0, none⟩)) = some (.tuple #[en'.key, en'.val]) :=
          qkg qb1 (maK K1 leK1) hmem st.2.1
        rw [← hkx.1, ← hkx.2] at hen ⊢
        unfold dotV edV at hen ⊢
        simp -implicitDefEqProofs only [zA,reduceIte,reduceCtorEq,Nat.reduceEqDiff,Nat.reduceAdd,Nat.reduceMul,Nat.reduceLT,Nat.reduceSub,Int.reduceLT,Int.reduceLE,Int.reduceEq,Int.reduceNe,Int.reduceSub,Int.reduceAdd,Int.reduceMul,Int.reduceBEq,Int.reduceBNe,Int.reduceGT,Int.reduceGE,Nat.reduceGT,Int.reduceToNat,Int.reduceNeg,Nat.reduceLeDiff,Nat.reduceBEq,Nat.reduceBneDiff,hen]
        intro b5 hb5 b6 hb6
        have n65 : b6 ≠ b5 := by intro e; subst e; rw [Heap.q03] at hb6; cases hb6
        have hb6' : K1 b6 = none := by rw [Heap.q42 n65] at hb6; exact hb6
        have leA : K1.le ((K1.set b5 (.own 0 [.int .i64 0, .int .i64 0] 2)).set b6 (.own 0 Z15 Z15.length)) := Heap.qg9 (Heap.q0v (Heap.q0a _) hb5 _) hb6 _
        have q5 : ((K1.set b5 (.own 0 [.int .i64 0, .int .i64 0] 2)).set b6 (.own 0 Z15 Z15.length)) b5 = some (.own 0 [.int .i64 0, .int .i64 0] 2) := by rw [Heap.q42 n65.symm, Heap.q03]
        have q6 : ((K1.set b5 (.own 0 [.int .i64 0, .int .i64 0] 2)).set b6 (.own 0 Z15 Z15.length)) b6 = some (.own 0 Z15 Z15.length) := Heap.q03 _ _ _
        unfold Z15 at leA q5 q6
        generalize ((K1.set b5 (.own 0 [.int .i64 0, .int .i64 0] 2)).set b6 (.own 0 (List.replicate 11 (.int .i64 0) ++ [.string .empty, .string .empty, .string .empty, .int .i64 0]) (List.replicate 11 (Value.int .i64 0) ++ [Value.string .empty, Value.string .empty, Value.string .empty, Value.int .i64 0]).length)) = Ga at leA q5 q6 ⊢
        have s5 : q88 Ga 2 (.pointer (some ⟨b5, 0, none⟩)) (.agg [Value.int .i64 x.dev, Value.int .i64 x.n].toArray) = some (Ga.set b5 (.own 0 [.int .i64 x.dev, .int .i64 x.n] 2)) := qa0 q5 (by decide) rfl rfl rfl (by decide)
        have s6 : q88 (Ga.set b5 (.own 0 [.int .i64 x.dev, .int .i64 x.n] 2)) 15 (.pointer (some ⟨b6, 0, none⟩)) (.agg (edC x).toArray) = some ((Ga.set b5 (.own 0 [.int .i64 x.dev, .int .i64 x.n] 2)).set b6 (.own 0 (edC x) 15)) := qa0 (by rw [Heap.q42 n65]; exact q6) (by decide) (q46 hx8) (qfx x) rfl (by decide)
        have leC : H.le ((Ga.set b5 (.own 0 [.int .i64 x.dev, .int .i64 x.n] 2)).set b6 (.own 0 (edC x) 15)) := Heap.q0v (Heap.q0v (Heap.q05 leK1 leA) (Heap.q1v leK1 hb5) _) (Heap.q1v leK1 hb6') _
        have qbC : ((Ga.set b5 (.own 0 [.int .i64 x.dev, .int .i64 x.n] 2)).set b6 (.own 0 (edC x) 15)) b = some (.obj (.mapIter (some r) c (seen.push en'.born) c)) := by
          have h5 : b ≠ b5 := fun e => by rw [e, hb5] at qb1; cases qb1
          have h6 : b ≠ b6 := fun e => by rw [e, hb6'] at qb1; cases qb1
          rw [Heap.q42 h6, Heap.q42 h5]; exact leA _ _ qb1
        have d5 : q0j ((Ga.set b5 (.own 0 [.int .i64 x.dev, .int .i64 x.n] 2)).set b6 (.own 0 (edC x) 15)) ⟨b5, 0, none⟩ 2 = some [.int .i64 x.dev, .int .i64 x.n] := by
          rw [qau (vs := [.int .i64 x.dev, .int .i64 x.n]) (by rw [Heap.q42 n65.symm, Heap.q03]) (by simp)]
          rfl
        have A6 : EdAt ((Ga.set b5 (.own 0 [.int .i64 x.dev, .int .i64 x.n] 2)).set b6 (.own 0 (edC x) 15)) b6 x := EdAt.of (Heap.q03 _ _ _) hx8
        try simp -implicitDefEqProofs only [zA,reduceIte,reduceCtorEq,Nat.reduceEqDiff,Nat.reduceAdd,Nat.reduceMul,Nat.reduceLT,Nat.reduceSub,Int.reduceLT,Int.reduceLE,Int.reduceEq,Int.reduceNe,Int.reduceSub,Int.reduceAdd,Int.reduceMul,Int.reduceBEq,Int.reduceBNe,Int.reduceGT,Int.reduceGE,Nat.reduceGT,Int.reduceToNat,Int.reduceNeg,Nat.reduceLeDiff,Nat.reduceBEq,Nat.reduceBneDiff,s5,s6]
        generalize ((Ga.set b5 (.own 0 [.int .i64 x.dev, .int .i64 x.n] 2)).set b6 (.own 0 (edC x) 15)) = Gc at leC qbC d5 A6 ⊢
        unfold q09
        have ma2C := ma2K Gc leC
        have kf : q8u (.agg [some IntKind.i64, some IntKind.i64]) (.agg #[Value.int .i64 x.dev, Value.int .i64 x.n]) = some () := rfl
        have hgp := qfs hp2 B2.ok x.dev x.n
        cases hgd : q97 T x.dev x.n with
        | none =>
          rw [hgd] at hgp
          have fv := qbk 0 en2 hgp
          have hne : ¬ S = T := fun e => by
            rw [q8c] at hgd
            exact hgd x (e ▸ hp.mem_iff.1 hxL) ⟨rfl, rfl⟩
          simp -implicitDefEqProofs only [zA,reduceIte,reduceCtorEq,Nat.reduceEqDiff,Nat.reduceAdd,Nat.reduceMul,Nat.reduceLT,Nat.reduceSub,Int.reduceLT,Int.reduceLE,Int.reduceEq,Int.reduceNe,Int.reduceSub,Int.reduceAdd,Int.reduceMul,Int.reduceBEq,Int.reduceBNe,Int.reduceGT,Int.reduceGE,Nat.reduceGT,Int.reduceToNat,Int.reduceNeg,Nat.reduceLeDiff,Nat.reduceBEq,Nat.reduceBneDiff,d5,ma2C,fvKD,fv,kf]
          intro b7 hb7
          have s7 : q88 (Gc.set b7 (.own 0 Z15 Z15.length)) 15 (.pointer (some ⟨b7, 0, none⟩)) (.agg Z15.toArray) = some (Gc.set b7 (.own 0 Z15 15)) := z6z (by decide) rfl rfl rfl (by decide)
          unfold Z15 at s7
          have le7 := Heap.q0v leC (Heap.q1v leC hb7) (.own 0 (List.replicate 11 (.int .i64 0) ++ [.string .empty, .string .empty, .string .empty, .int .i64 0]) 15)
          simp -implicitDefEqProofs only [zA,reduceIte,reduceCtorEq,Nat.reduceEqDiff,Nat.reduceAdd,Nat.reduceMul,Nat.reduceLT,Nat.reduceSub,Int.reduceLT,Int.reduceLE,Int.reduceEq,Int.reduceNe,Int.reduceSub,Int.reduceAdd,Int.reduceMul,Int.reduceBEq,Int.reduceBNe,Int.reduceGT,Int.reduceGE,Nat.reduceGT,Int.reduceToNat,Int.reduceNeg,Nat.reduceLeDiff,Nat.reduceBEq,Nat.reduceBneDiff,s7,hne]
          exact le7
        | some w =>
          rw [hgd] at hgp
          have hgw := getD_some hgd
          have hw8 := B2.ok.h8 w hgw.1
          obtain ⟨j, fv⟩ := qbj 0 en2 hgp
          unfold edV at fv
          simp -implicitDefEqProofs only [zA,reduceIte,reduceCtorEq,Nat.reduceEqDiff,Nat.reduceAdd,Nat.reduceMul,Nat.reduceLT,Nat.reduceSub,Int.reduceLT,Int.reduceLE,Int.reduceEq,Int.reduceNe,Int.reduceSub,Int.reduceAdd,Int.reduceMul,Int.reduceBEq,Int.reduceBNe,Int.reduceGT,Int.reduceGE,Nat.reduceGT,Int.reduceToNat,Int.reduceNeg,Nat.reduceLeDiff,Nat.reduceBEq,Nat.reduceBneDiff,d5,ma2C,fvKD,fv,kf]
          intro b7 hb7
          have s7 := stE Gc b7 hw8
          unfold Z15 at s7
          have le7 := Heap.q0v leC (Heap.q1v leC hb7) (.own 0 (edC w) 15)
          have le7c := Heap.q0v (Heap.q0a Gc) hb7 (.own 0 (edC w) 15)
          have O7 : EdAt (Gc.set b7 (.own 0 (edC w) 15)) b7 w := EdAt.of (Heap.q03 _ _ _) hw8
          have A7 := A6.le hx8 le7c
          have qb7 := le7c _ _ qbC
          try simp -implicitDefEqProofs only [zA,reduceIte,reduceCtorEq,Nat.reduceEqDiff,Nat.reduceAdd,Nat.reduceMul,Nat.reduceLT,Nat.reduceSub,Int.reduceLT,Int.reduceLE,Int.reduceEq,Int.reduceNe,Int.reduceSub,Int.reduceAdd,Int.reduceMul,Int.reduceBEq,Int.reduceBNe,Int.reduceGT,Int.reduceGE,Nat.reduceGT,Int.reduceToNat,Int.reduceNeg,Nat.reduceLeDiff,Nat.reduceBEq,Nat.reduceBneDiff,s7]
          generalize (Gc.set b7 (.own 0 (edC w) 15)) = G7 at le7 le7c O7 A7 qb7 ⊢
          have k1 := qa6 x hx8
          have k2 := qa6 w hw8
          have k3 := qa7 x w hx8 hw8
          by_cases xw : x = w
          · subst xw
            have k3' : q0e (edC x) (edC x) = true := by rw [k3]; simp
            simp -implicitDefEqProofs only [zA,reduceIte,reduceCtorEq,Nat.reduceEqDiff,Nat.reduceAdd,Nat.reduceMul,Nat.reduceLT,Nat.reduceSub,Int.reduceLT,Int.reduceLE,Int.reduceEq,Int.reduceNe,Int.reduceSub,Int.reduceAdd,Int.reduceMul,Int.reduceBEq,Int.reduceBNe,Int.reduceGT,Int.reduceGE,Nat.reduceGT,Int.reduceToNat,Int.reduceNeg,Nat.reduceLeDiff,Nat.reduceBEq,Nat.reduceBneDiff,A7.all,O7.all,k1,k2,k3']
            refine ⟨_, hlt1, seen.push en'.born, ents ++ [en'], hC1, fun e he y hy hye => ?_, .inr trivial, rfl, le7, qb7⟩
            rcases List.mem_append.1 he with h | h
            · exact hE e h y hy hye
            · rw [List.mem_singleton.1 h, ← hkx.2] at hye
              have : edC x = edC y := by
                unfold edV at hye
                simpa using hye
              have hy8 := B.ok.h8 y (hp.mem_iff.1 hy)
              have hxy : x = y := by
                have := qa7 x y hx8 hy8
                rw [← ‹edC x = edC y›, qa7 x x hx8 hx8] at this
                simpa using this.symm
              rw [← hxy]; exact hgw.1
          · have k3' : q0e (edC x) (edC w) = false := by rw [k3]; simp [xw]
            have hne : ¬ S = T := fun e => xw (by
              have h1 := ent_getD hp B.ok hxL
              rw [e, hgd] at h1
              exact (Option.some.inj h1).symm)
            simp -implicitDefEqProofs only [zA,reduceIte,reduceCtorEq,Nat.reduceEqDiff,Nat.reduceAdd,Nat.reduceMul,Nat.reduceLT,Nat.reduceSub,Int.reduceLT,Int.reduceLE,Int.reduceEq,Int.reduceNe,Int.reduceSub,Int.reduceAdd,Int.reduceMul,Int.reduceBEq,Int.reduceBNe,Int.reduceGT,Int.reduceGE,Nat.reduceGT,Int.reduceToNat,Int.reduceNeg,Nat.reduceLeDiff,Nat.reduceBEq,Nat.reduceBneDiff,A7.all,O7.all,k1,k2,k3',hne]
            exact le7
  · have g' : ((es.size : Int) != es2.size) = true := by simpa using g
    have hne : ¬ S = T := fun e => g (by rw [hl, hl2, hpl, hpl2, e])
    simp -implicitDefEqProofs only [zA,reduceIte,reduceCtorEq,Nat.reduceEqDiff,Nat.reduceAdd,Nat.reduceMul,Nat.reduceLT,Nat.reduceSub,Int.reduceLT,Int.reduceLE,Int.reduceEq,Int.reduceNe,Int.reduceSub,Int.reduceAdd,Int.reduceMul,Int.reduceBEq,Int.reduceBNe,Int.reduceGT,Int.reduceGE,Nat.reduceGT,Int.reduceToNat,Int.reduceNeg,Nat.reduceLeDiff,Nat.reduceBEq,Nat.reduceBneDiff,ma,ma2,g',hne]
    exact Heap.q0a _
theorem qja (E : EnvT tab) {H : Heap} {b r b2 r2 : Nat} {S T : List Ed} (B : BookAt H b r S) (B2 : BookAt H b2 r2 T) :
    ACallN E.toEnv qiz [.pointer (some ⟨b, 0, none⟩), .pointer (some ⟨b2, 0, none⟩)] H fun x H' => H.le H' ∧ x = .bool (decide (S = T)) := by
  refine q2r qck q9f rfl rfl (q02 ?_)
  unfold q9f
  have cb : q1i H ⟨b, 0, none⟩ = some (.map (some r)) := by rw [q3o B.qb (by simp)]; rfl
  have cb2 : q1i H ⟨b2, 0, none⟩ = some (.map (some r2)) := by rw [q3o B2.qb (by simp)]; rfl
  simp -implicitDefEqProofs only [zA,reduceIte,reduceCtorEq,Nat.reduceEqDiff,Nat.reduceAdd,Nat.reduceMul,Nat.reduceLT,Nat.reduceSub,Int.reduceLT,Int.reduceLE,Int.reduceEq,Int.reduceNe,Int.reduceSub,Int.reduceAdd,Int.reduceMul,Int.reduceBEq,Int.reduceBNe,Int.reduceGT,Int.reduceGE,Nat.reduceGT,Int.reduceToNat,Int.reduceNeg,Nat.reduceLeDiff,Nat.reduceBEq,Nat.reduceBneDiff,cb,cb2]
  refine (qi9 E B B2).mono ?_
  rintro x H1 ⟨le1, rfl⟩
  simp -implicitDefEqProofs only [zA,reduceIte,reduceCtorEq,Nat.reduceEqDiff,Nat.reduceAdd,Nat.reduceMul,Nat.reduceLT,Nat.reduceSub,Int.reduceLT,Int.reduceLE,Int.reduceEq,Int.reduceNe,Int.reduceSub,Int.reduceAdd,Int.reduceMul,Int.reduceBEq,Int.reduceBNe,Int.reduceGT,Int.reduceGE,Nat.reduceGT,Int.reduceToNat,Int.reduceNeg,Nat.reduceLeDiff,Nat.reduceBEq,Nat.reduceBneDiff]
  exact le1
theorem Keep.trans {r : Nat} {H G G' : Heap} (h : Keep r H G) (k : Keep r G G') : Keep r H G' := fun b x hb hr => k b x (h b x hb hr) hr
theorem Keep.fresh {r : Nat} {H G G' : Heap} (hr : H r = none) (le : H.le G) (k : Keep r G G') : H.le G' := fun b x hb => k b x (le b x hb) (fun e => by rw [e, hr] at hb; cases hb)
theorem BookAt.keep {H H' : Heap} {b r q : Nat} {S : List Ed} (x : BookAt H b r S) (k : Keep q H H') (h1 : b ≠ q) (h2 : r ≠ q) : BookAt H' b r S := by
  obtain ⟨es, c, L, g1, g2⟩ := x.qr
  exact ⟨x.ne, k _ _ x.qb h1, ⟨es, c, L, k _ _ g1 h2, g2⟩, x.ok⟩
end Go.Bb
namespace Go.Bb
set_option linter.unusedSimpArgs false
set_option linter.unusedVariables false
theorem qdk (a : Str) : ¬ a < a := List.lt_irrefl a
theorem qhy {a b c : Str} (h : a < b) (k : b < c) : a < c := List.lt_trans h k
theorem sLt_tri {a b : Str} (h : ¬ a < b) (k : ¬ b < a) : a = b := List.le_antisymm k h
theorem sLt_of {a b : Str} (h : a ≤ b) (k : a ≠ b) : a < b := by
  by_cases g : a < b
  · exact g
  · exact absurd (sLt_tri g h) k
theorem qh5 (l : List Str) : (q7t l).Pairwise (fun a b => a ≤ b) := by
  have := List.pairwise_mergeSort (le := fun x y : Str => decide (x ≤ y)) (by
    intro a b c h1 h2
    simp only [decide_eq_true_eq] at *
    exact List.le_trans h1 h2) (by
    intro a b
    simp only [Bool.or_eq_true, decide_eq_true_eq]
    exact List.le_total a b) l
  exact this.imp fun {a b} h => by simpa using h
theorem qkb {l : List Str} {x : Str} : x ∈ q7t l ↔ x ∈ l := List.mem_mergeSort
theorem comp_inv (d : Array Str) (hs : ∀ i j, i < j → j < d.size → d[i]! ≤ d[j]!) : ∀ m, m ≤ d.size → (Lib.compactUpTo d m).Pairwise (· < ·) ∧ (∀ x, x ∈ Lib.compactUpTo d m ↔ ∃ i, i < m ∧ d[i]! = x) := by
  intro m
  induction m with
  | zero => intro _; simp [Lib.compactUpTo]
  | succ m ih =>
    intro hm
    obtain ⟨h1, h2⟩ := ih (by omega)
    rw [Lib.compactUpTo_succ]
    by_cases k : Lib.keeps d m = true
    · rw [if_pos k]
      refine ⟨?_, fun x => ?_⟩
      · rw [List.pairwise_append]
        refine ⟨h1, by simp, fun x hx y hy => ?_⟩
        rw [List.mem_singleton] at hy
        subst hy
        obtain ⟨i, hi, rfl⟩ := (h2 x).1 hx
        unfold Lib.keeps at k
        simp only [decide_eq_true_eq] at k
        have hne : d[m]! ≠ d[m - 1]! := k.resolve_left (by omega)
        have hle : d[m - 1]! ≤ d[m]! := hs _ _ (by omega) (by omega)
        have hlt : d[m - 1]! < d[m]! := sLt_of hle (Ne.symm hne)
        by_cases e : i = m - 1
        · rw [e]; exact hlt
        · have := hs i (m - 1) (by omega) (by omega)
          by_cases q : d[i]! = d[m - 1]!
          · rw [q]; exact hlt
          · exact qhy (sLt_of this q) hlt
      · rw [List.mem_append, h2, List.mem_singleton]
        constructor
        · rintro (⟨i, hi, rfl⟩ | rfl)
          · exact ⟨i, by omega, rfl⟩
          · exact ⟨m, by omega, rfl⟩
        · rintro ⟨i, hi, rfl⟩
          by_cases e : i = m
          · exact .inr (by rw [e])
          · exact .inl ⟨i, by omega, rfl⟩
    · rw [if_neg k, List.append_nil]
      refine ⟨h1, fun x => ?_⟩
      unfold Lib.keeps at k
      simp only [decide_eq_true_eq, not_or, Decidable.not_not] at k
      rw [h2]
      constructor
      · rintro ⟨i, hi, rfl⟩; exact ⟨i, by omega, rfl⟩
      · rintro ⟨i, hi, rfl⟩
        by_cases e : i = m
        · exact ⟨m - 1, by omega, by rw [e, k.2]⟩
        · exact ⟨i, by omega, rfl⟩
theorem qgh (l : List Str) : (qit l).Pairwise (· < ·) ∧ ∀ x, x ∈ qit l ↔ x ∈ l := by
  have hsz : (q7t l).toArray.size = (q7t l).length := by simp
  have hg : ∀ i, i < (q7t l).length → ∀ h : i < (q7t l).length, (q7t l).toArray[i]! = (q7t l)[i] := fun i hi h => by simp [h]
  have hs := qh5 l
  rw [List.pairwise_iff_getElem] at hs
  obtain ⟨h1, h2⟩ := comp_inv (q7t l).toArray (fun i j hij hj => by
    rw [hsz] at hj
    rw [hg i (by omega) (by omega), hg j hj hj]
    exact hs i j (by omega) hj hij) (q7t l).length (by simp)
  refine ⟨h1, fun x => ?_⟩
  unfold qit Lib.compact
  rw [h2, ← qkb]
  constructor
  · rintro ⟨i, hi, rfl⟩
    rw [hg i hi hi]; exact List.getElem_mem hi
  · intro hx
    obtain ⟨i, hi, rfl⟩ := List.getElem_of_mem hx
    exact ⟨i, hi, hg i hi hi⟩
theorem qgw {l m : List Str} (hl : l.Pairwise (· < ·)) (hm : m.Pairwise (· < ·)) (h : ∀ x, x ∈ l ↔ x ∈ m) : l = m := by
  have nl : l.Nodup := List.Pairwise.imp (fun {a b} (k : a < b) (e : a = b) => qdk b (by rw [e] at k; exact k)) hl
  have nm : m.Nodup := List.Pairwise.imp (fun {a b} (k : a < b) (e : a = b) => qdk b (by rw [e] at k; exact k)) hm
  have hp : l.Perm m := by
    rw [List.perm_iff_count]
    intro a
    rw [nl.count, nm.count]
    by_cases ha : a ∈ l
    · rw [if_pos ha, if_pos ((h a).1 ha)]
    · rw [if_neg ha, if_neg (fun k => ha ((h a).2 k))]
  exact q8i qdk (fun x y z => qhy) hp hl hm
end Go.Bb
namespace Go.Bb
set_option linter.unusedSimpArgs false
set_option linter.unusedVariables false
set_option maxRecDepth 20000
set_option maxHeartbeats 2000000
open Go.MapKept
abbrev SlS (H : Heap) (v : Value) (L : List Str) : Prop := Sl H 1 v L.length (L.map strV)
theorem SlS.cell {H : Heap} {v : Value} {L : List Str} (s : SlS H v L) (i : Nat) (hi : i < L.length) :
    ∃ b o c, v = .slice (some ⟨b, o, none⟩) L.length c ∧ q1i H ⟨b, o + i, none⟩ = some (strV L[i]) := by
  unfold SlS at s
  rw [← q9m strV L] at s
  obtain ⟨b, o, c, h1, h2, h3⟩ := Sl.at (f := fun s => [strV s]) (fun _ => rfl) s i hi (by decide)
  have h4 := qha (h3 H (Heap.q0a _)) 0 Nat.zero_lt_one
  simp only [List.getElem?_cons_zero, Nat.mul_one, Nat.add_zero] at h4
  exact ⟨b, o, c, h1, h4⟩
theorem qkt (E : EnvT tab) {H : Heap} {v w : Value} {L M : List Str} (s : SlS H v L) (q : SlS H w M) (hl : L.length ≤ 1000000) (hm : M.length ≤ 1000000) :
    ACallN E.toEnv qbv [v, w] H fun r H' => H' = H ∧ r = .bool (decide (L = M)) := by
  obtain ⟨b1, c1, rfl⟩ := s.shape
  obtain ⟨b2, c2, rfl⟩ := q.shape
  refine q2r q5x q34 rfl rfl (q02 ?_)
  unfold q34
  by_cases g : L.length = M.length
  · have g' : ((L.length : Int) != M.length) = false := by simp [g]
    simp -implicitDefEqProofs only [zA,reduceIte,reduceCtorEq,Nat.reduceEqDiff,Nat.reduceAdd,Nat.reduceMul,Nat.reduceLT,Nat.reduceSub,Int.reduceLT,Int.reduceLE,Int.reduceEq,Int.reduceNe,Int.reduceSub,Int.reduceAdd,Int.reduceMul,Int.reduceBEq,Int.reduceBNe,Int.reduceGT,Int.reduceGE,Nat.reduceGT,Int.reduceToNat,Int.reduceNeg,Nat.reduceLeDiff,Nat.reduceBEq,Nat.reduceBneDiff,g']
    refine q1p (fun m t G => G = H ∧ ∃ i : Nat, t = tl [(0, .slice b1 L.length c1), (1, .slice b2 M.length c2), (5, .int .i64 i)] ∧ i ≤ L.length ∧ m = L.length - i ∧ L.take i = M.take i) L.length
      ⟨rfl, 0, rfl, by omega, by omega, rfl⟩ ?_
    rintro m t G ⟨rfl, i, rfl, hi, rfl, ht⟩
    by_cases hlt : i < L.length
    · have hlt2 : i < M.length := by omega
      have hi1 : (i : Int) < L.length := by omega
      have hi3 : (i : Int) < M.length := by omega
      have hi2 : (0 : Int) ≤ i := by omega
      have w1 : IntKind.i64.wrap ((i : Int) + 1) = ((i + 1 : Nat) : Int) := qc7 (by omega)
      obtain ⟨x1, o1, d1, e1, k1⟩ := s.cell i hlt
      obtain ⟨x2, o2, d2, e2, k2⟩ := q.cell i hlt2
      simp only [Value.slice.injEq, true_and] at e1 e2
      obtain ⟨rfl, rfl⟩ := e1
      obtain ⟨rfl, rfl⟩ := e2
      have sn := qgx L[i] M[i]
      have t1 : L.take (i + 1) = L.take i ++ [L[i]] := List.take_succ_eq_append_getElem hlt
      have t2 : M.take (i + 1) = M.take i ++ [M[i]] := List.take_succ_eq_append_getElem hlt2
      by_cases e : L[i] = M[i]
      · rw [decide_eq_true e] at sn
        simp -implicitDefEqProofs only [zA,reduceIte,reduceCtorEq,Nat.reduceEqDiff,Nat.reduceAdd,Nat.reduceMul,Nat.reduceLT,Nat.reduceSub,Int.reduceLT,Int.reduceLE,Int.reduceEq,Int.reduceNe,Int.reduceSub,Int.reduceAdd,Int.reduceMul,Int.reduceBEq,Int.reduceBNe,Int.reduceGT,Int.reduceGE,Nat.reduceGT,Int.reduceToNat,Int.reduceNeg,Nat.reduceLeDiff,Nat.reduceBEq,Nat.reduceBneDiff,hi1,hi2,hi3,Int.toNat_natCast,k1,k2,sn,w1]
        refine ⟨_, ?_, i + 1, rfl, by omega, rfl, by rw [t1, t2, ht, e]⟩
        omega
      · rw [decide_eq_false e] at sn
        have hne : ¬ L = M := fun h => e (by simp [h])
        simp -implicitDefEqProofs only [zA,reduceIte,reduceCtorEq,Nat.reduceEqDiff,Nat.reduceAdd,Nat.reduceMul,Nat.reduceLT,Nat.reduceSub,Int.reduceLT,Int.reduceLE,Int.reduceEq,Int.reduceNe,Int.reduceSub,Int.reduceAdd,Int.reduceMul,Int.reduceBEq,Int.reduceBNe,Int.reduceGT,Int.reduceGE,Nat.reduceGT,Int.reduceToNat,Int.reduceNeg,Nat.reduceLeDiff,Nat.reduceBEq,Nat.reduceBneDiff,hi1,hi2,hi3,Int.toNat_natCast,k1,k2,sn,hne]
    · have hi1 : ¬ (i : Int) < L.length := by omega
      have e : i = L.length := by omega
      subst e
      have hLM : L = M := by
        rw [List.take_length, List.take_of_length_le (by omega)] at ht
        exact ht
      rw [decide_eq_true hLM]
      simp -implicitDefEqProofs only [zA,reduceIte,reduceCtorEq,Nat.reduceEqDiff,Nat.reduceAdd,Nat.reduceMul,Nat.reduceLT,Nat.reduceSub,Int.reduceLT,Int.reduceLE,Int.reduceEq,Int.reduceNe,Int.reduceSub,Int.reduceAdd,Int.reduceMul,Int.reduceBEq,Int.reduceBNe,Int.reduceGT,Int.reduceGE,Nat.reduceGT,Int.reduceToNat,Int.reduceNeg,Nat.reduceLeDiff,Nat.reduceBEq,Nat.reduceBneDiff,hi1]
  · have g' : ((L.length : Int) != M.length) = true := by simp; omega
    have hne : ¬ L = M := fun h => g (by rw [h])
    simp -implicitDefEqProofs only [zA,reduceIte,reduceCtorEq,Nat.reduceEqDiff,Nat.reduceAdd,Nat.reduceMul,Nat.reduceLT,Nat.reduceSub,Int.reduceLT,Int.reduceLE,Int.reduceEq,Int.reduceNe,Int.reduceSub,Int.reduceAdd,Int.reduceMul,Int.reduceBEq,Int.reduceBNe,Int.reduceGT,Int.reduceGE,Nat.reduceGT,Int.reduceToNat,Int.reduceNeg,Nat.reduceLeDiff,Nat.reduceBEq,Nat.reduceBneDiff,g',hne]
def longE (e : Ed) : Bool := decide (60 < e.con.length) || (decide (60 < e.fld.length) || decide (250 < e.val.length))
theorem long_c (E : EnvT tab) (H : Heap) (e : Ed) (h8 : e.seen.length = 8) : ACallN E.toEnv qcg [edV e] H fun r H' => H.le H' ∧ r = .bool (longE e) := by
  refine q2r q70 q3n rfl rfl (q02 ?_)
  unfold q3n edV
  have el := q46 h8
  simp -implicitDefEqProofs only [zA,reduceIte,reduceCtorEq,Nat.reduceEqDiff,Nat.reduceAdd,Nat.reduceMul,Nat.reduceLT,Nat.reduceSub,Int.reduceLT,Int.reduceLE,Int.reduceEq,Int.reduceNe,Int.reduceSub,Int.reduceAdd,Int.reduceMul,Int.reduceBEq,Int.reduceBNe,Int.reduceGT,Int.reduceGE,Nat.reduceGT,Int.reduceToNat,Int.reduceNeg,Nat.reduceLeDiff,Nat.reduceBEq,Nat.reduceBneDiff]
  intro b hb
  try simp -implicitDefEqProofs only [zA,reduceIte,reduceCtorEq,Nat.reduceEqDiff,Nat.reduceAdd,Nat.reduceMul,Nat.reduceLT,Nat.reduceSub,Int.reduceLT,Int.reduceLE,Int.reduceEq,Int.reduceNe,Int.reduceSub,Int.reduceAdd,Int.reduceMul,Int.reduceBEq,Int.reduceBNe,Int.reduceGT,Int.reduceGE,Nat.reduceGT,Int.reduceToNat,Int.reduceNeg,Nat.reduceLeDiff,Nat.reduceBEq,Nat.reduceBneDiff]
  rw [el]
  have le := Heap.q0v (Heap.q0a H) hb (.own 0 (edC e) 15)
  have A : EdAt (H.set b (.own 0 (edC e) 15)) b e := EdAt.of (Heap.q03 _ _ _) h8
  generalize (H.set b (.own 0 (edC e) 15)) = G at le A
  have v1 : strV e.con = .string ⟨e.con.toArray⟩ := rfl
  have v2 : strV e.fld = .string ⟨e.fld.toArray⟩ := rfl
  have v3 : strV e.val = .string ⟨e.val.toArray⟩ := rfl
  have z1 := qao e.con
  have z2 := qao e.fld
  have z3 := qao e.val
  unfold longE
  by_cases g1 : 60 < e.con.length
  · have g1' : (60 : Int) < e.con.length := by omega
    simp -implicitDefEqProofs only [zA,reduceIte,reduceCtorEq,Nat.reduceEqDiff,Nat.reduceAdd,Nat.reduceMul,Nat.reduceLT,Nat.reduceSub,Int.reduceLT,Int.reduceLE,Int.reduceEq,Int.reduceNe,Int.reduceSub,Int.reduceAdd,Int.reduceMul,Int.reduceBEq,Int.reduceBNe,Int.reduceGT,Int.reduceGE,Nat.reduceGT,Int.reduceToNat,Int.reduceNeg,Nat.reduceLeDiff,Nat.reduceBEq,Nat.reduceBneDiff,A.con,v1,z1,g1',g1,decide_true,Bool.true_or]
    exact le
  · have g1' : ¬ (60 : Int) < e.con.length := by omega
    by_cases g2 : 60 < e.fld.length
    · have g2' : (60 : Int) < e.fld.length := by omega
      simp -implicitDefEqProofs only [zA,reduceIte,reduceCtorEq,Nat.reduceEqDiff,Nat.reduceAdd,Nat.reduceMul,Nat.reduceLT,Nat.reduceSub,Int.reduceLT,Int.reduceLE,Int.reduceEq,Int.reduceNe,Int.reduceSub,Int.reduceAdd,Int.reduceMul,Int.reduceBEq,Int.reduceBNe,Int.reduceGT,Int.reduceGE,Nat.reduceGT,Int.reduceToNat,Int.reduceNeg,Nat.reduceLeDiff,Nat.reduceBEq,Nat.reduceBneDiff,A.con,v1,z1,g1',g1,A.fld,v2,z2,g2',g2,decide_true,decide_false,Bool.true_or,Bool.false_or]
      exact le
    · have g2' : ¬ (60 : Int) < e.fld.length := by omega
      by_cases g3 : 250 < e.val.length
      · have g3' : (250 : Int) < e.val.length := by omega
        simp -implicitDefEqProofs only [zA,reduceIte,reduceCtorEq,Nat.reduceEqDiff,Nat.reduceAdd,Nat.reduceMul,Nat.reduceLT,Nat.reduceSub,Int.reduceLT,Int.reduceLE,Int.reduceEq,Int.reduceNe,Int.reduceSub,Int.reduceAdd,Int.reduceMul,Int.reduceBEq,Int.reduceBNe,Int.reduceGT,Int.reduceGE,Nat.reduceGT,Int.reduceToNat,Int.reduceNeg,Nat.reduceLeDiff,Nat.reduceBEq,Nat.reduceBneDiff,A.con,v1,z1,g1',g1,A.fld,v2,z2,g2',g2,A.val,v3,z3,g3',g3,decide_true,decide_false,Bool.true_or,Bool.false_or]
        exact le
      · have g3' : ¬ (250 : Int) < e.val.length := by omega
        simp -implicitDefEqProofs only [zA,reduceIte,reduceCtorEq,Nat.reduceEqDiff,Nat.reduceAdd,Nat.reduceMul,Nat.reduceLT,Nat.reduceSub,Int.reduceLT,Int.reduceLE,Int.reduceEq,Int.reduceNe,Int.reduceSub,Int.reduceAdd,Int.reduceMul,Int.reduceBEq,Int.reduceBNe,Int.reduceGT,Int.reduceGE,Nat.reduceGT,Int.reduceToNat,Int.reduceNeg,Nat.reduceLeDiff,Nat.reduceBEq,Nat.reduceBneDiff,A.con,v1,z1,g1',g1,A.fld,v2,z2,g2',g2,A.val,v3,z3,g3',g3,decide_true,decide_false,Bool.true_or,Bool.false_or]
        exact le
def eA : Ed := ⟨1, 1, List.replicate 8 0, 1, [99], [102], [121], 1⟩
def eB : Ed := ⟨0, 1, List.replicate 8 0, 1, [99], [102], [120], 0⟩
theorem add_eA : addB [] eA = ([eA], 0) := by decide
theorem add_eB : addB [eA] eB = ([eB, eA], 0) := by decide
theorem qln : q9l [eB, eA] = [eB, eA] := by decide
theorem all_AB : allB [eB, eA] [99] [102] = [[120], [121]] := by unfold allB; rw [qln]; decide
theorem con_AB : q7r [eB, eA] = [[99]] := by
  unfold q7r
  rw [qln]
  refine qgw (qgh _).1 (by simp) fun x => ?_
  rw [(qgh _).2]
  simp [eA, eB]
theorem vec_AB : VecOf [eB, eA] [1, 1, 0, 0, 0, 0, 0, 0] := by
  refine ⟨rfl, fun d hd => ?_⟩
  match d, hd with
  | 0, _ => exact ⟨1, rfl, fun j h1 h2 => ⟨eB, by simp, rfl, by simp [eB]; omega⟩, by simp [eA, eB]⟩
  | 1, _ => exact ⟨1, rfl, fun j h1 h2 => ⟨eA, by simp, rfl, by simp [eA]; omega⟩, by simp [eA, eB]⟩
  | 2, _ => exact ⟨0, rfl, fun j h1 h2 => by omega, by simp [eA, eB]⟩
  | 3, _ => exact ⟨0, rfl, fun j h1 h2 => by omega, by simp [eA, eB]⟩
  | 4, _ => exact ⟨0, rfl, fun j h1 h2 => by omega, by simp [eA, eB]⟩
  | 5, _ => exact ⟨0, rfl, fun j h1 h2 => by omega, by simp [eA, eB]⟩
  | 6, _ => exact ⟨0, rfl, fun j h1 h2 => by omega, by simp [eA, eB]⟩
  | 7, _ => exact ⟨0, rfl, fun j h1 h2 => by omega, by simp [eA, eB]⟩
theorem qh8 (E : EnvT tab) (K : BkOk E) (H : Heap) : ACallN E.toEnv qbw [] H fun r H' => H.le H' ∧ r = .bool true := by
  refine q2r q5y q35 rfl rfl (q02 ?_)
  unfold q35
  simp -implicitDefEqProofs only [zA,reduceIte,reduceCtorEq,Nat.reduceEqDiff,Nat.reduceAdd,Nat.reduceMul,Nat.reduceLT,Nat.reduceSub,Int.reduceLT,Int.reduceLE,Int.reduceEq,Int.reduceNe,Int.reduceSub,Int.reduceAdd,Int.reduceMul,Int.reduceBEq,Int.reduceBNe,Int.reduceGT,Int.reduceGE,Nat.reduceGT,Int.reduceToNat,Int.reduceNeg,Nat.reduceLeDiff,Nat.reduceBEq,Nat.reduceBneDiff]
  refine (qgu E H).mono ?_
  rintro v H1 ⟨le1, b, r, rfl, nb, nr, B1⟩
  simp -implicitDefEqProofs only [zA,reduceIte,reduceCtorEq,Nat.reduceEqDiff,Nat.reduceAdd,Nat.reduceMul,Nat.reduceLT,Nat.reduceSub,Int.reduceLT,Int.reduceLE,Int.reduceEq,Int.reduceNe,Int.reduceSub,Int.reduceAdd,Int.reduceMul,Int.reduceBEq,Int.reduceBNe,Int.reduceGT,Int.reduceGE,Nat.reduceGT,Int.reduceToNat,Int.reduceNeg,Nat.reduceLeDiff,Nat.reduceBEq,Nat.reduceBneDiff]
  change q0h (some (edV eA)) _ _
  simp -implicitDefEqProofs only [zA,reduceIte,reduceCtorEq,Nat.reduceEqDiff,Nat.reduceAdd,Nat.reduceMul,Nat.reduceLT,Nat.reduceSub,Int.reduceLT,Int.reduceLE,Int.reduceEq,Int.reduceNe,Int.reduceSub,Int.reduceAdd,Int.reduceMul,Int.reduceBEq,Int.reduceBNe,Int.reduceGT,Int.reduceGE,Nat.reduceGT,Int.reduceToNat,Int.reduceNeg,Nat.reduceLeDiff,Nat.reduceBEq,Nat.reduceBneDiff]
  refine (qbo E B1 eA rfl (by decide) (by decide) (by decide) (by decide)).mono ?_
  rintro v H2 ⟨rfl, B2, k2⟩
  rw [add_eA] at B2 ⊢
  unfold q77
  simp -implicitDefEqProofs only [zA,reduceIte,reduceCtorEq,Nat.reduceEqDiff,Nat.reduceAdd,Nat.reduceMul,Nat.reduceLT,Nat.reduceSub,Int.reduceLT,Int.reduceLE,Int.reduceEq,Int.reduceNe,Int.reduceSub,Int.reduceAdd,Int.reduceMul,Int.reduceBEq,Int.reduceBNe,Int.reduceGT,Int.reduceGE,Nat.reduceGT,Int.reduceToNat,Int.reduceNeg,Nat.reduceLeDiff,Nat.reduceBEq,Nat.reduceBneDiff]
  change q0h (some (edV eB)) _ _
  simp -implicitDefEqProofs only [zA,reduceIte,reduceCtorEq,Nat.reduceEqDiff,Nat.reduceAdd,Nat.reduceMul,Nat.reduceLT,Nat.reduceSub,Int.reduceLT,Int.reduceLE,Int.reduceEq,Int.reduceNe,Int.reduceSub,Int.reduceAdd,Int.reduceMul,Int.reduceBEq,Int.reduceBNe,Int.reduceGT,Int.reduceGE,Nat.reduceGT,Int.reduceToNat,Int.reduceNeg,Nat.reduceLeDiff,Nat.reduceBEq,Nat.reduceBneDiff]
  refine (qbo E B2 eB rfl (by decide) (by decide) (by decide) (by decide)).mono ?_
  rintro v H3 ⟨rfl, B3, k3⟩
  rw [add_eB] at B3 ⊢
  have le3 : H.le H3 := Keep.fresh nr le1 (k2.trans k3)
  simp -implicitDefEqProofs only [zA,reduceIte,reduceCtorEq,Nat.reduceEqDiff,Nat.reduceAdd,Nat.reduceMul,Nat.reduceLT,Nat.reduceSub,Int.reduceLT,Int.reduceLE,Int.reduceEq,Int.reduceNe,Int.reduceSub,Int.reduceAdd,Int.reduceMul,Int.reduceBEq,Int.reduceBNe,Int.reduceGT,Int.reduceGE,Nat.reduceGT,Int.reduceToNat,Int.reduceNeg,Nat.reduceLeDiff,Nat.reduceBEq,Nat.reduceBneDiff]
  refine (qio E K B3 [99] [102]).mono ?_
  rintro v H4 ⟨le4, rfl⟩
  rw [all_AB]
  have B4 := B3.le le4
  simp -implicitDefEqProofs only [zA,reduceIte,reduceCtorEq,Nat.reduceEqDiff,Nat.reduceAdd,Nat.reduceMul,Nat.reduceLT,Nat.reduceSub,Int.reduceLT,Int.reduceLE,Int.reduceEq,Int.reduceNe,Int.reduceSub,Int.reduceAdd,Int.reduceMul,Int.reduceBEq,Int.reduceBNe,Int.reduceGT,Int.reduceGE,Nat.reduceGT,Int.reduceToNat,Int.reduceNeg,Nat.reduceLeDiff,Nat.reduceBEq,Nat.reduceBneDiff]
  unfold q76
  simp -implicitDefEqProofs only [zA,reduceIte,reduceCtorEq,Nat.reduceEqDiff,Nat.reduceAdd,Nat.reduceMul,Nat.reduceLT,Nat.reduceSub,Int.reduceLT,Int.reduceLE,Int.reduceEq,Int.reduceNe,Int.reduceSub,Int.reduceAdd,Int.reduceMul,Int.reduceBEq,Int.reduceBNe,Int.reduceGT,Int.reduceGE,Nat.reduceGT,Int.reduceToNat,Int.reduceNeg,Nat.reduceLeDiff,Nat.reduceBEq,Nat.reduceBneDiff]
  refine (qbn E K B4 [99] [102]).mono ?_
  rintro v H5 ⟨le5, ow5⟩
  rw [all_AB] at ow5
  have B5 := B4.le le5
  simp -implicitDefEqProofs only [zA,reduceIte,reduceCtorEq,Nat.reduceEqDiff,Nat.reduceAdd,Nat.reduceMul,Nat.reduceLT,Nat.reduceSub,Int.reduceLT,Int.reduceLE,Int.reduceEq,Int.reduceNe,Int.reduceSub,Int.reduceAdd,Int.reduceMul,Int.reduceBEq,Int.reduceBNe,Int.reduceGT,Int.reduceGE,Nat.reduceGT,Int.reduceToNat,Int.reduceNeg,Nat.reduceLeDiff,Nat.reduceBEq,Nat.reduceBneDiff]
  intro b6 hb6
  try simp -implicitDefEqProofs only [zA,reduceIte,reduceCtorEq,Nat.reduceEqDiff,Nat.reduceAdd,Nat.reduceMul,Nat.reduceLT,Nat.reduceSub,Int.reduceLT,Int.reduceLE,Int.reduceEq,Int.reduceNe,Int.reduceSub,Int.reduceAdd,Int.reduceMul,Int.reduceBEq,Int.reduceBNe,Int.reduceGT,Int.reduceGE,Nat.reduceGT,Int.reduceToNat,Int.reduceNeg,Nat.reduceLeDiff,Nat.reduceBEq,Nat.reduceBneDiff]
  have le6 := Heap.q0v (Heap.q0a H5) hb6 (.own 0 [strV [120], strV [121]] 2)
  refine (qkt E (L := [[120], [121]]) (M := [[120], [121]]) (Sl.le le6 ow5.sl) (Sl.lit (n := 2) rfl) (by decide) (by decide)).mono ?_
  rintro v H6 ⟨rfl, rfl⟩
  have B6 := B5.le le6
  have leY := Heap.q05 le3 (Heap.q05 le4 (Heap.q05 le5 le6))
  have ey : binV .eql (strV [121]) (.string ⟨#[121]⟩) = some (.bool true) := by
    exact qf6 [121] [121]
  generalize (H5.set b6 (.own 0 [strV [120], strV [121]] 2)) = G at le6 B6 leY
  have gl : ([[120], [121]] : List Str).getLastD [] = [121] := rfl
  have gn : decide (([[120], [121]] : List Str) ≠ []) = true := by decide
  simp -implicitDefEqProofs only [zA,reduceIte,reduceCtorEq,Nat.reduceEqDiff,Nat.reduceAdd,Nat.reduceMul,Nat.reduceLT,Nat.reduceSub,Int.reduceLT,Int.reduceLE,Int.reduceEq,Int.reduceNe,Int.reduceSub,Int.reduceAdd,Int.reduceMul,Int.reduceBEq,Int.reduceBNe,Int.reduceGT,Int.reduceGE,Nat.reduceGT,Int.reduceToNat,Int.reduceNeg,Nat.reduceLeDiff,Nat.reduceBEq,Nat.reduceBneDiff,gl,gn,ey]
  refine (qb4 E K B6).mono ?_
  rintro v H7 ⟨le7, ow7⟩
  rw [con_AB] at ow7
  have B7 := B6.le le7
  simp -implicitDefEqProofs only [zA,reduceIte,reduceCtorEq,Nat.reduceEqDiff,Nat.reduceAdd,Nat.reduceMul,Nat.reduceLT,Nat.reduceSub,Int.reduceLT,Int.reduceLE,Int.reduceEq,Int.reduceNe,Int.reduceSub,Int.reduceAdd,Int.reduceMul,Int.reduceBEq,Int.reduceBNe,Int.reduceGT,Int.reduceGE,Nat.reduceGT,Int.reduceToNat,Int.reduceNeg,Nat.reduceLeDiff,Nat.reduceBEq,Nat.reduceBneDiff]
  intro b8 hb8
  try simp -implicitDefEqProofs only [zA,reduceIte,reduceCtorEq,Nat.reduceEqDiff,Nat.reduceAdd,Nat.reduceMul,Nat.reduceLT,Nat.reduceSub,Int.reduceLT,Int.reduceLE,Int.reduceEq,Int.reduceNe,Int.reduceSub,Int.reduceAdd,Int.reduceMul,Int.reduceBEq,Int.reduceBNe,Int.reduceGT,Int.reduceGE,Nat.reduceGT,Int.reduceToNat,Int.reduceNeg,Nat.reduceLeDiff,Nat.reduceBEq,Nat.reduceBneDiff]
  have le8 := Heap.q0v (Heap.q0a H7) hb8 (.own 0 [strV [99]] 1)
  refine (qkt E (L := [[99]]) (M := [[99]]) (Sl.le le8 ow7.sl) (Sl.lit (n := 1) rfl) (by decide) (by decide)).mono ?_
  rintro v H8 ⟨rfl, rfl⟩
  have B8 := B7.le le8
  have leZ := Heap.q05 leY (Heap.q05 le7 le8)
  generalize (H7.set b8 (.own 0 [strV [99]] 1)) = G2 at le8 B8 leZ
  simp -implicitDefEqProofs only [zA,reduceIte,reduceCtorEq,Nat.reduceEqDiff,Nat.reduceAdd,Nat.reduceMul,Nat.reduceLT,Nat.reduceSub,Int.reduceLT,Int.reduceLE,Int.reduceEq,Int.reduceNe,Int.reduceSub,Int.reduceAdd,Int.reduceMul,Int.reduceBEq,Int.reduceBNe,Int.reduceGT,Int.reduceGE,Nat.reduceGT,Int.reduceToNat,Int.reduceNeg,Nat.reduceLeDiff,Nat.reduceBEq,Nat.reduceBneDiff]
  refine (qdz E B8).mono ?_
  rintro v H9 ⟨le9, w, hw, rfl⟩
  have ew := hw.eq vec_AB
  subst ew
  simp -implicitDefEqProofs only [zA,reduceIte,reduceCtorEq,Nat.reduceEqDiff,Nat.reduceAdd,Nat.reduceMul,Nat.reduceLT,Nat.reduceSub,Int.reduceLT,Int.reduceLE,Int.reduceEq,Int.reduceNe,Int.reduceSub,Int.reduceAdd,Int.reduceMul,Int.reduceBEq,Int.reduceBNe,Int.reduceGT,Int.reduceGE,Nat.reduceGT,Int.reduceToNat,Int.reduceNeg,Nat.reduceLeDiff,Nat.reduceBEq,Nat.reduceBneDiff]
  change q0h (some (.agg (([1, 1, 0, 0, 0, 0, 0, 0] : List Int).map (.int .i64)).toArray)) _ _
  have k1 : q06 (List.replicate 8 (some IntKind.i64)) (([1, 1, 0, 0, 0, 0, 0, 0] : List Int).map (.int .i64)) = true := rfl
  have k3 : q0e (([1, 1, 0, 0, 0, 0, 0, 0] : List Int).map (.int .i64)) (([1, 1, 0, 0, 0, 0, 0, 0] : List Int).map (.int .i64)) = true := rfl
  simp -implicitDefEqProofs only [zA,reduceIte,reduceCtorEq,Nat.reduceEqDiff,Nat.reduceAdd,Nat.reduceMul,Nat.reduceLT,Nat.reduceSub,Int.reduceLT,Int.reduceLE,Int.reduceEq,Int.reduceNe,Int.reduceSub,Int.reduceAdd,Int.reduceMul,Int.reduceBEq,Int.reduceBNe,Int.reduceGT,Int.reduceGE,Nat.reduceGT,Int.reduceToNat,Int.reduceNeg,Nat.reduceLeDiff,Nat.reduceBEq,Nat.reduceBneDiff,k1,k3]
  exact Heap.q05 leZ le9
end Go.Bb
namespace Go.Bb
set_option linter.unusedSimpArgs false
set_option linter.unusedVariables false
set_option maxRecDepth 20000
theorem list15 {α : Type} {l : List α} (h : l.length = 15) : ∃ a0 a1 a2 a3 a4 a5 a6 a7 a8 a9 a10 a11 a12 a13 a14, l = [a0, a1, a2, a3, a4, a5, a6, a7, a8, a9, a10, a11, a12, a13, a14] := by
  match l, h with
  | [a0, a1, a2, a3, a4, a5, a6, a7, a8, a9, a10, a11, a12, a13, a14], _ => exact ⟨a0, a1, a2, a3, a4, a5, a6, a7, a8, a9, a10, a11, a12, a13, a14, rfl⟩
theorem str_strV (s : ByteArray) : Value.string s = strV s.data.toList := by simp [strV]
theorem ok_edC {W : World} {v : Value} (h : Shp.ok W (.struct 15 (.fld 0 2 (.struct 2 (.fld 0 1 (.int .i64) (.fld 1 1 (.int .i64) .fend))) (.fld 2 8 (.array 8 1 (.int .i64)) (.fld 10 1 (.int .i64) (.fld 11 1 .str (.fld 12 1 .str (.fld 13 1 .str (.fld 14 1 (.int .i64) .fend)))))))) v) :
    ∃ e : Ed, v = .agg (Value.int .i64 e.dev :: .int .i64 e.n :: (e.seen.map (.int .i64) ++ [.int .i64 e.kind, strV e.con, strV e.fld, strV e.val, .int .i64 e.time])).toArray ∧ e.seen.length = 8 ∧ -9223372036854775808 ≤ e.n ∧ e.n ≤ 9223372036854775807 ∧ -9223372036854775808 ≤ e.dev ∧ e.dev ≤ 9223372036854775807 ∧ e.con.length ≤ 9223372036854775807 ∧ e.fld.length ≤ 9223372036854775807 ∧ e.val.length ≤ 9223372036854775807 := by
  obtain ⟨⟨h1, h2⟩, h3⟩ := h
  simp only [Shp.wide, if_true] at h3
  obtain ⟨cs, rfl⟩ := h3
  have hc : (Value.agg cs).cells = cs := rfl
  rw [hc] at h1 h2
  obtain ⟨c0, c1, c2, c3, c4, c5, c6, c7, c8, c9, c10, c11, c12, c13, c14, hl⟩ := list15 h1
  rw [hl] at h2
  simp only [Shp.okC] at h2
  obtain ⟨⟨-, ⟨d, e0, d1, d2⟩, ⟨n, e1, n1, n2⟩, -⟩, ⟨-, hs⟩, ⟨k, e10, k1, k2⟩, ⟨s11, e11, l11⟩, ⟨s12, e12, l12⟩, ⟨s13, e13, l13⟩, ⟨t, e14, t1, t2⟩, -⟩ := h2
  obtain ⟨x0, f0, -⟩ := hs 0 (by omega)
  obtain ⟨x1, f1, -⟩ := hs 1 (by omega)
  obtain ⟨x2, f2, -⟩ := hs 2 (by omega)
  obtain ⟨x3, f3, -⟩ := hs 3 (by omega)
  obtain ⟨x4, f4, -⟩ := hs 4 (by omega)
  obtain ⟨x5, f5, -⟩ := hs 5 (by omega)
  obtain ⟨x6, f6, -⟩ := hs 6 (by omega)
  obtain ⟨x7, f7, -⟩ := hs 7 (by omega)
  cases e0; cases e1; cases e10; cases e11; cases e12; cases e13; cases e14
  cases f0; cases f1; cases f2; cases f3; cases f4; cases f5; cases f6; cases f7
  refine ⟨⟨d, n, [x0, x1, x2, x3, x4, x5, x6, x7], k, s11.data.toList, s12.data.toList, s13.data.toList, t⟩, ?_, rfl, n1, n2, d1, d2, by simpa using l11, by simpa using l12, by simpa using l13⟩
  congr 1
  apply Array.toList_inj.1
  rw [hl]
  simp only [str_strV]
  rfl
end Go.Bb
namespace Go.Bb
set_option linter.unusedSimpArgs false
set_option linter.unusedVariables false
set_option maxRecDepth 20000
set_option maxHeartbeats 2000000
structure ArgE (e : Ed) : Prop where
  h8 : e.seen.length = 8
  hc : e.con.length ≤ 9223372036854775807
  hf : e.fld.length ≤ 9223372036854775807
  n1 : -9223372036854775808 ≤ e.n
  n2 : e.n ≤ 9223372036854775807
abbrev edShp : Shp := .struct 15 (.fld 0 2 (.struct 2 (.fld 0 1 (.int .i64) (.fld 1 1 (.int .i64) .fend))) (.fld 2 8 (.array 8 1 (.int .i64)) (.fld 10 1 (.int .i64) (.fld 11 1 .str (.fld 12 1 .str (.fld 13 1 .str (.fld 14 1 (.int .i64) .fend)))))))
theorem ok_ed1 {W : World} {v : Value} (h : Shp.ok W edShp v) : ∃ e : Ed, v = edV e ∧ ArgE e := by
  obtain ⟨e, h1, h2, h3, h4, h5, h6, h7, h8, -⟩ := ok_edC h
  exact ⟨e, h1, h2, h7, h8, h3, h4⟩
theorem ok_eds {W : World} {v : Value} (h : Shp.ok W (.slice 15 edShp) v) :
    ∃ L : List Ed, Sl (qar W) 15 v L.length (L.flatMap edC) ∧ L.length ≤ 9223372036854775807 ∧ ∀ e ∈ L, ArgE e := by
  obtain ⟨L, h1, h2, h3⟩ := Shp.ok_rows encE (fun x => ArgE x.1) qbl (fun l hl => by
    obtain ⟨e, he, ha⟩ := ok_ed1 (W := W) (v := .agg l.toArray) ⟨by simpa [Value.cells] using hl, by simp only [Shp.wide, if_true]; exact ⟨_, rfl⟩⟩
    refine ⟨⟨e, ha.h8⟩, ?_, ha⟩
    unfold edV at he
    simp only [Value.agg.injEq] at he
    exact congrArg Array.toList he) h
  refine ⟨L.map (·.1), ?_, by simpa using h2, ?_⟩
  · rw [← qd5, List.length_map]; exact h1
  · intro e he
    obtain ⟨x, hx, rfl⟩ := List.mem_map.1 he
    exact h3 x hx
def qis (S : List Ed) (L : List Ed) : List Ed := L.foldl (fun S e => (addB S e).1) S
theorem qkk (S L : List Ed) (e : Ed) : qis S (L ++ [e]) = (addB (qis S L) e).1 := by simp [qis]
theorem addB_len (S : List Ed) (e : Ed) : (addB S e).1.length ≤ S.length + 1 := by
  unfold addB
  split
  · split
    · split <;> simp
    · split
      · simp
      · rw [(q58 q59 e S).length_eq]; simp
  · simp
theorem qir : ∀ (L S : List Ed), (qis S L).length ≤ S.length + L.length
  | [], S => by simp [qis]
  | e :: L, S => by
    have h1 := qir L (addB S e).1
    have h2 := addB_len S e
    simp only [qis, List.foldl_cons, List.length_cons] at h1 ⊢
    omega
end Go.Bb
namespace Go.Bb
set_option linter.unusedSimpArgs false
set_option linter.unusedVariables false
def qfa (a b : Ed) : Prop := a.dev = b.dev ∧ a.n = b.n
theorem addB_ok {S : List Ed} (ok : BkS S) {e : Ed} (h8 : e.seen.length = 8) : BkS (addB S e).1 := by
  unfold addB
  split
  · rename_i hg
    split
    · split <;> exact ok
    · rename_i hn
      split
      · exact ok
      · rename_i hl; exact ok.ins hg h8 hn hl
  · exact ok
theorem BkS.dots {S : List Ed} (ok : BkS S) : S.Pairwise (fun a b => ¬ qfa a b) := ok.rise.imp fun {a b} k => by unfold qfa; unfold q59 at k; omega
end Go.Bb
namespace Go.Bb
set_option linter.unusedSimpArgs false
set_option linter.unusedVariables false
set_option maxRecDepth 20000
set_option maxHeartbeats 2000000
open Go.MapKept
theorem BookAt.apart {H : Heap} {b r x : Nat} {S : List Ed} (B : BookAt H b r S) (hx : H x = none) : b ≠ x ∧ r ≠ x := by
  obtain ⟨es, c, L, g, _⟩ := B.qr
  exact ⟨fun e => (by have := B.qb; rw [e, hx] at this; cases this), fun e => (by rw [e, hx] at g; cases g)⟩
end Go.Bb
namespace Go.Bb
set_option linter.unusedSimpArgs false
set_option linter.unusedVariables false
set_option maxRecDepth 20000
set_option maxHeartbeats 2000000
open Go.MapKept
theorem qhe (S : List Ed) : (q7r S).length ≤ S.length := by
  have h1 := q8q S
  have h2 := Lib.compact_length_le (q7t ((q9l S).map (·.con)))
  unfold q7r qit
  rw [q8m, List.length_map] at h2
  omega
end Go.Bb
namespace Go.Bb
set_option linter.unusedSimpArgs false
set_option linter.unusedVariables false
theorem qjr {v : List Int} {k : Nat} {x : Int} (h : v[k]? = some x) : v.getD k 0 = x := by simp [List.getD, h]
theorem qj0 {S : List Ed} {e x : Ed} : x ∈ insR q59 e S ↔ x = e ∨ x ∈ S := by
  rw [(q58 q59 e S).mem_iff, List.mem_cons]
end Go.Bb
namespace Go.Bb
set_option linter.unusedSimpArgs false
set_option linter.unusedVariables false
theorem qmg {S : List Ed} {e : Ed} (h : (addB S e).2 = 0) : (addB S e).1 = S ∨ ((addB S e).1 = insR q59 e S ∧ qac e = true ∧ ∀ s ∈ S, ¬ qfa s e) := by
  unfold addB at *
  split
  · rename_i hg
    rw [if_pos hg] at h
    split
    · rename_i w hw
      left; split <;> rfl
    · rename_i hn
      rw [hn] at h
      simp only at h
      split
      · exact .inl rfl
      · exact .inr ⟨rfl, hg, q8c.1 hn⟩
  · exact .inl rfl
theorem addB_nz {S : List Ed} {e : Ed} (h : (addB S e).2 ≠ 0) : (addB S e).1 = S := by
  unfold addB at *
  split
  · rename_i hg
    rw [if_pos hg] at h
    split
    · split <;> rfl
    · rename_i hn
      rw [hn] at h
      simp only at h
      split
      · rfl
      · rename_i q; rw [if_neg q] at h; exact absurd rfl h
  · rfl
def atF (con fld : Str) (x : Ed) : Bool := decide (x.con = con) && decide (x.fld = fld)
theorem atF_iff {con fld : Str} {x : Ed} : atF con fld x = true ↔ x.con = con ∧ x.fld = fld := by simp [atF]
def qf5 (S : List Ed) (con fld : Str) : List Ed := (q9l S).filter (atF con fld)
theorem qmf (S : List Ed) (con fld : Str) : allB S con fld = (qf5 S con fld).map (·.val) := rfl
theorem q98 {S : List Ed} (ok : BkS S) (con fld : Str) : (qf5 S con fld).Pairwise q8j := (qeb ok).sublist List.filter_sublist
theorem qf4 {S : List Ed} {con fld : Str} {x : Ed} : x ∈ qf5 S con fld ↔ (x ∈ S ∧ x.kind = 1 ∧ ∀ a ∈ S, qak a x = false) ∧ x.con = con ∧ x.fld = fld := by
  unfold qf5
  rw [List.mem_filter, qia, atF_iff]
theorem vals_sub {S T : List Ed} (ok : BkS S) (ok2 : BkS T) {con fld : Str} (h : ∀ x, x ∈ qf5 S con fld → x ∈ qf5 T con fld) : (qf5 S con fld).Sublist (qf5 T con fld) :=
  q9o q9c (fun x y z => @q81 x y z) (q98 ok2 con fld) (q98 ok con fld) h
theorem qkq {S : List Ed} (ok : BkS S) {e : Ed} (hn : ∀ s ∈ S, ¬ qfa s e) (okT : BkS (insR q59 e S)) (con fld : Str) :
    (allB (insR q59 e S) con fld).length ≤ (allB S con fld).length + 1 ∧ (¬ (e.con = con ∧ e.fld = fld) → (allB (insR q59 e S) con fld).length ≤ (allB S con fld).length) := by
  rw [qmf, qmf, List.length_map, List.length_map]
  have key : ∀ x, x ∈ qf5 (insR q59 e S) con fld → (x = e ∧ e.con = con ∧ e.fld = fld) ∨ x ∈ qf5 S con fld := fun x hx => by
    obtain ⟨⟨h1, h2, h3⟩, h4, h5⟩ := qf4.1 hx
    rcases qj0.1 h1 with h | h
    · subst h; exact .inl ⟨rfl, h4, h5⟩
    · exact .inr (qf4.2 ⟨⟨h, h2, fun a ha => h3 a (qj0.2 (.inr ha))⟩, h4, h5⟩)
  constructor
  · have hap : ∀ x ∈ qf5 S con fld, q8j x e ∨ q8j e x := fun x hx => by
      have := hn x (qf4.1 hx).1.1
      unfold q8j q59
      unfold qfa at this
      omega
    have hs := qab (fun x y z => @q81 x y z) (q98 ok con fld) hap
    have := (q9o q9c (fun x y z => @q81 x y z) hs (q98 okT con fld) (fun x hx => by
      rw [(q58 q8j e _).mem_iff, List.mem_cons]
      rcases key x hx with h | h
      · exact .inl h.1
      · exact .inr h)).length_le
    rw [(q58 q8j e _).length_eq] at this
    simpa using this
  · intro h
    exact (vals_sub okT ok fun x hx => by
      rcases key x hx with ⟨_, h1, h2⟩ | k
      · exact absurd ⟨h1, h2⟩ h
      · exact k).length_le
theorem qkn {S T : List Ed} (h : ∀ x ∈ S, x ∈ T) {v w : List Int} (hv : VecOf S v) (hw : VecOf T w) (d : Nat) (hd : d < 8) : v.getD d 0 ≤ w.getD d 0 := by
  obtain ⟨k, h1, h2, h3⟩ := hv.2 d hd
  obtain ⟨m, g1, g2, g3⟩ := hw.2 d hd
  rw [qjr h1, qjr g1]
  by_cases c : k ≤ m
  · omega
  · obtain ⟨e, he, hq⟩ := h2 (m + 1) (by omega) (by omega)
    exact absurd hq (g3 e (h e he))
end Go.Bb
namespace Go.Bb
set_option linter.unusedSimpArgs false
set_option linter.unusedVariables false
set_option maxRecDepth 20000
set_option maxHeartbeats 2000000
open Go.MapKept
theorem vec_Le_c (E : EnvT tab) (H : Heap) (v w : List Int) (hv : v.length = 8) (hw : w.length = 8) (hle : ∀ d : Nat, d < 8 → v.getD d 0 ≤ w.getD d 0) :
    ACallN E.toEnv n_vec_Le [.agg (v.map (.int .i64)).toArray, .agg (w.map (.int .i64)).toArray] H fun r H' => H.le H' ∧ r = .bool true := by
  refine q2r qhb qd1 rfl rfl (q02 ?_)
  unfold qd1
  have vl : (v.map (Value.int .i64)).length = 8 := by simp [hv]
  have wl : (w.map (Value.int .i64)).length = 8 := by simp [hw]
  simp -implicitDefEqProofs only [zA,reduceIte,reduceCtorEq,Nat.reduceEqDiff,Nat.reduceAdd,Nat.reduceMul,Nat.reduceLT,Nat.reduceSub,Int.reduceLT,Int.reduceLE,Int.reduceEq,Int.reduceNe,Int.reduceSub,Int.reduceAdd,Int.reduceMul,Int.reduceBEq,Int.reduceBNe,Int.reduceGT,Int.reduceGE,Nat.reduceGT,Int.reduceToNat,Int.reduceNeg,Nat.reduceLeDiff,Nat.reduceBEq,Nat.reduceBneDiff]
  intro b hb
  try simp -implicitDefEqProofs only [zA,reduceIte,reduceCtorEq,Nat.reduceEqDiff,Nat.reduceAdd,Nat.reduceMul,Nat.reduceLT,Nat.reduceSub,Int.reduceLT,Int.reduceLE,Int.reduceEq,Int.reduceNe,Int.reduceSub,Int.reduceAdd,Int.reduceMul,Int.reduceBEq,Int.reduceBNe,Int.reduceGT,Int.reduceGE,Nat.reduceGT,Int.reduceToNat,Int.reduceNeg,Nat.reduceLeDiff,Nat.reduceBEq,Nat.reduceBneDiff]
  rw [vl]
  intro b2 hb2
  try simp -implicitDefEqProofs only [zA,reduceIte,reduceCtorEq,Nat.reduceEqDiff,Nat.reduceAdd,Nat.reduceMul,Nat.reduceLT,Nat.reduceSub,Int.reduceLT,Int.reduceLE,Int.reduceEq,Int.reduceNe,Int.reduceSub,Int.reduceAdd,Int.reduceMul,Int.reduceBEq,Int.reduceBNe,Int.reduceGT,Int.reduceGE,Nat.reduceGT,Int.reduceToNat,Int.reduceNeg,Nat.reduceLeDiff,Nat.reduceBEq,Nat.reduceBneDiff]
  rw [wl]
  have ne : b2 ≠ b := by intro e; subst e; rw [Heap.q03] at hb2; cases hb2
  have le2 : H.le ((H.set b (.own 0 (v.map (.int .i64)) 8)).set b2 (.own 0 (w.map (.int .i64)) 8)) := Heap.qg9 (Heap.q0v (Heap.q0a _) hb _) hb2 _
  have q1 : ((H.set b (.own 0 (v.map (.int .i64)) 8)).set b2 (.own 0 (w.map (.int .i64)) 8)) b = some (.own 0 (v.map (.int .i64)) 8) := by rw [Heap.q42 ne.symm, Heap.q03]
  have q2 : ((H.set b (.own 0 (v.map (.int .i64)) 8)).set b2 (.own 0 (w.map (.int .i64)) 8)) b2 = some (.own 0 (w.map (.int .i64)) 8) := Heap.q03 _ _ _
  generalize ((H.set b (.own 0 (v.map (.int .i64)) 8)).set b2 (.own 0 (w.map (.int .i64)) 8)) = G0 at le2 q1 q2 ⊢
  refine q1p (fun m t G => G = G0 ∧ ∃ i : Nat, t = tl [(2, .pointer (some ⟨b, 0, none⟩)), (3, .pointer (some ⟨b2, 0, none⟩)), (6, .int .i64 i)] ∧ i ≤ 8 ∧ m = 8 - i) 8
    ⟨rfl, 0, rfl, by omega, by omega⟩ ?_
  rintro m t G ⟨rfl, i, rfl, hi, rfl⟩
  by_cases hlt : i < 8
  · have hi1 : (i : Int) < 8 := by omega
    have hi2 : (0 : Int) ≤ i := by omega
    have w1 : IntKind.i64.wrap ((i : Int) + 1) = ((i + 1 : Nat) : Int) := qc7 (by omega)
    have c1 : q1i G ⟨b, i, none⟩ = some (.int .i64 (v.getD i 0)) := by rw [q3o q1 (by simp [hv]; exact hlt)]; simp [List.getD, hv, hlt]
    have c2 : q1i G ⟨b2, i, none⟩ = some (.int .i64 (w.getD i 0)) := by rw [q3o q2 (by simp [hw]; exact hlt)]; simp [List.getD, hw, hlt]
    have hno : ¬ w.getD i 0 < v.getD i 0 := by have := hle i hlt; omega
    simp -implicitDefEqProofs only [zA,reduceIte,reduceCtorEq,Nat.reduceEqDiff,Nat.reduceAdd,Nat.reduceMul,Nat.reduceLT,Nat.reduceSub,Int.reduceLT,Int.reduceLE,Int.reduceEq,Int.reduceNe,Int.reduceSub,Int.reduceAdd,Int.reduceMul,Int.reduceBEq,Int.reduceBNe,Int.reduceGT,Int.reduceGE,Nat.reduceGT,Int.reduceToNat,Int.reduceNeg,Nat.reduceLeDiff,Nat.reduceBEq,Nat.reduceBneDiff,hi1,hi2,Int.toNat_natCast,c1,c2,hno,w1]
    refine ⟨_, ?_, i + 1, rfl, by omega, rfl⟩
    omega
  · have hi1 : ¬ (i : Int) < 8 := by omega
    simp -implicitDefEqProofs only [zA,reduceIte,reduceCtorEq,Nat.reduceEqDiff,Nat.reduceAdd,Nat.reduceMul,Nat.reduceLT,Nat.reduceSub,Int.reduceLT,Int.reduceLE,Int.reduceEq,Int.reduceNe,Int.reduceSub,Int.reduceAdd,Int.reduceMul,Int.reduceBEq,Int.reduceBNe,Int.reduceGT,Int.reduceGE,Nat.reduceGT,Int.reduceToNat,Int.reduceNeg,Nat.reduceLeDiff,Nat.reduceBEq,Nat.reduceBneDiff,hi1]
    exact le2
theorem EdAt.keep {G G' : Heap} {b q : Nat} {e : Ed} (A : EdAt G b e) (h8 : e.seen.length = 8) (k : Keep q G G') (h : b ≠ q) : EdAt G' b e := EdAt.of (k _ _ A.own h) h8
theorem EdAt.mono {G G' : Heap} {b : Nat} {e : Ed} (A : EdAt G b e) (h8 : e.seen.length = 8) (le : G.le G') : EdAt G' b e := EdAt.of (le _ _ A.own) h8
theorem qj5 (S : List Ed) (con : Str) : (qcm S con).length ≤ S.length := by
  have h1 := q8q S
  have h2 := Lib.compact_length_le (q7t (((q9l S).filter fun e => decide (e.con = con)).map (·.fld)))
  have h3 := List.length_filter_le (fun e : Ed => decide (e.con = con)) (q9l S)
  unfold qcm qit
  rw [q8m, List.length_map] at h2
  omega
theorem qjx (S : List Ed) (con fld : Str) : (allB S con fld).length ≤ S.length := by
  have h1 := q8q S
  unfold allB
  rw [List.length_map]
  exact Nat.le_trans (List.length_filter_le _ _) h1
theorem q9y (E : EnvT tab) (K : BkOk E) (W : World) {v0 v1 : Value} (s0 : Shp.ok W (.slice 15 edShp) v0) (s1 : Shp.ok W edShp v1) :
    ACallN E.toEnv q9r [v0, v1] (qar W) fun v _ => v = .bool true := by
  obtain ⟨L, sL, hL, aL⟩ := ok_eds s0
  obtain ⟨e, rfl, ae⟩ := ok_ed1 s1
  have hL8 : ∀ e ∈ L, e.seen.length = 8 := fun e he => (aL e he).h8
  generalize qar W = H at sL
  obtain ⟨base, c, rfl⟩ := sL.shape
  have h8 := ae.h8
  have el := q46 h8
  refine q2r q3v q1l rfl rfl (q02 ?_)
  unfold q1l
  unfold edV
  simp -implicitDefEqProofs only [zA,reduceIte,reduceCtorEq,Nat.reduceEqDiff,Nat.reduceAdd,Nat.reduceMul,Nat.reduceLT,Nat.reduceSub,Int.reduceLT,Int.reduceLE,Int.reduceEq,Int.reduceNe,Int.reduceSub,Int.reduceAdd,Int.reduceMul,Int.reduceBEq,Int.reduceBNe,Int.reduceGT,Int.reduceGE,Nat.reduceGT,Int.reduceToNat,Int.reduceNeg,Nat.reduceLeDiff,Nat.reduceBEq,Nat.reduceBneDiff]
  intro be hbe
  try simp -implicitDefEqProofs only [zA,reduceIte,reduceCtorEq,Nat.reduceEqDiff,Nat.reduceAdd,Nat.reduceMul,Nat.reduceLT,Nat.reduceSub,Int.reduceLT,Int.reduceLE,Int.reduceEq,Int.reduceNe,Int.reduceSub,Int.reduceAdd,Int.reduceMul,Int.reduceBEq,Int.reduceBNe,Int.reduceGT,Int.reduceGE,Nat.reduceGT,Int.reduceToNat,Int.reduceNeg,Nat.reduceLeDiff,Nat.reduceBEq,Nat.reduceBneDiff]
  rw [el]
  have le00 := Heap.q0v (Heap.q0a H) hbe (.own 0 (edC e) 15)
  have A00 : EdAt (H.set be (.own 0 (edC e) 15)) be e := EdAt.of (Heap.q03 _ _ _) h8
  generalize (H.set be (.own 0 (edC e) 15)) = H00 at le00 A00 ⊢
  refine (qh8 E K H00).mono ?_
  rintro v H0 ⟨le0, rfl⟩
  have Ae0 := A00.mono h8 le0
  have leq := Heap.q05 le00 le0
  by_cases g1 : (30 : Int) < L.length
  · simp -implicitDefEqProofs only [zA,reduceIte,reduceCtorEq,Nat.reduceEqDiff,Nat.reduceAdd,Nat.reduceMul,Nat.reduceLT,Nat.reduceSub,Int.reduceLT,Int.reduceLE,Int.reduceEq,Int.reduceNe,Int.reduceSub,Int.reduceAdd,Int.reduceMul,Int.reduceBEq,Int.reduceBNe,Int.reduceGT,Int.reduceGE,Nat.reduceGT,Int.reduceToNat,Int.reduceNeg,Nat.reduceLeDiff,Nat.reduceBEq,Nat.reduceBneDiff,g1]
  simp -implicitDefEqProofs only [zA,reduceIte,reduceCtorEq,Nat.reduceEqDiff,Nat.reduceAdd,Nat.reduceMul,Nat.reduceLT,Nat.reduceSub,Int.reduceLT,Int.reduceLE,Int.reduceEq,Int.reduceNe,Int.reduceSub,Int.reduceAdd,Int.reduceMul,Int.reduceBEq,Int.reduceBNe,Int.reduceGT,Int.reduceGE,Nat.reduceGT,Int.reduceToNat,Int.reduceNeg,Nat.reduceLeDiff,Nat.reduceBEq,Nat.reduceBneDiff,g1,Ae0.all]
  refine (long_c E H0 e h8).mono ?_
  rintro v H0' ⟨le0', rfl⟩
  cases hle : longE e with
  | true => simp -implicitDefEqProofs only [zA,reduceIte,reduceCtorEq,Nat.reduceEqDiff,Nat.reduceAdd,Nat.reduceMul,Nat.reduceLT,Nat.reduceSub,Int.reduceLT,Int.reduceLE,Int.reduceEq,Int.reduceNe,Int.reduceSub,Int.reduceAdd,Int.reduceMul,Int.reduceBEq,Int.reduceBNe,Int.reduceGT,Int.reduceGE,Nat.reduceGT,Int.reduceToNat,Int.reduceNeg,Nat.reduceLeDiff,Nat.reduceBEq,Nat.reduceBneDiff]
  | false =>
  have Ae := Ae0.mono h8 le0'
  simp -implicitDefEqProofs only [zA,reduceIte,reduceCtorEq,Nat.reduceEqDiff,Nat.reduceAdd,Nat.reduceMul,Nat.reduceLT,Nat.reduceSub,Int.reduceLT,Int.reduceLE,Int.reduceEq,Int.reduceNe,Int.reduceSub,Int.reduceAdd,Int.reduceMul,Int.reduceBEq,Int.reduceBNe,Int.reduceGT,Int.reduceGE,Nat.reduceGT,Int.reduceToNat,Int.reduceNeg,Nat.reduceLeDiff,Nat.reduceBEq,Nat.reduceBneDiff]
  unfold q4u
  simp -implicitDefEqProofs only [zA,reduceIte,reduceCtorEq,Nat.reduceEqDiff,Nat.reduceAdd,Nat.reduceMul,Nat.reduceLT,Nat.reduceSub,Int.reduceLT,Int.reduceLE,Int.reduceEq,Int.reduceNe,Int.reduceSub,Int.reduceAdd,Int.reduceMul,Int.reduceBEq,Int.reduceBNe,Int.reduceGT,Int.reduceGE,Nat.reduceGT,Int.reduceToNat,Int.reduceNeg,Nat.reduceLeDiff,Nat.reduceBEq,Nat.reduceBneDiff]
  refine (qgu E H0').mono ?_
  rintro v H1 ⟨le1, ba, ra, rfl, nba, nra, A1⟩
  simp -implicitDefEqProofs only [zA,reduceIte,reduceCtorEq,Nat.reduceEqDiff,Nat.reduceAdd,Nat.reduceMul,Nat.reduceLT,Nat.reduceSub,Int.reduceLT,Int.reduceLE,Int.reduceEq,Int.reduceNe,Int.reduceSub,Int.reduceAdd,Int.reduceMul,Int.reduceBEq,Int.reduceBNe,Int.reduceGT,Int.reduceGE,Nat.reduceGT,Int.reduceToNat,Int.reduceNeg,Nat.reduceLeDiff,Nat.reduceBEq,Nat.reduceBneDiff]
  have Ae1 := Ae.mono h8 le1
  have leH := Heap.q05 leq (Heap.q05 le0' le1)
  have fra : H ra = none := Heap.q1v (Heap.q05 leq le0') nra
  have era : be ≠ ra := fun q => by have := Ae.own; rw [q, nra] at this; cases this
  refine q1p (fun m t G => ∃ i : Nat, t = tl [(0, .slice base L.length c), (3, .pointer (some ⟨be, 0, none⟩)), (5, .pointer (some ⟨ba, 0, none⟩)), (6, .int .i64 i)] ∧ i ≤ L.length ∧ m = L.length - i ∧ H.le G ∧ BookAt G ba ra (qis [] (L.take i)) ∧ EdAt G be e) L.length
    ⟨0, rfl, by omega, by omega, leH, A1, Ae1⟩ ?_
  rintro m t G ⟨i, rfl, hi, rfl, le, A, Ag⟩
  by_cases hlt : i < L.length
  · obtain ⟨bs, o, c', hv, hc, q1i⟩ := sL.edAt hL8 i hlt
    simp only [Value.slice.injEq, true_and] at hv
    obtain ⟨rfl, rfl⟩ := hv
    have hi1 : (i : Int) < L.length := by omega
    have hi2 : (0 : Int) ≤ i := by omega
    have w1 : IntKind.i64.wrap ((i : Int) + 1) = ((i + 1 : Nat) : Int) := qc7 (by omega)
    have hi3 := q1i _ le
    have ay := aL L[i] (List.getElem_mem hlt)
    have et : L.take (i + 1) = L.take i ++ [L[i]] := List.take_succ_eq_append_getElem hlt
    simp -implicitDefEqProofs only [zA,reduceIte,reduceCtorEq,Nat.reduceEqDiff,Nat.reduceAdd,Nat.reduceMul,Nat.reduceLT,Nat.reduceSub,Int.reduceLT,Int.reduceLE,Int.reduceEq,Int.reduceNe,Int.reduceSub,Int.reduceAdd,Int.reduceMul,Int.reduceBEq,Int.reduceBNe,Int.reduceGT,Int.reduceGE,Nat.reduceGT,Int.reduceToNat,Int.reduceNeg,Nat.reduceLeDiff,Nat.reduceBEq,Nat.reduceBneDiff,hi1,hi2,Int.toNat_natCast,hi3]
    refine (long_c E G L[i] ay.h8).mono ?_
    rintro v G1 ⟨le3, rfl⟩
    cases hlg : longE L[i] with
    | true => simp -implicitDefEqProofs only [zA,reduceIte,reduceCtorEq,Nat.reduceEqDiff,Nat.reduceAdd,Nat.reduceMul,Nat.reduceLT,Nat.reduceSub,Int.reduceLT,Int.reduceLE,Int.reduceEq,Int.reduceNe,Int.reduceSub,Int.reduceAdd,Int.reduceMul,Int.reduceBEq,Int.reduceBNe,Int.reduceGT,Int.reduceGE,Nat.reduceGT,Int.reduceToNat,Int.reduceNeg,Nat.reduceLeDiff,Nat.reduceBEq,Nat.reduceBneDiff]
    | false =>
      have hi4 := q1i _ (Heap.q05 le le3)
      simp -implicitDefEqProofs only [zA,reduceIte,reduceCtorEq,Nat.reduceEqDiff,Nat.reduceAdd,Nat.reduceMul,Nat.reduceLT,Nat.reduceSub,Int.reduceLT,Int.reduceLE,Int.reduceEq,Int.reduceNe,Int.reduceSub,Int.reduceAdd,Int.reduceMul,Int.reduceBEq,Int.reduceBNe,Int.reduceGT,Int.reduceGE,Nat.reduceGT,Int.reduceToNat,Int.reduceNeg,Nat.reduceLeDiff,Nat.reduceBEq,Nat.reduceBneDiff,hi1,hi2,Int.toNat_natCast,hi4]
      refine (qbo E (A.le le3) L[i] ay.h8 ay.hc ay.hf ay.n1 ay.n2).mono ?_
      rintro v G2 ⟨rfl, A2', k2⟩
      simp -implicitDefEqProofs only [zA,reduceIte,reduceCtorEq,Nat.reduceEqDiff,Nat.reduceAdd,Nat.reduceMul,Nat.reduceLT,Nat.reduceSub,Int.reduceLT,Int.reduceLE,Int.reduceEq,Int.reduceNe,Int.reduceSub,Int.reduceAdd,Int.reduceMul,Int.reduceBEq,Int.reduceBNe,Int.reduceGT,Int.reduceGE,Nat.reduceGT,Int.reduceToNat,Int.reduceNeg,Nat.reduceLeDiff,Nat.reduceBEq,Nat.reduceBneDiff,w1]
      refine ⟨_, ?_, i + 1, rfl, by omega, rfl, Keep.fresh fra (Heap.q05 le le3) k2, ?_, (Ag.mono h8 le3).keep h8 k2 era⟩
      · omega
      · rw [et, qkk]; exact A2'
  · have hi1 : ¬ (i : Int) < L.length := by omega
    have q : i = L.length := by omega
    subst q
    rw [List.take_length] at A
    simp -implicitDefEqProofs only [zA,reduceIte,reduceCtorEq,Nat.reduceEqDiff,Nat.reduceAdd,Nat.reduceMul,Nat.reduceLT,Nat.reduceSub,Int.reduceLT,Int.reduceLE,Int.reduceEq,Int.reduceNe,Int.reduceSub,Int.reduceAdd,Int.reduceMul,Int.reduceBEq,Int.reduceBNe,Int.reduceGT,Int.reduceGE,Nat.reduceGT,Int.reduceToNat,Int.reduceNeg,Nat.reduceLeDiff,Nat.reduceBEq,Nat.reduceBneDiff,hi1]
    have okS := A.ok
    have lS := qir L []
    simp only [List.length_nil, Nat.zero_add] at lS
    generalize qis [] L = S at A okS lS
    unfold q4t
    simp -implicitDefEqProofs only [zA,reduceIte,reduceCtorEq,Nat.reduceEqDiff,Nat.reduceAdd,Nat.reduceMul,Nat.reduceLT,Nat.reduceSub,Int.reduceLT,Int.reduceLE,Int.reduceEq,Int.reduceNe,Int.reduceSub,Int.reduceAdd,Int.reduceMul,Int.reduceBEq,Int.reduceBNe,Int.reduceGT,Int.reduceGE,Nat.reduceGT,Int.reduceToNat,Int.reduceNeg,Nat.reduceLeDiff,Nat.reduceBEq,Nat.reduceBneDiff]
    refine (qjb E K A).mono ?_
    rintro v G1 ⟨leC1, bb, rb, rfl, nbb, nrb, B1⟩
    have A1' := A.le leC1
    have Ag1 := Ag.mono h8 leC1
    obtain ⟨d1, d2⟩ := A.apart nrb
    have erb : be ≠ rb := fun q => by have := Ag.own; rw [q, nrb] at this; cases this
    simp -implicitDefEqProofs only [zA,reduceIte,reduceCtorEq,Nat.reduceEqDiff,Nat.reduceAdd,Nat.reduceMul,Nat.reduceLT,Nat.reduceSub,Int.reduceLT,Int.reduceLE,Int.reduceEq,Int.reduceNe,Int.reduceSub,Int.reduceAdd,Int.reduceMul,Int.reduceBEq,Int.reduceBNe,Int.reduceGT,Int.reduceGE,Nat.reduceGT,Int.reduceToNat,Int.reduceNeg,Nat.reduceLeDiff,Nat.reduceBEq,Nat.reduceBneDiff,Ag1.all]
    refine (qbo E B1 e h8 ae.hc ae.hf ae.n1 ae.n2).mono ?_
    rintro v G2 ⟨rfl, B2, k2⟩
    have A2 := A1'.keep k2 d1 d2
    have Ag2 := Ag1.keep h8 k2 erb
    by_cases gz : (addB S e).2 = 0
    · have okT := addB_ok okS h8 (e := e)
      have hT : S.length ≤ (addB S e).1.length ∧ (addB S e).1.length ≤ S.length + 1 ∧ (∀ x ∈ S, x ∈ (addB S e).1) ∧ ∀ con fld, (allB (addB S e).1 con fld).length ≤ (allB S con fld).length + 1 ∧ (¬ (e.con = con ∧ e.fld = fld) → (allB (addB S e).1 con fld).length ≤ (allB S con fld).length) := by
        rcases qmg gz with h | ⟨h, hg, hn⟩
        · rw [h]; exact ⟨Nat.le_refl _, by omega, fun x hx => hx, fun con fld => ⟨by omega, fun _ => Nat.le_refl _⟩⟩
        · rw [h] at okT ⊢
          refine ⟨?_, ?_, fun x hx => qj0.2 (.inr hx), fun con fld => qkq okS hn okT con fld⟩
          · rw [(q58 q59 e S).length_eq]; simp
          · rw [(q58 q59 e S).length_eq]; simp
      rw [gz]
      generalize (addB S e).1 = T at B2 okT hT
      obtain ⟨t1, t1', t2, t3⟩ := hT
      simp -implicitDefEqProofs only [zA,reduceIte,reduceCtorEq,Nat.reduceEqDiff,Nat.reduceAdd,Nat.reduceMul,Nat.reduceLT,Nat.reduceSub,Int.reduceLT,Int.reduceLE,Int.reduceEq,Int.reduceNe,Int.reduceSub,Int.reduceAdd,Int.reduceMul,Int.reduceBEq,Int.reduceBNe,Int.reduceGT,Int.reduceGE,Nat.reduceGT,Int.reduceToNat,Int.reduceNeg,Nat.reduceLeDiff,Nat.reduceBEq,Nat.reduceBneDiff,bne_self_eq_false]
      refine (qb4 E K B2).mono ?_
      rintro v G3 ⟨le3, ow3⟩
      have sc : SlS G3 v (q7r T) := ow3.sl
      have hcl := qhe T
      obtain ⟨cb, cc, rfl⟩ := sc.shape
      have A3 := A2.le le3
      have B3 := B2.le le3
      have Ag3 := Ag2.mono h8 le3
      generalize q7r T = C at sc hcl ow3
      clear ow3
      simp -implicitDefEqProofs only [zA,reduceIte,reduceCtorEq,Nat.reduceEqDiff,Nat.reduceAdd,Nat.reduceMul,Nat.reduceLT,Nat.reduceSub,Int.reduceLT,Int.reduceLE,Int.reduceEq,Int.reduceNe,Int.reduceSub,Int.reduceAdd,Int.reduceMul,Int.reduceBEq,Int.reduceBNe,Int.reduceGT,Int.reduceGE,Nat.reduceGT,Int.reduceToNat,Int.reduceNeg,Nat.reduceLeDiff,Nat.reduceBEq,Nat.reduceBneDiff]
      unfold q57
      simp -implicitDefEqProofs only [zA,reduceIte,reduceCtorEq,Nat.reduceEqDiff,Nat.reduceAdd,Nat.reduceMul,Nat.reduceLT,Nat.reduceSub,Int.reduceLT,Int.reduceLE,Int.reduceEq,Int.reduceNe,Int.reduceSub,Int.reduceAdd,Int.reduceMul,Int.reduceBEq,Int.reduceBNe,Int.reduceGT,Int.reduceGE,Nat.reduceGT,Int.reduceToNat,Int.reduceNeg,Nat.reduceLeDiff,Nat.reduceBEq,Nat.reduceBneDiff]
      refine q1p (fun m t G => ∃ i : Nat, t = tl [(3, .pointer (some ⟨be, 0, none⟩)), (5, .pointer (some ⟨ba, 0, none⟩)), (7, .pointer (some ⟨bb, 0, none⟩)), (8, .slice cb C.length cc), (9, .int .i64 i)] ∧ i ≤ C.length ∧ m = C.length - i ∧ G3.le G) C.length
        ⟨0, rfl, by omega, by omega, Heap.q0a _⟩ ?_
      rintro m t G ⟨i, rfl, hi, rfl, le⟩
      by_cases hlt : i < C.length
      · have hi1 : (i : Int) < C.length := by omega
        have hi2 : (0 : Int) ≤ i := by omega
        have w1 : IntKind.i64.wrap ((i : Int) + 1) = ((i + 1 : Nat) : Int) := qc7 (by omega)
        have sc4 : SlS G (.slice cb C.length cc) C := Sl.le le sc
        obtain ⟨x1, o1, z1, e1, k1⟩ := sc4.cell i hlt
        simp only [Value.slice.injEq, true_and] at e1
        obtain ⟨rfl, rfl⟩ := e1
        simp -implicitDefEqProofs only [zA,reduceIte,reduceCtorEq,Nat.reduceEqDiff,Nat.reduceAdd,Nat.reduceMul,Nat.reduceLT,Nat.reduceSub,Int.reduceLT,Int.reduceLE,Int.reduceEq,Int.reduceNe,Int.reduceSub,Int.reduceAdd,Int.reduceMul,Int.reduceBEq,Int.reduceBNe,Int.reduceGT,Int.reduceGE,Nat.reduceGT,Int.reduceToNat,Int.reduceNeg,Nat.reduceLeDiff,Nat.reduceBEq,Nat.reduceBneDiff,hi1,hi2,Int.toNat_natCast,k1]
        refine (qhk E K (B3.le le) C[i]).mono ?_
        rintro v G5 ⟨le5, ow5⟩
        have sf : SlS G5 v (qcm T C[i]) := ow5.sl
        have hfl := qj5 T C[i]
        obtain ⟨fb, fc, rfl⟩ := sf.shape
        generalize qcm T C[i] = F at sf hfl ow5
        clear ow5
        simp -implicitDefEqProofs only [zA,reduceIte,reduceCtorEq,Nat.reduceEqDiff,Nat.reduceAdd,Nat.reduceMul,Nat.reduceLT,Nat.reduceSub,Int.reduceLT,Int.reduceLE,Int.reduceEq,Int.reduceNe,Int.reduceSub,Int.reduceAdd,Int.reduceMul,Int.reduceBEq,Int.reduceBNe,Int.reduceGT,Int.reduceGE,Nat.reduceGT,Int.reduceToNat,Int.reduceNeg,Nat.reduceLeDiff,Nat.reduceBEq,Nat.reduceBneDiff]
        refine q1p (fun m t G' => ∃ k : Nat, t = tl [(3, .pointer (some ⟨be, 0, none⟩)), (5, .pointer (some ⟨ba, 0, none⟩)), (7, .pointer (some ⟨bb, 0, none⟩)), (8, .slice (some ⟨x1, o1, none⟩) C.length cc), (9, .int .i64 i), (10, .slice fb F.length fc), (11, .int .i64 k)] ∧ k ≤ F.length ∧ m = F.length - k ∧ G5.le G') F.length
          ⟨0, rfl, by omega, by omega, Heap.q0a _⟩ ?_
        rintro m t G' ⟨k, rfl, hk, rfl, le'⟩
        have leg := Heap.q05 le (Heap.q05 le5 le')
        by_cases hkt : k < F.length
        · have hk1 : (k : Int) < F.length := by omega
          have hk2 : (0 : Int) ≤ k := by omega
          have w2 : IntKind.i64.wrap ((k : Int) + 1) = ((k + 1 : Nat) : Int) := qc7 (by omega)
          have sc6 : SlS G' (.slice (some ⟨x1, o1, none⟩) C.length cc) C := Sl.le leg sc
          obtain ⟨y1, p1, z2, e2, k3⟩ := sc6.cell i hlt
          simp only [Value.slice.injEq, Option.some.injEq, Addr.mk.injEq, true_and, and_true] at e2
          obtain ⟨⟨rfl, rfl⟩, -⟩ := e2
          have sf6 : SlS G' (.slice fb F.length fc) F := Sl.le le' sf
          obtain ⟨y2, p2, z3, e3, k4⟩ := sf6.cell k hkt
          simp only [Value.slice.injEq, true_and] at e3
          obtain ⟨rfl, rfl⟩ := e3
          simp -implicitDefEqProofs only [zA,reduceIte,reduceCtorEq,Nat.reduceEqDiff,Nat.reduceAdd,Nat.reduceMul,Nat.reduceLT,Nat.reduceSub,Int.reduceLT,Int.reduceLE,Int.reduceEq,Int.reduceNe,Int.reduceSub,Int.reduceAdd,Int.reduceMul,Int.reduceBEq,Int.reduceBNe,Int.reduceGT,Int.reduceGE,Nat.reduceGT,Int.reduceToNat,Int.reduceNeg,Nat.reduceLeDiff,Nat.reduceBEq,Nat.reduceBneDiff,hk1]
          unfold q4s
          simp -implicitDefEqProofs only [zA,reduceIte,reduceCtorEq,Nat.reduceEqDiff,Nat.reduceAdd,Nat.reduceMul,Nat.reduceLT,Nat.reduceSub,Int.reduceLT,Int.reduceLE,Int.reduceEq,Int.reduceNe,Int.reduceSub,Int.reduceAdd,Int.reduceMul,Int.reduceBEq,Int.reduceBNe,Int.reduceGT,Int.reduceGE,Nat.reduceGT,Int.reduceToNat,Int.reduceNeg,Nat.reduceLeDiff,Nat.reduceBEq,Nat.reduceBneDiff,hi1,hi2,hk1,hk2,Int.toNat_natCast,k3,k4]
          refine (qbn E K (B3.le leg) C[i] F[k]).mono ?_
          rintro v G7 ⟨le7, ow7⟩
          obtain ⟨ab, ac, rfl⟩ := ow7.sl.shape
          have k5 := qew le7 k3
          have k6 := qew le7 k4
          simp -implicitDefEqProofs only [zA,reduceIte,reduceCtorEq,Nat.reduceEqDiff,Nat.reduceAdd,Nat.reduceMul,Nat.reduceLT,Nat.reduceSub,Int.reduceLT,Int.reduceLE,Int.reduceEq,Int.reduceNe,Int.reduceSub,Int.reduceAdd,Int.reduceMul,Int.reduceBEq,Int.reduceBNe,Int.reduceGT,Int.reduceGE,Nat.reduceGT,Int.reduceToNat,Int.reduceNeg,Nat.reduceLeDiff,Nat.reduceBEq,Nat.reduceBneDiff,hi1,hi2,hk1,hk2,Int.toNat_natCast,k5,k6,k3,k4,List.mem_singleton,forall_eq,implies_true,true_and]
          refine (qbn E K ((A3.le leg).le le7) C[i] F[k]).mono ?_
          rintro v G8 ⟨le8, ow8⟩
          obtain ⟨ab2, ac2, rfl⟩ := ow8.sl.shape
          have t4 := t3 C[i] F[k]
          have bn := qjx T C[i] F[k]
          have bm := qjx S C[i] F[k]
          have k7 := qew le8 k5
          have k8 := qew le8 k6
          have Ag8 := Ag3.mono h8 (Heap.q05 leg (Heap.q05 le7 le8))
          have w3 : IntKind.i64.wrap (((allB S C[i] F[k]).length : Int) + 1) = ((allB S C[i] F[k]).length : Int) + 1 := wrapI (by omega) (by omega)
          have q1 : ¬ (((allB S C[i] F[k]).length : Int) + 1 < (allB T C[i] F[k]).length) := by omega
          have leN := Heap.q05 le' (Heap.q05 le7 le8)
          simp -implicitDefEqProofs only [zA,reduceIte,reduceCtorEq,Nat.reduceEqDiff,Nat.reduceAdd,Nat.reduceMul,Nat.reduceLT,Nat.reduceSub,Int.reduceLT,Int.reduceLE,Int.reduceEq,Int.reduceNe,Int.reduceSub,Int.reduceAdd,Int.reduceMul,Int.reduceBEq,Int.reduceBNe,Int.reduceGT,Int.reduceGE,Nat.reduceGT,Int.reduceToNat,Int.reduceNeg,Nat.reduceLeDiff,Nat.reduceBEq,Nat.reduceBneDiff]
          refine ⟨fun _ _ => trivial, ?_⟩
          unfold q4r
          by_cases q2 : ((allB S C[i] F[k]).length : Int) < (allB T C[i] F[k]).length
          · have q3 : e.con = C[i] ∧ e.fld = F[k] := Classical.byContradiction fun h => by have := t4.2 h; omega
            have s1 := qgx e.con C[i]
            have s2 := qgx e.fld F[k]
            rw [decide_eq_true q3.1] at s1
            rw [decide_eq_true q3.2] at s2
            simp -implicitDefEqProofs only [zA,reduceIte,reduceCtorEq,Nat.reduceEqDiff,Nat.reduceAdd,Nat.reduceMul,Nat.reduceLT,Nat.reduceSub,Int.reduceLT,Int.reduceLE,Int.reduceEq,Int.reduceNe,Int.reduceSub,Int.reduceAdd,Int.reduceMul,Int.reduceBEq,Int.reduceBNe,Int.reduceGT,Int.reduceGE,Nat.reduceGT,Int.reduceToNat,Int.reduceNeg,Nat.reduceLeDiff,Nat.reduceBEq,Nat.reduceBneDiff,w3,q1,q2,Ag8.con,hi1,hi2,hk1,hk2,Int.toNat_natCast,k7,k8,s1,s2,Ag8.fld,w2]
            refine ⟨_, ?_, k + 1, rfl, by omega, rfl, leN⟩
            omega
          · simp -implicitDefEqProofs only [zA,reduceIte,reduceCtorEq,Nat.reduceEqDiff,Nat.reduceAdd,Nat.reduceMul,Nat.reduceLT,Nat.reduceSub,Int.reduceLT,Int.reduceLE,Int.reduceEq,Int.reduceNe,Int.reduceSub,Int.reduceAdd,Int.reduceMul,Int.reduceBEq,Int.reduceBNe,Int.reduceGT,Int.reduceGE,Nat.reduceGT,Int.reduceToNat,Int.reduceNeg,Nat.reduceLeDiff,Nat.reduceBEq,Nat.reduceBneDiff,w3,q1,q2,w2]
            refine ⟨_, ?_, k + 1, rfl, by omega, rfl, leN⟩
            omega
        · have hk1 : ¬ (k : Int) < F.length := by omega
          simp -implicitDefEqProofs only [zA,reduceIte,reduceCtorEq,Nat.reduceEqDiff,Nat.reduceAdd,Nat.reduceMul,Nat.reduceLT,Nat.reduceSub,Int.reduceLT,Int.reduceLE,Int.reduceEq,Int.reduceNe,Int.reduceSub,Int.reduceAdd,Int.reduceMul,Int.reduceBEq,Int.reduceBNe,Int.reduceGT,Int.reduceGE,Nat.reduceGT,Int.reduceToNat,Int.reduceNeg,Nat.reduceLeDiff,Nat.reduceBEq,Nat.reduceBneDiff,hk1,w1]
          refine ⟨_, ?_, i + 1, rfl, by omega, rfl, Heap.q05 le (Heap.q05 le5 le')⟩
          omega
      · have hi1 : ¬ (i : Int) < C.length := by omega
        simp -implicitDefEqProofs only [zA,reduceIte,reduceCtorEq,Nat.reduceEqDiff,Nat.reduceAdd,Nat.reduceMul,Nat.reduceLT,Nat.reduceSub,Int.reduceLT,Int.reduceLE,Int.reduceEq,Int.reduceNe,Int.reduceSub,Int.reduceAdd,Int.reduceMul,Int.reduceBEq,Int.reduceBNe,Int.reduceGT,Int.reduceGE,Nat.reduceGT,Int.reduceToNat,Int.reduceNeg,Nat.reduceLeDiff,Nat.reduceBEq,Nat.reduceBneDiff,hi1]
        unfold q4b
        simp -implicitDefEqProofs only [zA,reduceIte,reduceCtorEq,Nat.reduceEqDiff,Nat.reduceAdd,Nat.reduceMul,Nat.reduceLT,Nat.reduceSub,Int.reduceLT,Int.reduceLE,Int.reduceEq,Int.reduceNe,Int.reduceSub,Int.reduceAdd,Int.reduceMul,Int.reduceBEq,Int.reduceBNe,Int.reduceGT,Int.reduceGE,Nat.reduceGT,Int.reduceToNat,Int.reduceNeg,Nat.reduceLeDiff,Nat.reduceBEq,Nat.reduceBneDiff]
        refine (qdz E (A3.le le)).mono ?_
        rintro x G5 ⟨le5, va, hva, rfl⟩
        simp -implicitDefEqProofs only [zA,reduceIte,reduceCtorEq,Nat.reduceEqDiff,Nat.reduceAdd,Nat.reduceMul,Nat.reduceLT,Nat.reduceSub,Int.reduceLT,Int.reduceLE,Int.reduceEq,Int.reduceNe,Int.reduceSub,Int.reduceAdd,Int.reduceMul,Int.reduceBEq,Int.reduceBNe,Int.reduceGT,Int.reduceGE,Nat.reduceGT,Int.reduceToNat,Int.reduceNeg,Nat.reduceLeDiff,Nat.reduceBEq,Nat.reduceBneDiff]
        refine (qdz E ((B3.le le).le le5)).mono ?_
        rintro x G6 ⟨le6, vb, hvb, rfl⟩
        simp -implicitDefEqProofs only [zA,reduceIte,reduceCtorEq,Nat.reduceEqDiff,Nat.reduceAdd,Nat.reduceMul,Nat.reduceLT,Nat.reduceSub,Int.reduceLT,Int.reduceLE,Int.reduceEq,Int.reduceNe,Int.reduceSub,Int.reduceAdd,Int.reduceMul,Int.reduceBEq,Int.reduceBNe,Int.reduceGT,Int.reduceGE,Nat.reduceGT,Int.reduceToNat,Int.reduceNeg,Nat.reduceLeDiff,Nat.reduceBEq,Nat.reduceBneDiff]
        refine (vec_Le_c E G6 va vb hva.1 hvb.1 (fun d hd => qkn t2 hva hvb d hd)).mono ?_
        rintro x G7 ⟨le7, rfl⟩
        simp -implicitDefEqProofs only [zA,reduceIte,reduceCtorEq,Nat.reduceEqDiff,Nat.reduceAdd,Nat.reduceMul,Nat.reduceLT,Nat.reduceSub,Int.reduceLT,Int.reduceLE,Int.reduceEq,Int.reduceNe,Int.reduceSub,Int.reduceAdd,Int.reduceMul,Int.reduceBEq,Int.reduceBNe,Int.reduceGT,Int.reduceGE,Nat.reduceGT,Int.reduceToNat,Int.reduceNeg,Nat.reduceLeDiff,Nat.reduceBEq,Nat.reduceBneDiff]
        refine (qb3 E K ((((B3.le le).le le5).le le6).le le7)).mono ?_
        rintro v G8 ⟨le8, ow8⟩
        obtain ⟨z1, z2, rfl⟩ := ow8.sl.shape
        simp -implicitDefEqProofs only [zA,reduceIte,reduceCtorEq,Nat.reduceEqDiff,Nat.reduceAdd,Nat.reduceMul,Nat.reduceLT,Nat.reduceSub,Int.reduceLT,Int.reduceLE,Int.reduceEq,Int.reduceNe,Int.reduceSub,Int.reduceAdd,Int.reduceMul,Int.reduceBEq,Int.reduceBNe,Int.reduceGT,Int.reduceGE,Nat.reduceGT,Int.reduceToNat,Int.reduceNeg,Nat.reduceLeDiff,Nat.reduceBEq,Nat.reduceBneDiff]
        refine (qb3 E K (((((A3.le le).le le5).le le6).le le7).le le8)).mono ?_
        rintro v G9 ⟨le9, ow9⟩
        obtain ⟨z3, z4, rfl⟩ := ow9.sl.shape
        have hge : (S.length : Int) ≤ T.length := by omega
        simp -implicitDefEqProofs only [zA,reduceIte,reduceCtorEq,Nat.reduceEqDiff,Nat.reduceAdd,Nat.reduceMul,Nat.reduceLT,Nat.reduceSub,Int.reduceLT,Int.reduceLE,Int.reduceEq,Int.reduceNe,Int.reduceSub,Int.reduceAdd,Int.reduceMul,Int.reduceBEq,Int.reduceBNe,Int.reduceGT,Int.reduceGE,Nat.reduceGT,Int.reduceToNat,Int.reduceNeg,Nat.reduceLeDiff,Nat.reduceBEq,Nat.reduceBneDiff,hge]
    · have gz' : ((addB S e).2 != 0) = true := by simpa using gz
      have hno := addB_nz gz
      rw [hno] at B2
      simp -implicitDefEqProofs only [zA,reduceIte,reduceCtorEq,Nat.reduceEqDiff,Nat.reduceAdd,Nat.reduceMul,Nat.reduceLT,Nat.reduceSub,Int.reduceLT,Int.reduceLE,Int.reduceEq,Int.reduceNe,Int.reduceSub,Int.reduceAdd,Int.reduceMul,Int.reduceBEq,Int.reduceBNe,Int.reduceGT,Int.reduceGE,Nat.reduceGT,Int.reduceToNat,Int.reduceNeg,Nat.reduceLeDiff,Nat.reduceBEq,Nat.reduceBneDiff,gz']
      refine (qja E A2 B2).mono ?_
      rintro v G5 ⟨le5, rfl⟩
      rw [decide_eq_true rfl]
      simp -implicitDefEqProofs only [zA,reduceIte,reduceCtorEq,Nat.reduceEqDiff,Nat.reduceAdd,Nat.reduceMul,Nat.reduceLT,Nat.reduceSub,Int.reduceLT,Int.reduceLE,Int.reduceEq,Int.reduceNe,Int.reduceSub,Int.reduceAdd,Int.reduceMul,Int.reduceBEq,Int.reduceBNe,Int.reduceGT,Int.reduceGE,Nat.reduceGT,Int.reduceToNat,Int.reduceNeg,Nat.reduceLeDiff,Nat.reduceBEq,Nat.reduceBneDiff]
end Go.Bb
