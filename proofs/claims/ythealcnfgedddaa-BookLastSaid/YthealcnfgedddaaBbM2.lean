/- My contracts: BbBo5 BbBo6 BbBo7 BbBo8 BbBo9 BbPbs BbBoA BbUed BbLbk0 BbPbl BbLbk1 BbLbk2 BbPbm BbPbn BbPbo BbLbkV BbCwir2 BbLbk3. -/
import Derived.Test.YthealcnfgedddaaBbM1
import Derived.Test.YthealcnfgedddaaBbG3
namespace Go.Bb
set_option linter.unusedSimpArgs false
set_option linter.unusedVariables false
set_option maxRecDepth 20000
set_option maxHeartbeats 2000000
open Go.MapKept
theorem qls {E : Env} {n : Nat} {g : FuncId} {first cap vs : List Value} {h : Heap} {K : Value → Heap → Prop} (hg : E.fid n = some g) (a : ACallN E n (first ++ vs ++ cap) h K) : qje E h K (.func (.func g) first.toArray cap.toArray) vs :=
  ⟨⟨n, hg⟩, by simpa using a g hg⟩
theorem Sl.edAt {H : Heap} {v : Value} {S : List Ed} (h8 : ∀ e ∈ S, e.seen.length = 8) (s : Sl H 15 v S.length (S.flatMap edC)) (i : Nat) (hi : i < S.length) :
    ∃ b o c, v = .slice (some ⟨b, o, none⟩) S.length c ∧ S.length ≤ c ∧ ∀ h', H.le h' → q08 h' ⟨b, o + i * 15, none⟩ 15 = some (edC S[i]) := by
  obtain ⟨l, rfl⟩ := toG h8
  rw [← qcd, List.length_map] at s
  rw [List.length_map] at hi
  obtain ⟨b, o, c, h1, h2, h3⟩ := s.at qb0 i hi (by decide)
  refine ⟨b, o, c, by rw [List.length_map]; exact h1, by rw [List.length_map]; exact h2, fun h' hle => ?_⟩
  rw [h3 h' hle, List.getElem_map]
  rfl
theorem qc4 (E : EnvT tab) (K : BkOk E) {H : Heap} {v : Value} {S : List Ed} (h8 : ∀ e ∈ S, e.seen.length = 8) (hl : S.length ≤ 100000) (s : Sl H 15 v S.length (S.flatMap edC)) {y : Ed} (hy : y.seen.length = 8) {b0 : Nat} (q0 : H b0 = some (.own 0 (edC y) 15)) :
    ACallN E.toEnv q72 [v, .func (.func 60) #[] #[.pointer (some ⟨b0, 0, none⟩)]] H fun r H' => H.le H' ∧ r = .int .i64 (if S.any (fun a => q82 a y) then (S.findIdx (fun a => q82 a y) : Int) else -1) := by
  obtain ⟨base, c, rfl⟩ := s.shape
  refine q3q q17 q0l rfl rfl (q01 ?_)
  unfold q0l
  simp -implicitDefEqProofs only [zA,reduceIte,reduceCtorEq,Nat.reduceEqDiff,Nat.reduceAdd,Nat.reduceMul,Nat.reduceLT,Nat.reduceSub,Int.reduceLT,Int.reduceLE,Int.reduceEq,Int.reduceNe,Int.reduceSub,Int.reduceAdd,Int.reduceMul,Int.reduceBEq,Int.reduceBNe,Int.reduceGT,Int.reduceGE,Nat.reduceGT,Int.reduceToNat,Int.reduceNeg,Nat.reduceLeDiff,Nat.reduceBEq,Nat.reduceBneDiff]
  refine q2l (fun m t G => H.le G ∧ ∃ i : Nat, t = tl [(0, .slice base S.length c), (1, .func (.func 60) [].toArray [.pointer (some ⟨b0, 0, none⟩)].toArray), (7, .int .i64 S.length), (8, .int .i64 i)] ∧ i ≤ S.length ∧ m = S.length - i ∧ (S.take i).any (fun a => q82 a y) = false) S.length
    ⟨Heap.q0f _, 0, rfl, by omega, by omega, by simp⟩ ?_
  rintro m t G ⟨le, i, rfl, hi, rfl, ha⟩
  by_cases hlt : i < S.length
  · obtain ⟨b, o, c', hv, hc, q25⟩ := s.edAt h8 i hlt
    simp only [Value.slice.injEq, true_and] at hv
    obtain ⟨rfl, rfl⟩ := hv
    have hi1 : (i : Int) < S.length := by omega
    have hi2 : (0 : Int) ≤ i := by omega
    have w1 : IntKind.i64.wrap ((i : Int) + 1) = ((i + 1 : Nat) : Int) := qcq (by omega)
    have hi3 := q25 _ le
    have hx := h8 S[i] (List.getElem_mem hlt)
    simp -implicitDefEqProofs only [zA,reduceIte,reduceCtorEq,Nat.reduceEqDiff,Nat.reduceAdd,Nat.reduceMul,Nat.reduceLT,Nat.reduceSub,Int.reduceLT,Int.reduceLE,Int.reduceEq,Int.reduceNe,Int.reduceSub,Int.reduceAdd,Int.reduceMul,Int.reduceBEq,Int.reduceBNe,Int.reduceGT,Int.reduceGE,Nat.reduceGT,Int.reduceToNat,Int.reduceNeg,Nat.reduceLeDiff,Nat.reduceBEq,Nat.reduceBneDiff,hi1,hi2,Int.toNat_natCast,hi3]
    refine qls (first := []) (cap := [.pointer (some ⟨b0, 0, none⟩)]) (vs := [.agg (edC S[i]).toArray]) K.f60 ?_
    refine (qgz E G S[i] y hx hy (le _ _ q0)).mono ?_
    rintro r G1 ⟨le1, rfl⟩
    have leX := Heap.q06 le le1
    have et : S.take (i + 1) = S.take i ++ [S[i]] := List.take_succ_eq_append_getElem hlt
    by_cases g : q82 S[i] y = true
    · have e1 : S.any (fun a => q82 a y) = true := List.any_eq_true.2 ⟨S[i], List.getElem_mem hlt, g⟩
      have e2 : S.findIdx (fun a => q82 a y) = i := by
        rw [List.findIdx_eq hlt]
        refine ⟨g, fun j hj => ?_⟩
        rw [List.any_eq_false] at ha
        have := ha S[j] (by rw [List.mem_take_iff_getElem]; exact ⟨j, by omega, rfl⟩)
        simpa using this
      simp -implicitDefEqProofs only [zA,reduceIte,reduceCtorEq,Nat.reduceEqDiff,Nat.reduceAdd,Nat.reduceMul,Nat.reduceLT,Nat.reduceSub,Int.reduceLT,Int.reduceLE,Int.reduceEq,Int.reduceNe,Int.reduceSub,Int.reduceAdd,Int.reduceMul,Int.reduceBEq,Int.reduceBNe,Int.reduceGT,Int.reduceGE,Nat.reduceGT,Int.reduceToNat,Int.reduceNeg,Nat.reduceLeDiff,Nat.reduceBEq,Nat.reduceBneDiff,g,e1,e2]
      exact leX
    · have g' : q82 S[i] y = false := by simpa using g
      simp -implicitDefEqProofs only [zA,reduceIte,reduceCtorEq,Nat.reduceEqDiff,Nat.reduceAdd,Nat.reduceMul,Nat.reduceLT,Nat.reduceSub,Int.reduceLT,Int.reduceLE,Int.reduceEq,Int.reduceNe,Int.reduceSub,Int.reduceAdd,Int.reduceMul,Int.reduceBEq,Int.reduceBNe,Int.reduceGT,Int.reduceGE,Nat.reduceGT,Int.reduceToNat,Int.reduceNeg,Nat.reduceLeDiff,Nat.reduceBEq,Nat.reduceBneDiff,g',w1]
      refine ⟨_, ?_, leX, i + 1, rfl, by omega, rfl, ?_⟩
      · omega
      · rw [et, List.any_append, ha]; simp [g']
  · have hi1 : ¬ (i : Int) < S.length := by omega
    have e : i = S.length := by omega
    subst e
    rw [List.take_length] at ha
    simp -implicitDefEqProofs only [zA,reduceIte,reduceCtorEq,Nat.reduceEqDiff,Nat.reduceAdd,Nat.reduceMul,Nat.reduceLT,Nat.reduceSub,Int.reduceLT,Int.reduceLE,Int.reduceEq,Int.reduceNe,Int.reduceSub,Int.reduceAdd,Int.reduceMul,Int.reduceBEq,Int.reduceBNe,Int.reduceGT,Int.reduceGE,Nat.reduceGT,Int.reduceToNat,Int.reduceNeg,Nat.reduceLeDiff,Nat.reduceBEq,Nat.reduceBneDiff,hi1,ha]
    exact le
theorem qa8 (E : EnvT tab) (K : BkOk E) {H : Heap} {v : Value} {S : List Ed} (h8 : ∀ e ∈ S, e.seen.length = 8) (hl : S.length ≤ 100000) (s : Sl H 15 v S.length (S.flatMap edC)) {y : Ed} (hy : y.seen.length = 8) {b0 : Nat} (q0 : H b0 = some (.own 0 (edC y) 15)) :
    ACallN E.toEnv q5h [v, .func (.func 60) #[] #[.pointer (some ⟨b0, 0, none⟩)]] H fun r H' => H.le H' ∧ r = .bool (S.any (fun a => q82 a y)) := by
  refine q3q q0y q0d rfl rfl (q01 ?_)
  unfold q0d
  simp -implicitDefEqProofs only [zA,reduceIte,reduceCtorEq,Nat.reduceEqDiff,Nat.reduceAdd,Nat.reduceMul,Nat.reduceLT,Nat.reduceSub,Int.reduceLT,Int.reduceLE,Int.reduceEq,Int.reduceNe,Int.reduceSub,Int.reduceAdd,Int.reduceMul,Int.reduceBEq,Int.reduceBNe,Int.reduceGT,Int.reduceGE,Nat.reduceGT,Int.reduceToNat,Int.reduceNeg,Nat.reduceLeDiff,Nat.reduceBEq,Nat.reduceBneDiff]
  refine (qc4 E K h8 hl s hy q0).mono ?_
  rintro r H1 ⟨le1, rfl⟩
  cases g : S.any (fun a => q82 a y) with
  | true =>
    have h0 : (0 : Int) ≤ (S.findIdx (fun a => q82 a y) : Nat) := by omega
    simp -implicitDefEqProofs only [zA,reduceIte,reduceCtorEq,Nat.reduceEqDiff,Nat.reduceAdd,Nat.reduceMul,Nat.reduceLT,Nat.reduceSub,Int.reduceLT,Int.reduceLE,Int.reduceEq,Int.reduceNe,Int.reduceSub,Int.reduceAdd,Int.reduceMul,Int.reduceBEq,Int.reduceBNe,Int.reduceGT,Int.reduceGE,Nat.reduceGT,Int.reduceToNat,Int.reduceNeg,Nat.reduceLeDiff,Nat.reduceBEq,Nat.reduceBneDiff,h0]
    exact le1
  | false =>
    simp -implicitDefEqProofs only [zA,reduceIte,reduceCtorEq,Nat.reduceEqDiff,Nat.reduceAdd,Nat.reduceMul,Nat.reduceLT,Nat.reduceSub,Int.reduceLT,Int.reduceLE,Int.reduceEq,Int.reduceNe,Int.reduceSub,Int.reduceAdd,Int.reduceMul,Int.reduceBEq,Int.reduceBNe,Int.reduceGT,Int.reduceGE,Nat.reduceGT,Int.reduceToNat,Int.reduceNeg,Nat.reduceLeDiff,Nat.reduceBEq,Nat.reduceBneDiff]
    exact le1
def Z15 : List Value := List.replicate 11 (.int .i64 0) ++ [.string .empty, .string .empty, .string .empty, .int .i64 0]
theorem qly : Z15.length = 15 := rfl
theorem zf15 : (List.replicate 1 (List.replicate 11 (Value.int .i64 0) ++ [.string .empty, .string .empty, .string .empty, .int .i64 0])).flatten = Z15 := rfl
theorem Z15_drop : List.drop 15 Z15 = [] := rfl
theorem stE (G : Heap) (b : Nat) {e : Ed} (h8 : e.seen.length = 8) : q7x (G.set b (.own 0 Z15 Z15.length)) 15 (.pointer (some ⟨b, 0, none⟩)) (.agg (edC e).toArray) = some (G.set b (.own 0 (edC e) 15)) :=
  z6z (by decide) (q4e h8) (qgu e) qly (by decide)
def qa3 (S : List Ed) (e : Ed) : Bool := decide (e.kind = 1) && !S.any fun a => q82 a e
theorem qcj (x y : Ed) : qlo x y < 0 ↔ q9c x y := by
  rw [← ql7]
  unfold qlo
  cases qjw x y <;> simp
theorem qfe (E : EnvT tab) (K : BkOk E) {H : Heap} {b r : Nat} {S : List Ed} (B : BookAt H b r S) :
    ACallN E.toEnv qe8 [.pointer (some ⟨b, 0, none⟩)] H fun v H' => H.le H' ∧ Ow H H' 15 v (qa4 S).length ((qa4 S).flatMap edC) := by
  refine q3q q83 q5e rfl rfl (q01 ?_)
  unfold q5e
  have hS := B.ok.len
  have h8 := B.ok.h8
  simp -implicitDefEqProofs only [zA,reduceIte,reduceCtorEq,Nat.reduceEqDiff,Nat.reduceAdd,Nat.reduceMul,Nat.reduceLT,Nat.reduceSub,Int.reduceLT,Int.reduceLE,Int.reduceEq,Int.reduceNe,Int.reduceSub,Int.reduceAdd,Int.reduceMul,Int.reduceBEq,Int.reduceBNe,Int.reduceGT,Int.reduceGE,Nat.reduceGT,Int.reduceToNat,Int.reduceNeg,Nat.reduceLeDiff,Nat.reduceBEq,Nat.reduceBneDiff]
  refine (qe0 E K B).mono ?_
  rintro v H1 ⟨le1, ow1⟩
  have sl1 := ow1.sl
  obtain ⟨base, c, rfl⟩ := sl1.shape
  have e60 := K.f60
  simp -implicitDefEqProofs only [zA,reduceIte,reduceCtorEq,Nat.reduceEqDiff,Nat.reduceAdd,Nat.reduceMul,Nat.reduceLT,Nat.reduceSub,Int.reduceLT,Int.reduceLE,Int.reduceEq,Int.reduceNe,Int.reduceSub,Int.reduceAdd,Int.reduceMul,Int.reduceBEq,Int.reduceBNe,Int.reduceGT,Int.reduceGE,Nat.reduceGT,Int.reduceToNat,Int.reduceNeg,Nat.reduceLeDiff,Nat.reduceBEq,Nat.reduceBneDiff]
  refine q2l (fun m t G => H1.le G ∧ ∃ (i : Nat) (vl : Value), t = tl [(3, vl), (4, .slice base S.length c), (10, .slice base S.length c), (11, .int .i64 S.length), (12, .int .i64 i)] ∧ i ≤ S.length ∧ m = S.length - i ∧ Ow H1 G 15 vl ((S.take i).filter (qa3 S)).length (((S.take i).filter (qa3 S)).flatMap edC)) S.length
    ⟨Heap.q0f _, 0, _, rfl, by omega, by omega, Ow.nil _ _ _⟩ ?_
  rintro m t G ⟨le, i, vl, rfl, hi, rfl, ow⟩
  by_cases hlt : i < S.length
  · obtain ⟨bs, o, c', hv, hc, q25⟩ := sl1.edAt h8 i hlt
    simp only [Value.slice.injEq, true_and] at hv
    obtain ⟨rfl, rfl⟩ := hv
    have hi1 : (i : Int) < S.length := by omega
    have hi2 : (0 : Int) ≤ i := by omega
    have w1 : IntKind.i64.wrap ((i : Int) + 1) = ((i + 1 : Nat) : Int) := qcq (by omega)
    have hi3 := q25 _ le
    have hx := h8 S[i] (List.getElem_mem hlt)
    have et : S.take (i + 1) = S.take i ++ [S[i]] := List.take_succ_eq_append_getElem hlt
    generalize S[i] = y at hi3 hx et
    simp -implicitDefEqProofs only [zA,reduceIte,reduceCtorEq,Nat.reduceEqDiff,Nat.reduceAdd,Nat.reduceMul,Nat.reduceLT,Nat.reduceSub,Int.reduceLT,Int.reduceLE,Int.reduceEq,Int.reduceNe,Int.reduceSub,Int.reduceAdd,Int.reduceMul,Int.reduceBEq,Int.reduceBNe,Int.reduceGT,Int.reduceGE,Nat.reduceGT,Int.reduceToNat,Int.reduceNeg,Nat.reduceLeDiff,Nat.reduceBEq,Nat.reduceBneDiff,hi1,hi2,Int.toNat_natCast,hi3]
    intro b6 hb6
    have s6 := stE G b6 hx
    unfold Z15 at s6
    try simp -implicitDefEqProofs only [zA,reduceIte,reduceCtorEq,Nat.reduceEqDiff,Nat.reduceAdd,Nat.reduceMul,Nat.reduceLT,Nat.reduceSub,Int.reduceLT,Int.reduceLE,Int.reduceEq,Int.reduceNe,Int.reduceSub,Int.reduceAdd,Int.reduceMul,Int.reduceBEq,Int.reduceBNe,Int.reduceGT,Int.reduceGE,Nat.reduceGT,Int.reduceToNat,Int.reduceNeg,Nat.reduceLeDiff,Nat.reduceBEq,Nat.reduceBneDiff,s6]
    have le6 : G.le (G.set b6 (.own 0 (edC y) 15)) := Heap.q14 (Heap.q0f _) hb6 _
    have A : EdAt (G.set b6 (.own 0 (edC y) 15)) b6 y := EdAt.of (Heap.q05 _ _ _) hx
    have ow6 := ow.le le6
    have leB := Heap.q06 le le6
    generalize (G.set b6 (.own 0 (edC y) 15)) = G6 at le6 A ow6 leB
    unfold q87
    have hyes : qa3 S y = true → (S.take (i + 1)).filter (qa3 S) = (S.take i).filter (qa3 S) ++ [y] := fun h => by rw [et, List.filter_append]; simp [h]
    have hno : qa3 S y = false → (S.take (i + 1)).filter (qa3 S) = (S.take i).filter (qa3 S) := fun h => by rw [et, List.filter_append]; simp [h]
    by_cases k1 : y.kind = 1
    · simp -implicitDefEqProofs only [zA,reduceIte,reduceCtorEq,Nat.reduceEqDiff,Nat.reduceAdd,Nat.reduceMul,Nat.reduceLT,Nat.reduceSub,Int.reduceLT,Int.reduceLE,Int.reduceEq,Int.reduceNe,Int.reduceSub,Int.reduceAdd,Int.reduceMul,Int.reduceBEq,Int.reduceBNe,Int.reduceGT,Int.reduceGE,Nat.reduceGT,Int.reduceToNat,Int.reduceNeg,Nat.reduceLeDiff,Nat.reduceBEq,Nat.reduceBneDiff,e60,A.kind,k1]
      refine (qa8 E K h8 (by omega) (sl1.le leB) hx A.own).mono ?_
      rintro r G7 ⟨le7, rfl⟩
      have A7 := A.le hx le7
      have ow7 := ow6.le le7
      have leC := Heap.q06 leB le7
      cases g : S.any (fun a => q82 a y) with
      | true =>
        have hp : qa3 S y = false := by simp [qa3, g]
        simp -implicitDefEqProofs only [zA,reduceIte,reduceCtorEq,Nat.reduceEqDiff,Nat.reduceAdd,Nat.reduceMul,Nat.reduceLT,Nat.reduceSub,Int.reduceLT,Int.reduceLE,Int.reduceEq,Int.reduceNe,Int.reduceSub,Int.reduceAdd,Int.reduceMul,Int.reduceBEq,Int.reduceBNe,Int.reduceGT,Int.reduceGE,Nat.reduceGT,Int.reduceToNat,Int.reduceNeg,Nat.reduceLeDiff,Nat.reduceBEq,Nat.reduceBneDiff,w1]
        refine ⟨_, ?_, leC, i + 1, vl, rfl, by omega, rfl, ?_⟩
        · omega
        · rw [hno hp]; exact ow7
      | false =>
        have hp : qa3 S y = true := by simp [qa3, g, k1]
        have hy15 := q4e hx
        simp -implicitDefEqProofs only [zA,reduceIte,reduceCtorEq,Nat.reduceEqDiff,Nat.reduceAdd,Nat.reduceMul,Nat.reduceLT,Nat.reduceSub,Int.reduceLT,Int.reduceLE,Int.reduceEq,Int.reduceNe,Int.reduceSub,Int.reduceAdd,Int.reduceMul,Int.reduceBEq,Int.reduceBNe,Int.reduceGT,Int.reduceGE,Nat.reduceGT,Int.reduceToNat,Int.reduceNeg,Nat.reduceLeDiff,Nat.reduceBEq,Nat.reduceBneDiff,A7.all,zf15,qly,Z15_drop,hy15,List.append_nil]
        intro b8 hb8
        have le8 := Heap.q14 (Heap.q0f G7) hb8 (.own 0 (edC y) 15)
        try simp -implicitDefEqProofs only [zA,reduceIte,reduceCtorEq,Nat.reduceEqDiff,Nat.reduceAdd,Nat.reduceMul,Nat.reduceLT,Nat.reduceSub,Int.reduceLT,Int.reduceLE,Int.reduceEq,Int.reduceNe,Int.reduceSub,Int.reduceAdd,Int.reduceMul,Int.reduceBEq,Int.reduceBNe,Int.reduceGT,Int.reduceGE,Nat.reduceGT,Int.reduceToNat,Int.reduceNeg,Nat.reduceLeDiff,Nat.reduceBEq,Nat.reduceBneDiff]
        refine qdf (bytes := 144) (m := 1) (news := edC y) (Heap.q06 leC le8) (by decide) (ow7.le le8) (Sl.lit (n := 1) hy15) (qgu y) (by have := List.length_filter_le (qa3 S) (S.take i); rw [List.length_take] at this; omega) (by have := List.length_filter_le (qa3 S) (S.take i); rw [List.length_take] at this; omega) ?_
        intro v' h' ow9 le9
        simp -implicitDefEqProofs only [zA,reduceIte,reduceCtorEq,Nat.reduceEqDiff,Nat.reduceAdd,Nat.reduceMul,Nat.reduceLT,Nat.reduceSub,Int.reduceLT,Int.reduceLE,Int.reduceEq,Int.reduceNe,Int.reduceSub,Int.reduceAdd,Int.reduceMul,Int.reduceBEq,Int.reduceBNe,Int.reduceGT,Int.reduceGE,Nat.reduceGT,Int.reduceToNat,Int.reduceNeg,Nat.reduceLeDiff,Nat.reduceBEq,Nat.reduceBneDiff,w1]
        refine ⟨_, ?_, le9, i + 1, v', rfl, by omega, rfl, ?_⟩
        · omega
        · rw [hyes hp, List.flatMap_append, List.length_append]; simpa using ow9
    · have hp : qa3 S y = false := by simp [qa3, k1]
      simp -implicitDefEqProofs only [zA,reduceIte,reduceCtorEq,Nat.reduceEqDiff,Nat.reduceAdd,Nat.reduceMul,Nat.reduceLT,Nat.reduceSub,Int.reduceLT,Int.reduceLE,Int.reduceEq,Int.reduceNe,Int.reduceSub,Int.reduceAdd,Int.reduceMul,Int.reduceBEq,Int.reduceBNe,Int.reduceGT,Int.reduceGE,Nat.reduceGT,Int.reduceToNat,Int.reduceNeg,Nat.reduceLeDiff,Nat.reduceBEq,Nat.reduceBneDiff,e60,A.kind,k1,w1]
      refine ⟨_, ?_, leB, i + 1, vl, rfl, by omega, rfl, ?_⟩
      · omega
      · rw [hno hp]; exact ow6
  · have hi1 : ¬ (i : Int) < S.length := by omega
    have e : i = S.length := by omega
    subst e
    rw [List.take_length] at ow
    have e63 := oev_fv K.f63
    simp -implicitDefEqProofs only [zA,reduceIte,reduceCtorEq,Nat.reduceEqDiff,Nat.reduceAdd,Nat.reduceMul,Nat.reduceLT,Nat.reduceSub,Int.reduceLT,Int.reduceLE,Int.reduceEq,Int.reduceNe,Int.reduceSub,Int.reduceAdd,Int.reduceMul,Int.reduceBEq,Int.reduceBNe,Int.reduceGT,Int.reduceGE,Nat.reduceGT,Int.reduceToNat,Int.reduceNeg,Nat.reduceLeDiff,Nat.reduceBEq,Nat.reduceBneDiff,hi1,e63]
    have hf8 : ∀ e ∈ S.filter (qa3 S), e.seen.length = 8 := fun e he => h8 e (List.mem_filter.1 he).1
    have hfl := List.length_filter_le (qa3 S) S
    refine (qj3 E K hf8 ow (by omega) K.f63 qlo (fun x => by rw [qcj]; exact q8y x) (fun x y z a b => by rw [qcj] at *; exact q9q a b) (fun x y z a b => by rw [qcj] at *; unfold q9c q46 at *; omega)
      (fun x y hx hy => (qgy E _ x y hx hy).mono fun r H' h => h.2)).mono ?_
    rintro u H2 ⟨S2, p2, s2, ow2, k2⟩
    simp -implicitDefEqProofs only [zA,reduceIte,reduceCtorEq,Nat.reduceEqDiff,Nat.reduceAdd,Nat.reduceMul,Nat.reduceLT,Nat.reduceSub,Int.reduceLT,Int.reduceLE,Int.reduceEq,Int.reduceNe,Int.reduceSub,Int.reduceAdd,Int.reduceMul,Int.reduceBEq,Int.reduceBNe,Int.reduceGT,Int.reduceGE,Nat.reduceGT,Int.reduceToNat,Int.reduceNeg,Nat.reduceLeDiff,Nat.reduceBEq,Nat.reduceBneDiff]
    have e2 : S2 = qa4 S := by
      refine q89 q8y (fun x y z => q9q) (p2.trans (q99 _ _).symm) ?_ (qac B.ok)
      refine qab p2 (B.ok.apart.sublist List.filter_sublist) ?_
      exact s2.imp fun {x y} h => by rw [qcj] at h; exact h
    subst e2
    refine ⟨fun k x hx => ?_, ow2.since le1⟩
    have h1 := le1 k x hx
    rw [k2 k (by rw [h1]; simp)]
    exact le k x h1
end Go.Bb
namespace Go.Bb
set_option linter.unusedSimpArgs false
set_option linter.unusedVariables false
set_option maxRecDepth 20000
set_option maxHeartbeats 2000000
open Go.MapKept
deriving instance DecidableEq for Ed
theorem leafStr (a b : List UInt8) : qc9 (strV a) (strV b) = decide (a = b) := by
  simp only [strV, qc9, qap]
  rw [Bool.eq_iff_iff]; simp
theorem qex (e : Ed) (h8 : e.seen.length = 8) : q02 (List.replicate 11 (some IntKind.i64) ++ [none, none, none, some IntKind.i64]) (edC e) = true := by
  obtain ⟨dev, n, seen, kind, con, fld, val, time⟩ := e
  simp only at h8
  match seen, h8 with
  | [a, b, c, d, e, f, g, h], _ => rfl
theorem qii (x y : Ed) (hx : x.seen.length = 8) (hy : y.seen.length = 8) : q0k (edC x) (edC y) = decide (x = y) := by
  obtain ⟨dev, n, seen, kind, con, fld, val, time⟩ := x
  obtain ⟨dev', n', seen', kind', con', fld', val', time'⟩ := y
  simp only at hx hy
  match seen, hx, seen', hy with
  | [a, b, c, d, e, f, g, h], _, [a', b', c', d', e', f', g', h'], _ =>
    simp only [edC, List.map_cons, List.map_nil, List.cons_append, List.nil_append, q0k, leafStr]
    simp only [qc9]
    rw [Bool.eq_iff_iff]
    simp
    intro _ _
    simp only [and_assoc]
abbrev KD : KeyT := .agg [some .i64, some .i64]
def dotK (d n : Int) : Value := .agg #[.int .i64 d, .int .i64 n]
def q9v (L : List Ed) (d n : Int) : Option Ed := L.find? fun x => decide (x.dev = d ∧ x.n = n)
theorem keyD (d n d' n' : Int) : keyV KD (dotK d n) (dotK d' n') = some (decide (d' = d ∧ n' = n)) := by
  simp only [keyV, dotK, q02, q8i, q0k, qc9, decide_true, Bool.and_true, if_true]
  congr 1
  rw [Bool.eq_iff_iff]
  simp
  omega
theorem qdb {d n : Int} : ∀ {es : List MapEntry} {L : List Ed} (i : Nat), EntB es L → q9v L d n = none → q67 KD (dotK d n) es i = some none
  | [], _, _, _, _ => rfl
  | e :: es, [], i, h, _ => by simp [EntB] at h
  | e :: es, x :: L, i, h, hn => by
      simp only [EntB, List.map_cons, List.cons.injEq, Prod.mk.injEq] at h
      obtain ⟨⟨h1, h2⟩, h3⟩ := h
      unfold q9v at hn
      rw [List.find?_cons] at hn
      have hx : ¬ (x.dev = d ∧ x.n = n) := by
        intro q
        simp [q] at hn
      unfold q67
      rw [h1, show dotV x = dotK x.dev x.n from rfl, keyD, decide_eq_false hx]
      exact qdb (i + 1) h3 (by simpa [q9v, hx] using hn)
theorem qda {d n : Int} {w : Ed} : ∀ {es : List MapEntry} {L : List Ed} (i : Nat), EntB es L → q9v L d n = some w → ∃ j, q67 KD (dotK d n) es i = some (some (j, edV w))
  | [], [], _, _, hs => by simp [q9v] at hs
  | [], _ :: _, _, h, _ => by simp [EntB] at h
  | e :: es, [], i, h, _ => by simp [EntB] at h
  | e :: es, x :: L, i, h, hs => by
      simp only [EntB, List.map_cons, List.cons.injEq, Prod.mk.injEq] at h
      obtain ⟨⟨h1, h2⟩, h3⟩ := h
      unfold q9v at hs
      rw [List.find?_cons] at hs
      unfold q67
      rw [h1, show dotV x = dotK x.dev x.n from rfl, keyD]
      by_cases hx : x.dev = d ∧ x.n = n
      · rw [decide_eq_true hx]
        have hw : x = w := by simpa [hx] using hs
        exact ⟨i, by rw [h2, hw]⟩
      · rw [decide_eq_false hx]
        exact qda (i + 1) h3 (by simpa [q9v, hx] using hs)
theorem q9g {S : List Ed} {d n : Int} : q9v S d n = none ↔ ∀ x ∈ S, ¬ (x.dev = d ∧ x.n = n) := by
  unfold q9v; rw [List.find?_eq_none]; simp
theorem getD_some {S : List Ed} {d n : Int} {w : Ed} (h : q9v S d n = some w) : w ∈ S ∧ w.dev = d ∧ w.n = n := by
  unfold q9v at h
  exact ⟨List.mem_of_find?_eq_some h, by simpa using List.find?_some h⟩
theorem qhp {L S : List Ed} (p : L.Perm S) (ok : BkS S) (d n : Int) : q9v L d n = q9v S d n := by
  cases hs : q9v S d n with
  | none =>
    rw [q9g] at hs ⊢
    exact fun x hx => hs x (p.mem_iff.1 hx)
  | some w =>
    cases hl : q9v L d n with
    | none =>
      rw [q9g] at hl
      have := getD_some hs
      exact absurd this.2 (hl w (p.mem_iff.2 this.1))
    | some v =>
      have h1 := getD_some hs
      have h2 := getD_some hl
      rw [ok.tot (p.mem_iff.1 h2.1) h1.1 (by rw [h2.2.1, h1.2.1]) (by rw [h2.2.2, h1.2.2])]
def addB (S : List Ed) (e : Ed) : List Ed × Int :=
  if q84 e = true then
    match q9v S e.dev e.n with
    | some old => if old = e then (S, 0) else (S, 10)
    | none => if 500 ≤ S.length then (S, 2) else (insR q46 e S, 0)
  else (S, 1)
theorem BkS.ins {S : List Ed} (ok : BkS S) {e : Ed} (hg : q84 e = true) (h8 : e.seen.length = 8) (hn : q9v S e.dev e.n = none) (hl : ¬ 500 ≤ S.length) : BkS (insR q46 e S) := by
  have hp := q81 q46 e S
  rw [q9g] at hn
  refine ⟨qbu (fun x y z => @qbw x y z) ok.rise fun x hx => ?_, fun x hx => ?_, fun x hx => ?_, ?_⟩
  · have := hn x hx
    unfold q46; omega
  · rcases List.mem_cons.1 (hp.mem_iff.1 hx) with h | h
    · rw [h]; exact hg
    · exact ok.good x h
  · rcases List.mem_cons.1 (hp.mem_iff.1 hx) with h | h
    · rw [h]; exact h8
    · exact ok.h8 x h
  · rw [hp.length_eq, List.length_cons]; omega
theorem qg9 (E : EnvT tab) (h : Heap) : ACallN E.toEnv qjs [] h fun v h' => h.le h' ∧ ∃ b r, v = .pointer (some ⟨b, 0, none⟩) ∧ h b = none ∧ h r = none ∧ BookAt h' b r [] := by
  refine q3q qd8 q9t rfl rfl (q01 ?_)
  unfold q9t
  simp -implicitDefEqProofs only [zA,reduceIte,reduceCtorEq,Nat.reduceEqDiff,Nat.reduceAdd,Nat.reduceMul,Nat.reduceLT,Nat.reduceSub,Int.reduceLT,Int.reduceLE,Int.reduceEq,Int.reduceNe,Int.reduceSub,Int.reduceAdd,Int.reduceMul,Int.reduceBEq,Int.reduceBNe,Int.reduceGT,Int.reduceGE,Nat.reduceGT,Int.reduceToNat,Int.reduceNeg,Nat.reduceLeDiff,Nat.reduceBEq,Nat.reduceBneDiff]
  intro b hb
  try simp -implicitDefEqProofs only [zA,reduceIte,reduceCtorEq,Nat.reduceEqDiff,Nat.reduceAdd,Nat.reduceMul,Nat.reduceLT,Nat.reduceSub,Int.reduceLT,Int.reduceLE,Int.reduceEq,Int.reduceNe,Int.reduceSub,Int.reduceAdd,Int.reduceMul,Int.reduceBEq,Int.reduceBNe,Int.reduceGT,Int.reduceGE,Nat.reduceGT,Int.reduceToNat,Int.reduceNeg,Nat.reduceLeDiff,Nat.reduceBEq,Nat.reduceBneDiff]
  intro r hr
  try simp -implicitDefEqProofs only [zA,reduceIte,reduceCtorEq,Nat.reduceEqDiff,Nat.reduceAdd,Nat.reduceMul,Nat.reduceLT,Nat.reduceSub,Int.reduceLT,Int.reduceLE,Int.reduceEq,Int.reduceNe,Int.reduceSub,Int.reduceAdd,Int.reduceMul,Int.reduceBEq,Int.reduceBNe,Int.reduceGT,Int.reduceGE,Nat.reduceGT,Int.reduceToNat,Int.reduceNeg,Nat.reduceLeDiff,Nat.reduceBEq,Nat.reduceBneDiff]
  have ne : r ≠ b := by intro e; subst e; rw [Heap.q05] at hr; cases hr
  have hr' : h r = none := by rw [Heap.q68 ne] at hr; exact hr
  refine ⟨Heap.qji (Heap.q14 (Heap.q0f _) hb _) hr _, r, b, rfl, hr', hb, ne, Heap.q05 _ _ _, ⟨#[], 0, [], by rw [Heap.q68 ne.symm, Heap.q05], rfl, List.Perm.refl _, stamped_empty _⟩, BkS.nil⟩
def Keep (r : Nat) (H H' : Heap) : Prop := ∀ k x, H k = some x → k ≠ r → H' k = some x
theorem Keep.qm1 {r : Nat} {H H' : Heap} (le : H.le H') : Keep r H H' := fun k x h _ => le k x h
theorem qb2 (E : EnvT tab) {H : Heap} {b r : Nat} {S : List Ed} (B : BookAt H b r S) (e : Ed) (h8 : e.seen.length = 8) (hc : e.con.length ≤ 9223372036854775807) (hf : e.fld.length ≤ 9223372036854775807) (hn : -9223372036854775808 ≤ e.n) (hn2 : e.n ≤ 9223372036854775807) :
    ACallN E.toEnv qeu [.pointer (some ⟨b, 0, none⟩), edV e] H fun v H' => v = .int .i64 (addB S e).2 ∧ BookAt H' b r (addB S e).1 ∧ Keep r H H' := by
  refine q3q q8s q6d rfl rfl (q01 ?_)
  unfold q6d edV
  have el := q4e h8
  simp -implicitDefEqProofs only [zA,reduceIte,reduceCtorEq,Nat.reduceEqDiff,Nat.reduceAdd,Nat.reduceMul,Nat.reduceLT,Nat.reduceSub,Int.reduceLT,Int.reduceLE,Int.reduceEq,Int.reduceNe,Int.reduceSub,Int.reduceAdd,Int.reduceMul,Int.reduceBEq,Int.reduceBNe,Int.reduceGT,Int.reduceGE,Nat.reduceGT,Int.reduceToNat,Int.reduceNeg,Nat.reduceLeDiff,Nat.reduceBEq,Nat.reduceBneDiff]
  intro b3 hb3
  try simp -implicitDefEqProofs only [zA,reduceIte,reduceCtorEq,Nat.reduceEqDiff,Nat.reduceAdd,Nat.reduceMul,Nat.reduceLT,Nat.reduceSub,Int.reduceLT,Int.reduceLE,Int.reduceEq,Int.reduceNe,Int.reduceSub,Int.reduceAdd,Int.reduceMul,Int.reduceBEq,Int.reduceBNe,Int.reduceGT,Int.reduceGE,Nat.reduceGT,Int.reduceToNat,Int.reduceNeg,Nat.reduceLeDiff,Nat.reduceBEq,Nat.reduceBneDiff]
  rw [el]
  have le3 := Heap.q14 (Heap.q0f H) hb3 (.own 0 (edC e) 15)
  have A : EdAt (H.set b3 (.own 0 (edC e) 15)) b3 e := EdAt.of (Heap.q05 _ _ _) h8
  have B3 := B.le le3
  generalize (H.set b3 (.own 0 (edC e) 15)) = G at le3 A B3
  simp -implicitDefEqProofs only [zA,reduceIte,reduceCtorEq,Nat.reduceEqDiff,Nat.reduceAdd,Nat.reduceMul,Nat.reduceLT,Nat.reduceSub,Int.reduceLT,Int.reduceLE,Int.reduceEq,Int.reduceNe,Int.reduceSub,Int.reduceAdd,Int.reduceMul,Int.reduceBEq,Int.reduceBNe,Int.reduceGT,Int.reduceGE,Nat.reduceGT,Int.reduceToNat,Int.reduceNeg,Nat.reduceLeDiff,Nat.reduceBEq,Nat.reduceBneDiff,A.all]
  refine (qg1 E G e h8 hc hf hn hn2).mono ?_
  rintro v G1 ⟨le1, rfl⟩
  have A1 := A.le h8 le1
  have B1 := B3.le le1
  have leX := Heap.q06 le3 le1
  cases hg : q84 e with
  | false =>
    have ea : addB S e = (S, 1) := by simp [addB, hg]
    rw [ea]
    simp -implicitDefEqProofs only [zA,reduceIte,reduceCtorEq,Nat.reduceEqDiff,Nat.reduceAdd,Nat.reduceMul,Nat.reduceLT,Nat.reduceSub,Int.reduceLT,Int.reduceLE,Int.reduceEq,Int.reduceNe,Int.reduceSub,Int.reduceAdd,Int.reduceMul,Int.reduceBEq,Int.reduceBNe,Int.reduceGT,Int.reduceGE,Nat.reduceGT,Int.reduceToNat,Int.reduceNeg,Nat.reduceLeDiff,Nat.reduceBEq,Nat.reduceBneDiff]
    exact ⟨B1, Keep.qm1 leX⟩
  | true =>
    obtain ⟨es, c, L, qr, en, hp, st⟩ := B1.qr
    have cb : q25 G1 ⟨b, 0, none⟩ = some (.map (some r)) := by rw [q4m B1.qb (by simp)]; rfl
    have ma : q8g G1 r = some (es, c) := by simp [q8g, qr]
    have kf : q8z (.agg [some IntKind.i64, some IntKind.i64]) (.agg #[Value.int .i64 e.dev, Value.int .i64 e.n]) = some () := rfl
    have hL : es.size = S.length := by
      have := congrArg List.length en
      simp only [List.length_map, Array.length_toList] at this
      rw [this, hp.length_eq]
    have hgp := qhp hp B1.ok e.dev e.n
    have fl : ∀ (d n : Int) (es : List MapEntry), q67 (.agg [some IntKind.i64, some IntKind.i64]) (.agg [Value.int .i64 d, Value.int .i64 n].toArray) es 0 = q67 KD (dotK d n) es 0 := fun _ _ _ => rfl
    unfold addB
    rw [if_pos hg]
    cases hgd : q9v S e.dev e.n with
    | none =>
      rw [hgd] at hgp
      have fv := qdb 0 en hgp
      simp -implicitDefEqProofs only [zA,reduceIte,reduceCtorEq,Nat.reduceEqDiff,Nat.reduceAdd,Nat.reduceMul,Nat.reduceLT,Nat.reduceSub,Int.reduceLT,Int.reduceLE,Int.reduceEq,Int.reduceNe,Int.reduceSub,Int.reduceAdd,Int.reduceMul,Int.reduceBEq,Int.reduceBNe,Int.reduceGT,Int.reduceGE,Nat.reduceGT,Int.reduceToNat,Int.reduceNeg,Nat.reduceLeDiff,Nat.reduceBEq,Nat.reduceBneDiff,cb,A1.dot,ma,fl,fv,kf]
      intro b5 hb5
      have s5 : q7x (G1.set b5 (.own 0 Z15 Z15.length)) 15 (.pointer (some ⟨b5, 0, none⟩)) (.agg Z15.toArray) = some (G1.set b5 (.own 0 Z15 15)) := z6z (by decide) rfl rfl rfl (by decide)
      unfold Z15 at s5
      simp -implicitDefEqProofs only [zA,reduceIte,reduceCtorEq,Nat.reduceEqDiff,Nat.reduceAdd,Nat.reduceMul,Nat.reduceLT,Nat.reduceSub,Int.reduceLT,Int.reduceLE,Int.reduceEq,Int.reduceNe,Int.reduceSub,Int.reduceAdd,Int.reduceMul,Int.reduceBEq,Int.reduceBNe,Int.reduceGT,Int.reduceGE,Nat.reduceGT,Int.reduceToNat,Int.reduceNeg,Nat.reduceLeDiff,Nat.reduceBEq,Nat.reduceBneDiff,s5]
      have le5 := Heap.q14 (Heap.q0f G1) hb5 (.own 0 (List.replicate 11 (.int .i64 0) ++ [.string .empty, .string .empty, .string .empty, .int .i64 0]) 15)
      have B5 := B1.le le5
      have qr5 := le5 _ _ qr
      have A5 := A1.le h8 le5
      have leY := Heap.q06 leX le5
      generalize (G1.set b5 (.own 0 (List.replicate 11 (.int .i64 0) ++ [.string .empty, .string .empty, .string .empty, .int .i64 0]) 15)) = G5 at le5 B5 qr5 A5 leY
      unfold q6r
      simp -implicitDefEqProofs only [zA,reduceIte,reduceCtorEq,Nat.reduceEqDiff,Nat.reduceAdd,Nat.reduceMul,Nat.reduceLT,Nat.reduceSub,Int.reduceLT,Int.reduceLE,Int.reduceEq,Int.reduceNe,Int.reduceSub,Int.reduceAdd,Int.reduceMul,Int.reduceBEq,Int.reduceBNe,Int.reduceGT,Int.reduceGE,Nat.reduceGT,Int.reduceToNat,Int.reduceNeg,Nat.reduceLeDiff,Nat.reduceBEq,Nat.reduceBneDiff]
      unfold q8n
      have cb5 : q25 G5 ⟨b, 0, none⟩ = some (.map (some r)) := by rw [q4m B5.qb (by simp)]; rfl
      have ma5 : q8g G5 r = some (es, c) := by simp [q8g, qr5]
      by_cases g5 : 500 ≤ S.length
      · have g5' : (500 : Int) ≤ (es.size : Int) := by rw [hL]; omega
        simp -implicitDefEqProofs only [zA,reduceIte,reduceCtorEq,Nat.reduceEqDiff,Nat.reduceAdd,Nat.reduceMul,Nat.reduceLT,Nat.reduceSub,Int.reduceLT,Int.reduceLE,Int.reduceEq,Int.reduceNe,Int.reduceSub,Int.reduceAdd,Int.reduceMul,Int.reduceBEq,Int.reduceBNe,Int.reduceGT,Int.reduceGE,Nat.reduceGT,Int.reduceToNat,Int.reduceNeg,Nat.reduceLeDiff,Nat.reduceBEq,Nat.reduceBneDiff,cb5,ma5,g5',g5]
        exact ⟨fun _ _ => trivial, B5, Keep.qm1 leY⟩
      · have g5' : ¬ (500 : Int) ≤ (es.size : Int) := by rw [hL]; omega
        have mu : ql3 G5 (.agg [some IntKind.i64, some IntKind.i64]) (.map (some r)) (.agg [Value.int .i64 e.dev, Value.int .i64 e.n].toArray) (.agg (edC e).toArray) = some (G5.set r (.obj (.map (es.push { key := dotV e, val := edV e, born := c }) (c + 1)))) := by
          simp only [ql3, qr5, kf, fl, fv]
          rfl
        simp -implicitDefEqProofs only [zA,reduceIte,reduceCtorEq,Nat.reduceEqDiff,Nat.reduceAdd,Nat.reduceMul,Nat.reduceLT,Nat.reduceSub,Int.reduceLT,Int.reduceLE,Int.reduceEq,Int.reduceNe,Int.reduceSub,Int.reduceAdd,Int.reduceMul,Int.reduceBEq,Int.reduceBNe,Int.reduceGT,Int.reduceGE,Nat.reduceGT,Int.reduceToNat,Int.reduceNeg,Nat.reduceLeDiff,Nat.reduceBEq,Nat.reduceBneDiff,cb5,ma5,g5',g5,A5.dot,A5.all,mu]
        refine ⟨fun _ _ => trivial, ⟨B5.ne, by rw [Heap.q68 B5.ne]; exact B5.qb, ⟨_, _, L ++ [e], Heap.q05 _ _ _, ?_, ?_, ?_⟩, B5.ok.ins hg h8 hgd g5⟩, fun k x hx hk => ?_⟩
        · unfold EntB at en ⊢
          rw [Array.toList_push, List.map_append, List.map_append, en]
          rfl
        · refine List.Perm.trans ?_ (q81 q46 e S).symm
          exact (List.perm_append_comm).trans (hp.cons e)
        · refine stamped_push st fun x hx hke => ?_
          have h1 : (x.key, x.val) ∈ es.toList.map (fun e => (e.key, e.val)) := List.mem_map_of_mem hx
          unfold EntB at en
          rw [en] at h1
          obtain ⟨y, hy, he⟩ := List.mem_map.1 h1
          simp only [Prod.mk.injEq] at he
          rw [q9g] at hgp
          have h2 : dotV y = dotV e := by rw [he.1]; exact hke
          simp only [dotV, Value.agg.injEq] at h2
          refine hgp y hy ?_
          simpa using h2
        · rw [Heap.q68 hk]; exact leY k x hx
    | some old =>
      rw [hgd] at hgp
      obtain ⟨j, fv⟩ := qda 0 en hgp
      have ho8 : old.seen.length = 8 := B1.ok.h8 old (getD_some hgd).1
      unfold edV at fv
      simp -implicitDefEqProofs only [zA,reduceIte,reduceCtorEq,Nat.reduceEqDiff,Nat.reduceAdd,Nat.reduceMul,Nat.reduceLT,Nat.reduceSub,Int.reduceLT,Int.reduceLE,Int.reduceEq,Int.reduceNe,Int.reduceSub,Int.reduceAdd,Int.reduceMul,Int.reduceBEq,Int.reduceBNe,Int.reduceGT,Int.reduceGE,Nat.reduceGT,Int.reduceToNat,Int.reduceNeg,Nat.reduceLeDiff,Nat.reduceBEq,Nat.reduceBneDiff,cb,A1.dot,ma,fl,fv,kf]
      intro b5 hb5
      have s5 := stE G1 b5 ho8
      unfold Z15 at s5
      simp -implicitDefEqProofs only [zA,reduceIte,reduceCtorEq,Nat.reduceEqDiff,Nat.reduceAdd,Nat.reduceMul,Nat.reduceLT,Nat.reduceSub,Int.reduceLT,Int.reduceLE,Int.reduceEq,Int.reduceNe,Int.reduceSub,Int.reduceAdd,Int.reduceMul,Int.reduceBEq,Int.reduceBNe,Int.reduceGT,Int.reduceGE,Nat.reduceGT,Int.reduceToNat,Int.reduceNeg,Nat.reduceLeDiff,Nat.reduceBEq,Nat.reduceBneDiff,s5]
      have le5 := Heap.q14 (Heap.q0f G1) hb5 (.own 0 (edC old) 15)
      have O5 : EdAt (G1.set b5 (.own 0 (edC old) 15)) b5 old := EdAt.of (Heap.q05 _ _ _) ho8
      have B5 := B1.le le5
      have A5 := A1.le h8 le5
      have leY := Heap.q06 leX le5
      generalize (G1.set b5 (.own 0 (edC old) 15)) = G5 at le5 B5 O5 A5 leY
      unfold q6r
      have k1 := qex old ho8
      have k2 := qex e h8
      have k3 := qii old e ho8 h8
      by_cases oe : old = e
      · subst oe
        have k3' : q0k (edC old) (edC old) = true := by rw [k3]; simp
        simp -implicitDefEqProofs only [zA,reduceIte,reduceCtorEq,Nat.reduceEqDiff,Nat.reduceAdd,Nat.reduceMul,Nat.reduceLT,Nat.reduceSub,Int.reduceLT,Int.reduceLE,Int.reduceEq,Int.reduceNe,Int.reduceSub,Int.reduceAdd,Int.reduceMul,Int.reduceBEq,Int.reduceBNe,Int.reduceGT,Int.reduceGE,Nat.reduceGT,Int.reduceToNat,Int.reduceNeg,Nat.reduceLeDiff,Nat.reduceBEq,Nat.reduceBneDiff,O5.all,A5.all,k1,k2,k3']
        exact ⟨fun _ _ => trivial, B5, Keep.qm1 leY⟩
      · have k3' : q0k (edC old) (edC e) = false := by rw [k3]; simp [oe]
        simp -implicitDefEqProofs only [zA,reduceIte,reduceCtorEq,Nat.reduceEqDiff,Nat.reduceAdd,Nat.reduceMul,Nat.reduceLT,Nat.reduceSub,Int.reduceLT,Int.reduceLE,Int.reduceEq,Int.reduceNe,Int.reduceSub,Int.reduceAdd,Int.reduceMul,Int.reduceBEq,Int.reduceBNe,Int.reduceGT,Int.reduceGE,Nat.reduceGT,Int.reduceToNat,Int.reduceNeg,Nat.reduceLeDiff,Nat.reduceBEq,Nat.reduceBneDiff,O5.all,A5.all,k1,k2,k3',oe]
        exact ⟨fun _ _ => trivial, B5, Keep.qm1 leY⟩
end Go.Bb
namespace Go.Bb
set_option linter.unusedSimpArgs false
set_option linter.unusedVariables false
set_option maxRecDepth 20000
set_option maxHeartbeats 2000000
open Go.MapKept
abbrev Str := List UInt8
def q85 (l : List Str) : List Str := l.mergeSort fun x y => decide (x ≤ y)
theorem qd4 (l : List Str) : (q85 l).length = l.length := by simp [q85]
theorem qkh (E : EnvT tab) (K : BkOk E) {h0 H : Heap} {v : Value} {L : List Str} (s : Ow h0 H 1 v L.length (L.map strV)) (hl : L.length ≤ 100000) :
    ACallN E.toEnv q21 [v] H fun r H' => Ow h0 H' 1 v (q85 L).length ((q85 L).map strV) ∧ (∀ b, h0 b ≠ none → H' b = H b) := by
  rcases s with ⟨rfl, hn, hc⟩ | ⟨b, o, c, sz, st, pre, rest, rfl, h2, h3, h4, h5, h6, h7⟩
  · have : L = [] := List.eq_nil_of_length_eq_zero hn
    subst this
    refine (qjl E H).mono ?_
    rintro r H' rfl
    exact ⟨by simp [q85]; exact Ow.nil _ _ _, fun _ _ => rfl⟩
  · intro f hf
    rw [K.f49] at hf
    cases hf
    refine qgf E.toEnv K.P L h4 h5 hl ?_
    refine ⟨.inr ⟨b, o, c, sz, st, pre, rest, by rw [qd4], by rw [qd4]; exact h2, h3, by rw [Heap.q05]; rfl, h5, by simp, h7⟩, fun k hk => ?_⟩
    rw [Heap.q68 (fun e => hk (by rw [e]; exact h3))]
theorem qhz (E : EnvT tab) (K : BkOk E) {h0 H : Heap} {v : Value} {L : List Str} (s : Ow h0 H 1 v L.length (L.map strV)) (hl : L.length ≤ 100000) :
    ACallN E.toEnv q3r [v] H fun r H' => Ow h0 H' 1 r (Lib.compact L).length ((Lib.compact L).map strV) ∧ (∀ b, h0 b ≠ none → H' b = H b) := by
  rcases s with ⟨rfl, hn, hc⟩ | ⟨b, o, c, sz, st, pre, rest, rfl, h2, h3, h4, h5, h6, h7⟩
  · have : L = [] := List.eq_nil_of_length_eq_zero hn
    subst this
    intro f hf
    rw [K.f50] at hf
    cases hf
    exact qfs E.toEnv K.P ⟨Ow.nil _ _ _, fun _ _ => rfl⟩
  · intro f hf
    rw [K.f50] at hf
    cases hf
    have hle := Lib.compact_length_le L
    refine qe9 E.toEnv K.P L h4 h5 hl h2 ?_
    refine ⟨.inr ⟨b, o, c, sz, st, pre, List.replicate (L.length - (Lib.compact L).length) (strV []) ++ rest, rfl, by omega, h3, by rw [Heap.q05]; simp, h5, by simp, h7⟩, fun k hk => ?_⟩
    rw [Heap.q68 (fun e => hk (by rw [e]; exact h3))]
def uniqS (l : List Str) : List Str := Lib.compact (q85 l)
theorem qhs {H H1 H2 : Heap} (le : H.le H1) (k : ∀ b, H b ≠ none → H2 b = H1 b) : H.le H2 := fun b x h => by
  rw [k b (by rw [h]; simp)]; exact le b x h
def allB (S : List Ed) (con fld : Str) : List Str := ((qa4 S).filter fun e => decide (e.con = con) && decide (e.fld = fld)).map (·.val)
theorem qew (S : List Ed) : (qa4 S).length ≤ S.length := by
  unfold qa4
  rw [(q99 _ _).length_eq]
  exact List.length_filter_le _ _
theorem qj6 {S : List Ed} (ok : BkS S) : ∀ e ∈ qa4 S, e.seen.length = 8 := fun e he => ok.h8 e (qev.1 he).1
theorem qdd (E : EnvT tab) (K : BkOk E) {H : Heap} {b r : Nat} {S : List Ed} (B : BookAt H b r S) (con fld : Str) :
    ACallN E.toEnv qet [.pointer (some ⟨b, 0, none⟩), strV con, strV fld] H fun v H' => H.le H' ∧ Ow H H' 1 v (allB S con fld).length ((allB S con fld).map strV) := by
  refine q3q q8r q6c rfl rfl (q01 ?_)
  unfold q6c
  have hS := B.ok.len
  have hl := qew S
  have h8 := qj6 B.ok
  simp -implicitDefEqProofs only [zA,reduceIte,reduceCtorEq,Nat.reduceEqDiff,Nat.reduceAdd,Nat.reduceMul,Nat.reduceLT,Nat.reduceSub,Int.reduceLT,Int.reduceLE,Int.reduceEq,Int.reduceNe,Int.reduceSub,Int.reduceAdd,Int.reduceMul,Int.reduceBEq,Int.reduceBNe,Int.reduceGT,Int.reduceGE,Nat.reduceGT,Int.reduceToNat,Int.reduceNeg,Nat.reduceLeDiff,Nat.reduceBEq,Nat.reduceBneDiff]
  refine (qfe E K B).mono ?_
  rintro v H1 ⟨le1, ow1⟩
  have sl1 := ow1.sl
  obtain ⟨base, c, rfl⟩ := sl1.shape
  unfold allB
  generalize qa4 S = L at hl h8 ow1 sl1 ⊢
  simp -implicitDefEqProofs only [zA,reduceIte,reduceCtorEq,Nat.reduceEqDiff,Nat.reduceAdd,Nat.reduceMul,Nat.reduceLT,Nat.reduceSub,Int.reduceLT,Int.reduceLE,Int.reduceEq,Int.reduceNe,Int.reduceSub,Int.reduceAdd,Int.reduceMul,Int.reduceBEq,Int.reduceBNe,Int.reduceGT,Int.reduceGE,Nat.reduceGT,Int.reduceToNat,Int.reduceNeg,Nat.reduceLeDiff,Nat.reduceBEq,Nat.reduceBneDiff]
  refine q2l (fun m t G => H1.le G ∧ ∃ (i : Nat) (vl : Value), t = tl [(1, strV con), (2, strV fld), (7, vl), (11, .slice base L.length c), (12, .int .i64 L.length), (13, .int .i64 i)] ∧ i ≤ L.length ∧ m = L.length - i ∧ Ow H1 G 1 vl (((L.take i).filter fun e => decide (e.con = con) && decide (e.fld = fld)).map (·.val)).length ((((L.take i).filter fun e => decide (e.con = con) && decide (e.fld = fld)).map (·.val)).map strV)) L.length
    ⟨Heap.q0f _, 0, _, rfl, by omega, by omega, Ow.nil _ _ _⟩ ?_
  rintro m t G ⟨le, i, vl, rfl, hi, rfl, ow⟩
  by_cases hlt : i < L.length
  · obtain ⟨bs, o, c', hv, hc, q25⟩ := sl1.edAt h8 i hlt
    simp only [Value.slice.injEq, true_and] at hv
    obtain ⟨rfl, rfl⟩ := hv
    have hi1 : (i : Int) < L.length := by omega
    have hi2 : (0 : Int) ≤ i := by omega
    have w1 : IntKind.i64.wrap ((i : Int) + 1) = ((i + 1 : Nat) : Int) := qcq (by omega)
    have hi3 := q25 _ le
    have hx := h8 L[i] (List.getElem_mem hlt)
    have et : L.take (i + 1) = L.take i ++ [L[i]] := List.take_succ_eq_append_getElem hlt
    generalize L[i] = y at hi3 hx et
    simp -implicitDefEqProofs only [zA,reduceIte,reduceCtorEq,Nat.reduceEqDiff,Nat.reduceAdd,Nat.reduceMul,Nat.reduceLT,Nat.reduceSub,Int.reduceLT,Int.reduceLE,Int.reduceEq,Int.reduceNe,Int.reduceSub,Int.reduceAdd,Int.reduceMul,Int.reduceBEq,Int.reduceBNe,Int.reduceGT,Int.reduceGE,Nat.reduceGT,Int.reduceToNat,Int.reduceNeg,Nat.reduceLeDiff,Nat.reduceBEq,Nat.reduceBneDiff,hi1]
    unfold q8m
    simp -implicitDefEqProofs only [zA,reduceIte,reduceCtorEq,Nat.reduceEqDiff,Nat.reduceAdd,Nat.reduceMul,Nat.reduceLT,Nat.reduceSub,Int.reduceLT,Int.reduceLE,Int.reduceEq,Int.reduceNe,Int.reduceSub,Int.reduceAdd,Int.reduceMul,Int.reduceBEq,Int.reduceBNe,Int.reduceGT,Int.reduceGE,Nat.reduceGT,Int.reduceToNat,Int.reduceNeg,Nat.reduceLeDiff,Nat.reduceBEq,Nat.reduceBneDiff,hi1,hi2,Int.toNat_natCast,hi3]
    intro b6 hb6
    have s6 := stE G b6 hx
    unfold Z15 at s6
    try simp -implicitDefEqProofs only [zA,reduceIte,reduceCtorEq,Nat.reduceEqDiff,Nat.reduceAdd,Nat.reduceMul,Nat.reduceLT,Nat.reduceSub,Int.reduceLT,Int.reduceLE,Int.reduceEq,Int.reduceNe,Int.reduceSub,Int.reduceAdd,Int.reduceMul,Int.reduceBEq,Int.reduceBNe,Int.reduceGT,Int.reduceGE,Nat.reduceGT,Int.reduceToNat,Int.reduceNeg,Nat.reduceLeDiff,Nat.reduceBEq,Nat.reduceBneDiff,s6]
    have le6 : G.le (G.set b6 (.own 0 (edC y) 15)) := Heap.q14 (Heap.q0f _) hb6 _
    have A : EdAt (G.set b6 (.own 0 (edC y) 15)) b6 y := EdAt.of (Heap.q05 _ _ _) hx
    have ow6 := ow.le le6
    have leB := Heap.q06 le le6
    generalize (G.set b6 (.own 0 (edC y) 15)) = G6 at le6 A ow6 leB
    have e1 := qgc y.con con
    have e2 := qgc y.fld fld
    have hn : ((L.take i).filter fun e => decide (e.con = con) && decide (e.fld = fld)).length ≤ i := by
      have := List.length_filter_le (fun e : Ed => decide (e.con = con) && decide (e.fld = fld)) (L.take i)
      rw [List.length_take] at this; omega
    have no : (decide (y.con = con) && decide (y.fld = fld)) = false → Ow H1 G6 1 vl (((L.take (i + 1)).filter fun e => decide (e.con = con) && decide (e.fld = fld)).map (·.val)).length ((((L.take (i + 1)).filter fun e => decide (e.con = con) && decide (e.fld = fld)).map (·.val)).map strV) := fun h => by
      rw [et, List.filter_append]
      simp only [List.filter_cons, h, List.filter_nil, List.append_nil, Bool.false_eq_true, if_false]
      exact ow6
    by_cases g1 : y.con = con
    · rw [decide_eq_true g1] at e1
      by_cases g2 : y.fld = fld
      · rw [decide_eq_true g2] at e2
        simp -implicitDefEqProofs only [zA,reduceIte,reduceCtorEq,Nat.reduceEqDiff,Nat.reduceAdd,Nat.reduceMul,Nat.reduceLT,Nat.reduceSub,Int.reduceLT,Int.reduceLE,Int.reduceEq,Int.reduceNe,Int.reduceSub,Int.reduceAdd,Int.reduceMul,Int.reduceBEq,Int.reduceBNe,Int.reduceGT,Int.reduceGE,Nat.reduceGT,Int.reduceToNat,Int.reduceNeg,Nat.reduceLeDiff,Nat.reduceBEq,Nat.reduceBneDiff,A.con,e1,A.fld,e2,A.val]
        intro b8 hb8
        try simp -implicitDefEqProofs only [zA,reduceIte,reduceCtorEq,Nat.reduceEqDiff,Nat.reduceAdd,Nat.reduceMul,Nat.reduceLT,Nat.reduceSub,Int.reduceLT,Int.reduceLE,Int.reduceEq,Int.reduceNe,Int.reduceSub,Int.reduceAdd,Int.reduceMul,Int.reduceBEq,Int.reduceBNe,Int.reduceGT,Int.reduceGE,Nat.reduceGT,Int.reduceToNat,Int.reduceNeg,Nat.reduceLeDiff,Nat.reduceBEq,Nat.reduceBneDiff]
        have le8 := Heap.q14 (Heap.q0f G6) hb8 (.own 0 [strV y.val] 1)
        refine qdf (bytes := 16) (m := 1) (news := [strV y.val]) (Heap.q06 leB le8) (by decide) (ow6.le le8) (Sl.lit (n := 1) rfl) rfl (by rw [List.length_map]; omega) (by rw [List.length_map]; omega) ?_
        intro v' h' ow9 le9
        simp -implicitDefEqProofs only [zA,reduceIte,reduceCtorEq,Nat.reduceEqDiff,Nat.reduceAdd,Nat.reduceMul,Nat.reduceLT,Nat.reduceSub,Int.reduceLT,Int.reduceLE,Int.reduceEq,Int.reduceNe,Int.reduceSub,Int.reduceAdd,Int.reduceMul,Int.reduceBEq,Int.reduceBNe,Int.reduceGT,Int.reduceGE,Nat.reduceGT,Int.reduceToNat,Int.reduceNeg,Nat.reduceLeDiff,Nat.reduceBEq,Nat.reduceBneDiff,w1]
        refine ⟨_, ?_, le9, i + 1, v', rfl, by omega, rfl, ?_⟩
        · omega
        · rw [et, List.filter_append]
          simp only [List.filter_cons, g1, g2, decide_true, Bool.and_self, if_true, List.filter_nil, List.map_append, List.length_append, List.map_cons, List.map_nil, List.length_cons, List.length_nil]
          simpa using ow9
      · rw [decide_eq_false g2] at e2
        simp -implicitDefEqProofs only [zA,reduceIte,reduceCtorEq,Nat.reduceEqDiff,Nat.reduceAdd,Nat.reduceMul,Nat.reduceLT,Nat.reduceSub,Int.reduceLT,Int.reduceLE,Int.reduceEq,Int.reduceNe,Int.reduceSub,Int.reduceAdd,Int.reduceMul,Int.reduceBEq,Int.reduceBNe,Int.reduceGT,Int.reduceGE,Nat.reduceGT,Int.reduceToNat,Int.reduceNeg,Nat.reduceLeDiff,Nat.reduceBEq,Nat.reduceBneDiff,A.con,e1,A.fld,e2,w1]
        refine ⟨_, ?_, leB, i + 1, vl, rfl, by omega, rfl, no (by simp [g2])⟩
        omega
    · rw [decide_eq_false g1] at e1
      simp -implicitDefEqProofs only [zA,reduceIte,reduceCtorEq,Nat.reduceEqDiff,Nat.reduceAdd,Nat.reduceMul,Nat.reduceLT,Nat.reduceSub,Int.reduceLT,Int.reduceLE,Int.reduceEq,Int.reduceNe,Int.reduceSub,Int.reduceAdd,Int.reduceMul,Int.reduceBEq,Int.reduceBNe,Int.reduceGT,Int.reduceGE,Nat.reduceGT,Int.reduceToNat,Int.reduceNeg,Nat.reduceLeDiff,Nat.reduceBEq,Nat.reduceBneDiff,A.con,e1,w1]
      refine ⟨_, ?_, leB, i + 1, vl, rfl, by omega, rfl, no (by simp [g1])⟩
      omega
  · have hi1 : ¬ (i : Int) < L.length := by omega
    have e : i = L.length := by omega
    subst e
    rw [List.take_length] at ow
    simp -implicitDefEqProofs only [zA,reduceIte,reduceCtorEq,Nat.reduceEqDiff,Nat.reduceAdd,Nat.reduceMul,Nat.reduceLT,Nat.reduceSub,Int.reduceLT,Int.reduceLE,Int.reduceEq,Int.reduceNe,Int.reduceSub,Int.reduceAdd,Int.reduceMul,Int.reduceBEq,Int.reduceBNe,Int.reduceGT,Int.reduceGE,Nat.reduceGT,Int.reduceToNat,Int.reduceNeg,Nat.reduceLeDiff,Nat.reduceBEq,Nat.reduceBneDiff,hi1]
    exact ⟨Heap.q06 le1 le, ow.since le1⟩
def qah (S : List Ed) : List Str := uniqS ((qa4 S).map (·.con))
theorem qff (E : EnvT tab) (K : BkOk E) {H : Heap} {b r : Nat} {S : List Ed} (B : BookAt H b r S) :
    ACallN E.toEnv qb7 [.pointer (some ⟨b, 0, none⟩)] H fun v H' => H.le H' ∧ Ow H H' 1 v (qah S).length ((qah S).map strV) := by
  refine q3q q5p q2y rfl rfl (q01 ?_)
  unfold q2y
  have hS := B.ok.len
  have hl := qew S
  have h8 := qj6 B.ok
  simp -implicitDefEqProofs only [zA,reduceIte,reduceCtorEq,Nat.reduceEqDiff,Nat.reduceAdd,Nat.reduceMul,Nat.reduceLT,Nat.reduceSub,Int.reduceLT,Int.reduceLE,Int.reduceEq,Int.reduceNe,Int.reduceSub,Int.reduceAdd,Int.reduceMul,Int.reduceBEq,Int.reduceBNe,Int.reduceGT,Int.reduceGE,Nat.reduceGT,Int.reduceToNat,Int.reduceNeg,Nat.reduceLeDiff,Nat.reduceBEq,Nat.reduceBneDiff]
  unfold q7g
  simp -implicitDefEqProofs only [zA,reduceIte,reduceCtorEq,Nat.reduceEqDiff,Nat.reduceAdd,Nat.reduceMul,Nat.reduceLT,Nat.reduceSub,Int.reduceLT,Int.reduceLE,Int.reduceEq,Int.reduceNe,Int.reduceSub,Int.reduceAdd,Int.reduceMul,Int.reduceBEq,Int.reduceBNe,Int.reduceGT,Int.reduceGE,Nat.reduceGT,Int.reduceToNat,Int.reduceNeg,Nat.reduceLeDiff,Nat.reduceBEq,Nat.reduceBneDiff]
  refine (qfe E K B).mono ?_
  rintro v H1 ⟨le1, ow1⟩
  have sl1 := ow1.sl
  obtain ⟨base, c, rfl⟩ := sl1.shape
  unfold qah
  generalize qa4 S = L at hl h8 ow1 sl1 ⊢
  simp -implicitDefEqProofs only [zA,reduceIte,reduceCtorEq,Nat.reduceEqDiff,Nat.reduceAdd,Nat.reduceMul,Nat.reduceLT,Nat.reduceSub,Int.reduceLT,Int.reduceLE,Int.reduceEq,Int.reduceNe,Int.reduceSub,Int.reduceAdd,Int.reduceMul,Int.reduceBEq,Int.reduceBNe,Int.reduceGT,Int.reduceGE,Nat.reduceGT,Int.reduceToNat,Int.reduceNeg,Nat.reduceLeDiff,Nat.reduceBEq,Nat.reduceBneDiff]
  refine q2l (fun m t G => H1.le G ∧ ∃ (i : Nat) (vl : Value), t = tl [(3, vl), (7, .slice base L.length c), (8, .int .i64 L.length), (9, .int .i64 i)] ∧ i ≤ L.length ∧ m = L.length - i ∧ Ow H1 G 1 vl ((L.take i).map (·.con)).length (((L.take i).map (·.con)).map strV)) L.length
    ⟨Heap.q0f _, 0, _, rfl, by omega, by omega, Ow.nil _ _ _⟩ ?_
  rintro m t G ⟨le, i, vl, rfl, hi, rfl, ow⟩
  by_cases hlt : i < L.length
  · obtain ⟨bs, o, c', hv, hc, q25⟩ := sl1.edAt h8 i hlt
    simp only [Value.slice.injEq, true_and] at hv
    obtain ⟨rfl, rfl⟩ := hv
    have hi1 : (i : Int) < L.length := by omega
    have hi2 : (0 : Int) ≤ i := by omega
    have w1 : IntKind.i64.wrap ((i : Int) + 1) = ((i + 1 : Nat) : Int) := qcq (by omega)
    have hi3 := q25 _ le
    have hx := h8 L[i] (List.getElem_mem hlt)
    have et : L.take (i + 1) = L.take i ++ [L[i]] := List.take_succ_eq_append_getElem hlt
    generalize L[i] = y at hi3 hx et
    simp -implicitDefEqProofs only [zA,reduceIte,reduceCtorEq,Nat.reduceEqDiff,Nat.reduceAdd,Nat.reduceMul,Nat.reduceLT,Nat.reduceSub,Int.reduceLT,Int.reduceLE,Int.reduceEq,Int.reduceNe,Int.reduceSub,Int.reduceAdd,Int.reduceMul,Int.reduceBEq,Int.reduceBNe,Int.reduceGT,Int.reduceGE,Nat.reduceGT,Int.reduceToNat,Int.reduceNeg,Nat.reduceLeDiff,Nat.reduceBEq,Nat.reduceBneDiff,hi1,hi2,Int.toNat_natCast,hi3]
    intro b6 hb6
    have s6 := stE G b6 hx
    unfold Z15 at s6
    try simp -implicitDefEqProofs only [zA,reduceIte,reduceCtorEq,Nat.reduceEqDiff,Nat.reduceAdd,Nat.reduceMul,Nat.reduceLT,Nat.reduceSub,Int.reduceLT,Int.reduceLE,Int.reduceEq,Int.reduceNe,Int.reduceSub,Int.reduceAdd,Int.reduceMul,Int.reduceBEq,Int.reduceBNe,Int.reduceGT,Int.reduceGE,Nat.reduceGT,Int.reduceToNat,Int.reduceNeg,Nat.reduceLeDiff,Nat.reduceBEq,Nat.reduceBneDiff,s6]
    have le6 : G.le (G.set b6 (.own 0 (edC y) 15)) := Heap.q14 (Heap.q0f _) hb6 _
    have A : EdAt (G.set b6 (.own 0 (edC y) 15)) b6 y := EdAt.of (Heap.q05 _ _ _) hx
    have ow6 := ow.le le6
    have leB := Heap.q06 le le6
    generalize (G.set b6 (.own 0 (edC y) 15)) = G6 at le6 A ow6 leB
    have hn : (L.take i).length ≤ i := by rw [List.length_take]; omega
    · · simp -implicitDefEqProofs only [zA,reduceIte,reduceCtorEq,Nat.reduceEqDiff,Nat.reduceAdd,Nat.reduceMul,Nat.reduceLT,Nat.reduceSub,Int.reduceLT,Int.reduceLE,Int.reduceEq,Int.reduceNe,Int.reduceSub,Int.reduceAdd,Int.reduceMul,Int.reduceBEq,Int.reduceBNe,Int.reduceGT,Int.reduceGE,Nat.reduceGT,Int.reduceToNat,Int.reduceNeg,Nat.reduceLeDiff,Nat.reduceBEq,Nat.reduceBneDiff,A.con]
        intro b8 hb8
        try simp -implicitDefEqProofs only [zA,reduceIte,reduceCtorEq,Nat.reduceEqDiff,Nat.reduceAdd,Nat.reduceMul,Nat.reduceLT,Nat.reduceSub,Int.reduceLT,Int.reduceLE,Int.reduceEq,Int.reduceNe,Int.reduceSub,Int.reduceAdd,Int.reduceMul,Int.reduceBEq,Int.reduceBNe,Int.reduceGT,Int.reduceGE,Nat.reduceGT,Int.reduceToNat,Int.reduceNeg,Nat.reduceLeDiff,Nat.reduceBEq,Nat.reduceBneDiff]
        have le8 := Heap.q14 (Heap.q0f G6) hb8 (.own 0 [strV y.con] 1)
        refine qdf (bytes := 16) (m := 1) (news := [strV y.con]) (Heap.q06 leB le8) (by decide) (ow6.le le8) (Sl.lit (n := 1) rfl) rfl (by rw [List.length_map]; omega) (by rw [List.length_map]; omega) ?_
        intro v' h' ow9 le9
        simp -implicitDefEqProofs only [zA,reduceIte,reduceCtorEq,Nat.reduceEqDiff,Nat.reduceAdd,Nat.reduceMul,Nat.reduceLT,Nat.reduceSub,Int.reduceLT,Int.reduceLE,Int.reduceEq,Int.reduceNe,Int.reduceSub,Int.reduceAdd,Int.reduceMul,Int.reduceBEq,Int.reduceBNe,Int.reduceGT,Int.reduceGE,Nat.reduceGT,Int.reduceToNat,Int.reduceNeg,Nat.reduceLeDiff,Nat.reduceBEq,Nat.reduceBneDiff,w1]
        refine ⟨_, ?_, le9, i + 1, v', rfl, by omega, rfl, ?_⟩
        · omega
        · rw [et]
          simp only [List.map_append, List.length_append, List.map_cons, List.map_nil, List.length_cons, List.length_nil]
          simpa using ow9
  · have hi1 : ¬ (i : Int) < L.length := by omega
    have e : i = L.length := by omega
    subst e
    rw [List.take_length] at ow
    have hn2 : L.length ≤ L.length := Nat.le_refl _
    simp -implicitDefEqProofs only [zA,reduceIte,reduceCtorEq,Nat.reduceEqDiff,Nat.reduceAdd,Nat.reduceMul,Nat.reduceLT,Nat.reduceSub,Int.reduceLT,Int.reduceLE,Int.reduceEq,Int.reduceNe,Int.reduceSub,Int.reduceAdd,Int.reduceMul,Int.reduceBEq,Int.reduceBNe,Int.reduceGT,Int.reduceGE,Nat.reduceGT,Int.reduceToNat,Int.reduceNeg,Nat.reduceLeDiff,Nat.reduceBEq,Nat.reduceBneDiff,hi1]
    refine (qkh E K ow (by rw [List.length_map]; omega)).mono ?_
    rintro u H2 ⟨ow2, k2⟩
    have leU := qhs le k2
    simp -implicitDefEqProofs only [zA,reduceIte,reduceCtorEq,Nat.reduceEqDiff,Nat.reduceAdd,Nat.reduceMul,Nat.reduceLT,Nat.reduceSub,Int.reduceLT,Int.reduceLE,Int.reduceEq,Int.reduceNe,Int.reduceSub,Int.reduceAdd,Int.reduceMul,Int.reduceBEq,Int.reduceBNe,Int.reduceGT,Int.reduceGE,Nat.reduceGT,Int.reduceToNat,Int.reduceNeg,Nat.reduceLeDiff,Nat.reduceBEq,Nat.reduceBneDiff]
    refine (qhz E K ow2 (by rw [qd4, List.length_map]; omega)).mono ?_
    rintro u H3 ⟨ow3, k3⟩
    have leV := qhs leU k3
    simp -implicitDefEqProofs only [zA,reduceIte,reduceCtorEq,Nat.reduceEqDiff,Nat.reduceAdd,Nat.reduceMul,Nat.reduceLT,Nat.reduceSub,Int.reduceLT,Int.reduceLE,Int.reduceEq,Int.reduceNe,Int.reduceSub,Int.reduceAdd,Int.reduceMul,Int.reduceBEq,Int.reduceBNe,Int.reduceGT,Int.reduceGE,Nat.reduceGT,Int.reduceToNat,Int.reduceNeg,Nat.reduceLeDiff,Nat.reduceBEq,Nat.reduceBneDiff]
    exact ⟨Heap.q06 le1 leV, ow3.since le1⟩
theorem qi3 (E : EnvT tab) (K : BkOk E) {H : Heap} {b r : Nat} {S : List Ed} (B : BookAt H b r S) (con fld : Str) :
    ACallN E.toEnv qd2 [.pointer (some ⟨b, 0, none⟩), strV con, strV fld] H fun v H' => H.le H' ∧ v = .tuple #[strV ((allB S con fld).getLastD []), .bool (decide (allB S con fld ≠ []))] := by
  refine q3q q7u q4j rfl rfl (q01 ?_)
  unfold q4j
  simp -implicitDefEqProofs only [zA,reduceIte,reduceCtorEq,Nat.reduceEqDiff,Nat.reduceAdd,Nat.reduceMul,Nat.reduceLT,Nat.reduceSub,Int.reduceLT,Int.reduceLE,Int.reduceEq,Int.reduceNe,Int.reduceSub,Int.reduceAdd,Int.reduceMul,Int.reduceBEq,Int.reduceBNe,Int.reduceGT,Int.reduceGE,Nat.reduceGT,Int.reduceToNat,Int.reduceNeg,Nat.reduceLeDiff,Nat.reduceBEq,Nat.reduceBneDiff]
  refine (qdd E K B con fld).mono ?_
  rintro v H1 ⟨le1, ow⟩
  have sl := ow.sl
  have hl : (allB S con fld).length ≤ 500 := by
    have h1 := qew S
    have h2 := B.ok.len
    unfold allB
    rw [List.length_map]
    have := List.length_filter_le (fun e : Ed => decide (e.con = con) && decide (e.fld = fld)) (qa4 S)
    omega
  generalize allB S con fld = L at ow sl hl ⊢
  obtain ⟨base, c, rfl⟩ := sl.shape
  by_cases h0 : L = []
  · subst h0
    simp -implicitDefEqProofs only [zA,reduceIte,reduceCtorEq,Nat.reduceEqDiff,Nat.reduceAdd,Nat.reduceMul,Nat.reduceLT,Nat.reduceSub,Int.reduceLT,Int.reduceLE,Int.reduceEq,Int.reduceNe,Int.reduceSub,Int.reduceAdd,Int.reduceMul,Int.reduceBEq,Int.reduceBNe,Int.reduceGT,Int.reduceGE,Nat.reduceGT,Int.reduceToNat,Int.reduceNeg,Nat.reduceLeDiff,Nat.reduceBEq,Nat.reduceBneDiff,List.length_nil]
    exact ⟨le1, rfl⟩
  · have hp : 0 < L.length := List.length_pos_iff.2 h0
    have h1 : ¬ ((L.length : Int) = 0) := by omega
    have w1 : IntKind.i64.wrap ((L.length : Int) - 1) = ((L.length - 1 : Nat) : Int) := by
      have e : ((L.length : Int) - 1) = ((L.length - 1 : Nat) : Int) := by omega
      rw [e]
      exact wrapI (by omega) (by omega)
    rw [← q97 strV L] at sl
    obtain ⟨bs, o, c', hv, hc, q25⟩ := Sl.at (f := fun s => [strV s]) (fun _ => rfl) sl (L.length - 1) (by omega) (by decide)
    simp only [Value.slice.injEq, true_and] at hv
    obtain ⟨rfl, rfl⟩ := hv
    have hi1 : ((L.length - 1 : Nat) : Int) < L.length := by omega
    have hi2 : (0 : Int) ≤ ((L.length - 1 : Nat) : Int) := by omega
    have h3 := q25 H1 (Heap.q0f _)
    have hi3 := qgp h3 0 Nat.zero_lt_one
    simp only [List.getElem?_cons_zero, Nat.mul_one, Nat.add_zero] at hi3
    have e1 : L.getLastD [] = L[L.length - 1] := by
      rw [List.getLastD_eq_getLast?, List.getLast?_eq_getElem?, List.getElem?_eq_getElem (by omega)]; rfl
    rw [e1]
    simp -implicitDefEqProofs only [zA,reduceIte,reduceCtorEq,Nat.reduceEqDiff,Nat.reduceAdd,Nat.reduceMul,Nat.reduceLT,Nat.reduceSub,Int.reduceLT,Int.reduceLE,Int.reduceEq,Int.reduceNe,Int.reduceSub,Int.reduceAdd,Int.reduceMul,Int.reduceBEq,Int.reduceBNe,Int.reduceGT,Int.reduceGE,Nat.reduceGT,Int.reduceToNat,Int.reduceNeg,Nat.reduceLeDiff,Nat.reduceBEq,Nat.reduceBneDiff,h1,w1,hi1,hi2,Int.toNat_natCast,hi3]
    refine ⟨le1, ?_⟩
    simp [h0]
end Go.Bb
namespace Go.Bb
set_option linter.unusedSimpArgs false
set_option linter.unusedVariables false
set_option maxRecDepth 20000
set_option maxHeartbeats 2000000
open Go.MapKept
def Has1 (S : List Ed) (d : Int) (k : Nat) : Prop := ∀ j : Nat, 1 ≤ j → j ≤ k → ∃ e ∈ S, e.dev = d ∧ e.n = j
def CntB (S : List Ed) (d : Int) (k : Nat) : Prop := Has1 S d k ∧ ∀ e ∈ S, ¬ (e.dev = d ∧ e.n = (k + 1 : Nat))
def VecOf (S : List Ed) (v : List Int) : Prop := v.length = 8 ∧ ∀ d : Nat, d < 8 → ∃ k : Nat, v[d]? = some (k : Int) ∧ CntB S d k
theorem Has1.le {S : List Ed} (ok : BkS S) {d : Int} {k : Nat} (h : Has1 S d k) : k ≤ 1099511627776 := by
  by_cases h0 : k = 0
  · omega
  obtain ⟨e, he, hd, hn⟩ := h k (by omega) (Nat.le_refl _)
  have := ok.good e he
  simp only [q84, Bool.and_eq_true, decide_eq_true_eq] at this
  have := this.1.1.1.1.1.2.2
  omega
theorem CntB.eq {S : List Ed} {d : Int} {k m : Nat} (h : CntB S d k) (g : CntB S d m) : k = m := by
  rcases Nat.lt_trichotomy k m with c | c | c
  · obtain ⟨e, he, hd, hn⟩ := g.1 (k + 1) (by omega) (by omega)
    exact absurd ⟨hd, hn⟩ (h.2 e he)
  · exact c
  · obtain ⟨e, he, hd, hn⟩ := h.1 (m + 1) (by omega) (by omega)
    exact absurd ⟨hd, hn⟩ (g.2 e he)
theorem VecOf.eq {S : List Ed} {v w : List Int} (h : VecOf S v) (g : VecOf S w) : v = w := by
  apply List.ext_getElem?
  intro i
  by_cases hi : i < 8
  · obtain ⟨k, h1, h2⟩ := h.2 i hi
    obtain ⟨m, g1, g2⟩ := g.2 i hi
    rw [h1, g1, h2.eq g2]
  · rw [List.getElem?_eq_none (by rw [h.1]; omega), List.getElem?_eq_none (by rw [g.1]; omega)]
structure VS (H G : Heap) (b2 b3 : Nat) (v : List Int) : Prop where
  le : H.le G
  n2 : H b2 = none
  n3 : H b3 = none
  ne : b2 ≠ b3
  q2 : G b2 = some (.own 0 (List.replicate 8 (.int .i64 0)) 8)
  q3 : G b3 = some (.own 0 (v.map (.int .i64)) 8)
  h8 : v.length = 8
theorem VS.more {H G G' : Heap} {b2 b3 : Nat} {v : List Int} (s : VS H G b2 b3 v) (le : G.le G') : VS H G' b2 b3 v :=
  ⟨Heap.q06 s.le le, s.n2, s.n3, s.ne, le _ _ s.q2, le _ _ s.q3, s.h8⟩
theorem VS.put {H G : Heap} {b2 b3 : Nat} {v : List Int} (s : VS H G b2 b3 v) (w : List Int) (hw : w.length = 8) : VS H (G.set b3 (.own 0 (w.map (.int .i64)) 8)) b2 b3 w :=
  ⟨Heap.q14 s.le s.n3 _, s.n2, s.n3, s.ne, by rw [Heap.q68 s.ne]; exact s.q2, Heap.q05 _ _ _, hw⟩
theorem VS.cell {H G : Heap} {b2 b3 : Nat} {v : List Int} (s : VS H G b2 b3 v) (i : Nat) (hi : i < 8) : q25 G ⟨b3, i, none⟩ = some (.int .i64 (v[i]'(by rw [s.h8]; exact hi))) := by
  rw [q4m s.q3 (by simp [s.h8]; exact hi)]
  simp
theorem fvKD (d n : Int) (es : List MapEntry) : q67 (.agg [some IntKind.i64, some IntKind.i64]) (.agg [Value.int .i64 d, Value.int .i64 n].toArray) es 0 = q67 KD (dotK d n) es 0 := rfl
theorem qk1 (E : EnvT tab) {H : Heap} {b r : Nat} {S : List Ed} (B : BookAt H b r S) :
    ACallN E.toEnv qes [.pointer (some ⟨b, 0, none⟩)] H fun x H' => H.le H' ∧ ∃ v, VecOf S v ∧ x = .agg (v.map (.int .i64)).toArray := by
  refine q3q q8q q6b rfl rfl (q01 ?_)
  unfold q6b
  simp -implicitDefEqProofs only [zA,reduceIte,reduceCtorEq,Nat.reduceEqDiff,Nat.reduceAdd,Nat.reduceMul,Nat.reduceLT,Nat.reduceSub,Int.reduceLT,Int.reduceLE,Int.reduceEq,Int.reduceNe,Int.reduceSub,Int.reduceAdd,Int.reduceMul,Int.reduceBEq,Int.reduceBNe,Int.reduceGT,Int.reduceGE,Nat.reduceGT,Int.reduceToNat,Int.reduceNeg,Nat.reduceLeDiff,Nat.reduceBEq,Nat.reduceBneDiff]
  intro b2 hb2
  try simp -implicitDefEqProofs only [zA,reduceIte,reduceCtorEq,Nat.reduceEqDiff,Nat.reduceAdd,Nat.reduceMul,Nat.reduceLT,Nat.reduceSub,Int.reduceLT,Int.reduceLE,Int.reduceEq,Int.reduceNe,Int.reduceSub,Int.reduceAdd,Int.reduceMul,Int.reduceBEq,Int.reduceBNe,Int.reduceGT,Int.reduceGE,Nat.reduceGT,Int.reduceToNat,Int.reduceNeg,Nat.reduceLeDiff,Nat.reduceBEq,Nat.reduceBneDiff]
  intro b3 hb3
  try simp -implicitDefEqProofs only [zA,reduceIte,reduceCtorEq,Nat.reduceEqDiff,Nat.reduceAdd,Nat.reduceMul,Nat.reduceLT,Nat.reduceSub,Int.reduceLT,Int.reduceLE,Int.reduceEq,Int.reduceNe,Int.reduceSub,Int.reduceAdd,Int.reduceMul,Int.reduceBEq,Int.reduceBNe,Int.reduceGT,Int.reduceGE,Nat.reduceGT,Int.reduceToNat,Int.reduceNeg,Nat.reduceLeDiff,Nat.reduceBEq,Nat.reduceBneDiff,List.length_replicate]
  have ne : b3 ≠ b2 := by intro e; subst e; rw [Heap.q05] at hb3; cases hb3
  have hb3' : H b3 = none := by rw [Heap.q68 ne] at hb3; exact hb3
  have V0 : VS H ((H.set b2 (.own 0 (List.replicate 8 (.int .i64 0)) 8)).set b3 (.own 0 (List.replicate 8 (.int .i64 0)) 8)) b2 b3 (List.replicate 8 0) :=
    ⟨Heap.qji (Heap.q14 (Heap.q0f _) hb2 _) hb3 _, hb2, hb3', ne.symm, by rw [Heap.q68 ne.symm, Heap.q05], by rw [Heap.q05]; rfl, rfl⟩
  generalize ((H.set b2 (.own 0 (List.replicate 8 (.int .i64 0)) 8)).set b3 (.own 0 (List.replicate 8 (.int .i64 0)) 8)) = G0 at V0
  refine q2l (fun m t G => ∃ (i : Nat) (v : List Int), t = tl [(0, .pointer (some ⟨b, 0, none⟩)), (2, .pointer (some ⟨b2, 0, none⟩)), (3, .pointer (some ⟨b3, 0, none⟩)), (7, .int .i64 i)] ∧ i ≤ 8 ∧ m = 8 - i ∧ VS H G b2 b3 v ∧ (∀ d : Nat, d < i → ∃ k : Nat, v[d]? = some (k : Int) ∧ CntB S d k) ∧ (∀ d : Nat, i ≤ d → d < 8 → v[d]? = some 0)) 8
    ⟨0, _, rfl, by omega, by omega, V0, fun d hd => by omega, fun d _ hd => by rw [List.getElem?_replicate, if_pos hd]⟩ ?_
  rintro m t G ⟨i, v, rfl, hi, rfl, V, hdone, hrest⟩
  by_cases hlt : i < 8
  · have hi1 : (i : Int) < 8 := by omega
    have hi2 : (0 : Int) ≤ i := by omega
    have w1 : IntKind.i64.wrap ((i : Int) + 1) = ((i + 1 : Nat) : Int) := qcq (by omega)
    simp -implicitDefEqProofs only [zA,reduceIte,reduceCtorEq,Nat.reduceEqDiff,Nat.reduceAdd,Nat.reduceMul,Nat.reduceLT,Nat.reduceSub,Int.reduceLT,Int.reduceLE,Int.reduceEq,Int.reduceNe,Int.reduceSub,Int.reduceAdd,Int.reduceMul,Int.reduceBEq,Int.reduceBNe,Int.reduceGT,Int.reduceGE,Nat.reduceGT,Int.reduceToNat,Int.reduceNeg,Nat.reduceLeDiff,Nat.reduceBEq,Nat.reduceBneDiff,hi1]
    unfold q8l
    simp -implicitDefEqProofs only [zA,reduceIte,reduceCtorEq,Nat.reduceEqDiff,Nat.reduceAdd,Nat.reduceMul,Nat.reduceLT,Nat.reduceSub,Int.reduceLT,Int.reduceLE,Int.reduceEq,Int.reduceNe,Int.reduceSub,Int.reduceAdd,Int.reduceMul,Int.reduceBEq,Int.reduceBNe,Int.reduceGT,Int.reduceGE,Nat.reduceGT,Int.reduceToNat,Int.reduceNeg,Nat.reduceLeDiff,Nat.reduceBEq,Nat.reduceBneDiff]
    refine q2l (fun m t G => ∃ (k : Nat) (w : List Int), t = tl [(0, .pointer (some ⟨b, 0, none⟩)), (2, .pointer (some ⟨b2, 0, none⟩)), (3, .pointer (some ⟨b3, 0, none⟩)), (4, .int .i64 i), (7, .int .i64 i)] ∧ m = 1099511627776 - k ∧ VS H G b2 b3 w ∧ Has1 S i k ∧ w[i]? = some (k : Int) ∧ (∀ d : Nat, d ≠ i → w[d]? = v[d]?)) 1099511627776
      ⟨0, v, rfl, by omega, V, fun j h1 h2 => by omega, hrest i (Nat.le_refl _) hlt, fun _ _ => rfl⟩ ?_
    rintro m t G1 ⟨k, w, rfl, rfl, W, hh, hwi, hoth⟩
    have hk := hh.le B.ok
    have BG := B.le W.le
    obtain ⟨es, c, L, qr, en, hp, st⟩ := BG.qr
    have cb : q25 G1 ⟨b, 0, none⟩ = some (.map (some r)) := by rw [q4m BG.qb (by simp)]; rfl
    have ma : q8g G1 r = some (es, c) := by simp [q8g, qr]
    have c3 := W.cell i hlt
    have hwi2 : w[i]'(by rw [W.h8]; exact hlt) = k := by rw [List.getElem?_eq_getElem (by rw [W.h8]; exact hlt)] at hwi; simpa using hwi
    rw [hwi2] at c3
    have w2 : IntKind.i64.wrap ((k : Int) + 1) = ((k + 1 : Nat) : Int) := qcq (by omega)
    have kf : q8z (.agg [some IntKind.i64, some IntKind.i64]) (.agg #[Value.int .i64 i, Value.int .i64 ((k + 1 : Nat) : Int)]) = some () := rfl
    have hgp := qhp hp BG.ok i ((k + 1 : Nat) : Int)
    cases hgd : q9v S i ((k + 1 : Nat) : Int) with
    | none =>
      rw [hgd] at hgp
      have fv := qdb 0 en hgp
      simp -implicitDefEqProofs only [zA,reduceIte,reduceCtorEq,Nat.reduceEqDiff,Nat.reduceAdd,Nat.reduceMul,Nat.reduceLT,Nat.reduceSub,Int.reduceLT,Int.reduceLE,Int.reduceEq,Int.reduceNe,Int.reduceSub,Int.reduceAdd,Int.reduceMul,Int.reduceBEq,Int.reduceBNe,Int.reduceGT,Int.reduceGE,Nat.reduceGT,Int.reduceToNat,Int.reduceNeg,Nat.reduceLeDiff,Nat.reduceBEq,Nat.reduceBneDiff,cb,hi1,hi2,Int.toNat_natCast,c3,w2,ma,fvKD,fv,kf]
      intro b5 hb5
      have s5 : q7x (G1.set b5 (.own 0 Z15 Z15.length)) 15 (.pointer (some ⟨b5, 0, none⟩)) (.agg Z15.toArray) = some (G1.set b5 (.own 0 Z15 15)) := z6z (by decide) rfl rfl rfl (by decide)
      unfold Z15 at s5
      have le5 := Heap.q14 (Heap.q0f G1) hb5 (.own 0 (List.replicate 11 (.int .i64 0) ++ [.string .empty, .string .empty, .string .empty, .int .i64 0]) 15)
      simp -implicitDefEqProofs only [zA,reduceIte,reduceCtorEq,Nat.reduceEqDiff,Nat.reduceAdd,Nat.reduceMul,Nat.reduceLT,Nat.reduceSub,Int.reduceLT,Int.reduceLE,Int.reduceEq,Int.reduceNe,Int.reduceSub,Int.reduceAdd,Int.reduceMul,Int.reduceBEq,Int.reduceBNe,Int.reduceGT,Int.reduceGE,Nat.reduceGT,Int.reduceToNat,Int.reduceNeg,Nat.reduceLeDiff,Nat.reduceBEq,Nat.reduceBneDiff,s5,w1]
      refine ⟨fun _ _ => trivial, _, ?_, i + 1, w, rfl, by omega, rfl, W.more le5, fun d hd => ?_, fun d h1 h2 => ?_⟩
      · omega
      · by_cases e : d = i
        · subst e
          rw [q9g] at hgd
          exact ⟨k, hwi, hh, hgd⟩
        · rw [hoth d e]; exact hdone d (by omega)
      · rw [hoth d (by omega)]; exact hrest d (by omega) h2
    | some e =>
      rw [hgd] at hgp
      obtain ⟨j, fv⟩ := qda 0 en hgp
      unfold edV at fv
      have hge := getD_some hgd
      have he8 := BG.ok.h8 e hge.1
      simp -implicitDefEqProofs only [zA,reduceIte,reduceCtorEq,Nat.reduceEqDiff,Nat.reduceAdd,Nat.reduceMul,Nat.reduceLT,Nat.reduceSub,Int.reduceLT,Int.reduceLE,Int.reduceEq,Int.reduceNe,Int.reduceSub,Int.reduceAdd,Int.reduceMul,Int.reduceBEq,Int.reduceBNe,Int.reduceGT,Int.reduceGE,Nat.reduceGT,Int.reduceToNat,Int.reduceNeg,Nat.reduceLeDiff,Nat.reduceBEq,Nat.reduceBneDiff,cb,hi1,hi2,Int.toNat_natCast,c3,w2,ma,fvKD,fv,kf]
      intro b5 hb5
      have s5 := stE G1 b5 he8
      unfold Z15 at s5
      have le5 := Heap.q14 (Heap.q0f G1) hb5 (.own 0 (edC e) 15)
      have W5 := W.more le5
      simp -implicitDefEqProofs only [zA,reduceIte,reduceCtorEq,Nat.reduceEqDiff,Nat.reduceAdd,Nat.reduceMul,Nat.reduceLT,Nat.reduceSub,Int.reduceLT,Int.reduceLE,Int.reduceEq,Int.reduceNe,Int.reduceSub,Int.reduceAdd,Int.reduceMul,Int.reduceBEq,Int.reduceBNe,Int.reduceGT,Int.reduceGE,Nat.reduceGT,Int.reduceToNat,Int.reduceNeg,Nat.reduceLeDiff,Nat.reduceBEq,Nat.reduceBneDiff,s5]
      unfold q8k
      generalize (G1.set b5 (.own 0 (edC e) 15)) = G5 at le5 W5 ⊢
      have c5 := W5.cell i hlt
      rw [hwi2] at c5
      have st6 : q7x G5 1 (.pointer (some ⟨b3, i, none⟩)) (.int .i64 ((k + 1 : Nat) : Int)) = some (G5.set b3 (.own 0 ((w.set i ((k + 1 : Nat) : Int)).map (.int .i64)) 8)) := by
        rw [qc2 W5.q3 rfl (by simp [W5.h8]; exact hlt) (by simp [W5.h8]), List.map_set]
      simp -implicitDefEqProofs only [zA,reduceIte,reduceCtorEq,Nat.reduceEqDiff,Nat.reduceAdd,Nat.reduceMul,Nat.reduceLT,Nat.reduceSub,Int.reduceLT,Int.reduceLE,Int.reduceEq,Int.reduceNe,Int.reduceSub,Int.reduceAdd,Int.reduceMul,Int.reduceBEq,Int.reduceBNe,Int.reduceGT,Int.reduceGE,Nat.reduceGT,Int.reduceToNat,Int.reduceNeg,Nat.reduceLeDiff,Nat.reduceBEq,Nat.reduceBneDiff,hi1,hi2,Int.toNat_natCast,c5,w2,st6]
      have hk1 : Has1 S i (k + 1) := fun j h1 h2 => by
        by_cases e' : j = k + 1
        · exact ⟨e, hge.1, hge.2.1, by rw [e']; exact hge.2.2⟩
        · exact hh j h1 (by omega)
      have hk2 := hk1.le B.ok
      refine ⟨fun _ _ => trivial, _, ?_, k + 1, w.set i ((k + 1 : Nat) : Int), rfl, W5.put _ (by rw [List.length_set]; exact W5.h8), hk1, ?_, fun d hd => ?_⟩
      · omega
      · rw [List.getElem?_set]; simp [W5.h8, hlt]
      · rw [List.getElem?_set, if_neg (Ne.symm hd)]; exact hoth d hd
  · have hi1 : ¬ (i : Int) < 8 := by omega
    have e : i = 8 := by omega
    subst e
    have ld : q08 G ⟨b3, 0, none⟩ 8 = some (v.map (.int .i64)) := by
      rw [qae V.q3 (by simp [V.h8])]
      simp [V.h8, List.take_of_length_le]
    have vl : (v.map (Value.int .i64)).length = 8 := by simp [V.h8]
    have st : q7x G 8 (.pointer (some ⟨b2, 0, none⟩)) (.agg (v.map (.int .i64)).toArray) = some (G.set b2 (.own 0 (v.map (.int .i64)) 8)) :=
      qgd V.q2 (by decide) vl (by simp [Bb.one]) (by simp) (by decide)
    have l2 : q08 (G.set b2 (.own 0 (v.map (.int .i64)) 8)) ⟨b2, 0, none⟩ 8 = some (v.map (.int .i64)) := z6x vl
    simp -implicitDefEqProofs only [zA,reduceIte,reduceCtorEq,Nat.reduceEqDiff,Nat.reduceAdd,Nat.reduceMul,Nat.reduceLT,Nat.reduceSub,Int.reduceLT,Int.reduceLE,Int.reduceEq,Int.reduceNe,Int.reduceSub,Int.reduceAdd,Int.reduceMul,Int.reduceBEq,Int.reduceBNe,Int.reduceGT,Int.reduceGE,Nat.reduceGT,Int.reduceToNat,Int.reduceNeg,Nat.reduceLeDiff,Nat.reduceBEq,Nat.reduceBneDiff,hi1,ld,st,l2]
    exact ⟨Heap.q14 V.le V.n2 _, v, ⟨V.h8, hdone⟩, rfl⟩
end Go.Bb
namespace Go.Bb
set_option linter.unusedSimpArgs false
set_option linter.unusedVariables false
set_option maxRecDepth 20000
set_option maxHeartbeats 2000000
open Go.MapKept
theorem qcs {R : Ed → Ed → Prop} (irr : ∀ x, ¬ R x x) (tr : ∀ x y z, R x y → R y z → R x z) : ∀ {T S : List Ed}, T.Pairwise R → S.Pairwise R → (∀ e ∈ S, e ∈ T) → S.Sublist T
  | [], S, _, _, h => by
    cases S with
    | nil => exact List.Sublist.slnil
    | cons x S => exact absurd (h x (List.mem_cons_self ..)) (by simp)
  | y :: T, [], _, _, _ => List.nil_sublist _
  | y :: T, x :: S, ht, hs, h => by
    rw [List.pairwise_cons] at ht hs
    by_cases e : x = y
    · subst e
      refine (qcs irr tr ht.2 hs.2 fun z hz => ?_).cons_cons x
      rcases List.mem_cons.1 (h z (List.mem_cons_of_mem _ hz)) with k | k
      · subst k; exact absurd (hs.1 _ hz) (irr _)
      · exact k
    · have hx : x ∈ T := (List.mem_cons.1 (h x (List.mem_cons_self ..))).resolve_left e
      refine (qcs irr tr ht.2 (List.pairwise_cons.2 hs) fun z hz => ?_).cons y
      rcases List.mem_cons.1 (h z hz) with k | k
      · subst k
        rcases List.mem_cons.1 hz with q | q
        · exact absurd q.symm e
        · exact absurd (tr _ _ _ (ht.1 x hx) (hs.1 _ q)) (irr _)
      · exact k
theorem Keep.trans {r : Nat} {H G G' : Heap} (h : Keep r H G) (k : Keep r G G') : Keep r H G' := fun b x hb hr => k b x (h b x hb hr) hr
theorem Keep.fresh {r : Nat} {H G G' : Heap} (hr : H r = none) (le : H.le G) (k : Keep r G G') : H.le G' := fun b x hb => k b x (le b x hb) (fun e => by rw [e, hr] at hb; cases hb)
theorem BookAt.keep {H H' : Heap} {b r q : Nat} {S : List Ed} (x : BookAt H b r S) (k : Keep q H H') (h1 : b ≠ q) (h2 : r ≠ q) : BookAt H' b r S := by
  obtain ⟨es, c, L, g1, g2⟩ := x.qr
  exact ⟨x.ne, k _ _ x.qb h1, ⟨es, c, L, k _ _ g1 h2, g2⟩, x.ok⟩
end Go.Bb
namespace Go.Bb
set_option linter.unusedSimpArgs false
set_option linter.unusedVariables false
theorem qcu (a : Str) : ¬ a < a := List.lt_irrefl a
theorem qhe {a b c : Str} (h : a < b) (k : b < c) : a < c := List.lt_trans h k
theorem sLt_tri {a b : Str} (h : ¬ a < b) (k : ¬ b < a) : a = b := List.le_antisymm k h
theorem sLt_of {a b : Str} (h : a ≤ b) (k : a ≠ b) : a < b := by
  by_cases g : a < b
  · exact g
  · exact absurd (sLt_tri g h) k
theorem qgl (l : List Str) : (q85 l).Pairwise (fun a b => a ≤ b) := by
  have := List.pairwise_mergeSort (le := fun x y : Str => decide (x ≤ y)) (by
    intro a b c h1 h2
    simp only [decide_eq_true_eq] at *
    exact List.le_trans h1 h2) (by
    intro a b
    simp only [Bool.or_eq_true, decide_eq_true_eq]
    exact List.le_total a b) l
  exact this.imp fun {a b} h => by simpa using h
theorem qjt {l : List Str} {x : Str} : x ∈ q85 l ↔ x ∈ l := List.mem_mergeSort
theorem comp_inv (d : Array Str) (hs : ∀ i j, i < j → j < d.size → d[i]! ≤ d[j]!) : ∀ m, m ≤ d.size → (Lib.compactUpTo d m).Pairwise (· < ·) ∧ (∀ x, x ∈ Lib.compactUpTo d m ↔ ∃ i, i < m ∧ d[i]! = x) := by
  intro m
  induction m with
  | zero => intro _; simp [Lib.compactUpTo]
  | succ m ih =>
    intro hm
    obtain ⟨h1, h2⟩ := ih (by omega)
    rw [Lib.compactUpTo_succ]
    by_cases k : Lib.keeps d m = true
    · rw [if_pos k]
      refine ⟨?_, fun x => ?_⟩
      · rw [List.pairwise_append]
        refine ⟨h1, by simp, fun x hx y hy => ?_⟩
        rw [List.mem_singleton] at hy
        subst hy
        obtain ⟨i, hi, rfl⟩ := (h2 x).1 hx
        unfold Lib.keeps at k
        simp only [decide_eq_true_eq] at k
        have hne : d[m]! ≠ d[m - 1]! := k.resolve_left (by omega)
        have hle : d[m - 1]! ≤ d[m]! := hs _ _ (by omega) (by omega)
        have hlt : d[m - 1]! < d[m]! := sLt_of hle (Ne.symm hne)
        by_cases e : i = m - 1
        · rw [e]; exact hlt
        · have := hs i (m - 1) (by omega) (by omega)
          by_cases q : d[i]! = d[m - 1]!
          · rw [q]; exact hlt
          · exact qhe (sLt_of this q) hlt
      · rw [List.mem_append, h2, List.mem_singleton]
        constructor
        · rintro (⟨i, hi, rfl⟩ | rfl)
          · exact ⟨i, by omega, rfl⟩
          · exact ⟨m, by omega, rfl⟩
        · rintro ⟨i, hi, rfl⟩
          by_cases e : i = m
          · exact .inr (by rw [e])
          · exact .inl ⟨i, by omega, rfl⟩
    · rw [if_neg k, List.append_nil]
      refine ⟨h1, fun x => ?_⟩
      unfold Lib.keeps at k
      simp only [decide_eq_true_eq, not_or, Decidable.not_not] at k
      rw [h2]
      constructor
      · rintro ⟨i, hi, rfl⟩; exact ⟨i, by omega, rfl⟩
      · rintro ⟨i, hi, rfl⟩
        by_cases e : i = m
        · exact ⟨m - 1, by omega, by rw [e, k.2]⟩
        · exact ⟨i, by omega, rfl⟩
theorem qfw (l : List Str) : (uniqS l).Pairwise (· < ·) ∧ ∀ x, x ∈ uniqS l ↔ x ∈ l := by
  have hsz : (q85 l).toArray.size = (q85 l).length := by simp
  have hg : ∀ i, i < (q85 l).length → ∀ h : i < (q85 l).length, (q85 l).toArray[i]! = (q85 l)[i] := fun i hi h => by simp [h]
  have hs := qgl l
  rw [List.pairwise_iff_getElem] at hs
  obtain ⟨h1, h2⟩ := comp_inv (q85 l).toArray (fun i j hij hj => by
    rw [hsz] at hj
    rw [hg i (by omega) (by omega), hg j hj hj]
    exact hs i j (by omega) hj hij) (q85 l).length (by simp)
  refine ⟨h1, fun x => ?_⟩
  unfold uniqS Lib.compact
  rw [h2, ← qjt]
  constructor
  · rintro ⟨i, hi, rfl⟩
    rw [hg i hi hi]; exact List.getElem_mem hi
  · intro hx
    obtain ⟨i, hi, rfl⟩ := List.getElem_of_mem hx
    exact ⟨i, hi, hg i hi hi⟩
theorem qgb {l m : List Str} (hl : l.Pairwise (· < ·)) (hm : m.Pairwise (· < ·)) (h : ∀ x, x ∈ l ↔ x ∈ m) : l = m := by
  have nl : l.Nodup := List.Pairwise.imp (fun {a b} (k : a < b) (e : a = b) => qcu b (by rw [e] at k; exact k)) hl
  have nm : m.Nodup := List.Pairwise.imp (fun {a b} (k : a < b) (e : a = b) => qcu b (by rw [e] at k; exact k)) hm
  have hp : l.Perm m := by
    rw [List.perm_iff_count]
    intro a
    rw [nl.count, nm.count]
    by_cases ha : a ∈ l
    · rw [if_pos ha, if_pos ((h a).1 ha)]
    · rw [if_neg ha, if_neg (fun k => ha ((h a).2 k))]
  exact q89 qcu (fun x y z => qhe) hp hl hm
end Go.Bb
namespace Go.Bb
set_option linter.unusedSimpArgs false
set_option linter.unusedVariables false
set_option maxRecDepth 20000
set_option maxHeartbeats 2000000
open Go.MapKept
abbrev SlS (H : Heap) (v : Value) (L : List Str) : Prop := Sl H 1 v L.length (L.map strV)
theorem SlS.cell {H : Heap} {v : Value} {L : List Str} (s : SlS H v L) (i : Nat) (hi : i < L.length) :
    ∃ b o c, v = .slice (some ⟨b, o, none⟩) L.length c ∧ q25 H ⟨b, o + i, none⟩ = some (strV L[i]) := by
  unfold SlS at s
  rw [← q97 strV L] at s
  obtain ⟨b, o, c, h1, h2, h3⟩ := Sl.at (f := fun s => [strV s]) (fun _ => rfl) s i hi (by decide)
  have h4 := qgp (h3 H (Heap.q0f _)) 0 Nat.zero_lt_one
  simp only [List.getElem?_cons_zero, Nat.mul_one, Nat.add_zero] at h4
  exact ⟨b, o, c, h1, h4⟩
theorem qi8 (E : EnvT tab) {H : Heap} {v w : Value} {L M : List Str} (s : SlS H v L) (q : SlS H w M) (hl : L.length ≤ 1000000) (hm : M.length ≤ 1000000) :
    ACallN E.toEnv qb8 [v, w] H fun r H' => H' = H ∧ r = .bool (decide (L = M)) := by
  obtain ⟨b1, c1, rfl⟩ := s.shape
  obtain ⟨b2, c2, rfl⟩ := q.shape
  refine q3q q5q q2z rfl rfl (q01 ?_)
  unfold q2z
  by_cases g : L.length = M.length
  · have g' : ((L.length : Int) != M.length) = false := by simp [g]
    simp -implicitDefEqProofs only [zA,reduceIte,reduceCtorEq,Nat.reduceEqDiff,Nat.reduceAdd,Nat.reduceMul,Nat.reduceLT,Nat.reduceSub,Int.reduceLT,Int.reduceLE,Int.reduceEq,Int.reduceNe,Int.reduceSub,Int.reduceAdd,Int.reduceMul,Int.reduceBEq,Int.reduceBNe,Int.reduceGT,Int.reduceGE,Nat.reduceGT,Int.reduceToNat,Int.reduceNeg,Nat.reduceLeDiff,Nat.reduceBEq,Nat.reduceBneDiff,g']
    refine q2l (fun m t G => G = H ∧ ∃ i : Nat, t = tl [(0, .slice b1 L.length c1), (1, .slice b2 M.length c2), (5, .int .i64 i)] ∧ i ≤ L.length ∧ m = L.length - i ∧ L.take i = M.take i) L.length
      ⟨rfl, 0, rfl, by omega, by omega, rfl⟩ ?_
    rintro m t G ⟨rfl, i, rfl, hi, rfl, ht⟩
    by_cases hlt : i < L.length
    · have hlt2 : i < M.length := by omega
      have hi1 : (i : Int) < L.length := by omega
      have hi3 : (i : Int) < M.length := by omega
      have hi2 : (0 : Int) ≤ i := by omega
      have w1 : IntKind.i64.wrap ((i : Int) + 1) = ((i + 1 : Nat) : Int) := qcq (by omega)
      obtain ⟨x1, o1, d1, e1, k1⟩ := s.cell i hlt
      obtain ⟨x2, o2, d2, e2, k2⟩ := q.cell i hlt2
      simp only [Value.slice.injEq, true_and] at e1 e2
      obtain ⟨rfl, rfl⟩ := e1
      obtain ⟨rfl, rfl⟩ := e2
      have sn := qkd L[i] M[i]
      have t1 : L.take (i + 1) = L.take i ++ [L[i]] := List.take_succ_eq_append_getElem hlt
      have t2 : M.take (i + 1) = M.take i ++ [M[i]] := List.take_succ_eq_append_getElem hlt2
      by_cases e : L[i] = M[i]
      · rw [decide_eq_true e] at sn
        simp -implicitDefEqProofs only [zA,reduceIte,reduceCtorEq,Nat.reduceEqDiff,Nat.reduceAdd,Nat.reduceMul,Nat.reduceLT,Nat.reduceSub,Int.reduceLT,Int.reduceLE,Int.reduceEq,Int.reduceNe,Int.reduceSub,Int.reduceAdd,Int.reduceMul,Int.reduceBEq,Int.reduceBNe,Int.reduceGT,Int.reduceGE,Nat.reduceGT,Int.reduceToNat,Int.reduceNeg,Nat.reduceLeDiff,Nat.reduceBEq,Nat.reduceBneDiff,hi1,hi2,hi3,Int.toNat_natCast,k1,k2,sn,w1]
        refine ⟨_, ?_, i + 1, rfl, by omega, rfl, by rw [t1, t2, ht, e]⟩
        omega
      · rw [decide_eq_false e] at sn
        have hne : ¬ L = M := fun h => e (by simp [h])
        simp -implicitDefEqProofs only [zA,reduceIte,reduceCtorEq,Nat.reduceEqDiff,Nat.reduceAdd,Nat.reduceMul,Nat.reduceLT,Nat.reduceSub,Int.reduceLT,Int.reduceLE,Int.reduceEq,Int.reduceNe,Int.reduceSub,Int.reduceAdd,Int.reduceMul,Int.reduceBEq,Int.reduceBNe,Int.reduceGT,Int.reduceGE,Nat.reduceGT,Int.reduceToNat,Int.reduceNeg,Nat.reduceLeDiff,Nat.reduceBEq,Nat.reduceBneDiff,hi1,hi2,hi3,Int.toNat_natCast,k1,k2,sn,hne]
    · have hi1 : ¬ (i : Int) < L.length := by omega
      have e : i = L.length := by omega
      subst e
      have hLM : L = M := by
        rw [List.take_length, List.take_of_length_le (by omega)] at ht
        exact ht
      rw [decide_eq_true hLM]
      simp -implicitDefEqProofs only [zA,reduceIte,reduceCtorEq,Nat.reduceEqDiff,Nat.reduceAdd,Nat.reduceMul,Nat.reduceLT,Nat.reduceSub,Int.reduceLT,Int.reduceLE,Int.reduceEq,Int.reduceNe,Int.reduceSub,Int.reduceAdd,Int.reduceMul,Int.reduceBEq,Int.reduceBNe,Int.reduceGT,Int.reduceGE,Nat.reduceGT,Int.reduceToNat,Int.reduceNeg,Nat.reduceLeDiff,Nat.reduceBEq,Nat.reduceBneDiff,hi1]
  · have g' : ((L.length : Int) != M.length) = true := by simp; omega
    have hne : ¬ L = M := fun h => g (by rw [h])
    simp -implicitDefEqProofs only [zA,reduceIte,reduceCtorEq,Nat.reduceEqDiff,Nat.reduceAdd,Nat.reduceMul,Nat.reduceLT,Nat.reduceSub,Int.reduceLT,Int.reduceLE,Int.reduceEq,Int.reduceNe,Int.reduceSub,Int.reduceAdd,Int.reduceMul,Int.reduceBEq,Int.reduceBNe,Int.reduceGT,Int.reduceGE,Nat.reduceGT,Int.reduceToNat,Int.reduceNeg,Nat.reduceLeDiff,Nat.reduceBEq,Nat.reduceBneDiff,g',hne]
def longE (e : Ed) : Bool := decide (60 < e.con.length) || (decide (60 < e.fld.length) || decide (250 < e.val.length))
theorem long_c (E : EnvT tab) (H : Heap) (e : Ed) (h8 : e.seen.length = 8) : ACallN E.toEnv qbr [edV e] H fun r H' => H.le H' ∧ r = .bool (longE e) := by
  refine q3q q6u q3i rfl rfl (q01 ?_)
  unfold q3i edV
  have el := q4e h8
  simp -implicitDefEqProofs only [zA,reduceIte,reduceCtorEq,Nat.reduceEqDiff,Nat.reduceAdd,Nat.reduceMul,Nat.reduceLT,Nat.reduceSub,Int.reduceLT,Int.reduceLE,Int.reduceEq,Int.reduceNe,Int.reduceSub,Int.reduceAdd,Int.reduceMul,Int.reduceBEq,Int.reduceBNe,Int.reduceGT,Int.reduceGE,Nat.reduceGT,Int.reduceToNat,Int.reduceNeg,Nat.reduceLeDiff,Nat.reduceBEq,Nat.reduceBneDiff]
  intro b hb
  try simp -implicitDefEqProofs only [zA,reduceIte,reduceCtorEq,Nat.reduceEqDiff,Nat.reduceAdd,Nat.reduceMul,Nat.reduceLT,Nat.reduceSub,Int.reduceLT,Int.reduceLE,Int.reduceEq,Int.reduceNe,Int.reduceSub,Int.reduceAdd,Int.reduceMul,Int.reduceBEq,Int.reduceBNe,Int.reduceGT,Int.reduceGE,Nat.reduceGT,Int.reduceToNat,Int.reduceNeg,Nat.reduceLeDiff,Nat.reduceBEq,Nat.reduceBneDiff]
  rw [el]
  have le := Heap.q14 (Heap.q0f H) hb (.own 0 (edC e) 15)
  have A : EdAt (H.set b (.own 0 (edC e) 15)) b e := EdAt.of (Heap.q05 _ _ _) h8
  generalize (H.set b (.own 0 (edC e) 15)) = G at le A
  have v1 : strV e.con = .string ⟨e.con.toArray⟩ := rfl
  have v2 : strV e.fld = .string ⟨e.fld.toArray⟩ := rfl
  have v3 : strV e.val = .string ⟨e.val.toArray⟩ := rfl
  have z1 := qa7 e.con
  have z2 := qa7 e.fld
  have z3 := qa7 e.val
  unfold longE
  by_cases g1 : 60 < e.con.length
  · have g1' : (60 : Int) < e.con.length := by omega
    simp -implicitDefEqProofs only [zA,reduceIte,reduceCtorEq,Nat.reduceEqDiff,Nat.reduceAdd,Nat.reduceMul,Nat.reduceLT,Nat.reduceSub,Int.reduceLT,Int.reduceLE,Int.reduceEq,Int.reduceNe,Int.reduceSub,Int.reduceAdd,Int.reduceMul,Int.reduceBEq,Int.reduceBNe,Int.reduceGT,Int.reduceGE,Nat.reduceGT,Int.reduceToNat,Int.reduceNeg,Nat.reduceLeDiff,Nat.reduceBEq,Nat.reduceBneDiff,A.con,v1,z1,g1',g1,decide_true,Bool.true_or]
    exact le
  · have g1' : ¬ (60 : Int) < e.con.length := by omega
    by_cases g2 : 60 < e.fld.length
    · have g2' : (60 : Int) < e.fld.length := by omega
      simp -implicitDefEqProofs only [zA,reduceIte,reduceCtorEq,Nat.reduceEqDiff,Nat.reduceAdd,Nat.reduceMul,Nat.reduceLT,Nat.reduceSub,Int.reduceLT,Int.reduceLE,Int.reduceEq,Int.reduceNe,Int.reduceSub,Int.reduceAdd,Int.reduceMul,Int.reduceBEq,Int.reduceBNe,Int.reduceGT,Int.reduceGE,Nat.reduceGT,Int.reduceToNat,Int.reduceNeg,Nat.reduceLeDiff,Nat.reduceBEq,Nat.reduceBneDiff,A.con,v1,z1,g1',g1,A.fld,v2,z2,g2',g2,decide_true,decide_false,Bool.true_or,Bool.false_or]
      exact le
    · have g2' : ¬ (60 : Int) < e.fld.length := by omega
      by_cases g3 : 250 < e.val.length
      · have g3' : (250 : Int) < e.val.length := by omega
        simp -implicitDefEqProofs only [zA,reduceIte,reduceCtorEq,Nat.reduceEqDiff,Nat.reduceAdd,Nat.reduceMul,Nat.reduceLT,Nat.reduceSub,Int.reduceLT,Int.reduceLE,Int.reduceEq,Int.reduceNe,Int.reduceSub,Int.reduceAdd,Int.reduceMul,Int.reduceBEq,Int.reduceBNe,Int.reduceGT,Int.reduceGE,Nat.reduceGT,Int.reduceToNat,Int.reduceNeg,Nat.reduceLeDiff,Nat.reduceBEq,Nat.reduceBneDiff,A.con,v1,z1,g1',g1,A.fld,v2,z2,g2',g2,A.val,v3,z3,g3',g3,decide_true,decide_false,Bool.true_or,Bool.false_or]
        exact le
      · have g3' : ¬ (250 : Int) < e.val.length := by omega
        simp -implicitDefEqProofs only [zA,reduceIte,reduceCtorEq,Nat.reduceEqDiff,Nat.reduceAdd,Nat.reduceMul,Nat.reduceLT,Nat.reduceSub,Int.reduceLT,Int.reduceLE,Int.reduceEq,Int.reduceNe,Int.reduceSub,Int.reduceAdd,Int.reduceMul,Int.reduceBEq,Int.reduceBNe,Int.reduceGT,Int.reduceGE,Nat.reduceGT,Int.reduceToNat,Int.reduceNeg,Nat.reduceLeDiff,Nat.reduceBEq,Nat.reduceBneDiff,A.con,v1,z1,g1',g1,A.fld,v2,z2,g2',g2,A.val,v3,z3,g3',g3,decide_true,decide_false,Bool.true_or,Bool.false_or]
        exact le
def eA : Ed := ⟨1, 1, List.replicate 8 0, 1, [99], [102], [121], 1⟩
def eB : Ed := ⟨0, 1, List.replicate 8 0, 1, [99], [102], [120], 0⟩
theorem add_eA : addB [] eA = ([eA], 0) := by decide
theorem add_eB : addB [eA] eB = ([eB, eA], 0) := by decide
theorem ql6 : qa4 [eB, eA] = [eB, eA] := by decide
theorem all_AB : allB [eB, eA] [99] [102] = [[120], [121]] := by unfold allB; rw [ql6]; decide
theorem con_AB : qah [eB, eA] = [[99]] := by
  unfold qah
  rw [ql6]
  refine qgb (qfw _).1 (by simp) fun x => ?_
  rw [(qfw _).2]
  simp [eA, eB]
theorem vec_AB : VecOf [eB, eA] [1, 1, 0, 0, 0, 0, 0, 0] := by
  refine ⟨rfl, fun d hd => ?_⟩
  match d, hd with
  | 0, _ => exact ⟨1, rfl, fun j h1 h2 => ⟨eB, by simp, rfl, by simp [eB]; omega⟩, by simp [eA, eB]⟩
  | 1, _ => exact ⟨1, rfl, fun j h1 h2 => ⟨eA, by simp, rfl, by simp [eA]; omega⟩, by simp [eA, eB]⟩
  | 2, _ => exact ⟨0, rfl, fun j h1 h2 => by omega, by simp [eA, eB]⟩
  | 3, _ => exact ⟨0, rfl, fun j h1 h2 => by omega, by simp [eA, eB]⟩
  | 4, _ => exact ⟨0, rfl, fun j h1 h2 => by omega, by simp [eA, eB]⟩
  | 5, _ => exact ⟨0, rfl, fun j h1 h2 => by omega, by simp [eA, eB]⟩
  | 6, _ => exact ⟨0, rfl, fun j h1 h2 => by omega, by simp [eA, eB]⟩
  | 7, _ => exact ⟨0, rfl, fun j h1 h2 => by omega, by simp [eA, eB]⟩
theorem qgn (E : EnvT tab) (K : BkOk E) (H : Heap) : ACallN E.toEnv qb9 [] H fun r H' => H.le H' ∧ r = .bool true := by
  refine q3q q5r q30 rfl rfl (q01 ?_)
  unfold q30
  simp -implicitDefEqProofs only [zA,reduceIte,reduceCtorEq,Nat.reduceEqDiff,Nat.reduceAdd,Nat.reduceMul,Nat.reduceLT,Nat.reduceSub,Int.reduceLT,Int.reduceLE,Int.reduceEq,Int.reduceNe,Int.reduceSub,Int.reduceAdd,Int.reduceMul,Int.reduceBEq,Int.reduceBNe,Int.reduceGT,Int.reduceGE,Nat.reduceGT,Int.reduceToNat,Int.reduceNeg,Nat.reduceLeDiff,Nat.reduceBEq,Nat.reduceBneDiff]
  refine (qg9 E H).mono ?_
  rintro v H1 ⟨le1, b, r, rfl, nb, nr, B1⟩
  simp -implicitDefEqProofs only [zA,reduceIte,reduceCtorEq,Nat.reduceEqDiff,Nat.reduceAdd,Nat.reduceMul,Nat.reduceLT,Nat.reduceSub,Int.reduceLT,Int.reduceLE,Int.reduceEq,Int.reduceNe,Int.reduceSub,Int.reduceAdd,Int.reduceMul,Int.reduceBEq,Int.reduceBNe,Int.reduceGT,Int.reduceGE,Nat.reduceGT,Int.reduceToNat,Int.reduceNeg,Nat.reduceLeDiff,Nat.reduceBEq,Nat.reduceBneDiff]
  change q0a (some (edV eA)) _ _
  simp -implicitDefEqProofs only [zA,reduceIte,reduceCtorEq,Nat.reduceEqDiff,Nat.reduceAdd,Nat.reduceMul,Nat.reduceLT,Nat.reduceSub,Int.reduceLT,Int.reduceLE,Int.reduceEq,Int.reduceNe,Int.reduceSub,Int.reduceAdd,Int.reduceMul,Int.reduceBEq,Int.reduceBNe,Int.reduceGT,Int.reduceGE,Nat.reduceGT,Int.reduceToNat,Int.reduceNeg,Nat.reduceLeDiff,Nat.reduceBEq,Nat.reduceBneDiff]
  refine (qb2 E B1 eA rfl (by decide) (by decide) (by decide) (by decide)).mono ?_
  rintro v H2 ⟨rfl, B2, k2⟩
  rw [add_eA] at B2 ⊢
  unfold q71
  simp -implicitDefEqProofs only [zA,reduceIte,reduceCtorEq,Nat.reduceEqDiff,Nat.reduceAdd,Nat.reduceMul,Nat.reduceLT,Nat.reduceSub,Int.reduceLT,Int.reduceLE,Int.reduceEq,Int.reduceNe,Int.reduceSub,Int.reduceAdd,Int.reduceMul,Int.reduceBEq,Int.reduceBNe,Int.reduceGT,Int.reduceGE,Nat.reduceGT,Int.reduceToNat,Int.reduceNeg,Nat.reduceLeDiff,Nat.reduceBEq,Nat.reduceBneDiff]
  change q0a (some (edV eB)) _ _
  simp -implicitDefEqProofs only [zA,reduceIte,reduceCtorEq,Nat.reduceEqDiff,Nat.reduceAdd,Nat.reduceMul,Nat.reduceLT,Nat.reduceSub,Int.reduceLT,Int.reduceLE,Int.reduceEq,Int.reduceNe,Int.reduceSub,Int.reduceAdd,Int.reduceMul,Int.reduceBEq,Int.reduceBNe,Int.reduceGT,Int.reduceGE,Nat.reduceGT,Int.reduceToNat,Int.reduceNeg,Nat.reduceLeDiff,Nat.reduceBEq,Nat.reduceBneDiff]
  refine (qb2 E B2 eB rfl (by decide) (by decide) (by decide) (by decide)).mono ?_
  rintro v H3 ⟨rfl, B3, k3⟩
  rw [add_eB] at B3 ⊢
  have le3 : H.le H3 := Keep.fresh nr le1 (k2.trans k3)
  simp -implicitDefEqProofs only [zA,reduceIte,reduceCtorEq,Nat.reduceEqDiff,Nat.reduceAdd,Nat.reduceMul,Nat.reduceLT,Nat.reduceSub,Int.reduceLT,Int.reduceLE,Int.reduceEq,Int.reduceNe,Int.reduceSub,Int.reduceAdd,Int.reduceMul,Int.reduceBEq,Int.reduceBNe,Int.reduceGT,Int.reduceGE,Nat.reduceGT,Int.reduceToNat,Int.reduceNeg,Nat.reduceLeDiff,Nat.reduceBEq,Nat.reduceBneDiff]
  refine (qi3 E K B3 [99] [102]).mono ?_
  rintro v H4 ⟨le4, rfl⟩
  rw [all_AB]
  have B4 := B3.le le4
  simp -implicitDefEqProofs only [zA,reduceIte,reduceCtorEq,Nat.reduceEqDiff,Nat.reduceAdd,Nat.reduceMul,Nat.reduceLT,Nat.reduceSub,Int.reduceLT,Int.reduceLE,Int.reduceEq,Int.reduceNe,Int.reduceSub,Int.reduceAdd,Int.reduceMul,Int.reduceBEq,Int.reduceBNe,Int.reduceGT,Int.reduceGE,Nat.reduceGT,Int.reduceToNat,Int.reduceNeg,Nat.reduceLeDiff,Nat.reduceBEq,Nat.reduceBneDiff]
  unfold q70
  simp -implicitDefEqProofs only [zA,reduceIte,reduceCtorEq,Nat.reduceEqDiff,Nat.reduceAdd,Nat.reduceMul,Nat.reduceLT,Nat.reduceSub,Int.reduceLT,Int.reduceLE,Int.reduceEq,Int.reduceNe,Int.reduceSub,Int.reduceAdd,Int.reduceMul,Int.reduceBEq,Int.reduceBNe,Int.reduceGT,Int.reduceGE,Nat.reduceGT,Int.reduceToNat,Int.reduceNeg,Nat.reduceLeDiff,Nat.reduceBEq,Nat.reduceBneDiff]
  refine (qdd E K B4 [99] [102]).mono ?_
  rintro v H5 ⟨le5, ow5⟩
  rw [all_AB] at ow5
  have B5 := B4.le le5
  simp -implicitDefEqProofs only [zA,reduceIte,reduceCtorEq,Nat.reduceEqDiff,Nat.reduceAdd,Nat.reduceMul,Nat.reduceLT,Nat.reduceSub,Int.reduceLT,Int.reduceLE,Int.reduceEq,Int.reduceNe,Int.reduceSub,Int.reduceAdd,Int.reduceMul,Int.reduceBEq,Int.reduceBNe,Int.reduceGT,Int.reduceGE,Nat.reduceGT,Int.reduceToNat,Int.reduceNeg,Nat.reduceLeDiff,Nat.reduceBEq,Nat.reduceBneDiff]
  intro b6 hb6
  try simp -implicitDefEqProofs only [zA,reduceIte,reduceCtorEq,Nat.reduceEqDiff,Nat.reduceAdd,Nat.reduceMul,Nat.reduceLT,Nat.reduceSub,Int.reduceLT,Int.reduceLE,Int.reduceEq,Int.reduceNe,Int.reduceSub,Int.reduceAdd,Int.reduceMul,Int.reduceBEq,Int.reduceBNe,Int.reduceGT,Int.reduceGE,Nat.reduceGT,Int.reduceToNat,Int.reduceNeg,Nat.reduceLeDiff,Nat.reduceBEq,Nat.reduceBneDiff]
  have le6 := Heap.q14 (Heap.q0f H5) hb6 (.own 0 [strV [120], strV [121]] 2)
  refine (qi8 E (L := [[120], [121]]) (M := [[120], [121]]) (Sl.le le6 ow5.sl) (Sl.lit (n := 2) rfl) (by decide) (by decide)).mono ?_
  rintro v H6 ⟨rfl, rfl⟩
  have B6 := B5.le le6
  have leY := Heap.q06 le3 (Heap.q06 le4 (Heap.q06 le5 le6))
  have ey : binV .eql (strV [121]) (.string ⟨#[121]⟩) = some (.bool true) := by
    exact qgc [121] [121]
  generalize (H5.set b6 (.own 0 [strV [120], strV [121]] 2)) = G at le6 B6 leY
  have gl : ([[120], [121]] : List Str).getLastD [] = [121] := rfl
  have gn : decide (([[120], [121]] : List Str) ≠ []) = true := by decide
  simp -implicitDefEqProofs only [zA,reduceIte,reduceCtorEq,Nat.reduceEqDiff,Nat.reduceAdd,Nat.reduceMul,Nat.reduceLT,Nat.reduceSub,Int.reduceLT,Int.reduceLE,Int.reduceEq,Int.reduceNe,Int.reduceSub,Int.reduceAdd,Int.reduceMul,Int.reduceBEq,Int.reduceBNe,Int.reduceGT,Int.reduceGE,Nat.reduceGT,Int.reduceToNat,Int.reduceNeg,Nat.reduceLeDiff,Nat.reduceBEq,Nat.reduceBneDiff,gl,gn,ey]
  refine (qff E K B6).mono ?_
  rintro v H7 ⟨le7, ow7⟩
  rw [con_AB] at ow7
  have B7 := B6.le le7
  simp -implicitDefEqProofs only [zA,reduceIte,reduceCtorEq,Nat.reduceEqDiff,Nat.reduceAdd,Nat.reduceMul,Nat.reduceLT,Nat.reduceSub,Int.reduceLT,Int.reduceLE,Int.reduceEq,Int.reduceNe,Int.reduceSub,Int.reduceAdd,Int.reduceMul,Int.reduceBEq,Int.reduceBNe,Int.reduceGT,Int.reduceGE,Nat.reduceGT,Int.reduceToNat,Int.reduceNeg,Nat.reduceLeDiff,Nat.reduceBEq,Nat.reduceBneDiff]
  intro b8 hb8
  try simp -implicitDefEqProofs only [zA,reduceIte,reduceCtorEq,Nat.reduceEqDiff,Nat.reduceAdd,Nat.reduceMul,Nat.reduceLT,Nat.reduceSub,Int.reduceLT,Int.reduceLE,Int.reduceEq,Int.reduceNe,Int.reduceSub,Int.reduceAdd,Int.reduceMul,Int.reduceBEq,Int.reduceBNe,Int.reduceGT,Int.reduceGE,Nat.reduceGT,Int.reduceToNat,Int.reduceNeg,Nat.reduceLeDiff,Nat.reduceBEq,Nat.reduceBneDiff]
  have le8 := Heap.q14 (Heap.q0f H7) hb8 (.own 0 [strV [99]] 1)
  refine (qi8 E (L := [[99]]) (M := [[99]]) (Sl.le le8 ow7.sl) (Sl.lit (n := 1) rfl) (by decide) (by decide)).mono ?_
  rintro v H8 ⟨rfl, rfl⟩
  have B8 := B7.le le8
  have leZ := Heap.q06 leY (Heap.q06 le7 le8)
  generalize (H7.set b8 (.own 0 [strV [99]] 1)) = G2 at le8 B8 leZ
  simp -implicitDefEqProofs only [zA,reduceIte,reduceCtorEq,Nat.reduceEqDiff,Nat.reduceAdd,Nat.reduceMul,Nat.reduceLT,Nat.reduceSub,Int.reduceLT,Int.reduceLE,Int.reduceEq,Int.reduceNe,Int.reduceSub,Int.reduceAdd,Int.reduceMul,Int.reduceBEq,Int.reduceBNe,Int.reduceGT,Int.reduceGE,Nat.reduceGT,Int.reduceToNat,Int.reduceNeg,Nat.reduceLeDiff,Nat.reduceBEq,Nat.reduceBneDiff]
  refine (qk1 E B8).mono ?_
  rintro v H9 ⟨le9, w, hw, rfl⟩
  have ew := hw.eq vec_AB
  subst ew
  simp -implicitDefEqProofs only [zA,reduceIte,reduceCtorEq,Nat.reduceEqDiff,Nat.reduceAdd,Nat.reduceMul,Nat.reduceLT,Nat.reduceSub,Int.reduceLT,Int.reduceLE,Int.reduceEq,Int.reduceNe,Int.reduceSub,Int.reduceAdd,Int.reduceMul,Int.reduceBEq,Int.reduceBNe,Int.reduceGT,Int.reduceGE,Nat.reduceGT,Int.reduceToNat,Int.reduceNeg,Nat.reduceLeDiff,Nat.reduceBEq,Nat.reduceBneDiff]
  change q0a (some (.agg (([1, 1, 0, 0, 0, 0, 0, 0] : List Int).map (.int .i64)).toArray)) _ _
  have k1 : q02 (List.replicate 8 (some IntKind.i64)) (([1, 1, 0, 0, 0, 0, 0, 0] : List Int).map (.int .i64)) = true := rfl
  have k3 : q0k (([1, 1, 0, 0, 0, 0, 0, 0] : List Int).map (.int .i64)) (([1, 1, 0, 0, 0, 0, 0, 0] : List Int).map (.int .i64)) = true := rfl
  simp -implicitDefEqProofs only [zA,reduceIte,reduceCtorEq,Nat.reduceEqDiff,Nat.reduceAdd,Nat.reduceMul,Nat.reduceLT,Nat.reduceSub,Int.reduceLT,Int.reduceLE,Int.reduceEq,Int.reduceNe,Int.reduceSub,Int.reduceAdd,Int.reduceMul,Int.reduceBEq,Int.reduceBNe,Int.reduceGT,Int.reduceGE,Nat.reduceGT,Int.reduceToNat,Int.reduceNeg,Nat.reduceLeDiff,Nat.reduceBEq,Nat.reduceBneDiff,k1,k3]
  exact Heap.q06 leZ le9
end Go.Bb
namespace Go.Bb
set_option linter.unusedSimpArgs false
set_option linter.unusedVariables false
set_option maxRecDepth 20000
theorem list15 {α : Type} {l : List α} (h : l.length = 15) : ∃ a0 a1 a2 a3 a4 a5 a6 a7 a8 a9 a10 a11 a12 a13 a14, l = [a0, a1, a2, a3, a4, a5, a6, a7, a8, a9, a10, a11, a12, a13, a14] := by
  match l, h with
  | [a0, a1, a2, a3, a4, a5, a6, a7, a8, a9, a10, a11, a12, a13, a14], _ => exact ⟨a0, a1, a2, a3, a4, a5, a6, a7, a8, a9, a10, a11, a12, a13, a14, rfl⟩
theorem str_strV (s : ByteArray) : Value.string s = strV s.data.toList := by simp [strV]
theorem ok_edC {W : World} {v : Value} (h : Shp.ok W (.struct 15 (.fld 0 2 (.struct 2 (.fld 0 1 (.int .i64) (.fld 1 1 (.int .i64) .fend))) (.fld 2 8 (.array 8 1 (.int .i64)) (.fld 10 1 (.int .i64) (.fld 11 1 .str (.fld 12 1 .str (.fld 13 1 .str (.fld 14 1 (.int .i64) .fend)))))))) v) :
    ∃ e : Ed, v = .agg (Value.int .i64 e.dev :: .int .i64 e.n :: (e.seen.map (.int .i64) ++ [.int .i64 e.kind, strV e.con, strV e.fld, strV e.val, .int .i64 e.time])).toArray ∧ e.seen.length = 8 ∧ -9223372036854775808 ≤ e.n ∧ e.n ≤ 9223372036854775807 ∧ -9223372036854775808 ≤ e.dev ∧ e.dev ≤ 9223372036854775807 ∧ e.con.length ≤ 9223372036854775807 ∧ e.fld.length ≤ 9223372036854775807 ∧ e.val.length ≤ 9223372036854775807 := by
  obtain ⟨⟨h1, h2⟩, h3⟩ := h
  simp only [Shp.wide, if_true] at h3
  obtain ⟨cs, rfl⟩ := h3
  have hc : (Value.agg cs).cells = cs := rfl
  rw [hc] at h1 h2
  obtain ⟨c0, c1, c2, c3, c4, c5, c6, c7, c8, c9, c10, c11, c12, c13, c14, hl⟩ := list15 h1
  rw [hl] at h2
  simp only [Shp.okC] at h2
  obtain ⟨⟨-, ⟨d, e0, d1, d2⟩, ⟨n, e1, n1, n2⟩, -⟩, ⟨-, hs⟩, ⟨k, e10, k1, k2⟩, ⟨s11, e11, l11⟩, ⟨s12, e12, l12⟩, ⟨s13, e13, l13⟩, ⟨t, e14, t1, t2⟩, -⟩ := h2
  obtain ⟨x0, f0, -⟩ := hs 0 (by omega)
  obtain ⟨x1, f1, -⟩ := hs 1 (by omega)
  obtain ⟨x2, f2, -⟩ := hs 2 (by omega)
  obtain ⟨x3, f3, -⟩ := hs 3 (by omega)
  obtain ⟨x4, f4, -⟩ := hs 4 (by omega)
  obtain ⟨x5, f5, -⟩ := hs 5 (by omega)
  obtain ⟨x6, f6, -⟩ := hs 6 (by omega)
  obtain ⟨x7, f7, -⟩ := hs 7 (by omega)
  cases e0; cases e1; cases e10; cases e11; cases e12; cases e13; cases e14
  cases f0; cases f1; cases f2; cases f3; cases f4; cases f5; cases f6; cases f7
  refine ⟨⟨d, n, [x0, x1, x2, x3, x4, x5, x6, x7], k, s11.data.toList, s12.data.toList, s13.data.toList, t⟩, ?_, rfl, n1, n2, d1, d2, by simpa using l11, by simpa using l12, by simpa using l13⟩
  congr 1
  apply Array.toList_inj.1
  rw [hl]
  simp only [str_strV]
  rfl
end Go.Bb
namespace Go.Bb
set_option linter.unusedSimpArgs false
set_option linter.unusedVariables false
set_option maxRecDepth 20000
set_option maxHeartbeats 2000000
structure ArgE (e : Ed) : Prop where
  h8 : e.seen.length = 8
  hc : e.con.length ≤ 9223372036854775807
  hf : e.fld.length ≤ 9223372036854775807
  n1 : -9223372036854775808 ≤ e.n
  n2 : e.n ≤ 9223372036854775807
abbrev edShp : Shp := .struct 15 (.fld 0 2 (.struct 2 (.fld 0 1 (.int .i64) (.fld 1 1 (.int .i64) .fend))) (.fld 2 8 (.array 8 1 (.int .i64)) (.fld 10 1 (.int .i64) (.fld 11 1 .str (.fld 12 1 .str (.fld 13 1 .str (.fld 14 1 (.int .i64) .fend)))))))
theorem ok_ed1 {W : World} {v : Value} (h : Shp.ok W edShp v) : ∃ e : Ed, v = edV e ∧ ArgE e := by
  obtain ⟨e, h1, h2, h3, h4, h5, h6, h7, h8, -⟩ := ok_edC h
  exact ⟨e, h1, h2, h7, h8, h3, h4⟩
theorem ok_eds {W : World} {v : Value} (h : Shp.ok W (.slice 15 edShp) v) :
    ∃ L : List Ed, Sl (qaa W) 15 v L.length (L.flatMap edC) ∧ L.length ≤ 9223372036854775807 ∧ ∀ e ∈ L, ArgE e := by
  obtain ⟨L, h1, h2, h3⟩ := Shp.ok_rows encE (fun x => ArgE x.1) qb0 (fun l hl => by
    obtain ⟨e, he, ha⟩ := ok_ed1 (W := W) (v := .agg l.toArray) ⟨by simpa [Value.cells] using hl, by simp only [Shp.wide, if_true]; exact ⟨_, rfl⟩⟩
    refine ⟨⟨e, ha.h8⟩, ?_, ha⟩
    unfold edV at he
    simp only [Value.agg.injEq] at he
    exact congrArg Array.toList he) h
  refine ⟨L.map (·.1), ?_, by simpa using h2, ?_⟩
  · rw [← qcd, List.length_map]; exact h1
  · intro e he
    obtain ⟨x, hx, rfl⟩ := List.mem_map.1 he
    exact h3 x hx
def qi7 (S : List Ed) (L : List Ed) : List Ed := L.foldl (fun S e => (addB S e).1) S
theorem qk5 (S L : List Ed) (e : Ed) : qi7 S (L ++ [e]) = (addB (qi7 S L) e).1 := by simp [qi7]
theorem addB_len (S : List Ed) (e : Ed) : (addB S e).1.length ≤ S.length + 1 := by
  unfold addB
  split
  · split
    · split <;> simp
    · split
      · simp
      · rw [(q81 q46 e S).length_eq]; simp
  · simp
theorem qi6 : ∀ (L S : List Ed), (qi7 S L).length ≤ S.length + L.length
  | [], S => by simp [qi7]
  | e :: L, S => by
    have h1 := qi6 L (addB S e).1
    have h2 := addB_len S e
    simp only [qi7, List.foldl_cons, List.length_cons] at h1 ⊢
    omega
end Go.Bb
namespace Go.Bb
set_option linter.unusedSimpArgs false
set_option linter.unusedVariables false
def qgi (a b : Ed) : Prop := a.dev = b.dev ∧ a.n = b.n
theorem addB_new {S : List Ed} {e : Ed} (hg : q84 e = true) (hn : ∀ s ∈ S, ¬ qgi s e) (hl : S.length < 500) : addB S e = (insR q46 e S, 0) := by
  unfold addB
  rw [if_pos hg, q9g.2 hn]
  simp only
  rw [if_neg (by omega)]
theorem addB_ok {S : List Ed} (ok : BkS S) {e : Ed} (h8 : e.seen.length = 8) : BkS (addB S e).1 := by
  unfold addB
  split
  · rename_i hg
    split
    · split <;> exact ok
    · rename_i hn
      split
      · exact ok
      · rename_i hl; exact ok.ins hg h8 hn hl
  · exact ok
theorem BkS.dots {S : List Ed} (ok : BkS S) : S.Pairwise (fun a b => ¬ qgi a b) := ok.rise.imp fun {a b} k => by unfold qgi; unfold q46 at k; omega
end Go.Bb
namespace Go.Bb
set_option linter.unusedSimpArgs false
set_option linter.unusedVariables false
set_option maxRecDepth 20000
set_option maxHeartbeats 2000000
open Go.MapKept
theorem BookAt.apart {H : Heap} {b r x : Nat} {S : List Ed} (B : BookAt H b r S) (hx : H x = none) : b ≠ x ∧ r ≠ x := by
  obtain ⟨es, c, L, g, _⟩ := B.qr
  exact ⟨fun e => (by have := B.qb; rw [e, hx] at this; cases this), fun e => (by rw [e, hx] at g; cases g)⟩
end Go.Bb
namespace Go.Bb
set_option linter.unusedSimpArgs false
set_option linter.unusedVariables false
set_option maxRecDepth 20000
set_option maxHeartbeats 2000000
open Go.MapKept
theorem qjx {G : Heap} {b o : Nat} {e : Ed} (h8 : e.seen.length = 8) (h : q08 G ⟨b, o, none⟩ 15 = some (edC e)) : q08 G ⟨b, o, none⟩ 2 = some [.int .i64 e.dev, .int .i64 e.n] := by
  have := q9d h 0 2 (by decide)
  rw [Nat.add_zero] at this
  rw [this]; rfl
end Go.Bb
namespace Go.Bb
set_option linter.unusedSimpArgs false
set_option linter.unusedVariables false
structure GoodP (e : Ed) : Prop where
  d0 : 0 ≤ e.dev
  d8 : e.dev < 8
  n1 : 1 ≤ e.n
  n2 : e.n ≤ 1099511627776
  seen : vecG e.seen = true
  own : e.seen[e.dev.toNat]? = some (e.n - 1)
  t0 : 0 ≤ e.time
  t1 : e.time ≤ 1099511627776
  con : qcx e.con = true
  kind : (e.kind = 1 ∧ qcx e.fld = true ∧ e.val.length ≤ 200) ∨ (e.kind = 2 ∧ e.fld = [] ∧ e.val = [])
theorem qjy {e : Ed} : q84 e = true ↔ GoodP e := by
  unfold q84
  simp only [Bool.and_eq_true, Bool.or_eq_true, decide_eq_true_eq]
  constructor
  · rintro ⟨⟨⟨⟨⟨⟨⟨h1, h1'⟩, h2, h2'⟩, h3⟩, h4⟩, h5, h5'⟩, h6⟩, h7⟩
    exact ⟨h1, h1', h2, h2', h3, h4, h5, h5', h6, h7⟩
  · rintro ⟨h1, h1', h2, h2', h3, h4, h5, h5', h6, h7⟩
    exact ⟨⟨⟨⟨⟨⟨⟨h1, h1'⟩, h2, h2'⟩, h3⟩, h4⟩, h5, h5'⟩, h6⟩, h7⟩
theorem qgr {v : List Int} {k : Nat} {x : Int} (h : v[k]? = some x) : v.getD k 0 = x := by simp [List.getD, h]
theorem qgq {v : List Int} {d n : Int} : hasV v d n = true ↔ (0 ≤ d ∧ d < 8) ∧ 1 ≤ n ∧ n ≤ v.getD d.toNat 0 := by
  unfold hasV
  simp only [Bool.and_eq_true, decide_eq_true_eq]
theorem qkt {e : Ed} (h : q84 e = true) : q82 e e = false := by
  have g := qjy.1 h
  have h2 : hasV e.seen e.dev e.n = false := by
    rw [← Bool.not_eq_true, qgq, qgr g.own]
    omega
  simp [q82, h2]
theorem qj4 {a b : Ed} : q82 a b = true ↔ b.kind = 1 ∧ hasV a.seen b.dev b.n = true ∧ a.con = b.con ∧ (a.kind = 2 ∨ (a.kind = 1 ∧ a.fld = b.fld)) := by
  unfold q82
  simp only [Bool.and_eq_true, Bool.or_eq_true, decide_eq_true_eq]
theorem over_not {a b : Ed} (h : hasV a.seen b.dev b.n = false) : q82 a b = false := by simp [q82, h]
theorem all_one {α : Type} {l : List α} {e : α} (hn : l.Nodup) (he : e ∈ l) (h : ∀ x ∈ l, x = e) : l = [e] := by
  match l, hn, he, h with
  | [a], _, _, h => rw [h a (by simp)]
  | a :: b :: l, hn, _, h =>
    have h1 := h a (by simp)
    have h2 := h b (by simp)
    rw [List.nodup_cons] at hn
    exact absurd (by rw [h1, h2]; simp) hn.1
theorem qih {S : List Ed} (ok : BkS S) : (qa4 S).Nodup :=
  List.Pairwise.imp (fun {a b} (k : q9c a b) (e : a = b) => q8y b (by rw [e] at k; exact k)) (qac ok)
theorem q8f {S : List Ed} {e x : Ed} : x ∈ insR q46 e S ↔ x = e ∨ x ∈ S := by
  rw [(q81 q46 e S).mem_iff, List.mem_cons]
theorem qj7 {S : List Ed} (ok : BkS S) {e : Ed} (hg : q84 e = true) (h8 : e.seen.length = 8) (hl : S.length < 500) (hk : e.kind = 1)
    (hm : ∀ x ∈ S, x.con = e.con → x.fld = e.fld → x.n ≤ e.seen.getD x.dev.toNat 0) (hnew : ∀ x ∈ S, ¬ qgi x e) (hs : ∀ x ∈ S, hasV x.seen e.dev e.n = false) :
    addB S e = (insR q46 e S, 0) ∧ BkS (insR q46 e S) ∧ allB (insR q46 e S) e.con e.fld = [e.val] := by
  have h1 := addB_new hg hnew hl
  have ok2 : BkS (insR q46 e S) := by have := addB_ok ok h8 (e := e); rwa [h1] at this
  refine ⟨h1, ok2, ?_⟩
  have hmem : ∀ x, x ∈ (qa4 (insR q46 e S)).filter (fun x => decide (x.con = e.con) && decide (x.fld = e.fld)) ↔ x = e := fun x => by
    rw [List.mem_filter, qev, Bool.and_eq_true, decide_eq_true_eq, decide_eq_true_eq]
    constructor
    · rintro ⟨⟨hx, hk1, ho⟩, hc, hf⟩
      rcases q8f.1 hx with h | h
      · exact h
      · exfalso
        have hq := ho e (q8f.2 (.inl rfl))
        have g := qjy.1 (ok.good x h)
        have : q82 e x = true := qj4.2 ⟨hk1, qgq.2 ⟨⟨g.d0, g.d8⟩, g.n1, hm x h hc hf⟩, hc.symm, .inr ⟨hk, hf.symm⟩⟩
        rw [hq] at this; cases this
    · rintro rfl
      refine ⟨⟨q8f.2 (.inl rfl), hk, fun a ha => ?_⟩, rfl, rfl⟩
      rcases q8f.1 ha with h | h
      · rw [h]; exact qkt hg
      · exact over_not (hs a h)
  unfold allB
  rw [all_one ((qih ok2).filter _) ((hmem e).2 rfl) fun x hx => (hmem x).1 hx]
  rfl
end Go.Bb
namespace Go.Bb
set_option linter.unusedSimpArgs false
set_option linter.unusedVariables false
def atF (con fld : Str) (x : Ed) : Bool := decide (x.con = con) && decide (x.fld = fld)
theorem atF_iff {con fld : Str} {x : Ed} : atF con fld x = true ↔ x.con = con ∧ x.fld = fld := by simp [atF]
def qh9 (S : List Ed) (con fld : Str) : List Ed := (qa4 S).filter (atF con fld)
theorem qlx (S : List Ed) (con fld : Str) : allB S con fld = (qh9 S con fld).map (·.val) := rfl
theorem qdk {S : List Ed} (ok : BkS S) (con fld : Str) : (qh9 S con fld).Pairwise q9c := (qac ok).sublist List.filter_sublist
theorem qc1 {S : List Ed} {con fld : Str} {x : Ed} : x ∈ qh9 S con fld ↔ (x ∈ S ∧ x.kind = 1 ∧ ∀ a ∈ S, q82 a x = false) ∧ x.con = con ∧ x.fld = fld := by
  unfold qh9
  rw [List.mem_filter, qev, atF_iff]
theorem qj2 {S T : List Ed} (ok : BkS S) (ok2 : BkS T) {con fld : Str} (h : ∀ x, x ∈ qh9 S con fld → x ∈ qh9 T con fld) : (qh9 S con fld).Sublist (qh9 T con fld) :=
  qcs q8y (fun x y z => @q9q x y z) (qdk ok2 con fld) (qdk ok con fld) h
theorem qjk {S : List Ed} (ok : BkS S) {e : Ed} (okT : BkS (insR q46 e S)) (hk : e.kind = 1) {con fld : Str} (h : e.fld ≠ fld) :
    allB (insR q46 e S) con fld = allB S con fld := by
  rw [qlx, qlx]
  have h1 := qj2 (con := con) (fld := fld) okT ok fun x hx => by
    obtain ⟨⟨h1, h2, h3⟩, h4, h5⟩ := qc1.1 hx
    rcases q8f.1 h1 with k | k
    · subst k; exact absurd h5 h
    · exact qc1.2 ⟨⟨k, h2, fun a ha => h3 a (q8f.2 (.inr ha))⟩, h4, h5⟩
  have h2 := qj2 (con := con) (fld := fld) ok okT fun x hx => by
    obtain ⟨⟨h1, h2, h3⟩, h4, h5⟩ := qc1.1 hx
    refine qc1.2 ⟨⟨q8f.2 (.inr h1), h2, fun a ha => ?_⟩, h4, h5⟩
    rcases q8f.1 ha with k | k
    · subst k
      rw [← Bool.not_eq_true, qj4]
      rintro ⟨-, -, -, q | q⟩
      · omega
      · exact h (q.2.trans h5)
    · exact h3 a k
  rw [h1.eq_of_length (Nat.le_antisymm h1.length_le h2.length_le)]
end Go.Bb
namespace Go.Bb
set_option linter.unusedSimpArgs false
set_option linter.unusedVariables false
def vecI (d i : Nat) : List Int := (List.replicate 8 (0 : Int)).set d i
theorem vecI_len (d i : Nat) : (vecI d i).length = 8 := by simp [vecI]
theorem qj1 {d : Nat} (i : Nat) (hd : d < 8) : (vecI d i)[d]? = some (i : Int) := by simp [vecI, hd]
theorem vecI_mem {d i : Nat} {x : Int} (h : x ∈ vecI d i) : x = 0 ∨ x = i := by
  unfold vecI at h
  rcases List.mem_or_eq_of_mem_set h with h | h
  · exact .inl (List.mem_replicate.1 h).2
  · exact .inr h
def qdv (f : Nat) : Str := [97 + UInt8.ofNat f]
theorem qjz {f g : Nat} (hf : f < 4) (hg : g < 4) (h : qdv f = qdv g) : f = g := by
  have : ∀ f g : Fin 4, qdv f = qdv g → f = g := by decide
  have := this ⟨f, hf⟩ ⟨g, hg⟩ h
  simpa using this
theorem qim {f : Nat} (hf : f < 4) : qcx (qdv f) = true := by
  have : ∀ f : Fin 4, qcx (qdv f) = true := by decide
  exact this ⟨f, hf⟩
def edN (d i f : Nat) (val : Str) : Ed := ⟨d, i + 1, vecI d i, 1, [99], qdv f, val, i⟩
structure NxS (d i : Nat) (S : List Ed) (last : List Str) (had : List Bool) : Prop where
  ok : BkS S
  len : S.length = i
  dev : ∀ x ∈ S, x.dev = d ∧ x.n ≤ i
  has : Has1 S d i
  l4 : last.length = 4
  h4 : had.length = 4
  all : ∀ f : Nat, f < 4 → allB S [99] (qdv f) = if had.getD f false then [last.getD f []] else []
theorem NxS.nil (d : Nat) : NxS d 0 [] (List.replicate 4 []) (List.replicate 4 false) :=
  ⟨BkS.nil, rfl, by simp, fun j h1 h2 => by omega, rfl, rfl, fun f hf => by
    have : (List.replicate 4 false).getD f false = false := by
      unfold List.getD
      rw [List.getElem?_replicate, if_pos hf]; rfl
    rw [this]; rfl⟩
theorem edN_good {d i f : Nat} {val : Str} (hd : d < 8) (hi : i < 1000) (hf : f < 4) (hv : val.length ≤ 200) : q84 (edN d i f val) = true := by
  refine qjy.2 ⟨by simp [edN], by simp [edN]; omega, by simp [edN]; omega, by simp [edN]; omega, ?_, ?_, by simp [edN], by simp [edN]; omega, by show qcx [99] = true; decide, .inl ⟨rfl, qim hf, hv⟩⟩
  · unfold vecG
    rw [List.all_eq_true]
    intro x hx
    rw [decide_eq_true_iff]
    rcases vecI_mem hx with h | h <;> omega
  · simp only [edN, Int.toNat_natCast]
    rw [qj1 i hd]
    congr 1
    omega
theorem NxS.step {d i f : Nat} {S : List Ed} {last : List Str} {had : List Bool} (s : NxS d i S last had) (hd : d < 8) (hi : i < 400) (hf : f < 4) {val : Str} (hv : val.length ≤ 200) :
    addB S (edN d i f val) = (insR q46 (edN d i f val) S, 0) ∧ NxS d (i + 1) (insR q46 (edN d i f val) S) (last.set f val) (had.set f true) := by
  have hg := edN_good hd (by omega : i < 1000) hf hv
  have hlast := qj7 s.ok hg (vecI_len d i) (by rw [s.len]; omega) rfl (fun x hx _ _ => by
      have h1 := s.dev x hx
      show x.n ≤ (vecI d i).getD x.dev.toNat 0
      rw [h1.1, Int.toNat_natCast, qgr (qj1 i hd)]
      exact h1.2)
    (fun x hx h => by
      have h1 := s.dev x hx
      have := h.2
      simp only [edN] at this
      omega)
    (fun x hx => by
      have h1 := s.dev x hx
      have g := qjy.1 (s.ok.good x hx)
      have ho := g.own
      rw [h1.1] at ho
      rw [← Bool.not_eq_true, qgq]
      show ¬ (_ ∧ _ ∧ ((i : Int) + 1) ≤ x.seen.getD ((d : Int).toNat) 0)
      rw [qgr ho]
      omega)
  obtain ⟨h1, h2, h3⟩ := hlast
  refine ⟨h1, h2, by rw [(q81 q46 _ S).length_eq, List.length_cons, s.len], fun x hx => ?_, fun j h4 h5 => ?_, by rw [List.length_set]; exact s.l4, by rw [List.length_set]; exact s.h4, fun g hg4 => ?_⟩
  · rcases q8f.1 hx with h | h
    · rw [h]; simp [edN]
    · have := s.dev x h
      refine ⟨this.1, by omega⟩
  · by_cases e : j = i + 1
    · exact ⟨_, q8f.2 (.inl rfl), rfl, by rw [e]; simp [edN]⟩
    · obtain ⟨x, hx, hq⟩ := s.has j h4 (by omega)
      exact ⟨x, q8f.2 (.inr hx), hq⟩
  · by_cases e : g = f
    · subst e
      have e1 : (had.set g true).getD g false = true := by simp [List.getD, s.h4, hg4]
      have e2 : (last.set g val).getD g [] = val := by simp [List.getD, s.l4, hg4]
      rw [e1, e2]
      exact h3
    · have e1 : (had.set f true).getD g false = had.getD g false := by simp [List.getD, List.getElem?_set, Ne.symm e]
      have e2 : (last.set f val).getD g [] = last.getD g [] := by simp [List.getD, List.getElem?_set, Ne.symm e]
      rw [e1, e2, ← s.all g hg4]
      exact qjk s.ok h2 rfl (fun h => e (qjz hg4 hf h.symm))
end Go.Bb
namespace Go.Bb
set_option linter.unusedSimpArgs false
set_option linter.unusedVariables false
set_option maxRecDepth 20000
set_option maxHeartbeats 2000000
open Go.MapKept
theorem withV_eq {o : Option Value} {v : Value} {K : Value → Heap → Prop} {h : Heap} (e : o = some v) (k : q0a (some v) K h) : q0a o K h := by rw [e]; exact k
theorem len8 {α : Type} {l : List α} (h : l.length = 8) : ∃ a b c d e f g i, l = [a, b, c, d, e, f, g, i] := by
  match l, h with
  | [a, b, c, d, e, f, g, i], _ => exact ⟨a, b, c, d, e, f, g, i, rfl⟩
end Go.Bb
namespace Go.Bb
set_option linter.unusedSimpArgs false
set_option linter.unusedVariables false
set_option maxRecDepth 20000
set_option maxHeartbeats 2000000
def Kp (b : Nat) (H H' : Heap) : Prop := ∀ c x, c ≠ b → H c = some x → H' c = some x
theorem Kp.refl (b : Nat) (H : Heap) : Kp b H H := fun _ _ _ h => h
theorem Kp.of {b : Nat} {H H' : Heap} (le : H.le H') : Kp b H H' := fun c x _ h => le c x h
theorem Kp.trans {b : Nat} {H H' H'' : Heap} (x : Kp b H H') (y : Kp b H' H'') : Kp b H H'' := fun c z n h => y c z n (x c z n h)
theorem Kp.set (b : Nat) (H : Heap) (X : Blk) : Kp b H (H.set b X) := fun c x n h => by rw [Heap.q68 n]; exact h
theorem Ow.kp {h0 H H' : Heap} {b size : Nat} {v : Value} {n : Nat} {cells : List Value} (s : Ow h0 H size v n cells) (k : Kp b H H') (hb : h0 b ≠ none) : Ow h0 H' size v n cells := by
  rcases s with s | ⟨b', o, c, sz, st, pre, rest, h1, h2, h3, h4, h5⟩
  · exact .inl s
  · exact .inr ⟨b', o, c, sz, st, pre, rest, h1, h2, h3, k _ _ (by intro e; subst e; exact hb h3) h4, h5⟩
def RdR (h0 H : Heap) (b : Nat) (s : RS) : Prop := h0.le H ∧ h0 b = none ∧ ∃ v, H b = some (.own 0 [v, .bool s.isNone] 2) ∧ SlB h0 v (s.getD [])
theorem RdR.le {h0 H H' : Heap} {b : Nat} {s : RS} (R : RdR h0 H b s) (le : H.le H') : RdR h0 H' b s := by
  obtain ⟨a, c, v, q, sl⟩ := R
  exact ⟨Heap.q06 a le, c, v, le _ _ q, sl⟩
theorem RdR.put {h0 H : Heap} {b : Nat} {s : RS} (R : RdR h0 H b s) (s' : RS) {v : Value} (sl : SlB h0 v (s'.getD [])) : RdR h0 (H.set b (.own 0 [v, .bool s'.isNone] 2)) b s' := by
  obtain ⟨a, c, v0, q, -⟩ := R
  exact ⟨Heap.q14 a c _, c, v, Heap.q05 _ _ _, sl⟩
theorem RdR.ne {h0 H : Heap} {b : Nat} {s : RS} (R : RdR h0 H b s) : H b ≠ none := by
  obtain ⟨a, c, v0, q, -⟩ := R
  rw [q]; simp
theorem RdR.other {h0 G : Heap} {b b3 : Nat} {s : RS} (R : RdR h0 G b s) (hn : h0 b3 = none) (ne : b3 ≠ b) (X : Blk) : RdR h0 (G.set b3 X) b s := by
  obtain ⟨a, c, v, q, sl⟩ := R
  exact ⟨Heap.q14 a hn _, c, v, by rw [Heap.q68 ne.symm]; exact q, sl⟩
theorem Kp.other {b b3 : Nat} {H G : Heap} (k : Kp b H G) (hn : H b3 = none) (X : Blk) : Kp b H (G.set b3 X) := fun c x ne h => by
  rw [Heap.q68 (by intro e; subst e; rw [hn] at h; cases h)]
  exact k c x ne h
end Go.Bb
namespace Go.Bb
set_option linter.unusedSimpArgs false
set_option linter.unusedVariables false
set_option maxRecDepth 20000
set_option maxHeartbeats 2000000
open Go.MapKept
structure MostV (G : Heap) (bm : Nat) (v : List Int) : Prop where
  own : G bm = some (.own 0 (v.map (.int .i64)) 8)
  h8 : v.length = 8
  bd : ∀ x ∈ v, 0 ≤ x ∧ x ≤ 1099511627776
theorem MostV.le {G G' : Heap} {bm : Nat} {v : List Int} (m : MostV G bm v) (le : G.le G') : MostV G' bm v := ⟨le _ _ m.own, m.h8, m.bd⟩
theorem MostV.keep {G G' : Heap} {bm q : Nat} {v : List Int} (m : MostV G bm v) (k : Keep q G G') (h : bm ≠ q) : MostV G' bm v := ⟨k _ _ m.own h, m.h8, m.bd⟩
theorem MostV.cell {G : Heap} {bm : Nat} {v : List Int} (m : MostV G bm v) {d : Int} (h0 : 0 ≤ d) (h1 : d < 8) : q25 G ⟨bm, d.toNat, none⟩ = some (.int .i64 (v.getD d.toNat 0)) := by
  have hl : d.toNat < v.length := by rw [m.h8]; omega
  rw [q4m m.own (by simp; exact hl)]
  simp [List.getD, hl]
theorem MostV.val {G : Heap} {bm : Nat} {v : List Int} (m : MostV G bm v) (d : Int) : 0 ≤ v.getD d.toNat 0 ∧ v.getD d.toNat 0 ≤ 1099511627776 := by
  by_cases hl : d.toNat < v.length
  · have : v.getD d.toNat 0 = v[d.toNat] := by simp [List.getD, hl]
    rw [this]; exact m.bd _ (List.getElem_mem hl)
  · have : v.getD d.toNat 0 = 0 := by simp [List.getD, hl]
    rw [this]; omega
theorem MostV.at {G : Heap} {bm : Nat} {v : List Int} (m : MostV G bm v) : q08 G ⟨bm, 0, none⟩ 8 = some (v.map (.int .i64)) := by
  rw [qae m.own (by simp [m.h8])]
  simp [m.h8, List.take_of_length_le]
theorem MostV.put {G : Heap} {bm : Nat} {v : List Int} (m : MostV G bm v) {d x : Int} (h0 : 0 ≤ d) (h1 : d < 8) (hx : 0 ≤ x ∧ x ≤ 1099511627776) :
    q7x G 1 (.pointer (some ⟨bm, d.toNat, none⟩)) (.int .i64 x) = some (G.set bm (.own 0 ((v.set d.toNat x).map (.int .i64)) 8)) ∧ MostV (G.set bm (.own 0 ((v.set d.toNat x).map (.int .i64)) 8)) bm (v.set d.toNat x) := by
  refine ⟨?_, Heap.q05 _ _ _, by rw [List.length_set]; exact m.h8, fun y hy => ?_⟩
  · rw [qc2 m.own rfl (by simp [m.h8]; omega) (by simp [m.h8]), List.map_set]
  · rcases List.mem_or_eq_of_mem_set hy with h | h
    · exact m.bd y h
    · rw [h]; exact hx
theorem qj9 {v : List Int} (h8 : v.length = 8) {d x e : Int} (h0 : 0 ≤ d) (h1 : d < 8) (he : 0 ≤ e) (he1 : e < 8) : (v.set d.toNat x).getD e.toNat 0 = if e = d then x else v.getD e.toNat 0 := by
  have hl : d.toNat < v.length := by rw [h8]; omega
  by_cases q : e = d
  · subst q; simp [List.getD, hl]
  · rw [if_neg q]
    simp only [List.getD]
    rw [List.getElem?_set, if_neg (by omega)]
theorem Keep.setB {H G : Heap} {b : Nat} (k : Keep b H G) (X : Blk) : Keep b H (G.set b X) := fun c x h n => by rw [Heap.q68 n]; exact k c x h n
theorem qij {G : Heap} {b o : Nat} {e : Ed} (h8 : e.seen.length = 8) (h : q08 G ⟨b, o, none⟩ 15 = some (edC e)) : q08 G ⟨b, o + 2, none⟩ 8 = some (e.seen.map (.int .i64)) := by
  have := q9d h 2 8 (by decide)
  rw [this]
  unfold edC
  rw [List.drop_succ_cons, List.drop_succ_cons, List.drop_zero, List.take_left' (by simp [h8])]
theorem qa1 (E : EnvT tab) (K : BkOk E) (W : World) {v0 v1 v2 v3 v4 : Value} (s0 : Shp.ok W (.slice 15 edShp) v0) (s1 : Shp.ok W (.int .i64) v1) (s2 : Shp.ok W .str v2) (s3 : Shp.ok W .str v3) (s4 : Shp.ok W .str v4) :
    ACallN E.toEnv q9p [v0, v1, v2, v3, v4] (qaa W) fun v _ => v = .bool true := by
  obtain ⟨L, sL, hL, aL⟩ := ok_eds s0
  obtain ⟨dev, rfl, hd1, hd2⟩ := Shp.ok_int s1
  obtain ⟨con, rfl, hcon⟩ := qie s2
  obtain ⟨fld, rfl, hfld⟩ := qie s3
  obtain ⟨val, rfl, hval⟩ := qie s4
  have hL8 : ∀ e ∈ L, e.seen.length = 8 := fun e he => (aL e he).h8
  generalize qaa W = H at sL
  obtain ⟨base, c, rfl⟩ := sL.shape
  refine q3q q3z q1l rfl rfl (q01 ?_)
  unfold q1l
  simp -implicitDefEqProofs only [zA,reduceIte,reduceCtorEq,Nat.reduceEqDiff,Nat.reduceAdd,Nat.reduceMul,Nat.reduceLT,Nat.reduceSub,Int.reduceLT,Int.reduceLE,Int.reduceEq,Int.reduceNe,Int.reduceSub,Int.reduceAdd,Int.reduceMul,Int.reduceBEq,Int.reduceBNe,Int.reduceGT,Int.reduceGE,Nat.reduceGT,Int.reduceToNat,Int.reduceNeg,Nat.reduceLeDiff,Nat.reduceBEq,Nat.reduceBneDiff]
  unfold q52
  simp -implicitDefEqProofs only [zA,reduceIte,reduceCtorEq,Nat.reduceEqDiff,Nat.reduceAdd,Nat.reduceMul,Nat.reduceLT,Nat.reduceSub,Int.reduceLT,Int.reduceLE,Int.reduceEq,Int.reduceNe,Int.reduceSub,Int.reduceAdd,Int.reduceMul,Int.reduceBEq,Int.reduceBNe,Int.reduceGT,Int.reduceGE,Nat.reduceGT,Int.reduceToNat,Int.reduceNeg,Nat.reduceLeDiff,Nat.reduceBEq,Nat.reduceBneDiff]
  refine (qgn E K H).mono ?_
  rintro v H0 ⟨le0, rfl⟩
  by_cases g1 : (30 : Int) < L.length
  · simp -implicitDefEqProofs only [zA,reduceIte,reduceCtorEq,Nat.reduceEqDiff,Nat.reduceAdd,Nat.reduceMul,Nat.reduceLT,Nat.reduceSub,Int.reduceLT,Int.reduceLE,Int.reduceEq,Int.reduceNe,Int.reduceSub,Int.reduceAdd,Int.reduceMul,Int.reduceBEq,Int.reduceBNe,Int.reduceGT,Int.reduceGE,Nat.reduceGT,Int.reduceToNat,Int.reduceNeg,Nat.reduceLeDiff,Nat.reduceBEq,Nat.reduceBneDiff,g1]
  by_cases g2 : dev < 0
  · simp -implicitDefEqProofs only [zA,reduceIte,reduceCtorEq,Nat.reduceEqDiff,Nat.reduceAdd,Nat.reduceMul,Nat.reduceLT,Nat.reduceSub,Int.reduceLT,Int.reduceLE,Int.reduceEq,Int.reduceNe,Int.reduceSub,Int.reduceAdd,Int.reduceMul,Int.reduceBEq,Int.reduceBNe,Int.reduceGT,Int.reduceGE,Nat.reduceGT,Int.reduceToNat,Int.reduceNeg,Nat.reduceLeDiff,Nat.reduceBEq,Nat.reduceBneDiff,g1,g2]
  by_cases g3 : 7 < dev
  · simp -implicitDefEqProofs only [zA,reduceIte,reduceCtorEq,Nat.reduceEqDiff,Nat.reduceAdd,Nat.reduceMul,Nat.reduceLT,Nat.reduceSub,Int.reduceLT,Int.reduceLE,Int.reduceEq,Int.reduceNe,Int.reduceSub,Int.reduceAdd,Int.reduceMul,Int.reduceBEq,Int.reduceBNe,Int.reduceGT,Int.reduceGE,Nat.reduceGT,Int.reduceToNat,Int.reduceNeg,Nat.reduceLeDiff,Nat.reduceBEq,Nat.reduceBneDiff,g1,g2,g3]
  simp -implicitDefEqProofs only [zA,reduceIte,reduceCtorEq,Nat.reduceEqDiff,Nat.reduceAdd,Nat.reduceMul,Nat.reduceLT,Nat.reduceSub,Int.reduceLT,Int.reduceLE,Int.reduceEq,Int.reduceNe,Int.reduceSub,Int.reduceAdd,Int.reduceMul,Int.reduceBEq,Int.reduceBNe,Int.reduceGT,Int.reduceGE,Nat.reduceGT,Int.reduceToNat,Int.reduceNeg,Nat.reduceLeDiff,Nat.reduceBEq,Nat.reduceBneDiff,g1,g2,g3]
  refine (qg9 E H0).mono ?_
  rintro v H1 ⟨le1, ba, ra, rfl, nba, nra, A1⟩
  simp -implicitDefEqProofs only [zA,reduceIte,reduceCtorEq,Nat.reduceEqDiff,Nat.reduceAdd,Nat.reduceMul,Nat.reduceLT,Nat.reduceSub,Int.reduceLT,Int.reduceLE,Int.reduceEq,Int.reduceNe,Int.reduceSub,Int.reduceAdd,Int.reduceMul,Int.reduceBEq,Int.reduceBNe,Int.reduceGT,Int.reduceGE,Nat.reduceGT,Int.reduceToNat,Int.reduceNeg,Nat.reduceLeDiff,Nat.reduceBEq,Nat.reduceBneDiff]
  intro bm hbm
  have st0 : q7x (H1.set bm (.own 0 (List.replicate 8 (.int .i64 0)) 8)) 8 (.pointer (some ⟨bm, 0, none⟩)) (.agg (List.replicate 8 (Value.int IntKind.i64 0)).toArray) = some (H1.set bm (.own 0 (List.replicate 8 (.int .i64 0)) 8)) := z6z (by decide) (by simp) (by simp [Bb.one]) (by simp) (by decide)
  try simp -implicitDefEqProofs only [zA,reduceIte,reduceCtorEq,Nat.reduceEqDiff,Nat.reduceAdd,Nat.reduceMul,Nat.reduceLT,Nat.reduceSub,Int.reduceLT,Int.reduceLE,Int.reduceEq,Int.reduceNe,Int.reduceSub,Int.reduceAdd,Int.reduceMul,Int.reduceBEq,Int.reduceBNe,Int.reduceGT,Int.reduceGE,Nat.reduceGT,Int.reduceToNat,Int.reduceNeg,Nat.reduceLeDiff,Nat.reduceBEq,Nat.reduceBneDiff,List.length_replicate,st0]
  obtain ⟨d1, d2⟩ := A1.apart hbm
  have leH := Heap.q06 le0 le1
  have fra : H ra = none := Heap.q3p le0 nra
  have fbm : H bm = none := Heap.q3p leH hbm
  have le2 : H1.le (H1.set bm (.own 0 (List.replicate 8 (.int .i64 0)) 8)) := Heap.q14 (Heap.q0f _) hbm _
  have M2 : MostV (H1.set bm (.own 0 (List.replicate 8 (.int .i64 0)) 8)) bm (List.replicate 8 0) := ⟨Heap.q05 _ _ _, rfl, fun x hx => by rw [(List.mem_replicate.1 hx).2]; omega⟩
  have A2 := A1.le le2
  have leH2 := Heap.q06 leH le2
  generalize (H1.set bm (.own 0 (List.replicate 8 (.int .i64 0)) 8)) = H2 at le2 M2 A2 leH2 ⊢
  unfold q54
  simp -implicitDefEqProofs only [zA,reduceIte,reduceCtorEq,Nat.reduceEqDiff,Nat.reduceAdd,Nat.reduceMul,Nat.reduceLT,Nat.reduceSub,Int.reduceLT,Int.reduceLE,Int.reduceEq,Int.reduceNe,Int.reduceSub,Int.reduceAdd,Int.reduceMul,Int.reduceBEq,Int.reduceBNe,Int.reduceGT,Int.reduceGE,Nat.reduceGT,Int.reduceToNat,Int.reduceNeg,Nat.reduceLeDiff,Nat.reduceBEq,Nat.reduceBneDiff]
  refine q2l (fun m t G => ∃ i : Nat, t = tl [(0, .slice base L.length c), (1, .int .i64 dev), (2, strV con), (3, strV fld), (4, strV val), (11, .pointer (some ⟨ba, 0, none⟩)), (12, .pointer (some ⟨bm, 0, none⟩)), (13, .int .i64 i)] ∧ i ≤ L.length ∧ m = L.length - i ∧ H.le G ∧ BookAt G ba ra (qi7 [] (L.take i)) ∧ MostV G bm (List.replicate 8 0)) L.length
    ⟨0, rfl, by omega, by omega, leH2, A2, M2⟩ ?_
  rintro m t G ⟨i, rfl, hi, rfl, le, A, M⟩
  by_cases hlt : i < L.length
  · obtain ⟨bs, o, c', hv, hc, hce⟩ := sL.edAt hL8 i hlt
    simp only [Value.slice.injEq, true_and] at hv
    obtain ⟨rfl, rfl⟩ := hv
    have hi1 : (i : Int) < L.length := by omega
    have hi2 : (0 : Int) ≤ i := by omega
    have w1 : IntKind.i64.wrap ((i : Int) + 1) = ((i + 1 : Nat) : Int) := qcq (by omega)
    have hi3 := hce _ le
    have ay := aL L[i] (List.getElem_mem hlt)
    have et : L.take (i + 1) = L.take i ++ [L[i]] := List.take_succ_eq_append_getElem hlt
    simp -implicitDefEqProofs only [zA,reduceIte,reduceCtorEq,Nat.reduceEqDiff,Nat.reduceAdd,Nat.reduceMul,Nat.reduceLT,Nat.reduceSub,Int.reduceLT,Int.reduceLE,Int.reduceEq,Int.reduceNe,Int.reduceSub,Int.reduceAdd,Int.reduceMul,Int.reduceBEq,Int.reduceBNe,Int.reduceGT,Int.reduceGE,Nat.reduceGT,Int.reduceToNat,Int.reduceNeg,Nat.reduceLeDiff,Nat.reduceBEq,Nat.reduceBneDiff,hi1,hi2,Int.toNat_natCast,hi3]
    refine (long_c E G L[i] ay.h8).mono ?_
    rintro v G1 ⟨le3, rfl⟩
    cases hlg : longE L[i] with
    | true => simp -implicitDefEqProofs only [zA,reduceIte,reduceCtorEq,Nat.reduceEqDiff,Nat.reduceAdd,Nat.reduceMul,Nat.reduceLT,Nat.reduceSub,Int.reduceLT,Int.reduceLE,Int.reduceEq,Int.reduceNe,Int.reduceSub,Int.reduceAdd,Int.reduceMul,Int.reduceBEq,Int.reduceBNe,Int.reduceGT,Int.reduceGE,Nat.reduceGT,Int.reduceToNat,Int.reduceNeg,Nat.reduceLeDiff,Nat.reduceBEq,Nat.reduceBneDiff]
    | false =>
      have hi4 := hce _ (Heap.q06 le le3)
      simp -implicitDefEqProofs only [zA,reduceIte,reduceCtorEq,Nat.reduceEqDiff,Nat.reduceAdd,Nat.reduceMul,Nat.reduceLT,Nat.reduceSub,Int.reduceLT,Int.reduceLE,Int.reduceEq,Int.reduceNe,Int.reduceSub,Int.reduceAdd,Int.reduceMul,Int.reduceBEq,Int.reduceBNe,Int.reduceGT,Int.reduceGE,Nat.reduceGT,Int.reduceToNat,Int.reduceNeg,Nat.reduceLeDiff,Nat.reduceBEq,Nat.reduceBneDiff,hi1,hi2,Int.toNat_natCast,hi4]
      refine (qb2 E (A.le le3) L[i] ay.h8 ay.hc ay.hf ay.n1 ay.n2).mono ?_
      rintro v G2 ⟨rfl, A2', k2⟩
      simp -implicitDefEqProofs only [zA,reduceIte,reduceCtorEq,Nat.reduceEqDiff,Nat.reduceAdd,Nat.reduceMul,Nat.reduceLT,Nat.reduceSub,Int.reduceLT,Int.reduceLE,Int.reduceEq,Int.reduceNe,Int.reduceSub,Int.reduceAdd,Int.reduceMul,Int.reduceBEq,Int.reduceBNe,Int.reduceGT,Int.reduceGE,Nat.reduceGT,Int.reduceToNat,Int.reduceNeg,Nat.reduceLeDiff,Nat.reduceBEq,Nat.reduceBneDiff,w1]
      refine ⟨_, ?_, i + 1, rfl, by omega, rfl, Keep.fresh fra (Heap.q06 le le3) k2, ?_, (M.le le3).keep k2 d2.symm⟩
      · omega
      · rw [et, qk5]; exact A2'
  · have hi1 : ¬ (i : Int) < L.length := by omega
    have e : i = L.length := by omega
    subst e
    rw [List.take_length] at A
    simp -implicitDefEqProofs only [zA,reduceIte,reduceCtorEq,Nat.reduceEqDiff,Nat.reduceAdd,Nat.reduceMul,Nat.reduceLT,Nat.reduceSub,Int.reduceLT,Int.reduceLE,Int.reduceEq,Int.reduceNe,Int.reduceSub,Int.reduceAdd,Int.reduceMul,Int.reduceBEq,Int.reduceBNe,Int.reduceGT,Int.reduceGE,Nat.reduceGT,Int.reduceToNat,Int.reduceNeg,Nat.reduceLeDiff,Nat.reduceBEq,Nat.reduceBneDiff,hi1]
    unfold q51
    simp -implicitDefEqProofs only [zA,reduceIte,reduceCtorEq,Nat.reduceEqDiff,Nat.reduceAdd,Nat.reduceMul,Nat.reduceLT,Nat.reduceSub,Int.reduceLT,Int.reduceLE,Int.reduceEq,Int.reduceNe,Int.reduceSub,Int.reduceAdd,Int.reduceMul,Int.reduceBEq,Int.reduceBNe,Int.reduceGT,Int.reduceGE,Nat.reduceGT,Int.reduceToNat,Int.reduceNeg,Nat.reduceLeDiff,Nat.reduceBEq,Nat.reduceBneDiff]
    have okS := A.ok
    have lS := qi6 L []
    simp only [List.length_nil, Nat.zero_add] at lS
    generalize qi7 [] L = S at A okS lS
    have hS8 := okS.h8
    refine (qe0 E K A).mono ?_
    rintro v G3 ⟨le3, ow3⟩
    obtain ⟨base3, c3, rfl⟩ := ow3.sl.shape
    have A3 := A.le le3
    have M3 := M.le le3
    have nbm : G bm ≠ none := by rw [M.own]; simp
    simp -implicitDefEqProofs only [zA,reduceIte,reduceCtorEq,Nat.reduceEqDiff,Nat.reduceAdd,Nat.reduceMul,Nat.reduceLT,Nat.reduceSub,Int.reduceLT,Int.reduceLE,Int.reduceEq,Int.reduceNe,Int.reduceSub,Int.reduceAdd,Int.reduceMul,Int.reduceBEq,Int.reduceBNe,Int.reduceGT,Int.reduceGE,Nat.reduceGT,Int.reduceToNat,Int.reduceNeg,Nat.reduceLeDiff,Nat.reduceBEq,Nat.reduceBneDiff]
    refine q2l (fun m t G' => ∃ (i : Nat) (v : List Int), t = tl [(1, .int .i64 dev), (2, strV con), (3, strV fld), (4, strV val), (11, .pointer (some ⟨ba, 0, none⟩)), (12, .pointer (some ⟨bm, 0, none⟩)), (14, .slice base3 S.length c3), (15, .int .i64 i)] ∧ i ≤ S.length ∧ m = S.length - i ∧ Keep bm G3 G' ∧ MostV G' bm v ∧ ∀ x ∈ S.take i, x.n ≤ v.getD x.dev.toNat 0) S.length
      ⟨0, _, rfl, by omega, by omega, fun _ _ h _ => h, M3, by simp⟩ ?_
    rintro m t G' ⟨i, v, rfl, hi, rfl, kp, MG, hm⟩
    have slG : Sl G' 15 (.slice base3 S.length c3) S.length (S.flatMap edC) := (Ow.kp ow3 (fun c x n h => kp c x h n) nbm).sl
    have AG := A3.keep kp d1 d2
    by_cases hlt : i < S.length
    · obtain ⟨bs, o, c', hv, hc, hce⟩ := slG.edAt hS8 i hlt
      simp only [Value.slice.injEq, true_and] at hv
      obtain ⟨rfl, rfl⟩ := hv
      have hi1 : (i : Int) < S.length := by omega
      have hi2 : (0 : Int) ≤ i := by omega
      have w1 : IntKind.i64.wrap ((i : Int) + 1) = ((i + 1 : Nat) : Int) := qcq (by omega)
      have hx8 := hS8 S[i] (List.getElem_mem hlt)
      have gx := qjy.1 (okS.good S[i] (List.getElem_mem hlt))
      have hi3 := qjx hx8 (hce _ (Heap.q0f _))
      have et : S.take (i + 1) = S.take i ++ [S[i]] := List.take_succ_eq_append_getElem hlt
      simp -implicitDefEqProofs only [zA,reduceIte,reduceCtorEq,Nat.reduceEqDiff,Nat.reduceAdd,Nat.reduceMul,Nat.reduceLT,Nat.reduceSub,Int.reduceLT,Int.reduceLE,Int.reduceEq,Int.reduceNe,Int.reduceSub,Int.reduceAdd,Int.reduceMul,Int.reduceBEq,Int.reduceBNe,Int.reduceGT,Int.reduceGE,Nat.reduceGT,Int.reduceToNat,Int.reduceNeg,Nat.reduceLeDiff,Nat.reduceBEq,Nat.reduceBneDiff,hi1,hi2,Int.toNat_natCast,hi3]
      intro bd hbd
      have sd : q7x (G'.set bd (.own 0 [.int .i64 0, .int .i64 0] 2)) 2 (.pointer (some ⟨bd, 0, none⟩)) (.agg [Value.int .i64 S[i].dev, Value.int .i64 S[i].n].toArray) = some (G'.set bd (.own 0 [.int .i64 S[i].dev, .int .i64 S[i].n] 2)) := z6z (by decide) rfl rfl rfl (by decide)
      try simp -implicitDefEqProofs only [zA,reduceIte,reduceCtorEq,Nat.reduceEqDiff,Nat.reduceAdd,Nat.reduceMul,Nat.reduceLT,Nat.reduceSub,Int.reduceLT,Int.reduceLE,Int.reduceEq,Int.reduceNe,Int.reduceSub,Int.reduceAdd,Int.reduceMul,Int.reduceBEq,Int.reduceBNe,Int.reduceGT,Int.reduceGE,Nat.reduceGT,Int.reduceToNat,Int.reduceNeg,Nat.reduceLeDiff,Nat.reduceBEq,Nat.reduceBneDiff,sd]
      have led : G'.le (G'.set bd (.own 0 [.int .i64 S[i].dev, .int .i64 S[i].n] 2)) := Heap.q14 (Heap.q0f _) hbd _
      have qd : (G'.set bd (.own 0 [.int .i64 S[i].dev, .int .i64 S[i].n] 2)) bd = some (.own 0 [.int .i64 S[i].dev, .int .i64 S[i].n] 2) := Heap.q05 _ _ _
      generalize (G'.set bd (.own 0 [.int .i64 S[i].dev, .int .i64 S[i].n] 2)) = G4 at led qd ⊢
      have M4 := MG.le led
      have kp4 := kp.trans (Keep.qm1 led)
      have nd : bd ≠ bm := fun e => by rw [e, MG.own] at hbd; cases hbd
      have cd0 : q25 G4 ⟨bd, 0, none⟩ = some (.int .i64 S[i].dev) := by rw [q4m qd (by simp)]; rfl
      have cd1 : q25 G4 ⟨bd, 1, none⟩ = some (.int .i64 S[i].n) := by rw [q4m qd (by simp)]; rfl
      have h0 := gx.d0
      have h8 := gx.d8
      have cm := M4.cell h0 h8
      unfold q50
      by_cases gt : v.getD S[i].dev.toNat 0 < S[i].n
      · obtain ⟨st, M5⟩ := M4.put h0 h8 (x := S[i].n) ⟨by have := gx.n1; omega, gx.n2⟩
        simp -implicitDefEqProofs only [zA,reduceIte,reduceCtorEq,Nat.reduceEqDiff,Nat.reduceAdd,Nat.reduceMul,Nat.reduceLT,Nat.reduceSub,Int.reduceLT,Int.reduceLE,Int.reduceEq,Int.reduceNe,Int.reduceSub,Int.reduceAdd,Int.reduceMul,Int.reduceBEq,Int.reduceBNe,Int.reduceGT,Int.reduceGE,Nat.reduceGT,Int.reduceToNat,Int.reduceNeg,Nat.reduceLeDiff,Nat.reduceBEq,Nat.reduceBneDiff,cd0,cd1,h0,h8,cm,gt]
        unfold q2k
        simp -implicitDefEqProofs only [zA,reduceIte,reduceCtorEq,Nat.reduceEqDiff,Nat.reduceAdd,Nat.reduceMul,Nat.reduceLT,Nat.reduceSub,Int.reduceLT,Int.reduceLE,Int.reduceEq,Int.reduceNe,Int.reduceSub,Int.reduceAdd,Int.reduceMul,Int.reduceBEq,Int.reduceBNe,Int.reduceGT,Int.reduceGE,Nat.reduceGT,Int.reduceToNat,Int.reduceNeg,Nat.reduceLeDiff,Nat.reduceBEq,Nat.reduceBneDiff,cd0,cd1,h0,h8,st,w1]
        refine ⟨_, ?_, i + 1, _, rfl, by omega, rfl, kp4.setB _, M5, fun x hx => ?_⟩
        · omega
        · rw [et] at hx
          rcases List.mem_append.1 hx with h | h
          · have gx' := qjy.1 (okS.good x (List.mem_of_mem_take h))
            rw [qj9 MG.h8 h0 h8 gx'.d0 gx'.d8]
            have := hm x h
            split
            · rename_i q; rw [q] at this; omega
            · exact this
          · rw [List.mem_singleton.1 h, qj9 MG.h8 h0 h8 h0 h8, if_pos rfl]; omega
      · simp -implicitDefEqProofs only [zA,reduceIte,reduceCtorEq,Nat.reduceEqDiff,Nat.reduceAdd,Nat.reduceMul,Nat.reduceLT,Nat.reduceSub,Int.reduceLT,Int.reduceLE,Int.reduceEq,Int.reduceNe,Int.reduceSub,Int.reduceAdd,Int.reduceMul,Int.reduceBEq,Int.reduceBNe,Int.reduceGT,Int.reduceGE,Nat.reduceGT,Int.reduceToNat,Int.reduceNeg,Nat.reduceLeDiff,Nat.reduceBEq,Nat.reduceBneDiff,cd0,cd1,h0,h8,cm,gt]
        unfold q2k
        simp -implicitDefEqProofs only [zA,reduceIte,reduceCtorEq,Nat.reduceEqDiff,Nat.reduceAdd,Nat.reduceMul,Nat.reduceLT,Nat.reduceSub,Int.reduceLT,Int.reduceLE,Int.reduceEq,Int.reduceNe,Int.reduceSub,Int.reduceAdd,Int.reduceMul,Int.reduceBEq,Int.reduceBNe,Int.reduceGT,Int.reduceGE,Nat.reduceGT,Int.reduceToNat,Int.reduceNeg,Nat.reduceLeDiff,Nat.reduceBEq,Nat.reduceBneDiff,w1]
        refine ⟨_, ?_, i + 1, v, rfl, by omega, rfl, kp4, M4, fun x hx => ?_⟩
        · omega
        · rw [et] at hx
          rcases List.mem_append.1 hx with h | h
          · exact hm x h
          · rw [List.mem_singleton.1 h]; omega
    · have hi1 : ¬ (i : Int) < S.length := by omega
      have e : i = S.length := by omega
      subst e
      rw [List.take_length] at hm
      simp -implicitDefEqProofs only [zA,reduceIte,reduceCtorEq,Nat.reduceEqDiff,Nat.reduceAdd,Nat.reduceMul,Nat.reduceLT,Nat.reduceSub,Int.reduceLT,Int.reduceLE,Int.reduceEq,Int.reduceNe,Int.reduceSub,Int.reduceAdd,Int.reduceMul,Int.reduceBEq,Int.reduceBNe,Int.reduceGT,Int.reduceGE,Nat.reduceGT,Int.reduceToNat,Int.reduceNeg,Nat.reduceLeDiff,Nat.reduceBEq,Nat.reduceBneDiff,hi1]
      unfold q4z
      have g2' : 0 ≤ dev := by omega
      have g3' : dev < 8 := by omega
      have cm := MG.cell g2' g3'
      have am := MG.at
      have hb := MG.val dev
      have w2 : IntKind.i64.wrap (v.getD dev.toNat 0 + 1) = v.getD dev.toNat 0 + 1 := wrapI (by omega) (by omega)
      simp -implicitDefEqProofs only [zA,reduceIte,reduceCtorEq,Nat.reduceEqDiff,Nat.reduceAdd,Nat.reduceMul,Nat.reduceLT,Nat.reduceSub,Int.reduceLT,Int.reduceLE,Int.reduceEq,Int.reduceNe,Int.reduceSub,Int.reduceAdd,Int.reduceMul,Int.reduceBEq,Int.reduceBNe,Int.reduceGT,Int.reduceGE,Nat.reduceGT,Int.reduceToNat,Int.reduceNeg,Nat.reduceLeDiff,Nat.reduceBEq,Nat.reduceBneDiff,g2',g3',cm,w2,am]
      have hd0 : ((dev.toNat : Nat) : Int) = dev := by omega
      have h8e : v.length = 8 := MG.h8
      refine withV_eq (v := edV ⟨dev, v.getD dev.toNat 0 + 1, v, 1, con, fld, val, 0⟩) ?_ ?_
      · clear hm hb w2 am cm
        obtain ⟨a0, a1, a2, a3, a4, a5, a6, a7, rfl⟩ := len8 MG.h8
        rfl
      have n1 : (⟨dev, v.getD dev.toNat 0 + 1, v, 1, con, fld, val, 0⟩ : Ed).n = v.getD dev.toNat 0 + 1 := rfl
      have f1 : (⟨dev, v.getD dev.toNat 0 + 1, v, 1, con, fld, val, 0⟩ : Ed).dev = dev := rfl
      have f2 : (⟨dev, v.getD dev.toNat 0 + 1, v, 1, con, fld, val, 0⟩ : Ed).seen = v := rfl
      have f3 : (⟨dev, v.getD dev.toNat 0 + 1, v, 1, con, fld, val, 0⟩ : Ed).kind = 1 := rfl
      have f4 : (⟨dev, v.getD dev.toNat 0 + 1, v, 1, con, fld, val, 0⟩ : Ed).con = con := rfl
      have f5 : (⟨dev, v.getD dev.toNat 0 + 1, v, 1, con, fld, val, 0⟩ : Ed).fld = fld := rfl
      have f6 : (⟨dev, v.getD dev.toNat 0 + 1, v, 1, con, fld, val, 0⟩ : Ed).val = val := rfl
      generalize (⟨dev, v.getD dev.toNat 0 + 1, v, 1, con, fld, val, 0⟩ : Ed) = e at n1 f1 f2 f3 f4 f5 f6 ⊢
      have h8 : e.seen.length = 8 := by rw [f2]; exact h8e
      have el := q4e h8
      unfold edV
      simp -implicitDefEqProofs only [zA,reduceIte,reduceCtorEq,Nat.reduceEqDiff,Nat.reduceAdd,Nat.reduceMul,Nat.reduceLT,Nat.reduceSub,Int.reduceLT,Int.reduceLE,Int.reduceEq,Int.reduceNe,Int.reduceSub,Int.reduceAdd,Int.reduceMul,Int.reduceBEq,Int.reduceBNe,Int.reduceGT,Int.reduceGE,Nat.reduceGT,Int.reduceToNat,Int.reduceNeg,Nat.reduceLeDiff,Nat.reduceBEq,Nat.reduceBneDiff]
      intro be hbe
      have s6 := stE G' be h8
      unfold Z15 at s6
      try simp -implicitDefEqProofs only [zA,reduceIte,reduceCtorEq,Nat.reduceEqDiff,Nat.reduceAdd,Nat.reduceMul,Nat.reduceLT,Nat.reduceSub,Int.reduceLT,Int.reduceLE,Int.reduceEq,Int.reduceNe,Int.reduceSub,Int.reduceAdd,Int.reduceMul,Int.reduceBEq,Int.reduceBNe,Int.reduceGT,Int.reduceGE,Nat.reduceGT,Int.reduceToNat,Int.reduceNeg,Nat.reduceLeDiff,Nat.reduceBEq,Nat.reduceBneDiff,s6]
      have le5 : G'.le (G'.set be (.own 0 (edC e) 15)) := Heap.q14 (Heap.q0f _) hbe _
      have Ae : EdAt (G'.set be (.own 0 (edC e) 15)) be e := EdAt.of (Heap.q05 _ _ _) h8
      generalize (G'.set be (.own 0 (edC e) 15)) = G5 at le5 Ae ⊢
      simp -implicitDefEqProofs only [zA,reduceIte,reduceCtorEq,Nat.reduceEqDiff,Nat.reduceAdd,Nat.reduceMul,Nat.reduceLT,Nat.reduceSub,Int.reduceLT,Int.reduceLE,Int.reduceEq,Int.reduceNe,Int.reduceSub,Int.reduceAdd,Int.reduceMul,Int.reduceBEq,Int.reduceBNe,Int.reduceGT,Int.reduceGE,Nat.reduceGT,Int.reduceToNat,Int.reduceNeg,Nat.reduceLeDiff,Nat.reduceBEq,Nat.reduceBneDiff,Ae.all]
      refine (qg1 E G5 e h8 (by rw [f4]; exact hcon) (by rw [f5]; exact hfld) (by rw [n1]; omega) (by rw [n1]; omega)).mono ?_
      rintro r G6 ⟨le6, rfl⟩
      have leX := Heap.q06 le5 le6
      have Ae6 := Ae.le h8 le6
      have A6 := AG.le leX
      have sl6 := slG.le leX
      cases hg : q84 e with
      | false => simp -implicitDefEqProofs only [zA,reduceIte,reduceCtorEq,Nat.reduceEqDiff,Nat.reduceAdd,Nat.reduceMul,Nat.reduceLT,Nat.reduceSub,Int.reduceLT,Int.reduceLE,Int.reduceEq,Int.reduceNe,Int.reduceSub,Int.reduceAdd,Int.reduceMul,Int.reduceBEq,Int.reduceBNe,Int.reduceGT,Int.reduceGE,Nat.reduceGT,Int.reduceToNat,Int.reduceNeg,Nat.reduceLeDiff,Nat.reduceBEq,Nat.reduceBneDiff]
      | true =>
        simp -implicitDefEqProofs only [zA,reduceIte,reduceCtorEq,Nat.reduceEqDiff,Nat.reduceAdd,Nat.reduceMul,Nat.reduceLT,Nat.reduceSub,Int.reduceLT,Int.reduceLE,Int.reduceEq,Int.reduceNe,Int.reduceSub,Int.reduceAdd,Int.reduceMul,Int.reduceBEq,Int.reduceBNe,Int.reduceGT,Int.reduceGE,Nat.reduceGT,Int.reduceToNat,Int.reduceNeg,Nat.reduceLeDiff,Nat.reduceBEq,Nat.reduceBneDiff]
        unfold q53
        simp -implicitDefEqProofs only [zA,reduceIte,reduceCtorEq,Nat.reduceEqDiff,Nat.reduceAdd,Nat.reduceMul,Nat.reduceLT,Nat.reduceSub,Int.reduceLT,Int.reduceLE,Int.reduceEq,Int.reduceNe,Int.reduceSub,Int.reduceAdd,Int.reduceMul,Int.reduceBEq,Int.reduceBNe,Int.reduceGT,Int.reduceGE,Nat.reduceGT,Int.reduceToNat,Int.reduceNeg,Nat.reduceLeDiff,Nat.reduceBEq,Nat.reduceBneDiff]
        refine q2l (fun m t G => ∃ i : Nat, t = tl [(2, strV con), (3, strV fld), (4, strV val), (11, .pointer (some ⟨ba, 0, none⟩)), (14, .slice base3 S.length c3), (17, .pointer (some ⟨be, 0, none⟩)), (18, .int .i64 i)] ∧ i ≤ S.length ∧ m = S.length - i ∧ G6.le G ∧ ∀ x ∈ S.take i, hasV x.seen e.dev e.n = false) S.length
          ⟨0, rfl, by omega, by omega, Heap.q0f _, by simp⟩ ?_
        rintro m t G7 ⟨i, rfl, hi, rfl, le7, hno⟩
        by_cases hlt : i < S.length
        · obtain ⟨bs, o, c', hv, hc, hce⟩ := sl6.edAt hS8 i hlt
          simp only [Value.slice.injEq, true_and] at hv
          obtain ⟨rfl, rfl⟩ := hv
          have hi1 : (i : Int) < S.length := by omega
          have hi2 : (0 : Int) ≤ i := by omega
          have w1 : IntKind.i64.wrap ((i : Int) + 1) = ((i + 1 : Nat) : Int) := qcq (by omega)
          have hx8 := hS8 S[i] (List.getElem_mem hlt)
          have hs := qij hx8 (hce _ le7)
          have Ae7 := Ae6.le h8 le7
          have et : S.take (i + 1) = S.take i ++ [S[i]] := List.take_succ_eq_append_getElem hlt
          simp -implicitDefEqProofs only [zA,reduceIte,reduceCtorEq,Nat.reduceEqDiff,Nat.reduceAdd,Nat.reduceMul,Nat.reduceLT,Nat.reduceSub,Int.reduceLT,Int.reduceLE,Int.reduceEq,Int.reduceNe,Int.reduceSub,Int.reduceAdd,Int.reduceMul,Int.reduceBEq,Int.reduceBNe,Int.reduceGT,Int.reduceGE,Nat.reduceGT,Int.reduceToNat,Int.reduceNeg,Nat.reduceLeDiff,Nat.reduceBEq,Nat.reduceBneDiff,hi1,hi2,Int.toNat_natCast,hs,Ae7.dot]
          refine (qh6 E G7 S[i].seen hx8 e.dev e.n).mono ?_
          rintro r G8 ⟨le8, rfl⟩
          cases hh : hasV S[i].seen e.dev e.n with
          | true => simp -implicitDefEqProofs only [zA,reduceIte,reduceCtorEq,Nat.reduceEqDiff,Nat.reduceAdd,Nat.reduceMul,Nat.reduceLT,Nat.reduceSub,Int.reduceLT,Int.reduceLE,Int.reduceEq,Int.reduceNe,Int.reduceSub,Int.reduceAdd,Int.reduceMul,Int.reduceBEq,Int.reduceBNe,Int.reduceGT,Int.reduceGE,Nat.reduceGT,Int.reduceToNat,Int.reduceNeg,Nat.reduceLeDiff,Nat.reduceBEq,Nat.reduceBneDiff]
          | false =>
            simp -implicitDefEqProofs only [zA,reduceIte,reduceCtorEq,Nat.reduceEqDiff,Nat.reduceAdd,Nat.reduceMul,Nat.reduceLT,Nat.reduceSub,Int.reduceLT,Int.reduceLE,Int.reduceEq,Int.reduceNe,Int.reduceSub,Int.reduceAdd,Int.reduceMul,Int.reduceBEq,Int.reduceBNe,Int.reduceGT,Int.reduceGE,Nat.reduceGT,Int.reduceToNat,Int.reduceNeg,Nat.reduceLeDiff,Nat.reduceBEq,Nat.reduceBneDiff,w1]
            refine ⟨_, ?_, i + 1, rfl, by omega, rfl, Heap.q06 le7 le8, fun x hx => ?_⟩
            · omega
            · rw [et] at hx
              rcases List.mem_append.1 hx with h | h
              · exact hno x h
              · rw [List.mem_singleton.1 h]; exact hh
        · have hi1 : ¬ (i : Int) < S.length := by omega
          have q : i = S.length := by omega
          subst q
          rw [List.take_length] at hno
          simp -implicitDefEqProofs only [zA,reduceIte,reduceCtorEq,Nat.reduceEqDiff,Nat.reduceAdd,Nat.reduceMul,Nat.reduceLT,Nat.reduceSub,Int.reduceLT,Int.reduceLE,Int.reduceEq,Int.reduceNe,Int.reduceSub,Int.reduceAdd,Int.reduceMul,Int.reduceBEq,Int.reduceBNe,Int.reduceGT,Int.reduceGE,Nat.reduceGT,Int.reduceToNat,Int.reduceNeg,Nat.reduceLeDiff,Nat.reduceBEq,Nat.reduceBneDiff,hi1]
          unfold q4l
          have Ae7 := Ae6.le h8 le7
          obtain ⟨l1, l2, l3⟩ := qj7 okS hg h8 (by omega) f3 (fun x hx _ _ => by rw [f2]; exact hm x hx) (fun x hx h => by
            have q1 := h.1
            have q2 := h.2
            have := hm x hx
            rw [q1, q2, n1, f1] at this
            omega) hno
          simp -implicitDefEqProofs only [zA,reduceIte,reduceCtorEq,Nat.reduceEqDiff,Nat.reduceAdd,Nat.reduceMul,Nat.reduceLT,Nat.reduceSub,Int.reduceLT,Int.reduceLE,Int.reduceEq,Int.reduceNe,Int.reduceSub,Int.reduceAdd,Int.reduceMul,Int.reduceBEq,Int.reduceBNe,Int.reduceGT,Int.reduceGE,Nat.reduceGT,Int.reduceToNat,Int.reduceNeg,Nat.reduceLeDiff,Nat.reduceBEq,Nat.reduceBneDiff,Ae7.all]
          refine (qb2 E (A6.le le7) e h8 (by rw [f4]; exact hcon) (by rw [f5]; exact hfld) (by rw [n1]; omega) (by rw [n1]; omega)).mono ?_
          rintro r G8 ⟨rfl, B8, k8⟩
          rw [l1] at B8 ⊢
          simp -implicitDefEqProofs only [zA,reduceIte,reduceCtorEq,Nat.reduceEqDiff,Nat.reduceAdd,Nat.reduceMul,Nat.reduceLT,Nat.reduceSub,Int.reduceLT,Int.reduceLE,Int.reduceEq,Int.reduceNe,Int.reduceSub,Int.reduceAdd,Int.reduceMul,Int.reduceBEq,Int.reduceBNe,Int.reduceGT,Int.reduceGE,Nat.reduceGT,Int.reduceToNat,Int.reduceNeg,Nat.reduceLeDiff,Nat.reduceBEq,Nat.reduceBneDiff]
          refine (qdd E K B8 con fld).mono ?_
          rintro r G9 ⟨le9, ow9⟩
          rw [f4, f5, f6] at l3
          rw [l3] at ow9
          obtain ⟨z1, z2, rfl⟩ := ow9.sl.shape
          simp -implicitDefEqProofs only [zA,reduceIte,reduceCtorEq,Nat.reduceEqDiff,Nat.reduceAdd,Nat.reduceMul,Nat.reduceLT,Nat.reduceSub,Int.reduceLT,Int.reduceLE,Int.reduceEq,Int.reduceNe,Int.reduceSub,Int.reduceAdd,Int.reduceMul,Int.reduceBEq,Int.reduceBNe,Int.reduceGT,Int.reduceGE,Nat.reduceGT,Int.reduceToNat,Int.reduceNeg,Nat.reduceLeDiff,Nat.reduceBEq,Nat.reduceBneDiff]
          intro b10 hb10
          try simp -implicitDefEqProofs only [zA,reduceIte,reduceCtorEq,Nat.reduceEqDiff,Nat.reduceAdd,Nat.reduceMul,Nat.reduceLT,Nat.reduceSub,Int.reduceLT,Int.reduceLE,Int.reduceEq,Int.reduceNe,Int.reduceSub,Int.reduceAdd,Int.reduceMul,Int.reduceBEq,Int.reduceBNe,Int.reduceGT,Int.reduceGE,Nat.reduceGT,Int.reduceToNat,Int.reduceNeg,Nat.reduceLeDiff,Nat.reduceBEq,Nat.reduceBneDiff]
          have le10 := Heap.q14 (Heap.q0f G9) hb10 (.own 0 [strV val] 1)
          refine (qi8 E (L := [val]) (M := [val]) (Sl.le le10 ow9.sl) (Sl.lit (n := 1) rfl) (by simp) (by simp)).mono ?_
          rintro v H6 ⟨rfl, rfl⟩
          rw [decide_eq_true rfl]
          simp -implicitDefEqProofs only [zA,reduceIte,reduceCtorEq,Nat.reduceEqDiff,Nat.reduceAdd,Nat.reduceMul,Nat.reduceLT,Nat.reduceSub,Int.reduceLT,Int.reduceLE,Int.reduceEq,Int.reduceNe,Int.reduceSub,Int.reduceAdd,Int.reduceMul,Int.reduceBEq,Int.reduceBNe,Int.reduceGT,Int.reduceGE,Nat.reduceGT,Int.reduceToNat,Int.reduceNeg,Nat.reduceLeDiff,Nat.reduceBEq,Nat.reduceBneDiff]
end Go.Bb
