/- My contracts: BbBo5 BbBo6 BbBo7 BbBo8 BbBo9 BbPbs BbBoA BbUed BbLbk0 BbPbl BbLbk1 BbLbk2 BbPbm BbPbn BbPbo BbLbkV BbLbk4. -/
import Derived.Test.YthealcnfgedddaaBbM1
import Derived.Test.YthealcnfgedddaaBbG3
namespace Go.Bb
set_option linter.unusedSimpArgs false
set_option linter.unusedVariables false
set_option maxRecDepth 20000
set_option maxHeartbeats 2000000
open Go.MapKept
theorem qmm {E : Env} {n : Nat} {g : FuncId} {first cap vs : List Value} {h : Heap} {K : Value → Heap → Prop} (hg : E.fid n = some g) (a : ACallN E n (first ++ vs ++ cap) h K) : qk8 E h K (.func (.func g) first.toArray cap.toArray) vs :=
  ⟨⟨n, hg⟩, by simpa using a g hg⟩
theorem Sl.edAt {H : Heap} {v : Value} {S : List Ed} (h8 : ∀ e ∈ S, e.seen.length = 8) (s : Sl H 15 v S.length (S.flatMap edC)) (i : Nat) (hi : i < S.length) :
    ∃ b o c, v = .slice (some ⟨b, o, none⟩) S.length c ∧ S.length ≤ c ∧ ∀ h', H.le h' → q0e h' ⟨b, o + i * 15, none⟩ 15 = some (edC S[i]) := by
  obtain ⟨l, rfl⟩ := toG h8
  rw [← qfa, List.length_map] at s
  rw [List.length_map] at hi
  obtain ⟨b, o, c, h1, h2, h3⟩ := s.at qdb i hi (by decide)
  refine ⟨b, o, c, by rw [List.length_map]; exact h1, by rw [List.length_map]; exact h2, fun h' hle => ?_⟩
  rw [h3 h' hle, List.getElem_map]
  rfl
theorem qcx (E : EnvT tab) (K : BkOk E) {H : Heap} {v : Value} {S : List Ed} (h8 : ∀ e ∈ S, e.seen.length = 8) (hl : S.length ≤ 100000) (s : Sl H 15 v S.length (S.flatMap edC)) {y : Ed} (hy : y.seen.length = 8) {b0 : Nat} (q0 : H b0 = some (.own 0 (edC y) 15)) :
    ACallN E.toEnv q7e [v, .func (.func 60) #[] #[.pointer (some ⟨b0, 0, none⟩)]] H fun r H' => H.le H' ∧ r = .int .i64 (if S.any (fun a => q8j a y) then (S.findIdx (fun a => q8j a y) : Int) else -1) := by
  obtain ⟨base, c, rfl⟩ := s.shape
  refine q2r q1d q0q rfl rfl (q02 ?_)
  unfold q0q
  simp -implicitDefEqProofs only [zA,reduceIte,reduceCtorEq,Nat.reduceEqDiff,Nat.reduceAdd,Nat.reduceMul,Nat.reduceLT,Nat.reduceSub,Int.reduceLT,Int.reduceLE,Int.reduceEq,Int.reduceNe,Int.reduceSub,Int.reduceAdd,Int.reduceMul,Int.reduceBEq,Int.reduceBNe,Int.reduceGT,Int.reduceGE,Nat.reduceGT,Int.reduceToNat,Int.reduceNeg,Nat.reduceLeDiff,Nat.reduceBEq,Nat.reduceBneDiff]
  refine q2s (fun m t G => H.le G ∧ ∃ i : Nat, t = tl [(0, .slice base S.length c), (1, .func (.func 60) [].toArray [.pointer (some ⟨b0, 0, none⟩)].toArray), (7, .int .i64 S.length), (8, .int .i64 i)] ∧ i ≤ S.length ∧ m = S.length - i ∧ (S.take i).any (fun a => q8j a y) = false) S.length
    ⟨Heap.q09 _, 0, rfl, by omega, by omega, by simp⟩ ?_
  rintro m t G ⟨le, i, rfl, hi, rfl, ha⟩
  by_cases hlt : i < S.length
  · obtain ⟨b, o, c', hv, hc, q1o⟩ := s.edAt h8 i hlt
    simp only [Value.slice.injEq, true_and] at hv
    obtain ⟨rfl, rfl⟩ := hv
    have hi1 : (i : Int) < S.length := by omega
    have hi2 : (0 : Int) ≤ i := by omega
    have w1 : IntKind.i64.wrap ((i : Int) + 1) = ((i + 1 : Nat) : Int) := qdo (by omega)
    have hi3 := q1o _ le
    have hx := h8 S[i] (List.getElem_mem hlt)
    simp -implicitDefEqProofs only [zA,reduceIte,reduceCtorEq,Nat.reduceEqDiff,Nat.reduceAdd,Nat.reduceMul,Nat.reduceLT,Nat.reduceSub,Int.reduceLT,Int.reduceLE,Int.reduceEq,Int.reduceNe,Int.reduceSub,Int.reduceAdd,Int.reduceMul,Int.reduceBEq,Int.reduceBNe,Int.reduceGT,Int.reduceGE,Nat.reduceGT,Int.reduceToNat,Int.reduceNeg,Nat.reduceLeDiff,Nat.reduceBEq,Nat.reduceBneDiff,hi1,hi2,Int.toNat_natCast,hi3]
    refine qmm (first := []) (cap := [.pointer (some ⟨b0, 0, none⟩)]) (vs := [.agg (edC S[i]).toArray]) K.f60 ?_
    refine (qhx E G S[i] y hx hy (le _ _ q0)).mono ?_
    rintro r G1 ⟨le1, rfl⟩
    have leX := Heap.q08 le le1
    have et : S.take (i + 1) = S.take i ++ [S[i]] := List.take_succ_eq_append_getElem hlt
    by_cases g : q8j S[i] y = true
    · have e1 : S.any (fun a => q8j a y) = true := List.any_eq_true.2 ⟨S[i], List.getElem_mem hlt, g⟩
      have e2 : S.findIdx (fun a => q8j a y) = i := by
        rw [List.findIdx_eq hlt]
        refine ⟨g, fun j hj => ?_⟩
        rw [List.any_eq_false] at ha
        have := ha S[j] (by rw [List.mem_take_iff_getElem]; exact ⟨j, by omega, rfl⟩)
        simpa using this
      simp -implicitDefEqProofs only [zA,reduceIte,reduceCtorEq,Nat.reduceEqDiff,Nat.reduceAdd,Nat.reduceMul,Nat.reduceLT,Nat.reduceSub,Int.reduceLT,Int.reduceLE,Int.reduceEq,Int.reduceNe,Int.reduceSub,Int.reduceAdd,Int.reduceMul,Int.reduceBEq,Int.reduceBNe,Int.reduceGT,Int.reduceGE,Nat.reduceGT,Int.reduceToNat,Int.reduceNeg,Nat.reduceLeDiff,Nat.reduceBEq,Nat.reduceBneDiff,g,e1,e2]
      exact leX
    · have g' : q8j S[i] y = false := by simpa using g
      simp -implicitDefEqProofs only [zA,reduceIte,reduceCtorEq,Nat.reduceEqDiff,Nat.reduceAdd,Nat.reduceMul,Nat.reduceLT,Nat.reduceSub,Int.reduceLT,Int.reduceLE,Int.reduceEq,Int.reduceNe,Int.reduceSub,Int.reduceAdd,Int.reduceMul,Int.reduceBEq,Int.reduceBNe,Int.reduceGT,Int.reduceGE,Nat.reduceGT,Int.reduceToNat,Int.reduceNeg,Nat.reduceLeDiff,Nat.reduceBEq,Nat.reduceBneDiff,g',w1]
      refine ⟨_, ?_, leX, i + 1, rfl, by omega, rfl, ?_⟩
      · omega
      · rw [et, List.any_append, ha]; simp [g']
  · have hi1 : ¬ (i : Int) < S.length := by omega
    have e : i = S.length := by omega
    subst e
    rw [List.take_length] at ha
    simp -implicitDefEqProofs only [zA,reduceIte,reduceCtorEq,Nat.reduceEqDiff,Nat.reduceAdd,Nat.reduceMul,Nat.reduceLT,Nat.reduceSub,Int.reduceLT,Int.reduceLE,Int.reduceEq,Int.reduceNe,Int.reduceSub,Int.reduceAdd,Int.reduceMul,Int.reduceBEq,Int.reduceBNe,Int.reduceGT,Int.reduceGE,Nat.reduceGT,Int.reduceToNat,Int.reduceNeg,Nat.reduceLeDiff,Nat.reduceBEq,Nat.reduceBneDiff,hi1,ha]
    exact le
theorem qav (E : EnvT tab) (K : BkOk E) {H : Heap} {v : Value} {S : List Ed} (h8 : ∀ e ∈ S, e.seen.length = 8) (hl : S.length ≤ 100000) (s : Sl H 15 v S.length (S.flatMap edC)) {y : Ed} (hy : y.seen.length = 8) {b0 : Nat} (q0 : H b0 = some (.own 0 (edC y) 15)) :
    ACallN E.toEnv q5u [v, .func (.func 60) #[] #[.pointer (some ⟨b0, 0, none⟩)]] H fun r H' => H.le H' ∧ r = .bool (S.any (fun a => q8j a y)) := by
  refine q2r q12 q0i rfl rfl (q02 ?_)
  unfold q0i
  simp -implicitDefEqProofs only [zA,reduceIte,reduceCtorEq,Nat.reduceEqDiff,Nat.reduceAdd,Nat.reduceMul,Nat.reduceLT,Nat.reduceSub,Int.reduceLT,Int.reduceLE,Int.reduceEq,Int.reduceNe,Int.reduceSub,Int.reduceAdd,Int.reduceMul,Int.reduceBEq,Int.reduceBNe,Int.reduceGT,Int.reduceGE,Nat.reduceGT,Int.reduceToNat,Int.reduceNeg,Nat.reduceLeDiff,Nat.reduceBEq,Nat.reduceBneDiff]
  refine (qcx E K h8 hl s hy q0).mono ?_
  rintro r H1 ⟨le1, rfl⟩
  cases g : S.any (fun a => q8j a y) with
  | true =>
    have h0 : (0 : Int) ≤ (S.findIdx (fun a => q8j a y) : Nat) := by omega
    simp -implicitDefEqProofs only [zA,reduceIte,reduceCtorEq,Nat.reduceEqDiff,Nat.reduceAdd,Nat.reduceMul,Nat.reduceLT,Nat.reduceSub,Int.reduceLT,Int.reduceLE,Int.reduceEq,Int.reduceNe,Int.reduceSub,Int.reduceAdd,Int.reduceMul,Int.reduceBEq,Int.reduceBNe,Int.reduceGT,Int.reduceGE,Nat.reduceGT,Int.reduceToNat,Int.reduceNeg,Nat.reduceLeDiff,Nat.reduceBEq,Nat.reduceBneDiff,h0]
    exact le1
  | false =>
    simp -implicitDefEqProofs only [zA,reduceIte,reduceCtorEq,Nat.reduceEqDiff,Nat.reduceAdd,Nat.reduceMul,Nat.reduceLT,Nat.reduceSub,Int.reduceLT,Int.reduceLE,Int.reduceEq,Int.reduceNe,Int.reduceSub,Int.reduceAdd,Int.reduceMul,Int.reduceBEq,Int.reduceBNe,Int.reduceGT,Int.reduceGE,Nat.reduceGT,Int.reduceToNat,Int.reduceNeg,Nat.reduceLeDiff,Nat.reduceBEq,Nat.reduceBneDiff]
    exact le1
def Z15 : List Value := List.replicate 11 (.int .i64 0) ++ [.string .empty, .string .empty, .string .empty, .int .i64 0]
theorem qms : Z15.length = 15 := rfl
theorem zf15 : (List.replicate 1 (List.replicate 11 (Value.int .i64 0) ++ [.string .empty, .string .empty, .string .empty, .int .i64 0])).flatten = Z15 := rfl
theorem Z15_drop : List.drop 15 Z15 = [] := rfl
theorem stE (G : Heap) (b : Nat) {e : Ed} (h8 : e.seen.length = 8) : q57 (G.set b (.own 0 Z15 Z15.length)) 15 (.pointer (some ⟨b, 0, none⟩)) (.agg (edC e).toArray) = some (G.set b (.own 0 (edC e) 15)) :=
  z6z (by decide) (q5d h8) (qgb e) qms (by decide)
def qas (S : List Ed) (e : Ed) : Bool := decide (e.kind = 1) && !S.any fun a => q8j a e
theorem qdf (x y : Ed) : qmi x y < 0 ↔ qa2 x y := by
  rw [← qm2]
  unfold qmi
  cases qkr x y <;> simp
theorem qcq (E : EnvT tab) (K : BkOk E) {H : Heap} {b r : Nat} {S : List Ed} (B : BookAt H b r S) :
    ACallN E.toEnv qf3 [.pointer (some ⟨b, 0, none⟩)] H fun v H' => H.le H' ∧ Ow H H' 15 v (q9g S).length ((q9g S).flatMap edC) := by
  refine q2r q8k q5p rfl rfl (q02 ?_)
  unfold q5p
  have hS := B.ok.len
  have h8 := B.ok.h8
  simp -implicitDefEqProofs only [zA,reduceIte,reduceCtorEq,Nat.reduceEqDiff,Nat.reduceAdd,Nat.reduceMul,Nat.reduceLT,Nat.reduceSub,Int.reduceLT,Int.reduceLE,Int.reduceEq,Int.reduceNe,Int.reduceSub,Int.reduceAdd,Int.reduceMul,Int.reduceBEq,Int.reduceBNe,Int.reduceGT,Int.reduceGE,Nat.reduceGT,Int.reduceToNat,Int.reduceNeg,Nat.reduceLeDiff,Nat.reduceBEq,Nat.reduceBneDiff]
  refine (qev E K B).mono ?_
  rintro v H1 ⟨le1, ow1⟩
  have sl1 := ow1.sl
  obtain ⟨base, c, rfl⟩ := sl1.shape
  have e60 := K.f60
  simp -implicitDefEqProofs only [zA,reduceIte,reduceCtorEq,Nat.reduceEqDiff,Nat.reduceAdd,Nat.reduceMul,Nat.reduceLT,Nat.reduceSub,Int.reduceLT,Int.reduceLE,Int.reduceEq,Int.reduceNe,Int.reduceSub,Int.reduceAdd,Int.reduceMul,Int.reduceBEq,Int.reduceBNe,Int.reduceGT,Int.reduceGE,Nat.reduceGT,Int.reduceToNat,Int.reduceNeg,Nat.reduceLeDiff,Nat.reduceBEq,Nat.reduceBneDiff]
  refine q2s (fun m t G => H1.le G ∧ ∃ (i : Nat) (vl : Value), t = tl [(3, vl), (4, .slice base S.length c), (10, .slice base S.length c), (11, .int .i64 S.length), (12, .int .i64 i)] ∧ i ≤ S.length ∧ m = S.length - i ∧ Ow H1 G 15 vl ((S.take i).filter (qas S)).length (((S.take i).filter (qas S)).flatMap edC)) S.length
    ⟨Heap.q09 _, 0, _, rfl, by omega, by omega, Ow.nil _ _ _⟩ ?_
  rintro m t G ⟨le, i, vl, rfl, hi, rfl, ow⟩
  by_cases hlt : i < S.length
  · obtain ⟨bs, o, c', hv, hc, q1o⟩ := sl1.edAt h8 i hlt
    simp only [Value.slice.injEq, true_and] at hv
    obtain ⟨rfl, rfl⟩ := hv
    have hi1 : (i : Int) < S.length := by omega
    have hi2 : (0 : Int) ≤ i := by omega
    have w1 : IntKind.i64.wrap ((i : Int) + 1) = ((i + 1 : Nat) : Int) := qdo (by omega)
    have hi3 := q1o _ le
    have hx := h8 S[i] (List.getElem_mem hlt)
    have et : S.take (i + 1) = S.take i ++ [S[i]] := List.take_succ_eq_append_getElem hlt
    generalize S[i] = y at hi3 hx et
    simp -implicitDefEqProofs only [zA,reduceIte,reduceCtorEq,Nat.reduceEqDiff,Nat.reduceAdd,Nat.reduceMul,Nat.reduceLT,Nat.reduceSub,Int.reduceLT,Int.reduceLE,Int.reduceEq,Int.reduceNe,Int.reduceSub,Int.reduceAdd,Int.reduceMul,Int.reduceBEq,Int.reduceBNe,Int.reduceGT,Int.reduceGE,Nat.reduceGT,Int.reduceToNat,Int.reduceNeg,Nat.reduceLeDiff,Nat.reduceBEq,Nat.reduceBneDiff,hi1,hi2,Int.toNat_natCast,hi3]
    intro b6 hb6
    have s6 := stE G b6 hx
    unfold Z15 at s6
    try simp -implicitDefEqProofs only [zA,reduceIte,reduceCtorEq,Nat.reduceEqDiff,Nat.reduceAdd,Nat.reduceMul,Nat.reduceLT,Nat.reduceSub,Int.reduceLT,Int.reduceLE,Int.reduceEq,Int.reduceNe,Int.reduceSub,Int.reduceAdd,Int.reduceMul,Int.reduceBEq,Int.reduceBNe,Int.reduceGT,Int.reduceGE,Nat.reduceGT,Int.reduceToNat,Int.reduceNeg,Nat.reduceLeDiff,Nat.reduceBEq,Nat.reduceBneDiff,s6]
    have le6 : G.le (G.set b6 (.own 0 (edC y) 15)) := Heap.q0o (Heap.q09 _) hb6 _
    have A : EdAt (G.set b6 (.own 0 (edC y) 15)) b6 y := EdAt.of (Heap.q03 _ _ _) hx
    have ow6 := ow.le le6
    have leB := Heap.q08 le le6
    generalize (G.set b6 (.own 0 (edC y) 15)) = G6 at le6 A ow6 leB
    unfold q8p
    have hyes : qas S y = true → (S.take (i + 1)).filter (qas S) = (S.take i).filter (qas S) ++ [y] := fun h => by rw [et, List.filter_append]; simp [h]
    have hno : qas S y = false → (S.take (i + 1)).filter (qas S) = (S.take i).filter (qas S) := fun h => by rw [et, List.filter_append]; simp [h]
    by_cases k1 : y.kind = 1
    · simp -implicitDefEqProofs only [zA,reduceIte,reduceCtorEq,Nat.reduceEqDiff,Nat.reduceAdd,Nat.reduceMul,Nat.reduceLT,Nat.reduceSub,Int.reduceLT,Int.reduceLE,Int.reduceEq,Int.reduceNe,Int.reduceSub,Int.reduceAdd,Int.reduceMul,Int.reduceBEq,Int.reduceBNe,Int.reduceGT,Int.reduceGE,Nat.reduceGT,Int.reduceToNat,Int.reduceNeg,Nat.reduceLeDiff,Nat.reduceBEq,Nat.reduceBneDiff,e60,A.kind,k1]
      refine (qav E K h8 (by omega) (sl1.le leB) hx A.own).mono ?_
      rintro r G7 ⟨le7, rfl⟩
      have A7 := A.le hx le7
      have ow7 := ow6.le le7
      have leC := Heap.q08 leB le7
      cases g : S.any (fun a => q8j a y) with
      | true =>
        have hp : qas S y = false := by simp [qas, g]
        simp -implicitDefEqProofs only [zA,reduceIte,reduceCtorEq,Nat.reduceEqDiff,Nat.reduceAdd,Nat.reduceMul,Nat.reduceLT,Nat.reduceSub,Int.reduceLT,Int.reduceLE,Int.reduceEq,Int.reduceNe,Int.reduceSub,Int.reduceAdd,Int.reduceMul,Int.reduceBEq,Int.reduceBNe,Int.reduceGT,Int.reduceGE,Nat.reduceGT,Int.reduceToNat,Int.reduceNeg,Nat.reduceLeDiff,Nat.reduceBEq,Nat.reduceBneDiff,w1]
        refine ⟨_, ?_, leC, i + 1, vl, rfl, by omega, rfl, ?_⟩
        · omega
        · rw [hno hp]; exact ow7
      | false =>
        have hp : qas S y = true := by simp [qas, g, k1]
        have hy15 := q5d hx
        simp -implicitDefEqProofs only [zA,reduceIte,reduceCtorEq,Nat.reduceEqDiff,Nat.reduceAdd,Nat.reduceMul,Nat.reduceLT,Nat.reduceSub,Int.reduceLT,Int.reduceLE,Int.reduceEq,Int.reduceNe,Int.reduceSub,Int.reduceAdd,Int.reduceMul,Int.reduceBEq,Int.reduceBNe,Int.reduceGT,Int.reduceGE,Nat.reduceGT,Int.reduceToNat,Int.reduceNeg,Nat.reduceLeDiff,Nat.reduceBEq,Nat.reduceBneDiff,A7.all,zf15,qms,Z15_drop,hy15,List.append_nil]
        intro b8 hb8
        have le8 := Heap.q0o (Heap.q09 G7) hb8 (.own 0 (edC y) 15)
        try simp -implicitDefEqProofs only [zA,reduceIte,reduceCtorEq,Nat.reduceEqDiff,Nat.reduceAdd,Nat.reduceMul,Nat.reduceLT,Nat.reduceSub,Int.reduceLT,Int.reduceLE,Int.reduceEq,Int.reduceNe,Int.reduceSub,Int.reduceAdd,Int.reduceMul,Int.reduceBEq,Int.reduceBNe,Int.reduceGT,Int.reduceGE,Nat.reduceGT,Int.reduceToNat,Int.reduceNeg,Nat.reduceLeDiff,Nat.reduceBEq,Nat.reduceBneDiff]
        refine qbt (bytes := 144) (m := 1) (news := edC y) (Heap.q08 leC le8) (by decide) (ow7.le le8) (Sl.lit (n := 1) hy15) (qgb y) (by have := List.length_filter_le (qas S) (S.take i); rw [List.length_take] at this; omega) (by have := List.length_filter_le (qas S) (S.take i); rw [List.length_take] at this; omega) ?_
        intro v' h' ow9 le9
        simp -implicitDefEqProofs only [zA,reduceIte,reduceCtorEq,Nat.reduceEqDiff,Nat.reduceAdd,Nat.reduceMul,Nat.reduceLT,Nat.reduceSub,Int.reduceLT,Int.reduceLE,Int.reduceEq,Int.reduceNe,Int.reduceSub,Int.reduceAdd,Int.reduceMul,Int.reduceBEq,Int.reduceBNe,Int.reduceGT,Int.reduceGE,Nat.reduceGT,Int.reduceToNat,Int.reduceNeg,Nat.reduceLeDiff,Nat.reduceBEq,Nat.reduceBneDiff,w1]
        refine ⟨_, ?_, le9, i + 1, v', rfl, by omega, rfl, ?_⟩
        · omega
        · rw [hyes hp, List.flatMap_append, List.length_append]; simpa using ow9
    · have hp : qas S y = false := by simp [qas, k1]
      simp -implicitDefEqProofs only [zA,reduceIte,reduceCtorEq,Nat.reduceEqDiff,Nat.reduceAdd,Nat.reduceMul,Nat.reduceLT,Nat.reduceSub,Int.reduceLT,Int.reduceLE,Int.reduceEq,Int.reduceNe,Int.reduceSub,Int.reduceAdd,Int.reduceMul,Int.reduceBEq,Int.reduceBNe,Int.reduceGT,Int.reduceGE,Nat.reduceGT,Int.reduceToNat,Int.reduceNeg,Nat.reduceLeDiff,Nat.reduceBEq,Nat.reduceBneDiff,e60,A.kind,k1,w1]
      refine ⟨_, ?_, leB, i + 1, vl, rfl, by omega, rfl, ?_⟩
      · omega
      · rw [hno hp]; exact ow6
  · have hi1 : ¬ (i : Int) < S.length := by omega
    have e : i = S.length := by omega
    subst e
    rw [List.take_length] at ow
    have e63 := oev_fv K.f63
    simp -implicitDefEqProofs only [zA,reduceIte,reduceCtorEq,Nat.reduceEqDiff,Nat.reduceAdd,Nat.reduceMul,Nat.reduceLT,Nat.reduceSub,Int.reduceLT,Int.reduceLE,Int.reduceEq,Int.reduceNe,Int.reduceSub,Int.reduceAdd,Int.reduceMul,Int.reduceBEq,Int.reduceBNe,Int.reduceGT,Int.reduceGE,Nat.reduceGT,Int.reduceToNat,Int.reduceNeg,Nat.reduceLeDiff,Nat.reduceBEq,Nat.reduceBneDiff,hi1,e63]
    have hf8 : ∀ e ∈ S.filter (qas S), e.seen.length = 8 := fun e he => h8 e (List.mem_filter.1 he).1
    have hfl := List.length_filter_le (qas S) S
    refine (qjz E K hf8 ow (by omega) K.f63 qmi (fun x => by rw [qdf]; exact q9m x) (fun x y z a b => by rw [qdf] at *; exact qaf a b) (fun x y z a b => by rw [qdf] at *; unfold qa2 q4m at *; omega)
      (fun x y hx hy => (qhw E _ x y hx hy).mono fun r H' h => h.2)).mono ?_
    rintro u H2 ⟨S2, p2, s2, ow2, k2⟩
    simp -implicitDefEqProofs only [zA,reduceIte,reduceCtorEq,Nat.reduceEqDiff,Nat.reduceAdd,Nat.reduceMul,Nat.reduceLT,Nat.reduceSub,Int.reduceLT,Int.reduceLE,Int.reduceEq,Int.reduceNe,Int.reduceSub,Int.reduceAdd,Int.reduceMul,Int.reduceBEq,Int.reduceBNe,Int.reduceGT,Int.reduceGE,Nat.reduceGT,Int.reduceToNat,Int.reduceNeg,Nat.reduceLeDiff,Nat.reduceBEq,Nat.reduceBneDiff]
    have e2 : S2 = q9g S := by
      refine q8s q9m (fun x y z => qaf) (p2.trans (q9x _ _).symm) ?_ (qay B.ok)
      refine qax p2 (B.ok.apart.sublist List.filter_sublist) ?_
      exact s2.imp fun {x y} h => by rw [qdf] at h; exact h
    subst e2
    refine ⟨fun k x hx => ?_, ow2.since le1⟩
    have h1 := le1 k x hx
    rw [k2 k (by rw [h1]; simp)]
    exact le k x h1
end Go.Bb
namespace Go.Bb
set_option linter.unusedSimpArgs false
set_option linter.unusedVariables false
set_option maxRecDepth 20000
set_option maxHeartbeats 2000000
open Go.MapKept
deriving instance DecidableEq for Ed
theorem leafStr (a b : List UInt8) : qaz (strV a) (strV b) = decide (a = b) := by
  simp only [strV, qaz, qbe]
  rw [Bool.eq_iff_iff]; simp
theorem qag (e : Ed) (h8 : e.seen.length = 8) : q05 (List.replicate 11 (some IntKind.i64) ++ [none, none, none, some IntKind.i64]) (edC e) = true := by
  obtain ⟨dev, n, seen, kind, con, fld, val, time⟩ := e
  simp only at h8
  match seen, h8 with
  | [a, b, c, d, e, f, g, h], _ => rfl
theorem qah (x y : Ed) (hx : x.seen.length = 8) (hy : y.seen.length = 8) : q0b (edC x) (edC y) = decide (x = y) := by
  obtain ⟨dev, n, seen, kind, con, fld, val, time⟩ := x
  obtain ⟨dev', n', seen', kind', con', fld', val', time'⟩ := y
  simp only at hx hy
  match seen, hx, seen', hy with
  | [a, b, c, d, e, f, g, h], _, [a', b', c', d', e', f', g', h'], _ =>
    simp only [edC, List.map_cons, List.map_nil, List.cons_append, List.nil_append, q0b, leafStr]
    simp only [qaz]
    rw [Bool.eq_iff_iff]
    simp
    intro _ _
    simp only [and_assoc]
abbrev KD : KeyT := .agg [some .i64, some .i64]
def dotK (d n : Int) : Value := .agg #[.int .i64 d, .int .i64 n]
def q9i (L : List Ed) (d n : Int) : Option Ed := L.find? fun x => decide (x.dev = d ∧ x.n = n)
theorem keyD (d n d' n' : Int) : keyV KD (dotK d n) (dotK d' n') = some (decide (d' = d ∧ n' = n)) := by
  simp only [keyV, dotK, q05, q91, q0b, qaz, decide_true, Bool.and_true, if_true]
  congr 1
  rw [Bool.eq_iff_iff]
  simp
  omega
theorem qbq {d n : Int} : ∀ {es : List MapEntry} {L : List Ed} (i : Nat), EntB es L → q9i L d n = none → q6k KD (dotK d n) es i = some none
  | [], _, _, _, _ => rfl
  | e :: es, [], i, h, _ => by simp [EntB] at h
  | e :: es, x :: L, i, h, hn => by
      simp only [EntB, List.map_cons, List.cons.injEq, Prod.mk.injEq] at h
      obtain ⟨⟨h1, h2⟩, h3⟩ := h
      unfold q9i at hn
      rw [List.find?_cons] at hn
      have hx : ¬ (x.dev = d ∧ x.n = n) := by
        intro q
        simp [q] at hn
      unfold q6k
      rw [h1, show dotV x = dotK x.dev x.n from rfl, keyD, decide_eq_false hx]
      exact qbq (i + 1) h3 (by simpa [q9i, hx] using hn)
theorem qbp {d n : Int} {w : Ed} : ∀ {es : List MapEntry} {L : List Ed} (i : Nat), EntB es L → q9i L d n = some w → ∃ j, q6k KD (dotK d n) es i = some (some (j, edV w))
  | [], [], _, _, hs => by simp [q9i] at hs
  | [], _ :: _, _, h, _ => by simp [EntB] at h
  | e :: es, [], i, h, _ => by simp [EntB] at h
  | e :: es, x :: L, i, h, hs => by
      simp only [EntB, List.map_cons, List.cons.injEq, Prod.mk.injEq] at h
      obtain ⟨⟨h1, h2⟩, h3⟩ := h
      unfold q9i at hs
      rw [List.find?_cons] at hs
      unfold q6k
      rw [h1, show dotV x = dotK x.dev x.n from rfl, keyD]
      by_cases hx : x.dev = d ∧ x.n = n
      · rw [decide_eq_true hx]
        have hw : x = w := by simpa [hx] using hs
        exact ⟨i, by rw [h2, hw]⟩
      · rw [decide_eq_false hx]
        exact qbp (i + 1) h3 (by simpa [q9i, hx] using hs)
theorem q8i {S : List Ed} {d n : Int} : q9i S d n = none ↔ ∀ x ∈ S, ¬ (x.dev = d ∧ x.n = n) := by
  unfold q9i; rw [List.find?_eq_none]; simp
theorem getD_some {S : List Ed} {d n : Int} {w : Ed} (h : q9i S d n = some w) : w ∈ S ∧ w.dev = d ∧ w.n = n := by
  unfold q9i at h
  exact ⟨List.mem_of_find?_eq_some h, by simpa using List.find?_some h⟩
theorem qg6 {L S : List Ed} (p : L.Perm S) (ok : BkS S) (d n : Int) : q9i L d n = q9i S d n := by
  cases hs : q9i S d n with
  | none =>
    rw [q8i] at hs ⊢
    exact fun x hx => hs x (p.mem_iff.1 hx)
  | some w =>
    cases hl : q9i L d n with
    | none =>
      rw [q8i] at hl
      have := getD_some hs
      exact absurd this.2 (hl w (p.mem_iff.2 this.1))
    | some v =>
      have h1 := getD_some hs
      have h2 := getD_some hl
      rw [ok.tot (p.mem_iff.1 h2.1) h1.1 (by rw [h2.2.1, h1.2.1]) (by rw [h2.2.2, h1.2.2])]
def addB (S : List Ed) (e : Ed) : List Ed × Int :=
  if q8h e = true then
    match q9i S e.dev e.n with
    | some old => if old = e then (S, 0) else (S, 10)
    | none => if 500 ≤ S.length then (S, 2) else (insR q4m e S, 0)
  else (S, 1)
theorem BkS.ins {S : List Ed} (ok : BkS S) {e : Ed} (hg : q8h e = true) (h8 : e.seen.length = 8) (hn : q9i S e.dev e.n = none) (hl : ¬ 500 ≤ S.length) : BkS (insR q4m e S) := by
  have hp := q98 q4m e S
  rw [q8i] at hn
  refine ⟨qck (fun x y z => @qal x y z) ok.rise fun x hx => ?_, fun x hx => ?_, fun x hx => ?_, ?_⟩
  · have := hn x hx
    unfold q4m; omega
  · rcases List.mem_cons.1 (hp.mem_iff.1 hx) with h | h
    · rw [h]; exact hg
    · exact ok.good x h
  · rcases List.mem_cons.1 (hp.mem_iff.1 hx) with h | h
    · rw [h]; exact h8
    · exact ok.h8 x h
  · rw [hp.length_eq, List.length_cons]; omega
theorem qh9 (E : EnvT tab) (h : Heap) : ACallN E.toEnv qkn [] h fun v h' => h.le h' ∧ ∃ b r, v = .pointer (some ⟨b, 0, none⟩) ∧ h b = none ∧ h r = none ∧ BookAt h' b r [] := by
  refine q2r qe5 qaj rfl rfl (q02 ?_)
  unfold qaj
  simp -implicitDefEqProofs only [zA,reduceIte,reduceCtorEq,Nat.reduceEqDiff,Nat.reduceAdd,Nat.reduceMul,Nat.reduceLT,Nat.reduceSub,Int.reduceLT,Int.reduceLE,Int.reduceEq,Int.reduceNe,Int.reduceSub,Int.reduceAdd,Int.reduceMul,Int.reduceBEq,Int.reduceBNe,Int.reduceGT,Int.reduceGE,Nat.reduceGT,Int.reduceToNat,Int.reduceNeg,Nat.reduceLeDiff,Nat.reduceBEq,Nat.reduceBneDiff]
  intro b hb
  try simp -implicitDefEqProofs only [zA,reduceIte,reduceCtorEq,Nat.reduceEqDiff,Nat.reduceAdd,Nat.reduceMul,Nat.reduceLT,Nat.reduceSub,Int.reduceLT,Int.reduceLE,Int.reduceEq,Int.reduceNe,Int.reduceSub,Int.reduceAdd,Int.reduceMul,Int.reduceBEq,Int.reduceBNe,Int.reduceGT,Int.reduceGE,Nat.reduceGT,Int.reduceToNat,Int.reduceNeg,Nat.reduceLeDiff,Nat.reduceBEq,Nat.reduceBneDiff]
  intro r hr
  try simp -implicitDefEqProofs only [zA,reduceIte,reduceCtorEq,Nat.reduceEqDiff,Nat.reduceAdd,Nat.reduceMul,Nat.reduceLT,Nat.reduceSub,Int.reduceLT,Int.reduceLE,Int.reduceEq,Int.reduceNe,Int.reduceSub,Int.reduceAdd,Int.reduceMul,Int.reduceBEq,Int.reduceBNe,Int.reduceGT,Int.reduceGE,Nat.reduceGT,Int.reduceToNat,Int.reduceNeg,Nat.reduceLeDiff,Nat.reduceBEq,Nat.reduceBneDiff]
  have ne : r ≠ b := by intro e; subst e; rw [Heap.q03] at hr; cases hr
  have hr' : h r = none := by rw [Heap.q1a ne] at hr; exact hr
  refine ⟨Heap.qgp (Heap.q0o (Heap.q09 _) hb _) hr _, r, b, rfl, hr', hb, ne, Heap.q03 _ _ _, ⟨#[], 0, [], by rw [Heap.q1a ne.symm, Heap.q03], rfl, List.Perm.refl _, stamped_empty _⟩, BkS.nil⟩
def Keep (r : Nat) (H H' : Heap) : Prop := ∀ k x, H k = some x → k ≠ r → H' k = some x
theorem Keep.qkz {r : Nat} {H H' : Heap} (le : H.le H') : Keep r H H' := fun k x h _ => le k x h
theorem q4e (E : EnvT tab) {H : Heap} {b r : Nat} {S : List Ed} (B : BookAt H b r S) (e : Ed) (h8 : e.seen.length = 8) (hc : e.con.length ≤ 9223372036854775807) (hf : e.fld.length ≤ 9223372036854775807) (hn : -9223372036854775808 ≤ e.n) (hn2 : e.n ≤ 9223372036854775807) :
    ACallN E.toEnv qfu [.pointer (some ⟨b, 0, none⟩), edV e] H fun v H' => v = .int .i64 (addB S e).2 ∧ BookAt H' b r (addB S e).1 ∧ Keep r H H' := by
  refine q2r q9d q6p rfl rfl (q02 ?_)
  unfold q6p edV
  have el := q5d h8
  simp -implicitDefEqProofs only [zA,reduceIte,reduceCtorEq,Nat.reduceEqDiff,Nat.reduceAdd,Nat.reduceMul,Nat.reduceLT,Nat.reduceSub,Int.reduceLT,Int.reduceLE,Int.reduceEq,Int.reduceNe,Int.reduceSub,Int.reduceAdd,Int.reduceMul,Int.reduceBEq,Int.reduceBNe,Int.reduceGT,Int.reduceGE,Nat.reduceGT,Int.reduceToNat,Int.reduceNeg,Nat.reduceLeDiff,Nat.reduceBEq,Nat.reduceBneDiff]
  intro b3 hb3
  try simp -implicitDefEqProofs only [zA,reduceIte,reduceCtorEq,Nat.reduceEqDiff,Nat.reduceAdd,Nat.reduceMul,Nat.reduceLT,Nat.reduceSub,Int.reduceLT,Int.reduceLE,Int.reduceEq,Int.reduceNe,Int.reduceSub,Int.reduceAdd,Int.reduceMul,Int.reduceBEq,Int.reduceBNe,Int.reduceGT,Int.reduceGE,Nat.reduceGT,Int.reduceToNat,Int.reduceNeg,Nat.reduceLeDiff,Nat.reduceBEq,Nat.reduceBneDiff]
  rw [el]
  have le3 := Heap.q0o (Heap.q09 H) hb3 (.own 0 (edC e) 15)
  have A : EdAt (H.set b3 (.own 0 (edC e) 15)) b3 e := EdAt.of (Heap.q03 _ _ _) h8
  have B3 := B.le le3
  generalize (H.set b3 (.own 0 (edC e) 15)) = G at le3 A B3
  simp -implicitDefEqProofs only [zA,reduceIte,reduceCtorEq,Nat.reduceEqDiff,Nat.reduceAdd,Nat.reduceMul,Nat.reduceLT,Nat.reduceSub,Int.reduceLT,Int.reduceLE,Int.reduceEq,Int.reduceNe,Int.reduceSub,Int.reduceAdd,Int.reduceMul,Int.reduceBEq,Int.reduceBNe,Int.reduceGT,Int.reduceGE,Nat.reduceGT,Int.reduceToNat,Int.reduceNeg,Nat.reduceLeDiff,Nat.reduceBEq,Nat.reduceBneDiff,A.all]
  refine (qki E G e h8 hc hf hn hn2).mono ?_
  rintro v G1 ⟨le1, rfl⟩
  have A1 := A.le h8 le1
  have B1 := B3.le le1
  have leX := Heap.q08 le3 le1
  cases hg : q8h e with
  | false =>
    have ea : addB S e = (S, 1) := by simp [addB, hg]
    rw [ea]
    simp -implicitDefEqProofs only [zA,reduceIte,reduceCtorEq,Nat.reduceEqDiff,Nat.reduceAdd,Nat.reduceMul,Nat.reduceLT,Nat.reduceSub,Int.reduceLT,Int.reduceLE,Int.reduceEq,Int.reduceNe,Int.reduceSub,Int.reduceAdd,Int.reduceMul,Int.reduceBEq,Int.reduceBNe,Int.reduceGT,Int.reduceGE,Nat.reduceGT,Int.reduceToNat,Int.reduceNeg,Nat.reduceLeDiff,Nat.reduceBEq,Nat.reduceBneDiff]
    exact ⟨B1, Keep.qkz leX⟩
  | true =>
    obtain ⟨es, c, L, qr, en, hp, st⟩ := B1.qr
    have cb : q1o G1 ⟨b, 0, none⟩ = some (.map (some r)) := by rw [q3q B1.qb (by simp)]; rfl
    have ma : q5f G1 r = some (es, c) := by simp [q5f, qr]
    have kf : q92 (.agg [some IntKind.i64, some IntKind.i64]) (.agg #[Value.int .i64 e.dev, Value.int .i64 e.n]) = some () := rfl
    have hL : es.size = S.length := by
      have := congrArg List.length en
      simp only [List.length_map, Array.length_toList] at this
      rw [this, hp.length_eq]
    have hgp := qg6 hp B1.ok e.dev e.n
    have fl : ∀ (d n : Int) (es : List MapEntry), q6k (.agg [some IntKind.i64, some IntKind.i64]) (.agg [Value.int .i64 d, Value.int .i64 n].toArray) es 0 = q6k KD (dotK d n) es 0 := fun _ _ _ => rfl
    unfold addB
    rw [if_pos hg]
    cases hgd : q9i S e.dev e.n with
    | none =>
      rw [hgd] at hgp
      have fv := qbq 0 en hgp
      simp -implicitDefEqProofs only [zA,reduceIte,reduceCtorEq,Nat.reduceEqDiff,Nat.reduceAdd,Nat.reduceMul,Nat.reduceLT,Nat.reduceSub,Int.reduceLT,Int.reduceLE,Int.reduceEq,Int.reduceNe,Int.reduceSub,Int.reduceAdd,Int.reduceMul,Int.reduceBEq,Int.reduceBNe,Int.reduceGT,Int.reduceGE,Nat.reduceGT,Int.reduceToNat,Int.reduceNeg,Nat.reduceLeDiff,Nat.reduceBEq,Nat.reduceBneDiff,cb,A1.dot,ma,fl,fv,kf]
      intro b5 hb5
      have s5 : q57 (G1.set b5 (.own 0 Z15 Z15.length)) 15 (.pointer (some ⟨b5, 0, none⟩)) (.agg Z15.toArray) = some (G1.set b5 (.own 0 Z15 15)) := z6z (by decide) rfl rfl rfl (by decide)
      unfold Z15 at s5
      simp -implicitDefEqProofs only [zA,reduceIte,reduceCtorEq,Nat.reduceEqDiff,Nat.reduceAdd,Nat.reduceMul,Nat.reduceLT,Nat.reduceSub,Int.reduceLT,Int.reduceLE,Int.reduceEq,Int.reduceNe,Int.reduceSub,Int.reduceAdd,Int.reduceMul,Int.reduceBEq,Int.reduceBNe,Int.reduceGT,Int.reduceGE,Nat.reduceGT,Int.reduceToNat,Int.reduceNeg,Nat.reduceLeDiff,Nat.reduceBEq,Nat.reduceBneDiff,s5]
      have le5 := Heap.q0o (Heap.q09 G1) hb5 (.own 0 (List.replicate 11 (.int .i64 0) ++ [.string .empty, .string .empty, .string .empty, .int .i64 0]) 15)
      have B5 := B1.le le5
      have qr5 := le5 _ _ qr
      have A5 := A1.le h8 le5
      have leY := Heap.q08 leX le5
      generalize (G1.set b5 (.own 0 (List.replicate 11 (.int .i64 0) ++ [.string .empty, .string .empty, .string .empty, .int .i64 0]) 15)) = G5 at le5 B5 qr5 A5 leY
      unfold q73
      simp -implicitDefEqProofs only [zA,reduceIte,reduceCtorEq,Nat.reduceEqDiff,Nat.reduceAdd,Nat.reduceMul,Nat.reduceLT,Nat.reduceSub,Int.reduceLT,Int.reduceLE,Int.reduceEq,Int.reduceNe,Int.reduceSub,Int.reduceAdd,Int.reduceMul,Int.reduceBEq,Int.reduceBNe,Int.reduceGT,Int.reduceGE,Nat.reduceGT,Int.reduceToNat,Int.reduceNeg,Nat.reduceLeDiff,Nat.reduceBEq,Nat.reduceBneDiff]
      unfold q97
      have cb5 : q1o G5 ⟨b, 0, none⟩ = some (.map (some r)) := by rw [q3q B5.qb (by simp)]; rfl
      have ma5 : q5f G5 r = some (es, c) := by simp [q5f, qr5]
      by_cases g5 : 500 ≤ S.length
      · have g5' : (500 : Int) ≤ (es.size : Int) := by rw [hL]; omega
        simp -implicitDefEqProofs only [zA,reduceIte,reduceCtorEq,Nat.reduceEqDiff,Nat.reduceAdd,Nat.reduceMul,Nat.reduceLT,Nat.reduceSub,Int.reduceLT,Int.reduceLE,Int.reduceEq,Int.reduceNe,Int.reduceSub,Int.reduceAdd,Int.reduceMul,Int.reduceBEq,Int.reduceBNe,Int.reduceGT,Int.reduceGE,Nat.reduceGT,Int.reduceToNat,Int.reduceNeg,Nat.reduceLeDiff,Nat.reduceBEq,Nat.reduceBneDiff,cb5,ma5,g5',g5]
        exact ⟨fun _ _ => trivial, B5, Keep.qkz leY⟩
      · have g5' : ¬ (500 : Int) ≤ (es.size : Int) := by rw [hL]; omega
        have mu : qly G5 (.agg [some IntKind.i64, some IntKind.i64]) (.map (some r)) (.agg [Value.int .i64 e.dev, Value.int .i64 e.n].toArray) (.agg (edC e).toArray) = some (G5.set r (.obj (.map (es.push { key := dotV e, val := edV e, born := c }) (c + 1)))) := by
          simp only [qly, qr5, kf, fl, fv]
          rfl
        simp -implicitDefEqProofs only [zA,reduceIte,reduceCtorEq,Nat.reduceEqDiff,Nat.reduceAdd,Nat.reduceMul,Nat.reduceLT,Nat.reduceSub,Int.reduceLT,Int.reduceLE,Int.reduceEq,Int.reduceNe,Int.reduceSub,Int.reduceAdd,Int.reduceMul,Int.reduceBEq,Int.reduceBNe,Int.reduceGT,Int.reduceGE,Nat.reduceGT,Int.reduceToNat,Int.reduceNeg,Nat.reduceLeDiff,Nat.reduceBEq,Nat.reduceBneDiff,cb5,ma5,g5',g5,A5.dot,A5.all,mu]
        refine ⟨fun _ _ => trivial, ⟨B5.ne, by rw [Heap.q1a B5.ne]; exact B5.qb, ⟨_, _, L ++ [e], Heap.q03 _ _ _, ?_, ?_, ?_⟩, B5.ok.ins hg h8 hgd g5⟩, fun k x hx hk => ?_⟩
        · unfold EntB at en ⊢
          rw [Array.toList_push, List.map_append, List.map_append, en]
          rfl
        · refine List.Perm.trans ?_ (q98 q4m e S).symm
          exact (List.perm_append_comm).trans (hp.cons e)
        · refine stamped_push st fun x hx hke => ?_
          have h1 : (x.key, x.val) ∈ es.toList.map (fun e => (e.key, e.val)) := List.mem_map_of_mem hx
          unfold EntB at en
          rw [en] at h1
          obtain ⟨y, hy, he⟩ := List.mem_map.1 h1
          simp only [Prod.mk.injEq] at he
          rw [q8i] at hgp
          have h2 : dotV y = dotV e := by rw [he.1]; exact hke
          simp only [dotV, Value.agg.injEq] at h2
          refine hgp y hy ?_
          simpa using h2
        · rw [Heap.q1a hk]; exact leY k x hx
    | some old =>
      rw [hgd] at hgp
      obtain ⟨j, fv⟩ := qbp 0 en hgp
      have ho8 : old.seen.length = 8 := B1.ok.h8 old (getD_some hgd).1
      unfold edV at fv
      simp -implicitDefEqProofs only [zA,reduceIte,reduceCtorEq,Nat.reduceEqDiff,Nat.reduceAdd,Nat.reduceMul,Nat.reduceLT,Nat.reduceSub,Int.reduceLT,Int.reduceLE,Int.reduceEq,Int.reduceNe,Int.reduceSub,Int.reduceAdd,Int.reduceMul,Int.reduceBEq,Int.reduceBNe,Int.reduceGT,Int.reduceGE,Nat.reduceGT,Int.reduceToNat,Int.reduceNeg,Nat.reduceLeDiff,Nat.reduceBEq,Nat.reduceBneDiff,cb,A1.dot,ma,fl,fv,kf]
      intro b5 hb5
      have s5 := stE G1 b5 ho8
      unfold Z15 at s5
      simp -implicitDefEqProofs only [zA,reduceIte,reduceCtorEq,Nat.reduceEqDiff,Nat.reduceAdd,Nat.reduceMul,Nat.reduceLT,Nat.reduceSub,Int.reduceLT,Int.reduceLE,Int.reduceEq,Int.reduceNe,Int.reduceSub,Int.reduceAdd,Int.reduceMul,Int.reduceBEq,Int.reduceBNe,Int.reduceGT,Int.reduceGE,Nat.reduceGT,Int.reduceToNat,Int.reduceNeg,Nat.reduceLeDiff,Nat.reduceBEq,Nat.reduceBneDiff,s5]
      have le5 := Heap.q0o (Heap.q09 G1) hb5 (.own 0 (edC old) 15)
      have O5 : EdAt (G1.set b5 (.own 0 (edC old) 15)) b5 old := EdAt.of (Heap.q03 _ _ _) ho8
      have B5 := B1.le le5
      have A5 := A1.le h8 le5
      have leY := Heap.q08 leX le5
      generalize (G1.set b5 (.own 0 (edC old) 15)) = G5 at le5 B5 O5 A5 leY
      unfold q73
      have k1 := qag old ho8
      have k2 := qag e h8
      have k3 := qah old e ho8 h8
      by_cases oe : old = e
      · subst oe
        have k3' : q0b (edC old) (edC old) = true := by rw [k3]; simp
        simp -implicitDefEqProofs only [zA,reduceIte,reduceCtorEq,Nat.reduceEqDiff,Nat.reduceAdd,Nat.reduceMul,Nat.reduceLT,Nat.reduceSub,Int.reduceLT,Int.reduceLE,Int.reduceEq,Int.reduceNe,Int.reduceSub,Int.reduceAdd,Int.reduceMul,Int.reduceBEq,Int.reduceBNe,Int.reduceGT,Int.reduceGE,Nat.reduceGT,Int.reduceToNat,Int.reduceNeg,Nat.reduceLeDiff,Nat.reduceBEq,Nat.reduceBneDiff,O5.all,A5.all,k1,k2,k3']
        exact ⟨fun _ _ => trivial, B5, Keep.qkz leY⟩
      · have k3' : q0b (edC old) (edC e) = false := by rw [k3]; simp [oe]
        simp -implicitDefEqProofs only [zA,reduceIte,reduceCtorEq,Nat.reduceEqDiff,Nat.reduceAdd,Nat.reduceMul,Nat.reduceLT,Nat.reduceSub,Int.reduceLT,Int.reduceLE,Int.reduceEq,Int.reduceNe,Int.reduceSub,Int.reduceAdd,Int.reduceMul,Int.reduceBEq,Int.reduceBNe,Int.reduceGT,Int.reduceGE,Nat.reduceGT,Int.reduceToNat,Int.reduceNeg,Nat.reduceLeDiff,Nat.reduceBEq,Nat.reduceBneDiff,O5.all,A5.all,k1,k2,k3',oe]
        exact ⟨fun _ _ => trivial, B5, Keep.qkz leY⟩
end Go.Bb
namespace Go.Bb
set_option linter.unusedSimpArgs false
set_option linter.unusedVariables false
set_option maxRecDepth 20000
set_option maxHeartbeats 2000000
open Go.MapKept
abbrev Str := List UInt8
def q8n (l : List Str) : List Str := l.mergeSort fun x y => decide (x ≤ y)
theorem qbi (l : List Str) : (q8n l).length = l.length := by simp [q8n]
theorem qid (E : EnvT tab) (K : BkOk E) {h0 H : Heap} {v : Value} {L : List Str} (s : Ow h0 H 1 v L.length (L.map strV)) (hl : L.length ≤ 100000) :
    ACallN E.toEnv q29 [v] H fun r H' => Ow h0 H' 1 v (q8n L).length ((q8n L).map strV) ∧ (∀ b, h0 b ≠ none → H' b = H b) := by
  rcases s with ⟨rfl, hn, hc⟩ | ⟨b, o, c, sz, st, pre, rest, rfl, h2, h3, h4, h5, h6, h7⟩
  · have : L = [] := List.eq_nil_of_length_eq_zero hn
    subst this
    refine (qke E H).mono ?_
    rintro r H' rfl
    exact ⟨by simp [q8n]; exact Ow.nil _ _ _, fun _ _ => rfl⟩
  · intro f hf
    rw [K.f49] at hf
    cases hf
    refine qhd E.toEnv K.P L h4 h5 hl ?_
    refine ⟨.inr ⟨b, o, c, sz, st, pre, rest, by rw [qbi], by rw [qbi]; exact h2, h3, by rw [Heap.q03]; rfl, h5, by simp, h7⟩, fun k hk => ?_⟩
    rw [Heap.q1a (fun e => hk (by rw [e]; exact h3))]
theorem qer (E : EnvT tab) (K : BkOk E) {h0 H : Heap} {v : Value} {L : List Str} (s : Ow h0 H 1 v L.length (L.map strV)) (hl : L.length ≤ 100000) :
    ACallN E.toEnv q3y [v] H fun r H' => Ow h0 H' 1 r (Lib.compact L).length ((Lib.compact L).map strV) ∧ (∀ b, h0 b ≠ none → H' b = H b) := by
  rcases s with ⟨rfl, hn, hc⟩ | ⟨b, o, c, sz, st, pre, rest, rfl, h2, h3, h4, h5, h6, h7⟩
  · have : L = [] := List.eq_nil_of_length_eq_zero hn
    subst this
    intro f hf
    rw [K.f50] at hf
    cases hf
    exact qgt E.toEnv K.P ⟨Ow.nil _ _ _, fun _ _ => rfl⟩
  · intro f hf
    rw [K.f50] at hf
    cases hf
    have hle := Lib.compact_length_le L
    refine qf6 E.toEnv K.P L h4 h5 hl h2 ?_
    refine ⟨.inr ⟨b, o, c, sz, st, pre, List.replicate (L.length - (Lib.compact L).length) (strV []) ++ rest, rfl, by omega, h3, by rw [Heap.q03]; simp, h5, by simp, h7⟩, fun k hk => ?_⟩
    rw [Heap.q1a (fun e => hk (by rw [e]; exact h3))]
def ql3 (l : List Str) : List Str := Lib.compact (q8n l)
theorem qd8 {H H1 H2 : Heap} (le : H.le H1) (k : ∀ b, H b ≠ none → H2 b = H1 b) : H.le H2 := fun b x h => by
  rw [k b (by rw [h]; simp)]; exact le b x h
def allB (S : List Ed) (con fld : Str) : List Str := ((q9g S).filter fun e => decide (e.con = con) && decide (e.fld = fld)).map (·.val)
theorem qd4 (S : List Ed) : (q9g S).length ≤ S.length := by
  unfold q9g
  rw [(q9x _ _).length_eq]
  exact List.length_filter_le _ _
theorem qhl {S : List Ed} (ok : BkS S) : ∀ e ∈ q9g S, e.seen.length = 8 := fun e he => ok.h8 e (qfx.1 he).1
theorem qha (E : EnvT tab) (K : BkOk E) {H : Heap} {b r : Nat} {S : List Ed} (B : BookAt H b r S) (con fld : Str) :
    ACallN E.toEnv qft [.pointer (some ⟨b, 0, none⟩), strV con, strV fld] H fun v H' => H.le H' ∧ Ow H H' 1 v (allB S con fld).length ((allB S con fld).map strV) := by
  refine q2r q9c q6o rfl rfl (q02 ?_)
  unfold q6o
  have hS := B.ok.len
  have hl := qd4 S
  have h8 := qhl B.ok
  simp -implicitDefEqProofs only [zA,reduceIte,reduceCtorEq,Nat.reduceEqDiff,Nat.reduceAdd,Nat.reduceMul,Nat.reduceLT,Nat.reduceSub,Int.reduceLT,Int.reduceLE,Int.reduceEq,Int.reduceNe,Int.reduceSub,Int.reduceAdd,Int.reduceMul,Int.reduceBEq,Int.reduceBNe,Int.reduceGT,Int.reduceGE,Nat.reduceGT,Int.reduceToNat,Int.reduceNeg,Nat.reduceLeDiff,Nat.reduceBEq,Nat.reduceBneDiff]
  refine (qcq E K B).mono ?_
  rintro v H1 ⟨le1, ow1⟩
  have sl1 := ow1.sl
  obtain ⟨base, c, rfl⟩ := sl1.shape
  unfold allB
  generalize q9g S = L at hl h8 ow1 sl1 ⊢
  simp -implicitDefEqProofs only [zA,reduceIte,reduceCtorEq,Nat.reduceEqDiff,Nat.reduceAdd,Nat.reduceMul,Nat.reduceLT,Nat.reduceSub,Int.reduceLT,Int.reduceLE,Int.reduceEq,Int.reduceNe,Int.reduceSub,Int.reduceAdd,Int.reduceMul,Int.reduceBEq,Int.reduceBNe,Int.reduceGT,Int.reduceGE,Nat.reduceGT,Int.reduceToNat,Int.reduceNeg,Nat.reduceLeDiff,Nat.reduceBEq,Nat.reduceBneDiff]
  refine q2s (fun m t G => H1.le G ∧ ∃ (i : Nat) (vl : Value), t = tl [(1, strV con), (2, strV fld), (7, vl), (11, .slice base L.length c), (12, .int .i64 L.length), (13, .int .i64 i)] ∧ i ≤ L.length ∧ m = L.length - i ∧ Ow H1 G 1 vl (((L.take i).filter fun e => decide (e.con = con) && decide (e.fld = fld)).map (·.val)).length ((((L.take i).filter fun e => decide (e.con = con) && decide (e.fld = fld)).map (·.val)).map strV)) L.length
    ⟨Heap.q09 _, 0, _, rfl, by omega, by omega, Ow.nil _ _ _⟩ ?_
  rintro m t G ⟨le, i, vl, rfl, hi, rfl, ow⟩
  by_cases hlt : i < L.length
  · obtain ⟨bs, o, c', hv, hc, q1o⟩ := sl1.edAt h8 i hlt
    simp only [Value.slice.injEq, true_and] at hv
    obtain ⟨rfl, rfl⟩ := hv
    have hi1 : (i : Int) < L.length := by omega
    have hi2 : (0 : Int) ≤ i := by omega
    have w1 : IntKind.i64.wrap ((i : Int) + 1) = ((i + 1 : Nat) : Int) := qdo (by omega)
    have hi3 := q1o _ le
    have hx := h8 L[i] (List.getElem_mem hlt)
    have et : L.take (i + 1) = L.take i ++ [L[i]] := List.take_succ_eq_append_getElem hlt
    generalize L[i] = y at hi3 hx et
    simp -implicitDefEqProofs only [zA,reduceIte,reduceCtorEq,Nat.reduceEqDiff,Nat.reduceAdd,Nat.reduceMul,Nat.reduceLT,Nat.reduceSub,Int.reduceLT,Int.reduceLE,Int.reduceEq,Int.reduceNe,Int.reduceSub,Int.reduceAdd,Int.reduceMul,Int.reduceBEq,Int.reduceBNe,Int.reduceGT,Int.reduceGE,Nat.reduceGT,Int.reduceToNat,Int.reduceNeg,Nat.reduceLeDiff,Nat.reduceBEq,Nat.reduceBneDiff,hi1]
    unfold q96
    simp -implicitDefEqProofs only [zA,reduceIte,reduceCtorEq,Nat.reduceEqDiff,Nat.reduceAdd,Nat.reduceMul,Nat.reduceLT,Nat.reduceSub,Int.reduceLT,Int.reduceLE,Int.reduceEq,Int.reduceNe,Int.reduceSub,Int.reduceAdd,Int.reduceMul,Int.reduceBEq,Int.reduceBNe,Int.reduceGT,Int.reduceGE,Nat.reduceGT,Int.reduceToNat,Int.reduceNeg,Nat.reduceLeDiff,Nat.reduceBEq,Nat.reduceBneDiff,hi1,hi2,Int.toNat_natCast,hi3]
    intro b6 hb6
    have s6 := stE G b6 hx
    unfold Z15 at s6
    try simp -implicitDefEqProofs only [zA,reduceIte,reduceCtorEq,Nat.reduceEqDiff,Nat.reduceAdd,Nat.reduceMul,Nat.reduceLT,Nat.reduceSub,Int.reduceLT,Int.reduceLE,Int.reduceEq,Int.reduceNe,Int.reduceSub,Int.reduceAdd,Int.reduceMul,Int.reduceBEq,Int.reduceBNe,Int.reduceGT,Int.reduceGE,Nat.reduceGT,Int.reduceToNat,Int.reduceNeg,Nat.reduceLeDiff,Nat.reduceBEq,Nat.reduceBneDiff,s6]
    have le6 : G.le (G.set b6 (.own 0 (edC y) 15)) := Heap.q0o (Heap.q09 _) hb6 _
    have A : EdAt (G.set b6 (.own 0 (edC y) 15)) b6 y := EdAt.of (Heap.q03 _ _ _) hx
    have ow6 := ow.le le6
    have leB := Heap.q08 le le6
    generalize (G.set b6 (.own 0 (edC y) 15)) = G6 at le6 A ow6 leB
    have e1 := qfh y.con con
    have e2 := qfh y.fld fld
    have hn : ((L.take i).filter fun e => decide (e.con = con) && decide (e.fld = fld)).length ≤ i := by
      have := List.length_filter_le (fun e : Ed => decide (e.con = con) && decide (e.fld = fld)) (L.take i)
      rw [List.length_take] at this; omega
    have no : (decide (y.con = con) && decide (y.fld = fld)) = false → Ow H1 G6 1 vl (((L.take (i + 1)).filter fun e => decide (e.con = con) && decide (e.fld = fld)).map (·.val)).length ((((L.take (i + 1)).filter fun e => decide (e.con = con) && decide (e.fld = fld)).map (·.val)).map strV) := fun h => by
      rw [et, List.filter_append]
      simp only [List.filter_cons, h, List.filter_nil, List.append_nil, Bool.false_eq_true, if_false]
      exact ow6
    by_cases g1 : y.con = con
    · rw [decide_eq_true g1] at e1
      by_cases g2 : y.fld = fld
      · rw [decide_eq_true g2] at e2
        simp -implicitDefEqProofs only [zA,reduceIte,reduceCtorEq,Nat.reduceEqDiff,Nat.reduceAdd,Nat.reduceMul,Nat.reduceLT,Nat.reduceSub,Int.reduceLT,Int.reduceLE,Int.reduceEq,Int.reduceNe,Int.reduceSub,Int.reduceAdd,Int.reduceMul,Int.reduceBEq,Int.reduceBNe,Int.reduceGT,Int.reduceGE,Nat.reduceGT,Int.reduceToNat,Int.reduceNeg,Nat.reduceLeDiff,Nat.reduceBEq,Nat.reduceBneDiff,A.con,e1,A.fld,e2,A.val]
        intro b8 hb8
        try simp -implicitDefEqProofs only [zA,reduceIte,reduceCtorEq,Nat.reduceEqDiff,Nat.reduceAdd,Nat.reduceMul,Nat.reduceLT,Nat.reduceSub,Int.reduceLT,Int.reduceLE,Int.reduceEq,Int.reduceNe,Int.reduceSub,Int.reduceAdd,Int.reduceMul,Int.reduceBEq,Int.reduceBNe,Int.reduceGT,Int.reduceGE,Nat.reduceGT,Int.reduceToNat,Int.reduceNeg,Nat.reduceLeDiff,Nat.reduceBEq,Nat.reduceBneDiff]
        have le8 := Heap.q0o (Heap.q09 G6) hb8 (.own 0 [strV y.val] 1)
        refine qbt (bytes := 16) (m := 1) (news := [strV y.val]) (Heap.q08 leB le8) (by decide) (ow6.le le8) (Sl.lit (n := 1) rfl) rfl (by rw [List.length_map]; omega) (by rw [List.length_map]; omega) ?_
        intro v' h' ow9 le9
        simp -implicitDefEqProofs only [zA,reduceIte,reduceCtorEq,Nat.reduceEqDiff,Nat.reduceAdd,Nat.reduceMul,Nat.reduceLT,Nat.reduceSub,Int.reduceLT,Int.reduceLE,Int.reduceEq,Int.reduceNe,Int.reduceSub,Int.reduceAdd,Int.reduceMul,Int.reduceBEq,Int.reduceBNe,Int.reduceGT,Int.reduceGE,Nat.reduceGT,Int.reduceToNat,Int.reduceNeg,Nat.reduceLeDiff,Nat.reduceBEq,Nat.reduceBneDiff,w1]
        refine ⟨_, ?_, le9, i + 1, v', rfl, by omega, rfl, ?_⟩
        · omega
        · rw [et, List.filter_append]
          simp only [List.filter_cons, g1, g2, decide_true, Bool.and_self, if_true, List.filter_nil, List.map_append, List.length_append, List.map_cons, List.map_nil, List.length_cons, List.length_nil]
          simpa using ow9
      · rw [decide_eq_false g2] at e2
        simp -implicitDefEqProofs only [zA,reduceIte,reduceCtorEq,Nat.reduceEqDiff,Nat.reduceAdd,Nat.reduceMul,Nat.reduceLT,Nat.reduceSub,Int.reduceLT,Int.reduceLE,Int.reduceEq,Int.reduceNe,Int.reduceSub,Int.reduceAdd,Int.reduceMul,Int.reduceBEq,Int.reduceBNe,Int.reduceGT,Int.reduceGE,Nat.reduceGT,Int.reduceToNat,Int.reduceNeg,Nat.reduceLeDiff,Nat.reduceBEq,Nat.reduceBneDiff,A.con,e1,A.fld,e2,w1]
        refine ⟨_, ?_, leB, i + 1, vl, rfl, by omega, rfl, no (by simp [g2])⟩
        omega
    · rw [decide_eq_false g1] at e1
      simp -implicitDefEqProofs only [zA,reduceIte,reduceCtorEq,Nat.reduceEqDiff,Nat.reduceAdd,Nat.reduceMul,Nat.reduceLT,Nat.reduceSub,Int.reduceLT,Int.reduceLE,Int.reduceEq,Int.reduceNe,Int.reduceSub,Int.reduceAdd,Int.reduceMul,Int.reduceBEq,Int.reduceBNe,Int.reduceGT,Int.reduceGE,Nat.reduceGT,Int.reduceToNat,Int.reduceNeg,Nat.reduceLeDiff,Nat.reduceBEq,Nat.reduceBneDiff,A.con,e1,w1]
      refine ⟨_, ?_, leB, i + 1, vl, rfl, by omega, rfl, no (by simp [g1])⟩
      omega
  · have hi1 : ¬ (i : Int) < L.length := by omega
    have e : i = L.length := by omega
    subst e
    rw [List.take_length] at ow
    simp -implicitDefEqProofs only [zA,reduceIte,reduceCtorEq,Nat.reduceEqDiff,Nat.reduceAdd,Nat.reduceMul,Nat.reduceLT,Nat.reduceSub,Int.reduceLT,Int.reduceLE,Int.reduceEq,Int.reduceNe,Int.reduceSub,Int.reduceAdd,Int.reduceMul,Int.reduceBEq,Int.reduceBNe,Int.reduceGT,Int.reduceGE,Nat.reduceGT,Int.reduceToNat,Int.reduceNeg,Nat.reduceLeDiff,Nat.reduceBEq,Nat.reduceBneDiff,hi1]
    exact ⟨Heap.q08 le1 le, ow.since le1⟩
def qco (S : List Ed) (con : Str) : List Str := ql3 (((q9g S).filter fun e => decide (e.con = con)).map (·.fld))
def q9e (S : List Ed) : List Str := ql3 ((q9g S).map (·.con))
theorem qdi (E : EnvT tab) (K : BkOk E) {H : Heap} {b r : Nat} {S : List Ed} (B : BookAt H b r S) (con : Str) :
    ACallN E.toEnv qd2 [.pointer (some ⟨b, 0, none⟩), strV con] H fun v H' => H.le H' ∧ Ow H H' 1 v (qco S con).length ((qco S con).map strV) := by
  refine q2r q7w q46 rfl rfl (q02 ?_)
  unfold q46
  have hS := B.ok.len
  have hl := qd4 S
  have h8 := qhl B.ok
  simp -implicitDefEqProofs only [zA,reduceIte,reduceCtorEq,Nat.reduceEqDiff,Nat.reduceAdd,Nat.reduceMul,Nat.reduceLT,Nat.reduceSub,Int.reduceLT,Int.reduceLE,Int.reduceEq,Int.reduceNe,Int.reduceSub,Int.reduceAdd,Int.reduceMul,Int.reduceBEq,Int.reduceBNe,Int.reduceGT,Int.reduceGE,Nat.reduceGT,Int.reduceToNat,Int.reduceNeg,Nat.reduceLeDiff,Nat.reduceBEq,Nat.reduceBneDiff]
  refine (qcq E K B).mono ?_
  rintro v H1 ⟨le1, ow1⟩
  have sl1 := ow1.sl
  obtain ⟨base, c, rfl⟩ := sl1.shape
  unfold qco
  generalize q9g S = L at hl h8 ow1 sl1 ⊢
  simp -implicitDefEqProofs only [zA,reduceIte,reduceCtorEq,Nat.reduceEqDiff,Nat.reduceAdd,Nat.reduceMul,Nat.reduceLT,Nat.reduceSub,Int.reduceLT,Int.reduceLE,Int.reduceEq,Int.reduceNe,Int.reduceSub,Int.reduceAdd,Int.reduceMul,Int.reduceBEq,Int.reduceBNe,Int.reduceGT,Int.reduceGE,Nat.reduceGT,Int.reduceToNat,Int.reduceNeg,Nat.reduceLeDiff,Nat.reduceBEq,Nat.reduceBneDiff]
  unfold q7y
  simp -implicitDefEqProofs only [zA,reduceIte,reduceCtorEq,Nat.reduceEqDiff,Nat.reduceAdd,Nat.reduceMul,Nat.reduceLT,Nat.reduceSub,Int.reduceLT,Int.reduceLE,Int.reduceEq,Int.reduceNe,Int.reduceSub,Int.reduceAdd,Int.reduceMul,Int.reduceBEq,Int.reduceBNe,Int.reduceGT,Int.reduceGE,Nat.reduceGT,Int.reduceToNat,Int.reduceNeg,Nat.reduceLeDiff,Nat.reduceBEq,Nat.reduceBneDiff]
  refine q2s (fun m t G => H1.le G ∧ ∃ (i : Nat) (vl : Value), t = tl [(1, strV con), (5, vl), (9, .slice base L.length c), (10, .int .i64 L.length), (11, .int .i64 i)] ∧ i ≤ L.length ∧ m = L.length - i ∧ Ow H1 G 1 vl (((L.take i).filter fun e => decide (e.con = con)).map (·.fld)).length ((((L.take i).filter fun e => decide (e.con = con)).map (·.fld)).map strV)) L.length
    ⟨Heap.q09 _, 0, _, rfl, by omega, by omega, Ow.nil _ _ _⟩ ?_
  rintro m t G ⟨le, i, vl, rfl, hi, rfl, ow⟩
  by_cases hlt : i < L.length
  · obtain ⟨bs, o, c', hv, hc, q1o⟩ := sl1.edAt h8 i hlt
    simp only [Value.slice.injEq, true_and] at hv
    obtain ⟨rfl, rfl⟩ := hv
    have hi1 : (i : Int) < L.length := by omega
    have hi2 : (0 : Int) ≤ i := by omega
    have w1 : IntKind.i64.wrap ((i : Int) + 1) = ((i + 1 : Nat) : Int) := qdo (by omega)
    have hi3 := q1o _ le
    have hx := h8 L[i] (List.getElem_mem hlt)
    have et : L.take (i + 1) = L.take i ++ [L[i]] := List.take_succ_eq_append_getElem hlt
    generalize L[i] = y at hi3 hx et
    simp -implicitDefEqProofs only [zA,reduceIte,reduceCtorEq,Nat.reduceEqDiff,Nat.reduceAdd,Nat.reduceMul,Nat.reduceLT,Nat.reduceSub,Int.reduceLT,Int.reduceLE,Int.reduceEq,Int.reduceNe,Int.reduceSub,Int.reduceAdd,Int.reduceMul,Int.reduceBEq,Int.reduceBNe,Int.reduceGT,Int.reduceGE,Nat.reduceGT,Int.reduceToNat,Int.reduceNeg,Nat.reduceLeDiff,Nat.reduceBEq,Nat.reduceBneDiff,hi1,hi2,Int.toNat_natCast,hi3]
    intro b6 hb6
    have s6 := stE G b6 hx
    unfold Z15 at s6
    try simp -implicitDefEqProofs only [zA,reduceIte,reduceCtorEq,Nat.reduceEqDiff,Nat.reduceAdd,Nat.reduceMul,Nat.reduceLT,Nat.reduceSub,Int.reduceLT,Int.reduceLE,Int.reduceEq,Int.reduceNe,Int.reduceSub,Int.reduceAdd,Int.reduceMul,Int.reduceBEq,Int.reduceBNe,Int.reduceGT,Int.reduceGE,Nat.reduceGT,Int.reduceToNat,Int.reduceNeg,Nat.reduceLeDiff,Nat.reduceBEq,Nat.reduceBneDiff,s6]
    have le6 : G.le (G.set b6 (.own 0 (edC y) 15)) := Heap.q0o (Heap.q09 _) hb6 _
    have A : EdAt (G.set b6 (.own 0 (edC y) 15)) b6 y := EdAt.of (Heap.q03 _ _ _) hx
    have ow6 := ow.le le6
    have leB := Heap.q08 le le6
    generalize (G.set b6 (.own 0 (edC y) 15)) = G6 at le6 A ow6 leB
    have hn : ((L.take i).filter fun e => decide (e.con = con)).length ≤ i := by
      have := List.length_filter_le (fun e : Ed => decide (e.con = con)) (L.take i)
      rw [List.length_take] at this; omega
    have e1 := qfh y.con con
    by_cases g1 : y.con = con
    · rw [decide_eq_true g1] at e1
      · simp -implicitDefEqProofs only [zA,reduceIte,reduceCtorEq,Nat.reduceEqDiff,Nat.reduceAdd,Nat.reduceMul,Nat.reduceLT,Nat.reduceSub,Int.reduceLT,Int.reduceLE,Int.reduceEq,Int.reduceNe,Int.reduceSub,Int.reduceAdd,Int.reduceMul,Int.reduceBEq,Int.reduceBNe,Int.reduceGT,Int.reduceGE,Nat.reduceGT,Int.reduceToNat,Int.reduceNeg,Nat.reduceLeDiff,Nat.reduceBEq,Nat.reduceBneDiff,A.con,e1,A.fld]
        intro b8 hb8
        try simp -implicitDefEqProofs only [zA,reduceIte,reduceCtorEq,Nat.reduceEqDiff,Nat.reduceAdd,Nat.reduceMul,Nat.reduceLT,Nat.reduceSub,Int.reduceLT,Int.reduceLE,Int.reduceEq,Int.reduceNe,Int.reduceSub,Int.reduceAdd,Int.reduceMul,Int.reduceBEq,Int.reduceBNe,Int.reduceGT,Int.reduceGE,Nat.reduceGT,Int.reduceToNat,Int.reduceNeg,Nat.reduceLeDiff,Nat.reduceBEq,Nat.reduceBneDiff]
        have le8 := Heap.q0o (Heap.q09 G6) hb8 (.own 0 [strV y.fld] 1)
        refine qbt (bytes := 16) (m := 1) (news := [strV y.fld]) (Heap.q08 leB le8) (by decide) (ow6.le le8) (Sl.lit (n := 1) rfl) rfl (by rw [List.length_map]; omega) (by rw [List.length_map]; omega) ?_
        intro v' h' ow9 le9
        simp -implicitDefEqProofs only [zA,reduceIte,reduceCtorEq,Nat.reduceEqDiff,Nat.reduceAdd,Nat.reduceMul,Nat.reduceLT,Nat.reduceSub,Int.reduceLT,Int.reduceLE,Int.reduceEq,Int.reduceNe,Int.reduceSub,Int.reduceAdd,Int.reduceMul,Int.reduceBEq,Int.reduceBNe,Int.reduceGT,Int.reduceGE,Nat.reduceGT,Int.reduceToNat,Int.reduceNeg,Nat.reduceLeDiff,Nat.reduceBEq,Nat.reduceBneDiff,w1]
        refine ⟨_, ?_, le9, i + 1, v', rfl, by omega, rfl, ?_⟩
        · omega
        · rw [et, List.filter_append]
          simp only [List.filter_cons, g1, decide_true, if_true, List.filter_nil, List.map_append, List.length_append, List.map_cons, List.map_nil, List.length_cons, List.length_nil]
          simpa using ow9
    · rw [decide_eq_false g1] at e1
      simp -implicitDefEqProofs only [zA,reduceIte,reduceCtorEq,Nat.reduceEqDiff,Nat.reduceAdd,Nat.reduceMul,Nat.reduceLT,Nat.reduceSub,Int.reduceLT,Int.reduceLE,Int.reduceEq,Int.reduceNe,Int.reduceSub,Int.reduceAdd,Int.reduceMul,Int.reduceBEq,Int.reduceBNe,Int.reduceGT,Int.reduceGE,Nat.reduceGT,Int.reduceToNat,Int.reduceNeg,Nat.reduceLeDiff,Nat.reduceBEq,Nat.reduceBneDiff,A.con,e1,w1]
      refine ⟨_, ?_, leB, i + 1, vl, rfl, by omega, rfl, ?_⟩
      · omega
      · rw [et, List.filter_append]
        simp only [List.filter_cons, g1, decide_false, List.filter_nil, List.append_nil, Bool.false_eq_true, if_false]
        exact ow6
  · have hi1 : ¬ (i : Int) < L.length := by omega
    have e : i = L.length := by omega
    subst e
    rw [List.take_length] at ow
    have hn2 : (L.filter fun e => decide (e.con = con)).length ≤ L.length := List.length_filter_le _ _
    simp -implicitDefEqProofs only [zA,reduceIte,reduceCtorEq,Nat.reduceEqDiff,Nat.reduceAdd,Nat.reduceMul,Nat.reduceLT,Nat.reduceSub,Int.reduceLT,Int.reduceLE,Int.reduceEq,Int.reduceNe,Int.reduceSub,Int.reduceAdd,Int.reduceMul,Int.reduceBEq,Int.reduceBNe,Int.reduceGT,Int.reduceGE,Nat.reduceGT,Int.reduceToNat,Int.reduceNeg,Nat.reduceLeDiff,Nat.reduceBEq,Nat.reduceBneDiff,hi1]
    refine (qid E K ow (by rw [List.length_map]; omega)).mono ?_
    rintro u H2 ⟨ow2, k2⟩
    have leU := qd8 le k2
    simp -implicitDefEqProofs only [zA,reduceIte,reduceCtorEq,Nat.reduceEqDiff,Nat.reduceAdd,Nat.reduceMul,Nat.reduceLT,Nat.reduceSub,Int.reduceLT,Int.reduceLE,Int.reduceEq,Int.reduceNe,Int.reduceSub,Int.reduceAdd,Int.reduceMul,Int.reduceBEq,Int.reduceBNe,Int.reduceGT,Int.reduceGE,Nat.reduceGT,Int.reduceToNat,Int.reduceNeg,Nat.reduceLeDiff,Nat.reduceBEq,Nat.reduceBneDiff]
    refine (qer E K ow2 (by rw [qbi, List.length_map]; omega)).mono ?_
    rintro u H3 ⟨ow3, k3⟩
    have leV := qd8 leU k3
    simp -implicitDefEqProofs only [zA,reduceIte,reduceCtorEq,Nat.reduceEqDiff,Nat.reduceAdd,Nat.reduceMul,Nat.reduceLT,Nat.reduceSub,Int.reduceLT,Int.reduceLE,Int.reduceEq,Int.reduceNe,Int.reduceSub,Int.reduceAdd,Int.reduceMul,Int.reduceBEq,Int.reduceBNe,Int.reduceGT,Int.reduceGE,Nat.reduceGT,Int.reduceToNat,Int.reduceNeg,Nat.reduceLeDiff,Nat.reduceBEq,Nat.reduceBneDiff]
    exact ⟨Heap.q08 le1 leV, ow3.since le1⟩
theorem qba (E : EnvT tab) (K : BkOk E) {H : Heap} {b r : Nat} {S : List Ed} (B : BookAt H b r S) :
    ACallN E.toEnv qbx [.pointer (some ⟨b, 0, none⟩)] H fun v H' => H.le H' ∧ Ow H H' 1 v (q9e S).length ((q9e S).map strV) := by
  refine q2r q62 q34 rfl rfl (q02 ?_)
  unfold q34
  have hS := B.ok.len
  have hl := qd4 S
  have h8 := qhl B.ok
  simp -implicitDefEqProofs only [zA,reduceIte,reduceCtorEq,Nat.reduceEqDiff,Nat.reduceAdd,Nat.reduceMul,Nat.reduceLT,Nat.reduceSub,Int.reduceLT,Int.reduceLE,Int.reduceEq,Int.reduceNe,Int.reduceSub,Int.reduceAdd,Int.reduceMul,Int.reduceBEq,Int.reduceBNe,Int.reduceGT,Int.reduceGE,Nat.reduceGT,Int.reduceToNat,Int.reduceNeg,Nat.reduceLeDiff,Nat.reduceBEq,Nat.reduceBneDiff]
  unfold q7s
  simp -implicitDefEqProofs only [zA,reduceIte,reduceCtorEq,Nat.reduceEqDiff,Nat.reduceAdd,Nat.reduceMul,Nat.reduceLT,Nat.reduceSub,Int.reduceLT,Int.reduceLE,Int.reduceEq,Int.reduceNe,Int.reduceSub,Int.reduceAdd,Int.reduceMul,Int.reduceBEq,Int.reduceBNe,Int.reduceGT,Int.reduceGE,Nat.reduceGT,Int.reduceToNat,Int.reduceNeg,Nat.reduceLeDiff,Nat.reduceBEq,Nat.reduceBneDiff]
  refine (qcq E K B).mono ?_
  rintro v H1 ⟨le1, ow1⟩
  have sl1 := ow1.sl
  obtain ⟨base, c, rfl⟩ := sl1.shape
  unfold q9e
  generalize q9g S = L at hl h8 ow1 sl1 ⊢
  simp -implicitDefEqProofs only [zA,reduceIte,reduceCtorEq,Nat.reduceEqDiff,Nat.reduceAdd,Nat.reduceMul,Nat.reduceLT,Nat.reduceSub,Int.reduceLT,Int.reduceLE,Int.reduceEq,Int.reduceNe,Int.reduceSub,Int.reduceAdd,Int.reduceMul,Int.reduceBEq,Int.reduceBNe,Int.reduceGT,Int.reduceGE,Nat.reduceGT,Int.reduceToNat,Int.reduceNeg,Nat.reduceLeDiff,Nat.reduceBEq,Nat.reduceBneDiff]
  refine q2s (fun m t G => H1.le G ∧ ∃ (i : Nat) (vl : Value), t = tl [(3, vl), (7, .slice base L.length c), (8, .int .i64 L.length), (9, .int .i64 i)] ∧ i ≤ L.length ∧ m = L.length - i ∧ Ow H1 G 1 vl ((L.take i).map (·.con)).length (((L.take i).map (·.con)).map strV)) L.length
    ⟨Heap.q09 _, 0, _, rfl, by omega, by omega, Ow.nil _ _ _⟩ ?_
  rintro m t G ⟨le, i, vl, rfl, hi, rfl, ow⟩
  by_cases hlt : i < L.length
  · obtain ⟨bs, o, c', hv, hc, q1o⟩ := sl1.edAt h8 i hlt
    simp only [Value.slice.injEq, true_and] at hv
    obtain ⟨rfl, rfl⟩ := hv
    have hi1 : (i : Int) < L.length := by omega
    have hi2 : (0 : Int) ≤ i := by omega
    have w1 : IntKind.i64.wrap ((i : Int) + 1) = ((i + 1 : Nat) : Int) := qdo (by omega)
    have hi3 := q1o _ le
    have hx := h8 L[i] (List.getElem_mem hlt)
    have et : L.take (i + 1) = L.take i ++ [L[i]] := List.take_succ_eq_append_getElem hlt
    generalize L[i] = y at hi3 hx et
    simp -implicitDefEqProofs only [zA,reduceIte,reduceCtorEq,Nat.reduceEqDiff,Nat.reduceAdd,Nat.reduceMul,Nat.reduceLT,Nat.reduceSub,Int.reduceLT,Int.reduceLE,Int.reduceEq,Int.reduceNe,Int.reduceSub,Int.reduceAdd,Int.reduceMul,Int.reduceBEq,Int.reduceBNe,Int.reduceGT,Int.reduceGE,Nat.reduceGT,Int.reduceToNat,Int.reduceNeg,Nat.reduceLeDiff,Nat.reduceBEq,Nat.reduceBneDiff,hi1,hi2,Int.toNat_natCast,hi3]
    intro b6 hb6
    have s6 := stE G b6 hx
    unfold Z15 at s6
    try simp -implicitDefEqProofs only [zA,reduceIte,reduceCtorEq,Nat.reduceEqDiff,Nat.reduceAdd,Nat.reduceMul,Nat.reduceLT,Nat.reduceSub,Int.reduceLT,Int.reduceLE,Int.reduceEq,Int.reduceNe,Int.reduceSub,Int.reduceAdd,Int.reduceMul,Int.reduceBEq,Int.reduceBNe,Int.reduceGT,Int.reduceGE,Nat.reduceGT,Int.reduceToNat,Int.reduceNeg,Nat.reduceLeDiff,Nat.reduceBEq,Nat.reduceBneDiff,s6]
    have le6 : G.le (G.set b6 (.own 0 (edC y) 15)) := Heap.q0o (Heap.q09 _) hb6 _
    have A : EdAt (G.set b6 (.own 0 (edC y) 15)) b6 y := EdAt.of (Heap.q03 _ _ _) hx
    have ow6 := ow.le le6
    have leB := Heap.q08 le le6
    generalize (G.set b6 (.own 0 (edC y) 15)) = G6 at le6 A ow6 leB
    have hn : (L.take i).length ≤ i := by rw [List.length_take]; omega
    · · simp -implicitDefEqProofs only [zA,reduceIte,reduceCtorEq,Nat.reduceEqDiff,Nat.reduceAdd,Nat.reduceMul,Nat.reduceLT,Nat.reduceSub,Int.reduceLT,Int.reduceLE,Int.reduceEq,Int.reduceNe,Int.reduceSub,Int.reduceAdd,Int.reduceMul,Int.reduceBEq,Int.reduceBNe,Int.reduceGT,Int.reduceGE,Nat.reduceGT,Int.reduceToNat,Int.reduceNeg,Nat.reduceLeDiff,Nat.reduceBEq,Nat.reduceBneDiff,A.con]
        intro b8 hb8
        try simp -implicitDefEqProofs only [zA,reduceIte,reduceCtorEq,Nat.reduceEqDiff,Nat.reduceAdd,Nat.reduceMul,Nat.reduceLT,Nat.reduceSub,Int.reduceLT,Int.reduceLE,Int.reduceEq,Int.reduceNe,Int.reduceSub,Int.reduceAdd,Int.reduceMul,Int.reduceBEq,Int.reduceBNe,Int.reduceGT,Int.reduceGE,Nat.reduceGT,Int.reduceToNat,Int.reduceNeg,Nat.reduceLeDiff,Nat.reduceBEq,Nat.reduceBneDiff]
        have le8 := Heap.q0o (Heap.q09 G6) hb8 (.own 0 [strV y.con] 1)
        refine qbt (bytes := 16) (m := 1) (news := [strV y.con]) (Heap.q08 leB le8) (by decide) (ow6.le le8) (Sl.lit (n := 1) rfl) rfl (by rw [List.length_map]; omega) (by rw [List.length_map]; omega) ?_
        intro v' h' ow9 le9
        simp -implicitDefEqProofs only [zA,reduceIte,reduceCtorEq,Nat.reduceEqDiff,Nat.reduceAdd,Nat.reduceMul,Nat.reduceLT,Nat.reduceSub,Int.reduceLT,Int.reduceLE,Int.reduceEq,Int.reduceNe,Int.reduceSub,Int.reduceAdd,Int.reduceMul,Int.reduceBEq,Int.reduceBNe,Int.reduceGT,Int.reduceGE,Nat.reduceGT,Int.reduceToNat,Int.reduceNeg,Nat.reduceLeDiff,Nat.reduceBEq,Nat.reduceBneDiff,w1]
        refine ⟨_, ?_, le9, i + 1, v', rfl, by omega, rfl, ?_⟩
        · omega
        · rw [et]
          simp only [List.map_append, List.length_append, List.map_cons, List.map_nil, List.length_cons, List.length_nil]
          simpa using ow9
  · have hi1 : ¬ (i : Int) < L.length := by omega
    have e : i = L.length := by omega
    subst e
    rw [List.take_length] at ow
    have hn2 : L.length ≤ L.length := Nat.le_refl _
    simp -implicitDefEqProofs only [zA,reduceIte,reduceCtorEq,Nat.reduceEqDiff,Nat.reduceAdd,Nat.reduceMul,Nat.reduceLT,Nat.reduceSub,Int.reduceLT,Int.reduceLE,Int.reduceEq,Int.reduceNe,Int.reduceSub,Int.reduceAdd,Int.reduceMul,Int.reduceBEq,Int.reduceBNe,Int.reduceGT,Int.reduceGE,Nat.reduceGT,Int.reduceToNat,Int.reduceNeg,Nat.reduceLeDiff,Nat.reduceBEq,Nat.reduceBneDiff,hi1]
    refine (qid E K ow (by rw [List.length_map]; omega)).mono ?_
    rintro u H2 ⟨ow2, k2⟩
    have leU := qd8 le k2
    simp -implicitDefEqProofs only [zA,reduceIte,reduceCtorEq,Nat.reduceEqDiff,Nat.reduceAdd,Nat.reduceMul,Nat.reduceLT,Nat.reduceSub,Int.reduceLT,Int.reduceLE,Int.reduceEq,Int.reduceNe,Int.reduceSub,Int.reduceAdd,Int.reduceMul,Int.reduceBEq,Int.reduceBNe,Int.reduceGT,Int.reduceGE,Nat.reduceGT,Int.reduceToNat,Int.reduceNeg,Nat.reduceLeDiff,Nat.reduceBEq,Nat.reduceBneDiff]
    refine (qer E K ow2 (by rw [qbi, List.length_map]; omega)).mono ?_
    rintro u H3 ⟨ow3, k3⟩
    have leV := qd8 leU k3
    simp -implicitDefEqProofs only [zA,reduceIte,reduceCtorEq,Nat.reduceEqDiff,Nat.reduceAdd,Nat.reduceMul,Nat.reduceLT,Nat.reduceSub,Int.reduceLT,Int.reduceLE,Int.reduceEq,Int.reduceNe,Int.reduceSub,Int.reduceAdd,Int.reduceMul,Int.reduceBEq,Int.reduceBNe,Int.reduceGT,Int.reduceGE,Nat.reduceGT,Int.reduceToNat,Int.reduceNeg,Nat.reduceLeDiff,Nat.reduceBEq,Nat.reduceBneDiff]
    exact ⟨Heap.q08 le1 leV, ow3.since le1⟩
theorem qeu (E : EnvT tab) (K : BkOk E) {H : Heap} {b r : Nat} {S : List Ed} (B : BookAt H b r S) (con fld : Str) :
    ACallN E.toEnv qdy [.pointer (some ⟨b, 0, none⟩), strV con, strV fld] H fun v H' => H.le H' ∧ v = .tuple #[strV ((allB S con fld).getLastD []), .bool (decide (allB S con fld ≠ []))] := by
  refine q2r q88 q4r rfl rfl (q02 ?_)
  unfold q4r
  simp -implicitDefEqProofs only [zA,reduceIte,reduceCtorEq,Nat.reduceEqDiff,Nat.reduceAdd,Nat.reduceMul,Nat.reduceLT,Nat.reduceSub,Int.reduceLT,Int.reduceLE,Int.reduceEq,Int.reduceNe,Int.reduceSub,Int.reduceAdd,Int.reduceMul,Int.reduceBEq,Int.reduceBNe,Int.reduceGT,Int.reduceGE,Nat.reduceGT,Int.reduceToNat,Int.reduceNeg,Nat.reduceLeDiff,Nat.reduceBEq,Nat.reduceBneDiff]
  refine (qha E K B con fld).mono ?_
  rintro v H1 ⟨le1, ow⟩
  have sl := ow.sl
  have hl : (allB S con fld).length ≤ 500 := by
    have h1 := qd4 S
    have h2 := B.ok.len
    unfold allB
    rw [List.length_map]
    have := List.length_filter_le (fun e : Ed => decide (e.con = con) && decide (e.fld = fld)) (q9g S)
    omega
  generalize allB S con fld = L at ow sl hl ⊢
  obtain ⟨base, c, rfl⟩ := sl.shape
  by_cases h0 : L = []
  · subst h0
    simp -implicitDefEqProofs only [zA,reduceIte,reduceCtorEq,Nat.reduceEqDiff,Nat.reduceAdd,Nat.reduceMul,Nat.reduceLT,Nat.reduceSub,Int.reduceLT,Int.reduceLE,Int.reduceEq,Int.reduceNe,Int.reduceSub,Int.reduceAdd,Int.reduceMul,Int.reduceBEq,Int.reduceBNe,Int.reduceGT,Int.reduceGE,Nat.reduceGT,Int.reduceToNat,Int.reduceNeg,Nat.reduceLeDiff,Nat.reduceBEq,Nat.reduceBneDiff,List.length_nil]
    exact ⟨le1, rfl⟩
  · have hp : 0 < L.length := List.length_pos_iff.2 h0
    have h1 : ¬ ((L.length : Int) = 0) := by omega
    have w1 : IntKind.i64.wrap ((L.length : Int) - 1) = ((L.length - 1 : Nat) : Int) := by
      have e : ((L.length : Int) - 1) = ((L.length - 1 : Nat) : Int) := by omega
      rw [e]
      exact wrapI (by omega) (by omega)
    rw [← q9v strV L] at sl
    obtain ⟨bs, o, c', hv, hc, q1o⟩ := Sl.at (f := fun s => [strV s]) (fun _ => rfl) sl (L.length - 1) (by omega) (by decide)
    simp only [Value.slice.injEq, true_and] at hv
    obtain ⟨rfl, rfl⟩ := hv
    have hi1 : ((L.length - 1 : Nat) : Int) < L.length := by omega
    have hi2 : (0 : Int) ≤ ((L.length - 1 : Nat) : Int) := by omega
    have h3 := q1o H1 (Heap.q09 _)
    have hi3 := qho h3 0 Nat.zero_lt_one
    simp only [List.getElem?_cons_zero, Nat.mul_one, Nat.add_zero] at hi3
    have e1 : L.getLastD [] = L[L.length - 1] := by
      rw [List.getLastD_eq_getLast?, List.getLast?_eq_getElem?, List.getElem?_eq_getElem (by omega)]; rfl
    rw [e1]
    simp -implicitDefEqProofs only [zA,reduceIte,reduceCtorEq,Nat.reduceEqDiff,Nat.reduceAdd,Nat.reduceMul,Nat.reduceLT,Nat.reduceSub,Int.reduceLT,Int.reduceLE,Int.reduceEq,Int.reduceNe,Int.reduceSub,Int.reduceAdd,Int.reduceMul,Int.reduceBEq,Int.reduceBNe,Int.reduceGT,Int.reduceGE,Nat.reduceGT,Int.reduceToNat,Int.reduceNeg,Nat.reduceLeDiff,Nat.reduceBEq,Nat.reduceBneDiff,h1,w1,hi1,hi2,Int.toNat_natCast,hi3]
    refine ⟨le1, ?_⟩
    simp [h0]
end Go.Bb
namespace Go.Bb
set_option linter.unusedSimpArgs false
set_option linter.unusedVariables false
set_option maxRecDepth 20000
set_option maxHeartbeats 2000000
open Go.MapKept
def Has1 (S : List Ed) (d : Int) (k : Nat) : Prop := ∀ j : Nat, 1 ≤ j → j ≤ k → ∃ e ∈ S, e.dev = d ∧ e.n = j
def CntB (S : List Ed) (d : Int) (k : Nat) : Prop := Has1 S d k ∧ ∀ e ∈ S, ¬ (e.dev = d ∧ e.n = (k + 1 : Nat))
def VecOf (S : List Ed) (v : List Int) : Prop := v.length = 8 ∧ ∀ d : Nat, d < 8 → ∃ k : Nat, v[d]? = some (k : Int) ∧ CntB S d k
theorem Has1.le {S : List Ed} (ok : BkS S) {d : Int} {k : Nat} (h : Has1 S d k) : k ≤ 1099511627776 := by
  by_cases h0 : k = 0
  · omega
  obtain ⟨e, he, hd, hn⟩ := h k (by omega) (Nat.le_refl _)
  have := ok.good e he
  simp only [q8h, Bool.and_eq_true, decide_eq_true_eq] at this
  have := this.1.1.1.1.1.2.2
  omega
theorem CntB.eq {S : List Ed} {d : Int} {k m : Nat} (h : CntB S d k) (g : CntB S d m) : k = m := by
  rcases Nat.lt_trichotomy k m with c | c | c
  · obtain ⟨e, he, hd, hn⟩ := g.1 (k + 1) (by omega) (by omega)
    exact absurd ⟨hd, hn⟩ (h.2 e he)
  · exact c
  · obtain ⟨e, he, hd, hn⟩ := h.1 (m + 1) (by omega) (by omega)
    exact absurd ⟨hd, hn⟩ (g.2 e he)
theorem VecOf.eq {S : List Ed} {v w : List Int} (h : VecOf S v) (g : VecOf S w) : v = w := by
  apply List.ext_getElem?
  intro i
  by_cases hi : i < 8
  · obtain ⟨k, h1, h2⟩ := h.2 i hi
    obtain ⟨m, g1, g2⟩ := g.2 i hi
    rw [h1, g1, h2.eq g2]
  · rw [List.getElem?_eq_none (by rw [h.1]; omega), List.getElem?_eq_none (by rw [g.1]; omega)]
structure VS (H G : Heap) (b2 b3 : Nat) (v : List Int) : Prop where
  le : H.le G
  n2 : H b2 = none
  n3 : H b3 = none
  ne : b2 ≠ b3
  q2 : G b2 = some (.own 0 (List.replicate 8 (.int .i64 0)) 8)
  q3 : G b3 = some (.own 0 (v.map (.int .i64)) 8)
  h8 : v.length = 8
theorem VS.more {H G G' : Heap} {b2 b3 : Nat} {v : List Int} (s : VS H G b2 b3 v) (le : G.le G') : VS H G' b2 b3 v :=
  ⟨Heap.q08 s.le le, s.n2, s.n3, s.ne, le _ _ s.q2, le _ _ s.q3, s.h8⟩
theorem VS.put {H G : Heap} {b2 b3 : Nat} {v : List Int} (s : VS H G b2 b3 v) (w : List Int) (hw : w.length = 8) : VS H (G.set b3 (.own 0 (w.map (.int .i64)) 8)) b2 b3 w :=
  ⟨Heap.q0o s.le s.n3 _, s.n2, s.n3, s.ne, by rw [Heap.q1a s.ne]; exact s.q2, Heap.q03 _ _ _, hw⟩
theorem VS.cell {H G : Heap} {b2 b3 : Nat} {v : List Int} (s : VS H G b2 b3 v) (i : Nat) (hi : i < 8) : q1o G ⟨b3, i, none⟩ = some (.int .i64 (v[i]'(by rw [s.h8]; exact hi))) := by
  rw [q3q s.q3 (by simp [s.h8]; exact hi)]
  simp
theorem fvKD (d n : Int) (es : List MapEntry) : q6k (.agg [some IntKind.i64, some IntKind.i64]) (.agg [Value.int .i64 d, Value.int .i64 n].toArray) es 0 = q6k KD (dotK d n) es 0 := rfl
theorem qe7 (E : EnvT tab) {H : Heap} {b r : Nat} {S : List Ed} (B : BookAt H b r S) :
    ACallN E.toEnv qfs [.pointer (some ⟨b, 0, none⟩)] H fun x H' => H.le H' ∧ ∃ v, VecOf S v ∧ x = .agg (v.map (.int .i64)).toArray := by
  refine q2r q9b q6n rfl rfl (q02 ?_)
  unfold q6n
  simp -implicitDefEqProofs only [zA,reduceIte,reduceCtorEq,Nat.reduceEqDiff,Nat.reduceAdd,Nat.reduceMul,Nat.reduceLT,Nat.reduceSub,Int.reduceLT,Int.reduceLE,Int.reduceEq,Int.reduceNe,Int.reduceSub,Int.reduceAdd,Int.reduceMul,Int.reduceBEq,Int.reduceBNe,Int.reduceGT,Int.reduceGE,Nat.reduceGT,Int.reduceToNat,Int.reduceNeg,Nat.reduceLeDiff,Nat.reduceBEq,Nat.reduceBneDiff]
  intro b2 hb2
  try simp -implicitDefEqProofs only [zA,reduceIte,reduceCtorEq,Nat.reduceEqDiff,Nat.reduceAdd,Nat.reduceMul,Nat.reduceLT,Nat.reduceSub,Int.reduceLT,Int.reduceLE,Int.reduceEq,Int.reduceNe,Int.reduceSub,Int.reduceAdd,Int.reduceMul,Int.reduceBEq,Int.reduceBNe,Int.reduceGT,Int.reduceGE,Nat.reduceGT,Int.reduceToNat,Int.reduceNeg,Nat.reduceLeDiff,Nat.reduceBEq,Nat.reduceBneDiff]
  intro b3 hb3
  try simp -implicitDefEqProofs only [zA,reduceIte,reduceCtorEq,Nat.reduceEqDiff,Nat.reduceAdd,Nat.reduceMul,Nat.reduceLT,Nat.reduceSub,Int.reduceLT,Int.reduceLE,Int.reduceEq,Int.reduceNe,Int.reduceSub,Int.reduceAdd,Int.reduceMul,Int.reduceBEq,Int.reduceBNe,Int.reduceGT,Int.reduceGE,Nat.reduceGT,Int.reduceToNat,Int.reduceNeg,Nat.reduceLeDiff,Nat.reduceBEq,Nat.reduceBneDiff,List.length_replicate]
  have ne : b3 ≠ b2 := by intro e; subst e; rw [Heap.q03] at hb3; cases hb3
  have hb3' : H b3 = none := by rw [Heap.q1a ne] at hb3; exact hb3
  have V0 : VS H ((H.set b2 (.own 0 (List.replicate 8 (.int .i64 0)) 8)).set b3 (.own 0 (List.replicate 8 (.int .i64 0)) 8)) b2 b3 (List.replicate 8 0) :=
    ⟨Heap.qgp (Heap.q0o (Heap.q09 _) hb2 _) hb3 _, hb2, hb3', ne.symm, by rw [Heap.q1a ne.symm, Heap.q03], by rw [Heap.q03]; rfl, rfl⟩
  generalize ((H.set b2 (.own 0 (List.replicate 8 (.int .i64 0)) 8)).set b3 (.own 0 (List.replicate 8 (.int .i64 0)) 8)) = G0 at V0
  refine q2s (fun m t G => ∃ (i : Nat) (v : List Int), t = tl [(0, .pointer (some ⟨b, 0, none⟩)), (2, .pointer (some ⟨b2, 0, none⟩)), (3, .pointer (some ⟨b3, 0, none⟩)), (7, .int .i64 i)] ∧ i ≤ 8 ∧ m = 8 - i ∧ VS H G b2 b3 v ∧ (∀ d : Nat, d < i → ∃ k : Nat, v[d]? = some (k : Int) ∧ CntB S d k) ∧ (∀ d : Nat, i ≤ d → d < 8 → v[d]? = some 0)) 8
    ⟨0, _, rfl, by omega, by omega, V0, fun d hd => by omega, fun d _ hd => by rw [List.getElem?_replicate, if_pos hd]⟩ ?_
  rintro m t G ⟨i, v, rfl, hi, rfl, V, hdone, hrest⟩
  by_cases hlt : i < 8
  · have hi1 : (i : Int) < 8 := by omega
    have hi2 : (0 : Int) ≤ i := by omega
    have w1 : IntKind.i64.wrap ((i : Int) + 1) = ((i + 1 : Nat) : Int) := qdo (by omega)
    simp -implicitDefEqProofs only [zA,reduceIte,reduceCtorEq,Nat.reduceEqDiff,Nat.reduceAdd,Nat.reduceMul,Nat.reduceLT,Nat.reduceSub,Int.reduceLT,Int.reduceLE,Int.reduceEq,Int.reduceNe,Int.reduceSub,Int.reduceAdd,Int.reduceMul,Int.reduceBEq,Int.reduceBNe,Int.reduceGT,Int.reduceGE,Nat.reduceGT,Int.reduceToNat,Int.reduceNeg,Nat.reduceLeDiff,Nat.reduceBEq,Nat.reduceBneDiff,hi1]
    unfold q95
    simp -implicitDefEqProofs only [zA,reduceIte,reduceCtorEq,Nat.reduceEqDiff,Nat.reduceAdd,Nat.reduceMul,Nat.reduceLT,Nat.reduceSub,Int.reduceLT,Int.reduceLE,Int.reduceEq,Int.reduceNe,Int.reduceSub,Int.reduceAdd,Int.reduceMul,Int.reduceBEq,Int.reduceBNe,Int.reduceGT,Int.reduceGE,Nat.reduceGT,Int.reduceToNat,Int.reduceNeg,Nat.reduceLeDiff,Nat.reduceBEq,Nat.reduceBneDiff]
    refine q2s (fun m t G => ∃ (k : Nat) (w : List Int), t = tl [(0, .pointer (some ⟨b, 0, none⟩)), (2, .pointer (some ⟨b2, 0, none⟩)), (3, .pointer (some ⟨b3, 0, none⟩)), (4, .int .i64 i), (7, .int .i64 i)] ∧ m = 1099511627776 - k ∧ VS H G b2 b3 w ∧ Has1 S i k ∧ w[i]? = some (k : Int) ∧ (∀ d : Nat, d ≠ i → w[d]? = v[d]?)) 1099511627776
      ⟨0, v, rfl, by omega, V, fun j h1 h2 => by omega, hrest i (Nat.le_refl _) hlt, fun _ _ => rfl⟩ ?_
    rintro m t G1 ⟨k, w, rfl, rfl, W, hh, hwi, hoth⟩
    have hk := hh.le B.ok
    have BG := B.le W.le
    obtain ⟨es, c, L, qr, en, hp, st⟩ := BG.qr
    have cb : q1o G1 ⟨b, 0, none⟩ = some (.map (some r)) := by rw [q3q BG.qb (by simp)]; rfl
    have ma : q5f G1 r = some (es, c) := by simp [q5f, qr]
    have c3 := W.cell i hlt
    have hwi2 : w[i]'(by rw [W.h8]; exact hlt) = k := by rw [List.getElem?_eq_getElem (by rw [W.h8]; exact hlt)] at hwi; simpa using hwi
    rw [hwi2] at c3
    have w2 : IntKind.i64.wrap ((k : Int) + 1) = ((k + 1 : Nat) : Int) := qdo (by omega)
    have kf : q92 (.agg [some IntKind.i64, some IntKind.i64]) (.agg #[Value.int .i64 i, Value.int .i64 ((k + 1 : Nat) : Int)]) = some () := rfl
    have hgp := qg6 hp BG.ok i ((k + 1 : Nat) : Int)
    cases hgd : q9i S i ((k + 1 : Nat) : Int) with
    | none =>
      rw [hgd] at hgp
      have fv := qbq 0 en hgp
      simp -implicitDefEqProofs only [zA,reduceIte,reduceCtorEq,Nat.reduceEqDiff,Nat.reduceAdd,Nat.reduceMul,Nat.reduceLT,Nat.reduceSub,Int.reduceLT,Int.reduceLE,Int.reduceEq,Int.reduceNe,Int.reduceSub,Int.reduceAdd,Int.reduceMul,Int.reduceBEq,Int.reduceBNe,Int.reduceGT,Int.reduceGE,Nat.reduceGT,Int.reduceToNat,Int.reduceNeg,Nat.reduceLeDiff,Nat.reduceBEq,Nat.reduceBneDiff,cb,hi1,hi2,Int.toNat_natCast,c3,w2,ma,fvKD,fv,kf]
      intro b5 hb5
      have s5 : q57 (G1.set b5 (.own 0 Z15 Z15.length)) 15 (.pointer (some ⟨b5, 0, none⟩)) (.agg Z15.toArray) = some (G1.set b5 (.own 0 Z15 15)) := z6z (by decide) rfl rfl rfl (by decide)
      unfold Z15 at s5
      have le5 := Heap.q0o (Heap.q09 G1) hb5 (.own 0 (List.replicate 11 (.int .i64 0) ++ [.string .empty, .string .empty, .string .empty, .int .i64 0]) 15)
      simp -implicitDefEqProofs only [zA,reduceIte,reduceCtorEq,Nat.reduceEqDiff,Nat.reduceAdd,Nat.reduceMul,Nat.reduceLT,Nat.reduceSub,Int.reduceLT,Int.reduceLE,Int.reduceEq,Int.reduceNe,Int.reduceSub,Int.reduceAdd,Int.reduceMul,Int.reduceBEq,Int.reduceBNe,Int.reduceGT,Int.reduceGE,Nat.reduceGT,Int.reduceToNat,Int.reduceNeg,Nat.reduceLeDiff,Nat.reduceBEq,Nat.reduceBneDiff,s5,w1]
      refine ⟨fun _ _ => trivial, _, ?_, i + 1, w, rfl, by omega, rfl, W.more le5, fun d hd => ?_, fun d h1 h2 => ?_⟩
      · omega
      · by_cases e : d = i
        · subst e
          rw [q8i] at hgd
          exact ⟨k, hwi, hh, hgd⟩
        · rw [hoth d e]; exact hdone d (by omega)
      · rw [hoth d (by omega)]; exact hrest d (by omega) h2
    | some e =>
      rw [hgd] at hgp
      obtain ⟨j, fv⟩ := qbp 0 en hgp
      unfold edV at fv
      have hge := getD_some hgd
      have he8 := BG.ok.h8 e hge.1
      simp -implicitDefEqProofs only [zA,reduceIte,reduceCtorEq,Nat.reduceEqDiff,Nat.reduceAdd,Nat.reduceMul,Nat.reduceLT,Nat.reduceSub,Int.reduceLT,Int.reduceLE,Int.reduceEq,Int.reduceNe,Int.reduceSub,Int.reduceAdd,Int.reduceMul,Int.reduceBEq,Int.reduceBNe,Int.reduceGT,Int.reduceGE,Nat.reduceGT,Int.reduceToNat,Int.reduceNeg,Nat.reduceLeDiff,Nat.reduceBEq,Nat.reduceBneDiff,cb,hi1,hi2,Int.toNat_natCast,c3,w2,ma,fvKD,fv,kf]
      intro b5 hb5
      have s5 := stE G1 b5 he8
      unfold Z15 at s5
      have le5 := Heap.q0o (Heap.q09 G1) hb5 (.own 0 (edC e) 15)
      have W5 := W.more le5
      simp -implicitDefEqProofs only [zA,reduceIte,reduceCtorEq,Nat.reduceEqDiff,Nat.reduceAdd,Nat.reduceMul,Nat.reduceLT,Nat.reduceSub,Int.reduceLT,Int.reduceLE,Int.reduceEq,Int.reduceNe,Int.reduceSub,Int.reduceAdd,Int.reduceMul,Int.reduceBEq,Int.reduceBNe,Int.reduceGT,Int.reduceGE,Nat.reduceGT,Int.reduceToNat,Int.reduceNeg,Nat.reduceLeDiff,Nat.reduceBEq,Nat.reduceBneDiff,s5]
      unfold q94
      generalize (G1.set b5 (.own 0 (edC e) 15)) = G5 at le5 W5 ⊢
      have c5 := W5.cell i hlt
      rw [hwi2] at c5
      have st6 : q57 G5 1 (.pointer (some ⟨b3, i, none⟩)) (.int .i64 ((k + 1 : Nat) : Int)) = some (G5.set b3 (.own 0 ((w.set i ((k + 1 : Nat) : Int)).map (.int .i64)) 8)) := by
        rw [qcv W5.q3 rfl (by simp [W5.h8]; exact hlt) (by simp [W5.h8]), List.map_set]
      simp -implicitDefEqProofs only [zA,reduceIte,reduceCtorEq,Nat.reduceEqDiff,Nat.reduceAdd,Nat.reduceMul,Nat.reduceLT,Nat.reduceSub,Int.reduceLT,Int.reduceLE,Int.reduceEq,Int.reduceNe,Int.reduceSub,Int.reduceAdd,Int.reduceMul,Int.reduceBEq,Int.reduceBNe,Int.reduceGT,Int.reduceGE,Nat.reduceGT,Int.reduceToNat,Int.reduceNeg,Nat.reduceLeDiff,Nat.reduceBEq,Nat.reduceBneDiff,hi1,hi2,Int.toNat_natCast,c5,w2,st6]
      have hk1 : Has1 S i (k + 1) := fun j h1 h2 => by
        by_cases e' : j = k + 1
        · exact ⟨e, hge.1, hge.2.1, by rw [e']; exact hge.2.2⟩
        · exact hh j h1 (by omega)
      have hk2 := hk1.le B.ok
      refine ⟨fun _ _ => trivial, _, ?_, k + 1, w.set i ((k + 1 : Nat) : Int), rfl, W5.put _ (by rw [List.length_set]; exact W5.h8), hk1, ?_, fun d hd => ?_⟩
      · omega
      · rw [List.getElem?_set]; simp [W5.h8, hlt]
      · rw [List.getElem?_set, if_neg (Ne.symm hd)]; exact hoth d hd
  · have hi1 : ¬ (i : Int) < 8 := by omega
    have e : i = 8 := by omega
    subst e
    have ld : q0e G ⟨b3, 0, none⟩ 8 = some (v.map (.int .i64)) := by
      rw [q4b V.q3 (by simp [V.h8])]
      simp [V.h8, List.take_of_length_le]
    have vl : (v.map (Value.int .i64)).length = 8 := by simp [V.h8]
    have st : q57 G 8 (.pointer (some ⟨b2, 0, none⟩)) (.agg (v.map (.int .i64)).toArray) = some (G.set b2 (.own 0 (v.map (.int .i64)) 8)) :=
      q5e V.q2 (by decide) vl (by simp [Bb.one]) (by simp) (by decide)
    have l2 : q0e (G.set b2 (.own 0 (v.map (.int .i64)) 8)) ⟨b2, 0, none⟩ 8 = some (v.map (.int .i64)) := z6x vl
    simp -implicitDefEqProofs only [zA,reduceIte,reduceCtorEq,Nat.reduceEqDiff,Nat.reduceAdd,Nat.reduceMul,Nat.reduceLT,Nat.reduceSub,Int.reduceLT,Int.reduceLE,Int.reduceEq,Int.reduceNe,Int.reduceSub,Int.reduceAdd,Int.reduceMul,Int.reduceBEq,Int.reduceBNe,Int.reduceGT,Int.reduceGE,Nat.reduceGT,Int.reduceToNat,Int.reduceNeg,Nat.reduceLeDiff,Nat.reduceBEq,Nat.reduceBneDiff,hi1,ld,st,l2]
    exact ⟨Heap.q0o V.le V.n2 _, v, ⟨V.h8, hdone⟩, rfl⟩
theorem qgg (E : EnvT tab) {H : Heap} {b r : Nat} {S : List Ed} (B : BookAt H b r S) (dev : Int) :
    ACallN E.toEnv qf4 [.pointer (some ⟨b, 0, none⟩), .int .i64 dev] H fun x H' => H.le H' ∧
      (0 ≤ dev ∧ dev < 8 → ∃ v k : _, VecOf S v ∧ v[dev.toNat]? = some k ∧ x = .tuple #[dotK dev (k + 1), .agg (v.map (.int .i64)).toArray]) ∧
      (¬ (0 ≤ dev ∧ dev < 8) → x = .tuple #[dotK 0 0, .agg ((List.replicate 8 (0 : Int)).map (.int .i64)).toArray]) := by
  refine q2r q8l q5q rfl rfl (q02 ?_)
  unfold q5q
  simp -implicitDefEqProofs only [zA,reduceIte,reduceCtorEq,Nat.reduceEqDiff,Nat.reduceAdd,Nat.reduceMul,Nat.reduceLT,Nat.reduceSub,Int.reduceLT,Int.reduceLE,Int.reduceEq,Int.reduceNe,Int.reduceSub,Int.reduceAdd,Int.reduceMul,Int.reduceBEq,Int.reduceBNe,Int.reduceGT,Int.reduceGE,Nat.reduceGT,Int.reduceToNat,Int.reduceNeg,Nat.reduceLeDiff,Nat.reduceBEq,Nat.reduceBneDiff]
  intro b4 hb4
  try simp -implicitDefEqProofs only [zA,reduceIte,reduceCtorEq,Nat.reduceEqDiff,Nat.reduceAdd,Nat.reduceMul,Nat.reduceLT,Nat.reduceSub,Int.reduceLT,Int.reduceLE,Int.reduceEq,Int.reduceNe,Int.reduceSub,Int.reduceAdd,Int.reduceMul,Int.reduceBEq,Int.reduceBNe,Int.reduceGT,Int.reduceGE,Nat.reduceGT,Int.reduceToNat,Int.reduceNeg,Nat.reduceLeDiff,Nat.reduceBEq,Nat.reduceBneDiff]
  intro b5 hb5
  try simp -implicitDefEqProofs only [zA,reduceIte,reduceCtorEq,Nat.reduceEqDiff,Nat.reduceAdd,Nat.reduceMul,Nat.reduceLT,Nat.reduceSub,Int.reduceLT,Int.reduceLE,Int.reduceEq,Int.reduceNe,Int.reduceSub,Int.reduceAdd,Int.reduceMul,Int.reduceBEq,Int.reduceBNe,Int.reduceGT,Int.reduceGE,Nat.reduceGT,Int.reduceToNat,Int.reduceNeg,Nat.reduceLeDiff,Nat.reduceBEq,Nat.reduceBneDiff]
  have ne : b5 ≠ b4 := by intro e; subst e; rw [Heap.q03] at hb5; cases hb5
  have hb5' : H b5 = none := by rw [Heap.q1a ne] at hb5; exact hb5
  rw [List.length_replicate]
  have le0 : H.le ((H.set b4 (.own 0 [.int .i64 0, .int .i64 0] 2)).set b5 (.own 0 (List.replicate 8 (.int .i64 0)) 8)) := Heap.qgp (Heap.q0o (Heap.q09 _) hb4 _) hb5 _
  have q4 : ((H.set b4 (.own 0 [.int .i64 0, .int .i64 0] 2)).set b5 (.own 0 (List.replicate 8 (.int .i64 0)) 8)) b4 = some (.own 0 [.int .i64 0, .int .i64 0] 2) := by rw [Heap.q1a ne.symm, Heap.q03]
  have q5 : ((H.set b4 (.own 0 [.int .i64 0, .int .i64 0] 2)).set b5 (.own 0 (List.replicate 8 (.int .i64 0)) 8)) b5 = some (.own 0 (List.replicate 8 (.int .i64 0)) 8) := Heap.q03 _ _ _
  generalize ((H.set b4 (.own 0 [.int .i64 0, .int .i64 0] 2)).set b5 (.own 0 (List.replicate 8 (.int .i64 0)) 8)) = G at le0 q4 q5
  refine (qfg E G dev).mono ?_
  rintro x G1 ⟨rfl, rfl⟩
  have fin : ∀ (G2 : Heap), G1.le G2 → ∀ (a c : Int) (w : List Int), w.length = 8 →
      q57 G2 2 (.pointer (some ⟨b4, 0, none⟩)) (.agg [Value.int .i64 a, Value.int .i64 c].toArray) = some (G2.set b4 (.own 0 [.int .i64 a, .int .i64 c] 2)) ∧
      q57 (G2.set b4 (.own 0 [.int .i64 a, .int .i64 c] 2)) 8 (.pointer (some ⟨b5, 0, none⟩)) (.agg (w.map (.int .i64)).toArray) = some ((G2.set b4 (.own 0 [.int .i64 a, .int .i64 c] 2)).set b5 (.own 0 (w.map (.int .i64)) 8)) ∧
      q0e ((G2.set b4 (.own 0 [.int .i64 a, .int .i64 c] 2)).set b5 (.own 0 (w.map (.int .i64)) 8)) ⟨b4, 0, none⟩ 2 = some [.int .i64 a, .int .i64 c] ∧
      q0e ((G2.set b4 (.own 0 [.int .i64 a, .int .i64 c] 2)).set b5 (.own 0 (w.map (.int .i64)) 8)) ⟨b5, 0, none⟩ 8 = some (w.map (.int .i64)) ∧
      H.le ((G2.set b4 (.own 0 [.int .i64 a, .int .i64 c] 2)).set b5 (.own 0 (w.map (.int .i64)) 8)) := by
    intro G2 le a c w hw
    have h1 : ((G2.set b4 (.own 0 [.int .i64 a, .int .i64 c] 2)).set b5 (.own 0 (w.map (.int .i64)) 8)) b4 = some (.own 0 [.int .i64 a, .int .i64 c] 2) := by rw [Heap.q1a ne.symm, Heap.q03]
    refine ⟨q5e (le _ _ q4) (by decide) rfl rfl rfl (by decide), q5e (vs := List.replicate 8 (.int .i64 0)) (by rw [Heap.q1a ne]; exact le _ _ q5) (by decide) (by simp [hw]) (by simp [Bb.one]) (by simp) (by decide), ?_, z6x (by simp [hw]), Heap.q0o (Heap.q0o (Heap.q08 le0 le) hb4 _) hb5' _⟩
    rw [q4b h1 (by simp)]; rfl
  by_cases g : 0 ≤ dev ∧ dev < 8
  · have BG := B.le le0
    simp -implicitDefEqProofs only [zA,reduceIte,reduceCtorEq,Nat.reduceEqDiff,Nat.reduceAdd,Nat.reduceMul,Nat.reduceLT,Nat.reduceSub,Int.reduceLT,Int.reduceLE,Int.reduceEq,Int.reduceNe,Int.reduceSub,Int.reduceAdd,Int.reduceMul,Int.reduceBEq,Int.reduceBNe,Int.reduceGT,Int.reduceGE,Nat.reduceGT,Int.reduceToNat,Int.reduceNeg,Nat.reduceLeDiff,Nat.reduceBEq,Nat.reduceBneDiff,g]
    refine (qe7 E BG).mono ?_
    rintro x G2 ⟨le2, v, hv, rfl⟩
    have v8 := hv.1
    have vl : (v.map (Value.int .i64)).length = 8 := by simp [v8]
    simp -implicitDefEqProofs only [zA,reduceIte,reduceCtorEq,Nat.reduceEqDiff,Nat.reduceAdd,Nat.reduceMul,Nat.reduceLT,Nat.reduceSub,Int.reduceLT,Int.reduceLE,Int.reduceEq,Int.reduceNe,Int.reduceSub,Int.reduceAdd,Int.reduceMul,Int.reduceBEq,Int.reduceBNe,Int.reduceGT,Int.reduceGE,Nat.reduceGT,Int.reduceToNat,Int.reduceNeg,Nat.reduceLeDiff,Nat.reduceBEq,Nat.reduceBneDiff]
    intro b6 hb6
    rw [List.length_replicate]
    have s6 : q57 (G2.set b6 (.own 0 (List.replicate 8 (.int .i64 0)) 8)) 8 (.pointer (some ⟨b6, 0, none⟩)) (.agg (v.map (.int .i64)).toArray) = some (G2.set b6 (.own 0 (v.map (.int .i64)) 8)) := z6z (by decide) vl (by simp [Bb.one]) (by simp) (by decide)
    have le6 := Heap.q0o (Heap.q09 G2) hb6 (.own 0 (v.map (.int .i64)) 8)
    have q6 : (G2.set b6 (.own 0 (v.map (.int .i64)) 8)) b6 = some (.own 0 (v.map (.int .i64)) 8) := Heap.q03 _ _ _
    have leY := Heap.q08 le2 le6
    obtain ⟨k, hk, hc⟩ := hv.2 dev.toNat (by omega)
    have hD : dev.toNat < v.length := by omega
    have hvd : v[dev.toNat] = k := by rw [List.getElem?_eq_getElem hD] at hk; simpa using hk
    have hkb := hc.1.le B.ok
    have w2 : IntKind.i64.wrap ((k : Int) + 1) = ((k + 1 : Nat) : Int) := qdo (by omega)
    have n64 : b6 ≠ b4 := fun e => by rw [e, le2 _ _ q4] at hb6; cases hb6
    try simp -implicitDefEqProofs only [zA,reduceIte,reduceCtorEq,Nat.reduceEqDiff,Nat.reduceAdd,Nat.reduceMul,Nat.reduceLT,Nat.reduceSub,Int.reduceLT,Int.reduceLE,Int.reduceEq,Int.reduceNe,Int.reduceSub,Int.reduceAdd,Int.reduceMul,Int.reduceBEq,Int.reduceBNe,Int.reduceGT,Int.reduceGE,Nat.reduceGT,Int.reduceToNat,Int.reduceNeg,Nat.reduceLeDiff,Nat.reduceBEq,Nat.reduceBneDiff,s6]
    generalize (G2.set b6 (.own 0 (v.map (.int .i64)) 8)) = G3 at le6 q6 leY ⊢
    have c6 : q1o G3 ⟨b6, dev.toNat, none⟩ = some (.int .i64 k) := by rw [q3q q6 (by simp; omega)]; simp [hvd]
    have l6 : q0e G3 ⟨b6, 0, none⟩ 8 = some (v.map (.int .i64)) := by
      rw [q4b q6 (by simp [v8])]
      simp [v8, List.take_of_length_le]
    obtain ⟨f1, f2, f3, f4, f5⟩ := fin G3 leY dev ((k + 1 : Nat) : Int) v v8
    have g1 := g.1
    have g2 := g.2
    have l6b : q0e (G3.set b4 (.own 0 [.int .i64 dev, .int .i64 ((k + 1 : Nat) : Int)] 2)) ⟨b6, 0, none⟩ 8 = some (v.map (.int .i64)) := by
      rw [q4b (vs := v.map (.int .i64)) (by rw [Heap.q1a n64]; exact q6) (by simp [v8])]
      simp [v8, List.take_of_length_le]
    simp -implicitDefEqProofs only [zA,reduceIte,reduceCtorEq,Nat.reduceEqDiff,Nat.reduceAdd,Nat.reduceMul,Nat.reduceLT,Nat.reduceSub,Int.reduceLT,Int.reduceLE,Int.reduceEq,Int.reduceNe,Int.reduceSub,Int.reduceAdd,Int.reduceMul,Int.reduceBEq,Int.reduceBNe,Int.reduceGT,Int.reduceGE,Nat.reduceGT,Int.reduceToNat,Int.reduceNeg,Nat.reduceLeDiff,Nat.reduceBEq,Nat.reduceBneDiff,g1,g2,c6,w2,f1,l6,l6b,f2,f3,f4]
    exact ⟨fun G hG => by rw [List.mem_singleton.1 hG, l6]; rfl, f5, v, k, hv, hk, rfl⟩
  · obtain ⟨f1, f2, f3, f4, f5⟩ := fin G1 (Heap.q09 _) 0 0 (List.replicate 8 0) (by simp)
    rw [List.map_replicate] at f2 f3 f4 f5
    simp -implicitDefEqProofs only [zA,reduceIte,reduceCtorEq,Nat.reduceEqDiff,Nat.reduceAdd,Nat.reduceMul,Nat.reduceLT,Nat.reduceSub,Int.reduceLT,Int.reduceLE,Int.reduceEq,Int.reduceNe,Int.reduceSub,Int.reduceAdd,Int.reduceMul,Int.reduceBEq,Int.reduceBNe,Int.reduceGT,Int.reduceGE,Nat.reduceGT,Int.reduceToNat,Int.reduceNeg,Nat.reduceLeDiff,Nat.reduceBEq,Nat.reduceBneDiff,g,f1,f2,f3,f4,List.map_replicate]
    exact ⟨f5, rfl⟩
end Go.Bb
namespace Go.Bb
set_option linter.unusedSimpArgs false
set_option linter.unusedVariables false
set_option maxRecDepth 20000
set_option maxHeartbeats 2000000
open Go.MapKept
theorem qgh (E : EnvT tab) (K : BkOk E) {H : Heap} {b r : Nat} {S : List Ed} (B : BookAt H b r S) :
    ACallN E.toEnv qf5 [.pointer (some ⟨b, 0, none⟩)] H fun x H' => H.le H' ∧ ∃ b' r', x = .pointer (some ⟨b', 0, none⟩) ∧ H b' = none ∧ H r' = none ∧ BookAt H' b' r' S := by
  obtain ⟨es, c, L, qr, en, hp, st⟩ := B.qr
  refine q2r q8m q5r rfl rfl (q02 ?_)
  unfold q5r
  have cb : q1o H ⟨b, 0, none⟩ = some (.map (some r)) := by rw [q3q B.qb (by simp)]; rfl
  simp -implicitDefEqProofs only [zA,reduceIte,reduceCtorEq,Nat.reduceEqDiff,Nat.reduceAdd,Nat.reduceMul,Nat.reduceLT,Nat.reduceSub,Int.reduceLT,Int.reduceLE,Int.reduceEq,Int.reduceNe,Int.reduceSub,Int.reduceAdd,Int.reduceMul,Int.reduceBEq,Int.reduceBNe,Int.reduceGT,Int.reduceGE,Nat.reduceGT,Int.reduceToNat,Int.reduceNeg,Nat.reduceLeDiff,Nat.reduceBEq,Nat.reduceBneDiff,cb]
  intro f hf
  have e54 := K.f54
  rw [show q13 = 284 from rfl] at e54
  rw [e54] at hf
  cases hf
  refine qjk E.toEnv K.P qr ?_
  intro r' hr'
  simp -implicitDefEqProofs only [zA,reduceIte,reduceCtorEq,Nat.reduceEqDiff,Nat.reduceAdd,Nat.reduceMul,Nat.reduceLT,Nat.reduceSub,Int.reduceLT,Int.reduceLE,Int.reduceEq,Int.reduceNe,Int.reduceSub,Int.reduceAdd,Int.reduceMul,Int.reduceBEq,Int.reduceBNe,Int.reduceGT,Int.reduceGE,Nat.reduceGT,Int.reduceToNat,Int.reduceNeg,Nat.reduceLeDiff,Nat.reduceBEq,Nat.reduceBneDiff]
  intro b' hb'
  try simp -implicitDefEqProofs only [zA,reduceIte,reduceCtorEq,Nat.reduceEqDiff,Nat.reduceAdd,Nat.reduceMul,Nat.reduceLT,Nat.reduceSub,Int.reduceLT,Int.reduceLE,Int.reduceEq,Int.reduceNe,Int.reduceSub,Int.reduceAdd,Int.reduceMul,Int.reduceBEq,Int.reduceBNe,Int.reduceGT,Int.reduceGE,Nat.reduceGT,Int.reduceToNat,Int.reduceNeg,Nat.reduceLeDiff,Nat.reduceBEq,Nat.reduceBneDiff]
  have ne : b' ≠ r' := by intro e; subst e; rw [Heap.q03] at hb'; cases hb'
  have hb2 : H b' = none := by rw [Heap.q1a ne] at hb'; exact hb'
  refine ⟨Heap.qgp (Heap.q0o (Heap.q09 _) hr' _) hb' _, b', r', rfl, hb2, hr', ne, Heap.q03 _ _ _, ⟨es, c, L, by rw [Heap.q1a ne.symm, Heap.q03], en, hp, st⟩, B.ok⟩
theorem ent_getD {L S : List Ed} (p : L.Perm S) (ok : BkS S) {e : Ed} (he : e ∈ L) : q9i S e.dev e.n = some e := by
  cases h : q9i S e.dev e.n with
  | none => rw [q8i] at h; exact absurd ⟨rfl, rfl⟩ (h e (p.mem_iff.1 he))
  | some w =>
    have := getD_some h
    rw [ok.tot this.1 (p.mem_iff.1 he) this.2.1 this.2.2]
theorem qbd {R : Ed → Ed → Prop} (irr : ∀ x, ¬ R x x) (tr : ∀ x y z, R x y → R y z → R x z) : ∀ {T S : List Ed}, T.Pairwise R → S.Pairwise R → (∀ e ∈ S, e ∈ T) → S.Sublist T
  | [], S, _, _, h => by
    cases S with
    | nil => exact List.Sublist.slnil
    | cons x S => exact absurd (h x (List.mem_cons_self ..)) (by simp)
  | y :: T, [], _, _, _ => List.nil_sublist _
  | y :: T, x :: S, ht, hs, h => by
    rw [List.pairwise_cons] at ht hs
    by_cases e : x = y
    · subst e
      refine (qbd irr tr ht.2 hs.2 fun z hz => ?_).cons_cons x
      rcases List.mem_cons.1 (h z (List.mem_cons_of_mem _ hz)) with k | k
      · subst k; exact absurd (hs.1 _ hz) (irr _)
      · exact k
    · have hx : x ∈ T := (List.mem_cons.1 (h x (List.mem_cons_self ..))).resolve_left e
      refine (qbd irr tr ht.2 (List.pairwise_cons.2 hs) fun z hz => ?_).cons y
      rcases List.mem_cons.1 (h z hz) with k | k
      · subst k
        rcases List.mem_cons.1 hz with q | q
        · exact absurd q.symm e
        · exact absurd (tr _ _ _ (ht.1 x hx) (hs.1 _ q)) (irr _)
      · exact k
theorem qmb {S T : List Ed} (ok : BkS S) (ok2 : BkS T) (hl : S.length = T.length) (h : ∀ e ∈ S, e ∈ T) : S = T :=
  (qbd qb4 (fun x y z => @qal x y z) ok2.rise ok.rise h).eq_of_length hl
theorem qio (E : EnvT tab) {H : Heap} {b r b2 r2 : Nat} {S T : List Ed} (B : BookAt H b r S) (B2 : BookAt H b2 r2 T) :
    ACallN E.toEnv q17 [.map (some r), .map (some r2)] H fun x H' => H.le H' ∧ x = .bool (decide (S = T)) := by
  obtain ⟨es, c, L, qr, en, hp, st⟩ := B.qr
  obtain ⟨es2, c2, L2, qr2, en2, hp2, st2⟩ := B2.qr
  refine q2r q04 q01 rfl rfl (q02 ?_)
  unfold q01
  have hl : es.size = L.length := by simpa using congrArg List.length en
  have hl2 : es2.size = L2.length := by simpa using congrArg List.length en2
  have hpl := hp.length_eq
  have hpl2 := hp2.length_eq
  have ma : q5f H r = some (es, c) := by simp [q5f, qr]
  have ma2 : q5f H r2 = some (es2, c2) := by simp [q5f, qr2]
  by_cases g : (es.size : Int) = es2.size
  · simp -implicitDefEqProofs only [zA,reduceIte,reduceCtorEq,Nat.reduceEqDiff,Nat.reduceAdd,Nat.reduceMul,Nat.reduceLT,Nat.reduceSub,Int.reduceLT,Int.reduceLE,Int.reduceEq,Int.reduceNe,Int.reduceSub,Int.reduceAdd,Int.reduceMul,Int.reduceBEq,Int.reduceBNe,Int.reduceGT,Int.reduceGE,Nat.reduceGT,Int.reduceToNat,Int.reduceNeg,Nat.reduceLeDiff,Nat.reduceBEq,Nat.reduceBneDiff,ma,ma2,g,bne_self_eq_false]
    refine qkg ma ?_
    intro b hb
    simp -implicitDefEqProofs only [zA,reduceIte,reduceCtorEq,Nat.reduceEqDiff,Nat.reduceAdd,Nat.reduceMul,Nat.reduceLT,Nat.reduceSub,Int.reduceLT,Int.reduceLE,Int.reduceEq,Int.reduceNe,Int.reduceSub,Int.reduceAdd,Int.reduceMul,Int.reduceBEq,Int.reduceBNe,Int.reduceGT,Int.reduceGE,Nat.reduceGT,Int.reduceToNat,Int.reduceNeg,Nat.reduceLeDiff,Nat.reduceBEq,Nat.reduceBneDiff]
    refine q2s (fun m t K => ∃ (seen : Array Nat) (ents : List MapEntry), Came es seen ents ∧ (∀ en ∈ ents, ∀ x ∈ L, en.val = edV x → x ∈ T) ∧ (t = tl [(1, .map (some r2)), (15, .pointer (some ⟨b, 0, none⟩))] ∨ t = tl [(1, .map (some r2)), (15, .pointer (some ⟨b, 0, none⟩)), (33, .bool false)]) ∧ m = (leftOf es seen).size ∧ H.le K ∧ K b = some (.obj (.mapIter (some r) c seen c))) (leftOf es #[]).size
      ⟨#[], [], Came.start es, by simp, .inl rfl, rfl, Heap.q0o (Heap.q09 _) hb _, Heap.q03 _ _ _⟩ ?_
    rintro m t K ⟨seen, ents, hC, hE, ht, rfl, leK, qb⟩
    have maK : ∀ K', H.le K' → q5f K' r = some (es, c) := fun K' x => by simp [q5f, x _ _ qr]
    have ma2K : ∀ K', H.le K' → q5f K' r2 = some (es2, c2) := fun K' x => by simp [q5f, x _ _ qr2]
    rcases ht with rfl | rfl
    all_goals
      simp -implicitDefEqProofs only [zA,reduceIte,reduceCtorEq,Nat.reduceEqDiff,Nat.reduceAdd,Nat.reduceMul,Nat.reduceLT,Nat.reduceSub,Int.reduceLT,Int.reduceLE,Int.reduceEq,Int.reduceNe,Int.reduceSub,Int.reduceAdd,Int.reduceMul,Int.reduceBEq,Int.reduceBNe,Int.reduceGT,Int.reduceGE,Nat.reduceGT,Int.reduceToNat,Int.reduceNeg,Nat.reduceLeDiff,Nat.reduceBEq,Nat.reduceBneDiff]
      refine qlq qb (maK K leK) st.1 (Nat.le_refl _) ?_ ?_
      · intro h0
        have hall := hC.done h0
        have hsub : ∀ x ∈ S, x ∈ T := fun x hx => by
          have hxL := hp.mem_iff.2 hx
          have h1 : (dotV x, edV x) ∈ L.map fun x => (dotV x, edV x) := List.mem_map_of_mem hxL
          unfold EntB at en
          rw [← en] at h1
          obtain ⟨en', he', hk'⟩ := List.mem_map.1 h1
          simp only [Prod.mk.injEq] at hk'
          exact hE en' (hall.mem_iff.2 he') x hxL hk'.2
        have hST : S = T := qmb B.ok B2.ok (by omega) hsub
        simp -implicitDefEqProofs only [zA,reduceIte,reduceCtorEq,Nat.reduceEqDiff,Nat.reduceAdd,Nat.reduceMul,Nat.reduceLT,Nat.reduceSub,Int.reduceLT,Int.reduceLE,Int.reduceEq,Int.reduceNe,Int.reduceSub,Int.reduceAdd,Int.reduceMul,Int.reduceBEq,Int.reduceBNe,Int.reduceGT,Int.reduceGE,Nat.reduceGT,Int.reduceToNat,Int.reduceNeg,Nat.reduceLeDiff,Nat.reduceBEq,Nat.reduceBneDiff,hST]
        exact leK
      · intro en' he'
        have hmem : en' ∈ es.toList := by rw [q8z] at he'; exact (List.mem_filter.1 he').1
        obtain ⟨x, hxL, hkx⟩ : ∃ x ∈ L, (dotV x, edV x) = (en'.key, en'.val) := by
          have h1 : (en'.key, en'.val) ∈ es.toList.map (fun e => (e.key, e.val)) := List.mem_map_of_mem hmem
          unfold EntB at en
          rw [en] at h1
          obtain ⟨x, hx, he⟩ := List.mem_map.1 h1
          exact ⟨x, hx, he⟩
        simp only [Prod.mk.injEq] at hkx
        have hx8 := B.ok.h8 x (hp.mem_iff.1 hxL)
        have leK1 : H.le (K.set b (.obj (.mapIter (some r) c (seen.push en'.born) c))) := Heap.q0o leK hb _
        have qb1 : (K.set b (.obj (.mapIter (some r) c (seen.push en'.born) c))) b = some (.obj (.mapIter (some r) c (seen.push en'.born) c)) := Heap.q03 _ _ _
        have hC1 := hC.step st he'
        have hlt1 := qc6 he'
        generalize (K.set b (.obj (.mapIter (some r) c (seen.push en'.born) c))) = K1 at leK1 qb1 ⊢
        have hen : qh7 K1 (.pointer (some ⟨b, 0, none⟩)) = some (.tuple #[en'.key, en'.val]) :=
          qku qb1 (maK K1 leK1) hmem st.2.1
        rw [← hkx.1, ← hkx.2] at hen ⊢
        unfold dotV edV at hen ⊢
        simp -implicitDefEqProofs only [zA,reduceIte,reduceCtorEq,Nat.reduceEqDiff,Nat.reduceAdd,Nat.reduceMul,Nat.reduceLT,Nat.reduceSub,Int.reduceLT,Int.reduceLE,Int.reduceEq,Int.reduceNe,Int.reduceSub,Int.reduceAdd,Int.reduceMul,Int.reduceBEq,Int.reduceBNe,Int.reduceGT,Int.reduceGE,Nat.reduceGT,Int.reduceToNat,Int.reduceNeg,Nat.reduceLeDiff,Nat.reduceBEq,Nat.reduceBneDiff,hen]
        intro b5 hb5 b6 hb6
        have n65 : b6 ≠ b5 := by intro e; subst e; rw [Heap.q03] at hb6; cases hb6
        have hb6' : K1 b6 = none := by rw [Heap.q1a n65] at hb6; exact hb6
        have leA : K1.le ((K1.set b5 (.own 0 [.int .i64 0, .int .i64 0] 2)).set b6 (.own 0 Z15 Z15.length)) := Heap.qgp (Heap.q0o (Heap.q09 _) hb5 _) hb6 _
        have q5 : ((K1.set b5 (.own 0 [.int .i64 0, .int .i64 0] 2)).set b6 (.own 0 Z15 Z15.length)) b5 = some (.own 0 [.int .i64 0, .int .i64 0] 2) := by rw [Heap.q1a n65.symm, Heap.q03]
        have q6 : ((K1.set b5 (.own 0 [.int .i64 0, .int .i64 0] 2)).set b6 (.own 0 Z15 Z15.length)) b6 = some (.own 0 Z15 Z15.length) := Heap.q03 _ _ _
        unfold Z15 at leA q5 q6
        generalize ((K1.set b5 (.own 0 [.int .i64 0, .int .i64 0] 2)).set b6 (.own 0 (List.replicate 11 (.int .i64 0) ++ [.string .empty, .string .empty, .string .empty, .int .i64 0]) (List.replicate 11 (Value.int .i64 0) ++ [Value.string .empty, Value.string .empty, Value.string .empty, Value.int .i64 0]).length)) = Ga at leA q5 q6 ⊢
        have s5 : q57 Ga 2 (.pointer (some ⟨b5, 0, none⟩)) (.agg [Value.int .i64 x.dev, Value.int .i64 x.n].toArray) = some (Ga.set b5 (.own 0 [.int .i64 x.dev, .int .i64 x.n] 2)) := q5e q5 (by decide) rfl rfl rfl (by decide)
        have s6 : q57 (Ga.set b5 (.own 0 [.int .i64 x.dev, .int .i64 x.n] 2)) 15 (.pointer (some ⟨b6, 0, none⟩)) (.agg (edC x).toArray) = some ((Ga.set b5 (.own 0 [.int .i64 x.dev, .int .i64 x.n] 2)).set b6 (.own 0 (edC x) 15)) := q5e (by rw [Heap.q1a n65]; exact q6) (by decide) (q5d hx8) (qgb x) rfl (by decide)
        have leC : H.le ((Ga.set b5 (.own 0 [.int .i64 x.dev, .int .i64 x.n] 2)).set b6 (.own 0 (edC x) 15)) := Heap.q0o (Heap.q0o (Heap.q08 leK1 leA) (Heap.q27 leK1 hb5) _) (Heap.q27 leK1 hb6') _
        have qbC : ((Ga.set b5 (.own 0 [.int .i64 x.dev, .int .i64 x.n] 2)).set b6 (.own 0 (edC x) 15)) b = some (.obj (.mapIter (some r) c (seen.push en'.born) c)) := by
          have h5 : b ≠ b5 := fun e => by rw [e, hb5] at qb1; cases qb1
          have h6 : b ≠ b6 := fun e => by rw [e, hb6'] at qb1; cases qb1
          rw [Heap.q1a h6, Heap.q1a h5]; exact leA _ _ qb1
        have d5 : q0e ((Ga.set b5 (.own 0 [.int .i64 x.dev, .int .i64 x.n] 2)).set b6 (.own 0 (edC x) 15)) ⟨b5, 0, none⟩ 2 = some [.int .i64 x.dev, .int .i64 x.n] := by
          rw [q4b (vs := [.int .i64 x.dev, .int .i64 x.n]) (by rw [Heap.q1a n65.symm, Heap.q03]) (by simp)]
          rfl
        have A6 : EdAt ((Ga.set b5 (.own 0 [.int .i64 x.dev, .int .i64 x.n] 2)).set b6 (.own 0 (edC x) 15)) b6 x := EdAt.of (Heap.q03 _ _ _) hx8
        try simp -implicitDefEqProofs only [zA,reduceIte,reduceCtorEq,Nat.reduceEqDiff,Nat.reduceAdd,Nat.reduceMul,Nat.reduceLT,Nat.reduceSub,Int.reduceLT,Int.reduceLE,Int.reduceEq,Int.reduceNe,Int.reduceSub,Int.reduceAdd,Int.reduceMul,Int.reduceBEq,Int.reduceBNe,Int.reduceGT,Int.reduceGE,Nat.reduceGT,Int.reduceToNat,Int.reduceNeg,Nat.reduceLeDiff,Nat.reduceBEq,Nat.reduceBneDiff,s5,s6]
        generalize ((Ga.set b5 (.own 0 [.int .i64 x.dev, .int .i64 x.n] 2)).set b6 (.own 0 (edC x) 15)) = Gc at leC qbC d5 A6 ⊢
        unfold q0a
        have ma2C := ma2K Gc leC
        have kf : q92 (.agg [some IntKind.i64, some IntKind.i64]) (.agg #[Value.int .i64 x.dev, Value.int .i64 x.n]) = some () := rfl
        have hgp := qg6 hp2 B2.ok x.dev x.n
        cases hgd : q9i T x.dev x.n with
        | none =>
          rw [hgd] at hgp
          have fv := qbq 0 en2 hgp
          have hne : ¬ S = T := fun e => by
            rw [q8i] at hgd
            exact hgd x (e ▸ hp.mem_iff.1 hxL) ⟨rfl, rfl⟩
          simp -implicitDefEqProofs only [zA,reduceIte,reduceCtorEq,Nat.reduceEqDiff,Nat.reduceAdd,Nat.reduceMul,Nat.reduceLT,Nat.reduceSub,Int.reduceLT,Int.reduceLE,Int.reduceEq,Int.reduceNe,Int.reduceSub,Int.reduceAdd,Int.reduceMul,Int.reduceBEq,Int.reduceBNe,Int.reduceGT,Int.reduceGE,Nat.reduceGT,Int.reduceToNat,Int.reduceNeg,Nat.reduceLeDiff,Nat.reduceBEq,Nat.reduceBneDiff,d5,ma2C,fvKD,fv,kf]
          intro b7 hb7
          have s7 : q57 (Gc.set b7 (.own 0 Z15 Z15.length)) 15 (.pointer (some ⟨b7, 0, none⟩)) (.agg Z15.toArray) = some (Gc.set b7 (.own 0 Z15 15)) := z6z (by decide) rfl rfl rfl (by decide)
          unfold Z15 at s7
          have le7 := Heap.q0o leC (Heap.q27 leC hb7) (.own 0 (List.replicate 11 (.int .i64 0) ++ [.string .empty, .string .empty, .string .empty, .int .i64 0]) 15)
          simp -implicitDefEqProofs only [zA,reduceIte,reduceCtorEq,Nat.reduceEqDiff,Nat.reduceAdd,Nat.reduceMul,Nat.reduceLT,Nat.reduceSub,Int.reduceLT,Int.reduceLE,Int.reduceEq,Int.reduceNe,Int.reduceSub,Int.reduceAdd,Int.reduceMul,Int.reduceBEq,Int.reduceBNe,Int.reduceGT,Int.reduceGE,Nat.reduceGT,Int.reduceToNat,Int.reduceNeg,Nat.reduceLeDiff,Nat.reduceBEq,Nat.reduceBneDiff,s7,hne]
          exact le7
        | some w =>
          rw [hgd] at hgp
          have hgw := getD_some hgd
          have hw8 := B2.ok.h8 w hgw.1
          obtain ⟨j, fv⟩ := qbp 0 en2 hgp
          unfold edV at fv
          simp -implicitDefEqProofs only [zA,reduceIte,reduceCtorEq,Nat.reduceEqDiff,Nat.reduceAdd,Nat.reduceMul,Nat.reduceLT,Nat.reduceSub,Int.reduceLT,Int.reduceLE,Int.reduceEq,Int.reduceNe,Int.reduceSub,Int.reduceAdd,Int.reduceMul,Int.reduceBEq,Int.reduceBNe,Int.reduceGT,Int.reduceGE,Nat.reduceGT,Int.reduceToNat,Int.reduceNeg,Nat.reduceLeDiff,Nat.reduceBEq,Nat.reduceBneDiff,d5,ma2C,fvKD,fv,kf]
          intro b7 hb7
          have s7 := stE Gc b7 hw8
          unfold Z15 at s7
          have le7 := Heap.q0o leC (Heap.q27 leC hb7) (.own 0 (edC w) 15)
          have le7c := Heap.q0o (Heap.q09 Gc) hb7 (.own 0 (edC w) 15)
          have O7 : EdAt (Gc.set b7 (.own 0 (edC w) 15)) b7 w := EdAt.of (Heap.q03 _ _ _) hw8
          have A7 := A6.le hx8 le7c
          have qb7 := le7c _ _ qbC
          try simp -implicitDefEqProofs only [zA,reduceIte,reduceCtorEq,Nat.reduceEqDiff,Nat.reduceAdd,Nat.reduceMul,Nat.reduceLT,Nat.reduceSub,Int.reduceLT,Int.reduceLE,Int.reduceEq,Int.reduceNe,Int.reduceSub,Int.reduceAdd,Int.reduceMul,Int.reduceBEq,Int.reduceBNe,Int.reduceGT,Int.reduceGE,Nat.reduceGT,Int.reduceToNat,Int.reduceNeg,Nat.reduceLeDiff,Nat.reduceBEq,Nat.reduceBneDiff,s7]
          generalize (Gc.set b7 (.own 0 (edC w) 15)) = G7 at le7 le7c O7 A7 qb7 ⊢
          have k1 := qag x hx8
          have k2 := qag w hw8
          have k3 := qah x w hx8 hw8
          by_cases xw : x = w
          · subst xw
            have k3' : q0b (edC x) (edC x) = true := by rw [k3]; simp
            simp -implicitDefEqProofs only [zA,reduceIte,reduceCtorEq,Nat.reduceEqDiff,Nat.reduceAdd,Nat.reduceMul,Nat.reduceLT,Nat.reduceSub,Int.reduceLT,Int.reduceLE,Int.reduceEq,Int.reduceNe,Int.reduceSub,Int.reduceAdd,Int.reduceMul,Int.reduceBEq,Int.reduceBNe,Int.reduceGT,Int.reduceGE,Nat.reduceGT,Int.reduceToNat,Int.reduceNeg,Nat.reduceLeDiff,Nat.reduceBEq,Nat.reduceBneDiff,A7.all,O7.all,k1,k2,k3']
            refine ⟨_, hlt1, seen.push en'.born, ents ++ [en'], hC1, fun e he y hy hye => ?_, .inr trivial, rfl, le7, qb7⟩
            rcases List.mem_append.1 he with h | h
            · exact hE e h y hy hye
            · rw [List.mem_singleton.1 h, ← hkx.2] at hye
              have : edC x = edC y := by
                unfold edV at hye
                simpa using hye
              have hy8 := B.ok.h8 y (hp.mem_iff.1 hy)
              have hxy : x = y := by
                have := qah x y hx8 hy8
                rw [← ‹edC x = edC y›, qah x x hx8 hx8] at this
                simpa using this.symm
              rw [← hxy]; exact hgw.1
          · have k3' : q0b (edC x) (edC w) = false := by rw [k3]; simp [xw]
            have hne : ¬ S = T := fun e => xw (by
              have h1 := ent_getD hp B.ok hxL
              rw [e, hgd] at h1
              exact (Option.some.inj h1).symm)
            simp -implicitDefEqProofs only [zA,reduceIte,reduceCtorEq,Nat.reduceEqDiff,Nat.reduceAdd,Nat.reduceMul,Nat.reduceLT,Nat.reduceSub,Int.reduceLT,Int.reduceLE,Int.reduceEq,Int.reduceNe,Int.reduceSub,Int.reduceAdd,Int.reduceMul,Int.reduceBEq,Int.reduceBNe,Int.reduceGT,Int.reduceGE,Nat.reduceGT,Int.reduceToNat,Int.reduceNeg,Nat.reduceLeDiff,Nat.reduceBEq,Nat.reduceBneDiff,A7.all,O7.all,k1,k2,k3',hne]
            exact le7
  · have g' : ((es.size : Int) != es2.size) = true := by simpa using g
    have hne : ¬ S = T := fun e => g (by rw [hl, hl2, hpl, hpl2, e])
    simp -implicitDefEqProofs only [zA,reduceIte,reduceCtorEq,Nat.reduceEqDiff,Nat.reduceAdd,Nat.reduceMul,Nat.reduceLT,Nat.reduceSub,Int.reduceLT,Int.reduceLE,Int.reduceEq,Int.reduceNe,Int.reduceSub,Int.reduceAdd,Int.reduceMul,Int.reduceBEq,Int.reduceBNe,Int.reduceGT,Int.reduceGE,Nat.reduceGT,Int.reduceToNat,Int.reduceNeg,Nat.reduceLeDiff,Nat.reduceBEq,Nat.reduceBneDiff,ma,ma2,g',hne]
    exact Heap.q09 _
theorem qgf (E : EnvT tab) {H : Heap} {b r b2 r2 : Nat} {S T : List Ed} (B : BookAt H b r S) (B2 : BookAt H b2 r2 T) :
    ACallN E.toEnv qjb [.pointer (some ⟨b, 0, none⟩), .pointer (some ⟨b2, 0, none⟩)] H fun x H' => H.le H' ∧ x = .bool (decide (S = T)) := by
  refine q2r qcm q9p rfl rfl (q02 ?_)
  unfold q9p
  have cb : q1o H ⟨b, 0, none⟩ = some (.map (some r)) := by rw [q3q B.qb (by simp)]; rfl
  have cb2 : q1o H ⟨b2, 0, none⟩ = some (.map (some r2)) := by rw [q3q B2.qb (by simp)]; rfl
  simp -implicitDefEqProofs only [zA,reduceIte,reduceCtorEq,Nat.reduceEqDiff,Nat.reduceAdd,Nat.reduceMul,Nat.reduceLT,Nat.reduceSub,Int.reduceLT,Int.reduceLE,Int.reduceEq,Int.reduceNe,Int.reduceSub,Int.reduceAdd,Int.reduceMul,Int.reduceBEq,Int.reduceBNe,Int.reduceGT,Int.reduceGE,Nat.reduceGT,Int.reduceToNat,Int.reduceNeg,Nat.reduceLeDiff,Nat.reduceBEq,Nat.reduceBneDiff,cb,cb2]
  refine (qio E B B2).mono ?_
  rintro x H1 ⟨le1, rfl⟩
  simp -implicitDefEqProofs only [zA,reduceIte,reduceCtorEq,Nat.reduceEqDiff,Nat.reduceAdd,Nat.reduceMul,Nat.reduceLT,Nat.reduceSub,Int.reduceLT,Int.reduceLE,Int.reduceEq,Int.reduceNe,Int.reduceSub,Int.reduceAdd,Int.reduceMul,Int.reduceBEq,Int.reduceBNe,Int.reduceGT,Int.reduceGE,Nat.reduceGT,Int.reduceToNat,Int.reduceNeg,Nat.reduceLeDiff,Nat.reduceBEq,Nat.reduceBneDiff]
  exact le1
def q3i : List Ed → List Ed → List Ed × Int
  | S, [] => (S, 0)
  | S, e :: L => if (addB S e).2 = 0 then q3i (addB S e).1 L else (S, (addB S e).2)
theorem q39 (S : List Ed) (x : Ed) (L : List Ed) (g : (addB S x).2 = 0) : q3i S (x :: L) = q3i (addB S x).1 L := by
  simp only [q3i, g, if_true]
theorem qa0 (S : List Ed) (x : Ed) (L : List Ed) (g : ¬ (addB S x).2 = 0) : q3i S (x :: L) = (S, (addB S x).2) := by
  simp only [q3i, g, if_false]
theorem qfw {e : Ed} : ∀ {L S : List Ed}, (q3i S L).2 = 0 → (addB (q3i S L).1 e).2 = 0 → q3i S (L ++ [e]) = ((addB (q3i S L).1 e).1, 0)
  | [], S, _, g => by
    rw [List.nil_append, q39 S e [] g]; rfl
  | x :: L, S, h, g => by
    by_cases k : (addB S x).2 = 0
    · rw [q39 S x L k] at h g
      rw [List.cons_append, q39 S x _ k, q39 S x L k]
      exact qfw h g
    · rw [qa0 S x L k] at h
      exact absurd h k
theorem qin {e : Ed} : ∀ {L S : List Ed}, (q3i S L).2 = 0 → ¬ (addB (q3i S L).1 e).2 = 0 → (q3i S (L ++ [e])).2 = (addB (q3i S L).1 e).2
  | [], S, _, g => by
    rw [List.nil_append, qa0 S e [] g]; rfl
  | x :: L, S, h, g => by
    by_cases k : (addB S x).2 = 0
    · rw [q39 S x L k] at h g
      rw [List.cons_append, q39 S x _ k, q39 S x L k]
      exact qin h g
    · rw [qa0 S x L k] at h
      exact absurd h k
theorem qfv (M : List Ed) : ∀ {L S : List Ed}, ¬ (q3i S L).2 = 0 → q3i S (L ++ M) = q3i S L
  | [], S, h => absurd rfl h
  | x :: L, S, h => by
    by_cases k : (addB S x).2 = 0
    · rw [q39 S x L k] at h
      rw [List.cons_append, q39 S x _ k, q39 S x L k]
      exact qfv M h
    · rw [List.cons_append, qa0 S x _ k, qa0 S x L k]
theorem qir {e : Ed} (h : q8h e = true) : e.con.length ≤ 9223372036854775807 ∧ e.fld.length ≤ 9223372036854775807 ∧ -9223372036854775808 ≤ e.n ∧ e.n ≤ 9223372036854775807 := by
  simp only [q8h, qd0, Bool.and_eq_true, Bool.or_eq_true, decide_eq_true_eq] at h
  obtain ⟨⟨⟨⟨⟨⟨h1, h2⟩, h3⟩, h4⟩, h5⟩, h6⟩, h7⟩ := h
  refine ⟨by omega, ?_, by omega, by omega⟩
  rcases h7 with ⟨h8, h9, h10⟩ | ⟨h8, h9, h10⟩
  · omega
  · rw [h9]; simp
theorem Keep.trans {r : Nat} {H G G' : Heap} (h : Keep r H G) (k : Keep r G G') : Keep r H G' := fun b x hb hr => k b x (h b x hb hr) hr
theorem Keep.fresh {r : Nat} {H G G' : Heap} (hr : H r = none) (le : H.le G) (k : Keep r G G') : H.le G' := fun b x hb => k b x (le b x hb) (fun e => by rw [e, hr] at hb; cases hb)
theorem BookAt.keep {H H' : Heap} {b r q : Nat} {S : List Ed} (x : BookAt H b r S) (k : Keep q H H') (h1 : b ≠ q) (h2 : r ≠ q) : BookAt H' b r S := by
  obtain ⟨es, c, L, g1, g2⟩ := x.qr
  exact ⟨x.ne, k _ _ x.qb h1, ⟨es, c, L, k _ _ g1 h2, g2⟩, x.ok⟩
theorem qj3 (E : EnvT tab) (K : BkOk E) {H : Heap} {b r b2 r2 : Nat} {S T : List Ed} (B : BookAt H b r S) (B2 : BookAt H b2 r2 T) :
    ACallN E.toEnv qdz [.pointer (some ⟨b, 0, none⟩), .pointer (some ⟨b2, 0, none⟩)] H fun x H' => x = .int .i64 (q3i S T).2 ∧ Keep b H H' ∧
      ((q3i S T).2 = 0 → ∃ r', H r' = none ∧ BookAt H' b r' (q3i S T).1) ∧ (¬ (q3i S T).2 = 0 → H.le H') := by
  refine q2r q89 q4s rfl rfl (q02 ?_)
  unfold q4s
  simp -implicitDefEqProofs only [zA,reduceIte,reduceCtorEq,Nat.reduceEqDiff,Nat.reduceAdd,Nat.reduceMul,Nat.reduceLT,Nat.reduceSub,Int.reduceLT,Int.reduceLE,Int.reduceEq,Int.reduceNe,Int.reduceSub,Int.reduceAdd,Int.reduceMul,Int.reduceBEq,Int.reduceBNe,Int.reduceGT,Int.reduceGE,Nat.reduceGT,Int.reduceToNat,Int.reduceNeg,Nat.reduceLeDiff,Nat.reduceBEq,Nat.reduceBneDiff]
  refine (qgh E K B).mono ?_
  rintro x H1 ⟨le1, b', r', rfl, nb, nr, B1⟩
  unfold q8g
  simp -implicitDefEqProofs only [zA,reduceIte,reduceCtorEq,Nat.reduceEqDiff,Nat.reduceAdd,Nat.reduceMul,Nat.reduceLT,Nat.reduceSub,Int.reduceLT,Int.reduceLE,Int.reduceEq,Int.reduceNe,Int.reduceSub,Int.reduceAdd,Int.reduceMul,Int.reduceBEq,Int.reduceBNe,Int.reduceGT,Int.reduceGE,Nat.reduceGT,Int.reduceToNat,Int.reduceNeg,Nat.reduceLeDiff,Nat.reduceBEq,Nat.reduceBneDiff]
  refine (qev E K (B2.le le1)).mono ?_
  rintro v H2 ⟨le2, ow⟩
  have sl := ow.sl
  have h8 := B2.ok.h8
  have hT := B2.ok.len
  obtain ⟨base, c, rfl⟩ := sl.shape
  have B12 := B1.le le2
  have leX := Heap.q08 le1 le2
  simp -implicitDefEqProofs only [zA,reduceIte,reduceCtorEq,Nat.reduceEqDiff,Nat.reduceAdd,Nat.reduceMul,Nat.reduceLT,Nat.reduceSub,Int.reduceLT,Int.reduceLE,Int.reduceEq,Int.reduceNe,Int.reduceSub,Int.reduceAdd,Int.reduceMul,Int.reduceBEq,Int.reduceBNe,Int.reduceGT,Int.reduceGE,Nat.reduceGT,Int.reduceToNat,Int.reduceNeg,Nat.reduceLeDiff,Nat.reduceBEq,Nat.reduceBneDiff]
  refine q2s (fun m t G => ∃ i : Nat, (t = tl [(0, .pointer (some ⟨b, 0, none⟩)), (5, .pointer (some ⟨b', 0, none⟩)), (12, .slice base T.length c), (13, .int .i64 T.length), (14, .int .i64 i)]) ∧ i ≤ T.length ∧ m = T.length - i ∧ Keep r' H2 G ∧ BookAt G b' r' (q3i S (T.take i)).1 ∧ (q3i S (T.take i)).2 = 0) T.length
    ⟨0, rfl, by omega, by omega, fun _ _ h _ => h, B12, rfl⟩ ?_
  rintro m t G ⟨i, rfl, hi, rfl, kp, BG, hz⟩
  by_cases hlt : i < T.length
  · have hi1 : (i : Int) < T.length := by omega
    have hi2 : (0 : Int) ≤ i := by omega
    have w1 : IntKind.i64.wrap ((i : Int) + 1) = ((i + 1 : Nat) : Int) := qdo (by omega)
    have nr2 : H1.le H2 := le2
    have slG : Sl G 15 (.slice base T.length c) T.length (T.flatMap edC) := by
      rcases ow with ⟨h1, h2, h3⟩ | ⟨bo, o, c0, sz, st, pre, rest, h1, h2, h3, h4, h5, h6, h7⟩
      · exact .inl ⟨h1, h2, h3⟩
      · have hne : bo ≠ r' := fun e => by
          obtain ⟨es, cc, L, g1, _⟩ := B1.qr
          rw [e, g1] at h3; cases h3
        have h0 : (fun _ => none : Heap) bo = none := rfl
        exact Ow.sl (h0 := fun _ => none) (.inr ⟨bo, o, c0, sz, st, pre, rest, h1, h2, rfl, kp _ _ h4 hne, h5, h6, h7⟩)
    obtain ⟨bs, o, c', hv, hc, q1o⟩ := slG.edAt h8 i hlt
    simp only [Value.slice.injEq, true_and] at hv
    obtain ⟨rfl, rfl⟩ := hv
    have hi3 := q1o _ (Heap.q09 _)
    have hx := h8 T[i] (List.getElem_mem hlt)
    have hgd := B2.ok.good T[i] (List.getElem_mem hlt)
    have et : T.take (i + 1) = T.take i ++ [T[i]] := List.take_succ_eq_append_getElem hlt
    have eall : T = T.take i ++ [T[i]] ++ T.drop (i + 1) := by simp
    generalize T[i] = y at hi3 hx et hgd eall
    simp -implicitDefEqProofs only [zA,reduceIte,reduceCtorEq,Nat.reduceEqDiff,Nat.reduceAdd,Nat.reduceMul,Nat.reduceLT,Nat.reduceSub,Int.reduceLT,Int.reduceLE,Int.reduceEq,Int.reduceNe,Int.reduceSub,Int.reduceAdd,Int.reduceMul,Int.reduceBEq,Int.reduceBNe,Int.reduceGT,Int.reduceGE,Nat.reduceGT,Int.reduceToNat,Int.reduceNeg,Nat.reduceLeDiff,Nat.reduceBEq,Nat.reduceBneDiff,hi1,hi2,Int.toNat_natCast,hi3]
    intro b6 hb6
    have s6 := stE G b6 hx
    unfold Z15 at s6
    try simp -implicitDefEqProofs only [zA,reduceIte,reduceCtorEq,Nat.reduceEqDiff,Nat.reduceAdd,Nat.reduceMul,Nat.reduceLT,Nat.reduceSub,Int.reduceLT,Int.reduceLE,Int.reduceEq,Int.reduceNe,Int.reduceSub,Int.reduceAdd,Int.reduceMul,Int.reduceBEq,Int.reduceBNe,Int.reduceGT,Int.reduceGE,Nat.reduceGT,Int.reduceToNat,Int.reduceNeg,Nat.reduceLeDiff,Nat.reduceBEq,Nat.reduceBneDiff,s6]
    have le6 : G.le (G.set b6 (.own 0 (edC y) 15)) := Heap.q0o (Heap.q09 _) hb6 _
    have A : EdAt (G.set b6 (.own 0 (edC y) 15)) b6 y := EdAt.of (Heap.q03 _ _ _) hx
    have BG6 := BG.le le6
    have kp6 := kp.trans (Keep.qkz le6)
    generalize (G.set b6 (.own 0 (edC y) 15)) = G6 at le6 A BG6 kp6
    obtain ⟨y1, y2, y3, y4⟩ := qir hgd
    simp -implicitDefEqProofs only [zA,reduceIte,reduceCtorEq,Nat.reduceEqDiff,Nat.reduceAdd,Nat.reduceMul,Nat.reduceLT,Nat.reduceSub,Int.reduceLT,Int.reduceLE,Int.reduceEq,Int.reduceNe,Int.reduceSub,Int.reduceAdd,Int.reduceMul,Int.reduceBEq,Int.reduceBNe,Int.reduceGT,Int.reduceGE,Nat.reduceGT,Int.reduceToNat,Int.reduceNeg,Nat.reduceLeDiff,Nat.reduceBEq,Nat.reduceBneDiff,A.all]
    refine (q4e E BG6 y hx y1 y2 y3 y4).mono ?_
    rintro v G7 ⟨rfl, B7, k7⟩
    by_cases gz : (addB (q3i S (T.take i)).1 y).2 = 0
    · simp -implicitDefEqProofs only [zA,reduceIte,reduceCtorEq,Nat.reduceEqDiff,Nat.reduceAdd,Nat.reduceMul,Nat.reduceLT,Nat.reduceSub,Int.reduceLT,Int.reduceLE,Int.reduceEq,Int.reduceNe,Int.reduceSub,Int.reduceAdd,Int.reduceMul,Int.reduceBEq,Int.reduceBNe,Int.reduceGT,Int.reduceGE,Nat.reduceGT,Int.reduceToNat,Int.reduceNeg,Nat.reduceLeDiff,Nat.reduceBEq,Nat.reduceBneDiff,gz,w1,bne_self_eq_false]
      refine ⟨_, ?_, i + 1, rfl, by omega, rfl, kp6.trans k7, ?_, ?_⟩
      · omega
      · rw [et, qfw hz gz]; exact B7
      · rw [et, qfw hz gz]
    · have gz' : ((addB (q3i S (T.take i)).1 y).2 != 0) = true := by simpa using gz
      have hno := qin hz gz
      have hT2 : (q3i S T).2 = (addB (q3i S (T.take i)).1 y).2 := by
        have hs := qfv (T.drop (i + 1)) (L := T.take i ++ [y]) (S := S) (by rw [hno]; exact gz)
        rw [← eall] at hs
        rw [hs, hno]
      have leF : H.le G7 := Keep.fresh nr leX (kp6.trans k7)
      rw [hT2]
      simp -implicitDefEqProofs only [zA,reduceIte,reduceCtorEq,Nat.reduceEqDiff,Nat.reduceAdd,Nat.reduceMul,Nat.reduceLT,Nat.reduceSub,Int.reduceLT,Int.reduceLE,Int.reduceEq,Int.reduceNe,Int.reduceSub,Int.reduceAdd,Int.reduceMul,Int.reduceBEq,Int.reduceBNe,Int.reduceGT,Int.reduceGE,Nat.reduceGT,Int.reduceToNat,Int.reduceNeg,Nat.reduceLeDiff,Nat.reduceBEq,Nat.reduceBneDiff,gz']
      exact ⟨Keep.qkz leF, fun h => absurd h gz, fun _ => leF⟩
  · have hi1 : ¬ (i : Int) < T.length := by omega
    have e : i = T.length := by omega
    subst e
    rw [List.take_length] at BG hz
    simp -implicitDefEqProofs only [zA,reduceIte,reduceCtorEq,Nat.reduceEqDiff,Nat.reduceAdd,Nat.reduceMul,Nat.reduceLT,Nat.reduceSub,Int.reduceLT,Int.reduceLE,Int.reduceEq,Int.reduceNe,Int.reduceSub,Int.reduceAdd,Int.reduceMul,Int.reduceBEq,Int.reduceBNe,Int.reduceGT,Int.reduceGE,Nat.reduceGT,Int.reduceToNat,Int.reduceNeg,Nat.reduceLeDiff,Nat.reduceBEq,Nat.reduceBneDiff,hi1]
    unfold q8f
    have leF : H.le G := Keep.fresh nr leX kp
    have cb : q1o G ⟨b', 0, none⟩ = some (.map (some r')) := by rw [q3q BG.qb (by simp)]; rfl
    have nbb : b' ≠ b := fun e => by have := B.qb; rw [← e, nb] at this; cases this
    have nrb : r' ≠ b := fun e => by have := B.qb; rw [← e, nr] at this; cases this
    have st : q57 G 1 (.pointer (some ⟨b, 0, none⟩)) (.map (some r')) = some (G.set b (.own 0 [.map (some r')] 1)) := by
      rw [qcv (leF _ _ B.qb) rfl (by simp) (by simp)]; rfl
    rw [hz]
    simp -implicitDefEqProofs only [zA,reduceIte,reduceCtorEq,Nat.reduceEqDiff,Nat.reduceAdd,Nat.reduceMul,Nat.reduceLT,Nat.reduceSub,Int.reduceLT,Int.reduceLE,Int.reduceEq,Int.reduceNe,Int.reduceSub,Int.reduceAdd,Int.reduceMul,Int.reduceBEq,Int.reduceBNe,Int.reduceGT,Int.reduceGE,Nat.reduceGT,Int.reduceToNat,Int.reduceNeg,Nat.reduceLeDiff,Nat.reduceBEq,Nat.reduceBneDiff,cb,st]
    obtain ⟨es, cc, L, g1, g2⟩ := BG.qr
    refine ⟨fun k x hx hk => by rw [Heap.q1a hk]; exact leF k x hx, r', nr, nrb.symm, Heap.q03 _ _ _, ⟨es, cc, L, by rw [Heap.q1a nrb]; exact g1, g2⟩, BG.ok⟩
end Go.Bb
namespace Go.Bb
set_option linter.unusedSimpArgs false
set_option linter.unusedVariables false
theorem qdr (a : Str) : ¬ a < a := List.lt_irrefl a
theorem qie {a b c : Str} (h : a < b) (k : b < c) : a < c := List.lt_trans h k
theorem sLt_tri {a b : Str} (h : ¬ a < b) (k : ¬ b < a) : a = b := List.le_antisymm k h
theorem sLt_of {a b : Str} (h : a ≤ b) (k : a ≠ b) : a < b := by
  by_cases g : a < b
  · exact g
  · exact absurd (sLt_tri g h) k
theorem qhj (l : List Str) : (q8n l).Pairwise (fun a b => a ≤ b) := by
  have := List.pairwise_mergeSort (le := fun x y : Str => decide (x ≤ y)) (by
    intro a b c h1 h2
    simp only [decide_eq_true_eq] at *
    exact List.le_trans h1 h2) (by
    intro a b
    simp only [Bool.or_eq_true, decide_eq_true_eq]
    exact List.le_total a b) l
  exact this.imp fun {a b} h => by simpa using h
theorem qko {l : List Str} {x : Str} : x ∈ q8n l ↔ x ∈ l := List.mem_mergeSort
theorem comp_inv (d : Array Str) (hs : ∀ i j, i < j → j < d.size → d[i]! ≤ d[j]!) : ∀ m, m ≤ d.size → (Lib.compactUpTo d m).Pairwise (· < ·) ∧ (∀ x, x ∈ Lib.compactUpTo d m ↔ ∃ i, i < m ∧ d[i]! = x) := by
  intro m
  induction m with
  | zero => intro _; simp [Lib.compactUpTo]
  | succ m ih =>
    intro hm
    obtain ⟨h1, h2⟩ := ih (by omega)
    rw [Lib.compactUpTo_succ]
    by_cases k : Lib.keeps d m = true
    · rw [if_pos k]
      refine ⟨?_, fun x => ?_⟩
      · rw [List.pairwise_append]
        refine ⟨h1, by simp, fun x hx y hy => ?_⟩
        rw [List.mem_singleton] at hy
        subst hy
        obtain ⟨i, hi, rfl⟩ := (h2 x).1 hx
        unfold Lib.keeps at k
        simp only [decide_eq_true_eq] at k
        have hne : d[m]! ≠ d[m - 1]! := k.resolve_left (by omega)
        have hle : d[m - 1]! ≤ d[m]! := hs _ _ (by omega) (by omega)
        have hlt : d[m - 1]! < d[m]! := sLt_of hle (Ne.symm hne)
        by_cases e : i = m - 1
        · rw [e]; exact hlt
        · have := hs i (m - 1) (by omega) (by omega)
          by_cases q : d[i]! = d[m - 1]!
          · rw [q]; exact hlt
          · exact qie (sLt_of this q) hlt
      · rw [List.mem_append, h2, List.mem_singleton]
        constructor
        · rintro (⟨i, hi, rfl⟩ | rfl)
          · exact ⟨i, by omega, rfl⟩
          · exact ⟨m, by omega, rfl⟩
        · rintro ⟨i, hi, rfl⟩
          by_cases e : i = m
          · exact .inr (by rw [e])
          · exact .inl ⟨i, by omega, rfl⟩
    · rw [if_neg k, List.append_nil]
      refine ⟨h1, fun x => ?_⟩
      unfold Lib.keeps at k
      simp only [decide_eq_true_eq, not_or, Decidable.not_not] at k
      rw [h2]
      constructor
      · rintro ⟨i, hi, rfl⟩; exact ⟨i, by omega, rfl⟩
      · rintro ⟨i, hi, rfl⟩
        by_cases e : i = m
        · exact ⟨m - 1, by omega, by rw [e, k.2]⟩
        · exact ⟨i, by omega, rfl⟩
theorem q78 (l : List Str) : (ql3 l).Pairwise (· < ·) ∧ ∀ x, x ∈ ql3 l ↔ x ∈ l := by
  have hsz : (q8n l).toArray.size = (q8n l).length := by simp
  have hg : ∀ i, i < (q8n l).length → ∀ h : i < (q8n l).length, (q8n l).toArray[i]! = (q8n l)[i] := fun i hi h => by simp [h]
  have hs := qhj l
  rw [List.pairwise_iff_getElem] at hs
  obtain ⟨h1, h2⟩ := comp_inv (q8n l).toArray (fun i j hij hj => by
    rw [hsz] at hj
    rw [hg i (by omega) (by omega), hg j hj hj]
    exact hs i j (by omega) hj hij) (q8n l).length (by simp)
  refine ⟨h1, fun x => ?_⟩
  unfold ql3 Lib.compact
  rw [h2, ← qko]
  constructor
  · rintro ⟨i, hi, rfl⟩
    rw [hg i hi hi]; exact List.getElem_mem hi
  · intro hx
    obtain ⟨i, hi, rfl⟩ := List.getElem_of_mem hx
    exact ⟨i, hi, hg i hi hi⟩
theorem q8r {l m : List Str} (hl : l.Pairwise (· < ·)) (hm : m.Pairwise (· < ·)) (h : ∀ x, x ∈ l ↔ x ∈ m) : l = m := by
  have nl : l.Nodup := List.Pairwise.imp (fun {a b} (k : a < b) (e : a = b) => qdr b (by rw [e] at k; exact k)) hl
  have nm : m.Nodup := List.Pairwise.imp (fun {a b} (k : a < b) (e : a = b) => qdr b (by rw [e] at k; exact k)) hm
  have hp : l.Perm m := by
    rw [List.perm_iff_count]
    intro a
    rw [nl.count, nm.count]
    by_cases ha : a ∈ l
    · rw [if_pos ha, if_pos ((h a).1 ha)]
    · rw [if_neg ha, if_neg (fun k => ha ((h a).2 k))]
  exact q8s qdr (fun x y z => qie) hp hl hm
end Go.Bb
namespace Go.Bb
set_option linter.unusedSimpArgs false
set_option linter.unusedVariables false
set_option maxRecDepth 20000
set_option maxHeartbeats 2000000
open Go.MapKept
abbrev SlS (H : Heap) (v : Value) (L : List Str) : Prop := Sl H 1 v L.length (L.map strV)
theorem SlS.cell {H : Heap} {v : Value} {L : List Str} (s : SlS H v L) (i : Nat) (hi : i < L.length) :
    ∃ b o c, v = .slice (some ⟨b, o, none⟩) L.length c ∧ q1o H ⟨b, o + i, none⟩ = some (strV L[i]) := by
  unfold SlS at s
  rw [← q9v strV L] at s
  obtain ⟨b, o, c, h1, h2, h3⟩ := Sl.at (f := fun s => [strV s]) (fun _ => rfl) s i hi (by decide)
  have h4 := qho (h3 H (Heap.q09 _)) 0 Nat.zero_lt_one
  simp only [List.getElem?_cons_zero, Nat.mul_one, Nat.add_zero] at h4
  exact ⟨b, o, c, h1, h4⟩
theorem qhb (E : EnvT tab) {H : Heap} {v w : Value} {L M : List Str} (s : SlS H v L) (q : SlS H w M) (hl : L.length ≤ 1000000) (hm : M.length ≤ 1000000) :
    ACallN E.toEnv qby [v, w] H fun r H' => H' = H ∧ r = .bool (decide (L = M)) := by
  obtain ⟨b1, c1, rfl⟩ := s.shape
  obtain ⟨b2, c2, rfl⟩ := q.shape
  refine q2r q63 q35 rfl rfl (q02 ?_)
  unfold q35
  by_cases g : L.length = M.length
  · have g' : ((L.length : Int) != M.length) = false := by simp [g]
    simp -implicitDefEqProofs only [zA,reduceIte,reduceCtorEq,Nat.reduceEqDiff,Nat.reduceAdd,Nat.reduceMul,Nat.reduceLT,Nat.reduceSub,Int.reduceLT,Int.reduceLE,Int.reduceEq,Int.reduceNe,Int.reduceSub,Int.reduceAdd,Int.reduceMul,Int.reduceBEq,Int.reduceBNe,Int.reduceGT,Int.reduceGE,Nat.reduceGT,Int.reduceToNat,Int.reduceNeg,Nat.reduceLeDiff,Nat.reduceBEq,Nat.reduceBneDiff,g']
    refine q2s (fun m t G => G = H ∧ ∃ i : Nat, t = tl [(0, .slice b1 L.length c1), (1, .slice b2 M.length c2), (5, .int .i64 i)] ∧ i ≤ L.length ∧ m = L.length - i ∧ L.take i = M.take i) L.length
      ⟨rfl, 0, rfl, by omega, by omega, rfl⟩ ?_
    rintro m t G ⟨rfl, i, rfl, hi, rfl, ht⟩
    by_cases hlt : i < L.length
    · have hlt2 : i < M.length := by omega
      have hi1 : (i : Int) < L.length := by omega
      have hi3 : (i : Int) < M.length := by omega
      have hi2 : (0 : Int) ≤ i := by omega
      have w1 : IntKind.i64.wrap ((i : Int) + 1) = ((i + 1 : Nat) : Int) := qdo (by omega)
      obtain ⟨x1, o1, d1, e1, k1⟩ := s.cell i hlt
      obtain ⟨x2, o2, d2, e2, k2⟩ := q.cell i hlt2
      simp only [Value.slice.injEq, true_and] at e1 e2
      obtain ⟨rfl, rfl⟩ := e1
      obtain ⟨rfl, rfl⟩ := e2
      have sn := ql8 L[i] M[i]
      have t1 : L.take (i + 1) = L.take i ++ [L[i]] := List.take_succ_eq_append_getElem hlt
      have t2 : M.take (i + 1) = M.take i ++ [M[i]] := List.take_succ_eq_append_getElem hlt2
      by_cases e : L[i] = M[i]
      · rw [decide_eq_true e] at sn
        simp -implicitDefEqProofs only [zA,reduceIte,reduceCtorEq,Nat.reduceEqDiff,Nat.reduceAdd,Nat.reduceMul,Nat.reduceLT,Nat.reduceSub,Int.reduceLT,Int.reduceLE,Int.reduceEq,Int.reduceNe,Int.reduceSub,Int.reduceAdd,Int.reduceMul,Int.reduceBEq,Int.reduceBNe,Int.reduceGT,Int.reduceGE,Nat.reduceGT,Int.reduceToNat,Int.reduceNeg,Nat.reduceLeDiff,Nat.reduceBEq,Nat.reduceBneDiff,hi1,hi2,hi3,Int.toNat_natCast,k1,k2,sn,w1]
        refine ⟨_, ?_, i + 1, rfl, by omega, rfl, by rw [t1, t2, ht, e]⟩
        omega
      · rw [decide_eq_false e] at sn
        have hne : ¬ L = M := fun h => e (by simp [h])
        simp -implicitDefEqProofs only [zA,reduceIte,reduceCtorEq,Nat.reduceEqDiff,Nat.reduceAdd,Nat.reduceMul,Nat.reduceLT,Nat.reduceSub,Int.reduceLT,Int.reduceLE,Int.reduceEq,Int.reduceNe,Int.reduceSub,Int.reduceAdd,Int.reduceMul,Int.reduceBEq,Int.reduceBNe,Int.reduceGT,Int.reduceGE,Nat.reduceGT,Int.reduceToNat,Int.reduceNeg,Nat.reduceLeDiff,Nat.reduceBEq,Nat.reduceBneDiff,hi1,hi2,hi3,Int.toNat_natCast,k1,k2,sn,hne]
    · have hi1 : ¬ (i : Int) < L.length := by omega
      have e : i = L.length := by omega
      subst e
      have hLM : L = M := by
        rw [List.take_length, List.take_of_length_le (by omega)] at ht
        exact ht
      rw [decide_eq_true hLM]
      simp -implicitDefEqProofs only [zA,reduceIte,reduceCtorEq,Nat.reduceEqDiff,Nat.reduceAdd,Nat.reduceMul,Nat.reduceLT,Nat.reduceSub,Int.reduceLT,Int.reduceLE,Int.reduceEq,Int.reduceNe,Int.reduceSub,Int.reduceAdd,Int.reduceMul,Int.reduceBEq,Int.reduceBNe,Int.reduceGT,Int.reduceGE,Nat.reduceGT,Int.reduceToNat,Int.reduceNeg,Nat.reduceLeDiff,Nat.reduceBEq,Nat.reduceBneDiff,hi1]
  · have g' : ((L.length : Int) != M.length) = true := by simp; omega
    have hne : ¬ L = M := fun h => g (by rw [h])
    simp -implicitDefEqProofs only [zA,reduceIte,reduceCtorEq,Nat.reduceEqDiff,Nat.reduceAdd,Nat.reduceMul,Nat.reduceLT,Nat.reduceSub,Int.reduceLT,Int.reduceLE,Int.reduceEq,Int.reduceNe,Int.reduceSub,Int.reduceAdd,Int.reduceMul,Int.reduceBEq,Int.reduceBNe,Int.reduceGT,Int.reduceGE,Nat.reduceGT,Int.reduceToNat,Int.reduceNeg,Nat.reduceLeDiff,Nat.reduceBEq,Nat.reduceBneDiff,g',hne]
def eA : Ed := ⟨1, 1, List.replicate 8 0, 1, [99], [102], [121], 1⟩
def eB : Ed := ⟨0, 1, List.replicate 8 0, 1, [99], [102], [120], 0⟩
theorem add_eA : addB [] eA = ([eA], 0) := by decide
theorem add_eB : addB [eA] eB = ([eB, eA], 0) := by decide
theorem qm1 : q9g [eB, eA] = [eB, eA] := by decide
theorem all_AB : allB [eB, eA] [99] [102] = [[120], [121]] := by unfold allB; rw [qm1]; decide
theorem con_AB : q9e [eB, eA] = [[99]] := by
  unfold q9e
  rw [qm1]
  refine q8r (q78 _).1 (by simp) fun x => ?_
  rw [(q78 _).2]
  simp [eA, eB]
theorem vec_AB : VecOf [eB, eA] [1, 1, 0, 0, 0, 0, 0, 0] := by
  refine ⟨rfl, fun d hd => ?_⟩
  match d, hd with
  | 0, _ => exact ⟨1, rfl, fun j h1 h2 => ⟨eB, by simp, rfl, by simp [eB]; omega⟩, by simp [eA, eB]⟩
  | 1, _ => exact ⟨1, rfl, fun j h1 h2 => ⟨eA, by simp, rfl, by simp [eA]; omega⟩, by simp [eA, eB]⟩
  | 2, _ => exact ⟨0, rfl, fun j h1 h2 => by omega, by simp [eA, eB]⟩
  | 3, _ => exact ⟨0, rfl, fun j h1 h2 => by omega, by simp [eA, eB]⟩
  | 4, _ => exact ⟨0, rfl, fun j h1 h2 => by omega, by simp [eA, eB]⟩
  | 5, _ => exact ⟨0, rfl, fun j h1 h2 => by omega, by simp [eA, eB]⟩
  | 6, _ => exact ⟨0, rfl, fun j h1 h2 => by omega, by simp [eA, eB]⟩
  | 7, _ => exact ⟨0, rfl, fun j h1 h2 => by omega, by simp [eA, eB]⟩
theorem qhm (E : EnvT tab) (K : BkOk E) (H : Heap) : ACallN E.toEnv qbz [] H fun r H' => H.le H' ∧ r = .bool true := by
  refine q2r q64 q36 rfl rfl (q02 ?_)
  unfold q36
  simp -implicitDefEqProofs only [zA,reduceIte,reduceCtorEq,Nat.reduceEqDiff,Nat.reduceAdd,Nat.reduceMul,Nat.reduceLT,Nat.reduceSub,Int.reduceLT,Int.reduceLE,Int.reduceEq,Int.reduceNe,Int.reduceSub,Int.reduceAdd,Int.reduceMul,Int.reduceBEq,Int.reduceBNe,Int.reduceGT,Int.reduceGE,Nat.reduceGT,Int.reduceToNat,Int.reduceNeg,Nat.reduceLeDiff,Nat.reduceBEq,Nat.reduceBneDiff]
  refine (qh9 E H).mono ?_
  rintro v H1 ⟨le1, b, r, rfl, nb, nr, B1⟩
  simp -implicitDefEqProofs only [zA,reduceIte,reduceCtorEq,Nat.reduceEqDiff,Nat.reduceAdd,Nat.reduceMul,Nat.reduceLT,Nat.reduceSub,Int.reduceLT,Int.reduceLE,Int.reduceEq,Int.reduceNe,Int.reduceSub,Int.reduceAdd,Int.reduceMul,Int.reduceBEq,Int.reduceBNe,Int.reduceGT,Int.reduceGE,Nat.reduceGT,Int.reduceToNat,Int.reduceNeg,Nat.reduceLeDiff,Nat.reduceBEq,Nat.reduceBneDiff]
  change q0c (some (edV eA)) _ _
  simp -implicitDefEqProofs only [zA,reduceIte,reduceCtorEq,Nat.reduceEqDiff,Nat.reduceAdd,Nat.reduceMul,Nat.reduceLT,Nat.reduceSub,Int.reduceLT,Int.reduceLE,Int.reduceEq,Int.reduceNe,Int.reduceSub,Int.reduceAdd,Int.reduceMul,Int.reduceBEq,Int.reduceBNe,Int.reduceGT,Int.reduceGE,Nat.reduceGT,Int.reduceToNat,Int.reduceNeg,Nat.reduceLeDiff,Nat.reduceBEq,Nat.reduceBneDiff]
  refine (q4e E B1 eA rfl (by decide) (by decide) (by decide) (by decide)).mono ?_
  rintro v H2 ⟨rfl, B2, k2⟩
  rw [add_eA] at B2 ⊢
  unfold q7d
  simp -implicitDefEqProofs only [zA,reduceIte,reduceCtorEq,Nat.reduceEqDiff,Nat.reduceAdd,Nat.reduceMul,Nat.reduceLT,Nat.reduceSub,Int.reduceLT,Int.reduceLE,Int.reduceEq,Int.reduceNe,Int.reduceSub,Int.reduceAdd,Int.reduceMul,Int.reduceBEq,Int.reduceBNe,Int.reduceGT,Int.reduceGE,Nat.reduceGT,Int.reduceToNat,Int.reduceNeg,Nat.reduceLeDiff,Nat.reduceBEq,Nat.reduceBneDiff]
  change q0c (some (edV eB)) _ _
  simp -implicitDefEqProofs only [zA,reduceIte,reduceCtorEq,Nat.reduceEqDiff,Nat.reduceAdd,Nat.reduceMul,Nat.reduceLT,Nat.reduceSub,Int.reduceLT,Int.reduceLE,Int.reduceEq,Int.reduceNe,Int.reduceSub,Int.reduceAdd,Int.reduceMul,Int.reduceBEq,Int.reduceBNe,Int.reduceGT,Int.reduceGE,Nat.reduceGT,Int.reduceToNat,Int.reduceNeg,Nat.reduceLeDiff,Nat.reduceBEq,Nat.reduceBneDiff]
  refine (q4e E B2 eB rfl (by decide) (by decide) (by decide) (by decide)).mono ?_
  rintro v H3 ⟨rfl, B3, k3⟩
  rw [add_eB] at B3 ⊢
  have le3 : H.le H3 := Keep.fresh nr le1 (k2.trans k3)
  simp -implicitDefEqProofs only [zA,reduceIte,reduceCtorEq,Nat.reduceEqDiff,Nat.reduceAdd,Nat.reduceMul,Nat.reduceLT,Nat.reduceSub,Int.reduceLT,Int.reduceLE,Int.reduceEq,Int.reduceNe,Int.reduceSub,Int.reduceAdd,Int.reduceMul,Int.reduceBEq,Int.reduceBNe,Int.reduceGT,Int.reduceGE,Nat.reduceGT,Int.reduceToNat,Int.reduceNeg,Nat.reduceLeDiff,Nat.reduceBEq,Nat.reduceBneDiff]
  refine (qeu E K B3 [99] [102]).mono ?_
  rintro v H4 ⟨le4, rfl⟩
  rw [all_AB]
  have B4 := B3.le le4
  simp -implicitDefEqProofs only [zA,reduceIte,reduceCtorEq,Nat.reduceEqDiff,Nat.reduceAdd,Nat.reduceMul,Nat.reduceLT,Nat.reduceSub,Int.reduceLT,Int.reduceLE,Int.reduceEq,Int.reduceNe,Int.reduceSub,Int.reduceAdd,Int.reduceMul,Int.reduceBEq,Int.reduceBNe,Int.reduceGT,Int.reduceGE,Nat.reduceGT,Int.reduceToNat,Int.reduceNeg,Nat.reduceLeDiff,Nat.reduceBEq,Nat.reduceBneDiff]
  unfold q7c
  simp -implicitDefEqProofs only [zA,reduceIte,reduceCtorEq,Nat.reduceEqDiff,Nat.reduceAdd,Nat.reduceMul,Nat.reduceLT,Nat.reduceSub,Int.reduceLT,Int.reduceLE,Int.reduceEq,Int.reduceNe,Int.reduceSub,Int.reduceAdd,Int.reduceMul,Int.reduceBEq,Int.reduceBNe,Int.reduceGT,Int.reduceGE,Nat.reduceGT,Int.reduceToNat,Int.reduceNeg,Nat.reduceLeDiff,Nat.reduceBEq,Nat.reduceBneDiff]
  refine (qha E K B4 [99] [102]).mono ?_
  rintro v H5 ⟨le5, ow5⟩
  rw [all_AB] at ow5
  have B5 := B4.le le5
  simp -implicitDefEqProofs only [zA,reduceIte,reduceCtorEq,Nat.reduceEqDiff,Nat.reduceAdd,Nat.reduceMul,Nat.reduceLT,Nat.reduceSub,Int.reduceLT,Int.reduceLE,Int.reduceEq,Int.reduceNe,Int.reduceSub,Int.reduceAdd,Int.reduceMul,Int.reduceBEq,Int.reduceBNe,Int.reduceGT,Int.reduceGE,Nat.reduceGT,Int.reduceToNat,Int.reduceNeg,Nat.reduceLeDiff,Nat.reduceBEq,Nat.reduceBneDiff]
  intro b6 hb6
  try simp -implicitDefEqProofs only [zA,reduceIte,reduceCtorEq,Nat.reduceEqDiff,Nat.reduceAdd,Nat.reduceMul,Nat.reduceLT,Nat.reduceSub,Int.reduceLT,Int.reduceLE,Int.reduceEq,Int.reduceNe,Int.reduceSub,Int.reduceAdd,Int.reduceMul,Int.reduceBEq,Int.reduceBNe,Int.reduceGT,Int.reduceGE,Nat.reduceGT,Int.reduceToNat,Int.reduceNeg,Nat.reduceLeDiff,Nat.reduceBEq,Nat.reduceBneDiff]
  have le6 := Heap.q0o (Heap.q09 H5) hb6 (.own 0 [strV [120], strV [121]] 2)
  refine (qhb E (L := [[120], [121]]) (M := [[120], [121]]) (Sl.le le6 ow5.sl) (Sl.lit (n := 2) rfl) (by decide) (by decide)).mono ?_
  rintro v H6 ⟨rfl, rfl⟩
  have B6 := B5.le le6
  have leY := Heap.q08 le3 (Heap.q08 le4 (Heap.q08 le5 le6))
  have ey : binV .eql (strV [121]) (.string ⟨#[121]⟩) = some (.bool true) := by
    exact qfh [121] [121]
  generalize (H5.set b6 (.own 0 [strV [120], strV [121]] 2)) = G at le6 B6 leY
  have gl : ([[120], [121]] : List Str).getLastD [] = [121] := rfl
  have gn : decide (([[120], [121]] : List Str) ≠ []) = true := by decide
  simp -implicitDefEqProofs only [zA,reduceIte,reduceCtorEq,Nat.reduceEqDiff,Nat.reduceAdd,Nat.reduceMul,Nat.reduceLT,Nat.reduceSub,Int.reduceLT,Int.reduceLE,Int.reduceEq,Int.reduceNe,Int.reduceSub,Int.reduceAdd,Int.reduceMul,Int.reduceBEq,Int.reduceBNe,Int.reduceGT,Int.reduceGE,Nat.reduceGT,Int.reduceToNat,Int.reduceNeg,Nat.reduceLeDiff,Nat.reduceBEq,Nat.reduceBneDiff,gl,gn,ey]
  refine (qba E K B6).mono ?_
  rintro v H7 ⟨le7, ow7⟩
  rw [con_AB] at ow7
  have B7 := B6.le le7
  simp -implicitDefEqProofs only [zA,reduceIte,reduceCtorEq,Nat.reduceEqDiff,Nat.reduceAdd,Nat.reduceMul,Nat.reduceLT,Nat.reduceSub,Int.reduceLT,Int.reduceLE,Int.reduceEq,Int.reduceNe,Int.reduceSub,Int.reduceAdd,Int.reduceMul,Int.reduceBEq,Int.reduceBNe,Int.reduceGT,Int.reduceGE,Nat.reduceGT,Int.reduceToNat,Int.reduceNeg,Nat.reduceLeDiff,Nat.reduceBEq,Nat.reduceBneDiff]
  intro b8 hb8
  try simp -implicitDefEqProofs only [zA,reduceIte,reduceCtorEq,Nat.reduceEqDiff,Nat.reduceAdd,Nat.reduceMul,Nat.reduceLT,Nat.reduceSub,Int.reduceLT,Int.reduceLE,Int.reduceEq,Int.reduceNe,Int.reduceSub,Int.reduceAdd,Int.reduceMul,Int.reduceBEq,Int.reduceBNe,Int.reduceGT,Int.reduceGE,Nat.reduceGT,Int.reduceToNat,Int.reduceNeg,Nat.reduceLeDiff,Nat.reduceBEq,Nat.reduceBneDiff]
  have le8 := Heap.q0o (Heap.q09 H7) hb8 (.own 0 [strV [99]] 1)
  refine (qhb E (L := [[99]]) (M := [[99]]) (Sl.le le8 ow7.sl) (Sl.lit (n := 1) rfl) (by decide) (by decide)).mono ?_
  rintro v H8 ⟨rfl, rfl⟩
  have B8 := B7.le le8
  have leZ := Heap.q08 leY (Heap.q08 le7 le8)
  generalize (H7.set b8 (.own 0 [strV [99]] 1)) = G2 at le8 B8 leZ
  simp -implicitDefEqProofs only [zA,reduceIte,reduceCtorEq,Nat.reduceEqDiff,Nat.reduceAdd,Nat.reduceMul,Nat.reduceLT,Nat.reduceSub,Int.reduceLT,Int.reduceLE,Int.reduceEq,Int.reduceNe,Int.reduceSub,Int.reduceAdd,Int.reduceMul,Int.reduceBEq,Int.reduceBNe,Int.reduceGT,Int.reduceGE,Nat.reduceGT,Int.reduceToNat,Int.reduceNeg,Nat.reduceLeDiff,Nat.reduceBEq,Nat.reduceBneDiff]
  refine (qe7 E B8).mono ?_
  rintro v H9 ⟨le9, w, hw, rfl⟩
  have ew := hw.eq vec_AB
  subst ew
  simp -implicitDefEqProofs only [zA,reduceIte,reduceCtorEq,Nat.reduceEqDiff,Nat.reduceAdd,Nat.reduceMul,Nat.reduceLT,Nat.reduceSub,Int.reduceLT,Int.reduceLE,Int.reduceEq,Int.reduceNe,Int.reduceSub,Int.reduceAdd,Int.reduceMul,Int.reduceBEq,Int.reduceBNe,Int.reduceGT,Int.reduceGE,Nat.reduceGT,Int.reduceToNat,Int.reduceNeg,Nat.reduceLeDiff,Nat.reduceBEq,Nat.reduceBneDiff]
  change q0c (some (.agg (([1, 1, 0, 0, 0, 0, 0, 0] : List Int).map (.int .i64)).toArray)) _ _
  have k1 : q05 (List.replicate 8 (some IntKind.i64)) (([1, 1, 0, 0, 0, 0, 0, 0] : List Int).map (.int .i64)) = true := rfl
  have k3 : q0b (([1, 1, 0, 0, 0, 0, 0, 0] : List Int).map (.int .i64)) (([1, 1, 0, 0, 0, 0, 0, 0] : List Int).map (.int .i64)) = true := rfl
  simp -implicitDefEqProofs only [zA,reduceIte,reduceCtorEq,Nat.reduceEqDiff,Nat.reduceAdd,Nat.reduceMul,Nat.reduceLT,Nat.reduceSub,Int.reduceLT,Int.reduceLE,Int.reduceEq,Int.reduceNe,Int.reduceSub,Int.reduceAdd,Int.reduceMul,Int.reduceBEq,Int.reduceBNe,Int.reduceGT,Int.reduceGE,Nat.reduceGT,Int.reduceToNat,Int.reduceNeg,Nat.reduceLeDiff,Nat.reduceBEq,Nat.reduceBneDiff,k1,k3]
  exact Heap.q08 leZ le9
end Go.Bb
namespace Go.Bb
set_option linter.unusedSimpArgs false
set_option linter.unusedVariables false
set_option maxRecDepth 20000
end Go.Bb
namespace Go.Bb
set_option linter.unusedSimpArgs false
set_option linter.unusedVariables false
set_option maxRecDepth 20000
set_option maxHeartbeats 2000000
end Go.Bb
namespace Go.Bb
set_option linter.unusedSimpArgs false
set_option linter.unusedVariables false
def qhg (a b : Ed) : Prop := a.dev = b.dev ∧ a.n = b.n
theorem addB_new {S : List Ed} {e : Ed} (hg : q8h e = true) (hn : ∀ s ∈ S, ¬ qhg s e) (hl : S.length < 500) : addB S e = (insR q4m e S, 0) := by
  unfold addB
  rw [if_pos hg, q8i.2 hn]
  simp only
  rw [if_neg (by omega)]
theorem addB_ok {S : List Ed} (ok : BkS S) {e : Ed} (h8 : e.seen.length = 8) : BkS (addB S e).1 := by
  unfold addB
  split
  · rename_i hg
    split
    · split <;> exact ok
    · rename_i hn
      split
      · exact ok
      · rename_i hl; exact ok.ins hg h8 hn hl
  · exact ok
theorem BkS.dots {S : List Ed} (ok : BkS S) : S.Pairwise (fun a b => ¬ qhg a b) := ok.rise.imp fun {a b} k => by unfold qhg; unfold q4m at k; omega
end Go.Bb
namespace Go.Bb
set_option linter.unusedSimpArgs false
set_option linter.unusedVariables false
set_option maxRecDepth 20000
set_option maxHeartbeats 2000000
open Go.MapKept
theorem BookAt.apart {H : Heap} {b r x : Nat} {S : List Ed} (B : BookAt H b r S) (hx : H x = none) : b ≠ x ∧ r ≠ x := by
  obtain ⟨es, c, L, g, _⟩ := B.qr
  exact ⟨fun e => (by have := B.qb; rw [e, hx] at this; cases this), fun e => (by rw [e, hx] at g; cases g)⟩
end Go.Bb
namespace Go.Bb
set_option linter.unusedSimpArgs false
set_option linter.unusedVariables false
set_option maxRecDepth 20000
set_option maxHeartbeats 2000000
open Go.MapKept
theorem qek (a b c d : Int) : q0b [Value.int .i64 a, .int .i64 b] [Value.int .i64 c, .int .i64 d] = decide (a = c ∧ b = d) := by
  simp only [q0b, qaz, Bool.and_true]
  rw [Bool.eq_iff_iff]; simp
end Go.Bb
namespace Go.Bb
set_option linter.unusedSimpArgs false
set_option linter.unusedVariables false
structure GoodP (e : Ed) : Prop where
  d0 : 0 ≤ e.dev
  d8 : e.dev < 8
  n1 : 1 ≤ e.n
  n2 : e.n ≤ 1099511627776
  seen : vecG e.seen = true
  own : e.seen[e.dev.toNat]? = some (e.n - 1)
  t0 : 0 ≤ e.time
  t1 : e.time ≤ 1099511627776
  con : qd0 e.con = true
  kind : (e.kind = 1 ∧ qd0 e.fld = true ∧ e.val.length ≤ 200) ∨ (e.kind = 2 ∧ e.fld = [] ∧ e.val = [])
theorem goodP {e : Ed} : q8h e = true ↔ GoodP e := by
  unfold q8h
  simp only [Bool.and_eq_true, Bool.or_eq_true, decide_eq_true_eq]
  constructor
  · rintro ⟨⟨⟨⟨⟨⟨⟨h1, h1'⟩, h2, h2'⟩, h3⟩, h4⟩, h5, h5'⟩, h6⟩, h7⟩
    exact ⟨h1, h1', h2, h2', h3, h4, h5, h5', h6, h7⟩
  · rintro ⟨h1, h1', h2, h2', h3, h4, h5, h5', h6, h7⟩
    exact ⟨⟨⟨⟨⟨⟨⟨h1, h1'⟩, h2, h2'⟩, h3⟩, h4⟩, h5, h5'⟩, h6⟩, h7⟩
theorem qhq {v : List Int} {k : Nat} {x : Int} (h : v[k]? = some x) : v.getD k 0 = x := by simp [List.getD, h]
theorem qhp {v : List Int} {d n : Int} : hasV v d n = true ↔ (0 ≤ d ∧ d < 8) ∧ 1 ≤ n ∧ n ≤ v.getD d.toNat 0 := by
  unfold hasV
  simp only [Bool.and_eq_true, decide_eq_true_eq]
theorem qlm {e : Ed} (h : q8h e = true) : q8j e e = false := by
  have g := goodP.1 h
  have h2 : hasV e.seen e.dev e.n = false := by
    rw [← Bool.not_eq_true, qhp, qhq g.own]
    omega
  simp [q8j, h2]
theorem qk0 {a b : Ed} : q8j a b = true ↔ b.kind = 1 ∧ hasV a.seen b.dev b.n = true ∧ a.con = b.con ∧ (a.kind = 2 ∨ (a.kind = 1 ∧ a.fld = b.fld)) := by
  unfold q8j
  simp only [Bool.and_eq_true, Bool.or_eq_true, decide_eq_true_eq]
theorem over_not {a b : Ed} (h : hasV a.seen b.dev b.n = false) : q8j a b = false := by simp [q8j, h]
theorem all_one {α : Type} {l : List α} {e : α} (hn : l.Nodup) (he : e ∈ l) (h : ∀ x ∈ l, x = e) : l = [e] := by
  match l, hn, he, h with
  | [a], _, _, h => rw [h a (by simp)]
  | a :: b :: l, hn, _, h =>
    have h1 := h a (by simp)
    have h2 := h b (by simp)
    rw [List.nodup_cons] at hn
    exact absurd (by rw [h1, h2]; simp) hn.1
theorem qje {S : List Ed} (ok : BkS S) : (q9g S).Nodup :=
  List.Pairwise.imp (fun {a b} (k : qa2 a b) (e : a = b) => q9m b (by rw [e] at k; exact k)) (qay ok)
theorem q8y {S : List Ed} {e x : Ed} : x ∈ insR q4m e S ↔ x = e ∨ x ∈ S := by
  rw [(q98 q4m e S).mem_iff, List.mem_cons]
theorem last_one {S : List Ed} (ok : BkS S) {e : Ed} (hg : q8h e = true) (h8 : e.seen.length = 8) (hl : S.length < 500) (hk : e.kind = 1)
    (hm : ∀ x ∈ S, x.con = e.con → x.fld = e.fld → x.n ≤ e.seen.getD x.dev.toNat 0) (hnew : ∀ x ∈ S, ¬ qhg x e) (hs : ∀ x ∈ S, hasV x.seen e.dev e.n = false) :
    addB S e = (insR q4m e S, 0) ∧ BkS (insR q4m e S) ∧ allB (insR q4m e S) e.con e.fld = [e.val] := by
  have h1 := addB_new hg hnew hl
  have ok2 : BkS (insR q4m e S) := by have := addB_ok ok h8 (e := e); rwa [h1] at this
  refine ⟨h1, ok2, ?_⟩
  have hmem : ∀ x, x ∈ (q9g (insR q4m e S)).filter (fun x => decide (x.con = e.con) && decide (x.fld = e.fld)) ↔ x = e := fun x => by
    rw [List.mem_filter, qfx, Bool.and_eq_true, decide_eq_true_eq, decide_eq_true_eq]
    constructor
    · rintro ⟨⟨hx, hk1, ho⟩, hc, hf⟩
      rcases q8y.1 hx with h | h
      · exact h
      · exfalso
        have hq := ho e (q8y.2 (.inl rfl))
        have g := goodP.1 (ok.good x h)
        have : q8j e x = true := qk0.2 ⟨hk1, qhp.2 ⟨⟨g.d0, g.d8⟩, g.n1, hm x h hc hf⟩, hc.symm, .inr ⟨hk, hf.symm⟩⟩
        rw [hq] at this; cases this
    · rintro rfl
      refine ⟨⟨q8y.2 (.inl rfl), hk, fun a ha => ?_⟩, rfl, rfl⟩
      rcases q8y.1 ha with h | h
      · rw [h]; exact qlm hg
      · exact over_not (hs a h)
  unfold allB
  rw [all_one ((qje ok2).filter _) ((hmem e).2 rfl) fun x hx => (hmem x).1 hx]
  rfl
end Go.Bb
namespace Go.Bb
set_option linter.unusedSimpArgs false
set_option linter.unusedVariables false
def atF (con fld : Str) (x : Ed) : Bool := decide (x.con = con) && decide (x.fld = fld)
theorem atF_iff {con fld : Str} {x : Ed} : atF con fld x = true ↔ x.con = con ∧ x.fld = fld := by simp [atF]
def qi7 (S : List Ed) (con fld : Str) : List Ed := (q9g S).filter (atF con fld)
theorem qmr (S : List Ed) (con fld : Str) : allB S con fld = (qi7 S con fld).map (·.val) := rfl
theorem qed {S : List Ed} (ok : BkS S) (con fld : Str) : (qi7 S con fld).Pairwise qa2 := (qay ok).sublist List.filter_sublist
theorem qcu {S : List Ed} {con fld : Str} {x : Ed} : x ∈ qi7 S con fld ↔ (x ∈ S ∧ x.kind = 1 ∧ ∀ a ∈ S, q8j a x = false) ∧ x.con = con ∧ x.fld = fld := by
  unfold qi7
  rw [List.mem_filter, qfx, atF_iff]
theorem qjy {S T : List Ed} (ok : BkS S) (ok2 : BkS T) {con fld : Str} (h : ∀ x, x ∈ qi7 S con fld → x ∈ qi7 T con fld) : (qi7 S con fld).Sublist (qi7 T con fld) :=
  qbd q9m (fun x y z => @qaf x y z) (qed ok2 con fld) (qed ok con fld) h
theorem qkd {S : List Ed} (ok : BkS S) {e : Ed} (okT : BkS (insR q4m e S)) (hk : e.kind = 1) {con fld : Str} (h : e.fld ≠ fld) :
    allB (insR q4m e S) con fld = allB S con fld := by
  rw [qmr, qmr]
  have h1 := qjy (con := con) (fld := fld) okT ok fun x hx => by
    obtain ⟨⟨h1, h2, h3⟩, h4, h5⟩ := qcu.1 hx
    rcases q8y.1 h1 with k | k
    · subst k; exact absurd h5 h
    · exact qcu.2 ⟨⟨k, h2, fun a ha => h3 a (q8y.2 (.inr ha))⟩, h4, h5⟩
  have h2 := qjy (con := con) (fld := fld) ok okT fun x hx => by
    obtain ⟨⟨h1, h2, h3⟩, h4, h5⟩ := qcu.1 hx
    refine qcu.2 ⟨⟨q8y.2 (.inr h1), h2, fun a ha => ?_⟩, h4, h5⟩
    rcases q8y.1 ha with k | k
    · subst k
      rw [← Bool.not_eq_true, qk0]
      rintro ⟨-, -, -, q | q⟩
      · omega
      · exact h (q.2.trans h5)
    · exact h3 a k
  rw [h1.eq_of_length (Nat.le_antisymm h1.length_le h2.length_le)]
end Go.Bb
namespace Go.Bb
set_option linter.unusedSimpArgs false
set_option linter.unusedVariables false
def vecI (d i : Nat) : List Int := (List.replicate 8 (0 : Int)).set d i
theorem vecI_len (d i : Nat) : (vecI d i).length = 8 := by simp [vecI]
theorem qjx {d : Nat} (i : Nat) (hd : d < 8) : (vecI d i)[d]? = some (i : Int) := by simp [vecI, hd]
theorem vecI_mem {d i : Nat} {x : Int} (h : x ∈ vecI d i) : x = 0 ∨ x = i := by
  unfold vecI at h
  rcases List.mem_or_eq_of_mem_set h with h | h
  · exact .inl (List.mem_replicate.1 h).2
  · exact .inr h
def qep (f : Nat) : Str := [97 + UInt8.ofNat f]
theorem qks {f g : Nat} (hf : f < 4) (hg : g < 4) (h : qep f = qep g) : f = g := by
  have : ∀ f g : Fin 4, qep f = qep g → f = g := by decide
  have := this ⟨f, hf⟩ ⟨g, hg⟩ h
  simpa using this
theorem qjh {f : Nat} (hf : f < 4) : qd0 (qep f) = true := by
  have : ∀ f : Fin 4, qd0 (qep f) = true := by decide
  exact this ⟨f, hf⟩
def edN (d i f : Nat) (val : Str) : Ed := ⟨d, i + 1, vecI d i, 1, [99], qep f, val, i⟩
structure NxS (d i : Nat) (S : List Ed) (last : List Str) (had : List Bool) : Prop where
  ok : BkS S
  len : S.length = i
  dev : ∀ x ∈ S, x.dev = d ∧ x.n ≤ i
  has : Has1 S d i
  l4 : last.length = 4
  h4 : had.length = 4
  all : ∀ f : Nat, f < 4 → allB S [99] (qep f) = if had.getD f false then [last.getD f []] else []
theorem NxS.nil (d : Nat) : NxS d 0 [] (List.replicate 4 []) (List.replicate 4 false) :=
  ⟨BkS.nil, rfl, by simp, fun j h1 h2 => by omega, rfl, rfl, fun f hf => by
    have : (List.replicate 4 false).getD f false = false := by
      unfold List.getD
      rw [List.getElem?_replicate, if_pos hf]; rfl
    rw [this]; rfl⟩
theorem edN_good {d i f : Nat} {val : Str} (hd : d < 8) (hi : i < 1000) (hf : f < 4) (hv : val.length ≤ 200) : q8h (edN d i f val) = true := by
  refine goodP.2 ⟨by simp [edN], by simp [edN]; omega, by simp [edN]; omega, by simp [edN]; omega, ?_, ?_, by simp [edN], by simp [edN]; omega, by show qd0 [99] = true; decide, .inl ⟨rfl, qjh hf, hv⟩⟩
  · unfold vecG
    rw [List.all_eq_true]
    intro x hx
    rw [decide_eq_true_iff]
    rcases vecI_mem hx with h | h <;> omega
  · simp only [edN, Int.toNat_natCast]
    rw [qjx i hd]
    congr 1
    omega
theorem NxS.step {d i f : Nat} {S : List Ed} {last : List Str} {had : List Bool} (s : NxS d i S last had) (hd : d < 8) (hi : i < 400) (hf : f < 4) {val : Str} (hv : val.length ≤ 200) :
    addB S (edN d i f val) = (insR q4m (edN d i f val) S, 0) ∧ NxS d (i + 1) (insR q4m (edN d i f val) S) (last.set f val) (had.set f true) := by
  have hg := edN_good hd (by omega : i < 1000) hf hv
  have hlast := last_one s.ok hg (vecI_len d i) (by rw [s.len]; omega) rfl (fun x hx _ _ => by
      have h1 := s.dev x hx
      show x.n ≤ (vecI d i).getD x.dev.toNat 0
      rw [h1.1, Int.toNat_natCast, qhq (qjx i hd)]
      exact h1.2)
    (fun x hx h => by
      have h1 := s.dev x hx
      have := h.2
      simp only [edN] at this
      omega)
    (fun x hx => by
      have h1 := s.dev x hx
      have g := goodP.1 (s.ok.good x hx)
      have ho := g.own
      rw [h1.1] at ho
      rw [← Bool.not_eq_true, qhp]
      show ¬ (_ ∧ _ ∧ ((i : Int) + 1) ≤ x.seen.getD ((d : Int).toNat) 0)
      rw [qhq ho]
      omega)
  obtain ⟨h1, h2, h3⟩ := hlast
  refine ⟨h1, h2, by rw [(q98 q4m _ S).length_eq, List.length_cons, s.len], fun x hx => ?_, fun j h4 h5 => ?_, by rw [List.length_set]; exact s.l4, by rw [List.length_set]; exact s.h4, fun g hg4 => ?_⟩
  · rcases q8y.1 hx with h | h
    · rw [h]; simp [edN]
    · have := s.dev x h
      refine ⟨this.1, by omega⟩
  · by_cases e : j = i + 1
    · exact ⟨_, q8y.2 (.inl rfl), rfl, by rw [e]; simp [edN]⟩
    · obtain ⟨x, hx, hq⟩ := s.has j h4 (by omega)
      exact ⟨x, q8y.2 (.inr hx), hq⟩
  · by_cases e : g = f
    · subst e
      have e1 : (had.set g true).getD g false = true := by simp [List.getD, s.h4, hg4]
      have e2 : (last.set g val).getD g [] = val := by simp [List.getD, s.l4, hg4]
      rw [e1, e2]
      exact h3
    · have e1 : (had.set f true).getD g false = had.getD g false := by simp [List.getD, List.getElem?_set, Ne.symm e]
      have e2 : (last.set f val).getD g [] = last.getD g [] := by simp [List.getD, List.getElem?_set, Ne.symm e]
      rw [e1, e2, ← s.all g hg4]
      exact qkd s.ok h2 rfl (fun h => e (qks hg4 hf h.symm))
end Go.Bb
namespace Go.Bb
set_option linter.unusedSimpArgs false
set_option linter.unusedVariables false
set_option maxRecDepth 20000
set_option maxHeartbeats 2000000
open Go.MapKept
theorem qk5 (G : Heap) {p q : Nat} (hp : G p = none) (hq : (G.set p (.own 0 [Value.int .i64 0, .int .i64 0] 2)) q = none) (d n : Int) (v : List Int) (h8 : v.length = 8) :
    q57 ((G.set p (.own 0 [Value.int .i64 0, .int .i64 0] 2)).set q (.own 0 (List.replicate 8 (Value.int .i64 0)) 8)) 2 (.pointer (some ⟨p, 0, none⟩)) (dotK d n) = some ((G.set p (.own 0 [Value.int .i64 d, .int .i64 n] 2)).set q (.own 0 (List.replicate 8 (Value.int .i64 0)) 8)) ∧
    q57 ((G.set p (.own 0 [Value.int .i64 d, .int .i64 n] 2)).set q (.own 0 (List.replicate 8 (Value.int .i64 0)) 8)) 8 (.pointer (some ⟨q, 0, none⟩)) (.agg (v.map (.int .i64)).toArray) = some ((G.set p (.own 0 [Value.int .i64 d, .int .i64 n] 2)).set q (.own 0 (v.map (.int .i64)) 8)) ∧
    G.le ((G.set p (.own 0 [Value.int .i64 d, .int .i64 n] 2)).set q (.own 0 (v.map (.int .i64)) 8)) ∧
    ((G.set p (.own 0 [Value.int .i64 d, .int .i64 n] 2)).set q (.own 0 (v.map (.int .i64)) 8)) p = some (.own 0 [Value.int .i64 d, .int .i64 n] 2) ∧
    ((G.set p (.own 0 [Value.int .i64 d, .int .i64 n] 2)).set q (.own 0 (v.map (.int .i64)) 8)) q = some (.own 0 (v.map (.int .i64)) 8) ∧ G q = none := by
  have ne : p ≠ q := by intro e; subst e; rw [Heap.q03] at hq; cases hq
  have hq' : G q = none := by rw [Heap.q1a ne.symm] at hq; exact hq
  refine ⟨?_, z6z (by decide) (by simp [h8]) (by simp [Bb.one]) (by simp) (by decide), Heap.q0o (Heap.q0o (Heap.q09 _) hp _) hq' _, by rw [Heap.q1a ne, Heap.q03], Heap.q03 _ _ _, hq'⟩
  unfold dotK
  have := q5e (h := (G.set p (.own 0 [Value.int .i64 0, .int .i64 0] 2)).set q (.own 0 (List.replicate 8 (Value.int .i64 0)) 8)) (b := p) (vs := [Value.int .i64 0, .int .i64 0]) (sz := 2) (us := [Value.int .i64 d, .int .i64 n]) (size := 2) (by rw [Heap.q1a ne, Heap.q03]) (by decide) rfl rfl rfl (by decide)
  rw [this]
  congr 1
  funext c
  by_cases h1 : c = p
  · subst h1; rw [Heap.q03, Heap.q1a ne, Heap.q03]
  · rw [Heap.q1a h1]
    by_cases h2 : c = q
    · subst h2; rw [Heap.q03, Heap.q03]
    · rw [Heap.q1a h2, Heap.q1a h2, Heap.q1a h1, Heap.q1a h1]
theorem len8 {α : Type} {l : List α} (h : l.length = 8) : ∃ a b c d e f g i, l = [a, b, c, d, e, f, g, i] := by
  match l, h with
  | [a, b, c, d, e, f, g, i], _ => exact ⟨a, b, c, d, e, f, g, i, rfl⟩
end Go.Bb
namespace Go.Bb
set_option linter.unusedSimpArgs false
set_option linter.unusedVariables false
set_option maxRecDepth 20000
set_option maxHeartbeats 2000000
open Go.MapKept
def eZ : Ed := ⟨0, 1, List.replicate 8 0, 1, [99], [102], [122], 0⟩
def eN : Ed := ⟨0, 0, List.replicate 8 0, 0, [], [], [], 0⟩
def eD : Ed := ⟨0, 3, [2, 0, 0, 0, 0, 0, 0, 0], 1, [100], [103], [], 0⟩
def eR : Ed := ⟨2, 1, [1, 0, 0, 0, 0, 0, 0, 0], 2, [99], [], [], 0⟩
def eW : Ed := ⟨0, 2, [1, 0, 0, 0, 0, 0, 0, 0], 1, [99], [102], [110, 101, 119], 0⟩
theorem kn1 : addB [] eB = ([eB], 0) := by decide
theorem kn2 : addB [eB] eZ = ([eB], 10) := by decide
theorem kn3 : addB [eB] eB = ([eB], 0) := by decide
theorem kn4 : addB [eB] eN = ([eB], 1) := by decide
theorem kn5 : addB [eB] eD = ([eB, eD], 0) := by decide
theorem kn6 : addB [eB, eD] eR = ([eB, eD, eR], 0) := by decide
theorem kn7 : addB [eB, eD, eR] eW = ([eB, eW, eD, eR], 0) := by decide
theorem kn8 : q3i [eB, eD, eR] [eB, eW, eD, eR] = ([eB, eW, eD, eR], 0) := by decide
theorem knA : q9g [eB, eD, eR] = [eD] := by decide
theorem knB : allB [eB, eD, eR] [99] [102] = [] := by unfold allB; rw [knA]; decide
theorem knC : q9g [eB, eW, eD, eR] = [eW, eD] := by decide
theorem knD : q9e [eB, eW, eD, eR] = [[99], [100]] := by
  unfold q9e
  rw [knC]
  refine q8r (q78 _).1 (by decide) fun x => ?_
  rw [(q78 _).2]
  simp [eW, eD]
theorem knE : qco [eB, eW, eD, eR] [100] = [[103]] := by
  unfold qco
  rw [knC]
  refine q8r (q78 _).1 (by simp) fun x => ?_
  rw [(q78 _).2]
  simp [eW, eD]
theorem knF : qco [eB, eW, eD, eR] [113] = [] := by
  unfold qco
  rw [knC]
  refine q8r (q78 _).1 (by simp) fun x => ?_
  rw [(q78 _).2]
  simp [eW, eD]
theorem cnt0 {S : List Ed} {d : Int} (h : ∀ e ∈ S, ¬ (e.dev = d ∧ e.n = 1)) : CntB S d 0 := ⟨fun j h1 h2 => by omega, h⟩
theorem knG : VecOf [eB, eD] [1, 0, 0, 0, 0, 0, 0, 0] := by
  refine ⟨rfl, fun d hd => ?_⟩
  match d, hd with
  | 0, _ => exact ⟨1, rfl, fun j h1 h2 => ⟨eB, by simp, rfl, by simp [eB]; omega⟩, by simp [eB, eD]⟩
  | 1, _ => exact ⟨0, rfl, cnt0 (by simp [eB, eD])⟩
  | 2, _ => exact ⟨0, rfl, cnt0 (by simp [eB, eD])⟩
  | 3, _ => exact ⟨0, rfl, cnt0 (by simp [eB, eD])⟩
  | 4, _ => exact ⟨0, rfl, cnt0 (by simp [eB, eD])⟩
  | 5, _ => exact ⟨0, rfl, cnt0 (by simp [eB, eD])⟩
  | 6, _ => exact ⟨0, rfl, cnt0 (by simp [eB, eD])⟩
  | 7, _ => exact ⟨0, rfl, cnt0 (by simp [eB, eD])⟩
theorem knH : VecOf [eB, eW, eD, eR] [3, 0, 1, 0, 0, 0, 0, 0] := by
  refine ⟨rfl, fun d hd => ?_⟩
  match d, hd with
  | 0, _ => 
    refine ⟨3, rfl, fun j h1 h2 => ?_, by simp [eB, eW, eD, eR]⟩
    match j, h1, h2 with
    | 1, _, _ => exact ⟨eB, by simp, rfl, rfl⟩
    | 2, _, _ => exact ⟨eW, by simp, rfl, rfl⟩
    | 3, _, _ => exact ⟨eD, by simp, rfl, rfl⟩
  | 1, _ => exact ⟨0, rfl, cnt0 (by simp [eB, eW, eD, eR])⟩
  | 2, _ => exact ⟨1, rfl, fun j h1 h2 => ⟨eR, by simp, rfl, by simp [eR]; omega⟩, by simp [eB, eW, eD, eR]⟩
  | 3, _ => exact ⟨0, rfl, cnt0 (by simp [eB, eW, eD, eR])⟩
  | 4, _ => exact ⟨0, rfl, cnt0 (by simp [eB, eW, eD, eR])⟩
  | 5, _ => exact ⟨0, rfl, cnt0 (by simp [eB, eW, eD, eR])⟩
  | 6, _ => exact ⟨0, rfl, cnt0 (by simp [eB, eW, eD, eR])⟩
  | 7, _ => exact ⟨0, rfl, cnt0 (by simp [eB, eW, eD, eR])⟩
theorem qa8 (E : EnvT tab) (K : BkOk E) (W : World) :
    ACallN E.toEnv q9z [] (qfm W) fun v _ => v = .bool true := by
  generalize qfm W = H
  refine q2r q3x q1l rfl rfl (q02 ?_)
  unfold q1l
  simp -implicitDefEqProofs only [zA,reduceIte,reduceCtorEq,Nat.reduceEqDiff,Nat.reduceAdd,Nat.reduceMul,Nat.reduceLT,Nat.reduceSub,Int.reduceLT,Int.reduceLE,Int.reduceEq,Int.reduceNe,Int.reduceSub,Int.reduceAdd,Int.reduceMul,Int.reduceBEq,Int.reduceBNe,Int.reduceGT,Int.reduceGE,Nat.reduceGT,Int.reduceToNat,Int.reduceNeg,Nat.reduceLeDiff,Nat.reduceBEq,Nat.reduceBneDiff]
  refine (qhm E K H).mono ?_
  rintro v H0 ⟨le0, rfl⟩
  simp -implicitDefEqProofs only [zA,reduceIte,reduceCtorEq,Nat.reduceEqDiff,Nat.reduceAdd,Nat.reduceMul,Nat.reduceLT,Nat.reduceSub,Int.reduceLT,Int.reduceLE,Int.reduceEq,Int.reduceNe,Int.reduceSub,Int.reduceAdd,Int.reduceMul,Int.reduceBEq,Int.reduceBNe,Int.reduceGT,Int.reduceGE,Nat.reduceGT,Int.reduceToNat,Int.reduceNeg,Nat.reduceLeDiff,Nat.reduceBEq,Nat.reduceBneDiff]
  refine (qh9 E H0).mono ?_
  rintro v H1 ⟨le1, b, r, rfl, nb, nr, B1⟩
  simp -implicitDefEqProofs only [zA,reduceIte,reduceCtorEq,Nat.reduceEqDiff,Nat.reduceAdd,Nat.reduceMul,Nat.reduceLT,Nat.reduceSub,Int.reduceLT,Int.reduceLE,Int.reduceEq,Int.reduceNe,Int.reduceSub,Int.reduceAdd,Int.reduceMul,Int.reduceBEq,Int.reduceBNe,Int.reduceGT,Int.reduceGE,Nat.reduceGT,Int.reduceToNat,Int.reduceNeg,Nat.reduceLeDiff,Nat.reduceBEq,Nat.reduceBneDiff]
  change q0c (some (edV eB)) _ _
  simp -implicitDefEqProofs only [zA,reduceIte,reduceCtorEq,Nat.reduceEqDiff,Nat.reduceAdd,Nat.reduceMul,Nat.reduceLT,Nat.reduceSub,Int.reduceLT,Int.reduceLE,Int.reduceEq,Int.reduceNe,Int.reduceSub,Int.reduceAdd,Int.reduceMul,Int.reduceBEq,Int.reduceBNe,Int.reduceGT,Int.reduceGE,Nat.reduceGT,Int.reduceToNat,Int.reduceNeg,Nat.reduceLeDiff,Nat.reduceBEq,Nat.reduceBneDiff]
  refine (q4e E B1 eB rfl (by decide) (by decide) (by decide) (by decide)).mono ?_
  rintro v H2 ⟨rfl, B2, k2⟩
  rw [kn1] at B2 ⊢
  unfold q4z
  simp -implicitDefEqProofs only [zA,reduceIte,reduceCtorEq,Nat.reduceEqDiff,Nat.reduceAdd,Nat.reduceMul,Nat.reduceLT,Nat.reduceSub,Int.reduceLT,Int.reduceLE,Int.reduceEq,Int.reduceNe,Int.reduceSub,Int.reduceAdd,Int.reduceMul,Int.reduceBEq,Int.reduceBNe,Int.reduceGT,Int.reduceGE,Nat.reduceGT,Int.reduceToNat,Int.reduceNeg,Nat.reduceLeDiff,Nat.reduceBEq,Nat.reduceBneDiff]
  change q0c (some (edV eZ)) _ _
  simp -implicitDefEqProofs only [zA,reduceIte,reduceCtorEq,Nat.reduceEqDiff,Nat.reduceAdd,Nat.reduceMul,Nat.reduceLT,Nat.reduceSub,Int.reduceLT,Int.reduceLE,Int.reduceEq,Int.reduceNe,Int.reduceSub,Int.reduceAdd,Int.reduceMul,Int.reduceBEq,Int.reduceBNe,Int.reduceGT,Int.reduceGE,Nat.reduceGT,Int.reduceToNat,Int.reduceNeg,Nat.reduceLeDiff,Nat.reduceBEq,Nat.reduceBneDiff]
  refine (q4e E B2 eZ rfl (by decide) (by decide) (by decide) (by decide)).mono ?_
  rintro v H3 ⟨rfl, B3, k3⟩
  rw [kn2] at B3 ⊢
  simp -implicitDefEqProofs only [zA,reduceIte,reduceCtorEq,Nat.reduceEqDiff,Nat.reduceAdd,Nat.reduceMul,Nat.reduceLT,Nat.reduceSub,Int.reduceLT,Int.reduceLE,Int.reduceEq,Int.reduceNe,Int.reduceSub,Int.reduceAdd,Int.reduceMul,Int.reduceBEq,Int.reduceBNe,Int.reduceGT,Int.reduceGE,Nat.reduceGT,Int.reduceToNat,Int.reduceNeg,Nat.reduceLeDiff,Nat.reduceBEq,Nat.reduceBneDiff]
  change q0c (some (edV eB)) _ _
  simp -implicitDefEqProofs only [zA,reduceIte,reduceCtorEq,Nat.reduceEqDiff,Nat.reduceAdd,Nat.reduceMul,Nat.reduceLT,Nat.reduceSub,Int.reduceLT,Int.reduceLE,Int.reduceEq,Int.reduceNe,Int.reduceSub,Int.reduceAdd,Int.reduceMul,Int.reduceBEq,Int.reduceBNe,Int.reduceGT,Int.reduceGE,Nat.reduceGT,Int.reduceToNat,Int.reduceNeg,Nat.reduceLeDiff,Nat.reduceBEq,Nat.reduceBneDiff]
  refine (q4e E B3 eB rfl (by decide) (by decide) (by decide) (by decide)).mono ?_
  rintro v H4 ⟨rfl, B4, k4⟩
  rw [kn3] at B4 ⊢
  unfold q4y
  simp -implicitDefEqProofs only [zA,reduceIte,reduceCtorEq,Nat.reduceEqDiff,Nat.reduceAdd,Nat.reduceMul,Nat.reduceLT,Nat.reduceSub,Int.reduceLT,Int.reduceLE,Int.reduceEq,Int.reduceNe,Int.reduceSub,Int.reduceAdd,Int.reduceMul,Int.reduceBEq,Int.reduceBNe,Int.reduceGT,Int.reduceGE,Nat.reduceGT,Int.reduceToNat,Int.reduceNeg,Nat.reduceLeDiff,Nat.reduceBEq,Nat.reduceBneDiff]
  refine (q4e E B4 eN rfl (by decide) (by decide) (by decide) (by decide)).mono ?_
  rintro v H5 ⟨rfl, B5, k5⟩
  rw [kn4] at B5 ⊢
  simp -implicitDefEqProofs only [zA,reduceIte,reduceCtorEq,Nat.reduceEqDiff,Nat.reduceAdd,Nat.reduceMul,Nat.reduceLT,Nat.reduceSub,Int.reduceLT,Int.reduceLE,Int.reduceEq,Int.reduceNe,Int.reduceSub,Int.reduceAdd,Int.reduceMul,Int.reduceBEq,Int.reduceBNe,Int.reduceGT,Int.reduceGE,Nat.reduceGT,Int.reduceToNat,Int.reduceNeg,Nat.reduceLeDiff,Nat.reduceBEq,Nat.reduceBneDiff]
  change q0c (some (.agg (([2, 0, 0, 0, 0, 0, 0, 0] : List Int).map (.int .i64)).toArray)) _ _
  simp -implicitDefEqProofs only [zA,reduceIte,reduceCtorEq,Nat.reduceEqDiff,Nat.reduceAdd,Nat.reduceMul,Nat.reduceLT,Nat.reduceSub,Int.reduceLT,Int.reduceLE,Int.reduceEq,Int.reduceNe,Int.reduceSub,Int.reduceAdd,Int.reduceMul,Int.reduceBEq,Int.reduceBNe,Int.reduceGT,Int.reduceGE,Nat.reduceGT,Int.reduceToNat,Int.reduceNeg,Nat.reduceLeDiff,Nat.reduceBEq,Nat.reduceBneDiff]
  change q0c (some (edV eD)) _ _
  simp -implicitDefEqProofs only [zA,reduceIte,reduceCtorEq,Nat.reduceEqDiff,Nat.reduceAdd,Nat.reduceMul,Nat.reduceLT,Nat.reduceSub,Int.reduceLT,Int.reduceLE,Int.reduceEq,Int.reduceNe,Int.reduceSub,Int.reduceAdd,Int.reduceMul,Int.reduceBEq,Int.reduceBNe,Int.reduceGT,Int.reduceGE,Nat.reduceGT,Int.reduceToNat,Int.reduceNeg,Nat.reduceLeDiff,Nat.reduceBEq,Nat.reduceBneDiff]
  refine (q4e E B5 eD rfl (by decide) (by decide) (by decide) (by decide)).mono ?_
  rintro v H6 ⟨rfl, B6, k6⟩
  rw [kn5] at B6 ⊢
  unfold q4x
  simp -implicitDefEqProofs only [zA,reduceIte,reduceCtorEq,Nat.reduceEqDiff,Nat.reduceAdd,Nat.reduceMul,Nat.reduceLT,Nat.reduceSub,Int.reduceLT,Int.reduceLE,Int.reduceEq,Int.reduceNe,Int.reduceSub,Int.reduceAdd,Int.reduceMul,Int.reduceBEq,Int.reduceBNe,Int.reduceGT,Int.reduceGE,Nat.reduceGT,Int.reduceToNat,Int.reduceNeg,Nat.reduceLeDiff,Nat.reduceBEq,Nat.reduceBneDiff]
  refine (qgg E B6 0).mono ?_
  rintro v H7 ⟨le7, hx, -⟩
  obtain ⟨v7, k7, hv7, hk7, rfl⟩ := hx (by decide)
  have e7 := hv7.eq knG
  subst e7
  simp only [Int.toNat_zero, List.getElem?_cons_zero, Option.some.injEq] at hk7
  subst hk7
  simp -implicitDefEqProofs only [zA,reduceIte,reduceCtorEq,Nat.reduceEqDiff,Nat.reduceAdd,Nat.reduceMul,Nat.reduceLT,Nat.reduceSub,Int.reduceLT,Int.reduceLE,Int.reduceEq,Int.reduceNe,Int.reduceSub,Int.reduceAdd,Int.reduceMul,Int.reduceBEq,Int.reduceBNe,Int.reduceGT,Int.reduceGE,Nat.reduceGT,Int.reduceToNat,Int.reduceNeg,Nat.reduceLeDiff,Nat.reduceBEq,Nat.reduceBneDiff]
  intro p hp
  try simp -implicitDefEqProofs only [zA,reduceIte,reduceCtorEq,Nat.reduceEqDiff,Nat.reduceAdd,Nat.reduceMul,Nat.reduceLT,Nat.reduceSub,Int.reduceLT,Int.reduceLE,Int.reduceEq,Int.reduceNe,Int.reduceSub,Int.reduceAdd,Int.reduceMul,Int.reduceBEq,Int.reduceBNe,Int.reduceGT,Int.reduceGE,Nat.reduceGT,Int.reduceToNat,Int.reduceNeg,Nat.reduceLeDiff,Nat.reduceBEq,Nat.reduceBneDiff]
  intro q hq
  try simp -implicitDefEqProofs only [zA,reduceIte,reduceCtorEq,Nat.reduceEqDiff,Nat.reduceAdd,Nat.reduceMul,Nat.reduceLT,Nat.reduceSub,Int.reduceLT,Int.reduceLE,Int.reduceEq,Int.reduceNe,Int.reduceSub,Int.reduceAdd,Int.reduceMul,Int.reduceBEq,Int.reduceBNe,Int.reduceGT,Int.reduceGE,Nat.reduceGT,Int.reduceToNat,Int.reduceNeg,Nat.reduceLeDiff,Nat.reduceBEq,Nat.reduceBneDiff,List.length_replicate]
  obtain ⟨s1, s2, le8, qp, qq, hq'⟩ := qk5 H7 hp hq 0 2 [1, 0, 0, 0, 0, 0, 0, 0] rfl
  have B8 := (B6.le le7).le le8
  try simp -implicitDefEqProofs only [zA,reduceIte,reduceCtorEq,Nat.reduceEqDiff,Nat.reduceAdd,Nat.reduceMul,Nat.reduceLT,Nat.reduceSub,Int.reduceLT,Int.reduceLE,Int.reduceEq,Int.reduceNe,Int.reduceSub,Int.reduceAdd,Int.reduceMul,Int.reduceBEq,Int.reduceBNe,Int.reduceGT,Int.reduceGE,Nat.reduceGT,Int.reduceToNat,Int.reduceNeg,Nat.reduceLeDiff,Nat.reduceBEq,Nat.reduceBneDiff,s1,s2]
  generalize ((H7.set p (.own 0 [Value.int .i64 0, .int .i64 2] 2)).set q (.own 0 (([1, 0, 0, 0, 0, 0, 0, 0] : List Int).map (.int .i64)) 8)) = H8 at le8 qp qq B8 ⊢
  change q0c (some (.agg (([1, 0, 0, 0, 0, 0, 0, 0] : List Int).map (.int .i64)).toArray)) _ _
  simp -implicitDefEqProofs only [zA,reduceIte,reduceCtorEq,Nat.reduceEqDiff,Nat.reduceAdd,Nat.reduceMul,Nat.reduceLT,Nat.reduceSub,Int.reduceLT,Int.reduceLE,Int.reduceEq,Int.reduceNe,Int.reduceSub,Int.reduceAdd,Int.reduceMul,Int.reduceBEq,Int.reduceBNe,Int.reduceGT,Int.reduceGE,Nat.reduceGT,Int.reduceToNat,Int.reduceNeg,Nat.reduceLeDiff,Nat.reduceBEq,Nat.reduceBneDiff]
  change q0c (some (edV eR)) _ _
  simp -implicitDefEqProofs only [zA,reduceIte,reduceCtorEq,Nat.reduceEqDiff,Nat.reduceAdd,Nat.reduceMul,Nat.reduceLT,Nat.reduceSub,Int.reduceLT,Int.reduceLE,Int.reduceEq,Int.reduceNe,Int.reduceSub,Int.reduceAdd,Int.reduceMul,Int.reduceBEq,Int.reduceBNe,Int.reduceGT,Int.reduceGE,Nat.reduceGT,Int.reduceToNat,Int.reduceNeg,Nat.reduceLeDiff,Nat.reduceBEq,Nat.reduceBneDiff]
  refine (q4e E B8 eR rfl (by decide) (by decide) (by decide) (by decide)).mono ?_
  rintro v H9 ⟨rfl, B9, k9⟩
  rw [kn6] at B9 ⊢
  have pr : p ≠ r := fun e => (B6.le le7).apart hp |>.2 e.symm
  have qr : q ≠ r := fun e => (B6.le le7).apart hq' |>.2 e.symm
  have qp9 := k9 _ _ qp pr
  have qq9 := k9 _ _ qq qr
  unfold q4w
  simp -implicitDefEqProofs only [zA,reduceIte,reduceCtorEq,Nat.reduceEqDiff,Nat.reduceAdd,Nat.reduceMul,Nat.reduceLT,Nat.reduceSub,Int.reduceLT,Int.reduceLE,Int.reduceEq,Int.reduceNe,Int.reduceSub,Int.reduceAdd,Int.reduceMul,Int.reduceBEq,Int.reduceBNe,Int.reduceGT,Int.reduceGE,Nat.reduceGT,Int.reduceToNat,Int.reduceNeg,Nat.reduceLeDiff,Nat.reduceBEq,Nat.reduceBneDiff]
  refine (qeu E K B9 [99] [102]).mono ?_
  rintro v H10 ⟨le10, rfl⟩
  rw [knB]
  have B10 := B9.le le10
  simp -implicitDefEqProofs only [zA,reduceIte,reduceCtorEq,Nat.reduceEqDiff,Nat.reduceAdd,Nat.reduceMul,Nat.reduceLT,Nat.reduceSub,Int.reduceLT,Int.reduceLE,Int.reduceEq,Int.reduceNe,Int.reduceSub,Int.reduceAdd,Int.reduceMul,Int.reduceBEq,Int.reduceBNe,Int.reduceGT,Int.reduceGE,Nat.reduceGT,Int.reduceToNat,Int.reduceNeg,Nat.reduceLeDiff,Nat.reduceBEq,Nat.reduceBneDiff]
  refine (qgh E K B10).mono ?_
  rintro v H11 ⟨le11, bx, rx, rfl, nbx, nrx, X11⟩
  have B11 := B10.le le11
  simp -implicitDefEqProofs only [zA,reduceIte,reduceCtorEq,Nat.reduceEqDiff,Nat.reduceAdd,Nat.reduceMul,Nat.reduceLT,Nat.reduceSub,Int.reduceLT,Int.reduceLE,Int.reduceEq,Int.reduceNe,Int.reduceSub,Int.reduceAdd,Int.reduceMul,Int.reduceBEq,Int.reduceBNe,Int.reduceGT,Int.reduceGE,Nat.reduceGT,Int.reduceToNat,Int.reduceNeg,Nat.reduceLeDiff,Nat.reduceBEq,Nat.reduceBneDiff]
  change q0c (some (.agg (([1, 0, 0, 0, 0, 0, 0, 0] : List Int).map (.int .i64)).toArray)) _ _
  simp -implicitDefEqProofs only [zA,reduceIte,reduceCtorEq,Nat.reduceEqDiff,Nat.reduceAdd,Nat.reduceMul,Nat.reduceLT,Nat.reduceSub,Int.reduceLT,Int.reduceLE,Int.reduceEq,Int.reduceNe,Int.reduceSub,Int.reduceAdd,Int.reduceMul,Int.reduceBEq,Int.reduceBNe,Int.reduceGT,Int.reduceGE,Nat.reduceGT,Int.reduceToNat,Int.reduceNeg,Nat.reduceLeDiff,Nat.reduceBEq,Nat.reduceBneDiff]
  change q0c (some (edV eW)) _ _
  simp -implicitDefEqProofs only [zA,reduceIte,reduceCtorEq,Nat.reduceEqDiff,Nat.reduceAdd,Nat.reduceMul,Nat.reduceLT,Nat.reduceSub,Int.reduceLT,Int.reduceLE,Int.reduceEq,Int.reduceNe,Int.reduceSub,Int.reduceAdd,Int.reduceMul,Int.reduceBEq,Int.reduceBNe,Int.reduceGT,Int.reduceGE,Nat.reduceGT,Int.reduceToNat,Int.reduceNeg,Nat.reduceLeDiff,Nat.reduceBEq,Nat.reduceBneDiff]
  refine (q4e E X11 eW rfl (by decide) (by decide) (by decide) (by decide)).mono ?_
  rintro v H12 ⟨rfl, X12, k12⟩
  rw [kn7] at X12 ⊢
  have B12 := B11.keep k12 (B10.apart nrx).1 (B10.apart nrx).2
  have qp12 := k12 _ _ (le11 _ _ (le10 _ _ qp9)) (fun e => by have := le10 _ _ qp9; rw [e, nrx] at this; cases this)
  have qq12 := k12 _ _ (le11 _ _ (le10 _ _ qq9)) (fun e => by have := le10 _ _ qq9; rw [e, nrx] at this; cases this)
  unfold q4v
  simp -implicitDefEqProofs only [zA,reduceIte,reduceCtorEq,Nat.reduceEqDiff,Nat.reduceAdd,Nat.reduceMul,Nat.reduceLT,Nat.reduceSub,Int.reduceLT,Int.reduceLE,Int.reduceEq,Int.reduceNe,Int.reduceSub,Int.reduceAdd,Int.reduceMul,Int.reduceBEq,Int.reduceBNe,Int.reduceGT,Int.reduceGE,Nat.reduceGT,Int.reduceToNat,Int.reduceNeg,Nat.reduceLeDiff,Nat.reduceBEq,Nat.reduceBneDiff]
  refine (qgf E B12 X12).mono ?_
  rintro v H13 ⟨le13, rfl⟩
  rw [decide_eq_false (by decide)]
  simp -implicitDefEqProofs only [zA,reduceIte,reduceCtorEq,Nat.reduceEqDiff,Nat.reduceAdd,Nat.reduceMul,Nat.reduceLT,Nat.reduceSub,Int.reduceLT,Int.reduceLE,Int.reduceEq,Int.reduceNe,Int.reduceSub,Int.reduceAdd,Int.reduceMul,Int.reduceBEq,Int.reduceBNe,Int.reduceGT,Int.reduceGE,Nat.reduceGT,Int.reduceToNat,Int.reduceNeg,Nat.reduceLeDiff,Nat.reduceBEq,Nat.reduceBneDiff]
  refine (qj3 E K (B12.le le13) (X12.le le13)).mono ?_
  rintro v H14 ⟨rfl, k14, ok14, -⟩
  rw [kn8] at ok14 ⊢
  obtain ⟨r14, nr14, B14⟩ := ok14 rfl
  have X14 : BookAt H14 bx rx [eB, eW, eD, eR] := (X12.le le13).keep k14 (fun e => by have := B10.qb; rw [← e, nbx] at this; cases this) (fun e => by have := B10.qb; rw [← e, nrx] at this; cases this)
  have pb : p ≠ b := fun e => (B6.le le7).apart hp |>.1 e.symm
  have qb : q ≠ b := fun e => (B6.le le7).apart hq' |>.1 e.symm
  have qp14 := k14 _ _ (le13 _ _ qp12) pb
  have qq14 := k14 _ _ (le13 _ _ qq12) qb
  simp -implicitDefEqProofs only [zA,reduceIte,reduceCtorEq,Nat.reduceEqDiff,Nat.reduceAdd,Nat.reduceMul,Nat.reduceLT,Nat.reduceSub,Int.reduceLT,Int.reduceLE,Int.reduceEq,Int.reduceNe,Int.reduceSub,Int.reduceAdd,Int.reduceMul,Int.reduceBEq,Int.reduceBNe,Int.reduceGT,Int.reduceGE,Nat.reduceGT,Int.reduceToNat,Int.reduceNeg,Nat.reduceLeDiff,Nat.reduceBEq,Nat.reduceBneDiff]
  refine (qgg E B14 9).mono ?_
  rintro v H15 ⟨le15, -, hx2⟩
  have hx3 := hx2 (by decide)
  subst hx3
  simp -implicitDefEqProofs only [zA,reduceIte,reduceCtorEq,Nat.reduceEqDiff,Nat.reduceAdd,Nat.reduceMul,Nat.reduceLT,Nat.reduceSub,Int.reduceLT,Int.reduceLE,Int.reduceEq,Int.reduceNe,Int.reduceSub,Int.reduceAdd,Int.reduceMul,Int.reduceBEq,Int.reduceBNe,Int.reduceGT,Int.reduceGE,Nat.reduceGT,Int.reduceToNat,Int.reduceNeg,Nat.reduceLeDiff,Nat.reduceBEq,Nat.reduceBneDiff]
  intro p2 hp2
  try simp -implicitDefEqProofs only [zA,reduceIte,reduceCtorEq,Nat.reduceEqDiff,Nat.reduceAdd,Nat.reduceMul,Nat.reduceLT,Nat.reduceSub,Int.reduceLT,Int.reduceLE,Int.reduceEq,Int.reduceNe,Int.reduceSub,Int.reduceAdd,Int.reduceMul,Int.reduceBEq,Int.reduceBNe,Int.reduceGT,Int.reduceGE,Nat.reduceGT,Int.reduceToNat,Int.reduceNeg,Nat.reduceLeDiff,Nat.reduceBEq,Nat.reduceBneDiff]
  intro q2 hq2
  try simp -implicitDefEqProofs only [zA,reduceIte,reduceCtorEq,Nat.reduceEqDiff,Nat.reduceAdd,Nat.reduceMul,Nat.reduceLT,Nat.reduceSub,Int.reduceLT,Int.reduceLE,Int.reduceEq,Int.reduceNe,Int.reduceSub,Int.reduceAdd,Int.reduceMul,Int.reduceBEq,Int.reduceBNe,Int.reduceGT,Int.reduceGE,Nat.reduceGT,Int.reduceToNat,Int.reduceNeg,Nat.reduceLeDiff,Nat.reduceBEq,Nat.reduceBneDiff,List.length_replicate]
  obtain ⟨s3, s4, le16, qp2, qq2, -⟩ := qk5 H15 hp2 hq2 0 0 (List.replicate 8 0) rfl
  try simp -implicitDefEqProofs only [zA,reduceIte,reduceCtorEq,Nat.reduceEqDiff,Nat.reduceAdd,Nat.reduceMul,Nat.reduceLT,Nat.reduceSub,Int.reduceLT,Int.reduceLE,Int.reduceEq,Int.reduceNe,Int.reduceSub,Int.reduceAdd,Int.reduceMul,Int.reduceBEq,Int.reduceBNe,Int.reduceGT,Int.reduceGE,Nat.reduceGT,Int.reduceToNat,Int.reduceNeg,Nat.reduceLeDiff,Nat.reduceBEq,Nat.reduceBneDiff,s3,s4]
  have B16 := (B14.le le15).le le16
  have X16 := (X14.le le15).le le16
  have qp16 := le16 _ _ (le15 _ _ qp14)
  have qq16 := le16 _ _ (le15 _ _ qq14)
  generalize ((H15.set p2 (.own 0 [Value.int .i64 0, .int .i64 0] 2)).set q2 (.own 0 ((List.replicate 8 (0 : Int)).map (.int .i64)) 8)) = H16 at le16 qp2 qq2 B16 X16 qp16 qq16 ⊢
  have l5 : ∀ G, H16.le G → q0e G ⟨p, 0, none⟩ 2 = some [Value.int .i64 0, .int .i64 2] := fun G le => by rw [q4b (le _ _ qp16) (by simp)]; rfl
  have l6 : ∀ G, H16.le G → q0e G ⟨q, 0, none⟩ 8 = some (([1, 0, 0, 0, 0, 0, 0, 0] : List Int).map (.int .i64)) := fun G le => by rw [q4b (le _ _ qq16) (by simp)]; rfl
  have l7 : ∀ G, H16.le G → q0e G ⟨p2, 0, none⟩ 2 = some [Value.int .i64 0, .int .i64 0] := fun G le => by rw [q4b (le _ _ qp2) (by simp)]; rfl
  have l8 : ∀ G, H16.le G → q0e G ⟨q2, 0, none⟩ 8 = some ((List.replicate 8 (0 : Int)).map (.int .i64)) := fun G le => by rw [q4b (le _ _ qq2) (by simp)]; rfl
  have lk : ∀ a b : Int, q05 [some IntKind.i64, some IntKind.i64] [Value.int .i64 a, .int .i64 b] = true := fun _ _ => rfl
  have le2 := qek 0 2 0 2
  have le3 := qek 0 0 0 0
  rw [decide_eq_true (by decide)] at le2 le3
  have lk8 : ∀ v : List Int, v.length = 8 → q05 (List.replicate 8 (some IntKind.i64)) (v.map (.int .i64)) = true := fun v h => by
    obtain ⟨a0, a1, a2, a3, a4, a5, a6, a7, rfl⟩ := len8 h; rfl
  unfold q4u
  simp -implicitDefEqProofs only [zA,reduceIte,reduceCtorEq,Nat.reduceEqDiff,Nat.reduceAdd,Nat.reduceMul,Nat.reduceLT,Nat.reduceSub,Int.reduceLT,Int.reduceLE,Int.reduceEq,Int.reduceNe,Int.reduceSub,Int.reduceAdd,Int.reduceMul,Int.reduceBEq,Int.reduceBNe,Int.reduceGT,Int.reduceGE,Nat.reduceGT,Int.reduceToNat,Int.reduceNeg,Nat.reduceLeDiff,Nat.reduceBEq,Nat.reduceBneDiff,l5 _ (Heap.q09 _),lk,le2,l6 _ (Heap.q09 _)]
  change q0c (some (.agg (([1, 0, 0, 0, 0, 0, 0, 0] : List Int).map (.int .i64)).toArray)) _ _
  have lv8 : ∀ v : List Int, v.length = 8 → q0b (v.map (.int .i64)) (v.map (.int .i64)) = true := fun v h => by
    obtain ⟨a0, a1, a2, a3, a4, a5, a6, a7, rfl⟩ := len8 h; simp [q0b, qaz]
  have k1 := lk8 [1, 0, 0, 0, 0, 0, 0, 0] rfl
  have k3 := lv8 [1, 0, 0, 0, 0, 0, 0, 0] rfl
  simp -implicitDefEqProofs only [zA,reduceIte,reduceCtorEq,Nat.reduceEqDiff,Nat.reduceAdd,Nat.reduceMul,Nat.reduceLT,Nat.reduceSub,Int.reduceLT,Int.reduceLE,Int.reduceEq,Int.reduceNe,Int.reduceSub,Int.reduceAdd,Int.reduceMul,Int.reduceBEq,Int.reduceBNe,Int.reduceGT,Int.reduceGE,Nat.reduceGT,Int.reduceToNat,Int.reduceNeg,Nat.reduceLeDiff,Nat.reduceBEq,Nat.reduceBneDiff,k1,k3]
  refine (qgf E B16 X16).mono ?_
  rintro v H17 ⟨le17, rfl⟩
  rw [decide_eq_true rfl]
  have B17 := B16.le le17
  simp -implicitDefEqProofs only [zA,reduceIte,reduceCtorEq,Nat.reduceEqDiff,Nat.reduceAdd,Nat.reduceMul,Nat.reduceLT,Nat.reduceSub,Int.reduceLT,Int.reduceLE,Int.reduceEq,Int.reduceNe,Int.reduceSub,Int.reduceAdd,Int.reduceMul,Int.reduceBEq,Int.reduceBNe,Int.reduceGT,Int.reduceGE,Nat.reduceGT,Int.reduceToNat,Int.reduceNeg,Nat.reduceLeDiff,Nat.reduceBEq,Nat.reduceBneDiff]
  refine (qe7 E B17).mono ?_
  rintro v H18 ⟨le18, w, hw, rfl⟩
  have ew := hw.eq knH
  subst ew
  have B18 := B17.le le18
  simp -implicitDefEqProofs only [zA,reduceIte,reduceCtorEq,Nat.reduceEqDiff,Nat.reduceAdd,Nat.reduceMul,Nat.reduceLT,Nat.reduceSub,Int.reduceLT,Int.reduceLE,Int.reduceEq,Int.reduceNe,Int.reduceSub,Int.reduceAdd,Int.reduceMul,Int.reduceBEq,Int.reduceBNe,Int.reduceGT,Int.reduceGE,Nat.reduceGT,Int.reduceToNat,Int.reduceNeg,Nat.reduceLeDiff,Nat.reduceBEq,Nat.reduceBneDiff]
  change q0c (some (.agg (([3, 0, 1, 0, 0, 0, 0, 0] : List Int).map (.int .i64)).toArray)) _ _
  have k5 := lk8 [3, 0, 1, 0, 0, 0, 0, 0] rfl
  have k6 := lv8 [3, 0, 1, 0, 0, 0, 0, 0] rfl
  simp -implicitDefEqProofs only [zA,reduceIte,reduceCtorEq,Nat.reduceEqDiff,Nat.reduceAdd,Nat.reduceMul,Nat.reduceLT,Nat.reduceSub,Int.reduceLT,Int.reduceLE,Int.reduceEq,Int.reduceNe,Int.reduceSub,Int.reduceAdd,Int.reduceMul,Int.reduceBEq,Int.reduceBNe,Int.reduceGT,Int.reduceGE,Nat.reduceGT,Int.reduceToNat,Int.reduceNeg,Nat.reduceLeDiff,Nat.reduceBEq,Nat.reduceBneDiff,k5,k6]
  refine (qba E K B18).mono ?_
  rintro v H19 ⟨le19, ow19⟩
  rw [knD] at ow19
  have B19 := B18.le le19
  simp -implicitDefEqProofs only [zA,reduceIte,reduceCtorEq,Nat.reduceEqDiff,Nat.reduceAdd,Nat.reduceMul,Nat.reduceLT,Nat.reduceSub,Int.reduceLT,Int.reduceLE,Int.reduceEq,Int.reduceNe,Int.reduceSub,Int.reduceAdd,Int.reduceMul,Int.reduceBEq,Int.reduceBNe,Int.reduceGT,Int.reduceGE,Nat.reduceGT,Int.reduceToNat,Int.reduceNeg,Nat.reduceLeDiff,Nat.reduceBEq,Nat.reduceBneDiff]
  intro b20 hb20
  try simp -implicitDefEqProofs only [zA,reduceIte,reduceCtorEq,Nat.reduceEqDiff,Nat.reduceAdd,Nat.reduceMul,Nat.reduceLT,Nat.reduceSub,Int.reduceLT,Int.reduceLE,Int.reduceEq,Int.reduceNe,Int.reduceSub,Int.reduceAdd,Int.reduceMul,Int.reduceBEq,Int.reduceBNe,Int.reduceGT,Int.reduceGE,Nat.reduceGT,Int.reduceToNat,Int.reduceNeg,Nat.reduceLeDiff,Nat.reduceBEq,Nat.reduceBneDiff]
  have le20 := Heap.q0o (Heap.q09 H19) hb20 (.own 0 [strV [99], strV [100]] 2)
  refine (qhb E (L := [[99], [100]]) (M := [[99], [100]]) (Sl.le le20 ow19.sl) (Sl.lit (n := 2) rfl) (by decide) (by decide)).mono ?_
  rintro v H20 ⟨rfl, rfl⟩
  rw [decide_eq_true rfl]
  have B20 := B19.le le20
  have leA := Heap.q08 (Heap.q08 le17 le18) (Heap.q08 le19 le20)
  generalize (H19.set b20 (.own 0 [strV [99], strV [100]] 2)) = G20 at le20 B20 leA ⊢
  simp -implicitDefEqProofs only [zA,reduceIte,reduceCtorEq,Nat.reduceEqDiff,Nat.reduceAdd,Nat.reduceMul,Nat.reduceLT,Nat.reduceSub,Int.reduceLT,Int.reduceLE,Int.reduceEq,Int.reduceNe,Int.reduceSub,Int.reduceAdd,Int.reduceMul,Int.reduceBEq,Int.reduceBNe,Int.reduceGT,Int.reduceGE,Nat.reduceGT,Int.reduceToNat,Int.reduceNeg,Nat.reduceLeDiff,Nat.reduceBEq,Nat.reduceBneDiff]
  refine (qdi E K B20 [100]).mono ?_
  rintro v H21 ⟨le21, ow21⟩
  rw [knE] at ow21
  have B21 := B20.le le21
  simp -implicitDefEqProofs only [zA,reduceIte,reduceCtorEq,Nat.reduceEqDiff,Nat.reduceAdd,Nat.reduceMul,Nat.reduceLT,Nat.reduceSub,Int.reduceLT,Int.reduceLE,Int.reduceEq,Int.reduceNe,Int.reduceSub,Int.reduceAdd,Int.reduceMul,Int.reduceBEq,Int.reduceBNe,Int.reduceGT,Int.reduceGE,Nat.reduceGT,Int.reduceToNat,Int.reduceNeg,Nat.reduceLeDiff,Nat.reduceBEq,Nat.reduceBneDiff]
  intro b22 hb22
  try simp -implicitDefEqProofs only [zA,reduceIte,reduceCtorEq,Nat.reduceEqDiff,Nat.reduceAdd,Nat.reduceMul,Nat.reduceLT,Nat.reduceSub,Int.reduceLT,Int.reduceLE,Int.reduceEq,Int.reduceNe,Int.reduceSub,Int.reduceAdd,Int.reduceMul,Int.reduceBEq,Int.reduceBNe,Int.reduceGT,Int.reduceGE,Nat.reduceGT,Int.reduceToNat,Int.reduceNeg,Nat.reduceLeDiff,Nat.reduceBEq,Nat.reduceBneDiff]
  have le22 := Heap.q0o (Heap.q09 H21) hb22 (.own 0 [strV [103]] 1)
  refine (qhb E (L := [[103]]) (M := [[103]]) (Sl.le le22 ow21.sl) (Sl.lit (n := 1) rfl) (by decide) (by decide)).mono ?_
  rintro v H22 ⟨rfl, rfl⟩
  rw [decide_eq_true rfl]
  have B22 := B21.le le22
  have leB := Heap.q08 leA (Heap.q08 le21 le22)
  generalize (H21.set b22 (.own 0 [strV [103]] 1)) = G22 at le22 B22 leB ⊢
  simp -implicitDefEqProofs only [zA,reduceIte,reduceCtorEq,Nat.reduceEqDiff,Nat.reduceAdd,Nat.reduceMul,Nat.reduceLT,Nat.reduceSub,Int.reduceLT,Int.reduceLE,Int.reduceEq,Int.reduceNe,Int.reduceSub,Int.reduceAdd,Int.reduceMul,Int.reduceBEq,Int.reduceBNe,Int.reduceGT,Int.reduceGE,Nat.reduceGT,Int.reduceToNat,Int.reduceNeg,Nat.reduceLeDiff,Nat.reduceBEq,Nat.reduceBneDiff]
  refine (qdi E K B22 [113]).mono ?_
  rintro v H23 ⟨le23, ow23⟩
  rw [knF] at ow23
  obtain ⟨z1, z2, rfl⟩ := ow23.sl.shape
  have leC := Heap.q08 leB le23
  have k7 := lk8 (List.replicate 8 0) rfl
  have k8 := lv8 (List.replicate 8 0) rfl
  have k9 : q05 (List.replicate 8 (some IntKind.i64)) (List.replicate 8 (Value.int .i64 0)) = true := rfl
  have k10 : q0b ((List.replicate 8 (0 : Int)).map (.int .i64)) (List.replicate 8 (Value.int .i64 0)) = true := rfl
  simp -implicitDefEqProofs only [zA,reduceIte,reduceCtorEq,Nat.reduceEqDiff,Nat.reduceAdd,Nat.reduceMul,Nat.reduceLT,Nat.reduceSub,Int.reduceLT,Int.reduceLE,Int.reduceEq,Int.reduceNe,Int.reduceSub,Int.reduceAdd,Int.reduceMul,Int.reduceBEq,Int.reduceBNe,Int.reduceGT,Int.reduceGE,Nat.reduceGT,Int.reduceToNat,Int.reduceNeg,Nat.reduceLeDiff,Nat.reduceBEq,Nat.reduceBneDiff,l7 _ leC,lk,le3,l8 _ leC,k7,k9,k10]
end Go.Bb
