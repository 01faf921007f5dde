/- My contracts: BbBo5 BbBo6 BbBo7 BbBo8 BbBo9 BbPbs BbBoA BbBrd1 BbUed BbLbk0 BbPbl BbLbk1 BbLbk2 BbPbm BbPbn BbPbo BbLbkV BbCwir2 BbBrd2. -/
import Derived.Test.YthealcnfgedddaaBbM1
import Derived.Test.YthealcnfgedddaaBbG3
namespace Go.Bb
set_option linter.unusedSimpArgs false
set_option linter.unusedVariables false
set_option maxRecDepth 20000
set_option maxHeartbeats 2000000
open Go.MapKept
theorem qpf {E : Env} {n : Nat} {g : FuncId} {first cap vs : List Value} {h : Heap} {K : Value → Heap → Prop} (hg : E.fid n = some g) (a : ACallN E n (first ++ vs ++ cap) h K) : qmz E h K (.func (.func g) first.toArray cap.toArray) vs :=
  ⟨⟨n, hg⟩, by simpa using a g hg⟩
theorem Sl.edAt {H : Heap} {v : Value} {S : List Ed} (h8 : ∀ e ∈ S, e.seen.length = 8) (s : Sl H 15 v S.length (S.flatMap edC)) (i : Nat) (hi : i < S.length) :
    ∃ b o c, v = .slice (some ⟨b, o, none⟩) S.length c ∧ S.length ≤ c ∧ ∀ h', H.le h' → q08 h' ⟨b, o + i * 15, none⟩ 15 = some (edC S[i]) := by
  obtain ⟨l, rfl⟩ := toG h8
  rw [← qfd, List.length_map] at s
  rw [List.length_map] at hi
  obtain ⟨b, o, c, h1, h2, h3⟩ := s.at qdr i hi (by decide)
  refine ⟨b, o, c, by rw [List.length_map]; exact h1, by rw [List.length_map]; exact h2, fun h' hle => ?_⟩
  rw [h3 h' hle, List.getElem_map]
  rfl
theorem qez (E : EnvT tab) (K : BkOk E) {H : Heap} {v : Value} {S : List Ed} (h8 : ∀ e ∈ S, e.seen.length = 8) (hl : S.length ≤ 100000) (s : Sl H 15 v S.length (S.flatMap edC)) {y : Ed} (hy : y.seen.length = 8) {b0 : Nat} (q0 : H b0 = some (.own 0 (edC y) 15)) :
    ACallN E.toEnv q8u [v, .func (.func 60) #[] #[.pointer (some ⟨b0, 0, none⟩)]] H fun r H' => H.le H' ∧ r = .int .i64 (if S.any (fun a => q96 a y) then (S.findIdx (fun a => q96 a y) : Int) else -1) := by
  obtain ⟨base, c, rfl⟩ := s.shape
  refine q1i q1f q0p rfl rfl (q01 ?_)
  unfold q0p
  simp -implicitDefEqProofs only [zA,reduceIte,reduceCtorEq,Nat.reduceEqDiff,Nat.reduceAdd,Nat.reduceMul,Nat.reduceLT,Nat.reduceSub,Int.reduceLT,Int.reduceLE,Int.reduceEq,Int.reduceNe,Int.reduceSub,Int.reduceAdd,Int.reduceMul,Int.reduceBEq,Int.reduceBNe,Int.reduceGT,Int.reduceGE,Nat.reduceGT,Int.reduceToNat,Int.reduceNeg,Nat.reduceLeDiff,Nat.reduceBEq,Nat.reduceBneDiff]
  refine q0s (fun m t G => H.le G ∧ ∃ i : Nat, t = tl [(0, .slice base S.length c), (1, .func (.func 60) [].toArray [.pointer (some ⟨b0, 0, none⟩)].toArray), (7, .int .i64 S.length), (8, .int .i64 i)] ∧ i ≤ S.length ∧ m = S.length - i ∧ (S.take i).any (fun a => q96 a y) = false) S.length
    ⟨Heap.q04 _, 0, rfl, by omega, by omega, by simp⟩ ?_
  rintro m t G ⟨le, i, rfl, hi, rfl, ha⟩
  by_cases hlt : i < S.length
  · obtain ⟨b, o, c', hv, hc, q0u⟩ := s.edAt h8 i hlt
    simp only [Value.slice.injEq, true_and] at hv
    obtain ⟨rfl, rfl⟩ := hv
    have hi1 : (i : Int) < S.length := by omega
    have hi2 : (0 : Int) ≤ i := by omega
    have w1 : IntKind.i64.wrap ((i : Int) + 1) = ((i + 1 : Nat) : Int) := q9r (by omega)
    have hi3 := q0u _ le
    have hx := h8 S[i] (List.getElem_mem hlt)
    simp -implicitDefEqProofs only [zA,reduceIte,reduceCtorEq,Nat.reduceEqDiff,Nat.reduceAdd,Nat.reduceMul,Nat.reduceLT,Nat.reduceSub,Int.reduceLT,Int.reduceLE,Int.reduceEq,Int.reduceNe,Int.reduceSub,Int.reduceAdd,Int.reduceMul,Int.reduceBEq,Int.reduceBNe,Int.reduceGT,Int.reduceGE,Nat.reduceGT,Int.reduceToNat,Int.reduceNeg,Nat.reduceLeDiff,Nat.reduceBEq,Nat.reduceBneDiff,hi1,hi2,Int.toNat_natCast,hi3]
    refine qpf (first := []) (cap := [.pointer (some ⟨b0, 0, none⟩)]) (vs := [.agg (edC S[i]).toArray]) K.f60 ?_
    refine (qkg E G S[i] y hx hy (le _ _ q0)).mono ?_
    rintro r G1 ⟨le1, rfl⟩
    have leX := Heap.q00 le le1
    have et : S.take (i + 1) = S.take i ++ [S[i]] := List.take_succ_eq_append_getElem hlt
    by_cases g : q96 S[i] y = true
    · have e1 : S.any (fun a => q96 a y) = true := List.any_eq_true.2 ⟨S[i], List.getElem_mem hlt, g⟩
      have e2 : S.findIdx (fun a => q96 a y) = i := by
        rw [List.findIdx_eq hlt]
        refine ⟨g, fun j hj => ?_⟩
        rw [List.any_eq_false] at ha
        have := ha S[j] (by rw [List.mem_take_iff_getElem]; exact ⟨j, by omega, rfl⟩)
        simpa using this
      simp -implicitDefEqProofs only [zA,reduceIte,reduceCtorEq,Nat.reduceEqDiff,Nat.reduceAdd,Nat.reduceMul,Nat.reduceLT,Nat.reduceSub,Int.reduceLT,Int.reduceLE,Int.reduceEq,Int.reduceNe,Int.reduceSub,Int.reduceAdd,Int.reduceMul,Int.reduceBEq,Int.reduceBNe,Int.reduceGT,Int.reduceGE,Nat.reduceGT,Int.reduceToNat,Int.reduceNeg,Nat.reduceLeDiff,Nat.reduceBEq,Nat.reduceBneDiff,g,e1,e2]
      exact leX
    · have g' : q96 S[i] y = false := by simpa using g
      simp -implicitDefEqProofs only [zA,reduceIte,reduceCtorEq,Nat.reduceEqDiff,Nat.reduceAdd,Nat.reduceMul,Nat.reduceLT,Nat.reduceSub,Int.reduceLT,Int.reduceLE,Int.reduceEq,Int.reduceNe,Int.reduceSub,Int.reduceAdd,Int.reduceMul,Int.reduceBEq,Int.reduceBNe,Int.reduceGT,Int.reduceGE,Nat.reduceGT,Int.reduceToNat,Int.reduceNeg,Nat.reduceLeDiff,Nat.reduceBEq,Nat.reduceBneDiff,g',w1]
      refine ⟨_, ?_, leX, i + 1, rfl, by omega, rfl, ?_⟩
      · omega
      · rw [et, List.any_append, ha]; simp [g']
  · have hi1 : ¬ (i : Int) < S.length := by omega
    have e : i = S.length := by omega
    subst e
    rw [List.take_length] at ha
    simp -implicitDefEqProofs only [zA,reduceIte,reduceCtorEq,Nat.reduceEqDiff,Nat.reduceAdd,Nat.reduceMul,Nat.reduceLT,Nat.reduceSub,Int.reduceLT,Int.reduceLE,Int.reduceEq,Int.reduceNe,Int.reduceSub,Int.reduceAdd,Int.reduceMul,Int.reduceBEq,Int.reduceBNe,Int.reduceGT,Int.reduceGE,Nat.reduceGT,Int.reduceToNat,Int.reduceNeg,Nat.reduceLeDiff,Nat.reduceBEq,Nat.reduceBneDiff,hi1,ha]
    exact le
theorem qct (E : EnvT tab) (K : BkOk E) {H : Heap} {v : Value} {S : List Ed} (h8 : ∀ e ∈ S, e.seen.length = 8) (hl : S.length ≤ 100000) (s : Sl H 15 v S.length (S.flatMap edC)) {y : Ed} (hy : y.seen.length = 8) {b0 : Nat} (q0 : H b0 = some (.own 0 (edC y) 15)) :
    ACallN E.toEnv q70 [v, .func (.func 60) #[] #[.pointer (some ⟨b0, 0, none⟩)]] H fun r H' => H.le H' ∧ r = .bool (S.any (fun a => q96 a y)) := by
  refine q1i q13 q0j rfl rfl (q01 ?_)
  unfold q0j
  simp -implicitDefEqProofs only [zA,reduceIte,reduceCtorEq,Nat.reduceEqDiff,Nat.reduceAdd,Nat.reduceMul,Nat.reduceLT,Nat.reduceSub,Int.reduceLT,Int.reduceLE,Int.reduceEq,Int.reduceNe,Int.reduceSub,Int.reduceAdd,Int.reduceMul,Int.reduceBEq,Int.reduceBNe,Int.reduceGT,Int.reduceGE,Nat.reduceGT,Int.reduceToNat,Int.reduceNeg,Nat.reduceLeDiff,Nat.reduceBEq,Nat.reduceBneDiff]
  refine (qez E K h8 hl s hy q0).mono ?_
  rintro r H1 ⟨le1, rfl⟩
  cases g : S.any (fun a => q96 a y) with
  | true =>
    have h0 : (0 : Int) ≤ (S.findIdx (fun a => q96 a y) : Nat) := by omega
    simp -implicitDefEqProofs only [zA,reduceIte,reduceCtorEq,Nat.reduceEqDiff,Nat.reduceAdd,Nat.reduceMul,Nat.reduceLT,Nat.reduceSub,Int.reduceLT,Int.reduceLE,Int.reduceEq,Int.reduceNe,Int.reduceSub,Int.reduceAdd,Int.reduceMul,Int.reduceBEq,Int.reduceBNe,Int.reduceGT,Int.reduceGE,Nat.reduceGT,Int.reduceToNat,Int.reduceNeg,Nat.reduceLeDiff,Nat.reduceBEq,Nat.reduceBneDiff,h0]
    exact le1
  | false =>
    simp -implicitDefEqProofs only [zA,reduceIte,reduceCtorEq,Nat.reduceEqDiff,Nat.reduceAdd,Nat.reduceMul,Nat.reduceLT,Nat.reduceSub,Int.reduceLT,Int.reduceLE,Int.reduceEq,Int.reduceNe,Int.reduceSub,Int.reduceAdd,Int.reduceMul,Int.reduceBEq,Int.reduceBNe,Int.reduceGT,Int.reduceGE,Nat.reduceGT,Int.reduceToNat,Int.reduceNeg,Nat.reduceLeDiff,Nat.reduceBEq,Nat.reduceBneDiff]
    exact le1
def Z15 : List Value := List.replicate 11 (.int .i64 0) ++ [.string .empty, .string .empty, .string .empty, .int .i64 0]
theorem qj1 : Z15.length = 15 := rfl
theorem zf15 : (List.replicate 1 (List.replicate 11 (Value.int .i64 0) ++ [.string .empty, .string .empty, .string .empty, .int .i64 0])).flatten = Z15 := rfl
theorem qht : List.drop 15 Z15 = [] := rfl
theorem stE (G : Heap) (b : Nat) {e : Ed} (h8 : e.seen.length = 8) : q4g (G.set b (.own 0 Z15 Z15.length)) 15 (.pointer (some ⟨b, 0, none⟩)) (.agg (edC e).toArray) = some (G.set b (.own 0 (edC e) 15)) :=
  z6z (by decide) (q1o h8) (qd6 e) qj1 (by decide)
def qac (S : List Ed) (e : Ed) : Bool := decide (e.kind = 1) && !S.any fun a => q96 a e
theorem qfk (x y : Ed) : qpb x y < 0 ↔ q63 x y := by
  rw [← qot]
  unfold qpb
  cases qni x y <;> simp
theorem qet (E : EnvT tab) (K : BkOk E) {H : Heap} {b r : Nat} {S : List Ed} (B : BookAt H b r S) :
    ACallN E.toEnv qhg [.pointer (some ⟨b, 0, none⟩)] H fun v H' => H.le H' ∧ Ow H H' 15 v (q7z S).length ((q7z S).flatMap edC) := by
  refine q1i qad q6u rfl rfl (q01 ?_)
  unfold q6u
  have hS := B.ok.len
  have h8 := B.ok.h8
  simp -implicitDefEqProofs only [zA,reduceIte,reduceCtorEq,Nat.reduceEqDiff,Nat.reduceAdd,Nat.reduceMul,Nat.reduceLT,Nat.reduceSub,Int.reduceLT,Int.reduceLE,Int.reduceEq,Int.reduceNe,Int.reduceSub,Int.reduceAdd,Int.reduceMul,Int.reduceBEq,Int.reduceBNe,Int.reduceGT,Int.reduceGE,Nat.reduceGT,Int.reduceToNat,Int.reduceNeg,Nat.reduceLeDiff,Nat.reduceBEq,Nat.reduceBneDiff]
  refine (qh6 E K B).mono ?_
  rintro v H1 ⟨le1, ow1⟩
  have sl1 := ow1.sl
  obtain ⟨base, c, rfl⟩ := sl1.shape
  have e60 := K.f60
  simp -implicitDefEqProofs only [zA,reduceIte,reduceCtorEq,Nat.reduceEqDiff,Nat.reduceAdd,Nat.reduceMul,Nat.reduceLT,Nat.reduceSub,Int.reduceLT,Int.reduceLE,Int.reduceEq,Int.reduceNe,Int.reduceSub,Int.reduceAdd,Int.reduceMul,Int.reduceBEq,Int.reduceBNe,Int.reduceGT,Int.reduceGE,Nat.reduceGT,Int.reduceToNat,Int.reduceNeg,Nat.reduceLeDiff,Nat.reduceBEq,Nat.reduceBneDiff]
  refine q0s (fun m t G => H1.le G ∧ ∃ (i : Nat) (vl : Value), t = tl [(3, vl), (4, .slice base S.length c), (10, .slice base S.length c), (11, .int .i64 S.length), (12, .int .i64 i)] ∧ i ≤ S.length ∧ m = S.length - i ∧ Ow H1 G 15 vl ((S.take i).filter (qac S)).length (((S.take i).filter (qac S)).flatMap edC)) S.length
    ⟨Heap.q04 _, 0, _, rfl, by omega, by omega, Ow.nil _ _ _⟩ ?_
  rintro m t G ⟨le, i, vl, rfl, hi, rfl, ow⟩
  by_cases hlt : i < S.length
  · obtain ⟨bs, o, c', hv, hc, q0u⟩ := sl1.edAt h8 i hlt
    simp only [Value.slice.injEq, true_and] at hv
    obtain ⟨rfl, rfl⟩ := hv
    have hi1 : (i : Int) < S.length := by omega
    have hi2 : (0 : Int) ≤ i := by omega
    have w1 : IntKind.i64.wrap ((i : Int) + 1) = ((i + 1 : Nat) : Int) := q9r (by omega)
    have hi3 := q0u _ le
    have hx := h8 S[i] (List.getElem_mem hlt)
    have et : S.take (i + 1) = S.take i ++ [S[i]] := List.take_succ_eq_append_getElem hlt
    generalize S[i] = y at hi3 hx et
    simp -implicitDefEqProofs only [zA,reduceIte,reduceCtorEq,Nat.reduceEqDiff,Nat.reduceAdd,Nat.reduceMul,Nat.reduceLT,Nat.reduceSub,Int.reduceLT,Int.reduceLE,Int.reduceEq,Int.reduceNe,Int.reduceSub,Int.reduceAdd,Int.reduceMul,Int.reduceBEq,Int.reduceBNe,Int.reduceGT,Int.reduceGE,Nat.reduceGT,Int.reduceToNat,Int.reduceNeg,Nat.reduceLeDiff,Nat.reduceBEq,Nat.reduceBneDiff,hi1,hi2,Int.toNat_natCast,hi3]
    intro b6 hb6
    have s6 := stE G b6 hx
    unfold Z15 at s6
    try simp -implicitDefEqProofs only [zA,reduceIte,reduceCtorEq,Nat.reduceEqDiff,Nat.reduceAdd,Nat.reduceMul,Nat.reduceLT,Nat.reduceSub,Int.reduceLT,Int.reduceLE,Int.reduceEq,Int.reduceNe,Int.reduceSub,Int.reduceAdd,Int.reduceMul,Int.reduceBEq,Int.reduceBNe,Int.reduceGT,Int.reduceGE,Nat.reduceGT,Int.reduceToNat,Int.reduceNeg,Nat.reduceLeDiff,Nat.reduceBEq,Nat.reduceBneDiff,s6]
    have le6 : G.le (G.set b6 (.own 0 (edC y) 15)) := Heap.q0a (Heap.q04 _) hb6 _
    have A : EdAt (G.set b6 (.own 0 (edC y) 15)) b6 y := EdAt.of (Heap.q03 _ _ _) hx
    have ow6 := ow.le le6
    have leB := Heap.q00 le le6
    generalize (G.set b6 (.own 0 (edC y) 15)) = G6 at le6 A ow6 leB
    unfold qag
    have hyes : qac S y = true → (S.take (i + 1)).filter (qac S) = (S.take i).filter (qac S) ++ [y] := fun h => by rw [et, List.filter_append]; simp [h]
    have hno : qac S y = false → (S.take (i + 1)).filter (qac S) = (S.take i).filter (qac S) := fun h => by rw [et, List.filter_append]; simp [h]
    by_cases k1 : y.kind = 1
    · simp -implicitDefEqProofs only [zA,reduceIte,reduceCtorEq,Nat.reduceEqDiff,Nat.reduceAdd,Nat.reduceMul,Nat.reduceLT,Nat.reduceSub,Int.reduceLT,Int.reduceLE,Int.reduceEq,Int.reduceNe,Int.reduceSub,Int.reduceAdd,Int.reduceMul,Int.reduceBEq,Int.reduceBNe,Int.reduceGT,Int.reduceGE,Nat.reduceGT,Int.reduceToNat,Int.reduceNeg,Nat.reduceLeDiff,Nat.reduceBEq,Nat.reduceBneDiff,e60,A.kind,k1]
      refine (qct E K h8 (by omega) (sl1.le leB) hx A.own).mono ?_
      rintro r G7 ⟨le7, rfl⟩
      have A7 := A.le hx le7
      have ow7 := ow6.le le7
      have leC := Heap.q00 leB le7
      cases g : S.any (fun a => q96 a y) with
      | true =>
        have hp : qac S y = false := by simp [qac, g]
        simp -implicitDefEqProofs only [zA,reduceIte,reduceCtorEq,Nat.reduceEqDiff,Nat.reduceAdd,Nat.reduceMul,Nat.reduceLT,Nat.reduceSub,Int.reduceLT,Int.reduceLE,Int.reduceEq,Int.reduceNe,Int.reduceSub,Int.reduceAdd,Int.reduceMul,Int.reduceBEq,Int.reduceBNe,Int.reduceGT,Int.reduceGE,Nat.reduceGT,Int.reduceToNat,Int.reduceNeg,Nat.reduceLeDiff,Nat.reduceBEq,Nat.reduceBneDiff,w1]
        refine ⟨_, ?_, leC, i + 1, vl, rfl, by omega, rfl, ?_⟩
        · omega
        · rw [hno hp]; exact ow7
      | false =>
        have hp : qac S y = true := by simp [qac, g, k1]
        have hy15 := q1o hx
        simp -implicitDefEqProofs only [zA,reduceIte,reduceCtorEq,Nat.reduceEqDiff,Nat.reduceAdd,Nat.reduceMul,Nat.reduceLT,Nat.reduceSub,Int.reduceLT,Int.reduceLE,Int.reduceEq,Int.reduceNe,Int.reduceSub,Int.reduceAdd,Int.reduceMul,Int.reduceBEq,Int.reduceBNe,Int.reduceGT,Int.reduceGE,Nat.reduceGT,Int.reduceToNat,Int.reduceNeg,Nat.reduceLeDiff,Nat.reduceBEq,Nat.reduceBneDiff,A7.all,zf15,qj1,qht,hy15,List.append_nil]
        intro b8 hb8
        have le8 := Heap.q0a (Heap.q04 G7) hb8 (.own 0 (edC y) 15)
        try simp -implicitDefEqProofs only [zA,reduceIte,reduceCtorEq,Nat.reduceEqDiff,Nat.reduceAdd,Nat.reduceMul,Nat.reduceLT,Nat.reduceSub,Int.reduceLT,Int.reduceLE,Int.reduceEq,Int.reduceNe,Int.reduceSub,Int.reduceAdd,Int.reduceMul,Int.reduceBEq,Int.reduceBNe,Int.reduceGT,Int.reduceGE,Nat.reduceGT,Int.reduceToNat,Int.reduceNeg,Nat.reduceLeDiff,Nat.reduceBEq,Nat.reduceBneDiff]
        refine q1t (bytes := 144) (m := 1) (news := edC y) (Heap.q00 leC le8) (by decide) (ow7.le le8) (Sl.lit (n := 1) hy15) (qd6 y) (by have := List.length_filter_le (qac S) (S.take i); rw [List.length_take] at this; omega) (by have := List.length_filter_le (qac S) (S.take i); rw [List.length_take] at this; omega) ?_
        intro v' h' ow9 le9
        simp -implicitDefEqProofs only [zA,reduceIte,reduceCtorEq,Nat.reduceEqDiff,Nat.reduceAdd,Nat.reduceMul,Nat.reduceLT,Nat.reduceSub,Int.reduceLT,Int.reduceLE,Int.reduceEq,Int.reduceNe,Int.reduceSub,Int.reduceAdd,Int.reduceMul,Int.reduceBEq,Int.reduceBNe,Int.reduceGT,Int.reduceGE,Nat.reduceGT,Int.reduceToNat,Int.reduceNeg,Nat.reduceLeDiff,Nat.reduceBEq,Nat.reduceBneDiff,w1]
        refine ⟨_, ?_, le9, i + 1, v', rfl, by omega, rfl, ?_⟩
        · omega
        · rw [hyes hp, List.flatMap_append, List.length_append]; simpa using ow9
    · have hp : qac S y = false := by simp [qac, k1]
      simp -implicitDefEqProofs only [zA,reduceIte,reduceCtorEq,Nat.reduceEqDiff,Nat.reduceAdd,Nat.reduceMul,Nat.reduceLT,Nat.reduceSub,Int.reduceLT,Int.reduceLE,Int.reduceEq,Int.reduceNe,Int.reduceSub,Int.reduceAdd,Int.reduceMul,Int.reduceBEq,Int.reduceBNe,Int.reduceGT,Int.reduceGE,Nat.reduceGT,Int.reduceToNat,Int.reduceNeg,Nat.reduceLeDiff,Nat.reduceBEq,Nat.reduceBneDiff,e60,A.kind,k1,w1]
      refine ⟨_, ?_, leB, i + 1, vl, rfl, by omega, rfl, ?_⟩
      · omega
      · rw [hno hp]; exact ow6
  · have hi1 : ¬ (i : Int) < S.length := by omega
    have e : i = S.length := by omega
    subst e
    rw [List.take_length] at ow
    have e63 := oev_fv K.f63
    simp -implicitDefEqProofs only [zA,reduceIte,reduceCtorEq,Nat.reduceEqDiff,Nat.reduceAdd,Nat.reduceMul,Nat.reduceLT,Nat.reduceSub,Int.reduceLT,Int.reduceLE,Int.reduceEq,Int.reduceNe,Int.reduceSub,Int.reduceAdd,Int.reduceMul,Int.reduceBEq,Int.reduceBNe,Int.reduceGT,Int.reduceGE,Nat.reduceGT,Int.reduceToNat,Int.reduceNeg,Nat.reduceLeDiff,Nat.reduceBEq,Nat.reduceBneDiff,hi1,e63]
    have hf8 : ∀ e ∈ S.filter (qac S), e.seen.length = 8 := fun e he => h8 e (List.mem_filter.1 he).1
    have hfl := List.length_filter_le (qac S) S
    refine (qmq E K hf8 ow (by omega) K.f63 qpb (fun x => by rw [qfk]; exact q8q x) (fun x y z a b => by rw [qfk] at *; exact q80 a b) (fun x y z a b => by rw [qfk] at *; unfold q63 q17 at *; omega)
      (fun x y hx hy => (qkf E _ x y hx hy).mono fun r H' h => h.2)).mono ?_
    rintro u H2 ⟨S2, p2, s2, ow2, k2⟩
    simp -implicitDefEqProofs only [zA,reduceIte,reduceCtorEq,Nat.reduceEqDiff,Nat.reduceAdd,Nat.reduceMul,Nat.reduceLT,Nat.reduceSub,Int.reduceLT,Int.reduceLE,Int.reduceEq,Int.reduceNe,Int.reduceSub,Int.reduceAdd,Int.reduceMul,Int.reduceBEq,Int.reduceBNe,Int.reduceGT,Int.reduceGE,Nat.reduceGT,Int.reduceToNat,Int.reduceNeg,Nat.reduceLeDiff,Nat.reduceBEq,Nat.reduceBneDiff]
    have e2 : S2 = q7z S := by
      refine qai q8q (fun x y z => q80) (p2.trans (qbq _ _).symm) ?_ (qbb B.ok)
      refine qcz p2 (B.ok.apart.sublist List.filter_sublist) ?_
      exact s2.imp fun {x y} h => by rw [qfk] at h; exact h
    subst e2
    refine ⟨fun k x hx => ?_, ow2.since le1⟩
    have h1 := le1 k x hx
    rw [k2 k (by rw [h1]; simp)]
    exact le k x h1
end Go.Bb
namespace Go.Bb
set_option linter.unusedSimpArgs false
set_option linter.unusedVariables false
set_option maxRecDepth 20000
set_option maxHeartbeats 2000000
open Go.MapKept
deriving instance DecidableEq for Ed
theorem leafStr (a b : List UInt8) : qd1 (strV a) (strV b) = decide (a = b) := by
  simp only [strV, qd1, qbp]
  rw [Bool.eq_iff_iff]; simp
theorem qas (e : Ed) (h8 : e.seen.length = 8) : q05 (List.replicate 11 (some IntKind.i64) ++ [none, none, none, some IntKind.i64]) (edC e) = true := by
  obtain ⟨dev, n, seen, kind, con, fld, val, time⟩ := e
  simp only at h8
  match seen, h8 with
  | [a, b, c, d, e, f, g, h], _ => rfl
theorem qeq (x y : Ed) (hx : x.seen.length = 8) (hy : y.seen.length = 8) : q0b (edC x) (edC y) = decide (x = y) := by
  obtain ⟨dev, n, seen, kind, con, fld, val, time⟩ := x
  obtain ⟨dev', n', seen', kind', con', fld', val', time'⟩ := y
  simp only at hx hy
  match seen, hx, seen', hy with
  | [a, b, c, d, e, f, g, h], _, [a', b', c', d', e', f', g', h'], _ =>
    simp only [edC, List.map_cons, List.map_nil, List.cons_append, List.nil_append, q0b, leafStr]
    simp only [qd1]
    rw [Bool.eq_iff_iff]
    simp
    intro _ _
    simp only [and_assoc]
abbrev KD : KeyT := .agg [some .i64, some .i64]
def dotK (d n : Int) : Value := .agg #[.int .i64 d, .int .i64 n]
def qby (L : List Ed) (d n : Int) : Option Ed := L.find? fun x => decide (x.dev = d ∧ x.n = n)
theorem keyD (d n d' n' : Int) : keyV KD (dotK d n) (dotK d' n') = some (decide (d' = d ∧ n' = n)) := by
  simp only [keyV, dotK, q05, qau, q0b, qd1, decide_true, Bool.and_true, if_true]
  congr 1
  rw [Bool.eq_iff_iff]
  simp
  omega
theorem qgb {d n : Int} : ∀ {es : List MapEntry} {L : List Ed} (i : Nat), EntB es L → qby L d n = none → q7r KD (dotK d n) es i = some none
  | [], _, _, _, _ => rfl
  | e :: es, [], i, h, _ => by simp [EntB] at h
  | e :: es, x :: L, i, h, hn => by
      simp only [EntB, List.map_cons, List.cons.injEq, Prod.mk.injEq] at h
      obtain ⟨⟨h1, h2⟩, h3⟩ := h
      unfold qby at hn
      rw [List.find?_cons] at hn
      have hx : ¬ (x.dev = d ∧ x.n = n) := by
        intro q
        simp [q] at hn
      unfold q7r
      rw [h1, show dotV x = dotK x.dev x.n from rfl, keyD, decide_eq_false hx]
      exact qgb (i + 1) h3 (by simpa [qby, hx] using hn)
theorem qga {d n : Int} {w : Ed} : ∀ {es : List MapEntry} {L : List Ed} (i : Nat), EntB es L → qby L d n = some w → ∃ j, q7r KD (dotK d n) es i = some (some (j, edV w))
  | [], [], _, _, hs => by simp [qby] at hs
  | [], _ :: _, _, h, _ => by simp [EntB] at h
  | e :: es, [], i, h, _ => by simp [EntB] at h
  | e :: es, x :: L, i, h, hs => by
      simp only [EntB, List.map_cons, List.cons.injEq, Prod.mk.injEq] at h
      obtain ⟨⟨h1, h2⟩, h3⟩ := h
      unfold qby at hs
      rw [List.find?_cons] at hs
      unfold q7r
      rw [h1, show dotV x = dotK x.dev x.n from rfl, keyD]
      by_cases hx : x.dev = d ∧ x.n = n
      · rw [decide_eq_true hx]
        have hw : x = w := by simpa [hx] using hs
        exact ⟨i, by rw [h2, hw]⟩
      · rw [decide_eq_false hx]
        exact qga (i + 1) h3 (by simpa [qby, hx] using hs)
theorem q9j {S : List Ed} {d n : Int} : qby S d n = none ↔ ∀ x ∈ S, ¬ (x.dev = d ∧ x.n = n) := by
  unfold qby; rw [List.find?_eq_none]; simp
theorem getD_some {S : List Ed} {d n : Int} {w : Ed} (h : qby S d n = some w) : w ∈ S ∧ w.dev = d ∧ w.n = n := by
  unfold qby at h
  exact ⟨List.mem_of_find?_eq_some h, by simpa using List.find?_some h⟩
theorem ql9 {L S : List Ed} (p : L.Perm S) (ok : BkS S) (d n : Int) : qby L d n = qby S d n := by
  cases hs : qby S d n with
  | none =>
    rw [q9j] at hs ⊢
    exact fun x hx => hs x (p.mem_iff.1 hx)
  | some w =>
    cases hl : qby L d n with
    | none =>
      rw [q9j] at hl
      have := getD_some hs
      exact absurd this.2 (hl w (p.mem_iff.2 this.1))
    | some v =>
      have h1 := getD_some hs
      have h2 := getD_some hl
      rw [ok.tot (p.mem_iff.1 h2.1) h1.1 (by rw [h2.2.1, h1.2.1]) (by rw [h2.2.2, h1.2.2])]
def addB (S : List Ed) (e : Ed) : List Ed × Int :=
  if q43 e = true then
    match qby S e.dev e.n with
    | some old => if old = e then (S, 0) else (S, 10)
    | none => if 500 ≤ S.length then (S, 2) else (insR q17 e S, 0)
  else (S, 1)
theorem BkS.ins {S : List Ed} (ok : BkS S) {e : Ed} (hg : q43 e = true) (h8 : e.seen.length = 8) (hn : qby S e.dev e.n = none) (hl : ¬ 500 ≤ S.length) : BkS (insR q17 e S) := by
  have hp := qa9 q17 e S
  rw [q9j] at hn
  refine ⟨qci (fun x y z => @q8l x y z) ok.rise fun x hx => ?_, fun x hx => ?_, fun x hx => ?_, ?_⟩
  · have := hn x hx
    unfold q17; omega
  · rcases List.mem_cons.1 (hp.mem_iff.1 hx) with h | h
    · rw [h]; exact hg
    · exact ok.good x h
  · rcases List.mem_cons.1 (hp.mem_iff.1 hx) with h | h
    · rw [h]; exact h8
    · exact ok.h8 x h
  · rw [hp.length_eq, List.length_cons]; omega
theorem qjp (E : EnvT tab) (h : Heap) : ACallN E.toEnv qne [] h fun v h' => h.le h' ∧ ∃ b r, v = .pointer (some ⟨b, 0, none⟩) ∧ h b = none ∧ h r = none ∧ BookAt h' b r [] := by
  refine q1i qg8 qcg rfl rfl (q01 ?_)
  unfold qcg
  simp -implicitDefEqProofs only [zA,reduceIte,reduceCtorEq,Nat.reduceEqDiff,Nat.reduceAdd,Nat.reduceMul,Nat.reduceLT,Nat.reduceSub,Int.reduceLT,Int.reduceLE,Int.reduceEq,Int.reduceNe,Int.reduceSub,Int.reduceAdd,Int.reduceMul,Int.reduceBEq,Int.reduceBNe,Int.reduceGT,Int.reduceGE,Nat.reduceGT,Int.reduceToNat,Int.reduceNeg,Nat.reduceLeDiff,Nat.reduceBEq,Nat.reduceBneDiff]
  intro b hb
  try simp -implicitDefEqProofs only [zA,reduceIte,reduceCtorEq,Nat.reduceEqDiff,Nat.reduceAdd,Nat.reduceMul,Nat.reduceLT,Nat.reduceSub,Int.reduceLT,Int.reduceLE,Int.reduceEq,Int.reduceNe,Int.reduceSub,Int.reduceAdd,Int.reduceMul,Int.reduceBEq,Int.reduceBNe,Int.reduceGT,Int.reduceGE,Nat.reduceGT,Int.reduceToNat,Int.reduceNeg,Nat.reduceLeDiff,Nat.reduceBEq,Nat.reduceBneDiff]
  intro r hr
  try simp -implicitDefEqProofs only [zA,reduceIte,reduceCtorEq,Nat.reduceEqDiff,Nat.reduceAdd,Nat.reduceMul,Nat.reduceLT,Nat.reduceSub,Int.reduceLT,Int.reduceLE,Int.reduceEq,Int.reduceNe,Int.reduceSub,Int.reduceAdd,Int.reduceMul,Int.reduceBEq,Int.reduceBNe,Int.reduceGT,Int.reduceGE,Nat.reduceGT,Int.reduceToNat,Int.reduceNeg,Nat.reduceLeDiff,Nat.reduceBEq,Nat.reduceBneDiff]
  have ne : r ≠ b := by intro e; subst e; rw [Heap.q03] at hr; cases hr
  have hr' : h r = none := by rw [Heap.q0x ne] at hr; exact hr
  refine ⟨Heap.qfo (Heap.q0a (Heap.q04 _) hb _) hr _, r, b, rfl, hr', hb, ne, Heap.q03 _ _ _, ⟨#[], 0, [], by rw [Heap.q0x ne.symm, Heap.q03], rfl, List.Perm.refl _, stamped_empty _⟩, BkS.nil⟩
def Keep (r : Nat) (H H' : Heap) : Prop := ∀ k x, H k = some x → k ≠ r → H' k = some x
theorem Keep.qnq {r : Nat} {H H' : Heap} (le : H.le H') : Keep r H H' := fun k x h _ => le k x h
theorem qgf (E : EnvT tab) {H : Heap} {b r : Nat} {S : List Ed} (B : BookAt H b r S) (e : Ed) (h8 : e.seen.length = 8) (hc : e.con.length ≤ 9223372036854775807) (hf : e.fld.length ≤ 9223372036854775807) (hn : -9223372036854775808 ≤ e.n) (hn2 : e.n ≤ 9223372036854775807) :
    ACallN E.toEnv qie [.pointer (some ⟨b, 0, none⟩), edV e] H fun v H' => v = .int .i64 (addB S e).2 ∧ BookAt H' b r (addB S e).1 ∧ Keep r H H' := by
  refine q1i qb4 q7x rfl rfl (q01 ?_)
  unfold q7x edV
  have el := q1o h8
  simp -implicitDefEqProofs only [zA,reduceIte,reduceCtorEq,Nat.reduceEqDiff,Nat.reduceAdd,Nat.reduceMul,Nat.reduceLT,Nat.reduceSub,Int.reduceLT,Int.reduceLE,Int.reduceEq,Int.reduceNe,Int.reduceSub,Int.reduceAdd,Int.reduceMul,Int.reduceBEq,Int.reduceBNe,Int.reduceGT,Int.reduceGE,Nat.reduceGT,Int.reduceToNat,Int.reduceNeg,Nat.reduceLeDiff,Nat.reduceBEq,Nat.reduceBneDiff]
  intro b3 hb3
  try simp -implicitDefEqProofs only [zA,reduceIte,reduceCtorEq,Nat.reduceEqDiff,Nat.reduceAdd,Nat.reduceMul,Nat.reduceLT,Nat.reduceSub,Int.reduceLT,Int.reduceLE,Int.reduceEq,Int.reduceNe,Int.reduceSub,Int.reduceAdd,Int.reduceMul,Int.reduceBEq,Int.reduceBNe,Int.reduceGT,Int.reduceGE,Nat.reduceGT,Int.reduceToNat,Int.reduceNeg,Nat.reduceLeDiff,Nat.reduceBEq,Nat.reduceBneDiff]
  rw [el]
  have le3 := Heap.q0a (Heap.q04 H) hb3 (.own 0 (edC e) 15)
  have A : EdAt (H.set b3 (.own 0 (edC e) 15)) b3 e := EdAt.of (Heap.q03 _ _ _) h8
  have B3 := B.le le3
  generalize (H.set b3 (.own 0 (edC e) 15)) = G at le3 A B3
  simp -implicitDefEqProofs only [zA,reduceIte,reduceCtorEq,Nat.reduceEqDiff,Nat.reduceAdd,Nat.reduceMul,Nat.reduceLT,Nat.reduceSub,Int.reduceLT,Int.reduceLE,Int.reduceEq,Int.reduceNe,Int.reduceSub,Int.reduceAdd,Int.reduceMul,Int.reduceBEq,Int.reduceBNe,Int.reduceGT,Int.reduceGE,Nat.reduceGT,Int.reduceToNat,Int.reduceNeg,Nat.reduceLeDiff,Nat.reduceBEq,Nat.reduceBneDiff,A.all]
  refine (qn9 E G e h8 hc hf hn hn2).mono ?_
  rintro v G1 ⟨le1, rfl⟩
  have A1 := A.le h8 le1
  have B1 := B3.le le1
  have leX := Heap.q00 le3 le1
  cases hg : q43 e with
  | false =>
    have ea : addB S e = (S, 1) := by simp [addB, hg]
    rw [ea]
    simp -implicitDefEqProofs only [zA,reduceIte,reduceCtorEq,Nat.reduceEqDiff,Nat.reduceAdd,Nat.reduceMul,Nat.reduceLT,Nat.reduceSub,Int.reduceLT,Int.reduceLE,Int.reduceEq,Int.reduceNe,Int.reduceSub,Int.reduceAdd,Int.reduceMul,Int.reduceBEq,Int.reduceBNe,Int.reduceGT,Int.reduceGE,Nat.reduceGT,Int.reduceToNat,Int.reduceNeg,Nat.reduceLeDiff,Nat.reduceBEq,Nat.reduceBneDiff]
    exact ⟨B1, Keep.qnq leX⟩
  | true =>
    obtain ⟨es, c, L, qr, en, hp, st⟩ := B1.qr
    have cb : q0u G1 ⟨b, 0, none⟩ = some (.map (some r)) := by rw [q0z B1.qb (by simp)]; rfl
    have ma : qar G1 r = some (es, c) := by simp [qar, qr]
    have kf : qbc (.agg [some IntKind.i64, some IntKind.i64]) (.agg #[Value.int .i64 e.dev, Value.int .i64 e.n]) = some () := rfl
    have hL : es.size = S.length := by
      have := congrArg List.length en
      simp only [List.length_map, Array.length_toList] at this
      rw [this, hp.length_eq]
    have hgp := ql9 hp B1.ok e.dev e.n
    have fl : ∀ (d n : Int) (es : List MapEntry), q7r (.agg [some IntKind.i64, some IntKind.i64]) (.agg [Value.int .i64 d, Value.int .i64 n].toArray) es 0 = q7r KD (dotK d n) es 0 := fun _ _ _ => rfl
    unfold addB
    rw [if_pos hg]
    cases hgd : qby S e.dev e.n with
    | none =>
      rw [hgd] at hgp
      have fv := qgb 0 en hgp
      simp -implicitDefEqProofs only [zA,reduceIte,reduceCtorEq,Nat.reduceEqDiff,Nat.reduceAdd,Nat.reduceMul,Nat.reduceLT,Nat.reduceSub,Int.reduceLT,Int.reduceLE,Int.reduceEq,Int.reduceNe,Int.reduceSub,Int.reduceAdd,Int.reduceMul,Int.reduceBEq,Int.reduceBNe,Int.reduceGT,Int.reduceGE,Nat.reduceGT,Int.reduceToNat,Int.reduceNeg,Nat.reduceLeDiff,Nat.reduceBEq,Nat.reduceBneDiff,cb,A1.dot,ma,fl,fv,kf]
      intro b5 hb5
      have s5 : q4g (G1.set b5 (.own 0 Z15 Z15.length)) 15 (.pointer (some ⟨b5, 0, none⟩)) (.agg Z15.toArray) = some (G1.set b5 (.own 0 Z15 15)) := z6z (by decide) rfl rfl rfl (by decide)
      unfold Z15 at s5
      simp -implicitDefEqProofs only [zA,reduceIte,reduceCtorEq,Nat.reduceEqDiff,Nat.reduceAdd,Nat.reduceMul,Nat.reduceLT,Nat.reduceSub,Int.reduceLT,Int.reduceLE,Int.reduceEq,Int.reduceNe,Int.reduceSub,Int.reduceAdd,Int.reduceMul,Int.reduceBEq,Int.reduceBNe,Int.reduceGT,Int.reduceGE,Nat.reduceGT,Int.reduceToNat,Int.reduceNeg,Nat.reduceLeDiff,Nat.reduceBEq,Nat.reduceBneDiff,s5]
      have le5 := Heap.q0a (Heap.q04 G1) hb5 (.own 0 (List.replicate 11 (.int .i64 0) ++ [.string .empty, .string .empty, .string .empty, .int .i64 0]) 15)
      have B5 := B1.le le5
      have qr5 := le5 _ _ qr
      have A5 := A1.le h8 le5
      have leY := Heap.q00 leX le5
      generalize (G1.set b5 (.own 0 (List.replicate 11 (.int .i64 0) ++ [.string .empty, .string .empty, .string .empty, .int .i64 0]) 15)) = G5 at le5 B5 qr5 A5 leY
      unfold q8d
      simp -implicitDefEqProofs only [zA,reduceIte,reduceCtorEq,Nat.reduceEqDiff,Nat.reduceAdd,Nat.reduceMul,Nat.reduceLT,Nat.reduceSub,Int.reduceLT,Int.reduceLE,Int.reduceEq,Int.reduceNe,Int.reduceSub,Int.reduceAdd,Int.reduceMul,Int.reduceBEq,Int.reduceBNe,Int.reduceGT,Int.reduceGE,Nat.reduceGT,Int.reduceToNat,Int.reduceNeg,Nat.reduceLeDiff,Nat.reduceBEq,Nat.reduceBneDiff]
      unfold qaz
      have cb5 : q0u G5 ⟨b, 0, none⟩ = some (.map (some r)) := by rw [q0z B5.qb (by simp)]; rfl
      have ma5 : qar G5 r = some (es, c) := by simp [qar, qr5]
      by_cases g5 : 500 ≤ S.length
      · have g5' : (500 : Int) ≤ (es.size : Int) := by rw [hL]; omega
        simp -implicitDefEqProofs only [zA,reduceIte,reduceCtorEq,Nat.reduceEqDiff,Nat.reduceAdd,Nat.reduceMul,Nat.reduceLT,Nat.reduceSub,Int.reduceLT,Int.reduceLE,Int.reduceEq,Int.reduceNe,Int.reduceSub,Int.reduceAdd,Int.reduceMul,Int.reduceBEq,Int.reduceBNe,Int.reduceGT,Int.reduceGE,Nat.reduceGT,Int.reduceToNat,Int.reduceNeg,Nat.reduceLeDiff,Nat.reduceBEq,Nat.reduceBneDiff,cb5,ma5,g5',g5]
        exact ⟨fun _ _ => trivial, B5, Keep.qnq leY⟩
      · have g5' : ¬ (500 : Int) ≤ (es.size : Int) := by rw [hL]; omega
        have mu : qop G5 (.agg [some IntKind.i64, some IntKind.i64]) (.map (some r)) (.agg [Value.int .i64 e.dev, Value.int .i64 e.n].toArray) (.agg (edC e).toArray) = some (G5.set r (.obj (.map (es.push { key := dotV e, val := edV e, born := c }) (c + 1)))) := by
          simp only [qop, qr5, kf, fl, fv]
          rfl
        simp -implicitDefEqProofs only [zA,reduceIte,reduceCtorEq,Nat.reduceEqDiff,Nat.reduceAdd,Nat.reduceMul,Nat.reduceLT,Nat.reduceSub,Int.reduceLT,Int.reduceLE,Int.reduceEq,Int.reduceNe,Int.reduceSub,Int.reduceAdd,Int.reduceMul,Int.reduceBEq,Int.reduceBNe,Int.reduceGT,Int.reduceGE,Nat.reduceGT,Int.reduceToNat,Int.reduceNeg,Nat.reduceLeDiff,Nat.reduceBEq,Nat.reduceBneDiff,cb5,ma5,g5',g5,A5.dot,A5.all,mu]
        refine ⟨fun _ _ => trivial, ⟨B5.ne, by rw [Heap.q0x B5.ne]; exact B5.qb, ⟨_, _, L ++ [e], Heap.q03 _ _ _, ?_, ?_, ?_⟩, B5.ok.ins hg h8 hgd g5⟩, fun k x hx hk => ?_⟩
        · unfold EntB at en ⊢
          rw [Array.toList_push, List.map_append, List.map_append, en]
          rfl
        · refine List.Perm.trans ?_ (qa9 q17 e S).symm
          exact (List.perm_append_comm).trans (hp.cons e)
        · refine stamped_push st fun x hx hke => ?_
          have h1 : (x.key, x.val) ∈ es.toList.map (fun e => (e.key, e.val)) := List.mem_map_of_mem hx
          unfold EntB at en
          rw [en] at h1
          obtain ⟨y, hy, he⟩ := List.mem_map.1 h1
          simp only [Prod.mk.injEq] at he
          rw [q9j] at hgp
          have h2 : dotV y = dotV e := by rw [he.1]; exact hke
          simp only [dotV, Value.agg.injEq] at h2
          refine hgp y hy ?_
          simpa using h2
        · rw [Heap.q0x hk]; exact leY k x hx
    | some old =>
      rw [hgd] at hgp
      obtain ⟨j, fv⟩ := qga 0 en hgp
      have ho8 : old.seen.length = 8 := B1.ok.h8 old (getD_some hgd).1
      unfold edV at fv
      simp -implicitDefEqProofs only [zA,reduceIte,reduceCtorEq,Nat.reduceEqDiff,Nat.reduceAdd,Nat.reduceMul,Nat.reduceLT,Nat.reduceSub,Int.reduceLT,Int.reduceLE,Int.reduceEq,Int.reduceNe,Int.reduceSub,Int.reduceAdd,Int.reduceMul,Int.reduceBEq,Int.reduceBNe,Int.reduceGT,Int.reduceGE,Nat.reduceGT,Int.reduceToNat,Int.reduceNeg,Nat.reduceLeDiff,Nat.reduceBEq,Nat.reduceBneDiff,cb,A1.dot,ma,fl,fv,kf]
      intro b5 hb5
      have s5 := stE G1 b5 ho8
      unfold Z15 at s5
      simp -implicitDefEqProofs only [zA,reduceIte,reduceCtorEq,Nat.reduceEqDiff,Nat.reduceAdd,Nat.reduceMul,Nat.reduceLT,Nat.reduceSub,Int.reduceLT,Int.reduceLE,Int.reduceEq,Int.reduceNe,Int.reduceSub,Int.reduceAdd,Int.reduceMul,Int.reduceBEq,Int.reduceBNe,Int.reduceGT,Int.reduceGE,Nat.reduceGT,Int.reduceToNat,Int.reduceNeg,Nat.reduceLeDiff,Nat.reduceBEq,Nat.reduceBneDiff,s5]
      have le5 := Heap.q0a (Heap.q04 G1) hb5 (.own 0 (edC old) 15)
      have O5 : EdAt (G1.set b5 (.own 0 (edC old) 15)) b5 old := EdAt.of (Heap.q03 _ _ _) ho8
      have B5 := B1.le le5
      have A5 := A1.le h8 le5
      have leY := Heap.q00 leX le5
      generalize (G1.set b5 (.own 0 (edC old) 15)) = G5 at le5 B5 O5 A5 leY
      unfold q8d
      have k1 := qas old ho8
      have k2 := qas e h8
      have k3 := qeq old e ho8 h8
      by_cases oe : old = e
      · subst oe
        have k3' : q0b (edC old) (edC old) = true := by rw [k3]; simp
        simp -implicitDefEqProofs only [zA,reduceIte,reduceCtorEq,Nat.reduceEqDiff,Nat.reduceAdd,Nat.reduceMul,Nat.reduceLT,Nat.reduceSub,Int.reduceLT,Int.reduceLE,Int.reduceEq,Int.reduceNe,Int.reduceSub,Int.reduceAdd,Int.reduceMul,Int.reduceBEq,Int.reduceBNe,Int.reduceGT,Int.reduceGE,Nat.reduceGT,Int.reduceToNat,Int.reduceNeg,Nat.reduceLeDiff,Nat.reduceBEq,Nat.reduceBneDiff,O5.all,A5.all,k1,k2,k3']
        exact ⟨fun _ _ => trivial, B5, Keep.qnq leY⟩
      · have k3' : q0b (edC old) (edC e) = false := by rw [k3]; simp [oe]
        simp -implicitDefEqProofs only [zA,reduceIte,reduceCtorEq,Nat.reduceEqDiff,Nat.reduceAdd,Nat.reduceMul,Nat.reduceLT,Nat.reduceSub,Int.reduceLT,Int.reduceLE,Int.reduceEq,Int.reduceNe,Int.reduceSub,Int.reduceAdd,Int.reduceMul,Int.reduceBEq,Int.reduceBNe,Int.reduceGT,Int.reduceGE,Nat.reduceGT,Int.reduceToNat,Int.reduceNeg,Nat.reduceLeDiff,Nat.reduceBEq,Nat.reduceBneDiff,O5.all,A5.all,k1,k2,k3',oe]
        exact ⟨fun _ _ => trivial, B5, Keep.qnq leY⟩
end Go.Bb
namespace Go.Bb
set_option linter.unusedSimpArgs false
set_option linter.unusedVariables false
set_option maxRecDepth 20000
set_option maxHeartbeats 2000000
open Go.MapKept
abbrev Str := List UInt8
def q9l (l : List Str) : List Str := l.mergeSort fun x y => decide (x ≤ y)
theorem qan (l : List Str) : (q9l l).length = l.length := by simp [q9l]
theorem qku (E : EnvT tab) (K : BkOk E) {h0 H : Heap} {v : Value} {L : List Str} (s : Ow h0 H 1 v L.length (L.map strV)) (hl : L.length ≤ 100000) :
    ACallN E.toEnv q2q [v] H fun r H' => Ow h0 H' 1 v (q9l L).length ((q9l L).map strV) ∧ (∀ b, h0 b ≠ none → H' b = H b) := by
  rcases s with ⟨rfl, hn, hc⟩ | ⟨b, o, c, sz, st, pre, rest, rfl, h2, h3, h4, h5, h6, h7⟩
  · have : L = [] := List.eq_nil_of_length_eq_zero hn
    subst this
    refine (qn6 E H).mono ?_
    rintro r H' rfl
    exact ⟨by simp [q9l]; exact Ow.nil _ _ _, fun _ _ => rfl⟩
  · intro f hf
    rw [K.f49] at hf
    cases hf
    refine qjt E.toEnv K.P L h4 h5 hl ?_
    refine ⟨.inr ⟨b, o, c, sz, st, pre, rest, by rw [qan], by rw [qan]; exact h2, h3, by rw [Heap.q03]; rfl, h5, by simp, h7⟩, fun k hk => ?_⟩
    rw [Heap.q0x (fun e => hk (by rw [e]; exact h3))]
theorem qh2 (E : EnvT tab) (K : BkOk E) {h0 H : Heap} {v : Value} {L : List Str} (s : Ow h0 H 1 v L.length (L.map strV)) (hl : L.length ≤ 100000) :
    ACallN E.toEnv q4r [v] H fun r H' => Ow h0 H' 1 r (Lib.compact L).length ((Lib.compact L).map strV) ∧ (∀ b, h0 b ≠ none → H' b = H b) := by
  rcases s with ⟨rfl, hn, hc⟩ | ⟨b, o, c, sz, st, pre, rest, rfl, h2, h3, h4, h5, h6, h7⟩
  · have : L = [] := List.eq_nil_of_length_eq_zero hn
    subst this
    intro f hf
    rw [K.f50] at hf
    cases hf
    exact qj9 E.toEnv K.P ⟨Ow.nil _ _ _, fun _ _ => rfl⟩
  · intro f hf
    rw [K.f50] at hf
    cases hf
    have hle := Lib.compact_length_le L
    refine qhi E.toEnv K.P L h4 h5 hl h2 ?_
    refine ⟨.inr ⟨b, o, c, sz, st, pre, List.replicate (L.length - (Lib.compact L).length) (strV []) ++ rest, rfl, by omega, h3, by rw [Heap.q03]; simp, h5, by simp, h7⟩, fun k hk => ?_⟩
    rw [Heap.q0x (fun e => hk (by rw [e]; exact h3))]
def qjr (l : List Str) : List Str := Lib.compact (q9l l)
theorem qfc {H H1 H2 : Heap} (le : H.le H1) (k : ∀ b, H b ≠ none → H2 b = H1 b) : H.le H2 := fun b x h => by
  rw [k b (by rw [h]; simp)]; exact le b x h
def allB (S : List Ed) (con fld : Str) : List Str := ((q7z S).filter fun e => decide (e.con = con) && decide (e.fld = fld)).map (·.val)
theorem q7c (S : List Ed) : (q7z S).length ≤ S.length := by
  unfold q7z
  rw [(qbq _ _).length_eq]
  exact List.length_filter_le _ _
theorem qdj {S : List Ed} (ok : BkS S) : ∀ e ∈ q7z S, e.seen.length = 8 := fun e he => ok.h8 e (qf7.1 he).1
theorem qge (E : EnvT tab) (K : BkOk E) {H : Heap} {b r : Nat} {S : List Ed} (B : BookAt H b r S) (con fld : Str) :
    ACallN E.toEnv qid [.pointer (some ⟨b, 0, none⟩), strV con, strV fld] H fun v H' => H.le H' ∧ Ow H H' 1 v (allB S con fld).length ((allB S con fld).map strV) := by
  refine q1i qb3 q7w rfl rfl (q01 ?_)
  unfold q7w
  have hS := B.ok.len
  have hl := q7c S
  have h8 := qdj B.ok
  simp -implicitDefEqProofs only [zA,reduceIte,reduceCtorEq,Nat.reduceEqDiff,Nat.reduceAdd,Nat.reduceMul,Nat.reduceLT,Nat.reduceSub,Int.reduceLT,Int.reduceLE,Int.reduceEq,Int.reduceNe,Int.reduceSub,Int.reduceAdd,Int.reduceMul,Int.reduceBEq,Int.reduceBNe,Int.reduceGT,Int.reduceGE,Nat.reduceGT,Int.reduceToNat,Int.reduceNeg,Nat.reduceLeDiff,Nat.reduceBEq,Nat.reduceBneDiff]
  refine (qet E K B).mono ?_
  rintro v H1 ⟨le1, ow1⟩
  have sl1 := ow1.sl
  obtain ⟨base, c, rfl⟩ := sl1.shape
  unfold allB
  generalize q7z S = L at hl h8 ow1 sl1 ⊢
  simp -implicitDefEqProofs only [zA,reduceIte,reduceCtorEq,Nat.reduceEqDiff,Nat.reduceAdd,Nat.reduceMul,Nat.reduceLT,Nat.reduceSub,Int.reduceLT,Int.reduceLE,Int.reduceEq,Int.reduceNe,Int.reduceSub,Int.reduceAdd,Int.reduceMul,Int.reduceBEq,Int.reduceBNe,Int.reduceGT,Int.reduceGE,Nat.reduceGT,Int.reduceToNat,Int.reduceNeg,Nat.reduceLeDiff,Nat.reduceBEq,Nat.reduceBneDiff]
  refine q0s (fun m t G => H1.le G ∧ ∃ (i : Nat) (vl : Value), t = tl [(1, strV con), (2, strV fld), (7, vl), (11, .slice base L.length c), (12, .int .i64 L.length), (13, .int .i64 i)] ∧ i ≤ L.length ∧ m = L.length - i ∧ Ow H1 G 1 vl (((L.take i).filter fun e => decide (e.con = con) && decide (e.fld = fld)).map (·.val)).length ((((L.take i).filter fun e => decide (e.con = con) && decide (e.fld = fld)).map (·.val)).map strV)) L.length
    ⟨Heap.q04 _, 0, _, rfl, by omega, by omega, Ow.nil _ _ _⟩ ?_
  rintro m t G ⟨le, i, vl, rfl, hi, rfl, ow⟩
  by_cases hlt : i < L.length
  · obtain ⟨bs, o, c', hv, hc, q0u⟩ := sl1.edAt h8 i hlt
    simp only [Value.slice.injEq, true_and] at hv
    obtain ⟨rfl, rfl⟩ := hv
    have hi1 : (i : Int) < L.length := by omega
    have hi2 : (0 : Int) ≤ i := by omega
    have w1 : IntKind.i64.wrap ((i : Int) + 1) = ((i + 1 : Nat) : Int) := q9r (by omega)
    have hi3 := q0u _ le
    have hx := h8 L[i] (List.getElem_mem hlt)
    have et : L.take (i + 1) = L.take i ++ [L[i]] := List.take_succ_eq_append_getElem hlt
    generalize L[i] = y at hi3 hx et
    simp -implicitDefEqProofs only [zA,reduceIte,reduceCtorEq,Nat.reduceEqDiff,Nat.reduceAdd,Nat.reduceMul,Nat.reduceLT,Nat.reduceSub,Int.reduceLT,Int.reduceLE,Int.reduceEq,Int.reduceNe,Int.reduceSub,Int.reduceAdd,Int.reduceMul,Int.reduceBEq,Int.reduceBNe,Int.reduceGT,Int.reduceGE,Nat.reduceGT,Int.reduceToNat,Int.reduceNeg,Nat.reduceLeDiff,Nat.reduceBEq,Nat.reduceBneDiff,hi1]
    unfold qay
    simp -implicitDefEqProofs only [zA,reduceIte,reduceCtorEq,Nat.reduceEqDiff,Nat.reduceAdd,Nat.reduceMul,Nat.reduceLT,Nat.reduceSub,Int.reduceLT,Int.reduceLE,Int.reduceEq,Int.reduceNe,Int.reduceSub,Int.reduceAdd,Int.reduceMul,Int.reduceBEq,Int.reduceBNe,Int.reduceGT,Int.reduceGE,Nat.reduceGT,Int.reduceToNat,Int.reduceNeg,Nat.reduceLeDiff,Nat.reduceBEq,Nat.reduceBneDiff,hi1,hi2,Int.toNat_natCast,hi3]
    intro b6 hb6
    have s6 := stE G b6 hx
    unfold Z15 at s6
    try simp -implicitDefEqProofs only [zA,reduceIte,reduceCtorEq,Nat.reduceEqDiff,Nat.reduceAdd,Nat.reduceMul,Nat.reduceLT,Nat.reduceSub,Int.reduceLT,Int.reduceLE,Int.reduceEq,Int.reduceNe,Int.reduceSub,Int.reduceAdd,Int.reduceMul,Int.reduceBEq,Int.reduceBNe,Int.reduceGT,Int.reduceGE,Nat.reduceGT,Int.reduceToNat,Int.reduceNeg,Nat.reduceLeDiff,Nat.reduceBEq,Nat.reduceBneDiff,s6]
    have le6 : G.le (G.set b6 (.own 0 (edC y) 15)) := Heap.q0a (Heap.q04 _) hb6 _
    have A : EdAt (G.set b6 (.own 0 (edC y) 15)) b6 y := EdAt.of (Heap.q03 _ _ _) hx
    have ow6 := ow.le le6
    have leB := Heap.q00 le le6
    generalize (G.set b6 (.own 0 (edC y) 15)) = G6 at le6 A ow6 leB
    have e1 := qaa y.con con
    have e2 := qaa y.fld fld
    have hn : ((L.take i).filter fun e => decide (e.con = con) && decide (e.fld = fld)).length ≤ i := by
      have := List.length_filter_le (fun e : Ed => decide (e.con = con) && decide (e.fld = fld)) (L.take i)
      rw [List.length_take] at this; omega
    have no : (decide (y.con = con) && decide (y.fld = fld)) = false → Ow H1 G6 1 vl (((L.take (i + 1)).filter fun e => decide (e.con = con) && decide (e.fld = fld)).map (·.val)).length ((((L.take (i + 1)).filter fun e => decide (e.con = con) && decide (e.fld = fld)).map (·.val)).map strV) := fun h => by
      rw [et, List.filter_append]
      simp only [List.filter_cons, h, List.filter_nil, List.append_nil, Bool.false_eq_true, if_false]
      exact ow6
    by_cases g1 : y.con = con
    · rw [decide_eq_true g1] at e1
      by_cases g2 : y.fld = fld
      · rw [decide_eq_true g2] at e2
        simp -implicitDefEqProofs only [zA,reduceIte,reduceCtorEq,Nat.reduceEqDiff,Nat.reduceAdd,Nat.reduceMul,Nat.reduceLT,Nat.reduceSub,Int.reduceLT,Int.reduceLE,Int.reduceEq,Int.reduceNe,Int.reduceSub,Int.reduceAdd,Int.reduceMul,Int.reduceBEq,Int.reduceBNe,Int.reduceGT,Int.reduceGE,Nat.reduceGT,Int.reduceToNat,Int.reduceNeg,Nat.reduceLeDiff,Nat.reduceBEq,Nat.reduceBneDiff,A.con,e1,A.fld,e2,A.val]
        intro b8 hb8
        try simp -implicitDefEqProofs only [zA,reduceIte,reduceCtorEq,Nat.reduceEqDiff,Nat.reduceAdd,Nat.reduceMul,Nat.reduceLT,Nat.reduceSub,Int.reduceLT,Int.reduceLE,Int.reduceEq,Int.reduceNe,Int.reduceSub,Int.reduceAdd,Int.reduceMul,Int.reduceBEq,Int.reduceBNe,Int.reduceGT,Int.reduceGE,Nat.reduceGT,Int.reduceToNat,Int.reduceNeg,Nat.reduceLeDiff,Nat.reduceBEq,Nat.reduceBneDiff]
        have le8 := Heap.q0a (Heap.q04 G6) hb8 (.own 0 [strV y.val] 1)
        refine q1t (bytes := 16) (m := 1) (news := [strV y.val]) (Heap.q00 leB le8) (by decide) (ow6.le le8) (Sl.lit (n := 1) rfl) rfl (by rw [List.length_map]; omega) (by rw [List.length_map]; omega) ?_
        intro v' h' ow9 le9
        simp -implicitDefEqProofs only [zA,reduceIte,reduceCtorEq,Nat.reduceEqDiff,Nat.reduceAdd,Nat.reduceMul,Nat.reduceLT,Nat.reduceSub,Int.reduceLT,Int.reduceLE,Int.reduceEq,Int.reduceNe,Int.reduceSub,Int.reduceAdd,Int.reduceMul,Int.reduceBEq,Int.reduceBNe,Int.reduceGT,Int.reduceGE,Nat.reduceGT,Int.reduceToNat,Int.reduceNeg,Nat.reduceLeDiff,Nat.reduceBEq,Nat.reduceBneDiff,w1]
        refine ⟨_, ?_, le9, i + 1, v', rfl, by omega, rfl, ?_⟩
        · omega
        · rw [et, List.filter_append]
          simp only [List.filter_cons, g1, g2, decide_true, Bool.and_self, if_true, List.filter_nil, List.map_append, List.length_append, List.map_cons, List.map_nil, List.length_cons, List.length_nil]
          simpa using ow9
      · rw [decide_eq_false g2] at e2
        simp -implicitDefEqProofs only [zA,reduceIte,reduceCtorEq,Nat.reduceEqDiff,Nat.reduceAdd,Nat.reduceMul,Nat.reduceLT,Nat.reduceSub,Int.reduceLT,Int.reduceLE,Int.reduceEq,Int.reduceNe,Int.reduceSub,Int.reduceAdd,Int.reduceMul,Int.reduceBEq,Int.reduceBNe,Int.reduceGT,Int.reduceGE,Nat.reduceGT,Int.reduceToNat,Int.reduceNeg,Nat.reduceLeDiff,Nat.reduceBEq,Nat.reduceBneDiff,A.con,e1,A.fld,e2,w1]
        refine ⟨_, ?_, leB, i + 1, vl, rfl, by omega, rfl, no (by simp [g2])⟩
        omega
    · rw [decide_eq_false g1] at e1
      simp -implicitDefEqProofs only [zA,reduceIte,reduceCtorEq,Nat.reduceEqDiff,Nat.reduceAdd,Nat.reduceMul,Nat.reduceLT,Nat.reduceSub,Int.reduceLT,Int.reduceLE,Int.reduceEq,Int.reduceNe,Int.reduceSub,Int.reduceAdd,Int.reduceMul,Int.reduceBEq,Int.reduceBNe,Int.reduceGT,Int.reduceGE,Nat.reduceGT,Int.reduceToNat,Int.reduceNeg,Nat.reduceLeDiff,Nat.reduceBEq,Nat.reduceBneDiff,A.con,e1,w1]
      refine ⟨_, ?_, leB, i + 1, vl, rfl, by omega, rfl, no (by simp [g1])⟩
      omega
  · have hi1 : ¬ (i : Int) < L.length := by omega
    have e : i = L.length := by omega
    subst e
    rw [List.take_length] at ow
    simp -implicitDefEqProofs only [zA,reduceIte,reduceCtorEq,Nat.reduceEqDiff,Nat.reduceAdd,Nat.reduceMul,Nat.reduceLT,Nat.reduceSub,Int.reduceLT,Int.reduceLE,Int.reduceEq,Int.reduceNe,Int.reduceSub,Int.reduceAdd,Int.reduceMul,Int.reduceBEq,Int.reduceBNe,Int.reduceGT,Int.reduceGE,Nat.reduceGT,Int.reduceToNat,Int.reduceNeg,Nat.reduceLeDiff,Nat.reduceBEq,Nat.reduceBneDiff,hi1]
    exact ⟨Heap.q00 le1 le, ow.since le1⟩
def qd5 (S : List Ed) (con : Str) : List Str := qjr (((q7z S).filter fun e => decide (e.con = con)).map (·.fld))
def q7s (S : List Ed) : List Str := qjr ((q7z S).map (·.con))
theorem qkh (E : EnvT tab) (K : BkOk E) {H : Heap} {b r : Nat} {S : List Ed} (B : BookAt H b r S) (con : Str) :
    ACallN E.toEnv qf3 [.pointer (some ⟨b, 0, none⟩), strV con] H fun v H' => H.le H' ∧ Ow H H' 1 v (qd5 S con).length ((qd5 S con).map strV) := by
  refine q1i q9g q50 rfl rfl (q01 ?_)
  unfold q50
  have hS := B.ok.len
  have hl := q7c S
  have h8 := qdj B.ok
  simp -implicitDefEqProofs only [zA,reduceIte,reduceCtorEq,Nat.reduceEqDiff,Nat.reduceAdd,Nat.reduceMul,Nat.reduceLT,Nat.reduceSub,Int.reduceLT,Int.reduceLE,Int.reduceEq,Int.reduceNe,Int.reduceSub,Int.reduceAdd,Int.reduceMul,Int.reduceBEq,Int.reduceBNe,Int.reduceGT,Int.reduceGE,Nat.reduceGT,Int.reduceToNat,Int.reduceNeg,Nat.reduceLeDiff,Nat.reduceBEq,Nat.reduceBneDiff]
  refine (qet E K B).mono ?_
  rintro v H1 ⟨le1, ow1⟩
  have sl1 := ow1.sl
  obtain ⟨base, c, rfl⟩ := sl1.shape
  unfold qd5
  generalize q7z S = L at hl h8 ow1 sl1 ⊢
  simp -implicitDefEqProofs only [zA,reduceIte,reduceCtorEq,Nat.reduceEqDiff,Nat.reduceAdd,Nat.reduceMul,Nat.reduceLT,Nat.reduceSub,Int.reduceLT,Int.reduceLE,Int.reduceEq,Int.reduceNe,Int.reduceSub,Int.reduceAdd,Int.reduceMul,Int.reduceBEq,Int.reduceBNe,Int.reduceGT,Int.reduceGE,Nat.reduceGT,Int.reduceToNat,Int.reduceNeg,Nat.reduceLeDiff,Nat.reduceBEq,Nat.reduceBneDiff]
  unfold q9m
  simp -implicitDefEqProofs only [zA,reduceIte,reduceCtorEq,Nat.reduceEqDiff,Nat.reduceAdd,Nat.reduceMul,Nat.reduceLT,Nat.reduceSub,Int.reduceLT,Int.reduceLE,Int.reduceEq,Int.reduceNe,Int.reduceSub,Int.reduceAdd,Int.reduceMul,Int.reduceBEq,Int.reduceBNe,Int.reduceGT,Int.reduceGE,Nat.reduceGT,Int.reduceToNat,Int.reduceNeg,Nat.reduceLeDiff,Nat.reduceBEq,Nat.reduceBneDiff]
  refine q0s (fun m t G => H1.le G ∧ ∃ (i : Nat) (vl : Value), t = tl [(1, strV con), (5, vl), (9, .slice base L.length c), (10, .int .i64 L.length), (11, .int .i64 i)] ∧ i ≤ L.length ∧ m = L.length - i ∧ Ow H1 G 1 vl (((L.take i).filter fun e => decide (e.con = con)).map (·.fld)).length ((((L.take i).filter fun e => decide (e.con = con)).map (·.fld)).map strV)) L.length
    ⟨Heap.q04 _, 0, _, rfl, by omega, by omega, Ow.nil _ _ _⟩ ?_
  rintro m t G ⟨le, i, vl, rfl, hi, rfl, ow⟩
  by_cases hlt : i < L.length
  · obtain ⟨bs, o, c', hv, hc, q0u⟩ := sl1.edAt h8 i hlt
    simp only [Value.slice.injEq, true_and] at hv
    obtain ⟨rfl, rfl⟩ := hv
    have hi1 : (i : Int) < L.length := by omega
    have hi2 : (0 : Int) ≤ i := by omega
    have w1 : IntKind.i64.wrap ((i : Int) + 1) = ((i + 1 : Nat) : Int) := q9r (by omega)
    have hi3 := q0u _ le
    have hx := h8 L[i] (List.getElem_mem hlt)
    have et : L.take (i + 1) = L.take i ++ [L[i]] := List.take_succ_eq_append_getElem hlt
    generalize L[i] = y at hi3 hx et
    simp -implicitDefEqProofs only [zA,reduceIte,reduceCtorEq,Nat.reduceEqDiff,Nat.reduceAdd,Nat.reduceMul,Nat.reduceLT,Nat.reduceSub,Int.reduceLT,Int.reduceLE,Int.reduceEq,Int.reduceNe,Int.reduceSub,Int.reduceAdd,Int.reduceMul,Int.reduceBEq,Int.reduceBNe,Int.reduceGT,Int.reduceGE,Nat.reduceGT,Int.reduceToNat,Int.reduceNeg,Nat.reduceLeDiff,Nat.reduceBEq,Nat.reduceBneDiff,hi1,hi2,Int.toNat_natCast,hi3]
    intro b6 hb6
    have s6 := stE G b6 hx
    unfold Z15 at s6
    try simp -implicitDefEqProofs only [zA,reduceIte,reduceCtorEq,Nat.reduceEqDiff,Nat.reduceAdd,Nat.reduceMul,Nat.reduceLT,Nat.reduceSub,Int.reduceLT,Int.reduceLE,Int.reduceEq,Int.reduceNe,Int.reduceSub,Int.reduceAdd,Int.reduceMul,Int.reduceBEq,Int.reduceBNe,Int.reduceGT,Int.reduceGE,Nat.reduceGT,Int.reduceToNat,Int.reduceNeg,Nat.reduceLeDiff,Nat.reduceBEq,Nat.reduceBneDiff,s6]
    have le6 : G.le (G.set b6 (.own 0 (edC y) 15)) := Heap.q0a (Heap.q04 _) hb6 _
    have A : EdAt (G.set b6 (.own 0 (edC y) 15)) b6 y := EdAt.of (Heap.q03 _ _ _) hx
    have ow6 := ow.le le6
    have leB := Heap.q00 le le6
    generalize (G.set b6 (.own 0 (edC y) 15)) = G6 at le6 A ow6 leB
    have hn : ((L.take i).filter fun e => decide (e.con = con)).length ≤ i := by
      have := List.length_filter_le (fun e : Ed => decide (e.con = con)) (L.take i)
      rw [List.length_take] at this; omega
    have e1 := qaa y.con con
    by_cases g1 : y.con = con
    · rw [decide_eq_true g1] at e1
      · simp -implicitDefEqProofs only [zA,reduceIte,reduceCtorEq,Nat.reduceEqDiff,Nat.reduceAdd,Nat.reduceMul,Nat.reduceLT,Nat.reduceSub,Int.reduceLT,Int.reduceLE,Int.reduceEq,Int.reduceNe,Int.reduceSub,Int.reduceAdd,Int.reduceMul,Int.reduceBEq,Int.reduceBNe,Int.reduceGT,Int.reduceGE,Nat.reduceGT,Int.reduceToNat,Int.reduceNeg,Nat.reduceLeDiff,Nat.reduceBEq,Nat.reduceBneDiff,A.con,e1,A.fld]
        intro b8 hb8
        try simp -implicitDefEqProofs only [zA,reduceIte,reduceCtorEq,Nat.reduceEqDiff,Nat.reduceAdd,Nat.reduceMul,Nat.reduceLT,Nat.reduceSub,Int.reduceLT,Int.reduceLE,Int.reduceEq,Int.reduceNe,Int.reduceSub,Int.reduceAdd,Int.reduceMul,Int.reduceBEq,Int.reduceBNe,Int.reduceGT,Int.reduceGE,Nat.reduceGT,Int.reduceToNat,Int.reduceNeg,Nat.reduceLeDiff,Nat.reduceBEq,Nat.reduceBneDiff]
        have le8 := Heap.q0a (Heap.q04 G6) hb8 (.own 0 [strV y.fld] 1)
        refine q1t (bytes := 16) (m := 1) (news := [strV y.fld]) (Heap.q00 leB le8) (by decide) (ow6.le le8) (Sl.lit (n := 1) rfl) rfl (by rw [List.length_map]; omega) (by rw [List.length_map]; omega) ?_
        intro v' h' ow9 le9
        simp -implicitDefEqProofs only [zA,reduceIte,reduceCtorEq,Nat.reduceEqDiff,Nat.reduceAdd,Nat.reduceMul,Nat.reduceLT,Nat.reduceSub,Int.reduceLT,Int.reduceLE,Int.reduceEq,Int.reduceNe,Int.reduceSub,Int.reduceAdd,Int.reduceMul,Int.reduceBEq,Int.reduceBNe,Int.reduceGT,Int.reduceGE,Nat.reduceGT,Int.reduceToNat,Int.reduceNeg,Nat.reduceLeDiff,Nat.reduceBEq,Nat.reduceBneDiff,w1]
        refine ⟨_, ?_, le9, i + 1, v', rfl, by omega, rfl, ?_⟩
        · omega
        · rw [et, List.filter_append]
          simp only [List.filter_cons, g1, decide_true, if_true, List.filter_nil, List.map_append, List.length_append, List.map_cons, List.map_nil, List.length_cons, List.length_nil]
          simpa using ow9
    · rw [decide_eq_false g1] at e1
      simp -implicitDefEqProofs only [zA,reduceIte,reduceCtorEq,Nat.reduceEqDiff,Nat.reduceAdd,Nat.reduceMul,Nat.reduceLT,Nat.reduceSub,Int.reduceLT,Int.reduceLE,Int.reduceEq,Int.reduceNe,Int.reduceSub,Int.reduceAdd,Int.reduceMul,Int.reduceBEq,Int.reduceBNe,Int.reduceGT,Int.reduceGE,Nat.reduceGT,Int.reduceToNat,Int.reduceNeg,Nat.reduceLeDiff,Nat.reduceBEq,Nat.reduceBneDiff,A.con,e1,w1]
      refine ⟨_, ?_, leB, i + 1, vl, rfl, by omega, rfl, ?_⟩
      · omega
      · rw [et, List.filter_append]
        simp only [List.filter_cons, g1, decide_false, List.filter_nil, List.append_nil, Bool.false_eq_true, if_false]
        exact ow6
  · have hi1 : ¬ (i : Int) < L.length := by omega
    have e : i = L.length := by omega
    subst e
    rw [List.take_length] at ow
    have hn2 : (L.filter fun e => decide (e.con = con)).length ≤ L.length := List.length_filter_le _ _
    simp -implicitDefEqProofs only [zA,reduceIte,reduceCtorEq,Nat.reduceEqDiff,Nat.reduceAdd,Nat.reduceMul,Nat.reduceLT,Nat.reduceSub,Int.reduceLT,Int.reduceLE,Int.reduceEq,Int.reduceNe,Int.reduceSub,Int.reduceAdd,Int.reduceMul,Int.reduceBEq,Int.reduceBNe,Int.reduceGT,Int.reduceGE,Nat.reduceGT,Int.reduceToNat,Int.reduceNeg,Nat.reduceLeDiff,Nat.reduceBEq,Nat.reduceBneDiff,hi1]
    refine (qku E K ow (by rw [List.length_map]; omega)).mono ?_
    rintro u H2 ⟨ow2, k2⟩
    have leU := qfc le k2
    simp -implicitDefEqProofs only [zA,reduceIte,reduceCtorEq,Nat.reduceEqDiff,Nat.reduceAdd,Nat.reduceMul,Nat.reduceLT,Nat.reduceSub,Int.reduceLT,Int.reduceLE,Int.reduceEq,Int.reduceNe,Int.reduceSub,Int.reduceAdd,Int.reduceMul,Int.reduceBEq,Int.reduceBNe,Int.reduceGT,Int.reduceGE,Nat.reduceGT,Int.reduceToNat,Int.reduceNeg,Nat.reduceLeDiff,Nat.reduceBEq,Nat.reduceBneDiff]
    refine (qh2 E K ow2 (by rw [qan, List.length_map]; omega)).mono ?_
    rintro u H3 ⟨ow3, k3⟩
    have leV := qfc leU k3
    simp -implicitDefEqProofs only [zA,reduceIte,reduceCtorEq,Nat.reduceEqDiff,Nat.reduceAdd,Nat.reduceMul,Nat.reduceLT,Nat.reduceSub,Int.reduceLT,Int.reduceLE,Int.reduceEq,Int.reduceNe,Int.reduceSub,Int.reduceAdd,Int.reduceMul,Int.reduceBEq,Int.reduceBNe,Int.reduceGT,Int.reduceGE,Nat.reduceGT,Int.reduceToNat,Int.reduceNeg,Nat.reduceLeDiff,Nat.reduceBEq,Nat.reduceBneDiff]
    exact ⟨Heap.q00 le1 leV, ow3.since le1⟩
theorem qdb (E : EnvT tab) (K : BkOk E) {H : Heap} {b r : Nat} {S : List Ed} (B : BookAt H b r S) :
    ACallN E.toEnv qdx [.pointer (some ⟨b, 0, none⟩)] H fun v H' => H.le H' ∧ Ow H H' 1 v (q7s S).length ((q7s S).map strV) := by
  refine q1i q78 q3o rfl rfl (q01 ?_)
  unfold q3o
  have hS := B.ok.len
  have hl := q7c S
  have h8 := qdj B.ok
  simp -implicitDefEqProofs only [zA,reduceIte,reduceCtorEq,Nat.reduceEqDiff,Nat.reduceAdd,Nat.reduceMul,Nat.reduceLT,Nat.reduceSub,Int.reduceLT,Int.reduceLE,Int.reduceEq,Int.reduceNe,Int.reduceSub,Int.reduceAdd,Int.reduceMul,Int.reduceBEq,Int.reduceBNe,Int.reduceGT,Int.reduceGE,Nat.reduceGT,Int.reduceToNat,Int.reduceNeg,Nat.reduceLeDiff,Nat.reduceBEq,Nat.reduceBneDiff]
  unfold q9a
  simp -implicitDefEqProofs only [zA,reduceIte,reduceCtorEq,Nat.reduceEqDiff,Nat.reduceAdd,Nat.reduceMul,Nat.reduceLT,Nat.reduceSub,Int.reduceLT,Int.reduceLE,Int.reduceEq,Int.reduceNe,Int.reduceSub,Int.reduceAdd,Int.reduceMul,Int.reduceBEq,Int.reduceBNe,Int.reduceGT,Int.reduceGE,Nat.reduceGT,Int.reduceToNat,Int.reduceNeg,Nat.reduceLeDiff,Nat.reduceBEq,Nat.reduceBneDiff]
  refine (qet E K B).mono ?_
  rintro v H1 ⟨le1, ow1⟩
  have sl1 := ow1.sl
  obtain ⟨base, c, rfl⟩ := sl1.shape
  unfold q7s
  generalize q7z S = L at hl h8 ow1 sl1 ⊢
  simp -implicitDefEqProofs only [zA,reduceIte,reduceCtorEq,Nat.reduceEqDiff,Nat.reduceAdd,Nat.reduceMul,Nat.reduceLT,Nat.reduceSub,Int.reduceLT,Int.reduceLE,Int.reduceEq,Int.reduceNe,Int.reduceSub,Int.reduceAdd,Int.reduceMul,Int.reduceBEq,Int.reduceBNe,Int.reduceGT,Int.reduceGE,Nat.reduceGT,Int.reduceToNat,Int.reduceNeg,Nat.reduceLeDiff,Nat.reduceBEq,Nat.reduceBneDiff]
  refine q0s (fun m t G => H1.le G ∧ ∃ (i : Nat) (vl : Value), t = tl [(3, vl), (7, .slice base L.length c), (8, .int .i64 L.length), (9, .int .i64 i)] ∧ i ≤ L.length ∧ m = L.length - i ∧ Ow H1 G 1 vl ((L.take i).map (·.con)).length (((L.take i).map (·.con)).map strV)) L.length
    ⟨Heap.q04 _, 0, _, rfl, by omega, by omega, Ow.nil _ _ _⟩ ?_
  rintro m t G ⟨le, i, vl, rfl, hi, rfl, ow⟩
  by_cases hlt : i < L.length
  · obtain ⟨bs, o, c', hv, hc, q0u⟩ := sl1.edAt h8 i hlt
    simp only [Value.slice.injEq, true_and] at hv
    obtain ⟨rfl, rfl⟩ := hv
    have hi1 : (i : Int) < L.length := by omega
    have hi2 : (0 : Int) ≤ i := by omega
    have w1 : IntKind.i64.wrap ((i : Int) + 1) = ((i + 1 : Nat) : Int) := q9r (by omega)
    have hi3 := q0u _ le
    have hx := h8 L[i] (List.getElem_mem hlt)
    have et : L.take (i + 1) = L.take i ++ [L[i]] := List.take_succ_eq_append_getElem hlt
    generalize L[i] = y at hi3 hx et
    simp -implicitDefEqProofs only [zA,reduceIte,reduceCtorEq,Nat.reduceEqDiff,Nat.reduceAdd,Nat.reduceMul,Nat.reduceLT,Nat.reduceSub,Int.reduceLT,Int.reduceLE,Int.reduceEq,Int.reduceNe,Int.reduceSub,Int.reduceAdd,Int.reduceMul,Int.reduceBEq,Int.reduceBNe,Int.reduceGT,Int.reduceGE,Nat.reduceGT,Int.reduceToNat,Int.reduceNeg,Nat.reduceLeDiff,Nat.reduceBEq,Nat.reduceBneDiff,hi1,hi2,Int.toNat_natCast,hi3]
    intro b6 hb6
    have s6 := stE G b6 hx
    unfold Z15 at s6
    try simp -implicitDefEqProofs only [zA,reduceIte,reduceCtorEq,Nat.reduceEqDiff,Nat.reduceAdd,Nat.reduceMul,Nat.reduceLT,Nat.reduceSub,Int.reduceLT,Int.reduceLE,Int.reduceEq,Int.reduceNe,Int.reduceSub,Int.reduceAdd,Int.reduceMul,Int.reduceBEq,Int.reduceBNe,Int.reduceGT,Int.reduceGE,Nat.reduceGT,Int.reduceToNat,Int.reduceNeg,Nat.reduceLeDiff,Nat.reduceBEq,Nat.reduceBneDiff,s6]
    have le6 : G.le (G.set b6 (.own 0 (edC y) 15)) := Heap.q0a (Heap.q04 _) hb6 _
    have A : EdAt (G.set b6 (.own 0 (edC y) 15)) b6 y := EdAt.of (Heap.q03 _ _ _) hx
    have ow6 := ow.le le6
    have leB := Heap.q00 le le6
    generalize (G.set b6 (.own 0 (edC y) 15)) = G6 at le6 A ow6 leB
    have hn : (L.take i).length ≤ i := by rw [List.length_take]; omega
    · · simp -implicitDefEqProofs only [zA,reduceIte,reduceCtorEq,Nat.reduceEqDiff,Nat.reduceAdd,Nat.reduceMul,Nat.reduceLT,Nat.reduceSub,Int.reduceLT,Int.reduceLE,Int.reduceEq,Int.reduceNe,Int.reduceSub,Int.reduceAdd,Int.reduceMul,Int.reduceBEq,Int.reduceBNe,Int.reduceGT,Int.reduceGE,Nat.reduceGT,Int.reduceToNat,Int.reduceNeg,Nat.reduceLeDiff,Nat.reduceBEq,Nat.reduceBneDiff,A.con]
        intro b8 hb8
        try simp -implicitDefEqProofs only [zA,reduceIte,reduceCtorEq,Nat.reduceEqDiff,Nat.reduceAdd,Nat.reduceMul,Nat.reduceLT,Nat.reduceSub,Int.reduceLT,Int.reduceLE,Int.reduceEq,Int.reduceNe,Int.reduceSub,Int.reduceAdd,Int.reduceMul,Int.reduceBEq,Int.reduceBNe,Int.reduceGT,Int.reduceGE,Nat.reduceGT,Int.reduceToNat,Int.reduceNeg,Nat.reduceLeDiff,Nat.reduceBEq,Nat.reduceBneDiff]
        have le8 := Heap.q0a (Heap.q04 G6) hb8 (.own 0 [strV y.con] 1)
        refine q1t (bytes := 16) (m := 1) (news := [strV y.con]) (Heap.q00 leB le8) (by decide) (ow6.le le8) (Sl.lit (n := 1) rfl) rfl (by rw [List.length_map]; omega) (by rw [List.length_map]; omega) ?_
        intro v' h' ow9 le9
        simp -implicitDefEqProofs only [zA,reduceIte,reduceCtorEq,Nat.reduceEqDiff,Nat.reduceAdd,Nat.reduceMul,Nat.reduceLT,Nat.reduceSub,Int.reduceLT,Int.reduceLE,Int.reduceEq,Int.reduceNe,Int.reduceSub,Int.reduceAdd,Int.reduceMul,Int.reduceBEq,Int.reduceBNe,Int.reduceGT,Int.reduceGE,Nat.reduceGT,Int.reduceToNat,Int.reduceNeg,Nat.reduceLeDiff,Nat.reduceBEq,Nat.reduceBneDiff,w1]
        refine ⟨_, ?_, le9, i + 1, v', rfl, by omega, rfl, ?_⟩
        · omega
        · rw [et]
          simp only [List.map_append, List.length_append, List.map_cons, List.map_nil, List.length_cons, List.length_nil]
          simpa using ow9
  · have hi1 : ¬ (i : Int) < L.length := by omega
    have e : i = L.length := by omega
    subst e
    rw [List.take_length] at ow
    have hn2 : L.length ≤ L.length := Nat.le_refl _
    simp -implicitDefEqProofs only [zA,reduceIte,reduceCtorEq,Nat.reduceEqDiff,Nat.reduceAdd,Nat.reduceMul,Nat.reduceLT,Nat.reduceSub,Int.reduceLT,Int.reduceLE,Int.reduceEq,Int.reduceNe,Int.reduceSub,Int.reduceAdd,Int.reduceMul,Int.reduceBEq,Int.reduceBNe,Int.reduceGT,Int.reduceGE,Nat.reduceGT,Int.reduceToNat,Int.reduceNeg,Nat.reduceLeDiff,Nat.reduceBEq,Nat.reduceBneDiff,hi1]
    refine (qku E K ow (by rw [List.length_map]; omega)).mono ?_
    rintro u H2 ⟨ow2, k2⟩
    have leU := qfc le k2
    simp -implicitDefEqProofs only [zA,reduceIte,reduceCtorEq,Nat.reduceEqDiff,Nat.reduceAdd,Nat.reduceMul,Nat.reduceLT,Nat.reduceSub,Int.reduceLT,Int.reduceLE,Int.reduceEq,Int.reduceNe,Int.reduceSub,Int.reduceAdd,Int.reduceMul,Int.reduceBEq,Int.reduceBNe,Int.reduceGT,Int.reduceGE,Nat.reduceGT,Int.reduceToNat,Int.reduceNeg,Nat.reduceLeDiff,Nat.reduceBEq,Nat.reduceBneDiff]
    refine (qh2 E K ow2 (by rw [qan, List.length_map]; omega)).mono ?_
    rintro u H3 ⟨ow3, k3⟩
    have leV := qfc leU k3
    simp -implicitDefEqProofs only [zA,reduceIte,reduceCtorEq,Nat.reduceEqDiff,Nat.reduceAdd,Nat.reduceMul,Nat.reduceLT,Nat.reduceSub,Int.reduceLT,Int.reduceLE,Int.reduceEq,Int.reduceNe,Int.reduceSub,Int.reduceAdd,Int.reduceMul,Int.reduceBEq,Int.reduceBNe,Int.reduceGT,Int.reduceGE,Nat.reduceGT,Int.reduceToNat,Int.reduceNeg,Nat.reduceLeDiff,Nat.reduceBEq,Nat.reduceBneDiff]
    exact ⟨Heap.q00 le1 leV, ow3.since le1⟩
theorem qh5 (E : EnvT tab) (K : BkOk E) {H : Heap} {b r : Nat} {S : List Ed} (B : BookAt H b r S) (con fld : Str) :
    ACallN E.toEnv qg1 [.pointer (some ⟨b, 0, none⟩), strV con, strV fld] H fun v H' => H.le H' ∧ v = .tuple #[strV ((allB S con fld).getLastD []), .bool (decide (allB S con fld ≠ []))] := by
  refine q1i qa0 q5r rfl rfl (q01 ?_)
  unfold q5r
  simp -implicitDefEqProofs only [zA,reduceIte,reduceCtorEq,Nat.reduceEqDiff,Nat.reduceAdd,Nat.reduceMul,Nat.reduceLT,Nat.reduceSub,Int.reduceLT,Int.reduceLE,Int.reduceEq,Int.reduceNe,Int.reduceSub,Int.reduceAdd,Int.reduceMul,Int.reduceBEq,Int.reduceBNe,Int.reduceGT,Int.reduceGE,Nat.reduceGT,Int.reduceToNat,Int.reduceNeg,Nat.reduceLeDiff,Nat.reduceBEq,Nat.reduceBneDiff]
  refine (qge E K B con fld).mono ?_
  rintro v H1 ⟨le1, ow⟩
  have sl := ow.sl
  have hl : (allB S con fld).length ≤ 500 := by
    have h1 := q7c S
    have h2 := B.ok.len
    unfold allB
    rw [List.length_map]
    have := List.length_filter_le (fun e : Ed => decide (e.con = con) && decide (e.fld = fld)) (q7z S)
    omega
  generalize allB S con fld = L at ow sl hl ⊢
  obtain ⟨base, c, rfl⟩ := sl.shape
  by_cases h0 : L = []
  · subst h0
    simp -implicitDefEqProofs only [zA,reduceIte,reduceCtorEq,Nat.reduceEqDiff,Nat.reduceAdd,Nat.reduceMul,Nat.reduceLT,Nat.reduceSub,Int.reduceLT,Int.reduceLE,Int.reduceEq,Int.reduceNe,Int.reduceSub,Int.reduceAdd,Int.reduceMul,Int.reduceBEq,Int.reduceBNe,Int.reduceGT,Int.reduceGE,Nat.reduceGT,Int.reduceToNat,Int.reduceNeg,Nat.reduceLeDiff,Nat.reduceBEq,Nat.reduceBneDiff,List.length_nil]
    exact ⟨le1, rfl⟩
  · have hp : 0 < L.length := List.length_pos_iff.2 h0
    have h1 : ¬ ((L.length : Int) = 0) := by omega
    have w1 : IntKind.i64.wrap ((L.length : Int) - 1) = ((L.length - 1 : Nat) : Int) := by
      have e : ((L.length : Int) - 1) = ((L.length - 1 : Nat) : Int) := by omega
      rw [e]
      exact qn3 (by omega) (by omega)
    rw [← qbn strV L] at sl
    obtain ⟨bs, o, c', hv, hc, q0u⟩ := Sl.at (f := fun s => [strV s]) (fun _ => rfl) sl (L.length - 1) (by omega) (by decide)
    simp only [Value.slice.injEq, true_and] at hv
    obtain ⟨rfl, rfl⟩ := hv
    have hi1 : ((L.length - 1 : Nat) : Int) < L.length := by omega
    have hi2 : (0 : Int) ≤ ((L.length - 1 : Nat) : Int) := by omega
    have h3 := q0u H1 (Heap.q04 _)
    have hi3 := qa3 h3 0 Nat.zero_lt_one
    simp only [List.getElem?_cons_zero, Nat.mul_one, Nat.add_zero] at hi3
    have e1 : L.getLastD [] = L[L.length - 1] := by
      rw [List.getLastD_eq_getLast?, List.getLast?_eq_getElem?, List.getElem?_eq_getElem (by omega)]; rfl
    rw [e1]
    simp -implicitDefEqProofs only [zA,reduceIte,reduceCtorEq,Nat.reduceEqDiff,Nat.reduceAdd,Nat.reduceMul,Nat.reduceLT,Nat.reduceSub,Int.reduceLT,Int.reduceLE,Int.reduceEq,Int.reduceNe,Int.reduceSub,Int.reduceAdd,Int.reduceMul,Int.reduceBEq,Int.reduceBNe,Int.reduceGT,Int.reduceGE,Nat.reduceGT,Int.reduceToNat,Int.reduceNeg,Nat.reduceLeDiff,Nat.reduceBEq,Nat.reduceBneDiff,h1,w1,hi1,hi2,Int.toNat_natCast,hi3]
    refine ⟨le1, ?_⟩
    simp [h0]
end Go.Bb
namespace Go.Bb
set_option linter.unusedSimpArgs false
set_option linter.unusedVariables false
set_option maxRecDepth 20000
set_option maxHeartbeats 2000000
open Go.MapKept
def Has1 (S : List Ed) (d : Int) (k : Nat) : Prop := ∀ j : Nat, 1 ≤ j → j ≤ k → ∃ e ∈ S, e.dev = d ∧ e.n = j
def CntB (S : List Ed) (d : Int) (k : Nat) : Prop := Has1 S d k ∧ ∀ e ∈ S, ¬ (e.dev = d ∧ e.n = (k + 1 : Nat))
def VecOf (S : List Ed) (v : List Int) : Prop := v.length = 8 ∧ ∀ d : Nat, d < 8 → ∃ k : Nat, v[d]? = some (k : Int) ∧ CntB S d k
theorem Has1.le {S : List Ed} (ok : BkS S) {d : Int} {k : Nat} (h : Has1 S d k) : k ≤ 1099511627776 := by
  by_cases h0 : k = 0
  · omega
  obtain ⟨e, he, hd, hn⟩ := h k (by omega) (Nat.le_refl _)
  have := ok.good e he
  simp only [q43, Bool.and_eq_true, decide_eq_true_eq] at this
  have := this.1.1.1.1.1.2.2
  omega
theorem CntB.eq {S : List Ed} {d : Int} {k m : Nat} (h : CntB S d k) (g : CntB S d m) : k = m := by
  rcases Nat.lt_trichotomy k m with c | c | c
  · obtain ⟨e, he, hd, hn⟩ := g.1 (k + 1) (by omega) (by omega)
    exact absurd ⟨hd, hn⟩ (h.2 e he)
  · exact c
  · obtain ⟨e, he, hd, hn⟩ := h.1 (m + 1) (by omega) (by omega)
    exact absurd ⟨hd, hn⟩ (g.2 e he)
theorem VecOf.eq {S : List Ed} {v w : List Int} (h : VecOf S v) (g : VecOf S w) : v = w := by
  apply List.ext_getElem?
  intro i
  by_cases hi : i < 8
  · obtain ⟨k, h1, h2⟩ := h.2 i hi
    obtain ⟨m, g1, g2⟩ := g.2 i hi
    rw [h1, g1, h2.eq g2]
  · rw [List.getElem?_eq_none (by rw [h.1]; omega), List.getElem?_eq_none (by rw [g.1]; omega)]
structure VS (H G : Heap) (b2 b3 : Nat) (v : List Int) : Prop where
  le : H.le G
  n2 : H b2 = none
  n3 : H b3 = none
  ne : b2 ≠ b3
  q2 : G b2 = some (.own 0 (List.replicate 8 (.int .i64 0)) 8)
  q3 : G b3 = some (.own 0 (v.map (.int .i64)) 8)
  h8 : v.length = 8
theorem VS.more {H G G' : Heap} {b2 b3 : Nat} {v : List Int} (s : VS H G b2 b3 v) (le : G.le G') : VS H G' b2 b3 v :=
  ⟨Heap.q00 s.le le, s.n2, s.n3, s.ne, le _ _ s.q2, le _ _ s.q3, s.h8⟩
theorem VS.put {H G : Heap} {b2 b3 : Nat} {v : List Int} (s : VS H G b2 b3 v) (w : List Int) (hw : w.length = 8) : VS H (G.set b3 (.own 0 (w.map (.int .i64)) 8)) b2 b3 w :=
  ⟨Heap.q0a s.le s.n3 _, s.n2, s.n3, s.ne, by rw [Heap.q0x s.ne]; exact s.q2, Heap.q03 _ _ _, hw⟩
theorem VS.cell {H G : Heap} {b2 b3 : Nat} {v : List Int} (s : VS H G b2 b3 v) (i : Nat) (hi : i < 8) : q0u G ⟨b3, i, none⟩ = some (.int .i64 (v[i]'(by rw [s.h8]; exact hi))) := by
  rw [q0z s.q3 (by simp [s.h8]; exact hi)]
  simp
theorem fvKD (d n : Int) (es : List MapEntry) : q7r (.agg [some IntKind.i64, some IntKind.i64]) (.agg [Value.int .i64 d, Value.int .i64 n].toArray) es 0 = q7r KD (dotK d n) es 0 := rfl
theorem qgd (E : EnvT tab) {H : Heap} {b r : Nat} {S : List Ed} (B : BookAt H b r S) :
    ACallN E.toEnv qic [.pointer (some ⟨b, 0, none⟩)] H fun x H' => H.le H' ∧ ∃ v, VecOf S v ∧ x = .agg (v.map (.int .i64)).toArray := by
  refine q1i qb2 q7v rfl rfl (q01 ?_)
  unfold q7v
  simp -implicitDefEqProofs only [zA,reduceIte,reduceCtorEq,Nat.reduceEqDiff,Nat.reduceAdd,Nat.reduceMul,Nat.reduceLT,Nat.reduceSub,Int.reduceLT,Int.reduceLE,Int.reduceEq,Int.reduceNe,Int.reduceSub,Int.reduceAdd,Int.reduceMul,Int.reduceBEq,Int.reduceBNe,Int.reduceGT,Int.reduceGE,Nat.reduceGT,Int.reduceToNat,Int.reduceNeg,Nat.reduceLeDiff,Nat.reduceBEq,Nat.reduceBneDiff]
  intro b2 hb2
  try simp -implicitDefEqProofs only [zA,reduceIte,reduceCtorEq,Nat.reduceEqDiff,Nat.reduceAdd,Nat.reduceMul,Nat.reduceLT,Nat.reduceSub,Int.reduceLT,Int.reduceLE,Int.reduceEq,Int.reduceNe,Int.reduceSub,Int.reduceAdd,Int.reduceMul,Int.reduceBEq,Int.reduceBNe,Int.reduceGT,Int.reduceGE,Nat.reduceGT,Int.reduceToNat,Int.reduceNeg,Nat.reduceLeDiff,Nat.reduceBEq,Nat.reduceBneDiff]
  intro b3 hb3
  try simp -implicitDefEqProofs only [zA,reduceIte,reduceCtorEq,Nat.reduceEqDiff,Nat.reduceAdd,Nat.reduceMul,Nat.reduceLT,Nat.reduceSub,Int.reduceLT,Int.reduceLE,Int.reduceEq,Int.reduceNe,Int.reduceSub,Int.reduceAdd,Int.reduceMul,Int.reduceBEq,Int.reduceBNe,Int.reduceGT,Int.reduceGE,Nat.reduceGT,Int.reduceToNat,Int.reduceNeg,Nat.reduceLeDiff,Nat.reduceBEq,Nat.reduceBneDiff,List.length_replicate]
  have ne : b3 ≠ b2 := by intro e; subst e; rw [Heap.q03] at hb3; cases hb3
  have hb3' : H b3 = none := by rw [Heap.q0x ne] at hb3; exact hb3
  have V0 : VS H ((H.set b2 (.own 0 (List.replicate 8 (.int .i64 0)) 8)).set b3 (.own 0 (List.replicate 8 (.int .i64 0)) 8)) b2 b3 (List.replicate 8 0) :=
    ⟨Heap.qfo (Heap.q0a (Heap.q04 _) hb2 _) hb3 _, hb2, hb3', ne.symm, by rw [Heap.q0x ne.symm, Heap.q03], by rw [Heap.q03]; rfl, rfl⟩
  generalize ((H.set b2 (.own 0 (List.replicate 8 (.int .i64 0)) 8)).set b3 (.own 0 (List.replicate 8 (.int .i64 0)) 8)) = G0 at V0
  refine q0s (fun m t G => ∃ (i : Nat) (v : List Int), t = tl [(0, .pointer (some ⟨b, 0, none⟩)), (2, .pointer (some ⟨b2, 0, none⟩)), (3, .pointer (some ⟨b3, 0, none⟩)), (7, .int .i64 i)] ∧ i ≤ 8 ∧ m = 8 - i ∧ VS H G b2 b3 v ∧ (∀ d : Nat, d < i → ∃ k : Nat, v[d]? = some (k : Int) ∧ CntB S d k) ∧ (∀ d : Nat, i ≤ d → d < 8 → v[d]? = some 0)) 8
    ⟨0, _, rfl, by omega, by omega, V0, fun d hd => by omega, fun d _ hd => by rw [List.getElem?_replicate, if_pos hd]⟩ ?_
  rintro m t G ⟨i, v, rfl, hi, rfl, V, hdone, hrest⟩
  by_cases hlt : i < 8
  · have hi1 : (i : Int) < 8 := by omega
    have hi2 : (0 : Int) ≤ i := by omega
    have w1 : IntKind.i64.wrap ((i : Int) + 1) = ((i + 1 : Nat) : Int) := q9r (by omega)
    simp -implicitDefEqProofs only [zA,reduceIte,reduceCtorEq,Nat.reduceEqDiff,Nat.reduceAdd,Nat.reduceMul,Nat.reduceLT,Nat.reduceSub,Int.reduceLT,Int.reduceLE,Int.reduceEq,Int.reduceNe,Int.reduceSub,Int.reduceAdd,Int.reduceMul,Int.reduceBEq,Int.reduceBNe,Int.reduceGT,Int.reduceGE,Nat.reduceGT,Int.reduceToNat,Int.reduceNeg,Nat.reduceLeDiff,Nat.reduceBEq,Nat.reduceBneDiff,hi1]
    unfold qax
    simp -implicitDefEqProofs only [zA,reduceIte,reduceCtorEq,Nat.reduceEqDiff,Nat.reduceAdd,Nat.reduceMul,Nat.reduceLT,Nat.reduceSub,Int.reduceLT,Int.reduceLE,Int.reduceEq,Int.reduceNe,Int.reduceSub,Int.reduceAdd,Int.reduceMul,Int.reduceBEq,Int.reduceBNe,Int.reduceGT,Int.reduceGE,Nat.reduceGT,Int.reduceToNat,Int.reduceNeg,Nat.reduceLeDiff,Nat.reduceBEq,Nat.reduceBneDiff]
    refine q0s (fun m t G => ∃ (k : Nat) (w : List Int), t = tl [(0, .pointer (some ⟨b, 0, none⟩)), (2, .pointer (some ⟨b2, 0, none⟩)), (3, .pointer (some ⟨b3, 0, none⟩)), (4, .int .i64 i), (7, .int .i64 i)] ∧ m = 1099511627776 - k ∧ VS H G b2 b3 w ∧ Has1 S i k ∧ w[i]? = some (k : Int) ∧ (∀ d : Nat, d ≠ i → w[d]? = v[d]?)) 1099511627776
      ⟨0, v, rfl, by omega, V, fun j h1 h2 => by omega, hrest i (Nat.le_refl _) hlt, fun _ _ => rfl⟩ ?_
    rintro m t G1 ⟨k, w, rfl, rfl, W, hh, hwi, hoth⟩
    have hk := hh.le B.ok
    have BG := B.le W.le
    obtain ⟨es, c, L, qr, en, hp, st⟩ := BG.qr
    have cb : q0u G1 ⟨b, 0, none⟩ = some (.map (some r)) := by rw [q0z BG.qb (by simp)]; rfl
    have ma : qar G1 r = some (es, c) := by simp [qar, qr]
    have c3 := W.cell i hlt
    have hwi2 : w[i]'(by rw [W.h8]; exact hlt) = k := by rw [List.getElem?_eq_getElem (by rw [W.h8]; exact hlt)] at hwi; simpa using hwi
    rw [hwi2] at c3
    have w2 : IntKind.i64.wrap ((k : Int) + 1) = ((k + 1 : Nat) : Int) := q9r (by omega)
    have kf : qbc (.agg [some IntKind.i64, some IntKind.i64]) (.agg #[Value.int .i64 i, Value.int .i64 ((k + 1 : Nat) : Int)]) = some () := rfl
    have hgp := ql9 hp BG.ok i ((k + 1 : Nat) : Int)
    cases hgd : qby S i ((k + 1 : Nat) : Int) with
    | none =>
      rw [hgd] at hgp
      have fv := qgb 0 en hgp
      simp -implicitDefEqProofs only [zA,reduceIte,reduceCtorEq,Nat.reduceEqDiff,Nat.reduceAdd,Nat.reduceMul,Nat.reduceLT,Nat.reduceSub,Int.reduceLT,Int.reduceLE,Int.reduceEq,Int.reduceNe,Int.reduceSub,Int.reduceAdd,Int.reduceMul,Int.reduceBEq,Int.reduceBNe,Int.reduceGT,Int.reduceGE,Nat.reduceGT,Int.reduceToNat,Int.reduceNeg,Nat.reduceLeDiff,Nat.reduceBEq,Nat.reduceBneDiff,cb,hi1,hi2,Int.toNat_natCast,c3,w2,ma,fvKD,fv,kf]
      intro b5 hb5
      have s5 : q4g (G1.set b5 (.own 0 Z15 Z15.length)) 15 (.pointer (some ⟨b5, 0, none⟩)) (.agg Z15.toArray) = some (G1.set b5 (.own 0 Z15 15)) := z6z (by decide) rfl rfl rfl (by decide)
      unfold Z15 at s5
      have le5 := Heap.q0a (Heap.q04 G1) hb5 (.own 0 (List.replicate 11 (.int .i64 0) ++ [.string .empty, .string .empty, .string .empty, .int .i64 0]) 15)
      simp -implicitDefEqProofs only [zA,reduceIte,reduceCtorEq,Nat.reduceEqDiff,Nat.reduceAdd,Nat.reduceMul,Nat.reduceLT,Nat.reduceSub,Int.reduceLT,Int.reduceLE,Int.reduceEq,Int.reduceNe,Int.reduceSub,Int.reduceAdd,Int.reduceMul,Int.reduceBEq,Int.reduceBNe,Int.reduceGT,Int.reduceGE,Nat.reduceGT,Int.reduceToNat,Int.reduceNeg,Nat.reduceLeDiff,Nat.reduceBEq,Nat.reduceBneDiff,s5,w1]
      refine ⟨fun _ _ => trivial, _, ?_, i + 1, w, rfl, by omega, rfl, W.more le5, fun d hd => ?_, fun d h1 h2 => ?_⟩
      · omega
      · by_cases e : d = i
        · subst e
          rw [q9j] at hgd
          exact ⟨k, hwi, hh, hgd⟩
        · rw [hoth d e]; exact hdone d (by omega)
      · rw [hoth d (by omega)]; exact hrest d (by omega) h2
    | some e =>
      rw [hgd] at hgp
      obtain ⟨j, fv⟩ := qga 0 en hgp
      unfold edV at fv
      have hge := getD_some hgd
      have he8 := BG.ok.h8 e hge.1
      simp -implicitDefEqProofs only [zA,reduceIte,reduceCtorEq,Nat.reduceEqDiff,Nat.reduceAdd,Nat.reduceMul,Nat.reduceLT,Nat.reduceSub,Int.reduceLT,Int.reduceLE,Int.reduceEq,Int.reduceNe,Int.reduceSub,Int.reduceAdd,Int.reduceMul,Int.reduceBEq,Int.reduceBNe,Int.reduceGT,Int.reduceGE,Nat.reduceGT,Int.reduceToNat,Int.reduceNeg,Nat.reduceLeDiff,Nat.reduceBEq,Nat.reduceBneDiff,cb,hi1,hi2,Int.toNat_natCast,c3,w2,ma,fvKD,fv,kf]
      intro b5 hb5
      have s5 := stE G1 b5 he8
      unfold Z15 at s5
      have le5 := Heap.q0a (Heap.q04 G1) hb5 (.own 0 (edC e) 15)
      have W5 := W.more le5
      simp -implicitDefEqProofs only [zA,reduceIte,reduceCtorEq,Nat.reduceEqDiff,Nat.reduceAdd,Nat.reduceMul,Nat.reduceLT,Nat.reduceSub,Int.reduceLT,Int.reduceLE,Int.reduceEq,Int.reduceNe,Int.reduceSub,Int.reduceAdd,Int.reduceMul,Int.reduceBEq,Int.reduceBNe,Int.reduceGT,Int.reduceGE,Nat.reduceGT,Int.reduceToNat,Int.reduceNeg,Nat.reduceLeDiff,Nat.reduceBEq,Nat.reduceBneDiff,s5]
      unfold qaw
      generalize (G1.set b5 (.own 0 (edC e) 15)) = G5 at le5 W5 ⊢
      have c5 := W5.cell i hlt
      rw [hwi2] at c5
      have st6 : q4g G5 1 (.pointer (some ⟨b3, i, none⟩)) (.int .i64 ((k + 1 : Nat) : Int)) = some (G5.set b3 (.own 0 ((w.set i ((k + 1 : Nat) : Int)).map (.int .i64)) 8)) := by
        rw [qc5 W5.q3 rfl (by simp [W5.h8]; exact hlt) (by simp [W5.h8]), List.map_set]
      simp -implicitDefEqProofs only [zA,reduceIte,reduceCtorEq,Nat.reduceEqDiff,Nat.reduceAdd,Nat.reduceMul,Nat.reduceLT,Nat.reduceSub,Int.reduceLT,Int.reduceLE,Int.reduceEq,Int.reduceNe,Int.reduceSub,Int.reduceAdd,Int.reduceMul,Int.reduceBEq,Int.reduceBNe,Int.reduceGT,Int.reduceGE,Nat.reduceGT,Int.reduceToNat,Int.reduceNeg,Nat.reduceLeDiff,Nat.reduceBEq,Nat.reduceBneDiff,hi1,hi2,Int.toNat_natCast,c5,w2,st6]
      have hk1 : Has1 S i (k + 1) := fun j h1 h2 => by
        by_cases e' : j = k + 1
        · exact ⟨e, hge.1, hge.2.1, by rw [e']; exact hge.2.2⟩
        · exact hh j h1 (by omega)
      have hk2 := hk1.le B.ok
      refine ⟨fun _ _ => trivial, _, ?_, k + 1, w.set i ((k + 1 : Nat) : Int), rfl, W5.put _ (by rw [List.length_set]; exact W5.h8), hk1, ?_, fun d hd => ?_⟩
      · omega
      · rw [List.getElem?_set]; simp [W5.h8, hlt]
      · rw [List.getElem?_set, if_neg (Ne.symm hd)]; exact hoth d hd
  · have hi1 : ¬ (i : Int) < 8 := by omega
    have e : i = 8 := by omega
    subst e
    have ld : q08 G ⟨b3, 0, none⟩ 8 = some (v.map (.int .i64)) := by
      rw [q2e V.q3 (by simp [V.h8])]
      simp [V.h8, List.take_of_length_le]
    have vl : (v.map (Value.int .i64)).length = 8 := by simp [V.h8]
    have st : q4g G 8 (.pointer (some ⟨b2, 0, none⟩)) (.agg (v.map (.int .i64)).toArray) = some (G.set b2 (.own 0 (v.map (.int .i64)) 8)) :=
      q4x V.q2 (by decide) vl (by simp [Bb.one]) (by simp) (by decide)
    have l2 : q08 (G.set b2 (.own 0 (v.map (.int .i64)) 8)) ⟨b2, 0, none⟩ 8 = some (v.map (.int .i64)) := z6x vl
    simp -implicitDefEqProofs only [zA,reduceIte,reduceCtorEq,Nat.reduceEqDiff,Nat.reduceAdd,Nat.reduceMul,Nat.reduceLT,Nat.reduceSub,Int.reduceLT,Int.reduceLE,Int.reduceEq,Int.reduceNe,Int.reduceSub,Int.reduceAdd,Int.reduceMul,Int.reduceBEq,Int.reduceBNe,Int.reduceGT,Int.reduceGE,Nat.reduceGT,Int.reduceToNat,Int.reduceNeg,Nat.reduceLeDiff,Nat.reduceBEq,Nat.reduceBneDiff,hi1,ld,st,l2]
    exact ⟨Heap.q0a V.le V.n2 _, v, ⟨V.h8, hdone⟩, rfl⟩
theorem qm9 (E : EnvT tab) {H : Heap} {b r : Nat} {S : List Ed} (B : BookAt H b r S) (dev : Int) :
    ACallN E.toEnv qhh [.pointer (some ⟨b, 0, none⟩), .int .i64 dev] H fun x H' => H.le H' ∧
      (0 ≤ dev ∧ dev < 8 → ∃ v k : _, VecOf S v ∧ v[dev.toNat]? = some k ∧ x = .tuple #[dotK dev (k + 1), .agg (v.map (.int .i64)).toArray]) ∧
      (¬ (0 ≤ dev ∧ dev < 8) → x = .tuple #[dotK 0 0, .agg ((List.replicate 8 (0 : Int)).map (.int .i64)).toArray]) := by
  refine q1i qae q6v rfl rfl (q01 ?_)
  unfold q6v
  simp -implicitDefEqProofs only [zA,reduceIte,reduceCtorEq,Nat.reduceEqDiff,Nat.reduceAdd,Nat.reduceMul,Nat.reduceLT,Nat.reduceSub,Int.reduceLT,Int.reduceLE,Int.reduceEq,Int.reduceNe,Int.reduceSub,Int.reduceAdd,Int.reduceMul,Int.reduceBEq,Int.reduceBNe,Int.reduceGT,Int.reduceGE,Nat.reduceGT,Int.reduceToNat,Int.reduceNeg,Nat.reduceLeDiff,Nat.reduceBEq,Nat.reduceBneDiff]
  intro b4 hb4
  try simp -implicitDefEqProofs only [zA,reduceIte,reduceCtorEq,Nat.reduceEqDiff,Nat.reduceAdd,Nat.reduceMul,Nat.reduceLT,Nat.reduceSub,Int.reduceLT,Int.reduceLE,Int.reduceEq,Int.reduceNe,Int.reduceSub,Int.reduceAdd,Int.reduceMul,Int.reduceBEq,Int.reduceBNe,Int.reduceGT,Int.reduceGE,Nat.reduceGT,Int.reduceToNat,Int.reduceNeg,Nat.reduceLeDiff,Nat.reduceBEq,Nat.reduceBneDiff]
  intro b5 hb5
  try simp -implicitDefEqProofs only [zA,reduceIte,reduceCtorEq,Nat.reduceEqDiff,Nat.reduceAdd,Nat.reduceMul,Nat.reduceLT,Nat.reduceSub,Int.reduceLT,Int.reduceLE,Int.reduceEq,Int.reduceNe,Int.reduceSub,Int.reduceAdd,Int.reduceMul,Int.reduceBEq,Int.reduceBNe,Int.reduceGT,Int.reduceGE,Nat.reduceGT,Int.reduceToNat,Int.reduceNeg,Nat.reduceLeDiff,Nat.reduceBEq,Nat.reduceBneDiff]
  have ne : b5 ≠ b4 := by intro e; subst e; rw [Heap.q03] at hb5; cases hb5
  have hb5' : H b5 = none := by rw [Heap.q0x ne] at hb5; exact hb5
  rw [List.length_replicate]
  have le0 : H.le ((H.set b4 (.own 0 [.int .i64 0, .int .i64 0] 2)).set b5 (.own 0 (List.replicate 8 (.int .i64 0)) 8)) := Heap.qfo (Heap.q0a (Heap.q04 _) hb4 _) hb5 _
  have q4 : ((H.set b4 (.own 0 [.int .i64 0, .int .i64 0] 2)).set b5 (.own 0 (List.replicate 8 (.int .i64 0)) 8)) b4 = some (.own 0 [.int .i64 0, .int .i64 0] 2) := by rw [Heap.q0x ne.symm, Heap.q03]
  have q5 : ((H.set b4 (.own 0 [.int .i64 0, .int .i64 0] 2)).set b5 (.own 0 (List.replicate 8 (.int .i64 0)) 8)) b5 = some (.own 0 (List.replicate 8 (.int .i64 0)) 8) := Heap.q03 _ _ _
  generalize ((H.set b4 (.own 0 [.int .i64 0, .int .i64 0] 2)).set b5 (.own 0 (List.replicate 8 (.int .i64 0)) 8)) = G at le0 q4 q5
  refine (qhx E G dev).mono ?_
  rintro x G1 ⟨rfl, rfl⟩
  have fin : ∀ (G2 : Heap), G1.le G2 → ∀ (a c : Int) (w : List Int), w.length = 8 →
      q4g G2 2 (.pointer (some ⟨b4, 0, none⟩)) (.agg [Value.int .i64 a, Value.int .i64 c].toArray) = some (G2.set b4 (.own 0 [.int .i64 a, .int .i64 c] 2)) ∧
      q4g (G2.set b4 (.own 0 [.int .i64 a, .int .i64 c] 2)) 8 (.pointer (some ⟨b5, 0, none⟩)) (.agg (w.map (.int .i64)).toArray) = some ((G2.set b4 (.own 0 [.int .i64 a, .int .i64 c] 2)).set b5 (.own 0 (w.map (.int .i64)) 8)) ∧
      q08 ((G2.set b4 (.own 0 [.int .i64 a, .int .i64 c] 2)).set b5 (.own 0 (w.map (.int .i64)) 8)) ⟨b4, 0, none⟩ 2 = some [.int .i64 a, .int .i64 c] ∧
      q08 ((G2.set b4 (.own 0 [.int .i64 a, .int .i64 c] 2)).set b5 (.own 0 (w.map (.int .i64)) 8)) ⟨b5, 0, none⟩ 8 = some (w.map (.int .i64)) ∧
      H.le ((G2.set b4 (.own 0 [.int .i64 a, .int .i64 c] 2)).set b5 (.own 0 (w.map (.int .i64)) 8)) := by
    intro G2 le a c w hw
    have h1 : ((G2.set b4 (.own 0 [.int .i64 a, .int .i64 c] 2)).set b5 (.own 0 (w.map (.int .i64)) 8)) b4 = some (.own 0 [.int .i64 a, .int .i64 c] 2) := by rw [Heap.q0x ne.symm, Heap.q03]
    refine ⟨q4x (le _ _ q4) (by decide) rfl rfl rfl (by decide), q4x (vs := List.replicate 8 (.int .i64 0)) (by rw [Heap.q0x ne]; exact le _ _ q5) (by decide) (by simp [hw]) (by simp [Bb.one]) (by simp) (by decide), ?_, z6x (by simp [hw]), Heap.q0a (Heap.q0a (Heap.q00 le0 le) hb4 _) hb5' _⟩
    rw [q2e h1 (by simp)]; rfl
  by_cases g : 0 ≤ dev ∧ dev < 8
  · have BG := B.le le0
    simp -implicitDefEqProofs only [zA,reduceIte,reduceCtorEq,Nat.reduceEqDiff,Nat.reduceAdd,Nat.reduceMul,Nat.reduceLT,Nat.reduceSub,Int.reduceLT,Int.reduceLE,Int.reduceEq,Int.reduceNe,Int.reduceSub,Int.reduceAdd,Int.reduceMul,Int.reduceBEq,Int.reduceBNe,Int.reduceGT,Int.reduceGE,Nat.reduceGT,Int.reduceToNat,Int.reduceNeg,Nat.reduceLeDiff,Nat.reduceBEq,Nat.reduceBneDiff,g]
    refine (qgd E BG).mono ?_
    rintro x G2 ⟨le2, v, hv, rfl⟩
    have v8 := hv.1
    have vl : (v.map (Value.int .i64)).length = 8 := by simp [v8]
    simp -implicitDefEqProofs only [zA,reduceIte,reduceCtorEq,Nat.reduceEqDiff,Nat.reduceAdd,Nat.reduceMul,Nat.reduceLT,Nat.reduceSub,Int.reduceLT,Int.reduceLE,Int.reduceEq,Int.reduceNe,Int.reduceSub,Int.reduceAdd,Int.reduceMul,Int.reduceBEq,Int.reduceBNe,Int.reduceGT,Int.reduceGE,Nat.reduceGT,Int.reduceToNat,Int.reduceNeg,Nat.reduceLeDiff,Nat.reduceBEq,Nat.reduceBneDiff]
    intro b6 hb6
    rw [List.length_replicate]
    have s6 : q4g (G2.set b6 (.own 0 (List.replicate 8 (.int .i64 0)) 8)) 8 (.pointer (some ⟨b6, 0, none⟩)) (.agg (v.map (.int .i64)).toArray) = some (G2.set b6 (.own 0 (v.map (.int .i64)) 8)) := z6z (by decide) vl (by simp [Bb.one]) (by simp) (by decide)
    have le6 := Heap.q0a (Heap.q04 G2) hb6 (.own 0 (v.map (.int .i64)) 8)
    have q6 : (G2.set b6 (.own 0 (v.map (.int .i64)) 8)) b6 = some (.own 0 (v.map (.int .i64)) 8) := Heap.q03 _ _ _
    have leY := Heap.q00 le2 le6
    obtain ⟨k, hk, hc⟩ := hv.2 dev.toNat (by omega)
    have hD : dev.toNat < v.length := by omega
    have hvd : v[dev.toNat] = k := by rw [List.getElem?_eq_getElem hD] at hk; simpa using hk
    have hkb := hc.1.le B.ok
    have w2 : IntKind.i64.wrap ((k : Int) + 1) = ((k + 1 : Nat) : Int) := q9r (by omega)
    have n64 : b6 ≠ b4 := fun e => by rw [e, le2 _ _ q4] at hb6; cases hb6
    try simp -implicitDefEqProofs only [zA,reduceIte,reduceCtorEq,Nat.reduceEqDiff,Nat.reduceAdd,Nat.reduceMul,Nat.reduceLT,Nat.reduceSub,Int.reduceLT,Int.reduceLE,Int.reduceEq,Int.reduceNe,Int.reduceSub,Int.reduceAdd,Int.reduceMul,Int.reduceBEq,Int.reduceBNe,Int.reduceGT,Int.reduceGE,Nat.reduceGT,Int.reduceToNat,Int.reduceNeg,Nat.reduceLeDiff,Nat.reduceBEq,Nat.reduceBneDiff,s6]
    generalize (G2.set b6 (.own 0 (v.map (.int .i64)) 8)) = G3 at le6 q6 leY ⊢
    have c6 : q0u G3 ⟨b6, dev.toNat, none⟩ = some (.int .i64 k) := by rw [q0z q6 (by simp; omega)]; simp [hvd]
    have l6 : q08 G3 ⟨b6, 0, none⟩ 8 = some (v.map (.int .i64)) := by
      rw [q2e q6 (by simp [v8])]
      simp [v8, List.take_of_length_le]
    obtain ⟨f1, f2, f3, f4, f5⟩ := fin G3 leY dev ((k + 1 : Nat) : Int) v v8
    have g1 := g.1
    have g2 := g.2
    have l6b : q08 (G3.set b4 (.own 0 [.int .i64 dev, .int .i64 ((k + 1 : Nat) : Int)] 2)) ⟨b6, 0, none⟩ 8 = some (v.map (.int .i64)) := by
      rw [q2e (vs := v.map (.int .i64)) (by rw [Heap.q0x n64]; exact q6) (by simp [v8])]
      simp [v8, List.take_of_length_le]
    simp -implicitDefEqProofs only [zA,reduceIte,reduceCtorEq,Nat.reduceEqDiff,Nat.reduceAdd,Nat.reduceMul,Nat.reduceLT,Nat.reduceSub,Int.reduceLT,Int.reduceLE,Int.reduceEq,Int.reduceNe,Int.reduceSub,Int.reduceAdd,Int.reduceMul,Int.reduceBEq,Int.reduceBNe,Int.reduceGT,Int.reduceGE,Nat.reduceGT,Int.reduceToNat,Int.reduceNeg,Nat.reduceLeDiff,Nat.reduceBEq,Nat.reduceBneDiff,g1,g2,c6,w2,f1,l6,l6b,f2,f3,f4]
    exact ⟨fun G hG => by rw [List.mem_singleton.1 hG, l6]; rfl, f5, v, k, hv, hk, rfl⟩
  · obtain ⟨f1, f2, f3, f4, f5⟩ := fin G1 (Heap.q04 _) 0 0 (List.replicate 8 0) (by simp)
    rw [List.map_replicate] at f2 f3 f4 f5
    simp -implicitDefEqProofs only [zA,reduceIte,reduceCtorEq,Nat.reduceEqDiff,Nat.reduceAdd,Nat.reduceMul,Nat.reduceLT,Nat.reduceSub,Int.reduceLT,Int.reduceLE,Int.reduceEq,Int.reduceNe,Int.reduceSub,Int.reduceAdd,Int.reduceMul,Int.reduceBEq,Int.reduceBNe,Int.reduceGT,Int.reduceGE,Nat.reduceGT,Int.reduceToNat,Int.reduceNeg,Nat.reduceLeDiff,Nat.reduceBEq,Nat.reduceBneDiff,g,f1,f2,f3,f4,List.map_replicate]
    exact ⟨f5, rfl⟩
end Go.Bb
namespace Go.Bb
set_option linter.unusedSimpArgs false
set_option linter.unusedVariables false
set_option maxRecDepth 20000
set_option maxHeartbeats 2000000
open Go.MapKept
theorem q9s {R : Ed → Ed → Prop} (irr : ∀ x, ¬ R x x) (tr : ∀ x y z, R x y → R y z → R x z) : ∀ {T S : List Ed}, T.Pairwise R → S.Pairwise R → (∀ e ∈ S, e ∈ T) → S.Sublist T
  | [], S, _, _, h => by
    cases S with
    | nil => exact List.Sublist.slnil
    | cons x S => exact absurd (h x (List.mem_cons_self ..)) (by simp)
  | y :: T, [], _, _, _ => List.nil_sublist _
  | y :: T, x :: S, ht, hs, h => by
    rw [List.pairwise_cons] at ht hs
    by_cases e : x = y
    · subst e
      refine (q9s irr tr ht.2 hs.2 fun z hz => ?_).cons_cons x
      rcases List.mem_cons.1 (h z (List.mem_cons_of_mem _ hz)) with k | k
      · subst k; exact absurd (hs.1 _ hz) (irr _)
      · exact k
    · have hx : x ∈ T := (List.mem_cons.1 (h x (List.mem_cons_self ..))).resolve_left e
      refine (q9s irr tr ht.2 (List.pairwise_cons.2 hs) fun z hz => ?_).cons y
      rcases List.mem_cons.1 (h z hz) with k | k
      · subst k
        rcases List.mem_cons.1 hz with q | q
        · exact absurd q.symm e
        · exact absurd (tr _ _ _ (ht.1 x hx) (hs.1 _ q)) (irr _)
      · exact k
theorem Keep.trans {r : Nat} {H G G' : Heap} (h : Keep r H G) (k : Keep r G G') : Keep r H G' := fun b x hb hr => k b x (h b x hb hr) hr
theorem Keep.fresh {r : Nat} {H G G' : Heap} (hr : H r = none) (le : H.le G) (k : Keep r G G') : H.le G' := fun b x hb => k b x (le b x hb) (fun e => by rw [e, hr] at hb; cases hb)
theorem BookAt.keep {H H' : Heap} {b r q : Nat} {S : List Ed} (x : BookAt H b r S) (k : Keep q H H') (h1 : b ≠ q) (h2 : r ≠ q) : BookAt H' b r S := by
  obtain ⟨es, c, L, g1, g2⟩ := x.qr
  exact ⟨x.ne, k _ _ x.qb h1, ⟨es, c, L, k _ _ g1 h2, g2⟩, x.ok⟩
end Go.Bb
namespace Go.Bb
set_option linter.unusedSimpArgs false
set_option linter.unusedVariables false
theorem qfu (a : Str) : ¬ a < a := List.lt_irrefl a
theorem qi2 {a b c : Str} (h : a < b) (k : b < c) : a < c := List.lt_trans h k
theorem sLt_tri {a b : Str} (h : ¬ a < b) (k : ¬ b < a) : a = b := List.le_antisymm k h
theorem qo3 {a b : Str} (h : a ≤ b) (k : a ≠ b) : a < b := by
  by_cases g : a < b
  · exact g
  · exact absurd (sLt_tri g h) k
theorem qk1 (l : List Str) : (q9l l).Pairwise (fun a b => a ≤ b) := by
  have := List.pairwise_mergeSort (le := fun x y : Str => decide (x ≤ y)) (by
    intro a b c h1 h2
    simp only [decide_eq_true_eq] at *
    exact List.le_trans h1 h2) (by
    intro a b
    simp only [Bool.or_eq_true, decide_eq_true_eq]
    exact List.le_total a b) l
  exact this.imp fun {a b} h => by simpa using h
theorem qnf {l : List Str} {x : Str} : x ∈ q9l l ↔ x ∈ l := List.mem_mergeSort
theorem comp_inv (d : Array Str) (hs : ∀ i j, i < j → j < d.size → d[i]! ≤ d[j]!) : ∀ m, m ≤ d.size → (Lib.compactUpTo d m).Pairwise (· < ·) ∧ (∀ x, x ∈ Lib.compactUpTo d m ↔ ∃ i, i < m ∧ d[i]! = x) := by
  intro m
  induction m with
  | zero => intro _; simp [Lib.compactUpTo]
  | succ m ih =>
    intro hm
    obtain ⟨h1, h2⟩ := ih (by omega)
    rw [Lib.compactUpTo_succ]
    by_cases k : Lib.keeps d m = true
    · rw [if_pos k]
      refine ⟨?_, fun x => ?_⟩
      · rw [List.pairwise_append]
        refine ⟨h1, by simp, fun x hx y hy => ?_⟩
        rw [List.mem_singleton] at hy
        subst hy
        obtain ⟨i, hi, rfl⟩ := (h2 x).1 hx
        unfold Lib.keeps at k
        simp only [decide_eq_true_eq] at k
        have hne : d[m]! ≠ d[m - 1]! := k.resolve_left (by omega)
        have hle : d[m - 1]! ≤ d[m]! := hs _ _ (by omega) (by omega)
        have hlt : d[m - 1]! < d[m]! := qo3 hle (Ne.symm hne)
        by_cases e : i = m - 1
        · rw [e]; exact hlt
        · have := hs i (m - 1) (by omega) (by omega)
          by_cases q : d[i]! = d[m - 1]!
          · rw [q]; exact hlt
          · exact qi2 (qo3 this q) hlt
      · rw [List.mem_append, h2, List.mem_singleton]
        constructor
        · rintro (⟨i, hi, rfl⟩ | rfl)
          · exact ⟨i, by omega, rfl⟩
          · exact ⟨m, by omega, rfl⟩
        · rintro ⟨i, hi, rfl⟩
          by_cases e : i = m
          · exact .inr (by rw [e])
          · exact .inl ⟨i, by omega, rfl⟩
    · rw [if_neg k, List.append_nil]
      refine ⟨h1, fun x => ?_⟩
      unfold Lib.keeps at k
      simp only [decide_eq_true_eq, not_or, Decidable.not_not] at k
      rw [h2]
      constructor
      · rintro ⟨i, hi, rfl⟩; exact ⟨i, by omega, rfl⟩
      · rintro ⟨i, hi, rfl⟩
        by_cases e : i = m
        · exact ⟨m - 1, by omega, by rw [e, k.2]⟩
        · exact ⟨i, by omega, rfl⟩
theorem qam (l : List Str) : (qjr l).Pairwise (· < ·) ∧ ∀ x, x ∈ qjr l ↔ x ∈ l := by
  have hsz : (q9l l).toArray.size = (q9l l).length := by simp
  have hg : ∀ i, i < (q9l l).length → ∀ h : i < (q9l l).length, (q9l l).toArray[i]! = (q9l l)[i] := fun i hi h => by simp [h]
  have hs := qk1 l
  rw [List.pairwise_iff_getElem] at hs
  obtain ⟨h1, h2⟩ := comp_inv (q9l l).toArray (fun i j hij hj => by
    rw [hsz] at hj
    rw [hg i (by omega) (by omega), hg j hj hj]
    exact hs i j (by omega) hj hij) (q9l l).length (by simp)
  refine ⟨h1, fun x => ?_⟩
  unfold qjr Lib.compact
  rw [h2, ← qnf]
  constructor
  · rintro ⟨i, hi, rfl⟩
    rw [hg i hi hi]; exact List.getElem_mem hi
  · intro hx
    obtain ⟨i, hi, rfl⟩ := List.getElem_of_mem hx
    exact ⟨i, hi, hg i hi hi⟩
theorem qc4 {l m : List Str} (hl : l.Pairwise (· < ·)) (hm : m.Pairwise (· < ·)) (h : ∀ x, x ∈ l ↔ x ∈ m) : l = m := by
  have nl : l.Nodup := List.Pairwise.imp (fun {a b} (k : a < b) (e : a = b) => qfu b (by rw [e] at k; exact k)) hl
  have nm : m.Nodup := List.Pairwise.imp (fun {a b} (k : a < b) (e : a = b) => qfu b (by rw [e] at k; exact k)) hm
  have hp : l.Perm m := by
    rw [List.perm_iff_count]
    intro a
    rw [nl.count, nm.count]
    by_cases ha : a ∈ l
    · rw [if_pos ha, if_pos ((h a).1 ha)]
    · rw [if_neg ha, if_neg (fun k => ha ((h a).2 k))]
  exact qai qfu (fun x y z => qi2) hp hl hm
end Go.Bb
namespace Go.Bb
set_option linter.unusedSimpArgs false
set_option linter.unusedVariables false
set_option maxRecDepth 20000
set_option maxHeartbeats 2000000
open Go.MapKept
abbrev SlS (H : Heap) (v : Value) (L : List Str) : Prop := Sl H 1 v L.length (L.map strV)
theorem SlS.cell {H : Heap} {v : Value} {L : List Str} (s : SlS H v L) (i : Nat) (hi : i < L.length) :
    ∃ b o c, v = .slice (some ⟨b, o, none⟩) L.length c ∧ q0u H ⟨b, o + i, none⟩ = some (strV L[i]) := by
  unfold SlS at s
  rw [← qbn strV L] at s
  obtain ⟨b, o, c, h1, h2, h3⟩ := Sl.at (f := fun s => [strV s]) (fun _ => rfl) s i hi (by decide)
  have h4 := qa3 (h3 H (Heap.q04 _)) 0 Nat.zero_lt_one
  simp only [List.getElem?_cons_zero, Nat.mul_one, Nat.add_zero] at h4
  exact ⟨b, o, c, h1, h4⟩
theorem qhy (E : EnvT tab) {H : Heap} {v w : Value} {L M : List Str} (s : SlS H v L) (q : SlS H w M) (hl : L.length ≤ 1000000) (hm : M.length ≤ 1000000) :
    ACallN E.toEnv qdy [v, w] H fun r H' => H' = H ∧ r = .bool (decide (L = M)) := by
  obtain ⟨b1, c1, rfl⟩ := s.shape
  obtain ⟨b2, c2, rfl⟩ := q.shape
  refine q1i q79 q3p rfl rfl (q01 ?_)
  unfold q3p
  by_cases g : L.length = M.length
  · have g' : ((L.length : Int) != M.length) = false := by simp [g]
    simp -implicitDefEqProofs only [zA,reduceIte,reduceCtorEq,Nat.reduceEqDiff,Nat.reduceAdd,Nat.reduceMul,Nat.reduceLT,Nat.reduceSub,Int.reduceLT,Int.reduceLE,Int.reduceEq,Int.reduceNe,Int.reduceSub,Int.reduceAdd,Int.reduceMul,Int.reduceBEq,Int.reduceBNe,Int.reduceGT,Int.reduceGE,Nat.reduceGT,Int.reduceToNat,Int.reduceNeg,Nat.reduceLeDiff,Nat.reduceBEq,Nat.reduceBneDiff,g']
    refine q0s (fun m t G => G = H ∧ ∃ i : Nat, t = tl [(0, .slice b1 L.length c1), (1, .slice b2 M.length c2), (5, .int .i64 i)] ∧ i ≤ L.length ∧ m = L.length - i ∧ L.take i = M.take i) L.length
      ⟨rfl, 0, rfl, by omega, by omega, rfl⟩ ?_
    rintro m t G ⟨rfl, i, rfl, hi, rfl, ht⟩
    by_cases hlt : i < L.length
    · have hlt2 : i < M.length := by omega
      have hi1 : (i : Int) < L.length := by omega
      have hi3 : (i : Int) < M.length := by omega
      have hi2 : (0 : Int) ≤ i := by omega
      have w1 : IntKind.i64.wrap ((i : Int) + 1) = ((i + 1 : Nat) : Int) := q9r (by omega)
      obtain ⟨x1, o1, d1, e1, k1⟩ := s.cell i hlt
      obtain ⟨x2, o2, d2, e2, k2⟩ := q.cell i hlt2
      simp only [Value.slice.injEq, true_and] at e1 e2
      obtain ⟨rfl, rfl⟩ := e1
      obtain ⟨rfl, rfl⟩ := e2
      have sn := qlq L[i] M[i]
      have t1 : L.take (i + 1) = L.take i ++ [L[i]] := List.take_succ_eq_append_getElem hlt
      have t2 : M.take (i + 1) = M.take i ++ [M[i]] := List.take_succ_eq_append_getElem hlt2
      by_cases e : L[i] = M[i]
      · rw [decide_eq_true e] at sn
        simp -implicitDefEqProofs only [zA,reduceIte,reduceCtorEq,Nat.reduceEqDiff,Nat.reduceAdd,Nat.reduceMul,Nat.reduceLT,Nat.reduceSub,Int.reduceLT,Int.reduceLE,Int.reduceEq,Int.reduceNe,Int.reduceSub,Int.reduceAdd,Int.reduceMul,Int.reduceBEq,Int.reduceBNe,Int.reduceGT,Int.reduceGE,Nat.reduceGT,Int.reduceToNat,Int.reduceNeg,Nat.reduceLeDiff,Nat.reduceBEq,Nat.reduceBneDiff,hi1,hi2,hi3,Int.toNat_natCast,k1,k2,sn,w1]
        refine ⟨_, ?_, i + 1, rfl, by omega, rfl, by rw [t1, t2, ht, e]⟩
        omega
      · rw [decide_eq_false e] at sn
        have hne : ¬ L = M := fun h => e (by simp [h])
        simp -implicitDefEqProofs only [zA,reduceIte,reduceCtorEq,Nat.reduceEqDiff,Nat.reduceAdd,Nat.reduceMul,Nat.reduceLT,Nat.reduceSub,Int.reduceLT,Int.reduceLE,Int.reduceEq,Int.reduceNe,Int.reduceSub,Int.reduceAdd,Int.reduceMul,Int.reduceBEq,Int.reduceBNe,Int.reduceGT,Int.reduceGE,Nat.reduceGT,Int.reduceToNat,Int.reduceNeg,Nat.reduceLeDiff,Nat.reduceBEq,Nat.reduceBneDiff,hi1,hi2,hi3,Int.toNat_natCast,k1,k2,sn,hne]
    · have hi1 : ¬ (i : Int) < L.length := by omega
      have e : i = L.length := by omega
      subst e
      have hLM : L = M := by
        rw [List.take_length, List.take_of_length_le (by omega)] at ht
        exact ht
      rw [decide_eq_true hLM]
      simp -implicitDefEqProofs only [zA,reduceIte,reduceCtorEq,Nat.reduceEqDiff,Nat.reduceAdd,Nat.reduceMul,Nat.reduceLT,Nat.reduceSub,Int.reduceLT,Int.reduceLE,Int.reduceEq,Int.reduceNe,Int.reduceSub,Int.reduceAdd,Int.reduceMul,Int.reduceBEq,Int.reduceBNe,Int.reduceGT,Int.reduceGE,Nat.reduceGT,Int.reduceToNat,Int.reduceNeg,Nat.reduceLeDiff,Nat.reduceBEq,Nat.reduceBneDiff,hi1]
  · have g' : ((L.length : Int) != M.length) = true := by simp; omega
    have hne : ¬ L = M := fun h => g (by rw [h])
    simp -implicitDefEqProofs only [zA,reduceIte,reduceCtorEq,Nat.reduceEqDiff,Nat.reduceAdd,Nat.reduceMul,Nat.reduceLT,Nat.reduceSub,Int.reduceLT,Int.reduceLE,Int.reduceEq,Int.reduceNe,Int.reduceSub,Int.reduceAdd,Int.reduceMul,Int.reduceBEq,Int.reduceBNe,Int.reduceGT,Int.reduceGE,Nat.reduceGT,Int.reduceToNat,Int.reduceNeg,Nat.reduceLeDiff,Nat.reduceBEq,Nat.reduceBneDiff,g',hne]
def longE (e : Ed) : Bool := decide (60 < e.con.length) || (decide (60 < e.fld.length) || decide (250 < e.val.length))
theorem long_c (E : EnvT tab) (H : Heap) (e : Ed) (h8 : e.seen.length = 8) : ACallN E.toEnv qen [edV e] H fun r H' => H.le H' ∧ r = .bool (longE e) := by
  refine q1i q8k q4f rfl rfl (q01 ?_)
  unfold q4f edV
  have el := q1o h8
  simp -implicitDefEqProofs only [zA,reduceIte,reduceCtorEq,Nat.reduceEqDiff,Nat.reduceAdd,Nat.reduceMul,Nat.reduceLT,Nat.reduceSub,Int.reduceLT,Int.reduceLE,Int.reduceEq,Int.reduceNe,Int.reduceSub,Int.reduceAdd,Int.reduceMul,Int.reduceBEq,Int.reduceBNe,Int.reduceGT,Int.reduceGE,Nat.reduceGT,Int.reduceToNat,Int.reduceNeg,Nat.reduceLeDiff,Nat.reduceBEq,Nat.reduceBneDiff]
  intro b hb
  try simp -implicitDefEqProofs only [zA,reduceIte,reduceCtorEq,Nat.reduceEqDiff,Nat.reduceAdd,Nat.reduceMul,Nat.reduceLT,Nat.reduceSub,Int.reduceLT,Int.reduceLE,Int.reduceEq,Int.reduceNe,Int.reduceSub,Int.reduceAdd,Int.reduceMul,Int.reduceBEq,Int.reduceBNe,Int.reduceGT,Int.reduceGE,Nat.reduceGT,Int.reduceToNat,Int.reduceNeg,Nat.reduceLeDiff,Nat.reduceBEq,Nat.reduceBneDiff]
  rw [el]
  have le := Heap.q0a (Heap.q04 H) hb (.own 0 (edC e) 15)
  have A : EdAt (H.set b (.own 0 (edC e) 15)) b e := EdAt.of (Heap.q03 _ _ _) h8
  generalize (H.set b (.own 0 (edC e) 15)) = G at le A
  have v1 : strV e.con = .string ⟨e.con.toArray⟩ := rfl
  have v2 : strV e.fld = .string ⟨e.fld.toArray⟩ := rfl
  have v3 : strV e.val = .string ⟨e.val.toArray⟩ := rfl
  have z1 := q93 e.con
  have z2 := q93 e.fld
  have z3 := q93 e.val
  unfold longE
  by_cases g1 : 60 < e.con.length
  · have g1' : (60 : Int) < e.con.length := by omega
    simp -implicitDefEqProofs only [zA,reduceIte,reduceCtorEq,Nat.reduceEqDiff,Nat.reduceAdd,Nat.reduceMul,Nat.reduceLT,Nat.reduceSub,Int.reduceLT,Int.reduceLE,Int.reduceEq,Int.reduceNe,Int.reduceSub,Int.reduceAdd,Int.reduceMul,Int.reduceBEq,Int.reduceBNe,Int.reduceGT,Int.reduceGE,Nat.reduceGT,Int.reduceToNat,Int.reduceNeg,Nat.reduceLeDiff,Nat.reduceBEq,Nat.reduceBneDiff,A.con,v1,z1,g1',g1,decide_true,Bool.true_or]
    exact le
  · have g1' : ¬ (60 : Int) < e.con.length := by omega
    by_cases g2 : 60 < e.fld.length
    · have g2' : (60 : Int) < e.fld.length := by omega
      simp -implicitDefEqProofs only [zA,reduceIte,reduceCtorEq,Nat.reduceEqDiff,Nat.reduceAdd,Nat.reduceMul,Nat.reduceLT,Nat.reduceSub,Int.reduceLT,Int.reduceLE,Int.reduceEq,Int.reduceNe,Int.reduceSub,Int.reduceAdd,Int.reduceMul,Int.reduceBEq,Int.reduceBNe,Int.reduceGT,Int.reduceGE,Nat.reduceGT,Int.reduceToNat,Int.reduceNeg,Nat.reduceLeDiff,Nat.reduceBEq,Nat.reduceBneDiff,A.con,v1,z1,g1',g1,A.fld,v2,z2,g2',g2,decide_true,decide_false,Bool.true_or,Bool.false_or]
      exact le
    · have g2' : ¬ (60 : Int) < e.fld.length := by omega
      by_cases g3 : 250 < e.val.length
      · have g3' : (250 : Int) < e.val.length := by omega
        simp -implicitDefEqProofs only [zA,reduceIte,reduceCtorEq,Nat.reduceEqDiff,Nat.reduceAdd,Nat.reduceMul,Nat.reduceLT,Nat.reduceSub,Int.reduceLT,Int.reduceLE,Int.reduceEq,Int.reduceNe,Int.reduceSub,Int.reduceAdd,Int.reduceMul,Int.reduceBEq,Int.reduceBNe,Int.reduceGT,Int.reduceGE,Nat.reduceGT,Int.reduceToNat,Int.reduceNeg,Nat.reduceLeDiff,Nat.reduceBEq,Nat.reduceBneDiff,A.con,v1,z1,g1',g1,A.fld,v2,z2,g2',g2,A.val,v3,z3,g3',g3,decide_true,decide_false,Bool.true_or,Bool.false_or]
        exact le
      · have g3' : ¬ (250 : Int) < e.val.length := by omega
        simp -implicitDefEqProofs only [zA,reduceIte,reduceCtorEq,Nat.reduceEqDiff,Nat.reduceAdd,Nat.reduceMul,Nat.reduceLT,Nat.reduceSub,Int.reduceLT,Int.reduceLE,Int.reduceEq,Int.reduceNe,Int.reduceSub,Int.reduceAdd,Int.reduceMul,Int.reduceBEq,Int.reduceBNe,Int.reduceGT,Int.reduceGE,Nat.reduceGT,Int.reduceToNat,Int.reduceNeg,Nat.reduceLeDiff,Nat.reduceBEq,Nat.reduceBneDiff,A.con,v1,z1,g1',g1,A.fld,v2,z2,g2',g2,A.val,v3,z3,g3',g3,decide_true,decide_false,Bool.true_or,Bool.false_or]
        exact le
def eA : Ed := ⟨1, 1, List.replicate 8 0, 1, [99], [102], [121], 1⟩
def eB : Ed := ⟨0, 1, List.replicate 8 0, 1, [99], [102], [120], 0⟩
theorem add_eA : addB [] eA = ([eA], 0) := by decide
theorem add_eB : addB [eA] eB = ([eB, eA], 0) := by decide
theorem qos : q7z [eB, eA] = [eB, eA] := by decide
theorem all_AB : allB [eB, eA] [99] [102] = [[120], [121]] := by unfold allB; rw [qos]; decide
theorem con_AB : q7s [eB, eA] = [[99]] := by
  unfold q7s
  rw [qos]
  refine qc4 (qam _).1 (by simp) fun x => ?_
  rw [(qam _).2]
  simp [eA, eB]
theorem vec_AB : VecOf [eB, eA] [1, 1, 0, 0, 0, 0, 0, 0] := by
  refine ⟨rfl, fun d hd => ?_⟩
  match d, hd with
  | 0, _ => exact ⟨1, rfl, fun j h1 h2 => ⟨eB, by simp, rfl, by simp [eB]; omega⟩, by simp [eA, eB]⟩
  | 1, _ => exact ⟨1, rfl, fun j h1 h2 => ⟨eA, by simp, rfl, by simp [eA]; omega⟩, by simp [eA, eB]⟩
  | 2, _ => exact ⟨0, rfl, fun j h1 h2 => by omega, by simp [eA, eB]⟩
  | 3, _ => exact ⟨0, rfl, fun j h1 h2 => by omega, by simp [eA, eB]⟩
  | 4, _ => exact ⟨0, rfl, fun j h1 h2 => by omega, by simp [eA, eB]⟩
  | 5, _ => exact ⟨0, rfl, fun j h1 h2 => by omega, by simp [eA, eB]⟩
  | 6, _ => exact ⟨0, rfl, fun j h1 h2 => by omega, by simp [eA, eB]⟩
  | 7, _ => exact ⟨0, rfl, fun j h1 h2 => by omega, by simp [eA, eB]⟩
theorem qk3 (E : EnvT tab) (K : BkOk E) (H : Heap) : ACallN E.toEnv qdz [] H fun r H' => H.le H' ∧ r = .bool true := by
  refine q1i q7a q3q rfl rfl (q01 ?_)
  unfold q3q
  simp -implicitDefEqProofs only [zA,reduceIte,reduceCtorEq,Nat.reduceEqDiff,Nat.reduceAdd,Nat.reduceMul,Nat.reduceLT,Nat.reduceSub,Int.reduceLT,Int.reduceLE,Int.reduceEq,Int.reduceNe,Int.reduceSub,Int.reduceAdd,Int.reduceMul,Int.reduceBEq,Int.reduceBNe,Int.reduceGT,Int.reduceGE,Nat.reduceGT,Int.reduceToNat,Int.reduceNeg,Nat.reduceLeDiff,Nat.reduceBEq,Nat.reduceBneDiff]
  refine (qjp E H).mono ?_
  rintro v H1 ⟨le1, b, r, rfl, nb, nr, B1⟩
  simp -implicitDefEqProofs only [zA,reduceIte,reduceCtorEq,Nat.reduceEqDiff,Nat.reduceAdd,Nat.reduceMul,Nat.reduceLT,Nat.reduceSub,Int.reduceLT,Int.reduceLE,Int.reduceEq,Int.reduceNe,Int.reduceSub,Int.reduceAdd,Int.reduceMul,Int.reduceBEq,Int.reduceBNe,Int.reduceGT,Int.reduceGE,Nat.reduceGT,Int.reduceToNat,Int.reduceNeg,Nat.reduceLeDiff,Nat.reduceBEq,Nat.reduceBneDiff]
  change q0g (some (edV eA)) _ _
  simp -implicitDefEqProofs only [zA,reduceIte,reduceCtorEq,Nat.reduceEqDiff,Nat.reduceAdd,Nat.reduceMul,Nat.reduceLT,Nat.reduceSub,Int.reduceLT,Int.reduceLE,Int.reduceEq,Int.reduceNe,Int.reduceSub,Int.reduceAdd,Int.reduceMul,Int.reduceBEq,Int.reduceBNe,Int.reduceGT,Int.reduceGE,Nat.reduceGT,Int.reduceToNat,Int.reduceNeg,Nat.reduceLeDiff,Nat.reduceBEq,Nat.reduceBneDiff]
  refine (qgf E B1 eA rfl (by decide) (by decide) (by decide) (by decide)).mono ?_
  rintro v H2 ⟨rfl, B2, k2⟩
  rw [add_eA] at B2 ⊢
  unfold q8t
  simp -implicitDefEqProofs only [zA,reduceIte,reduceCtorEq,Nat.reduceEqDiff,Nat.reduceAdd,Nat.reduceMul,Nat.reduceLT,Nat.reduceSub,Int.reduceLT,Int.reduceLE,Int.reduceEq,Int.reduceNe,Int.reduceSub,Int.reduceAdd,Int.reduceMul,Int.reduceBEq,Int.reduceBNe,Int.reduceGT,Int.reduceGE,Nat.reduceGT,Int.reduceToNat,Int.reduceNeg,Nat.reduceLeDiff,Nat.reduceBEq,Nat.reduceBneDiff]
  change q0g (some (edV eB)) _ _
  simp -implicitDefEqProofs only [zA,reduceIte,reduceCtorEq,Nat.reduceEqDiff,Nat.reduceAdd,Nat.reduceMul,Nat.reduceLT,Nat.reduceSub,Int.reduceLT,Int.reduceLE,Int.reduceEq,Int.reduceNe,Int.reduceSub,Int.reduceAdd,Int.reduceMul,Int.reduceBEq,Int.reduceBNe,Int.reduceGT,Int.reduceGE,Nat.reduceGT,Int.reduceToNat,Int.reduceNeg,Nat.reduceLeDiff,Nat.reduceBEq,Nat.reduceBneDiff]
  refine (qgf E B2 eB rfl (by decide) (by decide) (by decide) (by decide)).mono ?_
  rintro v H3 ⟨rfl, B3, k3⟩
  rw [add_eB] at B3 ⊢
  have le3 : H.le H3 := Keep.fresh nr le1 (k2.trans k3)
  simp -implicitDefEqProofs only [zA,reduceIte,reduceCtorEq,Nat.reduceEqDiff,Nat.reduceAdd,Nat.reduceMul,Nat.reduceLT,Nat.reduceSub,Int.reduceLT,Int.reduceLE,Int.reduceEq,Int.reduceNe,Int.reduceSub,Int.reduceAdd,Int.reduceMul,Int.reduceBEq,Int.reduceBNe,Int.reduceGT,Int.reduceGE,Nat.reduceGT,Int.reduceToNat,Int.reduceNeg,Nat.reduceLeDiff,Nat.reduceBEq,Nat.reduceBneDiff]
  refine (qh5 E K B3 [99] [102]).mono ?_
  rintro v H4 ⟨le4, rfl⟩
  rw [all_AB]
  have B4 := B3.le le4
  simp -implicitDefEqProofs only [zA,reduceIte,reduceCtorEq,Nat.reduceEqDiff,Nat.reduceAdd,Nat.reduceMul,Nat.reduceLT,Nat.reduceSub,Int.reduceLT,Int.reduceLE,Int.reduceEq,Int.reduceNe,Int.reduceSub,Int.reduceAdd,Int.reduceMul,Int.reduceBEq,Int.reduceBNe,Int.reduceGT,Int.reduceGE,Nat.reduceGT,Int.reduceToNat,Int.reduceNeg,Nat.reduceLeDiff,Nat.reduceBEq,Nat.reduceBneDiff]
  unfold q8s
  simp -implicitDefEqProofs only [zA,reduceIte,reduceCtorEq,Nat.reduceEqDiff,Nat.reduceAdd,Nat.reduceMul,Nat.reduceLT,Nat.reduceSub,Int.reduceLT,Int.reduceLE,Int.reduceEq,Int.reduceNe,Int.reduceSub,Int.reduceAdd,Int.reduceMul,Int.reduceBEq,Int.reduceBNe,Int.reduceGT,Int.reduceGE,Nat.reduceGT,Int.reduceToNat,Int.reduceNeg,Nat.reduceLeDiff,Nat.reduceBEq,Nat.reduceBneDiff]
  refine (qge E K B4 [99] [102]).mono ?_
  rintro v H5 ⟨le5, ow5⟩
  rw [all_AB] at ow5
  have B5 := B4.le le5
  simp -implicitDefEqProofs only [zA,reduceIte,reduceCtorEq,Nat.reduceEqDiff,Nat.reduceAdd,Nat.reduceMul,Nat.reduceLT,Nat.reduceSub,Int.reduceLT,Int.reduceLE,Int.reduceEq,Int.reduceNe,Int.reduceSub,Int.reduceAdd,Int.reduceMul,Int.reduceBEq,Int.reduceBNe,Int.reduceGT,Int.reduceGE,Nat.reduceGT,Int.reduceToNat,Int.reduceNeg,Nat.reduceLeDiff,Nat.reduceBEq,Nat.reduceBneDiff]
  intro b6 hb6
  try simp -implicitDefEqProofs only [zA,reduceIte,reduceCtorEq,Nat.reduceEqDiff,Nat.reduceAdd,Nat.reduceMul,Nat.reduceLT,Nat.reduceSub,Int.reduceLT,Int.reduceLE,Int.reduceEq,Int.reduceNe,Int.reduceSub,Int.reduceAdd,Int.reduceMul,Int.reduceBEq,Int.reduceBNe,Int.reduceGT,Int.reduceGE,Nat.reduceGT,Int.reduceToNat,Int.reduceNeg,Nat.reduceLeDiff,Nat.reduceBEq,Nat.reduceBneDiff]
  have le6 := Heap.q0a (Heap.q04 H5) hb6 (.own 0 [strV [120], strV [121]] 2)
  refine (qhy E (L := [[120], [121]]) (M := [[120], [121]]) (Sl.le le6 ow5.sl) (Sl.lit (n := 2) rfl) (by decide) (by decide)).mono ?_
  rintro v H6 ⟨rfl, rfl⟩
  have B6 := B5.le le6
  have leY := Heap.q00 le3 (Heap.q00 le4 (Heap.q00 le5 le6))
  have ey : binV .eql (strV [121]) (.string ⟨#[121]⟩) = some (.bool true) := by
    exact qaa [121] [121]
  generalize (H5.set b6 (.own 0 [strV [120], strV [121]] 2)) = G at le6 B6 leY
  have gl : ([[120], [121]] : List Str).getLastD [] = [121] := rfl
  have gn : decide (([[120], [121]] : List Str) ≠ []) = true := by decide
  simp -implicitDefEqProofs only [zA,reduceIte,reduceCtorEq,Nat.reduceEqDiff,Nat.reduceAdd,Nat.reduceMul,Nat.reduceLT,Nat.reduceSub,Int.reduceLT,Int.reduceLE,Int.reduceEq,Int.reduceNe,Int.reduceSub,Int.reduceAdd,Int.reduceMul,Int.reduceBEq,Int.reduceBNe,Int.reduceGT,Int.reduceGE,Nat.reduceGT,Int.reduceToNat,Int.reduceNeg,Nat.reduceLeDiff,Nat.reduceBEq,Nat.reduceBneDiff,gl,gn,ey]
  refine (qdb E K B6).mono ?_
  rintro v H7 ⟨le7, ow7⟩
  rw [con_AB] at ow7
  have B7 := B6.le le7
  simp -implicitDefEqProofs only [zA,reduceIte,reduceCtorEq,Nat.reduceEqDiff,Nat.reduceAdd,Nat.reduceMul,Nat.reduceLT,Nat.reduceSub,Int.reduceLT,Int.reduceLE,Int.reduceEq,Int.reduceNe,Int.reduceSub,Int.reduceAdd,Int.reduceMul,Int.reduceBEq,Int.reduceBNe,Int.reduceGT,Int.reduceGE,Nat.reduceGT,Int.reduceToNat,Int.reduceNeg,Nat.reduceLeDiff,Nat.reduceBEq,Nat.reduceBneDiff]
  intro b8 hb8
  try simp -implicitDefEqProofs only [zA,reduceIte,reduceCtorEq,Nat.reduceEqDiff,Nat.reduceAdd,Nat.reduceMul,Nat.reduceLT,Nat.reduceSub,Int.reduceLT,Int.reduceLE,Int.reduceEq,Int.reduceNe,Int.reduceSub,Int.reduceAdd,Int.reduceMul,Int.reduceBEq,Int.reduceBNe,Int.reduceGT,Int.reduceGE,Nat.reduceGT,Int.reduceToNat,Int.reduceNeg,Nat.reduceLeDiff,Nat.reduceBEq,Nat.reduceBneDiff]
  have le8 := Heap.q0a (Heap.q04 H7) hb8 (.own 0 [strV [99]] 1)
  refine (qhy E (L := [[99]]) (M := [[99]]) (Sl.le le8 ow7.sl) (Sl.lit (n := 1) rfl) (by decide) (by decide)).mono ?_
  rintro v H8 ⟨rfl, rfl⟩
  have B8 := B7.le le8
  have leZ := Heap.q00 leY (Heap.q00 le7 le8)
  generalize (H7.set b8 (.own 0 [strV [99]] 1)) = G2 at le8 B8 leZ
  simp -implicitDefEqProofs only [zA,reduceIte,reduceCtorEq,Nat.reduceEqDiff,Nat.reduceAdd,Nat.reduceMul,Nat.reduceLT,Nat.reduceSub,Int.reduceLT,Int.reduceLE,Int.reduceEq,Int.reduceNe,Int.reduceSub,Int.reduceAdd,Int.reduceMul,Int.reduceBEq,Int.reduceBNe,Int.reduceGT,Int.reduceGE,Nat.reduceGT,Int.reduceToNat,Int.reduceNeg,Nat.reduceLeDiff,Nat.reduceBEq,Nat.reduceBneDiff]
  refine (qgd E B8).mono ?_
  rintro v H9 ⟨le9, w, hw, rfl⟩
  have ew := hw.eq vec_AB
  subst ew
  simp -implicitDefEqProofs only [zA,reduceIte,reduceCtorEq,Nat.reduceEqDiff,Nat.reduceAdd,Nat.reduceMul,Nat.reduceLT,Nat.reduceSub,Int.reduceLT,Int.reduceLE,Int.reduceEq,Int.reduceNe,Int.reduceSub,Int.reduceAdd,Int.reduceMul,Int.reduceBEq,Int.reduceBNe,Int.reduceGT,Int.reduceGE,Nat.reduceGT,Int.reduceToNat,Int.reduceNeg,Nat.reduceLeDiff,Nat.reduceBEq,Nat.reduceBneDiff]
  change q0g (some (.agg (([1, 1, 0, 0, 0, 0, 0, 0] : List Int).map (.int .i64)).toArray)) _ _
  have k1 : q05 (List.replicate 8 (some IntKind.i64)) (([1, 1, 0, 0, 0, 0, 0, 0] : List Int).map (.int .i64)) = true := rfl
  have k3 : q0b (([1, 1, 0, 0, 0, 0, 0, 0] : List Int).map (.int .i64)) (([1, 1, 0, 0, 0, 0, 0, 0] : List Int).map (.int .i64)) = true := rfl
  simp -implicitDefEqProofs only [zA,reduceIte,reduceCtorEq,Nat.reduceEqDiff,Nat.reduceAdd,Nat.reduceMul,Nat.reduceLT,Nat.reduceSub,Int.reduceLT,Int.reduceLE,Int.reduceEq,Int.reduceNe,Int.reduceSub,Int.reduceAdd,Int.reduceMul,Int.reduceBEq,Int.reduceBNe,Int.reduceGT,Int.reduceGE,Nat.reduceGT,Int.reduceToNat,Int.reduceNeg,Nat.reduceLeDiff,Nat.reduceBEq,Nat.reduceBneDiff,k1,k3]
  exact Heap.q00 leZ le9
end Go.Bb
namespace Go.Bb
set_option linter.unusedSimpArgs false
set_option linter.unusedVariables false
set_option maxRecDepth 20000
set_option maxHeartbeats 2000000
open Go.MapKept
theorem str_lss (a b : Str) : binV .lss (strV a) (strV b) = some (.bool (decide (a < b))) := by
  simp only [strV, binV, qbp, Go.Proofs.bytesLess_eq]
theorem SlS.slice {H : Heap} {base : Option Addr} {c : Nat} {L : List Str} (s : SlS H (.slice base L.length c) L) : L.length ≤ c := by
  rcases s with ⟨h, h2, _⟩ | ⟨a, c', h1, h2, _⟩
  · simp only [Value.slice.injEq] at h; omega
  · simp only [Value.slice.injEq] at h1; omega
theorem Sl.capge {H : Heap} {size n c : Nat} {base : Option Addr} {cells : List Value} (s : Sl H size (.slice base n c) n cells) : n ≤ c := by
  rcases s with ⟨h, h2, _⟩ | ⟨a, c', h1, h2, _⟩
  · simp only [Value.slice.injEq] at h; omega
  · simp only [Value.slice.injEq] at h1; omega
theorem qmp (L : List Str) : (L.map strV).all one = true := by simp [one, strV]
theorem qed {α : Type} {R : α → α → Prop} {L : List α} {k : Nat} {s : α} (tr : ∀ x y z, R x y → R y z → R x z) (hL : L.Pairwise R) (h1 : ∀ x ∈ L.take k, R x s) (h2 : ∀ h : k < L.length, R s L[k]) :
    (L.take k ++ s :: L.drop k).Pairwise R := by
  have hp : ∀ x ∈ L.drop k, R s x := by
    by_cases h : k < L.length
    · intro x hx
      have hd := List.drop_eq_getElem_cons h
      rw [hd] at hx
      rcases List.mem_cons.1 hx with e | e
      · rw [e]; exact h2 h
      · have hs := hL.sublist (List.drop_sublist k L)
        rw [hd, List.pairwise_cons] at hs
        exact tr _ _ _ (h2 h) (hs.1 x e)
    · intro x hx
      rw [List.drop_eq_nil_of_le (by omega)] at hx; cases hx
  rw [List.pairwise_append]
  refine ⟨hL.sublist (List.take_sublist k L), List.pairwise_cons.2 ⟨hp, hL.sublist (List.drop_sublist k L)⟩, fun x hx y hy => ?_⟩
  rcases List.mem_cons.1 hy with e | e
  · rw [e]; exact h1 x hx
  · exact tr _ _ _ (h1 x hx) (hp y e)
theorem qjy {α : Type} {L : List α} {k : Nat} {s x : α} : x ∈ L.take k ++ s :: L.drop k ↔ x = s ∨ x ∈ L := by
  have : x ∈ L ↔ x ∈ L.take k ∨ x ∈ L.drop k := by rw [← List.mem_append, List.take_append_drop]
  rw [List.mem_append, List.mem_cons, this]
  constructor
  · rintro (h | h | h) <;> simp [h]
  · rintro (h | h | h) <;> simp [h]
theorem qcx (E : EnvT tab) {H : Heap} {base : Option Addr} {c : Nat} {L : List Str} (s : SlS H (.slice base L.length c) L) (hl : L.length ≤ 1000000) (hL : L.Pairwise (· < ·)) (x : Str) {k : Nat} (hk : k ≤ L.length) (hlt : ∀ y ∈ L.take k, y < x) (hgt : ∀ h : k < L.length, x < L[k]) :
    wpA E.toEnv 45 q41 (qRet [.tmp 4] fun r H' => H.le H' ∧ ∃ M : List Str, SlS H' r M ∧ M.Pairwise (· < ·) ∧ (∀ y, y ∈ M ↔ y = x ∨ y ∈ L) ∧ M.length ≤ L.length + 1) (tl [(0, .slice base L.length c), (1, strV x), (5, .int .i64 k), (31, .bool false)]) H := by
  have hcap := s.slice
  have hk2 : (0 : Int) ≤ k := by omega
  have hkc : (k : Int) ≤ c := by omega
  have hkn : (k : Int) ≤ L.length := by omega
  have bh := qmb (n := L.length) (c := c) (k := .i64) hk2 hkc
  have bl := qma (n := L.length) (c := c) (k := .i64) hk2 hkn
  have sh := Sl.pre s hk
  have sp := Sl.post s hk
  rw [Nat.mul_one, ← List.map_take] at sh
  rw [Nat.mul_one, ← List.map_drop] at sp
  unfold q41
  simp -implicitDefEqProofs only [zA,reduceIte,reduceCtorEq,Nat.reduceEqDiff,Nat.reduceAdd,Nat.reduceMul,Nat.reduceLT,Nat.reduceSub,Int.reduceLT,Int.reduceLE,Int.reduceEq,Int.reduceNe,Int.reduceSub,Int.reduceAdd,Int.reduceMul,Int.reduceBEq,Int.reduceBNe,Int.reduceGT,Int.reduceGE,Nat.reduceGT,Int.reduceToNat,Int.reduceNeg,Nat.reduceLeDiff,Nat.reduceBEq,Nat.reduceBneDiff,List.flatten_nil,List.replicate_zero]
  intro b6 hb6
  have le6 := Heap.q0a (Heap.q04 H) hb6 (.own 0 [] 0)
  try simp -implicitDefEqProofs only [zA,reduceIte,reduceCtorEq,Nat.reduceEqDiff,Nat.reduceAdd,Nat.reduceMul,Nat.reduceLT,Nat.reduceSub,Int.reduceLT,Int.reduceLE,Int.reduceEq,Int.reduceNe,Int.reduceSub,Int.reduceAdd,Int.reduceMul,Int.reduceBEq,Int.reduceBNe,Int.reduceGT,Int.reduceGE,Nat.reduceGT,Int.reduceToNat,Int.reduceNeg,Nat.reduceLeDiff,Nat.reduceBEq,Nat.reduceBneDiff,bh,Int.toNat_natCast,Nat.sub_zero]
  have a0 : (if c = 0 then base else base.map (fun x => x.add 0)) = base := by
    split
    · rfl
    · cases base <;> simp [Addr.add]
  rw [a0]
  refine q1t (n := 0) (cells := []) (m := k) (news := (L.take k).map strV) le6 (by omega) (Ow.new (c := 0) (sz := 0) (Heap.q04 _) hb6 rfl (by omega) (by omega)) (sh.le le6) (qmp _) (by omega) (by omega) ?_
  intro v1 G1 o1 le7
  rw [Nat.zero_add, List.nil_append] at o1
  obtain ⟨vb1, vc1, rfl⟩ := Sl.shape o1.sl
  simp -implicitDefEqProofs only [zA,reduceIte,reduceCtorEq,Nat.reduceEqDiff,Nat.reduceAdd,Nat.reduceMul,Nat.reduceLT,Nat.reduceSub,Int.reduceLT,Int.reduceLE,Int.reduceEq,Int.reduceNe,Int.reduceSub,Int.reduceAdd,Int.reduceMul,Int.reduceBEq,Int.reduceBNe,Int.reduceGT,Int.reduceGE,Nat.reduceGT,Int.reduceToNat,Int.reduceNeg,Nat.reduceLeDiff,Nat.reduceBEq,Nat.reduceBneDiff,List.replicate_one,List.flatten_singleton,implies_true,List.mem_cons,List.not_mem_nil,List.mem_singleton,or_false,forall_eq,forall_eq_or_imp,and_self]
  intro b7 hb7
  have le8 := Heap.q0a (Heap.q04 G1) hb7 (.own 0 [strV x] 1)
  have sx : Sl (G1.set b7 (.own 0 [strV x] 1)) 1 (.slice (some ⟨b7, 0, none⟩) 1 1) 1 [strV x] := Sl.lit (n := 1) rfl
  refine q1t (m := 1) (Heap.q00 le7 le8) (by omega) (o1.le le8) sx rfl (by omega) (by omega) ?_
  intro v2 G2 o2 le9
  obtain ⟨vb2, vc2, rfl⟩ := Sl.shape o2.sl
  simp -implicitDefEqProofs only [zA,reduceIte,reduceCtorEq,Nat.reduceEqDiff,Nat.reduceAdd,Nat.reduceMul,Nat.reduceLT,Nat.reduceSub,Int.reduceLT,Int.reduceLE,Int.reduceEq,Int.reduceNe,Int.reduceSub,Int.reduceAdd,Int.reduceMul,Int.reduceBEq,Int.reduceBNe,Int.reduceGT,Int.reduceGE,Nat.reduceGT,Int.reduceToNat,Int.reduceNeg,Nat.reduceLeDiff,Nat.reduceBEq,Nat.reduceBneDiff,bl,Int.toNat_natCast,implies_true,List.mem_cons,List.not_mem_nil,List.mem_singleton,or_false,forall_eq,forall_eq_or_imp,and_self]
  refine q1t (m := L.length - k) le9 (by omega) o2 (sp.le le9) (qmp _) (by omega) (by omega) ?_
  intro v3 G3 o3 le10
  simp -implicitDefEqProofs only [zA,reduceIte,reduceCtorEq,Nat.reduceEqDiff,Nat.reduceAdd,Nat.reduceMul,Nat.reduceLT,Nat.reduceSub,Int.reduceLT,Int.reduceLE,Int.reduceEq,Int.reduceNe,Int.reduceSub,Int.reduceAdd,Int.reduceMul,Int.reduceBEq,Int.reduceBNe,Int.reduceGT,Int.reduceGE,Nat.reduceGT,Int.reduceToNat,Int.reduceNeg,Nat.reduceLeDiff,Nat.reduceBEq,Nat.reduceBneDiff]
  refine ⟨le10, L.take k ++ x :: L.drop k, ?_, qed (fun _ _ _ => qi2) hL hlt hgt, fun y => qjy, ?_⟩
  · have e1 : (L.take k ++ x :: L.drop k).length = k + 1 + (L.length - k) := by
      rw [List.length_append, List.length_cons, List.length_take, List.length_drop, Nat.min_eq_left hk]; omega
    have e2 : (L.take k ++ x :: L.drop k).map strV = (L.take k).map strV ++ [strV x] ++ (L.drop k).map strV := by simp
    unfold SlS
    rw [e1, e2]
    exact o3.sl
  · rw [List.length_append, List.length_cons, List.length_take, List.length_drop, Nat.min_eq_left hk]; omega
theorem qcy (E : EnvT tab) {H : Heap} {base : Option Addr} {c : Nat} {L : List Str} (s : SlS H (.slice base L.length c) L) (hl : L.length ≤ 1000000) (hL : L.Pairwise (· < ·)) (x : Str) {k : Nat} (hk : k ≤ L.length) (hlt : ∀ y ∈ L.take k, y < x) (hge : ∀ h : k < L.length, ¬ L[k] < x) :
    wpA E.toEnv 45 q15 (qRet [.tmp 4] fun r H' => H.le H' ∧ ∃ M : List Str, SlS H' r M ∧ M.Pairwise (· < ·) ∧ (∀ y, y ∈ M ↔ y = x ∨ y ∈ L) ∧ M.length ≤ L.length + 1) (tl [(0, .slice base L.length c), (1, strV x), (5, .int .i64 k), (17, .bool false)]) H := by
  have hcap := s.slice
  have hk2 : (0 : Int) ≤ k := by omega
  by_cases hat : ∃ h : k < L.length, L[k] = x
  · obtain ⟨hkl, e⟩ := hat
    have hk1 : (k : Int) < L.length := by omega
    obtain ⟨x1, o1, d1, e1, k1⟩ := s.cell k hkl
    simp only [Value.slice.injEq, true_and] at e1
    obtain ⟨rfl, rfl⟩ := e1
    have se := qaa L[k] x
    rw [decide_eq_true e] at se
    unfold q15
    simp -implicitDefEqProofs only [zA,reduceIte,reduceCtorEq,Nat.reduceEqDiff,Nat.reduceAdd,Nat.reduceMul,Nat.reduceLT,Nat.reduceSub,Int.reduceLT,Int.reduceLE,Int.reduceEq,Int.reduceNe,Int.reduceSub,Int.reduceAdd,Int.reduceMul,Int.reduceBEq,Int.reduceBNe,Int.reduceGT,Int.reduceGE,Nat.reduceGT,Int.reduceToNat,Int.reduceNeg,Nat.reduceLeDiff,Nat.reduceBEq,Nat.reduceBneDiff,hk1,hk2,Int.toNat_natCast,k1,se]
    exact ⟨Heap.q04 _, L, s, hL, fun y => ⟨.inr, fun h => h.elim (fun h => by rw [h, ← e]; exact List.getElem_mem hkl) id⟩, by omega⟩
  · -- where it is not
    have hgt : ∀ h : k < L.length, x < L[k] := fun h => qo3 (fun q => hge h q) (fun q => hat ⟨h, q.symm⟩)
    by_cases hkl : k < L.length
    · have hk1 : (k : Int) < L.length := by omega
      obtain ⟨x1, o1, d1, e1, k1⟩ := s.cell k hkl
      simp only [Value.slice.injEq, true_and] at e1
      obtain ⟨rfl, rfl⟩ := e1
      have se := qaa L[k] x
      rw [decide_eq_false (fun q => hat ⟨hkl, q⟩)] at se
      unfold q15
      simp -implicitDefEqProofs only [zA,reduceIte,reduceCtorEq,Nat.reduceEqDiff,Nat.reduceAdd,Nat.reduceMul,Nat.reduceLT,Nat.reduceSub,Int.reduceLT,Int.reduceLE,Int.reduceEq,Int.reduceNe,Int.reduceSub,Int.reduceAdd,Int.reduceMul,Int.reduceBEq,Int.reduceBNe,Int.reduceGT,Int.reduceGE,Nat.reduceGT,Int.reduceToNat,Int.reduceNeg,Nat.reduceLeDiff,Nat.reduceBEq,Nat.reduceBneDiff,hk1,hk2,Int.toNat_natCast,k1,se]
      exact qcx E s hl hL x hk hlt hgt
    · have hk1 : ¬ (k : Int) < L.length := by omega
      unfold q15
      simp -implicitDefEqProofs only [zA,reduceIte,reduceCtorEq,Nat.reduceEqDiff,Nat.reduceAdd,Nat.reduceMul,Nat.reduceLT,Nat.reduceSub,Int.reduceLT,Int.reduceLE,Int.reduceEq,Int.reduceNe,Int.reduceSub,Int.reduceAdd,Int.reduceMul,Int.reduceBEq,Int.reduceBNe,Int.reduceGT,Int.reduceGE,Nat.reduceGT,Int.reduceToNat,Int.reduceNeg,Nat.reduceLeDiff,Nat.reduceBEq,Nat.reduceBneDiff,hk1]
      exact qcx E s hl hL x hk hlt hgt
theorem qe3 (E : EnvT tab) {H : Heap} {v : Value} {L : List Str} (s : SlS H v L) (hl : L.length ≤ 1000000) (hL : L.Pairwise (· < ·)) (x : Str) :
    ACallN E.toEnv qd0 [v, strV x] H fun r H' => H.le H' ∧ ∃ M : List Str, SlS H' r M ∧ M.Pairwise (· < ·) ∧ (∀ y, y ∈ M ↔ y = x ∨ y ∈ L) ∧ M.length ≤ L.length + 1 := by
  obtain ⟨base, c, rfl⟩ := s.shape
  refine q1i q6k q31 rfl rfl (q01 ?_)
  unfold q31
  simp -implicitDefEqProofs only [zA,reduceIte,reduceCtorEq,Nat.reduceEqDiff,Nat.reduceAdd,Nat.reduceMul,Nat.reduceLT,Nat.reduceSub,Int.reduceLT,Int.reduceLE,Int.reduceEq,Int.reduceNe,Int.reduceSub,Int.reduceAdd,Int.reduceMul,Int.reduceBEq,Int.reduceBNe,Int.reduceGT,Int.reduceGE,Nat.reduceGT,Int.reduceToNat,Int.reduceNeg,Nat.reduceLeDiff,Nat.reduceBEq,Nat.reduceBneDiff]
  have hcap := s.slice
  refine q0s (fun m t G => G = H ∧ ∃ k : Nat, t = tl [(0, .slice base L.length c), (1, strV x), (5, .int .i64 k)] ∧ k ≤ L.length ∧ m = L.length - k ∧ ∀ y ∈ L.take k, y < x) L.length
    ⟨rfl, 0, rfl, by omega, by omega, by simp⟩ ?_
  rintro m t G ⟨rfl, k, rfl, hk, rfl, hlt⟩
  by_cases hkl : k < L.length
  · have hk1 : (k : Int) < L.length := by omega
    have hk2 : (0 : Int) ≤ k := by omega
    have w1 : IntKind.i64.wrap ((k : Int) + 1) = ((k + 1 : Nat) : Int) := q9r (by omega)
    obtain ⟨x1, o1, d1, e1, k1⟩ := s.cell k hkl
    simp only [Value.slice.injEq, true_and] at e1
    obtain ⟨rfl, rfl⟩ := e1
    have sl := str_lss L[k] x
    have et : L.take (k + 1) = L.take k ++ [L[k]] := List.take_succ_eq_append_getElem hkl
    by_cases e : L[k] < x
    · rw [decide_eq_true e] at sl
      simp -implicitDefEqProofs only [zA,reduceIte,reduceCtorEq,Nat.reduceEqDiff,Nat.reduceAdd,Nat.reduceMul,Nat.reduceLT,Nat.reduceSub,Int.reduceLT,Int.reduceLE,Int.reduceEq,Int.reduceNe,Int.reduceSub,Int.reduceAdd,Int.reduceMul,Int.reduceBEq,Int.reduceBNe,Int.reduceGT,Int.reduceGE,Nat.reduceGT,Int.reduceToNat,Int.reduceNeg,Nat.reduceLeDiff,Nat.reduceBEq,Nat.reduceBneDiff,hk1,hk2,Int.toNat_natCast,k1,sl,w1]
      refine ⟨_, ?_, k + 1, rfl, by omega, rfl, fun y hy => ?_⟩
      · omega
      · rw [et] at hy
        rcases List.mem_append.1 hy with h | h
        · exact hlt y h
        · rw [List.mem_singleton.1 h]; exact e
    · rw [decide_eq_false e] at sl
      simp -implicitDefEqProofs only [zA,reduceIte,reduceCtorEq,Nat.reduceEqDiff,Nat.reduceAdd,Nat.reduceMul,Nat.reduceLT,Nat.reduceSub,Int.reduceLT,Int.reduceLE,Int.reduceEq,Int.reduceNe,Int.reduceSub,Int.reduceAdd,Int.reduceMul,Int.reduceBEq,Int.reduceBNe,Int.reduceGT,Int.reduceGE,Nat.reduceGT,Int.reduceToNat,Int.reduceNeg,Nat.reduceLeDiff,Nat.reduceBEq,Nat.reduceBneDiff,hk1,hk2,Int.toNat_natCast,k1,sl]
      exact qcy E s hl hL x hk hlt fun _ => e
  · have hk1 : ¬ (k : Int) < L.length := by omega
    simp -implicitDefEqProofs only [zA,reduceIte,reduceCtorEq,Nat.reduceEqDiff,Nat.reduceAdd,Nat.reduceMul,Nat.reduceLT,Nat.reduceSub,Int.reduceLT,Int.reduceLE,Int.reduceEq,Int.reduceNe,Int.reduceSub,Int.reduceAdd,Int.reduceMul,Int.reduceBEq,Int.reduceBNe,Int.reduceGT,Int.reduceGE,Nat.reduceGT,Int.reduceToNat,Int.reduceNeg,Nat.reduceLeDiff,Nat.reduceBEq,Nat.reduceBneDiff,hk1]
    exact qcy E s hl hL x hk hlt fun h => absurd h hkl
end Go.Bb
namespace Go.Bb
set_option linter.unusedSimpArgs false
set_option linter.unusedVariables false
set_option maxRecDepth 20000
theorem list15 {α : Type} {l : List α} (h : l.length = 15) : ∃ a0 a1 a2 a3 a4 a5 a6 a7 a8 a9 a10 a11 a12 a13 a14, l = [a0, a1, a2, a3, a4, a5, a6, a7, a8, a9, a10, a11, a12, a13, a14] := by
  match l, h with
  | [a0, a1, a2, a3, a4, a5, a6, a7, a8, a9, a10, a11, a12, a13, a14], _ => exact ⟨a0, a1, a2, a3, a4, a5, a6, a7, a8, a9, a10, a11, a12, a13, a14, rfl⟩
theorem str_strV (s : ByteArray) : Value.string s = strV s.data.toList := by simp [strV]
theorem ok_edC {W : World} {v : Value} (h : Shp.ok W (.struct 15 (.fld 0 2 (.struct 2 (.fld 0 1 (.int .i64) (.fld 1 1 (.int .i64) .fend))) (.fld 2 8 (.array 8 1 (.int .i64)) (.fld 10 1 (.int .i64) (.fld 11 1 .str (.fld 12 1 .str (.fld 13 1 .str (.fld 14 1 (.int .i64) .fend)))))))) v) :
    ∃ e : Ed, v = .agg (Value.int .i64 e.dev :: .int .i64 e.n :: (e.seen.map (.int .i64) ++ [.int .i64 e.kind, strV e.con, strV e.fld, strV e.val, .int .i64 e.time])).toArray ∧ e.seen.length = 8 ∧ -9223372036854775808 ≤ e.n ∧ e.n ≤ 9223372036854775807 ∧ -9223372036854775808 ≤ e.dev ∧ e.dev ≤ 9223372036854775807 ∧ e.con.length ≤ 9223372036854775807 ∧ e.fld.length ≤ 9223372036854775807 ∧ e.val.length ≤ 9223372036854775807 := by
  obtain ⟨⟨h1, h2⟩, h3⟩ := h
  simp only [Shp.wide, if_true] at h3
  obtain ⟨cs, rfl⟩ := h3
  have hc : (Value.agg cs).cells = cs := rfl
  rw [hc] at h1 h2
  obtain ⟨c0, c1, c2, c3, c4, c5, c6, c7, c8, c9, c10, c11, c12, c13, c14, hl⟩ := list15 h1
  rw [hl] at h2
  simp only [Shp.okC] at h2
  obtain ⟨⟨-, ⟨d, e0, d1, d2⟩, ⟨n, e1, n1, n2⟩, -⟩, ⟨-, hs⟩, ⟨k, e10, k1, k2⟩, ⟨s11, e11, l11⟩, ⟨s12, e12, l12⟩, ⟨s13, e13, l13⟩, ⟨t, e14, t1, t2⟩, -⟩ := h2
  obtain ⟨x0, f0, -⟩ := hs 0 (by omega)
  obtain ⟨x1, f1, -⟩ := hs 1 (by omega)
  obtain ⟨x2, f2, -⟩ := hs 2 (by omega)
  obtain ⟨x3, f3, -⟩ := hs 3 (by omega)
  obtain ⟨x4, f4, -⟩ := hs 4 (by omega)
  obtain ⟨x5, f5, -⟩ := hs 5 (by omega)
  obtain ⟨x6, f6, -⟩ := hs 6 (by omega)
  obtain ⟨x7, f7, -⟩ := hs 7 (by omega)
  cases e0; cases e1; cases e10; cases e11; cases e12; cases e13; cases e14
  cases f0; cases f1; cases f2; cases f3; cases f4; cases f5; cases f6; cases f7
  refine ⟨⟨d, n, [x0, x1, x2, x3, x4, x5, x6, x7], k, s11.data.toList, s12.data.toList, s13.data.toList, t⟩, ?_, rfl, n1, n2, d1, d2, by simpa using l11, by simpa using l12, by simpa using l13⟩
  congr 1
  apply Array.toList_inj.1
  rw [hl]
  simp only [str_strV]
  rfl
end Go.Bb
namespace Go.Bb
set_option linter.unusedSimpArgs false
set_option linter.unusedVariables false
set_option maxRecDepth 20000
set_option maxHeartbeats 2000000
structure ArgE (e : Ed) : Prop where
  h8 : e.seen.length = 8
  hc : e.con.length ≤ 9223372036854775807
  hf : e.fld.length ≤ 9223372036854775807
  n1 : -9223372036854775808 ≤ e.n
  n2 : e.n ≤ 9223372036854775807
abbrev edShp : Shp := .struct 15 (.fld 0 2 (.struct 2 (.fld 0 1 (.int .i64) (.fld 1 1 (.int .i64) .fend))) (.fld 2 8 (.array 8 1 (.int .i64)) (.fld 10 1 (.int .i64) (.fld 11 1 .str (.fld 12 1 .str (.fld 13 1 .str (.fld 14 1 (.int .i64) .fend)))))))
theorem ok_ed1 {W : World} {v : Value} (h : Shp.ok W edShp v) : ∃ e : Ed, v = edV e ∧ ArgE e := by
  obtain ⟨e, h1, h2, h3, h4, h5, h6, h7, h8, -⟩ := ok_edC h
  exact ⟨e, h1, h2, h7, h8, h3, h4⟩
theorem ok_eds {W : World} {v : Value} (h : Shp.ok W (.slice 15 edShp) v) :
    ∃ L : List Ed, Sl (qcv W) 15 v L.length (L.flatMap edC) ∧ L.length ≤ 9223372036854775807 ∧ ∀ e ∈ L, ArgE e := by
  obtain ⟨L, h1, h2, h3⟩ := Shp.ok_rows encE (fun x => ArgE x.1) qdr (fun l hl => by
    obtain ⟨e, he, ha⟩ := ok_ed1 (W := W) (v := .agg l.toArray) ⟨by simpa [Value.cells] using hl, by simp only [Shp.wide, if_true]; exact ⟨_, rfl⟩⟩
    refine ⟨⟨e, ha.h8⟩, ?_, ha⟩
    unfold edV at he
    simp only [Value.agg.injEq] at he
    exact congrArg Array.toList he) h
  refine ⟨L.map (·.1), ?_, by simpa using h2, ?_⟩
  · rw [← qfd, List.length_map]; exact h1
  · intro e he
    obtain ⟨x, hx, rfl⟩ := List.mem_map.1 he
    exact h3 x hx
def qhj (S : List Ed) (L : List Ed) : List Ed := L.foldl (fun S e => (addB S e).1) S
theorem qno (S L : List Ed) (e : Ed) : qhj S (L ++ [e]) = (addB (qhj S L) e).1 := by simp [qhj]
theorem addB_len (S : List Ed) (e : Ed) : (addB S e).1.length ≤ S.length + 1 := by
  unfold addB
  split
  · split
    · split <;> simp
    · split
      · simp
      · rw [(qa9 q17 e S).length_eq]; simp
  · simp
theorem qlp : ∀ (L S : List Ed), (qhj S L).length ≤ S.length + L.length
  | [], S => by simp [qhj]
  | e :: L, S => by
    have h1 := qlp L (addB S e).1
    have h2 := addB_len S e
    simp only [qhj, List.foldl_cons, List.length_cons] at h1 ⊢
    omega
end Go.Bb
namespace Go.Bb
set_option linter.unusedSimpArgs false
set_option linter.unusedVariables false
def qbk (a b : Ed) : Prop := a.dev = b.dev ∧ a.n = b.n
theorem qn1 {S : List Ed} {e : Ed} (h : q43 e = false) : addB S e = (S, 1) := by simp [addB, h]
theorem addB_old {S : List Ed} {e : Ed} (ok : BkS S) (hg : q43 e = true) {s : Ed} (hs : s ∈ S) (hd : qbk s e) : addB S e = if s = e then (S, 0) else (S, 10) := by
  unfold addB
  rw [if_pos hg]
  cases h : qby S e.dev e.n with
  | none => rw [q9j] at h; exact absurd hd (h s hs)
  | some w =>
    have hw := getD_some h
    rw [ok.tot hw.1 hs (by rw [hw.2.1, hd.1]) (by rw [hw.2.2, hd.2])]
theorem addB_new {S : List Ed} {e : Ed} (hg : q43 e = true) (hn : ∀ s ∈ S, ¬ qbk s e) (hl : S.length < 500) : addB S e = (insR q17 e S, 0) := by
  unfold addB
  rw [if_pos hg, q9j.2 hn]
  simp only
  rw [if_neg (by omega)]
theorem addB_ok {S : List Ed} (ok : BkS S) {e : Ed} (h8 : e.seen.length = 8) : BkS (addB S e).1 := by
  unfold addB
  split
  · rename_i hg
    split
    · split <;> exact ok
    · rename_i hn
      split
      · exact ok
      · rename_i hl; exact ok.ins hg h8 hn hl
  · exact ok
theorem BkS.dots {S : List Ed} (ok : BkS S) : S.Pairwise (fun a b => ¬ qbk a b) := ok.rise.imp fun {a b} k => by unfold qbk; unfold q17 at k; omega
end Go.Bb
namespace Go.Bb
set_option linter.unusedSimpArgs false
set_option linter.unusedVariables false
set_option maxRecDepth 20000
set_option maxHeartbeats 2000000
open Go.MapKept
theorem BookAt.apart {H : Heap} {b r x : Nat} {S : List Ed} (B : BookAt H b r S) (hx : H x = none) : b ≠ x ∧ r ≠ x := by
  obtain ⟨es, c, L, g, _⟩ := B.qr
  exact ⟨fun e => (by have := B.qb; rw [e, hx] at this; cases this), fun e => (by rw [e, hx] at g; cases g)⟩
end Go.Bb
namespace Go.Bb
set_option linter.unusedSimpArgs false
set_option linter.unusedVariables false
set_option maxRecDepth 20000
set_option maxHeartbeats 2000000
open Go.MapKept
theorem qgv (a b c d : Int) : q0b [Value.int .i64 a, .int .i64 b] [Value.int .i64 c, .int .i64 d] = decide (a = c ∧ b = d) := by
  simp only [q0b, qd1, Bool.and_true]
  rw [Bool.eq_iff_iff]; simp
theorem qg6 {G : Heap} {b o : Nat} {e : Ed} (h8 : e.seen.length = 8) (h : q08 G ⟨b, o, none⟩ 15 = some (edC e)) : q08 G ⟨b, o, none⟩ 2 = some [.int .i64 e.dev, .int .i64 e.n] := by
  have := qdq h 0 2 (by decide)
  rw [Nat.add_zero] at this
  rw [this]; rfl
theorem qkb (S : List Ed) : (q7s S).length ≤ S.length := by
  have h1 := q7c S
  have h2 := Lib.compact_length_le (q9l ((q7z S).map (·.con)))
  unfold q7s qjr
  rw [qan, List.length_map] at h2
  omega
end Go.Bb
namespace Go.Bb
set_option linter.unusedSimpArgs false
set_option linter.unusedVariables false
structure GoodP (e : Ed) : Prop where
  d0 : 0 ≤ e.dev
  d8 : e.dev < 8
  n1 : 1 ≤ e.n
  n2 : e.n ≤ 1099511627776
  seen : vecG e.seen = true
  own : e.seen[e.dev.toNat]? = some (e.n - 1)
  t0 : 0 ≤ e.time
  t1 : e.time ≤ 1099511627776
  con : qcp e.con = true
  kind : (e.kind = 1 ∧ qcp e.fld = true ∧ e.val.length ≤ 200) ∨ (e.kind = 2 ∧ e.fld = [] ∧ e.val = [])
theorem qm4 {e : Ed} : q43 e = true ↔ GoodP e := by
  unfold q43
  simp only [Bool.and_eq_true, Bool.or_eq_true, decide_eq_true_eq]
  constructor
  · rintro ⟨⟨⟨⟨⟨⟨⟨h1, h1'⟩, h2, h2'⟩, h3⟩, h4⟩, h5, h5'⟩, h6⟩, h7⟩
    exact ⟨h1, h1', h2, h2', h3, h4, h5, h5', h6, h7⟩
  · rintro ⟨h1, h1', h2, h2', h3, h4, h5, h5', h6, h7⟩
    exact ⟨⟨⟨⟨⟨⟨⟨h1, h1'⟩, h2, h2'⟩, h3⟩, h4⟩, h5, h5'⟩, h6⟩, h7⟩
theorem qhn {v : List Int} {k : Nat} {x : Int} (h : v[k]? = some x) : v.getD k 0 = x := by simp [List.getD, h]
theorem qk6 {v : List Int} {d n : Int} : hasV v d n = true ↔ (0 ≤ d ∧ d < 8) ∧ 1 ≤ n ∧ n ≤ v.getD d.toNat 0 := by
  unfold hasV
  simp only [Bool.and_eq_true, decide_eq_true_eq]
theorem qod {e : Ed} (h : q43 e = true) : q96 e e = false := by
  have g := qm4.1 h
  have h2 : hasV e.seen e.dev e.n = false := by
    rw [← Bool.not_eq_true, qk6, qhn g.own]
    omega
  simp [q96, h2]
theorem qmr {a b : Ed} : q96 a b = true ↔ b.kind = 1 ∧ hasV a.seen b.dev b.n = true ∧ a.con = b.con ∧ (a.kind = 2 ∨ (a.kind = 1 ∧ a.fld = b.fld)) := by
  unfold q96
  simp only [Bool.and_eq_true, Bool.or_eq_true, decide_eq_true_eq]
theorem over_not {a b : Ed} (h : hasV a.seen b.dev b.n = false) : q96 a b = false := by simp [q96, h]
theorem all_one {α : Type} {l : List α} {e : α} (hn : l.Nodup) (he : e ∈ l) (h : ∀ x ∈ l, x = e) : l = [e] := by
  match l, hn, he, h with
  | [a], _, _, h => rw [h a (by simp)]
  | a :: b :: l, hn, _, h =>
    have h1 := h a (by simp)
    have h2 := h b (by simp)
    rw [List.nodup_cons] at hn
    exact absurd (by rw [h1, h2]; simp) hn.1
theorem qm0 {S : List Ed} (ok : BkS S) : (q7z S).Nodup :=
  List.Pairwise.imp (fun {a b} (k : q63 a b) (e : a = b) => q8q b (by rw [e] at k; exact k)) (qbb ok)
theorem qab {S : List Ed} {e x : Ed} : x ∈ insR q17 e S ↔ x = e ∨ x ∈ S := by
  rw [(qa9 q17 e S).mem_iff, List.mem_cons]
theorem last_one {S : List Ed} (ok : BkS S) {e : Ed} (hg : q43 e = true) (h8 : e.seen.length = 8) (hl : S.length < 500) (hk : e.kind = 1)
    (hm : ∀ x ∈ S, x.con = e.con → x.fld = e.fld → x.n ≤ e.seen.getD x.dev.toNat 0) (hnew : ∀ x ∈ S, ¬ qbk x e) (hs : ∀ x ∈ S, hasV x.seen e.dev e.n = false) :
    addB S e = (insR q17 e S, 0) ∧ BkS (insR q17 e S) ∧ allB (insR q17 e S) e.con e.fld = [e.val] := by
  have h1 := addB_new hg hnew hl
  have ok2 : BkS (insR q17 e S) := by have := addB_ok ok h8 (e := e); rwa [h1] at this
  refine ⟨h1, ok2, ?_⟩
  have hmem : ∀ x, x ∈ (q7z (insR q17 e S)).filter (fun x => decide (x.con = e.con) && decide (x.fld = e.fld)) ↔ x = e := fun x => by
    rw [List.mem_filter, qf7, Bool.and_eq_true, decide_eq_true_eq, decide_eq_true_eq]
    constructor
    · rintro ⟨⟨hx, hk1, ho⟩, hc, hf⟩
      rcases qab.1 hx with h | h
      · exact h
      · exfalso
        have hq := ho e (qab.2 (.inl rfl))
        have g := qm4.1 (ok.good x h)
        have : q96 e x = true := qmr.2 ⟨hk1, qk6.2 ⟨⟨g.d0, g.d8⟩, g.n1, hm x h hc hf⟩, hc.symm, .inr ⟨hk, hf.symm⟩⟩
        rw [hq] at this; cases this
    · rintro rfl
      refine ⟨⟨qab.2 (.inl rfl), hk, fun a ha => ?_⟩, rfl, rfl⟩
      rcases qab.1 ha with h | h
      · rw [h]; exact qod hg
      · exact over_not (hs a h)
  unfold allB
  rw [all_one ((qm0 ok2).filter _) ((hmem e).2 rfl) fun x hx => (hmem x).1 hx]
  rfl
end Go.Bb
namespace Go.Bb
set_option linter.unusedSimpArgs false
set_option linter.unusedVariables false
def atF (con fld : Str) (x : Ed) : Bool := decide (x.con = con) && decide (x.fld = fld)
theorem atF_iff {con fld : Str} {x : Ed} : atF con fld x = true ↔ x.con = con ∧ x.fld = fld := by simp [atF]
def qkp (S : List Ed) (con fld : Str) : List Ed := (q7z S).filter (atF con fld)
theorem qpk (S : List Ed) (con fld : Str) : allB S con fld = (qkp S con fld).map (·.val) := rfl
theorem qgl {S : List Ed} (ok : BkS S) (con fld : Str) : (qkp S con fld).Pairwise q63 := (qbb ok).sublist List.filter_sublist
theorem qex {S : List Ed} {con fld : Str} {x : Ed} : x ∈ qkp S con fld ↔ (x ∈ S ∧ x.kind = 1 ∧ ∀ a ∈ S, q96 a x = false) ∧ x.con = con ∧ x.fld = fld := by
  unfold qkp
  rw [List.mem_filter, qf7, atF_iff]
theorem qmo {S T : List Ed} (ok : BkS S) (ok2 : BkS T) {con fld : Str} (h : ∀ x, x ∈ qkp S con fld → x ∈ qkp T con fld) : (qkp S con fld).Sublist (qkp T con fld) :=
  q9s q8q (fun x y z => @q80 x y z) (qgl ok2 con fld) (qgl ok con fld) h
theorem qn5 {S : List Ed} (ok : BkS S) {e : Ed} (okT : BkS (insR q17 e S)) (hk : e.kind = 1) {con fld : Str} (h : e.fld ≠ fld) :
    allB (insR q17 e S) con fld = allB S con fld := by
  rw [qpk, qpk]
  have h1 := qmo (con := con) (fld := fld) okT ok fun x hx => by
    obtain ⟨⟨h1, h2, h3⟩, h4, h5⟩ := qex.1 hx
    rcases qab.1 h1 with k | k
    · subst k; exact absurd h5 h
    · exact qex.2 ⟨⟨k, h2, fun a ha => h3 a (qab.2 (.inr ha))⟩, h4, h5⟩
  have h2 := qmo (con := con) (fld := fld) ok okT fun x hx => by
    obtain ⟨⟨h1, h2, h3⟩, h4, h5⟩ := qex.1 hx
    refine qex.2 ⟨⟨qab.2 (.inr h1), h2, fun a ha => ?_⟩, h4, h5⟩
    rcases qab.1 ha with k | k
    · subst k
      rw [← Bool.not_eq_true, qmr]
      rintro ⟨-, -, -, q | q⟩
      · omega
      · exact h (q.2.trans h5)
    · exact h3 a k
  rw [h1.eq_of_length (Nat.le_antisymm h1.length_le h2.length_le)]
end Go.Bb
namespace Go.Bb
set_option linter.unusedSimpArgs false
set_option linter.unusedVariables false
def vecI (d i : Nat) : List Int := (List.replicate 8 (0 : Int)).set d i
theorem vecI_len (d i : Nat) : (vecI d i).length = 8 := by simp [vecI]
theorem qmn {d : Nat} (i : Nat) (hd : d < 8) : (vecI d i)[d]? = some (i : Int) := by simp [vecI, hd]
theorem vecI_mem {d i : Nat} {x : Int} (h : x ∈ vecI d i) : x = 0 ∨ x = i := by
  unfold vecI at h
  rcases List.mem_or_eq_of_mem_set h with h | h
  · exact .inl (List.mem_replicate.1 h).2
  · exact .inr h
def qh0 (f : Nat) : Str := [97 + UInt8.ofNat f]
theorem qnj {f g : Nat} (hf : f < 4) (hg : g < 4) (h : qh0 f = qh0 g) : f = g := by
  have : ∀ f g : Fin 4, qh0 f = qh0 g → f = g := by decide
  have := this ⟨f, hf⟩ ⟨g, hg⟩ h
  simpa using this
theorem qm5 {f : Nat} (hf : f < 4) : qcp (qh0 f) = true := by
  have : ∀ f : Fin 4, qcp (qh0 f) = true := by decide
  exact this ⟨f, hf⟩
def edN (d i f : Nat) (val : Str) : Ed := ⟨d, i + 1, vecI d i, 1, [99], qh0 f, val, i⟩
structure NxS (d i : Nat) (S : List Ed) (last : List Str) (had : List Bool) : Prop where
  ok : BkS S
  len : S.length = i
  dev : ∀ x ∈ S, x.dev = d ∧ x.n ≤ i
  has : Has1 S d i
  l4 : last.length = 4
  h4 : had.length = 4
  all : ∀ f : Nat, f < 4 → allB S [99] (qh0 f) = if had.getD f false then [last.getD f []] else []
theorem NxS.nil (d : Nat) : NxS d 0 [] (List.replicate 4 []) (List.replicate 4 false) :=
  ⟨BkS.nil, rfl, by simp, fun j h1 h2 => by omega, rfl, rfl, fun f hf => by
    have : (List.replicate 4 false).getD f false = false := by
      unfold List.getD
      rw [List.getElem?_replicate, if_pos hf]; rfl
    rw [this]; rfl⟩
theorem edN_good {d i f : Nat} {val : Str} (hd : d < 8) (hi : i < 1000) (hf : f < 4) (hv : val.length ≤ 200) : q43 (edN d i f val) = true := by
  refine qm4.2 ⟨by simp [edN], by simp [edN]; omega, by simp [edN]; omega, by simp [edN]; omega, ?_, ?_, by simp [edN], by simp [edN]; omega, by show qcp [99] = true; decide, .inl ⟨rfl, qm5 hf, hv⟩⟩
  · unfold vecG
    rw [List.all_eq_true]
    intro x hx
    rw [decide_eq_true_iff]
    rcases vecI_mem hx with h | h <;> omega
  · simp only [edN, Int.toNat_natCast]
    rw [qmn i hd]
    congr 1
    omega
theorem NxS.step {d i f : Nat} {S : List Ed} {last : List Str} {had : List Bool} (s : NxS d i S last had) (hd : d < 8) (hi : i < 400) (hf : f < 4) {val : Str} (hv : val.length ≤ 200) :
    addB S (edN d i f val) = (insR q17 (edN d i f val) S, 0) ∧ NxS d (i + 1) (insR q17 (edN d i f val) S) (last.set f val) (had.set f true) := by
  have hg := edN_good hd (by omega : i < 1000) hf hv
  have hlast := last_one s.ok hg (vecI_len d i) (by rw [s.len]; omega) rfl (fun x hx _ _ => by
      have h1 := s.dev x hx
      show x.n ≤ (vecI d i).getD x.dev.toNat 0
      rw [h1.1, Int.toNat_natCast, qhn (qmn i hd)]
      exact h1.2)
    (fun x hx h => by
      have h1 := s.dev x hx
      have := h.2
      simp only [edN] at this
      omega)
    (fun x hx => by
      have h1 := s.dev x hx
      have g := qm4.1 (s.ok.good x hx)
      have ho := g.own
      rw [h1.1] at ho
      rw [← Bool.not_eq_true, qk6]
      show ¬ (_ ∧ _ ∧ ((i : Int) + 1) ≤ x.seen.getD ((d : Int).toNat) 0)
      rw [qhn ho]
      omega)
  obtain ⟨h1, h2, h3⟩ := hlast
  refine ⟨h1, h2, by rw [(qa9 q17 _ S).length_eq, List.length_cons, s.len], fun x hx => ?_, fun j h4 h5 => ?_, by rw [List.length_set]; exact s.l4, by rw [List.length_set]; exact s.h4, fun g hg4 => ?_⟩
  · rcases qab.1 hx with h | h
    · rw [h]; simp [edN]
    · have := s.dev x h
      refine ⟨this.1, by omega⟩
  · by_cases e : j = i + 1
    · exact ⟨_, qab.2 (.inl rfl), rfl, by rw [e]; simp [edN]⟩
    · obtain ⟨x, hx, hq⟩ := s.has j h4 (by omega)
      exact ⟨x, qab.2 (.inr hx), hq⟩
  · by_cases e : g = f
    · subst e
      have e1 : (had.set g true).getD g false = true := by simp [List.getD, s.h4, hg4]
      have e2 : (last.set g val).getD g [] = val := by simp [List.getD, s.l4, hg4]
      rw [e1, e2]
      exact h3
    · have e1 : (had.set f true).getD g false = had.getD g false := by simp [List.getD, List.getElem?_set, Ne.symm e]
      have e2 : (last.set f val).getD g [] = last.getD g [] := by simp [List.getD, List.getElem?_set, Ne.symm e]
      rw [e1, e2, ← s.all g hg4]
      exact qn5 s.ok h2 rfl (fun h => e (qnj hg4 hf h.symm))
end Go.Bb
namespace Go.Bb
set_option linter.unusedSimpArgs false
set_option linter.unusedVariables false
set_option maxRecDepth 20000
set_option maxHeartbeats 2000000
open Go.MapKept
theorem qmw (G : Heap) {p q : Nat} (hp : G p = none) (hq : (G.set p (.own 0 [Value.int .i64 0, .int .i64 0] 2)) q = none) (d n : Int) (v : List Int) (h8 : v.length = 8) :
    q4g ((G.set p (.own 0 [Value.int .i64 0, .int .i64 0] 2)).set q (.own 0 (List.replicate 8 (Value.int .i64 0)) 8)) 2 (.pointer (some ⟨p, 0, none⟩)) (dotK d n) = some ((G.set p (.own 0 [Value.int .i64 d, .int .i64 n] 2)).set q (.own 0 (List.replicate 8 (Value.int .i64 0)) 8)) ∧
    q4g ((G.set p (.own 0 [Value.int .i64 d, .int .i64 n] 2)).set q (.own 0 (List.replicate 8 (Value.int .i64 0)) 8)) 8 (.pointer (some ⟨q, 0, none⟩)) (.agg (v.map (.int .i64)).toArray) = some ((G.set p (.own 0 [Value.int .i64 d, .int .i64 n] 2)).set q (.own 0 (v.map (.int .i64)) 8)) ∧
    G.le ((G.set p (.own 0 [Value.int .i64 d, .int .i64 n] 2)).set q (.own 0 (v.map (.int .i64)) 8)) ∧
    ((G.set p (.own 0 [Value.int .i64 d, .int .i64 n] 2)).set q (.own 0 (v.map (.int .i64)) 8)) p = some (.own 0 [Value.int .i64 d, .int .i64 n] 2) ∧
    ((G.set p (.own 0 [Value.int .i64 d, .int .i64 n] 2)).set q (.own 0 (v.map (.int .i64)) 8)) q = some (.own 0 (v.map (.int .i64)) 8) ∧ G q = none := by
  have ne : p ≠ q := by intro e; subst e; rw [Heap.q03] at hq; cases hq
  have hq' : G q = none := by rw [Heap.q0x ne.symm] at hq; exact hq
  refine ⟨?_, z6z (by decide) (by simp [h8]) (by simp [Bb.one]) (by simp) (by decide), Heap.q0a (Heap.q0a (Heap.q04 _) hp _) hq' _, by rw [Heap.q0x ne, Heap.q03], Heap.q03 _ _ _, hq'⟩
  unfold dotK
  have := q4x (h := (G.set p (.own 0 [Value.int .i64 0, .int .i64 0] 2)).set q (.own 0 (List.replicate 8 (Value.int .i64 0)) 8)) (b := p) (vs := [Value.int .i64 0, .int .i64 0]) (sz := 2) (us := [Value.int .i64 d, .int .i64 n]) (size := 2) (by rw [Heap.q0x ne, Heap.q03]) (by decide) rfl rfl rfl (by decide)
  rw [this]
  congr 1
  funext c
  by_cases h1 : c = p
  · subst h1; rw [Heap.q03, Heap.q0x ne, Heap.q03]
  · rw [Heap.q0x h1]
    by_cases h2 : c = q
    · subst h2; rw [Heap.q03, Heap.q03]
    · rw [Heap.q0x h2, Heap.q0x h2, Heap.q0x h1, Heap.q0x h1]
theorem withV_eq {o : Option Value} {v : Value} {K : Value → Heap → Prop} {h : Heap} (e : o = some v) (k : q0g (some v) K h) : q0g o K h := by rw [e]; exact k
theorem len8 {α : Type} {l : List α} (h : l.length = 8) : ∃ a b c d e f g i, l = [a, b, c, d, e, f, g, i] := by
  match l, h with
  | [a, b, c, d, e, f, g, i], _ => exact ⟨a, b, c, d, e, f, g, i, rfl⟩
end Go.Bb
namespace Go.Bb
set_option linter.unusedSimpArgs false
set_option linter.unusedVariables false
set_option maxRecDepth 20000
set_option maxHeartbeats 2000000
def Kp (b : Nat) (H H' : Heap) : Prop := ∀ c x, c ≠ b → H c = some x → H' c = some x
theorem Kp.refl (b : Nat) (H : Heap) : Kp b H H := fun _ _ _ h => h
theorem Kp.of {b : Nat} {H H' : Heap} (le : H.le H') : Kp b H H' := fun c x _ h => le c x h
theorem Kp.trans {b : Nat} {H H' H'' : Heap} (x : Kp b H H') (y : Kp b H' H'') : Kp b H H'' := fun c z n h => y c z n (x c z n h)
theorem Kp.set (b : Nat) (H : Heap) (X : Blk) : Kp b H (H.set b X) := fun c x n h => by rw [Heap.q0x n]; exact h
theorem Ow.kp {h0 H H' : Heap} {b size : Nat} {v : Value} {n : Nat} {cells : List Value} (s : Ow h0 H size v n cells) (k : Kp b H H') (hb : h0 b ≠ none) : Ow h0 H' size v n cells := by
  rcases s with s | ⟨b', o, c, sz, st, pre, rest, h1, h2, h3, h4, h5⟩
  · exact .inl s
  · exact .inr ⟨b', o, c, sz, st, pre, rest, h1, h2, h3, k _ _ (by intro e; subst e; exact hb h3) h4, h5⟩
def RdR (h0 H : Heap) (b : Nat) (s : RS) : Prop := h0.le H ∧ h0 b = none ∧ ∃ v, H b = some (.own 0 [v, .bool s.isNone] 2) ∧ SlB h0 v (s.getD [])
theorem RdR.le {h0 H H' : Heap} {b : Nat} {s : RS} (R : RdR h0 H b s) (le : H.le H') : RdR h0 H' b s := by
  obtain ⟨a, c, v, q, sl⟩ := R
  exact ⟨Heap.q00 a le, c, v, le _ _ q, sl⟩
theorem RdR.put {h0 H : Heap} {b : Nat} {s : RS} (R : RdR h0 H b s) (s' : RS) {v : Value} (sl : SlB h0 v (s'.getD [])) : RdR h0 (H.set b (.own 0 [v, .bool s'.isNone] 2)) b s' := by
  obtain ⟨a, c, v0, q, -⟩ := R
  exact ⟨Heap.q0a a c _, c, v, Heap.q03 _ _ _, sl⟩
theorem RdR.ne {h0 H : Heap} {b : Nat} {s : RS} (R : RdR h0 H b s) : H b ≠ none := by
  obtain ⟨a, c, v0, q, -⟩ := R
  rw [q]; simp
theorem RdR.other {h0 G : Heap} {b b3 : Nat} {s : RS} (R : RdR h0 G b s) (hn : h0 b3 = none) (ne : b3 ≠ b) (X : Blk) : RdR h0 (G.set b3 X) b s := by
  obtain ⟨a, c, v, q, sl⟩ := R
  exact ⟨Heap.q0a a hn _, c, v, by rw [Heap.q0x ne.symm]; exact q, sl⟩
theorem Kp.other {b b3 : Nat} {H G : Heap} (k : Kp b H G) (hn : H b3 = none) (X : Blk) : Kp b H (G.set b3 X) := fun c x ne h => by
  rw [Heap.q0x (by intro e; subst e; rw [hn] at h; cases h)]
  exact k c x ne h
end Go.Bb
namespace Go.Bb
set_option linter.unusedSimpArgs false
set_option linter.unusedVariables false
set_option maxRecDepth 20000
set_option maxHeartbeats 2000000
open Go.MapKept
abbrev SlE (H : Heap) (v : Value) (L : List Ed) : Prop := Sl H 15 v L.length (L.flatMap edC)
def WB (H : Heap) (w : Nat) (S : List Ed) : Prop := ∃ lv, H w = some (.own 0 [lv] 1) ∧ SlE H lv S
theorem WB.le {H H' : Heap} {w : Nat} {S : List Ed} (x : WB H w S) (le : H.le H') : WB H' w S := by
  obtain ⟨lv, q, s⟩ := x
  exact ⟨lv, le _ _ q, s.le le⟩
def offR (r : Nat) : Heap := Heap.set (fun _ => none) r (.own 0 [] 0)
theorem Ow.offR {H H' : Heap} {size n r : Nat} {v : Value} {cells : List Value} (s : Ow H H' size v n cells) (h : H r ≠ none) : Ow (offR r) H' size v n cells := by
  rcases s with s | ⟨b, o, c, sz, st, pre, rest, h1, h2, h3, h4⟩
  · exact .inl s
  · refine .inr ⟨b, o, c, sz, st, pre, rest, h1, h2, ?_, h4⟩
    unfold Go.Bb.offR
    rw [Heap.q0x (fun e => h (by rw [← e]; exact h3))]
structure WX (r : Nat) (H : Heap) (w : Nat) (S : List Ed) : Prop where
  ne : w ≠ r
  at' : ∃ lv, H w = some (.own 0 [lv] 1) ∧ Ow (offR r) H 15 lv S.length (S.flatMap edC)
theorem WX.wb {r : Nat} {H : Heap} {w : Nat} {S : List Ed} (x : WX r H w S) : WB H w S := by
  obtain ⟨lv, q, s⟩ := x.at'
  exact ⟨lv, q, s.sl⟩
theorem WX.keep {r : Nat} {H H' : Heap} {w : Nat} {S : List Ed} (x : WX r H w S) (k : Keep r H H') : WX r H' w S := by
  obtain ⟨lv, q, s⟩ := x.at'
  exact ⟨x.ne, lv, k _ _ q x.ne, Ow.kp s (fun c x n h => k c x h n) (by unfold offR; rw [Heap.q03]; simp)⟩
theorem WX.le {r : Nat} {H H' : Heap} {w : Nat} {S : List Ed} (x : WX r H w S) (le : H.le H') : WX r H' w S := x.keep (Keep.qnq le)
theorem qfh {G : Heap} {b o : Nat} {e : Ed} (h8 : e.seen.length = 8) (h : q08 G ⟨b, o, none⟩ 15 = some (edC e)) :
    q0u G ⟨b, o, none⟩ = some (.int .i64 e.dev) ∧ q0u G ⟨b, o + 1, none⟩ = some (.int .i64 e.n) ∧ q0u G ⟨b, o + 10, none⟩ = some (.int .i64 e.kind) ∧ q0u G ⟨b, o + 11, none⟩ = some (strV e.con) ∧
    q0u G ⟨b, o + 12, none⟩ = some (strV e.fld) ∧ q0u G ⟨b, o + 13, none⟩ = some (strV e.val) ∧ q0u G ⟨b, o + 14, none⟩ = some (.int .i64 e.time) := by
  obtain ⟨dev, n, seen, kind, con, fld, val, time⟩ := e
  obtain ⟨a0, a1, a2, a3, a4, a5, a6, a7, rfl⟩ := len8 h8
  have h0 := qa3 h 0 (by decide)
  rw [Nat.add_zero] at h0
  exact ⟨h0.trans rfl, (qa3 h 1 (by decide)).trans rfl, (qa3 h 10 (by decide)).trans rfl, (qa3 h 11 (by decide)).trans rfl, (qa3 h 12 (by decide)).trans rfl, (qa3 h 13 (by decide)).trans rfl, (qa3 h 14 (by decide)).trans rfl⟩
theorem qho (S : List Ed) : (S.flatMap edC).all one = true := by
  rw [List.all_flatMap]
  exact List.all_eq_true.2 fun e _ => qd6 e
theorem less_eq {l m : List Ed} (hl : l.Pairwise q63) (hm : m.Pairwise q63) (h : ∀ x, x ∈ l ↔ x ∈ m) : l = m := by
  have h1 := q9s q8q (fun x y z => @q80 x y z) hm hl (fun e he => (h e).1 he)
  have h2 := q9s q8q (fun x y z => @q80 x y z) hl hm (fun e he => (h e).2 he)
  exact h1.eq_of_length (Nat.le_antisymm h1.length_le h2.length_le)
structure LvS (S : List Ed) (i : Nat) (l : List Ed) : Prop where
  rise : l.Pairwise q63
  mem : ∀ x, x ∈ l ↔ x ∈ S.take i ∧ qac S x = true
  len : l.length ≤ i
theorem LvS.all {S : List Ed} (ok : BkS S) {l : List Ed} (h : LvS S S.length l) : l = q7z S :=
  less_eq h.rise (qbb ok) fun x => by
    rw [h.mem, List.take_length, qf7]
    unfold qac
    simp
theorem LvS.h8 {S : List Ed} (ok : BkS S) {i : Nat} {l : List Ed} (h : LvS S i l) : ∀ e ∈ l, e.seen.length = 8 := fun e he => ok.h8 e (List.mem_of_mem_take ((h.mem e).1 he).1)
theorem LvS.no {S : List Ed} {i : Nat} {l : List Ed} (h : LvS S i l) (hi : i < S.length) (hf : qac S S[i] = false) : LvS S (i + 1) l := by
  refine ⟨h.rise, fun x => ?_, by have := h.len; omega⟩
  rw [h.mem, List.take_succ_eq_append_getElem hi, List.mem_append, List.mem_singleton]
  constructor
  · rintro ⟨a, b⟩; exact ⟨.inl a, b⟩
  · rintro ⟨a | a, b⟩
    · exact ⟨a, b⟩
    · subst a; rw [hf] at b; cases b
theorem LvS.yes {S : List Ed} (ok : BkS S) {i : Nat} {l : List Ed} (h : LvS S i l) (hi : i < S.length) (hf : qac S S[i] = true) {k : Nat} (hk : k ≤ l.length) (h1 : ∀ x ∈ l.take k, q63 x S[i]) (h2 : ∀ q : k < l.length, ¬ q63 l[k] S[i]) : LvS S (i + 1) (l.take k ++ S[i] :: l.drop k) := by
  refine ⟨qed (fun x y z => @q80 x y z) h.rise h1 fun q => ?_, fun x => ?_, ?_⟩
  · have hm := (h.mem l[k]).1 (List.getElem_mem q)
    obtain ⟨j, hj, e⟩ := List.getElem_of_mem hm.1
    rw [List.length_take] at hj
    rw [List.getElem_take] at e
    have hd := ok.rise
    rw [List.pairwise_iff_getElem] at hd
    have hdj := hd j i (by omega) hi (by omega)
    have hn := h2 q
    rw [← e] at hn ⊢
    unfold q63 at hn ⊢
    unfold q17 at hn hdj ⊢
    omega
  · rw [qjy, h.mem, List.take_succ_eq_append_getElem hi, List.mem_append, List.mem_singleton]
    constructor
    · rintro (a | ⟨a, b⟩)
      · exact ⟨.inr a, by rw [a]; exact hf⟩
      · exact ⟨.inl a, b⟩
    · rintro ⟨a | a, b⟩
      · exact .inr ⟨a, b⟩
      · exact .inl a
  · rw [List.length_append, List.length_cons, List.length_take, List.length_drop, Nat.min_eq_left hk]
    have := h.len; omega
theorem qk9 : ∀ {l : List Ed} (h8 : ∀ e ∈ l, e.seen.length = 8) (k : Nat), (l.flatMap edC).take (k * 15) = (l.take k).flatMap edC
  | [], _, k => by simp
  | e :: l, h8, 0 => by simp
  | e :: l, h8, k + 1 => by
    have he := q1o (h8 e (by simp))
    rw [List.flatMap_cons, List.take_succ_cons, List.flatMap_cons, List.take_append, List.take_of_length_le (by omega), he, show (k + 1) * 15 - 15 = k * 15 from by omega, qk9 (fun x hx => h8 x (by simp [hx])) k]
theorem qka : ∀ {l : List Ed} (h8 : ∀ e ∈ l, e.seen.length = 8) (k : Nat), (l.flatMap edC).drop (k * 15) = (l.drop k).flatMap edC
  | [], _, k => by simp
  | e :: l, h8, 0 => by simp
  | e :: l, h8, k + 1 => by
    have he := q1o (h8 e (by simp))
    rw [List.flatMap_cons, List.drop_succ_cons, List.drop_append, List.drop_eq_nil_of_le (by omega), he, List.nil_append, show (k + 1) * 15 - 15 = k * 15 from by omega, qka (fun x hx => h8 x (by simp [hx])) k]
theorem qjw (E : EnvT tab) {G : Heap} {w : Nat} {base lb : Option Addr} {c lc i k : Nat} {S l : List Ed} (sw : SlE G (.slice base S.length c) S) (h8 : ∀ e ∈ S, e.seen.length = 8) (hS : S.length ≤ 500)
    (cw : q0u G ⟨w, 0, none⟩ = some (.slice base S.length c)) (sl : SlE G (.slice lb l.length lc) l) (l8 : ∀ e ∈ l, e.seen.length = 8) (hl : l.length ≤ 500) (hi : i < S.length) (hk : k ≤ l.length) (Q : AExit → T → Heap → Prop)
    (hQ : ∀ v' G', G.le G' → SlE G' v' (l.take k ++ S[i] :: l.drop k) → Q .normal (tl [(0, .pointer (some ⟨w, 0, none⟩)), (3, v'), (4, .int .i64 i)]) G') :
    wpA E.toEnv 94 q1e Q (tl [(0, .pointer (some ⟨w, 0, none⟩)), (3, .slice lb l.length lc), (4, .int .i64 i), (7, .int .i64 k), (72, .bool false)]) G := by
  have hcap := Sl.capge sl
  have hk2 : (0 : Int) ≤ k := by omega
  have hkc : (k : Int) ≤ lc := by omega
  have hkn : (k : Int) ≤ l.length := by omega
  have bh := qmb (n := l.length) (c := lc) (k := .i64) hk2 hkc
  have bl := qma (n := l.length) (c := lc) (k := .i64) hk2 hkn
  have sh := Sl.pre sl hk
  have sp := Sl.post sl hk
  rw [qk9 l8] at sh
  rw [qka l8] at sp
  have hx8 := h8 S[i] (List.getElem_mem hi)
  have hi1 : (i : Int) < S.length := by omega
  have hi2 : (0 : Int) ≤ i := by omega
  obtain ⟨bs, o, c', hv, hc, hce⟩ := sw.edAt h8 i hi
  simp only [Value.slice.injEq, true_and] at hv
  obtain ⟨rfl, rfl⟩ := hv
  have el := q1o hx8
  unfold q1e
  simp -implicitDefEqProofs only [zA,reduceIte,reduceCtorEq,Nat.reduceEqDiff,Nat.reduceAdd,Nat.reduceMul,Nat.reduceLT,Nat.reduceSub,Int.reduceLT,Int.reduceLE,Int.reduceEq,Int.reduceNe,Int.reduceSub,Int.reduceAdd,Int.reduceMul,Int.reduceBEq,Int.reduceBNe,Int.reduceGT,Int.reduceGE,Nat.reduceGT,Int.reduceToNat,Int.reduceNeg,Nat.reduceLeDiff,Nat.reduceBEq,Nat.reduceBneDiff,List.flatten_nil,List.replicate_zero]
  intro b6 hb6
  have le6 := Heap.q0a (Heap.q04 G) hb6 (.own 0 [] 0)
  try simp -implicitDefEqProofs only [zA,reduceIte,reduceCtorEq,Nat.reduceEqDiff,Nat.reduceAdd,Nat.reduceMul,Nat.reduceLT,Nat.reduceSub,Int.reduceLT,Int.reduceLE,Int.reduceEq,Int.reduceNe,Int.reduceSub,Int.reduceAdd,Int.reduceMul,Int.reduceBEq,Int.reduceBNe,Int.reduceGT,Int.reduceGE,Nat.reduceGT,Int.reduceToNat,Int.reduceNeg,Nat.reduceLeDiff,Nat.reduceBEq,Nat.reduceBneDiff,bh,Int.toNat_natCast,Nat.sub_zero]
  have a0 : (if lc = 0 then lb else lb.map (fun x => x.add 0)) = lb := by
    split
    · rfl
    · cases lb <;> simp [Addr.add]
  rw [a0]
  refine q1t (n := 0) (cells := []) (m := k) (news := (l.take k).flatMap edC) le6 (by omega) (Ow.new (c := 0) (sz := 0) (Heap.q04 _) hb6 rfl (by omega) (by omega)) (sh.le le6) (qho _) (by omega) (by omega) ?_
  intro v1 G1 o1 le7
  rw [Nat.zero_add, List.nil_append] at o1
  obtain ⟨vb1, vc1, rfl⟩ := Sl.shape o1.sl
  have m1 := hce _ le7
  have m0 := hce _ (Heap.q04 _)
  have cw1 := qfb le7 cw
  have z1 := qj1
  have z2 := qht
  unfold Z15 at z1 z2
  simp -implicitDefEqProofs only [zA,reduceIte,reduceCtorEq,Nat.reduceEqDiff,Nat.reduceAdd,Nat.reduceMul,Nat.reduceLT,Nat.reduceSub,Int.reduceLT,Int.reduceLE,Int.reduceEq,Int.reduceNe,Int.reduceSub,Int.reduceAdd,Int.reduceMul,Int.reduceBEq,Int.reduceBNe,Int.reduceGT,Int.reduceGE,Nat.reduceGT,Int.reduceToNat,Int.reduceNeg,Nat.reduceLeDiff,Nat.reduceBEq,Nat.reduceBneDiff,z1,z2,List.append_nil,cw1,cw,hi1,hi2,Int.toNat_natCast,m1,m0,el,List.replicate_one,List.flatten_singleton,implies_true,List.mem_cons,List.not_mem_nil,List.mem_singleton,or_false,forall_eq,forall_eq_or_imp,and_self]
  intro b7 hb7
  have le8 := Heap.q0a (Heap.q04 G1) hb7 (.own 0 (edC S[i]) 15)
  have sx : Sl (G1.set b7 (.own 0 (edC S[i]) 15)) 15 (.slice (some ⟨b7, 0, none⟩) 1 1) 1 (edC S[i]) := Sl.lit (by rw [el])
  refine q1t (m := 1) (Heap.q00 le7 le8) (by omega) (o1.le le8) sx (qd6 _) (by omega) (by omega) ?_
  intro v2 G2 o2 le9
  obtain ⟨vb2, vc2, rfl⟩ := Sl.shape o2.sl
  simp -implicitDefEqProofs only [zA,reduceIte,reduceCtorEq,Nat.reduceEqDiff,Nat.reduceAdd,Nat.reduceMul,Nat.reduceLT,Nat.reduceSub,Int.reduceLT,Int.reduceLE,Int.reduceEq,Int.reduceNe,Int.reduceSub,Int.reduceAdd,Int.reduceMul,Int.reduceBEq,Int.reduceBNe,Int.reduceGT,Int.reduceGE,Nat.reduceGT,Int.reduceToNat,Int.reduceNeg,Nat.reduceLeDiff,Nat.reduceBEq,Nat.reduceBneDiff,bl,Int.toNat_natCast,implies_true,List.mem_cons,List.not_mem_nil,List.mem_singleton,or_false,forall_eq,forall_eq_or_imp,and_self]
  refine q1t (m := l.length - k) le9 (by omega) o2 (sp.le le9) (qho _) (by omega) (by omega) ?_
  intro v3 G3 o3 le10
  simp -implicitDefEqProofs only [zA,reduceIte,reduceCtorEq,Nat.reduceEqDiff,Nat.reduceAdd,Nat.reduceMul,Nat.reduceLT,Nat.reduceSub,Int.reduceLT,Int.reduceLE,Int.reduceEq,Int.reduceNe,Int.reduceSub,Int.reduceAdd,Int.reduceMul,Int.reduceBEq,Int.reduceBNe,Int.reduceGT,Int.reduceGE,Nat.reduceGT,Int.reduceToNat,Int.reduceNeg,Nat.reduceLeDiff,Nat.reduceBEq,Nat.reduceBneDiff]
  refine hQ _ _ le10 ?_
  have e1 : (l.take k ++ S[i] :: l.drop k).length = k + 1 + (l.length - k) := by
    rw [List.length_append, List.length_cons, List.length_take, List.length_drop, Nat.min_eq_left hk]; omega
  have e2 : (l.take k ++ S[i] :: l.drop k).flatMap edC = (l.take k).flatMap edC ++ edC S[i] ++ (l.drop k).flatMap edC := by simp
  unfold SlE
  rw [e1, e2]
  exact o3.sl
theorem qcw (E : EnvT tab) {H : Heap} {w : Nat} {S : List Ed} (ok : BkS S) (B : WB H w S) :
    ACallN E.toEnv qbs [.pointer (some ⟨w, 0, none⟩)] H fun v H' => H.le H' ∧ SlE H' v (q7z S) := by
  obtain ⟨lv, qw, sw⟩ := B
  obtain ⟨base, c, rfl⟩ := sw.shape
  have h8 := ok.h8
  have hS := ok.len
  refine q1i q4n q1v rfl rfl (q01 ?_)
  unfold q1v
  simp -implicitDefEqProofs only [zA,reduceIte,reduceCtorEq,Nat.reduceEqDiff,Nat.reduceAdd,Nat.reduceMul,Nat.reduceLT,Nat.reduceSub,Int.reduceLT,Int.reduceLE,Int.reduceEq,Int.reduceNe,Int.reduceSub,Int.reduceAdd,Int.reduceMul,Int.reduceBEq,Int.reduceBNe,Int.reduceGT,Int.reduceGE,Nat.reduceGT,Int.reduceToNat,Int.reduceNeg,Nat.reduceLeDiff,Nat.reduceBEq,Nat.reduceBneDiff]
  unfold q6h
  simp -implicitDefEqProofs only [zA,reduceIte,reduceCtorEq,Nat.reduceEqDiff,Nat.reduceAdd,Nat.reduceMul,Nat.reduceLT,Nat.reduceSub,Int.reduceLT,Int.reduceLE,Int.reduceEq,Int.reduceNe,Int.reduceSub,Int.reduceAdd,Int.reduceMul,Int.reduceBEq,Int.reduceBNe,Int.reduceGT,Int.reduceGE,Nat.reduceGT,Int.reduceToNat,Int.reduceNeg,Nat.reduceLeDiff,Nat.reduceBEq,Nat.reduceBneDiff]
  refine q0s (fun m t G => ∃ (i : Nat) (v : Value) (l : List Ed), t = tl [(0, .pointer (some ⟨w, 0, none⟩)), (3, v), (4, .int .i64 i)] ∧ i ≤ S.length ∧ m = S.length - i ∧ H.le G ∧ SlE G v l ∧ LvS S i l) S.length
    ⟨0, _, [], rfl, by omega, by omega, Heap.q04 _, .inl ⟨rfl, rfl, rfl⟩, ⟨List.Pairwise.nil, by simp, by simp⟩⟩ ?_
  rintro m t G ⟨i, v, l, rfl, hi, rfl, le, sl, lv⟩
  have cw : ∀ G', H.le G' → q0u G' ⟨w, 0, none⟩ = some (.slice base S.length c) := fun G' le => by rw [q0z (le _ _ qw) (by simp)]; rfl
  have cwG := cw G le
  by_cases hlt : i < S.length
  · obtain ⟨bs, o, c', hv, hc, hce⟩ := sw.edAt h8 i hlt
    simp only [Value.slice.injEq, true_and] at hv
    obtain ⟨rfl, rfl⟩ := hv
    have hi1 : (i : Int) < S.length := by omega
    have hi2 : (0 : Int) ≤ i := by omega
    have w1 : IntKind.i64.wrap ((i : Int) + 1) = ((i + 1 : Nat) : Int) := q9r (by omega)
    have hx8 := h8 S[i] (List.getElem_mem hlt)
    obtain ⟨y0, y1, y10, y11, y12, y13, y14⟩ := qfh hx8 (hce _ le)
    simp -implicitDefEqProofs only [zA,reduceIte,reduceCtorEq,Nat.reduceEqDiff,Nat.reduceAdd,Nat.reduceMul,Nat.reduceLT,Nat.reduceSub,Int.reduceLT,Int.reduceLE,Int.reduceEq,Int.reduceNe,Int.reduceSub,Int.reduceAdd,Int.reduceMul,Int.reduceBEq,Int.reduceBNe,Int.reduceGT,Int.reduceGE,Nat.reduceGT,Int.reduceToNat,Int.reduceNeg,Nat.reduceLeDiff,Nat.reduceBEq,Nat.reduceBneDiff,cwG,hi1,hi2,Int.toNat_natCast,y10]
    unfold q6g
    simp -implicitDefEqProofs only [zA,reduceIte,reduceCtorEq,Nat.reduceEqDiff,Nat.reduceAdd,Nat.reduceMul,Nat.reduceLT,Nat.reduceSub,Int.reduceLT,Int.reduceLE,Int.reduceEq,Int.reduceNe,Int.reduceSub,Int.reduceAdd,Int.reduceMul,Int.reduceBEq,Int.reduceBNe,Int.reduceGT,Int.reduceGE,Nat.reduceGT,Int.reduceToNat,Int.reduceNeg,Nat.reduceLeDiff,Nat.reduceBEq,Nat.reduceBneDiff]
    refine q0s (fun m t G' => ∃ (k : Nat) (fl : Bool), t = tl [(0, .pointer (some ⟨w, 0, none⟩)), (3, v), (4, .int .i64 i), (5, .bool fl), (6, .int .i64 k)] ∧ k ≤ S.length ∧ m = S.length - k ∧ G.le G' ∧ fl = (S[i].kind != 1 || (S.take k).any fun a => q96 a S[i])) S.length
      ⟨0, _, rfl, by omega, by omega, Heap.q04 _, by simp⟩ ?_
    rintro m t G1 ⟨k, fl, rfl, hk, rfl, le1, hfl⟩
    have leg := Heap.q00 le le1
    have cw1 := cw G1 leg
    by_cases hkt : k < S.length ∧ fl = false
    · obtain ⟨hkt, hff⟩ := hkt
      rw [hff] at hfl ⊢
      have hk1 : (k : Int) < S.length := by omega
      have hk2 : (0 : Int) ≤ k := by omega
      have w2 : IntKind.i64.wrap ((k : Int) + 1) = ((k + 1 : Nat) : Int) := q9r (by omega)
      obtain ⟨bs2, o2, c2, hv2, hc2, hce2⟩ := sw.edAt h8 k hkt
      simp only [Value.slice.injEq, Option.some.injEq, Addr.mk.injEq, true_and, and_true] at hv2
      obtain ⟨⟨rfl, rfl⟩, -⟩ := hv2
      have hy8 := h8 S[k] (List.getElem_mem hkt)
      have l1 := hce _ leg
      have l2 := hce2 _ leg
      have et : S.take (k + 1) = S.take k ++ [S[k]] := List.take_succ_eq_append_getElem hkt
      simp -implicitDefEqProofs only [zA,reduceIte,reduceCtorEq,Nat.reduceEqDiff,Nat.reduceAdd,Nat.reduceMul,Nat.reduceLT,Nat.reduceSub,Int.reduceLT,Int.reduceLE,Int.reduceEq,Int.reduceNe,Int.reduceSub,Int.reduceAdd,Int.reduceMul,Int.reduceBEq,Int.reduceBNe,Int.reduceGT,Int.reduceGE,Nat.reduceGT,Int.reduceToNat,Int.reduceNeg,Nat.reduceLeDiff,Nat.reduceBEq,Nat.reduceBneDiff,cw1,hk1]
      unfold q5u
      simp -implicitDefEqProofs only [zA,reduceIte,reduceCtorEq,Nat.reduceEqDiff,Nat.reduceAdd,Nat.reduceMul,Nat.reduceLT,Nat.reduceSub,Int.reduceLT,Int.reduceLE,Int.reduceEq,Int.reduceNe,Int.reduceSub,Int.reduceAdd,Int.reduceMul,Int.reduceBEq,Int.reduceBNe,Int.reduceGT,Int.reduceGE,Nat.reduceGT,Int.reduceToNat,Int.reduceNeg,Nat.reduceLeDiff,Nat.reduceBEq,Nat.reduceBneDiff,cw1,hk1,hk2,hi1,hi2,Int.toNat_natCast,l1,l2]
      refine (qkz E G1 S[k] S[i] hy8 hx8).mono ?_
      rintro r G2 ⟨le2, rfl⟩
      simp -implicitDefEqProofs only [zA,reduceIte,reduceCtorEq,Nat.reduceEqDiff,Nat.reduceAdd,Nat.reduceMul,Nat.reduceLT,Nat.reduceSub,Int.reduceLT,Int.reduceLE,Int.reduceEq,Int.reduceNe,Int.reduceSub,Int.reduceAdd,Int.reduceMul,Int.reduceBEq,Int.reduceBNe,Int.reduceGT,Int.reduceGE,Nat.reduceGT,Int.reduceToNat,Int.reduceNeg,Nat.reduceLeDiff,Nat.reduceBEq,Nat.reduceBneDiff,w2]
      refine ⟨_, ?_, k + 1, _, rfl, by omega, rfl, Heap.q00 le1 le2, ?_⟩
      · omega
      · rw [et, List.any_append]
        symm at hfl
        rw [Bool.or_eq_false_iff] at hfl
        rw [hfl.1, hfl.2]
        simp
    · have hlive : qac S S[i] = !fl ∧ (fl = false → k = S.length) := by
        have hkk : fl = false → k = S.length := fun h => Classical.byContradiction fun q => hkt ⟨by omega, h⟩
        refine ⟨?_, hkk⟩
        cases hf : fl with
        | true =>
          rw [hf] at hfl
          symm at hfl
          rw [Bool.or_eq_true] at hfl
          unfold qac
          rcases hfl with h | h
          · have : decide (S[i].kind = 1) = false := by simpa using h
            rw [this]; rfl
          · obtain ⟨a, ha, h⟩ := List.any_eq_true.1 h
            have : (S.any fun a => q96 a S[i]) = true := List.any_eq_true.2 ⟨a, List.mem_of_mem_take ha, h⟩
            rw [this]; simp
        | false =>
          have := hkk hf
          rw [hf, this, List.take_length] at hfl
          symm at hfl
          rw [Bool.or_eq_false_iff] at hfl
          unfold qac
          rw [hfl.2]
          have : decide (S[i].kind = 1) = true := by simpa using hfl.1
          rw [this]; rfl
      have sl1 := sl.le le1
      cases hf : fl with
      | true =>
        rw [hf] at hlive
        by_cases hk1 : (k : Int) < S.length
        · simp -implicitDefEqProofs only [zA,reduceIte,reduceCtorEq,Nat.reduceEqDiff,Nat.reduceAdd,Nat.reduceMul,Nat.reduceLT,Nat.reduceSub,Int.reduceLT,Int.reduceLE,Int.reduceEq,Int.reduceNe,Int.reduceSub,Int.reduceAdd,Int.reduceMul,Int.reduceBEq,Int.reduceBNe,Int.reduceGT,Int.reduceGE,Nat.reduceGT,Int.reduceToNat,Int.reduceNeg,Nat.reduceLeDiff,Nat.reduceBEq,Nat.reduceBneDiff,cw1,hk1,w1]
          refine ⟨_, ?_, i + 1, v, l, rfl, by omega, rfl, leg, sl1, lv.no hlt hlive.1⟩
          omega
        · simp -implicitDefEqProofs only [zA,reduceIte,reduceCtorEq,Nat.reduceEqDiff,Nat.reduceAdd,Nat.reduceMul,Nat.reduceLT,Nat.reduceSub,Int.reduceLT,Int.reduceLE,Int.reduceEq,Int.reduceNe,Int.reduceSub,Int.reduceAdd,Int.reduceMul,Int.reduceBEq,Int.reduceBNe,Int.reduceGT,Int.reduceGE,Nat.reduceGT,Int.reduceToNat,Int.reduceNeg,Nat.reduceLeDiff,Nat.reduceBEq,Nat.reduceBneDiff,cw1,hk1,w1]
          refine ⟨_, ?_, i + 1, v, l, rfl, by omega, rfl, leg, sl1, lv.no hlt hlive.1⟩
          omega
      | false =>
        rw [hf] at hlive
        have hk1 : ¬ (k : Int) < S.length := by have := hlive.2 rfl; omega
        simp -implicitDefEqProofs only [zA,reduceIte,reduceCtorEq,Nat.reduceEqDiff,Nat.reduceAdd,Nat.reduceMul,Nat.reduceLT,Nat.reduceSub,Int.reduceLT,Int.reduceLE,Int.reduceEq,Int.reduceNe,Int.reduceSub,Int.reduceAdd,Int.reduceMul,Int.reduceBEq,Int.reduceBNe,Int.reduceGT,Int.reduceGE,Nat.reduceGT,Int.reduceToNat,Int.reduceNeg,Nat.reduceLeDiff,Nat.reduceBEq,Nat.reduceBneDiff,cw1,hk1]
        unfold q5t
        obtain ⟨lb, lc, rfl⟩ := sl1.shape
        have l8 := lv.h8 ok
        have hll := lv.len
        simp -implicitDefEqProofs only [zA,reduceIte,reduceCtorEq,Nat.reduceEqDiff,Nat.reduceAdd,Nat.reduceMul,Nat.reduceLT,Nat.reduceSub,Int.reduceLT,Int.reduceLE,Int.reduceEq,Int.reduceNe,Int.reduceSub,Int.reduceAdd,Int.reduceMul,Int.reduceBEq,Int.reduceBNe,Int.reduceGT,Int.reduceGE,Nat.reduceGT,Int.reduceToNat,Int.reduceNeg,Nat.reduceLeDiff,Nat.reduceBEq,Nat.reduceBneDiff]
        refine q0s (fun m t G' => ∃ (k : Nat), t = tl [(0, .pointer (some ⟨w, 0, none⟩)), (3, .slice lb l.length lc), (4, .int .i64 i), (7, .int .i64 k)] ∧ k ≤ l.length ∧ m = l.length - k ∧ G1.le G' ∧ ∀ y ∈ l.take k, q63 y S[i]) l.length
          ⟨0, rfl, by omega, by omega, Heap.q04 _, by simp⟩ ?_
        rintro m t G2 ⟨k, rfl, hk, rfl, le2, hless⟩
        have leg2 := Heap.q00 leg le2
        have cw2 := cw G2 leg2
        have sl2 := sl1.le le2
        have fin : ∀ G3, G2.le G3 → (∀ q : k < l.length, ¬ q63 l[k] S[i]) → ∀ Q : AExit → T → Heap → Prop,
            (∀ v' G', H.le G' → SlE G' v' (l.take k ++ S[i] :: l.drop k) → LvS S (i + 1) (l.take k ++ S[i] :: l.drop k) → Q .normal (tl [(0, .pointer (some ⟨w, 0, none⟩)), (3, v'), (4, .int .i64 i)]) G') →
            wpA E.toEnv 94 q1e Q (tl [(0, .pointer (some ⟨w, 0, none⟩)), (3, .slice lb l.length lc), (4, .int .i64 i), (7, .int .i64 k), (72, .bool false)]) G3 := fun G3 le3 hq Q hQ =>
          qjw E (sw.le (Heap.q00 leg2 le3)) h8 hS (by rw [q0z (Heap.q00 leg2 le3 _ _ qw) (by simp)]; rfl) (sl2.le le3) l8 (by omega) hlt hk Q fun v' G' le' s' => hQ v' G' (Heap.q00 leg2 (Heap.q00 le3 le')) s' (lv.yes ok hlt (by rw [hlive.1]; rfl) hk hless hq)
        by_cases hkl : k < l.length
        · have hk1 : (k : Int) < l.length := by omega
          have hk2 : (0 : Int) ≤ k := by omega
          have w2 : IntKind.i64.wrap ((k : Int) + 1) = ((k + 1 : Nat) : Int) := q9r (by omega)
          obtain ⟨bs2, o2, c2, hv2, hc2, hce2⟩ := sl2.edAt l8 k hkl
          simp only [Value.slice.injEq, true_and] at hv2
          obtain ⟨rfl, rfl⟩ := hv2
          have hy8 := l8 l[k] (List.getElem_mem hkl)
          have m1 := hce _ leg2
          have m2 := hce2 _ (Heap.q04 _)
          have et : l.take (k + 1) = l.take k ++ [l[k]] := List.take_succ_eq_append_getElem hkl
          simp -implicitDefEqProofs only [zA,reduceIte,reduceCtorEq,Nat.reduceEqDiff,Nat.reduceAdd,Nat.reduceMul,Nat.reduceLT,Nat.reduceSub,Int.reduceLT,Int.reduceLE,Int.reduceEq,Int.reduceNe,Int.reduceSub,Int.reduceAdd,Int.reduceMul,Int.reduceBEq,Int.reduceBNe,Int.reduceGT,Int.reduceGE,Nat.reduceGT,Int.reduceToNat,Int.reduceNeg,Nat.reduceLeDiff,Nat.reduceBEq,Nat.reduceBneDiff,cw2,hk1,hk2,hi1,hi2,Int.toNat_natCast,m1,m2]
          refine (ql1 E G2 l[k] S[i] hy8 hx8).mono ?_
          rintro r G3 ⟨le3, rfl⟩
          by_cases e : q63 l[k] S[i]
          · rw [decide_eq_true e]
            simp -implicitDefEqProofs only [zA,reduceIte,reduceCtorEq,Nat.reduceEqDiff,Nat.reduceAdd,Nat.reduceMul,Nat.reduceLT,Nat.reduceSub,Int.reduceLT,Int.reduceLE,Int.reduceEq,Int.reduceNe,Int.reduceSub,Int.reduceAdd,Int.reduceMul,Int.reduceBEq,Int.reduceBNe,Int.reduceGT,Int.reduceGE,Nat.reduceGT,Int.reduceToNat,Int.reduceNeg,Nat.reduceLeDiff,Nat.reduceBEq,Nat.reduceBneDiff,w2]
            refine ⟨_, ?_, k + 1, rfl, by omega, rfl, Heap.q00 le2 le3, fun y hy => ?_⟩
            · omega
            · rw [et] at hy
              rcases List.mem_append.1 hy with h | h
              · exact hless y h
              · rw [List.mem_singleton.1 h]; exact e
          · rw [decide_eq_false e]
            simp -implicitDefEqProofs only [zA,reduceIte,reduceCtorEq,Nat.reduceEqDiff,Nat.reduceAdd,Nat.reduceMul,Nat.reduceLT,Nat.reduceSub,Int.reduceLT,Int.reduceLE,Int.reduceEq,Int.reduceNe,Int.reduceSub,Int.reduceAdd,Int.reduceMul,Int.reduceBEq,Int.reduceBNe,Int.reduceGT,Int.reduceGE,Nat.reduceGT,Int.reduceToNat,Int.reduceNeg,Nat.reduceLeDiff,Nat.reduceBEq,Nat.reduceBneDiff]
            refine fin G3 le3 (fun _ => e) _ fun v' G' le' s' lv' => ?_
            simp -implicitDefEqProofs only [zA,reduceIte,reduceCtorEq,Nat.reduceEqDiff,Nat.reduceAdd,Nat.reduceMul,Nat.reduceLT,Nat.reduceSub,Int.reduceLT,Int.reduceLE,Int.reduceEq,Int.reduceNe,Int.reduceSub,Int.reduceAdd,Int.reduceMul,Int.reduceBEq,Int.reduceBNe,Int.reduceGT,Int.reduceGE,Nat.reduceGT,Int.reduceToNat,Int.reduceNeg,Nat.reduceLeDiff,Nat.reduceBEq,Nat.reduceBneDiff,w1]
            refine ⟨_, ?_, i + 1, v', _, rfl, by omega, rfl, le', s', lv'⟩
            omega
        · have hk1 : ¬ (k : Int) < l.length := by omega
          simp -implicitDefEqProofs only [zA,reduceIte,reduceCtorEq,Nat.reduceEqDiff,Nat.reduceAdd,Nat.reduceMul,Nat.reduceLT,Nat.reduceSub,Int.reduceLT,Int.reduceLE,Int.reduceEq,Int.reduceNe,Int.reduceSub,Int.reduceAdd,Int.reduceMul,Int.reduceBEq,Int.reduceBNe,Int.reduceGT,Int.reduceGE,Nat.reduceGT,Int.reduceToNat,Int.reduceNeg,Nat.reduceLeDiff,Nat.reduceBEq,Nat.reduceBneDiff,cw2,hk1]
          refine fin G2 (Heap.q04 _) (fun h => absurd h hkl) _ fun v' G' le' s' lv' => ?_
          simp -implicitDefEqProofs only [zA,reduceIte,reduceCtorEq,Nat.reduceEqDiff,Nat.reduceAdd,Nat.reduceMul,Nat.reduceLT,Nat.reduceSub,Int.reduceLT,Int.reduceLE,Int.reduceEq,Int.reduceNe,Int.reduceSub,Int.reduceAdd,Int.reduceMul,Int.reduceBEq,Int.reduceBNe,Int.reduceGT,Int.reduceGE,Nat.reduceGT,Int.reduceToNat,Int.reduceNeg,Nat.reduceLeDiff,Nat.reduceBEq,Nat.reduceBneDiff,w1]
          refine ⟨_, ?_, i + 1, v', _, rfl, by omega, rfl, le', s', lv'⟩
          omega
  · have hi1 : ¬ (i : Int) < S.length := by omega
    have q : i = S.length := by omega
    subst q
    rw [lv.all ok] at sl
    simp -implicitDefEqProofs only [zA,reduceIte,reduceCtorEq,Nat.reduceEqDiff,Nat.reduceAdd,Nat.reduceMul,Nat.reduceLT,Nat.reduceSub,Int.reduceLT,Int.reduceLE,Int.reduceEq,Int.reduceNe,Int.reduceSub,Int.reduceAdd,Int.reduceMul,Int.reduceBEq,Int.reduceBNe,Int.reduceGT,Int.reduceGE,Nat.reduceGT,Int.reduceToNat,Int.reduceNeg,Nat.reduceLeDiff,Nat.reduceBEq,Nat.reduceBneDiff,cwG,hi1]
    exact ⟨le, sl⟩
end Go.Bb
