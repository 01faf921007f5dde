/- My contracts: BbBo5 BbBo6 BbBo7 BbBo8 BbBo9 BbPbs BbBoA BbUed BbLbk0 BbPbl BbLbk1 BbLbk2 BbPbm BbPbn BbPbo BbLbkV BbLbk6. -/
import Derived.Test.YthealcnfgedddaaBbM1
import Derived.Test.YthealcnfgedddaaBbG3
namespace Go.Bb
set_option linter.unusedSimpArgs false
set_option linter.unusedVariables false
set_option maxRecDepth 20000
set_option maxHeartbeats 2000000
open Go.MapKept
theorem qlx {E : Env} {n : Nat} {g : FuncId} {first cap vs : List Value} {h : Heap} {K : Value → Heap → Prop} (hg : E.fid n = some g) (a : ACallN E n (first ++ vs ++ cap) h K) : qji E h K (.func (.func g) first.toArray cap.toArray) vs :=
  ⟨⟨n, hg⟩, by simpa using a g hg⟩
theorem Sl.edAt {H : Heap} {v : Value} {S : List Ed} (h8 : ∀ e ∈ S, e.seen.length = 8) (s : Sl H 15 v S.length (S.flatMap edC)) (i : Nat) (hi : i < S.length) :
    ∃ b o c, v = .slice (some ⟨b, o, none⟩) S.length c ∧ S.length ≤ c ∧ ∀ h', H.le h' → q09 h' ⟨b, o + i * 15, none⟩ 15 = some (edC S[i]) := by
  obtain ⟨l, rfl⟩ := toG h8
  rw [← qek, List.length_map] at s
  rw [List.length_map] at hi
  obtain ⟨b, o, c, h1, h2, h3⟩ := s.at qch i hi (by decide)
  refine ⟨b, o, c, by rw [List.length_map]; exact h1, by rw [List.length_map]; exact h2, fun h' hle => ?_⟩
  rw [h3 h' hle, List.getElem_map]
  rfl
theorem qc5 (E : EnvT tab) (K : BkOk E) {H : Heap} {v : Value} {S : List Ed} (h8 : ∀ e ∈ S, e.seen.length = 8) (hl : S.length ≤ 100000) (s : Sl H 15 v S.length (S.flatMap edC)) {y : Ed} (hy : y.seen.length = 8) {b0 : Nat} (q0 : H b0 = some (.own 0 (edC y) 15)) :
    ACallN E.toEnv q75 [v, .func (.func 60) #[] #[.pointer (some ⟨b0, 0, none⟩)]] H fun r H' => H.le H' ∧ r = .int .i64 (if S.any (fun a => q85 a y) then (S.findIdx (fun a => q85 a y) : Int) else -1) := by
  obtain ⟨base, c, rfl⟩ := s.shape
  refine q3s q18 q0m rfl rfl (q01 ?_)
  unfold q0m
  simp -implicitDefEqProofs only [zA,reduceIte,reduceCtorEq,Nat.reduceEqDiff,Nat.reduceAdd,Nat.reduceMul,Nat.reduceLT,Nat.reduceSub,Int.reduceLT,Int.reduceLE,Int.reduceEq,Int.reduceNe,Int.reduceSub,Int.reduceAdd,Int.reduceMul,Int.reduceBEq,Int.reduceBNe,Int.reduceGT,Int.reduceGE,Nat.reduceGT,Int.reduceToNat,Int.reduceNeg,Nat.reduceLeDiff,Nat.reduceBEq,Nat.reduceBneDiff]
  refine q3j (fun m t G => H.le G ∧ ∃ i : Nat, t = tl [(0, .slice base S.length c), (1, .func (.func 60) [].toArray [.pointer (some ⟨b0, 0, none⟩)].toArray), (7, .int .i64 S.length), (8, .int .i64 i)] ∧ i ≤ S.length ∧ m = S.length - i ∧ (S.take i).any (fun a => q85 a y) = false) S.length
    ⟨Heap.q0e _, 0, rfl, by omega, by omega, by simp⟩ ?_
  rintro m t G ⟨le, i, rfl, hi, rfl, ha⟩
  by_cases hlt : i < S.length
  · obtain ⟨b, o, c', hv, hc, q1r⟩ := s.edAt h8 i hlt
    simp only [Value.slice.injEq, true_and] at hv
    obtain ⟨rfl, rfl⟩ := hv
    have hi1 : (i : Int) < S.length := by omega
    have hi2 : (0 : Int) ≤ i := by omega
    have w1 : IntKind.i64.wrap ((i : Int) + 1) = ((i + 1 : Nat) : Int) := qcs (by omega)
    have hi3 := q1r _ le
    have hx := h8 S[i] (List.getElem_mem hlt)
    simp -implicitDefEqProofs only [zA,reduceIte,reduceCtorEq,Nat.reduceEqDiff,Nat.reduceAdd,Nat.reduceMul,Nat.reduceLT,Nat.reduceSub,Int.reduceLT,Int.reduceLE,Int.reduceEq,Int.reduceNe,Int.reduceSub,Int.reduceAdd,Int.reduceMul,Int.reduceBEq,Int.reduceBNe,Int.reduceGT,Int.reduceGE,Nat.reduceGT,Int.reduceToNat,Int.reduceNeg,Nat.reduceLeDiff,Nat.reduceBEq,Nat.reduceBneDiff,hi1,hi2,Int.toNat_natCast,hi3]
    refine qlx (first := []) (cap := [.pointer (some ⟨b0, 0, none⟩)]) (vs := [.agg (edC S[i]).toArray]) K.f60 ?_
    refine (qh7 E G S[i] y hx hy (le _ _ q0)).mono ?_
    rintro r G1 ⟨le1, rfl⟩
    have leX := Heap.q07 le le1
    have et : S.take (i + 1) = S.take i ++ [S[i]] := List.take_succ_eq_append_getElem hlt
    by_cases g : q85 S[i] y = true
    · have e1 : S.any (fun a => q85 a y) = true := List.any_eq_true.2 ⟨S[i], List.getElem_mem hlt, g⟩
      have e2 : S.findIdx (fun a => q85 a y) = i := by
        rw [List.findIdx_eq hlt]
        refine ⟨g, fun j hj => ?_⟩
        rw [List.any_eq_false] at ha
        have := ha S[j] (by rw [List.mem_take_iff_getElem]; exact ⟨j, by omega, rfl⟩)
        simpa using this
      simp -implicitDefEqProofs only [zA,reduceIte,reduceCtorEq,Nat.reduceEqDiff,Nat.reduceAdd,Nat.reduceMul,Nat.reduceLT,Nat.reduceSub,Int.reduceLT,Int.reduceLE,Int.reduceEq,Int.reduceNe,Int.reduceSub,Int.reduceAdd,Int.reduceMul,Int.reduceBEq,Int.reduceBNe,Int.reduceGT,Int.reduceGE,Nat.reduceGT,Int.reduceToNat,Int.reduceNeg,Nat.reduceLeDiff,Nat.reduceBEq,Nat.reduceBneDiff,g,e1,e2]
      exact leX
    · have g' : q85 S[i] y = false := by simpa using g
      simp -implicitDefEqProofs only [zA,reduceIte,reduceCtorEq,Nat.reduceEqDiff,Nat.reduceAdd,Nat.reduceMul,Nat.reduceLT,Nat.reduceSub,Int.reduceLT,Int.reduceLE,Int.reduceEq,Int.reduceNe,Int.reduceSub,Int.reduceAdd,Int.reduceMul,Int.reduceBEq,Int.reduceBNe,Int.reduceGT,Int.reduceGE,Nat.reduceGT,Int.reduceToNat,Int.reduceNeg,Nat.reduceLeDiff,Nat.reduceBEq,Nat.reduceBneDiff,g',w1]
      refine ⟨_, ?_, leX, i + 1, rfl, by omega, rfl, ?_⟩
      · omega
      · rw [et, List.any_append, ha]; simp [g']
  · have hi1 : ¬ (i : Int) < S.length := by omega
    have e : i = S.length := by omega
    subst e
    rw [List.take_length] at ha
    simp -implicitDefEqProofs only [zA,reduceIte,reduceCtorEq,Nat.reduceEqDiff,Nat.reduceAdd,Nat.reduceMul,Nat.reduceLT,Nat.reduceSub,Int.reduceLT,Int.reduceLE,Int.reduceEq,Int.reduceNe,Int.reduceSub,Int.reduceAdd,Int.reduceMul,Int.reduceBEq,Int.reduceBNe,Int.reduceGT,Int.reduceGE,Nat.reduceGT,Int.reduceToNat,Int.reduceNeg,Nat.reduceLeDiff,Nat.reduceBEq,Nat.reduceBneDiff,hi1,ha]
    exact le
theorem qae (E : EnvT tab) (K : BkOk E) {H : Heap} {v : Value} {S : List Ed} (h8 : ∀ e ∈ S, e.seen.length = 8) (hl : S.length ≤ 100000) (s : Sl H 15 v S.length (S.flatMap edC)) {y : Ed} (hy : y.seen.length = 8) {b0 : Nat} (q0 : H b0 = some (.own 0 (edC y) 15)) :
    ACallN E.toEnv q5l [v, .func (.func 60) #[] #[.pointer (some ⟨b0, 0, none⟩)]] H fun r H' => H.le H' ∧ r = .bool (S.any (fun a => q85 a y)) := by
  refine q3s q0z q0g rfl rfl (q01 ?_)
  unfold q0g
  simp -implicitDefEqProofs only [zA,reduceIte,reduceCtorEq,Nat.reduceEqDiff,Nat.reduceAdd,Nat.reduceMul,Nat.reduceLT,Nat.reduceSub,Int.reduceLT,Int.reduceLE,Int.reduceEq,Int.reduceNe,Int.reduceSub,Int.reduceAdd,Int.reduceMul,Int.reduceBEq,Int.reduceBNe,Int.reduceGT,Int.reduceGE,Nat.reduceGT,Int.reduceToNat,Int.reduceNeg,Nat.reduceLeDiff,Nat.reduceBEq,Nat.reduceBneDiff]
  refine (qc5 E K h8 hl s hy q0).mono ?_
  rintro r H1 ⟨le1, rfl⟩
  cases g : S.any (fun a => q85 a y) with
  | true =>
    have h0 : (0 : Int) ≤ (S.findIdx (fun a => q85 a y) : Nat) := by omega
    simp -implicitDefEqProofs only [zA,reduceIte,reduceCtorEq,Nat.reduceEqDiff,Nat.reduceAdd,Nat.reduceMul,Nat.reduceLT,Nat.reduceSub,Int.reduceLT,Int.reduceLE,Int.reduceEq,Int.reduceNe,Int.reduceSub,Int.reduceAdd,Int.reduceMul,Int.reduceBEq,Int.reduceBNe,Int.reduceGT,Int.reduceGE,Nat.reduceGT,Int.reduceToNat,Int.reduceNeg,Nat.reduceLeDiff,Nat.reduceBEq,Nat.reduceBneDiff,h0]
    exact le1
  | false =>
    simp -implicitDefEqProofs only [zA,reduceIte,reduceCtorEq,Nat.reduceEqDiff,Nat.reduceAdd,Nat.reduceMul,Nat.reduceLT,Nat.reduceSub,Int.reduceLT,Int.reduceLE,Int.reduceEq,Int.reduceNe,Int.reduceSub,Int.reduceAdd,Int.reduceMul,Int.reduceBEq,Int.reduceBNe,Int.reduceGT,Int.reduceGE,Nat.reduceGT,Int.reduceToNat,Int.reduceNeg,Nat.reduceLeDiff,Nat.reduceBEq,Nat.reduceBneDiff]
    exact le1
def Z15 : List Value := List.replicate 11 (.int .i64 0) ++ [.string .empty, .string .empty, .string .empty, .int .i64 0]
theorem qm3 : Z15.length = 15 := rfl
theorem zf15 : (List.replicate 1 (List.replicate 11 (Value.int .i64 0) ++ [.string .empty, .string .empty, .string .empty, .int .i64 0])).flatten = Z15 := rfl
theorem Z15_drop : List.drop 15 Z15 = [] := rfl
theorem stE (G : Heap) (b : Nat) {e : Ed} (h8 : e.seen.length = 8) : q5x (G.set b (.own 0 Z15 Z15.length)) 15 (.pointer (some ⟨b, 0, none⟩)) (.agg (edC e).toArray) = some (G.set b (.own 0 (edC e) 15)) :=
  z73 (by decide) (q5w h8) (qh1 e) qm3 (by decide)
def qaa (S : List Ed) (e : Ed) : Bool := decide (e.kind = 1) && !S.any fun a => q85 a e
theorem qcl (x y : Ed) : qlt x y < 0 ↔ q9k x y := by
  rw [← qlc]
  unfold qlt
  cases qk0 x y <;> simp
theorem qfn (E : EnvT tab) (K : BkOk E) {H : Heap} {b r : Nat} {S : List Ed} (B : BookAt H b r S) :
    ACallN E.toEnv qed [.pointer (some ⟨b, 0, none⟩)] H fun v H' => H.le H' ∧ Ow H H' 15 v (qab S).length ((qab S).flatMap edC) := by
  refine q3s q86 q5g rfl rfl (q01 ?_)
  unfold q5g
  have hS := B.ok.len
  have h8 := B.ok.h8
  simp -implicitDefEqProofs only [zA,reduceIte,reduceCtorEq,Nat.reduceEqDiff,Nat.reduceAdd,Nat.reduceMul,Nat.reduceLT,Nat.reduceSub,Int.reduceLT,Int.reduceLE,Int.reduceEq,Int.reduceNe,Int.reduceSub,Int.reduceAdd,Int.reduceMul,Int.reduceBEq,Int.reduceBNe,Int.reduceGT,Int.reduceGE,Nat.reduceGT,Int.reduceToNat,Int.reduceNeg,Nat.reduceLeDiff,Nat.reduceBEq,Nat.reduceBneDiff]
  refine (qe5 E K B).mono ?_
  rintro v H1 ⟨le1, ow1⟩
  have sl1 := ow1.sl
  obtain ⟨base, c, rfl⟩ := sl1.shape
  have e60 := K.f60
  simp -implicitDefEqProofs only [zA,reduceIte,reduceCtorEq,Nat.reduceEqDiff,Nat.reduceAdd,Nat.reduceMul,Nat.reduceLT,Nat.reduceSub,Int.reduceLT,Int.reduceLE,Int.reduceEq,Int.reduceNe,Int.reduceSub,Int.reduceAdd,Int.reduceMul,Int.reduceBEq,Int.reduceBNe,Int.reduceGT,Int.reduceGE,Nat.reduceGT,Int.reduceToNat,Int.reduceNeg,Nat.reduceLeDiff,Nat.reduceBEq,Nat.reduceBneDiff]
  refine q3j (fun m t G => H1.le G ∧ ∃ (i : Nat) (vl : Value), t = tl [(3, vl), (4, .slice base S.length c), (10, .slice base S.length c), (11, .int .i64 S.length), (12, .int .i64 i)] ∧ i ≤ S.length ∧ m = S.length - i ∧ Ow H1 G 15 vl ((S.take i).filter (qaa S)).length (((S.take i).filter (qaa S)).flatMap edC)) S.length
    ⟨Heap.q0e _, 0, _, rfl, by omega, by omega, Ow.nil _ _ _⟩ ?_
  rintro m t G ⟨le, i, vl, rfl, hi, rfl, ow⟩
  by_cases hlt : i < S.length
  · obtain ⟨bs, o, c', hv, hc, q1r⟩ := sl1.edAt h8 i hlt
    simp only [Value.slice.injEq, true_and] at hv
    obtain ⟨rfl, rfl⟩ := hv
    have hi1 : (i : Int) < S.length := by omega
    have hi2 : (0 : Int) ≤ i := by omega
    have w1 : IntKind.i64.wrap ((i : Int) + 1) = ((i + 1 : Nat) : Int) := qcs (by omega)
    have hi3 := q1r _ le
    have hx := h8 S[i] (List.getElem_mem hlt)
    have et : S.take (i + 1) = S.take i ++ [S[i]] := List.take_succ_eq_append_getElem hlt
    generalize S[i] = y at hi3 hx et
    simp -implicitDefEqProofs only [zA,reduceIte,reduceCtorEq,Nat.reduceEqDiff,Nat.reduceAdd,Nat.reduceMul,Nat.reduceLT,Nat.reduceSub,Int.reduceLT,Int.reduceLE,Int.reduceEq,Int.reduceNe,Int.reduceSub,Int.reduceAdd,Int.reduceMul,Int.reduceBEq,Int.reduceBNe,Int.reduceGT,Int.reduceGE,Nat.reduceGT,Int.reduceToNat,Int.reduceNeg,Nat.reduceLeDiff,Nat.reduceBEq,Nat.reduceBneDiff,hi1,hi2,Int.toNat_natCast,hi3]
    intro b6 hb6
    have s6 := stE G b6 hx
    unfold Z15 at s6
    try simp -implicitDefEqProofs only [zA,reduceIte,reduceCtorEq,Nat.reduceEqDiff,Nat.reduceAdd,Nat.reduceMul,Nat.reduceLT,Nat.reduceSub,Int.reduceLT,Int.reduceLE,Int.reduceEq,Int.reduceNe,Int.reduceSub,Int.reduceAdd,Int.reduceMul,Int.reduceBEq,Int.reduceBNe,Int.reduceGT,Int.reduceGE,Nat.reduceGT,Int.reduceToNat,Int.reduceNeg,Nat.reduceLeDiff,Nat.reduceBEq,Nat.reduceBneDiff,s6]
    have le6 : G.le (G.set b6 (.own 0 (edC y) 15)) := Heap.q0v (Heap.q0e _) hb6 _
    have A : EdAt (G.set b6 (.own 0 (edC y) 15)) b6 y := EdAt.of (Heap.q02 _ _ _) hx
    have ow6 := ow.le le6
    have leB := Heap.q07 le le6
    generalize (G.set b6 (.own 0 (edC y) 15)) = G6 at le6 A ow6 leB
    unfold q8a
    have hyes : qaa S y = true → (S.take (i + 1)).filter (qaa S) = (S.take i).filter (qaa S) ++ [y] := fun h => by rw [et, List.filter_append]; simp [h]
    have hno : qaa S y = false → (S.take (i + 1)).filter (qaa S) = (S.take i).filter (qaa S) := fun h => by rw [et, List.filter_append]; simp [h]
    by_cases k1 : y.kind = 1
    · simp -implicitDefEqProofs only [zA,reduceIte,reduceCtorEq,Nat.reduceEqDiff,Nat.reduceAdd,Nat.reduceMul,Nat.reduceLT,Nat.reduceSub,Int.reduceLT,Int.reduceLE,Int.reduceEq,Int.reduceNe,Int.reduceSub,Int.reduceAdd,Int.reduceMul,Int.reduceBEq,Int.reduceBNe,Int.reduceGT,Int.reduceGE,Nat.reduceGT,Int.reduceToNat,Int.reduceNeg,Nat.reduceLeDiff,Nat.reduceBEq,Nat.reduceBneDiff,e60,A.kind,k1]
      refine (qae E K h8 (by omega) (sl1.le leB) hx A.own).mono ?_
      rintro r G7 ⟨le7, rfl⟩
      have A7 := A.le hx le7
      have ow7 := ow6.le le7
      have leC := Heap.q07 leB le7
      cases g : S.any (fun a => q85 a y) with
      | true =>
        have hp : qaa S y = false := by simp [qaa, g]
        simp -implicitDefEqProofs only [zA,reduceIte,reduceCtorEq,Nat.reduceEqDiff,Nat.reduceAdd,Nat.reduceMul,Nat.reduceLT,Nat.reduceSub,Int.reduceLT,Int.reduceLE,Int.reduceEq,Int.reduceNe,Int.reduceSub,Int.reduceAdd,Int.reduceMul,Int.reduceBEq,Int.reduceBNe,Int.reduceGT,Int.reduceGE,Nat.reduceGT,Int.reduceToNat,Int.reduceNeg,Nat.reduceLeDiff,Nat.reduceBEq,Nat.reduceBneDiff,w1]
        refine ⟨_, ?_, leC, i + 1, vl, rfl, by omega, rfl, ?_⟩
        · omega
        · rw [hno hp]; exact ow7
      | false =>
        have hp : qaa S y = true := by simp [qaa, g, k1]
        have hy15 := q5w hx
        simp -implicitDefEqProofs only [zA,reduceIte,reduceCtorEq,Nat.reduceEqDiff,Nat.reduceAdd,Nat.reduceMul,Nat.reduceLT,Nat.reduceSub,Int.reduceLT,Int.reduceLE,Int.reduceEq,Int.reduceNe,Int.reduceSub,Int.reduceAdd,Int.reduceMul,Int.reduceBEq,Int.reduceBNe,Int.reduceGT,Int.reduceGE,Nat.reduceGT,Int.reduceToNat,Int.reduceNeg,Nat.reduceLeDiff,Nat.reduceBEq,Nat.reduceBneDiff,A7.all,zf15,qm3,Z15_drop,hy15,List.append_nil]
        intro b8 hb8
        have le8 := Heap.q0v (Heap.q0e G7) hb8 (.own 0 (edC y) 15)
        try simp -implicitDefEqProofs only [zA,reduceIte,reduceCtorEq,Nat.reduceEqDiff,Nat.reduceAdd,Nat.reduceMul,Nat.reduceLT,Nat.reduceSub,Int.reduceLT,Int.reduceLE,Int.reduceEq,Int.reduceNe,Int.reduceSub,Int.reduceAdd,Int.reduceMul,Int.reduceBEq,Int.reduceBNe,Int.reduceGT,Int.reduceGE,Nat.reduceGT,Int.reduceToNat,Int.reduceNeg,Nat.reduceLeDiff,Nat.reduceBEq,Nat.reduceBneDiff]
        refine qdk (bytes := 144) (m := 1) (news := edC y) (Heap.q07 leC le8) (by decide) (ow7.le le8) (Sl.lit (n := 1) hy15) (qh1 y) (by have := List.length_filter_le (qaa S) (S.take i); rw [List.length_take] at this; omega) (by have := List.length_filter_le (qaa S) (S.take i); rw [List.length_take] at this; omega) ?_
        intro v' h' ow9 le9
        simp -implicitDefEqProofs only [zA,reduceIte,reduceCtorEq,Nat.reduceEqDiff,Nat.reduceAdd,Nat.reduceMul,Nat.reduceLT,Nat.reduceSub,Int.reduceLT,Int.reduceLE,Int.reduceEq,Int.reduceNe,Int.reduceSub,Int.reduceAdd,Int.reduceMul,Int.reduceBEq,Int.reduceBNe,Int.reduceGT,Int.reduceGE,Nat.reduceGT,Int.reduceToNat,Int.reduceNeg,Nat.reduceLeDiff,Nat.reduceBEq,Nat.reduceBneDiff,w1]
        refine ⟨_, ?_, le9, i + 1, v', rfl, by omega, rfl, ?_⟩
        · omega
        · rw [hyes hp, List.flatMap_append, List.length_append]; simpa using ow9
    · have hp : qaa S y = false := by simp [qaa, k1]
      simp -implicitDefEqProofs only [zA,reduceIte,reduceCtorEq,Nat.reduceEqDiff,Nat.reduceAdd,Nat.reduceMul,Nat.reduceLT,Nat.reduceSub,Int.reduceLT,Int.reduceLE,Int.reduceEq,Int.reduceNe,Int.reduceSub,Int.reduceAdd,Int.reduceMul,Int.reduceBEq,Int.reduceBNe,Int.reduceGT,Int.reduceGE,Nat.reduceGT,Int.reduceToNat,Int.reduceNeg,Nat.reduceLeDiff,Nat.reduceBEq,Nat.reduceBneDiff,e60,A.kind,k1,w1]
      refine ⟨_, ?_, leB, i + 1, vl, rfl, by omega, rfl, ?_⟩
      · omega
      · rw [hno hp]; exact ow6
  · have hi1 : ¬ (i : Int) < S.length := by omega
    have e : i = S.length := by omega
    subst e
    rw [List.take_length] at ow
    have e63 := oev_fv K.f63
    simp -implicitDefEqProofs only [zA,reduceIte,reduceCtorEq,Nat.reduceEqDiff,Nat.reduceAdd,Nat.reduceMul,Nat.reduceLT,Nat.reduceSub,Int.reduceLT,Int.reduceLE,Int.reduceEq,Int.reduceNe,Int.reduceSub,Int.reduceAdd,Int.reduceMul,Int.reduceBEq,Int.reduceBNe,Int.reduceGT,Int.reduceGE,Nat.reduceGT,Int.reduceToNat,Int.reduceNeg,Nat.reduceLeDiff,Nat.reduceBEq,Nat.reduceBneDiff,hi1,e63]
    have hf8 : ∀ e ∈ S.filter (qaa S), e.seen.length = 8 := fun e he => h8 e (List.mem_filter.1 he).1
    have hfl := List.length_filter_le (qaa S) S
    refine (qj9 E K hf8 ow (by omega) K.f63 qlt (fun x => by rw [qcl]; exact q95 x) (fun x y z a b => by rw [qcl] at *; exact q9x a b) (fun x y z a b => by rw [qcl] at *; unfold q9k q4g at *; omega)
      (fun x y hx hy => (qh6 E _ x y hx hy).mono fun r H' h => h.2)).mono ?_
    rintro u H2 ⟨S2, p2, s2, ow2, k2⟩
    simp -implicitDefEqProofs only [zA,reduceIte,reduceCtorEq,Nat.reduceEqDiff,Nat.reduceAdd,Nat.reduceMul,Nat.reduceLT,Nat.reduceSub,Int.reduceLT,Int.reduceLE,Int.reduceEq,Int.reduceNe,Int.reduceSub,Int.reduceAdd,Int.reduceMul,Int.reduceBEq,Int.reduceBNe,Int.reduceGT,Int.reduceGE,Nat.reduceGT,Int.reduceToNat,Int.reduceNeg,Nat.reduceLeDiff,Nat.reduceBEq,Nat.reduceBneDiff]
    have e2 : S2 = qab S := by
      refine q8d q95 (fun x y z => q9x) (p2.trans (q9h _ _).symm) ?_ (qah B.ok)
      refine qag p2 (B.ok.apart.sublist List.filter_sublist) ?_
      exact s2.imp fun {x y} h => by rw [qcl] at h; exact h
    subst e2
    refine ⟨fun k x hx => ?_, ow2.since le1⟩
    have h1 := le1 k x hx
    rw [k2 k (by rw [h1]; simp)]
    exact le k x h1
end Go.Bb
namespace Go.Bb
set_option linter.unusedSimpArgs false
set_option linter.unusedVariables false
set_option maxRecDepth 20000
set_option maxHeartbeats 2000000
open Go.MapKept
deriving instance DecidableEq for Ed
theorem leafStr (a b : List UInt8) : qcb (strV a) (strV b) = decide (a = b) := by
  simp only [strV, qcb, qat]
  rw [Bool.eq_iff_iff]; simp
theorem qf8 (e : Ed) (h8 : e.seen.length = 8) : q05 (List.replicate 11 (some IntKind.i64) ++ [none, none, none, some IntKind.i64]) (edC e) = true := by
  obtain ⟨dev, n, seen, kind, con, fld, val, time⟩ := e
  simp only at h8
  match seen, h8 with
  | [a, b, c, d, e, f, g, h], _ => rfl
theorem qio (x y : Ed) (hx : x.seen.length = 8) (hy : y.seen.length = 8) : q0k (edC x) (edC y) = decide (x = y) := by
  obtain ⟨dev, n, seen, kind, con, fld, val, time⟩ := x
  obtain ⟨dev', n', seen', kind', con', fld', val', time'⟩ := y
  simp only at hx hy
  match seen, hx, seen', hy with
  | [a, b, c, d, e, f, g, h], _, [a', b', c', d', e', f', g', h'], _ =>
    simp only [edC, List.map_cons, List.map_nil, List.cons_append, List.nil_append, q0k, leafStr]
    simp only [qcb]
    rw [Bool.eq_iff_iff]
    simp
    intro _ _
    simp only [and_assoc]
abbrev KD : KeyT := .agg [some .i64, some .i64]
def dotK (d n : Int) : Value := .agg #[.int .i64 d, .int .i64 n]
def qa2 (L : List Ed) (d n : Int) : Option Ed := L.find? fun x => decide (x.dev = d ∧ x.n = n)
theorem keyD (d n d' n' : Int) : keyV KD (dotK d n) (dotK d' n') = some (decide (d' = d ∧ n' = n)) := by
  simp only [keyV, dotK, q05, q8p, q0k, qcb, decide_true, Bool.and_true, if_true]
  congr 1
  rw [Bool.eq_iff_iff]
  simp
  omega
theorem qdf {d n : Int} : ∀ {es : List MapEntry} {L : List Ed} (i : Nat), EntB es L → qa2 L d n = none → q6d KD (dotK d n) es i = some none
  | [], _, _, _, _ => rfl
  | e :: es, [], i, h, _ => by simp [EntB] at h
  | e :: es, x :: L, i, h, hn => by
      simp only [EntB, List.map_cons, List.cons.injEq, Prod.mk.injEq] at h
      obtain ⟨⟨h1, h2⟩, h3⟩ := h
      unfold qa2 at hn
      rw [List.find?_cons] at hn
      have hx : ¬ (x.dev = d ∧ x.n = n) := by
        intro q
        simp [q] at hn
      unfold q6d
      rw [h1, show dotV x = dotK x.dev x.n from rfl, keyD, decide_eq_false hx]
      exact qdf (i + 1) h3 (by simpa [qa2, hx] using hn)
theorem qde {d n : Int} {w : Ed} : ∀ {es : List MapEntry} {L : List Ed} (i : Nat), EntB es L → qa2 L d n = some w → ∃ j, q6d KD (dotK d n) es i = some (some (j, edV w))
  | [], [], _, _, hs => by simp [qa2] at hs
  | [], _ :: _, _, h, _ => by simp [EntB] at h
  | e :: es, [], i, h, _ => by simp [EntB] at h
  | e :: es, x :: L, i, h, hs => by
      simp only [EntB, List.map_cons, List.cons.injEq, Prod.mk.injEq] at h
      obtain ⟨⟨h1, h2⟩, h3⟩ := h
      unfold qa2 at hs
      rw [List.find?_cons] at hs
      unfold q6d
      rw [h1, show dotV x = dotK x.dev x.n from rfl, keyD]
      by_cases hx : x.dev = d ∧ x.n = n
      · rw [decide_eq_true hx]
        have hw : x = w := by simpa [hx] using hs
        exact ⟨i, by rw [h2, hw]⟩
      · rw [decide_eq_false hx]
        exact qde (i + 1) h3 (by simpa [qa2, hx] using hs)
theorem q9n {S : List Ed} {d n : Int} : qa2 S d n = none ↔ ∀ x ∈ S, ¬ (x.dev = d ∧ x.n = n) := by
  unfold qa2; rw [List.find?_eq_none]; simp
theorem getD_some {S : List Ed} {d n : Int} {w : Ed} (h : qa2 S d n = some w) : w ∈ S ∧ w.dev = d ∧ w.n = n := by
  unfold qa2 at h
  exact ⟨List.mem_of_find?_eq_some h, by simpa using List.find?_some h⟩
theorem qhx {L S : List Ed} (p : L.Perm S) (ok : BkS S) (d n : Int) : qa2 L d n = qa2 S d n := by
  cases hs : qa2 S d n with
  | none =>
    rw [q9n] at hs ⊢
    exact fun x hx => hs x (p.mem_iff.1 hx)
  | some w =>
    cases hl : qa2 L d n with
    | none =>
      rw [q9n] at hl
      have := getD_some hs
      exact absurd this.2 (hl w (p.mem_iff.2 this.1))
    | some v =>
      have h1 := getD_some hs
      have h2 := getD_some hl
      rw [ok.tot (p.mem_iff.1 h2.1) h1.1 (by rw [h2.2.1, h1.2.1]) (by rw [h2.2.2, h1.2.2])]
def addB (S : List Ed) (e : Ed) : List Ed × Int :=
  if q8g e = true then
    match qa2 S e.dev e.n with
    | some old => if old = e then (S, 0) else (S, 10)
    | none => if 500 ≤ S.length then (S, 2) else (insR q4g e S, 0)
  else (S, 1)
theorem BkS.ins {S : List Ed} (ok : BkS S) {e : Ed} (hg : q8g e = true) (h8 : e.seen.length = 8) (hn : qa2 S e.dev e.n = none) (hl : ¬ 500 ≤ S.length) : BkS (insR q4g e S) := by
  have hp := q8v q4g e S
  rw [q9n] at hn
  refine ⟨qbv (fun x y z => @qbx x y z) ok.rise fun x hx => ?_, fun x hx => ?_, fun x hx => ?_, ?_⟩
  · have := hn x hx
    unfold q4g; omega
  · rcases List.mem_cons.1 (hp.mem_iff.1 hx) with h | h
    · rw [h]; exact hg
    · exact ok.good x h
  · rcases List.mem_cons.1 (hp.mem_iff.1 hx) with h | h
    · rw [h]; exact h8
    · exact ok.h8 x h
  · rw [hp.length_eq, List.length_cons]; omega
theorem qgj (E : EnvT tab) (h : Heap) : ACallN E.toEnv qjw [] h fun v h' => h.le h' ∧ ∃ b r, v = .pointer (some ⟨b, 0, none⟩) ∧ h b = none ∧ h r = none ∧ BookAt h' b r [] := by
  refine q3s qdc qa0 rfl rfl (q01 ?_)
  unfold qa0
  simp -implicitDefEqProofs only [zA,reduceIte,reduceCtorEq,Nat.reduceEqDiff,Nat.reduceAdd,Nat.reduceMul,Nat.reduceLT,Nat.reduceSub,Int.reduceLT,Int.reduceLE,Int.reduceEq,Int.reduceNe,Int.reduceSub,Int.reduceAdd,Int.reduceMul,Int.reduceBEq,Int.reduceBNe,Int.reduceGT,Int.reduceGE,Nat.reduceGT,Int.reduceToNat,Int.reduceNeg,Nat.reduceLeDiff,Nat.reduceBEq,Nat.reduceBneDiff]
  intro b hb
  try simp -implicitDefEqProofs only [zA,reduceIte,reduceCtorEq,Nat.reduceEqDiff,Nat.reduceAdd,Nat.reduceMul,Nat.reduceLT,Nat.reduceSub,Int.reduceLT,Int.reduceLE,Int.reduceEq,Int.reduceNe,Int.reduceSub,Int.reduceAdd,Int.reduceMul,Int.reduceBEq,Int.reduceBNe,Int.reduceGT,Int.reduceGE,Nat.reduceGT,Int.reduceToNat,Int.reduceNeg,Nat.reduceLeDiff,Nat.reduceBEq,Nat.reduceBneDiff]
  intro r hr
  try simp -implicitDefEqProofs only [zA,reduceIte,reduceCtorEq,Nat.reduceEqDiff,Nat.reduceAdd,Nat.reduceMul,Nat.reduceLT,Nat.reduceSub,Int.reduceLT,Int.reduceLE,Int.reduceEq,Int.reduceNe,Int.reduceSub,Int.reduceAdd,Int.reduceMul,Int.reduceBEq,Int.reduceBNe,Int.reduceGT,Int.reduceGE,Nat.reduceGT,Int.reduceToNat,Int.reduceNeg,Nat.reduceLeDiff,Nat.reduceBEq,Nat.reduceBneDiff]
  have ne : r ≠ b := by intro e; subst e; rw [Heap.q02] at hr; cases hr
  have hr' : h r = none := by rw [Heap.q1e ne] at hr; exact hr
  refine ⟨Heap.qie (Heap.q0v (Heap.q0e _) hb _) hr _, r, b, rfl, hr', hb, ne, Heap.q02 _ _ _, ⟨#[], 0, [], by rw [Heap.q1e ne.symm, Heap.q02], rfl, List.Perm.refl _, stamped_empty _⟩, BkS.nil⟩
def Keep (r : Nat) (H H' : Heap) : Prop := ∀ k x, H k = some x → k ≠ r → H' k = some x
theorem Keep.of_le {r : Nat} {H H' : Heap} (le : H.le H') : Keep r H H' := fun k x h _ => le k x h
theorem qdi (E : EnvT tab) {H : Heap} {b r : Nat} {S : List Ed} (B : BookAt H b r S) (e : Ed) (h8 : e.seen.length = 8) (hc : e.con.length ≤ 9223372036854775807) (hf : e.fld.length ≤ 9223372036854775807) (hn : -9223372036854775808 ≤ e.n) (hn2 : e.n ≤ 9223372036854775807) :
    ACallN E.toEnv qf5 [.pointer (some ⟨b, 0, none⟩), edV e] H fun v H' => v = .int .i64 (addB S e).2 ∧ BookAt H' b r (addB S e).1 ∧ Keep r H H' := by
  refine q3s q90 q6i rfl rfl (q01 ?_)
  unfold q6i edV
  have el := q5w h8
  simp -implicitDefEqProofs only [zA,reduceIte,reduceCtorEq,Nat.reduceEqDiff,Nat.reduceAdd,Nat.reduceMul,Nat.reduceLT,Nat.reduceSub,Int.reduceLT,Int.reduceLE,Int.reduceEq,Int.reduceNe,Int.reduceSub,Int.reduceAdd,Int.reduceMul,Int.reduceBEq,Int.reduceBNe,Int.reduceGT,Int.reduceGE,Nat.reduceGT,Int.reduceToNat,Int.reduceNeg,Nat.reduceLeDiff,Nat.reduceBEq,Nat.reduceBneDiff]
  intro b3 hb3
  try simp -implicitDefEqProofs only [zA,reduceIte,reduceCtorEq,Nat.reduceEqDiff,Nat.reduceAdd,Nat.reduceMul,Nat.reduceLT,Nat.reduceSub,Int.reduceLT,Int.reduceLE,Int.reduceEq,Int.reduceNe,Int.reduceSub,Int.reduceAdd,Int.reduceMul,Int.reduceBEq,Int.reduceBNe,Int.reduceGT,Int.reduceGE,Nat.reduceGT,Int.reduceToNat,Int.reduceNeg,Nat.reduceLeDiff,Nat.reduceBEq,Nat.reduceBneDiff]
  rw [el]
  have le3 := Heap.q0v (Heap.q0e H) hb3 (.own 0 (edC e) 15)
  have A : EdAt (H.set b3 (.own 0 (edC e) 15)) b3 e := EdAt.of (Heap.q02 _ _ _) h8
  have B3 := B.le le3
  generalize (H.set b3 (.own 0 (edC e) 15)) = G at le3 A B3
  simp -implicitDefEqProofs only [zA,reduceIte,reduceCtorEq,Nat.reduceEqDiff,Nat.reduceAdd,Nat.reduceMul,Nat.reduceLT,Nat.reduceSub,Int.reduceLT,Int.reduceLE,Int.reduceEq,Int.reduceNe,Int.reduceSub,Int.reduceAdd,Int.reduceMul,Int.reduceBEq,Int.reduceBNe,Int.reduceGT,Int.reduceGE,Nat.reduceGT,Int.reduceToNat,Int.reduceNeg,Nat.reduceLeDiff,Nat.reduceBEq,Nat.reduceBneDiff,A.all]
  refine (qjr E G e h8 hc hf hn hn2).mono ?_
  rintro v G1 ⟨le1, rfl⟩
  have A1 := A.le h8 le1
  have B1 := B3.le le1
  have leX := Heap.q07 le3 le1
  cases hg : q8g e with
  | false =>
    have ea : addB S e = (S, 1) := by simp [addB, hg]
    rw [ea]
    simp -implicitDefEqProofs only [zA,reduceIte,reduceCtorEq,Nat.reduceEqDiff,Nat.reduceAdd,Nat.reduceMul,Nat.reduceLT,Nat.reduceSub,Int.reduceLT,Int.reduceLE,Int.reduceEq,Int.reduceNe,Int.reduceSub,Int.reduceAdd,Int.reduceMul,Int.reduceBEq,Int.reduceBNe,Int.reduceGT,Int.reduceGE,Nat.reduceGT,Int.reduceToNat,Int.reduceNeg,Nat.reduceLeDiff,Nat.reduceBEq,Nat.reduceBneDiff]
    exact ⟨B1, Keep.of_le leX⟩
  | true =>
    obtain ⟨es, c, L, qr, en, hp, st⟩ := B1.qr
    have cb : q1r G1 ⟨b, 0, none⟩ = some (.map (some r)) := by rw [q4n B1.qb (by simp)]; rfl
    have ma : q8n G1 r = some (es, c) := by simp [q8n, qr]
    have kf : q96 (.agg [some IntKind.i64, some IntKind.i64]) (.agg #[Value.int .i64 e.dev, Value.int .i64 e.n]) = some () := rfl
    have hL : es.size = S.length := by
      have := congrArg List.length en
      simp only [List.length_map, Array.length_toList] at this
      rw [this, hp.length_eq]
    have hgp := qhx hp B1.ok e.dev e.n
    have fl : ∀ (d n : Int) (es : List MapEntry), q6d (.agg [some IntKind.i64, some IntKind.i64]) (.agg [Value.int .i64 d, Value.int .i64 n].toArray) es 0 = q6d KD (dotK d n) es 0 := fun _ _ _ => rfl
    unfold addB
    rw [if_pos hg]
    cases hgd : qa2 S e.dev e.n with
    | none =>
      rw [hgd] at hgp
      have fv := qdf 0 en hgp
      simp -implicitDefEqProofs only [zA,reduceIte,reduceCtorEq,Nat.reduceEqDiff,Nat.reduceAdd,Nat.reduceMul,Nat.reduceLT,Nat.reduceSub,Int.reduceLT,Int.reduceLE,Int.reduceEq,Int.reduceNe,Int.reduceSub,Int.reduceAdd,Int.reduceMul,Int.reduceBEq,Int.reduceBNe,Int.reduceGT,Int.reduceGE,Nat.reduceGT,Int.reduceToNat,Int.reduceNeg,Nat.reduceLeDiff,Nat.reduceBEq,Nat.reduceBneDiff,cb,A1.dot,ma,fl,fv,kf]
      intro b5 hb5
      have s5 : q5x (G1.set b5 (.own 0 Z15 Z15.length)) 15 (.pointer (some ⟨b5, 0, none⟩)) (.agg Z15.toArray) = some (G1.set b5 (.own 0 Z15 15)) := z73 (by decide) rfl rfl rfl (by decide)
      unfold Z15 at s5
      simp -implicitDefEqProofs only [zA,reduceIte,reduceCtorEq,Nat.reduceEqDiff,Nat.reduceAdd,Nat.reduceMul,Nat.reduceLT,Nat.reduceSub,Int.reduceLT,Int.reduceLE,Int.reduceEq,Int.reduceNe,Int.reduceSub,Int.reduceAdd,Int.reduceMul,Int.reduceBEq,Int.reduceBNe,Int.reduceGT,Int.reduceGE,Nat.reduceGT,Int.reduceToNat,Int.reduceNeg,Nat.reduceLeDiff,Nat.reduceBEq,Nat.reduceBneDiff,s5]
      have le5 := Heap.q0v (Heap.q0e G1) hb5 (.own 0 (List.replicate 11 (.int .i64 0) ++ [.string .empty, .string .empty, .string .empty, .int .i64 0]) 15)
      have B5 := B1.le le5
      have qr5 := le5 _ _ qr
      have A5 := A1.le h8 le5
      have leY := Heap.q07 leX le5
      generalize (G1.set b5 (.own 0 (List.replicate 11 (.int .i64 0) ++ [.string .empty, .string .empty, .string .empty, .int .i64 0]) 15)) = G5 at le5 B5 qr5 A5 leY
      unfold q6v
      simp -implicitDefEqProofs only [zA,reduceIte,reduceCtorEq,Nat.reduceEqDiff,Nat.reduceAdd,Nat.reduceMul,Nat.reduceLT,Nat.reduceSub,Int.reduceLT,Int.reduceLE,Int.reduceEq,Int.reduceNe,Int.reduceSub,Int.reduceAdd,Int.reduceMul,Int.reduceBEq,Int.reduceBNe,Int.reduceGT,Int.reduceGE,Nat.reduceGT,Int.reduceToNat,Int.reduceNeg,Nat.reduceLeDiff,Nat.reduceBEq,Nat.reduceBneDiff]
      unfold q8u
      have cb5 : q1r G5 ⟨b, 0, none⟩ = some (.map (some r)) := by rw [q4n B5.qb (by simp)]; rfl
      have ma5 : q8n G5 r = some (es, c) := by simp [q8n, qr5]
      by_cases g5 : 500 ≤ S.length
      · have g5' : (500 : Int) ≤ (es.size : Int) := by rw [hL]; omega
        simp -implicitDefEqProofs only [zA,reduceIte,reduceCtorEq,Nat.reduceEqDiff,Nat.reduceAdd,Nat.reduceMul,Nat.reduceLT,Nat.reduceSub,Int.reduceLT,Int.reduceLE,Int.reduceEq,Int.reduceNe,Int.reduceSub,Int.reduceAdd,Int.reduceMul,Int.reduceBEq,Int.reduceBNe,Int.reduceGT,Int.reduceGE,Nat.reduceGT,Int.reduceToNat,Int.reduceNeg,Nat.reduceLeDiff,Nat.reduceBEq,Nat.reduceBneDiff,cb5,ma5,g5',g5]
        exact ⟨fun _ _ => trivial, B5, Keep.of_le leY⟩
      · have g5' : ¬ (500 : Int) ≤ (es.size : Int) := by rw [hL]; omega
        have mu : ql8 G5 (.agg [some IntKind.i64, some IntKind.i64]) (.map (some r)) (.agg [Value.int .i64 e.dev, Value.int .i64 e.n].toArray) (.agg (edC e).toArray) = some (G5.set r (.obj (.map (es.push { key := dotV e, val := edV e, born := c }) (c + 1)))) := by
          simp only [ql8, qr5, kf, fl, fv]
          rfl
        simp -implicitDefEqProofs only [zA,reduceIte,reduceCtorEq,Nat.reduceEqDiff,Nat.reduceAdd,Nat.reduceMul,Nat.reduceLT,Nat.reduceSub,Int.reduceLT,Int.reduceLE,Int.reduceEq,Int.reduceNe,Int.reduceSub,Int.reduceAdd,Int.reduceMul,Int.reduceBEq,Int.reduceBNe,Int.reduceGT,Int.reduceGE,Nat.reduceGT,Int.reduceToNat,Int.reduceNeg,Nat.reduceLeDiff,Nat.reduceBEq,Nat.reduceBneDiff,cb5,ma5,g5',g5,A5.dot,A5.all,mu]
        refine ⟨fun _ _ => trivial, ⟨B5.ne, by rw [Heap.q1e B5.ne]; exact B5.qb, ⟨_, _, L ++ [e], Heap.q02 _ _ _, ?_, ?_, ?_⟩, B5.ok.ins hg h8 hgd g5⟩, fun k x hx hk => ?_⟩
        · unfold EntB at en ⊢
          rw [Array.toList_push, List.map_append, List.map_append, en]
          rfl
        · refine List.Perm.trans ?_ (q8v q4g e S).symm
          exact (List.perm_append_comm).trans (hp.cons e)
        · refine stamped_push st fun x hx hke => ?_
          have h1 : (x.key, x.val) ∈ es.toList.map (fun e => (e.key, e.val)) := List.mem_map_of_mem hx
          unfold EntB at en
          rw [en] at h1
          obtain ⟨y, hy, he⟩ := List.mem_map.1 h1
          simp only [Prod.mk.injEq] at he
          rw [q9n] at hgp
          have h2 : dotV y = dotV e := by rw [he.1]; exact hke
          simp only [dotV, Value.agg.injEq] at h2
          refine hgp y hy ?_
          simpa using h2
        · rw [Heap.q1e hk]; exact leY k x hx
    | some old =>
      rw [hgd] at hgp
      obtain ⟨j, fv⟩ := qde 0 en hgp
      have ho8 : old.seen.length = 8 := B1.ok.h8 old (getD_some hgd).1
      unfold edV at fv
      simp -implicitDefEqProofs only [zA,reduceIte,reduceCtorEq,Nat.reduceEqDiff,Nat.reduceAdd,Nat.reduceMul,Nat.reduceLT,Nat.reduceSub,Int.reduceLT,Int.reduceLE,Int.reduceEq,Int.reduceNe,Int.reduceSub,Int.reduceAdd,Int.reduceMul,Int.reduceBEq,Int.reduceBNe,Int.reduceGT,Int.reduceGE,Nat.reduceGT,Int.reduceToNat,Int.reduceNeg,Nat.reduceLeDiff,Nat.reduceBEq,Nat.reduceBneDiff,cb,A1.dot,ma,fl,fv,kf]
      intro b5 hb5
      have s5 := stE G1 b5 ho8
      unfold Z15 at s5
      simp -implicitDefEqProofs only [zA,reduceIte,reduceCtorEq,Nat.reduceEqDiff,Nat.reduceAdd,Nat.reduceMul,Nat.reduceLT,Nat.reduceSub,Int.reduceLT,Int.reduceLE,Int.reduceEq,Int.reduceNe,Int.reduceSub,Int.reduceAdd,Int.reduceMul,Int.reduceBEq,Int.reduceBNe,Int.reduceGT,Int.reduceGE,Nat.reduceGT,Int.reduceToNat,Int.reduceNeg,Nat.reduceLeDiff,Nat.reduceBEq,Nat.reduceBneDiff,s5]
      have le5 := Heap.q0v (Heap.q0e G1) hb5 (.own 0 (edC old) 15)
      have O5 : EdAt (G1.set b5 (.own 0 (edC old) 15)) b5 old := EdAt.of (Heap.q02 _ _ _) ho8
      have B5 := B1.le le5
      have A5 := A1.le h8 le5
      have leY := Heap.q07 leX le5
      generalize (G1.set b5 (.own 0 (edC old) 15)) = G5 at le5 B5 O5 A5 leY
      unfold q6v
      have k1 := qf8 old ho8
      have k2 := qf8 e h8
      have k3 := qio old e ho8 h8
      by_cases oe : old = e
      · subst oe
        have k3' : q0k (edC old) (edC old) = true := by rw [k3]; simp
        simp -implicitDefEqProofs only [zA,reduceIte,reduceCtorEq,Nat.reduceEqDiff,Nat.reduceAdd,Nat.reduceMul,Nat.reduceLT,Nat.reduceSub,Int.reduceLT,Int.reduceLE,Int.reduceEq,Int.reduceNe,Int.reduceSub,Int.reduceAdd,Int.reduceMul,Int.reduceBEq,Int.reduceBNe,Int.reduceGT,Int.reduceGE,Nat.reduceGT,Int.reduceToNat,Int.reduceNeg,Nat.reduceLeDiff,Nat.reduceBEq,Nat.reduceBneDiff,O5.all,A5.all,k1,k2,k3']
        exact ⟨fun _ _ => trivial, B5, Keep.of_le leY⟩
      · have k3' : q0k (edC old) (edC e) = false := by rw [k3]; simp [oe]
        simp -implicitDefEqProofs only [zA,reduceIte,reduceCtorEq,Nat.reduceEqDiff,Nat.reduceAdd,Nat.reduceMul,Nat.reduceLT,Nat.reduceSub,Int.reduceLT,Int.reduceLE,Int.reduceEq,Int.reduceNe,Int.reduceSub,Int.reduceAdd,Int.reduceMul,Int.reduceBEq,Int.reduceBNe,Int.reduceGT,Int.reduceGE,Nat.reduceGT,Int.reduceToNat,Int.reduceNeg,Nat.reduceLeDiff,Nat.reduceBEq,Nat.reduceBneDiff,O5.all,A5.all,k1,k2,k3',oe]
        exact ⟨fun _ _ => trivial, B5, Keep.of_le leY⟩
end Go.Bb
namespace Go.Bb
set_option linter.unusedSimpArgs false
set_option linter.unusedVariables false
set_option maxRecDepth 20000
set_option maxHeartbeats 2000000
open Go.MapKept
abbrev Str := List UInt8
def q88 (l : List Str) : List Str := l.mergeSort fun x y => decide (x ≤ y)
theorem qd7 (l : List Str) : (q88 l).length = l.length := by simp [q88]
theorem qkl (E : EnvT tab) (K : BkOk E) {h0 H : Heap} {v : Value} {L : List Str} (s : Ow h0 H 1 v L.length (L.map strV)) (hl : L.length ≤ 100000) :
    ACallN E.toEnv q25 [v] H fun r H' => Ow h0 H' 1 v (q88 L).length ((q88 L).map strV) ∧ (∀ b, h0 b ≠ none → H' b = H b) := by
  rcases s with ⟨rfl, hn, hc⟩ | ⟨b, o, c, sz, st, pre, rest, rfl, h2, h3, h4, h5, h6, h7⟩
  · have : L = [] := List.eq_nil_of_length_eq_zero hn
    subst this
    refine (qjo E H).mono ?_
    rintro r H' rfl
    exact ⟨by simp [q88]; exact Ow.nil _ _ _, fun _ _ => rfl⟩
  · intro f hf
    rw [K.f49] at hf
    cases hf
    refine qgp E.toEnv K.P L h4 h5 hl ?_
    refine ⟨.inr ⟨b, o, c, sz, st, pre, rest, by rw [qd7], by rw [qd7]; exact h2, h3, by rw [Heap.q02]; rfl, h5, by simp, h7⟩, fun k hk => ?_⟩
    rw [Heap.q1e (fun e => hk (by rw [e]; exact h3))]
theorem qi7 (E : EnvT tab) (K : BkOk E) {h0 H : Heap} {v : Value} {L : List Str} (s : Ow h0 H 1 v L.length (L.map strV)) (hl : L.length ≤ 100000) :
    ACallN E.toEnv q3t [v] H fun r H' => Ow h0 H' 1 r (Lib.compact L).length ((Lib.compact L).map strV) ∧ (∀ b, h0 b ≠ none → H' b = H b) := by
  rcases s with ⟨rfl, hn, hc⟩ | ⟨b, o, c, sz, st, pre, rest, rfl, h2, h3, h4, h5, h6, h7⟩
  · have : L = [] := List.eq_nil_of_length_eq_zero hn
    subst this
    intro f hf
    rw [K.f50] at hf
    cases hf
    exact qg2 E.toEnv K.P ⟨Ow.nil _ _ _, fun _ _ => rfl⟩
  · intro f hf
    rw [K.f50] at hf
    cases hf
    have hle := Lib.compact_length_le L
    refine qef E.toEnv K.P L h4 h5 hl h2 ?_
    refine ⟨.inr ⟨b, o, c, sz, st, pre, List.replicate (L.length - (Lib.compact L).length) (strV []) ++ rest, rfl, by omega, h3, by rw [Heap.q02]; simp, h5, by simp, h7⟩, fun k hk => ?_⟩
    rw [Heap.q1e (fun e => hk (by rw [e]; exact h3))]
def uniqS (l : List Str) : List Str := Lib.compact (q88 l)
theorem qi0 {H H1 H2 : Heap} (le : H.le H1) (k : ∀ b, H b ≠ none → H2 b = H1 b) : H.le H2 := fun b x h => by
  rw [k b (by rw [h]; simp)]; exact le b x h
def allB (S : List Ed) (con fld : Str) : List Str := ((qab S).filter fun e => decide (e.con = con) && decide (e.fld = fld)).map (·.val)
theorem qf7 (S : List Ed) : (qab S).length ≤ S.length := by
  unfold qab
  rw [(q9h _ _).length_eq]
  exact List.length_filter_le _ _
theorem qjc {S : List Ed} (ok : BkS S) : ∀ e ∈ qab S, e.seen.length = 8 := fun e he => ok.h8 e (qf6.1 he).1
theorem qdh (E : EnvT tab) (K : BkOk E) {H : Heap} {b r : Nat} {S : List Ed} (B : BookAt H b r S) (con fld : Str) :
    ACallN E.toEnv qf4 [.pointer (some ⟨b, 0, none⟩), strV con, strV fld] H fun v H' => H.le H' ∧ Ow H H' 1 v (allB S con fld).length ((allB S con fld).map strV) := by
  refine q3s q8z q6h rfl rfl (q01 ?_)
  unfold q6h
  have hS := B.ok.len
  have hl := qf7 S
  have h8 := qjc B.ok
  simp -implicitDefEqProofs only [zA,reduceIte,reduceCtorEq,Nat.reduceEqDiff,Nat.reduceAdd,Nat.reduceMul,Nat.reduceLT,Nat.reduceSub,Int.reduceLT,Int.reduceLE,Int.reduceEq,Int.reduceNe,Int.reduceSub,Int.reduceAdd,Int.reduceMul,Int.reduceBEq,Int.reduceBNe,Int.reduceGT,Int.reduceGE,Nat.reduceGT,Int.reduceToNat,Int.reduceNeg,Nat.reduceLeDiff,Nat.reduceBEq,Nat.reduceBneDiff]
  refine (qfn E K B).mono ?_
  rintro v H1 ⟨le1, ow1⟩
  have sl1 := ow1.sl
  obtain ⟨base, c, rfl⟩ := sl1.shape
  unfold allB
  generalize qab S = L at hl h8 ow1 sl1 ⊢
  simp -implicitDefEqProofs only [zA,reduceIte,reduceCtorEq,Nat.reduceEqDiff,Nat.reduceAdd,Nat.reduceMul,Nat.reduceLT,Nat.reduceSub,Int.reduceLT,Int.reduceLE,Int.reduceEq,Int.reduceNe,Int.reduceSub,Int.reduceAdd,Int.reduceMul,Int.reduceBEq,Int.reduceBNe,Int.reduceGT,Int.reduceGE,Nat.reduceGT,Int.reduceToNat,Int.reduceNeg,Nat.reduceLeDiff,Nat.reduceBEq,Nat.reduceBneDiff]
  refine q3j (fun m t G => H1.le G ∧ ∃ (i : Nat) (vl : Value), t = tl [(1, strV con), (2, strV fld), (7, vl), (11, .slice base L.length c), (12, .int .i64 L.length), (13, .int .i64 i)] ∧ i ≤ L.length ∧ m = L.length - i ∧ Ow H1 G 1 vl (((L.take i).filter fun e => decide (e.con = con) && decide (e.fld = fld)).map (·.val)).length ((((L.take i).filter fun e => decide (e.con = con) && decide (e.fld = fld)).map (·.val)).map strV)) L.length
    ⟨Heap.q0e _, 0, _, rfl, by omega, by omega, Ow.nil _ _ _⟩ ?_
  rintro m t G ⟨le, i, vl, rfl, hi, rfl, ow⟩
  by_cases hlt : i < L.length
  · obtain ⟨bs, o, c', hv, hc, q1r⟩ := sl1.edAt h8 i hlt
    simp only [Value.slice.injEq, true_and] at hv
    obtain ⟨rfl, rfl⟩ := hv
    have hi1 : (i : Int) < L.length := by omega
    have hi2 : (0 : Int) ≤ i := by omega
    have w1 : IntKind.i64.wrap ((i : Int) + 1) = ((i + 1 : Nat) : Int) := qcs (by omega)
    have hi3 := q1r _ le
    have hx := h8 L[i] (List.getElem_mem hlt)
    have et : L.take (i + 1) = L.take i ++ [L[i]] := List.take_succ_eq_append_getElem hlt
    generalize L[i] = y at hi3 hx et
    simp -implicitDefEqProofs only [zA,reduceIte,reduceCtorEq,Nat.reduceEqDiff,Nat.reduceAdd,Nat.reduceMul,Nat.reduceLT,Nat.reduceSub,Int.reduceLT,Int.reduceLE,Int.reduceEq,Int.reduceNe,Int.reduceSub,Int.reduceAdd,Int.reduceMul,Int.reduceBEq,Int.reduceBNe,Int.reduceGT,Int.reduceGE,Nat.reduceGT,Int.reduceToNat,Int.reduceNeg,Nat.reduceLeDiff,Nat.reduceBEq,Nat.reduceBneDiff,hi1]
    unfold q8t
    simp -implicitDefEqProofs only [zA,reduceIte,reduceCtorEq,Nat.reduceEqDiff,Nat.reduceAdd,Nat.reduceMul,Nat.reduceLT,Nat.reduceSub,Int.reduceLT,Int.reduceLE,Int.reduceEq,Int.reduceNe,Int.reduceSub,Int.reduceAdd,Int.reduceMul,Int.reduceBEq,Int.reduceBNe,Int.reduceGT,Int.reduceGE,Nat.reduceGT,Int.reduceToNat,Int.reduceNeg,Nat.reduceLeDiff,Nat.reduceBEq,Nat.reduceBneDiff,hi1,hi2,Int.toNat_natCast,hi3]
    intro b6 hb6
    have s6 := stE G b6 hx
    unfold Z15 at s6
    try simp -implicitDefEqProofs only [zA,reduceIte,reduceCtorEq,Nat.reduceEqDiff,Nat.reduceAdd,Nat.reduceMul,Nat.reduceLT,Nat.reduceSub,Int.reduceLT,Int.reduceLE,Int.reduceEq,Int.reduceNe,Int.reduceSub,Int.reduceAdd,Int.reduceMul,Int.reduceBEq,Int.reduceBNe,Int.reduceGT,Int.reduceGE,Nat.reduceGT,Int.reduceToNat,Int.reduceNeg,Nat.reduceLeDiff,Nat.reduceBEq,Nat.reduceBneDiff,s6]
    have le6 : G.le (G.set b6 (.own 0 (edC y) 15)) := Heap.q0v (Heap.q0e _) hb6 _
    have A : EdAt (G.set b6 (.own 0 (edC y) 15)) b6 y := EdAt.of (Heap.q02 _ _ _) hx
    have ow6 := ow.le le6
    have leB := Heap.q07 le le6
    generalize (G.set b6 (.own 0 (edC y) 15)) = G6 at le6 A ow6 leB
    have e1 := qgn y.con con
    have e2 := qgn y.fld fld
    have hn : ((L.take i).filter fun e => decide (e.con = con) && decide (e.fld = fld)).length ≤ i := by
      have := List.length_filter_le (fun e : Ed => decide (e.con = con) && decide (e.fld = fld)) (L.take i)
      rw [List.length_take] at this; omega
    have no : (decide (y.con = con) && decide (y.fld = fld)) = false → Ow H1 G6 1 vl (((L.take (i + 1)).filter fun e => decide (e.con = con) && decide (e.fld = fld)).map (·.val)).length ((((L.take (i + 1)).filter fun e => decide (e.con = con) && decide (e.fld = fld)).map (·.val)).map strV) := fun h => by
      rw [et, List.filter_append]
      simp only [List.filter_cons, h, List.filter_nil, List.append_nil, Bool.false_eq_true, if_false]
      exact ow6
    by_cases g1 : y.con = con
    · rw [decide_eq_true g1] at e1
      by_cases g2 : y.fld = fld
      · rw [decide_eq_true g2] at e2
        simp -implicitDefEqProofs only [zA,reduceIte,reduceCtorEq,Nat.reduceEqDiff,Nat.reduceAdd,Nat.reduceMul,Nat.reduceLT,Nat.reduceSub,Int.reduceLT,Int.reduceLE,Int.reduceEq,Int.reduceNe,Int.reduceSub,Int.reduceAdd,Int.reduceMul,Int.reduceBEq,Int.reduceBNe,Int.reduceGT,Int.reduceGE,Nat.reduceGT,Int.reduceToNat,Int.reduceNeg,Nat.reduceLeDiff,Nat.reduceBEq,Nat.reduceBneDiff,A.con,e1,A.fld,e2,A.val]
        intro b8 hb8
        try simp -implicitDefEqProofs only [zA,reduceIte,reduceCtorEq,Nat.reduceEqDiff,Nat.reduceAdd,Nat.reduceMul,Nat.reduceLT,Nat.reduceSub,Int.reduceLT,Int.reduceLE,Int.reduceEq,Int.reduceNe,Int.reduceSub,Int.reduceAdd,Int.reduceMul,Int.reduceBEq,Int.reduceBNe,Int.reduceGT,Int.reduceGE,Nat.reduceGT,Int.reduceToNat,Int.reduceNeg,Nat.reduceLeDiff,Nat.reduceBEq,Nat.reduceBneDiff]
        have le8 := Heap.q0v (Heap.q0e G6) hb8 (.own 0 [strV y.val] 1)
        refine qdk (bytes := 16) (m := 1) (news := [strV y.val]) (Heap.q07 leB le8) (by decide) (ow6.le le8) (Sl.lit (n := 1) rfl) rfl (by rw [List.length_map]; omega) (by rw [List.length_map]; omega) ?_
        intro v' h' ow9 le9
        simp -implicitDefEqProofs only [zA,reduceIte,reduceCtorEq,Nat.reduceEqDiff,Nat.reduceAdd,Nat.reduceMul,Nat.reduceLT,Nat.reduceSub,Int.reduceLT,Int.reduceLE,Int.reduceEq,Int.reduceNe,Int.reduceSub,Int.reduceAdd,Int.reduceMul,Int.reduceBEq,Int.reduceBNe,Int.reduceGT,Int.reduceGE,Nat.reduceGT,Int.reduceToNat,Int.reduceNeg,Nat.reduceLeDiff,Nat.reduceBEq,Nat.reduceBneDiff,w1]
        refine ⟨_, ?_, le9, i + 1, v', rfl, by omega, rfl, ?_⟩
        · omega
        · rw [et, List.filter_append]
          simp only [List.filter_cons, g1, g2, decide_true, Bool.and_self, if_true, List.filter_nil, List.map_append, List.length_append, List.map_cons, List.map_nil, List.length_cons, List.length_nil]
          simpa using ow9
      · rw [decide_eq_false g2] at e2
        simp -implicitDefEqProofs only [zA,reduceIte,reduceCtorEq,Nat.reduceEqDiff,Nat.reduceAdd,Nat.reduceMul,Nat.reduceLT,Nat.reduceSub,Int.reduceLT,Int.reduceLE,Int.reduceEq,Int.reduceNe,Int.reduceSub,Int.reduceAdd,Int.reduceMul,Int.reduceBEq,Int.reduceBNe,Int.reduceGT,Int.reduceGE,Nat.reduceGT,Int.reduceToNat,Int.reduceNeg,Nat.reduceLeDiff,Nat.reduceBEq,Nat.reduceBneDiff,A.con,e1,A.fld,e2,w1]
        refine ⟨_, ?_, leB, i + 1, vl, rfl, by omega, rfl, no (by simp [g2])⟩
        omega
    · rw [decide_eq_false g1] at e1
      simp -implicitDefEqProofs only [zA,reduceIte,reduceCtorEq,Nat.reduceEqDiff,Nat.reduceAdd,Nat.reduceMul,Nat.reduceLT,Nat.reduceSub,Int.reduceLT,Int.reduceLE,Int.reduceEq,Int.reduceNe,Int.reduceSub,Int.reduceAdd,Int.reduceMul,Int.reduceBEq,Int.reduceBNe,Int.reduceGT,Int.reduceGE,Nat.reduceGT,Int.reduceToNat,Int.reduceNeg,Nat.reduceLeDiff,Nat.reduceBEq,Nat.reduceBneDiff,A.con,e1,w1]
      refine ⟨_, ?_, leB, i + 1, vl, rfl, by omega, rfl, no (by simp [g1])⟩
      omega
  · have hi1 : ¬ (i : Int) < L.length := by omega
    have e : i = L.length := by omega
    subst e
    rw [List.take_length] at ow
    simp -implicitDefEqProofs only [zA,reduceIte,reduceCtorEq,Nat.reduceEqDiff,Nat.reduceAdd,Nat.reduceMul,Nat.reduceLT,Nat.reduceSub,Int.reduceLT,Int.reduceLE,Int.reduceEq,Int.reduceNe,Int.reduceSub,Int.reduceAdd,Int.reduceMul,Int.reduceBEq,Int.reduceBNe,Int.reduceGT,Int.reduceGE,Nat.reduceGT,Int.reduceToNat,Int.reduceNeg,Nat.reduceLeDiff,Nat.reduceBEq,Nat.reduceBneDiff,hi1]
    exact ⟨Heap.q07 le1 le, ow.since le1⟩
def qal (S : List Ed) : List Str := uniqS ((qab S).map (·.con))
theorem qfo (E : EnvT tab) (K : BkOk E) {H : Heap} {b r : Nat} {S : List Ed} (B : BookAt H b r S) :
    ACallN E.toEnv qb9 [.pointer (some ⟨b, 0, none⟩)] H fun v H' => H.le H' ∧ Ow H H' 1 v (qal S).length ((qal S).map strV) := by
  refine q3s q5t q30 rfl rfl (q01 ?_)
  unfold q30
  have hS := B.ok.len
  have hl := qf7 S
  have h8 := qjc B.ok
  simp -implicitDefEqProofs only [zA,reduceIte,reduceCtorEq,Nat.reduceEqDiff,Nat.reduceAdd,Nat.reduceMul,Nat.reduceLT,Nat.reduceSub,Int.reduceLT,Int.reduceLE,Int.reduceEq,Int.reduceNe,Int.reduceSub,Int.reduceAdd,Int.reduceMul,Int.reduceBEq,Int.reduceBNe,Int.reduceGT,Int.reduceGE,Nat.reduceGT,Int.reduceToNat,Int.reduceNeg,Nat.reduceLeDiff,Nat.reduceBEq,Nat.reduceBneDiff]
  unfold q7j
  simp -implicitDefEqProofs only [zA,reduceIte,reduceCtorEq,Nat.reduceEqDiff,Nat.reduceAdd,Nat.reduceMul,Nat.reduceLT,Nat.reduceSub,Int.reduceLT,Int.reduceLE,Int.reduceEq,Int.reduceNe,Int.reduceSub,Int.reduceAdd,Int.reduceMul,Int.reduceBEq,Int.reduceBNe,Int.reduceGT,Int.reduceGE,Nat.reduceGT,Int.reduceToNat,Int.reduceNeg,Nat.reduceLeDiff,Nat.reduceBEq,Nat.reduceBneDiff]
  refine (qfn E K B).mono ?_
  rintro v H1 ⟨le1, ow1⟩
  have sl1 := ow1.sl
  obtain ⟨base, c, rfl⟩ := sl1.shape
  unfold qal
  generalize qab S = L at hl h8 ow1 sl1 ⊢
  simp -implicitDefEqProofs only [zA,reduceIte,reduceCtorEq,Nat.reduceEqDiff,Nat.reduceAdd,Nat.reduceMul,Nat.reduceLT,Nat.reduceSub,Int.reduceLT,Int.reduceLE,Int.reduceEq,Int.reduceNe,Int.reduceSub,Int.reduceAdd,Int.reduceMul,Int.reduceBEq,Int.reduceBNe,Int.reduceGT,Int.reduceGE,Nat.reduceGT,Int.reduceToNat,Int.reduceNeg,Nat.reduceLeDiff,Nat.reduceBEq,Nat.reduceBneDiff]
  refine q3j (fun m t G => H1.le G ∧ ∃ (i : Nat) (vl : Value), t = tl [(3, vl), (7, .slice base L.length c), (8, .int .i64 L.length), (9, .int .i64 i)] ∧ i ≤ L.length ∧ m = L.length - i ∧ Ow H1 G 1 vl ((L.take i).map (·.con)).length (((L.take i).map (·.con)).map strV)) L.length
    ⟨Heap.q0e _, 0, _, rfl, by omega, by omega, Ow.nil _ _ _⟩ ?_
  rintro m t G ⟨le, i, vl, rfl, hi, rfl, ow⟩
  by_cases hlt : i < L.length
  · obtain ⟨bs, o, c', hv, hc, q1r⟩ := sl1.edAt h8 i hlt
    simp only [Value.slice.injEq, true_and] at hv
    obtain ⟨rfl, rfl⟩ := hv
    have hi1 : (i : Int) < L.length := by omega
    have hi2 : (0 : Int) ≤ i := by omega
    have w1 : IntKind.i64.wrap ((i : Int) + 1) = ((i + 1 : Nat) : Int) := qcs (by omega)
    have hi3 := q1r _ le
    have hx := h8 L[i] (List.getElem_mem hlt)
    have et : L.take (i + 1) = L.take i ++ [L[i]] := List.take_succ_eq_append_getElem hlt
    generalize L[i] = y at hi3 hx et
    simp -implicitDefEqProofs only [zA,reduceIte,reduceCtorEq,Nat.reduceEqDiff,Nat.reduceAdd,Nat.reduceMul,Nat.reduceLT,Nat.reduceSub,Int.reduceLT,Int.reduceLE,Int.reduceEq,Int.reduceNe,Int.reduceSub,Int.reduceAdd,Int.reduceMul,Int.reduceBEq,Int.reduceBNe,Int.reduceGT,Int.reduceGE,Nat.reduceGT,Int.reduceToNat,Int.reduceNeg,Nat.reduceLeDiff,Nat.reduceBEq,Nat.reduceBneDiff,hi1,hi2,Int.toNat_natCast,hi3]
    intro b6 hb6
    have s6 := stE G b6 hx
    unfold Z15 at s6
    try simp -implicitDefEqProofs only [zA,reduceIte,reduceCtorEq,Nat.reduceEqDiff,Nat.reduceAdd,Nat.reduceMul,Nat.reduceLT,Nat.reduceSub,Int.reduceLT,Int.reduceLE,Int.reduceEq,Int.reduceNe,Int.reduceSub,Int.reduceAdd,Int.reduceMul,Int.reduceBEq,Int.reduceBNe,Int.reduceGT,Int.reduceGE,Nat.reduceGT,Int.reduceToNat,Int.reduceNeg,Nat.reduceLeDiff,Nat.reduceBEq,Nat.reduceBneDiff,s6]
    have le6 : G.le (G.set b6 (.own 0 (edC y) 15)) := Heap.q0v (Heap.q0e _) hb6 _
    have A : EdAt (G.set b6 (.own 0 (edC y) 15)) b6 y := EdAt.of (Heap.q02 _ _ _) hx
    have ow6 := ow.le le6
    have leB := Heap.q07 le le6
    generalize (G.set b6 (.own 0 (edC y) 15)) = G6 at le6 A ow6 leB
    have hn : (L.take i).length ≤ i := by rw [List.length_take]; omega
    · · simp -implicitDefEqProofs only [zA,reduceIte,reduceCtorEq,Nat.reduceEqDiff,Nat.reduceAdd,Nat.reduceMul,Nat.reduceLT,Nat.reduceSub,Int.reduceLT,Int.reduceLE,Int.reduceEq,Int.reduceNe,Int.reduceSub,Int.reduceAdd,Int.reduceMul,Int.reduceBEq,Int.reduceBNe,Int.reduceGT,Int.reduceGE,Nat.reduceGT,Int.reduceToNat,Int.reduceNeg,Nat.reduceLeDiff,Nat.reduceBEq,Nat.reduceBneDiff,A.con]
        intro b8 hb8
        try simp -implicitDefEqProofs only [zA,reduceIte,reduceCtorEq,Nat.reduceEqDiff,Nat.reduceAdd,Nat.reduceMul,Nat.reduceLT,Nat.reduceSub,Int.reduceLT,Int.reduceLE,Int.reduceEq,Int.reduceNe,Int.reduceSub,Int.reduceAdd,Int.reduceMul,Int.reduceBEq,Int.reduceBNe,Int.reduceGT,Int.reduceGE,Nat.reduceGT,Int.reduceToNat,Int.reduceNeg,Nat.reduceLeDiff,Nat.reduceBEq,Nat.reduceBneDiff]
        have le8 := Heap.q0v (Heap.q0e G6) hb8 (.own 0 [strV y.con] 1)
        refine qdk (bytes := 16) (m := 1) (news := [strV y.con]) (Heap.q07 leB le8) (by decide) (ow6.le le8) (Sl.lit (n := 1) rfl) rfl (by rw [List.length_map]; omega) (by rw [List.length_map]; omega) ?_
        intro v' h' ow9 le9
        simp -implicitDefEqProofs only [zA,reduceIte,reduceCtorEq,Nat.reduceEqDiff,Nat.reduceAdd,Nat.reduceMul,Nat.reduceLT,Nat.reduceSub,Int.reduceLT,Int.reduceLE,Int.reduceEq,Int.reduceNe,Int.reduceSub,Int.reduceAdd,Int.reduceMul,Int.reduceBEq,Int.reduceBNe,Int.reduceGT,Int.reduceGE,Nat.reduceGT,Int.reduceToNat,Int.reduceNeg,Nat.reduceLeDiff,Nat.reduceBEq,Nat.reduceBneDiff,w1]
        refine ⟨_, ?_, le9, i + 1, v', rfl, by omega, rfl, ?_⟩
        · omega
        · rw [et]
          simp only [List.map_append, List.length_append, List.map_cons, List.map_nil, List.length_cons, List.length_nil]
          simpa using ow9
  · have hi1 : ¬ (i : Int) < L.length := by omega
    have e : i = L.length := by omega
    subst e
    rw [List.take_length] at ow
    have hn2 : L.length ≤ L.length := Nat.le_refl _
    simp -implicitDefEqProofs only [zA,reduceIte,reduceCtorEq,Nat.reduceEqDiff,Nat.reduceAdd,Nat.reduceMul,Nat.reduceLT,Nat.reduceSub,Int.reduceLT,Int.reduceLE,Int.reduceEq,Int.reduceNe,Int.reduceSub,Int.reduceAdd,Int.reduceMul,Int.reduceBEq,Int.reduceBNe,Int.reduceGT,Int.reduceGE,Nat.reduceGT,Int.reduceToNat,Int.reduceNeg,Nat.reduceLeDiff,Nat.reduceBEq,Nat.reduceBneDiff,hi1]
    refine (qkl E K ow (by rw [List.length_map]; omega)).mono ?_
    rintro u H2 ⟨ow2, k2⟩
    have leU := qi0 le k2
    simp -implicitDefEqProofs only [zA,reduceIte,reduceCtorEq,Nat.reduceEqDiff,Nat.reduceAdd,Nat.reduceMul,Nat.reduceLT,Nat.reduceSub,Int.reduceLT,Int.reduceLE,Int.reduceEq,Int.reduceNe,Int.reduceSub,Int.reduceAdd,Int.reduceMul,Int.reduceBEq,Int.reduceBNe,Int.reduceGT,Int.reduceGE,Nat.reduceGT,Int.reduceToNat,Int.reduceNeg,Nat.reduceLeDiff,Nat.reduceBEq,Nat.reduceBneDiff]
    refine (qi7 E K ow2 (by rw [qd7, List.length_map]; omega)).mono ?_
    rintro u H3 ⟨ow3, k3⟩
    have leV := qi0 leU k3
    simp -implicitDefEqProofs only [zA,reduceIte,reduceCtorEq,Nat.reduceEqDiff,Nat.reduceAdd,Nat.reduceMul,Nat.reduceLT,Nat.reduceSub,Int.reduceLT,Int.reduceLE,Int.reduceEq,Int.reduceNe,Int.reduceSub,Int.reduceAdd,Int.reduceMul,Int.reduceBEq,Int.reduceBNe,Int.reduceGT,Int.reduceGE,Nat.reduceGT,Int.reduceToNat,Int.reduceNeg,Nat.reduceLeDiff,Nat.reduceBEq,Nat.reduceBneDiff]
    exact ⟨Heap.q07 le1 leV, ow3.since le1⟩
theorem qib (E : EnvT tab) (K : BkOk E) {H : Heap} {b r : Nat} {S : List Ed} (B : BookAt H b r S) (con fld : Str) :
    ACallN E.toEnv qd5 [.pointer (some ⟨b, 0, none⟩), strV con, strV fld] H fun v H' => H.le H' ∧ v = .tuple #[strV ((allB S con fld).getLastD []), .bool (decide (allB S con fld ≠ []))] := by
  refine q3s q7x q4k rfl rfl (q01 ?_)
  unfold q4k
  simp -implicitDefEqProofs only [zA,reduceIte,reduceCtorEq,Nat.reduceEqDiff,Nat.reduceAdd,Nat.reduceMul,Nat.reduceLT,Nat.reduceSub,Int.reduceLT,Int.reduceLE,Int.reduceEq,Int.reduceNe,Int.reduceSub,Int.reduceAdd,Int.reduceMul,Int.reduceBEq,Int.reduceBNe,Int.reduceGT,Int.reduceGE,Nat.reduceGT,Int.reduceToNat,Int.reduceNeg,Nat.reduceLeDiff,Nat.reduceBEq,Nat.reduceBneDiff]
  refine (qdh E K B con fld).mono ?_
  rintro v H1 ⟨le1, ow⟩
  have sl := ow.sl
  have hl : (allB S con fld).length ≤ 500 := by
    have h1 := qf7 S
    have h2 := B.ok.len
    unfold allB
    rw [List.length_map]
    have := List.length_filter_le (fun e : Ed => decide (e.con = con) && decide (e.fld = fld)) (qab S)
    omega
  generalize allB S con fld = L at ow sl hl ⊢
  obtain ⟨base, c, rfl⟩ := sl.shape
  by_cases h0 : L = []
  · subst h0
    simp -implicitDefEqProofs only [zA,reduceIte,reduceCtorEq,Nat.reduceEqDiff,Nat.reduceAdd,Nat.reduceMul,Nat.reduceLT,Nat.reduceSub,Int.reduceLT,Int.reduceLE,Int.reduceEq,Int.reduceNe,Int.reduceSub,Int.reduceAdd,Int.reduceMul,Int.reduceBEq,Int.reduceBNe,Int.reduceGT,Int.reduceGE,Nat.reduceGT,Int.reduceToNat,Int.reduceNeg,Nat.reduceLeDiff,Nat.reduceBEq,Nat.reduceBneDiff,List.length_nil]
    exact ⟨le1, rfl⟩
  · have hp : 0 < L.length := List.length_pos_iff.2 h0
    have h1 : ¬ ((L.length : Int) = 0) := by omega
    have w1 : IntKind.i64.wrap ((L.length : Int) - 1) = ((L.length - 1 : Nat) : Int) := by
      have e : ((L.length : Int) - 1) = ((L.length - 1 : Nat) : Int) := by omega
      rw [e]
      exact wrapI (by omega) (by omega)
    rw [← q48 strV L] at sl
    obtain ⟨bs, o, c', hv, hc, q1r⟩ := Sl.at (f := fun s => [strV s]) (fun _ => rfl) sl (L.length - 1) (by omega) (by decide)
    simp only [Value.slice.injEq, true_and] at hv
    obtain ⟨rfl, rfl⟩ := hv
    have hi1 : ((L.length - 1 : Nat) : Int) < L.length := by omega
    have hi2 : (0 : Int) ≤ ((L.length - 1 : Nat) : Int) := by omega
    have h3 := q1r H1 (Heap.q0e _)
    have hi3 := qeh h3 0 Nat.zero_lt_one
    simp only [List.getElem?_cons_zero, Nat.mul_one, Nat.add_zero] at hi3
    have e1 : L.getLastD [] = L[L.length - 1] := by
      rw [List.getLastD_eq_getLast?, List.getLast?_eq_getElem?, List.getElem?_eq_getElem (by omega)]; rfl
    rw [e1]
    simp -implicitDefEqProofs only [zA,reduceIte,reduceCtorEq,Nat.reduceEqDiff,Nat.reduceAdd,Nat.reduceMul,Nat.reduceLT,Nat.reduceSub,Int.reduceLT,Int.reduceLE,Int.reduceEq,Int.reduceNe,Int.reduceSub,Int.reduceAdd,Int.reduceMul,Int.reduceBEq,Int.reduceBNe,Int.reduceGT,Int.reduceGE,Nat.reduceGT,Int.reduceToNat,Int.reduceNeg,Nat.reduceLeDiff,Nat.reduceBEq,Nat.reduceBneDiff,h1,w1,hi1,hi2,Int.toNat_natCast,hi3]
    refine ⟨le1, ?_⟩
    simp [h0]
end Go.Bb
namespace Go.Bb
set_option linter.unusedSimpArgs false
set_option linter.unusedVariables false
set_option maxRecDepth 20000
set_option maxHeartbeats 2000000
open Go.MapKept
def Has1 (S : List Ed) (d : Int) (k : Nat) : Prop := ∀ j : Nat, 1 ≤ j → j ≤ k → ∃ e ∈ S, e.dev = d ∧ e.n = j
def CntB (S : List Ed) (d : Int) (k : Nat) : Prop := Has1 S d k ∧ ∀ e ∈ S, ¬ (e.dev = d ∧ e.n = (k + 1 : Nat))
def VecOf (S : List Ed) (v : List Int) : Prop := v.length = 8 ∧ ∀ d : Nat, d < 8 → ∃ k : Nat, v[d]? = some (k : Int) ∧ CntB S d k
theorem Has1.le {S : List Ed} (ok : BkS S) {d : Int} {k : Nat} (h : Has1 S d k) : k ≤ 1099511627776 := by
  by_cases h0 : k = 0
  · omega
  obtain ⟨e, he, hd, hn⟩ := h k (by omega) (Nat.le_refl _)
  have := ok.good e he
  simp only [q8g, Bool.and_eq_true, decide_eq_true_eq] at this
  have := this.1.1.1.1.1.2.2
  omega
theorem CntB.eq {S : List Ed} {d : Int} {k m : Nat} (h : CntB S d k) (g : CntB S d m) : k = m := by
  rcases Nat.lt_trichotomy k m with c | c | c
  · obtain ⟨e, he, hd, hn⟩ := g.1 (k + 1) (by omega) (by omega)
    exact absurd ⟨hd, hn⟩ (h.2 e he)
  · exact c
  · obtain ⟨e, he, hd, hn⟩ := h.1 (m + 1) (by omega) (by omega)
    exact absurd ⟨hd, hn⟩ (g.2 e he)
theorem VecOf.eq {S : List Ed} {v w : List Int} (h : VecOf S v) (g : VecOf S w) : v = w := by
  apply List.ext_getElem?
  intro i
  by_cases hi : i < 8
  · obtain ⟨k, h1, h2⟩ := h.2 i hi
    obtain ⟨m, g1, g2⟩ := g.2 i hi
    rw [h1, g1, h2.eq g2]
  · rw [List.getElem?_eq_none (by rw [h.1]; omega), List.getElem?_eq_none (by rw [g.1]; omega)]
structure VS (H G : Heap) (b2 b3 : Nat) (v : List Int) : Prop where
  le : H.le G
  n2 : H b2 = none
  n3 : H b3 = none
  ne : b2 ≠ b3
  q2 : G b2 = some (.own 0 (List.replicate 8 (.int .i64 0)) 8)
  q3 : G b3 = some (.own 0 (v.map (.int .i64)) 8)
  h8 : v.length = 8
theorem VS.more {H G G' : Heap} {b2 b3 : Nat} {v : List Int} (s : VS H G b2 b3 v) (le : G.le G') : VS H G' b2 b3 v :=
  ⟨Heap.q07 s.le le, s.n2, s.n3, s.ne, le _ _ s.q2, le _ _ s.q3, s.h8⟩
theorem VS.put {H G : Heap} {b2 b3 : Nat} {v : List Int} (s : VS H G b2 b3 v) (w : List Int) (hw : w.length = 8) : VS H (G.set b3 (.own 0 (w.map (.int .i64)) 8)) b2 b3 w :=
  ⟨Heap.q0v s.le s.n3 _, s.n2, s.n3, s.ne, by rw [Heap.q1e s.ne]; exact s.q2, Heap.q02 _ _ _, hw⟩
theorem VS.cell {H G : Heap} {b2 b3 : Nat} {v : List Int} (s : VS H G b2 b3 v) (i : Nat) (hi : i < 8) : q1r G ⟨b3, i, none⟩ = some (.int .i64 (v[i]'(by rw [s.h8]; exact hi))) := by
  rw [q4n s.q3 (by simp [s.h8]; exact hi)]
  simp
theorem fvKD (d n : Int) (es : List MapEntry) : q6d (.agg [some IntKind.i64, some IntKind.i64]) (.agg [Value.int .i64 d, Value.int .i64 n].toArray) es 0 = q6d KD (dotK d n) es 0 := rfl
theorem qgi (E : EnvT tab) {H : Heap} {b r : Nat} {S : List Ed} (B : BookAt H b r S) :
    ACallN E.toEnv qf3 [.pointer (some ⟨b, 0, none⟩)] H fun x H' => H.le H' ∧ ∃ v, VecOf S v ∧ x = .agg (v.map (.int .i64)).toArray := by
  refine q3s q8y q6g rfl rfl (q01 ?_)
  unfold q6g
  simp -implicitDefEqProofs only [zA,reduceIte,reduceCtorEq,Nat.reduceEqDiff,Nat.reduceAdd,Nat.reduceMul,Nat.reduceLT,Nat.reduceSub,Int.reduceLT,Int.reduceLE,Int.reduceEq,Int.reduceNe,Int.reduceSub,Int.reduceAdd,Int.reduceMul,Int.reduceBEq,Int.reduceBNe,Int.reduceGT,Int.reduceGE,Nat.reduceGT,Int.reduceToNat,Int.reduceNeg,Nat.reduceLeDiff,Nat.reduceBEq,Nat.reduceBneDiff]
  intro b2 hb2
  try simp -implicitDefEqProofs only [zA,reduceIte,reduceCtorEq,Nat.reduceEqDiff,Nat.reduceAdd,Nat.reduceMul,Nat.reduceLT,Nat.reduceSub,Int.reduceLT,Int.reduceLE,Int.reduceEq,Int.reduceNe,Int.reduceSub,Int.reduceAdd,Int.reduceMul,Int.reduceBEq,Int.reduceBNe,Int.reduceGT,Int.reduceGE,Nat.reduceGT,Int.reduceToNat,Int.reduceNeg,Nat.reduceLeDiff,Nat.reduceBEq,Nat.reduceBneDiff]
  intro b3 hb3
  try simp -implicitDefEqProofs only [zA,reduceIte,reduceCtorEq,Nat.reduceEqDiff,Nat.reduceAdd,Nat.reduceMul,Nat.reduceLT,Nat.reduceSub,Int.reduceLT,Int.reduceLE,Int.reduceEq,Int.reduceNe,Int.reduceSub,Int.reduceAdd,Int.reduceMul,Int.reduceBEq,Int.reduceBNe,Int.reduceGT,Int.reduceGE,Nat.reduceGT,Int.reduceToNat,Int.reduceNeg,Nat.reduceLeDiff,Nat.reduceBEq,Nat.reduceBneDiff,List.length_replicate]
  have ne : b3 ≠ b2 := by intro e; subst e; rw [Heap.q02] at hb3; cases hb3
  have hb3' : H b3 = none := by rw [Heap.q1e ne] at hb3; exact hb3
  have V0 : VS H ((H.set b2 (.own 0 (List.replicate 8 (.int .i64 0)) 8)).set b3 (.own 0 (List.replicate 8 (.int .i64 0)) 8)) b2 b3 (List.replicate 8 0) :=
    ⟨Heap.qie (Heap.q0v (Heap.q0e _) hb2 _) hb3 _, hb2, hb3', ne.symm, by rw [Heap.q1e ne.symm, Heap.q02], by rw [Heap.q02]; rfl, rfl⟩
  generalize ((H.set b2 (.own 0 (List.replicate 8 (.int .i64 0)) 8)).set b3 (.own 0 (List.replicate 8 (.int .i64 0)) 8)) = G0 at V0
  refine q3j (fun m t G => ∃ (i : Nat) (v : List Int), t = tl [(0, .pointer (some ⟨b, 0, none⟩)), (2, .pointer (some ⟨b2, 0, none⟩)), (3, .pointer (some ⟨b3, 0, none⟩)), (7, .int .i64 i)] ∧ i ≤ 8 ∧ m = 8 - i ∧ VS H G b2 b3 v ∧ (∀ d : Nat, d < i → ∃ k : Nat, v[d]? = some (k : Int) ∧ CntB S d k) ∧ (∀ d : Nat, i ≤ d → d < 8 → v[d]? = some 0)) 8
    ⟨0, _, rfl, by omega, by omega, V0, fun d hd => by omega, fun d _ hd => by rw [List.getElem?_replicate, if_pos hd]⟩ ?_
  rintro m t G ⟨i, v, rfl, hi, rfl, V, hdone, hrest⟩
  by_cases hlt : i < 8
  · have hi1 : (i : Int) < 8 := by omega
    have hi2 : (0 : Int) ≤ i := by omega
    have w1 : IntKind.i64.wrap ((i : Int) + 1) = ((i + 1 : Nat) : Int) := qcs (by omega)
    simp -implicitDefEqProofs only [zA,reduceIte,reduceCtorEq,Nat.reduceEqDiff,Nat.reduceAdd,Nat.reduceMul,Nat.reduceLT,Nat.reduceSub,Int.reduceLT,Int.reduceLE,Int.reduceEq,Int.reduceNe,Int.reduceSub,Int.reduceAdd,Int.reduceMul,Int.reduceBEq,Int.reduceBNe,Int.reduceGT,Int.reduceGE,Nat.reduceGT,Int.reduceToNat,Int.reduceNeg,Nat.reduceLeDiff,Nat.reduceBEq,Nat.reduceBneDiff,hi1]
    unfold q8s
    simp -implicitDefEqProofs only [zA,reduceIte,reduceCtorEq,Nat.reduceEqDiff,Nat.reduceAdd,Nat.reduceMul,Nat.reduceLT,Nat.reduceSub,Int.reduceLT,Int.reduceLE,Int.reduceEq,Int.reduceNe,Int.reduceSub,Int.reduceAdd,Int.reduceMul,Int.reduceBEq,Int.reduceBNe,Int.reduceGT,Int.reduceGE,Nat.reduceGT,Int.reduceToNat,Int.reduceNeg,Nat.reduceLeDiff,Nat.reduceBEq,Nat.reduceBneDiff]
    refine q3j (fun m t G => ∃ (k : Nat) (w : List Int), t = tl [(0, .pointer (some ⟨b, 0, none⟩)), (2, .pointer (some ⟨b2, 0, none⟩)), (3, .pointer (some ⟨b3, 0, none⟩)), (4, .int .i64 i), (7, .int .i64 i)] ∧ m = 1099511627776 - k ∧ VS H G b2 b3 w ∧ Has1 S i k ∧ w[i]? = some (k : Int) ∧ (∀ d : Nat, d ≠ i → w[d]? = v[d]?)) 1099511627776
      ⟨0, v, rfl, by omega, V, fun j h1 h2 => by omega, hrest i (Nat.le_refl _) hlt, fun _ _ => rfl⟩ ?_
    rintro m t G1 ⟨k, w, rfl, rfl, W, hh, hwi, hoth⟩
    have hk := hh.le B.ok
    have BG := B.le W.le
    obtain ⟨es, c, L, qr, en, hp, st⟩ := BG.qr
    have cb : q1r G1 ⟨b, 0, none⟩ = some (.map (some r)) := by rw [q4n BG.qb (by simp)]; rfl
    have ma : q8n G1 r = some (es, c) := by simp [q8n, qr]
    have c3 := W.cell i hlt
    have hwi2 : w[i]'(by rw [W.h8]; exact hlt) = k := by rw [List.getElem?_eq_getElem (by rw [W.h8]; exact hlt)] at hwi; simpa using hwi
    rw [hwi2] at c3
    have w2 : IntKind.i64.wrap ((k : Int) + 1) = ((k + 1 : Nat) : Int) := qcs (by omega)
    have kf : q96 (.agg [some IntKind.i64, some IntKind.i64]) (.agg #[Value.int .i64 i, Value.int .i64 ((k + 1 : Nat) : Int)]) = some () := rfl
    have hgp := qhx hp BG.ok i ((k + 1 : Nat) : Int)
    cases hgd : qa2 S i ((k + 1 : Nat) : Int) with
    | none =>
      rw [hgd] at hgp
      have fv := qdf 0 en hgp
      simp -implicitDefEqProofs only [zA,reduceIte,reduceCtorEq,Nat.reduceEqDiff,Nat.reduceAdd,Nat.reduceMul,Nat.reduceLT,Nat.reduceSub,Int.reduceLT,Int.reduceLE,Int.reduceEq,Int.reduceNe,Int.reduceSub,Int.reduceAdd,Int.reduceMul,Int.reduceBEq,Int.reduceBNe,Int.reduceGT,Int.reduceGE,Nat.reduceGT,Int.reduceToNat,Int.reduceNeg,Nat.reduceLeDiff,Nat.reduceBEq,Nat.reduceBneDiff,cb,hi1,hi2,Int.toNat_natCast,c3,w2,ma,fvKD,fv,kf]
      intro b5 hb5
      have s5 : q5x (G1.set b5 (.own 0 Z15 Z15.length)) 15 (.pointer (some ⟨b5, 0, none⟩)) (.agg Z15.toArray) = some (G1.set b5 (.own 0 Z15 15)) := z73 (by decide) rfl rfl rfl (by decide)
      unfold Z15 at s5
      have le5 := Heap.q0v (Heap.q0e G1) hb5 (.own 0 (List.replicate 11 (.int .i64 0) ++ [.string .empty, .string .empty, .string .empty, .int .i64 0]) 15)
      simp -implicitDefEqProofs only [zA,reduceIte,reduceCtorEq,Nat.reduceEqDiff,Nat.reduceAdd,Nat.reduceMul,Nat.reduceLT,Nat.reduceSub,Int.reduceLT,Int.reduceLE,Int.reduceEq,Int.reduceNe,Int.reduceSub,Int.reduceAdd,Int.reduceMul,Int.reduceBEq,Int.reduceBNe,Int.reduceGT,Int.reduceGE,Nat.reduceGT,Int.reduceToNat,Int.reduceNeg,Nat.reduceLeDiff,Nat.reduceBEq,Nat.reduceBneDiff,s5,w1]
      refine ⟨fun _ _ => trivial, _, ?_, i + 1, w, rfl, by omega, rfl, W.more le5, fun d hd => ?_, fun d h1 h2 => ?_⟩
      · omega
      · by_cases e : d = i
        · subst e
          rw [q9n] at hgd
          exact ⟨k, hwi, hh, hgd⟩
        · rw [hoth d e]; exact hdone d (by omega)
      · rw [hoth d (by omega)]; exact hrest d (by omega) h2
    | some e =>
      rw [hgd] at hgp
      obtain ⟨j, fv⟩ := qde 0 en hgp
      unfold edV at fv
      have hge := getD_some hgd
      have he8 := BG.ok.h8 e hge.1
      simp -implicitDefEqProofs only [zA,reduceIte,reduceCtorEq,Nat.reduceEqDiff,Nat.reduceAdd,Nat.reduceMul,Nat.reduceLT,Nat.reduceSub,Int.reduceLT,Int.reduceLE,Int.reduceEq,Int.reduceNe,Int.reduceSub,Int.reduceAdd,Int.reduceMul,Int.reduceBEq,Int.reduceBNe,Int.reduceGT,Int.reduceGE,Nat.reduceGT,Int.reduceToNat,Int.reduceNeg,Nat.reduceLeDiff,Nat.reduceBEq,Nat.reduceBneDiff,cb,hi1,hi2,Int.toNat_natCast,c3,w2,ma,fvKD,fv,kf]
      intro b5 hb5
      have s5 := stE G1 b5 he8
      unfold Z15 at s5
      have le5 := Heap.q0v (Heap.q0e G1) hb5 (.own 0 (edC e) 15)
      have W5 := W.more le5
      simp -implicitDefEqProofs only [zA,reduceIte,reduceCtorEq,Nat.reduceEqDiff,Nat.reduceAdd,Nat.reduceMul,Nat.reduceLT,Nat.reduceSub,Int.reduceLT,Int.reduceLE,Int.reduceEq,Int.reduceNe,Int.reduceSub,Int.reduceAdd,Int.reduceMul,Int.reduceBEq,Int.reduceBNe,Int.reduceGT,Int.reduceGE,Nat.reduceGT,Int.reduceToNat,Int.reduceNeg,Nat.reduceLeDiff,Nat.reduceBEq,Nat.reduceBneDiff,s5]
      unfold q8r
      generalize (G1.set b5 (.own 0 (edC e) 15)) = G5 at le5 W5 ⊢
      have c5 := W5.cell i hlt
      rw [hwi2] at c5
      have st6 : q5x G5 1 (.pointer (some ⟨b3, i, none⟩)) (.int .i64 ((k + 1 : Nat) : Int)) = some (G5.set b3 (.own 0 ((w.set i ((k + 1 : Nat) : Int)).map (.int .i64)) 8)) := by
        rw [q9s W5.q3 rfl (by simp [W5.h8]; exact hlt) (by simp [W5.h8]), List.map_set]
      simp -implicitDefEqProofs only [zA,reduceIte,reduceCtorEq,Nat.reduceEqDiff,Nat.reduceAdd,Nat.reduceMul,Nat.reduceLT,Nat.reduceSub,Int.reduceLT,Int.reduceLE,Int.reduceEq,Int.reduceNe,Int.reduceSub,Int.reduceAdd,Int.reduceMul,Int.reduceBEq,Int.reduceBNe,Int.reduceGT,Int.reduceGE,Nat.reduceGT,Int.reduceToNat,Int.reduceNeg,Nat.reduceLeDiff,Nat.reduceBEq,Nat.reduceBneDiff,hi1,hi2,Int.toNat_natCast,c5,w2,st6]
      have hk1 : Has1 S i (k + 1) := fun j h1 h2 => by
        by_cases e' : j = k + 1
        · exact ⟨e, hge.1, hge.2.1, by rw [e']; exact hge.2.2⟩
        · exact hh j h1 (by omega)
      have hk2 := hk1.le B.ok
      refine ⟨fun _ _ => trivial, _, ?_, k + 1, w.set i ((k + 1 : Nat) : Int), rfl, W5.put _ (by rw [List.length_set]; exact W5.h8), hk1, ?_, fun d hd => ?_⟩
      · omega
      · rw [List.getElem?_set]; simp [W5.h8, hlt]
      · rw [List.getElem?_set, if_neg (Ne.symm hd)]; exact hoth d hd
  · have hi1 : ¬ (i : Int) < 8 := by omega
    have e : i = 8 := by omega
    subst e
    have ld : q09 G ⟨b3, 0, none⟩ 8 = some (v.map (.int .i64)) := by
      rw [q7k V.q3 (by simp [V.h8])]
      simp [V.h8, List.take_of_length_le]
    have vl : (v.map (Value.int .i64)).length = 8 := by simp [V.h8]
    have st : q5x G 8 (.pointer (some ⟨b2, 0, none⟩)) (.agg (v.map (.int .i64)).toArray) = some (G.set b2 (.own 0 (v.map (.int .i64)) 8)) :=
      q8c V.q2 (by decide) vl (by simp [Bb.one]) (by simp) (by decide)
    have l2 : q09 (G.set b2 (.own 0 (v.map (.int .i64)) 8)) ⟨b2, 0, none⟩ 8 = some (v.map (.int .i64)) := z71 vl
    simp -implicitDefEqProofs only [zA,reduceIte,reduceCtorEq,Nat.reduceEqDiff,Nat.reduceAdd,Nat.reduceMul,Nat.reduceLT,Nat.reduceSub,Int.reduceLT,Int.reduceLE,Int.reduceEq,Int.reduceNe,Int.reduceSub,Int.reduceAdd,Int.reduceMul,Int.reduceBEq,Int.reduceBNe,Int.reduceGT,Int.reduceGE,Nat.reduceGT,Int.reduceToNat,Int.reduceNeg,Nat.reduceLeDiff,Nat.reduceBEq,Nat.reduceBneDiff,hi1,ld,st,l2]
    exact ⟨Heap.q0v V.le V.n2 _, v, ⟨V.h8, hdone⟩, rfl⟩
theorem qix (E : EnvT tab) {H : Heap} {b r : Nat} {S : List Ed} (B : BookAt H b r S) (dev : Int) :
    ACallN E.toEnv qee [.pointer (some ⟨b, 0, none⟩), .int .i64 dev] H fun x H' => H.le H' ∧
      (0 ≤ dev ∧ dev < 8 → ∃ v k : _, VecOf S v ∧ v[dev.toNat]? = some k ∧ x = .tuple #[dotK dev (k + 1), .agg (v.map (.int .i64)).toArray]) ∧
      (¬ (0 ≤ dev ∧ dev < 8) → x = .tuple #[dotK 0 0, .agg ((List.replicate 8 (0 : Int)).map (.int .i64)).toArray]) := by
  refine q3s q87 q5h rfl rfl (q01 ?_)
  unfold q5h
  simp -implicitDefEqProofs only [zA,reduceIte,reduceCtorEq,Nat.reduceEqDiff,Nat.reduceAdd,Nat.reduceMul,Nat.reduceLT,Nat.reduceSub,Int.reduceLT,Int.reduceLE,Int.reduceEq,Int.reduceNe,Int.reduceSub,Int.reduceAdd,Int.reduceMul,Int.reduceBEq,Int.reduceBNe,Int.reduceGT,Int.reduceGE,Nat.reduceGT,Int.reduceToNat,Int.reduceNeg,Nat.reduceLeDiff,Nat.reduceBEq,Nat.reduceBneDiff]
  intro b4 hb4
  try simp -implicitDefEqProofs only [zA,reduceIte,reduceCtorEq,Nat.reduceEqDiff,Nat.reduceAdd,Nat.reduceMul,Nat.reduceLT,Nat.reduceSub,Int.reduceLT,Int.reduceLE,Int.reduceEq,Int.reduceNe,Int.reduceSub,Int.reduceAdd,Int.reduceMul,Int.reduceBEq,Int.reduceBNe,Int.reduceGT,Int.reduceGE,Nat.reduceGT,Int.reduceToNat,Int.reduceNeg,Nat.reduceLeDiff,Nat.reduceBEq,Nat.reduceBneDiff]
  intro b5 hb5
  try simp -implicitDefEqProofs only [zA,reduceIte,reduceCtorEq,Nat.reduceEqDiff,Nat.reduceAdd,Nat.reduceMul,Nat.reduceLT,Nat.reduceSub,Int.reduceLT,Int.reduceLE,Int.reduceEq,Int.reduceNe,Int.reduceSub,Int.reduceAdd,Int.reduceMul,Int.reduceBEq,Int.reduceBNe,Int.reduceGT,Int.reduceGE,Nat.reduceGT,Int.reduceToNat,Int.reduceNeg,Nat.reduceLeDiff,Nat.reduceBEq,Nat.reduceBneDiff]
  have ne : b5 ≠ b4 := by intro e; subst e; rw [Heap.q02] at hb5; cases hb5
  have hb5' : H b5 = none := by rw [Heap.q1e ne] at hb5; exact hb5
  rw [List.length_replicate]
  have le0 : H.le ((H.set b4 (.own 0 [.int .i64 0, .int .i64 0] 2)).set b5 (.own 0 (List.replicate 8 (.int .i64 0)) 8)) := Heap.qie (Heap.q0v (Heap.q0e _) hb4 _) hb5 _
  have q4 : ((H.set b4 (.own 0 [.int .i64 0, .int .i64 0] 2)).set b5 (.own 0 (List.replicate 8 (.int .i64 0)) 8)) b4 = some (.own 0 [.int .i64 0, .int .i64 0] 2) := by rw [Heap.q1e ne.symm, Heap.q02]
  have q5 : ((H.set b4 (.own 0 [.int .i64 0, .int .i64 0] 2)).set b5 (.own 0 (List.replicate 8 (.int .i64 0)) 8)) b5 = some (.own 0 (List.replicate 8 (.int .i64 0)) 8) := Heap.q02 _ _ _
  generalize ((H.set b4 (.own 0 [.int .i64 0, .int .i64 0] 2)).set b5 (.own 0 (List.replicate 8 (.int .i64 0)) 8)) = G at le0 q4 q5
  refine (qes E G dev).mono ?_
  rintro x G1 ⟨rfl, rfl⟩
  have fin : ∀ (G2 : Heap), G1.le G2 → ∀ (a c : Int) (w : List Int), w.length = 8 →
      q5x G2 2 (.pointer (some ⟨b4, 0, none⟩)) (.agg [Value.int .i64 a, Value.int .i64 c].toArray) = some (G2.set b4 (.own 0 [.int .i64 a, .int .i64 c] 2)) ∧
      q5x (G2.set b4 (.own 0 [.int .i64 a, .int .i64 c] 2)) 8 (.pointer (some ⟨b5, 0, none⟩)) (.agg (w.map (.int .i64)).toArray) = some ((G2.set b4 (.own 0 [.int .i64 a, .int .i64 c] 2)).set b5 (.own 0 (w.map (.int .i64)) 8)) ∧
      q09 ((G2.set b4 (.own 0 [.int .i64 a, .int .i64 c] 2)).set b5 (.own 0 (w.map (.int .i64)) 8)) ⟨b4, 0, none⟩ 2 = some [.int .i64 a, .int .i64 c] ∧
      q09 ((G2.set b4 (.own 0 [.int .i64 a, .int .i64 c] 2)).set b5 (.own 0 (w.map (.int .i64)) 8)) ⟨b5, 0, none⟩ 8 = some (w.map (.int .i64)) ∧
      H.le ((G2.set b4 (.own 0 [.int .i64 a, .int .i64 c] 2)).set b5 (.own 0 (w.map (.int .i64)) 8)) := by
    intro G2 le a c w hw
    have h1 : ((G2.set b4 (.own 0 [.int .i64 a, .int .i64 c] 2)).set b5 (.own 0 (w.map (.int .i64)) 8)) b4 = some (.own 0 [.int .i64 a, .int .i64 c] 2) := by rw [Heap.q1e ne.symm, Heap.q02]
    refine ⟨q8c (le _ _ q4) (by decide) rfl rfl rfl (by decide), q8c (vs := List.replicate 8 (.int .i64 0)) (by rw [Heap.q1e ne]; exact le _ _ q5) (by decide) (by simp [hw]) (by simp [Bb.one]) (by simp) (by decide), ?_, z71 (by simp [hw]), Heap.q0v (Heap.q0v (Heap.q07 le0 le) hb4 _) hb5' _⟩
    rw [q7k h1 (by simp)]; rfl
  by_cases g : 0 ≤ dev ∧ dev < 8
  · have BG := B.le le0
    simp -implicitDefEqProofs only [zA,reduceIte,reduceCtorEq,Nat.reduceEqDiff,Nat.reduceAdd,Nat.reduceMul,Nat.reduceLT,Nat.reduceSub,Int.reduceLT,Int.reduceLE,Int.reduceEq,Int.reduceNe,Int.reduceSub,Int.reduceAdd,Int.reduceMul,Int.reduceBEq,Int.reduceBNe,Int.reduceGT,Int.reduceGE,Nat.reduceGT,Int.reduceToNat,Int.reduceNeg,Nat.reduceLeDiff,Nat.reduceBEq,Nat.reduceBneDiff,g]
    refine (qgi E BG).mono ?_
    rintro x G2 ⟨le2, v, hv, rfl⟩
    have v8 := hv.1
    have vl : (v.map (Value.int .i64)).length = 8 := by simp [v8]
    simp -implicitDefEqProofs only [zA,reduceIte,reduceCtorEq,Nat.reduceEqDiff,Nat.reduceAdd,Nat.reduceMul,Nat.reduceLT,Nat.reduceSub,Int.reduceLT,Int.reduceLE,Int.reduceEq,Int.reduceNe,Int.reduceSub,Int.reduceAdd,Int.reduceMul,Int.reduceBEq,Int.reduceBNe,Int.reduceGT,Int.reduceGE,Nat.reduceGT,Int.reduceToNat,Int.reduceNeg,Nat.reduceLeDiff,Nat.reduceBEq,Nat.reduceBneDiff]
    intro b6 hb6
    rw [List.length_replicate]
    have s6 : q5x (G2.set b6 (.own 0 (List.replicate 8 (.int .i64 0)) 8)) 8 (.pointer (some ⟨b6, 0, none⟩)) (.agg (v.map (.int .i64)).toArray) = some (G2.set b6 (.own 0 (v.map (.int .i64)) 8)) := z73 (by decide) vl (by simp [Bb.one]) (by simp) (by decide)
    have le6 := Heap.q0v (Heap.q0e G2) hb6 (.own 0 (v.map (.int .i64)) 8)
    have q6 : (G2.set b6 (.own 0 (v.map (.int .i64)) 8)) b6 = some (.own 0 (v.map (.int .i64)) 8) := Heap.q02 _ _ _
    have leY := Heap.q07 le2 le6
    obtain ⟨k, hk, hc⟩ := hv.2 dev.toNat (by omega)
    have hD : dev.toNat < v.length := by omega
    have hvd : v[dev.toNat] = k := by rw [List.getElem?_eq_getElem hD] at hk; simpa using hk
    have hkb := hc.1.le B.ok
    have w2 : IntKind.i64.wrap ((k : Int) + 1) = ((k + 1 : Nat) : Int) := qcs (by omega)
    have n64 : b6 ≠ b4 := fun e => by rw [e, le2 _ _ q4] at hb6; cases hb6
    try simp -implicitDefEqProofs only [zA,reduceIte,reduceCtorEq,Nat.reduceEqDiff,Nat.reduceAdd,Nat.reduceMul,Nat.reduceLT,Nat.reduceSub,Int.reduceLT,Int.reduceLE,Int.reduceEq,Int.reduceNe,Int.reduceSub,Int.reduceAdd,Int.reduceMul,Int.reduceBEq,Int.reduceBNe,Int.reduceGT,Int.reduceGE,Nat.reduceGT,Int.reduceToNat,Int.reduceNeg,Nat.reduceLeDiff,Nat.reduceBEq,Nat.reduceBneDiff,s6]
    generalize (G2.set b6 (.own 0 (v.map (.int .i64)) 8)) = G3 at le6 q6 leY ⊢
    have c6 : q1r G3 ⟨b6, dev.toNat, none⟩ = some (.int .i64 k) := by rw [q4n q6 (by simp; omega)]; simp [hvd]
    have l6 : q09 G3 ⟨b6, 0, none⟩ 8 = some (v.map (.int .i64)) := by
      rw [q7k q6 (by simp [v8])]
      simp [v8, List.take_of_length_le]
    obtain ⟨f1, f2, f3, f4, f5⟩ := fin G3 leY dev ((k + 1 : Nat) : Int) v v8
    have g1 := g.1
    have g2 := g.2
    have l6b : q09 (G3.set b4 (.own 0 [.int .i64 dev, .int .i64 ((k + 1 : Nat) : Int)] 2)) ⟨b6, 0, none⟩ 8 = some (v.map (.int .i64)) := by
      rw [q7k (vs := v.map (.int .i64)) (by rw [Heap.q1e n64]; exact q6) (by simp [v8])]
      simp [v8, List.take_of_length_le]
    simp -implicitDefEqProofs only [zA,reduceIte,reduceCtorEq,Nat.reduceEqDiff,Nat.reduceAdd,Nat.reduceMul,Nat.reduceLT,Nat.reduceSub,Int.reduceLT,Int.reduceLE,Int.reduceEq,Int.reduceNe,Int.reduceSub,Int.reduceAdd,Int.reduceMul,Int.reduceBEq,Int.reduceBNe,Int.reduceGT,Int.reduceGE,Nat.reduceGT,Int.reduceToNat,Int.reduceNeg,Nat.reduceLeDiff,Nat.reduceBEq,Nat.reduceBneDiff,g1,g2,c6,w2,f1,l6,l6b,f2,f3,f4]
    exact ⟨fun G hG => by rw [List.mem_singleton.1 hG, l6]; rfl, f5, v, k, hv, hk, rfl⟩
  · obtain ⟨f1, f2, f3, f4, f5⟩ := fin G1 (Heap.q0e _) 0 0 (List.replicate 8 0) (by simp)
    rw [List.map_replicate] at f2 f3 f4 f5
    simp -implicitDefEqProofs only [zA,reduceIte,reduceCtorEq,Nat.reduceEqDiff,Nat.reduceAdd,Nat.reduceMul,Nat.reduceLT,Nat.reduceSub,Int.reduceLT,Int.reduceLE,Int.reduceEq,Int.reduceNe,Int.reduceSub,Int.reduceAdd,Int.reduceMul,Int.reduceBEq,Int.reduceBNe,Int.reduceGT,Int.reduceGE,Nat.reduceGT,Int.reduceToNat,Int.reduceNeg,Nat.reduceLeDiff,Nat.reduceBEq,Nat.reduceBneDiff,g,f1,f2,f3,f4,List.map_replicate]
    exact ⟨f5, rfl⟩
end Go.Bb
namespace Go.Bb
set_option linter.unusedSimpArgs false
set_option linter.unusedVariables false
set_option maxRecDepth 20000
set_option maxHeartbeats 2000000
open Go.MapKept
theorem qcu {R : Ed → Ed → Prop} (irr : ∀ x, ¬ R x x) (tr : ∀ x y z, R x y → R y z → R x z) : ∀ {T S : List Ed}, T.Pairwise R → S.Pairwise R → (∀ e ∈ S, e ∈ T) → S.Sublist T
  | [], S, _, _, h => by
    cases S with
    | nil => exact List.Sublist.slnil
    | cons x S => exact absurd (h x (List.mem_cons_self ..)) (by simp)
  | y :: T, [], _, _, _ => List.nil_sublist _
  | y :: T, x :: S, ht, hs, h => by
    rw [List.pairwise_cons] at ht hs
    by_cases e : x = y
    · subst e
      refine (qcu irr tr ht.2 hs.2 fun z hz => ?_).cons_cons x
      rcases List.mem_cons.1 (h z (List.mem_cons_of_mem _ hz)) with k | k
      · subst k; exact absurd (hs.1 _ hz) (irr _)
      · exact k
    · have hx : x ∈ T := (List.mem_cons.1 (h x (List.mem_cons_self ..))).resolve_left e
      refine (qcu irr tr ht.2 (List.pairwise_cons.2 hs) fun z hz => ?_).cons y
      rcases List.mem_cons.1 (h z hz) with k | k
      · subst k
        rcases List.mem_cons.1 hz with q | q
        · exact absurd q.symm e
        · exact absurd (tr _ _ _ (ht.1 x hx) (hs.1 _ q)) (irr _)
      · exact k
theorem Keep.trans {r : Nat} {H G G' : Heap} (h : Keep r H G) (k : Keep r G G') : Keep r H G' := fun b x hb hr => k b x (h b x hb hr) hr
theorem Keep.fresh {r : Nat} {H G G' : Heap} (hr : H r = none) (le : H.le G) (k : Keep r G G') : H.le G' := fun b x hb => k b x (le b x hb) (fun e => by rw [e, hr] at hb; cases hb)
theorem BookAt.keep {H H' : Heap} {b r q : Nat} {S : List Ed} (x : BookAt H b r S) (k : Keep q H H') (h1 : b ≠ q) (h2 : r ≠ q) : BookAt H' b r S := by
  obtain ⟨es, c, L, g1, g2⟩ := x.qr
  exact ⟨x.ne, k _ _ x.qb h1, ⟨es, c, L, k _ _ g1 h2, g2⟩, x.ok⟩
end Go.Bb
namespace Go.Bb
set_option linter.unusedSimpArgs false
set_option linter.unusedVariables false
theorem qcw (a : Str) : ¬ a < a := List.lt_irrefl a
theorem qhl {a b c : Str} (h : a < b) (k : b < c) : a < c := List.lt_trans h k
theorem sLt_tri {a b : Str} (h : ¬ a < b) (k : ¬ b < a) : a = b := List.le_antisymm k h
theorem sLt_of {a b : Str} (h : a ≤ b) (k : a ≠ b) : a < b := by
  by_cases g : a < b
  · exact g
  · exact absurd (sLt_tri g h) k
theorem qgu (l : List Str) : (q88 l).Pairwise (fun a b => a ≤ b) := by
  have := List.pairwise_mergeSort (le := fun x y : Str => decide (x ≤ y)) (by
    intro a b c h1 h2
    simp only [decide_eq_true_eq] at *
    exact List.le_trans h1 h2) (by
    intro a b
    simp only [Bool.or_eq_true, decide_eq_true_eq]
    exact List.le_total a b) l
  exact this.imp fun {a b} h => by simpa using h
theorem qjx {l : List Str} {x : Str} : x ∈ q88 l ↔ x ∈ l := List.mem_mergeSort
theorem comp_inv (d : Array Str) (hs : ∀ i j, i < j → j < d.size → d[i]! ≤ d[j]!) : ∀ m, m ≤ d.size → (Lib.compactUpTo d m).Pairwise (· < ·) ∧ (∀ x, x ∈ Lib.compactUpTo d m ↔ ∃ i, i < m ∧ d[i]! = x) := by
  intro m
  induction m with
  | zero => intro _; simp [Lib.compactUpTo]
  | succ m ih =>
    intro hm
    obtain ⟨h1, h2⟩ := ih (by omega)
    rw [Lib.compactUpTo_succ]
    by_cases k : Lib.keeps d m = true
    · rw [if_pos k]
      refine ⟨?_, fun x => ?_⟩
      · rw [List.pairwise_append]
        refine ⟨h1, by simp, fun x hx y hy => ?_⟩
        rw [List.mem_singleton] at hy
        subst hy
        obtain ⟨i, hi, rfl⟩ := (h2 x).1 hx
        unfold Lib.keeps at k
        simp only [decide_eq_true_eq] at k
        have hne : d[m]! ≠ d[m - 1]! := k.resolve_left (by omega)
        have hle : d[m - 1]! ≤ d[m]! := hs _ _ (by omega) (by omega)
        have hlt : d[m - 1]! < d[m]! := sLt_of hle (Ne.symm hne)
        by_cases e : i = m - 1
        · rw [e]; exact hlt
        · have := hs i (m - 1) (by omega) (by omega)
          by_cases q : d[i]! = d[m - 1]!
          · rw [q]; exact hlt
          · exact qhl (sLt_of this q) hlt
      · rw [List.mem_append, h2, List.mem_singleton]
        constructor
        · rintro (⟨i, hi, rfl⟩ | rfl)
          · exact ⟨i, by omega, rfl⟩
          · exact ⟨m, by omega, rfl⟩
        · rintro ⟨i, hi, rfl⟩
          by_cases e : i = m
          · exact .inr (by rw [e])
          · exact .inl ⟨i, by omega, rfl⟩
    · rw [if_neg k, List.append_nil]
      refine ⟨h1, fun x => ?_⟩
      unfold Lib.keeps at k
      simp only [decide_eq_true_eq, not_or, Decidable.not_not] at k
      rw [h2]
      constructor
      · rintro ⟨i, hi, rfl⟩; exact ⟨i, by omega, rfl⟩
      · rintro ⟨i, hi, rfl⟩
        by_cases e : i = m
        · exact ⟨m - 1, by omega, by rw [e, k.2]⟩
        · exact ⟨i, by omega, rfl⟩
theorem qg5 (l : List Str) : (uniqS l).Pairwise (· < ·) ∧ ∀ x, x ∈ uniqS l ↔ x ∈ l := by
  have hsz : (q88 l).toArray.size = (q88 l).length := by simp
  have hg : ∀ i, i < (q88 l).length → ∀ h : i < (q88 l).length, (q88 l).toArray[i]! = (q88 l)[i] := fun i hi h => by simp [h]
  have hs := qgu l
  rw [List.pairwise_iff_getElem] at hs
  obtain ⟨h1, h2⟩ := comp_inv (q88 l).toArray (fun i j hij hj => by
    rw [hsz] at hj
    rw [hg i (by omega) (by omega), hg j hj hj]
    exact hs i j (by omega) hj hij) (q88 l).length (by simp)
  refine ⟨h1, fun x => ?_⟩
  unfold uniqS Lib.compact
  rw [h2, ← qjx]
  constructor
  · rintro ⟨i, hi, rfl⟩
    rw [hg i hi hi]; exact List.getElem_mem hi
  · intro hx
    obtain ⟨i, hi, rfl⟩ := List.getElem_of_mem hx
    exact ⟨i, hi, hg i hi hi⟩
theorem qgm {l m : List Str} (hl : l.Pairwise (· < ·)) (hm : m.Pairwise (· < ·)) (h : ∀ x, x ∈ l ↔ x ∈ m) : l = m := by
  have nl : l.Nodup := List.Pairwise.imp (fun {a b} (k : a < b) (e : a = b) => qcw b (by rw [e] at k; exact k)) hl
  have nm : m.Nodup := List.Pairwise.imp (fun {a b} (k : a < b) (e : a = b) => qcw b (by rw [e] at k; exact k)) hm
  have hp : l.Perm m := by
    rw [List.perm_iff_count]
    intro a
    rw [nl.count, nm.count]
    by_cases ha : a ∈ l
    · rw [if_pos ha, if_pos ((h a).1 ha)]
    · rw [if_neg ha, if_neg (fun k => ha ((h a).2 k))]
  exact q8d qcw (fun x y z => qhl) hp hl hm
end Go.Bb
namespace Go.Bb
set_option linter.unusedSimpArgs false
set_option linter.unusedVariables false
set_option maxRecDepth 20000
set_option maxHeartbeats 2000000
open Go.MapKept
abbrev SlS (H : Heap) (v : Value) (L : List Str) : Prop := Sl H 1 v L.length (L.map strV)
theorem SlS.cell {H : Heap} {v : Value} {L : List Str} (s : SlS H v L) (i : Nat) (hi : i < L.length) :
    ∃ b o c, v = .slice (some ⟨b, o, none⟩) L.length c ∧ q1r H ⟨b, o + i, none⟩ = some (strV L[i]) := by
  unfold SlS at s
  rw [← q48 strV L] at s
  obtain ⟨b, o, c, h1, h2, h3⟩ := Sl.at (f := fun s => [strV s]) (fun _ => rfl) s i hi (by decide)
  have h4 := qeh (h3 H (Heap.q0e _)) 0 Nat.zero_lt_one
  simp only [List.getElem?_cons_zero, Nat.mul_one, Nat.add_zero] at h4
  exact ⟨b, o, c, h1, h4⟩
theorem qkd (E : EnvT tab) {H : Heap} {v w : Value} {L M : List Str} (s : SlS H v L) (q : SlS H w M) (hl : L.length ≤ 1000000) (hm : M.length ≤ 1000000) :
    ACallN E.toEnv qba [v, w] H fun r H' => H' = H ∧ r = .bool (decide (L = M)) := by
  obtain ⟨b1, c1, rfl⟩ := s.shape
  obtain ⟨b2, c2, rfl⟩ := q.shape
  refine q3s q5u q31 rfl rfl (q01 ?_)
  unfold q31
  by_cases g : L.length = M.length
  · have g' : ((L.length : Int) != M.length) = false := by simp [g]
    simp -implicitDefEqProofs only [zA,reduceIte,reduceCtorEq,Nat.reduceEqDiff,Nat.reduceAdd,Nat.reduceMul,Nat.reduceLT,Nat.reduceSub,Int.reduceLT,Int.reduceLE,Int.reduceEq,Int.reduceNe,Int.reduceSub,Int.reduceAdd,Int.reduceMul,Int.reduceBEq,Int.reduceBNe,Int.reduceGT,Int.reduceGE,Nat.reduceGT,Int.reduceToNat,Int.reduceNeg,Nat.reduceLeDiff,Nat.reduceBEq,Nat.reduceBneDiff,g']
    refine q3j (fun m t G => G = H ∧ ∃ i : Nat, t = tl [(0, .slice b1 L.length c1), (1, .slice b2 M.length c2), (5, .int .i64 i)] ∧ i ≤ L.length ∧ m = L.length - i ∧ L.take i = M.take i) L.length
      ⟨rfl, 0, rfl, by omega, by omega, rfl⟩ ?_
    rintro m t G ⟨rfl, i, rfl, hi, rfl, ht⟩
    by_cases hlt : i < L.length
    · have hlt2 : i < M.length := by omega
      have hi1 : (i : Int) < L.length := by omega
      have hi3 : (i : Int) < M.length := by omega
      have hi2 : (0 : Int) ≤ i := by omega
      have w1 : IntKind.i64.wrap ((i : Int) + 1) = ((i + 1 : Nat) : Int) := qcs (by omega)
      obtain ⟨x1, o1, d1, e1, k1⟩ := s.cell i hlt
      obtain ⟨x2, o2, d2, e2, k2⟩ := q.cell i hlt2
      simp only [Value.slice.injEq, true_and] at e1 e2
      obtain ⟨rfl, rfl⟩ := e1
      obtain ⟨rfl, rfl⟩ := e2
      have sn := qif L[i] M[i]
      have t1 : L.take (i + 1) = L.take i ++ [L[i]] := List.take_succ_eq_append_getElem hlt
      have t2 : M.take (i + 1) = M.take i ++ [M[i]] := List.take_succ_eq_append_getElem hlt2
      by_cases e : L[i] = M[i]
      · rw [decide_eq_true e] at sn
        simp -implicitDefEqProofs only [zA,reduceIte,reduceCtorEq,Nat.reduceEqDiff,Nat.reduceAdd,Nat.reduceMul,Nat.reduceLT,Nat.reduceSub,Int.reduceLT,Int.reduceLE,Int.reduceEq,Int.reduceNe,Int.reduceSub,Int.reduceAdd,Int.reduceMul,Int.reduceBEq,Int.reduceBNe,Int.reduceGT,Int.reduceGE,Nat.reduceGT,Int.reduceToNat,Int.reduceNeg,Nat.reduceLeDiff,Nat.reduceBEq,Nat.reduceBneDiff,hi1,hi2,hi3,Int.toNat_natCast,k1,k2,sn,w1]
        refine ⟨_, ?_, i + 1, rfl, by omega, rfl, by rw [t1, t2, ht, e]⟩
        omega
      · rw [decide_eq_false e] at sn
        have hne : ¬ L = M := fun h => e (by simp [h])
        simp -implicitDefEqProofs only [zA,reduceIte,reduceCtorEq,Nat.reduceEqDiff,Nat.reduceAdd,Nat.reduceMul,Nat.reduceLT,Nat.reduceSub,Int.reduceLT,Int.reduceLE,Int.reduceEq,Int.reduceNe,Int.reduceSub,Int.reduceAdd,Int.reduceMul,Int.reduceBEq,Int.reduceBNe,Int.reduceGT,Int.reduceGE,Nat.reduceGT,Int.reduceToNat,Int.reduceNeg,Nat.reduceLeDiff,Nat.reduceBEq,Nat.reduceBneDiff,hi1,hi2,hi3,Int.toNat_natCast,k1,k2,sn,hne]
    · have hi1 : ¬ (i : Int) < L.length := by omega
      have e : i = L.length := by omega
      subst e
      have hLM : L = M := by
        rw [List.take_length, List.take_of_length_le (by omega)] at ht
        exact ht
      rw [decide_eq_true hLM]
      simp -implicitDefEqProofs only [zA,reduceIte,reduceCtorEq,Nat.reduceEqDiff,Nat.reduceAdd,Nat.reduceMul,Nat.reduceLT,Nat.reduceSub,Int.reduceLT,Int.reduceLE,Int.reduceEq,Int.reduceNe,Int.reduceSub,Int.reduceAdd,Int.reduceMul,Int.reduceBEq,Int.reduceBNe,Int.reduceGT,Int.reduceGE,Nat.reduceGT,Int.reduceToNat,Int.reduceNeg,Nat.reduceLeDiff,Nat.reduceBEq,Nat.reduceBneDiff,hi1]
  · have g' : ((L.length : Int) != M.length) = true := by simp; omega
    have hne : ¬ L = M := fun h => g (by rw [h])
    simp -implicitDefEqProofs only [zA,reduceIte,reduceCtorEq,Nat.reduceEqDiff,Nat.reduceAdd,Nat.reduceMul,Nat.reduceLT,Nat.reduceSub,Int.reduceLT,Int.reduceLE,Int.reduceEq,Int.reduceNe,Int.reduceSub,Int.reduceAdd,Int.reduceMul,Int.reduceBEq,Int.reduceBNe,Int.reduceGT,Int.reduceGE,Nat.reduceGT,Int.reduceToNat,Int.reduceNeg,Nat.reduceLeDiff,Nat.reduceBEq,Nat.reduceBneDiff,g',hne]
def eA : Ed := ⟨1, 1, List.replicate 8 0, 1, [99], [102], [121], 1⟩
def eB : Ed := ⟨0, 1, List.replicate 8 0, 1, [99], [102], [120], 0⟩
theorem add_eA : addB [] eA = ([eA], 0) := by decide
theorem add_eB : addB [eA] eB = ([eB, eA], 0) := by decide
theorem qlb : qab [eB, eA] = [eB, eA] := by decide
theorem all_AB : allB [eB, eA] [99] [102] = [[120], [121]] := by unfold allB; rw [qlb]; decide
theorem con_AB : qal [eB, eA] = [[99]] := by
  unfold qal
  rw [qlb]
  refine qgm (qg5 _).1 (by simp) fun x => ?_
  rw [(qg5 _).2]
  simp [eA, eB]
theorem vec_AB : VecOf [eB, eA] [1, 1, 0, 0, 0, 0, 0, 0] := by
  refine ⟨rfl, fun d hd => ?_⟩
  match d, hd with
  | 0, _ => exact ⟨1, rfl, fun j h1 h2 => ⟨eB, by simp, rfl, by simp [eB]; omega⟩, by simp [eA, eB]⟩
  | 1, _ => exact ⟨1, rfl, fun j h1 h2 => ⟨eA, by simp, rfl, by simp [eA]; omega⟩, by simp [eA, eB]⟩
  | 2, _ => exact ⟨0, rfl, fun j h1 h2 => by omega, by simp [eA, eB]⟩
  | 3, _ => exact ⟨0, rfl, fun j h1 h2 => by omega, by simp [eA, eB]⟩
  | 4, _ => exact ⟨0, rfl, fun j h1 h2 => by omega, by simp [eA, eB]⟩
  | 5, _ => exact ⟨0, rfl, fun j h1 h2 => by omega, by simp [eA, eB]⟩
  | 6, _ => exact ⟨0, rfl, fun j h1 h2 => by omega, by simp [eA, eB]⟩
  | 7, _ => exact ⟨0, rfl, fun j h1 h2 => by omega, by simp [eA, eB]⟩
theorem qgw (E : EnvT tab) (K : BkOk E) (H : Heap) : ACallN E.toEnv qbb [] H fun r H' => H.le H' ∧ r = .bool true := by
  refine q3s q5v q32 rfl rfl (q01 ?_)
  unfold q32
  simp -implicitDefEqProofs only [zA,reduceIte,reduceCtorEq,Nat.reduceEqDiff,Nat.reduceAdd,Nat.reduceMul,Nat.reduceLT,Nat.reduceSub,Int.reduceLT,Int.reduceLE,Int.reduceEq,Int.reduceNe,Int.reduceSub,Int.reduceAdd,Int.reduceMul,Int.reduceBEq,Int.reduceBNe,Int.reduceGT,Int.reduceGE,Nat.reduceGT,Int.reduceToNat,Int.reduceNeg,Nat.reduceLeDiff,Nat.reduceBEq,Nat.reduceBneDiff]
  refine (qgj E H).mono ?_
  rintro v H1 ⟨le1, b, r, rfl, nb, nr, B1⟩
  simp -implicitDefEqProofs only [zA,reduceIte,reduceCtorEq,Nat.reduceEqDiff,Nat.reduceAdd,Nat.reduceMul,Nat.reduceLT,Nat.reduceSub,Int.reduceLT,Int.reduceLE,Int.reduceEq,Int.reduceNe,Int.reduceSub,Int.reduceAdd,Int.reduceMul,Int.reduceBEq,Int.reduceBNe,Int.reduceGT,Int.reduceGE,Nat.reduceGT,Int.reduceToNat,Int.reduceNeg,Nat.reduceLeDiff,Nat.reduceBEq,Nat.reduceBneDiff]
  change q0b (some (edV eA)) _ _
  simp -implicitDefEqProofs only [zA,reduceIte,reduceCtorEq,Nat.reduceEqDiff,Nat.reduceAdd,Nat.reduceMul,Nat.reduceLT,Nat.reduceSub,Int.reduceLT,Int.reduceLE,Int.reduceEq,Int.reduceNe,Int.reduceSub,Int.reduceAdd,Int.reduceMul,Int.reduceBEq,Int.reduceBNe,Int.reduceGT,Int.reduceGE,Nat.reduceGT,Int.reduceToNat,Int.reduceNeg,Nat.reduceLeDiff,Nat.reduceBEq,Nat.reduceBneDiff]
  refine (qdi E B1 eA rfl (by decide) (by decide) (by decide) (by decide)).mono ?_
  rintro v H2 ⟨rfl, B2, k2⟩
  rw [add_eA] at B2 ⊢
  unfold q74
  simp -implicitDefEqProofs only [zA,reduceIte,reduceCtorEq,Nat.reduceEqDiff,Nat.reduceAdd,Nat.reduceMul,Nat.reduceLT,Nat.reduceSub,Int.reduceLT,Int.reduceLE,Int.reduceEq,Int.reduceNe,Int.reduceSub,Int.reduceAdd,Int.reduceMul,Int.reduceBEq,Int.reduceBNe,Int.reduceGT,Int.reduceGE,Nat.reduceGT,Int.reduceToNat,Int.reduceNeg,Nat.reduceLeDiff,Nat.reduceBEq,Nat.reduceBneDiff]
  change q0b (some (edV eB)) _ _
  simp -implicitDefEqProofs only [zA,reduceIte,reduceCtorEq,Nat.reduceEqDiff,Nat.reduceAdd,Nat.reduceMul,Nat.reduceLT,Nat.reduceSub,Int.reduceLT,Int.reduceLE,Int.reduceEq,Int.reduceNe,Int.reduceSub,Int.reduceAdd,Int.reduceMul,Int.reduceBEq,Int.reduceBNe,Int.reduceGT,Int.reduceGE,Nat.reduceGT,Int.reduceToNat,Int.reduceNeg,Nat.reduceLeDiff,Nat.reduceBEq,Nat.reduceBneDiff]
  refine (qdi E B2 eB rfl (by decide) (by decide) (by decide) (by decide)).mono ?_
  rintro v H3 ⟨rfl, B3, k3⟩
  rw [add_eB] at B3 ⊢
  have le3 : H.le H3 := Keep.fresh nr le1 (k2.trans k3)
  simp -implicitDefEqProofs only [zA,reduceIte,reduceCtorEq,Nat.reduceEqDiff,Nat.reduceAdd,Nat.reduceMul,Nat.reduceLT,Nat.reduceSub,Int.reduceLT,Int.reduceLE,Int.reduceEq,Int.reduceNe,Int.reduceSub,Int.reduceAdd,Int.reduceMul,Int.reduceBEq,Int.reduceBNe,Int.reduceGT,Int.reduceGE,Nat.reduceGT,Int.reduceToNat,Int.reduceNeg,Nat.reduceLeDiff,Nat.reduceBEq,Nat.reduceBneDiff]
  refine (qib E K B3 [99] [102]).mono ?_
  rintro v H4 ⟨le4, rfl⟩
  rw [all_AB]
  have B4 := B3.le le4
  simp -implicitDefEqProofs only [zA,reduceIte,reduceCtorEq,Nat.reduceEqDiff,Nat.reduceAdd,Nat.reduceMul,Nat.reduceLT,Nat.reduceSub,Int.reduceLT,Int.reduceLE,Int.reduceEq,Int.reduceNe,Int.reduceSub,Int.reduceAdd,Int.reduceMul,Int.reduceBEq,Int.reduceBNe,Int.reduceGT,Int.reduceGE,Nat.reduceGT,Int.reduceToNat,Int.reduceNeg,Nat.reduceLeDiff,Nat.reduceBEq,Nat.reduceBneDiff]
  unfold q73
  simp -implicitDefEqProofs only [zA,reduceIte,reduceCtorEq,Nat.reduceEqDiff,Nat.reduceAdd,Nat.reduceMul,Nat.reduceLT,Nat.reduceSub,Int.reduceLT,Int.reduceLE,Int.reduceEq,Int.reduceNe,Int.reduceSub,Int.reduceAdd,Int.reduceMul,Int.reduceBEq,Int.reduceBNe,Int.reduceGT,Int.reduceGE,Nat.reduceGT,Int.reduceToNat,Int.reduceNeg,Nat.reduceLeDiff,Nat.reduceBEq,Nat.reduceBneDiff]
  refine (qdh E K B4 [99] [102]).mono ?_
  rintro v H5 ⟨le5, ow5⟩
  rw [all_AB] at ow5
  have B5 := B4.le le5
  simp -implicitDefEqProofs only [zA,reduceIte,reduceCtorEq,Nat.reduceEqDiff,Nat.reduceAdd,Nat.reduceMul,Nat.reduceLT,Nat.reduceSub,Int.reduceLT,Int.reduceLE,Int.reduceEq,Int.reduceNe,Int.reduceSub,Int.reduceAdd,Int.reduceMul,Int.reduceBEq,Int.reduceBNe,Int.reduceGT,Int.reduceGE,Nat.reduceGT,Int.reduceToNat,Int.reduceNeg,Nat.reduceLeDiff,Nat.reduceBEq,Nat.reduceBneDiff]
  intro b6 hb6
  try simp -implicitDefEqProofs only [zA,reduceIte,reduceCtorEq,Nat.reduceEqDiff,Nat.reduceAdd,Nat.reduceMul,Nat.reduceLT,Nat.reduceSub,Int.reduceLT,Int.reduceLE,Int.reduceEq,Int.reduceNe,Int.reduceSub,Int.reduceAdd,Int.reduceMul,Int.reduceBEq,Int.reduceBNe,Int.reduceGT,Int.reduceGE,Nat.reduceGT,Int.reduceToNat,Int.reduceNeg,Nat.reduceLeDiff,Nat.reduceBEq,Nat.reduceBneDiff]
  have le6 := Heap.q0v (Heap.q0e H5) hb6 (.own 0 [strV [120], strV [121]] 2)
  refine (qkd E (L := [[120], [121]]) (M := [[120], [121]]) (Sl.le le6 ow5.sl) (Sl.lit (n := 2) rfl) (by decide) (by decide)).mono ?_
  rintro v H6 ⟨rfl, rfl⟩
  have B6 := B5.le le6
  have leY := Heap.q07 le3 (Heap.q07 le4 (Heap.q07 le5 le6))
  have ey : binV .eql (strV [121]) (.string ⟨#[121]⟩) = some (.bool true) := by
    exact qgn [121] [121]
  generalize (H5.set b6 (.own 0 [strV [120], strV [121]] 2)) = G at le6 B6 leY
  have gl : ([[120], [121]] : List Str).getLastD [] = [121] := rfl
  have gn : decide (([[120], [121]] : List Str) ≠ []) = true := by decide
  simp -implicitDefEqProofs only [zA,reduceIte,reduceCtorEq,Nat.reduceEqDiff,Nat.reduceAdd,Nat.reduceMul,Nat.reduceLT,Nat.reduceSub,Int.reduceLT,Int.reduceLE,Int.reduceEq,Int.reduceNe,Int.reduceSub,Int.reduceAdd,Int.reduceMul,Int.reduceBEq,Int.reduceBNe,Int.reduceGT,Int.reduceGE,Nat.reduceGT,Int.reduceToNat,Int.reduceNeg,Nat.reduceLeDiff,Nat.reduceBEq,Nat.reduceBneDiff,gl,gn,ey]
  refine (qfo E K B6).mono ?_
  rintro v H7 ⟨le7, ow7⟩
  rw [con_AB] at ow7
  have B7 := B6.le le7
  simp -implicitDefEqProofs only [zA,reduceIte,reduceCtorEq,Nat.reduceEqDiff,Nat.reduceAdd,Nat.reduceMul,Nat.reduceLT,Nat.reduceSub,Int.reduceLT,Int.reduceLE,Int.reduceEq,Int.reduceNe,Int.reduceSub,Int.reduceAdd,Int.reduceMul,Int.reduceBEq,Int.reduceBNe,Int.reduceGT,Int.reduceGE,Nat.reduceGT,Int.reduceToNat,Int.reduceNeg,Nat.reduceLeDiff,Nat.reduceBEq,Nat.reduceBneDiff]
  intro b8 hb8
  try simp -implicitDefEqProofs only [zA,reduceIte,reduceCtorEq,Nat.reduceEqDiff,Nat.reduceAdd,Nat.reduceMul,Nat.reduceLT,Nat.reduceSub,Int.reduceLT,Int.reduceLE,Int.reduceEq,Int.reduceNe,Int.reduceSub,Int.reduceAdd,Int.reduceMul,Int.reduceBEq,Int.reduceBNe,Int.reduceGT,Int.reduceGE,Nat.reduceGT,Int.reduceToNat,Int.reduceNeg,Nat.reduceLeDiff,Nat.reduceBEq,Nat.reduceBneDiff]
  have le8 := Heap.q0v (Heap.q0e H7) hb8 (.own 0 [strV [99]] 1)
  refine (qkd E (L := [[99]]) (M := [[99]]) (Sl.le le8 ow7.sl) (Sl.lit (n := 1) rfl) (by decide) (by decide)).mono ?_
  rintro v H8 ⟨rfl, rfl⟩
  have B8 := B7.le le8
  have leZ := Heap.q07 leY (Heap.q07 le7 le8)
  generalize (H7.set b8 (.own 0 [strV [99]] 1)) = G2 at le8 B8 leZ
  simp -implicitDefEqProofs only [zA,reduceIte,reduceCtorEq,Nat.reduceEqDiff,Nat.reduceAdd,Nat.reduceMul,Nat.reduceLT,Nat.reduceSub,Int.reduceLT,Int.reduceLE,Int.reduceEq,Int.reduceNe,Int.reduceSub,Int.reduceAdd,Int.reduceMul,Int.reduceBEq,Int.reduceBNe,Int.reduceGT,Int.reduceGE,Nat.reduceGT,Int.reduceToNat,Int.reduceNeg,Nat.reduceLeDiff,Nat.reduceBEq,Nat.reduceBneDiff]
  refine (qgi E B8).mono ?_
  rintro v H9 ⟨le9, w, hw, rfl⟩
  have ew := hw.eq vec_AB
  subst ew
  simp -implicitDefEqProofs only [zA,reduceIte,reduceCtorEq,Nat.reduceEqDiff,Nat.reduceAdd,Nat.reduceMul,Nat.reduceLT,Nat.reduceSub,Int.reduceLT,Int.reduceLE,Int.reduceEq,Int.reduceNe,Int.reduceSub,Int.reduceAdd,Int.reduceMul,Int.reduceBEq,Int.reduceBNe,Int.reduceGT,Int.reduceGE,Nat.reduceGT,Int.reduceToNat,Int.reduceNeg,Nat.reduceLeDiff,Nat.reduceBEq,Nat.reduceBneDiff]
  change q0b (some (.agg (([1, 1, 0, 0, 0, 0, 0, 0] : List Int).map (.int .i64)).toArray)) _ _
  have k1 : q05 (List.replicate 8 (some IntKind.i64)) (([1, 1, 0, 0, 0, 0, 0, 0] : List Int).map (.int .i64)) = true := rfl
  have k3 : q0k (([1, 1, 0, 0, 0, 0, 0, 0] : List Int).map (.int .i64)) (([1, 1, 0, 0, 0, 0, 0, 0] : List Int).map (.int .i64)) = true := rfl
  simp -implicitDefEqProofs only [zA,reduceIte,reduceCtorEq,Nat.reduceEqDiff,Nat.reduceAdd,Nat.reduceMul,Nat.reduceLT,Nat.reduceSub,Int.reduceLT,Int.reduceLE,Int.reduceEq,Int.reduceNe,Int.reduceSub,Int.reduceAdd,Int.reduceMul,Int.reduceBEq,Int.reduceBNe,Int.reduceGT,Int.reduceGE,Nat.reduceGT,Int.reduceToNat,Int.reduceNeg,Nat.reduceLeDiff,Nat.reduceBEq,Nat.reduceBneDiff,k1,k3]
  exact Heap.q07 leZ le9
end Go.Bb
namespace Go.Bb
set_option linter.unusedSimpArgs false
set_option linter.unusedVariables false
set_option maxRecDepth 20000
end Go.Bb
namespace Go.Bb
set_option linter.unusedSimpArgs false
set_option linter.unusedVariables false
set_option maxRecDepth 20000
set_option maxHeartbeats 2000000
end Go.Bb
namespace Go.Bb
set_option linter.unusedSimpArgs false
set_option linter.unusedVariables false
def qgr (a b : Ed) : Prop := a.dev = b.dev ∧ a.n = b.n
theorem addB_new {S : List Ed} {e : Ed} (hg : q8g e = true) (hn : ∀ s ∈ S, ¬ qgr s e) (hl : S.length < 500) : addB S e = (insR q4g e S, 0) := by
  unfold addB
  rw [if_pos hg, q9n.2 hn]
  simp only
  rw [if_neg (by omega)]
theorem addB_ok {S : List Ed} (ok : BkS S) {e : Ed} (h8 : e.seen.length = 8) : BkS (addB S e).1 := by
  unfold addB
  split
  · rename_i hg
    split
    · split <;> exact ok
    · rename_i hn
      split
      · exact ok
      · rename_i hl; exact ok.ins hg h8 hn hl
  · exact ok
theorem BkS.dots {S : List Ed} (ok : BkS S) : S.Pairwise (fun a b => ¬ qgr a b) := ok.rise.imp fun {a b} k => by unfold qgr; unfold q4g at k; omega
end Go.Bb
namespace Go.Bb
set_option linter.unusedSimpArgs false
set_option linter.unusedVariables false
set_option maxRecDepth 20000
set_option maxHeartbeats 2000000
open Go.MapKept
theorem BookAt.apart {H : Heap} {b r x : Nat} {S : List Ed} (B : BookAt H b r S) (hx : H x = none) : b ≠ x ∧ r ≠ x := by
  obtain ⟨es, c, L, g, _⟩ := B.qr
  exact ⟨fun e => (by have := B.qb; rw [e, hx] at this; cases this), fun e => (by rw [e, hx] at g; cases g)⟩
end Go.Bb
namespace Go.Bb
set_option linter.unusedSimpArgs false
set_option linter.unusedVariables false
set_option maxRecDepth 20000
set_option maxHeartbeats 2000000
open Go.MapKept
end Go.Bb
namespace Go.Bb
set_option linter.unusedSimpArgs false
set_option linter.unusedVariables false
structure GoodP (e : Ed) : Prop where
  d0 : 0 ≤ e.dev
  d8 : e.dev < 8
  n1 : 1 ≤ e.n
  n2 : e.n ≤ 1099511627776
  seen : vecG e.seen = true
  own : e.seen[e.dev.toNat]? = some (e.n - 1)
  t0 : 0 ≤ e.time
  t1 : e.time ≤ 1099511627776
  con : qd0 e.con = true
  kind : (e.kind = 1 ∧ qd0 e.fld = true ∧ e.val.length ≤ 200) ∨ (e.kind = 2 ∧ e.fld = [] ∧ e.val = [])
theorem goodP {e : Ed} : q8g e = true ↔ GoodP e := by
  unfold q8g
  simp only [Bool.and_eq_true, Bool.or_eq_true, decide_eq_true_eq]
  constructor
  · rintro ⟨⟨⟨⟨⟨⟨⟨h1, h1'⟩, h2, h2'⟩, h3⟩, h4⟩, h5, h5'⟩, h6⟩, h7⟩
    exact ⟨h1, h1', h2, h2', h3, h4, h5, h5', h6, h7⟩
  · rintro ⟨h1, h1', h2, h2', h3, h4, h5, h5', h6, h7⟩
    exact ⟨⟨⟨⟨⟨⟨⟨h1, h1'⟩, h2, h2'⟩, h3⟩, h4⟩, h5, h5'⟩, h6⟩, h7⟩
theorem qgz {v : List Int} {k : Nat} {x : Int} (h : v[k]? = some x) : v.getD k 0 = x := by simp [List.getD, h]
theorem qgy {v : List Int} {d n : Int} : hasV v d n = true ↔ (0 ≤ d ∧ d < 8) ∧ 1 ≤ n ∧ n ≤ v.getD d.toNat 0 := by
  unfold hasV
  simp only [Bool.and_eq_true, decide_eq_true_eq]
theorem qkx {e : Ed} (h : q8g e = true) : q85 e e = false := by
  have g := goodP.1 h
  have h2 : hasV e.seen e.dev e.n = false := by
    rw [← Bool.not_eq_true, qgy, qgz g.own]
    omega
  simp [q85, h2]
theorem qja {a b : Ed} : q85 a b = true ↔ b.kind = 1 ∧ hasV a.seen b.dev b.n = true ∧ a.con = b.con ∧ (a.kind = 2 ∨ (a.kind = 1 ∧ a.fld = b.fld)) := by
  unfold q85
  simp only [Bool.and_eq_true, Bool.or_eq_true, decide_eq_true_eq]
theorem over_not {a b : Ed} (h : hasV a.seen b.dev b.n = false) : q85 a b = false := by simp [q85, h]
theorem all_one {α : Type} {l : List α} {e : α} (hn : l.Nodup) (he : e ∈ l) (h : ∀ x ∈ l, x = e) : l = [e] := by
  match l, hn, he, h with
  | [a], _, _, h => rw [h a (by simp)]
  | a :: b :: l, hn, _, h =>
    have h1 := h a (by simp)
    have h2 := h b (by simp)
    rw [List.nodup_cons] at hn
    exact absurd (by rw [h1, h2]; simp) hn.1
theorem qin {S : List Ed} (ok : BkS S) : (qab S).Nodup :=
  List.Pairwise.imp (fun {a b} (k : q9k a b) (e : a = b) => q95 b (by rw [e] at k; exact k)) (qah ok)
theorem q8m {S : List Ed} {e x : Ed} : x ∈ insR q4g e S ↔ x = e ∨ x ∈ S := by
  rw [(q8v q4g e S).mem_iff, List.mem_cons]
theorem last_one {S : List Ed} (ok : BkS S) {e : Ed} (hg : q8g e = true) (h8 : e.seen.length = 8) (hl : S.length < 500) (hk : e.kind = 1)
    (hm : ∀ x ∈ S, x.con = e.con → x.fld = e.fld → x.n ≤ e.seen.getD x.dev.toNat 0) (hnew : ∀ x ∈ S, ¬ qgr x e) (hs : ∀ x ∈ S, hasV x.seen e.dev e.n = false) :
    addB S e = (insR q4g e S, 0) ∧ BkS (insR q4g e S) ∧ allB (insR q4g e S) e.con e.fld = [e.val] := by
  have h1 := addB_new hg hnew hl
  have ok2 : BkS (insR q4g e S) := by have := addB_ok ok h8 (e := e); rwa [h1] at this
  refine ⟨h1, ok2, ?_⟩
  have hmem : ∀ x, x ∈ (qab (insR q4g e S)).filter (fun x => decide (x.con = e.con) && decide (x.fld = e.fld)) ↔ x = e := fun x => by
    rw [List.mem_filter, qf6, Bool.and_eq_true, decide_eq_true_eq, decide_eq_true_eq]
    constructor
    · rintro ⟨⟨hx, hk1, ho⟩, hc, hf⟩
      rcases q8m.1 hx with h | h
      · exact h
      · exfalso
        have hq := ho e (q8m.2 (.inl rfl))
        have g := goodP.1 (ok.good x h)
        have : q85 e x = true := qja.2 ⟨hk1, qgy.2 ⟨⟨g.d0, g.d8⟩, g.n1, hm x h hc hf⟩, hc.symm, .inr ⟨hk, hf.symm⟩⟩
        rw [hq] at this; cases this
    · rintro rfl
      refine ⟨⟨q8m.2 (.inl rfl), hk, fun a ha => ?_⟩, rfl, rfl⟩
      rcases q8m.1 ha with h | h
      · rw [h]; exact qkx hg
      · exact over_not (hs a h)
  unfold allB
  rw [all_one ((qin ok2).filter _) ((hmem e).2 rfl) fun x hx => (hmem x).1 hx]
  rfl
end Go.Bb
namespace Go.Bb
set_option linter.unusedSimpArgs false
set_option linter.unusedVariables false
def atF (con fld : Str) (x : Ed) : Bool := decide (x.con = con) && decide (x.fld = fld)
theorem atF_iff {con fld : Str} {x : Ed} : atF con fld x = true ↔ x.con = con ∧ x.fld = fld := by simp [atF]
def qhf (S : List Ed) (con fld : Str) : List Ed := (qab S).filter (atF con fld)
theorem qm2 (S : List Ed) (con fld : Str) : allB S con fld = (qhf S con fld).map (·.val) := rfl
theorem qdp {S : List Ed} (ok : BkS S) (con fld : Str) : (qhf S con fld).Pairwise q9k := (qah ok).sublist List.filter_sublist
theorem qc2 {S : List Ed} {con fld : Str} {x : Ed} : x ∈ qhf S con fld ↔ (x ∈ S ∧ x.kind = 1 ∧ ∀ a ∈ S, q85 a x = false) ∧ x.con = con ∧ x.fld = fld := by
  unfold qhf
  rw [List.mem_filter, qf6, atF_iff]
theorem qj8 {S T : List Ed} (ok : BkS S) (ok2 : BkS T) {con fld : Str} (h : ∀ x, x ∈ qhf S con fld → x ∈ qhf T con fld) : (qhf S con fld).Sublist (qhf T con fld) :=
  qcu q95 (fun x y z => @q9x x y z) (qdp ok2 con fld) (qdp ok con fld) h
theorem qjn {S : List Ed} (ok : BkS S) {e : Ed} (okT : BkS (insR q4g e S)) (hk : e.kind = 1) {con fld : Str} (h : e.fld ≠ fld) :
    allB (insR q4g e S) con fld = allB S con fld := by
  rw [qm2, qm2]
  have h1 := qj8 (con := con) (fld := fld) okT ok fun x hx => by
    obtain ⟨⟨h1, h2, h3⟩, h4, h5⟩ := qc2.1 hx
    rcases q8m.1 h1 with k | k
    · subst k; exact absurd h5 h
    · exact qc2.2 ⟨⟨k, h2, fun a ha => h3 a (q8m.2 (.inr ha))⟩, h4, h5⟩
  have h2 := qj8 (con := con) (fld := fld) ok okT fun x hx => by
    obtain ⟨⟨h1, h2, h3⟩, h4, h5⟩ := qc2.1 hx
    refine qc2.2 ⟨⟨q8m.2 (.inr h1), h2, fun a ha => ?_⟩, h4, h5⟩
    rcases q8m.1 ha with k | k
    · subst k
      rw [← Bool.not_eq_true, qja]
      rintro ⟨-, -, -, q | q⟩
      · omega
      · exact h (q.2.trans h5)
    · exact h3 a k
  rw [h1.eq_of_length (Nat.le_antisymm h1.length_le h2.length_le)]
end Go.Bb
namespace Go.Bb
set_option linter.unusedSimpArgs false
set_option linter.unusedVariables false
def vecI (d i : Nat) : List Int := (List.replicate 8 (0 : Int)).set d i
theorem q9r (d i : Nat) : (vecI d i).length = 8 := by simp [vecI]
theorem qeg {d : Nat} (i : Nat) (hd : d < 8) : (vecI d i)[d]? = some (i : Int) := by simp [vecI, hd]
theorem vecI_mem {d i : Nat} {x : Int} (h : x ∈ vecI d i) : x = 0 ∨ x = i := by
  unfold vecI at h
  rcases List.mem_or_eq_of_mem_set h with h | h
  · exact .inl (List.mem_replicate.1 h).2
  · exact .inr h
def q9b (f : Nat) : Str := [97 + UInt8.ofNat f]
theorem qk1 {f g : Nat} (hf : f < 4) (hg : g < 4) (h : q9b f = q9b g) : f = g := by
  have : ∀ f g : Fin 4, q9b f = q9b g → f = g := by decide
  have := this ⟨f, hf⟩ ⟨g, hg⟩ h
  simpa using this
theorem qis {f : Nat} (hf : f < 4) : qd0 (q9b f) = true := by
  have : ∀ f : Fin 4, qd0 (q9b f) = true := by decide
  exact this ⟨f, hf⟩
def edN (d i f : Nat) (val : Str) : Ed := ⟨d, i + 1, vecI d i, 1, [99], q9b f, val, i⟩
structure NxS (d i : Nat) (S : List Ed) (last : List Str) (had : List Bool) : Prop where
  ok : BkS S
  len : S.length = i
  dev : ∀ x ∈ S, x.dev = d ∧ x.n ≤ i
  has : Has1 S d i
  l4 : last.length = 4
  h4 : had.length = 4
  all : ∀ f : Nat, f < 4 → allB S [99] (q9b f) = if had.getD f false then [last.getD f []] else []
theorem NxS.nil (d : Nat) : NxS d 0 [] (List.replicate 4 []) (List.replicate 4 false) :=
  ⟨BkS.nil, rfl, by simp, fun j h1 h2 => by omega, rfl, rfl, fun f hf => by
    have : (List.replicate 4 false).getD f false = false := by
      unfold List.getD
      rw [List.getElem?_replicate, if_pos hf]; rfl
    rw [this]; rfl⟩
theorem NxS.vec {d i : Nat} {S : List Ed} {last : List Str} {had : List Bool} (s : NxS d i S last had) (hd : d < 8) : VecOf S (vecI d i) := by
  refine ⟨q9r d i, fun k hk => ?_⟩
  by_cases e : k = d
  · subst e
    refine ⟨i, qeg i hk, s.has, fun x hx => ?_⟩
    have := (s.dev x hx).2
    omega
  · refine ⟨0, by unfold vecI; rw [List.getElem?_set, if_neg (Ne.symm e), List.getElem?_replicate, if_pos hk]; rfl, fun j h1 h2 => by omega, fun x hx => ?_⟩
    have := (s.dev x hx).1
    omega
theorem edN_good {d i f : Nat} {val : Str} (hd : d < 8) (hi : i < 1000) (hf : f < 4) (hv : val.length ≤ 200) : q8g (edN d i f val) = true := by
  refine goodP.2 ⟨by simp [edN], by simp [edN]; omega, by simp [edN]; omega, by simp [edN]; omega, ?_, ?_, by simp [edN], by simp [edN]; omega, by show qd0 [99] = true; decide, .inl ⟨rfl, qis hf, hv⟩⟩
  · unfold vecG
    rw [List.all_eq_true]
    intro x hx
    rw [decide_eq_true_iff]
    rcases vecI_mem hx with h | h <;> omega
  · simp only [edN, Int.toNat_natCast]
    rw [qeg i hd]
    congr 1
    omega
theorem NxS.step {d i f : Nat} {S : List Ed} {last : List Str} {had : List Bool} (s : NxS d i S last had) (hd : d < 8) (hi : i < 400) (hf : f < 4) {val : Str} (hv : val.length ≤ 200) :
    addB S (edN d i f val) = (insR q4g (edN d i f val) S, 0) ∧ NxS d (i + 1) (insR q4g (edN d i f val) S) (last.set f val) (had.set f true) := by
  have hg := edN_good hd (by omega : i < 1000) hf hv
  have hlast := last_one s.ok hg (q9r d i) (by rw [s.len]; omega) rfl (fun x hx _ _ => by
      have h1 := s.dev x hx
      show x.n ≤ (vecI d i).getD x.dev.toNat 0
      rw [h1.1, Int.toNat_natCast, qgz (qeg i hd)]
      exact h1.2)
    (fun x hx h => by
      have h1 := s.dev x hx
      have := h.2
      simp only [edN] at this
      omega)
    (fun x hx => by
      have h1 := s.dev x hx
      have g := goodP.1 (s.ok.good x hx)
      have ho := g.own
      rw [h1.1] at ho
      rw [← Bool.not_eq_true, qgy]
      show ¬ (_ ∧ _ ∧ ((i : Int) + 1) ≤ x.seen.getD ((d : Int).toNat) 0)
      rw [qgz ho]
      omega)
  obtain ⟨h1, h2, h3⟩ := hlast
  refine ⟨h1, h2, by rw [(q8v q4g _ S).length_eq, List.length_cons, s.len], fun x hx => ?_, fun j h4 h5 => ?_, by rw [List.length_set]; exact s.l4, by rw [List.length_set]; exact s.h4, fun g hg4 => ?_⟩
  · rcases q8m.1 hx with h | h
    · rw [h]; simp [edN]
    · have := s.dev x h
      refine ⟨this.1, by omega⟩
  · by_cases e : j = i + 1
    · exact ⟨_, q8m.2 (.inl rfl), rfl, by rw [e]; simp [edN]⟩
    · obtain ⟨x, hx, hq⟩ := s.has j h4 (by omega)
      exact ⟨x, q8m.2 (.inr hx), hq⟩
  · by_cases e : g = f
    · subst e
      have e1 : (had.set g true).getD g false = true := by simp [List.getD, s.h4, hg4]
      have e2 : (last.set g val).getD g [] = val := by simp [List.getD, s.l4, hg4]
      rw [e1, e2]
      exact h3
    · have e1 : (had.set f true).getD g false = had.getD g false := by simp [List.getD, List.getElem?_set, Ne.symm e]
      have e2 : (last.set f val).getD g [] = last.getD g [] := by simp [List.getD, List.getElem?_set, Ne.symm e]
      rw [e1, e2, ← s.all g hg4]
      exact qjn s.ok h2 rfl (fun h => e (qk1 hg4 hf h.symm))
end Go.Bb
namespace Go.Bb
set_option linter.unusedSimpArgs false
set_option linter.unusedVariables false
set_option maxRecDepth 20000
set_option maxHeartbeats 2000000
open Go.MapKept
theorem dv_store (G : Heap) {p q : Nat} (hp : G p = none) (hq : (G.set p (.own 0 [Value.int .i64 0, .int .i64 0] 2)) q = none) (d n : Int) (v : List Int) (h8 : v.length = 8) :
    q5x ((G.set p (.own 0 [Value.int .i64 0, .int .i64 0] 2)).set q (.own 0 (List.replicate 8 (Value.int .i64 0)) 8)) 2 (.pointer (some ⟨p, 0, none⟩)) (dotK d n) = some ((G.set p (.own 0 [Value.int .i64 d, .int .i64 n] 2)).set q (.own 0 (List.replicate 8 (Value.int .i64 0)) 8)) ∧
    q5x ((G.set p (.own 0 [Value.int .i64 d, .int .i64 n] 2)).set q (.own 0 (List.replicate 8 (Value.int .i64 0)) 8)) 8 (.pointer (some ⟨q, 0, none⟩)) (.agg (v.map (.int .i64)).toArray) = some ((G.set p (.own 0 [Value.int .i64 d, .int .i64 n] 2)).set q (.own 0 (v.map (.int .i64)) 8)) ∧
    G.le ((G.set p (.own 0 [Value.int .i64 d, .int .i64 n] 2)).set q (.own 0 (v.map (.int .i64)) 8)) ∧
    ((G.set p (.own 0 [Value.int .i64 d, .int .i64 n] 2)).set q (.own 0 (v.map (.int .i64)) 8)) p = some (.own 0 [Value.int .i64 d, .int .i64 n] 2) ∧
    ((G.set p (.own 0 [Value.int .i64 d, .int .i64 n] 2)).set q (.own 0 (v.map (.int .i64)) 8)) q = some (.own 0 (v.map (.int .i64)) 8) ∧ G q = none := by
  have ne : p ≠ q := by intro e; subst e; rw [Heap.q02] at hq; cases hq
  have hq' : G q = none := by rw [Heap.q1e ne.symm] at hq; exact hq
  refine ⟨?_, z73 (by decide) (by simp [h8]) (by simp [Bb.one]) (by simp) (by decide), Heap.q0v (Heap.q0v (Heap.q0e _) hp _) hq' _, by rw [Heap.q1e ne, Heap.q02], Heap.q02 _ _ _, hq'⟩
  unfold dotK
  have := q8c (h := (G.set p (.own 0 [Value.int .i64 0, .int .i64 0] 2)).set q (.own 0 (List.replicate 8 (Value.int .i64 0)) 8)) (b := p) (vs := [Value.int .i64 0, .int .i64 0]) (sz := 2) (us := [Value.int .i64 d, .int .i64 n]) (size := 2) (by rw [Heap.q1e ne, Heap.q02]) (by decide) rfl rfl rfl (by decide)
  rw [this]
  congr 1
  funext c
  by_cases h1 : c = p
  · subst h1; rw [Heap.q02, Heap.q1e ne, Heap.q02]
  · rw [Heap.q1e h1]
    by_cases h2 : c = q
    · subst h2; rw [Heap.q02, Heap.q02]
    · rw [Heap.q1e h2, Heap.q1e h2, Heap.q1e h1, Heap.q1e h1]
theorem withV_eq {o : Option Value} {v : Value} {K : Value → Heap → Prop} {h : Heap} (e : o = some v) (k : q0b (some v) K h) : q0b o K h := by rw [e]; exact k
theorem len8 {α : Type} {l : List α} (h : l.length = 8) : ∃ a b c d e f g i, l = [a, b, c, d, e, f, g, i] := by
  match l, h with
  | [a, b, c, d, e, f, g, i], _ => exact ⟨a, b, c, d, e, f, g, i, rfl⟩
theorem ok_texts {W : World} {v : Value} (h : Shp.ok W (.slice 1 .str) v) : ∃ L : List Str, SlS (qa9 W) v L ∧ L.length ≤ 9223372036854775807 ∧ ∀ s ∈ L, s.length ≤ 9223372036854775807 := by
  obtain ⟨L, h1, h2, h3⟩ := Shp.qm4 (f := fun s : Str => [strV s]) (Pr := fun s => s.length ≤ 9223372036854775807) (fun _ => rfl) (fun l hl => by
    obtain ⟨s, rfl, hs⟩ := hl
    exact ⟨s.data.toList, by simp [strV], by simpa using hs⟩) h
  refine ⟨L, ?_, h2, h3⟩
  rw [q48] at h1
  exact h1
end Go.Bb
namespace Go.Bb
set_option linter.unusedSimpArgs false
set_option linter.unusedVariables false
set_option maxRecDepth 20000
set_option maxHeartbeats 2000000
open Go.MapKept
theorem SlB.cellB {H : Heap} {v : Value} {L : List UInt8} (s : SlB H v L) (i : Nat) (hi : i < L.length) :
    ∃ b o c, v = .slice (some ⟨b, o, none⟩) L.length c ∧ ∀ G, H.le G → q1r G ⟨b, o + i, none⟩ = some (.int .u8 L[i].toNat) := by
  unfold SlB at s
  rw [← q48 u8V L] at s
  obtain ⟨b, o, c, h1, h2, h3⟩ := Sl.at (f := fun s => [u8V s]) (fun _ => rfl) s i hi (by decide)
  refine ⟨b, o, c, h1, fun G le => ?_⟩
  have h4 := qeh (h3 G le) 0 Nat.zero_lt_one
  simp only [List.getElem?_cons_zero, Nat.mul_one, Nat.add_zero] at h4
  exact h4
theorem u8_a3 (b : UInt8) : IntKind.u8.wrap ((BitVec.ofInt IntKind.u8.bits (b.toNat : Int) &&& BitVec.ofInt IntKind.u8.bits 3).toNat : Int) = ((b &&& 3).toNat : Int) := u8_and b 3
theorem u8_lt4 (b : UInt8) : (b &&& 3).toNat < 4 := by
  rw [UInt8.toNat_and]
  have := Nat.and_le_right (n := b.toNat) (m := (3 : UInt8).toNat)
  have e : (3 : UInt8).toNat = 3 := rfl
  omega
structure NxH (G : Heap) (bl bh : Nat) (last : List Str) (had : List Bool) : Prop where
  ql : G bl = some (.own 0 (last.map strV) 4)
  qh : G bh = some (.own 0 (had.map .bool) 4)
theorem NxH.le {G G' : Heap} {bl bh : Nat} {last : List Str} {had : List Bool} (x : NxH G bl bh last had) (le : G.le G') : NxH G' bl bh last had := ⟨le _ _ x.ql, le _ _ x.qh⟩
theorem NxH.keep {G G' : Heap} {bl bh q : Nat} {last : List Str} {had : List Bool} (x : NxH G bl bh last had) (k : Keep q G G') (h1 : bl ≠ q) (h2 : bh ≠ q) : NxH G' bl bh last had := ⟨k _ _ x.ql h1, k _ _ x.qh h2⟩
theorem qa8 (E : EnvT tab) (K : BkOk E) (W : World) {v0 v1 v2 : Value} (s0 : Shp.ok W (.slice 1 (.int .u8)) v0) (s1 : Shp.ok W (.slice 1 .str) v1) (s2 : Shp.ok W (.int .i64) v2) :
    ACallN E.toEnv q9w [v0, v1, v2] (qa9 W) fun v _ => v = .bool true := by
  obtain ⟨F, sF, hF⟩ := ok_bytes s0
  obtain ⟨V, sV, hV, aV⟩ := ok_texts s1
  obtain ⟨dev, rfl, hd1, hd2⟩ := Shp.ok_int s2
  generalize qa9 W = H at sF sV
  obtain ⟨base, c, rfl⟩ := sF.shape
  obtain ⟨base2, c2, rfl⟩ := sV.shape
  refine q3s q41 q1o rfl rfl (q01 ?_)
  unfold q1o
  simp -implicitDefEqProofs only [zA,reduceIte,reduceCtorEq,Nat.reduceEqDiff,Nat.reduceAdd,Nat.reduceMul,Nat.reduceLT,Nat.reduceSub,Int.reduceLT,Int.reduceLE,Int.reduceEq,Int.reduceNe,Int.reduceSub,Int.reduceAdd,Int.reduceMul,Int.reduceBEq,Int.reduceBNe,Int.reduceGT,Int.reduceGE,Nat.reduceGT,Int.reduceToNat,Int.reduceNeg,Nat.reduceLeDiff,Nat.reduceBEq,Nat.reduceBneDiff]
  unfold q55
  simp -implicitDefEqProofs only [zA,reduceIte,reduceCtorEq,Nat.reduceEqDiff,Nat.reduceAdd,Nat.reduceMul,Nat.reduceLT,Nat.reduceSub,Int.reduceLT,Int.reduceLE,Int.reduceEq,Int.reduceNe,Int.reduceSub,Int.reduceAdd,Int.reduceMul,Int.reduceBEq,Int.reduceBNe,Int.reduceGT,Int.reduceGE,Nat.reduceGT,Int.reduceToNat,Int.reduceNeg,Nat.reduceLeDiff,Nat.reduceBEq,Nat.reduceBneDiff]
  refine (qgw E K H).mono ?_
  rintro v H0 ⟨le0, rfl⟩
  by_cases g1 : (30 : Int) < F.length
  · simp -implicitDefEqProofs only [zA,reduceIte,reduceCtorEq,Nat.reduceEqDiff,Nat.reduceAdd,Nat.reduceMul,Nat.reduceLT,Nat.reduceSub,Int.reduceLT,Int.reduceLE,Int.reduceEq,Int.reduceNe,Int.reduceSub,Int.reduceAdd,Int.reduceMul,Int.reduceBEq,Int.reduceBNe,Int.reduceGT,Int.reduceGE,Nat.reduceGT,Int.reduceToNat,Int.reduceNeg,Nat.reduceLeDiff,Nat.reduceBEq,Nat.reduceBneDiff,g1]
  by_cases g2 : (V.length : Int) < F.length
  · simp -implicitDefEqProofs only [zA,reduceIte,reduceCtorEq,Nat.reduceEqDiff,Nat.reduceAdd,Nat.reduceMul,Nat.reduceLT,Nat.reduceSub,Int.reduceLT,Int.reduceLE,Int.reduceEq,Int.reduceNe,Int.reduceSub,Int.reduceAdd,Int.reduceMul,Int.reduceBEq,Int.reduceBNe,Int.reduceGT,Int.reduceGE,Nat.reduceGT,Int.reduceToNat,Int.reduceNeg,Nat.reduceLeDiff,Nat.reduceBEq,Nat.reduceBneDiff,g1,g2]
  by_cases g3 : dev < 0
  · simp -implicitDefEqProofs only [zA,reduceIte,reduceCtorEq,Nat.reduceEqDiff,Nat.reduceAdd,Nat.reduceMul,Nat.reduceLT,Nat.reduceSub,Int.reduceLT,Int.reduceLE,Int.reduceEq,Int.reduceNe,Int.reduceSub,Int.reduceAdd,Int.reduceMul,Int.reduceBEq,Int.reduceBNe,Int.reduceGT,Int.reduceGE,Nat.reduceGT,Int.reduceToNat,Int.reduceNeg,Nat.reduceLeDiff,Nat.reduceBEq,Nat.reduceBneDiff,g1,g2,g3]
  by_cases g4 : 7 < dev
  · simp -implicitDefEqProofs only [zA,reduceIte,reduceCtorEq,Nat.reduceEqDiff,Nat.reduceAdd,Nat.reduceMul,Nat.reduceLT,Nat.reduceSub,Int.reduceLT,Int.reduceLE,Int.reduceEq,Int.reduceNe,Int.reduceSub,Int.reduceAdd,Int.reduceMul,Int.reduceBEq,Int.reduceBNe,Int.reduceGT,Int.reduceGE,Nat.reduceGT,Int.reduceToNat,Int.reduceNeg,Nat.reduceLeDiff,Nat.reduceBEq,Nat.reduceBneDiff,g1,g2,g3,g4]
  simp -implicitDefEqProofs only [zA,reduceIte,reduceCtorEq,Nat.reduceEqDiff,Nat.reduceAdd,Nat.reduceMul,Nat.reduceLT,Nat.reduceSub,Int.reduceLT,Int.reduceLE,Int.reduceEq,Int.reduceNe,Int.reduceSub,Int.reduceAdd,Int.reduceMul,Int.reduceBEq,Int.reduceBNe,Int.reduceGT,Int.reduceGE,Nat.reduceGT,Int.reduceToNat,Int.reduceNeg,Nat.reduceLeDiff,Nat.reduceBEq,Nat.reduceBneDiff,g1,g2,g3,g4]
  unfold q54
  simp -implicitDefEqProofs only [zA,reduceIte,reduceCtorEq,Nat.reduceEqDiff,Nat.reduceAdd,Nat.reduceMul,Nat.reduceLT,Nat.reduceSub,Int.reduceLT,Int.reduceLE,Int.reduceEq,Int.reduceNe,Int.reduceSub,Int.reduceAdd,Int.reduceMul,Int.reduceBEq,Int.reduceBNe,Int.reduceGT,Int.reduceGE,Nat.reduceGT,Int.reduceToNat,Int.reduceNeg,Nat.reduceLeDiff,Nat.reduceBEq,Nat.reduceBneDiff]
  refine (qgj E H0).mono ?_
  rintro v H1 ⟨le1, ba, ra, rfl, nba, nra, A1⟩
  simp -implicitDefEqProofs only [zA,reduceIte,reduceCtorEq,Nat.reduceEqDiff,Nat.reduceAdd,Nat.reduceMul,Nat.reduceLT,Nat.reduceSub,Int.reduceLT,Int.reduceLE,Int.reduceEq,Int.reduceNe,Int.reduceSub,Int.reduceAdd,Int.reduceMul,Int.reduceBEq,Int.reduceBNe,Int.reduceGT,Int.reduceGE,Nat.reduceGT,Int.reduceToNat,Int.reduceNeg,Nat.reduceLeDiff,Nat.reduceBEq,Nat.reduceBneDiff]
  intro bl hbl
  try simp -implicitDefEqProofs only [zA,reduceIte,reduceCtorEq,Nat.reduceEqDiff,Nat.reduceAdd,Nat.reduceMul,Nat.reduceLT,Nat.reduceSub,Int.reduceLT,Int.reduceLE,Int.reduceEq,Int.reduceNe,Int.reduceSub,Int.reduceAdd,Int.reduceMul,Int.reduceBEq,Int.reduceBNe,Int.reduceGT,Int.reduceGE,Nat.reduceGT,Int.reduceToNat,Int.reduceNeg,Nat.reduceLeDiff,Nat.reduceBEq,Nat.reduceBneDiff]
  intro bh hbh
  try simp -implicitDefEqProofs only [zA,reduceIte,reduceCtorEq,Nat.reduceEqDiff,Nat.reduceAdd,Nat.reduceMul,Nat.reduceLT,Nat.reduceSub,Int.reduceLT,Int.reduceLE,Int.reduceEq,Int.reduceNe,Int.reduceSub,Int.reduceAdd,Int.reduceMul,Int.reduceBEq,Int.reduceBNe,Int.reduceGT,Int.reduceGE,Nat.reduceGT,Int.reduceToNat,Int.reduceNeg,Nat.reduceLeDiff,Nat.reduceBEq,Nat.reduceBneDiff]
  have nhl : bh ≠ bl := by intro e; subst e; rw [Heap.q02] at hbh; cases hbh
  have hbh' : H1 bh = none := by rw [Heap.q1e nhl] at hbh; exact hbh
  obtain ⟨d1, d2⟩ := A1.apart hbl
  obtain ⟨d3, d4⟩ := A1.apart hbh'
  have leH := Heap.q07 le0 le1
  have fra : H ra = none := Heap.q1g le0 nra
  have fbl : H bl = none := Heap.q1g leH hbl
  have fbh : H bh = none := Heap.q1g leH hbh'
  have N2 : NxH ((H1.set bl (.own 0 [.string .empty, .string .empty, .string .empty, .string .empty] 4)).set bh (.own 0 [.bool false, .bool false, .bool false, .bool false] 4)) bl bh (List.replicate 4 []) (List.replicate 4 false) := ⟨by rw [Heap.q1e nhl.symm, Heap.q02]; rfl, by rw [Heap.q02]; rfl⟩
  have le2 : H1.le ((H1.set bl (.own 0 [.string .empty, .string .empty, .string .empty, .string .empty] 4)).set bh (.own 0 [.bool false, .bool false, .bool false, .bool false] 4)) := Heap.q0v (Heap.q0v (Heap.q0e _) hbl _) hbh' _
  have A2 := A1.le le2
  have leH2 := Heap.q07 leH le2
  generalize ((H1.set bl (.own 0 [.string .empty, .string .empty, .string .empty, .string .empty] 4)).set bh (.own 0 [.bool false, .bool false, .bool false, .bool false] 4)) = H2 at N2 le2 A2 leH2 ⊢
  have hd0 : ((dev.toNat : Nat) : Int) = dev := by omega
  have hd8 : dev.toNat < 8 := by omega
  refine q3j (fun m t G => ∃ (i : Nat) (S : List Ed) (last : List Str) (had : List Bool), t = tl [(0, .slice base F.length c), (1, .slice base2 V.length c2), (2, .int .i64 dev), (7, .pointer (some ⟨ba, 0, none⟩)), (8, .pointer (some ⟨bl, 0, none⟩)), (9, .pointer (some ⟨bh, 0, none⟩)), (10, .int .i64 i)] ∧ i ≤ F.length ∧ m = F.length - i ∧ H.le G ∧ BookAt G ba ra S ∧ NxH G bl bh last had ∧ NxS dev.toNat i S last had) F.length
    ⟨0, [], _, _, rfl, by omega, by omega, leH2, A2, N2, NxS.nil _⟩ ?_
  rintro m t G ⟨i, S, last, had, rfl, hi, rfl, le, A, N, X⟩
  by_cases hlt : i < F.length
  · have hltV : i < V.length := by omega
    have hi1 : (i : Int) < F.length := by omega
    have hi2 : (0 : Int) ≤ i := by omega
    have hi3 : (i : Int) < V.length := by omega
    have w1 : IntKind.i64.wrap ((i : Int) + 1) = ((i + 1 : Nat) : Int) := qcs (by omega)
    obtain ⟨x1, o1, c1', e1, k1⟩ := sF.cellB i hlt
    simp only [Value.slice.injEq, true_and] at e1
    obtain ⟨rfl, rfl⟩ := e1
    obtain ⟨x2, o2, c2', e2, k2⟩ := SlS.cell sV i hltV
    simp only [Value.slice.injEq, true_and] at e2
    obtain ⟨rfl, rfl⟩ := e2
    have k1' := k1 _ le
    have k2' := qei le k2
    have v2 : strV V[i] = .string ⟨V[i].toArray⟩ := rfl
    have z2 := qet V[i]
    simp -implicitDefEqProofs only [zA,reduceIte,reduceCtorEq,Nat.reduceEqDiff,Nat.reduceAdd,Nat.reduceMul,Nat.reduceLT,Nat.reduceSub,Int.reduceLT,Int.reduceLE,Int.reduceEq,Int.reduceNe,Int.reduceSub,Int.reduceAdd,Int.reduceMul,Int.reduceBEq,Int.reduceBNe,Int.reduceGT,Int.reduceGE,Nat.reduceGT,Int.reduceToNat,Int.reduceNeg,Nat.reduceLeDiff,Nat.reduceBEq,Nat.reduceBneDiff,hi1]
    unfold q53
    by_cases g5 : (200 : Int) < V[i].length
    · simp -implicitDefEqProofs only [zA,reduceIte,reduceCtorEq,Nat.reduceEqDiff,Nat.reduceAdd,Nat.reduceMul,Nat.reduceLT,Nat.reduceSub,Int.reduceLT,Int.reduceLE,Int.reduceEq,Int.reduceNe,Int.reduceSub,Int.reduceAdd,Int.reduceMul,Int.reduceBEq,Int.reduceBNe,Int.reduceGT,Int.reduceGE,Nat.reduceGT,Int.reduceToNat,Int.reduceNeg,Nat.reduceLeDiff,Nat.reduceBEq,Nat.reduceBneDiff,hi2,hi3,Int.toNat_natCast,k2',v2,z2,g5]
    have hval : V[i].length ≤ 200 := by omega
    simp -implicitDefEqProofs only [zA,reduceIte,reduceCtorEq,Nat.reduceEqDiff,Nat.reduceAdd,Nat.reduceMul,Nat.reduceLT,Nat.reduceSub,Int.reduceLT,Int.reduceLE,Int.reduceEq,Int.reduceNe,Int.reduceSub,Int.reduceAdd,Int.reduceMul,Int.reduceBEq,Int.reduceBNe,Int.reduceGT,Int.reduceGE,Nat.reduceGT,Int.reduceToNat,Int.reduceNeg,Nat.reduceLeDiff,Nat.reduceBEq,Nat.reduceBneDiff,hi2,hi3,Int.toNat_natCast,k2',v2,z2,g5]
    refine (qix E A dev).mono ?_
    rintro v G1 ⟨le1', hx, -⟩
    obtain ⟨v7, k7, hv7, hk7, rfl⟩ := hx ⟨by omega, by omega⟩
    have e7 := hv7.eq (X.vec hd8)
    subst e7
    rw [qeg i hd8] at hk7
    simp only [Option.some.injEq] at hk7
    subst hk7
    have A1' := A.le le1'
    have N1 := N.le le1'
    simp -implicitDefEqProofs only [zA,reduceIte,reduceCtorEq,Nat.reduceEqDiff,Nat.reduceAdd,Nat.reduceMul,Nat.reduceLT,Nat.reduceSub,Int.reduceLT,Int.reduceLE,Int.reduceEq,Int.reduceNe,Int.reduceSub,Int.reduceAdd,Int.reduceMul,Int.reduceBEq,Int.reduceBNe,Int.reduceGT,Int.reduceGE,Nat.reduceGT,Int.reduceToNat,Int.reduceNeg,Nat.reduceLeDiff,Nat.reduceBEq,Nat.reduceBneDiff]
    intro p hp
    try simp -implicitDefEqProofs only [zA,reduceIte,reduceCtorEq,Nat.reduceEqDiff,Nat.reduceAdd,Nat.reduceMul,Nat.reduceLT,Nat.reduceSub,Int.reduceLT,Int.reduceLE,Int.reduceEq,Int.reduceNe,Int.reduceSub,Int.reduceAdd,Int.reduceMul,Int.reduceBEq,Int.reduceBNe,Int.reduceGT,Int.reduceGE,Nat.reduceGT,Int.reduceToNat,Int.reduceNeg,Nat.reduceLeDiff,Nat.reduceBEq,Nat.reduceBneDiff]
    intro q hq
    try simp -implicitDefEqProofs only [zA,reduceIte,reduceCtorEq,Nat.reduceEqDiff,Nat.reduceAdd,Nat.reduceMul,Nat.reduceLT,Nat.reduceSub,Int.reduceLT,Int.reduceLE,Int.reduceEq,Int.reduceNe,Int.reduceSub,Int.reduceAdd,Int.reduceMul,Int.reduceBEq,Int.reduceBNe,Int.reduceGT,Int.reduceGE,Nat.reduceGT,Int.reduceToNat,Int.reduceNeg,Nat.reduceLeDiff,Nat.reduceBEq,Nat.reduceBneDiff,List.length_replicate]
    obtain ⟨s1', s2', le8, qp, qq, hq'⟩ := dv_store G1 hp hq dev ((i : Int) + 1) (vecI dev.toNat i) (q9r _ _)
    have k1s := k1 _ (Heap.q07 le (Heap.q07 le1' le8))
    have k2s := qei (Heap.q07 le1' le8) k2'
    have a3 := u8_a3 F[i]
    have f4 := u8_lt4 F[i]
    try simp -implicitDefEqProofs only [zA,reduceIte,reduceCtorEq,Nat.reduceEqDiff,Nat.reduceAdd,Nat.reduceMul,Nat.reduceLT,Nat.reduceSub,Int.reduceLT,Int.reduceLE,Int.reduceEq,Int.reduceNe,Int.reduceSub,Int.reduceAdd,Int.reduceMul,Int.reduceBEq,Int.reduceBNe,Int.reduceGT,Int.reduceGE,Nat.reduceGT,Int.reduceToNat,Int.reduceNeg,Nat.reduceLeDiff,Nat.reduceBEq,Nat.reduceBneDiff,s1',s2',hi1,hi2,Int.toNat_natCast,k1s,a3]
    have A8 := A1'.le le8
    have N8 := N1.le le8
    have lp : q09 ((G1.set p (.own 0 [Value.int .i64 dev, .int .i64 ((i : Int) + 1)] 2)).set q (.own 0 ((vecI dev.toNat i).map (.int .i64)) 8)) ⟨p, 0, none⟩ 2 = some [Value.int .i64 dev, .int .i64 ((i : Int) + 1)] := by rw [q7k qp (by simp)]; rfl
    have lq : q09 ((G1.set p (.own 0 [Value.int .i64 dev, .int .i64 ((i : Int) + 1)] 2)).set q (.own 0 ((vecI dev.toNat i).map (.int .i64)) 8)) ⟨q, 0, none⟩ 8 = some ((vecI dev.toNat i).map (.int .i64)) := by
      rw [q7k qq (by simp [q9r])]
      simp [q9r, List.take_of_length_le]
    generalize ((G1.set p (.own 0 [Value.int .i64 dev, .int .i64 ((i : Int) + 1)] 2)).set q (.own 0 ((vecI dev.toNat i).map (.int .i64)) 8)) = H8 at le8 lp lq A8 N8 k1s k2s ⊢
    generalize (F[i] &&& 3).toNat = f at a3 f4 ⊢
    have w97 : IntKind.u8.wrap (97 + (f : Int)) = ((97 + UInt8.ofNat f).toNat : Int) := by
      have : ∀ f : Fin 4, IntKind.u8.wrap (97 + ((f : Nat) : Int)) = ((97 + UInt8.ofNat f).toNat : Int) := by decide
      exact this ⟨f, f4⟩
    unfold q52
    simp -implicitDefEqProofs only [zA,reduceIte,reduceCtorEq,Nat.reduceEqDiff,Nat.reduceAdd,Nat.reduceMul,Nat.reduceLT,Nat.reduceSub,Int.reduceLT,Int.reduceLE,Int.reduceEq,Int.reduceNe,Int.reduceSub,Int.reduceAdd,Int.reduceMul,Int.reduceBEq,Int.reduceBNe,Int.reduceGT,Int.reduceGE,Nat.reduceGT,Int.reduceToNat,Int.reduceNeg,Nat.reduceLeDiff,Nat.reduceBEq,Nat.reduceBneDiff,lp,lq,w97,List.replicate_one,List.flatten_singleton]
    intro b6 hb6
    have so : qdq (H8.set b6 (.own 0 [.int .u8 (97 + UInt8.ofNat f).toNat] 1)) (.slice (some ⟨b6, 0, none⟩) 1 1) = some (strV (q9b f)) := qhh (l := q9b f) (Sl.lit (n := 1) rfl)
    have le6 := Heap.q0v (Heap.q0e H8) hb6 (.own 0 [.int .u8 (97 + UInt8.ofNat f).toNat] 1)
    have k2t := qei le6 k2s
    have sn : qdq H8 (.slice (some ⟨b6, 0, none⟩) 1 1) = none := by simp [qdq, q09, hb6]
    try simp -implicitDefEqProofs only [zA,reduceIte,reduceCtorEq,Nat.reduceEqDiff,Nat.reduceAdd,Nat.reduceMul,Nat.reduceLT,Nat.reduceSub,Int.reduceLT,Int.reduceLE,Int.reduceEq,Int.reduceNe,Int.reduceSub,Int.reduceAdd,Int.reduceMul,Int.reduceBEq,Int.reduceBNe,Int.reduceGT,Int.reduceGE,Nat.reduceGT,Int.reduceToNat,Int.reduceNeg,Nat.reduceLeDiff,Nat.reduceBEq,Nat.reduceBneDiff,sn,so,hi2,hi3,Int.toNat_natCast,k2t,k2s]
    have hst := X.step hd8 (by omega) f4 hval (i := i)
    obtain ⟨st1, st2⟩ := hst
    have hdv : ((dev.toNat : Nat) : Int) = dev := hd0
    refine withV_eq (v := edV (edN dev.toNat i f V[i])) ?_ ?_
    · have h8 := q9r dev.toNat i
      unfold edN
      rw [hdv]
      clear st1 st2 lp lq hv7 X
      generalize vecI dev.toNat i = vv at h8 ⊢
      obtain ⟨a0, a1, a2, a3, a4, a5, a6, a7, rfl⟩ := len8 h8
      rfl
    have e8 : (edN dev.toNat i f V[i]).seen.length = 8 := q9r _ _
    have en : (edN dev.toNat i f V[i]).n = (i : Int) + 1 := rfl
    have A6 := A8.le le6
    have N6 := N8.le le6
    have leX := Heap.q07 le (Heap.q07 le1' (Heap.q07 le8 le6))
    generalize (H8.set b6 (.own 0 [.int .u8 (97 + UInt8.ofNat f).toNat] 1)) = H9 at le6 A6 N6 leX ⊢
    simp -implicitDefEqProofs only [zA,reduceIte,reduceCtorEq,Nat.reduceEqDiff,Nat.reduceAdd,Nat.reduceMul,Nat.reduceLT,Nat.reduceSub,Int.reduceLT,Int.reduceLE,Int.reduceEq,Int.reduceNe,Int.reduceSub,Int.reduceAdd,Int.reduceMul,Int.reduceBEq,Int.reduceBNe,Int.reduceGT,Int.reduceGE,Nat.reduceGT,Int.reduceToNat,Int.reduceNeg,Nat.reduceLeDiff,Nat.reduceBEq,Nat.reduceBneDiff]
    refine (qdi E A6 (edN dev.toNat i f V[i]) e8 (by simp [edN]) (by simp [edN, q9b]) (by rw [en]; omega) (by rw [en]; omega)).mono ?_
    rintro v G10 ⟨rfl, B10, k10⟩
    rw [st1] at B10 ⊢
    have N10 := N6.keep k10 (fun e => d2 e.symm) (fun e => d4 e.symm)
    have le10 := Keep.fresh fra leX k10
    simp -implicitDefEqProofs only [zA,reduceIte,reduceCtorEq,Nat.reduceEqDiff,Nat.reduceAdd,Nat.reduceMul,Nat.reduceLT,Nat.reduceSub,Int.reduceLT,Int.reduceLE,Int.reduceEq,Int.reduceNe,Int.reduceSub,Int.reduceAdd,Int.reduceMul,Int.reduceBEq,Int.reduceBNe,Int.reduceGT,Int.reduceGE,Nat.reduceGT,Int.reduceToNat,Int.reduceNeg,Nat.reduceLeDiff,Nat.reduceBEq,Nat.reduceBneDiff,bne_self_eq_false]
    unfold q51
    have f0 : (0 : Int) ≤ f := by omega
    have f4' : (f : Int) < 4 := by omega
    have k2x := qei le10 k2
    have ll : (last.map strV).length = 4 := by rw [List.length_map]; exact X.l4
    have lh : (had.map Value.bool).length = 4 := by rw [List.length_map]; exact X.h4
    have t1 : q5x G10 1 (.pointer (some ⟨bl, f, none⟩)) (strV V[i]) = some (G10.set bl (.own 0 ((last.set f V[i]).map strV) 4)) := by
      rw [q9s N10.ql rfl (by omega) (by omega), List.map_set]
    have qh2 : (G10.set bl (.own 0 ((last.set f V[i]).map strV) 4)) bh = some (.own 0 (had.map .bool) 4) := by rw [Heap.q1e nhl]; exact N10.qh
    have t2 : q5x (G10.set bl (.own 0 ((last.set f V[i]).map strV) 4)) 1 (.pointer (some ⟨bh, f, none⟩)) (.bool true) = some ((G10.set bl (.own 0 ((last.set f V[i]).map strV) 4)).set bh (.own 0 ((had.set f true).map .bool) 4)) := by
      rw [q9s qh2 rfl (by omega) (by omega), List.map_set (l := had)]
    have kbl : Keep bl G10 (G10.set bl (.own 0 ((last.set f V[i]).map strV) 4)) := fun c x h n => by rw [Heap.q1e n]; exact h
    have kbh : Keep bh (G10.set bl (.own 0 ((last.set f V[i]).map strV) 4)) ((G10.set bl (.own 0 ((last.set f V[i]).map strV) 4)).set bh (.own 0 ((had.set f true).map .bool) 4)) := fun c x h n => by rw [Heap.q1e n]; exact h
    simp -implicitDefEqProofs only [zA,reduceIte,reduceCtorEq,Nat.reduceEqDiff,Nat.reduceAdd,Nat.reduceMul,Nat.reduceLT,Nat.reduceSub,Int.reduceLT,Int.reduceLE,Int.reduceEq,Int.reduceNe,Int.reduceSub,Int.reduceAdd,Int.reduceMul,Int.reduceBEq,Int.reduceBNe,Int.reduceGT,Int.reduceGE,Nat.reduceGT,Int.reduceToNat,Int.reduceNeg,Nat.reduceLeDiff,Nat.reduceBEq,Nat.reduceBneDiff,f0,f4',hi2,hi3,Int.toNat_natCast,k2x,t1,t2,w1]
    refine ⟨_, ?_, i + 1, _, last.set f V[i], had.set f true, rfl, by omega, rfl, Keep.fresh fbh (Keep.fresh fbl le10 kbl) kbh, (B10.keep kbl d1 d2).keep kbh d3 d4, ⟨?_, Heap.q02 _ _ _⟩, st2⟩
    · omega
    · rw [Heap.q1e nhl.symm, Heap.q02]
  · have hi1 : ¬ (i : Int) < F.length := by omega
    have q : i = F.length := by omega
    subst q
    simp -implicitDefEqProofs only [zA,reduceIte,reduceCtorEq,Nat.reduceEqDiff,Nat.reduceAdd,Nat.reduceMul,Nat.reduceLT,Nat.reduceSub,Int.reduceLT,Int.reduceLE,Int.reduceEq,Int.reduceNe,Int.reduceSub,Int.reduceAdd,Int.reduceMul,Int.reduceBEq,Int.reduceBNe,Int.reduceGT,Int.reduceGE,Nat.reduceGT,Int.reduceToNat,Int.reduceNeg,Nat.reduceLeDiff,Nat.reduceBEq,Nat.reduceBneDiff,hi1]
    unfold q56
    simp -implicitDefEqProofs only [zA,reduceIte,reduceCtorEq,Nat.reduceEqDiff,Nat.reduceAdd,Nat.reduceMul,Nat.reduceLT,Nat.reduceSub,Int.reduceLT,Int.reduceLE,Int.reduceEq,Int.reduceNe,Int.reduceSub,Int.reduceAdd,Int.reduceMul,Int.reduceBEq,Int.reduceBNe,Int.reduceGT,Int.reduceGE,Nat.reduceGT,Int.reduceToNat,Int.reduceNeg,Nat.reduceLeDiff,Nat.reduceBEq,Nat.reduceBneDiff]
    refine q3j (fun m t G' => ∃ f : Nat, t = tl [(0, .slice base F.length c), (7, .pointer (some ⟨ba, 0, none⟩)), (8, .pointer (some ⟨bl, 0, none⟩)), (9, .pointer (some ⟨bh, 0, none⟩)), (14, .int .i64 f)] ∧ f ≤ 4 ∧ m = 4 - f ∧ G.le G') 4
      ⟨0, rfl, by omega, by omega, Heap.q0e _⟩ ?_
    rintro m t G1 ⟨f, rfl, hf, rfl, leg⟩
    have A1g := A.le leg
    have N1g := N.le leg
    by_cases hf4 : f < 4
    · have f1 : (f : Int) < 4 := by omega
      have f0 : (0 : Int) ≤ f := by omega
      have w2 : IntKind.i64.wrap ((f : Int) + 1) = ((f + 1 : Nat) : Int) := qcs (by omega)
      have wu : IntKind.u8.wrap (f : Int) = f := by
        have : ∀ f : Fin 4, IntKind.u8.wrap ((f : Nat) : Int) = ((f : Nat) : Int) := by decide
        exact this ⟨f, hf4⟩
      have w97 : IntKind.u8.wrap (97 + (f : Int)) = ((97 + UInt8.ofNat f).toNat : Int) := by
        have : ∀ f : Fin 4, IntKind.u8.wrap (97 + ((f : Nat) : Int)) = ((97 + UInt8.ofNat f).toNat : Int) := by decide
        exact this ⟨f, hf4⟩
      simp -implicitDefEqProofs only [zA,reduceIte,reduceCtorEq,Nat.reduceEqDiff,Nat.reduceAdd,Nat.reduceMul,Nat.reduceLT,Nat.reduceSub,Int.reduceLT,Int.reduceLE,Int.reduceEq,Int.reduceNe,Int.reduceSub,Int.reduceAdd,Int.reduceMul,Int.reduceBEq,Int.reduceBNe,Int.reduceGT,Int.reduceGE,Nat.reduceGT,Int.reduceToNat,Int.reduceNeg,Nat.reduceLeDiff,Nat.reduceBEq,Nat.reduceBneDiff,f1,wu,w97,List.replicate_one,List.flatten_singleton]
      intro b6 hb6
      have so : qdq (G1.set b6 (.own 0 [.int .u8 (97 + UInt8.ofNat f).toNat] 1)) (.slice (some ⟨b6, 0, none⟩) 1 1) = some (strV (q9b f)) := qhh (l := q9b f) (Sl.lit (n := 1) rfl)
      have le6 := Heap.q0v (Heap.q0e G1) hb6 (.own 0 [.int .u8 (97 + UInt8.ofNat f).toNat] 1)
      try simp -implicitDefEqProofs only [zA,reduceIte,reduceCtorEq,Nat.reduceEqDiff,Nat.reduceAdd,Nat.reduceMul,Nat.reduceLT,Nat.reduceSub,Int.reduceLT,Int.reduceLE,Int.reduceEq,Int.reduceNe,Int.reduceSub,Int.reduceAdd,Int.reduceMul,Int.reduceBEq,Int.reduceBNe,Int.reduceGT,Int.reduceGE,Nat.reduceGT,Int.reduceToNat,Int.reduceNeg,Nat.reduceLeDiff,Nat.reduceBEq,Nat.reduceBneDiff,so]
      have A6 := A1g.le le6
      have N6 := N1g.le le6
      generalize (G1.set b6 (.own 0 [.int .u8 (97 + UInt8.ofNat f).toNat] 1)) = G6 at le6 A6 N6 ⊢
      refine (qdh E K A6 [99] (q9b f)).mono ?_
      rintro v G7 ⟨le7, ow7⟩
      have hall := X.all f hf4
      have N7 := N6.le le7
      have leN := Heap.q07 leg (Heap.q07 le6 le7)
      have ch : q1r G7 ⟨bh, f, none⟩ = some (.bool (had.getD f false)) := by
        have h4 := X.h4
        rw [q4n N7.qh (by rw [List.length_map, h4]; exact hf4)]
        simp [List.getD, h4, hf4]
      have cl : q1r G7 ⟨bl, f, none⟩ = some (strV (last.getD f [])) := by
        have h4 := X.l4
        rw [q4n N7.ql (by rw [List.length_map, h4]; exact hf4)]
        simp [List.getD, h4, hf4]
      rw [hall] at ow7
      simp -implicitDefEqProofs only [zA,reduceIte,reduceCtorEq,Nat.reduceEqDiff,Nat.reduceAdd,Nat.reduceMul,Nat.reduceLT,Nat.reduceSub,Int.reduceLT,Int.reduceLE,Int.reduceEq,Int.reduceNe,Int.reduceSub,Int.reduceAdd,Int.reduceMul,Int.reduceBEq,Int.reduceBNe,Int.reduceGT,Int.reduceGE,Nat.reduceGT,Int.reduceToNat,Int.reduceNeg,Nat.reduceLeDiff,Nat.reduceBEq,Nat.reduceBneDiff]
      unfold q50
      cases hh : had.getD f false with
      | true =>
        rw [hh] at ch ow7
        simp only [if_true] at ow7
        obtain ⟨y1, p1, d1', e1, k1⟩ := SlS.cell (L := [last.getD f []]) ow7.sl 0 (by simp)
        subst e1
        have sn := qif (last.getD f []) (last.getD f [])
        rw [decide_eq_true rfl] at sn
        simp only [List.getElem_cons_zero, Nat.add_zero] at k1
        simp -implicitDefEqProofs only [zA,reduceIte,reduceCtorEq,Nat.reduceEqDiff,Nat.reduceAdd,Nat.reduceMul,Nat.reduceLT,Nat.reduceSub,Int.reduceLT,Int.reduceLE,Int.reduceEq,Int.reduceNe,Int.reduceSub,Int.reduceAdd,Int.reduceMul,Int.reduceBEq,Int.reduceBNe,Int.reduceGT,Int.reduceGE,Nat.reduceGT,Int.reduceToNat,Int.reduceNeg,Nat.reduceLeDiff,Nat.reduceBEq,Nat.reduceBneDiff,f0,f1,Int.toNat_natCast,ch,cl,k1,sn,bne_self_eq_false,w2,Nat.add_zero]
        refine ⟨_, ?_, f + 1, rfl, by omega, rfl, leN⟩
        omega
      | false =>
        rw [hh] at ch ow7
        obtain ⟨yb, yc, rfl⟩ := ow7.sl.shape
        simp -implicitDefEqProofs only [zA,reduceIte,reduceCtorEq,Nat.reduceEqDiff,Nat.reduceAdd,Nat.reduceMul,Nat.reduceLT,Nat.reduceSub,Int.reduceLT,Int.reduceLE,Int.reduceEq,Int.reduceNe,Int.reduceSub,Int.reduceAdd,Int.reduceMul,Int.reduceBEq,Int.reduceBNe,Int.reduceGT,Int.reduceGE,Nat.reduceGT,Int.reduceToNat,Int.reduceNeg,Nat.reduceLeDiff,Nat.reduceBEq,Nat.reduceBneDiff,f0,f1,Int.toNat_natCast,ch,bne_self_eq_false,w2]
        refine ⟨_, ?_, f + 1, rfl, by omega, rfl, leN⟩
        omega
    · have f1 : ¬ (f : Int) < 4 := by omega
      simp -implicitDefEqProofs only [zA,reduceIte,reduceCtorEq,Nat.reduceEqDiff,Nat.reduceAdd,Nat.reduceMul,Nat.reduceLT,Nat.reduceSub,Int.reduceLT,Int.reduceLE,Int.reduceEq,Int.reduceNe,Int.reduceSub,Int.reduceAdd,Int.reduceMul,Int.reduceBEq,Int.reduceBNe,Int.reduceGT,Int.reduceGE,Nat.reduceGT,Int.reduceToNat,Int.reduceNeg,Nat.reduceLeDiff,Nat.reduceBEq,Nat.reduceBneDiff,f1]
      unfold q4m
      simp -implicitDefEqProofs only [zA,reduceIte,reduceCtorEq,Nat.reduceEqDiff,Nat.reduceAdd,Nat.reduceMul,Nat.reduceLT,Nat.reduceSub,Int.reduceLT,Int.reduceLE,Int.reduceEq,Int.reduceNe,Int.reduceSub,Int.reduceAdd,Int.reduceMul,Int.reduceBEq,Int.reduceBNe,Int.reduceGT,Int.reduceGE,Nat.reduceGT,Int.reduceToNat,Int.reduceNeg,Nat.reduceLeDiff,Nat.reduceBEq,Nat.reduceBneDiff]
      refine (qe5 E K A1g).mono ?_
      rintro v G8 ⟨le8, ow8⟩
      obtain ⟨z1, z2, rfl⟩ := ow8.sl.shape
      rw [X.len]
      simp -implicitDefEqProofs only [zA,reduceIte,reduceCtorEq,Nat.reduceEqDiff,Nat.reduceAdd,Nat.reduceMul,Nat.reduceLT,Nat.reduceSub,Int.reduceLT,Int.reduceLE,Int.reduceEq,Int.reduceNe,Int.reduceSub,Int.reduceAdd,Int.reduceMul,Int.reduceBEq,Int.reduceBNe,Int.reduceGT,Int.reduceGE,Nat.reduceGT,Int.reduceToNat,Int.reduceNeg,Nat.reduceLeDiff,Nat.reduceBEq,Nat.reduceBneDiff]
      simp
end Go.Bb
