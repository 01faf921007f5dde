/- My contracts: BbCrw4 BbCrw5 BbCref4a BbCref4b BbCref4c BbCref4d BbCref4e BbCref4h BbCref4i BbCrw6 BbCrw7 BbCrw8 BbCpad4 BbCrw9 BbLsea2 BbLsea3. -/
import Derived.Test.YtkgegppgaeadiaaGreatDoorBbM3
import Derived.Test.YtkgegppgaeadiaaGreatDoorBbG3
import Derived.Test.YtkgegppgaeadiaaGreatDoorBbM1
import Derived.Test.YtkgegppgaeadiaaGreatDoorBbTab
import Derived.Test.YtkgegppgaeadiaaGreatDoorBbM2
namespace Go.Bb
set_option linter.unusedSimpArgs false
set_option linter.unusedVariables false
set_option maxHeartbeats 4000000
set_option maxRecDepth 20000
theorem qq1 (E : EnvT tab) (H : Heap) {b : Value} (l : List UInt8) (v : List Int) (hl : l.length ≤ 1000000) (s : SlB H b l) (h8 : v.length = 8) (hv : ∀ n ∈ v, 0 ≤ n ∧ n ≤ 1099511627776) : ACallN E.toEnv qgr [b, .agg (v.map (.int .i64)).toArray] H fun r H' => H.le H' ∧ OwB H H' r (l ++ q75 v) := by
  refine q0o q6z q36 rfl rfl (q03 ?_)
  unfold q36
  have vl : (v.map (Value.int .i64)).length = 8 := by simp [h8]
  simp -implicitDefEqProofs only [zA,reduceCtorEq,Nat.reduceEqDiff,Nat.reduceAdd]
  intro b1 hb1
  try simp -implicitDefEqProofs only [zA,reduceIte,reduceCtorEq,Nat.reduceEqDiff,Nat.reduceAdd,Nat.reduceMul,Nat.reduceLT,Nat.reduceSub,Int.reduceLT,Int.reduceLE,Int.reduceEq,Int.reduceNe,Int.reduceSub,Int.reduceAdd,Int.reduceMul,Int.reduceBEq,Int.reduceBNe,Int.reduceGT,Int.reduceGE,Nat.reduceGT,Int.reduceToNat,Int.reduceNeg,Nat.reduceLeDiff,Nat.reduceBEq,Nat.reduceBneDiff]
  rw [vl]
  have le1 := Heap.q02 (Heap.q04 H) hb1 (.own 0 (v.map (.int .i64)) 8)
  have q1 : (H.set b1 (.own 0 (v.map (.int .i64)) 8)) b1 = some (.own 0 (v.map (.int .i64)) 8) := Heap.q01 _ _ _
  generalize (H.set b1 (.own 0 (v.map (.int .i64)) 8)) = H1 at le1 q1
  refine q0c (fun m t G => H1.le G ∧ ∃ (i : Nat) (v0 : Value), t = tl [(0, v0), (3, .pointer (some ⟨b1, 0, none⟩)), (5, .int .i64 i)] ∧ i ≤ 8 ∧ m = 8 - i ∧ SlB G v0 (l ++ q75 (v.take i)) ∧ (0 < i → OwB H G v0 (l ++ q75 (v.take i))) ∧ (q75 (v.take i)).length ≤ 9 * i) 8
    ⟨Heap.q04 _, 0, b, rfl, by omega, by omega, by simpa [q75] using Sl.le le1 s, fun h => by omega, by simp [q75]⟩ ?_
  rintro m t G ⟨leG, i, v0, rfl, hi, rfl, sw, ow, hln⟩
  by_cases hlt : i < 8
  · have hi1 : (i : Int) < 8 := by omega
    have hi2 : (0 : Int) ≤ i := by omega
    have w1 : IntKind.i64.wrap ((i : Int) + 1) = ((i + 1 : Nat) : Int) := q2k (by omega)
    have et : v.take (i + 1) = v.take i ++ [v[i]'(by omega)] := List.take_succ_eq_append_getElem (by omega)
    have hx := hv (v[i]'(by omega)) (List.getElem_mem _)
    have ci : q0x G ⟨b1, i, none⟩ = some (.int .i64 (v[i]'(by omega))) := by
      rw [q0k (leG _ _ q1) (by omega)]; simp
    generalize v[i]'(by omega) = x at et hx ci
    obtain ⟨n, rfl⟩ : ∃ n : Nat, x = n := ⟨x.toNat, by omega⟩
    have h9 := q2b 9 n (by omega) (by omega)
    have en : q75 (v.take i ++ [(n : Int)]) = q75 (v.take i) ++ numF n := by simp [q75]
    simp -implicitDefEqProofs only [zA,reduceCtorEq,Nat.reduceEqDiff,hi1,hi2,Int.toNat_natCast,ci]
    refine (q4n E G (l ++ q75 (v.take i)) (by simp; omega) sw n (by omega)).mono ?_
    rintro r G2 ⟨le2, ow2⟩
    simp -implicitDefEqProofs only [zA,reduceCtorEq,Nat.reduceEqDiff,w1]
    have e2 : l ++ q75 (v.take (i + 1)) = l ++ q75 (v.take i) ++ numF n := by rw [et, en, ← List.append_assoc]
    refine ⟨7 - i, by omega, Heap.q00 leG le2, i + 1, r, rfl, by omega, by omega, ?_, fun _ => ?_, ?_⟩
    · rw [e2]; exact ow2.sl
    · rw [e2]; exact Ow.since (Heap.q00 le1 leG) ow2
    · rw [et, en]; simp; omega
  · have e : i = 8 := by omega
    subst e
    rw [List.take_of_length_le (by omega)] at ow
    simp -implicitDefEqProofs only [zA,reduceCtorEq,Nat.reduceEqDiff,Nat.reduceSub,Int.reduceLT]
    exact ⟨Heap.q00 le1 leG, ow (by omega)⟩
theorem qgi (E : EnvT tab) (H : Heap) (e : Ed) (h8 : e.seen.length = 8) (hc : e.con.length ≤ 9000000000000000000) (hf : e.fld.length ≤ 9000000000000000000) (hn : -9223372036854775808 ≤ e.n) (hn2 : e.n ≤ 9223372036854775807) :
    ACallN E.toEnv qg7 [.agg (edC e).toArray] H fun r H' => H.le H' ∧ OwB H H' r (putG e) := by
  refine q0o q5q q2p rfl rfl (q03 ?_)
  unfold q2p
  have el := q1a h8
  simp -implicitDefEqProofs only [zA,reduceCtorEq,Nat.reduceEqDiff]
  intro b hb
  try simp -implicitDefEqProofs only [zA,reduceIte,reduceCtorEq,Nat.reduceEqDiff,Nat.reduceAdd,Nat.reduceMul,Nat.reduceLT,Nat.reduceSub,Int.reduceLT,Int.reduceLE,Int.reduceEq,Int.reduceNe,Int.reduceSub,Int.reduceAdd,Int.reduceMul,Int.reduceBEq,Int.reduceBNe,Int.reduceGT,Int.reduceGE,Nat.reduceGT,Int.reduceToNat,Int.reduceNeg,Nat.reduceLeDiff,Nat.reduceBEq,Nat.reduceBneDiff]
  rw [el]
  have le1 := Heap.q02 (Heap.q04 H) hb (.own 0 (edC e) 15)
  have A : EdAt (H.set b (.own 0 (edC e) 15)) b e := EdAt.of (Heap.q01 _ _ _) h8
  generalize (H.set b (.own 0 (edC e) 15)) = H1 at le1 A
  simp -implicitDefEqProofs only [zA,Nat.reduceEqDiff,A.all]
  refine (q8a E H1 e h8 hc hf hn hn2).mono ?_
  rintro r H2 ⟨le2, rfl⟩
  replace A := A.le h8 le2
  have le02 := Heap.q00 le1 le2
  unfold putG
  cases hg : q28 e with
  | false =>
    simp -implicitDefEqProofs only [zA,Nat.reduceEqDiff]
    exact ⟨le02, Ow.nil _ _ _⟩
  | true =>
    have g := qa9 hg
    obtain ⟨g1, g2, g3, g4, g5, g6, g7, g8, g9⟩ := g
    have hp := qi0 hg h8
    rw [if_pos rfl]
    unfold putE at hp ⊢
    obtain ⟨D, hD⟩ : ∃ D : Nat, e.dev = D := ⟨e.dev.toNat, by omega⟩
    obtain ⟨N, hN⟩ : ∃ N : Nat, e.n = N := ⟨e.n.toNat, by omega⟩
    obtain ⟨K, hK⟩ : ∃ K : Nat, e.kind = K := ⟨e.kind.toNat, by omega⟩
    obtain ⟨T, hT⟩ : ∃ T : Nat, e.time = T := ⟨e.time.toNat, by omega⟩
    have aD := A.dev
    have aN := A.n
    rw [hD] at aD
    rw [hN] at aN
    have tD : e.dev.toNat = D := by omega
    have tN : e.n.toNat = N := by omega
    have tK : e.kind.toNat = K := by omega
    have tT : e.time.toNat = T := by omega
    rw [tD, tN, tK, tT] at hp ⊢
    simp only [List.length_append] at hp
    have A2 := A
    simp -implicitDefEqProofs only [zA,Nat.reduceEqDiff,aD]
    refine (q4n E H2 [] (by simp) (.inl ⟨rfl, rfl, rfl⟩) D (by omega)).mono ?_
    rintro r1 H3 ⟨le3, ow3⟩
    rw [List.nil_append] at ow3
    have aN2 := aN
    replace A := A.le h8 le3
    have A3 := A
    have aN := A.n
    rw [hN] at aN
    simp -implicitDefEqProofs only [zA,Nat.reduceEqDiff,aN,aN2,implies_true,List.mem_cons,List.not_mem_nil,or_false,forall_eq]
    refine (q4n E H3 _ (by omega) ow3.sl N (by omega)).mono ?_
    rintro r2 H4 ⟨le4, ow4⟩
    replace A := A.le h8 le4
    simp -implicitDefEqProofs only [zA,Nat.reduceEqDiff,Nat.reduceAdd,A.seen,A2.seen,A3.seen,implies_true,List.mem_cons,List.not_mem_nil,or_false,forall_eq,forall_eq_or_imp,and_self]
    refine (qq1 E H4 _ e.seen (by simp; omega) ow4.sl h8 g3).mono ?_
    rintro r3 H5 ⟨le5, ow5⟩
    replace A := A.le h8 le5
    have aK := A.kind
    rw [hK] at aK
    simp -implicitDefEqProofs only [zA,Nat.reduceEqDiff]
    unfold q7f
    simp -implicitDefEqProofs only [zA,Nat.reduceEqDiff,aK]
    refine (q4n E H5 _ (by simp; omega) ow5.sl K (by omega)).mono ?_
    rintro r4 H6 ⟨le6, ow6⟩
    have aT2 := A.time
    rw [hT] at aT2
    replace A := A.le h8 le6
    have aT := A.time
    rw [hT] at aT
    simp -implicitDefEqProofs only [zA,Nat.reduceEqDiff,aT,aT2,implies_true,List.mem_cons,List.not_mem_nil,or_false,forall_eq]
    refine (q4n E H6 _ (by simp; omega) ow6.sl T (by omega)).mono ?_
    rintro r5 H7 ⟨le7, ow7⟩
    replace A := A.le h8 le7
    simp -implicitDefEqProofs only [zA,Nat.reduceEqDiff,A.con]
    refine qfx ?_
    intro b1 c1 hb1 hc1 s1 leb1
    simp -implicitDefEqProofs only [zA,Nat.reduceEqDiff]
    refine (qcc E _ _ e.con (by simp; omega) (by omega) (ow7.sl.le leb1) s1).mono ?_
    rintro r6 H8 ⟨le8, ow8⟩
    have le78 := Heap.q00 leb1 le8
    replace A := A.le h8 le78
    have A8 := A
    simp -implicitDefEqProofs only [zA,Nat.reduceEqDiff,A.fld]
    refine qfx ?_
    intro b2 c2 hb2 hc2 s2 leb2
    simp -implicitDefEqProofs only [zA,Nat.reduceEqDiff]
    refine (qcc E _ _ e.fld (by simp; omega) (by omega) (ow8.sl.le leb2) s2).mono ?_
    rintro r7 H9 ⟨le9, ow9⟩
    have le89 := Heap.q00 leb2 le9
    replace A := A.le h8 le89
    have A8b := A8.le h8 leb2
    simp -implicitDefEqProofs only [zA,Nat.reduceEqDiff,A.val,A8.val,implies_true,List.mem_cons,List.not_mem_nil,or_false,forall_eq]
    refine qfx ?_
    intro b3 c3 hb3 hc3 s3 leb3
    simp -implicitDefEqProofs only [zA,Nat.reduceEqDiff]
    refine (qcc E _ _ e.val (by simp; omega) (by omega) (ow9.sl.le leb3) s3).mono ?_
    rintro r8 H10 ⟨le10, ow10⟩
    simp -implicitDefEqProofs only [zA,Nat.reduceEqDiff]
    have leA : H.le H9 := Heap.q00 le02 (Heap.q00 le3 (Heap.q00 le4 (Heap.q00 le5 (Heap.q00 le6 (Heap.q00 le7 (Heap.q00 le78 le89))))))
    exact ⟨Heap.q00 leA (Heap.q00 leb3 le10), ow10.since (Heap.q00 leA leb3)⟩
theorem qq2 (E : EnvT tab) {h0 H : Heap} {b : Nat} {l0 : List UInt8} {s : RS} (R : RdW h0 H b l0 s) (hl0 : l0.length ≤ 100000000) :
    ACallN E.toEnv qgs [.pointer (some ⟨b, 0, none⟩)] H fun r h' => r = .agg ((vecS s).1.map (.int .i64)).toArray ∧ RdW h0 h' b l0 (vecS s).2 ∧ Kp b H h' := by
  have ne := R.ne
  have leH := R.1
  refine q0o q70 q37 rfl rfl (q03 ?_)
  unfold q37
  simp -implicitDefEqProofs only [zA,reduceCtorEq,Nat.reduceEqDiff]
  intro b2 hb2
  try simp -implicitDefEqProofs only [zA,List.length_replicate]
  have le2 := Heap.q02 (Heap.q04 H) hb2 (.own 0 (List.replicate 8 (.int .i64 0)) 8)
  have q2 : (H.set b2 (.own 0 (List.replicate 8 (.int .i64 0)) 8)) b2 = some (.own 0 (List.replicate 8 (.int .i64 0)) 8) := Heap.q01 _ _ _
  generalize (H.set b2 (.own 0 (List.replicate 8 (.int .i64 0)) 8)) = H2 at le2 q2 ⊢
  intro b3 hb3
  try simp -implicitDefEqProofs only [zA,reduceIte,reduceCtorEq,Nat.reduceEqDiff,Nat.reduceAdd,Nat.reduceMul,Nat.reduceLT,Nat.reduceSub,Int.reduceLT,Int.reduceLE,Int.reduceEq,Int.reduceNe,Int.reduceSub,Int.reduceAdd,Int.reduceMul,Int.reduceBEq,Int.reduceBNe,Int.reduceGT,Int.reduceGE,Nat.reduceGT,Int.reduceToNat,Int.reduceNeg,Nat.reduceLeDiff,Nat.reduceBEq,Nat.reduceBneDiff,List.length_replicate]
  have st0 : q0a (H2.set b3 (.own 0 (List.replicate 8 (.int .i64 0)) 8)) 8 (.pointer (some ⟨b3, 0, none⟩)) (.agg (List.replicate 8 (.int .i64 0)).toArray) = some (H2.set b3 (.own 0 (List.replicate 8 (.int .i64 0)) 8)) := z6z (by omega) (by simp) rfl (by simp) (by omega)
  simp -implicitDefEqProofs only [zA,reduceCtorEq,Nat.reduceEqDiff,st0]
  have le3 := Heap.q02 (Heap.q04 H2) hb3 (.own 0 (List.replicate 8 (.int .i64 0)) 8)
  have q3 : (H2.set b3 (.own 0 (List.replicate 8 (.int .i64 0)) 8)) b3 = some (.own 0 (List.replicate 8 (.int .i64 0)) 8) := Heap.q01 _ _ _
  have q2a := q2
  have q2 := le3 _ _ q2
  generalize (H2.set b3 (.own 0 (List.replicate 8 (.int .i64 0)) 8)) = H3 at le3 q2 q3 ⊢
  have le03 := Heap.q00 le2 le3
  have hb3H : H b3 = none := Heap.q08 le2 hb3
  have n2 : b2 ≠ b := by intro e; subst e; exact ne hb2
  have n3 : b3 ≠ b := by intro e; subst e; exact ne hb3H
  have z3 : h0 b3 = none := Heap.q08 leH hb3H
  have z2 : h0 b2 = none := Heap.q08 leH hb2
  have n23 : b2 ≠ b3 := by intro e; subst e; rw [q2a] at hb3; cases hb3
  refine q0c (fun m t G => ∃ (i : Nat), t = tl [(0, .pointer (some ⟨b, 0, none⟩)), (2, .pointer (some ⟨b2, 0, none⟩)), (3, .pointer (some ⟨b3, 0, none⟩)), (4, .int .i64 i)] ∧ i ≤ 8 ∧ m = 8 - i ∧ RdW h0 G b l0 (q4o M40 i s).2 ∧ Kp b H G ∧ G b2 = some (.own 0 (List.replicate 8 (.int .i64 0)) 8) ∧ G b3 = some (.own 0 ((q4o M40 i s).1.map (Value.int .i64) ++ List.replicate (8 - i) (Value.int .i64 0)) 8)) 8
    ⟨0, rfl, by omega, by omega, R.le le03, Kp.of le03, q2, q3⟩ ?_
  rintro m t G ⟨i, rfl, hi, rfl, RG, KG, g2, g3⟩
  have hl := qko M40 i s
  have hln := qkn M40 i s
  by_cases hlt : i < 8
  · have hi1 : (i : Int) < 8 := by omega
    have hi2 : (0 : Int) ≤ i := by omega
    have w1 : IntKind.i64.wrap ((i : Int) + 1) = ((i + 1 : Nat) : Int) := q2k (by omega)
    simp -implicitDefEqProofs only [zA,reduceCtorEq,Nat.reduceEqDiff,hi1]
    refine (q3d E RG hl0 M40 (by unfold M40; omega)).mono ?_
    rintro r G2 ⟨rfl, R2, K2⟩
    have g22 := K2 _ _ n2 g2
    have g32 := K2 _ _ n3 g3
    have st : q0a G2 1 (.pointer (some ⟨b3, i, none⟩)) (.int .i64 (numS M40 (q4o M40 i s).2).1) = some (G2.set b3 (.own 0 (((q4o M40 i s).1.map (Value.int .i64) ++ List.replicate (8 - i) (Value.int .i64 0)).set i (.int .i64 (numS M40 (q4o M40 i s).2).1)) 8)) := q0q g32 rfl (by simp [hl]; omega) (by simp [hl]; omega)
    rw [qsl _ i hl hlt] at st
    have sn := qm5 M40 i s
    simp -implicitDefEqProofs only [zA,reduceCtorEq,Nat.reduceEqDiff,hi1,hi2,Int.toNat_natCast,st,w1]
    refine ⟨7 - i, by omega, i + 1, rfl, by omega, by omega, ?_, ?_, ?_, ?_⟩
    · rw [sn]; exact R2.other z3 n3 _
    · exact Kp.other (KG.trans K2) hb3H _
    · rw [Heap.q0d n23]; exact g22
    · rw [Heap.q01, sn]
  · have e : i = 8 := by omega
    subst e
    simp -implicitDefEqProofs only [zA,reduceCtorEq,Nat.reduceEqDiff,Nat.reduceSub,Int.reduceLT]
    unfold q83
    simp -implicitDefEqProofs only [zA,reduceCtorEq,Nat.reduceEqDiff]
    obtain ⟨a0, c0, v0, at', bad, qq, sl, ha, hs⟩ := RG
    have cb : q0x G ⟨b, 2, none⟩ = some (.bool bad) := by rw [q0k qq (by simp)]; rfl
    have hbad : bad = (q4o M40 8 s).2.isNone := by rw [hs]; cases bad <;> rfl
    have RG : RdW h0 G b l0 (q4o M40 8 s).2 := ⟨a0, c0, v0, at', bad, qq, sl, ha, hs⟩
    rw [hbad] at cb
    clear qq hs hbad
    simp -implicitDefEqProofs only [zA,reduceCtorEq,Nat.reduceEqDiff,cb]
    have g2 := g2
    have ex : vecS s = (if (q4o M40 8 s).2.isSome then (q4o M40 8 s).1 else List.replicate 8 0, (q4o M40 8 s).2) := rfl
    rw [ex]
    simp only
    generalize (q4o M40 8 s).1 = L at *
    generalize (q4o M40 8 s).2 = s2 at *
    have rp : List.replicate (8 - 8) (Value.int .i64 0) = [] := rfl
    rw [rp, List.append_nil] at g3
    have stA : ∀ l : List Value, l.length = 8 → l.all one = true → q0a G 8 (.pointer (some ⟨b2, 0, none⟩)) (.agg l.toArray) = some (G.set b2 (.own 0 l 8)) := fun l hl ho => q0f g2 (by omega) hl ho (by simp) (by omega)
    have ld : ∀ l : List Value, l.length = 8 → q05 (G.set b2 (.own 0 l 8)) ⟨b2, 0, none⟩ 8 = some l := fun l hl => z6x (by simp [hl])
    have zl : (List.replicate 8 (Value.int .i64 0)).length = 8 := by simp
    have zo : (List.replicate 8 (Value.int .i64 0)).all one = true := rfl
    have rz : (List.replicate 8 (0 : Int)).map (Value.int .i64) = List.replicate 8 (Value.int .i64 0) := rfl
    have Kf : ∀ X, Kp b H (G.set b2 X) := fun X => Kp.other KG hb2 X
    have Rf : ∀ X, RdW h0 (G.set b2 X) b l0 s2 := fun X => RG.other z2 n2 X
    cases s2 with
    | none =>
      have s1 := stA _ zl zo
      have l1 := ld _ zl
      simp -implicitDefEqProofs only [zA,Nat.reduceEqDiff,Option.isNone,s1,l1]
      exact ⟨rfl, Rf _, Kf _⟩
    | some l =>
      have c3 : q05 G ⟨b3, 0, none⟩ 8 = some (L.map (.int .i64)) := by rw [q0l g3 (by simp [hl])]; simp [List.take_of_length_le, hl]
      have s1 := stA (L.map (.int .i64)) (by simp [hl]) (by simp [one])
      have l1 := ld (L.map (.int .i64)) (by simp [hl])
      simp -implicitDefEqProofs only [zA,Nat.reduceEqDiff,Option.isNone,c3,s1,l1]
      exact ⟨rfl, Rf _, Kf _⟩
structure GW (H h0 G : Heap) (b b2 b5 : Nat) (l0 : List UInt8) (s : RS) (e : Ed) : Prop where
  R : RdW h0 G b l0 s
  q5 : G b5 = some (.own 0 (edC e) 15)
  q2 : G b2 = some (.own 0 (edC ZE) 15)
  le : H.le G
  h8 : e.seen.length = 8
  n5 : b5 ≠ b
  n2 : b2 ≠ b
  n25 : b2 ≠ b5
  z5 : h0 b5 = none
  z5H : H b5 = none
  z2H : H b2 = none
  zbH : H b = none
theorem GW.read {H h0 G G' : Heap} {b b2 b5 : Nat} {l0 : List UInt8} {s s' : RS} {e : Ed} (S : GW H h0 G b b2 b5 l0 s e) (R : RdW h0 G' b l0 s') (k : Kp b G G') : GW H h0 G' b b2 b5 l0 s' e :=
  ⟨R, k _ _ S.n5 S.q5, k _ _ S.n2 S.q2, fun c x h => k _ _ (by intro q; subst q; rw [S.zbH] at h; cases h) (S.le _ _ h), S.h8, S.n5, S.n2, S.n25, S.z5, S.z5H, S.z2H, S.zbH⟩
theorem GW.store {H h0 G : Heap} {b b2 b5 : Nat} {l0 : List UInt8} {s : RS} {e : Ed} (S : GW H h0 G b b2 b5 l0 s e) (e' : Ed) (h8 : e'.seen.length = 8) : GW H h0 (G.set b5 (.own 0 (edC e') 15)) b b2 b5 l0 s e' :=
  ⟨S.R.other S.z5 S.n5 _, Heap.q01 _ _ _, by rw [Heap.q0d S.n25]; exact S.q2, fun c x h => by rw [Heap.q0d (by intro q; subst q; rw [S.z5H] at h; cases h)]; exact S.le _ _ h, h8, S.n5, S.n2, S.n25, S.z5, S.z5H, S.z2H, S.zbH⟩
theorem GW.put1 {H h0 G : Heap} {b b2 b5 : Nat} {l0 : List UInt8} {s : RS} {e : Ed} (S : GW H h0 G b b2 b5 l0 s e) (i : Nat) (hi : i < 15) {v : Value} (hv : one v = true) {e' : Ed} (he : (edC e).set i v = edC e') :
    q0a G 1 (.pointer (some ⟨b5, i, none⟩)) v = some (G.set b5 (.own 0 (edC e') 15)) := by
  have hl := q1a S.h8
  rw [q0q S.q5 hv (by omega) (by omega), he]
theorem GW.row {H h0 G : Heap} {b b2 b5 : Nat} {l0 : List UInt8} {s : RS} {e : Ed} (S : GW H h0 G b b2 b5 l0 s e) (L : List Int) (hL : L.length = 8) :
    q0a G 8 (.pointer (some ⟨b5, 2, none⟩)) (.agg (L.map (.int .i64)).toArray) = some (G.set b5 (.own 0 (edC { e with seen := L }) 15)) := by
  have hl := q1a S.h8
  have h := qf4 (h := G) (b := b5) (vs := edC e) (off := 2) (sz := 15) (size := 8) (v := .agg (L.map (.int .i64)).toArray) (us := L.map (.int .i64)) (by omega) (by simp [Value.cells]) (by simp [hL]) (by simp [Bb.one]) (by omega) (by omega)
  rw [Heap.qad S.q5, j03 e S.h8 L hL] at h
  exact h
theorem qov (E : EnvT tab) (H : Heap) {v : Value} (l : List UInt8) (hl : l.length ≤ 100000) (s : SlB H v l) :
    ACallN E.toEnv qg9 [v] H fun r H' => H.le H' ∧ r = .tuple #[.agg (edC ((getE 7 l).getD ZE)).toArray, .bool (getE 7 l).isSome] := by
  obtain ⟨vb, vc, rfl⟩ := Sl.shape s
  refine q0o q5s q2r rfl rfl (q03 ?_)
  unfold q2r
  simp only [← qak]
  simp -implicitDefEqProofs only [zA,reduceCtorEq,Nat.reduceEqDiff,Nat.reduceAdd,Nat.reduceLeDiff]
  intro b2 hb2
  rw [q1a (e := ZE) rfl]
  try simp -implicitDefEqProofs only [zA,reduceIte,reduceCtorEq,Nat.reduceEqDiff,Nat.reduceAdd,Nat.reduceMul,Nat.reduceLT,Nat.reduceSub,Int.reduceLT,Int.reduceLE,Int.reduceEq,Int.reduceNe,Int.reduceSub,Int.reduceAdd,Int.reduceMul,Int.reduceBEq,Int.reduceBNe,Int.reduceGT,Int.reduceGE,Nat.reduceGT,Int.reduceToNat,Int.reduceNeg,Nat.reduceLeDiff,Nat.reduceBEq,Nat.reduceBneDiff]
  have le2 := Heap.q02 (Heap.q04 H) hb2 (.own 0 (edC ZE) 15)
  have q2 : (H.set b2 (.own 0 (edC ZE) 15)) b2 = some (.own 0 (edC ZE) 15) := Heap.q01 _ _ _
  generalize (H.set b2 (.own 0 (edC ZE) 15)) = H2 at le2 q2 ⊢
  intro b hb
  try simp -implicitDefEqProofs only [zA,reduceIte,reduceCtorEq,Nat.reduceEqDiff,Nat.reduceAdd,Nat.reduceMul,Nat.reduceLT,Nat.reduceSub,Int.reduceLT,Int.reduceLE,Int.reduceEq,Int.reduceNe,Int.reduceSub,Int.reduceAdd,Int.reduceMul,Int.reduceBEq,Int.reduceBNe,Int.reduceGT,Int.reduceGE,Nat.reduceGT,Int.reduceToNat,Int.reduceNeg,Nat.reduceLeDiff,Nat.reduceBEq,Nat.reduceBneDiff]
  have le3 := Heap.q02 (Heap.q04 H2) hb (.own 0 [.slice vb l.length vc, .int .i64 0, .bool false] 3)
  have R : RdW H2 (H2.set b (.own 0 [.slice vb l.length vc, .int .i64 0, .bool false] 3)) b l (some l) := ⟨le3, hb, _, 0, false, Heap.q01 _ _ _, s.le le2, by omega, rfl⟩
  generalize (H2.set b (.own 0 [.slice vb l.length vc, .int .i64 0, .bool false] 3)) = H3 at le3 R ⊢
  intro b5 hb5
  have zl := q1a (e := ZE) rfl
  have st0 : q0a (H3.set b5 (.own 0 (edC ZE) 15)) 15 (.pointer (some ⟨b5, 0, none⟩)) (.agg (edC ZE).toArray) = some (H3.set b5 (.own 0 (edC ZE) 15)) := z6z (by omega) zl (q7w _) zl (by omega)
  simp -implicitDefEqProofs only [zA,Nat.reduceEqDiff,st0]
  have hb5' : H2 b5 = none := Heap.q08 le3 hb5
  have S : GW H H2 (H3.set b5 (.own 0 (edC ZE) 15)) b b2 b5 l (some l) ZE := by
    have n5 : b5 ≠ b := by intro e; subst e; exact R.ne hb5
    have n25 : b2 ≠ b5 := by intro e; subst e; rw [q2] at hb5'; cases hb5'
    refine ⟨R.other hb5' n5 _, Heap.q01 _ _ _, by rw [Heap.q0d n25]; exact le3 _ _ q2, Heap.q02 (Heap.q00 le2 le3) (Heap.q08 le2 hb5') _, rfl, n5, ?_, n25, hb5', Heap.q08 le2 hb5', hb2, Heap.q08 le2 hb⟩
    intro e; subst e; rw [q2] at hb; cases hb
  generalize (H3.set b5 (.own 0 (edC ZE) 15)) = G0 at S ⊢
  clear R le3 hb5 hb5' q2 le2 hb hb2 st0 zl
  obtain ⟨A, hA⟩ : ∃ A, A = numS 7 (some l) := ⟨_, rfl⟩
  obtain ⟨B, hB⟩ : ∃ B, B = numS M40 A.2 := ⟨_, rfl⟩
  obtain ⟨C, hC⟩ : ∃ C, C = vecS B.2 := ⟨_, rfl⟩
  obtain ⟨D, hD⟩ : ∃ D, D = numS 2 C.2 := ⟨_, rfl⟩
  obtain ⟨T, hT⟩ : ∃ T, T = numS M40 D.2 := ⟨_, rfl⟩
  obtain ⟨F, hF⟩ : ∃ F, F = q69 40 T.2 := ⟨_, rfl⟩
  obtain ⟨I, hI⟩ : ∃ I, I = q69 40 F.2 := ⟨_, rfl⟩
  obtain ⟨J, hJ⟩ : ∃ J, J = q69 200 I.2 := ⟨_, rfl⟩
  have er : rdE 7 (some l) = (⟨A.1, B.1, C.1, D.1, F.1, I.1, J.1, T.1⟩, J.2) := by
    rw [hJ, hI, hF, hT, hD, hC, hB, hA]; rfl
  have nB : B.1 ≤ 1099511627776 := by rw [hB]; exact qgn _ _
  have c8 : C.1.length = 8 := by rw [hC]; exact qrf _
  have cF : F.1.length ≤ 40 := by rw [hF]; exact qb3 _ _
  have cI : I.1.length ≤ 40 := by rw [hI]; exact qb3 _ _
  refine (q3d E S.R (by omega) 7 (by omega)).mono ?_
  rintro r G1 ⟨rfl, R1, k1⟩
  rw [← hA] at R1 ⊢
  replace S := S.read R1 k1
  have st1 : q0a G1 1 (.pointer (some ⟨b5, 0, none⟩)) (.int .i64 A.1) = some (G1.set b5 (.own 0 (edC ⟨A.1, 0, List.replicate 8 0, 0, [], [], [], 0⟩) 15)) := S.put1 0 (by omega) rfl (by rfl)
  replace S := S.store ⟨A.1, 0, List.replicate 8 0, 0, [], [], [], 0⟩ rfl
  simp -implicitDefEqProofs only [zA,Nat.reduceEqDiff,st1]
  generalize (G1.set b5 _) = G2 at S ⊢
  refine (q3d E S.R (by omega) M40 (by unfold M40; omega)).mono ?_
  rintro r G3 ⟨rfl, R3, k3⟩
  rw [← hB] at R3 ⊢
  replace S := S.read R3 k3
  have st3 : q0a G3 1 (.pointer (some ⟨b5, 1, none⟩)) (.int .i64 B.1) = some (G3.set b5 (.own 0 (edC ⟨A.1, B.1, List.replicate 8 0, 0, [], [], [], 0⟩) 15)) := S.put1 1 (by omega) rfl (by rfl)
  replace S := S.store ⟨A.1, B.1, List.replicate 8 0, 0, [], [], [], 0⟩ rfl
  simp -implicitDefEqProofs only [zA,Nat.reduceEqDiff,st3]
  generalize (G3.set b5 _) = G4 at S ⊢
  unfold q7i
  simp -implicitDefEqProofs only [zA,Nat.reduceEqDiff]
  refine (qq2 E S.R (by omega)).mono ?_
  rintro r G5 ⟨rfl, R5, k5⟩
  rw [← hC] at R5 ⊢
  replace S := S.read R5 k5
  have st5 : q0a G5 8 (.pointer (some ⟨b5, 2, none⟩)) (.agg (C.1.map (.int .i64)).toArray) = some (G5.set b5 (.own 0 (edC ⟨A.1, B.1, C.1, 0, [], [], [], 0⟩) 15)) := S.row C.1 c8
  replace S := S.store ⟨A.1, B.1, C.1, 0, [], [], [], 0⟩ c8
  simp -implicitDefEqProofs only [zA,Nat.reduceEqDiff,st5]
  generalize (G5.set b5 _) = G6 at S ⊢
  refine (q3d E S.R (by omega) 2 (by omega)).mono ?_
  rintro r G7 ⟨rfl, R7, k7⟩
  rw [← hD] at R7 ⊢
  replace S := S.read R7 k7
  have st7 : q0a G7 1 (.pointer (some ⟨b5, 10, none⟩)) (.int .i64 D.1) = some (G7.set b5 (.own 0 (edC ⟨A.1, B.1, C.1, D.1, [], [], [], 0⟩) 15)) := S.put1 10 (by omega) rfl (by rw [show 10 = 0 + 10 from rfl, qj0 _ S.h8]; rfl)
  replace S := S.store ⟨A.1, B.1, C.1, D.1, [], [], [], 0⟩ c8
  simp -implicitDefEqProofs only [zA,Nat.reduceEqDiff,st7]
  generalize (G7.set b5 _) = G8 at S ⊢
  refine (q3d E S.R (by omega) M40 (by unfold M40; omega)).mono ?_
  rintro r G9 ⟨rfl, R9, k9⟩
  rw [← hT] at R9 ⊢
  replace S := S.read R9 k9
  have st9 : q0a G9 1 (.pointer (some ⟨b5, 14, none⟩)) (.int .i64 T.1) = some (G9.set b5 (.own 0 (edC ⟨A.1, B.1, C.1, D.1, [], [], [], T.1⟩) 15)) := S.put1 14 (by omega) rfl (by rw [show 14 = 4 + 10 from rfl, qj0 _ S.h8]; rfl)
  replace S := S.store ⟨A.1, B.1, C.1, D.1, [], [], [], T.1⟩ c8
  simp -implicitDefEqProofs only [zA,Nat.reduceEqDiff,st9]
  generalize (G9.set b5 _) = G10 at S ⊢
  refine (qb8 E S.R (by omega) 40 (by omega)).mono ?_
  rintro r G11 ⟨ow11, R11, k11⟩
  rw [← hF] at R11 ow11
  have f11 := q7y ow11.sl
  replace S := S.read R11 k11
  have st11 : q0a G11 1 (.pointer (some ⟨b5, 11, none⟩)) (strV F.1) = some (G11.set b5 (.own 0 (edC ⟨A.1, B.1, C.1, D.1, F.1, [], [], T.1⟩) 15)) := S.put1 11 (by omega) rfl (by rw [show 11 = 1 + 10 from rfl, qj0 _ S.h8]; rfl)
  replace S := S.store ⟨A.1, B.1, C.1, D.1, F.1, [], [], T.1⟩ c8
  simp -implicitDefEqProofs only [zA,Nat.reduceEqDiff,f11,st11]
  generalize (G11.set b5 _) = G12 at S ⊢
  refine (qb8 E S.R (by omega) 40 (by omega)).mono ?_
  rintro r G13 ⟨ow13, R13, k13⟩
  rw [← hI] at R13 ow13
  have f13 := q7y ow13.sl
  replace S := S.read R13 k13
  have st13 : q0a G13 1 (.pointer (some ⟨b5, 12, none⟩)) (strV I.1) = some (G13.set b5 (.own 0 (edC ⟨A.1, B.1, C.1, D.1, F.1, I.1, [], T.1⟩) 15)) := S.put1 12 (by omega) rfl (by rw [show 12 = 2 + 10 from rfl, qj0 _ S.h8]; rfl)
  replace S := S.store ⟨A.1, B.1, C.1, D.1, F.1, I.1, [], T.1⟩ c8
  simp -implicitDefEqProofs only [zA,Nat.reduceEqDiff,f13,st13]
  generalize (G13.set b5 _) = G14 at S ⊢
  unfold q7h
  simp -implicitDefEqProofs only [zA,Nat.reduceEqDiff]
  refine (qb8 E S.R (by omega) 200 (by omega)).mono ?_
  rintro r G15 ⟨ow15, R15, k15⟩
  rw [← hJ] at R15 ow15
  have f15 := q7y ow15.sl
  replace S := S.read R15 k15
  have st15 : q0a G15 1 (.pointer (some ⟨b5, 13, none⟩)) (strV J.1) = some (G15.set b5 (.own 0 (edC ⟨A.1, B.1, C.1, D.1, F.1, I.1, J.1, T.1⟩) 15)) := S.put1 13 (by omega) rfl (by rw [show 13 = 3 + 10 from rfl, qj0 _ S.h8]; rfl)
  replace S := S.store ⟨A.1, B.1, C.1, D.1, F.1, I.1, J.1, T.1⟩ c8
  simp -implicitDefEqProofs only [zA,Nat.reduceEqDiff,f15,st15]
  generalize (G15.set b5 _) = G16 at S ⊢
  have eg : getE 7 l = if endS J.2 = true ∧ q28 ⟨A.1, B.1, C.1, D.1, F.1, I.1, J.1, T.1⟩ = true then some ⟨A.1, B.1, C.1, D.1, F.1, I.1, J.1, T.1⟩ else none := by
    unfold getE endS
    rw [er]
    simp only [decide_eq_true_eq]
  rw [eg]
  refine (qow E S.R).mono ?_
  rintro r G17 ⟨rfl, rfl⟩
  obtain ⟨e, he⟩ : ∃ e : Ed, e = ⟨A.1, B.1, C.1, D.1, F.1, I.1, J.1, T.1⟩ := ⟨_, rfl⟩
  have e1 : e.con.length ≤ 9000000000000000000 := by rw [he]; simp only; omega
  have e2 : e.fld.length ≤ 9000000000000000000 := by rw [he]; simp only; omega
  have e3 : -9223372036854775808 ≤ e.n := by rw [he]; simp only; omega
  have e4 : e.n ≤ 9223372036854775807 := by rw [he]; simp only; omega
  rw [← he] at S ⊢
  clear er eg hA hB hC hD hT hF hI hJ nB c8 cF cI he st1 st3 st5 st7 st9 st11 st13 st15
  have zl := q1a (e := ZE) rfl
  have el := q1a S.h8
  have stA : ∀ (G : Heap) (l : List Value), G17.le G → l.length = 15 → l.all one = true → q0a G 15 (.pointer (some ⟨b2, 0, none⟩)) (.agg l.toArray) = some (G.set b2 (.own 0 l 15)) := fun G l x hl ho => q0f (x _ _ S.q2) (by omega) hl ho zl (by omega)
  have ld : ∀ (G : Heap) (l : List Value), l.length = 15 → q05 (G.set b2 (.own 0 l 15)) ⟨b2, 0, none⟩ 15 = some l := fun G l hl => z6x (by simp [hl])
  have leF : ∀ (G : Heap) X, G17.le G → H.le (G.set b2 X) := fun G X x => Heap.q02 (Heap.q00 S.le x) S.z2H _
  have c5 : ∀ G, G17.le G → q05 G ⟨b5, 0, none⟩ 15 = some (edC e) := fun G x => by rw [q0l (x _ _ S.q5) (by omega)]; simp [List.take_of_length_le, el]
  have c50 := c5 G17 (Heap.q04 _)
  have stZ := stA G17 (edC ZE) (Heap.q04 _) zl (q7w _)
  have ldZ := ld G17 (edC ZE) zl
  rw [qak] at stZ ldZ
  cases hJ : endS J.2 with
  | false =>
    simp -implicitDefEqProofs only [zA,Nat.reduceEqDiff,stZ,ldZ,false_and]
    exact ⟨leF _ _ (Heap.q04 _), rfl⟩
  | true =>
    simp -implicitDefEqProofs only [zA,Nat.reduceEqDiff,c50]
    refine (q8a E G17 e S.h8 e1 e2 e3 e4).mono ?_
    rintro r G18 ⟨le18, rfl⟩
    have stZ := stA G18 (edC ZE) le18 zl (q7w _)
    have ldZ := ld G18 (edC ZE) zl
    rw [qak] at stZ ldZ
    have stE := stA G18 (edC e) le18 el (q7w _)
    have ldE := ld G18 (edC e) el
    have c51 := c5 G18 le18
    cases hg : q28 e with
    | false =>
      simp -implicitDefEqProofs only [zA,Nat.reduceEqDiff,stZ,ldZ]
      exact ⟨leF _ _ le18, rfl⟩
    | true =>
      simp -implicitDefEqProofs only [zA,Nat.reduceEqDiff,c51,stE,ldE]
      exact ⟨leF _ _ le18, rfl⟩
theorem qj9 (E : EnvT tab) (h : Heap) (f g : Nat → Nat) (hf : ∀ j, j < 17 → f j < 16777216) (hg : ∀ j, j < 17 → g j < 16777216) :
    ACallN E.toEnv qkv [.agg (rowK .u32 f 17).toArray, .agg (rowK .u32 g 17).toArray] h fun r h' => h.le h' ∧ r = .agg (rowK .u32 (addD f g) 17).toArray := by
  refine q0o qa0 q4v rfl rfl (q03 ?_)
  unfold q4v
  simp -implicitDefEqProofs only [zA,reduceCtorEq,Nat.reduceEqDiff,Nat.reduceAdd]
  rw [q1l, q1l]
  intro b2 hb2 b3 hb3 b4 hb4
  rw [List.length_replicate]
  obtain ⟨n32, hb3'⟩ := Heap.q0b.1 hb3
  obtain ⟨n43, hb4a⟩ := Heap.q0b.1 hb4
  obtain ⟨n42, hb4'⟩ := Heap.q0b.1 hb4a
  try simp -implicitDefEqProofs only [zA,reduceIte,reduceCtorEq,Nat.reduceEqDiff,Nat.reduceAdd,Nat.reduceMul,Nat.reduceLT,Nat.reduceSub,Int.reduceLT,Int.reduceLE,Int.reduceEq,Int.reduceNe,Int.reduceSub,Int.reduceAdd,Int.reduceMul,Int.reduceBEq,Int.reduceBNe,Int.reduceGT,Int.reduceGE,Nat.reduceGT,Int.reduceToNat,Int.reduceNeg,Nat.reduceLeDiff,Nat.reduceBEq,Nat.reduceBneDiff]
  have le0 : h.le (((h.set b2 (.own 0 (rowK .u32 f 17) 17)).set b3 (.own 0 (rowK .u32 g 17) 17)).set b4 (.own 0 (List.replicate 17 (.int .u32 0)) 17)) := Heap.q02 (Heap.q02 (Heap.q02 (Heap.q04 _) hb2 _) hb3' _) hb4' _
  have q2 : (((h.set b2 (.own 0 (rowK .u32 f 17) 17)).set b3 (.own 0 (rowK .u32 g 17) 17)).set b4 (.own 0 (List.replicate 17 (.int .u32 0)) 17)) b2 = some (.own 0 (rowK .u32 f 17) 17) := by
    rw [Heap.q0d (Ne.symm n42), Heap.q0d (Ne.symm n32), Heap.q01]
  have q3 : (((h.set b2 (.own 0 (rowK .u32 f 17) 17)).set b3 (.own 0 (rowK .u32 g 17) 17)).set b4 (.own 0 (List.replicate 17 (.int .u32 0)) 17)) b3 = some (.own 0 (rowK .u32 g 17) 17) := by
    rw [Heap.q0d (Ne.symm n43), Heap.q01]
  have q4 : (((h.set b2 (.own 0 (rowK .u32 f 17) 17)).set b3 (.own 0 (rowK .u32 g 17) 17)).set b4 (.own 0 (List.replicate 17 (.int .u32 0)) 17)) b4 = some (.own 0 (List.replicate 17 (.int .u32 0)) 17) := Heap.q01 _ _ _
  generalize (((h.set b2 (.own 0 (rowK .u32 f 17) 17)).set b3 (.own 0 (rowK .u32 g 17) 17)).set b4 (.own 0 (List.replicate 17 (.int .u32 0)) 17)) = h1 at le0 q2 q3 q4 ⊢
  have hc := qvm (f := f) (g := g) (B := 16777215) (fun j hj => by have := hf j hj; omega) (fun j hj => by have := hg j hj; omega)
  refine q0c (fun m t H => h.le H ∧ ∃ i : Nat, i ≤ 17 ∧ m = 17 - i ∧ (∃ c : Nat, t = tl [(2, .pointer (some ⟨b2, 0, none⟩)), (3, .pointer (some ⟨b3, 0, none⟩)), (4, .pointer (some ⟨b4, 0, none⟩)), (5, .int .u32 (c : Nat)), (6, .int .i64 i)] ∧ (i ≤ 16 → c = carD f g i)) ∧
      H b2 = some (.own 0 (rowK .u32 (q4f (addD f g) f i) 17) 17) ∧ H b3 = some (.own 0 (rowK .u32 g 17) 17) ∧ H b4 = some (.own 0 (List.replicate 17 (.int .u32 0)) 17)) 17 ?_ ?_
  · refine ⟨le0, 0, by omega, rfl, ⟨0, rfl, fun _ => rfl⟩, ?_, q3, q4⟩
    rw [q2, qlq]
  · rintro m t H ⟨leH, i, hi, rfl, ⟨c, rfl, hci⟩, q2, q3, q4⟩
    by_cases hlt : (i : Int) < 17
    · have hi' : i < 17 := by omega
      have e0 : (0 : Int) ≤ i := by omega
      obtain rfl := hci (by omega)
      have g2 := qcw q2 hi'
      rw [qu7] at g2
      have g3 := qcw q3 hi'
      have hfi := hf i hi'
      have hgi := hg i hi'
      have hcc := hc i (by omega)
      have w1 : IntKind.u32.wrap ((carD f g i : Int) + (f i : Int)) = ((carD f g i + f i : Nat) : Int) := by rw [← Int.natCast_add]; exact qbg (by omega)
      have w2 : IntKind.u32.wrap (((carD f g i + f i : Nat) : Int) + (g i : Int)) = ((carD f g i + f i + g i : Nat) : Int) := by rw [← Int.natCast_add]; exact qbg (by omega)
      have s1 := q2s (z := carD f g i + f i + g i) q2 hi' (Nat.le_refl _)
      have q2' : (H.set b2 (.own 0 (rowK .u32 (upd (q4f (addD f g) f i) i (carD f g i + f i + g i)) 17) 17)) b2 = some (.own 0 (rowK .u32 (upd (q4f (addD f g) f i) i (carD f g i + f i + g i)) 17) 17) := Heap.q01 _ _ _
      have s2 := q2s (z := (carD f g i + f i + g i) % 256) q2' hi' (Nat.le_refl _)
      rw [Heap.q5f] at s2
      have w3 := qx0 (a := carD f g i + f i + g i) (by omega)
      have w4 := qw3 (carD f g i + f i + g i)
      have w4' := qy9 (carD f g i + f i + g i)
      have w7 : IntKind.i64.wrap ((i : Int) + 1) = ((i + 1 : Nat) : Int) := q2k (by omega)
      by_cases h16 : (i : Int) < 16
      · simp -implicitDefEqProofs only [zA,Nat.reduceEqDiff,Int.reduceLT,Int.reduceToNat,hlt,e0,Int.toNat_natCast,g2,g3,w1,w2,s1,s2,h16,w3,w4',w7]
        refine ⟨_, by omega, Heap.q02 leH hb2 _, i + 1, by omega, rfl, ⟨_, rfl, fun _ => rfl⟩, ?_, by rw [Heap.q0d n32]; exact q3, by rw [Heap.q0d n42]; exact q4⟩
        rw [Heap.q01]
        rw [upd_upd, ← qb6, show addD f g i = (carD f g i + f i + g i) % 256 by unfold addD; rw [if_pos (by omega)]]
      · simp -implicitDefEqProofs only [zA,Nat.reduceEqDiff,hlt,e0,Int.toNat_natCast,g2,g3,w1,w2,s1,h16,w7]
        refine ⟨_, by omega, Heap.q02 leH hb2 _, i + 1, by omega, rfl, ⟨_, rfl, fun _ => by omega⟩, ?_, by rw [Heap.q0d n32]; exact q3, by rw [Heap.q0d n42]; exact q4⟩
        rw [Heap.q01]
        rw [← qb6, show addD f g i = carD f g i + f i + g i by unfold addD; rw [if_neg (by omega)]]
    · obtain rfl : i = 17 := by omega
      have q2' : H b2 = some (.own 0 (rowK .u32 (addD f g) 17) 17) := by
        rw [q2, qr8]
      have l2 := q2t q2'
      have s4 := qdh (k := .u32) (f := addD f g) q4 (by simp) (by omega)
      have l4 : q05 (H.set b4 (.own 0 (rowK .u32 (addD f g) 17) 17)) ⟨b4, 0, none⟩ 17 = some (rowK .u32 (addD f g) 17) := z6x (q1l _ _ _)
      simp -implicitDefEqProofs only [zA,Nat.reduceEqDiff,Nat.reduceSub,Int.reduceLT,l2,s4,l4]
      exact Heap.q02 leH hb4' _
theorem qn1 (E : EnvT tab) (h : Heap) (f g : Nat → Nat) (hf : ∀ j, j < 17 → f j < 256) (hg : ∀ j, j < 17 → g j < 256) :
    ACallN E.toEnv qjf [.agg (rowK .u32 f 17).toArray, .agg (rowK .u32 g 17).toArray] h fun r h' => h.le h' ∧ ∃ p, r = .agg (rowK .u32 p 17).toArray ∧ qnu p ∧ valD p 17 % PQ = valD f 17 * valD g 17 % PQ := by
  refine q0o q8g q3v rfl rfl (q03 ?_)
  unfold q3v
  simp -implicitDefEqProofs only [zA,reduceCtorEq,Nat.reduceEqDiff,Nat.reduceAdd]
  rw [q1l, q1l]
  intro b2 hb2 b3 hb3 b4 hb4
  rw [List.length_replicate]
  obtain ⟨n32, hb3'⟩ := Heap.q0b.1 hb3
  obtain ⟨n43, hb4a⟩ := Heap.q0b.1 hb4
  obtain ⟨n42, hb4'⟩ := Heap.q0b.1 hb4a
  try simp -implicitDefEqProofs only [zA,reduceIte,reduceCtorEq,Nat.reduceEqDiff,Nat.reduceAdd,Nat.reduceMul,Nat.reduceLT,Nat.reduceSub,Int.reduceLT,Int.reduceLE,Int.reduceEq,Int.reduceNe,Int.reduceSub,Int.reduceAdd,Int.reduceMul,Int.reduceBEq,Int.reduceBNe,Int.reduceGT,Int.reduceGE,Nat.reduceGT,Int.reduceToNat,Int.reduceNeg,Nat.reduceLeDiff,Nat.reduceBEq,Nat.reduceBneDiff]
  have le0 : h.le (((h.set b2 (.own 0 (rowK .u32 f 17) 17)).set b3 (.own 0 (rowK .u32 g 17) 17)).set b4 (.own 0 (List.replicate 17 (.int .u32 0)) 17)) := Heap.q02 (Heap.q02 (Heap.q02 (Heap.q04 _) hb2 _) hb3' _) hb4' _
  have q2 : (((h.set b2 (.own 0 (rowK .u32 f 17) 17)).set b3 (.own 0 (rowK .u32 g 17) 17)).set b4 (.own 0 (List.replicate 17 (.int .u32 0)) 17)) b2 = some (.own 0 (rowK .u32 f 17) 17) := by
    rw [Heap.q0d (Ne.symm n42), Heap.q0d (Ne.symm n32), Heap.q01]
  have q3 : (((h.set b2 (.own 0 (rowK .u32 f 17) 17)).set b3 (.own 0 (rowK .u32 g 17) 17)).set b4 (.own 0 (List.replicate 17 (.int .u32 0)) 17)) b3 = some (.own 0 (rowK .u32 g 17) 17) := by
    rw [Heap.q0d (Ne.symm n43), Heap.q01]
  have q4 : (((h.set b2 (.own 0 (rowK .u32 f 17) 17)).set b3 (.own 0 (rowK .u32 g 17) 17)).set b4 (.own 0 (List.replicate 17 (.int .u32 0)) 17)) b4 = some (.own 0 (List.replicate 17 (.int .u32 0)) 17) := Heap.q01 _ _ _
  generalize (((h.set b2 (.own 0 (rowK .u32 f 17) 17)).set b3 (.own 0 (rowK .u32 g 17) 17)).set b4 (.own 0 (List.replicate 17 (.int .u32 0)) 17)) = h1 at le0 q2 q3 q4 ⊢
  intro b5 hb5
  rw [List.length_replicate, qkc]
  have hb5' := Heap.q08 le0 hb5
  have n52 := Ne.symm (q06 hb5 q2)
  have n53 := Ne.symm (q06 hb5 q3)
  have n54 := Ne.symm (q06 hb5 q4)
  try simp -implicitDefEqProofs only [zA,reduceIte,reduceCtorEq,Nat.reduceEqDiff,Nat.reduceAdd,Nat.reduceMul,Nat.reduceLT,Nat.reduceSub,Int.reduceLT,Int.reduceLE,Int.reduceEq,Int.reduceNe,Int.reduceSub,Int.reduceAdd,Int.reduceMul,Int.reduceBEq,Int.reduceBNe,Int.reduceGT,Int.reduceGE,Nat.reduceGT,Int.reduceToNat,Int.reduceNeg,Nat.reduceLeDiff,Nat.reduceBEq,Nat.reduceBneDiff]
  refine q0c (fun m t H => h.le H ∧ ∃ i : Nat, i ≤ 17 ∧ m = 17 - i ∧ t = tl [(2, .pointer (some ⟨b2, 0, none⟩)), (3, .pointer (some ⟨b3, 0, none⟩)), (4, .pointer (some ⟨b4, 0, none⟩)), (5, .pointer (some ⟨b5, 0, none⟩)), (6, .int .i64 i)] ∧
      H b2 = some (.own 0 (rowK .u32 f 17) 17) ∧ H b3 = some (.own 0 (rowK .u32 g 17) 17) ∧ H b4 = some (.own 0 (List.replicate 17 (.int .u32 0)) 17) ∧
      ∃ p, H b5 = some (.own 0 (rowK .u64 p 17) 17) ∧ (∀ j, j < 17 → p j ≤ 20808000 * (17 * i)) ∧ valD p 17 % PQ = valD f i * valD g 17 % PQ) 17 ?_ ?_
  · refine ⟨Heap.q1c le0 hb5 _, 0, by omega, rfl, rfl, by rw [Heap.q0d (Ne.symm n52)]; exact q2, by rw [Heap.q0d (Ne.symm n53)]; exact q3, by rw [Heap.q0d (Ne.symm n54)]; exact q4, fun _ => 0, Heap.q01 _ _ _, fun j hj => Nat.zero_le _, ?_⟩
    have : valD (fun _ => 0) 17 = 0 := by decide
    rw [this]; simp [valD]
  · clear q2 q3 q4
    rintro m t H ⟨leH, i, hi, rfl, rfl, q2, q3, q4, p, q5, hp, hv⟩
    by_cases hlt : (i : Int) < 17
    · have hi' : i < 17 := by omega
      have e0 : (0 : Int) ≤ i := by omega
      simp -implicitDefEqProofs only [zA,Nat.reduceEqDiff,hlt]
      unfold q9k
      simp -implicitDefEqProofs only [zA]
      refine q0c (fun m t H => h.le H ∧ ∃ k : Nat, k ≤ 17 ∧ m = 17 - k ∧ t = tl [(2, .pointer (some ⟨b2, 0, none⟩)), (3, .pointer (some ⟨b3, 0, none⟩)), (4, .pointer (some ⟨b4, 0, none⟩)), (5, .pointer (some ⟨b5, 0, none⟩)), (6, .int .i64 i), (7, .int .i64 k)] ∧
        H b2 = some (.own 0 (rowK .u32 f 17) 17) ∧ H b3 = some (.own 0 (rowK .u32 g 17) 17) ∧ H b4 = some (.own 0 (List.replicate 17 (.int .u32 0)) 17) ∧
        ∃ p, H b5 = some (.own 0 (rowK .u64 p 17) 17) ∧ (∀ j, j < 17 → p j ≤ 20808000 * (17 * i + k)) ∧ valD p 17 % PQ = (valD f i * valD g 17 + f i * 256 ^ i * valD g k) % PQ) 17 ?_ ?_
      · exact ⟨leH, 0, by omega, rfl, rfl, q2, q3, q4, p, q5, fun j hj => by have := hp j hj; omega, by rw [hv, valD, Nat.mul_zero, Nat.add_zero]⟩
      · clear q2 q3 q4 q5 hp hv p
        rintro m t H ⟨leH, k, hk, rfl, rfl, q2, q3, q4, p, q5, hp, hv⟩
        by_cases hlk : (k : Int) < 17
        · have hk' : k < 17 := by omega
          have k0 : (0 : Int) ≤ k := by omega
          have g2 := qcw q2 hi'
          have g3 := qcw q3 hk'
          have hfi := hf i hi'
          have hgk := hg k hk'
          have hprod : f i * g k ≤ 65025 := by
            have := Nat.mul_le_mul (show f i ≤ 255 by omega) (show g k ≤ 255 by omega)
            omega
          have w1 : IntKind.u64.wrap (f i : Int) = (f i : Int) := q1x (by omega)
          have w2 : IntKind.u64.wrap (g k : Int) = (g k : Int) := q1x (by omega)
          have w3 : IntKind.u64.wrap ((f i : Int) * (g k : Int)) = ((f i * g k : Nat) : Int) := by rw [← Int.natCast_mul]; exact q1x (by omega)
          have w4 : IntKind.i64.wrap ((i : Int) + (k : Int)) = ((i + k : Nat) : Int) := by rw [q0w (by omega) (by omega)]; rfl
          have w7 : IntKind.i64.wrap ((k : Int) + 1) = ((k + 1 : Nat) : Int) := q2k (by omega)
          by_cases hge : ((i + k : Nat) : Int) < 17
          · have hm : i + k < 17 := by omega
            have hge' : ¬ (17 : Int) ≤ ((i + k : Nat) : Int) := by omega
            have m0 : (0 : Int) ≤ ((i + k : Nat) : Int) := by omega
            have g5 := qcw q5 hm
            have hpm := hp _ hm
            have w5 : IntKind.u64.wrap ((p (i + k) : Int) + ((f i * g k : Nat) : Int)) = ((p (i + k) + f i * g k : Nat) : Int) := by rw [← Int.natCast_add]; exact q1x (by omega)
            have s5 := q2s (z := p (i + k) + f i * g k) q5 hm (Nat.le_refl _)
            simp -implicitDefEqProofs only [zA,Nat.reduceEqDiff,hlk,e0,k0,hlt,q5n,Int.toNat_natCast,g2,g3,w1,w2,w3,w4,w7,hge,hge',m0,g5,w5,s5]
            refine ⟨_, by omega, Heap.q02 leH hb5' _, k + 1, by omega, rfl, rfl, by rw [Heap.q0d (Ne.symm n52)]; exact q2, by rw [Heap.q0d (Ne.symm n53)]; exact q3, by rw [Heap.q0d (Ne.symm n54)]; exact q4, _, Heap.q01 _ _ _, ?_, mul_lo hm hv rfl⟩
            intro j hj
            have := hp j hj
            by_cases e : j = i + k
            · rw [e, qcb]; omega
            · rw [qg0 e]; omega
          · obtain ⟨m, hm⟩ : ∃ m, i + k = m + 17 := ⟨i + k - 17, by omega⟩
            have hm17 : m < 17 := by omega
            have hge' : (17 : Int) ≤ ((i + k : Nat) : Int) := by omega
            have m0 : (0 : Int) ≤ (m : Int) := by omega
            have m1 : (m : Int) < 17 := by omega
            have w6 : IntKind.i64.wrap (((i + k : Nat) : Int) - 17) = (m : Int) := by rw [q0w (by omega) (by omega)]; omega
            have g5 := qcw q5 hm17
            have hpm := hp _ hm17
            have w8 : IntKind.u64.wrap (320 * ((f i * g k : Nat) : Int)) = ((320 * (f i * g k) : Nat) : Int) := by
              have := q1x (n := 320 * (f i * g k)) (by omega)
              rw [← this]; congr 1
            have w5 : IntKind.u64.wrap ((p m : Int) + ((320 * (f i * g k) : Nat) : Int)) = ((p m + 320 * (f i * g k) : Nat) : Int) := by rw [← Int.natCast_add]; exact q1x (by omega)
            have s5 := q2s (z := p m + 320 * (f i * g k)) q5 hm17 (Nat.le_refl _)
            simp -implicitDefEqProofs only [zA,Nat.reduceEqDiff,hlk,e0,k0,hlt,q5n,Int.toNat_natCast,g2,g3,w1,w2,w3,w4,w7,hge',m0,m1,w6,g5,w8,w5,s5]
            refine ⟨_, by omega, Heap.q02 leH hb5' _, k + 1, by omega, rfl, rfl, by rw [Heap.q0d (Ne.symm n52)]; exact q2, by rw [Heap.q0d (Ne.symm n53)]; exact q3, by rw [Heap.q0d (Ne.symm n54)]; exact q4, _, Heap.q01 _ _ _, ?_, mul_hi hm hm17 hv rfl⟩
            intro j hj
            have := hp j hj
            by_cases e : j = m
            · rw [e, qcb]; omega
            · rw [qg0 e]; omega
        · obtain rfl : k = 17 := by omega
          have w7 : IntKind.i64.wrap ((i : Int) + 1) = ((i + 1 : Nat) : Int) := q2k (by omega)
          simp -implicitDefEqProofs only [zA,Nat.reduceEqDiff,Nat.reduceSub,Int.reduceLT,w7]
          refine ⟨_, by omega, leH, i + 1, by omega, rfl, rfl, q2, q3, q4, p, q5, fun j hj => by have := hp j hj; omega, ?_⟩
          have v1 : valD f (i + 1) = valD f i + f i * 256 ^ i := rfl
          rw [hv, v1, Nat.add_mul]
    · obtain rfl : i = 17 := by omega
      simp -implicitDefEqProofs only [zA,Nat.reduceEqDiff,Nat.reduceSub,Int.reduceLT]
      intro b9 hb9
      rw [q1l]
      have hb9' := Heap.q08 leH hb9
      have n94 := Ne.symm (q06 hb9 q4)
      have n95 := Ne.symm (q06 hb9 q5)
      have n59 := Ne.symm n95
      have hT : qqi 0 p := by
        intro j hj
        have := hp j hj
        omega
      have le9 : h.le (H.set b9 (.own 0 (rowK .u32 (fun x => 0) 17) 17)) := Heap.q1c leH hb9 _
      have q59 : (H.set b9 (.own 0 (rowK .u32 (fun x => 0) 17) 17)) b5 = some (.own 0 (rowK .u64 p 17) 17) := by rw [Heap.q0d n59]; exact q5
      have q49 : (H.set b9 (.own 0 (rowK .u32 (fun x => 0) 17) 17)) b4 = some (.own 0 (List.replicate 17 (.int .u32 0)) 17) := by rw [Heap.q0d (Ne.symm n94)]; exact q4
      have q99 : (H.set b9 (.own 0 (rowK .u32 (fun x => 0) 17) 17)) b9 = some (.own 0 (rowK .u32 (fun x => 0) 17) 17) := Heap.q01 _ _ _
      generalize (H.set b9 (.own 0 (rowK .u32 (fun x => 0) 17) 17)) = H9 at le9 q59 q49 q99 ⊢
      clear q2 q3 q4 q5 hp leH hlt hi
      generalize valD f 17 * valD g 17 % PQ = V at hv ⊢
      unfold q9j
      simp -implicitDefEqProofs only [zA]
      refine q0c (fun m t H => h.le H ∧ ∃ n : Nat, n ≤ 3 ∧ m = 3 - n ∧ t = tl [(4, .pointer (some ⟨b4, 0, none⟩)), (5, .pointer (some ⟨b5, 0, none⟩)), (9, .pointer (some ⟨b9, 0, none⟩)), (10, .int .i64 n)] ∧
        H b4 = some (.own 0 (List.replicate 17 (.int .u32 0)) 17) ∧ H b9 = some (.own 0 (rowK .u32 (fun x => 0) 17) 17) ∧
        ∃ p, H b5 = some (.own 0 (rowK .u64 p 17) 17) ∧ qqi n p ∧ valD p 17 % PQ = V) 3 ⟨le9, 0, by omega, rfl, rfl, q49, q99, p, q59, hT, hv⟩ ?_
      clear q59 q49 q99 hT hv p le9
      rintro m t H ⟨leH, n, hn, rfl, rfl, q4, q9, p, q5, hT, hv⟩
      by_cases hlt : (n : Int) < 3
      · have hn3 : n < 3 := by omega
        simp -implicitDefEqProofs only [zA,Nat.reduceEqDiff,hlt]
        refine q0c (fun m t H => h.le H ∧ ∃ i : Nat, i ≤ 17 ∧ m = 17 - i ∧ ∃ c : Nat, t = tl [(4, .pointer (some ⟨b4, 0, none⟩)), (5, .pointer (some ⟨b5, 0, none⟩)), (9, .pointer (some ⟨b9, 0, none⟩)), (10, .int .i64 n), (11, .int .u64 c), (12, .int .i64 i)] ∧
          H b4 = some (.own 0 (List.replicate 17 (.int .u32 0)) 17) ∧ H b9 = some (.own 0 (rowK .u32 (fun x => 0) 17) 17) ∧ c ≤ 2251799813685248 ∧
          ∃ q, H b5 = some (.own 0 (rowK .u64 q 17) 17) ∧ (∀ j, j < i → j < 16 → q j < 256) ∧ (i = 17 → q 16 < 4) ∧ (∀ j, i ≤ j → j < 17 → q j = p j) ∧ valD q 17 + c * wgt i = valD p 17) 17
          ⟨leH, 0, by omega, rfl, 0, rfl, q4, q9, by omega, p, q5, fun j hj => by omega, fun e => by omega, fun j _ _ => rfl, by rw [Nat.zero_mul, Nat.add_zero]⟩ ?_
        clear q4 q9 q5 leH
        rintro m t H ⟨leH, i, hi, rfl, c, rfl, q4, q9, hc, q, q5, hd, hd16, hr, hvq⟩
        have hpB := qye hT
        by_cases hli : (i : Int) < 17
        · have hi' : i < 17 := by omega
          have e0 : (0 : Int) ≤ i := by omega
          have g5 := qcw q5 hi'
          have hqp := hr i (Nat.le_refl _) hi'
          rw [hqp] at g5
          have hpi := hpB i hi'
          have w1 : IntKind.u64.wrap ((c : Int) + (p i : Int)) = ((c + p i : Nat) : Int) := by rw [← Int.natCast_add]; exact q1x (by omega)
          have w7 : IntKind.i64.wrap ((i : Int) + 1) = ((i + 1 : Nat) : Int) := q2k (by omega)
          have w3 := qwz (a := c + p i) (by omega)
          have w4 := qw1 (c + p i)
          have w4' := qy5 (c + p i)
          have w5 := u64_and3 (a := c + p i) (by omega)
          have w6 := qw2 (c + p i)
          have w6' := qy6 (c + p i)
          by_cases h16 : (i : Int) < 16
          · have s5 := q2s (z := (c + p i) % 256) q5 hi' (Nat.le_refl _)
            simp -implicitDefEqProofs only [zA,Nat.reduceEqDiff,Int.reduceLT,Int.reduceToNat,hli,e0,Int.toNat_natCast,g5,w1,h16,w3,s5,w4',w7,q4u]
            refine ⟨_, by omega, Heap.q02 leH hb5' _, i + 1, by omega, rfl, _, rfl, by rw [Heap.q0d (Ne.symm n54)]; exact q4, by rw [Heap.q0d n95]; exact q9, by omega, _, Heap.q01 _ _ _, ?_, fun e => by omega, ?_, qxm (by omega) hvq hqp⟩
            · intro j hj hj16
              by_cases e : j = i
              · rw [e, qcb]; omega
              · rw [qg0 e]; exact hd j (by omega) hj16
            · intro j hj hj17
              rw [qg0 (by omega)]; exact hr j (by omega) hj17
          · obtain rfl : i = 16 := by omega
            have s5 := q2s (z := (c + p 16) % 4) q5 hi' (Nat.le_refl _)
            simp -implicitDefEqProofs only [zA,Nat.reduceEqDiff,Nat.reduceSub,Int.reduceLT,Int.reduceLE,Int.reduceAdd,Int.reduceToNat,g5,w1,w5,s5,w6',q4u]
            refine ⟨_, by omega, Heap.q02 leH hb5' _, 17, by omega, rfl, _, rfl, by rw [Heap.q0d (Ne.symm n54)]; exact q4, by rw [Heap.q0d n95]; exact q9, by omega, _, Heap.q01 _ _ _, ?_, fun e => ?_, fun j h1 h2 => by omega, qxn hvq hqp⟩
            · intro j hj hj16
              rw [qg0 (by omega)]; exact hd j (by omega) hj16
            · rw [qcb]; omega
        · obtain rfl : i = 17 := by omega
          have hq16 := hd16 rfl
          have g5 := qcw q5 (show 0 < 17 by omega)
          have hq0 := hd 0 (by omega) (by omega)
          have w1 : IntKind.u64.wrap (5 * (c : Int)) = ((5 * c : Nat) : Int) := by
            have := q1x (n := 5 * c) (by omega)
            rw [← this]; congr 1
          have w2 : IntKind.u64.wrap ((q 0 : Int) + ((5 * c : Nat) : Int)) = ((q 0 + 5 * c : Nat) : Int) := by rw [← Int.natCast_add]; exact q1x (by omega)
          have s5 := q2s (z := q 0 + 5 * c) q5 (show 0 < 17 by omega) (Nat.le_refl _)
          have w7 : IntKind.i64.wrap ((n : Int) + 1) = ((n + 1 : Nat) : Int) := q2k (by omega)
          have hst := qyd hn3 hT (fun j hj => hd j (by omega) hj) hq16 hvq
          simp -implicitDefEqProofs only [zA,Nat.reduceEqDiff,Nat.reduceSub,Int.reduceLT,Int.reduceLE,Int.reduceToNat,g5,w1,w2,s5,w7,q9i]
          exact ⟨_, by omega, Heap.q02 leH hb5' _, n + 1, by omega, rfl, rfl, by rw [Heap.q0d (Ne.symm n54)]; exact q4, by rw [Heap.q0d n95]; exact q9, _, Heap.q01 _ _ _, hst.1, hst.2.trans hv⟩
      · obtain rfl : n = 3 := by omega
        obtain ⟨hT1, hT2⟩ : qnu p := hT
        simp -implicitDefEqProofs only [zA,Nat.reduceEqDiff,Nat.reduceSub,Int.reduceLT]
        unfold q9l
        simp -implicitDefEqProofs only [zA,Nat.reduceEqDiff]
        refine q0c (fun m t H => h.le H ∧ ∃ i : Nat, i ≤ 17 ∧ m = 17 - i ∧ t = tl [(4, .pointer (some ⟨b4, 0, none⟩)), (5, .pointer (some ⟨b5, 0, none⟩)), (9, .pointer (some ⟨b9, 0, none⟩)), (13, .int .i64 i)] ∧
          H b4 = some (.own 0 (List.replicate 17 (.int .u32 0)) 17) ∧ H b9 = some (.own 0 (rowK .u32 (q4f p (fun x => 0) i) 17) 17) ∧ H b5 = some (.own 0 (rowK .u64 p 17) 17)) 17 ⟨leH, 0, by omega, rfl, rfl, q4, by rw [qlq]; exact q9, q5⟩ ?_
        clear q4 q9 q5 leH
        rintro m t H ⟨leH, i, hi, rfl, rfl, q4, q9, q5⟩
        by_cases hli : (i : Int) < 17
        · have hi' : i < 17 := by omega
          have e0 : (0 : Int) ≤ i := by omega
          have g5 := qcw q5 hi'
          have hpi : p i < 256 := by
            by_cases e : i = 16
            · subst e; omega
            · exact hT1 i (by omega)
          have w1 : IntKind.u32.wrap (p i : Int) = ((p i : Nat) : Int) := qbg (by omega)
          have w7 : IntKind.i64.wrap ((i : Int) + 1) = ((i + 1 : Nat) : Int) := q2k (by omega)
          have s9 := q2s (z := p i) q9 hi' (Nat.le_refl _)
          rw [qb6] at s9
          simp -implicitDefEqProofs only [zA,Nat.reduceEqDiff,hli,e0,Int.toNat_natCast,g5,w1,w7,s9]
          exact ⟨_, by omega, Heap.q02 leH hb9' _, i + 1, by omega, rfl, rfl, by rw [Heap.q0d (Ne.symm n94)]; exact q4, Heap.q01 _ _ _, by rw [Heap.q0d n59]; exact q5⟩
        · obtain rfl : i = 17 := by omega
          rw [qr8] at q9
          have l9 := q2t q9
          have s4 := qdh (k := .u32) (f := p) q4 (by simp) (by omega)
          have l4 : q05 (H.set b4 (.own 0 (rowK .u32 p 17) 17)) ⟨b4, 0, none⟩ 17 = some (rowK .u32 p 17) := z6x (q1l _ _ _)
          simp -implicitDefEqProofs only [zA,Nat.reduceEqDiff,Nat.reduceSub,Int.reduceLT,l9,s4,l4]
          exact ⟨Heap.q02 leH hb4' _, p, rfl, ⟨hT1, hT2⟩, hv⟩
theorem unit1 : Value.int .u32 1 :: List.drop 1 (List.replicate 17 (Value.int .u32 0)) = rowK .u32 (q4a 1) 17 := rfl
theorem unit5 : Value.int .u32 5 :: List.drop 1 (List.replicate 17 (Value.int .u32 0)) = rowK .u32 (q4a 5) 17 := rfl
theorem qt0 (E : EnvT tab) (h : Heap) (f : Nat → Nat) (hf : ∀ j, j < 17 → f j < 256) :
    ACallN E.toEnv qjg [.agg (rowK .u32 f 17).toArray] h fun r h' => h.le h' ∧ ∃ p, r = .agg (rowK .u32 p 17).toArray ∧ qnu p ∧ valD p 17 = valD f 17 % PQ := by
  refine q0o q8h q3w rfl rfl (q03 ?_)
  unfold q3w
  simp -implicitDefEqProofs only [zA,reduceCtorEq,Nat.reduceEqDiff,Nat.reduceLeDiff,List.length_replicate,unit1,q1l]
  intro b1 hb1 b2 hb2 b3 hb3
  obtain ⟨n21, hb2'⟩ := Heap.q0b.1 hb2
  obtain ⟨n32, hb3a⟩ := Heap.q0b.1 hb3
  obtain ⟨n31, hb3'⟩ := Heap.q0b.1 hb3a
  have s3 : q0a (((h.set b1 (.own 0 (rowK .u32 f 17) 17)).set b2 (.own 0 (List.replicate 17 (.int .u32 0)) 17)).set b3 (.own 0 (List.replicate 17 (.int .u32 0)) 17)) 17 (.pointer (some ⟨b3, 0, none⟩)) (.agg (rowK .u32 (q4a 1) 17).toArray) = some ((((h.set b1 (.own 0 (rowK .u32 f 17) 17)).set b2 (.own 0 (List.replicate 17 (.int .u32 0)) 17)).set b3 (.own 0 (rowK .u32 (q4a 1) 17) 17))) := z6z (by omega) (q1l _ _ _) (qny _ _ _) (by simp) (by omega)
  try simp -implicitDefEqProofs only [zA,Nat.reduceEqDiff,s3]
  have le0 : h.le (((h.set b1 (.own 0 (rowK .u32 f 17) 17)).set b2 (.own 0 (List.replicate 17 (.int .u32 0)) 17)).set b3 (.own 0 (rowK .u32 (q4a 1) 17) 17)) := Heap.q02 (Heap.q02 (Heap.q02 (Heap.q04 _) hb1 _) hb2' _) hb3' _
  have q1 : (((h.set b1 (.own 0 (rowK .u32 f 17) 17)).set b2 (.own 0 (List.replicate 17 (.int .u32 0)) 17)).set b3 (.own 0 (rowK .u32 (q4a 1) 17) 17)) b1 = some (.own 0 (rowK .u32 f 17) 17) := q07 (q07 (Heap.q01 _ _ _) (Ne.symm n21)) (Ne.symm n31)
  have q2 : (((h.set b1 (.own 0 (rowK .u32 f 17) 17)).set b2 (.own 0 (List.replicate 17 (.int .u32 0)) 17)).set b3 (.own 0 (rowK .u32 (q4a 1) 17) 17)) b2 = some (.own 0 (List.replicate 17 (.int .u32 0)) 17) := q07 (Heap.q01 _ _ _) (Ne.symm n32)
  have q3 : (((h.set b1 (.own 0 (rowK .u32 f 17) 17)).set b2 (.own 0 (List.replicate 17 (.int .u32 0)) 17)).set b3 (.own 0 (rowK .u32 (q4a 1) 17) 17)) b3 = some (.own 0 (rowK .u32 (q4a 1) 17) 17) := Heap.q01 _ _ _
  generalize (((h.set b1 (.own 0 (rowK .u32 f 17) 17)).set b2 (.own 0 (List.replicate 17 (.int .u32 0)) 17)).set b3 (.own 0 (rowK .u32 (q4a 1) 17) 17)) = h1 at le0 q1 q2 q3 ⊢
  clear s3 hb3 hb3a n31 n32 hb2
  have l1 := q2t q1
  have l3 := q2t q3
  simp -implicitDefEqProofs only [zA,Nat.reduceEqDiff,l1,l3]
  refine (qn1 E _ f (q4a 1) hf (fun j hj => by unfold q4a; split <;> omega)).mono ?_
  rintro v h2 ⟨le2, q, rfl, nq, hv⟩
  rw [qoh, Nat.mul_one] at hv
  have s1 := qdh (k := .u32) (f := q) (le2 _ _ q1) (q1l _ _ _) (by omega)
  have le02 := Heap.q00 le0 le2
  simp -implicitDefEqProofs only [zA,Nat.reduceEqDiff,s1]
  have q1' : (h2.set b1 (.own 0 (rowK .u32 q 17) 17)) b1 = some (.own 0 (rowK .u32 q 17) 17) := Heap.q01 _ _ _
  have q2' : (h2.set b1 (.own 0 (rowK .u32 q 17) 17)) b2 = some (.own 0 (List.replicate 17 (.int .u32 0)) 17) := q07 (le2 _ _ q2) n21
  have le3 : h.le (h2.set b1 (.own 0 (rowK .u32 q 17) 17)) := Heap.q02 le02 hb1 _
  generalize (h2.set b1 (.own 0 (rowK .u32 q 17) 17)) = h3 at q1' q2' le3 ⊢
  unfold q9m
  simp -implicitDefEqProofs only [zA,Nat.reduceEqDiff,Nat.reduceLeDiff,List.length_replicate,unit5]
  intro b4 hb4
  have s4 : q0a (h3.set b4 (.own 0 (List.replicate 17 (.int .u32 0)) 17)) 17 (.pointer (some ⟨b4, 0, none⟩)) (.agg (rowK .u32 (q4a 5) 17).toArray) = some (h3.set b4 (.own 0 (rowK .u32 (q4a 5) 17) 17)) := z6z (by omega) (q1l _ _ _) (qny _ _ _) (by simp) (by omega)
  have q14 := q1b (X := .own 0 (rowK .u32 (q4a 5) 17) 17) hb4 q1'
  have q24 := q1b (X := .own 0 (rowK .u32 (q4a 5) 17) 17) hb4 q2'
  have q44 := Heap.q01 h3 b4 (.own 0 (rowK .u32 (q4a 5) 17) 17)
  have le4 := Heap.q1c le3 hb4 (.own 0 (rowK .u32 (q4a 5) 17) 17)
  try simp -implicitDefEqProofs only [zA,Nat.reduceEqDiff,s4]
  generalize (h3.set b4 (.own 0 (rowK .u32 (q4a 5) 17) 17)) = h4 at q14 q24 q44 le4 ⊢
  have l14 := q2t q14
  have l44 := q2t q44
  simp -implicitDefEqProofs only [zA,Nat.reduceEqDiff,l14,l44]
  refine (qj9 E _ q (q4a 5) (fun j hj => by have := qi1 nq j hj; omega) (fun j hj => by unfold q4a; split <;> omega)).mono ?_
  rintro v h5 ⟨le5, rfl⟩
  have hi := least_hi nq
  have lo := least_lo nq
  rw [hv] at hi
  have lo : ¬ 4 ≤ addD q (q4a 5) 16 → valD q 17 = valD f 17 % PQ := fun x => by rw [lo x, hv]
  have c16 : addD q (q4a 5) 16 < 4294967296 := by
    rw [j0f]
    have h1 := qvm (f := q) (g := q4a 5) (B := 255) (fun j hj => by have := qi1 nq j hj; omega) (fun j hj => by unfold q4a; split <;> omega) 16 (by omega)
    have h2 := nq.2
    have h3 : q4a 5 16 = 0 := rfl
    omega
  generalize addD q (q4a 5) = g at hi lo c16 ⊢
  simp -implicitDefEqProofs only [zA,Nat.reduceEqDiff,List.length_replicate]
  intro b5 hb5
  have q15 := q1b (X := .own 0 (List.replicate 17 (.int .u32 0)) 17) hb5 (le5 _ _ q14)
  have q25 := q1b (X := .own 0 (List.replicate 17 (.int .u32 0)) 17) hb5 (le5 _ _ q24)
  have n25 := q06 hb5 (le5 _ _ q24)
  have n15 := q06 hb5 (le5 _ _ q14)
  have hb5' := Heap.q08 (Heap.q00 le4 le5) hb5
  have s5 : q0a (h5.set b5 (.own 0 (List.replicate 17 (.int .u32 0)) 17)) 17 (.pointer (some ⟨b5, 0, none⟩)) (.agg (rowK .u32 g 17).toArray) = some (h5.set b5 (.own 0 (rowK .u32 g 17) 17)) := z6z (by omega) (q1l _ _ _) (qny _ _ _) (by simp) (by omega)
  have q55 := Heap.q01 h5 b5 (.own 0 (rowK .u32 g 17) 17)
  have q15 := q1b (X := .own 0 (rowK .u32 g 17) 17) hb5 (le5 _ _ q14)
  have q25 := q1b (X := .own 0 (rowK .u32 g 17) 17) hb5 (le5 _ _ q24)
  have le55 := Heap.q1c (Heap.q00 le4 le5) hb5 (.own 0 (rowK .u32 g 17) 17)
  simp -implicitDefEqProofs only [zA,Nat.reduceEqDiff,Int.reduceLT,Int.reduceLE,Int.reduceToNat,s5]
  generalize (h5.set b5 (.own 0 (rowK .u32 g 17) 17)) = h6 at q55 q15 q25 le55 ⊢
  have g5 := qcw q55 (show 16 < 17 by omega)
  by_cases c4 : (4 : Int) ≤ (g 16 : Int)
  · obtain ⟨nu, hu⟩ := hi (by omega)
    have w3 := u32_and3 c16
    have s6 := q2s (z := g 16 % 4) q55 (show 16 < 17 by omega) (Nat.le_refl _)
    have q56 := Heap.q01 h6 b5 (.own 0 (rowK .u32 (upd g 16 (g 16 % 4)) 17) 17)
    have q26 : (h6.set b5 (.own 0 (rowK .u32 (upd g 16 (g 16 % 4)) 17) 17)) b2 = some (.own 0 (List.replicate 17 (.int .u32 0)) 17) := q07 q25 n25
    have l5 := q2t q56
    have s2 := qdh (k := .u32) (f := upd g 16 (g 16 % 4)) q26 (by simp) (by omega)
    have l2 := z6x (h := h6.set b5 (.own 0 (rowK .u32 (upd g 16 (g 16 % 4)) 17) 17)) (b := b2) (sz := 17) (q1l .u32 (upd g 16 (g 16 % 4)) 17)
    simp -implicitDefEqProofs only [zA,Nat.reduceEqDiff,Int.reduceLT,Int.reduceLE,Int.reduceToNat,g5,c4,w3,s6,l5,s2,l2]
    exact ⟨Heap.q02 (Heap.q02 le55 hb5' _) hb2' _, _, rfl, nu, hu⟩
  · have l1 := q2t q15
    have s2 := qdh (k := .u32) (f := q) q25 (by simp) (by omega)
    have l2 := z6x (h := h6) (b := b2) (sz := 17) (q1l .u32 q 17)
    simp -implicitDefEqProofs only [zA,Nat.reduceEqDiff,g5,c4,l1,s2,l2]
    exact ⟨Heap.q02 le55 hb2' _, _, rfl, nq, lo (by omega)⟩
theorem qt1 (E : EnvT tab) (h : Heap) (f : Nat → UInt8) : ACallN E.toEnv qjh [.agg (row8 f 16).toArray] h fun r h' => h.le h' ∧ r = .agg (row8 (qez f) 16).toArray := by
  refine q0o q8i q3x rfl rfl (q03 ?_)
  unfold q3x
  simp -implicitDefEqProofs only [zA,reduceCtorEq,Nat.reduceEqDiff,List.length_replicate,q0m]
  intro b1 hb1 b2 hb2
  obtain ⟨n21, hb2'⟩ := Heap.q0b.1 hb2
  try simp -implicitDefEqProofs only [zA,reduceIte,reduceCtorEq,Nat.reduceEqDiff,Nat.reduceAdd,Nat.reduceMul,Nat.reduceLT,Nat.reduceSub,Int.reduceLT,Int.reduceLE,Int.reduceEq,Int.reduceNe,Int.reduceSub,Int.reduceAdd,Int.reduceMul,Int.reduceBEq,Int.reduceBNe,Int.reduceGT,Int.reduceGE,Nat.reduceGT,Int.reduceToNat,Int.reduceNeg,Nat.reduceLeDiff,Nat.reduceBEq,Nat.reduceBneDiff]
  have le0 : h.le ((h.set b1 (.own 0 (row8 f 16) 16)).set b2 (.own 0 (List.replicate 16 (.int .u8 0)) 16)) := Heap.q02 (Heap.q02 (Heap.q04 _) hb1 _) hb2' _
  have q1 : ((h.set b1 (.own 0 (row8 f 16) 16)).set b2 (.own 0 (List.replicate 16 (.int .u8 0)) 16)) b1 = some (.own 0 (row8 (clA f 0) 16) 16) := by
    rw [Heap.q0d (Ne.symm n21), Heap.q01]
    rw [show row8 f 16 = row8 (clA f 0) 16 from q1s fun k _ => by unfold clA; rw [if_neg (by omega)]]
  have q2 : ((h.set b1 (.own 0 (row8 f 16) 16)).set b2 (.own 0 (List.replicate 16 (.int .u8 0)) 16)) b2 = some (.own 0 (List.replicate 16 (.int .u8 0)) 16) := Heap.q01 _ _ _
  generalize ((h.set b1 (.own 0 (row8 f 16) 16)).set b2 (.own 0 (List.replicate 16 (.int .u8 0)) 16)) = h1 at le0 q1 q2 ⊢
  refine q0c (fun m t H => h.le H ∧ ∃ (i : Nat), t = tl [(1, .pointer (some ⟨b1, 0, none⟩)), (2, .pointer (some ⟨b2, 0, none⟩)), (3, .int .i64 (ixA i : Nat))] ∧ i ≤ 4 ∧ m = 4 - i ∧
      H b1 = some (.own 0 (row8 (clA f i) 16) 16) ∧ H b2 = some (.own 0 (List.replicate 16 (.int .u8 0)) 16)) 4
    ⟨le0, 0, rfl, by omega, by omega, q1, q2⟩ ?_
  clear q1 q2 le0
  rintro m t H ⟨leH, i, rfl, hi, rfl, q1, q2⟩
  by_cases hlt : i < 4
  · have x1 : ixA i < 16 := by unfold ixA; omega
    have x2 : ((ixA i : Nat) : Int) < 16 := by omega
    have x3 : (0 : Int) ≤ ((ixA i : Nat) : Int) := by omega
    have w1 : IntKind.i64.wrap (((ixA i : Nat) : Int) + 4) = ((ixA (i + 1) : Nat) : Int) := by rw [q0w (by omega) (by omega)]; unfold ixA; omega
    have c1 := qoq q1 x1
    have s1 := qen (z := clA f i (ixA i) &&& 15) q1 x1
    rw [qwk] at s1
    simp -implicitDefEqProofs only [zA,Nat.reduceEqDiff,x2,x3,Int.toNat_natCast,c1,u8_a15,s1,w1]
    exact ⟨_, by omega, Heap.q02 leH hb1 _, i + 1, rfl, by omega, rfl, Heap.q01 _ _ _, q07 q2 n21⟩
  · have : i = 4 := by omega
    subst this
    have x2 : ¬ ((ixA 4 : Nat) : Int) < 16 := by decide
    rw [show row8 (clA f 4) 16 = row8 (clB (clA f 4) 0) 16 from q1s fun k _ => by (conv => rhs; unfold clB); rw [if_neg (by omega)]] at q1
    generalize hg : clA f 4 = g at q1
    have hcl : qez f = clB g 3 := by unfold qez; rw [hg]
    rw [hcl]
    simp -implicitDefEqProofs only [zA,Nat.reduceEqDiff,Nat.reduceSub,x2]
    unfold qai
    simp -implicitDefEqProofs only [zA,Nat.reduceEqDiff]
    refine q0c (fun m t H => h.le H ∧ ∃ (i : Nat), t = tl [(1, .pointer (some ⟨b1, 0, none⟩)), (2, .pointer (some ⟨b2, 0, none⟩)), (4, .int .i64 (ixB i : Nat))] ∧ i ≤ 3 ∧ m = 3 - i ∧
        H b1 = some (.own 0 (row8 (clB g i) 16) 16) ∧ H b2 = some (.own 0 (List.replicate 16 (.int .u8 0)) 16)) 3
      ⟨leH, 0, rfl, by omega, by omega, q1, q2⟩ ?_
    clear q1 q2 leH
    rintro m t H ⟨leH, i, rfl, hi, rfl, q1, q2⟩
    by_cases hlt : i < 3
    · have x1 : ixB i < 16 := by unfold ixB; omega
      have x2 : ((ixB i : Nat) : Int) < 16 := by omega
      have x3 : (0 : Int) ≤ ((ixB i : Nat) : Int) := by omega
      have w1 : IntKind.i64.wrap (((ixB i : Nat) : Int) + 4) = ((ixB (i + 1) : Nat) : Int) := by rw [q0w (by omega) (by omega)]; unfold ixB; omega
      have c1 := qoq q1 x1
      have s1 := qen (z := clB g i (ixB i) &&& 252) q1 x1
      rw [qwj] at s1
      simp -implicitDefEqProofs only [zA,Nat.reduceEqDiff,x2,x3,Int.toNat_natCast,c1,qy3,s1,w1]
      exact ⟨_, by omega, Heap.q02 leH hb1 _, i + 1, rfl, by omega, rfl, Heap.q01 _ _ _, q07 q2 n21⟩
    · have : i = 3 := by omega
      subst this
      have x2 : ¬ ((ixB 3 : Nat) : Int) < 16 := by decide
      have hl : q05 H ⟨b1, 0, none⟩ 16 = some (row8 (clB g 3) 16) := by rw [q0l q1 (by rw [q0m]; omega)]; simp [List.take_of_length_le, q0m]
      have st : q0a H 16 (.pointer (some ⟨b2, 0, none⟩)) (.agg (row8 (clB g 3) 16).toArray) = some (H.set b2 (.own 0 (row8 (clB g 3) 16) 16)) := q0f q2 (by omega) (q0m _ _) (by simp [row8, one]) (by simp) (by omega)
      have hl2 : q05 (H.set b2 (.own 0 (row8 (clB g 3) 16) 16)) ⟨b2, 0, none⟩ 16 = some (row8 (clB g 3) 16) := z6x (q0m _ _)
      simp -implicitDefEqProofs only [zA,Nat.reduceEqDiff,Nat.reduceSub,x2,hl,st,hl2]
      exact Heap.q02 leH hb2' _
theorem tag13 (E : EnvT tab) {h H : Heap} {Q : AExit → T → Heap → Prop} {base : Option Addr} {c b2 b4 b7 b9 b11 i n : Nat} {l : List UInt8} {q r : Nat → Nat} {nz : Int} (xs : List (Nat × Value)) (hnz : nz = (n : Int))
    (sl : SlB h (.slice base l.length c) l) (hi : i < l.length) (hl : l.length ≤ 100000000) (hn : n = min 16 (l.length - i)) (hh : h.le H) (h9 : h b9 = none) (h11 : h b11 = none)
    (q7 : H b7 = some (.own 0 (rowK .u32 r 17) 17)) (q9 : H b9 = some (.own 0 (rowK .u32 q 17) 17)) (q11 : H b11 = some (.own 0 (rowK .u32 (fun _ => 0) 17) 17))
    (hr : ∀ j, j < 17 → r j < 256) (nq : qnu q) (n97 : b7 ≠ b9) (nb : b7 ≠ b11) (n911 : b9 ≠ b11)
    (hQ : ∀ H' p, h.le H' → (∀ b y, b ≠ b9 → b ≠ b11 → H b = some y → H' b = some y) → H' b9 = some (.own 0 (rowK .u32 p 17) 17) → qnu p → valD p 17 % PQ = (valD q 17 + blkV ((l.drop i).take n)) * valD r 17 % PQ →
      Q .normal (tl [(1, .slice base l.length c), (2, .pointer (some ⟨b2, 0, none⟩)), (4, .pointer (some ⟨b4, 0, none⟩)), (7, .pointer (some ⟨b7, 0, none⟩)), (9, .pointer (some ⟨b9, 0, none⟩)), (10, .int .i64 i)]) H') :
    wpA E.toEnv 95 q6h Q (tl ([(1, .slice base l.length c), (2, .pointer (some ⟨b2, 0, none⟩)), (4, .pointer (some ⟨b4, 0, none⟩)), (7, .pointer (some ⟨b7, 0, none⟩)), (9, .pointer (some ⟨b9, 0, none⟩)), (10, .int .i64 i), (11, .pointer (some ⟨b11, 0, none⟩)), (12, .int .i64 nz)] ++ xs)) H := by
  subst hnz
  unfold q6h
  simp -implicitDefEqProofs only [zA,Nat.reduceEqDiff]
  refine q0c (fun m t H' => ∃ k : Nat, k ≤ n ∧ m = n - k ∧ t = tl [(1, .slice base l.length c), (2, .pointer (some ⟨b2, 0, none⟩)), (4, .pointer (some ⟨b4, 0, none⟩)), (7, .pointer (some ⟨b7, 0, none⟩)), (9, .pointer (some ⟨b9, 0, none⟩)), (10, .int .i64 i), (11, .pointer (some ⟨b11, 0, none⟩)), (12, .int .i64 n), (13, .int .i64 k)] ∧
    H' = H.set b11 (.own 0 (rowK .u32 (q4f (fun j => (((l.drop i).take n).getD j 0).toNat) (fun _ => 0) k) 17) 17)) n ⟨0, by omega, by omega, rfl, by rw [qlq, Heap.qad q11]⟩ ?_
  rintro m t H' ⟨k, hk, rfl, rfl, rfl⟩
  have q11' := Heap.q01 H b11 (.own 0 (rowK .u32 (q4f (fun j => (((l.drop i).take n).getD j 0).toNat) (fun _ => 0) k) 17) 17)
  by_cases hlt : (k : Int) < (n : Int)
  · have hk' : k < n := by omega
    have hx : l[i + k]'(by omega) = ((l.drop i).take n).getD k 0 := by
      simp [List.getD_eq_getElem?_getD, List.getElem?_take, List.getElem?_drop, hk']
      rw [List.getElem?_eq_getElem (by omega)]; rfl
    obtain ⟨b, o, c', hv, hc, hcl⟩ := Sl.q7x sl (i + k) (by omega)
    simp only [Value.slice.injEq, true_and] at hv
    obtain ⟨rfl, rfl⟩ := hv
    have hz := hcl (H.set b11 (.own 0 (rowK .u32 (q4f (fun j => (((l.drop i).take n).getD j 0).toNat) (fun _ => 0) k) 17) 17)) (Heap.q02 hh h11 _)
    rw [hx] at hz
    unfold u8V at hz
    have e1 : (0 : Int) ≤ ((i + k : Nat) : Int) := by omega
    have e2 : ((i + k : Nat) : Int) < (l.length : Int) := by omega
    have e3 : (k : Int) < 17 := by omega
    have e0 : (0 : Int) ≤ (k : Int) := by omega
    have w1 : IntKind.i64.wrap ((i : Int) + (k : Int)) = ((i + k : Nat) : Int) := by rw [q0w (by omega) (by omega)]; rfl
    have ht : (((l.drop i).take n).getD k 0).toNat < 256 := (((l.drop i).take n).getD k 0).toNat_lt
    have w2 : IntKind.u32.wrap ((((l.drop i).take n).getD k 0).toNat : Int) = ((((l.drop i).take n).getD k 0).toNat : Int) := qbg (by omega)
    have w7 : IntKind.i64.wrap ((k : Int) + 1) = ((k + 1 : Nat) : Int) := q2k (by omega)
    have s11 := q2s (z := (((l.drop i).take n).getD k 0).toNat) q11' (show k < 17 by omega) (Nat.le_refl _)
    rw [Heap.q5f, qb6 (fun j => (((l.drop i).take n).getD j 0).toNat)] at s11
    simp -implicitDefEqProofs only [zA,Nat.reduceEqDiff,hlt,e0,e1,e2,e3,w1,hz,w2,s11,w7,Int.toNat_natCast]
    exact ⟨_, by omega, k + 1, by omega, rfl, rfl, rfl⟩
  · obtain rfl : k = n := by omega
    have lL : ((l.drop i).take k).length = k := by simp; omega
    have e1 : (0 : Int) ≤ (k : Int) := by omega
    have e2 : (k : Int) < 17 := by omega
    have s11 := q2s (z := 1) q11' (show k < 17 by omega) (Nat.le_refl _)
    have eD : upd (q4f (fun j => (((l.drop i).take k).getD j 0).toNat) (fun _ => 0) k) k 1 = endD ((l.drop i).take k) := by unfold endD; rw [lL]
    rw [Heap.q5f, eD, show ((1 : Nat) : Int) = 1 from rfl] at s11
    have hb1 : blkV ((l.drop i).take k) = valD (endD ((l.drop i).take k)) 17 := by rw [endD_val _ (by omega), blkV]
    have d1 := endD_lt ((l.drop i).take k)
    have d2 := endD_16 ((l.drop i).take k) (by omega)
    rw [hb1] at hQ
    generalize endD ((l.drop i).take k) = g at s11 d1 d2 hQ
    simp -implicitDefEqProofs only [zA,Nat.reduceEqDiff,hlt]
    unfold qbq
    simp -implicitDefEqProofs only [zA,Nat.reduceEqDiff,e1,e2,Int.toNat_natCast,s11]
    have l9 : q05 (H.set b11 (.own 0 (rowK .u32 g 17) 17)) ⟨b9, 0, none⟩ 17 = some (rowK .u32 q 17) := q2t (q07 q9 n911)
    have l7 : q05 (H.set b11 (.own 0 (rowK .u32 g 17) 17)) ⟨b7, 0, none⟩ 17 = some (rowK .u32 r 17) := q2t (q07 q7 nb)
    have l11 : q05 (H.set b11 (.own 0 (rowK .u32 g 17) 17)) ⟨b11, 0, none⟩ 17 = some (rowK .u32 g 17) := z6x (q1l _ _ _)
    have q71 : (H.set b11 (.own 0 (rowK .u32 g 17) 17)) b7 = some (.own 0 (rowK .u32 r 17) 17) := q07 q7 nb
    have q91 : (H.set b11 (.own 0 (rowK .u32 g 17) 17)) b9 = some (.own 0 (rowK .u32 q 17) 17) := q07 q9 n911
    have hh1 : h.le (H.set b11 (.own 0 (rowK .u32 g 17) 17)) := Heap.q02 hh h11 _
    have keep1 : ∀ b y, b ≠ b9 → b ≠ b11 → H b = some y → (H.set b11 (.own 0 (rowK .u32 g 17) 17)) b = some y := fun b y _ x hy => q07 hy x
    generalize (H.set b11 (.own 0 (rowK .u32 g 17) 17)) = H1 at l9 l7 l11 q71 q91 hh1 keep1 ⊢
    simp -implicitDefEqProofs only [zA,Nat.reduceEqDiff,l9,l11]
    refine (qj9 E _ q g (fun j hj => by have := qi1 nq j hj; omega) (fun j hj => by have := d1 j; omega)).mono ?_
    rintro v H2 ⟨le2, rfl⟩
    have l7' := q22 le2 l7
    simp -implicitDefEqProofs only [zA,Nat.reduceEqDiff,l7,l7',List.mem_cons,List.not_mem_nil,or_false,forall_eq]
    refine (qn1 E _ (addD q g) r (sum_lt nq (fun j _ => d1 j) d2) hr).mono ?_
    rintro v H3 ⟨le3, p, rfl, np, hv⟩
    rw [qo7] at hv
    have le13 := Heap.q00 le2 le3
    have s9 := qdh (k := .u32) (f := p) (le13 _ _ q91) (q1l _ _ _) (by omega)
    simp -implicitDefEqProofs only [zA,Nat.reduceEqDiff,s9]
    exact hQ _ p (Heap.q02 (Heap.q00 hh1 le13) h9 _) (fun b y x1 x2 hy => q07 (le13 _ _ (keep1 b y x1 x2 hy)) x1) (Heap.q01 _ _ _) np hv
theorem j0a (l : List UInt8) (i n : Nat) (hn : n = min 16 (l.length - i)) : blkV ((l.drop i).take n) = blkV ((l.drop i).take 16) := by
  have : (l.drop i).take n = (l.drop i).take 16 := by
    rw [hn]
    by_cases e : 16 ≤ l.length - i
    · rw [Nat.min_eq_left e]
    · rw [Nat.min_eq_right (by omega), List.take_of_length_le (by simp), List.take_of_length_le (by simp; omega)]
  rw [this]
theorem qqq (E : EnvT tab) (h : Heap) {v : Value} (w l : List UInt8) (hw : w.length = 32) (hl : l.length ≤ 100000000) (sl : SlB h v l) :
    ACallN E.toEnv qmc [.agg (w.map u8V).toArray, v] h fun r h' => h.le h' ∧ r = .agg (row8 (tagR w l) 16).toArray := by
  obtain ⟨base, c, rfl⟩ := Sl.shape sl
  refine q0o qaz q61 rfl rfl (q03 ?_)
  unfold q61
  have hw' : (w.map u8V).length = 32 := by simp [hw]
  have r16 : (List.replicate 16 (Value.int .u8 0)).all one = true := by decide
  simp -implicitDefEqProofs only [zA,reduceCtorEq,Nat.reduceEqDiff,Nat.reduceAdd,hw',List.length_replicate]
  intro b2 hb2 b4 hb4
  obtain ⟨n42, hb4'⟩ := Heap.q0b.1 hb4
  have le1 : h.le ((h.set b2 (.own 0 (w.map u8V) 32)).set b4 (.own 0 (List.replicate 16 (.int .u8 0)) 16)) := Heap.q02 (Heap.q02 (Heap.q04 _) hb2 _) hb4' _
  have q2 : ((h.set b2 (.own 0 (w.map u8V) 32)).set b4 (.own 0 (List.replicate 16 (.int .u8 0)) 16)) b2 = some (.own 0 (w.map u8V) 32) := q07 (Heap.q01 _ _ _) (Ne.symm n42)
  have q4 : ((h.set b2 (.own 0 (w.map u8V) 32)).set b4 (.own 0 (List.replicate 16 (.int .u8 0)) 16)) b4 = some (.own 0 (List.replicate 16 (.int .u8 0)) 16) := Heap.q01 _ _ _
  generalize ((h.set b2 (.own 0 (w.map u8V) 32)).set b4 (.own 0 (List.replicate 16 (.int .u8 0)) 16)) = h1 at le1 q2 q4 ⊢
  intro b5 hb5
  have st5 : q0a (h1.set b5 (.own 0 (List.replicate 16 (.int .u8 0)) 16)) 16 (.pointer (some ⟨b5, 0, none⟩)) (.agg (List.replicate 16 (Value.int .u8 0)).toArray) = some (h1.set b5 (.own 0 (List.replicate 16 (.int .u8 0)) 16)) := z6z (by omega) (by simp) r16 (by simp) (by omega)
  have bd1 : bnds 32 32 none (some (some (.int .i64 16))) none = some (0, 16, 32) := q5t (by omega) (by omega)
  have n52 := q06 hb5 q2
  simp -implicitDefEqProofs only [zA,reduceCtorEq,Nat.reduceEqDiff,st5,qeg,bd1,Nat.sub_zero,addz]
  have sW := qgl (l := w) (sz := 32) (H := h1.set b5 (.own 0 (List.replicate 16 (.int .u8 0)) 16)) (by rw [Heap.q0d n52]; exact q2)
  have sW16 := Sl.qsj sW (m := 16) (by omega)
  rw [hw] at sW16
  have l16 : (w.take 16).length = 16 := by simp [hw]
  refine qd3 (size := 1) (m := 16) (Heap.q01 _ _ _) (by simp) (by simp) (by unfold SlB at sW16; rw [l16] at sW16; exact sW16) (q1i _) ?_
  have eC : q1t (List.replicate 16 (Value.int .u8 0)) 0 (((w.take 16).map u8V).take (min 16 16 * 1)) = (w.take 16).map u8V := by
    rw [List.take_of_length_le (by simp; omega)]
    unfold q1t
    simp only [List.take_zero, List.nil_append, List.length_map, l16, Nat.zero_add, List.drop_replicate, Nat.sub_self, List.replicate_zero, List.append_nil]
  rw [eC, Heap.q5f]
  have l5 : q05 (h1.set b5 (.own 0 ((w.take 16).map u8V) 16)) ⟨b5, 0, none⟩ 16 = some (row8 (fun j => w.getD j 0) 16) := by
    rw [z6x (by simp; omega), ← qkd, l16]
    congr 1
    apply q1s
    intro k hk
    simp [List.getElem?_take, hk]
  have le5 := Heap.q1c le1 hb5 (.own 0 ((w.take 16).map u8V) 16)
  have q25 := q1b (X := .own 0 ((w.take 16).map u8V) 16) hb5 q2
  have q45 := q1b (X := .own 0 ((w.take 16).map u8V) 16) hb5 q4
  generalize (h1.set b5 (.own 0 ((w.take 16).map u8V) 16)) = h2 at l5 le5 q25 q45 ⊢
  simp -implicitDefEqProofs only [zA,Nat.reduceEqDiff]
  unfold qbr
  simp -implicitDefEqProofs only [zA,Nat.reduceEqDiff,l5]
  refine (qt1 E _ _).mono ?_
  rintro r h3 ⟨le3, rfl⟩
  have eR : row8 (qez fun j => w.getD j 0) 16 = row8 (keyR w) 16 := rfl
  rw [eR]
  simp -implicitDefEqProofs only [zA,Nat.reduceEqDiff,List.length_replicate]
  intro b6 hb6
  have st6 : q0a (h3.set b6 (.own 0 (List.replicate 16 (.int .u8 0)) 16)) 16 (.pointer (some ⟨b6, 0, none⟩)) (.agg (row8 (keyR w) 16).toArray) = some (h3.set b6 (.own 0 (row8 (keyR w) 16) 16)) := z6z (by omega) (q0m _ _) (by simp [row8, one]) (by simp) (by omega)
  simp -implicitDefEqProofs only [zA,Nat.reduceEqDiff,st6,List.length_replicate]
  have le6 := Heap.q1c (Heap.q00 le5 le3) hb6 (.own 0 (row8 (keyR w) 16) 16)
  have q26 := q1b (X := .own 0 (row8 (keyR w) 16) 16) hb6 (le3 _ _ q25)
  have q46 := q1b (X := .own 0 (row8 (keyR w) 16) 16) hb6 (le3 _ _ q45)
  have q66 := Heap.q01 h3 b6 (.own 0 (row8 (keyR w) 16) 16)
  generalize (h3.set b6 (.own 0 (row8 (keyR w) 16) 16)) = h4 at le6 q26 q46 q66 ⊢
  intro b7 hb7
  rw [qkc .u32 17]
  have hb7' := Heap.q08 le6 hb7
  have le7 := Heap.q1c le6 hb7 (.own 0 (rowK .u32 (fun _ => 0) 17) 17)
  have q27 := q1b (X := .own 0 (rowK .u32 (fun _ => 0) 17) 17) hb7 q26
  have q47 := q1b (X := .own 0 (rowK .u32 (fun _ => 0) 17) 17) hb7 q46
  have q67 := q1b (X := .own 0 (rowK .u32 (fun _ => 0) 17) 17) hb7 q66
  have q77 := Heap.q01 h4 b7 (.own 0 (rowK .u32 (fun _ => 0) 17) 17)
  have n27 := q06 hb7 q26
  have n47 := q06 hb7 q46
  have n67 := q06 hb7 q66
  generalize (h4.set b7 (.own 0 (rowK .u32 (fun _ => 0) 17) 17)) = h5 at le7 q27 q47 q67 q77 ⊢
  refine q0c (fun m t H => h.le H ∧ ∃ i : Nat, i ≤ 16 ∧ m = 16 - i ∧ t = tl [(1, .slice base l.length c), (2, .pointer (some ⟨b2, 0, none⟩)), (4, .pointer (some ⟨b4, 0, none⟩)), (6, .pointer (some ⟨b6, 0, none⟩)), (7, .pointer (some ⟨b7, 0, none⟩)), (8, .int .i64 i)] ∧
      H b2 = some (.own 0 (w.map u8V) 32) ∧ H b4 = some (.own 0 (List.replicate 16 (.int .u8 0)) 16) ∧ H b6 = some (.own 0 (row8 (keyR w) 16) 16) ∧
      H b7 = some (.own 0 (rowK .u32 (q4f (fun j => (keyR w j).toNat) (fun _ => 0) i) 17) 17)) 16 ⟨le7, 0, by omega, rfl, rfl, q27, q47, q67, by rw [qlq]; exact q77⟩ ?_
  clear q27 q47 q67 q77 le7
  rintro m t H ⟨leH, i, hi, rfl, rfl, q2, q4, q6, q7⟩
  by_cases hlt : (i : Int) < 16
  · have hi' : i < 16 := by omega
    have e0 : (0 : Int) ≤ (i : Int) := by omega
    have e17 : (i : Int) < 17 := by omega
    have c6 := qoq q6 hi'
    have ht : (keyR w i).toNat < 256 := (keyR w i).toNat_lt
    have w2 : IntKind.u32.wrap ((keyR w i).toNat : Int) = ((keyR w i).toNat : Int) := qbg (by omega)
    have w7 : IntKind.i64.wrap ((i : Int) + 1) = ((i + 1 : Nat) : Int) := q2k (by omega)
    have s7 := q2s (z := (keyR w i).toNat) q7 (show i < 17 by omega) (Nat.le_refl _)
    rw [qb6 (fun j => (keyR w j).toNat)] at s7
    simp -implicitDefEqProofs only [zA,Nat.reduceEqDiff,hlt,e0,e17,c6,w2,w7,s7,Int.toNat_natCast]
    exact ⟨_, by omega, Heap.q02 leH hb7' _, i + 1, by omega, rfl, rfl, q07 q2 n27, q07 q4 n47, q07 q6 n67, Heap.q01 _ _ _⟩
  · obtain rfl : i = 16 := by omega
    have q7' : H b7 = some (.own 0 (rowK .u32 (rD w) 17) 17) := q7
    simp -implicitDefEqProofs only [zA,Nat.reduceEqDiff,Nat.reduceSub,Int.reduceLT]
    intro b9 hb9
    rw [q1l]
    have hb9' := Heap.q08 leH hb9
    have n29 := q06 hb9 q2
    have n49 := q06 hb9 q4
    have n79 := q06 hb9 q7'
    have le9 := Heap.q1c leH hb9 (.own 0 (rowK .u32 (fun _ => 0) 17) 17)
    have q29 := q1b (X := .own 0 (rowK .u32 (fun _ => 0) 17) 17) hb9 q2
    have q49 := q1b (X := .own 0 (rowK .u32 (fun _ => 0) 17) 17) hb9 q4
    have q79 := q1b (X := .own 0 (rowK .u32 (fun _ => 0) 17) 17) hb9 q7'
    have q99 := Heap.q01 H b9 (.own 0 (rowK .u32 (fun _ => 0) 17) 17)
    generalize (H.set b9 (.own 0 (rowK .u32 (fun _ => 0) 17) 17)) = H1 at le9 q29 q49 q79 q99 ⊢
    clear q2 q4 q6 q7 q7' leH hlt hi
    unfold qbt
    simp -implicitDefEqProofs only [zA,Nat.reduceEqDiff]
    have eRv := rD_val w
    have hrl := rD_lt w
    refine q0c (fun m t H => h.le H ∧ ∃ i : Nat, m = l.length - i ∧ i ≤ 100000016 ∧ t = tl [(1, .slice base l.length c), (2, .pointer (some ⟨b2, 0, none⟩)), (4, .pointer (some ⟨b4, 0, none⟩)), (7, .pointer (some ⟨b7, 0, none⟩)), (9, .pointer (some ⟨b9, 0, none⟩)), (10, .int .i64 i)] ∧
      H b2 = some (.own 0 (w.map u8V) 32) ∧ H b4 = some (.own 0 (List.replicate 16 (.int .u8 0)) 16) ∧ H b7 = some (.own 0 (rowK .u32 (rD w) 17) 17) ∧
      ∃ q, H b9 = some (.own 0 (rowK .u32 q 17) 17) ∧ qnu q ∧ qoy (leN (rowL (keyR w) 16)) (valD q 17 % PQ) (l.drop i) = qoy (leN (rowL (keyR w) 16)) 0 l) l.length
      ⟨le9, 0, by omega, by omega, rfl, q29, q49, q79, fun _ => 0, q99, ⟨fun j _ => Nat.succ_pos 255, Nat.succ_pos 3⟩, by rw [qxz, Nat.zero_mod, List.drop_zero]⟩ ?_
    clear q29 q49 q79 q99 le9
    rintro m t H ⟨leH, i, rfl, hi, rfl, q2, q4, q7, q, q9, nq, hv⟩
    by_cases hlt : (i : Int) < (l.length : Int)
    · have hi' : i < l.length := by omega
      have w1 : IntKind.i64.wrap ((l.length : Int) - (i : Int)) = ((l.length - i : Nat) : Int) := by rw [q0w (by omega) (by omega)]; omega
      have w7 : IntKind.i64.wrap ((i : Int) + 16) = ((i + 16 : Nat) : Int) := by rw [q0w (by omega) (by omega)]; rfl
      rw [qqt (by simp; omega), List.drop_drop] at hv
      simp -implicitDefEqProofs only [zA,Nat.reduceEqDiff,hlt,List.length_replicate]
      intro b11 hb11
      rw [qkc .u32 17]
      have n211 := q06 hb11 q2
      have n411 := q06 hb11 q4
      have n711 := q06 hb11 q7
      have n911 := q06 hb11 q9
      have le11 := Heap.q1c leH hb11 (.own 0 (rowK .u32 (fun _ => 0) 17) 17)
      have p2 := q1b (X := .own 0 (rowK .u32 (fun _ => 0) 17) 17) hb11 q2
      have p4 := q1b (X := .own 0 (rowK .u32 (fun _ => 0) 17) 17) hb11 q4
      have p7 := q1b (X := .own 0 (rowK .u32 (fun _ => 0) 17) 17) hb11 q7
      have p9 := q1b (X := .own 0 (rowK .u32 (fun _ => 0) 17) 17) hb11 q9
      have p11 := Heap.q01 H b11 (.own 0 (rowK .u32 (fun _ => 0) 17) 17)
      generalize (H.set b11 (.own 0 (rowK .u32 (fun _ => 0) 17) 17)) = H2 at le11 p2 p4 p7 p9 p11 ⊢
      have hb11' := Heap.q08 leH hb11
      by_cases g16 : (16 : Int) < ((l.length - i : Nat) : Int)
      · have hn : 16 = min 16 (l.length - i) := by omega
        have g16' : ¬ ((l.length - i : Nat) : Int) ≤ 16 := by omega
        simp -implicitDefEqProofs only [zA,Nat.reduceEqDiff,w1,g16,g16']
        refine tag13 E (n := 16) (nz := 16) [] rfl sl hi' hl hn le11 hb9' hb11' p7 p9 p11 (fun j _ => hrl j) nq n79 n711 n911 ?_
        intro H' p le' keep pp np hvp
        simp -implicitDefEqProofs only [zA,Nat.reduceEqDiff,w7]
        refine ⟨l.length - (i + 16), by omega, le', i + 16, rfl, by omega, rfl, keep _ _ n29 n211 p2, keep _ _ n49 n411 p4, keep _ _ n79 n711 p7, p, pp, np, ?_⟩
        rw [hvp, ← qs7, eRv]
        exact hv
      · have hn : l.length - i = min 16 (l.length - i) := by omega
        have g16' : ((l.length - i : Nat) : Int) ≤ 16 := by omega
        simp -implicitDefEqProofs only [zA,w1,g16,g16']
        refine tag13 E (n := l.length - i) [(45, .bool false)] rfl sl hi' hl hn le11 hb9' hb11' p7 p9 p11 (fun j _ => hrl j) nq n79 n711 n911 ?_
        intro H' p le' keep pp np hvp
        simp -implicitDefEqProofs only [zA,Nat.reduceEqDiff,w7]
        refine ⟨l.length - (i + 16), by omega, le', i + 16, rfl, by omega, rfl, keep _ _ n29 n211 p2, keep _ _ n49 n411 p4, keep _ _ n79 n711 p7, p, pp, np, ?_⟩
        rw [hvp, j0a l i _ hn, ← qs7, eRv]
        exact hv
    · rw [qm3 (by simp; omega)] at hv
      have l9 := q2t q9
      simp -implicitDefEqProofs only [zA,Nat.reduceEqDiff,hlt,l9]
      refine (qt0 E _ q (qi1 nq)).mono ?_
      rintro v H2 ⟨le2, p, rfl, np, hvp⟩
      rw [hv] at hvp
      have s9 := qdh (k := .u32) (f := p) (le2 _ _ q9) (q1l _ _ _) (by omega)
      simp -implicitDefEqProofs only [zA,Nat.reduceEqDiff,s9]
      have leP := Heap.q02 (Heap.q00 leH le2) hb9' (.own 0 (rowK .u32 p 17) 17)
      have p2 := q07 (X := .own 0 (rowK .u32 p 17) 17) (le2 _ _ q2) n29
      have p4 := q07 (X := .own 0 (rowK .u32 p 17) 17) (le2 _ _ q4) n49
      have p9 := Heap.q01 H2 b9 (.own 0 (rowK .u32 p 17) 17)
      generalize (H2.set b9 (.own 0 (rowK .u32 p 17) 17)) = H3 at leP p2 p4 p9 ⊢
      clear q2 q4 q7 q9 s9 l9 hlt leH le2
      unfold qbs
      simp -implicitDefEqProofs only [zA,Nat.reduceEqDiff,List.length_replicate]
      intro b14 hb14
      rw [qkc .u32 17]
      have hb14' := Heap.q08 leP hb14
      have n214 := q06 hb14 p2
      have n414 := q06 hb14 p4
      have n914 := q06 hb14 p9
      refine q0c (fun m t H => h.le H ∧ ∃ i : Nat, i ≤ 16 ∧ m = 16 - i ∧ t = tl [(2, .pointer (some ⟨b2, 0, none⟩)), (4, .pointer (some ⟨b4, 0, none⟩)), (9, .pointer (some ⟨b9, 0, none⟩)), (14, .pointer (some ⟨b14, 0, none⟩)), (15, .int .i64 i)] ∧
        H b2 = some (.own 0 (w.map u8V) 32) ∧ H b4 = some (.own 0 (List.replicate 16 (.int .u8 0)) 16) ∧ H b9 = some (.own 0 (rowK .u32 p 17) 17) ∧
        H b14 = some (.own 0 (rowK .u32 (q4f (fun j => (w.getD (16 + j) 0).toNat) (fun _ => 0) i) 17) 17)) 16
        ⟨Heap.q1c leP hb14 _, 0, by omega, rfl, rfl, q1b hb14 p2, q1b hb14 p4, q1b hb14 p9, by rw [qlq, Heap.q01]⟩ ?_
      clear p2 p4 p9 leP
      rintro m t H ⟨leH, i, hi, rfl, rfl, q2, q4, q9, q14⟩
      by_cases hlt : (i : Int) < 16
      · have hi' : i < 16 := by omega
        have e0 : (0 : Int) ≤ (i : Int) := by omega
        have e17 : (i : Int) < 17 := by omega
        have e1 : (0 : Int) ≤ ((16 + i : Nat) : Int) := by omega
        have e2 : ((16 + i : Nat) : Int) < 32 := by omega
        have w1 : IntKind.i64.wrap (16 + (i : Int)) = ((16 + i : Nat) : Int) := by rw [q0w (by omega) (by omega)]; omega
        have c2 : q0x H ⟨b2, 16 + i, none⟩ = some (.int .u8 ((w.getD (16 + i) 0).toNat : Int)) := by
          rw [q0k q2 (by simp; omega)]
          have : 16 + i < w.length := by omega
          simp [u8V, List.getD, this]
        have ht : (w.getD (16 + i) 0).toNat < 256 := (w.getD (16 + i) 0).toNat_lt
        have w2 : IntKind.u32.wrap ((w.getD (16 + i) 0).toNat : Int) = ((w.getD (16 + i) 0).toNat : Int) := qbg (by omega)
        have w7 : IntKind.i64.wrap ((i : Int) + 1) = ((i + 1 : Nat) : Int) := q2k (by omega)
        have s7 := q2s (z := (w.getD (16 + i) 0).toNat) q14 (show i < 17 by omega) (Nat.le_refl _)
        rw [qb6 (fun j => (w.getD (16 + j) 0).toNat)] at s7
        simp -implicitDefEqProofs only [zA,Nat.reduceEqDiff,hlt,e0,e17,e1,e2,w1,c2,w2,w7,s7,Int.toNat_natCast]
        exact ⟨_, by omega, Heap.q02 leH hb14' _, i + 1, by omega, rfl, rfl, q07 q2 n214, q07 q4 n414, q07 q9 n914, Heap.q01 _ _ _⟩
      · obtain rfl : i = 16 := by omega
        have q14' : H b14 = some (.own 0 (rowK .u32 (sD w) 17) 17) := q14
        have l9 := q2t q9
        have l14 := q2t q14'
        simp -implicitDefEqProofs only [zA,Nat.reduceEqDiff,Nat.reduceSub,Int.reduceLT,l9,l14]
        refine (qj9 E _ p (sD w) (fun j hj => by have := qi1 np j hj; omega) (fun j hj => by have := sD_lt w j; omega)).mono ?_
        rintro v H4 ⟨le4, rfl⟩
        have hsum := qo7 p (sD w)
        rw [hvp, sD_val w hw] at hsum
        have hd : ∀ j, j < 16 → addD p (sD w) j < 256 := fun j hj => qsi _ _ hj
        generalize addD p (sD w) = g at hsum hd ⊢
        have s9 := qdh (k := .u32) (f := g) (le4 _ _ q9) (q1l _ _ _) (by omega)
        simp -implicitDefEqProofs only [zA,Nat.reduceEqDiff,s9]
        have leP := Heap.q02 (Heap.q00 leH le4) hb9' (.own 0 (rowK .u32 g 17) 17)
        have p4 := q07 (X := .own 0 (rowK .u32 g 17) 17) (le4 _ _ q4) n49
        have p9 := Heap.q01 H4 b9 (.own 0 (rowK .u32 g 17) 17)
        generalize (H4.set b9 (.own 0 (rowK .u32 g 17) 17)) = H5 at leP p4 p9 ⊢
        have eT : row8 (tagR w l) 16 = row8 (fun j => UInt8.ofNat (g j)) 16 := by
          apply q1s
          intro j hj
          unfold tagR
          rw [← hsum, qqh, qy1 (by omega) (fun k hk => hd k (by omega))]
        rw [eT]
        clear q2 q4 q9 q14 q14' l9 l14 s9 leH le4 hlt hi
        unfold qbp
        simp -implicitDefEqProofs only [zA,Nat.reduceEqDiff,List.length_replicate]
        intro b16 hb16
        have st16 : q0a (H5.set b16 (.own 0 (List.replicate 16 (.int .u8 0)) 16)) 16 (.pointer (some ⟨b16, 0, none⟩)) (.agg (List.replicate 16 (Value.int .u8 0)).toArray) = some (H5.set b16 (.own 0 (List.replicate 16 (.int .u8 0)) 16)) := z6z (by omega) (by simp) r16 (by simp) (by omega)
        have hb16' := Heap.q08 leP hb16
        have n416 := q06 hb16 p4
        have n916 := q06 hb16 p9
        simp -implicitDefEqProofs only [zA,Nat.reduceEqDiff,st16]
        refine q0c (fun m t H => h.le H ∧ ∃ i : Nat, i ≤ 16 ∧ m = 16 - i ∧ t = tl [(4, .pointer (some ⟨b4, 0, none⟩)), (9, .pointer (some ⟨b9, 0, none⟩)), (16, .pointer (some ⟨b16, 0, none⟩)), (17, .int .i64 i)] ∧
          H b4 = some (.own 0 (List.replicate 16 (.int .u8 0)) 16) ∧ H b9 = some (.own 0 (rowK .u32 g 17) 17) ∧
          H b16 = some (.own 0 (row8 (fun j => if j < i then UInt8.ofNat (g j) else 0) 16) 16)) 16
          ⟨Heap.q1c leP hb16 _, 0, by omega, rfl, rfl, q1b hb16 p4, q1b hb16 p9, by rw [Heap.q01]; congr 2⟩ ?_
        clear p4 p9 leP
        rintro m t H ⟨leH, i, hi, rfl, rfl, q4, q9, q16⟩
        by_cases hlt : (i : Int) < 16
        · have hi' : i < 16 := by omega
          have e0 : (0 : Int) ≤ (i : Int) := by omega
          have e17 : (i : Int) < 17 := by omega
          have c9 := qcw q9 (show i < 17 by omega)
          have w2 : IntKind.u8.wrap (g i : Int) = ((UInt8.ofNat (g i)).toNat : Int) := by rw [qob, q1d]; simp
          have w7 : IntKind.i64.wrap ((i : Int) + 1) = ((i + 1 : Nat) : Int) := q2k (by omega)
          have s16 := qen (z := UInt8.ofNat (g i)) q16 hi'
          simp -implicitDefEqProofs only [zA,Nat.reduceEqDiff,hlt,e0,e17,c9,w2,w7,s16,Int.toNat_natCast]
          refine ⟨_, by omega, Heap.q02 leH hb16' _, i + 1, by omega, rfl, rfl, q07 q4 n416, q07 q9 n916, ?_⟩
          rw [Heap.q01]
          have eS : row8 (fun k => if k = i then UInt8.ofNat (g i) else if k < i then UInt8.ofNat (g k) else 0) 16 = row8 (fun j => if j < i + 1 then UInt8.ofNat (g j) else 0) 16 := by
            apply q1s
            intro k _
            by_cases e : k = i
            · subst e; simp
            · rw [if_neg e]
              by_cases e2 : k < i
              · rw [if_pos e2, if_pos (by omega)]
              · rw [if_neg e2, if_neg (by omega)]
          rw [eS]
        · obtain rfl : i = 16 := by omega
          have eF : row8 (fun j => if j < 16 then UInt8.ofNat (g j) else 0) 16 = row8 (fun j => UInt8.ofNat (g j)) 16 := q1s fun k hk => by rw [if_pos hk]
          rw [eF] at q16
          have l16 : q05 H ⟨b16, 0, none⟩ 16 = some (row8 (fun j => UInt8.ofNat (g j)) 16) := by rw [q0l q16 (by rw [q0m]; omega)]; simp [List.take_of_length_le, q0m]
          have s4 : q0a H 16 (.pointer (some ⟨b4, 0, none⟩)) (.agg (row8 (fun j => UInt8.ofNat (g j)) 16).toArray) = some (H.set b4 (.own 0 (row8 (fun j => UInt8.ofNat (g j)) 16) 16)) := q0f q4 (by omega) (q0m _ _) (by simp [row8, one]) (by simp) (by omega)
          have l4 : q05 (H.set b4 (.own 0 (row8 (fun j => UInt8.ofNat (g j)) 16) 16)) ⟨b4, 0, none⟩ 16 = some (row8 (fun j => UInt8.ofNat (g j)) 16) := z6x (q0m _ _)
          simp -implicitDefEqProofs only [zA,Nat.reduceEqDiff,Nat.reduceSub,Int.reduceLT,l16,s4,l4]
          exact Heap.q02 leH hb4' _
theorem app0 {h0 H : Heap} {b1 : Nat} {v : Value} {l : List UInt8} {K : Value → Heap → Prop} (leH : h0.le H) (hb1 : H b1 = none) (ow : OwB h0 H v l) (hl : l.length ≤ 140737488355000)
    (hk : ∀ v' H', OwB h0 H' v' (l ++ [0]) → h0.le H' → K v' H') : qhr 1 1 (H.set b1 (.own 0 [.int .u8 0] 1)) v (.slice (some ⟨b1, 0, none⟩) 1 1) K := app1 (x := 0) leH hb1 ow hl hk
theorem qkg (E : EnvT tab) (h : Heap) (key nonce : List UInt8) (hk : key.length = 32) (hn : nonce.length = 12) :
    ACallN E.toEnv qih [.agg (key.map u8V).toArray, .agg (nonce.map u8V).toArray] h fun r h' => h.le h' ∧ r = .agg ((qps key nonce).map u8V).toArray := by
  refine q0o q7n q3f rfl rfl (q03 ?_)
  unfold q3f
  have hk' : (key.map u8V).length = 32 := by simp [hk]
  have hn' : (nonce.map u8V).length = 12 := by simp [hn]
  simp -implicitDefEqProofs only [zA,reduceCtorEq,Nat.reduceEqDiff,Nat.reduceAdd,hk',hn',List.length_replicate]
  intro b2 hb2 b3 hb3 b4 hb4
  obtain ⟨n32, hb3'⟩ := Heap.q0b.1 hb3
  obtain ⟨n43, hb4a⟩ := Heap.q0b.1 hb4
  obtain ⟨n42, hb4'⟩ := Heap.q0b.1 hb4a
  have le1 : h.le (((h.set b2 (.own 0 (key.map u8V) 32)).set b3 (.own 0 (nonce.map u8V) 12)).set b4 (.own 0 (List.replicate 32 (.int .u8 0)) 32)) := Heap.q02 (Heap.q02 (Heap.q02 (Heap.q04 _) hb2 _) hb3' _) hb4' _
  have l2 : q05 (((h.set b2 (.own 0 (key.map u8V) 32)).set b3 (.own 0 (nonce.map u8V) 12)).set b4 (.own 0 (List.replicate 32 (.int .u8 0)) 32)) ⟨b2, 0, none⟩ 32 = some (key.map u8V) := q0u (q07 (q07 (Heap.q01 _ _ _) (Ne.symm n32)) (Ne.symm n42)) hk'
  have l3 : q05 (((h.set b2 (.own 0 (key.map u8V) 32)).set b3 (.own 0 (nonce.map u8V) 12)).set b4 (.own 0 (List.replicate 32 (.int .u8 0)) 32)) ⟨b3, 0, none⟩ 12 = some (nonce.map u8V) := q0u (q07 (Heap.q01 _ _ _) (Ne.symm n43)) hn'
  have q4 : (((h.set b2 (.own 0 (key.map u8V) 32)).set b3 (.own 0 (nonce.map u8V) 12)).set b4 (.own 0 (List.replicate 32 (.int .u8 0)) 32)) b4 = some (.own 0 (List.replicate 32 (.int .u8 0)) 32) := Heap.q01 _ _ _
  generalize (((h.set b2 (.own 0 (key.map u8V) 32)).set b3 (.own 0 (nonce.map u8V) 12)).set b4 (.own 0 (List.replicate 32 (.int .u8 0)) 32)) = h1 at le1 l2 l3 q4 ⊢
  try simp -implicitDefEqProofs only [zA,Nat.reduceEqDiff,l2,l3]
  have hB := qn2 E h1 key nonce 0 hk hn
  rw [u32_0] at hB
  refine hB.mono ?_
  rintro r h2 ⟨le2, rfl⟩
  rw [qwr]
  generalize q6b key 0 nonce = bk
  simp -implicitDefEqProofs only [zA,Nat.reduceEqDiff,List.length_replicate]
  intro b5 hb5
  have s5 : q0a (h2.set b5 (.own 0 (List.replicate 64 (.int .u8 0)) 64)) 64 (.pointer (some ⟨b5, 0, none⟩)) (.agg (row8 bk 64).toArray) = some (h2.set b5 (.own 0 (row8 bk 64) 64)) := z6z (by omega) (q0m _ _) (by simp [row8, one]) (by simp) (by omega)
  have q45 := q1b (X := .own 0 (row8 bk 64) 64) hb5 (le2 _ _ q4)
  have q55 := Heap.q01 h2 b5 (.own 0 (row8 bk 64) 64)
  have le5 := Heap.q1c (Heap.q00 le1 le2) hb5 (.own 0 (row8 bk 64) 64)
  simp -implicitDefEqProofs only [zA,Nat.reduceEqDiff,s5,List.length_replicate]
  generalize (h2.set b5 (.own 0 (row8 bk 64) 64)) = h3 at q45 q55 le5 ⊢
  intro b6 hb6
  have r32 : (List.replicate 32 (Value.int .u8 0)).all one = true := by decide
  have s6 : q0a (h3.set b6 (.own 0 (List.replicate 32 (.int .u8 0)) 32)) 32 (.pointer (some ⟨b6, 0, none⟩)) (.agg (List.replicate 32 (Value.int .u8 0)).toArray) = some (h3.set b6 (.own 0 (List.replicate 32 (.int .u8 0)) 32)) := z6z (by omega) (by simp) r32 (by simp) (by omega)
  have bd : bnds 64 64 none (some (some (.int .i64 32))) none = some (0, 32, 64) := q5t (by omega) (by omega)
  have q46 := q1b (X := .own 0 (row8 bk 32) 32) hb6 q45
  have s64 := qgl (H := h3.set b6 (.own 0 (List.replicate 32 (.int .u8 0)) 32)) (b := b5) (l := rowL bk 64) (sz := 64) (by rw [qdg]; exact q1b hb6 q55)
  have s32 := Sl.qsj s64 (m := 32) (by rw [q3c]; omega)
  have e32 : (rowL bk 64).take 32 = rowL bk 32 := by
    apply List.ext_getElem
    · simp [rowL]
    · intro j h1 h2
      simp [rowL]
  rw [e32, q3c] at s32
  unfold SlB at s32
  rw [q3c] at s32
  simp -implicitDefEqProofs only [zA,reduceCtorEq,Nat.reduceEqDiff,s6,qeg,bd,Nat.sub_zero,addz]
  refine qd3 (size := 1) (m := 32) (Heap.q01 _ _ _) (by simp) (by simp) s32 (q1i _) ?_
  have eC : q1t (List.replicate 32 (Value.int .u8 0)) 0 (((rowL bk 32).map u8V).take (min 32 32 * 1)) = row8 bk 32 := by
    rw [List.take_of_length_le (by simp [q3c]), qdg]
    unfold q1t
    simp only [List.take_zero, List.nil_append, q0m, Nat.zero_add, List.drop_replicate, Nat.sub_self, List.replicate_zero, List.append_nil]
  rw [eC, Heap.q5f]
  have l6 : q05 (h3.set b6 (.own 0 (row8 bk 32) 32)) ⟨b6, 0, none⟩ 32 = some (row8 bk 32) := z6x (q0m _ _)
  have s4 : q0a (h3.set b6 (.own 0 (row8 bk 32) 32)) 32 (.pointer (some ⟨b4, 0, none⟩)) (.agg (row8 bk 32).toArray) = some ((h3.set b6 (.own 0 (row8 bk 32) 32)).set b4 (.own 0 (row8 bk 32) 32)) := q0f q46 (by omega) (q0m _ _) (by simp [row8, one]) (by simp) (by omega)
  have l4 : q05 ((h3.set b6 (.own 0 (row8 bk 32) 32)).set b4 (.own 0 (row8 bk 32) 32)) ⟨b4, 0, none⟩ 32 = some (row8 bk 32) := z6x (q0m _ _)
  simp -implicitDefEqProofs only [zA,Nat.reduceEqDiff,l6,s4,l4]
  exact Heap.q02 (Heap.q1c le5 hb6 _) hb4' _
theorem qw5 (a : Nat) : Int.tmod (a : Int) 16 = ((a % 16 : Nat) : Int) := by
  rw [Int.tmod_eq_emod_of_nonneg (by omega)]; rfl
theorem qw9 (l : List UInt8) (k : Nat) : l ++ List.replicate k 0 ++ [0] = l ++ List.replicate (k + 1) 0 := by
  rw [List.append_assoc, List.replicate_succ']
theorem qtu (n k : Nat) (hk : k ≤ qae n) (h : (n + k) % 16 ≠ 0) : k + 1 ≤ qae n := by
  unfold qae at *
  omega
theorem qtv (n k : Nat) (hk : k ≤ qae n) (h : (n + k) % 16 = 0) : k = qae n := by
  unfold qae at *
  omega
theorem qkf (E : EnvT tab) (h : Heap) {v w : Value} (beside c : List UInt8) (hc : c.length ≤ 1000000) (hbs : beside.length ≤ 1000000) (sb : SlB h v beside) (sc : SlB h w c) :
    ACallN E.toEnv qig [v, w] h fun r h' => h.le h' ∧ OwB h h' r (qan beside c) := by
  obtain ⟨base, cc, rfl⟩ := Sl.shape sb
  obtain ⟨base2, cc2, rfl⟩ := Sl.shape sc
  refine q0o q7m q3e rfl rfl (q03 ?_)
  unfold q3e
  simp -implicitDefEqProofs only [zA,reduceCtorEq,Nat.reduceEqDiff,Nat.reduceAdd]
  intro b4 hb4
  refine q0t (bytes := 1) (n := 0) (cells := []) (m := beside.length) (news := beside.map u8V) (Heap.q02 (Heap.q04 _) hb4 _) (by omega) (Ow.new (Heap.q04 _) hb4 rfl (by omega) (by omega)) (sb.le (Heap.q02 (Heap.q04 _) hb4 _)) (q1i beside) (by omega) (by omega) ?_
  intro v5 h1 ow1 le1
  rw [Nat.zero_add, List.nil_append] at ow1
  simp -implicitDefEqProofs only [zA,reduceCtorEq,Nat.reduceEqDiff]
  have hf1 := qcp beside.length
  have hf2 := qcp c.length
  refine q0c (fun m t H => h.le H ∧ ∃ (k : Nat) (v5 : Value), t = tl [(0, .slice base beside.length cc), (1, .slice base2 c.length cc2), (5, v5)] ∧ k ≤ qae beside.length ∧ m = 16 - k ∧ OwB h H v5 (beside ++ List.replicate k 0)) 16
    ⟨le1, 0, v5, rfl, by omega, by omega, by simpa using ow1⟩ ?_
  clear ow1 le1 hb4 v5
  rintro m t H ⟨leH, k, v5, rfl, hkf, rfl, ow⟩
  have hlk : (beside ++ List.replicate k (0 : UInt8)).length = beside.length + k := by simp
  obtain ⟨b5, c5, rfl⟩ := Sl.shape ow.sl
  have w1 : IntKind.i64.wrap (((beside ++ List.replicate k (0 : UInt8)).length % 16 : Nat) : Int) = (((beside ++ List.replicate k (0 : UInt8)).length % 16 : Nat) : Int) := q0w (by omega) (by omega)
  by_cases hz : (beside.length + k) % 16 = 0
  · have hk0 := qtv _ _ hkf hz
    have e1 : (((beside ++ List.replicate k (0 : UInt8)).length % 16 : Nat) : Int) = 0 := by rw [hlk]; omega
    have eB : beside ++ List.replicate k 0 = qdb beside := by unfold qdb; rw [← hk0]
    rw [eB] at ow w1 e1 ⊢
    have hB16 : (qdb beside).length % 16 = 0 := by rw [qhj, ← hk0]; exact hz
    have hBl := qhj beside
    simp -implicitDefEqProofs only [zA,reduceCtorEq,Nat.reduceEqDiff,Int.reduceEq,Int.reduceBNe,qw5,e1]
    unfold q8t
    simp -implicitDefEqProofs only [zA,reduceCtorEq,Nat.reduceEqDiff]
    refine q0t (bytes := 1) leH (by omega) ow (sc.le leH) (q1i _) (by omega) (by omega) ?_
    intro v6 h2 ow2 le2
    simp -implicitDefEqProofs only [zA,reduceCtorEq,Nat.reduceEqDiff]
    refine q0c (fun m t H => h.le H ∧ ∃ (k : Nat) (v5 : Value), t = tl [(0, .slice base beside.length cc), (1, .slice base2 c.length cc2), (5, v5)] ∧ k ≤ qae c.length ∧ m = 16 - k ∧ OwB h H v5 (qdb beside ++ c ++ List.replicate k 0)) 16
      ⟨le2, 0, v6, rfl, by omega, by omega, by unfold OwB; rw [List.replicate_zero, List.append_nil, List.length_append, List.map_append]; exact ow2⟩ ?_
    clear ow2 le2 v6 ow w1 e1 leH hkf hz hk0 eB hlk
    rintro m t H ⟨leH, k, v5, rfl, hkf, rfl, ow⟩
    have hlk : (qdb beside ++ c ++ List.replicate k (0 : UInt8)).length = (qdb beside).length + c.length + k := by simp; omega
    obtain ⟨b5, c5, rfl⟩ := Sl.shape ow.sl
    have w1 : IntKind.i64.wrap (((qdb beside ++ c ++ List.replicate k (0 : UInt8)).length % 16 : Nat) : Int) = (((qdb beside ++ c ++ List.replicate k (0 : UInt8)).length % 16 : Nat) : Int) := q0w (by omega) (by omega)
    by_cases hz : (c.length + k) % 16 = 0
    · have hk0 := qtv _ _ hkf hz
      have e1 : (((qdb beside ++ c ++ List.replicate k (0 : UInt8)).length % 16 : Nat) : Int) = 0 := by rw [hlk]; omega
      have eB : qdb beside ++ c ++ List.replicate k 0 = qdb beside ++ qdb c := by rw [List.append_assoc, hk0]; rfl
      rw [eB] at ow w1 e1 ⊢
      have hl2 : (qdb beside ++ qdb c).length ≤ 2000040 := by rw [List.length_append, qhj, qhj]; omega
      simp -implicitDefEqProofs only [zA,reduceCtorEq,Nat.reduceEqDiff,Int.reduceEq,Int.reduceBNe,qw5,e1]
      unfold q8s
      have u1 := qri beside.length
      have u2 := qri c.length
      simp -implicitDefEqProofs only [zA,reduceCtorEq,Nat.reduceEqDiff,u1]
      refine (qf8 E _ _ (by omega) ow.sl (BitVec.ofNat 64 beside.length) 8 (by omega)).mono ?_
      rintro r h3 ⟨le3, ow3⟩
      simp -implicitDefEqProofs only [zA,reduceCtorEq,Nat.reduceEqDiff,u2]
      refine (qf8 E _ _ (by rw [List.length_append, q1f]; omega) ow3.sl (BitVec.ofNat 64 c.length) 8 (by omega)).mono ?_
      rintro r h4 ⟨le4, ow4⟩
      simp -implicitDefEqProofs only [zA,reduceCtorEq,Nat.reduceEqDiff]
      refine ⟨Heap.q00 leH (Heap.q00 le3 le4), ?_⟩
      have eT : qan beside c = qdb beside ++ qdb c ++ q1j (BitVec.ofNat 64 beside.length) 8 ++ q1j (BitVec.ofNat 64 c.length) 8 := by
        unfold qan lenB
        rw [List.append_assoc, List.append_assoc, List.append_assoc]
      rw [eT]
      exact Ow.since (Heap.q00 leH le3) ow4
    · have hk1 := qtu _ _ hkf hz
      have e1 : ¬ (((qdb beside ++ c ++ List.replicate k (0 : UInt8)).length % 16 : Nat) : Int) = 0 := by rw [hlk]; omega
      simp -implicitDefEqProofs only [zA,reduceCtorEq,Nat.reduceEqDiff,Int.reduceEq,qw5,e1]
      intro b6 hb6
      refine app0 leH hb6 ow (by omega) ?_
      intro v6 H6 ow6 le6
      rw [qw9] at ow6
      simp -implicitDefEqProofs only [zA,reduceCtorEq,Nat.reduceEqDiff]
      exact ⟨16 - (k + 1), by omega, le6, k + 1, v6, rfl, hk1, rfl, ow6⟩
  · have hk1 := qtu _ _ hkf hz
    have e1 : ¬ (((beside ++ List.replicate k (0 : UInt8)).length % 16 : Nat) : Int) = 0 := by rw [hlk]; omega
    simp -implicitDefEqProofs only [zA,reduceCtorEq,Nat.reduceEqDiff,Int.reduceEq,qw5,e1]
    intro b6 hb6
    refine app0 leH hb6 ow (by omega) ?_
    intro v6 H6 ow6 le6
    rw [qw9] at ow6
    simp -implicitDefEqProofs only [zA,reduceCtorEq,Nat.reduceEqDiff]
    exact ⟨16 - (k + 1), by omega, le6, k + 1, v6, rfl, hk1, rfl, ow6⟩
theorem qum (E : EnvT tab) (h : Heap) {v w : Value} (key nonce plain beside : List UInt8) (hk : key.length = 32) (hn : nonce.length = 12) (hp : plain.length ≤ 65536) (hbs : beside.length ≤ 1000000) (sp : SlB h v plain) (sb : SlB h w beside) :
    ACallN E.toEnv qkx [.agg (key.map u8V).toArray, .agg (nonce.map u8V).toArray, v, w] h fun r h' => h.le h' ∧ ∃ r', r = .tuple #[r', .bool true] ∧ OwB h h' r' (qj7 key nonce plain beside) := by
  obtain ⟨base, cc, rfl⟩ := Sl.shape sp
  obtain ⟨base2, cc2, rfl⟩ := Sl.shape sb
  refine q0o qa2 q4x rfl rfl (q03 ?_)
  unfold q4x
  have hk' : (key.map u8V).length = 32 := by simp [hk]
  have hn' : (nonce.map u8V).length = 12 := by simp [hn]
  have g : ¬ (65536 : Int) < (plain.length : Int) := by omega
  have g' : (plain.length : Int) ≤ 65536 := by omega
  simp -implicitDefEqProofs only [zA,reduceCtorEq,Nat.reduceEqDiff,Nat.reduceAdd,hk',hn',g]
  intro b4 hb4 b5 hb5
  obtain ⟨n54, hb5'⟩ := Heap.q0b.1 hb5
  have le1 : h.le ((h.set b4 (.own 0 (key.map u8V) 32)).set b5 (.own 0 (nonce.map u8V) 12)) := Heap.q02 (Heap.q02 (Heap.q04 _) hb4 _) hb5' _
  have q4 : ((h.set b4 (.own 0 (key.map u8V) 32)).set b5 (.own 0 (nonce.map u8V) 12)) b4 = some (.own 0 (key.map u8V) 32) := q07 (Heap.q01 _ _ _) (Ne.symm n54)
  have q5 : ((h.set b4 (.own 0 (key.map u8V) 32)).set b5 (.own 0 (nonce.map u8V) 12)) b5 = some (.own 0 (nonce.map u8V) 12) := Heap.q01 _ _ _
  generalize ((h.set b4 (.own 0 (key.map u8V) 32)).set b5 (.own 0 (nonce.map u8V) 12)) = h1 at le1 q4 q5 ⊢
  have l4 : q05 h1 ⟨b4, 0, none⟩ 32 = some (key.map u8V) := q0u q4 hk'
  have l5 : q05 h1 ⟨b5, 0, none⟩ 12 = some (nonce.map u8V) := q0u q5 hn'
  have hX := qqp E h1 key nonce plain 1 hk hn (by omega) (by rw [show (1 : U32).toNat = 1 from rfl]; omega) (sp.le le1)
  rw [u32_1] at hX
  unfold qag
  simp -implicitDefEqProofs only [zA,Nat.reduceEqDiff,l4,l5]
  refine hX.mono ?_
  rintro r h2 ⟨le2, r', rfl, ow2⟩
  have hlen := qbz key 1 nonce plain
  have hlen2 := qd5 key nonce (sxF key 1 nonce plain) beside
  have eS : qj7 key nonce plain beside = sxF key 1 nonce plain ++ qf0 key nonce (sxF key 1 nonce plain) beside := rfl
  rw [eS]
  generalize sxF key 1 nonce plain = c at ow2 hlen hlen2 ⊢
  have l4' := q22 le2 l4
  have l5' := q22 le2 l5
  have s2 := ow2.sl
  obtain ⟨base3, cc3, rfl⟩ := Sl.shape s2
  simp -implicitDefEqProofs only [zA,Nat.reduceEqDiff,l4',l5']
  refine (qkg E _ key nonce hk hn).mono ?_
  rintro r h3 ⟨le3, rfl⟩
  have le03 := Heap.q00 le1 (Heap.q00 le2 le3)
  simp -implicitDefEqProofs only [zA,Nat.reduceEqDiff]
  refine (qkf E _ beside c (by omega) hbs (sb.le le03) (s2.le le3)).mono ?_
  rintro r h4 ⟨le4, ow4⟩
  have hl := qlx beside c
  have hf1 := qcp beside.length
  have hf2 := qcp c.length
  simp -implicitDefEqProofs only [zA,Nat.reduceEqDiff]
  refine (qqq E _ (qps key nonce) (qan beside c) (qlt _ _) (by omega) ow4.sl).mono ?_
  rintro r h5 ⟨le5, rfl⟩
  have eA : row8 (tagR (qps key nonce) (qan beside c)) 16 = (qf0 key nonce c beside).map u8V := by unfold qf0; rw [qdg]
  rw [eA]
  generalize qf0 key nonce c beside = tg at hlen2 ⊢
  simp -implicitDefEqProofs only [zA,Nat.reduceEqDiff,List.length_replicate]
  intro b12 hb12
  have s12 : q0a (h5.set b12 (.own 0 (List.replicate 16 (.int .u8 0)) 16)) 16 (.pointer (some ⟨b12, 0, none⟩)) (.agg (tg.map u8V).toArray) = some (h5.set b12 (.own 0 (tg.map u8V) 16)) := z6z (by omega) (by simp [hlen2]) (q1i _) (by simp) (by omega)
  have le6 := Heap.q1c (Heap.q00 le3 (Heap.q00 le4 le5)) hb12 (.own 0 (tg.map u8V) 16)
  have st : SlB (h5.set b12 (.own 0 (tg.map u8V) 16)) (.slice (some ⟨b12, 0, none⟩) 16 16) tg := by
    have := qgl (H := h5.set b12 (.own 0 (tg.map u8V) 16)) (b := b12) (l := tg) (sz := 16) (Heap.q01 _ _ _)
    rw [hlen2] at this
    exact this
  have le06 := Heap.q00 (Heap.q00 le1 le2) le6
  generalize (h5.set b12 (.own 0 (tg.map u8V) 16)) = h6 at s12 le6 st le06 ⊢
  simp -implicitDefEqProofs only [zA,Nat.reduceEqDiff,s12]
  intro b30 hb30
  have le30 := Heap.q1c (Heap.q04 h6) hb30 (.own 0 [] 0)
  refine q0t (bytes := 1) (n := 0) (cells := []) (m := c.length) (news := c.map u8V) le30 (by omega) (Ow.new (Heap.q04 _) hb30 rfl (by omega) (by omega)) (s2.le (Heap.q00 le6 le30)) (q1i c) (by omega) (by omega) ?_
  intro v7 h7 ow7 le7
  rw [Nat.zero_add, List.nil_append] at ow7
  simp -implicitDefEqProofs only [zA,reduceCtorEq,Nat.reduceEqDiff,qeg,Nat.sub_zero,addz,List.mem_cons,List.not_mem_nil,or_false,implies_true]
  refine q0t (bytes := 1) (m := tg.length) (news := tg.map u8V) le7 (by omega) ow7 (st.le le7) (q1i _) (by omega) (by omega) ?_
  intro v8 H8 ow8 le8
  simp -implicitDefEqProofs only [zA,Nat.reduceEqDiff]
  refine ⟨Heap.q00 le06 le8, _, rfl, ?_⟩
  unfold OwB
  rw [List.length_append, List.map_append]
  exact Ow.since le06 ow8
theorem qun (E : EnvT tab) (h : Heap) {v w : Value} (key nonce sealed beside : List UInt8) (hk : key.length = 32) (hn : nonce.length = 12) (hs : sealed.length ≤ 100000000) (hbs : beside.length ≤ 1000000) (sp : SlB h v sealed) (sb : SlB h w beside) :
    ACallN E.toEnv qky [.agg (key.map u8V).toArray, .agg (nonce.map u8V).toArray, v, w] h fun r h' => h.le h' ∧ ∃ r', r = .tuple #[r', .int .i64 (((qkk key nonce sealed beside).1 : Nat) : Int)] ∧ OwB h h' r' (qkk key nonce sealed beside).2 := by
  obtain ⟨base, cc, rfl⟩ := Sl.shape sp
  obtain ⟨base2, cc2, rfl⟩ := Sl.shape sb
  refine q0o qa3 q4y rfl rfl (q03 ?_)
  unfold q4y
  have hk' : (key.map u8V).length = 32 := by simp [hk]
  have hn' : (nonce.map u8V).length = 12 := by simp [hn]
  have hcap : sealed.length ≤ cc := by
    rcases sp with ⟨e, hn, _⟩ | ⟨a, c', e, hc, _⟩
    · simp only [Value.slice.injEq] at e; omega
    · cases e; exact hc
  unfold qkk
  by_cases g1 : 65552 < sealed.length
  · have g : (65552 : Int) < (sealed.length : Int) := by omega
    rw [if_pos g1]
    simp -implicitDefEqProofs only [zA,reduceCtorEq,Nat.reduceEqDiff,Nat.reduceAdd,hk',hn',g]
    intro b4 hb4 b5 hb5
    obtain ⟨n54, hb5'⟩ := Heap.q0b.1 hb5
    exact ⟨Heap.q02 (Heap.q02 (Heap.q04 _) hb4 _) hb5' _, _, rfl, Ow.nil _ _ _⟩
  rw [if_neg g1]
  have g : ¬ (65552 : Int) < (sealed.length : Int) := by omega
  have g' : (sealed.length : Int) ≤ 65552 := by omega
  by_cases g2 : sealed.length < 16
  · have gg : (sealed.length : Int) < 16 := by omega
    rw [if_pos g2]
    simp -implicitDefEqProofs only [zA,reduceCtorEq,Nat.reduceEqDiff,Nat.reduceAdd,hk',hn',g]
    intro b4 hb4 b5 hb5
    obtain ⟨n54, hb5'⟩ := Heap.q0b.1 hb5
    unfold q5o
    simp -implicitDefEqProofs only [zA,Nat.reduceEqDiff,gg]
    exact ⟨Heap.q02 (Heap.q02 (Heap.q04 _) hb4 _) hb5' _, _, rfl, Ow.nil _ _ _⟩
  rw [if_neg g2]
  have w1 : IntKind.i64.wrap ((sealed.length : Int) - 16) = (sealed.length : Int) - 16 := q0w (by omega) (by omega)
  obtain ⟨n, hnl⟩ : ∃ n, sealed.length = n + 16 := ⟨sealed.length - 16, by omega⟩
  have en : (sealed.length : Int) - 16 = (n : Int) := by omega
  rw [show sealed.length - 16 = n by omega]
  rw [en] at w1
  have gg : ¬ ((sealed.length : Int) < 16) := by omega
  have bd : bnds sealed.length cc none (some (some (.int .i64 (n : Int)))) none = some (0, n, cc) := q5t (by omega) (by omega)
  simp -implicitDefEqProofs only [zA,reduceCtorEq,Nat.reduceEqDiff,Nat.reduceAdd,hk',hn',g]
  intro b4 hb4 b5 hb5
  obtain ⟨n54, hb5'⟩ := Heap.q0b.1 hb5
  have le1 : h.le ((h.set b4 (.own 0 (key.map u8V) 32)).set b5 (.own 0 (nonce.map u8V) 12)) := Heap.q02 (Heap.q02 (Heap.q04 _) hb4 _) hb5' _
  have q4 : ((h.set b4 (.own 0 (key.map u8V) 32)).set b5 (.own 0 (nonce.map u8V) 12)) b4 = some (.own 0 (key.map u8V) 32) := q07 (Heap.q01 _ _ _) (Ne.symm n54)
  have q5 : ((h.set b4 (.own 0 (key.map u8V) 32)).set b5 (.own 0 (nonce.map u8V) 12)) b5 = some (.own 0 (nonce.map u8V) 12) := Heap.q01 _ _ _
  generalize ((h.set b4 (.own 0 (key.map u8V) 32)).set b5 (.own 0 (nonce.map u8V) 12)) = h1 at le1 q4 q5 ⊢
  have l4 : q05 h1 ⟨b4, 0, none⟩ 32 = some (key.map u8V) := q0u q4 hk'
  have l5 : q05 h1 ⟨b5, 0, none⟩ 12 = some (nonce.map u8V) := q0u q5 hn'
  unfold q5o
  simp -implicitDefEqProofs only [zA,Nat.reduceEqDiff,gg,en,w1,bd,Nat.sub_zero,l4,l5]
  rw [addO base cc fun a _ => qf1 a]
  have sh := Sl.qsj (sp.le le1) (m := n) (by omega)
  have lh : (sealed.take n).length = n := by simp; omega
  have sT := Sl.qwu (a := n) (b := sealed.length) (sp.le le1) (by omega) (by omega)
  have lT : ((sealed.drop n).take (sealed.length - n)) = sealed.drop n := List.take_of_length_le (by simp)
  rw [lT] at sT
  have s2 : SlB h1 (.slice base n cc) (sealed.take n) := sh
  generalize sealed.take n = c at lh s2 ⊢
  refine (qkg E _ key nonce hk hn).mono ?_
  rintro r h3 ⟨le3, rfl⟩
  have le03 := Heap.q00 le1 le3
  simp -implicitDefEqProofs only [zA,Nat.reduceEqDiff]
  refine (qkf E _ beside c (by omega) hbs (sb.le le03) (s2.le le3)).mono ?_
  rintro r h4 ⟨le4, ow4⟩
  have hl := qlx beside c
  have hf1 := qcp beside.length
  have hf2 := qcp c.length
  simp -implicitDefEqProofs only [zA,Nat.reduceEqDiff]
  refine (qqq E _ (qps key nonce) (qan beside c) (qlt _ _) (by omega) ow4.sl).mono ?_
  rintro r h5 ⟨le5, rfl⟩
  have hlen2 := qd5 key nonce c beside
  have eA : row8 (tagR (qps key nonce) (qan beside c)) 16 = (qf0 key nonce c beside).map u8V := by unfold qf0; rw [qdg]
  rw [eA]
  generalize qf0 key nonce c beside = tg at hlen2 ⊢
  simp -implicitDefEqProofs only [zA,Nat.reduceEqDiff,List.length_replicate]
  intro b12 hb12
  have s12 : q0a (h5.set b12 (.own 0 (List.replicate 16 (.int .u8 0)) 16)) 16 (.pointer (some ⟨b12, 0, none⟩)) (.agg (tg.map u8V).toArray) = some (h5.set b12 (.own 0 (tg.map u8V) 16)) := z6z (by omega) (by simp [hlen2]) (q1i _) (by simp) (by omega)
  have le6 := Heap.q1c (Heap.q00 le3 (Heap.q00 le4 le5)) hb12 (.own 0 (tg.map u8V) 16)
  have st : SlB (h5.set b12 (.own 0 (tg.map u8V) 16)) (.slice (some ⟨b12, 0, none⟩) 16 16) tg := by
    have := qgl (H := h5.set b12 (.own 0 (tg.map u8V) 16)) (b := b12) (l := tg) (sz := 16) (Heap.q01 _ _ _)
    rw [hlen2] at this
    exact this
  have le06 := Heap.q00 le1 le6
  generalize (h5.set b12 (.own 0 (tg.map u8V) 16)) = h6 at s12 le6 st le06 ⊢
  have bd2 : bnds sealed.length cc (some (some (.int .i64 (n : Int)))) none none = some (n, sealed.length, cc) := qb4 (by omega) (by omega)
  have sT' := sT.le le6
  have lS : (sealed.drop n).length = sealed.length - n := by simp
  have st1 : qss h6 (.slice (some ⟨b12, 0, none⟩) 16 16) = some (strV tg) := q7y st
  have st2 := q7y sT'
  simp -implicitDefEqProofs only [zA,Nat.reduceEqDiff,s12]
  unfold qah
  simp -implicitDefEqProofs only [zA,reduceCtorEq,Nat.reduceEqDiff,qeg,Nat.sub_zero,addz,bd2,st1,st2,strV,qel]
  have l4a := q22 le6 l4
  have l5a := q22 le6 l5
  by_cases ht : tg = sealed.drop n
  · rw [if_pos ht]
    have hX := qqp E h6 key nonce c 1 hk hn (by omega) (by rw [show (1 : U32).toNat = 1 from rfl]; omega) (s2.le le6)
    rw [u32_1] at hX
    have hq : (tg == sealed.drop n) = true := by rw [ht]; simp
    have hp : (tg = List.drop n sealed) = True := eq_true ht
    simp -implicitDefEqProofs only [zA,Nat.reduceEqDiff,hq,hp,l4a,l5a]
    refine hX.mono ?_
    rintro r h7 ⟨le7, r', rfl, ow7⟩
    simp -implicitDefEqProofs only [zA,Nat.reduceEqDiff]
    exact ⟨Heap.q00 le06 le7, _, rfl, Ow.since le06 ow7⟩
  · rw [if_neg ht]
    have hq : (tg == sealed.drop n) = false := by simpa using ht
    have hp : (tg = List.drop n sealed) = False := eq_false ht
    simp -implicitDefEqProofs only [zA,Nat.reduceEqDiff,hq,hp]
    exact ⟨le06, _, rfl, Ow.nil _ _ _⟩
theorem qqs (E : EnvT tab) (h : Heap) {b : Value} (l : List UInt8) (hl : l.length ≤ 140737488350000) (s : SlB h b l) (v : U64) (n : Nat) (hn : n ≤ 8) : ACallN E.toEnv qme [b, .int .u64 v.toNat, .int .i64 n] h fun r h' => h.le h' ∧ OwB h h' r (l ++ bigF v n) := by
  obtain ⟨bb, bc, rfl⟩ := Sl.shape s
  refine q0o qb1 q64 rfl rfl (q03 ?_)
  unfold q64
  simp -implicitDefEqProofs only [zA,reduceCtorEq,Nat.reduceEqDiff,Nat.reduceAdd,List.replicate_zero]
  intro b1 hb1
  try simp -implicitDefEqProofs only [zA,reduceIte,reduceCtorEq,Nat.reduceEqDiff,Nat.reduceAdd,Nat.reduceMul,Nat.reduceLT,Nat.reduceSub,Int.reduceLT,Int.reduceLE,Int.reduceEq,Int.reduceNe,Int.reduceSub,Int.reduceAdd,Int.reduceMul,Int.reduceBEq,Int.reduceBNe,Int.reduceGT,Int.reduceGE,Nat.reduceGT,Int.reduceToNat,Int.reduceNeg,Nat.reduceLeDiff,Nat.reduceBEq,Nat.reduceBneDiff]
  refine q0t (bytes := 1) (n := 0) (cells := []) (m := l.length) (news := l.map u8V) (Heap.q02 (Heap.q04 _) hb1 _) (by omega) (Ow.new (Heap.q04 _) hb1 rfl (by omega) (by omega)) (s.le (Heap.q02 (Heap.q04 _) hb1 _)) (q1i l) (by omega) (by omega) ?_
  intro v' h1 ow le1
  rw [Nat.zero_add, List.nil_append] at ow
  change OwB h h1 v' l at ow
  simp -implicitDefEqProofs only [zA,reduceCtorEq,Nat.reduceEqDiff]
  unfold qbv
  simp -implicitDefEqProofs only [zA,Nat.reduceEqDiff]
  refine (qot E h1 n hn).mono ?_
  rintro r H' ⟨rfl, rfl⟩
  have w0 : IntKind.i64.wrap ((n : Int) - 1) = (n : Int) - 1 := q0w (by omega) (by omega)
  simp -implicitDefEqProofs only [zA,Nat.reduceEqDiff,w0]
  refine q0c (fun m t H => h.le H ∧ ∃ (j : Nat) (v7 : Value), t = tl [(1, .int .u64 v.toNat), (7, v7), (8, .int .i64 ((j : Int) - 1))] ∧ j ≤ n ∧ m = j ∧ ∃ l', OwB h H v7 l' ∧ l' ++ bigF v j = l ++ bigF v n) n
    ⟨le1, n, _, rfl, by omega, rfl, l, ow, rfl⟩ ?_
  rintro m t H ⟨leH, j, v7, rfl, hj, rfl, l', ow', hl'⟩
  cases m with
  | zero =>
    simp -implicitDefEqProofs only [zA,Nat.reduceEqDiff,Int.reduceLE,Int.reduceSub,Int.reduceNeg]
    have : l' = l ++ bigF v n := by rw [← hl']; simp [bigF]
    rw [← this]
    exact ⟨leH, ow'⟩
  | succ j =>
    have e1 : (((j + 1 : Nat) : Int) - 1) = (j : Int) := by omega
    have e2 : (0 : Int) ≤ j := by omega
    have w1 : IntKind.i64.wrap (8 * (j : Int)) = ((8 * j : Nat) : Int) := by rw [q0w (by omega) (by omega)]; omega
    have w1' : IntKind.u64.wrap ((8 * j : Nat) : Int) = ((8 * j : Nat) : Int) := q1x (by omega)
    have w2 : IntKind.i64.wrap ((j : Int) - 1) = (j : Int) - 1 := q0w (by omega) (by omega)
    have n1 : ¬ (((8 * j : Nat) : Int) < 0) := by omega
    have sh : ((v.toNat : Int).fdiv (2 ^ (min (8 * j) IntKind.u64.bits))) = ((v >>> (8 * j)).toNat : Int) := qrh v (8 * j) (by omega)
    rw [e1]
    have hlen : l'.length ≤ l.length + 8 := by
      have := congrArg List.length hl'
      simp only [List.length_append, qlr] at this
      omega
    simp -implicitDefEqProofs only [zA,Nat.reduceEqDiff,e2,w1,w1',n1,Int.toNat_natCast,sh,qw0]
    intro b1 hb1
    try simp -implicitDefEqProofs only [zA,Nat.reduceEqDiff]
    refine app1 leH hb1 ow' (by omega) ?_
    intro v3 H3 ow3 le3
    simp -implicitDefEqProofs only [zA,Nat.reduceEqDiff,w2]
    refine ⟨j, by omega, le3, j, v3, rfl, by omega, rfl, l' ++ [UInt8.ofNat (v >>> (8 * j)).toNat], ow3, ?_⟩
    rw [← hl', qu8]; simp
theorem qki (E : EnvT tab) (h : Heap) (dev n : Nat) (hd : dev < 9223372036854775808) (hn : n < 9223372036854775808) :
    ACallN E.toEnv qik [.int .i64 dev, .int .i64 n] h fun r h' => h.le h' ∧ r = .agg ((q4g dev n).map u8V).toArray := by
  refine q0o q7q q3i rfl rfl (q03 ?_)
  unfold q3i
  have w1 := qk8 dev (by omega)
  have w2 := qk8 n (by omega)
  simp -implicitDefEqProofs only [zA,reduceCtorEq,Nat.reduceEqDiff,Nat.reduceAdd]
  intro b4 hb4
  rw [List.length_replicate]
  have le1 : h.le (h.set b4 (.own 0 (List.replicate 12 (.int .u8 0)) 12)) := Heap.q02 (Heap.q04 _) hb4 _
  have q4 : (h.set b4 (.own 0 (List.replicate 12 (.int .u8 0)) 12)) b4 = some (.own 0 (List.replicate 12 (.int .u8 0)) 12) := Heap.q01 _ _ _
  generalize (h.set b4 (.own 0 (List.replicate 12 (.int .u8 0)) 12)) = h1 at le1 q4
  intro b5 hb5
  try simp -implicitDefEqProofs only [zA,reduceIte,reduceCtorEq,Nat.reduceEqDiff,Nat.reduceAdd,Nat.reduceMul,Nat.reduceLT,Nat.reduceSub,Int.reduceLT,Int.reduceLE,Int.reduceEq,Int.reduceNe,Int.reduceSub,Int.reduceAdd,Int.reduceMul,Int.reduceBEq,Int.reduceBNe,Int.reduceGT,Int.reduceGE,Nat.reduceGT,Int.reduceToNat,Int.reduceNeg,Nat.reduceLeDiff,Nat.reduceBEq,Nat.reduceBneDiff,List.length_replicate]
  have st0 : q0a (h1.set b5 (.own 0 (List.replicate 12 (.int .u8 0)) 12)) 12 (.pointer (some ⟨b5, 0, none⟩)) (.agg (List.replicate 12 (.int .u8 0)).toArray) = some (h1.set b5 (.own 0 (List.replicate 12 (.int .u8 0)) 12)) := z6z (by omega) (by simp) (by rw [show List.replicate 12 (Value.int .u8 0) = (List.replicate 12 (0 : UInt8)).map u8V from by rw [List.map_replicate]; rfl]; exact q1i _) (by simp) (by omega)
  have le5 := Heap.q02 (Heap.q04 h1) hb5 (.own 0 (List.replicate 12 (.int .u8 0)) 12)
  have q5 : (h1.set b5 (.own 0 (List.replicate 12 (.int .u8 0)) 12)) b5 = some (.own 0 (List.replicate 12 (.int .u8 0)) 12) := Heap.q01 _ _ _
  simp -implicitDefEqProofs only [zA,reduceCtorEq,Nat.reduceEqDiff,st0]
  generalize (h1.set b5 (.own 0 (List.replicate 12 (.int .u8 0)) 12)) = h2 at le5 q5 ⊢
  simp -implicitDefEqProofs only [zA,w1]
  refine (qqs E h2 [] (by simp) (.inl ⟨rfl, rfl, rfl⟩) (BitVec.ofNat 64 dev) 4 (by omega)).mono ?_
  rintro r h3 ⟨le3, ow3⟩
  rw [List.nil_append] at ow3
  simp -implicitDefEqProofs only [zA,reduceCtorEq,Nat.reduceEqDiff,w2,implies_true,List.mem_cons,List.not_mem_nil,or_false]
  refine (qqs E h3 (bigF (BitVec.ofNat 64 dev) 4) (by rw [qlr]; omega) ow3.sl (BitVec.ofNat 64 n) 8 (by omega)).mono ?_
  rintro r h4 ⟨le4, ow4⟩
  have ex := qcr dev n
  change OwB h3 h4 r (q4g dev n) at ow4
  generalize q4g dev n = X at *
  obtain ⟨rb, rc, rfl⟩ := Sl.shape ow4.sl
  have q6 := le4 _ _ (le3 _ _ q5)
  simp -implicitDefEqProofs only [zA,reduceCtorEq,Nat.reduceEqDiff,Nat.reduceAdd,qeg,Nat.sub_zero,addz,implies_true,List.mem_cons,List.not_mem_nil,or_false]
  refine qd3 (size := 1) q6 (by simp) (by simp) ow4.sl (q1i X) ?_
  have es : q1t (List.replicate 12 (Value.int .u8 0)) 0 ((X.map u8V).take (min X.length 12 * 1)) = X.map u8V := by
    unfold q1t
    simp [ex]
    rw [List.take_of_length_le (by simp [ex])]
  rw [es]
  have le25 : h2.le h4 := Heap.q00 le3 le4
  have ld : q05 (h4.set b5 (.own 0 (X.map u8V) 12)) ⟨b5, 0, none⟩ 12 = some (X.map u8V) := z6x (by simp [ex])
  have n45 : b4 ≠ b5 := by intro e; subst e; rw [hb5] at q4; cases q4
  have q7 : (h4.set b5 (.own 0 (X.map u8V) 12)) b4 = some (.own 0 (List.replicate 12 (.int .u8 0)) 12) := by
    rw [Heap.q0d n45]; exact le25 _ _ (le5 _ _ q4)
  have st : q0a (h4.set b5 (.own 0 (X.map u8V) 12)) 12 (.pointer (some ⟨b4, 0, none⟩)) (.agg (X.map u8V).toArray) = some ((h4.set b5 (.own 0 (X.map u8V) 12)).set b4 (.own 0 (X.map u8V) 12)) := q0f q7 (by omega) (by simp [ex]) (q1i _) (by simp) (by omega)
  have le7 : h.le (h4.set b5 (.own 0 (X.map u8V) 12)) := Heap.q02 (Heap.q00 le1 (Heap.q00 le5 le25)) (Heap.q08 le1 hb5) _
  generalize (h4.set b5 (.own 0 (X.map u8V) 12)) = h5 at ld st le7 ⊢
  have ld2 : q05 (h5.set b4 (.own 0 (X.map u8V) 12)) ⟨b4, 0, none⟩ 12 = some (X.map u8V) := z6x (by simp [ex])
  simp -implicitDefEqProofs only [zA,reduceCtorEq,Nat.reduceEqDiff,ld,st,ld2]
  exact Heap.q02 le7 hb4 _
theorem qkh (E : EnvT tab) (H : Heap) (a d n : Nat) (ha : a < 9223372036854775808) (hd : d < 9223372036854775808) (hn : n < 9223372036854775808) :
    ACallN E.toEnv qij [.int .i64 a, .agg (dotC d n).toArray] H fun r H' => H.le H' ∧ OwB H H' r (labW a d n) := by
  refine q0o q7p q3h rfl rfl (q03 ?_)
  unfold q3h
  have h1 := q2b 9 a (by omega) (by omega)
  have h2 := q2b 9 d (by omega) (by omega)
  simp -implicitDefEqProofs only [zA,reduceCtorEq,Nat.reduceEqDiff,Nat.reduceAdd]
  intro b hb
  try simp -implicitDefEqProofs only [zA,reduceIte,reduceCtorEq,Nat.reduceEqDiff,Nat.reduceAdd,Nat.reduceMul,Nat.reduceLT,Nat.reduceSub,Int.reduceLT,Int.reduceLE,Int.reduceEq,Int.reduceNe,Int.reduceSub,Int.reduceAdd,Int.reduceMul,Int.reduceBEq,Int.reduceBNe,Int.reduceGT,Int.reduceGE,Nat.reduceGT,Int.reduceToNat,Int.reduceNeg,Nat.reduceLeDiff,Nat.reduceBEq,Nat.reduceBneDiff]
  have le1 := Heap.q02 (Heap.q04 H) hb (.own 0 (dotC d n) (dotC d n).length)
  have q : (H.set b (.own 0 (dotC d n) (dotC d n).length)) b = some (.own 0 (dotC d n) (dotC d n).length) := Heap.q01 _ _ _
  generalize (H.set b (.own 0 (dotC d n) (dotC d n).length)) = H1 at le1 q
  have c0 : ∀ G, H1.le G → q0x G ⟨b, 0, none⟩ = some (.int .i64 d) := fun G x => by rw [q0k (x _ _ q) (by simp [dotC])]; rfl
  have c1 : ∀ G, H1.le G → q0x G ⟨b, 1, none⟩ = some (.int .i64 n) := fun G x => by rw [q0k (x _ _ q) (by simp [dotC])]; rfl
  refine (q4n E H1 [] (by simp) (.inl ⟨rfl, rfl, rfl⟩) a ha).mono ?_
  rintro r1 H2 ⟨le2, ow2⟩
  rw [List.nil_append] at ow2
  have c01 := c0 H1 (Heap.q04 _)
  have c02 := c0 H2 le2
  simp -implicitDefEqProofs only [zA,reduceCtorEq,Nat.reduceEqDiff,c01,c02,implies_true,List.mem_cons,List.not_mem_nil,or_false,forall_eq]
  refine (q4n E H2 _ (by omega) ow2.sl d hd).mono ?_
  rintro r2 H3 ⟨le3, ow3⟩
  have c11 := c1 H1 (Heap.q04 _)
  have c12 := c1 H2 le2
  have c13 := c1 H3 (Heap.q00 le2 le3)
  simp -implicitDefEqProofs only [zA,reduceCtorEq,Nat.reduceEqDiff,Nat.reduceAdd,c11,c12,c13,implies_true,List.mem_cons,List.not_mem_nil,or_false,forall_eq,forall_eq_or_imp,and_self]
  refine (q4n E H3 _ (by simp; omega) ow3.sl n hn).mono ?_
  rintro r3 H4 ⟨le4, ow4⟩
  simp -implicitDefEqProofs only [zA,reduceCtorEq,Nat.reduceEqDiff]
  have leA := Heap.q00 le1 (Heap.q00 le2 le3)
  exact ⟨Heap.q00 leA le4, ow4.since leA⟩
theorem qn3 (E : EnvT tab) (H : Heap) (e : Ed) (o : EdOk e) : ACallN E.toEnv qjj [.agg (edC e).toArray] H fun r H' => H.le H' ∧ r = .int .i64 (qpz e) := by
  have h8 := o.h8
  refine q0o q8k q3z rfl rfl (q03 ?_)
  unfold q3z
  have el := q1a h8
  have pl := qo0 h8
  simp -implicitDefEqProofs only [zA,reduceCtorEq,Nat.reduceEqDiff]
  intro b hb
  try simp -implicitDefEqProofs only [zA,reduceIte,reduceCtorEq,Nat.reduceEqDiff,Nat.reduceAdd,Nat.reduceMul,Nat.reduceLT,Nat.reduceSub,Int.reduceLT,Int.reduceLE,Int.reduceEq,Int.reduceNe,Int.reduceSub,Int.reduceAdd,Int.reduceMul,Int.reduceBEq,Int.reduceBNe,Int.reduceGT,Int.reduceGE,Nat.reduceGT,Int.reduceToNat,Int.reduceNeg,Nat.reduceLeDiff,Nat.reduceBEq,Nat.reduceBneDiff]
  rw [el]
  have le1 := Heap.q02 (Heap.q04 H) hb (.own 0 (edC e) 15)
  have A : EdAt (H.set b (.own 0 (edC e) 15)) b e := EdAt.of (Heap.q01 _ _ _) h8
  generalize (H.set b (.own 0 (edC e) 15)) = H1 at le1 A
  simp -implicitDefEqProofs only [zA,Nat.reduceEqDiff,A.all]
  refine (qgi E H1 e h8 o.con o.fld o.n1 o.n2).mono ?_
  rintro r1 H2 ⟨le2, ow2⟩
  simp -implicitDefEqProofs only [zA,Nat.reduceEqDiff]
  refine (qrw E H2 _ (by omega) ow2.sl).mono ?_
  rintro r2 H3 ⟨le3, r', rfl, ow3⟩
  have A3 := A.le h8 (Heap.q00 le2 le3)
  obtain ⟨rb, rc, rfl⟩ := Sl.shape ow3.sl
  simp -implicitDefEqProofs only [zA,Nat.reduceEqDiff,A3.all]
  refine (q8a E H3 e h8 o.con o.fld o.n1 o.n2).mono ?_
  rintro r3 H4 ⟨le4, rfl⟩
  have leA := Heap.q00 le1 (Heap.q00 le2 (Heap.q00 le3 le4))
  have hp := qb9 (l := putG e) (by omega)
  have hb2 := qqa (n := (putG e).length) (by omega)
  unfold qpz
  unfold putG at hp hb2 ⊢
  cases hg : q28 e with
  | false =>
    simp -implicitDefEqProofs only [zA,Nat.reduceEqDiff]
    exact leA
  | true =>
    rw [hg, if_pos rfl] at hp hb2
    simp -implicitDefEqProofs only [zA,Nat.reduceEqDiff]
    refine ⟨leA, ?_⟩
    congr 1
    omega
theorem qnm (E : EnvT tab) {H : Heap} {w : Nat} {L : RL} (R : WG H w L) (hL : ∀ x ∈ L, x.2.length = 32) (hn : L.length ≤ 1000) (hR : ∀ x ∈ L, 0 ≤ x.1 ∧ x.1 ≤ 1099511627776) (k : Int) (e : Ed) (o : EdOk e) :
    ACallN E.toEnv qfb [.pointer (some ⟨w, 0, none⟩), .int .i64 k, .agg (edC e).toArray] H fun r H' => H.le H' ∧ ∃ r', r = .tuple #[r', .int .i64 ((qrn L k e).1 : Nat)] ∧ OwB H H' r' (qrn L k e).2 := by
  have h8 := o.h8
  refine q0o q58 q2d rfl rfl (q03 ?_)
  unfold q2d
  have el := q1a h8
  have pl := qo0 h8
  simp -implicitDefEqProofs only [zA,reduceCtorEq,Nat.reduceEqDiff,Nat.reduceAdd]
  intro b hb
  try simp -implicitDefEqProofs only [zA,reduceIte,reduceCtorEq,Nat.reduceEqDiff,Nat.reduceAdd,Nat.reduceMul,Nat.reduceLT,Nat.reduceSub,Int.reduceLT,Int.reduceLE,Int.reduceEq,Int.reduceNe,Int.reduceSub,Int.reduceAdd,Int.reduceMul,Int.reduceBEq,Int.reduceBNe,Int.reduceGT,Int.reduceGE,Nat.reduceGT,Int.reduceToNat,Int.reduceNeg,Nat.reduceLeDiff,Nat.reduceBEq,Nat.reduceBneDiff]
  rw [el]
  have le1 := Heap.q02 (Heap.q04 H) hb (.own 0 (edC e) 15)
  have A : EdAt (H.set b (.own 0 (edC e) 15)) b e := EdAt.of (Heap.q01 _ _ _) h8
  generalize (H.set b (.own 0 (edC e) 15)) = H1 at le1 A
  simp -implicitDefEqProofs only [zA,reduceCtorEq,Nat.reduceEqDiff,A.all]
  refine (q8a E H1 e h8 o.con o.fld o.n1 o.n2).mono ?_
  rintro r H2 ⟨le2, rfl⟩
  have le02 := Heap.q00 le1 le2
  unfold qrn
  cases hg : q28 e with
  | false =>
    simp -implicitDefEqProofs only [zA,reduceCtorEq,Nat.reduceEqDiff]
    exact ⟨le02, _, rfl, Ow.nil _ _ _⟩
  | true =>
    rw [if_pos rfl]
    simp -implicitDefEqProofs only [zA,reduceCtorEq,Nat.reduceEqDiff]
    unfold q6j
    simp -implicitDefEqProofs only [zA,reduceCtorEq,Nat.reduceEqDiff]
    refine (qsz E (R.le le02) hL hn k).mono ?_
    rintro r H3 ⟨le3, rfl⟩
    have wl : ((getK L k).getD (List.replicate 32 0)).length = 32 := by
      cases h : getK L k with
      | none => simp
      | some key =>
        obtain ⟨x, hx, -, rfl⟩ := qia h
        exact hL x hx
    have wk : ∀ key, getK L k = some key → (getK L k).getD (List.replicate 32 0) = key := fun key h => by rw [h]; rfl
    generalize (getK L k).getD (List.replicate 32 0) = W at wl wk
    simp -implicitDefEqProofs only [zA,reduceCtorEq,Nat.reduceEqDiff]
    intro b8 hb8
    try simp -implicitDefEqProofs only [zA,List.length_replicate]
    have st8 : q0a (H3.set b8 (.own 0 (List.replicate 32 (.int .u8 0)) 32)) 32 (.pointer (some ⟨b8, 0, none⟩)) (.agg (W.map u8V).toArray) = some (H3.set b8 (.own 0 (W.map u8V) 32)) := z6z (by omega) (by simp [wl]) (q1i _) (by simp) (by omega)
    have le8 := Heap.q02 (Heap.q04 H3) hb8 (.own 0 (W.map u8V) 32)
    have q8 : (H3.set b8 (.own 0 (W.map u8V) 32)) b8 = some (.own 0 (W.map u8V) 32) := Heap.q01 _ _ _
    simp -implicitDefEqProofs only [zA,reduceCtorEq,Nat.reduceEqDiff,st8]
    generalize (H3.set b8 (.own 0 (W.map u8V) 32)) = H4 at le8 q8 ⊢
    have le24 := Heap.q00 le3 le8
    have le04 := Heap.q00 le02 le24
    cases hk : getK L k with
    | none =>
      simp -implicitDefEqProofs only [zA,Nat.reduceEqDiff,Option.isSome]
      exact ⟨le04, _, rfl, Ow.nil _ _ _⟩
    | some key =>
      obtain rfl := wk key hk
      obtain ⟨x, hx, ek, -⟩ := qia hk
      have hkr := hR x hx
      rw [ek] at hkr
      have g := qa9 hg
      obtain ⟨⟨d1, d2⟩, ⟨n1, n2⟩, -, -, -, -, -, -, -⟩ := g
      obtain ⟨K, hK⟩ : ∃ K : Nat, k = K := ⟨k.toNat, by omega⟩
      obtain ⟨D, hD⟩ : ∃ D : Nat, e.dev = D := ⟨e.dev.toNat, by omega⟩
      obtain ⟨N, hN⟩ : ∃ N : Nat, e.n = N := ⟨e.n.toNat, by omega⟩
      have tK : k.toNat = K := by omega
      have tD : e.dev.toNat = D := by omega
      have tN : e.n.toNat = N := by omega
      have A4 := A.le h8 (Heap.q00 le2 le24)
      simp -implicitDefEqProofs only [zA,Nat.reduceEqDiff,Option.isSome,A4.all]
      refine (qgi E H4 e h8 o.con o.fld o.n1 o.n2).mono ?_
      rintro r1 H5 ⟨le5, ow5⟩
      simp -implicitDefEqProofs only [zA,Nat.reduceEqDiff]
      refine (qrw E H5 _ (by omega) ow5.sl).mono ?_
      rintro r2 H6 ⟨le6, r', rfl, ow6⟩
      have ep : putG e = putE e := by unfold putG; rw [if_pos hg]
      rw [ep] at ow6 pl
      have hp := qb9 (l := putE e) (by omega)
      have hb2 := qqa (n := (putE e).length) (by omega)
      have le46 := Heap.q00 le5 le6
      have A6 := A4.le h8 le46
      unfold qlp
      rw [tK, tD, tN, hK]
      simp -implicitDefEqProofs only [zA,Nat.reduceEqDiff]
      unfold q6i
      have dot6 : ∀ G, EdAt G b e → q05 G ⟨b, 0, none⟩ 2 = some (dotC D N) := fun G a => by
        rw [q0l a.own (by omega)]
        simp only [edC, List.drop_zero, List.take_succ_cons, List.take_zero, hD, hN, dotC]
      have d6 := dot6 H6 A6
      simp -implicitDefEqProofs only [zA,Nat.reduceEqDiff,d6]
      refine (qkh E H6 K D N (by omega) (by omega) (by omega)).mono ?_
      rintro r3 H7 ⟨le7, ow7⟩
      have ll := qo2 (a := K) (d := D) (n := N) (by omega) (by omega) (by omega)
      have A7 := A6.le h8 le7
      have aD := A7.dev
      have aN := A7.n
      rw [hD] at aD
      rw [hN] at aN
      simp -implicitDefEqProofs only [zA,Nat.reduceEqDiff,aD,aN]
      refine (qki E H7 D N (by omega) (by omega)).mono ?_
      rintro r4 H8 ⟨le8', rfl⟩
      have cw : ∀ G, H4.le G → q05 G ⟨b8, 0, none⟩ 32 = some (W.map u8V) := fun G x => by
        rw [q0l (x _ _ q8) (by simp [wl])]; simp [List.take_of_length_le, wl]
      have cw7 := cw H7 (Heap.q00 le46 le7)
      have cw8 := cw H8 (Heap.q00 le46 (Heap.q00 le7 le8'))
      simp -implicitDefEqProofs only [zA,Nat.reduceEqDiff,cw7,cw8,implies_true,List.mem_cons,List.not_mem_nil,or_false,forall_eq]
      refine (qum E H8 W (q4g D N) (padF (putE e)) (labW K D N) wl (qcr _ _) (by omega) (by omega) (ow6.sl.le (Heap.q00 le7 le8')) (ow7.sl.le le8')).mono ?_
      rintro r5 H9 ⟨le9, r5', rfl, ow9⟩
      have sl' := qge W (q4g D N) (padF (putE e)) (labW K D N)
      simp -implicitDefEqProofs only [zA,Nat.reduceEqDiff]
      refine (qcc E H9 _ _ (by omega) (by omega) (ow7.sl.le (Heap.q00 le8' le9)) ow9.sl).mono ?_
      rintro r6 H10 ⟨le10, ow10⟩
      simp -implicitDefEqProofs only [zA,Nat.reduceEqDiff]
      have leA := Heap.q00 le04 (Heap.q00 le46 (Heap.q00 le7 (Heap.q00 le8' le9)))
      exact ⟨Heap.q00 leA le10, _, rfl, ow10.since leA⟩
theorem j0c (m : Nat) : bktG m = true ↔ ∃ i, i < 11 ∧ m = 64 * 2 ^ i + 16 := by
  constructor
  · intro h
    unfold bktG at h
    simp only [decide_eq_true_eq] at h
    unfold bkA at h
    split at h
    · simp at h
    · split at h
      · simp at h
      · have h1 := (Prod.mk.inj h).1
        unfold bk at h1
        have key : ∀ i, i < 11 → ((m : Int) - 16 = 64 * 2 ^ i) → ∃ i, i < 11 ∧ m = 64 * 2 ^ i + 16 := fun i hi e => ⟨i, hi, by
          have e2 : ((64 * 2 ^ i : Nat) : Int) = 64 * 2 ^ i := by simp
          omega⟩
        repeat' split at h1
        · exact key 0 (by omega) (by rw [← h1]; rfl)
        · exact key 1 (by omega) (by rw [← h1]; rfl)
        · exact key 2 (by omega) (by rw [← h1]; rfl)
        · exact key 3 (by omega) (by rw [← h1]; rfl)
        · exact key 4 (by omega) (by rw [← h1]; rfl)
        · exact key 5 (by omega) (by rw [← h1]; rfl)
        · exact key 6 (by omega) (by rw [← h1]; rfl)
        · exact key 7 (by omega) (by rw [← h1]; rfl)
        · exact key 8 (by omega) (by rw [← h1]; rfl)
        · exact key 9 (by omega) (by rw [← h1]; rfl)
        · exact key 10 (by omega) (by rw [← h1]; rfl)
  · rintro ⟨i, hi, rfl⟩
    have hc : i = 0 ∨ i = 1 ∨ i = 2 ∨ i = 3 ∨ i = 4 ∨ i = 5 ∨ i = 6 ∨ i = 7 ∨ i = 8 ∨ i = 9 ∨ i = 10 := by omega
    rcases hc with rfl | rfl | rfl | rfl | rfl | rfl | rfl | rfl | rfl | rfl | rfl <;> decide
def qgj (l : List UInt8) : (Nat × Nat × Nat × List UInt8) × Bool := match labL 7 l with
  | none => ((0, 0, 0, []), false)
  | some x => (x, true)
theorem qkj (E : EnvT tab) (H : Heap) {v : Value} (l : List UInt8) (hl : l.length ≤ 100000) (s : SlB H v l) :
    ACallN E.toEnv qil [v] H fun r H' => H.le H' ∧ ∃ r', r = .tuple #[.int .i64 (qgj l).1.1, .agg (dotC (qgj l).1.2.1 (qgj l).1.2.2.1).toArray, r', .bool (qgj l).2] ∧ OwB H H' r' (qgj l).1.2.2.2 := by
  obtain ⟨vb, vc, rfl⟩ := Sl.shape s
  refine q0o q7r q3j rfl rfl (q03 ?_)
  unfold q3j
  have dz : [Value.int .i64 0, Value.int .i64 0] = dotC 0 0 := rfl
  simp -implicitDefEqProofs only [zA,reduceCtorEq,Nat.reduceEqDiff,Nat.reduceAdd,Nat.reduceLeDiff]
  intro b3 hb3
  try simp -implicitDefEqProofs only [zA,reduceIte,reduceCtorEq,Nat.reduceEqDiff,Nat.reduceAdd,Nat.reduceMul,Nat.reduceLT,Nat.reduceSub,Int.reduceLT,Int.reduceLE,Int.reduceEq,Int.reduceNe,Int.reduceSub,Int.reduceAdd,Int.reduceMul,Int.reduceBEq,Int.reduceBNe,Int.reduceGT,Int.reduceGE,Nat.reduceGT,Int.reduceToNat,Int.reduceNeg,Nat.reduceLeDiff,Nat.reduceBEq,Nat.reduceBneDiff]
  rw [dz]
  have le3 := Heap.q02 (Heap.q04 H) hb3 (.own 0 (dotC 0 0) 2)
  have q3 : (H.set b3 (.own 0 (dotC 0 0) 2)) b3 = some (.own 0 (dotC 0 0) 2) := Heap.q01 _ _ _
  generalize (H.set b3 (.own 0 (dotC 0 0) 2)) = H3 at le3 q3 ⊢
  intro b hb
  try simp -implicitDefEqProofs only [zA,reduceIte,reduceCtorEq,Nat.reduceEqDiff,Nat.reduceAdd,Nat.reduceMul,Nat.reduceLT,Nat.reduceSub,Int.reduceLT,Int.reduceLE,Int.reduceEq,Int.reduceNe,Int.reduceSub,Int.reduceAdd,Int.reduceMul,Int.reduceBEq,Int.reduceBNe,Int.reduceGT,Int.reduceGE,Nat.reduceGT,Int.reduceToNat,Int.reduceNeg,Nat.reduceLeDiff,Nat.reduceBEq,Nat.reduceBneDiff]
  have le4 := Heap.q02 (Heap.q04 H3) hb (.own 0 [.slice vb l.length vc, .int .i64 0, .bool false] 3)
  have R : RdW H3 (H3.set b (.own 0 [.slice vb l.length vc, .int .i64 0, .bool false] 3)) b l (some l) := ⟨le4, hb, _, 0, false, Heap.q01 _ _ _, s.le le3, by omega, rfl⟩
  have nb3 : b3 ≠ b := by intro e; subst e; rw [hb] at q3; cases q3
  have q3 := le4 _ _ q3
  have hbH : H b = none := Heap.q08 le3 hb
  have le04 := Heap.q00 le3 le4
  generalize (H3.set b (.own 0 [.slice vb l.length vc, .int .i64 0, .bool false] 3)) = H4 at R q3 le04 ⊢
  have kp : ∀ {G G' : Heap}, Kp b G G' → H.le G → H.le G' := fun k x c y h => k _ _ (by intro q; subst q; rw [hbH] at h; cases h) (x _ _ h)
  obtain ⟨A, hA⟩ : ∃ A, A = numS M40 (some l) := ⟨_, rfl⟩
  obtain ⟨D, hD⟩ : ∃ D, D = numS 7 A.2 := ⟨_, rfl⟩
  obtain ⟨N, hN⟩ : ∃ N, N = numS M40 D.2 := ⟨_, rfl⟩
  obtain ⟨C, hC⟩ : ∃ C, C = q69 65552 N.2 := ⟨_, rfl⟩
  have er : rdL 7 (some l) = ((A.1, D.1, N.1, C.1), C.2) := by
    rw [hC, hN, hD, hA]; rfl
  have cC : C.1.length ≤ 65552 := by rw [hC]; exact qb3 _ _
  have cD : D.1 ≤ 7 := by rw [hD]; exact qgn _ _
  refine (q3d E R (by omega) M40 (by unfold M40; omega)).mono ?_
  rintro r G1 ⟨rfl, R1, k1⟩
  rw [← hA] at R1 ⊢
  have q31 := k1 _ _ nb3 q3
  have l1 := kp k1 le04
  simp -implicitDefEqProofs only [zA,Nat.reduceEqDiff]
  refine (q3d E R1 (by omega) 7 (by omega)).mono ?_
  rintro r G2 ⟨rfl, R2, k2⟩
  rw [← hD] at R2 ⊢
  have q32 := k2 _ _ nb3 q31
  have l2 := kp k2 l1
  simp -implicitDefEqProofs only [zA,Nat.reduceEqDiff]
  refine (q3d E R2 (by omega) M40 (by unfold M40; omega)).mono ?_
  rintro r G3 ⟨rfl, R3, k3⟩
  rw [← hN] at R3 ⊢
  have q33 := k3 _ _ nb3 q32
  have l3 := kp k3 l2
  simp -implicitDefEqProofs only [zA,Nat.reduceEqDiff,Nat.reduceAdd,Nat.reduceLeDiff]
  intro b8 hb8
  try simp -implicitDefEqProofs only [zA,Nat.reduceEqDiff]
  have dd : Value.int .i64 D.1 :: Value.int .i64 N.1 :: List.drop 1 (List.drop 1 (dotC 0 0)) = dotC D.1 N.1 := rfl
  have dl : (dotC 0 0).length = 2 := rfl
  rw [dd, dl]
  have st8 : q0a (G3.set b8 (.own 0 (dotC 0 0) 2)) 2 (.pointer (some ⟨b8, 0, none⟩)) (.agg (dotC D.1 N.1).toArray) = some (G3.set b8 (.own 0 (dotC D.1 N.1) 2)) := z6z (by omega) rfl rfl rfl (by omega)
  have le8 := Heap.q02 (Heap.q04 G3) hb8 (.own 0 (dotC D.1 N.1) 2)
  have q8 : (G3.set b8 (.own 0 (dotC D.1 N.1) 2)) b8 = some (.own 0 (dotC D.1 N.1) 2) := Heap.q01 _ _ _
  have nb8 : b8 ≠ b := by intro e; subst e; exact R3.ne hb8
  have R4 := R3.le le8
  have q34 := le8 _ _ q33
  have l4 := Heap.q00 l3 le8
  simp -implicitDefEqProofs only [zA,Nat.reduceEqDiff,st8]
  generalize (G3.set b8 (.own 0 (dotC D.1 N.1) 2)) = G4 at q8 R4 q34 l4 ⊢
  unfold q8y
  simp -implicitDefEqProofs only [zA,Nat.reduceEqDiff]
  refine (qb8 E R4 (by omega) 65552 (by omega)).mono ?_
  rintro r G5 ⟨ow, R5, k5⟩
  rw [← hC] at R5 ow
  have q35 := k5 _ _ nb3 q34
  have q85 := k5 _ _ nb8 q8
  have l5 := kp k5 l4
  obtain ⟨rb, rc, rfl⟩ := Sl.shape ow.sl
  have owH : OwB H G5 (.slice rb C.1.length rc) C.1 := ow.since l4
  have ev : qgj l = if okL ((A.1, D.1, N.1, C.1), C.2) = true then ((A.1, D.1, N.1, C.1), true) else ((0, 0, 0, []), false) := by
    unfold qgj labL
    rw [er]
    split <;> rename_i h
    · split at h
      · cases h
      · rw [if_neg ‹_›]
    · split at h
      · rw [if_pos ‹_›]; cases h; rfl
      · cases h
  generalize qgj l = V at ev ⊢
  have eo : okL ((A.1, D.1, N.1, C.1), C.2) = (endS C.2 && decide (D.1 < 8) && decide (1 ≤ N.1) && bktG C.1.length) := rfl
  rw [decide_eq_true (show D.1 < 8 by omega), Bool.and_true] at eo
  clear er hA hD hN hC k1 k2 k3 R R1 R2 R3 R4 le8
  simp -implicitDefEqProofs only [zA,Nat.reduceEqDiff]
  refine q0c (fun m t G => G = G5 ∧ ∃ (j : Nat) (n : Int), t = tl [(3, .pointer (some ⟨b3, 0, none⟩)), (6, .pointer (some ⟨b, 0, none⟩)), (7, .int .i64 A.1), (8, .pointer (some ⟨b8, 0, none⟩)), (9, .slice rb C.1.length rc), (10, .int .i64 n), (11, .int .i64 ((64 * 2 ^ j : Nat) : Int))] ∧ j ≤ 11 ∧ m = 11 - j ∧ ((n = 0 ∧ ∀ i, i < j → C.1.length ≠ 64 * 2 ^ i + 16) ∨ (n ≠ 0 ∧ ∃ i, i < j ∧ C.1.length = 64 * 2 ^ i + 16))) 11
    ⟨rfl, 0, 0, rfl, by omega, by omega, .inl ⟨rfl, fun i hi => by omega⟩⟩ ?_
  rintro m t G ⟨rfl, j, n, rfl, hj, rfl, hn⟩
  have hp : 2 ^ j ≤ 2048 := Nat.pow_le_pow_right (n := 2) (by omega) hj
  by_cases hlt : j < 11
  · have hp2 : 2 ^ j ≤ 1024 := Nat.pow_le_pow_right (n := 2) (by omega) (show j ≤ 10 by omega)
    have g1 : ((64 * 2 ^ j : Nat) : Int) ≤ 65536 := by omega
    have w1 : IntKind.i64.wrap (((64 * 2 ^ j : Nat) : Int) + 16) = ((64 * 2 ^ j + 16 : Nat) : Int) := by rw [q0w (by omega) (by omega)]; rfl
    have w2 : IntKind.i64.wrap (2 * ((64 * 2 ^ j : Nat) : Int)) = ((64 * 2 ^ (j + 1) : Nat) : Int) := by rw [q0w (by omega) (by omega), Nat.pow_succ]; omega
    by_cases g2 : C.1.length = 64 * 2 ^ j + 16
    · have g2' : ((C.1.length : Int) == ((64 * 2 ^ j + 16 : Nat) : Int)) = true := by rw [g2]; exact beq_self_eq_true _
      simp -implicitDefEqProofs only [zA,Nat.reduceEqDiff,g1,w1,g2',w2]
      have hpos : 0 < 2 ^ j := Nat.pow_pos (by omega)
      exact ⟨11 - (j + 1), by omega, j + 1, _, rfl, by omega, rfl, .inr ⟨by omega, j, by omega, g2⟩⟩
    · have g2' : ((C.1.length : Int) == ((64 * 2 ^ j + 16 : Nat) : Int)) = false := by rw [beq_eq_false_iff_ne]; omega
      simp -implicitDefEqProofs only [zA,Nat.reduceEqDiff,g1,w1,g2',w2]
      refine ⟨11 - (j + 1), by omega, j + 1, _, rfl, by omega, rfl, ?_⟩
      rcases hn with ⟨h1, h2⟩ | ⟨h1, i, h2, h3⟩
      · refine .inl ⟨h1, fun i hi => ?_⟩
        by_cases e : i = j
        · subst e; exact g2
        · exact h2 i (by omega)
      · exact .inr ⟨h1, i, by omega, h3⟩
  · have e : j = 11 := by omega
    subst e
    have g1 : ¬ ((64 * 2 ^ 11 : Nat) : Int) ≤ 65536 := by omega
    have hb : bktG C.1.length = decide (n ≠ 0) := by
      rcases hn with ⟨h1, h2⟩ | ⟨h1, i, h2, h3⟩
      · rw [decide_eq_false (by simpa using h1)]
        cases hb : bktG C.1.length with
        | false => rfl
        | true =>
          obtain ⟨i, hi, e⟩ := (j0c _).1 hb
          exact absurd e (h2 i hi)
      · rw [decide_eq_true h1]
        exact (j0c _).2 ⟨i, h2, h3⟩
    rw [hb] at eo
    simp -implicitDefEqProofs only [zA,Nat.reduceEqDiff,Nat.reduceSub,g1]
    unfold q8x
    simp -implicitDefEqProofs only [zA,Nat.reduceEqDiff]
    refine (qow E R5).mono ?_
    rintro r G6 ⟨rfl, rfl⟩
    have cn : q0x G6 ⟨b8, 1, none⟩ = some (.int .i64 N.1) := by rw [q0k q85 (by simp [dotC])]; rfl
    have c2 : q05 G6 ⟨b8, 0, none⟩ 2 = some (dotC D.1 N.1) := by rw [q0l q85 (by simp [dotC])]; rfl
    have stA : ∀ d n : Int, q0a G6 2 (.pointer (some ⟨b3, 0, none⟩)) (.agg (dotC d n).toArray) = some (G6.set b3 (.own 0 (dotC d n) 2)) := fun d n => q0f q35 (by omega) rfl rfl rfl (by omega)
    have ld : ∀ d n : Int, q05 (G6.set b3 (.own 0 (dotC d n) 2)) ⟨b3, 0, none⟩ 2 = some (dotC d n) := fun d n => z6x rfl
    have leF : ∀ X, H.le (G6.set b3 X) := fun X => Heap.q02 l5 hb3 _
    have stZ := stA 0 0
    have ldZ := ld 0 0
    have bad : okL ((A.1, D.1, N.1, C.1), C.2) = false → H.le (G6.set b3 (.own 0 (dotC 0 0) 2)) ∧ ∃ r', Value.tuple #[.int .i64 0, .agg (dotC 0 0).toArray, .slice none 0 0, .bool false] = .tuple #[.int .i64 V.1.1, .agg (dotC V.1.2.1 V.1.2.2.1).toArray, r', .bool V.2] ∧ OwB H (G6.set b3 (.own 0 (dotC 0 0) 2)) r' V.1.2.2.2 := by
      intro h
      rw [h] at ev
      subst ev
      exact ⟨leF _, _, rfl, Ow.nil _ _ _⟩
    cases e1 : endS C.2 with
    | false =>
      have hf : okL ((A.1, D.1, N.1, C.1), C.2) = false := by rw [eo, e1]; rfl
      simp -implicitDefEqProofs only [zA,Nat.reduceEqDiff,dz,stZ,ldZ]
      exact bad hf
    | true =>
      by_cases g2 : 1 ≤ N.1
      · have g2' : ¬ ((N.1 : Nat) : Int) < 1 := by omega
        by_cases g3 : n = 0
        · have hf : okL ((A.1, D.1, N.1, C.1), C.2) = false := by rw [eo, g3]; simp
          simp -implicitDefEqProofs only [zA,Nat.reduceEqDiff,Int.reduceBEq,cn,g2',g3,dz,stZ,ldZ]
          exact bad hf
        · have hf : okL ((A.1, D.1, N.1, C.1), C.2) = true := by rw [eo, e1]; simp [g2, g3]
          rw [hf] at ev
          simp only [if_true] at ev
          subst ev
          simp -implicitDefEqProofs only [zA,Nat.reduceEqDiff,cn,g2',g3]
          unfold q8w
          have stD := stA D.1 N.1
          have ldD := ld D.1 N.1
          have owF : OwB H (G6.set b3 (.own 0 (dotC D.1 N.1) 2)) (.slice rb C.1.length rc) C.1 := by
            rcases ow with s0 | ⟨b', o, c, sz, st, pre, rest, h1, h2, h3, h4, h5⟩
            · exact .inl s0
            · refine .inr ⟨b', o, c, sz, st, pre, rest, h1, h2, Heap.q08 l4 h3, ?_, h5⟩
              rw [Heap.q0d (by intro e; subst e; rw [q34] at h3; cases h3)]
              exact h4
          simp -implicitDefEqProofs only [zA,Nat.reduceEqDiff,c2,stD,ldD,implies_true,List.mem_cons,List.not_mem_nil,or_false]
          exact ⟨leF _, _, rfl, owF⟩
      · have g2' : ((N.1 : Nat) : Int) < 1 := by omega
        have hf : okL ((A.1, D.1, N.1, C.1), C.2) = false := by rw [eo]; simp [g2]
        simp -implicitDefEqProofs only [zA,Nat.reduceEqDiff,cn,g2',dz,stZ,ldZ]
        exact bad hf
theorem qx7 (E : EnvT tab) (h : Heap) {v : Value} (l : List UInt8) (hl : l.length ≤ 65536) (s : SlB h v l) : ACallN E.toEnv qim [v] h fun r h' => h.le h' ∧ qgc l r h' (.bool false) (.bool true) := by
  obtain ⟨base, c, rfl⟩ := Sl.shape s
  refine q0o q7s q3k rfl rfl (q03 ?_)
  unfold q3k
  have hc : l.length ≤ c := by
    rcases s with ⟨e, hn, _⟩ | ⟨a, c', e, hc, _⟩
    · omega
    · simp only [Value.slice.injEq] at e
      omega
  simp -implicitDefEqProofs only [zA,reduceCtorEq,Nat.reduceEqDiff]
  refine q0c (fun m t h' => h' = h ∧ t = tl [(0, .slice base l.length c), (4, .int .i64 m)] ∧ m ≤ l.length ∧ q95 l l.length = q95 l m) l.length ⟨rfl, rfl, Nat.le_refl _, rfl⟩ ?_
  rintro m t h' ⟨rfl, rfl, hm, he⟩
  rcases m with - | m
  · simp -implicitDefEqProofs only [zA,reduceCtorEq,Nat.reduceEqDiff,Int.reduceLT,Int.reduceBEq]
    refine ⟨Heap.q04 _, ?_⟩
    unfold qgc
    rw [qof he]
  obtain ⟨b, o, c', hv, _, hat⟩ := Sl.q7x s m (by omega)
  simp only [Value.slice.injEq] at hv
  obtain ⟨rfl, _, rfl⟩ := hv
  have hat := hat _ (Heap.q04 _)
  have e0 : ¬ ((m + 1 : Nat) : Int) = 0 := by omega
  have e1 : ((m + 1 : Nat) : Int) - 1 = m := by omega
  have e2 : (0 : Int) < ((m + 1 : Nat) : Int) := by omega
  have e3 : (0 : Int) ≤ m := by omega
  have e4 : (m : Int) < (l.length : Int) := by omega
  have hw : IntKind.i64.wrap (((m + 1 : Nat) : Int) - 1) = m := by rw [e1]; exact w64 (by omega) (by omega)
  have e5 : (l.take m).length ≤ 65535 := by rw [List.length_take]; omega
  have hif : (if c = 0 then some (⟨b, o, none⟩ : Addr) else some (Addr.add ⟨b, o, none⟩ 0)) = some ⟨b, o, none⟩ := by
    split
    · rfl
    · unfold Addr.add; simp
  by_cases hz : l[m] = 0
  · have hu : u8V l[m] = .int .u8 0 := by rw [hz]; rfl
    simp -implicitDefEqProofs only [zA,reduceCtorEq,Nat.reduceEqDiff,Int.reduceBEq,e2,hw,e3,e4,Int.toNat_natCast,hat,hu]
    refine ⟨m, by omega, rfl, by omega, ?_⟩
    rw [he, q95, if_pos (by rw [List.getElem?_eq_getElem (by omega), hz])]
  · have hz' : ¬ ((l[m].toNat : Nat) : Int) = 0 := fun e => hz (UInt8.toNat_inj.1 (by simpa using e))
    have hn : q95 l l.length = m + 1 := by
      rw [he, q95, if_neg]
      rw [List.getElem?_eq_getElem (by omega)]
      simp [hz]
    simp -implicitDefEqProofs only [zA,reduceCtorEq,Nat.reduceEqDiff,e0,e2,hw,e3,e4,Int.toNat_natCast,hat,u8V,hz',q5t e3 (show (m : Int) ≤ c by omega)]
    rw [hif, Nat.sub_zero]
    refine (qrw E _ (l.take m) e5 (Sl.preB s (by omega))).mono ?_
    rintro r h3 ⟨hle3, r', rfl, ow⟩
    have f1 := q7y ow.sl
    have f2 := q7y (Sl.le hle3 s)
    by_cases hp : padF (l.take m) = l
    · have f4 : (padF (l.take m) == l) = true := by simp [hp]
      simp -implicitDefEqProofs only [zA,reduceCtorEq,Nat.reduceEqDiff,Int.reduceBNe,f1,f2,strV,qel,f4,hw,q5t e3 (show (m : Int) ≤ c by omega)]
      refine ⟨hle3, ?_⟩
      unfold qgc
      rw [qqf hn hp]
      refine ⟨_, rfl, ?_⟩
      rw [hif]
      exact Sl.le hle3 (Sl.preB s (by omega))
    · have f4 : (padF (l.take m) == l) = false := by simp [hp]
      simp -implicitDefEqProofs only [zA,reduceCtorEq,Nat.reduceEqDiff,Int.reduceBNe,f1,f2,strV,qel,f4]
      refine ⟨hle3, ?_⟩
      unfold qgc
      rw [qog hn hp]
theorem qnn (E : EnvT tab) {H : Heap} {w : Nat} {L : RL} (R : WG H w L) (hL : ∀ x ∈ L, x.2.length = 32) (hn : L.length ≤ 1000) {v : Value} (l : List UInt8) (hl : l.length ≤ 100000) (s : SlB H v l) :
    ACallN E.toEnv qfd [.pointer (some ⟨w, 0, none⟩), v] H fun r H' => H.le H' ∧ r = .tuple #[.agg (edC (qcx L l).2).toArray, .int .i64 ((qcx L l).1 : Nat)] := by
  refine q0o q5c q2g rfl rfl (q03 ?_)
  unfold q2g
  have zl := q1a (e := ZE) rfl
  simp only [← qak]
  simp -implicitDefEqProofs only [zA,reduceCtorEq,Nat.reduceEqDiff,Nat.reduceAdd]
  intro b4 hb4
  rw [zl]
  try simp -implicitDefEqProofs only [zA,reduceIte,reduceCtorEq,Nat.reduceEqDiff,Nat.reduceAdd,Nat.reduceMul,Nat.reduceLT,Nat.reduceSub,Int.reduceLT,Int.reduceLE,Int.reduceEq,Int.reduceNe,Int.reduceSub,Int.reduceAdd,Int.reduceMul,Int.reduceBEq,Int.reduceBNe,Int.reduceGT,Int.reduceGE,Nat.reduceGT,Int.reduceToNat,Int.reduceNeg,Nat.reduceLeDiff,Nat.reduceBEq,Nat.reduceBneDiff]
  have le4 := Heap.q02 (Heap.q04 H) hb4 (.own 0 (edC ZE) 15)
  have q4 : (H.set b4 (.own 0 (edC ZE) 15)) b4 = some (.own 0 (edC ZE) 15) := Heap.q01 _ _ _
  generalize (H.set b4 (.own 0 (edC ZE) 15)) = H0 at le4 q4 ⊢
  intro b6 hb6
  have st6 : q0a (H0.set b6 (.own 0 (edC ZE) 15)) 15 (.pointer (some ⟨b6, 0, none⟩)) (.agg (edC ZE).toArray) = some (H0.set b6 (.own 0 (edC ZE) 15)) := z6z (by omega) zl (q7w _) zl (by omega)
  have le6 := Heap.q02 (Heap.q04 H0) hb6 (.own 0 (edC ZE) 15)
  have q6 : (H0.set b6 (.own 0 (edC ZE) 15)) b6 = some (.own 0 (edC ZE) 15) := Heap.q01 _ _ _
  simp -implicitDefEqProofs only [zA,reduceCtorEq,Nat.reduceEqDiff,st6]
  replace q4 := le6 _ _ q4
  generalize (H0.set b6 (.own 0 (edC ZE) 15)) = H1 at le6 q4 q6 ⊢
  replace le4 := Heap.q00 le4 le6
  have cz : ∀ G, H1.le G → q05 G ⟨b6, 0, none⟩ 15 = some (edC ZE) := fun G x => by rw [q0l (x _ _ q6) (by omega)]; simp [List.take_of_length_le, zl]
  unfold q6q
  simp -implicitDefEqProofs only [zA,reduceCtorEq,Nat.reduceEqDiff]
  refine (qkj E H1 l hl (s.le le4)).mono ?_
  rintro r H2 ⟨le2, r', rfl, ow2⟩
  have stA : ∀ (G : Heap) (e : Ed), H1.le G → e.seen.length = 8 → q0a G 15 (.pointer (some ⟨b4, 0, none⟩)) (.agg (edC e).toArray) = some (G.set b4 (.own 0 (edC e) 15)) := fun G e x h => q0f (x _ _ q4) (by omega) (q1a h) (q7w e) zl (by omega)
  have ld : ∀ (G : Heap) (e : Ed), e.seen.length = 8 → q05 (G.set b4 (.own 0 (edC e) 15)) ⟨b4, 0, none⟩ 15 = some (edC e) := fun G e h => z6x (by rw [q1a h])
  have leF : ∀ (G : Heap) X, H1.le G → H.le (G.set b4 X) := fun G X x => Heap.q02 (Heap.q00 le4 x) hb4 _
  have ev : (labL 7 l = none → qgj l = ((0, 0, 0, []), false)) ∧ ∀ x, labL 7 l = some x → qgj l = (x, true) := by
    unfold qgj
    constructor
    · intro h; rw [h]
    · intro x h; rw [h]
  obtain ⟨V, hV⟩ : ∃ V, V = qgj l := ⟨_, rfl⟩
  rw [← hV] at ow2 ⊢ ev
  simp -implicitDefEqProofs only [zA,reduceCtorEq,Nat.reduceEqDiff,Nat.reduceAdd]
  intro b7 hb7
  try simp -implicitDefEqProofs only [zA,reduceIte,reduceCtorEq,Nat.reduceEqDiff,Nat.reduceAdd,Nat.reduceMul,Nat.reduceLT,Nat.reduceSub,Int.reduceLT,Int.reduceLE,Int.reduceEq,Int.reduceNe,Int.reduceSub,Int.reduceAdd,Int.reduceMul,Int.reduceBEq,Int.reduceBNe,Int.reduceGT,Int.reduceGE,Nat.reduceGT,Int.reduceToNat,Int.reduceNeg,Nat.reduceLeDiff,Nat.reduceBEq,Nat.reduceBneDiff]
  have st7 : q0a (H2.set b7 (.own 0 [.int .i64 0, .int .i64 0] 2)) 2 (.pointer (some ⟨b7, 0, none⟩)) (.agg (dotC V.1.2.1 V.1.2.2.1).toArray) = some (H2.set b7 (.own 0 (dotC V.1.2.1 V.1.2.2.1) 2)) := z6z (by omega) rfl rfl rfl (by omega)
  have le7 := Heap.q02 (Heap.q04 H2) hb7 (.own 0 (dotC V.1.2.1 V.1.2.2.1) 2)
  have q7 : (H2.set b7 (.own 0 (dotC V.1.2.1 V.1.2.2.1) 2)) b7 = some (.own 0 (dotC V.1.2.1 V.1.2.2.1) 2) := Heap.q01 _ _ _
  simp -implicitDefEqProofs only [zA,reduceCtorEq,Nat.reduceEqDiff,st7]
  generalize (H2.set b7 (.own 0 (dotC V.1.2.1 V.1.2.2.1) 2)) = H3 at le7 q7 ⊢
  have le13 := Heap.q00 le2 le7
  unfold qcx
  cases hlab : labL 7 l with
  | none =>
    have := ev.1 hlab
    rw [this]
    have stZ := stA H3 ZE le13 rfl
    have ldZ := ld H3 ZE rfl
    have czZ := cz H3 le13
    simp -implicitDefEqProofs only [zA,reduceCtorEq,Nat.reduceEqDiff,czZ,stZ,ldZ]
    exact leF _ _ le13
  | some x =>
    obtain ⟨a, d, n, c⟩ := x
    have := ev.2 _ hlab
    rw [this] at q7 ow2 ⊢
    simp only at q7 ow2
    clear this ev st7
    obtain ⟨f1, f2, f3, f4, f5, f6⟩ := qr1 hlab
    have cd : ∀ G, H3.le G → q0x G ⟨b7, 0, none⟩ = some (.int .i64 d) := fun G x => by rw [q0k (x _ _ q7) (by simp [dotC])]; rfl
    have cn : ∀ G, H3.le G → q0x G ⟨b7, 1, none⟩ = some (.int .i64 n) := fun G x => by rw [q0k (x _ _ q7) (by simp [dotC])]; rfl
    have c2 : ∀ G, H3.le G → q05 G ⟨b7, 0, none⟩ 2 = some (dotC d n) := fun G x => by rw [q0l (x _ _ q7) (by simp [dotC])]; rfl
    simp -implicitDefEqProofs only [zA,reduceCtorEq,Nat.reduceEqDiff]
    refine (qsz E (R.le (Heap.q00 le4 le13)) hL hn a).mono ?_
    rintro r H4 ⟨le34, rfl⟩
    have wl : ((getK L a).getD (List.replicate 32 0)).length = 32 := by
      cases h : getK L a with
      | none => simp
      | some key =>
        obtain ⟨x, hx, -, rfl⟩ := qia h
        exact hL x hx
    have wk : ∀ key, getK L a = some key → (getK L a).getD (List.replicate 32 0) = key := fun key h => by rw [h]; rfl
    generalize (getK L a).getD (List.replicate 32 0) = W at wl wk
    simp -implicitDefEqProofs only [zA,reduceCtorEq,Nat.reduceEqDiff]
    intro b10 hb10
    try simp -implicitDefEqProofs only [zA,List.length_replicate]
    have st10 : q0a (H4.set b10 (.own 0 (List.replicate 32 (.int .u8 0)) 32)) 32 (.pointer (some ⟨b10, 0, none⟩)) (.agg (W.map u8V).toArray) = some (H4.set b10 (.own 0 (W.map u8V) 32)) := z6z (by omega) (by simp [wl]) (q1i _) (by simp) (by omega)
    have le10 := Heap.q02 (Heap.q04 H4) hb10 (.own 0 (W.map u8V) 32)
    have q10 : (H4.set b10 (.own 0 (W.map u8V) 32)) b10 = some (.own 0 (W.map u8V) 32) := Heap.q01 _ _ _
    simp -implicitDefEqProofs only [zA,reduceCtorEq,Nat.reduceEqDiff,st10]
    generalize (H4.set b10 (.own 0 (W.map u8V) 32)) = H5 at le10 q10 ⊢
    have le35 := Heap.q00 le34 le10
    have le15 := Heap.q00 le13 le35
    unfold q6p
    cases hk : getK L a with
    | none =>
      have stZ := stA H5 ZE le15 rfl
      have ldZ := ld H5 ZE rfl
      have czZ := cz H5 le15
      simp -implicitDefEqProofs only [zA,Nat.reduceEqDiff,Option.isSome,czZ,stZ,ldZ]
      exact leF _ _ le15
    | some key =>
      obtain rfl := wk key hk
      simp -implicitDefEqProofs only [zA,Nat.reduceEqDiff,Option.isSome,cd H5 le35,cn H5 le35]
      refine (qki E H5 d n (by omega) (by omega)).mono ?_
      rintro r H6 ⟨le6, rfl⟩
      have le36 := Heap.q00 le35 le6
      simp -implicitDefEqProofs only [zA,Nat.reduceEqDiff,c2 H5 le35,c2 H6 le36,implies_true,List.mem_cons,List.not_mem_nil,or_false,forall_eq]
      refine (qkh E H6 a d n (by omega) (by omega) (by omega)).mono ?_
      rintro r3 H7 ⟨le7', ow7⟩
      have le37 := Heap.q00 le36 le7'
      have cw : ∀ G, H5.le G → q05 G ⟨b10, 0, none⟩ 32 = some (W.map u8V) := fun G x => by
        rw [q0l (x _ _ q10) (by simp [wl])]; simp [List.take_of_length_le, wl]
      have ll := qo2 (a := a) (d := d) (n := n) (by omega) (by omega) (by omega)
      simp -implicitDefEqProofs only [zA,Nat.reduceEqDiff,Nat.reduceAdd,cw H5 (Heap.q04 _),cw H6 le6,cw H7 (Heap.q00 le6 le7'),implies_true,List.mem_cons,List.not_mem_nil,or_false,forall_eq,forall_eq_or_imp,and_self]
      refine (qun E H7 W (q4g d n) c (labW a d n) wl (qcr _ _) (by omega) (by omega) (ow2.sl.le (Heap.q00 le7 le37)) ow7.sl).mono ?_
      rintro r5 H8 ⟨le8, r5', rfl, ow8⟩
      have le18 := Heap.q00 le13 (Heap.q00 le37 le8)
      have ol := qt9 W (q4g d n) c (labW a d n)
      generalize qkk W (q4g d n) c (labW a d n) = O at ow8 ol ⊢
      obtain ⟨o1, o2⟩ := O
      simp only at ow8 ol ⊢
      by_cases ho : o1 = 0
      · subst ho
        rw [if_pos rfl]
        simp -implicitDefEqProofs only [zA,Nat.reduceEqDiff]
        unfold q2v
        simp -implicitDefEqProofs only [zA,Nat.reduceEqDiff,Int.reduceBNe]
        refine (qx7 E H8 o2 (by omega) ow8.sl).mono ?_
        rintro r H9 ⟨le9, hu⟩
        have le19 := Heap.q00 le18 le9
        unfold qgc at hu
        cases hx : qdd o2 with
        | none =>
          rw [hx] at hu
          subst hu
          have stZ := stA H9 ZE le19 rfl
          have ldZ := ld H9 ZE rfl
          have czZ := cz H9 le19
          simp -implicitDefEqProofs only [zA,Nat.reduceEqDiff,czZ,stZ,ldZ]
          exact leF _ _ le19
        | some x =>
          rw [hx] at hu
          simp only at hu
          obtain ⟨u', rfl, su⟩ := hu
          have xl := qqg hx
          simp -implicitDefEqProofs only [zA,Nat.reduceEqDiff]
          unfold q6o
          simp -implicitDefEqProofs only [zA,Nat.reduceEqDiff]
          refine (qov E H9 x (by omega) su).mono ?_
          rintro r H10 ⟨le10', rfl⟩
          have le110 := Heap.q00 le19 le10'
          have e8 : ((getE 7 x).getD ZE).seen.length = 8 := by
            cases h : getE 7 x with
            | none => rfl
            | some e => exact (qmn h).2
          have eE : ∀ e, getE 7 x = some e → (getE 7 x).getD ZE = e := fun e h => by rw [h]; rfl
          generalize (getE 7 x).getD ZE = e at e8 eE
          simp -implicitDefEqProofs only [zA,Nat.reduceEqDiff]
          intro b14 hb14
          try simp -implicitDefEqProofs only [zA,reduceIte,reduceCtorEq,Nat.reduceEqDiff,Nat.reduceAdd,Nat.reduceMul,Nat.reduceLT,Nat.reduceSub,Int.reduceLT,Int.reduceLE,Int.reduceEq,Int.reduceNe,Int.reduceSub,Int.reduceAdd,Int.reduceMul,Int.reduceBEq,Int.reduceBNe,Int.reduceGT,Int.reduceGE,Nat.reduceGT,Int.reduceToNat,Int.reduceNeg,Nat.reduceLeDiff,Nat.reduceBEq,Nat.reduceBneDiff]
          rw [← qak, zl]
          have st14 : q0a (H10.set b14 (.own 0 (edC ZE) 15)) 15 (.pointer (some ⟨b14, 0, none⟩)) (.agg (edC e).toArray) = some (H10.set b14 (.own 0 (edC e) 15)) := z6z (by omega) (q1a e8) (q7w e) zl (by omega)
          have le14 := Heap.q02 (Heap.q04 H10) hb14 (.own 0 (edC e) 15)
          have A : EdAt (H10.set b14 (.own 0 (edC e) 15)) b14 e := EdAt.of (Heap.q01 _ _ _) e8
          simp -implicitDefEqProofs only [zA,Nat.reduceEqDiff,st14]
          generalize (H10.set b14 (.own 0 (edC e) 15)) = H11 at le14 A ⊢
          have le111 := Heap.q00 le110 le14
          have le311 : H3.le H11 := Heap.q00 le37 (Heap.q00 le8 (Heap.q00 le9 (Heap.q00 le10' le14)))
          have stZ := stA H11 ZE le111 rfl
          have ldZ := ld H11 ZE rfl
          have czZ := cz H11 le111
          have stE := stA H11 e le111 e8
          have ldE := ld H11 e e8
          cases hg : getE 7 x with
          | none =>
            simp -implicitDefEqProofs only [zA,Nat.reduceEqDiff,Option.isSome,czZ,stZ,ldZ]
            exact leF _ _ le111
          | some e' =>
            obtain rfl := eE e' hg
            simp only
            have cE : q05 H11 ⟨b14, 0, none⟩ 2 = some (dotC e.dev e.n) := by
              rw [q0l A.own (by have := q1a e8; omega)]
              rfl
            have cD := c2 H11 le311
            have k1 := qu1 e.dev e.n
            have k2 := qu1 d n
            have k3 := j04 e.dev e.n d n
            by_cases hd : e.dev = d ∧ e.n = n
            · rw [decide_eq_true hd] at k3
              rw [if_pos hd]
              simp -implicitDefEqProofs only [zA,Nat.reduceEqDiff,Option.isSome,cE,cD,k1,k2,k3,A.all,stE,ldE]
              exact leF _ _ le111
            · rw [decide_eq_false hd] at k3
              rw [if_neg hd]
              simp -implicitDefEqProofs only [zA,Nat.reduceEqDiff,Option.isSome,cE,cD,k1,k2,k3,czZ,stZ,ldZ]
              exact leF _ _ le111
      · have ho' : ¬ ((o1 : Nat) : Int) = 0 := by omega
        rw [if_neg ho]
        have stZ := stA H8 ZE le18 rfl
        have ldZ := ld H8 ZE rfl
        have czZ := cz H8 le18
        unfold q2v
        simp -implicitDefEqProofs only [zA,Nat.reduceEqDiff,ho',czZ,stZ,ldZ]
        exact leF _ _ le18
theorem qxb (L : RL) (l : List UInt8) : (qcx L l).2.seen.length = 8 := by
  unfold qcx
  split
  · rfl
  · split
    · rfl
    · split
      · split
        · rfl
        · split
          · rfl
          · rename_i h
            split
            · exact (qmn h).2
            · rfl
      · rfl
theorem qx1 (l : List UInt8) : (strV l).cells = #[strV l] := rfl
theorem list8 {α : Type} {l : List α} (h : l.length = 8) : ∃ a0 a1 a2 a3 a4 a5 a6 a7, l = [a0, a1, a2, a3, a4, a5, a6, a7] := by
  match l, h with
  | [a0, a1, a2, a3, a4, a5, a6, a7], _ => exact ⟨a0, a1, a2, a3, a4, a5, a6, a7, rfl⟩
theorem qi2 (E : EnvT tab) (H : Heap) (e : Ed) (h8 : e.seen.length = 8) : ACallN E.toEnv qmf [.agg (edC e).toArray] H fun r H' => H.le H' ∧ r = .agg (edC e).toArray := by
  refine q0o qb2 q65 rfl rfl (q03 ?_)
  unfold q65
  have el := q1a h8
  have zl := q1a (e := ZE) rfl
  simp only [← qak]
  simp -implicitDefEqProofs only [zA,reduceCtorEq,Nat.reduceEqDiff]
  intro b1 hb1
  try simp -implicitDefEqProofs only [zA,reduceIte,reduceCtorEq,Nat.reduceEqDiff,Nat.reduceAdd,Nat.reduceMul,Nat.reduceLT,Nat.reduceSub,Int.reduceLT,Int.reduceLE,Int.reduceEq,Int.reduceNe,Int.reduceSub,Int.reduceAdd,Int.reduceMul,Int.reduceBEq,Int.reduceBNe,Int.reduceGT,Int.reduceGE,Nat.reduceGT,Int.reduceToNat,Int.reduceNeg,Nat.reduceLeDiff,Nat.reduceBEq,Nat.reduceBneDiff]
  rw [el]
  have le1 := Heap.q02 (Heap.q04 H) hb1 (.own 0 (edC e) 15)
  have A : EdAt (H.set b1 (.own 0 (edC e) 15)) b1 e := EdAt.of (Heap.q01 _ _ _) h8
  generalize (H.set b1 (.own 0 (edC e) 15)) = H1 at le1 A ⊢
  intro b2 hb2
  rw [zl]
  try simp -implicitDefEqProofs only [zA,reduceIte,reduceCtorEq,Nat.reduceEqDiff,Nat.reduceAdd,Nat.reduceMul,Nat.reduceLT,Nat.reduceSub,Int.reduceLT,Int.reduceLE,Int.reduceEq,Int.reduceNe,Int.reduceSub,Int.reduceAdd,Int.reduceMul,Int.reduceBEq,Int.reduceBNe,Int.reduceGT,Int.reduceGE,Nat.reduceGT,Int.reduceToNat,Int.reduceNeg,Nat.reduceLeDiff,Nat.reduceBEq,Nat.reduceBneDiff]
  have le2 := Heap.q02 (Heap.q04 H1) hb2 (.own 0 (edC ZE) 15)
  have q2 : (H1.set b2 (.own 0 (edC ZE) 15)) b2 = some (.own 0 (edC ZE) 15) := Heap.q01 _ _ _
  replace A := A.le h8 le2
  generalize (H1.set b2 (.own 0 (edC ZE) 15)) = H2 at le2 q2 A ⊢
  have dA : q05 H2 ⟨b1, 0, none⟩ 2 = some (dotC e.dev e.n) := by
    rw [q0l A.own (by omega)]; rfl
  have k2 := A.seen
  have k10 := A.kind
  have k11 := A.con
  have k12 := A.fld
  have k13 := A.val
  have k14 := A.time
  obtain ⟨a0, a1, a2, a3, a4, a5, a6, a7, hs⟩ := list8 h8
  rw [hs] at k2
  have d2 : dotC e.dev e.n = [.int .i64 e.dev, .int .i64 e.n] := rfl
  rw [d2] at dA
  have zx : edC ZE = [.int .i64 0, .int .i64 0, .int .i64 0, .int .i64 0, .int .i64 0, .int .i64 0, .int .i64 0, .int .i64 0, .int .i64 0, .int .i64 0, .int .i64 0, .string .empty, .string .empty, .string .empty, .int .i64 0] := rfl
  have ex : edC e = [.int .i64 e.dev, .int .i64 e.n, .int .i64 a0, .int .i64 a1, .int .i64 a2, .int .i64 a3, .int .i64 a4, .int .i64 a5, .int .i64 a6, .int .i64 a7, .int .i64 e.kind, strV e.con, strV e.fld, strV e.val, .int .i64 e.time] := by
    unfold edC; rw [hs]; rfl
  have st : q0a H2 15 (.pointer (some ⟨b2, 0, none⟩)) (.agg (edC e).toArray) = some (H2.set b2 (.own 0 (edC e) 15)) := q0f q2 (by omega) el (q7w _) zl (by omega)
  have ld : q05 (H2.set b2 (.own 0 (edC e) 15)) ⟨b2, 0, none⟩ 15 = some (edC e) := z6x (by omega)
  have leF : H.le (H2.set b2 (.own 0 (edC e) 15)) := Heap.q02 (Heap.q00 le1 le2) (Heap.q08 le1 hb2) _
  rw [ex] at st ld leF ⊢
  simp -implicitDefEqProofs only [zA,Nat.reduceEqDiff,Nat.reduceAdd,Nat.reduceLeDiff,dA,k2,k10,k11,k12,k13,k14,zx,qx1,st,ld,List.drop_nil,List.map_cons,List.map_nil]
  exact leF
theorem qsv (E : EnvT tab) (H : Heap) {v : Value} (l : List UInt8) (hl : l.length ≤ 100000) (s : SlB H v l) :
    ACallN E.toEnv qth [v] H fun r H' => H.le H' ∧ r = .tuple #[.int .i64 (qd8 l).1.1, .agg (dotC (qd8 l).1.2.1 (qd8 l).1.2.2.1).toArray, .int .i64 (qd8 l).2] := by
  refine q0o qhc qch rfl rfl (q03 ?_)
  unfold qch
  have dz : [Value.int .i64 0, Value.int .i64 0] = dotC 0 0 := rfl
  simp -implicitDefEqProofs only [zA,reduceCtorEq,Nat.reduceEqDiff,Nat.reduceAdd]
  intro b3 hb3
  try simp -implicitDefEqProofs only [zA,reduceIte,reduceCtorEq,Nat.reduceEqDiff,Nat.reduceAdd,Nat.reduceMul,Nat.reduceLT,Nat.reduceSub,Int.reduceLT,Int.reduceLE,Int.reduceEq,Int.reduceNe,Int.reduceSub,Int.reduceAdd,Int.reduceMul,Int.reduceBEq,Int.reduceBNe,Int.reduceGT,Int.reduceGE,Nat.reduceGT,Int.reduceToNat,Int.reduceNeg,Nat.reduceLeDiff,Nat.reduceBEq,Nat.reduceBneDiff]
  rw [dz]
  have le3 := Heap.q02 (Heap.q04 H) hb3 (.own 0 (dotC 0 0) 2)
  have q3 : (H.set b3 (.own 0 (dotC 0 0) 2)) b3 = some (.own 0 (dotC 0 0) 2) := Heap.q01 _ _ _
  generalize (H.set b3 (.own 0 (dotC 0 0) 2)) = H3 at le3 q3 ⊢
  refine (qol E H3 l hl (s.le le3)).mono ?_
  rintro r H4 ⟨le4, r', rfl, ow⟩
  generalize qd8 l = V
  have q4 := le4 _ _ q3
  have st : q0a H4 2 (.pointer (some ⟨b3, 0, none⟩)) (.agg (dotC V.1.2.1 V.1.2.2.1).toArray) = some (H4.set b3 (.own 0 (dotC V.1.2.1 V.1.2.2.1) 2)) := q0f q4 (by omega) rfl rfl rfl (by omega)
  have ld : q05 (H4.set b3 (.own 0 (dotC V.1.2.1 V.1.2.2.1) 2)) ⟨b3, 0, none⟩ 2 = some (dotC V.1.2.1 V.1.2.2.1) := z6x rfl
  have le5 : H.le (H4.set b3 (.own 0 (dotC V.1.2.1 V.1.2.2.1) 2)) := Heap.q02 (Heap.q00 le3 le4) hb3 _
  have q5 : (H4.set b3 (.own 0 (dotC V.1.2.1 V.1.2.2.1) 2)) b3 = some (.own 0 (dotC V.1.2.1 V.1.2.2.1) 2) := Heap.q01 _ _ _
  simp -implicitDefEqProofs only [zA,reduceCtorEq,Nat.reduceEqDiff,st]
  generalize (H4.set b3 (.own 0 (dotC V.1.2.1 V.1.2.2.1) 2)) = H5 at ld le5 q5 ⊢
  have st2 : q0a H5 2 (.pointer (some ⟨b3, 0, none⟩)) (.agg (dotC V.1.2.1 V.1.2.2.1).toArray) = some H5 := by
    have := q0f (h := H5) (b := b3) (vs := dotC V.1.2.1 V.1.2.2.1) (us := dotC V.1.2.1 V.1.2.2.1) (size := 2) (sz := 2) q5 (by omega) rfl rfl rfl (by omega)
    rwa [Heap.qad q5] at this
  simp -implicitDefEqProofs only [zA,Nat.reduceEqDiff,ld,st2,implies_true,List.mem_cons,List.not_mem_nil,or_false]
  exact le5
theorem qyz (l : List UInt8) : (qd8 l).1 = (qgj l).1 ∧ ((qgj l).2 = true ∧ (qd8 l).2 = 0 ∨ (qgj l).2 = false ∧ (qd8 l).2 = 3) := by
  unfold qd8 qgj
  rw [labL_8]
  cases labL 7 l with
  | none => exact ⟨rfl, .inr ⟨rfl, rfl⟩⟩
  | some x => exact ⟨rfl, .inl ⟨rfl, rfl⟩⟩
theorem j0d (l : List UInt8) : binV .eql (strV l) (strV l) = some (.bool true) := by
  unfold strV
  simp -implicitDefEqProofs only [zA,qel,beq_self_eq_true]
theorem qfy (E : EnvT tab) (W : World) {v0 v1 v2 v3 : Value} (s0 : Shp.ok W (.slice 1 (.int .u8)) v0) (s1 : Shp.ok W (.int .i64) v1) (s2 : Shp.ok W (.struct 15 (.fld 0 2 (.struct 2 (.fld 0 1 (.int .i64) (.fld 1 1 (.int .i64) .fend))) (.fld 2 8 (.array 8 1 (.int .i64)) (.fld 10 1 (.int .i64) (.fld 11 1 .str (.fld 12 1 .str (.fld 13 1 .str (.fld 14 1 (.int .i64) .fend)))))))) v2) (s3 : Shp.ok W (.slice 1 (.int .u8)) v3) :
    ACallN E.toEnv q9a [v0, v1, v2, v3] (qgg W) fun v _ => v = .bool true := by
  obtain ⟨K, sk, -⟩ := qwb s0
  obtain ⟨k, rfl, -⟩ := Shp.ok_int s1
  obtain ⟨a, rfl, a8, an1, an2, ad1, ad2, ac, af, av⟩ := ok_edC s2
  obtain ⟨C, sC, -⟩ := qwb s3
  obtain ⟨kb, kc, rfl⟩ := Sl.shape sk
  obtain ⟨cb, cc, rfl⟩ := Sl.shape sC
  generalize qgg W = H at sk sC
  change ACallN E.toEnv q9a [_, _, .agg (edC a).toArray, _] H _
  refine q0o q5e q2i rfl rfl (q03 ?_)
  unfold q2i
  have al := q1a a8
  have zl := q1a (e := ZE) rfl
  simp -implicitDefEqProofs only [zA,reduceCtorEq,Nat.reduceEqDiff,Nat.reduceAdd]
  intro b6 hb6
  try simp -implicitDefEqProofs only [zA,reduceIte,reduceCtorEq,Nat.reduceEqDiff,Nat.reduceAdd,Nat.reduceMul,Nat.reduceLT,Nat.reduceSub,Int.reduceLT,Int.reduceLE,Int.reduceEq,Int.reduceNe,Int.reduceSub,Int.reduceAdd,Int.reduceMul,Int.reduceBEq,Int.reduceBNe,Int.reduceGT,Int.reduceGE,Nat.reduceGT,Int.reduceToNat,Int.reduceNeg,Nat.reduceLeDiff,Nat.reduceBEq,Nat.reduceBneDiff]
  rw [al]
  have le6 := Heap.q02 (Heap.q04 H) hb6 (.own 0 (edC a) 15)
  have A : EdAt (H.set b6 (.own 0 (edC a) 15)) b6 a := EdAt.of (Heap.q01 _ _ _) a8
  generalize (H.set b6 (.own 0 (edC a) 15)) = H2 at le6 A ⊢
  replace sk := sk.le le6
  replace sC := sC.le le6
  clear le6 hb6
  refine (qs8 E H2).mono ?_
  rintro r H3 ⟨le3, rfl⟩
  replace A := A.le a8 le3
  replace sk := sk.le le3
  replace sC := sC.le le3
  clear le3
  by_cases g1 : 6 < (K.length : Int)
  · simp -implicitDefEqProofs only [zA,reduceCtorEq,Nat.reduceEqDiff,g1]
  simp -implicitDefEqProofs only [zA,reduceCtorEq,Nat.reduceEqDiff,g1,A.all]
  refine (qtp E H3 a a8).mono ?_
  rintro r H7 ⟨le4, rfl⟩
  replace A := A.le a8 le4
  replace sk := sk.le le4
  replace sC := sC.le le4
  clear le4
  by_cases g4 : 60 < a.con.length ∨ 60 < a.fld.length ∨ 250 < a.val.length
  · simp -implicitDefEqProofs only [zA,reduceCtorEq,Nat.reduceEqDiff,g4]
  have oa : EdOk a := ⟨a8, by omega, by omega, an1, an2⟩
  by_cases g5 : 800 < (C.length : Int)
  · simp -implicitDefEqProofs only [zA,reduceCtorEq,Nat.reduceEqDiff,g4,g5]
  simp -implicitDefEqProofs only [zA,reduceCtorEq,Nat.reduceEqDiff,g4,g5]
  unfold q6v
  simp -implicitDefEqProofs only [zA,reduceCtorEq,Nat.reduceEqDiff]
  refine (ql6 E H7 K (by omega) sk).mono ?_
  rintro r H8 ⟨le8, p, w, rfl, P⟩
  have I := qrv K (by omega)
  obtain ⟨h0, leR, R, le70⟩ := P.ring
  replace A := A.le a8 le8
  replace sC := sC.le le8
  simp -implicitDefEqProofs only [zA,reduceCtorEq,Nat.reduceEqDiff,A.all]
  refine (qom E leR R I.l32 I.rng k a oa).mono ?_
  rintro r H9 ⟨le9, r', rfl, ow9⟩
  replace A := A.le a8 le9
  replace sC := sC.le le9
  simp -implicitDefEqProofs only [zA,Nat.reduceEqDiff,A.all]
  refine (qi2 E H9 a a8).mono ?_
  rintro r H10 ⟨le10, rfl⟩
  have P10 := P.le (Heap.q00 le9 le10)
  simp -implicitDefEqProofs only [zA,Nat.reduceEqDiff]
  obtain ⟨hw0, aw0, cw0, dw0, Rw0, Gw0⟩ := P10
  refine (qnm E (Gw0.le dw0) I.l32 (by have := I.len; omega) I.rng k a oa).mono ?_
  rintro r H11 ⟨le11, r2', rfl, ow11⟩
  have le911 := Heap.q00 le10 le11
  generalize qrn (q6d K) k a = S at *
  obtain ⟨xb, xc, rfl⟩ := Sl.shape ow9.sl
  obtain ⟨yb, yc, rfl⟩ := Sl.shape ow11.sl
  have sx := Sl.le le911 ow9.sl
  have sy := ow11.sl
  replace A := A.le a8 le911
  replace sC := Sl.le le911 sC
  have le11 := Heap.q00 le9 le911
  have P11 := P.le le11
  have sn := qxb (q6d K) C
  simp -implicitDefEqProofs only [zA,Nat.reduceEqDiff]
  unfold q6u
  simp -implicitDefEqProofs only [zA,Nat.reduceEqDiff]
  refine (qon E (Heap.q00 leR le11) (R.le le11) I.l32 C (by omega) sC).mono ?_
  rintro r H12 ⟨le12, rfl⟩
  have P12 := P11.le le12
  replace A := A.le a8 le12
  replace sC := Sl.le le12 sC
  simp -implicitDefEqProofs only [zA,Nat.reduceEqDiff]
  intro b14 hb14
  rw [← qak, zl]
  try simp -implicitDefEqProofs only [zA,reduceIte,reduceCtorEq,Nat.reduceEqDiff,Nat.reduceAdd,Nat.reduceMul,Nat.reduceLT,Nat.reduceSub,Int.reduceLT,Int.reduceLE,Int.reduceEq,Int.reduceNe,Int.reduceSub,Int.reduceAdd,Int.reduceMul,Int.reduceBEq,Int.reduceBNe,Int.reduceGT,Int.reduceGE,Nat.reduceGT,Int.reduceToNat,Int.reduceNeg,Nat.reduceLeDiff,Nat.reduceBEq,Nat.reduceBneDiff]
  have st14 : q0a (H12.set b14 (.own 0 (edC ZE) 15)) 15 (.pointer (some ⟨b14, 0, none⟩)) (.agg (edC (qcx (q6d K) C).2).toArray) = some (H12.set b14 (.own 0 (edC (qcx (q6d K) C).2) 15)) := z6z (by omega) (q1a sn) (q7w _) zl (by omega)
  have U : EdAt (H12.set b14 (.own 0 (edC (qcx (q6d K) C).2) 15)) b14 (qcx (q6d K) C).2 := EdAt.of (Heap.q01 _ _ _) sn
  have le14 := Heap.q02 (Heap.q04 H12) hb14 (.own 0 (edC (qcx (q6d K) C).2) 15)
  simp -implicitDefEqProofs only [zA,Nat.reduceEqDiff,st14]
  generalize (H12.set b14 (.own 0 (edC (qcx (q6d K) C).2) 15)) = H13 at U le14 ⊢
  have P13 := P12.le le14
  replace A := A.le a8 le14
  replace sC := Sl.le le14 sC
  obtain ⟨hw, aw, cw, dw, Rw, Gw⟩ := P13
  refine (qnn E (Gw.le dw) I.l32 (by have := I.len; omega) C (by omega) sC).mono ?_
  rintro r H14 ⟨le15, rfl⟩
  replace U := U.le sn le15
  replace A := A.le a8 le15
  replace sC := Sl.le le15 sC
  simp -implicitDefEqProofs only [zA,Nat.reduceEqDiff]
  intro b16 hb16
  rw [zl]
  have st16 : q0a (H14.set b16 (.own 0 (edC ZE) 15)) 15 (.pointer (some ⟨b16, 0, none⟩)) (.agg (edC (qcx (q6d K) C).2).toArray) = some (H14.set b16 (.own 0 (edC (qcx (q6d K) C).2) 15)) := z6z (by omega) (q1a sn) (q7w _) zl (by omega)
  have V : EdAt (H14.set b16 (.own 0 (edC (qcx (q6d K) C).2) 15)) b16 (qcx (q6d K) C).2 := EdAt.of (Heap.q01 _ _ _) sn
  have le16 := Heap.q02 (Heap.q04 H14) hb16 (.own 0 (edC (qcx (q6d K) C).2) 15)
  simp -implicitDefEqProofs only [zA,Nat.reduceEqDiff,st16]
  generalize (H14.set b16 (.own 0 (edC (qcx (q6d K) C).2) 15)) = H15 at V le16 ⊢
  replace U := U.le sn le16
  replace A := A.le a8 le16
  replace sC := Sl.le le16 sC
  generalize qcx (q6d K) C = O at *
  have k1 := ed_ok O.2 sn
  have k2 := ed_eq O.2
  unfold q6t
  have leZ := Heap.q00 le12 (Heap.q00 le14 (Heap.q00 le15 le16))
  replace sx := Sl.le leZ sx
  replace sy := Sl.le leZ sy
  simp -implicitDefEqProofs only [zA,Nat.reduceEqDiff]
  refine (qsv E H15 C (by omega) sC).mono ?_
  rintro r H16 ⟨le17, rfl⟩
  have rs := qyz C
  generalize qd8 C = Vp at rs
  replace sC := Sl.le le17 sC
  simp -implicitDefEqProofs only [zA,Nat.reduceEqDiff,Nat.reduceAdd]
  intro b20 hb20
  try simp -implicitDefEqProofs only [zA,reduceIte,reduceCtorEq,Nat.reduceEqDiff,Nat.reduceAdd,Nat.reduceMul,Nat.reduceLT,Nat.reduceSub,Int.reduceLT,Int.reduceLE,Int.reduceEq,Int.reduceNe,Int.reduceSub,Int.reduceAdd,Int.reduceMul,Int.reduceBEq,Int.reduceBNe,Int.reduceGT,Int.reduceGE,Nat.reduceGT,Int.reduceToNat,Int.reduceNeg,Nat.reduceLeDiff,Nat.reduceBEq,Nat.reduceBneDiff]
  have st20 : q0a (H16.set b20 (.own 0 [.int .i64 0, .int .i64 0] 2)) 2 (.pointer (some ⟨b20, 0, none⟩)) (.agg (dotC Vp.1.2.1 Vp.1.2.2.1).toArray) = some (H16.set b20 (.own 0 (dotC Vp.1.2.1 Vp.1.2.2.1) 2)) := z6z (by omega) rfl rfl rfl (by omega)
  have le20 := Heap.q02 (Heap.q04 H16) hb20 (.own 0 (dotC Vp.1.2.1 Vp.1.2.2.1) 2)
  have q20 : (H16.set b20 (.own 0 (dotC Vp.1.2.1 Vp.1.2.2.1) 2)) b20 = some (.own 0 (dotC Vp.1.2.1 Vp.1.2.2.1) 2) := Heap.q01 _ _ _
  simp -implicitDefEqProofs only [zA,Nat.reduceEqDiff,st20]
  generalize (H16.set b20 (.own 0 (dotC Vp.1.2.1 Vp.1.2.2.1) 2)) = H17 at le20 q20 ⊢
  replace sC := Sl.le le20 sC
  refine (qkj E H17 C (by omega) sC).mono ?_
  rintro r H18 ⟨le18, r4', rfl, ow18⟩
  generalize qgj C = Vw at rs ow18
  obtain ⟨V1, V2⟩ := Vp
  obtain ⟨W1, W2⟩ := Vw
  obtain ⟨rs1, rs2⟩ := rs
  simp only at rs1 rs2 ow18
  subst rs1
  obtain ⟨wb, wc, rfl⟩ := Sl.shape ow18.sl
  simp -implicitDefEqProofs only [zA,Nat.reduceEqDiff,Nat.reduceAdd]
  intro b23 hb23
  try simp -implicitDefEqProofs only [zA,reduceIte,reduceCtorEq,Nat.reduceEqDiff,Nat.reduceAdd,Nat.reduceMul,Nat.reduceLT,Nat.reduceSub,Int.reduceLT,Int.reduceLE,Int.reduceEq,Int.reduceNe,Int.reduceSub,Int.reduceAdd,Int.reduceMul,Int.reduceBEq,Int.reduceBNe,Int.reduceGT,Int.reduceGE,Nat.reduceGT,Int.reduceToNat,Int.reduceNeg,Nat.reduceLeDiff,Nat.reduceBEq,Nat.reduceBneDiff]
  have st23 : q0a (H18.set b23 (.own 0 [.int .i64 0, .int .i64 0] 2)) 2 (.pointer (some ⟨b23, 0, none⟩)) (.agg (dotC V1.2.1 V1.2.2.1).toArray) = some (H18.set b23 (.own 0 (dotC V1.2.1 V1.2.2.1) 2)) := z6z (by omega) rfl rfl rfl (by omega)
  have le23 := Heap.q02 (Heap.q04 H18) hb23 (.own 0 (dotC V1.2.1 V1.2.2.1) 2)
  have q23 : (H18.set b23 (.own 0 (dotC V1.2.1 V1.2.2.1) 2)) b23 = some (.own 0 (dotC V1.2.1 V1.2.2.1) 2) := Heap.q01 _ _ _
  simp -implicitDefEqProofs only [zA,Nat.reduceEqDiff,st23]
  replace q20 := le23 _ _ (le18 _ _ q20)
  generalize (H18.set b23 (.own 0 (dotC V1.2.1 V1.2.2.1) 2)) = H19 at le23 q20 q23 ⊢
  have leY := Heap.q00 le17 (Heap.q00 le20 (Heap.q00 le18 le23))
  replace sx := Sl.le leY sx
  replace sy := Sl.le leY sy
  replace A := A.le a8 leY
  replace U := U.le sn leY
  replace V := V.le sn leY
  have f1 := q7y sx
  have f2 := q7y sy
  have bs := j0d S.2
  have k1 := ed_ok O.2 sn
  have k2 := ed_eq O.2
  have d1 := qu1 V1.2.1 V1.2.2.1
  have d2 : q0s (dotC V1.2.1 V1.2.2.1) (dotC V1.2.1 V1.2.2.1) = true := by rw [j04]; simp
  unfold q6s
  simp -implicitDefEqProofs only [zA,Nat.reduceEqDiff,f1,f2,bs,U.all,beq_self_eq_true]
  refine (qi2 E H19 O.2 sn).mono ?_
  rintro r H20 ⟨le24, rfl⟩
  have V20 := V.le sn le24
  have A20 := A.le a8 le24
  have e20 : ∀ G, H19.le G → q05 G ⟨b20, 0, none⟩ 2 = some (dotC V1.2.1 V1.2.2.1) := fun G x => by rw [q0l (x _ _ q20) (by simp [dotC])]; rfl
  have e23 : ∀ G, H19.le G → q05 G ⟨b23, 0, none⟩ 2 = some (dotC V1.2.1 V1.2.2.1) := fun G x => by rw [q0l (x _ _ q23) (by simp [dotC])]; rfl
  have e20a := e20 H19 (Heap.q04 _)
  have e23a := e23 H19 (Heap.q04 _)
  have e20b := e20 H20 le24
  have e23b := e23 H20 le24
  rcases rs2 with ⟨rfl, rfl⟩ | ⟨rfl, rfl⟩
  · simp -implicitDefEqProofs only [zA,Nat.reduceEqDiff,V.all,V20.all,k1,k2,d1,d2,e20b,e23b,A20.all,beq_self_eq_true,List.mem_cons,List.not_mem_nil,or_false,forall_eq]
    refine (qj6 E H20 a oa).mono ?_
    rintro r H21 ⟨le25, rfl⟩
    have A21 := A20.le a8 le25
    simp -implicitDefEqProofs only [zA,Nat.reduceEqDiff,A20.all,A21.all,List.mem_cons,List.not_mem_nil,or_false,forall_eq]
    refine (qi2 E H21 a a8).mono ?_
    rintro r H22 ⟨le26, rfl⟩
    simp -implicitDefEqProofs only [zA,Nat.reduceEqDiff]
    refine (qn3 E H22 a oa).mono ?_
    rintro r H23 ⟨le27, rfl⟩
    simp -implicitDefEqProofs only [zA,Nat.reduceEqDiff,beq_self_eq_true]
  · simp -implicitDefEqProofs only [zA,Nat.reduceEqDiff,Int.reduceBEq,V.all,V20.all,k1,k2,d1,d2,e20b,e23b,A20.all,beq_self_eq_true,List.mem_cons,List.not_mem_nil,or_false,forall_eq]
    refine (qj6 E H20 a oa).mono ?_
    rintro r H21 ⟨le25, rfl⟩
    have A21 := A20.le a8 le25
    simp -implicitDefEqProofs only [zA,Nat.reduceEqDiff,A20.all,A21.all,List.mem_cons,List.not_mem_nil,or_false,forall_eq]
    refine (qi2 E H21 a a8).mono ?_
    rintro r H22 ⟨le26, rfl⟩
    simp -implicitDefEqProofs only [zA,Nat.reduceEqDiff]
    refine (qn3 E H22 a oa).mono ?_
    rintro r H23 ⟨le27, rfl⟩
    simp -implicitDefEqProofs only [zA,Nat.reduceEqDiff,beq_self_eq_true]
end Go.Bb
