/- My contracts: BbCop BbCref4g BbCaead0 BbCaead1 BbCaead2 BbCsea1 BbCwir2 BbCop2 BbCsea2 BbCaead3 BbCsea3 BbUed BbLsea0 BbLsea1 BbCrw0 BbCrw1 BbCrw2 BbCrw3. -/
import Derived.Test.YtkgegppgaeadiaaGreatDoorBbM2
import Derived.Test.YtkgegppgaeadiaaGreatDoorBbG3
import Derived.Test.YtkgegppgaeadiaaGreatDoorBbM1
namespace Go.Bb
set_option linter.unusedSimpArgs false
set_option linter.unusedVariables false
set_option maxHeartbeats 2000000
set_option maxRecDepth 20000
def edC (e : Ed) : List Value := .int .i64 e.dev :: .int .i64 e.n :: (e.seen.map (.int .i64) ++ [.int .i64 e.kind, strV e.con, strV e.fld, strV e.val, .int .i64 e.time])
theorem q1a {e : Ed} (h8 : e.seen.length = 8) : (edC e).length = 15 := by simp [edC, h8]
theorem q7w (e : Ed) : (edC e).all one = true := by
  have : (e.seen.map (Value.int .i64)).all one = true := by simp [one]
  simp only [edC, List.all_cons, List.all_append, this]
  rfl
structure EdAt (G : Heap) (b : Nat) (e : Ed) : Prop where
  own : G b = some (.own 0 (edC e) 15)
  dev : q0x G ⟨b, 0, none⟩ = some (.int .i64 e.dev)
  n : q0x G ⟨b, 1, none⟩ = some (.int .i64 e.n)
  seen : q05 G ⟨b, 2, none⟩ 8 = some (e.seen.map (.int .i64))
  at' : ∀ i (h : i < e.seen.length), q0x G ⟨b, 2 + i, none⟩ = some (.int .i64 e.seen[i])
  kind : q0x G ⟨b, 10, none⟩ = some (.int .i64 e.kind)
  con : q0x G ⟨b, 11, none⟩ = some (strV e.con)
  fld : q0x G ⟨b, 12, none⟩ = some (strV e.fld)
  val : q0x G ⟨b, 13, none⟩ = some (strV e.val)
  time : q0x G ⟨b, 14, none⟩ = some (.int .i64 e.time)
  all : q05 G ⟨b, 0, none⟩ 15 = some (edC e)
theorem EdAt.of {G : Heap} {b : Nat} {e : Ed} (q : G b = some (.own 0 (edC e) 15)) (h8 : e.seen.length = 8) : EdAt G b e := by
  have hl := q1a h8
  have key : ∀ i x, (edC e)[i]? = some x → q0x G ⟨b, i, none⟩ = some x := fun i x hx => by
    have hi : i < (edC e).length := (List.getElem?_eq_some_iff.1 hx).1
    rw [List.getElem?_eq_getElem hi] at hx
    rw [q0k q hi, hx]
  obtain ⟨dev, n, seen, kind, con, fld, val, time⟩ := e
  simp only at h8
  have h8' : (seen.map (Value.int .i64)).length = 8 := by simpa using h8
  have far : ∀ i x, [Value.int .i64 kind, strV con, strV fld, strV val, Value.int .i64 time][i]? = some x → (edC ⟨dev, n, seen, kind, con, fld, val, time⟩)[i + 10]? = some x := fun i x hx => by
    simp only [edC]
    rw [List.getElem?_cons_succ, List.getElem?_cons_succ, List.getElem?_append_right (by omega), h8', Nat.add_sub_cancel]
    exact hx
  refine ⟨q, key 0 _ rfl, key 1 _ rfl, ?_, ?_, key 10 _ (far 0 _ rfl), key 11 _ (far 1 _ rfl), key 12 _ (far 2 _ rfl), key 13 _ (far 3 _ rfl), key 14 _ (far 4 _ rfl), ?_⟩
  · rw [q0l q (by omega)]
    simp only [edC, List.drop_succ_cons, List.drop_zero]
    rw [List.take_left' h8']
  · intro i hi
    simp only at hi
    refine key _ _ ?_
    simp only [edC]
    rw [Nat.add_comm 2 i, List.getElem?_cons_succ, List.getElem?_cons_succ, List.getElem?_append_left (by omega), List.getElem?_map, List.getElem?_eq_getElem hi]
    rfl
  · rw [q0l q (by omega), List.drop_zero, List.take_of_length_le (by omega)]
theorem EdAt.le {G G' : Heap} {b : Nat} {e : Ed} (x : EdAt G b e) (h8 : e.seen.length = 8) (le : G.le G') : EdAt G' b e := EdAt.of (le _ _ x.own) h8
theorem qo5 (l : List UInt8) : binV .eql (strV l) (.string .empty) = some (.bool (decide (l = []))) := by
  unfold strV
  simp -implicitDefEqProofs only [zA,qel]
  have e : ByteArray.empty.toList = [] := Go.ByteArray.toList_mk []
  rw [e]
  cases l <;> rfl
theorem qkl (E : EnvT tab) (H : Heap) (e : Ed) (h8 : e.seen.length = 8) (hc : e.con.length ≤ 9000000000000000000) (hf : e.fld.length ≤ 9000000000000000000) (hn : -9223372036854775808 ≤ e.n) (hn2 : e.n ≤ 9223372036854775807) :
    ACallN E.toEnv qzi [.agg (edC e).toArray] H fun r H' => H.le H' ∧ r = .bool (q28 e) := by
  refine q0o qpd qi8 rfl rfl (q03 ?_)
  unfold qi8
  have el := q1a h8
  simp -implicitDefEqProofs only [zA,reduceCtorEq,Nat.reduceEqDiff]
  intro b hb
  try simp -implicitDefEqProofs only [zA,reduceIte,reduceCtorEq,Nat.reduceEqDiff,Nat.reduceAdd,Nat.reduceMul,Nat.reduceLT,Nat.reduceSub,Int.reduceLT,Int.reduceLE,Int.reduceEq,Int.reduceNe,Int.reduceSub,Int.reduceAdd,Int.reduceMul,Int.reduceBEq,Int.reduceBNe,Int.reduceGT,Int.reduceGE,Nat.reduceGT,Int.reduceToNat,Int.reduceNeg,Nat.reduceLeDiff,Nat.reduceBEq,Nat.reduceBneDiff]
  rw [el]
  have le1 := Heap.q02 (Heap.q04 H) hb (.own 0 (edC e) 15)
  have A : EdAt (H.set b (.own 0 (edC e) 15)) b e := EdAt.of (Heap.q01 _ _ _) h8
  generalize (H.set b (.own 0 (edC e) 15)) = H1 at le1 A
  unfold qna
  simp -implicitDefEqProofs only [zA,Nat.reduceEqDiff,A.dev]
  refine (qso E H1 e.dev).mono ?_
  rintro r H2 ⟨rfl, rfl⟩
  by_cases c1 : 0 ≤ e.dev ∧ e.dev < 8
  · by_cases c2 : e.n < 1
    · have hf : q28 e = false := by (have : ¬ (1 ≤ e.n) := by omega); (simp [q28, this])
      rw [hf]
      simp -implicitDefEqProofs only [zA,Nat.reduceEqDiff,c1,A.n,c2]
      exact le1
    have w1 : IntKind.i64.wrap (e.n - 1) = e.n - 1 := q0w (by omega) (by omega)
    by_cases c3 : 1099511627776 < e.n
    · have hf : q28 e = false := by (have : ¬ (e.n ≤ 1099511627776) := by omega); (simp [q28, this])
      rw [hf]
      simp -implicitDefEqProofs only [zA,Nat.reduceEqDiff,c1,A.n,c2,c3]
      exact le1
    simp -implicitDefEqProofs only [zA,Nat.reduceEqDiff,c1,A.n,c2,c3,A.seen]
    refine (qwy E H2 e.seen h8).mono ?_
    rintro r H3 ⟨le3, rfl⟩
    have A3 := A.le h8 le3
    have hD : e.dev.toNat < e.seen.length := by omega
    have xD := A3.at' e.dev.toNat hD
    have q1 : (0 : Int) ≤ e.dev := c1.1
    have q2 : e.dev < 8 := c1.2
    by_cases c4 : vecG e.seen = true
    · by_cases c5 : e.seen[e.dev.toNat] = e.n - 1
      · simp -implicitDefEqProofs only [zA,Nat.reduceEqDiff,c4,A3.dev,A3.n,xD,q1,q2,w1,c5,bne_self_eq_false]
        have hn1 : 1 ≤ e.n := by omega
        have hn3 : e.n ≤ 1099511627776 := by omega
        have e5 : e.seen[e.dev.toNat]? = some (e.n - 1) := by rw [List.getElem?_eq_getElem hD, c5]
        have e0 : q28 e = (decide (0 ≤ e.time ∧ e.time ≤ 1099511627776) && qkp e.con && (decide (e.kind = 1) && (qkp e.fld && decide (e.val.length ≤ 200)) || decide (e.kind = 2) && (decide (e.fld = []) && decide (e.val = [])))) := by
          simp [q28, q1, q2, hn1, hn3, c4, e5]
        have leH := Heap.q00 le1 le3
        rw [e0]
        clear e0 e5 c5 c4 xD hD A
        unfold qlc
        by_cases d1 : e.time < 0
        · have d1' : ¬ 0 ≤ e.time := by omega
          simp -implicitDefEqProofs only [zA,Nat.reduceEqDiff,A3.time,d1,d1',false_and,Bool.false_and]
          exact leH
        by_cases d2 : 1099511627776 < e.time
        · have d1' : ¬ (0 ≤ e.time ∧ e.time ≤ 1099511627776) := by omega
          simp -implicitDefEqProofs only [zA,Nat.reduceEqDiff,A3.time,d1,d2,d1',Bool.false_and]
          exact leH
        have d1' : 0 ≤ e.time ∧ e.time ≤ 1099511627776 := by omega
        simp -implicitDefEqProofs only [zA,Nat.reduceEqDiff,A3.time,d1,d2,A3.con]
        refine (qta E H3 e.con hc).mono ?_
        rintro r H4 ⟨rfl, rfl⟩
        cases d3 : qkp e.con with
        | false =>
          simp -implicitDefEqProofs only [zA,Nat.reduceEqDiff,d1',Bool.false_and]
          exact leH
        | true =>
          simp -implicitDefEqProofs only [zA,Nat.reduceEqDiff,d1',A3.kind]
          unfold qn9
          by_cases d4 : e.kind = 1
          · have d4' : ¬ e.kind = 2 := by omega
            simp -implicitDefEqProofs only [zA,Nat.reduceEqDiff,Int.reduceEq,Int.reduceBEq,d4,A3.fld]
            refine (qta E _ e.fld hf).mono ?_
            rintro r H5 ⟨rfl, rfl⟩
            have ev := qcu e.val
            cases d5 : qkp e.fld with
            | false =>
              simp -implicitDefEqProofs only [zA,Nat.reduceEqDiff,Bool.false_and]
              exact ⟨leH, rfl⟩
            | true =>
              have vv : strV e.val = .string ⟨e.val.toArray⟩ := rfl
              simp -implicitDefEqProofs only [zA,Nat.reduceEqDiff,A3.val,Bool.false_and,vv,ev]
              refine ⟨leH, ?_⟩
              rw [Bool.or_false]
              congr 1
              by_cases g : e.val.length ≤ 200
              · rw [decide_eq_true g, decide_eq_true (by omega)]
              · rw [decide_eq_false g, decide_eq_false (by omega)]
          · by_cases d5 : e.kind = 2
            · have b1 := qo5 e.fld
              have b2 := qo5 e.val
              generalize decide (e.fld = []) = p1 at b1 ⊢
              generalize decide (e.val = []) = p2 at b2 ⊢
              cases p1 with
              | true =>
                simp -implicitDefEqProofs only [zA,Nat.reduceEqDiff,Int.reduceEq,Int.reduceBEq,d5,A3.fld,A3.val,b1,b2,Bool.false_and]
                exact ⟨leH, rfl⟩
              | false =>
                simp -implicitDefEqProofs only [zA,Nat.reduceEqDiff,Int.reduceEq,Int.reduceBEq,d5,A3.fld,b1,Bool.false_and]
                exact ⟨leH, rfl⟩
            · simp -implicitDefEqProofs only [zA,Nat.reduceEqDiff,d4,d5,Bool.false_and,Bool.or_false]
              exact leH
      · have c5' : (e.seen[e.dev.toNat] != e.n - 1) = true := by simpa using c5
        have hf : q28 e = false := by
          have : ¬ e.seen[e.dev.toNat]? = some (e.n - 1) := by rw [List.getElem?_eq_getElem hD]; simpa using c5
          simp [q28, this]
        rw [hf]
        simp -implicitDefEqProofs only [zA,Nat.reduceEqDiff,c4,A3.dev,A3.n,xD,q1,q2,w1,c5']
        exact Heap.q00 le1 le3
    · have c4' : vecG e.seen = false := by simpa using c4
      have hf : q28 e = false := by simp [q28, c4']
      rw [hf]
      simp -implicitDefEqProofs only [zA,Nat.reduceEqDiff,c4']
      exact Heap.q00 le1 le3
  · have hf : q28 e = false := by simp only [q28, c1, decide_false, Bool.false_and]
    rw [hf]
    simp -implicitDefEqProofs only [zA,Nat.reduceEqDiff,c1]
    exact le1
def putG (e : Ed) : List UInt8 := if q28 e = true then putE e else []
theorem qwa (E : EnvT tab) (H : Heap) (e : Ed) (h8 : e.seen.length = 8) (hc : e.con.length ≤ 9000000000000000000) (hf : e.fld.length ≤ 9000000000000000000) (hn : -9223372036854775808 ≤ e.n) (hn2 : e.n ≤ 9223372036854775807) :
    ACallN E.toEnv n_op_Put [.agg (edC e).toArray] H fun r H' => H.le H' ∧ OwB H H' r (putG e) := by
  refine q0o qsb qlb rfl rfl (q03 ?_)
  unfold qlb
  have el := q1a h8
  simp -implicitDefEqProofs only [zA,reduceCtorEq,Nat.reduceEqDiff]
  intro b hb
  try simp -implicitDefEqProofs only [zA,reduceIte,reduceCtorEq,Nat.reduceEqDiff,Nat.reduceAdd,Nat.reduceMul,Nat.reduceLT,Nat.reduceSub,Int.reduceLT,Int.reduceLE,Int.reduceEq,Int.reduceNe,Int.reduceSub,Int.reduceAdd,Int.reduceMul,Int.reduceBEq,Int.reduceBNe,Int.reduceGT,Int.reduceGE,Nat.reduceGT,Int.reduceToNat,Int.reduceNeg,Nat.reduceLeDiff,Nat.reduceBEq,Nat.reduceBneDiff]
  rw [el]
  have le1 := Heap.q02 (Heap.q04 H) hb (.own 0 (edC e) 15)
  have A : EdAt (H.set b (.own 0 (edC e) 15)) b e := EdAt.of (Heap.q01 _ _ _) h8
  generalize (H.set b (.own 0 (edC e) 15)) = H1 at le1 A
  simp -implicitDefEqProofs only [zA,Nat.reduceEqDiff,A.all]
  refine (qkl E H1 e h8 hc hf hn hn2).mono ?_
  rintro r H2 ⟨le2, rfl⟩
  replace A := A.le h8 le2
  have le02 := Heap.q00 le1 le2
  unfold putG
  cases hg : q28 e with
  | false =>
    simp -implicitDefEqProofs only [zA,Nat.reduceEqDiff]
    exact ⟨le02, Ow.nil _ _ _⟩
  | true =>
    have g := qa9 hg
    obtain ⟨g1, g2, g3, g4, g5, g6, g7, g8, g9⟩ := g
    have hp := qi0 hg h8
    rw [if_pos rfl]
    unfold putE at hp ⊢
    obtain ⟨D, hD⟩ : ∃ D : Nat, e.dev = D := ⟨e.dev.toNat, by omega⟩
    obtain ⟨N, hN⟩ : ∃ N : Nat, e.n = N := ⟨e.n.toNat, by omega⟩
    obtain ⟨K, hK⟩ : ∃ K : Nat, e.kind = K := ⟨e.kind.toNat, by omega⟩
    obtain ⟨T, hT⟩ : ∃ T : Nat, e.time = T := ⟨e.time.toNat, by omega⟩
    have aD := A.dev
    have aN := A.n
    rw [hD] at aD
    rw [hN] at aN
    have tD : e.dev.toNat = D := by omega
    have tN : e.n.toNat = N := by omega
    have tK : e.kind.toNat = K := by omega
    have tT : e.time.toNat = T := by omega
    rw [tD, tN, tK, tT] at hp ⊢
    simp only [List.length_append] at hp
    simp -implicitDefEqProofs only [zA,Nat.reduceEqDiff,aD]
    refine (q73 E H2 [] (by simp) (.inl ⟨rfl, rfl, rfl⟩) D (by omega)).mono ?_
    rintro r1 H3 ⟨le3, ow3⟩
    rw [List.nil_append] at ow3
    have aN2 := aN
    replace A := A.le h8 le3
    have aN := A.n
    rw [hN] at aN
    simp -implicitDefEqProofs only [zA,Nat.reduceEqDiff,aN,aN2,implies_true,List.mem_cons,List.not_mem_nil,or_false,forall_eq]
    refine (q73 E H3 _ (by omega) ow3.sl N (by omega)).mono ?_
    rintro r2 H4 ⟨le4, ow4⟩
    replace A := A.le h8 le4
    simp -implicitDefEqProofs only [zA,Nat.reduceEqDiff]
    unfold qn8
    simp -implicitDefEqProofs only [zA,Nat.reduceEqDiff,A.seen]
    refine (qxx E H4 _ e.seen (by simp; omega) ow4.sl h8 g3).mono ?_
    rintro r3 H5 ⟨le5, ow5⟩
    replace A := A.le h8 le5
    have aK := A.kind
    rw [hK] at aK
    simp -implicitDefEqProofs only [zA,Nat.reduceEqDiff,aK]
    refine (q73 E H5 _ (by simp; omega) ow5.sl K (by omega)).mono ?_
    rintro r4 H6 ⟨le6, ow6⟩
    have aT2 := A.time
    rw [hT] at aT2
    replace A := A.le h8 le6
    have aT := A.time
    rw [hT] at aT
    simp -implicitDefEqProofs only [zA,Nat.reduceEqDiff,aT,aT2,implies_true,List.mem_cons,List.not_mem_nil,or_false,forall_eq]
    refine (q73 E H6 _ (by simp; omega) ow6.sl T (by omega)).mono ?_
    rintro r5 H7 ⟨le7, ow7⟩
    replace A := A.le h8 le7
    simp -implicitDefEqProofs only [zA,Nat.reduceEqDiff,A.con]
    refine (qj4 E H7 _ e.con (by simp; omega) (by omega) ow7.sl).mono ?_
    rintro r6 H8 ⟨le8, ow8⟩
    have A7 := A
    replace A := A.le h8 le8
    have A8 := A
    simp -implicitDefEqProofs only [zA,Nat.reduceEqDiff,A.fld,A7.fld,implies_true,List.mem_cons,List.not_mem_nil,or_false,forall_eq]
    refine (qj4 E H8 _ e.fld (by simp; omega) (by omega) ow8.sl).mono ?_
    rintro r7 H9 ⟨le9, ow9⟩
    replace A := A.le h8 le9
    simp -implicitDefEqProofs only [zA,Nat.reduceEqDiff,Nat.reduceAdd,A.val,A7.val,A8.val,implies_true,List.mem_cons,List.not_mem_nil,or_false,forall_eq,forall_eq_or_imp,and_self]
    refine (qj4 E H9 _ e.val (by simp; omega) (by omega) ow9.sl).mono ?_
    rintro r8 H10 ⟨le10, ow10⟩
    simp -implicitDefEqProofs only [zA,Nat.reduceEqDiff]
    have leA : H.le H9 := Heap.q00 le02 (Heap.q00 le3 (Heap.q00 le4 (Heap.q00 le5 (Heap.q00 le6 (Heap.q00 le7 (Heap.q00 le8 le9))))))
    exact ⟨Heap.q00 leA le10, ow10.since leA⟩
theorem qyy (E : EnvT tab) {H H' : Heap} {base : Option Addr} {c b4 b6 b12 n mm : Nat} {v11 : Value} {Q : AExit → T → Heap → Prop} (bk : Nat → UInt8) (l out : List UInt8) (hl : l.length ≤ 100000000) (hcap : l.length ≤ c) (hlt : 64 * n < l.length) (hmm : mm = min 64 (l.length - 64 * n)) (sl : SlB H' (.slice base l.length c) l)
    (hh : H.le H') (q12 : H' b12 = some (.own 0 (row8 bk 64) 64)) (ow : OwB H H' v11 out) (ho : out.length ≤ 200000000) (cnt : U32)
    (hQ : ∀ v H2, H.le H2 → OwB H H2 v (out ++ xorB ((l.drop (64 * n)).take mm) (rowL bk 64)) → Q .normal (tl [(1, .int .u32 cnt.toNat), (3, .slice base l.length c), (4, .pointer (some ⟨b4, 0, none⟩)), (6, .pointer (some ⟨b6, 0, none⟩)), (10, v), (11, .int .i64 ((64 * n : Nat) : Int))]) H2) :
    wpA E.toEnv 54 q6g Q (tl [(1, .int .u32 cnt.toNat), (3, .slice base l.length c), (4, .pointer (some ⟨b4, 0, none⟩)), (6, .pointer (some ⟨b6, 0, none⟩)), (10, v11), (11, .int .i64 ((64 * n : Nat) : Int)), (12, .pointer (some ⟨b12, 0, none⟩))]) H' := by
  unfold q6g
  have w1 : IntKind.i64.wrap ((l.length : Int) - ((64 * n : Nat) : Int)) = ((l.length - 64 * n : Nat) : Int) := by rw [q0w (by omega) (by omega)]; omega
  have w2 : IntKind.i64.wrap (((64 * n : Nat) : Int) + (mm : Int)) = ((64 * n + mm : Nat) : Int) := by rw [q0w (by omega) (by omega)]; rfl
  have bd : bnds l.length c (some (some (.int .i64 ((64 * n : Nat) : Int)))) (some (some (.int .i64 ((64 * n + mm : Nat) : Int)))) none = some (64 * n, 64 * n + mm, c) := qho (by omega) (by omega) (by omega)
  have s64 := qgl (H := H') (b := b12) (l := rowL bk 64) (sz := 64) (by rw [q12, qdg])
  have sp := Sl.qwu (a := 64 * n) (b := 64 * n + mm) sl (by omega) (by omega)
  rw [show 64 * n + mm - 64 * n = mm by omega] at sp
  have hxl := qf2 ((l.drop (64 * n)).take mm) (rowL bk 64)
  rw [q3c, List.length_take, List.length_drop] at hxl
  have lp : ((l.drop (64 * n)).take mm).length = mm := by simp; omega
  have lr := q3c bk 64
  have fin : ∀ K : Value → Heap → Prop, (∀ v H2, H.le H2 → OwB H H2 v (out ++ xorB ((l.drop (64 * n)).take mm) (rowL bk 64)) → K v H2) → ∀ H4 r, H'.le H4 → OwB H' H4 r (xorB ((l.drop (64 * n)).take mm) (rowL bk 64)) → qhr 1 1 H4 v11 r K := by
    intro K hK H4 r le4 ow4
    refine q0t (bytes := 1) (Heap.q00 hh le4) (by omega) (ow.le le4) ow4.sl (q1i _) (by rw [hxl]; omega) (by rw [hxl]; omega) ?_
    intro v5 H5 ow5 le5
    refine hK v5 H5 le5 ?_
    unfold OwB
    rw [List.length_append, List.map_append]
    exact ow5
  by_cases g : (64 : Int) < ((l.length - 64 * n : Nat) : Int)
  · have g' : ¬ ((l.length - 64 * n : Nat) : Int) ≤ 64 := by omega
    have w2' : IntKind.i64.wrap (((64 * n : Nat) : Int) + 64) = ((64 * n + mm : Nat) : Int) := by rw [q0w (by omega) (by omega)]; omega
    simp -implicitDefEqProofs only [zA,reduceCtorEq,Nat.reduceEqDiff,w1,g,w2',bd,qeg,Nat.sub_zero,addz]
    rw [show 64 * n + mm - 64 * n = mm by omega]
    refine (qqr E _ ((l.drop (64 * n)).take mm) (rowL bk 64) (by omega) (by unfold SlB; rw [lp]; unfold SlB at sp; rw [lp] at sp; exact sp) (by unfold SlB at s64; rw [lr] at s64; unfold SlB; rw [lr]; exact s64)).mono ?_
    rintro r H4 ⟨le4, ow4⟩
    simp -implicitDefEqProofs only [zA,Nat.reduceEqDiff,List.mem_cons,List.not_mem_nil,or_false,implies_true]
    refine fin _ ?_ _ _ le4 ow4
    intro v5 H5 le5 ow5
    simp -implicitDefEqProofs only [zA,Nat.reduceEqDiff]
    exact hQ v5 H5 le5 ow5
  · have g' : ((l.length - 64 * n : Nat) : Int) ≤ 64 := by omega
    have em : l.length - 64 * n = mm := by omega
    rw [em] at w1 g g'
    simp -implicitDefEqProofs only [zA,reduceCtorEq,Nat.reduceEqDiff,w1,g,w2,bd,qeg,Nat.sub_zero,addz]
    rw [show 64 * n + mm - 64 * n = mm by omega]
    refine (qqr E _ ((l.drop (64 * n)).take mm) (rowL bk 64) (by omega) (by unfold SlB; rw [lp]; unfold SlB at sp; rw [lp] at sp; exact sp) (by unfold SlB at s64; rw [lr] at s64; unfold SlB; rw [lr]; exact s64)).mono ?_
    rintro r H4 ⟨le4, ow4⟩
    simp -implicitDefEqProofs only [zA,Nat.reduceEqDiff,List.mem_cons,List.not_mem_nil,or_false,implies_true]
    refine fin _ ?_ _ _ le4 ow4
    intro v5 H5 le5 ow5
    simp -implicitDefEqProofs only [zA,Nat.reduceEqDiff]
    exact hQ v5 H5 le5 ow5
theorem qqp (E : EnvT tab) (h : Heap) {v : Value} (key nonce l : List UInt8) (count : U32) (hk : key.length = 32) (hn : nonce.length = 12) (hl : l.length ≤ 100000000) (hc : count.toNat + (l.length + 63) / 64 ≤ 4294967296) (sl : SlB h v l) :
    ACallN E.toEnv qmb [.agg (key.map u8V).toArray, .int .u32 count.toNat, .agg (nonce.map u8V).toArray, v] h fun r h' => h.le h' ∧ ∃ r', r = .tuple #[r', .bool true] ∧ OwB h h' r' (sxF key count nonce l) := by
  obtain ⟨base, c, rfl⟩ := Sl.shape sl
  refine q0o qay q60 rfl rfl (q03 ?_)
  unfold q60
  have hk' : (key.map u8V).length = 32 := by simp [hk]
  have hn' : (nonce.map u8V).length = 12 := by simp [hn]
  have hcn : count.toNat < 4294967296 := count.isLt
  have w0 : IntKind.u64.wrap (count.toNat : Int) = (count.toNat : Int) := q1x (by omega)
  have w1 : IntKind.i64.wrap ((l.length : Int) + 63) = ((l.length + 63 : Nat) : Int) := by rw [q0w (by omega) (by omega)]; rfl
  have w2 : IntKind.i64.wrap (((l.length + 63) / 64 : Nat) : Int) = (((l.length + 63) / 64 : Nat) : Int) := q0w (by omega) (by omega)
  have w3 : IntKind.u64.wrap (((l.length + 63) / 64 : Nat) : Int) = (((l.length + 63) / 64 : Nat) : Int) := q1x (by omega)
  have w4 : IntKind.u64.wrap ((count.toNat : Int) + (((l.length + 63) / 64 : Nat) : Int)) = ((count.toNat + (l.length + 63) / 64 : Nat) : Int) := by rw [← Int.natCast_add]; exact q1x (by omega)
  have g : ¬ (4294967296 : Int) < ((count.toNat + (l.length + 63) / 64 : Nat) : Int) := by omega
  have g' : ((count.toNat + (l.length + 63) / 64 : Nat) : Int) ≤ 4294967296 := by omega
  have hcap : l.length ≤ c := by
    rcases sl with ⟨e, hn, _⟩ | ⟨a, c', e, hc, _⟩
    · simp only [Value.slice.injEq] at e; omega
    · cases e; exact hc
  simp -implicitDefEqProofs only [zA,reduceCtorEq,Nat.reduceEqDiff,Nat.reduceAdd,Int.reduceEq,hk',hn',w0,w1,qsr,w2,w3,w4,g]
  intro b4 hb4 b6 hb6
  obtain ⟨n64, hb6'⟩ := Heap.q0b.1 hb6
  have hh : h.le ((h.set b4 (.own 0 (key.map u8V) 32)).set b6 (.own 0 (nonce.map u8V) 12)) := Heap.q02 (Heap.q02 (Heap.q04 _) hb4 _) hb6' _
  have q4 : ((h.set b4 (.own 0 (key.map u8V) 32)).set b6 (.own 0 (nonce.map u8V) 12)) b4 = some (.own 0 (key.map u8V) 32) := q07 (Heap.q01 _ _ _) (Ne.symm n64)
  have q6 : ((h.set b4 (.own 0 (key.map u8V) 32)).set b6 (.own 0 (nonce.map u8V) 12)) b6 = some (.own 0 (nonce.map u8V) 12) := Heap.q01 _ _ _
  generalize ((h.set b4 (.own 0 (key.map u8V) 32)).set b6 (.own 0 (nonce.map u8V) 12)) = H at hh q4 q6 ⊢
  unfold qbo
  simp -implicitDefEqProofs only [zA,Nat.reduceEqDiff]
  have hlen := qbz key count nonce l
  refine q0c (fun m t H' => H.le H' ∧ ∃ (n : Nat) (v11 : Value), t = tl [(1, .int .u32 count.toNat), (3, .slice base l.length c), (4, .pointer (some ⟨b4, 0, none⟩)), (6, .pointer (some ⟨b6, 0, none⟩)), (10, v11), (11, .int .i64 ((64 * n : Nat) : Int))] ∧ 64 * n ≤ l.length + 63 ∧ m = l.length + 64 - 64 * n ∧
      OwB H H' v11 ((sxF key count nonce l).take (64 * n))) (l.length + 64)
    ⟨Heap.q04 _, 0, _, rfl, by omega, by omega, Ow.nil _ _ _⟩ ?_
  rintro m t H' ⟨le', n, v11, rfl, hn64, rfl, ow⟩
  by_cases hlt : 64 * n < l.length
  · have e1 : ((64 * n : Nat) : Int) < (l.length : Int) := by omega
    have l4 : q05 H' ⟨b4, 0, none⟩ 32 = some (key.map u8V) := q0u (le' _ _ q4) (by simp [hk])
    have l6 : q05 H' ⟨b6, 0, none⟩ 12 = some (nonce.map u8V) := q0u (le' _ _ q6) (by simp [hn])
    have dv : Int.tdiv ((64 * n : Nat) : Int) 64 = (n : Int) := by rw [qsr]; congr 1; omega
    have dw : IntKind.i64.wrap (n : Int) = (n : Int) := q0w (by omega) (by omega)
    have du := qyc n (by omega)
    simp -implicitDefEqProofs only [zA,Nat.reduceEqDiff,Int.reduceEq,e1,l4,l6,dv,dw,du,qby]
    refine (qn2 E _ key nonce _ hk hn).mono ?_
    rintro r H2 ⟨le2, rfl⟩
    simp -implicitDefEqProofs only [zA,Nat.reduceEqDiff,List.length_replicate]
    intro b13 hb13
    have s13 : q0a (H2.set b13 (.own 0 (List.replicate 64 (.int .u8 0)) 64)) 64 (.pointer (some ⟨b13, 0, none⟩)) (.agg (row8 (q6b key (count + BitVec.ofNat 32 n) nonce) 64).toArray) = some (H2.set b13 (.own 0 (row8 (q6b key (count + BitVec.ofNat 32 n) nonce) 64) 64)) := z6z (by omega) (q0m _ _) (by simp [row8, one]) (by simp) (by omega)
    have w3 : IntKind.i64.wrap (((64 * n : Nat) : Int) + 64) = ((64 * (n + 1) : Nat) : Int) := by rw [q0w (by omega) (by omega)]; omega
    have le3 := Heap.q00 le' (Heap.q1c le2 hb13 (.own 0 (row8 (q6b key (count + BitVec.ofNat 32 n) nonce) 64) 64))
    have hst := qw6 key count nonce l n _ hlt rfl
    simp -implicitDefEqProofs only [zA,Nat.reduceEqDiff,s13]
    refine qyy E (q6b key (count + BitVec.ofNat 32 n) nonce) l _ hl hcap hlt rfl (sl.le (Heap.q00 hh le3)) le3 (Heap.q01 _ _ _) (ow.le (Heap.q1c le2 hb13 _)) (by rw [List.length_take, hlen]; omega) count ?_
    intro v5 H5 le5 ow5
    simp -implicitDefEqProofs only [zA,Nat.reduceEqDiff,w3]
    refine ⟨_, by omega, le5, n + 1, v5, rfl, by omega, rfl, ?_⟩
    rw [hst]
    exact ow5
  · have e1 : ¬ ((64 * n : Nat) : Int) < (l.length : Int) := by omega
    rw [List.take_of_length_le (by omega)] at ow
    simp -implicitDefEqProofs only [zA,Nat.reduceEqDiff,e1]
    exact ⟨Heap.q00 hh le', _, rfl, Ow.since hh ow⟩
theorem qyu (f : Nat → UInt8) {n m : Nat} (h : m ≤ n) : (row8 f n).take m = row8 f m := by
  apply List.ext_getElem
  · simp [row8]; omega
  · intro j h1 h2
    rw [List.getElem_take, q74, q74]
theorem u32_0 : ((0 : U32).toNat : Int) = 0 := rfl
theorem u32_1 : ((1 : U32).toNat : Int) = 1 := rfl
theorem qwr (key nonce : List UInt8) : (qps key nonce).map u8V = row8 (q6b key 0 nonce) 32 := qdg _ _
theorem qxt (E : EnvT tab) (h : Heap) (key nonce : List UInt8) (hk : key.length = 32) (hn : nonce.length = 12) :
    ACallN E.toEnv qxh [.agg (key.map u8V).toArray, .agg (nonce.map u8V).toArray] h fun r h' => h.le h' ∧ r = .agg ((qps key nonce).map u8V).toArray := by
  refine q0o qmm qfk rfl rfl (q03 ?_)
  unfold qfk
  have hk' : (key.map u8V).length = 32 := by simp [hk]
  have hn' : (nonce.map u8V).length = 12 := by simp [hn]
  simp -implicitDefEqProofs only [zA,reduceCtorEq,Nat.reduceEqDiff,Nat.reduceAdd,hk',hn',List.length_replicate]
  intro b2 hb2 b3 hb3 b4 hb4
  obtain ⟨n32, hb3'⟩ := Heap.q0b.1 hb3
  obtain ⟨n43, hb4a⟩ := Heap.q0b.1 hb4
  obtain ⟨n42, hb4'⟩ := Heap.q0b.1 hb4a
  have le1 : h.le (((h.set b2 (.own 0 (key.map u8V) 32)).set b3 (.own 0 (nonce.map u8V) 12)).set b4 (.own 0 (List.replicate 32 (.int .u8 0)) 32)) := Heap.q02 (Heap.q02 (Heap.q02 (Heap.q04 _) hb2 _) hb3' _) hb4' _
  have l2 : q05 (((h.set b2 (.own 0 (key.map u8V) 32)).set b3 (.own 0 (nonce.map u8V) 12)).set b4 (.own 0 (List.replicate 32 (.int .u8 0)) 32)) ⟨b2, 0, none⟩ 32 = some (key.map u8V) := q0u (q07 (q07 (Heap.q01 _ _ _) (Ne.symm n32)) (Ne.symm n42)) hk'
  have l3 : q05 (((h.set b2 (.own 0 (key.map u8V) 32)).set b3 (.own 0 (nonce.map u8V) 12)).set b4 (.own 0 (List.replicate 32 (.int .u8 0)) 32)) ⟨b3, 0, none⟩ 12 = some (nonce.map u8V) := q0u (q07 (Heap.q01 _ _ _) (Ne.symm n43)) hn'
  have q4 : (((h.set b2 (.own 0 (key.map u8V) 32)).set b3 (.own 0 (nonce.map u8V) 12)).set b4 (.own 0 (List.replicate 32 (.int .u8 0)) 32)) b4 = some (.own 0 (List.replicate 32 (.int .u8 0)) 32) := Heap.q01 _ _ _
  generalize (((h.set b2 (.own 0 (key.map u8V) 32)).set b3 (.own 0 (nonce.map u8V) 12)).set b4 (.own 0 (List.replicate 32 (.int .u8 0)) 32)) = h1 at le1 l2 l3 q4 ⊢
  try simp -implicitDefEqProofs only [zA,Nat.reduceEqDiff,l2,l3]
  have hB := qj2 E h1 key nonce 0 hk hn
  rw [u32_0] at hB
  refine hB.mono ?_
  rintro r h2 ⟨le2, rfl⟩
  rw [qwr]
  generalize q6b key 0 nonce = bk
  simp -implicitDefEqProofs only [zA,Nat.reduceEqDiff,List.length_replicate]
  intro b5 hb5
  have s5 : q0a (h2.set b5 (.own 0 (List.replicate 64 (.int .u8 0)) 64)) 64 (.pointer (some ⟨b5, 0, none⟩)) (.agg (row8 bk 64).toArray) = some (h2.set b5 (.own 0 (row8 bk 64) 64)) := z6z (by omega) (q0m _ _) (by simp [row8, one]) (by simp) (by omega)
  have bd : bnds 64 64 none (some (some (.int .i64 32))) none = some (0, 32, 64) := q5t (by omega) (by omega)
  have q45 := q1b (X := .own 0 (row8 bk 64) 64) hb5 (le2 _ _ q4)
  have l5 : q05 (h2.set b5 (.own 0 (row8 bk 64) 64)) ⟨b5, 0, none⟩ 32 = some (row8 bk 32) := by
    rw [q0l (Heap.q01 _ _ _) (by rw [q0m]; omega), List.drop_zero, qyu _ (by omega)]
  have s4 : q0a (h2.set b5 (.own 0 (row8 bk 64) 64)) 32 (.pointer (some ⟨b4, 0, none⟩)) (.agg (row8 bk 32).toArray) = some ((h2.set b5 (.own 0 (row8 bk 64) 64)).set b4 (.own 0 (row8 bk 32) 32)) := q0f q45 (by omega) (q0m _ _) (by simp [row8, one]) (by simp) (by omega)
  have l4 : q05 ((h2.set b5 (.own 0 (row8 bk 64) 64)).set b4 (.own 0 (row8 bk 32) 32)) ⟨b4, 0, none⟩ 32 = some (row8 bk 32) := z6x (q0m _ _)
  simp -implicitDefEqProofs only [zA,reduceCtorEq,Nat.reduceEqDiff,s5,bd,Nat.sub_zero,addz,l5,s4,l4]
  exact Heap.q02 (Heap.q1c (Heap.q00 le1 le2) hb5 _) hb4' _
theorem qpt (E : EnvT tab) (h : Heap) {v : Value} (l : List UInt8) (hl : l.length ≤ 100000000) (s : SlB h v l) : ACallN E.toEnv qv8 [v] h fun r h' => h.le h' ∧ OwB h h' r (List.replicate (qae l.length) 0) := by
  obtain ⟨base, c, rfl⟩ := Sl.shape s
  refine q0o qk1 qdz rfl rfl (q03 ?_)
  unfold qdz
  have t1 : Int.tmod (l.length : Int) 16 = ((l.length % 16 : Nat) : Int) := by rw [Int.tmod_eq_emod_of_nonneg (by omega)]; rfl
  have w1 : IntKind.i64.wrap ((l.length % 16 : Nat) : Int) = ((l.length % 16 : Nat) : Int) := q0w (by omega) (by omega)
  have w2 : IntKind.i64.wrap (16 - ((l.length % 16 : Nat) : Int)) = ((16 - l.length % 16 : Nat) : Int) := by rw [q0w (by omega) (by omega)]; omega
  have t2 : Int.tmod ((16 - l.length % 16 : Nat) : Int) 16 = ((qae l.length : Nat) : Int) := by rw [Int.tmod_eq_emod_of_nonneg (by omega)]; rfl
  have hf := qcp l.length
  have w3 : IntKind.i64.wrap ((qae l.length : Nat) : Int) = ((qae l.length : Nat) : Int) := q0w (by omega) (by omega)
  generalize qae l.length = k at *
  have m1 : (0 : Int) ≤ (k : Int) ∧ (k : Int) ≤ (k : Int) ∧ (k : Int) ≤ 9223372036854775807 ∧ 1 * (k : Int) ≤ 281474976710656 := by omega
  simp -implicitDefEqProofs only [zA,reduceCtorEq,Nat.reduceEqDiff,Int.reduceEq,t1,w2,t2,if_pos m1,Int.toNat_natCast]
  intro b5 hb5
  refine ⟨Heap.q1c (Heap.q04 _) hb5 _, ?_⟩
  unfold OwB
  rw [List.length_replicate, List.map_replicate]
  exact .inr ⟨b5, 0, k, k, 0, [], [], rfl, Nat.le_refl _, hb5, by rw [Heap.q01]; simp [u8V], rfl, by simp, by omega⟩
theorem qri (n : Nat) : IntKind.u64.wrap (n : Int) = ((BitVec.ofNat 64 n).toNat : Int) := by rw [qb7, q1d]
theorem SlL.lit5 {H : Heap} {b : Nat} (hb : H b = none) {u1 u2 u3 u4 u5 : Value} {l1 l2 l3 l4 l5 : List UInt8} (s1 : SlB H u1 l1) (s2 : SlB H u2 l2) (s3 : SlB H u3 l3) (s4 : SlB H u4 l4) (s5 : SlB H u5 l5) :
    SlL (H.set b (.own 0 [u1, u2, u3, u4, u5] 5)) (.slice (some ⟨b, 0, none⟩) 5 5) [l1, l2, l3, l4, l5] := by
  have hle := Heap.q1c (Heap.q04 H) hb (.own 0 [u1, u2, u3, u4, u5] 5)
  refine ⟨[u1, u2, u3, u4, u5], rfl, Sl.lit (n := 5) rfl, ?_⟩
  intro i x y
  match i, x, y with
  | 0, _, _ => exact Sl.le hle s1
  | 1, _, _ => exact Sl.le hle s2
  | 2, _, _ => exact Sl.le hle s3
  | 3, _, _ => exact Sl.le hle s4
  | 4, _, _ => exact Sl.le hle s5
theorem qoi (beside c : List UInt8) : [beside, List.replicate (qae beside.length) 0, c, List.replicate (qae c.length) 0, lenB beside.length ++ lenB c.length].flatten = qan beside c := by
  simp [qan, qdb]
theorem qrb (E : EnvT tab) (h : Heap) {v w : Value} (key nonce c beside : List UInt8) (hk : key.length = 32) (hn : nonce.length = 12) (hc : c.length ≤ 1000000) (hbs : beside.length ≤ 1000000) (sc : SlB h v c) (sb : SlB h w beside) :
    ACallN E.toEnv qxg [.agg (key.map u8V).toArray, .agg (nonce.map u8V).toArray, v, w] h fun r h' => h.le h' ∧ r = .agg ((qf0 key nonce c beside).map u8V).toArray := by
  obtain ⟨base, cc, rfl⟩ := Sl.shape sc
  obtain ⟨base2, cc2, rfl⟩ := Sl.shape sb
  refine q0o qml qfj rfl rfl (q03 ?_)
  unfold qfj
  have hk' : (key.map u8V).length = 32 := by simp [hk]
  have hn' : (nonce.map u8V).length = 12 := by simp [hn]
  simp -implicitDefEqProofs only [zA,reduceCtorEq,Nat.reduceEqDiff,Nat.reduceAdd,hk',hn',List.length_replicate]
  intro b4 hb4 b5 hb5 b8 hb8
  obtain ⟨n54, hb5'⟩ := Heap.q0b.1 hb5
  obtain ⟨n85, hb8a⟩ := Heap.q0b.1 hb8
  obtain ⟨n84, hb8'⟩ := Heap.q0b.1 hb8a
  have le1 : h.le (((h.set b4 (.own 0 (key.map u8V) 32)).set b5 (.own 0 (nonce.map u8V) 12)).set b8 (.own 0 (List.replicate 16 (.int .u8 0)) 16)) := Heap.q02 (Heap.q02 (Heap.q02 (Heap.q04 _) hb4 _) hb5' _) hb8' _
  have q4 : (((h.set b4 (.own 0 (key.map u8V) 32)).set b5 (.own 0 (nonce.map u8V) 12)).set b8 (.own 0 (List.replicate 16 (.int .u8 0)) 16)) b4 = some (.own 0 (key.map u8V) 32) := q07 (q07 (Heap.q01 _ _ _) (Ne.symm n54)) (Ne.symm n84)
  have q5 : (((h.set b4 (.own 0 (key.map u8V) 32)).set b5 (.own 0 (nonce.map u8V) 12)).set b8 (.own 0 (List.replicate 16 (.int .u8 0)) 16)) b5 = some (.own 0 (nonce.map u8V) 12) := q07 (Heap.q01 _ _ _) (Ne.symm n85)
  have q8 : (((h.set b4 (.own 0 (key.map u8V) 32)).set b5 (.own 0 (nonce.map u8V) 12)).set b8 (.own 0 (List.replicate 16 (.int .u8 0)) 16)) b8 = some (.own 0 (List.replicate 16 (.int .u8 0)) 16) := Heap.q01 _ _ _
  generalize (((h.set b4 (.own 0 (key.map u8V) 32)).set b5 (.own 0 (nonce.map u8V) 12)).set b8 (.own 0 (List.replicate 16 (.int .u8 0)) 16)) = h1 at le1 q4 q5 q8 ⊢
  have u1 := qri beside.length
  have u2 := qri c.length
  try simp -implicitDefEqProofs only [zA,u1]
  refine (q7z E _ [] (by simp) (Ow.nil h1 h1 1).sl (BitVec.ofNat 64 beside.length) 8 (by omega)).mono ?_
  rintro r h2 ⟨le2, ow2⟩
  rw [List.nil_append] at ow2
  simp -implicitDefEqProofs only [zA,Nat.reduceEqDiff,u2]
  refine (q7z E _ _ (by rw [q1f]; omega) ow2.sl (BitVec.ofNat 64 c.length) 8 (by omega)).mono ?_
  rintro r h3 ⟨le3, ow3⟩
  have le13 := Heap.q00 le2 le3
  have l4 : q05 h3 ⟨b4, 0, none⟩ 32 = some (key.map u8V) := q0u (le13 _ _ q4) hk'
  have l5 : q05 h3 ⟨b5, 0, none⟩ 12 = some (nonce.map u8V) := q0u (le13 _ _ q5) hn'
  have s3 : SlB h3 r (lenB beside.length ++ lenB c.length) := ow3.sl
  obtain ⟨base3, cc3, rfl⟩ := Sl.shape s3
  simp -implicitDefEqProofs only [zA,Nat.reduceEqDiff,l4,l5]
  refine (qxt E _ key nonce hk hn).mono ?_
  rintro r h4 ⟨le4, rfl⟩
  have le04 := Heap.q00 le1 (Heap.q00 le13 le4)
  simp -implicitDefEqProofs only [zA,Nat.reduceEqDiff]
  refine (qpt E _ beside (by omega) (sb.le le04)).mono ?_
  rintro r h5 ⟨le5, ow5⟩
  have s5 := ow5.sl
  obtain ⟨base5, cc5, rfl⟩ := Sl.shape s5
  simp -implicitDefEqProofs only [zA,Nat.reduceEqDiff]
  refine (qpt E _ c (by omega) (sc.le (Heap.q00 le04 le5))).mono ?_
  rintro r h6 ⟨le6, ow6⟩
  have s6 := ow6.sl
  obtain ⟨base6, cc6, rfl⟩ := Sl.shape s6
  have le06 := Heap.q00 le04 (Heap.q00 le5 le6)
  have ed : ∀ u1 u2 u3 u4 u5 : Value, u1 :: u2 :: u3 :: u4 :: u5 :: List.drop 5 (List.replicate 5 (Value.slice none 0 0)) = [u1, u2, u3, u4, u5] := fun _ _ _ _ _ => rfl
  simp -implicitDefEqProofs only [zA,Nat.reduceEqDiff,Nat.reduceAdd,Nat.reduceSub,Nat.reduceLeDiff,List.length_replicate,List.drop_replicate,List.replicate_zero]
  intro b10 hb10
  have le16 := Heap.q00 le13 (Heap.q00 le4 (Heap.q00 le5 le6))
  have hz : (List.replicate (qae beside.length) (0 : UInt8)).length = qae beside.length := List.length_replicate
  have hz2 : (List.replicate (qae c.length) (0 : UInt8)).length = qae c.length := List.length_replicate
  rw [hz] at s5
  rw [hz2] at s6
  have hl := qlx beside c
  have hf1 := qcp beside.length
  have hf2 := qcp c.length
  have t5 : SlB h6 (.slice base5 (qae beside.length) cc5) (List.replicate (qae beside.length) 0) := by unfold SlB; rw [hz]; exact s5.le le6
  have t6 : SlB h6 (.slice base6 (qae c.length) cc6) (List.replicate (qae c.length) 0) := by unfold SlB; rw [hz2]; exact s6
  have sL := SlL.lit5 hb10 (sb.le le06) t5 (sc.le le06) t6 (s3.le (Heap.q00 le4 (Heap.q00 le5 le6)))
  refine (qx9 E _ (qps key nonce) _ (qlt _ _) (by simp) (by rw [qoi]; omega) sL).mono ?_
  rintro r h7 ⟨le7, rfl⟩
  rw [qoi, tag_same _ _ (qlt _ _)]
  have le67 := Heap.q00 (Heap.q1c (Heap.q04 h6) hb10 _) le7
  have st8 : q0a h7 16 (.pointer (some ⟨b8, 0, none⟩)) (.agg ((qf0 key nonce c beside).map u8V).toArray) = some (h7.set b8 (.own 0 ((qf0 key nonce c beside).map u8V) 16)) := q0f (le67 _ _ (le16 _ _ q8)) (by omega) (by simp [qd5]) (q1i _) (by simp) (by omega)
  have l8 : q05 (h7.set b8 (.own 0 ((qf0 key nonce c beside).map u8V) 16)) ⟨b8, 0, none⟩ 16 = some ((qf0 key nonce c beside).map u8V) := z6x (by simp [qd5])
  have eA : rowL (tagR (qps key nonce) (qan beside c)) 16 = qf0 key nonce c beside := rfl
  rw [eA]
  simp -implicitDefEqProofs only [zA,Nat.reduceEqDiff,st8,l8]
  exact Heap.q02 (Heap.q00 le1 (Heap.q00 le16 le67)) hb8' _
theorem qvr (E : EnvT tab) (h : Heap) {v w : Value} (key nonce plain beside : List UInt8) (hk : key.length = 32) (hn : nonce.length = 12) (hp : plain.length ≤ 65536) (hbs : beside.length ≤ 1000000) (sp : SlB h v plain) (sb : SlB h w beside) :
    ACallN E.toEnv qv9 [.agg (key.map u8V).toArray, .agg (nonce.map u8V).toArray, v, w] h fun r h' => h.le h' ∧ ∃ r', r = .tuple #[r', .int .i64 0] ∧ OwB h h' r' (qj7 key nonce plain beside) := by
  obtain ⟨base, cc, rfl⟩ := Sl.shape sp
  obtain ⟨base2, cc2, rfl⟩ := Sl.shape sb
  refine q0o qk2 qe0 rfl rfl (q03 ?_)
  unfold qe0
  have hk' : (key.map u8V).length = 32 := by simp [hk]
  have hn' : (nonce.map u8V).length = 12 := by simp [hn]
  have g : ¬ (65536 : Int) < (plain.length : Int) := by omega
  have g' : (plain.length : Int) ≤ 65536 := by omega
  simp -implicitDefEqProofs only [zA,reduceCtorEq,Nat.reduceEqDiff,Nat.reduceAdd,hk',hn',g]
  intro b4 hb4 b5 hb5
  obtain ⟨n54, hb5'⟩ := Heap.q0b.1 hb5
  have le1 : h.le ((h.set b4 (.own 0 (key.map u8V) 32)).set b5 (.own 0 (nonce.map u8V) 12)) := Heap.q02 (Heap.q02 (Heap.q04 _) hb4 _) hb5' _
  have q4 : ((h.set b4 (.own 0 (key.map u8V) 32)).set b5 (.own 0 (nonce.map u8V) 12)) b4 = some (.own 0 (key.map u8V) 32) := q07 (Heap.q01 _ _ _) (Ne.symm n54)
  have q5 : ((h.set b4 (.own 0 (key.map u8V) 32)).set b5 (.own 0 (nonce.map u8V) 12)) b5 = some (.own 0 (nonce.map u8V) 12) := Heap.q01 _ _ _
  generalize ((h.set b4 (.own 0 (key.map u8V) 32)).set b5 (.own 0 (nonce.map u8V) 12)) = h1 at le1 q4 q5 ⊢
  have l4 : q05 h1 ⟨b4, 0, none⟩ 32 = some (key.map u8V) := q0u q4 hk'
  have l5 : q05 h1 ⟨b5, 0, none⟩ 12 = some (nonce.map u8V) := q0u q5 hn'
  have hX := qnf E h1 key nonce plain 1 hk hn (by omega) (by rw [show (1 : U32).toNat = 1 from rfl]; omega) (sp.le le1)
  rw [u32_1] at hX
  try simp -implicitDefEqProofs only [zA,Nat.reduceEqDiff,l4,l5]
  refine hX.mono ?_
  rintro r h2 ⟨le2, r', rfl, ow2⟩
  have hlen := qbz key 1 nonce plain
  have hlen2 := qd5 key nonce (sxF key 1 nonce plain) beside
  have eS : qj7 key nonce plain beside = sxF key 1 nonce plain ++ qf0 key nonce (sxF key 1 nonce plain) beside := rfl
  rw [eS]
  generalize sxF key 1 nonce plain = c at ow2 hlen hlen2 ⊢
  have l4' := q22 le2 l4
  have l5' := q22 le2 l5
  have s2 := ow2.sl
  simp -implicitDefEqProofs only [zA,Nat.reduceEqDiff]
  unfold qh7
  simp -implicitDefEqProofs only [zA,Nat.reduceEqDiff,Int.reduceBNe,l4',l5']
  refine (qrb E _ key nonce c beside hk hn (by omega) hbs s2 (sb.le (Heap.q00 le1 le2))).mono ?_
  rintro r h3 ⟨le3, rfl⟩
  generalize qf0 key nonce c beside = tg at hlen2 ⊢
  simp -implicitDefEqProofs only [zA,Nat.reduceEqDiff,List.length_replicate]
  intro b12 hb12
  have s12 : q0a (h3.set b12 (.own 0 (List.replicate 16 (.int .u8 0)) 16)) 16 (.pointer (some ⟨b12, 0, none⟩)) (.agg (tg.map u8V).toArray) = some (h3.set b12 (.own 0 (tg.map u8V) 16)) := z6z (by omega) (by simp [hlen2]) (q1i _) (by simp) (by omega)
  have le4 := Heap.q1c le3 hb12 (.own 0 (tg.map u8V) 16)
  have st : SlB (h3.set b12 (.own 0 (tg.map u8V) 16)) (.slice (some ⟨b12, 0, none⟩) 16 16) tg := by
    have := qgl (H := h3.set b12 (.own 0 (tg.map u8V) 16)) (b := b12) (l := tg) (sz := 16) (Heap.q01 _ _ _)
    rw [hlen2] at this
    exact this
  simp -implicitDefEqProofs only [zA,reduceCtorEq,Nat.reduceEqDiff,s12,qeg,Nat.sub_zero,addz]
  refine q0t (bytes := 1) (m := tg.length) (news := tg.map u8V) (Heap.q00 (Heap.q00 le1 le2) le4) (by omega) ((Ow.since le1 ow2).le le4) st (q1i _) (by omega) (by omega) ?_
  intro v5 H5 ow5 le5
  simp -implicitDefEqProofs only [zA,Nat.reduceEqDiff]
  refine ⟨le5, _, rfl, ?_⟩
  unfold OwB
  rw [List.length_append, List.map_append]
  exact ow5
def dotC (d n : Int) : List Value := [.int .i64 d, .int .i64 n]
theorem qo2 {a d n : Nat} (ha : a < 9223372036854775808) (hd : d < 9223372036854775808) (hn : n < 9223372036854775808) : (labW a d n).length ≤ 27 := by
  have h1 := q2b 9 a (by omega) (by omega)
  have h2 := q2b 9 d (by omega) (by omega)
  have h3 := q2b 9 n (by omega) (by omega)
  simp [labW]; omega
theorem qmy (E : EnvT tab) (H : Heap) (a d n : Nat) (ha : a < 9223372036854775808) (hd : d < 9223372036854775808) (hn : n < 9223372036854775808) :
    ACallN E.toEnv qtg [.int .i64 a, .agg (dotC d n).toArray] H fun r H' => H.le H' ∧ OwB H H' r (labW a d n) := by
  refine q0o qhb qcg rfl rfl (q03 ?_)
  unfold qcg
  have h1 := q2b 9 a (by omega) (by omega)
  have h2 := q2b 9 d (by omega) (by omega)
  simp -implicitDefEqProofs only [zA,reduceCtorEq,Nat.reduceEqDiff,Nat.reduceAdd]
  intro b hb
  try simp -implicitDefEqProofs only [zA,reduceIte,reduceCtorEq,Nat.reduceEqDiff,Nat.reduceAdd,Nat.reduceMul,Nat.reduceLT,Nat.reduceSub,Int.reduceLT,Int.reduceLE,Int.reduceEq,Int.reduceNe,Int.reduceSub,Int.reduceAdd,Int.reduceMul,Int.reduceBEq,Int.reduceBNe,Int.reduceGT,Int.reduceGE,Nat.reduceGT,Int.reduceToNat,Int.reduceNeg,Nat.reduceLeDiff,Nat.reduceBEq,Nat.reduceBneDiff]
  have le1 := Heap.q02 (Heap.q04 H) hb (.own 0 (dotC d n) (dotC d n).length)
  have q : (H.set b (.own 0 (dotC d n) (dotC d n).length)) b = some (.own 0 (dotC d n) (dotC d n).length) := Heap.q01 _ _ _
  generalize (H.set b (.own 0 (dotC d n) (dotC d n).length)) = H1 at le1 q
  have c0 : ∀ G, H1.le G → q0x G ⟨b, 0, none⟩ = some (.int .i64 d) := fun G x => by rw [q0k (x _ _ q) (by simp [dotC])]; rfl
  have c1 : ∀ G, H1.le G → q0x G ⟨b, 1, none⟩ = some (.int .i64 n) := fun G x => by rw [q0k (x _ _ q) (by simp [dotC])]; rfl
  refine (q73 E H1 [] (by simp) (.inl ⟨rfl, rfl, rfl⟩) a ha).mono ?_
  rintro r1 H2 ⟨le2, ow2⟩
  rw [List.nil_append] at ow2
  have c01 := c0 H1 (Heap.q04 _)
  have c02 := c0 H2 le2
  simp -implicitDefEqProofs only [zA,reduceCtorEq,Nat.reduceEqDiff,c01,c02,implies_true,List.mem_cons,List.not_mem_nil,or_false,forall_eq]
  refine (q73 E H2 _ (by omega) ow2.sl d hd).mono ?_
  rintro r2 H3 ⟨le3, ow3⟩
  have c11 := c1 H1 (Heap.q04 _)
  have c12 := c1 H2 le2
  have c13 := c1 H3 (Heap.q00 le2 le3)
  simp -implicitDefEqProofs only [zA,reduceCtorEq,Nat.reduceEqDiff,Nat.reduceAdd,c11,c12,c13,implies_true,List.mem_cons,List.not_mem_nil,or_false,forall_eq,forall_eq_or_imp,and_self]
  refine (q73 E H3 _ (by simp; omega) ow3.sl n hn).mono ?_
  rintro r3 H4 ⟨le4, ow4⟩
  simp -implicitDefEqProofs only [zA,reduceCtorEq,Nat.reduceEqDiff]
  have leA := Heap.q00 le1 (Heap.q00 le2 le3)
  exact ⟨Heap.q00 leA le4, ow4.since leA⟩
structure EdOk (e : Ed) : Prop where
  h8 : e.seen.length = 8
  con : e.con.length ≤ 9000000000000000000
  fld : e.fld.length ≤ 9000000000000000000
  n1 : -9223372036854775808 ≤ e.n
  n2 : e.n ≤ 9223372036854775807
theorem qo0 {e : Ed} (h8 : e.seen.length = 8) : (putG e).length ≤ 500 := by
  unfold putG
  split
  · exact qi0 ‹_› h8
  · simp
theorem qj6 (E : EnvT tab) (H : Heap) (e : Ed) (o : EdOk e) : ACallN E.toEnv qv0 [.agg (edC e).toArray] H fun r H' => H.le H' ∧ r = .int .i64 (qpz e) := by
  have h8 := o.h8
  refine q0o qjt qdn rfl rfl (q03 ?_)
  unfold qdn
  have el := q1a h8
  have pl := qo0 h8
  simp -implicitDefEqProofs only [zA,reduceCtorEq,Nat.reduceEqDiff]
  intro b hb
  try simp -implicitDefEqProofs only [zA,reduceIte,reduceCtorEq,Nat.reduceEqDiff,Nat.reduceAdd,Nat.reduceMul,Nat.reduceLT,Nat.reduceSub,Int.reduceLT,Int.reduceLE,Int.reduceEq,Int.reduceNe,Int.reduceSub,Int.reduceAdd,Int.reduceMul,Int.reduceBEq,Int.reduceBNe,Int.reduceGT,Int.reduceGE,Nat.reduceGT,Int.reduceToNat,Int.reduceNeg,Nat.reduceLeDiff,Nat.reduceBEq,Nat.reduceBneDiff]
  rw [el]
  have le1 := Heap.q02 (Heap.q04 H) hb (.own 0 (edC e) 15)
  have A : EdAt (H.set b (.own 0 (edC e) 15)) b e := EdAt.of (Heap.q01 _ _ _) h8
  generalize (H.set b (.own 0 (edC e) 15)) = H1 at le1 A
  simp -implicitDefEqProofs only [zA,Nat.reduceEqDiff,A.all]
  refine (qwa E H1 e h8 o.con o.fld o.n1 o.n2).mono ?_
  rintro r1 H2 ⟨le2, ow2⟩
  simp -implicitDefEqProofs only [zA,Nat.reduceEqDiff]
  refine (qt7 E H2 _ (by omega) ow2.sl).mono ?_
  rintro r2 H3 ⟨le3, r', rfl, ow3⟩
  have A3 := A.le h8 (Heap.q00 le2 le3)
  obtain ⟨rb, rc, rfl⟩ := Sl.shape ow3.sl
  simp -implicitDefEqProofs only [zA,Nat.reduceEqDiff,Int.reduceBNe,A3.all]
  refine (qkl E H3 e h8 o.con o.fld o.n1 o.n2).mono ?_
  rintro r3 H4 ⟨le4, rfl⟩
  have leA := Heap.q00 le1 (Heap.q00 le2 (Heap.q00 le3 le4))
  have hp := qb9 (l := putG e) (by omega)
  have hb2 := qqa (n := (putG e).length) (by omega)
  unfold qpz
  unfold putG at hp hb2 ⊢
  cases hg : q28 e with
  | false =>
    simp -implicitDefEqProofs only [zA,Nat.reduceEqDiff]
    exact leA
  | true =>
    rw [hg, if_pos rfl] at hp hb2
    simp -implicitDefEqProofs only [zA,Nat.reduceEqDiff]
    refine ⟨leA, ?_⟩
    congr 1
    omega
theorem qia {L : RL} {k : Int} {key : List UInt8} (h : getK L k = some key) : ∃ x ∈ L, x.1 = k ∧ x.2 = key := by
  unfold getK at h
  obtain ⟨x, hx, rfl⟩ := Option.map_eq_some_iff.1 h
  exact ⟨x, List.mem_of_find?_eq_some hx, by simpa using List.find?_some hx, rfl⟩
theorem qom (E : EnvT tab) {h0 H : Heap} (leH : h0.le H) {p : Value} {L : RL} (R : RingR h0 H p L) (hL : ∀ x ∈ L, x.2.length = 32) (hR : ∀ x ∈ L, 0 ≤ x.1 ∧ x.1 ≤ 1099511627776) (k : Int) (e : Ed) (o : EdOk e) :
    ACallN E.toEnv qv1 [p, .int .i64 k, .agg (edC e).toArray] H fun r H' => H.le H' ∧ ∃ r', r = .tuple #[r', .int .i64 ((qrn L k e).1 : Nat)] ∧ OwB H H' r' (qrn L k e).2 := by
  have h8 := o.h8
  obtain ⟨pp, hpp⟩ : ∃ b, p = .pointer (some ⟨b, 0, none⟩) := by
    obtain ⟨b, r, es, c, rfl, _⟩ := R
    exact ⟨b, rfl⟩
  subst hpp
  refine q0o qju qdo rfl rfl (q03 ?_)
  unfold qdo
  have el := q1a h8
  have pl := qo0 h8
  simp -implicitDefEqProofs only [zA,reduceCtorEq,Nat.reduceEqDiff,Nat.reduceAdd]
  intro b hb
  try simp -implicitDefEqProofs only [zA,reduceIte,reduceCtorEq,Nat.reduceEqDiff,Nat.reduceAdd,Nat.reduceMul,Nat.reduceLT,Nat.reduceSub,Int.reduceLT,Int.reduceLE,Int.reduceEq,Int.reduceNe,Int.reduceSub,Int.reduceAdd,Int.reduceMul,Int.reduceBEq,Int.reduceBNe,Int.reduceGT,Int.reduceGE,Nat.reduceGT,Int.reduceToNat,Int.reduceNeg,Nat.reduceLeDiff,Nat.reduceBEq,Nat.reduceBneDiff]
  rw [el]
  have le1 := Heap.q02 (Heap.q04 H) hb (.own 0 (edC e) 15)
  have A : EdAt (H.set b (.own 0 (edC e) 15)) b e := EdAt.of (Heap.q01 _ _ _) h8
  generalize (H.set b (.own 0 (edC e) 15)) = H1 at le1 A
  simp -implicitDefEqProofs only [zA,reduceCtorEq,Nat.reduceEqDiff,A.all]
  refine (qkl E H1 e h8 o.con o.fld o.n1 o.n2).mono ?_
  rintro r H2 ⟨le2, rfl⟩
  have le02 := Heap.q00 le1 le2
  unfold qrn
  cases hg : q28 e with
  | false =>
    simp -implicitDefEqProofs only [zA,reduceCtorEq,Nat.reduceEqDiff]
    exact ⟨le02, _, rfl, Ow.nil _ _ _⟩
  | true =>
    rw [if_pos rfl]
    simp -implicitDefEqProofs only [zA,reduceCtorEq,Nat.reduceEqDiff]
    refine (qk4 E (Heap.q00 leH le02) (R.le le02) hL k).mono ?_
    rintro r H3 ⟨le3, rfl⟩
    have wl : ((getK L k).getD (List.replicate 32 0)).length = 32 := by
      cases h : getK L k with
      | none => simp
      | some key =>
        obtain ⟨x, hx, -, rfl⟩ := qia h
        exact hL x hx
    have wk : ∀ key, getK L k = some key → (getK L k).getD (List.replicate 32 0) = key := fun key h => by rw [h]; rfl
    generalize (getK L k).getD (List.replicate 32 0) = W at wl wk
    simp -implicitDefEqProofs only [zA,reduceCtorEq,Nat.reduceEqDiff]
    intro b8 hb8
    try simp -implicitDefEqProofs only [zA,List.length_replicate]
    have st8 : q0a (H3.set b8 (.own 0 (List.replicate 32 (.int .u8 0)) 32)) 32 (.pointer (some ⟨b8, 0, none⟩)) (.agg (W.map u8V).toArray) = some (H3.set b8 (.own 0 (W.map u8V) 32)) := z6z (by omega) (by simp [wl]) (q1i _) (by simp) (by omega)
    have le8 := Heap.q02 (Heap.q04 H3) hb8 (.own 0 (W.map u8V) 32)
    have q8 : (H3.set b8 (.own 0 (W.map u8V) 32)) b8 = some (.own 0 (W.map u8V) 32) := Heap.q01 _ _ _
    simp -implicitDefEqProofs only [zA,reduceCtorEq,Nat.reduceEqDiff,st8]
    generalize (H3.set b8 (.own 0 (W.map u8V) 32)) = H4 at le8 q8 ⊢
    have le24 := Heap.q00 le3 le8
    have le04 := Heap.q00 le02 le24
    unfold qh1
    cases hk : getK L k with
    | none =>
      simp -implicitDefEqProofs only [zA,Nat.reduceEqDiff,Option.isSome]
      exact ⟨le04, _, rfl, Ow.nil _ _ _⟩
    | some key =>
      obtain rfl := wk key hk
      obtain ⟨x, hx, ek, -⟩ := qia hk
      have hkr := hR x hx
      rw [ek] at hkr
      have g := qa9 hg
      obtain ⟨⟨d1, d2⟩, ⟨n1, n2⟩, -, -, -, -, -, -, -⟩ := g
      obtain ⟨K, hK⟩ : ∃ K : Nat, k = K := ⟨k.toNat, by omega⟩
      obtain ⟨D, hD⟩ : ∃ D : Nat, e.dev = D := ⟨e.dev.toNat, by omega⟩
      obtain ⟨N, hN⟩ : ∃ N : Nat, e.n = N := ⟨e.n.toNat, by omega⟩
      have tK : k.toNat = K := by omega
      have tD : e.dev.toNat = D := by omega
      have tN : e.n.toNat = N := by omega
      have A4 := A.le h8 (Heap.q00 le2 le24)
      simp -implicitDefEqProofs only [zA,Nat.reduceEqDiff,Option.isSome,A4.all]
      refine (qwa E H4 e h8 o.con o.fld o.n1 o.n2).mono ?_
      rintro r1 H5 ⟨le5, ow5⟩
      simp -implicitDefEqProofs only [zA,Nat.reduceEqDiff]
      refine (qt7 E H5 _ (by omega) ow5.sl).mono ?_
      rintro r2 H6 ⟨le6, r', rfl, ow6⟩
      have ep : putG e = putE e := by unfold putG; rw [if_pos hg]
      rw [ep] at ow6 pl
      have hp := qb9 (l := putE e) (by omega)
      have hb2 := qqa (n := (putE e).length) (by omega)
      have le46 := Heap.q00 le5 le6
      have A6 := A4.le h8 le46
      unfold qlp
      rw [tK, tD, tN, hK]
      simp -implicitDefEqProofs only [zA,Nat.reduceEqDiff,Int.reduceBNe]
      unfold qh0
      have dot6 : ∀ G, EdAt G b e → q05 G ⟨b, 0, none⟩ 2 = some (dotC D N) := fun G a => by
        rw [q0l a.own (by omega)]
        simp only [edC, List.drop_zero, List.take_succ_cons, List.take_zero, hD, hN, dotC]
      have d6 := dot6 H6 A6
      simp -implicitDefEqProofs only [zA,Nat.reduceEqDiff,d6]
      refine (qmy E H6 K D N (by omega) (by omega) (by omega)).mono ?_
      rintro r3 H7 ⟨le7, ow7⟩
      have ll := qo2 (a := K) (d := D) (n := N) (by omega) (by omega) (by omega)
      have A7 := A6.le h8 le7
      have aD := A7.dev
      have aN := A7.n
      rw [hD] at aD
      rw [hN] at aN
      simp -implicitDefEqProofs only [zA,Nat.reduceEqDiff,aD,aN]
      refine (qlh E H7 D N (by omega) (by omega)).mono ?_
      rintro r4 H8 ⟨le8', rfl⟩
      have cw : ∀ G, H4.le G → q05 G ⟨b8, 0, none⟩ 32 = some (W.map u8V) := fun G x => by
        rw [q0l (x _ _ q8) (by simp [wl])]; simp [List.take_of_length_le, wl]
      have cw7 := cw H7 (Heap.q00 le46 le7)
      have cw8 := cw H8 (Heap.q00 le46 (Heap.q00 le7 le8'))
      simp -implicitDefEqProofs only [zA,Nat.reduceEqDiff,cw7,cw8,implies_true,List.mem_cons,List.not_mem_nil,or_false,forall_eq]
      refine (qvr E H8 W (q4g D N) (padF (putE e)) (labW K D N) wl (qcr _ _) (by omega) (by omega) (ow6.sl.le (Heap.q00 le7 le8')) (ow7.sl.le le8')).mono ?_
      rintro r5 H9 ⟨le9, r5', rfl, ow9⟩
      have sl' := qge W (q4g D N) (padF (putE e)) (labW K D N)
      simp -implicitDefEqProofs only [zA,Nat.reduceEqDiff]
      unfold qgz
      simp -implicitDefEqProofs only [zA,Nat.reduceEqDiff,Int.reduceBNe]
      refine (qmx E H9 _ _ (by omega) (by omega) (ow7.sl.le (Heap.q00 le8' le9)) ow9.sl).mono ?_
      rintro r6 H10 ⟨le10, ow10⟩
      simp -implicitDefEqProofs only [zA,Nat.reduceEqDiff]
      have leA := Heap.q00 le04 (Heap.q00 le46 (Heap.q00 le7 (Heap.q00 le8' le9)))
      exact ⟨Heap.q00 leA le10, _, rfl, ow10.since leA⟩
def Kp (b : Nat) (H H' : Heap) : Prop := ∀ c x, c ≠ b → H c = some x → H' c = some x
theorem Kp.refl (b : Nat) (H : Heap) : Kp b H H := fun _ _ _ h => h
theorem Kp.of {b : Nat} {H H' : Heap} (le : H.le H') : Kp b H H' := fun c x _ h => le c x h
theorem Kp.trans {b : Nat} {H H' H'' : Heap} (x : Kp b H H') (y : Kp b H' H'') : Kp b H H'' := fun c z n h => y c z n (x c z n h)
theorem Kp.set (b : Nat) (H : Heap) (X : Blk) : Kp b H (H.set b X) := fun c x n h => by rw [Heap.q0d n]; exact h
theorem Ow.kp {h0 H H' : Heap} {b size : Nat} {v : Value} {n : Nat} {cells : List Value} (s : Ow h0 H size v n cells) (k : Kp b H H') (hb : h0 b ≠ none) : Ow h0 H' size v n cells := by
  rcases s with s | ⟨b', o, c, sz, st, pre, rest, h1, h2, h3, h4, h5⟩
  · exact .inl s
  · exact .inr ⟨b', o, c, sz, st, pre, rest, h1, h2, h3, k _ _ (by intro e; subst e; exact hb h3) h4, h5⟩
def RdR (h0 H : Heap) (b : Nat) (s : RS) : Prop := h0.le H ∧ h0 b = none ∧ ∃ v, H b = some (.own 0 [v, .bool s.isNone] 2) ∧ SlB h0 v (s.getD [])
theorem RdR.le {h0 H H' : Heap} {b : Nat} {s : RS} (R : RdR h0 H b s) (le : H.le H') : RdR h0 H' b s := by
  obtain ⟨a, c, v, q, sl⟩ := R
  exact ⟨Heap.q00 a le, c, v, le _ _ q, sl⟩
theorem RdR.put {h0 H : Heap} {b : Nat} {s : RS} (R : RdR h0 H b s) (s' : RS) {v : Value} (sl : SlB h0 v (s'.getD [])) : RdR h0 (H.set b (.own 0 [v, .bool s'.isNone] 2)) b s' := by
  obtain ⟨a, c, v0, q, -⟩ := R
  exact ⟨Heap.q02 a c _, c, v, Heap.q01 _ _ _, sl⟩
theorem RdR.ne {h0 H : Heap} {b : Nat} {s : RS} (R : RdR h0 H b s) : H b ≠ none := by
  obtain ⟨a, c, v0, q, -⟩ := R
  rw [q]; simp
def newH (h h1 : Heap) : Heap := fun c => if h c = none then h1 c else none
theorem quw (h h1 : Heap) : (newH h h1).le h1 := fun c x e => by
  unfold newH at e
  split at e
  · exact e
  · cases e
theorem Ow.newH {h h1 : Heap} {size : Nat} {v : Value} {n : Nat} {cells : List Value} (s : Ow h h1 size v n cells) : Sl (newH h h1) size v n cells := by
  have : Ow h (Bb.newH h h1) size v n cells := by
    rcases s with s | ⟨b, o, c, sz, st, pre, rest, h1, h2, h3, h4, h5⟩
    · exact .inl s
    · refine .inr ⟨b, o, c, sz, st, pre, rest, h1, h2, h3, ?_, h5⟩
      unfold Bb.newH
      rw [if_pos h3]
      exact h4
  exact this.sl
theorem qod (E : EnvT tab) (h : Heap) {v : Value} (l : List UInt8) (hl : l.length ≤ 100000000) (s : SlB h v l) :
    ACallN E.toEnv quy [v] h fun r h' => ∃ b, r = .pointer (some ⟨b, 0, none⟩) ∧ h b = none ∧ h.le h' ∧ ∃ h0, (∀ c, h c ≠ none → h0 c = none) ∧ RdR h0 h' b (some l) := by
  refine q0o qjr qdl rfl rfl (q03 ?_)
  unfold qdl
  simp -implicitDefEqProofs only [zA,reduceCtorEq]
  refine (qcq E h l (by omega) s).mono ?_
  rintro r h1 ⟨le1, ow⟩
  obtain ⟨rb, rc, rfl⟩ := Sl.shape ow.sl
  simp -implicitDefEqProofs only [zA,reduceCtorEq,Nat.reduceEqDiff,Nat.reduceAdd,Nat.reduceLeDiff]
  intro b hb
  try simp -implicitDefEqProofs only [zA,reduceIte,reduceCtorEq,Nat.reduceEqDiff,Nat.reduceAdd,Nat.reduceMul,Nat.reduceLT,Nat.reduceSub,Int.reduceLT,Int.reduceLE,Int.reduceEq,Int.reduceNe,Int.reduceSub,Int.reduceAdd,Int.reduceMul,Int.reduceBEq,Int.reduceBNe,Int.reduceGT,Int.reduceGE,Nat.reduceGT,Int.reduceToNat,Int.reduceNeg,Nat.reduceLeDiff,Nat.reduceBEq,Nat.reduceBneDiff]
  refine ⟨b, rfl, Heap.q08 le1 hb, Heap.q1c le1 hb _, newH h h1, ?_, Heap.q02 (quw h h1) (Heap.q08 (quw h h1) hb) _, Heap.q08 (quw h h1) hb, _, Heap.q01 _ _ _, ow.newH⟩
  intro c hc
  unfold newH
  rw [if_neg hc]
theorem qct (E : EnvT tab) {h0 H : Heap} {b : Nat} {s : RS} (R : RdR h0 H b s) :
    ACallN E.toEnv qkr [.pointer (some ⟨b, 0, none⟩)] H fun r h' => r = .int .i64 0 ∧ RdR h0 h' b none ∧ Kp b H h' := by
  obtain ⟨a, c, v, q, sl⟩ := R
  refine q0o q9w q4q rfl rfl (q03 ?_)
  unfold q4q
  have st : q0a H 1 (.pointer (some ⟨b, 0, none⟩)) (.slice none 0 0) = some (H.set b (.own 0 [.slice none 0 0, .bool s.isNone] 2)) := q0q q rfl (by simp) (by simp)
  have q2 : (H.set b (.own 0 [.slice none 0 0, .bool s.isNone] 2)) b = some (.own 0 [.slice none 0 0, .bool s.isNone] 2) := Heap.q01 _ _ _
  have st2 : q0a (H.set b (.own 0 [.slice none 0 0, .bool s.isNone] 2)) 1 (.pointer (some ⟨b, 1, none⟩)) (.bool true) = some ((H.set b (.own 0 [.slice none 0 0, .bool s.isNone] 2)).set b (.own 0 [.slice none 0 0, .bool true] 2)) := q0q q2 rfl (by simp) (by simp)
  simp -implicitDefEqProofs only [zA,reduceCtorEq,Nat.reduceEqDiff,st,st2]
  exact ⟨⟨Heap.q02 a c _, c, .slice none 0 0, Heap.q01 _ _ _, .inl ⟨rfl, rfl, rfl⟩⟩, Kp.set _ _ _⟩
theorem qwx (E : EnvT tab) {h0 H : Heap} {b : Nat} {s : RS} (R : RdR h0 H b s) :
    ACallN E.toEnv qm8 [.pointer (some ⟨b, 0, none⟩)] H fun r h' => h' = H ∧ r = .bool s.isNone := by
  obtain ⟨a, c, v, q, sl⟩ := R
  refine q0o qav q5x rfl rfl (q03 ?_)
  unfold q5x
  have c1 : q0x H ⟨b, 1, none⟩ = some (.bool s.isNone) := by rw [q0k q (by simp)]; rfl
  simp -implicitDefEqProofs only [zA,reduceCtorEq,Nat.reduceEqDiff,c1]
def endS (s : RS) : Bool := decide (s = some [])
theorem qqc (E : EnvT tab) {h0 H : Heap} {b : Nat} {s : RS} (R : RdR h0 H b s) :
    ACallN E.toEnv qm7 [.pointer (some ⟨b, 0, none⟩)] H fun r h' => h' = H ∧ r = .bool (endS s) := by
  obtain ⟨a, c, v, q, sl⟩ := R
  refine q0o qau q5w rfl rfl (q03 ?_)
  unfold q5w
  have c1 : q0x H ⟨b, 1, none⟩ = some (.bool s.isNone) := by rw [q0k q (by simp)]; rfl
  have c0 : q0x H ⟨b, 0, none⟩ = some v := by rw [q0k q (by simp)]; rfl
  cases s with
  | none =>
    have e : endS none = false := rfl
    rw [e]
    simp -implicitDefEqProofs only [zA,reduceCtorEq,Nat.reduceEqDiff,c1,Option.isNone]
  | some l =>
    obtain ⟨vb, vc, rfl⟩ := Sl.shape sl
    simp only [Option.getD_some] at c0 sl
    by_cases g : l = []
    · subst g
      have e : endS (some []) = true := rfl
      rw [e]
      simp -implicitDefEqProofs only [zA,reduceCtorEq,Nat.reduceEqDiff,Int.reduceBEq,c1,c0,Option.isNone]
    · have e : endS (some l) = false := by simp [endS, g]
      have hl : ((l.length : Int) == 0) = false := by
        have := List.length_pos_iff.2 g
        rw [beq_eq_false_iff_ne]
        omega
      rw [e]
      simp -implicitDefEqProofs only [zA,reduceCtorEq,Nat.reduceEqDiff,c1,c0,Option.isNone,hl]
theorem que (E : EnvT tab) {h0 H : Heap} {b : Nat} {s : RS} (R : RdR h0 H b s) (n : Nat) (hn : n ≤ 100000000) (hs : s = none → n = 0) :
    ACallN E.toEnv qkq [.pointer (some ⟨b, 0, none⟩), .int .i64 n] H fun r h' => OwB H h' r (qd7 n s).1 ∧ RdR h0 h' b (qd7 n s).2 ∧ Kp b H h' := by
  have R0 := R
  have ne := R.ne
  obtain ⟨a, c, v, q, sl⟩ := R
  obtain ⟨vb, vc, rfl⟩ := Sl.shape sl
  refine q0o q9v q4p rfl rfl (q03 ?_)
  unfold q4p
  have c0 : q0x H ⟨b, 0, none⟩ = some (.slice vb (s.getD []).length vc) := by rw [q0k q (by simp)]; rfl
  by_cases g : ((s.getD []).length : Int) < n
  · have g' : (s.getD []).length < n := by omega
    have e : qd7 n s = ([], none) := by
      cases s with
      | none => rfl
      | some l => simp only [qd7]; rw [if_neg]; simp at g'; omega
    rw [e]
    simp -implicitDefEqProofs only [zA,reduceCtorEq,Nat.reduceEqDiff,Nat.reduceAdd,c0,g]
    refine (qct E R0).mono ?_
    rintro r H1 ⟨rfl, R1, k1⟩
    simp -implicitDefEqProofs only [zA]
    exact ⟨Ow.nil _ _ _, R1, k1⟩
  · have g' : n ≤ (s.getD []).length := by omega
    have e : qd7 n s = ((s.getD []).take n, s.map (·.drop n)) := by
      cases s with
      | none => have := hs rfl
                subst this; rfl
      | some l => simp only [qd7]; rw [if_pos (by simpa using g')]; rfl
    rw [e]
    have hc : (s.getD []).length ≤ vc := by
      rcases sl with ⟨e, hn, _⟩ | ⟨a', c', e, hc, _⟩
      · omega
      · simp only [Value.slice.injEq] at e
        omega
    simp -implicitDefEqProofs only [zA,reduceCtorEq,Nat.reduceEqDiff,Nat.reduceAdd,c0,g]
    unfold qaf
    have e3 : (0 : Int) ≤ n := by omega
    simp -implicitDefEqProofs only [zA,reduceCtorEq,Nat.reduceEqDiff,c0,q5t e3 (show (n : Int) ≤ vc by omega)]
    have s1 := Sl.qwu sl (a := 0) (b := n) (by omega) g'
    have s2 := Sl.qwu sl (a := n) (b := (s.getD []).length) g' (Nat.le_refl _)
    have l1 : (((s.getD []).drop 0).take (n - 0)).length ≤ 140737488355328 := by rw [List.length_take]; omega
    rw [Int.toNat_natCast]
    refine (qcq E H _ l1 (s1.le a)).mono ?_
    rintro r H1 ⟨le1, ow⟩
    rw [List.drop_zero, Nat.sub_zero] at ow
    rw [List.take_of_length_le (by rw [List.length_drop]; omega)] at s2
    have c01 : q0x H1 ⟨b, 0, none⟩ = some (.slice vb (s.getD []).length vc) := by rw [q0k (le1 _ _ q) (by simp)]; rfl
    have b1 := qb4 (c := vc) (k := .i64) e3 (show (n : Int) ≤ ((s.getD []).length : Nat) by omega)
    have hs' : (s.map (·.drop n)).getD [] = (s.getD []).drop n := by cases s <;> simp
    have hi' : (s.map (·.drop n)).isNone = s.isNone := by cases s <;> rfl
    simp -implicitDefEqProofs only [zA,reduceCtorEq,Nat.reduceEqDiff,c01,b1,Int.toNat_natCast]
    generalize hv : (if vc = n then vb else vb.map fun x => x.add n) = v1 at s2 ⊢
    have R1 : RdR h0 H1 b s := R0.le le1
    have st : q0a H1 1 (.pointer (some ⟨b, 0, none⟩)) (.slice v1 ((s.getD []).length - n) (vc - n)) = some (H1.set b (.own 0 [.slice v1 ((s.getD []).length - n) (vc - n), .bool s.isNone] 2)) := q0q (le1 _ _ q) rfl (by simp) (by simp)
    simp -implicitDefEqProofs only [zA,reduceCtorEq,Nat.reduceEqDiff,st]
    have k1 : Kp b H1 (H1.set b (.own 0 [.slice v1 ((s.getD []).length - n) (vc - n), .bool s.isNone] 2)) := Kp.set _ _ _
    refine ⟨Ow.kp ow k1 ne, ?_, (Kp.of le1).trans k1⟩
    have := R1.put (s.map (·.drop n)) (v := .slice v1 ((s.getD []).length - n) (vc - n)) (by rw [hs']; exact s2)
    rw [hi'] at this
    exact this
theorem and127 : ∀ x : Fin 256, (BitVec.ofNat 8 x.val &&& ~~~(128#8)).toNat = x.val % 128 := by decide
theorem and128 : ∀ x : Fin 256, (BitVec.ofNat 8 x.val &&& 128#8).toNat = if 128 ≤ x.val then 128 else 0 := by decide
theorem u8_7 (x : UInt8) : IntKind.u8.wrap (((BitVec.ofInt IntKind.u8.bits (x.toNat : Int) &&& ~~~BitVec.ofInt IntKind.u8.bits 128).toNat : Nat) : Int) = ((x.toNat % 128 : Nat) : Int) := by
  have e : BitVec.ofInt IntKind.u8.bits (x.toNat : Int) = BitVec.ofNat 8 x.toNat := by rw [BitVec.ofInt_natCast]; rfl
  have e2 : BitVec.ofInt IntKind.u8.bits 128 = 128#8 := rfl
  have h := and127 ⟨x.toNat, x.toNat_lt⟩
  simp only at h
  rw [e, e2, qis]
  show (((BitVec.ofNat 8 x.toNat &&& ~~~(128#8)).toNat % 256 : Nat) : Int) = _
  rw [h]
  omega
theorem u8_8 (x : UInt8) : IntKind.u8.wrap (((BitVec.ofInt IntKind.u8.bits (x.toNat : Int) &&& BitVec.ofInt IntKind.u8.bits 128).toNat : Nat) : Int) = if 128 ≤ x.toNat then 128 else 0 := by
  have e : BitVec.ofInt IntKind.u8.bits (x.toNat : Int) = BitVec.ofNat 8 x.toNat := by rw [BitVec.ofInt_natCast]; rfl
  have e2 : BitVec.ofInt IntKind.u8.bits 128 = 128#8 := rfl
  have h := and128 ⟨x.toNat, x.toNat_lt⟩
  simp only at h
  rw [e, e2, qis]
  show (((BitVec.ofNat 8 x.toNat &&& 128#8).toNat % 256 : Nat) : Int) = _
  rw [h]
  split <;> rfl
theorem or_add (V c k : Nat) (hV : V < 2 ^ k) (hs : V + c * 2 ^ k < 9223372036854775808) : IntKind.i64.wrap (((BitVec.ofInt IntKind.i64.bits (V : Int) ||| BitVec.ofInt IntKind.i64.bits ((c * 2 ^ k : Nat) : Int)).toNat : Nat) : Int) = ((V + c * 2 ^ k : Nat) : Int) := by
  have e1 : BitVec.ofInt IntKind.i64.bits (V : Int) = BitVec.ofNat 64 V := by rw [BitVec.ofInt_natCast]; rfl
  have e2 : BitVec.ofInt IntKind.i64.bits ((c * 2 ^ k : Nat) : Int) = BitVec.ofNat 64 (c * 2 ^ k) := by rw [BitVec.ofInt_natCast]; rfl
  rw [e1, e2]
  show IntKind.i64.wrap (((BitVec.ofNat 64 V ||| BitVec.ofNat 64 (c * 2 ^ k)).toNat : Nat) : Int) = _
  have h := Nat.two_pow_add_eq_or_of_lt hV c
  have e3 : (BitVec.ofNat 64 V ||| BitVec.ofNat 64 (c * 2 ^ k)).toNat = V + c * 2 ^ k := by
    rw [BitVec.toNat_or, BitVec.toNat_ofNat, BitVec.toNat_ofNat, Nat.mod_eq_of_lt (by omega), Nat.mod_eq_of_lt (by omega), Nat.or_comm, Nat.mul_comm c, ← h, Nat.add_comm]
  rw [e3, q0w (by omega) (by omega)]
theorem qz6 {i : Nat} (h : i < 9) : 128 ^ i ≤ 72057594037927936 := by
  have : 128 ^ i ≤ 128 ^ 8 := Nat.pow_le_pow_right (by omega) (by omega)
  simpa using this
theorem q4m (E : EnvT tab) {h0 H : Heap} {b : Nat} {s : RS} (R : RdR h0 H b s) (lim : Nat) (hlim : lim < 9223372036854775808) (hlen : (s.getD []).length ≤ 100000000) :
    ACallN E.toEnv qm6 [.pointer (some ⟨b, 0, none⟩), .int .i64 lim] H fun r h' => r = .int .i64 (numS lim s).1 ∧ RdR h0 h' b (numS lim s).2 ∧ Kp b H h' := by
  have R0 := R
  obtain ⟨a, c, v, q, sl⟩ := R
  obtain ⟨vb, vc, rfl⟩ := Sl.shape sl
  refine q0o qat q5v rfl rfl (q03 ?_)
  unfold q5v
  have hc : (s.getD []).length ≤ vc := by
    rcases sl with ⟨e, hn, _⟩ | ⟨a', c', e, hc, _⟩
    · omega
    · simp only [Value.slice.injEq] at e
      omega
  have c0 : q0x H ⟨b, 0, none⟩ = some (.slice vb (s.getD []).length vc) := by rw [q0k q (by simp)]; rfl
  obtain ⟨n, hn⟩ : ∃ n : Nat, n = min (s.getD []).length 9 := ⟨_, rfl⟩
  have mn : (if (9 : Int) < ((s.getD []).length : Int) then (9 : Int) else ((s.getD []).length : Int)) = (n : Int) := by split <;> omega
  have e3 : (0 : Int) ≤ n := by omega
  have s1 := Sl.qwu sl (a := 0) (b := n) (by omega) (by omega)
  rw [List.drop_zero, Nat.sub_zero, Nat.sub_zero] at s1
  simp -implicitDefEqProofs only [zA,reduceCtorEq,Nat.reduceEqDiff,Nat.reduceAdd,c0,mn,q5t e3 (show (n : Int) ≤ vc by omega),Int.toNat_natCast,Nat.sub_zero]
  unfold qbl
  generalize (if vc = 0 then vb else vb.map fun x => x.add 0) = v18 at s1 ⊢
  have tl' : ((s.getD []).take n).length = n := by rw [List.length_take]; omega
  have fin : numS lim s = match rdF lim 9 0 0 (s.getD []) with | none => (0, none) | some (n, r) => (n, some r) := by
    cases s with
    | none => rfl
    | some l => rfl
  generalize hl : s.getD [] = l at *
  refine q0c (fun m t G => G = H ∧ ∃ (i V : Nat), t = tl [(0, .pointer (some ⟨b, 0, none⟩)), (1, .int .i64 lim), (5, .int .i64 V), (18, .slice v18 n vc), (19, .int .i64 n), (20, .int .i64 i)] ∧ i ≤ n ∧ m = n - i ∧ V < 128 ^ i ∧ rdF lim 9 0 0 l = rdF lim (9 - i) i V (l.drop i)) n
    ⟨rfl, 0, 0, rfl, by omega, by omega, by omega, rfl⟩ ?_
  rintro m t G ⟨rfl, i, V, rfl, hi, rfl, hV, he⟩
  by_cases hlt : i < n
  · have hi1 : (i : Int) < n := by omega
    have hi2 : (0 : Int) ≤ i := by omega
    obtain ⟨bb, o, cc, hv, hcc, hb⟩ := Sl.q7x s1 i (by omega)
    rw [tl'] at hv
    simp only [Value.slice.injEq, true_and] at hv
    obtain ⟨rfl, rfl⟩ := hv
    have hb := hb G a
    have ex : ((l.take n)[i]'(by omega)) = l[i]'(by omega) := by rw [List.getElem_take]
    rw [ex] at hb
    generalize hx : l[i]'(by omega) = x at hb
    unfold u8V at hb
    have hx8 := x.toNat_lt
    have hp := qz6 (i := i) (by omega)
    have p2 : 128 ^ i = 2 ^ (7 * i) := by rw [Nat.pow_mul]
    have hm : x.toNat % 128 < 128 := Nat.mod_lt _ (by omega)
    have hm2 : x.toNat % 128 * 128 ^ i ≤ 127 * 128 ^ i := Nat.mul_le_mul_right _ (by omega)
    have w7 : IntKind.i64.wrap (7 * (i : Int)) = ((7 * i : Nat) : Int) := by rw [q0w (by omega) (by omega)]; omega
    have n7 : ¬ (((7 * i : Nat) : Int) < 0) := by omega
    have m7 : min (7 * i) IntKind.i64.bits = 7 * i := by (have : IntKind.i64.bits = 64 := rfl); (omega)
    have wc : IntKind.i64.wrap ((x.toNat % 128 : Nat) : Int) = ((x.toNat % 128 : Nat) : Int) := q0w (by omega) (by omega)
    have ws : IntKind.i64.wrap (((x.toNat % 128 : Nat) : Int) * 2 ^ (7 * i)) = ((x.toNat % 128 * 2 ^ (7 * i) : Nat) : Int) := by
      have : (((x.toNat % 128 : Nat) : Int) * 2 ^ (7 * i)) = ((x.toNat % 128 * 2 ^ (7 * i) : Nat) : Int) := by simp
      rw [this, q0w (by omega) (by rw [← p2]; omega)]
    have wo := or_add V (x.toNat % 128) (7 * i) (by rw [← p2]; exact hV) (by rw [← p2]; omega)
    rw [← p2] at wo
    have ws' := ws
    rw [← p2] at ws'
    have w1 : IntKind.i64.wrap ((i : Int) + 1) = ((i + 1 : Nat) : Int) := q2k (by omega)
    have hd : l.drop i = x :: l.drop (i + 1) := by rw [List.drop_eq_getElem_cons (by omega), hx]
    have h9 : 9 - i = (8 - i) + 1 := by omega
    rw [hd, h9, rdF] at he
    have hw : V + x.toNat % 128 * 128 ^ i < 128 ^ (i + 1) := by rw [Nat.pow_succ]; omega
    simp -implicitDefEqProofs only [zA,reduceCtorEq,Nat.reduceEqDiff,hi1,hi2,Int.toNat_natCast,hb,u8_7,w7,n7,m7,wc,ws',wo]
    unfold qbk
    by_cases g1 : 128 ≤ x.toNat
    · rw [if_pos g1] at he
      simp -implicitDefEqProofs only [zA,reduceCtorEq,Nat.reduceEqDiff,Int.reduceBNe,u8_8,g1,w1]
      refine ⟨n - (i + 1), by omega, i + 1, _, rfl, by omega, rfl, hw, ?_⟩
      have e9 : 9 - (i + 1) = 8 - i := by omega
      rw [e9]; exact he
    · rw [if_neg g1] at he
      have x7 : x.toNat % 128 = x.toNat := Nat.mod_eq_of_lt (by omega)
      generalize hW : V + x.toNat % 128 * 128 ^ i = W at *
      have mx : (if (lim : Int) < 0 then (0 : Int) else (lim : Int)) = (lim : Int) := if_neg (by omega)
      by_cases g2 : 0 < i ∧ x.toNat = 0
      · rw [if_pos (.inl g2)] at he
        obtain ⟨g3, g4⟩ := g2
        have g3' : (0 : Int) < i := by omega
        have z8 : IntKind.u8.wrap (((BitVec.ofInt IntKind.u8.bits 0 &&& BitVec.ofInt IntKind.u8.bits 128).toNat : Nat) : Int) = 0 := by decide
        simp -implicitDefEqProofs only [zA,reduceCtorEq,Nat.reduceEqDiff,Int.reduceBEq,Int.reduceBNe,z8,g3',g4]
        refine (qct E R0).mono ?_
        rintro r H1 ⟨rfl, R1, k1⟩
        rw [fin, he]
        simp -implicitDefEqProofs only [zA,reduceCtorEq,Nat.reduceEqDiff]
        exact ⟨R1, k1⟩
      · have g2' : ¬ ((0 : Int) < i ∧ (x.toNat : Int) = 0) := by omega
        by_cases g5 : lim < W
        · rw [if_pos (.inr g5)] at he
          have g5' : (lim : Int) < W := by omega
          by_cases g3 : (0 : Int) < i
          · have g4 : ¬ (x.toNat : Int) = 0 := by omega
            simp -implicitDefEqProofs only [zA,reduceCtorEq,Nat.reduceEqDiff,Int.reduceBNe,u8_8,g1,g3,g4,mx,g5']
            refine (qct E R0).mono ?_
            rintro r H1 ⟨rfl, R1, k1⟩
            rw [fin, he]
            simp -implicitDefEqProofs only [zA,reduceCtorEq,Nat.reduceEqDiff]
            exact ⟨R1, k1⟩
          · simp -implicitDefEqProofs only [zA,reduceCtorEq,Nat.reduceEqDiff,Int.reduceBNe,u8_8,g1,g3,mx,g5']
            refine (qct E R0).mono ?_
            rintro r H1 ⟨rfl, R1, k1⟩
            rw [fin, he]
            simp -implicitDefEqProofs only [zA,reduceCtorEq,Nat.reduceEqDiff]
            exact ⟨R1, k1⟩
        · rw [if_neg (show ¬ ((0 < i ∧ x.toNat = 0) ∨ lim < W) from fun h => h.elim g2 g5)] at he
          have g5' : ¬ (lim : Int) < W := by omega
          have hs : s = some l := by
            cases s with
            | none => have : l.length = 0 := by rw [← hl]; rfl
                      omega
            | some l' => simp only [Option.getD_some] at hl
                         subst hl; rfl
          subst hs
          have s2 := Sl.qwu sl (a := i + 1) (b := l.length) (by omega) (Nat.le_refl _)
          rw [List.take_of_length_le (by rw [List.length_drop]; omega)] at s2
          have e4 : (0 : Int) ≤ ((i + 1 : Nat) : Int) := by omega
          have b1 := qb4 (c := vc) (k := .i64) e4 (show ((i + 1 : Nat) : Int) ≤ (l.length : Nat) by omega)
          by_cases g3 : (0 : Int) < i
          · have g4 : ¬ (x.toNat : Int) = 0 := by omega
            simp -implicitDefEqProofs only [zA,reduceCtorEq,Nat.reduceEqDiff,Int.reduceBNe,u8_8,g1,g3,g4,mx,g5']
            unfold q6f
            simp -implicitDefEqProofs only [zA,reduceCtorEq,Nat.reduceEqDiff,c0,w1,b1,Int.toNat_natCast]
            generalize (if vc = i + 1 then vb else vb.map fun x => x.add (i + 1)) = v1 at s2 ⊢
            have st : q0a G 1 (.pointer (some ⟨b, 0, none⟩)) (.slice v1 (l.length - (i + 1)) (vc - (i + 1))) = some (G.set b (.own 0 [.slice v1 (l.length - (i + 1)) (vc - (i + 1)), .bool false] 2)) := q0q q rfl (by simp) (by simp)
            simp -implicitDefEqProofs only [zA,reduceCtorEq,Nat.reduceEqDiff,st]
            rw [fin, he]
            refine ⟨rfl, ?_, Kp.set _ _ _⟩
            exact R0.put (some (l.drop (i + 1))) (v := .slice v1 (l.length - (i + 1)) (vc - (i + 1))) s2
          · simp -implicitDefEqProofs only [zA,reduceCtorEq,Nat.reduceEqDiff,Int.reduceBNe,u8_8,g1,g3,mx,g5']
            unfold q6f
            simp -implicitDefEqProofs only [zA,reduceCtorEq,Nat.reduceEqDiff,c0,w1,b1,Int.toNat_natCast]
            generalize (if vc = i + 1 then vb else vb.map fun x => x.add (i + 1)) = v1 at s2 ⊢
            have st : q0a G 1 (.pointer (some ⟨b, 0, none⟩)) (.slice v1 (l.length - (i + 1)) (vc - (i + 1))) = some (G.set b (.own 0 [.slice v1 (l.length - (i + 1)) (vc - (i + 1)), .bool false] 2)) := q0q q rfl (by simp) (by simp)
            simp -implicitDefEqProofs only [zA,reduceCtorEq,Nat.reduceEqDiff,st]
            rw [fin, he]
            refine ⟨rfl, ?_, Kp.set _ _ _⟩
            exact R0.put (some (l.drop (i + 1))) (v := .slice v1 (l.length - (i + 1)) (vc - (i + 1))) s2
  · have e : i = n := by omega
    subst e
    have he2 : rdF lim 9 0 0 l = none := by
      rw [he]
      by_cases h9 : i = 9
      · subst h9; rfl
      · have : l.drop i = [] := List.drop_eq_nil_of_le (by omega)
        rw [this]
        obtain ⟨k, hk⟩ : ∃ k, 9 - i = k + 1 := ⟨8 - i, by omega⟩
        rw [hk]; rfl
    have hi1 : ¬ (i : Int) < i := by omega
    simp -implicitDefEqProofs only [zA,reduceCtorEq,Nat.reduceEqDiff,hi1]
    refine (qct E R0).mono ?_
    rintro r H1 ⟨rfl, R1, k1⟩
    rw [fin, he2]
    simp -implicitDefEqProofs only [zA,reduceCtorEq,Nat.reduceEqDiff]
    exact ⟨R1, k1⟩
theorem qza {lim : Nat} {s : RS} (h : (numS lim s).2 = none) : (numS lim s).1 = 0 := by
  unfold numS at h ⊢
  split
  · rfl
  · split
    · rfl
    · rename_i e
      simp only [e] at h
      cases h
theorem qfs (s : RS) : (s.getD []).length = s.len := by cases s <;> rfl
theorem qka (E : EnvT tab) {h0 H : Heap} {b : Nat} {s : RS} (R : RdR h0 H b s) (lim : Nat) (hlim : lim ≤ 100000000) (hlen : s.len ≤ 100000000) :
    ACallN E.toEnv qje [.pointer (some ⟨b, 0, none⟩), .int .i64 lim] H fun r h' => OwB H h' r (q69 lim s).1 ∧ RdR h0 h' b (q69 lim s).2 ∧ Kp b H h' := by
  refine q0o q8f q3u rfl rfl (q03 ?_)
  unfold q3u
  simp -implicitDefEqProofs only [zA,reduceCtorEq,Nat.reduceEqDiff,Nat.reduceAdd]
  refine (q4m E R lim (by omega) (by rw [qfs]; exact hlen)).mono ?_
  rintro r H1 ⟨rfl, R1, k1⟩
  have hn := qgn lim s
  simp -implicitDefEqProofs only [zA,reduceCtorEq,Nat.reduceEqDiff]
  refine (que E R1 (numS lim s).1 (by omega) qza).mono ?_
  rintro r H2 ⟨ow, R2, k2⟩
  simp -implicitDefEqProofs only [zA,reduceCtorEq,Nat.reduceEqDiff]
  refine ⟨?_, R2, k1.trans k2⟩
  rcases ow with s0 | ⟨b', o, c, sz, st, pre, rest, h1, h2, h3, h4, h5⟩
  · exact .inl s0
  · refine .inr ⟨b', o, c, sz, st, pre, rest, h1, h2, ?_, h4, h5⟩
    cases hq : H b' with
    | none => rfl
    | some x =>
      by_cases e : b' = b
      · subst e; exact absurd h3 R1.ne
      · have := k1 _ _ e hq
        rw [h3] at this; cases this
theorem qgb (E : EnvT tab) {h0 H : Heap} {b : Nat} {s : RS} (R : RdR h0 H b s) (lim : Nat) (hlim : lim ≤ 100000000) (hlen : s.len ≤ 100000000) :
    ACallN E.toEnv qks [.pointer (some ⟨b, 0, none⟩), .int .i64 lim] H fun r h' => r = strV (q69 lim s).1 ∧ RdR h0 h' b (q69 lim s).2 ∧ Kp b H h' := by
  refine q0o q9x q4r rfl rfl (q03 ?_)
  unfold q4r
  simp -implicitDefEqProofs only [zA,reduceCtorEq,Nat.reduceEqDiff,Nat.reduceAdd]
  refine (qka E R lim hlim hlen).mono ?_
  rintro r H1 ⟨ow, R1, k1⟩
  have f1 := q7y ow.sl
  simp -implicitDefEqProofs only [zA,reduceCtorEq,Nat.reduceEqDiff,f1]
  exact ⟨R1, k1⟩
theorem qm5 (lim : Nat) : ∀ k s, q4o lim (k + 1) s = ((q4o lim k s).1 ++ [((numS lim (q4o lim k s).2).1 : Int)], (numS lim (q4o lim k s).2).2)
  | 0, s => rfl
  | k + 1, s => by
      have h := qm5 lim k (numS lim s).2
      rw [q4o, h]
      simp only [q4o, List.cons_append]
theorem RdR.other {h0 G : Heap} {b b3 : Nat} {s : RS} (R : RdR h0 G b s) (hn : h0 b3 = none) (ne : b3 ≠ b) (X : Blk) : RdR h0 (G.set b3 X) b s := by
  obtain ⟨a, c, v, q, sl⟩ := R
  exact ⟨Heap.q02 a hn _, c, v, by rw [Heap.q0d ne.symm]; exact q, sl⟩
theorem Kp.other {b b3 : Nat} {H G : Heap} (k : Kp b H G) (hn : H b3 = none) (X : Blk) : Kp b H (G.set b3 X) := fun c x ne h => by
  rw [Heap.q0d (by intro e; subst e; rw [hn] at h; cases h)]
  exact k c x ne h
theorem qsl (L : List Int) (i : Nat) (hi : L.length = i) (h8 : i < 8) (x : Int) : (L.map (Value.int .i64) ++ List.replicate (8 - i) (Value.int .i64 0)).set i (.int .i64 x) = (L ++ [x]).map (Value.int .i64) ++ List.replicate (8 - (i + 1)) (Value.int .i64 0) := by
  subst hi
  rw [List.set_append_right _ _ (by simp)]
  simp only [List.length_map, Nat.sub_self]
  obtain ⟨k, hk⟩ : ∃ k, 8 - L.length = k + 1 := ⟨7 - L.length, by omega⟩
  rw [hk, List.replicate_succ, List.set_cons_zero]
  have : 8 - (L.length + 1) = k := by omega
  rw [this]; simp
theorem qxy (E : EnvT tab) {h0 H : Heap} {b : Nat} {s : RS} (R : RdR h0 H b s) (hlen : s.len ≤ 100000000) :
    ACallN E.toEnv qze [.pointer (some ⟨b, 0, none⟩)] H fun r h' => r = .agg ((vecS s).1.map (.int .i64)).toArray ∧ RdR h0 h' b (vecS s).2 ∧ Kp b H h' := by
  have ne := R.ne
  have leH := R.1
  refine q0o qp9 qi4 rfl rfl (q03 ?_)
  unfold qi4
  simp -implicitDefEqProofs only [zA,reduceCtorEq,Nat.reduceEqDiff]
  intro b2 hb2
  try simp -implicitDefEqProofs only [zA,List.length_replicate]
  have le2 := Heap.q02 (Heap.q04 H) hb2 (.own 0 (List.replicate 8 (.int .i64 0)) 8)
  have q2 : (H.set b2 (.own 0 (List.replicate 8 (.int .i64 0)) 8)) b2 = some (.own 0 (List.replicate 8 (.int .i64 0)) 8) := Heap.q01 _ _ _
  generalize (H.set b2 (.own 0 (List.replicate 8 (.int .i64 0)) 8)) = H2 at le2 q2 ⊢
  intro b3 hb3
  try simp -implicitDefEqProofs only [zA,reduceIte,reduceCtorEq,Nat.reduceEqDiff,Nat.reduceAdd,Nat.reduceMul,Nat.reduceLT,Nat.reduceSub,Int.reduceLT,Int.reduceLE,Int.reduceEq,Int.reduceNe,Int.reduceSub,Int.reduceAdd,Int.reduceMul,Int.reduceBEq,Int.reduceBNe,Int.reduceGT,Int.reduceGE,Nat.reduceGT,Int.reduceToNat,Int.reduceNeg,Nat.reduceLeDiff,Nat.reduceBEq,Nat.reduceBneDiff,List.length_replicate]
  have le3 := Heap.q02 (Heap.q04 H2) hb3 (.own 0 (List.replicate 8 (.int .i64 0)) 8)
  have q3 : (H2.set b3 (.own 0 (List.replicate 8 (.int .i64 0)) 8)) b3 = some (.own 0 (List.replicate 8 (.int .i64 0)) 8) := Heap.q01 _ _ _
  have q2a := q2
  have q2 := le3 _ _ q2
  generalize (H2.set b3 (.own 0 (List.replicate 8 (.int .i64 0)) 8)) = H3 at le3 q2 q3 ⊢
  have le03 := Heap.q00 le2 le3
  have hb3H : H b3 = none := Heap.q08 le2 hb3
  have n2 : b2 ≠ b := by intro e; subst e; exact ne hb2
  have n3 : b3 ≠ b := by intro e; subst e; exact ne hb3H
  have z3 : h0 b3 = none := Heap.q08 leH hb3H
  have z2 : h0 b2 = none := Heap.q08 leH hb2
  have n23 : b2 ≠ b3 := by intro e; subst e; rw [q2a] at hb3; cases hb3
  refine q0c (fun m t G => ∃ (i : Nat), t = tl [(0, .pointer (some ⟨b, 0, none⟩)), (2, .pointer (some ⟨b2, 0, none⟩)), (3, .pointer (some ⟨b3, 0, none⟩)), (5, .int .i64 i)] ∧ i ≤ 8 ∧ m = 8 - i ∧ RdR h0 G b (q4o M40 i s).2 ∧ Kp b H G ∧ G b2 = some (.own 0 (List.replicate 8 (.int .i64 0)) 8) ∧ G b3 = some (.own 0 ((q4o M40 i s).1.map (Value.int .i64) ++ List.replicate (8 - i) (Value.int .i64 0)) 8)) 8
    ⟨0, rfl, by omega, by omega, R.le le03, Kp.of le03, q2, q3⟩ ?_
  rintro m t G ⟨i, rfl, hi, rfl, RG, KG, g2, g3⟩
  have hl := qko M40 i s
  have hln := qkn M40 i s
  by_cases hlt : i < 8
  · have hi1 : (i : Int) < 8 := by omega
    have hi2 : (0 : Int) ≤ i := by omega
    have w1 : IntKind.i64.wrap ((i : Int) + 1) = ((i + 1 : Nat) : Int) := q2k (by omega)
    simp -implicitDefEqProofs only [zA,reduceCtorEq,Nat.reduceEqDiff,hi1]
    refine (q4m E RG M40 (by unfold M40; omega) (by rw [qfs]; omega)).mono ?_
    rintro r G2 ⟨rfl, R2, K2⟩
    have g22 := K2 _ _ n2 g2
    have g32 := K2 _ _ n3 g3
    have st : q0a G2 1 (.pointer (some ⟨b3, i, none⟩)) (.int .i64 (numS M40 (q4o M40 i s).2).1) = some (G2.set b3 (.own 0 (((q4o M40 i s).1.map (Value.int .i64) ++ List.replicate (8 - i) (Value.int .i64 0)).set i (.int .i64 (numS M40 (q4o M40 i s).2).1)) 8)) := q0q g32 rfl (by simp [hl]; omega) (by simp [hl]; omega)
    rw [qsl _ i hl hlt] at st
    have sn := qm5 M40 i s
    simp -implicitDefEqProofs only [zA,reduceCtorEq,Nat.reduceEqDiff,hi1,hi2,Int.toNat_natCast,st,w1]
    refine ⟨7 - i, by omega, i + 1, rfl, by omega, by omega, ?_, ?_, ?_, ?_⟩
    · rw [sn]; exact R2.other z3 n3 _
    · exact Kp.other (KG.trans K2) hb3H _
    · rw [Heap.q0d n23]; exact g22
    · rw [Heap.q01, sn]
  · have e : i = 8 := by omega
    subst e
    simp -implicitDefEqProofs only [zA,reduceCtorEq,Nat.reduceEqDiff,Nat.reduceSub,Int.reduceLT]
    unfold ql9
    simp -implicitDefEqProofs only [zA,reduceCtorEq,Nat.reduceEqDiff]
    refine (qwx E RG).mono ?_
    rintro r G2 ⟨rfl, rfl⟩
    have ex : vecS s = (if (q4o M40 8 s).2.isSome then (q4o M40 8 s).1 else List.replicate 8 0, (q4o M40 8 s).2) := rfl
    rw [ex]
    simp only
    generalize (q4o M40 8 s).1 = L at *
    generalize (q4o M40 8 s).2 = s2 at *
    have rp : List.replicate (8 - 8) (Value.int .i64 0) = [] := rfl
    rw [rp, List.append_nil] at g3
    have stA : ∀ l : List Value, l.length = 8 → l.all one = true → q0a G2 8 (.pointer (some ⟨b2, 0, none⟩)) (.agg l.toArray) = some (G2.set b2 (.own 0 l 8)) := fun l hl ho => q0f g2 (by omega) hl ho (by simp) (by omega)
    have ld : ∀ l : List Value, l.length = 8 → q05 (G2.set b2 (.own 0 l 8)) ⟨b2, 0, none⟩ 8 = some l := fun l hl => z6x (by simp [hl])
    have zl : (List.replicate 8 (Value.int .i64 0)).length = 8 := by simp
    have zo : (List.replicate 8 (Value.int .i64 0)).all one = true := rfl
    have rz : (List.replicate 8 (0 : Int)).map (Value.int .i64) = List.replicate 8 (Value.int .i64 0) := rfl
    have Kf : ∀ X, Kp b H (G2.set b2 X) := fun X => Kp.other KG hb2 X
    have Rf : ∀ X, RdR h0 (G2.set b2 X) b s2 := fun X => RG.other z2 n2 X
    cases s2 with
    | none =>
      have s1 := stA _ zl zo
      have l1 := ld _ zl
      simp -implicitDefEqProofs only [zA,reduceCtorEq,Nat.reduceEqDiff,Option.isNone,s1,l1]
      exact ⟨rfl, Rf _, Kf _⟩
    | some l =>
      have c3 : q05 G2 ⟨b3, 0, none⟩ 8 = some (L.map (.int .i64)) := by rw [q0l g3 (by simp [hl])]; simp [List.take_of_length_le, hl]
      have s1 := stA (L.map (.int .i64)) (by simp [hl]) (by simp [one])
      have l1 := ld (L.map (.int .i64)) (by simp [hl])
      simp -implicitDefEqProofs only [zA,reduceCtorEq,Nat.reduceEqDiff,Option.isNone,c3,s1,l1]
      exact ⟨rfl, Rf _, Kf _⟩
theorem qak : edC ZE = List.replicate 11 (Value.int .i64 0) ++ [.string .empty, .string .empty, .string .empty, .int .i64 0] := rfl
theorem qj0 (e : Ed) (h8 : e.seen.length = 8) (i : Nat) (v : Value) : (edC e).set (i + 10) v = .int .i64 e.dev :: .int .i64 e.n :: (e.seen.map (.int .i64) ++ [Value.int .i64 e.kind, strV e.con, strV e.fld, strV e.val, .int .i64 e.time].set i v) := by
  unfold edC
  rw [List.set_cons_succ, List.set_cons_succ, List.set_append_right _ _ (by simp [h8])]
  have : i + 8 - (e.seen.map (Value.int .i64)).length = i := by simp [h8]
  rw [this]
theorem j03 (e : Ed) (h8 : e.seen.length = 8) (L : List Int) (hL : L.length = 8) : q1t (edC e) 2 (L.map (.int .i64)) = edC { e with seen := L } := by
  obtain ⟨dev, n, seen, kind, con, fld, val, time⟩ := e
  simp only at h8
  unfold q1t edC
  simp only [List.length_map, hL]
  have h1 : (Value.int IntKind.i64 dev :: Value.int IntKind.i64 n :: (seen.map (.int .i64) ++ [Value.int .i64 kind, strV con, strV fld, strV val, .int .i64 time])).drop (2 + 8) = [Value.int .i64 kind, strV con, strV fld, strV val, .int .i64 time] := by
    rw [show 2 + 8 = 8 + 1 + 1 from rfl, List.drop_succ_cons, List.drop_succ_cons, List.drop_left' (by simp [h8])]
  rw [h1]
  rfl
structure GS (H h0 G : Heap) (b b2 b5 : Nat) (s : RS) (e : Ed) : Prop where
  R : RdR h0 G b s
  q5 : G b5 = some (.own 0 (edC e) 15)
  q2 : G b2 = some (.own 0 (edC ZE) 15)
  le : H.le G
  h8 : e.seen.length = 8
  n5 : b5 ≠ b
  n2 : b2 ≠ b
  n25 : b2 ≠ b5
  z5 : h0 b5 = none
  z5H : H b5 = none
  z2H : H b2 = none
  zbH : H b = none
theorem GS.read {H h0 G G' : Heap} {b b2 b5 : Nat} {s s' : RS} {e : Ed} (S : GS H h0 G b b2 b5 s e) (R : RdR h0 G' b s') (k : Kp b G G') : GS H h0 G' b b2 b5 s' e :=
  ⟨R, k _ _ S.n5 S.q5, k _ _ S.n2 S.q2, fun c x h => k _ _ (by intro q; subst q; rw [S.zbH] at h; cases h) (S.le _ _ h), S.h8, S.n5, S.n2, S.n25, S.z5, S.z5H, S.z2H, S.zbH⟩
theorem GS.store {H h0 G : Heap} {b b2 b5 : Nat} {s : RS} {e : Ed} (S : GS H h0 G b b2 b5 s e) (e' : Ed) (h8 : e'.seen.length = 8) : GS H h0 (G.set b5 (.own 0 (edC e') 15)) b b2 b5 s e' :=
  ⟨S.R.other S.z5 S.n5 _, Heap.q01 _ _ _, by rw [Heap.q0d S.n25]; exact S.q2, fun c x h => by rw [Heap.q0d (by intro q; subst q; rw [S.z5H] at h; cases h)]; exact S.le _ _ h, h8, S.n5, S.n2, S.n25, S.z5, S.z5H, S.z2H, S.zbH⟩
theorem GS.put1 {H h0 G : Heap} {b b2 b5 : Nat} {s : RS} {e : Ed} (S : GS H h0 G b b2 b5 s e) (i : Nat) (hi : i < 15) {v : Value} (hv : one v = true) {e' : Ed} (he : (edC e).set i v = edC e') :
    q0a G 1 (.pointer (some ⟨b5, i, none⟩)) v = some (G.set b5 (.own 0 (edC e') 15)) := by
  have hl := q1a S.h8
  rw [q0q S.q5 hv (by omega) (by omega), he]
theorem GS.row {H h0 G : Heap} {b b2 b5 : Nat} {s : RS} {e : Ed} (S : GS H h0 G b b2 b5 s e) (L : List Int) (hL : L.length = 8) :
    q0a G 8 (.pointer (some ⟨b5, 2, none⟩)) (.agg (L.map (.int .i64)).toArray) = some (G.set b5 (.own 0 (edC { e with seen := L }) 15)) := by
  have hl := q1a S.h8
  have h := qf4 (h := G) (b := b5) (vs := edC e) (off := 2) (sz := 15) (size := 8) (v := .agg (L.map (.int .i64)).toArray) (us := L.map (.int .i64)) (by omega) (by simp [Value.cells]) (by simp [hL]) (by simp [Bb.one]) (by omega) (by omega)
  rw [Heap.qad S.q5, j03 e S.h8 L hL] at h
  exact h
theorem op_Get_c (E : EnvT tab) (H : Heap) {v : Value} (l : List UInt8) (hl : l.length ≤ 100000) (s : SlB H v l) :
    ACallN E.toEnv n_op_Get [v] H fun r H' => H.le H' ∧ r = .tuple #[.agg (edC ((getE 8 l).getD ZE)).toArray, .int .i64 (if (getE 8 l).isSome then 0 else 3)] := by
  refine q0o qsc qld rfl rfl (q03 ?_)
  unfold qld
  simp only [← qak]
  simp -implicitDefEqProofs only [zA,reduceCtorEq,Nat.reduceEqDiff]
  intro b2 hb2
  rw [q1a (e := ZE) rfl]
  try simp -implicitDefEqProofs only [zA,reduceIte,reduceCtorEq,Nat.reduceEqDiff,Nat.reduceAdd,Nat.reduceMul,Nat.reduceLT,Nat.reduceSub,Int.reduceLT,Int.reduceLE,Int.reduceEq,Int.reduceNe,Int.reduceSub,Int.reduceAdd,Int.reduceMul,Int.reduceBEq,Int.reduceBNe,Int.reduceGT,Int.reduceGE,Nat.reduceGT,Int.reduceToNat,Int.reduceNeg,Nat.reduceLeDiff,Nat.reduceBEq,Nat.reduceBneDiff]
  have le2 := Heap.q02 (Heap.q04 H) hb2 (.own 0 (edC ZE) 15)
  have q2 : (H.set b2 (.own 0 (edC ZE) 15)) b2 = some (.own 0 (edC ZE) 15) := Heap.q01 _ _ _
  generalize (H.set b2 (.own 0 (edC ZE) 15)) = H2 at le2 q2 ⊢
  refine (qod E H2 l (by omega) (s.le le2)).mono ?_
  rintro r H3 ⟨b, rfl, hb, le3, h0, le0, R⟩
  simp -implicitDefEqProofs only [zA,reduceCtorEq,Nat.reduceEqDiff]
  intro b5 hb5
  rw [q1a (e := ZE) rfl]
  try simp -implicitDefEqProofs only [zA,reduceIte,reduceCtorEq,Nat.reduceEqDiff,Nat.reduceAdd,Nat.reduceMul,Nat.reduceLT,Nat.reduceSub,Int.reduceLT,Int.reduceLE,Int.reduceEq,Int.reduceNe,Int.reduceSub,Int.reduceAdd,Int.reduceMul,Int.reduceBEq,Int.reduceBNe,Int.reduceGT,Int.reduceGE,Nat.reduceGT,Int.reduceToNat,Int.reduceNeg,Nat.reduceLeDiff,Nat.reduceBEq,Nat.reduceBneDiff]
  have hb5' : H2 b5 = none := Heap.q08 le3 hb5
  have S : GS H h0 (H3.set b5 (.own 0 (edC ZE) 15)) b b2 b5 (some l) ZE := by
    have n5 : b5 ≠ b := by intro e; subst e; exact R.ne hb5
    have z5 : h0 b5 = none := Heap.q08 R.1 hb5
    have n25 : b2 ≠ b5 := by intro e; subst e; rw [q2] at hb5'; cases hb5'
    refine ⟨R.other z5 n5 _, Heap.q01 _ _ _, by rw [Heap.q0d n25]; exact le3 _ _ q2, Heap.q02 (Heap.q00 le2 le3) (Heap.q08 le2 hb5') _, rfl, n5, ?_, n25, z5, Heap.q08 le2 hb5', hb2, Heap.q08 le2 hb⟩
    intro e; subst e; rw [q2] at hb; cases hb
  generalize (H3.set b5 (.own 0 (edC ZE) 15)) = G0 at S ⊢
  clear R le3 hb5 hb5' q2 le2 le0 hb hb2
  have lim40 : ((M40 : Nat) : Int) = 1099511627776 := rfl
  obtain ⟨A, hA⟩ : ∃ A, A = numS 8 (some l) := ⟨_, rfl⟩
  obtain ⟨B, hB⟩ : ∃ B, B = numS M40 A.2 := ⟨_, rfl⟩
  obtain ⟨C, hC⟩ : ∃ C, C = vecS B.2 := ⟨_, rfl⟩
  obtain ⟨D, hD⟩ : ∃ D, D = numS 2 C.2 := ⟨_, rfl⟩
  obtain ⟨T, hT⟩ : ∃ T, T = numS M40 D.2 := ⟨_, rfl⟩
  obtain ⟨F, hF⟩ : ∃ F, F = q69 40 T.2 := ⟨_, rfl⟩
  obtain ⟨I, hI⟩ : ∃ I, I = q69 40 F.2 := ⟨_, rfl⟩
  obtain ⟨J, hJ⟩ : ∃ J, J = q69 200 I.2 := ⟨_, rfl⟩
  have er : rdE 8 (some l) = (⟨A.1, B.1, C.1, D.1, F.1, I.1, J.1, T.1⟩, J.2) := by
    rw [hJ, hI, hF, hT, hD, hC, hB, hA]; rfl
  have lA : A.2.len ≤ l.length := by rw [hA]; exact qce 8 (some l)
  have lB : B.2.len ≤ l.length := by rw [hB]; exact Nat.le_trans (qce _ _) lA
  have lC : C.2.len ≤ l.length := by rw [hC]; exact Nat.le_trans (vecS_len _) lB
  have lD : D.2.len ≤ l.length := by rw [hD]; exact Nat.le_trans (qce _ _) lC
  have lT : T.2.len ≤ l.length := by rw [hT]; exact Nat.le_trans (qce _ _) lD
  have lF : F.2.len ≤ l.length := by rw [hF]; exact Nat.le_trans (qr7 _ _) lT
  have lI : I.2.len ≤ l.length := by rw [hI]; exact Nat.le_trans (qr7 _ _) lF
  have nB : B.1 ≤ 1099511627776 := by rw [hB]; exact qgn _ _
  have c8 : C.1.length = 8 := by rw [hC]; exact qrf _
  have cF : F.1.length ≤ 40 := by rw [hF]; exact qb3 _ _
  have cI : I.1.length ≤ 40 := by rw [hI]; exact qb3 _ _
  refine (q4m E S.R 8 (by omega) (by simp; omega)).mono ?_
  rintro r G1 ⟨rfl, R1, k1⟩
  rw [← hA] at R1 ⊢
  replace S := S.read R1 k1
  have st1 : q0a G1 1 (.pointer (some ⟨b5, 0, none⟩)) (.int .i64 A.1) = some (G1.set b5 (.own 0 (edC ⟨A.1, 0, List.replicate 8 0, 0, [], [], [], 0⟩) 15)) := S.put1 0 (by omega) rfl (by rfl)
  replace S := S.store ⟨A.1, 0, List.replicate 8 0, 0, [], [], [], 0⟩ rfl
  simp -implicitDefEqProofs only [zA,Nat.reduceEqDiff,st1]
  generalize (G1.set b5 _) = G2 at S ⊢
  unfold qnc
  simp -implicitDefEqProofs only [zA,Nat.reduceEqDiff]
  refine (q4m E S.R M40 (by unfold M40; omega) (by rw [qfs]; omega)).mono ?_
  rintro r G3 ⟨rfl, R3, k3⟩
  rw [← hB] at R3 ⊢
  replace S := S.read R3 k3
  have st3 : q0a G3 1 (.pointer (some ⟨b5, 1, none⟩)) (.int .i64 B.1) = some (G3.set b5 (.own 0 (edC ⟨A.1, B.1, List.replicate 8 0, 0, [], [], [], 0⟩) 15)) := S.put1 1 (by omega) rfl (by rfl)
  replace S := S.store ⟨A.1, B.1, List.replicate 8 0, 0, [], [], [], 0⟩ rfl
  simp -implicitDefEqProofs only [zA,Nat.reduceEqDiff,st3]
  generalize (G3.set b5 _) = G4 at S ⊢
  refine (qxy E S.R (by omega)).mono ?_
  rintro r G5 ⟨rfl, R5, k5⟩
  rw [← hC] at R5 ⊢
  replace S := S.read R5 k5
  have st5 : q0a G5 8 (.pointer (some ⟨b5, 2, none⟩)) (.agg (C.1.map (.int .i64)).toArray) = some (G5.set b5 (.own 0 (edC ⟨A.1, B.1, C.1, 0, [], [], [], 0⟩) 15)) := S.row C.1 c8
  replace S := S.store ⟨A.1, B.1, C.1, 0, [], [], [], 0⟩ c8
  simp -implicitDefEqProofs only [zA,Nat.reduceEqDiff,st5]
  generalize (G5.set b5 _) = G6 at S ⊢
  refine (q4m E S.R 2 (by omega) (by rw [qfs]; omega)).mono ?_
  rintro r G7 ⟨rfl, R7, k7⟩
  rw [← hD] at R7 ⊢
  replace S := S.read R7 k7
  have st7 : q0a G7 1 (.pointer (some ⟨b5, 10, none⟩)) (.int .i64 D.1) = some (G7.set b5 (.own 0 (edC ⟨A.1, B.1, C.1, D.1, [], [], [], 0⟩) 15)) := S.put1 10 (by omega) rfl (by rw [show 10 = 0 + 10 from rfl, qj0 _ S.h8]; rfl)
  replace S := S.store ⟨A.1, B.1, C.1, D.1, [], [], [], 0⟩ c8
  simp -implicitDefEqProofs only [zA,Nat.reduceEqDiff,st7]
  generalize (G7.set b5 _) = G8 at S ⊢
  refine (q4m E S.R M40 (by unfold M40; omega) (by rw [qfs]; omega)).mono ?_
  rintro r G9 ⟨rfl, R9, k9⟩
  rw [← hT] at R9 ⊢
  replace S := S.read R9 k9
  have st9 : q0a G9 1 (.pointer (some ⟨b5, 14, none⟩)) (.int .i64 T.1) = some (G9.set b5 (.own 0 (edC ⟨A.1, B.1, C.1, D.1, [], [], [], T.1⟩) 15)) := S.put1 14 (by omega) rfl (by rw [show 14 = 4 + 10 from rfl, qj0 _ S.h8]; rfl)
  replace S := S.store ⟨A.1, B.1, C.1, D.1, [], [], [], T.1⟩ c8
  simp -implicitDefEqProofs only [zA,Nat.reduceEqDiff,st9]
  generalize (G9.set b5 _) = G10 at S ⊢
  refine (qgb E S.R 40 (by omega) (by omega)).mono ?_
  rintro r G11 ⟨rfl, R11, k11⟩
  rw [← hF] at R11 ⊢
  replace S := S.read R11 k11
  have st11 : q0a G11 1 (.pointer (some ⟨b5, 11, none⟩)) (strV F.1) = some (G11.set b5 (.own 0 (edC ⟨A.1, B.1, C.1, D.1, F.1, [], [], T.1⟩) 15)) := S.put1 11 (by omega) rfl (by rw [show 11 = 1 + 10 from rfl, qj0 _ S.h8]; rfl)
  replace S := S.store ⟨A.1, B.1, C.1, D.1, F.1, [], [], T.1⟩ c8
  simp -implicitDefEqProofs only [zA,Nat.reduceEqDiff,st11]
  generalize (G11.set b5 _) = G12 at S ⊢
  unfold qnb
  simp -implicitDefEqProofs only [zA,Nat.reduceEqDiff]
  refine (qgb E S.R 40 (by omega) (by omega)).mono ?_
  rintro r G13 ⟨rfl, R13, k13⟩
  rw [← hI] at R13 ⊢
  replace S := S.read R13 k13
  have st13 : q0a G13 1 (.pointer (some ⟨b5, 12, none⟩)) (strV I.1) = some (G13.set b5 (.own 0 (edC ⟨A.1, B.1, C.1, D.1, F.1, I.1, [], T.1⟩) 15)) := S.put1 12 (by omega) rfl (by rw [show 12 = 2 + 10 from rfl, qj0 _ S.h8]; rfl)
  replace S := S.store ⟨A.1, B.1, C.1, D.1, F.1, I.1, [], T.1⟩ c8
  simp -implicitDefEqProofs only [zA,Nat.reduceEqDiff,st13]
  generalize (G13.set b5 _) = G14 at S ⊢
  refine (qgb E S.R 200 (by omega) (by omega)).mono ?_
  rintro r G15 ⟨rfl, R15, k15⟩
  rw [← hJ] at R15 ⊢
  replace S := S.read R15 k15
  have st15 : q0a G15 1 (.pointer (some ⟨b5, 13, none⟩)) (strV J.1) = some (G15.set b5 (.own 0 (edC ⟨A.1, B.1, C.1, D.1, F.1, I.1, J.1, T.1⟩) 15)) := S.put1 13 (by omega) rfl (by rw [show 13 = 3 + 10 from rfl, qj0 _ S.h8]; rfl)
  replace S := S.store ⟨A.1, B.1, C.1, D.1, F.1, I.1, J.1, T.1⟩ c8
  simp -implicitDefEqProofs only [zA,Nat.reduceEqDiff,st15]
  generalize (G15.set b5 _) = G16 at S ⊢
  have eg : getE 8 l = if endS J.2 = true ∧ q28 ⟨A.1, B.1, C.1, D.1, F.1, I.1, J.1, T.1⟩ = true then some ⟨A.1, B.1, C.1, D.1, F.1, I.1, J.1, T.1⟩ else none := by
    unfold getE endS
    rw [er]
    simp only [decide_eq_true_eq]
  rw [eg]
  refine (qqc E S.R).mono ?_
  rintro r G17 ⟨rfl, rfl⟩
  obtain ⟨e, he⟩ : ∃ e : Ed, e = ⟨A.1, B.1, C.1, D.1, F.1, I.1, J.1, T.1⟩ := ⟨_, rfl⟩
  have e1 : e.con.length ≤ 9000000000000000000 := by rw [he]; simp only; omega
  have e2 : e.fld.length ≤ 9000000000000000000 := by rw [he]; simp only; omega
  have e3 : -9223372036854775808 ≤ e.n := by rw [he]; simp only; omega
  have e4 : e.n ≤ 9223372036854775807 := by rw [he]; simp only; omega
  rw [← he] at S ⊢
  clear er eg hA hB hC hD hT hF hI hJ lA lB lC lD lT lF lI nB c8 cF cI he st1 st3 st5 st7 st9 st11 st13 st15
  have zl := q1a (e := ZE) rfl
  have el := q1a S.h8
  have stA : ∀ (G : Heap) (l : List Value), G17.le G → l.length = 15 → l.all one = true → q0a G 15 (.pointer (some ⟨b2, 0, none⟩)) (.agg l.toArray) = some (G.set b2 (.own 0 l 15)) := fun G l x hl ho => q0f (x _ _ S.q2) (by omega) hl ho zl (by omega)
  have ld : ∀ (G : Heap) (l : List Value), l.length = 15 → q05 (G.set b2 (.own 0 l 15)) ⟨b2, 0, none⟩ 15 = some l := fun G l hl => z6x (by simp [hl])
  have leF : ∀ (G : Heap) X, G17.le G → H.le (G.set b2 X) := fun G X x => Heap.q02 (Heap.q00 S.le x) S.z2H _
  have c5 : ∀ G, G17.le G → q05 G ⟨b5, 0, none⟩ 15 = some (edC e) := fun G x => by rw [q0l (x _ _ S.q5) (by omega)]; simp [List.take_of_length_le, el]
  have c50 := c5 G17 (Heap.q04 _)
  have stZ := stA G17 (edC ZE) (Heap.q04 _) zl (q7w _)
  have ldZ := ld G17 (edC ZE) zl
  rw [qak] at stZ ldZ
  cases hJ : endS J.2 with
  | false =>
    simp -implicitDefEqProofs only [zA,Nat.reduceEqDiff,stZ,ldZ,false_and]
    exact ⟨leF _ _ (Heap.q04 _), rfl⟩
  | true =>
    simp -implicitDefEqProofs only [zA,Nat.reduceEqDiff,c50]
    refine (qkl E G17 e S.h8 e1 e2 e3 e4).mono ?_
    rintro r G18 ⟨le18, rfl⟩
    have stZ := stA G18 (edC ZE) le18 zl (q7w _)
    have ldZ := ld G18 (edC ZE) zl
    rw [qak] at stZ ldZ
    have stE := stA G18 (edC e) le18 el (q7w _)
    have ldE := ld G18 (edC e) el
    have c51 := c5 G18 le18
    cases hg : q28 e with
    | false =>
      simp -implicitDefEqProofs only [zA,Nat.reduceEqDiff,stZ,ldZ]
      exact ⟨leF _ _ le18, rfl⟩
    | true =>
      simp -implicitDefEqProofs only [zA,Nat.reduceEqDiff,c51,stE,ldE]
      exact ⟨leF _ _ le18, rfl⟩
theorem qrm (E : EnvT tab) (H : Heap) (n : Int) (h1 : -1000000000 ≤ n) (h2 : n ≤ 1000000000) : ACallN E.toEnv qs1 [.int .i64 n] H fun r H' => H' = H ∧ r = .bool (decide (bkA (n - 1) = (n, 0))) := by
  refine q0o qfm qba rfl rfl (q03 ?_)
  unfold qba
  have w1 : IntKind.i64.wrap (n - 1) = n - 1 := q0w (by omega) (by omega)
  simp -implicitDefEqProofs only [zA,reduceCtorEq,Nat.reduceEqDiff,w1]
  refine (qgk E H (n - 1)).mono ?_
  rintro r H' ⟨rfl, rfl⟩
  generalize bkA (n - 1) = x
  obtain ⟨x1, x2⟩ := x
  simp only [Prod.mk.injEq]
  by_cases g1 : x2 = 0
  · subst g1
    by_cases g2 : x1 = n
    · simp -implicitDefEqProofs only [zA,reduceCtorEq,Nat.reduceEqDiff,g2,beq_self_eq_true]
    · have g3 : (x1 == n) = false := by simpa using g2
      simp -implicitDefEqProofs only [zA,reduceCtorEq,Nat.reduceEqDiff,Int.reduceBEq,g2,g3]
  · simp -implicitDefEqProofs only [zA,reduceCtorEq,Nat.reduceEqDiff,g1,and_false]
def qd8 (l : List UInt8) : (Nat × Nat × Nat × List UInt8) × Nat := match labL 8 l with
  | none => ((0, 0, 0, []), 3)
  | some x => (x, 0)
structure DS (H h0 G : Heap) (b b3 : Nat) (s : RS) (d n : Int) : Prop where
  R : RdR h0 G b s
  q3 : G b3 = some (.own 0 (dotC d n) 2)
  le : H.le G
  n3 : b3 ≠ b
  z3 : h0 b3 = none
  z3H : H b3 = none
  zbH : H b = none
theorem DS.read {H h0 G G' : Heap} {b b3 : Nat} {s s' : RS} {d n : Int} (S : DS H h0 G b b3 s d n) (R : RdR h0 G' b s') (k : Kp b G G') : DS H h0 G' b b3 s' d n :=
  ⟨R, k _ _ S.n3 S.q3, fun c x h => k _ _ (by intro q; subst q; rw [S.zbH] at h; cases h) (S.le _ _ h), S.n3, S.z3, S.z3H, S.zbH⟩
theorem DS.store {H h0 G : Heap} {b b3 : Nat} {s : RS} {d n : Int} (S : DS H h0 G b b3 s d n) (d' n' : Int) : DS H h0 (G.set b3 (.own 0 (dotC d' n') 2)) b b3 s d' n' :=
  ⟨S.R.other S.z3 S.n3 _, Heap.q01 _ _ _, fun c x h => by rw [Heap.q0d (by intro q; subst q; rw [S.z3H] at h; cases h)]; exact S.le _ _ h, S.n3, S.z3, S.z3H, S.zbH⟩
theorem qol (E : EnvT tab) (H : Heap) {v : Value} (l : List UInt8) (hl : l.length ≤ 100000) (s : SlB H v l) :
    ACallN E.toEnv quz [v] H fun r H' => H.le H' ∧ ∃ r', r = .tuple #[.int .i64 (qd8 l).1.1, .agg (dotC (qd8 l).1.2.1 (qd8 l).1.2.2.1).toArray, r', .int .i64 (qd8 l).2] ∧ OwB H H' r' (qd8 l).1.2.2.2 := by
  refine q0o qjs qdm rfl rfl (q03 ?_)
  unfold qdm
  simp -implicitDefEqProofs only [zA,reduceCtorEq,Nat.reduceEqDiff,Nat.reduceAdd]
  intro b3 hb3
  try simp -implicitDefEqProofs only [zA,reduceIte,reduceCtorEq,Nat.reduceEqDiff,Nat.reduceAdd,Nat.reduceMul,Nat.reduceLT,Nat.reduceSub,Int.reduceLT,Int.reduceLE,Int.reduceEq,Int.reduceNe,Int.reduceSub,Int.reduceAdd,Int.reduceMul,Int.reduceBEq,Int.reduceBNe,Int.reduceGT,Int.reduceGE,Nat.reduceGT,Int.reduceToNat,Int.reduceNeg,Nat.reduceLeDiff,Nat.reduceBEq,Nat.reduceBneDiff]
  have le3 := Heap.q02 (Heap.q04 H) hb3 (.own 0 (dotC 0 0) 2)
  have q3 : (H.set b3 (.own 0 (dotC 0 0) 2)) b3 = some (.own 0 (dotC 0 0) 2) := Heap.q01 _ _ _
  have dz : [Value.int .i64 0, Value.int .i64 0] = dotC 0 0 := rfl
  rw [dz]
  generalize (H.set b3 (.own 0 (dotC 0 0) 2)) = H3 at le3 q3 ⊢
  have leH3 := le3
  refine (qod E H3 l (by omega) (s.le le3)).mono ?_
  rintro r G0 ⟨b, rfl, hb, le0, h0, le0', R⟩
  have S : DS H h0 G0 b b3 (some l) 0 0 := by
    have n3 : b3 ≠ b := by intro e; subst e; rw [hb] at q3; cases q3
    have hbH : H b = none := Heap.q08 leH3 hb
    refine ⟨R, le0 _ _ q3, Heap.q00 leH3 le0, n3, le0' b3 (by rw [q3]; simp), hb3, hbH⟩
  clear hb le0 le0' R q3 le3
  obtain ⟨A, hA⟩ : ∃ A, A = numS M40 (some l) := ⟨_, rfl⟩
  obtain ⟨D, hD⟩ : ∃ D, D = numS 8 A.2 := ⟨_, rfl⟩
  obtain ⟨N, hN⟩ : ∃ N, N = numS M40 D.2 := ⟨_, rfl⟩
  obtain ⟨C, hC⟩ : ∃ C, C = q69 65552 N.2 := ⟨_, rfl⟩
  have er : rdL 8 (some l) = ((A.1, D.1, N.1, C.1), C.2) := by
    rw [hC, hN, hD, hA]; rfl
  have lA : A.2.len ≤ l.length := by rw [hA]; exact qce _ (some l)
  have lD : D.2.len ≤ l.length := by rw [hD]; exact Nat.le_trans (qce _ _) lA
  have lN : N.2.len ≤ l.length := by rw [hN]; exact Nat.le_trans (qce _ _) lD
  have cC : C.1.length ≤ 65552 := by rw [hC]; exact qb3 _ _
  simp -implicitDefEqProofs only [zA,reduceCtorEq,Nat.reduceEqDiff]
  refine (q4m E S.R M40 (by unfold M40; omega) (by simp; omega)).mono ?_
  rintro r G1 ⟨rfl, R1, k1⟩
  rw [← hA] at R1 ⊢
  replace S := S.read R1 k1
  simp -implicitDefEqProofs only [zA,Nat.reduceEqDiff]
  refine (q4m E S.R 8 (by omega) (by rw [qfs]; omega)).mono ?_
  rintro r G2 ⟨rfl, R2, k2⟩
  rw [← hD] at R2 ⊢
  replace S := S.read R2 k2
  have st2 : q0a G2 1 (.pointer (some ⟨b3, 0, none⟩)) (.int .i64 D.1) = some (G2.set b3 (.own 0 (dotC D.1 0) 2)) := q0q S.q3 rfl (by simp [dotC]) (by simp [dotC])
  replace S := S.store D.1 0
  simp -implicitDefEqProofs only [zA,Nat.reduceEqDiff,st2]
  generalize (G2.set b3 _) = G3 at S ⊢
  refine (q4m E S.R M40 (by unfold M40; omega) (by rw [qfs]; omega)).mono ?_
  rintro r G4 ⟨rfl, R4, k4⟩
  rw [← hN] at R4 ⊢
  replace S := S.read R4 k4
  have st4 : q0a G4 1 (.pointer (some ⟨b3, 1, none⟩)) (.int .i64 N.1) = some (G4.set b3 (.own 0 (dotC D.1 N.1) 2)) := q0q S.q3 rfl (by simp [dotC]) (by simp [dotC])
  replace S := S.store D.1 N.1
  simp -implicitDefEqProofs only [zA,Nat.reduceEqDiff,st4]
  generalize (G4.set b3 _) = G5 at S ⊢
  refine (qka E S.R 65552 (by omega) (by omega)).mono ?_
  rintro r G6 ⟨ow, R6, k6⟩
  rw [← hC] at R6 ow
  have S5 := S
  replace S := S.read R6 k6
  obtain ⟨rb, rc, rfl⟩ := Sl.shape ow.sl
  have owH : OwB H G6 (.slice rb C.1.length rc) C.1 := ow.since S5.le
  simp -implicitDefEqProofs only [zA,Nat.reduceEqDiff]
  unfold qgy
  have ev : qd8 l = if okL ((A.1, D.1, N.1, C.1), C.2) = true then ((A.1, D.1, N.1, C.1), 0) else ((0, 0, 0, []), 3) := by
    unfold qd8 labL
    rw [er]
    split <;> rename_i h
    · split at h
      · cases h
      · rw [if_neg ‹_›]
    · split at h
      · rw [if_pos ‹_›]; cases h; rfl
      · cases h
  generalize qd8 l = V at ev ⊢
  clear er hA hD hN hC lA lD lN st2 st4
  simp -implicitDefEqProofs only [zA,Nat.reduceEqDiff]
  refine (qqc E S.R).mono ?_
  rintro r G7 ⟨rfl, rfl⟩
  have cd : q0x G7 ⟨b3, 0, none⟩ = some (.int .i64 D.1) := by rw [q0k S.q3 (by simp [dotC])]; rfl
  have cn : q0x G7 ⟨b3, 1, none⟩ = some (.int .i64 N.1) := by rw [q0k S.q3 (by simp [dotC])]; rfl
  have c2 : q05 G7 ⟨b3, 0, none⟩ 2 = some (dotC D.1 N.1) := by rw [q0l S.q3 (by simp [dotC])]; rfl
  have stA : ∀ d n : Int, q0a G7 2 (.pointer (some ⟨b3, 0, none⟩)) (.agg (dotC d n).toArray) = some (G7.set b3 (.own 0 (dotC d n) 2)) := fun d n => q0f S.q3 (by omega) rfl rfl rfl (by omega)
  have ld : ∀ d n : Int, q05 (G7.set b3 (.own 0 (dotC d n) 2)) ⟨b3, 0, none⟩ 2 = some (dotC d n) := fun d n => z6x rfl
  have leF : ∀ X, H.le (G7.set b3 X) := fun X => Heap.q02 S.le S.z3H _
  have stZ := stA 0 0
  have ldZ := ld 0 0
  have bad : okL ((A.1, D.1, N.1, C.1), C.2) = false → H.le (G7.set b3 (.own 0 (dotC 0 0) 2)) ∧ ∃ r', Value.tuple #[.int .i64 0, .agg (dotC 0 0).toArray, .slice none 0 0, .int .i64 3] = .tuple #[.int .i64 V.1.1, .agg (dotC V.1.2.1 V.1.2.2.1).toArray, r', .int .i64 (V.2 : Nat)] ∧ OwB H (G7.set b3 (.own 0 (dotC 0 0) 2)) r' V.1.2.2.2 := by
    intro h
    rw [h] at ev
    subst ev
    exact ⟨leF _, _, rfl, Ow.nil _ _ _⟩
  have eo : okL ((A.1, D.1, N.1, C.1), C.2) = (endS C.2 && decide (D.1 < 8) && decide (1 ≤ N.1) && bktG C.1.length) := rfl
  cases e1 : endS C.2 with
  | false =>
    have hf : okL ((A.1, D.1, N.1, C.1), C.2) = false := by rw [eo, e1]; rfl
    simp -implicitDefEqProofs only [zA,Nat.reduceEqDiff]
    unfold q5m
    simp -implicitDefEqProofs only [zA,Nat.reduceEqDiff,dz,stZ,ldZ]
    exact bad hf
  | true =>
    simp -implicitDefEqProofs only [zA,Nat.reduceEqDiff,cd]
    refine (qso E G7 D.1).mono ?_
    rintro r G8 ⟨rfl, rfl⟩
    by_cases g1 : D.1 < 8
    · have g1' : (0 : Int) ≤ (D.1 : Nat) ∧ ((D.1 : Nat) : Int) < 8 := by omega
      by_cases g2 : 1 ≤ N.1
      · have g2' : ¬ ((N.1 : Nat) : Int) < 1 := by omega
        have ws : IntKind.i64.wrap (((C.1.length : Nat) : Int) - 16) = ((C.1.length : Nat) : Int) - 16 := q0w (by omega) (by omega)
        simp -implicitDefEqProofs only [zA,Nat.reduceEqDiff,g1',cn,g2',ws]
        refine (qrm E G8 _ (by omega) (by omega)).mono ?_
        rintro r G9 ⟨rfl, rfl⟩
        have eb : decide (bkA (((C.1.length : Nat) : Int) - 16 - 1) = (((C.1.length : Nat) : Int) - 16, 0)) = bktG C.1.length := rfl
        rw [eb]
        cases g3 : bktG C.1.length with
        | false =>
          have hf : okL ((A.1, D.1, N.1, C.1), C.2) = false := by rw [eo, g3, Bool.and_false]
          simp -implicitDefEqProofs only [zA,Nat.reduceEqDiff]
          unfold q5m
          simp -implicitDefEqProofs only [zA,Nat.reduceEqDiff,dz,stZ,ldZ]
          exact bad hf
        | true =>
          have hf : okL ((A.1, D.1, N.1, C.1), C.2) = true := by rw [eo, g3, e1]; simp [g1, g2]
          rw [hf] at ev
          simp only [if_true] at ev
          subst ev
          simp -implicitDefEqProofs only [zA,Nat.reduceEqDiff]
          unfold q5m
          simp -implicitDefEqProofs only [zA,Nat.reduceEqDiff]
          unfold qgx
          have stD := stA D.1 N.1
          rw [Heap.qad S.q3] at stD
          simp -implicitDefEqProofs only [zA,Nat.reduceEqDiff,c2,stD,implies_true,List.mem_cons,List.not_mem_nil,or_false]
          exact ⟨S.le, _, rfl, owH⟩
      · have g2' : ((N.1 : Nat) : Int) < 1 := by omega
        have hf : okL ((A.1, D.1, N.1, C.1), C.2) = false := by rw [eo]; simp [g2]
        simp -implicitDefEqProofs only [zA,Nat.reduceEqDiff,g1',cn,g2']
        unfold q5m
        simp -implicitDefEqProofs only [zA,Nat.reduceEqDiff,dz,stZ,ldZ]
        exact bad hf
    · have g1' : ¬ ((0 : Int) ≤ (D.1 : Nat) ∧ ((D.1 : Nat) : Int) < 8) := by omega
      have hf : okL ((A.1, D.1, N.1, C.1), C.2) = false := by rw [eo]; simp [g1]
      simp -implicitDefEqProofs only [zA,Nat.reduceEqDiff,g1']
      unfold q5m
      simp -implicitDefEqProofs only [zA,Nat.reduceEqDiff,dz,stZ,ldZ]
      exact bad hf
theorem qvs (E : EnvT tab) (h : Heap) {v w : Value} (key nonce sealed beside : List UInt8) (hk : key.length = 32) (hn : nonce.length = 12) (hs : sealed.length ≤ 100000000) (hbs : beside.length ≤ 1000000) (sp : SlB h v sealed) (sb : SlB h w beside) :
    ACallN E.toEnv qva [.agg (key.map u8V).toArray, .agg (nonce.map u8V).toArray, v, w] h fun r h' => h.le h' ∧ ∃ r', r = .tuple #[r', .int .i64 (((qkk key nonce sealed beside).1 : Nat) : Int)] ∧ OwB h h' r' (qkk key nonce sealed beside).2 := by
  obtain ⟨base, cc, rfl⟩ := Sl.shape sp
  obtain ⟨base2, cc2, rfl⟩ := Sl.shape sb
  refine q0o qk3 qe1 rfl rfl (q03 ?_)
  unfold qe1
  have hk' : (key.map u8V).length = 32 := by simp [hk]
  have hn' : (nonce.map u8V).length = 12 := by simp [hn]
  have hcap : sealed.length ≤ cc := by
    rcases sp with ⟨e, hn, _⟩ | ⟨a, c', e, hc, _⟩
    · simp only [Value.slice.injEq] at e; omega
    · cases e; exact hc
  unfold qkk
  by_cases g1 : 65552 < sealed.length
  · have g : (65552 : Int) < (sealed.length : Int) := by omega
    rw [if_pos g1]
    simp -implicitDefEqProofs only [zA,reduceCtorEq,Nat.reduceEqDiff,Nat.reduceAdd,hk',hn',g]
    intro b4 hb4 b5 hb5
    obtain ⟨n54, hb5'⟩ := Heap.q0b.1 hb5
    exact ⟨Heap.q02 (Heap.q02 (Heap.q04 _) hb4 _) hb5' _, _, rfl, Ow.nil _ _ _⟩
  rw [if_neg g1]
  have g : ¬ (65552 : Int) < (sealed.length : Int) := by omega
  have g' : (sealed.length : Int) ≤ 65552 := by omega
  have w1 : IntKind.i64.wrap ((sealed.length : Int) - 16) = (sealed.length : Int) - 16 := q0w (by omega) (by omega)
  by_cases g2 : sealed.length < 16
  · have gg : (sealed.length : Int) - 16 < 0 := by omega
    rw [if_pos g2]
    simp -implicitDefEqProofs only [zA,reduceCtorEq,Nat.reduceEqDiff,Nat.reduceAdd,hk',hn',g,w1,gg]
    intro b4 hb4 b5 hb5
    obtain ⟨n54, hb5'⟩ := Heap.q0b.1 hb5
    exact ⟨Heap.q02 (Heap.q02 (Heap.q04 _) hb4 _) hb5' _, _, rfl, Ow.nil _ _ _⟩
  rw [if_neg g2]
  obtain ⟨n, hnl⟩ : ∃ n, sealed.length = n + 16 := ⟨sealed.length - 16, by omega⟩
  have en : (sealed.length : Int) - 16 = (n : Int) := by omega
  rw [show sealed.length - 16 = n by omega]
  rw [en] at w1
  have gg : ¬ ((n : Int) < 0) := by omega
  have bd : bnds sealed.length cc none (some (some (.int .i64 (n : Int)))) none = some (0, n, cc) := q5t (by omega) (by omega)
  simp -implicitDefEqProofs only [zA,reduceCtorEq,Nat.reduceEqDiff,Nat.reduceAdd,hk',hn',g,en,w1,gg,bd,Nat.sub_zero]
  intro b4 hb4 b5 hb5
  obtain ⟨n54, hb5'⟩ := Heap.q0b.1 hb5
  have le1 : h.le ((h.set b4 (.own 0 (key.map u8V) 32)).set b5 (.own 0 (nonce.map u8V) 12)) := Heap.q02 (Heap.q02 (Heap.q04 _) hb4 _) hb5' _
  have q4 : ((h.set b4 (.own 0 (key.map u8V) 32)).set b5 (.own 0 (nonce.map u8V) 12)) b4 = some (.own 0 (key.map u8V) 32) := q07 (Heap.q01 _ _ _) (Ne.symm n54)
  have q5 : ((h.set b4 (.own 0 (key.map u8V) 32)).set b5 (.own 0 (nonce.map u8V) 12)) b5 = some (.own 0 (nonce.map u8V) 12) := Heap.q01 _ _ _
  generalize ((h.set b4 (.own 0 (key.map u8V) 32)).set b5 (.own 0 (nonce.map u8V) 12)) = h1 at le1 q4 q5 ⊢
  have l4 : q05 h1 ⟨b4, 0, none⟩ 32 = some (key.map u8V) := q0u q4 hk'
  have l5 : q05 h1 ⟨b5, 0, none⟩ 12 = some (nonce.map u8V) := q0u q5 hn'
  rw [addO base cc fun a _ => qf1 a]
  have sh := Sl.qsj (sp.le le1) (m := n) (by omega)
  have lh : (sealed.take n).length = n := by simp; omega
  refine (qpx E h1 (sealed.take n) (by omega) sh).mono ?_
  rintro r h2 ⟨le2, ow2⟩
  have s2 := ow2.sl
  have sT := Sl.qwu (a := n) (b := sealed.length) (sp.le le1) (by omega) (by omega)
  have lT : ((sealed.drop n).take (sealed.length - n)) = sealed.drop n := List.take_of_length_le (by simp)
  rw [lT] at sT
  generalize sealed.take n = c at lh s2 ow2 ⊢
  obtain ⟨base3, cc3, rfl⟩ := Sl.shape s2
  have l4' := q22 le2 l4
  have l5' := q22 le2 l5
  simp -implicitDefEqProofs only [zA,Nat.reduceEqDiff]
  unfold qh8
  simp -implicitDefEqProofs only [zA,Nat.reduceEqDiff,l4',l5']
  refine (qrb E _ key nonce c beside hk hn (by omega) hbs s2 (sb.le (Heap.q00 le1 le2))).mono ?_
  rintro r h3 ⟨le3, rfl⟩
  have hlen2 := qd5 key nonce c beside
  generalize qf0 key nonce c beside = tg at hlen2 ⊢
  simp -implicitDefEqProofs only [zA,Nat.reduceEqDiff,List.length_replicate]
  intro b12 hb12
  have s12 : q0a (h3.set b12 (.own 0 (List.replicate 16 (.int .u8 0)) 16)) 16 (.pointer (some ⟨b12, 0, none⟩)) (.agg (tg.map u8V).toArray) = some (h3.set b12 (.own 0 (tg.map u8V) 16)) := z6z (by omega) (by simp [hlen2]) (q1i _) (by simp) (by omega)
  have le4 := Heap.q1c le3 hb12 (.own 0 (tg.map u8V) 16)
  have st : SlB (h3.set b12 (.own 0 (tg.map u8V) 16)) (.slice (some ⟨b12, 0, none⟩) 16 16) tg := by
    have := qgl (H := h3.set b12 (.own 0 (tg.map u8V) 16)) (b := b12) (l := tg) (sz := 16) (Heap.q01 _ _ _)
    rw [hlen2] at this
    exact this
  have bd2 : bnds sealed.length cc (some (some (.int .i64 (n : Int)))) none none = some (n, sealed.length, cc) := qb4 (by omega) (by omega)
  simp -implicitDefEqProofs only [zA,reduceCtorEq,Nat.reduceEqDiff,s12,qeg,Nat.sub_zero,addz,bd2]
  have sT' := sT.le (Heap.q00 le2 le4)
  have lS : (sealed.drop n).length = sealed.length - n := by simp
  refine (qs0 E _ tg (sealed.drop n) (by omega) st (by exact sT')).mono ?_
  rintro r h5 ⟨rfl, rfl⟩
  have l4a := q22 le4 l4'
  have l5a := q22 le4 l5'
  by_cases ht : tg = sealed.drop n
  · rw [if_pos ht]
    have hX := qnf E (h3.set b12 (.own 0 (tg.map u8V) 16)) key nonce c 1 hk hn (by omega) (by rw [show (1 : U32).toNat = 1 from rfl]; omega) (s2.le le4)
    rw [u32_1] at hX
    simp -implicitDefEqProofs only [zA,Nat.reduceEqDiff,ht]
    rw [← ht]
    simp -implicitDefEqProofs only [zA,Nat.reduceEqDiff,l4a,l5a]
    refine hX.mono ?_
    rintro r h6 ⟨le6, r', rfl, ow6⟩
    simp -implicitDefEqProofs only [zA,Nat.reduceEqDiff]
    have le06 := Heap.q00 le1 (Heap.q00 le2 le4)
    exact ⟨Heap.q00 le06 le6, _, rfl, Ow.since le06 ow6⟩
  · rw [if_neg ht]
    simp -implicitDefEqProofs only [zA,Nat.reduceEqDiff,ht]
    exact ⟨Heap.q00 le1 (Heap.q00 le2 le4), _, rfl, Ow.nil _ _ _⟩
theorem qr1 {dl : Nat} {l : List UInt8} {a d n : Nat} {c : List UInt8} (h : labL dl l = some (a, d, n, c)) : a ≤ 1099511627776 ∧ d < 8 ∧ 1 ≤ n ∧ n ≤ 1099511627776 ∧ c.length ≤ 65552 ∧ bktG c.length = true := by
  unfold labL at h
  split at h
  · rename_i ho
    have e := Option.some.inj h
    unfold okL at ho
    simp only [Bool.and_eq_true, decide_eq_true_eq] at ho
    obtain ⟨⟨⟨h1, h2⟩, h3⟩, h4⟩ := ho
    have e1 : (rdL dl (some l)).1.1 = a := congrArg (·.1) e
    have e2 : (rdL dl (some l)).1.2.1 = d := congrArg (·.2.1) e
    have e3 : (rdL dl (some l)).1.2.2.1 = n := congrArg (·.2.2.1) e
    have e4 : (rdL dl (some l)).1.2.2.2 = c := congrArg (·.2.2.2) e
    rw [e2] at h2
    rw [e3] at h3
    rw [e4] at h4
    refine ⟨by rw [← e1]; exact qgn _ _, h2, h3, by rw [← e3]; exact qgn _ _, by rw [← e4]; exact qb3 _ _, h4⟩
  · cases h
theorem qt9 (key nonce c beside : List UInt8) : (qkk key nonce c beside).2.length ≤ c.length - 16 := by
  unfold qkk
  split
  · simp
  · split
    · simp
    · split
      · simp [qbz]
      · simp
theorem qmn {dl : Nat} {l : List UInt8} {e : Ed} (h : getE dl l = some e) : q28 e = true ∧ e.seen.length = 8 := by
  unfold getE at h
  split at h
  · rename_i ho
    have := Option.some.inj h
    subst this
    exact ⟨ho.2, qrf _⟩
  · cases h
theorem qqg {l x : List UInt8} (h : qdd l = some x) : x.length ≤ l.length := by
  unfold qdd at h
  split at h
  · have := Option.some.inj h
    rw [← this, List.length_take]; omega
  · cases h
theorem qu1 (x y : Int) : q0n [some .i64, some .i64] (dotC x y) = true := rfl
theorem j04 (x y d n : Int) : q0s (dotC x y) (dotC d n) = decide (x = d ∧ y = n) := by
  simp only [dotC, q0s, qet, Bool.and_true]
  by_cases g1 : x = d
  · by_cases g2 : y = n
    · simp [g1, g2]
    · simp [g1, g2]
  · simp [g1]
theorem qon (E : EnvT tab) {h0 H : Heap} (leH : h0.le H) {p v : Value} {L : RL} (R : RingR h0 H p L) (hL : ∀ x ∈ L, x.2.length = 32) (l : List UInt8) (hl : l.length ≤ 100000) (s : SlB H v l) :
    ACallN E.toEnv qv2 [p, v] H fun r H' => H.le H' ∧ r = .tuple #[.agg (edC (qcx L l).2).toArray, .int .i64 ((qcx L l).1 : Nat)] := by
  obtain ⟨pp, hpp⟩ : ∃ b, p = .pointer (some ⟨b, 0, none⟩) := by
    obtain ⟨b, r, es, c, rfl, _⟩ := R
    exact ⟨b, rfl⟩
  subst hpp
  refine q0o qjv qdp rfl rfl (q03 ?_)
  unfold qdp
  have zl := q1a (e := ZE) rfl
  simp -implicitDefEqProofs only [zA,reduceCtorEq,Nat.reduceEqDiff,Nat.reduceAdd]
  intro b4 hb4
  try simp -implicitDefEqProofs only [zA,reduceIte,reduceCtorEq,Nat.reduceEqDiff,Nat.reduceAdd,Nat.reduceMul,Nat.reduceLT,Nat.reduceSub,Int.reduceLT,Int.reduceLE,Int.reduceEq,Int.reduceNe,Int.reduceSub,Int.reduceAdd,Int.reduceMul,Int.reduceBEq,Int.reduceBNe,Int.reduceGT,Int.reduceGE,Nat.reduceGT,Int.reduceToNat,Int.reduceNeg,Nat.reduceLeDiff,Nat.reduceBEq,Nat.reduceBneDiff]
  rw [← qak, zl]
  have le4 := Heap.q02 (Heap.q04 H) hb4 (.own 0 (edC ZE) 15)
  have q4 : (H.set b4 (.own 0 (edC ZE) 15)) b4 = some (.own 0 (edC ZE) 15) := Heap.q01 _ _ _
  generalize (H.set b4 (.own 0 (edC ZE) 15)) = H1 at le4 q4 ⊢
  refine (qol E H1 l hl (s.le le4)).mono ?_
  rintro r H2 ⟨le2, r', rfl, ow2⟩
  have stA : ∀ (G : Heap) (e : Ed), H1.le G → e.seen.length = 8 → q0a G 15 (.pointer (some ⟨b4, 0, none⟩)) (.agg (edC e).toArray) = some (G.set b4 (.own 0 (edC e) 15)) := fun G e x h => q0f (x _ _ q4) (by omega) (q1a h) (q7w e) zl (by omega)
  have ld : ∀ (G : Heap) (e : Ed), e.seen.length = 8 → q05 (G.set b4 (.own 0 (edC e) 15)) ⟨b4, 0, none⟩ 15 = some (edC e) := fun G e h => z6x (by rw [q1a h])
  have leF : ∀ (G : Heap) X, H1.le G → H.le (G.set b4 X) := fun G X x => Heap.q02 (Heap.q00 le4 x) hb4 _
  have ev : (labL 7 l = none → qd8 l = ((0, 0, 0, []), 3)) ∧ ∀ x, labL 7 l = some x → qd8 l = (x, 0) := by
    unfold qd8
    rw [labL_8]
    constructor
    · intro h; rw [h]
    · intro x h; rw [h]
  obtain ⟨V, hV⟩ : ∃ V, V = qd8 l := ⟨_, rfl⟩
  rw [← hV] at ow2 ⊢ ev
  simp -implicitDefEqProofs only [zA,reduceCtorEq,Nat.reduceEqDiff,Nat.reduceAdd]
  intro b7 hb7
  try simp -implicitDefEqProofs only [zA,reduceIte,reduceCtorEq,Nat.reduceEqDiff,Nat.reduceAdd,Nat.reduceMul,Nat.reduceLT,Nat.reduceSub,Int.reduceLT,Int.reduceLE,Int.reduceEq,Int.reduceNe,Int.reduceSub,Int.reduceAdd,Int.reduceMul,Int.reduceBEq,Int.reduceBNe,Int.reduceGT,Int.reduceGE,Nat.reduceGT,Int.reduceToNat,Int.reduceNeg,Nat.reduceLeDiff,Nat.reduceBEq,Nat.reduceBneDiff]
  have st7 : q0a (H2.set b7 (.own 0 [.int .i64 0, .int .i64 0] 2)) 2 (.pointer (some ⟨b7, 0, none⟩)) (.agg (dotC V.1.2.1 V.1.2.2.1).toArray) = some (H2.set b7 (.own 0 (dotC V.1.2.1 V.1.2.2.1) 2)) := z6z (by omega) rfl rfl rfl (by omega)
  have le7 := Heap.q02 (Heap.q04 H2) hb7 (.own 0 (dotC V.1.2.1 V.1.2.2.1) 2)
  have q7 : (H2.set b7 (.own 0 (dotC V.1.2.1 V.1.2.2.1) 2)) b7 = some (.own 0 (dotC V.1.2.1 V.1.2.2.1) 2) := Heap.q01 _ _ _
  simp -implicitDefEqProofs only [zA,reduceCtorEq,Nat.reduceEqDiff,st7]
  generalize (H2.set b7 (.own 0 (dotC V.1.2.1 V.1.2.2.1) 2)) = H3 at le7 q7 ⊢
  have le13 := Heap.q00 le2 le7
  unfold qcx
  unfold qh5
  cases hlab : labL 7 l with
  | none =>
    have := ev.1 hlab
    rw [this]
    have stZ := stA H3 ZE le13 rfl
    have ldZ := ld H3 ZE rfl
    rw [qak] at stZ ldZ
    simp -implicitDefEqProofs only [zA,reduceCtorEq,Nat.reduceEqDiff,Int.reduceBNe,stZ,ldZ]
    exact ⟨leF _ _ le13, rfl⟩
  | some x =>
    obtain ⟨a, d, n, c⟩ := x
    have := ev.2 _ hlab
    rw [this] at q7 ow2 ⊢
    simp only at q7 ow2
    clear this ev st7
    obtain ⟨f1, f2, f3, f4, f5, f6⟩ := qr1 hlab
    have cd : ∀ G, H3.le G → q0x G ⟨b7, 0, none⟩ = some (.int .i64 d) := fun G x => by rw [q0k (x _ _ q7) (by simp [dotC])]; rfl
    have cn : ∀ G, H3.le G → q0x G ⟨b7, 1, none⟩ = some (.int .i64 n) := fun G x => by rw [q0k (x _ _ q7) (by simp [dotC])]; rfl
    have c2 : ∀ G, H3.le G → q05 G ⟨b7, 0, none⟩ 2 = some (dotC d n) := fun G x => by rw [q0l (x _ _ q7) (by simp [dotC])]; rfl
    simp -implicitDefEqProofs only [zA,reduceCtorEq,Nat.reduceEqDiff,Int.reduceBNe]
    refine (qk4 E (Heap.q00 leH (Heap.q00 le4 le13)) (R.le (Heap.q00 le4 le13)) hL a).mono ?_
    rintro r H4 ⟨le34, rfl⟩
    have wl : ((getK L a).getD (List.replicate 32 0)).length = 32 := by
      cases h : getK L a with
      | none => simp
      | some key =>
        obtain ⟨x, hx, -, rfl⟩ := qia h
        exact hL x hx
    have wk : ∀ key, getK L a = some key → (getK L a).getD (List.replicate 32 0) = key := fun key h => by rw [h]; rfl
    generalize (getK L a).getD (List.replicate 32 0) = W at wl wk
    simp -implicitDefEqProofs only [zA,reduceCtorEq,Nat.reduceEqDiff]
    intro b10 hb10
    try simp -implicitDefEqProofs only [zA,List.length_replicate]
    have st10 : q0a (H4.set b10 (.own 0 (List.replicate 32 (.int .u8 0)) 32)) 32 (.pointer (some ⟨b10, 0, none⟩)) (.agg (W.map u8V).toArray) = some (H4.set b10 (.own 0 (W.map u8V) 32)) := z6z (by omega) (by simp [wl]) (q1i _) (by simp) (by omega)
    have le10 := Heap.q02 (Heap.q04 H4) hb10 (.own 0 (W.map u8V) 32)
    have q10 : (H4.set b10 (.own 0 (W.map u8V) 32)) b10 = some (.own 0 (W.map u8V) 32) := Heap.q01 _ _ _
    simp -implicitDefEqProofs only [zA,reduceCtorEq,Nat.reduceEqDiff,st10]
    generalize (H4.set b10 (.own 0 (W.map u8V) 32)) = H5 at le10 q10 ⊢
    have le35 := Heap.q00 le34 le10
    have le15 := Heap.q00 le13 le35
    cases hk : getK L a with
    | none =>
      have stZ := stA H5 ZE le15 rfl
      have ldZ := ld H5 ZE rfl
      rw [qak] at stZ ldZ
      simp -implicitDefEqProofs only [zA,Nat.reduceEqDiff,Option.isSome,stZ,ldZ]
      exact ⟨leF _ _ le15, rfl⟩
    | some key =>
      obtain rfl := wk key hk
      simp -implicitDefEqProofs only [zA,Option.isSome]
      unfold qh4
      simp -implicitDefEqProofs only [zA,Nat.reduceEqDiff,cd H5 le35,cn H5 le35]
      refine (qlh E H5 d n (by omega) (by omega)).mono ?_
      rintro r H6 ⟨le6, rfl⟩
      have le36 := Heap.q00 le35 le6
      simp -implicitDefEqProofs only [zA,Nat.reduceEqDiff,c2 H5 le35,c2 H6 le36,implies_true,List.mem_cons,List.not_mem_nil,or_false,forall_eq]
      refine (qmy E H6 a d n (by omega) (by omega) (by omega)).mono ?_
      rintro r3 H7 ⟨le7', ow7⟩
      have le37 := Heap.q00 le36 le7'
      have cw : ∀ G, H5.le G → q05 G ⟨b10, 0, none⟩ 32 = some (W.map u8V) := fun G x => by
        rw [q0l (x _ _ q10) (by simp [wl])]; simp [List.take_of_length_le, wl]
      have ll := qo2 (a := a) (d := d) (n := n) (by omega) (by omega) (by omega)
      simp -implicitDefEqProofs only [zA,Nat.reduceEqDiff,Nat.reduceAdd,cw H5 (Heap.q04 _),cw H6 le6,cw H7 (Heap.q00 le6 le7'),implies_true,List.mem_cons,List.not_mem_nil,or_false,forall_eq,forall_eq_or_imp,and_self]
      refine (qvs E H7 W (q4g d n) c (labW a d n) wl (qcr _ _) (by omega) (by omega) (ow2.sl.le (Heap.q00 le7 le37)) ow7.sl).mono ?_
      rintro r5 H8 ⟨le8, r5', rfl, ow8⟩
      have le18 := Heap.q00 le13 (Heap.q00 le37 le8)
      have ol := qt9 W (q4g d n) c (labW a d n)
      generalize qkk W (q4g d n) c (labW a d n) = O at ow8 ol ⊢
      obtain ⟨o1, o2⟩ := O
      simp only at ow8 ol ⊢
      by_cases ho : o1 = 0
      · subst ho
        rw [if_pos rfl]
        simp -implicitDefEqProofs only [zA,Nat.reduceEqDiff,Int.reduceBNe]
        unfold qh3
        simp -implicitDefEqProofs only [zA,Nat.reduceEqDiff]
        refine (quq E H8 o2 (by omega) ow8.sl).mono ?_
        rintro r H9 ⟨le9, hu⟩
        have le19 := Heap.q00 le18 le9
        unfold qgc at hu
        cases hx : qdd o2 with
        | none =>
          rw [hx] at hu
          subst hu
          have stZ := stA H9 ZE le19 rfl
          have ldZ := ld H9 ZE rfl
          rw [qak] at stZ ldZ
          simp -implicitDefEqProofs only [zA,Nat.reduceEqDiff,Int.reduceBNe,stZ,ldZ]
          exact ⟨leF _ _ le19, rfl⟩
        | some x =>
          rw [hx] at hu
          simp only at hu
          obtain ⟨u', rfl, su⟩ := hu
          have xl := qqg hx
          simp -implicitDefEqProofs only [zA,Nat.reduceEqDiff,Int.reduceBNe]
          refine (op_Get_c E H9 x (by omega) su).mono ?_
          rintro r H10 ⟨le10', rfl⟩
          rw [getE_8]
          have le110 := Heap.q00 le19 le10'
          have e8 : ((getE 7 x).getD ZE).seen.length = 8 := by
            cases h : getE 7 x with
            | none => rfl
            | some e => exact (qmn h).2
          have eE : ∀ e, getE 7 x = some e → (getE 7 x).getD ZE = e := fun e h => by rw [h]; rfl
          generalize (getE 7 x).getD ZE = e at e8 eE
          simp -implicitDefEqProofs only [zA,Nat.reduceEqDiff]
          intro b14 hb14
          try simp -implicitDefEqProofs only [zA,reduceIte,reduceCtorEq,Nat.reduceEqDiff,Nat.reduceAdd,Nat.reduceMul,Nat.reduceLT,Nat.reduceSub,Int.reduceLT,Int.reduceLE,Int.reduceEq,Int.reduceNe,Int.reduceSub,Int.reduceAdd,Int.reduceMul,Int.reduceBEq,Int.reduceBNe,Int.reduceGT,Int.reduceGE,Nat.reduceGT,Int.reduceToNat,Int.reduceNeg,Nat.reduceLeDiff,Nat.reduceBEq,Nat.reduceBneDiff]
          rw [← qak, zl]
          have st14 : q0a (H10.set b14 (.own 0 (edC ZE) 15)) 15 (.pointer (some ⟨b14, 0, none⟩)) (.agg (edC e).toArray) = some (H10.set b14 (.own 0 (edC e) 15)) := z6z (by omega) (q1a e8) (q7w e) zl (by omega)
          have le14 := Heap.q02 (Heap.q04 H10) hb14 (.own 0 (edC e) 15)
          have A : EdAt (H10.set b14 (.own 0 (edC e) 15)) b14 e := EdAt.of (Heap.q01 _ _ _) e8
          simp -implicitDefEqProofs only [zA,Nat.reduceEqDiff,st14]
          generalize (H10.set b14 (.own 0 (edC e) 15)) = H11 at le14 A ⊢
          have le111 := Heap.q00 le110 le14
          have le311 : H3.le H11 := Heap.q00 le37 (Heap.q00 le8 (Heap.q00 le9 (Heap.q00 le10' le14)))
          have stZ := stA H11 ZE le111 rfl
          have ldZ := ld H11 ZE rfl
          rw [qak] at stZ ldZ
          have stE := stA H11 e le111 e8
          have ldE := ld H11 e e8
          unfold qh2
          cases hg : getE 7 x with
          | none =>
            simp -implicitDefEqProofs only [zA,Nat.reduceEqDiff,Int.reduceBNe,Option.isSome,stZ,ldZ]
            exact ⟨leF _ _ le111, rfl⟩
          | some e' =>
            obtain rfl := eE e' hg
            simp only
            have cE : q05 H11 ⟨b14, 0, none⟩ 2 = some (dotC e.dev e.n) := by
              rw [q0l A.own (by have := q1a e8; omega)]
              rfl
            have cD := c2 H11 le311
            have k1 := qu1 e.dev e.n
            have k2 := qu1 d n
            have k3 := j04 e.dev e.n d n
            by_cases hd : e.dev = d ∧ e.n = n
            · rw [decide_eq_true hd] at k3
              rw [if_pos hd]
              simp -implicitDefEqProofs only [zA,Nat.reduceEqDiff,Int.reduceBNe,Option.isSome,cE,cD,k1,k2,k3,A.all,stE,ldE]
              exact leF _ _ le111
            · rw [decide_eq_false hd] at k3
              rw [if_neg hd]
              simp -implicitDefEqProofs only [zA,Nat.reduceEqDiff,Int.reduceBNe,Option.isSome,cE,cD,k1,k2,k3,stZ,ldZ]
              exact ⟨leF _ _ le111, rfl⟩
      · have ho' : ¬ ((o1 : Nat) : Int) = 0 := by omega
        rw [if_neg ho]
        have stZ := stA H8 ZE le18 rfl
        have ldZ := ld H8 ZE rfl
        rw [qak] at stZ ldZ
        simp -implicitDefEqProofs only [zA,Nat.reduceEqDiff,ho',stZ,ldZ]
        exact ⟨leF _ _ le18, rfl⟩
theorem list15 {α : Type} {l : List α} (h : l.length = 15) : ∃ a0 a1 a2 a3 a4 a5 a6 a7 a8 a9 a10 a11 a12 a13 a14, l = [a0, a1, a2, a3, a4, a5, a6, a7, a8, a9, a10, a11, a12, a13, a14] := by
  match l, h with
  | [a0, a1, a2, a3, a4, a5, a6, a7, a8, a9, a10, a11, a12, a13, a14], _ => exact ⟨a0, a1, a2, a3, a4, a5, a6, a7, a8, a9, a10, a11, a12, a13, a14, rfl⟩
theorem str_strV (s : ByteArray) : Value.string s = strV s.data.toList := by simp [strV]
theorem ok_edC {W : World} {v : Value} (h : Shp.ok W (.struct 15 (.fld 0 2 (.struct 2 (.fld 0 1 (.int .i64) (.fld 1 1 (.int .i64) .fend))) (.fld 2 8 (.array 8 1 (.int .i64)) (.fld 10 1 (.int .i64) (.fld 11 1 .str (.fld 12 1 .str (.fld 13 1 .str (.fld 14 1 (.int .i64) .fend)))))))) v) :
    ∃ e : Ed, v = .agg (Value.int .i64 e.dev :: .int .i64 e.n :: (e.seen.map (.int .i64) ++ [.int .i64 e.kind, strV e.con, strV e.fld, strV e.val, .int .i64 e.time])).toArray ∧ e.seen.length = 8 ∧ -9223372036854775808 ≤ e.n ∧ e.n ≤ 9223372036854775807 ∧ -9223372036854775808 ≤ e.dev ∧ e.dev ≤ 9223372036854775807 ∧ e.con.length ≤ 9223372036854775807 ∧ e.fld.length ≤ 9223372036854775807 ∧ e.val.length ≤ 9223372036854775807 := by
  obtain ⟨⟨h1, h2⟩, h3⟩ := h
  simp only [Shp.wide, if_true] at h3
  obtain ⟨cs, rfl⟩ := h3
  have hc : (Value.agg cs).cells = cs := rfl
  rw [hc] at h1 h2
  obtain ⟨c0, c1, c2, c3, c4, c5, c6, c7, c8, c9, c10, c11, c12, c13, c14, hl⟩ := list15 h1
  rw [hl] at h2
  simp only [Shp.okC] at h2
  obtain ⟨⟨-, ⟨d, e0, d1, d2⟩, ⟨n, e1, n1, n2⟩, -⟩, ⟨-, hs⟩, ⟨k, e10, k1, k2⟩, ⟨s11, e11, l11⟩, ⟨s12, e12, l12⟩, ⟨s13, e13, l13⟩, ⟨t, e14, t1, t2⟩, -⟩ := h2
  obtain ⟨x0, f0, -⟩ := hs 0 (by omega)
  obtain ⟨x1, f1, -⟩ := hs 1 (by omega)
  obtain ⟨x2, f2, -⟩ := hs 2 (by omega)
  obtain ⟨x3, f3, -⟩ := hs 3 (by omega)
  obtain ⟨x4, f4, -⟩ := hs 4 (by omega)
  obtain ⟨x5, f5, -⟩ := hs 5 (by omega)
  obtain ⟨x6, f6, -⟩ := hs 6 (by omega)
  obtain ⟨x7, f7, -⟩ := hs 7 (by omega)
  cases e0; cases e1; cases e10; cases e11; cases e12; cases e13; cases e14
  cases f0; cases f1; cases f2; cases f3; cases f4; cases f5; cases f6; cases f7
  refine ⟨⟨d, n, [x0, x1, x2, x3, x4, x5, x6, x7], k, s11.data.toList, s12.data.toList, s13.data.toList, t⟩, ?_, rfl, n1, n2, d1, d2, by simpa using l11, by simpa using l12, by simpa using l13⟩
  congr 1
  apply Array.toList_inj.1
  rw [hl]
  simp only [str_strV]
  rfl
def q6d (K : List UInt8) : RL := K.zipIdx.map fun x => ((x.2 : Int), qif x.1)
theorem qgh (K : List UInt8) : (q6d K).length = K.length := by simp [q6d]
theorem qke (K : List UInt8) (i : Nat) (h : i < (q6d K).length) : (q6d K)[i] = ((i : Int), qif (K[i]'(by rw [qgh] at h; exact h))) := by
  simp [q6d]
theorem qx5 (A : List UInt8) (k : UInt8) : q6d (A ++ [k]) = q6d A ++ [((A.length : Int), qif k)] := by
  simp [q6d, List.zipIdx_append]
theorem qor {K : List UInt8} {y : Int × List UInt8} (h : y ∈ q6d K) : ∃ i : Nat, i < K.length ∧ y.1 = i ∧ y.2.length = 32 := by
  obtain ⟨i, hi, rfl⟩ := List.getElem_of_mem h
  rw [qke]
  rw [qgh] at hi
  exact ⟨i, hi, rfl, rfl⟩
theorem ringL_no {K : List UInt8} {k : Int} (h : k < 0 ∨ (K.length : Int) ≤ k) : getK (q6d K) k = none := by
  refine qvf fun y hy => ?_
  obtain ⟨i, hi, e, -⟩ := qor hy
  rw [e]; omega
theorem ringL_at {K : List UInt8} (i : Nat) (h : i < K.length) : getK (q6d K) i = some (qif K[i]) := by
  have hi : i < (q6d K).length := by rw [qgh]; exact h
  have := qvg (L := q6d K) (k := (i : Int)) hi (fun y hy => by
    obtain ⟨j, hj, rfl⟩ := List.getElem_of_mem hy
    rw [List.getElem_take, qke]
    simp only [List.length_take] at hj
    simp only
    omega) (by rw [qke])
  rw [this, qke]
theorem qrv (K : List UInt8) (h : K.length ≤ 1000) : LOk K.length (q6d K) :=
  ⟨fun x hx => (qor hx).choose_spec.2.2, fun y hy => by
    obtain ⟨i, hi, e, -⟩ := qor hy
    rw [e]; omega, by rw [qgh]; exact Nat.le_refl _⟩
theorem qyv (A : List UInt8) (k : UInt8) (h : A.length < 500) : putF (q6d A) A.length (qif k) = (q6d (A ++ [k]), 0) := by
  unfold putF
  have g := ringL_no (K := A) (k := A.length) (.inr (Int.le_refl _))
  rw [if_pos (by omega), g]
  simp only
  rw [if_neg (by rw [qgh]; omega), qx5]
theorem ql6 (E : EnvT tab) (H : Heap) {v : Value} (K : List UInt8) (hK : K.length ≤ 400) (s : SlB H v K) :
    ACallN E.toEnv qio [v] H fun r H' => H.le H' ∧ ∃ p w, r = .tuple #[.pointer (some ⟨p, 0, none⟩), .pointer (some ⟨w, 0, none⟩)] ∧ P2 H H' p w (q6d K) := by
  obtain ⟨kb, kc, rfl⟩ := Sl.shape s
  refine q0o q7u q3m rfl rfl (q03 ?_)
  unfold q3m
  simp -implicitDefEqProofs only [zA,reduceCtorEq]
  refine (qvj E H).mono ?_
  rintro pv h2 ⟨le2, R2⟩
  obtain ⟨p, hp⟩ : ∃ p, pv = .pointer (some ⟨p, 0, none⟩) := by
    obtain ⟨b, r, es, cc, e, _⟩ := R2
    exact ⟨b, e⟩
  subst hp
  simp -implicitDefEqProofs only [zA,reduceCtorEq,Nat.reduceEqDiff]
  intro w hw
  try simp -implicitDefEqProofs only [zA,reduceIte,reduceCtorEq,Nat.reduceEqDiff,Nat.reduceAdd,Nat.reduceMul,Nat.reduceLT,Nat.reduceSub,Int.reduceLT,Int.reduceLE,Int.reduceEq,Int.reduceNe,Int.reduceSub,Int.reduceAdd,Int.reduceMul,Int.reduceBEq,Int.reduceBNe,Int.reduceGT,Int.reduceGE,Nat.reduceGT,Int.reduceToNat,Int.reduceNeg,Nat.reduceLeDiff,Nat.reduceBEq,Nat.reduceBneDiff]
  have P0 : P2 H (h2.set w (.own 0 [.slice none 0 0] 1)) p w [] := by
    have hw1 : H w = none := Heap.q08 le2 hw
    refine ⟨H.set w (.own 0 [.slice none 0 0] 1), Heap.q02 (Heap.q04 _) hw1 _, hw1, ?_, ?_, .slice none 0 0, Heap.q01 _ _ _, .inl ⟨rfl, rfl, rfl⟩⟩
    · intro c x hx
      by_cases e : c = w
      · subst e; rw [Heap.q01] at hx ⊢; exact hx
      · rw [Heap.q0d e] at hx ⊢; exact le2 _ _ hx
    · obtain ⟨b, r, es, cc, e1, e2, e3, e4, e5, e6, e7⟩ := R2
      have hb : b ≠ w := by intro e; subst e; rw [hw] at e5; cases e5
      have hr : r ≠ w := by intro e; subst e; rw [hw] at e6; cases e6
      exact ⟨b, r, es, cc, e1, by rw [Heap.q0d hb]; exact e2, by rw [Heap.q0d hr]; exact e3, e4, by rw [Heap.q0d hb]; exact e5, by rw [Heap.q0d hr]; exact e6, e7⟩
  generalize (h2.set w (.own 0 [.slice none 0 0] 1)) = h3 at P0 ⊢
  clear R2 le2 hw
  refine q0c (fun m t G => ∃ (i : Nat), t = tl [(0, .slice kb K.length kc), (4, .pointer (some ⟨p, 0, none⟩)), (5, .pointer (some ⟨w, 0, none⟩)), (6, .int .i64 i)] ∧ i ≤ K.length ∧ m = K.length - i ∧ P2 H G p w (q6d (K.take i))) K.length
    ⟨0, rfl, by omega, by omega, P0⟩ ?_
  rintro m t G ⟨i, rfl, hi, rfl, P⟩
  have leG : H.le G := by obtain ⟨h0, a, b, c, d, e⟩ := P; exact Heap.q00 a c
  by_cases hlt : i < K.length
  · have hi1 : (i : Int) < K.length := by omega
    have hi2 : (0 : Int) ≤ i := by omega
    have w1 : IntKind.i64.wrap ((i : Int) + 1) = ((i + 1 : Nat) : Int) := q2k (by omega)
    obtain ⟨b, o, c', hv, ck⟩ := u8_at s i hlt
    simp only [Value.slice.injEq, true_and] at hv
    obtain ⟨rfl, rfl⟩ := hv
    have ckG := ck G leG
    have tk : (K.take i).length = i := by rw [List.length_take]; omega
    have I := qrv (K.take i) (by omega)
    rw [tk] at I
    have ts : K.take (i + 1) = K.take i ++ [K[i]] := List.take_succ_eq_append_getElem hlt
    have pu := qyv (K.take i) K[i] (by omega)
    rw [tk, ← ts] at pu
    generalize K[i]'(by omega) = kx at ck ckG pu
    simp -implicitDefEqProofs only [zA,reduceCtorEq,Nat.reduceEqDiff,hi1]
    unfold q8z
    simp -implicitDefEqProofs only [zA,reduceCtorEq,Nat.reduceEqDiff,Nat.reduceLeDiff,hi1,hi2,Int.toNat_natCast,ckG,List.length_replicate,qsm]
    refine (P2.put E P I (by omega) i (wd := qif kx) (qxw _)).mono ?_
    rintro r H1 ⟨rfl, le1, n2⟩
    have ckH1 := ck H1 le1
    simp -implicitDefEqProofs only [zA,reduceCtorEq,Nat.reduceEqDiff,Nat.reduceLeDiff,hi1,hi2,Int.toNat_natCast,ckH1,List.length_replicate,qsm]
    refine n2.mono ?_
    rintro r H2 ⟨rfl, P2'⟩
    rw [pu] at P2'
    simp -implicitDefEqProofs only [zA,reduceCtorEq,Nat.reduceEqDiff,w1]
    exact ⟨K.length - (i + 1), by omega, i + 1, rfl, by omega, rfl, P2'⟩
  · have e : i = K.length := by omega
    subst e
    rw [List.take_length] at P
    have hi1 : ¬ (K.length : Int) < K.length := by omega
    simp -implicitDefEqProofs only [zA,reduceCtorEq,Nat.reduceEqDiff,hi1]
    exact ⟨leG, p, w, rfl, P⟩
def qcv : Ed := ⟨1, 2, [0, 1, 0, 0, 0, 0, 0, 0], 1, [99], [102], [118], 0⟩
theorem qw7 : EdOk qcv := ⟨rfl, by decide, by decide, by decide, by decide⟩
theorem qhw : q28 qcv = true := by decide
theorem qgw (E : EnvT tab) (H : Heap) : ACallN E.toEnv qjl [] H fun r H' => H.le H' ∧ r = .agg (edC qcv).toArray := by
  refine q0o q8m q41 rfl rfl (q03 ?_)
  unfold q41
  have r8 : List.replicate 8 (Value.int .i64 0) = [.int .i64 0, .int .i64 0, .int .i64 0, .int .i64 0, .int .i64 0, .int .i64 0, .int .i64 0, .int .i64 0] := rfl
  have rz : List.replicate 11 (Value.int .i64 0) ++ [Value.string .empty, .string .empty, .string .empty, .int .i64 0] = edC ZE := rfl
  have zl := q1a (e := ZE) rfl
  have zx : edC ZE = [.int .i64 0, .int .i64 0, .int .i64 0, .int .i64 0, .int .i64 0, .int .i64 0, .int .i64 0, .int .i64 0, .int .i64 0, .int .i64 0, .int .i64 0, .string .empty, .string .empty, .string .empty, .int .i64 0] := rfl
  rw [rz]
  simp -implicitDefEqProofs only [zA,Nat.reduceAdd,Nat.reduceLeDiff]
  intro b hb
  rw [zl]
  try simp -implicitDefEqProofs only [zA,reduceCtorEq,Nat.reduceEqDiff,Nat.reduceAdd,Nat.reduceLeDiff,r8,zx]
  exact ⟨Heap.q02 (Heap.q04 _) hb _, rfl⟩
theorem qtp (E : EnvT tab) (H : Heap) (e : Ed) (h8 : e.seen.length = 8) : ACallN E.toEnv qjm [.agg (edC e).toArray] H fun r H' => H.le H' ∧ r = .bool (decide (60 < e.con.length ∨ 60 < e.fld.length ∨ 250 < e.val.length)) := by
  refine q0o q8n q48 rfl rfl (q03 ?_)
  unfold q48
  have el := q1a h8
  simp -implicitDefEqProofs only [zA,reduceCtorEq,Nat.reduceEqDiff]
  intro b hb
  try simp -implicitDefEqProofs only [zA,reduceIte,reduceCtorEq,Nat.reduceEqDiff,Nat.reduceAdd,Nat.reduceMul,Nat.reduceLT,Nat.reduceSub,Int.reduceLT,Int.reduceLE,Int.reduceEq,Int.reduceNe,Int.reduceSub,Int.reduceAdd,Int.reduceMul,Int.reduceBEq,Int.reduceBNe,Int.reduceGT,Int.reduceGE,Nat.reduceGT,Int.reduceToNat,Int.reduceNeg,Nat.reduceLeDiff,Nat.reduceBEq,Nat.reduceBneDiff]
  rw [el]
  have le1 := Heap.q02 (Heap.q04 H) hb (.own 0 (edC e) 15)
  have A : EdAt (H.set b (.own 0 (edC e) 15)) b e := EdAt.of (Heap.q01 _ _ _) h8
  generalize (H.set b (.own 0 (edC e) 15)) = H1 at le1 A
  have v1 : strV e.con = .string ⟨e.con.toArray⟩ := rfl
  have v2 : strV e.fld = .string ⟨e.fld.toArray⟩ := rfl
  have v3 : strV e.val = .string ⟨e.val.toArray⟩ := rfl
  have z1 := qcu e.con
  have z2 := qcu e.fld
  have z3 := qcu e.val
  have k1 := A.con
  have k2 := A.fld
  have k3 := A.val
  rw [v1] at k1
  rw [v2] at k2
  rw [v3] at k3
  by_cases g1 : 60 < e.con.length
  · have g1' : (60 : Int) < e.con.length := by omega
    simp -implicitDefEqProofs only [zA,Nat.reduceEqDiff,k1,z1,g1',g1,true_or]
    exact le1
  have g1' : ¬ (60 : Int) < e.con.length := by omega
  by_cases g2 : 60 < e.fld.length
  · have g2' : (60 : Int) < e.fld.length := by omega
    simp -implicitDefEqProofs only [zA,Nat.reduceEqDiff,k1,k2,z1,z2,g1',g1,g2',g2,true_or,or_true]
    exact le1
  have g2' : ¬ (60 : Int) < e.fld.length := by omega
  by_cases g3 : 250 < e.val.length
  · have g3' : (250 : Int) < e.val.length := by omega
    simp -implicitDefEqProofs only [zA,Nat.reduceEqDiff,k1,k2,k3,z1,z2,z3,g1',g1,g2',g2,g3',g3,or_true]
    exact le1
  · have g3' : ¬ (250 : Int) < e.val.length := by omega
    simp -implicitDefEqProofs only [zA,Nat.reduceEqDiff,k1,k2,k3,z1,z2,z3,g1',g1,g2',g2,g3',g3,or_self]
    exact le1
theorem P2.ring {h1 H : Heap} {p w : Nat} {L : RL} (P : P2 h1 H p w L) : ∃ h0, h0.le H ∧ RingR h0 H (.pointer (some ⟨p, 0, none⟩)) L ∧ h1.le h0 := by
  obtain ⟨h0, a, c, d, R, G⟩ := P
  exact ⟨h0, d, R, a⟩
theorem RingR.off {h0 H : Heap} {p : Value} {L : RL} (R : RingR h0 H p L) (le : h0.le H) {b7 : Nat} (hb : h0 b7 ≠ none) (X : Blk) : ∃ h0', h0'.le (H.set b7 X) ∧ RingR h0' (H.set b7 X) p L ∧ h0' b7 = none ∧ ∀ c, c ≠ b7 → h0' c = h0 c := by
  obtain ⟨b, r, es, c, e1, e2, e3, e4, e5, e6, e7⟩ := R
  have n1 : b ≠ b7 := by intro e; subst e; exact hb e2
  have n2 : r ≠ b7 := by intro e; subst e; exact hb e3
  refine ⟨fun c => if c = b7 then none else h0 c, ?_, ⟨b, r, es, c, e1, by simp only; rw [if_neg n1]; exact e2, by simp only; rw [if_neg n2]; exact e3, e4, by rw [Heap.q0d n1]; exact e5, by rw [Heap.q0d n2]; exact e6, e7⟩, by simp, fun c hc => by simp only; rw [if_neg hc]⟩
  intro c x hx
  simp only at hx
  split at hx
  · cases hx
  · rename_i hc
    rw [Heap.q0d hc]; exact le _ _ hx
theorem P2.leH {h1 H : Heap} {p w : Nat} {L : RL} (P : P2 h1 H p w L) : h1.le H := by
  obtain ⟨h0, a, c, d, R, G⟩ := P
  exact Heap.q00 a d
theorem ed_ok (e : Ed) (h8 : e.seen.length = 8) : q0n (List.replicate 11 (some IntKind.i64) ++ [none, none, none, some .i64]) (edC e) = true := by
  obtain ⟨dev, n, seen, kind, con, fld, val, time⟩ := e
  simp only at h8
  match seen, h8 with
  | [a0, a1, a2, a3, a4, a5, a6, a7], _ => rfl
theorem ql5 : ∀ l : List Value, (∀ v ∈ l, qet v v = true) → q0s l l = true
  | [], _ => rfl
  | v :: l, h => by
      rw [q0s, h v (by simp), ql5 l fun u hu => h u (by simp [hu])]
      rfl
theorem ed_eq (e : Ed) : q0s (edC e) (edC e) = true := by
  refine ql5 _ fun v hv => ?_
  have hi : ∀ n : Int, qet (.int .i64 n) (.int .i64 n) = true := fun n => by simp [qet]
  have hs : ∀ l : List UInt8, qet (strV l) (strV l) = true := fun l => by simp [qet, strV]
  unfold edC at hv
  rcases List.mem_cons.1 hv with rfl | hv
  · exact hi _
  rcases List.mem_cons.1 hv with rfl | hv
  · exact hi _
  rcases List.mem_append.1 hv with hv | hv
  · obtain ⟨n, -, rfl⟩ := List.mem_map.1 hv
    exact hi _
  simp only [List.mem_cons, List.not_mem_nil, or_false] at hv
  rcases hv with rfl | rfl | rfl | rfl | rfl
  · exact hi _
  · exact hs _
  · exact hs _
  · exact hs _
  · exact hi _
theorem qz4 : (putE qcv).length = 18 := by
  simp [putE, qcv, q75, qal, qjc]
theorem qqn : qpz qcv = 64 := by
  unfold qpz
  rw [if_pos qhw, qz4]
  rfl
theorem qs8 (E : EnvT tab) (H : Heap) : ACallN E.toEnv qip [] H fun r H' => H.le H' ∧ r = .bool true := by
  refine q0o q7v q3n rfl rfl (q03 ?_)
  unfold q3n
  simp -implicitDefEqProofs only [zA,Nat.reduceSub,List.length_replicate,List.drop_replicate,List.replicate_zero]
  intro b0 hb0
  try simp -implicitDefEqProofs only [zA,reduceIte,reduceCtorEq,Nat.reduceEqDiff,Nat.reduceAdd,Nat.reduceMul,Nat.reduceLT,Nat.reduceSub,Int.reduceLT,Int.reduceLE,Int.reduceEq,Int.reduceNe,Int.reduceSub,Int.reduceAdd,Int.reduceMul,Int.reduceBEq,Int.reduceBNe,Int.reduceGT,Int.reduceGE,Nat.reduceGT,Int.reduceToNat,Int.reduceNeg,Nat.reduceLeDiff,Nat.reduceBEq,Nat.reduceBneDiff]
  have le0 := Heap.q02 (Heap.q04 H) hb0 (.own 0 [.int .u8 7] 1)
  have s0 : SlB (H.set b0 (.own 0 [.int .u8 7] 1)) (.slice (some ⟨b0, 0, none⟩) 1 1) [7] := Sl.lit (n := 1) rfl
  generalize (H.set b0 (.own 0 [.int .u8 7] 1)) = H0 at le0 s0 ⊢
  refine (ql6 E H0 [7] (by simp) s0).mono ?_
  rintro r H1 ⟨le1, p, w, rfl, P⟩
  have I := qrv [7] (by simp)
  obtain ⟨h0, leR, R, -⟩ := P.ring
  have hg : getK (q6d [7]) 0 = some (qif 7) := ringL_at 0 (by simp)
  simp -implicitDefEqProofs only [zA,Nat.reduceEqDiff]
  unfold q92
  simp -implicitDefEqProofs only [zA,Nat.reduceEqDiff]
  refine (qgw E H1).mono ?_
  rintro r H2 ⟨le2, rfl⟩
  simp -implicitDefEqProofs only [zA,Nat.reduceEqDiff]
  refine (qom E (Heap.q00 leR le2) (R.le le2) I.l32 I.rng 0 qcv qw7).mono ?_
  rintro r H3 ⟨le3, r', rfl, ow3⟩
  have e3 : qrn (q6d [7]) 0 qcv = (0, qlp (qif 7) 0 qcv) := by
    unfold qrn
    rw [if_pos qhw, hg]
    rfl
  rw [e3] at ow3 ⊢
  have bl := body_len (qif 7) 0 qhw rfl
  have bl2 : (qlp (qif 7) 0 qcv).length = 84 := by
    rw [bl, qqn]
    simp [labW, qcv, qjc]
  obtain ⟨rb, rc, rfl⟩ := Sl.shape ow3.sl
  simp only at ow3
  have s3 := ow3.sl
  rw [bl2]
  simp -implicitDefEqProofs only [zA,Nat.reduceEqDiff]
  refine (qon E (Heap.q00 leR (Heap.q00 le2 le3)) (R.le (Heap.q00 le2 le3)) I.l32 (qlp (qif 7) 0 qcv) (by omega) (by rw [← bl2]; exact s3)).mono ?_
  rintro r H4 ⟨le4, rfl⟩
  have e4 := qus (q6d [7]) (qif 7) 0 (by omega) qhw rfl hg
  have e5 : qlp (qif 7) (0 : Int).toNat qcv = qlp (qif 7) 0 qcv := rfl
  rw [e5] at e4
  rw [e4]
  have zl := q1a (e := ZE) rfl
  simp -implicitDefEqProofs only [zA,Nat.reduceEqDiff]
  intro b5 hb5
  rw [← qak, zl]
  try simp -implicitDefEqProofs only [zA,reduceIte,reduceCtorEq,Nat.reduceEqDiff,Nat.reduceAdd,Nat.reduceMul,Nat.reduceLT,Nat.reduceSub,Int.reduceLT,Int.reduceLE,Int.reduceEq,Int.reduceNe,Int.reduceSub,Int.reduceAdd,Int.reduceMul,Int.reduceBEq,Int.reduceBNe,Int.reduceGT,Int.reduceGE,Nat.reduceGT,Int.reduceToNat,Int.reduceNeg,Nat.reduceLeDiff,Nat.reduceBEq,Nat.reduceBneDiff]
  have st5 : q0a (H4.set b5 (.own 0 (edC ZE) 15)) 15 (.pointer (some ⟨b5, 0, none⟩)) (.agg (edC qcv).toArray) = some (H4.set b5 (.own 0 (edC qcv) 15)) := z6z (by omega) (q1a rfl) (q7w _) zl (by omega)
  have A : EdAt (H4.set b5 (.own 0 (edC qcv) 15)) b5 qcv := EdAt.of (Heap.q01 _ _ _) rfl
  have le5 := Heap.q02 (Heap.q04 H4) hb5 (.own 0 (edC qcv) 15)
  simp -implicitDefEqProofs only [zA,Nat.reduceEqDiff,st5]
  generalize (H4.set b5 (.own 0 (edC qcv) 15)) = H5 at A le5 ⊢
  unfold q90
  simp -implicitDefEqProofs only [zA,Nat.reduceEqDiff,Int.reduceBEq]
  refine (qgw E H5).mono ?_
  rintro r H6 ⟨le6, rfl⟩
  have k1 := ed_ok qcv rfl
  have k2 := ed_eq qcv
  have A6 := A.le rfl le6
  simp -implicitDefEqProofs only [zA,Nat.reduceEqDiff,Int.reduceBEq,A.all,A6.all,k1,k2,List.mem_cons,List.not_mem_nil,or_false,forall_eq]
  refine (qgw E H6).mono ?_
  rintro r H7 ⟨le7, rfl⟩
  simp -implicitDefEqProofs only [zA,Nat.reduceEqDiff]
  refine (qj6 E H7 qcv qw7).mono ?_
  rintro r H8 ⟨le8, rfl⟩
  rw [qqn]
  simp -implicitDefEqProofs only [zA,reduceCtorEq,Nat.reduceEqDiff,Int.reduceBEq]
  exact Heap.q00 le0 (Heap.q00 le1 (Heap.q00 le2 (Heap.q00 le3 (Heap.q00 le4 (Heap.q00 le5 (Heap.q00 le6 (Heap.q00 le7 le8)))))))
theorem qsp {x : Nat} (h : x < 128) : IntKind.u8.wrap (((UInt8.ofNat x).toNat : Int) + 128) = ((UInt8.ofNat (x + 128)).toNat : Int) := by
  have e1 : (UInt8.ofNat x).toNat = x := by simp; omega
  have e2 : (UInt8.ofNat (x + 128)).toNat = x + 128 := by simp; omega
  rw [e1, e2]
  simp [IntKind.wrap, IntKind.bits, IntKind.signed]; omega
theorem q4n (E : EnvT tab) (h : Heap) {b : Value} (l : List UInt8) (hl : l.length ≤ 100000000) (s : SlB h b l) (v : Nat) (hv : v < 9223372036854775808) :
    ACallN E.toEnv ql3 [b, .int .i64 v] h fun r h' => h.le h' ∧ OwB h h' r (l ++ numF v) := by
  obtain ⟨bb, bc, rfl⟩ := Sl.shape s
  refine q0o qa8 q53 rfl rfl (q03 ?_)
  unfold q53
  simp -implicitDefEqProofs only [zA,reduceCtorEq,Nat.reduceEqDiff,Nat.reduceAdd,List.replicate_zero]
  intro b0 hb0
  try simp -implicitDefEqProofs only [zA,reduceIte,reduceCtorEq,Nat.reduceEqDiff,Nat.reduceAdd,Nat.reduceMul,Nat.reduceLT,Nat.reduceSub,Int.reduceLT,Int.reduceLE,Int.reduceEq,Int.reduceNe,Int.reduceSub,Int.reduceAdd,Int.reduceMul,Int.reduceBEq,Int.reduceBNe,Int.reduceGT,Int.reduceGE,Nat.reduceGT,Int.reduceToNat,Int.reduceNeg,Nat.reduceLeDiff,Nat.reduceBEq,Nat.reduceBneDiff]
  have le0 := Heap.q02 (Heap.q04 h) hb0 (.own 0 [] 0)
  refine q0t (bytes := 1) (n := 0) (cells := []) (m := l.length) (news := l.map u8V) le0 (by omega) (Ow.new (Heap.q04 _) hb0 rfl (by omega) (by omega)) (s.le le0) (q1i l) (by omega) (by omega) ?_
  intro r h1 ow le1
  rw [Nat.zero_add, List.nil_append] at ow
  change OwB h h1 r l at ow
  have g0 : ¬ (v : Int) < 0 := by omega
  simp -implicitDefEqProofs only [zA,reduceCtorEq,Nat.reduceEqDiff,g0]
  refine q0c (fun m t H => h.le H ∧ ∃ (n : Nat) (v5 : Value) (pre : List UInt8) (xs : List (Nat × Value)), (xs = [] ∨ xs = [(10, .bool false)]) ∧ t = tl ([(1, .int .i64 n), (5, v5)] ++ xs) ∧ n ≤ v ∧ m = n ∧ OwB h H v5 (l ++ pre) ∧ pre ++ numF n = numF v) v
    ⟨le1, v, r, [], _, .inr rfl, rfl, by omega, rfl, by simpa using ow, rfl⟩ ?_
  rintro m t H ⟨leH, n, v5, pre, xs, hxs, rfl, hn, rfl, ow', hp⟩
  have hlen : (l ++ pre).length ≤ 100000009 := by
    have := congrArg List.length hp
    have h9 := q2b 9 v (by omega) (by omega)
    simp only [List.length_append] at this ⊢
    omega
  rcases hxs with rfl | rfl
  · by_cases g : m < 128
    · have g1 : ¬ (128 : Int) ≤ m := by omega
      have w : IntKind.u8.wrap (m : Int) = ((UInt8.ofNat m).toNat : Int) := by rw [qis]; simp
      simp -implicitDefEqProofs only [zA,Nat.reduceEqDiff,g1]
      unfold q5p
      simp -implicitDefEqProofs only [zA,Nat.reduceEqDiff,Nat.reduceSub,w,List.length_replicate,List.drop_replicate,List.replicate_zero]
      intro b1 hb1
      try simp -implicitDefEqProofs only [zA,reduceIte,reduceCtorEq,Nat.reduceEqDiff,Nat.reduceAdd,Nat.reduceMul,Nat.reduceLT,Nat.reduceSub,Int.reduceLT,Int.reduceLE,Int.reduceEq,Int.reduceNe,Int.reduceSub,Int.reduceAdd,Int.reduceMul,Int.reduceBEq,Int.reduceBNe,Int.reduceGT,Int.reduceGE,Nat.reduceGT,Int.reduceToNat,Int.reduceNeg,Nat.reduceLeDiff,Nat.reduceBEq,Nat.reduceBneDiff]
      refine q0t (bytes := 1) (m := 1) (news := [u8V (UInt8.ofNat m)]) (Heap.q1c leH hb1 _) (by omega) (ow'.le (Heap.q02 (Heap.q04 _) hb1 _)) (Sl.lit (n := 1) rfl) rfl (by omega) (by omega) ?_
      intro v3 H3 ow3 le3
      simp -implicitDefEqProofs only [zA,Nat.reduceEqDiff]
      refine ⟨le3, ?_⟩
      rw [qjc g] at hp
      rw [← hp]
      simpa [OwB, Nat.add_assoc] using ow3
    · have g1 : (128 : Int) ≤ m := by omega
      have t1 : Int.tmod (m : Int) 128 = ((m % 128 : Nat) : Int) := by rw [Int.tmod_eq_emod_of_nonneg (by omega)]; rfl
      have t2 : Int.tdiv (m : Int) 128 = ((m / 128 : Nat) : Int) := by rw [Int.tdiv_eq_ediv_of_nonneg (by omega)]; rfl
      have w0 : IntKind.u8.wrap ((m % 128 : Nat) : Int) = ((UInt8.ofNat (m % 128)).toNat : Int) := by rw [qis]; simp
      have w1 := qsp (x := m % 128) (by omega)
      have w2 : IntKind.i64.wrap ((m / 128 : Nat) : Int) = ((m / 128 : Nat) : Int) := q0w (by omega) (by omega)
      simp -implicitDefEqProofs only [zA,Nat.reduceEqDiff,Nat.reduceSub,Int.reduceEq,g1,t1,w0,w1,List.length_replicate,List.drop_replicate,List.replicate_zero]
      intro b1 hb1
      try simp -implicitDefEqProofs only [zA,reduceIte,reduceCtorEq,Nat.reduceEqDiff,Nat.reduceAdd,Nat.reduceMul,Nat.reduceLT,Nat.reduceSub,Int.reduceLT,Int.reduceLE,Int.reduceEq,Int.reduceNe,Int.reduceSub,Int.reduceAdd,Int.reduceMul,Int.reduceBEq,Int.reduceBNe,Int.reduceGT,Int.reduceGE,Nat.reduceGT,Int.reduceToNat,Int.reduceNeg,Nat.reduceLeDiff,Nat.reduceBEq,Nat.reduceBneDiff]
      refine q0t (bytes := 1) (m := 1) (news := [u8V (UInt8.ofNat (m % 128 + 128))]) (Heap.q1c leH hb1 _) (by omega) (ow'.le (Heap.q02 (Heap.q04 _) hb1 _)) (Sl.lit (n := 1) rfl) rfl (by omega) (by omega) ?_
      intro v3 H3 ow3 le3
      simp -implicitDefEqProofs only [zA,Nat.reduceEqDiff,Int.reduceEq,t2,w2]
      refine ⟨m / 128, by omega, le3, m / 128, v3, pre ++ [UInt8.ofNat (m % 128 + 128)], [], .inl rfl, rfl, by omega, rfl, by simpa [OwB, Nat.add_assoc] using ow3, ?_⟩
      rw [← hp, qp4 g]; simp
  · by_cases g : m < 128
    · have g1 : ¬ (128 : Int) ≤ m := by omega
      have w : IntKind.u8.wrap (m : Int) = ((UInt8.ofNat m).toNat : Int) := by rw [qis]; simp
      simp -implicitDefEqProofs only [zA,Nat.reduceEqDiff,g1]
      unfold q5p
      simp -implicitDefEqProofs only [zA,Nat.reduceEqDiff,Nat.reduceSub,w,List.length_replicate,List.drop_replicate,List.replicate_zero]
      intro b1 hb1
      try simp -implicitDefEqProofs only [zA,reduceIte,reduceCtorEq,Nat.reduceEqDiff,Nat.reduceAdd,Nat.reduceMul,Nat.reduceLT,Nat.reduceSub,Int.reduceLT,Int.reduceLE,Int.reduceEq,Int.reduceNe,Int.reduceSub,Int.reduceAdd,Int.reduceMul,Int.reduceBEq,Int.reduceBNe,Int.reduceGT,Int.reduceGE,Nat.reduceGT,Int.reduceToNat,Int.reduceNeg,Nat.reduceLeDiff,Nat.reduceBEq,Nat.reduceBneDiff]
      refine q0t (bytes := 1) (m := 1) (news := [u8V (UInt8.ofNat m)]) (Heap.q1c leH hb1 _) (by omega) (ow'.le (Heap.q02 (Heap.q04 _) hb1 _)) (Sl.lit (n := 1) rfl) rfl (by omega) (by omega) ?_
      intro v3 H3 ow3 le3
      simp -implicitDefEqProofs only [zA,Nat.reduceEqDiff]
      refine ⟨le3, ?_⟩
      rw [qjc g] at hp
      rw [← hp]
      simpa [OwB, Nat.add_assoc] using ow3
    · have g1 : (128 : Int) ≤ m := by omega
      have t1 : Int.tmod (m : Int) 128 = ((m % 128 : Nat) : Int) := by rw [Int.tmod_eq_emod_of_nonneg (by omega)]; rfl
      have t2 : Int.tdiv (m : Int) 128 = ((m / 128 : Nat) : Int) := by rw [Int.tdiv_eq_ediv_of_nonneg (by omega)]; rfl
      have w0 : IntKind.u8.wrap ((m % 128 : Nat) : Int) = ((UInt8.ofNat (m % 128)).toNat : Int) := by rw [qis]; simp
      have w1 := qsp (x := m % 128) (by omega)
      have w2 : IntKind.i64.wrap ((m / 128 : Nat) : Int) = ((m / 128 : Nat) : Int) := q0w (by omega) (by omega)
      simp -implicitDefEqProofs only [zA,Nat.reduceEqDiff,Nat.reduceSub,Int.reduceEq,g1,t1,w0,w1,List.length_replicate,List.drop_replicate,List.replicate_zero]
      intro b1 hb1
      try simp -implicitDefEqProofs only [zA,reduceIte,reduceCtorEq,Nat.reduceEqDiff,Nat.reduceAdd,Nat.reduceMul,Nat.reduceLT,Nat.reduceSub,Int.reduceLT,Int.reduceLE,Int.reduceEq,Int.reduceNe,Int.reduceSub,Int.reduceAdd,Int.reduceMul,Int.reduceBEq,Int.reduceBNe,Int.reduceGT,Int.reduceGE,Nat.reduceGT,Int.reduceToNat,Int.reduceNeg,Nat.reduceLeDiff,Nat.reduceBEq,Nat.reduceBneDiff]
      refine q0t (bytes := 1) (m := 1) (news := [u8V (UInt8.ofNat (m % 128 + 128))]) (Heap.q1c leH hb1 _) (by omega) (ow'.le (Heap.q02 (Heap.q04 _) hb1 _)) (Sl.lit (n := 1) rfl) rfl (by omega) (by omega) ?_
      intro v3 H3 ow3 le3
      simp -implicitDefEqProofs only [zA,Nat.reduceEqDiff,Int.reduceEq,t2,w2]
      refine ⟨m / 128, by omega, le3, m / 128, v3, pre ++ [UInt8.ofNat (m % 128 + 128)], [], .inl rfl, rfl, by omega, rfl, by simpa [OwB, Nat.add_assoc] using ow3, ?_⟩
      rw [← hp, qp4 g]; simp
theorem qcc (E : EnvT tab) (h : Heap) {b x : Value} (l m : List UInt8) (hl : l.length ≤ 100000000) (hm : m.length ≤ 100000000) (s : SlB h b l) (sx : SlB h x m) :
    ACallN E.toEnv qin [b, x] h fun r h' => h.le h' ∧ OwB h h' r (l ++ qal m) := by
  obtain ⟨xb, xc, rfl⟩ := Sl.shape sx
  refine q0o q7t q3l rfl rfl (q03 ?_)
  unfold q3l
  simp -implicitDefEqProofs only [zA,reduceCtorEq,Nat.reduceEqDiff,Nat.reduceAdd]
  refine (q4n E h l hl s m.length (by omega)).mono ?_
  rintro r h1 ⟨le1, ow⟩
  have h9 := q2b 9 m.length (by omega) (by omega)
  simp -implicitDefEqProofs only [zA,reduceCtorEq,Nat.reduceEqDiff]
  refine q0t (bytes := 1) (m := m.length) (news := m.map u8V) le1 (by omega) ow (sx.le le1) (q1i m) (by simp; omega) (by simp; omega) ?_
  intro v3 H3 ow3 le3
  simp -implicitDefEqProofs only [zA,reduceCtorEq,Nat.reduceEqDiff]
  exact ⟨le3, by simpa [OwB, qal, Nat.add_assoc] using ow3⟩
def RdW (h0 H : Heap) (b : Nat) (l0 : List UInt8) (s : RS) : Prop := h0.le H ∧ h0 b = none ∧ ∃ (v : Value) (at' : Nat) (bad : Bool), H b = some (.own 0 [v, .int .i64 at', .bool bad] 3) ∧ SlB h0 v l0 ∧ at' ≤ l0.length ∧ s = if bad = true then none else some (l0.drop at')
theorem RdW.ne {h0 H : Heap} {b : Nat} {l0 : List UInt8} {s : RS} (R : RdW h0 H b l0 s) : H b ≠ none := by
  obtain ⟨a, c, v, at', bad, q, -⟩ := R
  rw [q]; simp
theorem RdW.le {h0 H H' : Heap} {b : Nat} {l0 : List UInt8} {s : RS} (R : RdW h0 H b l0 s) (le : H.le H') : RdW h0 H' b l0 s := by
  obtain ⟨a, c, v, at', bad, q, r⟩ := R
  exact ⟨Heap.q00 a le, c, v, at', bad, le _ _ q, r⟩
theorem RdW.other {h0 G : Heap} {b b3 : Nat} {l0 : List UInt8} {s : RS} (R : RdW h0 G b l0 s) (hn : h0 b3 = none) (ne : b3 ≠ b) (X : Blk) : RdW h0 (G.set b3 X) b l0 s := by
  obtain ⟨a, c, v, at', bad, q, r⟩ := R
  exact ⟨Heap.q02 a hn _, c, v, at', bad, by rw [Heap.q0d ne.symm]; exact q, r⟩
theorem qow (E : EnvT tab) {h0 H : Heap} {b : Nat} {l0 : List UInt8} {s : RS} (R : RdW h0 H b l0 s) :
    ACallN E.toEnv qe9 [.pointer (some ⟨b, 0, none⟩)] H fun r h' => h' = H ∧ r = .bool (endS s) := by
  obtain ⟨a, c, v, at', bad, q, sl, ha, hs⟩ := R
  obtain ⟨vb, vc, rfl⟩ := Sl.shape sl
  refine q0o q3s q1w rfl rfl (q03 ?_)
  unfold q1w
  have c0 : q0x H ⟨b, 0, none⟩ = some (.slice vb l0.length vc) := by rw [q0k q (by simp)]; rfl
  have c1 : q0x H ⟨b, 1, none⟩ = some (.int .i64 at') := by rw [q0k q (by simp)]; rfl
  have c2 : q0x H ⟨b, 2, none⟩ = some (.bool bad) := by rw [q0k q (by simp)]; rfl
  cases bad with
  | true =>
    have e : endS s = false := by rw [hs]; rfl
    rw [e]
    simp -implicitDefEqProofs only [zA,reduceCtorEq,Nat.reduceEqDiff,c2]
  | false =>
    by_cases g : at' = l0.length
    · have e : endS s = true := by rw [hs, g]; simp [endS]
      have g' : ((at' : Int) == (l0.length : Int)) = true := by rw [g]; exact beq_self_eq_true _
      rw [e]
      simp -implicitDefEqProofs only [zA,reduceCtorEq,Nat.reduceEqDiff,c0,c1,c2,g']
    · have e : endS s = false := by rw [hs]; simp [endS]; omega
      have g' : ((at' : Int) == (l0.length : Int)) = false := by rw [beq_eq_false_iff_ne]; omega
      rw [e]
      simp -implicitDefEqProofs only [zA,reduceCtorEq,Nat.reduceEqDiff,c0,c1,c2,g']
theorem qt2 (E : EnvT tab) {h0 H : Heap} {b : Nat} {l0 : List UInt8} {s : RS} (R : RdW h0 H b l0 s) (hl : l0.length ≤ 100000000) (n : Nat) (hn : n ≤ 100000000) :
    ACallN E.toEnv qda [.pointer (some ⟨b, 0, none⟩), .int .i64 n] H fun r h' => OwB H h' r (qd7 n s).1 ∧ RdW h0 h' b l0 (qd7 n s).2 ∧ Kp b H h' := by
  have ne := R.ne
  obtain ⟨a, c, v, at', bad, q, sl, ha, hs⟩ := R
  obtain ⟨vb, vc, rfl⟩ := Sl.shape sl
  refine q0o q3b q1r rfl rfl (q03 ?_)
  unfold q1r
  have c0 : q0x H ⟨b, 0, none⟩ = some (.slice vb l0.length vc) := by rw [q0k q (by simp)]; rfl
  have c1 : q0x H ⟨b, 1, none⟩ = some (.int .i64 at') := by rw [q0k q (by simp)]; rfl
  have c2 : q0x H ⟨b, 2, none⟩ = some (.bool bad) := by rw [q0k q (by simp)]; rfl
  have st : q0a H 1 (.pointer (some ⟨b, 2, none⟩)) (.bool true) = some (H.set b (.own 0 [.slice vb l0.length vc, .int .i64 at', .bool true] 3)) := q0q q rfl (by simp) (by simp)
  have Rb : RdW h0 (H.set b (.own 0 [.slice vb l0.length vc, .int .i64 at', .bool true] 3)) b l0 none := ⟨Heap.q02 a c _, c, _, at', true, Heap.q01 _ _ _, sl, ha, rfl⟩
  cases bad with
  | true =>
    have e : qd7 n s = ([], none) := by rw [hs]; rfl
    rw [e]
    simp -implicitDefEqProofs only [zA,reduceCtorEq,Nat.reduceEqDiff,Nat.reduceAdd,c2]
    unfold q1m
    simp -implicitDefEqProofs only [zA,reduceCtorEq,Nat.reduceEqDiff,st]
    exact ⟨Ow.nil _ _ _, Rb, Kp.set _ _ _⟩
  | false =>
    have w1 : IntKind.i64.wrap ((l0.length : Int) - at') = (l0.length : Int) - at' := q0w (by omega) (by omega)
    simp only [Bool.false_eq_true, if_false] at hs
    by_cases g : l0.length - at' < n
    · have g' : (l0.length : Int) - at' < n := by omega
      have e : qd7 n s = ([], none) := by
        rw [hs]; simp only [qd7]; rw [if_neg]; rw [List.length_drop]; omega
      rw [e]
      simp -implicitDefEqProofs only [zA,reduceCtorEq,Nat.reduceEqDiff,Nat.reduceAdd,c0,c1,c2,w1,g']
      unfold q1m
      simp -implicitDefEqProofs only [zA,reduceCtorEq,Nat.reduceEqDiff,st]
      exact ⟨Ow.nil _ _ _, Rb, Kp.set _ _ _⟩
    · have g' : ¬ (l0.length : Int) - at' < n := by omega
      have e : qd7 n s = ((l0.drop at').take n, some (l0.drop (at' + n))) := by
        rw [hs]; simp only [qd7]; rw [if_pos (by rw [List.length_drop]; omega), List.drop_drop]
      rw [e]
      have hc : l0.length ≤ vc := by
        rcases sl with ⟨e, hn, _⟩ | ⟨a', c', e, hc, _⟩
        · omega
        · simp only [Value.slice.injEq] at e
          omega
      have w2 : IntKind.i64.wrap ((at' : Int) + n) = ((at' + n : Nat) : Int) := by rw [q0w (by omega) (by omega)]; rfl
      have e1 : (0 : Int) ≤ at' := by omega
      have e2 : (at' : Int) ≤ ((at' + n : Nat) : Int) := by omega
      have b1 := qho (n := l0.length) (c := vc) (k := .i64) (k' := .i64) e1 e2 (by omega)
      have s1 := Sl.qwu sl (a := at') (b := at' + n) (by omega) (by omega)
      have e3 : at' + n - at' = n := by omega
      simp -implicitDefEqProofs only [zA,reduceCtorEq,Nat.reduceEqDiff,Nat.reduceAdd,c0,c1,c2,w1,g']
      unfold q1m
      simp -implicitDefEqProofs only [zA,reduceCtorEq,Nat.reduceEqDiff]
      unfold q4k
      simp -implicitDefEqProofs only [zA,reduceCtorEq,Nat.reduceEqDiff,c0,c1,w2,b1,Int.toNat_natCast,List.replicate_zero]
      intro b5 hb5
      rw [List.flatten_nil]
      rw [e3] at s1 ⊢
      have le5 := Heap.q02 (Heap.q04 H) hb5 (.own 0 [] 0)
      have l1 : ((l0.drop at').take n).length = n := by rw [List.length_take, List.length_drop]; omega
      have s1' : SlB H (.slice (if vc = at' then vb else vb.map fun x => x.add at') n (vc - at')) ((l0.drop at').take n) := s1.le a
      generalize (l0.drop at').take n = X at s1' l1 ⊢
      refine q0t (bytes := 1) (n := 0) (cells := []) (m := X.length) (news := X.map u8V) le5 (by omega) (Ow.new (Heap.q04 _) hb5 rfl (by omega) (by omega)) (s1'.le le5) (q1i X) (by omega) (by omega) ?_
      intro r H1 ow le1
      rw [Nat.zero_add, List.nil_append] at ow
      have d1 : q0x H1 ⟨b, 1, none⟩ = some (.int .i64 at') := by rw [q0k (le1 _ _ q) (by simp)]; rfl
      simp -implicitDefEqProofs only [zA,reduceCtorEq,Nat.reduceEqDiff]
      unfold q4j
      have st2 : q0a H1 1 (.pointer (some ⟨b, 1, none⟩)) (.int .i64 ((at' + n : Nat) : Int)) = some (H1.set b (.own 0 [.slice vb l0.length vc, .int .i64 ((at' + n : Nat) : Int), .bool false] 3)) := q0q (le1 _ _ q) rfl (by simp) (by simp)
      simp -implicitDefEqProofs only [zA,reduceCtorEq,Nat.reduceEqDiff,d1,w2,st2]
      have k1 : Kp b H1 (H1.set b (.own 0 [.slice vb l0.length vc, .int .i64 ((at' + n : Nat) : Int), .bool false] 3)) := Kp.set _ _ _
      exact ⟨Ow.kp ow k1 ne, ⟨Heap.q02 (Heap.q00 a le1) c _, c, _, at' + n, false, Heap.q01 _ _ _, sl, by omega, rfl⟩, (Kp.of le1).trans k1⟩
theorem and127b : ∀ x : Fin 256, (BitVec.ofNat 8 x.val &&& 127#8).toNat = x.val % 128 := by decide
theorem u8_7b (x : UInt8) : IntKind.u8.wrap (((BitVec.ofInt IntKind.u8.bits (x.toNat : Int) &&& BitVec.ofInt IntKind.u8.bits 127).toNat : Nat) : Int) = ((x.toNat % 128 : Nat) : Int) := by
  have e : BitVec.ofInt IntKind.u8.bits (x.toNat : Int) = BitVec.ofNat 8 x.toNat := by rw [BitVec.ofInt_natCast]; rfl
  have e2 : BitVec.ofInt IntKind.u8.bits 127 = 127#8 := rfl
  have h := and127b ⟨x.toNat, x.toNat_lt⟩
  simp only at h
  rw [e, e2, qis]
  show (((BitVec.ofNat 8 x.toNat &&& 127#8).toNat % 256 : Nat) : Int) = _
  rw [h]
  omega
theorem q3d (E : EnvT tab) {h0 H : Heap} {b : Nat} {l0 : List UInt8} {s : RS} (R : RdW h0 H b l0 s) (hl : l0.length ≤ 100000000) (lim : Nat) (hlim : lim < 9223372036854775808) :
    ACallN E.toEnv qe8 [.pointer (some ⟨b, 0, none⟩), .int .i64 lim] H fun r h' => r = .int .i64 (numS lim s).1 ∧ RdW h0 h' b l0 (numS lim s).2 ∧ Kp b H h' := by
  obtain ⟨a, c, v, at', bad, q, sl, ha, hs⟩ := R
  obtain ⟨vb, vc, rfl⟩ := Sl.shape sl
  refine q0o q3r q1v rfl rfl (q03 ?_)
  unfold q1v
  have c0 : q0x H ⟨b, 0, none⟩ = some (.slice vb l0.length vc) := by rw [q0k q (by simp)]; rfl
  have c1 : q0x H ⟨b, 1, none⟩ = some (.int .i64 at') := by rw [q0k q (by simp)]; rfl
  have c2 : q0x H ⟨b, 2, none⟩ = some (.bool bad) := by rw [q0k q (by simp)]; rfl
  have st : q0a H 1 (.pointer (some ⟨b, 2, none⟩)) (.bool true) = some (H.set b (.own 0 [.slice vb l0.length vc, .int .i64 at', .bool true] 3)) := q0q q rfl (by simp) (by simp)
  have Rb : RdW h0 (H.set b (.own 0 [.slice vb l0.length vc, .int .i64 at', .bool true] 3)) b l0 none := ⟨Heap.q02 a c _, c, _, at', true, Heap.q01 _ _ _, sl, ha, rfl⟩
  have Kb : Kp b H (H.set b (.own 0 [.slice vb l0.length vc, .int .i64 at', .bool true] 3)) := Kp.set _ _ _
  have g0 : ¬ (lim : Int) < 0 := by omega
  simp -implicitDefEqProofs only [zA,reduceCtorEq,Nat.reduceEqDiff,Nat.reduceAdd,g0]
  cases bad with
  | true =>
    have e : numS lim s = (0, none) := by rw [hs]; rfl
    rw [e]
    refine q0c (fun m t G => G = H ∧ t = tl [(0, .pointer (some ⟨b, 0, none⟩)), (1, .int .i64 lim), (5, .int .i64 0), (6, .int .i64 0)]) 0 ⟨rfl, rfl⟩ ?_
    rintro m t G ⟨rfl, rfl⟩
    simp -implicitDefEqProofs only [zA,reduceCtorEq,Nat.reduceEqDiff,c2]
    unfold q0r
    simp -implicitDefEqProofs only [zA,reduceCtorEq,Nat.reduceEqDiff,st]
    exact ⟨Rb, Kb⟩
  | false =>
    simp only [Bool.false_eq_true, if_false] at hs
    have fin : numS lim s = match rdF lim 9 0 0 (l0.drop at') with | none => (0, none) | some (n, r) => (n, some r) := by rw [hs]; rfl
    have ll : (l0.drop at').length = l0.length - at' := List.length_drop
    have lat : ∀ i (h : i < (l0.drop at').length), (l0.drop at')[i] = l0[at' + i]'(by omega) := fun i h => List.getElem_drop
    obtain ⟨l, hl'⟩ : ∃ l, l = l0.drop at' := ⟨_, rfl⟩
    refine q0c (fun m t G => G = H ∧ ∃ (i V : Nat), t = tl [(0, .pointer (some ⟨b, 0, none⟩)), (1, .int .i64 lim), (5, .int .i64 V), (6, .int .i64 i)] ∧ i ≤ 9 ∧ i ≤ (l0.drop at').length ∧ m = 10 - i ∧ V < 128 ^ i ∧ rdF lim 9 0 0 (l0.drop at') = rdF lim (9 - i) i V ((l0.drop at').drop i)) 10
      ⟨rfl, 0, 0, rfl, by omega, by omega, by omega, by omega, rfl⟩ ?_
    rintro m t G ⟨rfl, i, V, rfl, hi, hi', rfl, hV, he⟩
    have wa : IntKind.i64.wrap ((at' : Int) + i) = ((at' + i : Nat) : Int) := by rw [q0w (by omega) (by omega)]; rfl
    by_cases h1 : l0.length ≤ at' + i
    · have h1' : (l0.length : Int) ≤ ((at' + i : Nat) : Int) := by omega
      have he2 : rdF lim 9 0 0 (l0.drop at') = none := by
        rw [he]
        have : (l0.drop at').drop i = [] := List.drop_eq_nil_of_le (by omega)
        rw [this]
        cases 9 - i <;> rfl
      rw [fin, he2]
      simp -implicitDefEqProofs only [zA,reduceCtorEq,Nat.reduceEqDiff,c2]
      unfold q1n
      simp -implicitDefEqProofs only [zA,reduceCtorEq,Nat.reduceEqDiff,Nat.reduceBEq,c0,c1,wa,h1']
      unfold q0r
      simp -implicitDefEqProofs only [zA,reduceCtorEq,Nat.reduceEqDiff,st]
      exact ⟨Rb, Kb⟩
    have h1' : ¬ (l0.length : Int) ≤ ((at' + i : Nat) : Int) := by omega
    by_cases h2 : i = 9
    · have h2' : (9 : Int) ≤ i := by omega
      have he2 : rdF lim 9 0 0 (l0.drop at') = none := by
        rw [he, h2]; rfl
      rw [fin, he2]
      simp -implicitDefEqProofs only [zA,reduceCtorEq,Nat.reduceEqDiff,c2]
      unfold q1n
      simp -implicitDefEqProofs only [zA,reduceCtorEq,Nat.reduceEqDiff,Nat.reduceBEq,c0,c1,wa,h1',h2']
      unfold q0r
      simp -implicitDefEqProofs only [zA,reduceCtorEq,Nat.reduceEqDiff,st]
      exact ⟨Rb, Kb⟩
    have h2' : ¬ (9 : Int) ≤ i := by omega
    have hi1 : ((at' + i : Nat) : Int) < l0.length := by omega
    have hi2 : (0 : Int) ≤ ((at' + i : Nat) : Int) := by omega
    obtain ⟨bb, o, cc, hv, hcc, hb⟩ := Sl.q7x sl (at' + i) (by omega)
    simp only [Value.slice.injEq, true_and] at hv
    obtain ⟨rfl, rfl⟩ := hv
    have hb := hb G a
    have hd : (l0.drop at').drop i = l0[at' + i]'(by omega) :: (l0.drop at').drop (i + 1) := by
      rw [List.drop_eq_getElem_cons (by omega), lat]
    generalize l0[at' + i]'(by omega) = x at hb hd
    unfold u8V at hb
    have hx8 := x.toNat_lt
    have hp := qz6 (i := i) (by omega)
    have p2 : 128 ^ i = 2 ^ (7 * i) := by rw [Nat.pow_mul]
    have hm : x.toNat % 128 < 128 := Nat.mod_lt _ (by omega)
    have hm2 : x.toNat % 128 * 128 ^ i ≤ 127 * 128 ^ i := Nat.mul_le_mul_right _ (by omega)
    have w7 : IntKind.i64.wrap (7 * (i : Int)) = ((7 * i : Nat) : Int) := by rw [q0w (by omega) (by omega)]; omega
    have u7 : IntKind.u64.wrap ((7 * i : Nat) : Int) = ((7 * i : Nat) : Int) := by simp [IntKind.wrap, IntKind.bits, IntKind.signed]; omega
    have n7 : ¬ (((7 * i : Nat) : Int) < 0) := by omega
    have m7 : min (7 * i) IntKind.i64.bits = 7 * i := by (have : IntKind.i64.bits = 64 := rfl); (omega)
    have wc : IntKind.i64.wrap ((x.toNat % 128 : Nat) : Int) = ((x.toNat % 128 : Nat) : Int) := q0w (by omega) (by omega)
    have ws' : IntKind.i64.wrap (((x.toNat % 128 : Nat) : Int) * 2 ^ (7 * i)) = ((x.toNat % 128 * 128 ^ i : Nat) : Int) := by
      have : (((x.toNat % 128 : Nat) : Int) * 2 ^ (7 * i)) = ((x.toNat % 128 * 2 ^ (7 * i) : Nat) : Int) := by simp
      rw [this, ← p2, q0w (by omega) (by omega)]
    have wo := or_add V (x.toNat % 128) (7 * i) (by rw [← p2]; exact hV) (by rw [← p2]; omega)
    rw [← p2] at wo
    have w1 : IntKind.i64.wrap ((i : Int) + 1) = ((i + 1 : Nat) : Int) := q2k (by omega)
    have h9 : 9 - i = (8 - i) + 1 := by omega
    rw [hd, h9, rdF] at he
    have hw : V + x.toNat % 128 * 128 ^ i < 128 ^ (i + 1) := by rw [Nat.pow_succ]; omega
    simp -implicitDefEqProofs only [zA,reduceCtorEq,Nat.reduceEqDiff,c2]
    unfold q1n
    simp -implicitDefEqProofs only [zA,reduceCtorEq,Nat.reduceEqDiff,c0,c1,wa,h1',h2']
    unfold q5i
    simp -implicitDefEqProofs only [zA,reduceCtorEq,Nat.reduceEqDiff,c0,c1,wa,hi1,hi2,Int.toNat_natCast,hb]
    unfold q5h
    by_cases g1 : 128 ≤ x.toNat
    · rw [if_pos g1] at he
      have g1' : (128 : Int) ≤ x.toNat := by omega
      simp -implicitDefEqProofs only [zA,reduceCtorEq,Nat.reduceEqDiff,u8_7b,w7,u7,n7,m7,wc,ws',wo,Int.toNat_natCast,g1',w1]
      refine ⟨10 - (i + 1), by omega, i + 1, _, rfl, by omega, by omega, rfl, hw, ?_⟩
      have e9 : 9 - (i + 1) = 8 - i := by omega
      rw [e9]; exact he
    · rw [if_neg g1] at he
      have g1' : ¬ (128 : Int) ≤ x.toNat := by omega
      have x7 : x.toNat % 128 = x.toNat := Nat.mod_eq_of_lt (by omega)
      simp -implicitDefEqProofs only [zA,reduceCtorEq,Nat.reduceEqDiff,u8_7b,w7,u7,n7,m7,wc,ws',wo,Int.toNat_natCast,g1']
      unfold q5g
      generalize hW : V + x.toNat % 128 * 128 ^ i = W at *
      by_cases g2 : 0 < i ∧ x.toNat = 0
      · rw [if_pos (.inl g2)] at he
        obtain ⟨g3, g4⟩ := g2
        have g3' : (0 : Int) < i := by omega
        rw [fin, he]
        simp -implicitDefEqProofs only [zA,reduceCtorEq,Nat.reduceEqDiff,Int.reduceBEq,Nat.reduceBEq,g3',g4]
        unfold q0r
        simp -implicitDefEqProofs only [zA,reduceCtorEq,Nat.reduceEqDiff,st]
        exact ⟨Rb, Kb⟩
      · by_cases g5 : lim < W
        · rw [if_pos (.inr g5)] at he
          have g5' : (lim : Int) < W := by omega
          rw [fin, he]
          by_cases g4 : x.toNat = 0
          · have g3 : ¬ (0 : Int) < i := by omega
            simp -implicitDefEqProofs only [zA,reduceCtorEq,Nat.reduceEqDiff,Int.reduceBEq,Nat.reduceBEq,g4,g3,g5']
            unfold q0r
            simp -implicitDefEqProofs only [zA,reduceCtorEq,Nat.reduceEqDiff,st]
            exact ⟨Rb, Kb⟩
          · have g4' : ¬ (x.toNat : Int) = 0 := by omega
            simp -implicitDefEqProofs only [zA,reduceCtorEq,Nat.reduceEqDiff,Nat.reduceBEq,g4',g5']
            unfold q0r
            simp -implicitDefEqProofs only [zA,reduceCtorEq,Nat.reduceEqDiff,st]
            exact ⟨Rb, Kb⟩
        · rw [if_neg (show ¬ ((0 < i ∧ x.toNat = 0) ∨ lim < W) from fun h => h.elim g2 g5)] at he
          have g5' : ¬ (lim : Int) < W := by omega
          rw [fin, he]
          have wb : IntKind.i64.wrap (((at' + i : Nat) : Int) + 1) = ((at' + i + 1 : Nat) : Int) := q2k (by omega)
          have st2 : q0a G 1 (.pointer (some ⟨b, 1, none⟩)) (.int .i64 ((at' + i + 1 : Nat) : Int)) = some (G.set b (.own 0 [.slice (some ⟨bb, o, none⟩) l0.length vc, .int .i64 ((at' + i + 1 : Nat) : Int), .bool false] 3)) := q0q q rfl (by simp) (by simp)
          have fin2 : RdW h0 (G.set b (.own 0 [.slice (some ⟨bb, o, none⟩) l0.length vc, .int .i64 ((at' + i + 1 : Nat) : Int), .bool false] 3)) b l0 (some ((l0.drop at').drop (i + 1))) := by
            refine ⟨Heap.q02 a c _, c, _, at' + i + 1, false, Heap.q01 _ _ _, sl, by omega, ?_⟩
            simp only [Bool.false_eq_true, if_false, List.drop_drop]
            congr 2
          by_cases g4 : x.toNat = 0
          · have g3 : ¬ (0 : Int) < i := by omega
            simp -implicitDefEqProofs only [zA,reduceCtorEq,Nat.reduceEqDiff,Int.reduceBEq,g4,g3,g5',c1,wa,wb,st2]
            exact ⟨fin2, Kp.set _ _ _⟩
          · have g4' : ¬ (x.toNat : Int) = 0 := by omega
            simp -implicitDefEqProofs only [zA,reduceCtorEq,Nat.reduceEqDiff,g4',g5',c1,wa,wb,st2]
            exact ⟨fin2, Kp.set _ _ _⟩
theorem qb8 (E : EnvT tab) {h0 H : Heap} {b : Nat} {l0 : List UInt8} {s : RS} (R : RdW h0 H b l0 s) (hl : l0.length ≤ 100000000) (lim : Nat) (hlim : lim ≤ 100000000) :
    ACallN E.toEnv qcy [.pointer (some ⟨b, 0, none⟩), .int .i64 lim] H fun r h' => OwB H h' r (q69 lim s).1 ∧ RdW h0 h' b l0 (q69 lim s).2 ∧ Kp b H h' := by
  have ne := R.ne
  refine q0o q2w q1p rfl rfl (q03 ?_)
  unfold q1p
  simp -implicitDefEqProofs only [zA,reduceCtorEq,Nat.reduceEqDiff,Nat.reduceAdd]
  unfold q4l
  simp -implicitDefEqProofs only [zA,reduceCtorEq,Nat.reduceEqDiff]
  refine (q3d E R hl lim (by omega)).mono ?_
  rintro r H1 ⟨rfl, R1, k1⟩
  have hn := qgn lim s
  unfold q69
  have R1' := R1
  obtain ⟨a, c, v, at', bad, q, sl, ha, hs⟩ := R1
  obtain ⟨vb, vc, rfl⟩ := Sl.shape sl
  have c0 : q0x H1 ⟨b, 0, none⟩ = some (.slice vb l0.length vc) := by rw [q0k q (by simp)]; rfl
  have c2 : q0x H1 ⟨b, 2, none⟩ = some (.bool bad) := by rw [q0k q (by simp)]; rfl
  have st : q0a H1 1 (.pointer (some ⟨b, 2, none⟩)) (.bool true) = some (H1.set b (.own 0 [.slice vb l0.length vc, .int .i64 at', .bool true] 3)) := q0q q rfl (by simp) (by simp)
  have Rb : RdW h0 (H1.set b (.own 0 [.slice vb l0.length vc, .int .i64 at', .bool true] 3)) b l0 none := ⟨Heap.q02 a c _, c, _, at', true, Heap.q01 _ _ _, sl, ha, rfl⟩
  have Kb : Kp b H (H1.set b (.own 0 [.slice vb l0.length vc, .int .i64 at', .bool true] 3)) := k1.trans (Kp.set _ _ _)
  generalize (numS lim s).1 = n at *
  generalize (numS lim s).2 = s1 at *
  cases bad with
  | true =>
    have e : qd7 n s1 = ([], none) := by rw [hs]; rfl
    rw [e]
    simp -implicitDefEqProofs only [zA,reduceCtorEq,Nat.reduceEqDiff,c2,st]
    exact ⟨Ow.nil _ _ _, Rb, Kb⟩
  | false =>
    simp only [Bool.false_eq_true, if_false] at hs
    by_cases g : l0.length < n
    · have g' : (l0.length : Int) < n := by omega
      have e : qd7 n s1 = ([], none) := by
        rw [hs]; simp only [qd7]; rw [if_neg]; rw [List.length_drop]; omega
      rw [e]
      simp -implicitDefEqProofs only [zA,reduceCtorEq,Nat.reduceEqDiff,c2,c0,g',st]
      exact ⟨Ow.nil _ _ _, Rb, Kb⟩
    · have g' : ¬ (l0.length : Int) < n := by omega
      simp -implicitDefEqProofs only [zA,reduceCtorEq,Nat.reduceEqDiff,c2,c0,g']
      refine (qt2 E R1' hl n (by omega)).mono ?_
      rintro r H2 ⟨ow, R2, k2⟩
      simp -implicitDefEqProofs only [zA,reduceCtorEq,Nat.reduceEqDiff]
      refine ⟨?_, R2, k1.trans k2⟩
      rcases ow with s0 | ⟨b', o, c, sz, st', pre, rest, h1, h2, h3, h4, h5⟩
      · exact .inl s0
      · refine .inr ⟨b', o, c, sz, st', pre, rest, h1, h2, ?_, h4, h5⟩
        cases hq : H b' with
        | none => rfl
        | some x =>
          by_cases e : b' = b
          · subst e; rw [q] at h3; cases h3
          · have := k1 _ _ e hq
            rw [h3] at this; cases this
theorem qou (E : EnvT tab) (H : Heap) (v : List Int) (h8 : v.length = 8) : ACallN E.toEnv qg8 [.agg (v.map (.int .i64)).toArray] H fun r H' => H.le H' ∧ r = .bool (vecG v) := by
  refine q0o q5r q2q rfl rfl (q03 ?_)
  unfold q2q
  have vl : (v.map (Value.int .i64)).length = 8 := by simp [h8]
  simp -implicitDefEqProofs only [zA,reduceCtorEq,Nat.reduceEqDiff]
  intro b hb
  try simp -implicitDefEqProofs only [zA,reduceIte,reduceCtorEq,Nat.reduceEqDiff,Nat.reduceAdd,Nat.reduceMul,Nat.reduceLT,Nat.reduceSub,Int.reduceLT,Int.reduceLE,Int.reduceEq,Int.reduceNe,Int.reduceSub,Int.reduceAdd,Int.reduceMul,Int.reduceBEq,Int.reduceBNe,Int.reduceGT,Int.reduceGE,Nat.reduceGT,Int.reduceToNat,Int.reduceNeg,Nat.reduceLeDiff,Nat.reduceBEq,Nat.reduceBneDiff]
  rw [vl]
  have le1 := Heap.q02 (Heap.q04 H) hb (.own 0 (v.map (.int .i64)) 8)
  have q : (H.set b (.own 0 (v.map (.int .i64)) 8)) b = some (.own 0 (v.map (.int .i64)) 8) := Heap.q01 _ _ _
  generalize (H.set b (.own 0 (v.map (.int .i64)) 8)) = H1 at le1 q
  refine q0c (fun m t G => G = H1 ∧ ∃ i : Nat, t = tl [(1, .pointer (some ⟨b, 0, none⟩)), (3, .int .i64 i)] ∧ i ≤ 8 ∧ m = 8 - i ∧ (v.take i).all (fun n => decide (0 ≤ n ∧ n ≤ 1099511627776)) = true) 8
    ⟨rfl, 0, rfl, by omega, by omega, by simp⟩ ?_
  rintro m t G ⟨rfl, i, rfl, hi, rfl, ha⟩
  by_cases hlt : i < 8
  · have hi1 : (i : Int) < 8 := by omega
    have hi2 : (0 : Int) ≤ i := by omega
    have w1 : IntKind.i64.wrap ((i : Int) + 1) = ((i + 1 : Nat) : Int) := q2k (by omega)
    have ci : q0x G ⟨b, i, none⟩ = some (.int .i64 (v[i]'(by omega))) := by
      rw [q0k q (by omega)]; simp
    have et : v.take (i + 1) = v.take i ++ [v[i]'(by omega)] := List.take_succ_eq_append_getElem (by omega)
    have hmem : v[i]'(by omega) ∈ v := List.getElem_mem _
    generalize v[i]'(by omega) = x at ci et hmem
    by_cases g : 0 ≤ x ∧ x ≤ 1099511627776
    · have g1 : ¬ (x < 0) := by omega
      have g2 : ¬ (1099511627776 < x) := by omega
      simp -implicitDefEqProofs only [zA,Nat.reduceEqDiff,hi1,hi2,Int.toNat_natCast,ci,g1,g2,w1]
      refine ⟨_, ?_, i + 1, rfl, by omega, rfl, ?_⟩
      · omega
      · rw [et, List.all_append, ha]; simp [g]
    · have hf : vecG v = false := by
        unfold vecG
        rw [List.all_eq_false]
        exact ⟨x, hmem, by simpa using g⟩
      rw [hf]
      by_cases g1 : x < 0
      · simp -implicitDefEqProofs only [zA,Nat.reduceEqDiff,hi1,hi2,Int.toNat_natCast,ci,g1]
        exact le1
      · have g2 : 1099511627776 < x := by omega
        simp -implicitDefEqProofs only [zA,Nat.reduceEqDiff,hi1,hi2,Int.toNat_natCast,ci,g1,g2]
        exact le1
  · have e : i = 8 := by omega
    subst e
    rw [List.take_of_length_le (by omega)] at ha
    have hf : vecG v = true := ha
    simp -implicitDefEqProofs only [zA,Nat.reduceEqDiff,Nat.reduceSub,Int.reduceLT,hf]
    exact le1
theorem qn4 (E : EnvT tab) (H : Heap) (s : List UInt8) (hs : s.length ≤ 9000000000000000000) : ACallN E.toEnv qjk [strV s] H fun r H' => H' = H ∧ r = .bool (qkp s) := by
  refine q0o q8l q40 rfl rfl (q03 ?_)
  unfold q40 strV
  have ez := qcu s
  unfold qkp
  simp -implicitDefEqProofs only [zA,reduceCtorEq]
  refine q0c (fun m t G => G = H ∧ ∃ i : Nat, t = tl [(0, .string ⟨s.toArray⟩), (3, .int .i64 i)] ∧ i ≤ s.length ∧ m = s.length - i ∧ (s.take i).all (fun b => decide (33 ≤ b.toNat ∧ b.toNat ≤ 126)) = true) s.length
    ⟨rfl, 0, rfl, by omega, by omega, by simp⟩ ?_
  rintro m t G ⟨rfl, i, rfl, hi, rfl, ha⟩
  by_cases hlt : i < s.length
  · have hi1 : (i : Int) < s.length := by omega
    have hi2 : (0 : Int) ≤ i := by omega
    have w1 : IntKind.i64.wrap ((i : Int) + 1) = ((i + 1 : Nat) : Int) := q2k (by omega)
    have ix : s[i]? = some s[i] := List.getElem?_eq_getElem hlt
    have ad : s.toArray.toList = s := rfl
    by_cases g : 33 ≤ s[i].toNat ∧ s[i].toNat ≤ 126
    · have g1 : ¬ ((s[i].toNat : Int) < 33) := by omega
      have g2 : ¬ ((126 : Int) < s[i].toNat) := by omega
      simp -implicitDefEqProofs only [zA,reduceCtorEq,Nat.reduceEqDiff,ez,hi1,hi2,Int.toNat_natCast,ix,g1,g2,w1]
      refine ⟨_, ?_, i + 1, rfl, by omega, rfl, ?_⟩
      · omega
      · rw [List.take_succ_eq_append_getElem hlt, List.all_append, ha]; simp [g]
    · have hf : s.all (fun b => decide (33 ≤ b.toNat ∧ b.toNat ≤ 126)) = false := by
        rw [List.all_eq_false]
        exact ⟨s[i], List.getElem_mem hlt, by simpa using g⟩
      rw [hf]
      by_cases g1 : (s[i].toNat : Int) < 33
      · simp -implicitDefEqProofs only [zA,reduceCtorEq,Nat.reduceEqDiff,ez,hi1,hi2,Int.toNat_natCast,ix,g1,Bool.false_and]
      · have g2 : (126 : Int) < s[i].toNat := by omega
        simp -implicitDefEqProofs only [zA,reduceCtorEq,Nat.reduceEqDiff,ez,hi1,hi2,Int.toNat_natCast,ix,g1,g2,Bool.false_and]
  · have hi1 : ¬ (i : Int) < s.length := by omega
    have e : i = s.length := by omega
    subst e
    rw [List.take_length] at ha
    rw [ha, Bool.true_and]
    simp -implicitDefEqProofs only [zA,reduceCtorEq,Nat.reduceEqDiff,ez,hi1]
    unfold q9u
    by_cases g1 : 1 ≤ s.length
    · have g1' : (1 : Int) ≤ s.length := by omega
      by_cases g2 : s.length ≤ 40
      · have g2' : (s.length : Int) ≤ 40 := by omega
        simp -implicitDefEqProofs only [zA,reduceCtorEq,Nat.reduceEqDiff,ez,g1',g2',g1,g2]
      · have g2' : ¬ (s.length : Int) ≤ 40 := by omega
        simp -implicitDefEqProofs only [zA,reduceCtorEq,Nat.reduceEqDiff,ez,g1',g2',g1,g2]
    · have g1' : ¬ (1 : Int) ≤ s.length := by omega
      simp -implicitDefEqProofs only [zA,reduceCtorEq,Nat.reduceEqDiff,ez,g1',g1,false_and]
theorem q8a (E : EnvT tab) (H : Heap) (e : Ed) (h8 : e.seen.length = 8) (hc : e.con.length ≤ 9000000000000000000) (hf : e.fld.length ≤ 9000000000000000000) (hn : -9223372036854775808 ≤ e.n) (hn2 : e.n ≤ 9223372036854775807) :
    ACallN E.toEnv qfe [.agg (edC e).toArray] H fun r H' => H.le H' ∧ r = .bool (q28 e) := by
  refine q0o q5d q2h rfl rfl (q03 ?_)
  unfold q2h
  have el := q1a h8
  simp -implicitDefEqProofs only [zA,reduceCtorEq,Nat.reduceEqDiff]
  intro b hb
  try simp -implicitDefEqProofs only [zA,reduceIte,reduceCtorEq,Nat.reduceEqDiff,Nat.reduceAdd,Nat.reduceMul,Nat.reduceLT,Nat.reduceSub,Int.reduceLT,Int.reduceLE,Int.reduceEq,Int.reduceNe,Int.reduceSub,Int.reduceAdd,Int.reduceMul,Int.reduceBEq,Int.reduceBNe,Int.reduceGT,Int.reduceGE,Nat.reduceGT,Int.reduceToNat,Int.reduceNeg,Nat.reduceLeDiff,Nat.reduceBEq,Nat.reduceBneDiff]
  rw [el]
  have le1 := Heap.q02 (Heap.q04 H) hb (.own 0 (edC e) 15)
  have A : EdAt (H.set b (.own 0 (edC e) 15)) b e := EdAt.of (Heap.q01 _ _ _) h8
  generalize (H.set b (.own 0 (edC e) 15)) = H1 at le1 A
  unfold q7g
  by_cases c0 : e.dev < 0
  · have hf : q28 e = false := by (have : ¬ (0 ≤ e.dev) := by omega); (simp [q28, this])
    rw [hf]
    simp -implicitDefEqProofs only [zA,Nat.reduceEqDiff,A.dev,c0]
    exact le1
  by_cases c1 : 7 < e.dev
  · have hf : q28 e = false := by (have : ¬ (e.dev < 8) := by omega); (simp [q28, this])
    rw [hf]
    simp -implicitDefEqProofs only [zA,Nat.reduceEqDiff,A.dev,c0,c1]
    exact le1
  by_cases c2 : e.n < 1
  · have hf : q28 e = false := by (have : ¬ (1 ≤ e.n) := by omega); (simp [q28, this])
    rw [hf]
    simp -implicitDefEqProofs only [zA,Nat.reduceEqDiff,A.dev,c0,c1,A.n,c2]
    exact le1
  by_cases c3 : 1099511627776 < e.n
  · have hf : q28 e = false := by (have : ¬ (e.n ≤ 1099511627776) := by omega); (simp [q28, this])
    rw [hf]
    simp -implicitDefEqProofs only [zA,Nat.reduceEqDiff,A.dev,c0,c1,A.n,c2,c3]
    exact le1
  have w1 : IntKind.i64.wrap (e.n - 1) = e.n - 1 := q0w (by omega) (by omega)
  simp -implicitDefEqProofs only [zA,Nat.reduceEqDiff,A.dev,c0,c1,A.n,c2,c3,A.seen]
  refine (qou E H1 e.seen h8).mono ?_
  rintro r H3 ⟨le3, rfl⟩
  have A3 := A.le h8 le3
  have hD : e.dev.toNat < e.seen.length := by omega
  have xD := A3.at' e.dev.toNat hD
  have q1 : (0 : Int) ≤ e.dev := by omega
  have q2 : e.dev < 8 := by omega
  have leH := Heap.q00 le1 le3
  by_cases c4 : vecG e.seen = true
  · by_cases c5 : e.seen[e.dev.toNat] = e.n - 1
    · have hn1 : 1 ≤ e.n := by omega
      have hn3 : e.n ≤ 1099511627776 := by omega
      have e5 : e.seen[e.dev.toNat]? = some (e.n - 1) := by rw [List.getElem?_eq_getElem hD, c5]
      have e0 : q28 e = (decide (0 ≤ e.time ∧ e.time ≤ 1099511627776) && qkp e.con && (decide (e.kind = 1) && (qkp e.fld && decide (e.val.length ≤ 200)) || decide (e.kind = 2) && (decide (e.fld = []) && decide (e.val = [])))) := by
        simp [q28, q1, q2, hn1, hn3, c4, e5]
      rw [e0]
      clear e0 e5
      have x1 := A.at' e.dev.toNat hD
      by_cases d1 : e.time < 0
      · have d1' : ¬ 0 ≤ e.time := by omega
        simp -implicitDefEqProofs only [zA,Nat.reduceEqDiff,c4,A3.dev,A3.n,xD,q1,q2,w1,c5,bne_self_eq_false,A3.time,d1,d1',false_and,Bool.false_and,and_self]
        exact leH
      by_cases d2 : 1099511627776 < e.time
      · have d1' : ¬ (0 ≤ e.time ∧ e.time ≤ 1099511627776) := by omega
        simp -implicitDefEqProofs only [zA,Nat.reduceEqDiff,c4,A3.dev,A3.n,xD,q1,q2,w1,c5,bne_self_eq_false,A3.time,d1,d2,d1',Bool.false_and,and_self]
        exact leH
      have d1' : 0 ≤ e.time ∧ e.time ≤ 1099511627776 := by omega
      simp -implicitDefEqProofs only [zA,Nat.reduceEqDiff,c4,A3.dev,A3.n,xD,q1,q2,w1,c5,bne_self_eq_false,A3.time,d1,d2,A3.con,and_self]
      refine (qn4 E H3 e.con hc).mono ?_
      rintro r H4 ⟨rfl, rfl⟩
      cases d3 : qkp e.con with
      | false =>
        simp -implicitDefEqProofs only [zA,Nat.reduceEqDiff,d1',Bool.false_and]
        exact leH
      | true =>
        have ev := qcu e.val
        have vv : strV e.val = .string ⟨e.val.toArray⟩ := rfl
        have k3 := A3.val
        rw [vv] at k3
        have k1 := A.val
        rw [vv] at k1
        by_cases d4 : 200 < e.val.length
        · have d4' : (200 : Int) < e.val.length := by omega
          have hv : decide (e.val.length ≤ 200) = false := decide_eq_false (by omega)
          have hv2 : decide (e.val = []) = false := decide_eq_false (by intro h; rw [h] at d4; simp at d4)
          rw [hv, hv2]
          simp -implicitDefEqProofs only [zA,Nat.reduceEqDiff,d1',k3,ev,d4',Bool.and_false,Bool.or_false,and_self]
          exact leH
        · have d4' : ¬ (200 : Int) < e.val.length := by omega
          have hv : decide (e.val.length ≤ 200) = true := decide_eq_true (by omega)
          rw [hv, Bool.and_true]
          simp -implicitDefEqProofs only [zA,Nat.reduceEqDiff,d1',k3,ev,d4',and_self]
          unfold q6r
          by_cases d5 : e.kind = 2
          · have d6 : ¬ e.kind = 1 := by omega
            have b1 := qo5 e.fld
            have b2 := qo5 e.val
            generalize decide (e.fld = []) = p1 at b1 ⊢
            generalize decide (e.val = []) = p2 at b2 ⊢
            cases p1 with
            | true =>
              simp -implicitDefEqProofs only [zA,Nat.reduceEqDiff,Int.reduceEq,Int.reduceBEq,d5,A3.kind,A3.fld,A3.val,b1,b2,Bool.false_and]
              exact ⟨leH, rfl⟩
            | false =>
              simp -implicitDefEqProofs only [zA,Nat.reduceEqDiff,Int.reduceEq,Int.reduceBEq,d5,A3.kind,A3.fld,b1,Bool.false_and]
              exact ⟨leH, rfl⟩
          · by_cases d6 : e.kind = 1
            · simp -implicitDefEqProofs only [zA,Nat.reduceEqDiff,Int.reduceEq,Int.reduceBEq,d6,A3.kind,A3.fld]
              refine (qn4 E _ e.fld hf).mono ?_
              rintro r H5 ⟨rfl, rfl⟩
              simp -implicitDefEqProofs only [zA,Nat.reduceEqDiff,Bool.false_and,Bool.or_false]
              exact leH
            · simp -implicitDefEqProofs only [zA,Nat.reduceEqDiff,d5,d6,A3.kind,Bool.false_and,Bool.or_false]
              exact leH
    · have c5' : (e.seen[e.dev.toNat] != e.n - 1) = true := by simpa using c5
      have hf : q28 e = false := by
        have : ¬ e.seen[e.dev.toNat]? = some (e.n - 1) := by rw [List.getElem?_eq_getElem hD]; simpa using c5
        simp [q28, this]
      rw [hf]
      simp -implicitDefEqProofs only [zA,Nat.reduceEqDiff,c4,A3.dev,A3.n,xD,q1,q2,w1,c5']
      exact leH
  · have c4' : vecG e.seen = false := by simpa using c4
    have hf : q28 e = false := by simp [q28, c4']
    rw [hf]
    simp -implicitDefEqProofs only [zA,Nat.reduceEqDiff,c4']
    exact leH
end Go.Bb
