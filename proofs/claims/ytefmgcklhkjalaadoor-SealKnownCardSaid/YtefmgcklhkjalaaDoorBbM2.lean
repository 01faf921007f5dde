/- My contracts: BbChk BbKnown23. -/
import Derived.Test.YtefmgcklhkjalaaDoorBbG3
import Derived.Test.YtefmgcklhkjalaaDoorBbM1
/- The reckoner with streams' blocks, tags' products and sums' blocks at once. -/
namespace Go.Bb
set_option linter.unusedSimpArgs false
set_option linter.unusedVariables false
set_option maxRecDepth 20000

/-! ### blocks of a stream, as lists -/
def quarL (s : List U32) (i j k l : Nat) : List U32 :=
  let q := quarF ⟨s.getD i 0, s.getD j 0, s.getD k 0, s.getD l 0⟩
  (((s.set i q.a).set j q.b).set k q.c).set l q.d
theorem getD_setU {l : List U32} {i x : Nat} {z : U32} (hi : i < l.length) : (l.set i z).getD x 0 = if x = i then z else l.getD x 0 := by
  simp only [List.getD_eq_getElem?_getD]
  by_cases e : x = i
  · subst e; rw [List.getElem?_set_self hi]; simp
  · rw [List.getElem?_set_ne (Ne.symm e), if_neg e]
theorem quarL_len (s : List U32) (i j k l : Nat) : (quarL s i j k l).length = s.length := by simp [quarL]
theorem quarL_get (s : List U32) (hs : s.length = 16) (i j k l : Nat) (hi : i < 16) (hj : j < 16) (hk : k < 16) (hl : l < 16) : (fun x => (quarL s i j k l).getD x 0) = mixQ (fun x => s.getD x 0) i j k l := by
  funext x
  unfold quarL mixQ updU
  simp only
  rw [getD_setU (by simp [hs]; omega), getD_setU (by simp [hs]; omega), getD_setU (by simp [hs]; omega), getD_setU (by omega)]
def dblL (s : List U32) : List U32 :=
  quarL (quarL (quarL (quarL (quarL (quarL (quarL (quarL s 0 4 8 12) 1 5 9 13) 2 6 10 14) 3 7 11 15) 0 5 10 15) 1 6 11 12) 2 7 8 13) 3 4 9 14
theorem dblL_len (s : List U32) : (dblL s).length = s.length := by unfold dblL; simp only [quarL_len]
theorem dblL_get (s : List U32) (hs : s.length = 16) : (fun x => (dblL s).getD x 0) = diagN (colsN (fun x => s.getD x 0) 4) 4 := by
  unfold dblL
  rw [quarL_get _ (by simp only [quarL_len]; exact hs) 3 4 9 14 (by omega) (by omega) (by omega) (by omega)]
  rw [quarL_get _ (by simp only [quarL_len]; exact hs) 2 7 8 13 (by omega) (by omega) (by omega) (by omega)]
  rw [quarL_get _ (by simp only [quarL_len]; exact hs) 1 6 11 12 (by omega) (by omega) (by omega) (by omega)]
  rw [quarL_get _ (by simp only [quarL_len]; exact hs) 0 5 10 15 (by omega) (by omega) (by omega) (by omega)]
  rw [quarL_get _ (by simp only [quarL_len]; exact hs) 3 7 11 15 (by omega) (by omega) (by omega) (by omega)]
  rw [quarL_get _ (by simp only [quarL_len]; exact hs) 2 6 10 14 (by omega) (by omega) (by omega) (by omega)]
  rw [quarL_get _ (by simp only [quarL_len]; exact hs) 1 5 9 13 (by omega) (by omega) (by omega) (by omega)]
  rw [quarL_get _ hs 0 4 8 12 (by omega) (by omega) (by omega) (by omega)]
  rfl
def roundsL (s : List U32) : Nat → List U32
  | 0 => s
  | n + 1 => dblL (roundsL s n)
theorem roundsL_len (s : List U32) : ∀ n, (roundsL s n).length = s.length
  | 0 => rfl
  | n + 1 => by rw [roundsL, dblL_len, roundsL_len s n]
theorem roundsL_get (s : List U32) (hs : s.length = 16) : ∀ n, (fun x => (roundsL s n).getD x 0) = roundsF (fun x => s.getD x 0) n
  | 0 => rfl
  | n + 1 => by
      rw [roundsF, ← roundsL_get s hs n, ← dblL_get _ (by rw [roundsL_len]; exact hs)]
      rfl
def stateL (key : List UInt8) (count : U32) (nonce : List UInt8) : List U32 :=
  [1634760805, 857760878, 2036477234, 1797285236, wordF key 0, wordF key 1, wordF key 2, wordF key 3, wordF key 4, wordF key 5, wordF key 6, wordF key 7, count, wordF nonce 0, wordF nonce 1, wordF nonce 2]
theorem stateL_get (key : List UInt8) (count : U32) (nonce : List UInt8) : (fun x => (stateL key count nonce).getD x 0) = stateF key count nonce := by
  funext x
  unfold stateL stateF
  match x with
  | 0 => rfl
  | 1 => rfl
  | 2 => rfl
  | 3 => rfl
  | 4 => rfl
  | 5 => rfl
  | 6 => rfl
  | 7 => rfl
  | 8 => rfl
  | 9 => rfl
  | 10 => rfl
  | 11 => rfl
  | 12 => rfl
  | 13 => rfl
  | 14 => rfl
  | 15 => rfl
  | n + 16 =>
    rw [if_neg (by omega), if_neg (by omega), if_neg (by omega), if_neg (by omega)]
    simp
/-- The cells of a block. -/
def cellsL (s r : List U32) : List Value := (List.range 64).map fun k => .int .u8 (.ofNat ((r.getD (k / 4) 0 + s.getD (k / 4) 0).toNat / 256 ^ (k % 4) % 256))
def blkL (s : List U32) : List Value := cellsL s (roundsL s 10)
theorem bytesF_nat (f : Nat → U32) (k : Nat) : ((bytesF f k).toNat : Int) = .ofNat ((f (k / 4)).toNat / 256 ^ (k % 4) % 256) := by
  unfold bytesF
  have e : (256 : Nat) ^ (k % 4) = 2 ^ (8 * (k % 4)) := by rw [Nat.pow_mul]
  rw [e]
  have h := (f (k / 4)).isLt
  show (((UInt8.ofNat (((f (k / 4)).setWidth 64 >>> (8 * (k % 4))).toNat)).toNat : Nat) : Int) = _
  rw [UInt8.toNat_ofNat', BitVec.toNat_ushiftRight, BitVec.toNat_setWidth, Nat.shiftRight_eq_div_pow, Nat.mod_eq_of_lt (show (f (k / 4)).toNat < 2 ^ 64 by omega)]
  rfl
theorem blkL_row (key : List UInt8) (count : U32) (nonce : List UInt8) : blkL (stateL key count nonce) = row8 (blockF key count nonce) 64 := by
  unfold blkL cellsL row8 blockF
  apply List.map_congr_left
  intro k _
  rw [bytesF_nat]
  unfold coutF
  have h1 := congrFun (roundsL_get (stateL key count nonce) rfl 10) (k / 4)
  rw [stateL_get] at h1
  have h2 := congrFun (stateL_get key count nonce) (k / 4)
  rw [← h1, ← h2]
theorem VR.int_eq {fid : Nat → Option FuncId} {r : Rr} {k : IntKind} {n : Int} {v' : Value} (h : VR fid r (.int k n) v') : v' = .int k n := by
  cases h with
  | one h =>
    cases h with
    | one h => cases h with | base h => cases h; rfl
theorem blkL_ints (s : List U32) : (blkL s).all isInt = true := by simp [blkL, cellsL, isInt]
noncomputable def blkH (args : List Value) (m : VM) : RV :=
  match args with
  | [.agg ks, .int .u32 (.ofNat c), .agg ns] =>
    match toB ks.toList, toB ns.toList with
    | some K, some N => bif Nat.beq K.length 32 && (Nat.beq N.length 12 && Nat.blt c 4294967296) then some (.agg (blkL (stateL K (BitVec.ofNat 32 c) N)).toArray, m) else none
    | _, _ => none
  | _ => none
/-! ### products of a tag -/
def toQ : List Value → Option (List Nat)
  | [] => some []
  | .int .u64 (.ofNat x) :: t => bif Nat.blt x 18446744073709551616 then (toQ t).map (x :: ·) else none
  | _ => none
theorem toQ_eq : ∀ {l : List Value} {w : List Nat}, toQ l = some w → l = w.map (fun x => Value.int .u64 (.ofNat x)) ∧ l.all isInt = true ∧ ∀ x ∈ w, x < 18446744073709551616
  | [], w, h => by simp only [toQ, Option.some.injEq] at h; subst h; exact ⟨rfl, rfl, by simp⟩
  | x :: t, w, h => by
      unfold toQ at h
      split at h
      · rename_i e; cases e
      · rename_i n t' e
        cases e
        cases hb : Nat.blt n 18446744073709551616 with
        | false => rw [hb] at h; cases h
        | true =>
          rw [hb] at h
          simp only [cond_true, Option.map_eq_some_iff] at h
          obtain ⟨w', h1, rfl⟩ := h
          obtain ⟨g1, g2, g3⟩ := toQ_eq h1
          have hn : n < 18446744073709551616 := Nat.le_of_ble_eq_true hb
          refine ⟨?_, by simp only [List.all_cons, isInt, Bool.true_and]; exact g2, ?_⟩
          · rw [List.map_cons, ← g1]
          · intro x hx
            rcases List.mem_cons.1 hx with rfl | hx
            · exact hn
            · exact g3 x hx
      · cases h
def n3L (x : N3) : List Value := [.int .u64 (.ofNat x.a), .int .u64 (.ofNat x.b), .int .u64 (.ofNat x.c)]
noncomputable def timG (x y : List Nat) (m : VM) : RV :=
  match x, y with
  | [a, b, c], [r0, r1] => some (.agg (n3L (N3.times ⟨a, b, c⟩ r0 r1)).toArray, m)
  | _, _ => none
noncomputable def timH (args : List Value) (m : VM) : RV :=
  match args with
  | [.agg xs, .agg rs] =>
    match toQ xs.toList, toQ rs.toList with
    | some x, some y => timG x y m
    | _, _ => none
  | _ => none
noncomputable def strHk : Hooks := fun n => bif Nat.beq n n_chacha_Block then some blkH else bif Nat.beq n n_poly_num_times then some timH else none
theorem strHk_ok (E : EnvT tab) : HooksOk E.toEnv strHk := by
  intro h0 n f hf
  unfold strHk at hf
  cases hn : Nat.beq n n_chacha_Block with
  | true =>
    rw [hn] at hf
    simp only [cond_true, Option.some.injEq] at hf
    subst hf
    have hn' := Nat.eq_of_beq_eq_true hn
    subst hn'
    intro args m v m' r h args' p ha e
    unfold blkH at e
    split at e
    · rename_i ks c ns
      split at e
      · rename_i K N e1 e2
        cases hl : (Nat.beq K.length 32 && (Nat.beq N.length 12 && Nat.blt c 4294967296)) with
        | false => rw [hl] at e; cases e
        | true =>
          rw [hl] at e
          simp only [cond_true, Option.some.injEq, Prod.mk.injEq] at e
          obtain ⟨rfl, rfl⟩ := e
          simp only [Bool.and_eq_true] at hl
          have lK := Nat.eq_of_beq_eq_true hl.1
          have lN := Nat.eq_of_beq_eq_true hl.2.1
          have hc : c < 4294967296 := Nat.le_of_ble_eq_true hl.2.2
          obtain ⟨g1, g1'⟩ := toB_eq e1
          obtain ⟨g2, g2'⟩ := toB_eq e2
          cases ha with
          | cons a1 ha =>
            cases ha with
            | cons a2 ha =>
              cases ha with
              | cons a3 ha =>
                cases ha
                rw [a1.agg_ints g1', a2.int_eq, a3.agg_ints g2']
                have ek : ks = (K.map u8V).toArray := by apply Array.toList_inj.1; rw [g1]
                have en : ns = (N.map u8V).toArray := by apply Array.toList_inj.1; rw [g2]
                have ec : (Int.ofNat c) = ((BitVec.ofNat 32 c).toNat : Int) := by
                  have : (BitVec.ofNat 32 c).toNat = c := by simp; omega
                  rw [this]; rfl
                rw [ek, en, ec]
                refine (chacha_Block_c E h K N (BitVec.ofNat 32 c) lK lN).mono ?_
                rintro v' h' ⟨le', rfl⟩
                refine ⟨r, Rr.le_refl _, p.le le', ?_⟩
                rw [← blkL_row]
                exact .one (.agg (all2_refl_ints (blkL_ints _)))
      · cases e
    · cases e
  | false =>
    rw [hn] at hf
    simp only [cond_false] at hf
    cases hn2 : Nat.beq n n_poly_num_times with
    | true =>
      rw [hn2] at hf
      simp only [cond_true, Option.some.injEq] at hf
      subst hf
      have hn' := Nat.eq_of_beq_eq_true hn2
      subst hn'
      intro args m v m' r h args' p ha e
      unfold timH at e
      split at e
      · rename_i xs rs
        split at e
        · rename_i x y e1 e2
          unfold timG at e
          split at e
          · rename_i a b c r0 r1
            simp only [Option.some.injEq, Prod.mk.injEq] at e
            obtain ⟨rfl, rfl⟩ := e
            obtain ⟨g1, g1', g1''⟩ := toQ_eq e1
            obtain ⟨g2, g2', g2''⟩ := toQ_eq e2
            cases ha with
            | cons a1 ha =>
              cases ha with
              | cons a2 ha =>
                cases ha
                rw [a1.agg_ints g1', a2.agg_ints g2']
                have ex : Value.agg xs = (⟨a, b, c⟩ : N3).V := by
                  unfold N3.V
                  congr 1
                  apply Array.toList_inj.1
                  rw [g1]; rfl
                have er : Value.agg rs = .agg #[.int .u64 (r0 : Int), .int .u64 (r1 : Int)] := by
                  congr 1
                  apply Array.toList_inj.1
                  rw [g2]; rfl
                rw [ex, er]
                refine (num_times_c E h ⟨a, b, c⟩ r0 r1 ⟨g1'' a (by simp), g1'' b (by simp), g1'' c (by simp)⟩ (g2'' r0 (by simp)) (g2'' r1 (by simp))).mono ?_
                rintro v' h' ⟨le', rfl⟩
                refine ⟨r, Rr.le_refl _, p.le le', ?_⟩
                exact .one (.agg (all2_refl_ints (by simp [n3L, isInt])))
          · cases e
        · cases e
      · cases e
    | false =>
      rw [hn2] at hf
      simp only [cond_false] at hf
      cases hf
end Go.Bb
/- What is closed in the statements on seals. -/
namespace Go.Bb
set_option maxRecDepth 100000
theorem pk23 : isTrue (evF tab strHk 1000 50 n_bandboxlaw23_SealKnown [] VM.start) = true := by decide +kernel
theorem bandboxlaw23_SealKnown_c (E : EnvT tab) (W : World) : ACallN E.toEnv n_bandboxlaw23_SealKnown [] (roHeap W) fun v _ => v = .bool true :=
  (evF_true (strHk_ok E) _ pk23).mono fun _ _ h => h.1
end Go.Bb
