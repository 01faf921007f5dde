/- My contracts: BbLepo3. -/
import Derived.Test.YtfekancobbplaaaBbG3
import Derived.Test.YtfekancobbplaaaBbM1
/- The law EpochRings. -/
namespace Go.Bb
set_option linter.unusedSimpArgs false
set_option linter.unusedVariables false
set_option maxRecDepth 20000
set_option maxHeartbeats 2000000

theorem ok_i64s {W : World} {v : Value} (h : Shp.ok W (.slice 1 (.int .i64)) v) : ∃ M : List Int, Sl (roHeap W) 1 v M.length (M.map (.int .i64)) ∧ M.length ≤ 9223372036854775807 := by
  obtain ⟨M, h1, h2, h3⟩ := Shp.ok_rows (fun z => [Value.int .i64 z]) (fun _ => True) (by simp) (fun l hl => by obtain ⟨n, rfl, hn⟩ := hl; exact ⟨n, rfl, trivial⟩) h
  rw [flatMap_single] at h1
  exact ⟨M, h1, h2⟩
theorem i64_at {h : Heap} {v : Value} {M : List Int} (s : Sl h 1 v M.length (M.map (.int .i64))) (j : Nat) (hj : j < M.length) :
    ∃ b o c, v = .slice (some ⟨b, o, none⟩) M.length c ∧ ∀ H, h.le H → hcell H ⟨b, o + j, none⟩ = some (.int .i64 M[j]) := by
  obtain ⟨b, o, c, hv, hc, hcl⟩ := s.ptr (by omega) (by omega)
  refine ⟨b, o, c, hv, fun H hle => ?_⟩
  rw [Nat.mul_one] at hcl
  rw [hcell_of (hcells_le hle hcl) j hj]
  simp [hj]
theorem u8_at {h : Heap} {v : Value} {M : List UInt8} (s : SlB h v M) (j : Nat) (hj : j < M.length) :
    ∃ b o c, v = .slice (some ⟨b, o, none⟩) M.length c ∧ ∀ H, h.le H → hcell H ⟨b, o + j, none⟩ = some (.int .u8 M[j].toNat) := by
  obtain ⟨b, o, c, hv, hc, hcl⟩ := s.ptr (by omega) (by omega)
  refine ⟨b, o, c, hv, fun H hle => ?_⟩
  rw [Nat.mul_one] at hcl
  rw [hcell_of (hcells_le hle hcl) j hj]
  simp [hj, u8V]
def word1 (x : UInt8) : List UInt8 := x :: List.replicate 31 0
theorem word1_row (x : UInt8) : Value.int .u8 x.toNat :: List.drop 1 (List.replicate 32 (Value.int .u8 0)) = (word1 x).map u8V := rfl
theorem word1_len (x : UInt8) : (word1 x).length = 32 := rfl
/-- Two rings alike, side by side. -/
def P2 (h1 H : Heap) (p w : Nat) (L : RL) : Prop := ∃ h0, h1.le h0 ∧ h1 w = none ∧ h0.le H ∧ RingR h0 H (.pointer (some ⟨p, 0, none⟩)) L ∧ WG h0 w L
structure LOk (i : Nat) (L : RL) : Prop where
  l32 : ∀ x ∈ L, x.2.length = 32
  rng : ∀ y ∈ L, 0 ≤ y.1 ∧ y.1 ≤ 1099511627776
  len : L.length ≤ i
theorem LOk.put {i : Nat} {L : RL} (I : LOk i L) (k : Int) {wd : List UInt8} (hw : wd.length = 32) : LOk (i + 1) (putF L k wd).1 := by
  have I1 : LOk (i + 1) L := ⟨I.l32, I.rng, by have := I.len; omega⟩
  unfold putF
  split
  · rename_i g
    split
    · split
      · exact I1
      · exact I1
    · split
      · exact I1
      · refine ⟨fun x hx => ?_, fun x hx => ?_, by have := I.len; simp; omega⟩
        · rcases List.mem_append.1 hx with hx | hx
          · exact I.l32 x hx
          · rw [List.mem_singleton] at hx; subst hx; exact hw
        · rcases List.mem_append.1 hx with hx | hx
          · exact I.rng x hx
          · rw [List.mem_singleton] at hx; subst hx; exact g
  · exact I1
theorem P2.le {h1 H H' : Heap} {p w : Nat} {L : RL} (P : P2 h1 H p w L) (le : H.le H') : P2 h1 H' p w L := by
  obtain ⟨h0, a, b, c, d, e⟩ := P
  exact ⟨h0, a, b, Heap.le_trans c le, d.le le, e⟩
theorem P2.put (E : EnvT tab) {h1 H : Heap} {p w : Nat} {L : RL} (P : P2 h1 H p w L) {i : Nat} (I : LOk i L) (hi : i ≤ 1000) (k : Int) {wd : List UInt8} (hw : wd.length = 32) :
    ACallN E.toEnv n_epoch_Ring_Put [.pointer (some ⟨p, 0, none⟩), .int .i64 k, .agg (wd.map u8V).toArray] H fun r H1 => r = .int .i64 ((putF L k wd).2 : Nat) ∧ h1.le H1 ∧
      ACallN E.toEnv n_bandboxref19_Ring_Put [.pointer (some ⟨w, 0, none⟩), .int .i64 k, .agg (wd.map u8V).toArray] H1 fun r H2 => r = .int .i64 ((putF L k wd).2 : Nat) ∧ P2 h1 H2 p w (putF L k wd).1 := by
  obtain ⟨h0, le0, hw0, leH, R, G⟩ := P
  refine (epoch_Put_c E leH R I.l32 k wd hw).mono ?_
  rintro r H1 ⟨le1, rfl, R1⟩
  refine ⟨rfl, Heap.le_trans le0 le1, ?_⟩
  refine (ref_Put_c E (G.le le1) I.l32 (by have := I.len; omega) k wd hw).mono ?_
  rintro r H2 ⟨rfl, hm⟩
  refine ⟨rfl, ?_⟩
  rcases hm with ⟨le2, e⟩ | ⟨lv, q, ow, keep⟩
  · rw [e] at R1 ⊢
    exact ⟨h0, le0, hw0, Heap.le_trans le1 le2, R1.le le2, G⟩
  · obtain ⟨lv0, qw, -⟩ := G
    refine ⟨fun c => if h0 c = none ∧ H1 c ≠ none then none else H2 c, ?_, hw0, ?_, ?_, lv, ?_, ?_⟩
    · intro c x hx
      have h2 := le0 _ _ hx
      have hc : c ≠ w := by intro e; subst e; rw [hw0] at hx; cases hx
      simp only
      rw [if_neg (by rw [h2]; simp)]
      exact keep c x hc (le1 _ _ h2)
    · intro c x hx
      simp only at hx
      split at hx
      · cases hx
      · exact hx
    · obtain ⟨b, r, es, cc, e1, e2, e3, e4, e5, e6, e7, e8⟩ := R1
      have hb : b ≠ w := by intro e; subst e; rw [qw] at e2; cases e2
      have hr : r ≠ w := by intro e; subst e; rw [qw] at e3; cases e3
      exact ⟨b, r, es, cc, e1, by simp [e2, e5], by simp [e3, e6], e4, keep _ _ hb e5, keep _ _ hr e6, e7, e8⟩
    · simp only
      rw [if_neg (by rw [qw]; simp)]; exact q
    · have : Ow H1 (fun c => if h0 c = none ∧ H1 c ≠ none then none else H2 c) 33 lv (putF L k wd).1.length ((putF L k wd).1.flatMap cellK) := by
        rcases ow with s | ⟨b, o, c, sz, st, pre, rest, p1, p2, p3, p4, p5⟩
        · exact .inl s
        · refine .inr ⟨b, o, c, sz, st, pre, rest, p1, p2, p3, ?_, p5⟩
          simp only
          rw [if_neg (by rw [p3]; simp)]
          exact p4
      exact this.sl
theorem set_mono {a b : Heap} (h : a.le b) (c : Nat) (X : Blk) : (a.set c X).le (b.set c X) := by
  intro i x hx
  by_cases e : i = c
  · subst e; rw [Heap.set_self] at hx ⊢; exact hx
  · rw [Heap.set_ne e] at hx ⊢; exact h _ _ hx
theorem P2.box {h1 H : Heap} {p w : Nat} {L : RL} (P : P2 h1 H p w L) {b : Nat} (hb : H b = none) (X : Blk) : P2 (h1.set b X) (H.set b X) p w L := by
  obtain ⟨h0, a, c, d, R, lv, q, s⟩ := P
  have hw : w ≠ b := by intro e; subst e; have := d _ _ q; rw [hb] at this; cases this
  refine ⟨h0.set b X, set_mono a b X, by rw [Heap.set_ne hw]; exact c, set_mono d b X, ?_, WG.le ⟨lv, q, s⟩ (Heap.le_set (Heap.le_refl _) (Heap.none_of_le d hb) _)⟩
  obtain ⟨b1, r, es, cc, e1, e2, e3, e4, e5, e6, e7, e8⟩ := R
  have hb1 : b1 ≠ b := by intro e; subst e; rw [hb] at e5; cases e5
  have hr : r ≠ b := by intro e; subst e; rw [hb] at e6; cases e6
  exact ⟨b1, r, es, cc, e1, by rw [Heap.set_ne hb1]; exact e2, by rw [Heap.set_ne hr]; exact e3, e4, by rw [Heap.set_ne hb1]; exact e5, by rw [Heap.set_ne hr]; exact e6, e7, e8⟩
theorem P2.down {h1 h1' H : Heap} {p w : Nat} {L : RL} (P : P2 h1' H p w L) (le : h1.le h1') : P2 h1 H p w L := by
  obtain ⟨h0, a, c, d, R⟩ := P
  exact ⟨h0, Heap.le_trans le a, Heap.none_of_le le c, d, R⟩
theorem P2.get (E : EnvT tab) {h1 H : Heap} {p w : Nat} {L : RL} (P : P2 h1 H p w L) {i : Nat} (I : LOk i L) (k : Int) :
    ACallN E.toEnv n_epoch_Ring_Get [.pointer (some ⟨p, 0, none⟩), .int .i64 k] H fun r h' => H.le h' ∧ r = .tuple #[.agg (((getK L k).getD (List.replicate 32 0)).map u8V).toArray, .bool (getK L k).isSome] := by
  obtain ⟨h0, a, c, d, R, G⟩ := P
  exact epoch_Get_c E d R I.l32 k
theorem P2.getW (E : EnvT tab) {h1 H : Heap} {p w : Nat} {L : RL} (P : P2 h1 H p w L) {i : Nat} (I : LOk i L) (hi : i ≤ 1000) (k : Int) :
    ACallN E.toEnv n_bandboxref19_Ring_Get [.pointer (some ⟨w, 0, none⟩), .int .i64 k] H fun r h' => H.le h' ∧ r = .tuple #[.agg (((getK L k).getD (List.replicate 32 0)).map u8V).toArray, .bool (getK L k).isSome] := by
  obtain ⟨h0, a, c, d, R, G⟩ := P
  exact ref_Get_c E (G.le d) I.l32 (by have := I.len; omega) k
theorem P2.last (E : EnvT tab) (X : ColOk E) {h1 H : Heap} {p w : Nat} {L : RL} (P : P2 h1 H p w L) {i : Nat} (I : LOk i L) (hi : i ≤ 1000) :
    ACallN E.toEnv n_epoch_Ring_Last [.pointer (some ⟨p, 0, none⟩)] H fun r h' => H.le h' ∧ ∃ m, r = .tuple #[.int .i64 m, .bool (decide (0 < L.length))] ∧ (L = [] → m = 0) ∧ (0 < L.length → lastK L m) := by
  obtain ⟨h0, a, c, d, R, G⟩ := P
  exact epoch_Last_c E X R I.rng (by have := I.len; omega)
theorem P2.lastW (E : EnvT tab) {h1 H : Heap} {p w : Nat} {L : RL} (P : P2 h1 H p w L) {i : Nat} (I : LOk i L) (hi : i ≤ 1000) :
    ACallN E.toEnv n_bandboxref19_Ring_Last [.pointer (some ⟨w, 0, none⟩)] H fun r h' => h' = H ∧ ∃ m, r = .tuple #[.int .i64 m, .bool (decide (0 < L.length))] ∧ (L = [] → m = 0) ∧ (0 < L.length → lastK L m) := by
  obtain ⟨h0, a, c, d, R, G⟩ := P
  exact ref_Last_c E (G.le d) I.rng (by have := I.len; omega)
theorem last_one {L : RL} {m n : Int} (a : lastK L m) (b : lastK L n) : m = n := by
  obtain ⟨⟨y, hy, rfl⟩, h1⟩ := a
  obtain ⟨⟨z, hz, rfl⟩, h2⟩ := b
  have := h1 z hz
  have := h2 y hy
  omega
theorem bandboxlaw22_EpochRings_c (E : EnvT tab) (X : ColOk E) (W : World) {v0 v1 v2 : Value} (s0 : Shp.ok W (.slice 1 (.int .i64)) v0) (s1 : Shp.ok W (.slice 1 (.int .u8)) v1) (s2 : Shp.ok W (.int .i64) v2) :
    ACallN E.toEnv n_bandboxlaw22_EpochRings [v0, v1, v2] (roHeap W) fun v _ => v = .bool true := by
  obtain ⟨M, sm, -⟩ := ok_i64s s0
  obtain ⟨K, sk, -⟩ := ok_bytes s1
  obtain ⟨ask, rfl, -, -⟩ := Shp.ok_int s2
  obtain ⟨mb, mc, rfl⟩ := Sl.shape sm
  obtain ⟨kb, kc, rfl⟩ := Sl.shape sk
  generalize roHeap W = h at sm sk
  refine acall h_bandboxlaw22_EpochRings ir_bandboxlaw22_EpochRings rfl rfl (wpA_sound ?_)
  unfold ir_bandboxlaw22_EpochRings
  simp -implicitDefEqProofs only [zB1,zB2,zB3,zB4,zB5,zB6,zB7,zB8,zB9,zB10,zB11,y00,y01,y02,y03,y04,y05,y06,y07,y08,y09,y0a,y0b,y0c,y0d,y0e,y0f,y0g,y0h,y0i,y0j,y0k,y0l,y0m,y0n,y0o,y0p,y0q,y0r,y0s,y0t,y0u,y0v,y0w,y0x,y0y,y0z,y10,y11,y12,y13,y14,y15,y16,y17,y18,y19,y1a,y1b,y1c,y1d,y1e,y1f,y1g,y1h,y1i,y1j,y1k,y1l,y1m,y1n,y1o,y1p,y1q,y1r,retO,retL,retV,z6i,allV,allP,z6j,z6m,z6n,z6t,z6u,z6v,binV,eqV,unV,oOpt,reduceIte,reduceCtorEq,Nat.reduceEqDiff,Nat.reduceAdd,Nat.reduceMul,Nat.reduceLT,Nat.reduceSub,Int.reduceLT,Int.reduceLE,Int.reduceEq,Int.reduceNe,Int.reduceSub,Int.reduceAdd,Int.reduceMul,Int.reduceBEq,Int.reduceBNe,Int.reduceGT,Int.reduceGE,Nat.reduceGT,Int.reduceToNat,Int.reduceNeg,Nat.reduceLeDiff,Nat.reduceBEq,Nat.reduceBneDiff,Value.cells]
  refine (law22_awake_k E h).mono ?_
  rintro v h1 ⟨rfl, le1⟩
  replace sm := sm.le le1
  replace sk := sk.le le1
  clear le1
  by_cases g0 : (30 : Int) < M.length
  · simp -implicitDefEqProofs only [zB1,zB2,zB3,zB4,zB5,zB6,zB7,zB8,zB9,zB10,zB11,y00,y01,y02,y03,y04,y05,y06,y07,y08,y09,y0a,y0b,y0c,y0d,y0e,y0f,y0g,y0h,y0i,y0j,y0k,y0l,y0m,y0n,y0o,y0p,y0q,y0r,y0s,y0t,y0u,y0v,y0w,y0x,y0y,y0z,y10,y11,y12,y13,y14,y15,y16,y17,y18,y19,y1a,y1b,y1c,y1d,y1e,y1f,y1g,y1h,y1i,y1j,y1k,y1l,y1m,y1n,y1o,y1p,y1q,y1r,retO,retL,retV,z6i,allV,allP,z6j,z6m,z6n,z6t,z6u,z6v,binV,eqV,unV,oOpt,reduceIte,reduceCtorEq,Nat.reduceEqDiff,Nat.reduceAdd,Nat.reduceMul,Nat.reduceLT,Nat.reduceSub,Int.reduceLT,Int.reduceLE,Int.reduceEq,Int.reduceNe,Int.reduceSub,Int.reduceAdd,Int.reduceMul,Int.reduceBEq,Int.reduceBNe,Int.reduceGT,Int.reduceGE,Nat.reduceGT,Int.reduceToNat,Int.reduceNeg,Nat.reduceLeDiff,Nat.reduceBEq,Nat.reduceBneDiff,Value.cells, g0]
  by_cases g1 : K.length = M.length
  · have g1' : ((K.length : Int) != (M.length : Int)) = false := by rw [g1]; simp
    simp -implicitDefEqProofs only [zB1,zB2,zB3,zB4,zB5,zB6,zB7,zB8,zB9,zB10,zB11,y00,y01,y02,y03,y04,y05,y06,y07,y08,y09,y0a,y0b,y0c,y0d,y0e,y0f,y0g,y0h,y0i,y0j,y0k,y0l,y0m,y0n,y0o,y0p,y0q,y0r,y0s,y0t,y0u,y0v,y0w,y0x,y0y,y0z,y10,y11,y12,y13,y14,y15,y16,y17,y18,y19,y1a,y1b,y1c,y1d,y1e,y1f,y1g,y1h,y1i,y1j,y1k,y1l,y1m,y1n,y1o,y1p,y1q,y1r,retO,retL,retV,z6i,allV,allP,z6j,z6m,z6n,z6t,z6u,z6v,binV,eqV,unV,oOpt,reduceIte,reduceCtorEq,Nat.reduceEqDiff,Nat.reduceAdd,Nat.reduceMul,Nat.reduceLT,Nat.reduceSub,Int.reduceLT,Int.reduceLE,Int.reduceEq,Int.reduceNe,Int.reduceSub,Int.reduceAdd,Int.reduceMul,Int.reduceBEq,Int.reduceBNe,Int.reduceGT,Int.reduceGE,Nat.reduceGT,Int.reduceToNat,Int.reduceNeg,Nat.reduceLeDiff,Nat.reduceBEq,Nat.reduceBneDiff,Value.cells, g0, g1']
    refine (epoch_New_c E h1).mono ?_
    rintro pv h2 ⟨le2, R2⟩
    obtain ⟨p, hp⟩ : ∃ p, pv = .pointer (some ⟨p, 0, none⟩) := by
      obtain ⟨b, r, es, cc, e, _⟩ := R2
      exact ⟨b, e⟩
    subst hp
    simp -implicitDefEqProofs only [zB1,zB2,zB3,zB4,zB5,zB6,zB7,zB8,zB9,zB10,zB11,y00,y01,y02,y03,y04,y05,y06,y07,y08,y09,y0a,y0b,y0c,y0d,y0e,y0f,y0g,y0h,y0i,y0j,y0k,y0l,y0m,y0n,y0o,y0p,y0q,y0r,y0s,y0t,y0u,y0v,y0w,y0x,y0y,y0z,y10,y11,y12,y13,y14,y15,y16,y17,y18,y19,y1a,y1b,y1c,y1d,y1e,y1f,y1g,y1h,y1i,y1j,y1k,y1l,y1m,y1n,y1o,y1p,y1q,y1r,retO,retL,retV,z6i,allV,allP,z6j,z6m,z6n,z6t,z6u,z6v,binV,eqV,unV,oOpt,reduceIte,reduceCtorEq,Nat.reduceEqDiff,Nat.reduceAdd,Nat.reduceMul,Nat.reduceLT,Nat.reduceSub,Int.reduceLT,Int.reduceLE,Int.reduceEq,Int.reduceNe,Int.reduceSub,Int.reduceAdd,Int.reduceMul,Int.reduceBEq,Int.reduceBNe,Int.reduceGT,Int.reduceGE,Nat.reduceGT,Int.reduceToNat,Int.reduceNeg,Nat.reduceLeDiff,Nat.reduceBEq,Nat.reduceBneDiff,Value.cells]
    intro w hw
    try simp -implicitDefEqProofs only [zB1,zB2,zB3,zB4,zB5,zB6,zB7,zB8,zB9,zB10,zB11,y00,y01,y02,y03,y04,y05,y06,y07,y08,y09,y0a,y0b,y0c,y0d,y0e,y0f,y0g,y0h,y0i,y0j,y0k,y0l,y0m,y0n,y0o,y0p,y0q,y0r,y0s,y0t,y0u,y0v,y0w,y0x,y0y,y0z,y10,y11,y12,y13,y14,y15,y16,y17,y18,y19,y1a,y1b,y1c,y1d,y1e,y1f,y1g,y1h,y1i,y1j,y1k,y1l,y1m,y1n,y1o,y1p,y1q,y1r,retO,retL,retV,z6i,allV,allP,z6j,z6m,z6n,z6t,z6u,z6v,binV,eqV,unV,oOpt,reduceIte,reduceCtorEq,Nat.reduceEqDiff,Nat.reduceAdd,Nat.reduceMul,Nat.reduceLT,Nat.reduceSub,Int.reduceLT,Int.reduceLE,Int.reduceEq,Int.reduceNe,Int.reduceSub,Int.reduceAdd,Int.reduceMul,Int.reduceBEq,Int.reduceBNe,Int.reduceGT,Int.reduceGE,Nat.reduceGT,Int.reduceToNat,Int.reduceNeg,Nat.reduceLeDiff,Nat.reduceBEq,Nat.reduceBneDiff,Value.cells]
    have P0 : P2 h1 (h2.set w (.own 0 [.slice none 0 0] 1)) p w [] := by
      have hw1 : h1 w = none := Heap.none_of_le le2 hw
      refine ⟨h1.set w (.own 0 [.slice none 0 0] 1), Heap.le_set (Heap.le_refl _) hw1 _, hw1, ?_, ?_, .slice none 0 0, Heap.set_self _ _ _, .inl ⟨rfl, rfl, rfl⟩⟩
      · intro c x hx
        by_cases e : c = w
        · subst e; rw [Heap.set_self] at hx ⊢; exact hx
        · rw [Heap.set_ne e] at hx ⊢; exact le2 _ _ hx
      · obtain ⟨b, r, es, cc, e1, e2, e3, e4, e5, e6, e7, e8⟩ := R2
        have hb : b ≠ w := by intro e; subst e; rw [hw] at e5; cases e5
        have hr : r ≠ w := by intro e; subst e; rw [hw] at e6; cases e6
        exact ⟨b, r, es, cc, e1, by rw [Heap.set_ne hb]; exact e2, by rw [Heap.set_ne hr]; exact e3, e4, by rw [Heap.set_ne hb]; exact e5, by rw [Heap.set_ne hr]; exact e6, e7, e8⟩
    generalize (h2.set w (.own 0 [.slice none 0 0] 1)) = h3 at P0 ⊢
    clear R2 le2 hw
    unfold ir_bandboxlaw22_EpochRings_34
    simp -implicitDefEqProofs only [zB1,zB2,zB3,zB4,zB5,zB6,zB7,zB8,zB9,zB10,zB11,y00,y01,y02,y03,y04,y05,y06,y07,y08,y09,y0a,y0b,y0c,y0d,y0e,y0f,y0g,y0h,y0i,y0j,y0k,y0l,y0m,y0n,y0o,y0p,y0q,y0r,y0s,y0t,y0u,y0v,y0w,y0x,y0y,y0z,y10,y11,y12,y13,y14,y15,y16,y17,y18,y19,y1a,y1b,y1c,y1d,y1e,y1f,y1g,y1h,y1i,y1j,y1k,y1l,y1m,y1n,y1o,y1p,y1q,y1r,retO,retL,retV,z6i,allV,allP,z6j,z6m,z6n,z6t,z6u,z6v,binV,eqV,unV,oOpt,reduceIte,reduceCtorEq,Nat.reduceEqDiff,Nat.reduceAdd,Nat.reduceMul,Nat.reduceLT,Nat.reduceSub,Int.reduceLT,Int.reduceLE,Int.reduceEq,Int.reduceNe,Int.reduceSub,Int.reduceAdd,Int.reduceMul,Int.reduceBEq,Int.reduceBNe,Int.reduceGT,Int.reduceGE,Nat.reduceGT,Int.reduceToNat,Int.reduceNeg,Nat.reduceLeDiff,Nat.reduceBEq,Nat.reduceBneDiff,Value.cells]
    refine wp_loop' (fun m t H => ∃ (i : Nat) (L : RL), t = tl [(0, .slice mb M.length mc), (1, .slice kb K.length kc), (2, .int .i64 ask), (7, .pointer (some ⟨p, 0, none⟩)), (8, .pointer (some ⟨w, 0, none⟩)), (9, .int .i64 i)] ∧ i ≤ M.length ∧ m = M.length - i ∧ P2 h1 H p w L ∧ LOk i L) M.length
      ⟨0, [], rfl, by omega, by omega, P0, by simp, by simp, by simp⟩ ?_
    rintro m t H ⟨i, L, rfl, hi, rfl, P, I⟩
    by_cases hlt : i < M.length
    · have hi1 : (i : Int) < M.length := by omega
      have hi2 : (0 : Int) ≤ i := by omega
      have hi3 : (i : Int) < K.length := by omega
      have w1 : IntKind.i64.wrap ((i : Int) + 1) = ((i + 1 : Nat) : Int) := wrapN (by omega)
      obtain ⟨b, o, c', hv, ci⟩ := i64_at sm i hlt
      simp only [Value.slice.injEq, true_and] at hv
      obtain ⟨rfl, rfl⟩ := hv
      obtain ⟨b', o', c2', hv, ck⟩ := u8_at sk i (by omega)
      simp only [Value.slice.injEq, true_and] at hv
      obtain ⟨rfl, rfl⟩ := hv
      have leH : h1.le H := by obtain ⟨h0, a, b, c, d, e⟩ := P; exact Heap.le_trans a c
      have ckH := ck H leH
      generalize K[i]'(by omega) = kx at ckH
      generalize M[i] = mx at ci
      simp -implicitDefEqProofs only [zB1,zB2,zB3,zB4,zB5,zB6,zB7,zB8,zB9,zB10,zB11,y00,y01,y02,y03,y04,y05,y06,y07,y08,y09,y0a,y0b,y0c,y0d,y0e,y0f,y0g,y0h,y0i,y0j,y0k,y0l,y0m,y0n,y0o,y0p,y0q,y0r,y0s,y0t,y0u,y0v,y0w,y0x,y0y,y0z,y10,y11,y12,y13,y14,y15,y16,y17,y18,y19,y1a,y1b,y1c,y1d,y1e,y1f,y1g,y1h,y1i,y1j,y1k,y1l,y1m,y1n,y1o,y1p,y1q,y1r,retO,retL,retV,z6i,allV,allP,z6j,z6m,z6n,z6t,z6u,z6v,binV,eqV,unV,oOpt,reduceIte,reduceCtorEq,Nat.reduceEqDiff,Nat.reduceAdd,Nat.reduceMul,Nat.reduceLT,Nat.reduceSub,Int.reduceLT,Int.reduceLE,Int.reduceEq,Int.reduceNe,Int.reduceSub,Int.reduceAdd,Int.reduceMul,Int.reduceBEq,Int.reduceBNe,Int.reduceGT,Int.reduceGE,Nat.reduceGT,Int.reduceToNat,Int.reduceNeg,Nat.reduceLeDiff,Nat.reduceBEq,Nat.reduceBneDiff,Value.cells, hi1, hi2, hi3, Int.toNat_natCast, ckH, List.length_replicate, word1_row]
      intro b10 hb10
      have st := z6z (h := H) (b := b10) (vs := List.replicate 32 (Value.int .u8 0)) (sz := 32) (size := 32) (us := (word1 kx).map u8V) (by omega) (by simp [word1_len]) (one_u8 _) (by simp) (by omega)
      simp -implicitDefEqProofs only [zB1,zB2,zB3,zB4,zB5,zB6,zB7,zB8,zB9,zB10,zB11,y00,y01,y02,y03,y04,y05,y06,y07,y08,y09,y0a,y0b,y0c,y0d,y0e,y0f,y0g,y0h,y0i,y0j,y0k,y0l,y0m,y0n,y0o,y0p,y0q,y0r,y0s,y0t,y0u,y0v,y0w,y0x,y0y,y0z,y10,y11,y12,y13,y14,y15,y16,y17,y18,y19,y1a,y1b,y1c,y1d,y1e,y1f,y1g,y1h,y1i,y1j,y1k,y1l,y1m,y1n,y1o,y1p,y1q,y1r,retO,retL,retV,z6i,allV,allP,z6j,z6m,z6n,z6t,z6u,z6v,binV,eqV,unV,oOpt,reduceIte,reduceCtorEq,Nat.reduceEqDiff,Nat.reduceAdd,Nat.reduceMul,Nat.reduceLT,Nat.reduceSub,Int.reduceLT,Int.reduceLE,Int.reduceEq,Int.reduceNe,Int.reduceSub,Int.reduceAdd,Int.reduceMul,Int.reduceBEq,Int.reduceBNe,Int.reduceGT,Int.reduceGE,Nat.reduceGT,Int.reduceToNat,Int.reduceNeg,Nat.reduceLeDiff,Nat.reduceBEq,Nat.reduceBneDiff,Value.cells, st]
      have P1 := P.box hb10 (.own 0 ((word1 kx).map u8V) 32)
      have hb1 : h1 b10 = none := Heap.none_of_le leH hb10
      have leA : h1.le (h1.set b10 (.own 0 ((word1 kx).map u8V) 32)) := Heap.le_set (Heap.le_refl _) hb1 _
      have qx : (h1.set b10 (.own 0 ((word1 kx).map u8V) 32)) b10 = some (.own 0 ((word1 kx).map u8V) 32) := Heap.set_self _ _ _
      generalize (h1.set b10 (.own 0 ((word1 kx).map u8V) 32)) = g1 at P1 leA qx
      generalize (H.set b10 (.own 0 ((word1 kx).map u8V) 32)) = H1 at P1 ⊢
      have cx : ∀ G, g1.le G → hcells G ⟨b10, 0, none⟩ 32 = some ((word1 kx).map u8V) := fun G l => by rw [hcells_at (l _ _ qx) (by simp [word1_len])]; simp [List.take_of_length_le, word1_len]
      have leH1 : g1.le H1 := by obtain ⟨h0, a, b, c, d, e⟩ := P1; exact Heap.le_trans a c
      have ci1 := ci H1 (Heap.le_trans leA leH1)
      have cx1 := cx H1 leH1
      have hlen := I.len
      unfold ir_bandboxlaw22_EpochRings_47
      simp -implicitDefEqProofs only [zB1,zB2,zB3,zB4,zB5,zB6,zB7,zB8,zB9,zB10,zB11,y00,y01,y02,y03,y04,y05,y06,y07,y08,y09,y0a,y0b,y0c,y0d,y0e,y0f,y0g,y0h,y0i,y0j,y0k,y0l,y0m,y0n,y0o,y0p,y0q,y0r,y0s,y0t,y0u,y0v,y0w,y0x,y0y,y0z,y10,y11,y12,y13,y14,y15,y16,y17,y18,y19,y1a,y1b,y1c,y1d,y1e,y1f,y1g,y1h,y1i,y1j,y1k,y1l,y1m,y1n,y1o,y1p,y1q,y1r,retO,retL,retV,z6i,allV,allP,z6j,z6m,z6n,z6t,z6u,z6v,binV,eqV,unV,oOpt,reduceIte,reduceCtorEq,Nat.reduceEqDiff,Nat.reduceAdd,Nat.reduceMul,Nat.reduceLT,Nat.reduceSub,Int.reduceLT,Int.reduceLE,Int.reduceEq,Int.reduceNe,Int.reduceSub,Int.reduceAdd,Int.reduceMul,Int.reduceBEq,Int.reduceBNe,Int.reduceGT,Int.reduceGE,Nat.reduceGT,Int.reduceToNat,Int.reduceNeg,Nat.reduceLeDiff,Nat.reduceBEq,Nat.reduceBneDiff,Value.cells, hi1, hi2, Int.toNat_natCast, ci1, cx1]
      refine (P1.put E I (by omega) mx (word1_len kx)).mono ?_
      rintro r H2 ⟨rfl, leH2, hW⟩
      have ci2 := ci H2 (Heap.le_trans leA leH2)
      have cx2 := cx H2 leH2
      simp -implicitDefEqProofs only [zB1,zB2,zB3,zB4,zB5,zB6,zB7,zB8,zB9,zB10,zB11,y00,y01,y02,y03,y04,y05,y06,y07,y08,y09,y0a,y0b,y0c,y0d,y0e,y0f,y0g,y0h,y0i,y0j,y0k,y0l,y0m,y0n,y0o,y0p,y0q,y0r,y0s,y0t,y0u,y0v,y0w,y0x,y0y,y0z,y10,y11,y12,y13,y14,y15,y16,y17,y18,y19,y1a,y1b,y1c,y1d,y1e,y1f,y1g,y1h,y1i,y1j,y1k,y1l,y1m,y1n,y1o,y1p,y1q,y1r,retO,retL,retV,z6i,allV,allP,z6j,z6m,z6n,z6t,z6u,z6v,binV,eqV,unV,oOpt,reduceIte,reduceCtorEq,Nat.reduceEqDiff,Nat.reduceAdd,Nat.reduceMul,Nat.reduceLT,Nat.reduceSub,Int.reduceLT,Int.reduceLE,Int.reduceEq,Int.reduceNe,Int.reduceSub,Int.reduceAdd,Int.reduceMul,Int.reduceBEq,Int.reduceBNe,Int.reduceGT,Int.reduceGE,Nat.reduceGT,Int.reduceToNat,Int.reduceNeg,Nat.reduceLeDiff,Nat.reduceBEq,Nat.reduceBneDiff,Value.cells, hi1, hi2, Int.toNat_natCast, ci1, cx1, ci2, cx2, implies_true, List.mem_cons, List.not_mem_nil, List.mem_singleton, or_false, forall_eq, forall_eq_or_imp, and_self]
      refine hW.mono ?_
      rintro r H3 ⟨rfl, P3⟩
      replace P3 := P3.down leA
      have I3 := I.put mx (word1_len kx)
      generalize (putF L mx (word1 kx)).1 = L3 at P3 I3
      simp -implicitDefEqProofs only [zB1,zB2,zB3,zB4,zB5,zB6,zB7,zB8,zB9,zB10,zB11,y00,y01,y02,y03,y04,y05,y06,y07,y08,y09,y0a,y0b,y0c,y0d,y0e,y0f,y0g,y0h,y0i,y0j,y0k,y0l,y0m,y0n,y0o,y0p,y0q,y0r,y0s,y0t,y0u,y0v,y0w,y0x,y0y,y0z,y10,y11,y12,y13,y14,y15,y16,y17,y18,y19,y1a,y1b,y1c,y1d,y1e,y1f,y1g,y1h,y1i,y1j,y1k,y1l,y1m,y1n,y1o,y1p,y1q,y1r,retO,retL,retV,z6i,allV,allP,z6j,z6m,z6n,z6t,z6u,z6v,binV,eqV,unV,oOpt,reduceIte,reduceCtorEq,Nat.reduceEqDiff,Nat.reduceAdd,Nat.reduceMul,Nat.reduceLT,Nat.reduceSub,Int.reduceLT,Int.reduceLE,Int.reduceEq,Int.reduceNe,Int.reduceSub,Int.reduceAdd,Int.reduceMul,Int.reduceBEq,Int.reduceBNe,Int.reduceGT,Int.reduceGE,Nat.reduceGT,Int.reduceToNat,Int.reduceNeg,Nat.reduceLeDiff,Nat.reduceBEq,Nat.reduceBneDiff,Value.cells, bne_self_eq_false]
      unfold ir_bandboxlaw22_EpochRings_63
      have hg32 : ((getK L3 ask).getD (List.replicate 32 0)).length = 32 := by
        cases hg : getK L3 ask with
        | none => simp
        | some x =>
          unfold getK at hg
          obtain ⟨y, hy, rfl⟩ := Option.map_eq_some_iff.1 hg
          exact I3.l32 y (List.mem_of_find?_eq_some hy)
      simp -implicitDefEqProofs only [zB1,zB2,zB3,zB4,zB5,zB6,zB7,zB8,zB9,zB10,zB11,y00,y01,y02,y03,y04,y05,y06,y07,y08,y09,y0a,y0b,y0c,y0d,y0e,y0f,y0g,y0h,y0i,y0j,y0k,y0l,y0m,y0n,y0o,y0p,y0q,y0r,y0s,y0t,y0u,y0v,y0w,y0x,y0y,y0z,y10,y11,y12,y13,y14,y15,y16,y17,y18,y19,y1a,y1b,y1c,y1d,y1e,y1f,y1g,y1h,y1i,y1j,y1k,y1l,y1m,y1n,y1o,y1p,y1q,y1r,retO,retL,retV,z6i,allV,allP,z6j,z6m,z6n,z6t,z6u,z6v,binV,eqV,unV,oOpt,reduceIte,reduceCtorEq,Nat.reduceEqDiff,Nat.reduceAdd,Nat.reduceMul,Nat.reduceLT,Nat.reduceSub,Int.reduceLT,Int.reduceLE,Int.reduceEq,Int.reduceNe,Int.reduceSub,Int.reduceAdd,Int.reduceMul,Int.reduceBEq,Int.reduceBNe,Int.reduceGT,Int.reduceGE,Nat.reduceGT,Int.reduceToNat,Int.reduceNeg,Nat.reduceLeDiff,Nat.reduceBEq,Nat.reduceBneDiff,Value.cells]
      refine (P3.get E I3 ask).mono ?_
      rintro r H4 ⟨le4, rfl⟩
      have P4 := P3.le le4
      generalize hD : (getK L3 ask).getD (List.replicate 32 0) = Y at hg32
      have stY : ∀ (G : Heap) (b : Nat), storeV (G.set b (.own 0 (List.replicate 32 (.int .u8 0)) 32)) 32 (.pointer (some ⟨b, 0, none⟩)) (.agg (Y.map u8V).toArray) = some (G.set b (.own 0 (Y.map u8V) 32)) := fun G b => z6z (by omega) (by simp [hg32]) (one_u8 _) (by simp) (by omega)
      simp -implicitDefEqProofs only [zB1,zB2,zB3,zB4,zB5,zB6,zB7,zB8,zB9,zB10,zB11,y00,y01,y02,y03,y04,y05,y06,y07,y08,y09,y0a,y0b,y0c,y0d,y0e,y0f,y0g,y0h,y0i,y0j,y0k,y0l,y0m,y0n,y0o,y0p,y0q,y0r,y0s,y0t,y0u,y0v,y0w,y0x,y0y,y0z,y10,y11,y12,y13,y14,y15,y16,y17,y18,y19,y1a,y1b,y1c,y1d,y1e,y1f,y1g,y1h,y1i,y1j,y1k,y1l,y1m,y1n,y1o,y1p,y1q,y1r,retO,retL,retV,z6i,allV,allP,z6j,z6m,z6n,z6t,z6u,z6v,binV,eqV,unV,oOpt,reduceIte,reduceCtorEq,Nat.reduceEqDiff,Nat.reduceAdd,Nat.reduceMul,Nat.reduceLT,Nat.reduceSub,Int.reduceLT,Int.reduceLE,Int.reduceEq,Int.reduceNe,Int.reduceSub,Int.reduceAdd,Int.reduceMul,Int.reduceBEq,Int.reduceBNe,Int.reduceGT,Int.reduceGE,Nat.reduceGT,Int.reduceToNat,Int.reduceNeg,Nat.reduceLeDiff,Nat.reduceBEq,Nat.reduceBneDiff,Value.cells, List.length_replicate]
      intro b11 hb11
      have st11 := stY H4 b11
      simp -implicitDefEqProofs only [zB1,zB2,zB3,zB4,zB5,zB6,zB7,zB8,zB9,zB10,zB11,y00,y01,y02,y03,y04,y05,y06,y07,y08,y09,y0a,y0b,y0c,y0d,y0e,y0f,y0g,y0h,y0i,y0j,y0k,y0l,y0m,y0n,y0o,y0p,y0q,y0r,y0s,y0t,y0u,y0v,y0w,y0x,y0y,y0z,y10,y11,y12,y13,y14,y15,y16,y17,y18,y19,y1a,y1b,y1c,y1d,y1e,y1f,y1g,y1h,y1i,y1j,y1k,y1l,y1m,y1n,y1o,y1p,y1q,y1r,retO,retL,retV,z6i,allV,allP,z6j,z6m,z6n,z6t,z6u,z6v,binV,eqV,unV,oOpt,reduceIte,reduceCtorEq,Nat.reduceEqDiff,Nat.reduceAdd,Nat.reduceMul,Nat.reduceLT,Nat.reduceSub,Int.reduceLT,Int.reduceLE,Int.reduceEq,Int.reduceNe,Int.reduceSub,Int.reduceAdd,Int.reduceMul,Int.reduceBEq,Int.reduceBNe,Int.reduceGT,Int.reduceGE,Nat.reduceGT,Int.reduceToNat,Int.reduceNeg,Nat.reduceLeDiff,Nat.reduceBEq,Nat.reduceBneDiff,Value.cells, st11]
      have le5 := Heap.le_set (Heap.le_refl H4) hb11 (.own 0 (Y.map u8V) 32)
      have q11 := Heap.set_self H4 b11 (.own 0 (Y.map u8V) 32)
      generalize (H4.set b11 (.own 0 (Y.map u8V) 32)) = H5 at le5 q11 ⊢
      have P5 := P4.le le5
      unfold ir_bandboxlaw22_EpochRings_69
      simp -implicitDefEqProofs only [zB1,zB2,zB3,zB4,zB5,zB6,zB7,zB8,zB9,zB10,zB11,y00,y01,y02,y03,y04,y05,y06,y07,y08,y09,y0a,y0b,y0c,y0d,y0e,y0f,y0g,y0h,y0i,y0j,y0k,y0l,y0m,y0n,y0o,y0p,y0q,y0r,y0s,y0t,y0u,y0v,y0w,y0x,y0y,y0z,y10,y11,y12,y13,y14,y15,y16,y17,y18,y19,y1a,y1b,y1c,y1d,y1e,y1f,y1g,y1h,y1i,y1j,y1k,y1l,y1m,y1n,y1o,y1p,y1q,y1r,retO,retL,retV,z6i,allV,allP,z6j,z6m,z6n,z6t,z6u,z6v,binV,eqV,unV,oOpt,reduceIte,reduceCtorEq,Nat.reduceEqDiff,Nat.reduceAdd,Nat.reduceMul,Nat.reduceLT,Nat.reduceSub,Int.reduceLT,Int.reduceLE,Int.reduceEq,Int.reduceNe,Int.reduceSub,Int.reduceAdd,Int.reduceMul,Int.reduceBEq,Int.reduceBNe,Int.reduceGT,Int.reduceGE,Nat.reduceGT,Int.reduceToNat,Int.reduceNeg,Nat.reduceLeDiff,Nat.reduceBEq,Nat.reduceBneDiff,Value.cells]
      refine (P5.getW E I3 (by omega) ask).mono ?_
      rintro r H6 ⟨le6, rfl⟩
      rw [hD]
      have P6 := P5.le le6
      simp -implicitDefEqProofs only [zB1,zB2,zB3,zB4,zB5,zB6,zB7,zB8,zB9,zB10,zB11,y00,y01,y02,y03,y04,y05,y06,y07,y08,y09,y0a,y0b,y0c,y0d,y0e,y0f,y0g,y0h,y0i,y0j,y0k,y0l,y0m,y0n,y0o,y0p,y0q,y0r,y0s,y0t,y0u,y0v,y0w,y0x,y0y,y0z,y10,y11,y12,y13,y14,y15,y16,y17,y18,y19,y1a,y1b,y1c,y1d,y1e,y1f,y1g,y1h,y1i,y1j,y1k,y1l,y1m,y1n,y1o,y1p,y1q,y1r,retO,retL,retV,z6i,allV,allP,z6j,z6m,z6n,z6t,z6u,z6v,binV,eqV,unV,oOpt,reduceIte,reduceCtorEq,Nat.reduceEqDiff,Nat.reduceAdd,Nat.reduceMul,Nat.reduceLT,Nat.reduceSub,Int.reduceLT,Int.reduceLE,Int.reduceEq,Int.reduceNe,Int.reduceSub,Int.reduceAdd,Int.reduceMul,Int.reduceBEq,Int.reduceBNe,Int.reduceGT,Int.reduceGE,Nat.reduceGT,Int.reduceToNat,Int.reduceNeg,Nat.reduceLeDiff,Nat.reduceBEq,Nat.reduceBneDiff,Value.cells, List.length_replicate]
      intro b13 hb13
      have st13 := stY H6 b13
      simp -implicitDefEqProofs only [zB1,zB2,zB3,zB4,zB5,zB6,zB7,zB8,zB9,zB10,zB11,y00,y01,y02,y03,y04,y05,y06,y07,y08,y09,y0a,y0b,y0c,y0d,y0e,y0f,y0g,y0h,y0i,y0j,y0k,y0l,y0m,y0n,y0o,y0p,y0q,y0r,y0s,y0t,y0u,y0v,y0w,y0x,y0y,y0z,y10,y11,y12,y13,y14,y15,y16,y17,y18,y19,y1a,y1b,y1c,y1d,y1e,y1f,y1g,y1h,y1i,y1j,y1k,y1l,y1m,y1n,y1o,y1p,y1q,y1r,retO,retL,retV,z6i,allV,allP,z6j,z6m,z6n,z6t,z6u,z6v,binV,eqV,unV,oOpt,reduceIte,reduceCtorEq,Nat.reduceEqDiff,Nat.reduceAdd,Nat.reduceMul,Nat.reduceLT,Nat.reduceSub,Int.reduceLT,Int.reduceLE,Int.reduceEq,Int.reduceNe,Int.reduceSub,Int.reduceAdd,Int.reduceMul,Int.reduceBEq,Int.reduceBNe,Int.reduceGT,Int.reduceGE,Nat.reduceGT,Int.reduceToNat,Int.reduceNeg,Nat.reduceLeDiff,Nat.reduceBEq,Nat.reduceBneDiff,Value.cells, st13]
      have le7 := Heap.le_set (Heap.le_refl H6) hb13 (.own 0 (Y.map u8V) 32)
      have q13 := Heap.set_self H6 b13 (.own 0 (Y.map u8V) 32)
      generalize (H6.set b13 (.own 0 (Y.map u8V) 32)) = H7 at le7 q13 ⊢
      have P7 := P6.le le7
      refine (P7.last E X I3 (by omega)).mono ?_
      rintro r H8 ⟨le8, m1, rfl, z1, l1⟩
      have P8 := P7.le le8
      simp -implicitDefEqProofs only [zB1,zB2,zB3,zB4,zB5,zB6,zB7,zB8,zB9,zB10,zB11,y00,y01,y02,y03,y04,y05,y06,y07,y08,y09,y0a,y0b,y0c,y0d,y0e,y0f,y0g,y0h,y0i,y0j,y0k,y0l,y0m,y0n,y0o,y0p,y0q,y0r,y0s,y0t,y0u,y0v,y0w,y0x,y0y,y0z,y10,y11,y12,y13,y14,y15,y16,y17,y18,y19,y1a,y1b,y1c,y1d,y1e,y1f,y1g,y1h,y1i,y1j,y1k,y1l,y1m,y1n,y1o,y1p,y1q,y1r,retO,retL,retV,z6i,allV,allP,z6j,z6m,z6n,z6t,z6u,z6v,binV,eqV,unV,oOpt,reduceIte,reduceCtorEq,Nat.reduceEqDiff,Nat.reduceAdd,Nat.reduceMul,Nat.reduceLT,Nat.reduceSub,Int.reduceLT,Int.reduceLE,Int.reduceEq,Int.reduceNe,Int.reduceSub,Int.reduceAdd,Int.reduceMul,Int.reduceBEq,Int.reduceBNe,Int.reduceGT,Int.reduceGE,Nat.reduceGT,Int.reduceToNat,Int.reduceNeg,Nat.reduceLeDiff,Nat.reduceBEq,Nat.reduceBneDiff,Value.cells]
      refine (P8.lastW E I3 (by omega)).mono ?_
      rintro r H9 ⟨rfl, m2, rfl, z2, l2⟩
      have em : m1 = m2 := by
        cases L3 with
        | nil => rw [z1 rfl, z2 rfl]
        | cons y L => exact last_one (l1 (by simp)) (l2 (by simp))
      subst em
      have y11 : hcells H9 ⟨b11, 0, none⟩ 32 = some (Y.map u8V) := by
        rw [hcells_at (Heap.le_trans le6 (Heap.le_trans le7 le8) _ _ q11) (by simp [hg32])]; simp [List.take_of_length_le, hg32]
      have y13 : hcells H9 ⟨b13, 0, none⟩ 32 = some (Y.map u8V) := by
        rw [hcells_at (le8 _ _ q13) (by simp [hg32])]; simp [List.take_of_length_le, hg32]
      have k1 := leaves_u8 Y
      rw [hg32] at k1
      have k3 := leavesEq_u8 Y
      simp -implicitDefEqProofs only [zB1,zB2,zB3,zB4,zB5,zB6,zB7,zB8,zB9,zB10,zB11,y00,y01,y02,y03,y04,y05,y06,y07,y08,y09,y0a,y0b,y0c,y0d,y0e,y0f,y0g,y0h,y0i,y0j,y0k,y0l,y0m,y0n,y0o,y0p,y0q,y0r,y0s,y0t,y0u,y0v,y0w,y0x,y0y,y0z,y10,y11,y12,y13,y14,y15,y16,y17,y18,y19,y1a,y1b,y1c,y1d,y1e,y1f,y1g,y1h,y1i,y1j,y1k,y1l,y1m,y1n,y1o,y1p,y1q,y1r,retO,retL,retV,z6i,allV,allP,z6j,z6m,z6n,z6t,z6u,z6v,binV,eqV,unV,oOpt,reduceIte,reduceCtorEq,Nat.reduceEqDiff,Nat.reduceAdd,Nat.reduceMul,Nat.reduceLT,Nat.reduceSub,Int.reduceLT,Int.reduceLE,Int.reduceEq,Int.reduceNe,Int.reduceSub,Int.reduceAdd,Int.reduceMul,Int.reduceBEq,Int.reduceBNe,Int.reduceGT,Int.reduceGE,Nat.reduceGT,Int.reduceToNat,Int.reduceNeg,Nat.reduceLeDiff,Nat.reduceBEq,Nat.reduceBneDiff,Value.cells]
      unfold ir_bandboxlaw22_EpochRings_84
      simp -implicitDefEqProofs only [zB1,zB2,zB3,zB4,zB5,zB6,zB7,zB8,zB9,zB10,zB11,y00,y01,y02,y03,y04,y05,y06,y07,y08,y09,y0a,y0b,y0c,y0d,y0e,y0f,y0g,y0h,y0i,y0j,y0k,y0l,y0m,y0n,y0o,y0p,y0q,y0r,y0s,y0t,y0u,y0v,y0w,y0x,y0y,y0z,y10,y11,y12,y13,y14,y15,y16,y17,y18,y19,y1a,y1b,y1c,y1d,y1e,y1f,y1g,y1h,y1i,y1j,y1k,y1l,y1m,y1n,y1o,y1p,y1q,y1r,retO,retL,retV,z6i,allV,allP,z6j,z6m,z6n,z6t,z6u,z6v,binV,eqV,unV,oOpt,reduceIte,reduceCtorEq,Nat.reduceEqDiff,Nat.reduceAdd,Nat.reduceMul,Nat.reduceLT,Nat.reduceSub,Int.reduceLT,Int.reduceLE,Int.reduceEq,Int.reduceNe,Int.reduceSub,Int.reduceAdd,Int.reduceMul,Int.reduceBEq,Int.reduceBNe,Int.reduceGT,Int.reduceGE,Nat.reduceGT,Int.reduceToNat,Int.reduceNeg,Nat.reduceLeDiff,Nat.reduceBEq,Nat.reduceBneDiff,Value.cells, y11, y13, k1, k3, beq_self_eq_true, bne_self_eq_false]
      have P9 := P8
      obtain ⟨h0, a9, b9, d9, R9, G9⟩ := P8
      refine (epoch_Len_c E R9).mono ?_
      rintro r H10 ⟨rfl, rfl⟩
      simp -implicitDefEqProofs only [zB1,zB2,zB3,zB4,zB5,zB6,zB7,zB8,zB9,zB10,zB11,y00,y01,y02,y03,y04,y05,y06,y07,y08,y09,y0a,y0b,y0c,y0d,y0e,y0f,y0g,y0h,y0i,y0j,y0k,y0l,y0m,y0n,y0o,y0p,y0q,y0r,y0s,y0t,y0u,y0v,y0w,y0x,y0y,y0z,y10,y11,y12,y13,y14,y15,y16,y17,y18,y19,y1a,y1b,y1c,y1d,y1e,y1f,y1g,y1h,y1i,y1j,y1k,y1l,y1m,y1n,y1o,y1p,y1q,y1r,retO,retL,retV,z6i,allV,allP,z6j,z6m,z6n,z6t,z6u,z6v,binV,eqV,unV,oOpt,reduceIte,reduceCtorEq,Nat.reduceEqDiff,Nat.reduceAdd,Nat.reduceMul,Nat.reduceLT,Nat.reduceSub,Int.reduceLT,Int.reduceLE,Int.reduceEq,Int.reduceNe,Int.reduceSub,Int.reduceAdd,Int.reduceMul,Int.reduceBEq,Int.reduceBNe,Int.reduceGT,Int.reduceGE,Nat.reduceGT,Int.reduceToNat,Int.reduceNeg,Nat.reduceLeDiff,Nat.reduceBEq,Nat.reduceBneDiff,Value.cells]
      refine (ref_Len_c E (G9.le d9)).mono ?_
      rintro r H11 ⟨rfl, rfl⟩
      simp -implicitDefEqProofs only [zB1,zB2,zB3,zB4,zB5,zB6,zB7,zB8,zB9,zB10,zB11,y00,y01,y02,y03,y04,y05,y06,y07,y08,y09,y0a,y0b,y0c,y0d,y0e,y0f,y0g,y0h,y0i,y0j,y0k,y0l,y0m,y0n,y0o,y0p,y0q,y0r,y0s,y0t,y0u,y0v,y0w,y0x,y0y,y0z,y10,y11,y12,y13,y14,y15,y16,y17,y18,y19,y1a,y1b,y1c,y1d,y1e,y1f,y1g,y1h,y1i,y1j,y1k,y1l,y1m,y1n,y1o,y1p,y1q,y1r,retO,retL,retV,z6i,allV,allP,z6j,z6m,z6n,z6t,z6u,z6v,binV,eqV,unV,oOpt,reduceIte,reduceCtorEq,Nat.reduceEqDiff,Nat.reduceAdd,Nat.reduceMul,Nat.reduceLT,Nat.reduceSub,Int.reduceLT,Int.reduceLE,Int.reduceEq,Int.reduceNe,Int.reduceSub,Int.reduceAdd,Int.reduceMul,Int.reduceBEq,Int.reduceBNe,Int.reduceGT,Int.reduceGE,Nat.reduceGT,Int.reduceToNat,Int.reduceNeg,Nat.reduceLeDiff,Nat.reduceBEq,Nat.reduceBneDiff,Value.cells, bne_self_eq_false, w1]
      exact ⟨M.length - (i + 1), by omega, i + 1, L3, rfl, by omega, rfl, P9, I3⟩
    · have hi1 : ¬ (i : Int) < M.length := by omega
      simp -implicitDefEqProofs only [zB1,zB2,zB3,zB4,zB5,zB6,zB7,zB8,zB9,zB10,zB11,y00,y01,y02,y03,y04,y05,y06,y07,y08,y09,y0a,y0b,y0c,y0d,y0e,y0f,y0g,y0h,y0i,y0j,y0k,y0l,y0m,y0n,y0o,y0p,y0q,y0r,y0s,y0t,y0u,y0v,y0w,y0x,y0y,y0z,y10,y11,y12,y13,y14,y15,y16,y17,y18,y19,y1a,y1b,y1c,y1d,y1e,y1f,y1g,y1h,y1i,y1j,y1k,y1l,y1m,y1n,y1o,y1p,y1q,y1r,retO,retL,retV,z6i,allV,allP,z6j,z6m,z6n,z6t,z6u,z6v,binV,eqV,unV,oOpt,reduceIte,reduceCtorEq,Nat.reduceEqDiff,Nat.reduceAdd,Nat.reduceMul,Nat.reduceLT,Nat.reduceSub,Int.reduceLT,Int.reduceLE,Int.reduceEq,Int.reduceNe,Int.reduceSub,Int.reduceAdd,Int.reduceMul,Int.reduceBEq,Int.reduceBNe,Int.reduceGT,Int.reduceGE,Nat.reduceGT,Int.reduceToNat,Int.reduceNeg,Nat.reduceLeDiff,Nat.reduceBEq,Nat.reduceBneDiff,Value.cells, hi1]
  · have g1' : ((K.length : Int) != (M.length : Int)) = true := by simp; omega
    simp -implicitDefEqProofs only [zB1,zB2,zB3,zB4,zB5,zB6,zB7,zB8,zB9,zB10,zB11,y00,y01,y02,y03,y04,y05,y06,y07,y08,y09,y0a,y0b,y0c,y0d,y0e,y0f,y0g,y0h,y0i,y0j,y0k,y0l,y0m,y0n,y0o,y0p,y0q,y0r,y0s,y0t,y0u,y0v,y0w,y0x,y0y,y0z,y10,y11,y12,y13,y14,y15,y16,y17,y18,y19,y1a,y1b,y1c,y1d,y1e,y1f,y1g,y1h,y1i,y1j,y1k,y1l,y1m,y1n,y1o,y1p,y1q,y1r,retO,retL,retV,z6i,allV,allP,z6j,z6m,z6n,z6t,z6u,z6v,binV,eqV,unV,oOpt,reduceIte,reduceCtorEq,Nat.reduceEqDiff,Nat.reduceAdd,Nat.reduceMul,Nat.reduceLT,Nat.reduceSub,Int.reduceLT,Int.reduceLE,Int.reduceEq,Int.reduceNe,Int.reduceSub,Int.reduceAdd,Int.reduceMul,Int.reduceBEq,Int.reduceBNe,Int.reduceGT,Int.reduceGE,Nat.reduceGT,Int.reduceToNat,Int.reduceNeg,Nat.reduceLeDiff,Nat.reduceBEq,Nat.reduceBneDiff,Value.cells, g0, g1']
end Go.Bb
