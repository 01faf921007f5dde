/- My contracts: BbCjou4 BbCjou5 BbCjou6 BbCjou7 BbCsha6 BbCsha7 BbLjou0 BbCoct2 BbCoct3 BbLjou1. -/
import Derived.Test.YtfekancobbplaaaDoorBbG3
import Derived.Test.YtfekancobbplaaaDoorBbM2
import Derived.Test.YtfekancobbplaaaDoorBbM1
/- Contracts: records added to a journal. -/
namespace Go.Bb
set_option linter.unusedSimpArgs false
set_option linter.unusedVariables false
set_option maxRecDepth 20000
set_option maxHeartbeats 2000000

/-- A disk that fits, of at most n writes a file. -/
def DiskF.okW (D : DiskF) (n : Nat) : Prop := (∀ x ∈ D.files, x.2.writes.length ≤ n ∧ x.1.length ≤ 20) ∧ (sizeF D.files : Int) ≤ D.room ∧ D.room ≤ 1048576
theorem DiskF.okW.ok {D : DiskF} {n : Nat} (h : D.okW n) (hn : n ≤ 100000) : D.ok := by
  obtain ⟨h1, h2, h3⟩ := h
  refine ⟨fun x hx => ⟨⟨by have := (h1 x hx).1; omega, ?_⟩, (h1 x hx).2⟩, by omega, h3, by omega⟩
  have := size_le hx
  unfold FileF.size at this
  omega
theorem DiskF.okW.mono {D : DiskF} {n m : Nat} (h : D.okW n) (hn : n ≤ m) : D.okW m := ⟨fun x hx => ⟨by have := (h.1 x hx).1; omega, (h.1 x hx).2⟩, h.2⟩
theorem size_snoc (A B : Files) : sizeF (A ++ B) = sizeF A + sizeF B := by simp [sizeF]
theorem turn_size {L : Files} {s : List UInt8} {F F' : FileF} {k : Nat} (nd : (L.map (·.1)).Nodup) (hl : lookF L s = some F) (hF : F'.size = F.size + k) : sizeF (turnF' L s F') = sizeF L + k := by
  induction L with
  | nil => simp [lookF] at hl
  | cons x L ih =>
    rw [List.map_cons, List.nodup_cons] at nd
    by_cases e : x.1 = s
    · subst e
      have : x.2 = F := by simpa [lookF] using hl
      subst this
      have hL : turnF' L x.1 F' = L := by
        unfold turnF'
        conv => rhs; rw [← List.map_id L]
        apply List.map_congr_left
        intro y hy
        rw [if_neg]
        · rfl
        · intro q; exact nd.1 (by rw [← q]; exact List.mem_map_of_mem hy)
      have : turnF' (x :: L) x.1 F' = (x.1, F') :: turnF' L x.1 F' := by simp [turnF']
      rw [this, hL]
      simp only [sizeF, List.map_cons, List.sum_cons, hF]
      omega
    · have hl' : lookF L s = some F := by
        simpa [lookF, List.find?_cons, e] using hl
      have h1 := ih nd.2 hl'
      have : turnF' (x :: L) s F' = x :: turnF' L s F' := by simp [turnF', e]
      rw [this]
      simp only [sizeF, List.map_cons, List.sum_cons] at h1 ⊢
      omega
/-- Names once each. -/
def DiskF.nd (D : DiskF) : Prop := (D.files.map (·.1)).Nodup
theorem DiskR.nd {κ : Pal} {H : Heap} {d : Nat} {D : DiskF} (R : DiskR κ H d D) : D.nd := by
  obtain ⟨G, r, clk, V⟩ := R
  unfold DiskF.nd
  rw [V.files, List.map_map]
  exact V.nn
theorem write_size (F : FileF) (b : List UInt8) : (writeF F b).size = F.size + b.length := by
  simp [FileF.size, FileF.all, writeF]
  omega
theorem append_ok {D : DiskF} {n : Nat} (h : D.okW n) (nd : D.nd) {s b : List UInt8} (hs : s.length ≤ 20) : (appendF D s b).1.okW (n + 1) := by
  unfold appendF
  split
  · split
    · exact h.mono (by omega)
    · rename_i full
      split
      · refine ⟨?_, ?_, h.2.2⟩
        · intro x hx
          rcases List.mem_append.1 hx with hx | hx
          · have := h.1 x hx; exact ⟨by omega, this.2⟩
          · rw [List.mem_singleton] at hx; subst hx; exact ⟨by simp, hs⟩
        · show ((sizeF (D.files ++ [(s, ⟨[], [b]⟩)]) : Nat) : Int) ≤ D.room
          rw [size_snoc]
          simp only [sizeF, List.map_cons, List.map_nil, List.sum_cons, List.sum_nil, FileF.size, FileF.all, List.nil_append, List.flatten_singleton] at full ⊢
          omega
      · rename_i F hF
        refine ⟨?_, ?_, h.2.2⟩
        · intro x hx
          obtain ⟨y, hy, rfl⟩ := List.mem_map.1 hx
          have := h.1 y hy
          split
          · have hF' : ∃ y ∈ D.files, y.2 = F := by
              unfold lookF at hF
              obtain ⟨z, hz, rfl⟩ := Option.map_eq_some_iff.1 hF
              exact ⟨z, List.mem_of_find?_eq_some hz, rfl⟩
            obtain ⟨z, hz, rfl⟩ := hF'
            have h2 := h.1 z hz
            exact ⟨by simp [writeF]; omega, this.2⟩
          · exact ⟨by omega, this.2⟩
        · show ((sizeF (turnF' D.files s (writeF F b)) : Nat) : Int) ≤ D.room
          rw [turn_size nd hF (write_size F b)]
          omega
  · exact h.mono (by omega)

def addL (nm : List UInt8) : List (List UInt8) → DiskF → Bool → DiskF × Nat × Bool
  | [], D, w => (D, 0, w)
  | b :: L, D, w => if (appendF D nm (frameF b)).2 = 0 then addL nm L (appendF D nm (frameF b)).1 true else ((appendF D nm (frameF b)).1, (appendF D nm (frameF b)).2, w)
def addF (J : JF) (D : DiskF) (L : List (List UInt8)) : JF × DiskF × Nat :=
  if doneF J D then (J, D, 7)
  else if L.any (fun b => decide (16384 < b.length)) then (J, D, 2)
  else if (addL (nameF J.turn J.part) L D J.written).2.1 = 0 then ({ J with written := (addL (nameF J.turn J.part) L D J.written).2.2, recs := J.recs ++ L }, (addL (nameF J.turn J.part) L D J.written).1, 0)
  else ({ J with written := (addL (nameF J.turn J.part) L D J.written).2.2, full := true }, (addL (nameF J.turn J.part) L D J.written).1, (addL (nameF J.turn J.part) L D J.written).2.1)
def jdC (j d : Nat) : Col → Prop := fun c => c.1 = j ∨ c.1 = d
theorem ext_jd {κ κ' : Pal} {H H' : Heap} {j d : Nat} (h : Ext (jouC j) κ H κ' H') : Ext (jdC j d) κ H κ' H' := h.mono fun c e => .inl e
theorem ext_dj {κ κ' : Pal} {H H' : Heap} {j d : Nat} (h : Ext (diskC d) κ H κ' H') : Ext (jdC j d) κ H κ' H' := h.mono fun c e => .inr e

/-- What is put behind the records. -/
theorem jou_write {κ : Pal} {G : Heap} {j d : Nat} {J : JF} {vb vr xv wv : Value} {rs : List Value} {l : List UInt8} {K : Value → Heap → Prop} (R : JouV κ G j d J vb vr rs) (x : Sl G 1 xv 1 [wv]) (ow : OwK κ (j, j, 10) G 1 wv l.length (l.map u8V)) (hb : J.recs.length ≤ 1000000000)
    (hk : ∀ v G', storeV G' 1 (.pointer (some ⟨j, 6, none⟩)) v = some (G'.set j (.own 0 [ptrV d, .int .i64 J.lives, .int .u64 (J.turn : Nat), .int .i64 (J.part : Nat), .bool J.written, vb, v, .bool J.full] 8)) →
      (∃ base c, v = .slice base (J.recs.length + 1) c) → (∃ κ', Ext (jouC j) κ G κ' (G'.set j (.own 0 [ptrV d, .int .i64 J.lives, .int .u64 (J.turn : Nat), .int .i64 (J.part : Nat), .bool J.written, vb, v, .bool J.full] 8)) ∧ JouR κ' (G'.set j (.own 0 [ptrV d, .int .i64 J.lives, .int .u64 (J.turn : Nat), .int .i64 (J.part : Nat), .bool J.written, vb, v, .bool J.full] 8)) j d { J with recs := J.recs ++ [l] }) → K v G') : appendP 1 24 G vr xv K := by
  obtain ⟨k, q, s1, s2, hl, s3⟩ := R
  have ho : [wv].all one = true := by
    obtain ⟨b, c, rfl⟩ := Sl.shape ow.sl
    rfl
  refine appendP_ow (Heap.but_le G κ (j, j, 9)) (by omega) s2 x ho (by omega) (by omega) ?_
  intro v G' o le
  have e1 := Ext.grow le
  obtain ⟨q', k'⟩ := e1.blk k (by simp) q
  obtain ⟨vb', vc', rfl⟩ := Sl.shape o.sl
  have e2 := Ext.set (H := G') k' (.own 0 [ptrV d, .int .i64 J.lives, .int .u64 (J.turn : Nat), .int .i64 (J.part : Nat), .bool J.written, vb, .slice vb' (J.recs.length + 1) vc', .bool J.full] 8)
  refine hk _ G' (storeV_one_at q' rfl (by simp) (by simp)) ⟨vb', vc', rfl⟩ ⟨κ.grow G (j, j, 9), (ext_j e1).trans (ext_j e2), vb, _, rs ++ [wv], k', Heap.set_self _ _ _, e2.own (by simp) (e1.own (by simp) s1), ?_, ?_, ?_⟩
  · refine e2.own (by simp) ?_
    have := OwK.grown o
    simpa using this
  · simp [hl]
  · intro i h1 h2
    refine e2.own (by simp) (e1.own (by simp) ?_)
    by_cases hi : i < rs.length
    · have hi2 : i < J.recs.length := by omega
      have := s3 i hi hi2
      simp only [List.getElem_append_left hi, List.getElem_append_left hi2]
      exact this
    · have : i = rs.length := by
        simp at h1; omega
      subst this
      have e3 : (rs ++ [wv])[rs.length]'h1 = wv := by simp
      have e4 : (J.recs ++ [l])[rs.length]'h2 = l := by
        rw [List.getElem_append_right (by omega)]
        simp [hl]
      rw [e3, e4]; exact ow

theorem journal_Add_c (E : EnvT tab) {κ : Pal} {H : Heap} {j d : Nat} {J : JF} {D : DiskF} {n : Nat} (R : JouR κ H j d J) (RD : DiskR κ H d D) (ne : d ≠ j) (ok : D.okW n) (ht : J.turn < 64) (hp : J.part < 64) {vL : Value} (L : List (List UInt8)) (sL : SlL (H.bare κ) vL L) (hn : n + L.length ≤ 100000) (hr : J.recs.length + L.length ≤ 100000) :
    ACallN E.toEnv n_journal_Journal_Add [ptrV j, vL] H fun r H' => r = .int .i64 ((addF J D L).2.2 : Nat) ∧ ∃ κ', Ext (jdC j d) κ H κ' H' ∧ JouR κ' H' j d (addF J D L).1 ∧ DiskR κ' H' d (addF J D L).2.1 := by
  obtain ⟨Lb, Lc, rfl⟩ := sL.shape
  refine acall h_journal_Journal_Add ir_journal_Journal_Add rfl rfl (wpA_sound ?_)
  unfold ir_journal_Journal_Add
  simp -implicitDefEqProofs only [zB1,zB2,zB3,zB4,zB5,zB6,zB7,zB8,zB9,zB10,zB11,y00,y01,y02,y03,y04,y05,y06,y07,y08,y09,y0a,y0b,y0c,y0d,y0e,y0f,y0g,y0h,y0i,y0j,y0k,y0l,y0m,y0n,y0o,y0p,y0q,y0r,y0s,y0t,y0u,y0v,y0w,y0x,y0y,y0z,y10,y11,y12,y13,y14,y15,y16,y17,y18,y19,y1a,y1b,y1c,y1d,y1e,y1f,y1g,y1h,y1i,y1j,y1k,y1l,y1m,y1n,y1o,y1p,y1q,y1r,retO,retL,retV,z6i,allV,allP,z6j,z6m,z6n,z6t,z6u,z6v,binV,eqV,unV,oOpt,reduceIte,reduceCtorEq,Nat.reduceEqDiff,Nat.reduceAdd,Nat.reduceMul,Nat.reduceLT,Nat.reduceSub,Int.reduceLT,Int.reduceLE,Int.reduceEq,Int.reduceNe,Int.reduceSub,Int.reduceAdd,Int.reduceMul,Int.reduceBEq,Int.reduceBNe,Int.reduceGT,Int.reduceGE,Nat.reduceGT,Int.reduceToNat,Int.reduceNeg,Nat.reduceLeDiff,Nat.reduceBEq,Nat.reduceBneDiff,Value.cells]
  refine (journal_Done_c E R RD).mono ?_
  rintro v H1 ⟨rfl, rfl⟩
  unfold addF
  by_cases dn : doneF J D = true
  · simp -implicitDefEqProofs only [zB1,zB2,zB3,zB4,zB5,zB6,zB7,zB8,zB9,zB10,zB11,y00,y01,y02,y03,y04,y05,y06,y07,y08,y09,y0a,y0b,y0c,y0d,y0e,y0f,y0g,y0h,y0i,y0j,y0k,y0l,y0m,y0n,y0o,y0p,y0q,y0r,y0s,y0t,y0u,y0v,y0w,y0x,y0y,y0z,y10,y11,y12,y13,y14,y15,y16,y17,y18,y19,y1a,y1b,y1c,y1d,y1e,y1f,y1g,y1h,y1i,y1j,y1k,y1l,y1m,y1n,y1o,y1p,y1q,y1r,retO,retL,retV,z6i,allV,allP,z6j,z6m,z6n,z6t,z6u,z6v,binV,eqV,unV,oOpt,reduceIte,reduceCtorEq,Nat.reduceEqDiff,Nat.reduceAdd,Nat.reduceMul,Nat.reduceLT,Nat.reduceSub,Int.reduceLT,Int.reduceLE,Int.reduceEq,Int.reduceNe,Int.reduceSub,Int.reduceAdd,Int.reduceMul,Int.reduceBEq,Int.reduceBNe,Int.reduceGT,Int.reduceGE,Nat.reduceGT,Int.reduceToNat,Int.reduceNeg,Nat.reduceLeDiff,Nat.reduceBEq,Nat.reduceBneDiff,Value.cells, dn]
    exact ⟨κ, Ext.refl _ _ _, R, RD⟩
  simp -implicitDefEqProofs only [zB1,zB2,zB3,zB4,zB5,zB6,zB7,zB8,zB9,zB10,zB11,y00,y01,y02,y03,y04,y05,y06,y07,y08,y09,y0a,y0b,y0c,y0d,y0e,y0f,y0g,y0h,y0i,y0j,y0k,y0l,y0m,y0n,y0o,y0p,y0q,y0r,y0s,y0t,y0u,y0v,y0w,y0x,y0y,y0z,y10,y11,y12,y13,y14,y15,y16,y17,y18,y19,y1a,y1b,y1c,y1d,y1e,y1f,y1g,y1h,y1i,y1j,y1k,y1l,y1m,y1n,y1o,y1p,y1q,y1r,retO,retL,retV,z6i,allV,allP,z6j,z6m,z6n,z6t,z6u,z6v,binV,eqV,unV,oOpt,reduceIte,reduceCtorEq,Nat.reduceEqDiff,Nat.reduceAdd,Nat.reduceMul,Nat.reduceLT,Nat.reduceSub,Int.reduceLT,Int.reduceLE,Int.reduceEq,Int.reduceNe,Int.reduceSub,Int.reduceAdd,Int.reduceMul,Int.reduceBEq,Int.reduceBNe,Int.reduceGT,Int.reduceGE,Nat.reduceGT,Int.reduceToNat,Int.reduceNeg,Nat.reduceLeDiff,Nat.reduceBEq,Nat.reduceBneDiff,Value.cells, dn]
  refine wp_loop' (fun m t G => G = H1 ∧ ∃ i : Nat, t = tl [(0, ptrV j), (1, .slice Lb L.length Lc), (14, .slice Lb L.length Lc), (15, .int .i64 L.length), (16, .int .i64 i)] ∧ i ≤ L.length ∧ m = L.length - i ∧ (L.take i).any (fun b => decide (16384 < b.length)) = false) L.length
    ⟨rfl, 0, rfl, by omega, by omega, by simp⟩ ?_
  rintro m t G ⟨rfl, i, rfl, hi, rfl, ha⟩
  by_cases hlt : i < L.length
  · have hi1 : (i : Int) < L.length := by omega
    have hi2 : (0 : Int) ≤ i := by omega
    have w1 : IntKind.i64.wrap ((i : Int) + 1) = ((i + 1 : Nat) : Int) := wrapN (by omega)
    obtain ⟨b, o, bi, ci, rfl, si, ciH⟩ := sL.at' i hlt
    have c1 := ciH G (Heap.bare_le _ _)
    by_cases g : 16384 < L[i].length
    · have g' : (16384 : Int) < L[i].length := by omega
      have an : L.any (fun b => decide (16384 < b.length)) = true := by
        rw [List.any_eq_true]
        exact ⟨L[i], List.getElem_mem hlt, by simpa using g⟩
      simp -implicitDefEqProofs only [zB1,zB2,zB3,zB4,zB5,zB6,zB7,zB8,zB9,zB10,zB11,y00,y01,y02,y03,y04,y05,y06,y07,y08,y09,y0a,y0b,y0c,y0d,y0e,y0f,y0g,y0h,y0i,y0j,y0k,y0l,y0m,y0n,y0o,y0p,y0q,y0r,y0s,y0t,y0u,y0v,y0w,y0x,y0y,y0z,y10,y11,y12,y13,y14,y15,y16,y17,y18,y19,y1a,y1b,y1c,y1d,y1e,y1f,y1g,y1h,y1i,y1j,y1k,y1l,y1m,y1n,y1o,y1p,y1q,y1r,retO,retL,retV,z6i,allV,allP,z6j,z6m,z6n,z6t,z6u,z6v,binV,eqV,unV,oOpt,reduceIte,reduceCtorEq,Nat.reduceEqDiff,Nat.reduceAdd,Nat.reduceMul,Nat.reduceLT,Nat.reduceSub,Int.reduceLT,Int.reduceLE,Int.reduceEq,Int.reduceNe,Int.reduceSub,Int.reduceAdd,Int.reduceMul,Int.reduceBEq,Int.reduceBNe,Int.reduceGT,Int.reduceGE,Nat.reduceGT,Int.reduceToNat,Int.reduceNeg,Nat.reduceLeDiff,Nat.reduceBEq,Nat.reduceBneDiff,Value.cells, hi1, hi2, Int.toNat_natCast, c1, g', an]
      exact ⟨κ, Ext.refl _ _ _, R, RD⟩
    · have g' : ¬ (16384 : Int) < L[i].length := by omega
      simp -implicitDefEqProofs only [zB1,zB2,zB3,zB4,zB5,zB6,zB7,zB8,zB9,zB10,zB11,y00,y01,y02,y03,y04,y05,y06,y07,y08,y09,y0a,y0b,y0c,y0d,y0e,y0f,y0g,y0h,y0i,y0j,y0k,y0l,y0m,y0n,y0o,y0p,y0q,y0r,y0s,y0t,y0u,y0v,y0w,y0x,y0y,y0z,y10,y11,y12,y13,y14,y15,y16,y17,y18,y19,y1a,y1b,y1c,y1d,y1e,y1f,y1g,y1h,y1i,y1j,y1k,y1l,y1m,y1n,y1o,y1p,y1q,y1r,retO,retL,retV,z6i,allV,allP,z6j,z6m,z6n,z6t,z6u,z6v,binV,eqV,unV,oOpt,reduceIte,reduceCtorEq,Nat.reduceEqDiff,Nat.reduceAdd,Nat.reduceMul,Nat.reduceLT,Nat.reduceSub,Int.reduceLT,Int.reduceLE,Int.reduceEq,Int.reduceNe,Int.reduceSub,Int.reduceAdd,Int.reduceMul,Int.reduceBEq,Int.reduceBNe,Int.reduceGT,Int.reduceGE,Nat.reduceGT,Int.reduceToNat,Int.reduceNeg,Nat.reduceLeDiff,Nat.reduceBEq,Nat.reduceBneDiff,Value.cells, hi1, hi2, Int.toNat_natCast, c1, g', w1]
      refine ⟨_, ?_, i + 1, rfl, by omega, rfl, ?_⟩
      · omega
      · rw [List.take_succ_eq_append_getElem hlt, List.any_append, ha]; simpa using g
  have hi1 : ¬ (i : Int) < L.length := by omega
  have e0 : i = L.length := by omega
  subst e0
  rw [List.take_length] at ha
  have hlen : ∀ b ∈ L, b.length ≤ 16384 := by
    intro b hb
    rw [List.any_eq_false] at ha
    have := ha b hb
    simpa using this
  simp only [ha]
  simp -implicitDefEqProofs only [zB1,zB2,zB3,zB4,zB5,zB6,zB7,zB8,zB9,zB10,zB11,y00,y01,y02,y03,y04,y05,y06,y07,y08,y09,y0a,y0b,y0c,y0d,y0e,y0f,y0g,y0h,y0i,y0j,y0k,y0l,y0m,y0n,y0o,y0p,y0q,y0r,y0s,y0t,y0u,y0v,y0w,y0x,y0y,y0z,y10,y11,y12,y13,y14,y15,y16,y17,y18,y19,y1a,y1b,y1c,y1d,y1e,y1f,y1g,y1h,y1i,y1j,y1k,y1l,y1m,y1n,y1o,y1p,y1q,y1r,retO,retL,retV,z6i,allV,allP,z6j,z6m,z6n,z6t,z6u,z6v,binV,eqV,unV,oOpt,reduceIte,reduceCtorEq,Nat.reduceEqDiff,Nat.reduceAdd,Nat.reduceMul,Nat.reduceLT,Nat.reduceSub,Int.reduceLT,Int.reduceLE,Int.reduceEq,Int.reduceNe,Int.reduceSub,Int.reduceAdd,Int.reduceMul,Int.reduceBEq,Int.reduceBNe,Int.reduceGT,Int.reduceGE,Nat.reduceGT,Int.reduceToNat,Int.reduceNeg,Nat.reduceLeDiff,Nat.reduceBEq,Nat.reduceBneDiff,Value.cells, hi1]
  unfold ir_journal_Journal_Add_24
  simp -implicitDefEqProofs only [zB1,zB2,zB3,zB4,zB5,zB6,zB7,zB8,zB9,zB10,zB11,y00,y01,y02,y03,y04,y05,y06,y07,y08,y09,y0a,y0b,y0c,y0d,y0e,y0f,y0g,y0h,y0i,y0j,y0k,y0l,y0m,y0n,y0o,y0p,y0q,y0r,y0s,y0t,y0u,y0v,y0w,y0x,y0y,y0z,y10,y11,y12,y13,y14,y15,y16,y17,y18,y19,y1a,y1b,y1c,y1d,y1e,y1f,y1g,y1h,y1i,y1j,y1k,y1l,y1m,y1n,y1o,y1p,y1q,y1r,retO,retL,retV,z6i,allV,allP,z6j,z6m,z6n,z6t,z6u,z6v,binV,eqV,unV,oOpt,reduceIte,reduceCtorEq,Nat.reduceEqDiff,Nat.reduceAdd,Nat.reduceMul,Nat.reduceLT,Nat.reduceSub,Int.reduceLT,Int.reduceLE,Int.reduceEq,Int.reduceNe,Int.reduceSub,Int.reduceAdd,Int.reduceMul,Int.reduceBEq,Int.reduceBNe,Int.reduceGT,Int.reduceGE,Nat.reduceGT,Int.reduceToNat,Int.reduceNeg,Nat.reduceLeDiff,Nat.reduceBEq,Nat.reduceBneDiff,Value.cells]
  refine wp_loop' (fun m t K => ∃ (i : Nat) (κ' : Pal) (Di : DiskF) (wi : Bool), t = tl [(0, ptrV j), (1, .slice Lb L.length Lc), (24, .slice Lb L.length Lc), (25, .int .i64 L.length), (26, .int .i64 i)] ∧ i ≤ L.length ∧ m = L.length - i ∧
      Ext (jdC j d) κ G κ' K ∧ JouR κ' K j d { J with written := wi } ∧ DiskR κ' K d Di ∧ Di.okW (n + i) ∧ addL (nameF J.turn J.part) L D J.written = addL (nameF J.turn J.part) (L.drop i) Di wi) L.length
    ⟨0, κ, D, J.written, rfl, by omega, by omega, Ext.refl _ _ _, R, RD, ok, rfl⟩ ?_
  rintro m t K ⟨i, κ', Di, wi, rfl, hi, rfl, eK, RK, RDK, okK, eA⟩
  have sLK := eK.bare
  by_cases hlt : i < L.length
  · have hi1 : (i : Int) < L.length := by omega
    have hi2 : (0 : Int) ≤ i := by omega
    have w1 : IntKind.i64.wrap ((i : Int) + 1) = ((i + 1 : Nat) : Int) := wrapN (by omega)
    obtain ⟨b, o, bi, ci, rfl, si, ciH⟩ := sL.at' i hlt
    have c1 := ciH K (Heap.le_trans sLK (Heap.bare_le _ _))
    have hli := hlen _ (List.getElem_mem hlt)
    obtain ⟨vb, vr, rs, RV⟩ := RK
    have q := RV.2.1
    have j0 : ∀ M, K.le M → hcell M ⟨j, 0, none⟩ = some (ptrV d) := fun M x => by rw [hcell_at (x _ _ q) (by simp)]; rfl
    have j2 : hcell K ⟨j, 2, none⟩ = some (.int .u64 (J.turn : Nat)) := by rw [hcell_at q (by simp)]; rfl
    have j3 : hcell K ⟨j, 3, none⟩ = some (.int .i64 (J.part : Nat)) := by rw [hcell_at q (by simp)]; rfl
    have j00 := j0 K (Heap.le_refl _)
    simp -implicitDefEqProofs only [zB1,zB2,zB3,zB4,zB5,zB6,zB7,zB8,zB9,zB10,zB11,y00,y01,y02,y03,y04,y05,y06,y07,y08,y09,y0a,y0b,y0c,y0d,y0e,y0f,y0g,y0h,y0i,y0j,y0k,y0l,y0m,y0n,y0o,y0p,y0q,y0r,y0s,y0t,y0u,y0v,y0w,y0x,y0y,y0z,y10,y11,y12,y13,y14,y15,y16,y17,y18,y19,y1a,y1b,y1c,y1d,y1e,y1f,y1g,y1h,y1i,y1j,y1k,y1l,y1m,y1n,y1o,y1p,y1q,y1r,retO,retL,retV,z6i,allV,allP,z6j,z6m,z6n,z6t,z6u,z6v,binV,eqV,unV,oOpt,reduceIte,reduceCtorEq,Nat.reduceEqDiff,Nat.reduceAdd,Nat.reduceMul,Nat.reduceLT,Nat.reduceSub,Int.reduceLT,Int.reduceLE,Int.reduceEq,Int.reduceNe,Int.reduceSub,Int.reduceAdd,Int.reduceMul,Int.reduceBEq,Int.reduceBNe,Int.reduceGT,Int.reduceGE,Nat.reduceGT,Int.reduceToNat,Int.reduceNeg,Nat.reduceLeDiff,Nat.reduceBEq,Nat.reduceBneDiff,Value.cells, hi1, hi2, Int.toNat_natCast, c1]
    unfold ir_journal_Journal_Add_34
    simp -implicitDefEqProofs only [zB1,zB2,zB3,zB4,zB5,zB6,zB7,zB8,zB9,zB10,zB11,y00,y01,y02,y03,y04,y05,y06,y07,y08,y09,y0a,y0b,y0c,y0d,y0e,y0f,y0g,y0h,y0i,y0j,y0k,y0l,y0m,y0n,y0o,y0p,y0q,y0r,y0s,y0t,y0u,y0v,y0w,y0x,y0y,y0z,y10,y11,y12,y13,y14,y15,y16,y17,y18,y19,y1a,y1b,y1c,y1d,y1e,y1f,y1g,y1h,y1i,y1j,y1k,y1l,y1m,y1n,y1o,y1p,y1q,y1r,retO,retL,retV,z6i,allV,allP,z6j,z6m,z6n,z6t,z6u,z6v,binV,eqV,unV,oOpt,reduceIte,reduceCtorEq,Nat.reduceEqDiff,Nat.reduceAdd,Nat.reduceMul,Nat.reduceLT,Nat.reduceSub,Int.reduceLT,Int.reduceLE,Int.reduceEq,Int.reduceNe,Int.reduceSub,Int.reduceAdd,Int.reduceMul,Int.reduceBEq,Int.reduceBNe,Int.reduceGT,Int.reduceGE,Nat.reduceGT,Int.reduceToNat,Int.reduceNeg,Nat.reduceLeDiff,Nat.reduceBEq,Nat.reduceBneDiff,Value.cells, j2, j3]
    refine (journal_name_c E K J.turn J.part ht hp).mono ?_
    rintro v K1 ⟨le1, rfl⟩
    have j01 := j0 K1 le1
    simp -implicitDefEqProofs only [zB1,zB2,zB3,zB4,zB5,zB6,zB7,zB8,zB9,zB10,zB11,y00,y01,y02,y03,y04,y05,y06,y07,y08,y09,y0a,y0b,y0c,y0d,y0e,y0f,y0g,y0h,y0i,y0j,y0k,y0l,y0m,y0n,y0o,y0p,y0q,y0r,y0s,y0t,y0u,y0v,y0w,y0x,y0y,y0z,y10,y11,y12,y13,y14,y15,y16,y17,y18,y19,y1a,y1b,y1c,y1d,y1e,y1f,y1g,y1h,y1i,y1j,y1k,y1l,y1m,y1n,y1o,y1p,y1q,y1r,retO,retL,retV,z6i,allV,allP,z6j,z6m,z6n,z6t,z6u,z6v,binV,eqV,unV,oOpt,reduceIte,reduceCtorEq,Nat.reduceEqDiff,Nat.reduceAdd,Nat.reduceMul,Nat.reduceLT,Nat.reduceSub,Int.reduceLT,Int.reduceLE,Int.reduceEq,Int.reduceNe,Int.reduceSub,Int.reduceAdd,Int.reduceMul,Int.reduceBEq,Int.reduceBNe,Int.reduceGT,Int.reduceGE,Nat.reduceGT,Int.reduceToNat,Int.reduceNeg,Nat.reduceLeDiff,Nat.reduceBEq,Nat.reduceBneDiff,Value.cells, implies_true]
    refine (journal_frame_c E K1 L[i] (by omega) (si.le (Heap.le_trans sLK (Heap.le_trans (Heap.bare_le _ _) le1)))).mono ?_
    rintro vf K2 ⟨le2, of2⟩
    have le02 := Heap.le_trans le1 le2
    have j02 := j0 K2 le02
    simp -implicitDefEqProofs only [zB1,zB2,zB3,zB4,zB5,zB6,zB7,zB8,zB9,zB10,zB11,y00,y01,y02,y03,y04,y05,y06,y07,y08,y09,y0a,y0b,y0c,y0d,y0e,y0f,y0g,y0h,y0i,y0j,y0k,y0l,y0m,y0n,y0o,y0p,y0q,y0r,y0s,y0t,y0u,y0v,y0w,y0x,y0y,y0z,y10,y11,y12,y13,y14,y15,y16,y17,y18,y19,y1a,y1b,y1c,y1d,y1e,y1f,y1g,y1h,y1i,y1j,y1k,y1l,y1m,y1n,y1o,y1p,y1q,y1r,retO,retL,retV,z6i,allV,allP,z6j,z6m,z6n,z6t,z6u,z6v,binV,eqV,unV,oOpt,reduceIte,reduceCtorEq,Nat.reduceEqDiff,Nat.reduceAdd,Nat.reduceMul,Nat.reduceLT,Nat.reduceSub,Int.reduceLT,Int.reduceLE,Int.reduceEq,Int.reduceNe,Int.reduceSub,Int.reduceAdd,Int.reduceMul,Int.reduceBEq,Int.reduceBNe,Int.reduceGT,Int.reduceGE,Nat.reduceGT,Int.reduceToNat,Int.reduceNeg,Nat.reduceLeDiff,Nat.reduceBEq,Nat.reduceBneDiff,Value.cells, j00, j01, j02, implies_true, List.mem_cons, List.not_mem_nil, List.mem_singleton, or_false, forall_eq, forall_eq_or_imp, and_self]
    have nl : (nameF J.turn J.part).length ≤ 20 := by have := name_good ht hp; unfold goodName at this; simp at this; omega
    refine (disk_Append_c E (RDK.le le02) (okK.ok (by omega)) (nameF J.turn J.part) (by omega) (frameF L[i]) (by rw [frameF_len]; omega) of2.sl).mono ?_
    rintro v K3 ⟨rfl, κ3, e3, R3⟩
    have eK3 := eK.trans ((Ext.le le02).trans (ext_dj e3))
    have RV3 := (RV.ext (Ext.le (cs := fun _ => False) le02) (fun _ _ q => q)).ext e3 fun c h q => ne (by unfold diskC at q; rw [← q, h])
    have ok3 : (appendF Di (nameF J.turn J.part) (frameF L[i])).1.okW (n + i + 1) := append_ok okK RDK.nd nl
    have eD : L.drop i = L[i] :: L.drop (i + 1) := by rw [List.drop_eq_getElem_cons hlt]
    rw [eD, addL] at eA
    generalize appendF Di (nameF J.turn J.part) (frameF L[i]) = X at eA R3 ok3 ⊢
    obtain ⟨D3, er⟩ := X
    by_cases ez : er = 0
    · subst ez
      simp only [if_true] at eA
      have st : storeV K3 1 (.pointer (some ⟨j, 4, none⟩)) (.bool true) = some (K3.set j (.own 0 [ptrV d, .int .i64 J.lives, .int .u64 (J.turn : Nat), .int .i64 (J.part : Nat), .bool true, vb, vr, .bool J.full] 8)) := storeV_one_at RV3.2.1 rfl (by simp) (by simp)
      simp -implicitDefEqProofs only [zB1,zB2,zB3,zB4,zB5,zB6,zB7,zB8,zB9,zB10,zB11,y00,y01,y02,y03,y04,y05,y06,y07,y08,y09,y0a,y0b,y0c,y0d,y0e,y0f,y0g,y0h,y0i,y0j,y0k,y0l,y0m,y0n,y0o,y0p,y0q,y0r,y0s,y0t,y0u,y0v,y0w,y0x,y0y,y0z,y10,y11,y12,y13,y14,y15,y16,y17,y18,y19,y1a,y1b,y1c,y1d,y1e,y1f,y1g,y1h,y1i,y1j,y1k,y1l,y1m,y1n,y1o,y1p,y1q,y1r,retO,retL,retV,z6i,allV,allP,z6j,z6m,z6n,z6t,z6u,z6v,binV,eqV,unV,oOpt,reduceIte,reduceCtorEq,Nat.reduceEqDiff,Nat.reduceAdd,Nat.reduceMul,Nat.reduceLT,Nat.reduceSub,Int.reduceLT,Int.reduceLE,Int.reduceEq,Int.reduceNe,Int.reduceSub,Int.reduceAdd,Int.reduceMul,Int.reduceBEq,Int.reduceBNe,Int.reduceGT,Int.reduceGE,Nat.reduceGT,Int.reduceToNat,Int.reduceNeg,Nat.reduceLeDiff,Nat.reduceBEq,Nat.reduceBneDiff,Value.cells, st, w1]
      have e4 := RV3.put_ext (.own 0 [ptrV d, .int .i64 J.lives, .int .u64 (J.turn : Nat), .int .i64 (J.part : Nat), .bool true, vb, vr, .bool J.full] 8)
      refine ⟨_, ?_, i + 1, κ3, D3, true, rfl, by omega, rfl, eK3.trans (ext_jd e4), ⟨vb, vr, rs, RV3.put J.turn J.part true J.full⟩, R3.off e4 ne.symm, by rw [← Nat.add_assoc]; exact ok3, eA⟩
      omega
    · have ez' : ¬ ((er : Nat) : Int) = 0 := by omega
      simp only [ez, if_false] at eA
      simp -implicitDefEqProofs only [zB1,zB2,zB3,zB4,zB5,zB6,zB7,zB8,zB9,zB10,zB11,y00,y01,y02,y03,y04,y05,y06,y07,y08,y09,y0a,y0b,y0c,y0d,y0e,y0f,y0g,y0h,y0i,y0j,y0k,y0l,y0m,y0n,y0o,y0p,y0q,y0r,y0s,y0t,y0u,y0v,y0w,y0x,y0y,y0z,y10,y11,y12,y13,y14,y15,y16,y17,y18,y19,y1a,y1b,y1c,y1d,y1e,y1f,y1g,y1h,y1i,y1j,y1k,y1l,y1m,y1n,y1o,y1p,y1q,y1r,retO,retL,retV,z6i,allV,allP,z6j,z6m,z6n,z6t,z6u,z6v,binV,eqV,unV,oOpt,reduceIte,reduceCtorEq,Nat.reduceEqDiff,Nat.reduceAdd,Nat.reduceMul,Nat.reduceLT,Nat.reduceSub,Int.reduceLT,Int.reduceLE,Int.reduceEq,Int.reduceNe,Int.reduceSub,Int.reduceAdd,Int.reduceMul,Int.reduceBEq,Int.reduceBNe,Int.reduceGT,Int.reduceGE,Nat.reduceGT,Int.reduceToNat,Int.reduceNeg,Nat.reduceLeDiff,Nat.reduceBEq,Nat.reduceBneDiff,Value.cells, ez']
      refine (journal_failed_c E ⟨vb, vr, rs, RV3⟩ er).mono ?_
      rintro v K4 ⟨rfl, e4, R4⟩
      rw [eA]
      simp only [ez, if_false]
      simp -implicitDefEqProofs only [zB1,zB2,zB3,zB4,zB5,zB6,zB7,zB8,zB9,zB10,zB11,y00,y01,y02,y03,y04,y05,y06,y07,y08,y09,y0a,y0b,y0c,y0d,y0e,y0f,y0g,y0h,y0i,y0j,y0k,y0l,y0m,y0n,y0o,y0p,y0q,y0r,y0s,y0t,y0u,y0v,y0w,y0x,y0y,y0z,y10,y11,y12,y13,y14,y15,y16,y17,y18,y19,y1a,y1b,y1c,y1d,y1e,y1f,y1g,y1h,y1i,y1j,y1k,y1l,y1m,y1n,y1o,y1p,y1q,y1r,retO,retL,retV,z6i,allV,allP,z6j,z6m,z6n,z6t,z6u,z6v,binV,eqV,unV,oOpt,reduceIte,reduceCtorEq,Nat.reduceEqDiff,Nat.reduceAdd,Nat.reduceMul,Nat.reduceLT,Nat.reduceSub,Int.reduceLT,Int.reduceLE,Int.reduceEq,Int.reduceNe,Int.reduceSub,Int.reduceAdd,Int.reduceMul,Int.reduceBEq,Int.reduceBNe,Int.reduceGT,Int.reduceGE,Nat.reduceGT,Int.reduceToNat,Int.reduceNeg,Nat.reduceLeDiff,Nat.reduceBEq,Nat.reduceBneDiff,Value.cells]
      exact ⟨κ3, eK3.trans (ext_jd e4), R4, R3.off e4 ne.symm⟩
  have hi1 : ¬ (i : Int) < L.length := by omega
  have e0 : i = L.length := by omega
  subst e0
  rw [List.drop_length, addL] at eA
  rw [eA]
  simp -implicitDefEqProofs only [zB1,zB2,zB3,zB4,zB5,zB6,zB7,zB8,zB9,zB10,zB11,y00,y01,y02,y03,y04,y05,y06,y07,y08,y09,y0a,y0b,y0c,y0d,y0e,y0f,y0g,y0h,y0i,y0j,y0k,y0l,y0m,y0n,y0o,y0p,y0q,y0r,y0s,y0t,y0u,y0v,y0w,y0x,y0y,y0z,y10,y11,y12,y13,y14,y15,y16,y17,y18,y19,y1a,y1b,y1c,y1d,y1e,y1f,y1g,y1h,y1i,y1j,y1k,y1l,y1m,y1n,y1o,y1p,y1q,y1r,retO,retL,retV,z6i,allV,allP,z6j,z6m,z6n,z6t,z6u,z6v,binV,eqV,unV,oOpt,reduceIte,reduceCtorEq,Nat.reduceEqDiff,Nat.reduceAdd,Nat.reduceMul,Nat.reduceLT,Nat.reduceSub,Int.reduceLT,Int.reduceLE,Int.reduceEq,Int.reduceNe,Int.reduceSub,Int.reduceAdd,Int.reduceMul,Int.reduceBEq,Int.reduceBNe,Int.reduceGT,Int.reduceGE,Nat.reduceGT,Int.reduceToNat,Int.reduceNeg,Nat.reduceLeDiff,Nat.reduceBEq,Nat.reduceBneDiff,Value.cells, hi1]
  unfold ir_journal_Journal_Add_55
  simp -implicitDefEqProofs only [zB1,zB2,zB3,zB4,zB5,zB6,zB7,zB8,zB9,zB10,zB11,y00,y01,y02,y03,y04,y05,y06,y07,y08,y09,y0a,y0b,y0c,y0d,y0e,y0f,y0g,y0h,y0i,y0j,y0k,y0l,y0m,y0n,y0o,y0p,y0q,y0r,y0s,y0t,y0u,y0v,y0w,y0x,y0y,y0z,y10,y11,y12,y13,y14,y15,y16,y17,y18,y19,y1a,y1b,y1c,y1d,y1e,y1f,y1g,y1h,y1i,y1j,y1k,y1l,y1m,y1n,y1o,y1p,y1q,y1r,retO,retL,retV,z6i,allV,allP,z6j,z6m,z6n,z6t,z6u,z6v,binV,eqV,unV,oOpt,reduceIte,reduceCtorEq,Nat.reduceEqDiff,Nat.reduceAdd,Nat.reduceMul,Nat.reduceLT,Nat.reduceSub,Int.reduceLT,Int.reduceLE,Int.reduceEq,Int.reduceNe,Int.reduceSub,Int.reduceAdd,Int.reduceMul,Int.reduceBEq,Int.reduceBNe,Int.reduceGT,Int.reduceGE,Nat.reduceGT,Int.reduceToNat,Int.reduceNeg,Nat.reduceLeDiff,Nat.reduceBEq,Nat.reduceBneDiff,Value.cells]
  refine wp_loop' (fun m t M => ∃ (i : Nat) (κ2 : Pal), t = tl [(0, ptrV j), (55, .slice Lb L.length Lc), (56, .int .i64 L.length), (57, .int .i64 i)] ∧ i ≤ L.length ∧ m = L.length - i ∧
      Ext (jouC j) κ' K κ2 M ∧ JouR κ2 M j d { J with written := wi, recs := J.recs ++ L.take i }) L.length
    ⟨0, κ', rfl, by omega, by omega, Ext.refl _ _ _, by simpa using RK⟩ ?_
  rintro m t M ⟨i, κ2, rfl, hi, rfl, eM, RM⟩
  by_cases hlt : i < L.length
  · have hi1 : (i : Int) < L.length := by omega
    have hi2 : (0 : Int) ≤ i := by omega
    have w1 : IntKind.i64.wrap ((i : Int) + 1) = ((i + 1 : Nat) : Int) := wrapN (by omega)
    obtain ⟨b, o, bi, ci, rfl, si, ciH⟩ := sL.at' i hlt
    have lM := Heap.le_trans sLK (Heap.le_trans eM.bare (Heap.bare_le _ _))
    have c1 := ciH M lM
    have hli := hlen _ (List.getElem_mem hlt)
    obtain ⟨vb, vr, rs, RV⟩ := RM
    have q := RV.2.1
    simp -implicitDefEqProofs only [zB1,zB2,zB3,zB4,zB5,zB6,zB7,zB8,zB9,zB10,zB11,y00,y01,y02,y03,y04,y05,y06,y07,y08,y09,y0a,y0b,y0c,y0d,y0e,y0f,y0g,y0h,y0i,y0j,y0k,y0l,y0m,y0n,y0o,y0p,y0q,y0r,y0s,y0t,y0u,y0v,y0w,y0x,y0y,y0z,y10,y11,y12,y13,y14,y15,y16,y17,y18,y19,y1a,y1b,y1c,y1d,y1e,y1f,y1g,y1h,y1i,y1j,y1k,y1l,y1m,y1n,y1o,y1p,y1q,y1r,retO,retL,retV,z6i,allV,allP,z6j,z6m,z6n,z6t,z6u,z6v,binV,eqV,unV,oOpt,reduceIte,reduceCtorEq,Nat.reduceEqDiff,Nat.reduceAdd,Nat.reduceMul,Nat.reduceLT,Nat.reduceSub,Int.reduceLT,Int.reduceLE,Int.reduceEq,Int.reduceNe,Int.reduceSub,Int.reduceAdd,Int.reduceMul,Int.reduceBEq,Int.reduceBNe,Int.reduceGT,Int.reduceGE,Nat.reduceGT,Int.reduceToNat,Int.reduceNeg,Nat.reduceLeDiff,Nat.reduceBEq,Nat.reduceBneDiff,Value.cells, hi1, hi2, Int.toNat_natCast, c1]
    refine (bytes_Clone_c E M L[i] (by omega) (si.le lM)).mono ?_
    rintro wv M1 ⟨le1, o1⟩
    have e1 : Ext (fun _ => False) κ2 M (κ2.grow M (j, j, 10)) M1 := Ext.tint le1
    have RV1 := RV.ext e1 (fun _ _ q => q)
    have ow1 : OwK (κ2.grow M (j, j, 10)) (j, j, 10) M1 1 wv L[i].length (L[i].map u8V) := OwK.tinted o1
    obtain ⟨wb, wc, rfl⟩ := Sl.shape o1.sl
    have j60 : hcell M ⟨j, 6, none⟩ = some vr := by rw [hcell_at q (by simp)]; rfl
    have j61 : hcell M1 ⟨j, 6, none⟩ = some vr := by rw [hcell_at (le1 _ _ q) (by simp)]; rfl
    simp -implicitDefEqProofs only [zB1,zB2,zB3,zB4,zB5,zB6,zB7,zB8,zB9,zB10,zB11,y00,y01,y02,y03,y04,y05,y06,y07,y08,y09,y0a,y0b,y0c,y0d,y0e,y0f,y0g,y0h,y0i,y0j,y0k,y0l,y0m,y0n,y0o,y0p,y0q,y0r,y0s,y0t,y0u,y0v,y0w,y0x,y0y,y0z,y10,y11,y12,y13,y14,y15,y16,y17,y18,y19,y1a,y1b,y1c,y1d,y1e,y1f,y1g,y1h,y1i,y1j,y1k,y1l,y1m,y1n,y1o,y1p,y1q,y1r,retO,retL,retV,z6i,allV,allP,z6j,z6m,z6n,z6t,z6u,z6v,binV,eqV,unV,oOpt,reduceIte,reduceCtorEq,Nat.reduceEqDiff,Nat.reduceAdd,Nat.reduceMul,Nat.reduceLT,Nat.reduceSub,Int.reduceLT,Int.reduceLE,Int.reduceEq,Int.reduceNe,Int.reduceSub,Int.reduceAdd,Int.reduceMul,Int.reduceBEq,Int.reduceBNe,Int.reduceGT,Int.reduceGE,Nat.reduceGT,Int.reduceToNat,Int.reduceNeg,Nat.reduceLeDiff,Nat.reduceBEq,Nat.reduceBneDiff,Value.cells, j60, j61, implies_true, List.mem_cons, List.not_mem_nil, List.mem_singleton, or_false, forall_eq, forall_eq_or_imp, and_self, List.length_replicate, List.drop_replicate, List.replicate_zero]
    intro b68 hb68
    try simp -implicitDefEqProofs only [zB1,zB2,zB3,zB4,zB5,zB6,zB7,zB8,zB9,zB10,zB11,y00,y01,y02,y03,y04,y05,y06,y07,y08,y09,y0a,y0b,y0c,y0d,y0e,y0f,y0g,y0h,y0i,y0j,y0k,y0l,y0m,y0n,y0o,y0p,y0q,y0r,y0s,y0t,y0u,y0v,y0w,y0x,y0y,y0z,y10,y11,y12,y13,y14,y15,y16,y17,y18,y19,y1a,y1b,y1c,y1d,y1e,y1f,y1g,y1h,y1i,y1j,y1k,y1l,y1m,y1n,y1o,y1p,y1q,y1r,retO,retL,retV,z6i,allV,allP,z6j,z6m,z6n,z6t,z6u,z6v,binV,eqV,unV,oOpt,reduceIte,reduceCtorEq,Nat.reduceEqDiff,Nat.reduceAdd,Nat.reduceMul,Nat.reduceLT,Nat.reduceSub,Int.reduceLT,Int.reduceLE,Int.reduceEq,Int.reduceNe,Int.reduceSub,Int.reduceAdd,Int.reduceMul,Int.reduceBEq,Int.reduceBNe,Int.reduceGT,Int.reduceGE,Nat.reduceGT,Int.reduceToNat,Int.reduceNeg,Nat.reduceLeDiff,Nat.reduceBEq,Nat.reduceBneDiff,Value.cells]
    have le2 := Heap.le_set (Heap.le_refl M1) hb68 (.own 0 [.slice wb L[i].length wc] 1)
    have sx : Sl (M1.set b68 (.own 0 [.slice wb L[i].length wc] 1)) 1 (.slice (some ⟨b68, 0, none⟩) 1 1) 1 [.slice wb L[i].length wc] := Sl.lit rfl
    refine jou_write (RV1.ext (Ext.le (cs := fun _ => False) le2) (fun _ _ q => q)) sx (OwK.le le2 ow1) (by simp only [List.length_append, List.length_take]; omega) ?_
    rintro v M3 st ⟨vb3, vc3, rfl⟩ ⟨κ3, e3, R3⟩
    simp -implicitDefEqProofs only [zB1,zB2,zB3,zB4,zB5,zB6,zB7,zB8,zB9,zB10,zB11,y00,y01,y02,y03,y04,y05,y06,y07,y08,y09,y0a,y0b,y0c,y0d,y0e,y0f,y0g,y0h,y0i,y0j,y0k,y0l,y0m,y0n,y0o,y0p,y0q,y0r,y0s,y0t,y0u,y0v,y0w,y0x,y0y,y0z,y10,y11,y12,y13,y14,y15,y16,y17,y18,y19,y1a,y1b,y1c,y1d,y1e,y1f,y1g,y1h,y1i,y1j,y1k,y1l,y1m,y1n,y1o,y1p,y1q,y1r,retO,retL,retV,z6i,allV,allP,z6j,z6m,z6n,z6t,z6u,z6v,binV,eqV,unV,oOpt,reduceIte,reduceCtorEq,Nat.reduceEqDiff,Nat.reduceAdd,Nat.reduceMul,Nat.reduceLT,Nat.reduceSub,Int.reduceLT,Int.reduceLE,Int.reduceEq,Int.reduceNe,Int.reduceSub,Int.reduceAdd,Int.reduceMul,Int.reduceBEq,Int.reduceBNe,Int.reduceGT,Int.reduceGE,Nat.reduceGT,Int.reduceToNat,Int.reduceNeg,Nat.reduceLeDiff,Nat.reduceBEq,Nat.reduceBneDiff,Value.cells, st, w1, implies_true]
    refine ⟨_, ?_, i + 1, κ3, rfl, by omega, rfl, ((eM.trans (e1.mono fun c h => h.elim)).trans (Ext.le le2)).trans e3, ?_⟩
    · omega
    · have et : J.recs ++ L.take (i + 1) = J.recs ++ L.take i ++ [L[i]] := by rw [List.take_succ_eq_append_getElem hlt, List.append_assoc]
      rw [et]; exact R3
  · have hi1 : ¬ (i : Int) < L.length := by omega
    have e0 : i = L.length := by omega
    subst e0
    rw [List.take_length] at RM
    simp -implicitDefEqProofs only [zB1,zB2,zB3,zB4,zB5,zB6,zB7,zB8,zB9,zB10,zB11,y00,y01,y02,y03,y04,y05,y06,y07,y08,y09,y0a,y0b,y0c,y0d,y0e,y0f,y0g,y0h,y0i,y0j,y0k,y0l,y0m,y0n,y0o,y0p,y0q,y0r,y0s,y0t,y0u,y0v,y0w,y0x,y0y,y0z,y10,y11,y12,y13,y14,y15,y16,y17,y18,y19,y1a,y1b,y1c,y1d,y1e,y1f,y1g,y1h,y1i,y1j,y1k,y1l,y1m,y1n,y1o,y1p,y1q,y1r,retO,retL,retV,z6i,allV,allP,z6j,z6m,z6n,z6t,z6u,z6v,binV,eqV,unV,oOpt,reduceIte,reduceCtorEq,Nat.reduceEqDiff,Nat.reduceAdd,Nat.reduceMul,Nat.reduceLT,Nat.reduceSub,Int.reduceLT,Int.reduceLE,Int.reduceEq,Int.reduceNe,Int.reduceSub,Int.reduceAdd,Int.reduceMul,Int.reduceBEq,Int.reduceBNe,Int.reduceGT,Int.reduceGE,Nat.reduceGT,Int.reduceToNat,Int.reduceNeg,Nat.reduceLeDiff,Nat.reduceBEq,Nat.reduceBneDiff,Value.cells, hi1]
    exact ⟨κ2, eK.trans (ext_jd eM), RM, RDK.off eM ne.symm⟩
end Go.Bb
/- Contracts: a journal's base read; old files let go. -/
namespace Go.Bb
set_option linter.unusedSimpArgs false
set_option linter.unusedVariables false
set_option maxRecDepth 20000
set_option maxHeartbeats 2000000

theorem name_len {t p : Nat} : (nameF t p).length ≤ 20 := by
  have h1 := b36_len t
  have h2 := b36_len p
  unfold nameF
  simp only [List.length_append, List.length_singleton]
  omega
def tidyF (T : Nat) : Nat → DiskF → Nat → DiskF
  | 0, D, _ => D
  | f + 1, D, p => if (dropF D (nameF T p)).2 = 0 then tidyF T f (dropF D (nameF T p)).1 (p + 1) else D
theorem look_del {L : Files} {s t : List UInt8} (h : lookF L t = none) : lookF (delFile L s) t = none := by
  unfold lookF delFile at *
  rw [Option.map_eq_none_iff, List.find?_eq_none] at *
  intro x hx
  exact h x (List.mem_filter.1 hx).1
theorem drop_look {D : DiskF} {s t : List UInt8} (h : lookF D.files t = none) : lookF (dropF D s).1.files t = none := by
  unfold dropF
  split
  · split
    · exact h
    · exact look_del h
  · exact h
theorem drop_fails {D : DiskF} {t : List UInt8} (h : lookF D.files t = none) : (dropF D t).2 ≠ 0 := by
  unfold dropF
  split
  · rw [h]; simp
  · rename_i e; exact e
theorem drop_same {D : DiskF} {t : List UInt8} (h : (dropF D t).2 ≠ 0) : (dropF D t).1 = D := by
  unfold dropF at *
  split
  · rename_i e
    rw [if_pos e] at h
    split
    · rfl
    · rename_i x; rw [x] at h; simp at h
  · rfl
theorem drop_ok {D : DiskF} {n : Nat} (h : D.okW n) (s : List UInt8) : (dropF D s).1.okW n := by
  unfold dropF
  split
  · split
    · exact h
    · refine ⟨fun x hx => h.1 x (List.mem_filter.1 hx).1, ?_, h.2.2⟩
      have : sizeF (delFile D.files s) ≤ sizeF D.files := by
        have : ∀ L : Files, sizeF (delFile L s) ≤ sizeF L := by
          intro L
          induction L with
          | nil => exact Nat.le_refl _
          | cons x L ih =>
            unfold delFile at ih ⊢
            rw [List.filter_cons]
            split
            · simp only [sizeF, List.map_cons, List.sum_cons] at ih ⊢; omega
            · simp only [sizeF, List.map_cons, List.sum_cons] at ih ⊢; omega
        exact this _
      have := h.2.1
      show ((sizeF (delFile D.files s) : Nat) : Int) ≤ D.room
      omega
  · exact h
theorem journal_tidy_c (E : EnvT tab) {κ : Pal} {H : Heap} {j d : Nat} {J : JF} {D : DiskF} (R : JouR κ H j d J) (RD : DiskR κ H d D) (ne : d ≠ j) (T : Nat) (ht : T < 64) {P : Nat} (hP : P < 63) (hl : lookF D.files (nameF T P) = none) :
    ACallN E.toEnv n_journal_Journal_tidy [ptrV j, .int .u64 T] H fun r H' => ∃ κ', Ext (diskC d) κ H κ' H' ∧ JouR κ' H' j d J ∧ DiskR κ' H' d (tidyF T 64 D 0) := by
  refine acall h_journal_Journal_tidy ir_journal_Journal_tidy rfl rfl (wpA_sound ?_)
  unfold ir_journal_Journal_tidy
  generalize hTF : tidyF T 64 D 0 = TF
  simp -implicitDefEqProofs only [zB1,zB2,zB3,zB4,zB5,zB6,zB7,zB8,zB9,zB10,zB11,y00,y01,y02,y03,y04,y05,y06,y07,y08,y09,y0a,y0b,y0c,y0d,y0e,y0f,y0g,y0h,y0i,y0j,y0k,y0l,y0m,y0n,y0o,y0p,y0q,y0r,y0s,y0t,y0u,y0v,y0w,y0x,y0y,y0z,y10,y11,y12,y13,y14,y15,y16,y17,y18,y19,y1a,y1b,y1c,y1d,y1e,y1f,y1g,y1h,y1i,y1j,y1k,y1l,y1m,y1n,y1o,y1p,y1q,y1r,retO,retL,retV,z6i,allV,allP,z6j,z6m,z6n,z6t,z6u,z6v,binV,eqV,unV,oOpt,reduceIte,reduceCtorEq,Nat.reduceEqDiff,Nat.reduceAdd,Nat.reduceMul,Nat.reduceLT,Nat.reduceSub,Int.reduceLT,Int.reduceLE,Int.reduceEq,Int.reduceNe,Int.reduceSub,Int.reduceAdd,Int.reduceMul,Int.reduceBEq,Int.reduceBNe,Int.reduceGT,Int.reduceGE,Nat.reduceGT,Int.reduceToNat,Int.reduceNeg,Nat.reduceLeDiff,Nat.reduceBEq,Nat.reduceBneDiff,Value.cells]
  refine wp_loop' (fun m t G => ∃ (p : Nat) (κ' : Pal) (Dp : DiskF), t = tl [(0, ptrV j), (1, .int .u64 T), (4, .int .i64 p)] ∧ p ≤ P ∧ m = P - p ∧ Ext (diskC d) κ H κ' G ∧ JouR κ' G j d J ∧ DiskR κ' G d Dp ∧ lookF Dp.files (nameF T P) = none ∧ TF = tidyF T (64 - p) Dp p) P
    ⟨0, κ, D, rfl, by omega, by omega, Ext.refl _ _ _, R, RD, hl, hTF.symm⟩ ?_
  rintro m t G ⟨p, κ', Dp, rfl, hp, rfl, eG, RG, RDG, hlp, eT⟩
  have w1 : IntKind.i64.wrap ((p : Int) + 1) = ((p + 1 : Nat) : Int) := wrapN (by omega)
  obtain ⟨vb, vr, rs, RV⟩ := RG
  have q := RV.2.1
  have j0 : ∀ M, G.le M → hcell M ⟨j, 0, none⟩ = some (ptrV d) := fun M x => by rw [hcell_at (x _ _ q) (by simp)]; rfl
  have j00 := j0 G (Heap.le_refl _)
  simp -implicitDefEqProofs only [zB1,zB2,zB3,zB4,zB5,zB6,zB7,zB8,zB9,zB10,zB11,y00,y01,y02,y03,y04,y05,y06,y07,y08,y09,y0a,y0b,y0c,y0d,y0e,y0f,y0g,y0h,y0i,y0j,y0k,y0l,y0m,y0n,y0o,y0p,y0q,y0r,y0s,y0t,y0u,y0v,y0w,y0x,y0y,y0z,y10,y11,y12,y13,y14,y15,y16,y17,y18,y19,y1a,y1b,y1c,y1d,y1e,y1f,y1g,y1h,y1i,y1j,y1k,y1l,y1m,y1n,y1o,y1p,y1q,y1r,retO,retL,retV,z6i,allV,allP,z6j,z6m,z6n,z6t,z6u,z6v,binV,eqV,unV,oOpt,reduceIte,reduceCtorEq,Nat.reduceEqDiff,Nat.reduceAdd,Nat.reduceMul,Nat.reduceLT,Nat.reduceSub,Int.reduceLT,Int.reduceLE,Int.reduceEq,Int.reduceNe,Int.reduceSub,Int.reduceAdd,Int.reduceMul,Int.reduceBEq,Int.reduceBNe,Int.reduceGT,Int.reduceGE,Nat.reduceGT,Int.reduceToNat,Int.reduceNeg,Nat.reduceLeDiff,Nat.reduceBEq,Nat.reduceBneDiff,Value.cells]
  refine (journal_name_c E G T p ht (by omega)).mono ?_
  rintro v G1 ⟨le1, rfl⟩
  have j01 := j0 G1 le1
  simp -implicitDefEqProofs only [zB1,zB2,zB3,zB4,zB5,zB6,zB7,zB8,zB9,zB10,zB11,y00,y01,y02,y03,y04,y05,y06,y07,y08,y09,y0a,y0b,y0c,y0d,y0e,y0f,y0g,y0h,y0i,y0j,y0k,y0l,y0m,y0n,y0o,y0p,y0q,y0r,y0s,y0t,y0u,y0v,y0w,y0x,y0y,y0z,y10,y11,y12,y13,y14,y15,y16,y17,y18,y19,y1a,y1b,y1c,y1d,y1e,y1f,y1g,y1h,y1i,y1j,y1k,y1l,y1m,y1n,y1o,y1p,y1q,y1r,retO,retL,retV,z6i,allV,allP,z6j,z6m,z6n,z6t,z6u,z6v,binV,eqV,unV,oOpt,reduceIte,reduceCtorEq,Nat.reduceEqDiff,Nat.reduceAdd,Nat.reduceMul,Nat.reduceLT,Nat.reduceSub,Int.reduceLT,Int.reduceLE,Int.reduceEq,Int.reduceNe,Int.reduceSub,Int.reduceAdd,Int.reduceMul,Int.reduceBEq,Int.reduceBNe,Int.reduceGT,Int.reduceGE,Nat.reduceGT,Int.reduceToNat,Int.reduceNeg,Nat.reduceLeDiff,Nat.reduceBEq,Nat.reduceBneDiff,Value.cells, j00, j01, implies_true, List.mem_cons, List.not_mem_nil, List.mem_singleton, or_false, forall_eq, forall_eq_or_imp, and_self]
  refine (disk_Drop_c E (RDG.le le1) (nameF T p) (by have := @name_len T p; omega)).mono ?_
  rintro v G2 ⟨rfl, κ2, e2, R2⟩
  have RV2 := (RV.ext (Ext.le (cs := fun _ => False) le1) (fun _ _ q => q)).ext e2 fun c h q => ne (by unfold diskC at q; rw [← q, h])
  have e02 := eG.trans ((Ext.le le1).trans e2)
  obtain ⟨f, hf⟩ : ∃ f, 64 - p = f + 1 := ⟨63 - p, by omega⟩
  rw [hf, tidyF] at eT
  by_cases z : (dropF Dp (nameF T p)).2 = 0
  · rw [if_pos z] at eT
    have hpP : p < P := by
      by_cases h : p = P
      · subst h; exact absurd z (drop_fails hlp)
      · omega
    have z' : (((dropF Dp (nameF T p)).2 : Nat) : Int) = 0 := by omega
    simp -implicitDefEqProofs only [zB1,zB2,zB3,zB4,zB5,zB6,zB7,zB8,zB9,zB10,zB11,y00,y01,y02,y03,y04,y05,y06,y07,y08,y09,y0a,y0b,y0c,y0d,y0e,y0f,y0g,y0h,y0i,y0j,y0k,y0l,y0m,y0n,y0o,y0p,y0q,y0r,y0s,y0t,y0u,y0v,y0w,y0x,y0y,y0z,y10,y11,y12,y13,y14,y15,y16,y17,y18,y19,y1a,y1b,y1c,y1d,y1e,y1f,y1g,y1h,y1i,y1j,y1k,y1l,y1m,y1n,y1o,y1p,y1q,y1r,retO,retL,retV,z6i,allV,allP,z6j,z6m,z6n,z6t,z6u,z6v,binV,eqV,unV,oOpt,reduceIte,reduceCtorEq,Nat.reduceEqDiff,Nat.reduceAdd,Nat.reduceMul,Nat.reduceLT,Nat.reduceSub,Int.reduceLT,Int.reduceLE,Int.reduceEq,Int.reduceNe,Int.reduceSub,Int.reduceAdd,Int.reduceMul,Int.reduceBEq,Int.reduceBNe,Int.reduceGT,Int.reduceGE,Nat.reduceGT,Int.reduceToNat,Int.reduceNeg,Nat.reduceLeDiff,Nat.reduceBEq,Nat.reduceBneDiff,Value.cells, z', beq_self_eq_true, w1]
    refine ⟨_, ?_, p + 1, κ2, _, rfl, by omega, rfl, e02, ⟨vb, vr, rs, RV2⟩, R2, drop_look hlp, ?_⟩
    · omega
    · rw [eT]; congr 1; omega
  · rw [if_neg z] at eT
    rw [drop_same z] at R2
    have z' : ((((dropF Dp (nameF T p)).2 : Nat) : Int) == 0) = false := by simpa using z
    simp -implicitDefEqProofs only [zB1,zB2,zB3,zB4,zB5,zB6,zB7,zB8,zB9,zB10,zB11,y00,y01,y02,y03,y04,y05,y06,y07,y08,y09,y0a,y0b,y0c,y0d,y0e,y0f,y0g,y0h,y0i,y0j,y0k,y0l,y0m,y0n,y0o,y0p,y0q,y0r,y0s,y0t,y0u,y0v,y0w,y0x,y0y,y0z,y10,y11,y12,y13,y14,y15,y16,y17,y18,y19,y1a,y1b,y1c,y1d,y1e,y1f,y1g,y1h,y1i,y1j,y1k,y1l,y1m,y1n,y1o,y1p,y1q,y1r,retO,retL,retV,z6i,allV,allP,z6j,z6m,z6n,z6t,z6u,z6v,binV,eqV,unV,oOpt,reduceIte,reduceCtorEq,Nat.reduceEqDiff,Nat.reduceAdd,Nat.reduceMul,Nat.reduceLT,Nat.reduceSub,Int.reduceLT,Int.reduceLE,Int.reduceEq,Int.reduceNe,Int.reduceSub,Int.reduceAdd,Int.reduceMul,Int.reduceBEq,Int.reduceBNe,Int.reduceGT,Int.reduceGE,Nat.reduceGT,Int.reduceToNat,Int.reduceNeg,Nat.reduceLeDiff,Nat.reduceBEq,Nat.reduceBneDiff,Value.cells, z']
    rw [eT]
    exact ⟨κ2, e02, ⟨vb, vr, rs, RV2⟩, R2⟩

def baseN : List UInt8 := [98, 97, 115, 101]
def newN : List UInt8 := [110, 101, 119]
def readBaseF (J : JF) (D : DiskF) : JF × Nat :=
  if (readF D baseN).2 = 0 then
    match nextF (readF D baseN).1 with
    | some (x, y) => if y.length = 0 ∧ 8 ≤ x.length then ({ J with turn := (fromBigF (x.take 8)).toNat, base := x.drop 8 }, 0) else (J, 3)
    | none => (J, 3)
  else if (readF D baseN).2 = 4 then (J, 0) else (J, (readF D baseN).2)
/-- The base is another one. -/
theorem JouV.setb {κ : Pal} {H : Heap} {j d : Nat} {J : JF} {vb vr wv : Value} {rs : List Value} {b : List UInt8} (R : JouV κ H j d J vb vr rs) (o : OwK κ (j, j, 8) H 1 wv b.length (b.map u8V)) :
    JouV κ (H.set j (.own 0 [ptrV d, .int .i64 J.lives, .int .u64 (J.turn : Nat), .int .i64 (J.part : Nat), .bool J.written, wv, vr, .bool J.full] 8)) j d { J with base := b } wv vr rs := by
  obtain ⟨k, q, s1, s2, l, s3⟩ := R
  have e := Ext.set (H := H) k (.own 0 [ptrV d, .int .i64 J.lives, .int .u64 (J.turn : Nat), .int .i64 (J.part : Nat), .bool J.written, wv, vr, .bool J.full] 8)
  exact ⟨k, Heap.set_self _ _ _, e.own (by simp) o, e.own (by simp) s2, l, fun i h1 h2 => e.own (by simp) (s3 i h1 h2)⟩
theorem nextF_len {b x y : List UInt8} (h : nextF b = some (x, y)) : 20 + x.length + y.length = b.length ∧ x.length < 4294967296 * 4294967296 := by
  unfold nextF at h
  split at h
  · cases h
  · split at h
    · cases h
    · split at h
      · simp only [Option.some.injEq, Prod.mk.injEq] at h
        obtain ⟨rfl, rfl⟩ := h
        have := (fromBigF (b.take 4)).isLt
        rw [List.length_take, List.length_drop, List.length_drop]
        omega
      · cases h
theorem journal_readBase_c (E : EnvT tab) {κ : Pal} {H : Heap} {j d : Nat} {J : JF} {D : DiskF} (R : JouR κ H j d J) (RD : DiskR κ H d D) (ok : D.ok) :
    ACallN E.toEnv n_journal_Journal_readBase [ptrV j] H fun r H' => r = .int .i64 ((readBaseF J D).2 : Nat) ∧ ∃ κ', Ext (jouC j) κ H κ' H' ∧ JouR κ' H' j d (readBaseF J D).1 := by
  have R0 := R
  obtain ⟨vb, vr, rs, RV⟩ := R
  have q := RV.2.1
  refine acall h_journal_Journal_readBase ir_journal_Journal_readBase rfl rfl (wpA_sound ?_)
  unfold ir_journal_Journal_readBase
  have c0 : hcell H ⟨j, 0, none⟩ = some (ptrV d) := by rw [hcell_at q (by simp)]; rfl
  simp -implicitDefEqProofs only [zB1,zB2,zB3,zB4,zB5,zB6,zB7,zB8,zB9,zB10,zB11,y00,y01,y02,y03,y04,y05,y06,y07,y08,y09,y0a,y0b,y0c,y0d,y0e,y0f,y0g,y0h,y0i,y0j,y0k,y0l,y0m,y0n,y0o,y0p,y0q,y0r,y0s,y0t,y0u,y0v,y0w,y0x,y0y,y0z,y10,y11,y12,y13,y14,y15,y16,y17,y18,y19,y1a,y1b,y1c,y1d,y1e,y1f,y1g,y1h,y1i,y1j,y1k,y1l,y1m,y1n,y1o,y1p,y1q,y1r,retO,retL,retV,z6i,allV,allP,z6j,z6m,z6n,z6t,z6u,z6v,binV,eqV,unV,oOpt,reduceIte,reduceCtorEq,Nat.reduceEqDiff,Nat.reduceAdd,Nat.reduceMul,Nat.reduceLT,Nat.reduceSub,Int.reduceLT,Int.reduceLE,Int.reduceEq,Int.reduceNe,Int.reduceSub,Int.reduceAdd,Int.reduceMul,Int.reduceBEq,Int.reduceBNe,Int.reduceGT,Int.reduceGE,Nat.reduceGT,Int.reduceToNat,Int.reduceNeg,Nat.reduceLeDiff,Nat.reduceBEq,Nat.reduceBneDiff,Value.cells, c0]
  refine (disk_Read_c E RD ok baseN (by simp [baseN])).mono ?_
  rintro v H1 ⟨le1, sb, sc, rfl, o1⟩
  have hlen : (readF D baseN).1.length ≤ 1048576 := by
    unfold readF
    split
    · split
      · simp
      · rename_i F hF
        unfold lookF at hF
        obtain ⟨z, hz, rfl⟩ := Option.map_eq_some_iff.1 hF
        have := size_le (List.mem_of_find?_eq_some hz)
        have := ok.2.1
        unfold FileF.size at *
        show z.2.all.length ≤ _
        omega
    · simp
  unfold readBaseF
  generalize readF D baseN = X at o1 hlen ⊢
  obtain ⟨b, e⟩ := X
  simp only at o1 hlen ⊢
  have ew : Ext (fun _ => False) κ H (κ.wash H) H1 := Ext.wash le1
  have RV1 := RV.ext ew (fun _ _ q => q)
  have s1 : SlB (H1.bare (κ.wash H)) (.slice sb b.length sc) b := o1.bare
  have ej : Ext (jouC j) κ H (κ.wash H) H1 := ew.mono fun c h => h.elim
  generalize κ.wash H = κ1 at RV1 s1 ej
  by_cases e0 : e = 0
  · subst e0
    simp -implicitDefEqProofs only [zB1,zB2,zB3,zB4,zB5,zB6,zB7,zB8,zB9,zB10,zB11,y00,y01,y02,y03,y04,y05,y06,y07,y08,y09,y0a,y0b,y0c,y0d,y0e,y0f,y0g,y0h,y0i,y0j,y0k,y0l,y0m,y0n,y0o,y0p,y0q,y0r,y0s,y0t,y0u,y0v,y0w,y0x,y0y,y0z,y10,y11,y12,y13,y14,y15,y16,y17,y18,y19,y1a,y1b,y1c,y1d,y1e,y1f,y1g,y1h,y1i,y1j,y1k,y1l,y1m,y1n,y1o,y1p,y1q,y1r,retO,retL,retV,z6i,allV,allP,z6j,z6m,z6n,z6t,z6u,z6v,binV,eqV,unV,oOpt,reduceIte,reduceCtorEq,Nat.reduceEqDiff,Nat.reduceAdd,Nat.reduceMul,Nat.reduceLT,Nat.reduceSub,Int.reduceLT,Int.reduceLE,Int.reduceEq,Int.reduceNe,Int.reduceSub,Int.reduceAdd,Int.reduceMul,Int.reduceBEq,Int.reduceBNe,Int.reduceGT,Int.reduceGE,Nat.reduceGT,Int.reduceToNat,Int.reduceNeg,Nat.reduceLeDiff,Nat.reduceBEq,Nat.reduceBneDiff,Value.cells, beq_self_eq_true]
    unfold ir_journal_Journal_readBase_23
    simp -implicitDefEqProofs only [zB1,zB2,zB3,zB4,zB5,zB6,zB7,zB8,zB9,zB10,zB11,y00,y01,y02,y03,y04,y05,y06,y07,y08,y09,y0a,y0b,y0c,y0d,y0e,y0f,y0g,y0h,y0i,y0j,y0k,y0l,y0m,y0n,y0o,y0p,y0q,y0r,y0s,y0t,y0u,y0v,y0w,y0x,y0y,y0z,y10,y11,y12,y13,y14,y15,y16,y17,y18,y19,y1a,y1b,y1c,y1d,y1e,y1f,y1g,y1h,y1i,y1j,y1k,y1l,y1m,y1n,y1o,y1p,y1q,y1r,retO,retL,retV,z6i,allV,allP,z6j,z6m,z6n,z6t,z6u,z6v,binV,eqV,unV,oOpt,reduceIte,reduceCtorEq,Nat.reduceEqDiff,Nat.reduceAdd,Nat.reduceMul,Nat.reduceLT,Nat.reduceSub,Int.reduceLT,Int.reduceLE,Int.reduceEq,Int.reduceNe,Int.reduceSub,Int.reduceAdd,Int.reduceMul,Int.reduceBEq,Int.reduceBNe,Int.reduceGT,Int.reduceGE,Nat.reduceGT,Int.reduceToNat,Int.reduceNeg,Nat.reduceLeDiff,Nat.reduceBEq,Nat.reduceBneDiff,Value.cells]
    refine (journal_next_c E (Heap.bare_le H1 κ1) b (by omega) s1).mono ?_
    rintro v H2 ⟨le2, h⟩
    have ej2 := ej.trans (Ext.le (κ := κ1) le2)
    have RV2 := RV1.ext (Ext.le (cs := fun _ => False) le2) (fun _ _ q => q)
    have lb2 : (H1.bare κ1).le (H2.bare κ1) := (Ext.le (cs := fun _ => False) le2).bare
    rcases h with ⟨hn, rfl⟩ | ⟨x, y, vx, vy, hn, rfl, sx, sy⟩
    · rw [hn]
      simp -implicitDefEqProofs only [zB1,zB2,zB3,zB4,zB5,zB6,zB7,zB8,zB9,zB10,zB11,y00,y01,y02,y03,y04,y05,y06,y07,y08,y09,y0a,y0b,y0c,y0d,y0e,y0f,y0g,y0h,y0i,y0j,y0k,y0l,y0m,y0n,y0o,y0p,y0q,y0r,y0s,y0t,y0u,y0v,y0w,y0x,y0y,y0z,y10,y11,y12,y13,y14,y15,y16,y17,y18,y19,y1a,y1b,y1c,y1d,y1e,y1f,y1g,y1h,y1i,y1j,y1k,y1l,y1m,y1n,y1o,y1p,y1q,y1r,retO,retL,retV,z6i,allV,allP,z6j,z6m,z6n,z6t,z6u,z6v,binV,eqV,unV,oOpt,reduceIte,reduceCtorEq,Nat.reduceEqDiff,Nat.reduceAdd,Nat.reduceMul,Nat.reduceLT,Nat.reduceSub,Int.reduceLT,Int.reduceLE,Int.reduceEq,Int.reduceNe,Int.reduceSub,Int.reduceAdd,Int.reduceMul,Int.reduceBEq,Int.reduceBNe,Int.reduceGT,Int.reduceGE,Nat.reduceGT,Int.reduceToNat,Int.reduceNeg,Nat.reduceLeDiff,Nat.reduceBEq,Nat.reduceBneDiff,Value.cells]
      exact ⟨κ1, ej2, ⟨vb, vr, rs, RV2⟩⟩
    · rw [hn]
      obtain ⟨xb, xc, rfl⟩ := Sl.shape sx
      obtain ⟨yb, yc, rfl⟩ := Sl.shape sy
      have hcap := Sl.cap sx
      obtain ⟨nl, -⟩ := nextF_len hn
      by_cases hy : y.length = 0
      · by_cases hx : 8 ≤ x.length
        · have g1 : ¬ ((0 : Int) < y.length) := by omega
          have g2 : ¬ ((x.length : Int) < 8) := by omega
          have b1 : bnds x.length xc none (some (some (.int .i64 8))) none = some (0, 8, xc) := bnds_hi (by omega) (by omega)
          have b2 : bnds x.length xc (some (some (.int .i64 8))) none none = some (8, x.length, xc) := bnds_lo (by omega) (by omega)
          have ab : ∀ (z : Option Addr), (if xc = 0 then z else z.map fun a => a.add 0) = z := fun z => addO z xc (fun a _ => addr_add0 a)
          have e8 : (x.take 8).length = 8 := by rw [List.length_take]; omega
          have s8 := Sl.headB (sx.le (Heap.le_trans lb2 (Heap.bare_le _ _))) (m := 8) hx
          have s9 := Sl.midB (sx.le lb2) (a := 8) (b := x.length) hx (Nat.le_refl _)
          rw [List.take_of_length_le (by rw [List.length_drop]; omega)] at s9
          simp -implicitDefEqProofs only [zB1,zB2,zB3,zB4,zB5,zB6,zB7,zB8,zB9,zB10,zB11,y00,y01,y02,y03,y04,y05,y06,y07,y08,y09,y0a,y0b,y0c,y0d,y0e,y0f,y0g,y0h,y0i,y0j,y0k,y0l,y0m,y0n,y0o,y0p,y0q,y0r,y0s,y0t,y0u,y0v,y0w,y0x,y0y,y0z,y10,y11,y12,y13,y14,y15,y16,y17,y18,y19,y1a,y1b,y1c,y1d,y1e,y1f,y1g,y1h,y1i,y1j,y1k,y1l,y1m,y1n,y1o,y1p,y1q,y1r,retO,retL,retV,z6i,allV,allP,z6j,z6m,z6n,z6t,z6u,z6v,binV,eqV,unV,oOpt,reduceIte,reduceCtorEq,Nat.reduceEqDiff,Nat.reduceAdd,Nat.reduceMul,Nat.reduceLT,Nat.reduceSub,Int.reduceLT,Int.reduceLE,Int.reduceEq,Int.reduceNe,Int.reduceSub,Int.reduceAdd,Int.reduceMul,Int.reduceBEq,Int.reduceBNe,Int.reduceGT,Int.reduceGE,Nat.reduceGT,Int.reduceToNat,Int.reduceNeg,Nat.reduceLeDiff,Nat.reduceBEq,Nat.reduceBneDiff,Value.cells, g1, g2, hy, hx]
          unfold ir_journal_Journal_readBase_41
          simp -implicitDefEqProofs only [zB1,zB2,zB3,zB4,zB5,zB6,zB7,zB8,zB9,zB10,zB11,y00,y01,y02,y03,y04,y05,y06,y07,y08,y09,y0a,y0b,y0c,y0d,y0e,y0f,y0g,y0h,y0i,y0j,y0k,y0l,y0m,y0n,y0o,y0p,y0q,y0r,y0s,y0t,y0u,y0v,y0w,y0x,y0y,y0z,y10,y11,y12,y13,y14,y15,y16,y17,y18,y19,y1a,y1b,y1c,y1d,y1e,y1f,y1g,y1h,y1i,y1j,y1k,y1l,y1m,y1n,y1o,y1p,y1q,y1r,retO,retL,retV,z6i,allV,allP,z6j,z6m,z6n,z6t,z6u,z6v,binV,eqV,unV,oOpt,reduceIte,reduceCtorEq,Nat.reduceEqDiff,Nat.reduceAdd,Nat.reduceMul,Nat.reduceLT,Nat.reduceSub,Int.reduceLT,Int.reduceLE,Int.reduceEq,Int.reduceNe,Int.reduceSub,Int.reduceAdd,Int.reduceMul,Int.reduceBEq,Int.reduceBNe,Int.reduceGT,Int.reduceGE,Nat.reduceGT,Int.reduceToNat,Int.reduceNeg,Nat.reduceLeDiff,Nat.reduceBEq,Nat.reduceBneDiff,Value.cells, b1, b2, ab, Nat.sub_zero]
          refine (octet_FromBig_c E H2 (x.take 8) (by omega) (by unfold SlB; rw [e8]; unfold SlB at s8; rw [e8] at s8; exact s8)).mono ?_
          rintro v H3 ⟨rfl, rfl⟩
          have st1 : storeV H3 1 (.pointer (some ⟨j, 2, none⟩)) (.int .u64 ((fromBigF (x.take 8)).toNat : Nat)) = some (H3.set j (.own 0 [ptrV d, .int .i64 J.lives, .int .u64 ((fromBigF (x.take 8)).toNat : Nat), .int .i64 (J.part : Nat), .bool J.written, vb, vr, .bool J.full] 8)) := storeV_one_at RV2.2.1 rfl (by simp) (by simp)
          have P1 := RV2.put (fromBigF (x.take 8)).toNat J.part J.written J.full
          have e3 := RV2.put_ext (.own 0 [ptrV d, .int .i64 J.lives, .int .u64 ((fromBigF (x.take 8)).toNat : Nat), .int .i64 (J.part : Nat), .bool J.written, vb, vr, .bool J.full] 8)
          have s10 := s9.le e3.bare
          simp -implicitDefEqProofs only [zB1,zB2,zB3,zB4,zB5,zB6,zB7,zB8,zB9,zB10,zB11,y00,y01,y02,y03,y04,y05,y06,y07,y08,y09,y0a,y0b,y0c,y0d,y0e,y0f,y0g,y0h,y0i,y0j,y0k,y0l,y0m,y0n,y0o,y0p,y0q,y0r,y0s,y0t,y0u,y0v,y0w,y0x,y0y,y0z,y10,y11,y12,y13,y14,y15,y16,y17,y18,y19,y1a,y1b,y1c,y1d,y1e,y1f,y1g,y1h,y1i,y1j,y1k,y1l,y1m,y1n,y1o,y1p,y1q,y1r,retO,retL,retV,z6i,allV,allP,z6j,z6m,z6n,z6t,z6u,z6v,binV,eqV,unV,oOpt,reduceIte,reduceCtorEq,Nat.reduceEqDiff,Nat.reduceAdd,Nat.reduceMul,Nat.reduceLT,Nat.reduceSub,Int.reduceLT,Int.reduceLE,Int.reduceEq,Int.reduceNe,Int.reduceSub,Int.reduceAdd,Int.reduceMul,Int.reduceBEq,Int.reduceBNe,Int.reduceGT,Int.reduceGE,Nat.reduceGT,Int.reduceToNat,Int.reduceNeg,Nat.reduceLeDiff,Nat.reduceBEq,Nat.reduceBneDiff,Value.cells, u64V, st1, b2]
          generalize (H3.set j (.own 0 [ptrV d, .int .i64 J.lives, .int .u64 ((fromBigF (x.take 8)).toNat : Nat), .int .i64 (J.part : Nat), .bool J.written, vb, vr, .bool J.full] 8)) = H4 at P1 e3 s10 ⊢
          refine (bytes_Clone_c E H4 (x.drop 8) (by rw [List.length_drop]; omega) (s10.le (Heap.bare_le _ _))).mono ?_
          rintro wv H5 ⟨le5, o5⟩
          have e5 : Ext (fun _ => False) κ1 H4 (κ1.grow H4 (j, j, 8)) H5 := Ext.tint le5
          have P5 := P1.ext e5 (fun _ _ q => q)
          have o5' : OwK (κ1.grow H4 (j, j, 8)) (j, j, 8) H5 1 wv (x.drop 8).length ((x.drop 8).map u8V) := OwK.tinted o5
          have ow1 : one wv = true := by
            obtain ⟨wb, wc, rfl⟩ := Sl.shape o5.sl
            rfl
          have st2 : storeV H5 1 (.pointer (some ⟨j, 5, none⟩)) wv = some (H5.set j (.own 0 [ptrV d, .int .i64 J.lives, .int .u64 ((fromBigF (x.take 8)).toNat : Nat), .int .i64 (J.part : Nat), .bool J.written, wv, vr, .bool J.full] 8)) := storeV_one_at P5.2.1 ow1 (by simp) (by simp)
          have P6 := P5.setb o5'
          have e6 := P5.put_ext (.own 0 [ptrV d, .int .i64 J.lives, .int .u64 ((fromBigF (x.take 8)).toNat : Nat), .int .i64 (J.part : Nat), .bool J.written, wv, vr, .bool J.full] 8)
          simp -implicitDefEqProofs only [zB1,zB2,zB3,zB4,zB5,zB6,zB7,zB8,zB9,zB10,zB11,y00,y01,y02,y03,y04,y05,y06,y07,y08,y09,y0a,y0b,y0c,y0d,y0e,y0f,y0g,y0h,y0i,y0j,y0k,y0l,y0m,y0n,y0o,y0p,y0q,y0r,y0s,y0t,y0u,y0v,y0w,y0x,y0y,y0z,y10,y11,y12,y13,y14,y15,y16,y17,y18,y19,y1a,y1b,y1c,y1d,y1e,y1f,y1g,y1h,y1i,y1j,y1k,y1l,y1m,y1n,y1o,y1p,y1q,y1r,retO,retL,retV,z6i,allV,allP,z6j,z6m,z6n,z6t,z6u,z6v,binV,eqV,unV,oOpt,reduceIte,reduceCtorEq,Nat.reduceEqDiff,Nat.reduceAdd,Nat.reduceMul,Nat.reduceLT,Nat.reduceSub,Int.reduceLT,Int.reduceLE,Int.reduceEq,Int.reduceNe,Int.reduceSub,Int.reduceAdd,Int.reduceMul,Int.reduceBEq,Int.reduceBNe,Int.reduceGT,Int.reduceGE,Nat.reduceGT,Int.reduceToNat,Int.reduceNeg,Nat.reduceLeDiff,Nat.reduceBEq,Nat.reduceBneDiff,Value.cells, st2]
          exact ⟨_, ((ej2.trans e3).trans (e5.mono fun c h => h.elim)).trans e6, wv, vr, rs, P6⟩
        · have g1 : ¬ ((0 : Int) < y.length) := by omega
          have g2 : ((x.length : Int) < 8) := by omega
          simp -implicitDefEqProofs only [zB1,zB2,zB3,zB4,zB5,zB6,zB7,zB8,zB9,zB10,zB11,y00,y01,y02,y03,y04,y05,y06,y07,y08,y09,y0a,y0b,y0c,y0d,y0e,y0f,y0g,y0h,y0i,y0j,y0k,y0l,y0m,y0n,y0o,y0p,y0q,y0r,y0s,y0t,y0u,y0v,y0w,y0x,y0y,y0z,y10,y11,y12,y13,y14,y15,y16,y17,y18,y19,y1a,y1b,y1c,y1d,y1e,y1f,y1g,y1h,y1i,y1j,y1k,y1l,y1m,y1n,y1o,y1p,y1q,y1r,retO,retL,retV,z6i,allV,allP,z6j,z6m,z6n,z6t,z6u,z6v,binV,eqV,unV,oOpt,reduceIte,reduceCtorEq,Nat.reduceEqDiff,Nat.reduceAdd,Nat.reduceMul,Nat.reduceLT,Nat.reduceSub,Int.reduceLT,Int.reduceLE,Int.reduceEq,Int.reduceNe,Int.reduceSub,Int.reduceAdd,Int.reduceMul,Int.reduceBEq,Int.reduceBNe,Int.reduceGT,Int.reduceGE,Nat.reduceGT,Int.reduceToNat,Int.reduceNeg,Nat.reduceLeDiff,Nat.reduceBEq,Nat.reduceBneDiff,Value.cells, g1, g2, hy, hx]
          exact ⟨κ1, ej2, ⟨vb, vr, rs, RV2⟩⟩
      · have g1 : ((0 : Int) < y.length) := by omega
        simp -implicitDefEqProofs only [zB1,zB2,zB3,zB4,zB5,zB6,zB7,zB8,zB9,zB10,zB11,y00,y01,y02,y03,y04,y05,y06,y07,y08,y09,y0a,y0b,y0c,y0d,y0e,y0f,y0g,y0h,y0i,y0j,y0k,y0l,y0m,y0n,y0o,y0p,y0q,y0r,y0s,y0t,y0u,y0v,y0w,y0x,y0y,y0z,y10,y11,y12,y13,y14,y15,y16,y17,y18,y19,y1a,y1b,y1c,y1d,y1e,y1f,y1g,y1h,y1i,y1j,y1k,y1l,y1m,y1n,y1o,y1p,y1q,y1r,retO,retL,retV,z6i,allV,allP,z6j,z6m,z6n,z6t,z6u,z6v,binV,eqV,unV,oOpt,reduceIte,reduceCtorEq,Nat.reduceEqDiff,Nat.reduceAdd,Nat.reduceMul,Nat.reduceLT,Nat.reduceSub,Int.reduceLT,Int.reduceLE,Int.reduceEq,Int.reduceNe,Int.reduceSub,Int.reduceAdd,Int.reduceMul,Int.reduceBEq,Int.reduceBNe,Int.reduceGT,Int.reduceGE,Nat.reduceGT,Int.reduceToNat,Int.reduceNeg,Nat.reduceLeDiff,Nat.reduceBEq,Nat.reduceBneDiff,Value.cells, g1, hy, false_and]
        exact ⟨κ1, ej2, ⟨vb, vr, rs, RV2⟩⟩
  · have e0' : (((e : Nat) : Int) == 0) = false := by simpa using e0
    by_cases e4 : e = 4
    · subst e4
      simp -implicitDefEqProofs only [zB1,zB2,zB3,zB4,zB5,zB6,zB7,zB8,zB9,zB10,zB11,y00,y01,y02,y03,y04,y05,y06,y07,y08,y09,y0a,y0b,y0c,y0d,y0e,y0f,y0g,y0h,y0i,y0j,y0k,y0l,y0m,y0n,y0o,y0p,y0q,y0r,y0s,y0t,y0u,y0v,y0w,y0x,y0y,y0z,y10,y11,y12,y13,y14,y15,y16,y17,y18,y19,y1a,y1b,y1c,y1d,y1e,y1f,y1g,y1h,y1i,y1j,y1k,y1l,y1m,y1n,y1o,y1p,y1q,y1r,retO,retL,retV,z6i,allV,allP,z6j,z6m,z6n,z6t,z6u,z6v,binV,eqV,unV,oOpt,reduceIte,reduceCtorEq,Nat.reduceEqDiff,Nat.reduceAdd,Nat.reduceMul,Nat.reduceLT,Nat.reduceSub,Int.reduceLT,Int.reduceLE,Int.reduceEq,Int.reduceNe,Int.reduceSub,Int.reduceAdd,Int.reduceMul,Int.reduceBEq,Int.reduceBNe,Int.reduceGT,Int.reduceGE,Nat.reduceGT,Int.reduceToNat,Int.reduceNeg,Nat.reduceLeDiff,Nat.reduceBEq,Nat.reduceBneDiff,Value.cells, e0', e0, beq_self_eq_true]
      exact ⟨κ1, ej, ⟨vb, vr, rs, RV1⟩⟩
    · have e4' : (((e : Nat) : Int) == 4) = false := by simp; omega
      simp -implicitDefEqProofs only [zB1,zB2,zB3,zB4,zB5,zB6,zB7,zB8,zB9,zB10,zB11,y00,y01,y02,y03,y04,y05,y06,y07,y08,y09,y0a,y0b,y0c,y0d,y0e,y0f,y0g,y0h,y0i,y0j,y0k,y0l,y0m,y0n,y0o,y0p,y0q,y0r,y0s,y0t,y0u,y0v,y0w,y0x,y0y,y0z,y10,y11,y12,y13,y14,y15,y16,y17,y18,y19,y1a,y1b,y1c,y1d,y1e,y1f,y1g,y1h,y1i,y1j,y1k,y1l,y1m,y1n,y1o,y1p,y1q,y1r,retO,retL,retV,z6i,allV,allP,z6j,z6m,z6n,z6t,z6u,z6v,binV,eqV,unV,oOpt,reduceIte,reduceCtorEq,Nat.reduceEqDiff,Nat.reduceAdd,Nat.reduceMul,Nat.reduceLT,Nat.reduceSub,Int.reduceLT,Int.reduceLE,Int.reduceEq,Int.reduceNe,Int.reduceSub,Int.reduceAdd,Int.reduceMul,Int.reduceBEq,Int.reduceBNe,Int.reduceGT,Int.reduceGE,Nat.reduceGT,Int.reduceToNat,Int.reduceNeg,Nat.reduceLeDiff,Nat.reduceBEq,Nat.reduceBneDiff,Value.cells, e0', e4', e0, e4]
      exact ⟨κ1, ej, ⟨vb, vr, rs, RV1⟩⟩
end Go.Bb
/- Contracts: a journal's file of records read. -/
namespace Go.Bb
set_option linter.unusedSimpArgs false
set_option linter.unusedVariables false
set_option maxRecDepth 20000
set_option maxHeartbeats 2000000

def parseF : Nat → List UInt8 → List (List UInt8) × Bool
  | 0, b => ([], decide (b.length = 0))
  | n + 1, b => if b.length = 0 then ([], true) else
    match nextF b with
    | none => ([], false)
    | some (x, y) => (x :: (parseF n y).1, (parseF n y).2)
theorem parseF_len : ∀ (n : Nat) (b : List UInt8), (parseF n b).1.length * 20 ≤ b.length
  | 0, b => by simp [parseF]
  | n + 1, b => by
    unfold parseF
    split
    · simp
    · split
      · simp
      · rename_i x y h
        have h1 := (nextF_len h).1
        have h2 := parseF_len n y
        simp only [List.length_cons]
        omega
def readPartF (J : JF) (D : DiskF) (p : Nat) : JF × DiskF × Bool :=
  if (readF D (nameF J.turn p)).2 = 0 then
    ({ J with part := if (parseF (readF D (nameF J.turn p)).1.length (readF D (nameF J.turn p)).1).2 then p else p + 1, written := (parseF (readF D (nameF J.turn p)).1.length (readF D (nameF J.turn p)).1).2, recs := J.recs ++ (parseF (readF D (nameF J.turn p)).1.length (readF D (nameF J.turn p)).1).1 },
      (syncF D (nameF J.turn p)).1, true)
  else (J, D, false)
theorem readF_len {D : DiskF} (ok : D.ok) (s : List UInt8) : (readF D s).1.length ≤ 1048576 := by
  unfold readF
  split
  · split
    · simp
    · rename_i F hF
      unfold lookF at hF
      obtain ⟨z, hz, rfl⟩ := Option.map_eq_some_iff.1 hF
      have := size_le (List.mem_of_find?_eq_some hz)
      have := ok.2.1
      unfold FileF.size at *
      show z.2.all.length ≤ _
      omega
  · simp
theorem journal_readPart_c (E : EnvT tab) {κ : Pal} {H : Heap} {j d : Nat} {J : JF} {D : DiskF} (R : JouR κ H j d J) (RD : DiskR κ H d D) (ne : d ≠ j) (ok : D.ok) (ht : J.turn < 64) (p : Nat) (hp : p < 64) (hr : J.recs.length ≤ 10000000) :
    ACallN E.toEnv n_journal_Journal_readPart [ptrV j, .int .i64 p] H fun r H' => r = .bool (readPartF J D p).2.2 ∧ ∃ κ', Ext (jdC j d) κ H κ' H' ∧ JouR κ' H' j d (readPartF J D p).1 ∧ DiskR κ' H' d (readPartF J D p).2.1 := by
  have R0 := R
  obtain ⟨vb, vr, rs, RV⟩ := R
  have q := RV.2.1
  refine acall h_journal_Journal_readPart ir_journal_Journal_readPart rfl rfl (wpA_sound ?_)
  unfold ir_journal_Journal_readPart
  have j0 : ∀ M, H.le M → hcell M ⟨j, 0, none⟩ = some (ptrV d) := fun M x => by rw [hcell_at (x _ _ q) (by simp)]; rfl
  have j2 : hcell H ⟨j, 2, none⟩ = some (.int .u64 (J.turn : Nat)) := by rw [hcell_at q (by simp)]; rfl
  have j00 := j0 H (Heap.le_refl _)
  simp -implicitDefEqProofs only [zB1,zB2,zB3,zB4,zB5,zB6,zB7,zB8,zB9,zB10,zB11,y00,y01,y02,y03,y04,y05,y06,y07,y08,y09,y0a,y0b,y0c,y0d,y0e,y0f,y0g,y0h,y0i,y0j,y0k,y0l,y0m,y0n,y0o,y0p,y0q,y0r,y0s,y0t,y0u,y0v,y0w,y0x,y0y,y0z,y10,y11,y12,y13,y14,y15,y16,y17,y18,y19,y1a,y1b,y1c,y1d,y1e,y1f,y1g,y1h,y1i,y1j,y1k,y1l,y1m,y1n,y1o,y1p,y1q,y1r,retO,retL,retV,z6i,allV,allP,z6j,z6m,z6n,z6t,z6u,z6v,binV,eqV,unV,oOpt,reduceIte,reduceCtorEq,Nat.reduceEqDiff,Nat.reduceAdd,Nat.reduceMul,Nat.reduceLT,Nat.reduceSub,Int.reduceLT,Int.reduceLE,Int.reduceEq,Int.reduceNe,Int.reduceSub,Int.reduceAdd,Int.reduceMul,Int.reduceBEq,Int.reduceBNe,Int.reduceGT,Int.reduceGE,Nat.reduceGT,Int.reduceToNat,Int.reduceNeg,Nat.reduceLeDiff,Nat.reduceBEq,Nat.reduceBneDiff,Value.cells, j2]
  refine (journal_name_c E H J.turn p ht hp).mono ?_
  rintro v H1 ⟨le1, rfl⟩
  have j01 := j0 H1 le1
  simp -implicitDefEqProofs only [zB1,zB2,zB3,zB4,zB5,zB6,zB7,zB8,zB9,zB10,zB11,y00,y01,y02,y03,y04,y05,y06,y07,y08,y09,y0a,y0b,y0c,y0d,y0e,y0f,y0g,y0h,y0i,y0j,y0k,y0l,y0m,y0n,y0o,y0p,y0q,y0r,y0s,y0t,y0u,y0v,y0w,y0x,y0y,y0z,y10,y11,y12,y13,y14,y15,y16,y17,y18,y19,y1a,y1b,y1c,y1d,y1e,y1f,y1g,y1h,y1i,y1j,y1k,y1l,y1m,y1n,y1o,y1p,y1q,y1r,retO,retL,retV,z6i,allV,allP,z6j,z6m,z6n,z6t,z6u,z6v,binV,eqV,unV,oOpt,reduceIte,reduceCtorEq,Nat.reduceEqDiff,Nat.reduceAdd,Nat.reduceMul,Nat.reduceLT,Nat.reduceSub,Int.reduceLT,Int.reduceLE,Int.reduceEq,Int.reduceNe,Int.reduceSub,Int.reduceAdd,Int.reduceMul,Int.reduceBEq,Int.reduceBNe,Int.reduceGT,Int.reduceGE,Nat.reduceGT,Int.reduceToNat,Int.reduceNeg,Nat.reduceLeDiff,Nat.reduceBEq,Nat.reduceBneDiff,Value.cells, j00, j01, implies_true, List.mem_cons, List.not_mem_nil, List.mem_singleton, or_false, forall_eq, forall_eq_or_imp, and_self]
  refine (disk_Read_c E (RD.le le1) ok (nameF J.turn p) (by have := @name_len J.turn p; omega)).mono ?_
  rintro v H2 ⟨le2, sb, sc, rfl, o2⟩
  have hlen := readF_len ok (nameF J.turn p)
  unfold readPartF
  generalize readF D (nameF J.turn p) = X at o2 hlen ⊢
  obtain ⟨b, e⟩ := X
  simp only at o2 hlen ⊢
  have le02 := Heap.le_trans le1 le2
  by_cases e0 : ¬ e = 0
  · have e0' : ¬ ((e : Nat) : Int) = 0 := by omega
    simp -implicitDefEqProofs only [zB1,zB2,zB3,zB4,zB5,zB6,zB7,zB8,zB9,zB10,zB11,y00,y01,y02,y03,y04,y05,y06,y07,y08,y09,y0a,y0b,y0c,y0d,y0e,y0f,y0g,y0h,y0i,y0j,y0k,y0l,y0m,y0n,y0o,y0p,y0q,y0r,y0s,y0t,y0u,y0v,y0w,y0x,y0y,y0z,y10,y11,y12,y13,y14,y15,y16,y17,y18,y19,y1a,y1b,y1c,y1d,y1e,y1f,y1g,y1h,y1i,y1j,y1k,y1l,y1m,y1n,y1o,y1p,y1q,y1r,retO,retL,retV,z6i,allV,allP,z6j,z6m,z6n,z6t,z6u,z6v,binV,eqV,unV,oOpt,reduceIte,reduceCtorEq,Nat.reduceEqDiff,Nat.reduceAdd,Nat.reduceMul,Nat.reduceLT,Nat.reduceSub,Int.reduceLT,Int.reduceLE,Int.reduceEq,Int.reduceNe,Int.reduceSub,Int.reduceAdd,Int.reduceMul,Int.reduceBEq,Int.reduceBNe,Int.reduceGT,Int.reduceGE,Nat.reduceGT,Int.reduceToNat,Int.reduceNeg,Nat.reduceLeDiff,Nat.reduceBEq,Nat.reduceBneDiff,Value.cells, e0', e0]
    exact ⟨κ, Ext.le le02, R0.le le02, RD.le le02⟩
  have e0 := Decidable.not_not.1 e0
  subst e0
  have ew : Ext (fun _ => False) κ H ((κ.wash H1)) H2 := (Ext.le (cs := fun _ => False) le1).trans (Ext.wash le2)
  have RV2 := RV.ext ew (fun _ _ q => q)
  have RD2 := RD.ext ew (fun _ _ q => q)
  have s2 : SlB (H2.bare (κ.wash H1)) (.slice sb b.length sc) b := o2.bare
  generalize κ.wash H1 = κ2 at ew RV2 RD2 s2
  have q2 := RV2.2.1
  have k0 : ∀ M, H2.le M → hcell M ⟨j, 0, none⟩ = some (ptrV d) := fun M x => by rw [hcell_at (x _ _ q2) (by simp)]; rfl
  have k2 : hcell H2 ⟨j, 2, none⟩ = some (.int .u64 (J.turn : Nat)) := by rw [hcell_at q2 (by simp)]; rfl
  have k00 := k0 H2 (Heap.le_refl _)
  simp -implicitDefEqProofs only [zB1,zB2,zB3,zB4,zB5,zB6,zB7,zB8,zB9,zB10,zB11,y00,y01,y02,y03,y04,y05,y06,y07,y08,y09,y0a,y0b,y0c,y0d,y0e,y0f,y0g,y0h,y0i,y0j,y0k,y0l,y0m,y0n,y0o,y0p,y0q,y0r,y0s,y0t,y0u,y0v,y0w,y0x,y0y,y0z,y10,y11,y12,y13,y14,y15,y16,y17,y18,y19,y1a,y1b,y1c,y1d,y1e,y1f,y1g,y1h,y1i,y1j,y1k,y1l,y1m,y1n,y1o,y1p,y1q,y1r,retO,retL,retV,z6i,allV,allP,z6j,z6m,z6n,z6t,z6u,z6v,binV,eqV,unV,oOpt,reduceIte,reduceCtorEq,Nat.reduceEqDiff,Nat.reduceAdd,Nat.reduceMul,Nat.reduceLT,Nat.reduceSub,Int.reduceLT,Int.reduceLE,Int.reduceEq,Int.reduceNe,Int.reduceSub,Int.reduceAdd,Int.reduceMul,Int.reduceBEq,Int.reduceBNe,Int.reduceGT,Int.reduceGE,Nat.reduceGT,Int.reduceToNat,Int.reduceNeg,Nat.reduceLeDiff,Nat.reduceBEq,Nat.reduceBneDiff,Value.cells]
  unfold ir_journal_Journal_readPart_30
  simp -implicitDefEqProofs only [zB1,zB2,zB3,zB4,zB5,zB6,zB7,zB8,zB9,zB10,zB11,y00,y01,y02,y03,y04,y05,y06,y07,y08,y09,y0a,y0b,y0c,y0d,y0e,y0f,y0g,y0h,y0i,y0j,y0k,y0l,y0m,y0n,y0o,y0p,y0q,y0r,y0s,y0t,y0u,y0v,y0w,y0x,y0y,y0z,y10,y11,y12,y13,y14,y15,y16,y17,y18,y19,y1a,y1b,y1c,y1d,y1e,y1f,y1g,y1h,y1i,y1j,y1k,y1l,y1m,y1n,y1o,y1p,y1q,y1r,retO,retL,retV,z6i,allV,allP,z6j,z6m,z6n,z6t,z6u,z6v,binV,eqV,unV,oOpt,reduceIte,reduceCtorEq,Nat.reduceEqDiff,Nat.reduceAdd,Nat.reduceMul,Nat.reduceLT,Nat.reduceSub,Int.reduceLT,Int.reduceLE,Int.reduceEq,Int.reduceNe,Int.reduceSub,Int.reduceAdd,Int.reduceMul,Int.reduceBEq,Int.reduceBNe,Int.reduceGT,Int.reduceGE,Nat.reduceGT,Int.reduceToNat,Int.reduceNeg,Nat.reduceLeDiff,Nat.reduceBEq,Nat.reduceBneDiff,Value.cells, k2]
  refine (journal_name_c E H2 J.turn p ht hp).mono ?_
  rintro v H3 ⟨le3, rfl⟩
  have k01 := k0 H3 le3
  simp -implicitDefEqProofs only [zB1,zB2,zB3,zB4,zB5,zB6,zB7,zB8,zB9,zB10,zB11,y00,y01,y02,y03,y04,y05,y06,y07,y08,y09,y0a,y0b,y0c,y0d,y0e,y0f,y0g,y0h,y0i,y0j,y0k,y0l,y0m,y0n,y0o,y0p,y0q,y0r,y0s,y0t,y0u,y0v,y0w,y0x,y0y,y0z,y10,y11,y12,y13,y14,y15,y16,y17,y18,y19,y1a,y1b,y1c,y1d,y1e,y1f,y1g,y1h,y1i,y1j,y1k,y1l,y1m,y1n,y1o,y1p,y1q,y1r,retO,retL,retV,z6i,allV,allP,z6j,z6m,z6n,z6t,z6u,z6v,binV,eqV,unV,oOpt,reduceIte,reduceCtorEq,Nat.reduceEqDiff,Nat.reduceAdd,Nat.reduceMul,Nat.reduceLT,Nat.reduceSub,Int.reduceLT,Int.reduceLE,Int.reduceEq,Int.reduceNe,Int.reduceSub,Int.reduceAdd,Int.reduceMul,Int.reduceBEq,Int.reduceBNe,Int.reduceGT,Int.reduceGE,Nat.reduceGT,Int.reduceToNat,Int.reduceNeg,Nat.reduceLeDiff,Nat.reduceBEq,Nat.reduceBneDiff,Value.cells, k00, k01, implies_true, List.mem_cons, List.not_mem_nil, List.mem_singleton, or_false, forall_eq, forall_eq_or_imp, and_self]
  refine (disk_Sync_c E (RD2.le le3) ok (nameF J.turn p) (by have := @name_len J.turn p; omega)).mono ?_
  rintro v H4 ⟨rfl, κ4, e4, R4⟩
  have e24 : Ext (diskC d) κ2 H2 κ4 H4 := (Ext.le le3).trans e4
  have RV4 := RV2.ext e24 fun c h q => ne (by unfold diskC at q; rw [← q, h])
  have s4 := s2.le e24.bare
  have e04 : Ext (jdC j d) κ H κ4 H4 := (ew.mono fun c h => h.elim).trans (ext_dj e24)
  have st1 : storeV H4 1 (.pointer (some ⟨j, 3, none⟩)) (.int .i64 p) = some (H4.set j (.own 0 [ptrV d, .int .i64 J.lives, .int .u64 (J.turn : Nat), .int .i64 (p : Nat), .bool J.written, vb, vr, .bool J.full] 8)) := storeV_one_at RV4.2.1 rfl (by simp) (by simp)
  have st2 : storeV (H4.set j (.own 0 [ptrV d, .int .i64 J.lives, .int .u64 (J.turn : Nat), .int .i64 (p : Nat), .bool J.written, vb, vr, .bool J.full] 8)) 1 (.pointer (some ⟨j, 4, none⟩)) (.bool true) = some ((H4.set j (.own 0 [ptrV d, .int .i64 J.lives, .int .u64 (J.turn : Nat), .int .i64 (p : Nat), .bool J.written, vb, vr, .bool J.full] 8)).set j (.own 0 [ptrV d, .int .i64 J.lives, .int .u64 (J.turn : Nat), .int .i64 (p : Nat), .bool true, vb, vr, .bool J.full] 8)) := storeV_one_at (Heap.set_self _ _ _) rfl (by simp) (by simp)
  have P1 := RV4.put J.turn p true J.full
  have e5 := RV4.put_ext (.own 0 [ptrV d, .int .i64 J.lives, .int .u64 (J.turn : Nat), .int .i64 (p : Nat), .bool true, vb, vr, .bool J.full] 8)
  have s5 := s4.le e5.bare
  have R5 := R4.off e5 ne.symm
  have e05 := e04.trans (ext_jd e5)
  simp -implicitDefEqProofs only [zB1,zB2,zB3,zB4,zB5,zB6,zB7,zB8,zB9,zB10,zB11,y00,y01,y02,y03,y04,y05,y06,y07,y08,y09,y0a,y0b,y0c,y0d,y0e,y0f,y0g,y0h,y0i,y0j,y0k,y0l,y0m,y0n,y0o,y0p,y0q,y0r,y0s,y0t,y0u,y0v,y0w,y0x,y0y,y0z,y10,y11,y12,y13,y14,y15,y16,y17,y18,y19,y1a,y1b,y1c,y1d,y1e,y1f,y1g,y1h,y1i,y1j,y1k,y1l,y1m,y1n,y1o,y1p,y1q,y1r,retO,retL,retV,z6i,allV,allP,z6j,z6m,z6n,z6t,z6u,z6v,binV,eqV,unV,oOpt,reduceIte,reduceCtorEq,Nat.reduceEqDiff,Nat.reduceAdd,Nat.reduceMul,Nat.reduceLT,Nat.reduceSub,Int.reduceLT,Int.reduceLE,Int.reduceEq,Int.reduceNe,Int.reduceSub,Int.reduceAdd,Int.reduceMul,Int.reduceBEq,Int.reduceBNe,Int.reduceGT,Int.reduceGE,Nat.reduceGT,Int.reduceToNat,Int.reduceNeg,Nat.reduceLeDiff,Nat.reduceBEq,Nat.reduceBneDiff,Value.cells, st1, st2]
  generalize (H4.set j (.own 0 [ptrV d, .int .i64 J.lives, .int .u64 (J.turn : Nat), .int .i64 (p : Nat), .bool true, vb, vr, .bool J.full] 8)) = H5 at P1 s5 R5 e05 ⊢
  clear e4 e24 e04 e5 st1 st2
  refine wp_loop' (fun m t G => ∃ (acc : List (List UInt8)) (rest : List UInt8) (κ' : Pal) (rb : Option Addr) (rc f : Nat), t = tl [(0, ptrV j), (1, .int .i64 p), (5, .slice rb rest.length rc)] ∧ m = rest.length ∧ Ext (jouC j) κ4 H5 κ' G ∧ SlB (H5.bare κ4) (.slice rb rest.length rc) rest ∧
      JouR κ' G j d { J with part := p, written := true, recs := J.recs ++ acc } ∧ rest.length ≤ f ∧ parseF b.length b = (acc ++ (parseF f rest).1, (parseF f rest).2) ∧ acc.length * 20 + rest.length ≤ b.length) b.length
    ⟨[], b, κ4, sb, sc, b.length, rfl, rfl, Ext.refl _ _ _, s5, ⟨vb, vr, rs, by simpa using P1⟩, Nat.le_refl _, by simp, by simp⟩ ?_
  rintro m t G ⟨acc, rest, κ', rb, rc, f, rfl, rfl, eG, sr, RG, hf, eP, hacc⟩
  have RDG := R5.off eG ne.symm
  have e0G := e05.trans (ext_jd eG)
  by_cases hz : rest.length = 0
  · have g1 : ¬ (0 : Int) < rest.length := by omega
    have eP' : parseF b.length b = (acc, true) := by
      rw [eP]
      cases f with
      | zero => simp [parseF, hz]
      | succ f => simp [parseF, hz]
    simp -implicitDefEqProofs only [zB1,zB2,zB3,zB4,zB5,zB6,zB7,zB8,zB9,zB10,zB11,y00,y01,y02,y03,y04,y05,y06,y07,y08,y09,y0a,y0b,y0c,y0d,y0e,y0f,y0g,y0h,y0i,y0j,y0k,y0l,y0m,y0n,y0o,y0p,y0q,y0r,y0s,y0t,y0u,y0v,y0w,y0x,y0y,y0z,y10,y11,y12,y13,y14,y15,y16,y17,y18,y19,y1a,y1b,y1c,y1d,y1e,y1f,y1g,y1h,y1i,y1j,y1k,y1l,y1m,y1n,y1o,y1p,y1q,y1r,retO,retL,retV,z6i,allV,allP,z6j,z6m,z6n,z6t,z6u,z6v,binV,eqV,unV,oOpt,reduceIte,reduceCtorEq,Nat.reduceEqDiff,Nat.reduceAdd,Nat.reduceMul,Nat.reduceLT,Nat.reduceSub,Int.reduceLT,Int.reduceLE,Int.reduceEq,Int.reduceNe,Int.reduceSub,Int.reduceAdd,Int.reduceMul,Int.reduceBEq,Int.reduceBNe,Int.reduceGT,Int.reduceGE,Nat.reduceGT,Int.reduceToNat,Int.reduceNeg,Nat.reduceLeDiff,Nat.reduceBEq,Nat.reduceBneDiff,Value.cells, g1]
    rw [eP']
    exact ⟨κ', e0G, RG, RDG⟩
  have g1 : (0 : Int) < rest.length := by omega
  obtain ⟨f, rfl⟩ : ∃ f', f = f' + 1 := ⟨f - 1, by omega⟩
  rw [parseF, if_neg hz] at eP
  obtain ⟨vb6, vr6, rs6, RV6⟩ := RG
  have le0 : (H5.bare κ4).le G := Heap.le_trans eG.bare (Heap.bare_le _ _)
  simp -implicitDefEqProofs only [zB1,zB2,zB3,zB4,zB5,zB6,zB7,zB8,zB9,zB10,zB11,y00,y01,y02,y03,y04,y05,y06,y07,y08,y09,y0a,y0b,y0c,y0d,y0e,y0f,y0g,y0h,y0i,y0j,y0k,y0l,y0m,y0n,y0o,y0p,y0q,y0r,y0s,y0t,y0u,y0v,y0w,y0x,y0y,y0z,y10,y11,y12,y13,y14,y15,y16,y17,y18,y19,y1a,y1b,y1c,y1d,y1e,y1f,y1g,y1h,y1i,y1j,y1k,y1l,y1m,y1n,y1o,y1p,y1q,y1r,retO,retL,retV,z6i,allV,allP,z6j,z6m,z6n,z6t,z6u,z6v,binV,eqV,unV,oOpt,reduceIte,reduceCtorEq,Nat.reduceEqDiff,Nat.reduceAdd,Nat.reduceMul,Nat.reduceLT,Nat.reduceSub,Int.reduceLT,Int.reduceLE,Int.reduceEq,Int.reduceNe,Int.reduceSub,Int.reduceAdd,Int.reduceMul,Int.reduceBEq,Int.reduceBNe,Int.reduceGT,Int.reduceGE,Nat.reduceGT,Int.reduceToNat,Int.reduceNeg,Nat.reduceLeDiff,Nat.reduceBEq,Nat.reduceBneDiff,Value.cells, g1]
  unfold ir_journal_Journal_readPart_48
  simp -implicitDefEqProofs only [zB1,zB2,zB3,zB4,zB5,zB6,zB7,zB8,zB9,zB10,zB11,y00,y01,y02,y03,y04,y05,y06,y07,y08,y09,y0a,y0b,y0c,y0d,y0e,y0f,y0g,y0h,y0i,y0j,y0k,y0l,y0m,y0n,y0o,y0p,y0q,y0r,y0s,y0t,y0u,y0v,y0w,y0x,y0y,y0z,y10,y11,y12,y13,y14,y15,y16,y17,y18,y19,y1a,y1b,y1c,y1d,y1e,y1f,y1g,y1h,y1i,y1j,y1k,y1l,y1m,y1n,y1o,y1p,y1q,y1r,retO,retL,retV,z6i,allV,allP,z6j,z6m,z6n,z6t,z6u,z6v,binV,eqV,unV,oOpt,reduceIte,reduceCtorEq,Nat.reduceEqDiff,Nat.reduceAdd,Nat.reduceMul,Nat.reduceLT,Nat.reduceSub,Int.reduceLT,Int.reduceLE,Int.reduceEq,Int.reduceNe,Int.reduceSub,Int.reduceAdd,Int.reduceMul,Int.reduceBEq,Int.reduceBNe,Int.reduceGT,Int.reduceGE,Nat.reduceGT,Int.reduceToNat,Int.reduceNeg,Nat.reduceLeDiff,Nat.reduceBEq,Nat.reduceBneDiff,Value.cells]
  refine (journal_next_c E le0 rest (by omega) sr).mono ?_
  rintro v H6 ⟨le6, h⟩
  have RV7 := RV6.ext (Ext.le (cs := fun _ => False) le6) (fun _ _ q => q)
  rcases h with ⟨hn, rfl⟩ | ⟨x, y, vx, vy, hn, rfl, sx, sy⟩
  · rw [hn] at eP
    simp only at eP
    have wp : IntKind.i64.wrap ((p : Int) + 1) = ((p + 1 : Nat) : Int) := wrapN (by omega)
    have st1 : storeV H6 1 (.pointer (some ⟨j, 3, none⟩)) (.int .i64 ((p + 1 : Nat) : Int)) = some (H6.set j (.own 0 [ptrV d, .int .i64 J.lives, .int .u64 (J.turn : Nat), .int .i64 ((p + 1 : Nat) : Int), .bool true, vb6, vr6, .bool J.full] 8)) := storeV_one_at RV7.2.1 rfl (by simp) (by simp)
    have st2 : storeV (H6.set j (.own 0 [ptrV d, .int .i64 J.lives, .int .u64 (J.turn : Nat), .int .i64 ((p + 1 : Nat) : Int), .bool true, vb6, vr6, .bool J.full] 8)) 1 (.pointer (some ⟨j, 4, none⟩)) (.bool false) = some ((H6.set j (.own 0 [ptrV d, .int .i64 J.lives, .int .u64 (J.turn : Nat), .int .i64 ((p + 1 : Nat) : Int), .bool true, vb6, vr6, .bool J.full] 8)).set j (.own 0 [ptrV d, .int .i64 J.lives, .int .u64 (J.turn : Nat), .int .i64 ((p + 1 : Nat) : Int), .bool false, vb6, vr6, .bool J.full] 8)) := storeV_one_at (Heap.set_self _ _ _) rfl (by simp) (by simp)
    have P7 := RV7.put J.turn (p + 1) false J.full
    have e7 := RV7.put_ext (.own 0 [ptrV d, .int .i64 J.lives, .int .u64 (J.turn : Nat), .int .i64 ((p + 1 : Nat) : Int), .bool false, vb6, vr6, .bool J.full] 8)
    simp -implicitDefEqProofs only [zB1,zB2,zB3,zB4,zB5,zB6,zB7,zB8,zB9,zB10,zB11,y00,y01,y02,y03,y04,y05,y06,y07,y08,y09,y0a,y0b,y0c,y0d,y0e,y0f,y0g,y0h,y0i,y0j,y0k,y0l,y0m,y0n,y0o,y0p,y0q,y0r,y0s,y0t,y0u,y0v,y0w,y0x,y0y,y0z,y10,y11,y12,y13,y14,y15,y16,y17,y18,y19,y1a,y1b,y1c,y1d,y1e,y1f,y1g,y1h,y1i,y1j,y1k,y1l,y1m,y1n,y1o,y1p,y1q,y1r,retO,retL,retV,z6i,allV,allP,z6j,z6m,z6n,z6t,z6u,z6v,binV,eqV,unV,oOpt,reduceIte,reduceCtorEq,Nat.reduceEqDiff,Nat.reduceAdd,Nat.reduceMul,Nat.reduceLT,Nat.reduceSub,Int.reduceLT,Int.reduceLE,Int.reduceEq,Int.reduceNe,Int.reduceSub,Int.reduceAdd,Int.reduceMul,Int.reduceBEq,Int.reduceBNe,Int.reduceGT,Int.reduceGE,Nat.reduceGT,Int.reduceToNat,Int.reduceNeg,Nat.reduceLeDiff,Nat.reduceBEq,Nat.reduceBneDiff,Value.cells, wp, st1, st2]
    rw [eP, List.append_nil]
    exact ⟨κ', (e0G.trans (Ext.le le6)).trans (ext_jd e7), ⟨vb6, vr6, rs6, P7⟩, (RDG.le le6).off e7 ne.symm⟩
  · rw [hn] at eP
    simp only at eP
    obtain ⟨xb, xc, rfl⟩ := Sl.shape sx
    obtain ⟨yb, yc, rfl⟩ := Sl.shape sy
    obtain ⟨nl, -⟩ := nextF_len hn
    have le06 := Heap.le_trans le0 le6
    simp -implicitDefEqProofs only [zB1,zB2,zB3,zB4,zB5,zB6,zB7,zB8,zB9,zB10,zB11,y00,y01,y02,y03,y04,y05,y06,y07,y08,y09,y0a,y0b,y0c,y0d,y0e,y0f,y0g,y0h,y0i,y0j,y0k,y0l,y0m,y0n,y0o,y0p,y0q,y0r,y0s,y0t,y0u,y0v,y0w,y0x,y0y,y0z,y10,y11,y12,y13,y14,y15,y16,y17,y18,y19,y1a,y1b,y1c,y1d,y1e,y1f,y1g,y1h,y1i,y1j,y1k,y1l,y1m,y1n,y1o,y1p,y1q,y1r,retO,retL,retV,z6i,allV,allP,z6j,z6m,z6n,z6t,z6u,z6v,binV,eqV,unV,oOpt,reduceIte,reduceCtorEq,Nat.reduceEqDiff,Nat.reduceAdd,Nat.reduceMul,Nat.reduceLT,Nat.reduceSub,Int.reduceLT,Int.reduceLE,Int.reduceEq,Int.reduceNe,Int.reduceSub,Int.reduceAdd,Int.reduceMul,Int.reduceBEq,Int.reduceBNe,Int.reduceGT,Int.reduceGE,Nat.reduceGT,Int.reduceToNat,Int.reduceNeg,Nat.reduceLeDiff,Nat.reduceBEq,Nat.reduceBneDiff,Value.cells]
    unfold ir_journal_Journal_readPart_68
    have q7 := RV7.2.1
    have m60 : hcell H6 ⟨j, 6, none⟩ = some vr6 := by rw [hcell_at q7 (by simp)]; rfl
    simp -implicitDefEqProofs only [zB1,zB2,zB3,zB4,zB5,zB6,zB7,zB8,zB9,zB10,zB11,y00,y01,y02,y03,y04,y05,y06,y07,y08,y09,y0a,y0b,y0c,y0d,y0e,y0f,y0g,y0h,y0i,y0j,y0k,y0l,y0m,y0n,y0o,y0p,y0q,y0r,y0s,y0t,y0u,y0v,y0w,y0x,y0y,y0z,y10,y11,y12,y13,y14,y15,y16,y17,y18,y19,y1a,y1b,y1c,y1d,y1e,y1f,y1g,y1h,y1i,y1j,y1k,y1l,y1m,y1n,y1o,y1p,y1q,y1r,retO,retL,retV,z6i,allV,allP,z6j,z6m,z6n,z6t,z6u,z6v,binV,eqV,unV,oOpt,reduceIte,reduceCtorEq,Nat.reduceEqDiff,Nat.reduceAdd,Nat.reduceMul,Nat.reduceLT,Nat.reduceSub,Int.reduceLT,Int.reduceLE,Int.reduceEq,Int.reduceNe,Int.reduceSub,Int.reduceAdd,Int.reduceMul,Int.reduceBEq,Int.reduceBNe,Int.reduceGT,Int.reduceGE,Nat.reduceGT,Int.reduceToNat,Int.reduceNeg,Nat.reduceLeDiff,Nat.reduceBEq,Nat.reduceBneDiff,Value.cells]
    refine (bytes_Clone_c E H6 x (by omega) (sx.le le06)).mono ?_
    rintro wv H7 ⟨le7, o7⟩
    have e7 : Ext (fun _ => False) κ' H6 (κ'.grow H6 (j, j, 10)) H7 := Ext.tint le7
    have RV8 := RV7.ext e7 (fun _ _ q => q)
    have ow7 : OwK (κ'.grow H6 (j, j, 10)) (j, j, 10) H7 1 wv x.length (x.map u8V) := OwK.tinted o7
    obtain ⟨wb, wc, rfl⟩ := Sl.shape o7.sl
    have m61 : hcell H7 ⟨j, 6, none⟩ = some vr6 := by rw [hcell_at (le7 _ _ q7) (by simp)]; rfl
    simp -implicitDefEqProofs only [zB1,zB2,zB3,zB4,zB5,zB6,zB7,zB8,zB9,zB10,zB11,y00,y01,y02,y03,y04,y05,y06,y07,y08,y09,y0a,y0b,y0c,y0d,y0e,y0f,y0g,y0h,y0i,y0j,y0k,y0l,y0m,y0n,y0o,y0p,y0q,y0r,y0s,y0t,y0u,y0v,y0w,y0x,y0y,y0z,y10,y11,y12,y13,y14,y15,y16,y17,y18,y19,y1a,y1b,y1c,y1d,y1e,y1f,y1g,y1h,y1i,y1j,y1k,y1l,y1m,y1n,y1o,y1p,y1q,y1r,retO,retL,retV,z6i,allV,allP,z6j,z6m,z6n,z6t,z6u,z6v,binV,eqV,unV,oOpt,reduceIte,reduceCtorEq,Nat.reduceEqDiff,Nat.reduceAdd,Nat.reduceMul,Nat.reduceLT,Nat.reduceSub,Int.reduceLT,Int.reduceLE,Int.reduceEq,Int.reduceNe,Int.reduceSub,Int.reduceAdd,Int.reduceMul,Int.reduceBEq,Int.reduceBNe,Int.reduceGT,Int.reduceGE,Nat.reduceGT,Int.reduceToNat,Int.reduceNeg,Nat.reduceLeDiff,Nat.reduceBEq,Nat.reduceBneDiff,Value.cells, m60, m61, implies_true, List.mem_cons, List.not_mem_nil, List.mem_singleton, or_false, forall_eq, forall_eq_or_imp, and_self, List.length_replicate, List.drop_replicate, List.replicate_zero]
    intro b70 hb70
    try simp -implicitDefEqProofs only [zB1,zB2,zB3,zB4,zB5,zB6,zB7,zB8,zB9,zB10,zB11,y00,y01,y02,y03,y04,y05,y06,y07,y08,y09,y0a,y0b,y0c,y0d,y0e,y0f,y0g,y0h,y0i,y0j,y0k,y0l,y0m,y0n,y0o,y0p,y0q,y0r,y0s,y0t,y0u,y0v,y0w,y0x,y0y,y0z,y10,y11,y12,y13,y14,y15,y16,y17,y18,y19,y1a,y1b,y1c,y1d,y1e,y1f,y1g,y1h,y1i,y1j,y1k,y1l,y1m,y1n,y1o,y1p,y1q,y1r,retO,retL,retV,z6i,allV,allP,z6j,z6m,z6n,z6t,z6u,z6v,binV,eqV,unV,oOpt,reduceIte,reduceCtorEq,Nat.reduceEqDiff,Nat.reduceAdd,Nat.reduceMul,Nat.reduceLT,Nat.reduceSub,Int.reduceLT,Int.reduceLE,Int.reduceEq,Int.reduceNe,Int.reduceSub,Int.reduceAdd,Int.reduceMul,Int.reduceBEq,Int.reduceBNe,Int.reduceGT,Int.reduceGE,Nat.reduceGT,Int.reduceToNat,Int.reduceNeg,Nat.reduceLeDiff,Nat.reduceBEq,Nat.reduceBneDiff,Value.cells]
    have le8 := Heap.le_set (Heap.le_refl H7) hb70 (.own 0 [.slice wb x.length wc] 1)
    have sx8 : Sl (H7.set b70 (.own 0 [.slice wb x.length wc] 1)) 1 (.slice (some ⟨b70, 0, none⟩) 1 1) 1 [.slice wb x.length wc] := Sl.lit rfl
    refine jou_write (RV8.ext (Ext.le (cs := fun _ => False) le8) (fun _ _ q => q)) sx8 (OwK.le le8 ow7) (by simp only [List.length_append]; omega) ?_
    rintro v M3 st ⟨vb3, vc3, rfl⟩ ⟨κ3, e3, R3⟩
    simp -implicitDefEqProofs only [zB1,zB2,zB3,zB4,zB5,zB6,zB7,zB8,zB9,zB10,zB11,y00,y01,y02,y03,y04,y05,y06,y07,y08,y09,y0a,y0b,y0c,y0d,y0e,y0f,y0g,y0h,y0i,y0j,y0k,y0l,y0m,y0n,y0o,y0p,y0q,y0r,y0s,y0t,y0u,y0v,y0w,y0x,y0y,y0z,y10,y11,y12,y13,y14,y15,y16,y17,y18,y19,y1a,y1b,y1c,y1d,y1e,y1f,y1g,y1h,y1i,y1j,y1k,y1l,y1m,y1n,y1o,y1p,y1q,y1r,retO,retL,retV,z6i,allV,allP,z6j,z6m,z6n,z6t,z6u,z6v,binV,eqV,unV,oOpt,reduceIte,reduceCtorEq,Nat.reduceEqDiff,Nat.reduceAdd,Nat.reduceMul,Nat.reduceLT,Nat.reduceSub,Int.reduceLT,Int.reduceLE,Int.reduceEq,Int.reduceNe,Int.reduceSub,Int.reduceAdd,Int.reduceMul,Int.reduceBEq,Int.reduceBNe,Int.reduceGT,Int.reduceGE,Nat.reduceGT,Int.reduceToNat,Int.reduceNeg,Nat.reduceLeDiff,Nat.reduceBEq,Nat.reduceBneDiff,Value.cells, st, implies_true]
    refine ⟨_, ?_, acc ++ [x], y, κ3, yb, yc, f, rfl, rfl, (((eG.trans (Ext.le le6)).trans (e7.mono fun c h => h.elim)).trans (Ext.le le8)).trans e3, sy, ?_, by omega, ?_, ?_⟩
    · omega
    · rw [← List.append_assoc]; exact R3
    · rw [eP, List.append_assoc]; rfl
    · simp only [List.length_append, List.length_singleton]; omega
end Go.Bb
/- Contracts: a journal opened. -/
namespace Go.Bb
set_option linter.unusedSimpArgs false
set_option linter.unusedVariables false
set_option maxRecDepth 20000
set_option maxHeartbeats 2000000

def openL : Nat → JF → DiskF → Nat → JF × DiskF
  | 0, J, D, _ => (J, D)
  | f + 1, J, D, p => if (readPartF J D p).2.2 = true then openL f (readPartF J D p).1 (readPartF J D p).2.1 (p + 1) else (J, D)
def openD (J : JF) (D : DiskF) : DiskF := if 0 < J.turn then tidyF (J.turn - 1) 64 (dropF D newN).1 0 else (dropF D newN).1
def openF (D : DiskF) : Option JF × DiskF × Nat :=
  if (readBaseF { lives := D.lives } D).2 = 0 then
    (some (openL 63 (readBaseF { lives := D.lives } D).1 (openD (readBaseF { lives := D.lives } D).1 D) 0).1, (openL 63 (readBaseF { lives := D.lives } D).1 (openD (readBaseF { lives := D.lives } D).1 D) 0).2, 0)
  else (none, D, (readBaseF { lives := D.lives } D).2)
theorem look_turn {L : Files} {s t : List UInt8} {F : FileF} (h : lookF L t = none) : lookF (turnF' L s F) t = none := by
  unfold lookF turnF' at *
  rw [Option.map_eq_none_iff, List.find?_eq_none] at *
  intro x hx
  obtain ⟨y, hy, rfl⟩ := List.mem_map.1 hx
  have := h y hy
  split <;> simpa using this
theorem sync_look {D : DiskF} {s t : List UInt8} (h : lookF D.files t = none) : lookF (syncF D s).1.files t = none := by
  unfold syncF
  split
  · split
    · exact h
    · exact look_turn h
  · exact h
theorem sync_ok {D : DiskF} {n : Nat} (h : D.okW n) (nd : D.nd) (s : List UInt8) : (syncF D s).1.okW n := by
  unfold syncF
  split
  · split
    · exact h
    · rename_i F hF
      refine ⟨?_, ?_, h.2.2⟩
      · intro x hx
        obtain ⟨y, hy, rfl⟩ := List.mem_map.1 hx
        have := h.1 y hy
        split
        · exact ⟨by simp [FileF.sync], this.2⟩
        · exact this
      · show ((sizeF (turnF' D.files s F.sync) : Nat) : Int) ≤ D.room
        rw [turn_size (k := 0) nd hF (by simp [FileF.size, FileF.all, FileF.sync])]
        exact h.2.1
  · exact h
theorem tidy_ok {T n : Nat} : ∀ (f : Nat) {D : DiskF} (p : Nat), D.okW n → (tidyF T f D p).okW n
  | 0, _, _, h => h
  | f + 1, D, p, h => by
    unfold tidyF
    split
    · exact tidy_ok f (p + 1) (drop_ok h _)
    · exact h
theorem tidy_look {T : Nat} {t : List UInt8} : ∀ (f : Nat) {D : DiskF} (p : Nat), lookF D.files t = none → lookF (tidyF T f D p).files t = none
  | 0, _, _, h => h
  | f + 1, D, p, h => by
    unfold tidyF
    split
    · exact tidy_look f (p + 1) (drop_look h)
    · exact h
theorem readPart_turn (J : JF) (D : DiskF) (p : Nat) : (readPartF J D p).1.turn = J.turn := by
  unfold readPartF; split <;> rfl
theorem readPart_look {J : JF} {D : DiskF} {p : Nat} {t : List UInt8} (h : lookF D.files t = none) : lookF (readPartF J D p).2.1.files t = none := by
  unfold readPartF
  split
  · exact sync_look h
  · exact h
theorem readPart_ok {J : JF} {D : DiskF} {p n : Nat} (h : D.okW n) (nd : D.nd) : (readPartF J D p).2.1.okW n := by
  unfold readPartF
  split
  · exact sync_ok h nd _
  · exact h
theorem readPart_recs {J : JF} {D : DiskF} (ok : D.ok) (p : Nat) : (readPartF J D p).1.recs.length ≤ J.recs.length + 60000 := by
  unfold readPartF
  split
  · have h1 := readF_len ok (nameF J.turn p)
    have h2 := parseF_len (readF D (nameF J.turn p)).1.length (readF D (nameF J.turn p)).1
    simp only [List.length_append]
    omega
  · simp
theorem readPart_none {J : JF} {D : DiskF} {p : Nat} (h : lookF D.files (nameF J.turn p) = none) : (readPartF J D p).2.2 = false := by
  have : (readF D (nameF J.turn p)).2 ≠ 0 := by
    unfold readF
    split
    · rw [h]; simp
    · rename_i e; exact e
  unfold readPartF
  rw [if_neg this]
theorem readPart_same {J : JF} {D : DiskF} {p : Nat} (h : (readPartF J D p).2.2 = false) : (readPartF J D p).1 = J ∧ (readPartF J D p).2.1 = D := by
  unfold readPartF at *
  split
  · rename_i e; rw [if_pos e] at h; cases h
  · exact ⟨rfl, rfl⟩

theorem readBase_recs (J : JF) (D : DiskF) : (readBaseF J D).1.recs = J.recs := by
  unfold readBaseF
  split
  · split
    · split <;> rfl
    · rfl
  · split <;> rfl
theorem journal_Open_c (E : EnvT tab) {κ : Pal} {H : Heap} {d : Nat} {D : DiskF} {n : Nat} (RD : DiskR κ H d D) (on : D.on = true) (ok : D.okW n) (hn : n ≤ 100000) (hT : (readBaseF { lives := D.lives } D).1.turn < 64)
    (h1 : 0 < (readBaseF { lives := D.lives } D).1.turn → ∃ P, P < 63 ∧ lookF D.files (nameF ((readBaseF { lives := D.lives } D).1.turn - 1) P) = none) (h2 : ∃ P, P < 62 ∧ lookF D.files (nameF (readBaseF { lives := D.lives } D).1.turn P) = none) :
    ACallN E.toEnv n_journal_Open [ptrV d] H fun r H' => ∃ j κ', H j = none ∧ d ≠ j ∧ Ext (jdC j d) κ H κ' H' ∧ DiskR κ' H' d (openF D).2.1 ∧
      (match (openF D).1 with | some J => r = .tuple #[ptrV j, .int .i64 0] ∧ JouR κ' H' j d J | none => r = .tuple #[.pointer none, .int .i64 ((openF D).2.2 : Nat)]) := by
  refine acall h_journal_Open ir_journal_Open rfl rfl (wpA_sound ?_)
  unfold ir_journal_Open
  simp -implicitDefEqProofs only [zB1,zB2,zB3,zB4,zB5,zB6,zB7,zB8,zB9,zB10,zB11,y00,y01,y02,y03,y04,y05,y06,y07,y08,y09,y0a,y0b,y0c,y0d,y0e,y0f,y0g,y0h,y0i,y0j,y0k,y0l,y0m,y0n,y0o,y0p,y0q,y0r,y0s,y0t,y0u,y0v,y0w,y0x,y0y,y0z,y10,y11,y12,y13,y14,y15,y16,y17,y18,y19,y1a,y1b,y1c,y1d,y1e,y1f,y1g,y1h,y1i,y1j,y1k,y1l,y1m,y1n,y1o,y1p,y1q,y1r,retO,retL,retV,z6i,allV,allP,z6j,z6m,z6n,z6t,z6u,z6v,binV,eqV,unV,oOpt,reduceIte,reduceCtorEq,Nat.reduceEqDiff,Nat.reduceAdd,Nat.reduceMul,Nat.reduceLT,Nat.reduceSub,Int.reduceLT,Int.reduceLE,Int.reduceEq,Int.reduceNe,Int.reduceSub,Int.reduceAdd,Int.reduceMul,Int.reduceBEq,Int.reduceBNe,Int.reduceGT,Int.reduceGE,Nat.reduceGT,Int.reduceToNat,Int.reduceNeg,Nat.reduceLeDiff,Nat.reduceBEq,Nat.reduceBneDiff,Value.cells]
  unfold ir_journal_Open_7
  simp -implicitDefEqProofs only [zB1,zB2,zB3,zB4,zB5,zB6,zB7,zB8,zB9,zB10,zB11,y00,y01,y02,y03,y04,y05,y06,y07,y08,y09,y0a,y0b,y0c,y0d,y0e,y0f,y0g,y0h,y0i,y0j,y0k,y0l,y0m,y0n,y0o,y0p,y0q,y0r,y0s,y0t,y0u,y0v,y0w,y0x,y0y,y0z,y10,y11,y12,y13,y14,y15,y16,y17,y18,y19,y1a,y1b,y1c,y1d,y1e,y1f,y1g,y1h,y1i,y1j,y1k,y1l,y1m,y1n,y1o,y1p,y1q,y1r,retO,retL,retV,z6i,allV,allP,z6j,z6m,z6n,z6t,z6u,z6v,binV,eqV,unV,oOpt,reduceIte,reduceCtorEq,Nat.reduceEqDiff,Nat.reduceAdd,Nat.reduceMul,Nat.reduceLT,Nat.reduceSub,Int.reduceLT,Int.reduceLE,Int.reduceEq,Int.reduceNe,Int.reduceSub,Int.reduceAdd,Int.reduceMul,Int.reduceBEq,Int.reduceBNe,Int.reduceGT,Int.reduceGE,Nat.reduceGT,Int.reduceToNat,Int.reduceNeg,Nat.reduceLeDiff,Nat.reduceBEq,Nat.reduceBneDiff,Value.cells]
  refine (disk_Power_c E RD).mono ?_
  rintro v H1 ⟨rfl, rfl⟩
  simp -implicitDefEqProofs only [zB1,zB2,zB3,zB4,zB5,zB6,zB7,zB8,zB9,zB10,zB11,y00,y01,y02,y03,y04,y05,y06,y07,y08,y09,y0a,y0b,y0c,y0d,y0e,y0f,y0g,y0h,y0i,y0j,y0k,y0l,y0m,y0n,y0o,y0p,y0q,y0r,y0s,y0t,y0u,y0v,y0w,y0x,y0y,y0z,y10,y11,y12,y13,y14,y15,y16,y17,y18,y19,y1a,y1b,y1c,y1d,y1e,y1f,y1g,y1h,y1i,y1j,y1k,y1l,y1m,y1n,y1o,y1p,y1q,y1r,retO,retL,retV,z6i,allV,allP,z6j,z6m,z6n,z6t,z6u,z6v,binV,eqV,unV,oOpt,reduceIte,reduceCtorEq,Nat.reduceEqDiff,Nat.reduceAdd,Nat.reduceMul,Nat.reduceLT,Nat.reduceSub,Int.reduceLT,Int.reduceLE,Int.reduceEq,Int.reduceNe,Int.reduceSub,Int.reduceAdd,Int.reduceMul,Int.reduceBEq,Int.reduceBNe,Int.reduceGT,Int.reduceGE,Nat.reduceGT,Int.reduceToNat,Int.reduceNeg,Nat.reduceLeDiff,Nat.reduceBEq,Nat.reduceBneDiff,Value.cells, on]
  refine (disk_Lives_c E RD).mono ?_
  rintro v H2 ⟨rfl, rfl⟩
  simp -implicitDefEqProofs only [zB1,zB2,zB3,zB4,zB5,zB6,zB7,zB8,zB9,zB10,zB11,y00,y01,y02,y03,y04,y05,y06,y07,y08,y09,y0a,y0b,y0c,y0d,y0e,y0f,y0g,y0h,y0i,y0j,y0k,y0l,y0m,y0n,y0o,y0p,y0q,y0r,y0s,y0t,y0u,y0v,y0w,y0x,y0y,y0z,y10,y11,y12,y13,y14,y15,y16,y17,y18,y19,y1a,y1b,y1c,y1d,y1e,y1f,y1g,y1h,y1i,y1j,y1k,y1l,y1m,y1n,y1o,y1p,y1q,y1r,retO,retL,retV,z6i,allV,allP,z6j,z6m,z6n,z6t,z6u,z6v,binV,eqV,unV,oOpt,reduceIte,reduceCtorEq,Nat.reduceEqDiff,Nat.reduceAdd,Nat.reduceMul,Nat.reduceLT,Nat.reduceSub,Int.reduceLT,Int.reduceLE,Int.reduceEq,Int.reduceNe,Int.reduceSub,Int.reduceAdd,Int.reduceMul,Int.reduceBEq,Int.reduceBNe,Int.reduceGT,Int.reduceGE,Nat.reduceGT,Int.reduceToNat,Int.reduceNeg,Nat.reduceLeDiff,Nat.reduceBEq,Nat.reduceBneDiff,Value.cells]
  intro j hj
  try simp -implicitDefEqProofs only [zB1,zB2,zB3,zB4,zB5,zB6,zB7,zB8,zB9,zB10,zB11,y00,y01,y02,y03,y04,y05,y06,y07,y08,y09,y0a,y0b,y0c,y0d,y0e,y0f,y0g,y0h,y0i,y0j,y0k,y0l,y0m,y0n,y0o,y0p,y0q,y0r,y0s,y0t,y0u,y0v,y0w,y0x,y0y,y0z,y10,y11,y12,y13,y14,y15,y16,y17,y18,y19,y1a,y1b,y1c,y1d,y1e,y1f,y1g,y1h,y1i,y1j,y1k,y1l,y1m,y1n,y1o,y1p,y1q,y1r,retO,retL,retV,z6i,allV,allP,z6j,z6m,z6n,z6t,z6u,z6v,binV,eqV,unV,oOpt,reduceIte,reduceCtorEq,Nat.reduceEqDiff,Nat.reduceAdd,Nat.reduceMul,Nat.reduceLT,Nat.reduceSub,Int.reduceLT,Int.reduceLE,Int.reduceEq,Int.reduceNe,Int.reduceSub,Int.reduceAdd,Int.reduceMul,Int.reduceBEq,Int.reduceBNe,Int.reduceGT,Int.reduceGE,Nat.reduceGT,Int.reduceToNat,Int.reduceNeg,Nat.reduceLeDiff,Nat.reduceBEq,Nat.reduceBneDiff,Value.cells]
  have ne : d ≠ j := by
    obtain ⟨G, r, clk, V⟩ := RD
    exact ne_of_none hj V.qd
  have e0 : Ext (fun _ => False) κ H2 (fun i => if i = j then some (j, j, 7) else κ i) (H2.set j (.own 0 [ptrV d, .int .i64 D.lives, .int .u64 0, .int .i64 0, .bool false, .slice none 0 0, .slice none 0 0, .bool false] 8)) := Ext.new hj _ _
  have RD0 := RD.ext e0 (fun _ _ q => q)
  have RJ0 : JouR (fun i => if i = j then some (j, j, 7) else κ i) (H2.set j (.own 0 [ptrV d, .int .i64 D.lives, .int .u64 0, .int .i64 0, .bool false, .slice none 0 0, .slice none 0 0, .bool false] 8)) j d { lives := D.lives } :=
    ⟨_, _, [], by simp, Heap.set_self _ _ _, Ow.nil _ _ _, Ow.nil _ _ _, rfl, fun i h1 h2 => by simp at h1⟩
  generalize (H2.set j (.own 0 [ptrV d, .int .i64 D.lives, .int .u64 0, .int .i64 0, .bool false, .slice none 0 0, .slice none 0 0, .bool false] 8)) = H3 at e0 RD0 RJ0 ⊢
  generalize (fun i => if i = j then some (j, j, 7) else κ i) = κ3 at e0 RD0 RJ0
  have okD := ok.ok hn
  refine (journal_readBase_c E RJ0 RD0 okD).mono ?_
  rintro v H4 ⟨rfl, κ4, e4, RJ4⟩
  have RD4 := RD0.off e4 ne.symm
  have e04 : Ext (jdC j d) κ H2 κ4 H4 := (e0.mono fun c h => h.elim).trans (ext_jd e4)
  have hrec := readBase_recs { lives := D.lives } D
  unfold openF
  generalize readBaseF { lives := D.lives } D = X at RJ4 hT h1 h2 hrec ⊢
  obtain ⟨J1, eb⟩ := X
  simp only at RJ4 hT h1 h2 hrec ⊢
  by_cases z : ¬ eb = 0
  · have z' : ¬ ((eb : Nat) : Int) = 0 := by omega
    simp only [z, if_false]
    simp -implicitDefEqProofs only [zB1,zB2,zB3,zB4,zB5,zB6,zB7,zB8,zB9,zB10,zB11,y00,y01,y02,y03,y04,y05,y06,y07,y08,y09,y0a,y0b,y0c,y0d,y0e,y0f,y0g,y0h,y0i,y0j,y0k,y0l,y0m,y0n,y0o,y0p,y0q,y0r,y0s,y0t,y0u,y0v,y0w,y0x,y0y,y0z,y10,y11,y12,y13,y14,y15,y16,y17,y18,y19,y1a,y1b,y1c,y1d,y1e,y1f,y1g,y1h,y1i,y1j,y1k,y1l,y1m,y1n,y1o,y1p,y1q,y1r,retO,retL,retV,z6i,allV,allP,z6j,z6m,z6n,z6t,z6u,z6v,binV,eqV,unV,oOpt,reduceIte,reduceCtorEq,Nat.reduceEqDiff,Nat.reduceAdd,Nat.reduceMul,Nat.reduceLT,Nat.reduceSub,Int.reduceLT,Int.reduceLE,Int.reduceEq,Int.reduceNe,Int.reduceSub,Int.reduceAdd,Int.reduceMul,Int.reduceBEq,Int.reduceBNe,Int.reduceGT,Int.reduceGE,Nat.reduceGT,Int.reduceToNat,Int.reduceNeg,Nat.reduceLeDiff,Nat.reduceBEq,Nat.reduceBneDiff,Value.cells, z']
    exact ⟨j, κ4, hj, ne, e04, RD4⟩
  have z := Decidable.not_not.1 z
  subst z
  simp only [if_true]
  simp -implicitDefEqProofs only [zB1,zB2,zB3,zB4,zB5,zB6,zB7,zB8,zB9,zB10,zB11,y00,y01,y02,y03,y04,y05,y06,y07,y08,y09,y0a,y0b,y0c,y0d,y0e,y0f,y0g,y0h,y0i,y0j,y0k,y0l,y0m,y0n,y0o,y0p,y0q,y0r,y0s,y0t,y0u,y0v,y0w,y0x,y0y,y0z,y10,y11,y12,y13,y14,y15,y16,y17,y18,y19,y1a,y1b,y1c,y1d,y1e,y1f,y1g,y1h,y1i,y1j,y1k,y1l,y1m,y1n,y1o,y1p,y1q,y1r,retO,retL,retV,z6i,allV,allP,z6j,z6m,z6n,z6t,z6u,z6v,binV,eqV,unV,oOpt,reduceIte,reduceCtorEq,Nat.reduceEqDiff,Nat.reduceAdd,Nat.reduceMul,Nat.reduceLT,Nat.reduceSub,Int.reduceLT,Int.reduceLE,Int.reduceEq,Int.reduceNe,Int.reduceSub,Int.reduceAdd,Int.reduceMul,Int.reduceBEq,Int.reduceBNe,Int.reduceGT,Int.reduceGE,Nat.reduceGT,Int.reduceToNat,Int.reduceNeg,Nat.reduceLeDiff,Nat.reduceBEq,Nat.reduceBneDiff,Value.cells]
  refine (disk_Drop_c E RD4 newN (by simp [newN])).mono ?_
  rintro v H5 ⟨rfl, κ5, e5, RD5⟩
  have RJ5 := RJ4.apart e5 ne
  have e05 := e04.trans (ext_dj e5)
  have ok5 : (dropF D newN).1.okW n := drop_ok ok _
  have tail : ∀ (κ6 : Pal) (H6 : Heap) (D6 : DiskF), Ext (jdC j d) κ H2 κ6 H6 → JouR κ6 H6 j d J1 → DiskR κ6 H6 d D6 → D6.okW n → (∃ P, P < 62 ∧ lookF D6.files (nameF J1.turn P) = none) → ∀ (Q : Value → Heap → Prop),
      (∀ κ' H', Ext (jdC j d) κ H2 κ' H' → DiskR κ' H' d (openL 63 J1 D6 0).2 → JouR κ' H' j d (openL 63 J1 D6 0).1 → Q (.tuple #[ptrV j, .int .i64 0]) H') →
      AW E.toEnv 40 (.loop (.seq (.seq (.ops [
     ⟨(some 34), .mv (.t 4), none⟩,
     ⟨(some 35), .mv (.t 6), none⟩,
     ⟨(some 36), .call 213 [.t 34, .t 35], none⟩] [4, 6, 36])
 (.cond (.t 36)
 .skip
 (.exit 0)))
 (.seq (.block 1 .skip)
 (.ops [
     ⟨(some 37), .mv (.t 6), none⟩,
     ⟨(some 38), .bin .add (.t 37) (.c (.int .i64 1)), none⟩,
     ⟨(some 6), .mv (.t 38), none⟩] [4, 6])))) (qBlock 0 (qSeq (wpA E.toEnv 40 (.seq (.ops [
   ⟨(some 39), .mv (.t 4), none⟩,
   ⟨(some 2), .mv (.t 39), none⟩,
   ⟨(some 3), .mv (.c (.int .i64 0)), none⟩] [2, 3])
 .ret) (qRet [.tmp 2, .tmp 3] Q)) (qRet [.tmp 2, .tmp 3] Q))) (tl [(4, ptrV j), (6, .int .i64 0)]) H6 := by
    rintro κ6 H6 D6 e6 RJ6 RD6 ok6 ⟨P, hP, hl⟩ Q hQ
    generalize hOF : openL 63 J1 D6 0 = OF at hQ
    refine wp_loop' (fun m t G => ∃ (p : Nat) (κ' : Pal) (Jp : JF) (Dp : DiskF), t = tl [(4, ptrV j), (6, .int .i64 p)] ∧ p ≤ P ∧ m = P - p ∧ Ext (jdC j d) κ H2 κ' G ∧ JouR κ' G j d Jp ∧ DiskR κ' G d Dp ∧ Dp.okW n ∧ lookF Dp.files (nameF J1.turn P) = none ∧ Jp.turn = J1.turn ∧ Jp.recs.length ≤ 60000 * p ∧ OF = openL (63 - p) Jp Dp p) P
      ⟨0, κ6, J1, D6, rfl, by omega, by omega, e6, RJ6, RD6, ok6, hl, rfl, by simp [hrec], hOF.symm⟩ ?_
    rintro m t G ⟨p, κ', Jp, Dp, rfl, hp, rfl, eG, RG, RDG, okp, hlp, tp, rp, eO⟩
    have w1 : IntKind.i64.wrap ((p : Int) + 1) = ((p + 1 : Nat) : Int) := wrapN (by omega)
    have okDp := okp.ok hn
    simp -implicitDefEqProofs only [zB1,zB2,zB3,zB4,zB5,zB6,zB7,zB8,zB9,zB10,zB11,y00,y01,y02,y03,y04,y05,y06,y07,y08,y09,y0a,y0b,y0c,y0d,y0e,y0f,y0g,y0h,y0i,y0j,y0k,y0l,y0m,y0n,y0o,y0p,y0q,y0r,y0s,y0t,y0u,y0v,y0w,y0x,y0y,y0z,y10,y11,y12,y13,y14,y15,y16,y17,y18,y19,y1a,y1b,y1c,y1d,y1e,y1f,y1g,y1h,y1i,y1j,y1k,y1l,y1m,y1n,y1o,y1p,y1q,y1r,retO,retL,retV,z6i,allV,allP,z6j,z6m,z6n,z6t,z6u,z6v,binV,eqV,unV,oOpt,reduceIte,reduceCtorEq,Nat.reduceEqDiff,Nat.reduceAdd,Nat.reduceMul,Nat.reduceLT,Nat.reduceSub,Int.reduceLT,Int.reduceLE,Int.reduceEq,Int.reduceNe,Int.reduceSub,Int.reduceAdd,Int.reduceMul,Int.reduceBEq,Int.reduceBNe,Int.reduceGT,Int.reduceGE,Nat.reduceGT,Int.reduceToNat,Int.reduceNeg,Nat.reduceLeDiff,Nat.reduceBEq,Nat.reduceBneDiff,Value.cells]
    refine (journal_readPart_c E RG RDG ne okDp (by omega) p (by omega) (by omega)).mono ?_
    rintro v G1 ⟨rfl, κ2, e2, R2, RD2⟩
    obtain ⟨f, hf⟩ : ∃ f, 63 - p = f + 1 := ⟨62 - p, by omega⟩
    rw [hf, openL] at eO
    have rr := readPart_recs (J := Jp) okDp p
    have lk := readPart_look (J := Jp) (p := p) hlp
    have okq := readPart_ok (J := Jp) (p := p) okp RDG.nd
    by_cases z : (readPartF Jp Dp p).2.2 = true
    · rw [if_pos z] at eO
      have hpP : p < P := by
        by_cases h : p = P
        · subst h
          rw [← tp] at hlp
          rw [readPart_none hlp] at z; cases z
        · omega
      simp -implicitDefEqProofs only [zB1,zB2,zB3,zB4,zB5,zB6,zB7,zB8,zB9,zB10,zB11,y00,y01,y02,y03,y04,y05,y06,y07,y08,y09,y0a,y0b,y0c,y0d,y0e,y0f,y0g,y0h,y0i,y0j,y0k,y0l,y0m,y0n,y0o,y0p,y0q,y0r,y0s,y0t,y0u,y0v,y0w,y0x,y0y,y0z,y10,y11,y12,y13,y14,y15,y16,y17,y18,y19,y1a,y1b,y1c,y1d,y1e,y1f,y1g,y1h,y1i,y1j,y1k,y1l,y1m,y1n,y1o,y1p,y1q,y1r,retO,retL,retV,z6i,allV,allP,z6j,z6m,z6n,z6t,z6u,z6v,binV,eqV,unV,oOpt,reduceIte,reduceCtorEq,Nat.reduceEqDiff,Nat.reduceAdd,Nat.reduceMul,Nat.reduceLT,Nat.reduceSub,Int.reduceLT,Int.reduceLE,Int.reduceEq,Int.reduceNe,Int.reduceSub,Int.reduceAdd,Int.reduceMul,Int.reduceBEq,Int.reduceBNe,Int.reduceGT,Int.reduceGE,Nat.reduceGT,Int.reduceToNat,Int.reduceNeg,Nat.reduceLeDiff,Nat.reduceBEq,Nat.reduceBneDiff,Value.cells, z, w1]
      refine ⟨_, ?_, p + 1, κ2, _, _, rfl, by omega, rfl, eG.trans e2, R2, RD2, okq, lk, ?_, by omega, ?_⟩
      · omega
      · rw [readPart_turn, tp]
      · rw [eO]; congr 1; omega
    · have z' : (readPartF Jp Dp p).2.2 = false := by simpa using z
      rw [if_neg z] at eO
      obtain ⟨s1, s2⟩ := readPart_same z'
      rw [s1] at R2
      rw [s2] at RD2
      simp -implicitDefEqProofs only [zB1,zB2,zB3,zB4,zB5,zB6,zB7,zB8,zB9,zB10,zB11,y00,y01,y02,y03,y04,y05,y06,y07,y08,y09,y0a,y0b,y0c,y0d,y0e,y0f,y0g,y0h,y0i,y0j,y0k,y0l,y0m,y0n,y0o,y0p,y0q,y0r,y0s,y0t,y0u,y0v,y0w,y0x,y0y,y0z,y10,y11,y12,y13,y14,y15,y16,y17,y18,y19,y1a,y1b,y1c,y1d,y1e,y1f,y1g,y1h,y1i,y1j,y1k,y1l,y1m,y1n,y1o,y1p,y1q,y1r,retO,retL,retV,z6i,allV,allP,z6j,z6m,z6n,z6t,z6u,z6v,binV,eqV,unV,oOpt,reduceIte,reduceCtorEq,Nat.reduceEqDiff,Nat.reduceAdd,Nat.reduceMul,Nat.reduceLT,Nat.reduceSub,Int.reduceLT,Int.reduceLE,Int.reduceEq,Int.reduceNe,Int.reduceSub,Int.reduceAdd,Int.reduceMul,Int.reduceBEq,Int.reduceBNe,Int.reduceGT,Int.reduceGE,Nat.reduceGT,Int.reduceToNat,Int.reduceNeg,Nat.reduceLeDiff,Nat.reduceBEq,Nat.reduceBneDiff,Value.cells, z']
      refine hQ κ2 G1 (eG.trans e2) ?_ ?_
      · rw [eO]; exact RD2
      · rw [eO]; exact R2
  unfold ir_journal_Open_22
  obtain ⟨vb, vr, rs, RV5⟩ := RJ5
  have j2 : hcell H5 ⟨j, 2, none⟩ = some (.int .u64 (J1.turn : Nat)) := by rw [hcell_at RV5.2.1 (by simp)]; rfl
  by_cases ht : 0 < J1.turn
  · have ht' : (0 : Int) < J1.turn := by omega
    have w3 : IntKind.u64.wrap ((J1.turn : Int) - 1) = ((J1.turn - 1 : Nat) : Int) := by
      rw [show (J1.turn : Int) - 1 = ((J1.turn - 1 : Nat) : Int) by omega, wrap_u64, ofInt_nat, BitVec.toNat_ofNat]; omega
    obtain ⟨P1, hP1, hl1⟩ := h1 ht
    obtain ⟨P2, hP2, hl2⟩ := h2
    simp -implicitDefEqProofs only [zB1,zB2,zB3,zB4,zB5,zB6,zB7,zB8,zB9,zB10,zB11,y00,y01,y02,y03,y04,y05,y06,y07,y08,y09,y0a,y0b,y0c,y0d,y0e,y0f,y0g,y0h,y0i,y0j,y0k,y0l,y0m,y0n,y0o,y0p,y0q,y0r,y0s,y0t,y0u,y0v,y0w,y0x,y0y,y0z,y10,y11,y12,y13,y14,y15,y16,y17,y18,y19,y1a,y1b,y1c,y1d,y1e,y1f,y1g,y1h,y1i,y1j,y1k,y1l,y1m,y1n,y1o,y1p,y1q,y1r,retO,retL,retV,z6i,allV,allP,z6j,z6m,z6n,z6t,z6u,z6v,binV,eqV,unV,oOpt,reduceIte,reduceCtorEq,Nat.reduceEqDiff,Nat.reduceAdd,Nat.reduceMul,Nat.reduceLT,Nat.reduceSub,Int.reduceLT,Int.reduceLE,Int.reduceEq,Int.reduceNe,Int.reduceSub,Int.reduceAdd,Int.reduceMul,Int.reduceBEq,Int.reduceBNe,Int.reduceGT,Int.reduceGE,Nat.reduceGT,Int.reduceToNat,Int.reduceNeg,Nat.reduceLeDiff,Nat.reduceBEq,Nat.reduceBneDiff,Value.cells, j2, ht', w3]
    refine (journal_tidy_c E ⟨vb, vr, rs, RV5⟩ RD5 ne (J1.turn - 1) (by omega) hP1 (drop_look hl1)).mono ?_
    rintro v H6 ⟨κ6, e6, RJ6, RD6⟩
    simp -implicitDefEqProofs only [zB1,zB2,zB3,zB4,zB5,zB6,zB7,zB8,zB9,zB10,zB11,y00,y01,y02,y03,y04,y05,y06,y07,y08,y09,y0a,y0b,y0c,y0d,y0e,y0f,y0g,y0h,y0i,y0j,y0k,y0l,y0m,y0n,y0o,y0p,y0q,y0r,y0s,y0t,y0u,y0v,y0w,y0x,y0y,y0z,y10,y11,y12,y13,y14,y15,y16,y17,y18,y19,y1a,y1b,y1c,y1d,y1e,y1f,y1g,y1h,y1i,y1j,y1k,y1l,y1m,y1n,y1o,y1p,y1q,y1r,retO,retL,retV,z6i,allV,allP,z6j,z6m,z6n,z6t,z6u,z6v,binV,eqV,unV,oOpt,reduceIte,reduceCtorEq,Nat.reduceEqDiff,Nat.reduceAdd,Nat.reduceMul,Nat.reduceLT,Nat.reduceSub,Int.reduceLT,Int.reduceLE,Int.reduceEq,Int.reduceNe,Int.reduceSub,Int.reduceAdd,Int.reduceMul,Int.reduceBEq,Int.reduceBNe,Int.reduceGT,Int.reduceGE,Nat.reduceGT,Int.reduceToNat,Int.reduceNeg,Nat.reduceLeDiff,Nat.reduceBEq,Nat.reduceBneDiff,Value.cells]
    have eo : openD J1 D = tidyF (J1.turn - 1) 64 (dropF D newN).1 0 := by unfold openD; rw [if_pos ht]
    rw [← eo] at RD6
    refine tail κ6 H6 (openD J1 D) (e05.trans (ext_dj e6)) RJ6 RD6 (by rw [eo]; exact tidy_ok _ _ ok5) ⟨P2, hP2, by rw [eo]; exact tidy_look _ _ (drop_look hl2)⟩ _ ?_
    intro κ' H' a b c
    exact ⟨j, κ', hj, ne, a, b, rfl, c⟩
  · have ht' : ¬ (0 : Int) < J1.turn := by omega
    simp -implicitDefEqProofs only [zB1,zB2,zB3,zB4,zB5,zB6,zB7,zB8,zB9,zB10,zB11,y00,y01,y02,y03,y04,y05,y06,y07,y08,y09,y0a,y0b,y0c,y0d,y0e,y0f,y0g,y0h,y0i,y0j,y0k,y0l,y0m,y0n,y0o,y0p,y0q,y0r,y0s,y0t,y0u,y0v,y0w,y0x,y0y,y0z,y10,y11,y12,y13,y14,y15,y16,y17,y18,y19,y1a,y1b,y1c,y1d,y1e,y1f,y1g,y1h,y1i,y1j,y1k,y1l,y1m,y1n,y1o,y1p,y1q,y1r,retO,retL,retV,z6i,allV,allP,z6j,z6m,z6n,z6t,z6u,z6v,binV,eqV,unV,oOpt,reduceIte,reduceCtorEq,Nat.reduceEqDiff,Nat.reduceAdd,Nat.reduceMul,Nat.reduceLT,Nat.reduceSub,Int.reduceLT,Int.reduceLE,Int.reduceEq,Int.reduceNe,Int.reduceSub,Int.reduceAdd,Int.reduceMul,Int.reduceBEq,Int.reduceBNe,Int.reduceGT,Int.reduceGE,Nat.reduceGT,Int.reduceToNat,Int.reduceNeg,Nat.reduceLeDiff,Nat.reduceBEq,Nat.reduceBneDiff,Value.cells, j2, ht']
    obtain ⟨P2, hP2, hl2⟩ := h2
    have eo : openD J1 D = (dropF D newN).1 := by unfold openD; rw [if_neg ht]
    rw [← eo] at RD5 ok5
    refine tail κ5 H5 (openD J1 D) e05 ⟨vb, vr, rs, RV5⟩ RD5 ok5 ⟨P2, hP2, by rw [eo]; exact drop_look hl2⟩ _ ?_
    intro κ' H' a b c
    exact ⟨j, κ', hj, ne, a, b, rfl, c⟩
end Go.Bb
/- The reckoner with blocks mixed at once. -/
namespace Go.Bb
set_option linter.unusedSimpArgs false
set_option linter.unusedVariables false
set_option maxRecDepth 20000

def nextX (b : List UInt8) (ws : List U32) (i : Nat) : U32 :=
  if i < 16 then (fromBigF ((b.drop (4 * i)).take 4)).setWidth 32
  else ws.getD 15 0 + (turnF (ws.getD 14 0) 7 ^^^ turnF (ws.getD 14 0) 18 ^^^ ws.getD 14 0 >>> 3) + ws.getD 6 0 + (turnF (ws.getD 1 0) 17 ^^^ turnF (ws.getD 1 0) 19 ^^^ ws.getD 1 0 >>> 10)
def schedR (b : List UInt8) : Nat → List U32
  | 0 => []
  | i + 1 => nextX b (schedR b i) i :: schedR b i
theorem schedR_get (b : List UInt8) : ∀ i j, j < i → (schedR b i).getD (i - 1 - j) 0 = schedW b i j
  | 0, j, h => by omega
  | i + 1, j, h => by
      have ih := schedR_get b i
      unfold schedR schedW updU
      by_cases e : j = i
      · subst e
        rw [if_pos rfl, Nat.add_sub_cancel, Nat.sub_self, List.getD_cons_zero]
        unfold nextX schedX
        by_cases h16 : j < 16
        · rw [if_pos h16, if_pos h16]
        · rw [if_neg h16, if_neg h16]
          have g : ∀ k, k < j → (schedR b j).getD k 0 = schedW b j (j - (k + 1)) := fun k hk => by
            have := ih (j - (k + 1)) (by omega)
            rwa [show j - 1 - (j - (k + 1)) = k from by omega] at this
          rw [g 15 (by omega), g 14 (by omega), g 6 (by omega), g 1 (by omega)]
      · rw [if_neg e, Nat.add_sub_cancel, show i - j = (i - 1 - j) + 1 from by omega, List.getD_cons_succ]
        exact ih j (by omega)
theorem schedR_64 (b : List UInt8) (i : Nat) (h : i < 64) : (schedR b 64).getD (63 - i) 0 = schedW b 64 i := schedR_get b 64 i h

structure S8 where
  a : U32
  b : U32
  c : U32
  d : U32
  e : U32
  f : U32
  g : U32
  h : U32
def S8.get (s : S8) : Nat → U32
  | 0 => s.a
  | 1 => s.b
  | 2 => s.c
  | 3 => s.d
  | 4 => s.e
  | 5 => s.f
  | 6 => s.g
  | 7 => s.h
  | _ => 0
def S8.tt (K wr : List U32) (s : S8) (i : Nat) : U32 := s.h + (turnF s.e 6 ^^^ turnF s.e 11 ^^^ turnF s.e 25) + ((s.e &&& s.f) ^^^ (~~~s.e &&& s.g)) + K.getD i 0 + wr.getD (63 - i) 0
def S8.step (K wr : List U32) (s : S8) (i : Nat) : S8 :=
  ⟨S8.tt K wr s i + (turnF s.a 2 ^^^ turnF s.a 13 ^^^ turnF s.a 22) + ((s.a &&& s.b) ^^^ (s.a &&& s.c) ^^^ (s.b &&& s.c)), s.a, s.b, s.c, s.d + S8.tt K wr s i, s.e, s.f, s.g⟩
def S8.run (K wr : List U32) (s : S8) : Nat → S8
  | 0 => s
  | i + 1 => S8.step K wr (S8.run K wr s i) i
def S8.ofL (H : List U32) : S8 := ⟨H.getD 0 0, H.getD 1 0, H.getD 2 0, H.getD 3 0, H.getD 4 0, H.getD 5 0, H.getD 6 0, H.getD 7 0⟩
theorem S8.run_get (K H : List U32) (b : List UInt8) : ∀ i, i ≤ 64 → ∀ j, j < 8 → (S8.run K (schedR b 64) (S8.ofL H) i).get j = mixV (fun j => K.getD j 0) (schedW b 64) (fun j => H.getD j 0) i j
  | 0, _, j, hj => by
      match j, hj with
      | 0, _ => rfl
      | 1, _ => rfl
      | 2, _ => rfl
      | 3, _ => rfl
      | 4, _ => rfl
      | 5, _ => rfl
      | 6, _ => rfl
      | 7, _ => rfl
  | i + 1, hi, j, hj => by
      have ih := S8.run_get K H b i (by omega)
      have a0 := ih 0 (by omega)
      have a1 := ih 1 (by omega)
      have a2 := ih 2 (by omega)
      have a3 := ih 3 (by omega)
      have a4 := ih 4 (by omega)
      have a5 := ih 5 (by omega)
      have a6 := ih 6 (by omega)
      have a7 := ih 7 (by omega)
      have hw := schedR_64 b i (by omega)
      unfold S8.run mixV
      generalize S8.run K (schedR b 64) (S8.ofL H) i = s at a0 a1 a2 a3 a4 a5 a6 a7
      generalize mixV (fun j => K.getD j 0) (schedW b 64) (fun j => H.getD j 0) i = v at a0 a1 a2 a3 a4 a5 a6 a7
      simp only [S8.get] at a0 a1 a2 a3 a4 a5 a6 a7
      match j, hj with
      | 0, _ => simp only [S8.get, S8.step, S8.tt, mixX, mixT, mixR, mixM, a0, a1, a2, a3, a4, a5, a6, a7, hw]
      | 1, _ => exact a0
      | 2, _ => exact a1
      | 3, _ => exact a2
      | 4, _ => simp only [S8.get, S8.step, S8.tt, mixX, mixT, mixR, mixM, a0, a1, a2, a3, a4, a5, a6, a7, hw]
      | 5, _ => exact a4
      | 6, _ => exact a5
      | 7, _ => exact a6
/-- A block mixed in, as a row. -/
def mixL (K H : List U32) (b : List UInt8) : List U32 :=
  let s := S8.run K (schedR b 64) (S8.ofL H) 64
  [H.getD 0 0 + s.a, H.getD 1 0 + s.b, H.getD 2 0 + s.c, H.getD 3 0 + s.d, H.getD 4 0 + s.e, H.getD 5 0 + s.f, H.getD 6 0 + s.g, H.getD 7 0 + s.h]
def wordsU (l : List U32) : List Value := l.map fun w => .int .u32 (.ofNat w.toNat)
theorem mixL_row (K H : List U32) (b : List UInt8) : wordsU (mixL K H b) = rowU (mixF (fun j => K.getD j 0) (fun j => H.getD j 0) b) 8 := by
  have h := S8.run_get K H b 64 (Nat.le_refl _)
  unfold mixL mixF
  generalize S8.run K (schedR b 64) (S8.ofL H) 64 = s at h
  have e : rowU (fun j => H.getD j 0 + mixV (fun j => K.getD j 0) (schedW b 64) (fun j => H.getD j 0) 64 j) 8 = rowU (fun j => H.getD j 0 + s.get j) 8 := rowU_congr fun j hj => by rw [h j hj]
  rw [e]; rfl

/-! ### rows of words and bytes, read -/
theorem u8V_of' {n : Nat} (h : n < 256) : u8V (UInt8.ofNat n) = .int .u8 (.ofNat n) := by
  unfold u8V
  have : (UInt8.ofNat n).toNat = n := by rw [UInt8.toNat_ofNat']; omega
  rw [this]; rfl
def toW : List Value → Option (List U32)
  | [] => some []
  | .int .u32 (.ofNat x) :: t => bif Nat.blt x 4294967296 then (toW t).map (BitVec.ofNat 32 x :: ·) else none
  | _ => none
def toB : List Value → Option (List UInt8)
  | [] => some []
  | .int .u8 (.ofNat x) :: t => bif Nat.blt x 256 then (toB t).map (UInt8.ofNat x :: ·) else none
  | _ => none
theorem toW_eq : ∀ {l : List Value} {w : List U32}, toW l = some w → l = wordsU w ∧ l.all isInt = true
  | [], w, h => by simp only [toW, Option.some.injEq] at h; subst h; exact ⟨rfl, rfl⟩
  | x :: t, w, h => by
      unfold toW at h
      split at h
      · rename_i e; cases e
      · rename_i n t' e
        cases e
        cases hb : Nat.blt n 4294967296 with
        | false => rw [hb] at h; cases h
        | true =>
          rw [hb] at h
          simp only [cond_true, Option.map_eq_some_iff] at h
          obtain ⟨w', h1, rfl⟩ := h
          obtain ⟨g1, g2⟩ := toW_eq h1
          have hn : n < 4294967296 := Nat.le_of_ble_eq_true hb
          refine ⟨?_, by simp only [List.all_cons, isInt, Bool.true_and]; exact g2⟩
          unfold wordsU
          rw [List.map_cons]
          have : (BitVec.ofNat 32 n).toNat = n := by simp; omega
          rw [this]
          unfold wordsU at g1
          rw [← g1]
      · cases h
theorem toB_eq : ∀ {l : List Value} {w : List UInt8}, toB l = some w → l = w.map u8V ∧ l.all isInt = true
  | [], w, h => by simp only [toB, Option.some.injEq] at h; subst h; exact ⟨rfl, rfl⟩
  | x :: t, w, h => by
      unfold toB at h
      split at h
      · rename_i e; cases e
      · rename_i n t' e
        cases e
        cases hb : Nat.blt n 256 with
        | false => rw [hb] at h; cases h
        | true =>
          rw [hb] at h
          simp only [cond_true, Option.map_eq_some_iff] at h
          obtain ⟨w', h1, rfl⟩ := h
          obtain ⟨g1, g2⟩ := toB_eq h1
          have hn : n < 256 := Nat.le_of_ble_eq_true hb
          refine ⟨?_, by simp only [List.all_cons, isInt, Bool.true_and]; exact g2⟩
          rw [List.map_cons]
          have : u8V (UInt8.ofNat n) = .int .u8 (.ofNat n) := u8V_of' hn
          rw [this, ← g1]
      · cases h
end Go.Bb
/- The reckoner with blocks mixed at once: it is sound. -/
namespace Go.Bb
set_option linter.unusedSimpArgs false
set_option linter.unusedVariables false
set_option maxRecDepth 20000

noncomputable def mixG (hs : Array Value) (a : Addr) (p : Addr) (m : VM) : RV :=
  match toW hs.toList, cellsE m a (64 * 1), cellsE m p 64 with
  | some H, some bs, some ks =>
    match toB bs, toW ks with
    | some B, some K => bif Nat.beq H.length 8 then some (.agg (wordsU (mixL K H B)).toArray, m) else none
    | _, _ => none
  | _, _, _ => none
noncomputable def mixH (args : List Value) (m : VM) : RV :=
  match args with
  | [.agg hs, .slice (some a) 64 c, .pointer (some p)] => mixG hs a p m
  | _ => none
noncomputable def mixHk : Hooks := fun n => bif Nat.beq n n_sha_mix then some mixH else none

theorem wordsU_row (l : List U32) : wordsU l = rowU (fun j => l.getD j 0) l.length := by
  apply List.ext_getElem
  · simp [wordsU, rowU]
  · intro j a b
    rw [rowU_get]
    have : j < l.length := by simpa [wordsU] using a
    simp [wordsU, this]

theorem VR.agg_ints {fid : Nat → Option FuncId} {r : Rr} {a : Array Value} {v' : Value} (h : VR fid r (.agg a) v') (hi : a.toList.all isInt = true) : v' = .agg a := by
  cases h with
  | one h =>
    cases h with
    | one h => cases h with | base h => cases h with | plain hp => cases hp
    | agg h =>
      have := all2_ints h hi
      rw [Array.toList_inj] at this
      rw [this]

theorem all2_refl_ints {fid : Nat → Option FuncId} {r : Rr} : ∀ {l : List Value}, l.all isInt = true → All2 (VR0 fid r) l l
  | [], _ => .nil
  | x :: l, h => by
      simp only [List.all_cons, Bool.and_eq_true] at h
      refine .cons ?_ (all2_refl_ints h.2)
      have h2 := h.1
      cases x <;> try (cases h2; done)
      exact .base (.plain rfl)
theorem wordsU_ints (l : List U32) : (wordsU l).all isInt = true := by simp [wordsU, isInt]
theorem HS.le {fid : Nat → Option FuncId} {h0 : Heap} {r : Rr} {m : VM} {h h' : Heap} (p : HS fid h0 r m h) (x : h.le h') : HS fid h0 r m h' where
  blk := fun b y hy => by obtain ⟨k, z, a, b', c⟩ := p.blk b y hy; exact ⟨k, z, a, x _ _ b', c⟩
  inj := p.inj
  old := fun b y hy => x _ _ (p.old b y hy)
  own := p.own
  fresh := p.fresh
  room := p.room

theorem mixHk_ok (E : EnvT tab) : HooksOk E.toEnv mixHk := by
  intro h0 n f hf
  unfold mixHk at hf
  cases hn : Nat.beq n n_sha_mix with
  | false => rw [hn] at hf; cases hf
  | true =>
    rw [hn] at hf
    simp only [cond_true, Option.some.injEq] at hf
    subst hf
    have hn' := Nat.eq_of_beq_eq_true hn
    subst hn'
    intro args m v m' r h args' p ha e
    unfold mixH at e
    split at e
    · rename_i hs a c q
      unfold mixG at e
      split at e
      · rename_i H bs ks e1 e2 e3
        split at e
        · rename_i B K e4 e5
          cases hl : Nat.beq H.length 8 with
          | false => rw [hl] at e; cases e
          | true =>
            rw [hl] at e
            simp only [cond_true, Option.some.injEq, Prod.mk.injEq] at e
            obtain ⟨rfl, rfl⟩ := e
            have hl8 := Nat.eq_of_beq_eq_true hl
            obtain ⟨g1, g1'⟩ := toW_eq e1
            obtain ⟨g2, g2'⟩ := toB_eq e4
            obtain ⟨g3, g3'⟩ := toW_eq e5
            cases ha with
            | cons a1 ha =>
              cases ha with
              | cons a2 ha =>
                cases ha with
                | cons a3 ha =>
                  cases ha
                  rw [a1.agg_ints g1']
                  obtain ⟨k, c', o, hsp, hk, rfl, hnc, q0, q1⟩ := a2.of_sl
                  obtain ⟨k2, c2, o2, _, hk2, hv2, l', hc1, hc2⟩ := sl_cells p.toHR a2 (Nat.le_refl 64) e2
                  simp only [Value.slice.injEq, Option.some.injEq, Addr.mk.injEq, true_and, and_true] at hv2
                  obtain ⟨⟨hb2, rfl⟩, rfl⟩ := hv2
                  rw [all2_ints hc2 g2', g2] at hc1
                  obtain ⟨kp, hps, hkp, rfl⟩ := a3.of_ptr
                  obtain ⟨lk, hk1, hk3⟩ := cells_sim p.toHR hkp e3
                  rw [all2_ints hk3 g3', g3] at hk1
                  have lB : B.length = 64 := by
                    have := hcells_length hc1
                    simpa using this
                  have lK : K.length = 64 := by
                    have := hcells_length hk1
                    simpa [wordsU] using this
                  have sb : SlB h (.slice (some ⟨k.b, o, none⟩) 64 c') B := by
                    unfold SlB
                    rw [lB]
                    refine .inr ⟨⟨k.b, o, none⟩, c', rfl, hnc, ?_⟩
                    rw [hb2]; exact hc1
                  rw [wordsU_row, lK] at hk1
                  have hsE : hs = (rowU (fun j => H.getD j 0) 8).toArray := by
                    apply Array.toList_inj.1
                    rw [g1, wordsU_row, hl8]
                  rw [hsE]
                  refine (sha_mix_c E h (fun j => H.getD j 0) (fun j => K.getD j 0) B (bk := kp.b) (ok := q.off + kp.sh) hk1 lB sb).mono ?_
                  rintro v' h' ⟨le', rfl⟩
                  refine ⟨r, Rr.le_refl _, p.le le', ?_⟩
                  rw [← mixL_row]
                  exact .one (.agg (all2_refl_ints (wordsU_ints _)))
        · cases e
      · cases e
    · cases e
end Go.Bb
/- Laws on journals: what all share. -/
namespace Go.Bb
set_option linter.unusedSimpArgs false
set_option linter.unusedVariables false
set_option maxRecDepth 100000
set_option maxHeartbeats 2000000

theorem pk14a : isTrue (evF tab mixHk 1000 50 n_bandboxlaw14_awake [] VM.start) = true := by decide +kernel
theorem law14_awake_c (E : EnvT tab) (h : Heap) : ACallN E.toEnv n_bandboxlaw14_awake [] h fun v h' => v = .bool true ∧ h.le h' := evF_true (mixHk_ok E) _ pk14a
theorem law14_same_c (E : EnvT tab) {H : Heap} {v w : Value} (A B : List (List UInt8)) (sA : SlL H v A) (sB : SlL H w B) (hA : A.length ≤ 1000000000) (hB : B.length ≤ 1000000000) : ACallN E.toEnv n_bandboxlaw14_same [v, w] H fun r H' => H' = H ∧ r = .bool (decide (A = B)) := by
  obtain ⟨Ab, Ac, rfl⟩ := sA.shape
  obtain ⟨Bb', Bc, rfl⟩ := sB.shape
  refine acall h_bandboxlaw14_same ir_bandboxlaw14_same rfl rfl (wpA_sound ?_)
  unfold ir_bandboxlaw14_same
  by_cases hl : A.length = B.length
  · have hl' : ((A.length : Int) != (B.length : Int)) = false := by rw [hl]; simp
    simp -implicitDefEqProofs only [zB1,zB2,zB3,zB4,zB5,zB6,zB7,zB8,zB9,zB10,zB11,y00,y01,y02,y03,y04,y05,y06,y07,y08,y09,y0a,y0b,y0c,y0d,y0e,y0f,y0g,y0h,y0i,y0j,y0k,y0l,y0m,y0n,y0o,y0p,y0q,y0r,y0s,y0t,y0u,y0v,y0w,y0x,y0y,y0z,y10,y11,y12,y13,y14,y15,y16,y17,y18,y19,y1a,y1b,y1c,y1d,y1e,y1f,y1g,y1h,y1i,y1j,y1k,y1l,y1m,y1n,y1o,y1p,y1q,y1r,retO,retL,retV,z6i,allV,allP,z6j,z6m,z6n,z6t,z6u,z6v,binV,eqV,unV,oOpt,reduceIte,reduceCtorEq,Nat.reduceEqDiff,Nat.reduceAdd,Nat.reduceMul,Nat.reduceLT,Nat.reduceSub,Int.reduceLT,Int.reduceLE,Int.reduceEq,Int.reduceNe,Int.reduceSub,Int.reduceAdd,Int.reduceMul,Int.reduceBEq,Int.reduceBNe,Int.reduceGT,Int.reduceGE,Nat.reduceGT,Int.reduceToNat,Int.reduceNeg,Nat.reduceLeDiff,Nat.reduceBEq,Nat.reduceBneDiff,Value.cells, hl']
    unfold ir_bandboxlaw14_same_5
    simp -implicitDefEqProofs only [zB1,zB2,zB3,zB4,zB5,zB6,zB7,zB8,zB9,zB10,zB11,y00,y01,y02,y03,y04,y05,y06,y07,y08,y09,y0a,y0b,y0c,y0d,y0e,y0f,y0g,y0h,y0i,y0j,y0k,y0l,y0m,y0n,y0o,y0p,y0q,y0r,y0s,y0t,y0u,y0v,y0w,y0x,y0y,y0z,y10,y11,y12,y13,y14,y15,y16,y17,y18,y19,y1a,y1b,y1c,y1d,y1e,y1f,y1g,y1h,y1i,y1j,y1k,y1l,y1m,y1n,y1o,y1p,y1q,y1r,retO,retL,retV,z6i,allV,allP,z6j,z6m,z6n,z6t,z6u,z6v,binV,eqV,unV,oOpt,reduceIte,reduceCtorEq,Nat.reduceEqDiff,Nat.reduceAdd,Nat.reduceMul,Nat.reduceLT,Nat.reduceSub,Int.reduceLT,Int.reduceLE,Int.reduceEq,Int.reduceNe,Int.reduceSub,Int.reduceAdd,Int.reduceMul,Int.reduceBEq,Int.reduceBNe,Int.reduceGT,Int.reduceGE,Nat.reduceGT,Int.reduceToNat,Int.reduceNeg,Nat.reduceLeDiff,Nat.reduceBEq,Nat.reduceBneDiff,Value.cells]
    refine wp_loop' (fun m t G => G = H ∧ ∃ i : Nat, t = tl [(0, .slice Ab A.length Ac), (1, .slice Bb' B.length Bc), (5, .int .i64 i)] ∧ i ≤ A.length ∧ m = A.length - i ∧ A.take i = B.take i) A.length
      ⟨rfl, 0, rfl, by omega, by omega, by simp⟩ ?_
    rintro m t G ⟨rfl, i, rfl, hi, rfl, he⟩
    by_cases hlt : i < A.length
    · have hi1 : (i : Int) < A.length := by omega
      have hi2 : (0 : Int) ≤ i := by omega
      have hi3 : (i : Int) < B.length := by omega
      have w1 : IntKind.i64.wrap ((i : Int) + 1) = ((i + 1 : Nat) : Int) := wrapN (by omega)
      obtain ⟨b, o, bi, ci, rfl, si, ciH⟩ := sA.at' i hlt
      obtain ⟨b2, o2, bi2, ci2, rfl, si2, ciH2⟩ := sB.at' i (by omega)
      have c1 := ciH G (Heap.le_refl _)
      have c2 := ciH2 G (Heap.le_refl _)
      have f1 := strOfV_sl si
      have f2 := strOfV_sl si2
      simp only [strV] at f1 f2
      by_cases e : A[i] = B[i]'(by omega)
      · have e1 : (A[i] == B[i]'(by omega)) = true := by rw [e]; simp
        simp -implicitDefEqProofs only [zB1,zB2,zB3,zB4,zB5,zB6,zB7,zB8,zB9,zB10,zB11,y00,y01,y02,y03,y04,y05,y06,y07,y08,y09,y0a,y0b,y0c,y0d,y0e,y0f,y0g,y0h,y0i,y0j,y0k,y0l,y0m,y0n,y0o,y0p,y0q,y0r,y0s,y0t,y0u,y0v,y0w,y0x,y0y,y0z,y10,y11,y12,y13,y14,y15,y16,y17,y18,y19,y1a,y1b,y1c,y1d,y1e,y1f,y1g,y1h,y1i,y1j,y1k,y1l,y1m,y1n,y1o,y1p,y1q,y1r,retO,retL,retV,z6i,allV,allP,z6j,z6m,z6n,z6t,z6u,z6v,binV,eqV,unV,oOpt,reduceIte,reduceCtorEq,Nat.reduceEqDiff,Nat.reduceAdd,Nat.reduceMul,Nat.reduceLT,Nat.reduceSub,Int.reduceLT,Int.reduceLE,Int.reduceEq,Int.reduceNe,Int.reduceSub,Int.reduceAdd,Int.reduceMul,Int.reduceBEq,Int.reduceBNe,Int.reduceGT,Int.reduceGE,Nat.reduceGT,Int.reduceToNat,Int.reduceNeg,Nat.reduceLeDiff,Nat.reduceBEq,Nat.reduceBneDiff,Value.cells, hi1, hi2, hi3, Int.toNat_natCast, c1, c2, f1, f2, str_toList, e1, w1]
        refine ⟨_, ?_, i + 1, rfl, by omega, rfl, ?_⟩
        · omega
        · rw [List.take_succ_eq_append_getElem hlt, List.take_succ_eq_append_getElem (by omega), he, e]
      · have e1 : (A[i] == B[i]'(by omega)) = false := by simpa using e
        have en : ¬ A = B := fun q => e (by subst q; rfl)
        simp -implicitDefEqProofs only [zB1,zB2,zB3,zB4,zB5,zB6,zB7,zB8,zB9,zB10,zB11,y00,y01,y02,y03,y04,y05,y06,y07,y08,y09,y0a,y0b,y0c,y0d,y0e,y0f,y0g,y0h,y0i,y0j,y0k,y0l,y0m,y0n,y0o,y0p,y0q,y0r,y0s,y0t,y0u,y0v,y0w,y0x,y0y,y0z,y10,y11,y12,y13,y14,y15,y16,y17,y18,y19,y1a,y1b,y1c,y1d,y1e,y1f,y1g,y1h,y1i,y1j,y1k,y1l,y1m,y1n,y1o,y1p,y1q,y1r,retO,retL,retV,z6i,allV,allP,z6j,z6m,z6n,z6t,z6u,z6v,binV,eqV,unV,oOpt,reduceIte,reduceCtorEq,Nat.reduceEqDiff,Nat.reduceAdd,Nat.reduceMul,Nat.reduceLT,Nat.reduceSub,Int.reduceLT,Int.reduceLE,Int.reduceEq,Int.reduceNe,Int.reduceSub,Int.reduceAdd,Int.reduceMul,Int.reduceBEq,Int.reduceBNe,Int.reduceGT,Int.reduceGE,Nat.reduceGT,Int.reduceToNat,Int.reduceNeg,Nat.reduceLeDiff,Nat.reduceBEq,Nat.reduceBneDiff,Value.cells, hi1, hi2, hi3, Int.toNat_natCast, c1, c2, f1, f2, str_toList, e1, en]
    · have hi1 : ¬ (i : Int) < A.length := by omega
      have e0 : i = A.length := by omega
      subst e0
      rw [List.take_length, hl, List.take_length] at he
      subst he
      simp -implicitDefEqProofs only [zB1,zB2,zB3,zB4,zB5,zB6,zB7,zB8,zB9,zB10,zB11,y00,y01,y02,y03,y04,y05,y06,y07,y08,y09,y0a,y0b,y0c,y0d,y0e,y0f,y0g,y0h,y0i,y0j,y0k,y0l,y0m,y0n,y0o,y0p,y0q,y0r,y0s,y0t,y0u,y0v,y0w,y0x,y0y,y0z,y10,y11,y12,y13,y14,y15,y16,y17,y18,y19,y1a,y1b,y1c,y1d,y1e,y1f,y1g,y1h,y1i,y1j,y1k,y1l,y1m,y1n,y1o,y1p,y1q,y1r,retO,retL,retV,z6i,allV,allP,z6j,z6m,z6n,z6t,z6u,z6v,binV,eqV,unV,oOpt,reduceIte,reduceCtorEq,Nat.reduceEqDiff,Nat.reduceAdd,Nat.reduceMul,Nat.reduceLT,Nat.reduceSub,Int.reduceLT,Int.reduceLE,Int.reduceEq,Int.reduceNe,Int.reduceSub,Int.reduceAdd,Int.reduceMul,Int.reduceBEq,Int.reduceBNe,Int.reduceGT,Int.reduceGE,Nat.reduceGT,Int.reduceToNat,Int.reduceNeg,Nat.reduceLeDiff,Nat.reduceBEq,Nat.reduceBneDiff,Value.cells, hi1]
  · have hl' : ((A.length : Int) != (B.length : Int)) = true := by simp; omega
    have en : ¬ A = B := fun q => hl (by rw [q])
    simp -implicitDefEqProofs only [zB1,zB2,zB3,zB4,zB5,zB6,zB7,zB8,zB9,zB10,zB11,y00,y01,y02,y03,y04,y05,y06,y07,y08,y09,y0a,y0b,y0c,y0d,y0e,y0f,y0g,y0h,y0i,y0j,y0k,y0l,y0m,y0n,y0o,y0p,y0q,y0r,y0s,y0t,y0u,y0v,y0w,y0x,y0y,y0z,y10,y11,y12,y13,y14,y15,y16,y17,y18,y19,y1a,y1b,y1c,y1d,y1e,y1f,y1g,y1h,y1i,y1j,y1k,y1l,y1m,y1n,y1o,y1p,y1q,y1r,retO,retL,retV,z6i,allV,allP,z6j,z6m,z6n,z6t,z6u,z6v,binV,eqV,unV,oOpt,reduceIte,reduceCtorEq,Nat.reduceEqDiff,Nat.reduceAdd,Nat.reduceMul,Nat.reduceLT,Nat.reduceSub,Int.reduceLT,Int.reduceLE,Int.reduceEq,Int.reduceNe,Int.reduceSub,Int.reduceAdd,Int.reduceMul,Int.reduceBEq,Int.reduceBNe,Int.reduceGT,Int.reduceGE,Nat.reduceGT,Int.reduceToNat,Int.reduceNeg,Nat.reduceLeDiff,Nat.reduceBEq,Nat.reduceBneDiff,Value.cells, hl', en]
/-- A disk of one file of records. -/
def dS (room : Int) (o : Option FileF) : DiskF := { room := room, files := match o with | none => [] | some F => [(nameF 0 0, F)] }
theorem dS_size (room : Int) (o : Option FileF) : sizeF (dS room o).files = (o.getD {}).size := by
  cases o <;> simp [dS, sizeF, FileF.size, FileF.all]
theorem name00 : goodName (nameF 0 0) = true := name_good (by omega) (by omega)
theorem dS_look (room : Int) (o : Option FileF) : lookF (dS room o).files (nameF 0 0) = o := by
  cases o <;> simp [dS, lookF]
theorem appendS {room : Int} {o : Option FileF} {b : List UInt8} (h : ((o.getD {}).size : Int) + b.length ≤ room) : appendF (dS room o) (nameF 0 0) b = (dS room (some (writeF (o.getD {}) b)), 0) := by
  unfold appendF
  rw [ask1 rfl name00, if_pos rfl, dS_size, if_neg (by simp only [dS]; omega), dS_look]
  cases o with
  | none => rfl
  | some F => simp [dS, turnF']
theorem dS_ok {room : Int} {o : Option FileF} {n : Nat} (h1 : (o.getD {}).writes.length ≤ n) (h2 : ((o.getD {}).size : Int) ≤ room) (h3 : room ≤ 1048576) : (dS room o).okW n := by
  refine ⟨?_, by rw [dS_size]; exact h2, h3⟩
  intro x hx
  cases o with
  | none => cases hx
  | some F =>
    simp only [dS, List.mem_singleton] at hx
    subst hx
    exact ⟨h1, name_len⟩
theorem open_empty (room : Int) : openF { room := room } = (some { lives := 1 }, { room := room }, 0) := by rfl
theorem readBase_empty (room : Int) : readBaseF { lives := 1 } { room := room } = ({ lives := 1 }, 0) := by rfl
end Go.Bb
/- Contracts: numbers, the lowest byte first. -/
namespace Go.Bb
set_option linter.unusedSimpArgs false
set_option linter.unusedVariables false
set_option maxRecDepth 20000

end Go.Bb
/- Contracts: bytes turned round. -/
namespace Go.Bb
set_option linter.unusedSimpArgs false
set_option linter.unusedVariables false
set_option maxRecDepth 20000

/-- A cell of an owned slice is written. -/
theorem Ow.store1 {h0 h : Heap} {b o n c : Nat} {cells : List Value} (s : Ow h0 h 1 (.slice (some ⟨b, o, none⟩) n c) n cells) {i : Nat} (hi : i < n) {v : Value} (hv : one v = true) :
    ∃ h', storeV h 1 (.pointer (some ⟨b, o + i, none⟩)) v = some h' ∧ Ow h0 h' 1 (.slice (some ⟨b, o, none⟩) n c) n (cells.set i v) ∧ (h0.le h → h0.le h') := by
  rcases s with ⟨e, _⟩ | ⟨b', o', c', sz, st, pre, rest, e, hc, hn, hb, ho, hl, hz⟩
  · cases e
  simp only [Value.slice.injEq, Option.some.injEq, Addr.mk.injEq, and_true, true_and] at e
  obtain ⟨⟨rfl, rfl⟩, rfl⟩ := e
  have hv1 : v.cells.toList = [v] := by
    cases v <;> first | rfl | (cases hv; done)
  have hv2 : v.cells.size = 1 := by rw [← Array.length_toList, hv1]; rfl
  have hs : splice (pre ++ cells ++ rest) (o + i - st) [v] = pre ++ cells.set i v ++ rest := by
    have e1 : o + i - st = pre.length + i := by omega
    rw [e1]
    have e2 : splice (pre ++ cells ++ rest) (pre.length + i) [v] = (pre ++ cells ++ rest).set (pre.length + i) v := by
      unfold splice
      rw [List.set_eq_take_append_cons_drop, if_pos (by simp; omega)]
      simp
    rw [e2, List.set_append_left _ _ (by simp; omega), List.set_append_right _ _ (by omega), Nat.add_sub_cancel_left]
  refine ⟨h.set b (.own st (pre ++ cells.set i v ++ rest) sz), ?_, ?_, fun hle => Heap.le_set hle hn _⟩
  · simp only [storeV, hv1, hv2, true_and]
    rw [if_pos (by simp [hv])]
    simp only [hstore, hb]
    rw [if_pos ⟨by omega, by simp; omega, by simp; omega⟩, hs]
  · exact .inr ⟨b, o, c, sz, st, pre, rest, rfl, hc, hn, Heap.set_self _ _ _, ho, by simpa using hl, hz⟩

end Go.Bb
/- Rows with colours; the law JournalApart. -/
namespace Go.Bb
set_option linter.unusedSimpArgs false
set_option linter.unusedVariables false
set_option maxRecDepth 20000
set_option maxHeartbeats 2000000

/-- Rows that are ours: a thing of their own. -/
def RowsK (κ : Pal) (H : Heap) (T : Nat) (v : Value) (L : List (List UInt8)) : Prop :=
  ∃ vs : List Value, OwK κ (T, 0, 12) H 1 v L.length vs ∧ vs.length = L.length ∧ ∀ i (h1 : i < vs.length) (h2 : i < L.length), OwK κ (T, i, 11) H 1 vs[i] L[i].length (L[i].map u8V)
theorem RowsK.ext {cs : Col → Prop} {κ κ' : Pal} {H H' : Heap} {T : Nat} {v : Value} {L : List (List UInt8)} (a : Ext cs κ H κ' H') (n : ∀ c : Col, c.1 = T → ¬ cs c) (R : RowsK κ H T v L) : RowsK κ' H' T v L := by
  obtain ⟨vs, s, l, e⟩ := R
  exact ⟨vs, a.own (n _ rfl) s, l, fun i h1 h2 => a.own (n _ rfl) (e i h1 h2)⟩
theorem RowsK.sl {κ : Pal} {H : Heap} {T : Nat} {v : Value} {L : List (List UInt8)} (n : RowsK κ H T v L) : SlL H v L := by
  obtain ⟨vs, s, l, e⟩ := n
  exact ⟨vs, l, s.sl, fun i h1 h2 => (e i h1 h2).sl⟩
theorem RowsK.nil (κ : Pal) (H : Heap) (T : Nat) : RowsK κ H T (.slice none 0 0) [] := ⟨[], Ow.nil _ _ _, rfl, fun i h1 => by simp at h1⟩
theorem RowsK.snoc {κ : Pal} {H : Heap} {T : Nat} {v xv wv : Value} {L : List (List UInt8)} {l : List UInt8} {K : Value → Heap → Prop} (R : RowsK κ H T v L) (hL : L.length ≤ 1000000) (x : Sl H 1 xv 1 [wv]) (o : OwK κ (T, L.length, 11) H 1 wv l.length (l.map u8V))
    (hk : ∀ v' H', (∃ base c, v' = .slice base (L ++ [l]).length c) → (∃ κ', Ext (fun c => c.1 = T) κ H κ' H' ∧ RowsK κ' H' T v' (L ++ [l])) → K v' H') : appendP 1 24 H v xv K := by
  obtain ⟨vs, s, ln, e⟩ := R
  have ho : [wv].all one = true := by
    obtain ⟨b, c, rfl⟩ := Sl.shape o.sl
    rfl
  refine appendP_ow (m := 1) (Heap.but_le H κ (T, 0, 12)) (by omega) s x ho (by omega) (by omega) ?_
  intro v' H' o3 le3
  have e3 := Ext.grow le3
  have el : (L ++ [l]).length = L.length + 1 := by simp
  refine hk v' H' (by rw [el]; exact Sl.shape o3.sl) ⟨κ.grow H (T, 0, 12), e3.mono fun c h => by subst h; rfl, vs ++ [wv], ?_, by simp [ln], ?_⟩
  · rw [el]; exact OwK.grown o3
  · intro k h1 h2
    refine e3.own (by simp) ?_
    by_cases hk : k < L.length
    · have g1 : (vs ++ [wv])[k]'h1 = vs[k]'(by omega) := List.getElem_append_left (by omega)
      have g2 : (L ++ [l])[k]'h2 = L[k] := List.getElem_append_left hk
      rw [g1, g2]; exact e k (by omega) hk
    · have : k = L.length := by simp at h2; omega
      subst this
      have g1 : (vs ++ [wv])[L.length]'h1 = wv := by rw [List.getElem_append_right (by omega)]; simp [ln]
      have g2 : (L ++ [l])[L.length]'h2 = l := by simp
      rw [g1, g2]; exact o
/-- A palette that has new colours for what is new. -/
def Pal.merge (κ : Pal) (H : Heap) (κi : Pal) (T : Nat) : Pal := fun b => if H b = none then (κi b).map (fun c => (T, c.2)) else κ b
theorem Ext.merge {cs : Col → Prop} {κ κi : Pal} {H H' : Heap} (T : Nat) (h : H.le H') : Ext cs κ H (κ.merge H κi T) H' := by
  intro b x q n
  refine ⟨h b x q, ?_⟩
  unfold Pal.merge; rw [if_neg (by rw [q]; simp)]
theorem merge_own {κ κi : Pal} {H H' : Heap} {T : Nat} {x : Nat × Nat} (hi : ∀ b, H b ≠ none → κi b = none) {size m : Nat} {v : Value} {cells : List Value} (s : OwK κi (0, x) H' size v m cells) : OwK (κ.merge H κi T) (T, x) H' size v m cells := by
  rcases s with s | ⟨b, o, c', sz, st, pre, rest, h1, h2, h3, h4, h5⟩
  · exact .inl s
  · refine .inr ⟨b, o, c', sz, st, pre, rest, h1, h2, Heap.but_none.2 (.inl ?_), h4, h5⟩
    rcases Heap.but_none.1 h3 with hk | hn
    · unfold Pal.merge
      rw [if_pos]
      · rw [hk]; rfl
      · cases hH : H b with
        | none => rfl
        | some y => rw [hi b (by rw [hH]; simp)] at hk; cases hk
    · rw [hn] at h4; cases h4
theorem NewL.rows {κ κi : Pal} {H H' : Heap} {v : Value} {L : List (List UInt8)} (T : Nat) (n : NewL H H' κi v L) : RowsK (κ.merge H κi T) H' T v L := by
  obtain ⟨hi, vs, s, l, e⟩ := n
  exact ⟨vs, merge_own hi s, l, fun i h1 h2 => merge_own hi (e i h1 h2)⟩
theorem lit1_bare {κ : Pal} {H h0 : Heap} {b : Nat} (hb : H b = none) (le : h0.le (H.bare κ)) {wv : Value} {l : List UInt8} (s : SlB h0 wv l) : SlL ((H.set b (.own 0 [wv] 1)).bare (fun i => if i = b then none else κ i)) (.slice (some ⟨b, 0, none⟩) 1 1) [l] := by
  have e : Ext (fun _ => False) κ H (fun i => if i = b then none else κ i) (H.set b (.own 0 [wv] 1)) := Ext.new hb _ none
  refine ⟨[wv], rfl, ?_, ?_⟩
  · refine .inr ⟨⟨b, 0, none⟩, 1, rfl, Nat.le_refl _, ?_⟩
    rw [hcells_at (vs := [wv]) (sz := 1) (Heap.bare_some.2 ⟨Heap.set_self _ _ _, by simp⟩) (by simp)]
    rfl
  · intro i h1 h2
    have : i = 0 := by simp at h1; omega
    subst this
    exact s.le (Heap.le_trans le e.bare)
theorem add1 {J : JF} {D : DiskF} {b : List UInt8} (dn : doneF J D = false) (hb : b.length ≤ 16384) (h : (appendF D (nameF J.turn J.part) (frameF b)).2 = 0) :
    addF J D [b] = ({ J with written := true, recs := J.recs ++ [b] }, (appendF D (nameF J.turn J.part) (frameF b)).1, 0) := by
  unfold addF
  have : [b].any (fun b => decide (16384 < b.length)) = false := by simp; omega
  rw [dn, this]
  simp only [addL, h, if_true, Bool.false_eq_true, if_false]
theorem bandboxlaw14_JournalApart_c (E : EnvT tab) (W : World) {v0 : Value} (s0 : Shp.ok W (.slice 1 (.slice 1 (.int .u8))) v0) :
    ACallN E.toEnv n_bandboxlaw14_JournalApart [v0] (roHeap W) fun v _ => v = .bool true := by
  obtain ⟨L, sL, -, -⟩ := ok_bytesL s0
  obtain ⟨Lb, Lc, rfl⟩ := sL.shape
  generalize roHeap W = h at sL
  refine acall h_bandboxlaw14_JournalApart ir_bandboxlaw14_JournalApart rfl rfl (wpA_sound ?_)
  unfold ir_bandboxlaw14_JournalApart
  simp -implicitDefEqProofs only [zB1,zB2,zB3,zB4,zB5,zB6,zB7,zB8,zB9,zB10,zB11,y00,y01,y02,y03,y04,y05,y06,y07,y08,y09,y0a,y0b,y0c,y0d,y0e,y0f,y0g,y0h,y0i,y0j,y0k,y0l,y0m,y0n,y0o,y0p,y0q,y0r,y0s,y0t,y0u,y0v,y0w,y0x,y0y,y0z,y10,y11,y12,y13,y14,y15,y16,y17,y18,y19,y1a,y1b,y1c,y1d,y1e,y1f,y1g,y1h,y1i,y1j,y1k,y1l,y1m,y1n,y1o,y1p,y1q,y1r,retO,retL,retV,z6i,allV,allP,z6j,z6m,z6n,z6t,z6u,z6v,binV,eqV,unV,oOpt,reduceIte,reduceCtorEq,Nat.reduceEqDiff,Nat.reduceAdd,Nat.reduceMul,Nat.reduceLT,Nat.reduceSub,Int.reduceLT,Int.reduceLE,Int.reduceEq,Int.reduceNe,Int.reduceSub,Int.reduceAdd,Int.reduceMul,Int.reduceBEq,Int.reduceBNe,Int.reduceGT,Int.reduceGE,Nat.reduceGT,Int.reduceToNat,Int.reduceNeg,Nat.reduceLeDiff,Nat.reduceBEq,Nat.reduceBneDiff,Value.cells]
  refine (law14_awake_c E h).mono ?_
  rintro v h1 ⟨rfl, le1⟩
  replace sL := sL.le le1
  clear le1
  simp -implicitDefEqProofs only [zB1,zB2,zB3,zB4,zB5,zB6,zB7,zB8,zB9,zB10,zB11,y00,y01,y02,y03,y04,y05,y06,y07,y08,y09,y0a,y0b,y0c,y0d,y0e,y0f,y0g,y0h,y0i,y0j,y0k,y0l,y0m,y0n,y0o,y0p,y0q,y0r,y0s,y0t,y0u,y0v,y0w,y0x,y0y,y0z,y10,y11,y12,y13,y14,y15,y16,y17,y18,y19,y1a,y1b,y1c,y1d,y1e,y1f,y1g,y1h,y1i,y1j,y1k,y1l,y1m,y1n,y1o,y1p,y1q,y1r,retO,retL,retV,z6i,allV,allP,z6j,z6m,z6n,z6t,z6u,z6v,binV,eqV,unV,oOpt,reduceIte,reduceCtorEq,Nat.reduceEqDiff,Nat.reduceAdd,Nat.reduceMul,Nat.reduceLT,Nat.reduceSub,Int.reduceLT,Int.reduceLE,Int.reduceEq,Int.reduceNe,Int.reduceSub,Int.reduceAdd,Int.reduceMul,Int.reduceBEq,Int.reduceBNe,Int.reduceGT,Int.reduceGE,Nat.reduceGT,Int.reduceToNat,Int.reduceNeg,Nat.reduceLeDiff,Nat.reduceBEq,Nat.reduceBneDiff,Value.cells]
  unfold ir_bandboxlaw14_JournalApart_14
  by_cases g0 : (10 : Int) < L.length
  · simp -implicitDefEqProofs only [zB1,zB2,zB3,zB4,zB5,zB6,zB7,zB8,zB9,zB10,zB11,y00,y01,y02,y03,y04,y05,y06,y07,y08,y09,y0a,y0b,y0c,y0d,y0e,y0f,y0g,y0h,y0i,y0j,y0k,y0l,y0m,y0n,y0o,y0p,y0q,y0r,y0s,y0t,y0u,y0v,y0w,y0x,y0y,y0z,y10,y11,y12,y13,y14,y15,y16,y17,y18,y19,y1a,y1b,y1c,y1d,y1e,y1f,y1g,y1h,y1i,y1j,y1k,y1l,y1m,y1n,y1o,y1p,y1q,y1r,retO,retL,retV,z6i,allV,allP,z6j,z6m,z6n,z6t,z6u,z6v,binV,eqV,unV,oOpt,reduceIte,reduceCtorEq,Nat.reduceEqDiff,Nat.reduceAdd,Nat.reduceMul,Nat.reduceLT,Nat.reduceSub,Int.reduceLT,Int.reduceLE,Int.reduceEq,Int.reduceNe,Int.reduceSub,Int.reduceAdd,Int.reduceMul,Int.reduceBEq,Int.reduceBNe,Int.reduceGT,Int.reduceGE,Nat.reduceGT,Int.reduceToNat,Int.reduceNeg,Nat.reduceLeDiff,Nat.reduceBEq,Nat.reduceBneDiff,Value.cells, g0]
  simp -implicitDefEqProofs only [zB1,zB2,zB3,zB4,zB5,zB6,zB7,zB8,zB9,zB10,zB11,y00,y01,y02,y03,y04,y05,y06,y07,y08,y09,y0a,y0b,y0c,y0d,y0e,y0f,y0g,y0h,y0i,y0j,y0k,y0l,y0m,y0n,y0o,y0p,y0q,y0r,y0s,y0t,y0u,y0v,y0w,y0x,y0y,y0z,y10,y11,y12,y13,y14,y15,y16,y17,y18,y19,y1a,y1b,y1c,y1d,y1e,y1f,y1g,y1h,y1i,y1j,y1k,y1l,y1m,y1n,y1o,y1p,y1q,y1r,retO,retL,retV,z6i,allV,allP,z6j,z6m,z6n,z6t,z6u,z6v,binV,eqV,unV,oOpt,reduceIte,reduceCtorEq,Nat.reduceEqDiff,Nat.reduceAdd,Nat.reduceMul,Nat.reduceLT,Nat.reduceSub,Int.reduceLT,Int.reduceLE,Int.reduceEq,Int.reduceNe,Int.reduceSub,Int.reduceAdd,Int.reduceMul,Int.reduceBEq,Int.reduceBNe,Int.reduceGT,Int.reduceGE,Nat.reduceGT,Int.reduceToNat,Int.reduceNeg,Nat.reduceLeDiff,Nat.reduceBEq,Nat.reduceBneDiff,Value.cells, g0]
  refine (disk_New_c E (fun _ => none) h1 65536).mono ?_
  rintro v h2 ⟨-, -, hN⟩
  obtain ⟨d, κ2, rfl, -, e2, R2⟩ := hN (by omega)
  clear hN
  have B2 : h1.le (h2.bare κ2) := fun b x q => Heap.bare_some.2 (e2.plain rfl q)
  simp -implicitDefEqProofs only [zB1,zB2,zB3,zB4,zB5,zB6,zB7,zB8,zB9,zB10,zB11,y00,y01,y02,y03,y04,y05,y06,y07,y08,y09,y0a,y0b,y0c,y0d,y0e,y0f,y0g,y0h,y0i,y0j,y0k,y0l,y0m,y0n,y0o,y0p,y0q,y0r,y0s,y0t,y0u,y0v,y0w,y0x,y0y,y0z,y10,y11,y12,y13,y14,y15,y16,y17,y18,y19,y1a,y1b,y1c,y1d,y1e,y1f,y1g,y1h,y1i,y1j,y1k,y1l,y1m,y1n,y1o,y1p,y1q,y1r,retO,retL,retV,z6i,allV,allP,z6j,z6m,z6n,z6t,z6u,z6v,binV,eqV,unV,oOpt,reduceIte,reduceCtorEq,Nat.reduceEqDiff,Nat.reduceAdd,Nat.reduceMul,Nat.reduceLT,Nat.reduceSub,Int.reduceLT,Int.reduceLE,Int.reduceEq,Int.reduceNe,Int.reduceSub,Int.reduceAdd,Int.reduceMul,Int.reduceBEq,Int.reduceBNe,Int.reduceGT,Int.reduceGE,Nat.reduceGT,Int.reduceToNat,Int.reduceNeg,Nat.reduceLeDiff,Nat.reduceBEq,Nat.reduceBneDiff,Value.cells]
  refine (journal_Open_c E R2 rfl (n := 0) ⟨by simp, by simp [sizeF], by simp⟩ (by omega) (by rw [readBase_empty]; decide) (by rw [readBase_empty]; intro h; simp at h) (by rw [readBase_empty]; exact ⟨0, by omega, rfl⟩)).mono ?_
  rintro v h3 ⟨j, κ3, hj, ne, e3, R3, hm⟩
  rw [open_empty] at R3 hm
  obtain ⟨rfl, J3⟩ := hm
  have B3 := Heap.le_trans B2 e3.bare
  simp -implicitDefEqProofs only [zB1,zB2,zB3,zB4,zB5,zB6,zB7,zB8,zB9,zB10,zB11,y00,y01,y02,y03,y04,y05,y06,y07,y08,y09,y0a,y0b,y0c,y0d,y0e,y0f,y0g,y0h,y0i,y0j,y0k,y0l,y0m,y0n,y0o,y0p,y0q,y0r,y0s,y0t,y0u,y0v,y0w,y0x,y0y,y0z,y10,y11,y12,y13,y14,y15,y16,y17,y18,y19,y1a,y1b,y1c,y1d,y1e,y1f,y1g,y1h,y1i,y1j,y1k,y1l,y1m,y1n,y1o,y1p,y1q,y1r,retO,retL,retV,z6i,allV,allP,z6j,z6m,z6n,z6t,z6u,z6v,binV,eqV,unV,oOpt,reduceIte,reduceCtorEq,Nat.reduceEqDiff,Nat.reduceAdd,Nat.reduceMul,Nat.reduceLT,Nat.reduceSub,Int.reduceLT,Int.reduceLE,Int.reduceEq,Int.reduceNe,Int.reduceSub,Int.reduceAdd,Int.reduceMul,Int.reduceBEq,Int.reduceBNe,Int.reduceGT,Int.reduceGE,Nat.reduceGT,Int.reduceToNat,Int.reduceNeg,Nat.reduceLeDiff,Nat.reduceBEq,Nat.reduceBneDiff,Value.cells]
  unfold ir_bandboxlaw14_JournalApart_7
  simp -implicitDefEqProofs only [zB1,zB2,zB3,zB4,zB5,zB6,zB7,zB8,zB9,zB10,zB11,y00,y01,y02,y03,y04,y05,y06,y07,y08,y09,y0a,y0b,y0c,y0d,y0e,y0f,y0g,y0h,y0i,y0j,y0k,y0l,y0m,y0n,y0o,y0p,y0q,y0r,y0s,y0t,y0u,y0v,y0w,y0x,y0y,y0z,y10,y11,y12,y13,y14,y15,y16,y17,y18,y19,y1a,y1b,y1c,y1d,y1e,y1f,y1g,y1h,y1i,y1j,y1k,y1l,y1m,y1n,y1o,y1p,y1q,y1r,retO,retL,retV,z6i,allV,allP,z6j,z6m,z6n,z6t,z6u,z6v,binV,eqV,unV,oOpt,reduceIte,reduceCtorEq,Nat.reduceEqDiff,Nat.reduceAdd,Nat.reduceMul,Nat.reduceLT,Nat.reduceSub,Int.reduceLT,Int.reduceLE,Int.reduceEq,Int.reduceNe,Int.reduceSub,Int.reduceAdd,Int.reduceMul,Int.reduceBEq,Int.reduceBNe,Int.reduceGT,Int.reduceGE,Nat.reduceGT,Int.reduceToNat,Int.reduceNeg,Nat.reduceLeDiff,Nat.reduceBEq,Nat.reduceBneDiff,Value.cells]
  refine wp_loop' (fun m t H => ∃ (i : Nat) (κ : Pal) (kv : Value) (o : Option FileF) (w : Bool), t = tl [(0, .slice Lb L.length Lc), (5, ptrV j), (7, kv), (8, .int .i64 i)] ∧ i ≤ L.length ∧ m = L.length - i ∧
      h1.le (H.bare κ) ∧ DiskR κ H d (dS 65536 o) ∧ JouR κ H j d { lives := 1, written := w, recs := L.take i } ∧ RowsK κ H (d + j + 1) kv (L.take i) ∧ (o.getD {}).size ≤ 220 * i ∧ (o.getD {}).writes.length ≤ i ∧ ∀ k (h1 : k < L.length), k < i → L[k].length ≤ 200) L.length
    ⟨0, κ3, .slice none 0 0, none, false, rfl, by omega, by omega, B3, R3, J3, RowsK.nil _ _ _, by simp [FileF.size, FileF.all], by simp, fun k _ h => by omega⟩ ?_
  rintro m t H ⟨i, κ, kv, o, w, rfl, hi, rfl, BH, RH, JH, KH, hz, hw, h200⟩
  obtain ⟨kb, kc, rfl⟩ := KH.sl.shape
  have lT : (L.take i).length = i := by rw [List.length_take]; omega
  by_cases hlt : i < L.length
  · have hi1 : (i : Int) < L.length := by omega
    have hi2 : (0 : Int) ≤ i := by omega
    have w1 : IntKind.i64.wrap ((i : Int) + 1) = ((i + 1 : Nat) : Int) := wrapN (by omega)
    obtain ⟨b, o2, bi, ci, rfl, si, ciH⟩ := sL.at' i hlt
    have c1 := ciH H (Heap.le_trans BH (Heap.bare_le _ _))
    have et : L.take (i + 1) = L.take i ++ [L[i]] := List.take_succ_eq_append_getElem hlt
    by_cases g2 : (200 : Int) < L[i].length
    · simp -implicitDefEqProofs only [zB1,zB2,zB3,zB4,zB5,zB6,zB7,zB8,zB9,zB10,zB11,y00,y01,y02,y03,y04,y05,y06,y07,y08,y09,y0a,y0b,y0c,y0d,y0e,y0f,y0g,y0h,y0i,y0j,y0k,y0l,y0m,y0n,y0o,y0p,y0q,y0r,y0s,y0t,y0u,y0v,y0w,y0x,y0y,y0z,y10,y11,y12,y13,y14,y15,y16,y17,y18,y19,y1a,y1b,y1c,y1d,y1e,y1f,y1g,y1h,y1i,y1j,y1k,y1l,y1m,y1n,y1o,y1p,y1q,y1r,retO,retL,retV,z6i,allV,allP,z6j,z6m,z6n,z6t,z6u,z6v,binV,eqV,unV,oOpt,reduceIte,reduceCtorEq,Nat.reduceEqDiff,Nat.reduceAdd,Nat.reduceMul,Nat.reduceLT,Nat.reduceSub,Int.reduceLT,Int.reduceLE,Int.reduceEq,Int.reduceNe,Int.reduceSub,Int.reduceAdd,Int.reduceMul,Int.reduceBEq,Int.reduceBNe,Int.reduceGT,Int.reduceGE,Nat.reduceGT,Int.reduceToNat,Int.reduceNeg,Nat.reduceLeDiff,Nat.reduceBEq,Nat.reduceBneDiff,Value.cells, hi1, hi2, Int.toNat_natCast, c1, g2]
    · simp -implicitDefEqProofs only [zB1,zB2,zB3,zB4,zB5,zB6,zB7,zB8,zB9,zB10,zB11,y00,y01,y02,y03,y04,y05,y06,y07,y08,y09,y0a,y0b,y0c,y0d,y0e,y0f,y0g,y0h,y0i,y0j,y0k,y0l,y0m,y0n,y0o,y0p,y0q,y0r,y0s,y0t,y0u,y0v,y0w,y0x,y0y,y0z,y10,y11,y12,y13,y14,y15,y16,y17,y18,y19,y1a,y1b,y1c,y1d,y1e,y1f,y1g,y1h,y1i,y1j,y1k,y1l,y1m,y1n,y1o,y1p,y1q,y1r,retO,retL,retV,z6i,allV,allP,z6j,z6m,z6n,z6t,z6u,z6v,binV,eqV,unV,oOpt,reduceIte,reduceCtorEq,Nat.reduceEqDiff,Nat.reduceAdd,Nat.reduceMul,Nat.reduceLT,Nat.reduceSub,Int.reduceLT,Int.reduceLE,Int.reduceEq,Int.reduceNe,Int.reduceSub,Int.reduceAdd,Int.reduceMul,Int.reduceBEq,Int.reduceBNe,Int.reduceGT,Int.reduceGE,Nat.reduceGT,Int.reduceToNat,Int.reduceNeg,Nat.reduceLeDiff,Nat.reduceBEq,Nat.reduceBneDiff,Value.cells, hi1, hi2, Int.toNat_natCast, c1, g2]
      unfold ir_bandboxlaw14_JournalApart_44
      simp -implicitDefEqProofs only [zB1,zB2,zB3,zB4,zB5,zB6,zB7,zB8,zB9,zB10,zB11,y00,y01,y02,y03,y04,y05,y06,y07,y08,y09,y0a,y0b,y0c,y0d,y0e,y0f,y0g,y0h,y0i,y0j,y0k,y0l,y0m,y0n,y0o,y0p,y0q,y0r,y0s,y0t,y0u,y0v,y0w,y0x,y0y,y0z,y10,y11,y12,y13,y14,y15,y16,y17,y18,y19,y1a,y1b,y1c,y1d,y1e,y1f,y1g,y1h,y1i,y1j,y1k,y1l,y1m,y1n,y1o,y1p,y1q,y1r,retO,retL,retV,z6i,allV,allP,z6j,z6m,z6n,z6t,z6u,z6v,binV,eqV,unV,oOpt,reduceIte,reduceCtorEq,Nat.reduceEqDiff,Nat.reduceAdd,Nat.reduceMul,Nat.reduceLT,Nat.reduceSub,Int.reduceLT,Int.reduceLE,Int.reduceEq,Int.reduceNe,Int.reduceSub,Int.reduceAdd,Int.reduceMul,Int.reduceBEq,Int.reduceBNe,Int.reduceGT,Int.reduceGE,Nat.reduceGT,Int.reduceToNat,Int.reduceNeg,Nat.reduceLeDiff,Nat.reduceBEq,Nat.reduceBneDiff,Value.cells, List.flatten_nil, List.replicate_zero]
      intro b45 hb45
      try simp -implicitDefEqProofs only [zB1,zB2,zB3,zB4,zB5,zB6,zB7,zB8,zB9,zB10,zB11,y00,y01,y02,y03,y04,y05,y06,y07,y08,y09,y0a,y0b,y0c,y0d,y0e,y0f,y0g,y0h,y0i,y0j,y0k,y0l,y0m,y0n,y0o,y0p,y0q,y0r,y0s,y0t,y0u,y0v,y0w,y0x,y0y,y0z,y10,y11,y12,y13,y14,y15,y16,y17,y18,y19,y1a,y1b,y1c,y1d,y1e,y1f,y1g,y1h,y1i,y1j,y1k,y1l,y1m,y1n,y1o,y1p,y1q,y1r,retO,retL,retV,z6i,allV,allP,z6j,z6m,z6n,z6t,z6u,z6v,binV,eqV,unV,oOpt,reduceIte,reduceCtorEq,Nat.reduceEqDiff,Nat.reduceAdd,Nat.reduceMul,Nat.reduceLT,Nat.reduceSub,Int.reduceLT,Int.reduceLE,Int.reduceEq,Int.reduceNe,Int.reduceSub,Int.reduceAdd,Int.reduceMul,Int.reduceBEq,Int.reduceBNe,Int.reduceGT,Int.reduceGE,Nat.reduceGT,Int.reduceToNat,Int.reduceNeg,Nat.reduceLeDiff,Nat.reduceBEq,Nat.reduceBneDiff,Value.cells]
      have leA := Heap.le_set (Heap.le_refl H) hb45 (.own 0 [] 0)
      have c2 := ciH _ (Heap.le_trans BH (Heap.le_trans (Heap.bare_le _ _) leA))
      simp -implicitDefEqProofs only [zB1,zB2,zB3,zB4,zB5,zB6,zB7,zB8,zB9,zB10,zB11,y00,y01,y02,y03,y04,y05,y06,y07,y08,y09,y0a,y0b,y0c,y0d,y0e,y0f,y0g,y0h,y0i,y0j,y0k,y0l,y0m,y0n,y0o,y0p,y0q,y0r,y0s,y0t,y0u,y0v,y0w,y0x,y0y,y0z,y10,y11,y12,y13,y14,y15,y16,y17,y18,y19,y1a,y1b,y1c,y1d,y1e,y1f,y1g,y1h,y1i,y1j,y1k,y1l,y1m,y1n,y1o,y1p,y1q,y1r,retO,retL,retV,z6i,allV,allP,z6j,z6m,z6n,z6t,z6u,z6v,binV,eqV,unV,oOpt,reduceIte,reduceCtorEq,Nat.reduceEqDiff,Nat.reduceAdd,Nat.reduceMul,Nat.reduceLT,Nat.reduceSub,Int.reduceLT,Int.reduceLE,Int.reduceEq,Int.reduceNe,Int.reduceSub,Int.reduceAdd,Int.reduceMul,Int.reduceBEq,Int.reduceBNe,Int.reduceGT,Int.reduceGE,Nat.reduceGT,Int.reduceToNat,Int.reduceNeg,Nat.reduceLeDiff,Nat.reduceBEq,Nat.reduceBneDiff,Value.cells, hi1, hi2, Int.toNat_natCast, c2]
      refine appendP_ow (bytes := 1) (n := 0) (cells := []) (m := L[i].length) (news := L[i].map u8V) leA (by omega) (Ow.new (c := 0) (sz := 0) (Heap.le_refl _) hb45 rfl (by omega) (by omega)) (si.le (Heap.le_trans BH (Heap.le_trans (Heap.bare_le _ _) leA))) (one_u8 _) (by omega) (by omega) ?_
      intro wv H1 ow leB
      rw [Nat.zero_add, List.nil_append] at ow
      have e1 : Ext (fun _ => False) κ H (κ.grow H (d + j + 1, i, 11)) H1 := Ext.tint leB
      have ow1 : OwK (κ.grow H (d + j + 1, i, 11)) (d + j + 1, i, 11) H1 1 wv L[i].length (L[i].map u8V) := OwK.tinted ow
      obtain ⟨wb, wc, rfl⟩ := Sl.shape ow.sl
      have RH1 := RH.ext e1 (fun _ _ q => q)
      have JH1 := JH.ext e1 (fun _ _ q => q)
      have KH1 := KH.ext e1 (fun _ _ q => q)
      have BH1 := Heap.le_trans BH e1.bare
      generalize κ.grow H (d + j + 1, i, 11) = κ1 at e1 ow1 RH1 JH1 KH1 BH1
      simp -implicitDefEqProofs only [zB1,zB2,zB3,zB4,zB5,zB6,zB7,zB8,zB9,zB10,zB11,y00,y01,y02,y03,y04,y05,y06,y07,y08,y09,y0a,y0b,y0c,y0d,y0e,y0f,y0g,y0h,y0i,y0j,y0k,y0l,y0m,y0n,y0o,y0p,y0q,y0r,y0s,y0t,y0u,y0v,y0w,y0x,y0y,y0z,y10,y11,y12,y13,y14,y15,y16,y17,y18,y19,y1a,y1b,y1c,y1d,y1e,y1f,y1g,y1h,y1i,y1j,y1k,y1l,y1m,y1n,y1o,y1p,y1q,y1r,retO,retL,retV,z6i,allV,allP,z6j,z6m,z6n,z6t,z6u,z6v,binV,eqV,unV,oOpt,reduceIte,reduceCtorEq,Nat.reduceEqDiff,Nat.reduceAdd,Nat.reduceMul,Nat.reduceLT,Nat.reduceSub,Int.reduceLT,Int.reduceLE,Int.reduceEq,Int.reduceNe,Int.reduceSub,Int.reduceAdd,Int.reduceMul,Int.reduceBEq,Int.reduceBNe,Int.reduceGT,Int.reduceGE,Nat.reduceGT,Int.reduceToNat,Int.reduceNeg,Nat.reduceLeDiff,Nat.reduceBEq,Nat.reduceBneDiff,Value.cells, List.length_replicate, List.drop_replicate, List.replicate_zero]
      intro b51 hb51
      try simp -implicitDefEqProofs only [zB1,zB2,zB3,zB4,zB5,zB6,zB7,zB8,zB9,zB10,zB11,y00,y01,y02,y03,y04,y05,y06,y07,y08,y09,y0a,y0b,y0c,y0d,y0e,y0f,y0g,y0h,y0i,y0j,y0k,y0l,y0m,y0n,y0o,y0p,y0q,y0r,y0s,y0t,y0u,y0v,y0w,y0x,y0y,y0z,y10,y11,y12,y13,y14,y15,y16,y17,y18,y19,y1a,y1b,y1c,y1d,y1e,y1f,y1g,y1h,y1i,y1j,y1k,y1l,y1m,y1n,y1o,y1p,y1q,y1r,retO,retL,retV,z6i,allV,allP,z6j,z6m,z6n,z6t,z6u,z6v,binV,eqV,unV,oOpt,reduceIte,reduceCtorEq,Nat.reduceEqDiff,Nat.reduceAdd,Nat.reduceMul,Nat.reduceLT,Nat.reduceSub,Int.reduceLT,Int.reduceLE,Int.reduceEq,Int.reduceNe,Int.reduceSub,Int.reduceAdd,Int.reduceMul,Int.reduceBEq,Int.reduceBNe,Int.reduceGT,Int.reduceGE,Nat.reduceGT,Int.reduceToNat,Int.reduceNeg,Nat.reduceLeDiff,Nat.reduceBEq,Nat.reduceBneDiff,Value.cells]
      have le2 := Heap.le_set (Heap.le_refl H1) hb51 (.own 0 [.slice wb L[i].length wc] 1)
      have sx : Sl (H1.set b51 (.own 0 [.slice wb L[i].length wc] 1)) 1 (.slice (some ⟨b51, 0, none⟩) 1 1) 1 [.slice wb L[i].length wc] := Sl.lit rfl
      have e2' : Ext (fun _ => False) κ1 H1 κ1 (H1.set b51 (.own 0 [.slice wb L[i].length wc] 1)) := Ext.le le2
      refine RowsK.snoc (KH1.ext e2' (fun _ _ q => q)) (by omega) sx (by rw [lT]; exact OwK.le le2 ow1) ?_
      rintro kv' H2 ⟨kb2, kc2, rfl⟩ ⟨κ2, e3', K2⟩
      rw [← et] at K2 ⊢
      have eK : Ext (fun c => c.1 = d + j + 1) κ1 H1 κ2 H2 := (e2'.mono fun c h => h.elim).trans e3'
      have R2' := RH1.ext eK (fun c h q => by omega)
      have J2' := JH1.ext eK (fun c h q => by omega)
      have B2' := Heap.le_trans BH1 eK.bare
      have c3 := ciH H2 (Heap.le_trans B2' (Heap.bare_le _ _))
      simp -implicitDefEqProofs only [zB1,zB2,zB3,zB4,zB5,zB6,zB7,zB8,zB9,zB10,zB11,y00,y01,y02,y03,y04,y05,y06,y07,y08,y09,y0a,y0b,y0c,y0d,y0e,y0f,y0g,y0h,y0i,y0j,y0k,y0l,y0m,y0n,y0o,y0p,y0q,y0r,y0s,y0t,y0u,y0v,y0w,y0x,y0y,y0z,y10,y11,y12,y13,y14,y15,y16,y17,y18,y19,y1a,y1b,y1c,y1d,y1e,y1f,y1g,y1h,y1i,y1j,y1k,y1l,y1m,y1n,y1o,y1p,y1q,y1r,retO,retL,retV,z6i,allV,allP,z6j,z6m,z6n,z6t,z6u,z6v,binV,eqV,unV,oOpt,reduceIte,reduceCtorEq,Nat.reduceEqDiff,Nat.reduceAdd,Nat.reduceMul,Nat.reduceLT,Nat.reduceSub,Int.reduceLT,Int.reduceLE,Int.reduceEq,Int.reduceNe,Int.reduceSub,Int.reduceAdd,Int.reduceMul,Int.reduceBEq,Int.reduceBNe,Int.reduceGT,Int.reduceGE,Nat.reduceGT,Int.reduceToNat,Int.reduceNeg,Nat.reduceLeDiff,Nat.reduceBEq,Nat.reduceBneDiff,Value.cells, hi1, hi2, Int.toNat_natCast, c3, List.length_replicate, List.drop_replicate, List.replicate_zero]
      intro b58 hb58
      try simp -implicitDefEqProofs only [zB1,zB2,zB3,zB4,zB5,zB6,zB7,zB8,zB9,zB10,zB11,y00,y01,y02,y03,y04,y05,y06,y07,y08,y09,y0a,y0b,y0c,y0d,y0e,y0f,y0g,y0h,y0i,y0j,y0k,y0l,y0m,y0n,y0o,y0p,y0q,y0r,y0s,y0t,y0u,y0v,y0w,y0x,y0y,y0z,y10,y11,y12,y13,y14,y15,y16,y17,y18,y19,y1a,y1b,y1c,y1d,y1e,y1f,y1g,y1h,y1i,y1j,y1k,y1l,y1m,y1n,y1o,y1p,y1q,y1r,retO,retL,retV,z6i,allV,allP,z6j,z6m,z6n,z6t,z6u,z6v,binV,eqV,unV,oOpt,reduceIte,reduceCtorEq,Nat.reduceEqDiff,Nat.reduceAdd,Nat.reduceMul,Nat.reduceLT,Nat.reduceSub,Int.reduceLT,Int.reduceLE,Int.reduceEq,Int.reduceNe,Int.reduceSub,Int.reduceAdd,Int.reduceMul,Int.reduceBEq,Int.reduceBNe,Int.reduceGT,Int.reduceGE,Nat.reduceGT,Int.reduceToNat,Int.reduceNeg,Nat.reduceLeDiff,Nat.reduceBEq,Nat.reduceBneDiff,Value.cells]
      have e4 : Ext (fun _ => False) κ2 H2 (fun i => if i = b58 then none else κ2 i) (H2.set b58 (.own 0 [.slice bi L[i].length ci] 1)) := Ext.new hb58 _ none
      have R4 := R2'.ext e4 (fun _ _ q => q)
      have J4 := J2'.ext e4 (fun _ _ q => q)
      have K4 := K2.ext e4 (fun _ _ q => q)
      have B4 := Heap.le_trans B2' e4.bare
      have sA := lit1_bare hb58 B2' si
      generalize (H2.set b58 (.own 0 [.slice bi L[i].length ci] 1)) = H4 at R4 J4 K4 B4 sA ⊢
      generalize (fun i => if i = b58 then none else κ2 i) = κ4 at R4 J4 K4 B4 sA
      clear e4
      refine (journal_Add_c E (n := i) J4 R4 ne (dS_ok hw (by omega) (by omega)) (by simp) (by simp) [L[i]] sA (by simp; omega) (by simp; omega)).mono ?_
      rintro r H5 ⟨rfl, κ5, e5, J5, R5⟩
      have hfl := frameF_len L[i]
      have ha := appendS (room := 65536) (o := o) (b := frameF L[i]) (by rw [hfl]; omega)
      rw [add1 (b := L[i]) (by simp [doneF, dS]) (by omega) (by show (appendF (dS 65536 o) (nameF 0 0) (frameF L[i])).2 = 0; rw [ha])] at J5 R5 ⊢
      simp only [ha] at J5 R5
      have K5 := K4.ext e5 (fun c h q => by rcases q with q | q <;> omega)
      simp -implicitDefEqProofs only [zB1,zB2,zB3,zB4,zB5,zB6,zB7,zB8,zB9,zB10,zB11,y00,y01,y02,y03,y04,y05,y06,y07,y08,y09,y0a,y0b,y0c,y0d,y0e,y0f,y0g,y0h,y0i,y0j,y0k,y0l,y0m,y0n,y0o,y0p,y0q,y0r,y0s,y0t,y0u,y0v,y0w,y0x,y0y,y0z,y10,y11,y12,y13,y14,y15,y16,y17,y18,y19,y1a,y1b,y1c,y1d,y1e,y1f,y1g,y1h,y1i,y1j,y1k,y1l,y1m,y1n,y1o,y1p,y1q,y1r,retO,retL,retV,z6i,allV,allP,z6j,z6m,z6n,z6t,z6u,z6v,binV,eqV,unV,oOpt,reduceIte,reduceCtorEq,Nat.reduceEqDiff,Nat.reduceAdd,Nat.reduceMul,Nat.reduceLT,Nat.reduceSub,Int.reduceLT,Int.reduceLE,Int.reduceEq,Int.reduceNe,Int.reduceSub,Int.reduceAdd,Int.reduceMul,Int.reduceBEq,Int.reduceBNe,Int.reduceGT,Int.reduceGE,Nat.reduceGT,Int.reduceToNat,Int.reduceNeg,Nat.reduceLeDiff,Nat.reduceBEq,Nat.reduceBneDiff,Value.cells, w1]
      refine ⟨_, ?_, i + 1, κ5, _, _, true, rfl, by omega, rfl, Heap.le_trans B4 e5.bare, R5, ?_, K5, ?_, ?_, ?_⟩
      · omega
      · rw [et]; exact J5
      · show (writeF (o.getD {}) (frameF L[i])).size ≤ _
        rw [write_size, hfl]; omega
      · show (writeF (o.getD {}) (frameF L[i])).writes.length ≤ _
        simp only [writeF, List.length_append, List.length_singleton]; omega
      · intro k hk hki
        by_cases h : k < i
        · exact h200 k hk h
        · have : k = i := by omega
          subst this; omega
  · have hi1 : ¬ (i : Int) < L.length := by omega
    have e0 : i = L.length := by omega
    subst e0
    rw [List.take_length] at JH KH ⊢
    have h200' : ∀ l ∈ L, l.length ≤ 1000000 := by
      intro l hl
      obtain ⟨k, hk, rfl⟩ := List.getElem_of_mem hl
      have := h200 k hk hk; omega
    simp -implicitDefEqProofs only [zB1,zB2,zB3,zB4,zB5,zB6,zB7,zB8,zB9,zB10,zB11,y00,y01,y02,y03,y04,y05,y06,y07,y08,y09,y0a,y0b,y0c,y0d,y0e,y0f,y0g,y0h,y0i,y0j,y0k,y0l,y0m,y0n,y0o,y0p,y0q,y0r,y0s,y0t,y0u,y0v,y0w,y0x,y0y,y0z,y10,y11,y12,y13,y14,y15,y16,y17,y18,y19,y1a,y1b,y1c,y1d,y1e,y1f,y1g,y1h,y1i,y1j,y1k,y1l,y1m,y1n,y1o,y1p,y1q,y1r,retO,retL,retV,z6i,allV,allP,z6j,z6m,z6n,z6t,z6u,z6v,binV,eqV,unV,oOpt,reduceIte,reduceCtorEq,Nat.reduceEqDiff,Nat.reduceAdd,Nat.reduceMul,Nat.reduceLT,Nat.reduceSub,Int.reduceLT,Int.reduceLE,Int.reduceEq,Int.reduceNe,Int.reduceSub,Int.reduceAdd,Int.reduceMul,Int.reduceBEq,Int.reduceBNe,Int.reduceGT,Int.reduceGE,Nat.reduceGT,Int.reduceToNat,Int.reduceNeg,Nat.reduceLeDiff,Nat.reduceBEq,Nat.reduceBneDiff,Value.cells, hi1]
    unfold ir_bandboxlaw14_JournalApart_61
    simp -implicitDefEqProofs only [zB1,zB2,zB3,zB4,zB5,zB6,zB7,zB8,zB9,zB10,zB11,y00,y01,y02,y03,y04,y05,y06,y07,y08,y09,y0a,y0b,y0c,y0d,y0e,y0f,y0g,y0h,y0i,y0j,y0k,y0l,y0m,y0n,y0o,y0p,y0q,y0r,y0s,y0t,y0u,y0v,y0w,y0x,y0y,y0z,y10,y11,y12,y13,y14,y15,y16,y17,y18,y19,y1a,y1b,y1c,y1d,y1e,y1f,y1g,y1h,y1i,y1j,y1k,y1l,y1m,y1n,y1o,y1p,y1q,y1r,retO,retL,retV,z6i,allV,allP,z6j,z6m,z6n,z6t,z6u,z6v,binV,eqV,unV,oOpt,reduceIte,reduceCtorEq,Nat.reduceEqDiff,Nat.reduceAdd,Nat.reduceMul,Nat.reduceLT,Nat.reduceSub,Int.reduceLT,Int.reduceLE,Int.reduceEq,Int.reduceNe,Int.reduceSub,Int.reduceAdd,Int.reduceMul,Int.reduceBEq,Int.reduceBNe,Int.reduceGT,Int.reduceGE,Nat.reduceGT,Int.reduceToNat,Int.reduceNeg,Nat.reduceLeDiff,Nat.reduceBEq,Nat.reduceBneDiff,Value.cells]
    refine (journal_All_c E JH (by simp only; omega) h200').mono ?_
    rintro av H1 ⟨le1, κi, N1⟩
    have e1 : Ext (fun _ => False) κ H (κ.merge H κi (d + j + 2)) H1 := Ext.merge _ le1
    have A1 : RowsK (κ.merge H κi (d + j + 2)) H1 (d + j + 2) av L := N1.rows _
    have J1 := JH.ext e1 (fun _ _ q => q)
    have K1 := KH.ext e1 (fun _ _ q => q)
    generalize κ.merge H κi (d + j + 2) = κ1 at A1 J1 K1
    clear e1
    obtain ⟨ab, ac, rfl⟩ := A1.sl.shape
    simp -implicitDefEqProofs only [zB1,zB2,zB3,zB4,zB5,zB6,zB7,zB8,zB9,zB10,zB11,y00,y01,y02,y03,y04,y05,y06,y07,y08,y09,y0a,y0b,y0c,y0d,y0e,y0f,y0g,y0h,y0i,y0j,y0k,y0l,y0m,y0n,y0o,y0p,y0q,y0r,y0s,y0t,y0u,y0v,y0w,y0x,y0y,y0z,y10,y11,y12,y13,y14,y15,y16,y17,y18,y19,y1a,y1b,y1c,y1d,y1e,y1f,y1g,y1h,y1i,y1j,y1k,y1l,y1m,y1n,y1o,y1p,y1q,y1r,retO,retL,retV,z6i,allV,allP,z6j,z6m,z6n,z6t,z6u,z6v,binV,eqV,unV,oOpt,reduceIte,reduceCtorEq,Nat.reduceEqDiff,Nat.reduceAdd,Nat.reduceMul,Nat.reduceLT,Nat.reduceSub,Int.reduceLT,Int.reduceLE,Int.reduceEq,Int.reduceNe,Int.reduceSub,Int.reduceAdd,Int.reduceMul,Int.reduceBEq,Int.reduceBNe,Int.reduceGT,Int.reduceGE,Nat.reduceGT,Int.reduceToNat,Int.reduceNeg,Nat.reduceLeDiff,Nat.reduceBEq,Nat.reduceBneDiff,Value.cells]
    refine wp_loop' (fun m t G => ∃ (i : Nat) (M : List (List UInt8)) (κ1 : Pal), t = tl [(5, ptrV j), (7, .slice kb L.length kc), (9, .slice ab L.length ac), (10, .int .i64 i)] ∧ i ≤ L.length ∧ m = L.length - i ∧ M.length = L.length ∧
        RowsK κ1 G (d + j + 2) (.slice ab L.length ac) M ∧ JouR κ1 G j d { lives := 1, written := w, recs := L } ∧ RowsK κ1 G (d + j + 1) (.slice kb L.length kc) L ∧ ∀ l ∈ M, l.length ≤ 1000000) L.length
      ⟨0, L, κ1, rfl, by omega, by omega, rfl, A1, J1, K1, h200'⟩ ?_
    rintro m t G ⟨i, M, κ2, rfl, hi, rfl, hM, AG, JG, KG, hM2⟩
    by_cases hlt : i < L.length
    · have hi1 : (i : Int) < L.length := by omega
      have w1 : IntKind.i64.wrap ((i : Int) + 1) = ((i + 1 : Nat) : Int) := wrapN (by omega)
      simp -implicitDefEqProofs only [zB1,zB2,zB3,zB4,zB5,zB6,zB7,zB8,zB9,zB10,zB11,y00,y01,y02,y03,y04,y05,y06,y07,y08,y09,y0a,y0b,y0c,y0d,y0e,y0f,y0g,y0h,y0i,y0j,y0k,y0l,y0m,y0n,y0o,y0p,y0q,y0r,y0s,y0t,y0u,y0v,y0w,y0x,y0y,y0z,y10,y11,y12,y13,y14,y15,y16,y17,y18,y19,y1a,y1b,y1c,y1d,y1e,y1f,y1g,y1h,y1i,y1j,y1k,y1l,y1m,y1n,y1o,y1p,y1q,y1r,retO,retL,retV,z6i,allV,allP,z6j,z6m,z6n,z6t,z6u,z6v,binV,eqV,unV,oOpt,reduceIte,reduceCtorEq,Nat.reduceEqDiff,Nat.reduceAdd,Nat.reduceMul,Nat.reduceLT,Nat.reduceSub,Int.reduceLT,Int.reduceLE,Int.reduceEq,Int.reduceNe,Int.reduceSub,Int.reduceAdd,Int.reduceMul,Int.reduceBEq,Int.reduceBNe,Int.reduceGT,Int.reduceGE,Nat.reduceGT,Int.reduceToNat,Int.reduceNeg,Nat.reduceLeDiff,Nat.reduceBEq,Nat.reduceBneDiff,Value.cells, hi1]
      unfold ir_bandboxlaw14_JournalApart_11
      simp -implicitDefEqProofs only [zB1,zB2,zB3,zB4,zB5,zB6,zB7,zB8,zB9,zB10,zB11,y00,y01,y02,y03,y04,y05,y06,y07,y08,y09,y0a,y0b,y0c,y0d,y0e,y0f,y0g,y0h,y0i,y0j,y0k,y0l,y0m,y0n,y0o,y0p,y0q,y0r,y0s,y0t,y0u,y0v,y0w,y0x,y0y,y0z,y10,y11,y12,y13,y14,y15,y16,y17,y18,y19,y1a,y1b,y1c,y1d,y1e,y1f,y1g,y1h,y1i,y1j,y1k,y1l,y1m,y1n,y1o,y1p,y1q,y1r,retO,retL,retV,z6i,allV,allP,z6j,z6m,z6n,z6t,z6u,z6v,binV,eqV,unV,oOpt,reduceIte,reduceCtorEq,Nat.reduceEqDiff,Nat.reduceAdd,Nat.reduceMul,Nat.reduceLT,Nat.reduceSub,Int.reduceLT,Int.reduceLE,Int.reduceEq,Int.reduceNe,Int.reduceSub,Int.reduceAdd,Int.reduceMul,Int.reduceBEq,Int.reduceBNe,Int.reduceGT,Int.reduceGE,Nat.reduceGT,Int.reduceToNat,Int.reduceNeg,Nat.reduceLeDiff,Nat.reduceBEq,Nat.reduceBneDiff,Value.cells]
      refine wp_loop' (fun m t G => ∃ (k : Nat) (M : List (List UInt8)) (hM : M.length = L.length) (κ1 : Pal), t = tl [(5, ptrV j), (7, .slice kb L.length kc), (9, .slice ab L.length ac), (10, .int .i64 i), (11, .int .i64 k)] ∧ k ≤ (M[i]'(by omega)).length ∧ m = (M[i]'(by omega)).length - k ∧
          RowsK κ1 G (d + j + 2) (.slice ab L.length ac) M ∧ JouR κ1 G j d { lives := 1, written := w, recs := L } ∧ RowsK κ1 G (d + j + 1) (.slice kb L.length kc) L ∧ ∀ l ∈ M, l.length ≤ 1000000) (M[i]'(by omega)).length
        ⟨0, M, hM, κ2, rfl, by omega, by omega, AG, JG, KG, hM2⟩ ?_
      clear AG JG KG hM2
      rintro m t F ⟨k, N, hN, κF, rfl, hk, rfl, AF, JF', KF, hN2⟩
      have hi2 : (0 : Int) ≤ i := by omega
      have hiN : i < N.length := by omega
      have sN : SlL F (.slice ab N.length ac) N := by rw [hN]; exact AF.sl
      obtain ⟨b, o2, bi, ci, rfl, si, ciH⟩ := sN.at' i hiN
      have c1 := ciH F (Heap.le_refl _)
      obtain ⟨vs, sv, lv, ev⟩ := AF
      have evi := ev i (by omega) hiN
      have hvi : vs[i]'(by omega) = .slice bi N[i].length ci := by
        have h1 := sv.sl.ptr (by omega) (by omega)
        obtain ⟨b', o', c', e, hc, hcl⟩ := h1
        simp only [Value.slice.injEq, Option.some.injEq, Addr.mk.injEq, true_and, and_true] at e
        obtain ⟨⟨rfl, rfl⟩, -, rfl⟩ := e
        rw [Nat.mul_one] at hcl
        have := hcell_of hcl i (by omega)
        rw [c1, List.getElem?_eq_getElem (by omega)] at this
        exact (Option.some.inj this).symm
      rw [hvi] at evi
      by_cases hlk : k < N[i].length
      · have hk1 : (k : Int) < N[i].length := by omega
        have hk2 : (0 : Int) ≤ k := by omega
        have hNi := hN2 _ (List.getElem_mem hiN)
        have w2 : IntKind.i64.wrap ((k : Int) + 1) = ((k + 1 : Nat) : Int) := wrapN (by omega)
        obtain ⟨b3, o3, c3, e3, hc3, cl3⟩ := si.byte_at k hlk
        simp only [Value.slice.injEq, true_and] at e3
        obtain ⟨rfl, rfl⟩ := e3
        have l3 := cl3 F (Heap.le_refl _)
        unfold u8V at l3
        have wz : IntKind.u8.wrap ((N[i][k].toNat : Int) + 1) = ((N[i][k] + 1).toNat : Int) := by
          rw [wrap_u8, show ((N[i][k].toNat : Int) + 1) = ((N[i][k].toNat + 1 : Nat) : Int) from rfl, ofInt_nat, BitVec.toNat_ofNat]
          simp [UInt8.toNat_add]
        obtain ⟨F', st, ow', le'⟩ := Ow.store1 evi hlk (v := .int .u8 ((N[i][k] + 1).toNat : Int)) rfl
        have eF := Ext.grow (le' (Heap.but_le _ _ _))
        have ow2 := OwK.grown ow'
        simp -implicitDefEqProofs only [zB1,zB2,zB3,zB4,zB5,zB6,zB7,zB8,zB9,zB10,zB11,y00,y01,y02,y03,y04,y05,y06,y07,y08,y09,y0a,y0b,y0c,y0d,y0e,y0f,y0g,y0h,y0i,y0j,y0k,y0l,y0m,y0n,y0o,y0p,y0q,y0r,y0s,y0t,y0u,y0v,y0w,y0x,y0y,y0z,y10,y11,y12,y13,y14,y15,y16,y17,y18,y19,y1a,y1b,y1c,y1d,y1e,y1f,y1g,y1h,y1i,y1j,y1k,y1l,y1m,y1n,y1o,y1p,y1q,y1r,retO,retL,retV,z6i,allV,allP,z6j,z6m,z6n,z6t,z6u,z6v,binV,eqV,unV,oOpt,reduceIte,reduceCtorEq,Nat.reduceEqDiff,Nat.reduceAdd,Nat.reduceMul,Nat.reduceLT,Nat.reduceSub,Int.reduceLT,Int.reduceLE,Int.reduceEq,Int.reduceNe,Int.reduceSub,Int.reduceAdd,Int.reduceMul,Int.reduceBEq,Int.reduceBNe,Int.reduceGT,Int.reduceGE,Nat.reduceGT,Int.reduceToNat,Int.reduceNeg,Nat.reduceLeDiff,Nat.reduceBEq,Nat.reduceBneDiff,Value.cells, hi1, hi2, hk1, hk2, Int.toNat_natCast, c1, l3, wz, st, w2]
        have lN : (N.set i (N[i].set k (N[i][k] + 1))).length = L.length := by simpa using hN
        have eN : (N.set i (N[i].set k (N[i][k] + 1)))[i]'(by simpa using hiN) = N[i].set k (N[i][k] + 1) := by simp
        have lN2 : ((N.set i (N[i].set k (N[i][k] + 1)))[i]'(by simpa using hiN)).length = N[i].length := by rw [eN]; simp
        refine ⟨_, ?_, k + 1, N.set i (N[i].set k (N[i][k] + 1)), lN, κF.grow F (d + j + 2, i, 11), rfl, ?_, rfl, ⟨vs, ?_, by simpa using lv, ?_⟩, JF'.ext eF (fun c h q => by subst q; simp only at h; omega), KF.ext eF (fun c h q => by subst q; simp only at h; omega), ?_⟩
        · rw [lN2]; omega
        · rw [lN2]; omega
        · have := eF.own (by simp) sv
          rw [hN] at this
          rw [lN]; exact this
        · intro q h1 h2
          by_cases e : q = i
          · subst e
            have e2 : ((N[q].map u8V).set k (.int .u8 ((N[q][k] + 1).toNat : Int))) = (N[q].set k (N[q][k] + 1)).map u8V := by rw [List.map_set]; rfl
            rw [e2] at ow2
            rw [hvi]
            have e3 : (N.set q (N[q].set k (N[q][k] + 1)))[q]'h2 = N[q].set k (N[q][k] + 1) := by simp
            rw [e3]
            have e4 : (N[q].set k (N[q][k] + 1)).length = N[q].length := by simp
            rw [e4]
            exact ow2
          · have := ev q h1 (by simpa using h2)
            have e3 : (N.set i (N[i].set k (N[i][k] + 1)))[q]'h2 = N[q]'(by simpa using h2) := by
              rw [List.getElem_set, if_neg (by omega)]
            rw [e3]
            exact eF.own (by simp; omega) this
        · intro l hl
          rcases List.mem_or_eq_of_mem_set hl with hl | rfl
          · exact hN2 l hl
          · simpa using hNi
      · have hk1 : ¬ (k : Int) < N[i].length := by omega
        simp -implicitDefEqProofs only [zB1,zB2,zB3,zB4,zB5,zB6,zB7,zB8,zB9,zB10,zB11,y00,y01,y02,y03,y04,y05,y06,y07,y08,y09,y0a,y0b,y0c,y0d,y0e,y0f,y0g,y0h,y0i,y0j,y0k,y0l,y0m,y0n,y0o,y0p,y0q,y0r,y0s,y0t,y0u,y0v,y0w,y0x,y0y,y0z,y10,y11,y12,y13,y14,y15,y16,y17,y18,y19,y1a,y1b,y1c,y1d,y1e,y1f,y1g,y1h,y1i,y1j,y1k,y1l,y1m,y1n,y1o,y1p,y1q,y1r,retO,retL,retV,z6i,allV,allP,z6j,z6m,z6n,z6t,z6u,z6v,binV,eqV,unV,oOpt,reduceIte,reduceCtorEq,Nat.reduceEqDiff,Nat.reduceAdd,Nat.reduceMul,Nat.reduceLT,Nat.reduceSub,Int.reduceLT,Int.reduceLE,Int.reduceEq,Int.reduceNe,Int.reduceSub,Int.reduceAdd,Int.reduceMul,Int.reduceBEq,Int.reduceBNe,Int.reduceGT,Int.reduceGE,Nat.reduceGT,Int.reduceToNat,Int.reduceNeg,Nat.reduceLeDiff,Nat.reduceBEq,Nat.reduceBneDiff,Value.cells, hi1, hi2, Int.toNat_natCast, c1, hk1, w1]
        refine ⟨_, ?_, i + 1, N, κF, rfl, by omega, rfl, hN, ⟨vs, sv, lv, ev⟩, JF', KF, hN2⟩
        omega
    · have hi1 : ¬ (i : Int) < L.length := by omega
      simp -implicitDefEqProofs only [zB1,zB2,zB3,zB4,zB5,zB6,zB7,zB8,zB9,zB10,zB11,y00,y01,y02,y03,y04,y05,y06,y07,y08,y09,y0a,y0b,y0c,y0d,y0e,y0f,y0g,y0h,y0i,y0j,y0k,y0l,y0m,y0n,y0o,y0p,y0q,y0r,y0s,y0t,y0u,y0v,y0w,y0x,y0y,y0z,y10,y11,y12,y13,y14,y15,y16,y17,y18,y19,y1a,y1b,y1c,y1d,y1e,y1f,y1g,y1h,y1i,y1j,y1k,y1l,y1m,y1n,y1o,y1p,y1q,y1r,retO,retL,retV,z6i,allV,allP,z6j,z6m,z6n,z6t,z6u,z6v,binV,eqV,unV,oOpt,reduceIte,reduceCtorEq,Nat.reduceEqDiff,Nat.reduceAdd,Nat.reduceMul,Nat.reduceLT,Nat.reduceSub,Int.reduceLT,Int.reduceLE,Int.reduceEq,Int.reduceNe,Int.reduceSub,Int.reduceAdd,Int.reduceMul,Int.reduceBEq,Int.reduceBNe,Int.reduceGT,Int.reduceGE,Nat.reduceGT,Int.reduceToNat,Int.reduceNeg,Nat.reduceLeDiff,Nat.reduceBEq,Nat.reduceBneDiff,Value.cells, hi1]
      refine (journal_All_c E JG (by simp only; omega) h200').mono ?_
      rintro av H2 ⟨le2, κi, N2⟩
      have s1 := N2.sl
      have s2 := KG.sl.le le2
      obtain ⟨b2, c2, rfl⟩ := s1.shape
      simp -implicitDefEqProofs only [zB1,zB2,zB3,zB4,zB5,zB6,zB7,zB8,zB9,zB10,zB11,y00,y01,y02,y03,y04,y05,y06,y07,y08,y09,y0a,y0b,y0c,y0d,y0e,y0f,y0g,y0h,y0i,y0j,y0k,y0l,y0m,y0n,y0o,y0p,y0q,y0r,y0s,y0t,y0u,y0v,y0w,y0x,y0y,y0z,y10,y11,y12,y13,y14,y15,y16,y17,y18,y19,y1a,y1b,y1c,y1d,y1e,y1f,y1g,y1h,y1i,y1j,y1k,y1l,y1m,y1n,y1o,y1p,y1q,y1r,retO,retL,retV,z6i,allV,allP,z6j,z6m,z6n,z6t,z6u,z6v,binV,eqV,unV,oOpt,reduceIte,reduceCtorEq,Nat.reduceEqDiff,Nat.reduceAdd,Nat.reduceMul,Nat.reduceLT,Nat.reduceSub,Int.reduceLT,Int.reduceLE,Int.reduceEq,Int.reduceNe,Int.reduceSub,Int.reduceAdd,Int.reduceMul,Int.reduceBEq,Int.reduceBNe,Int.reduceGT,Int.reduceGE,Nat.reduceGT,Int.reduceToNat,Int.reduceNeg,Nat.reduceLeDiff,Nat.reduceBEq,Nat.reduceBneDiff,Value.cells]
      refine (law14_same_c E L L s1 s2 (by omega) (by omega)).mono ?_
      rintro r H3 ⟨rfl, rfl⟩
      simp -implicitDefEqProofs only [zB1,zB2,zB3,zB4,zB5,zB6,zB7,zB8,zB9,zB10,zB11,y00,y01,y02,y03,y04,y05,y06,y07,y08,y09,y0a,y0b,y0c,y0d,y0e,y0f,y0g,y0h,y0i,y0j,y0k,y0l,y0m,y0n,y0o,y0p,y0q,y0r,y0s,y0t,y0u,y0v,y0w,y0x,y0y,y0z,y10,y11,y12,y13,y14,y15,y16,y17,y18,y19,y1a,y1b,y1c,y1d,y1e,y1f,y1g,y1h,y1i,y1j,y1k,y1l,y1m,y1n,y1o,y1p,y1q,y1r,retO,retL,retV,z6i,allV,allP,z6j,z6m,z6n,z6t,z6u,z6v,binV,eqV,unV,oOpt,reduceIte,reduceCtorEq,Nat.reduceEqDiff,Nat.reduceAdd,Nat.reduceMul,Nat.reduceLT,Nat.reduceSub,Int.reduceLT,Int.reduceLE,Int.reduceEq,Int.reduceNe,Int.reduceSub,Int.reduceAdd,Int.reduceMul,Int.reduceBEq,Int.reduceBNe,Int.reduceGT,Int.reduceGE,Nat.reduceGT,Int.reduceToNat,Int.reduceNeg,Nat.reduceLeDiff,Nat.reduceBEq,Nat.reduceBneDiff,Value.cells]
end Go.Bb
