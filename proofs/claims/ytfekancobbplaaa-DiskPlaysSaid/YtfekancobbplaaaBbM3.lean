/- My contracts: BbCref11e BbCref11f BbLdsk3 BbLdsk4. -/
import Derived.Test.YtfekancobbplaaaBbG3
import Derived.Test.YtfekancobbplaaaBbM2
/- Contracts: the document's own disk: rename. -/
namespace Go.Bb
set_option linter.unusedSimpArgs false
set_option linter.unusedVariables false
set_option maxRecDepth 20000
set_option maxHeartbeats 2000000

section
variable {κ : Pal} {H : Heap} {w : Nat} {D : DiskF} {lv : Value} {cs : List (List Value)}
theorem Ext.setnew {cs : Col → Prop} {κ κ' : Pal} {H H' : Heap} (e : Ext cs κ H κ' H') {b : Nat} (hb : H b = none) (X : Blk) : Ext cs κ H κ' (H'.set b X) := by
  intro c x q n
  obtain ⟨h1, h2⟩ := e c x q n
  refine ⟨?_, h2⟩
  rw [Heap.set_ne]
  · exact h1
  · intro h; subst h; rw [hb] at q; cases q
/-- The document's own answer. -/
def renameW (D : DiskF) (s t : List UInt8) : DiskF × Nat :=
  if askF D [s, t] = 0 then
    match lookF D.files s with
    | none => (D, 4)
    | some F => if s = t then (D, 0) else ({ D with files := delFile (delFile D.files s) t ++ [(t, F)] }, 0)
  else (D, askF D [s, t])
theorem nd_del {L : Files} (nd : (L.map (·.1)).Nodup) (s : List UInt8) : ((delFile L s).map (·.1)).Nodup := (List.filter_sublist.map _).nodup nd
theorem ref_Rename_c (E : EnvT tab) (R : WR κ H w D) (hn : D.files.length ≤ 90000) (nd : (D.files.map (·.1)).Nodup) (s t : List UInt8) (hs : s.length ≤ 9000000000000000000) (ht : t.length ≤ 9000000000000000000) :
    ACallN E.toEnv n_bandboxref11_Disk_Rename [ptrV w, strV s, strV t] H fun v H' => v = .int .i64 ((renameW D s t).2 : Nat) ∧ ∃ κ', Ext (wC w) κ H κ' H' ∧ WR κ' H' w (renameW D s t).1 := by
  have R0 := R
  obtain ⟨lv, cs, R⟩ := R
  obtain ⟨lb, lc, rfl⟩ := Sl.shape R.o.sl
  refine acall h_bandboxref11_Disk_Rename ir_bandboxref11_Disk_Rename rfl rfl (wpA_sound ?_)
  unfold ir_bandboxref11_Disk_Rename
  have c1 : ∀ G, H.le G → hcell G ⟨w, 1, none⟩ = some (.slice lb D.files.length lc) := fun G x => by rw [hcell_at (x _ _ R.q) (by simp)]; rfl
  have c2 : hcell H ⟨w, 2, none⟩ = some (.bool (!D.on)) := by rw [hcell_at R.q (by simp)]; rfl
  unfold renameW
  by_cases on : D.on = true
  · rw [on] at c2
    simp -implicitDefEqProofs only [zB1,zB2,zB3,zB4,zB5,zB6,zB7,zB8,zB9,zB10,zB11,y00,y01,y02,y03,y04,y05,y06,y07,y08,y09,y0a,y0b,y0c,y0d,y0e,y0f,y0g,y0h,y0i,y0j,y0k,y0l,y0m,y0n,y0o,y0p,y0q,y0r,y0s,y0t,y0u,y0v,y0w,y0x,y0y,y0z,y10,y11,y12,y13,y14,y15,y16,y17,y18,y19,y1a,y1b,y1c,y1d,y1e,y1f,y1g,y1h,y1i,y1j,y1k,y1l,y1m,y1n,y1o,y1p,y1q,y1r,retO,retL,retV,z6i,allV,allP,z6j,z6m,z6n,z6t,z6u,z6v,binV,eqV,unV,oOpt,reduceIte,reduceCtorEq,Nat.reduceEqDiff,Nat.reduceAdd,Nat.reduceMul,Nat.reduceLT,Nat.reduceSub,Int.reduceLT,Int.reduceLE,Int.reduceEq,Int.reduceNe,Int.reduceSub,Int.reduceAdd,Int.reduceMul,Int.reduceBEq,Int.reduceBNe,Int.reduceGT,Int.reduceGE,Nat.reduceGT,Int.reduceToNat,Int.reduceNeg,Nat.reduceLeDiff,Nat.reduceBEq,Nat.reduceBneDiff,Value.cells, c2]
    refine (ref_May_c E H s hs).mono ?_
    rintro v H1 ⟨rfl, rfl⟩
    by_cases g1 : goodName s = true
    · simp -implicitDefEqProofs only [zB1,zB2,zB3,zB4,zB5,zB6,zB7,zB8,zB9,zB10,zB11,y00,y01,y02,y03,y04,y05,y06,y07,y08,y09,y0a,y0b,y0c,y0d,y0e,y0f,y0g,y0h,y0i,y0j,y0k,y0l,y0m,y0n,y0o,y0p,y0q,y0r,y0s,y0t,y0u,y0v,y0w,y0x,y0y,y0z,y10,y11,y12,y13,y14,y15,y16,y17,y18,y19,y1a,y1b,y1c,y1d,y1e,y1f,y1g,y1h,y1i,y1j,y1k,y1l,y1m,y1n,y1o,y1p,y1q,y1r,retO,retL,retV,z6i,allV,allP,z6j,z6m,z6n,z6t,z6u,z6v,binV,eqV,unV,oOpt,reduceIte,reduceCtorEq,Nat.reduceEqDiff,Nat.reduceAdd,Nat.reduceMul,Nat.reduceLT,Nat.reduceSub,Int.reduceLT,Int.reduceLE,Int.reduceEq,Int.reduceNe,Int.reduceSub,Int.reduceAdd,Int.reduceMul,Int.reduceBEq,Int.reduceBNe,Int.reduceGT,Int.reduceGE,Nat.reduceGT,Int.reduceToNat,Int.reduceNeg,Nat.reduceLeDiff,Nat.reduceBEq,Nat.reduceBneDiff,Value.cells, g1]
      refine (ref_May_c E H1 t ht).mono ?_
      rintro v H2 ⟨rfl, rfl⟩
      by_cases g2 : goodName t = true
      · have a0 : askF D [s, t] = 0 := by simp [askF, on, g1, g2]
        rw [if_pos a0]
        simp -implicitDefEqProofs only [zB1,zB2,zB3,zB4,zB5,zB6,zB7,zB8,zB9,zB10,zB11,y00,y01,y02,y03,y04,y05,y06,y07,y08,y09,y0a,y0b,y0c,y0d,y0e,y0f,y0g,y0h,y0i,y0j,y0k,y0l,y0m,y0n,y0o,y0p,y0q,y0r,y0s,y0t,y0u,y0v,y0w,y0x,y0y,y0z,y10,y11,y12,y13,y14,y15,y16,y17,y18,y19,y1a,y1b,y1c,y1d,y1e,y1f,y1g,y1h,y1i,y1j,y1k,y1l,y1m,y1n,y1o,y1p,y1q,y1r,retO,retL,retV,z6i,allV,allP,z6j,z6m,z6n,z6t,z6u,z6v,binV,eqV,unV,oOpt,reduceIte,reduceCtorEq,Nat.reduceEqDiff,Nat.reduceAdd,Nat.reduceMul,Nat.reduceLT,Nat.reduceSub,Int.reduceLT,Int.reduceLE,Int.reduceEq,Int.reduceNe,Int.reduceSub,Int.reduceAdd,Int.reduceMul,Int.reduceBEq,Int.reduceBNe,Int.reduceGT,Int.reduceGE,Nat.reduceGT,Int.reduceToNat,Int.reduceNeg,Nat.reduceLeDiff,Nat.reduceBEq,Nat.reduceBneDiff,Value.cells, g2]
        unfold ir_bandboxref11_Disk_Rename_22
        simp -implicitDefEqProofs only [zB1,zB2,zB3,zB4,zB5,zB6,zB7,zB8,zB9,zB10,zB11,y00,y01,y02,y03,y04,y05,y06,y07,y08,y09,y0a,y0b,y0c,y0d,y0e,y0f,y0g,y0h,y0i,y0j,y0k,y0l,y0m,y0n,y0o,y0p,y0q,y0r,y0s,y0t,y0u,y0v,y0w,y0x,y0y,y0z,y10,y11,y12,y13,y14,y15,y16,y17,y18,y19,y1a,y1b,y1c,y1d,y1e,y1f,y1g,y1h,y1i,y1j,y1k,y1l,y1m,y1n,y1o,y1p,y1q,y1r,retO,retL,retV,z6i,allV,allP,z6j,z6m,z6n,z6t,z6u,z6v,binV,eqV,unV,oOpt,reduceIte,reduceCtorEq,Nat.reduceEqDiff,Nat.reduceAdd,Nat.reduceMul,Nat.reduceLT,Nat.reduceSub,Int.reduceLT,Int.reduceLE,Int.reduceEq,Int.reduceNe,Int.reduceSub,Int.reduceAdd,Int.reduceMul,Int.reduceBEq,Int.reduceBNe,Int.reduceGT,Int.reduceGE,Nat.reduceGT,Int.reduceToNat,Int.reduceNeg,Nat.reduceLeDiff,Nat.reduceBEq,Nat.reduceBneDiff,Value.cells]
        refine (ref_find_c E R0 s (by omega)).mono ?_
        rintro v H3 ⟨rfl, rfl⟩
        by_cases hx : idxF D.files s < D.files.length
        · obtain ⟨A, x, B, e1, e2, e3, e4⟩ := idx_split hx
          have hA : ¬ (A.length : Int) < 0 := by omega
          rw [e4] at hx
          rw [look_split e1 e2 e3]
          by_cases st : s = t
          · subst st
            simp -implicitDefEqProofs only [zB1,zB2,zB3,zB4,zB5,zB6,zB7,zB8,zB9,zB10,zB11,y00,y01,y02,y03,y04,y05,y06,y07,y08,y09,y0a,y0b,y0c,y0d,y0e,y0f,y0g,y0h,y0i,y0j,y0k,y0l,y0m,y0n,y0o,y0p,y0q,y0r,y0s,y0t,y0u,y0v,y0w,y0x,y0y,y0z,y10,y11,y12,y13,y14,y15,y16,y17,y18,y19,y1a,y1b,y1c,y1d,y1e,y1f,y1g,y1h,y1i,y1j,y1k,y1l,y1m,y1n,y1o,y1p,y1q,y1r,retO,retL,retV,z6i,allV,allP,z6j,z6m,z6n,z6t,z6u,z6v,binV,eqV,unV,oOpt,reduceIte,reduceCtorEq,Nat.reduceEqDiff,Nat.reduceAdd,Nat.reduceMul,Nat.reduceLT,Nat.reduceSub,Int.reduceLT,Int.reduceLE,Int.reduceEq,Int.reduceNe,Int.reduceSub,Int.reduceAdd,Int.reduceMul,Int.reduceBEq,Int.reduceBNe,Int.reduceGT,Int.reduceGE,Nat.reduceGT,Int.reduceToNat,Int.reduceNeg,Nat.reduceLeDiff,Nat.reduceBEq,Nat.reduceBneDiff,Value.cells, hx, e4, hA, strV, if_true, beq_self_eq_true]
            exact ⟨κ, Ext.refl _ _ _, R0⟩
          · have st2 : (s == t) = false := by simpa using st
            have hi1 : (A.length : Int) < D.files.length := by omega
            have hi2 : (0 : Int) ≤ A.length := by omega
            obtain ⟨b, o, c, sv, wv, hv, -, s1, s2, hc⟩ := R.at' hx
            simp only [Value.slice.injEq, true_and] at hv
            obtain ⟨rfl, rfl⟩ := hv
            obtain ⟨cn, -, -⟩ := hc H3 (Heap.le_refl _)
            have ex : D.files[A.length] = x := by simp [e1]
            rw [ex] at s1 s2 cn
            have c13 := c1 H3 (Heap.le_refl _)
            simp only [strV] at cn
            simp -implicitDefEqProofs only [zB1,zB2,zB3,zB4,zB5,zB6,zB7,zB8,zB9,zB10,zB11,y00,y01,y02,y03,y04,y05,y06,y07,y08,y09,y0a,y0b,y0c,y0d,y0e,y0f,y0g,y0h,y0i,y0j,y0k,y0l,y0m,y0n,y0o,y0p,y0q,y0r,y0s,y0t,y0u,y0v,y0w,y0x,y0y,y0z,y10,y11,y12,y13,y14,y15,y16,y17,y18,y19,y1a,y1b,y1c,y1d,y1e,y1f,y1g,y1h,y1i,y1j,y1k,y1l,y1m,y1n,y1o,y1p,y1q,y1r,retO,retL,retV,z6i,allV,allP,z6j,z6m,z6n,z6t,z6u,z6v,binV,eqV,unV,oOpt,reduceIte,reduceCtorEq,Nat.reduceEqDiff,Nat.reduceAdd,Nat.reduceMul,Nat.reduceLT,Nat.reduceSub,Int.reduceLT,Int.reduceLE,Int.reduceEq,Int.reduceNe,Int.reduceSub,Int.reduceAdd,Int.reduceMul,Int.reduceBEq,Int.reduceBNe,Int.reduceGT,Int.reduceGE,Nat.reduceGT,Int.reduceToNat,Int.reduceNeg,Nat.reduceLeDiff,Nat.reduceBEq,Nat.reduceBneDiff,Value.cells, hx, e4, hA, strV, str_toList, st2, st, c13, hi1, hi2, Int.toNat_natCast, cn]
            intro bx hbx
            have ob : ∃ bs cs2, sv = .slice bs x.2.safe.length cs2 := Sl.shape s1
            have owv : ∃ bs cs2, wv = .slice bs x.2.writes.length cs2 := s2.shape
            obtain ⟨vb, vc, rfl⟩ := ob
            obtain ⟨wb, wc, rfl⟩ := owv
            have stB : storeV (H3.set bx (.own 0 [.string .empty, .slice none 0 0, .slice none 0 0] 3)) 3 (.pointer (some ⟨bx, 0, none⟩)) (.agg #[.string ⟨x.1.toArray⟩, .slice vb x.2.safe.length vc, .slice wb x.2.writes.length wc]) = some ((H3.set bx (.own 0 [.string .empty, .slice none 0 0, .slice none 0 0] 3)).set bx (.own 0 [.string ⟨x.1.toArray⟩, .slice vb x.2.safe.length vc, .slice wb x.2.writes.length wc] 3)) :=
              storeV_agg_at (us := [.string ⟨x.1.toArray⟩, .slice vb x.2.safe.length vc, .slice wb x.2.writes.length wc]) (Heap.set_self _ _ _) (by omega) rfl rfl rfl (by omega)
            rw [Heap.set_set] at stB
            simp -implicitDefEqProofs only [zB1,zB2,zB3,zB4,zB5,zB6,zB7,zB8,zB9,zB10,zB11,y00,y01,y02,y03,y04,y05,y06,y07,y08,y09,y0a,y0b,y0c,y0d,y0e,y0f,y0g,y0h,y0i,y0j,y0k,y0l,y0m,y0n,y0o,y0p,y0q,y0r,y0s,y0t,y0u,y0v,y0w,y0x,y0y,y0z,y10,y11,y12,y13,y14,y15,y16,y17,y18,y19,y1a,y1b,y1c,y1d,y1e,y1f,y1g,y1h,y1i,y1j,y1k,y1l,y1m,y1n,y1o,y1p,y1q,y1r,retO,retL,retV,z6i,allV,allP,z6j,z6m,z6n,z6t,z6u,z6v,binV,eqV,unV,oOpt,reduceIte,reduceCtorEq,Nat.reduceEqDiff,Nat.reduceAdd,Nat.reduceMul,Nat.reduceLT,Nat.reduceSub,Int.reduceLT,Int.reduceLE,Int.reduceEq,Int.reduceNe,Int.reduceSub,Int.reduceAdd,Int.reduceMul,Int.reduceBEq,Int.reduceBNe,Int.reduceGT,Int.reduceGE,Nat.reduceGT,Int.reduceToNat,Int.reduceNeg,Nat.reduceLeDiff,Nat.reduceBEq,Nat.reduceBneDiff,Value.cells, stB]
            have eb : Ext (wC w) κ H3 (fun i => if i = bx then some (w + 1, 0, 0) else κ i) (H3.set bx (.own 0 [.string ⟨x.1.toArray⟩, .slice vb x.2.safe.length vc, .slice wb x.2.writes.length wc] 3)) := Ext.new hbx _ _
            have eb' : Ext (fun _ => False) κ H3 (fun i => if i = bx then some (w + 1, 0, 0) else κ i) (H3.set bx (.own 0 [.string ⟨x.1.toArray⟩, .slice vb x.2.safe.length vc, .slice wb x.2.writes.length wc] 3)) := Ext.new hbx _ _
            have kb : (fun i => if i = bx then some (w + 1, 0, 0) else κ i) bx = some ((w + 1, 0, 0) : Col) := by simp
            have qb := Heap.set_self H3 bx (.own 0 [.string ⟨x.1.toArray⟩, .slice vb x.2.safe.length vc, .slice wb x.2.writes.length wc] 3)
            have Rb := R0.ext eb' (fun _ _ q => q)
            have sb1 := s1.le eb'.bare
            have sb2 := s2.le eb'.bare
            generalize (H3.set bx (.own 0 [.string ⟨x.1.toArray⟩, .slice vb x.2.safe.length vc, .slice wb x.2.writes.length wc] 3)) = H4 at *
            generalize (fun i => if i = bx then some ((w + 1, 0, 0) : Col) else κ i) = κ4 at *
            refine (ref_drop_c E Rb (by omega) e1).mono ?_
            rintro v H5 ⟨κ5, e5, R5⟩
            simp -implicitDefEqProofs only [zB1,zB2,zB3,zB4,zB5,zB6,zB7,zB8,zB9,zB10,zB11,y00,y01,y02,y03,y04,y05,y06,y07,y08,y09,y0a,y0b,y0c,y0d,y0e,y0f,y0g,y0h,y0i,y0j,y0k,y0l,y0m,y0n,y0o,y0p,y0q,y0r,y0s,y0t,y0u,y0v,y0w,y0x,y0y,y0z,y10,y11,y12,y13,y14,y15,y16,y17,y18,y19,y1a,y1b,y1c,y1d,y1e,y1f,y1g,y1h,y1i,y1j,y1k,y1l,y1m,y1n,y1o,y1p,y1q,y1r,retO,retL,retV,z6i,allV,allP,z6j,z6m,z6n,z6t,z6u,z6v,binV,eqV,unV,oOpt,reduceIte,reduceCtorEq,Nat.reduceEqDiff,Nat.reduceAdd,Nat.reduceMul,Nat.reduceLT,Nat.reduceSub,Int.reduceLT,Int.reduceLE,Int.reduceEq,Int.reduceNe,Int.reduceSub,Int.reduceAdd,Int.reduceMul,Int.reduceBEq,Int.reduceBNe,Int.reduceGT,Int.reduceGE,Nat.reduceGT,Int.reduceToNat,Int.reduceNeg,Nat.reduceLeDiff,Nat.reduceBEq,Nat.reduceBneDiff,Value.cells]
            unfold ir_bandboxref11_Disk_Rename_40
            have hsub : (A ++ B).length ≤ D.files.length := by rw [e1]; simp
            have nd5 : ((A ++ B).map (·.1)).Nodup := by rw [← del_split nd e1 e3]; exact nd_del nd s
            obtain ⟨q5, k5⟩ := e5.blk kb (by simp [wC]) qb
            have s51 := sb1.le e5.bare
            have s52 := sb2.le e5.bare
            have e35 := eb.trans e5
            simp -implicitDefEqProofs only [zB1,zB2,zB3,zB4,zB5,zB6,zB7,zB8,zB9,zB10,zB11,y00,y01,y02,y03,y04,y05,y06,y07,y08,y09,y0a,y0b,y0c,y0d,y0e,y0f,y0g,y0h,y0i,y0j,y0k,y0l,y0m,y0n,y0o,y0p,y0q,y0r,y0s,y0t,y0u,y0v,y0w,y0x,y0y,y0z,y10,y11,y12,y13,y14,y15,y16,y17,y18,y19,y1a,y1b,y1c,y1d,y1e,y1f,y1g,y1h,y1i,y1j,y1k,y1l,y1m,y1n,y1o,y1p,y1q,y1r,retO,retL,retV,z6i,allV,allP,z6j,z6m,z6n,z6t,z6u,z6v,binV,eqV,unV,oOpt,reduceIte,reduceCtorEq,Nat.reduceEqDiff,Nat.reduceAdd,Nat.reduceMul,Nat.reduceLT,Nat.reduceSub,Int.reduceLT,Int.reduceLE,Int.reduceEq,Int.reduceNe,Int.reduceSub,Int.reduceAdd,Int.reduceMul,Int.reduceBEq,Int.reduceBNe,Int.reduceGT,Int.reduceGE,Nat.reduceGT,Int.reduceToNat,Int.reduceNeg,Nat.reduceLeDiff,Nat.reduceBEq,Nat.reduceBneDiff,Value.cells]
            refine (ref_find_c E R5 t (by simp only; omega)).mono ?_
            rintro v H6 ⟨rfl, rfl⟩
            rw [del_split nd e1 e3]
            by_cases hx2 : idxF (A ++ B) t < (A ++ B).length
            · obtain ⟨A2, x2, B2, f1, f2, f3, f4⟩ := idx_split hx2
              have hA2 : (0 : Int) ≤ A2.length := by omega
              rw [f4] at hx2
              rw [del_split nd5 f1 f3]
              simp -implicitDefEqProofs only [zB1,zB2,zB3,zB4,zB5,zB6,zB7,zB8,zB9,zB10,zB11,y00,y01,y02,y03,y04,y05,y06,y07,y08,y09,y0a,y0b,y0c,y0d,y0e,y0f,y0g,y0h,y0i,y0j,y0k,y0l,y0m,y0n,y0o,y0p,y0q,y0r,y0s,y0t,y0u,y0v,y0w,y0x,y0y,y0z,y10,y11,y12,y13,y14,y15,y16,y17,y18,y19,y1a,y1b,y1c,y1d,y1e,y1f,y1g,y1h,y1i,y1j,y1k,y1l,y1m,y1n,y1o,y1p,y1q,y1r,retO,retL,retV,z6i,allV,allP,z6j,z6m,z6n,z6t,z6u,z6v,binV,eqV,unV,oOpt,reduceIte,reduceCtorEq,Nat.reduceEqDiff,Nat.reduceAdd,Nat.reduceMul,Nat.reduceLT,Nat.reduceSub,Int.reduceLT,Int.reduceLE,Int.reduceEq,Int.reduceNe,Int.reduceSub,Int.reduceAdd,Int.reduceMul,Int.reduceBEq,Int.reduceBNe,Int.reduceGT,Int.reduceGE,Nat.reduceGT,Int.reduceToNat,Int.reduceNeg,Nat.reduceLeDiff,Nat.reduceBEq,Nat.reduceBneDiff,Value.cells, hx2, f4, hA2]
              refine (ref_drop_c E R5 (by simp only; omega) f1).mono ?_
              rintro v H7 ⟨κ7, e7, R7⟩
              obtain ⟨q7, k7⟩ := e7.blk k5 (by simp [wC]) q5
              have s71 := s51.le e7.bare
              have s72 := s52.le e7.bare
              have e37 := e35.trans e7
              obtain ⟨L7, hL7⟩ : ∃ L7, L7 = A2 ++ B2 := ⟨_, rfl⟩
              have hl7 : L7.length ≤ D.files.length := by
                have := congrArg List.length f1
                rw [hL7]; simp only [List.length_append, List.length_cons] at *; omega
              rw [← hL7] at R7 ⊢
              simp only at R7
              simp -implicitDefEqProofs only [zB1,zB2,zB3,zB4,zB5,zB6,zB7,zB8,zB9,zB10,zB11,y00,y01,y02,y03,y04,y05,y06,y07,y08,y09,y0a,y0b,y0c,y0d,y0e,y0f,y0g,y0h,y0i,y0j,y0k,y0l,y0m,y0n,y0o,y0p,y0q,y0r,y0s,y0t,y0u,y0v,y0w,y0x,y0y,y0z,y10,y11,y12,y13,y14,y15,y16,y17,y18,y19,y1a,y1b,y1c,y1d,y1e,y1f,y1g,y1h,y1i,y1j,y1k,y1l,y1m,y1n,y1o,y1p,y1q,y1r,retO,retL,retV,z6i,allV,allP,z6j,z6m,z6n,z6t,z6u,z6v,binV,eqV,unV,oOpt,reduceIte,reduceCtorEq,Nat.reduceEqDiff,Nat.reduceAdd,Nat.reduceMul,Nat.reduceLT,Nat.reduceSub,Int.reduceLT,Int.reduceLE,Int.reduceEq,Int.reduceNe,Int.reduceSub,Int.reduceAdd,Int.reduceMul,Int.reduceBEq,Int.reduceBNe,Int.reduceGT,Int.reduceGE,Nat.reduceGT,Int.reduceToNat,Int.reduceNeg,Nat.reduceLeDiff,Nat.reduceBEq,Nat.reduceBneDiff,Value.cells]
              obtain ⟨lv7, cs7, R7⟩ := R7
              obtain ⟨lb7, lc7, rfl⟩ := Sl.shape R7.o.sl
              have stT : storeV H7 1 (.pointer (some ⟨bx, 0, none⟩)) (.string ⟨t.toArray⟩) = some (H7.set bx (.own 0 [.string ⟨t.toArray⟩, .slice vb x.2.safe.length vc, .slice wb x.2.writes.length wc] 3)) := storeV_one_at q7 rfl (by simp) (by simp)
              have e8 : Ext (· = ((w + 1, 0, 0) : Col)) κ7 H7 κ7 (H7.set bx (.own 0 [.string ⟨t.toArray⟩, .slice vb x.2.safe.length vc, .slice wb x.2.writes.length wc] 3)) := Ext.set k7 _
              have R8 := R7.ext e8 (fun c h q => by subst q; simp at h)
              have e38 := e37.setnew hbx (.own 0 [.string ⟨t.toArray⟩, .slice vb x.2.safe.length vc, .slice wb x.2.writes.length wc] 3)
              have q8 := Heap.set_self H7 bx (.own 0 [.string ⟨t.toArray⟩, .slice vb x.2.safe.length vc, .slice wb x.2.writes.length wc] 3)
              have s81 := s71.le e8.bare
              have s82 := s72.le e8.bare
              generalize (H7.set bx (.own 0 [.string ⟨t.toArray⟩, .slice vb x.2.safe.length vc, .slice wb x.2.writes.length wc] 3)) = H8 at *
              have c18 := hcell_at R8.q (off := 1) (by simp)
              simp only [List.getElem_cons_succ, List.getElem_cons_zero] at c18
              have cb : hcells H8 ⟨bx, 0, none⟩ 3 = some [.string ⟨t.toArray⟩, .slice vb x.2.safe.length vc, .slice wb x.2.writes.length wc] := by rw [hcells_at q8 (by simp)]; rfl
              simp -implicitDefEqProofs only [zB1,zB2,zB3,zB4,zB5,zB6,zB7,zB8,zB9,zB10,zB11,y00,y01,y02,y03,y04,y05,y06,y07,y08,y09,y0a,y0b,y0c,y0d,y0e,y0f,y0g,y0h,y0i,y0j,y0k,y0l,y0m,y0n,y0o,y0p,y0q,y0r,y0s,y0t,y0u,y0v,y0w,y0x,y0y,y0z,y10,y11,y12,y13,y14,y15,y16,y17,y18,y19,y1a,y1b,y1c,y1d,y1e,y1f,y1g,y1h,y1i,y1j,y1k,y1l,y1m,y1n,y1o,y1p,y1q,y1r,retO,retL,retV,z6i,allV,allP,z6j,z6m,z6n,z6t,z6u,z6v,binV,eqV,unV,oOpt,reduceIte,reduceCtorEq,Nat.reduceEqDiff,Nat.reduceAdd,Nat.reduceMul,Nat.reduceLT,Nat.reduceSub,Int.reduceLT,Int.reduceLE,Int.reduceEq,Int.reduceNe,Int.reduceSub,Int.reduceAdd,Int.reduceMul,Int.reduceBEq,Int.reduceBNe,Int.reduceGT,Int.reduceGE,Nat.reduceGT,Int.reduceToNat,Int.reduceNeg,Nat.reduceLeDiff,Nat.reduceBEq,Nat.reduceBneDiff,Value.cells, stT, c18, cb, List.replicate_one, List.flatten_singleton]
              intro b9 hb9
              try simp -implicitDefEqProofs only [zB1,zB2,zB3,zB4,zB5,zB6,zB7,zB8,zB9,zB10,zB11,y00,y01,y02,y03,y04,y05,y06,y07,y08,y09,y0a,y0b,y0c,y0d,y0e,y0f,y0g,y0h,y0i,y0j,y0k,y0l,y0m,y0n,y0o,y0p,y0q,y0r,y0s,y0t,y0u,y0v,y0w,y0x,y0y,y0z,y10,y11,y12,y13,y14,y15,y16,y17,y18,y19,y1a,y1b,y1c,y1d,y1e,y1f,y1g,y1h,y1i,y1j,y1k,y1l,y1m,y1n,y1o,y1p,y1q,y1r,retO,retL,retV,z6i,allV,allP,z6j,z6m,z6n,z6t,z6u,z6v,binV,eqV,unV,oOpt,reduceIte,reduceCtorEq,Nat.reduceEqDiff,Nat.reduceAdd,Nat.reduceMul,Nat.reduceLT,Nat.reduceSub,Int.reduceLT,Int.reduceLE,Int.reduceEq,Int.reduceNe,Int.reduceSub,Int.reduceAdd,Int.reduceMul,Int.reduceBEq,Int.reduceBNe,Int.reduceGT,Int.reduceGE,Nat.reduceGT,Int.reduceToNat,Int.reduceNeg,Nat.reduceLeDiff,Nat.reduceBEq,Nat.reduceBneDiff,Value.cells]
              have le9 := Heap.le_set (Heap.le_refl H8) hb9 (.own 0 [.string ⟨t.toArray⟩, .slice vb x.2.safe.length vc, .slice wb x.2.writes.length wc] 3)
              have sx : Sl (H8.set b9 (.own 0 [.string ⟨t.toArray⟩, .slice vb x.2.safe.length vc, .slice wb x.2.writes.length wc] 3)) 3 (.slice (some ⟨b9, 0, none⟩) 1 1) 1 [.string ⟨t.toArray⟩, .slice vb x.2.safe.length vc, .slice wb x.2.writes.length wc] := Sl.lit rfl
              generalize (H8.set b9 (.own 0 [.string ⟨t.toArray⟩, .slice vb x.2.safe.length vc, .slice wb x.2.writes.length wc] 3)) = H9 at le9 sx
              have e89 : Ext (wC w) κ7 H8 κ7 H9 := Ext.le le9
              refine wr_push (x := (t, x.2)) (R8.le le9) sx rfl ⟨_, _, rfl, s81.le e89.bare, s82.le e89.bare⟩ (by simp only; omega) ?_
              rintro v H10 ⟨base, cc, rfl⟩ q10 ⟨κ10, e10, R10⟩
              have st10 := storeV_one_at (v := .slice base (L7.length + 1) cc) (off := 1) q10 rfl (by simp) (by simp)
              simp only [List.set_cons_succ, List.set_cons_zero] at st10
              simp -implicitDefEqProofs only [zB1,zB2,zB3,zB4,zB5,zB6,zB7,zB8,zB9,zB10,zB11,y00,y01,y02,y03,y04,y05,y06,y07,y08,y09,y0a,y0b,y0c,y0d,y0e,y0f,y0g,y0h,y0i,y0j,y0k,y0l,y0m,y0n,y0o,y0p,y0q,y0r,y0s,y0t,y0u,y0v,y0w,y0x,y0y,y0z,y10,y11,y12,y13,y14,y15,y16,y17,y18,y19,y1a,y1b,y1c,y1d,y1e,y1f,y1g,y1h,y1i,y1j,y1k,y1l,y1m,y1n,y1o,y1p,y1q,y1r,retO,retL,retV,z6i,allV,allP,z6j,z6m,z6n,z6t,z6u,z6v,binV,eqV,unV,oOpt,reduceIte,reduceCtorEq,Nat.reduceEqDiff,Nat.reduceAdd,Nat.reduceMul,Nat.reduceLT,Nat.reduceSub,Int.reduceLT,Int.reduceLE,Int.reduceEq,Int.reduceNe,Int.reduceSub,Int.reduceAdd,Int.reduceMul,Int.reduceBEq,Int.reduceBNe,Int.reduceGT,Int.reduceGE,Nat.reduceGT,Int.reduceToNat,Int.reduceNeg,Nat.reduceLeDiff,Nat.reduceBEq,Nat.reduceBneDiff,Value.cells, c18, st10, implies_true]
              exact ⟨κ10, (e38.trans e89).trans e10, _, _, R10⟩
            · have hl7 : (A ++ B).length ≤ D.files.length := hsub
              rw [del_off (idx_lack hx2)]
              obtain ⟨L7, hL7⟩ : ∃ L7, L7 = A ++ B := ⟨_, rfl⟩
              rw [← hL7] at R5 hl7 hx2 ⊢
              have R7 := R5
              have q7 := q5
              have k7 := k5
              have s71 := s51
              have s72 := s52
              have e37 := e35
              generalize hH7 : H6 = H7 at *
              generalize hK7 : κ5 = κ7 at *
              simp -implicitDefEqProofs only [zB1,zB2,zB3,zB4,zB5,zB6,zB7,zB8,zB9,zB10,zB11,y00,y01,y02,y03,y04,y05,y06,y07,y08,y09,y0a,y0b,y0c,y0d,y0e,y0f,y0g,y0h,y0i,y0j,y0k,y0l,y0m,y0n,y0o,y0p,y0q,y0r,y0s,y0t,y0u,y0v,y0w,y0x,y0y,y0z,y10,y11,y12,y13,y14,y15,y16,y17,y18,y19,y1a,y1b,y1c,y1d,y1e,y1f,y1g,y1h,y1i,y1j,y1k,y1l,y1m,y1n,y1o,y1p,y1q,y1r,retO,retL,retV,z6i,allV,allP,z6j,z6m,z6n,z6t,z6u,z6v,binV,eqV,unV,oOpt,reduceIte,reduceCtorEq,Nat.reduceEqDiff,Nat.reduceAdd,Nat.reduceMul,Nat.reduceLT,Nat.reduceSub,Int.reduceLT,Int.reduceLE,Int.reduceEq,Int.reduceNe,Int.reduceSub,Int.reduceAdd,Int.reduceMul,Int.reduceBEq,Int.reduceBNe,Int.reduceGT,Int.reduceGE,Nat.reduceGT,Int.reduceToNat,Int.reduceNeg,Nat.reduceLeDiff,Nat.reduceBEq,Nat.reduceBneDiff,Value.cells, hx2]
              obtain ⟨lv7, cs7, R7⟩ := R7
              obtain ⟨lb7, lc7, rfl⟩ := Sl.shape R7.o.sl
              have stT : storeV H7 1 (.pointer (some ⟨bx, 0, none⟩)) (.string ⟨t.toArray⟩) = some (H7.set bx (.own 0 [.string ⟨t.toArray⟩, .slice vb x.2.safe.length vc, .slice wb x.2.writes.length wc] 3)) := storeV_one_at q7 rfl (by simp) (by simp)
              have e8 : Ext (· = ((w + 1, 0, 0) : Col)) κ7 H7 κ7 (H7.set bx (.own 0 [.string ⟨t.toArray⟩, .slice vb x.2.safe.length vc, .slice wb x.2.writes.length wc] 3)) := Ext.set k7 _
              have R8 := R7.ext e8 (fun c h q => by subst q; simp at h)
              have e38 := e37.setnew hbx (.own 0 [.string ⟨t.toArray⟩, .slice vb x.2.safe.length vc, .slice wb x.2.writes.length wc] 3)
              have q8 := Heap.set_self H7 bx (.own 0 [.string ⟨t.toArray⟩, .slice vb x.2.safe.length vc, .slice wb x.2.writes.length wc] 3)
              have s81 := s71.le e8.bare
              have s82 := s72.le e8.bare
              generalize (H7.set bx (.own 0 [.string ⟨t.toArray⟩, .slice vb x.2.safe.length vc, .slice wb x.2.writes.length wc] 3)) = H8 at *
              have c18 := hcell_at R8.q (off := 1) (by simp)
              simp only [List.getElem_cons_succ, List.getElem_cons_zero] at c18
              have cb : hcells H8 ⟨bx, 0, none⟩ 3 = some [.string ⟨t.toArray⟩, .slice vb x.2.safe.length vc, .slice wb x.2.writes.length wc] := by rw [hcells_at q8 (by simp)]; rfl
              simp -implicitDefEqProofs only [zB1,zB2,zB3,zB4,zB5,zB6,zB7,zB8,zB9,zB10,zB11,y00,y01,y02,y03,y04,y05,y06,y07,y08,y09,y0a,y0b,y0c,y0d,y0e,y0f,y0g,y0h,y0i,y0j,y0k,y0l,y0m,y0n,y0o,y0p,y0q,y0r,y0s,y0t,y0u,y0v,y0w,y0x,y0y,y0z,y10,y11,y12,y13,y14,y15,y16,y17,y18,y19,y1a,y1b,y1c,y1d,y1e,y1f,y1g,y1h,y1i,y1j,y1k,y1l,y1m,y1n,y1o,y1p,y1q,y1r,retO,retL,retV,z6i,allV,allP,z6j,z6m,z6n,z6t,z6u,z6v,binV,eqV,unV,oOpt,reduceIte,reduceCtorEq,Nat.reduceEqDiff,Nat.reduceAdd,Nat.reduceMul,Nat.reduceLT,Nat.reduceSub,Int.reduceLT,Int.reduceLE,Int.reduceEq,Int.reduceNe,Int.reduceSub,Int.reduceAdd,Int.reduceMul,Int.reduceBEq,Int.reduceBNe,Int.reduceGT,Int.reduceGE,Nat.reduceGT,Int.reduceToNat,Int.reduceNeg,Nat.reduceLeDiff,Nat.reduceBEq,Nat.reduceBneDiff,Value.cells, hx2, stT, c18, cb, List.replicate_one, List.flatten_singleton]
              intro b9 hb9
              try simp -implicitDefEqProofs only [zB1,zB2,zB3,zB4,zB5,zB6,zB7,zB8,zB9,zB10,zB11,y00,y01,y02,y03,y04,y05,y06,y07,y08,y09,y0a,y0b,y0c,y0d,y0e,y0f,y0g,y0h,y0i,y0j,y0k,y0l,y0m,y0n,y0o,y0p,y0q,y0r,y0s,y0t,y0u,y0v,y0w,y0x,y0y,y0z,y10,y11,y12,y13,y14,y15,y16,y17,y18,y19,y1a,y1b,y1c,y1d,y1e,y1f,y1g,y1h,y1i,y1j,y1k,y1l,y1m,y1n,y1o,y1p,y1q,y1r,retO,retL,retV,z6i,allV,allP,z6j,z6m,z6n,z6t,z6u,z6v,binV,eqV,unV,oOpt,reduceIte,reduceCtorEq,Nat.reduceEqDiff,Nat.reduceAdd,Nat.reduceMul,Nat.reduceLT,Nat.reduceSub,Int.reduceLT,Int.reduceLE,Int.reduceEq,Int.reduceNe,Int.reduceSub,Int.reduceAdd,Int.reduceMul,Int.reduceBEq,Int.reduceBNe,Int.reduceGT,Int.reduceGE,Nat.reduceGT,Int.reduceToNat,Int.reduceNeg,Nat.reduceLeDiff,Nat.reduceBEq,Nat.reduceBneDiff,Value.cells]
              have le9 := Heap.le_set (Heap.le_refl H8) hb9 (.own 0 [.string ⟨t.toArray⟩, .slice vb x.2.safe.length vc, .slice wb x.2.writes.length wc] 3)
              have sx : Sl (H8.set b9 (.own 0 [.string ⟨t.toArray⟩, .slice vb x.2.safe.length vc, .slice wb x.2.writes.length wc] 3)) 3 (.slice (some ⟨b9, 0, none⟩) 1 1) 1 [.string ⟨t.toArray⟩, .slice vb x.2.safe.length vc, .slice wb x.2.writes.length wc] := Sl.lit rfl
              generalize (H8.set b9 (.own 0 [.string ⟨t.toArray⟩, .slice vb x.2.safe.length vc, .slice wb x.2.writes.length wc] 3)) = H9 at le9 sx
              have e89 : Ext (wC w) κ7 H8 κ7 H9 := Ext.le le9
              refine wr_push (x := (t, x.2)) (R8.le le9) sx rfl ⟨_, _, rfl, s81.le e89.bare, s82.le e89.bare⟩ (by simp only; omega) ?_
              rintro v H10 ⟨base, cc, rfl⟩ q10 ⟨κ10, e10, R10⟩
              have st10 := storeV_one_at (v := .slice base (L7.length + 1) cc) (off := 1) q10 rfl (by simp) (by simp)
              simp only [List.set_cons_succ, List.set_cons_zero] at st10
              simp -implicitDefEqProofs only [zB1,zB2,zB3,zB4,zB5,zB6,zB7,zB8,zB9,zB10,zB11,y00,y01,y02,y03,y04,y05,y06,y07,y08,y09,y0a,y0b,y0c,y0d,y0e,y0f,y0g,y0h,y0i,y0j,y0k,y0l,y0m,y0n,y0o,y0p,y0q,y0r,y0s,y0t,y0u,y0v,y0w,y0x,y0y,y0z,y10,y11,y12,y13,y14,y15,y16,y17,y18,y19,y1a,y1b,y1c,y1d,y1e,y1f,y1g,y1h,y1i,y1j,y1k,y1l,y1m,y1n,y1o,y1p,y1q,y1r,retO,retL,retV,z6i,allV,allP,z6j,z6m,z6n,z6t,z6u,z6v,binV,eqV,unV,oOpt,reduceIte,reduceCtorEq,Nat.reduceEqDiff,Nat.reduceAdd,Nat.reduceMul,Nat.reduceLT,Nat.reduceSub,Int.reduceLT,Int.reduceLE,Int.reduceEq,Int.reduceNe,Int.reduceSub,Int.reduceAdd,Int.reduceMul,Int.reduceBEq,Int.reduceBNe,Int.reduceGT,Int.reduceGE,Nat.reduceGT,Int.reduceToNat,Int.reduceNeg,Nat.reduceLeDiff,Nat.reduceBEq,Nat.reduceBneDiff,Value.cells, c18, st10, implies_true]
              exact ⟨κ10, (e38.trans e89).trans e10, _, _, R10⟩
        · have hl := idx_lack hx
          rw [look_absent hl]
          simp -implicitDefEqProofs only [zB1,zB2,zB3,zB4,zB5,zB6,zB7,zB8,zB9,zB10,zB11,y00,y01,y02,y03,y04,y05,y06,y07,y08,y09,y0a,y0b,y0c,y0d,y0e,y0f,y0g,y0h,y0i,y0j,y0k,y0l,y0m,y0n,y0o,y0p,y0q,y0r,y0s,y0t,y0u,y0v,y0w,y0x,y0y,y0z,y10,y11,y12,y13,y14,y15,y16,y17,y18,y19,y1a,y1b,y1c,y1d,y1e,y1f,y1g,y1h,y1i,y1j,y1k,y1l,y1m,y1n,y1o,y1p,y1q,y1r,retO,retL,retV,z6i,allV,allP,z6j,z6m,z6n,z6t,z6u,z6v,binV,eqV,unV,oOpt,reduceIte,reduceCtorEq,Nat.reduceEqDiff,Nat.reduceAdd,Nat.reduceMul,Nat.reduceLT,Nat.reduceSub,Int.reduceLT,Int.reduceLE,Int.reduceEq,Int.reduceNe,Int.reduceSub,Int.reduceAdd,Int.reduceMul,Int.reduceBEq,Int.reduceBNe,Int.reduceGT,Int.reduceGE,Nat.reduceGT,Int.reduceToNat,Int.reduceNeg,Nat.reduceLeDiff,Nat.reduceBEq,Nat.reduceBneDiff,Value.cells, hx]
          exact ⟨κ, Ext.refl _ _ _, R0⟩
      · have g2' : goodName t = false := by simpa using g2
        have a0 : askF D [s, t] = 1 := by simp [askF, on, g2']
        rw [a0]
        simp -implicitDefEqProofs only [zB1,zB2,zB3,zB4,zB5,zB6,zB7,zB8,zB9,zB10,zB11,y00,y01,y02,y03,y04,y05,y06,y07,y08,y09,y0a,y0b,y0c,y0d,y0e,y0f,y0g,y0h,y0i,y0j,y0k,y0l,y0m,y0n,y0o,y0p,y0q,y0r,y0s,y0t,y0u,y0v,y0w,y0x,y0y,y0z,y10,y11,y12,y13,y14,y15,y16,y17,y18,y19,y1a,y1b,y1c,y1d,y1e,y1f,y1g,y1h,y1i,y1j,y1k,y1l,y1m,y1n,y1o,y1p,y1q,y1r,retO,retL,retV,z6i,allV,allP,z6j,z6m,z6n,z6t,z6u,z6v,binV,eqV,unV,oOpt,reduceIte,reduceCtorEq,Nat.reduceEqDiff,Nat.reduceAdd,Nat.reduceMul,Nat.reduceLT,Nat.reduceSub,Int.reduceLT,Int.reduceLE,Int.reduceEq,Int.reduceNe,Int.reduceSub,Int.reduceAdd,Int.reduceMul,Int.reduceBEq,Int.reduceBNe,Int.reduceGT,Int.reduceGE,Nat.reduceGT,Int.reduceToNat,Int.reduceNeg,Nat.reduceLeDiff,Nat.reduceBEq,Nat.reduceBneDiff,Value.cells, g2']
        exact ⟨κ, Ext.refl _ _ _, R0⟩
    · have g1' : goodName s = false := by simpa using g1
      have a0 : askF D [s, t] = 1 := by simp [askF, on, g1']
      rw [a0]
      simp -implicitDefEqProofs only [zB1,zB2,zB3,zB4,zB5,zB6,zB7,zB8,zB9,zB10,zB11,y00,y01,y02,y03,y04,y05,y06,y07,y08,y09,y0a,y0b,y0c,y0d,y0e,y0f,y0g,y0h,y0i,y0j,y0k,y0l,y0m,y0n,y0o,y0p,y0q,y0r,y0s,y0t,y0u,y0v,y0w,y0x,y0y,y0z,y10,y11,y12,y13,y14,y15,y16,y17,y18,y19,y1a,y1b,y1c,y1d,y1e,y1f,y1g,y1h,y1i,y1j,y1k,y1l,y1m,y1n,y1o,y1p,y1q,y1r,retO,retL,retV,z6i,allV,allP,z6j,z6m,z6n,z6t,z6u,z6v,binV,eqV,unV,oOpt,reduceIte,reduceCtorEq,Nat.reduceEqDiff,Nat.reduceAdd,Nat.reduceMul,Nat.reduceLT,Nat.reduceSub,Int.reduceLT,Int.reduceLE,Int.reduceEq,Int.reduceNe,Int.reduceSub,Int.reduceAdd,Int.reduceMul,Int.reduceBEq,Int.reduceBNe,Int.reduceGT,Int.reduceGE,Nat.reduceGT,Int.reduceToNat,Int.reduceNeg,Nat.reduceLeDiff,Nat.reduceBEq,Nat.reduceBneDiff,Value.cells, g1']
      exact ⟨κ, Ext.refl _ _ _, R0⟩
  · have on' : D.on = false := by simpa using on
    rw [on'] at c2
    have a0 : askF D [s, t] = 7 := by simp [askF, on']
    rw [a0]
    simp -implicitDefEqProofs only [zB1,zB2,zB3,zB4,zB5,zB6,zB7,zB8,zB9,zB10,zB11,y00,y01,y02,y03,y04,y05,y06,y07,y08,y09,y0a,y0b,y0c,y0d,y0e,y0f,y0g,y0h,y0i,y0j,y0k,y0l,y0m,y0n,y0o,y0p,y0q,y0r,y0s,y0t,y0u,y0v,y0w,y0x,y0y,y0z,y10,y11,y12,y13,y14,y15,y16,y17,y18,y19,y1a,y1b,y1c,y1d,y1e,y1f,y1g,y1h,y1i,y1j,y1k,y1l,y1m,y1n,y1o,y1p,y1q,y1r,retO,retL,retV,z6i,allV,allP,z6j,z6m,z6n,z6t,z6u,z6v,binV,eqV,unV,oOpt,reduceIte,reduceCtorEq,Nat.reduceEqDiff,Nat.reduceAdd,Nat.reduceMul,Nat.reduceLT,Nat.reduceSub,Int.reduceLT,Int.reduceLE,Int.reduceEq,Int.reduceNe,Int.reduceSub,Int.reduceAdd,Int.reduceMul,Int.reduceBEq,Int.reduceBNe,Int.reduceGT,Int.reduceGE,Nat.reduceGT,Int.reduceToNat,Int.reduceNeg,Nat.reduceLeDiff,Nat.reduceBEq,Nat.reduceBneDiff,Value.cells, c2]
    exact ⟨κ, Ext.refl _ _ _, R0⟩
end
end Go.Bb
/- Contracts: the document's own disk: crash. -/
namespace Go.Bb
set_option linter.unusedSimpArgs false
set_option linter.unusedVariables false
set_option maxRecDepth 20000
set_option maxHeartbeats 2000000

theorem last_stays (keep : U64) : ∀ n k, lastF keep n = k + 1 → staysF keep k = true
  | 0, k, h => by simp [lastF] at h
  | n + 1, k, h => by
    unfold lastF at h
    split at h
    · rename_i st
      have : n = k := by omega
      subst this; exact st
    · exact last_stays keep n k h
section
variable {κ : Pal} {H : Heap} {w : Nat} {D : DiskF} {lv : Value} {cs : List (List Value)}
/-- Files, the first i of them fallen. -/
def fellF (keep : U64) (torn : Int) (L : Files) (i : Nat) : Files := (L.take i).map (fun x => (x.1, x.2.crash keep torn)) ++ L.drop i
theorem fell_len (keep : U64) (torn : Int) (L : Files) (i : Nat) : (fellF keep torn L i).length = L.length := by
  unfold fellF; simp; omega
theorem fell_at (keep : U64) (torn : Int) (L : Files) (i : Nat) (h : i < L.length) (h2 : i < (fellF keep torn L i).length) : (fellF keep torn L i)[i] = L[i] := by
  simp only [fellF]
  rw [List.getElem_append_right (by simp; omega)]
  simp [show min i L.length = i by omega]
theorem fell_set (keep : U64) (torn : Int) (L : Files) (i : Nat) (h : i < L.length) : (fellF keep torn L i).set i (L[i].1, L[i].2.crash keep torn) = fellF keep torn L (i + 1) := by
  unfold fellF
  have hl : ((L.take i).map (fun x => (x.1, x.2.crash keep torn))).length = i := by simp; omega
  rw [List.set_append_right _ _ (by omega), hl, Nat.sub_self, List.drop_eq_getElem_cons h, List.set_cons_zero, List.take_succ_eq_append_getElem h, List.map_append]
  simp
theorem ref_Crash_c (E : EnvT tab) (R : WR κ H w D) (ok : D.ok) (hn : D.files.length ≤ 90000) (keep : U64) (torn : Int) :
    ACallN E.toEnv n_bandboxref11_Disk_Crash [ptrV w, .int .u64 keep.toNat, .int .i64 torn] H fun v H' => ∃ κ', Ext (wC w) κ H κ' H' ∧ WR κ' H' w (crashF D keep torn) := by
  obtain ⟨lv, cs, R⟩ := R
  obtain ⟨lb, lc, rfl⟩ := Sl.shape R.o.sl
  refine acall h_bandboxref11_Disk_Crash ir_bandboxref11_Disk_Crash rfl rfl (wpA_sound ?_)
  unfold ir_bandboxref11_Disk_Crash
  have st1 : storeV H 1 (.pointer (some ⟨w, 2, none⟩)) (.bool true) = some (H.set w (.own 0 [.int .i64 D.room, .slice lb D.files.length lc, .bool true, .int .i64 D.lives] 4)) := storeV_one_at R.q rfl (by simp) (by simp)
  obtain ⟨e1, R1⟩ := R.setw false D.lives
  simp only [Bool.not_false] at e1 R1
  simp -implicitDefEqProofs only [zB1,zB2,zB3,zB4,zB5,zB6,zB7,zB8,zB9,zB10,zB11,y00,y01,y02,y03,y04,y05,y06,y07,y08,y09,y0a,y0b,y0c,y0d,y0e,y0f,y0g,y0h,y0i,y0j,y0k,y0l,y0m,y0n,y0o,y0p,y0q,y0r,y0s,y0t,y0u,y0v,y0w,y0x,y0y,y0z,y10,y11,y12,y13,y14,y15,y16,y17,y18,y19,y1a,y1b,y1c,y1d,y1e,y1f,y1g,y1h,y1i,y1j,y1k,y1l,y1m,y1n,y1o,y1p,y1q,y1r,retO,retL,retV,z6i,allV,allP,z6j,z6m,z6n,z6t,z6u,z6v,binV,eqV,unV,oOpt,reduceIte,reduceCtorEq,Nat.reduceEqDiff,Nat.reduceAdd,Nat.reduceMul,Nat.reduceLT,Nat.reduceSub,Int.reduceLT,Int.reduceLE,Int.reduceEq,Int.reduceNe,Int.reduceSub,Int.reduceAdd,Int.reduceMul,Int.reduceBEq,Int.reduceBNe,Int.reduceGT,Int.reduceGE,Nat.reduceGT,Int.reduceToNat,Int.reduceNeg,Nat.reduceLeDiff,Nat.reduceBEq,Nat.reduceBneDiff,Value.cells, st1]
  generalize (H.set w (.own 0 [.int .i64 D.room, .slice lb D.files.length lc, .bool true, .int .i64 D.lives] 4)) = H1 at e1 R1 ⊢
  unfold ir_bandboxref11_Disk_Crash_6
  simp -implicitDefEqProofs only [zB1,zB2,zB3,zB4,zB5,zB6,zB7,zB8,zB9,zB10,zB11,y00,y01,y02,y03,y04,y05,y06,y07,y08,y09,y0a,y0b,y0c,y0d,y0e,y0f,y0g,y0h,y0i,y0j,y0k,y0l,y0m,y0n,y0o,y0p,y0q,y0r,y0s,y0t,y0u,y0v,y0w,y0x,y0y,y0z,y10,y11,y12,y13,y14,y15,y16,y17,y18,y19,y1a,y1b,y1c,y1d,y1e,y1f,y1g,y1h,y1i,y1j,y1k,y1l,y1m,y1n,y1o,y1p,y1q,y1r,retO,retL,retV,z6i,allV,allP,z6j,z6m,z6n,z6t,z6u,z6v,binV,eqV,unV,oOpt,reduceIte,reduceCtorEq,Nat.reduceEqDiff,Nat.reduceAdd,Nat.reduceMul,Nat.reduceLT,Nat.reduceSub,Int.reduceLT,Int.reduceLE,Int.reduceEq,Int.reduceNe,Int.reduceSub,Int.reduceAdd,Int.reduceMul,Int.reduceBEq,Int.reduceBNe,Int.reduceGT,Int.reduceGE,Nat.reduceGT,Int.reduceToNat,Int.reduceNeg,Nat.reduceLeDiff,Nat.reduceBEq,Nat.reduceBneDiff,Value.cells]
  refine wp_loop' (fun m t G => ∃ (i : Nat) (κ' : Pal), t = tl [(0, ptrV w), (1, .int .u64 keep.toNat), (2, .int .i64 torn), (6, .int .i64 i)] ∧ i ≤ D.files.length ∧ m = D.files.length - i ∧
      Ext (wC w) κ H κ' G ∧ WR κ' G w { D with on := false, files := fellF keep torn D.files i }) D.files.length
    ⟨0, κ, rfl, by omega, by omega, e1, _, _, by simpa [fellF] using R1⟩ ?_
  rintro m t G ⟨i, κ', rfl, hi, rfl, eG, lv, cs', RG⟩
  obtain ⟨lb', lc', rfl⟩ := Sl.shape RG.o.sl
  have hfl := fell_len keep torn D.files i
  have c1 : ∀ G', G.le G' → hcell G' ⟨w, 1, none⟩ = some (.slice lb' (fellF keep torn D.files i).length lc') := fun G' x => by rw [hcell_at (x _ _ RG.q) (by simp)]; rfl
  rw [hfl] at c1
  have c1G := c1 G (Heap.le_refl _)
  by_cases hlt : i < D.files.length
  · have hi1 : (i : Int) < D.files.length := by omega
    have hi2 : (0 : Int) ≤ i := by omega
    have w1 : IntKind.i64.wrap ((i : Int) + 1) = ((i + 1 : Nat) : Int) := wrapN (by omega)
    obtain ⟨b, o, c, sv, wv, hv, -, s1, s2, hc⟩ := RG.at' (i := i) (by simp only; omega)
    simp only [Value.slice.injEq, true_and] at hv
    obtain ⟨rfl, rfl⟩ := hv
    obtain ⟨cn, -, -⟩ := hc G (Heap.le_refl _)
    simp only [fell_at keep torn D.files i hlt (by omega)] at s1 s2 cn
    have okx := (ok.1 _ (List.getElem_mem hlt)).1
    have hfs := fell_set keep torn D.files i hlt
    generalize D.files[i] = x at s1 s2 cn okx hfs
    obtain ⟨vb, vc, rfl⟩ := Sl.shape s1
    obtain ⟨wb, wc, rfl⟩ := s2.shape
    simp only [strV] at cn
    simp -implicitDefEqProofs only [zB1,zB2,zB3,zB4,zB5,zB6,zB7,zB8,zB9,zB10,zB11,y00,y01,y02,y03,y04,y05,y06,y07,y08,y09,y0a,y0b,y0c,y0d,y0e,y0f,y0g,y0h,y0i,y0j,y0k,y0l,y0m,y0n,y0o,y0p,y0q,y0r,y0s,y0t,y0u,y0v,y0w,y0x,y0y,y0z,y10,y11,y12,y13,y14,y15,y16,y17,y18,y19,y1a,y1b,y1c,y1d,y1e,y1f,y1g,y1h,y1i,y1j,y1k,y1l,y1m,y1n,y1o,y1p,y1q,y1r,retO,retL,retV,z6i,allV,allP,z6j,z6m,z6n,z6t,z6u,z6v,binV,eqV,unV,oOpt,reduceIte,reduceCtorEq,Nat.reduceEqDiff,Nat.reduceAdd,Nat.reduceMul,Nat.reduceLT,Nat.reduceSub,Int.reduceLT,Int.reduceLE,Int.reduceEq,Int.reduceNe,Int.reduceSub,Int.reduceAdd,Int.reduceMul,Int.reduceBEq,Int.reduceBNe,Int.reduceGT,Int.reduceGE,Nat.reduceGT,Int.reduceToNat,Int.reduceNeg,Nat.reduceLeDiff,Nat.reduceBEq,Nat.reduceBneDiff,Value.cells, c1G, hi1, hi2, Int.toNat_natCast, cn]
    intro bx hbx
    unfold ir_bandboxref11_Disk_Crash_8
    have leB := Heap.le_set (Heap.le_refl G) hbx (.own 0 [.string ⟨x.1.toArray⟩, .slice vb x.2.safe.length vc, .slice wb x.2.writes.length wc] 3)
    have qB := Heap.set_self G bx (.own 0 [.string ⟨x.1.toArray⟩, .slice vb x.2.safe.length vc, .slice wb x.2.writes.length wc] 3)
    generalize (G.set bx (.own 0 [.string ⟨x.1.toArray⟩, .slice vb x.2.safe.length vc, .slice wb x.2.writes.length wc] 3)) = G1 at leB qB
    have f0 : ∀ G', G1.le G' → hcell G' ⟨bx, 0, none⟩ = some (.string ⟨x.1.toArray⟩) := fun G' h => by rw [hcell_at (h _ _ qB) (by simp)]; rfl
    have f1 : ∀ G', G1.le G' → hcell G' ⟨bx, 1, none⟩ = some (.slice vb x.2.safe.length vc) := fun G' h => by rw [hcell_at (h _ _ qB) (by simp)]; rfl
    have f2 : ∀ G', G1.le G' → hcell G' ⟨bx, 2, none⟩ = some (.slice wb x.2.writes.length wc) := fun G' h => by rw [hcell_at (h _ _ qB) (by simp)]; rfl
    have hs := okx.safe
    have hf := okx.flat
    have hw := okx.1
    simp -implicitDefEqProofs only [zB1,zB2,zB3,zB4,zB5,zB6,zB7,zB8,zB9,zB10,zB11,y00,y01,y02,y03,y04,y05,y06,y07,y08,y09,y0a,y0b,y0c,y0d,y0e,y0f,y0g,y0h,y0i,y0j,y0k,y0l,y0m,y0n,y0o,y0p,y0q,y0r,y0s,y0t,y0u,y0v,y0w,y0x,y0y,y0z,y10,y11,y12,y13,y14,y15,y16,y17,y18,y19,y1a,y1b,y1c,y1d,y1e,y1f,y1g,y1h,y1i,y1j,y1k,y1l,y1m,y1n,y1o,y1p,y1q,y1r,retO,retL,retV,z6i,allV,allP,z6j,z6m,z6n,z6t,z6u,z6v,binV,eqV,unV,oOpt,reduceIte,reduceCtorEq,Nat.reduceEqDiff,Nat.reduceAdd,Nat.reduceMul,Nat.reduceLT,Nat.reduceSub,Int.reduceLT,Int.reduceLE,Int.reduceEq,Int.reduceNe,Int.reduceSub,Int.reduceAdd,Int.reduceMul,Int.reduceBEq,Int.reduceBNe,Int.reduceGT,Int.reduceGE,Nat.reduceGT,Int.reduceToNat,Int.reduceNeg,Nat.reduceLeDiff,Nat.reduceBEq,Nat.reduceBneDiff,Value.cells]
    refine wp_loop' (fun m t K => K = G1 ∧ ∃ k : Nat, t = tl [(0, ptrV w), (1, .int .u64 keep.toNat), (2, .int .i64 torn), (6, .int .i64 i), (7, .pointer (some ⟨bx, 0, none⟩)), (8, .int .i64 ((lastF keep k : Int) - 1)), (9, .int .i64 k)] ∧ k ≤ x.2.writes.length ∧ m = x.2.writes.length - k) x.2.writes.length
      ⟨rfl, 0, rfl, by omega, by omega⟩ ?_
    rintro m t K ⟨rfl, k, rfl, hk, rfl⟩
    have f2K := f2 K (Heap.le_refl _)
    by_cases hkl : k < x.2.writes.length
    · have hk1 : (k : Int) < x.2.writes.length := by omega
      have w2 : IntKind.i64.wrap ((k : Int) + 1) = ((k + 1 : Nat) : Int) := wrapN (by omega)
      simp -implicitDefEqProofs only [zB1,zB2,zB3,zB4,zB5,zB6,zB7,zB8,zB9,zB10,zB11,y00,y01,y02,y03,y04,y05,y06,y07,y08,y09,y0a,y0b,y0c,y0d,y0e,y0f,y0g,y0h,y0i,y0j,y0k,y0l,y0m,y0n,y0o,y0p,y0q,y0r,y0s,y0t,y0u,y0v,y0w,y0x,y0y,y0z,y10,y11,y12,y13,y14,y15,y16,y17,y18,y19,y1a,y1b,y1c,y1d,y1e,y1f,y1g,y1h,y1i,y1j,y1k,y1l,y1m,y1n,y1o,y1p,y1q,y1r,retO,retL,retV,z6i,allV,allP,z6j,z6m,z6n,z6t,z6u,z6v,binV,eqV,unV,oOpt,reduceIte,reduceCtorEq,Nat.reduceEqDiff,Nat.reduceAdd,Nat.reduceMul,Nat.reduceLT,Nat.reduceSub,Int.reduceLT,Int.reduceLE,Int.reduceEq,Int.reduceNe,Int.reduceSub,Int.reduceAdd,Int.reduceMul,Int.reduceBEq,Int.reduceBNe,Int.reduceGT,Int.reduceGE,Nat.reduceGT,Int.reduceToNat,Int.reduceNeg,Nat.reduceLeDiff,Nat.reduceBEq,Nat.reduceBneDiff,Value.cells, f2K, hk1]
      refine (ref_stays_c E K keep k (by omega)).mono ?_
      rintro r K1 ⟨rfl, rfl⟩
      by_cases st : staysF keep k = true
      · have e : lastF keep (k + 1) = k + 1 := by rw [lastF, if_pos st]
        simp -implicitDefEqProofs only [zB1,zB2,zB3,zB4,zB5,zB6,zB7,zB8,zB9,zB10,zB11,y00,y01,y02,y03,y04,y05,y06,y07,y08,y09,y0a,y0b,y0c,y0d,y0e,y0f,y0g,y0h,y0i,y0j,y0k,y0l,y0m,y0n,y0o,y0p,y0q,y0r,y0s,y0t,y0u,y0v,y0w,y0x,y0y,y0z,y10,y11,y12,y13,y14,y15,y16,y17,y18,y19,y1a,y1b,y1c,y1d,y1e,y1f,y1g,y1h,y1i,y1j,y1k,y1l,y1m,y1n,y1o,y1p,y1q,y1r,retO,retL,retV,z6i,allV,allP,z6j,z6m,z6n,z6t,z6u,z6v,binV,eqV,unV,oOpt,reduceIte,reduceCtorEq,Nat.reduceEqDiff,Nat.reduceAdd,Nat.reduceMul,Nat.reduceLT,Nat.reduceSub,Int.reduceLT,Int.reduceLE,Int.reduceEq,Int.reduceNe,Int.reduceSub,Int.reduceAdd,Int.reduceMul,Int.reduceBEq,Int.reduceBNe,Int.reduceGT,Int.reduceGE,Nat.reduceGT,Int.reduceToNat,Int.reduceNeg,Nat.reduceLeDiff,Nat.reduceBEq,Nat.reduceBneDiff,Value.cells, st, w2]
        refine ⟨_, ?_, k + 1, ?_, by omega, rfl⟩
        · omega
        · have e2 : ((k + 1 : Nat) : Int) - 1 = k := by omega
          rw [e, e2]
      · have e : lastF keep (k + 1) = lastF keep k := by rw [lastF, if_neg st]
        simp -implicitDefEqProofs only [zB1,zB2,zB3,zB4,zB5,zB6,zB7,zB8,zB9,zB10,zB11,y00,y01,y02,y03,y04,y05,y06,y07,y08,y09,y0a,y0b,y0c,y0d,y0e,y0f,y0g,y0h,y0i,y0j,y0k,y0l,y0m,y0n,y0o,y0p,y0q,y0r,y0s,y0t,y0u,y0v,y0w,y0x,y0y,y0z,y10,y11,y12,y13,y14,y15,y16,y17,y18,y19,y1a,y1b,y1c,y1d,y1e,y1f,y1g,y1h,y1i,y1j,y1k,y1l,y1m,y1n,y1o,y1p,y1q,y1r,retO,retL,retV,z6i,allV,allP,z6j,z6m,z6n,z6t,z6u,z6v,binV,eqV,unV,oOpt,reduceIte,reduceCtorEq,Nat.reduceEqDiff,Nat.reduceAdd,Nat.reduceMul,Nat.reduceLT,Nat.reduceSub,Int.reduceLT,Int.reduceLE,Int.reduceEq,Int.reduceNe,Int.reduceSub,Int.reduceAdd,Int.reduceMul,Int.reduceBEq,Int.reduceBNe,Int.reduceGT,Int.reduceGE,Nat.reduceGT,Int.reduceToNat,Int.reduceNeg,Nat.reduceLeDiff,Nat.reduceBEq,Nat.reduceBneDiff,Value.cells, st, w2]
        refine ⟨_, ?_, k + 1, ?_, by omega, rfl⟩
        · omega
        · rw [e]
    have hk1 : ¬ (k : Int) < x.2.writes.length := by omega
    have ek : k = x.2.writes.length := by omega
    subst ek
    have ll := lastF_le keep x.2.writes.length
    have ls := last_stays keep x.2.writes.length
    simp -implicitDefEqProofs only [zB1,zB2,zB3,zB4,zB5,zB6,zB7,zB8,zB9,zB10,zB11,y00,y01,y02,y03,y04,y05,y06,y07,y08,y09,y0a,y0b,y0c,y0d,y0e,y0f,y0g,y0h,y0i,y0j,y0k,y0l,y0m,y0n,y0o,y0p,y0q,y0r,y0s,y0t,y0u,y0v,y0w,y0x,y0y,y0z,y10,y11,y12,y13,y14,y15,y16,y17,y18,y19,y1a,y1b,y1c,y1d,y1e,y1f,y1g,y1h,y1i,y1j,y1k,y1l,y1m,y1n,y1o,y1p,y1q,y1r,retO,retL,retV,z6i,allV,allP,z6j,z6m,z6n,z6t,z6u,z6v,binV,eqV,unV,oOpt,reduceIte,reduceCtorEq,Nat.reduceEqDiff,Nat.reduceAdd,Nat.reduceMul,Nat.reduceLT,Nat.reduceSub,Int.reduceLT,Int.reduceLE,Int.reduceEq,Int.reduceNe,Int.reduceSub,Int.reduceAdd,Int.reduceMul,Int.reduceBEq,Int.reduceBNe,Int.reduceGT,Int.reduceGE,Nat.reduceGT,Int.reduceToNat,Int.reduceNeg,Nat.reduceLeDiff,Nat.reduceBEq,Nat.reduceBneDiff,Value.cells, f2K, hk1]
    unfold ir_bandboxref11_Disk_Crash_43
    have hcr : x.2.crash keep torn = ⟨x.2.safe ++ keptF keep torn (lastF keep x.2.writes.length) x.2.writes (lastF keep x.2.writes.length), []⟩ := rfl
    rw [hcr] at hfs
    generalize lastF keep x.2.writes.length = L at ll ls hfs ⊢
    have f1K := f1 K (Heap.le_refl _)
    simp -implicitDefEqProofs only [zB1,zB2,zB3,zB4,zB5,zB6,zB7,zB8,zB9,zB10,zB11,y00,y01,y02,y03,y04,y05,y06,y07,y08,y09,y0a,y0b,y0c,y0d,y0e,y0f,y0g,y0h,y0i,y0j,y0k,y0l,y0m,y0n,y0o,y0p,y0q,y0r,y0s,y0t,y0u,y0v,y0w,y0x,y0y,y0z,y10,y11,y12,y13,y14,y15,y16,y17,y18,y19,y1a,y1b,y1c,y1d,y1e,y1f,y1g,y1h,y1i,y1j,y1k,y1l,y1m,y1n,y1o,y1p,y1q,y1r,retO,retL,retV,z6i,allV,allP,z6j,z6m,z6n,z6t,z6u,z6v,binV,eqV,unV,oOpt,reduceIte,reduceCtorEq,Nat.reduceEqDiff,Nat.reduceAdd,Nat.reduceMul,Nat.reduceLT,Nat.reduceSub,Int.reduceLT,Int.reduceLE,Int.reduceEq,Int.reduceNe,Int.reduceSub,Int.reduceAdd,Int.reduceMul,Int.reduceBEq,Int.reduceBNe,Int.reduceGT,Int.reduceGE,Nat.reduceGT,Int.reduceToNat,Int.reduceNeg,Nat.reduceLeDiff,Nat.reduceBEq,Nat.reduceBneDiff,Value.cells, List.flatten_nil, List.replicate_zero]
    intro b2 hb2
    try simp -implicitDefEqProofs only [zB1,zB2,zB3,zB4,zB5,zB6,zB7,zB8,zB9,zB10,zB11,y00,y01,y02,y03,y04,y05,y06,y07,y08,y09,y0a,y0b,y0c,y0d,y0e,y0f,y0g,y0h,y0i,y0j,y0k,y0l,y0m,y0n,y0o,y0p,y0q,y0r,y0s,y0t,y0u,y0v,y0w,y0x,y0y,y0z,y10,y11,y12,y13,y14,y15,y16,y17,y18,y19,y1a,y1b,y1c,y1d,y1e,y1f,y1g,y1h,y1i,y1j,y1k,y1l,y1m,y1n,y1o,y1p,y1q,y1r,retO,retL,retV,z6i,allV,allP,z6j,z6m,z6n,z6t,z6u,z6v,binV,eqV,unV,oOpt,reduceIte,reduceCtorEq,Nat.reduceEqDiff,Nat.reduceAdd,Nat.reduceMul,Nat.reduceLT,Nat.reduceSub,Int.reduceLT,Int.reduceLE,Int.reduceEq,Int.reduceNe,Int.reduceSub,Int.reduceAdd,Int.reduceMul,Int.reduceBEq,Int.reduceBNe,Int.reduceGT,Int.reduceGE,Nat.reduceGT,Int.reduceToNat,Int.reduceNeg,Nat.reduceLeDiff,Nat.reduceBEq,Nat.reduceBneDiff,Value.cells]
    have le2 := Heap.le_set (Heap.le_refl K) hb2 (.own 0 [] 0)
    have f12 := f1 _ le2
    have sK := s1.le (Heap.le_trans (Heap.bare_le _ _) leB)
    have sW := s2.le (Heap.le_trans (Heap.bare_le _ _) leB)
    simp -implicitDefEqProofs only [zB1,zB2,zB3,zB4,zB5,zB6,zB7,zB8,zB9,zB10,zB11,y00,y01,y02,y03,y04,y05,y06,y07,y08,y09,y0a,y0b,y0c,y0d,y0e,y0f,y0g,y0h,y0i,y0j,y0k,y0l,y0m,y0n,y0o,y0p,y0q,y0r,y0s,y0t,y0u,y0v,y0w,y0x,y0y,y0z,y10,y11,y12,y13,y14,y15,y16,y17,y18,y19,y1a,y1b,y1c,y1d,y1e,y1f,y1g,y1h,y1i,y1j,y1k,y1l,y1m,y1n,y1o,y1p,y1q,y1r,retO,retL,retV,z6i,allV,allP,z6j,z6m,z6n,z6t,z6u,z6v,binV,eqV,unV,oOpt,reduceIte,reduceCtorEq,Nat.reduceEqDiff,Nat.reduceAdd,Nat.reduceMul,Nat.reduceLT,Nat.reduceSub,Int.reduceLT,Int.reduceLE,Int.reduceEq,Int.reduceNe,Int.reduceSub,Int.reduceAdd,Int.reduceMul,Int.reduceBEq,Int.reduceBNe,Int.reduceGT,Int.reduceGE,Nat.reduceGT,Int.reduceToNat,Int.reduceNeg,Nat.reduceLeDiff,Nat.reduceBEq,Nat.reduceBneDiff,Value.cells, f12]
    refine appendP_ow (n := 0) (cells := []) (m := x.2.safe.length) (news := x.2.safe.map u8V) le2 (by omega) (Ow.new (c := 0) (sz := 0) (Heap.le_refl _) hb2 rfl (by omega) (by omega)) (sK.le le2) (one_u8 _) (by omega) (by omega) ?_
    intro v3 K3 o3 le3
    rw [Nat.zero_add, List.nil_append] at o3
    obtain ⟨vb3, vc3, rfl⟩ := Sl.shape o3.sl
    simp -implicitDefEqProofs only [zB1,zB2,zB3,zB4,zB5,zB6,zB7,zB8,zB9,zB10,zB11,y00,y01,y02,y03,y04,y05,y06,y07,y08,y09,y0a,y0b,y0c,y0d,y0e,y0f,y0g,y0h,y0i,y0j,y0k,y0l,y0m,y0n,y0o,y0p,y0q,y0r,y0s,y0t,y0u,y0v,y0w,y0x,y0y,y0z,y10,y11,y12,y13,y14,y15,y16,y17,y18,y19,y1a,y1b,y1c,y1d,y1e,y1f,y1g,y1h,y1i,y1j,y1k,y1l,y1m,y1n,y1o,y1p,y1q,y1r,retO,retL,retV,z6i,allV,allP,z6j,z6m,z6n,z6t,z6u,z6v,binV,eqV,unV,oOpt,reduceIte,reduceCtorEq,Nat.reduceEqDiff,Nat.reduceAdd,Nat.reduceMul,Nat.reduceLT,Nat.reduceSub,Int.reduceLT,Int.reduceLE,Int.reduceEq,Int.reduceNe,Int.reduceSub,Int.reduceAdd,Int.reduceMul,Int.reduceBEq,Int.reduceBNe,Int.reduceGT,Int.reduceGE,Nat.reduceGT,Int.reduceToNat,Int.reduceNeg,Nat.reduceLeDiff,Nat.reduceBEq,Nat.reduceBneDiff,Value.cells]
    refine wp_loop' (fun m t G' => K.le G' ∧ ∃ (k : Nat) (av : Value) (X : List UInt8), t = tl [(0, ptrV w), (1, .int .u64 keep.toNat), (2, .int .i64 torn), (6, .int .i64 i), (7, .pointer (some ⟨bx, 0, none⟩)), (8, .int .i64 ((L : Int) - 1)), (10, av), (11, .int .i64 k)] ∧ k ≤ L ∧ m = L - k ∧
        X = x.2.safe ++ keptF keep torn L x.2.writes k ∧ Ow K G' 1 av X.length (X.map u8V)) L
      ⟨le3, 0, _, x.2.safe, rfl, by omega, by omega, by simp [keptF], o3⟩ ?_
    rintro m t G' ⟨leK, k, av, X, rfl, hkL, rfl, hX, oX⟩
    obtain ⟨ab, ac, rfl⟩ := Sl.shape oX.sl
    by_cases hkl : k < L
    · have hk1 : (k : Int) ≤ (L : Int) - 1 := by omega
      have hk2 : (k : Int) < x.2.writes.length := by omega
      have hk3 : (0 : Int) ≤ k := by omega
      have hkw : k < x.2.writes.length := by omega
      have w2 : IntKind.i64.wrap ((k : Int) + 1) = ((k + 1 : Nat) : Int) := wrapN (by omega)
      obtain ⟨wb1, wo, bi, ci, rfl, si, ciH⟩ := sW.at' k hkw
      have eD : x.2.writes.getD k [] = x.2.writes[k] := by simp [List.getD, List.getElem?_eq_getElem hkw]
      have kl := keptF_len keep torn L x.2.writes k (by omega)
      have tl2 := take_flat_len x.2.writes (k + 1)
      have tl3 : (x.2.writes.take (k + 1)).flatten.length = (x.2.writes.take k).flatten.length + x.2.writes[k].length := by
        rw [List.take_succ_eq_append_getElem hkw, List.flatten_append, List.length_append, List.flatten_singleton]
      have lf := leftF_len keep torn L k x.2.writes[k]
      have lX := congrArg List.length hX
      rw [List.length_append] at lX
      have hks := keptF_succ keep torn L x.2.writes k
      rw [eD] at hks
      unfold ir_bandboxref11_Disk_Crash_52
      simp -implicitDefEqProofs only [zB1,zB2,zB3,zB4,zB5,zB6,zB7,zB8,zB9,zB10,zB11,y00,y01,y02,y03,y04,y05,y06,y07,y08,y09,y0a,y0b,y0c,y0d,y0e,y0f,y0g,y0h,y0i,y0j,y0k,y0l,y0m,y0n,y0o,y0p,y0q,y0r,y0s,y0t,y0u,y0v,y0w,y0x,y0y,y0z,y10,y11,y12,y13,y14,y15,y16,y17,y18,y19,y1a,y1b,y1c,y1d,y1e,y1f,y1g,y1h,y1i,y1j,y1k,y1l,y1m,y1n,y1o,y1p,y1q,y1r,retO,retL,retV,z6i,allV,allP,z6j,z6m,z6n,z6t,z6u,z6v,binV,eqV,unV,oOpt,reduceIte,reduceCtorEq,Nat.reduceEqDiff,Nat.reduceAdd,Nat.reduceMul,Nat.reduceLT,Nat.reduceSub,Int.reduceLT,Int.reduceLE,Int.reduceEq,Int.reduceNe,Int.reduceSub,Int.reduceAdd,Int.reduceMul,Int.reduceBEq,Int.reduceBNe,Int.reduceGT,Int.reduceGE,Nat.reduceGT,Int.reduceToNat,Int.reduceNeg,Nat.reduceLeDiff,Nat.reduceBEq,Nat.reduceBneDiff,Value.cells, hk1, List.flatten_nil, List.replicate_zero]
      intro b4 hb4
      try simp -implicitDefEqProofs only [zB1,zB2,zB3,zB4,zB5,zB6,zB7,zB8,zB9,zB10,zB11,y00,y01,y02,y03,y04,y05,y06,y07,y08,y09,y0a,y0b,y0c,y0d,y0e,y0f,y0g,y0h,y0i,y0j,y0k,y0l,y0m,y0n,y0o,y0p,y0q,y0r,y0s,y0t,y0u,y0v,y0w,y0x,y0y,y0z,y10,y11,y12,y13,y14,y15,y16,y17,y18,y19,y1a,y1b,y1c,y1d,y1e,y1f,y1g,y1h,y1i,y1j,y1k,y1l,y1m,y1n,y1o,y1p,y1q,y1r,retO,retL,retV,z6i,allV,allP,z6j,z6m,z6n,z6t,z6u,z6v,binV,eqV,unV,oOpt,reduceIte,reduceCtorEq,Nat.reduceEqDiff,Nat.reduceAdd,Nat.reduceMul,Nat.reduceLT,Nat.reduceSub,Int.reduceLT,Int.reduceLE,Int.reduceEq,Int.reduceNe,Int.reduceSub,Int.reduceAdd,Int.reduceMul,Int.reduceBEq,Int.reduceBNe,Int.reduceGT,Int.reduceGE,Nat.reduceGT,Int.reduceToNat,Int.reduceNeg,Nat.reduceLeDiff,Nat.reduceBEq,Nat.reduceBneDiff,Value.cells]
      have le4 := Heap.le_set (Heap.le_refl G') hb4 (.own 0 [] 0)
      have f24 := f2 _ (Heap.le_trans leK le4)
      have ci4 := ciH _ (Heap.le_trans leK le4)
      simp -implicitDefEqProofs only [zB1,zB2,zB3,zB4,zB5,zB6,zB7,zB8,zB9,zB10,zB11,y00,y01,y02,y03,y04,y05,y06,y07,y08,y09,y0a,y0b,y0c,y0d,y0e,y0f,y0g,y0h,y0i,y0j,y0k,y0l,y0m,y0n,y0o,y0p,y0q,y0r,y0s,y0t,y0u,y0v,y0w,y0x,y0y,y0z,y10,y11,y12,y13,y14,y15,y16,y17,y18,y19,y1a,y1b,y1c,y1d,y1e,y1f,y1g,y1h,y1i,y1j,y1k,y1l,y1m,y1n,y1o,y1p,y1q,y1r,retO,retL,retV,z6i,allV,allP,z6j,z6m,z6n,z6t,z6u,z6v,binV,eqV,unV,oOpt,reduceIte,reduceCtorEq,Nat.reduceEqDiff,Nat.reduceAdd,Nat.reduceMul,Nat.reduceLT,Nat.reduceSub,Int.reduceLT,Int.reduceLE,Int.reduceEq,Int.reduceNe,Int.reduceSub,Int.reduceAdd,Int.reduceMul,Int.reduceBEq,Int.reduceBNe,Int.reduceGT,Int.reduceGE,Nat.reduceGT,Int.reduceToNat,Int.reduceNeg,Nat.reduceLeDiff,Nat.reduceBEq,Nat.reduceBneDiff,Value.cells, f24, hk2, hk3, Int.toNat_natCast, ci4]
      refine appendP_ow (n := 0) (cells := []) (m := x.2.writes[k].length) (news := x.2.writes[k].map u8V) le4 (by omega) (Ow.new (c := 0) (sz := 0) (Heap.le_refl _) hb4 rfl (by omega) (by omega)) (si.le (Heap.le_trans leK le4)) (one_u8 _) (by omega) (by omega) ?_
      intro v5 K5 o5 le5
      rw [Nat.zero_add, List.nil_append] at o5
      obtain ⟨vb5, vc5, rfl⟩ := Sl.shape o5.sl
      have oX5 := oX.le le5
      have leK5 := Heap.le_trans leK le5
      simp -implicitDefEqProofs only [zB1,zB2,zB3,zB4,zB5,zB6,zB7,zB8,zB9,zB10,zB11,y00,y01,y02,y03,y04,y05,y06,y07,y08,y09,y0a,y0b,y0c,y0d,y0e,y0f,y0g,y0h,y0i,y0j,y0k,y0l,y0m,y0n,y0o,y0p,y0q,y0r,y0s,y0t,y0u,y0v,y0w,y0x,y0y,y0z,y10,y11,y12,y13,y14,y15,y16,y17,y18,y19,y1a,y1b,y1c,y1d,y1e,y1f,y1g,y1h,y1i,y1j,y1k,y1l,y1m,y1n,y1o,y1p,y1q,y1r,retO,retL,retV,z6i,allV,allP,z6j,z6m,z6n,z6t,z6u,z6v,binV,eqV,unV,oOpt,reduceIte,reduceCtorEq,Nat.reduceEqDiff,Nat.reduceAdd,Nat.reduceMul,Nat.reduceLT,Nat.reduceSub,Int.reduceLT,Int.reduceLE,Int.reduceEq,Int.reduceNe,Int.reduceSub,Int.reduceAdd,Int.reduceMul,Int.reduceBEq,Int.reduceBNe,Int.reduceGT,Int.reduceGE,Nat.reduceGT,Int.reduceToNat,Int.reduceNeg,Nat.reduceLeDiff,Nat.reduceBEq,Nat.reduceBneDiff,Value.cells]
      refine (ref_stays_c E K5 keep k (by omega)).mono ?_
      rintro r K6 ⟨rfl, rfl⟩
      /- the append of what is left -/
      have fin : ∀ (K7 : Heap) (xv : Value), K6.le K7 → SlB K7 xv (leftF keep torn L k x.2.writes[k]) → ∀ C : Value → Heap → Prop, (∀ v K8, K.le K8 → Ow K K8 1 v (X ++ leftF keep torn L k x.2.writes[k]).length ((X ++ leftF keep torn L k x.2.writes[k]).map u8V) → C v K8) → appendP 1 1 K7 (.slice ab X.length ac) xv C := by
        intro K7 xv le7 sx C hC
        refine appendP_ow (Heap.le_trans leK5 le7) (by omega) (oX5.le le7) sx (one_u8 _) (by omega) (by omega) ?_
        intro v8 K8 o8 le8
        refine hC v8 K8 le8 ?_
        rw [List.length_append, List.map_append]; exact o8
      by_cases st : staysF keep k = true
      · simp -implicitDefEqProofs only [zB1,zB2,zB3,zB4,zB5,zB6,zB7,zB8,zB9,zB10,zB11,y00,y01,y02,y03,y04,y05,y06,y07,y08,y09,y0a,y0b,y0c,y0d,y0e,y0f,y0g,y0h,y0i,y0j,y0k,y0l,y0m,y0n,y0o,y0p,y0q,y0r,y0s,y0t,y0u,y0v,y0w,y0x,y0y,y0z,y10,y11,y12,y13,y14,y15,y16,y17,y18,y19,y1a,y1b,y1c,y1d,y1e,y1f,y1g,y1h,y1i,y1j,y1k,y1l,y1m,y1n,y1o,y1p,y1q,y1r,retO,retL,retV,z6i,allV,allP,z6j,z6m,z6n,z6t,z6u,z6v,binV,eqV,unV,oOpt,reduceIte,reduceCtorEq,Nat.reduceEqDiff,Nat.reduceAdd,Nat.reduceMul,Nat.reduceLT,Nat.reduceSub,Int.reduceLT,Int.reduceLE,Int.reduceEq,Int.reduceNe,Int.reduceSub,Int.reduceAdd,Int.reduceMul,Int.reduceBEq,Int.reduceBNe,Int.reduceGT,Int.reduceGE,Nat.reduceGT,Int.reduceToNat,Int.reduceNeg,Nat.reduceLeDiff,Nat.reduceBEq,Nat.reduceBneDiff,Value.cells, st]
        unfold ir_bandboxref11_Disk_Crash_66
        by_cases hlast : k + 1 = L
        · have hb : ((k : Int) == (L : Int) - 1) = true := by simp; omega
          by_cases ht : 0 < torn
          · by_cases hbig : (x.2.writes[k].length : Int) < torn
            · have eL : leftF keep torn L k x.2.writes[k] = [] := by
                unfold leftF
                rw [if_pos st, if_pos ⟨hlast, ht⟩, show x.2.writes[k].length - min torn.toNat x.2.writes[k].length = 0 by omega, List.take_zero]
              simp -implicitDefEqProofs only [zB1,zB2,zB3,zB4,zB5,zB6,zB7,zB8,zB9,zB10,zB11,y00,y01,y02,y03,y04,y05,y06,y07,y08,y09,y0a,y0b,y0c,y0d,y0e,y0f,y0g,y0h,y0i,y0j,y0k,y0l,y0m,y0n,y0o,y0p,y0q,y0r,y0s,y0t,y0u,y0v,y0w,y0x,y0y,y0z,y10,y11,y12,y13,y14,y15,y16,y17,y18,y19,y1a,y1b,y1c,y1d,y1e,y1f,y1g,y1h,y1i,y1j,y1k,y1l,y1m,y1n,y1o,y1p,y1q,y1r,retO,retL,retV,z6i,allV,allP,z6j,z6m,z6n,z6t,z6u,z6v,binV,eqV,unV,oOpt,reduceIte,reduceCtorEq,Nat.reduceEqDiff,Nat.reduceAdd,Nat.reduceMul,Nat.reduceLT,Nat.reduceSub,Int.reduceLT,Int.reduceLE,Int.reduceEq,Int.reduceNe,Int.reduceSub,Int.reduceAdd,Int.reduceMul,Int.reduceBEq,Int.reduceBNe,Int.reduceGT,Int.reduceGE,Nat.reduceGT,Int.reduceToNat,Int.reduceNeg,Nat.reduceLeDiff,Nat.reduceBEq,Nat.reduceBneDiff,Value.cells, hb, ht, hbig]
              refine fin _ _ (Heap.le_refl _) (by rw [eL]; exact .inl ⟨rfl, rfl, rfl⟩) _ ?_
              intro v K8 le8 o8
              obtain ⟨vb8, vc8, rfl⟩ := Sl.shape o8.sl
              simp -implicitDefEqProofs only [zB1,zB2,zB3,zB4,zB5,zB6,zB7,zB8,zB9,zB10,zB11,y00,y01,y02,y03,y04,y05,y06,y07,y08,y09,y0a,y0b,y0c,y0d,y0e,y0f,y0g,y0h,y0i,y0j,y0k,y0l,y0m,y0n,y0o,y0p,y0q,y0r,y0s,y0t,y0u,y0v,y0w,y0x,y0y,y0z,y10,y11,y12,y13,y14,y15,y16,y17,y18,y19,y1a,y1b,y1c,y1d,y1e,y1f,y1g,y1h,y1i,y1j,y1k,y1l,y1m,y1n,y1o,y1p,y1q,y1r,retO,retL,retV,z6i,allV,allP,z6j,z6m,z6n,z6t,z6u,z6v,binV,eqV,unV,oOpt,reduceIte,reduceCtorEq,Nat.reduceEqDiff,Nat.reduceAdd,Nat.reduceMul,Nat.reduceLT,Nat.reduceSub,Int.reduceLT,Int.reduceLE,Int.reduceEq,Int.reduceNe,Int.reduceSub,Int.reduceAdd,Int.reduceMul,Int.reduceBEq,Int.reduceBNe,Int.reduceGT,Int.reduceGE,Nat.reduceGT,Int.reduceToNat,Int.reduceNeg,Nat.reduceLeDiff,Nat.reduceBEq,Nat.reduceBneDiff,Value.cells, w2]
              exact ⟨L - (k + 1), by omega, le8, k + 1, _, X ++ leftF keep torn L k x.2.writes[k], rfl, by omega, rfl, by rw [hks, ← List.append_assoc, hX], o8⟩
            · have w3 : IntKind.i64.wrap ((x.2.writes[k].length : Int) - torn) = ((x.2.writes[k].length - min torn.toNat x.2.writes[k].length : Nat) : Int) := by
                rw [wrapI (by omega) (by omega)]; omega
              have hcap := Sl.cap o5.sl
              have bd : bnds x.2.writes[k].length vc5 none (some (some (.int .i64 ((x.2.writes[k].length - min torn.toNat x.2.writes[k].length : Nat) : Int)))) none = some (0, x.2.writes[k].length - min torn.toNat x.2.writes[k].length, vc5) := bnds_hi (by omega) (by omega)
              have eL : leftF keep torn L k x.2.writes[k] = x.2.writes[k].take (x.2.writes[k].length - min torn.toNat x.2.writes[k].length) := by
                unfold leftF; rw [if_pos st, if_pos ⟨hlast, ht⟩]
              have sx := Sl.headB o5.sl (m := x.2.writes[k].length - min torn.toNat x.2.writes[k].length) (by omega)
              simp -implicitDefEqProofs only [zB1,zB2,zB3,zB4,zB5,zB6,zB7,zB8,zB9,zB10,zB11,y00,y01,y02,y03,y04,y05,y06,y07,y08,y09,y0a,y0b,y0c,y0d,y0e,y0f,y0g,y0h,y0i,y0j,y0k,y0l,y0m,y0n,y0o,y0p,y0q,y0r,y0s,y0t,y0u,y0v,y0w,y0x,y0y,y0z,y10,y11,y12,y13,y14,y15,y16,y17,y18,y19,y1a,y1b,y1c,y1d,y1e,y1f,y1g,y1h,y1i,y1j,y1k,y1l,y1m,y1n,y1o,y1p,y1q,y1r,retO,retL,retV,z6i,allV,allP,z6j,z6m,z6n,z6t,z6u,z6v,binV,eqV,unV,oOpt,reduceIte,reduceCtorEq,Nat.reduceEqDiff,Nat.reduceAdd,Nat.reduceMul,Nat.reduceLT,Nat.reduceSub,Int.reduceLT,Int.reduceLE,Int.reduceEq,Int.reduceNe,Int.reduceSub,Int.reduceAdd,Int.reduceMul,Int.reduceBEq,Int.reduceBNe,Int.reduceGT,Int.reduceGE,Nat.reduceGT,Int.reduceToNat,Int.reduceNeg,Nat.reduceLeDiff,Nat.reduceBEq,Nat.reduceBneDiff,Value.cells, hb, ht, hbig, w3, bd, addO vb5 vc5 (fun a _ => addr_add0 a), Nat.sub_zero]
              refine fin _ _ (Heap.le_refl _) (by rw [eL]; exact sx) _ ?_
              intro v K8 le8 o8
              obtain ⟨vb8, vc8, rfl⟩ := Sl.shape o8.sl
              simp -implicitDefEqProofs only [zB1,zB2,zB3,zB4,zB5,zB6,zB7,zB8,zB9,zB10,zB11,y00,y01,y02,y03,y04,y05,y06,y07,y08,y09,y0a,y0b,y0c,y0d,y0e,y0f,y0g,y0h,y0i,y0j,y0k,y0l,y0m,y0n,y0o,y0p,y0q,y0r,y0s,y0t,y0u,y0v,y0w,y0x,y0y,y0z,y10,y11,y12,y13,y14,y15,y16,y17,y18,y19,y1a,y1b,y1c,y1d,y1e,y1f,y1g,y1h,y1i,y1j,y1k,y1l,y1m,y1n,y1o,y1p,y1q,y1r,retO,retL,retV,z6i,allV,allP,z6j,z6m,z6n,z6t,z6u,z6v,binV,eqV,unV,oOpt,reduceIte,reduceCtorEq,Nat.reduceEqDiff,Nat.reduceAdd,Nat.reduceMul,Nat.reduceLT,Nat.reduceSub,Int.reduceLT,Int.reduceLE,Int.reduceEq,Int.reduceNe,Int.reduceSub,Int.reduceAdd,Int.reduceMul,Int.reduceBEq,Int.reduceBNe,Int.reduceGT,Int.reduceGE,Nat.reduceGT,Int.reduceToNat,Int.reduceNeg,Nat.reduceLeDiff,Nat.reduceBEq,Nat.reduceBneDiff,Value.cells, w2]
              exact ⟨L - (k + 1), by omega, le8, k + 1, _, X ++ leftF keep torn L k x.2.writes[k], rfl, by omega, rfl, by rw [hks, ← List.append_assoc, hX], o8⟩
          · have eL : leftF keep torn L k x.2.writes[k] = x.2.writes[k] := by
              unfold leftF; rw [if_pos st, if_neg (fun h => ht h.2)]
            simp -implicitDefEqProofs only [zB1,zB2,zB3,zB4,zB5,zB6,zB7,zB8,zB9,zB10,zB11,y00,y01,y02,y03,y04,y05,y06,y07,y08,y09,y0a,y0b,y0c,y0d,y0e,y0f,y0g,y0h,y0i,y0j,y0k,y0l,y0m,y0n,y0o,y0p,y0q,y0r,y0s,y0t,y0u,y0v,y0w,y0x,y0y,y0z,y10,y11,y12,y13,y14,y15,y16,y17,y18,y19,y1a,y1b,y1c,y1d,y1e,y1f,y1g,y1h,y1i,y1j,y1k,y1l,y1m,y1n,y1o,y1p,y1q,y1r,retO,retL,retV,z6i,allV,allP,z6j,z6m,z6n,z6t,z6u,z6v,binV,eqV,unV,oOpt,reduceIte,reduceCtorEq,Nat.reduceEqDiff,Nat.reduceAdd,Nat.reduceMul,Nat.reduceLT,Nat.reduceSub,Int.reduceLT,Int.reduceLE,Int.reduceEq,Int.reduceNe,Int.reduceSub,Int.reduceAdd,Int.reduceMul,Int.reduceBEq,Int.reduceBNe,Int.reduceGT,Int.reduceGE,Nat.reduceGT,Int.reduceToNat,Int.reduceNeg,Nat.reduceLeDiff,Nat.reduceBEq,Nat.reduceBneDiff,Value.cells, hb, ht]
            refine fin _ _ (Heap.le_refl _) (by rw [eL]; exact o5.sl) _ ?_
            intro v K8 le8 o8
            obtain ⟨vb8, vc8, rfl⟩ := Sl.shape o8.sl
            simp -implicitDefEqProofs only [zB1,zB2,zB3,zB4,zB5,zB6,zB7,zB8,zB9,zB10,zB11,y00,y01,y02,y03,y04,y05,y06,y07,y08,y09,y0a,y0b,y0c,y0d,y0e,y0f,y0g,y0h,y0i,y0j,y0k,y0l,y0m,y0n,y0o,y0p,y0q,y0r,y0s,y0t,y0u,y0v,y0w,y0x,y0y,y0z,y10,y11,y12,y13,y14,y15,y16,y17,y18,y19,y1a,y1b,y1c,y1d,y1e,y1f,y1g,y1h,y1i,y1j,y1k,y1l,y1m,y1n,y1o,y1p,y1q,y1r,retO,retL,retV,z6i,allV,allP,z6j,z6m,z6n,z6t,z6u,z6v,binV,eqV,unV,oOpt,reduceIte,reduceCtorEq,Nat.reduceEqDiff,Nat.reduceAdd,Nat.reduceMul,Nat.reduceLT,Nat.reduceSub,Int.reduceLT,Int.reduceLE,Int.reduceEq,Int.reduceNe,Int.reduceSub,Int.reduceAdd,Int.reduceMul,Int.reduceBEq,Int.reduceBNe,Int.reduceGT,Int.reduceGE,Nat.reduceGT,Int.reduceToNat,Int.reduceNeg,Nat.reduceLeDiff,Nat.reduceBEq,Nat.reduceBneDiff,Value.cells, w2]
            exact ⟨L - (k + 1), by omega, le8, k + 1, _, X ++ leftF keep torn L k x.2.writes[k], rfl, by omega, rfl, by rw [hks, ← List.append_assoc, hX], o8⟩
        · have hb : ((k : Int) == (L : Int) - 1) = false := by simp; omega
          have eL : leftF keep torn L k x.2.writes[k] = x.2.writes[k] := by
            unfold leftF; rw [if_pos st, if_neg (fun h => hlast h.1)]
          simp -implicitDefEqProofs only [zB1,zB2,zB3,zB4,zB5,zB6,zB7,zB8,zB9,zB10,zB11,y00,y01,y02,y03,y04,y05,y06,y07,y08,y09,y0a,y0b,y0c,y0d,y0e,y0f,y0g,y0h,y0i,y0j,y0k,y0l,y0m,y0n,y0o,y0p,y0q,y0r,y0s,y0t,y0u,y0v,y0w,y0x,y0y,y0z,y10,y11,y12,y13,y14,y15,y16,y17,y18,y19,y1a,y1b,y1c,y1d,y1e,y1f,y1g,y1h,y1i,y1j,y1k,y1l,y1m,y1n,y1o,y1p,y1q,y1r,retO,retL,retV,z6i,allV,allP,z6j,z6m,z6n,z6t,z6u,z6v,binV,eqV,unV,oOpt,reduceIte,reduceCtorEq,Nat.reduceEqDiff,Nat.reduceAdd,Nat.reduceMul,Nat.reduceLT,Nat.reduceSub,Int.reduceLT,Int.reduceLE,Int.reduceEq,Int.reduceNe,Int.reduceSub,Int.reduceAdd,Int.reduceMul,Int.reduceBEq,Int.reduceBNe,Int.reduceGT,Int.reduceGE,Nat.reduceGT,Int.reduceToNat,Int.reduceNeg,Nat.reduceLeDiff,Nat.reduceBEq,Nat.reduceBneDiff,Value.cells, hb]
          refine fin _ _ (Heap.le_refl _) (by rw [eL]; exact o5.sl) _ ?_
          intro v K8 le8 o8
          obtain ⟨vb8, vc8, rfl⟩ := Sl.shape o8.sl
          simp -implicitDefEqProofs only [zB1,zB2,zB3,zB4,zB5,zB6,zB7,zB8,zB9,zB10,zB11,y00,y01,y02,y03,y04,y05,y06,y07,y08,y09,y0a,y0b,y0c,y0d,y0e,y0f,y0g,y0h,y0i,y0j,y0k,y0l,y0m,y0n,y0o,y0p,y0q,y0r,y0s,y0t,y0u,y0v,y0w,y0x,y0y,y0z,y10,y11,y12,y13,y14,y15,y16,y17,y18,y19,y1a,y1b,y1c,y1d,y1e,y1f,y1g,y1h,y1i,y1j,y1k,y1l,y1m,y1n,y1o,y1p,y1q,y1r,retO,retL,retV,z6i,allV,allP,z6j,z6m,z6n,z6t,z6u,z6v,binV,eqV,unV,oOpt,reduceIte,reduceCtorEq,Nat.reduceEqDiff,Nat.reduceAdd,Nat.reduceMul,Nat.reduceLT,Nat.reduceSub,Int.reduceLT,Int.reduceLE,Int.reduceEq,Int.reduceNe,Int.reduceSub,Int.reduceAdd,Int.reduceMul,Int.reduceBEq,Int.reduceBNe,Int.reduceGT,Int.reduceGE,Nat.reduceGT,Int.reduceToNat,Int.reduceNeg,Nat.reduceLeDiff,Nat.reduceBEq,Nat.reduceBneDiff,Value.cells, w2]
          exact ⟨L - (k + 1), by omega, le8, k + 1, _, X ++ leftF keep torn L k x.2.writes[k], rfl, by omega, rfl, by rw [hks, ← List.append_assoc, hX], o8⟩
      · have hlast : ¬ k + 1 = L := fun h => st (ls k h.symm)
        have hb : ((k : Int) == (L : Int) - 1) = false := by simp; omega
        have g0 : (0 : Int) ≤ x.2.writes[k].length := by omega
        have g1 : (x.2.writes[k].length : Int) ≤ 9223372036854775807 := by omega
        have g2 : 1 * x.2.writes[k].length ≤ 281474976710656 := by omega
        have g3 : ((1 * x.2.writes[k].length : Nat) : Int) ≤ 281474976710656 := by omega
        have g4 : (x.2.writes[k].length : Int) ≤ 281474976710656 := by omega
        have eL : leftF keep torn L k x.2.writes[k] = List.replicate x.2.writes[k].length 0 := by
          unfold leftF; rw [if_neg st]
        have zr : List.replicate x.2.writes[k].length (Value.int .u8 0) = (List.replicate x.2.writes[k].length (0 : UInt8)).map u8V := by rw [List.map_replicate]; rfl
        simp -implicitDefEqProofs only [zB1,zB2,zB3,zB4,zB5,zB6,zB7,zB8,zB9,zB10,zB11,y00,y01,y02,y03,y04,y05,y06,y07,y08,y09,y0a,y0b,y0c,y0d,y0e,y0f,y0g,y0h,y0i,y0j,y0k,y0l,y0m,y0n,y0o,y0p,y0q,y0r,y0s,y0t,y0u,y0v,y0w,y0x,y0y,y0z,y10,y11,y12,y13,y14,y15,y16,y17,y18,y19,y1a,y1b,y1c,y1d,y1e,y1f,y1g,y1h,y1i,y1j,y1k,y1l,y1m,y1n,y1o,y1p,y1q,y1r,retO,retL,retV,z6i,allV,allP,z6j,z6m,z6n,z6t,z6u,z6v,binV,eqV,unV,oOpt,reduceIte,reduceCtorEq,Nat.reduceEqDiff,Nat.reduceAdd,Nat.reduceMul,Nat.reduceLT,Nat.reduceSub,Int.reduceLT,Int.reduceLE,Int.reduceEq,Int.reduceNe,Int.reduceSub,Int.reduceAdd,Int.reduceMul,Int.reduceBEq,Int.reduceBNe,Int.reduceGT,Int.reduceGE,Nat.reduceGT,Int.reduceToNat,Int.reduceNeg,Nat.reduceLeDiff,Nat.reduceBEq,Nat.reduceBneDiff,Value.cells, st, g0, g1, g2, g3, g4, Int.toNat_natCast, Int.le_refl, Int.one_mul]
        intro b44 hb44
        rw [zr]
        have le44 := Heap.le_set (Heap.le_refl K6) hb44 (.own 0 ((List.replicate x.2.writes[k].length (0 : UInt8)).map u8V) x.2.writes[k].length)
        have sx : SlB (K6.set b44 (.own 0 ((List.replicate x.2.writes[k].length (0 : UInt8)).map u8V) x.2.writes[k].length)) (.slice (some ⟨b44, 0, none⟩) x.2.writes[k].length x.2.writes[k].length) (List.replicate x.2.writes[k].length 0) := by
          have := Sl.lit (h := K6) (b := b44) (n := x.2.writes[k].length) (sz := x.2.writes[k].length) (size := 1) (vs := (List.replicate x.2.writes[k].length (0 : UInt8)).map u8V) (by simp)
          unfold SlB
          rw [List.length_replicate]; exact this
        generalize (K6.set b44 (.own 0 ((List.replicate x.2.writes[k].length (0 : UInt8)).map u8V) x.2.writes[k].length)) = K7 at le44 sx
        try simp -implicitDefEqProofs only [zB1,zB2,zB3,zB4,zB5,zB6,zB7,zB8,zB9,zB10,zB11,y00,y01,y02,y03,y04,y05,y06,y07,y08,y09,y0a,y0b,y0c,y0d,y0e,y0f,y0g,y0h,y0i,y0j,y0k,y0l,y0m,y0n,y0o,y0p,y0q,y0r,y0s,y0t,y0u,y0v,y0w,y0x,y0y,y0z,y10,y11,y12,y13,y14,y15,y16,y17,y18,y19,y1a,y1b,y1c,y1d,y1e,y1f,y1g,y1h,y1i,y1j,y1k,y1l,y1m,y1n,y1o,y1p,y1q,y1r,retO,retL,retV,z6i,allV,allP,z6j,z6m,z6n,z6t,z6u,z6v,binV,eqV,unV,oOpt,reduceIte,reduceCtorEq,Nat.reduceEqDiff,Nat.reduceAdd,Nat.reduceMul,Nat.reduceLT,Nat.reduceSub,Int.reduceLT,Int.reduceLE,Int.reduceEq,Int.reduceNe,Int.reduceSub,Int.reduceAdd,Int.reduceMul,Int.reduceBEq,Int.reduceBNe,Int.reduceGT,Int.reduceGE,Nat.reduceGT,Int.reduceToNat,Int.reduceNeg,Nat.reduceLeDiff,Nat.reduceBEq,Nat.reduceBneDiff,Value.cells]
        unfold ir_bandboxref11_Disk_Crash_66
        simp -implicitDefEqProofs only [zB1,zB2,zB3,zB4,zB5,zB6,zB7,zB8,zB9,zB10,zB11,y00,y01,y02,y03,y04,y05,y06,y07,y08,y09,y0a,y0b,y0c,y0d,y0e,y0f,y0g,y0h,y0i,y0j,y0k,y0l,y0m,y0n,y0o,y0p,y0q,y0r,y0s,y0t,y0u,y0v,y0w,y0x,y0y,y0z,y10,y11,y12,y13,y14,y15,y16,y17,y18,y19,y1a,y1b,y1c,y1d,y1e,y1f,y1g,y1h,y1i,y1j,y1k,y1l,y1m,y1n,y1o,y1p,y1q,y1r,retO,retL,retV,z6i,allV,allP,z6j,z6m,z6n,z6t,z6u,z6v,binV,eqV,unV,oOpt,reduceIte,reduceCtorEq,Nat.reduceEqDiff,Nat.reduceAdd,Nat.reduceMul,Nat.reduceLT,Nat.reduceSub,Int.reduceLT,Int.reduceLE,Int.reduceEq,Int.reduceNe,Int.reduceSub,Int.reduceAdd,Int.reduceMul,Int.reduceBEq,Int.reduceBNe,Int.reduceGT,Int.reduceGE,Nat.reduceGT,Int.reduceToNat,Int.reduceNeg,Nat.reduceLeDiff,Nat.reduceBEq,Nat.reduceBneDiff,Value.cells, hb]
        refine fin _ _ le44 (by rw [eL]; exact sx) _ ?_
        intro v K8 le8 o8
        obtain ⟨vb8, vc8, rfl⟩ := Sl.shape o8.sl
        simp -implicitDefEqProofs only [zB1,zB2,zB3,zB4,zB5,zB6,zB7,zB8,zB9,zB10,zB11,y00,y01,y02,y03,y04,y05,y06,y07,y08,y09,y0a,y0b,y0c,y0d,y0e,y0f,y0g,y0h,y0i,y0j,y0k,y0l,y0m,y0n,y0o,y0p,y0q,y0r,y0s,y0t,y0u,y0v,y0w,y0x,y0y,y0z,y10,y11,y12,y13,y14,y15,y16,y17,y18,y19,y1a,y1b,y1c,y1d,y1e,y1f,y1g,y1h,y1i,y1j,y1k,y1l,y1m,y1n,y1o,y1p,y1q,y1r,retO,retL,retV,z6i,allV,allP,z6j,z6m,z6n,z6t,z6u,z6v,binV,eqV,unV,oOpt,reduceIte,reduceCtorEq,Nat.reduceEqDiff,Nat.reduceAdd,Nat.reduceMul,Nat.reduceLT,Nat.reduceSub,Int.reduceLT,Int.reduceLE,Int.reduceEq,Int.reduceNe,Int.reduceSub,Int.reduceAdd,Int.reduceMul,Int.reduceBEq,Int.reduceBNe,Int.reduceGT,Int.reduceGE,Nat.reduceGT,Int.reduceToNat,Int.reduceNeg,Nat.reduceLeDiff,Nat.reduceBEq,Nat.reduceBneDiff,Value.cells, w2]
        exact ⟨L - (k + 1), by omega, le8, k + 1, _, X ++ leftF keep torn L k x.2.writes[k], rfl, by omega, rfl, by rw [hks, ← List.append_assoc, hX], o8⟩
    have hk1 : ¬ (k : Int) ≤ (L : Int) - 1 := by omega
    have ek : k = L := by omega
    subst ek
    simp -implicitDefEqProofs only [zB1,zB2,zB3,zB4,zB5,zB6,zB7,zB8,zB9,zB10,zB11,y00,y01,y02,y03,y04,y05,y06,y07,y08,y09,y0a,y0b,y0c,y0d,y0e,y0f,y0g,y0h,y0i,y0j,y0k,y0l,y0m,y0n,y0o,y0p,y0q,y0r,y0s,y0t,y0u,y0v,y0w,y0x,y0y,y0z,y10,y11,y12,y13,y14,y15,y16,y17,y18,y19,y1a,y1b,y1c,y1d,y1e,y1f,y1g,y1h,y1i,y1j,y1k,y1l,y1m,y1n,y1o,y1p,y1q,y1r,retO,retL,retV,z6i,allV,allP,z6j,z6m,z6n,z6t,z6u,z6v,binV,eqV,unV,oOpt,reduceIte,reduceCtorEq,Nat.reduceEqDiff,Nat.reduceAdd,Nat.reduceMul,Nat.reduceLT,Nat.reduceSub,Int.reduceLT,Int.reduceLE,Int.reduceEq,Int.reduceNe,Int.reduceSub,Int.reduceAdd,Int.reduceMul,Int.reduceBEq,Int.reduceBNe,Int.reduceGT,Int.reduceGE,Nat.reduceGT,Int.reduceToNat,Int.reduceNeg,Nat.reduceLeDiff,Nat.reduceBEq,Nat.reduceBneDiff,Value.cells, hk1]
    unfold ir_bandboxref11_Disk_Crash_86
    have c1K := c1 G' (Heap.le_trans leB leK)
    have f0K := f0 G' leK
    have ew : Ext (fun _ => False) κ' G (κ'.wash G) G' := Ext.wash (Heap.le_trans leB leK)
    have RW := RG.ext ew (fun _ _ q => q)
    have hil : i < (fellF keep torn D.files i).length := by omega
    obtain ⟨H9, st9, e9, R9⟩ := RW.put3 (i := i) (x := (x.1, ⟨X, []⟩)) hil (nm := strV x.1) (sv := .slice ab X.length ac) (wv := .slice none 0 0) ⟨_, _, rfl, (oX.since leB).bare, ⟨[], rfl, .inl ⟨rfl, rfl, rfl⟩, fun i h1 h2 => by simp at h1⟩⟩ rfl
    simp only [strV] at st9
    simp -implicitDefEqProofs only [zB1,zB2,zB3,zB4,zB5,zB6,zB7,zB8,zB9,zB10,zB11,y00,y01,y02,y03,y04,y05,y06,y07,y08,y09,y0a,y0b,y0c,y0d,y0e,y0f,y0g,y0h,y0i,y0j,y0k,y0l,y0m,y0n,y0o,y0p,y0q,y0r,y0s,y0t,y0u,y0v,y0w,y0x,y0y,y0z,y10,y11,y12,y13,y14,y15,y16,y17,y18,y19,y1a,y1b,y1c,y1d,y1e,y1f,y1g,y1h,y1i,y1j,y1k,y1l,y1m,y1n,y1o,y1p,y1q,y1r,retO,retL,retV,z6i,allV,allP,z6j,z6m,z6n,z6t,z6u,z6v,binV,eqV,unV,oOpt,reduceIte,reduceCtorEq,Nat.reduceEqDiff,Nat.reduceAdd,Nat.reduceMul,Nat.reduceLT,Nat.reduceSub,Int.reduceLT,Int.reduceLE,Int.reduceEq,Int.reduceNe,Int.reduceSub,Int.reduceAdd,Int.reduceMul,Int.reduceBEq,Int.reduceBNe,Int.reduceGT,Int.reduceGE,Nat.reduceGT,Int.reduceToNat,Int.reduceNeg,Nat.reduceLeDiff,Nat.reduceBEq,Nat.reduceBneDiff,Value.cells, c1K, f0K, hi1, hi2, Int.toNat_natCast, st9, w1, implies_true, List.mem_cons, List.not_mem_nil, List.mem_singleton, or_false, forall_eq, forall_eq_or_imp, and_self]
    rw [hX] at R9
    simp only at R9
    rw [hfs] at R9
    exact ⟨D.files.length - (i + 1), by omega, i + 1, κ'.wash G, rfl, by omega, rfl, (eG.trans (ew.mono fun c h => h.elim)).trans e9, _, _, R9⟩
  · have hi1 : ¬ (i : Int) < D.files.length := by omega
    have e : i = D.files.length := by omega
    subst e
    simp -implicitDefEqProofs only [zB1,zB2,zB3,zB4,zB5,zB6,zB7,zB8,zB9,zB10,zB11,y00,y01,y02,y03,y04,y05,y06,y07,y08,y09,y0a,y0b,y0c,y0d,y0e,y0f,y0g,y0h,y0i,y0j,y0k,y0l,y0m,y0n,y0o,y0p,y0q,y0r,y0s,y0t,y0u,y0v,y0w,y0x,y0y,y0z,y10,y11,y12,y13,y14,y15,y16,y17,y18,y19,y1a,y1b,y1c,y1d,y1e,y1f,y1g,y1h,y1i,y1j,y1k,y1l,y1m,y1n,y1o,y1p,y1q,y1r,retO,retL,retV,z6i,allV,allP,z6j,z6m,z6n,z6t,z6u,z6v,binV,eqV,unV,oOpt,reduceIte,reduceCtorEq,Nat.reduceEqDiff,Nat.reduceAdd,Nat.reduceMul,Nat.reduceLT,Nat.reduceSub,Int.reduceLT,Int.reduceLE,Int.reduceEq,Int.reduceNe,Int.reduceSub,Int.reduceAdd,Int.reduceMul,Int.reduceBEq,Int.reduceBNe,Int.reduceGT,Int.reduceGE,Nat.reduceGT,Int.reduceToNat,Int.reduceNeg,Nat.reduceLeDiff,Nat.reduceBEq,Nat.reduceBneDiff,Value.cells, c1G, hi1]
    have : crashF D keep torn = { D with on := false, files := fellF keep torn D.files D.files.length } := by
      unfold crashF fellF; simp
    rw [this]
    exact ⟨κ', eG, _, cs', RG⟩
end
end Go.Bb
/- Two disks that hold the same files, in whatever order: plainly. -/
namespace Go.Bb
set_option linter.unusedSimpArgs false
set_option linter.unusedVariables false
set_option maxRecDepth 20000

def Nd (L : Files) : Prop := (L.map (·.1)).Nodup
theorem look_mem {L : Files} (nd : Nd L) {s : List UInt8} {F : FileF} : lookF L s = some F ↔ (s, F) ∈ L := by
  constructor
  · intro h
    unfold lookF at h
    rw [Option.map_eq_some_iff] at h
    obtain ⟨x, hx, rfl⟩ := h
    have h1 := List.find?_some hx
    have h2 := List.mem_of_find?_eq_some hx
    simp only [decide_eq_true_eq] at h1
    subst h1; exact h2
  · intro h
    obtain ⟨A, B, e⟩ := List.append_of_mem h
    exact look_split e (nd_split nd e rfl).1 rfl
theorem Nd.perm {L M : Files} (p : L.Perm M) (nd : Nd M) : Nd L := (p.map _).nodup_iff.2 nd
theorem look_perm {L M : Files} (p : L.Perm M) (nd : Nd M) (s : List UInt8) : lookF L s = lookF M s := by
  have nl := nd.perm p
  apply Option.ext
  intro F
  rw [look_mem nl, look_mem nd, p.mem_iff]
theorem size_perm {L M : Files} (p : L.Perm M) : sizeF L = sizeF M := (p.map _).sum_nat
theorem nd_turn {L : Files} (nd : Nd L) (s : List UInt8) (F : FileF) : Nd (turnF' L s F) := by
  have : (turnF' L s F).map (·.1) = L.map (·.1) := by
    unfold turnF'
    rw [List.map_map]
    apply List.map_congr_left
    intro x hx
    simp only [Function.comp]
    split <;> rfl
  unfold Nd; rw [this]; exact nd
theorem nd_snoc {L : Files} (nd : Nd L) {s : List UInt8} (h : lookF L s = none) (F : FileF) : Nd (L ++ [(s, F)]) := by
  unfold Nd
  rw [List.map_append, List.nodup_append]
  refine ⟨nd, by simp, ?_⟩
  intro a ha b hb e
  simp only [List.map_cons, List.map_nil, List.mem_singleton] at hb
  subst hb e
  obtain ⟨x, hx, e⟩ := List.mem_map.1 ha
  have := (look_mem nd (s := x.1) (F := x.2)).2 hx
  rw [e, h] at this; cases this
theorem look_del (L : Files) (s : List UInt8) : lookF (delFile L s) s = none := by
  refine look_absent fun x hx => ?_
  have := (List.mem_filter.1 hx).2
  simpa using this
theorem del_mem {L : Files} {s : List UInt8} {x : List UInt8 × FileF} (h : x ∈ delFile L s) : x ∈ L := (List.mem_filter.1 h).1
theorem split_look {L : Files} {s : List UInt8} {F : FileF} (nd : Nd L) (h : lookF L s = some F) : ∃ A B, L = A ++ (s, F) :: B := List.append_of_mem ((look_mem nd).1 h)
theorem put_perm {L : Files} (nd : Nd L) (t : List UInt8) (F : FileF) : (putFile L t F).Perm (delFile L t ++ [(t, F)]) := by
  unfold putFile
  cases h : lookF L t with
  | none =>
    have : delFile L t = L := del_off fun x hx e => by
      have := (look_mem nd (s := x.1) (F := x.2)).2 hx
      rw [e, h] at this; cases this
    rw [this]
    simp
  | some G =>
    obtain ⟨A, B, e⟩ := split_look nd h
    rw [turn_split nd e rfl, del_split nd e rfl, e]
    simp only [Option.isSome_some, if_true, List.set_append_right _ _ (Nat.le_refl _), Nat.sub_self, List.set_cons_zero]
    rw [List.append_assoc]
    refine List.Perm.append_left A ?_
    exact (List.perm_append_comm (l₁ := [(t, F)]) (l₂ := B))
theorem del_back {L : Files} (nd : Nd L) {s : List UInt8} {F : FileF} (h : lookF L s = some F) : (delFile L s ++ [(s, F)]).Perm L := by
  obtain ⟨A, B, e⟩ := split_look nd h
  rw [del_split nd e rfl, e, List.append_assoc]
  refine List.Perm.append_left A ?_
  exact (List.perm_append_comm (l₁ := B) (l₂ := [(s, F)]))
/-- Two disks alike. -/
structure Twin (D W : DiskF) : Prop where
  room : D.room = W.room
  on : D.on = W.on
  lives : D.lives = W.lives
  p : D.files.Perm W.files
/-- What is known of the second, behind i calls. -/
structure DInv (i : Nat) (W : DiskF) : Prop where
  nd : Nd W.files
  r1 : 64 ≤ W.room
  r2 : W.room ≤ 1048576
  sz : (sizeF W.files : Int) ≤ W.room
  ln : W.files.length ≤ i
  wr : ∀ x ∈ W.files, x.2.writes.length ≤ i ∧ x.1.length ≤ 20
  l1 : 1 ≤ W.lives
  l2 : W.lives ≤ i + 1
theorem DInv.ok {i : Nat} {W : DiskF} (I : DInv i W) (hi : i ≤ 100000) : W.ok := by
  have := I.sz
  have := I.r1
  have := I.r2
  refine ⟨fun x hx => ⟨⟨by have := (I.wr x hx).1; omega, ?_⟩, (I.wr x hx).2⟩, by omega, by omega, by omega⟩
  have : x.2.size ≤ sizeF W.files := size_le hx
  unfold FileF.size at this
  omega
theorem Twin.ok {i : Nat} {D W : DiskF} (T : Twin D W) (I : DInv i W) (hi : i ≤ 100000) : D.ok := by
  obtain ⟨h1, h2, h3, h4⟩ := I.ok hi
  exact ⟨fun x hx => h1 x (T.p.mem_iff.1 hx), by rw [size_perm T.p]; exact h2, by rw [T.room]; exact h3, by rw [T.room]; exact h4⟩
theorem DInv.up {i k : Nat} {W : DiskF} (I : DInv i W) (h : i ≤ k) : DInv k W := ⟨I.nd, I.r1, I.r2, I.sz, by have := I.ln; omega, fun x hx => ⟨by have := (I.wr x hx).1; omega, (I.wr x hx).2⟩, I.l1, by have := I.l2; omega⟩
section
variable {i : Nat} {D W : DiskF}
theorem Twin.ask (T : Twin D W) (l : List (List UInt8)) : askF D l = askF W l := by unfold askF; rw [T.on]
theorem good_len {W : DiskF} {s : List UInt8} (h : askF W [s] = 0) : s.length ≤ 20 := by
  unfold askF at h
  split at h
  · split at h
    · rename_i g
      simp only [List.all_cons, List.all_nil, Bool.and_true] at g
      unfold goodName at g
      simp at g
      omega
    · cases h
  · cases h
theorem Twin.append (T : Twin D W) (I : DInv i W) (s b : List UInt8) : (appendF D s b).2 = (appendF W s b).2 ∧ Twin (appendF D s b).1 (appendF W s b).1 ∧ DInv (i + 1) (appendF W s b).1 := by
  have I1 := I.up (Nat.le_succ i)
  unfold appendF
  rw [T.ask, T.room, size_perm T.p, look_perm T.p I.nd]
  split
  · rename_i h0
    have hg := good_len h0
    split
    · exact ⟨rfl, T, I1⟩
    · rename_i hr
      cases h : lookF W.files s with
      | none =>
        refine ⟨rfl, ⟨rfl, T.on, T.lives, T.p.append_right _⟩, nd_snoc I.nd h _, I.r1, I.r2, ?_, by have := I.ln; simp; omega, ?_, I1.l1, I1.l2⟩
        · rw [sizeF_app]
          have : sizeF [(s, (⟨[], [b]⟩ : FileF))] = b.length := by simp [sizeF, FileF.size, FileF.all]
          simp only; omega
        · intro x hx
          rcases List.mem_append.1 hx with hx | hx
          · exact I1.wr x hx
          · rw [List.mem_singleton] at hx; subst hx; exact ⟨by simp, hg⟩
      | some F =>
        obtain ⟨A, B, e⟩ := split_look I.nd h
        have ew : turnF' W.files s (writeF F b) = A ++ (s, writeF F b) :: B := by
          rw [turn_split I.nd e rfl, e]; simp
        refine ⟨rfl, ⟨rfl, T.on, T.lives, T.p.map _⟩, nd_turn I.nd _ _, I.r1, I.r2, ?_, by have := I.ln; simp [turnF']; omega, ?_, I1.l1, I1.l2⟩
        · have e1 : sizeF W.files = sizeF A + (F.size + sizeF B) := by rw [e, sizeF_app]; simp [sizeF]
          have e2 : sizeF (turnF' W.files s (writeF F b)) = sizeF A + ((writeF F b).size + sizeF B) := by rw [ew, sizeF_app]; simp [sizeF]
          have e3 : (writeF F b).size = F.size + b.length := by simp [writeF, FileF.size, FileF.all, Nat.add_assoc]
          simp only [e2]; omega
        · intro x hx
          simp only [ew] at hx
          have hF := I.wr (s, F) (by rw [e]; simp)
          rcases List.mem_append.1 hx with hx | hx
          · exact I1.wr x (by rw [e]; simp [hx])
          · rcases List.mem_cons.1 hx with rfl | hx
            · exact ⟨by simp only [writeF, List.length_append, List.length_singleton]; simp only at hF; omega, hF.2⟩
            · exact I1.wr x (by rw [e]; simp [hx])
  · exact ⟨rfl, T, I1⟩
theorem Twin.sync (T : Twin D W) (I : DInv i W) (s : List UInt8) : (syncF D s).2 = (syncF W s).2 ∧ Twin (syncF D s).1 (syncF W s).1 ∧ DInv (i + 1) (syncF W s).1 := by
  have I1 := I.up (Nat.le_succ i)
  unfold syncF
  rw [T.ask, look_perm T.p I.nd]
  split
  · cases h : lookF W.files s with
    | none => exact ⟨rfl, T, I1⟩
    | some F =>
      obtain ⟨A, B, e⟩ := split_look I.nd h
      have ew : turnF' W.files s F.sync = A ++ (s, F.sync) :: B := by rw [turn_split I.nd e rfl, e]; simp
      refine ⟨rfl, ⟨T.room, T.on, T.lives, T.p.map _⟩, nd_turn I.nd _ _, I.r1, I.r2, ?_, by have := I.ln; simp [turnF']; omega, ?_, I1.l1, I1.l2⟩
      · have e1 : sizeF W.files = sizeF A + (F.size + sizeF B) := by rw [e, sizeF_app]; simp [sizeF]
        have e2 : sizeF (turnF' W.files s F.sync) = sizeF A + (F.sync.size + sizeF B) := by rw [ew, sizeF_app]; simp [sizeF]
        have e3 : F.sync.size = F.size := by simp [FileF.sync, FileF.size, FileF.all]
        have := I.sz
        simp only [e2]; omega
      · intro x hx
        simp only [ew] at hx
        have hF := I.wr (s, F) (by rw [e]; simp)
        rcases List.mem_append.1 hx with hx | hx
        · exact I1.wr x (by rw [e]; simp [hx])
        · rcases List.mem_cons.1 hx with rfl | hx
          · exact ⟨by simp [FileF.sync], hF.2⟩
          · exact I1.wr x (by rw [e]; simp [hx])
  · exact ⟨rfl, T, I1⟩
theorem del_size (L : Files) (s : List UInt8) : sizeF (delFile L s) ≤ sizeF L := by
  unfold delFile
  induction L with
  | nil => simp
  | cons x L ih =>
    rw [List.filter_cons]
    have e : sizeF (x :: L) = x.2.size + sizeF L := by simp [sizeF]
    split
    · have e2 : sizeF (x :: L.filter fun x => decide (x.1 ≠ s)) = x.2.size + sizeF (L.filter fun x => decide (x.1 ≠ s)) := by simp [sizeF]
      rw [e2, e]; omega
    · rw [e]; omega
theorem del_len (L : Files) (s : List UInt8) : (delFile L s).length ≤ L.length := List.length_filter_le _ _
theorem Twin.drop (T : Twin D W) (I : DInv i W) (s : List UInt8) : (dropF D s).2 = (dropF W s).2 ∧ Twin (dropF D s).1 (dropF W s).1 ∧ DInv (i + 1) (dropF W s).1 := by
  have I1 := I.up (Nat.le_succ i)
  unfold dropF
  rw [T.ask, look_perm T.p I.nd]
  split
  · cases h : lookF W.files s with
    | none => exact ⟨rfl, T, I1⟩
    | some F =>
      refine ⟨rfl, ⟨T.room, T.on, T.lives, T.p.filter _⟩, nd_del I.nd _, I.r1, I.r2, ?_, ?_, fun x hx => I1.wr x (del_mem hx), I1.l1, I1.l2⟩
      · have := del_size W.files s
        have := I.sz
        simp only; omega
      · have := del_len W.files s
        have := I.ln
        simp only; omega
  · exact ⟨rfl, T, I1⟩
theorem Twin.rename (T : Twin D W) (I : DInv i W) (s t : List UInt8) : (renameF D s t).2 = (renameW W s t).2 ∧ Twin (renameF D s t).1 (renameW W s t).1 ∧ DInv (i + 1) (renameW W s t).1 := by
  have I1 := I.up (Nat.le_succ i)
  unfold renameF renameW
  rw [T.ask, look_perm T.p I.nd]
  split
  · rename_i h0
    have ht : t.length ≤ 20 := by
      unfold askF at h0
      split at h0
      · split at h0
        · rename_i g
          simp only [List.all_cons, List.all_nil, Bool.and_true, Bool.and_eq_true] at g
          have := g.2
          unfold goodName at this
          simp at this
          omega
        · cases h0
      · cases h0
    cases h : lookF W.files s with
    | none => exact ⟨rfl, T, I1⟩
    | some F =>
      have nD : Nd D.files := I.nd.perm T.p
      have p1 : (delFile D.files s).Perm (delFile W.files s) := T.p.filter _
      have p2 : (delFile (delFile D.files s) t).Perm (delFile (delFile W.files s) t) := p1.filter _
      have p3 := (put_perm (nd_del nD s) t F).trans (p2.append_right [(t, F)])
      by_cases st : s = t
      · subst st
        simp only [if_true]
        refine ⟨trivial, ⟨T.room, T.on, T.lives, ?_⟩, I1⟩
        refine p3.trans ?_
        have : delFile (delFile W.files s) s = delFile W.files s := by
          unfold delFile; rw [List.filter_filter]; simp
        rw [this]
        exact del_back I.nd h
      · simp only [if_neg st]
        have nd2 := nd_del (nd_del I.nd s) t
        have z1 : sizeF (delFile W.files s) + F.size = sizeF W.files := by
          rw [← size_perm (del_back I.nd h), sizeF_app]; simp [sizeF]
        have z2 := del_size (delFile W.files s) t
        have hF := I.wr (s, F) ((look_mem I.nd).1 h)
        have hl : (delFile W.files s).length + 1 = W.files.length := by
          rw [← (del_back I.nd h).length_eq]; simp
        refine ⟨trivial, ⟨T.room, T.on, T.lives, p3⟩, nd_snoc nd2 (look_del _ _) _, I.r1, I.r2, ?_, ?_, ?_, I1.l1, I1.l2⟩
        · rw [sizeF_app]
          have : sizeF [(t, F)] = F.size := by simp [sizeF]
          have := I.sz
          simp only; omega
        · have := del_len (delFile W.files s) t
          have := I.ln
          simp only [List.length_append, List.length_singleton]; omega
        · intro x hx
          rcases List.mem_append.1 hx with hx | hx
          · exact I1.wr x (del_mem (del_mem hx))
          · rw [List.mem_singleton] at hx; subst hx
            exact ⟨by have := hF.1; simp only at this ⊢; omega, ht⟩
  · exact ⟨rfl, T, I1⟩
theorem Twin.crash (T : Twin D W) (I : DInv i W) (keep : U64) (torn : Int) : Twin (crashF D keep torn) (crashF W keep torn) ∧ DInv (i + 1) (crashF W keep torn) := by
  have I1 := I.up (Nat.le_succ i)
  refine ⟨⟨T.room, rfl, T.lives, T.p.map _⟩, ?_, I.r1, I.r2, ?_, ?_, ?_, I1.l1, I1.l2⟩
  · have : (W.files.map fun x => (x.1, x.2.crash keep torn)).map (·.1) = W.files.map (·.1) := by rw [List.map_map]; rfl
    show ((W.files.map fun x => (x.1, x.2.crash keep torn)).map (·.1)).Nodup
    rw [this]; exact I.nd
  · have := crash_sizes W.files keep torn
    have := I.sz
    show ((sizeF (W.files.map fun x => (x.1, x.2.crash keep torn)) : Nat) : Int) ≤ W.room
    omega
  · have := I1.ln
    simpa [crashF] using this
  · intro x hx
    obtain ⟨y, hy, rfl⟩ := List.mem_map.1 hx
    exact ⟨by simp [FileF.crash], (I.wr y hy).2⟩
theorem Twin.turn_on (T : Twin D W) (I : DInv i W) : Twin (onF D) (onF W) ∧ DInv (i + 1) (onF W) := by
  refine ⟨⟨T.room, rfl, by simp [onF, T.lives], T.p⟩, I.nd, I.r1, I.r2, I.sz, by have := I.ln; simp only [onF]; omega, (I.up (Nat.le_succ i)).wr, by have := I.l1; simp only [onF]; omega, by have := I.l2; simp only [onF]; omega⟩
theorem Twin.read (T : Twin D W) (I : DInv i W) (s : List UInt8) : readF D s = readF W s := by
  unfold readF
  rw [T.ask, look_perm T.p I.nd]
end
end Go.Bb
/- The law DiskPlays. -/
namespace Go.Bb
set_option linter.unusedSimpArgs false
set_option linter.unusedVariables false
set_option maxRecDepth 20000
set_option maxHeartbeats 2000000

structure ActD where
  op : Int
  n : Int
  keep : U64
  s : List UInt8
  t : List UInt8
  vB : Value
  B : List UInt8
def ActD.cells (x : ActD) : List Value := [.int .i64 x.op, .int .i64 x.n, .int .u64 x.keep.toNat, strV x.s, strV x.t, x.vB]
theorem okD_u64 {n : Int} (h1 : IntKind.u64.min ≤ n) (h2 : n ≤ IntKind.u64.max) : ∃ k : U64, n = k.toNat := by
  simp [IntKind.min, IntKind.max, IntKind.signed, IntKind.bits] at h1 h2
  refine ⟨BitVec.ofNat 64 n.toNat, ?_⟩
  rw [BitVec.toNat_ofNat]; omega
theorem six {cs : List Value} (h : cs.length = 6) : ∃ a b c d e f, cs = [a, b, c, d, e, f] := by
  match cs, h with
  | [a, b, c, d, e, f], _ => exact ⟨a, b, c, d, e, f, rfl⟩
theorem ok_actsD {W : World} {v : Value} (h : Shp.ok W (.slice 6 (.struct 6 (.fld 0 1 (.int .i64) (.fld 1 1 (.int .i64) (.fld 2 1 (.int .u64) (.fld 3 1 .str (.fld 4 1 .str (.fld 5 1 (.slice 1 (.int .u8)) .fend)))))))) v) :
    ∃ X : List ActD, Sl (roHeap W) 6 v X.length (X.flatMap ActD.cells) ∧ X.length ≤ 9223372036854775807 ∧ ∀ x ∈ X, SlB (roHeap W) x.vB x.B := by
  refine Shp.ok_rows ActD.cells (fun x => SlB (roHeap W) x.vB x.B) (fun _ => rfl) (fun l hl => ?_) h
  obtain ⟨hlen, f0, f1, f2, f3, f4, f5, -⟩ := hl
  obtain ⟨a, b, c, d, e, f, rfl⟩ := six hlen
  obtain ⟨n0, e0, -⟩ := f0
  obtain ⟨n1, e1, -⟩ := f1
  obtain ⟨n2, e2, g1, g2⟩ := f2
  replace e0 : [a] = [Value.int .i64 n0] := e0
  replace e1 : [b] = [Value.int .i64 n1] := e1
  replace e2 : [c] = [Value.int .u64 n2] := e2
  simp only [List.cons.injEq, and_true] at e0 e1 e2
  subst e0 e1 e2
  obtain ⟨k, rfl⟩ := okD_u64 g1 g2
  replace f3 : ∃ s : ByteArray, [d] = [Value.string s] ∧ s.size ≤ 9223372036854775807 := f3
  replace f4 : ∃ s : ByteArray, [e] = [Value.string s] ∧ s.size ≤ 9223372036854775807 := f4
  replace f5 : Shp.okC W (.slice 1 (.int .u8)) [f] := f5
  obtain ⟨s, e3, -⟩ := f3
  obtain ⟨t, e4, -⟩ := f4
  simp only [List.cons.injEq, and_true] at e3 e4
  subst e3 e4
  have hd : Shp.ok W (.slice 1 (.int .u8)) f := by
    rcases f5 with q | ⟨x, len, cap, q, r⟩
    · simp only [List.cons.injEq, and_true] at q; subst q; exact ⟨.inl rfl, rfl⟩
    · simp only [List.cons.injEq, and_true] at q; subst q; exact ⟨.inr ⟨x, len, cap, rfl, r⟩, rfl⟩
  obtain ⟨B, sB, -⟩ := ok_bytes hd
  exact ⟨⟨n0, n1, k, s.data.toList, t.data.toList, f, B⟩, by simp [ActD.cells, strV], sB⟩

structure Both (h1 : Heap) (κ : Pal) (H : Heap) (d w : Nat) (D W : DiskF) : Prop where
  B : h1.le (H.bare κ)
  R : DiskR κ H d D
  S : WR κ H w W
  ne : d ≠ w
theorem Both.le {h1 : Heap} {κ : Pal} {H H' : Heap} {d w : Nat} {D W : DiskF} (P : Both h1 κ H d w D W) (h : H.le H') : Both h1 κ H' d w D W := by
  have e : Ext (fun _ => False) κ H κ H' := Ext.le h
  exact ⟨Heap.le_trans P.B e.bare, P.R.ext e (fun _ _ q => q), P.S.le h, P.ne⟩
theorem Both.turnD {h1 : Heap} {κ κ' : Pal} {H H' : Heap} {d w : Nat} {D D' W : DiskF} (P : Both h1 κ H d w D W) (e : Ext (diskC d) κ H κ' H') (R : DiskR κ' H' d D') : Both h1 κ' H' d w D' W :=
  ⟨Heap.le_trans P.B e.bare, R, P.S.ext e (fun c h q => P.ne (by unfold diskC at q; exact q.symm.trans h)), P.ne⟩
theorem Both.turnW {h1 : Heap} {κ κ' : Pal} {H H' : Heap} {d w : Nat} {D W W' : DiskF} (P : Both h1 κ H d w D W) (e : Ext (wC w) κ H κ' H') (S : WR κ' H' w W') : Both h1 κ' H' d w D W' :=
  ⟨Heap.le_trans P.B e.bare, P.R.ext e (fun c h q => P.ne (by unfold wC at q; exact h.symm.trans q)), S, P.ne⟩
def PD (h1 H : Heap) (d w i : Nat) : Prop := ∃ κ D W, Both h1 κ H d w D W ∧ Twin D W ∧ DInv i W
theorem PD.base {h0 h1 H : Heap} {d w i : Nat} (P : PD h1 H d w i) (le : h0.le h1) : PD h0 H d w i := by
  obtain ⟨κ, D, W, P, T, I⟩ := P
  exact ⟨κ, D, W, ⟨Heap.le_trans le P.B, P.R, P.S, P.ne⟩, T, I⟩
theorem disk_tail (E : EnvT tab) {h1 H : Heap} {d w i bx : Nat} {c v1 : Value} {x : ActD} {Q : AExit → T → Heap → Prop} (P : PD h1 H d w i) (hi : i ≤ 100) (qx : h1 bx = some (.own 0 x.cells 6)) (hs : x.s.length ≤ 30)
    (hQ : ∀ H', PD h1 H' d w i → Q .normal (tl [(1, v1), (5, ptrV d), (7, ptrV w), (8, c), (204, .bool false)]) H') :
    wpA E.toEnv 205 ir_bandboxlaw13_DiskPlays_153 Q (tl [(1, v1), (5, ptrV d), (7, ptrV w), (8, c), (9, ptrV bx), (10, .bool true)]) H := by
  obtain ⟨κ, D, W, P, T, I⟩ := P
  have okD := T.ok I (by omega)
  have okW := I.ok (by omega)
  have hln := I.ln
  have hle : h1.le H := Heap.le_trans P.B (Heap.bare_le _ _)
  have x3 : ∀ G, H.le G → hcell G ⟨bx, 3, none⟩ = some (.string ⟨x.s.toArray⟩) := fun G l => by rw [hcell_at (l _ _ (hle _ _ qx)) (by simp [ActD.cells])]; rfl
  have x30 := x3 H (Heap.le_refl _)
  unfold ir_bandboxlaw13_DiskPlays_153
  simp -implicitDefEqProofs only [zB1,zB2,zB3,zB4,zB5,zB6,zB7,zB8,zB9,zB10,zB11,y00,y01,y02,y03,y04,y05,y06,y07,y08,y09,y0a,y0b,y0c,y0d,y0e,y0f,y0g,y0h,y0i,y0j,y0k,y0l,y0m,y0n,y0o,y0p,y0q,y0r,y0s,y0t,y0u,y0v,y0w,y0x,y0y,y0z,y10,y11,y12,y13,y14,y15,y16,y17,y18,y19,y1a,y1b,y1c,y1d,y1e,y1f,y1g,y1h,y1i,y1j,y1k,y1l,y1m,y1n,y1o,y1p,y1q,y1r,retO,retL,retV,z6i,allV,allP,z6j,z6m,z6n,z6t,z6u,z6v,binV,eqV,unV,oOpt,reduceIte,reduceCtorEq,Nat.reduceEqDiff,Nat.reduceAdd,Nat.reduceMul,Nat.reduceLT,Nat.reduceSub,Int.reduceLT,Int.reduceLE,Int.reduceEq,Int.reduceNe,Int.reduceSub,Int.reduceAdd,Int.reduceMul,Int.reduceBEq,Int.reduceBNe,Int.reduceGT,Int.reduceGE,Nat.reduceGT,Int.reduceToNat,Int.reduceNeg,Nat.reduceLeDiff,Nat.reduceBEq,Nat.reduceBneDiff,Value.cells, x30]
  refine (disk_Read_c E P.R okD x.s (by omega)).mono ?_
  rintro v H1 ⟨le1, b1, c1, rfl, o1⟩
  have x31 := x3 H1 le1
  simp -implicitDefEqProofs only [zB1,zB2,zB3,zB4,zB5,zB6,zB7,zB8,zB9,zB10,zB11,y00,y01,y02,y03,y04,y05,y06,y07,y08,y09,y0a,y0b,y0c,y0d,y0e,y0f,y0g,y0h,y0i,y0j,y0k,y0l,y0m,y0n,y0o,y0p,y0q,y0r,y0s,y0t,y0u,y0v,y0w,y0x,y0y,y0z,y10,y11,y12,y13,y14,y15,y16,y17,y18,y19,y1a,y1b,y1c,y1d,y1e,y1f,y1g,y1h,y1i,y1j,y1k,y1l,y1m,y1n,y1o,y1p,y1q,y1r,retO,retL,retV,z6i,allV,allP,z6j,z6m,z6n,z6t,z6u,z6v,binV,eqV,unV,oOpt,reduceIte,reduceCtorEq,Nat.reduceEqDiff,Nat.reduceAdd,Nat.reduceMul,Nat.reduceLT,Nat.reduceSub,Int.reduceLT,Int.reduceLE,Int.reduceEq,Int.reduceNe,Int.reduceSub,Int.reduceAdd,Int.reduceMul,Int.reduceBEq,Int.reduceBNe,Int.reduceGT,Int.reduceGE,Nat.reduceGT,Int.reduceToNat,Int.reduceNeg,Nat.reduceLeDiff,Nat.reduceBEq,Nat.reduceBneDiff,Value.cells, x31]
  refine (ref_Read_c E (P.S.le le1) okW (by omega) x.s (by omega)).mono ?_
  rintro v H2 ⟨le2, b2, c2, rfl, o2⟩
  rw [← T.read I] at o2 ⊢
  have P2 := P.le (Heap.le_trans le1 le2)
  have f1 := strOfV_sl (o1.sl.le le2)
  have f2 := strOfV_sl o2.sl
  simp only [strV] at f1 f2
  unfold ir_bandboxlaw13_DiskPlays_166
  simp -implicitDefEqProofs only [zB1,zB2,zB3,zB4,zB5,zB6,zB7,zB8,zB9,zB10,zB11,y00,y01,y02,y03,y04,y05,y06,y07,y08,y09,y0a,y0b,y0c,y0d,y0e,y0f,y0g,y0h,y0i,y0j,y0k,y0l,y0m,y0n,y0o,y0p,y0q,y0r,y0s,y0t,y0u,y0v,y0w,y0x,y0y,y0z,y10,y11,y12,y13,y14,y15,y16,y17,y18,y19,y1a,y1b,y1c,y1d,y1e,y1f,y1g,y1h,y1i,y1j,y1k,y1l,y1m,y1n,y1o,y1p,y1q,y1r,retO,retL,retV,z6i,allV,allP,z6j,z6m,z6n,z6t,z6u,z6v,binV,eqV,unV,oOpt,reduceIte,reduceCtorEq,Nat.reduceEqDiff,Nat.reduceAdd,Nat.reduceMul,Nat.reduceLT,Nat.reduceSub,Int.reduceLT,Int.reduceLE,Int.reduceEq,Int.reduceNe,Int.reduceSub,Int.reduceAdd,Int.reduceMul,Int.reduceBEq,Int.reduceBNe,Int.reduceGT,Int.reduceGE,Nat.reduceGT,Int.reduceToNat,Int.reduceNeg,Nat.reduceLeDiff,Nat.reduceBEq,Nat.reduceBneDiff,Value.cells, f1, f2, str_toList, bne_self_eq_false, beq_self_eq_true, implies_true, List.mem_cons, List.not_mem_nil, List.mem_singleton, or_false, forall_eq, forall_eq_or_imp, and_self]
  refine (disk_Size_c E P2.R okD).mono ?_
  rintro v H3 ⟨le3, rfl⟩
  have P3 := P2.le le3
  simp -implicitDefEqProofs only [zB1,zB2,zB3,zB4,zB5,zB6,zB7,zB8,zB9,zB10,zB11,y00,y01,y02,y03,y04,y05,y06,y07,y08,y09,y0a,y0b,y0c,y0d,y0e,y0f,y0g,y0h,y0i,y0j,y0k,y0l,y0m,y0n,y0o,y0p,y0q,y0r,y0s,y0t,y0u,y0v,y0w,y0x,y0y,y0z,y10,y11,y12,y13,y14,y15,y16,y17,y18,y19,y1a,y1b,y1c,y1d,y1e,y1f,y1g,y1h,y1i,y1j,y1k,y1l,y1m,y1n,y1o,y1p,y1q,y1r,retO,retL,retV,z6i,allV,allP,z6j,z6m,z6n,z6t,z6u,z6v,binV,eqV,unV,oOpt,reduceIte,reduceCtorEq,Nat.reduceEqDiff,Nat.reduceAdd,Nat.reduceMul,Nat.reduceLT,Nat.reduceSub,Int.reduceLT,Int.reduceLE,Int.reduceEq,Int.reduceNe,Int.reduceSub,Int.reduceAdd,Int.reduceMul,Int.reduceBEq,Int.reduceBNe,Int.reduceGT,Int.reduceGE,Nat.reduceGT,Int.reduceToNat,Int.reduceNeg,Nat.reduceLeDiff,Nat.reduceBEq,Nat.reduceBneDiff,Value.cells, implies_true]
  refine (ref_Size_c E P3.S okW (by omega)).mono ?_
  rintro v H4 ⟨le4, rfl⟩
  have P4 := P3.le le4
  have ez : (if D.on = true then sizeF D.files else 0) = (if W.on = true then sizeF W.files else 0) := by rw [T.on, size_perm T.p]
  rw [ez]
  simp -implicitDefEqProofs only [zB1,zB2,zB3,zB4,zB5,zB6,zB7,zB8,zB9,zB10,zB11,y00,y01,y02,y03,y04,y05,y06,y07,y08,y09,y0a,y0b,y0c,y0d,y0e,y0f,y0g,y0h,y0i,y0j,y0k,y0l,y0m,y0n,y0o,y0p,y0q,y0r,y0s,y0t,y0u,y0v,y0w,y0x,y0y,y0z,y10,y11,y12,y13,y14,y15,y16,y17,y18,y19,y1a,y1b,y1c,y1d,y1e,y1f,y1g,y1h,y1i,y1j,y1k,y1l,y1m,y1n,y1o,y1p,y1q,y1r,retO,retL,retV,z6i,allV,allP,z6j,z6m,z6n,z6t,z6u,z6v,binV,eqV,unV,oOpt,reduceIte,reduceCtorEq,Nat.reduceEqDiff,Nat.reduceAdd,Nat.reduceMul,Nat.reduceLT,Nat.reduceSub,Int.reduceLT,Int.reduceLE,Int.reduceEq,Int.reduceNe,Int.reduceSub,Int.reduceAdd,Int.reduceMul,Int.reduceBEq,Int.reduceBNe,Int.reduceGT,Int.reduceGE,Nat.reduceGT,Int.reduceToNat,Int.reduceNeg,Nat.reduceLeDiff,Nat.reduceBEq,Nat.reduceBneDiff,Value.cells, bne_self_eq_false, implies_true]
  refine (disk_Power_c E P4.R).mono ?_
  rintro v H5 ⟨rfl, rfl⟩
  obtain ⟨lv, cs, S5⟩ := P4.S
  have w2 : ∀ G, H5.le G → hcell G ⟨w, 2, none⟩ = some (.bool (!W.on)) := fun G l => by rw [hcell_at (l _ _ S5.q) (by simp)]; rfl
  have w3 : ∀ G, H5.le G → hcell G ⟨w, 3, none⟩ = some (.int .i64 W.lives) := fun G l => by rw [hcell_at (l _ _ S5.q) (by simp)]; rfl
  have w20 := w2 H5 (Heap.le_refl _)
  have w30 := w3 H5 (Heap.le_refl _)
  have eo : (D.on == !W.on) = false := by rw [T.on]; cases W.on <;> rfl
  simp -implicitDefEqProofs only [zB1,zB2,zB3,zB4,zB5,zB6,zB7,zB8,zB9,zB10,zB11,y00,y01,y02,y03,y04,y05,y06,y07,y08,y09,y0a,y0b,y0c,y0d,y0e,y0f,y0g,y0h,y0i,y0j,y0k,y0l,y0m,y0n,y0o,y0p,y0q,y0r,y0s,y0t,y0u,y0v,y0w,y0x,y0y,y0z,y10,y11,y12,y13,y14,y15,y16,y17,y18,y19,y1a,y1b,y1c,y1d,y1e,y1f,y1g,y1h,y1i,y1j,y1k,y1l,y1m,y1n,y1o,y1p,y1q,y1r,retO,retL,retV,z6i,allV,allP,z6j,z6m,z6n,z6t,z6u,z6v,binV,eqV,unV,oOpt,reduceIte,reduceCtorEq,Nat.reduceEqDiff,Nat.reduceAdd,Nat.reduceMul,Nat.reduceLT,Nat.reduceSub,Int.reduceLT,Int.reduceLE,Int.reduceEq,Int.reduceNe,Int.reduceSub,Int.reduceAdd,Int.reduceMul,Int.reduceBEq,Int.reduceBNe,Int.reduceGT,Int.reduceGE,Nat.reduceGT,Int.reduceToNat,Int.reduceNeg,Nat.reduceLeDiff,Nat.reduceBEq,Nat.reduceBneDiff,Value.cells, w20, eo, implies_true, List.mem_cons, List.not_mem_nil, List.mem_singleton, or_false, forall_eq, forall_eq_or_imp, and_self]
  refine (disk_Lives_c E P4.R).mono ?_
  rintro v H6 ⟨rfl, rfl⟩
  have el : (D.lives != W.lives) = false := by rw [T.lives]; simp
  simp -implicitDefEqProofs only [zB1,zB2,zB3,zB4,zB5,zB6,zB7,zB8,zB9,zB10,zB11,y00,y01,y02,y03,y04,y05,y06,y07,y08,y09,y0a,y0b,y0c,y0d,y0e,y0f,y0g,y0h,y0i,y0j,y0k,y0l,y0m,y0n,y0o,y0p,y0q,y0r,y0s,y0t,y0u,y0v,y0w,y0x,y0y,y0z,y10,y11,y12,y13,y14,y15,y16,y17,y18,y19,y1a,y1b,y1c,y1d,y1e,y1f,y1g,y1h,y1i,y1j,y1k,y1l,y1m,y1n,y1o,y1p,y1q,y1r,retO,retL,retV,z6i,allV,allP,z6j,z6m,z6n,z6t,z6u,z6v,binV,eqV,unV,oOpt,reduceIte,reduceCtorEq,Nat.reduceEqDiff,Nat.reduceAdd,Nat.reduceMul,Nat.reduceLT,Nat.reduceSub,Int.reduceLT,Int.reduceLE,Int.reduceEq,Int.reduceNe,Int.reduceSub,Int.reduceAdd,Int.reduceMul,Int.reduceBEq,Int.reduceBNe,Int.reduceGT,Int.reduceGE,Nat.reduceGT,Int.reduceToNat,Int.reduceNeg,Nat.reduceLeDiff,Nat.reduceBEq,Nat.reduceBneDiff,Value.cells, w30, el, implies_true, List.mem_cons, List.not_mem_nil, List.mem_singleton, or_false, forall_eq, forall_eq_or_imp, and_self]
  exact hQ _ ⟨κ, D, W, P4, T, I⟩
theorem bandboxlaw13_DiskPlays_c (E : EnvT tab) (W : World) {v0 v1 : Value} (s0 : Shp.ok W (.int .i64) v0) (s1 : Shp.ok W (.slice 6 (.struct 6 (.fld 0 1 (.int .i64) (.fld 1 1 (.int .i64) (.fld 2 1 (.int .u64) (.fld 3 1 .str (.fld 4 1 .str (.fld 5 1 (.slice 1 (.int .u8)) .fend)))))))) v1) :
    ACallN E.toEnv n_bandboxlaw13_DiskPlays [v0, v1] (roHeap W) fun v _ => v = .bool true := by
  obtain ⟨room, rfl, -, -⟩ := Shp.ok_int s0
  obtain ⟨X, sX, -, hX⟩ := ok_actsD s1
  obtain ⟨Xb, Xc, rfl⟩ := Sl.shape sX
  generalize roHeap W = h at sX hX
  refine acall h_bandboxlaw13_DiskPlays ir_bandboxlaw13_DiskPlays rfl rfl (wpA_sound ?_)
  unfold ir_bandboxlaw13_DiskPlays
  simp -implicitDefEqProofs only [zB1,zB2,zB3,zB4,zB5,zB6,zB7,zB8,zB9,zB10,zB11,y00,y01,y02,y03,y04,y05,y06,y07,y08,y09,y0a,y0b,y0c,y0d,y0e,y0f,y0g,y0h,y0i,y0j,y0k,y0l,y0m,y0n,y0o,y0p,y0q,y0r,y0s,y0t,y0u,y0v,y0w,y0x,y0y,y0z,y10,y11,y12,y13,y14,y15,y16,y17,y18,y19,y1a,y1b,y1c,y1d,y1e,y1f,y1g,y1h,y1i,y1j,y1k,y1l,y1m,y1n,y1o,y1p,y1q,y1r,retO,retL,retV,z6i,allV,allP,z6j,z6m,z6n,z6t,z6u,z6v,binV,eqV,unV,oOpt,reduceIte,reduceCtorEq,Nat.reduceEqDiff,Nat.reduceAdd,Nat.reduceMul,Nat.reduceLT,Nat.reduceSub,Int.reduceLT,Int.reduceLE,Int.reduceEq,Int.reduceNe,Int.reduceSub,Int.reduceAdd,Int.reduceMul,Int.reduceBEq,Int.reduceBNe,Int.reduceGT,Int.reduceGE,Nat.reduceGT,Int.reduceToNat,Int.reduceNeg,Nat.reduceLeDiff,Nat.reduceBEq,Nat.reduceBneDiff,Value.cells]
  unfold ir_bandboxlaw13_DiskPlays_15
  simp -implicitDefEqProofs only [zB1,zB2,zB3,zB4,zB5,zB6,zB7,zB8,zB9,zB10,zB11,y00,y01,y02,y03,y04,y05,y06,y07,y08,y09,y0a,y0b,y0c,y0d,y0e,y0f,y0g,y0h,y0i,y0j,y0k,y0l,y0m,y0n,y0o,y0p,y0q,y0r,y0s,y0t,y0u,y0v,y0w,y0x,y0y,y0z,y10,y11,y12,y13,y14,y15,y16,y17,y18,y19,y1a,y1b,y1c,y1d,y1e,y1f,y1g,y1h,y1i,y1j,y1k,y1l,y1m,y1n,y1o,y1p,y1q,y1r,retO,retL,retV,z6i,allV,allP,z6j,z6m,z6n,z6t,z6u,z6v,binV,eqV,unV,oOpt,reduceIte,reduceCtorEq,Nat.reduceEqDiff,Nat.reduceAdd,Nat.reduceMul,Nat.reduceLT,Nat.reduceSub,Int.reduceLT,Int.reduceLE,Int.reduceEq,Int.reduceNe,Int.reduceSub,Int.reduceAdd,Int.reduceMul,Int.reduceBEq,Int.reduceBNe,Int.reduceGT,Int.reduceGE,Nat.reduceGT,Int.reduceToNat,Int.reduceNeg,Nat.reduceLeDiff,Nat.reduceBEq,Nat.reduceBneDiff,Value.cells]
  refine (law13_awake_c E h).mono ?_
  rintro v h1 ⟨rfl, le1⟩
  replace sX := sX.le le1
  have hX1 : ∀ x ∈ X, SlB h1 x.vB x.B := fun x hx => (hX x hx).le le1
  clear le1 hX
  simp -implicitDefEqProofs only [zB1,zB2,zB3,zB4,zB5,zB6,zB7,zB8,zB9,zB10,zB11,y00,y01,y02,y03,y04,y05,y06,y07,y08,y09,y0a,y0b,y0c,y0d,y0e,y0f,y0g,y0h,y0i,y0j,y0k,y0l,y0m,y0n,y0o,y0p,y0q,y0r,y0s,y0t,y0u,y0v,y0w,y0x,y0y,y0z,y10,y11,y12,y13,y14,y15,y16,y17,y18,y19,y1a,y1b,y1c,y1d,y1e,y1f,y1g,y1h,y1i,y1j,y1k,y1l,y1m,y1n,y1o,y1p,y1q,y1r,retO,retL,retV,z6i,allV,allP,z6j,z6m,z6n,z6t,z6u,z6v,binV,eqV,unV,oOpt,reduceIte,reduceCtorEq,Nat.reduceEqDiff,Nat.reduceAdd,Nat.reduceMul,Nat.reduceLT,Nat.reduceSub,Int.reduceLT,Int.reduceLE,Int.reduceEq,Int.reduceNe,Int.reduceSub,Int.reduceAdd,Int.reduceMul,Int.reduceBEq,Int.reduceBNe,Int.reduceGT,Int.reduceGE,Nat.reduceGT,Int.reduceToNat,Int.reduceNeg,Nat.reduceLeDiff,Nat.reduceBEq,Nat.reduceBneDiff,Value.cells]
  refine (disk_New_c E (fun _ => none) h1 room).mono ?_
  rintro v h2 ⟨le2, hbad, hgood⟩
  by_cases g0 : room < 64
  · have hv := hbad (.inl g0)
    subst hv
    simp -implicitDefEqProofs only [zB1,zB2,zB3,zB4,zB5,zB6,zB7,zB8,zB9,zB10,zB11,y00,y01,y02,y03,y04,y05,y06,y07,y08,y09,y0a,y0b,y0c,y0d,y0e,y0f,y0g,y0h,y0i,y0j,y0k,y0l,y0m,y0n,y0o,y0p,y0q,y0r,y0s,y0t,y0u,y0v,y0w,y0x,y0y,y0z,y10,y11,y12,y13,y14,y15,y16,y17,y18,y19,y1a,y1b,y1c,y1d,y1e,y1f,y1g,y1h,y1i,y1j,y1k,y1l,y1m,y1n,y1o,y1p,y1q,y1r,retO,retL,retV,z6i,allV,allP,z6j,z6m,z6n,z6t,z6u,z6v,binV,eqV,unV,oOpt,reduceIte,reduceCtorEq,Nat.reduceEqDiff,Nat.reduceAdd,Nat.reduceMul,Nat.reduceLT,Nat.reduceSub,Int.reduceLT,Int.reduceLE,Int.reduceEq,Int.reduceNe,Int.reduceSub,Int.reduceAdd,Int.reduceMul,Int.reduceBEq,Int.reduceBNe,Int.reduceGT,Int.reduceGE,Nat.reduceGT,Int.reduceToNat,Int.reduceNeg,Nat.reduceLeDiff,Nat.reduceBEq,Nat.reduceBneDiff,Value.cells, g0, Option.isNone_none]
  by_cases g1 : 1048576 < room
  · have hv := hbad (.inr g1)
    subst hv
    simp -implicitDefEqProofs only [zB1,zB2,zB3,zB4,zB5,zB6,zB7,zB8,zB9,zB10,zB11,y00,y01,y02,y03,y04,y05,y06,y07,y08,y09,y0a,y0b,y0c,y0d,y0e,y0f,y0g,y0h,y0i,y0j,y0k,y0l,y0m,y0n,y0o,y0p,y0q,y0r,y0s,y0t,y0u,y0v,y0w,y0x,y0y,y0z,y10,y11,y12,y13,y14,y15,y16,y17,y18,y19,y1a,y1b,y1c,y1d,y1e,y1f,y1g,y1h,y1i,y1j,y1k,y1l,y1m,y1n,y1o,y1p,y1q,y1r,retO,retL,retV,z6i,allV,allP,z6j,z6m,z6n,z6t,z6u,z6v,binV,eqV,unV,oOpt,reduceIte,reduceCtorEq,Nat.reduceEqDiff,Nat.reduceAdd,Nat.reduceMul,Nat.reduceLT,Nat.reduceSub,Int.reduceLT,Int.reduceLE,Int.reduceEq,Int.reduceNe,Int.reduceSub,Int.reduceAdd,Int.reduceMul,Int.reduceBEq,Int.reduceBNe,Int.reduceGT,Int.reduceGE,Nat.reduceGT,Int.reduceToNat,Int.reduceNeg,Nat.reduceLeDiff,Nat.reduceBEq,Nat.reduceBneDiff,Value.cells, g0, g1, Option.isNone_none]
  obtain ⟨d, κ2, rfl, hd, e2, R2⟩ := hgood ⟨by omega, by omega⟩
  simp -implicitDefEqProofs only [zB1,zB2,zB3,zB4,zB5,zB6,zB7,zB8,zB9,zB10,zB11,y00,y01,y02,y03,y04,y05,y06,y07,y08,y09,y0a,y0b,y0c,y0d,y0e,y0f,y0g,y0h,y0i,y0j,y0k,y0l,y0m,y0n,y0o,y0p,y0q,y0r,y0s,y0t,y0u,y0v,y0w,y0x,y0y,y0z,y10,y11,y12,y13,y14,y15,y16,y17,y18,y19,y1a,y1b,y1c,y1d,y1e,y1f,y1g,y1h,y1i,y1j,y1k,y1l,y1m,y1n,y1o,y1p,y1q,y1r,retO,retL,retV,z6i,allV,allP,z6j,z6m,z6n,z6t,z6u,z6v,binV,eqV,unV,oOpt,reduceIte,reduceCtorEq,Nat.reduceEqDiff,Nat.reduceAdd,Nat.reduceMul,Nat.reduceLT,Nat.reduceSub,Int.reduceLT,Int.reduceLE,Int.reduceEq,Int.reduceNe,Int.reduceSub,Int.reduceAdd,Int.reduceMul,Int.reduceBEq,Int.reduceBNe,Int.reduceGT,Int.reduceGE,Nat.reduceGT,Int.reduceToNat,Int.reduceNeg,Nat.reduceLeDiff,Nat.reduceBEq,Nat.reduceBneDiff,Value.cells, g0, g1]
  unfold ir_bandboxlaw13_DiskPlays_34
  by_cases g2 : (80 : Int) < X.length
  · simp -implicitDefEqProofs only [zB1,zB2,zB3,zB4,zB5,zB6,zB7,zB8,zB9,zB10,zB11,y00,y01,y02,y03,y04,y05,y06,y07,y08,y09,y0a,y0b,y0c,y0d,y0e,y0f,y0g,y0h,y0i,y0j,y0k,y0l,y0m,y0n,y0o,y0p,y0q,y0r,y0s,y0t,y0u,y0v,y0w,y0x,y0y,y0z,y10,y11,y12,y13,y14,y15,y16,y17,y18,y19,y1a,y1b,y1c,y1d,y1e,y1f,y1g,y1h,y1i,y1j,y1k,y1l,y1m,y1n,y1o,y1p,y1q,y1r,retO,retL,retV,z6i,allV,allP,z6j,z6m,z6n,z6t,z6u,z6v,binV,eqV,unV,oOpt,reduceIte,reduceCtorEq,Nat.reduceEqDiff,Nat.reduceAdd,Nat.reduceMul,Nat.reduceLT,Nat.reduceSub,Int.reduceLT,Int.reduceLE,Int.reduceEq,Int.reduceNe,Int.reduceSub,Int.reduceAdd,Int.reduceMul,Int.reduceBEq,Int.reduceBNe,Int.reduceGT,Int.reduceGE,Nat.reduceGT,Int.reduceToNat,Int.reduceNeg,Nat.reduceLeDiff,Nat.reduceBEq,Nat.reduceBneDiff,Value.cells, g2]
  simp -implicitDefEqProofs only [zB1,zB2,zB3,zB4,zB5,zB6,zB7,zB8,zB9,zB10,zB11,y00,y01,y02,y03,y04,y05,y06,y07,y08,y09,y0a,y0b,y0c,y0d,y0e,y0f,y0g,y0h,y0i,y0j,y0k,y0l,y0m,y0n,y0o,y0p,y0q,y0r,y0s,y0t,y0u,y0v,y0w,y0x,y0y,y0z,y10,y11,y12,y13,y14,y15,y16,y17,y18,y19,y1a,y1b,y1c,y1d,y1e,y1f,y1g,y1h,y1i,y1j,y1k,y1l,y1m,y1n,y1o,y1p,y1q,y1r,retO,retL,retV,z6i,allV,allP,z6j,z6m,z6n,z6t,z6u,z6v,binV,eqV,unV,oOpt,reduceIte,reduceCtorEq,Nat.reduceEqDiff,Nat.reduceAdd,Nat.reduceMul,Nat.reduceLT,Nat.reduceSub,Int.reduceLT,Int.reduceLE,Int.reduceEq,Int.reduceNe,Int.reduceSub,Int.reduceAdd,Int.reduceMul,Int.reduceBEq,Int.reduceBNe,Int.reduceGT,Int.reduceGE,Nat.reduceGT,Int.reduceToNat,Int.reduceNeg,Nat.reduceLeDiff,Nat.reduceBEq,Nat.reduceBneDiff,Value.cells, g2]
  unfold ir_bandboxlaw13_DiskPlays_51
  simp -implicitDefEqProofs only [zB1,zB2,zB3,zB4,zB5,zB6,zB7,zB8,zB9,zB10,zB11,y00,y01,y02,y03,y04,y05,y06,y07,y08,y09,y0a,y0b,y0c,y0d,y0e,y0f,y0g,y0h,y0i,y0j,y0k,y0l,y0m,y0n,y0o,y0p,y0q,y0r,y0s,y0t,y0u,y0v,y0w,y0x,y0y,y0z,y10,y11,y12,y13,y14,y15,y16,y17,y18,y19,y1a,y1b,y1c,y1d,y1e,y1f,y1g,y1h,y1i,y1j,y1k,y1l,y1m,y1n,y1o,y1p,y1q,y1r,retO,retL,retV,z6i,allV,allP,z6j,z6m,z6n,z6t,z6u,z6v,binV,eqV,unV,oOpt,reduceIte,reduceCtorEq,Nat.reduceEqDiff,Nat.reduceAdd,Nat.reduceMul,Nat.reduceLT,Nat.reduceSub,Int.reduceLT,Int.reduceLE,Int.reduceEq,Int.reduceNe,Int.reduceSub,Int.reduceAdd,Int.reduceMul,Int.reduceBEq,Int.reduceBNe,Int.reduceGT,Int.reduceGE,Nat.reduceGT,Int.reduceToNat,Int.reduceNeg,Nat.reduceLeDiff,Nat.reduceBEq,Nat.reduceBneDiff,Value.cells]
  intro w hw
  try simp -implicitDefEqProofs only [zB1,zB2,zB3,zB4,zB5,zB6,zB7,zB8,zB9,zB10,zB11,y00,y01,y02,y03,y04,y05,y06,y07,y08,y09,y0a,y0b,y0c,y0d,y0e,y0f,y0g,y0h,y0i,y0j,y0k,y0l,y0m,y0n,y0o,y0p,y0q,y0r,y0s,y0t,y0u,y0v,y0w,y0x,y0y,y0z,y10,y11,y12,y13,y14,y15,y16,y17,y18,y19,y1a,y1b,y1c,y1d,y1e,y1f,y1g,y1h,y1i,y1j,y1k,y1l,y1m,y1n,y1o,y1p,y1q,y1r,retO,retL,retV,z6i,allV,allP,z6j,z6m,z6n,z6t,z6u,z6v,binV,eqV,unV,oOpt,reduceIte,reduceCtorEq,Nat.reduceEqDiff,Nat.reduceAdd,Nat.reduceMul,Nat.reduceLT,Nat.reduceSub,Int.reduceLT,Int.reduceLE,Int.reduceEq,Int.reduceNe,Int.reduceSub,Int.reduceAdd,Int.reduceMul,Int.reduceBEq,Int.reduceBNe,Int.reduceGT,Int.reduceGE,Nat.reduceGT,Int.reduceToNat,Int.reduceNeg,Nat.reduceLeDiff,Nat.reduceBEq,Nat.reduceBneDiff,Value.cells]
  have ne : d ≠ w := by
    obtain ⟨G, r, clk, V⟩ := R2
    exact ne_of_none hw V.qd
  have B2 : h1.le (h2.bare κ2) := fun b x q => Heap.bare_some.2 (e2.plain rfl q)
  have e3 : Ext (fun _ => False) κ2 h2 (fun i => if i = w then some (w, 0, 0) else κ2 i) (h2.set w (.own 0 [.int .i64 room, .slice none 0 0, .bool false, .int .i64 1] 4)) := Ext.new hw _ _
  have P0 : PD h1 (h2.set w (.own 0 [.int .i64 room, .slice none 0 0, .bool false, .int .i64 1] 4)) d w 0 :=
    ⟨_, _, { room := room }, ⟨Heap.le_trans B2 e3.bare, R2.ext e3 (fun _ _ q => q), ⟨.slice none 0 0, [], by simp, Heap.set_self _ _ _, Ow.nil _ _ _, rfl, fun i h1 h2 => by simp at h1⟩, ne⟩, ⟨rfl, rfl, rfl, List.Perm.refl _⟩,
      ⟨List.nodup_nil, by simp only; omega, by simp only; omega, by simp [sizeF]; omega, by simp, by simp, by simp, by simp⟩⟩
  generalize (h2.set w (.own 0 [.int .i64 room, .slice none 0 0, .bool false, .int .i64 1] 4)) = h3 at P0 ⊢
  clear e3 e2 R2 B2
  refine wp_loop' (fun m t H => ∃ i : Nat, t = tl [(1, .slice Xb X.length Xc), (5, ptrV d), (7, ptrV w), (8, .int .i64 i)] ∧ i ≤ X.length ∧ m = X.length - i ∧ PD h1 H d w i) X.length
    ⟨0, rfl, by omega, by omega, P0⟩ ?_
  rintro m t H ⟨i, rfl, hi, rfl, P⟩
  by_cases hlt : i < X.length
  · have hi1 : (i : Int) < X.length := by omega
    have hi2 : (0 : Int) ≤ i := by omega
    have w1 : IntKind.i64.wrap ((i : Int) + 1) = ((i + 1 : Nat) : Int) := wrapN (by omega)
    have sB := hX1 _ (List.getElem_mem hlt)
    obtain ⟨b, o, c, hv, hc, hcl⟩ := Sl.at (f := ActD.cells) (size := 6) (fun _ => rfl) sX i hlt (by omega)
    simp only [Value.slice.injEq, true_and] at hv
    obtain ⟨rfl, rfl⟩ := hv
    obtain ⟨κ, D, W, P, TW, I⟩ := P
    have hle : h1.le H := Heap.le_trans P.B (Heap.bare_le _ _)
    have c1 := hcl H hle
    generalize X[i] = x at sB c1
    have hcx : x.cells.length = 6 := rfl
    have hone : x.cells.all one = true := by
      obtain ⟨Bb', Bc, eB⟩ := Sl.shape sB
      simp [ActD.cells, eB, one, strV]
    have st : ∀ b11, storeV (H.set b11 (.own 0 [.int .i64 0, .int .i64 0, .int .u64 0, .string .empty, .string .empty, .slice none 0 0] 6)) 6 (.pointer (some ⟨b11, 0, none⟩)) (.agg x.cells.toArray) = some (H.set b11 (.own 0 x.cells 6)) := fun b11 => z6z (by omega) hcx hone rfl (by omega)
    simp -implicitDefEqProofs only [zB1,zB2,zB3,zB4,zB5,zB6,zB7,zB8,zB9,zB10,zB11,y00,y01,y02,y03,y04,y05,y06,y07,y08,y09,y0a,y0b,y0c,y0d,y0e,y0f,y0g,y0h,y0i,y0j,y0k,y0l,y0m,y0n,y0o,y0p,y0q,y0r,y0s,y0t,y0u,y0v,y0w,y0x,y0y,y0z,y10,y11,y12,y13,y14,y15,y16,y17,y18,y19,y1a,y1b,y1c,y1d,y1e,y1f,y1g,y1h,y1i,y1j,y1k,y1l,y1m,y1n,y1o,y1p,y1q,y1r,retO,retL,retV,z6i,allV,allP,z6j,z6m,z6n,z6t,z6u,z6v,binV,eqV,unV,oOpt,reduceIte,reduceCtorEq,Nat.reduceEqDiff,Nat.reduceAdd,Nat.reduceMul,Nat.reduceLT,Nat.reduceSub,Int.reduceLT,Int.reduceLE,Int.reduceEq,Int.reduceNe,Int.reduceSub,Int.reduceAdd,Int.reduceMul,Int.reduceBEq,Int.reduceBNe,Int.reduceGT,Int.reduceGE,Nat.reduceGT,Int.reduceToNat,Int.reduceNeg,Nat.reduceLeDiff,Nat.reduceBEq,Nat.reduceBneDiff,Value.cells, hi1, hi2, Int.toNat_natCast, c1]
    intro bx hbx
    try simp -implicitDefEqProofs only [zB1,zB2,zB3,zB4,zB5,zB6,zB7,zB8,zB9,zB10,zB11,y00,y01,y02,y03,y04,y05,y06,y07,y08,y09,y0a,y0b,y0c,y0d,y0e,y0f,y0g,y0h,y0i,y0j,y0k,y0l,y0m,y0n,y0o,y0p,y0q,y0r,y0s,y0t,y0u,y0v,y0w,y0x,y0y,y0z,y10,y11,y12,y13,y14,y15,y16,y17,y18,y19,y1a,y1b,y1c,y1d,y1e,y1f,y1g,y1h,y1i,y1j,y1k,y1l,y1m,y1n,y1o,y1p,y1q,y1r,retO,retL,retV,z6i,allV,allP,z6j,z6m,z6n,z6t,z6u,z6v,binV,eqV,unV,oOpt,reduceIte,reduceCtorEq,Nat.reduceEqDiff,Nat.reduceAdd,Nat.reduceMul,Nat.reduceLT,Nat.reduceSub,Int.reduceLT,Int.reduceLE,Int.reduceEq,Int.reduceNe,Int.reduceSub,Int.reduceAdd,Int.reduceMul,Int.reduceBEq,Int.reduceBNe,Int.reduceGT,Int.reduceGE,Nat.reduceGT,Int.reduceToNat,Int.reduceNeg,Nat.reduceLeDiff,Nat.reduceBEq,Nat.reduceBneDiff,Value.cells]
    have stx := st bx
    simp -implicitDefEqProofs only [zB1,zB2,zB3,zB4,zB5,zB6,zB7,zB8,zB9,zB10,zB11,y00,y01,y02,y03,y04,y05,y06,y07,y08,y09,y0a,y0b,y0c,y0d,y0e,y0f,y0g,y0h,y0i,y0j,y0k,y0l,y0m,y0n,y0o,y0p,y0q,y0r,y0s,y0t,y0u,y0v,y0w,y0x,y0y,y0z,y10,y11,y12,y13,y14,y15,y16,y17,y18,y19,y1a,y1b,y1c,y1d,y1e,y1f,y1g,y1h,y1i,y1j,y1k,y1l,y1m,y1n,y1o,y1p,y1q,y1r,retO,retL,retV,z6i,allV,allP,z6j,z6m,z6n,z6t,z6u,z6v,binV,eqV,unV,oOpt,reduceIte,reduceCtorEq,Nat.reduceEqDiff,Nat.reduceAdd,Nat.reduceMul,Nat.reduceLT,Nat.reduceSub,Int.reduceLT,Int.reduceLE,Int.reduceEq,Int.reduceNe,Int.reduceSub,Int.reduceAdd,Int.reduceMul,Int.reduceBEq,Int.reduceBNe,Int.reduceGT,Int.reduceGE,Nat.reduceGT,Int.reduceToNat,Int.reduceNeg,Nat.reduceLeDiff,Nat.reduceBEq,Nat.reduceBneDiff,Value.cells, stx]
    have e1 : Ext (fun _ => False) κ H (fun i => if i = bx then none else κ i) (H.set bx (.own 0 x.cells 6)) := Ext.new hbx _ none
    have qx : (H.set bx (.own 0 x.cells 6)).bare (fun i => if i = bx then none else κ i) bx = some (.own 0 x.cells 6) := Heap.bare_some.2 ⟨Heap.set_self _ _ _, by simp⟩
    have P1 : Both h1 _ (H.set bx (.own 0 x.cells 6)) d w D W := ⟨Heap.le_trans P.B e1.bare, P.R.ext e1 (fun _ _ q => q), P.S.ext e1 (fun _ _ q => q), P.ne⟩
    clear e1 P c1
    generalize (H.set bx (.own 0 x.cells 6)) = H1 at qx P1 ⊢
    generalize (fun i => if i = bx then none else κ i) = κ1 at qx P1
    have hB1 := P1.B
    replace P1 : Both (H1.bare κ1) κ1 H1 d w D W := ⟨Heap.le_refl _, P1.R, P1.S, P1.ne⟩
    replace sB := sB.le hB1
    generalize H1.bare κ1 = h4 at qx P1 sB hB1
    obtain ⟨Bb', Bc, eB⟩ := Sl.shape sB
    rw [eB] at sB
    have xc : ∀ G, h4.le G → hcell G ⟨bx, 0, none⟩ = some (.int .i64 x.op) ∧ hcell G ⟨bx, 1, none⟩ = some (.int .i64 x.n) ∧ hcell G ⟨bx, 2, none⟩ = some (.int .u64 x.keep.toNat) ∧ hcell G ⟨bx, 3, none⟩ = some (.string ⟨x.s.toArray⟩) ∧ hcell G ⟨bx, 4, none⟩ = some (.string ⟨x.t.toArray⟩) ∧ hcell G ⟨bx, 5, none⟩ = some (.slice Bb' x.B.length Bc) := by
      intro G l
      have q := l _ _ qx
      refine ⟨?_, ?_, ?_, ?_, ?_, ?_⟩ <;> rw [hcell_at q (by simp [ActD.cells])] <;> simp [ActD.cells, strV, eB]
    obtain ⟨x0, xn, xk, xs, xt, xb⟩ := xc H1 (Heap.le_trans P1.B (Heap.bare_le _ _))
    unfold ir_bandboxlaw13_DiskPlays_64
    have ezs := strV_size x.s
    have ezt := strV_size x.t
    by_cases g3 : (300 : Int) < x.B.length
    · simp -implicitDefEqProofs only [zB1,zB2,zB3,zB4,zB5,zB6,zB7,zB8,zB9,zB10,zB11,y00,y01,y02,y03,y04,y05,y06,y07,y08,y09,y0a,y0b,y0c,y0d,y0e,y0f,y0g,y0h,y0i,y0j,y0k,y0l,y0m,y0n,y0o,y0p,y0q,y0r,y0s,y0t,y0u,y0v,y0w,y0x,y0y,y0z,y10,y11,y12,y13,y14,y15,y16,y17,y18,y19,y1a,y1b,y1c,y1d,y1e,y1f,y1g,y1h,y1i,y1j,y1k,y1l,y1m,y1n,y1o,y1p,y1q,y1r,retO,retL,retV,z6i,allV,allP,z6j,z6m,z6n,z6t,z6u,z6v,binV,eqV,unV,oOpt,reduceIte,reduceCtorEq,Nat.reduceEqDiff,Nat.reduceAdd,Nat.reduceMul,Nat.reduceLT,Nat.reduceSub,Int.reduceLT,Int.reduceLE,Int.reduceEq,Int.reduceNe,Int.reduceSub,Int.reduceAdd,Int.reduceMul,Int.reduceBEq,Int.reduceBNe,Int.reduceGT,Int.reduceGE,Nat.reduceGT,Int.reduceToNat,Int.reduceNeg,Nat.reduceLeDiff,Nat.reduceBEq,Nat.reduceBneDiff,Value.cells, xb, g3]
    by_cases g4 : (30 : Int) < x.s.length
    · simp -implicitDefEqProofs only [zB1,zB2,zB3,zB4,zB5,zB6,zB7,zB8,zB9,zB10,zB11,y00,y01,y02,y03,y04,y05,y06,y07,y08,y09,y0a,y0b,y0c,y0d,y0e,y0f,y0g,y0h,y0i,y0j,y0k,y0l,y0m,y0n,y0o,y0p,y0q,y0r,y0s,y0t,y0u,y0v,y0w,y0x,y0y,y0z,y10,y11,y12,y13,y14,y15,y16,y17,y18,y19,y1a,y1b,y1c,y1d,y1e,y1f,y1g,y1h,y1i,y1j,y1k,y1l,y1m,y1n,y1o,y1p,y1q,y1r,retO,retL,retV,z6i,allV,allP,z6j,z6m,z6n,z6t,z6u,z6v,binV,eqV,unV,oOpt,reduceIte,reduceCtorEq,Nat.reduceEqDiff,Nat.reduceAdd,Nat.reduceMul,Nat.reduceLT,Nat.reduceSub,Int.reduceLT,Int.reduceLE,Int.reduceEq,Int.reduceNe,Int.reduceSub,Int.reduceAdd,Int.reduceMul,Int.reduceBEq,Int.reduceBNe,Int.reduceGT,Int.reduceGE,Nat.reduceGT,Int.reduceToNat,Int.reduceNeg,Nat.reduceLeDiff,Nat.reduceBEq,Nat.reduceBneDiff,Value.cells, xb, xs, ezs, g3, g4]
    by_cases g5 : (30 : Int) < x.t.length
    · simp -implicitDefEqProofs only [zB1,zB2,zB3,zB4,zB5,zB6,zB7,zB8,zB9,zB10,zB11,y00,y01,y02,y03,y04,y05,y06,y07,y08,y09,y0a,y0b,y0c,y0d,y0e,y0f,y0g,y0h,y0i,y0j,y0k,y0l,y0m,y0n,y0o,y0p,y0q,y0r,y0s,y0t,y0u,y0v,y0w,y0x,y0y,y0z,y10,y11,y12,y13,y14,y15,y16,y17,y18,y19,y1a,y1b,y1c,y1d,y1e,y1f,y1g,y1h,y1i,y1j,y1k,y1l,y1m,y1n,y1o,y1p,y1q,y1r,retO,retL,retV,z6i,allV,allP,z6j,z6m,z6n,z6t,z6u,z6v,binV,eqV,unV,oOpt,reduceIte,reduceCtorEq,Nat.reduceEqDiff,Nat.reduceAdd,Nat.reduceMul,Nat.reduceLT,Nat.reduceSub,Int.reduceLT,Int.reduceLE,Int.reduceEq,Int.reduceNe,Int.reduceSub,Int.reduceAdd,Int.reduceMul,Int.reduceBEq,Int.reduceBNe,Int.reduceGT,Int.reduceGE,Nat.reduceGT,Int.reduceToNat,Int.reduceNeg,Nat.reduceLeDiff,Nat.reduceBEq,Nat.reduceBneDiff,Value.cells, xb, xs, xt, ezs, ezt, g3, g4, g5]
    simp -implicitDefEqProofs only [zB1,zB2,zB3,zB4,zB5,zB6,zB7,zB8,zB9,zB10,zB11,y00,y01,y02,y03,y04,y05,y06,y07,y08,y09,y0a,y0b,y0c,y0d,y0e,y0f,y0g,y0h,y0i,y0j,y0k,y0l,y0m,y0n,y0o,y0p,y0q,y0r,y0s,y0t,y0u,y0v,y0w,y0x,y0y,y0z,y10,y11,y12,y13,y14,y15,y16,y17,y18,y19,y1a,y1b,y1c,y1d,y1e,y1f,y1g,y1h,y1i,y1j,y1k,y1l,y1m,y1n,y1o,y1p,y1q,y1r,retO,retL,retV,z6i,allV,allP,z6j,z6m,z6n,z6t,z6u,z6v,binV,eqV,unV,oOpt,reduceIte,reduceCtorEq,Nat.reduceEqDiff,Nat.reduceAdd,Nat.reduceMul,Nat.reduceLT,Nat.reduceSub,Int.reduceLT,Int.reduceLE,Int.reduceEq,Int.reduceNe,Int.reduceSub,Int.reduceAdd,Int.reduceMul,Int.reduceBEq,Int.reduceBNe,Int.reduceGT,Int.reduceGE,Nat.reduceGT,Int.reduceToNat,Int.reduceNeg,Nat.reduceLeDiff,Nat.reduceBEq,Nat.reduceBneDiff,Value.cells, xb, xs, xt, ezs, ezt, g3, g4, g5]
    unfold ir_bandboxlaw13_DiskPlays_80
    have okD := TW.ok I (by omega)
    have okW := I.ok (by omega)
    have hln := I.ln
    have hl1 := I.l1
    have hl2 := I.l2
    have fin : ∀ (H9 : Heap) (Q : AExit → T → Heap → Prop), PD h4 H9 d w (i + 1) → (∀ H', PD h4 H' d w (i + 1) → Q .normal (tl [(1, .slice (some ⟨b, o, none⟩) X.length Xc), (5, ptrV d), (7, ptrV w), (8, .int .i64 i), (204, .bool false)]) H') →
        wpA E.toEnv 205 ir_bandboxlaw13_DiskPlays_153 Q (tl [(1, .slice (some ⟨b, o, none⟩) X.length Xc), (5, ptrV d), (7, ptrV w), (8, .int .i64 i), (9, ptrV bx), (10, .bool true)]) H9 := fun H9 Q P9 hQ => disk_tail E P9 (by omega) qx (by omega) hQ
    simp -implicitDefEqProofs only [zB1,zB2,zB3,zB4,zB5,zB6,zB7,zB8,zB9,zB10,zB11,y00,y01,y02,y03,y04,y05,y06,y07,y08,y09,y0a,y0b,y0c,y0d,y0e,y0f,y0g,y0h,y0i,y0j,y0k,y0l,y0m,y0n,y0o,y0p,y0q,y0r,y0s,y0t,y0u,y0v,y0w,y0x,y0y,y0z,y10,y11,y12,y13,y14,y15,y16,y17,y18,y19,y1a,y1b,y1c,y1d,y1e,y1f,y1g,y1h,y1i,y1j,y1k,y1l,y1m,y1n,y1o,y1p,y1q,y1r,retO,retL,retV,z6i,allV,allP,z6j,z6m,z6n,z6t,z6u,z6v,binV,eqV,unV,oOpt,reduceIte,reduceCtorEq,Nat.reduceEqDiff,Nat.reduceAdd,Nat.reduceMul,Nat.reduceLT,Nat.reduceSub,Int.reduceLT,Int.reduceLE,Int.reduceEq,Int.reduceNe,Int.reduceSub,Int.reduceAdd,Int.reduceMul,Int.reduceBEq,Int.reduceBNe,Int.reduceGT,Int.reduceGE,Nat.reduceGT,Int.reduceToNat,Int.reduceNeg,Nat.reduceLeDiff,Nat.reduceBEq,Nat.reduceBneDiff,Value.cells, x0]
    by_cases o0 : x.op = 0
    · simp -implicitDefEqProofs only [zB1,zB2,zB3,zB4,zB5,zB6,zB7,zB8,zB9,zB10,zB11,y00,y01,y02,y03,y04,y05,y06,y07,y08,y09,y0a,y0b,y0c,y0d,y0e,y0f,y0g,y0h,y0i,y0j,y0k,y0l,y0m,y0n,y0o,y0p,y0q,y0r,y0s,y0t,y0u,y0v,y0w,y0x,y0y,y0z,y10,y11,y12,y13,y14,y15,y16,y17,y18,y19,y1a,y1b,y1c,y1d,y1e,y1f,y1g,y1h,y1i,y1j,y1k,y1l,y1m,y1n,y1o,y1p,y1q,y1r,retO,retL,retV,z6i,allV,allP,z6j,z6m,z6n,z6t,z6u,z6v,binV,eqV,unV,oOpt,reduceIte,reduceCtorEq,Nat.reduceEqDiff,Nat.reduceAdd,Nat.reduceMul,Nat.reduceLT,Nat.reduceSub,Int.reduceLT,Int.reduceLE,Int.reduceEq,Int.reduceNe,Int.reduceSub,Int.reduceAdd,Int.reduceMul,Int.reduceBEq,Int.reduceBNe,Int.reduceGT,Int.reduceGE,Nat.reduceGT,Int.reduceToNat,Int.reduceNeg,Nat.reduceLeDiff,Nat.reduceBEq,Nat.reduceBneDiff,Value.cells, o0, xs, xb]
      refine (disk_Append_c E P1.R okD x.s (by omega) x.B (by omega) (sB.le (Heap.le_trans P1.B (Heap.bare_le _ _)))).mono ?_
      rintro v H2 ⟨rfl, κ2, e2, R2⟩
      have P2 := P1.turnD e2 R2
      have sB2 := sB.le P2.B
      obtain ⟨-, yn, yk, ys, yt, yb⟩ := xc H2 (Heap.le_trans P2.B (Heap.bare_le _ _))
      simp -implicitDefEqProofs only [zB1,zB2,zB3,zB4,zB5,zB6,zB7,zB8,zB9,zB10,zB11,y00,y01,y02,y03,y04,y05,y06,y07,y08,y09,y0a,y0b,y0c,y0d,y0e,y0f,y0g,y0h,y0i,y0j,y0k,y0l,y0m,y0n,y0o,y0p,y0q,y0r,y0s,y0t,y0u,y0v,y0w,y0x,y0y,y0z,y10,y11,y12,y13,y14,y15,y16,y17,y18,y19,y1a,y1b,y1c,y1d,y1e,y1f,y1g,y1h,y1i,y1j,y1k,y1l,y1m,y1n,y1o,y1p,y1q,y1r,retO,retL,retV,z6i,allV,allP,z6j,z6m,z6n,z6t,z6u,z6v,binV,eqV,unV,oOpt,reduceIte,reduceCtorEq,Nat.reduceEqDiff,Nat.reduceAdd,Nat.reduceMul,Nat.reduceLT,Nat.reduceSub,Int.reduceLT,Int.reduceLE,Int.reduceEq,Int.reduceNe,Int.reduceSub,Int.reduceAdd,Int.reduceMul,Int.reduceBEq,Int.reduceBNe,Int.reduceGT,Int.reduceGE,Nat.reduceGT,Int.reduceToNat,Int.reduceNeg,Nat.reduceLeDiff,Nat.reduceBEq,Nat.reduceBneDiff,Value.cells, xs, xb, ys, yb, implies_true, List.mem_cons, List.not_mem_nil, List.mem_singleton, or_false, forall_eq, forall_eq_or_imp, and_self]
      refine (ref_Append_c E P2.S okW (by omega) I.nd x.s (by omega) sB2 (by omega)).mono ?_
      rintro v H3 ⟨rfl, κ3, e3, S3⟩
      obtain ⟨t1, t2, t3⟩ := TW.append I x.s x.B
      rw [t1]
      simp -implicitDefEqProofs only [zB1,zB2,zB3,zB4,zB5,zB6,zB7,zB8,zB9,zB10,zB11,y00,y01,y02,y03,y04,y05,y06,y07,y08,y09,y0a,y0b,y0c,y0d,y0e,y0f,y0g,y0h,y0i,y0j,y0k,y0l,y0m,y0n,y0o,y0p,y0q,y0r,y0s,y0t,y0u,y0v,y0w,y0x,y0y,y0z,y10,y11,y12,y13,y14,y15,y16,y17,y18,y19,y1a,y1b,y1c,y1d,y1e,y1f,y1g,y1h,y1i,y1j,y1k,y1l,y1m,y1n,y1o,y1p,y1q,y1r,retO,retL,retV,z6i,allV,allP,z6j,z6m,z6n,z6t,z6u,z6v,binV,eqV,unV,oOpt,reduceIte,reduceCtorEq,Nat.reduceEqDiff,Nat.reduceAdd,Nat.reduceMul,Nat.reduceLT,Nat.reduceSub,Int.reduceLT,Int.reduceLE,Int.reduceEq,Int.reduceNe,Int.reduceSub,Int.reduceAdd,Int.reduceMul,Int.reduceBEq,Int.reduceBNe,Int.reduceGT,Int.reduceGE,Nat.reduceGT,Int.reduceToNat,Int.reduceNeg,Nat.reduceLeDiff,Nat.reduceBEq,Nat.reduceBneDiff,Value.cells, beq_self_eq_true, xs, xb, ys, yb, implies_true, List.mem_cons, List.not_mem_nil, List.mem_singleton, or_false, forall_eq, forall_eq_or_imp, and_self]
      refine fin _ _ ⟨κ3, _, _, P2.turnW e3 S3, t2, t3⟩ ?_
      intro H9 P9
      simp -implicitDefEqProofs only [zB1,zB2,zB3,zB4,zB5,zB6,zB7,zB8,zB9,zB10,zB11,y00,y01,y02,y03,y04,y05,y06,y07,y08,y09,y0a,y0b,y0c,y0d,y0e,y0f,y0g,y0h,y0i,y0j,y0k,y0l,y0m,y0n,y0o,y0p,y0q,y0r,y0s,y0t,y0u,y0v,y0w,y0x,y0y,y0z,y10,y11,y12,y13,y14,y15,y16,y17,y18,y19,y1a,y1b,y1c,y1d,y1e,y1f,y1g,y1h,y1i,y1j,y1k,y1l,y1m,y1n,y1o,y1p,y1q,y1r,retO,retL,retV,z6i,allV,allP,z6j,z6m,z6n,z6t,z6u,z6v,binV,eqV,unV,oOpt,reduceIte,reduceCtorEq,Nat.reduceEqDiff,Nat.reduceAdd,Nat.reduceMul,Nat.reduceLT,Nat.reduceSub,Int.reduceLT,Int.reduceLE,Int.reduceEq,Int.reduceNe,Int.reduceSub,Int.reduceAdd,Int.reduceMul,Int.reduceBEq,Int.reduceBNe,Int.reduceGT,Int.reduceGE,Nat.reduceGT,Int.reduceToNat,Int.reduceNeg,Nat.reduceLeDiff,Nat.reduceBEq,Nat.reduceBneDiff,Value.cells, w1]
      exact ⟨X.length - (i + 1), by omega, i + 1, rfl, by omega, rfl, P9.base hB1⟩
    simp -implicitDefEqProofs only [zB1,zB2,zB3,zB4,zB5,zB6,zB7,zB8,zB9,zB10,zB11,y00,y01,y02,y03,y04,y05,y06,y07,y08,y09,y0a,y0b,y0c,y0d,y0e,y0f,y0g,y0h,y0i,y0j,y0k,y0l,y0m,y0n,y0o,y0p,y0q,y0r,y0s,y0t,y0u,y0v,y0w,y0x,y0y,y0z,y10,y11,y12,y13,y14,y15,y16,y17,y18,y19,y1a,y1b,y1c,y1d,y1e,y1f,y1g,y1h,y1i,y1j,y1k,y1l,y1m,y1n,y1o,y1p,y1q,y1r,retO,retL,retV,z6i,allV,allP,z6j,z6m,z6n,z6t,z6u,z6v,binV,eqV,unV,oOpt,reduceIte,reduceCtorEq,Nat.reduceEqDiff,Nat.reduceAdd,Nat.reduceMul,Nat.reduceLT,Nat.reduceSub,Int.reduceLT,Int.reduceLE,Int.reduceEq,Int.reduceNe,Int.reduceSub,Int.reduceAdd,Int.reduceMul,Int.reduceBEq,Int.reduceBNe,Int.reduceGT,Int.reduceGE,Nat.reduceGT,Int.reduceToNat,Int.reduceNeg,Nat.reduceLeDiff,Nat.reduceBEq,Nat.reduceBneDiff,Value.cells, o0]
    unfold ir_bandboxlaw13_DiskPlays_q_2
    by_cases o1 : x.op = 1
    · simp -implicitDefEqProofs only [zB1,zB2,zB3,zB4,zB5,zB6,zB7,zB8,zB9,zB10,zB11,y00,y01,y02,y03,y04,y05,y06,y07,y08,y09,y0a,y0b,y0c,y0d,y0e,y0f,y0g,y0h,y0i,y0j,y0k,y0l,y0m,y0n,y0o,y0p,y0q,y0r,y0s,y0t,y0u,y0v,y0w,y0x,y0y,y0z,y10,y11,y12,y13,y14,y15,y16,y17,y18,y19,y1a,y1b,y1c,y1d,y1e,y1f,y1g,y1h,y1i,y1j,y1k,y1l,y1m,y1n,y1o,y1p,y1q,y1r,retO,retL,retV,z6i,allV,allP,z6j,z6m,z6n,z6t,z6u,z6v,binV,eqV,unV,oOpt,reduceIte,reduceCtorEq,Nat.reduceEqDiff,Nat.reduceAdd,Nat.reduceMul,Nat.reduceLT,Nat.reduceSub,Int.reduceLT,Int.reduceLE,Int.reduceEq,Int.reduceNe,Int.reduceSub,Int.reduceAdd,Int.reduceMul,Int.reduceBEq,Int.reduceBNe,Int.reduceGT,Int.reduceGE,Nat.reduceGT,Int.reduceToNat,Int.reduceNeg,Nat.reduceLeDiff,Nat.reduceBEq,Nat.reduceBneDiff,Value.cells, o1, xs]
      refine (disk_Sync_c E P1.R okD x.s (by omega)).mono ?_
      rintro v H2 ⟨rfl, κ2, e2, R2⟩
      have P2 := P1.turnD e2 R2
      have sB2 := sB.le P2.B
      obtain ⟨-, yn, yk, ys, yt, yb⟩ := xc H2 (Heap.le_trans P2.B (Heap.bare_le _ _))
      simp -implicitDefEqProofs only [zB1,zB2,zB3,zB4,zB5,zB6,zB7,zB8,zB9,zB10,zB11,y00,y01,y02,y03,y04,y05,y06,y07,y08,y09,y0a,y0b,y0c,y0d,y0e,y0f,y0g,y0h,y0i,y0j,y0k,y0l,y0m,y0n,y0o,y0p,y0q,y0r,y0s,y0t,y0u,y0v,y0w,y0x,y0y,y0z,y10,y11,y12,y13,y14,y15,y16,y17,y18,y19,y1a,y1b,y1c,y1d,y1e,y1f,y1g,y1h,y1i,y1j,y1k,y1l,y1m,y1n,y1o,y1p,y1q,y1r,retO,retL,retV,z6i,allV,allP,z6j,z6m,z6n,z6t,z6u,z6v,binV,eqV,unV,oOpt,reduceIte,reduceCtorEq,Nat.reduceEqDiff,Nat.reduceAdd,Nat.reduceMul,Nat.reduceLT,Nat.reduceSub,Int.reduceLT,Int.reduceLE,Int.reduceEq,Int.reduceNe,Int.reduceSub,Int.reduceAdd,Int.reduceMul,Int.reduceBEq,Int.reduceBNe,Int.reduceGT,Int.reduceGE,Nat.reduceGT,Int.reduceToNat,Int.reduceNeg,Nat.reduceLeDiff,Nat.reduceBEq,Nat.reduceBneDiff,Value.cells, xs, ys, implies_true, List.mem_cons, List.not_mem_nil, List.mem_singleton, or_false, forall_eq, forall_eq_or_imp, and_self]
      refine (ref_Sync_c E P2.S okW (by omega) I.nd x.s (by omega)).mono ?_
      rintro v H3 ⟨rfl, κ3, e3, S3⟩
      obtain ⟨t1, t2, t3⟩ := TW.sync I x.s
      rw [t1]
      simp -implicitDefEqProofs only [zB1,zB2,zB3,zB4,zB5,zB6,zB7,zB8,zB9,zB10,zB11,y00,y01,y02,y03,y04,y05,y06,y07,y08,y09,y0a,y0b,y0c,y0d,y0e,y0f,y0g,y0h,y0i,y0j,y0k,y0l,y0m,y0n,y0o,y0p,y0q,y0r,y0s,y0t,y0u,y0v,y0w,y0x,y0y,y0z,y10,y11,y12,y13,y14,y15,y16,y17,y18,y19,y1a,y1b,y1c,y1d,y1e,y1f,y1g,y1h,y1i,y1j,y1k,y1l,y1m,y1n,y1o,y1p,y1q,y1r,retO,retL,retV,z6i,allV,allP,z6j,z6m,z6n,z6t,z6u,z6v,binV,eqV,unV,oOpt,reduceIte,reduceCtorEq,Nat.reduceEqDiff,Nat.reduceAdd,Nat.reduceMul,Nat.reduceLT,Nat.reduceSub,Int.reduceLT,Int.reduceLE,Int.reduceEq,Int.reduceNe,Int.reduceSub,Int.reduceAdd,Int.reduceMul,Int.reduceBEq,Int.reduceBNe,Int.reduceGT,Int.reduceGE,Nat.reduceGT,Int.reduceToNat,Int.reduceNeg,Nat.reduceLeDiff,Nat.reduceBEq,Nat.reduceBneDiff,Value.cells, beq_self_eq_true, xs, ys, implies_true, List.mem_cons, List.not_mem_nil, List.mem_singleton, or_false, forall_eq, forall_eq_or_imp, and_self]
      refine fin _ _ ⟨κ3, _, _, P2.turnW e3 S3, t2, t3⟩ ?_
      intro H9 P9
      simp -implicitDefEqProofs only [zB1,zB2,zB3,zB4,zB5,zB6,zB7,zB8,zB9,zB10,zB11,y00,y01,y02,y03,y04,y05,y06,y07,y08,y09,y0a,y0b,y0c,y0d,y0e,y0f,y0g,y0h,y0i,y0j,y0k,y0l,y0m,y0n,y0o,y0p,y0q,y0r,y0s,y0t,y0u,y0v,y0w,y0x,y0y,y0z,y10,y11,y12,y13,y14,y15,y16,y17,y18,y19,y1a,y1b,y1c,y1d,y1e,y1f,y1g,y1h,y1i,y1j,y1k,y1l,y1m,y1n,y1o,y1p,y1q,y1r,retO,retL,retV,z6i,allV,allP,z6j,z6m,z6n,z6t,z6u,z6v,binV,eqV,unV,oOpt,reduceIte,reduceCtorEq,Nat.reduceEqDiff,Nat.reduceAdd,Nat.reduceMul,Nat.reduceLT,Nat.reduceSub,Int.reduceLT,Int.reduceLE,Int.reduceEq,Int.reduceNe,Int.reduceSub,Int.reduceAdd,Int.reduceMul,Int.reduceBEq,Int.reduceBNe,Int.reduceGT,Int.reduceGE,Nat.reduceGT,Int.reduceToNat,Int.reduceNeg,Nat.reduceLeDiff,Nat.reduceBEq,Nat.reduceBneDiff,Value.cells, w1]
      exact ⟨X.length - (i + 1), by omega, i + 1, rfl, by omega, rfl, P9.base hB1⟩
    by_cases o2 : x.op = 2
    · simp -implicitDefEqProofs only [zB1,zB2,zB3,zB4,zB5,zB6,zB7,zB8,zB9,zB10,zB11,y00,y01,y02,y03,y04,y05,y06,y07,y08,y09,y0a,y0b,y0c,y0d,y0e,y0f,y0g,y0h,y0i,y0j,y0k,y0l,y0m,y0n,y0o,y0p,y0q,y0r,y0s,y0t,y0u,y0v,y0w,y0x,y0y,y0z,y10,y11,y12,y13,y14,y15,y16,y17,y18,y19,y1a,y1b,y1c,y1d,y1e,y1f,y1g,y1h,y1i,y1j,y1k,y1l,y1m,y1n,y1o,y1p,y1q,y1r,retO,retL,retV,z6i,allV,allP,z6j,z6m,z6n,z6t,z6u,z6v,binV,eqV,unV,oOpt,reduceIte,reduceCtorEq,Nat.reduceEqDiff,Nat.reduceAdd,Nat.reduceMul,Nat.reduceLT,Nat.reduceSub,Int.reduceLT,Int.reduceLE,Int.reduceEq,Int.reduceNe,Int.reduceSub,Int.reduceAdd,Int.reduceMul,Int.reduceBEq,Int.reduceBNe,Int.reduceGT,Int.reduceGE,Nat.reduceGT,Int.reduceToNat,Int.reduceNeg,Nat.reduceLeDiff,Nat.reduceBEq,Nat.reduceBneDiff,Value.cells, o1, o2, xs, xt]
      refine (disk_Rename_c E P1.R x.s x.t (by omega) (by omega)).mono ?_
      rintro v H2 ⟨rfl, κ2, e2, R2⟩
      have P2 := P1.turnD e2 R2
      have sB2 := sB.le P2.B
      obtain ⟨-, yn, yk, ys, yt, yb⟩ := xc H2 (Heap.le_trans P2.B (Heap.bare_le _ _))
      simp -implicitDefEqProofs only [zB1,zB2,zB3,zB4,zB5,zB6,zB7,zB8,zB9,zB10,zB11,y00,y01,y02,y03,y04,y05,y06,y07,y08,y09,y0a,y0b,y0c,y0d,y0e,y0f,y0g,y0h,y0i,y0j,y0k,y0l,y0m,y0n,y0o,y0p,y0q,y0r,y0s,y0t,y0u,y0v,y0w,y0x,y0y,y0z,y10,y11,y12,y13,y14,y15,y16,y17,y18,y19,y1a,y1b,y1c,y1d,y1e,y1f,y1g,y1h,y1i,y1j,y1k,y1l,y1m,y1n,y1o,y1p,y1q,y1r,retO,retL,retV,z6i,allV,allP,z6j,z6m,z6n,z6t,z6u,z6v,binV,eqV,unV,oOpt,reduceIte,reduceCtorEq,Nat.reduceEqDiff,Nat.reduceAdd,Nat.reduceMul,Nat.reduceLT,Nat.reduceSub,Int.reduceLT,Int.reduceLE,Int.reduceEq,Int.reduceNe,Int.reduceSub,Int.reduceAdd,Int.reduceMul,Int.reduceBEq,Int.reduceBNe,Int.reduceGT,Int.reduceGE,Nat.reduceGT,Int.reduceToNat,Int.reduceNeg,Nat.reduceLeDiff,Nat.reduceBEq,Nat.reduceBneDiff,Value.cells, xs, xt, ys, yt, implies_true, List.mem_cons, List.not_mem_nil, List.mem_singleton, or_false, forall_eq, forall_eq_or_imp, and_self]
      refine (ref_Rename_c E P2.S (by omega) I.nd x.s x.t (by omega) (by omega)).mono ?_
      rintro v H3 ⟨rfl, κ3, e3, S3⟩
      obtain ⟨t1, t2, t3⟩ := TW.rename I x.s x.t
      rw [t1]
      simp -implicitDefEqProofs only [zB1,zB2,zB3,zB4,zB5,zB6,zB7,zB8,zB9,zB10,zB11,y00,y01,y02,y03,y04,y05,y06,y07,y08,y09,y0a,y0b,y0c,y0d,y0e,y0f,y0g,y0h,y0i,y0j,y0k,y0l,y0m,y0n,y0o,y0p,y0q,y0r,y0s,y0t,y0u,y0v,y0w,y0x,y0y,y0z,y10,y11,y12,y13,y14,y15,y16,y17,y18,y19,y1a,y1b,y1c,y1d,y1e,y1f,y1g,y1h,y1i,y1j,y1k,y1l,y1m,y1n,y1o,y1p,y1q,y1r,retO,retL,retV,z6i,allV,allP,z6j,z6m,z6n,z6t,z6u,z6v,binV,eqV,unV,oOpt,reduceIte,reduceCtorEq,Nat.reduceEqDiff,Nat.reduceAdd,Nat.reduceMul,Nat.reduceLT,Nat.reduceSub,Int.reduceLT,Int.reduceLE,Int.reduceEq,Int.reduceNe,Int.reduceSub,Int.reduceAdd,Int.reduceMul,Int.reduceBEq,Int.reduceBNe,Int.reduceGT,Int.reduceGE,Nat.reduceGT,Int.reduceToNat,Int.reduceNeg,Nat.reduceLeDiff,Nat.reduceBEq,Nat.reduceBneDiff,Value.cells, beq_self_eq_true, xs, xt, ys, yt, implies_true, List.mem_cons, List.not_mem_nil, List.mem_singleton, or_false, forall_eq, forall_eq_or_imp, and_self]
      refine fin _ _ ⟨κ3, _, _, P2.turnW e3 S3, t2, t3⟩ ?_
      intro H9 P9
      simp -implicitDefEqProofs only [zB1,zB2,zB3,zB4,zB5,zB6,zB7,zB8,zB9,zB10,zB11,y00,y01,y02,y03,y04,y05,y06,y07,y08,y09,y0a,y0b,y0c,y0d,y0e,y0f,y0g,y0h,y0i,y0j,y0k,y0l,y0m,y0n,y0o,y0p,y0q,y0r,y0s,y0t,y0u,y0v,y0w,y0x,y0y,y0z,y10,y11,y12,y13,y14,y15,y16,y17,y18,y19,y1a,y1b,y1c,y1d,y1e,y1f,y1g,y1h,y1i,y1j,y1k,y1l,y1m,y1n,y1o,y1p,y1q,y1r,retO,retL,retV,z6i,allV,allP,z6j,z6m,z6n,z6t,z6u,z6v,binV,eqV,unV,oOpt,reduceIte,reduceCtorEq,Nat.reduceEqDiff,Nat.reduceAdd,Nat.reduceMul,Nat.reduceLT,Nat.reduceSub,Int.reduceLT,Int.reduceLE,Int.reduceEq,Int.reduceNe,Int.reduceSub,Int.reduceAdd,Int.reduceMul,Int.reduceBEq,Int.reduceBNe,Int.reduceGT,Int.reduceGE,Nat.reduceGT,Int.reduceToNat,Int.reduceNeg,Nat.reduceLeDiff,Nat.reduceBEq,Nat.reduceBneDiff,Value.cells, w1]
      exact ⟨X.length - (i + 1), by omega, i + 1, rfl, by omega, rfl, P9.base hB1⟩
    simp -implicitDefEqProofs only [zB1,zB2,zB3,zB4,zB5,zB6,zB7,zB8,zB9,zB10,zB11,y00,y01,y02,y03,y04,y05,y06,y07,y08,y09,y0a,y0b,y0c,y0d,y0e,y0f,y0g,y0h,y0i,y0j,y0k,y0l,y0m,y0n,y0o,y0p,y0q,y0r,y0s,y0t,y0u,y0v,y0w,y0x,y0y,y0z,y10,y11,y12,y13,y14,y15,y16,y17,y18,y19,y1a,y1b,y1c,y1d,y1e,y1f,y1g,y1h,y1i,y1j,y1k,y1l,y1m,y1n,y1o,y1p,y1q,y1r,retO,retL,retV,z6i,allV,allP,z6j,z6m,z6n,z6t,z6u,z6v,binV,eqV,unV,oOpt,reduceIte,reduceCtorEq,Nat.reduceEqDiff,Nat.reduceAdd,Nat.reduceMul,Nat.reduceLT,Nat.reduceSub,Int.reduceLT,Int.reduceLE,Int.reduceEq,Int.reduceNe,Int.reduceSub,Int.reduceAdd,Int.reduceMul,Int.reduceBEq,Int.reduceBNe,Int.reduceGT,Int.reduceGE,Nat.reduceGT,Int.reduceToNat,Int.reduceNeg,Nat.reduceLeDiff,Nat.reduceBEq,Nat.reduceBneDiff,Value.cells, o1, o2]
    unfold ir_bandboxlaw13_DiskPlays_q
    by_cases o3 : x.op = 3
    · simp -implicitDefEqProofs only [zB1,zB2,zB3,zB4,zB5,zB6,zB7,zB8,zB9,zB10,zB11,y00,y01,y02,y03,y04,y05,y06,y07,y08,y09,y0a,y0b,y0c,y0d,y0e,y0f,y0g,y0h,y0i,y0j,y0k,y0l,y0m,y0n,y0o,y0p,y0q,y0r,y0s,y0t,y0u,y0v,y0w,y0x,y0y,y0z,y10,y11,y12,y13,y14,y15,y16,y17,y18,y19,y1a,y1b,y1c,y1d,y1e,y1f,y1g,y1h,y1i,y1j,y1k,y1l,y1m,y1n,y1o,y1p,y1q,y1r,retO,retL,retV,z6i,allV,allP,z6j,z6m,z6n,z6t,z6u,z6v,binV,eqV,unV,oOpt,reduceIte,reduceCtorEq,Nat.reduceEqDiff,Nat.reduceAdd,Nat.reduceMul,Nat.reduceLT,Nat.reduceSub,Int.reduceLT,Int.reduceLE,Int.reduceEq,Int.reduceNe,Int.reduceSub,Int.reduceAdd,Int.reduceMul,Int.reduceBEq,Int.reduceBNe,Int.reduceGT,Int.reduceGE,Nat.reduceGT,Int.reduceToNat,Int.reduceNeg,Nat.reduceLeDiff,Nat.reduceBEq,Nat.reduceBneDiff,Value.cells, o3, xs]
      refine (disk_Drop_c E P1.R x.s (by omega)).mono ?_
      rintro v H2 ⟨rfl, κ2, e2, R2⟩
      have P2 := P1.turnD e2 R2
      have sB2 := sB.le P2.B
      obtain ⟨-, yn, yk, ys, yt, yb⟩ := xc H2 (Heap.le_trans P2.B (Heap.bare_le _ _))
      simp -implicitDefEqProofs only [zB1,zB2,zB3,zB4,zB5,zB6,zB7,zB8,zB9,zB10,zB11,y00,y01,y02,y03,y04,y05,y06,y07,y08,y09,y0a,y0b,y0c,y0d,y0e,y0f,y0g,y0h,y0i,y0j,y0k,y0l,y0m,y0n,y0o,y0p,y0q,y0r,y0s,y0t,y0u,y0v,y0w,y0x,y0y,y0z,y10,y11,y12,y13,y14,y15,y16,y17,y18,y19,y1a,y1b,y1c,y1d,y1e,y1f,y1g,y1h,y1i,y1j,y1k,y1l,y1m,y1n,y1o,y1p,y1q,y1r,retO,retL,retV,z6i,allV,allP,z6j,z6m,z6n,z6t,z6u,z6v,binV,eqV,unV,oOpt,reduceIte,reduceCtorEq,Nat.reduceEqDiff,Nat.reduceAdd,Nat.reduceMul,Nat.reduceLT,Nat.reduceSub,Int.reduceLT,Int.reduceLE,Int.reduceEq,Int.reduceNe,Int.reduceSub,Int.reduceAdd,Int.reduceMul,Int.reduceBEq,Int.reduceBNe,Int.reduceGT,Int.reduceGE,Nat.reduceGT,Int.reduceToNat,Int.reduceNeg,Nat.reduceLeDiff,Nat.reduceBEq,Nat.reduceBneDiff,Value.cells, xs, ys, implies_true, List.mem_cons, List.not_mem_nil, List.mem_singleton, or_false, forall_eq, forall_eq_or_imp, and_self]
      refine (ref_Drop_c E P2.S (by omega) I.nd x.s (by omega)).mono ?_
      rintro v H3 ⟨rfl, κ3, e3, S3⟩
      obtain ⟨t1, t2, t3⟩ := TW.drop I x.s
      rw [t1]
      simp -implicitDefEqProofs only [zB1,zB2,zB3,zB4,zB5,zB6,zB7,zB8,zB9,zB10,zB11,y00,y01,y02,y03,y04,y05,y06,y07,y08,y09,y0a,y0b,y0c,y0d,y0e,y0f,y0g,y0h,y0i,y0j,y0k,y0l,y0m,y0n,y0o,y0p,y0q,y0r,y0s,y0t,y0u,y0v,y0w,y0x,y0y,y0z,y10,y11,y12,y13,y14,y15,y16,y17,y18,y19,y1a,y1b,y1c,y1d,y1e,y1f,y1g,y1h,y1i,y1j,y1k,y1l,y1m,y1n,y1o,y1p,y1q,y1r,retO,retL,retV,z6i,allV,allP,z6j,z6m,z6n,z6t,z6u,z6v,binV,eqV,unV,oOpt,reduceIte,reduceCtorEq,Nat.reduceEqDiff,Nat.reduceAdd,Nat.reduceMul,Nat.reduceLT,Nat.reduceSub,Int.reduceLT,Int.reduceLE,Int.reduceEq,Int.reduceNe,Int.reduceSub,Int.reduceAdd,Int.reduceMul,Int.reduceBEq,Int.reduceBNe,Int.reduceGT,Int.reduceGE,Nat.reduceGT,Int.reduceToNat,Int.reduceNeg,Nat.reduceLeDiff,Nat.reduceBEq,Nat.reduceBneDiff,Value.cells, beq_self_eq_true, xs, ys, implies_true, List.mem_cons, List.not_mem_nil, List.mem_singleton, or_false, forall_eq, forall_eq_or_imp, and_self]
      refine fin _ _ ⟨κ3, _, _, P2.turnW e3 S3, t2, t3⟩ ?_
      intro H9 P9
      simp -implicitDefEqProofs only [zB1,zB2,zB3,zB4,zB5,zB6,zB7,zB8,zB9,zB10,zB11,y00,y01,y02,y03,y04,y05,y06,y07,y08,y09,y0a,y0b,y0c,y0d,y0e,y0f,y0g,y0h,y0i,y0j,y0k,y0l,y0m,y0n,y0o,y0p,y0q,y0r,y0s,y0t,y0u,y0v,y0w,y0x,y0y,y0z,y10,y11,y12,y13,y14,y15,y16,y17,y18,y19,y1a,y1b,y1c,y1d,y1e,y1f,y1g,y1h,y1i,y1j,y1k,y1l,y1m,y1n,y1o,y1p,y1q,y1r,retO,retL,retV,z6i,allV,allP,z6j,z6m,z6n,z6t,z6u,z6v,binV,eqV,unV,oOpt,reduceIte,reduceCtorEq,Nat.reduceEqDiff,Nat.reduceAdd,Nat.reduceMul,Nat.reduceLT,Nat.reduceSub,Int.reduceLT,Int.reduceLE,Int.reduceEq,Int.reduceNe,Int.reduceSub,Int.reduceAdd,Int.reduceMul,Int.reduceBEq,Int.reduceBNe,Int.reduceGT,Int.reduceGE,Nat.reduceGT,Int.reduceToNat,Int.reduceNeg,Nat.reduceLeDiff,Nat.reduceBEq,Nat.reduceBneDiff,Value.cells, w1]
      exact ⟨X.length - (i + 1), by omega, i + 1, rfl, by omega, rfl, P9.base hB1⟩
    by_cases o4 : x.op = 4
    · simp -implicitDefEqProofs only [zB1,zB2,zB3,zB4,zB5,zB6,zB7,zB8,zB9,zB10,zB11,y00,y01,y02,y03,y04,y05,y06,y07,y08,y09,y0a,y0b,y0c,y0d,y0e,y0f,y0g,y0h,y0i,y0j,y0k,y0l,y0m,y0n,y0o,y0p,y0q,y0r,y0s,y0t,y0u,y0v,y0w,y0x,y0y,y0z,y10,y11,y12,y13,y14,y15,y16,y17,y18,y19,y1a,y1b,y1c,y1d,y1e,y1f,y1g,y1h,y1i,y1j,y1k,y1l,y1m,y1n,y1o,y1p,y1q,y1r,retO,retL,retV,z6i,allV,allP,z6j,z6m,z6n,z6t,z6u,z6v,binV,eqV,unV,oOpt,reduceIte,reduceCtorEq,Nat.reduceEqDiff,Nat.reduceAdd,Nat.reduceMul,Nat.reduceLT,Nat.reduceSub,Int.reduceLT,Int.reduceLE,Int.reduceEq,Int.reduceNe,Int.reduceSub,Int.reduceAdd,Int.reduceMul,Int.reduceBEq,Int.reduceBNe,Int.reduceGT,Int.reduceGE,Nat.reduceGT,Int.reduceToNat,Int.reduceNeg,Nat.reduceLeDiff,Nat.reduceBEq,Nat.reduceBneDiff,Value.cells, o3, o4, xk, xn]
      refine (disk_Crash_c E P1.R okD x.keep x.n).mono ?_
      rintro v H2 ⟨κ2, e2, R2⟩
      have P2 := P1.turnD e2 R2
      obtain ⟨-, yn, yk, ys, yt, yb⟩ := xc H2 (Heap.le_trans P2.B (Heap.bare_le _ _))
      simp -implicitDefEqProofs only [zB1,zB2,zB3,zB4,zB5,zB6,zB7,zB8,zB9,zB10,zB11,y00,y01,y02,y03,y04,y05,y06,y07,y08,y09,y0a,y0b,y0c,y0d,y0e,y0f,y0g,y0h,y0i,y0j,y0k,y0l,y0m,y0n,y0o,y0p,y0q,y0r,y0s,y0t,y0u,y0v,y0w,y0x,y0y,y0z,y10,y11,y12,y13,y14,y15,y16,y17,y18,y19,y1a,y1b,y1c,y1d,y1e,y1f,y1g,y1h,y1i,y1j,y1k,y1l,y1m,y1n,y1o,y1p,y1q,y1r,retO,retL,retV,z6i,allV,allP,z6j,z6m,z6n,z6t,z6u,z6v,binV,eqV,unV,oOpt,reduceIte,reduceCtorEq,Nat.reduceEqDiff,Nat.reduceAdd,Nat.reduceMul,Nat.reduceLT,Nat.reduceSub,Int.reduceLT,Int.reduceLE,Int.reduceEq,Int.reduceNe,Int.reduceSub,Int.reduceAdd,Int.reduceMul,Int.reduceBEq,Int.reduceBNe,Int.reduceGT,Int.reduceGE,Nat.reduceGT,Int.reduceToNat,Int.reduceNeg,Nat.reduceLeDiff,Nat.reduceBEq,Nat.reduceBneDiff,Value.cells, yk, yn]
      refine (ref_Crash_c E P2.S okW (by omega) x.keep x.n).mono ?_
      rintro v H3 ⟨κ3, e3, S3⟩
      obtain ⟨t2, t3⟩ := TW.crash I x.keep x.n
      simp -implicitDefEqProofs only [zB1,zB2,zB3,zB4,zB5,zB6,zB7,zB8,zB9,zB10,zB11,y00,y01,y02,y03,y04,y05,y06,y07,y08,y09,y0a,y0b,y0c,y0d,y0e,y0f,y0g,y0h,y0i,y0j,y0k,y0l,y0m,y0n,y0o,y0p,y0q,y0r,y0s,y0t,y0u,y0v,y0w,y0x,y0y,y0z,y10,y11,y12,y13,y14,y15,y16,y17,y18,y19,y1a,y1b,y1c,y1d,y1e,y1f,y1g,y1h,y1i,y1j,y1k,y1l,y1m,y1n,y1o,y1p,y1q,y1r,retO,retL,retV,z6i,allV,allP,z6j,z6m,z6n,z6t,z6u,z6v,binV,eqV,unV,oOpt,reduceIte,reduceCtorEq,Nat.reduceEqDiff,Nat.reduceAdd,Nat.reduceMul,Nat.reduceLT,Nat.reduceSub,Int.reduceLT,Int.reduceLE,Int.reduceEq,Int.reduceNe,Int.reduceSub,Int.reduceAdd,Int.reduceMul,Int.reduceBEq,Int.reduceBNe,Int.reduceGT,Int.reduceGE,Nat.reduceGT,Int.reduceToNat,Int.reduceNeg,Nat.reduceLeDiff,Nat.reduceBEq,Nat.reduceBneDiff,Value.cells]
      refine fin _ _ ⟨κ3, _, _, P2.turnW e3 S3, t2, t3⟩ ?_
      intro H9 P9
      simp -implicitDefEqProofs only [zB1,zB2,zB3,zB4,zB5,zB6,zB7,zB8,zB9,zB10,zB11,y00,y01,y02,y03,y04,y05,y06,y07,y08,y09,y0a,y0b,y0c,y0d,y0e,y0f,y0g,y0h,y0i,y0j,y0k,y0l,y0m,y0n,y0o,y0p,y0q,y0r,y0s,y0t,y0u,y0v,y0w,y0x,y0y,y0z,y10,y11,y12,y13,y14,y15,y16,y17,y18,y19,y1a,y1b,y1c,y1d,y1e,y1f,y1g,y1h,y1i,y1j,y1k,y1l,y1m,y1n,y1o,y1p,y1q,y1r,retO,retL,retV,z6i,allV,allP,z6j,z6m,z6n,z6t,z6u,z6v,binV,eqV,unV,oOpt,reduceIte,reduceCtorEq,Nat.reduceEqDiff,Nat.reduceAdd,Nat.reduceMul,Nat.reduceLT,Nat.reduceSub,Int.reduceLT,Int.reduceLE,Int.reduceEq,Int.reduceNe,Int.reduceSub,Int.reduceAdd,Int.reduceMul,Int.reduceBEq,Int.reduceBNe,Int.reduceGT,Int.reduceGE,Nat.reduceGT,Int.reduceToNat,Int.reduceNeg,Nat.reduceLeDiff,Nat.reduceBEq,Nat.reduceBneDiff,Value.cells, w1]
      exact ⟨X.length - (i + 1), by omega, i + 1, rfl, by omega, rfl, P9.base hB1⟩
    · simp -implicitDefEqProofs only [zB1,zB2,zB3,zB4,zB5,zB6,zB7,zB8,zB9,zB10,zB11,y00,y01,y02,y03,y04,y05,y06,y07,y08,y09,y0a,y0b,y0c,y0d,y0e,y0f,y0g,y0h,y0i,y0j,y0k,y0l,y0m,y0n,y0o,y0p,y0q,y0r,y0s,y0t,y0u,y0v,y0w,y0x,y0y,y0z,y10,y11,y12,y13,y14,y15,y16,y17,y18,y19,y1a,y1b,y1c,y1d,y1e,y1f,y1g,y1h,y1i,y1j,y1k,y1l,y1m,y1n,y1o,y1p,y1q,y1r,retO,retL,retV,z6i,allV,allP,z6j,z6m,z6n,z6t,z6u,z6v,binV,eqV,unV,oOpt,reduceIte,reduceCtorEq,Nat.reduceEqDiff,Nat.reduceAdd,Nat.reduceMul,Nat.reduceLT,Nat.reduceSub,Int.reduceLT,Int.reduceLE,Int.reduceEq,Int.reduceNe,Int.reduceSub,Int.reduceAdd,Int.reduceMul,Int.reduceBEq,Int.reduceBNe,Int.reduceGT,Int.reduceGE,Nat.reduceGT,Int.reduceToNat,Int.reduceNeg,Nat.reduceLeDiff,Nat.reduceBEq,Nat.reduceBneDiff,Value.cells, o3, o4]
      have hlD := TW.lives
      refine (disk_On_c E P1.R (by omega) (by omega)).mono ?_
      rintro v H2 ⟨e2, R2⟩
      have P2 := P1.turnD e2 R2
      simp -implicitDefEqProofs only [zB1,zB2,zB3,zB4,zB5,zB6,zB7,zB8,zB9,zB10,zB11,y00,y01,y02,y03,y04,y05,y06,y07,y08,y09,y0a,y0b,y0c,y0d,y0e,y0f,y0g,y0h,y0i,y0j,y0k,y0l,y0m,y0n,y0o,y0p,y0q,y0r,y0s,y0t,y0u,y0v,y0w,y0x,y0y,y0z,y10,y11,y12,y13,y14,y15,y16,y17,y18,y19,y1a,y1b,y1c,y1d,y1e,y1f,y1g,y1h,y1i,y1j,y1k,y1l,y1m,y1n,y1o,y1p,y1q,y1r,retO,retL,retV,z6i,allV,allP,z6j,z6m,z6n,z6t,z6u,z6v,binV,eqV,unV,oOpt,reduceIte,reduceCtorEq,Nat.reduceEqDiff,Nat.reduceAdd,Nat.reduceMul,Nat.reduceLT,Nat.reduceSub,Int.reduceLT,Int.reduceLE,Int.reduceEq,Int.reduceNe,Int.reduceSub,Int.reduceAdd,Int.reduceMul,Int.reduceBEq,Int.reduceBNe,Int.reduceGT,Int.reduceGE,Nat.reduceGT,Int.reduceToNat,Int.reduceNeg,Nat.reduceLeDiff,Nat.reduceBEq,Nat.reduceBneDiff,Value.cells]
      refine (ref_On_c E P2.S (by omega) (by omega)).mono ?_
      rintro v H3 ⟨e3, S3⟩
      obtain ⟨t2, t3⟩ := TW.turn_on I
      simp -implicitDefEqProofs only [zB1,zB2,zB3,zB4,zB5,zB6,zB7,zB8,zB9,zB10,zB11,y00,y01,y02,y03,y04,y05,y06,y07,y08,y09,y0a,y0b,y0c,y0d,y0e,y0f,y0g,y0h,y0i,y0j,y0k,y0l,y0m,y0n,y0o,y0p,y0q,y0r,y0s,y0t,y0u,y0v,y0w,y0x,y0y,y0z,y10,y11,y12,y13,y14,y15,y16,y17,y18,y19,y1a,y1b,y1c,y1d,y1e,y1f,y1g,y1h,y1i,y1j,y1k,y1l,y1m,y1n,y1o,y1p,y1q,y1r,retO,retL,retV,z6i,allV,allP,z6j,z6m,z6n,z6t,z6u,z6v,binV,eqV,unV,oOpt,reduceIte,reduceCtorEq,Nat.reduceEqDiff,Nat.reduceAdd,Nat.reduceMul,Nat.reduceLT,Nat.reduceSub,Int.reduceLT,Int.reduceLE,Int.reduceEq,Int.reduceNe,Int.reduceSub,Int.reduceAdd,Int.reduceMul,Int.reduceBEq,Int.reduceBNe,Int.reduceGT,Int.reduceGE,Nat.reduceGT,Int.reduceToNat,Int.reduceNeg,Nat.reduceLeDiff,Nat.reduceBEq,Nat.reduceBneDiff,Value.cells]
      refine fin _ _ ⟨κ1, _, _, P2.turnW e3 S3, t2, t3⟩ ?_
      intro H9 P9
      simp -implicitDefEqProofs only [zB1,zB2,zB3,zB4,zB5,zB6,zB7,zB8,zB9,zB10,zB11,y00,y01,y02,y03,y04,y05,y06,y07,y08,y09,y0a,y0b,y0c,y0d,y0e,y0f,y0g,y0h,y0i,y0j,y0k,y0l,y0m,y0n,y0o,y0p,y0q,y0r,y0s,y0t,y0u,y0v,y0w,y0x,y0y,y0z,y10,y11,y12,y13,y14,y15,y16,y17,y18,y19,y1a,y1b,y1c,y1d,y1e,y1f,y1g,y1h,y1i,y1j,y1k,y1l,y1m,y1n,y1o,y1p,y1q,y1r,retO,retL,retV,z6i,allV,allP,z6j,z6m,z6n,z6t,z6u,z6v,binV,eqV,unV,oOpt,reduceIte,reduceCtorEq,Nat.reduceEqDiff,Nat.reduceAdd,Nat.reduceMul,Nat.reduceLT,Nat.reduceSub,Int.reduceLT,Int.reduceLE,Int.reduceEq,Int.reduceNe,Int.reduceSub,Int.reduceAdd,Int.reduceMul,Int.reduceBEq,Int.reduceBNe,Int.reduceGT,Int.reduceGE,Nat.reduceGT,Int.reduceToNat,Int.reduceNeg,Nat.reduceLeDiff,Nat.reduceBEq,Nat.reduceBneDiff,Value.cells, w1]
      exact ⟨X.length - (i + 1), by omega, i + 1, rfl, by omega, rfl, P9.base hB1⟩
  · have hi1 : ¬ (i : Int) < X.length := by omega
    simp -implicitDefEqProofs only [zB1,zB2,zB3,zB4,zB5,zB6,zB7,zB8,zB9,zB10,zB11,y00,y01,y02,y03,y04,y05,y06,y07,y08,y09,y0a,y0b,y0c,y0d,y0e,y0f,y0g,y0h,y0i,y0j,y0k,y0l,y0m,y0n,y0o,y0p,y0q,y0r,y0s,y0t,y0u,y0v,y0w,y0x,y0y,y0z,y10,y11,y12,y13,y14,y15,y16,y17,y18,y19,y1a,y1b,y1c,y1d,y1e,y1f,y1g,y1h,y1i,y1j,y1k,y1l,y1m,y1n,y1o,y1p,y1q,y1r,retO,retL,retV,z6i,allV,allP,z6j,z6m,z6n,z6t,z6u,z6v,binV,eqV,unV,oOpt,reduceIte,reduceCtorEq,Nat.reduceEqDiff,Nat.reduceAdd,Nat.reduceMul,Nat.reduceLT,Nat.reduceSub,Int.reduceLT,Int.reduceLE,Int.reduceEq,Int.reduceNe,Int.reduceSub,Int.reduceAdd,Int.reduceMul,Int.reduceBEq,Int.reduceBNe,Int.reduceGT,Int.reduceGE,Nat.reduceGT,Int.reduceToNat,Int.reduceNeg,Nat.reduceLeDiff,Nat.reduceBEq,Nat.reduceBneDiff,Value.cells, hi1]
end Go.Bb
