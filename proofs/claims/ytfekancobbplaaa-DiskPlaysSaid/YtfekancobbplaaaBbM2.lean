/- My contracts: BbCdsk6 BbCdsk7 BbUk BbRow BbUm BbLdsk0 BbCjfm BbCjou0 BbCbig BbPsha BbCsha0 BbCsha1 BbCsha2 BbCsha3 BbCsha4 BbCsha5 BbCjou1 BbCjou2 BbCref11a BbCjou3 BbCref11b BbCref11c BbCref11d. -/
import Derived.Test.YtfekancobbplaaaBbG3
import Derived.Test.YtfekancobbplaaaBbM1
import Derived.Test.YtfekancobbplaaaBbG4
import Derived.Test.YtfekancobbplaaaBbTab
/- Contracts: a disk made, synced, renamed, dropped, without power. -/
namespace Go.Bb
set_option linter.unusedSimpArgs false
set_option linter.unusedVariables false
set_option maxRecDepth 20000
set_option maxHeartbeats 2000000

theorem nodup_snoc {α : Type} (p : GFile → α) {G : List GFile} {g : GFile} (n : (G.map p).Nodup) (h : ∀ x ∈ G, p x ≠ p g) : ((G ++ [g]).map p).Nodup := by
  rw [List.map_append, List.nodup_append]
  refine ⟨n, by simp, fun a ha b hb => ?_⟩
  obtain ⟨x, hx, rfl⟩ := List.mem_map.1 ha
  rw [List.map_cons, List.map_nil, List.mem_singleton] at hb
  subst hb; exact h x hx
theorem disk_New_c (E : EnvT tab) (κ : Pal) (H : Heap) (room : Int) : ACallN E.toEnv n_disk_New [.int .i64 room] H fun v H' => H.le H' ∧
      ((room < 64 ∨ 1048576 < room) → v = .tuple #[.pointer none, .int .i64 1]) ∧ (64 ≤ room ∧ room ≤ 1048576 → ∃ d κ', v = .tuple #[ptrV d, .int .i64 0] ∧ H d = none ∧ Ext (fun _ => False) κ H κ' H' ∧ DiskR κ' H' d { room := room }) := by
  refine acall h_disk_New ir_disk_New rfl rfl (wpA_sound ?_)
  unfold ir_disk_New
  by_cases g1 : room < 64
  · have g3 : ¬ 64 ≤ room := by omega
    simp -implicitDefEqProofs only [zB1,zB2,zB3,zB4,zB5,zB6,zB7,zB8,zB9,zB10,zB11,y00,y01,y02,y03,y04,y05,y06,y07,y08,y09,y0a,y0b,y0c,y0d,y0e,y0f,y0g,y0h,y0i,y0j,y0k,y0l,y0m,y0n,y0o,y0p,y0q,y0r,y0s,y0t,y0u,y0v,y0w,y0x,y0y,y0z,y10,y11,y12,y13,y14,y15,y16,y17,y18,y19,y1a,y1b,y1c,y1d,y1e,y1f,y1g,y1h,y1i,y1j,y1k,y1l,y1m,y1n,y1o,y1p,y1q,y1r,retO,retL,retV,z6i,allV,allP,z6j,z6m,z6n,z6t,z6u,z6v,binV,eqV,unV,oOpt,reduceIte,reduceCtorEq,Nat.reduceEqDiff,Nat.reduceAdd,Nat.reduceMul,Nat.reduceLT,Nat.reduceSub,Int.reduceLT,Int.reduceLE,Int.reduceEq,Int.reduceNe,Int.reduceSub,Int.reduceAdd,Int.reduceMul,Int.reduceBEq,Int.reduceBNe,Int.reduceGT,Int.reduceGE,Nat.reduceGT,Int.reduceToNat,Int.reduceNeg,Nat.reduceLeDiff,Nat.reduceBEq,Nat.reduceBneDiff,Value.cells, g1, g3, true_or, false_and]
    exact Heap.le_refl _
  · by_cases g2 : 1048576 < room
    · have g3 : ¬ room ≤ 1048576 := by omega
      simp -implicitDefEqProofs only [zB1,zB2,zB3,zB4,zB5,zB6,zB7,zB8,zB9,zB10,zB11,y00,y01,y02,y03,y04,y05,y06,y07,y08,y09,y0a,y0b,y0c,y0d,y0e,y0f,y0g,y0h,y0i,y0j,y0k,y0l,y0m,y0n,y0o,y0p,y0q,y0r,y0s,y0t,y0u,y0v,y0w,y0x,y0y,y0z,y10,y11,y12,y13,y14,y15,y16,y17,y18,y19,y1a,y1b,y1c,y1d,y1e,y1f,y1g,y1h,y1i,y1j,y1k,y1l,y1m,y1n,y1o,y1p,y1q,y1r,retO,retL,retV,z6i,allV,allP,z6j,z6m,z6n,z6t,z6u,z6v,binV,eqV,unV,oOpt,reduceIte,reduceCtorEq,Nat.reduceEqDiff,Nat.reduceAdd,Nat.reduceMul,Nat.reduceLT,Nat.reduceSub,Int.reduceLT,Int.reduceLE,Int.reduceEq,Int.reduceNe,Int.reduceSub,Int.reduceAdd,Int.reduceMul,Int.reduceBEq,Int.reduceBNe,Int.reduceGT,Int.reduceGE,Nat.reduceGT,Int.reduceToNat,Int.reduceNeg,Nat.reduceLeDiff,Nat.reduceBEq,Nat.reduceBneDiff,Value.cells, g1, g2, g3, or_true, and_false]
      exact Heap.le_refl _
    · simp -implicitDefEqProofs only [zB1,zB2,zB3,zB4,zB5,zB6,zB7,zB8,zB9,zB10,zB11,y00,y01,y02,y03,y04,y05,y06,y07,y08,y09,y0a,y0b,y0c,y0d,y0e,y0f,y0g,y0h,y0i,y0j,y0k,y0l,y0m,y0n,y0o,y0p,y0q,y0r,y0s,y0t,y0u,y0v,y0w,y0x,y0y,y0z,y10,y11,y12,y13,y14,y15,y16,y17,y18,y19,y1a,y1b,y1c,y1d,y1e,y1f,y1g,y1h,y1i,y1j,y1k,y1l,y1m,y1n,y1o,y1p,y1q,y1r,retO,retL,retV,z6i,allV,allP,z6j,z6m,z6n,z6t,z6u,z6v,binV,eqV,unV,oOpt,reduceIte,reduceCtorEq,Nat.reduceEqDiff,Nat.reduceAdd,Nat.reduceMul,Nat.reduceLT,Nat.reduceSub,Int.reduceLT,Int.reduceLE,Int.reduceEq,Int.reduceNe,Int.reduceSub,Int.reduceAdd,Int.reduceMul,Int.reduceBEq,Int.reduceBNe,Int.reduceGT,Int.reduceGE,Nat.reduceGT,Int.reduceToNat,Int.reduceNeg,Nat.reduceLeDiff,Nat.reduceBEq,Nat.reduceBneDiff,Value.cells, g1, g2]
      intro r hr
      try simp -implicitDefEqProofs only [zB1,zB2,zB3,zB4,zB5,zB6,zB7,zB8,zB9,zB10,zB11,y00,y01,y02,y03,y04,y05,y06,y07,y08,y09,y0a,y0b,y0c,y0d,y0e,y0f,y0g,y0h,y0i,y0j,y0k,y0l,y0m,y0n,y0o,y0p,y0q,y0r,y0s,y0t,y0u,y0v,y0w,y0x,y0y,y0z,y10,y11,y12,y13,y14,y15,y16,y17,y18,y19,y1a,y1b,y1c,y1d,y1e,y1f,y1g,y1h,y1i,y1j,y1k,y1l,y1m,y1n,y1o,y1p,y1q,y1r,retO,retL,retV,z6i,allV,allP,z6j,z6m,z6n,z6t,z6u,z6v,binV,eqV,unV,oOpt,reduceIte,reduceCtorEq,Nat.reduceEqDiff,Nat.reduceAdd,Nat.reduceMul,Nat.reduceLT,Nat.reduceSub,Int.reduceLT,Int.reduceLE,Int.reduceEq,Int.reduceNe,Int.reduceSub,Int.reduceAdd,Int.reduceMul,Int.reduceBEq,Int.reduceBNe,Int.reduceGT,Int.reduceGE,Nat.reduceGT,Int.reduceToNat,Int.reduceNeg,Nat.reduceLeDiff,Nat.reduceBEq,Nat.reduceBneDiff,Value.cells]
      intro d hd
      try simp -implicitDefEqProofs only [zB1,zB2,zB3,zB4,zB5,zB6,zB7,zB8,zB9,zB10,zB11,y00,y01,y02,y03,y04,y05,y06,y07,y08,y09,y0a,y0b,y0c,y0d,y0e,y0f,y0g,y0h,y0i,y0j,y0k,y0l,y0m,y0n,y0o,y0p,y0q,y0r,y0s,y0t,y0u,y0v,y0w,y0x,y0y,y0z,y10,y11,y12,y13,y14,y15,y16,y17,y18,y19,y1a,y1b,y1c,y1d,y1e,y1f,y1g,y1h,y1i,y1j,y1k,y1l,y1m,y1n,y1o,y1p,y1q,y1r,retO,retL,retV,z6i,allV,allP,z6j,z6m,z6n,z6t,z6u,z6v,binV,eqV,unV,oOpt,reduceIte,reduceCtorEq,Nat.reduceEqDiff,Nat.reduceAdd,Nat.reduceMul,Nat.reduceLT,Nat.reduceSub,Int.reduceLT,Int.reduceLE,Int.reduceEq,Int.reduceNe,Int.reduceSub,Int.reduceAdd,Int.reduceMul,Int.reduceBEq,Int.reduceBNe,Int.reduceGT,Int.reduceGE,Nat.reduceGT,Int.reduceToNat,Int.reduceNeg,Nat.reduceLeDiff,Nat.reduceBEq,Nat.reduceBneDiff,Value.cells]
      have g3 : 64 ≤ room := by omega
      have g4 : room ≤ 1048576 := by omega
      have ne : d ≠ r := by intro e; subst e; rw [Heap.set_self] at hd; cases hd
      have hdH : H d = none := by rw [Heap.set_ne ne] at hd; exact hd
      refine ⟨Heap.le_new (Heap.le_set (Heap.le_refl _) hr _) hd _, fun h => by rcases h with h | h <;> exact h.elim, fun _ => ⟨d, fun i => if i = d then some (d, d, 4) else if i = r then some (d, d, 5) else κ i, rfl, hdH, (Ext.new hr _ (some (d, d, 5))).trans (Ext.new hd _ (some (d, d, 4))), [], r, 0, ?_⟩⟩
      refine ⟨by simp, Heap.set_self _ _ _, by simp [ne.symm], by rw [Heap.set_ne ne.symm, Heap.set_self]; rfl, rfl, by simp, by simp, by simp, by simp, by simp⟩
theorem disk_On_c (E : EnvT tab) {κ : Pal} {H : Heap} {d : Nat} {D : DiskF} (R : DiskR κ H d D) (hl : -9000000000000000000 ≤ D.lives) (hl2 : D.lives ≤ 9000000000000000000) : ACallN E.toEnv n_disk_Disk_On [ptrV d] H fun v H' => Ext (diskC d) κ H κ H' ∧ DiskR κ H' d (onF D) := by
  obtain ⟨G, r, clk, V⟩ := R
  refine acall h_disk_Disk_On ir_disk_Disk_On rfl rfl (wpA_sound ?_)
  unfold ir_disk_Disk_On
  have qd := V.qd
  have st1 : storeV H 1 (.pointer (some ⟨d, 2, none⟩)) (.bool true) = some (H.set d (.own 0 [.int .i64 D.room, .map (some r), .bool true, .int .i64 D.lives] 4)) := storeV_one_at qd rfl (by simp) (by simp)
  have st2 : storeV (H.set d (.own 0 [.int .i64 D.room, .map (some r), .bool true, .int .i64 D.lives] 4)) 1 (.pointer (some ⟨d, 3, none⟩)) (.int .i64 (D.lives + 1)) = some ((H.set d (.own 0 [.int .i64 D.room, .map (some r), .bool true, .int .i64 D.lives] 4)).set d (.own 0 [.int .i64 D.room, .map (some r), .bool true, .int .i64 (D.lives + 1)] 4)) := storeV_one_at (Heap.set_self _ _ _) rfl (by simp) (by simp)
  have c3 : hcell (H.set d (.own 0 [.int .i64 D.room, .map (some r), .bool true, .int .i64 D.lives] 4)) ⟨d, 3, none⟩ = some (.int .i64 D.lives) := by rw [hcell_at (Heap.set_self _ _ _) (by simp)]; rfl
  have w : IntKind.i64.wrap (D.lives + 1) = D.lives + 1 := wrapI (by omega) (by omega)
  simp -implicitDefEqProofs only [zB1,zB2,zB3,zB4,zB5,zB6,zB7,zB8,zB9,zB10,zB11,y00,y01,y02,y03,y04,y05,y06,y07,y08,y09,y0a,y0b,y0c,y0d,y0e,y0f,y0g,y0h,y0i,y0j,y0k,y0l,y0m,y0n,y0o,y0p,y0q,y0r,y0s,y0t,y0u,y0v,y0w,y0x,y0y,y0z,y10,y11,y12,y13,y14,y15,y16,y17,y18,y19,y1a,y1b,y1c,y1d,y1e,y1f,y1g,y1h,y1i,y1j,y1k,y1l,y1m,y1n,y1o,y1p,y1q,y1r,retO,retL,retV,z6i,allV,allP,z6j,z6m,z6n,z6t,z6u,z6v,binV,eqV,unV,oOpt,reduceIte,reduceCtorEq,Nat.reduceEqDiff,Nat.reduceAdd,Nat.reduceMul,Nat.reduceLT,Nat.reduceSub,Int.reduceLT,Int.reduceLE,Int.reduceEq,Int.reduceNe,Int.reduceSub,Int.reduceAdd,Int.reduceMul,Int.reduceBEq,Int.reduceBNe,Int.reduceGT,Int.reduceGE,Nat.reduceGT,Int.reduceToNat,Int.reduceNeg,Nat.reduceLeDiff,Nat.reduceBEq,Nat.reduceBneDiff,Value.cells, st1, c3, w, st2]
  exact ⟨ext_d (Ext.set V.kd _), G, r, clk, V.set_d true (D.lives + 1)⟩
theorem disk_Sync_c (E : EnvT tab) {κ : Pal} {H : Heap} {d : Nat} {D : DiskF} (R : DiskR κ H d D) (ok : D.ok) (s : List UInt8) (hs : s.length ≤ 9000000000000000000) :
    ACallN E.toEnv n_disk_Disk_Sync [ptrV d, strV s] H fun v H' => v = .int .i64 ((syncF D s).2 : Nat) ∧ ∃ κ', Ext (diskC d) κ H κ' H' ∧ DiskR κ' H' d (syncF D s).1 := by
  obtain ⟨G, r, clk, V⟩ := R
  refine acall h_disk_Disk_Sync ir_disk_Disk_Sync rfl rfl (wpA_sound ?_)
  unfold ir_disk_Disk_Sync
  simp -implicitDefEqProofs only [zB1,zB2,zB3,zB4,zB5,zB6,zB7,zB8,zB9,zB10,zB11,y00,y01,y02,y03,y04,y05,y06,y07,y08,y09,y0a,y0b,y0c,y0d,y0e,y0f,y0g,y0h,y0i,y0j,y0k,y0l,y0m,y0n,y0o,y0p,y0q,y0r,y0s,y0t,y0u,y0v,y0w,y0x,y0y,y0z,y10,y11,y12,y13,y14,y15,y16,y17,y18,y19,y1a,y1b,y1c,y1d,y1e,y1f,y1g,y1h,y1i,y1j,y1k,y1l,y1m,y1n,y1o,y1p,y1q,y1r,retO,retL,retV,z6i,allV,allP,z6j,z6m,z6n,z6t,z6u,z6v,binV,eqV,unV,oOpt,reduceIte,reduceCtorEq,Nat.reduceEqDiff,Nat.reduceAdd,Nat.reduceMul,Nat.reduceLT,Nat.reduceSub,Int.reduceLT,Int.reduceLE,Int.reduceEq,Int.reduceNe,Int.reduceSub,Int.reduceAdd,Int.reduceMul,Int.reduceBEq,Int.reduceBNe,Int.reduceGT,Int.reduceGE,Nat.reduceGT,Int.reduceToNat,Int.reduceNeg,Nat.reduceLeDiff,Nat.reduceBEq,Nat.reduceBneDiff,Value.cells]
  refine (disk_find_c E V s hs).mono ?_
  rintro v H1 ⟨le1, h⟩
  unfold syncF
  rw [V.files]
  have V1 := V.le le1
  rcases h with ⟨e, rfl⟩ | ⟨e, l, rfl⟩ | ⟨e, A, g, B, rfl, l, hg, rfl⟩
  · rw [if_neg e]
    have e' : (((askF D [s] : Nat) : Int) == 0) = false := by simpa using e
    have e'' : ¬ ((askF D [s] : Nat) : Int) = 0 := by omega
    simp -implicitDefEqProofs only [zB1,zB2,zB3,zB4,zB5,zB6,zB7,zB8,zB9,zB10,zB11,y00,y01,y02,y03,y04,y05,y06,y07,y08,y09,y0a,y0b,y0c,y0d,y0e,y0f,y0g,y0h,y0i,y0j,y0k,y0l,y0m,y0n,y0o,y0p,y0q,y0r,y0s,y0t,y0u,y0v,y0w,y0x,y0y,y0z,y10,y11,y12,y13,y14,y15,y16,y17,y18,y19,y1a,y1b,y1c,y1d,y1e,y1f,y1g,y1h,y1i,y1j,y1k,y1l,y1m,y1n,y1o,y1p,y1q,y1r,retO,retL,retV,z6i,allV,allP,z6j,z6m,z6n,z6t,z6u,z6v,binV,eqV,unV,oOpt,reduceIte,reduceCtorEq,Nat.reduceEqDiff,Nat.reduceAdd,Nat.reduceMul,Nat.reduceLT,Nat.reduceSub,Int.reduceLT,Int.reduceLE,Int.reduceEq,Int.reduceNe,Int.reduceSub,Int.reduceAdd,Int.reduceMul,Int.reduceBEq,Int.reduceBNe,Int.reduceGT,Int.reduceGE,Nat.reduceGT,Int.reduceToNat,Int.reduceNeg,Nat.reduceLeDiff,Nat.reduceBEq,Nat.reduceBneDiff,Value.cells, e', e'']
    exact ⟨κ, Ext.le le1, G, r, clk, V1⟩
  · rw [if_pos e, look_lack l]
    simp -implicitDefEqProofs only [zB1,zB2,zB3,zB4,zB5,zB6,zB7,zB8,zB9,zB10,zB11,y00,y01,y02,y03,y04,y05,y06,y07,y08,y09,y0a,y0b,y0c,y0d,y0e,y0f,y0g,y0h,y0i,y0j,y0k,y0l,y0m,y0n,y0o,y0p,y0q,y0r,y0s,y0t,y0u,y0v,y0w,y0x,y0y,y0z,y10,y11,y12,y13,y14,y15,y16,y17,y18,y19,y1a,y1b,y1c,y1d,y1e,y1f,y1g,y1h,y1i,y1j,y1k,y1l,y1m,y1n,y1o,y1p,y1q,y1r,retO,retL,retV,z6i,allV,allP,z6j,z6m,z6n,z6t,z6u,z6v,binV,eqV,unV,oOpt,reduceIte,reduceCtorEq,Nat.reduceEqDiff,Nat.reduceAdd,Nat.reduceMul,Nat.reduceLT,Nat.reduceSub,Int.reduceLT,Int.reduceLE,Int.reduceEq,Int.reduceNe,Int.reduceSub,Int.reduceAdd,Int.reduceMul,Int.reduceBEq,Int.reduceBNe,Int.reduceGT,Int.reduceGE,Nat.reduceGT,Int.reduceToNat,Int.reduceNeg,Nat.reduceLeDiff,Nat.reduceBEq,Nat.reduceBneDiff,Value.cells]
    exact ⟨κ, Ext.le le1, G, r, clk, V1⟩
  · rw [if_pos e, look_some l hg]
    simp -implicitDefEqProofs only [zB1,zB2,zB3,zB4,zB5,zB6,zB7,zB8,zB9,zB10,zB11,y00,y01,y02,y03,y04,y05,y06,y07,y08,y09,y0a,y0b,y0c,y0d,y0e,y0f,y0g,y0h,y0i,y0j,y0k,y0l,y0m,y0n,y0o,y0p,y0q,y0r,y0s,y0t,y0u,y0v,y0w,y0x,y0y,y0z,y10,y11,y12,y13,y14,y15,y16,y17,y18,y19,y1a,y1b,y1c,y1d,y1e,y1f,y1g,y1h,y1i,y1j,y1k,y1l,y1m,y1n,y1o,y1p,y1q,y1r,retO,retL,retV,z6i,allV,allP,z6j,z6m,z6n,z6t,z6u,z6v,binV,eqV,unV,oOpt,reduceIte,reduceCtorEq,Nat.reduceEqDiff,Nat.reduceAdd,Nat.reduceMul,Nat.reduceLT,Nat.reduceSub,Int.reduceLT,Int.reduceLE,Int.reduceEq,Int.reduceNe,Int.reduceSub,Int.reduceAdd,Int.reduceMul,Int.reduceBEq,Int.reduceBNe,Int.reduceGT,Int.reduceGE,Nat.reduceGT,Int.reduceToNat,Int.reduceNeg,Nat.reduceLeDiff,Nat.reduceBEq,Nat.reduceBneDiff,Value.cells, beq_self_eq_true]
    have hm : g ∈ A ++ g :: B := by simp
    have okg : g.F.ok := (ok.1 (g.name, g.F) (by rw [V.files]; exact List.mem_map_of_mem hm)).1
    refine (file_sync_c E (V1.R g hm) okg).mono ?_
    rintro v H2 ⟨κ', e2, R2⟩
    simp -implicitDefEqProofs only [zB1,zB2,zB3,zB4,zB5,zB6,zB7,zB8,zB9,zB10,zB11,y00,y01,y02,y03,y04,y05,y06,y07,y08,y09,y0a,y0b,y0c,y0d,y0e,y0f,y0g,y0h,y0i,y0j,y0k,y0l,y0m,y0n,y0o,y0p,y0q,y0r,y0s,y0t,y0u,y0v,y0w,y0x,y0y,y0z,y10,y11,y12,y13,y14,y15,y16,y17,y18,y19,y1a,y1b,y1c,y1d,y1e,y1f,y1g,y1h,y1i,y1j,y1k,y1l,y1m,y1n,y1o,y1p,y1q,y1r,retO,retL,retV,z6i,allV,allP,z6j,z6m,z6n,z6t,z6u,z6v,binV,eqV,unV,oOpt,reduceIte,reduceCtorEq,Nat.reduceEqDiff,Nat.reduceAdd,Nat.reduceMul,Nat.reduceLT,Nat.reduceSub,Int.reduceLT,Int.reduceLE,Int.reduceEq,Int.reduceNe,Int.reduceSub,Int.reduceAdd,Int.reduceMul,Int.reduceBEq,Int.reduceBNe,Int.reduceGT,Int.reduceGE,Nat.reduceGT,Int.reduceToNat,Int.reduceNeg,Nat.reduceLeDiff,Nat.reduceBEq,Nat.reduceBneDiff,Value.cells]
    rw [turn_eq hg V.nn]
    exact ⟨κ', (Ext.le le1).trans (ext_f e2), _, r, clk, V1.file e2 R2⟩
theorem disk_Drop_c (E : EnvT tab) {κ : Pal} {H : Heap} {d : Nat} {D : DiskF} (R : DiskR κ H d D) (s : List UInt8) (hs : s.length ≤ 9000000000000000000) :
    ACallN E.toEnv n_disk_Disk_Drop [ptrV d, strV s] H fun v H' => v = .int .i64 ((dropF D s).2 : Nat) ∧ ∃ κ', Ext (diskC d) κ H κ' H' ∧ DiskR κ' H' d (dropF D s).1 := by
  obtain ⟨G, r, clk, V⟩ := R
  refine acall h_disk_Disk_Drop ir_disk_Disk_Drop rfl rfl (wpA_sound ?_)
  unfold ir_disk_Disk_Drop
  simp -implicitDefEqProofs only [zB1,zB2,zB3,zB4,zB5,zB6,zB7,zB8,zB9,zB10,zB11,y00,y01,y02,y03,y04,y05,y06,y07,y08,y09,y0a,y0b,y0c,y0d,y0e,y0f,y0g,y0h,y0i,y0j,y0k,y0l,y0m,y0n,y0o,y0p,y0q,y0r,y0s,y0t,y0u,y0v,y0w,y0x,y0y,y0z,y10,y11,y12,y13,y14,y15,y16,y17,y18,y19,y1a,y1b,y1c,y1d,y1e,y1f,y1g,y1h,y1i,y1j,y1k,y1l,y1m,y1n,y1o,y1p,y1q,y1r,retO,retL,retV,z6i,allV,allP,z6j,z6m,z6n,z6t,z6u,z6v,binV,eqV,unV,oOpt,reduceIte,reduceCtorEq,Nat.reduceEqDiff,Nat.reduceAdd,Nat.reduceMul,Nat.reduceLT,Nat.reduceSub,Int.reduceLT,Int.reduceLE,Int.reduceEq,Int.reduceNe,Int.reduceSub,Int.reduceAdd,Int.reduceMul,Int.reduceBEq,Int.reduceBNe,Int.reduceGT,Int.reduceGE,Nat.reduceGT,Int.reduceToNat,Int.reduceNeg,Nat.reduceLeDiff,Nat.reduceBEq,Nat.reduceBneDiff,Value.cells]
  refine (disk_find_c E V s hs).mono ?_
  rintro v H1 ⟨le1, h⟩
  unfold dropF
  rw [V.files]
  have V1 := V.le le1
  rcases h with ⟨e, rfl⟩ | ⟨e, l, rfl⟩ | ⟨e, A, g, B, rfl, l, hg, rfl⟩
  · rw [if_neg e]
    have e' : (((askF D [s] : Nat) : Int) == 0) = false := by simpa using e
    have e'' : ¬ ((askF D [s] : Nat) : Int) = 0 := by omega
    simp -implicitDefEqProofs only [zB1,zB2,zB3,zB4,zB5,zB6,zB7,zB8,zB9,zB10,zB11,y00,y01,y02,y03,y04,y05,y06,y07,y08,y09,y0a,y0b,y0c,y0d,y0e,y0f,y0g,y0h,y0i,y0j,y0k,y0l,y0m,y0n,y0o,y0p,y0q,y0r,y0s,y0t,y0u,y0v,y0w,y0x,y0y,y0z,y10,y11,y12,y13,y14,y15,y16,y17,y18,y19,y1a,y1b,y1c,y1d,y1e,y1f,y1g,y1h,y1i,y1j,y1k,y1l,y1m,y1n,y1o,y1p,y1q,y1r,retO,retL,retV,z6i,allV,allP,z6j,z6m,z6n,z6t,z6u,z6v,binV,eqV,unV,oOpt,reduceIte,reduceCtorEq,Nat.reduceEqDiff,Nat.reduceAdd,Nat.reduceMul,Nat.reduceLT,Nat.reduceSub,Int.reduceLT,Int.reduceLE,Int.reduceEq,Int.reduceNe,Int.reduceSub,Int.reduceAdd,Int.reduceMul,Int.reduceBEq,Int.reduceBNe,Int.reduceGT,Int.reduceGE,Nat.reduceGT,Int.reduceToNat,Int.reduceNeg,Nat.reduceLeDiff,Nat.reduceBEq,Nat.reduceBneDiff,Value.cells, e', e'']
    exact ⟨κ, Ext.le le1, G, r, clk, V1⟩
  · rw [if_pos e, look_lack l]
    simp -implicitDefEqProofs only [zB1,zB2,zB3,zB4,zB5,zB6,zB7,zB8,zB9,zB10,zB11,y00,y01,y02,y03,y04,y05,y06,y07,y08,y09,y0a,y0b,y0c,y0d,y0e,y0f,y0g,y0h,y0i,y0j,y0k,y0l,y0m,y0n,y0o,y0p,y0q,y0r,y0s,y0t,y0u,y0v,y0w,y0x,y0y,y0z,y10,y11,y12,y13,y14,y15,y16,y17,y18,y19,y1a,y1b,y1c,y1d,y1e,y1f,y1g,y1h,y1i,y1j,y1k,y1l,y1m,y1n,y1o,y1p,y1q,y1r,retO,retL,retV,z6i,allV,allP,z6j,z6m,z6n,z6t,z6u,z6v,binV,eqV,unV,oOpt,reduceIte,reduceCtorEq,Nat.reduceEqDiff,Nat.reduceAdd,Nat.reduceMul,Nat.reduceLT,Nat.reduceSub,Int.reduceLT,Int.reduceLE,Int.reduceEq,Int.reduceNe,Int.reduceSub,Int.reduceAdd,Int.reduceMul,Int.reduceBEq,Int.reduceBNe,Int.reduceGT,Int.reduceGE,Nat.reduceGT,Int.reduceToNat,Int.reduceNeg,Nat.reduceLeDiff,Nat.reduceBEq,Nat.reduceBneDiff,Value.cells]
    exact ⟨κ, Ext.le le1, G, r, clk, V1⟩
  · rw [if_pos e, look_some l hg]
    have c1 : hcell H1 ⟨d, 1, none⟩ = some (.map (some r)) := by rw [hcell_at V1.qd (by simp)]; rfl
    have md := mdel_eq V1.qr l hg
    simp -implicitDefEqProofs only [zB1,zB2,zB3,zB4,zB5,zB6,zB7,zB8,zB9,zB10,zB11,y00,y01,y02,y03,y04,y05,y06,y07,y08,y09,y0a,y0b,y0c,y0d,y0e,y0f,y0g,y0h,y0i,y0j,y0k,y0l,y0m,y0n,y0o,y0p,y0q,y0r,y0s,y0t,y0u,y0v,y0w,y0x,y0y,y0z,y10,y11,y12,y13,y14,y15,y16,y17,y18,y19,y1a,y1b,y1c,y1d,y1e,y1f,y1g,y1h,y1i,y1j,y1k,y1l,y1m,y1n,y1o,y1p,y1q,y1r,retO,retL,retV,z6i,allV,allP,z6j,z6m,z6n,z6t,z6u,z6v,binV,eqV,unV,oOpt,reduceIte,reduceCtorEq,Nat.reduceEqDiff,Nat.reduceAdd,Nat.reduceMul,Nat.reduceLT,Nat.reduceSub,Int.reduceLT,Int.reduceLE,Int.reduceEq,Int.reduceNe,Int.reduceSub,Int.reduceAdd,Int.reduceMul,Int.reduceBEq,Int.reduceBNe,Int.reduceGT,Int.reduceGE,Nat.reduceGT,Int.reduceToNat,Int.reduceNeg,Nat.reduceLeDiff,Nat.reduceBEq,Nat.reduceBneDiff,Value.cells, beq_self_eq_true, c1, md]
    rw [del_eq hg V.nn]
    exact ⟨κ, (Ext.le le1).trans (ext_d (Ext.set V1.kr _)), _, r, clk, V1.set_r (A ++ B) clk (sub_nodup _ V.nf) (sub_nodup _ V.nn) (sub_nodup _ V.nb) (fun g hg => V.lb g (sub_mem hg)) (fun g hg => V1.R g (sub_mem hg))⟩
theorem disk_Rename_c (E : EnvT tab) {κ : Pal} {H : Heap} {d : Nat} {D : DiskF} (R : DiskR κ H d D) (s t : List UInt8) (hs : s.length ≤ 9000000000000000000) (ht : t.length ≤ 9000000000000000000) :
    ACallN E.toEnv n_disk_Disk_Rename [ptrV d, strV s, strV t] H fun v H' => v = .int .i64 ((renameF D s t).2 : Nat) ∧ ∃ κ', Ext (diskC d) κ H κ' H' ∧ DiskR κ' H' d (renameF D s t).1 := by
  obtain ⟨G, r, clk, V⟩ := R
  refine acall h_disk_Disk_Rename ir_disk_Disk_Rename rfl rfl (wpA_sound ?_)
  unfold ir_disk_Disk_Rename
  simp -implicitDefEqProofs only [zB1,zB2,zB3,zB4,zB5,zB6,zB7,zB8,zB9,zB10,zB11,y00,y01,y02,y03,y04,y05,y06,y07,y08,y09,y0a,y0b,y0c,y0d,y0e,y0f,y0g,y0h,y0i,y0j,y0k,y0l,y0m,y0n,y0o,y0p,y0q,y0r,y0s,y0t,y0u,y0v,y0w,y0x,y0y,y0z,y10,y11,y12,y13,y14,y15,y16,y17,y18,y19,y1a,y1b,y1c,y1d,y1e,y1f,y1g,y1h,y1i,y1j,y1k,y1l,y1m,y1n,y1o,y1p,y1q,y1r,retO,retL,retV,z6i,allV,allP,z6j,z6m,z6n,z6t,z6u,z6v,binV,eqV,unV,oOpt,reduceIte,reduceCtorEq,Nat.reduceEqDiff,Nat.reduceAdd,Nat.reduceMul,Nat.reduceLT,Nat.reduceSub,Int.reduceLT,Int.reduceLE,Int.reduceEq,Int.reduceNe,Int.reduceSub,Int.reduceAdd,Int.reduceMul,Int.reduceBEq,Int.reduceBNe,Int.reduceGT,Int.reduceGE,Nat.reduceGT,Int.reduceToNat,Int.reduceNeg,Nat.reduceLeDiff,Nat.reduceBEq,Nat.reduceBneDiff,Value.cells]
  intro b11 hb11
  try simp -implicitDefEqProofs only [zB1,zB2,zB3,zB4,zB5,zB6,zB7,zB8,zB9,zB10,zB11,y00,y01,y02,y03,y04,y05,y06,y07,y08,y09,y0a,y0b,y0c,y0d,y0e,y0f,y0g,y0h,y0i,y0j,y0k,y0l,y0m,y0n,y0o,y0p,y0q,y0r,y0s,y0t,y0u,y0v,y0w,y0x,y0y,y0z,y10,y11,y12,y13,y14,y15,y16,y17,y18,y19,y1a,y1b,y1c,y1d,y1e,y1f,y1g,y1h,y1i,y1j,y1k,y1l,y1m,y1n,y1o,y1p,y1q,y1r,retO,retL,retV,z6i,allV,allP,z6j,z6m,z6n,z6t,z6u,z6v,binV,eqV,unV,oOpt,reduceIte,reduceCtorEq,Nat.reduceEqDiff,Nat.reduceAdd,Nat.reduceMul,Nat.reduceLT,Nat.reduceSub,Int.reduceLT,Int.reduceLE,Int.reduceEq,Int.reduceNe,Int.reduceSub,Int.reduceAdd,Int.reduceMul,Int.reduceBEq,Int.reduceBNe,Int.reduceGT,Int.reduceGE,Nat.reduceGT,Int.reduceToNat,Int.reduceNeg,Nat.reduceLeDiff,Nat.reduceBEq,Nat.reduceBneDiff,Value.cells]
  have le1 := Heap.le_set (Heap.le_refl H) hb11 (.own 0 [strV s, strV t] 2)
  have sn : Sl (H.set b11 (.own 0 [strV s, strV t] 2)) 1 (.slice (some ⟨b11, 0, none⟩) 2 2) 2 [strV s, strV t] := Sl.lit rfl
  refine (disk_ask_c E ⟨G, r, clk, V.le le1⟩ [s, t] (by simp) (by simpa using ⟨hs, ht⟩) sn).mono ?_
  rintro v H1 ⟨rfl, rfl⟩
  generalize (H.set b11 (.own 0 [strV s, strV t] 2)) = H1 at le1
  have V1 := V.le le1
  unfold renameF
  by_cases e : askF D [s, t] = 0
  · rw [if_pos e]
    have e2 : ((askF D [s, t] : Nat) : Int) = 0 := by omega
    have e1 : askF D [s] = 0 := by
      unfold askF at e ⊢
      by_cases on : D.on = true
      · rw [if_pos on] at e ⊢
        by_cases g : [s, t].all goodName = true
        · have : [s].all goodName = true := by simp at g ⊢; exact g.1
          rw [this]; rfl
        · rw [if_neg g] at e; cases e
      · rw [if_neg on] at e; cases e
    simp -implicitDefEqProofs only [zB1,zB2,zB3,zB4,zB5,zB6,zB7,zB8,zB9,zB10,zB11,y00,y01,y02,y03,y04,y05,y06,y07,y08,y09,y0a,y0b,y0c,y0d,y0e,y0f,y0g,y0h,y0i,y0j,y0k,y0l,y0m,y0n,y0o,y0p,y0q,y0r,y0s,y0t,y0u,y0v,y0w,y0x,y0y,y0z,y10,y11,y12,y13,y14,y15,y16,y17,y18,y19,y1a,y1b,y1c,y1d,y1e,y1f,y1g,y1h,y1i,y1j,y1k,y1l,y1m,y1n,y1o,y1p,y1q,y1r,retO,retL,retV,z6i,allV,allP,z6j,z6m,z6n,z6t,z6u,z6v,binV,eqV,unV,oOpt,reduceIte,reduceCtorEq,Nat.reduceEqDiff,Nat.reduceAdd,Nat.reduceMul,Nat.reduceLT,Nat.reduceSub,Int.reduceLT,Int.reduceLE,Int.reduceEq,Int.reduceNe,Int.reduceSub,Int.reduceAdd,Int.reduceMul,Int.reduceBEq,Int.reduceBNe,Int.reduceGT,Int.reduceGE,Nat.reduceGT,Int.reduceToNat,Int.reduceNeg,Nat.reduceLeDiff,Nat.reduceBEq,Nat.reduceBneDiff,Value.cells, e2]
    unfold ir_disk_Disk_Rename_19
    simp -implicitDefEqProofs only [zB1,zB2,zB3,zB4,zB5,zB6,zB7,zB8,zB9,zB10,zB11,y00,y01,y02,y03,y04,y05,y06,y07,y08,y09,y0a,y0b,y0c,y0d,y0e,y0f,y0g,y0h,y0i,y0j,y0k,y0l,y0m,y0n,y0o,y0p,y0q,y0r,y0s,y0t,y0u,y0v,y0w,y0x,y0y,y0z,y10,y11,y12,y13,y14,y15,y16,y17,y18,y19,y1a,y1b,y1c,y1d,y1e,y1f,y1g,y1h,y1i,y1j,y1k,y1l,y1m,y1n,y1o,y1p,y1q,y1r,retO,retL,retV,z6i,allV,allP,z6j,z6m,z6n,z6t,z6u,z6v,binV,eqV,unV,oOpt,reduceIte,reduceCtorEq,Nat.reduceEqDiff,Nat.reduceAdd,Nat.reduceMul,Nat.reduceLT,Nat.reduceSub,Int.reduceLT,Int.reduceLE,Int.reduceEq,Int.reduceNe,Int.reduceSub,Int.reduceAdd,Int.reduceMul,Int.reduceBEq,Int.reduceBNe,Int.reduceGT,Int.reduceGE,Nat.reduceGT,Int.reduceToNat,Int.reduceNeg,Nat.reduceLeDiff,Nat.reduceBEq,Nat.reduceBneDiff,Value.cells]
    refine (disk_find_c E V1 s hs).mono ?_
    rintro v H2 ⟨le2, h⟩
    have V2 := V1.le le2
    have le02 := Heap.le_trans le1 le2
    rw [V.files]
    rcases h with ⟨e, rfl⟩ | ⟨e, l, rfl⟩ | ⟨e, A, g, B, rfl, l, hg, rfl⟩
    · exact absurd e1 e
    · rw [look_lack l]
      simp -implicitDefEqProofs only [zB1,zB2,zB3,zB4,zB5,zB6,zB7,zB8,zB9,zB10,zB11,y00,y01,y02,y03,y04,y05,y06,y07,y08,y09,y0a,y0b,y0c,y0d,y0e,y0f,y0g,y0h,y0i,y0j,y0k,y0l,y0m,y0n,y0o,y0p,y0q,y0r,y0s,y0t,y0u,y0v,y0w,y0x,y0y,y0z,y10,y11,y12,y13,y14,y15,y16,y17,y18,y19,y1a,y1b,y1c,y1d,y1e,y1f,y1g,y1h,y1i,y1j,y1k,y1l,y1m,y1n,y1o,y1p,y1q,y1r,retO,retL,retV,z6i,allV,allP,z6j,z6m,z6n,z6t,z6u,z6v,binV,eqV,unV,oOpt,reduceIte,reduceCtorEq,Nat.reduceEqDiff,Nat.reduceAdd,Nat.reduceMul,Nat.reduceLT,Nat.reduceSub,Int.reduceLT,Int.reduceLE,Int.reduceEq,Int.reduceNe,Int.reduceSub,Int.reduceAdd,Int.reduceMul,Int.reduceBEq,Int.reduceBNe,Int.reduceGT,Int.reduceGE,Nat.reduceGT,Int.reduceToNat,Int.reduceNeg,Nat.reduceLeDiff,Nat.reduceBEq,Nat.reduceBneDiff,Value.cells]
      exact ⟨κ, Ext.le le02, G, r, clk, V2⟩
    · rw [look_some l hg]
      have c1 : hcell H2 ⟨d, 1, none⟩ = some (.map (some r)) := by rw [hcell_at V2.qd (by simp)]; rfl
      have md := mdel_eq V2.qr l hg
      have V3 := V2.set_r (A ++ B) clk (sub_nodup _ V.nf) (sub_nodup _ V.nn) (sub_nodup _ V.nb) (fun g hg => V.lb g (sub_mem hg)) (fun g hg => V2.R g (sub_mem hg))
      have e3 : Ext (diskC d) κ H κ (H2.set r (.obj (.map ((A ++ B).map GFile.e).toArray clk))) := (Ext.le le02).trans (ext_d (Ext.set V2.kr _))
      have Rg : FileR κ (H2.set r (.obj (.map ((A ++ B).map GFile.e).toArray clk))) d g.f g.F := (V2.R g (by simp)).ext (Ext.set (H := H2) V2.kr (.obj (.map ((A ++ B).map GFile.e).toArray clk))) fun r hr q => by simp at q; omega
      simp -implicitDefEqProofs only [zB1,zB2,zB3,zB4,zB5,zB6,zB7,zB8,zB9,zB10,zB11,y00,y01,y02,y03,y04,y05,y06,y07,y08,y09,y0a,y0b,y0c,y0d,y0e,y0f,y0g,y0h,y0i,y0j,y0k,y0l,y0m,y0n,y0o,y0p,y0q,y0r,y0s,y0t,y0u,y0v,y0w,y0x,y0y,y0z,y10,y11,y12,y13,y14,y15,y16,y17,y18,y19,y1a,y1b,y1c,y1d,y1e,y1f,y1g,y1h,y1i,y1j,y1k,y1l,y1m,y1n,y1o,y1p,y1q,y1r,retO,retL,retV,z6i,allV,allP,z6j,z6m,z6n,z6t,z6u,z6v,binV,eqV,unV,oOpt,reduceIte,reduceCtorEq,Nat.reduceEqDiff,Nat.reduceAdd,Nat.reduceMul,Nat.reduceLT,Nat.reduceSub,Int.reduceLT,Int.reduceLE,Int.reduceEq,Int.reduceNe,Int.reduceSub,Int.reduceAdd,Int.reduceMul,Int.reduceBEq,Int.reduceBNe,Int.reduceGT,Int.reduceGE,Nat.reduceGT,Int.reduceToNat,Int.reduceNeg,Nat.reduceLeDiff,Nat.reduceBEq,Nat.reduceBneDiff,Value.cells, c1, md]
      rw [del_eq hg V.nn]
      generalize (H2.set r (.obj (.map ((A ++ B).map GFile.e).toArray clk))) = H3 at V3 e3 Rg ⊢
      have c3 : hcell H3 ⟨d, 1, none⟩ = some (.map (some r)) := by rw [hcell_at V3.qd (by simp)]; rfl
      have nfg := sub_new (·.f) V.nf
      have nbg := sub_new (·.born) V.nb
      unfold putFile
      rcases lack_or (A ++ B) t with lt | ⟨A2, g2, B2, hAB, lt, hg2⟩
      · have mu := mupd_new (f := g.f) g.F V3.qr lt
        rw [look_lack lt]
        simp -implicitDefEqProofs only [zB1,zB2,zB3,zB4,zB5,zB6,zB7,zB8,zB9,zB10,zB11,y00,y01,y02,y03,y04,y05,y06,y07,y08,y09,y0a,y0b,y0c,y0d,y0e,y0f,y0g,y0h,y0i,y0j,y0k,y0l,y0m,y0n,y0o,y0p,y0q,y0r,y0s,y0t,y0u,y0v,y0w,y0x,y0y,y0z,y10,y11,y12,y13,y14,y15,y16,y17,y18,y19,y1a,y1b,y1c,y1d,y1e,y1f,y1g,y1h,y1i,y1j,y1k,y1l,y1m,y1n,y1o,y1p,y1q,y1r,retO,retL,retV,z6i,allV,allP,z6j,z6m,z6n,z6t,z6u,z6v,binV,eqV,unV,oOpt,reduceIte,reduceCtorEq,Nat.reduceEqDiff,Nat.reduceAdd,Nat.reduceMul,Nat.reduceLT,Nat.reduceSub,Int.reduceLT,Int.reduceLE,Int.reduceEq,Int.reduceNe,Int.reduceSub,Int.reduceAdd,Int.reduceMul,Int.reduceBEq,Int.reduceBNe,Int.reduceGT,Int.reduceGE,Nat.reduceGT,Int.reduceToNat,Int.reduceNeg,Nat.reduceLeDiff,Nat.reduceBEq,Nat.reduceBneDiff,Value.cells, c3, mu, Option.isSome_none]
        have V4 := V3.set_r ((A ++ B) ++ [⟨t, g.f, clk, g.F⟩]) (clk + 1) (nodup_snoc _ (g := ⟨t, g.f, clk, g.F⟩) V3.nf nfg) (nodup_snoc _ (g := ⟨t, g.f, clk, g.F⟩) V3.nn lt) (nodup_snoc _ (g := ⟨t, g.f, clk, g.F⟩) V3.nb fun x hx => Nat.ne_of_lt (V3.lb x hx))
          (by
            intro x hx
            rcases List.mem_append.1 hx with hx | hx
            · exact Nat.lt_succ_of_lt (V3.lb x hx)
            · rw [List.mem_singleton] at hx; subst hx; exact Nat.lt_succ_self _)
          (by
            intro x hx
            rcases List.mem_append.1 hx with hx | hx
            · exact V3.R x hx
            · rw [List.mem_singleton] at hx; subst hx; exact Rg)
        have ef : nF ((A ++ B) ++ [⟨t, g.f, clk, g.F⟩]) = nF (A ++ B) ++ [(t, g.F)] := by simp [nF]
        simp only [ef] at V4
        exact ⟨κ, e3.trans (ext_d (Ext.set V3.kr _)), _, r, clk + 1, V4⟩
      · rw [hAB] at V3 nfg nbg ⊢
        have mu := mupd_old (f := g.f) g.F V3.qr lt hg2
        rw [look_some lt hg2]
        simp -implicitDefEqProofs only [zB1,zB2,zB3,zB4,zB5,zB6,zB7,zB8,zB9,zB10,zB11,y00,y01,y02,y03,y04,y05,y06,y07,y08,y09,y0a,y0b,y0c,y0d,y0e,y0f,y0g,y0h,y0i,y0j,y0k,y0l,y0m,y0n,y0o,y0p,y0q,y0r,y0s,y0t,y0u,y0v,y0w,y0x,y0y,y0z,y10,y11,y12,y13,y14,y15,y16,y17,y18,y19,y1a,y1b,y1c,y1d,y1e,y1f,y1g,y1h,y1i,y1j,y1k,y1l,y1m,y1n,y1o,y1p,y1q,y1r,retO,retL,retV,z6i,allV,allP,z6j,z6m,z6n,z6t,z6u,z6v,binV,eqV,unV,oOpt,reduceIte,reduceCtorEq,Nat.reduceEqDiff,Nat.reduceAdd,Nat.reduceMul,Nat.reduceLT,Nat.reduceSub,Int.reduceLT,Int.reduceLE,Int.reduceEq,Int.reduceNe,Int.reduceSub,Int.reduceAdd,Int.reduceMul,Int.reduceBEq,Int.reduceBNe,Int.reduceGT,Int.reduceGE,Nat.reduceGT,Int.reduceToNat,Int.reduceNeg,Nat.reduceLeDiff,Nat.reduceBEq,Nat.reduceBneDiff,Value.cells, c3, mu, Option.isSome_some]
        have g2m : g2 ∈ A2 ++ g2 :: B2 := by simp
        have V4 := V3.set_r (A2 ++ ⟨t, g.f, g2.born, g.F⟩ :: B2) clk
          (by
            have h1 := sub_nodup _ V3.nf
            have : ((A2 ++ (⟨t, g.f, g2.born, g.F⟩ : GFile) :: B2).map (·.f)).Perm (g.f :: (A2 ++ B2).map (·.f)) := by
              simp only [List.map_append, List.map_cons]; exact List.perm_middle
            rw [this.nodup_iff, List.nodup_cons]
            refine ⟨fun hh => ?_, h1⟩
            obtain ⟨x, hx, ex⟩ := List.mem_map.1 hh
            exact nfg x (sub_mem hx) ex)
          (by
            have h1 := V3.nn
            simp only [List.map_append, List.map_cons] at h1 ⊢
            rw [hg2] at h1; exact h1)
          (by
            have h1 := V3.nb
            simp only [List.map_append, List.map_cons] at h1 ⊢
            exact h1)
          (by
            intro x hx
            rcases List.mem_append.1 hx with hx | hx
            · exact V3.lb x (by simp [hx])
            · rcases List.mem_cons.1 hx with rfl | hx
              · exact V3.lb g2 g2m
              · exact V3.lb x (by simp [hx]))
          (by
            intro x hx
            rcases List.mem_append.1 hx with hx | hx
            · exact V3.R x (by simp [hx])
            · rcases List.mem_cons.1 hx with rfl | hx
              · exact Rg
              · exact V3.R x (by simp [hx]))
        have ef : nF (A2 ++ (⟨t, g.f, g2.born, g.F⟩ : GFile) :: B2) = turnF' (nF (A2 ++ g2 :: B2)) t g.F := by
          rw [turn_eq hg2 V3.nn]; simp [nF, hg2]
        rw [ef] at V4
        exact ⟨κ, e3.trans (ext_d (Ext.set V3.kr _)), _, r, clk, V4⟩
  · rw [if_neg e]
    have e2 : ¬ ((askF D [s, t] : Nat) : Int) = 0 := by omega
    simp -implicitDefEqProofs only [zB1,zB2,zB3,zB4,zB5,zB6,zB7,zB8,zB9,zB10,zB11,y00,y01,y02,y03,y04,y05,y06,y07,y08,y09,y0a,y0b,y0c,y0d,y0e,y0f,y0g,y0h,y0i,y0j,y0k,y0l,y0m,y0n,y0o,y0p,y0q,y0r,y0s,y0t,y0u,y0v,y0w,y0x,y0y,y0z,y10,y11,y12,y13,y14,y15,y16,y17,y18,y19,y1a,y1b,y1c,y1d,y1e,y1f,y1g,y1h,y1i,y1j,y1k,y1l,y1m,y1n,y1o,y1p,y1q,y1r,retO,retL,retV,z6i,allV,allP,z6j,z6m,z6n,z6t,z6u,z6v,binV,eqV,unV,oOpt,reduceIte,reduceCtorEq,Nat.reduceEqDiff,Nat.reduceAdd,Nat.reduceMul,Nat.reduceLT,Nat.reduceSub,Int.reduceLT,Int.reduceLE,Int.reduceEq,Int.reduceNe,Int.reduceSub,Int.reduceAdd,Int.reduceMul,Int.reduceBEq,Int.reduceBNe,Int.reduceGT,Int.reduceGE,Nat.reduceGT,Int.reduceToNat,Int.reduceNeg,Nat.reduceLeDiff,Nat.reduceBEq,Nat.reduceBneDiff,Value.cells, e2]
    exact ⟨κ, Ext.le le1, ⟨G, r, clk, V1⟩⟩
end Go.Bb
/- Contracts: a disk that falls. -/
namespace Go.Bb
set_option linter.unusedSimpArgs false
set_option linter.unusedVariables false
set_option maxRecDepth 20000
set_option maxHeartbeats 2000000

theorem disk_Crash_c (E : EnvT tab) {κ : Pal} {H : Heap} {d : Nat} {D : DiskF} (R : DiskR κ H d D) (ok : D.ok) (keep : U64) (torn : Int) :
    ACallN E.toEnv n_disk_Disk_Crash [ptrV d, .int .u64 keep.toNat, .int .i64 torn] H fun v H' => ∃ κ', Ext (diskC d) κ H κ' H' ∧ DiskR κ' H' d (crashF D keep torn) := by
  obtain ⟨G, r, clk, V⟩ := R
  refine acall h_disk_Disk_Crash ir_disk_Disk_Crash rfl rfl (wpA_sound ?_)
  unfold ir_disk_Disk_Crash
  have c1 : hcell H ⟨d, 1, none⟩ = some (.map (some r)) := by rw [hcell_at V.qd (by simp)]; rfl
  have ma : mapAt H r = some ((G.map GFile.e).toArray, clk) := by simp [mapAt, V.qr]
  simp -implicitDefEqProofs only [zB1,zB2,zB3,zB4,zB5,zB6,zB7,zB8,zB9,zB10,zB11,y00,y01,y02,y03,y04,y05,y06,y07,y08,y09,y0a,y0b,y0c,y0d,y0e,y0f,y0g,y0h,y0i,y0j,y0k,y0l,y0m,y0n,y0o,y0p,y0q,y0r,y0s,y0t,y0u,y0v,y0w,y0x,y0y,y0z,y10,y11,y12,y13,y14,y15,y16,y17,y18,y19,y1a,y1b,y1c,y1d,y1e,y1f,y1g,y1h,y1i,y1j,y1k,y1l,y1m,y1n,y1o,y1p,y1q,y1r,retO,retL,retV,z6i,allV,allP,z6j,z6m,z6n,z6t,z6u,z6v,binV,eqV,unV,oOpt,reduceIte,reduceCtorEq,Nat.reduceEqDiff,Nat.reduceAdd,Nat.reduceMul,Nat.reduceLT,Nat.reduceSub,Int.reduceLT,Int.reduceLE,Int.reduceEq,Int.reduceNe,Int.reduceSub,Int.reduceAdd,Int.reduceMul,Int.reduceBEq,Int.reduceBNe,Int.reduceGT,Int.reduceGE,Nat.reduceGT,Int.reduceToNat,Int.reduceNeg,Nat.reduceLeDiff,Nat.reduceBEq,Nat.reduceBneDiff,Value.cells, c1]
  refine rangeP_map ma ?_
  intro b hb
  have e0 : Ext (fun _ => False) κ H (fun i => if i = b then some (d, d, 6) else κ i) (H.set b (.obj (.mapIter (some r) clk #[] clk))) := Ext.new hb _ _
  have kb : (fun i => if i = b then some (d, d, 6) else κ i) b = some (d, d, 6) := by simp
  have qb : (H.set b (.obj (.mapIter (some r) clk #[] clk))) b = some (.obj (.mapIter (some r) clk #[] clk)) := Heap.set_self _ _ _
  have V1 := V.ext e0 (fun _ _ q => q)
  simp -implicitDefEqProofs only [zB1,zB2,zB3,zB4,zB5,zB6,zB7,zB8,zB9,zB10,zB11,y00,y01,y02,y03,y04,y05,y06,y07,y08,y09,y0a,y0b,y0c,y0d,y0e,y0f,y0g,y0h,y0i,y0j,y0k,y0l,y0m,y0n,y0o,y0p,y0q,y0r,y0s,y0t,y0u,y0v,y0w,y0x,y0y,y0z,y10,y11,y12,y13,y14,y15,y16,y17,y18,y19,y1a,y1b,y1c,y1d,y1e,y1f,y1g,y1h,y1i,y1j,y1k,y1l,y1m,y1n,y1o,y1p,y1q,y1r,retO,retL,retV,z6i,allV,allP,z6j,z6m,z6n,z6t,z6u,z6v,binV,eqV,unV,oOpt,reduceIte,reduceCtorEq,Nat.reduceEqDiff,Nat.reduceAdd,Nat.reduceMul,Nat.reduceLT,Nat.reduceSub,Int.reduceLT,Int.reduceLE,Int.reduceEq,Int.reduceNe,Int.reduceSub,Int.reduceAdd,Int.reduceMul,Int.reduceBEq,Int.reduceBNe,Int.reduceGT,Int.reduceGE,Nat.reduceGT,Int.reduceToNat,Int.reduceNeg,Nat.reduceLeDiff,Nat.reduceBEq,Nat.reduceBneDiff,Value.cells]
  generalize (H.set b (.obj (.mapIter (some r) clk #[] clk))) = H1 at e0 qb V1 ⊢
  generalize (fun i => if i = b then some (d, d, 6) else κ i) = κ1 at e0 kb V1
  refine wp_loop' (fun m t K => ∃ (done rest : List GFile) (κ' : Pal), (done ++ rest).Perm G ∧ t = tl [(0, ptrV d), (1, .int .u64 keep.toNat), (2, .int .i64 torn), (12, ptrV b)] ∧ m = rest.length ∧ Ext (fun c => c.1 = d ∧ ¬ (c.2.2 = 4 ∨ c.2.2 = 5)) κ1 H1 κ' K ∧
      κ' b = some (d, d, 6) ∧ K b = some (.obj (.mapIter (some r) clk (done.map (·.born)).toArray clk)) ∧ (∀ g ∈ done, FileR κ' K d g.f (g.F.crash keep torn)) ∧ (∀ g ∈ rest, FileR κ' K d g.f g.F)) G.length
    ⟨[], G, κ1, List.Perm.refl _, rfl, rfl, Ext.refl _ _ _, kb, qb, by simp, V1.R⟩ ?_
  rintro m t K ⟨done, rest, κ', hp, rfl, rfl, eK, kbK, qbK, R1, R2⟩
  obtain ⟨qr, kr⟩ := eK.blk V1.kr (fun q => q.2 (.inr rfl)) V1.qr
  obtain ⟨qd, kd⟩ := eK.blk V1.kd (fun q => q.2 (.inl rfl)) V1.qd
  have maK : mapAt K r = some ((G.map GFile.e).toArray, clk) := by simp [mapAt, qr]
  simp -implicitDefEqProofs only [zB1,zB2,zB3,zB4,zB5,zB6,zB7,zB8,zB9,zB10,zB11,y00,y01,y02,y03,y04,y05,y06,y07,y08,y09,y0a,y0b,y0c,y0d,y0e,y0f,y0g,y0h,y0i,y0j,y0k,y0l,y0m,y0n,y0o,y0p,y0q,y0r,y0s,y0t,y0u,y0v,y0w,y0x,y0y,y0z,y10,y11,y12,y13,y14,y15,y16,y17,y18,y19,y1a,y1b,y1c,y1d,y1e,y1f,y1g,y1h,y1i,y1j,y1k,y1l,y1m,y1n,y1o,y1p,y1q,y1r,retO,retL,retV,z6i,allV,allP,z6j,z6m,z6n,z6t,z6u,z6v,binV,eqV,unV,oOpt,reduceIte,reduceCtorEq,Nat.reduceEqDiff,Nat.reduceAdd,Nat.reduceMul,Nat.reduceLT,Nat.reduceSub,Int.reduceLT,Int.reduceLE,Int.reduceEq,Int.reduceNe,Int.reduceSub,Int.reduceAdd,Int.reduceMul,Int.reduceBEq,Int.reduceBNe,Int.reduceGT,Int.reduceGE,Nat.reduceGT,Int.reduceToNat,Int.reduceNeg,Nat.reduceLeDiff,Nat.reduceBEq,Nat.reduceBneDiff,Value.cells]
  refine nextP_map qbK maK (born_lt V.lb) (Nat.le_refl _) ?_ ?_
  · intro h0
    have := left_none hp V.nb h0
    subst this
    rw [List.append_nil] at hp
    have st : storeV K 1 (.pointer (some ⟨d, 2, none⟩)) (.bool false) = some (K.set d (.own 0 [.int .i64 D.room, .map (some r), .bool false, .int .i64 D.lives] 4)) := storeV_one_at qd rfl (by simp) (by simp)
    simp -implicitDefEqProofs only [zB1,zB2,zB3,zB4,zB5,zB6,zB7,zB8,zB9,zB10,zB11,y00,y01,y02,y03,y04,y05,y06,y07,y08,y09,y0a,y0b,y0c,y0d,y0e,y0f,y0g,y0h,y0i,y0j,y0k,y0l,y0m,y0n,y0o,y0p,y0q,y0r,y0s,y0t,y0u,y0v,y0w,y0x,y0y,y0z,y10,y11,y12,y13,y14,y15,y16,y17,y18,y19,y1a,y1b,y1c,y1d,y1e,y1f,y1g,y1h,y1i,y1j,y1k,y1l,y1m,y1n,y1o,y1p,y1q,y1r,retO,retL,retV,z6i,allV,allP,z6j,z6m,z6n,z6t,z6u,z6v,binV,eqV,unV,oOpt,reduceIte,reduceCtorEq,Nat.reduceEqDiff,Nat.reduceAdd,Nat.reduceMul,Nat.reduceLT,Nat.reduceSub,Int.reduceLT,Int.reduceLE,Int.reduceEq,Int.reduceNe,Int.reduceSub,Int.reduceAdd,Int.reduceMul,Int.reduceBEq,Int.reduceBNe,Int.reduceGT,Int.reduceGE,Nat.reduceGT,Int.reduceToNat,Int.reduceNeg,Nat.reduceLeDiff,Nat.reduceBEq,Nat.reduceBneDiff,Value.cells, st]
    have V2 : DiskV κ' K d { D with files := nF (G.map fun g => { g with F := g.F.crash keep torn }) } (G.map fun g => { g with F := g.F.crash keep torn }) r clk := by
      refine ⟨kd, qd, kr, ?_, rfl, ?_, ?_, ?_, ?_, ?_⟩
      · rw [qr, List.map_map]; rfl
      · rw [List.map_map]; exact V.nf
      · rw [List.map_map]; exact V.nn
      · rw [List.map_map]; exact V.nb
      · intro g hg
        obtain ⟨x, hx, rfl⟩ := List.mem_map.1 hg
        exact V.lb x hx
      · intro g hg
        obtain ⟨x, hx, rfl⟩ := List.mem_map.1 hg
        exact R1 x (hp.mem_iff.2 hx)
    have V3 := V2.set_d false D.lives
    refine ⟨κ', ((e0.mono fun c h => h.elim).trans (eK.mono fun c h => h.1)).trans (ext_d (Ext.set kd _)), G.map (fun g => { g with F := g.F.crash keep torn }), r, clk, ?_⟩
    have ef : nF (G.map fun g => { g with F := g.F.crash keep torn }) = D.files.map fun x => (x.1, x.2.crash keep torn) := by
      rw [V.files, nF, List.map_map, List.map_map]; rfl
    unfold crashF
    rw [← ef]
    exact V3
  · intro e he
    obtain ⟨A, g, B, rfl, rfl⟩ := left_mem hp V.nb he
    have hg : g ∈ G := hp.mem_iff.1 (by simp)
    rw [seen_push]
    have e1 := Ext.set (H := K) kbK (.obj (.mapIter (some r) clk ((done ++ [g]).map (·.born)).toArray clk))
    have qb1 : (K.set b (.obj (.mapIter (some r) clk ((done ++ [g]).map (·.born)).toArray clk))) b = some (.obj (.mapIter (some r) clk ((done ++ [g]).map (·.born)).toArray clk)) := Heap.set_self _ _ _
    generalize (K.set b (.obj (.mapIter (some r) clk ((done ++ [g]).map (·.born)).toArray clk))) = K1 at e1 qb1 ⊢
    have eK1 := eK.trans (e1.mono (ds := fun c => c.1 = d ∧ ¬ (c.2.2 = 4 ∨ c.2.2 = 5)) fun c h => by subst h; simp)
    obtain ⟨qr1, kr1⟩ := e1.blk kr (by simp) qr
    have maK1 : mapAt K1 r = some ((G.map GFile.e).toArray, clk) := by simp [mapAt, qr1]
    have en : entryV K1 (.pointer (some ⟨b, 0, none⟩)) = some (.tuple #[g.e.key, g.e.val]) := by
      refine entryV_map (en := g.e) (c0 := clk) (m := r) (since := clk) (seen := (done.map (·.born)).toArray) ?_ maK1 (by simpa using List.mem_map_of_mem hg) (born_nd V.nb)
      rw [qb1, seen_push]
    simp -implicitDefEqProofs only [zB1,zB2,zB3,zB4,zB5,zB6,zB7,zB8,zB9,zB10,zB11,y00,y01,y02,y03,y04,y05,y06,y07,y08,y09,y0a,y0b,y0c,y0d,y0e,y0f,y0g,y0h,y0i,y0j,y0k,y0l,y0m,y0n,y0o,y0p,y0q,y0r,y0s,y0t,y0u,y0v,y0w,y0x,y0y,y0z,y10,y11,y12,y13,y14,y15,y16,y17,y18,y19,y1a,y1b,y1c,y1d,y1e,y1f,y1g,y1h,y1i,y1j,y1k,y1l,y1m,y1n,y1o,y1p,y1q,y1r,retO,retL,retV,z6i,allV,allP,z6j,z6m,z6n,z6t,z6u,z6v,binV,eqV,unV,oOpt,reduceIte,reduceCtorEq,Nat.reduceEqDiff,Nat.reduceAdd,Nat.reduceMul,Nat.reduceLT,Nat.reduceSub,Int.reduceLT,Int.reduceLE,Int.reduceEq,Int.reduceNe,Int.reduceSub,Int.reduceAdd,Int.reduceMul,Int.reduceBEq,Int.reduceBNe,Int.reduceGT,Int.reduceGE,Nat.reduceGT,Int.reduceToNat,Int.reduceNeg,Nat.reduceLeDiff,Nat.reduceBEq,Nat.reduceBneDiff,Value.cells, en]
    have okg : g.F.ok := (ok.1 (g.name, g.F) (by rw [V.files]; exact List.mem_map_of_mem hg)).1
    have S1 : ∀ x F, FileR κ' K d x F → FileR κ' K1 d x F := fun x F h => h.ext e1 fun r hr q => by simp at q; omega
    refine (file_crash_c E (S1 _ _ (R2 g (by simp))) okg keep torn).mono ?_
    rintro v K2 ⟨κ2, e2, Rg⟩
    simp -implicitDefEqProofs only [zB1,zB2,zB3,zB4,zB5,zB6,zB7,zB8,zB9,zB10,zB11,y00,y01,y02,y03,y04,y05,y06,y07,y08,y09,y0a,y0b,y0c,y0d,y0e,y0f,y0g,y0h,y0i,y0j,y0k,y0l,y0m,y0n,y0o,y0p,y0q,y0r,y0s,y0t,y0u,y0v,y0w,y0x,y0y,y0z,y10,y11,y12,y13,y14,y15,y16,y17,y18,y19,y1a,y1b,y1c,y1d,y1e,y1f,y1g,y1h,y1i,y1j,y1k,y1l,y1m,y1n,y1o,y1p,y1q,y1r,retO,retL,retV,z6i,allV,allP,z6j,z6m,z6n,z6t,z6u,z6v,binV,eqV,unV,oOpt,reduceIte,reduceCtorEq,Nat.reduceEqDiff,Nat.reduceAdd,Nat.reduceMul,Nat.reduceLT,Nat.reduceSub,Int.reduceLT,Int.reduceLE,Int.reduceEq,Int.reduceNe,Int.reduceSub,Int.reduceAdd,Int.reduceMul,Int.reduceBEq,Int.reduceBNe,Int.reduceGT,Int.reduceGE,Nat.reduceGT,Int.reduceToNat,Int.reduceNeg,Nat.reduceLeDiff,Nat.reduceBEq,Nat.reduceBneDiff,Value.cells]
    have nfp : ((done ++ (A ++ g :: B)).map (·.f)).Nodup := (hp.map _).nodup_iff.2 V.nf
    have nfp2 : (((done ++ A) ++ g :: B).map (·.f)).Nodup := by rw [List.append_assoc]; exact nfp
    have nn := sub_new (·.f) nfp2
    obtain ⟨qb2, kb2⟩ := e2.blk (κ := κ') kbK (fun q => by have := q.2.2; simp at this) qb1
    have S2 : ∀ x ∈ (done ++ A) ++ B, ∀ F, FileR κ' K1 d x.f F → FileR κ2 K2 d x.f F := fun x hx F h => h.ext e2 fun r hr q => nn x hx q.2.1
    refine ⟨_, ?_, done ++ [g], A ++ B, κ2, perm_step hp, rfl, eK1.trans (e2.mono fun c h => ⟨h.1, by have := h.2.2; omega⟩), kb2, qb2, ?_, ?_⟩
    · simp
    · intro x hx
      rcases List.mem_append.1 hx with hx | hx
      · exact S2 x (by simp [hx]) _ (S1 _ _ (R1 x hx))
      · rw [List.mem_singleton] at hx; subst hx; exact Rg
    · intro x hx
      refine S2 x ?_ _ (S1 _ _ (R2 x (sub_mem hx)))
      rcases List.mem_append.1 hx with hx | hx <;> simp [hx]
end Go.Bb
/- Arguments: bytes and words. -/
namespace Go.Bb
set_option linter.unusedSimpArgs false
set_option linter.unusedVariables false

theorem flatMap_single {α β : Type} (f : α → β) : ∀ L : List α, (L.flatMap fun x => [f x]) = L.map f
  | [] => rfl
  | x :: L => by simp [flatMap_single f L]
theorem u8V_of {n : Int} (h0 : 0 ≤ n) (h1 : n ≤ 255) : u8V (UInt8.ofNat n.toNat) = .int .u8 n := by
  unfold u8V
  have : (UInt8.ofNat n.toNat).toNat = n.toNat := by rw [UInt8.toNat_ofNat']; omega
  rw [this]; congr 1; omega
theorem ok_bytes {W : World} {v : Value} (h : Shp.ok W (.slice 1 (.int .u8)) v) : ∃ l : List UInt8, SlB (roHeap W) v l ∧ l.length ≤ 9223372036854775807 := by
  obtain ⟨L, h1, h2, h3⟩ := Shp.ok_rows (f := fun b : UInt8 => [u8V b]) (Pr := fun _ => True) (fun _ => rfl) (fun l hl => by
    obtain ⟨n, rfl, a, b⟩ := hl
    exact ⟨UInt8.ofNat n.toNat, by rw [u8V_of (by simpa [IntKind.min, IntKind.signed] using a) (by simpa [IntKind.max, IntKind.signed, IntKind.bits] using b)], trivial⟩) h
  refine ⟨L, ?_, h2⟩
  rw [flatMap_single] at h1
  exact h1
end Go.Bb
namespace Go.Bb
end Go.Bb
/- Rows of numbers of any kind, and what masks and shifts tell of them. -/
namespace Go.Bb
set_option linter.unusedSimpArgs false
set_option linter.unusedVariables false

section
variable {k : IntKind} {f g : Nat → Nat} {n : Nat}
end
end Go.Bb
/- Arguments: slices of slices of bytes, texts. -/
namespace Go.Bb
set_option linter.unusedSimpArgs false
set_option linter.unusedVariables false

/-- A part of what is read, at its place. -/
theorem SlL.part {h : Heap} {base : Option Addr} {c : Nat} {L : List (List UInt8)} (s : SlL h (.slice base L.length c) L) (i : Nat) (hi : i < L.length) :
    ∃ b o u bi ci, base = some ⟨b, o, none⟩ ∧ u = .slice bi L[i].length ci ∧ SlB h u L[i] ∧ ∀ H, h.le H → hcell H ⟨b, o + i, none⟩ = some u := by
  obtain ⟨vs, hvs, sl, el⟩ := s
  obtain ⟨b, o, c', hv, hc, hcl⟩ := sl.ptr (by omega) (by omega)
  simp only [Value.slice.injEq, true_and] at hv
  obtain ⟨rfl, rfl⟩ := hv
  rw [Nat.mul_one] at hcl
  obtain ⟨bi, ci, e⟩ := Sl.shape (el i (by omega) hi)
  refine ⟨b, o, vs[i]'(by omega), bi, ci, rfl, e, el i (by omega) hi, fun H hH => ?_⟩
  rw [hcell_of (hcells_le hH hcl) i hi]; simp [hvs, hi]
theorem SlL.shape {h : Heap} {v : Value} {L : List (List UInt8)} (s : SlL h v L) : ∃ base c, v = .slice base L.length c := by
  obtain ⟨vs, hvs, sl, el⟩ := s
  exact Sl.shape sl
end Go.Bb
/- Laws on disks: what all share. -/
namespace Go.Bb
set_option linter.unusedSimpArgs false
set_option linter.unusedVariables false
set_option maxRecDepth 100000
set_option maxHeartbeats 2000000

/-- What was there at first is there still, and has no colour. -/
def Base (h : Heap) (κ : Pal) (H : Heap) : Prop := ∀ b x, h b = some x → H b = some x ∧ κ b = none
theorem Base.start (h : Heap) : Base h (fun _ => none) h := fun b x q => ⟨q, rfl⟩
theorem Base.ext {h : Heap} {κ κ' : Pal} {H H' : Heap} {cs : Col → Prop} (B : Base h κ H) (e : Ext cs κ H κ' H') : Base h κ' H' := fun b x q => by
  obtain ⟨h1, h2⟩ := B b x q
  exact e.plain h2 h1
theorem Base.le {h : Heap} {κ : Pal} {H : Heap} (B : Base h κ H) : h.le H := fun b x q => (B b x q).1
theorem Base.up {h : Heap} {κ : Pal} {H H' : Heap} (B : Base h κ H) (le : H.le H') : Base h κ H' := B.ext (Ext.le (cs := fun _ => False) le)
theorem SlL.at {h : Heap} {base : Option Addr} {c : Nat} {L : List (List UInt8)} (s : SlL h (.slice base L.length c) L) (i : Nat) (hi : i < L.length) :
    ∃ b o bi ci, base = some ⟨b, o, none⟩ ∧ SlB h (.slice bi L[i].length ci) L[i] ∧ ∀ H, h.le H → hcell H ⟨b, o + i, none⟩ = some (.slice bi L[i].length ci) := by
  obtain ⟨vs, hv, sl, el⟩ := s
  obtain ⟨b, o, c', e, hc, hcl⟩ := sl.ptr (by omega) (by omega)
  simp only [Value.slice.injEq, true_and] at e
  have si := el i (by omega) hi
  obtain ⟨bi, ci, ei⟩ := Sl.shape si
  rw [ei] at si
  refine ⟨b, o, bi, ci, e.1, si, fun H le => ?_⟩
  rw [Nat.mul_one] at hcl
  rw [hcell_of (hcells_le le hcl) i hi, List.getElem?_eq_getElem (by omega), ei]
theorem pk13a : isTrue (evF tab noHooks 1000 50 n_bandboxlaw13_awake [] VM.start) = true := by decide +kernel
theorem law13_awake_c (E : EnvT tab) (h : Heap) : ACallN E.toEnv n_bandboxlaw13_awake [] h fun v h' => v = .bool true ∧ h.le h' := evF_true noHooks_ok _ pk13a

theorem size_le {L : Files} {x : List UInt8 × FileF} (h : x ∈ L) : x.2.size ≤ sizeF L := by
  induction L with
  | nil => cases h
  | cons y L ih =>
    simp only [sizeF, List.map_cons, List.sum_cons] at ih ⊢
    rcases List.mem_cons.1 h with rfl | h
    · omega
    · have := ih h; omega
theorem crash_size (F : FileF) (keep : U64) (torn : Int) : (F.crash keep torn).size ≤ F.size := by
  have h1 := keptF_len keep torn (lastF keep F.writes.length) F.writes (lastF keep F.writes.length) (lastF_le _ _)
  have h2 := take_flat_len F.writes (lastF keep F.writes.length)
  simp only [FileF.size, FileF.all, FileF.crash, List.flatten_nil, List.append_nil, List.length_append]
  omega
theorem crash_sizes (L : Files) (keep : U64) (torn : Int) : sizeF (L.map fun x => (x.1, x.2.crash keep torn)) ≤ sizeF L := by
  induction L with
  | nil => exact Nat.le_refl _
  | cons x L ih =>
    have := crash_size x.2 keep torn
    simp only [sizeF, List.map_cons, List.sum_cons] at ih ⊢
    omega
end Go.Bb
/- Contracts: numbers in the base 36. -/
namespace Go.Bb
set_option linter.unusedSimpArgs false
set_option linter.unusedVariables false
set_option maxRecDepth 100000
set_option maxHeartbeats 2000000

end Go.Bb
/- Contracts: a journal's names. -/
namespace Go.Bb
set_option linter.unusedSimpArgs false
set_option linter.unusedVariables false
set_option maxRecDepth 100000
set_option maxHeartbeats 2000000

/-! ### names are unlike -/
end Go.Bb
/- Contracts: numbers written, the highest byte first. -/
namespace Go.Bb
set_option linter.unusedSimpArgs false
set_option linter.unusedVariables false
set_option maxRecDepth 20000

end Go.Bb
/- Sums of bytes, in plain words. -/
namespace Go.Bb
set_option linter.unusedSimpArgs false
set_option linter.unusedVariables false

/-! ### rows of words, as functions of the place -/
def rowU (f : Nat → U32) (n : Nat) : List Value := (List.range n).map fun j => .int .u32 (f j).toNat
/-! ### the sum -/
end Go.Bb
/- Contracts: sums of bytes: turns, the schedule. -/
namespace Go.Bb
set_option linter.unusedSimpArgs false
set_option linter.unusedVariables false
set_option maxRecDepth 20000

end Go.Bb
/- Contracts: sums of bytes: a block is mixed in. -/
namespace Go.Bb
set_option linter.unusedSimpArgs false
set_option linter.unusedVariables false
set_option maxRecDepth 20000

end Go.Bb
/- Contracts: sums of bytes: the beginning. -/
namespace Go.Bb
set_option linter.unusedSimpArgs false
set_option linter.unusedVariables false
set_option maxRecDepth 20000

def constL : List Nat := [1116352408, 1899447441, 3049323471, 3921009573, 961987163, 1508970993, 2453635748, 2870763221, 3624381080, 310598401, 607225278, 1426881987, 1925078388, 2162078206, 2614888103, 3248222580, 3835390401, 4022224774, 264347078, 604807628, 770255983, 1249150122, 1555081692, 1996064986, 2554220882, 2821834349, 2952996808, 3210313671, 3336571891, 3584528711, 113926993, 338241895, 666307205, 773529912, 1294757372, 1396182291, 1695183700, 1986661051, 2177026350, 2456956037, 2730485921, 2820302411, 3259730800, 3345764771, 3516065817, 3600352804, 4094571909, 275423344, 430227734, 506948616, 659060556, 883997877, 958139571, 1322822218, 1537002063, 1747873779, 1955562222, 2024104815, 2227730452, 2361852424, 2428436474, 2756734187, 3204031479, 3329325298]
def constF : Nat → U32 := fun j => BitVec.ofNat 32 (constL.getD j 0)
/-- A sum so far. -/
def sumC (hs : Nat → U32) (v : Value) (n : Int) : List Value := rowU hs 8 ++ (rowU constF 64 ++ [v, .int .i64 n])
/-! ### blocks -/
/-! ### what is owned, beside one block -/
/-- A sum of these bytes. -/
structure SumR (h0 h : Heap) (bs : Nat) (hs : Nat → U32) (rest : List UInt8) (n : Nat) : Prop where
  new : h0 bs = none
  ex : ∃ v, h bs = some (.own 0 (sumC hs v n) 74) ∧ ∀ X, OwB (h0.set bs X) h v rest

end Go.Bb
/- Contracts: sums of bytes: bytes are added. -/
namespace Go.Bb
set_option linter.unusedSimpArgs false
set_option linter.unusedVariables false
set_option maxRecDepth 20000

end Go.Bb
/- Contracts: sums of bytes: the end. -/
namespace Go.Bb
set_option linter.unusedSimpArgs false
set_option linter.unusedVariables false
set_option maxRecDepth 20000

end Go.Bb
/- Contracts: sums of bytes: what is told. -/
namespace Go.Bb
set_option linter.unusedSimpArgs false
set_option linter.unusedVariables false
set_option maxRecDepth 20000

theorem SumR.le {h0 h h' : Heap} {bs : Nat} {hs : Nat → U32} {rest : List UInt8} {n : Nat} (p : SumR h0 h bs hs rest n) (x : h.le h') : SumR h0 h' bs hs rest n :=
  ⟨p.new, by obtain ⟨v, h1, h2⟩ := p.ex; exact ⟨v, x _ _ h1, fun X => (h2 X).le x⟩⟩

end Go.Bb
/- Contracts: a journal's frames. -/
namespace Go.Bb
set_option linter.unusedSimpArgs false
set_option linter.unusedVariables false
set_option maxRecDepth 20000
set_option maxHeartbeats 2000000

/-! ### frames -/
theorem SlL.two {h : Heap} {v a b : Value} {x y : List UInt8} (s : Sl h 1 v 2 [a, b]) (sa : SlB h a x) (sb : SlB h b y) : SlL h v [x, y] := by
  refine ⟨[a, b], rfl, s, fun i h1 h2 => ?_⟩
  match i, h1, h2 with
  | 0, _, _ => exact sa
  | 1, _, _ => exact sb

end Go.Bb
/- Contracts: a journal at its place; done, base, sync. -/
namespace Go.Bb
set_option linter.unusedSimpArgs false
set_option linter.unusedVariables false
set_option maxRecDepth 20000
set_option maxHeartbeats 2000000

/-! ### what has no colour -/
def Heap.bare (H : Heap) (κ : Pal) : Heap := fun b => if κ b = none then H b else none
theorem Heap.bare_le (H : Heap) (κ : Pal) : (H.bare κ).le H := by
  intro b x h; unfold Heap.bare at h; split at h
  · exact h
  · cases h
theorem Heap.bare_some {H : Heap} {κ : Pal} {b : Nat} {x : Blk} : H.bare κ b = some x ↔ H b = some x ∧ κ b = none := by
  unfold Heap.bare; split
  · rename_i h; simp [h]
  · rename_i h; simp [h]
theorem Ext.bare {cs : Col → Prop} {κ κ' : Pal} {H H' : Heap} (e : Ext cs κ H κ' H') : (H.bare κ).le (H'.bare κ') := by
  intro b x q
  obtain ⟨h1, h2⟩ := Heap.bare_some.1 q
  exact Heap.bare_some.2 (e.plain h2 h1)
/-- What is new has no colour. -/
def Pal.wash (κ : Pal) (H : Heap) : Pal := fun b => if H b = none then none else κ b
theorem Ext.wash {cs : Col → Prop} {κ : Pal} {H H' : Heap} (h : H.le H') : Ext cs κ H (κ.wash H) H' := by
  intro b x q n
  refine ⟨h b x q, ?_⟩
  unfold Pal.wash; rw [if_neg (by rw [q]; simp)]
theorem Ow.bare {κ : Pal} {H H' : Heap} {size n : Nat} {v : Value} {cells : List Value} (s : Ow H H' size v n cells) : Sl (H'.bare (κ.wash H)) size v n cells := by
  rcases s with s | ⟨b, o, c, sz, st, pre, rest, h1, h2, h3, h4, h5⟩
  · exact .inl s
  · have : Ow H (H'.bare (κ.wash H)) size v n cells := .inr ⟨b, o, c, sz, st, pre, rest, h1, h2, h3, Heap.bare_some.2 ⟨h4, by unfold Pal.wash; rw [if_pos h3]⟩, h5⟩
    exact this.sl

/-! ### a journal -/
structure JF where
  lives : Int
  turn : Nat := 0
  part : Nat := 0
  written : Bool := false
  base : List UInt8 := []
  recs : List (List UInt8) := []
  full : Bool := false
def JouV (κ : Pal) (H : Heap) (j d : Nat) (J : JF) (vb vr : Value) (rs : List Value) : Prop :=
  κ j = some (j, j, 7) ∧ H j = some (.own 0 [ptrV d, .int .i64 J.lives, .int .u64 (J.turn : Nat), .int .i64 (J.part : Nat), .bool J.written, vb, vr, .bool J.full] 8) ∧ OwK κ (j, j, 8) H 1 vb J.base.length (J.base.map u8V) ∧ OwK κ (j, j, 9) H 1 vr J.recs.length rs ∧ rs.length = J.recs.length ∧
  ∀ i (h1 : i < rs.length) (h2 : i < J.recs.length), OwK κ (j, j, 10) H 1 rs[i] J.recs[i].length (J.recs[i].map u8V)
def JouR (κ : Pal) (H : Heap) (j d : Nat) (J : JF) : Prop := ∃ vb vr rs, JouV κ H j d J vb vr rs
def jouC (j : Nat) : Col → Prop := fun c => c.1 = j
theorem JouV.ext {cs : Col → Prop} {κ κ' : Pal} {H H' : Heap} {j d : Nat} {J : JF} {vb vr : Value} {rs : List Value} (a : Ext cs κ H κ' H') (n : ∀ c : Col, c.1 = j → ¬ cs c) (R : JouV κ H j d J vb vr rs) : JouV κ' H' j d J vb vr rs := by
  obtain ⟨k, q, s1, s2, l, s3⟩ := R
  obtain ⟨g1, g2⟩ := a.blk k (n _ rfl) q
  exact ⟨g2, g1, a.own (n _ rfl) s1, a.own (n _ rfl) s2, l, fun i h1 h2 => a.own (n _ rfl) (s3 i h1 h2)⟩
theorem JouR.ext {cs : Col → Prop} {κ κ' : Pal} {H H' : Heap} {j d : Nat} {J : JF} (a : Ext cs κ H κ' H') (n : ∀ c : Col, c.1 = j → ¬ cs c) (R : JouR κ H j d J) : JouR κ' H' j d J := by
  obtain ⟨vb, vr, rs, R⟩ := R
  exact ⟨vb, vr, rs, R.ext a n⟩
theorem JouR.le {κ : Pal} {H H' : Heap} {j d : Nat} {J : JF} (h : H.le H') (R : JouR κ H j d J) : JouR κ H' j d J := R.ext (Ext.le (cs := fun _ => False) h) (fun _ _ q => q)
theorem DiskR.off {κ κ' : Pal} {H H' : Heap} {d e : Nat} {D : DiskF} (R : DiskR κ H e D) (a : Ext (jouC d) κ H κ' H') (ne : d ≠ e) : DiskR κ' H' e D := R.ext a fun c h q => ne (by unfold jouC at q; rw [← q, h])
/-- The block of a journal is set anew. -/
theorem JouV.put {κ : Pal} {H : Heap} {j d : Nat} {J : JF} {vb vr : Value} {rs : List Value} (R : JouV κ H j d J vb vr rs) (turn part : Nat) (written full : Bool) :
    JouV κ (H.set j (.own 0 [ptrV d, .int .i64 J.lives, .int .u64 (turn : Nat), .int .i64 (part : Nat), .bool written, vb, vr, .bool full] 8)) j d { J with turn := turn, part := part, written := written, full := full } vb vr rs := by
  obtain ⟨k, q, s1, s2, l, s3⟩ := R
  have e := Ext.set (H := H) k (.own 0 [ptrV d, .int .i64 J.lives, .int .u64 (turn : Nat), .int .i64 (part : Nat), .bool written, vb, vr, .bool full] 8)
  exact ⟨k, Heap.set_self _ _ _, e.own (by simp) s1, e.own (by simp) s2, l, fun i h1 h2 => e.own (by simp) (s3 i h1 h2)⟩
end Go.Bb
/- Contracts: the document's own disk, how it lies. -/
namespace Go.Bb
set_option linter.unusedSimpArgs false
set_option linter.unusedVariables false
set_option maxRecDepth 20000
set_option maxHeartbeats 2000000

theorem wash_none {κ : Pal} {H : Heap} {b : Nat} (hb : H b = none) : κ.wash H b = none := by unfold Pal.wash; rw [if_pos hb]
/-- Cells of an owned slice are written. -/
theorem Ow.storeK {h0 h : Heap} {size b o n c : Nat} {cells us : List Value} (s : Ow h0 h size (.slice (some ⟨b, o, none⟩) n c) n cells) {j k : Nat} (hu : us.length = k) (hk : 0 < k) (hj : j + k ≤ cells.length) (h1 : us.all one = true) {v : Value} (hv : v.cells.toList = us) :
    ∃ X, storeV h k (.pointer (some ⟨b, o + j, none⟩)) v = some (h.set b X) ∧ h0 b = none ∧ (∃ y, h b = some y) ∧ Ow h0 (h.set b X) size (.slice (some ⟨b, o, none⟩) n c) n (splice cells j us) := by
  rcases s with ⟨e, _⟩ | ⟨b', o', c', sz, st, pre, rest, e, hc, hn, hb, ho, hl, hz⟩
  · cases e
  simp only [Value.slice.injEq, Option.some.injEq, Addr.mk.injEq, and_true, true_and] at e
  obtain ⟨⟨rfl, rfl⟩, rfl⟩ := e
  have hv2 : v.cells.size = k := by rw [← Array.length_toList, hv, hu]
  have hs : splice (pre ++ cells ++ rest) (o + j - st) us = pre ++ splice cells j us ++ rest := by
    have e1 : o + j - st = pre.length + j := by omega
    rw [e1]
    unfold splice
    rw [List.append_assoc pre cells rest, List.take_length_add_append, List.take_append_of_le_length (by omega)]
    rw [show pre.length + j + us.length = pre.length + (j + us.length) by omega, ← List.drop_drop, List.drop_left, List.drop_append_of_le_length (by omega)]
    simp only [List.append_assoc]
  have hsl : (splice cells j us).length = cells.length := by
    unfold splice
    simp only [List.length_append, List.length_take, List.length_drop]; omega
  have hcs : n * size ≤ c * size := Nat.mul_le_mul_right _ hc
  refine ⟨.own st (pre ++ splice cells j us ++ rest) sz, ?_, hn, ⟨_, hb⟩, ?_⟩
  · unfold storeV
    simp only
    rw [if_pos ⟨hv2, by rw [hv]; exact h1⟩, hv]
    cases us with
    | nil => simp at hu; omega
    | cons u us =>
      simp only [hstore, hb]
      rw [if_pos ⟨by omega, by simp; omega, by rw [hu]; omega⟩, hs]
  · exact .inr ⟨b, o, c, sz, st, pre, rest, rfl, hc, hn, Heap.set_self _ _ _, ho, by rw [hsl]; exact hl, hz⟩
/-! ### rows of three -/
def all3 (cs : List (List Value)) : Prop := ∀ c ∈ cs, c.length = 3
theorem flat3_len : ∀ {cs : List (List Value)}, all3 cs → cs.flatten.length = 3 * cs.length
  | [], _ => rfl
  | c :: cs, h => by
    have h1 := h c (by simp)
    have h2 := flat3_len (cs := cs) fun x hx => h x (by simp [hx])
    simp only [List.flatten_cons, List.length_append, List.length_cons]; omega
theorem flat3_drop : ∀ {cs : List (List Value)} (i : Nat), all3 cs → cs.flatten.drop (3 * i) = (cs.drop i).flatten
  | [], i, _ => by simp
  | c :: cs, 0, h => by simp
  | c :: cs, i + 1, h => by
    have h1 := h c (by simp)
    rw [List.flatten_cons, List.drop_succ_cons, ← flat3_drop i fun x hx => h x (by simp [hx]), show 3 * (i + 1) = c.length + 3 * i by omega, ← List.drop_drop, List.drop_left]
theorem flat3_take : ∀ {cs : List (List Value)} (i : Nat), all3 cs → cs.flatten.take (3 * i) = (cs.take i).flatten
  | [], i, _ => by simp
  | c :: cs, 0, h => by simp
  | c :: cs, i + 1, h => by
    have h1 := h c (by simp)
    rw [List.flatten_cons, List.take_succ_cons, List.flatten_cons, ← flat3_take i fun x hx => h x (by simp [hx]), show 3 * (i + 1) = c.length + 3 * i by omega, List.take_length_add_append]
theorem flat3_at {cs : List (List Value)} {i : Nat} (h : all3 cs) (hi : i < cs.length) : (cs.flatten.drop (3 * i)).take 3 = cs[i] := by
  have h1 := h _ (List.getElem_mem hi)
  rw [flat3_drop i h, List.drop_eq_getElem_cons hi, List.flatten_cons, List.take_append_of_le_length (by omega), List.take_of_length_le (by omega)]
theorem flat3_get {cs : List (List Value)} {i k : Nat} (h : all3 cs) (hi : i < cs.length) (hk : k < 3) : cs.flatten[3 * i + k]? = cs[i][k]? := by
  have h1 := h _ (List.getElem_mem hi)
  rw [← List.getElem?_drop, flat3_drop i h, List.drop_eq_getElem_cons hi, List.flatten_cons, List.getElem?_append_left (by omega)]
theorem flat3_set {cs : List (List Value)} {i : Nat} (h : all3 cs) (hi : i < cs.length) {c : List Value} (hc : c.length = 3) : splice cs.flatten (3 * i) c = (cs.set i c).flatten := by
  unfold splice
  rw [flat3_take i h, hc, show 3 * i + 3 = 3 * (i + 1) by omega, flat3_drop (i + 1) h, List.set_eq_take_append_cons_drop, if_pos hi]
  simp
theorem flat3_set2 {cs : List (List Value)} {i : Nat} (h : all3 cs) (hi : i < cs.length) {a b x y : Value} (hc : cs[i] = [a, b, x]) : splice cs.flatten (3 * i + 2) [y] = (cs.set i [a, b, y]).flatten := by
  have e : cs.flatten = (cs.take i).flatten ++ ([a, b, x] ++ (cs.drop (i + 1)).flatten) := by
    conv => lhs; rw [← List.take_append_drop i cs, List.drop_eq_getElem_cons hi, hc]
    simp
  have hl : (cs.take i).flatten.length = 3 * i := by
    rw [flat3_len fun c hm => h c (List.mem_of_mem_take hm), List.length_take]; omega
  rw [List.set_eq_take_append_cons_drop, if_pos hi, e, List.flatten_append, List.flatten_cons]
  generalize (cs.take i).flatten = A at hl
  generalize (cs.drop (i + 1)).flatten = B
  unfold splice
  rw [← hl, List.take_length_add_append, show A.length + 2 + [y].length = A.length + 3 from rfl, ← List.drop_drop, List.drop_left]
  simp
end Go.Bb
/- Contracts: all records of a journal; records more. -/
namespace Go.Bb
set_option linter.unusedSimpArgs false
set_option linter.unusedVariables false
set_option maxRecDepth 20000
set_option maxHeartbeats 2000000

theorem SlL.at' {h : Heap} {base : Option Addr} {c : Nat} {L : List (List UInt8)} (s : SlL h (.slice base L.length c) L) (i : Nat) (hi : i < L.length) :
    ∃ b o bi ci, base = some ⟨b, o, none⟩ ∧ SlB h (.slice bi L[i].length ci) L[i] ∧ ∀ H, h.le H → hcell H ⟨b, o + i, none⟩ = some (.slice bi L[i].length ci) := by
  obtain ⟨vs, hv, sl, el⟩ := s
  obtain ⟨b, o, c', e, hc, hcl⟩ := sl.ptr (by omega) (by omega)
  simp only [Value.slice.injEq, true_and] at e
  have si := el i (by omega) hi
  obtain ⟨bi, ci, ei⟩ := Sl.shape si
  rw [ei] at si
  refine ⟨b, o, bi, ci, e.1, si, fun H le => ?_⟩
  rw [Nat.mul_one] at hcl
  rw [hcell_of (hcells_le le hcl) i hi, List.getElem?_eq_getElem (by omega), ei]
/-- New rows, each by itself: colours of their own. -/
def NewL (H H' : Heap) (κ : Pal) (v : Value) (L : List (List UInt8)) : Prop :=
  (∀ b, H b ≠ none → κ b = none) ∧ ∃ vs : List Value, OwK κ (0, 0, 12) H' 1 v L.length vs ∧ vs.length = L.length ∧ ∀ i (h1 : i < vs.length) (h2 : i < L.length), OwK κ (0, i, 11) H' 1 vs[i] L[i].length (L[i].map u8V)
theorem NewL.sl {H H' : Heap} {κ : Pal} {v : Value} {L : List (List UInt8)} (n : NewL H H' κ v L) : SlL H' v L := by
  obtain ⟨-, vs, s, l, e⟩ := n
  exact ⟨vs, l, s.sl, fun i h1 h2 => (e i h1 h2).sl⟩
end Go.Bb
/- Contracts: the document's own disk: what it tells. -/
namespace Go.Bb
set_option linter.unusedSimpArgs false
set_option linter.unusedVariables false
set_option maxRecDepth 20000
set_option maxHeartbeats 2000000

theorem ref_May_c (E : EnvT tab) (H : Heap) (s : List UInt8) (hs : s.length ≤ 9000000000000000000) : ACallN E.toEnv n_bandboxref11_May [strV s] H fun r H' => H' = H ∧ r = .bool (goodName s) := by
  refine acall h_bandboxref11_May ir_bandboxref11_May rfl rfl (wpA_sound ?_)
  unfold ir_bandboxref11_May strV
  have ez := strV_size s
  unfold goodName
  by_cases g1 : 1 ≤ s.length
  · have g1' : ¬ (s.length : Int) < 1 := by omega
    by_cases g2 : s.length ≤ 20
    · have g2' : ¬ (20 : Int) < s.length := by omega
      have e0 : (s.all (fun b => decide (33 ≤ b.toNat ∧ b.toNat ≤ 126)) && decide (1 ≤ s.length) && decide (s.length ≤ 20)) = s.all (fun b => decide (33 ≤ b.toNat ∧ b.toNat ≤ 126)) := by simp [g1, g2]
      rw [e0]
      simp -implicitDefEqProofs only [zB1,zB2,zB3,zB4,zB5,zB6,zB7,zB8,zB9,zB10,zB11,y00,y01,y02,y03,y04,y05,y06,y07,y08,y09,y0a,y0b,y0c,y0d,y0e,y0f,y0g,y0h,y0i,y0j,y0k,y0l,y0m,y0n,y0o,y0p,y0q,y0r,y0s,y0t,y0u,y0v,y0w,y0x,y0y,y0z,y10,y11,y12,y13,y14,y15,y16,y17,y18,y19,y1a,y1b,y1c,y1d,y1e,y1f,y1g,y1h,y1i,y1j,y1k,y1l,y1m,y1n,y1o,y1p,y1q,y1r,retO,retL,retV,z6i,allV,allP,z6j,z6m,z6n,z6t,z6u,z6v,binV,eqV,unV,oOpt,reduceIte,reduceCtorEq,Nat.reduceEqDiff,Nat.reduceAdd,Nat.reduceMul,Nat.reduceLT,Nat.reduceSub,Int.reduceLT,Int.reduceLE,Int.reduceEq,Int.reduceNe,Int.reduceSub,Int.reduceAdd,Int.reduceMul,Int.reduceBEq,Int.reduceBNe,Int.reduceGT,Int.reduceGE,Nat.reduceGT,Int.reduceToNat,Int.reduceNeg,Nat.reduceLeDiff,Nat.reduceBEq,Nat.reduceBneDiff,Value.cells, ez, g1', g2']
      unfold ir_bandboxref11_May_3
      simp -implicitDefEqProofs only [zB1,zB2,zB3,zB4,zB5,zB6,zB7,zB8,zB9,zB10,zB11,y00,y01,y02,y03,y04,y05,y06,y07,y08,y09,y0a,y0b,y0c,y0d,y0e,y0f,y0g,y0h,y0i,y0j,y0k,y0l,y0m,y0n,y0o,y0p,y0q,y0r,y0s,y0t,y0u,y0v,y0w,y0x,y0y,y0z,y10,y11,y12,y13,y14,y15,y16,y17,y18,y19,y1a,y1b,y1c,y1d,y1e,y1f,y1g,y1h,y1i,y1j,y1k,y1l,y1m,y1n,y1o,y1p,y1q,y1r,retO,retL,retV,z6i,allV,allP,z6j,z6m,z6n,z6t,z6u,z6v,binV,eqV,unV,oOpt,reduceIte,reduceCtorEq,Nat.reduceEqDiff,Nat.reduceAdd,Nat.reduceMul,Nat.reduceLT,Nat.reduceSub,Int.reduceLT,Int.reduceLE,Int.reduceEq,Int.reduceNe,Int.reduceSub,Int.reduceAdd,Int.reduceMul,Int.reduceBEq,Int.reduceBNe,Int.reduceGT,Int.reduceGE,Nat.reduceGT,Int.reduceToNat,Int.reduceNeg,Nat.reduceLeDiff,Nat.reduceBEq,Nat.reduceBneDiff,Value.cells]
      refine wp_loop' (fun m t G => G = H ∧ ∃ i : Nat, t = tl [(0, .string ⟨s.toArray⟩), (3, .int .i64 i)] ∧ i ≤ s.length ∧ m = s.length - i ∧ (s.take i).all (fun b => decide (33 ≤ b.toNat ∧ b.toNat ≤ 126)) = true) s.length
        ⟨rfl, 0, rfl, by omega, by omega, by simp⟩ ?_
      rintro m t G ⟨rfl, i, rfl, hi, rfl, ha⟩
      by_cases hlt : i < s.length
      · have hi1 : (i : Int) < s.length := by omega
        have hi2 : (0 : Int) ≤ i := by omega
        have w1 : IntKind.i64.wrap ((i : Int) + 1) = ((i + 1 : Nat) : Int) := wrapN (by omega)
        have ix : s[i]? = some s[i] := List.getElem?_eq_getElem hlt
        have ad : s.toArray.toList = s := rfl
        by_cases g : 33 ≤ s[i].toNat ∧ s[i].toNat ≤ 126
        · have g1 : ¬ ((s[i].toNat : Int) < 33) := by omega
          have g2 : ¬ ((126 : Int) < s[i].toNat) := by omega
          simp -implicitDefEqProofs only [zB1,zB2,zB3,zB4,zB5,zB6,zB7,zB8,zB9,zB10,zB11,y00,y01,y02,y03,y04,y05,y06,y07,y08,y09,y0a,y0b,y0c,y0d,y0e,y0f,y0g,y0h,y0i,y0j,y0k,y0l,y0m,y0n,y0o,y0p,y0q,y0r,y0s,y0t,y0u,y0v,y0w,y0x,y0y,y0z,y10,y11,y12,y13,y14,y15,y16,y17,y18,y19,y1a,y1b,y1c,y1d,y1e,y1f,y1g,y1h,y1i,y1j,y1k,y1l,y1m,y1n,y1o,y1p,y1q,y1r,retO,retL,retV,z6i,allV,allP,z6j,z6m,z6n,z6t,z6u,z6v,binV,eqV,unV,oOpt,reduceIte,reduceCtorEq,Nat.reduceEqDiff,Nat.reduceAdd,Nat.reduceMul,Nat.reduceLT,Nat.reduceSub,Int.reduceLT,Int.reduceLE,Int.reduceEq,Int.reduceNe,Int.reduceSub,Int.reduceAdd,Int.reduceMul,Int.reduceBEq,Int.reduceBNe,Int.reduceGT,Int.reduceGE,Nat.reduceGT,Int.reduceToNat,Int.reduceNeg,Nat.reduceLeDiff,Nat.reduceBEq,Nat.reduceBneDiff,Value.cells, ez, hi1, hi2, Int.toNat_natCast, ad, ix, g1, g2, w1]
          refine ⟨_, ?_, i + 1, rfl, by omega, rfl, ?_⟩
          · omega
          · rw [List.take_succ_eq_append_getElem hlt, List.all_append, ha]; simp [g]
        · have hf : s.all (fun b => decide (33 ≤ b.toNat ∧ b.toNat ≤ 126)) = false := by
            rw [List.all_eq_false]
            exact ⟨s[i], List.getElem_mem hlt, by simpa using g⟩
          by_cases g1 : (s[i].toNat : Int) < 33
          · simp -implicitDefEqProofs only [zB1,zB2,zB3,zB4,zB5,zB6,zB7,zB8,zB9,zB10,zB11,y00,y01,y02,y03,y04,y05,y06,y07,y08,y09,y0a,y0b,y0c,y0d,y0e,y0f,y0g,y0h,y0i,y0j,y0k,y0l,y0m,y0n,y0o,y0p,y0q,y0r,y0s,y0t,y0u,y0v,y0w,y0x,y0y,y0z,y10,y11,y12,y13,y14,y15,y16,y17,y18,y19,y1a,y1b,y1c,y1d,y1e,y1f,y1g,y1h,y1i,y1j,y1k,y1l,y1m,y1n,y1o,y1p,y1q,y1r,retO,retL,retV,z6i,allV,allP,z6j,z6m,z6n,z6t,z6u,z6v,binV,eqV,unV,oOpt,reduceIte,reduceCtorEq,Nat.reduceEqDiff,Nat.reduceAdd,Nat.reduceMul,Nat.reduceLT,Nat.reduceSub,Int.reduceLT,Int.reduceLE,Int.reduceEq,Int.reduceNe,Int.reduceSub,Int.reduceAdd,Int.reduceMul,Int.reduceBEq,Int.reduceBNe,Int.reduceGT,Int.reduceGE,Nat.reduceGT,Int.reduceToNat,Int.reduceNeg,Nat.reduceLeDiff,Nat.reduceBEq,Nat.reduceBneDiff,Value.cells, ez, hi1, hi2, Int.toNat_natCast, ad, ix, g1, hf]
          · have g2 : (126 : Int) < s[i].toNat := by omega
            simp -implicitDefEqProofs only [zB1,zB2,zB3,zB4,zB5,zB6,zB7,zB8,zB9,zB10,zB11,y00,y01,y02,y03,y04,y05,y06,y07,y08,y09,y0a,y0b,y0c,y0d,y0e,y0f,y0g,y0h,y0i,y0j,y0k,y0l,y0m,y0n,y0o,y0p,y0q,y0r,y0s,y0t,y0u,y0v,y0w,y0x,y0y,y0z,y10,y11,y12,y13,y14,y15,y16,y17,y18,y19,y1a,y1b,y1c,y1d,y1e,y1f,y1g,y1h,y1i,y1j,y1k,y1l,y1m,y1n,y1o,y1p,y1q,y1r,retO,retL,retV,z6i,allV,allP,z6j,z6m,z6n,z6t,z6u,z6v,binV,eqV,unV,oOpt,reduceIte,reduceCtorEq,Nat.reduceEqDiff,Nat.reduceAdd,Nat.reduceMul,Nat.reduceLT,Nat.reduceSub,Int.reduceLT,Int.reduceLE,Int.reduceEq,Int.reduceNe,Int.reduceSub,Int.reduceAdd,Int.reduceMul,Int.reduceBEq,Int.reduceBNe,Int.reduceGT,Int.reduceGE,Nat.reduceGT,Int.reduceToNat,Int.reduceNeg,Nat.reduceLeDiff,Nat.reduceBEq,Nat.reduceBneDiff,Value.cells, ez, hi1, hi2, Int.toNat_natCast, ad, ix, g1, g2, hf]
      · have hi1 : ¬ (i : Int) < s.length := by omega
        have e : i = s.length := by omega
        subst e
        rw [List.take_length] at ha
        rw [ha]
        simp -implicitDefEqProofs only [zB1,zB2,zB3,zB4,zB5,zB6,zB7,zB8,zB9,zB10,zB11,y00,y01,y02,y03,y04,y05,y06,y07,y08,y09,y0a,y0b,y0c,y0d,y0e,y0f,y0g,y0h,y0i,y0j,y0k,y0l,y0m,y0n,y0o,y0p,y0q,y0r,y0s,y0t,y0u,y0v,y0w,y0x,y0y,y0z,y10,y11,y12,y13,y14,y15,y16,y17,y18,y19,y1a,y1b,y1c,y1d,y1e,y1f,y1g,y1h,y1i,y1j,y1k,y1l,y1m,y1n,y1o,y1p,y1q,y1r,retO,retL,retV,z6i,allV,allP,z6j,z6m,z6n,z6t,z6u,z6v,binV,eqV,unV,oOpt,reduceIte,reduceCtorEq,Nat.reduceEqDiff,Nat.reduceAdd,Nat.reduceMul,Nat.reduceLT,Nat.reduceSub,Int.reduceLT,Int.reduceLE,Int.reduceEq,Int.reduceNe,Int.reduceSub,Int.reduceAdd,Int.reduceMul,Int.reduceBEq,Int.reduceBNe,Int.reduceGT,Int.reduceGE,Nat.reduceGT,Int.reduceToNat,Int.reduceNeg,Nat.reduceLeDiff,Nat.reduceBEq,Nat.reduceBneDiff,Value.cells, ez, hi1]
    · have g2' : (20 : Int) < s.length := by omega
      have e0 : (s.all (fun b => decide (33 ≤ b.toNat ∧ b.toNat ≤ 126)) && decide (1 ≤ s.length) && decide (s.length ≤ 20)) = false := by simp [g2]
      rw [e0]
      simp -implicitDefEqProofs only [zB1,zB2,zB3,zB4,zB5,zB6,zB7,zB8,zB9,zB10,zB11,y00,y01,y02,y03,y04,y05,y06,y07,y08,y09,y0a,y0b,y0c,y0d,y0e,y0f,y0g,y0h,y0i,y0j,y0k,y0l,y0m,y0n,y0o,y0p,y0q,y0r,y0s,y0t,y0u,y0v,y0w,y0x,y0y,y0z,y10,y11,y12,y13,y14,y15,y16,y17,y18,y19,y1a,y1b,y1c,y1d,y1e,y1f,y1g,y1h,y1i,y1j,y1k,y1l,y1m,y1n,y1o,y1p,y1q,y1r,retO,retL,retV,z6i,allV,allP,z6j,z6m,z6n,z6t,z6u,z6v,binV,eqV,unV,oOpt,reduceIte,reduceCtorEq,Nat.reduceEqDiff,Nat.reduceAdd,Nat.reduceMul,Nat.reduceLT,Nat.reduceSub,Int.reduceLT,Int.reduceLE,Int.reduceEq,Int.reduceNe,Int.reduceSub,Int.reduceAdd,Int.reduceMul,Int.reduceBEq,Int.reduceBNe,Int.reduceGT,Int.reduceGE,Nat.reduceGT,Int.reduceToNat,Int.reduceNeg,Nat.reduceLeDiff,Nat.reduceBEq,Nat.reduceBneDiff,Value.cells, ez, g1', g2']
  · have g1' : (s.length : Int) < 1 := by omega
    have e0 : (s.all (fun b => decide (33 ≤ b.toNat ∧ b.toNat ≤ 126)) && decide (1 ≤ s.length) && decide (s.length ≤ 20)) = false := by simp [g1]
    rw [e0]
    simp -implicitDefEqProofs only [zB1,zB2,zB3,zB4,zB5,zB6,zB7,zB8,zB9,zB10,zB11,y00,y01,y02,y03,y04,y05,y06,y07,y08,y09,y0a,y0b,y0c,y0d,y0e,y0f,y0g,y0h,y0i,y0j,y0k,y0l,y0m,y0n,y0o,y0p,y0q,y0r,y0s,y0t,y0u,y0v,y0w,y0x,y0y,y0z,y10,y11,y12,y13,y14,y15,y16,y17,y18,y19,y1a,y1b,y1c,y1d,y1e,y1f,y1g,y1h,y1i,y1j,y1k,y1l,y1m,y1n,y1o,y1p,y1q,y1r,retO,retL,retV,z6i,allV,allP,z6j,z6m,z6n,z6t,z6u,z6v,binV,eqV,unV,oOpt,reduceIte,reduceCtorEq,Nat.reduceEqDiff,Nat.reduceAdd,Nat.reduceMul,Nat.reduceLT,Nat.reduceSub,Int.reduceLT,Int.reduceLE,Int.reduceEq,Int.reduceNe,Int.reduceSub,Int.reduceAdd,Int.reduceMul,Int.reduceBEq,Int.reduceBNe,Int.reduceGT,Int.reduceGE,Nat.reduceGT,Int.reduceToNat,Int.reduceNeg,Nat.reduceLeDiff,Nat.reduceBEq,Nat.reduceBneDiff,Value.cells, ez, g1']
theorem ref_stays_c (E : EnvT tab) (H : Heap) (keep : U64) (i : Nat) (hi : i ≤ 4611686018427387904) :
    ACallN E.toEnv n_bandboxref11_stays [.int .u64 keep.toNat, .int .i64 i] H fun r H' => H' = H ∧ r = .bool (staysF keep i) := by
  refine acall h_bandboxref11_stays ir_bandboxref11_stays rfl rfl (wpA_sound ?_)
  unfold ir_bandboxref11_stays
  unfold staysF
  by_cases h : 63 < i
  · have h' : (63 : Int) < i := by omega
    have e : min i 63 = 63 := by omega
    have w : IntKind.u64.wrap 63 = 63 := by decide
    rw [e]
    simp -implicitDefEqProofs only [zB1,zB2,zB3,zB4,zB5,zB6,zB7,zB8,zB9,zB10,zB11,y00,y01,y02,y03,y04,y05,y06,y07,y08,y09,y0a,y0b,y0c,y0d,y0e,y0f,y0g,y0h,y0i,y0j,y0k,y0l,y0m,y0n,y0o,y0p,y0q,y0r,y0s,y0t,y0u,y0v,y0w,y0x,y0y,y0z,y10,y11,y12,y13,y14,y15,y16,y17,y18,y19,y1a,y1b,y1c,y1d,y1e,y1f,y1g,y1h,y1i,y1j,y1k,y1l,y1m,y1n,y1o,y1p,y1q,y1r,retO,retL,retV,z6i,allV,allP,z6j,z6m,z6n,z6t,z6u,z6v,binV,eqV,unV,oOpt,reduceIte,reduceCtorEq,Nat.reduceEqDiff,Nat.reduceAdd,Nat.reduceMul,Nat.reduceLT,Nat.reduceSub,Int.reduceLT,Int.reduceLE,Int.reduceEq,Int.reduceNe,Int.reduceSub,Int.reduceAdd,Int.reduceMul,Int.reduceBEq,Int.reduceBNe,Int.reduceGT,Int.reduceGE,Nat.reduceGT,Int.reduceToNat,Int.reduceNeg,Nat.reduceLeDiff,Nat.reduceBEq,Nat.reduceBneDiff,Value.cells, h', w]
    have e2 : Int.toNat 63 = 63 := rfl
    rw [stays_int keep 63 (by omega)]
  · have h' : ¬ (63 : Int) < i := by omega
    have e : min i 63 = i := by omega
    have w : IntKind.u64.wrap (i : Int) = i := by simp only [IntKind.wrap, IntKind.bits, IntKind.signed]; simp; omega
    have h0 : ¬ (i : Int) < 0 := by omega
    rw [e]
    simp -implicitDefEqProofs only [zB1,zB2,zB3,zB4,zB5,zB6,zB7,zB8,zB9,zB10,zB11,y00,y01,y02,y03,y04,y05,y06,y07,y08,y09,y0a,y0b,y0c,y0d,y0e,y0f,y0g,y0h,y0i,y0j,y0k,y0l,y0m,y0n,y0o,y0p,y0q,y0r,y0s,y0t,y0u,y0v,y0w,y0x,y0y,y0z,y10,y11,y12,y13,y14,y15,y16,y17,y18,y19,y1a,y1b,y1c,y1d,y1e,y1f,y1g,y1h,y1i,y1j,y1k,y1l,y1m,y1n,y1o,y1p,y1q,y1r,retO,retL,retV,z6i,allV,allP,z6j,z6m,z6n,z6t,z6u,z6v,binV,eqV,unV,oOpt,reduceIte,reduceCtorEq,Nat.reduceEqDiff,Nat.reduceAdd,Nat.reduceMul,Nat.reduceLT,Nat.reduceSub,Int.reduceLT,Int.reduceLE,Int.reduceEq,Int.reduceNe,Int.reduceSub,Int.reduceAdd,Int.reduceMul,Int.reduceBEq,Int.reduceBNe,Int.reduceGT,Int.reduceGE,Nat.reduceGT,Int.reduceToNat,Int.reduceNeg,Nat.reduceLeDiff,Nat.reduceBEq,Nat.reduceBneDiff,Value.cells, h', w, h0, Int.toNat_natCast]
    rw [stays_int keep i (by omega)]
/-- A file of the document's, its values in a row. -/
def RowW (H : Heap) (x : List UInt8 × FileF) (c : List Value) : Prop := ∃ sv wv, c = [strV x.1, sv, wv] ∧ SlB H sv x.2.safe ∧ SlL H wv x.2.writes
def RowsW (H : Heap) (L : Files) (cs : List (List Value)) : Prop := cs.length = L.length ∧ ∀ i (h1 : i < cs.length) (h2 : i < L.length), RowW H L[i] cs[i]
theorem RowW.le {H H' : Heap} (h : H.le H') {x : List UInt8 × FileF} {c : List Value} (r : RowW H x c) : RowW H' x c := by
  obtain ⟨sv, wv, e, s1, s2⟩ := r
  exact ⟨sv, wv, e, s1.le h, s2.le h⟩
theorem RowsW.le {H H' : Heap} (h : H.le H') {L : Files} {cs : List (List Value)} (r : RowsW H L cs) : RowsW H' L cs := ⟨r.1, fun i h1 h2 => (r.2 i h1 h2).le h⟩
theorem RowsW.all3 {H : Heap} {L : Files} {cs : List (List Value)} (r : RowsW H L cs) : all3 cs := by
  intro c hc
  obtain ⟨i, hi, rfl⟩ := List.getElem_of_mem hc
  obtain ⟨sv, wv, e, -⟩ := r.2 i hi (by rw [← r.1]; exact hi)
  rw [e]; rfl
/-- The document's disk at its place. -/
structure WRV (κ : Pal) (H : Heap) (w : Nat) (D : DiskF) (lv : Value) (cs : List (List Value)) : Prop where
  k : κ w = some (w, 0, 0)
  q : H w = some (.own 0 [.int .i64 D.room, lv, .bool (!D.on), .int .i64 D.lives] 4)
  o : OwK κ (w, 0, 1) H 3 lv D.files.length cs.flatten
  r : RowsW (H.bare κ) D.files cs
def WR (κ : Pal) (H : Heap) (w : Nat) (D : DiskF) : Prop := ∃ lv cs, WRV κ H w D lv cs
def wC (w : Nat) : Col → Prop := fun c => c.1 = w
theorem WRV.ext {cs' : Col → Prop} {κ κ' : Pal} {H H' : Heap} {w : Nat} {D : DiskF} {lv : Value} {cs : List (List Value)} (R : WRV κ H w D lv cs) (e : Ext cs' κ H κ' H') (n : ∀ c : Col, c.1 = w → ¬ cs' c) : WRV κ' H' w D lv cs := by
  obtain ⟨g1, g2⟩ := e.blk R.k (n _ rfl) R.q
  exact ⟨g2, g1, e.own (n _ rfl) R.o, R.r.le e.bare⟩
theorem WR.ext {cs' : Col → Prop} {κ κ' : Pal} {H H' : Heap} {w : Nat} {D : DiskF} (R : WR κ H w D) (e : Ext cs' κ H κ' H') (n : ∀ c : Col, c.1 = w → ¬ cs' c) : WR κ' H' w D := by
  obtain ⟨lv, cs, R⟩ := R
  exact ⟨lv, cs, R.ext e n⟩
theorem WRV.le {κ : Pal} {H H' : Heap} {w : Nat} {D : DiskF} {lv : Value} {cs : List (List Value)} (R : WRV κ H w D lv cs) (h : H.le H') : WRV κ H' w D lv cs := R.ext (Ext.le (cs := fun _ => False) h) (fun _ _ q => q)
theorem WR.le {κ : Pal} {H H' : Heap} {w : Nat} {D : DiskF} (R : WR κ H w D) (h : H.le H') : WR κ H' w D := R.ext (Ext.le (cs := fun _ => False) h) (fun _ _ q => q)
/-- The cells of a file in its row. -/
theorem WRV.at' {κ : Pal} {H : Heap} {w : Nat} {D : DiskF} {lv : Value} {cs : List (List Value)} (R : WRV κ H w D lv cs) {i : Nat} (hi : i < D.files.length) :
    ∃ b o c sv wv, lv = .slice (some ⟨b, o, none⟩) D.files.length c ∧ (∃ h : i < cs.length, cs[i] = [strV D.files[i].1, sv, wv]) ∧ SlB (H.bare κ) sv D.files[i].2.safe ∧ SlL (H.bare κ) wv D.files[i].2.writes ∧
      ∀ G, H.le G → hcells G ⟨b, o + i * 3, none⟩ 3 = some [strV D.files[i].1, sv, wv] ∧ hcell G ⟨b, o + i * 3, none⟩ = some (strV D.files[i].1) ∧ hcell G ⟨b, o + i * 3 + 2, none⟩ = some wv := by
  have h3 := R.r.all3
  have hl := R.r.1
  have hic : i < cs.length := by omega
  obtain ⟨sv, wv, e, s1, s2⟩ := R.r.2 i hic hi
  obtain ⟨b, o, c, hv, hc, hcl⟩ := R.o.sl.ptr (by omega) (by omega)
  refine ⟨b, o, c, sv, wv, hv, ⟨hic, e⟩, s1, s2, fun G le => ?_⟩
  have hcl' := hcells_le le hcl
  rw [Nat.mul_comm i 3]
  have k0 := hcell_of hcl' (3 * i) (by omega)
  have k2 := hcell_of hcl' (3 * i + 2) (by omega)
  rw [flat3_get (k := 2) h3 hic (by omega), e] at k2
  have k0' := flat3_get (k := 0) h3 hic (by omega)
  rw [Nat.add_zero] at k0'
  rw [k0', e] at k0
  have k3 := hcells_sub hcl' (3 * i) 3 (by omega)
  rw [flat3_at h3 hic, e] at k3
  exact ⟨k3, k0, k2⟩
theorem ref_all_c (E : EnvT tab) {H : Heap} (nm sv wv : Value) (hn : one nm = true) {F : FileF} (s1 : SlB H sv F.safe) (s2 : SlL H wv F.writes) (ok : F.ok) :
    ACallN E.toEnv n_bandboxref11_File_all [.agg #[nm, sv, wv]] H fun r H' => H.le H' ∧ OwB H H' r F.all := by
  refine acall h_bandboxref11_File_all ir_bandboxref11_File_all rfl rfl (wpA_sound ?_)
  unfold ir_bandboxref11_File_all
  have hs := ok.safe
  have hf := ok.flat
  have hw := ok.1
  obtain ⟨bs, cs, rfl⟩ := Sl.shape s1
  obtain ⟨bw, cw, rfl⟩ := s2.shape
  simp -implicitDefEqProofs only [zB1,zB2,zB3,zB4,zB5,zB6,zB7,zB8,zB9,zB10,zB11,y00,y01,y02,y03,y04,y05,y06,y07,y08,y09,y0a,y0b,y0c,y0d,y0e,y0f,y0g,y0h,y0i,y0j,y0k,y0l,y0m,y0n,y0o,y0p,y0q,y0r,y0s,y0t,y0u,y0v,y0w,y0x,y0y,y0z,y10,y11,y12,y13,y14,y15,y16,y17,y18,y19,y1a,y1b,y1c,y1d,y1e,y1f,y1g,y1h,y1i,y1j,y1k,y1l,y1m,y1n,y1o,y1p,y1q,y1r,retO,retL,retV,z6i,allV,allP,z6j,z6m,z6n,z6t,z6u,z6v,binV,eqV,unV,oOpt,reduceIte,reduceCtorEq,Nat.reduceEqDiff,Nat.reduceAdd,Nat.reduceMul,Nat.reduceLT,Nat.reduceSub,Int.reduceLT,Int.reduceLE,Int.reduceEq,Int.reduceNe,Int.reduceSub,Int.reduceAdd,Int.reduceMul,Int.reduceBEq,Int.reduceBNe,Int.reduceGT,Int.reduceGE,Nat.reduceGT,Int.reduceToNat,Int.reduceNeg,Nat.reduceLeDiff,Nat.reduceBEq,Nat.reduceBneDiff,Value.cells, hn]
  intro b hb
  try simp -implicitDefEqProofs only [zB1,zB2,zB3,zB4,zB5,zB6,zB7,zB8,zB9,zB10,zB11,y00,y01,y02,y03,y04,y05,y06,y07,y08,y09,y0a,y0b,y0c,y0d,y0e,y0f,y0g,y0h,y0i,y0j,y0k,y0l,y0m,y0n,y0o,y0p,y0q,y0r,y0s,y0t,y0u,y0v,y0w,y0x,y0y,y0z,y10,y11,y12,y13,y14,y15,y16,y17,y18,y19,y1a,y1b,y1c,y1d,y1e,y1f,y1g,y1h,y1i,y1j,y1k,y1l,y1m,y1n,y1o,y1p,y1q,y1r,retO,retL,retV,z6i,allV,allP,z6j,z6m,z6n,z6t,z6u,z6v,binV,eqV,unV,oOpt,reduceIte,reduceCtorEq,Nat.reduceEqDiff,Nat.reduceAdd,Nat.reduceMul,Nat.reduceLT,Nat.reduceSub,Int.reduceLT,Int.reduceLE,Int.reduceEq,Int.reduceNe,Int.reduceSub,Int.reduceAdd,Int.reduceMul,Int.reduceBEq,Int.reduceBNe,Int.reduceGT,Int.reduceGE,Nat.reduceGT,Int.reduceToNat,Int.reduceNeg,Nat.reduceLeDiff,Nat.reduceBEq,Nat.reduceBneDiff,Value.cells]
  unfold ir_bandboxref11_File_all_5
  have le1 := Heap.le_set (Heap.le_refl H) hb (.own 0 [nm, .slice bs F.safe.length cs, .slice bw F.writes.length cw] 3)
  have q1 : (H.set b (.own 0 [nm, .slice bs F.safe.length cs, .slice bw F.writes.length cw] 3)) b = some (.own 0 [nm, .slice bs F.safe.length cs, .slice bw F.writes.length cw] 3) := Heap.set_self _ _ _
  generalize (H.set b (.own 0 [nm, .slice bs F.safe.length cs, .slice bw F.writes.length cw] 3)) = H1 at le1 q1
  have c1 : ∀ G, H1.le G → hcell G ⟨b, 1, none⟩ = some (.slice bs F.safe.length cs) := fun G x => by rw [hcell_at (x _ _ q1) (by simp)]; rfl
  have c2 : ∀ G, H1.le G → hcell G ⟨b, 2, none⟩ = some (.slice bw F.writes.length cw) := fun G x => by rw [hcell_at (x _ _ q1) (by simp)]; rfl
  simp -implicitDefEqProofs only [zB1,zB2,zB3,zB4,zB5,zB6,zB7,zB8,zB9,zB10,zB11,y00,y01,y02,y03,y04,y05,y06,y07,y08,y09,y0a,y0b,y0c,y0d,y0e,y0f,y0g,y0h,y0i,y0j,y0k,y0l,y0m,y0n,y0o,y0p,y0q,y0r,y0s,y0t,y0u,y0v,y0w,y0x,y0y,y0z,y10,y11,y12,y13,y14,y15,y16,y17,y18,y19,y1a,y1b,y1c,y1d,y1e,y1f,y1g,y1h,y1i,y1j,y1k,y1l,y1m,y1n,y1o,y1p,y1q,y1r,retO,retL,retV,z6i,allV,allP,z6j,z6m,z6n,z6t,z6u,z6v,binV,eqV,unV,oOpt,reduceIte,reduceCtorEq,Nat.reduceEqDiff,Nat.reduceAdd,Nat.reduceMul,Nat.reduceLT,Nat.reduceSub,Int.reduceLT,Int.reduceLE,Int.reduceEq,Int.reduceNe,Int.reduceSub,Int.reduceAdd,Int.reduceMul,Int.reduceBEq,Int.reduceBNe,Int.reduceGT,Int.reduceGE,Nat.reduceGT,Int.reduceToNat,Int.reduceNeg,Nat.reduceLeDiff,Nat.reduceBEq,Nat.reduceBneDiff,Value.cells, List.flatten_nil, List.replicate_zero]
  intro b2 hb2
  try simp -implicitDefEqProofs only [zB1,zB2,zB3,zB4,zB5,zB6,zB7,zB8,zB9,zB10,zB11,y00,y01,y02,y03,y04,y05,y06,y07,y08,y09,y0a,y0b,y0c,y0d,y0e,y0f,y0g,y0h,y0i,y0j,y0k,y0l,y0m,y0n,y0o,y0p,y0q,y0r,y0s,y0t,y0u,y0v,y0w,y0x,y0y,y0z,y10,y11,y12,y13,y14,y15,y16,y17,y18,y19,y1a,y1b,y1c,y1d,y1e,y1f,y1g,y1h,y1i,y1j,y1k,y1l,y1m,y1n,y1o,y1p,y1q,y1r,retO,retL,retV,z6i,allV,allP,z6j,z6m,z6n,z6t,z6u,z6v,binV,eqV,unV,oOpt,reduceIte,reduceCtorEq,Nat.reduceEqDiff,Nat.reduceAdd,Nat.reduceMul,Nat.reduceLT,Nat.reduceSub,Int.reduceLT,Int.reduceLE,Int.reduceEq,Int.reduceNe,Int.reduceSub,Int.reduceAdd,Int.reduceMul,Int.reduceBEq,Int.reduceBNe,Int.reduceGT,Int.reduceGE,Nat.reduceGT,Int.reduceToNat,Int.reduceNeg,Nat.reduceLeDiff,Nat.reduceBEq,Nat.reduceBneDiff,Value.cells]
  have le2 := Heap.le_set (Heap.le_refl H1) hb2 (.own 0 [] 0)
  have c12 := c1 _ le2
  simp -implicitDefEqProofs only [zB1,zB2,zB3,zB4,zB5,zB6,zB7,zB8,zB9,zB10,zB11,y00,y01,y02,y03,y04,y05,y06,y07,y08,y09,y0a,y0b,y0c,y0d,y0e,y0f,y0g,y0h,y0i,y0j,y0k,y0l,y0m,y0n,y0o,y0p,y0q,y0r,y0s,y0t,y0u,y0v,y0w,y0x,y0y,y0z,y10,y11,y12,y13,y14,y15,y16,y17,y18,y19,y1a,y1b,y1c,y1d,y1e,y1f,y1g,y1h,y1i,y1j,y1k,y1l,y1m,y1n,y1o,y1p,y1q,y1r,retO,retL,retV,z6i,allV,allP,z6j,z6m,z6n,z6t,z6u,z6v,binV,eqV,unV,oOpt,reduceIte,reduceCtorEq,Nat.reduceEqDiff,Nat.reduceAdd,Nat.reduceMul,Nat.reduceLT,Nat.reduceSub,Int.reduceLT,Int.reduceLE,Int.reduceEq,Int.reduceNe,Int.reduceSub,Int.reduceAdd,Int.reduceMul,Int.reduceBEq,Int.reduceBNe,Int.reduceGT,Int.reduceGE,Nat.reduceGT,Int.reduceToNat,Int.reduceNeg,Nat.reduceLeDiff,Nat.reduceBEq,Nat.reduceBneDiff,Value.cells, c12]
  refine appendP_ow (n := 0) (cells := []) (m := F.safe.length) (news := F.safe.map u8V) le2 (by omega) (Ow.new (c := 0) (sz := 0) (Heap.le_refl _) hb2 rfl (by omega) (by omega)) (s1.le (Heap.le_trans le1 le2)) (one_u8 _) (by omega) (by omega) ?_
  intro v h3 o3 le3
  rw [Nat.zero_add, List.nil_append] at o3
  obtain ⟨vb, vc, rfl⟩ := Sl.shape o3.sl
  simp -implicitDefEqProofs only [zB1,zB2,zB3,zB4,zB5,zB6,zB7,zB8,zB9,zB10,zB11,y00,y01,y02,y03,y04,y05,y06,y07,y08,y09,y0a,y0b,y0c,y0d,y0e,y0f,y0g,y0h,y0i,y0j,y0k,y0l,y0m,y0n,y0o,y0p,y0q,y0r,y0s,y0t,y0u,y0v,y0w,y0x,y0y,y0z,y10,y11,y12,y13,y14,y15,y16,y17,y18,y19,y1a,y1b,y1c,y1d,y1e,y1f,y1g,y1h,y1i,y1j,y1k,y1l,y1m,y1n,y1o,y1p,y1q,y1r,retO,retL,retV,z6i,allV,allP,z6j,z6m,z6n,z6t,z6u,z6v,binV,eqV,unV,oOpt,reduceIte,reduceCtorEq,Nat.reduceEqDiff,Nat.reduceAdd,Nat.reduceMul,Nat.reduceLT,Nat.reduceSub,Int.reduceLT,Int.reduceLE,Int.reduceEq,Int.reduceNe,Int.reduceSub,Int.reduceAdd,Int.reduceMul,Int.reduceBEq,Int.reduceBNe,Int.reduceGT,Int.reduceGE,Nat.reduceGT,Int.reduceToNat,Int.reduceNeg,Nat.reduceLeDiff,Nat.reduceBEq,Nat.reduceBneDiff,Value.cells]
  have sw := s2.le le1
  refine wp_loop' (fun m t G => H1.le G ∧ ∃ (i : Nat) (av : Value) (X : List UInt8), t = tl [(1, .pointer (some ⟨b, 0, none⟩)), (3, av), (4, .int .i64 i)] ∧ i ≤ F.writes.length ∧ m = F.writes.length - i ∧ X = F.safe ++ (F.writes.take i).flatten ∧ Ow H1 G 1 av X.length (X.map u8V)) F.writes.length
    ⟨le3, 0, _, F.safe, rfl, by omega, by omega, by simp, o3⟩ ?_
  rintro m t G ⟨leG, i, av, X, rfl, hi, rfl, hX, o⟩
  obtain ⟨ab, ac, rfl⟩ := Sl.shape o.sl
  have c2G := c2 G leG
  by_cases hlt : i < F.writes.length
  · have hi1 : (i : Int) < F.writes.length := by omega
    have hi2 : (0 : Int) ≤ i := by omega
    have w1 : IntKind.i64.wrap ((i : Int) + 1) = ((i + 1 : Nat) : Int) := wrapN (by omega)
    obtain ⟨b', o', bi, ci, rfl, si, ciH⟩ := sw.at' i hlt
    have cG := ciH G leG
    have et : (F.writes.take (i + 1)).flatten = (F.writes.take i).flatten ++ F.writes[i] := by
      rw [List.take_succ_eq_append_getElem hlt, List.flatten_append, List.flatten_singleton]
    have lt : (F.writes.take (i + 1)).flatten.length ≤ F.writes.flatten.length := by
      conv => rhs; rw [← List.take_append_drop (i + 1) F.writes]
      rw [List.flatten_append, List.length_append]; omega
    have lt2 := congrArg List.length et
    rw [List.length_append] at lt2
    have lX := congrArg List.length hX
    rw [List.length_append] at lX
    simp -implicitDefEqProofs only [zB1,zB2,zB3,zB4,zB5,zB6,zB7,zB8,zB9,zB10,zB11,y00,y01,y02,y03,y04,y05,y06,y07,y08,y09,y0a,y0b,y0c,y0d,y0e,y0f,y0g,y0h,y0i,y0j,y0k,y0l,y0m,y0n,y0o,y0p,y0q,y0r,y0s,y0t,y0u,y0v,y0w,y0x,y0y,y0z,y10,y11,y12,y13,y14,y15,y16,y17,y18,y19,y1a,y1b,y1c,y1d,y1e,y1f,y1g,y1h,y1i,y1j,y1k,y1l,y1m,y1n,y1o,y1p,y1q,y1r,retO,retL,retV,z6i,allV,allP,z6j,z6m,z6n,z6t,z6u,z6v,binV,eqV,unV,oOpt,reduceIte,reduceCtorEq,Nat.reduceEqDiff,Nat.reduceAdd,Nat.reduceMul,Nat.reduceLT,Nat.reduceSub,Int.reduceLT,Int.reduceLE,Int.reduceEq,Int.reduceNe,Int.reduceSub,Int.reduceAdd,Int.reduceMul,Int.reduceBEq,Int.reduceBNe,Int.reduceGT,Int.reduceGE,Nat.reduceGT,Int.reduceToNat,Int.reduceNeg,Nat.reduceLeDiff,Nat.reduceBEq,Nat.reduceBneDiff,Value.cells, c2G, hi1, hi2, Int.toNat_natCast, cG]
    refine appendP_ow leG (by omega) o (si.le leG) (one_u8 _) (by omega) (by omega) ?_
    intro v4 h4 o4 le4
    obtain ⟨vb4, vc4, rfl⟩ := Sl.shape o4.sl
    simp -implicitDefEqProofs only [zB1,zB2,zB3,zB4,zB5,zB6,zB7,zB8,zB9,zB10,zB11,y00,y01,y02,y03,y04,y05,y06,y07,y08,y09,y0a,y0b,y0c,y0d,y0e,y0f,y0g,y0h,y0i,y0j,y0k,y0l,y0m,y0n,y0o,y0p,y0q,y0r,y0s,y0t,y0u,y0v,y0w,y0x,y0y,y0z,y10,y11,y12,y13,y14,y15,y16,y17,y18,y19,y1a,y1b,y1c,y1d,y1e,y1f,y1g,y1h,y1i,y1j,y1k,y1l,y1m,y1n,y1o,y1p,y1q,y1r,retO,retL,retV,z6i,allV,allP,z6j,z6m,z6n,z6t,z6u,z6v,binV,eqV,unV,oOpt,reduceIte,reduceCtorEq,Nat.reduceEqDiff,Nat.reduceAdd,Nat.reduceMul,Nat.reduceLT,Nat.reduceSub,Int.reduceLT,Int.reduceLE,Int.reduceEq,Int.reduceNe,Int.reduceSub,Int.reduceAdd,Int.reduceMul,Int.reduceBEq,Int.reduceBNe,Int.reduceGT,Int.reduceGE,Nat.reduceGT,Int.reduceToNat,Int.reduceNeg,Nat.reduceLeDiff,Nat.reduceBEq,Nat.reduceBneDiff,Value.cells, w1]
    refine ⟨_, ?_, le4, i + 1, _, X ++ F.writes[i], rfl, by omega, rfl, by rw [et, ← List.append_assoc, hX], ?_⟩
    · omega
    · rw [List.map_append, List.length_append]
      exact o4
  · have hi1 : ¬ (i : Int) < F.writes.length := by omega
    have e : i = F.writes.length := by omega
    subst e
    rw [List.take_length] at hX
    have hX' : X = F.all := hX
    subst hX'
    simp -implicitDefEqProofs only [zB1,zB2,zB3,zB4,zB5,zB6,zB7,zB8,zB9,zB10,zB11,y00,y01,y02,y03,y04,y05,y06,y07,y08,y09,y0a,y0b,y0c,y0d,y0e,y0f,y0g,y0h,y0i,y0j,y0k,y0l,y0m,y0n,y0o,y0p,y0q,y0r,y0s,y0t,y0u,y0v,y0w,y0x,y0y,y0z,y10,y11,y12,y13,y14,y15,y16,y17,y18,y19,y1a,y1b,y1c,y1d,y1e,y1f,y1g,y1h,y1i,y1j,y1k,y1l,y1m,y1n,y1o,y1p,y1q,y1r,retO,retL,retV,z6i,allV,allP,z6j,z6m,z6n,z6t,z6u,z6v,binV,eqV,unV,oOpt,reduceIte,reduceCtorEq,Nat.reduceEqDiff,Nat.reduceAdd,Nat.reduceMul,Nat.reduceLT,Nat.reduceSub,Int.reduceLT,Int.reduceLE,Int.reduceEq,Int.reduceNe,Int.reduceSub,Int.reduceAdd,Int.reduceMul,Int.reduceBEq,Int.reduceBNe,Int.reduceGT,Int.reduceGE,Nat.reduceGT,Int.reduceToNat,Int.reduceNeg,Nat.reduceLeDiff,Nat.reduceBEq,Nat.reduceBneDiff,Value.cells, c2G, hi1]
    exact ⟨Heap.le_trans le1 leG, o.since le1⟩
section
variable {κ : Pal} {H : Heap} {w : Nat} {D : DiskF}
/-- The place of a name. -/
def idxF : Files → List UInt8 → Nat
  | [], _ => 0
  | x :: L, s => if x.1 = s then 0 else idxF L s + 1
theorem idxF_app : ∀ (A B : Files) (s : List UInt8), (∀ x ∈ A, x.1 ≠ s) → idxF (A ++ B) s = A.length + idxF B s
  | [], B, s, _ => by simp
  | x :: A, B, s, h => by
    have h1 := h x (by simp)
    have h2 := idxF_app A B s fun y hy => h y (by simp [hy])
    rw [List.cons_append, idxF, if_neg h1, h2, List.length_cons]; omega
theorem idxF_none {L : Files} {s : List UInt8} (h : ∀ x ∈ L, x.1 ≠ s) : idxF L s = L.length := by
  have := idxF_app L [] s h
  rw [List.append_nil] at this
  rw [this]; rfl
theorem ref_find_c (E : EnvT tab) (R : WR κ H w D) (s : List UInt8) (hn : D.files.length ≤ 100000) :
    ACallN E.toEnv n_bandboxref11_Disk_find [ptrV w, strV s] H fun r H' => H' = H ∧ r = .int .i64 (if idxF D.files s < D.files.length then (idxF D.files s : Int) else -1) := by
  obtain ⟨lv, cs, R⟩ := R
  refine acall h_bandboxref11_Disk_find ir_bandboxref11_Disk_find rfl rfl (wpA_sound ?_)
  unfold ir_bandboxref11_Disk_find
  simp -implicitDefEqProofs only [zB1,zB2,zB3,zB4,zB5,zB6,zB7,zB8,zB9,zB10,zB11,y00,y01,y02,y03,y04,y05,y06,y07,y08,y09,y0a,y0b,y0c,y0d,y0e,y0f,y0g,y0h,y0i,y0j,y0k,y0l,y0m,y0n,y0o,y0p,y0q,y0r,y0s,y0t,y0u,y0v,y0w,y0x,y0y,y0z,y10,y11,y12,y13,y14,y15,y16,y17,y18,y19,y1a,y1b,y1c,y1d,y1e,y1f,y1g,y1h,y1i,y1j,y1k,y1l,y1m,y1n,y1o,y1p,y1q,y1r,retO,retL,retV,z6i,allV,allP,z6j,z6m,z6n,z6t,z6u,z6v,binV,eqV,unV,oOpt,reduceIte,reduceCtorEq,Nat.reduceEqDiff,Nat.reduceAdd,Nat.reduceMul,Nat.reduceLT,Nat.reduceSub,Int.reduceLT,Int.reduceLE,Int.reduceEq,Int.reduceNe,Int.reduceSub,Int.reduceAdd,Int.reduceMul,Int.reduceBEq,Int.reduceBNe,Int.reduceGT,Int.reduceGE,Nat.reduceGT,Int.reduceToNat,Int.reduceNeg,Nat.reduceLeDiff,Nat.reduceBEq,Nat.reduceBneDiff,Value.cells]
  unfold ir_bandboxref11_Disk_find_5
  simp -implicitDefEqProofs only [zB1,zB2,zB3,zB4,zB5,zB6,zB7,zB8,zB9,zB10,zB11,y00,y01,y02,y03,y04,y05,y06,y07,y08,y09,y0a,y0b,y0c,y0d,y0e,y0f,y0g,y0h,y0i,y0j,y0k,y0l,y0m,y0n,y0o,y0p,y0q,y0r,y0s,y0t,y0u,y0v,y0w,y0x,y0y,y0z,y10,y11,y12,y13,y14,y15,y16,y17,y18,y19,y1a,y1b,y1c,y1d,y1e,y1f,y1g,y1h,y1i,y1j,y1k,y1l,y1m,y1n,y1o,y1p,y1q,y1r,retO,retL,retV,z6i,allV,allP,z6j,z6m,z6n,z6t,z6u,z6v,binV,eqV,unV,oOpt,reduceIte,reduceCtorEq,Nat.reduceEqDiff,Nat.reduceAdd,Nat.reduceMul,Nat.reduceLT,Nat.reduceSub,Int.reduceLT,Int.reduceLE,Int.reduceEq,Int.reduceNe,Int.reduceSub,Int.reduceAdd,Int.reduceMul,Int.reduceBEq,Int.reduceBNe,Int.reduceGT,Int.reduceGE,Nat.reduceGT,Int.reduceToNat,Int.reduceNeg,Nat.reduceLeDiff,Nat.reduceBEq,Nat.reduceBneDiff,Value.cells]
  have c1 : hcell H ⟨w, 1, none⟩ = some lv := by rw [hcell_at R.q (by simp)]; rfl
  obtain ⟨lb, lc, rfl⟩ := Sl.shape R.o.sl
  refine wp_loop' (fun m t G => G = H ∧ ∃ i : Nat, t = tl [(0, ptrV w), (1, strV s), (5, .int .i64 i)] ∧ i ≤ D.files.length ∧ m = D.files.length - i ∧ ∀ x ∈ D.files.take i, x.1 ≠ s) D.files.length
    ⟨rfl, 0, rfl, by omega, by omega, by simp⟩ ?_
  rintro m t G ⟨rfl, i, rfl, hi, rfl, hno⟩
  by_cases hlt : i < D.files.length
  · have hi1 : (i : Int) < D.files.length := by omega
    have hi2 : (0 : Int) ≤ i := by omega
    have w1 : IntKind.i64.wrap ((i : Int) + 1) = ((i + 1 : Nat) : Int) := wrapN (by omega)
    obtain ⟨b, o, c, sv, wv, hv, -, -, -, hc⟩ := R.at' hlt
    simp only [Value.slice.injEq, true_and] at hv
    obtain ⟨rfl, rfl⟩ := hv
    obtain ⟨-, cn, -⟩ := hc G (Heap.le_refl _)
    have es : D.files = D.files.take i ++ D.files[i] :: D.files.drop (i + 1) := by
      conv => lhs; rw [← List.take_append_drop i D.files, List.drop_eq_getElem_cons hlt]
    have hx : idxF D.files s = i + (if D.files[i].1 = s then 0 else idxF (D.files.drop (i + 1)) s + 1) := by
      conv => lhs; rw [es]
      rw [idxF_app _ _ _ hno, List.length_take, idxF, show min i D.files.length = i by omega]
    by_cases g : D.files[i].1 = s
    · rw [if_pos g, Nat.add_zero] at hx
      simp -implicitDefEqProofs only [zB1,zB2,zB3,zB4,zB5,zB6,zB7,zB8,zB9,zB10,zB11,y00,y01,y02,y03,y04,y05,y06,y07,y08,y09,y0a,y0b,y0c,y0d,y0e,y0f,y0g,y0h,y0i,y0j,y0k,y0l,y0m,y0n,y0o,y0p,y0q,y0r,y0s,y0t,y0u,y0v,y0w,y0x,y0y,y0z,y10,y11,y12,y13,y14,y15,y16,y17,y18,y19,y1a,y1b,y1c,y1d,y1e,y1f,y1g,y1h,y1i,y1j,y1k,y1l,y1m,y1n,y1o,y1p,y1q,y1r,retO,retL,retV,z6i,allV,allP,z6j,z6m,z6n,z6t,z6u,z6v,binV,eqV,unV,oOpt,reduceIte,reduceCtorEq,Nat.reduceEqDiff,Nat.reduceAdd,Nat.reduceMul,Nat.reduceLT,Nat.reduceSub,Int.reduceLT,Int.reduceLE,Int.reduceEq,Int.reduceNe,Int.reduceSub,Int.reduceAdd,Int.reduceMul,Int.reduceBEq,Int.reduceBNe,Int.reduceGT,Int.reduceGE,Nat.reduceGT,Int.reduceToNat,Int.reduceNeg,Nat.reduceLeDiff,Nat.reduceBEq,Nat.reduceBneDiff,Value.cells, c1, hi1, hi2, Int.toNat_natCast, cn, g, hx, hlt, strV, str_toList]
    · have g2 : (D.files[i].1 == s) = false := by simpa using g
      simp -implicitDefEqProofs only [zB1,zB2,zB3,zB4,zB5,zB6,zB7,zB8,zB9,zB10,zB11,y00,y01,y02,y03,y04,y05,y06,y07,y08,y09,y0a,y0b,y0c,y0d,y0e,y0f,y0g,y0h,y0i,y0j,y0k,y0l,y0m,y0n,y0o,y0p,y0q,y0r,y0s,y0t,y0u,y0v,y0w,y0x,y0y,y0z,y10,y11,y12,y13,y14,y15,y16,y17,y18,y19,y1a,y1b,y1c,y1d,y1e,y1f,y1g,y1h,y1i,y1j,y1k,y1l,y1m,y1n,y1o,y1p,y1q,y1r,retO,retL,retV,z6i,allV,allP,z6j,z6m,z6n,z6t,z6u,z6v,binV,eqV,unV,oOpt,reduceIte,reduceCtorEq,Nat.reduceEqDiff,Nat.reduceAdd,Nat.reduceMul,Nat.reduceLT,Nat.reduceSub,Int.reduceLT,Int.reduceLE,Int.reduceEq,Int.reduceNe,Int.reduceSub,Int.reduceAdd,Int.reduceMul,Int.reduceBEq,Int.reduceBNe,Int.reduceGT,Int.reduceGE,Nat.reduceGT,Int.reduceToNat,Int.reduceNeg,Nat.reduceLeDiff,Nat.reduceBEq,Nat.reduceBneDiff,Value.cells, c1, hi1, hi2, Int.toNat_natCast, cn, strV, str_toList, g2, w1]
      refine ⟨_, ?_, i + 1, rfl, by omega, rfl, ?_⟩
      · omega
      · rw [List.take_succ_eq_append_getElem hlt]
        intro x hx2
        rcases List.mem_append.1 hx2 with hx2 | hx2
        · exact hno x hx2
        · rw [List.mem_singleton] at hx2; subst hx2; exact g
  · have hi1 : ¬ (i : Int) < D.files.length := by omega
    have e : i = D.files.length := by omega
    subst e
    rw [List.take_length] at hno
    have e2 := idxF_none hno
    simp -implicitDefEqProofs only [zB1,zB2,zB3,zB4,zB5,zB6,zB7,zB8,zB9,zB10,zB11,y00,y01,y02,y03,y04,y05,y06,y07,y08,y09,y0a,y0b,y0c,y0d,y0e,y0f,y0g,y0h,y0i,y0j,y0k,y0l,y0m,y0n,y0o,y0p,y0q,y0r,y0s,y0t,y0u,y0v,y0w,y0x,y0y,y0z,y10,y11,y12,y13,y14,y15,y16,y17,y18,y19,y1a,y1b,y1c,y1d,y1e,y1f,y1g,y1h,y1i,y1j,y1k,y1l,y1m,y1n,y1o,y1p,y1q,y1r,retO,retL,retV,z6i,allV,allP,z6j,z6m,z6n,z6t,z6u,z6v,binV,eqV,unV,oOpt,reduceIte,reduceCtorEq,Nat.reduceEqDiff,Nat.reduceAdd,Nat.reduceMul,Nat.reduceLT,Nat.reduceSub,Int.reduceLT,Int.reduceLE,Int.reduceEq,Int.reduceNe,Int.reduceSub,Int.reduceAdd,Int.reduceMul,Int.reduceBEq,Int.reduceBNe,Int.reduceGT,Int.reduceGE,Nat.reduceGT,Int.reduceToNat,Int.reduceNeg,Nat.reduceLeDiff,Nat.reduceBEq,Nat.reduceBneDiff,Value.cells, c1, hi1, e2, Nat.lt_irrefl]
theorem idx_split {L : Files} {s : List UInt8} (h : idxF L s < L.length) : ∃ A x B, L = A ++ x :: B ∧ (∀ y ∈ A, y.1 ≠ s) ∧ x.1 = s ∧ idxF L s = A.length := by
  induction L with
  | nil => simp [idxF] at h
  | cons x L ih =>
    by_cases g : x.1 = s
    · exact ⟨[], x, L, rfl, by simp, g, by unfold idxF; rw [if_pos g]; rfl⟩
    · unfold idxF at h ⊢
      rw [if_neg g] at h ⊢
      obtain ⟨A, y, B, e, h1, h2, h3⟩ := ih (by simp only [List.length_cons] at h; omega)
      exact ⟨x :: A, y, B, by rw [e]; rfl, by intro z hz; exact (List.mem_cons.1 hz).elim (fun e => e ▸ g) (h1 z), h2, by rw [h3]; rfl⟩
theorem idx_lack {L : Files} {s : List UInt8} (h : ¬ idxF L s < L.length) : ∀ x ∈ L, x.1 ≠ s := by
  induction L with
  | nil => simp
  | cons x L ih =>
    by_cases g : x.1 = s
    · unfold idxF at h; rw [if_pos g] at h; simp at h
    · unfold idxF at h
      rw [if_neg g, List.length_cons] at h
      intro z hz
      exact (List.mem_cons.1 hz).elim (fun e => e ▸ g) (ih (by omega) z)
theorem ref_ask_c (E : EnvT tab) (R : WR κ H w D) (s : List UInt8) (hs : s.length ≤ 9000000000000000000) (hn : D.files.length ≤ 100000) :
    ACallN E.toEnv n_bandboxref11_Disk_ask [ptrV w, strV s] H fun r H' => H' = H ∧
      ((askF D [s] ≠ 0 ∧ r = .tuple #[.int .i64 (-1), .int .i64 (askF D [s] : Nat)]) ∨ (askF D [s] = 0 ∧ (∀ x ∈ D.files, x.1 ≠ s) ∧ r = .tuple #[.int .i64 (-1), .int .i64 4]) ∨
      (askF D [s] = 0 ∧ ∃ A x B, D.files = A ++ x :: B ∧ (∀ y ∈ A, y.1 ≠ s) ∧ x.1 = s ∧ r = .tuple #[.int .i64 A.length, .int .i64 0])) := by
  have R0 := R
  obtain ⟨lv, cs, R⟩ := R
  refine acall h_bandboxref11_Disk_ask ir_bandboxref11_Disk_ask rfl rfl (wpA_sound ?_)
  unfold ir_bandboxref11_Disk_ask
  simp -implicitDefEqProofs only [zB1,zB2,zB3,zB4,zB5,zB6,zB7,zB8,zB9,zB10,zB11,y00,y01,y02,y03,y04,y05,y06,y07,y08,y09,y0a,y0b,y0c,y0d,y0e,y0f,y0g,y0h,y0i,y0j,y0k,y0l,y0m,y0n,y0o,y0p,y0q,y0r,y0s,y0t,y0u,y0v,y0w,y0x,y0y,y0z,y10,y11,y12,y13,y14,y15,y16,y17,y18,y19,y1a,y1b,y1c,y1d,y1e,y1f,y1g,y1h,y1i,y1j,y1k,y1l,y1m,y1n,y1o,y1p,y1q,y1r,retO,retL,retV,z6i,allV,allP,z6j,z6m,z6n,z6t,z6u,z6v,binV,eqV,unV,oOpt,reduceIte,reduceCtorEq,Nat.reduceEqDiff,Nat.reduceAdd,Nat.reduceMul,Nat.reduceLT,Nat.reduceSub,Int.reduceLT,Int.reduceLE,Int.reduceEq,Int.reduceNe,Int.reduceSub,Int.reduceAdd,Int.reduceMul,Int.reduceBEq,Int.reduceBNe,Int.reduceGT,Int.reduceGE,Nat.reduceGT,Int.reduceToNat,Int.reduceNeg,Nat.reduceLeDiff,Nat.reduceBEq,Nat.reduceBneDiff,Value.cells]
  unfold ir_bandboxref11_Disk_ask_7
  have c2 : hcell H ⟨w, 2, none⟩ = some (.bool (!D.on)) := by rw [hcell_at R.q (by simp)]; rfl
  by_cases on : D.on = true
  · rw [on] at c2
    simp -implicitDefEqProofs only [zB1,zB2,zB3,zB4,zB5,zB6,zB7,zB8,zB9,zB10,zB11,y00,y01,y02,y03,y04,y05,y06,y07,y08,y09,y0a,y0b,y0c,y0d,y0e,y0f,y0g,y0h,y0i,y0j,y0k,y0l,y0m,y0n,y0o,y0p,y0q,y0r,y0s,y0t,y0u,y0v,y0w,y0x,y0y,y0z,y10,y11,y12,y13,y14,y15,y16,y17,y18,y19,y1a,y1b,y1c,y1d,y1e,y1f,y1g,y1h,y1i,y1j,y1k,y1l,y1m,y1n,y1o,y1p,y1q,y1r,retO,retL,retV,z6i,allV,allP,z6j,z6m,z6n,z6t,z6u,z6v,binV,eqV,unV,oOpt,reduceIte,reduceCtorEq,Nat.reduceEqDiff,Nat.reduceAdd,Nat.reduceMul,Nat.reduceLT,Nat.reduceSub,Int.reduceLT,Int.reduceLE,Int.reduceEq,Int.reduceNe,Int.reduceSub,Int.reduceAdd,Int.reduceMul,Int.reduceBEq,Int.reduceBNe,Int.reduceGT,Int.reduceGE,Nat.reduceGT,Int.reduceToNat,Int.reduceNeg,Nat.reduceLeDiff,Nat.reduceBEq,Nat.reduceBneDiff,Value.cells, c2]
    refine (ref_May_c E H s hs).mono ?_
    rintro v H1 ⟨rfl, rfl⟩
    by_cases g : goodName s = true
    · have a0 : askF D [s] = 0 := by simp [askF, on, g]
      simp -implicitDefEqProofs only [zB1,zB2,zB3,zB4,zB5,zB6,zB7,zB8,zB9,zB10,zB11,y00,y01,y02,y03,y04,y05,y06,y07,y08,y09,y0a,y0b,y0c,y0d,y0e,y0f,y0g,y0h,y0i,y0j,y0k,y0l,y0m,y0n,y0o,y0p,y0q,y0r,y0s,y0t,y0u,y0v,y0w,y0x,y0y,y0z,y10,y11,y12,y13,y14,y15,y16,y17,y18,y19,y1a,y1b,y1c,y1d,y1e,y1f,y1g,y1h,y1i,y1j,y1k,y1l,y1m,y1n,y1o,y1p,y1q,y1r,retO,retL,retV,z6i,allV,allP,z6j,z6m,z6n,z6t,z6u,z6v,binV,eqV,unV,oOpt,reduceIte,reduceCtorEq,Nat.reduceEqDiff,Nat.reduceAdd,Nat.reduceMul,Nat.reduceLT,Nat.reduceSub,Int.reduceLT,Int.reduceLE,Int.reduceEq,Int.reduceNe,Int.reduceSub,Int.reduceAdd,Int.reduceMul,Int.reduceBEq,Int.reduceBNe,Int.reduceGT,Int.reduceGE,Nat.reduceGT,Int.reduceToNat,Int.reduceNeg,Nat.reduceLeDiff,Nat.reduceBEq,Nat.reduceBneDiff,Value.cells, g]
      refine (ref_find_c E R0 s hn).mono ?_
      rintro v H2 ⟨rfl, rfl⟩
      by_cases hx : idxF D.files s < D.files.length
      · obtain ⟨A, x, B, e1, e2, e3, e4⟩ := idx_split hx
        have hA : ¬ (A.length : Int) < 0 := by omega
        rw [e4] at hx
        simp -implicitDefEqProofs only [zB1,zB2,zB3,zB4,zB5,zB6,zB7,zB8,zB9,zB10,zB11,y00,y01,y02,y03,y04,y05,y06,y07,y08,y09,y0a,y0b,y0c,y0d,y0e,y0f,y0g,y0h,y0i,y0j,y0k,y0l,y0m,y0n,y0o,y0p,y0q,y0r,y0s,y0t,y0u,y0v,y0w,y0x,y0y,y0z,y10,y11,y12,y13,y14,y15,y16,y17,y18,y19,y1a,y1b,y1c,y1d,y1e,y1f,y1g,y1h,y1i,y1j,y1k,y1l,y1m,y1n,y1o,y1p,y1q,y1r,retO,retL,retV,z6i,allV,allP,z6j,z6m,z6n,z6t,z6u,z6v,binV,eqV,unV,oOpt,reduceIte,reduceCtorEq,Nat.reduceEqDiff,Nat.reduceAdd,Nat.reduceMul,Nat.reduceLT,Nat.reduceSub,Int.reduceLT,Int.reduceLE,Int.reduceEq,Int.reduceNe,Int.reduceSub,Int.reduceAdd,Int.reduceMul,Int.reduceBEq,Int.reduceBNe,Int.reduceGT,Int.reduceGE,Nat.reduceGT,Int.reduceToNat,Int.reduceNeg,Nat.reduceLeDiff,Nat.reduceBEq,Nat.reduceBneDiff,Value.cells, hx, e4, hA]
        exact .inr (.inr ⟨a0, A, x, B, e1, e2, e3, rfl⟩)
      · have hl := idx_lack hx
        simp -implicitDefEqProofs only [zB1,zB2,zB3,zB4,zB5,zB6,zB7,zB8,zB9,zB10,zB11,y00,y01,y02,y03,y04,y05,y06,y07,y08,y09,y0a,y0b,y0c,y0d,y0e,y0f,y0g,y0h,y0i,y0j,y0k,y0l,y0m,y0n,y0o,y0p,y0q,y0r,y0s,y0t,y0u,y0v,y0w,y0x,y0y,y0z,y10,y11,y12,y13,y14,y15,y16,y17,y18,y19,y1a,y1b,y1c,y1d,y1e,y1f,y1g,y1h,y1i,y1j,y1k,y1l,y1m,y1n,y1o,y1p,y1q,y1r,retO,retL,retV,z6i,allV,allP,z6j,z6m,z6n,z6t,z6u,z6v,binV,eqV,unV,oOpt,reduceIte,reduceCtorEq,Nat.reduceEqDiff,Nat.reduceAdd,Nat.reduceMul,Nat.reduceLT,Nat.reduceSub,Int.reduceLT,Int.reduceLE,Int.reduceEq,Int.reduceNe,Int.reduceSub,Int.reduceAdd,Int.reduceMul,Int.reduceBEq,Int.reduceBNe,Int.reduceGT,Int.reduceGE,Nat.reduceGT,Int.reduceToNat,Int.reduceNeg,Nat.reduceLeDiff,Nat.reduceBEq,Nat.reduceBneDiff,Value.cells, hx]
        exact .inr (.inl ⟨a0, hl⟩)
    · have g' : goodName s = false := by simpa using g
      have a0 : askF D [s] = 1 := by simp [askF, on, g]
      simp -implicitDefEqProofs only [zB1,zB2,zB3,zB4,zB5,zB6,zB7,zB8,zB9,zB10,zB11,y00,y01,y02,y03,y04,y05,y06,y07,y08,y09,y0a,y0b,y0c,y0d,y0e,y0f,y0g,y0h,y0i,y0j,y0k,y0l,y0m,y0n,y0o,y0p,y0q,y0r,y0s,y0t,y0u,y0v,y0w,y0x,y0y,y0z,y10,y11,y12,y13,y14,y15,y16,y17,y18,y19,y1a,y1b,y1c,y1d,y1e,y1f,y1g,y1h,y1i,y1j,y1k,y1l,y1m,y1n,y1o,y1p,y1q,y1r,retO,retL,retV,z6i,allV,allP,z6j,z6m,z6n,z6t,z6u,z6v,binV,eqV,unV,oOpt,reduceIte,reduceCtorEq,Nat.reduceEqDiff,Nat.reduceAdd,Nat.reduceMul,Nat.reduceLT,Nat.reduceSub,Int.reduceLT,Int.reduceLE,Int.reduceEq,Int.reduceNe,Int.reduceSub,Int.reduceAdd,Int.reduceMul,Int.reduceBEq,Int.reduceBNe,Int.reduceGT,Int.reduceGE,Nat.reduceGT,Int.reduceToNat,Int.reduceNeg,Nat.reduceLeDiff,Nat.reduceBEq,Nat.reduceBneDiff,Value.cells, g']
      refine .inl ?_
      rw [a0]; simp
  · have on' : D.on = false := by simpa using on
    rw [on'] at c2
    have a0 : askF D [s] = 7 := by simp [askF, on']
    simp -implicitDefEqProofs only [zB1,zB2,zB3,zB4,zB5,zB6,zB7,zB8,zB9,zB10,zB11,y00,y01,y02,y03,y04,y05,y06,y07,y08,y09,y0a,y0b,y0c,y0d,y0e,y0f,y0g,y0h,y0i,y0j,y0k,y0l,y0m,y0n,y0o,y0p,y0q,y0r,y0s,y0t,y0u,y0v,y0w,y0x,y0y,y0z,y10,y11,y12,y13,y14,y15,y16,y17,y18,y19,y1a,y1b,y1c,y1d,y1e,y1f,y1g,y1h,y1i,y1j,y1k,y1l,y1m,y1n,y1o,y1p,y1q,y1r,retO,retL,retV,z6i,allV,allP,z6j,z6m,z6n,z6t,z6u,z6v,binV,eqV,unV,oOpt,reduceIte,reduceCtorEq,Nat.reduceEqDiff,Nat.reduceAdd,Nat.reduceMul,Nat.reduceLT,Nat.reduceSub,Int.reduceLT,Int.reduceLE,Int.reduceEq,Int.reduceNe,Int.reduceSub,Int.reduceAdd,Int.reduceMul,Int.reduceBEq,Int.reduceBNe,Int.reduceGT,Int.reduceGE,Nat.reduceGT,Int.reduceToNat,Int.reduceNeg,Nat.reduceLeDiff,Nat.reduceBEq,Nat.reduceBneDiff,Value.cells, c2]
    refine .inl ?_
    rw [a0]; simp
theorem files_len {D : DiskF} {n : Nat} (h : D.files.length ≤ n) {A B : Files} {x : List UInt8 × FileF} (e : D.files = A ++ x :: B) : A.length < D.files.length := by rw [e]; simp
theorem look_split {L A B : Files} {x : List UInt8 × FileF} {s : List UInt8} (e : L = A ++ x :: B) (hA : ∀ y ∈ A, y.1 ≠ s) (hx : x.1 = s) : lookF L s = some x.2 := by
  subst e
  unfold lookF
  rw [List.find?_append]
  have : A.find? (fun x => decide (x.1 = s)) = none := by
    rw [List.find?_eq_none]; intro y hy; simpa using hA y hy
  rw [this, Option.none_or, List.find?_cons_of_pos (by simpa using hx)]
  rfl
theorem look_absent {L : Files} {s : List UInt8} (h : ∀ x ∈ L, x.1 ≠ s) : lookF L s = none := by
  unfold lookF
  rw [Option.map_eq_none_iff, List.find?_eq_none]
  intro x hx; simpa using h x hx
theorem sizeF_app (A B : Files) : sizeF (A ++ B) = sizeF A + sizeF B := by simp [sizeF]
theorem ref_Size_c (E : EnvT tab) (R : WR κ H w D) (ok : D.ok) (hn : D.files.length ≤ 100000) :
    ACallN E.toEnv n_bandboxref11_Disk_Size [ptrV w] H fun r H' => H.le H' ∧ r = .int .i64 ((if D.on then sizeF D.files else 0 : Nat) : Int) := by
  obtain ⟨lv, cs, R⟩ := R
  refine acall h_bandboxref11_Disk_Size ir_bandboxref11_Disk_Size rfl rfl (wpA_sound ?_)
  unfold ir_bandboxref11_Disk_Size
  obtain ⟨lb, lc, rfl⟩ := Sl.shape R.o.sl
  have hsz := ok.2.1
  have hr := ok.2.2
  simp -implicitDefEqProofs only [zB1,zB2,zB3,zB4,zB5,zB6,zB7,zB8,zB9,zB10,zB11,y00,y01,y02,y03,y04,y05,y06,y07,y08,y09,y0a,y0b,y0c,y0d,y0e,y0f,y0g,y0h,y0i,y0j,y0k,y0l,y0m,y0n,y0o,y0p,y0q,y0r,y0s,y0t,y0u,y0v,y0w,y0x,y0y,y0z,y10,y11,y12,y13,y14,y15,y16,y17,y18,y19,y1a,y1b,y1c,y1d,y1e,y1f,y1g,y1h,y1i,y1j,y1k,y1l,y1m,y1n,y1o,y1p,y1q,y1r,retO,retL,retV,z6i,allV,allP,z6j,z6m,z6n,z6t,z6u,z6v,binV,eqV,unV,oOpt,reduceIte,reduceCtorEq,Nat.reduceEqDiff,Nat.reduceAdd,Nat.reduceMul,Nat.reduceLT,Nat.reduceSub,Int.reduceLT,Int.reduceLE,Int.reduceEq,Int.reduceNe,Int.reduceSub,Int.reduceAdd,Int.reduceMul,Int.reduceBEq,Int.reduceBNe,Int.reduceGT,Int.reduceGE,Nat.reduceGT,Int.reduceToNat,Int.reduceNeg,Nat.reduceLeDiff,Nat.reduceBEq,Nat.reduceBneDiff,Value.cells]
  refine wp_loop' (fun m t G => H.le G ∧ ∃ i : Nat, t = tl [(0, ptrV w), (3, .int .i64 (sizeF (D.files.take i) : Nat)), (4, .int .i64 i)] ∧ i ≤ D.files.length ∧ m = D.files.length - i ∧ (D.on = false → i = 0)) D.files.length
    ⟨Heap.le_refl _, 0, by simp [sizeF], by omega, by omega, fun _ => rfl⟩ ?_
  rintro m t G ⟨leG, i, rfl, hi, rfl, h0⟩
  have c1 : hcell G ⟨w, 1, none⟩ = some (.slice lb D.files.length lc) := by rw [hcell_at (leG _ _ R.q) (by simp)]; rfl
  have c2 : hcell G ⟨w, 2, none⟩ = some (.bool (!D.on)) := by rw [hcell_at (leG _ _ R.q) (by simp)]; rfl
  by_cases hlt : i < D.files.length
  · have hi1 : (i : Int) < D.files.length := by omega
    have hi2 : (0 : Int) ≤ i := by omega
    by_cases on : D.on = true
    · rw [on] at c2
      have w1 : IntKind.i64.wrap ((i : Int) + 1) = ((i + 1 : Nat) : Int) := wrapN (by omega)
      obtain ⟨b, o, c, sv, wv, hv, -, s1, s2, hc⟩ := R.at' hlt
      simp only [Value.slice.injEq, true_and] at hv
      obtain ⟨rfl, rfl⟩ := hv
      obtain ⟨cn, -, -⟩ := hc G leG
      have okf := (ok.1 _ (List.getElem_mem hlt)).1
      have leB := Heap.le_trans (Heap.bare_le H κ) leG
      simp -implicitDefEqProofs only [zB1,zB2,zB3,zB4,zB5,zB6,zB7,zB8,zB9,zB10,zB11,y00,y01,y02,y03,y04,y05,y06,y07,y08,y09,y0a,y0b,y0c,y0d,y0e,y0f,y0g,y0h,y0i,y0j,y0k,y0l,y0m,y0n,y0o,y0p,y0q,y0r,y0s,y0t,y0u,y0v,y0w,y0x,y0y,y0z,y10,y11,y12,y13,y14,y15,y16,y17,y18,y19,y1a,y1b,y1c,y1d,y1e,y1f,y1g,y1h,y1i,y1j,y1k,y1l,y1m,y1n,y1o,y1p,y1q,y1r,retO,retL,retV,z6i,allV,allP,z6j,z6m,z6n,z6t,z6u,z6v,binV,eqV,unV,oOpt,reduceIte,reduceCtorEq,Nat.reduceEqDiff,Nat.reduceAdd,Nat.reduceMul,Nat.reduceLT,Nat.reduceSub,Int.reduceLT,Int.reduceLE,Int.reduceEq,Int.reduceNe,Int.reduceSub,Int.reduceAdd,Int.reduceMul,Int.reduceBEq,Int.reduceBNe,Int.reduceGT,Int.reduceGE,Nat.reduceGT,Int.reduceToNat,Int.reduceNeg,Nat.reduceLeDiff,Nat.reduceBEq,Nat.reduceBneDiff,Value.cells, c1, c2, hi1, hi2, Int.toNat_natCast]
      unfold ir_bandboxref11_Disk_Size_21
      simp -implicitDefEqProofs only [zB1,zB2,zB3,zB4,zB5,zB6,zB7,zB8,zB9,zB10,zB11,y00,y01,y02,y03,y04,y05,y06,y07,y08,y09,y0a,y0b,y0c,y0d,y0e,y0f,y0g,y0h,y0i,y0j,y0k,y0l,y0m,y0n,y0o,y0p,y0q,y0r,y0s,y0t,y0u,y0v,y0w,y0x,y0y,y0z,y10,y11,y12,y13,y14,y15,y16,y17,y18,y19,y1a,y1b,y1c,y1d,y1e,y1f,y1g,y1h,y1i,y1j,y1k,y1l,y1m,y1n,y1o,y1p,y1q,y1r,retO,retL,retV,z6i,allV,allP,z6j,z6m,z6n,z6t,z6u,z6v,binV,eqV,unV,oOpt,reduceIte,reduceCtorEq,Nat.reduceEqDiff,Nat.reduceAdd,Nat.reduceMul,Nat.reduceLT,Nat.reduceSub,Int.reduceLT,Int.reduceLE,Int.reduceEq,Int.reduceNe,Int.reduceSub,Int.reduceAdd,Int.reduceMul,Int.reduceBEq,Int.reduceBNe,Int.reduceGT,Int.reduceGE,Nat.reduceGT,Int.reduceToNat,Int.reduceNeg,Nat.reduceLeDiff,Nat.reduceBEq,Nat.reduceBneDiff,Value.cells, c1, hi1, hi2, Int.toNat_natCast, cn]
      refine (ref_all_c E (strV D.files[i].1) sv wv rfl (s1.le leB) (s2.le leB) okf).mono ?_
      rintro v H2 ⟨le2, o2⟩
      obtain ⟨vb, vc, rfl⟩ := Sl.shape o2.sl
      have et : sizeF (D.files.take (i + 1)) = sizeF (D.files.take i) + D.files[i].2.all.length := by
        rw [List.take_succ_eq_append_getElem hlt, sizeF_app]; simp [sizeF, FileF.size]
      have lt : sizeF (D.files.take (i + 1)) ≤ sizeF D.files := by
        have : sizeF D.files = sizeF (D.files.take (i + 1)) + sizeF (D.files.drop (i + 1)) := by
          conv => lhs; rw [← List.take_append_drop (i + 1) D.files]
          rw [sizeF_app]
        omega
      have w2 : IntKind.i64.wrap ((sizeF (D.files.take i) : Int) + (D.files[i].2.all.length : Int)) = (sizeF (D.files.take (i + 1)) : Nat) := by
        rw [wrapI (by omega) (by omega), et]; omega
      simp -implicitDefEqProofs only [zB1,zB2,zB3,zB4,zB5,zB6,zB7,zB8,zB9,zB10,zB11,y00,y01,y02,y03,y04,y05,y06,y07,y08,y09,y0a,y0b,y0c,y0d,y0e,y0f,y0g,y0h,y0i,y0j,y0k,y0l,y0m,y0n,y0o,y0p,y0q,y0r,y0s,y0t,y0u,y0v,y0w,y0x,y0y,y0z,y10,y11,y12,y13,y14,y15,y16,y17,y18,y19,y1a,y1b,y1c,y1d,y1e,y1f,y1g,y1h,y1i,y1j,y1k,y1l,y1m,y1n,y1o,y1p,y1q,y1r,retO,retL,retV,z6i,allV,allP,z6j,z6m,z6n,z6t,z6u,z6v,binV,eqV,unV,oOpt,reduceIte,reduceCtorEq,Nat.reduceEqDiff,Nat.reduceAdd,Nat.reduceMul,Nat.reduceLT,Nat.reduceSub,Int.reduceLT,Int.reduceLE,Int.reduceEq,Int.reduceNe,Int.reduceSub,Int.reduceAdd,Int.reduceMul,Int.reduceBEq,Int.reduceBNe,Int.reduceGT,Int.reduceGE,Nat.reduceGT,Int.reduceToNat,Int.reduceNeg,Nat.reduceLeDiff,Nat.reduceBEq,Nat.reduceBneDiff,Value.cells, w1, w2]
      refine ⟨_, ?_, Heap.le_trans leG le2, i + 1, rfl, by omega, rfl, fun h => by rw [on] at h; cases h⟩
      omega
    · have on' : D.on = false := by simpa using on
      have e := h0 on'
      subst e
      rw [on'] at c2
      have hi1' : (0 : Int) < D.files.length := by omega
      simp -implicitDefEqProofs only [zB1,zB2,zB3,zB4,zB5,zB6,zB7,zB8,zB9,zB10,zB11,y00,y01,y02,y03,y04,y05,y06,y07,y08,y09,y0a,y0b,y0c,y0d,y0e,y0f,y0g,y0h,y0i,y0j,y0k,y0l,y0m,y0n,y0o,y0p,y0q,y0r,y0s,y0t,y0u,y0v,y0w,y0x,y0y,y0z,y10,y11,y12,y13,y14,y15,y16,y17,y18,y19,y1a,y1b,y1c,y1d,y1e,y1f,y1g,y1h,y1i,y1j,y1k,y1l,y1m,y1n,y1o,y1p,y1q,y1r,retO,retL,retV,z6i,allV,allP,z6j,z6m,z6n,z6t,z6u,z6v,binV,eqV,unV,oOpt,reduceIte,reduceCtorEq,Nat.reduceEqDiff,Nat.reduceAdd,Nat.reduceMul,Nat.reduceLT,Nat.reduceSub,Int.reduceLT,Int.reduceLE,Int.reduceEq,Int.reduceNe,Int.reduceSub,Int.reduceAdd,Int.reduceMul,Int.reduceBEq,Int.reduceBNe,Int.reduceGT,Int.reduceGE,Nat.reduceGT,Int.reduceToNat,Int.reduceNeg,Nat.reduceLeDiff,Nat.reduceBEq,Nat.reduceBneDiff,Value.cells, c1, c2, hi1, hi1', on']
      exact ⟨leG, by simp [sizeF]⟩
  · have hi1 : ¬ (i : Int) < D.files.length := by omega
    have e : i = D.files.length := by omega
    subst e
    rw [List.take_length]
    by_cases on : D.on = true
    · simp -implicitDefEqProofs only [zB1,zB2,zB3,zB4,zB5,zB6,zB7,zB8,zB9,zB10,zB11,y00,y01,y02,y03,y04,y05,y06,y07,y08,y09,y0a,y0b,y0c,y0d,y0e,y0f,y0g,y0h,y0i,y0j,y0k,y0l,y0m,y0n,y0o,y0p,y0q,y0r,y0s,y0t,y0u,y0v,y0w,y0x,y0y,y0z,y10,y11,y12,y13,y14,y15,y16,y17,y18,y19,y1a,y1b,y1c,y1d,y1e,y1f,y1g,y1h,y1i,y1j,y1k,y1l,y1m,y1n,y1o,y1p,y1q,y1r,retO,retL,retV,z6i,allV,allP,z6j,z6m,z6n,z6t,z6u,z6v,binV,eqV,unV,oOpt,reduceIte,reduceCtorEq,Nat.reduceEqDiff,Nat.reduceAdd,Nat.reduceMul,Nat.reduceLT,Nat.reduceSub,Int.reduceLT,Int.reduceLE,Int.reduceEq,Int.reduceNe,Int.reduceSub,Int.reduceAdd,Int.reduceMul,Int.reduceBEq,Int.reduceBNe,Int.reduceGT,Int.reduceGE,Nat.reduceGT,Int.reduceToNat,Int.reduceNeg,Nat.reduceLeDiff,Nat.reduceBEq,Nat.reduceBneDiff,Value.cells, c1, hi1, on]
      exact leG
    · have on' : D.on = false := by simpa using on
      have e : sizeF D.files = 0 := by
        have := h0 on'
        rw [List.eq_nil_of_length_eq_zero this]; rfl
      simp -implicitDefEqProofs only [zB1,zB2,zB3,zB4,zB5,zB6,zB7,zB8,zB9,zB10,zB11,y00,y01,y02,y03,y04,y05,y06,y07,y08,y09,y0a,y0b,y0c,y0d,y0e,y0f,y0g,y0h,y0i,y0j,y0k,y0l,y0m,y0n,y0o,y0p,y0q,y0r,y0s,y0t,y0u,y0v,y0w,y0x,y0y,y0z,y10,y11,y12,y13,y14,y15,y16,y17,y18,y19,y1a,y1b,y1c,y1d,y1e,y1f,y1g,y1h,y1i,y1j,y1k,y1l,y1m,y1n,y1o,y1p,y1q,y1r,retO,retL,retV,z6i,allV,allP,z6j,z6m,z6n,z6t,z6u,z6v,binV,eqV,unV,oOpt,reduceIte,reduceCtorEq,Nat.reduceEqDiff,Nat.reduceAdd,Nat.reduceMul,Nat.reduceLT,Nat.reduceSub,Int.reduceLT,Int.reduceLE,Int.reduceEq,Int.reduceNe,Int.reduceSub,Int.reduceAdd,Int.reduceMul,Int.reduceBEq,Int.reduceBNe,Int.reduceGT,Int.reduceGE,Nat.reduceGT,Int.reduceToNat,Int.reduceNeg,Nat.reduceLeDiff,Nat.reduceBEq,Nat.reduceBneDiff,Value.cells, c1, hi1, on', e]
      exact leG
theorem ref_Read_c (E : EnvT tab) (R : WR κ H w D) (ok : D.ok) (hn : D.files.length ≤ 100000) (s : List UInt8) (hs : s.length ≤ 9000000000000000000) :
    ACallN E.toEnv n_bandboxref11_Disk_Read [ptrV w, strV s] H fun v H' => H.le H' ∧ ∃ b c, v = .tuple #[.slice b (readF D s).1.length c, .int .i64 ((readF D s).2 : Nat)] ∧ OwB H H' (.slice b (readF D s).1.length c) (readF D s).1 := by
  have R0 := R
  obtain ⟨lv, cs, R⟩ := R
  obtain ⟨lb, lc, rfl⟩ := Sl.shape R.o.sl
  refine acall h_bandboxref11_Disk_Read ir_bandboxref11_Disk_Read rfl rfl (wpA_sound ?_)
  unfold ir_bandboxref11_Disk_Read
  simp -implicitDefEqProofs only [zB1,zB2,zB3,zB4,zB5,zB6,zB7,zB8,zB9,zB10,zB11,y00,y01,y02,y03,y04,y05,y06,y07,y08,y09,y0a,y0b,y0c,y0d,y0e,y0f,y0g,y0h,y0i,y0j,y0k,y0l,y0m,y0n,y0o,y0p,y0q,y0r,y0s,y0t,y0u,y0v,y0w,y0x,y0y,y0z,y10,y11,y12,y13,y14,y15,y16,y17,y18,y19,y1a,y1b,y1c,y1d,y1e,y1f,y1g,y1h,y1i,y1j,y1k,y1l,y1m,y1n,y1o,y1p,y1q,y1r,retO,retL,retV,z6i,allV,allP,z6j,z6m,z6n,z6t,z6u,z6v,binV,eqV,unV,oOpt,reduceIte,reduceCtorEq,Nat.reduceEqDiff,Nat.reduceAdd,Nat.reduceMul,Nat.reduceLT,Nat.reduceSub,Int.reduceLT,Int.reduceLE,Int.reduceEq,Int.reduceNe,Int.reduceSub,Int.reduceAdd,Int.reduceMul,Int.reduceBEq,Int.reduceBNe,Int.reduceGT,Int.reduceGE,Nat.reduceGT,Int.reduceToNat,Int.reduceNeg,Nat.reduceLeDiff,Nat.reduceBEq,Nat.reduceBneDiff,Value.cells]
  refine (ref_ask_c E R0 s hs hn).mono ?_
  rintro v H1 ⟨rfl, hm⟩
  have c1 : hcell H1 ⟨w, 1, none⟩ = some (.slice lb D.files.length lc) := by rw [hcell_at R.q (by simp)]; rfl
  unfold readF
  rcases hm with ⟨h1, rfl⟩ | ⟨h1, h2, rfl⟩ | ⟨h1, A, x, B, e1, e2, e3, rfl⟩
  · have h1' : ¬ ((askF D [s] : Nat) : Int) = 0 := by omega
    rw [if_neg h1]
    simp -implicitDefEqProofs only [zB1,zB2,zB3,zB4,zB5,zB6,zB7,zB8,zB9,zB10,zB11,y00,y01,y02,y03,y04,y05,y06,y07,y08,y09,y0a,y0b,y0c,y0d,y0e,y0f,y0g,y0h,y0i,y0j,y0k,y0l,y0m,y0n,y0o,y0p,y0q,y0r,y0s,y0t,y0u,y0v,y0w,y0x,y0y,y0z,y10,y11,y12,y13,y14,y15,y16,y17,y18,y19,y1a,y1b,y1c,y1d,y1e,y1f,y1g,y1h,y1i,y1j,y1k,y1l,y1m,y1n,y1o,y1p,y1q,y1r,retO,retL,retV,z6i,allV,allP,z6j,z6m,z6n,z6t,z6u,z6v,binV,eqV,unV,oOpt,reduceIte,reduceCtorEq,Nat.reduceEqDiff,Nat.reduceAdd,Nat.reduceMul,Nat.reduceLT,Nat.reduceSub,Int.reduceLT,Int.reduceLE,Int.reduceEq,Int.reduceNe,Int.reduceSub,Int.reduceAdd,Int.reduceMul,Int.reduceBEq,Int.reduceBNe,Int.reduceGT,Int.reduceGE,Nat.reduceGT,Int.reduceToNat,Int.reduceNeg,Nat.reduceLeDiff,Nat.reduceBEq,Nat.reduceBneDiff,Value.cells, h1']
    exact ⟨Heap.le_refl _, none, 0, rfl, Ow.nil _ _ _⟩
  · rw [if_pos h1, look_absent h2]
    simp -implicitDefEqProofs only [zB1,zB2,zB3,zB4,zB5,zB6,zB7,zB8,zB9,zB10,zB11,y00,y01,y02,y03,y04,y05,y06,y07,y08,y09,y0a,y0b,y0c,y0d,y0e,y0f,y0g,y0h,y0i,y0j,y0k,y0l,y0m,y0n,y0o,y0p,y0q,y0r,y0s,y0t,y0u,y0v,y0w,y0x,y0y,y0z,y10,y11,y12,y13,y14,y15,y16,y17,y18,y19,y1a,y1b,y1c,y1d,y1e,y1f,y1g,y1h,y1i,y1j,y1k,y1l,y1m,y1n,y1o,y1p,y1q,y1r,retO,retL,retV,z6i,allV,allP,z6j,z6m,z6n,z6t,z6u,z6v,binV,eqV,unV,oOpt,reduceIte,reduceCtorEq,Nat.reduceEqDiff,Nat.reduceAdd,Nat.reduceMul,Nat.reduceLT,Nat.reduceSub,Int.reduceLT,Int.reduceLE,Int.reduceEq,Int.reduceNe,Int.reduceSub,Int.reduceAdd,Int.reduceMul,Int.reduceBEq,Int.reduceBNe,Int.reduceGT,Int.reduceGE,Nat.reduceGT,Int.reduceToNat,Int.reduceNeg,Nat.reduceLeDiff,Nat.reduceBEq,Nat.reduceBneDiff,Value.cells]
    exact ⟨Heap.le_refl _, none, 0, rfl, Ow.nil _ _ _⟩
  · rw [if_pos h1, look_split e1 e2 e3]
    have hlt := files_len (Nat.le_refl _) e1
    have hi1 : (A.length : Int) < D.files.length := by omega
    have hi2 : (0 : Int) ≤ A.length := by omega
    obtain ⟨b, o, c, sv, wv, hv, -, s1, s2, hc⟩ := R.at' hlt
    simp only [Value.slice.injEq, true_and] at hv
    obtain ⟨rfl, rfl⟩ := hv
    obtain ⟨cn, -, -⟩ := hc H1 (Heap.le_refl _)
    have okf := (ok.1 _ (List.getElem_mem hlt)).1
    have leB := Heap.bare_le H1 κ
    simp -implicitDefEqProofs only [zB1,zB2,zB3,zB4,zB5,zB6,zB7,zB8,zB9,zB10,zB11,y00,y01,y02,y03,y04,y05,y06,y07,y08,y09,y0a,y0b,y0c,y0d,y0e,y0f,y0g,y0h,y0i,y0j,y0k,y0l,y0m,y0n,y0o,y0p,y0q,y0r,y0s,y0t,y0u,y0v,y0w,y0x,y0y,y0z,y10,y11,y12,y13,y14,y15,y16,y17,y18,y19,y1a,y1b,y1c,y1d,y1e,y1f,y1g,y1h,y1i,y1j,y1k,y1l,y1m,y1n,y1o,y1p,y1q,y1r,retO,retL,retV,z6i,allV,allP,z6j,z6m,z6n,z6t,z6u,z6v,binV,eqV,unV,oOpt,reduceIte,reduceCtorEq,Nat.reduceEqDiff,Nat.reduceAdd,Nat.reduceMul,Nat.reduceLT,Nat.reduceSub,Int.reduceLT,Int.reduceLE,Int.reduceEq,Int.reduceNe,Int.reduceSub,Int.reduceAdd,Int.reduceMul,Int.reduceBEq,Int.reduceBNe,Int.reduceGT,Int.reduceGE,Nat.reduceGT,Int.reduceToNat,Int.reduceNeg,Nat.reduceLeDiff,Nat.reduceBEq,Nat.reduceBneDiff,Value.cells, c1, hi1, hi2, Int.toNat_natCast, cn]
    have ex : D.files[A.length] = x := by simp [e1]
    rw [ex] at s1 s2 okf ⊢
    refine (ref_all_c E (strV x.1) sv wv rfl (s1.le leB) (s2.le leB) okf).mono ?_
    rintro v H2 ⟨le2, o2⟩
    obtain ⟨vb, vc, rfl⟩ := Sl.shape o2.sl
    simp -implicitDefEqProofs only [zB1,zB2,zB3,zB4,zB5,zB6,zB7,zB8,zB9,zB10,zB11,y00,y01,y02,y03,y04,y05,y06,y07,y08,y09,y0a,y0b,y0c,y0d,y0e,y0f,y0g,y0h,y0i,y0j,y0k,y0l,y0m,y0n,y0o,y0p,y0q,y0r,y0s,y0t,y0u,y0v,y0w,y0x,y0y,y0z,y10,y11,y12,y13,y14,y15,y16,y17,y18,y19,y1a,y1b,y1c,y1d,y1e,y1f,y1g,y1h,y1i,y1j,y1k,y1l,y1m,y1n,y1o,y1p,y1q,y1r,retO,retL,retV,z6i,allV,allP,z6j,z6m,z6n,z6t,z6u,z6v,binV,eqV,unV,oOpt,reduceIte,reduceCtorEq,Nat.reduceEqDiff,Nat.reduceAdd,Nat.reduceMul,Nat.reduceLT,Nat.reduceSub,Int.reduceLT,Int.reduceLE,Int.reduceEq,Int.reduceNe,Int.reduceSub,Int.reduceAdd,Int.reduceMul,Int.reduceBEq,Int.reduceBNe,Int.reduceGT,Int.reduceGE,Nat.reduceGT,Int.reduceToNat,Int.reduceNeg,Nat.reduceLeDiff,Nat.reduceBEq,Nat.reduceBneDiff,Value.cells]
    exact ⟨le2, vb, vc, rfl, o2⟩
end
end Go.Bb
/- Contracts: the document's own disk: on, sync, drop. -/
namespace Go.Bb
set_option linter.unusedSimpArgs false
set_option linter.unusedVariables false
set_option maxRecDepth 20000
set_option maxHeartbeats 2000000

section
variable {κ : Pal} {H : Heap} {w : Nat} {D : DiskF} {lv : Value} {cs : List (List Value)}
theorem WRV.setw (R : WRV κ H w D lv cs) (on' : Bool) (lives' : Int) : Ext (wC w) κ H κ (H.set w (.own 0 [.int .i64 D.room, lv, .bool (!on'), .int .i64 lives'] 4)) ∧ WRV κ (H.set w (.own 0 [.int .i64 D.room, lv, .bool (!on'), .int .i64 lives'] 4)) w { D with on := on', lives := lives' } lv cs := by
  have e := Ext.set (H := H) R.k (.own 0 [.int .i64 D.room, lv, .bool (!on'), .int .i64 lives'] 4)
  exact ⟨e.mono fun c h => by subst h; rfl, R.k, Heap.set_self _ _ _, e.own (by simp) R.o, R.r.le e.bare⟩
theorem RowsW.put {H : Heap} {L : Files} (r : RowsW H L cs) {i : Nat} {x : List UInt8 × FileF} {c : List Value} (row : RowW H x c) : RowsW H (L.set i x) (cs.set i c) := by
  refine ⟨by rw [List.length_set, List.length_set]; exact r.1, fun k h1 h2 => ?_⟩
  rw [List.getElem_set, List.getElem_set]
  split
  · exact row
  · exact r.2 k _ _
theorem WRV.put3 {b o n c : Nat} (R : WRV κ H w D (.slice (some ⟨b, o, none⟩) n c) cs) {i : Nat} (hi : i < D.files.length) {x : List UInt8 × FileF} {nm sv wv : Value} (row : RowW (H.bare κ) x [nm, sv, wv]) (h1 : [nm, sv, wv].all one = true) :
    ∃ H', storeV H 3 (.pointer (some ⟨b, o + i * 3, none⟩)) (.agg #[nm, sv, wv]) = some H' ∧ Ext (wC w) κ H κ H' ∧ WRV κ H' w { D with files := D.files.set i x } (.slice (some ⟨b, o, none⟩) n c) (cs.set i [nm, sv, wv]) := by
  have h3 := R.r.all3
  have hl := R.r.1
  have hn : n = D.files.length := by
    obtain ⟨b', c', e⟩ := Sl.shape R.o.sl
    simp only [Value.slice.injEq] at e
    exact e.2.1
  subst hn
  have ro := R.o
  obtain ⟨X, e1, e2, ⟨y, e3⟩, e4⟩ := Ow.storeK (us := [nm, sv, wv]) (v := .agg #[nm, sv, wv]) ro (j := 3 * i) (k := 3) rfl (by omega) (by rw [flat3_len h3]; omega) h1 rfl
  have kb : κ b = some (w, 0, 1) := by
    rcases Heap.but_none.1 e2 with k | k
    · exact k
    · rw [e3] at k; cases k
  have e := Ext.set (H := H) kb X
  rw [flat3_set h3 (by omega) rfl] at e4
  obtain ⟨g1, g2⟩ := e.blk R.k (by simp) R.q
  refine ⟨_, by rw [Nat.mul_comm]; exact e1, e.mono fun c h => by subst h; rfl, g2, g1, ?_, (R.r.put row).le e.bare⟩
  simp only [List.length_set]
  rcases e4 with e4 | ⟨b', o', c', sz, st, pre, rest, q1, q2, q3, q4, q5⟩
  · exact .inl e4
  · refine .inr ⟨b', o', c', sz, st, pre, rest, q1, q2, Heap.but_none.2 (.inl ?_), q4, q5⟩
    rcases Heap.but_none.1 q3 with k | k
    · exact k
    · simp only [Value.slice.injEq, Option.some.injEq, Addr.mk.injEq] at q1
      rw [← q1.1.1]; exact kb
theorem WRV.put1 {b o n c : Nat} (R : WRV κ H w D (.slice (some ⟨b, o, none⟩) n c) cs) {i : Nat} (hi : i < D.files.length) {W : List (List UInt8)} {wv : Value} (sW : SlL (H.bare κ) wv W) :
    ∃ H' cs', storeV H 1 (.pointer (some ⟨b, o + i * 3 + 2, none⟩)) wv = some H' ∧ Ext (wC w) κ H κ H' ∧ WRV κ H' w { D with files := D.files.set i (D.files[i].1, ⟨D.files[i].2.safe, W⟩) } (.slice (some ⟨b, o, none⟩) n c) cs' := by
  have h3 := R.r.all3
  have hl := R.r.1
  have hn : n = D.files.length := by
    obtain ⟨b', c', e⟩ := Sl.shape R.o.sl
    simp only [Value.slice.injEq] at e
    exact e.2.1
  subst hn
  have ro := R.o
  obtain ⟨sv, wv0, er, s1, s2⟩ := R.r.2 i (by omega) hi
  have hw1 : one wv = true := by obtain ⟨_, _, rfl⟩ := sW.shape; rfl
  have hwc : wv.cells.toList = [wv] := by obtain ⟨_, _, rfl⟩ := sW.shape; rfl
  obtain ⟨X, e1, e2, ⟨y, e3⟩, e4⟩ := Ow.storeK (us := [wv]) (v := wv) ro (j := 3 * i + 2) (k := 1) rfl (by omega) (by rw [flat3_len h3]; omega) (by simp [hw1]) hwc
  have kb : κ b = some (w, 0, 1) := by
    rcases Heap.but_none.1 e2 with k | k
    · exact k
    · rw [e3] at k; cases k
  have e := Ext.set (H := H) kb X
  rw [flat3_set2 h3 (by omega) er] at e4
  obtain ⟨g1, g2⟩ := e.blk R.k (by simp) R.q
  refine ⟨_, cs.set i [strV D.files[i].1, sv, wv], by rw [Nat.mul_comm i 3, Nat.add_assoc]; exact e1, e.mono fun c h => by subst h; rfl, g2, g1, ?_, (R.r.put (x := (D.files[i].1, ⟨D.files[i].2.safe, W⟩)) ⟨sv, wv, rfl, s1, sW⟩).le e.bare⟩
  simp only [List.length_set]
  rcases e4 with e4 | ⟨b', o', c', sz, st, pre, rest, q1, q2, q3, q4, q5⟩
  · exact .inl e4
  · refine .inr ⟨b', o', c', sz, st, pre, rest, q1, q2, Heap.but_none.2 (.inl ?_), q4, q5⟩
    rcases Heap.but_none.1 q3 with k | k
    · exact k
    · simp only [Value.slice.injEq, Option.some.injEq, Addr.mk.injEq] at q1
      rw [← q1.1.1]; exact kb
theorem ref_On_c (E : EnvT tab) (R : WR κ H w D) (hl : -9000000000000000000 ≤ D.lives) (hl2 : D.lives ≤ 9000000000000000000) : ACallN E.toEnv n_bandboxref11_Disk_On [ptrV w] H fun v H' => Ext (wC w) κ H κ H' ∧ WR κ H' w (onF D) := by
  obtain ⟨lv, cs, R⟩ := R
  refine acall h_bandboxref11_Disk_On ir_bandboxref11_Disk_On rfl rfl (wpA_sound ?_)
  unfold ir_bandboxref11_Disk_On
  obtain ⟨lb, lc, rfl⟩ := Sl.shape R.o.sl
  have st1 : storeV H 1 (.pointer (some ⟨w, 2, none⟩)) (.bool false) = some (H.set w (.own 0 [.int .i64 D.room, .slice lb D.files.length lc, .bool false, .int .i64 D.lives] 4)) := storeV_one_at R.q rfl (by simp) (by simp)
  have w1 : IntKind.i64.wrap (D.lives + 1) = D.lives + 1 := wrapI (by omega) (by omega)
  have c3 : hcell (H.set w (.own 0 [.int .i64 D.room, .slice lb D.files.length lc, .bool false, .int .i64 D.lives] 4)) ⟨w, 3, none⟩ = some (.int .i64 D.lives) := by rw [hcell_at (Heap.set_self _ _ _) (by simp)]; rfl
  have st2 : storeV (H.set w (.own 0 [.int .i64 D.room, .slice lb D.files.length lc, .bool false, .int .i64 D.lives] 4)) 1 (.pointer (some ⟨w, 3, none⟩)) (.int .i64 (D.lives + 1)) = some ((H.set w (.own 0 [.int .i64 D.room, .slice lb D.files.length lc, .bool false, .int .i64 D.lives] 4)).set w (.own 0 [.int .i64 D.room, .slice lb D.files.length lc, .bool false, .int .i64 (D.lives + 1)] 4)) := storeV_one_at (Heap.set_self _ _ _) rfl (by simp) (by simp)
  simp -implicitDefEqProofs only [zB1,zB2,zB3,zB4,zB5,zB6,zB7,zB8,zB9,zB10,zB11,y00,y01,y02,y03,y04,y05,y06,y07,y08,y09,y0a,y0b,y0c,y0d,y0e,y0f,y0g,y0h,y0i,y0j,y0k,y0l,y0m,y0n,y0o,y0p,y0q,y0r,y0s,y0t,y0u,y0v,y0w,y0x,y0y,y0z,y10,y11,y12,y13,y14,y15,y16,y17,y18,y19,y1a,y1b,y1c,y1d,y1e,y1f,y1g,y1h,y1i,y1j,y1k,y1l,y1m,y1n,y1o,y1p,y1q,y1r,retO,retL,retV,z6i,allV,allP,z6j,z6m,z6n,z6t,z6u,z6v,binV,eqV,unV,oOpt,reduceIte,reduceCtorEq,Nat.reduceEqDiff,Nat.reduceAdd,Nat.reduceMul,Nat.reduceLT,Nat.reduceSub,Int.reduceLT,Int.reduceLE,Int.reduceEq,Int.reduceNe,Int.reduceSub,Int.reduceAdd,Int.reduceMul,Int.reduceBEq,Int.reduceBNe,Int.reduceGT,Int.reduceGE,Nat.reduceGT,Int.reduceToNat,Int.reduceNeg,Nat.reduceLeDiff,Nat.reduceBEq,Nat.reduceBneDiff,Value.cells, st1, c3, w1, st2]
  obtain ⟨e, R2⟩ := R.setw true (D.lives + 1)
  exact ⟨e, _, _, R2⟩
/-! ### plainly -/
theorem nd_split {L A B : Files} {x : List UInt8 × FileF} {s : List UInt8} (nd : (L.map (·.1)).Nodup) (e : L = A ++ x :: B) (hx : x.1 = s) : (∀ y ∈ A, y.1 ≠ s) ∧ ∀ y ∈ B, y.1 ≠ s := by
  subst e hx
  rw [List.map_append, List.map_cons, List.nodup_append] at nd
  obtain ⟨-, h2, h3⟩ := nd
  rw [List.nodup_cons] at h2
  refine ⟨fun y hy e => ?_, fun y hy e => h2.1 (e ▸ List.mem_map_of_mem hy)⟩
  exact h3 y.1 (List.mem_map_of_mem hy) x.1 (by simp) e
theorem turn_off {L : Files} {s : List UInt8} (h : ∀ x ∈ L, x.1 ≠ s) (F : FileF) : turnF' L s F = L := by
  unfold turnF'
  conv => rhs; rw [← List.map_id L]
  apply List.map_congr_left
  intro x hx
  rw [if_neg (h x hx)]; rfl
theorem turn_split {L A B : Files} {x : List UInt8 × FileF} {s : List UInt8} (nd : (L.map (·.1)).Nodup) (e : L = A ++ x :: B) (hx : x.1 = s) (F : FileF) : turnF' L s F = L.set A.length (s, F) := by
  obtain ⟨h1, h2⟩ := nd_split nd e hx
  subst e
  have : turnF' (A ++ x :: B) s F = turnF' A s F ++ (if x.1 = s then (x.1, F) else x) :: turnF' B s F := by simp [turnF']
  rw [this, turn_off h1, turn_off h2, if_pos hx, hx]
  simp
theorem del_off {L : Files} {s : List UInt8} (h : ∀ x ∈ L, x.1 ≠ s) : delFile L s = L := by
  unfold delFile
  rw [List.filter_eq_self]
  intro x hx
  simpa using h x hx
theorem del_split {L A B : Files} {x : List UInt8 × FileF} {s : List UInt8} (nd : (L.map (·.1)).Nodup) (e : L = A ++ x :: B) (hx : x.1 = s) : delFile L s = A ++ B := by
  obtain ⟨h1, h2⟩ := nd_split nd e hx
  subst e
  have : delFile (A ++ x :: B) s = delFile A s ++ delFile (x :: B) s := by simp [delFile]
  have h3 : delFile (x :: B) s = delFile B s := by simp [delFile, hx]
  rw [this, h3, del_off h1, del_off h2]
theorem ref_Sync_c (E : EnvT tab) (R : WR κ H w D) (ok : D.ok) (hn : D.files.length ≤ 100000) (nd : (D.files.map (·.1)).Nodup) (s : List UInt8) (hs : s.length ≤ 9000000000000000000) :
    ACallN E.toEnv n_bandboxref11_Disk_Sync [ptrV w, strV s] H fun v H' => v = .int .i64 ((syncF D s).2 : Nat) ∧ ∃ κ', Ext (wC w) κ H κ' H' ∧ WR κ' H' w (syncF D s).1 := by
  have R0 := R
  obtain ⟨lv, cs, R⟩ := R
  obtain ⟨lb, lc, rfl⟩ := Sl.shape R.o.sl
  refine acall h_bandboxref11_Disk_Sync ir_bandboxref11_Disk_Sync rfl rfl (wpA_sound ?_)
  unfold ir_bandboxref11_Disk_Sync
  simp -implicitDefEqProofs only [zB1,zB2,zB3,zB4,zB5,zB6,zB7,zB8,zB9,zB10,zB11,y00,y01,y02,y03,y04,y05,y06,y07,y08,y09,y0a,y0b,y0c,y0d,y0e,y0f,y0g,y0h,y0i,y0j,y0k,y0l,y0m,y0n,y0o,y0p,y0q,y0r,y0s,y0t,y0u,y0v,y0w,y0x,y0y,y0z,y10,y11,y12,y13,y14,y15,y16,y17,y18,y19,y1a,y1b,y1c,y1d,y1e,y1f,y1g,y1h,y1i,y1j,y1k,y1l,y1m,y1n,y1o,y1p,y1q,y1r,retO,retL,retV,z6i,allV,allP,z6j,z6m,z6n,z6t,z6u,z6v,binV,eqV,unV,oOpt,reduceIte,reduceCtorEq,Nat.reduceEqDiff,Nat.reduceAdd,Nat.reduceMul,Nat.reduceLT,Nat.reduceSub,Int.reduceLT,Int.reduceLE,Int.reduceEq,Int.reduceNe,Int.reduceSub,Int.reduceAdd,Int.reduceMul,Int.reduceBEq,Int.reduceBNe,Int.reduceGT,Int.reduceGE,Nat.reduceGT,Int.reduceToNat,Int.reduceNeg,Nat.reduceLeDiff,Nat.reduceBEq,Nat.reduceBneDiff,Value.cells]
  refine (ref_ask_c E R0 s hs hn).mono ?_
  rintro v H1 ⟨rfl, hm⟩
  have c1 : ∀ G, H1.le G → hcell G ⟨w, 1, none⟩ = some (.slice lb D.files.length lc) := fun G x => by rw [hcell_at (x _ _ R.q) (by simp)]; rfl
  unfold syncF
  rcases hm with ⟨h1, rfl⟩ | ⟨h1, h2, rfl⟩ | ⟨h1, A, x, B, e1, e2, e3, rfl⟩
  · have h1' : ¬ ((askF D [s] : Nat) : Int) = 0 := by omega
    rw [if_neg h1]
    simp -implicitDefEqProofs only [zB1,zB2,zB3,zB4,zB5,zB6,zB7,zB8,zB9,zB10,zB11,y00,y01,y02,y03,y04,y05,y06,y07,y08,y09,y0a,y0b,y0c,y0d,y0e,y0f,y0g,y0h,y0i,y0j,y0k,y0l,y0m,y0n,y0o,y0p,y0q,y0r,y0s,y0t,y0u,y0v,y0w,y0x,y0y,y0z,y10,y11,y12,y13,y14,y15,y16,y17,y18,y19,y1a,y1b,y1c,y1d,y1e,y1f,y1g,y1h,y1i,y1j,y1k,y1l,y1m,y1n,y1o,y1p,y1q,y1r,retO,retL,retV,z6i,allV,allP,z6j,z6m,z6n,z6t,z6u,z6v,binV,eqV,unV,oOpt,reduceIte,reduceCtorEq,Nat.reduceEqDiff,Nat.reduceAdd,Nat.reduceMul,Nat.reduceLT,Nat.reduceSub,Int.reduceLT,Int.reduceLE,Int.reduceEq,Int.reduceNe,Int.reduceSub,Int.reduceAdd,Int.reduceMul,Int.reduceBEq,Int.reduceBNe,Int.reduceGT,Int.reduceGE,Nat.reduceGT,Int.reduceToNat,Int.reduceNeg,Nat.reduceLeDiff,Nat.reduceBEq,Nat.reduceBneDiff,Value.cells]
    unfold ir_bandboxref11_Disk_Sync_13
    simp -implicitDefEqProofs only [zB1,zB2,zB3,zB4,zB5,zB6,zB7,zB8,zB9,zB10,zB11,y00,y01,y02,y03,y04,y05,y06,y07,y08,y09,y0a,y0b,y0c,y0d,y0e,y0f,y0g,y0h,y0i,y0j,y0k,y0l,y0m,y0n,y0o,y0p,y0q,y0r,y0s,y0t,y0u,y0v,y0w,y0x,y0y,y0z,y10,y11,y12,y13,y14,y15,y16,y17,y18,y19,y1a,y1b,y1c,y1d,y1e,y1f,y1g,y1h,y1i,y1j,y1k,y1l,y1m,y1n,y1o,y1p,y1q,y1r,retO,retL,retV,z6i,allV,allP,z6j,z6m,z6n,z6t,z6u,z6v,binV,eqV,unV,oOpt,reduceIte,reduceCtorEq,Nat.reduceEqDiff,Nat.reduceAdd,Nat.reduceMul,Nat.reduceLT,Nat.reduceSub,Int.reduceLT,Int.reduceLE,Int.reduceEq,Int.reduceNe,Int.reduceSub,Int.reduceAdd,Int.reduceMul,Int.reduceBEq,Int.reduceBNe,Int.reduceGT,Int.reduceGE,Nat.reduceGT,Int.reduceToNat,Int.reduceNeg,Nat.reduceLeDiff,Nat.reduceBEq,Nat.reduceBneDiff,Value.cells, h1']
    exact ⟨κ, Ext.refl _ _ _, R0⟩
  · rw [if_pos h1, look_absent h2]
    simp -implicitDefEqProofs only [zB1,zB2,zB3,zB4,zB5,zB6,zB7,zB8,zB9,zB10,zB11,y00,y01,y02,y03,y04,y05,y06,y07,y08,y09,y0a,y0b,y0c,y0d,y0e,y0f,y0g,y0h,y0i,y0j,y0k,y0l,y0m,y0n,y0o,y0p,y0q,y0r,y0s,y0t,y0u,y0v,y0w,y0x,y0y,y0z,y10,y11,y12,y13,y14,y15,y16,y17,y18,y19,y1a,y1b,y1c,y1d,y1e,y1f,y1g,y1h,y1i,y1j,y1k,y1l,y1m,y1n,y1o,y1p,y1q,y1r,retO,retL,retV,z6i,allV,allP,z6j,z6m,z6n,z6t,z6u,z6v,binV,eqV,unV,oOpt,reduceIte,reduceCtorEq,Nat.reduceEqDiff,Nat.reduceAdd,Nat.reduceMul,Nat.reduceLT,Nat.reduceSub,Int.reduceLT,Int.reduceLE,Int.reduceEq,Int.reduceNe,Int.reduceSub,Int.reduceAdd,Int.reduceMul,Int.reduceBEq,Int.reduceBNe,Int.reduceGT,Int.reduceGE,Nat.reduceGT,Int.reduceToNat,Int.reduceNeg,Nat.reduceLeDiff,Nat.reduceBEq,Nat.reduceBneDiff,Value.cells]
    unfold ir_bandboxref11_Disk_Sync_13
    simp -implicitDefEqProofs only [zB1,zB2,zB3,zB4,zB5,zB6,zB7,zB8,zB9,zB10,zB11,y00,y01,y02,y03,y04,y05,y06,y07,y08,y09,y0a,y0b,y0c,y0d,y0e,y0f,y0g,y0h,y0i,y0j,y0k,y0l,y0m,y0n,y0o,y0p,y0q,y0r,y0s,y0t,y0u,y0v,y0w,y0x,y0y,y0z,y10,y11,y12,y13,y14,y15,y16,y17,y18,y19,y1a,y1b,y1c,y1d,y1e,y1f,y1g,y1h,y1i,y1j,y1k,y1l,y1m,y1n,y1o,y1p,y1q,y1r,retO,retL,retV,z6i,allV,allP,z6j,z6m,z6n,z6t,z6u,z6v,binV,eqV,unV,oOpt,reduceIte,reduceCtorEq,Nat.reduceEqDiff,Nat.reduceAdd,Nat.reduceMul,Nat.reduceLT,Nat.reduceSub,Int.reduceLT,Int.reduceLE,Int.reduceEq,Int.reduceNe,Int.reduceSub,Int.reduceAdd,Int.reduceMul,Int.reduceBEq,Int.reduceBNe,Int.reduceGT,Int.reduceGE,Nat.reduceGT,Int.reduceToNat,Int.reduceNeg,Nat.reduceLeDiff,Nat.reduceBEq,Nat.reduceBneDiff,Value.cells]
    exact ⟨κ, Ext.refl _ _ _, R0⟩
  · rw [if_pos h1, look_split e1 e2 e3]
    have hlt := files_len (Nat.le_refl _) e1
    have hi1 : (A.length : Int) < D.files.length := by omega
    have hi2 : (0 : Int) ≤ A.length := by omega
    obtain ⟨b, o, c, sv, wv, hv, -, s1, s2, hc⟩ := R.at' hlt
    simp only [Value.slice.injEq, true_and] at hv
    obtain ⟨rfl, rfl⟩ := hv
    obtain ⟨cn, -, -⟩ := hc H1 (Heap.le_refl _)
    have okf := (ok.1 _ (List.getElem_mem hlt)).1
    have leB := Heap.bare_le H1 κ
    have c10 := c1 H1 (Heap.le_refl _)
    simp -implicitDefEqProofs only [zB1,zB2,zB3,zB4,zB5,zB6,zB7,zB8,zB9,zB10,zB11,y00,y01,y02,y03,y04,y05,y06,y07,y08,y09,y0a,y0b,y0c,y0d,y0e,y0f,y0g,y0h,y0i,y0j,y0k,y0l,y0m,y0n,y0o,y0p,y0q,y0r,y0s,y0t,y0u,y0v,y0w,y0x,y0y,y0z,y10,y11,y12,y13,y14,y15,y16,y17,y18,y19,y1a,y1b,y1c,y1d,y1e,y1f,y1g,y1h,y1i,y1j,y1k,y1l,y1m,y1n,y1o,y1p,y1q,y1r,retO,retL,retV,z6i,allV,allP,z6j,z6m,z6n,z6t,z6u,z6v,binV,eqV,unV,oOpt,reduceIte,reduceCtorEq,Nat.reduceEqDiff,Nat.reduceAdd,Nat.reduceMul,Nat.reduceLT,Nat.reduceSub,Int.reduceLT,Int.reduceLE,Int.reduceEq,Int.reduceNe,Int.reduceSub,Int.reduceAdd,Int.reduceMul,Int.reduceBEq,Int.reduceBNe,Int.reduceGT,Int.reduceGE,Nat.reduceGT,Int.reduceToNat,Int.reduceNeg,Nat.reduceLeDiff,Nat.reduceBEq,Nat.reduceBneDiff,Value.cells]
    unfold ir_bandboxref11_Disk_Sync_13
    simp -implicitDefEqProofs only [zB1,zB2,zB3,zB4,zB5,zB6,zB7,zB8,zB9,zB10,zB11,y00,y01,y02,y03,y04,y05,y06,y07,y08,y09,y0a,y0b,y0c,y0d,y0e,y0f,y0g,y0h,y0i,y0j,y0k,y0l,y0m,y0n,y0o,y0p,y0q,y0r,y0s,y0t,y0u,y0v,y0w,y0x,y0y,y0z,y10,y11,y12,y13,y14,y15,y16,y17,y18,y19,y1a,y1b,y1c,y1d,y1e,y1f,y1g,y1h,y1i,y1j,y1k,y1l,y1m,y1n,y1o,y1p,y1q,y1r,retO,retL,retV,z6i,allV,allP,z6j,z6m,z6n,z6t,z6u,z6v,binV,eqV,unV,oOpt,reduceIte,reduceCtorEq,Nat.reduceEqDiff,Nat.reduceAdd,Nat.reduceMul,Nat.reduceLT,Nat.reduceSub,Int.reduceLT,Int.reduceLE,Int.reduceEq,Int.reduceNe,Int.reduceSub,Int.reduceAdd,Int.reduceMul,Int.reduceBEq,Int.reduceBNe,Int.reduceGT,Int.reduceGE,Nat.reduceGT,Int.reduceToNat,Int.reduceNeg,Nat.reduceLeDiff,Nat.reduceBEq,Nat.reduceBneDiff,Value.cells, c10, hi1, hi2, Int.toNat_natCast, cn]
    have ex : D.files[A.length] = x := by simp [e1]
    rw [ex] at s1 s2 okf ⊢
    refine (ref_all_c E (strV x.1) sv wv rfl (s1.le leB) (s2.le leB) okf).mono ?_
    rintro v H2 ⟨le2, o2⟩
    obtain ⟨vb, vc, rfl⟩ := Sl.shape o2.sl
    have e2' := Ext.wash (κ := κ) (cs := wC w) le2
    have R2 := R.le le2
    have Rw := R.ext (Ext.wash (κ := κ) (cs := fun _ => False) le2) (fun _ _ q => q)
    have c12 := c1 H2 le2
    obtain ⟨H3, st, e4, R4⟩ := Rw.put3 (x := (s, x.2.sync)) hlt (nm := strV s) (sv := .slice vb x.2.all.length vc) (wv := .slice none 0 0) ⟨_, _, rfl, o2.bare, ⟨[], rfl, .inl ⟨rfl, rfl, rfl⟩, fun i h1 h2 => by simp at h1⟩⟩ rfl
    simp only [strV] at st
    simp -implicitDefEqProofs only [zB1,zB2,zB3,zB4,zB5,zB6,zB7,zB8,zB9,zB10,zB11,y00,y01,y02,y03,y04,y05,y06,y07,y08,y09,y0a,y0b,y0c,y0d,y0e,y0f,y0g,y0h,y0i,y0j,y0k,y0l,y0m,y0n,y0o,y0p,y0q,y0r,y0s,y0t,y0u,y0v,y0w,y0x,y0y,y0z,y10,y11,y12,y13,y14,y15,y16,y17,y18,y19,y1a,y1b,y1c,y1d,y1e,y1f,y1g,y1h,y1i,y1j,y1k,y1l,y1m,y1n,y1o,y1p,y1q,y1r,retO,retL,retV,z6i,allV,allP,z6j,z6m,z6n,z6t,z6u,z6v,binV,eqV,unV,oOpt,reduceIte,reduceCtorEq,Nat.reduceEqDiff,Nat.reduceAdd,Nat.reduceMul,Nat.reduceLT,Nat.reduceSub,Int.reduceLT,Int.reduceLE,Int.reduceEq,Int.reduceNe,Int.reduceSub,Int.reduceAdd,Int.reduceMul,Int.reduceBEq,Int.reduceBNe,Int.reduceGT,Int.reduceGE,Nat.reduceGT,Int.reduceToNat,Int.reduceNeg,Nat.reduceLeDiff,Nat.reduceBEq,Nat.reduceBneDiff,Value.cells, c10, c12, hi1, hi2, Int.toNat_natCast, strV, st, implies_true, List.mem_cons, List.not_mem_nil, List.mem_singleton, or_false, forall_eq, forall_eq_or_imp, and_self]
    refine ⟨κ.wash H1, e2'.trans e4, ?_⟩
    rw [turn_split nd e1 e3]
    exact ⟨_, _, R4⟩
theorem RowsW.part {H : Heap} {A B : Files} {x : List UInt8 × FileF} (r : RowsW H (A ++ x :: B) cs) : RowsW H (A ++ B) (cs.take A.length ++ cs.drop (A.length + 1)) := by
  have hl := r.1
  simp only [List.length_append, List.length_cons] at hl
  refine ⟨by simp; omega, fun i h1 h2 => ?_⟩
  by_cases hi : i < A.length
  · have g := r.2 i (by omega) (by simp; omega)
    rw [List.getElem_append_left hi] at g
    rw [List.getElem_append_left hi, List.getElem_append_left (by simp; omega), List.getElem_take]
    exact g
  · have hi2 : i + 1 < cs.length := by simp at h1; omega
    have g := r.2 (i + 1) hi2 (by simp; omega)
    rw [List.getElem_append_right (by omega)] at g
    rw [List.getElem_append_right (by omega), List.getElem_append_right (by simp; omega), List.getElem_drop]
    have e1 : i + 1 - A.length = (i - A.length) + 1 := by omega
    have e2 : A.length + 1 + (i - (cs.take A.length).length) = i + 1 := by simp; omega
    simp only [e1, List.getElem_cons_succ] at g
    simp only [e2]
    exact g
theorem RowsW.ones {H : Heap} {L : Files} (r : RowsW H L cs) : cs.flatten.all one = true := by
  rw [List.all_eq_true]
  intro v hv
  obtain ⟨c, hc, hvc⟩ := List.mem_flatten.1 hv
  obtain ⟨i, hi, rfl⟩ := List.getElem_of_mem hc
  obtain ⟨sv, wv, e, s1, s2⟩ := r.2 i hi (by rw [← r.1]; exact hi)
  obtain ⟨_, _, rfl⟩ := Sl.shape s1
  obtain ⟨_, _, rfl⟩ := s2.shape
  rw [e] at hvc
  simp only [List.mem_cons, List.not_mem_nil, or_false] at hvc
  rcases hvc with rfl | rfl | rfl <;> rfl
theorem ones_sub {l : List Value} (h : l.all one = true) {m : List Value} (hm : ∀ x ∈ m, x ∈ l) : m.all one = true := by
  rw [List.all_eq_true] at h ⊢
  exact fun x hx => h x (hm x hx)
theorem ref_drop_c (E : EnvT tab) (R : WR κ H w D) (hn : D.files.length ≤ 100000) {A B : Files} {x : List UInt8 × FileF} (e1 : D.files = A ++ x :: B) :
    ACallN E.toEnv n_bandboxref11_Disk_drop [ptrV w, .int .i64 A.length] H fun v H' => ∃ κ', Ext (wC w) κ H κ' H' ∧ WR κ' H' w { D with files := A ++ B } := by
  obtain ⟨lv, cs, R⟩ := R
  obtain ⟨lb, lc, rfl⟩ := Sl.shape R.o.sl
  refine acall h_bandboxref11_Disk_drop ir_bandboxref11_Disk_drop rfl rfl (wpA_sound ?_)
  unfold ir_bandboxref11_Disk_drop
  have c1 : ∀ G, H.le G → hcell G ⟨w, 1, none⟩ = some (.slice lb D.files.length lc) := fun G x => by rw [hcell_at (x _ _ R.q) (by simp)]; rfl
  have c10 := c1 H (Heap.le_refl _)
  have hlt := files_len (Nat.le_refl _) e1
  have hcap := R.o.sl.cap
  have bd1 : bnds D.files.length lc none (some (some (.int .i64 (A.length : Int)))) none = some (0, A.length, lc) := bnds_hi (by omega) (by omega)
  simp -implicitDefEqProofs only [zB1,zB2,zB3,zB4,zB5,zB6,zB7,zB8,zB9,zB10,zB11,y00,y01,y02,y03,y04,y05,y06,y07,y08,y09,y0a,y0b,y0c,y0d,y0e,y0f,y0g,y0h,y0i,y0j,y0k,y0l,y0m,y0n,y0o,y0p,y0q,y0r,y0s,y0t,y0u,y0v,y0w,y0x,y0y,y0z,y10,y11,y12,y13,y14,y15,y16,y17,y18,y19,y1a,y1b,y1c,y1d,y1e,y1f,y1g,y1h,y1i,y1j,y1k,y1l,y1m,y1n,y1o,y1p,y1q,y1r,retO,retL,retV,z6i,allV,allP,z6j,z6m,z6n,z6t,z6u,z6v,binV,eqV,unV,oOpt,reduceIte,reduceCtorEq,Nat.reduceEqDiff,Nat.reduceAdd,Nat.reduceMul,Nat.reduceLT,Nat.reduceSub,Int.reduceLT,Int.reduceLE,Int.reduceEq,Int.reduceNe,Int.reduceSub,Int.reduceAdd,Int.reduceMul,Int.reduceBEq,Int.reduceBNe,Int.reduceGT,Int.reduceGE,Nat.reduceGT,Int.reduceToNat,Int.reduceNeg,Nat.reduceLeDiff,Nat.reduceBEq,Nat.reduceBneDiff,Value.cells, List.flatten_nil, List.replicate_zero]
  intro b1 hb1
  try simp -implicitDefEqProofs only [zB1,zB2,zB3,zB4,zB5,zB6,zB7,zB8,zB9,zB10,zB11,y00,y01,y02,y03,y04,y05,y06,y07,y08,y09,y0a,y0b,y0c,y0d,y0e,y0f,y0g,y0h,y0i,y0j,y0k,y0l,y0m,y0n,y0o,y0p,y0q,y0r,y0s,y0t,y0u,y0v,y0w,y0x,y0y,y0z,y10,y11,y12,y13,y14,y15,y16,y17,y18,y19,y1a,y1b,y1c,y1d,y1e,y1f,y1g,y1h,y1i,y1j,y1k,y1l,y1m,y1n,y1o,y1p,y1q,y1r,retO,retL,retV,z6i,allV,allP,z6j,z6m,z6n,z6t,z6u,z6v,binV,eqV,unV,oOpt,reduceIte,reduceCtorEq,Nat.reduceEqDiff,Nat.reduceAdd,Nat.reduceMul,Nat.reduceLT,Nat.reduceSub,Int.reduceLT,Int.reduceLE,Int.reduceEq,Int.reduceNe,Int.reduceSub,Int.reduceAdd,Int.reduceMul,Int.reduceBEq,Int.reduceBNe,Int.reduceGT,Int.reduceGE,Nat.reduceGT,Int.reduceToNat,Int.reduceNeg,Nat.reduceLeDiff,Nat.reduceBEq,Nat.reduceBneDiff,Value.cells]
  have le1 := Heap.le_set (Heap.le_refl H) hb1 (.own 0 [] 0)
  have c11 := c1 _ le1
  simp -implicitDefEqProofs only [zB1,zB2,zB3,zB4,zB5,zB6,zB7,zB8,zB9,zB10,zB11,y00,y01,y02,y03,y04,y05,y06,y07,y08,y09,y0a,y0b,y0c,y0d,y0e,y0f,y0g,y0h,y0i,y0j,y0k,y0l,y0m,y0n,y0o,y0p,y0q,y0r,y0s,y0t,y0u,y0v,y0w,y0x,y0y,y0z,y10,y11,y12,y13,y14,y15,y16,y17,y18,y19,y1a,y1b,y1c,y1d,y1e,y1f,y1g,y1h,y1i,y1j,y1k,y1l,y1m,y1n,y1o,y1p,y1q,y1r,retO,retL,retV,z6i,allV,allP,z6j,z6m,z6n,z6t,z6u,z6v,binV,eqV,unV,oOpt,reduceIte,reduceCtorEq,Nat.reduceEqDiff,Nat.reduceAdd,Nat.reduceMul,Nat.reduceLT,Nat.reduceSub,Int.reduceLT,Int.reduceLE,Int.reduceEq,Int.reduceNe,Int.reduceSub,Int.reduceAdd,Int.reduceMul,Int.reduceBEq,Int.reduceBNe,Int.reduceGT,Int.reduceGE,Nat.reduceGT,Int.reduceToNat,Int.reduceNeg,Nat.reduceLeDiff,Nat.reduceBEq,Nat.reduceBneDiff,Value.cells, c10, c11, bd1, addO lb lc (fun a _ => addr_add0 a), Nat.sub_zero, implies_true, List.mem_cons, List.not_mem_nil, List.mem_singleton, or_false, forall_eq, forall_eq_or_imp, and_self]
  have h3 := R.r.all3
  have hl := R.r.1
  have h1s := R.r.ones
  have sA := Sl.pre R.o.sl (k := A.length) (by omega)
  have sB := Sl.post R.o.sl (k := A.length + 1) (by omega)
  have ht := flat3_take A.length h3
  have hd := flat3_drop (A.length + 1) h3
  rw [Nat.mul_comm] at ht hd
  rw [ht] at sA
  rw [hd] at sB
  have leH2 := Heap.le_trans (Heap.but_le H κ (w, 0, 1)) (Heap.le_refl H)
  have oA : (cs.take A.length).flatten.all one = true := ones_sub h1s fun x hx => by
    obtain ⟨c, hc, hx⟩ := List.mem_flatten.1 hx
    exact List.mem_flatten.2 ⟨c, List.mem_of_mem_take hc, hx⟩
  have oB : (cs.drop (A.length + 1)).flatten.all one = true := ones_sub h1s fun x hx => by
    obtain ⟨c, hc, hx⟩ := List.mem_flatten.1 hx
    exact List.mem_flatten.2 ⟨c, List.mem_of_mem_drop hc, hx⟩
  refine appendP_ow (n := 0) (cells := []) (m := A.length) le1 (by omega) (Ow.new (c := 0) (sz := 0) (Heap.le_refl _) hb1 rfl (by omega) (by omega)) (sA.le le1) oA (by omega) (by omega) ?_
  intro v1 H1 o1 le2
  rw [Nat.zero_add, List.nil_append] at o1
  obtain ⟨vb1, vc1, rfl⟩ := Sl.shape o1.sl
  have c12 := c1 _ le2
  have w1 : IntKind.i64.wrap ((A.length : Int) + 1) = ((A.length + 1 : Nat) : Int) := wrapN (by omega)
  have bd2 : bnds D.files.length lc (some (some (.int .i64 ((A.length + 1 : Nat) : Int)))) none none = some (A.length + 1, D.files.length, lc) := bnds_lo (by omega) (by omega)
  simp -implicitDefEqProofs only [zB1,zB2,zB3,zB4,zB5,zB6,zB7,zB8,zB9,zB10,zB11,y00,y01,y02,y03,y04,y05,y06,y07,y08,y09,y0a,y0b,y0c,y0d,y0e,y0f,y0g,y0h,y0i,y0j,y0k,y0l,y0m,y0n,y0o,y0p,y0q,y0r,y0s,y0t,y0u,y0v,y0w,y0x,y0y,y0z,y10,y11,y12,y13,y14,y15,y16,y17,y18,y19,y1a,y1b,y1c,y1d,y1e,y1f,y1g,y1h,y1i,y1j,y1k,y1l,y1m,y1n,y1o,y1p,y1q,y1r,retO,retL,retV,z6i,allV,allP,z6j,z6m,z6n,z6t,z6u,z6v,binV,eqV,unV,oOpt,reduceIte,reduceCtorEq,Nat.reduceEqDiff,Nat.reduceAdd,Nat.reduceMul,Nat.reduceLT,Nat.reduceSub,Int.reduceLT,Int.reduceLE,Int.reduceEq,Int.reduceNe,Int.reduceSub,Int.reduceAdd,Int.reduceMul,Int.reduceBEq,Int.reduceBNe,Int.reduceGT,Int.reduceGE,Nat.reduceGT,Int.reduceToNat,Int.reduceNeg,Nat.reduceLeDiff,Nat.reduceBEq,Nat.reduceBneDiff,Value.cells, c10, c11, c12, w1, bd2, implies_true, List.mem_cons, List.not_mem_nil, List.mem_singleton, or_false, forall_eq, forall_eq_or_imp, and_self]
  have hAB : (cs.take A.length).flatten ++ (cs.drop (A.length + 1)).flatten = (cs.take A.length ++ cs.drop (A.length + 1)).flatten := by rw [List.flatten_append]
  refine appendP_ow le2 (by omega) o1 (sB.le le2) oB (by omega) (by omega) ?_
  intro v2 H2 o2 le3
  obtain ⟨vb2, vc2, rfl⟩ := Sl.shape o2.sl
  have st : storeV H2 1 (.pointer (some ⟨w, 1, none⟩)) (.slice vb2 (A.length + (D.files.length - (A.length + 1))) vc2) = some (H2.set w (.own 0 [.int .i64 D.room, .slice vb2 (A.length + (D.files.length - (A.length + 1))) vc2, .bool (!D.on), .int .i64 D.lives] 4)) := storeV_one_at (le3 _ _ R.q) rfl (by simp) (by simp)
  simp -implicitDefEqProofs only [zB1,zB2,zB3,zB4,zB5,zB6,zB7,zB8,zB9,zB10,zB11,y00,y01,y02,y03,y04,y05,y06,y07,y08,y09,y0a,y0b,y0c,y0d,y0e,y0f,y0g,y0h,y0i,y0j,y0k,y0l,y0m,y0n,y0o,y0p,y0q,y0r,y0s,y0t,y0u,y0v,y0w,y0x,y0y,y0z,y10,y11,y12,y13,y14,y15,y16,y17,y18,y19,y1a,y1b,y1c,y1d,y1e,y1f,y1g,y1h,y1i,y1j,y1k,y1l,y1m,y1n,y1o,y1p,y1q,y1r,retO,retL,retV,z6i,allV,allP,z6j,z6m,z6n,z6t,z6u,z6v,binV,eqV,unV,oOpt,reduceIte,reduceCtorEq,Nat.reduceEqDiff,Nat.reduceAdd,Nat.reduceMul,Nat.reduceLT,Nat.reduceSub,Int.reduceLT,Int.reduceLE,Int.reduceEq,Int.reduceNe,Int.reduceSub,Int.reduceAdd,Int.reduceMul,Int.reduceBEq,Int.reduceBNe,Int.reduceGT,Int.reduceGE,Nat.reduceGT,Int.reduceToNat,Int.reduceNeg,Nat.reduceLeDiff,Nat.reduceBEq,Nat.reduceBneDiff,Value.cells, st, implies_true]
  have e1' : Ext (fun _ => False) κ H (κ.grow H (w, 0, 1)) H2 := Ext.tint le3
  have k1 := (e1'.blk R.k (fun q => q) R.q).2
  have e2' := Ext.set (H := H2) k1 (.own 0 [.int .i64 D.room, .slice vb2 (A.length + (D.files.length - (A.length + 1))) vc2, .bool (!D.on), .int .i64 D.lives] 4)
  refine ⟨κ.grow H (w, 0, 1), (e1'.mono fun c h => h.elim).trans (e2'.mono fun c h => by subst h; rfl), _, cs.take A.length ++ cs.drop (A.length + 1), k1, Heap.set_self _ _ _, e2'.own (by simp) ?_, ?_⟩
  · have hlen : A.length + (D.files.length - (A.length + 1)) = (A ++ B).length := by rw [e1]; simp only [List.length_append, List.length_cons]; omega
    rw [hAB, hlen] at o2
    rw [hlen]
    exact OwK.tinted o2
  · have r := R.r
    rw [e1] at r
    exact (r.part.le e1'.bare).le e2'.bare
theorem ref_Drop_c (E : EnvT tab) (R : WR κ H w D) (hn : D.files.length ≤ 100000) (nd : (D.files.map (·.1)).Nodup) (s : List UInt8) (hs : s.length ≤ 9000000000000000000) :
    ACallN E.toEnv n_bandboxref11_Disk_Drop [ptrV w, strV s] H fun v H' => v = .int .i64 ((dropF D s).2 : Nat) ∧ ∃ κ', Ext (wC w) κ H κ' H' ∧ WR κ' H' w (dropF D s).1 := by
  refine acall h_bandboxref11_Disk_Drop ir_bandboxref11_Disk_Drop rfl rfl (wpA_sound ?_)
  unfold ir_bandboxref11_Disk_Drop
  simp -implicitDefEqProofs only [zB1,zB2,zB3,zB4,zB5,zB6,zB7,zB8,zB9,zB10,zB11,y00,y01,y02,y03,y04,y05,y06,y07,y08,y09,y0a,y0b,y0c,y0d,y0e,y0f,y0g,y0h,y0i,y0j,y0k,y0l,y0m,y0n,y0o,y0p,y0q,y0r,y0s,y0t,y0u,y0v,y0w,y0x,y0y,y0z,y10,y11,y12,y13,y14,y15,y16,y17,y18,y19,y1a,y1b,y1c,y1d,y1e,y1f,y1g,y1h,y1i,y1j,y1k,y1l,y1m,y1n,y1o,y1p,y1q,y1r,retO,retL,retV,z6i,allV,allP,z6j,z6m,z6n,z6t,z6u,z6v,binV,eqV,unV,oOpt,reduceIte,reduceCtorEq,Nat.reduceEqDiff,Nat.reduceAdd,Nat.reduceMul,Nat.reduceLT,Nat.reduceSub,Int.reduceLT,Int.reduceLE,Int.reduceEq,Int.reduceNe,Int.reduceSub,Int.reduceAdd,Int.reduceMul,Int.reduceBEq,Int.reduceBNe,Int.reduceGT,Int.reduceGE,Nat.reduceGT,Int.reduceToNat,Int.reduceNeg,Nat.reduceLeDiff,Nat.reduceBEq,Nat.reduceBneDiff,Value.cells]
  refine (ref_ask_c E R s hs hn).mono ?_
  rintro v H1 ⟨rfl, hm⟩
  unfold dropF
  rcases hm with ⟨h1, rfl⟩ | ⟨h1, h2, rfl⟩ | ⟨h1, A, x, B, e1, e2, e3, rfl⟩
  · have h1' : ¬ ((askF D [s] : Nat) : Int) = 0 := by omega
    rw [if_neg h1]
    simp -implicitDefEqProofs only [zB1,zB2,zB3,zB4,zB5,zB6,zB7,zB8,zB9,zB10,zB11,y00,y01,y02,y03,y04,y05,y06,y07,y08,y09,y0a,y0b,y0c,y0d,y0e,y0f,y0g,y0h,y0i,y0j,y0k,y0l,y0m,y0n,y0o,y0p,y0q,y0r,y0s,y0t,y0u,y0v,y0w,y0x,y0y,y0z,y10,y11,y12,y13,y14,y15,y16,y17,y18,y19,y1a,y1b,y1c,y1d,y1e,y1f,y1g,y1h,y1i,y1j,y1k,y1l,y1m,y1n,y1o,y1p,y1q,y1r,retO,retL,retV,z6i,allV,allP,z6j,z6m,z6n,z6t,z6u,z6v,binV,eqV,unV,oOpt,reduceIte,reduceCtorEq,Nat.reduceEqDiff,Nat.reduceAdd,Nat.reduceMul,Nat.reduceLT,Nat.reduceSub,Int.reduceLT,Int.reduceLE,Int.reduceEq,Int.reduceNe,Int.reduceSub,Int.reduceAdd,Int.reduceMul,Int.reduceBEq,Int.reduceBNe,Int.reduceGT,Int.reduceGE,Nat.reduceGT,Int.reduceToNat,Int.reduceNeg,Nat.reduceLeDiff,Nat.reduceBEq,Nat.reduceBneDiff,Value.cells, h1']
    exact ⟨κ, Ext.refl _ _ _, R⟩
  · rw [if_pos h1, look_absent h2]
    simp -implicitDefEqProofs only [zB1,zB2,zB3,zB4,zB5,zB6,zB7,zB8,zB9,zB10,zB11,y00,y01,y02,y03,y04,y05,y06,y07,y08,y09,y0a,y0b,y0c,y0d,y0e,y0f,y0g,y0h,y0i,y0j,y0k,y0l,y0m,y0n,y0o,y0p,y0q,y0r,y0s,y0t,y0u,y0v,y0w,y0x,y0y,y0z,y10,y11,y12,y13,y14,y15,y16,y17,y18,y19,y1a,y1b,y1c,y1d,y1e,y1f,y1g,y1h,y1i,y1j,y1k,y1l,y1m,y1n,y1o,y1p,y1q,y1r,retO,retL,retV,z6i,allV,allP,z6j,z6m,z6n,z6t,z6u,z6v,binV,eqV,unV,oOpt,reduceIte,reduceCtorEq,Nat.reduceEqDiff,Nat.reduceAdd,Nat.reduceMul,Nat.reduceLT,Nat.reduceSub,Int.reduceLT,Int.reduceLE,Int.reduceEq,Int.reduceNe,Int.reduceSub,Int.reduceAdd,Int.reduceMul,Int.reduceBEq,Int.reduceBNe,Int.reduceGT,Int.reduceGE,Nat.reduceGT,Int.reduceToNat,Int.reduceNeg,Nat.reduceLeDiff,Nat.reduceBEq,Nat.reduceBneDiff,Value.cells]
    exact ⟨κ, Ext.refl _ _ _, R⟩
  · rw [if_pos h1, look_split e1 e2 e3]
    simp -implicitDefEqProofs only [zB1,zB2,zB3,zB4,zB5,zB6,zB7,zB8,zB9,zB10,zB11,y00,y01,y02,y03,y04,y05,y06,y07,y08,y09,y0a,y0b,y0c,y0d,y0e,y0f,y0g,y0h,y0i,y0j,y0k,y0l,y0m,y0n,y0o,y0p,y0q,y0r,y0s,y0t,y0u,y0v,y0w,y0x,y0y,y0z,y10,y11,y12,y13,y14,y15,y16,y17,y18,y19,y1a,y1b,y1c,y1d,y1e,y1f,y1g,y1h,y1i,y1j,y1k,y1l,y1m,y1n,y1o,y1p,y1q,y1r,retO,retL,retV,z6i,allV,allP,z6j,z6m,z6n,z6t,z6u,z6v,binV,eqV,unV,oOpt,reduceIte,reduceCtorEq,Nat.reduceEqDiff,Nat.reduceAdd,Nat.reduceMul,Nat.reduceLT,Nat.reduceSub,Int.reduceLT,Int.reduceLE,Int.reduceEq,Int.reduceNe,Int.reduceSub,Int.reduceAdd,Int.reduceMul,Int.reduceBEq,Int.reduceBNe,Int.reduceGT,Int.reduceGE,Nat.reduceGT,Int.reduceToNat,Int.reduceNeg,Nat.reduceLeDiff,Nat.reduceBEq,Nat.reduceBneDiff,Value.cells]
    refine (ref_drop_c E R hn e1).mono ?_
    rintro v H2 ⟨κ', e, R2⟩
    simp -implicitDefEqProofs only [zB1,zB2,zB3,zB4,zB5,zB6,zB7,zB8,zB9,zB10,zB11,y00,y01,y02,y03,y04,y05,y06,y07,y08,y09,y0a,y0b,y0c,y0d,y0e,y0f,y0g,y0h,y0i,y0j,y0k,y0l,y0m,y0n,y0o,y0p,y0q,y0r,y0s,y0t,y0u,y0v,y0w,y0x,y0y,y0z,y10,y11,y12,y13,y14,y15,y16,y17,y18,y19,y1a,y1b,y1c,y1d,y1e,y1f,y1g,y1h,y1i,y1j,y1k,y1l,y1m,y1n,y1o,y1p,y1q,y1r,retO,retL,retV,z6i,allV,allP,z6j,z6m,z6n,z6t,z6u,z6v,binV,eqV,unV,oOpt,reduceIte,reduceCtorEq,Nat.reduceEqDiff,Nat.reduceAdd,Nat.reduceMul,Nat.reduceLT,Nat.reduceSub,Int.reduceLT,Int.reduceLE,Int.reduceEq,Int.reduceNe,Int.reduceSub,Int.reduceAdd,Int.reduceMul,Int.reduceBEq,Int.reduceBNe,Int.reduceGT,Int.reduceGE,Nat.reduceGT,Int.reduceToNat,Int.reduceNeg,Nat.reduceLeDiff,Nat.reduceBEq,Nat.reduceBneDiff,Value.cells]
    rw [del_split nd e1 e3]
    exact ⟨κ', e, R2⟩
end
end Go.Bb
/- Contracts: the document's own disk: append, rename. -/
namespace Go.Bb
set_option linter.unusedSimpArgs false
set_option linter.unusedVariables false
set_option maxRecDepth 20000
set_option maxHeartbeats 2000000

section
variable {κ : Pal} {H : Heap} {w : Nat} {D : DiskF} {lv : Value} {cs : List (List Value)}
theorem RowsW.snoc {H : Heap} {L : Files} (r : RowsW H L cs) {x : List UInt8 × FileF} {c : List Value} (row : RowW H x c) : RowsW H (L ++ [x]) (cs ++ [c]) := by
  have hl := r.1
  refine ⟨by simp [hl], fun i h1 h2 => ?_⟩
  by_cases hi : i < L.length
  · rw [List.getElem_append_left hi, List.getElem_append_left (by omega)]
    exact r.2 i _ _
  · have e : i = L.length := by simp at h2; omega
    subst e
    rw [List.getElem_append_right (by omega), List.getElem_append_right (by omega)]
    simpa using row
theorem wr_push {K : Value → Heap → Prop} (R : WRV κ H w D lv cs) {xv : Value} {x : List UInt8 × FileF} {c : List Value} (hx : Sl H 3 xv 1 c) (h1 : c.all one = true) (row : RowW (H.bare κ) x c) (hb : D.files.length ≤ 100000)
    (hk : ∀ v H', (∃ base cc, v = .slice base (D.files.length + 1) cc) → H' w = some (.own 0 [.int .i64 D.room, lv, .bool (!D.on), .int .i64 D.lives] 4) → (∃ κ', Ext (wC w) κ H κ' (H'.set w (.own 0 [.int .i64 D.room, v, .bool (!D.on), .int .i64 D.lives] 4)) ∧ WRV κ' (H'.set w (.own 0 [.int .i64 D.room, v, .bool (!D.on), .int .i64 D.lives] 4)) w { D with files := D.files ++ [x] } v (cs ++ [c])) → K v H') : appendP 3 64 H lv xv K := by
  refine appendP_ow (Heap.but_le H κ (w, 0, 1)) (by omega) R.o hx h1 (by omega) (by omega) ?_
  intro v H' o le
  have e1 := Ext.grow le
  obtain ⟨q', k'⟩ := e1.blk R.k (by simp) R.q
  have e2 := Ext.set (H := H') k' (.own 0 [.int .i64 D.room, v, .bool (!D.on), .int .i64 D.lives] 4)
  refine hk v H' (Sl.shape o.sl) q' ⟨κ.grow H (w, 0, 1), (e1.mono fun c h => by subst h; rfl).trans (e2.mono fun c h => by subst h; rfl), k', Heap.set_self _ _ _, e2.own (by simp) ?_, ((R.r.snoc row).le e1.bare).le e2.bare⟩
  have o' := OwK.grown o
  rw [List.flatten_append, List.length_append]
  simpa using o'
/-- A row of texts and one more. -/
theorem SlL.snoc {H0 H : Heap} (le : H0.le H) {W : List (List UInt8)} {vs : List Value} {v w : Value} {b : List UInt8} (hl : vs.length = W.length) (ev : ∀ i (h1 : i < vs.length) (h2 : i < W.length), SlB H0 vs[i] W[i]) (sw : SlB H w b) (s : Sl H 1 v (W.length + 1) (vs ++ [w])) : SlL H v (W ++ [b]) := by
  refine ⟨vs ++ [w], by simp [hl], by simpa using s, fun i h1 h2 => ?_⟩
  by_cases hi : i < W.length
  · rw [List.getElem_append_left hi, List.getElem_append_left (by omega)]
    exact (ev i _ _).le le
  · have e : i = W.length := by simp at h2; omega
    subst e
    have e2 : [w][W.length - vs.length]'(by simp; omega) = w := by simp
    rw [List.getElem_append_right (by omega), e2]
    simpa using sw
/-- What is new between two heaps, coloured. -/
def npal (h h' : Heap) : Pal := fun b => if h b = none ∧ h' b ≠ none then some (0, 0, 0) else none
theorem npal_own {h h' : Heap} {size n : Nat} {v : Value} {cells : List Value} (s : Ow h h' size v n cells) : OwK (npal h h') (0, 0, 0) h' size v n cells := by
  rcases s with s | ⟨b, o, c, sz, st, pre, rest, h1, h2, h3, h4, h5⟩
  · exact .inl s
  · refine .inr ⟨b, o, c, sz, st, pre, rest, h1, h2, Heap.but_none.2 (.inl ?_), h4, h5⟩
    unfold npal
    rw [if_pos ⟨h3, by rw [h4]; simp⟩]
theorem npal_le {h h1 H : Heap} (le : h.le H) : h.le (H.but (npal h h1) (0, 0, 0)) := by
  intro b x q
  refine Heap.but_some (le b x q) ?_
  unfold npal
  rw [if_neg (by rw [q]; simp)]; simp
theorem Ow.carry {κ : Pal} {h h1 h2 h3 h4 : Heap} {size n : Nat} {v : Value} {cells : List Value} (o : Ow h1 h2 size v n cells) (l1 : h.le h1) (l2 : h2.le h3) (l3 : (h3.but (npal h h1) (0, 0, 0)).le h4) : Sl (h4.bare (κ.wash h)) size v n cells := by
  have : Ow h1 (h4.bare (κ.wash h)) size v n cells := by
    rcases o with s | ⟨b, o, c, sz, st, pre, rest, q1, q2, q3, q4, q5⟩
    · exact .inl s
    · refine .inr ⟨b, o, c, sz, st, pre, rest, q1, q2, q3, Heap.bare_some.2 ⟨l3 _ _ (Heap.but_some (l2 _ _ q4) ?_), wash_none (Heap.none_of_le l1 q3)⟩, q5⟩
      unfold npal
      rw [if_neg (by rw [q3]; simp)]; simp
  exact this.sl
theorem ref_write (E : EnvT tab) {lb lo lc : Nat} (R : WRV κ H w D (.slice (some ⟨lb, lo, none⟩) D.files.length lc) cs) {i : Nat} (hi : i < D.files.length) (hn : D.files.length ≤ 100000) (ok : D.files[i].2.ok) {bb : Option Addr} {bc : Nat} {b : List UInt8} (sb : SlB (H.bare κ) (.slice bb b.length bc) b) (hb : b.length ≤ 1000000) {ρ : Nat → Option Value} {Q : Value → Heap → Prop} (r0 : ρ 0 = some (ptrV w)) (r2 : ρ 2 = some (.slice bb b.length bc)) (r7 : ρ 7 = some (.int .i64 i))
    (hk : ∀ H' κ', Ext (wC w) κ H κ' H' → WR κ' H' w { D with files := D.files.set i (D.files[i].1, writeF D.files[i].2 b) } → Q (.int .i64 0) H') :
    wpA E.toEnv 73 ir_bandboxref11_Disk_Append_56 (qRet [.tmp 6] Q) ρ H := by
  have c1 : ∀ G, H.le G → hcell G ⟨w, 1, none⟩ = some (.slice (some ⟨lb, lo, none⟩) D.files.length lc) := fun G x => by rw [hcell_at (x _ _ R.q) (by simp)]; rfl
  have hi1 : (i : Int) < D.files.length := by omega
  have hi2 : (0 : Int) ≤ i := by omega
  obtain ⟨b', o', c', sv, wv, hv, -, s1, s2, hc⟩ := R.at' hi
  simp only [Value.slice.injEq, Option.some.injEq, Addr.mk.injEq, and_true, true_and] at hv
  obtain ⟨⟨rfl, rfl⟩, rfl⟩ := hv
  obtain ⟨vs, hvl, slv, ov, ev⟩ := s2.one
  obtain ⟨wb, wc, rfl⟩ := Sl.shape slv
  have c10 := c1 H (Heap.le_refl _)
  obtain ⟨-, -, cw⟩ := hc H (Heap.le_refl _)
  unfold ir_bandboxref11_Disk_Append_56
  simp -implicitDefEqProofs only [zB1,zB2,zB3,zB4,zB5,zB6,zB7,zB8,zB9,zB10,zB11,y00,y01,y02,y03,y04,y05,y06,y07,y08,y09,y0a,y0b,y0c,y0d,y0e,y0f,y0g,y0h,y0i,y0j,y0k,y0l,y0m,y0n,y0o,y0p,y0q,y0r,y0s,y0t,y0u,y0v,y0w,y0x,y0y,y0z,y10,y11,y12,y13,y14,y15,y16,y17,y18,y19,y1a,y1b,y1c,y1d,y1e,y1f,y1g,y1h,y1i,y1j,y1k,y1l,y1m,y1n,y1o,y1p,y1q,y1r,retO,retL,retV,z6i,allV,allP,z6j,z6m,z6n,z6t,z6u,z6v,binV,eqV,unV,oOpt,reduceIte,reduceCtorEq,Nat.reduceEqDiff,Nat.reduceAdd,Nat.reduceMul,Nat.reduceLT,Nat.reduceSub,Int.reduceLT,Int.reduceLE,Int.reduceEq,Int.reduceNe,Int.reduceSub,Int.reduceAdd,Int.reduceMul,Int.reduceBEq,Int.reduceBNe,Int.reduceGT,Int.reduceGE,Nat.reduceGT,Int.reduceToNat,Int.reduceNeg,Nat.reduceLeDiff,Nat.reduceBEq,Nat.reduceBneDiff,Value.cells, r0, r2, r7, List.flatten_nil, List.replicate_zero]
  intro b1 hb1
  try simp -implicitDefEqProofs only [zB1,zB2,zB3,zB4,zB5,zB6,zB7,zB8,zB9,zB10,zB11,y00,y01,y02,y03,y04,y05,y06,y07,y08,y09,y0a,y0b,y0c,y0d,y0e,y0f,y0g,y0h,y0i,y0j,y0k,y0l,y0m,y0n,y0o,y0p,y0q,y0r,y0s,y0t,y0u,y0v,y0w,y0x,y0y,y0z,y10,y11,y12,y13,y14,y15,y16,y17,y18,y19,y1a,y1b,y1c,y1d,y1e,y1f,y1g,y1h,y1i,y1j,y1k,y1l,y1m,y1n,y1o,y1p,y1q,y1r,retO,retL,retV,z6i,allV,allP,z6j,z6m,z6n,z6t,z6u,z6v,binV,eqV,unV,oOpt,reduceIte,reduceCtorEq,Nat.reduceEqDiff,Nat.reduceAdd,Nat.reduceMul,Nat.reduceLT,Nat.reduceSub,Int.reduceLT,Int.reduceLE,Int.reduceEq,Int.reduceNe,Int.reduceSub,Int.reduceAdd,Int.reduceMul,Int.reduceBEq,Int.reduceBNe,Int.reduceGT,Int.reduceGE,Nat.reduceGT,Int.reduceToNat,Int.reduceNeg,Nat.reduceLeDiff,Nat.reduceBEq,Nat.reduceBneDiff,Value.cells]
  have le1 := Heap.le_set (Heap.le_refl H) hb1 (.own 0 [] 0)
  simp -implicitDefEqProofs only [zB1,zB2,zB3,zB4,zB5,zB6,zB7,zB8,zB9,zB10,zB11,y00,y01,y02,y03,y04,y05,y06,y07,y08,y09,y0a,y0b,y0c,y0d,y0e,y0f,y0g,y0h,y0i,y0j,y0k,y0l,y0m,y0n,y0o,y0p,y0q,y0r,y0s,y0t,y0u,y0v,y0w,y0x,y0y,y0z,y10,y11,y12,y13,y14,y15,y16,y17,y18,y19,y1a,y1b,y1c,y1d,y1e,y1f,y1g,y1h,y1i,y1j,y1k,y1l,y1m,y1n,y1o,y1p,y1q,y1r,retO,retL,retV,z6i,allV,allP,z6j,z6m,z6n,z6t,z6u,z6v,binV,eqV,unV,oOpt,reduceIte,reduceCtorEq,Nat.reduceEqDiff,Nat.reduceAdd,Nat.reduceMul,Nat.reduceLT,Nat.reduceSub,Int.reduceLT,Int.reduceLE,Int.reduceEq,Int.reduceNe,Int.reduceSub,Int.reduceAdd,Int.reduceMul,Int.reduceBEq,Int.reduceBNe,Int.reduceGT,Int.reduceGE,Nat.reduceGT,Int.reduceToNat,Int.reduceNeg,Nat.reduceLeDiff,Nat.reduceBEq,Nat.reduceBneDiff,Value.cells, r0, r2, r7, c10, hi1, hi2, Int.toNat_natCast, cw]
  have hwl := ok.1
  refine appendP_ow (n := 0) (cells := []) (m := D.files[i].2.writes.length) (news := vs) le1 (by omega) (Ow.new (c := 0) (sz := 0) (Heap.le_refl _) hb1 rfl (by omega) (by omega)) (slv.le (Heap.le_trans (Heap.bare_le _ _) le1)) ov (by omega) (by omega) ?_
  intro v1 H1 o1 le1'
  rw [Nat.zero_add, List.nil_append] at o1
  obtain ⟨vb1, vc1, rfl⟩ := Sl.shape o1.sl
  simp -implicitDefEqProofs only [zB1,zB2,zB3,zB4,zB5,zB6,zB7,zB8,zB9,zB10,zB11,y00,y01,y02,y03,y04,y05,y06,y07,y08,y09,y0a,y0b,y0c,y0d,y0e,y0f,y0g,y0h,y0i,y0j,y0k,y0l,y0m,y0n,y0o,y0p,y0q,y0r,y0s,y0t,y0u,y0v,y0w,y0x,y0y,y0z,y10,y11,y12,y13,y14,y15,y16,y17,y18,y19,y1a,y1b,y1c,y1d,y1e,y1f,y1g,y1h,y1i,y1j,y1k,y1l,y1m,y1n,y1o,y1p,y1q,y1r,retO,retL,retV,z6i,allV,allP,z6j,z6m,z6n,z6t,z6u,z6v,binV,eqV,unV,oOpt,reduceIte,reduceCtorEq,Nat.reduceEqDiff,Nat.reduceAdd,Nat.reduceMul,Nat.reduceLT,Nat.reduceSub,Int.reduceLT,Int.reduceLE,Int.reduceEq,Int.reduceNe,Int.reduceSub,Int.reduceAdd,Int.reduceMul,Int.reduceBEq,Int.reduceBNe,Int.reduceGT,Int.reduceGE,Nat.reduceGT,Int.reduceToNat,Int.reduceNeg,Nat.reduceLeDiff,Nat.reduceBEq,Nat.reduceBneDiff,Value.cells, r0, r2, r7, List.flatten_nil, List.replicate_zero]
  intro b2 hb2
  try simp -implicitDefEqProofs only [zB1,zB2,zB3,zB4,zB5,zB6,zB7,zB8,zB9,zB10,zB11,y00,y01,y02,y03,y04,y05,y06,y07,y08,y09,y0a,y0b,y0c,y0d,y0e,y0f,y0g,y0h,y0i,y0j,y0k,y0l,y0m,y0n,y0o,y0p,y0q,y0r,y0s,y0t,y0u,y0v,y0w,y0x,y0y,y0z,y10,y11,y12,y13,y14,y15,y16,y17,y18,y19,y1a,y1b,y1c,y1d,y1e,y1f,y1g,y1h,y1i,y1j,y1k,y1l,y1m,y1n,y1o,y1p,y1q,y1r,retO,retL,retV,z6i,allV,allP,z6j,z6m,z6n,z6t,z6u,z6v,binV,eqV,unV,oOpt,reduceIte,reduceCtorEq,Nat.reduceEqDiff,Nat.reduceAdd,Nat.reduceMul,Nat.reduceLT,Nat.reduceSub,Int.reduceLT,Int.reduceLE,Int.reduceEq,Int.reduceNe,Int.reduceSub,Int.reduceAdd,Int.reduceMul,Int.reduceBEq,Int.reduceBNe,Int.reduceGT,Int.reduceGE,Nat.reduceGT,Int.reduceToNat,Int.reduceNeg,Nat.reduceLeDiff,Nat.reduceBEq,Nat.reduceBneDiff,Value.cells]
  have le2 := Heap.le_set (Heap.le_refl H1) hb2 (.own 0 [] 0)
  try simp -implicitDefEqProofs only [zB1,zB2,zB3,zB4,zB5,zB6,zB7,zB8,zB9,zB10,zB11,y00,y01,y02,y03,y04,y05,y06,y07,y08,y09,y0a,y0b,y0c,y0d,y0e,y0f,y0g,y0h,y0i,y0j,y0k,y0l,y0m,y0n,y0o,y0p,y0q,y0r,y0s,y0t,y0u,y0v,y0w,y0x,y0y,y0z,y10,y11,y12,y13,y14,y15,y16,y17,y18,y19,y1a,y1b,y1c,y1d,y1e,y1f,y1g,y1h,y1i,y1j,y1k,y1l,y1m,y1n,y1o,y1p,y1q,y1r,retO,retL,retV,z6i,allV,allP,z6j,z6m,z6n,z6t,z6u,z6v,binV,eqV,unV,oOpt,reduceIte,reduceCtorEq,Nat.reduceEqDiff,Nat.reduceAdd,Nat.reduceMul,Nat.reduceLT,Nat.reduceSub,Int.reduceLT,Int.reduceLE,Int.reduceEq,Int.reduceNe,Int.reduceSub,Int.reduceAdd,Int.reduceMul,Int.reduceBEq,Int.reduceBNe,Int.reduceGT,Int.reduceGE,Nat.reduceGT,Int.reduceToNat,Int.reduceNeg,Nat.reduceLeDiff,Nat.reduceBEq,Nat.reduceBneDiff,Value.cells, r0, r2, r7, implies_true, true_and]
  refine appendP_ow (n := 0) (cells := []) (m := b.length) (news := b.map u8V) le2 (by omega) (Ow.new (c := 0) (sz := 0) (Heap.le_refl _) hb2 rfl (by omega) (by omega)) (sb.le (Heap.le_trans (Heap.bare_le _ _) (Heap.le_trans le1' le2))) (one_u8 _) (by omega) (by omega) ?_
  intro v2 H2 o2 le2'
  rw [Nat.zero_add, List.nil_append] at o2
  obtain ⟨vb2, vc2, rfl⟩ := Sl.shape o2.sl
  simp -implicitDefEqProofs only [zB1,zB2,zB3,zB4,zB5,zB6,zB7,zB8,zB9,zB10,zB11,y00,y01,y02,y03,y04,y05,y06,y07,y08,y09,y0a,y0b,y0c,y0d,y0e,y0f,y0g,y0h,y0i,y0j,y0k,y0l,y0m,y0n,y0o,y0p,y0q,y0r,y0s,y0t,y0u,y0v,y0w,y0x,y0y,y0z,y10,y11,y12,y13,y14,y15,y16,y17,y18,y19,y1a,y1b,y1c,y1d,y1e,y1f,y1g,y1h,y1i,y1j,y1k,y1l,y1m,y1n,y1o,y1p,y1q,y1r,retO,retL,retV,z6i,allV,allP,z6j,z6m,z6n,z6t,z6u,z6v,binV,eqV,unV,oOpt,reduceIte,reduceCtorEq,Nat.reduceEqDiff,Nat.reduceAdd,Nat.reduceMul,Nat.reduceLT,Nat.reduceSub,Int.reduceLT,Int.reduceLE,Int.reduceEq,Int.reduceNe,Int.reduceSub,Int.reduceAdd,Int.reduceMul,Int.reduceBEq,Int.reduceBNe,Int.reduceGT,Int.reduceGE,Nat.reduceGT,Int.reduceToNat,Int.reduceNeg,Nat.reduceLeDiff,Nat.reduceBEq,Nat.reduceBneDiff,Value.cells, r0, r2, r7, List.length_replicate, List.drop_replicate, List.replicate_zero, implies_true]
  intro b3 hb3
  try simp -implicitDefEqProofs only [zB1,zB2,zB3,zB4,zB5,zB6,zB7,zB8,zB9,zB10,zB11,y00,y01,y02,y03,y04,y05,y06,y07,y08,y09,y0a,y0b,y0c,y0d,y0e,y0f,y0g,y0h,y0i,y0j,y0k,y0l,y0m,y0n,y0o,y0p,y0q,y0r,y0s,y0t,y0u,y0v,y0w,y0x,y0y,y0z,y10,y11,y12,y13,y14,y15,y16,y17,y18,y19,y1a,y1b,y1c,y1d,y1e,y1f,y1g,y1h,y1i,y1j,y1k,y1l,y1m,y1n,y1o,y1p,y1q,y1r,retO,retL,retV,z6i,allV,allP,z6j,z6m,z6n,z6t,z6u,z6v,binV,eqV,unV,oOpt,reduceIte,reduceCtorEq,Nat.reduceEqDiff,Nat.reduceAdd,Nat.reduceMul,Nat.reduceLT,Nat.reduceSub,Int.reduceLT,Int.reduceLE,Int.reduceEq,Int.reduceNe,Int.reduceSub,Int.reduceAdd,Int.reduceMul,Int.reduceBEq,Int.reduceBNe,Int.reduceGT,Int.reduceGE,Nat.reduceGT,Int.reduceToNat,Int.reduceNeg,Nat.reduceLeDiff,Nat.reduceBEq,Nat.reduceBneDiff,Value.cells, implies_true]
  have le3 := Heap.le_set (Heap.le_refl H2) hb3 (.own 0 [.slice vb2 b.length vc2] 1)
  have sx : Sl (H2.set b3 (.own 0 [.slice vb2 b.length vc2] 1)) 1 (.slice (some ⟨b3, 0, none⟩) 1 1) 1 [.slice vb2 b.length vc2] := Sl.lit rfl
  have leA := Heap.le_trans le1' (Heap.le_trans le2' le3)
  refine appendP_ow (m := 1) (Heap.but_le _ (npal H H1) (0, 0, 0)) (by omega) (OwK.le (Heap.le_trans le2' le3) (npal_own o1)) sx rfl (by omega) (by omega) ?_
  intro v4 H4 o4 le4
  have leH4 : H.le H4 := Heap.le_trans (npal_le leA) le4
  have s2' : SlB (H4.bare (κ.wash H)) (.slice vb2 b.length vc2) b := o2.carry le1' le3 le4
  have s4 : Sl (H4.bare (κ.wash H)) 1 v4 (D.files[i].2.writes.length + 1) (vs ++ [.slice vb2 b.length vc2]) := (o4.since (npal_le leA)).bare
  have ew : Ext (fun _ => False) κ H (κ.wash H) H4 := Ext.wash leH4
  have sW := SlL.snoc ew.bare hvl ev s2' s4
  obtain ⟨vb4, vc4, rfl⟩ := s4.shape
  have R4 := R.ext ew (fun _ _ q => q)
  obtain ⟨H5, cs', st, e5, R5⟩ := R4.put1 hi sW
  have c14 := c1 H4 leH4
  have c11 := c1 H1 le1'
  have c12 := c1 H2 (Heap.le_trans le1' le2')
  simp -implicitDefEqProofs only [zB1,zB2,zB3,zB4,zB5,zB6,zB7,zB8,zB9,zB10,zB11,y00,y01,y02,y03,y04,y05,y06,y07,y08,y09,y0a,y0b,y0c,y0d,y0e,y0f,y0g,y0h,y0i,y0j,y0k,y0l,y0m,y0n,y0o,y0p,y0q,y0r,y0s,y0t,y0u,y0v,y0w,y0x,y0y,y0z,y10,y11,y12,y13,y14,y15,y16,y17,y18,y19,y1a,y1b,y1c,y1d,y1e,y1f,y1g,y1h,y1i,y1j,y1k,y1l,y1m,y1n,y1o,y1p,y1q,y1r,retO,retL,retV,z6i,allV,allP,z6j,z6m,z6n,z6t,z6u,z6v,binV,eqV,unV,oOpt,reduceIte,reduceCtorEq,Nat.reduceEqDiff,Nat.reduceAdd,Nat.reduceMul,Nat.reduceLT,Nat.reduceSub,Int.reduceLT,Int.reduceLE,Int.reduceEq,Int.reduceNe,Int.reduceSub,Int.reduceAdd,Int.reduceMul,Int.reduceBEq,Int.reduceBNe,Int.reduceGT,Int.reduceGE,Nat.reduceGT,Int.reduceToNat,Int.reduceNeg,Nat.reduceLeDiff,Nat.reduceBEq,Nat.reduceBneDiff,Value.cells, r0, r2, r7, c10, c14, hi1, hi2, Int.toNat_natCast, st, implies_true, List.mem_cons, List.not_mem_nil, List.mem_singleton, or_false, forall_eq, forall_eq_or_imp, and_self]
  exact ⟨⟨c12, c11⟩, hk H5 (κ.wash H) ((ew.mono fun c h => h.elim).trans e5) ⟨_, cs', R5⟩⟩
theorem ref_Append_c (E : EnvT tab) (R : WR κ H w D) (ok : D.ok) (hn : D.files.length ≤ 90000) (nd : (D.files.map (·.1)).Nodup) (s : List UInt8) (hs : s.length ≤ 9000000000000000000) {vb : Value} {b : List UInt8} (sb : SlB (H.bare κ) vb b) (hb : b.length ≤ 1000000) :
    ACallN E.toEnv n_bandboxref11_Disk_Append [ptrV w, strV s, vb] H fun v H' => v = .int .i64 ((appendF D s b).2 : Nat) ∧ ∃ κ', Ext (wC w) κ H κ' H' ∧ WR κ' H' w (appendF D s b).1 := by
  have R0 := R
  obtain ⟨lv, cs, R⟩ := R
  obtain ⟨lb, lc, rfl⟩ := Sl.shape R.o.sl
  obtain ⟨bb, bc, rfl⟩ := Sl.shape sb
  refine acall h_bandboxref11_Disk_Append ir_bandboxref11_Disk_Append rfl rfl (wpA_sound ?_)
  unfold ir_bandboxref11_Disk_Append
  have c1 : ∀ G, H.le G → hcell G ⟨w, 1, none⟩ = some (.slice lb D.files.length lc) := fun G x => by rw [hcell_at (x _ _ R.q) (by simp)]; rfl
  have c0 : ∀ G, H.le G → hcell G ⟨w, 0, none⟩ = some (.int .i64 D.room) := fun G x => by rw [hcell_at (x _ _ R.q) (by simp)]; rfl
  simp -implicitDefEqProofs only [zB1,zB2,zB3,zB4,zB5,zB6,zB7,zB8,zB9,zB10,zB11,y00,y01,y02,y03,y04,y05,y06,y07,y08,y09,y0a,y0b,y0c,y0d,y0e,y0f,y0g,y0h,y0i,y0j,y0k,y0l,y0m,y0n,y0o,y0p,y0q,y0r,y0s,y0t,y0u,y0v,y0w,y0x,y0y,y0z,y10,y11,y12,y13,y14,y15,y16,y17,y18,y19,y1a,y1b,y1c,y1d,y1e,y1f,y1g,y1h,y1i,y1j,y1k,y1l,y1m,y1n,y1o,y1p,y1q,y1r,retO,retL,retV,z6i,allV,allP,z6j,z6m,z6n,z6t,z6u,z6v,binV,eqV,unV,oOpt,reduceIte,reduceCtorEq,Nat.reduceEqDiff,Nat.reduceAdd,Nat.reduceMul,Nat.reduceLT,Nat.reduceSub,Int.reduceLT,Int.reduceLE,Int.reduceEq,Int.reduceNe,Int.reduceSub,Int.reduceAdd,Int.reduceMul,Int.reduceBEq,Int.reduceBNe,Int.reduceGT,Int.reduceGE,Nat.reduceGT,Int.reduceToNat,Int.reduceNeg,Nat.reduceLeDiff,Nat.reduceBEq,Nat.reduceBneDiff,Value.cells]
  refine (ref_ask_c E R0 s hs (by omega)).mono ?_
  rintro v H1 ⟨rfl, hm⟩
  have hr := ok.2.1
  have hr2 := ok.2.2.1
  have hr3 := ok.2.2.2
  have key : askF D [s] = 0 → ∀ (i : Int) (err : Nat), (err = 0 ∨ err = 4) → True := fun _ _ _ _ => trivial
  unfold appendF
  rcases hm with ⟨h1, rfl⟩ | ⟨h1, h2, rfl⟩ | ⟨h1, A, x, B, e1, e2, e3, rfl⟩
  · have h1' : ¬ ((askF D [s] : Nat) : Int) = 0 := by omega
    have h4' : ¬ ((askF D [s] : Nat) : Int) = 4 := by
      have : askF D [s] = 0 ∨ askF D [s] = 1 ∨ askF D [s] = 7 := by by_cases on : D.on = true <;> by_cases g : goodName s = true <;> simp [askF, on, g]
      omega
    rw [if_neg h1]
    simp -implicitDefEqProofs only [zB1,zB2,zB3,zB4,zB5,zB6,zB7,zB8,zB9,zB10,zB11,y00,y01,y02,y03,y04,y05,y06,y07,y08,y09,y0a,y0b,y0c,y0d,y0e,y0f,y0g,y0h,y0i,y0j,y0k,y0l,y0m,y0n,y0o,y0p,y0q,y0r,y0s,y0t,y0u,y0v,y0w,y0x,y0y,y0z,y10,y11,y12,y13,y14,y15,y16,y17,y18,y19,y1a,y1b,y1c,y1d,y1e,y1f,y1g,y1h,y1i,y1j,y1k,y1l,y1m,y1n,y1o,y1p,y1q,y1r,retO,retL,retV,z6i,allV,allP,z6j,z6m,z6n,z6t,z6u,z6v,binV,eqV,unV,oOpt,reduceIte,reduceCtorEq,Nat.reduceEqDiff,Nat.reduceAdd,Nat.reduceMul,Nat.reduceLT,Nat.reduceSub,Int.reduceLT,Int.reduceLE,Int.reduceEq,Int.reduceNe,Int.reduceSub,Int.reduceAdd,Int.reduceMul,Int.reduceBEq,Int.reduceBNe,Int.reduceGT,Int.reduceGE,Nat.reduceGT,Int.reduceToNat,Int.reduceNeg,Nat.reduceLeDiff,Nat.reduceBEq,Nat.reduceBneDiff,Value.cells]
    unfold ir_bandboxref11_Disk_Append_15
    simp -implicitDefEqProofs only [zB1,zB2,zB3,zB4,zB5,zB6,zB7,zB8,zB9,zB10,zB11,y00,y01,y02,y03,y04,y05,y06,y07,y08,y09,y0a,y0b,y0c,y0d,y0e,y0f,y0g,y0h,y0i,y0j,y0k,y0l,y0m,y0n,y0o,y0p,y0q,y0r,y0s,y0t,y0u,y0v,y0w,y0x,y0y,y0z,y10,y11,y12,y13,y14,y15,y16,y17,y18,y19,y1a,y1b,y1c,y1d,y1e,y1f,y1g,y1h,y1i,y1j,y1k,y1l,y1m,y1n,y1o,y1p,y1q,y1r,retO,retL,retV,z6i,allV,allP,z6j,z6m,z6n,z6t,z6u,z6v,binV,eqV,unV,oOpt,reduceIte,reduceCtorEq,Nat.reduceEqDiff,Nat.reduceAdd,Nat.reduceMul,Nat.reduceLT,Nat.reduceSub,Int.reduceLT,Int.reduceLE,Int.reduceEq,Int.reduceNe,Int.reduceSub,Int.reduceAdd,Int.reduceMul,Int.reduceBEq,Int.reduceBNe,Int.reduceGT,Int.reduceGE,Nat.reduceGT,Int.reduceToNat,Int.reduceNeg,Nat.reduceLeDiff,Nat.reduceBEq,Nat.reduceBneDiff,Value.cells, h1', h4']
    exact ⟨κ, Ext.refl _ _ _, R0⟩
  · rw [if_pos h1, look_absent h2]
    simp -implicitDefEqProofs only [zB1,zB2,zB3,zB4,zB5,zB6,zB7,zB8,zB9,zB10,zB11,y00,y01,y02,y03,y04,y05,y06,y07,y08,y09,y0a,y0b,y0c,y0d,y0e,y0f,y0g,y0h,y0i,y0j,y0k,y0l,y0m,y0n,y0o,y0p,y0q,y0r,y0s,y0t,y0u,y0v,y0w,y0x,y0y,y0z,y10,y11,y12,y13,y14,y15,y16,y17,y18,y19,y1a,y1b,y1c,y1d,y1e,y1f,y1g,y1h,y1i,y1j,y1k,y1l,y1m,y1n,y1o,y1p,y1q,y1r,retO,retL,retV,z6i,allV,allP,z6j,z6m,z6n,z6t,z6u,z6v,binV,eqV,unV,oOpt,reduceIte,reduceCtorEq,Nat.reduceEqDiff,Nat.reduceAdd,Nat.reduceMul,Nat.reduceLT,Nat.reduceSub,Int.reduceLT,Int.reduceLE,Int.reduceEq,Int.reduceNe,Int.reduceSub,Int.reduceAdd,Int.reduceMul,Int.reduceBEq,Int.reduceBNe,Int.reduceGT,Int.reduceGE,Nat.reduceGT,Int.reduceToNat,Int.reduceNeg,Nat.reduceLeDiff,Nat.reduceBEq,Nat.reduceBneDiff,Value.cells]
    unfold ir_bandboxref11_Disk_Append_15
    simp -implicitDefEqProofs only [zB1,zB2,zB3,zB4,zB5,zB6,zB7,zB8,zB9,zB10,zB11,y00,y01,y02,y03,y04,y05,y06,y07,y08,y09,y0a,y0b,y0c,y0d,y0e,y0f,y0g,y0h,y0i,y0j,y0k,y0l,y0m,y0n,y0o,y0p,y0q,y0r,y0s,y0t,y0u,y0v,y0w,y0x,y0y,y0z,y10,y11,y12,y13,y14,y15,y16,y17,y18,y19,y1a,y1b,y1c,y1d,y1e,y1f,y1g,y1h,y1i,y1j,y1k,y1l,y1m,y1n,y1o,y1p,y1q,y1r,retO,retL,retV,z6i,allV,allP,z6j,z6m,z6n,z6t,z6u,z6v,binV,eqV,unV,oOpt,reduceIte,reduceCtorEq,Nat.reduceEqDiff,Nat.reduceAdd,Nat.reduceMul,Nat.reduceLT,Nat.reduceSub,Int.reduceLT,Int.reduceLE,Int.reduceEq,Int.reduceNe,Int.reduceSub,Int.reduceAdd,Int.reduceMul,Int.reduceBEq,Int.reduceBNe,Int.reduceGT,Int.reduceGE,Nat.reduceGT,Int.reduceToNat,Int.reduceNeg,Nat.reduceLeDiff,Nat.reduceBEq,Nat.reduceBneDiff,Value.cells]
    refine (ref_Size_c E R0 ok (by omega)).mono ?_
    rintro v H2 ⟨le2, rfl⟩
    have on : D.on = true := by
      by_cases on : D.on = true
      · exact on
      · simp [askF, on] at h1
    have w1 : IntKind.i64.wrap (D.room - (sizeF D.files : Nat)) = D.room - (sizeF D.files : Nat) := wrapI (by omega) (by omega)
    have c02 := c0 H2 le2
    have c01 := c0 H1 (Heap.le_refl _)
    rw [if_pos on]
    by_cases g : D.room - (sizeF D.files : Nat) < (b.length : Nat)
    · simp -implicitDefEqProofs only [zB1,zB2,zB3,zB4,zB5,zB6,zB7,zB8,zB9,zB10,zB11,y00,y01,y02,y03,y04,y05,y06,y07,y08,y09,y0a,y0b,y0c,y0d,y0e,y0f,y0g,y0h,y0i,y0j,y0k,y0l,y0m,y0n,y0o,y0p,y0q,y0r,y0s,y0t,y0u,y0v,y0w,y0x,y0y,y0z,y10,y11,y12,y13,y14,y15,y16,y17,y18,y19,y1a,y1b,y1c,y1d,y1e,y1f,y1g,y1h,y1i,y1j,y1k,y1l,y1m,y1n,y1o,y1p,y1q,y1r,retO,retL,retV,z6i,allV,allP,z6j,z6m,z6n,z6t,z6u,z6v,binV,eqV,unV,oOpt,reduceIte,reduceCtorEq,Nat.reduceEqDiff,Nat.reduceAdd,Nat.reduceMul,Nat.reduceLT,Nat.reduceSub,Int.reduceLT,Int.reduceLE,Int.reduceEq,Int.reduceNe,Int.reduceSub,Int.reduceAdd,Int.reduceMul,Int.reduceBEq,Int.reduceBNe,Int.reduceGT,Int.reduceGE,Nat.reduceGT,Int.reduceToNat,Int.reduceNeg,Nat.reduceLeDiff,Nat.reduceBEq,Nat.reduceBneDiff,Value.cells, c01, c02, w1, g, implies_true, List.mem_cons, List.not_mem_nil, List.mem_singleton, or_false, forall_eq, forall_eq_or_imp, and_self]
      exact ⟨κ, Ext.le le2, R0.le le2⟩
    · simp -implicitDefEqProofs only [zB1,zB2,zB3,zB4,zB5,zB6,zB7,zB8,zB9,zB10,zB11,y00,y01,y02,y03,y04,y05,y06,y07,y08,y09,y0a,y0b,y0c,y0d,y0e,y0f,y0g,y0h,y0i,y0j,y0k,y0l,y0m,y0n,y0o,y0p,y0q,y0r,y0s,y0t,y0u,y0v,y0w,y0x,y0y,y0z,y10,y11,y12,y13,y14,y15,y16,y17,y18,y19,y1a,y1b,y1c,y1d,y1e,y1f,y1g,y1h,y1i,y1j,y1k,y1l,y1m,y1n,y1o,y1p,y1q,y1r,retO,retL,retV,z6i,allV,allP,z6j,z6m,z6n,z6t,z6u,z6v,binV,eqV,unV,oOpt,reduceIte,reduceCtorEq,Nat.reduceEqDiff,Nat.reduceAdd,Nat.reduceMul,Nat.reduceLT,Nat.reduceSub,Int.reduceLT,Int.reduceLE,Int.reduceEq,Int.reduceNe,Int.reduceSub,Int.reduceAdd,Int.reduceMul,Int.reduceBEq,Int.reduceBNe,Int.reduceGT,Int.reduceGE,Nat.reduceGT,Int.reduceToNat,Int.reduceNeg,Nat.reduceLeDiff,Nat.reduceBEq,Nat.reduceBneDiff,Value.cells, c01, c02, w1, g, implies_true, List.mem_cons, List.not_mem_nil, List.mem_singleton, or_false, forall_eq, forall_eq_or_imp, and_self]
      unfold ir_bandboxref11_Disk_Append_32
      have c12 := c1 H2 le2
      simp -implicitDefEqProofs only [zB1,zB2,zB3,zB4,zB5,zB6,zB7,zB8,zB9,zB10,zB11,y00,y01,y02,y03,y04,y05,y06,y07,y08,y09,y0a,y0b,y0c,y0d,y0e,y0f,y0g,y0h,y0i,y0j,y0k,y0l,y0m,y0n,y0o,y0p,y0q,y0r,y0s,y0t,y0u,y0v,y0w,y0x,y0y,y0z,y10,y11,y12,y13,y14,y15,y16,y17,y18,y19,y1a,y1b,y1c,y1d,y1e,y1f,y1g,y1h,y1i,y1j,y1k,y1l,y1m,y1n,y1o,y1p,y1q,y1r,retO,retL,retV,z6i,allV,allP,z6j,z6m,z6n,z6t,z6u,z6v,binV,eqV,unV,oOpt,reduceIte,reduceCtorEq,Nat.reduceEqDiff,Nat.reduceAdd,Nat.reduceMul,Nat.reduceLT,Nat.reduceSub,Int.reduceLT,Int.reduceLE,Int.reduceEq,Int.reduceNe,Int.reduceSub,Int.reduceAdd,Int.reduceMul,Int.reduceBEq,Int.reduceBNe,Int.reduceGT,Int.reduceGE,Nat.reduceGT,Int.reduceToNat,Int.reduceNeg,Nat.reduceLeDiff,Nat.reduceBEq,Nat.reduceBneDiff,Value.cells, c12, List.replicate_one, List.flatten_singleton, strV]
      intro b4 hb4
      try simp -implicitDefEqProofs only [zB1,zB2,zB3,zB4,zB5,zB6,zB7,zB8,zB9,zB10,zB11,y00,y01,y02,y03,y04,y05,y06,y07,y08,y09,y0a,y0b,y0c,y0d,y0e,y0f,y0g,y0h,y0i,y0j,y0k,y0l,y0m,y0n,y0o,y0p,y0q,y0r,y0s,y0t,y0u,y0v,y0w,y0x,y0y,y0z,y10,y11,y12,y13,y14,y15,y16,y17,y18,y19,y1a,y1b,y1c,y1d,y1e,y1f,y1g,y1h,y1i,y1j,y1k,y1l,y1m,y1n,y1o,y1p,y1q,y1r,retO,retL,retV,z6i,allV,allP,z6j,z6m,z6n,z6t,z6u,z6v,binV,eqV,unV,oOpt,reduceIte,reduceCtorEq,Nat.reduceEqDiff,Nat.reduceAdd,Nat.reduceMul,Nat.reduceLT,Nat.reduceSub,Int.reduceLT,Int.reduceLE,Int.reduceEq,Int.reduceNe,Int.reduceSub,Int.reduceAdd,Int.reduceMul,Int.reduceBEq,Int.reduceBNe,Int.reduceGT,Int.reduceGE,Nat.reduceGT,Int.reduceToNat,Int.reduceNeg,Nat.reduceLeDiff,Nat.reduceBEq,Nat.reduceBneDiff,Value.cells]
      have le4 := Heap.le_set (Heap.le_refl H2) hb4 (.own 0 [.string ⟨s.toArray⟩, .slice none 0 0, .slice none 0 0] 3)
      have sx : Sl (H2.set b4 (.own 0 [.string ⟨s.toArray⟩, .slice none 0 0, .slice none 0 0] 3)) 3 (.slice (some ⟨b4, 0, none⟩) 1 1) 1 [.string ⟨s.toArray⟩, .slice none 0 0, .slice none 0 0] := Sl.lit rfl
      generalize (H2.set b4 (.own 0 [.string ⟨s.toArray⟩, .slice none 0 0, .slice none 0 0] 3)) = H3 at le4 sx
      have leA := Heap.le_trans le2 le4
      refine wr_push (x := (s, ⟨[], []⟩)) (R.le leA) sx rfl ⟨_, _, rfl, .inl ⟨rfl, rfl, rfl⟩, ⟨[], rfl, .inl ⟨rfl, rfl, rfl⟩, fun i h1 h2 => by simp at h1⟩⟩ (by omega) ?_
      rintro v H4 ⟨base, cc, rfl⟩ q4 ⟨κ4, e4, R4⟩
      have st : storeV H4 1 (.pointer (some ⟨w, 1, none⟩)) (.slice base (D.files.length + 1) cc) = some (H4.set w (.own 0 [.int .i64 D.room, .slice base (D.files.length + 1) cc, .bool (!D.on), .int .i64 D.lives] 4)) := storeV_one_at q4 rfl (by simp) (by simp)
      generalize hH5 : H4.set w (.own 0 [.int .i64 D.room, .slice base (D.files.length + 1) cc, .bool (!D.on), .int .i64 D.lives] 4) = H5 at st e4 R4
      have hfl : (D.files ++ [(s, (⟨[], []⟩ : FileF))]).length = D.files.length + 1 := by simp
      have q5 : H5 w = some (.own 0 [.int .i64 D.room, .slice base (D.files.length + 1) cc, .bool (!D.on), .int .i64 D.lives] 4) := R4.q
      have c5 : hcell H5 ⟨w, 1, none⟩ = some (.slice base (D.files.length + 1) cc) := by rw [hcell_at q5 (by simp)]; rfl
      have w2 : IntKind.i64.wrap (((D.files.length + 1 : Nat) : Int) - 1) = (D.files.length : Nat) := by rw [wrapI (by omega) (by omega)]; omega
      simp -implicitDefEqProofs only [zB1,zB2,zB3,zB4,zB5,zB6,zB7,zB8,zB9,zB10,zB11,y00,y01,y02,y03,y04,y05,y06,y07,y08,y09,y0a,y0b,y0c,y0d,y0e,y0f,y0g,y0h,y0i,y0j,y0k,y0l,y0m,y0n,y0o,y0p,y0q,y0r,y0s,y0t,y0u,y0v,y0w,y0x,y0y,y0z,y10,y11,y12,y13,y14,y15,y16,y17,y18,y19,y1a,y1b,y1c,y1d,y1e,y1f,y1g,y1h,y1i,y1j,y1k,y1l,y1m,y1n,y1o,y1p,y1q,y1r,retO,retL,retV,z6i,allV,allP,z6j,z6m,z6n,z6t,z6u,z6v,binV,eqV,unV,oOpt,reduceIte,reduceCtorEq,Nat.reduceEqDiff,Nat.reduceAdd,Nat.reduceMul,Nat.reduceLT,Nat.reduceSub,Int.reduceLT,Int.reduceLE,Int.reduceEq,Int.reduceNe,Int.reduceSub,Int.reduceAdd,Int.reduceMul,Int.reduceBEq,Int.reduceBNe,Int.reduceGT,Int.reduceGE,Nat.reduceGT,Int.reduceToNat,Int.reduceNeg,Nat.reduceLeDiff,Nat.reduceBEq,Nat.reduceBneDiff,Value.cells, st, c5, w2]
      obtain ⟨l0, lo, lcc, hv, -, -⟩ := R4.o.sl.ptr (by rw [hfl]; omega) (by omega)
      simp only [Value.slice.injEq] at hv
      obtain ⟨rfl, -, rfl⟩ := hv
      have sb' : SlB (H5.bare κ4) (.slice bb b.length bc) b := (sb.le (Ext.le (cs := wC w) leA).bare).le e4.bare
      rw [← hfl] at R4
      refine ref_write E R4 (i := D.files.length) (by rw [hfl]; omega) (by rw [hfl]; omega) (by simp [FileF.ok, FileF.all]) sb' hb rfl rfl rfl ?_
      intro H6 κ6 e6 R6
      refine ⟨rfl, κ6, ((Ext.le leA).trans e4).trans e6, ?_⟩
      have : (D.files ++ [(s, (⟨[], []⟩ : FileF))]).set D.files.length (s, ⟨[], [b]⟩) = D.files ++ [(s, ⟨[], [b]⟩)] := by
        rw [List.set_append_right _ _ (Nat.le_refl _), Nat.sub_self]; rfl
      have e9 : ((D.files ++ [(s, (⟨[], []⟩ : FileF))])[D.files.length]'(by rw [hfl]; omega)) = (s, ⟨[], []⟩) := by simp
      simp only [e9, writeF, List.nil_append, this] at R6
      exact R6
  · rw [if_pos h1, look_split e1 e2 e3]
    have hlt := files_len (Nat.le_refl _) e1
    simp -implicitDefEqProofs only [zB1,zB2,zB3,zB4,zB5,zB6,zB7,zB8,zB9,zB10,zB11,y00,y01,y02,y03,y04,y05,y06,y07,y08,y09,y0a,y0b,y0c,y0d,y0e,y0f,y0g,y0h,y0i,y0j,y0k,y0l,y0m,y0n,y0o,y0p,y0q,y0r,y0s,y0t,y0u,y0v,y0w,y0x,y0y,y0z,y10,y11,y12,y13,y14,y15,y16,y17,y18,y19,y1a,y1b,y1c,y1d,y1e,y1f,y1g,y1h,y1i,y1j,y1k,y1l,y1m,y1n,y1o,y1p,y1q,y1r,retO,retL,retV,z6i,allV,allP,z6j,z6m,z6n,z6t,z6u,z6v,binV,eqV,unV,oOpt,reduceIte,reduceCtorEq,Nat.reduceEqDiff,Nat.reduceAdd,Nat.reduceMul,Nat.reduceLT,Nat.reduceSub,Int.reduceLT,Int.reduceLE,Int.reduceEq,Int.reduceNe,Int.reduceSub,Int.reduceAdd,Int.reduceMul,Int.reduceBEq,Int.reduceBNe,Int.reduceGT,Int.reduceGE,Nat.reduceGT,Int.reduceToNat,Int.reduceNeg,Nat.reduceLeDiff,Nat.reduceBEq,Nat.reduceBneDiff,Value.cells]
    unfold ir_bandboxref11_Disk_Append_15
    simp -implicitDefEqProofs only [zB1,zB2,zB3,zB4,zB5,zB6,zB7,zB8,zB9,zB10,zB11,y00,y01,y02,y03,y04,y05,y06,y07,y08,y09,y0a,y0b,y0c,y0d,y0e,y0f,y0g,y0h,y0i,y0j,y0k,y0l,y0m,y0n,y0o,y0p,y0q,y0r,y0s,y0t,y0u,y0v,y0w,y0x,y0y,y0z,y10,y11,y12,y13,y14,y15,y16,y17,y18,y19,y1a,y1b,y1c,y1d,y1e,y1f,y1g,y1h,y1i,y1j,y1k,y1l,y1m,y1n,y1o,y1p,y1q,y1r,retO,retL,retV,z6i,allV,allP,z6j,z6m,z6n,z6t,z6u,z6v,binV,eqV,unV,oOpt,reduceIte,reduceCtorEq,Nat.reduceEqDiff,Nat.reduceAdd,Nat.reduceMul,Nat.reduceLT,Nat.reduceSub,Int.reduceLT,Int.reduceLE,Int.reduceEq,Int.reduceNe,Int.reduceSub,Int.reduceAdd,Int.reduceMul,Int.reduceBEq,Int.reduceBNe,Int.reduceGT,Int.reduceGE,Nat.reduceGT,Int.reduceToNat,Int.reduceNeg,Nat.reduceLeDiff,Nat.reduceBEq,Nat.reduceBneDiff,Value.cells]
    refine (ref_Size_c E R0 ok (by omega)).mono ?_
    rintro v H2 ⟨le2, rfl⟩
    have on : D.on = true := by
      by_cases on : D.on = true
      · exact on
      · simp [askF, on] at h1
    have w1 : IntKind.i64.wrap (D.room - (sizeF D.files : Nat)) = D.room - (sizeF D.files : Nat) := wrapI (by omega) (by omega)
    have c02 := c0 H2 le2
    have c01 := c0 H1 (Heap.le_refl _)
    rw [if_pos on]
    by_cases g : D.room - (sizeF D.files : Nat) < (b.length : Nat)
    · simp -implicitDefEqProofs only [zB1,zB2,zB3,zB4,zB5,zB6,zB7,zB8,zB9,zB10,zB11,y00,y01,y02,y03,y04,y05,y06,y07,y08,y09,y0a,y0b,y0c,y0d,y0e,y0f,y0g,y0h,y0i,y0j,y0k,y0l,y0m,y0n,y0o,y0p,y0q,y0r,y0s,y0t,y0u,y0v,y0w,y0x,y0y,y0z,y10,y11,y12,y13,y14,y15,y16,y17,y18,y19,y1a,y1b,y1c,y1d,y1e,y1f,y1g,y1h,y1i,y1j,y1k,y1l,y1m,y1n,y1o,y1p,y1q,y1r,retO,retL,retV,z6i,allV,allP,z6j,z6m,z6n,z6t,z6u,z6v,binV,eqV,unV,oOpt,reduceIte,reduceCtorEq,Nat.reduceEqDiff,Nat.reduceAdd,Nat.reduceMul,Nat.reduceLT,Nat.reduceSub,Int.reduceLT,Int.reduceLE,Int.reduceEq,Int.reduceNe,Int.reduceSub,Int.reduceAdd,Int.reduceMul,Int.reduceBEq,Int.reduceBNe,Int.reduceGT,Int.reduceGE,Nat.reduceGT,Int.reduceToNat,Int.reduceNeg,Nat.reduceLeDiff,Nat.reduceBEq,Nat.reduceBneDiff,Value.cells, c01, c02, w1, g, implies_true, List.mem_cons, List.not_mem_nil, List.mem_singleton, or_false, forall_eq, forall_eq_or_imp, and_self]
      exact ⟨κ, Ext.le le2, R0.le le2⟩
    · have hA : ¬ (A.length : Int) < 0 := by omega
      simp -implicitDefEqProofs only [zB1,zB2,zB3,zB4,zB5,zB6,zB7,zB8,zB9,zB10,zB11,y00,y01,y02,y03,y04,y05,y06,y07,y08,y09,y0a,y0b,y0c,y0d,y0e,y0f,y0g,y0h,y0i,y0j,y0k,y0l,y0m,y0n,y0o,y0p,y0q,y0r,y0s,y0t,y0u,y0v,y0w,y0x,y0y,y0z,y10,y11,y12,y13,y14,y15,y16,y17,y18,y19,y1a,y1b,y1c,y1d,y1e,y1f,y1g,y1h,y1i,y1j,y1k,y1l,y1m,y1n,y1o,y1p,y1q,y1r,retO,retL,retV,z6i,allV,allP,z6j,z6m,z6n,z6t,z6u,z6v,binV,eqV,unV,oOpt,reduceIte,reduceCtorEq,Nat.reduceEqDiff,Nat.reduceAdd,Nat.reduceMul,Nat.reduceLT,Nat.reduceSub,Int.reduceLT,Int.reduceLE,Int.reduceEq,Int.reduceNe,Int.reduceSub,Int.reduceAdd,Int.reduceMul,Int.reduceBEq,Int.reduceBNe,Int.reduceGT,Int.reduceGE,Nat.reduceGT,Int.reduceToNat,Int.reduceNeg,Nat.reduceLeDiff,Nat.reduceBEq,Nat.reduceBneDiff,Value.cells, c01, c02, w1, g, implies_true, List.mem_cons, List.not_mem_nil, List.mem_singleton, or_false, forall_eq, forall_eq_or_imp, and_self]
      unfold ir_bandboxref11_Disk_Append_32
      simp -implicitDefEqProofs only [zB1,zB2,zB3,zB4,zB5,zB6,zB7,zB8,zB9,zB10,zB11,y00,y01,y02,y03,y04,y05,y06,y07,y08,y09,y0a,y0b,y0c,y0d,y0e,y0f,y0g,y0h,y0i,y0j,y0k,y0l,y0m,y0n,y0o,y0p,y0q,y0r,y0s,y0t,y0u,y0v,y0w,y0x,y0y,y0z,y10,y11,y12,y13,y14,y15,y16,y17,y18,y19,y1a,y1b,y1c,y1d,y1e,y1f,y1g,y1h,y1i,y1j,y1k,y1l,y1m,y1n,y1o,y1p,y1q,y1r,retO,retL,retV,z6i,allV,allP,z6j,z6m,z6n,z6t,z6u,z6v,binV,eqV,unV,oOpt,reduceIte,reduceCtorEq,Nat.reduceEqDiff,Nat.reduceAdd,Nat.reduceMul,Nat.reduceLT,Nat.reduceSub,Int.reduceLT,Int.reduceLE,Int.reduceEq,Int.reduceNe,Int.reduceSub,Int.reduceAdd,Int.reduceMul,Int.reduceBEq,Int.reduceBNe,Int.reduceGT,Int.reduceGE,Nat.reduceGT,Int.reduceToNat,Int.reduceNeg,Nat.reduceLeDiff,Nat.reduceBEq,Nat.reduceBneDiff,Value.cells, hA]
      obtain ⟨l0, lo, lcc, hv, -, -⟩ := R.o.sl.ptr (by omega) (by omega)
      simp only [Value.slice.injEq, true_and] at hv
      obtain ⟨rfl, rfl⟩ := hv
      have ex : D.files[A.length] = x := by simp [e1]
      have okf := (ok.1 _ (List.getElem_mem hlt)).1
      refine ref_write E (R.le le2) hlt (by omega) okf (sb.le (Ext.le (cs := wC w) le2).bare) hb rfl rfl rfl ?_
      intro H6 κ6 e6 R6
      refine ⟨rfl, κ6, (Ext.le le2).trans e6, ?_⟩
      rw [ex, e3] at R6
      rw [turn_split nd e1 e3]
      exact R6
end
end Go.Bb
