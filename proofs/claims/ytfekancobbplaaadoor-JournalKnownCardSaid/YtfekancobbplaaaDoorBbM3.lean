/- My contracts: BbCdsk6 BbCjou2 BbUk BbRow BbUm BbCjou3 BbCdsk7 BbLdsk0 BbCjou4 BbCjou5 BbCjou6 BbCjou7. -/
import Derived.Test.YtfekancobbplaaaDoorBbM2
import Derived.Test.YtfekancobbplaaaDoorBbG3
import Derived.Test.YtfekancobbplaaaDoorBbM1
/- Contracts: a disk made, synced, renamed, dropped, without power. -/
namespace Go.Bb
set_option linter.unusedSimpArgs false
set_option linter.unusedVariables false
set_option maxRecDepth 20000
set_option maxHeartbeats 2000000

theorem nodup_snoc {α : Type} (p : GFile → α) {G : List GFile} {g : GFile} (n : (G.map p).Nodup) (h : ∀ x ∈ G, p x ≠ p g) : ((G ++ [g]).map p).Nodup := by
  rw [List.map_append, List.nodup_append]
  refine ⟨n, by simp, fun a ha b hb => ?_⟩
  obtain ⟨x, hx, rfl⟩ := List.mem_map.1 ha
  rw [List.map_cons, List.map_nil, List.mem_singleton] at hb
  subst hb; exact h x hx
theorem disk_New_c (E : EnvT tab) (κ : Pal) (H : Heap) (room : Int) : ACallN E.toEnv n_disk_New [.int .i64 room] H fun v H' => H.le H' ∧
      ((room < 64 ∨ 1048576 < room) → v = .tuple #[.pointer none, .int .i64 1]) ∧ (64 ≤ room ∧ room ≤ 1048576 → ∃ d κ', v = .tuple #[ptrV d, .int .i64 0] ∧ H d = none ∧ Ext (fun _ => False) κ H κ' H' ∧ DiskR κ' H' d { room := room }) := by
  refine acall h_disk_New ir_disk_New rfl rfl (wpA_sound ?_)
  unfold ir_disk_New
  by_cases g1 : room < 64
  · have g3 : ¬ 64 ≤ room := by omega
    simp -implicitDefEqProofs only [zB1,zB2,zB3,zB4,zB5,zB6,zB7,zB8,zB9,zB10,zB11,y00,y01,y02,y03,y04,y05,y06,y07,y08,y09,y0a,y0b,y0c,y0d,y0e,y0f,y0g,y0h,y0i,y0j,y0k,y0l,y0m,y0n,y0o,y0p,y0q,y0r,y0s,y0t,y0u,y0v,y0w,y0x,y0y,y0z,y10,y11,y12,y13,y14,y15,y16,y17,y18,y19,y1a,y1b,y1c,y1d,y1e,y1f,y1g,y1h,y1i,y1j,y1k,y1l,y1m,y1n,y1o,y1p,y1q,y1r,retO,retL,retV,z6i,allV,allP,z6j,z6m,z6n,z6t,z6u,z6v,binV,eqV,unV,oOpt,reduceIte,reduceCtorEq,Nat.reduceEqDiff,Nat.reduceAdd,Nat.reduceMul,Nat.reduceLT,Nat.reduceSub,Int.reduceLT,Int.reduceLE,Int.reduceEq,Int.reduceNe,Int.reduceSub,Int.reduceAdd,Int.reduceMul,Int.reduceBEq,Int.reduceBNe,Int.reduceGT,Int.reduceGE,Nat.reduceGT,Int.reduceToNat,Int.reduceNeg,Nat.reduceLeDiff,Nat.reduceBEq,Nat.reduceBneDiff,Value.cells, g1, g3, true_or, false_and]
    exact Heap.le_refl _
  · by_cases g2 : 1048576 < room
    · have g3 : ¬ room ≤ 1048576 := by omega
      simp -implicitDefEqProofs only [zB1,zB2,zB3,zB4,zB5,zB6,zB7,zB8,zB9,zB10,zB11,y00,y01,y02,y03,y04,y05,y06,y07,y08,y09,y0a,y0b,y0c,y0d,y0e,y0f,y0g,y0h,y0i,y0j,y0k,y0l,y0m,y0n,y0o,y0p,y0q,y0r,y0s,y0t,y0u,y0v,y0w,y0x,y0y,y0z,y10,y11,y12,y13,y14,y15,y16,y17,y18,y19,y1a,y1b,y1c,y1d,y1e,y1f,y1g,y1h,y1i,y1j,y1k,y1l,y1m,y1n,y1o,y1p,y1q,y1r,retO,retL,retV,z6i,allV,allP,z6j,z6m,z6n,z6t,z6u,z6v,binV,eqV,unV,oOpt,reduceIte,reduceCtorEq,Nat.reduceEqDiff,Nat.reduceAdd,Nat.reduceMul,Nat.reduceLT,Nat.reduceSub,Int.reduceLT,Int.reduceLE,Int.reduceEq,Int.reduceNe,Int.reduceSub,Int.reduceAdd,Int.reduceMul,Int.reduceBEq,Int.reduceBNe,Int.reduceGT,Int.reduceGE,Nat.reduceGT,Int.reduceToNat,Int.reduceNeg,Nat.reduceLeDiff,Nat.reduceBEq,Nat.reduceBneDiff,Value.cells, g1, g2, g3, or_true, and_false]
      exact Heap.le_refl _
    · simp -implicitDefEqProofs only [zB1,zB2,zB3,zB4,zB5,zB6,zB7,zB8,zB9,zB10,zB11,y00,y01,y02,y03,y04,y05,y06,y07,y08,y09,y0a,y0b,y0c,y0d,y0e,y0f,y0g,y0h,y0i,y0j,y0k,y0l,y0m,y0n,y0o,y0p,y0q,y0r,y0s,y0t,y0u,y0v,y0w,y0x,y0y,y0z,y10,y11,y12,y13,y14,y15,y16,y17,y18,y19,y1a,y1b,y1c,y1d,y1e,y1f,y1g,y1h,y1i,y1j,y1k,y1l,y1m,y1n,y1o,y1p,y1q,y1r,retO,retL,retV,z6i,allV,allP,z6j,z6m,z6n,z6t,z6u,z6v,binV,eqV,unV,oOpt,reduceIte,reduceCtorEq,Nat.reduceEqDiff,Nat.reduceAdd,Nat.reduceMul,Nat.reduceLT,Nat.reduceSub,Int.reduceLT,Int.reduceLE,Int.reduceEq,Int.reduceNe,Int.reduceSub,Int.reduceAdd,Int.reduceMul,Int.reduceBEq,Int.reduceBNe,Int.reduceGT,Int.reduceGE,Nat.reduceGT,Int.reduceToNat,Int.reduceNeg,Nat.reduceLeDiff,Nat.reduceBEq,Nat.reduceBneDiff,Value.cells, g1, g2]
      intro r hr
      try simp -implicitDefEqProofs only [zB1,zB2,zB3,zB4,zB5,zB6,zB7,zB8,zB9,zB10,zB11,y00,y01,y02,y03,y04,y05,y06,y07,y08,y09,y0a,y0b,y0c,y0d,y0e,y0f,y0g,y0h,y0i,y0j,y0k,y0l,y0m,y0n,y0o,y0p,y0q,y0r,y0s,y0t,y0u,y0v,y0w,y0x,y0y,y0z,y10,y11,y12,y13,y14,y15,y16,y17,y18,y19,y1a,y1b,y1c,y1d,y1e,y1f,y1g,y1h,y1i,y1j,y1k,y1l,y1m,y1n,y1o,y1p,y1q,y1r,retO,retL,retV,z6i,allV,allP,z6j,z6m,z6n,z6t,z6u,z6v,binV,eqV,unV,oOpt,reduceIte,reduceCtorEq,Nat.reduceEqDiff,Nat.reduceAdd,Nat.reduceMul,Nat.reduceLT,Nat.reduceSub,Int.reduceLT,Int.reduceLE,Int.reduceEq,Int.reduceNe,Int.reduceSub,Int.reduceAdd,Int.reduceMul,Int.reduceBEq,Int.reduceBNe,Int.reduceGT,Int.reduceGE,Nat.reduceGT,Int.reduceToNat,Int.reduceNeg,Nat.reduceLeDiff,Nat.reduceBEq,Nat.reduceBneDiff,Value.cells]
      intro d hd
      try simp -implicitDefEqProofs only [zB1,zB2,zB3,zB4,zB5,zB6,zB7,zB8,zB9,zB10,zB11,y00,y01,y02,y03,y04,y05,y06,y07,y08,y09,y0a,y0b,y0c,y0d,y0e,y0f,y0g,y0h,y0i,y0j,y0k,y0l,y0m,y0n,y0o,y0p,y0q,y0r,y0s,y0t,y0u,y0v,y0w,y0x,y0y,y0z,y10,y11,y12,y13,y14,y15,y16,y17,y18,y19,y1a,y1b,y1c,y1d,y1e,y1f,y1g,y1h,y1i,y1j,y1k,y1l,y1m,y1n,y1o,y1p,y1q,y1r,retO,retL,retV,z6i,allV,allP,z6j,z6m,z6n,z6t,z6u,z6v,binV,eqV,unV,oOpt,reduceIte,reduceCtorEq,Nat.reduceEqDiff,Nat.reduceAdd,Nat.reduceMul,Nat.reduceLT,Nat.reduceSub,Int.reduceLT,Int.reduceLE,Int.reduceEq,Int.reduceNe,Int.reduceSub,Int.reduceAdd,Int.reduceMul,Int.reduceBEq,Int.reduceBNe,Int.reduceGT,Int.reduceGE,Nat.reduceGT,Int.reduceToNat,Int.reduceNeg,Nat.reduceLeDiff,Nat.reduceBEq,Nat.reduceBneDiff,Value.cells]
      have g3 : 64 ≤ room := by omega
      have g4 : room ≤ 1048576 := by omega
      have ne : d ≠ r := by intro e; subst e; rw [Heap.set_self] at hd; cases hd
      have hdH : H d = none := by rw [Heap.set_ne ne] at hd; exact hd
      refine ⟨Heap.le_new (Heap.le_set (Heap.le_refl _) hr _) hd _, fun h => by rcases h with h | h <;> exact h.elim, fun _ => ⟨d, fun i => if i = d then some (d, d, 4) else if i = r then some (d, d, 5) else κ i, rfl, hdH, (Ext.new hr _ (some (d, d, 5))).trans (Ext.new hd _ (some (d, d, 4))), [], r, 0, ?_⟩⟩
      refine ⟨by simp, Heap.set_self _ _ _, by simp [ne.symm], by rw [Heap.set_ne ne.symm, Heap.set_self]; rfl, rfl, by simp, by simp, by simp, by simp, by simp⟩
theorem disk_On_c (E : EnvT tab) {κ : Pal} {H : Heap} {d : Nat} {D : DiskF} (R : DiskR κ H d D) (hl : -9000000000000000000 ≤ D.lives) (hl2 : D.lives ≤ 9000000000000000000) : ACallN E.toEnv n_disk_Disk_On [ptrV d] H fun v H' => Ext (diskC d) κ H κ H' ∧ DiskR κ H' d (onF D) := by
  obtain ⟨G, r, clk, V⟩ := R
  refine acall h_disk_Disk_On ir_disk_Disk_On rfl rfl (wpA_sound ?_)
  unfold ir_disk_Disk_On
  have qd := V.qd
  have st1 : storeV H 1 (.pointer (some ⟨d, 2, none⟩)) (.bool true) = some (H.set d (.own 0 [.int .i64 D.room, .map (some r), .bool true, .int .i64 D.lives] 4)) := storeV_one_at qd rfl (by simp) (by simp)
  have st2 : storeV (H.set d (.own 0 [.int .i64 D.room, .map (some r), .bool true, .int .i64 D.lives] 4)) 1 (.pointer (some ⟨d, 3, none⟩)) (.int .i64 (D.lives + 1)) = some ((H.set d (.own 0 [.int .i64 D.room, .map (some r), .bool true, .int .i64 D.lives] 4)).set d (.own 0 [.int .i64 D.room, .map (some r), .bool true, .int .i64 (D.lives + 1)] 4)) := storeV_one_at (Heap.set_self _ _ _) rfl (by simp) (by simp)
  have c3 : hcell (H.set d (.own 0 [.int .i64 D.room, .map (some r), .bool true, .int .i64 D.lives] 4)) ⟨d, 3, none⟩ = some (.int .i64 D.lives) := by rw [hcell_at (Heap.set_self _ _ _) (by simp)]; rfl
  have w : IntKind.i64.wrap (D.lives + 1) = D.lives + 1 := wrapI (by omega) (by omega)
  simp -implicitDefEqProofs only [zB1,zB2,zB3,zB4,zB5,zB6,zB7,zB8,zB9,zB10,zB11,y00,y01,y02,y03,y04,y05,y06,y07,y08,y09,y0a,y0b,y0c,y0d,y0e,y0f,y0g,y0h,y0i,y0j,y0k,y0l,y0m,y0n,y0o,y0p,y0q,y0r,y0s,y0t,y0u,y0v,y0w,y0x,y0y,y0z,y10,y11,y12,y13,y14,y15,y16,y17,y18,y19,y1a,y1b,y1c,y1d,y1e,y1f,y1g,y1h,y1i,y1j,y1k,y1l,y1m,y1n,y1o,y1p,y1q,y1r,retO,retL,retV,z6i,allV,allP,z6j,z6m,z6n,z6t,z6u,z6v,binV,eqV,unV,oOpt,reduceIte,reduceCtorEq,Nat.reduceEqDiff,Nat.reduceAdd,Nat.reduceMul,Nat.reduceLT,Nat.reduceSub,Int.reduceLT,Int.reduceLE,Int.reduceEq,Int.reduceNe,Int.reduceSub,Int.reduceAdd,Int.reduceMul,Int.reduceBEq,Int.reduceBNe,Int.reduceGT,Int.reduceGE,Nat.reduceGT,Int.reduceToNat,Int.reduceNeg,Nat.reduceLeDiff,Nat.reduceBEq,Nat.reduceBneDiff,Value.cells, st1, c3, w, st2]
  exact ⟨ext_d (Ext.set V.kd _), G, r, clk, V.set_d true (D.lives + 1)⟩
theorem disk_Sync_c (E : EnvT tab) {κ : Pal} {H : Heap} {d : Nat} {D : DiskF} (R : DiskR κ H d D) (ok : D.ok) (s : List UInt8) (hs : s.length ≤ 9000000000000000000) :
    ACallN E.toEnv n_disk_Disk_Sync [ptrV d, strV s] H fun v H' => v = .int .i64 ((syncF D s).2 : Nat) ∧ ∃ κ', Ext (diskC d) κ H κ' H' ∧ DiskR κ' H' d (syncF D s).1 := by
  obtain ⟨G, r, clk, V⟩ := R
  refine acall h_disk_Disk_Sync ir_disk_Disk_Sync rfl rfl (wpA_sound ?_)
  unfold ir_disk_Disk_Sync
  simp -implicitDefEqProofs only [zB1,zB2,zB3,zB4,zB5,zB6,zB7,zB8,zB9,zB10,zB11,y00,y01,y02,y03,y04,y05,y06,y07,y08,y09,y0a,y0b,y0c,y0d,y0e,y0f,y0g,y0h,y0i,y0j,y0k,y0l,y0m,y0n,y0o,y0p,y0q,y0r,y0s,y0t,y0u,y0v,y0w,y0x,y0y,y0z,y10,y11,y12,y13,y14,y15,y16,y17,y18,y19,y1a,y1b,y1c,y1d,y1e,y1f,y1g,y1h,y1i,y1j,y1k,y1l,y1m,y1n,y1o,y1p,y1q,y1r,retO,retL,retV,z6i,allV,allP,z6j,z6m,z6n,z6t,z6u,z6v,binV,eqV,unV,oOpt,reduceIte,reduceCtorEq,Nat.reduceEqDiff,Nat.reduceAdd,Nat.reduceMul,Nat.reduceLT,Nat.reduceSub,Int.reduceLT,Int.reduceLE,Int.reduceEq,Int.reduceNe,Int.reduceSub,Int.reduceAdd,Int.reduceMul,Int.reduceBEq,Int.reduceBNe,Int.reduceGT,Int.reduceGE,Nat.reduceGT,Int.reduceToNat,Int.reduceNeg,Nat.reduceLeDiff,Nat.reduceBEq,Nat.reduceBneDiff,Value.cells]
  refine (disk_find_c E V s hs).mono ?_
  rintro v H1 ⟨le1, h⟩
  unfold syncF
  rw [V.files]
  have V1 := V.le le1
  rcases h with ⟨e, rfl⟩ | ⟨e, l, rfl⟩ | ⟨e, A, g, B, rfl, l, hg, rfl⟩
  · rw [if_neg e]
    have e' : (((askF D [s] : Nat) : Int) == 0) = false := by simpa using e
    have e'' : ¬ ((askF D [s] : Nat) : Int) = 0 := by omega
    simp -implicitDefEqProofs only [zB1,zB2,zB3,zB4,zB5,zB6,zB7,zB8,zB9,zB10,zB11,y00,y01,y02,y03,y04,y05,y06,y07,y08,y09,y0a,y0b,y0c,y0d,y0e,y0f,y0g,y0h,y0i,y0j,y0k,y0l,y0m,y0n,y0o,y0p,y0q,y0r,y0s,y0t,y0u,y0v,y0w,y0x,y0y,y0z,y10,y11,y12,y13,y14,y15,y16,y17,y18,y19,y1a,y1b,y1c,y1d,y1e,y1f,y1g,y1h,y1i,y1j,y1k,y1l,y1m,y1n,y1o,y1p,y1q,y1r,retO,retL,retV,z6i,allV,allP,z6j,z6m,z6n,z6t,z6u,z6v,binV,eqV,unV,oOpt,reduceIte,reduceCtorEq,Nat.reduceEqDiff,Nat.reduceAdd,Nat.reduceMul,Nat.reduceLT,Nat.reduceSub,Int.reduceLT,Int.reduceLE,Int.reduceEq,Int.reduceNe,Int.reduceSub,Int.reduceAdd,Int.reduceMul,Int.reduceBEq,Int.reduceBNe,Int.reduceGT,Int.reduceGE,Nat.reduceGT,Int.reduceToNat,Int.reduceNeg,Nat.reduceLeDiff,Nat.reduceBEq,Nat.reduceBneDiff,Value.cells, e', e'']
    exact ⟨κ, Ext.le le1, G, r, clk, V1⟩
  · rw [if_pos e, look_lack l]
    simp -implicitDefEqProofs only [zB1,zB2,zB3,zB4,zB5,zB6,zB7,zB8,zB9,zB10,zB11,y00,y01,y02,y03,y04,y05,y06,y07,y08,y09,y0a,y0b,y0c,y0d,y0e,y0f,y0g,y0h,y0i,y0j,y0k,y0l,y0m,y0n,y0o,y0p,y0q,y0r,y0s,y0t,y0u,y0v,y0w,y0x,y0y,y0z,y10,y11,y12,y13,y14,y15,y16,y17,y18,y19,y1a,y1b,y1c,y1d,y1e,y1f,y1g,y1h,y1i,y1j,y1k,y1l,y1m,y1n,y1o,y1p,y1q,y1r,retO,retL,retV,z6i,allV,allP,z6j,z6m,z6n,z6t,z6u,z6v,binV,eqV,unV,oOpt,reduceIte,reduceCtorEq,Nat.reduceEqDiff,Nat.reduceAdd,Nat.reduceMul,Nat.reduceLT,Nat.reduceSub,Int.reduceLT,Int.reduceLE,Int.reduceEq,Int.reduceNe,Int.reduceSub,Int.reduceAdd,Int.reduceMul,Int.reduceBEq,Int.reduceBNe,Int.reduceGT,Int.reduceGE,Nat.reduceGT,Int.reduceToNat,Int.reduceNeg,Nat.reduceLeDiff,Nat.reduceBEq,Nat.reduceBneDiff,Value.cells]
    exact ⟨κ, Ext.le le1, G, r, clk, V1⟩
  · rw [if_pos e, look_some l hg]
    simp -implicitDefEqProofs only [zB1,zB2,zB3,zB4,zB5,zB6,zB7,zB8,zB9,zB10,zB11,y00,y01,y02,y03,y04,y05,y06,y07,y08,y09,y0a,y0b,y0c,y0d,y0e,y0f,y0g,y0h,y0i,y0j,y0k,y0l,y0m,y0n,y0o,y0p,y0q,y0r,y0s,y0t,y0u,y0v,y0w,y0x,y0y,y0z,y10,y11,y12,y13,y14,y15,y16,y17,y18,y19,y1a,y1b,y1c,y1d,y1e,y1f,y1g,y1h,y1i,y1j,y1k,y1l,y1m,y1n,y1o,y1p,y1q,y1r,retO,retL,retV,z6i,allV,allP,z6j,z6m,z6n,z6t,z6u,z6v,binV,eqV,unV,oOpt,reduceIte,reduceCtorEq,Nat.reduceEqDiff,Nat.reduceAdd,Nat.reduceMul,Nat.reduceLT,Nat.reduceSub,Int.reduceLT,Int.reduceLE,Int.reduceEq,Int.reduceNe,Int.reduceSub,Int.reduceAdd,Int.reduceMul,Int.reduceBEq,Int.reduceBNe,Int.reduceGT,Int.reduceGE,Nat.reduceGT,Int.reduceToNat,Int.reduceNeg,Nat.reduceLeDiff,Nat.reduceBEq,Nat.reduceBneDiff,Value.cells, beq_self_eq_true]
    have hm : g ∈ A ++ g :: B := by simp
    have okg : g.F.ok := (ok.1 (g.name, g.F) (by rw [V.files]; exact List.mem_map_of_mem hm)).1
    refine (file_sync_c E (V1.R g hm) okg).mono ?_
    rintro v H2 ⟨κ', e2, R2⟩
    simp -implicitDefEqProofs only [zB1,zB2,zB3,zB4,zB5,zB6,zB7,zB8,zB9,zB10,zB11,y00,y01,y02,y03,y04,y05,y06,y07,y08,y09,y0a,y0b,y0c,y0d,y0e,y0f,y0g,y0h,y0i,y0j,y0k,y0l,y0m,y0n,y0o,y0p,y0q,y0r,y0s,y0t,y0u,y0v,y0w,y0x,y0y,y0z,y10,y11,y12,y13,y14,y15,y16,y17,y18,y19,y1a,y1b,y1c,y1d,y1e,y1f,y1g,y1h,y1i,y1j,y1k,y1l,y1m,y1n,y1o,y1p,y1q,y1r,retO,retL,retV,z6i,allV,allP,z6j,z6m,z6n,z6t,z6u,z6v,binV,eqV,unV,oOpt,reduceIte,reduceCtorEq,Nat.reduceEqDiff,Nat.reduceAdd,Nat.reduceMul,Nat.reduceLT,Nat.reduceSub,Int.reduceLT,Int.reduceLE,Int.reduceEq,Int.reduceNe,Int.reduceSub,Int.reduceAdd,Int.reduceMul,Int.reduceBEq,Int.reduceBNe,Int.reduceGT,Int.reduceGE,Nat.reduceGT,Int.reduceToNat,Int.reduceNeg,Nat.reduceLeDiff,Nat.reduceBEq,Nat.reduceBneDiff,Value.cells]
    rw [turn_eq hg V.nn]
    exact ⟨κ', (Ext.le le1).trans (ext_f e2), _, r, clk, V1.file e2 R2⟩
theorem disk_Drop_c (E : EnvT tab) {κ : Pal} {H : Heap} {d : Nat} {D : DiskF} (R : DiskR κ H d D) (s : List UInt8) (hs : s.length ≤ 9000000000000000000) :
    ACallN E.toEnv n_disk_Disk_Drop [ptrV d, strV s] H fun v H' => v = .int .i64 ((dropF D s).2 : Nat) ∧ ∃ κ', Ext (diskC d) κ H κ' H' ∧ DiskR κ' H' d (dropF D s).1 := by
  obtain ⟨G, r, clk, V⟩ := R
  refine acall h_disk_Disk_Drop ir_disk_Disk_Drop rfl rfl (wpA_sound ?_)
  unfold ir_disk_Disk_Drop
  simp -implicitDefEqProofs only [zB1,zB2,zB3,zB4,zB5,zB6,zB7,zB8,zB9,zB10,zB11,y00,y01,y02,y03,y04,y05,y06,y07,y08,y09,y0a,y0b,y0c,y0d,y0e,y0f,y0g,y0h,y0i,y0j,y0k,y0l,y0m,y0n,y0o,y0p,y0q,y0r,y0s,y0t,y0u,y0v,y0w,y0x,y0y,y0z,y10,y11,y12,y13,y14,y15,y16,y17,y18,y19,y1a,y1b,y1c,y1d,y1e,y1f,y1g,y1h,y1i,y1j,y1k,y1l,y1m,y1n,y1o,y1p,y1q,y1r,retO,retL,retV,z6i,allV,allP,z6j,z6m,z6n,z6t,z6u,z6v,binV,eqV,unV,oOpt,reduceIte,reduceCtorEq,Nat.reduceEqDiff,Nat.reduceAdd,Nat.reduceMul,Nat.reduceLT,Nat.reduceSub,Int.reduceLT,Int.reduceLE,Int.reduceEq,Int.reduceNe,Int.reduceSub,Int.reduceAdd,Int.reduceMul,Int.reduceBEq,Int.reduceBNe,Int.reduceGT,Int.reduceGE,Nat.reduceGT,Int.reduceToNat,Int.reduceNeg,Nat.reduceLeDiff,Nat.reduceBEq,Nat.reduceBneDiff,Value.cells]
  refine (disk_find_c E V s hs).mono ?_
  rintro v H1 ⟨le1, h⟩
  unfold dropF
  rw [V.files]
  have V1 := V.le le1
  rcases h with ⟨e, rfl⟩ | ⟨e, l, rfl⟩ | ⟨e, A, g, B, rfl, l, hg, rfl⟩
  · rw [if_neg e]
    have e' : (((askF D [s] : Nat) : Int) == 0) = false := by simpa using e
    have e'' : ¬ ((askF D [s] : Nat) : Int) = 0 := by omega
    simp -implicitDefEqProofs only [zB1,zB2,zB3,zB4,zB5,zB6,zB7,zB8,zB9,zB10,zB11,y00,y01,y02,y03,y04,y05,y06,y07,y08,y09,y0a,y0b,y0c,y0d,y0e,y0f,y0g,y0h,y0i,y0j,y0k,y0l,y0m,y0n,y0o,y0p,y0q,y0r,y0s,y0t,y0u,y0v,y0w,y0x,y0y,y0z,y10,y11,y12,y13,y14,y15,y16,y17,y18,y19,y1a,y1b,y1c,y1d,y1e,y1f,y1g,y1h,y1i,y1j,y1k,y1l,y1m,y1n,y1o,y1p,y1q,y1r,retO,retL,retV,z6i,allV,allP,z6j,z6m,z6n,z6t,z6u,z6v,binV,eqV,unV,oOpt,reduceIte,reduceCtorEq,Nat.reduceEqDiff,Nat.reduceAdd,Nat.reduceMul,Nat.reduceLT,Nat.reduceSub,Int.reduceLT,Int.reduceLE,Int.reduceEq,Int.reduceNe,Int.reduceSub,Int.reduceAdd,Int.reduceMul,Int.reduceBEq,Int.reduceBNe,Int.reduceGT,Int.reduceGE,Nat.reduceGT,Int.reduceToNat,Int.reduceNeg,Nat.reduceLeDiff,Nat.reduceBEq,Nat.reduceBneDiff,Value.cells, e', e'']
    exact ⟨κ, Ext.le le1, G, r, clk, V1⟩
  · rw [if_pos e, look_lack l]
    simp -implicitDefEqProofs only [zB1,zB2,zB3,zB4,zB5,zB6,zB7,zB8,zB9,zB10,zB11,y00,y01,y02,y03,y04,y05,y06,y07,y08,y09,y0a,y0b,y0c,y0d,y0e,y0f,y0g,y0h,y0i,y0j,y0k,y0l,y0m,y0n,y0o,y0p,y0q,y0r,y0s,y0t,y0u,y0v,y0w,y0x,y0y,y0z,y10,y11,y12,y13,y14,y15,y16,y17,y18,y19,y1a,y1b,y1c,y1d,y1e,y1f,y1g,y1h,y1i,y1j,y1k,y1l,y1m,y1n,y1o,y1p,y1q,y1r,retO,retL,retV,z6i,allV,allP,z6j,z6m,z6n,z6t,z6u,z6v,binV,eqV,unV,oOpt,reduceIte,reduceCtorEq,Nat.reduceEqDiff,Nat.reduceAdd,Nat.reduceMul,Nat.reduceLT,Nat.reduceSub,Int.reduceLT,Int.reduceLE,Int.reduceEq,Int.reduceNe,Int.reduceSub,Int.reduceAdd,Int.reduceMul,Int.reduceBEq,Int.reduceBNe,Int.reduceGT,Int.reduceGE,Nat.reduceGT,Int.reduceToNat,Int.reduceNeg,Nat.reduceLeDiff,Nat.reduceBEq,Nat.reduceBneDiff,Value.cells]
    exact ⟨κ, Ext.le le1, G, r, clk, V1⟩
  · rw [if_pos e, look_some l hg]
    have c1 : hcell H1 ⟨d, 1, none⟩ = some (.map (some r)) := by rw [hcell_at V1.qd (by simp)]; rfl
    have md := mdel_eq V1.qr l hg
    simp -implicitDefEqProofs only [zB1,zB2,zB3,zB4,zB5,zB6,zB7,zB8,zB9,zB10,zB11,y00,y01,y02,y03,y04,y05,y06,y07,y08,y09,y0a,y0b,y0c,y0d,y0e,y0f,y0g,y0h,y0i,y0j,y0k,y0l,y0m,y0n,y0o,y0p,y0q,y0r,y0s,y0t,y0u,y0v,y0w,y0x,y0y,y0z,y10,y11,y12,y13,y14,y15,y16,y17,y18,y19,y1a,y1b,y1c,y1d,y1e,y1f,y1g,y1h,y1i,y1j,y1k,y1l,y1m,y1n,y1o,y1p,y1q,y1r,retO,retL,retV,z6i,allV,allP,z6j,z6m,z6n,z6t,z6u,z6v,binV,eqV,unV,oOpt,reduceIte,reduceCtorEq,Nat.reduceEqDiff,Nat.reduceAdd,Nat.reduceMul,Nat.reduceLT,Nat.reduceSub,Int.reduceLT,Int.reduceLE,Int.reduceEq,Int.reduceNe,Int.reduceSub,Int.reduceAdd,Int.reduceMul,Int.reduceBEq,Int.reduceBNe,Int.reduceGT,Int.reduceGE,Nat.reduceGT,Int.reduceToNat,Int.reduceNeg,Nat.reduceLeDiff,Nat.reduceBEq,Nat.reduceBneDiff,Value.cells, beq_self_eq_true, c1, md]
    rw [del_eq hg V.nn]
    exact ⟨κ, (Ext.le le1).trans (ext_d (Ext.set V1.kr _)), _, r, clk, V1.set_r (A ++ B) clk (sub_nodup _ V.nf) (sub_nodup _ V.nn) (sub_nodup _ V.nb) (fun g hg => V.lb g (sub_mem hg)) (fun g hg => V1.R g (sub_mem hg))⟩
theorem disk_Rename_c (E : EnvT tab) {κ : Pal} {H : Heap} {d : Nat} {D : DiskF} (R : DiskR κ H d D) (s t : List UInt8) (hs : s.length ≤ 9000000000000000000) (ht : t.length ≤ 9000000000000000000) :
    ACallN E.toEnv n_disk_Disk_Rename [ptrV d, strV s, strV t] H fun v H' => v = .int .i64 ((renameF D s t).2 : Nat) ∧ ∃ κ', Ext (diskC d) κ H κ' H' ∧ DiskR κ' H' d (renameF D s t).1 := by
  obtain ⟨G, r, clk, V⟩ := R
  refine acall h_disk_Disk_Rename ir_disk_Disk_Rename rfl rfl (wpA_sound ?_)
  unfold ir_disk_Disk_Rename
  simp -implicitDefEqProofs only [zB1,zB2,zB3,zB4,zB5,zB6,zB7,zB8,zB9,zB10,zB11,y00,y01,y02,y03,y04,y05,y06,y07,y08,y09,y0a,y0b,y0c,y0d,y0e,y0f,y0g,y0h,y0i,y0j,y0k,y0l,y0m,y0n,y0o,y0p,y0q,y0r,y0s,y0t,y0u,y0v,y0w,y0x,y0y,y0z,y10,y11,y12,y13,y14,y15,y16,y17,y18,y19,y1a,y1b,y1c,y1d,y1e,y1f,y1g,y1h,y1i,y1j,y1k,y1l,y1m,y1n,y1o,y1p,y1q,y1r,retO,retL,retV,z6i,allV,allP,z6j,z6m,z6n,z6t,z6u,z6v,binV,eqV,unV,oOpt,reduceIte,reduceCtorEq,Nat.reduceEqDiff,Nat.reduceAdd,Nat.reduceMul,Nat.reduceLT,Nat.reduceSub,Int.reduceLT,Int.reduceLE,Int.reduceEq,Int.reduceNe,Int.reduceSub,Int.reduceAdd,Int.reduceMul,Int.reduceBEq,Int.reduceBNe,Int.reduceGT,Int.reduceGE,Nat.reduceGT,Int.reduceToNat,Int.reduceNeg,Nat.reduceLeDiff,Nat.reduceBEq,Nat.reduceBneDiff,Value.cells]
  intro b11 hb11
  try simp -implicitDefEqProofs only [zB1,zB2,zB3,zB4,zB5,zB6,zB7,zB8,zB9,zB10,zB11,y00,y01,y02,y03,y04,y05,y06,y07,y08,y09,y0a,y0b,y0c,y0d,y0e,y0f,y0g,y0h,y0i,y0j,y0k,y0l,y0m,y0n,y0o,y0p,y0q,y0r,y0s,y0t,y0u,y0v,y0w,y0x,y0y,y0z,y10,y11,y12,y13,y14,y15,y16,y17,y18,y19,y1a,y1b,y1c,y1d,y1e,y1f,y1g,y1h,y1i,y1j,y1k,y1l,y1m,y1n,y1o,y1p,y1q,y1r,retO,retL,retV,z6i,allV,allP,z6j,z6m,z6n,z6t,z6u,z6v,binV,eqV,unV,oOpt,reduceIte,reduceCtorEq,Nat.reduceEqDiff,Nat.reduceAdd,Nat.reduceMul,Nat.reduceLT,Nat.reduceSub,Int.reduceLT,Int.reduceLE,Int.reduceEq,Int.reduceNe,Int.reduceSub,Int.reduceAdd,Int.reduceMul,Int.reduceBEq,Int.reduceBNe,Int.reduceGT,Int.reduceGE,Nat.reduceGT,Int.reduceToNat,Int.reduceNeg,Nat.reduceLeDiff,Nat.reduceBEq,Nat.reduceBneDiff,Value.cells]
  have le1 := Heap.le_set (Heap.le_refl H) hb11 (.own 0 [strV s, strV t] 2)
  have sn : Sl (H.set b11 (.own 0 [strV s, strV t] 2)) 1 (.slice (some ⟨b11, 0, none⟩) 2 2) 2 [strV s, strV t] := Sl.lit rfl
  refine (disk_ask_c E ⟨G, r, clk, V.le le1⟩ [s, t] (by simp) (by simpa using ⟨hs, ht⟩) sn).mono ?_
  rintro v H1 ⟨rfl, rfl⟩
  generalize (H.set b11 (.own 0 [strV s, strV t] 2)) = H1 at le1
  have V1 := V.le le1
  unfold renameF
  by_cases e : askF D [s, t] = 0
  · rw [if_pos e]
    have e2 : ((askF D [s, t] : Nat) : Int) = 0 := by omega
    have e1 : askF D [s] = 0 := by
      unfold askF at e ⊢
      by_cases on : D.on = true
      · rw [if_pos on] at e ⊢
        by_cases g : [s, t].all goodName = true
        · have : [s].all goodName = true := by simp at g ⊢; exact g.1
          rw [this]; rfl
        · rw [if_neg g] at e; cases e
      · rw [if_neg on] at e; cases e
    simp -implicitDefEqProofs only [zB1,zB2,zB3,zB4,zB5,zB6,zB7,zB8,zB9,zB10,zB11,y00,y01,y02,y03,y04,y05,y06,y07,y08,y09,y0a,y0b,y0c,y0d,y0e,y0f,y0g,y0h,y0i,y0j,y0k,y0l,y0m,y0n,y0o,y0p,y0q,y0r,y0s,y0t,y0u,y0v,y0w,y0x,y0y,y0z,y10,y11,y12,y13,y14,y15,y16,y17,y18,y19,y1a,y1b,y1c,y1d,y1e,y1f,y1g,y1h,y1i,y1j,y1k,y1l,y1m,y1n,y1o,y1p,y1q,y1r,retO,retL,retV,z6i,allV,allP,z6j,z6m,z6n,z6t,z6u,z6v,binV,eqV,unV,oOpt,reduceIte,reduceCtorEq,Nat.reduceEqDiff,Nat.reduceAdd,Nat.reduceMul,Nat.reduceLT,Nat.reduceSub,Int.reduceLT,Int.reduceLE,Int.reduceEq,Int.reduceNe,Int.reduceSub,Int.reduceAdd,Int.reduceMul,Int.reduceBEq,Int.reduceBNe,Int.reduceGT,Int.reduceGE,Nat.reduceGT,Int.reduceToNat,Int.reduceNeg,Nat.reduceLeDiff,Nat.reduceBEq,Nat.reduceBneDiff,Value.cells, e2]
    unfold ir_disk_Disk_Rename_19
    simp -implicitDefEqProofs only [zB1,zB2,zB3,zB4,zB5,zB6,zB7,zB8,zB9,zB10,zB11,y00,y01,y02,y03,y04,y05,y06,y07,y08,y09,y0a,y0b,y0c,y0d,y0e,y0f,y0g,y0h,y0i,y0j,y0k,y0l,y0m,y0n,y0o,y0p,y0q,y0r,y0s,y0t,y0u,y0v,y0w,y0x,y0y,y0z,y10,y11,y12,y13,y14,y15,y16,y17,y18,y19,y1a,y1b,y1c,y1d,y1e,y1f,y1g,y1h,y1i,y1j,y1k,y1l,y1m,y1n,y1o,y1p,y1q,y1r,retO,retL,retV,z6i,allV,allP,z6j,z6m,z6n,z6t,z6u,z6v,binV,eqV,unV,oOpt,reduceIte,reduceCtorEq,Nat.reduceEqDiff,Nat.reduceAdd,Nat.reduceMul,Nat.reduceLT,Nat.reduceSub,Int.reduceLT,Int.reduceLE,Int.reduceEq,Int.reduceNe,Int.reduceSub,Int.reduceAdd,Int.reduceMul,Int.reduceBEq,Int.reduceBNe,Int.reduceGT,Int.reduceGE,Nat.reduceGT,Int.reduceToNat,Int.reduceNeg,Nat.reduceLeDiff,Nat.reduceBEq,Nat.reduceBneDiff,Value.cells]
    refine (disk_find_c E V1 s hs).mono ?_
    rintro v H2 ⟨le2, h⟩
    have V2 := V1.le le2
    have le02 := Heap.le_trans le1 le2
    rw [V.files]
    rcases h with ⟨e, rfl⟩ | ⟨e, l, rfl⟩ | ⟨e, A, g, B, rfl, l, hg, rfl⟩
    · exact absurd e1 e
    · rw [look_lack l]
      simp -implicitDefEqProofs only [zB1,zB2,zB3,zB4,zB5,zB6,zB7,zB8,zB9,zB10,zB11,y00,y01,y02,y03,y04,y05,y06,y07,y08,y09,y0a,y0b,y0c,y0d,y0e,y0f,y0g,y0h,y0i,y0j,y0k,y0l,y0m,y0n,y0o,y0p,y0q,y0r,y0s,y0t,y0u,y0v,y0w,y0x,y0y,y0z,y10,y11,y12,y13,y14,y15,y16,y17,y18,y19,y1a,y1b,y1c,y1d,y1e,y1f,y1g,y1h,y1i,y1j,y1k,y1l,y1m,y1n,y1o,y1p,y1q,y1r,retO,retL,retV,z6i,allV,allP,z6j,z6m,z6n,z6t,z6u,z6v,binV,eqV,unV,oOpt,reduceIte,reduceCtorEq,Nat.reduceEqDiff,Nat.reduceAdd,Nat.reduceMul,Nat.reduceLT,Nat.reduceSub,Int.reduceLT,Int.reduceLE,Int.reduceEq,Int.reduceNe,Int.reduceSub,Int.reduceAdd,Int.reduceMul,Int.reduceBEq,Int.reduceBNe,Int.reduceGT,Int.reduceGE,Nat.reduceGT,Int.reduceToNat,Int.reduceNeg,Nat.reduceLeDiff,Nat.reduceBEq,Nat.reduceBneDiff,Value.cells]
      exact ⟨κ, Ext.le le02, G, r, clk, V2⟩
    · rw [look_some l hg]
      have c1 : hcell H2 ⟨d, 1, none⟩ = some (.map (some r)) := by rw [hcell_at V2.qd (by simp)]; rfl
      have md := mdel_eq V2.qr l hg
      have V3 := V2.set_r (A ++ B) clk (sub_nodup _ V.nf) (sub_nodup _ V.nn) (sub_nodup _ V.nb) (fun g hg => V.lb g (sub_mem hg)) (fun g hg => V2.R g (sub_mem hg))
      have e3 : Ext (diskC d) κ H κ (H2.set r (.obj (.map ((A ++ B).map GFile.e).toArray clk))) := (Ext.le le02).trans (ext_d (Ext.set V2.kr _))
      have Rg : FileR κ (H2.set r (.obj (.map ((A ++ B).map GFile.e).toArray clk))) d g.f g.F := (V2.R g (by simp)).ext (Ext.set (H := H2) V2.kr (.obj (.map ((A ++ B).map GFile.e).toArray clk))) fun r hr q => by simp at q; omega
      simp -implicitDefEqProofs only [zB1,zB2,zB3,zB4,zB5,zB6,zB7,zB8,zB9,zB10,zB11,y00,y01,y02,y03,y04,y05,y06,y07,y08,y09,y0a,y0b,y0c,y0d,y0e,y0f,y0g,y0h,y0i,y0j,y0k,y0l,y0m,y0n,y0o,y0p,y0q,y0r,y0s,y0t,y0u,y0v,y0w,y0x,y0y,y0z,y10,y11,y12,y13,y14,y15,y16,y17,y18,y19,y1a,y1b,y1c,y1d,y1e,y1f,y1g,y1h,y1i,y1j,y1k,y1l,y1m,y1n,y1o,y1p,y1q,y1r,retO,retL,retV,z6i,allV,allP,z6j,z6m,z6n,z6t,z6u,z6v,binV,eqV,unV,oOpt,reduceIte,reduceCtorEq,Nat.reduceEqDiff,Nat.reduceAdd,Nat.reduceMul,Nat.reduceLT,Nat.reduceSub,Int.reduceLT,Int.reduceLE,Int.reduceEq,Int.reduceNe,Int.reduceSub,Int.reduceAdd,Int.reduceMul,Int.reduceBEq,Int.reduceBNe,Int.reduceGT,Int.reduceGE,Nat.reduceGT,Int.reduceToNat,Int.reduceNeg,Nat.reduceLeDiff,Nat.reduceBEq,Nat.reduceBneDiff,Value.cells, c1, md]
      rw [del_eq hg V.nn]
      generalize (H2.set r (.obj (.map ((A ++ B).map GFile.e).toArray clk))) = H3 at V3 e3 Rg ⊢
      have c3 : hcell H3 ⟨d, 1, none⟩ = some (.map (some r)) := by rw [hcell_at V3.qd (by simp)]; rfl
      have nfg := sub_new (·.f) V.nf
      have nbg := sub_new (·.born) V.nb
      unfold putFile
      rcases lack_or (A ++ B) t with lt | ⟨A2, g2, B2, hAB, lt, hg2⟩
      · have mu := mupd_new (f := g.f) g.F V3.qr lt
        rw [look_lack lt]
        simp -implicitDefEqProofs only [zB1,zB2,zB3,zB4,zB5,zB6,zB7,zB8,zB9,zB10,zB11,y00,y01,y02,y03,y04,y05,y06,y07,y08,y09,y0a,y0b,y0c,y0d,y0e,y0f,y0g,y0h,y0i,y0j,y0k,y0l,y0m,y0n,y0o,y0p,y0q,y0r,y0s,y0t,y0u,y0v,y0w,y0x,y0y,y0z,y10,y11,y12,y13,y14,y15,y16,y17,y18,y19,y1a,y1b,y1c,y1d,y1e,y1f,y1g,y1h,y1i,y1j,y1k,y1l,y1m,y1n,y1o,y1p,y1q,y1r,retO,retL,retV,z6i,allV,allP,z6j,z6m,z6n,z6t,z6u,z6v,binV,eqV,unV,oOpt,reduceIte,reduceCtorEq,Nat.reduceEqDiff,Nat.reduceAdd,Nat.reduceMul,Nat.reduceLT,Nat.reduceSub,Int.reduceLT,Int.reduceLE,Int.reduceEq,Int.reduceNe,Int.reduceSub,Int.reduceAdd,Int.reduceMul,Int.reduceBEq,Int.reduceBNe,Int.reduceGT,Int.reduceGE,Nat.reduceGT,Int.reduceToNat,Int.reduceNeg,Nat.reduceLeDiff,Nat.reduceBEq,Nat.reduceBneDiff,Value.cells, c3, mu, Option.isSome_none]
        have V4 := V3.set_r ((A ++ B) ++ [⟨t, g.f, clk, g.F⟩]) (clk + 1) (nodup_snoc _ (g := ⟨t, g.f, clk, g.F⟩) V3.nf nfg) (nodup_snoc _ (g := ⟨t, g.f, clk, g.F⟩) V3.nn lt) (nodup_snoc _ (g := ⟨t, g.f, clk, g.F⟩) V3.nb fun x hx => Nat.ne_of_lt (V3.lb x hx))
          (by
            intro x hx
            rcases List.mem_append.1 hx with hx | hx
            · exact Nat.lt_succ_of_lt (V3.lb x hx)
            · rw [List.mem_singleton] at hx; subst hx; exact Nat.lt_succ_self _)
          (by
            intro x hx
            rcases List.mem_append.1 hx with hx | hx
            · exact V3.R x hx
            · rw [List.mem_singleton] at hx; subst hx; exact Rg)
        have ef : nF ((A ++ B) ++ [⟨t, g.f, clk, g.F⟩]) = nF (A ++ B) ++ [(t, g.F)] := by simp [nF]
        simp only [ef] at V4
        exact ⟨κ, e3.trans (ext_d (Ext.set V3.kr _)), _, r, clk + 1, V4⟩
      · rw [hAB] at V3 nfg nbg ⊢
        have mu := mupd_old (f := g.f) g.F V3.qr lt hg2
        rw [look_some lt hg2]
        simp -implicitDefEqProofs only [zB1,zB2,zB3,zB4,zB5,zB6,zB7,zB8,zB9,zB10,zB11,y00,y01,y02,y03,y04,y05,y06,y07,y08,y09,y0a,y0b,y0c,y0d,y0e,y0f,y0g,y0h,y0i,y0j,y0k,y0l,y0m,y0n,y0o,y0p,y0q,y0r,y0s,y0t,y0u,y0v,y0w,y0x,y0y,y0z,y10,y11,y12,y13,y14,y15,y16,y17,y18,y19,y1a,y1b,y1c,y1d,y1e,y1f,y1g,y1h,y1i,y1j,y1k,y1l,y1m,y1n,y1o,y1p,y1q,y1r,retO,retL,retV,z6i,allV,allP,z6j,z6m,z6n,z6t,z6u,z6v,binV,eqV,unV,oOpt,reduceIte,reduceCtorEq,Nat.reduceEqDiff,Nat.reduceAdd,Nat.reduceMul,Nat.reduceLT,Nat.reduceSub,Int.reduceLT,Int.reduceLE,Int.reduceEq,Int.reduceNe,Int.reduceSub,Int.reduceAdd,Int.reduceMul,Int.reduceBEq,Int.reduceBNe,Int.reduceGT,Int.reduceGE,Nat.reduceGT,Int.reduceToNat,Int.reduceNeg,Nat.reduceLeDiff,Nat.reduceBEq,Nat.reduceBneDiff,Value.cells, c3, mu, Option.isSome_some]
        have g2m : g2 ∈ A2 ++ g2 :: B2 := by simp
        have V4 := V3.set_r (A2 ++ ⟨t, g.f, g2.born, g.F⟩ :: B2) clk
          (by
            have h1 := sub_nodup _ V3.nf
            have : ((A2 ++ (⟨t, g.f, g2.born, g.F⟩ : GFile) :: B2).map (·.f)).Perm (g.f :: (A2 ++ B2).map (·.f)) := by
              simp only [List.map_append, List.map_cons]; exact List.perm_middle
            rw [this.nodup_iff, List.nodup_cons]
            refine ⟨fun hh => ?_, h1⟩
            obtain ⟨x, hx, ex⟩ := List.mem_map.1 hh
            exact nfg x (sub_mem hx) ex)
          (by
            have h1 := V3.nn
            simp only [List.map_append, List.map_cons] at h1 ⊢
            rw [hg2] at h1; exact h1)
          (by
            have h1 := V3.nb
            simp only [List.map_append, List.map_cons] at h1 ⊢
            exact h1)
          (by
            intro x hx
            rcases List.mem_append.1 hx with hx | hx
            · exact V3.lb x (by simp [hx])
            · rcases List.mem_cons.1 hx with rfl | hx
              · exact V3.lb g2 g2m
              · exact V3.lb x (by simp [hx]))
          (by
            intro x hx
            rcases List.mem_append.1 hx with hx | hx
            · exact V3.R x (by simp [hx])
            · rcases List.mem_cons.1 hx with rfl | hx
              · exact Rg
              · exact V3.R x (by simp [hx]))
        have ef : nF (A2 ++ (⟨t, g.f, g2.born, g.F⟩ : GFile) :: B2) = turnF' (nF (A2 ++ g2 :: B2)) t g.F := by
          rw [turn_eq hg2 V3.nn]; simp [nF, hg2]
        rw [ef] at V4
        exact ⟨κ, e3.trans (ext_d (Ext.set V3.kr _)), _, r, clk, V4⟩
  · rw [if_neg e]
    have e2 : ¬ ((askF D [s, t] : Nat) : Int) = 0 := by omega
    simp -implicitDefEqProofs only [zB1,zB2,zB3,zB4,zB5,zB6,zB7,zB8,zB9,zB10,zB11,y00,y01,y02,y03,y04,y05,y06,y07,y08,y09,y0a,y0b,y0c,y0d,y0e,y0f,y0g,y0h,y0i,y0j,y0k,y0l,y0m,y0n,y0o,y0p,y0q,y0r,y0s,y0t,y0u,y0v,y0w,y0x,y0y,y0z,y10,y11,y12,y13,y14,y15,y16,y17,y18,y19,y1a,y1b,y1c,y1d,y1e,y1f,y1g,y1h,y1i,y1j,y1k,y1l,y1m,y1n,y1o,y1p,y1q,y1r,retO,retL,retV,z6i,allV,allP,z6j,z6m,z6n,z6t,z6u,z6v,binV,eqV,unV,oOpt,reduceIte,reduceCtorEq,Nat.reduceEqDiff,Nat.reduceAdd,Nat.reduceMul,Nat.reduceLT,Nat.reduceSub,Int.reduceLT,Int.reduceLE,Int.reduceEq,Int.reduceNe,Int.reduceSub,Int.reduceAdd,Int.reduceMul,Int.reduceBEq,Int.reduceBNe,Int.reduceGT,Int.reduceGE,Nat.reduceGT,Int.reduceToNat,Int.reduceNeg,Nat.reduceLeDiff,Nat.reduceBEq,Nat.reduceBneDiff,Value.cells, e2]
    exact ⟨κ, Ext.le le1, ⟨G, r, clk, V1⟩⟩
end Go.Bb
/- Contracts: a journal at its place; done, base, sync. -/
namespace Go.Bb
set_option linter.unusedSimpArgs false
set_option linter.unusedVariables false
set_option maxRecDepth 20000
set_option maxHeartbeats 2000000

/-! ### what has no colour -/
def Heap.bare (H : Heap) (κ : Pal) : Heap := fun b => if κ b = none then H b else none
theorem Heap.bare_le (H : Heap) (κ : Pal) : (H.bare κ).le H := by
  intro b x h; unfold Heap.bare at h; split at h
  · exact h
  · cases h
theorem Heap.bare_some {H : Heap} {κ : Pal} {b : Nat} {x : Blk} : H.bare κ b = some x ↔ H b = some x ∧ κ b = none := by
  unfold Heap.bare; split
  · rename_i h; simp [h]
  · rename_i h; simp [h]
theorem Ext.bare {cs : Col → Prop} {κ κ' : Pal} {H H' : Heap} (e : Ext cs κ H κ' H') : (H.bare κ).le (H'.bare κ') := by
  intro b x q
  obtain ⟨h1, h2⟩ := Heap.bare_some.1 q
  exact Heap.bare_some.2 (e.plain h2 h1)
/-- What is new has no colour. -/
def Pal.wash (κ : Pal) (H : Heap) : Pal := fun b => if H b = none then none else κ b
theorem Ext.wash {cs : Col → Prop} {κ : Pal} {H H' : Heap} (h : H.le H') : Ext cs κ H (κ.wash H) H' := by
  intro b x q n
  refine ⟨h b x q, ?_⟩
  unfold Pal.wash; rw [if_neg (by rw [q]; simp)]
theorem Ow.bare {κ : Pal} {H H' : Heap} {size n : Nat} {v : Value} {cells : List Value} (s : Ow H H' size v n cells) : Sl (H'.bare (κ.wash H)) size v n cells := by
  rcases s with s | ⟨b, o, c, sz, st, pre, rest, h1, h2, h3, h4, h5⟩
  · exact .inl s
  · have : Ow H (H'.bare (κ.wash H)) size v n cells := .inr ⟨b, o, c, sz, st, pre, rest, h1, h2, h3, Heap.bare_some.2 ⟨h4, by unfold Pal.wash; rw [if_pos h3]⟩, h5⟩
    exact this.sl

/-! ### a journal -/
structure JF where
  lives : Int
  turn : Nat := 0
  part : Nat := 0
  written : Bool := false
  base : List UInt8 := []
  recs : List (List UInt8) := []
  full : Bool := false
def JouV (κ : Pal) (H : Heap) (j d : Nat) (J : JF) (vb vr : Value) (rs : List Value) : Prop :=
  κ j = some (j, j, 7) ∧ H j = some (.own 0 [ptrV d, .int .i64 J.lives, .int .u64 (J.turn : Nat), .int .i64 (J.part : Nat), .bool J.written, vb, vr, .bool J.full] 8) ∧ OwK κ (j, j, 8) H 1 vb J.base.length (J.base.map u8V) ∧ OwK κ (j, j, 9) H 1 vr J.recs.length rs ∧ rs.length = J.recs.length ∧
  ∀ i (h1 : i < rs.length) (h2 : i < J.recs.length), OwK κ (j, j, 10) H 1 rs[i] J.recs[i].length (J.recs[i].map u8V)
def JouR (κ : Pal) (H : Heap) (j d : Nat) (J : JF) : Prop := ∃ vb vr rs, JouV κ H j d J vb vr rs
def jouC (j : Nat) : Col → Prop := fun c => c.1 = j
theorem JouV.ext {cs : Col → Prop} {κ κ' : Pal} {H H' : Heap} {j d : Nat} {J : JF} {vb vr : Value} {rs : List Value} (a : Ext cs κ H κ' H') (n : ∀ c : Col, c.1 = j → ¬ cs c) (R : JouV κ H j d J vb vr rs) : JouV κ' H' j d J vb vr rs := by
  obtain ⟨k, q, s1, s2, l, s3⟩ := R
  obtain ⟨g1, g2⟩ := a.blk k (n _ rfl) q
  exact ⟨g2, g1, a.own (n _ rfl) s1, a.own (n _ rfl) s2, l, fun i h1 h2 => a.own (n _ rfl) (s3 i h1 h2)⟩
theorem JouR.ext {cs : Col → Prop} {κ κ' : Pal} {H H' : Heap} {j d : Nat} {J : JF} (a : Ext cs κ H κ' H') (n : ∀ c : Col, c.1 = j → ¬ cs c) (R : JouR κ H j d J) : JouR κ' H' j d J := by
  obtain ⟨vb, vr, rs, R⟩ := R
  exact ⟨vb, vr, rs, R.ext a n⟩
theorem JouR.le {κ : Pal} {H H' : Heap} {j d : Nat} {J : JF} (h : H.le H') (R : JouR κ H j d J) : JouR κ H' j d J := R.ext (Ext.le (cs := fun _ => False) h) (fun _ _ q => q)
theorem JouR.apart {κ κ' : Pal} {H H' : Heap} {d e x : Nat} {J : JF} (R : JouR κ H e x J) (a : Ext (diskC d) κ H κ' H') (ne : d ≠ e) : JouR κ' H' e x J := R.ext a fun c h q => ne (by unfold diskC at q; rw [← q, h])
theorem DiskR.off {κ κ' : Pal} {H H' : Heap} {d e : Nat} {D : DiskF} (R : DiskR κ H e D) (a : Ext (jouC d) κ H κ' H') (ne : d ≠ e) : DiskR κ' H' e D := R.ext a fun c h q => ne (by unfold jouC at q; rw [← q, h])
theorem ext_j {κ κ' : Pal} {H H' : Heap} {j x : Nat} (h : Ext (· = (j, j, x)) κ H κ' H') : Ext (jouC j) κ H κ' H' := h.mono fun c e => by subst e; rfl
/-- The block of a journal is set anew. -/
theorem JouV.put {κ : Pal} {H : Heap} {j d : Nat} {J : JF} {vb vr : Value} {rs : List Value} (R : JouV κ H j d J vb vr rs) (turn part : Nat) (written full : Bool) :
    JouV κ (H.set j (.own 0 [ptrV d, .int .i64 J.lives, .int .u64 (turn : Nat), .int .i64 (part : Nat), .bool written, vb, vr, .bool full] 8)) j d { J with turn := turn, part := part, written := written, full := full } vb vr rs := by
  obtain ⟨k, q, s1, s2, l, s3⟩ := R
  have e := Ext.set (H := H) k (.own 0 [ptrV d, .int .i64 J.lives, .int .u64 (turn : Nat), .int .i64 (part : Nat), .bool written, vb, vr, .bool full] 8)
  exact ⟨k, Heap.set_self _ _ _, e.own (by simp) s1, e.own (by simp) s2, l, fun i h1 h2 => e.own (by simp) (s3 i h1 h2)⟩
theorem JouV.put_ext {κ : Pal} {H : Heap} {j d : Nat} {J : JF} {vb vr : Value} {rs : List Value} (R : JouV κ H j d J vb vr rs) (X : Blk) : Ext (jouC j) κ H κ (H.set j X) := ext_j (Ext.set R.1 X)

def doneF (J : JF) (D : DiskF) : Bool := J.full || !D.on || (D.lives != J.lives)
theorem journal_Done_c (E : EnvT tab) {κ : Pal} {H : Heap} {j d : Nat} {J : JF} {D : DiskF} (R : JouR κ H j d J) (RD : DiskR κ H d D) : ACallN E.toEnv n_journal_Journal_Done [ptrV j] H fun r H' => H' = H ∧ r = .bool (doneF J D) := by
  obtain ⟨vb, vr, rs, k, q, -⟩ := R
  refine acall h_journal_Journal_Done ir_journal_Journal_Done rfl rfl (wpA_sound ?_)
  unfold ir_journal_Journal_Done
  have c0 : hcell H ⟨j, 0, none⟩ = some (ptrV d) := by rw [hcell_at q (by simp)]; rfl
  have c1 : hcell H ⟨j, 1, none⟩ = some (.int .i64 J.lives) := by rw [hcell_at q (by simp)]; rfl
  have c7 : hcell H ⟨j, 7, none⟩ = some (.bool J.full) := by rw [hcell_at q (by simp)]; rfl
  simp -implicitDefEqProofs only [zB1,zB2,zB3,zB4,zB5,zB6,zB7,zB8,zB9,zB10,zB11,y00,y01,y02,y03,y04,y05,y06,y07,y08,y09,y0a,y0b,y0c,y0d,y0e,y0f,y0g,y0h,y0i,y0j,y0k,y0l,y0m,y0n,y0o,y0p,y0q,y0r,y0s,y0t,y0u,y0v,y0w,y0x,y0y,y0z,y10,y11,y12,y13,y14,y15,y16,y17,y18,y19,y1a,y1b,y1c,y1d,y1e,y1f,y1g,y1h,y1i,y1j,y1k,y1l,y1m,y1n,y1o,y1p,y1q,y1r,retO,retL,retV,z6i,allV,allP,z6j,z6m,z6n,z6t,z6u,z6v,binV,eqV,unV,oOpt,reduceIte,reduceCtorEq,Nat.reduceEqDiff,Nat.reduceAdd,Nat.reduceMul,Nat.reduceLT,Nat.reduceSub,Int.reduceLT,Int.reduceLE,Int.reduceEq,Int.reduceNe,Int.reduceSub,Int.reduceAdd,Int.reduceMul,Int.reduceBEq,Int.reduceBNe,Int.reduceGT,Int.reduceGE,Nat.reduceGT,Int.reduceToNat,Int.reduceNeg,Nat.reduceLeDiff,Nat.reduceBEq,Nat.reduceBneDiff,Value.cells]
  unfold ir_journal_Journal_Done_3 doneF
  by_cases f : J.full = true
  · simp -implicitDefEqProofs only [zB1,zB2,zB3,zB4,zB5,zB6,zB7,zB8,zB9,zB10,zB11,y00,y01,y02,y03,y04,y05,y06,y07,y08,y09,y0a,y0b,y0c,y0d,y0e,y0f,y0g,y0h,y0i,y0j,y0k,y0l,y0m,y0n,y0o,y0p,y0q,y0r,y0s,y0t,y0u,y0v,y0w,y0x,y0y,y0z,y10,y11,y12,y13,y14,y15,y16,y17,y18,y19,y1a,y1b,y1c,y1d,y1e,y1f,y1g,y1h,y1i,y1j,y1k,y1l,y1m,y1n,y1o,y1p,y1q,y1r,retO,retL,retV,z6i,allV,allP,z6j,z6m,z6n,z6t,z6u,z6v,binV,eqV,unV,oOpt,reduceIte,reduceCtorEq,Nat.reduceEqDiff,Nat.reduceAdd,Nat.reduceMul,Nat.reduceLT,Nat.reduceSub,Int.reduceLT,Int.reduceLE,Int.reduceEq,Int.reduceNe,Int.reduceSub,Int.reduceAdd,Int.reduceMul,Int.reduceBEq,Int.reduceBNe,Int.reduceGT,Int.reduceGE,Nat.reduceGT,Int.reduceToNat,Int.reduceNeg,Nat.reduceLeDiff,Nat.reduceBEq,Nat.reduceBneDiff,Value.cells, c7, f, Bool.true_or]
  · by_cases on : D.on = true
    · simp -implicitDefEqProofs only [zB1,zB2,zB3,zB4,zB5,zB6,zB7,zB8,zB9,zB10,zB11,y00,y01,y02,y03,y04,y05,y06,y07,y08,y09,y0a,y0b,y0c,y0d,y0e,y0f,y0g,y0h,y0i,y0j,y0k,y0l,y0m,y0n,y0o,y0p,y0q,y0r,y0s,y0t,y0u,y0v,y0w,y0x,y0y,y0z,y10,y11,y12,y13,y14,y15,y16,y17,y18,y19,y1a,y1b,y1c,y1d,y1e,y1f,y1g,y1h,y1i,y1j,y1k,y1l,y1m,y1n,y1o,y1p,y1q,y1r,retO,retL,retV,z6i,allV,allP,z6j,z6m,z6n,z6t,z6u,z6v,binV,eqV,unV,oOpt,reduceIte,reduceCtorEq,Nat.reduceEqDiff,Nat.reduceAdd,Nat.reduceMul,Nat.reduceLT,Nat.reduceSub,Int.reduceLT,Int.reduceLE,Int.reduceEq,Int.reduceNe,Int.reduceSub,Int.reduceAdd,Int.reduceMul,Int.reduceBEq,Int.reduceBNe,Int.reduceGT,Int.reduceGE,Nat.reduceGT,Int.reduceToNat,Int.reduceNeg,Nat.reduceLeDiff,Nat.reduceBEq,Nat.reduceBneDiff,Value.cells, c7, f, c0, c1, on, Bool.false_or]
      refine (disk_Power_c E RD).mono ?_
      rintro v H1 ⟨rfl, rfl⟩
      simp -implicitDefEqProofs only [zB1,zB2,zB3,zB4,zB5,zB6,zB7,zB8,zB9,zB10,zB11,y00,y01,y02,y03,y04,y05,y06,y07,y08,y09,y0a,y0b,y0c,y0d,y0e,y0f,y0g,y0h,y0i,y0j,y0k,y0l,y0m,y0n,y0o,y0p,y0q,y0r,y0s,y0t,y0u,y0v,y0w,y0x,y0y,y0z,y10,y11,y12,y13,y14,y15,y16,y17,y18,y19,y1a,y1b,y1c,y1d,y1e,y1f,y1g,y1h,y1i,y1j,y1k,y1l,y1m,y1n,y1o,y1p,y1q,y1r,retO,retL,retV,z6i,allV,allP,z6j,z6m,z6n,z6t,z6u,z6v,binV,eqV,unV,oOpt,reduceIte,reduceCtorEq,Nat.reduceEqDiff,Nat.reduceAdd,Nat.reduceMul,Nat.reduceLT,Nat.reduceSub,Int.reduceLT,Int.reduceLE,Int.reduceEq,Int.reduceNe,Int.reduceSub,Int.reduceAdd,Int.reduceMul,Int.reduceBEq,Int.reduceBNe,Int.reduceGT,Int.reduceGE,Nat.reduceGT,Int.reduceToNat,Int.reduceNeg,Nat.reduceLeDiff,Nat.reduceBEq,Nat.reduceBneDiff,Value.cells, c7, f, c0, c1, on, Bool.false_or]
      refine (disk_Lives_c E RD).mono ?_
      rintro v H2 ⟨rfl, rfl⟩
      simp -implicitDefEqProofs only [zB1,zB2,zB3,zB4,zB5,zB6,zB7,zB8,zB9,zB10,zB11,y00,y01,y02,y03,y04,y05,y06,y07,y08,y09,y0a,y0b,y0c,y0d,y0e,y0f,y0g,y0h,y0i,y0j,y0k,y0l,y0m,y0n,y0o,y0p,y0q,y0r,y0s,y0t,y0u,y0v,y0w,y0x,y0y,y0z,y10,y11,y12,y13,y14,y15,y16,y17,y18,y19,y1a,y1b,y1c,y1d,y1e,y1f,y1g,y1h,y1i,y1j,y1k,y1l,y1m,y1n,y1o,y1p,y1q,y1r,retO,retL,retV,z6i,allV,allP,z6j,z6m,z6n,z6t,z6u,z6v,binV,eqV,unV,oOpt,reduceIte,reduceCtorEq,Nat.reduceEqDiff,Nat.reduceAdd,Nat.reduceMul,Nat.reduceLT,Nat.reduceSub,Int.reduceLT,Int.reduceLE,Int.reduceEq,Int.reduceNe,Int.reduceSub,Int.reduceAdd,Int.reduceMul,Int.reduceBEq,Int.reduceBNe,Int.reduceGT,Int.reduceGE,Nat.reduceGT,Int.reduceToNat,Int.reduceNeg,Nat.reduceLeDiff,Nat.reduceBEq,Nat.reduceBneDiff,Value.cells, c7, f, c0, c1, on, Bool.false_or, implies_true, List.mem_cons, List.not_mem_nil, List.mem_singleton, or_false, forall_eq, forall_eq_or_imp, and_self]
    · simp -implicitDefEqProofs only [zB1,zB2,zB3,zB4,zB5,zB6,zB7,zB8,zB9,zB10,zB11,y00,y01,y02,y03,y04,y05,y06,y07,y08,y09,y0a,y0b,y0c,y0d,y0e,y0f,y0g,y0h,y0i,y0j,y0k,y0l,y0m,y0n,y0o,y0p,y0q,y0r,y0s,y0t,y0u,y0v,y0w,y0x,y0y,y0z,y10,y11,y12,y13,y14,y15,y16,y17,y18,y19,y1a,y1b,y1c,y1d,y1e,y1f,y1g,y1h,y1i,y1j,y1k,y1l,y1m,y1n,y1o,y1p,y1q,y1r,retO,retL,retV,z6i,allV,allP,z6j,z6m,z6n,z6t,z6u,z6v,binV,eqV,unV,oOpt,reduceIte,reduceCtorEq,Nat.reduceEqDiff,Nat.reduceAdd,Nat.reduceMul,Nat.reduceLT,Nat.reduceSub,Int.reduceLT,Int.reduceLE,Int.reduceEq,Int.reduceNe,Int.reduceSub,Int.reduceAdd,Int.reduceMul,Int.reduceBEq,Int.reduceBNe,Int.reduceGT,Int.reduceGE,Nat.reduceGT,Int.reduceToNat,Int.reduceNeg,Nat.reduceLeDiff,Nat.reduceBEq,Nat.reduceBneDiff,Value.cells, c7, f, c0, c1, on, Bool.false_or]
      refine (disk_Power_c E RD).mono ?_
      rintro v H1 ⟨rfl, rfl⟩
      simp -implicitDefEqProofs only [zB1,zB2,zB3,zB4,zB5,zB6,zB7,zB8,zB9,zB10,zB11,y00,y01,y02,y03,y04,y05,y06,y07,y08,y09,y0a,y0b,y0c,y0d,y0e,y0f,y0g,y0h,y0i,y0j,y0k,y0l,y0m,y0n,y0o,y0p,y0q,y0r,y0s,y0t,y0u,y0v,y0w,y0x,y0y,y0z,y10,y11,y12,y13,y14,y15,y16,y17,y18,y19,y1a,y1b,y1c,y1d,y1e,y1f,y1g,y1h,y1i,y1j,y1k,y1l,y1m,y1n,y1o,y1p,y1q,y1r,retO,retL,retV,z6i,allV,allP,z6j,z6m,z6n,z6t,z6u,z6v,binV,eqV,unV,oOpt,reduceIte,reduceCtorEq,Nat.reduceEqDiff,Nat.reduceAdd,Nat.reduceMul,Nat.reduceLT,Nat.reduceSub,Int.reduceLT,Int.reduceLE,Int.reduceEq,Int.reduceNe,Int.reduceSub,Int.reduceAdd,Int.reduceMul,Int.reduceBEq,Int.reduceBNe,Int.reduceGT,Int.reduceGE,Nat.reduceGT,Int.reduceToNat,Int.reduceNeg,Nat.reduceLeDiff,Nat.reduceBEq,Nat.reduceBneDiff,Value.cells, c7, f, c0, c1, on, Bool.false_or, Bool.true_or]
theorem journal_failed_c (E : EnvT tab) {κ : Pal} {H : Heap} {j d : Nat} {J : JF} (R : JouR κ H j d J) (e : Int) : ACallN E.toEnv n_journal_Journal_failed [ptrV j, .int .i64 e] H fun r H' => r = .int .i64 e ∧ Ext (jouC j) κ H κ H' ∧ JouR κ H' j d { J with full := true } := by
  obtain ⟨vb, vr, rs, R⟩ := R
  refine acall h_journal_Journal_failed ir_journal_Journal_failed rfl rfl (wpA_sound ?_)
  unfold ir_journal_Journal_failed
  have st : storeV H 1 (.pointer (some ⟨j, 7, none⟩)) (.bool true) = some (H.set j (.own 0 [ptrV d, .int .i64 J.lives, .int .u64 (J.turn : Nat), .int .i64 (J.part : Nat), .bool J.written, vb, vr, .bool true] 8)) := storeV_one_at R.2.1 rfl (by simp) (by simp)
  simp -implicitDefEqProofs only [zB1,zB2,zB3,zB4,zB5,zB6,zB7,zB8,zB9,zB10,zB11,y00,y01,y02,y03,y04,y05,y06,y07,y08,y09,y0a,y0b,y0c,y0d,y0e,y0f,y0g,y0h,y0i,y0j,y0k,y0l,y0m,y0n,y0o,y0p,y0q,y0r,y0s,y0t,y0u,y0v,y0w,y0x,y0y,y0z,y10,y11,y12,y13,y14,y15,y16,y17,y18,y19,y1a,y1b,y1c,y1d,y1e,y1f,y1g,y1h,y1i,y1j,y1k,y1l,y1m,y1n,y1o,y1p,y1q,y1r,retO,retL,retV,z6i,allV,allP,z6j,z6m,z6n,z6t,z6u,z6v,binV,eqV,unV,oOpt,reduceIte,reduceCtorEq,Nat.reduceEqDiff,Nat.reduceAdd,Nat.reduceMul,Nat.reduceLT,Nat.reduceSub,Int.reduceLT,Int.reduceLE,Int.reduceEq,Int.reduceNe,Int.reduceSub,Int.reduceAdd,Int.reduceMul,Int.reduceBEq,Int.reduceBNe,Int.reduceGT,Int.reduceGE,Nat.reduceGT,Int.reduceToNat,Int.reduceNeg,Nat.reduceLeDiff,Nat.reduceBEq,Nat.reduceBneDiff,Value.cells, st]
  exact ⟨R.put_ext _, vb, vr, rs, R.put J.turn J.part J.written true⟩
theorem journal_Base_c (E : EnvT tab) {κ : Pal} {H : Heap} {j d : Nat} {J : JF} (R : JouR κ H j d J) (hb : J.base.length ≤ 1000000) : ACallN E.toEnv n_journal_Journal_Base [ptrV j] H fun r H' => H.le H' ∧ OwB H H' r J.base := by
  obtain ⟨vb, vr, rs, k, q, s1, -⟩ := R
  refine acall h_journal_Journal_Base ir_journal_Journal_Base rfl rfl (wpA_sound ?_)
  unfold ir_journal_Journal_Base
  have c5 : hcell H ⟨j, 5, none⟩ = some vb := by rw [hcell_at q (by simp)]; rfl
  simp -implicitDefEqProofs only [zB1,zB2,zB3,zB4,zB5,zB6,zB7,zB8,zB9,zB10,zB11,y00,y01,y02,y03,y04,y05,y06,y07,y08,y09,y0a,y0b,y0c,y0d,y0e,y0f,y0g,y0h,y0i,y0j,y0k,y0l,y0m,y0n,y0o,y0p,y0q,y0r,y0s,y0t,y0u,y0v,y0w,y0x,y0y,y0z,y10,y11,y12,y13,y14,y15,y16,y17,y18,y19,y1a,y1b,y1c,y1d,y1e,y1f,y1g,y1h,y1i,y1j,y1k,y1l,y1m,y1n,y1o,y1p,y1q,y1r,retO,retL,retV,z6i,allV,allP,z6j,z6m,z6n,z6t,z6u,z6v,binV,eqV,unV,oOpt,reduceIte,reduceCtorEq,Nat.reduceEqDiff,Nat.reduceAdd,Nat.reduceMul,Nat.reduceLT,Nat.reduceSub,Int.reduceLT,Int.reduceLE,Int.reduceEq,Int.reduceNe,Int.reduceSub,Int.reduceAdd,Int.reduceMul,Int.reduceBEq,Int.reduceBNe,Int.reduceGT,Int.reduceGE,Nat.reduceGT,Int.reduceToNat,Int.reduceNeg,Nat.reduceLeDiff,Nat.reduceBEq,Nat.reduceBneDiff,Value.cells, c5]
  refine (bytes_Clone_c E H J.base (by omega) s1.sl).mono ?_
  rintro v H1 ⟨le, o⟩
  simp -implicitDefEqProofs only [zB1,zB2,zB3,zB4,zB5,zB6,zB7,zB8,zB9,zB10,zB11,y00,y01,y02,y03,y04,y05,y06,y07,y08,y09,y0a,y0b,y0c,y0d,y0e,y0f,y0g,y0h,y0i,y0j,y0k,y0l,y0m,y0n,y0o,y0p,y0q,y0r,y0s,y0t,y0u,y0v,y0w,y0x,y0y,y0z,y10,y11,y12,y13,y14,y15,y16,y17,y18,y19,y1a,y1b,y1c,y1d,y1e,y1f,y1g,y1h,y1i,y1j,y1k,y1l,y1m,y1n,y1o,y1p,y1q,y1r,retO,retL,retV,z6i,allV,allP,z6j,z6m,z6n,z6t,z6u,z6v,binV,eqV,unV,oOpt,reduceIte,reduceCtorEq,Nat.reduceEqDiff,Nat.reduceAdd,Nat.reduceMul,Nat.reduceLT,Nat.reduceSub,Int.reduceLT,Int.reduceLE,Int.reduceEq,Int.reduceNe,Int.reduceSub,Int.reduceAdd,Int.reduceMul,Int.reduceBEq,Int.reduceBNe,Int.reduceGT,Int.reduceGE,Nat.reduceGT,Int.reduceToNat,Int.reduceNeg,Nat.reduceLeDiff,Nat.reduceBEq,Nat.reduceBneDiff,Value.cells]
  exact ⟨le, o⟩
def syncJ (J : JF) (D : DiskF) : DiskF × Nat := if doneF J D then (D, 7) else if J.written then syncF D (nameF J.turn J.part) else (D, 0)
theorem journal_Sync_c (E : EnvT tab) {κ : Pal} {H : Heap} {j d : Nat} {J : JF} {D : DiskF} (R : JouR κ H j d J) (RD : DiskR κ H d D) (ne : d ≠ j) (ok : D.ok) (ht : J.turn < 64) (hp : J.part < 64) :
    ACallN E.toEnv n_journal_Journal_Sync [ptrV j] H fun r H' => r = .int .i64 ((syncJ J D).2 : Nat) ∧ ∃ κ', Ext (diskC d) κ H κ' H' ∧ JouR κ' H' j d J ∧ DiskR κ' H' d (syncJ J D).1 := by
  have R0 := R
  obtain ⟨vb, vr, rs, k, q, -⟩ := R
  refine acall h_journal_Journal_Sync ir_journal_Journal_Sync rfl rfl (wpA_sound ?_)
  unfold ir_journal_Journal_Sync
  have c0 : ∀ G, H.le G → hcell G ⟨j, 0, none⟩ = some (ptrV d) := fun G x => by rw [hcell_at (x _ _ q) (by simp)]; rfl
  have c2 : hcell H ⟨j, 2, none⟩ = some (.int .u64 (J.turn : Nat)) := by rw [hcell_at q (by simp)]; rfl
  have c3 : hcell H ⟨j, 3, none⟩ = some (.int .i64 (J.part : Nat)) := by rw [hcell_at q (by simp)]; rfl
  have c4 : hcell H ⟨j, 4, none⟩ = some (.bool J.written) := by rw [hcell_at q (by simp)]; rfl
  simp -implicitDefEqProofs only [zB1,zB2,zB3,zB4,zB5,zB6,zB7,zB8,zB9,zB10,zB11,y00,y01,y02,y03,y04,y05,y06,y07,y08,y09,y0a,y0b,y0c,y0d,y0e,y0f,y0g,y0h,y0i,y0j,y0k,y0l,y0m,y0n,y0o,y0p,y0q,y0r,y0s,y0t,y0u,y0v,y0w,y0x,y0y,y0z,y10,y11,y12,y13,y14,y15,y16,y17,y18,y19,y1a,y1b,y1c,y1d,y1e,y1f,y1g,y1h,y1i,y1j,y1k,y1l,y1m,y1n,y1o,y1p,y1q,y1r,retO,retL,retV,z6i,allV,allP,z6j,z6m,z6n,z6t,z6u,z6v,binV,eqV,unV,oOpt,reduceIte,reduceCtorEq,Nat.reduceEqDiff,Nat.reduceAdd,Nat.reduceMul,Nat.reduceLT,Nat.reduceSub,Int.reduceLT,Int.reduceLE,Int.reduceEq,Int.reduceNe,Int.reduceSub,Int.reduceAdd,Int.reduceMul,Int.reduceBEq,Int.reduceBNe,Int.reduceGT,Int.reduceGE,Nat.reduceGT,Int.reduceToNat,Int.reduceNeg,Nat.reduceLeDiff,Nat.reduceBEq,Nat.reduceBneDiff,Value.cells]
  refine (journal_Done_c E R0 RD).mono ?_
  rintro v H1 ⟨rfl, rfl⟩
  unfold syncJ
  by_cases dn : doneF J D = true
  · simp -implicitDefEqProofs only [zB1,zB2,zB3,zB4,zB5,zB6,zB7,zB8,zB9,zB10,zB11,y00,y01,y02,y03,y04,y05,y06,y07,y08,y09,y0a,y0b,y0c,y0d,y0e,y0f,y0g,y0h,y0i,y0j,y0k,y0l,y0m,y0n,y0o,y0p,y0q,y0r,y0s,y0t,y0u,y0v,y0w,y0x,y0y,y0z,y10,y11,y12,y13,y14,y15,y16,y17,y18,y19,y1a,y1b,y1c,y1d,y1e,y1f,y1g,y1h,y1i,y1j,y1k,y1l,y1m,y1n,y1o,y1p,y1q,y1r,retO,retL,retV,z6i,allV,allP,z6j,z6m,z6n,z6t,z6u,z6v,binV,eqV,unV,oOpt,reduceIte,reduceCtorEq,Nat.reduceEqDiff,Nat.reduceAdd,Nat.reduceMul,Nat.reduceLT,Nat.reduceSub,Int.reduceLT,Int.reduceLE,Int.reduceEq,Int.reduceNe,Int.reduceSub,Int.reduceAdd,Int.reduceMul,Int.reduceBEq,Int.reduceBNe,Int.reduceGT,Int.reduceGE,Nat.reduceGT,Int.reduceToNat,Int.reduceNeg,Nat.reduceLeDiff,Nat.reduceBEq,Nat.reduceBneDiff,Value.cells, dn]
    exact ⟨κ, Ext.refl _ _ _, R0, RD⟩
  · by_cases w : J.written = true
    · simp -implicitDefEqProofs only [zB1,zB2,zB3,zB4,zB5,zB6,zB7,zB8,zB9,zB10,zB11,y00,y01,y02,y03,y04,y05,y06,y07,y08,y09,y0a,y0b,y0c,y0d,y0e,y0f,y0g,y0h,y0i,y0j,y0k,y0l,y0m,y0n,y0o,y0p,y0q,y0r,y0s,y0t,y0u,y0v,y0w,y0x,y0y,y0z,y10,y11,y12,y13,y14,y15,y16,y17,y18,y19,y1a,y1b,y1c,y1d,y1e,y1f,y1g,y1h,y1i,y1j,y1k,y1l,y1m,y1n,y1o,y1p,y1q,y1r,retO,retL,retV,z6i,allV,allP,z6j,z6m,z6n,z6t,z6u,z6v,binV,eqV,unV,oOpt,reduceIte,reduceCtorEq,Nat.reduceEqDiff,Nat.reduceAdd,Nat.reduceMul,Nat.reduceLT,Nat.reduceSub,Int.reduceLT,Int.reduceLE,Int.reduceEq,Int.reduceNe,Int.reduceSub,Int.reduceAdd,Int.reduceMul,Int.reduceBEq,Int.reduceBNe,Int.reduceGT,Int.reduceGE,Nat.reduceGT,Int.reduceToNat,Int.reduceNeg,Nat.reduceLeDiff,Nat.reduceBEq,Nat.reduceBneDiff,Value.cells, dn, c4, w, c2, c3]
      refine (journal_name_c E H1 J.turn J.part ht hp).mono ?_
      rintro v H2 ⟨le2, rfl⟩
      have c01 := c0 _ (Heap.le_refl _)
      have c02 := c0 _ le2
      simp -implicitDefEqProofs only [zB1,zB2,zB3,zB4,zB5,zB6,zB7,zB8,zB9,zB10,zB11,y00,y01,y02,y03,y04,y05,y06,y07,y08,y09,y0a,y0b,y0c,y0d,y0e,y0f,y0g,y0h,y0i,y0j,y0k,y0l,y0m,y0n,y0o,y0p,y0q,y0r,y0s,y0t,y0u,y0v,y0w,y0x,y0y,y0z,y10,y11,y12,y13,y14,y15,y16,y17,y18,y19,y1a,y1b,y1c,y1d,y1e,y1f,y1g,y1h,y1i,y1j,y1k,y1l,y1m,y1n,y1o,y1p,y1q,y1r,retO,retL,retV,z6i,allV,allP,z6j,z6m,z6n,z6t,z6u,z6v,binV,eqV,unV,oOpt,reduceIte,reduceCtorEq,Nat.reduceEqDiff,Nat.reduceAdd,Nat.reduceMul,Nat.reduceLT,Nat.reduceSub,Int.reduceLT,Int.reduceLE,Int.reduceEq,Int.reduceNe,Int.reduceSub,Int.reduceAdd,Int.reduceMul,Int.reduceBEq,Int.reduceBNe,Int.reduceGT,Int.reduceGE,Nat.reduceGT,Int.reduceToNat,Int.reduceNeg,Nat.reduceLeDiff,Nat.reduceBEq,Nat.reduceBneDiff,Value.cells, c01, c02, implies_true, List.mem_cons, List.not_mem_nil, List.mem_singleton, or_false, forall_eq, forall_eq_or_imp, and_self]
      refine (disk_Sync_c E (RD.le le2) ok (nameF J.turn J.part) (by have := name_good ht hp; unfold goodName at this; simp at this; omega)).mono ?_
      rintro v H3 ⟨rfl, κ', e3, R3⟩
      simp -implicitDefEqProofs only [zB1,zB2,zB3,zB4,zB5,zB6,zB7,zB8,zB9,zB10,zB11,y00,y01,y02,y03,y04,y05,y06,y07,y08,y09,y0a,y0b,y0c,y0d,y0e,y0f,y0g,y0h,y0i,y0j,y0k,y0l,y0m,y0n,y0o,y0p,y0q,y0r,y0s,y0t,y0u,y0v,y0w,y0x,y0y,y0z,y10,y11,y12,y13,y14,y15,y16,y17,y18,y19,y1a,y1b,y1c,y1d,y1e,y1f,y1g,y1h,y1i,y1j,y1k,y1l,y1m,y1n,y1o,y1p,y1q,y1r,retO,retL,retV,z6i,allV,allP,z6j,z6m,z6n,z6t,z6u,z6v,binV,eqV,unV,oOpt,reduceIte,reduceCtorEq,Nat.reduceEqDiff,Nat.reduceAdd,Nat.reduceMul,Nat.reduceLT,Nat.reduceSub,Int.reduceLT,Int.reduceLE,Int.reduceEq,Int.reduceNe,Int.reduceSub,Int.reduceAdd,Int.reduceMul,Int.reduceBEq,Int.reduceBNe,Int.reduceGT,Int.reduceGE,Nat.reduceGT,Int.reduceToNat,Int.reduceNeg,Nat.reduceLeDiff,Nat.reduceBEq,Nat.reduceBneDiff,Value.cells]
      exact ⟨κ', (Ext.le le2).trans e3, (R0.le le2).apart e3 ne, R3⟩
    · simp -implicitDefEqProofs only [zB1,zB2,zB3,zB4,zB5,zB6,zB7,zB8,zB9,zB10,zB11,y00,y01,y02,y03,y04,y05,y06,y07,y08,y09,y0a,y0b,y0c,y0d,y0e,y0f,y0g,y0h,y0i,y0j,y0k,y0l,y0m,y0n,y0o,y0p,y0q,y0r,y0s,y0t,y0u,y0v,y0w,y0x,y0y,y0z,y10,y11,y12,y13,y14,y15,y16,y17,y18,y19,y1a,y1b,y1c,y1d,y1e,y1f,y1g,y1h,y1i,y1j,y1k,y1l,y1m,y1n,y1o,y1p,y1q,y1r,retO,retL,retV,z6i,allV,allP,z6j,z6m,z6n,z6t,z6u,z6v,binV,eqV,unV,oOpt,reduceIte,reduceCtorEq,Nat.reduceEqDiff,Nat.reduceAdd,Nat.reduceMul,Nat.reduceLT,Nat.reduceSub,Int.reduceLT,Int.reduceLE,Int.reduceEq,Int.reduceNe,Int.reduceSub,Int.reduceAdd,Int.reduceMul,Int.reduceBEq,Int.reduceBNe,Int.reduceGT,Int.reduceGE,Nat.reduceGT,Int.reduceToNat,Int.reduceNeg,Nat.reduceLeDiff,Nat.reduceBEq,Nat.reduceBneDiff,Value.cells, dn, c4, w]
      exact ⟨κ, Ext.refl _ _ _, R0, RD⟩
end Go.Bb
/- Arguments: bytes and words. -/
namespace Go.Bb
set_option linter.unusedSimpArgs false
set_option linter.unusedVariables false

end Go.Bb
namespace Go.Bb
end Go.Bb
/- Rows of numbers of any kind, and what masks and shifts tell of them. -/
namespace Go.Bb
set_option linter.unusedSimpArgs false
set_option linter.unusedVariables false

section
variable {k : IntKind} {f g : Nat → Nat} {n : Nat}
end
end Go.Bb
/- Arguments: slices of slices of bytes, texts. -/
namespace Go.Bb
set_option linter.unusedSimpArgs false
set_option linter.unusedVariables false

/-- A part of what is read, at its place. -/
theorem SlL.part {h : Heap} {base : Option Addr} {c : Nat} {L : List (List UInt8)} (s : SlL h (.slice base L.length c) L) (i : Nat) (hi : i < L.length) :
    ∃ b o u bi ci, base = some ⟨b, o, none⟩ ∧ u = .slice bi L[i].length ci ∧ SlB h u L[i] ∧ ∀ H, h.le H → hcell H ⟨b, o + i, none⟩ = some u := by
  obtain ⟨vs, hvs, sl, el⟩ := s
  obtain ⟨b, o, c', hv, hc, hcl⟩ := sl.ptr (by omega) (by omega)
  simp only [Value.slice.injEq, true_and] at hv
  obtain ⟨rfl, rfl⟩ := hv
  rw [Nat.mul_one] at hcl
  obtain ⟨bi, ci, e⟩ := Sl.shape (el i (by omega) hi)
  refine ⟨b, o, vs[i]'(by omega), bi, ci, rfl, e, el i (by omega) hi, fun H hH => ?_⟩
  rw [hcell_of (hcells_le hH hcl) i hi]; simp [hvs, hi]
theorem SlL.shape {h : Heap} {v : Value} {L : List (List UInt8)} (s : SlL h v L) : ∃ base c, v = .slice base L.length c := by
  obtain ⟨vs, hvs, sl, el⟩ := s
  exact Sl.shape sl
theorem SlL.lit1 {H : Heap} {b : Nat} (hb : H b = none) {u : Value} {l : List UInt8} (s : SlB H u l) : SlL (H.set b (.own 0 [u] 1)) (.slice (some ⟨b, 0, none⟩) 1 1) [l] := by
  refine ⟨[u], rfl, Sl.lit (n := 1) rfl, ?_⟩
  intro i x y
  match i, x, y with
  | 0, _, _ => exact Sl.le (Heap.le_new (Heap.le_refl _) hb _) s
theorem SlL.lit2 {H : Heap} {b : Nat} (hb : H b = none) {u v : Value} {l m : List UInt8} (s : SlB H u l) (t : SlB H v m) : SlL (H.set b (.own 0 [u, v] 2)) (.slice (some ⟨b, 0, none⟩) 2 2) [l, m] := by
  refine ⟨[u, v], rfl, Sl.lit (n := 2) rfl, ?_⟩
  intro i x y
  match i, x, y with
  | 0, _, _ => exact Sl.le (Heap.le_new (Heap.le_refl _) hb _) s
  | 1, _, _ => exact Sl.le (Heap.le_new (Heap.le_refl _) hb _) t
end Go.Bb
/- Contracts: all records of a journal; records more. -/
namespace Go.Bb
set_option linter.unusedSimpArgs false
set_option linter.unusedVariables false
set_option maxRecDepth 20000
set_option maxHeartbeats 2000000

theorem SlL.at' {h : Heap} {base : Option Addr} {c : Nat} {L : List (List UInt8)} (s : SlL h (.slice base L.length c) L) (i : Nat) (hi : i < L.length) :
    ∃ b o bi ci, base = some ⟨b, o, none⟩ ∧ SlB h (.slice bi L[i].length ci) L[i] ∧ ∀ H, h.le H → hcell H ⟨b, o + i, none⟩ = some (.slice bi L[i].length ci) := by
  obtain ⟨vs, hv, sl, el⟩ := s
  obtain ⟨b, o, c', e, hc, hcl⟩ := sl.ptr (by omega) (by omega)
  simp only [Value.slice.injEq, true_and] at e
  have si := el i (by omega) hi
  obtain ⟨bi, ci, ei⟩ := Sl.shape si
  rw [ei] at si
  refine ⟨b, o, bi, ci, e.1, si, fun H le => ?_⟩
  rw [Nat.mul_one] at hcl
  rw [hcell_of (hcells_le le hcl) i hi, List.getElem?_eq_getElem (by omega), ei]
/-- New rows, each by itself: colours of their own. -/
def NewL (H H' : Heap) (κ : Pal) (v : Value) (L : List (List UInt8)) : Prop :=
  (∀ b, H b ≠ none → κ b = none) ∧ ∃ vs : List Value, OwK κ (0, 0, 12) H' 1 v L.length vs ∧ vs.length = L.length ∧ ∀ i (h1 : i < vs.length) (h2 : i < L.length), OwK κ (0, i, 11) H' 1 vs[i] L[i].length (L[i].map u8V)
theorem NewL.sl {H H' : Heap} {κ : Pal} {v : Value} {L : List (List UInt8)} (n : NewL H H' κ v L) : SlL H' v L := by
  obtain ⟨-, vs, s, l, e⟩ := n
  exact ⟨vs, l, s.sl, fun i h1 h2 => (e i h1 h2).sl⟩
theorem journal_All_c (E : EnvT tab) {κ : Pal} {H : Heap} {j d : Nat} {J : JF} (R : JouR κ H j d J) (hl : J.recs.length ≤ 100000) (hb : ∀ l ∈ J.recs, l.length ≤ 1000000) :
    ACallN E.toEnv n_journal_Journal_All [ptrV j] H fun r H' => H.le H' ∧ ∃ κ', NewL H H' κ' r J.recs := by
  obtain ⟨vb, vr, rs, k, q, s1, s2, lr, s3⟩ := R
  have sL : SlL H vr J.recs := ⟨rs, lr, s2.sl, fun i h1 h2 => (s3 i h1 h2).sl⟩
  obtain ⟨rb, rc, rfl⟩ := sL.shape
  refine acall h_journal_Journal_All ir_journal_Journal_All rfl rfl (wpA_sound ?_)
  unfold ir_journal_Journal_All
  have c6 : hcell H ⟨j, 6, none⟩ = some (.slice rb J.recs.length rc) := by rw [hcell_at q (by simp)]; rfl
  simp -implicitDefEqProofs only [zB1,zB2,zB3,zB4,zB5,zB6,zB7,zB8,zB9,zB10,zB11,y00,y01,y02,y03,y04,y05,y06,y07,y08,y09,y0a,y0b,y0c,y0d,y0e,y0f,y0g,y0h,y0i,y0j,y0k,y0l,y0m,y0n,y0o,y0p,y0q,y0r,y0s,y0t,y0u,y0v,y0w,y0x,y0y,y0z,y10,y11,y12,y13,y14,y15,y16,y17,y18,y19,y1a,y1b,y1c,y1d,y1e,y1f,y1g,y1h,y1i,y1j,y1k,y1l,y1m,y1n,y1o,y1p,y1q,y1r,retO,retL,retV,z6i,allV,allP,z6j,z6m,z6n,z6t,z6u,z6v,binV,eqV,unV,oOpt,reduceIte,reduceCtorEq,Nat.reduceEqDiff,Nat.reduceAdd,Nat.reduceMul,Nat.reduceLT,Nat.reduceSub,Int.reduceLT,Int.reduceLE,Int.reduceEq,Int.reduceNe,Int.reduceSub,Int.reduceAdd,Int.reduceMul,Int.reduceBEq,Int.reduceBNe,Int.reduceGT,Int.reduceGE,Nat.reduceGT,Int.reduceToNat,Int.reduceNeg,Nat.reduceLeDiff,Nat.reduceBEq,Nat.reduceBneDiff,Value.cells, c6]
  refine wp_loop' (fun m t G => ∃ (i : Nat) (acc : Value) (κ' : Pal), t = tl [(3, acc), (9, .slice rb J.recs.length rc), (10, .int .i64 J.recs.length), (11, .int .i64 i)] ∧ i ≤ J.recs.length ∧ m = J.recs.length - i ∧ H.le G ∧ NewL H G κ' acc (J.recs.take i)) J.recs.length
    ⟨0, .slice none 0 0, fun _ => none, rfl, by omega, by omega, Heap.le_refl _, fun _ _ => rfl, [], Ow.nil _ _ _, by simp, fun i h1 => by simp at h1⟩ ?_
  rintro m t G ⟨i, acc, κ', rfl, hi, rfl, leG, N⟩
  by_cases hlt : i < J.recs.length
  · have hi1 : (i : Int) < J.recs.length := by omega
    have hi2 : (0 : Int) ≤ i := by omega
    have w1 : IntKind.i64.wrap ((i : Int) + 1) = ((i + 1 : Nat) : Int) := wrapN (by omega)
    obtain ⟨b, o, bi, ci, rfl, si, ciH⟩ := sL.at' i hlt
    have c1 := ciH G leG
    have hbi := hb _ (List.getElem_mem hlt)
    simp -implicitDefEqProofs only [zB1,zB2,zB3,zB4,zB5,zB6,zB7,zB8,zB9,zB10,zB11,y00,y01,y02,y03,y04,y05,y06,y07,y08,y09,y0a,y0b,y0c,y0d,y0e,y0f,y0g,y0h,y0i,y0j,y0k,y0l,y0m,y0n,y0o,y0p,y0q,y0r,y0s,y0t,y0u,y0v,y0w,y0x,y0y,y0z,y10,y11,y12,y13,y14,y15,y16,y17,y18,y19,y1a,y1b,y1c,y1d,y1e,y1f,y1g,y1h,y1i,y1j,y1k,y1l,y1m,y1n,y1o,y1p,y1q,y1r,retO,retL,retV,z6i,allV,allP,z6j,z6m,z6n,z6t,z6u,z6v,binV,eqV,unV,oOpt,reduceIte,reduceCtorEq,Nat.reduceEqDiff,Nat.reduceAdd,Nat.reduceMul,Nat.reduceLT,Nat.reduceSub,Int.reduceLT,Int.reduceLE,Int.reduceEq,Int.reduceNe,Int.reduceSub,Int.reduceAdd,Int.reduceMul,Int.reduceBEq,Int.reduceBNe,Int.reduceGT,Int.reduceGE,Nat.reduceGT,Int.reduceToNat,Int.reduceNeg,Nat.reduceLeDiff,Nat.reduceBEq,Nat.reduceBneDiff,Value.cells, hi1, hi2, Int.toNat_natCast, c1]
    refine (bytes_Clone_c E G J.recs[i] (by omega) (si.le leG)).mono ?_
    rintro wv G1 ⟨le1, o1⟩
    obtain ⟨hN, vs, sN, lN, eN⟩ := N
    have e1 : Ext (fun _ => False) κ' G (κ'.grow G (0, i, 11)) G1 := Ext.tint le1
    have ow1 : OwK (κ'.grow G (0, i, 11)) (0, i, 11) G1 1 wv J.recs[i].length (J.recs[i].map u8V) := OwK.tinted o1
    have hN1 : ∀ b, H b ≠ none → (κ'.grow G (0, i, 11)) b = none := by
      intro b hb
      unfold Pal.grow
      rw [if_neg, hN b hb]
      intro hn
      cases hH : H b with
      | none => exact hb hH
      | some x => rw [leG b x hH] at hn; cases hn
    have sN1 := e1.own (fun q => q) sN
    obtain ⟨wb, wc, rfl⟩ := Sl.shape o1.sl
    simp -implicitDefEqProofs only [zB1,zB2,zB3,zB4,zB5,zB6,zB7,zB8,zB9,zB10,zB11,y00,y01,y02,y03,y04,y05,y06,y07,y08,y09,y0a,y0b,y0c,y0d,y0e,y0f,y0g,y0h,y0i,y0j,y0k,y0l,y0m,y0n,y0o,y0p,y0q,y0r,y0s,y0t,y0u,y0v,y0w,y0x,y0y,y0z,y10,y11,y12,y13,y14,y15,y16,y17,y18,y19,y1a,y1b,y1c,y1d,y1e,y1f,y1g,y1h,y1i,y1j,y1k,y1l,y1m,y1n,y1o,y1p,y1q,y1r,retO,retL,retV,z6i,allV,allP,z6j,z6m,z6n,z6t,z6u,z6v,binV,eqV,unV,oOpt,reduceIte,reduceCtorEq,Nat.reduceEqDiff,Nat.reduceAdd,Nat.reduceMul,Nat.reduceLT,Nat.reduceSub,Int.reduceLT,Int.reduceLE,Int.reduceEq,Int.reduceNe,Int.reduceSub,Int.reduceAdd,Int.reduceMul,Int.reduceBEq,Int.reduceBNe,Int.reduceGT,Int.reduceGE,Nat.reduceGT,Int.reduceToNat,Int.reduceNeg,Nat.reduceLeDiff,Nat.reduceBEq,Nat.reduceBneDiff,Value.cells, List.length_replicate, List.drop_replicate, List.replicate_zero]
    intro b18 hb18
    try simp -implicitDefEqProofs only [zB1,zB2,zB3,zB4,zB5,zB6,zB7,zB8,zB9,zB10,zB11,y00,y01,y02,y03,y04,y05,y06,y07,y08,y09,y0a,y0b,y0c,y0d,y0e,y0f,y0g,y0h,y0i,y0j,y0k,y0l,y0m,y0n,y0o,y0p,y0q,y0r,y0s,y0t,y0u,y0v,y0w,y0x,y0y,y0z,y10,y11,y12,y13,y14,y15,y16,y17,y18,y19,y1a,y1b,y1c,y1d,y1e,y1f,y1g,y1h,y1i,y1j,y1k,y1l,y1m,y1n,y1o,y1p,y1q,y1r,retO,retL,retV,z6i,allV,allP,z6j,z6m,z6n,z6t,z6u,z6v,binV,eqV,unV,oOpt,reduceIte,reduceCtorEq,Nat.reduceEqDiff,Nat.reduceAdd,Nat.reduceMul,Nat.reduceLT,Nat.reduceSub,Int.reduceLT,Int.reduceLE,Int.reduceEq,Int.reduceNe,Int.reduceSub,Int.reduceAdd,Int.reduceMul,Int.reduceBEq,Int.reduceBNe,Int.reduceGT,Int.reduceGE,Nat.reduceGT,Int.reduceToNat,Int.reduceNeg,Nat.reduceLeDiff,Nat.reduceBEq,Nat.reduceBneDiff,Value.cells]
    have le2 := Heap.le_set (Heap.le_refl G1) hb18 (.own 0 [.slice wb J.recs[i].length wc] 1)
    have sx : Sl (G1.set b18 (.own 0 [.slice wb J.recs[i].length wc] 1)) 1 (.slice (some ⟨b18, 0, none⟩) 1 1) 1 [.slice wb J.recs[i].length wc] := Sl.lit rfl
    have le02 := Heap.le_trans leG (Heap.le_trans le1 le2)
    generalize (G1.set b18 (.own 0 [.slice wb J.recs[i].length wc] 1)) = G2 at le2 sx le02 ⊢
    have lT : (J.recs.take i).length = i := by rw [List.length_take]; omega
    refine appendP_ow (m := 1) (Heap.but_le G2 (κ'.grow G (0, i, 11)) (0, 0, 12)) (by omega) (OwK.le le2 sN1) sx rfl (by omega) (by omega) ?_
    intro v G3 o3 le3
    have e3 := Ext.grow le3
    have e12 : Ext (fun _ => False) (κ'.grow G (0, i, 11)) G1 (κ'.grow G (0, i, 11)) G2 := Ext.le le2
    simp -implicitDefEqProofs only [zB1,zB2,zB3,zB4,zB5,zB6,zB7,zB8,zB9,zB10,zB11,y00,y01,y02,y03,y04,y05,y06,y07,y08,y09,y0a,y0b,y0c,y0d,y0e,y0f,y0g,y0h,y0i,y0j,y0k,y0l,y0m,y0n,y0o,y0p,y0q,y0r,y0s,y0t,y0u,y0v,y0w,y0x,y0y,y0z,y10,y11,y12,y13,y14,y15,y16,y17,y18,y19,y1a,y1b,y1c,y1d,y1e,y1f,y1g,y1h,y1i,y1j,y1k,y1l,y1m,y1n,y1o,y1p,y1q,y1r,retO,retL,retV,z6i,allV,allP,z6j,z6m,z6n,z6t,z6u,z6v,binV,eqV,unV,oOpt,reduceIte,reduceCtorEq,Nat.reduceEqDiff,Nat.reduceAdd,Nat.reduceMul,Nat.reduceLT,Nat.reduceSub,Int.reduceLT,Int.reduceLE,Int.reduceEq,Int.reduceNe,Int.reduceSub,Int.reduceAdd,Int.reduceMul,Int.reduceBEq,Int.reduceBNe,Int.reduceGT,Int.reduceGE,Nat.reduceGT,Int.reduceToNat,Int.reduceNeg,Nat.reduceLeDiff,Nat.reduceBEq,Nat.reduceBneDiff,Value.cells, w1]
    have hG2 : ∀ b, H b ≠ none → G2 b ≠ none := by
      intro b hb hn
      cases hH : H b with
      | none => exact hb hH
      | some x => rw [le02 b x hH] at hn; cases hn
    refine ⟨_, ?_, i + 1, v, (κ'.grow G (0, i, 11)).grow G2 (0, 0, 12), rfl, by omega, rfl, ?_, ?_, vs ++ [.slice wb J.recs[i].length wc], ?_, ?_, ?_⟩
    · omega
    · intro b x hx
      refine le3 b x (Heap.but_some (le02 b x hx) ?_)
      rw [hN1 b (by rw [hx]; simp)]
      simp
    · intro b hb
      unfold Pal.grow
      rw [if_neg (hG2 b hb)]
      exact hN1 b hb
    · have := OwK.grown o3
      have e : (J.recs.take (i + 1)).length = (J.recs.take i).length + 1 := by rw [List.length_take, List.length_take]; omega
      rw [e]
      exact this
    · simp [lN]; omega
    · intro k h1 h2
      have hk : k ≤ i := by simp at h2; omega
      refine e3.own (by simp) (e12.own (fun q => q) ?_)
      by_cases hki : k < i
      · have := eN k (by omega) (by omega)
        have g1 : (vs ++ [.slice wb J.recs[i].length wc])[k]'h1 = vs[k]'(by omega) := List.getElem_append_left (by omega)
        have g2 : (J.recs.take (i + 1))[k]'h2 = (J.recs.take i)[k]'(by omega) := by simp
        rw [g1, g2]
        exact e1.own (fun q => q) this
      · have : k = i := by omega
        subst this
        have g1 : (vs ++ [.slice wb J.recs[k].length wc])[k]'h1 = .slice wb J.recs[k].length wc := by
          rw [List.getElem_append_right (by omega)]; simp
        have g2 : (J.recs.take (k + 1))[k]'h2 = J.recs[k] := by simp
        rw [g1, g2]; exact ow1
  · have hi1 : ¬ (i : Int) < J.recs.length := by omega
    have e : i = J.recs.length := by omega
    subst e
    rw [List.take_length] at N
    simp -implicitDefEqProofs only [zB1,zB2,zB3,zB4,zB5,zB6,zB7,zB8,zB9,zB10,zB11,y00,y01,y02,y03,y04,y05,y06,y07,y08,y09,y0a,y0b,y0c,y0d,y0e,y0f,y0g,y0h,y0i,y0j,y0k,y0l,y0m,y0n,y0o,y0p,y0q,y0r,y0s,y0t,y0u,y0v,y0w,y0x,y0y,y0z,y10,y11,y12,y13,y14,y15,y16,y17,y18,y19,y1a,y1b,y1c,y1d,y1e,y1f,y1g,y1h,y1i,y1j,y1k,y1l,y1m,y1n,y1o,y1p,y1q,y1r,retO,retL,retV,z6i,allV,allP,z6j,z6m,z6n,z6t,z6u,z6v,binV,eqV,unV,oOpt,reduceIte,reduceCtorEq,Nat.reduceEqDiff,Nat.reduceAdd,Nat.reduceMul,Nat.reduceLT,Nat.reduceSub,Int.reduceLT,Int.reduceLE,Int.reduceEq,Int.reduceNe,Int.reduceSub,Int.reduceAdd,Int.reduceMul,Int.reduceBEq,Int.reduceBNe,Int.reduceGT,Int.reduceGE,Nat.reduceGT,Int.reduceToNat,Int.reduceNeg,Nat.reduceLeDiff,Nat.reduceBEq,Nat.reduceBneDiff,Value.cells, hi1]
    exact ⟨leG, κ', N⟩
end Go.Bb
/- Contracts: a disk that falls. -/
namespace Go.Bb
set_option linter.unusedSimpArgs false
set_option linter.unusedVariables false
set_option maxRecDepth 20000
set_option maxHeartbeats 2000000

theorem disk_Crash_c (E : EnvT tab) {κ : Pal} {H : Heap} {d : Nat} {D : DiskF} (R : DiskR κ H d D) (ok : D.ok) (keep : U64) (torn : Int) :
    ACallN E.toEnv n_disk_Disk_Crash [ptrV d, .int .u64 keep.toNat, .int .i64 torn] H fun v H' => ∃ κ', Ext (diskC d) κ H κ' H' ∧ DiskR κ' H' d (crashF D keep torn) := by
  obtain ⟨G, r, clk, V⟩ := R
  refine acall h_disk_Disk_Crash ir_disk_Disk_Crash rfl rfl (wpA_sound ?_)
  unfold ir_disk_Disk_Crash
  have c1 : hcell H ⟨d, 1, none⟩ = some (.map (some r)) := by rw [hcell_at V.qd (by simp)]; rfl
  have ma : mapAt H r = some ((G.map GFile.e).toArray, clk) := by simp [mapAt, V.qr]
  simp -implicitDefEqProofs only [zB1,zB2,zB3,zB4,zB5,zB6,zB7,zB8,zB9,zB10,zB11,y00,y01,y02,y03,y04,y05,y06,y07,y08,y09,y0a,y0b,y0c,y0d,y0e,y0f,y0g,y0h,y0i,y0j,y0k,y0l,y0m,y0n,y0o,y0p,y0q,y0r,y0s,y0t,y0u,y0v,y0w,y0x,y0y,y0z,y10,y11,y12,y13,y14,y15,y16,y17,y18,y19,y1a,y1b,y1c,y1d,y1e,y1f,y1g,y1h,y1i,y1j,y1k,y1l,y1m,y1n,y1o,y1p,y1q,y1r,retO,retL,retV,z6i,allV,allP,z6j,z6m,z6n,z6t,z6u,z6v,binV,eqV,unV,oOpt,reduceIte,reduceCtorEq,Nat.reduceEqDiff,Nat.reduceAdd,Nat.reduceMul,Nat.reduceLT,Nat.reduceSub,Int.reduceLT,Int.reduceLE,Int.reduceEq,Int.reduceNe,Int.reduceSub,Int.reduceAdd,Int.reduceMul,Int.reduceBEq,Int.reduceBNe,Int.reduceGT,Int.reduceGE,Nat.reduceGT,Int.reduceToNat,Int.reduceNeg,Nat.reduceLeDiff,Nat.reduceBEq,Nat.reduceBneDiff,Value.cells, c1]
  refine rangeP_map ma ?_
  intro b hb
  have e0 : Ext (fun _ => False) κ H (fun i => if i = b then some (d, d, 6) else κ i) (H.set b (.obj (.mapIter (some r) clk #[] clk))) := Ext.new hb _ _
  have kb : (fun i => if i = b then some (d, d, 6) else κ i) b = some (d, d, 6) := by simp
  have qb : (H.set b (.obj (.mapIter (some r) clk #[] clk))) b = some (.obj (.mapIter (some r) clk #[] clk)) := Heap.set_self _ _ _
  have V1 := V.ext e0 (fun _ _ q => q)
  simp -implicitDefEqProofs only [zB1,zB2,zB3,zB4,zB5,zB6,zB7,zB8,zB9,zB10,zB11,y00,y01,y02,y03,y04,y05,y06,y07,y08,y09,y0a,y0b,y0c,y0d,y0e,y0f,y0g,y0h,y0i,y0j,y0k,y0l,y0m,y0n,y0o,y0p,y0q,y0r,y0s,y0t,y0u,y0v,y0w,y0x,y0y,y0z,y10,y11,y12,y13,y14,y15,y16,y17,y18,y19,y1a,y1b,y1c,y1d,y1e,y1f,y1g,y1h,y1i,y1j,y1k,y1l,y1m,y1n,y1o,y1p,y1q,y1r,retO,retL,retV,z6i,allV,allP,z6j,z6m,z6n,z6t,z6u,z6v,binV,eqV,unV,oOpt,reduceIte,reduceCtorEq,Nat.reduceEqDiff,Nat.reduceAdd,Nat.reduceMul,Nat.reduceLT,Nat.reduceSub,Int.reduceLT,Int.reduceLE,Int.reduceEq,Int.reduceNe,Int.reduceSub,Int.reduceAdd,Int.reduceMul,Int.reduceBEq,Int.reduceBNe,Int.reduceGT,Int.reduceGE,Nat.reduceGT,Int.reduceToNat,Int.reduceNeg,Nat.reduceLeDiff,Nat.reduceBEq,Nat.reduceBneDiff,Value.cells]
  generalize (H.set b (.obj (.mapIter (some r) clk #[] clk))) = H1 at e0 qb V1 ⊢
  generalize (fun i => if i = b then some (d, d, 6) else κ i) = κ1 at e0 kb V1
  refine wp_loop' (fun m t K => ∃ (done rest : List GFile) (κ' : Pal), (done ++ rest).Perm G ∧ t = tl [(0, ptrV d), (1, .int .u64 keep.toNat), (2, .int .i64 torn), (12, ptrV b)] ∧ m = rest.length ∧ Ext (fun c => c.1 = d ∧ ¬ (c.2.2 = 4 ∨ c.2.2 = 5)) κ1 H1 κ' K ∧
      κ' b = some (d, d, 6) ∧ K b = some (.obj (.mapIter (some r) clk (done.map (·.born)).toArray clk)) ∧ (∀ g ∈ done, FileR κ' K d g.f (g.F.crash keep torn)) ∧ (∀ g ∈ rest, FileR κ' K d g.f g.F)) G.length
    ⟨[], G, κ1, List.Perm.refl _, rfl, rfl, Ext.refl _ _ _, kb, qb, by simp, V1.R⟩ ?_
  rintro m t K ⟨done, rest, κ', hp, rfl, rfl, eK, kbK, qbK, R1, R2⟩
  obtain ⟨qr, kr⟩ := eK.blk V1.kr (fun q => q.2 (.inr rfl)) V1.qr
  obtain ⟨qd, kd⟩ := eK.blk V1.kd (fun q => q.2 (.inl rfl)) V1.qd
  have maK : mapAt K r = some ((G.map GFile.e).toArray, clk) := by simp [mapAt, qr]
  simp -implicitDefEqProofs only [zB1,zB2,zB3,zB4,zB5,zB6,zB7,zB8,zB9,zB10,zB11,y00,y01,y02,y03,y04,y05,y06,y07,y08,y09,y0a,y0b,y0c,y0d,y0e,y0f,y0g,y0h,y0i,y0j,y0k,y0l,y0m,y0n,y0o,y0p,y0q,y0r,y0s,y0t,y0u,y0v,y0w,y0x,y0y,y0z,y10,y11,y12,y13,y14,y15,y16,y17,y18,y19,y1a,y1b,y1c,y1d,y1e,y1f,y1g,y1h,y1i,y1j,y1k,y1l,y1m,y1n,y1o,y1p,y1q,y1r,retO,retL,retV,z6i,allV,allP,z6j,z6m,z6n,z6t,z6u,z6v,binV,eqV,unV,oOpt,reduceIte,reduceCtorEq,Nat.reduceEqDiff,Nat.reduceAdd,Nat.reduceMul,Nat.reduceLT,Nat.reduceSub,Int.reduceLT,Int.reduceLE,Int.reduceEq,Int.reduceNe,Int.reduceSub,Int.reduceAdd,Int.reduceMul,Int.reduceBEq,Int.reduceBNe,Int.reduceGT,Int.reduceGE,Nat.reduceGT,Int.reduceToNat,Int.reduceNeg,Nat.reduceLeDiff,Nat.reduceBEq,Nat.reduceBneDiff,Value.cells]
  refine nextP_map qbK maK (born_lt V.lb) (Nat.le_refl _) ?_ ?_
  · intro h0
    have := left_none hp V.nb h0
    subst this
    rw [List.append_nil] at hp
    have st : storeV K 1 (.pointer (some ⟨d, 2, none⟩)) (.bool false) = some (K.set d (.own 0 [.int .i64 D.room, .map (some r), .bool false, .int .i64 D.lives] 4)) := storeV_one_at qd rfl (by simp) (by simp)
    simp -implicitDefEqProofs only [zB1,zB2,zB3,zB4,zB5,zB6,zB7,zB8,zB9,zB10,zB11,y00,y01,y02,y03,y04,y05,y06,y07,y08,y09,y0a,y0b,y0c,y0d,y0e,y0f,y0g,y0h,y0i,y0j,y0k,y0l,y0m,y0n,y0o,y0p,y0q,y0r,y0s,y0t,y0u,y0v,y0w,y0x,y0y,y0z,y10,y11,y12,y13,y14,y15,y16,y17,y18,y19,y1a,y1b,y1c,y1d,y1e,y1f,y1g,y1h,y1i,y1j,y1k,y1l,y1m,y1n,y1o,y1p,y1q,y1r,retO,retL,retV,z6i,allV,allP,z6j,z6m,z6n,z6t,z6u,z6v,binV,eqV,unV,oOpt,reduceIte,reduceCtorEq,Nat.reduceEqDiff,Nat.reduceAdd,Nat.reduceMul,Nat.reduceLT,Nat.reduceSub,Int.reduceLT,Int.reduceLE,Int.reduceEq,Int.reduceNe,Int.reduceSub,Int.reduceAdd,Int.reduceMul,Int.reduceBEq,Int.reduceBNe,Int.reduceGT,Int.reduceGE,Nat.reduceGT,Int.reduceToNat,Int.reduceNeg,Nat.reduceLeDiff,Nat.reduceBEq,Nat.reduceBneDiff,Value.cells, st]
    have V2 : DiskV κ' K d { D with files := nF (G.map fun g => { g with F := g.F.crash keep torn }) } (G.map fun g => { g with F := g.F.crash keep torn }) r clk := by
      refine ⟨kd, qd, kr, ?_, rfl, ?_, ?_, ?_, ?_, ?_⟩
      · rw [qr, List.map_map]; rfl
      · rw [List.map_map]; exact V.nf
      · rw [List.map_map]; exact V.nn
      · rw [List.map_map]; exact V.nb
      · intro g hg
        obtain ⟨x, hx, rfl⟩ := List.mem_map.1 hg
        exact V.lb x hx
      · intro g hg
        obtain ⟨x, hx, rfl⟩ := List.mem_map.1 hg
        exact R1 x (hp.mem_iff.2 hx)
    have V3 := V2.set_d false D.lives
    refine ⟨κ', ((e0.mono fun c h => h.elim).trans (eK.mono fun c h => h.1)).trans (ext_d (Ext.set kd _)), G.map (fun g => { g with F := g.F.crash keep torn }), r, clk, ?_⟩
    have ef : nF (G.map fun g => { g with F := g.F.crash keep torn }) = D.files.map fun x => (x.1, x.2.crash keep torn) := by
      rw [V.files, nF, List.map_map, List.map_map]; rfl
    unfold crashF
    rw [← ef]
    exact V3
  · intro e he
    obtain ⟨A, g, B, rfl, rfl⟩ := left_mem hp V.nb he
    have hg : g ∈ G := hp.mem_iff.1 (by simp)
    rw [seen_push]
    have e1 := Ext.set (H := K) kbK (.obj (.mapIter (some r) clk ((done ++ [g]).map (·.born)).toArray clk))
    have qb1 : (K.set b (.obj (.mapIter (some r) clk ((done ++ [g]).map (·.born)).toArray clk))) b = some (.obj (.mapIter (some r) clk ((done ++ [g]).map (·.born)).toArray clk)) := Heap.set_self _ _ _
    generalize (K.set b (.obj (.mapIter (some r) clk ((done ++ [g]).map (·.born)).toArray clk))) = K1 at e1 qb1 ⊢
    have eK1 := eK.trans (e1.mono (ds := fun c => c.1 = d ∧ ¬ (c.2.2 = 4 ∨ c.2.2 = 5)) fun c h => by subst h; simp)
    obtain ⟨qr1, kr1⟩ := e1.blk kr (by simp) qr
    have maK1 : mapAt K1 r = some ((G.map GFile.e).toArray, clk) := by simp [mapAt, qr1]
    have en : entryV K1 (.pointer (some ⟨b, 0, none⟩)) = some (.tuple #[g.e.key, g.e.val]) := by
      refine entryV_map (en := g.e) (c0 := clk) (m := r) (since := clk) (seen := (done.map (·.born)).toArray) ?_ maK1 (by simpa using List.mem_map_of_mem hg) (born_nd V.nb)
      rw [qb1, seen_push]
    simp -implicitDefEqProofs only [zB1,zB2,zB3,zB4,zB5,zB6,zB7,zB8,zB9,zB10,zB11,y00,y01,y02,y03,y04,y05,y06,y07,y08,y09,y0a,y0b,y0c,y0d,y0e,y0f,y0g,y0h,y0i,y0j,y0k,y0l,y0m,y0n,y0o,y0p,y0q,y0r,y0s,y0t,y0u,y0v,y0w,y0x,y0y,y0z,y10,y11,y12,y13,y14,y15,y16,y17,y18,y19,y1a,y1b,y1c,y1d,y1e,y1f,y1g,y1h,y1i,y1j,y1k,y1l,y1m,y1n,y1o,y1p,y1q,y1r,retO,retL,retV,z6i,allV,allP,z6j,z6m,z6n,z6t,z6u,z6v,binV,eqV,unV,oOpt,reduceIte,reduceCtorEq,Nat.reduceEqDiff,Nat.reduceAdd,Nat.reduceMul,Nat.reduceLT,Nat.reduceSub,Int.reduceLT,Int.reduceLE,Int.reduceEq,Int.reduceNe,Int.reduceSub,Int.reduceAdd,Int.reduceMul,Int.reduceBEq,Int.reduceBNe,Int.reduceGT,Int.reduceGE,Nat.reduceGT,Int.reduceToNat,Int.reduceNeg,Nat.reduceLeDiff,Nat.reduceBEq,Nat.reduceBneDiff,Value.cells, en]
    have okg : g.F.ok := (ok.1 (g.name, g.F) (by rw [V.files]; exact List.mem_map_of_mem hg)).1
    have S1 : ∀ x F, FileR κ' K d x F → FileR κ' K1 d x F := fun x F h => h.ext e1 fun r hr q => by simp at q; omega
    refine (file_crash_c E (S1 _ _ (R2 g (by simp))) okg keep torn).mono ?_
    rintro v K2 ⟨κ2, e2, Rg⟩
    simp -implicitDefEqProofs only [zB1,zB2,zB3,zB4,zB5,zB6,zB7,zB8,zB9,zB10,zB11,y00,y01,y02,y03,y04,y05,y06,y07,y08,y09,y0a,y0b,y0c,y0d,y0e,y0f,y0g,y0h,y0i,y0j,y0k,y0l,y0m,y0n,y0o,y0p,y0q,y0r,y0s,y0t,y0u,y0v,y0w,y0x,y0y,y0z,y10,y11,y12,y13,y14,y15,y16,y17,y18,y19,y1a,y1b,y1c,y1d,y1e,y1f,y1g,y1h,y1i,y1j,y1k,y1l,y1m,y1n,y1o,y1p,y1q,y1r,retO,retL,retV,z6i,allV,allP,z6j,z6m,z6n,z6t,z6u,z6v,binV,eqV,unV,oOpt,reduceIte,reduceCtorEq,Nat.reduceEqDiff,Nat.reduceAdd,Nat.reduceMul,Nat.reduceLT,Nat.reduceSub,Int.reduceLT,Int.reduceLE,Int.reduceEq,Int.reduceNe,Int.reduceSub,Int.reduceAdd,Int.reduceMul,Int.reduceBEq,Int.reduceBNe,Int.reduceGT,Int.reduceGE,Nat.reduceGT,Int.reduceToNat,Int.reduceNeg,Nat.reduceLeDiff,Nat.reduceBEq,Nat.reduceBneDiff,Value.cells]
    have nfp : ((done ++ (A ++ g :: B)).map (·.f)).Nodup := (hp.map _).nodup_iff.2 V.nf
    have nfp2 : (((done ++ A) ++ g :: B).map (·.f)).Nodup := by rw [List.append_assoc]; exact nfp
    have nn := sub_new (·.f) nfp2
    obtain ⟨qb2, kb2⟩ := e2.blk (κ := κ') kbK (fun q => by have := q.2.2; simp at this) qb1
    have S2 : ∀ x ∈ (done ++ A) ++ B, ∀ F, FileR κ' K1 d x.f F → FileR κ2 K2 d x.f F := fun x hx F h => h.ext e2 fun r hr q => nn x hx q.2.1
    refine ⟨_, ?_, done ++ [g], A ++ B, κ2, perm_step hp, rfl, eK1.trans (e2.mono fun c h => ⟨h.1, by have := h.2.2; omega⟩), kb2, qb2, ?_, ?_⟩
    · simp
    · intro x hx
      rcases List.mem_append.1 hx with hx | hx
      · exact S2 x (by simp [hx]) _ (S1 _ _ (R1 x hx))
      · rw [List.mem_singleton] at hx; subst hx; exact Rg
    · intro x hx
      refine S2 x ?_ _ (S1 _ _ (R2 x (sub_mem hx)))
      rcases List.mem_append.1 hx with hx | hx <;> simp [hx]
end Go.Bb
/- Laws on disks: what all share. -/
namespace Go.Bb
set_option linter.unusedSimpArgs false
set_option linter.unusedVariables false
set_option maxRecDepth 100000
set_option maxHeartbeats 2000000

/-- What was there at first is there still, and has no colour. -/
def Base (h : Heap) (κ : Pal) (H : Heap) : Prop := ∀ b x, h b = some x → H b = some x ∧ κ b = none
theorem Base.start (h : Heap) : Base h (fun _ => none) h := fun b x q => ⟨q, rfl⟩
theorem Base.ext {h : Heap} {κ κ' : Pal} {H H' : Heap} {cs : Col → Prop} (B : Base h κ H) (e : Ext cs κ H κ' H') : Base h κ' H' := fun b x q => by
  obtain ⟨h1, h2⟩ := B b x q
  exact e.plain h2 h1
theorem Base.le {h : Heap} {κ : Pal} {H : Heap} (B : Base h κ H) : h.le H := fun b x q => (B b x q).1
theorem SlL.at {h : Heap} {base : Option Addr} {c : Nat} {L : List (List UInt8)} (s : SlL h (.slice base L.length c) L) (i : Nat) (hi : i < L.length) :
    ∃ b o bi ci, base = some ⟨b, o, none⟩ ∧ SlB h (.slice bi L[i].length ci) L[i] ∧ ∀ H, h.le H → hcell H ⟨b, o + i, none⟩ = some (.slice bi L[i].length ci) := by
  obtain ⟨vs, hv, sl, el⟩ := s
  obtain ⟨b, o, c', e, hc, hcl⟩ := sl.ptr (by omega) (by omega)
  simp only [Value.slice.injEq, true_and] at e
  have si := el i (by omega) hi
  obtain ⟨bi, ci, ei⟩ := Sl.shape si
  rw [ei] at si
  refine ⟨b, o, bi, ci, e.1, si, fun H le => ?_⟩
  rw [Nat.mul_one] at hcl
  rw [hcell_of (hcells_le le hcl) i hi, List.getElem?_eq_getElem (by omega), ei]
theorem size_le {L : Files} {x : List UInt8 × FileF} (h : x ∈ L) : x.2.size ≤ sizeF L := by
  induction L with
  | nil => cases h
  | cons y L ih =>
    simp only [sizeF, List.map_cons, List.sum_cons] at ih ⊢
    rcases List.mem_cons.1 h with rfl | h
    · omega
    · have := ih h; omega
theorem ask1 {D : DiskF} {s : List UInt8} (on : D.on = true) (g : goodName s = true) : askF D [s] = 0 := by
  unfold askF; rw [if_pos on, if_pos (by simp [g])]
end Go.Bb
/- Contracts: records added to a journal. -/
namespace Go.Bb
set_option linter.unusedSimpArgs false
set_option linter.unusedVariables false
set_option maxRecDepth 20000
set_option maxHeartbeats 2000000

/-- A disk that fits, of at most n writes a file. -/
def DiskF.okW (D : DiskF) (n : Nat) : Prop := (∀ x ∈ D.files, x.2.writes.length ≤ n ∧ x.1.length ≤ 20) ∧ (sizeF D.files : Int) ≤ D.room ∧ D.room ≤ 1048576
theorem DiskF.okW.ok {D : DiskF} {n : Nat} (h : D.okW n) (hn : n ≤ 100000) : D.ok := by
  obtain ⟨h1, h2, h3⟩ := h
  refine ⟨fun x hx => ⟨⟨by have := (h1 x hx).1; omega, ?_⟩, (h1 x hx).2⟩, by omega, h3, by omega⟩
  have := size_le hx
  unfold FileF.size at this
  omega
theorem DiskF.okW.mono {D : DiskF} {n m : Nat} (h : D.okW n) (hn : n ≤ m) : D.okW m := ⟨fun x hx => ⟨by have := (h.1 x hx).1; omega, (h.1 x hx).2⟩, h.2⟩
theorem size_snoc (A B : Files) : sizeF (A ++ B) = sizeF A + sizeF B := by simp [sizeF]
theorem turn_size {L : Files} {s : List UInt8} {F F' : FileF} {k : Nat} (nd : (L.map (·.1)).Nodup) (hl : lookF L s = some F) (hF : F'.size = F.size + k) : sizeF (turnF' L s F') = sizeF L + k := by
  induction L with
  | nil => simp [lookF] at hl
  | cons x L ih =>
    rw [List.map_cons, List.nodup_cons] at nd
    by_cases e : x.1 = s
    · subst e
      have : x.2 = F := by simpa [lookF] using hl
      subst this
      have hL : turnF' L x.1 F' = L := by
        unfold turnF'
        conv => rhs; rw [← List.map_id L]
        apply List.map_congr_left
        intro y hy
        rw [if_neg]
        · rfl
        · intro q; exact nd.1 (by rw [← q]; exact List.mem_map_of_mem hy)
      have : turnF' (x :: L) x.1 F' = (x.1, F') :: turnF' L x.1 F' := by simp [turnF']
      rw [this, hL]
      simp only [sizeF, List.map_cons, List.sum_cons, hF]
      omega
    · have hl' : lookF L s = some F := by
        simpa [lookF, List.find?_cons, e] using hl
      have h1 := ih nd.2 hl'
      have : turnF' (x :: L) s F' = x :: turnF' L s F' := by simp [turnF', e]
      rw [this]
      simp only [sizeF, List.map_cons, List.sum_cons] at h1 ⊢
      omega
/-- Names once each. -/
def DiskF.nd (D : DiskF) : Prop := (D.files.map (·.1)).Nodup
theorem DiskR.nd {κ : Pal} {H : Heap} {d : Nat} {D : DiskF} (R : DiskR κ H d D) : D.nd := by
  obtain ⟨G, r, clk, V⟩ := R
  unfold DiskF.nd
  rw [V.files, List.map_map]
  exact V.nn
theorem write_size (F : FileF) (b : List UInt8) : (writeF F b).size = F.size + b.length := by
  simp [FileF.size, FileF.all, writeF]
  omega
theorem append_ok {D : DiskF} {n : Nat} (h : D.okW n) (nd : D.nd) {s b : List UInt8} (hs : s.length ≤ 20) : (appendF D s b).1.okW (n + 1) := by
  unfold appendF
  split
  · split
    · exact h.mono (by omega)
    · rename_i full
      split
      · refine ⟨?_, ?_, h.2.2⟩
        · intro x hx
          rcases List.mem_append.1 hx with hx | hx
          · have := h.1 x hx; exact ⟨by omega, this.2⟩
          · rw [List.mem_singleton] at hx; subst hx; exact ⟨by simp, hs⟩
        · show ((sizeF (D.files ++ [(s, ⟨[], [b]⟩)]) : Nat) : Int) ≤ D.room
          rw [size_snoc]
          simp only [sizeF, List.map_cons, List.map_nil, List.sum_cons, List.sum_nil, FileF.size, FileF.all, List.nil_append, List.flatten_singleton] at full ⊢
          omega
      · rename_i F hF
        refine ⟨?_, ?_, h.2.2⟩
        · intro x hx
          obtain ⟨y, hy, rfl⟩ := List.mem_map.1 hx
          have := h.1 y hy
          split
          · have hF' : ∃ y ∈ D.files, y.2 = F := by
              unfold lookF at hF
              obtain ⟨z, hz, rfl⟩ := Option.map_eq_some_iff.1 hF
              exact ⟨z, List.mem_of_find?_eq_some hz, rfl⟩
            obtain ⟨z, hz, rfl⟩ := hF'
            have h2 := h.1 z hz
            exact ⟨by simp [writeF]; omega, this.2⟩
          · exact ⟨by omega, this.2⟩
        · show ((sizeF (turnF' D.files s (writeF F b)) : Nat) : Int) ≤ D.room
          rw [turn_size nd hF (write_size F b)]
          omega
  · exact h.mono (by omega)

def addL (nm : List UInt8) : List (List UInt8) → DiskF → Bool → DiskF × Nat × Bool
  | [], D, w => (D, 0, w)
  | b :: L, D, w => if (appendF D nm (frameF b)).2 = 0 then addL nm L (appendF D nm (frameF b)).1 true else ((appendF D nm (frameF b)).1, (appendF D nm (frameF b)).2, w)
def addF (J : JF) (D : DiskF) (L : List (List UInt8)) : JF × DiskF × Nat :=
  if doneF J D then (J, D, 7)
  else if L.any (fun b => decide (16384 < b.length)) then (J, D, 2)
  else if (addL (nameF J.turn J.part) L D J.written).2.1 = 0 then ({ J with written := (addL (nameF J.turn J.part) L D J.written).2.2, recs := J.recs ++ L }, (addL (nameF J.turn J.part) L D J.written).1, 0)
  else ({ J with written := (addL (nameF J.turn J.part) L D J.written).2.2, full := true }, (addL (nameF J.turn J.part) L D J.written).1, (addL (nameF J.turn J.part) L D J.written).2.1)
def jdC (j d : Nat) : Col → Prop := fun c => c.1 = j ∨ c.1 = d
theorem ext_jd {κ κ' : Pal} {H H' : Heap} {j d : Nat} (h : Ext (jouC j) κ H κ' H') : Ext (jdC j d) κ H κ' H' := h.mono fun c e => .inl e
theorem ext_dj {κ κ' : Pal} {H H' : Heap} {j d : Nat} (h : Ext (diskC d) κ H κ' H') : Ext (jdC j d) κ H κ' H' := h.mono fun c e => .inr e

/-- What is put behind the records. -/
theorem jou_write {κ : Pal} {G : Heap} {j d : Nat} {J : JF} {vb vr xv wv : Value} {rs : List Value} {l : List UInt8} {K : Value → Heap → Prop} (R : JouV κ G j d J vb vr rs) (x : Sl G 1 xv 1 [wv]) (ow : OwK κ (j, j, 10) G 1 wv l.length (l.map u8V)) (hb : J.recs.length ≤ 1000000000)
    (hk : ∀ v G', storeV G' 1 (.pointer (some ⟨j, 6, none⟩)) v = some (G'.set j (.own 0 [ptrV d, .int .i64 J.lives, .int .u64 (J.turn : Nat), .int .i64 (J.part : Nat), .bool J.written, vb, v, .bool J.full] 8)) →
      (∃ base c, v = .slice base (J.recs.length + 1) c) → (∃ κ', Ext (jouC j) κ G κ' (G'.set j (.own 0 [ptrV d, .int .i64 J.lives, .int .u64 (J.turn : Nat), .int .i64 (J.part : Nat), .bool J.written, vb, v, .bool J.full] 8)) ∧ JouR κ' (G'.set j (.own 0 [ptrV d, .int .i64 J.lives, .int .u64 (J.turn : Nat), .int .i64 (J.part : Nat), .bool J.written, vb, v, .bool J.full] 8)) j d { J with recs := J.recs ++ [l] }) → K v G') : appendP 1 24 G vr xv K := by
  obtain ⟨k, q, s1, s2, hl, s3⟩ := R
  have ho : [wv].all one = true := by
    obtain ⟨b, c, rfl⟩ := Sl.shape ow.sl
    rfl
  refine appendP_ow (Heap.but_le G κ (j, j, 9)) (by omega) s2 x ho (by omega) (by omega) ?_
  intro v G' o le
  have e1 := Ext.grow le
  obtain ⟨q', k'⟩ := e1.blk k (by simp) q
  obtain ⟨vb', vc', rfl⟩ := Sl.shape o.sl
  have e2 := Ext.set (H := G') k' (.own 0 [ptrV d, .int .i64 J.lives, .int .u64 (J.turn : Nat), .int .i64 (J.part : Nat), .bool J.written, vb, .slice vb' (J.recs.length + 1) vc', .bool J.full] 8)
  refine hk _ G' (storeV_one_at q' rfl (by simp) (by simp)) ⟨vb', vc', rfl⟩ ⟨κ.grow G (j, j, 9), (ext_j e1).trans (ext_j e2), vb, _, rs ++ [wv], k', Heap.set_self _ _ _, e2.own (by simp) (e1.own (by simp) s1), ?_, ?_, ?_⟩
  · refine e2.own (by simp) ?_
    have := OwK.grown o
    simpa using this
  · simp [hl]
  · intro i h1 h2
    refine e2.own (by simp) (e1.own (by simp) ?_)
    by_cases hi : i < rs.length
    · have hi2 : i < J.recs.length := by omega
      have := s3 i hi hi2
      simp only [List.getElem_append_left hi, List.getElem_append_left hi2]
      exact this
    · have : i = rs.length := by
        simp at h1; omega
      subst this
      have e3 : (rs ++ [wv])[rs.length]'h1 = wv := by simp
      have e4 : (J.recs ++ [l])[rs.length]'h2 = l := by
        rw [List.getElem_append_right (by omega)]
        simp [hl]
      rw [e3, e4]; exact ow

theorem journal_Add_c (E : EnvT tab) {κ : Pal} {H : Heap} {j d : Nat} {J : JF} {D : DiskF} {n : Nat} (R : JouR κ H j d J) (RD : DiskR κ H d D) (ne : d ≠ j) (ok : D.okW n) (ht : J.turn < 64) (hp : J.part < 64) {vL : Value} (L : List (List UInt8)) (sL : SlL (H.bare κ) vL L) (hn : n + L.length ≤ 100000) (hr : J.recs.length + L.length ≤ 100000) :
    ACallN E.toEnv n_journal_Journal_Add [ptrV j, vL] H fun r H' => r = .int .i64 ((addF J D L).2.2 : Nat) ∧ ∃ κ', Ext (jdC j d) κ H κ' H' ∧ JouR κ' H' j d (addF J D L).1 ∧ DiskR κ' H' d (addF J D L).2.1 := by
  obtain ⟨Lb, Lc, rfl⟩ := sL.shape
  refine acall h_journal_Journal_Add ir_journal_Journal_Add rfl rfl (wpA_sound ?_)
  unfold ir_journal_Journal_Add
  simp -implicitDefEqProofs only [zB1,zB2,zB3,zB4,zB5,zB6,zB7,zB8,zB9,zB10,zB11,y00,y01,y02,y03,y04,y05,y06,y07,y08,y09,y0a,y0b,y0c,y0d,y0e,y0f,y0g,y0h,y0i,y0j,y0k,y0l,y0m,y0n,y0o,y0p,y0q,y0r,y0s,y0t,y0u,y0v,y0w,y0x,y0y,y0z,y10,y11,y12,y13,y14,y15,y16,y17,y18,y19,y1a,y1b,y1c,y1d,y1e,y1f,y1g,y1h,y1i,y1j,y1k,y1l,y1m,y1n,y1o,y1p,y1q,y1r,retO,retL,retV,z6i,allV,allP,z6j,z6m,z6n,z6t,z6u,z6v,binV,eqV,unV,oOpt,reduceIte,reduceCtorEq,Nat.reduceEqDiff,Nat.reduceAdd,Nat.reduceMul,Nat.reduceLT,Nat.reduceSub,Int.reduceLT,Int.reduceLE,Int.reduceEq,Int.reduceNe,Int.reduceSub,Int.reduceAdd,Int.reduceMul,Int.reduceBEq,Int.reduceBNe,Int.reduceGT,Int.reduceGE,Nat.reduceGT,Int.reduceToNat,Int.reduceNeg,Nat.reduceLeDiff,Nat.reduceBEq,Nat.reduceBneDiff,Value.cells]
  refine (journal_Done_c E R RD).mono ?_
  rintro v H1 ⟨rfl, rfl⟩
  unfold addF
  by_cases dn : doneF J D = true
  · simp -implicitDefEqProofs only [zB1,zB2,zB3,zB4,zB5,zB6,zB7,zB8,zB9,zB10,zB11,y00,y01,y02,y03,y04,y05,y06,y07,y08,y09,y0a,y0b,y0c,y0d,y0e,y0f,y0g,y0h,y0i,y0j,y0k,y0l,y0m,y0n,y0o,y0p,y0q,y0r,y0s,y0t,y0u,y0v,y0w,y0x,y0y,y0z,y10,y11,y12,y13,y14,y15,y16,y17,y18,y19,y1a,y1b,y1c,y1d,y1e,y1f,y1g,y1h,y1i,y1j,y1k,y1l,y1m,y1n,y1o,y1p,y1q,y1r,retO,retL,retV,z6i,allV,allP,z6j,z6m,z6n,z6t,z6u,z6v,binV,eqV,unV,oOpt,reduceIte,reduceCtorEq,Nat.reduceEqDiff,Nat.reduceAdd,Nat.reduceMul,Nat.reduceLT,Nat.reduceSub,Int.reduceLT,Int.reduceLE,Int.reduceEq,Int.reduceNe,Int.reduceSub,Int.reduceAdd,Int.reduceMul,Int.reduceBEq,Int.reduceBNe,Int.reduceGT,Int.reduceGE,Nat.reduceGT,Int.reduceToNat,Int.reduceNeg,Nat.reduceLeDiff,Nat.reduceBEq,Nat.reduceBneDiff,Value.cells, dn]
    exact ⟨κ, Ext.refl _ _ _, R, RD⟩
  simp -implicitDefEqProofs only [zB1,zB2,zB3,zB4,zB5,zB6,zB7,zB8,zB9,zB10,zB11,y00,y01,y02,y03,y04,y05,y06,y07,y08,y09,y0a,y0b,y0c,y0d,y0e,y0f,y0g,y0h,y0i,y0j,y0k,y0l,y0m,y0n,y0o,y0p,y0q,y0r,y0s,y0t,y0u,y0v,y0w,y0x,y0y,y0z,y10,y11,y12,y13,y14,y15,y16,y17,y18,y19,y1a,y1b,y1c,y1d,y1e,y1f,y1g,y1h,y1i,y1j,y1k,y1l,y1m,y1n,y1o,y1p,y1q,y1r,retO,retL,retV,z6i,allV,allP,z6j,z6m,z6n,z6t,z6u,z6v,binV,eqV,unV,oOpt,reduceIte,reduceCtorEq,Nat.reduceEqDiff,Nat.reduceAdd,Nat.reduceMul,Nat.reduceLT,Nat.reduceSub,Int.reduceLT,Int.reduceLE,Int.reduceEq,Int.reduceNe,Int.reduceSub,Int.reduceAdd,Int.reduceMul,Int.reduceBEq,Int.reduceBNe,Int.reduceGT,Int.reduceGE,Nat.reduceGT,Int.reduceToNat,Int.reduceNeg,Nat.reduceLeDiff,Nat.reduceBEq,Nat.reduceBneDiff,Value.cells, dn]
  refine wp_loop' (fun m t G => G = H1 ∧ ∃ i : Nat, t = tl [(0, ptrV j), (1, .slice Lb L.length Lc), (14, .slice Lb L.length Lc), (15, .int .i64 L.length), (16, .int .i64 i)] ∧ i ≤ L.length ∧ m = L.length - i ∧ (L.take i).any (fun b => decide (16384 < b.length)) = false) L.length
    ⟨rfl, 0, rfl, by omega, by omega, by simp⟩ ?_
  rintro m t G ⟨rfl, i, rfl, hi, rfl, ha⟩
  by_cases hlt : i < L.length
  · have hi1 : (i : Int) < L.length := by omega
    have hi2 : (0 : Int) ≤ i := by omega
    have w1 : IntKind.i64.wrap ((i : Int) + 1) = ((i + 1 : Nat) : Int) := wrapN (by omega)
    obtain ⟨b, o, bi, ci, rfl, si, ciH⟩ := sL.at' i hlt
    have c1 := ciH G (Heap.bare_le _ _)
    by_cases g : 16384 < L[i].length
    · have g' : (16384 : Int) < L[i].length := by omega
      have an : L.any (fun b => decide (16384 < b.length)) = true := by
        rw [List.any_eq_true]
        exact ⟨L[i], List.getElem_mem hlt, by simpa using g⟩
      simp -implicitDefEqProofs only [zB1,zB2,zB3,zB4,zB5,zB6,zB7,zB8,zB9,zB10,zB11,y00,y01,y02,y03,y04,y05,y06,y07,y08,y09,y0a,y0b,y0c,y0d,y0e,y0f,y0g,y0h,y0i,y0j,y0k,y0l,y0m,y0n,y0o,y0p,y0q,y0r,y0s,y0t,y0u,y0v,y0w,y0x,y0y,y0z,y10,y11,y12,y13,y14,y15,y16,y17,y18,y19,y1a,y1b,y1c,y1d,y1e,y1f,y1g,y1h,y1i,y1j,y1k,y1l,y1m,y1n,y1o,y1p,y1q,y1r,retO,retL,retV,z6i,allV,allP,z6j,z6m,z6n,z6t,z6u,z6v,binV,eqV,unV,oOpt,reduceIte,reduceCtorEq,Nat.reduceEqDiff,Nat.reduceAdd,Nat.reduceMul,Nat.reduceLT,Nat.reduceSub,Int.reduceLT,Int.reduceLE,Int.reduceEq,Int.reduceNe,Int.reduceSub,Int.reduceAdd,Int.reduceMul,Int.reduceBEq,Int.reduceBNe,Int.reduceGT,Int.reduceGE,Nat.reduceGT,Int.reduceToNat,Int.reduceNeg,Nat.reduceLeDiff,Nat.reduceBEq,Nat.reduceBneDiff,Value.cells, hi1, hi2, Int.toNat_natCast, c1, g', an]
      exact ⟨κ, Ext.refl _ _ _, R, RD⟩
    · have g' : ¬ (16384 : Int) < L[i].length := by omega
      simp -implicitDefEqProofs only [zB1,zB2,zB3,zB4,zB5,zB6,zB7,zB8,zB9,zB10,zB11,y00,y01,y02,y03,y04,y05,y06,y07,y08,y09,y0a,y0b,y0c,y0d,y0e,y0f,y0g,y0h,y0i,y0j,y0k,y0l,y0m,y0n,y0o,y0p,y0q,y0r,y0s,y0t,y0u,y0v,y0w,y0x,y0y,y0z,y10,y11,y12,y13,y14,y15,y16,y17,y18,y19,y1a,y1b,y1c,y1d,y1e,y1f,y1g,y1h,y1i,y1j,y1k,y1l,y1m,y1n,y1o,y1p,y1q,y1r,retO,retL,retV,z6i,allV,allP,z6j,z6m,z6n,z6t,z6u,z6v,binV,eqV,unV,oOpt,reduceIte,reduceCtorEq,Nat.reduceEqDiff,Nat.reduceAdd,Nat.reduceMul,Nat.reduceLT,Nat.reduceSub,Int.reduceLT,Int.reduceLE,Int.reduceEq,Int.reduceNe,Int.reduceSub,Int.reduceAdd,Int.reduceMul,Int.reduceBEq,Int.reduceBNe,Int.reduceGT,Int.reduceGE,Nat.reduceGT,Int.reduceToNat,Int.reduceNeg,Nat.reduceLeDiff,Nat.reduceBEq,Nat.reduceBneDiff,Value.cells, hi1, hi2, Int.toNat_natCast, c1, g', w1]
      refine ⟨_, ?_, i + 1, rfl, by omega, rfl, ?_⟩
      · omega
      · rw [List.take_succ_eq_append_getElem hlt, List.any_append, ha]; simpa using g
  have hi1 : ¬ (i : Int) < L.length := by omega
  have e0 : i = L.length := by omega
  subst e0
  rw [List.take_length] at ha
  have hlen : ∀ b ∈ L, b.length ≤ 16384 := by
    intro b hb
    rw [List.any_eq_false] at ha
    have := ha b hb
    simpa using this
  simp only [ha]
  simp -implicitDefEqProofs only [zB1,zB2,zB3,zB4,zB5,zB6,zB7,zB8,zB9,zB10,zB11,y00,y01,y02,y03,y04,y05,y06,y07,y08,y09,y0a,y0b,y0c,y0d,y0e,y0f,y0g,y0h,y0i,y0j,y0k,y0l,y0m,y0n,y0o,y0p,y0q,y0r,y0s,y0t,y0u,y0v,y0w,y0x,y0y,y0z,y10,y11,y12,y13,y14,y15,y16,y17,y18,y19,y1a,y1b,y1c,y1d,y1e,y1f,y1g,y1h,y1i,y1j,y1k,y1l,y1m,y1n,y1o,y1p,y1q,y1r,retO,retL,retV,z6i,allV,allP,z6j,z6m,z6n,z6t,z6u,z6v,binV,eqV,unV,oOpt,reduceIte,reduceCtorEq,Nat.reduceEqDiff,Nat.reduceAdd,Nat.reduceMul,Nat.reduceLT,Nat.reduceSub,Int.reduceLT,Int.reduceLE,Int.reduceEq,Int.reduceNe,Int.reduceSub,Int.reduceAdd,Int.reduceMul,Int.reduceBEq,Int.reduceBNe,Int.reduceGT,Int.reduceGE,Nat.reduceGT,Int.reduceToNat,Int.reduceNeg,Nat.reduceLeDiff,Nat.reduceBEq,Nat.reduceBneDiff,Value.cells, hi1]
  unfold ir_journal_Journal_Add_24
  simp -implicitDefEqProofs only [zB1,zB2,zB3,zB4,zB5,zB6,zB7,zB8,zB9,zB10,zB11,y00,y01,y02,y03,y04,y05,y06,y07,y08,y09,y0a,y0b,y0c,y0d,y0e,y0f,y0g,y0h,y0i,y0j,y0k,y0l,y0m,y0n,y0o,y0p,y0q,y0r,y0s,y0t,y0u,y0v,y0w,y0x,y0y,y0z,y10,y11,y12,y13,y14,y15,y16,y17,y18,y19,y1a,y1b,y1c,y1d,y1e,y1f,y1g,y1h,y1i,y1j,y1k,y1l,y1m,y1n,y1o,y1p,y1q,y1r,retO,retL,retV,z6i,allV,allP,z6j,z6m,z6n,z6t,z6u,z6v,binV,eqV,unV,oOpt,reduceIte,reduceCtorEq,Nat.reduceEqDiff,Nat.reduceAdd,Nat.reduceMul,Nat.reduceLT,Nat.reduceSub,Int.reduceLT,Int.reduceLE,Int.reduceEq,Int.reduceNe,Int.reduceSub,Int.reduceAdd,Int.reduceMul,Int.reduceBEq,Int.reduceBNe,Int.reduceGT,Int.reduceGE,Nat.reduceGT,Int.reduceToNat,Int.reduceNeg,Nat.reduceLeDiff,Nat.reduceBEq,Nat.reduceBneDiff,Value.cells]
  refine wp_loop' (fun m t K => ∃ (i : Nat) (κ' : Pal) (Di : DiskF) (wi : Bool), t = tl [(0, ptrV j), (1, .slice Lb L.length Lc), (24, .slice Lb L.length Lc), (25, .int .i64 L.length), (26, .int .i64 i)] ∧ i ≤ L.length ∧ m = L.length - i ∧
      Ext (jdC j d) κ G κ' K ∧ JouR κ' K j d { J with written := wi } ∧ DiskR κ' K d Di ∧ Di.okW (n + i) ∧ addL (nameF J.turn J.part) L D J.written = addL (nameF J.turn J.part) (L.drop i) Di wi) L.length
    ⟨0, κ, D, J.written, rfl, by omega, by omega, Ext.refl _ _ _, R, RD, ok, rfl⟩ ?_
  rintro m t K ⟨i, κ', Di, wi, rfl, hi, rfl, eK, RK, RDK, okK, eA⟩
  have sLK := eK.bare
  by_cases hlt : i < L.length
  · have hi1 : (i : Int) < L.length := by omega
    have hi2 : (0 : Int) ≤ i := by omega
    have w1 : IntKind.i64.wrap ((i : Int) + 1) = ((i + 1 : Nat) : Int) := wrapN (by omega)
    obtain ⟨b, o, bi, ci, rfl, si, ciH⟩ := sL.at' i hlt
    have c1 := ciH K (Heap.le_trans sLK (Heap.bare_le _ _))
    have hli := hlen _ (List.getElem_mem hlt)
    obtain ⟨vb, vr, rs, RV⟩ := RK
    have q := RV.2.1
    have j0 : ∀ M, K.le M → hcell M ⟨j, 0, none⟩ = some (ptrV d) := fun M x => by rw [hcell_at (x _ _ q) (by simp)]; rfl
    have j2 : hcell K ⟨j, 2, none⟩ = some (.int .u64 (J.turn : Nat)) := by rw [hcell_at q (by simp)]; rfl
    have j3 : hcell K ⟨j, 3, none⟩ = some (.int .i64 (J.part : Nat)) := by rw [hcell_at q (by simp)]; rfl
    have j00 := j0 K (Heap.le_refl _)
    simp -implicitDefEqProofs only [zB1,zB2,zB3,zB4,zB5,zB6,zB7,zB8,zB9,zB10,zB11,y00,y01,y02,y03,y04,y05,y06,y07,y08,y09,y0a,y0b,y0c,y0d,y0e,y0f,y0g,y0h,y0i,y0j,y0k,y0l,y0m,y0n,y0o,y0p,y0q,y0r,y0s,y0t,y0u,y0v,y0w,y0x,y0y,y0z,y10,y11,y12,y13,y14,y15,y16,y17,y18,y19,y1a,y1b,y1c,y1d,y1e,y1f,y1g,y1h,y1i,y1j,y1k,y1l,y1m,y1n,y1o,y1p,y1q,y1r,retO,retL,retV,z6i,allV,allP,z6j,z6m,z6n,z6t,z6u,z6v,binV,eqV,unV,oOpt,reduceIte,reduceCtorEq,Nat.reduceEqDiff,Nat.reduceAdd,Nat.reduceMul,Nat.reduceLT,Nat.reduceSub,Int.reduceLT,Int.reduceLE,Int.reduceEq,Int.reduceNe,Int.reduceSub,Int.reduceAdd,Int.reduceMul,Int.reduceBEq,Int.reduceBNe,Int.reduceGT,Int.reduceGE,Nat.reduceGT,Int.reduceToNat,Int.reduceNeg,Nat.reduceLeDiff,Nat.reduceBEq,Nat.reduceBneDiff,Value.cells, hi1, hi2, Int.toNat_natCast, c1]
    unfold ir_journal_Journal_Add_34
    simp -implicitDefEqProofs only [zB1,zB2,zB3,zB4,zB5,zB6,zB7,zB8,zB9,zB10,zB11,y00,y01,y02,y03,y04,y05,y06,y07,y08,y09,y0a,y0b,y0c,y0d,y0e,y0f,y0g,y0h,y0i,y0j,y0k,y0l,y0m,y0n,y0o,y0p,y0q,y0r,y0s,y0t,y0u,y0v,y0w,y0x,y0y,y0z,y10,y11,y12,y13,y14,y15,y16,y17,y18,y19,y1a,y1b,y1c,y1d,y1e,y1f,y1g,y1h,y1i,y1j,y1k,y1l,y1m,y1n,y1o,y1p,y1q,y1r,retO,retL,retV,z6i,allV,allP,z6j,z6m,z6n,z6t,z6u,z6v,binV,eqV,unV,oOpt,reduceIte,reduceCtorEq,Nat.reduceEqDiff,Nat.reduceAdd,Nat.reduceMul,Nat.reduceLT,Nat.reduceSub,Int.reduceLT,Int.reduceLE,Int.reduceEq,Int.reduceNe,Int.reduceSub,Int.reduceAdd,Int.reduceMul,Int.reduceBEq,Int.reduceBNe,Int.reduceGT,Int.reduceGE,Nat.reduceGT,Int.reduceToNat,Int.reduceNeg,Nat.reduceLeDiff,Nat.reduceBEq,Nat.reduceBneDiff,Value.cells, j2, j3]
    refine (journal_name_c E K J.turn J.part ht hp).mono ?_
    rintro v K1 ⟨le1, rfl⟩
    have j01 := j0 K1 le1
    simp -implicitDefEqProofs only [zB1,zB2,zB3,zB4,zB5,zB6,zB7,zB8,zB9,zB10,zB11,y00,y01,y02,y03,y04,y05,y06,y07,y08,y09,y0a,y0b,y0c,y0d,y0e,y0f,y0g,y0h,y0i,y0j,y0k,y0l,y0m,y0n,y0o,y0p,y0q,y0r,y0s,y0t,y0u,y0v,y0w,y0x,y0y,y0z,y10,y11,y12,y13,y14,y15,y16,y17,y18,y19,y1a,y1b,y1c,y1d,y1e,y1f,y1g,y1h,y1i,y1j,y1k,y1l,y1m,y1n,y1o,y1p,y1q,y1r,retO,retL,retV,z6i,allV,allP,z6j,z6m,z6n,z6t,z6u,z6v,binV,eqV,unV,oOpt,reduceIte,reduceCtorEq,Nat.reduceEqDiff,Nat.reduceAdd,Nat.reduceMul,Nat.reduceLT,Nat.reduceSub,Int.reduceLT,Int.reduceLE,Int.reduceEq,Int.reduceNe,Int.reduceSub,Int.reduceAdd,Int.reduceMul,Int.reduceBEq,Int.reduceBNe,Int.reduceGT,Int.reduceGE,Nat.reduceGT,Int.reduceToNat,Int.reduceNeg,Nat.reduceLeDiff,Nat.reduceBEq,Nat.reduceBneDiff,Value.cells, implies_true]
    refine (journal_frame_c E K1 L[i] (by omega) (si.le (Heap.le_trans sLK (Heap.le_trans (Heap.bare_le _ _) le1)))).mono ?_
    rintro vf K2 ⟨le2, of2⟩
    have le02 := Heap.le_trans le1 le2
    have j02 := j0 K2 le02
    simp -implicitDefEqProofs only [zB1,zB2,zB3,zB4,zB5,zB6,zB7,zB8,zB9,zB10,zB11,y00,y01,y02,y03,y04,y05,y06,y07,y08,y09,y0a,y0b,y0c,y0d,y0e,y0f,y0g,y0h,y0i,y0j,y0k,y0l,y0m,y0n,y0o,y0p,y0q,y0r,y0s,y0t,y0u,y0v,y0w,y0x,y0y,y0z,y10,y11,y12,y13,y14,y15,y16,y17,y18,y19,y1a,y1b,y1c,y1d,y1e,y1f,y1g,y1h,y1i,y1j,y1k,y1l,y1m,y1n,y1o,y1p,y1q,y1r,retO,retL,retV,z6i,allV,allP,z6j,z6m,z6n,z6t,z6u,z6v,binV,eqV,unV,oOpt,reduceIte,reduceCtorEq,Nat.reduceEqDiff,Nat.reduceAdd,Nat.reduceMul,Nat.reduceLT,Nat.reduceSub,Int.reduceLT,Int.reduceLE,Int.reduceEq,Int.reduceNe,Int.reduceSub,Int.reduceAdd,Int.reduceMul,Int.reduceBEq,Int.reduceBNe,Int.reduceGT,Int.reduceGE,Nat.reduceGT,Int.reduceToNat,Int.reduceNeg,Nat.reduceLeDiff,Nat.reduceBEq,Nat.reduceBneDiff,Value.cells, j00, j01, j02, implies_true, List.mem_cons, List.not_mem_nil, List.mem_singleton, or_false, forall_eq, forall_eq_or_imp, and_self]
    have nl : (nameF J.turn J.part).length ≤ 20 := by have := name_good ht hp; unfold goodName at this; simp at this; omega
    refine (disk_Append_c E (RDK.le le02) (okK.ok (by omega)) (nameF J.turn J.part) (by omega) (frameF L[i]) (by rw [frameF_len]; omega) of2.sl).mono ?_
    rintro v K3 ⟨rfl, κ3, e3, R3⟩
    have eK3 := eK.trans ((Ext.le le02).trans (ext_dj e3))
    have RV3 := (RV.ext (Ext.le (cs := fun _ => False) le02) (fun _ _ q => q)).ext e3 fun c h q => ne (by unfold diskC at q; rw [← q, h])
    have ok3 : (appendF Di (nameF J.turn J.part) (frameF L[i])).1.okW (n + i + 1) := append_ok okK RDK.nd nl
    have eD : L.drop i = L[i] :: L.drop (i + 1) := by rw [List.drop_eq_getElem_cons hlt]
    rw [eD, addL] at eA
    generalize appendF Di (nameF J.turn J.part) (frameF L[i]) = X at eA R3 ok3 ⊢
    obtain ⟨D3, er⟩ := X
    by_cases ez : er = 0
    · subst ez
      simp only [if_true] at eA
      have st : storeV K3 1 (.pointer (some ⟨j, 4, none⟩)) (.bool true) = some (K3.set j (.own 0 [ptrV d, .int .i64 J.lives, .int .u64 (J.turn : Nat), .int .i64 (J.part : Nat), .bool true, vb, vr, .bool J.full] 8)) := storeV_one_at RV3.2.1 rfl (by simp) (by simp)
      simp -implicitDefEqProofs only [zB1,zB2,zB3,zB4,zB5,zB6,zB7,zB8,zB9,zB10,zB11,y00,y01,y02,y03,y04,y05,y06,y07,y08,y09,y0a,y0b,y0c,y0d,y0e,y0f,y0g,y0h,y0i,y0j,y0k,y0l,y0m,y0n,y0o,y0p,y0q,y0r,y0s,y0t,y0u,y0v,y0w,y0x,y0y,y0z,y10,y11,y12,y13,y14,y15,y16,y17,y18,y19,y1a,y1b,y1c,y1d,y1e,y1f,y1g,y1h,y1i,y1j,y1k,y1l,y1m,y1n,y1o,y1p,y1q,y1r,retO,retL,retV,z6i,allV,allP,z6j,z6m,z6n,z6t,z6u,z6v,binV,eqV,unV,oOpt,reduceIte,reduceCtorEq,Nat.reduceEqDiff,Nat.reduceAdd,Nat.reduceMul,Nat.reduceLT,Nat.reduceSub,Int.reduceLT,Int.reduceLE,Int.reduceEq,Int.reduceNe,Int.reduceSub,Int.reduceAdd,Int.reduceMul,Int.reduceBEq,Int.reduceBNe,Int.reduceGT,Int.reduceGE,Nat.reduceGT,Int.reduceToNat,Int.reduceNeg,Nat.reduceLeDiff,Nat.reduceBEq,Nat.reduceBneDiff,Value.cells, st, w1]
      have e4 := RV3.put_ext (.own 0 [ptrV d, .int .i64 J.lives, .int .u64 (J.turn : Nat), .int .i64 (J.part : Nat), .bool true, vb, vr, .bool J.full] 8)
      refine ⟨_, ?_, i + 1, κ3, D3, true, rfl, by omega, rfl, eK3.trans (ext_jd e4), ⟨vb, vr, rs, RV3.put J.turn J.part true J.full⟩, R3.off e4 ne.symm, by rw [← Nat.add_assoc]; exact ok3, eA⟩
      omega
    · have ez' : ¬ ((er : Nat) : Int) = 0 := by omega
      simp only [ez, if_false] at eA
      simp -implicitDefEqProofs only [zB1,zB2,zB3,zB4,zB5,zB6,zB7,zB8,zB9,zB10,zB11,y00,y01,y02,y03,y04,y05,y06,y07,y08,y09,y0a,y0b,y0c,y0d,y0e,y0f,y0g,y0h,y0i,y0j,y0k,y0l,y0m,y0n,y0o,y0p,y0q,y0r,y0s,y0t,y0u,y0v,y0w,y0x,y0y,y0z,y10,y11,y12,y13,y14,y15,y16,y17,y18,y19,y1a,y1b,y1c,y1d,y1e,y1f,y1g,y1h,y1i,y1j,y1k,y1l,y1m,y1n,y1o,y1p,y1q,y1r,retO,retL,retV,z6i,allV,allP,z6j,z6m,z6n,z6t,z6u,z6v,binV,eqV,unV,oOpt,reduceIte,reduceCtorEq,Nat.reduceEqDiff,Nat.reduceAdd,Nat.reduceMul,Nat.reduceLT,Nat.reduceSub,Int.reduceLT,Int.reduceLE,Int.reduceEq,Int.reduceNe,Int.reduceSub,Int.reduceAdd,Int.reduceMul,Int.reduceBEq,Int.reduceBNe,Int.reduceGT,Int.reduceGE,Nat.reduceGT,Int.reduceToNat,Int.reduceNeg,Nat.reduceLeDiff,Nat.reduceBEq,Nat.reduceBneDiff,Value.cells, ez']
      refine (journal_failed_c E ⟨vb, vr, rs, RV3⟩ er).mono ?_
      rintro v K4 ⟨rfl, e4, R4⟩
      rw [eA]
      simp only [ez, if_false]
      simp -implicitDefEqProofs only [zB1,zB2,zB3,zB4,zB5,zB6,zB7,zB8,zB9,zB10,zB11,y00,y01,y02,y03,y04,y05,y06,y07,y08,y09,y0a,y0b,y0c,y0d,y0e,y0f,y0g,y0h,y0i,y0j,y0k,y0l,y0m,y0n,y0o,y0p,y0q,y0r,y0s,y0t,y0u,y0v,y0w,y0x,y0y,y0z,y10,y11,y12,y13,y14,y15,y16,y17,y18,y19,y1a,y1b,y1c,y1d,y1e,y1f,y1g,y1h,y1i,y1j,y1k,y1l,y1m,y1n,y1o,y1p,y1q,y1r,retO,retL,retV,z6i,allV,allP,z6j,z6m,z6n,z6t,z6u,z6v,binV,eqV,unV,oOpt,reduceIte,reduceCtorEq,Nat.reduceEqDiff,Nat.reduceAdd,Nat.reduceMul,Nat.reduceLT,Nat.reduceSub,Int.reduceLT,Int.reduceLE,Int.reduceEq,Int.reduceNe,Int.reduceSub,Int.reduceAdd,Int.reduceMul,Int.reduceBEq,Int.reduceBNe,Int.reduceGT,Int.reduceGE,Nat.reduceGT,Int.reduceToNat,Int.reduceNeg,Nat.reduceLeDiff,Nat.reduceBEq,Nat.reduceBneDiff,Value.cells]
      exact ⟨κ3, eK3.trans (ext_jd e4), R4, R3.off e4 ne.symm⟩
  have hi1 : ¬ (i : Int) < L.length := by omega
  have e0 : i = L.length := by omega
  subst e0
  rw [List.drop_length, addL] at eA
  rw [eA]
  simp -implicitDefEqProofs only [zB1,zB2,zB3,zB4,zB5,zB6,zB7,zB8,zB9,zB10,zB11,y00,y01,y02,y03,y04,y05,y06,y07,y08,y09,y0a,y0b,y0c,y0d,y0e,y0f,y0g,y0h,y0i,y0j,y0k,y0l,y0m,y0n,y0o,y0p,y0q,y0r,y0s,y0t,y0u,y0v,y0w,y0x,y0y,y0z,y10,y11,y12,y13,y14,y15,y16,y17,y18,y19,y1a,y1b,y1c,y1d,y1e,y1f,y1g,y1h,y1i,y1j,y1k,y1l,y1m,y1n,y1o,y1p,y1q,y1r,retO,retL,retV,z6i,allV,allP,z6j,z6m,z6n,z6t,z6u,z6v,binV,eqV,unV,oOpt,reduceIte,reduceCtorEq,Nat.reduceEqDiff,Nat.reduceAdd,Nat.reduceMul,Nat.reduceLT,Nat.reduceSub,Int.reduceLT,Int.reduceLE,Int.reduceEq,Int.reduceNe,Int.reduceSub,Int.reduceAdd,Int.reduceMul,Int.reduceBEq,Int.reduceBNe,Int.reduceGT,Int.reduceGE,Nat.reduceGT,Int.reduceToNat,Int.reduceNeg,Nat.reduceLeDiff,Nat.reduceBEq,Nat.reduceBneDiff,Value.cells, hi1]
  unfold ir_journal_Journal_Add_55
  simp -implicitDefEqProofs only [zB1,zB2,zB3,zB4,zB5,zB6,zB7,zB8,zB9,zB10,zB11,y00,y01,y02,y03,y04,y05,y06,y07,y08,y09,y0a,y0b,y0c,y0d,y0e,y0f,y0g,y0h,y0i,y0j,y0k,y0l,y0m,y0n,y0o,y0p,y0q,y0r,y0s,y0t,y0u,y0v,y0w,y0x,y0y,y0z,y10,y11,y12,y13,y14,y15,y16,y17,y18,y19,y1a,y1b,y1c,y1d,y1e,y1f,y1g,y1h,y1i,y1j,y1k,y1l,y1m,y1n,y1o,y1p,y1q,y1r,retO,retL,retV,z6i,allV,allP,z6j,z6m,z6n,z6t,z6u,z6v,binV,eqV,unV,oOpt,reduceIte,reduceCtorEq,Nat.reduceEqDiff,Nat.reduceAdd,Nat.reduceMul,Nat.reduceLT,Nat.reduceSub,Int.reduceLT,Int.reduceLE,Int.reduceEq,Int.reduceNe,Int.reduceSub,Int.reduceAdd,Int.reduceMul,Int.reduceBEq,Int.reduceBNe,Int.reduceGT,Int.reduceGE,Nat.reduceGT,Int.reduceToNat,Int.reduceNeg,Nat.reduceLeDiff,Nat.reduceBEq,Nat.reduceBneDiff,Value.cells]
  refine wp_loop' (fun m t M => ∃ (i : Nat) (κ2 : Pal), t = tl [(0, ptrV j), (55, .slice Lb L.length Lc), (56, .int .i64 L.length), (57, .int .i64 i)] ∧ i ≤ L.length ∧ m = L.length - i ∧
      Ext (jouC j) κ' K κ2 M ∧ JouR κ2 M j d { J with written := wi, recs := J.recs ++ L.take i }) L.length
    ⟨0, κ', rfl, by omega, by omega, Ext.refl _ _ _, by simpa using RK⟩ ?_
  rintro m t M ⟨i, κ2, rfl, hi, rfl, eM, RM⟩
  by_cases hlt : i < L.length
  · have hi1 : (i : Int) < L.length := by omega
    have hi2 : (0 : Int) ≤ i := by omega
    have w1 : IntKind.i64.wrap ((i : Int) + 1) = ((i + 1 : Nat) : Int) := wrapN (by omega)
    obtain ⟨b, o, bi, ci, rfl, si, ciH⟩ := sL.at' i hlt
    have lM := Heap.le_trans sLK (Heap.le_trans eM.bare (Heap.bare_le _ _))
    have c1 := ciH M lM
    have hli := hlen _ (List.getElem_mem hlt)
    obtain ⟨vb, vr, rs, RV⟩ := RM
    have q := RV.2.1
    simp -implicitDefEqProofs only [zB1,zB2,zB3,zB4,zB5,zB6,zB7,zB8,zB9,zB10,zB11,y00,y01,y02,y03,y04,y05,y06,y07,y08,y09,y0a,y0b,y0c,y0d,y0e,y0f,y0g,y0h,y0i,y0j,y0k,y0l,y0m,y0n,y0o,y0p,y0q,y0r,y0s,y0t,y0u,y0v,y0w,y0x,y0y,y0z,y10,y11,y12,y13,y14,y15,y16,y17,y18,y19,y1a,y1b,y1c,y1d,y1e,y1f,y1g,y1h,y1i,y1j,y1k,y1l,y1m,y1n,y1o,y1p,y1q,y1r,retO,retL,retV,z6i,allV,allP,z6j,z6m,z6n,z6t,z6u,z6v,binV,eqV,unV,oOpt,reduceIte,reduceCtorEq,Nat.reduceEqDiff,Nat.reduceAdd,Nat.reduceMul,Nat.reduceLT,Nat.reduceSub,Int.reduceLT,Int.reduceLE,Int.reduceEq,Int.reduceNe,Int.reduceSub,Int.reduceAdd,Int.reduceMul,Int.reduceBEq,Int.reduceBNe,Int.reduceGT,Int.reduceGE,Nat.reduceGT,Int.reduceToNat,Int.reduceNeg,Nat.reduceLeDiff,Nat.reduceBEq,Nat.reduceBneDiff,Value.cells, hi1, hi2, Int.toNat_natCast, c1]
    refine (bytes_Clone_c E M L[i] (by omega) (si.le lM)).mono ?_
    rintro wv M1 ⟨le1, o1⟩
    have e1 : Ext (fun _ => False) κ2 M (κ2.grow M (j, j, 10)) M1 := Ext.tint le1
    have RV1 := RV.ext e1 (fun _ _ q => q)
    have ow1 : OwK (κ2.grow M (j, j, 10)) (j, j, 10) M1 1 wv L[i].length (L[i].map u8V) := OwK.tinted o1
    obtain ⟨wb, wc, rfl⟩ := Sl.shape o1.sl
    have j60 : hcell M ⟨j, 6, none⟩ = some vr := by rw [hcell_at q (by simp)]; rfl
    have j61 : hcell M1 ⟨j, 6, none⟩ = some vr := by rw [hcell_at (le1 _ _ q) (by simp)]; rfl
    simp -implicitDefEqProofs only [zB1,zB2,zB3,zB4,zB5,zB6,zB7,zB8,zB9,zB10,zB11,y00,y01,y02,y03,y04,y05,y06,y07,y08,y09,y0a,y0b,y0c,y0d,y0e,y0f,y0g,y0h,y0i,y0j,y0k,y0l,y0m,y0n,y0o,y0p,y0q,y0r,y0s,y0t,y0u,y0v,y0w,y0x,y0y,y0z,y10,y11,y12,y13,y14,y15,y16,y17,y18,y19,y1a,y1b,y1c,y1d,y1e,y1f,y1g,y1h,y1i,y1j,y1k,y1l,y1m,y1n,y1o,y1p,y1q,y1r,retO,retL,retV,z6i,allV,allP,z6j,z6m,z6n,z6t,z6u,z6v,binV,eqV,unV,oOpt,reduceIte,reduceCtorEq,Nat.reduceEqDiff,Nat.reduceAdd,Nat.reduceMul,Nat.reduceLT,Nat.reduceSub,Int.reduceLT,Int.reduceLE,Int.reduceEq,Int.reduceNe,Int.reduceSub,Int.reduceAdd,Int.reduceMul,Int.reduceBEq,Int.reduceBNe,Int.reduceGT,Int.reduceGE,Nat.reduceGT,Int.reduceToNat,Int.reduceNeg,Nat.reduceLeDiff,Nat.reduceBEq,Nat.reduceBneDiff,Value.cells, j60, j61, implies_true, List.mem_cons, List.not_mem_nil, List.mem_singleton, or_false, forall_eq, forall_eq_or_imp, and_self, List.length_replicate, List.drop_replicate, List.replicate_zero]
    intro b68 hb68
    try simp -implicitDefEqProofs only [zB1,zB2,zB3,zB4,zB5,zB6,zB7,zB8,zB9,zB10,zB11,y00,y01,y02,y03,y04,y05,y06,y07,y08,y09,y0a,y0b,y0c,y0d,y0e,y0f,y0g,y0h,y0i,y0j,y0k,y0l,y0m,y0n,y0o,y0p,y0q,y0r,y0s,y0t,y0u,y0v,y0w,y0x,y0y,y0z,y10,y11,y12,y13,y14,y15,y16,y17,y18,y19,y1a,y1b,y1c,y1d,y1e,y1f,y1g,y1h,y1i,y1j,y1k,y1l,y1m,y1n,y1o,y1p,y1q,y1r,retO,retL,retV,z6i,allV,allP,z6j,z6m,z6n,z6t,z6u,z6v,binV,eqV,unV,oOpt,reduceIte,reduceCtorEq,Nat.reduceEqDiff,Nat.reduceAdd,Nat.reduceMul,Nat.reduceLT,Nat.reduceSub,Int.reduceLT,Int.reduceLE,Int.reduceEq,Int.reduceNe,Int.reduceSub,Int.reduceAdd,Int.reduceMul,Int.reduceBEq,Int.reduceBNe,Int.reduceGT,Int.reduceGE,Nat.reduceGT,Int.reduceToNat,Int.reduceNeg,Nat.reduceLeDiff,Nat.reduceBEq,Nat.reduceBneDiff,Value.cells]
    have le2 := Heap.le_set (Heap.le_refl M1) hb68 (.own 0 [.slice wb L[i].length wc] 1)
    have sx : Sl (M1.set b68 (.own 0 [.slice wb L[i].length wc] 1)) 1 (.slice (some ⟨b68, 0, none⟩) 1 1) 1 [.slice wb L[i].length wc] := Sl.lit rfl
    refine jou_write (RV1.ext (Ext.le (cs := fun _ => False) le2) (fun _ _ q => q)) sx (OwK.le le2 ow1) (by simp only [List.length_append, List.length_take]; omega) ?_
    rintro v M3 st ⟨vb3, vc3, rfl⟩ ⟨κ3, e3, R3⟩
    simp -implicitDefEqProofs only [zB1,zB2,zB3,zB4,zB5,zB6,zB7,zB8,zB9,zB10,zB11,y00,y01,y02,y03,y04,y05,y06,y07,y08,y09,y0a,y0b,y0c,y0d,y0e,y0f,y0g,y0h,y0i,y0j,y0k,y0l,y0m,y0n,y0o,y0p,y0q,y0r,y0s,y0t,y0u,y0v,y0w,y0x,y0y,y0z,y10,y11,y12,y13,y14,y15,y16,y17,y18,y19,y1a,y1b,y1c,y1d,y1e,y1f,y1g,y1h,y1i,y1j,y1k,y1l,y1m,y1n,y1o,y1p,y1q,y1r,retO,retL,retV,z6i,allV,allP,z6j,z6m,z6n,z6t,z6u,z6v,binV,eqV,unV,oOpt,reduceIte,reduceCtorEq,Nat.reduceEqDiff,Nat.reduceAdd,Nat.reduceMul,Nat.reduceLT,Nat.reduceSub,Int.reduceLT,Int.reduceLE,Int.reduceEq,Int.reduceNe,Int.reduceSub,Int.reduceAdd,Int.reduceMul,Int.reduceBEq,Int.reduceBNe,Int.reduceGT,Int.reduceGE,Nat.reduceGT,Int.reduceToNat,Int.reduceNeg,Nat.reduceLeDiff,Nat.reduceBEq,Nat.reduceBneDiff,Value.cells, st, w1, implies_true]
    refine ⟨_, ?_, i + 1, κ3, rfl, by omega, rfl, ((eM.trans (e1.mono fun c h => h.elim)).trans (Ext.le le2)).trans e3, ?_⟩
    · omega
    · have et : J.recs ++ L.take (i + 1) = J.recs ++ L.take i ++ [L[i]] := by rw [List.take_succ_eq_append_getElem hlt, List.append_assoc]
      rw [et]; exact R3
  · have hi1 : ¬ (i : Int) < L.length := by omega
    have e0 : i = L.length := by omega
    subst e0
    rw [List.take_length] at RM
    simp -implicitDefEqProofs only [zB1,zB2,zB3,zB4,zB5,zB6,zB7,zB8,zB9,zB10,zB11,y00,y01,y02,y03,y04,y05,y06,y07,y08,y09,y0a,y0b,y0c,y0d,y0e,y0f,y0g,y0h,y0i,y0j,y0k,y0l,y0m,y0n,y0o,y0p,y0q,y0r,y0s,y0t,y0u,y0v,y0w,y0x,y0y,y0z,y10,y11,y12,y13,y14,y15,y16,y17,y18,y19,y1a,y1b,y1c,y1d,y1e,y1f,y1g,y1h,y1i,y1j,y1k,y1l,y1m,y1n,y1o,y1p,y1q,y1r,retO,retL,retV,z6i,allV,allP,z6j,z6m,z6n,z6t,z6u,z6v,binV,eqV,unV,oOpt,reduceIte,reduceCtorEq,Nat.reduceEqDiff,Nat.reduceAdd,Nat.reduceMul,Nat.reduceLT,Nat.reduceSub,Int.reduceLT,Int.reduceLE,Int.reduceEq,Int.reduceNe,Int.reduceSub,Int.reduceAdd,Int.reduceMul,Int.reduceBEq,Int.reduceBNe,Int.reduceGT,Int.reduceGE,Nat.reduceGT,Int.reduceToNat,Int.reduceNeg,Nat.reduceLeDiff,Nat.reduceBEq,Nat.reduceBneDiff,Value.cells, hi1]
    exact ⟨κ2, eK.trans (ext_jd eM), RM, RDK.off eM ne.symm⟩
end Go.Bb
/- Contracts: a journal's base read; old files let go. -/
namespace Go.Bb
set_option linter.unusedSimpArgs false
set_option linter.unusedVariables false
set_option maxRecDepth 20000
set_option maxHeartbeats 2000000

theorem name_len {t p : Nat} : (nameF t p).length ≤ 20 := by
  have h1 := b36_len t
  have h2 := b36_len p
  unfold nameF
  simp only [List.length_append, List.length_singleton]
  omega
def tidyF (T : Nat) : Nat → DiskF → Nat → DiskF
  | 0, D, _ => D
  | f + 1, D, p => if (dropF D (nameF T p)).2 = 0 then tidyF T f (dropF D (nameF T p)).1 (p + 1) else D
theorem look_del {L : Files} {s t : List UInt8} (h : lookF L t = none) : lookF (delFile L s) t = none := by
  unfold lookF delFile at *
  rw [Option.map_eq_none_iff, List.find?_eq_none] at *
  intro x hx
  exact h x (List.mem_filter.1 hx).1
theorem drop_look {D : DiskF} {s t : List UInt8} (h : lookF D.files t = none) : lookF (dropF D s).1.files t = none := by
  unfold dropF
  split
  · split
    · exact h
    · exact look_del h
  · exact h
theorem drop_fails {D : DiskF} {t : List UInt8} (h : lookF D.files t = none) : (dropF D t).2 ≠ 0 := by
  unfold dropF
  split
  · rw [h]; simp
  · rename_i e; exact e
theorem drop_same {D : DiskF} {t : List UInt8} (h : (dropF D t).2 ≠ 0) : (dropF D t).1 = D := by
  unfold dropF at *
  split
  · rename_i e
    rw [if_pos e] at h
    split
    · rfl
    · rename_i x; rw [x] at h; simp at h
  · rfl
theorem drop_ok {D : DiskF} {n : Nat} (h : D.okW n) (s : List UInt8) : (dropF D s).1.okW n := by
  unfold dropF
  split
  · split
    · exact h
    · refine ⟨fun x hx => h.1 x (List.mem_filter.1 hx).1, ?_, h.2.2⟩
      have : sizeF (delFile D.files s) ≤ sizeF D.files := by
        have : ∀ L : Files, sizeF (delFile L s) ≤ sizeF L := by
          intro L
          induction L with
          | nil => exact Nat.le_refl _
          | cons x L ih =>
            unfold delFile at ih ⊢
            rw [List.filter_cons]
            split
            · simp only [sizeF, List.map_cons, List.sum_cons] at ih ⊢; omega
            · simp only [sizeF, List.map_cons, List.sum_cons] at ih ⊢; omega
        exact this _
      have := h.2.1
      show ((sizeF (delFile D.files s) : Nat) : Int) ≤ D.room
      omega
  · exact h
theorem journal_tidy_c (E : EnvT tab) {κ : Pal} {H : Heap} {j d : Nat} {J : JF} {D : DiskF} (R : JouR κ H j d J) (RD : DiskR κ H d D) (ne : d ≠ j) (T : Nat) (ht : T < 64) {P : Nat} (hP : P < 63) (hl : lookF D.files (nameF T P) = none) :
    ACallN E.toEnv n_journal_Journal_tidy [ptrV j, .int .u64 T] H fun r H' => ∃ κ', Ext (diskC d) κ H κ' H' ∧ JouR κ' H' j d J ∧ DiskR κ' H' d (tidyF T 64 D 0) := by
  refine acall h_journal_Journal_tidy ir_journal_Journal_tidy rfl rfl (wpA_sound ?_)
  unfold ir_journal_Journal_tidy
  generalize hTF : tidyF T 64 D 0 = TF
  simp -implicitDefEqProofs only [zB1,zB2,zB3,zB4,zB5,zB6,zB7,zB8,zB9,zB10,zB11,y00,y01,y02,y03,y04,y05,y06,y07,y08,y09,y0a,y0b,y0c,y0d,y0e,y0f,y0g,y0h,y0i,y0j,y0k,y0l,y0m,y0n,y0o,y0p,y0q,y0r,y0s,y0t,y0u,y0v,y0w,y0x,y0y,y0z,y10,y11,y12,y13,y14,y15,y16,y17,y18,y19,y1a,y1b,y1c,y1d,y1e,y1f,y1g,y1h,y1i,y1j,y1k,y1l,y1m,y1n,y1o,y1p,y1q,y1r,retO,retL,retV,z6i,allV,allP,z6j,z6m,z6n,z6t,z6u,z6v,binV,eqV,unV,oOpt,reduceIte,reduceCtorEq,Nat.reduceEqDiff,Nat.reduceAdd,Nat.reduceMul,Nat.reduceLT,Nat.reduceSub,Int.reduceLT,Int.reduceLE,Int.reduceEq,Int.reduceNe,Int.reduceSub,Int.reduceAdd,Int.reduceMul,Int.reduceBEq,Int.reduceBNe,Int.reduceGT,Int.reduceGE,Nat.reduceGT,Int.reduceToNat,Int.reduceNeg,Nat.reduceLeDiff,Nat.reduceBEq,Nat.reduceBneDiff,Value.cells]
  refine wp_loop' (fun m t G => ∃ (p : Nat) (κ' : Pal) (Dp : DiskF), t = tl [(0, ptrV j), (1, .int .u64 T), (4, .int .i64 p)] ∧ p ≤ P ∧ m = P - p ∧ Ext (diskC d) κ H κ' G ∧ JouR κ' G j d J ∧ DiskR κ' G d Dp ∧ lookF Dp.files (nameF T P) = none ∧ TF = tidyF T (64 - p) Dp p) P
    ⟨0, κ, D, rfl, by omega, by omega, Ext.refl _ _ _, R, RD, hl, hTF.symm⟩ ?_
  rintro m t G ⟨p, κ', Dp, rfl, hp, rfl, eG, RG, RDG, hlp, eT⟩
  have w1 : IntKind.i64.wrap ((p : Int) + 1) = ((p + 1 : Nat) : Int) := wrapN (by omega)
  obtain ⟨vb, vr, rs, RV⟩ := RG
  have q := RV.2.1
  have j0 : ∀ M, G.le M → hcell M ⟨j, 0, none⟩ = some (ptrV d) := fun M x => by rw [hcell_at (x _ _ q) (by simp)]; rfl
  have j00 := j0 G (Heap.le_refl _)
  simp -implicitDefEqProofs only [zB1,zB2,zB3,zB4,zB5,zB6,zB7,zB8,zB9,zB10,zB11,y00,y01,y02,y03,y04,y05,y06,y07,y08,y09,y0a,y0b,y0c,y0d,y0e,y0f,y0g,y0h,y0i,y0j,y0k,y0l,y0m,y0n,y0o,y0p,y0q,y0r,y0s,y0t,y0u,y0v,y0w,y0x,y0y,y0z,y10,y11,y12,y13,y14,y15,y16,y17,y18,y19,y1a,y1b,y1c,y1d,y1e,y1f,y1g,y1h,y1i,y1j,y1k,y1l,y1m,y1n,y1o,y1p,y1q,y1r,retO,retL,retV,z6i,allV,allP,z6j,z6m,z6n,z6t,z6u,z6v,binV,eqV,unV,oOpt,reduceIte,reduceCtorEq,Nat.reduceEqDiff,Nat.reduceAdd,Nat.reduceMul,Nat.reduceLT,Nat.reduceSub,Int.reduceLT,Int.reduceLE,Int.reduceEq,Int.reduceNe,Int.reduceSub,Int.reduceAdd,Int.reduceMul,Int.reduceBEq,Int.reduceBNe,Int.reduceGT,Int.reduceGE,Nat.reduceGT,Int.reduceToNat,Int.reduceNeg,Nat.reduceLeDiff,Nat.reduceBEq,Nat.reduceBneDiff,Value.cells]
  refine (journal_name_c E G T p ht (by omega)).mono ?_
  rintro v G1 ⟨le1, rfl⟩
  have j01 := j0 G1 le1
  simp -implicitDefEqProofs only [zB1,zB2,zB3,zB4,zB5,zB6,zB7,zB8,zB9,zB10,zB11,y00,y01,y02,y03,y04,y05,y06,y07,y08,y09,y0a,y0b,y0c,y0d,y0e,y0f,y0g,y0h,y0i,y0j,y0k,y0l,y0m,y0n,y0o,y0p,y0q,y0r,y0s,y0t,y0u,y0v,y0w,y0x,y0y,y0z,y10,y11,y12,y13,y14,y15,y16,y17,y18,y19,y1a,y1b,y1c,y1d,y1e,y1f,y1g,y1h,y1i,y1j,y1k,y1l,y1m,y1n,y1o,y1p,y1q,y1r,retO,retL,retV,z6i,allV,allP,z6j,z6m,z6n,z6t,z6u,z6v,binV,eqV,unV,oOpt,reduceIte,reduceCtorEq,Nat.reduceEqDiff,Nat.reduceAdd,Nat.reduceMul,Nat.reduceLT,Nat.reduceSub,Int.reduceLT,Int.reduceLE,Int.reduceEq,Int.reduceNe,Int.reduceSub,Int.reduceAdd,Int.reduceMul,Int.reduceBEq,Int.reduceBNe,Int.reduceGT,Int.reduceGE,Nat.reduceGT,Int.reduceToNat,Int.reduceNeg,Nat.reduceLeDiff,Nat.reduceBEq,Nat.reduceBneDiff,Value.cells, j00, j01, implies_true, List.mem_cons, List.not_mem_nil, List.mem_singleton, or_false, forall_eq, forall_eq_or_imp, and_self]
  refine (disk_Drop_c E (RDG.le le1) (nameF T p) (by have := @name_len T p; omega)).mono ?_
  rintro v G2 ⟨rfl, κ2, e2, R2⟩
  have RV2 := (RV.ext (Ext.le (cs := fun _ => False) le1) (fun _ _ q => q)).ext e2 fun c h q => ne (by unfold diskC at q; rw [← q, h])
  have e02 := eG.trans ((Ext.le le1).trans e2)
  obtain ⟨f, hf⟩ : ∃ f, 64 - p = f + 1 := ⟨63 - p, by omega⟩
  rw [hf, tidyF] at eT
  by_cases z : (dropF Dp (nameF T p)).2 = 0
  · rw [if_pos z] at eT
    have hpP : p < P := by
      by_cases h : p = P
      · subst h; exact absurd z (drop_fails hlp)
      · omega
    have z' : (((dropF Dp (nameF T p)).2 : Nat) : Int) = 0 := by omega
    simp -implicitDefEqProofs only [zB1,zB2,zB3,zB4,zB5,zB6,zB7,zB8,zB9,zB10,zB11,y00,y01,y02,y03,y04,y05,y06,y07,y08,y09,y0a,y0b,y0c,y0d,y0e,y0f,y0g,y0h,y0i,y0j,y0k,y0l,y0m,y0n,y0o,y0p,y0q,y0r,y0s,y0t,y0u,y0v,y0w,y0x,y0y,y0z,y10,y11,y12,y13,y14,y15,y16,y17,y18,y19,y1a,y1b,y1c,y1d,y1e,y1f,y1g,y1h,y1i,y1j,y1k,y1l,y1m,y1n,y1o,y1p,y1q,y1r,retO,retL,retV,z6i,allV,allP,z6j,z6m,z6n,z6t,z6u,z6v,binV,eqV,unV,oOpt,reduceIte,reduceCtorEq,Nat.reduceEqDiff,Nat.reduceAdd,Nat.reduceMul,Nat.reduceLT,Nat.reduceSub,Int.reduceLT,Int.reduceLE,Int.reduceEq,Int.reduceNe,Int.reduceSub,Int.reduceAdd,Int.reduceMul,Int.reduceBEq,Int.reduceBNe,Int.reduceGT,Int.reduceGE,Nat.reduceGT,Int.reduceToNat,Int.reduceNeg,Nat.reduceLeDiff,Nat.reduceBEq,Nat.reduceBneDiff,Value.cells, z', beq_self_eq_true, w1]
    refine ⟨_, ?_, p + 1, κ2, _, rfl, by omega, rfl, e02, ⟨vb, vr, rs, RV2⟩, R2, drop_look hlp, ?_⟩
    · omega
    · rw [eT]; congr 1; omega
  · rw [if_neg z] at eT
    rw [drop_same z] at R2
    have z' : ((((dropF Dp (nameF T p)).2 : Nat) : Int) == 0) = false := by simpa using z
    simp -implicitDefEqProofs only [zB1,zB2,zB3,zB4,zB5,zB6,zB7,zB8,zB9,zB10,zB11,y00,y01,y02,y03,y04,y05,y06,y07,y08,y09,y0a,y0b,y0c,y0d,y0e,y0f,y0g,y0h,y0i,y0j,y0k,y0l,y0m,y0n,y0o,y0p,y0q,y0r,y0s,y0t,y0u,y0v,y0w,y0x,y0y,y0z,y10,y11,y12,y13,y14,y15,y16,y17,y18,y19,y1a,y1b,y1c,y1d,y1e,y1f,y1g,y1h,y1i,y1j,y1k,y1l,y1m,y1n,y1o,y1p,y1q,y1r,retO,retL,retV,z6i,allV,allP,z6j,z6m,z6n,z6t,z6u,z6v,binV,eqV,unV,oOpt,reduceIte,reduceCtorEq,Nat.reduceEqDiff,Nat.reduceAdd,Nat.reduceMul,Nat.reduceLT,Nat.reduceSub,Int.reduceLT,Int.reduceLE,Int.reduceEq,Int.reduceNe,Int.reduceSub,Int.reduceAdd,Int.reduceMul,Int.reduceBEq,Int.reduceBNe,Int.reduceGT,Int.reduceGE,Nat.reduceGT,Int.reduceToNat,Int.reduceNeg,Nat.reduceLeDiff,Nat.reduceBEq,Nat.reduceBneDiff,Value.cells, z']
    rw [eT]
    exact ⟨κ2, e02, ⟨vb, vr, rs, RV2⟩, R2⟩

def baseN : List UInt8 := [98, 97, 115, 101]
def newN : List UInt8 := [110, 101, 119]
def readBaseF (J : JF) (D : DiskF) : JF × Nat :=
  if (readF D baseN).2 = 0 then
    match nextF (readF D baseN).1 with
    | some (x, y) => if y.length = 0 ∧ 8 ≤ x.length then ({ J with turn := (fromBigF (x.take 8)).toNat, base := x.drop 8 }, 0) else (J, 3)
    | none => (J, 3)
  else if (readF D baseN).2 = 4 then (J, 0) else (J, (readF D baseN).2)
/-- The base is another one. -/
theorem JouV.setb {κ : Pal} {H : Heap} {j d : Nat} {J : JF} {vb vr wv : Value} {rs : List Value} {b : List UInt8} (R : JouV κ H j d J vb vr rs) (o : OwK κ (j, j, 8) H 1 wv b.length (b.map u8V)) :
    JouV κ (H.set j (.own 0 [ptrV d, .int .i64 J.lives, .int .u64 (J.turn : Nat), .int .i64 (J.part : Nat), .bool J.written, wv, vr, .bool J.full] 8)) j d { J with base := b } wv vr rs := by
  obtain ⟨k, q, s1, s2, l, s3⟩ := R
  have e := Ext.set (H := H) k (.own 0 [ptrV d, .int .i64 J.lives, .int .u64 (J.turn : Nat), .int .i64 (J.part : Nat), .bool J.written, wv, vr, .bool J.full] 8)
  exact ⟨k, Heap.set_self _ _ _, e.own (by simp) o, e.own (by simp) s2, l, fun i h1 h2 => e.own (by simp) (s3 i h1 h2)⟩
theorem nextF_len {b x y : List UInt8} (h : nextF b = some (x, y)) : 20 + x.length + y.length = b.length ∧ x.length < 4294967296 * 4294967296 := by
  unfold nextF at h
  split at h
  · cases h
  · split at h
    · cases h
    · split at h
      · simp only [Option.some.injEq, Prod.mk.injEq] at h
        obtain ⟨rfl, rfl⟩ := h
        have := (fromBigF (b.take 4)).isLt
        rw [List.length_take, List.length_drop, List.length_drop]
        omega
      · cases h
theorem journal_readBase_c (E : EnvT tab) {κ : Pal} {H : Heap} {j d : Nat} {J : JF} {D : DiskF} (R : JouR κ H j d J) (RD : DiskR κ H d D) (ok : D.ok) :
    ACallN E.toEnv n_journal_Journal_readBase [ptrV j] H fun r H' => r = .int .i64 ((readBaseF J D).2 : Nat) ∧ ∃ κ', Ext (jouC j) κ H κ' H' ∧ JouR κ' H' j d (readBaseF J D).1 := by
  have R0 := R
  obtain ⟨vb, vr, rs, RV⟩ := R
  have q := RV.2.1
  refine acall h_journal_Journal_readBase ir_journal_Journal_readBase rfl rfl (wpA_sound ?_)
  unfold ir_journal_Journal_readBase
  have c0 : hcell H ⟨j, 0, none⟩ = some (ptrV d) := by rw [hcell_at q (by simp)]; rfl
  simp -implicitDefEqProofs only [zB1,zB2,zB3,zB4,zB5,zB6,zB7,zB8,zB9,zB10,zB11,y00,y01,y02,y03,y04,y05,y06,y07,y08,y09,y0a,y0b,y0c,y0d,y0e,y0f,y0g,y0h,y0i,y0j,y0k,y0l,y0m,y0n,y0o,y0p,y0q,y0r,y0s,y0t,y0u,y0v,y0w,y0x,y0y,y0z,y10,y11,y12,y13,y14,y15,y16,y17,y18,y19,y1a,y1b,y1c,y1d,y1e,y1f,y1g,y1h,y1i,y1j,y1k,y1l,y1m,y1n,y1o,y1p,y1q,y1r,retO,retL,retV,z6i,allV,allP,z6j,z6m,z6n,z6t,z6u,z6v,binV,eqV,unV,oOpt,reduceIte,reduceCtorEq,Nat.reduceEqDiff,Nat.reduceAdd,Nat.reduceMul,Nat.reduceLT,Nat.reduceSub,Int.reduceLT,Int.reduceLE,Int.reduceEq,Int.reduceNe,Int.reduceSub,Int.reduceAdd,Int.reduceMul,Int.reduceBEq,Int.reduceBNe,Int.reduceGT,Int.reduceGE,Nat.reduceGT,Int.reduceToNat,Int.reduceNeg,Nat.reduceLeDiff,Nat.reduceBEq,Nat.reduceBneDiff,Value.cells, c0]
  refine (disk_Read_c E RD ok baseN (by simp [baseN])).mono ?_
  rintro v H1 ⟨le1, sb, sc, rfl, o1⟩
  have hlen : (readF D baseN).1.length ≤ 1048576 := by
    unfold readF
    split
    · split
      · simp
      · rename_i F hF
        unfold lookF at hF
        obtain ⟨z, hz, rfl⟩ := Option.map_eq_some_iff.1 hF
        have := size_le (List.mem_of_find?_eq_some hz)
        have := ok.2.1
        unfold FileF.size at *
        show z.2.all.length ≤ _
        omega
    · simp
  unfold readBaseF
  generalize readF D baseN = X at o1 hlen ⊢
  obtain ⟨b, e⟩ := X
  simp only at o1 hlen ⊢
  have ew : Ext (fun _ => False) κ H (κ.wash H) H1 := Ext.wash le1
  have RV1 := RV.ext ew (fun _ _ q => q)
  have s1 : SlB (H1.bare (κ.wash H)) (.slice sb b.length sc) b := o1.bare
  have ej : Ext (jouC j) κ H (κ.wash H) H1 := ew.mono fun c h => h.elim
  generalize κ.wash H = κ1 at RV1 s1 ej
  by_cases e0 : e = 0
  · subst e0
    simp -implicitDefEqProofs only [zB1,zB2,zB3,zB4,zB5,zB6,zB7,zB8,zB9,zB10,zB11,y00,y01,y02,y03,y04,y05,y06,y07,y08,y09,y0a,y0b,y0c,y0d,y0e,y0f,y0g,y0h,y0i,y0j,y0k,y0l,y0m,y0n,y0o,y0p,y0q,y0r,y0s,y0t,y0u,y0v,y0w,y0x,y0y,y0z,y10,y11,y12,y13,y14,y15,y16,y17,y18,y19,y1a,y1b,y1c,y1d,y1e,y1f,y1g,y1h,y1i,y1j,y1k,y1l,y1m,y1n,y1o,y1p,y1q,y1r,retO,retL,retV,z6i,allV,allP,z6j,z6m,z6n,z6t,z6u,z6v,binV,eqV,unV,oOpt,reduceIte,reduceCtorEq,Nat.reduceEqDiff,Nat.reduceAdd,Nat.reduceMul,Nat.reduceLT,Nat.reduceSub,Int.reduceLT,Int.reduceLE,Int.reduceEq,Int.reduceNe,Int.reduceSub,Int.reduceAdd,Int.reduceMul,Int.reduceBEq,Int.reduceBNe,Int.reduceGT,Int.reduceGE,Nat.reduceGT,Int.reduceToNat,Int.reduceNeg,Nat.reduceLeDiff,Nat.reduceBEq,Nat.reduceBneDiff,Value.cells, beq_self_eq_true]
    unfold ir_journal_Journal_readBase_23
    simp -implicitDefEqProofs only [zB1,zB2,zB3,zB4,zB5,zB6,zB7,zB8,zB9,zB10,zB11,y00,y01,y02,y03,y04,y05,y06,y07,y08,y09,y0a,y0b,y0c,y0d,y0e,y0f,y0g,y0h,y0i,y0j,y0k,y0l,y0m,y0n,y0o,y0p,y0q,y0r,y0s,y0t,y0u,y0v,y0w,y0x,y0y,y0z,y10,y11,y12,y13,y14,y15,y16,y17,y18,y19,y1a,y1b,y1c,y1d,y1e,y1f,y1g,y1h,y1i,y1j,y1k,y1l,y1m,y1n,y1o,y1p,y1q,y1r,retO,retL,retV,z6i,allV,allP,z6j,z6m,z6n,z6t,z6u,z6v,binV,eqV,unV,oOpt,reduceIte,reduceCtorEq,Nat.reduceEqDiff,Nat.reduceAdd,Nat.reduceMul,Nat.reduceLT,Nat.reduceSub,Int.reduceLT,Int.reduceLE,Int.reduceEq,Int.reduceNe,Int.reduceSub,Int.reduceAdd,Int.reduceMul,Int.reduceBEq,Int.reduceBNe,Int.reduceGT,Int.reduceGE,Nat.reduceGT,Int.reduceToNat,Int.reduceNeg,Nat.reduceLeDiff,Nat.reduceBEq,Nat.reduceBneDiff,Value.cells]
    refine (journal_next_c E (Heap.bare_le H1 κ1) b (by omega) s1).mono ?_
    rintro v H2 ⟨le2, h⟩
    have ej2 := ej.trans (Ext.le (κ := κ1) le2)
    have RV2 := RV1.ext (Ext.le (cs := fun _ => False) le2) (fun _ _ q => q)
    have lb2 : (H1.bare κ1).le (H2.bare κ1) := (Ext.le (cs := fun _ => False) le2).bare
    rcases h with ⟨hn, rfl⟩ | ⟨x, y, vx, vy, hn, rfl, sx, sy⟩
    · rw [hn]
      simp -implicitDefEqProofs only [zB1,zB2,zB3,zB4,zB5,zB6,zB7,zB8,zB9,zB10,zB11,y00,y01,y02,y03,y04,y05,y06,y07,y08,y09,y0a,y0b,y0c,y0d,y0e,y0f,y0g,y0h,y0i,y0j,y0k,y0l,y0m,y0n,y0o,y0p,y0q,y0r,y0s,y0t,y0u,y0v,y0w,y0x,y0y,y0z,y10,y11,y12,y13,y14,y15,y16,y17,y18,y19,y1a,y1b,y1c,y1d,y1e,y1f,y1g,y1h,y1i,y1j,y1k,y1l,y1m,y1n,y1o,y1p,y1q,y1r,retO,retL,retV,z6i,allV,allP,z6j,z6m,z6n,z6t,z6u,z6v,binV,eqV,unV,oOpt,reduceIte,reduceCtorEq,Nat.reduceEqDiff,Nat.reduceAdd,Nat.reduceMul,Nat.reduceLT,Nat.reduceSub,Int.reduceLT,Int.reduceLE,Int.reduceEq,Int.reduceNe,Int.reduceSub,Int.reduceAdd,Int.reduceMul,Int.reduceBEq,Int.reduceBNe,Int.reduceGT,Int.reduceGE,Nat.reduceGT,Int.reduceToNat,Int.reduceNeg,Nat.reduceLeDiff,Nat.reduceBEq,Nat.reduceBneDiff,Value.cells]
      exact ⟨κ1, ej2, ⟨vb, vr, rs, RV2⟩⟩
    · rw [hn]
      obtain ⟨xb, xc, rfl⟩ := Sl.shape sx
      obtain ⟨yb, yc, rfl⟩ := Sl.shape sy
      have hcap := Sl.cap sx
      obtain ⟨nl, -⟩ := nextF_len hn
      by_cases hy : y.length = 0
      · by_cases hx : 8 ≤ x.length
        · have g1 : ¬ ((0 : Int) < y.length) := by omega
          have g2 : ¬ ((x.length : Int) < 8) := by omega
          have b1 : bnds x.length xc none (some (some (.int .i64 8))) none = some (0, 8, xc) := bnds_hi (by omega) (by omega)
          have b2 : bnds x.length xc (some (some (.int .i64 8))) none none = some (8, x.length, xc) := bnds_lo (by omega) (by omega)
          have ab : ∀ (z : Option Addr), (if xc = 0 then z else z.map fun a => a.add 0) = z := fun z => addO z xc (fun a _ => addr_add0 a)
          have e8 : (x.take 8).length = 8 := by rw [List.length_take]; omega
          have s8 := Sl.headB (sx.le (Heap.le_trans lb2 (Heap.bare_le _ _))) (m := 8) hx
          have s9 := Sl.midB (sx.le lb2) (a := 8) (b := x.length) hx (Nat.le_refl _)
          rw [List.take_of_length_le (by rw [List.length_drop]; omega)] at s9
          simp -implicitDefEqProofs only [zB1,zB2,zB3,zB4,zB5,zB6,zB7,zB8,zB9,zB10,zB11,y00,y01,y02,y03,y04,y05,y06,y07,y08,y09,y0a,y0b,y0c,y0d,y0e,y0f,y0g,y0h,y0i,y0j,y0k,y0l,y0m,y0n,y0o,y0p,y0q,y0r,y0s,y0t,y0u,y0v,y0w,y0x,y0y,y0z,y10,y11,y12,y13,y14,y15,y16,y17,y18,y19,y1a,y1b,y1c,y1d,y1e,y1f,y1g,y1h,y1i,y1j,y1k,y1l,y1m,y1n,y1o,y1p,y1q,y1r,retO,retL,retV,z6i,allV,allP,z6j,z6m,z6n,z6t,z6u,z6v,binV,eqV,unV,oOpt,reduceIte,reduceCtorEq,Nat.reduceEqDiff,Nat.reduceAdd,Nat.reduceMul,Nat.reduceLT,Nat.reduceSub,Int.reduceLT,Int.reduceLE,Int.reduceEq,Int.reduceNe,Int.reduceSub,Int.reduceAdd,Int.reduceMul,Int.reduceBEq,Int.reduceBNe,Int.reduceGT,Int.reduceGE,Nat.reduceGT,Int.reduceToNat,Int.reduceNeg,Nat.reduceLeDiff,Nat.reduceBEq,Nat.reduceBneDiff,Value.cells, g1, g2, hy, hx]
          unfold ir_journal_Journal_readBase_41
          simp -implicitDefEqProofs only [zB1,zB2,zB3,zB4,zB5,zB6,zB7,zB8,zB9,zB10,zB11,y00,y01,y02,y03,y04,y05,y06,y07,y08,y09,y0a,y0b,y0c,y0d,y0e,y0f,y0g,y0h,y0i,y0j,y0k,y0l,y0m,y0n,y0o,y0p,y0q,y0r,y0s,y0t,y0u,y0v,y0w,y0x,y0y,y0z,y10,y11,y12,y13,y14,y15,y16,y17,y18,y19,y1a,y1b,y1c,y1d,y1e,y1f,y1g,y1h,y1i,y1j,y1k,y1l,y1m,y1n,y1o,y1p,y1q,y1r,retO,retL,retV,z6i,allV,allP,z6j,z6m,z6n,z6t,z6u,z6v,binV,eqV,unV,oOpt,reduceIte,reduceCtorEq,Nat.reduceEqDiff,Nat.reduceAdd,Nat.reduceMul,Nat.reduceLT,Nat.reduceSub,Int.reduceLT,Int.reduceLE,Int.reduceEq,Int.reduceNe,Int.reduceSub,Int.reduceAdd,Int.reduceMul,Int.reduceBEq,Int.reduceBNe,Int.reduceGT,Int.reduceGE,Nat.reduceGT,Int.reduceToNat,Int.reduceNeg,Nat.reduceLeDiff,Nat.reduceBEq,Nat.reduceBneDiff,Value.cells, b1, b2, ab, Nat.sub_zero]
          refine (octet_FromBig_c E H2 (x.take 8) (by omega) (by unfold SlB; rw [e8]; unfold SlB at s8; rw [e8] at s8; exact s8)).mono ?_
          rintro v H3 ⟨rfl, rfl⟩
          have st1 : storeV H3 1 (.pointer (some ⟨j, 2, none⟩)) (.int .u64 ((fromBigF (x.take 8)).toNat : Nat)) = some (H3.set j (.own 0 [ptrV d, .int .i64 J.lives, .int .u64 ((fromBigF (x.take 8)).toNat : Nat), .int .i64 (J.part : Nat), .bool J.written, vb, vr, .bool J.full] 8)) := storeV_one_at RV2.2.1 rfl (by simp) (by simp)
          have P1 := RV2.put (fromBigF (x.take 8)).toNat J.part J.written J.full
          have e3 := RV2.put_ext (.own 0 [ptrV d, .int .i64 J.lives, .int .u64 ((fromBigF (x.take 8)).toNat : Nat), .int .i64 (J.part : Nat), .bool J.written, vb, vr, .bool J.full] 8)
          have s10 := s9.le e3.bare
          simp -implicitDefEqProofs only [zB1,zB2,zB3,zB4,zB5,zB6,zB7,zB8,zB9,zB10,zB11,y00,y01,y02,y03,y04,y05,y06,y07,y08,y09,y0a,y0b,y0c,y0d,y0e,y0f,y0g,y0h,y0i,y0j,y0k,y0l,y0m,y0n,y0o,y0p,y0q,y0r,y0s,y0t,y0u,y0v,y0w,y0x,y0y,y0z,y10,y11,y12,y13,y14,y15,y16,y17,y18,y19,y1a,y1b,y1c,y1d,y1e,y1f,y1g,y1h,y1i,y1j,y1k,y1l,y1m,y1n,y1o,y1p,y1q,y1r,retO,retL,retV,z6i,allV,allP,z6j,z6m,z6n,z6t,z6u,z6v,binV,eqV,unV,oOpt,reduceIte,reduceCtorEq,Nat.reduceEqDiff,Nat.reduceAdd,Nat.reduceMul,Nat.reduceLT,Nat.reduceSub,Int.reduceLT,Int.reduceLE,Int.reduceEq,Int.reduceNe,Int.reduceSub,Int.reduceAdd,Int.reduceMul,Int.reduceBEq,Int.reduceBNe,Int.reduceGT,Int.reduceGE,Nat.reduceGT,Int.reduceToNat,Int.reduceNeg,Nat.reduceLeDiff,Nat.reduceBEq,Nat.reduceBneDiff,Value.cells, u64V, st1, b2]
          generalize (H3.set j (.own 0 [ptrV d, .int .i64 J.lives, .int .u64 ((fromBigF (x.take 8)).toNat : Nat), .int .i64 (J.part : Nat), .bool J.written, vb, vr, .bool J.full] 8)) = H4 at P1 e3 s10 ⊢
          refine (bytes_Clone_c E H4 (x.drop 8) (by rw [List.length_drop]; omega) (s10.le (Heap.bare_le _ _))).mono ?_
          rintro wv H5 ⟨le5, o5⟩
          have e5 : Ext (fun _ => False) κ1 H4 (κ1.grow H4 (j, j, 8)) H5 := Ext.tint le5
          have P5 := P1.ext e5 (fun _ _ q => q)
          have o5' : OwK (κ1.grow H4 (j, j, 8)) (j, j, 8) H5 1 wv (x.drop 8).length ((x.drop 8).map u8V) := OwK.tinted o5
          have ow1 : one wv = true := by
            obtain ⟨wb, wc, rfl⟩ := Sl.shape o5.sl
            rfl
          have st2 : storeV H5 1 (.pointer (some ⟨j, 5, none⟩)) wv = some (H5.set j (.own 0 [ptrV d, .int .i64 J.lives, .int .u64 ((fromBigF (x.take 8)).toNat : Nat), .int .i64 (J.part : Nat), .bool J.written, wv, vr, .bool J.full] 8)) := storeV_one_at P5.2.1 ow1 (by simp) (by simp)
          have P6 := P5.setb o5'
          have e6 := P5.put_ext (.own 0 [ptrV d, .int .i64 J.lives, .int .u64 ((fromBigF (x.take 8)).toNat : Nat), .int .i64 (J.part : Nat), .bool J.written, wv, vr, .bool J.full] 8)
          simp -implicitDefEqProofs only [zB1,zB2,zB3,zB4,zB5,zB6,zB7,zB8,zB9,zB10,zB11,y00,y01,y02,y03,y04,y05,y06,y07,y08,y09,y0a,y0b,y0c,y0d,y0e,y0f,y0g,y0h,y0i,y0j,y0k,y0l,y0m,y0n,y0o,y0p,y0q,y0r,y0s,y0t,y0u,y0v,y0w,y0x,y0y,y0z,y10,y11,y12,y13,y14,y15,y16,y17,y18,y19,y1a,y1b,y1c,y1d,y1e,y1f,y1g,y1h,y1i,y1j,y1k,y1l,y1m,y1n,y1o,y1p,y1q,y1r,retO,retL,retV,z6i,allV,allP,z6j,z6m,z6n,z6t,z6u,z6v,binV,eqV,unV,oOpt,reduceIte,reduceCtorEq,Nat.reduceEqDiff,Nat.reduceAdd,Nat.reduceMul,Nat.reduceLT,Nat.reduceSub,Int.reduceLT,Int.reduceLE,Int.reduceEq,Int.reduceNe,Int.reduceSub,Int.reduceAdd,Int.reduceMul,Int.reduceBEq,Int.reduceBNe,Int.reduceGT,Int.reduceGE,Nat.reduceGT,Int.reduceToNat,Int.reduceNeg,Nat.reduceLeDiff,Nat.reduceBEq,Nat.reduceBneDiff,Value.cells, st2]
          exact ⟨_, ((ej2.trans e3).trans (e5.mono fun c h => h.elim)).trans e6, wv, vr, rs, P6⟩
        · have g1 : ¬ ((0 : Int) < y.length) := by omega
          have g2 : ((x.length : Int) < 8) := by omega
          simp -implicitDefEqProofs only [zB1,zB2,zB3,zB4,zB5,zB6,zB7,zB8,zB9,zB10,zB11,y00,y01,y02,y03,y04,y05,y06,y07,y08,y09,y0a,y0b,y0c,y0d,y0e,y0f,y0g,y0h,y0i,y0j,y0k,y0l,y0m,y0n,y0o,y0p,y0q,y0r,y0s,y0t,y0u,y0v,y0w,y0x,y0y,y0z,y10,y11,y12,y13,y14,y15,y16,y17,y18,y19,y1a,y1b,y1c,y1d,y1e,y1f,y1g,y1h,y1i,y1j,y1k,y1l,y1m,y1n,y1o,y1p,y1q,y1r,retO,retL,retV,z6i,allV,allP,z6j,z6m,z6n,z6t,z6u,z6v,binV,eqV,unV,oOpt,reduceIte,reduceCtorEq,Nat.reduceEqDiff,Nat.reduceAdd,Nat.reduceMul,Nat.reduceLT,Nat.reduceSub,Int.reduceLT,Int.reduceLE,Int.reduceEq,Int.reduceNe,Int.reduceSub,Int.reduceAdd,Int.reduceMul,Int.reduceBEq,Int.reduceBNe,Int.reduceGT,Int.reduceGE,Nat.reduceGT,Int.reduceToNat,Int.reduceNeg,Nat.reduceLeDiff,Nat.reduceBEq,Nat.reduceBneDiff,Value.cells, g1, g2, hy, hx]
          exact ⟨κ1, ej2, ⟨vb, vr, rs, RV2⟩⟩
      · have g1 : ((0 : Int) < y.length) := by omega
        simp -implicitDefEqProofs only [zB1,zB2,zB3,zB4,zB5,zB6,zB7,zB8,zB9,zB10,zB11,y00,y01,y02,y03,y04,y05,y06,y07,y08,y09,y0a,y0b,y0c,y0d,y0e,y0f,y0g,y0h,y0i,y0j,y0k,y0l,y0m,y0n,y0o,y0p,y0q,y0r,y0s,y0t,y0u,y0v,y0w,y0x,y0y,y0z,y10,y11,y12,y13,y14,y15,y16,y17,y18,y19,y1a,y1b,y1c,y1d,y1e,y1f,y1g,y1h,y1i,y1j,y1k,y1l,y1m,y1n,y1o,y1p,y1q,y1r,retO,retL,retV,z6i,allV,allP,z6j,z6m,z6n,z6t,z6u,z6v,binV,eqV,unV,oOpt,reduceIte,reduceCtorEq,Nat.reduceEqDiff,Nat.reduceAdd,Nat.reduceMul,Nat.reduceLT,Nat.reduceSub,Int.reduceLT,Int.reduceLE,Int.reduceEq,Int.reduceNe,Int.reduceSub,Int.reduceAdd,Int.reduceMul,Int.reduceBEq,Int.reduceBNe,Int.reduceGT,Int.reduceGE,Nat.reduceGT,Int.reduceToNat,Int.reduceNeg,Nat.reduceLeDiff,Nat.reduceBEq,Nat.reduceBneDiff,Value.cells, g1, hy, false_and]
        exact ⟨κ1, ej2, ⟨vb, vr, rs, RV2⟩⟩
  · have e0' : (((e : Nat) : Int) == 0) = false := by simpa using e0
    by_cases e4 : e = 4
    · subst e4
      simp -implicitDefEqProofs only [zB1,zB2,zB3,zB4,zB5,zB6,zB7,zB8,zB9,zB10,zB11,y00,y01,y02,y03,y04,y05,y06,y07,y08,y09,y0a,y0b,y0c,y0d,y0e,y0f,y0g,y0h,y0i,y0j,y0k,y0l,y0m,y0n,y0o,y0p,y0q,y0r,y0s,y0t,y0u,y0v,y0w,y0x,y0y,y0z,y10,y11,y12,y13,y14,y15,y16,y17,y18,y19,y1a,y1b,y1c,y1d,y1e,y1f,y1g,y1h,y1i,y1j,y1k,y1l,y1m,y1n,y1o,y1p,y1q,y1r,retO,retL,retV,z6i,allV,allP,z6j,z6m,z6n,z6t,z6u,z6v,binV,eqV,unV,oOpt,reduceIte,reduceCtorEq,Nat.reduceEqDiff,Nat.reduceAdd,Nat.reduceMul,Nat.reduceLT,Nat.reduceSub,Int.reduceLT,Int.reduceLE,Int.reduceEq,Int.reduceNe,Int.reduceSub,Int.reduceAdd,Int.reduceMul,Int.reduceBEq,Int.reduceBNe,Int.reduceGT,Int.reduceGE,Nat.reduceGT,Int.reduceToNat,Int.reduceNeg,Nat.reduceLeDiff,Nat.reduceBEq,Nat.reduceBneDiff,Value.cells, e0', e0, beq_self_eq_true]
      exact ⟨κ1, ej, ⟨vb, vr, rs, RV1⟩⟩
    · have e4' : (((e : Nat) : Int) == 4) = false := by simp; omega
      simp -implicitDefEqProofs only [zB1,zB2,zB3,zB4,zB5,zB6,zB7,zB8,zB9,zB10,zB11,y00,y01,y02,y03,y04,y05,y06,y07,y08,y09,y0a,y0b,y0c,y0d,y0e,y0f,y0g,y0h,y0i,y0j,y0k,y0l,y0m,y0n,y0o,y0p,y0q,y0r,y0s,y0t,y0u,y0v,y0w,y0x,y0y,y0z,y10,y11,y12,y13,y14,y15,y16,y17,y18,y19,y1a,y1b,y1c,y1d,y1e,y1f,y1g,y1h,y1i,y1j,y1k,y1l,y1m,y1n,y1o,y1p,y1q,y1r,retO,retL,retV,z6i,allV,allP,z6j,z6m,z6n,z6t,z6u,z6v,binV,eqV,unV,oOpt,reduceIte,reduceCtorEq,Nat.reduceEqDiff,Nat.reduceAdd,Nat.reduceMul,Nat.reduceLT,Nat.reduceSub,Int.reduceLT,Int.reduceLE,Int.reduceEq,Int.reduceNe,Int.reduceSub,Int.reduceAdd,Int.reduceMul,Int.reduceBEq,Int.reduceBNe,Int.reduceGT,Int.reduceGE,Nat.reduceGT,Int.reduceToNat,Int.reduceNeg,Nat.reduceLeDiff,Nat.reduceBEq,Nat.reduceBneDiff,Value.cells, e0', e4', e0, e4]
      exact ⟨κ1, ej, ⟨vb, vr, rs, RV1⟩⟩
end Go.Bb
/- Contracts: a journal's file of records read. -/
namespace Go.Bb
set_option linter.unusedSimpArgs false
set_option linter.unusedVariables false
set_option maxRecDepth 20000
set_option maxHeartbeats 2000000

def parseF : Nat → List UInt8 → List (List UInt8) × Bool
  | 0, b => ([], decide (b.length = 0))
  | n + 1, b => if b.length = 0 then ([], true) else
    match nextF b with
    | none => ([], false)
    | some (x, y) => (x :: (parseF n y).1, (parseF n y).2)
theorem parseF_len : ∀ (n : Nat) (b : List UInt8), (parseF n b).1.length * 20 ≤ b.length
  | 0, b => by simp [parseF]
  | n + 1, b => by
    unfold parseF
    split
    · simp
    · split
      · simp
      · rename_i x y h
        have h1 := (nextF_len h).1
        have h2 := parseF_len n y
        simp only [List.length_cons]
        omega
def readPartF (J : JF) (D : DiskF) (p : Nat) : JF × DiskF × Bool :=
  if (readF D (nameF J.turn p)).2 = 0 then
    ({ J with part := if (parseF (readF D (nameF J.turn p)).1.length (readF D (nameF J.turn p)).1).2 then p else p + 1, written := (parseF (readF D (nameF J.turn p)).1.length (readF D (nameF J.turn p)).1).2, recs := J.recs ++ (parseF (readF D (nameF J.turn p)).1.length (readF D (nameF J.turn p)).1).1 },
      (syncF D (nameF J.turn p)).1, true)
  else (J, D, false)
theorem readF_len {D : DiskF} (ok : D.ok) (s : List UInt8) : (readF D s).1.length ≤ 1048576 := by
  unfold readF
  split
  · split
    · simp
    · rename_i F hF
      unfold lookF at hF
      obtain ⟨z, hz, rfl⟩ := Option.map_eq_some_iff.1 hF
      have := size_le (List.mem_of_find?_eq_some hz)
      have := ok.2.1
      unfold FileF.size at *
      show z.2.all.length ≤ _
      omega
  · simp
theorem journal_readPart_c (E : EnvT tab) {κ : Pal} {H : Heap} {j d : Nat} {J : JF} {D : DiskF} (R : JouR κ H j d J) (RD : DiskR κ H d D) (ne : d ≠ j) (ok : D.ok) (ht : J.turn < 64) (p : Nat) (hp : p < 64) (hr : J.recs.length ≤ 10000000) :
    ACallN E.toEnv n_journal_Journal_readPart [ptrV j, .int .i64 p] H fun r H' => r = .bool (readPartF J D p).2.2 ∧ ∃ κ', Ext (jdC j d) κ H κ' H' ∧ JouR κ' H' j d (readPartF J D p).1 ∧ DiskR κ' H' d (readPartF J D p).2.1 := by
  have R0 := R
  obtain ⟨vb, vr, rs, RV⟩ := R
  have q := RV.2.1
  refine acall h_journal_Journal_readPart ir_journal_Journal_readPart rfl rfl (wpA_sound ?_)
  unfold ir_journal_Journal_readPart
  have j0 : ∀ M, H.le M → hcell M ⟨j, 0, none⟩ = some (ptrV d) := fun M x => by rw [hcell_at (x _ _ q) (by simp)]; rfl
  have j2 : hcell H ⟨j, 2, none⟩ = some (.int .u64 (J.turn : Nat)) := by rw [hcell_at q (by simp)]; rfl
  have j00 := j0 H (Heap.le_refl _)
  simp -implicitDefEqProofs only [zB1,zB2,zB3,zB4,zB5,zB6,zB7,zB8,zB9,zB10,zB11,y00,y01,y02,y03,y04,y05,y06,y07,y08,y09,y0a,y0b,y0c,y0d,y0e,y0f,y0g,y0h,y0i,y0j,y0k,y0l,y0m,y0n,y0o,y0p,y0q,y0r,y0s,y0t,y0u,y0v,y0w,y0x,y0y,y0z,y10,y11,y12,y13,y14,y15,y16,y17,y18,y19,y1a,y1b,y1c,y1d,y1e,y1f,y1g,y1h,y1i,y1j,y1k,y1l,y1m,y1n,y1o,y1p,y1q,y1r,retO,retL,retV,z6i,allV,allP,z6j,z6m,z6n,z6t,z6u,z6v,binV,eqV,unV,oOpt,reduceIte,reduceCtorEq,Nat.reduceEqDiff,Nat.reduceAdd,Nat.reduceMul,Nat.reduceLT,Nat.reduceSub,Int.reduceLT,Int.reduceLE,Int.reduceEq,Int.reduceNe,Int.reduceSub,Int.reduceAdd,Int.reduceMul,Int.reduceBEq,Int.reduceBNe,Int.reduceGT,Int.reduceGE,Nat.reduceGT,Int.reduceToNat,Int.reduceNeg,Nat.reduceLeDiff,Nat.reduceBEq,Nat.reduceBneDiff,Value.cells, j2]
  refine (journal_name_c E H J.turn p ht hp).mono ?_
  rintro v H1 ⟨le1, rfl⟩
  have j01 := j0 H1 le1
  simp -implicitDefEqProofs only [zB1,zB2,zB3,zB4,zB5,zB6,zB7,zB8,zB9,zB10,zB11,y00,y01,y02,y03,y04,y05,y06,y07,y08,y09,y0a,y0b,y0c,y0d,y0e,y0f,y0g,y0h,y0i,y0j,y0k,y0l,y0m,y0n,y0o,y0p,y0q,y0r,y0s,y0t,y0u,y0v,y0w,y0x,y0y,y0z,y10,y11,y12,y13,y14,y15,y16,y17,y18,y19,y1a,y1b,y1c,y1d,y1e,y1f,y1g,y1h,y1i,y1j,y1k,y1l,y1m,y1n,y1o,y1p,y1q,y1r,retO,retL,retV,z6i,allV,allP,z6j,z6m,z6n,z6t,z6u,z6v,binV,eqV,unV,oOpt,reduceIte,reduceCtorEq,Nat.reduceEqDiff,Nat.reduceAdd,Nat.reduceMul,Nat.reduceLT,Nat.reduceSub,Int.reduceLT,Int.reduceLE,Int.reduceEq,Int.reduceNe,Int.reduceSub,Int.reduceAdd,Int.reduceMul,Int.reduceBEq,Int.reduceBNe,Int.reduceGT,Int.reduceGE,Nat.reduceGT,Int.reduceToNat,Int.reduceNeg,Nat.reduceLeDiff,Nat.reduceBEq,Nat.reduceBneDiff,Value.cells, j00, j01, implies_true, List.mem_cons, List.not_mem_nil, List.mem_singleton, or_false, forall_eq, forall_eq_or_imp, and_self]
  refine (disk_Read_c E (RD.le le1) ok (nameF J.turn p) (by have := @name_len J.turn p; omega)).mono ?_
  rintro v H2 ⟨le2, sb, sc, rfl, o2⟩
  have hlen := readF_len ok (nameF J.turn p)
  unfold readPartF
  generalize readF D (nameF J.turn p) = X at o2 hlen ⊢
  obtain ⟨b, e⟩ := X
  simp only at o2 hlen ⊢
  have le02 := Heap.le_trans le1 le2
  by_cases e0 : ¬ e = 0
  · have e0' : ¬ ((e : Nat) : Int) = 0 := by omega
    simp -implicitDefEqProofs only [zB1,zB2,zB3,zB4,zB5,zB6,zB7,zB8,zB9,zB10,zB11,y00,y01,y02,y03,y04,y05,y06,y07,y08,y09,y0a,y0b,y0c,y0d,y0e,y0f,y0g,y0h,y0i,y0j,y0k,y0l,y0m,y0n,y0o,y0p,y0q,y0r,y0s,y0t,y0u,y0v,y0w,y0x,y0y,y0z,y10,y11,y12,y13,y14,y15,y16,y17,y18,y19,y1a,y1b,y1c,y1d,y1e,y1f,y1g,y1h,y1i,y1j,y1k,y1l,y1m,y1n,y1o,y1p,y1q,y1r,retO,retL,retV,z6i,allV,allP,z6j,z6m,z6n,z6t,z6u,z6v,binV,eqV,unV,oOpt,reduceIte,reduceCtorEq,Nat.reduceEqDiff,Nat.reduceAdd,Nat.reduceMul,Nat.reduceLT,Nat.reduceSub,Int.reduceLT,Int.reduceLE,Int.reduceEq,Int.reduceNe,Int.reduceSub,Int.reduceAdd,Int.reduceMul,Int.reduceBEq,Int.reduceBNe,Int.reduceGT,Int.reduceGE,Nat.reduceGT,Int.reduceToNat,Int.reduceNeg,Nat.reduceLeDiff,Nat.reduceBEq,Nat.reduceBneDiff,Value.cells, e0', e0]
    exact ⟨κ, Ext.le le02, R0.le le02, RD.le le02⟩
  have e0 := Decidable.not_not.1 e0
  subst e0
  have ew : Ext (fun _ => False) κ H ((κ.wash H1)) H2 := (Ext.le (cs := fun _ => False) le1).trans (Ext.wash le2)
  have RV2 := RV.ext ew (fun _ _ q => q)
  have RD2 := RD.ext ew (fun _ _ q => q)
  have s2 : SlB (H2.bare (κ.wash H1)) (.slice sb b.length sc) b := o2.bare
  generalize κ.wash H1 = κ2 at ew RV2 RD2 s2
  have q2 := RV2.2.1
  have k0 : ∀ M, H2.le M → hcell M ⟨j, 0, none⟩ = some (ptrV d) := fun M x => by rw [hcell_at (x _ _ q2) (by simp)]; rfl
  have k2 : hcell H2 ⟨j, 2, none⟩ = some (.int .u64 (J.turn : Nat)) := by rw [hcell_at q2 (by simp)]; rfl
  have k00 := k0 H2 (Heap.le_refl _)
  simp -implicitDefEqProofs only [zB1,zB2,zB3,zB4,zB5,zB6,zB7,zB8,zB9,zB10,zB11,y00,y01,y02,y03,y04,y05,y06,y07,y08,y09,y0a,y0b,y0c,y0d,y0e,y0f,y0g,y0h,y0i,y0j,y0k,y0l,y0m,y0n,y0o,y0p,y0q,y0r,y0s,y0t,y0u,y0v,y0w,y0x,y0y,y0z,y10,y11,y12,y13,y14,y15,y16,y17,y18,y19,y1a,y1b,y1c,y1d,y1e,y1f,y1g,y1h,y1i,y1j,y1k,y1l,y1m,y1n,y1o,y1p,y1q,y1r,retO,retL,retV,z6i,allV,allP,z6j,z6m,z6n,z6t,z6u,z6v,binV,eqV,unV,oOpt,reduceIte,reduceCtorEq,Nat.reduceEqDiff,Nat.reduceAdd,Nat.reduceMul,Nat.reduceLT,Nat.reduceSub,Int.reduceLT,Int.reduceLE,Int.reduceEq,Int.reduceNe,Int.reduceSub,Int.reduceAdd,Int.reduceMul,Int.reduceBEq,Int.reduceBNe,Int.reduceGT,Int.reduceGE,Nat.reduceGT,Int.reduceToNat,Int.reduceNeg,Nat.reduceLeDiff,Nat.reduceBEq,Nat.reduceBneDiff,Value.cells]
  unfold ir_journal_Journal_readPart_30
  simp -implicitDefEqProofs only [zB1,zB2,zB3,zB4,zB5,zB6,zB7,zB8,zB9,zB10,zB11,y00,y01,y02,y03,y04,y05,y06,y07,y08,y09,y0a,y0b,y0c,y0d,y0e,y0f,y0g,y0h,y0i,y0j,y0k,y0l,y0m,y0n,y0o,y0p,y0q,y0r,y0s,y0t,y0u,y0v,y0w,y0x,y0y,y0z,y10,y11,y12,y13,y14,y15,y16,y17,y18,y19,y1a,y1b,y1c,y1d,y1e,y1f,y1g,y1h,y1i,y1j,y1k,y1l,y1m,y1n,y1o,y1p,y1q,y1r,retO,retL,retV,z6i,allV,allP,z6j,z6m,z6n,z6t,z6u,z6v,binV,eqV,unV,oOpt,reduceIte,reduceCtorEq,Nat.reduceEqDiff,Nat.reduceAdd,Nat.reduceMul,Nat.reduceLT,Nat.reduceSub,Int.reduceLT,Int.reduceLE,Int.reduceEq,Int.reduceNe,Int.reduceSub,Int.reduceAdd,Int.reduceMul,Int.reduceBEq,Int.reduceBNe,Int.reduceGT,Int.reduceGE,Nat.reduceGT,Int.reduceToNat,Int.reduceNeg,Nat.reduceLeDiff,Nat.reduceBEq,Nat.reduceBneDiff,Value.cells, k2]
  refine (journal_name_c E H2 J.turn p ht hp).mono ?_
  rintro v H3 ⟨le3, rfl⟩
  have k01 := k0 H3 le3
  simp -implicitDefEqProofs only [zB1,zB2,zB3,zB4,zB5,zB6,zB7,zB8,zB9,zB10,zB11,y00,y01,y02,y03,y04,y05,y06,y07,y08,y09,y0a,y0b,y0c,y0d,y0e,y0f,y0g,y0h,y0i,y0j,y0k,y0l,y0m,y0n,y0o,y0p,y0q,y0r,y0s,y0t,y0u,y0v,y0w,y0x,y0y,y0z,y10,y11,y12,y13,y14,y15,y16,y17,y18,y19,y1a,y1b,y1c,y1d,y1e,y1f,y1g,y1h,y1i,y1j,y1k,y1l,y1m,y1n,y1o,y1p,y1q,y1r,retO,retL,retV,z6i,allV,allP,z6j,z6m,z6n,z6t,z6u,z6v,binV,eqV,unV,oOpt,reduceIte,reduceCtorEq,Nat.reduceEqDiff,Nat.reduceAdd,Nat.reduceMul,Nat.reduceLT,Nat.reduceSub,Int.reduceLT,Int.reduceLE,Int.reduceEq,Int.reduceNe,Int.reduceSub,Int.reduceAdd,Int.reduceMul,Int.reduceBEq,Int.reduceBNe,Int.reduceGT,Int.reduceGE,Nat.reduceGT,Int.reduceToNat,Int.reduceNeg,Nat.reduceLeDiff,Nat.reduceBEq,Nat.reduceBneDiff,Value.cells, k00, k01, implies_true, List.mem_cons, List.not_mem_nil, List.mem_singleton, or_false, forall_eq, forall_eq_or_imp, and_self]
  refine (disk_Sync_c E (RD2.le le3) ok (nameF J.turn p) (by have := @name_len J.turn p; omega)).mono ?_
  rintro v H4 ⟨rfl, κ4, e4, R4⟩
  have e24 : Ext (diskC d) κ2 H2 κ4 H4 := (Ext.le le3).trans e4
  have RV4 := RV2.ext e24 fun c h q => ne (by unfold diskC at q; rw [← q, h])
  have s4 := s2.le e24.bare
  have e04 : Ext (jdC j d) κ H κ4 H4 := (ew.mono fun c h => h.elim).trans (ext_dj e24)
  have st1 : storeV H4 1 (.pointer (some ⟨j, 3, none⟩)) (.int .i64 p) = some (H4.set j (.own 0 [ptrV d, .int .i64 J.lives, .int .u64 (J.turn : Nat), .int .i64 (p : Nat), .bool J.written, vb, vr, .bool J.full] 8)) := storeV_one_at RV4.2.1 rfl (by simp) (by simp)
  have st2 : storeV (H4.set j (.own 0 [ptrV d, .int .i64 J.lives, .int .u64 (J.turn : Nat), .int .i64 (p : Nat), .bool J.written, vb, vr, .bool J.full] 8)) 1 (.pointer (some ⟨j, 4, none⟩)) (.bool true) = some ((H4.set j (.own 0 [ptrV d, .int .i64 J.lives, .int .u64 (J.turn : Nat), .int .i64 (p : Nat), .bool J.written, vb, vr, .bool J.full] 8)).set j (.own 0 [ptrV d, .int .i64 J.lives, .int .u64 (J.turn : Nat), .int .i64 (p : Nat), .bool true, vb, vr, .bool J.full] 8)) := storeV_one_at (Heap.set_self _ _ _) rfl (by simp) (by simp)
  have P1 := RV4.put J.turn p true J.full
  have e5 := RV4.put_ext (.own 0 [ptrV d, .int .i64 J.lives, .int .u64 (J.turn : Nat), .int .i64 (p : Nat), .bool true, vb, vr, .bool J.full] 8)
  have s5 := s4.le e5.bare
  have R5 := R4.off e5 ne.symm
  have e05 := e04.trans (ext_jd e5)
  simp -implicitDefEqProofs only [zB1,zB2,zB3,zB4,zB5,zB6,zB7,zB8,zB9,zB10,zB11,y00,y01,y02,y03,y04,y05,y06,y07,y08,y09,y0a,y0b,y0c,y0d,y0e,y0f,y0g,y0h,y0i,y0j,y0k,y0l,y0m,y0n,y0o,y0p,y0q,y0r,y0s,y0t,y0u,y0v,y0w,y0x,y0y,y0z,y10,y11,y12,y13,y14,y15,y16,y17,y18,y19,y1a,y1b,y1c,y1d,y1e,y1f,y1g,y1h,y1i,y1j,y1k,y1l,y1m,y1n,y1o,y1p,y1q,y1r,retO,retL,retV,z6i,allV,allP,z6j,z6m,z6n,z6t,z6u,z6v,binV,eqV,unV,oOpt,reduceIte,reduceCtorEq,Nat.reduceEqDiff,Nat.reduceAdd,Nat.reduceMul,Nat.reduceLT,Nat.reduceSub,Int.reduceLT,Int.reduceLE,Int.reduceEq,Int.reduceNe,Int.reduceSub,Int.reduceAdd,Int.reduceMul,Int.reduceBEq,Int.reduceBNe,Int.reduceGT,Int.reduceGE,Nat.reduceGT,Int.reduceToNat,Int.reduceNeg,Nat.reduceLeDiff,Nat.reduceBEq,Nat.reduceBneDiff,Value.cells, st1, st2]
  generalize (H4.set j (.own 0 [ptrV d, .int .i64 J.lives, .int .u64 (J.turn : Nat), .int .i64 (p : Nat), .bool true, vb, vr, .bool J.full] 8)) = H5 at P1 s5 R5 e05 ⊢
  clear e4 e24 e04 e5 st1 st2
  refine wp_loop' (fun m t G => ∃ (acc : List (List UInt8)) (rest : List UInt8) (κ' : Pal) (rb : Option Addr) (rc f : Nat), t = tl [(0, ptrV j), (1, .int .i64 p), (5, .slice rb rest.length rc)] ∧ m = rest.length ∧ Ext (jouC j) κ4 H5 κ' G ∧ SlB (H5.bare κ4) (.slice rb rest.length rc) rest ∧
      JouR κ' G j d { J with part := p, written := true, recs := J.recs ++ acc } ∧ rest.length ≤ f ∧ parseF b.length b = (acc ++ (parseF f rest).1, (parseF f rest).2) ∧ acc.length * 20 + rest.length ≤ b.length) b.length
    ⟨[], b, κ4, sb, sc, b.length, rfl, rfl, Ext.refl _ _ _, s5, ⟨vb, vr, rs, by simpa using P1⟩, Nat.le_refl _, by simp, by simp⟩ ?_
  rintro m t G ⟨acc, rest, κ', rb, rc, f, rfl, rfl, eG, sr, RG, hf, eP, hacc⟩
  have RDG := R5.off eG ne.symm
  have e0G := e05.trans (ext_jd eG)
  by_cases hz : rest.length = 0
  · have g1 : ¬ (0 : Int) < rest.length := by omega
    have eP' : parseF b.length b = (acc, true) := by
      rw [eP]
      cases f with
      | zero => simp [parseF, hz]
      | succ f => simp [parseF, hz]
    simp -implicitDefEqProofs only [zB1,zB2,zB3,zB4,zB5,zB6,zB7,zB8,zB9,zB10,zB11,y00,y01,y02,y03,y04,y05,y06,y07,y08,y09,y0a,y0b,y0c,y0d,y0e,y0f,y0g,y0h,y0i,y0j,y0k,y0l,y0m,y0n,y0o,y0p,y0q,y0r,y0s,y0t,y0u,y0v,y0w,y0x,y0y,y0z,y10,y11,y12,y13,y14,y15,y16,y17,y18,y19,y1a,y1b,y1c,y1d,y1e,y1f,y1g,y1h,y1i,y1j,y1k,y1l,y1m,y1n,y1o,y1p,y1q,y1r,retO,retL,retV,z6i,allV,allP,z6j,z6m,z6n,z6t,z6u,z6v,binV,eqV,unV,oOpt,reduceIte,reduceCtorEq,Nat.reduceEqDiff,Nat.reduceAdd,Nat.reduceMul,Nat.reduceLT,Nat.reduceSub,Int.reduceLT,Int.reduceLE,Int.reduceEq,Int.reduceNe,Int.reduceSub,Int.reduceAdd,Int.reduceMul,Int.reduceBEq,Int.reduceBNe,Int.reduceGT,Int.reduceGE,Nat.reduceGT,Int.reduceToNat,Int.reduceNeg,Nat.reduceLeDiff,Nat.reduceBEq,Nat.reduceBneDiff,Value.cells, g1]
    rw [eP']
    exact ⟨κ', e0G, RG, RDG⟩
  have g1 : (0 : Int) < rest.length := by omega
  obtain ⟨f, rfl⟩ : ∃ f', f = f' + 1 := ⟨f - 1, by omega⟩
  rw [parseF, if_neg hz] at eP
  obtain ⟨vb6, vr6, rs6, RV6⟩ := RG
  have le0 : (H5.bare κ4).le G := Heap.le_trans eG.bare (Heap.bare_le _ _)
  simp -implicitDefEqProofs only [zB1,zB2,zB3,zB4,zB5,zB6,zB7,zB8,zB9,zB10,zB11,y00,y01,y02,y03,y04,y05,y06,y07,y08,y09,y0a,y0b,y0c,y0d,y0e,y0f,y0g,y0h,y0i,y0j,y0k,y0l,y0m,y0n,y0o,y0p,y0q,y0r,y0s,y0t,y0u,y0v,y0w,y0x,y0y,y0z,y10,y11,y12,y13,y14,y15,y16,y17,y18,y19,y1a,y1b,y1c,y1d,y1e,y1f,y1g,y1h,y1i,y1j,y1k,y1l,y1m,y1n,y1o,y1p,y1q,y1r,retO,retL,retV,z6i,allV,allP,z6j,z6m,z6n,z6t,z6u,z6v,binV,eqV,unV,oOpt,reduceIte,reduceCtorEq,Nat.reduceEqDiff,Nat.reduceAdd,Nat.reduceMul,Nat.reduceLT,Nat.reduceSub,Int.reduceLT,Int.reduceLE,Int.reduceEq,Int.reduceNe,Int.reduceSub,Int.reduceAdd,Int.reduceMul,Int.reduceBEq,Int.reduceBNe,Int.reduceGT,Int.reduceGE,Nat.reduceGT,Int.reduceToNat,Int.reduceNeg,Nat.reduceLeDiff,Nat.reduceBEq,Nat.reduceBneDiff,Value.cells, g1]
  unfold ir_journal_Journal_readPart_48
  simp -implicitDefEqProofs only [zB1,zB2,zB3,zB4,zB5,zB6,zB7,zB8,zB9,zB10,zB11,y00,y01,y02,y03,y04,y05,y06,y07,y08,y09,y0a,y0b,y0c,y0d,y0e,y0f,y0g,y0h,y0i,y0j,y0k,y0l,y0m,y0n,y0o,y0p,y0q,y0r,y0s,y0t,y0u,y0v,y0w,y0x,y0y,y0z,y10,y11,y12,y13,y14,y15,y16,y17,y18,y19,y1a,y1b,y1c,y1d,y1e,y1f,y1g,y1h,y1i,y1j,y1k,y1l,y1m,y1n,y1o,y1p,y1q,y1r,retO,retL,retV,z6i,allV,allP,z6j,z6m,z6n,z6t,z6u,z6v,binV,eqV,unV,oOpt,reduceIte,reduceCtorEq,Nat.reduceEqDiff,Nat.reduceAdd,Nat.reduceMul,Nat.reduceLT,Nat.reduceSub,Int.reduceLT,Int.reduceLE,Int.reduceEq,Int.reduceNe,Int.reduceSub,Int.reduceAdd,Int.reduceMul,Int.reduceBEq,Int.reduceBNe,Int.reduceGT,Int.reduceGE,Nat.reduceGT,Int.reduceToNat,Int.reduceNeg,Nat.reduceLeDiff,Nat.reduceBEq,Nat.reduceBneDiff,Value.cells]
  refine (journal_next_c E le0 rest (by omega) sr).mono ?_
  rintro v H6 ⟨le6, h⟩
  have RV7 := RV6.ext (Ext.le (cs := fun _ => False) le6) (fun _ _ q => q)
  rcases h with ⟨hn, rfl⟩ | ⟨x, y, vx, vy, hn, rfl, sx, sy⟩
  · rw [hn] at eP
    simp only at eP
    have wp : IntKind.i64.wrap ((p : Int) + 1) = ((p + 1 : Nat) : Int) := wrapN (by omega)
    have st1 : storeV H6 1 (.pointer (some ⟨j, 3, none⟩)) (.int .i64 ((p + 1 : Nat) : Int)) = some (H6.set j (.own 0 [ptrV d, .int .i64 J.lives, .int .u64 (J.turn : Nat), .int .i64 ((p + 1 : Nat) : Int), .bool true, vb6, vr6, .bool J.full] 8)) := storeV_one_at RV7.2.1 rfl (by simp) (by simp)
    have st2 : storeV (H6.set j (.own 0 [ptrV d, .int .i64 J.lives, .int .u64 (J.turn : Nat), .int .i64 ((p + 1 : Nat) : Int), .bool true, vb6, vr6, .bool J.full] 8)) 1 (.pointer (some ⟨j, 4, none⟩)) (.bool false) = some ((H6.set j (.own 0 [ptrV d, .int .i64 J.lives, .int .u64 (J.turn : Nat), .int .i64 ((p + 1 : Nat) : Int), .bool true, vb6, vr6, .bool J.full] 8)).set j (.own 0 [ptrV d, .int .i64 J.lives, .int .u64 (J.turn : Nat), .int .i64 ((p + 1 : Nat) : Int), .bool false, vb6, vr6, .bool J.full] 8)) := storeV_one_at (Heap.set_self _ _ _) rfl (by simp) (by simp)
    have P7 := RV7.put J.turn (p + 1) false J.full
    have e7 := RV7.put_ext (.own 0 [ptrV d, .int .i64 J.lives, .int .u64 (J.turn : Nat), .int .i64 ((p + 1 : Nat) : Int), .bool false, vb6, vr6, .bool J.full] 8)
    simp -implicitDefEqProofs only [zB1,zB2,zB3,zB4,zB5,zB6,zB7,zB8,zB9,zB10,zB11,y00,y01,y02,y03,y04,y05,y06,y07,y08,y09,y0a,y0b,y0c,y0d,y0e,y0f,y0g,y0h,y0i,y0j,y0k,y0l,y0m,y0n,y0o,y0p,y0q,y0r,y0s,y0t,y0u,y0v,y0w,y0x,y0y,y0z,y10,y11,y12,y13,y14,y15,y16,y17,y18,y19,y1a,y1b,y1c,y1d,y1e,y1f,y1g,y1h,y1i,y1j,y1k,y1l,y1m,y1n,y1o,y1p,y1q,y1r,retO,retL,retV,z6i,allV,allP,z6j,z6m,z6n,z6t,z6u,z6v,binV,eqV,unV,oOpt,reduceIte,reduceCtorEq,Nat.reduceEqDiff,Nat.reduceAdd,Nat.reduceMul,Nat.reduceLT,Nat.reduceSub,Int.reduceLT,Int.reduceLE,Int.reduceEq,Int.reduceNe,Int.reduceSub,Int.reduceAdd,Int.reduceMul,Int.reduceBEq,Int.reduceBNe,Int.reduceGT,Int.reduceGE,Nat.reduceGT,Int.reduceToNat,Int.reduceNeg,Nat.reduceLeDiff,Nat.reduceBEq,Nat.reduceBneDiff,Value.cells, wp, st1, st2]
    rw [eP, List.append_nil]
    exact ⟨κ', (e0G.trans (Ext.le le6)).trans (ext_jd e7), ⟨vb6, vr6, rs6, P7⟩, (RDG.le le6).off e7 ne.symm⟩
  · rw [hn] at eP
    simp only at eP
    obtain ⟨xb, xc, rfl⟩ := Sl.shape sx
    obtain ⟨yb, yc, rfl⟩ := Sl.shape sy
    obtain ⟨nl, -⟩ := nextF_len hn
    have le06 := Heap.le_trans le0 le6
    simp -implicitDefEqProofs only [zB1,zB2,zB3,zB4,zB5,zB6,zB7,zB8,zB9,zB10,zB11,y00,y01,y02,y03,y04,y05,y06,y07,y08,y09,y0a,y0b,y0c,y0d,y0e,y0f,y0g,y0h,y0i,y0j,y0k,y0l,y0m,y0n,y0o,y0p,y0q,y0r,y0s,y0t,y0u,y0v,y0w,y0x,y0y,y0z,y10,y11,y12,y13,y14,y15,y16,y17,y18,y19,y1a,y1b,y1c,y1d,y1e,y1f,y1g,y1h,y1i,y1j,y1k,y1l,y1m,y1n,y1o,y1p,y1q,y1r,retO,retL,retV,z6i,allV,allP,z6j,z6m,z6n,z6t,z6u,z6v,binV,eqV,unV,oOpt,reduceIte,reduceCtorEq,Nat.reduceEqDiff,Nat.reduceAdd,Nat.reduceMul,Nat.reduceLT,Nat.reduceSub,Int.reduceLT,Int.reduceLE,Int.reduceEq,Int.reduceNe,Int.reduceSub,Int.reduceAdd,Int.reduceMul,Int.reduceBEq,Int.reduceBNe,Int.reduceGT,Int.reduceGE,Nat.reduceGT,Int.reduceToNat,Int.reduceNeg,Nat.reduceLeDiff,Nat.reduceBEq,Nat.reduceBneDiff,Value.cells]
    unfold ir_journal_Journal_readPart_68
    have q7 := RV7.2.1
    have m60 : hcell H6 ⟨j, 6, none⟩ = some vr6 := by rw [hcell_at q7 (by simp)]; rfl
    simp -implicitDefEqProofs only [zB1,zB2,zB3,zB4,zB5,zB6,zB7,zB8,zB9,zB10,zB11,y00,y01,y02,y03,y04,y05,y06,y07,y08,y09,y0a,y0b,y0c,y0d,y0e,y0f,y0g,y0h,y0i,y0j,y0k,y0l,y0m,y0n,y0o,y0p,y0q,y0r,y0s,y0t,y0u,y0v,y0w,y0x,y0y,y0z,y10,y11,y12,y13,y14,y15,y16,y17,y18,y19,y1a,y1b,y1c,y1d,y1e,y1f,y1g,y1h,y1i,y1j,y1k,y1l,y1m,y1n,y1o,y1p,y1q,y1r,retO,retL,retV,z6i,allV,allP,z6j,z6m,z6n,z6t,z6u,z6v,binV,eqV,unV,oOpt,reduceIte,reduceCtorEq,Nat.reduceEqDiff,Nat.reduceAdd,Nat.reduceMul,Nat.reduceLT,Nat.reduceSub,Int.reduceLT,Int.reduceLE,Int.reduceEq,Int.reduceNe,Int.reduceSub,Int.reduceAdd,Int.reduceMul,Int.reduceBEq,Int.reduceBNe,Int.reduceGT,Int.reduceGE,Nat.reduceGT,Int.reduceToNat,Int.reduceNeg,Nat.reduceLeDiff,Nat.reduceBEq,Nat.reduceBneDiff,Value.cells]
    refine (bytes_Clone_c E H6 x (by omega) (sx.le le06)).mono ?_
    rintro wv H7 ⟨le7, o7⟩
    have e7 : Ext (fun _ => False) κ' H6 (κ'.grow H6 (j, j, 10)) H7 := Ext.tint le7
    have RV8 := RV7.ext e7 (fun _ _ q => q)
    have ow7 : OwK (κ'.grow H6 (j, j, 10)) (j, j, 10) H7 1 wv x.length (x.map u8V) := OwK.tinted o7
    obtain ⟨wb, wc, rfl⟩ := Sl.shape o7.sl
    have m61 : hcell H7 ⟨j, 6, none⟩ = some vr6 := by rw [hcell_at (le7 _ _ q7) (by simp)]; rfl
    simp -implicitDefEqProofs only [zB1,zB2,zB3,zB4,zB5,zB6,zB7,zB8,zB9,zB10,zB11,y00,y01,y02,y03,y04,y05,y06,y07,y08,y09,y0a,y0b,y0c,y0d,y0e,y0f,y0g,y0h,y0i,y0j,y0k,y0l,y0m,y0n,y0o,y0p,y0q,y0r,y0s,y0t,y0u,y0v,y0w,y0x,y0y,y0z,y10,y11,y12,y13,y14,y15,y16,y17,y18,y19,y1a,y1b,y1c,y1d,y1e,y1f,y1g,y1h,y1i,y1j,y1k,y1l,y1m,y1n,y1o,y1p,y1q,y1r,retO,retL,retV,z6i,allV,allP,z6j,z6m,z6n,z6t,z6u,z6v,binV,eqV,unV,oOpt,reduceIte,reduceCtorEq,Nat.reduceEqDiff,Nat.reduceAdd,Nat.reduceMul,Nat.reduceLT,Nat.reduceSub,Int.reduceLT,Int.reduceLE,Int.reduceEq,Int.reduceNe,Int.reduceSub,Int.reduceAdd,Int.reduceMul,Int.reduceBEq,Int.reduceBNe,Int.reduceGT,Int.reduceGE,Nat.reduceGT,Int.reduceToNat,Int.reduceNeg,Nat.reduceLeDiff,Nat.reduceBEq,Nat.reduceBneDiff,Value.cells, m60, m61, implies_true, List.mem_cons, List.not_mem_nil, List.mem_singleton, or_false, forall_eq, forall_eq_or_imp, and_self, List.length_replicate, List.drop_replicate, List.replicate_zero]
    intro b70 hb70
    try simp -implicitDefEqProofs only [zB1,zB2,zB3,zB4,zB5,zB6,zB7,zB8,zB9,zB10,zB11,y00,y01,y02,y03,y04,y05,y06,y07,y08,y09,y0a,y0b,y0c,y0d,y0e,y0f,y0g,y0h,y0i,y0j,y0k,y0l,y0m,y0n,y0o,y0p,y0q,y0r,y0s,y0t,y0u,y0v,y0w,y0x,y0y,y0z,y10,y11,y12,y13,y14,y15,y16,y17,y18,y19,y1a,y1b,y1c,y1d,y1e,y1f,y1g,y1h,y1i,y1j,y1k,y1l,y1m,y1n,y1o,y1p,y1q,y1r,retO,retL,retV,z6i,allV,allP,z6j,z6m,z6n,z6t,z6u,z6v,binV,eqV,unV,oOpt,reduceIte,reduceCtorEq,Nat.reduceEqDiff,Nat.reduceAdd,Nat.reduceMul,Nat.reduceLT,Nat.reduceSub,Int.reduceLT,Int.reduceLE,Int.reduceEq,Int.reduceNe,Int.reduceSub,Int.reduceAdd,Int.reduceMul,Int.reduceBEq,Int.reduceBNe,Int.reduceGT,Int.reduceGE,Nat.reduceGT,Int.reduceToNat,Int.reduceNeg,Nat.reduceLeDiff,Nat.reduceBEq,Nat.reduceBneDiff,Value.cells]
    have le8 := Heap.le_set (Heap.le_refl H7) hb70 (.own 0 [.slice wb x.length wc] 1)
    have sx8 : Sl (H7.set b70 (.own 0 [.slice wb x.length wc] 1)) 1 (.slice (some ⟨b70, 0, none⟩) 1 1) 1 [.slice wb x.length wc] := Sl.lit rfl
    refine jou_write (RV8.ext (Ext.le (cs := fun _ => False) le8) (fun _ _ q => q)) sx8 (OwK.le le8 ow7) (by simp only [List.length_append]; omega) ?_
    rintro v M3 st ⟨vb3, vc3, rfl⟩ ⟨κ3, e3, R3⟩
    simp -implicitDefEqProofs only [zB1,zB2,zB3,zB4,zB5,zB6,zB7,zB8,zB9,zB10,zB11,y00,y01,y02,y03,y04,y05,y06,y07,y08,y09,y0a,y0b,y0c,y0d,y0e,y0f,y0g,y0h,y0i,y0j,y0k,y0l,y0m,y0n,y0o,y0p,y0q,y0r,y0s,y0t,y0u,y0v,y0w,y0x,y0y,y0z,y10,y11,y12,y13,y14,y15,y16,y17,y18,y19,y1a,y1b,y1c,y1d,y1e,y1f,y1g,y1h,y1i,y1j,y1k,y1l,y1m,y1n,y1o,y1p,y1q,y1r,retO,retL,retV,z6i,allV,allP,z6j,z6m,z6n,z6t,z6u,z6v,binV,eqV,unV,oOpt,reduceIte,reduceCtorEq,Nat.reduceEqDiff,Nat.reduceAdd,Nat.reduceMul,Nat.reduceLT,Nat.reduceSub,Int.reduceLT,Int.reduceLE,Int.reduceEq,Int.reduceNe,Int.reduceSub,Int.reduceAdd,Int.reduceMul,Int.reduceBEq,Int.reduceBNe,Int.reduceGT,Int.reduceGE,Nat.reduceGT,Int.reduceToNat,Int.reduceNeg,Nat.reduceLeDiff,Nat.reduceBEq,Nat.reduceBneDiff,Value.cells, st, implies_true]
    refine ⟨_, ?_, acc ++ [x], y, κ3, yb, yc, f, rfl, rfl, (((eG.trans (Ext.le le6)).trans (e7.mono fun c h => h.elim)).trans (Ext.le le8)).trans e3, sy, ?_, by omega, ?_, ?_⟩
    · omega
    · rw [← List.append_assoc]; exact R3
    · rw [eP, List.append_assoc]; rfl
    · simp only [List.length_append, List.length_singleton]; omega
end Go.Bb
/- Contracts: a journal opened. -/
namespace Go.Bb
set_option linter.unusedSimpArgs false
set_option linter.unusedVariables false
set_option maxRecDepth 20000
set_option maxHeartbeats 2000000

def openL : Nat → JF → DiskF → Nat → JF × DiskF
  | 0, J, D, _ => (J, D)
  | f + 1, J, D, p => if (readPartF J D p).2.2 = true then openL f (readPartF J D p).1 (readPartF J D p).2.1 (p + 1) else (J, D)
def openD (J : JF) (D : DiskF) : DiskF := if 0 < J.turn then tidyF (J.turn - 1) 64 (dropF D newN).1 0 else (dropF D newN).1
def openF (D : DiskF) : Option JF × DiskF × Nat :=
  if (readBaseF { lives := D.lives } D).2 = 0 then
    (some (openL 63 (readBaseF { lives := D.lives } D).1 (openD (readBaseF { lives := D.lives } D).1 D) 0).1, (openL 63 (readBaseF { lives := D.lives } D).1 (openD (readBaseF { lives := D.lives } D).1 D) 0).2, 0)
  else (none, D, (readBaseF { lives := D.lives } D).2)
theorem look_turn {L : Files} {s t : List UInt8} {F : FileF} (h : lookF L t = none) : lookF (turnF' L s F) t = none := by
  unfold lookF turnF' at *
  rw [Option.map_eq_none_iff, List.find?_eq_none] at *
  intro x hx
  obtain ⟨y, hy, rfl⟩ := List.mem_map.1 hx
  have := h y hy
  split <;> simpa using this
theorem sync_look {D : DiskF} {s t : List UInt8} (h : lookF D.files t = none) : lookF (syncF D s).1.files t = none := by
  unfold syncF
  split
  · split
    · exact h
    · exact look_turn h
  · exact h
theorem sync_ok {D : DiskF} {n : Nat} (h : D.okW n) (nd : D.nd) (s : List UInt8) : (syncF D s).1.okW n := by
  unfold syncF
  split
  · split
    · exact h
    · rename_i F hF
      refine ⟨?_, ?_, h.2.2⟩
      · intro x hx
        obtain ⟨y, hy, rfl⟩ := List.mem_map.1 hx
        have := h.1 y hy
        split
        · exact ⟨by simp [FileF.sync], this.2⟩
        · exact this
      · show ((sizeF (turnF' D.files s F.sync) : Nat) : Int) ≤ D.room
        rw [turn_size (k := 0) nd hF (by simp [FileF.size, FileF.all, FileF.sync])]
        exact h.2.1
  · exact h
theorem tidy_ok {T n : Nat} : ∀ (f : Nat) {D : DiskF} (p : Nat), D.okW n → (tidyF T f D p).okW n
  | 0, _, _, h => h
  | f + 1, D, p, h => by
    unfold tidyF
    split
    · exact tidy_ok f (p + 1) (drop_ok h _)
    · exact h
theorem tidy_look {T : Nat} {t : List UInt8} : ∀ (f : Nat) {D : DiskF} (p : Nat), lookF D.files t = none → lookF (tidyF T f D p).files t = none
  | 0, _, _, h => h
  | f + 1, D, p, h => by
    unfold tidyF
    split
    · exact tidy_look f (p + 1) (drop_look h)
    · exact h
theorem readPart_turn (J : JF) (D : DiskF) (p : Nat) : (readPartF J D p).1.turn = J.turn := by
  unfold readPartF; split <;> rfl
theorem readPart_look {J : JF} {D : DiskF} {p : Nat} {t : List UInt8} (h : lookF D.files t = none) : lookF (readPartF J D p).2.1.files t = none := by
  unfold readPartF
  split
  · exact sync_look h
  · exact h
theorem readPart_ok {J : JF} {D : DiskF} {p n : Nat} (h : D.okW n) (nd : D.nd) : (readPartF J D p).2.1.okW n := by
  unfold readPartF
  split
  · exact sync_ok h nd _
  · exact h
theorem readPart_recs {J : JF} {D : DiskF} (ok : D.ok) (p : Nat) : (readPartF J D p).1.recs.length ≤ J.recs.length + 60000 := by
  unfold readPartF
  split
  · have h1 := readF_len ok (nameF J.turn p)
    have h2 := parseF_len (readF D (nameF J.turn p)).1.length (readF D (nameF J.turn p)).1
    simp only [List.length_append]
    omega
  · simp
theorem readPart_none {J : JF} {D : DiskF} {p : Nat} (h : lookF D.files (nameF J.turn p) = none) : (readPartF J D p).2.2 = false := by
  have : (readF D (nameF J.turn p)).2 ≠ 0 := by
    unfold readF
    split
    · rw [h]; simp
    · rename_i e; exact e
  unfold readPartF
  rw [if_neg this]
theorem readPart_same {J : JF} {D : DiskF} {p : Nat} (h : (readPartF J D p).2.2 = false) : (readPartF J D p).1 = J ∧ (readPartF J D p).2.1 = D := by
  unfold readPartF at *
  split
  · rename_i e; rw [if_pos e] at h; cases h
  · exact ⟨rfl, rfl⟩

theorem readBase_recs (J : JF) (D : DiskF) : (readBaseF J D).1.recs = J.recs := by
  unfold readBaseF
  split
  · split
    · split <;> rfl
    · rfl
  · split <;> rfl
theorem journal_Open_c (E : EnvT tab) {κ : Pal} {H : Heap} {d : Nat} {D : DiskF} {n : Nat} (RD : DiskR κ H d D) (on : D.on = true) (ok : D.okW n) (hn : n ≤ 100000) (hT : (readBaseF { lives := D.lives } D).1.turn < 64)
    (h1 : 0 < (readBaseF { lives := D.lives } D).1.turn → ∃ P, P < 63 ∧ lookF D.files (nameF ((readBaseF { lives := D.lives } D).1.turn - 1) P) = none) (h2 : ∃ P, P < 62 ∧ lookF D.files (nameF (readBaseF { lives := D.lives } D).1.turn P) = none) :
    ACallN E.toEnv n_journal_Open [ptrV d] H fun r H' => ∃ j κ', H j = none ∧ d ≠ j ∧ Ext (jdC j d) κ H κ' H' ∧ DiskR κ' H' d (openF D).2.1 ∧
      (match (openF D).1 with | some J => r = .tuple #[ptrV j, .int .i64 0] ∧ JouR κ' H' j d J | none => r = .tuple #[.pointer none, .int .i64 ((openF D).2.2 : Nat)]) := by
  refine acall h_journal_Open ir_journal_Open rfl rfl (wpA_sound ?_)
  unfold ir_journal_Open
  simp -implicitDefEqProofs only [zB1,zB2,zB3,zB4,zB5,zB6,zB7,zB8,zB9,zB10,zB11,y00,y01,y02,y03,y04,y05,y06,y07,y08,y09,y0a,y0b,y0c,y0d,y0e,y0f,y0g,y0h,y0i,y0j,y0k,y0l,y0m,y0n,y0o,y0p,y0q,y0r,y0s,y0t,y0u,y0v,y0w,y0x,y0y,y0z,y10,y11,y12,y13,y14,y15,y16,y17,y18,y19,y1a,y1b,y1c,y1d,y1e,y1f,y1g,y1h,y1i,y1j,y1k,y1l,y1m,y1n,y1o,y1p,y1q,y1r,retO,retL,retV,z6i,allV,allP,z6j,z6m,z6n,z6t,z6u,z6v,binV,eqV,unV,oOpt,reduceIte,reduceCtorEq,Nat.reduceEqDiff,Nat.reduceAdd,Nat.reduceMul,Nat.reduceLT,Nat.reduceSub,Int.reduceLT,Int.reduceLE,Int.reduceEq,Int.reduceNe,Int.reduceSub,Int.reduceAdd,Int.reduceMul,Int.reduceBEq,Int.reduceBNe,Int.reduceGT,Int.reduceGE,Nat.reduceGT,Int.reduceToNat,Int.reduceNeg,Nat.reduceLeDiff,Nat.reduceBEq,Nat.reduceBneDiff,Value.cells]
  unfold ir_journal_Open_7
  simp -implicitDefEqProofs only [zB1,zB2,zB3,zB4,zB5,zB6,zB7,zB8,zB9,zB10,zB11,y00,y01,y02,y03,y04,y05,y06,y07,y08,y09,y0a,y0b,y0c,y0d,y0e,y0f,y0g,y0h,y0i,y0j,y0k,y0l,y0m,y0n,y0o,y0p,y0q,y0r,y0s,y0t,y0u,y0v,y0w,y0x,y0y,y0z,y10,y11,y12,y13,y14,y15,y16,y17,y18,y19,y1a,y1b,y1c,y1d,y1e,y1f,y1g,y1h,y1i,y1j,y1k,y1l,y1m,y1n,y1o,y1p,y1q,y1r,retO,retL,retV,z6i,allV,allP,z6j,z6m,z6n,z6t,z6u,z6v,binV,eqV,unV,oOpt,reduceIte,reduceCtorEq,Nat.reduceEqDiff,Nat.reduceAdd,Nat.reduceMul,Nat.reduceLT,Nat.reduceSub,Int.reduceLT,Int.reduceLE,Int.reduceEq,Int.reduceNe,Int.reduceSub,Int.reduceAdd,Int.reduceMul,Int.reduceBEq,Int.reduceBNe,Int.reduceGT,Int.reduceGE,Nat.reduceGT,Int.reduceToNat,Int.reduceNeg,Nat.reduceLeDiff,Nat.reduceBEq,Nat.reduceBneDiff,Value.cells]
  refine (disk_Power_c E RD).mono ?_
  rintro v H1 ⟨rfl, rfl⟩
  simp -implicitDefEqProofs only [zB1,zB2,zB3,zB4,zB5,zB6,zB7,zB8,zB9,zB10,zB11,y00,y01,y02,y03,y04,y05,y06,y07,y08,y09,y0a,y0b,y0c,y0d,y0e,y0f,y0g,y0h,y0i,y0j,y0k,y0l,y0m,y0n,y0o,y0p,y0q,y0r,y0s,y0t,y0u,y0v,y0w,y0x,y0y,y0z,y10,y11,y12,y13,y14,y15,y16,y17,y18,y19,y1a,y1b,y1c,y1d,y1e,y1f,y1g,y1h,y1i,y1j,y1k,y1l,y1m,y1n,y1o,y1p,y1q,y1r,retO,retL,retV,z6i,allV,allP,z6j,z6m,z6n,z6t,z6u,z6v,binV,eqV,unV,oOpt,reduceIte,reduceCtorEq,Nat.reduceEqDiff,Nat.reduceAdd,Nat.reduceMul,Nat.reduceLT,Nat.reduceSub,Int.reduceLT,Int.reduceLE,Int.reduceEq,Int.reduceNe,Int.reduceSub,Int.reduceAdd,Int.reduceMul,Int.reduceBEq,Int.reduceBNe,Int.reduceGT,Int.reduceGE,Nat.reduceGT,Int.reduceToNat,Int.reduceNeg,Nat.reduceLeDiff,Nat.reduceBEq,Nat.reduceBneDiff,Value.cells, on]
  refine (disk_Lives_c E RD).mono ?_
  rintro v H2 ⟨rfl, rfl⟩
  simp -implicitDefEqProofs only [zB1,zB2,zB3,zB4,zB5,zB6,zB7,zB8,zB9,zB10,zB11,y00,y01,y02,y03,y04,y05,y06,y07,y08,y09,y0a,y0b,y0c,y0d,y0e,y0f,y0g,y0h,y0i,y0j,y0k,y0l,y0m,y0n,y0o,y0p,y0q,y0r,y0s,y0t,y0u,y0v,y0w,y0x,y0y,y0z,y10,y11,y12,y13,y14,y15,y16,y17,y18,y19,y1a,y1b,y1c,y1d,y1e,y1f,y1g,y1h,y1i,y1j,y1k,y1l,y1m,y1n,y1o,y1p,y1q,y1r,retO,retL,retV,z6i,allV,allP,z6j,z6m,z6n,z6t,z6u,z6v,binV,eqV,unV,oOpt,reduceIte,reduceCtorEq,Nat.reduceEqDiff,Nat.reduceAdd,Nat.reduceMul,Nat.reduceLT,Nat.reduceSub,Int.reduceLT,Int.reduceLE,Int.reduceEq,Int.reduceNe,Int.reduceSub,Int.reduceAdd,Int.reduceMul,Int.reduceBEq,Int.reduceBNe,Int.reduceGT,Int.reduceGE,Nat.reduceGT,Int.reduceToNat,Int.reduceNeg,Nat.reduceLeDiff,Nat.reduceBEq,Nat.reduceBneDiff,Value.cells]
  intro j hj
  try simp -implicitDefEqProofs only [zB1,zB2,zB3,zB4,zB5,zB6,zB7,zB8,zB9,zB10,zB11,y00,y01,y02,y03,y04,y05,y06,y07,y08,y09,y0a,y0b,y0c,y0d,y0e,y0f,y0g,y0h,y0i,y0j,y0k,y0l,y0m,y0n,y0o,y0p,y0q,y0r,y0s,y0t,y0u,y0v,y0w,y0x,y0y,y0z,y10,y11,y12,y13,y14,y15,y16,y17,y18,y19,y1a,y1b,y1c,y1d,y1e,y1f,y1g,y1h,y1i,y1j,y1k,y1l,y1m,y1n,y1o,y1p,y1q,y1r,retO,retL,retV,z6i,allV,allP,z6j,z6m,z6n,z6t,z6u,z6v,binV,eqV,unV,oOpt,reduceIte,reduceCtorEq,Nat.reduceEqDiff,Nat.reduceAdd,Nat.reduceMul,Nat.reduceLT,Nat.reduceSub,Int.reduceLT,Int.reduceLE,Int.reduceEq,Int.reduceNe,Int.reduceSub,Int.reduceAdd,Int.reduceMul,Int.reduceBEq,Int.reduceBNe,Int.reduceGT,Int.reduceGE,Nat.reduceGT,Int.reduceToNat,Int.reduceNeg,Nat.reduceLeDiff,Nat.reduceBEq,Nat.reduceBneDiff,Value.cells]
  have ne : d ≠ j := by
    obtain ⟨G, r, clk, V⟩ := RD
    exact ne_of_none hj V.qd
  have e0 : Ext (fun _ => False) κ H2 (fun i => if i = j then some (j, j, 7) else κ i) (H2.set j (.own 0 [ptrV d, .int .i64 D.lives, .int .u64 0, .int .i64 0, .bool false, .slice none 0 0, .slice none 0 0, .bool false] 8)) := Ext.new hj _ _
  have RD0 := RD.ext e0 (fun _ _ q => q)
  have RJ0 : JouR (fun i => if i = j then some (j, j, 7) else κ i) (H2.set j (.own 0 [ptrV d, .int .i64 D.lives, .int .u64 0, .int .i64 0, .bool false, .slice none 0 0, .slice none 0 0, .bool false] 8)) j d { lives := D.lives } :=
    ⟨_, _, [], by simp, Heap.set_self _ _ _, Ow.nil _ _ _, Ow.nil _ _ _, rfl, fun i h1 h2 => by simp at h1⟩
  generalize (H2.set j (.own 0 [ptrV d, .int .i64 D.lives, .int .u64 0, .int .i64 0, .bool false, .slice none 0 0, .slice none 0 0, .bool false] 8)) = H3 at e0 RD0 RJ0 ⊢
  generalize (fun i => if i = j then some (j, j, 7) else κ i) = κ3 at e0 RD0 RJ0
  have okD := ok.ok hn
  refine (journal_readBase_c E RJ0 RD0 okD).mono ?_
  rintro v H4 ⟨rfl, κ4, e4, RJ4⟩
  have RD4 := RD0.off e4 ne.symm
  have e04 : Ext (jdC j d) κ H2 κ4 H4 := (e0.mono fun c h => h.elim).trans (ext_jd e4)
  have hrec := readBase_recs { lives := D.lives } D
  unfold openF
  generalize readBaseF { lives := D.lives } D = X at RJ4 hT h1 h2 hrec ⊢
  obtain ⟨J1, eb⟩ := X
  simp only at RJ4 hT h1 h2 hrec ⊢
  by_cases z : ¬ eb = 0
  · have z' : ¬ ((eb : Nat) : Int) = 0 := by omega
    simp only [z, if_false]
    simp -implicitDefEqProofs only [zB1,zB2,zB3,zB4,zB5,zB6,zB7,zB8,zB9,zB10,zB11,y00,y01,y02,y03,y04,y05,y06,y07,y08,y09,y0a,y0b,y0c,y0d,y0e,y0f,y0g,y0h,y0i,y0j,y0k,y0l,y0m,y0n,y0o,y0p,y0q,y0r,y0s,y0t,y0u,y0v,y0w,y0x,y0y,y0z,y10,y11,y12,y13,y14,y15,y16,y17,y18,y19,y1a,y1b,y1c,y1d,y1e,y1f,y1g,y1h,y1i,y1j,y1k,y1l,y1m,y1n,y1o,y1p,y1q,y1r,retO,retL,retV,z6i,allV,allP,z6j,z6m,z6n,z6t,z6u,z6v,binV,eqV,unV,oOpt,reduceIte,reduceCtorEq,Nat.reduceEqDiff,Nat.reduceAdd,Nat.reduceMul,Nat.reduceLT,Nat.reduceSub,Int.reduceLT,Int.reduceLE,Int.reduceEq,Int.reduceNe,Int.reduceSub,Int.reduceAdd,Int.reduceMul,Int.reduceBEq,Int.reduceBNe,Int.reduceGT,Int.reduceGE,Nat.reduceGT,Int.reduceToNat,Int.reduceNeg,Nat.reduceLeDiff,Nat.reduceBEq,Nat.reduceBneDiff,Value.cells, z']
    exact ⟨j, κ4, hj, ne, e04, RD4⟩
  have z := Decidable.not_not.1 z
  subst z
  simp only [if_true]
  simp -implicitDefEqProofs only [zB1,zB2,zB3,zB4,zB5,zB6,zB7,zB8,zB9,zB10,zB11,y00,y01,y02,y03,y04,y05,y06,y07,y08,y09,y0a,y0b,y0c,y0d,y0e,y0f,y0g,y0h,y0i,y0j,y0k,y0l,y0m,y0n,y0o,y0p,y0q,y0r,y0s,y0t,y0u,y0v,y0w,y0x,y0y,y0z,y10,y11,y12,y13,y14,y15,y16,y17,y18,y19,y1a,y1b,y1c,y1d,y1e,y1f,y1g,y1h,y1i,y1j,y1k,y1l,y1m,y1n,y1o,y1p,y1q,y1r,retO,retL,retV,z6i,allV,allP,z6j,z6m,z6n,z6t,z6u,z6v,binV,eqV,unV,oOpt,reduceIte,reduceCtorEq,Nat.reduceEqDiff,Nat.reduceAdd,Nat.reduceMul,Nat.reduceLT,Nat.reduceSub,Int.reduceLT,Int.reduceLE,Int.reduceEq,Int.reduceNe,Int.reduceSub,Int.reduceAdd,Int.reduceMul,Int.reduceBEq,Int.reduceBNe,Int.reduceGT,Int.reduceGE,Nat.reduceGT,Int.reduceToNat,Int.reduceNeg,Nat.reduceLeDiff,Nat.reduceBEq,Nat.reduceBneDiff,Value.cells]
  refine (disk_Drop_c E RD4 newN (by simp [newN])).mono ?_
  rintro v H5 ⟨rfl, κ5, e5, RD5⟩
  have RJ5 := RJ4.apart e5 ne
  have e05 := e04.trans (ext_dj e5)
  have ok5 : (dropF D newN).1.okW n := drop_ok ok _
  have tail : ∀ (κ6 : Pal) (H6 : Heap) (D6 : DiskF), Ext (jdC j d) κ H2 κ6 H6 → JouR κ6 H6 j d J1 → DiskR κ6 H6 d D6 → D6.okW n → (∃ P, P < 62 ∧ lookF D6.files (nameF J1.turn P) = none) → ∀ (Q : Value → Heap → Prop),
      (∀ κ' H', Ext (jdC j d) κ H2 κ' H' → DiskR κ' H' d (openL 63 J1 D6 0).2 → JouR κ' H' j d (openL 63 J1 D6 0).1 → Q (.tuple #[ptrV j, .int .i64 0]) H') →
      AW E.toEnv 40 (.loop (.seq (.seq (.ops [
     ⟨(some 34), .mv (.t 4), none⟩,
     ⟨(some 35), .mv (.t 6), none⟩,
     ⟨(some 36), .call 213 [.t 34, .t 35], none⟩] [4, 6, 36])
 (.cond (.t 36)
 .skip
 (.exit 0)))
 (.seq (.block 1 .skip)
 (.ops [
     ⟨(some 37), .mv (.t 6), none⟩,
     ⟨(some 38), .bin .add (.t 37) (.c (.int .i64 1)), none⟩,
     ⟨(some 6), .mv (.t 38), none⟩] [4, 6])))) (qBlock 0 (qSeq (wpA E.toEnv 40 (.seq (.ops [
   ⟨(some 39), .mv (.t 4), none⟩,
   ⟨(some 2), .mv (.t 39), none⟩,
   ⟨(some 3), .mv (.c (.int .i64 0)), none⟩] [2, 3])
 .ret) (qRet [.tmp 2, .tmp 3] Q)) (qRet [.tmp 2, .tmp 3] Q))) (tl [(4, ptrV j), (6, .int .i64 0)]) H6 := by
    rintro κ6 H6 D6 e6 RJ6 RD6 ok6 ⟨P, hP, hl⟩ Q hQ
    generalize hOF : openL 63 J1 D6 0 = OF at hQ
    refine wp_loop' (fun m t G => ∃ (p : Nat) (κ' : Pal) (Jp : JF) (Dp : DiskF), t = tl [(4, ptrV j), (6, .int .i64 p)] ∧ p ≤ P ∧ m = P - p ∧ Ext (jdC j d) κ H2 κ' G ∧ JouR κ' G j d Jp ∧ DiskR κ' G d Dp ∧ Dp.okW n ∧ lookF Dp.files (nameF J1.turn P) = none ∧ Jp.turn = J1.turn ∧ Jp.recs.length ≤ 60000 * p ∧ OF = openL (63 - p) Jp Dp p) P
      ⟨0, κ6, J1, D6, rfl, by omega, by omega, e6, RJ6, RD6, ok6, hl, rfl, by simp [hrec], hOF.symm⟩ ?_
    rintro m t G ⟨p, κ', Jp, Dp, rfl, hp, rfl, eG, RG, RDG, okp, hlp, tp, rp, eO⟩
    have w1 : IntKind.i64.wrap ((p : Int) + 1) = ((p + 1 : Nat) : Int) := wrapN (by omega)
    have okDp := okp.ok hn
    simp -implicitDefEqProofs only [zB1,zB2,zB3,zB4,zB5,zB6,zB7,zB8,zB9,zB10,zB11,y00,y01,y02,y03,y04,y05,y06,y07,y08,y09,y0a,y0b,y0c,y0d,y0e,y0f,y0g,y0h,y0i,y0j,y0k,y0l,y0m,y0n,y0o,y0p,y0q,y0r,y0s,y0t,y0u,y0v,y0w,y0x,y0y,y0z,y10,y11,y12,y13,y14,y15,y16,y17,y18,y19,y1a,y1b,y1c,y1d,y1e,y1f,y1g,y1h,y1i,y1j,y1k,y1l,y1m,y1n,y1o,y1p,y1q,y1r,retO,retL,retV,z6i,allV,allP,z6j,z6m,z6n,z6t,z6u,z6v,binV,eqV,unV,oOpt,reduceIte,reduceCtorEq,Nat.reduceEqDiff,Nat.reduceAdd,Nat.reduceMul,Nat.reduceLT,Nat.reduceSub,Int.reduceLT,Int.reduceLE,Int.reduceEq,Int.reduceNe,Int.reduceSub,Int.reduceAdd,Int.reduceMul,Int.reduceBEq,Int.reduceBNe,Int.reduceGT,Int.reduceGE,Nat.reduceGT,Int.reduceToNat,Int.reduceNeg,Nat.reduceLeDiff,Nat.reduceBEq,Nat.reduceBneDiff,Value.cells]
    refine (journal_readPart_c E RG RDG ne okDp (by omega) p (by omega) (by omega)).mono ?_
    rintro v G1 ⟨rfl, κ2, e2, R2, RD2⟩
    obtain ⟨f, hf⟩ : ∃ f, 63 - p = f + 1 := ⟨62 - p, by omega⟩
    rw [hf, openL] at eO
    have rr := readPart_recs (J := Jp) okDp p
    have lk := readPart_look (J := Jp) (p := p) hlp
    have okq := readPart_ok (J := Jp) (p := p) okp RDG.nd
    by_cases z : (readPartF Jp Dp p).2.2 = true
    · rw [if_pos z] at eO
      have hpP : p < P := by
        by_cases h : p = P
        · subst h
          rw [← tp] at hlp
          rw [readPart_none hlp] at z; cases z
        · omega
      simp -implicitDefEqProofs only [zB1,zB2,zB3,zB4,zB5,zB6,zB7,zB8,zB9,zB10,zB11,y00,y01,y02,y03,y04,y05,y06,y07,y08,y09,y0a,y0b,y0c,y0d,y0e,y0f,y0g,y0h,y0i,y0j,y0k,y0l,y0m,y0n,y0o,y0p,y0q,y0r,y0s,y0t,y0u,y0v,y0w,y0x,y0y,y0z,y10,y11,y12,y13,y14,y15,y16,y17,y18,y19,y1a,y1b,y1c,y1d,y1e,y1f,y1g,y1h,y1i,y1j,y1k,y1l,y1m,y1n,y1o,y1p,y1q,y1r,retO,retL,retV,z6i,allV,allP,z6j,z6m,z6n,z6t,z6u,z6v,binV,eqV,unV,oOpt,reduceIte,reduceCtorEq,Nat.reduceEqDiff,Nat.reduceAdd,Nat.reduceMul,Nat.reduceLT,Nat.reduceSub,Int.reduceLT,Int.reduceLE,Int.reduceEq,Int.reduceNe,Int.reduceSub,Int.reduceAdd,Int.reduceMul,Int.reduceBEq,Int.reduceBNe,Int.reduceGT,Int.reduceGE,Nat.reduceGT,Int.reduceToNat,Int.reduceNeg,Nat.reduceLeDiff,Nat.reduceBEq,Nat.reduceBneDiff,Value.cells, z, w1]
      refine ⟨_, ?_, p + 1, κ2, _, _, rfl, by omega, rfl, eG.trans e2, R2, RD2, okq, lk, ?_, by omega, ?_⟩
      · omega
      · rw [readPart_turn, tp]
      · rw [eO]; congr 1; omega
    · have z' : (readPartF Jp Dp p).2.2 = false := by simpa using z
      rw [if_neg z] at eO
      obtain ⟨s1, s2⟩ := readPart_same z'
      rw [s1] at R2
      rw [s2] at RD2
      simp -implicitDefEqProofs only [zB1,zB2,zB3,zB4,zB5,zB6,zB7,zB8,zB9,zB10,zB11,y00,y01,y02,y03,y04,y05,y06,y07,y08,y09,y0a,y0b,y0c,y0d,y0e,y0f,y0g,y0h,y0i,y0j,y0k,y0l,y0m,y0n,y0o,y0p,y0q,y0r,y0s,y0t,y0u,y0v,y0w,y0x,y0y,y0z,y10,y11,y12,y13,y14,y15,y16,y17,y18,y19,y1a,y1b,y1c,y1d,y1e,y1f,y1g,y1h,y1i,y1j,y1k,y1l,y1m,y1n,y1o,y1p,y1q,y1r,retO,retL,retV,z6i,allV,allP,z6j,z6m,z6n,z6t,z6u,z6v,binV,eqV,unV,oOpt,reduceIte,reduceCtorEq,Nat.reduceEqDiff,Nat.reduceAdd,Nat.reduceMul,Nat.reduceLT,Nat.reduceSub,Int.reduceLT,Int.reduceLE,Int.reduceEq,Int.reduceNe,Int.reduceSub,Int.reduceAdd,Int.reduceMul,Int.reduceBEq,Int.reduceBNe,Int.reduceGT,Int.reduceGE,Nat.reduceGT,Int.reduceToNat,Int.reduceNeg,Nat.reduceLeDiff,Nat.reduceBEq,Nat.reduceBneDiff,Value.cells, z']
      refine hQ κ2 G1 (eG.trans e2) ?_ ?_
      · rw [eO]; exact RD2
      · rw [eO]; exact R2
  unfold ir_journal_Open_22
  obtain ⟨vb, vr, rs, RV5⟩ := RJ5
  have j2 : hcell H5 ⟨j, 2, none⟩ = some (.int .u64 (J1.turn : Nat)) := by rw [hcell_at RV5.2.1 (by simp)]; rfl
  by_cases ht : 0 < J1.turn
  · have ht' : (0 : Int) < J1.turn := by omega
    have w3 : IntKind.u64.wrap ((J1.turn : Int) - 1) = ((J1.turn - 1 : Nat) : Int) := by
      rw [show (J1.turn : Int) - 1 = ((J1.turn - 1 : Nat) : Int) by omega, wrap_u64, ofInt_nat, BitVec.toNat_ofNat]; omega
    obtain ⟨P1, hP1, hl1⟩ := h1 ht
    obtain ⟨P2, hP2, hl2⟩ := h2
    simp -implicitDefEqProofs only [zB1,zB2,zB3,zB4,zB5,zB6,zB7,zB8,zB9,zB10,zB11,y00,y01,y02,y03,y04,y05,y06,y07,y08,y09,y0a,y0b,y0c,y0d,y0e,y0f,y0g,y0h,y0i,y0j,y0k,y0l,y0m,y0n,y0o,y0p,y0q,y0r,y0s,y0t,y0u,y0v,y0w,y0x,y0y,y0z,y10,y11,y12,y13,y14,y15,y16,y17,y18,y19,y1a,y1b,y1c,y1d,y1e,y1f,y1g,y1h,y1i,y1j,y1k,y1l,y1m,y1n,y1o,y1p,y1q,y1r,retO,retL,retV,z6i,allV,allP,z6j,z6m,z6n,z6t,z6u,z6v,binV,eqV,unV,oOpt,reduceIte,reduceCtorEq,Nat.reduceEqDiff,Nat.reduceAdd,Nat.reduceMul,Nat.reduceLT,Nat.reduceSub,Int.reduceLT,Int.reduceLE,Int.reduceEq,Int.reduceNe,Int.reduceSub,Int.reduceAdd,Int.reduceMul,Int.reduceBEq,Int.reduceBNe,Int.reduceGT,Int.reduceGE,Nat.reduceGT,Int.reduceToNat,Int.reduceNeg,Nat.reduceLeDiff,Nat.reduceBEq,Nat.reduceBneDiff,Value.cells, j2, ht', w3]
    refine (journal_tidy_c E ⟨vb, vr, rs, RV5⟩ RD5 ne (J1.turn - 1) (by omega) hP1 (drop_look hl1)).mono ?_
    rintro v H6 ⟨κ6, e6, RJ6, RD6⟩
    simp -implicitDefEqProofs only [zB1,zB2,zB3,zB4,zB5,zB6,zB7,zB8,zB9,zB10,zB11,y00,y01,y02,y03,y04,y05,y06,y07,y08,y09,y0a,y0b,y0c,y0d,y0e,y0f,y0g,y0h,y0i,y0j,y0k,y0l,y0m,y0n,y0o,y0p,y0q,y0r,y0s,y0t,y0u,y0v,y0w,y0x,y0y,y0z,y10,y11,y12,y13,y14,y15,y16,y17,y18,y19,y1a,y1b,y1c,y1d,y1e,y1f,y1g,y1h,y1i,y1j,y1k,y1l,y1m,y1n,y1o,y1p,y1q,y1r,retO,retL,retV,z6i,allV,allP,z6j,z6m,z6n,z6t,z6u,z6v,binV,eqV,unV,oOpt,reduceIte,reduceCtorEq,Nat.reduceEqDiff,Nat.reduceAdd,Nat.reduceMul,Nat.reduceLT,Nat.reduceSub,Int.reduceLT,Int.reduceLE,Int.reduceEq,Int.reduceNe,Int.reduceSub,Int.reduceAdd,Int.reduceMul,Int.reduceBEq,Int.reduceBNe,Int.reduceGT,Int.reduceGE,Nat.reduceGT,Int.reduceToNat,Int.reduceNeg,Nat.reduceLeDiff,Nat.reduceBEq,Nat.reduceBneDiff,Value.cells]
    have eo : openD J1 D = tidyF (J1.turn - 1) 64 (dropF D newN).1 0 := by unfold openD; rw [if_pos ht]
    rw [← eo] at RD6
    refine tail κ6 H6 (openD J1 D) (e05.trans (ext_dj e6)) RJ6 RD6 (by rw [eo]; exact tidy_ok _ _ ok5) ⟨P2, hP2, by rw [eo]; exact tidy_look _ _ (drop_look hl2)⟩ _ ?_
    intro κ' H' a b c
    exact ⟨j, κ', hj, ne, a, b, rfl, c⟩
  · have ht' : ¬ (0 : Int) < J1.turn := by omega
    simp -implicitDefEqProofs only [zB1,zB2,zB3,zB4,zB5,zB6,zB7,zB8,zB9,zB10,zB11,y00,y01,y02,y03,y04,y05,y06,y07,y08,y09,y0a,y0b,y0c,y0d,y0e,y0f,y0g,y0h,y0i,y0j,y0k,y0l,y0m,y0n,y0o,y0p,y0q,y0r,y0s,y0t,y0u,y0v,y0w,y0x,y0y,y0z,y10,y11,y12,y13,y14,y15,y16,y17,y18,y19,y1a,y1b,y1c,y1d,y1e,y1f,y1g,y1h,y1i,y1j,y1k,y1l,y1m,y1n,y1o,y1p,y1q,y1r,retO,retL,retV,z6i,allV,allP,z6j,z6m,z6n,z6t,z6u,z6v,binV,eqV,unV,oOpt,reduceIte,reduceCtorEq,Nat.reduceEqDiff,Nat.reduceAdd,Nat.reduceMul,Nat.reduceLT,Nat.reduceSub,Int.reduceLT,Int.reduceLE,Int.reduceEq,Int.reduceNe,Int.reduceSub,Int.reduceAdd,Int.reduceMul,Int.reduceBEq,Int.reduceBNe,Int.reduceGT,Int.reduceGE,Nat.reduceGT,Int.reduceToNat,Int.reduceNeg,Nat.reduceLeDiff,Nat.reduceBEq,Nat.reduceBneDiff,Value.cells, j2, ht']
    obtain ⟨P2, hP2, hl2⟩ := h2
    have eo : openD J1 D = (dropF D newN).1 := by unfold openD; rw [if_neg ht]
    rw [← eo] at RD5 ok5
    refine tail κ5 H5 (openD J1 D) e05 ⟨vb, vr, rs, RV5⟩ RD5 ok5 ⟨P2, hP2, by rw [eo]; exact drop_look hl2⟩ _ ?_
    intro κ' H' a b c
    exact ⟨j, κ', hj, ne, a, b, rfl, c⟩
end Go.Bb
