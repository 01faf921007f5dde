/- My contracts: BbCaead1 BbCaead2 BbCaead3 BbCepo0 BbCepo1 BbLepo1 BbLepo2. -/
import Derived.Test.YtefmgcklhkjalaaBbG3
import Derived.Test.YtefmgcklhkjalaaBbM3
import Derived.Test.YtefmgcklhkjalaaBbM2
/- Contracts: sealed and opened: the tag. -/
namespace Go.Bb
set_option linter.unusedSimpArgs false
set_option linter.unusedVariables false
set_option maxRecDepth 20000
set_option maxHeartbeats 2000000

theorem u64_lit (n : Nat) : IntKind.u64.wrap (n : Int) = ((BitVec.ofNat 64 n).toNat : Int) := by rw [wrap_u64, ofInt_nat]
theorem SlL.lit5 {H : Heap} {b : Nat} (hb : H b = none) {u1 u2 u3 u4 u5 : Value} {l1 l2 l3 l4 l5 : List UInt8} (s1 : SlB H u1 l1) (s2 : SlB H u2 l2) (s3 : SlB H u3 l3) (s4 : SlB H u4 l4) (s5 : SlB H u5 l5) :
    SlL (H.set b (.own 0 [u1, u2, u3, u4, u5] 5)) (.slice (some ⟨b, 0, none⟩) 5 5) [l1, l2, l3, l4, l5] := by
  have hle := Heap.le_new (Heap.le_refl H) hb (.own 0 [u1, u2, u3, u4, u5] 5)
  refine ⟨[u1, u2, u3, u4, u5], rfl, Sl.lit (n := 5) rfl, ?_⟩
  intro i x y
  match i, x, y with
  | 0, _, _ => exact Sl.le hle s1
  | 1, _, _ => exact Sl.le hle s2
  | 2, _, _ => exact Sl.le hle s3
  | 3, _, _ => exact Sl.le hle s4
  | 4, _, _ => exact Sl.le hle s5
theorem tagged_flat (beside c : List UInt8) : [beside, List.replicate (fillN beside.length) 0, c, List.replicate (fillN c.length) 0, lenB beside.length ++ lenB c.length].flatten = taggedF beside c := by
  simp [taggedF, fillB]
theorem aead_tag_c (E : EnvT tab) (h : Heap) {v w : Value} (key nonce c beside : List UInt8) (hk : key.length = 32) (hn : nonce.length = 12) (hc : c.length ≤ 1000000) (hbs : beside.length ≤ 1000000) (sc : SlB h v c) (sb : SlB h w beside) :
    ACallN E.toEnv n_aead_tag [.agg (key.map u8V).toArray, .agg (nonce.map u8V).toArray, v, w] h fun r h' => h.le h' ∧ r = .agg ((atagF key nonce c beside).map u8V).toArray := by
  obtain ⟨base, cc, rfl⟩ := Sl.shape sc
  obtain ⟨base2, cc2, rfl⟩ := Sl.shape sb
  refine acall h_aead_tag ir_aead_tag rfl rfl (wpA_sound ?_)
  unfold ir_aead_tag
  have hk' : (key.map u8V).length = 32 := by simp [hk]
  have hn' : (nonce.map u8V).length = 12 := by simp [hn]
  simp -implicitDefEqProofs only [zB1,zB2,zB3,zB4,zB5,zB6,zB7,zB8,zB9,zB10,zB11,y00,y01,y02,y03,y04,y05,y06,y07,y08,y09,y0a,y0b,y0c,y0d,y0e,y0f,y0g,y0h,y0i,y0j,y0k,y0l,y0m,y0n,y0o,y0p,y0q,y0r,y0s,y0t,y0u,y0v,y0w,y0x,y0y,y0z,y10,y11,y12,y13,y14,y15,y16,y17,y18,y19,y1a,y1b,y1c,y1d,y1e,y1f,y1g,y1h,y1i,y1j,y1k,y1l,y1m,y1n,y1o,y1p,y1q,y1r,retO,retL,retV,z69,allV,allP,z6a,z6d,z6e,z6k,z6l,z6m,binV,eqV,unV,oOpt,reduceIte,reduceCtorEq,Nat.reduceEqDiff,Nat.reduceAdd,Nat.reduceMul,Nat.reduceLT,Nat.reduceSub,Int.reduceLT,Int.reduceLE,Int.reduceEq,Int.reduceNe,Int.reduceSub,Int.reduceAdd,Int.reduceMul,Int.reduceBEq,Int.reduceBNe,Int.reduceGT,Int.reduceGE,Nat.reduceGT,Int.reduceToNat,Int.reduceNeg,Nat.reduceLeDiff,Nat.reduceBEq,Nat.reduceBneDiff,Value.cells, hk', hn', List.length_replicate]
  intro b4 hb4 b5 hb5 b8 hb8
  obtain ⟨n54, hb5'⟩ := Heap.set_none.1 hb5
  obtain ⟨n85, hb8a⟩ := Heap.set_none.1 hb8
  obtain ⟨n84, hb8'⟩ := Heap.set_none.1 hb8a
  have le1 : h.le (((h.set b4 (.own 0 (key.map u8V) 32)).set b5 (.own 0 (nonce.map u8V) 12)).set b8 (.own 0 (List.replicate 16 (.int .u8 0)) 16)) := Heap.le_set (Heap.le_set (Heap.le_set (Heap.le_refl _) hb4 _) hb5' _) hb8' _
  have q4 : (((h.set b4 (.own 0 (key.map u8V) 32)).set b5 (.own 0 (nonce.map u8V) 12)).set b8 (.own 0 (List.replicate 16 (.int .u8 0)) 16)) b4 = some (.own 0 (key.map u8V) 32) := set_keep (set_keep (Heap.set_self _ _ _) (Ne.symm n54)) (Ne.symm n84)
  have q5 : (((h.set b4 (.own 0 (key.map u8V) 32)).set b5 (.own 0 (nonce.map u8V) 12)).set b8 (.own 0 (List.replicate 16 (.int .u8 0)) 16)) b5 = some (.own 0 (nonce.map u8V) 12) := set_keep (Heap.set_self _ _ _) (Ne.symm n85)
  have q8 : (((h.set b4 (.own 0 (key.map u8V) 32)).set b5 (.own 0 (nonce.map u8V) 12)).set b8 (.own 0 (List.replicate 16 (.int .u8 0)) 16)) b8 = some (.own 0 (List.replicate 16 (.int .u8 0)) 16) := Heap.set_self _ _ _
  generalize (((h.set b4 (.own 0 (key.map u8V) 32)).set b5 (.own 0 (nonce.map u8V) 12)).set b8 (.own 0 (List.replicate 16 (.int .u8 0)) 16)) = h1 at le1 q4 q5 q8 ⊢
  have u1 := u64_lit beside.length
  have u2 := u64_lit c.length
  try simp -implicitDefEqProofs only [zB1,zB2,zB3,zB4,zB5,zB6,zB7,zB8,zB9,zB10,zB11,y00,y01,y02,y03,y04,y05,y06,y07,y08,y09,y0a,y0b,y0c,y0d,y0e,y0f,y0g,y0h,y0i,y0j,y0k,y0l,y0m,y0n,y0o,y0p,y0q,y0r,y0s,y0t,y0u,y0v,y0w,y0x,y0y,y0z,y10,y11,y12,y13,y14,y15,y16,y17,y18,y19,y1a,y1b,y1c,y1d,y1e,y1f,y1g,y1h,y1i,y1j,y1k,y1l,y1m,y1n,y1o,y1p,y1q,y1r,retO,retL,retV,z69,allV,allP,z6a,z6d,z6e,z6k,z6l,z6m,binV,eqV,unV,oOpt,reduceIte,reduceCtorEq,Nat.reduceEqDiff,Nat.reduceAdd,Nat.reduceMul,Nat.reduceLT,Nat.reduceSub,Int.reduceLT,Int.reduceLE,Int.reduceEq,Int.reduceNe,Int.reduceSub,Int.reduceAdd,Int.reduceMul,Int.reduceBEq,Int.reduceBNe,Int.reduceGT,Int.reduceGE,Nat.reduceGT,Int.reduceToNat,Int.reduceNeg,Nat.reduceLeDiff,Nat.reduceBEq,Nat.reduceBneDiff,Value.cells, u1, u2]
  refine (octet_Little_c E _ [] (by simp) (Ow.nil h1 h1 1).sl (BitVec.ofNat 64 beside.length) 8 (by omega)).mono ?_
  rintro r h2 ⟨le2, ow2⟩
  rw [List.nil_append] at ow2
  simp -implicitDefEqProofs only [zB1,zB2,zB3,zB4,zB5,zB6,zB7,zB8,zB9,zB10,zB11,y00,y01,y02,y03,y04,y05,y06,y07,y08,y09,y0a,y0b,y0c,y0d,y0e,y0f,y0g,y0h,y0i,y0j,y0k,y0l,y0m,y0n,y0o,y0p,y0q,y0r,y0s,y0t,y0u,y0v,y0w,y0x,y0y,y0z,y10,y11,y12,y13,y14,y15,y16,y17,y18,y19,y1a,y1b,y1c,y1d,y1e,y1f,y1g,y1h,y1i,y1j,y1k,y1l,y1m,y1n,y1o,y1p,y1q,y1r,retO,retL,retV,z69,allV,allP,z6a,z6d,z6e,z6k,z6l,z6m,binV,eqV,unV,oOpt,reduceIte,reduceCtorEq,Nat.reduceEqDiff,Nat.reduceAdd,Nat.reduceMul,Nat.reduceLT,Nat.reduceSub,Int.reduceLT,Int.reduceLE,Int.reduceEq,Int.reduceNe,Int.reduceSub,Int.reduceAdd,Int.reduceMul,Int.reduceBEq,Int.reduceBNe,Int.reduceGT,Int.reduceGE,Nat.reduceGT,Int.reduceToNat,Int.reduceNeg,Nat.reduceLeDiff,Nat.reduceBEq,Nat.reduceBneDiff,Value.cells, u2]
  refine (octet_Little_c E _ _ (by rw [littleF_len]; omega) ow2.sl (BitVec.ofNat 64 c.length) 8 (by omega)).mono ?_
  rintro r h3 ⟨le3, ow3⟩
  have le13 := Heap.le_trans le2 le3
  have l4 : hcells h3 ⟨b4, 0, none⟩ 32 = some (key.map u8V) := hcells_own0 (le13 _ _ q4) hk'
  have l5 : hcells h3 ⟨b5, 0, none⟩ 12 = some (nonce.map u8V) := hcells_own0 (le13 _ _ q5) hn'
  have s3 : SlB h3 r (lenB beside.length ++ lenB c.length) := ow3.sl
  obtain ⟨base3, cc3, rfl⟩ := Sl.shape s3
  simp -implicitDefEqProofs only [zB1,zB2,zB3,zB4,zB5,zB6,zB7,zB8,zB9,zB10,zB11,y00,y01,y02,y03,y04,y05,y06,y07,y08,y09,y0a,y0b,y0c,y0d,y0e,y0f,y0g,y0h,y0i,y0j,y0k,y0l,y0m,y0n,y0o,y0p,y0q,y0r,y0s,y0t,y0u,y0v,y0w,y0x,y0y,y0z,y10,y11,y12,y13,y14,y15,y16,y17,y18,y19,y1a,y1b,y1c,y1d,y1e,y1f,y1g,y1h,y1i,y1j,y1k,y1l,y1m,y1n,y1o,y1p,y1q,y1r,retO,retL,retV,z69,allV,allP,z6a,z6d,z6e,z6k,z6l,z6m,binV,eqV,unV,oOpt,reduceIte,reduceCtorEq,Nat.reduceEqDiff,Nat.reduceAdd,Nat.reduceMul,Nat.reduceLT,Nat.reduceSub,Int.reduceLT,Int.reduceLE,Int.reduceEq,Int.reduceNe,Int.reduceSub,Int.reduceAdd,Int.reduceMul,Int.reduceBEq,Int.reduceBNe,Int.reduceGT,Int.reduceGE,Nat.reduceGT,Int.reduceToNat,Int.reduceNeg,Nat.reduceLeDiff,Nat.reduceBEq,Nat.reduceBneDiff,Value.cells, l4, l5]
  refine (aead_Key_c E _ key nonce hk hn).mono ?_
  rintro r h4 ⟨le4, rfl⟩
  have le04 := Heap.le_trans le1 (Heap.le_trans le13 le4)
  simp -implicitDefEqProofs only [zB1,zB2,zB3,zB4,zB5,zB6,zB7,zB8,zB9,zB10,zB11,y00,y01,y02,y03,y04,y05,y06,y07,y08,y09,y0a,y0b,y0c,y0d,y0e,y0f,y0g,y0h,y0i,y0j,y0k,y0l,y0m,y0n,y0o,y0p,y0q,y0r,y0s,y0t,y0u,y0v,y0w,y0x,y0y,y0z,y10,y11,y12,y13,y14,y15,y16,y17,y18,y19,y1a,y1b,y1c,y1d,y1e,y1f,y1g,y1h,y1i,y1j,y1k,y1l,y1m,y1n,y1o,y1p,y1q,y1r,retO,retL,retV,z69,allV,allP,z6a,z6d,z6e,z6k,z6l,z6m,binV,eqV,unV,oOpt,reduceIte,reduceCtorEq,Nat.reduceEqDiff,Nat.reduceAdd,Nat.reduceMul,Nat.reduceLT,Nat.reduceSub,Int.reduceLT,Int.reduceLE,Int.reduceEq,Int.reduceNe,Int.reduceSub,Int.reduceAdd,Int.reduceMul,Int.reduceBEq,Int.reduceBNe,Int.reduceGT,Int.reduceGE,Nat.reduceGT,Int.reduceToNat,Int.reduceNeg,Nat.reduceLeDiff,Nat.reduceBEq,Nat.reduceBneDiff,Value.cells]
  refine (aead_fill_c E _ beside (by omega) (sb.le le04)).mono ?_
  rintro r h5 ⟨le5, ow5⟩
  have s5 := ow5.sl
  obtain ⟨base5, cc5, rfl⟩ := Sl.shape s5
  simp -implicitDefEqProofs only [zB1,zB2,zB3,zB4,zB5,zB6,zB7,zB8,zB9,zB10,zB11,y00,y01,y02,y03,y04,y05,y06,y07,y08,y09,y0a,y0b,y0c,y0d,y0e,y0f,y0g,y0h,y0i,y0j,y0k,y0l,y0m,y0n,y0o,y0p,y0q,y0r,y0s,y0t,y0u,y0v,y0w,y0x,y0y,y0z,y10,y11,y12,y13,y14,y15,y16,y17,y18,y19,y1a,y1b,y1c,y1d,y1e,y1f,y1g,y1h,y1i,y1j,y1k,y1l,y1m,y1n,y1o,y1p,y1q,y1r,retO,retL,retV,z69,allV,allP,z6a,z6d,z6e,z6k,z6l,z6m,binV,eqV,unV,oOpt,reduceIte,reduceCtorEq,Nat.reduceEqDiff,Nat.reduceAdd,Nat.reduceMul,Nat.reduceLT,Nat.reduceSub,Int.reduceLT,Int.reduceLE,Int.reduceEq,Int.reduceNe,Int.reduceSub,Int.reduceAdd,Int.reduceMul,Int.reduceBEq,Int.reduceBNe,Int.reduceGT,Int.reduceGE,Nat.reduceGT,Int.reduceToNat,Int.reduceNeg,Nat.reduceLeDiff,Nat.reduceBEq,Nat.reduceBneDiff,Value.cells]
  refine (aead_fill_c E _ c (by omega) (sc.le (Heap.le_trans le04 le5))).mono ?_
  rintro r h6 ⟨le6, ow6⟩
  have s6 := ow6.sl
  obtain ⟨base6, cc6, rfl⟩ := Sl.shape s6
  have le06 := Heap.le_trans le04 (Heap.le_trans le5 le6)
  have ed : ∀ u1 u2 u3 u4 u5 : Value, u1 :: u2 :: u3 :: u4 :: u5 :: List.drop 5 (List.replicate 5 (Value.slice none 0 0)) = [u1, u2, u3, u4, u5] := fun _ _ _ _ _ => rfl
  simp -implicitDefEqProofs only [zB1,zB2,zB3,zB4,zB5,zB6,zB7,zB8,zB9,zB10,zB11,y00,y01,y02,y03,y04,y05,y06,y07,y08,y09,y0a,y0b,y0c,y0d,y0e,y0f,y0g,y0h,y0i,y0j,y0k,y0l,y0m,y0n,y0o,y0p,y0q,y0r,y0s,y0t,y0u,y0v,y0w,y0x,y0y,y0z,y10,y11,y12,y13,y14,y15,y16,y17,y18,y19,y1a,y1b,y1c,y1d,y1e,y1f,y1g,y1h,y1i,y1j,y1k,y1l,y1m,y1n,y1o,y1p,y1q,y1r,retO,retL,retV,z69,allV,allP,z6a,z6d,z6e,z6k,z6l,z6m,binV,eqV,unV,oOpt,reduceIte,reduceCtorEq,Nat.reduceEqDiff,Nat.reduceAdd,Nat.reduceMul,Nat.reduceLT,Nat.reduceSub,Int.reduceLT,Int.reduceLE,Int.reduceEq,Int.reduceNe,Int.reduceSub,Int.reduceAdd,Int.reduceMul,Int.reduceBEq,Int.reduceBNe,Int.reduceGT,Int.reduceGE,Nat.reduceGT,Int.reduceToNat,Int.reduceNeg,Nat.reduceLeDiff,Nat.reduceBEq,Nat.reduceBneDiff,Value.cells, List.length_replicate, List.drop_replicate, List.replicate_zero]
  intro b10 hb10
  have le16 := Heap.le_trans le13 (Heap.le_trans le4 (Heap.le_trans le5 le6))
  have hz : (List.replicate (fillN beside.length) (0 : UInt8)).length = fillN beside.length := List.length_replicate
  have hz2 : (List.replicate (fillN c.length) (0 : UInt8)).length = fillN c.length := List.length_replicate
  rw [hz] at s5
  rw [hz2] at s6
  have hl := tagged_len beside c
  have hf1 := fillN_lt beside.length
  have hf2 := fillN_lt c.length
  have t5 : SlB h6 (.slice base5 (fillN beside.length) cc5) (List.replicate (fillN beside.length) 0) := by unfold SlB; rw [hz]; exact s5.le le6
  have t6 : SlB h6 (.slice base6 (fillN c.length) cc6) (List.replicate (fillN c.length) 0) := by unfold SlB; rw [hz2]; exact s6
  have sL := SlL.lit5 hb10 (sb.le le06) t5 (sc.le le06) t6 (s3.le (Heap.le_trans le4 (Heap.le_trans le5 le6)))
  refine (poly_Tag_c E _ (akeyF key nonce) _ (akeyF_len _ _) (by simp) (by rw [tagged_flat]; omega) sL).mono ?_
  rintro r h7 ⟨le7, rfl⟩
  rw [tagged_flat, tag_same _ _ (akeyF_len _ _)]
  have le67 := Heap.le_trans (Heap.le_new (Heap.le_refl h6) hb10 _) le7
  have st8 : storeV h7 16 (.pointer (some ⟨b8, 0, none⟩)) (.agg ((atagF key nonce c beside).map u8V).toArray) = some (h7.set b8 (.own 0 ((atagF key nonce c beside).map u8V) 16)) := storeV_agg_at (le67 _ _ (le16 _ _ q8)) (by omega) (by simp [atagF_len]) (one_u8 _) (by simp) (by omega)
  have l8 : hcells (h7.set b8 (.own 0 ((atagF key nonce c beside).map u8V) 16)) ⟨b8, 0, none⟩ 16 = some ((atagF key nonce c beside).map u8V) := z6o (by simp [atagF_len])
  have eA : rowL (tagR (akeyF key nonce) (taggedF beside c)) 16 = atagF key nonce c beside := rfl
  rw [eA]
  simp -implicitDefEqProofs only [zB1,zB2,zB3,zB4,zB5,zB6,zB7,zB8,zB9,zB10,zB11,y00,y01,y02,y03,y04,y05,y06,y07,y08,y09,y0a,y0b,y0c,y0d,y0e,y0f,y0g,y0h,y0i,y0j,y0k,y0l,y0m,y0n,y0o,y0p,y0q,y0r,y0s,y0t,y0u,y0v,y0w,y0x,y0y,y0z,y10,y11,y12,y13,y14,y15,y16,y17,y18,y19,y1a,y1b,y1c,y1d,y1e,y1f,y1g,y1h,y1i,y1j,y1k,y1l,y1m,y1n,y1o,y1p,y1q,y1r,retO,retL,retV,z69,allV,allP,z6a,z6d,z6e,z6k,z6l,z6m,binV,eqV,unV,oOpt,reduceIte,reduceCtorEq,Nat.reduceEqDiff,Nat.reduceAdd,Nat.reduceMul,Nat.reduceLT,Nat.reduceSub,Int.reduceLT,Int.reduceLE,Int.reduceEq,Int.reduceNe,Int.reduceSub,Int.reduceAdd,Int.reduceMul,Int.reduceBEq,Int.reduceBNe,Int.reduceGT,Int.reduceGE,Nat.reduceGT,Int.reduceToNat,Int.reduceNeg,Nat.reduceLeDiff,Nat.reduceBEq,Nat.reduceBneDiff,Value.cells, st8, l8]
  exact Heap.le_set (Heap.le_trans le1 (Heap.le_trans le16 le67)) hb8' _
end Go.Bb
/- Contracts: sealed, opened. -/
namespace Go.Bb
set_option linter.unusedSimpArgs false
set_option linter.unusedVariables false
set_option maxRecDepth 20000
set_option maxHeartbeats 2000000

theorem aead_Seal_c (E : EnvT tab) (h : Heap) {v w : Value} (key nonce plain beside : List UInt8) (hk : key.length = 32) (hn : nonce.length = 12) (hp : plain.length ≤ 65536) (hbs : beside.length ≤ 1000000) (sp : SlB h v plain) (sb : SlB h w beside) :
    ACallN E.toEnv n_aead_Seal [.agg (key.map u8V).toArray, .agg (nonce.map u8V).toArray, v, w] h fun r h' => h.le h' ∧ ∃ r', r = .tuple #[r', .int .i64 0] ∧ OwB h h' r' (sealF key nonce plain beside) := by
  obtain ⟨base, cc, rfl⟩ := Sl.shape sp
  obtain ⟨base2, cc2, rfl⟩ := Sl.shape sb
  refine acall h_aead_Seal ir_aead_Seal rfl rfl (wpA_sound ?_)
  unfold ir_aead_Seal
  have hk' : (key.map u8V).length = 32 := by simp [hk]
  have hn' : (nonce.map u8V).length = 12 := by simp [hn]
  have g : ¬ (65536 : Int) < (plain.length : Int) := by omega
  have g' : (plain.length : Int) ≤ 65536 := by omega
  simp -implicitDefEqProofs only [zB1,zB2,zB3,zB4,zB5,zB6,zB7,zB8,zB9,zB10,zB11,y00,y01,y02,y03,y04,y05,y06,y07,y08,y09,y0a,y0b,y0c,y0d,y0e,y0f,y0g,y0h,y0i,y0j,y0k,y0l,y0m,y0n,y0o,y0p,y0q,y0r,y0s,y0t,y0u,y0v,y0w,y0x,y0y,y0z,y10,y11,y12,y13,y14,y15,y16,y17,y18,y19,y1a,y1b,y1c,y1d,y1e,y1f,y1g,y1h,y1i,y1j,y1k,y1l,y1m,y1n,y1o,y1p,y1q,y1r,retO,retL,retV,z69,allV,allP,z6a,z6d,z6e,z6k,z6l,z6m,binV,eqV,unV,oOpt,reduceIte,reduceCtorEq,Nat.reduceEqDiff,Nat.reduceAdd,Nat.reduceMul,Nat.reduceLT,Nat.reduceSub,Int.reduceLT,Int.reduceLE,Int.reduceEq,Int.reduceNe,Int.reduceSub,Int.reduceAdd,Int.reduceMul,Int.reduceBEq,Int.reduceBNe,Int.reduceGT,Int.reduceGE,Nat.reduceGT,Int.reduceToNat,Int.reduceNeg,Nat.reduceLeDiff,Nat.reduceBEq,Nat.reduceBneDiff,Value.cells, hk', hn', g, g']
  intro b4 hb4 b5 hb5
  obtain ⟨n54, hb5'⟩ := Heap.set_none.1 hb5
  have le1 : h.le ((h.set b4 (.own 0 (key.map u8V) 32)).set b5 (.own 0 (nonce.map u8V) 12)) := Heap.le_set (Heap.le_set (Heap.le_refl _) hb4 _) hb5' _
  have q4 : ((h.set b4 (.own 0 (key.map u8V) 32)).set b5 (.own 0 (nonce.map u8V) 12)) b4 = some (.own 0 (key.map u8V) 32) := set_keep (Heap.set_self _ _ _) (Ne.symm n54)
  have q5 : ((h.set b4 (.own 0 (key.map u8V) 32)).set b5 (.own 0 (nonce.map u8V) 12)) b5 = some (.own 0 (nonce.map u8V) 12) := Heap.set_self _ _ _
  generalize ((h.set b4 (.own 0 (key.map u8V) 32)).set b5 (.own 0 (nonce.map u8V) 12)) = h1 at le1 q4 q5 ⊢
  have l4 : hcells h1 ⟨b4, 0, none⟩ 32 = some (key.map u8V) := hcells_own0 q4 hk'
  have l5 : hcells h1 ⟨b5, 0, none⟩ 12 = some (nonce.map u8V) := hcells_own0 q5 hn'
  have hX := chacha_Xor_c E h1 key nonce plain 1 hk hn (by omega) (by rw [show (1 : U32).toNat = 1 from rfl]; omega) (sp.le le1)
  rw [u32_1] at hX
  try simp -implicitDefEqProofs only [zB1,zB2,zB3,zB4,zB5,zB6,zB7,zB8,zB9,zB10,zB11,y00,y01,y02,y03,y04,y05,y06,y07,y08,y09,y0a,y0b,y0c,y0d,y0e,y0f,y0g,y0h,y0i,y0j,y0k,y0l,y0m,y0n,y0o,y0p,y0q,y0r,y0s,y0t,y0u,y0v,y0w,y0x,y0y,y0z,y10,y11,y12,y13,y14,y15,y16,y17,y18,y19,y1a,y1b,y1c,y1d,y1e,y1f,y1g,y1h,y1i,y1j,y1k,y1l,y1m,y1n,y1o,y1p,y1q,y1r,retO,retL,retV,z69,allV,allP,z6a,z6d,z6e,z6k,z6l,z6m,binV,eqV,unV,oOpt,reduceIte,reduceCtorEq,Nat.reduceEqDiff,Nat.reduceAdd,Nat.reduceMul,Nat.reduceLT,Nat.reduceSub,Int.reduceLT,Int.reduceLE,Int.reduceEq,Int.reduceNe,Int.reduceSub,Int.reduceAdd,Int.reduceMul,Int.reduceBEq,Int.reduceBNe,Int.reduceGT,Int.reduceGE,Nat.reduceGT,Int.reduceToNat,Int.reduceNeg,Nat.reduceLeDiff,Nat.reduceBEq,Nat.reduceBneDiff,Value.cells, l4, l5]
  refine hX.mono ?_
  rintro r h2 ⟨le2, r', rfl, ow2⟩
  have hlen := sxF_len key 1 nonce plain
  have hlen2 := atagF_len key nonce (sxF key 1 nonce plain) beside
  have eS : sealF key nonce plain beside = sxF key 1 nonce plain ++ atagF key nonce (sxF key 1 nonce plain) beside := rfl
  rw [eS]
  generalize sxF key 1 nonce plain = c at ow2 hlen hlen2 ⊢
  have l4' := hcells_le le2 l4
  have l5' := hcells_le le2 l5
  have s2 := ow2.sl
  simp -implicitDefEqProofs only [zB1,zB2,zB3,zB4,zB5,zB6,zB7,zB8,zB9,zB10,zB11,y00,y01,y02,y03,y04,y05,y06,y07,y08,y09,y0a,y0b,y0c,y0d,y0e,y0f,y0g,y0h,y0i,y0j,y0k,y0l,y0m,y0n,y0o,y0p,y0q,y0r,y0s,y0t,y0u,y0v,y0w,y0x,y0y,y0z,y10,y11,y12,y13,y14,y15,y16,y17,y18,y19,y1a,y1b,y1c,y1d,y1e,y1f,y1g,y1h,y1i,y1j,y1k,y1l,y1m,y1n,y1o,y1p,y1q,y1r,retO,retL,retV,z69,allV,allP,z6a,z6d,z6e,z6k,z6l,z6m,binV,eqV,unV,oOpt,reduceIte,reduceCtorEq,Nat.reduceEqDiff,Nat.reduceAdd,Nat.reduceMul,Nat.reduceLT,Nat.reduceSub,Int.reduceLT,Int.reduceLE,Int.reduceEq,Int.reduceNe,Int.reduceSub,Int.reduceAdd,Int.reduceMul,Int.reduceBEq,Int.reduceBNe,Int.reduceGT,Int.reduceGE,Nat.reduceGT,Int.reduceToNat,Int.reduceNeg,Nat.reduceLeDiff,Nat.reduceBEq,Nat.reduceBneDiff,Value.cells]
  unfold ir_aead_Seal_23
  simp -implicitDefEqProofs only [zB1,zB2,zB3,zB4,zB5,zB6,zB7,zB8,zB9,zB10,zB11,y00,y01,y02,y03,y04,y05,y06,y07,y08,y09,y0a,y0b,y0c,y0d,y0e,y0f,y0g,y0h,y0i,y0j,y0k,y0l,y0m,y0n,y0o,y0p,y0q,y0r,y0s,y0t,y0u,y0v,y0w,y0x,y0y,y0z,y10,y11,y12,y13,y14,y15,y16,y17,y18,y19,y1a,y1b,y1c,y1d,y1e,y1f,y1g,y1h,y1i,y1j,y1k,y1l,y1m,y1n,y1o,y1p,y1q,y1r,retO,retL,retV,z69,allV,allP,z6a,z6d,z6e,z6k,z6l,z6m,binV,eqV,unV,oOpt,reduceIte,reduceCtorEq,Nat.reduceEqDiff,Nat.reduceAdd,Nat.reduceMul,Nat.reduceLT,Nat.reduceSub,Int.reduceLT,Int.reduceLE,Int.reduceEq,Int.reduceNe,Int.reduceSub,Int.reduceAdd,Int.reduceMul,Int.reduceBEq,Int.reduceBNe,Int.reduceGT,Int.reduceGE,Nat.reduceGT,Int.reduceToNat,Int.reduceNeg,Nat.reduceLeDiff,Nat.reduceBEq,Nat.reduceBneDiff,Value.cells, l4', l5']
  refine (aead_tag_c E _ key nonce c beside hk hn (by omega) hbs s2 (sb.le (Heap.le_trans le1 le2))).mono ?_
  rintro r h3 ⟨le3, rfl⟩
  generalize atagF key nonce c beside = tg at hlen2 ⊢
  simp -implicitDefEqProofs only [zB1,zB2,zB3,zB4,zB5,zB6,zB7,zB8,zB9,zB10,zB11,y00,y01,y02,y03,y04,y05,y06,y07,y08,y09,y0a,y0b,y0c,y0d,y0e,y0f,y0g,y0h,y0i,y0j,y0k,y0l,y0m,y0n,y0o,y0p,y0q,y0r,y0s,y0t,y0u,y0v,y0w,y0x,y0y,y0z,y10,y11,y12,y13,y14,y15,y16,y17,y18,y19,y1a,y1b,y1c,y1d,y1e,y1f,y1g,y1h,y1i,y1j,y1k,y1l,y1m,y1n,y1o,y1p,y1q,y1r,retO,retL,retV,z69,allV,allP,z6a,z6d,z6e,z6k,z6l,z6m,binV,eqV,unV,oOpt,reduceIte,reduceCtorEq,Nat.reduceEqDiff,Nat.reduceAdd,Nat.reduceMul,Nat.reduceLT,Nat.reduceSub,Int.reduceLT,Int.reduceLE,Int.reduceEq,Int.reduceNe,Int.reduceSub,Int.reduceAdd,Int.reduceMul,Int.reduceBEq,Int.reduceBNe,Int.reduceGT,Int.reduceGE,Nat.reduceGT,Int.reduceToNat,Int.reduceNeg,Nat.reduceLeDiff,Nat.reduceBEq,Nat.reduceBneDiff,Value.cells, List.length_replicate]
  intro b12 hb12
  have s12 : storeV (h3.set b12 (.own 0 (List.replicate 16 (.int .u8 0)) 16)) 16 (.pointer (some ⟨b12, 0, none⟩)) (.agg (tg.map u8V).toArray) = some (h3.set b12 (.own 0 (tg.map u8V) 16)) := z6q (by omega) (by simp [hlen2]) (one_u8 _) (by simp) (by omega)
  have le4 := Heap.le_new le3 hb12 (.own 0 (tg.map u8V) 16)
  have st : SlB (h3.set b12 (.own 0 (tg.map u8V) 16)) (.slice (some ⟨b12, 0, none⟩) 16 16) tg := by
    have := own_sl (H := h3.set b12 (.own 0 (tg.map u8V) 16)) (b := b12) (l := tg) (sz := 16) (Heap.set_self _ _ _)
    rw [hlen2] at this
    exact this
  simp -implicitDefEqProofs only [zB1,zB2,zB3,zB4,zB5,zB6,zB7,zB8,zB9,zB10,zB11,y00,y01,y02,y03,y04,y05,y06,y07,y08,y09,y0a,y0b,y0c,y0d,y0e,y0f,y0g,y0h,y0i,y0j,y0k,y0l,y0m,y0n,y0o,y0p,y0q,y0r,y0s,y0t,y0u,y0v,y0w,y0x,y0y,y0z,y10,y11,y12,y13,y14,y15,y16,y17,y18,y19,y1a,y1b,y1c,y1d,y1e,y1f,y1g,y1h,y1i,y1j,y1k,y1l,y1m,y1n,y1o,y1p,y1q,y1r,retO,retL,retV,z69,allV,allP,z6a,z6d,z6e,z6k,z6l,z6m,binV,eqV,unV,oOpt,reduceIte,reduceCtorEq,Nat.reduceEqDiff,Nat.reduceAdd,Nat.reduceMul,Nat.reduceLT,Nat.reduceSub,Int.reduceLT,Int.reduceLE,Int.reduceEq,Int.reduceNe,Int.reduceSub,Int.reduceAdd,Int.reduceMul,Int.reduceBEq,Int.reduceBNe,Int.reduceGT,Int.reduceGE,Nat.reduceGT,Int.reduceToNat,Int.reduceNeg,Nat.reduceLeDiff,Nat.reduceBEq,Nat.reduceBneDiff,Value.cells, s12, bnds_no, Nat.sub_zero, addz]
  refine appendP_ow (bytes := 1) (m := tg.length) (news := tg.map u8V) (Heap.le_trans (Heap.le_trans le1 le2) le4) (by omega) ((Ow.since le1 ow2).le le4) st (one_u8 _) (by omega) (by omega) ?_
  intro v5 H5 ow5 le5
  simp -implicitDefEqProofs only [zB1,zB2,zB3,zB4,zB5,zB6,zB7,zB8,zB9,zB10,zB11,y00,y01,y02,y03,y04,y05,y06,y07,y08,y09,y0a,y0b,y0c,y0d,y0e,y0f,y0g,y0h,y0i,y0j,y0k,y0l,y0m,y0n,y0o,y0p,y0q,y0r,y0s,y0t,y0u,y0v,y0w,y0x,y0y,y0z,y10,y11,y12,y13,y14,y15,y16,y17,y18,y19,y1a,y1b,y1c,y1d,y1e,y1f,y1g,y1h,y1i,y1j,y1k,y1l,y1m,y1n,y1o,y1p,y1q,y1r,retO,retL,retV,z69,allV,allP,z6a,z6d,z6e,z6k,z6l,z6m,binV,eqV,unV,oOpt,reduceIte,reduceCtorEq,Nat.reduceEqDiff,Nat.reduceAdd,Nat.reduceMul,Nat.reduceLT,Nat.reduceSub,Int.reduceLT,Int.reduceLE,Int.reduceEq,Int.reduceNe,Int.reduceSub,Int.reduceAdd,Int.reduceMul,Int.reduceBEq,Int.reduceBNe,Int.reduceGT,Int.reduceGE,Nat.reduceGT,Int.reduceToNat,Int.reduceNeg,Nat.reduceLeDiff,Nat.reduceBEq,Nat.reduceBneDiff,Value.cells]
  refine ⟨le5, _, rfl, ?_⟩
  unfold OwB
  rw [List.length_append, List.map_append]
  exact ow5
end Go.Bb
/- Contracts: opened. -/
namespace Go.Bb
set_option linter.unusedSimpArgs false
set_option linter.unusedVariables false
set_option maxRecDepth 20000
set_option maxHeartbeats 2000000

theorem aead_Open_c (E : EnvT tab) (h : Heap) {v w : Value} (key nonce sealed beside : List UInt8) (hk : key.length = 32) (hn : nonce.length = 12) (hs : sealed.length ≤ 100000000) (hbs : beside.length ≤ 1000000) (sp : SlB h v sealed) (sb : SlB h w beside) :
    ACallN E.toEnv n_aead_Open [.agg (key.map u8V).toArray, .agg (nonce.map u8V).toArray, v, w] h fun r h' => h.le h' ∧ ∃ r', r = .tuple #[r', .int .i64 (((openF key nonce sealed beside).1 : Nat) : Int)] ∧ OwB h h' r' (openF key nonce sealed beside).2 := by
  obtain ⟨base, cc, rfl⟩ := Sl.shape sp
  obtain ⟨base2, cc2, rfl⟩ := Sl.shape sb
  refine acall h_aead_Open ir_aead_Open rfl rfl (wpA_sound ?_)
  unfold ir_aead_Open
  have hk' : (key.map u8V).length = 32 := by simp [hk]
  have hn' : (nonce.map u8V).length = 12 := by simp [hn]
  have hcap : sealed.length ≤ cc := by
    rcases sp with ⟨e, hn, _⟩ | ⟨a, c', e, hc, _⟩
    · simp only [Value.slice.injEq] at e; omega
    · cases e; exact hc
  unfold openF
  by_cases g1 : 65552 < sealed.length
  · have g : (65552 : Int) < (sealed.length : Int) := by omega
    rw [if_pos g1]
    simp -implicitDefEqProofs only [zB1,zB2,zB3,zB4,zB5,zB6,zB7,zB8,zB9,zB10,zB11,y00,y01,y02,y03,y04,y05,y06,y07,y08,y09,y0a,y0b,y0c,y0d,y0e,y0f,y0g,y0h,y0i,y0j,y0k,y0l,y0m,y0n,y0o,y0p,y0q,y0r,y0s,y0t,y0u,y0v,y0w,y0x,y0y,y0z,y10,y11,y12,y13,y14,y15,y16,y17,y18,y19,y1a,y1b,y1c,y1d,y1e,y1f,y1g,y1h,y1i,y1j,y1k,y1l,y1m,y1n,y1o,y1p,y1q,y1r,retO,retL,retV,z69,allV,allP,z6a,z6d,z6e,z6k,z6l,z6m,binV,eqV,unV,oOpt,reduceIte,reduceCtorEq,Nat.reduceEqDiff,Nat.reduceAdd,Nat.reduceMul,Nat.reduceLT,Nat.reduceSub,Int.reduceLT,Int.reduceLE,Int.reduceEq,Int.reduceNe,Int.reduceSub,Int.reduceAdd,Int.reduceMul,Int.reduceBEq,Int.reduceBNe,Int.reduceGT,Int.reduceGE,Nat.reduceGT,Int.reduceToNat,Int.reduceNeg,Nat.reduceLeDiff,Nat.reduceBEq,Nat.reduceBneDiff,Value.cells, hk', hn', g]
    intro b4 hb4 b5 hb5
    obtain ⟨n54, hb5'⟩ := Heap.set_none.1 hb5
    exact ⟨Heap.le_set (Heap.le_set (Heap.le_refl _) hb4 _) hb5' _, _, rfl, Ow.nil _ _ _⟩
  rw [if_neg g1]
  have g : ¬ (65552 : Int) < (sealed.length : Int) := by omega
  have g' : (sealed.length : Int) ≤ 65552 := by omega
  have w1 : IntKind.i64.wrap ((sealed.length : Int) - 16) = (sealed.length : Int) - 16 := wrapI (by omega) (by omega)
  by_cases g2 : sealed.length < 16
  · have gg : (sealed.length : Int) - 16 < 0 := by omega
    rw [if_pos g2]
    simp -implicitDefEqProofs only [zB1,zB2,zB3,zB4,zB5,zB6,zB7,zB8,zB9,zB10,zB11,y00,y01,y02,y03,y04,y05,y06,y07,y08,y09,y0a,y0b,y0c,y0d,y0e,y0f,y0g,y0h,y0i,y0j,y0k,y0l,y0m,y0n,y0o,y0p,y0q,y0r,y0s,y0t,y0u,y0v,y0w,y0x,y0y,y0z,y10,y11,y12,y13,y14,y15,y16,y17,y18,y19,y1a,y1b,y1c,y1d,y1e,y1f,y1g,y1h,y1i,y1j,y1k,y1l,y1m,y1n,y1o,y1p,y1q,y1r,retO,retL,retV,z69,allV,allP,z6a,z6d,z6e,z6k,z6l,z6m,binV,eqV,unV,oOpt,reduceIte,reduceCtorEq,Nat.reduceEqDiff,Nat.reduceAdd,Nat.reduceMul,Nat.reduceLT,Nat.reduceSub,Int.reduceLT,Int.reduceLE,Int.reduceEq,Int.reduceNe,Int.reduceSub,Int.reduceAdd,Int.reduceMul,Int.reduceBEq,Int.reduceBNe,Int.reduceGT,Int.reduceGE,Nat.reduceGT,Int.reduceToNat,Int.reduceNeg,Nat.reduceLeDiff,Nat.reduceBEq,Nat.reduceBneDiff,Value.cells, hk', hn', g, g', w1, gg]
    intro b4 hb4 b5 hb5
    obtain ⟨n54, hb5'⟩ := Heap.set_none.1 hb5
    exact ⟨Heap.le_set (Heap.le_set (Heap.le_refl _) hb4 _) hb5' _, _, rfl, Ow.nil _ _ _⟩
  rw [if_neg g2]
  obtain ⟨n, hnl⟩ : ∃ n, sealed.length = n + 16 := ⟨sealed.length - 16, by omega⟩
  have en : (sealed.length : Int) - 16 = (n : Int) := by omega
  rw [show sealed.length - 16 = n by omega]
  rw [en] at w1
  have gg : ¬ ((n : Int) < 0) := by omega
  have bd : bnds sealed.length cc none (some (some (.int .i64 (n : Int)))) none = some (0, n, cc) := bnds_hi (by omega) (by omega)
  simp -implicitDefEqProofs only [zB1,zB2,zB3,zB4,zB5,zB6,zB7,zB8,zB9,zB10,zB11,y00,y01,y02,y03,y04,y05,y06,y07,y08,y09,y0a,y0b,y0c,y0d,y0e,y0f,y0g,y0h,y0i,y0j,y0k,y0l,y0m,y0n,y0o,y0p,y0q,y0r,y0s,y0t,y0u,y0v,y0w,y0x,y0y,y0z,y10,y11,y12,y13,y14,y15,y16,y17,y18,y19,y1a,y1b,y1c,y1d,y1e,y1f,y1g,y1h,y1i,y1j,y1k,y1l,y1m,y1n,y1o,y1p,y1q,y1r,retO,retL,retV,z69,allV,allP,z6a,z6d,z6e,z6k,z6l,z6m,binV,eqV,unV,oOpt,reduceIte,reduceCtorEq,Nat.reduceEqDiff,Nat.reduceAdd,Nat.reduceMul,Nat.reduceLT,Nat.reduceSub,Int.reduceLT,Int.reduceLE,Int.reduceEq,Int.reduceNe,Int.reduceSub,Int.reduceAdd,Int.reduceMul,Int.reduceBEq,Int.reduceBNe,Int.reduceGT,Int.reduceGE,Nat.reduceGT,Int.reduceToNat,Int.reduceNeg,Nat.reduceLeDiff,Nat.reduceBEq,Nat.reduceBneDiff,Value.cells, hk', hn', g, g', en, w1, gg, bd, Nat.sub_zero]
  intro b4 hb4 b5 hb5
  obtain ⟨n54, hb5'⟩ := Heap.set_none.1 hb5
  have le1 : h.le ((h.set b4 (.own 0 (key.map u8V) 32)).set b5 (.own 0 (nonce.map u8V) 12)) := Heap.le_set (Heap.le_set (Heap.le_refl _) hb4 _) hb5' _
  have q4 : ((h.set b4 (.own 0 (key.map u8V) 32)).set b5 (.own 0 (nonce.map u8V) 12)) b4 = some (.own 0 (key.map u8V) 32) := set_keep (Heap.set_self _ _ _) (Ne.symm n54)
  have q5 : ((h.set b4 (.own 0 (key.map u8V) 32)).set b5 (.own 0 (nonce.map u8V) 12)) b5 = some (.own 0 (nonce.map u8V) 12) := Heap.set_self _ _ _
  generalize ((h.set b4 (.own 0 (key.map u8V) 32)).set b5 (.own 0 (nonce.map u8V) 12)) = h1 at le1 q4 q5 ⊢
  have l4 : hcells h1 ⟨b4, 0, none⟩ 32 = some (key.map u8V) := hcells_own0 q4 hk'
  have l5 : hcells h1 ⟨b5, 0, none⟩ 12 = some (nonce.map u8V) := hcells_own0 q5 hn'
  rw [addO base cc fun a _ => addr_add0 a]
  have sh := Sl.headB (sp.le le1) (m := n) (by omega)
  have lh : (sealed.take n).length = n := by simp; omega
  refine (Clone_c E h1 (sealed.take n) (by omega) sh).mono ?_
  rintro r h2 ⟨le2, ow2⟩
  have s2 := ow2.sl
  have sT := Sl.midB (a := n) (b := sealed.length) (sp.le le1) (by omega) (by omega)
  have lT : ((sealed.drop n).take (sealed.length - n)) = sealed.drop n := List.take_of_length_le (by simp)
  rw [lT] at sT
  generalize sealed.take n = c at lh s2 ow2 ⊢
  obtain ⟨base3, cc3, rfl⟩ := Sl.shape s2
  have l4' := hcells_le le2 l4
  have l5' := hcells_le le2 l5
  simp -implicitDefEqProofs only [zB1,zB2,zB3,zB4,zB5,zB6,zB7,zB8,zB9,zB10,zB11,y00,y01,y02,y03,y04,y05,y06,y07,y08,y09,y0a,y0b,y0c,y0d,y0e,y0f,y0g,y0h,y0i,y0j,y0k,y0l,y0m,y0n,y0o,y0p,y0q,y0r,y0s,y0t,y0u,y0v,y0w,y0x,y0y,y0z,y10,y11,y12,y13,y14,y15,y16,y17,y18,y19,y1a,y1b,y1c,y1d,y1e,y1f,y1g,y1h,y1i,y1j,y1k,y1l,y1m,y1n,y1o,y1p,y1q,y1r,retO,retL,retV,z69,allV,allP,z6a,z6d,z6e,z6k,z6l,z6m,binV,eqV,unV,oOpt,reduceIte,reduceCtorEq,Nat.reduceEqDiff,Nat.reduceAdd,Nat.reduceMul,Nat.reduceLT,Nat.reduceSub,Int.reduceLT,Int.reduceLE,Int.reduceEq,Int.reduceNe,Int.reduceSub,Int.reduceAdd,Int.reduceMul,Int.reduceBEq,Int.reduceBNe,Int.reduceGT,Int.reduceGE,Nat.reduceGT,Int.reduceToNat,Int.reduceNeg,Nat.reduceLeDiff,Nat.reduceBEq,Nat.reduceBneDiff,Value.cells]
  unfold ir_aead_Open_25
  simp -implicitDefEqProofs only [zB1,zB2,zB3,zB4,zB5,zB6,zB7,zB8,zB9,zB10,zB11,y00,y01,y02,y03,y04,y05,y06,y07,y08,y09,y0a,y0b,y0c,y0d,y0e,y0f,y0g,y0h,y0i,y0j,y0k,y0l,y0m,y0n,y0o,y0p,y0q,y0r,y0s,y0t,y0u,y0v,y0w,y0x,y0y,y0z,y10,y11,y12,y13,y14,y15,y16,y17,y18,y19,y1a,y1b,y1c,y1d,y1e,y1f,y1g,y1h,y1i,y1j,y1k,y1l,y1m,y1n,y1o,y1p,y1q,y1r,retO,retL,retV,z69,allV,allP,z6a,z6d,z6e,z6k,z6l,z6m,binV,eqV,unV,oOpt,reduceIte,reduceCtorEq,Nat.reduceEqDiff,Nat.reduceAdd,Nat.reduceMul,Nat.reduceLT,Nat.reduceSub,Int.reduceLT,Int.reduceLE,Int.reduceEq,Int.reduceNe,Int.reduceSub,Int.reduceAdd,Int.reduceMul,Int.reduceBEq,Int.reduceBNe,Int.reduceGT,Int.reduceGE,Nat.reduceGT,Int.reduceToNat,Int.reduceNeg,Nat.reduceLeDiff,Nat.reduceBEq,Nat.reduceBneDiff,Value.cells, l4', l5']
  refine (aead_tag_c E _ key nonce c beside hk hn (by omega) hbs s2 (sb.le (Heap.le_trans le1 le2))).mono ?_
  rintro r h3 ⟨le3, rfl⟩
  have hlen2 := atagF_len key nonce c beside
  generalize atagF key nonce c beside = tg at hlen2 ⊢
  simp -implicitDefEqProofs only [zB1,zB2,zB3,zB4,zB5,zB6,zB7,zB8,zB9,zB10,zB11,y00,y01,y02,y03,y04,y05,y06,y07,y08,y09,y0a,y0b,y0c,y0d,y0e,y0f,y0g,y0h,y0i,y0j,y0k,y0l,y0m,y0n,y0o,y0p,y0q,y0r,y0s,y0t,y0u,y0v,y0w,y0x,y0y,y0z,y10,y11,y12,y13,y14,y15,y16,y17,y18,y19,y1a,y1b,y1c,y1d,y1e,y1f,y1g,y1h,y1i,y1j,y1k,y1l,y1m,y1n,y1o,y1p,y1q,y1r,retO,retL,retV,z69,allV,allP,z6a,z6d,z6e,z6k,z6l,z6m,binV,eqV,unV,oOpt,reduceIte,reduceCtorEq,Nat.reduceEqDiff,Nat.reduceAdd,Nat.reduceMul,Nat.reduceLT,Nat.reduceSub,Int.reduceLT,Int.reduceLE,Int.reduceEq,Int.reduceNe,Int.reduceSub,Int.reduceAdd,Int.reduceMul,Int.reduceBEq,Int.reduceBNe,Int.reduceGT,Int.reduceGE,Nat.reduceGT,Int.reduceToNat,Int.reduceNeg,Nat.reduceLeDiff,Nat.reduceBEq,Nat.reduceBneDiff,Value.cells, List.length_replicate]
  intro b12 hb12
  have s12 : storeV (h3.set b12 (.own 0 (List.replicate 16 (.int .u8 0)) 16)) 16 (.pointer (some ⟨b12, 0, none⟩)) (.agg (tg.map u8V).toArray) = some (h3.set b12 (.own 0 (tg.map u8V) 16)) := z6q (by omega) (by simp [hlen2]) (one_u8 _) (by simp) (by omega)
  have le4 := Heap.le_new le3 hb12 (.own 0 (tg.map u8V) 16)
  have st : SlB (h3.set b12 (.own 0 (tg.map u8V) 16)) (.slice (some ⟨b12, 0, none⟩) 16 16) tg := by
    have := own_sl (H := h3.set b12 (.own 0 (tg.map u8V) 16)) (b := b12) (l := tg) (sz := 16) (Heap.set_self _ _ _)
    rw [hlen2] at this
    exact this
  have bd2 : bnds sealed.length cc (some (some (.int .i64 (n : Int)))) none none = some (n, sealed.length, cc) := bnds_lo (by omega) (by omega)
  simp -implicitDefEqProofs only [zB1,zB2,zB3,zB4,zB5,zB6,zB7,zB8,zB9,zB10,zB11,y00,y01,y02,y03,y04,y05,y06,y07,y08,y09,y0a,y0b,y0c,y0d,y0e,y0f,y0g,y0h,y0i,y0j,y0k,y0l,y0m,y0n,y0o,y0p,y0q,y0r,y0s,y0t,y0u,y0v,y0w,y0x,y0y,y0z,y10,y11,y12,y13,y14,y15,y16,y17,y18,y19,y1a,y1b,y1c,y1d,y1e,y1f,y1g,y1h,y1i,y1j,y1k,y1l,y1m,y1n,y1o,y1p,y1q,y1r,retO,retL,retV,z69,allV,allP,z6a,z6d,z6e,z6k,z6l,z6m,binV,eqV,unV,oOpt,reduceIte,reduceCtorEq,Nat.reduceEqDiff,Nat.reduceAdd,Nat.reduceMul,Nat.reduceLT,Nat.reduceSub,Int.reduceLT,Int.reduceLE,Int.reduceEq,Int.reduceNe,Int.reduceSub,Int.reduceAdd,Int.reduceMul,Int.reduceBEq,Int.reduceBNe,Int.reduceGT,Int.reduceGE,Nat.reduceGT,Int.reduceToNat,Int.reduceNeg,Nat.reduceLeDiff,Nat.reduceBEq,Nat.reduceBneDiff,Value.cells, s12, bnds_no, Nat.sub_zero, addz, bd2]
  have sT' := sT.le (Heap.le_trans le2 le4)
  have lS : (sealed.drop n).length = sealed.length - n := by simp
  refine (octet_Equal_c E _ tg (sealed.drop n) (by omega) st (by exact sT')).mono ?_
  rintro r h5 ⟨rfl, rfl⟩
  have l4a := hcells_le le4 l4'
  have l5a := hcells_le le4 l5'
  by_cases ht : tg = sealed.drop n
  · rw [if_pos ht]
    have hX := chacha_Xor_c E (h3.set b12 (.own 0 (tg.map u8V) 16)) key nonce c 1 hk hn (by omega) (by rw [show (1 : U32).toNat = 1 from rfl]; omega) (s2.le le4)
    rw [u32_1] at hX
    simp -implicitDefEqProofs only [zB1,zB2,zB3,zB4,zB5,zB6,zB7,zB8,zB9,zB10,zB11,y00,y01,y02,y03,y04,y05,y06,y07,y08,y09,y0a,y0b,y0c,y0d,y0e,y0f,y0g,y0h,y0i,y0j,y0k,y0l,y0m,y0n,y0o,y0p,y0q,y0r,y0s,y0t,y0u,y0v,y0w,y0x,y0y,y0z,y10,y11,y12,y13,y14,y15,y16,y17,y18,y19,y1a,y1b,y1c,y1d,y1e,y1f,y1g,y1h,y1i,y1j,y1k,y1l,y1m,y1n,y1o,y1p,y1q,y1r,retO,retL,retV,z69,allV,allP,z6a,z6d,z6e,z6k,z6l,z6m,binV,eqV,unV,oOpt,reduceIte,reduceCtorEq,Nat.reduceEqDiff,Nat.reduceAdd,Nat.reduceMul,Nat.reduceLT,Nat.reduceSub,Int.reduceLT,Int.reduceLE,Int.reduceEq,Int.reduceNe,Int.reduceSub,Int.reduceAdd,Int.reduceMul,Int.reduceBEq,Int.reduceBNe,Int.reduceGT,Int.reduceGE,Nat.reduceGT,Int.reduceToNat,Int.reduceNeg,Nat.reduceLeDiff,Nat.reduceBEq,Nat.reduceBneDiff,Value.cells, ht]
    rw [← ht]
    simp -implicitDefEqProofs only [zB1,zB2,zB3,zB4,zB5,zB6,zB7,zB8,zB9,zB10,zB11,y00,y01,y02,y03,y04,y05,y06,y07,y08,y09,y0a,y0b,y0c,y0d,y0e,y0f,y0g,y0h,y0i,y0j,y0k,y0l,y0m,y0n,y0o,y0p,y0q,y0r,y0s,y0t,y0u,y0v,y0w,y0x,y0y,y0z,y10,y11,y12,y13,y14,y15,y16,y17,y18,y19,y1a,y1b,y1c,y1d,y1e,y1f,y1g,y1h,y1i,y1j,y1k,y1l,y1m,y1n,y1o,y1p,y1q,y1r,retO,retL,retV,z69,allV,allP,z6a,z6d,z6e,z6k,z6l,z6m,binV,eqV,unV,oOpt,reduceIte,reduceCtorEq,Nat.reduceEqDiff,Nat.reduceAdd,Nat.reduceMul,Nat.reduceLT,Nat.reduceSub,Int.reduceLT,Int.reduceLE,Int.reduceEq,Int.reduceNe,Int.reduceSub,Int.reduceAdd,Int.reduceMul,Int.reduceBEq,Int.reduceBNe,Int.reduceGT,Int.reduceGE,Nat.reduceGT,Int.reduceToNat,Int.reduceNeg,Nat.reduceLeDiff,Nat.reduceBEq,Nat.reduceBneDiff,Value.cells, l4a, l5a]
    refine hX.mono ?_
    rintro r h6 ⟨le6, r', rfl, ow6⟩
    simp -implicitDefEqProofs only [zB1,zB2,zB3,zB4,zB5,zB6,zB7,zB8,zB9,zB10,zB11,y00,y01,y02,y03,y04,y05,y06,y07,y08,y09,y0a,y0b,y0c,y0d,y0e,y0f,y0g,y0h,y0i,y0j,y0k,y0l,y0m,y0n,y0o,y0p,y0q,y0r,y0s,y0t,y0u,y0v,y0w,y0x,y0y,y0z,y10,y11,y12,y13,y14,y15,y16,y17,y18,y19,y1a,y1b,y1c,y1d,y1e,y1f,y1g,y1h,y1i,y1j,y1k,y1l,y1m,y1n,y1o,y1p,y1q,y1r,retO,retL,retV,z69,allV,allP,z6a,z6d,z6e,z6k,z6l,z6m,binV,eqV,unV,oOpt,reduceIte,reduceCtorEq,Nat.reduceEqDiff,Nat.reduceAdd,Nat.reduceMul,Nat.reduceLT,Nat.reduceSub,Int.reduceLT,Int.reduceLE,Int.reduceEq,Int.reduceNe,Int.reduceSub,Int.reduceAdd,Int.reduceMul,Int.reduceBEq,Int.reduceBNe,Int.reduceGT,Int.reduceGE,Nat.reduceGT,Int.reduceToNat,Int.reduceNeg,Nat.reduceLeDiff,Nat.reduceBEq,Nat.reduceBneDiff,Value.cells]
    have le06 := Heap.le_trans le1 (Heap.le_trans le2 le4)
    exact ⟨Heap.le_trans le06 le6, _, rfl, Ow.since le06 ow6⟩
  · rw [if_neg ht]
    simp -implicitDefEqProofs only [zB1,zB2,zB3,zB4,zB5,zB6,zB7,zB8,zB9,zB10,zB11,y00,y01,y02,y03,y04,y05,y06,y07,y08,y09,y0a,y0b,y0c,y0d,y0e,y0f,y0g,y0h,y0i,y0j,y0k,y0l,y0m,y0n,y0o,y0p,y0q,y0r,y0s,y0t,y0u,y0v,y0w,y0x,y0y,y0z,y10,y11,y12,y13,y14,y15,y16,y17,y18,y19,y1a,y1b,y1c,y1d,y1e,y1f,y1g,y1h,y1i,y1j,y1k,y1l,y1m,y1n,y1o,y1p,y1q,y1r,retO,retL,retV,z69,allV,allP,z6a,z6d,z6e,z6k,z6l,z6m,binV,eqV,unV,oOpt,reduceIte,reduceCtorEq,Nat.reduceEqDiff,Nat.reduceAdd,Nat.reduceMul,Nat.reduceLT,Nat.reduceSub,Int.reduceLT,Int.reduceLE,Int.reduceEq,Int.reduceNe,Int.reduceSub,Int.reduceAdd,Int.reduceMul,Int.reduceBEq,Int.reduceBNe,Int.reduceGT,Int.reduceGE,Nat.reduceGT,Int.reduceToNat,Int.reduceNeg,Nat.reduceLeDiff,Nat.reduceBEq,Nat.reduceBneDiff,Value.cells, ht]
    exact ⟨Heap.le_trans le1 (Heap.le_trans le2 le4), _, rfl, Ow.nil _ _ _⟩
end Go.Bb
/- Contracts: keys for a while: nonces, wrapping. -/
namespace Go.Bb
set_option linter.unusedSimpArgs false
set_option linter.unusedVariables false
set_option maxRecDepth 20000
set_option maxHeartbeats 2000000

def nonceF (dev n : Nat) : List UInt8 := bigF (BitVec.ofNat 64 dev) 4 ++ bigF (BitVec.ofNat 64 n) 8
theorem nonceF_len (dev n : Nat) : (nonceF dev n).length = 12 := by simp [nonceF, bigF_len]
theorem leavesEq_dec : ∀ l m : List UInt8, l.length = m.length → leavesEq (l.map u8V) (m.map u8V) = decide (l = m)
  | [], [], _ => rfl
  | [], _ :: _, h => by simp at h
  | _ :: _, [], h => by simp at h
  | a :: l, b :: m, h => by
      have := leavesEq_dec l m (by simpa using h)
      simp only [List.map_cons, leavesEq, this, u8V, leafEq]
      by_cases e : a = b
      · subst e; simp
      · have : ¬ (a.toNat : Int) = b.toNat := fun q => e (UInt8.toNat_inj.1 (by omega))
        simp [this, e]
theorem wrap_u64N (n : Nat) (h : n < 18446744073709551616) : IntKind.u64.wrap (n : Int) = ((BitVec.ofNat 64 n).toNat : Int) := by
  rw [BitVec.toNat_ofNat, Nat.mod_eq_of_lt h]
  simp [IntKind.wrap, IntKind.bits, IntKind.signed]; omega

theorem epoch_good_c (E : EnvT tab) (h : Heap) (n : Int) : ACallN E.toEnv n_epoch_good [.int .i64 n] h fun r h' => h' = h ∧ r = .bool (decide (0 ≤ n ∧ n ≤ 1099511627776)) := by
  refine acall h_epoch_good ir_epoch_good rfl rfl (wpA_sound ?_)
  unfold ir_epoch_good
  by_cases g0 : 0 ≤ n
  · by_cases g1 : n ≤ 1099511627776
    · simp -implicitDefEqProofs only [zB1,zB2,zB3,zB4,zB5,zB6,zB7,zB8,zB9,zB10,zB11,y00,y01,y02,y03,y04,y05,y06,y07,y08,y09,y0a,y0b,y0c,y0d,y0e,y0f,y0g,y0h,y0i,y0j,y0k,y0l,y0m,y0n,y0o,y0p,y0q,y0r,y0s,y0t,y0u,y0v,y0w,y0x,y0y,y0z,y10,y11,y12,y13,y14,y15,y16,y17,y18,y19,y1a,y1b,y1c,y1d,y1e,y1f,y1g,y1h,y1i,y1j,y1k,y1l,y1m,y1n,y1o,y1p,y1q,y1r,retO,retL,retV,z69,allV,allP,z6a,z6d,z6e,z6k,z6l,z6m,binV,eqV,unV,oOpt,reduceIte,reduceCtorEq,Nat.reduceEqDiff,Nat.reduceAdd,Nat.reduceMul,Nat.reduceLT,Nat.reduceSub,Int.reduceLT,Int.reduceLE,Int.reduceEq,Int.reduceNe,Int.reduceSub,Int.reduceAdd,Int.reduceMul,Int.reduceBEq,Int.reduceBNe,Int.reduceGT,Int.reduceGE,Nat.reduceGT,Int.reduceToNat,Int.reduceNeg,Nat.reduceLeDiff,Nat.reduceBEq,Nat.reduceBneDiff,Value.cells, g0, g1]
    · simp -implicitDefEqProofs only [zB1,zB2,zB3,zB4,zB5,zB6,zB7,zB8,zB9,zB10,zB11,y00,y01,y02,y03,y04,y05,y06,y07,y08,y09,y0a,y0b,y0c,y0d,y0e,y0f,y0g,y0h,y0i,y0j,y0k,y0l,y0m,y0n,y0o,y0p,y0q,y0r,y0s,y0t,y0u,y0v,y0w,y0x,y0y,y0z,y10,y11,y12,y13,y14,y15,y16,y17,y18,y19,y1a,y1b,y1c,y1d,y1e,y1f,y1g,y1h,y1i,y1j,y1k,y1l,y1m,y1n,y1o,y1p,y1q,y1r,retO,retL,retV,z69,allV,allP,z6a,z6d,z6e,z6k,z6l,z6m,binV,eqV,unV,oOpt,reduceIte,reduceCtorEq,Nat.reduceEqDiff,Nat.reduceAdd,Nat.reduceMul,Nat.reduceLT,Nat.reduceSub,Int.reduceLT,Int.reduceLE,Int.reduceEq,Int.reduceNe,Int.reduceSub,Int.reduceAdd,Int.reduceMul,Int.reduceBEq,Int.reduceBNe,Int.reduceGT,Int.reduceGE,Nat.reduceGT,Int.reduceToNat,Int.reduceNeg,Nat.reduceLeDiff,Nat.reduceBEq,Nat.reduceBneDiff,Value.cells, g0, g1]
  · simp -implicitDefEqProofs only [zB1,zB2,zB3,zB4,zB5,zB6,zB7,zB8,zB9,zB10,zB11,y00,y01,y02,y03,y04,y05,y06,y07,y08,y09,y0a,y0b,y0c,y0d,y0e,y0f,y0g,y0h,y0i,y0j,y0k,y0l,y0m,y0n,y0o,y0p,y0q,y0r,y0s,y0t,y0u,y0v,y0w,y0x,y0y,y0z,y10,y11,y12,y13,y14,y15,y16,y17,y18,y19,y1a,y1b,y1c,y1d,y1e,y1f,y1g,y1h,y1i,y1j,y1k,y1l,y1m,y1n,y1o,y1p,y1q,y1r,retO,retL,retV,z69,allV,allP,z6a,z6d,z6e,z6k,z6l,z6m,binV,eqV,unV,oOpt,reduceIte,reduceCtorEq,Nat.reduceEqDiff,Nat.reduceAdd,Nat.reduceMul,Nat.reduceLT,Nat.reduceSub,Int.reduceLT,Int.reduceLE,Int.reduceEq,Int.reduceNe,Int.reduceSub,Int.reduceAdd,Int.reduceMul,Int.reduceBEq,Int.reduceBNe,Int.reduceGT,Int.reduceGE,Nat.reduceGT,Int.reduceToNat,Int.reduceNeg,Nat.reduceLeDiff,Nat.reduceBEq,Nat.reduceBneDiff,Value.cells, g0, false_and]
theorem vec_Dev_c (E : EnvT tab) (h : Heap) (n : Int) : ACallN E.toEnv n_vec_Dev [.int .i64 n] h fun r h' => h' = h ∧ r = .bool (decide (0 ≤ n ∧ n < 8)) := by
  refine acall h_vec_Dev ir_vec_Dev rfl rfl (wpA_sound ?_)
  unfold ir_vec_Dev
  by_cases g0 : 0 ≤ n
  · by_cases g1 : n < 8
    · simp -implicitDefEqProofs only [zB1,zB2,zB3,zB4,zB5,zB6,zB7,zB8,zB9,zB10,zB11,y00,y01,y02,y03,y04,y05,y06,y07,y08,y09,y0a,y0b,y0c,y0d,y0e,y0f,y0g,y0h,y0i,y0j,y0k,y0l,y0m,y0n,y0o,y0p,y0q,y0r,y0s,y0t,y0u,y0v,y0w,y0x,y0y,y0z,y10,y11,y12,y13,y14,y15,y16,y17,y18,y19,y1a,y1b,y1c,y1d,y1e,y1f,y1g,y1h,y1i,y1j,y1k,y1l,y1m,y1n,y1o,y1p,y1q,y1r,retO,retL,retV,z69,allV,allP,z6a,z6d,z6e,z6k,z6l,z6m,binV,eqV,unV,oOpt,reduceIte,reduceCtorEq,Nat.reduceEqDiff,Nat.reduceAdd,Nat.reduceMul,Nat.reduceLT,Nat.reduceSub,Int.reduceLT,Int.reduceLE,Int.reduceEq,Int.reduceNe,Int.reduceSub,Int.reduceAdd,Int.reduceMul,Int.reduceBEq,Int.reduceBNe,Int.reduceGT,Int.reduceGE,Nat.reduceGT,Int.reduceToNat,Int.reduceNeg,Nat.reduceLeDiff,Nat.reduceBEq,Nat.reduceBneDiff,Value.cells, g0, g1]
    · simp -implicitDefEqProofs only [zB1,zB2,zB3,zB4,zB5,zB6,zB7,zB8,zB9,zB10,zB11,y00,y01,y02,y03,y04,y05,y06,y07,y08,y09,y0a,y0b,y0c,y0d,y0e,y0f,y0g,y0h,y0i,y0j,y0k,y0l,y0m,y0n,y0o,y0p,y0q,y0r,y0s,y0t,y0u,y0v,y0w,y0x,y0y,y0z,y10,y11,y12,y13,y14,y15,y16,y17,y18,y19,y1a,y1b,y1c,y1d,y1e,y1f,y1g,y1h,y1i,y1j,y1k,y1l,y1m,y1n,y1o,y1p,y1q,y1r,retO,retL,retV,z69,allV,allP,z6a,z6d,z6e,z6k,z6l,z6m,binV,eqV,unV,oOpt,reduceIte,reduceCtorEq,Nat.reduceEqDiff,Nat.reduceAdd,Nat.reduceMul,Nat.reduceLT,Nat.reduceSub,Int.reduceLT,Int.reduceLE,Int.reduceEq,Int.reduceNe,Int.reduceSub,Int.reduceAdd,Int.reduceMul,Int.reduceBEq,Int.reduceBNe,Int.reduceGT,Int.reduceGE,Nat.reduceGT,Int.reduceToNat,Int.reduceNeg,Nat.reduceLeDiff,Nat.reduceBEq,Nat.reduceBneDiff,Value.cells, g0, g1]
  · simp -implicitDefEqProofs only [zB1,zB2,zB3,zB4,zB5,zB6,zB7,zB8,zB9,zB10,zB11,y00,y01,y02,y03,y04,y05,y06,y07,y08,y09,y0a,y0b,y0c,y0d,y0e,y0f,y0g,y0h,y0i,y0j,y0k,y0l,y0m,y0n,y0o,y0p,y0q,y0r,y0s,y0t,y0u,y0v,y0w,y0x,y0y,y0z,y10,y11,y12,y13,y14,y15,y16,y17,y18,y19,y1a,y1b,y1c,y1d,y1e,y1f,y1g,y1h,y1i,y1j,y1k,y1l,y1m,y1n,y1o,y1p,y1q,y1r,retO,retL,retV,z69,allV,allP,z6a,z6d,z6e,z6k,z6l,z6m,binV,eqV,unV,oOpt,reduceIte,reduceCtorEq,Nat.reduceEqDiff,Nat.reduceAdd,Nat.reduceMul,Nat.reduceLT,Nat.reduceSub,Int.reduceLT,Int.reduceLE,Int.reduceEq,Int.reduceNe,Int.reduceSub,Int.reduceAdd,Int.reduceMul,Int.reduceBEq,Int.reduceBNe,Int.reduceGT,Int.reduceGE,Nat.reduceGT,Int.reduceToNat,Int.reduceNeg,Nat.reduceLeDiff,Nat.reduceBEq,Nat.reduceBneDiff,Value.cells, g0, false_and]
theorem epoch_Nonce_c (E : EnvT tab) (h : Heap) (dev n : Nat) (hd : dev < 9223372036854775808) (hn : n < 9223372036854775808) :
    ACallN E.toEnv n_epoch_Nonce [.int .i64 dev, .int .i64 n] h fun r h' => h.le h' ∧ r = .agg ((nonceF dev n).map u8V).toArray := by
  refine acall h_epoch_Nonce ir_epoch_Nonce rfl rfl (wpA_sound ?_)
  unfold ir_epoch_Nonce
  have w1 := wrap_u64N dev (by omega)
  have w2 := wrap_u64N n (by omega)
  simp -implicitDefEqProofs only [zB1,zB2,zB3,zB4,zB5,zB6,zB7,zB8,zB9,zB10,zB11,y00,y01,y02,y03,y04,y05,y06,y07,y08,y09,y0a,y0b,y0c,y0d,y0e,y0f,y0g,y0h,y0i,y0j,y0k,y0l,y0m,y0n,y0o,y0p,y0q,y0r,y0s,y0t,y0u,y0v,y0w,y0x,y0y,y0z,y10,y11,y12,y13,y14,y15,y16,y17,y18,y19,y1a,y1b,y1c,y1d,y1e,y1f,y1g,y1h,y1i,y1j,y1k,y1l,y1m,y1n,y1o,y1p,y1q,y1r,retO,retL,retV,z69,allV,allP,z6a,z6d,z6e,z6k,z6l,z6m,binV,eqV,unV,oOpt,reduceIte,reduceCtorEq,Nat.reduceEqDiff,Nat.reduceAdd,Nat.reduceMul,Nat.reduceLT,Nat.reduceSub,Int.reduceLT,Int.reduceLE,Int.reduceEq,Int.reduceNe,Int.reduceSub,Int.reduceAdd,Int.reduceMul,Int.reduceBEq,Int.reduceBNe,Int.reduceGT,Int.reduceGE,Nat.reduceGT,Int.reduceToNat,Int.reduceNeg,Nat.reduceLeDiff,Nat.reduceBEq,Nat.reduceBneDiff,Value.cells]
  intro b4 hb4
  rw [List.length_replicate]
  have le1 : h.le (h.set b4 (.own 0 (List.replicate 12 (.int .u8 0)) 12)) := Heap.le_set (Heap.le_refl _) hb4 _
  have q4 : (h.set b4 (.own 0 (List.replicate 12 (.int .u8 0)) 12)) b4 = some (.own 0 (List.replicate 12 (.int .u8 0)) 12) := Heap.set_self _ _ _
  generalize (h.set b4 (.own 0 (List.replicate 12 (.int .u8 0)) 12)) = h1 at le1 q4
  simp -implicitDefEqProofs only [zB1,zB2,zB3,zB4,zB5,zB6,zB7,zB8,zB9,zB10,zB11,y00,y01,y02,y03,y04,y05,y06,y07,y08,y09,y0a,y0b,y0c,y0d,y0e,y0f,y0g,y0h,y0i,y0j,y0k,y0l,y0m,y0n,y0o,y0p,y0q,y0r,y0s,y0t,y0u,y0v,y0w,y0x,y0y,y0z,y10,y11,y12,y13,y14,y15,y16,y17,y18,y19,y1a,y1b,y1c,y1d,y1e,y1f,y1g,y1h,y1i,y1j,y1k,y1l,y1m,y1n,y1o,y1p,y1q,y1r,retO,retL,retV,z69,allV,allP,z6a,z6d,z6e,z6k,z6l,z6m,binV,eqV,unV,oOpt,reduceIte,reduceCtorEq,Nat.reduceEqDiff,Nat.reduceAdd,Nat.reduceMul,Nat.reduceLT,Nat.reduceSub,Int.reduceLT,Int.reduceLE,Int.reduceEq,Int.reduceNe,Int.reduceSub,Int.reduceAdd,Int.reduceMul,Int.reduceBEq,Int.reduceBNe,Int.reduceGT,Int.reduceGE,Nat.reduceGT,Int.reduceToNat,Int.reduceNeg,Nat.reduceLeDiff,Nat.reduceBEq,Nat.reduceBneDiff,Value.cells, w1]
  refine (octet_Big_c E h1 [] (by simp) (.inl ⟨rfl, rfl, rfl⟩) (BitVec.ofNat 64 dev) 4 (by omega)).mono ?_
  rintro r h2 ⟨le2, ow2⟩
  rw [List.nil_append] at ow2
  simp -implicitDefEqProofs only [zB1,zB2,zB3,zB4,zB5,zB6,zB7,zB8,zB9,zB10,zB11,y00,y01,y02,y03,y04,y05,y06,y07,y08,y09,y0a,y0b,y0c,y0d,y0e,y0f,y0g,y0h,y0i,y0j,y0k,y0l,y0m,y0n,y0o,y0p,y0q,y0r,y0s,y0t,y0u,y0v,y0w,y0x,y0y,y0z,y10,y11,y12,y13,y14,y15,y16,y17,y18,y19,y1a,y1b,y1c,y1d,y1e,y1f,y1g,y1h,y1i,y1j,y1k,y1l,y1m,y1n,y1o,y1p,y1q,y1r,retO,retL,retV,z69,allV,allP,z6a,z6d,z6e,z6k,z6l,z6m,binV,eqV,unV,oOpt,reduceIte,reduceCtorEq,Nat.reduceEqDiff,Nat.reduceAdd,Nat.reduceMul,Nat.reduceLT,Nat.reduceSub,Int.reduceLT,Int.reduceLE,Int.reduceEq,Int.reduceNe,Int.reduceSub,Int.reduceAdd,Int.reduceMul,Int.reduceBEq,Int.reduceBNe,Int.reduceGT,Int.reduceGE,Nat.reduceGT,Int.reduceToNat,Int.reduceNeg,Nat.reduceLeDiff,Nat.reduceBEq,Nat.reduceBneDiff,Value.cells, w2]
  refine (octet_Big_c E h2 (bigF (BitVec.ofNat 64 dev) 4) (by rw [bigF_len]; omega) ow2.sl (BitVec.ofNat 64 n) 8 (by omega)).mono ?_
  rintro r h3 ⟨le3, ow3⟩
  have ex := nonceF_len dev n
  change OwB h2 h3 r (nonceF dev n) at ow3
  generalize nonceF dev n = X at *
  obtain ⟨b, o, c', rfl, hc, hcl⟩ := ow3.sl.ptr (by omega) (by omega)
  rw [ex, Nat.mul_one] at hcl
  have q5 := le3 _ _ (le2 _ _ q4)
  have e1 : ¬ (X.length < 12) := by omega
  have st : storeV h3 12 (.pointer (some ⟨b4, 0, none⟩)) (.agg (X.map u8V).toArray) = some (h3.set b4 (.own 0 (X.map u8V) 12)) := storeV_agg_at q5 (by omega) (by simp [ex]) (one_u8 _) (by simp) (by omega)
  have hl2 : hcells (h3.set b4 (.own 0 (X.map u8V) 12)) ⟨b4, 0, none⟩ 12 = some (X.map u8V) := z6o (by simp [ex])
  simp -implicitDefEqProofs only [zB1,zB2,zB3,zB4,zB5,zB6,zB7,zB8,zB9,zB10,zB11,y00,y01,y02,y03,y04,y05,y06,y07,y08,y09,y0a,y0b,y0c,y0d,y0e,y0f,y0g,y0h,y0i,y0j,y0k,y0l,y0m,y0n,y0o,y0p,y0q,y0r,y0s,y0t,y0u,y0v,y0w,y0x,y0y,y0z,y10,y11,y12,y13,y14,y15,y16,y17,y18,y19,y1a,y1b,y1c,y1d,y1e,y1f,y1g,y1h,y1i,y1j,y1k,y1l,y1m,y1n,y1o,y1p,y1q,y1r,retO,retL,retV,z69,allV,allP,z6a,z6d,z6e,z6k,z6l,z6m,binV,eqV,unV,oOpt,reduceIte,reduceCtorEq,Nat.reduceEqDiff,Nat.reduceAdd,Nat.reduceMul,Nat.reduceLT,Nat.reduceSub,Int.reduceLT,Int.reduceLE,Int.reduceEq,Int.reduceNe,Int.reduceSub,Int.reduceAdd,Int.reduceMul,Int.reduceBEq,Int.reduceBNe,Int.reduceGT,Int.reduceGE,Nat.reduceGT,Int.reduceToNat,Int.reduceNeg,Nat.reduceLeDiff,Nat.reduceBEq,Nat.reduceBneDiff,Value.cells, e1, hcl, st, hl2]
  exact Heap.le_set (Heap.le_trans le1 (Heap.le_trans le2 le3)) hb4 _

def wrapB : List UInt8 := [119, 114, 97, 112]
def wkeyF (wrap : List UInt8) : List UInt8 := expandF wrap (infoF [wrapB]) 32
theorem wkeyF_len (w : List UInt8) : (wkeyF w).length = 32 := expandF_len _ _ _
def wrapF (key wrap : List UInt8) (at' dev : Nat) : List UInt8 := sealF (wkeyF wrap) (nonceF dev at') key wrapB
theorem wrapF_len (key wrap : List UInt8) (at' dev : Nat) : (wrapF key wrap at' dev).length = key.length + 16 := sealF_len _ _ _ _
theorem wrapB_str : Value.string ⟨#[119, 114, 97, 112]⟩ = strV wrapB := rfl
theorem epoch_Wrap_c (E : EnvT tab) (h : Heap) (key wrap : List UInt8) (at' dev : Nat) (hk : key.length = 32) (hw : wrap.length = 32) (ha : at' ≤ 1099511627776) (hd : dev < 8) :
    ACallN E.toEnv n_epoch_Wrap [.agg (key.map u8V).toArray, .agg (wrap.map u8V).toArray, .int .i64 at', .int .i64 dev] h fun r h' => h.le h' ∧ ∃ r', r = .tuple #[r', .int .i64 0] ∧ OwB h h' r' (wrapF key wrap at' dev) := by
  refine acall h_epoch_Wrap ir_epoch_Wrap rfl rfl (wpA_sound ?_)
  unfold ir_epoch_Wrap
  have hk' : (key.map u8V).length = 32 := by simp [hk]
  have hw' : (wrap.map u8V).length = 32 := by simp [hw]
  simp -implicitDefEqProofs only [zB1,zB2,zB3,zB4,zB5,zB6,zB7,zB8,zB9,zB10,zB11,y00,y01,y02,y03,y04,y05,y06,y07,y08,y09,y0a,y0b,y0c,y0d,y0e,y0f,y0g,y0h,y0i,y0j,y0k,y0l,y0m,y0n,y0o,y0p,y0q,y0r,y0s,y0t,y0u,y0v,y0w,y0x,y0y,y0z,y10,y11,y12,y13,y14,y15,y16,y17,y18,y19,y1a,y1b,y1c,y1d,y1e,y1f,y1g,y1h,y1i,y1j,y1k,y1l,y1m,y1n,y1o,y1p,y1q,y1r,retO,retL,retV,z69,allV,allP,z6a,z6d,z6e,z6k,z6l,z6m,binV,eqV,unV,oOpt,reduceIte,reduceCtorEq,Nat.reduceEqDiff,Nat.reduceAdd,Nat.reduceMul,Nat.reduceLT,Nat.reduceSub,Int.reduceLT,Int.reduceLE,Int.reduceEq,Int.reduceNe,Int.reduceSub,Int.reduceAdd,Int.reduceMul,Int.reduceBEq,Int.reduceBNe,Int.reduceGT,Int.reduceGE,Nat.reduceGT,Int.reduceToNat,Int.reduceNeg,Nat.reduceLeDiff,Nat.reduceBEq,Nat.reduceBneDiff,Value.cells]
  intro b4 hb4
  try simp -implicitDefEqProofs only [zB1,zB2,zB3,zB4,zB5,zB6,zB7,zB8,zB9,zB10,zB11,y00,y01,y02,y03,y04,y05,y06,y07,y08,y09,y0a,y0b,y0c,y0d,y0e,y0f,y0g,y0h,y0i,y0j,y0k,y0l,y0m,y0n,y0o,y0p,y0q,y0r,y0s,y0t,y0u,y0v,y0w,y0x,y0y,y0z,y10,y11,y12,y13,y14,y15,y16,y17,y18,y19,y1a,y1b,y1c,y1d,y1e,y1f,y1g,y1h,y1i,y1j,y1k,y1l,y1m,y1n,y1o,y1p,y1q,y1r,retO,retL,retV,z69,allV,allP,z6a,z6d,z6e,z6k,z6l,z6m,binV,eqV,unV,oOpt,reduceIte,reduceCtorEq,Nat.reduceEqDiff,Nat.reduceAdd,Nat.reduceMul,Nat.reduceLT,Nat.reduceSub,Int.reduceLT,Int.reduceLE,Int.reduceEq,Int.reduceNe,Int.reduceSub,Int.reduceAdd,Int.reduceMul,Int.reduceBEq,Int.reduceBNe,Int.reduceGT,Int.reduceGE,Nat.reduceGT,Int.reduceToNat,Int.reduceNeg,Nat.reduceLeDiff,Nat.reduceBEq,Nat.reduceBneDiff,Value.cells]
  intro b5 hb5
  try simp -implicitDefEqProofs only [zB1,zB2,zB3,zB4,zB5,zB6,zB7,zB8,zB9,zB10,zB11,y00,y01,y02,y03,y04,y05,y06,y07,y08,y09,y0a,y0b,y0c,y0d,y0e,y0f,y0g,y0h,y0i,y0j,y0k,y0l,y0m,y0n,y0o,y0p,y0q,y0r,y0s,y0t,y0u,y0v,y0w,y0x,y0y,y0z,y10,y11,y12,y13,y14,y15,y16,y17,y18,y19,y1a,y1b,y1c,y1d,y1e,y1f,y1g,y1h,y1i,y1j,y1k,y1l,y1m,y1n,y1o,y1p,y1q,y1r,retO,retL,retV,z69,allV,allP,z6a,z6d,z6e,z6k,z6l,z6m,binV,eqV,unV,oOpt,reduceIte,reduceCtorEq,Nat.reduceEqDiff,Nat.reduceAdd,Nat.reduceMul,Nat.reduceLT,Nat.reduceSub,Int.reduceLT,Int.reduceLE,Int.reduceEq,Int.reduceNe,Int.reduceSub,Int.reduceAdd,Int.reduceMul,Int.reduceBEq,Int.reduceBNe,Int.reduceGT,Int.reduceGE,Nat.reduceGT,Int.reduceToNat,Int.reduceNeg,Nat.reduceLeDiff,Nat.reduceBEq,Nat.reduceBneDiff,Value.cells]
  rw [hw']
  rw [hk'] at hb5 ⊢
  have le4 : h.le (h.set b4 (.own 0 (key.map u8V) 32)) := Heap.le_set (Heap.le_refl _) hb4 _
  have q4 : (h.set b4 (.own 0 (key.map u8V) 32)) b4 = some (.own 0 (key.map u8V) 32) := Heap.set_self _ _ _
  generalize (h.set b4 (.own 0 (key.map u8V) 32)) = h1 at le4 q4 hb5 ⊢
  have le5 : h1.le (h1.set b5 (.own 0 (wrap.map u8V) 32)) := Heap.le_set (Heap.le_refl _) hb5 _
  have q5 : (h1.set b5 (.own 0 (wrap.map u8V) 32)) b5 = some (.own 0 (wrap.map u8V) 32) := Heap.set_self _ _ _
  have q4 := le5 _ _ q4
  have le05 := Heap.le_trans le4 le5
  generalize (h1.set b5 (.own 0 (wrap.map u8V) 32)) = h2 at le05 q5 q4 ⊢
  refine (epoch_good_c E h2 at').mono ?_
  rintro r h3 ⟨e3, rfl⟩
  obtain rfl := e3.symm
  have g1 : (0 : Int) ≤ at' ∧ (at' : Int) ≤ 1099511627776 := by omega
  simp -implicitDefEqProofs only [zB1,zB2,zB3,zB4,zB5,zB6,zB7,zB8,zB9,zB10,zB11,y00,y01,y02,y03,y04,y05,y06,y07,y08,y09,y0a,y0b,y0c,y0d,y0e,y0f,y0g,y0h,y0i,y0j,y0k,y0l,y0m,y0n,y0o,y0p,y0q,y0r,y0s,y0t,y0u,y0v,y0w,y0x,y0y,y0z,y10,y11,y12,y13,y14,y15,y16,y17,y18,y19,y1a,y1b,y1c,y1d,y1e,y1f,y1g,y1h,y1i,y1j,y1k,y1l,y1m,y1n,y1o,y1p,y1q,y1r,retO,retL,retV,z69,allV,allP,z6a,z6d,z6e,z6k,z6l,z6m,binV,eqV,unV,oOpt,reduceIte,reduceCtorEq,Nat.reduceEqDiff,Nat.reduceAdd,Nat.reduceMul,Nat.reduceLT,Nat.reduceSub,Int.reduceLT,Int.reduceLE,Int.reduceEq,Int.reduceNe,Int.reduceSub,Int.reduceAdd,Int.reduceMul,Int.reduceBEq,Int.reduceBNe,Int.reduceGT,Int.reduceGE,Nat.reduceGT,Int.reduceToNat,Int.reduceNeg,Nat.reduceLeDiff,Nat.reduceBEq,Nat.reduceBneDiff,Value.cells, g1]
  refine (vec_Dev_c E h2 dev).mono ?_
  rintro r h3 ⟨e3, rfl⟩
  obtain rfl := e3.symm
  have g2 : (0 : Int) ≤ dev ∧ (dev : Int) < 8 := by omega
  simp -implicitDefEqProofs only [zB1,zB2,zB3,zB4,zB5,zB6,zB7,zB8,zB9,zB10,zB11,y00,y01,y02,y03,y04,y05,y06,y07,y08,y09,y0a,y0b,y0c,y0d,y0e,y0f,y0g,y0h,y0i,y0j,y0k,y0l,y0m,y0n,y0o,y0p,y0q,y0r,y0s,y0t,y0u,y0v,y0w,y0x,y0y,y0z,y10,y11,y12,y13,y14,y15,y16,y17,y18,y19,y1a,y1b,y1c,y1d,y1e,y1f,y1g,y1h,y1i,y1j,y1k,y1l,y1m,y1n,y1o,y1p,y1q,y1r,retO,retL,retV,z69,allV,allP,z6a,z6d,z6e,z6k,z6l,z6m,binV,eqV,unV,oOpt,reduceIte,reduceCtorEq,Nat.reduceEqDiff,Nat.reduceAdd,Nat.reduceMul,Nat.reduceLT,Nat.reduceSub,Int.reduceLT,Int.reduceLE,Int.reduceEq,Int.reduceNe,Int.reduceSub,Int.reduceAdd,Int.reduceMul,Int.reduceBEq,Int.reduceBNe,Int.reduceGT,Int.reduceGE,Nat.reduceGT,Int.reduceToNat,Int.reduceNeg,Nat.reduceLeDiff,Nat.reduceBEq,Nat.reduceBneDiff,Value.cells, g2]
  unfold ir_epoch_Wrap_18
  have cw : ∀ h', h2.le h' → hcells h' ⟨b5, 0, none⟩ 32 = some (wrap.map u8V) := fun h' x => by
    rw [hcells_at (x _ _ q5) (by simp [hw])]; simp [List.take_of_length_le, hw]
  have cw2 := cw h2 (Heap.le_refl _)
  simp -implicitDefEqProofs only [zB1,zB2,zB3,zB4,zB5,zB6,zB7,zB8,zB9,zB10,zB11,y00,y01,y02,y03,y04,y05,y06,y07,y08,y09,y0a,y0b,y0c,y0d,y0e,y0f,y0g,y0h,y0i,y0j,y0k,y0l,y0m,y0n,y0o,y0p,y0q,y0r,y0s,y0t,y0u,y0v,y0w,y0x,y0y,y0z,y10,y11,y12,y13,y14,y15,y16,y17,y18,y19,y1a,y1b,y1c,y1d,y1e,y1f,y1g,y1h,y1i,y1j,y1k,y1l,y1m,y1n,y1o,y1p,y1q,y1r,retO,retL,retV,z69,allV,allP,z6a,z6d,z6e,z6k,z6l,z6m,binV,eqV,unV,oOpt,reduceIte,reduceCtorEq,Nat.reduceEqDiff,Nat.reduceAdd,Nat.reduceMul,Nat.reduceLT,Nat.reduceSub,Int.reduceLT,Int.reduceLE,Int.reduceEq,Int.reduceNe,Int.reduceSub,Int.reduceAdd,Int.reduceMul,Int.reduceBEq,Int.reduceBNe,Int.reduceGT,Int.reduceGE,Nat.reduceGT,Int.reduceToNat,Int.reduceNeg,Nat.reduceLeDiff,Nat.reduceBEq,Nat.reduceBneDiff,Value.cells, cw2, wrapB_str, List.length_replicate, List.drop_replicate, List.replicate_zero]
  intro b6 hb6
  try simp -implicitDefEqProofs only [zB1,zB2,zB3,zB4,zB5,zB6,zB7,zB8,zB9,zB10,zB11,y00,y01,y02,y03,y04,y05,y06,y07,y08,y09,y0a,y0b,y0c,y0d,y0e,y0f,y0g,y0h,y0i,y0j,y0k,y0l,y0m,y0n,y0o,y0p,y0q,y0r,y0s,y0t,y0u,y0v,y0w,y0x,y0y,y0z,y10,y11,y12,y13,y14,y15,y16,y17,y18,y19,y1a,y1b,y1c,y1d,y1e,y1f,y1g,y1h,y1i,y1j,y1k,y1l,y1m,y1n,y1o,y1p,y1q,y1r,retO,retL,retV,z69,allV,allP,z6a,z6d,z6e,z6k,z6l,z6m,binV,eqV,unV,oOpt,reduceIte,reduceCtorEq,Nat.reduceEqDiff,Nat.reduceAdd,Nat.reduceMul,Nat.reduceLT,Nat.reduceSub,Int.reduceLT,Int.reduceLE,Int.reduceEq,Int.reduceNe,Int.reduceSub,Int.reduceAdd,Int.reduceMul,Int.reduceBEq,Int.reduceBNe,Int.reduceGT,Int.reduceGE,Nat.reduceGT,Int.reduceToNat,Int.reduceNeg,Nat.reduceLeDiff,Nat.reduceBEq,Nat.reduceBneDiff,Value.cells]
  have le6 := Heap.le_set (Heap.le_refl h2) hb6 (.own 0 [strV wrapB] 1)
  refine (kdf_Key_c E _ wrap [wrapB] hw (by simp) (by simp [wrapB]) (Sl.lit (n := 1) rfl)).mono ?_
  rintro r h7 ⟨le7, rfl⟩
  have le27 := Heap.le_trans le6 le7
  simp -implicitDefEqProofs only [zB1,zB2,zB3,zB4,zB5,zB6,zB7,zB8,zB9,zB10,zB11,y00,y01,y02,y03,y04,y05,y06,y07,y08,y09,y0a,y0b,y0c,y0d,y0e,y0f,y0g,y0h,y0i,y0j,y0k,y0l,y0m,y0n,y0o,y0p,y0q,y0r,y0s,y0t,y0u,y0v,y0w,y0x,y0y,y0z,y10,y11,y12,y13,y14,y15,y16,y17,y18,y19,y1a,y1b,y1c,y1d,y1e,y1f,y1g,y1h,y1i,y1j,y1k,y1l,y1m,y1n,y1o,y1p,y1q,y1r,retO,retL,retV,z69,allV,allP,z6a,z6d,z6e,z6k,z6l,z6m,binV,eqV,unV,oOpt,reduceIte,reduceCtorEq,Nat.reduceEqDiff,Nat.reduceAdd,Nat.reduceMul,Nat.reduceLT,Nat.reduceSub,Int.reduceLT,Int.reduceLE,Int.reduceEq,Int.reduceNe,Int.reduceSub,Int.reduceAdd,Int.reduceMul,Int.reduceBEq,Int.reduceBNe,Int.reduceGT,Int.reduceGE,Nat.reduceGT,Int.reduceToNat,Int.reduceNeg,Nat.reduceLeDiff,Nat.reduceBEq,Nat.reduceBneDiff,Value.cells, implies_true, List.mem_cons, List.not_mem_nil, List.mem_singleton, or_false, forall_eq, forall_eq_or_imp, and_self]
  refine (epoch_Nonce_c E h7 dev at' (by omega) (by omega)).mono ?_
  rintro r h8 ⟨le8, rfl⟩
  simp -implicitDefEqProofs only [zB1,zB2,zB3,zB4,zB5,zB6,zB7,zB8,zB9,zB10,zB11,y00,y01,y02,y03,y04,y05,y06,y07,y08,y09,y0a,y0b,y0c,y0d,y0e,y0f,y0g,y0h,y0i,y0j,y0k,y0l,y0m,y0n,y0o,y0p,y0q,y0r,y0s,y0t,y0u,y0v,y0w,y0x,y0y,y0z,y10,y11,y12,y13,y14,y15,y16,y17,y18,y19,y1a,y1b,y1c,y1d,y1e,y1f,y1g,y1h,y1i,y1j,y1k,y1l,y1m,y1n,y1o,y1p,y1q,y1r,retO,retL,retV,z69,allV,allP,z6a,z6d,z6e,z6k,z6l,z6m,binV,eqV,unV,oOpt,reduceIte,reduceCtorEq,Nat.reduceEqDiff,Nat.reduceAdd,Nat.reduceMul,Nat.reduceLT,Nat.reduceSub,Int.reduceLT,Int.reduceLE,Int.reduceEq,Int.reduceNe,Int.reduceSub,Int.reduceAdd,Int.reduceMul,Int.reduceBEq,Int.reduceBNe,Int.reduceGT,Int.reduceGE,Nat.reduceGT,Int.reduceToNat,Int.reduceNeg,Nat.reduceLeDiff,Nat.reduceBEq,Nat.reduceBneDiff,Value.cells, implies_true, List.mem_cons, List.not_mem_nil, List.mem_singleton, or_false, forall_eq, forall_eq_or_imp, and_self, bnds_no, Nat.sub_zero, addz, List.length_replicate, List.drop_replicate, List.replicate_zero]
  intro b9 hb9
  have m9 : markV (h8.set b9 (.own 0 [.int .u8 119, .int .u8 114, .int .u8 97, .int .u8 112] 4)) (.slice (some ⟨b9, 0, none⟩) 4 4) = some (.slice (some ⟨b9, 0, none⟩) 4 4) := by simp [markV, Heap.set_self]
  have s9 : SlB (h8.set b9 (.own 0 [.int .u8 119, .int .u8 114, .int .u8 97, .int .u8 112] 4)) (.slice (some ⟨b9, 0, none⟩) 4 4) wrapB := Sl.lit (n := 4) rfl
  have le9 := Heap.le_set (Heap.le_refl h8) hb9 (.own 0 [.int .u8 119, .int .u8 114, .int .u8 97, .int .u8 112] 4)
  try simp -implicitDefEqProofs only [zB1,zB2,zB3,zB4,zB5,zB6,zB7,zB8,zB9,zB10,zB11,y00,y01,y02,y03,y04,y05,y06,y07,y08,y09,y0a,y0b,y0c,y0d,y0e,y0f,y0g,y0h,y0i,y0j,y0k,y0l,y0m,y0n,y0o,y0p,y0q,y0r,y0s,y0t,y0u,y0v,y0w,y0x,y0y,y0z,y10,y11,y12,y13,y14,y15,y16,y17,y18,y19,y1a,y1b,y1c,y1d,y1e,y1f,y1g,y1h,y1i,y1j,y1k,y1l,y1m,y1n,y1o,y1p,y1q,y1r,retO,retL,retV,z69,allV,allP,z6a,z6d,z6e,z6k,z6l,z6m,binV,eqV,unV,oOpt,reduceIte,reduceCtorEq,Nat.reduceEqDiff,Nat.reduceAdd,Nat.reduceMul,Nat.reduceLT,Nat.reduceSub,Int.reduceLT,Int.reduceLE,Int.reduceEq,Int.reduceNe,Int.reduceSub,Int.reduceAdd,Int.reduceMul,Int.reduceBEq,Int.reduceBNe,Int.reduceGT,Int.reduceGE,Nat.reduceGT,Int.reduceToNat,Int.reduceNeg,Nat.reduceLeDiff,Nat.reduceBEq,Nat.reduceBneDiff,Value.cells, m9]
  generalize (h8.set b9 (.own 0 [.int .u8 119, .int .u8 114, .int .u8 97, .int .u8 112] 4)) = h9 at s9 le9 ⊢
  have le29 := Heap.le_trans (Heap.le_trans le27 le8) le9
  have sk : SlB h9 (.slice (some ⟨b4, 0, none⟩) 32 32) key := by
    have := own_sl (le29 _ _ q4)
    rw [hk] at this
    exact this
  refine (aead_Seal_c E h9 (wkeyF wrap) (nonceF dev at') key wrapB (wkeyF_len _) (nonceF_len _ _) (by omega) (by simp [wrapB]) sk s9).mono ?_
  rintro r h10 ⟨le10, r', rfl, ow10⟩
  simp -implicitDefEqProofs only [zB1,zB2,zB3,zB4,zB5,zB6,zB7,zB8,zB9,zB10,zB11,y00,y01,y02,y03,y04,y05,y06,y07,y08,y09,y0a,y0b,y0c,y0d,y0e,y0f,y0g,y0h,y0i,y0j,y0k,y0l,y0m,y0n,y0o,y0p,y0q,y0r,y0s,y0t,y0u,y0v,y0w,y0x,y0y,y0z,y10,y11,y12,y13,y14,y15,y16,y17,y18,y19,y1a,y1b,y1c,y1d,y1e,y1f,y1g,y1h,y1i,y1j,y1k,y1l,y1m,y1n,y1o,y1p,y1q,y1r,retO,retL,retV,z69,allV,allP,z6a,z6d,z6e,z6k,z6l,z6m,binV,eqV,unV,oOpt,reduceIte,reduceCtorEq,Nat.reduceEqDiff,Nat.reduceAdd,Nat.reduceMul,Nat.reduceLT,Nat.reduceSub,Int.reduceLT,Int.reduceLE,Int.reduceEq,Int.reduceNe,Int.reduceSub,Int.reduceAdd,Int.reduceMul,Int.reduceBEq,Int.reduceBNe,Int.reduceGT,Int.reduceGE,Nat.reduceGT,Int.reduceToNat,Int.reduceNeg,Nat.reduceLeDiff,Nat.reduceBEq,Nat.reduceBneDiff,Value.cells]
  exact ⟨Heap.le_trans le05 (Heap.le_trans le29 le10), r', rfl, ow10.since (Heap.le_trans le05 le29)⟩

/-- What is unwrapped. -/
def unwrapF (b wrap : List UInt8) (at' dev : Nat) : Nat × List UInt8 :=
  if (openF (wkeyF wrap) (nonceF dev at') b wrapB).1 = 0 ∧ (openF (wkeyF wrap) (nonceF dev at') b wrapB).2.length = 32 then (0, (openF (wkeyF wrap) (nonceF dev at') b wrapB).2) else (8, List.replicate 32 0)
theorem unwrap_wrap (key wrap : List UInt8) (at' dev : Nat) (hk : key.length = 32) : unwrapF (wrapF key wrap at' dev) wrap at' dev = (0, key) := by
  unfold unwrapF wrapF
  rw [open_seal _ _ _ _ (by omega)]
  simp [hk]

theorem epoch_Unwrap_c (E : EnvT tab) (h : Heap) {v : Value} (b wrap : List UInt8) (at' dev : Nat) (hb : b.length ≤ 100000000) (sb : SlB h v b) (hw : wrap.length = 32) (ha : at' ≤ 1099511627776) (hd : dev < 8) :
    ACallN E.toEnv n_epoch_Unwrap [v, .agg (wrap.map u8V).toArray, .int .i64 at', .int .i64 dev] h fun r h' => h.le h' ∧ r = .tuple #[.agg ((unwrapF b wrap at' dev).2.map u8V).toArray, .int .i64 ((unwrapF b wrap at' dev).1 : Nat)] := by
  obtain ⟨base, c, rfl⟩ := Sl.shape sb
  refine acall h_epoch_Unwrap ir_epoch_Unwrap rfl rfl (wpA_sound ?_)
  unfold ir_epoch_Unwrap
  have hw' : (wrap.map u8V).length = 32 := by simp [hw]
  simp -implicitDefEqProofs only [zB1,zB2,zB3,zB4,zB5,zB6,zB7,zB8,zB9,zB10,zB11,y00,y01,y02,y03,y04,y05,y06,y07,y08,y09,y0a,y0b,y0c,y0d,y0e,y0f,y0g,y0h,y0i,y0j,y0k,y0l,y0m,y0n,y0o,y0p,y0q,y0r,y0s,y0t,y0u,y0v,y0w,y0x,y0y,y0z,y10,y11,y12,y13,y14,y15,y16,y17,y18,y19,y1a,y1b,y1c,y1d,y1e,y1f,y1g,y1h,y1i,y1j,y1k,y1l,y1m,y1n,y1o,y1p,y1q,y1r,retO,retL,retV,z69,allV,allP,z6a,z6d,z6e,z6k,z6l,z6m,binV,eqV,unV,oOpt,reduceIte,reduceCtorEq,Nat.reduceEqDiff,Nat.reduceAdd,Nat.reduceMul,Nat.reduceLT,Nat.reduceSub,Int.reduceLT,Int.reduceLE,Int.reduceEq,Int.reduceNe,Int.reduceSub,Int.reduceAdd,Int.reduceMul,Int.reduceBEq,Int.reduceBNe,Int.reduceGT,Int.reduceGE,Nat.reduceGT,Int.reduceToNat,Int.reduceNeg,Nat.reduceLeDiff,Nat.reduceBEq,Nat.reduceBneDiff,Value.cells]
  intro b5 hb5
  try simp -implicitDefEqProofs only [zB1,zB2,zB3,zB4,zB5,zB6,zB7,zB8,zB9,zB10,zB11,y00,y01,y02,y03,y04,y05,y06,y07,y08,y09,y0a,y0b,y0c,y0d,y0e,y0f,y0g,y0h,y0i,y0j,y0k,y0l,y0m,y0n,y0o,y0p,y0q,y0r,y0s,y0t,y0u,y0v,y0w,y0x,y0y,y0z,y10,y11,y12,y13,y14,y15,y16,y17,y18,y19,y1a,y1b,y1c,y1d,y1e,y1f,y1g,y1h,y1i,y1j,y1k,y1l,y1m,y1n,y1o,y1p,y1q,y1r,retO,retL,retV,z69,allV,allP,z6a,z6d,z6e,z6k,z6l,z6m,binV,eqV,unV,oOpt,reduceIte,reduceCtorEq,Nat.reduceEqDiff,Nat.reduceAdd,Nat.reduceMul,Nat.reduceLT,Nat.reduceSub,Int.reduceLT,Int.reduceLE,Int.reduceEq,Int.reduceNe,Int.reduceSub,Int.reduceAdd,Int.reduceMul,Int.reduceBEq,Int.reduceBNe,Int.reduceGT,Int.reduceGE,Nat.reduceGT,Int.reduceToNat,Int.reduceNeg,Nat.reduceLeDiff,Nat.reduceBEq,Nat.reduceBneDiff,Value.cells]
  rw [hw']
  have le5 : h.le (h.set b5 (.own 0 (wrap.map u8V) 32)) := Heap.le_set (Heap.le_refl _) hb5 _
  have q5 : (h.set b5 (.own 0 (wrap.map u8V) 32)) b5 = some (.own 0 (wrap.map u8V) 32) := Heap.set_self _ _ _
  generalize (h.set b5 (.own 0 (wrap.map u8V) 32)) = h1 at le5 q5 ⊢
  intro b8 hb8
  try simp -implicitDefEqProofs only [zB1,zB2,zB3,zB4,zB5,zB6,zB7,zB8,zB9,zB10,zB11,y00,y01,y02,y03,y04,y05,y06,y07,y08,y09,y0a,y0b,y0c,y0d,y0e,y0f,y0g,y0h,y0i,y0j,y0k,y0l,y0m,y0n,y0o,y0p,y0q,y0r,y0s,y0t,y0u,y0v,y0w,y0x,y0y,y0z,y10,y11,y12,y13,y14,y15,y16,y17,y18,y19,y1a,y1b,y1c,y1d,y1e,y1f,y1g,y1h,y1i,y1j,y1k,y1l,y1m,y1n,y1o,y1p,y1q,y1r,retO,retL,retV,z69,allV,allP,z6a,z6d,z6e,z6k,z6l,z6m,binV,eqV,unV,oOpt,reduceIte,reduceCtorEq,Nat.reduceEqDiff,Nat.reduceAdd,Nat.reduceMul,Nat.reduceLT,Nat.reduceSub,Int.reduceLT,Int.reduceLE,Int.reduceEq,Int.reduceNe,Int.reduceSub,Int.reduceAdd,Int.reduceMul,Int.reduceBEq,Int.reduceBNe,Int.reduceGT,Int.reduceGE,Nat.reduceGT,Int.reduceToNat,Int.reduceNeg,Nat.reduceLeDiff,Nat.reduceBEq,Nat.reduceBneDiff,Value.cells, List.length_replicate]
  have le8 : h1.le (h1.set b8 (.own 0 (List.replicate 32 (.int .u8 0)) 32)) := Heap.le_set (Heap.le_refl _) hb8 _
  have q8 : (h1.set b8 (.own 0 (List.replicate 32 (.int .u8 0)) 32)) b8 = some (.own 0 (List.replicate 32 (.int .u8 0)) 32) := Heap.set_self _ _ _
  have q5 := le8 _ _ q5
  have hb8h := Heap.none_of_le le5 hb8
  have le05 := Heap.le_trans le5 le8
  generalize (h1.set b8 (.own 0 (List.replicate 32 (.int .u8 0)) 32)) = h2 at le05 q5 q8 ⊢
  refine (epoch_good_c E h2 at').mono ?_
  rintro r h3 ⟨e3, rfl⟩
  obtain rfl := e3.symm
  have g1 : (0 : Int) ≤ at' ∧ (at' : Int) ≤ 1099511627776 := by omega
  simp -implicitDefEqProofs only [zB1,zB2,zB3,zB4,zB5,zB6,zB7,zB8,zB9,zB10,zB11,y00,y01,y02,y03,y04,y05,y06,y07,y08,y09,y0a,y0b,y0c,y0d,y0e,y0f,y0g,y0h,y0i,y0j,y0k,y0l,y0m,y0n,y0o,y0p,y0q,y0r,y0s,y0t,y0u,y0v,y0w,y0x,y0y,y0z,y10,y11,y12,y13,y14,y15,y16,y17,y18,y19,y1a,y1b,y1c,y1d,y1e,y1f,y1g,y1h,y1i,y1j,y1k,y1l,y1m,y1n,y1o,y1p,y1q,y1r,retO,retL,retV,z69,allV,allP,z6a,z6d,z6e,z6k,z6l,z6m,binV,eqV,unV,oOpt,reduceIte,reduceCtorEq,Nat.reduceEqDiff,Nat.reduceAdd,Nat.reduceMul,Nat.reduceLT,Nat.reduceSub,Int.reduceLT,Int.reduceLE,Int.reduceEq,Int.reduceNe,Int.reduceSub,Int.reduceAdd,Int.reduceMul,Int.reduceBEq,Int.reduceBNe,Int.reduceGT,Int.reduceGE,Nat.reduceGT,Int.reduceToNat,Int.reduceNeg,Nat.reduceLeDiff,Nat.reduceBEq,Nat.reduceBneDiff,Value.cells, g1]
  refine (vec_Dev_c E h2 dev).mono ?_
  rintro r h3 ⟨e3, rfl⟩
  obtain rfl := e3.symm
  have g2 : (0 : Int) ≤ dev ∧ (dev : Int) < 8 := by omega
  simp -implicitDefEqProofs only [zB1,zB2,zB3,zB4,zB5,zB6,zB7,zB8,zB9,zB10,zB11,y00,y01,y02,y03,y04,y05,y06,y07,y08,y09,y0a,y0b,y0c,y0d,y0e,y0f,y0g,y0h,y0i,y0j,y0k,y0l,y0m,y0n,y0o,y0p,y0q,y0r,y0s,y0t,y0u,y0v,y0w,y0x,y0y,y0z,y10,y11,y12,y13,y14,y15,y16,y17,y18,y19,y1a,y1b,y1c,y1d,y1e,y1f,y1g,y1h,y1i,y1j,y1k,y1l,y1m,y1n,y1o,y1p,y1q,y1r,retO,retL,retV,z69,allV,allP,z6a,z6d,z6e,z6k,z6l,z6m,binV,eqV,unV,oOpt,reduceIte,reduceCtorEq,Nat.reduceEqDiff,Nat.reduceAdd,Nat.reduceMul,Nat.reduceLT,Nat.reduceSub,Int.reduceLT,Int.reduceLE,Int.reduceEq,Int.reduceNe,Int.reduceSub,Int.reduceAdd,Int.reduceMul,Int.reduceBEq,Int.reduceBNe,Int.reduceGT,Int.reduceGE,Nat.reduceGT,Int.reduceToNat,Int.reduceNeg,Nat.reduceLeDiff,Nat.reduceBEq,Nat.reduceBneDiff,Value.cells, g2]
  unfold ir_epoch_Unwrap_22
  have cw2 : hcells h2 ⟨b5, 0, none⟩ 32 = some (wrap.map u8V) := by
    rw [hcells_at q5 (by simp [hw])]; simp [List.take_of_length_le, hw]
  simp -implicitDefEqProofs only [zB1,zB2,zB3,zB4,zB5,zB6,zB7,zB8,zB9,zB10,zB11,y00,y01,y02,y03,y04,y05,y06,y07,y08,y09,y0a,y0b,y0c,y0d,y0e,y0f,y0g,y0h,y0i,y0j,y0k,y0l,y0m,y0n,y0o,y0p,y0q,y0r,y0s,y0t,y0u,y0v,y0w,y0x,y0y,y0z,y10,y11,y12,y13,y14,y15,y16,y17,y18,y19,y1a,y1b,y1c,y1d,y1e,y1f,y1g,y1h,y1i,y1j,y1k,y1l,y1m,y1n,y1o,y1p,y1q,y1r,retO,retL,retV,z69,allV,allP,z6a,z6d,z6e,z6k,z6l,z6m,binV,eqV,unV,oOpt,reduceIte,reduceCtorEq,Nat.reduceEqDiff,Nat.reduceAdd,Nat.reduceMul,Nat.reduceLT,Nat.reduceSub,Int.reduceLT,Int.reduceLE,Int.reduceEq,Int.reduceNe,Int.reduceSub,Int.reduceAdd,Int.reduceMul,Int.reduceBEq,Int.reduceBNe,Int.reduceGT,Int.reduceGE,Nat.reduceGT,Int.reduceToNat,Int.reduceNeg,Nat.reduceLeDiff,Nat.reduceBEq,Nat.reduceBneDiff,Value.cells, cw2, wrapB_str, List.length_replicate, List.drop_replicate, List.replicate_zero]
  intro b6 hb6
  try simp -implicitDefEqProofs only [zB1,zB2,zB3,zB4,zB5,zB6,zB7,zB8,zB9,zB10,zB11,y00,y01,y02,y03,y04,y05,y06,y07,y08,y09,y0a,y0b,y0c,y0d,y0e,y0f,y0g,y0h,y0i,y0j,y0k,y0l,y0m,y0n,y0o,y0p,y0q,y0r,y0s,y0t,y0u,y0v,y0w,y0x,y0y,y0z,y10,y11,y12,y13,y14,y15,y16,y17,y18,y19,y1a,y1b,y1c,y1d,y1e,y1f,y1g,y1h,y1i,y1j,y1k,y1l,y1m,y1n,y1o,y1p,y1q,y1r,retO,retL,retV,z69,allV,allP,z6a,z6d,z6e,z6k,z6l,z6m,binV,eqV,unV,oOpt,reduceIte,reduceCtorEq,Nat.reduceEqDiff,Nat.reduceAdd,Nat.reduceMul,Nat.reduceLT,Nat.reduceSub,Int.reduceLT,Int.reduceLE,Int.reduceEq,Int.reduceNe,Int.reduceSub,Int.reduceAdd,Int.reduceMul,Int.reduceBEq,Int.reduceBNe,Int.reduceGT,Int.reduceGE,Nat.reduceGT,Int.reduceToNat,Int.reduceNeg,Nat.reduceLeDiff,Nat.reduceBEq,Nat.reduceBneDiff,Value.cells]
  have le6 := Heap.le_set (Heap.le_refl h2) hb6 (.own 0 [strV wrapB] 1)
  refine (kdf_Key_c E _ wrap [wrapB] hw (by simp) (by simp [wrapB]) (Sl.lit (n := 1) rfl)).mono ?_
  rintro r h7 ⟨le7, rfl⟩
  have le27 := Heap.le_trans le6 le7
  simp -implicitDefEqProofs only [zB1,zB2,zB3,zB4,zB5,zB6,zB7,zB8,zB9,zB10,zB11,y00,y01,y02,y03,y04,y05,y06,y07,y08,y09,y0a,y0b,y0c,y0d,y0e,y0f,y0g,y0h,y0i,y0j,y0k,y0l,y0m,y0n,y0o,y0p,y0q,y0r,y0s,y0t,y0u,y0v,y0w,y0x,y0y,y0z,y10,y11,y12,y13,y14,y15,y16,y17,y18,y19,y1a,y1b,y1c,y1d,y1e,y1f,y1g,y1h,y1i,y1j,y1k,y1l,y1m,y1n,y1o,y1p,y1q,y1r,retO,retL,retV,z69,allV,allP,z6a,z6d,z6e,z6k,z6l,z6m,binV,eqV,unV,oOpt,reduceIte,reduceCtorEq,Nat.reduceEqDiff,Nat.reduceAdd,Nat.reduceMul,Nat.reduceLT,Nat.reduceSub,Int.reduceLT,Int.reduceLE,Int.reduceEq,Int.reduceNe,Int.reduceSub,Int.reduceAdd,Int.reduceMul,Int.reduceBEq,Int.reduceBNe,Int.reduceGT,Int.reduceGE,Nat.reduceGT,Int.reduceToNat,Int.reduceNeg,Nat.reduceLeDiff,Nat.reduceBEq,Nat.reduceBneDiff,Value.cells]
  refine (epoch_Nonce_c E h7 dev at' (by omega) (by omega)).mono ?_
  rintro r h8 ⟨le8, rfl⟩
  simp -implicitDefEqProofs only [zB1,zB2,zB3,zB4,zB5,zB6,zB7,zB8,zB9,zB10,zB11,y00,y01,y02,y03,y04,y05,y06,y07,y08,y09,y0a,y0b,y0c,y0d,y0e,y0f,y0g,y0h,y0i,y0j,y0k,y0l,y0m,y0n,y0o,y0p,y0q,y0r,y0s,y0t,y0u,y0v,y0w,y0x,y0y,y0z,y10,y11,y12,y13,y14,y15,y16,y17,y18,y19,y1a,y1b,y1c,y1d,y1e,y1f,y1g,y1h,y1i,y1j,y1k,y1l,y1m,y1n,y1o,y1p,y1q,y1r,retO,retL,retV,z69,allV,allP,z6a,z6d,z6e,z6k,z6l,z6m,binV,eqV,unV,oOpt,reduceIte,reduceCtorEq,Nat.reduceEqDiff,Nat.reduceAdd,Nat.reduceMul,Nat.reduceLT,Nat.reduceSub,Int.reduceLT,Int.reduceLE,Int.reduceEq,Int.reduceNe,Int.reduceSub,Int.reduceAdd,Int.reduceMul,Int.reduceBEq,Int.reduceBNe,Int.reduceGT,Int.reduceGE,Nat.reduceGT,Int.reduceToNat,Int.reduceNeg,Nat.reduceLeDiff,Nat.reduceBEq,Nat.reduceBneDiff,Value.cells, List.length_replicate, List.drop_replicate, List.replicate_zero]
  intro b9 hb9
  have m9 : markV (h8.set b9 (.own 0 [.int .u8 119, .int .u8 114, .int .u8 97, .int .u8 112] 4)) (.slice (some ⟨b9, 0, none⟩) 4 4) = some (.slice (some ⟨b9, 0, none⟩) 4 4) := by simp [markV, Heap.set_self]
  have s9 : SlB (h8.set b9 (.own 0 [.int .u8 119, .int .u8 114, .int .u8 97, .int .u8 112] 4)) (.slice (some ⟨b9, 0, none⟩) 4 4) wrapB := Sl.lit (n := 4) rfl
  have le9 := Heap.le_set (Heap.le_refl h8) hb9 (.own 0 [.int .u8 119, .int .u8 114, .int .u8 97, .int .u8 112] 4)
  try simp -implicitDefEqProofs only [zB1,zB2,zB3,zB4,zB5,zB6,zB7,zB8,zB9,zB10,zB11,y00,y01,y02,y03,y04,y05,y06,y07,y08,y09,y0a,y0b,y0c,y0d,y0e,y0f,y0g,y0h,y0i,y0j,y0k,y0l,y0m,y0n,y0o,y0p,y0q,y0r,y0s,y0t,y0u,y0v,y0w,y0x,y0y,y0z,y10,y11,y12,y13,y14,y15,y16,y17,y18,y19,y1a,y1b,y1c,y1d,y1e,y1f,y1g,y1h,y1i,y1j,y1k,y1l,y1m,y1n,y1o,y1p,y1q,y1r,retO,retL,retV,z69,allV,allP,z6a,z6d,z6e,z6k,z6l,z6m,binV,eqV,unV,oOpt,reduceIte,reduceCtorEq,Nat.reduceEqDiff,Nat.reduceAdd,Nat.reduceMul,Nat.reduceLT,Nat.reduceSub,Int.reduceLT,Int.reduceLE,Int.reduceEq,Int.reduceNe,Int.reduceSub,Int.reduceAdd,Int.reduceMul,Int.reduceBEq,Int.reduceBNe,Int.reduceGT,Int.reduceGE,Nat.reduceGT,Int.reduceToNat,Int.reduceNeg,Nat.reduceLeDiff,Nat.reduceBEq,Nat.reduceBneDiff,Value.cells, m9]
  generalize (h8.set b9 (.own 0 [.int .u8 119, .int .u8 114, .int .u8 97, .int .u8 112] 4)) = h9 at s9 le9 ⊢
  have le29 := Heap.le_trans (Heap.le_trans le27 le8) le9
  refine (aead_Open_c E h9 (wkeyF wrap) (nonceF dev at') b wrapB (wkeyF_len _) (nonceF_len _ _) (by omega) (by simp [wrapB]) (sb.le (Heap.le_trans le05 le29)) s9).mono ?_
  rintro r h10 ⟨le10, r', rfl, ow10⟩
  have eu : unwrapF b wrap at' dev = if (openF (wkeyF wrap) (nonceF dev at') b wrapB).1 = 0 ∧ (openF (wkeyF wrap) (nonceF dev at') b wrapB).2.length = 32 then (0, (openF (wkeyF wrap) (nonceF dev at') b wrapB).2) else (8, List.replicate 32 0) := rfl
  rw [eu]
  clear eu
  generalize (openF (wkeyF wrap) (nonceF dev at') b wrapB).1 = en at *
  generalize (openF (wkeyF wrap) (nonceF dev at') b wrapB).2 = X at *
  obtain ⟨bX, cX, rfl⟩ := Sl.shape ow10.sl
  have q8' := le10 _ _ (le29 _ _ q8)
  have le210 := Heap.le_trans le29 le10
  simp -implicitDefEqProofs only [zB1,zB2,zB3,zB4,zB5,zB6,zB7,zB8,zB9,zB10,zB11,y00,y01,y02,y03,y04,y05,y06,y07,y08,y09,y0a,y0b,y0c,y0d,y0e,y0f,y0g,y0h,y0i,y0j,y0k,y0l,y0m,y0n,y0o,y0p,y0q,y0r,y0s,y0t,y0u,y0v,y0w,y0x,y0y,y0z,y10,y11,y12,y13,y14,y15,y16,y17,y18,y19,y1a,y1b,y1c,y1d,y1e,y1f,y1g,y1h,y1i,y1j,y1k,y1l,y1m,y1n,y1o,y1p,y1q,y1r,retO,retL,retV,z69,allV,allP,z6a,z6d,z6e,z6k,z6l,z6m,binV,eqV,unV,oOpt,reduceIte,reduceCtorEq,Nat.reduceEqDiff,Nat.reduceAdd,Nat.reduceMul,Nat.reduceLT,Nat.reduceSub,Int.reduceLT,Int.reduceLE,Int.reduceEq,Int.reduceNe,Int.reduceSub,Int.reduceAdd,Int.reduceMul,Int.reduceBEq,Int.reduceBNe,Int.reduceGT,Int.reduceGE,Nat.reduceGT,Int.reduceToNat,Int.reduceNeg,Nat.reduceLeDiff,Nat.reduceBEq,Nat.reduceBneDiff,Value.cells]
  unfold ir_epoch_Unwrap_34
  have zr : List.replicate 32 (Value.int .u8 0) = (List.replicate 32 (0 : UInt8)).map u8V := by rw [List.map_replicate]; rfl
  have stz : storeV h10 32 (.pointer (some ⟨b8, 0, none⟩)) (.agg (List.replicate 32 (Value.int .u8 0)).toArray) = some (h10.set b8 (.own 0 (List.replicate 32 (.int .u8 0)) 32)) := storeV_agg_at q8' (by omega) (by simp) (by rw [zr]; exact one_u8 _) (by simp) (by omega)
  have hlz : hcells (h10.set b8 (.own 0 (List.replicate 32 (.int .u8 0)) 32)) ⟨b8, 0, none⟩ 32 = some (List.replicate 32 (.int .u8 0)) := z6o (by simp)
  have fin : ∀ Y, h.le (h10.set b8 Y) := fun Y => Heap.le_set (Heap.le_trans le05 le210) hb8h Y
  by_cases e0 : en = 0
  · subst e0
    by_cases e1 : X.length = 32
    · obtain ⟨bo, oo, c', e2, hc, hcl⟩ := ow10.sl.ptr (by omega) (by omega)
      cases e2
      rw [e1, Nat.mul_one] at hcl
      have e1' : ((X.length : Nat) : Int) = 32 := by omega
      have e3 : ¬ (X.length < 32) := by omega
      have st : storeV h10 32 (.pointer (some ⟨b8, 0, none⟩)) (.agg (X.map u8V).toArray) = some (h10.set b8 (.own 0 (X.map u8V) 32)) := storeV_agg_at q8' (by omega) (by simp [e1]) (one_u8 _) (by simp) (by omega)
      have hl2 : hcells (h10.set b8 (.own 0 (X.map u8V) 32)) ⟨b8, 0, none⟩ 32 = some (X.map u8V) := z6o (by simp [e1])
      simp -implicitDefEqProofs only [zB1,zB2,zB3,zB4,zB5,zB6,zB7,zB8,zB9,zB10,zB11,y00,y01,y02,y03,y04,y05,y06,y07,y08,y09,y0a,y0b,y0c,y0d,y0e,y0f,y0g,y0h,y0i,y0j,y0k,y0l,y0m,y0n,y0o,y0p,y0q,y0r,y0s,y0t,y0u,y0v,y0w,y0x,y0y,y0z,y10,y11,y12,y13,y14,y15,y16,y17,y18,y19,y1a,y1b,y1c,y1d,y1e,y1f,y1g,y1h,y1i,y1j,y1k,y1l,y1m,y1n,y1o,y1p,y1q,y1r,retO,retL,retV,z69,allV,allP,z6a,z6d,z6e,z6k,z6l,z6m,binV,eqV,unV,oOpt,reduceIte,reduceCtorEq,Nat.reduceEqDiff,Nat.reduceAdd,Nat.reduceMul,Nat.reduceLT,Nat.reduceSub,Int.reduceLT,Int.reduceLE,Int.reduceEq,Int.reduceNe,Int.reduceSub,Int.reduceAdd,Int.reduceMul,Int.reduceBEq,Int.reduceBNe,Int.reduceGT,Int.reduceGE,Nat.reduceGT,Int.reduceToNat,Int.reduceNeg,Nat.reduceLeDiff,Nat.reduceBEq,Nat.reduceBneDiff,Value.cells, e1', e1, e3, hcl, st, hl2]
      exact fin _
    · have e1' : ¬ ((X.length : Nat) : Int) = 32 := by omega
      simp -implicitDefEqProofs only [zB1,zB2,zB3,zB4,zB5,zB6,zB7,zB8,zB9,zB10,zB11,y00,y01,y02,y03,y04,y05,y06,y07,y08,y09,y0a,y0b,y0c,y0d,y0e,y0f,y0g,y0h,y0i,y0j,y0k,y0l,y0m,y0n,y0o,y0p,y0q,y0r,y0s,y0t,y0u,y0v,y0w,y0x,y0y,y0z,y10,y11,y12,y13,y14,y15,y16,y17,y18,y19,y1a,y1b,y1c,y1d,y1e,y1f,y1g,y1h,y1i,y1j,y1k,y1l,y1m,y1n,y1o,y1p,y1q,y1r,retO,retL,retV,z69,allV,allP,z6a,z6d,z6e,z6k,z6l,z6m,binV,eqV,unV,oOpt,reduceIte,reduceCtorEq,Nat.reduceEqDiff,Nat.reduceAdd,Nat.reduceMul,Nat.reduceLT,Nat.reduceSub,Int.reduceLT,Int.reduceLE,Int.reduceEq,Int.reduceNe,Int.reduceSub,Int.reduceAdd,Int.reduceMul,Int.reduceBEq,Int.reduceBNe,Int.reduceGT,Int.reduceGE,Nat.reduceGT,Int.reduceToNat,Int.reduceNeg,Nat.reduceLeDiff,Nat.reduceBEq,Nat.reduceBneDiff,Value.cells, e1', e1, stz, hlz, and_false]
      exact ⟨fin _, by rw [zr]⟩
  · have e0' : ¬ ((en : Nat) : Int) = 0 := by omega
    simp -implicitDefEqProofs only [zB1,zB2,zB3,zB4,zB5,zB6,zB7,zB8,zB9,zB10,zB11,y00,y01,y02,y03,y04,y05,y06,y07,y08,y09,y0a,y0b,y0c,y0d,y0e,y0f,y0g,y0h,y0i,y0j,y0k,y0l,y0m,y0n,y0o,y0p,y0q,y0r,y0s,y0t,y0u,y0v,y0w,y0x,y0y,y0z,y10,y11,y12,y13,y14,y15,y16,y17,y18,y19,y1a,y1b,y1c,y1d,y1e,y1f,y1g,y1h,y1i,y1j,y1k,y1l,y1m,y1n,y1o,y1p,y1q,y1r,retO,retL,retV,z69,allV,allP,z6a,z6d,z6e,z6k,z6l,z6m,binV,eqV,unV,oOpt,reduceIte,reduceCtorEq,Nat.reduceEqDiff,Nat.reduceAdd,Nat.reduceMul,Nat.reduceLT,Nat.reduceSub,Int.reduceLT,Int.reduceLE,Int.reduceEq,Int.reduceNe,Int.reduceSub,Int.reduceAdd,Int.reduceMul,Int.reduceBEq,Int.reduceBNe,Int.reduceGT,Int.reduceGE,Nat.reduceGT,Int.reduceToNat,Int.reduceNeg,Nat.reduceLeDiff,Nat.reduceBEq,Nat.reduceBneDiff,Value.cells, e0', e0, stz, hlz, false_and]
    exact ⟨fin _, by rw [zr]⟩
end Go.Bb
/- Contracts: rings of keys, an epoch's key. -/
namespace Go.Bb
set_option linter.unusedSimpArgs false
set_option linter.unusedVariables false
set_option maxRecDepth 20000
set_option maxHeartbeats 2000000

abbrev RL := List (Int × List UInt8)
def EntR (es : List MapEntry) (L : RL) : Prop := es.map (fun e => (e.key, e.val)) = L.map fun x => (Value.int .i64 x.1, Value.agg (x.2.map u8V).toArray)
def getK (L : RL) (k : Int) : Option (List UInt8) := (L.find? fun x => decide (x.1 = k)).map (·.2)
theorem find_none {k : Int} : ∀ {es : List MapEntry} {L : RL} (i : Nat), EntR es L → getK L k = none → findV .int (.int .i64 k) es i = some none
  | [], _, _, _, _ => rfl
  | e :: es, [], i, h, _ => by simp [EntR] at h
  | e :: es, x :: L, i, h, hn => by
      simp only [EntR, List.map_cons, List.cons.injEq, Prod.mk.injEq] at h
      obtain ⟨⟨h1, h2⟩, h3⟩ := h
      have hx : ¬ x.1 = k := by
        intro q
        simp [getK, List.find?_cons, q] at hn
      have hn' : getK L k = none := by
        unfold getK at hn ⊢
        rw [List.find?_cons] at hn
        simpa [hx] using hn
      have hk : keyV .int (.int .i64 k) e.key = some false := by
        rw [h1]; simp [keyV]; omega
      unfold findV
      rw [hk]
      exact find_none (i + 1) h3 hn'
theorem find_some {k : Int} {w : List UInt8} : ∀ {es : List MapEntry} {L : RL} (i : Nat), EntR es L → getK L k = some w → ∃ j, findV .int (.int .i64 k) es i = some (some (j, .agg (w.map u8V).toArray))
  | [], [], _, _, hs => by simp [getK] at hs
  | [], _ :: _, _, h, _ => by simp [EntR] at h
  | e :: es, [], i, h, _ => by simp [EntR] at h
  | e :: es, x :: L, i, h, hs => by
      simp only [EntR, List.map_cons, List.cons.injEq, Prod.mk.injEq] at h
      obtain ⟨⟨h1, h2⟩, h3⟩ := h
      by_cases hx : x.1 = k
      · have hk : keyV .int (.int .i64 k) e.key = some true := by
          rw [h1]; simp [keyV]; omega
        have hw : x.2 = w := by
          unfold getK at hs
          rw [List.find?_cons] at hs
          simpa [hx] using hs
        unfold findV
        rw [hk]
        exact ⟨i, by rw [h2, hw]⟩
      · have hs' : getK L k = some w := by
          unfold getK at hs ⊢
          rw [List.find?_cons] at hs
          simpa [hx] using hs
        have hk : keyV .int (.int .i64 k) e.key = some false := by
          rw [h1]; simp [keyV]; omega
        unfold findV
        rw [hk]
        exact find_some (i + 1) h3 hs'
/-- A ring at its place. -/
def RingR (h0 H : Heap) (p : Value) (L : RL) : Prop :=
  ∃ b r es c, p = .pointer (some ⟨b, 0, none⟩) ∧ h0 b = none ∧ h0 r = none ∧ b ≠ r ∧ H b = some (.own 0 [.map (some r)] 1) ∧ H r = some (.obj (.map es c)) ∧ EntR es.toList L
theorem RingR.le {h0 H H' : Heap} {p : Value} {L : RL} (x : RingR h0 H p L) (le : H.le H') : RingR h0 H' p L := by
  obtain ⟨b, r, es, c, h1, h2, h3, h4, h5, h6, h7⟩ := x
  exact ⟨b, r, es, c, h1, h2, h3, h4, le _ _ h5, le _ _ h6, h7⟩
theorem EntR.len {es : List MapEntry} {L : RL} (h : EntR es L) : es.length = L.length := by
  have := congrArg List.length h
  simpa using this
def putF (L : RL) (k : Int) (w : List UInt8) : RL × Nat :=
  if 0 ≤ k ∧ k ≤ 1099511627776 then
    match getK L k with
    | some old => if old = w then (L, 0) else (L, 5)
    | none => if 500 ≤ L.length then (L, 2) else (L ++ [(k, w)], 0)
  else (L, 1)
theorem kfit_int (k : Int) : keyFit .int (.int .i64 k) = some () := rfl

theorem epoch_New_c (E : EnvT tab) (h : Heap) : ACallN E.toEnv n_epoch_New [] h fun r h' => h.le h' ∧ RingR h h' r [] := by
  refine acall h_epoch_New ir_epoch_New rfl rfl (wpA_sound ?_)
  unfold ir_epoch_New
  simp -implicitDefEqProofs only [zB1,zB2,zB3,zB4,zB5,zB6,zB7,zB8,zB9,zB10,zB11,y00,y01,y02,y03,y04,y05,y06,y07,y08,y09,y0a,y0b,y0c,y0d,y0e,y0f,y0g,y0h,y0i,y0j,y0k,y0l,y0m,y0n,y0o,y0p,y0q,y0r,y0s,y0t,y0u,y0v,y0w,y0x,y0y,y0z,y10,y11,y12,y13,y14,y15,y16,y17,y18,y19,y1a,y1b,y1c,y1d,y1e,y1f,y1g,y1h,y1i,y1j,y1k,y1l,y1m,y1n,y1o,y1p,y1q,y1r,retO,retL,retV,z69,allV,allP,z6a,z6d,z6e,z6k,z6l,z6m,binV,eqV,unV,oOpt,reduceIte,reduceCtorEq,Nat.reduceEqDiff,Nat.reduceAdd,Nat.reduceMul,Nat.reduceLT,Nat.reduceSub,Int.reduceLT,Int.reduceLE,Int.reduceEq,Int.reduceNe,Int.reduceSub,Int.reduceAdd,Int.reduceMul,Int.reduceBEq,Int.reduceBNe,Int.reduceGT,Int.reduceGE,Nat.reduceGT,Int.reduceToNat,Int.reduceNeg,Nat.reduceLeDiff,Nat.reduceBEq,Nat.reduceBneDiff,Value.cells]
  intro r hr
  try simp -implicitDefEqProofs only [zB1,zB2,zB3,zB4,zB5,zB6,zB7,zB8,zB9,zB10,zB11,y00,y01,y02,y03,y04,y05,y06,y07,y08,y09,y0a,y0b,y0c,y0d,y0e,y0f,y0g,y0h,y0i,y0j,y0k,y0l,y0m,y0n,y0o,y0p,y0q,y0r,y0s,y0t,y0u,y0v,y0w,y0x,y0y,y0z,y10,y11,y12,y13,y14,y15,y16,y17,y18,y19,y1a,y1b,y1c,y1d,y1e,y1f,y1g,y1h,y1i,y1j,y1k,y1l,y1m,y1n,y1o,y1p,y1q,y1r,retO,retL,retV,z69,allV,allP,z6a,z6d,z6e,z6k,z6l,z6m,binV,eqV,unV,oOpt,reduceIte,reduceCtorEq,Nat.reduceEqDiff,Nat.reduceAdd,Nat.reduceMul,Nat.reduceLT,Nat.reduceSub,Int.reduceLT,Int.reduceLE,Int.reduceEq,Int.reduceNe,Int.reduceSub,Int.reduceAdd,Int.reduceMul,Int.reduceBEq,Int.reduceBNe,Int.reduceGT,Int.reduceGE,Nat.reduceGT,Int.reduceToNat,Int.reduceNeg,Nat.reduceLeDiff,Nat.reduceBEq,Nat.reduceBneDiff,Value.cells]
  intro b hb
  try simp -implicitDefEqProofs only [zB1,zB2,zB3,zB4,zB5,zB6,zB7,zB8,zB9,zB10,zB11,y00,y01,y02,y03,y04,y05,y06,y07,y08,y09,y0a,y0b,y0c,y0d,y0e,y0f,y0g,y0h,y0i,y0j,y0k,y0l,y0m,y0n,y0o,y0p,y0q,y0r,y0s,y0t,y0u,y0v,y0w,y0x,y0y,y0z,y10,y11,y12,y13,y14,y15,y16,y17,y18,y19,y1a,y1b,y1c,y1d,y1e,y1f,y1g,y1h,y1i,y1j,y1k,y1l,y1m,y1n,y1o,y1p,y1q,y1r,retO,retL,retV,z69,allV,allP,z6a,z6d,z6e,z6k,z6l,z6m,binV,eqV,unV,oOpt,reduceIte,reduceCtorEq,Nat.reduceEqDiff,Nat.reduceAdd,Nat.reduceMul,Nat.reduceLT,Nat.reduceSub,Int.reduceLT,Int.reduceLE,Int.reduceEq,Int.reduceNe,Int.reduceSub,Int.reduceAdd,Int.reduceMul,Int.reduceBEq,Int.reduceBNe,Int.reduceGT,Int.reduceGE,Nat.reduceGT,Int.reduceToNat,Int.reduceNeg,Nat.reduceLeDiff,Nat.reduceBEq,Nat.reduceBneDiff,Value.cells]
  have ne : b ≠ r := by intro e; subst e; rw [Heap.set_self] at hb; cases hb
  have hb' : h b = none := by rw [Heap.set_ne ne] at hb; exact hb
  refine ⟨Heap.le_new (Heap.le_set (Heap.le_refl _) hr _) hb _, b, r, #[], 0, rfl, hb', hr, ne, Heap.set_self _ _ _, by rw [Heap.set_ne ne.symm, Heap.set_self], rfl⟩
theorem epoch_Get_c (E : EnvT tab) {h0 H : Heap} (leH : h0.le H) {p : Value} {L : RL} (R : RingR h0 H p L) (hL : ∀ x ∈ L, x.2.length = 32) (k : Int) :
    ACallN E.toEnv n_epoch_Ring_Get [p, .int .i64 k] H fun r h' => H.le h' ∧ r = .tuple #[.agg (((getK L k).getD (List.replicate 32 0)).map u8V).toArray, .bool (getK L k).isSome] := by
  obtain ⟨b, r, es, c, rfl, hb, hr, ne, qb, qr, er⟩ := R
  refine acall h_epoch_Ring_Get ir_epoch_Ring_Get rfl rfl (wpA_sound ?_)
  unfold ir_epoch_Ring_Get
  simp -implicitDefEqProofs only [zB1,zB2,zB3,zB4,zB5,zB6,zB7,zB8,zB9,zB10,zB11,y00,y01,y02,y03,y04,y05,y06,y07,y08,y09,y0a,y0b,y0c,y0d,y0e,y0f,y0g,y0h,y0i,y0j,y0k,y0l,y0m,y0n,y0o,y0p,y0q,y0r,y0s,y0t,y0u,y0v,y0w,y0x,y0y,y0z,y10,y11,y12,y13,y14,y15,y16,y17,y18,y19,y1a,y1b,y1c,y1d,y1e,y1f,y1g,y1h,y1i,y1j,y1k,y1l,y1m,y1n,y1o,y1p,y1q,y1r,retO,retL,retV,z69,allV,allP,z6a,z6d,z6e,z6k,z6l,z6m,binV,eqV,unV,oOpt,reduceIte,reduceCtorEq,Nat.reduceEqDiff,Nat.reduceAdd,Nat.reduceMul,Nat.reduceLT,Nat.reduceSub,Int.reduceLT,Int.reduceLE,Int.reduceEq,Int.reduceNe,Int.reduceSub,Int.reduceAdd,Int.reduceMul,Int.reduceBEq,Int.reduceBNe,Int.reduceGT,Int.reduceGE,Nat.reduceGT,Int.reduceToNat,Int.reduceNeg,Nat.reduceLeDiff,Nat.reduceBEq,Nat.reduceBneDiff,Value.cells]
  intro b4 hb4
  try simp -implicitDefEqProofs only [zB1,zB2,zB3,zB4,zB5,zB6,zB7,zB8,zB9,zB10,zB11,y00,y01,y02,y03,y04,y05,y06,y07,y08,y09,y0a,y0b,y0c,y0d,y0e,y0f,y0g,y0h,y0i,y0j,y0k,y0l,y0m,y0n,y0o,y0p,y0q,y0r,y0s,y0t,y0u,y0v,y0w,y0x,y0y,y0z,y10,y11,y12,y13,y14,y15,y16,y17,y18,y19,y1a,y1b,y1c,y1d,y1e,y1f,y1g,y1h,y1i,y1j,y1k,y1l,y1m,y1n,y1o,y1p,y1q,y1r,retO,retL,retV,z69,allV,allP,z6a,z6d,z6e,z6k,z6l,z6m,binV,eqV,unV,oOpt,reduceIte,reduceCtorEq,Nat.reduceEqDiff,Nat.reduceAdd,Nat.reduceMul,Nat.reduceLT,Nat.reduceSub,Int.reduceLT,Int.reduceLE,Int.reduceEq,Int.reduceNe,Int.reduceSub,Int.reduceAdd,Int.reduceMul,Int.reduceBEq,Int.reduceBNe,Int.reduceGT,Int.reduceGE,Nat.reduceGT,Int.reduceToNat,Int.reduceNeg,Nat.reduceLeDiff,Nat.reduceBEq,Nat.reduceBneDiff,Value.cells, List.length_replicate]
  have le4 : H.le (H.set b4 (.own 0 (List.replicate 32 (.int .u8 0)) 32)) := Heap.le_set (Heap.le_refl _) hb4 _
  have q4 : (H.set b4 (.own 0 (List.replicate 32 (.int .u8 0)) 32)) b4 = some (.own 0 (List.replicate 32 (.int .u8 0)) 32) := Heap.set_self _ _ _
  have qb := le4 _ _ qb
  have qr := le4 _ _ qr
  generalize (H.set b4 (.own 0 (List.replicate 32 (.int .u8 0)) 32)) = h1 at le4 q4 qb qr ⊢
  have cb : hcell h1 ⟨b, 0, none⟩ = some (.map (some r)) := by rw [hcell_at qb (by simp)]; rfl
  have ma : mapAt h1 r = some (es, c) := by simp [mapAt, qr]
  have zr : List.replicate 32 (Value.int .u8 0) = (List.replicate 32 (0 : UInt8)).map u8V := by rw [List.map_replicate]; rfl
  have stA : ∀ (b : Nat) (l : List Value), l.length = 32 → l.all one = true → storeV (h1.set b (.own 0 (List.replicate 32 (.int .u8 0)) 32)) 32 (.pointer (some ⟨b, 0, none⟩)) (.agg l.toArray) = some (h1.set b (.own 0 l 32)) := fun b l hl ho => z6q (by omega) (by simp [hl]) ho (by simp) (by omega)
  have stB : ∀ (G : Heap) (l : List Value), h1.le G → l.length = 32 → l.all one = true → storeV G 32 (.pointer (some ⟨b4, 0, none⟩)) (.agg l.toArray) = some (G.set b4 (.own 0 l 32)) := fun G l x hl ho => storeV_agg_at (x _ _ q4) (by omega) hl ho (by simp) (by omega)
  have ld : ∀ (G : Heap) (b : Nat) (l : List Value), l.length = 32 → hcells (G.set b (.own 0 l 32)) ⟨b, 0, none⟩ 32 = some l := fun G b l hl => z6o (by simp [hl])
  have zl : (List.replicate 32 (Value.int .u8 0)).length = 32 := by simp
  have zo : (List.replicate 32 (Value.int .u8 0)).all one = true := by rw [zr]; exact one_u8 _
  have hb4H : ∀ (G : Heap) Y, H.le G → H.le (G.set b4 Y) := fun G Y x => Heap.le_set x hb4 Y
  cases hg : getK L k with
  | none =>
    have fv := find_none 0 er hg
    simp -implicitDefEqProofs only [zB1,zB2,zB3,zB4,zB5,zB6,zB7,zB8,zB9,zB10,zB11,y00,y01,y02,y03,y04,y05,y06,y07,y08,y09,y0a,y0b,y0c,y0d,y0e,y0f,y0g,y0h,y0i,y0j,y0k,y0l,y0m,y0n,y0o,y0p,y0q,y0r,y0s,y0t,y0u,y0v,y0w,y0x,y0y,y0z,y10,y11,y12,y13,y14,y15,y16,y17,y18,y19,y1a,y1b,y1c,y1d,y1e,y1f,y1g,y1h,y1i,y1j,y1k,y1l,y1m,y1n,y1o,y1p,y1q,y1r,retO,retL,retV,z69,allV,allP,z6a,z6d,z6e,z6k,z6l,z6m,binV,eqV,unV,oOpt,reduceIte,reduceCtorEq,Nat.reduceEqDiff,Nat.reduceAdd,Nat.reduceMul,Nat.reduceLT,Nat.reduceSub,Int.reduceLT,Int.reduceLE,Int.reduceEq,Int.reduceNe,Int.reduceSub,Int.reduceAdd,Int.reduceMul,Int.reduceBEq,Int.reduceBNe,Int.reduceGT,Int.reduceGE,Nat.reduceGT,Int.reduceToNat,Int.reduceNeg,Nat.reduceLeDiff,Nat.reduceBEq,Nat.reduceBneDiff,Value.cells, cb, ma, fv, kfit_int]
    intro b6 hb6
    rw [zl]
    have s1 := stA b6 _ zl zo
    have le6 := Heap.le_set (Heap.le_refl h1) hb6 (.own 0 (List.replicate 32 (.int .u8 0)) 32)
    have s2 := stB _ _ le6 zl zo
    have l1 := ld h1 b6 _ zl
    have l2 := ld (h1.set b6 (.own 0 (List.replicate 32 (.int .u8 0)) 32)) b4 _ zl
    simp -implicitDefEqProofs only [zB1,zB2,zB3,zB4,zB5,zB6,zB7,zB8,zB9,zB10,zB11,y00,y01,y02,y03,y04,y05,y06,y07,y08,y09,y0a,y0b,y0c,y0d,y0e,y0f,y0g,y0h,y0i,y0j,y0k,y0l,y0m,y0n,y0o,y0p,y0q,y0r,y0s,y0t,y0u,y0v,y0w,y0x,y0y,y0z,y10,y11,y12,y13,y14,y15,y16,y17,y18,y19,y1a,y1b,y1c,y1d,y1e,y1f,y1g,y1h,y1i,y1j,y1k,y1l,y1m,y1n,y1o,y1p,y1q,y1r,retO,retL,retV,z69,allV,allP,z6a,z6d,z6e,z6k,z6l,z6m,binV,eqV,unV,oOpt,reduceIte,reduceCtorEq,Nat.reduceEqDiff,Nat.reduceAdd,Nat.reduceMul,Nat.reduceLT,Nat.reduceSub,Int.reduceLT,Int.reduceLE,Int.reduceEq,Int.reduceNe,Int.reduceSub,Int.reduceAdd,Int.reduceMul,Int.reduceBEq,Int.reduceBNe,Int.reduceGT,Int.reduceGE,Nat.reduceGT,Int.reduceToNat,Int.reduceNeg,Nat.reduceLeDiff,Nat.reduceBEq,Nat.reduceBneDiff,Value.cells, s1, s2, l1, l2]
    exact ⟨hb4H _ _ (Heap.le_trans le4 le6), by rw [zr]; rfl⟩
  | some w =>
    obtain ⟨j, fv⟩ := find_some 0 er hg
    have hw : w.length = 32 := by
      unfold getK at hg
      obtain ⟨x, hx, rfl⟩ := Option.map_eq_some_iff.1 hg
      exact hL x (List.mem_of_find?_eq_some hx)
    have wl : (w.map u8V).length = 32 := by simp [hw]
    have wo := one_u8 w
    simp -implicitDefEqProofs only [zB1,zB2,zB3,zB4,zB5,zB6,zB7,zB8,zB9,zB10,zB11,y00,y01,y02,y03,y04,y05,y06,y07,y08,y09,y0a,y0b,y0c,y0d,y0e,y0f,y0g,y0h,y0i,y0j,y0k,y0l,y0m,y0n,y0o,y0p,y0q,y0r,y0s,y0t,y0u,y0v,y0w,y0x,y0y,y0z,y10,y11,y12,y13,y14,y15,y16,y17,y18,y19,y1a,y1b,y1c,y1d,y1e,y1f,y1g,y1h,y1i,y1j,y1k,y1l,y1m,y1n,y1o,y1p,y1q,y1r,retO,retL,retV,z69,allV,allP,z6a,z6d,z6e,z6k,z6l,z6m,binV,eqV,unV,oOpt,reduceIte,reduceCtorEq,Nat.reduceEqDiff,Nat.reduceAdd,Nat.reduceMul,Nat.reduceLT,Nat.reduceSub,Int.reduceLT,Int.reduceLE,Int.reduceEq,Int.reduceNe,Int.reduceSub,Int.reduceAdd,Int.reduceMul,Int.reduceBEq,Int.reduceBNe,Int.reduceGT,Int.reduceGE,Nat.reduceGT,Int.reduceToNat,Int.reduceNeg,Nat.reduceLeDiff,Nat.reduceBEq,Nat.reduceBneDiff,Value.cells, cb, ma, fv, kfit_int]
    intro b6 hb6
    rw [zl]
    have s1 := stA b6 _ wl wo
    have le6 := Heap.le_set (Heap.le_refl h1) hb6 (.own 0 (w.map u8V) 32)
    have s2 := stB _ _ le6 wl wo
    have l1 := ld h1 b6 _ wl
    have l2 := ld (h1.set b6 (.own 0 (w.map u8V) 32)) b4 _ wl
    simp -implicitDefEqProofs only [zB1,zB2,zB3,zB4,zB5,zB6,zB7,zB8,zB9,zB10,zB11,y00,y01,y02,y03,y04,y05,y06,y07,y08,y09,y0a,y0b,y0c,y0d,y0e,y0f,y0g,y0h,y0i,y0j,y0k,y0l,y0m,y0n,y0o,y0p,y0q,y0r,y0s,y0t,y0u,y0v,y0w,y0x,y0y,y0z,y10,y11,y12,y13,y14,y15,y16,y17,y18,y19,y1a,y1b,y1c,y1d,y1e,y1f,y1g,y1h,y1i,y1j,y1k,y1l,y1m,y1n,y1o,y1p,y1q,y1r,retO,retL,retV,z69,allV,allP,z6a,z6d,z6e,z6k,z6l,z6m,binV,eqV,unV,oOpt,reduceIte,reduceCtorEq,Nat.reduceEqDiff,Nat.reduceAdd,Nat.reduceMul,Nat.reduceLT,Nat.reduceSub,Int.reduceLT,Int.reduceLE,Int.reduceEq,Int.reduceNe,Int.reduceSub,Int.reduceAdd,Int.reduceMul,Int.reduceBEq,Int.reduceBNe,Int.reduceGT,Int.reduceGE,Nat.reduceGT,Int.reduceToNat,Int.reduceNeg,Nat.reduceLeDiff,Nat.reduceBEq,Nat.reduceBneDiff,Value.cells, s1, s2, l1, l2]
    exact ⟨hb4H _ _ (Heap.le_trans le4 le6), rfl⟩

theorem epoch_Put_c (E : EnvT tab) {h0 H : Heap} (leH : h0.le H) {p : Value} {L : RL} (R : RingR h0 H p L) (hL : ∀ x ∈ L, x.2.length = 32) (k : Int) (w : List UInt8) (hw : w.length = 32) :
    ACallN E.toEnv n_epoch_Ring_Put [p, .int .i64 k, .agg (w.map u8V).toArray] H fun r h' => h0.le h' ∧ r = .int .i64 ((putF L k w).2 : Nat) ∧ RingR h0 h' p (putF L k w).1 := by
  obtain ⟨b, r, es, c, rfl, hb, hr, ne, qb, qr, er⟩ := R
  refine acall h_epoch_Ring_Put ir_epoch_Ring_Put rfl rfl (wpA_sound ?_)
  unfold ir_epoch_Ring_Put
  have wl : (w.map u8V).length = 32 := by simp [hw]
  simp -implicitDefEqProofs only [zB1,zB2,zB3,zB4,zB5,zB6,zB7,zB8,zB9,zB10,zB11,y00,y01,y02,y03,y04,y05,y06,y07,y08,y09,y0a,y0b,y0c,y0d,y0e,y0f,y0g,y0h,y0i,y0j,y0k,y0l,y0m,y0n,y0o,y0p,y0q,y0r,y0s,y0t,y0u,y0v,y0w,y0x,y0y,y0z,y10,y11,y12,y13,y14,y15,y16,y17,y18,y19,y1a,y1b,y1c,y1d,y1e,y1f,y1g,y1h,y1i,y1j,y1k,y1l,y1m,y1n,y1o,y1p,y1q,y1r,retO,retL,retV,z69,allV,allP,z6a,z6d,z6e,z6k,z6l,z6m,binV,eqV,unV,oOpt,reduceIte,reduceCtorEq,Nat.reduceEqDiff,Nat.reduceAdd,Nat.reduceMul,Nat.reduceLT,Nat.reduceSub,Int.reduceLT,Int.reduceLE,Int.reduceEq,Int.reduceNe,Int.reduceSub,Int.reduceAdd,Int.reduceMul,Int.reduceBEq,Int.reduceBNe,Int.reduceGT,Int.reduceGE,Nat.reduceGT,Int.reduceToNat,Int.reduceNeg,Nat.reduceLeDiff,Nat.reduceBEq,Nat.reduceBneDiff,Value.cells]
  intro b5 hb5
  try simp -implicitDefEqProofs only [zB1,zB2,zB3,zB4,zB5,zB6,zB7,zB8,zB9,zB10,zB11,y00,y01,y02,y03,y04,y05,y06,y07,y08,y09,y0a,y0b,y0c,y0d,y0e,y0f,y0g,y0h,y0i,y0j,y0k,y0l,y0m,y0n,y0o,y0p,y0q,y0r,y0s,y0t,y0u,y0v,y0w,y0x,y0y,y0z,y10,y11,y12,y13,y14,y15,y16,y17,y18,y19,y1a,y1b,y1c,y1d,y1e,y1f,y1g,y1h,y1i,y1j,y1k,y1l,y1m,y1n,y1o,y1p,y1q,y1r,retO,retL,retV,z69,allV,allP,z6a,z6d,z6e,z6k,z6l,z6m,binV,eqV,unV,oOpt,reduceIte,reduceCtorEq,Nat.reduceEqDiff,Nat.reduceAdd,Nat.reduceMul,Nat.reduceLT,Nat.reduceSub,Int.reduceLT,Int.reduceLE,Int.reduceEq,Int.reduceNe,Int.reduceSub,Int.reduceAdd,Int.reduceMul,Int.reduceBEq,Int.reduceBNe,Int.reduceGT,Int.reduceGE,Nat.reduceGT,Int.reduceToNat,Int.reduceNeg,Nat.reduceLeDiff,Nat.reduceBEq,Nat.reduceBneDiff,Value.cells, wl]
  have le5 : H.le (H.set b5 (.own 0 (w.map u8V) 32)) := Heap.le_set (Heap.le_refl _) hb5 _
  have q5 : (H.set b5 (.own 0 (w.map u8V) 32)) b5 = some (.own 0 (w.map u8V) 32) := Heap.set_self _ _ _
  have qb := le5 _ _ qb
  have qr := le5 _ _ qr
  have leH := Heap.le_trans leH le5
  generalize (H.set b5 (.own 0 (w.map u8V) 32)) = h1 at leH q5 qb qr ⊢
  refine (epoch_good_c E h1 k).mono ?_
  rintro rr h3 ⟨e3, rfl⟩
  obtain rfl := e3.symm
  have zl : (List.replicate 32 (Value.int .u8 0)).length = 32 := by simp
  have cb : ∀ G, h1.le G → hcell G ⟨b, 0, none⟩ = some (.map (some r)) := fun G x => by rw [hcell_at (x _ _ qb) (by simp)]; rfl
  have cb1 := cb h1 (Heap.le_refl _)
  have ma : ∀ G, h1.le G → mapAt G r = some (es, c) := fun G x => by simp [mapAt, x _ _ qr]
  have ma1 := ma h1 (Heap.le_refl _)
  have c5 : ∀ G, h1.le G → hcells G ⟨b5, 0, none⟩ 32 = some (w.map u8V) := fun G x => by rw [hcells_at (x _ _ q5) (by simp [hw])]; simp [List.take_of_length_le, hw]
  have stA : ∀ (b : Nat) (l : List Value), l.length = 32 → l.all one = true → storeV (h1.set b (.own 0 (List.replicate 32 (.int .u8 0)) 32)) 32 (.pointer (some ⟨b, 0, none⟩)) (.agg l.toArray) = some (h1.set b (.own 0 l 32)) := fun b l hl ho => z6q (by omega) (by simp [hl]) ho (by simp) (by omega)
  have ld : ∀ (G : Heap) (b : Nat) (l : List Value), l.length = 32 → hcells (G.set b (.own 0 l 32)) ⟨b, 0, none⟩ 32 = some l := fun G b l hl => z6o (by simp [hl])
  have keep : ∀ G, h1.le G → RingR h0 G (.pointer (some ⟨b, 0, none⟩)) L := fun G x => ⟨b, r, es, c, rfl, hb, hr, ne, x _ _ qb, x _ _ qr, er⟩
  by_cases g : 0 ≤ k ∧ k ≤ 1099511627776
  · unfold putF
    rw [if_pos g]
    cases hg : getK L k with
    | none =>
      have fv := find_none 0 er hg
      simp -implicitDefEqProofs only [zB1,zB2,zB3,zB4,zB5,zB6,zB7,zB8,zB9,zB10,zB11,y00,y01,y02,y03,y04,y05,y06,y07,y08,y09,y0a,y0b,y0c,y0d,y0e,y0f,y0g,y0h,y0i,y0j,y0k,y0l,y0m,y0n,y0o,y0p,y0q,y0r,y0s,y0t,y0u,y0v,y0w,y0x,y0y,y0z,y10,y11,y12,y13,y14,y15,y16,y17,y18,y19,y1a,y1b,y1c,y1d,y1e,y1f,y1g,y1h,y1i,y1j,y1k,y1l,y1m,y1n,y1o,y1p,y1q,y1r,retO,retL,retV,z69,allV,allP,z6a,z6d,z6e,z6k,z6l,z6m,binV,eqV,unV,oOpt,reduceIte,reduceCtorEq,Nat.reduceEqDiff,Nat.reduceAdd,Nat.reduceMul,Nat.reduceLT,Nat.reduceSub,Int.reduceLT,Int.reduceLE,Int.reduceEq,Int.reduceNe,Int.reduceSub,Int.reduceAdd,Int.reduceMul,Int.reduceBEq,Int.reduceBNe,Int.reduceGT,Int.reduceGE,Nat.reduceGT,Int.reduceToNat,Int.reduceNeg,Nat.reduceLeDiff,Nat.reduceBEq,Nat.reduceBneDiff,Value.cells, g]
      unfold ir_epoch_Ring_Put_13
      simp -implicitDefEqProofs only [zB1,zB2,zB3,zB4,zB5,zB6,zB7,zB8,zB9,zB10,zB11,y00,y01,y02,y03,y04,y05,y06,y07,y08,y09,y0a,y0b,y0c,y0d,y0e,y0f,y0g,y0h,y0i,y0j,y0k,y0l,y0m,y0n,y0o,y0p,y0q,y0r,y0s,y0t,y0u,y0v,y0w,y0x,y0y,y0z,y10,y11,y12,y13,y14,y15,y16,y17,y18,y19,y1a,y1b,y1c,y1d,y1e,y1f,y1g,y1h,y1i,y1j,y1k,y1l,y1m,y1n,y1o,y1p,y1q,y1r,retO,retL,retV,z69,allV,allP,z6a,z6d,z6e,z6k,z6l,z6m,binV,eqV,unV,oOpt,reduceIte,reduceCtorEq,Nat.reduceEqDiff,Nat.reduceAdd,Nat.reduceMul,Nat.reduceLT,Nat.reduceSub,Int.reduceLT,Int.reduceLE,Int.reduceEq,Int.reduceNe,Int.reduceSub,Int.reduceAdd,Int.reduceMul,Int.reduceBEq,Int.reduceBNe,Int.reduceGT,Int.reduceGE,Nat.reduceGT,Int.reduceToNat,Int.reduceNeg,Nat.reduceLeDiff,Nat.reduceBEq,Nat.reduceBneDiff,Value.cells, cb1, ma1, fv, kfit_int]
      intro b7 hb7
      rw [zl]
      have zo : (List.replicate 32 (Value.int .u8 0)).all one = true := by
        have zr : List.replicate 32 (Value.int .u8 0) = (List.replicate 32 (0 : UInt8)).map u8V := by rw [List.map_replicate]; rfl
        rw [zr]; exact one_u8 _
      have s1 := stA b7 _ zl zo
      simp -implicitDefEqProofs only [zB1,zB2,zB3,zB4,zB5,zB6,zB7,zB8,zB9,zB10,zB11,y00,y01,y02,y03,y04,y05,y06,y07,y08,y09,y0a,y0b,y0c,y0d,y0e,y0f,y0g,y0h,y0i,y0j,y0k,y0l,y0m,y0n,y0o,y0p,y0q,y0r,y0s,y0t,y0u,y0v,y0w,y0x,y0y,y0z,y10,y11,y12,y13,y14,y15,y16,y17,y18,y19,y1a,y1b,y1c,y1d,y1e,y1f,y1g,y1h,y1i,y1j,y1k,y1l,y1m,y1n,y1o,y1p,y1q,y1r,retO,retL,retV,z69,allV,allP,z6a,z6d,z6e,z6k,z6l,z6m,binV,eqV,unV,oOpt,reduceIte,reduceCtorEq,Nat.reduceEqDiff,Nat.reduceAdd,Nat.reduceMul,Nat.reduceLT,Nat.reduceSub,Int.reduceLT,Int.reduceLE,Int.reduceEq,Int.reduceNe,Int.reduceSub,Int.reduceAdd,Int.reduceMul,Int.reduceBEq,Int.reduceBNe,Int.reduceGT,Int.reduceGE,Nat.reduceGT,Int.reduceToNat,Int.reduceNeg,Nat.reduceLeDiff,Nat.reduceBEq,Nat.reduceBneDiff,Value.cells, s1]
      have le7 := Heap.le_set (Heap.le_refl h1) hb7 (.own 0 (List.replicate 32 (.int .u8 0)) 32)
      generalize (h1.set b7 (.own 0 (List.replicate 32 (.int .u8 0)) 32)) = h2 at le7 ⊢
      have cb2 := cb h2 le7
      have ma2 := ma h2 le7
      have c52 := c5 h2 le7
      unfold ir_epoch_Ring_Put_25
      have el : es.size = L.length := by
        have := er.len
        simpa using this
      by_cases g5 : 500 ≤ L.length
      · have g5' : (500 : Int) ≤ (es.size : Int) := by rw [el]; omega
        simp -implicitDefEqProofs only [zB1,zB2,zB3,zB4,zB5,zB6,zB7,zB8,zB9,zB10,zB11,y00,y01,y02,y03,y04,y05,y06,y07,y08,y09,y0a,y0b,y0c,y0d,y0e,y0f,y0g,y0h,y0i,y0j,y0k,y0l,y0m,y0n,y0o,y0p,y0q,y0r,y0s,y0t,y0u,y0v,y0w,y0x,y0y,y0z,y10,y11,y12,y13,y14,y15,y16,y17,y18,y19,y1a,y1b,y1c,y1d,y1e,y1f,y1g,y1h,y1i,y1j,y1k,y1l,y1m,y1n,y1o,y1p,y1q,y1r,retO,retL,retV,z69,allV,allP,z6a,z6d,z6e,z6k,z6l,z6m,binV,eqV,unV,oOpt,reduceIte,reduceCtorEq,Nat.reduceEqDiff,Nat.reduceAdd,Nat.reduceMul,Nat.reduceLT,Nat.reduceSub,Int.reduceLT,Int.reduceLE,Int.reduceEq,Int.reduceNe,Int.reduceSub,Int.reduceAdd,Int.reduceMul,Int.reduceBEq,Int.reduceBNe,Int.reduceGT,Int.reduceGE,Nat.reduceGT,Int.reduceToNat,Int.reduceNeg,Nat.reduceLeDiff,Nat.reduceBEq,Nat.reduceBneDiff,Value.cells, cb2, ma2, g5', g5]
        exact ⟨Heap.le_trans leH le7, keep h2 le7⟩
      · have g5' : ¬ (500 : Int) ≤ (es.size : Int) := by rw [el]; omega
        have mu : mupdV h2 .int (.map (some r)) (.int .i64 k) (.agg (w.map u8V).toArray) = some (h2.set r (.obj (.map (es.push { key := .int .i64 k, val := .agg (w.map u8V).toArray, born := c }) (c + 1)))) := by
          simp only [mupdV, le7 _ _ qr, kfit_int, fv]
        simp -implicitDefEqProofs only [zB1,zB2,zB3,zB4,zB5,zB6,zB7,zB8,zB9,zB10,zB11,y00,y01,y02,y03,y04,y05,y06,y07,y08,y09,y0a,y0b,y0c,y0d,y0e,y0f,y0g,y0h,y0i,y0j,y0k,y0l,y0m,y0n,y0o,y0p,y0q,y0r,y0s,y0t,y0u,y0v,y0w,y0x,y0y,y0z,y10,y11,y12,y13,y14,y15,y16,y17,y18,y19,y1a,y1b,y1c,y1d,y1e,y1f,y1g,y1h,y1i,y1j,y1k,y1l,y1m,y1n,y1o,y1p,y1q,y1r,retO,retL,retV,z69,allV,allP,z6a,z6d,z6e,z6k,z6l,z6m,binV,eqV,unV,oOpt,reduceIte,reduceCtorEq,Nat.reduceEqDiff,Nat.reduceAdd,Nat.reduceMul,Nat.reduceLT,Nat.reduceSub,Int.reduceLT,Int.reduceLE,Int.reduceEq,Int.reduceNe,Int.reduceSub,Int.reduceAdd,Int.reduceMul,Int.reduceBEq,Int.reduceBNe,Int.reduceGT,Int.reduceGE,Nat.reduceGT,Int.reduceToNat,Int.reduceNeg,Nat.reduceLeDiff,Nat.reduceBEq,Nat.reduceBneDiff,Value.cells, cb2, ma2, g5', g5, c52, mu]
        refine ⟨Heap.le_set (Heap.le_trans leH le7) hr _, b, r, _, _, rfl, hb, hr, ne, by rw [Heap.set_ne ne]; exact le7 _ _ qb, Heap.set_self _ _ _, ?_⟩
        unfold EntR at er ⊢
        rw [Array.toList_push, List.map_append, List.map_append, er]
        rfl
    | some old =>
      obtain ⟨j, fv⟩ := find_some 0 er hg
      have ho : old.length = 32 := by
        unfold getK at hg
        obtain ⟨x, hx, rfl⟩ := Option.map_eq_some_iff.1 hg
        exact hL x (List.mem_of_find?_eq_some hx)
      have ol : (old.map u8V).length = 32 := by simp [ho]
      simp -implicitDefEqProofs only [zB1,zB2,zB3,zB4,zB5,zB6,zB7,zB8,zB9,zB10,zB11,y00,y01,y02,y03,y04,y05,y06,y07,y08,y09,y0a,y0b,y0c,y0d,y0e,y0f,y0g,y0h,y0i,y0j,y0k,y0l,y0m,y0n,y0o,y0p,y0q,y0r,y0s,y0t,y0u,y0v,y0w,y0x,y0y,y0z,y10,y11,y12,y13,y14,y15,y16,y17,y18,y19,y1a,y1b,y1c,y1d,y1e,y1f,y1g,y1h,y1i,y1j,y1k,y1l,y1m,y1n,y1o,y1p,y1q,y1r,retO,retL,retV,z69,allV,allP,z6a,z6d,z6e,z6k,z6l,z6m,binV,eqV,unV,oOpt,reduceIte,reduceCtorEq,Nat.reduceEqDiff,Nat.reduceAdd,Nat.reduceMul,Nat.reduceLT,Nat.reduceSub,Int.reduceLT,Int.reduceLE,Int.reduceEq,Int.reduceNe,Int.reduceSub,Int.reduceAdd,Int.reduceMul,Int.reduceBEq,Int.reduceBNe,Int.reduceGT,Int.reduceGE,Nat.reduceGT,Int.reduceToNat,Int.reduceNeg,Nat.reduceLeDiff,Nat.reduceBEq,Nat.reduceBneDiff,Value.cells, g]
      unfold ir_epoch_Ring_Put_13
      simp -implicitDefEqProofs only [zB1,zB2,zB3,zB4,zB5,zB6,zB7,zB8,zB9,zB10,zB11,y00,y01,y02,y03,y04,y05,y06,y07,y08,y09,y0a,y0b,y0c,y0d,y0e,y0f,y0g,y0h,y0i,y0j,y0k,y0l,y0m,y0n,y0o,y0p,y0q,y0r,y0s,y0t,y0u,y0v,y0w,y0x,y0y,y0z,y10,y11,y12,y13,y14,y15,y16,y17,y18,y19,y1a,y1b,y1c,y1d,y1e,y1f,y1g,y1h,y1i,y1j,y1k,y1l,y1m,y1n,y1o,y1p,y1q,y1r,retO,retL,retV,z69,allV,allP,z6a,z6d,z6e,z6k,z6l,z6m,binV,eqV,unV,oOpt,reduceIte,reduceCtorEq,Nat.reduceEqDiff,Nat.reduceAdd,Nat.reduceMul,Nat.reduceLT,Nat.reduceSub,Int.reduceLT,Int.reduceLE,Int.reduceEq,Int.reduceNe,Int.reduceSub,Int.reduceAdd,Int.reduceMul,Int.reduceBEq,Int.reduceBNe,Int.reduceGT,Int.reduceGE,Nat.reduceGT,Int.reduceToNat,Int.reduceNeg,Nat.reduceLeDiff,Nat.reduceBEq,Nat.reduceBneDiff,Value.cells, cb1, ma1, fv, kfit_int]
      intro b7 hb7
      rw [zl]
      have s1 := stA b7 _ ol (one_u8 old)
      simp -implicitDefEqProofs only [zB1,zB2,zB3,zB4,zB5,zB6,zB7,zB8,zB9,zB10,zB11,y00,y01,y02,y03,y04,y05,y06,y07,y08,y09,y0a,y0b,y0c,y0d,y0e,y0f,y0g,y0h,y0i,y0j,y0k,y0l,y0m,y0n,y0o,y0p,y0q,y0r,y0s,y0t,y0u,y0v,y0w,y0x,y0y,y0z,y10,y11,y12,y13,y14,y15,y16,y17,y18,y19,y1a,y1b,y1c,y1d,y1e,y1f,y1g,y1h,y1i,y1j,y1k,y1l,y1m,y1n,y1o,y1p,y1q,y1r,retO,retL,retV,z69,allV,allP,z6a,z6d,z6e,z6k,z6l,z6m,binV,eqV,unV,oOpt,reduceIte,reduceCtorEq,Nat.reduceEqDiff,Nat.reduceAdd,Nat.reduceMul,Nat.reduceLT,Nat.reduceSub,Int.reduceLT,Int.reduceLE,Int.reduceEq,Int.reduceNe,Int.reduceSub,Int.reduceAdd,Int.reduceMul,Int.reduceBEq,Int.reduceBNe,Int.reduceGT,Int.reduceGE,Nat.reduceGT,Int.reduceToNat,Int.reduceNeg,Nat.reduceLeDiff,Nat.reduceBEq,Nat.reduceBneDiff,Value.cells, s1]
      have le7 := Heap.le_set (Heap.le_refl h1) hb7 (.own 0 (old.map u8V) 32)
      have l1 := ld h1 b7 _ ol
      generalize (h1.set b7 (.own 0 (old.map u8V) 32)) = h2 at le7 l1 ⊢
      have c52 := c5 h2 le7
      have k1 := leaves_u8 old
      rw [ho] at k1
      have k2 := leaves_u8 w
      rw [hw] at k2
      have k3 := leavesEq_dec old w (by rw [ho, hw])
      by_cases e : old = w
      · subst e
        have k3 : leavesEq (old.map u8V) (old.map u8V) = true := leavesEq_u8 _
        simp -implicitDefEqProofs only [zB1,zB2,zB3,zB4,zB5,zB6,zB7,zB8,zB9,zB10,zB11,y00,y01,y02,y03,y04,y05,y06,y07,y08,y09,y0a,y0b,y0c,y0d,y0e,y0f,y0g,y0h,y0i,y0j,y0k,y0l,y0m,y0n,y0o,y0p,y0q,y0r,y0s,y0t,y0u,y0v,y0w,y0x,y0y,y0z,y10,y11,y12,y13,y14,y15,y16,y17,y18,y19,y1a,y1b,y1c,y1d,y1e,y1f,y1g,y1h,y1i,y1j,y1k,y1l,y1m,y1n,y1o,y1p,y1q,y1r,retO,retL,retV,z69,allV,allP,z6a,z6d,z6e,z6k,z6l,z6m,binV,eqV,unV,oOpt,reduceIte,reduceCtorEq,Nat.reduceEqDiff,Nat.reduceAdd,Nat.reduceMul,Nat.reduceLT,Nat.reduceSub,Int.reduceLT,Int.reduceLE,Int.reduceEq,Int.reduceNe,Int.reduceSub,Int.reduceAdd,Int.reduceMul,Int.reduceBEq,Int.reduceBNe,Int.reduceGT,Int.reduceGE,Nat.reduceGT,Int.reduceToNat,Int.reduceNeg,Nat.reduceLeDiff,Nat.reduceBEq,Nat.reduceBneDiff,Value.cells, l1, c52, k1, k2, k3]
        exact ⟨Heap.le_trans leH le7, keep h2 le7⟩
      · have k3 : leavesEq (old.map u8V) (w.map u8V) = false := by rw [k3]; simp [e]
        simp -implicitDefEqProofs only [zB1,zB2,zB3,zB4,zB5,zB6,zB7,zB8,zB9,zB10,zB11,y00,y01,y02,y03,y04,y05,y06,y07,y08,y09,y0a,y0b,y0c,y0d,y0e,y0f,y0g,y0h,y0i,y0j,y0k,y0l,y0m,y0n,y0o,y0p,y0q,y0r,y0s,y0t,y0u,y0v,y0w,y0x,y0y,y0z,y10,y11,y12,y13,y14,y15,y16,y17,y18,y19,y1a,y1b,y1c,y1d,y1e,y1f,y1g,y1h,y1i,y1j,y1k,y1l,y1m,y1n,y1o,y1p,y1q,y1r,retO,retL,retV,z69,allV,allP,z6a,z6d,z6e,z6k,z6l,z6m,binV,eqV,unV,oOpt,reduceIte,reduceCtorEq,Nat.reduceEqDiff,Nat.reduceAdd,Nat.reduceMul,Nat.reduceLT,Nat.reduceSub,Int.reduceLT,Int.reduceLE,Int.reduceEq,Int.reduceNe,Int.reduceSub,Int.reduceAdd,Int.reduceMul,Int.reduceBEq,Int.reduceBNe,Int.reduceGT,Int.reduceGE,Nat.reduceGT,Int.reduceToNat,Int.reduceNeg,Nat.reduceLeDiff,Nat.reduceBEq,Nat.reduceBneDiff,Value.cells, l1, c52, k1, k2, k3, e]
        exact ⟨Heap.le_trans leH le7, keep h2 le7⟩
  · unfold putF
    rw [if_neg g]
    simp -implicitDefEqProofs only [zB1,zB2,zB3,zB4,zB5,zB6,zB7,zB8,zB9,zB10,zB11,y00,y01,y02,y03,y04,y05,y06,y07,y08,y09,y0a,y0b,y0c,y0d,y0e,y0f,y0g,y0h,y0i,y0j,y0k,y0l,y0m,y0n,y0o,y0p,y0q,y0r,y0s,y0t,y0u,y0v,y0w,y0x,y0y,y0z,y10,y11,y12,y13,y14,y15,y16,y17,y18,y19,y1a,y1b,y1c,y1d,y1e,y1f,y1g,y1h,y1i,y1j,y1k,y1l,y1m,y1n,y1o,y1p,y1q,y1r,retO,retL,retV,z69,allV,allP,z6a,z6d,z6e,z6k,z6l,z6m,binV,eqV,unV,oOpt,reduceIte,reduceCtorEq,Nat.reduceEqDiff,Nat.reduceAdd,Nat.reduceMul,Nat.reduceLT,Nat.reduceSub,Int.reduceLT,Int.reduceLE,Int.reduceEq,Int.reduceNe,Int.reduceSub,Int.reduceAdd,Int.reduceMul,Int.reduceBEq,Int.reduceBNe,Int.reduceGT,Int.reduceGE,Nat.reduceGT,Int.reduceToNat,Int.reduceNeg,Nat.reduceLeDiff,Nat.reduceBEq,Nat.reduceBneDiff,Value.cells, g]
    exact ⟨leH, keep h1 (Heap.le_refl _)⟩

/-- An epoch's key. -/
def ekeyF (root : List UInt8) (n : Int) : List UInt8 := expandF root (infoF [[101, 112, 111, 99, 104], bigF (BitVec.ofInt 64 n) 8]) 32
theorem ekeyF_len (root : List UInt8) (n : Int) : (ekeyF root n).length = 32 := expandF_len _ _ _
theorem epoch_Key_c (E : EnvT tab) (h : Heap) (root : List UInt8) (hw : root.length = 32) (n : Int) :
    ACallN E.toEnv n_epoch_Key [.agg (root.map u8V).toArray, .int .i64 n] h fun r h' => h.le h' ∧ r = .agg ((ekeyF root n).map u8V).toArray := by
  refine acall h_epoch_Key ir_epoch_Key rfl rfl (wpA_sound ?_)
  unfold ir_epoch_Key
  have wl : (root.map u8V).length = 32 := by simp [hw]
  simp -implicitDefEqProofs only [zB1,zB2,zB3,zB4,zB5,zB6,zB7,zB8,zB9,zB10,zB11,y00,y01,y02,y03,y04,y05,y06,y07,y08,y09,y0a,y0b,y0c,y0d,y0e,y0f,y0g,y0h,y0i,y0j,y0k,y0l,y0m,y0n,y0o,y0p,y0q,y0r,y0s,y0t,y0u,y0v,y0w,y0x,y0y,y0z,y10,y11,y12,y13,y14,y15,y16,y17,y18,y19,y1a,y1b,y1c,y1d,y1e,y1f,y1g,y1h,y1i,y1j,y1k,y1l,y1m,y1n,y1o,y1p,y1q,y1r,retO,retL,retV,z69,allV,allP,z6a,z6d,z6e,z6k,z6l,z6m,binV,eqV,unV,oOpt,reduceIte,reduceCtorEq,Nat.reduceEqDiff,Nat.reduceAdd,Nat.reduceMul,Nat.reduceLT,Nat.reduceSub,Int.reduceLT,Int.reduceLE,Int.reduceEq,Int.reduceNe,Int.reduceSub,Int.reduceAdd,Int.reduceMul,Int.reduceBEq,Int.reduceBNe,Int.reduceGT,Int.reduceGE,Nat.reduceGT,Int.reduceToNat,Int.reduceNeg,Nat.reduceLeDiff,Nat.reduceBEq,Nat.reduceBneDiff,Value.cells]
  intro b2 hb2
  try simp -implicitDefEqProofs only [zB1,zB2,zB3,zB4,zB5,zB6,zB7,zB8,zB9,zB10,zB11,y00,y01,y02,y03,y04,y05,y06,y07,y08,y09,y0a,y0b,y0c,y0d,y0e,y0f,y0g,y0h,y0i,y0j,y0k,y0l,y0m,y0n,y0o,y0p,y0q,y0r,y0s,y0t,y0u,y0v,y0w,y0x,y0y,y0z,y10,y11,y12,y13,y14,y15,y16,y17,y18,y19,y1a,y1b,y1c,y1d,y1e,y1f,y1g,y1h,y1i,y1j,y1k,y1l,y1m,y1n,y1o,y1p,y1q,y1r,retO,retL,retV,z69,allV,allP,z6a,z6d,z6e,z6k,z6l,z6m,binV,eqV,unV,oOpt,reduceIte,reduceCtorEq,Nat.reduceEqDiff,Nat.reduceAdd,Nat.reduceMul,Nat.reduceLT,Nat.reduceSub,Int.reduceLT,Int.reduceLE,Int.reduceEq,Int.reduceNe,Int.reduceSub,Int.reduceAdd,Int.reduceMul,Int.reduceBEq,Int.reduceBNe,Int.reduceGT,Int.reduceGE,Nat.reduceGT,Int.reduceToNat,Int.reduceNeg,Nat.reduceLeDiff,Nat.reduceBEq,Nat.reduceBneDiff,Value.cells, wl]
  have le2 : h.le (h.set b2 (.own 0 (root.map u8V) 32)) := Heap.le_set (Heap.le_refl _) hb2 _
  have q2 : (h.set b2 (.own 0 (root.map u8V) 32)) b2 = some (.own 0 (root.map u8V) 32) := Heap.set_self _ _ _
  generalize (h.set b2 (.own 0 (root.map u8V) 32)) = h1 at le2 q2 ⊢
  intro b4 hb4
  try simp -implicitDefEqProofs only [zB1,zB2,zB3,zB4,zB5,zB6,zB7,zB8,zB9,zB10,zB11,y00,y01,y02,y03,y04,y05,y06,y07,y08,y09,y0a,y0b,y0c,y0d,y0e,y0f,y0g,y0h,y0i,y0j,y0k,y0l,y0m,y0n,y0o,y0p,y0q,y0r,y0s,y0t,y0u,y0v,y0w,y0x,y0y,y0z,y10,y11,y12,y13,y14,y15,y16,y17,y18,y19,y1a,y1b,y1c,y1d,y1e,y1f,y1g,y1h,y1i,y1j,y1k,y1l,y1m,y1n,y1o,y1p,y1q,y1r,retO,retL,retV,z69,allV,allP,z6a,z6d,z6e,z6k,z6l,z6m,binV,eqV,unV,oOpt,reduceIte,reduceCtorEq,Nat.reduceEqDiff,Nat.reduceAdd,Nat.reduceMul,Nat.reduceLT,Nat.reduceSub,Int.reduceLT,Int.reduceLE,Int.reduceEq,Int.reduceNe,Int.reduceSub,Int.reduceAdd,Int.reduceMul,Int.reduceBEq,Int.reduceBNe,Int.reduceGT,Int.reduceGE,Nat.reduceGT,Int.reduceToNat,Int.reduceNeg,Nat.reduceLeDiff,Nat.reduceBEq,Nat.reduceBneDiff,Value.cells, List.length_replicate]
  have hb4h := Heap.none_of_le le2 hb4
  have le4 : h1.le (h1.set b4 (.own 0 (List.replicate 32 (.int .u8 0)) 32)) := Heap.le_set (Heap.le_refl _) hb4 _
  have q4 : (h1.set b4 (.own 0 (List.replicate 32 (.int .u8 0)) 32)) b4 = some (.own 0 (List.replicate 32 (.int .u8 0)) 32) := Heap.set_self _ _ _
  have q2 := le4 _ _ q2
  have le04 := Heap.le_trans le2 le4
  generalize (h1.set b4 (.own 0 (List.replicate 32 (.int .u8 0)) 32)) = h2 at le04 q4 q2 ⊢
  have wu := wrap_u64 n
  have c2 : ∀ G, h2.le G → hcells G ⟨b2, 0, none⟩ 32 = some (root.map u8V) := fun G x => by rw [hcells_at (x _ _ q2) (by simp [hw])]; simp [List.take_of_length_le, hw]
  simp -implicitDefEqProofs only [zB1,zB2,zB3,zB4,zB5,zB6,zB7,zB8,zB9,zB10,zB11,y00,y01,y02,y03,y04,y05,y06,y07,y08,y09,y0a,y0b,y0c,y0d,y0e,y0f,y0g,y0h,y0i,y0j,y0k,y0l,y0m,y0n,y0o,y0p,y0q,y0r,y0s,y0t,y0u,y0v,y0w,y0x,y0y,y0z,y10,y11,y12,y13,y14,y15,y16,y17,y18,y19,y1a,y1b,y1c,y1d,y1e,y1f,y1g,y1h,y1i,y1j,y1k,y1l,y1m,y1n,y1o,y1p,y1q,y1r,retO,retL,retV,z69,allV,allP,z6a,z6d,z6e,z6k,z6l,z6m,binV,eqV,unV,oOpt,reduceIte,reduceCtorEq,Nat.reduceEqDiff,Nat.reduceAdd,Nat.reduceMul,Nat.reduceLT,Nat.reduceSub,Int.reduceLT,Int.reduceLE,Int.reduceEq,Int.reduceNe,Int.reduceSub,Int.reduceAdd,Int.reduceMul,Int.reduceBEq,Int.reduceBNe,Int.reduceGT,Int.reduceGE,Nat.reduceGT,Int.reduceToNat,Int.reduceNeg,Nat.reduceLeDiff,Nat.reduceBEq,Nat.reduceBneDiff,Value.cells, wu]
  refine (octet_Big_c E h2 [] (by simp) (.inl ⟨rfl, rfl, rfl⟩) (BitVec.ofInt 64 n) 8 (by omega)).mono ?_
  rintro r h3 ⟨le3, ow3⟩
  rw [List.nil_append] at ow3
  have c22 := c2 h2 (Heap.le_refl _)
  have c23 := c2 h3 le3
  have bl := bigF_len (BitVec.ofInt 64 n) 8
  have f1 := strOfV_sl ow3.sl
  obtain ⟨b8, c8, rfl⟩ := Sl.shape ow3.sl
  simp -implicitDefEqProofs only [zB1,zB2,zB3,zB4,zB5,zB6,zB7,zB8,zB9,zB10,zB11,y00,y01,y02,y03,y04,y05,y06,y07,y08,y09,y0a,y0b,y0c,y0d,y0e,y0f,y0g,y0h,y0i,y0j,y0k,y0l,y0m,y0n,y0o,y0p,y0q,y0r,y0s,y0t,y0u,y0v,y0w,y0x,y0y,y0z,y10,y11,y12,y13,y14,y15,y16,y17,y18,y19,y1a,y1b,y1c,y1d,y1e,y1f,y1g,y1h,y1i,y1j,y1k,y1l,y1m,y1n,y1o,y1p,y1q,y1r,retO,retL,retV,z69,allV,allP,z6a,z6d,z6e,z6k,z6l,z6m,binV,eqV,unV,oOpt,reduceIte,reduceCtorEq,Nat.reduceEqDiff,Nat.reduceAdd,Nat.reduceMul,Nat.reduceLT,Nat.reduceSub,Int.reduceLT,Int.reduceLE,Int.reduceEq,Int.reduceNe,Int.reduceSub,Int.reduceAdd,Int.reduceMul,Int.reduceBEq,Int.reduceBNe,Int.reduceGT,Int.reduceGE,Nat.reduceGT,Int.reduceToNat,Int.reduceNeg,Nat.reduceLeDiff,Nat.reduceBEq,Nat.reduceBneDiff,Value.cells, c22, c23, implies_true, List.mem_cons, List.not_mem_nil, List.mem_singleton, or_false, forall_eq, forall_eq_or_imp, and_self, f1, List.length_replicate, List.drop_replicate, List.replicate_zero]
  intro b10 hb10
  try simp -implicitDefEqProofs only [zB1,zB2,zB3,zB4,zB5,zB6,zB7,zB8,zB9,zB10,zB11,y00,y01,y02,y03,y04,y05,y06,y07,y08,y09,y0a,y0b,y0c,y0d,y0e,y0f,y0g,y0h,y0i,y0j,y0k,y0l,y0m,y0n,y0o,y0p,y0q,y0r,y0s,y0t,y0u,y0v,y0w,y0x,y0y,y0z,y10,y11,y12,y13,y14,y15,y16,y17,y18,y19,y1a,y1b,y1c,y1d,y1e,y1f,y1g,y1h,y1i,y1j,y1k,y1l,y1m,y1n,y1o,y1p,y1q,y1r,retO,retL,retV,z69,allV,allP,z6a,z6d,z6e,z6k,z6l,z6m,binV,eqV,unV,oOpt,reduceIte,reduceCtorEq,Nat.reduceEqDiff,Nat.reduceAdd,Nat.reduceMul,Nat.reduceLT,Nat.reduceSub,Int.reduceLT,Int.reduceLE,Int.reduceEq,Int.reduceNe,Int.reduceSub,Int.reduceAdd,Int.reduceMul,Int.reduceBEq,Int.reduceBNe,Int.reduceGT,Int.reduceGE,Nat.reduceGT,Int.reduceToNat,Int.reduceNeg,Nat.reduceLeDiff,Nat.reduceBEq,Nat.reduceBneDiff,Value.cells]
  have s10 : Sl (h3.set b10 (.own 0 [strV [101, 112, 111, 99, 104], strV (bigF (BitVec.ofInt 64 n) 8)] 2)) 1 (.slice (some ⟨b10, 0, none⟩) 2 2) 2 [strV [101, 112, 111, 99, 104], strV (bigF (BitVec.ofInt 64 n) 8)] := Sl.lit (n := 2) rfl
  have le10 := Heap.le_set (Heap.le_refl h3) hb10 (.own 0 [strV [101, 112, 111, 99, 104], strV (bigF (BitVec.ofInt 64 n) 8)] 2)
  refine (kdf_Key_c E _ root [[101, 112, 111, 99, 104], bigF (BitVec.ofInt 64 n) 8] hw (by simp) (by simp [bl]) s10).mono ?_
  rintro r h11 ⟨le11, rfl⟩
  have le211 := Heap.le_trans le3 (Heap.le_trans le10 le11)
  have el := ekeyF_len root n
  rw [show expandF root (infoF [[101, 112, 111, 99, 104], bigF (BitVec.ofInt 64 n) 8]) 32 = ekeyF root n from rfl]
  generalize ekeyF root n = X at *
  have st : storeV h11 32 (.pointer (some ⟨b4, 0, none⟩)) (.agg (X.map u8V).toArray) = some (h11.set b4 (.own 0 (X.map u8V) 32)) := storeV_agg_at (le211 _ _ q4) (by omega) (by simp [el]) (one_u8 _) (by simp) (by omega)
  have hl2 : hcells (h11.set b4 (.own 0 (X.map u8V) 32)) ⟨b4, 0, none⟩ 32 = some (X.map u8V) := z6o (by simp [el])
  simp -implicitDefEqProofs only [zB1,zB2,zB3,zB4,zB5,zB6,zB7,zB8,zB9,zB10,zB11,y00,y01,y02,y03,y04,y05,y06,y07,y08,y09,y0a,y0b,y0c,y0d,y0e,y0f,y0g,y0h,y0i,y0j,y0k,y0l,y0m,y0n,y0o,y0p,y0q,y0r,y0s,y0t,y0u,y0v,y0w,y0x,y0y,y0z,y10,y11,y12,y13,y14,y15,y16,y17,y18,y19,y1a,y1b,y1c,y1d,y1e,y1f,y1g,y1h,y1i,y1j,y1k,y1l,y1m,y1n,y1o,y1p,y1q,y1r,retO,retL,retV,z69,allV,allP,z6a,z6d,z6e,z6k,z6l,z6m,binV,eqV,unV,oOpt,reduceIte,reduceCtorEq,Nat.reduceEqDiff,Nat.reduceAdd,Nat.reduceMul,Nat.reduceLT,Nat.reduceSub,Int.reduceLT,Int.reduceLE,Int.reduceEq,Int.reduceNe,Int.reduceSub,Int.reduceAdd,Int.reduceMul,Int.reduceBEq,Int.reduceBNe,Int.reduceGT,Int.reduceGE,Nat.reduceGT,Int.reduceToNat,Int.reduceNeg,Nat.reduceLeDiff,Nat.reduceBEq,Nat.reduceBneDiff,Value.cells, st, hl2]
  exact Heap.le_set (Heap.le_trans le04 le211) hb4h _
end Go.Bb
/- The law EpochWraps. -/
namespace Go.Bb
set_option linter.unusedSimpArgs false
set_option linter.unusedVariables false
set_option maxRecDepth 20000
set_option maxHeartbeats 2000000

def wordB (x : UInt8) : List UInt8 := x :: List.replicate 31 0
theorem wordB_len (x : UInt8) : (wordB x).length = 32 := rfl

theorem law22_awake_c (E : EnvT tab) (h : Heap) : ACallN E.toEnv n_bandboxlaw22_awake [] h fun v h' => v = .bool true ∧ h.le h' := by
  refine acall h_bandboxlaw22_awake ir_bandboxlaw22_awake rfl rfl (wpA_sound ?_)
  unfold ir_bandboxlaw22_awake
  have r1 : Value.int .u8 1 :: List.drop 1 (List.replicate 32 (Value.int .u8 0)) = (wordB 1).map u8V := rfl
  have r2 : Value.int .u8 2 :: List.drop 1 (List.replicate 32 (Value.int .u8 0)) = (wordB 2).map u8V := rfl
  simp -implicitDefEqProofs only [zB1,zB2,zB3,zB4,zB5,zB6,zB7,zB8,zB9,zB10,zB11,y00,y01,y02,y03,y04,y05,y06,y07,y08,y09,y0a,y0b,y0c,y0d,y0e,y0f,y0g,y0h,y0i,y0j,y0k,y0l,y0m,y0n,y0o,y0p,y0q,y0r,y0s,y0t,y0u,y0v,y0w,y0x,y0y,y0z,y10,y11,y12,y13,y14,y15,y16,y17,y18,y19,y1a,y1b,y1c,y1d,y1e,y1f,y1g,y1h,y1i,y1j,y1k,y1l,y1m,y1n,y1o,y1p,y1q,y1r,retO,retL,retV,z69,allV,allP,z6a,z6d,z6e,z6k,z6l,z6m,binV,eqV,unV,oOpt,reduceIte,reduceCtorEq,Nat.reduceEqDiff,Nat.reduceAdd,Nat.reduceMul,Nat.reduceLT,Nat.reduceSub,Int.reduceLT,Int.reduceLE,Int.reduceEq,Int.reduceNe,Int.reduceSub,Int.reduceAdd,Int.reduceMul,Int.reduceBEq,Int.reduceBNe,Int.reduceGT,Int.reduceGE,Nat.reduceGT,Int.reduceToNat,Int.reduceNeg,Nat.reduceLeDiff,Nat.reduceBEq,Nat.reduceBneDiff,Value.cells, List.length_replicate, r1, r2]
  refine (epoch_Wrap_c E h (wordB 1) (wordB 2) 3 4 rfl rfl (by omega) (by omega)).mono ?_
  rintro r h1 ⟨le1, r', rfl, ow1⟩
  have wl := wrapF_len (wordB 1) (wordB 2) 3 4
  have wu := unwrap_wrap (wordB 1) (wordB 2) 3 4 rfl
  generalize wrapF (wordB 1) (wordB 2) 3 4 = B at *
  obtain ⟨b1, c1, rfl⟩ := Sl.shape ow1.sl
  simp -implicitDefEqProofs only [zB1,zB2,zB3,zB4,zB5,zB6,zB7,zB8,zB9,zB10,zB11,y00,y01,y02,y03,y04,y05,y06,y07,y08,y09,y0a,y0b,y0c,y0d,y0e,y0f,y0g,y0h,y0i,y0j,y0k,y0l,y0m,y0n,y0o,y0p,y0q,y0r,y0s,y0t,y0u,y0v,y0w,y0x,y0y,y0z,y10,y11,y12,y13,y14,y15,y16,y17,y18,y19,y1a,y1b,y1c,y1d,y1e,y1f,y1g,y1h,y1i,y1j,y1k,y1l,y1m,y1n,y1o,y1p,y1q,y1r,retO,retL,retV,z69,allV,allP,z6a,z6d,z6e,z6k,z6l,z6m,binV,eqV,unV,oOpt,reduceIte,reduceCtorEq,Nat.reduceEqDiff,Nat.reduceAdd,Nat.reduceMul,Nat.reduceLT,Nat.reduceSub,Int.reduceLT,Int.reduceLE,Int.reduceEq,Int.reduceNe,Int.reduceSub,Int.reduceAdd,Int.reduceMul,Int.reduceBEq,Int.reduceBNe,Int.reduceGT,Int.reduceGE,Nat.reduceGT,Int.reduceToNat,Int.reduceNeg,Nat.reduceLeDiff,Nat.reduceBEq,Nat.reduceBneDiff,Value.cells, List.length_replicate, r1, r2]
  refine (epoch_Unwrap_c E h1 B (wordB 2) 3 4 (by rw [wl, wordB_len]; omega) ow1.sl rfl (by omega) (by omega)).mono ?_
  rintro r h2 ⟨le2, rfl⟩
  rw [wu]
  simp -implicitDefEqProofs only [zB1,zB2,zB3,zB4,zB5,zB6,zB7,zB8,zB9,zB10,zB11,y00,y01,y02,y03,y04,y05,y06,y07,y08,y09,y0a,y0b,y0c,y0d,y0e,y0f,y0g,y0h,y0i,y0j,y0k,y0l,y0m,y0n,y0o,y0p,y0q,y0r,y0s,y0t,y0u,y0v,y0w,y0x,y0y,y0z,y10,y11,y12,y13,y14,y15,y16,y17,y18,y19,y1a,y1b,y1c,y1d,y1e,y1f,y1g,y1h,y1i,y1j,y1k,y1l,y1m,y1n,y1o,y1p,y1q,y1r,retO,retL,retV,z69,allV,allP,z6a,z6d,z6e,z6k,z6l,z6m,binV,eqV,unV,oOpt,reduceIte,reduceCtorEq,Nat.reduceEqDiff,Nat.reduceAdd,Nat.reduceMul,Nat.reduceLT,Nat.reduceSub,Int.reduceLT,Int.reduceLE,Int.reduceEq,Int.reduceNe,Int.reduceSub,Int.reduceAdd,Int.reduceMul,Int.reduceBEq,Int.reduceBNe,Int.reduceGT,Int.reduceGE,Nat.reduceGT,Int.reduceToNat,Int.reduceNeg,Nat.reduceLeDiff,Nat.reduceBEq,Nat.reduceBneDiff,Value.cells]
  intro b3 hb3
  rw [List.length_replicate]
  have st : storeV (h2.set b3 (.own 0 (List.replicate 32 (.int .u8 0)) 32)) 32 (.pointer (some ⟨b3, 0, none⟩)) (.agg ((wordB 1).map u8V).toArray) = some (h2.set b3 (.own 0 ((wordB 1).map u8V) 32)) := z6q (by omega) (by simp [wordB_len]) (one_u8 _) (by simp) (by omega)
  have hl2 : hcells (h2.set b3 (.own 0 ((wordB 1).map u8V) 32)) ⟨b3, 0, none⟩ 32 = some ((wordB 1).map u8V) := z6o (by simp [wordB_len])
  simp -implicitDefEqProofs only [zB1,zB2,zB3,zB4,zB5,zB6,zB7,zB8,zB9,zB10,zB11,y00,y01,y02,y03,y04,y05,y06,y07,y08,y09,y0a,y0b,y0c,y0d,y0e,y0f,y0g,y0h,y0i,y0j,y0k,y0l,y0m,y0n,y0o,y0p,y0q,y0r,y0s,y0t,y0u,y0v,y0w,y0x,y0y,y0z,y10,y11,y12,y13,y14,y15,y16,y17,y18,y19,y1a,y1b,y1c,y1d,y1e,y1f,y1g,y1h,y1i,y1j,y1k,y1l,y1m,y1n,y1o,y1p,y1q,y1r,retO,retL,retV,z69,allV,allP,z6a,z6d,z6e,z6k,z6l,z6m,binV,eqV,unV,oOpt,reduceIte,reduceCtorEq,Nat.reduceEqDiff,Nat.reduceAdd,Nat.reduceMul,Nat.reduceLT,Nat.reduceSub,Int.reduceLT,Int.reduceLE,Int.reduceEq,Int.reduceNe,Int.reduceSub,Int.reduceAdd,Int.reduceMul,Int.reduceBEq,Int.reduceBNe,Int.reduceGT,Int.reduceGE,Nat.reduceGT,Int.reduceToNat,Int.reduceNeg,Nat.reduceLeDiff,Nat.reduceBEq,Nat.reduceBneDiff,Value.cells, st]
  unfold ir_bandboxlaw22_awake_17
  have k1 := leaves_u8 (wordB 1)
  rw [wordB_len] at k1
  have k2 := leavesEq_u8 (wordB 1)
  have bl : ((B.length : Nat) : Int) = 48 := by rw [wl, wordB_len]; rfl
  simp -implicitDefEqProofs only [zB1,zB2,zB3,zB4,zB5,zB6,zB7,zB8,zB9,zB10,zB11,y00,y01,y02,y03,y04,y05,y06,y07,y08,y09,y0a,y0b,y0c,y0d,y0e,y0f,y0g,y0h,y0i,y0j,y0k,y0l,y0m,y0n,y0o,y0p,y0q,y0r,y0s,y0t,y0u,y0v,y0w,y0x,y0y,y0z,y10,y11,y12,y13,y14,y15,y16,y17,y18,y19,y1a,y1b,y1c,y1d,y1e,y1f,y1g,y1h,y1i,y1j,y1k,y1l,y1m,y1n,y1o,y1p,y1q,y1r,retO,retL,retV,z69,allV,allP,z6a,z6d,z6e,z6k,z6l,z6m,binV,eqV,unV,oOpt,reduceIte,reduceCtorEq,Nat.reduceEqDiff,Nat.reduceAdd,Nat.reduceMul,Nat.reduceLT,Nat.reduceSub,Int.reduceLT,Int.reduceLE,Int.reduceEq,Int.reduceNe,Int.reduceSub,Int.reduceAdd,Int.reduceMul,Int.reduceBEq,Int.reduceBNe,Int.reduceGT,Int.reduceGE,Nat.reduceGT,Int.reduceToNat,Int.reduceNeg,Nat.reduceLeDiff,Nat.reduceBEq,Nat.reduceBneDiff,Value.cells, hl2, List.length_replicate, r1, k1, k2, bl]
  exact Heap.le_new (Heap.le_trans le1 le2) hb3 _

end Go.Bb
/- The law EpochKeys. -/
namespace Go.Bb
set_option linter.unusedSimpArgs false
set_option linter.unusedVariables false
set_option maxRecDepth 20000
set_option maxHeartbeats 2000000

theorem ok_i64s {W : World} {v : Value} (h : Shp.ok W (.slice 1 (.int .i64)) v) : ∃ M : List Int, Sl (roHeap W) 1 v M.length (M.map (.int .i64)) ∧ M.length ≤ 9223372036854775807 := by
  obtain ⟨M, h1, h2, h3⟩ := Shp.ok_rows (fun z => [Value.int .i64 z]) (fun _ => True) (by simp) (fun l hl => by obtain ⟨n, rfl, hn⟩ := hl; exact ⟨n, rfl, trivial⟩) h
  rw [flatMap_single] at h1
  exact ⟨M, h1, h2⟩
theorem i64_at {h : Heap} {v : Value} {M : List Int} (s : Sl h 1 v M.length (M.map (.int .i64))) (j : Nat) (hj : j < M.length) :
    ∃ b o c, v = .slice (some ⟨b, o, none⟩) M.length c ∧ ∀ H, h.le H → hcell H ⟨b, o + j, none⟩ = some (.int .i64 M[j]) := by
  obtain ⟨b, o, c, hv, hc, hcl⟩ := s.ptr (by omega) (by omega)
  refine ⟨b, o, c, hv, fun H hle => ?_⟩
  rw [Nat.mul_one] at hcl
  rw [hcell_of (hcells_le hle hcl) j hj]
  simp [hj]
theorem getK_none {L : RL} {k : Int} : getK L k = none ↔ ∀ x ∈ L, x.1 ≠ k := by
  unfold getK
  simp [List.find?_eq_none]
theorem getK_mem {L : RL} {k : Int} {w : List UInt8} (h : getK L k = some w) : (k, w) ∈ L := by
  unfold getK at h
  obtain ⟨x, hx, rfl⟩ := Option.map_eq_some_iff.1 h
  have h1 := List.mem_of_find?_eq_some hx
  have h2 := List.find?_some hx
  simp only [decide_eq_true_eq] at h2
  subst h2
  exact h1
/-- The ring has just the keys of those that were put in. -/
structure KeyI (root : List UInt8) (M : List Int) (i : Nat) (L : RL) : Prop where
  keys : ∀ x ∈ L, x.2 = ekeyF root x.1
  mem : ∀ k, (∃ x ∈ L, x.1 = k) ↔ k ∈ M.take i ∧ 0 ≤ k ∧ k ≤ 1099511627776
  len : L.length ≤ i
theorem KeyI.wl {root : List UInt8} {M : List Int} {i : Nat} {L : RL} (I : KeyI root M i L) : ∀ x ∈ L, x.2.length = 32 := fun x hx => by rw [I.keys x hx]; exact ekeyF_len _ _
theorem KeyI.step {root : List UInt8} {M : List Int} {i : Nat} {L : RL} (I : KeyI root M i L) (hi : i < M.length) (h : i < 20) :
    KeyI root M (i + 1) (putF L M[i] (ekeyF root M[i])).1 ∧ ((putF L M[i] (ekeyF root M[i])).2 = 0 ↔ 0 ≤ M[i] ∧ M[i] ≤ 1099511627776) := by
  have ht : M.take (i + 1) = M.take i ++ [M[i]] := by rw [List.take_succ_eq_append_getElem hi]
  unfold putF
  by_cases g : 0 ≤ M[i] ∧ M[i] ≤ 1099511627776
  · rw [if_pos g]
    cases hg : getK L M[i] with
    | some old =>
      have hm := getK_mem hg
      have ho : old = ekeyF root M[i] := I.keys _ hm
      simp only [ho, if_true]
      refine ⟨⟨I.keys, fun k => ?_, by have := I.len; omega⟩, by simp [g]⟩
      rw [I.mem k, ht]
      constructor
      · rintro ⟨h1, h2⟩; exact ⟨List.mem_append.2 (.inl h1), h2⟩
      · rintro ⟨h1, h2⟩
        rcases List.mem_append.1 h1 with h1 | h1
        · exact ⟨h1, h2⟩
        · rw [List.mem_singleton] at h1
          subst h1
          exact (I.mem _).1 ⟨_, hm, rfl⟩
    | none =>
      have h5 : ¬ 500 ≤ L.length := by have := I.len; omega
      simp only [h5, if_false]
      refine ⟨⟨?_, fun k => ?_, by have := I.len; simp; omega⟩, by simp [g]⟩
      · intro x hx
        rcases List.mem_append.1 hx with hx | hx
        · exact I.keys x hx
        · rw [List.mem_singleton] at hx; subst hx; rfl
      · rw [ht]
        constructor
        · rintro ⟨x, hx, rfl⟩
          rcases List.mem_append.1 hx with hx | hx
          · obtain ⟨h1, h2⟩ := (I.mem x.1).1 ⟨x, hx, rfl⟩
            exact ⟨List.mem_append.2 (.inl h1), h2⟩
          · rw [List.mem_singleton] at hx; subst hx
            exact ⟨List.mem_append.2 (.inr (List.mem_singleton.2 rfl)), g⟩
        · rintro ⟨h1, h2⟩
          rcases List.mem_append.1 h1 with h1 | h1
          · obtain ⟨x, hx, e⟩ := (I.mem k).2 ⟨h1, h2⟩
            exact ⟨x, by simp [hx], e⟩
          · rw [List.mem_singleton] at h1
            exact ⟨(M[i], ekeyF root M[i]), by simp, h1.symm⟩
  · rw [if_neg g]
    refine ⟨⟨I.keys, fun k => ?_, Nat.le_succ_of_le I.len⟩, by simp [g]⟩
    rw [I.mem k, ht]
    constructor
    · rintro ⟨h1, h2⟩; exact ⟨List.mem_append.2 (.inl h1), h2⟩
    · rintro ⟨h1, h2⟩
      rcases List.mem_append.1 h1 with h1 | h1
      · exact ⟨h1, h2⟩
      · rw [List.mem_singleton] at h1
        subst h1
        exact absurd h2 g
theorem KeyI.get {root : List UInt8} {M : List Int} {L : RL} (I : KeyI root M M.length L) (i : Nat) (hi : i < M.length) :
    (0 ≤ M[i] ∧ M[i] ≤ 1099511627776 → getK L M[i] = some (ekeyF root M[i])) ∧ (¬ (0 ≤ M[i] ∧ M[i] ≤ 1099511627776) → getK L M[i] = none) := by
  constructor
  · intro g
    obtain ⟨x, hx, e⟩ := (I.mem M[i]).2 ⟨by rw [List.take_length]; exact List.getElem_mem hi, g⟩
    cases hg : getK L M[i] with
    | none => exact absurd e (getK_none.1 hg x hx)
    | some w => exact congrArg some (I.keys _ (getK_mem hg))
  · intro g
    rw [getK_none]
    intro x hx e
    exact g ((I.mem M[i]).1 ⟨x, hx, e⟩).2

theorem bandboxlaw22_EpochKeys_c (E : EnvT tab) (W : World) {v0 v1 : Value} (s0 : Shp.ok W (.array 32 1 (.int .u8)) v0) (s1 : Shp.ok W (.slice 1 (.int .i64)) v1) :
    ACallN E.toEnv n_bandboxlaw22_EpochKeys [v0, v1] (roHeap W) fun v _ => v = .bool true := by
  obtain ⟨root, hw, rfl⟩ := ok_array s0
  obtain ⟨M, sm, -⟩ := ok_i64s s1
  obtain ⟨base, c, rfl⟩ := Sl.shape sm
  generalize roHeap W = h at sm
  refine acall h_bandboxlaw22_EpochKeys ir_bandboxlaw22_EpochKeys rfl rfl (wpA_sound ?_)
  unfold ir_bandboxlaw22_EpochKeys
  have wl : (root.map u8V).length = 32 := by simp [hw]
  simp -implicitDefEqProofs only [zB1,zB2,zB3,zB4,zB5,zB6,zB7,zB8,zB9,zB10,zB11,y00,y01,y02,y03,y04,y05,y06,y07,y08,y09,y0a,y0b,y0c,y0d,y0e,y0f,y0g,y0h,y0i,y0j,y0k,y0l,y0m,y0n,y0o,y0p,y0q,y0r,y0s,y0t,y0u,y0v,y0w,y0x,y0y,y0z,y10,y11,y12,y13,y14,y15,y16,y17,y18,y19,y1a,y1b,y1c,y1d,y1e,y1f,y1g,y1h,y1i,y1j,y1k,y1l,y1m,y1n,y1o,y1p,y1q,y1r,retO,retL,retV,z69,allV,allP,z6a,z6d,z6e,z6k,z6l,z6m,binV,eqV,unV,oOpt,reduceIte,reduceCtorEq,Nat.reduceEqDiff,Nat.reduceAdd,Nat.reduceMul,Nat.reduceLT,Nat.reduceSub,Int.reduceLT,Int.reduceLE,Int.reduceEq,Int.reduceNe,Int.reduceSub,Int.reduceAdd,Int.reduceMul,Int.reduceBEq,Int.reduceBNe,Int.reduceGT,Int.reduceGE,Nat.reduceGT,Int.reduceToNat,Int.reduceNeg,Nat.reduceLeDiff,Nat.reduceBEq,Nat.reduceBneDiff,Value.cells]
  intro b2 hb2
  try simp -implicitDefEqProofs only [zB1,zB2,zB3,zB4,zB5,zB6,zB7,zB8,zB9,zB10,zB11,y00,y01,y02,y03,y04,y05,y06,y07,y08,y09,y0a,y0b,y0c,y0d,y0e,y0f,y0g,y0h,y0i,y0j,y0k,y0l,y0m,y0n,y0o,y0p,y0q,y0r,y0s,y0t,y0u,y0v,y0w,y0x,y0y,y0z,y10,y11,y12,y13,y14,y15,y16,y17,y18,y19,y1a,y1b,y1c,y1d,y1e,y1f,y1g,y1h,y1i,y1j,y1k,y1l,y1m,y1n,y1o,y1p,y1q,y1r,retO,retL,retV,z69,allV,allP,z6a,z6d,z6e,z6k,z6l,z6m,binV,eqV,unV,oOpt,reduceIte,reduceCtorEq,Nat.reduceEqDiff,Nat.reduceAdd,Nat.reduceMul,Nat.reduceLT,Nat.reduceSub,Int.reduceLT,Int.reduceLE,Int.reduceEq,Int.reduceNe,Int.reduceSub,Int.reduceAdd,Int.reduceMul,Int.reduceBEq,Int.reduceBNe,Int.reduceGT,Int.reduceGE,Nat.reduceGT,Int.reduceToNat,Int.reduceNeg,Nat.reduceLeDiff,Nat.reduceBEq,Nat.reduceBneDiff,Value.cells, wl]
  have le2 : h.le (h.set b2 (.own 0 (root.map u8V) 32)) := Heap.le_set (Heap.le_refl _) hb2 _
  have q2 : (h.set b2 (.own 0 (root.map u8V) 32)) b2 = some (.own 0 (root.map u8V) 32) := Heap.set_self _ _ _
  generalize (h.set b2 (.own 0 (root.map u8V) 32)) = h1 at le2 q2 ⊢
  refine (law22_awake_c E _).mono ?_
  rintro v h2 ⟨rfl, le3⟩
  by_cases g0 : (20 : Int) < M.length
  · simp -implicitDefEqProofs only [zB1,zB2,zB3,zB4,zB5,zB6,zB7,zB8,zB9,zB10,zB11,y00,y01,y02,y03,y04,y05,y06,y07,y08,y09,y0a,y0b,y0c,y0d,y0e,y0f,y0g,y0h,y0i,y0j,y0k,y0l,y0m,y0n,y0o,y0p,y0q,y0r,y0s,y0t,y0u,y0v,y0w,y0x,y0y,y0z,y10,y11,y12,y13,y14,y15,y16,y17,y18,y19,y1a,y1b,y1c,y1d,y1e,y1f,y1g,y1h,y1i,y1j,y1k,y1l,y1m,y1n,y1o,y1p,y1q,y1r,retO,retL,retV,z69,allV,allP,z6a,z6d,z6e,z6k,z6l,z6m,binV,eqV,unV,oOpt,reduceIte,reduceCtorEq,Nat.reduceEqDiff,Nat.reduceAdd,Nat.reduceMul,Nat.reduceLT,Nat.reduceSub,Int.reduceLT,Int.reduceLE,Int.reduceEq,Int.reduceNe,Int.reduceSub,Int.reduceAdd,Int.reduceMul,Int.reduceBEq,Int.reduceBNe,Int.reduceGT,Int.reduceGE,Nat.reduceGT,Int.reduceToNat,Int.reduceNeg,Nat.reduceLeDiff,Nat.reduceBEq,Nat.reduceBneDiff,Value.cells, g0]
  have q2 := le3 _ _ q2
  have sm2 := sm.le (Heap.le_trans le2 le3)
  clear le2 le3
  simp -implicitDefEqProofs only [zB1,zB2,zB3,zB4,zB5,zB6,zB7,zB8,zB9,zB10,zB11,y00,y01,y02,y03,y04,y05,y06,y07,y08,y09,y0a,y0b,y0c,y0d,y0e,y0f,y0g,y0h,y0i,y0j,y0k,y0l,y0m,y0n,y0o,y0p,y0q,y0r,y0s,y0t,y0u,y0v,y0w,y0x,y0y,y0z,y10,y11,y12,y13,y14,y15,y16,y17,y18,y19,y1a,y1b,y1c,y1d,y1e,y1f,y1g,y1h,y1i,y1j,y1k,y1l,y1m,y1n,y1o,y1p,y1q,y1r,retO,retL,retV,z69,allV,allP,z6a,z6d,z6e,z6k,z6l,z6m,binV,eqV,unV,oOpt,reduceIte,reduceCtorEq,Nat.reduceEqDiff,Nat.reduceAdd,Nat.reduceMul,Nat.reduceLT,Nat.reduceSub,Int.reduceLT,Int.reduceLE,Int.reduceEq,Int.reduceNe,Int.reduceSub,Int.reduceAdd,Int.reduceMul,Int.reduceBEq,Int.reduceBNe,Int.reduceGT,Int.reduceGE,Nat.reduceGT,Int.reduceToNat,Int.reduceNeg,Nat.reduceLeDiff,Nat.reduceBEq,Nat.reduceBneDiff,Value.cells, g0]
  refine (epoch_New_c E h2).mono ?_
  rintro p h3 ⟨le3, R3⟩
  have c2 : ∀ G, h2.le G → hcells G ⟨b2, 0, none⟩ 32 = some (root.map u8V) := fun G x => by rw [hcells_at (x _ _ q2) (by simp [hw])]; simp [List.take_of_length_le, hw]
  obtain ⟨pb, hp⟩ : ∃ pb, p = .pointer (some ⟨pb, 0, none⟩) := by
    obtain ⟨b, r, es, cc, e, _⟩ := R3
    exact ⟨b, e⟩
  subst hp
  simp -implicitDefEqProofs only [zB1,zB2,zB3,zB4,zB5,zB6,zB7,zB8,zB9,zB10,zB11,y00,y01,y02,y03,y04,y05,y06,y07,y08,y09,y0a,y0b,y0c,y0d,y0e,y0f,y0g,y0h,y0i,y0j,y0k,y0l,y0m,y0n,y0o,y0p,y0q,y0r,y0s,y0t,y0u,y0v,y0w,y0x,y0y,y0z,y10,y11,y12,y13,y14,y15,y16,y17,y18,y19,y1a,y1b,y1c,y1d,y1e,y1f,y1g,y1h,y1i,y1j,y1k,y1l,y1m,y1n,y1o,y1p,y1q,y1r,retO,retL,retV,z69,allV,allP,z6a,z6d,z6e,z6k,z6l,z6m,binV,eqV,unV,oOpt,reduceIte,reduceCtorEq,Nat.reduceEqDiff,Nat.reduceAdd,Nat.reduceMul,Nat.reduceLT,Nat.reduceSub,Int.reduceLT,Int.reduceLE,Int.reduceEq,Int.reduceNe,Int.reduceSub,Int.reduceAdd,Int.reduceMul,Int.reduceBEq,Int.reduceBNe,Int.reduceGT,Int.reduceGE,Nat.reduceGT,Int.reduceToNat,Int.reduceNeg,Nat.reduceLeDiff,Nat.reduceBEq,Nat.reduceBneDiff,Value.cells]
  unfold ir_bandboxlaw22_EpochKeys_6
  simp -implicitDefEqProofs only [zB1,zB2,zB3,zB4,zB5,zB6,zB7,zB8,zB9,zB10,zB11,y00,y01,y02,y03,y04,y05,y06,y07,y08,y09,y0a,y0b,y0c,y0d,y0e,y0f,y0g,y0h,y0i,y0j,y0k,y0l,y0m,y0n,y0o,y0p,y0q,y0r,y0s,y0t,y0u,y0v,y0w,y0x,y0y,y0z,y10,y11,y12,y13,y14,y15,y16,y17,y18,y19,y1a,y1b,y1c,y1d,y1e,y1f,y1g,y1h,y1i,y1j,y1k,y1l,y1m,y1n,y1o,y1p,y1q,y1r,retO,retL,retV,z69,allV,allP,z6a,z6d,z6e,z6k,z6l,z6m,binV,eqV,unV,oOpt,reduceIte,reduceCtorEq,Nat.reduceEqDiff,Nat.reduceAdd,Nat.reduceMul,Nat.reduceLT,Nat.reduceSub,Int.reduceLT,Int.reduceLE,Int.reduceEq,Int.reduceNe,Int.reduceSub,Int.reduceAdd,Int.reduceMul,Int.reduceBEq,Int.reduceBNe,Int.reduceGT,Int.reduceGE,Nat.reduceGT,Int.reduceToNat,Int.reduceNeg,Nat.reduceLeDiff,Nat.reduceBEq,Nat.reduceBneDiff,Value.cells]
  refine wp_loop' (fun m t H => h2.le H ∧ ∃ (i : Nat) (L : RL), t = tl [(1, .slice base M.length c), (2, .pointer (some ⟨b2, 0, none⟩)), (5, .pointer (some ⟨pb, 0, none⟩)), (6, .int .i64 i)] ∧ i ≤ M.length ∧ m = M.length - i ∧
      RingR h2 H (.pointer (some ⟨pb, 0, none⟩)) L ∧ KeyI root M i L) M.length
    ⟨le3, 0, [], rfl, by omega, by omega, R3, ⟨by simp, by simp, by simp⟩⟩ ?_
  rintro m t H ⟨leH, i, L, rfl, hi, rfl, R, I⟩
  by_cases hlt : i < M.length
  · have hi1 : (i : Int) < M.length := by omega
    have hi2 : (0 : Int) ≤ i := by omega
    have w1 : IntKind.i64.wrap ((i : Int) + 1) = ((i + 1 : Nat) : Int) := wrapN (by omega)
    obtain ⟨b, o, c', hv, ci⟩ := i64_at sm2 i hlt
    simp only [Value.slice.injEq, true_and] at hv
    obtain ⟨rfl, rfl⟩ := hv
    have ciH := ci H leH
    have cH := c2 H leH
    simp -implicitDefEqProofs only [zB1,zB2,zB3,zB4,zB5,zB6,zB7,zB8,zB9,zB10,zB11,y00,y01,y02,y03,y04,y05,y06,y07,y08,y09,y0a,y0b,y0c,y0d,y0e,y0f,y0g,y0h,y0i,y0j,y0k,y0l,y0m,y0n,y0o,y0p,y0q,y0r,y0s,y0t,y0u,y0v,y0w,y0x,y0y,y0z,y10,y11,y12,y13,y14,y15,y16,y17,y18,y19,y1a,y1b,y1c,y1d,y1e,y1f,y1g,y1h,y1i,y1j,y1k,y1l,y1m,y1n,y1o,y1p,y1q,y1r,retO,retL,retV,z69,allV,allP,z6a,z6d,z6e,z6k,z6l,z6m,binV,eqV,unV,oOpt,reduceIte,reduceCtorEq,Nat.reduceEqDiff,Nat.reduceAdd,Nat.reduceMul,Nat.reduceLT,Nat.reduceSub,Int.reduceLT,Int.reduceLE,Int.reduceEq,Int.reduceNe,Int.reduceSub,Int.reduceAdd,Int.reduceMul,Int.reduceBEq,Int.reduceBNe,Int.reduceGT,Int.reduceGE,Nat.reduceGT,Int.reduceToNat,Int.reduceNeg,Nat.reduceLeDiff,Nat.reduceBEq,Nat.reduceBneDiff,Value.cells, hi1, hi2, Int.toNat_natCast, ciH, cH]
    refine (epoch_Key_c E H root hw M[i]).mono ?_
    rintro r H1 ⟨le4, rfl⟩
    have ciH1 := ci H1 (Heap.le_trans leH le4)
    have kl := ekeyF_len root M[i]
    obtain ⟨st1, st2⟩ := I.step hlt (by omega)
    simp -implicitDefEqProofs only [zB1,zB2,zB3,zB4,zB5,zB6,zB7,zB8,zB9,zB10,zB11,y00,y01,y02,y03,y04,y05,y06,y07,y08,y09,y0a,y0b,y0c,y0d,y0e,y0f,y0g,y0h,y0i,y0j,y0k,y0l,y0m,y0n,y0o,y0p,y0q,y0r,y0s,y0t,y0u,y0v,y0w,y0x,y0y,y0z,y10,y11,y12,y13,y14,y15,y16,y17,y18,y19,y1a,y1b,y1c,y1d,y1e,y1f,y1g,y1h,y1i,y1j,y1k,y1l,y1m,y1n,y1o,y1p,y1q,y1r,retO,retL,retV,z69,allV,allP,z6a,z6d,z6e,z6k,z6l,z6m,binV,eqV,unV,oOpt,reduceIte,reduceCtorEq,Nat.reduceEqDiff,Nat.reduceAdd,Nat.reduceMul,Nat.reduceLT,Nat.reduceSub,Int.reduceLT,Int.reduceLE,Int.reduceEq,Int.reduceNe,Int.reduceSub,Int.reduceAdd,Int.reduceMul,Int.reduceBEq,Int.reduceBNe,Int.reduceGT,Int.reduceGE,Nat.reduceGT,Int.reduceToNat,Int.reduceNeg,Nat.reduceLeDiff,Nat.reduceBEq,Nat.reduceBneDiff,Value.cells, hi1, hi2, Int.toNat_natCast, ciH, ciH1, implies_true, List.mem_cons, List.not_mem_nil, List.mem_singleton, or_false, forall_eq, forall_eq_or_imp, and_self]
    refine (epoch_Put_c E (Heap.le_trans leH le4) (R.le le4) I.wl M[i] (ekeyF root M[i]) kl).mono ?_
    rintro r H2 ⟨le5, rfl, R2⟩
    have ciH2 := ci H2 le5
    generalize (putF L M[i] (ekeyF root M[i])).1 = L2 at *
    generalize (putF L M[i] (ekeyF root M[i])).2 = en at *
    simp -implicitDefEqProofs only [zB1,zB2,zB3,zB4,zB5,zB6,zB7,zB8,zB9,zB10,zB11,y00,y01,y02,y03,y04,y05,y06,y07,y08,y09,y0a,y0b,y0c,y0d,y0e,y0f,y0g,y0h,y0i,y0j,y0k,y0l,y0m,y0n,y0o,y0p,y0q,y0r,y0s,y0t,y0u,y0v,y0w,y0x,y0y,y0z,y10,y11,y12,y13,y14,y15,y16,y17,y18,y19,y1a,y1b,y1c,y1d,y1e,y1f,y1g,y1h,y1i,y1j,y1k,y1l,y1m,y1n,y1o,y1p,y1q,y1r,retO,retL,retV,z69,allV,allP,z6a,z6d,z6e,z6k,z6l,z6m,binV,eqV,unV,oOpt,reduceIte,reduceCtorEq,Nat.reduceEqDiff,Nat.reduceAdd,Nat.reduceMul,Nat.reduceLT,Nat.reduceSub,Int.reduceLT,Int.reduceLE,Int.reduceEq,Int.reduceNe,Int.reduceSub,Int.reduceAdd,Int.reduceMul,Int.reduceBEq,Int.reduceBNe,Int.reduceGT,Int.reduceGE,Nat.reduceGT,Int.reduceToNat,Int.reduceNeg,Nat.reduceLeDiff,Nat.reduceBEq,Nat.reduceBneDiff,Value.cells]
    unfold ir_bandboxlaw22_EpochKeys_37
    by_cases z0 : 0 ≤ M[i]
    · by_cases z1 : M[i] ≤ 1099511627776
      · have en0 : en = 0 := st2.2 ⟨z0, z1⟩
        subst en0
        simp -implicitDefEqProofs only [zB1,zB2,zB3,zB4,zB5,zB6,zB7,zB8,zB9,zB10,zB11,y00,y01,y02,y03,y04,y05,y06,y07,y08,y09,y0a,y0b,y0c,y0d,y0e,y0f,y0g,y0h,y0i,y0j,y0k,y0l,y0m,y0n,y0o,y0p,y0q,y0r,y0s,y0t,y0u,y0v,y0w,y0x,y0y,y0z,y10,y11,y12,y13,y14,y15,y16,y17,y18,y19,y1a,y1b,y1c,y1d,y1e,y1f,y1g,y1h,y1i,y1j,y1k,y1l,y1m,y1n,y1o,y1p,y1q,y1r,retO,retL,retV,z69,allV,allP,z6a,z6d,z6e,z6k,z6l,z6m,binV,eqV,unV,oOpt,reduceIte,reduceCtorEq,Nat.reduceEqDiff,Nat.reduceAdd,Nat.reduceMul,Nat.reduceLT,Nat.reduceSub,Int.reduceLT,Int.reduceLE,Int.reduceEq,Int.reduceNe,Int.reduceSub,Int.reduceAdd,Int.reduceMul,Int.reduceBEq,Int.reduceBNe,Int.reduceGT,Int.reduceGE,Nat.reduceGT,Int.reduceToNat,Int.reduceNeg,Nat.reduceLeDiff,Nat.reduceBEq,Nat.reduceBneDiff,Value.cells, hi1, hi2, Int.toNat_natCast, ciH2, z0, z1, beq_self_eq_true, w1]
        exact ⟨_, by omega, le5, i + 1, L2, rfl, by omega, rfl, R2, st1⟩
      · have en0 : ¬ ((en : Nat) : Int) = 0 := fun e => z1 (st2.1 (by omega)).2
        have en1 : (((en : Nat) : Int) == 0) = false := by simp; omega
        simp -implicitDefEqProofs only [zB1,zB2,zB3,zB4,zB5,zB6,zB7,zB8,zB9,zB10,zB11,y00,y01,y02,y03,y04,y05,y06,y07,y08,y09,y0a,y0b,y0c,y0d,y0e,y0f,y0g,y0h,y0i,y0j,y0k,y0l,y0m,y0n,y0o,y0p,y0q,y0r,y0s,y0t,y0u,y0v,y0w,y0x,y0y,y0z,y10,y11,y12,y13,y14,y15,y16,y17,y18,y19,y1a,y1b,y1c,y1d,y1e,y1f,y1g,y1h,y1i,y1j,y1k,y1l,y1m,y1n,y1o,y1p,y1q,y1r,retO,retL,retV,z69,allV,allP,z6a,z6d,z6e,z6k,z6l,z6m,binV,eqV,unV,oOpt,reduceIte,reduceCtorEq,Nat.reduceEqDiff,Nat.reduceAdd,Nat.reduceMul,Nat.reduceLT,Nat.reduceSub,Int.reduceLT,Int.reduceLE,Int.reduceEq,Int.reduceNe,Int.reduceSub,Int.reduceAdd,Int.reduceMul,Int.reduceBEq,Int.reduceBNe,Int.reduceGT,Int.reduceGE,Nat.reduceGT,Int.reduceToNat,Int.reduceNeg,Nat.reduceLeDiff,Nat.reduceBEq,Nat.reduceBneDiff,Value.cells, hi1, hi2, Int.toNat_natCast, ciH2, z0, z1, en1, beq_self_eq_true, w1]
        exact ⟨_, by omega, le5, i + 1, L2, rfl, by omega, rfl, R2, st1⟩
    · have en1 : (((en : Nat) : Int) == 0) = false := by
        have : ¬ en = 0 := fun e => z0 (st2.1 e).1
        simp; omega
      simp -implicitDefEqProofs only [zB1,zB2,zB3,zB4,zB5,zB6,zB7,zB8,zB9,zB10,zB11,y00,y01,y02,y03,y04,y05,y06,y07,y08,y09,y0a,y0b,y0c,y0d,y0e,y0f,y0g,y0h,y0i,y0j,y0k,y0l,y0m,y0n,y0o,y0p,y0q,y0r,y0s,y0t,y0u,y0v,y0w,y0x,y0y,y0z,y10,y11,y12,y13,y14,y15,y16,y17,y18,y19,y1a,y1b,y1c,y1d,y1e,y1f,y1g,y1h,y1i,y1j,y1k,y1l,y1m,y1n,y1o,y1p,y1q,y1r,retO,retL,retV,z69,allV,allP,z6a,z6d,z6e,z6k,z6l,z6m,binV,eqV,unV,oOpt,reduceIte,reduceCtorEq,Nat.reduceEqDiff,Nat.reduceAdd,Nat.reduceMul,Nat.reduceLT,Nat.reduceSub,Int.reduceLT,Int.reduceLE,Int.reduceEq,Int.reduceNe,Int.reduceSub,Int.reduceAdd,Int.reduceMul,Int.reduceBEq,Int.reduceBNe,Int.reduceGT,Int.reduceGE,Nat.reduceGT,Int.reduceToNat,Int.reduceNeg,Nat.reduceLeDiff,Nat.reduceBEq,Nat.reduceBneDiff,Value.cells, hi1, hi2, Int.toNat_natCast, ciH2, z0, en1, beq_self_eq_true, w1]
      exact ⟨_, by omega, le5, i + 1, L2, rfl, by omega, rfl, R2, st1⟩
  · have hi1 : ¬ (i : Int) < M.length := by omega
    have : i = M.length := by omega
    subst this
    simp -implicitDefEqProofs only [zB1,zB2,zB3,zB4,zB5,zB6,zB7,zB8,zB9,zB10,zB11,y00,y01,y02,y03,y04,y05,y06,y07,y08,y09,y0a,y0b,y0c,y0d,y0e,y0f,y0g,y0h,y0i,y0j,y0k,y0l,y0m,y0n,y0o,y0p,y0q,y0r,y0s,y0t,y0u,y0v,y0w,y0x,y0y,y0z,y10,y11,y12,y13,y14,y15,y16,y17,y18,y19,y1a,y1b,y1c,y1d,y1e,y1f,y1g,y1h,y1i,y1j,y1k,y1l,y1m,y1n,y1o,y1p,y1q,y1r,retO,retL,retV,z69,allV,allP,z6a,z6d,z6e,z6k,z6l,z6m,binV,eqV,unV,oOpt,reduceIte,reduceCtorEq,Nat.reduceEqDiff,Nat.reduceAdd,Nat.reduceMul,Nat.reduceLT,Nat.reduceSub,Int.reduceLT,Int.reduceLE,Int.reduceEq,Int.reduceNe,Int.reduceSub,Int.reduceAdd,Int.reduceMul,Int.reduceBEq,Int.reduceBNe,Int.reduceGT,Int.reduceGE,Nat.reduceGT,Int.reduceToNat,Int.reduceNeg,Nat.reduceLeDiff,Nat.reduceBEq,Nat.reduceBneDiff,Value.cells, hi1]
    unfold ir_bandboxlaw22_EpochKeys_8
    simp -implicitDefEqProofs only [zB1,zB2,zB3,zB4,zB5,zB6,zB7,zB8,zB9,zB10,zB11,y00,y01,y02,y03,y04,y05,y06,y07,y08,y09,y0a,y0b,y0c,y0d,y0e,y0f,y0g,y0h,y0i,y0j,y0k,y0l,y0m,y0n,y0o,y0p,y0q,y0r,y0s,y0t,y0u,y0v,y0w,y0x,y0y,y0z,y10,y11,y12,y13,y14,y15,y16,y17,y18,y19,y1a,y1b,y1c,y1d,y1e,y1f,y1g,y1h,y1i,y1j,y1k,y1l,y1m,y1n,y1o,y1p,y1q,y1r,retO,retL,retV,z69,allV,allP,z6a,z6d,z6e,z6k,z6l,z6m,binV,eqV,unV,oOpt,reduceIte,reduceCtorEq,Nat.reduceEqDiff,Nat.reduceAdd,Nat.reduceMul,Nat.reduceLT,Nat.reduceSub,Int.reduceLT,Int.reduceLE,Int.reduceEq,Int.reduceNe,Int.reduceSub,Int.reduceAdd,Int.reduceMul,Int.reduceBEq,Int.reduceBNe,Int.reduceGT,Int.reduceGE,Nat.reduceGT,Int.reduceToNat,Int.reduceNeg,Nat.reduceLeDiff,Nat.reduceBEq,Nat.reduceBneDiff,Value.cells]
    refine wp_loop' (fun m t H => h2.le H ∧ ∃ (i : Nat), t = tl [(1, .slice base M.length c), (2, .pointer (some ⟨b2, 0, none⟩)), (5, .pointer (some ⟨pb, 0, none⟩)), (8, .int .i64 i)] ∧ i ≤ M.length ∧ m = M.length - i ∧
        RingR h2 H (.pointer (some ⟨pb, 0, none⟩)) L) M.length
      ⟨leH, 0, rfl, by omega, by omega, R⟩ ?_
    rintro m t H ⟨leH, i, rfl, hi, rfl, R⟩
    by_cases hlt : i < M.length
    · have hi1 : (i : Int) < M.length := by omega
      have hi2 : (0 : Int) ≤ i := by omega
      have w1 : IntKind.i64.wrap ((i : Int) + 1) = ((i + 1 : Nat) : Int) := wrapN (by omega)
      obtain ⟨b, o, c', hv, ci⟩ := i64_at sm2 i hlt
      simp only [Value.slice.injEq, true_and] at hv
      obtain ⟨rfl, rfl⟩ := hv
      have ciH := ci H leH
      obtain ⟨gt, gf⟩ := I.get i hlt
      simp -implicitDefEqProofs only [zB1,zB2,zB3,zB4,zB5,zB6,zB7,zB8,zB9,zB10,zB11,y00,y01,y02,y03,y04,y05,y06,y07,y08,y09,y0a,y0b,y0c,y0d,y0e,y0f,y0g,y0h,y0i,y0j,y0k,y0l,y0m,y0n,y0o,y0p,y0q,y0r,y0s,y0t,y0u,y0v,y0w,y0x,y0y,y0z,y10,y11,y12,y13,y14,y15,y16,y17,y18,y19,y1a,y1b,y1c,y1d,y1e,y1f,y1g,y1h,y1i,y1j,y1k,y1l,y1m,y1n,y1o,y1p,y1q,y1r,retO,retL,retV,z69,allV,allP,z6a,z6d,z6e,z6k,z6l,z6m,binV,eqV,unV,oOpt,reduceIte,reduceCtorEq,Nat.reduceEqDiff,Nat.reduceAdd,Nat.reduceMul,Nat.reduceLT,Nat.reduceSub,Int.reduceLT,Int.reduceLE,Int.reduceEq,Int.reduceNe,Int.reduceSub,Int.reduceAdd,Int.reduceMul,Int.reduceBEq,Int.reduceBNe,Int.reduceGT,Int.reduceGE,Nat.reduceGT,Int.reduceToNat,Int.reduceNeg,Nat.reduceLeDiff,Nat.reduceBEq,Nat.reduceBneDiff,Value.cells, hi1, hi2, Int.toNat_natCast, ciH]
      refine (epoch_Get_c E leH R I.wl M[i]).mono ?_
      rintro r H1 ⟨le4, rfl⟩
      have R1 := R.le le4
      have le5 := Heap.le_trans leH le4
      have kl := ekeyF_len root M[i]
      have zr : List.replicate 32 (Value.int .u8 0) = (List.replicate 32 (0 : UInt8)).map u8V := by rw [List.map_replicate]; rfl
      simp -implicitDefEqProofs only [zB1,zB2,zB3,zB4,zB5,zB6,zB7,zB8,zB9,zB10,zB11,y00,y01,y02,y03,y04,y05,y06,y07,y08,y09,y0a,y0b,y0c,y0d,y0e,y0f,y0g,y0h,y0i,y0j,y0k,y0l,y0m,y0n,y0o,y0p,y0q,y0r,y0s,y0t,y0u,y0v,y0w,y0x,y0y,y0z,y10,y11,y12,y13,y14,y15,y16,y17,y18,y19,y1a,y1b,y1c,y1d,y1e,y1f,y1g,y1h,y1i,y1j,y1k,y1l,y1m,y1n,y1o,y1p,y1q,y1r,retO,retL,retV,z69,allV,allP,z6a,z6d,z6e,z6k,z6l,z6m,binV,eqV,unV,oOpt,reduceIte,reduceCtorEq,Nat.reduceEqDiff,Nat.reduceAdd,Nat.reduceMul,Nat.reduceLT,Nat.reduceSub,Int.reduceLT,Int.reduceLE,Int.reduceEq,Int.reduceNe,Int.reduceSub,Int.reduceAdd,Int.reduceMul,Int.reduceBEq,Int.reduceBNe,Int.reduceGT,Int.reduceGE,Nat.reduceGT,Int.reduceToNat,Int.reduceNeg,Nat.reduceLeDiff,Nat.reduceBEq,Nat.reduceBneDiff,Value.cells]
      intro b9 hb9
      rw [List.length_replicate]
      have le9 : ∀ Y, H1.le (H1.set b9 Y) := fun Y => Heap.le_set (Heap.le_refl _) hb9 Y
      have st : ∀ l : List UInt8, l.length = 32 → storeV (H1.set b9 (.own 0 (List.replicate 32 (.int .u8 0)) 32)) 32 (.pointer (some ⟨b9, 0, none⟩)) (.agg (l.map u8V).toArray) = some (H1.set b9 (.own 0 (l.map u8V) 32)) := fun l hl => z6q (by omega) (by simp [hl]) (one_u8 _) (by simp) (by omega)
      by_cases z : 0 ≤ M[i] ∧ M[i] ≤ 1099511627776
      · rw [gt z]
        have s9 := st (ekeyF root M[i]) kl
        have eD : (some (ekeyF root M[i])).getD (List.replicate 32 0) = ekeyF root M[i] := rfl
        have eS : (some (ekeyF root M[i])).isSome = true := rfl
        rw [eD, eS]
        simp -implicitDefEqProofs only [zB1,zB2,zB3,zB4,zB5,zB6,zB7,zB8,zB9,zB10,zB11,y00,y01,y02,y03,y04,y05,y06,y07,y08,y09,y0a,y0b,y0c,y0d,y0e,y0f,y0g,y0h,y0i,y0j,y0k,y0l,y0m,y0n,y0o,y0p,y0q,y0r,y0s,y0t,y0u,y0v,y0w,y0x,y0y,y0z,y10,y11,y12,y13,y14,y15,y16,y17,y18,y19,y1a,y1b,y1c,y1d,y1e,y1f,y1g,y1h,y1i,y1j,y1k,y1l,y1m,y1n,y1o,y1p,y1q,y1r,retO,retL,retV,z69,allV,allP,z6a,z6d,z6e,z6k,z6l,z6m,binV,eqV,unV,oOpt,reduceIte,reduceCtorEq,Nat.reduceEqDiff,Nat.reduceAdd,Nat.reduceMul,Nat.reduceLT,Nat.reduceSub,Int.reduceLT,Int.reduceLE,Int.reduceEq,Int.reduceNe,Int.reduceSub,Int.reduceAdd,Int.reduceMul,Int.reduceBEq,Int.reduceBNe,Int.reduceGT,Int.reduceGE,Nat.reduceGT,Int.reduceToNat,Int.reduceNeg,Nat.reduceLeDiff,Nat.reduceBEq,Nat.reduceBneDiff,Value.cells, s9]
        have ld : hcells (H1.set b9 (.own 0 ((ekeyF root M[i]).map u8V) 32)) ⟨b9, 0, none⟩ 32 = some ((ekeyF root M[i]).map u8V) := z6o (by simp [kl])
        have le9' := le9 (.own 0 ((ekeyF root M[i]).map u8V) 32)
        have q9 : (H1.set b9 (.own 0 ((ekeyF root M[i]).map u8V) 32)) b9 = some (.own 0 ((ekeyF root M[i]).map u8V) 32) := Heap.set_self _ _ _
        generalize (H1.set b9 (.own 0 ((ekeyF root M[i]).map u8V) 32)) = H2 at le9' ld q9 ⊢
        have ci2 := ci H2 (Heap.le_trans le5 le9')
        have c22 := c2 H2 (Heap.le_trans le5 le9')
        unfold ir_bandboxlaw22_EpochKeys_67
        obtain ⟨z0, z1⟩ := z
        simp -implicitDefEqProofs only [zB1,zB2,zB3,zB4,zB5,zB6,zB7,zB8,zB9,zB10,zB11,y00,y01,y02,y03,y04,y05,y06,y07,y08,y09,y0a,y0b,y0c,y0d,y0e,y0f,y0g,y0h,y0i,y0j,y0k,y0l,y0m,y0n,y0o,y0p,y0q,y0r,y0s,y0t,y0u,y0v,y0w,y0x,y0y,y0z,y10,y11,y12,y13,y14,y15,y16,y17,y18,y19,y1a,y1b,y1c,y1d,y1e,y1f,y1g,y1h,y1i,y1j,y1k,y1l,y1m,y1n,y1o,y1p,y1q,y1r,retO,retL,retV,z69,allV,allP,z6a,z6d,z6e,z6k,z6l,z6m,binV,eqV,unV,oOpt,reduceIte,reduceCtorEq,Nat.reduceEqDiff,Nat.reduceAdd,Nat.reduceMul,Nat.reduceLT,Nat.reduceSub,Int.reduceLT,Int.reduceLE,Int.reduceEq,Int.reduceNe,Int.reduceSub,Int.reduceAdd,Int.reduceMul,Int.reduceBEq,Int.reduceBNe,Int.reduceGT,Int.reduceGE,Nat.reduceGT,Int.reduceToNat,Int.reduceNeg,Nat.reduceLeDiff,Nat.reduceBEq,Nat.reduceBneDiff,Value.cells, hi1, hi2, Int.toNat_natCast, ci2, z0, z1, beq_self_eq_true, c22]
        refine (epoch_Key_c E H2 root hw M[i]).mono ?_
        rintro r H3 ⟨le6, rfl⟩
        have ld3 : hcells H3 ⟨b9, 0, none⟩ 32 = some ((ekeyF root M[i]).map u8V) := by rw [hcells_at (le6 _ _ q9) (by simp [kl])]; simp [List.take_of_length_le, kl]
        have k1 := leaves_u8 (ekeyF root M[i])
        rw [kl] at k1
        have k3 := leavesEq_u8 (ekeyF root M[i])
        simp -implicitDefEqProofs only [zB1,zB2,zB3,zB4,zB5,zB6,zB7,zB8,zB9,zB10,zB11,y00,y01,y02,y03,y04,y05,y06,y07,y08,y09,y0a,y0b,y0c,y0d,y0e,y0f,y0g,y0h,y0i,y0j,y0k,y0l,y0m,y0n,y0o,y0p,y0q,y0r,y0s,y0t,y0u,y0v,y0w,y0x,y0y,y0z,y10,y11,y12,y13,y14,y15,y16,y17,y18,y19,y1a,y1b,y1c,y1d,y1e,y1f,y1g,y1h,y1i,y1j,y1k,y1l,y1m,y1n,y1o,y1p,y1q,y1r,retO,retL,retV,z69,allV,allP,z6a,z6d,z6e,z6k,z6l,z6m,binV,eqV,unV,oOpt,reduceIte,reduceCtorEq,Nat.reduceEqDiff,Nat.reduceAdd,Nat.reduceMul,Nat.reduceLT,Nat.reduceSub,Int.reduceLT,Int.reduceLE,Int.reduceEq,Int.reduceNe,Int.reduceSub,Int.reduceAdd,Int.reduceMul,Int.reduceBEq,Int.reduceBNe,Int.reduceGT,Int.reduceGE,Nat.reduceGT,Int.reduceToNat,Int.reduceNeg,Nat.reduceLeDiff,Nat.reduceBEq,Nat.reduceBneDiff,Value.cells, ld, ld3, k1, k3, w1, implies_true, List.mem_cons, List.not_mem_nil, List.mem_singleton, or_false, forall_eq, forall_eq_or_imp, and_self]
        exact ⟨_, by omega, Heap.le_trans le5 (Heap.le_trans le9' le6), i + 1, rfl, by omega, rfl, (R1.le le9').le le6⟩
      · rw [gf z]
        have s9 := st (List.replicate 32 0) (by simp)
        have eD : (none : Option (List UInt8)).getD (List.replicate 32 0) = List.replicate 32 0 := rfl
        have eS : (none : Option (List UInt8)).isSome = false := rfl
        rw [eD, eS]
        simp -implicitDefEqProofs only [zB1,zB2,zB3,zB4,zB5,zB6,zB7,zB8,zB9,zB10,zB11,y00,y01,y02,y03,y04,y05,y06,y07,y08,y09,y0a,y0b,y0c,y0d,y0e,y0f,y0g,y0h,y0i,y0j,y0k,y0l,y0m,y0n,y0o,y0p,y0q,y0r,y0s,y0t,y0u,y0v,y0w,y0x,y0y,y0z,y10,y11,y12,y13,y14,y15,y16,y17,y18,y19,y1a,y1b,y1c,y1d,y1e,y1f,y1g,y1h,y1i,y1j,y1k,y1l,y1m,y1n,y1o,y1p,y1q,y1r,retO,retL,retV,z69,allV,allP,z6a,z6d,z6e,z6k,z6l,z6m,binV,eqV,unV,oOpt,reduceIte,reduceCtorEq,Nat.reduceEqDiff,Nat.reduceAdd,Nat.reduceMul,Nat.reduceLT,Nat.reduceSub,Int.reduceLT,Int.reduceLE,Int.reduceEq,Int.reduceNe,Int.reduceSub,Int.reduceAdd,Int.reduceMul,Int.reduceBEq,Int.reduceBNe,Int.reduceGT,Int.reduceGE,Nat.reduceGT,Int.reduceToNat,Int.reduceNeg,Nat.reduceLeDiff,Nat.reduceBEq,Nat.reduceBneDiff,Value.cells, s9]
        have le9' := le9 (.own 0 ((List.replicate 32 0).map u8V) 32)
        generalize (H1.set b9 (.own 0 ((List.replicate 32 0).map u8V) 32)) = H2 at le9' ⊢
        have ci2 := ci H2 (Heap.le_trans le5 le9')
        unfold ir_bandboxlaw22_EpochKeys_67
        by_cases z0 : 0 ≤ M[i]
        · have z1 : ¬ M[i] ≤ 1099511627776 := fun q => z ⟨z0, q⟩
          simp -implicitDefEqProofs only [zB1,zB2,zB3,zB4,zB5,zB6,zB7,zB8,zB9,zB10,zB11,y00,y01,y02,y03,y04,y05,y06,y07,y08,y09,y0a,y0b,y0c,y0d,y0e,y0f,y0g,y0h,y0i,y0j,y0k,y0l,y0m,y0n,y0o,y0p,y0q,y0r,y0s,y0t,y0u,y0v,y0w,y0x,y0y,y0z,y10,y11,y12,y13,y14,y15,y16,y17,y18,y19,y1a,y1b,y1c,y1d,y1e,y1f,y1g,y1h,y1i,y1j,y1k,y1l,y1m,y1n,y1o,y1p,y1q,y1r,retO,retL,retV,z69,allV,allP,z6a,z6d,z6e,z6k,z6l,z6m,binV,eqV,unV,oOpt,reduceIte,reduceCtorEq,Nat.reduceEqDiff,Nat.reduceAdd,Nat.reduceMul,Nat.reduceLT,Nat.reduceSub,Int.reduceLT,Int.reduceLE,Int.reduceEq,Int.reduceNe,Int.reduceSub,Int.reduceAdd,Int.reduceMul,Int.reduceBEq,Int.reduceBNe,Int.reduceGT,Int.reduceGE,Nat.reduceGT,Int.reduceToNat,Int.reduceNeg,Nat.reduceLeDiff,Nat.reduceBEq,Nat.reduceBneDiff,Value.cells, hi1, hi2, Int.toNat_natCast, ci2, z0, z1, beq_self_eq_true, w1]
          exact ⟨_, by omega, Heap.le_trans le5 le9', i + 1, rfl, by omega, rfl, R1.le le9'⟩
        · simp -implicitDefEqProofs only [zB1,zB2,zB3,zB4,zB5,zB6,zB7,zB8,zB9,zB10,zB11,y00,y01,y02,y03,y04,y05,y06,y07,y08,y09,y0a,y0b,y0c,y0d,y0e,y0f,y0g,y0h,y0i,y0j,y0k,y0l,y0m,y0n,y0o,y0p,y0q,y0r,y0s,y0t,y0u,y0v,y0w,y0x,y0y,y0z,y10,y11,y12,y13,y14,y15,y16,y17,y18,y19,y1a,y1b,y1c,y1d,y1e,y1f,y1g,y1h,y1i,y1j,y1k,y1l,y1m,y1n,y1o,y1p,y1q,y1r,retO,retL,retV,z69,allV,allP,z6a,z6d,z6e,z6k,z6l,z6m,binV,eqV,unV,oOpt,reduceIte,reduceCtorEq,Nat.reduceEqDiff,Nat.reduceAdd,Nat.reduceMul,Nat.reduceLT,Nat.reduceSub,Int.reduceLT,Int.reduceLE,Int.reduceEq,Int.reduceNe,Int.reduceSub,Int.reduceAdd,Int.reduceMul,Int.reduceBEq,Int.reduceBNe,Int.reduceGT,Int.reduceGE,Nat.reduceGT,Int.reduceToNat,Int.reduceNeg,Nat.reduceLeDiff,Nat.reduceBEq,Nat.reduceBneDiff,Value.cells, hi1, hi2, Int.toNat_natCast, ci2, z0, beq_self_eq_true, w1]
          exact ⟨_, by omega, Heap.le_trans le5 le9', i + 1, rfl, by omega, rfl, R1.le le9'⟩
    · have hi1 : ¬ (i : Int) < M.length := by omega
      simp -implicitDefEqProofs only [zB1,zB2,zB3,zB4,zB5,zB6,zB7,zB8,zB9,zB10,zB11,y00,y01,y02,y03,y04,y05,y06,y07,y08,y09,y0a,y0b,y0c,y0d,y0e,y0f,y0g,y0h,y0i,y0j,y0k,y0l,y0m,y0n,y0o,y0p,y0q,y0r,y0s,y0t,y0u,y0v,y0w,y0x,y0y,y0z,y10,y11,y12,y13,y14,y15,y16,y17,y18,y19,y1a,y1b,y1c,y1d,y1e,y1f,y1g,y1h,y1i,y1j,y1k,y1l,y1m,y1n,y1o,y1p,y1q,y1r,retO,retL,retV,z69,allV,allP,z6a,z6d,z6e,z6k,z6l,z6m,binV,eqV,unV,oOpt,reduceIte,reduceCtorEq,Nat.reduceEqDiff,Nat.reduceAdd,Nat.reduceMul,Nat.reduceLT,Nat.reduceSub,Int.reduceLT,Int.reduceLE,Int.reduceEq,Int.reduceNe,Int.reduceSub,Int.reduceAdd,Int.reduceMul,Int.reduceBEq,Int.reduceBNe,Int.reduceGT,Int.reduceGE,Nat.reduceGT,Int.reduceToNat,Int.reduceNeg,Nat.reduceLeDiff,Nat.reduceBEq,Nat.reduceBneDiff,Value.cells, hi1]
end Go.Bb
