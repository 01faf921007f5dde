/- My contracts: BbCaead1 BbCaead2 BbCaead3 BbCref4a BbCref4b BbCref4c BbCref4d BbCref4e BbCref4h. -/
import Derived.Test.YtfbhhmmjfoemkaaBbG3
import Derived.Test.YtfbhhmmjfoemkaaBbM3
import Derived.Test.YtfbhhmmjfoemkaaBbM1
import Derived.Test.YtfbhhmmjfoemkaaBbM2
import Derived.Test.YtfbhhmmjfoemkaaBbTab
/- Contracts: sealed and opened: the tag. -/
namespace Go.Bb
set_option linter.unusedSimpArgs false
set_option linter.unusedVariables false
set_option maxRecDepth 20000
set_option maxHeartbeats 2000000

theorem u64_lit (n : Nat) : IntKind.u64.wrap (n : Int) = ((BitVec.ofNat 64 n).toNat : Int) := by rw [wrap_u64, ofInt_nat]
theorem SlL.lit5 {H : Heap} {b : Nat} (hb : H b = none) {u1 u2 u3 u4 u5 : Value} {l1 l2 l3 l4 l5 : List UInt8} (s1 : SlB H u1 l1) (s2 : SlB H u2 l2) (s3 : SlB H u3 l3) (s4 : SlB H u4 l4) (s5 : SlB H u5 l5) :
    SlL (H.set b (.own 0 [u1, u2, u3, u4, u5] 5)) (.slice (some ⟨b, 0, none⟩) 5 5) [l1, l2, l3, l4, l5] := by
  have hle := Heap.le_new (Heap.le_refl H) hb (.own 0 [u1, u2, u3, u4, u5] 5)
  refine ⟨[u1, u2, u3, u4, u5], rfl, Sl.lit (n := 5) rfl, ?_⟩
  intro i x y
  match i, x, y with
  | 0, _, _ => exact Sl.le hle s1
  | 1, _, _ => exact Sl.le hle s2
  | 2, _, _ => exact Sl.le hle s3
  | 3, _, _ => exact Sl.le hle s4
  | 4, _, _ => exact Sl.le hle s5
theorem tagged_flat (beside c : List UInt8) : [beside, List.replicate (fillN beside.length) 0, c, List.replicate (fillN c.length) 0, lenB beside.length ++ lenB c.length].flatten = taggedF beside c := by
  simp [taggedF, fillB]
theorem aead_tag_c (E : EnvT tab) (h : Heap) {v w : Value} (key nonce c beside : List UInt8) (hk : key.length = 32) (hn : nonce.length = 12) (hc : c.length ≤ 1000000) (hbs : beside.length ≤ 1000000) (sc : SlB h v c) (sb : SlB h w beside) :
    ACallN E.toEnv n_aead_tag [.agg (key.map u8V).toArray, .agg (nonce.map u8V).toArray, v, w] h fun r h' => h.le h' ∧ r = .agg ((atagF key nonce c beside).map u8V).toArray := by
  obtain ⟨base, cc, rfl⟩ := Sl.shape sc
  obtain ⟨base2, cc2, rfl⟩ := Sl.shape sb
  refine acall h_aead_tag ir_aead_tag rfl rfl (wpA_sound ?_)
  unfold ir_aead_tag
  have hk' : (key.map u8V).length = 32 := by simp [hk]
  have hn' : (nonce.map u8V).length = 12 := by simp [hn]
  simp -implicitDefEqProofs only [zB1,zB2,zB3,zB4,zB5,zB6,zB7,zB8,zB9,zB10,zB11,y00,y01,y02,y03,y04,y05,y06,y07,y08,y09,y0a,y0b,y0c,y0d,y0e,y0f,y0g,y0h,y0i,y0j,y0k,y0l,y0m,y0n,y0o,y0p,y0q,y0r,y0s,y0t,y0u,y0v,y0w,y0x,y0y,y0z,y10,y11,y12,y13,y14,y15,y16,y17,y18,y19,y1a,y1b,y1c,y1d,y1e,y1f,y1g,y1h,y1i,y1j,y1k,y1l,y1m,y1n,y1o,y1p,y1q,y1r,retO,retL,retV,z69,allV,allP,z6a,z6d,z6e,z6k,z6l,z6m,binV,eqV,unV,oOpt,reduceIte,reduceCtorEq,Nat.reduceEqDiff,Nat.reduceAdd,Nat.reduceMul,Nat.reduceLT,Nat.reduceSub,Int.reduceLT,Int.reduceLE,Int.reduceEq,Int.reduceNe,Int.reduceSub,Int.reduceAdd,Int.reduceMul,Int.reduceBEq,Int.reduceBNe,Int.reduceGT,Int.reduceGE,Nat.reduceGT,Int.reduceToNat,Int.reduceNeg,Nat.reduceLeDiff,Nat.reduceBEq,Nat.reduceBneDiff,Value.cells, hk', hn', List.length_replicate]
  intro b4 hb4 b5 hb5 b8 hb8
  obtain ⟨n54, hb5'⟩ := Heap.set_none.1 hb5
  obtain ⟨n85, hb8a⟩ := Heap.set_none.1 hb8
  obtain ⟨n84, hb8'⟩ := Heap.set_none.1 hb8a
  have le1 : h.le (((h.set b4 (.own 0 (key.map u8V) 32)).set b5 (.own 0 (nonce.map u8V) 12)).set b8 (.own 0 (List.replicate 16 (.int .u8 0)) 16)) := Heap.le_set (Heap.le_set (Heap.le_set (Heap.le_refl _) hb4 _) hb5' _) hb8' _
  have q4 : (((h.set b4 (.own 0 (key.map u8V) 32)).set b5 (.own 0 (nonce.map u8V) 12)).set b8 (.own 0 (List.replicate 16 (.int .u8 0)) 16)) b4 = some (.own 0 (key.map u8V) 32) := set_keep (set_keep (Heap.set_self _ _ _) (Ne.symm n54)) (Ne.symm n84)
  have q5 : (((h.set b4 (.own 0 (key.map u8V) 32)).set b5 (.own 0 (nonce.map u8V) 12)).set b8 (.own 0 (List.replicate 16 (.int .u8 0)) 16)) b5 = some (.own 0 (nonce.map u8V) 12) := set_keep (Heap.set_self _ _ _) (Ne.symm n85)
  have q8 : (((h.set b4 (.own 0 (key.map u8V) 32)).set b5 (.own 0 (nonce.map u8V) 12)).set b8 (.own 0 (List.replicate 16 (.int .u8 0)) 16)) b8 = some (.own 0 (List.replicate 16 (.int .u8 0)) 16) := Heap.set_self _ _ _
  generalize (((h.set b4 (.own 0 (key.map u8V) 32)).set b5 (.own 0 (nonce.map u8V) 12)).set b8 (.own 0 (List.replicate 16 (.int .u8 0)) 16)) = h1 at le1 q4 q5 q8 ⊢
  have u1 := u64_lit beside.length
  have u2 := u64_lit c.length
  try simp -implicitDefEqProofs only [zB1,zB2,zB3,zB4,zB5,zB6,zB7,zB8,zB9,zB10,zB11,y00,y01,y02,y03,y04,y05,y06,y07,y08,y09,y0a,y0b,y0c,y0d,y0e,y0f,y0g,y0h,y0i,y0j,y0k,y0l,y0m,y0n,y0o,y0p,y0q,y0r,y0s,y0t,y0u,y0v,y0w,y0x,y0y,y0z,y10,y11,y12,y13,y14,y15,y16,y17,y18,y19,y1a,y1b,y1c,y1d,y1e,y1f,y1g,y1h,y1i,y1j,y1k,y1l,y1m,y1n,y1o,y1p,y1q,y1r,retO,retL,retV,z69,allV,allP,z6a,z6d,z6e,z6k,z6l,z6m,binV,eqV,unV,oOpt,reduceIte,reduceCtorEq,Nat.reduceEqDiff,Nat.reduceAdd,Nat.reduceMul,Nat.reduceLT,Nat.reduceSub,Int.reduceLT,Int.reduceLE,Int.reduceEq,Int.reduceNe,Int.reduceSub,Int.reduceAdd,Int.reduceMul,Int.reduceBEq,Int.reduceBNe,Int.reduceGT,Int.reduceGE,Nat.reduceGT,Int.reduceToNat,Int.reduceNeg,Nat.reduceLeDiff,Nat.reduceBEq,Nat.reduceBneDiff,Value.cells, u1, u2]
  refine (octet_Little_c E _ [] (by simp) (Ow.nil h1 h1 1).sl (BitVec.ofNat 64 beside.length) 8 (by omega)).mono ?_
  rintro r h2 ⟨le2, ow2⟩
  rw [List.nil_append] at ow2
  simp -implicitDefEqProofs only [zB1,zB2,zB3,zB4,zB5,zB6,zB7,zB8,zB9,zB10,zB11,y00,y01,y02,y03,y04,y05,y06,y07,y08,y09,y0a,y0b,y0c,y0d,y0e,y0f,y0g,y0h,y0i,y0j,y0k,y0l,y0m,y0n,y0o,y0p,y0q,y0r,y0s,y0t,y0u,y0v,y0w,y0x,y0y,y0z,y10,y11,y12,y13,y14,y15,y16,y17,y18,y19,y1a,y1b,y1c,y1d,y1e,y1f,y1g,y1h,y1i,y1j,y1k,y1l,y1m,y1n,y1o,y1p,y1q,y1r,retO,retL,retV,z69,allV,allP,z6a,z6d,z6e,z6k,z6l,z6m,binV,eqV,unV,oOpt,reduceIte,reduceCtorEq,Nat.reduceEqDiff,Nat.reduceAdd,Nat.reduceMul,Nat.reduceLT,Nat.reduceSub,Int.reduceLT,Int.reduceLE,Int.reduceEq,Int.reduceNe,Int.reduceSub,Int.reduceAdd,Int.reduceMul,Int.reduceBEq,Int.reduceBNe,Int.reduceGT,Int.reduceGE,Nat.reduceGT,Int.reduceToNat,Int.reduceNeg,Nat.reduceLeDiff,Nat.reduceBEq,Nat.reduceBneDiff,Value.cells, u2]
  refine (octet_Little_c E _ _ (by rw [littleF_len]; omega) ow2.sl (BitVec.ofNat 64 c.length) 8 (by omega)).mono ?_
  rintro r h3 ⟨le3, ow3⟩
  have le13 := Heap.le_trans le2 le3
  have l4 : hcells h3 ⟨b4, 0, none⟩ 32 = some (key.map u8V) := hcells_own0 (le13 _ _ q4) hk'
  have l5 : hcells h3 ⟨b5, 0, none⟩ 12 = some (nonce.map u8V) := hcells_own0 (le13 _ _ q5) hn'
  have s3 : SlB h3 r (lenB beside.length ++ lenB c.length) := ow3.sl
  obtain ⟨base3, cc3, rfl⟩ := Sl.shape s3
  simp -implicitDefEqProofs only [zB1,zB2,zB3,zB4,zB5,zB6,zB7,zB8,zB9,zB10,zB11,y00,y01,y02,y03,y04,y05,y06,y07,y08,y09,y0a,y0b,y0c,y0d,y0e,y0f,y0g,y0h,y0i,y0j,y0k,y0l,y0m,y0n,y0o,y0p,y0q,y0r,y0s,y0t,y0u,y0v,y0w,y0x,y0y,y0z,y10,y11,y12,y13,y14,y15,y16,y17,y18,y19,y1a,y1b,y1c,y1d,y1e,y1f,y1g,y1h,y1i,y1j,y1k,y1l,y1m,y1n,y1o,y1p,y1q,y1r,retO,retL,retV,z69,allV,allP,z6a,z6d,z6e,z6k,z6l,z6m,binV,eqV,unV,oOpt,reduceIte,reduceCtorEq,Nat.reduceEqDiff,Nat.reduceAdd,Nat.reduceMul,Nat.reduceLT,Nat.reduceSub,Int.reduceLT,Int.reduceLE,Int.reduceEq,Int.reduceNe,Int.reduceSub,Int.reduceAdd,Int.reduceMul,Int.reduceBEq,Int.reduceBNe,Int.reduceGT,Int.reduceGE,Nat.reduceGT,Int.reduceToNat,Int.reduceNeg,Nat.reduceLeDiff,Nat.reduceBEq,Nat.reduceBneDiff,Value.cells, l4, l5]
  refine (aead_Key_c E _ key nonce hk hn).mono ?_
  rintro r h4 ⟨le4, rfl⟩
  have le04 := Heap.le_trans le1 (Heap.le_trans le13 le4)
  simp -implicitDefEqProofs only [zB1,zB2,zB3,zB4,zB5,zB6,zB7,zB8,zB9,zB10,zB11,y00,y01,y02,y03,y04,y05,y06,y07,y08,y09,y0a,y0b,y0c,y0d,y0e,y0f,y0g,y0h,y0i,y0j,y0k,y0l,y0m,y0n,y0o,y0p,y0q,y0r,y0s,y0t,y0u,y0v,y0w,y0x,y0y,y0z,y10,y11,y12,y13,y14,y15,y16,y17,y18,y19,y1a,y1b,y1c,y1d,y1e,y1f,y1g,y1h,y1i,y1j,y1k,y1l,y1m,y1n,y1o,y1p,y1q,y1r,retO,retL,retV,z69,allV,allP,z6a,z6d,z6e,z6k,z6l,z6m,binV,eqV,unV,oOpt,reduceIte,reduceCtorEq,Nat.reduceEqDiff,Nat.reduceAdd,Nat.reduceMul,Nat.reduceLT,Nat.reduceSub,Int.reduceLT,Int.reduceLE,Int.reduceEq,Int.reduceNe,Int.reduceSub,Int.reduceAdd,Int.reduceMul,Int.reduceBEq,Int.reduceBNe,Int.reduceGT,Int.reduceGE,Nat.reduceGT,Int.reduceToNat,Int.reduceNeg,Nat.reduceLeDiff,Nat.reduceBEq,Nat.reduceBneDiff,Value.cells]
  refine (aead_fill_c E _ beside (by omega) (sb.le le04)).mono ?_
  rintro r h5 ⟨le5, ow5⟩
  have s5 := ow5.sl
  obtain ⟨base5, cc5, rfl⟩ := Sl.shape s5
  simp -implicitDefEqProofs only [zB1,zB2,zB3,zB4,zB5,zB6,zB7,zB8,zB9,zB10,zB11,y00,y01,y02,y03,y04,y05,y06,y07,y08,y09,y0a,y0b,y0c,y0d,y0e,y0f,y0g,y0h,y0i,y0j,y0k,y0l,y0m,y0n,y0o,y0p,y0q,y0r,y0s,y0t,y0u,y0v,y0w,y0x,y0y,y0z,y10,y11,y12,y13,y14,y15,y16,y17,y18,y19,y1a,y1b,y1c,y1d,y1e,y1f,y1g,y1h,y1i,y1j,y1k,y1l,y1m,y1n,y1o,y1p,y1q,y1r,retO,retL,retV,z69,allV,allP,z6a,z6d,z6e,z6k,z6l,z6m,binV,eqV,unV,oOpt,reduceIte,reduceCtorEq,Nat.reduceEqDiff,Nat.reduceAdd,Nat.reduceMul,Nat.reduceLT,Nat.reduceSub,Int.reduceLT,Int.reduceLE,Int.reduceEq,Int.reduceNe,Int.reduceSub,Int.reduceAdd,Int.reduceMul,Int.reduceBEq,Int.reduceBNe,Int.reduceGT,Int.reduceGE,Nat.reduceGT,Int.reduceToNat,Int.reduceNeg,Nat.reduceLeDiff,Nat.reduceBEq,Nat.reduceBneDiff,Value.cells]
  refine (aead_fill_c E _ c (by omega) (sc.le (Heap.le_trans le04 le5))).mono ?_
  rintro r h6 ⟨le6, ow6⟩
  have s6 := ow6.sl
  obtain ⟨base6, cc6, rfl⟩ := Sl.shape s6
  have le06 := Heap.le_trans le04 (Heap.le_trans le5 le6)
  have ed : ∀ u1 u2 u3 u4 u5 : Value, u1 :: u2 :: u3 :: u4 :: u5 :: List.drop 5 (List.replicate 5 (Value.slice none 0 0)) = [u1, u2, u3, u4, u5] := fun _ _ _ _ _ => rfl
  simp -implicitDefEqProofs only [zB1,zB2,zB3,zB4,zB5,zB6,zB7,zB8,zB9,zB10,zB11,y00,y01,y02,y03,y04,y05,y06,y07,y08,y09,y0a,y0b,y0c,y0d,y0e,y0f,y0g,y0h,y0i,y0j,y0k,y0l,y0m,y0n,y0o,y0p,y0q,y0r,y0s,y0t,y0u,y0v,y0w,y0x,y0y,y0z,y10,y11,y12,y13,y14,y15,y16,y17,y18,y19,y1a,y1b,y1c,y1d,y1e,y1f,y1g,y1h,y1i,y1j,y1k,y1l,y1m,y1n,y1o,y1p,y1q,y1r,retO,retL,retV,z69,allV,allP,z6a,z6d,z6e,z6k,z6l,z6m,binV,eqV,unV,oOpt,reduceIte,reduceCtorEq,Nat.reduceEqDiff,Nat.reduceAdd,Nat.reduceMul,Nat.reduceLT,Nat.reduceSub,Int.reduceLT,Int.reduceLE,Int.reduceEq,Int.reduceNe,Int.reduceSub,Int.reduceAdd,Int.reduceMul,Int.reduceBEq,Int.reduceBNe,Int.reduceGT,Int.reduceGE,Nat.reduceGT,Int.reduceToNat,Int.reduceNeg,Nat.reduceLeDiff,Nat.reduceBEq,Nat.reduceBneDiff,Value.cells, List.length_replicate, List.drop_replicate, List.replicate_zero]
  intro b10 hb10
  have le16 := Heap.le_trans le13 (Heap.le_trans le4 (Heap.le_trans le5 le6))
  have hz : (List.replicate (fillN beside.length) (0 : UInt8)).length = fillN beside.length := List.length_replicate
  have hz2 : (List.replicate (fillN c.length) (0 : UInt8)).length = fillN c.length := List.length_replicate
  rw [hz] at s5
  rw [hz2] at s6
  have hl := tagged_len beside c
  have hf1 := fillN_lt beside.length
  have hf2 := fillN_lt c.length
  have t5 : SlB h6 (.slice base5 (fillN beside.length) cc5) (List.replicate (fillN beside.length) 0) := by unfold SlB; rw [hz]; exact s5.le le6
  have t6 : SlB h6 (.slice base6 (fillN c.length) cc6) (List.replicate (fillN c.length) 0) := by unfold SlB; rw [hz2]; exact s6
  have sL := SlL.lit5 hb10 (sb.le le06) t5 (sc.le le06) t6 (s3.le (Heap.le_trans le4 (Heap.le_trans le5 le6)))
  refine (poly_Tag_c E _ (akeyF key nonce) _ (akeyF_len _ _) (by simp) (by rw [tagged_flat]; omega) sL).mono ?_
  rintro r h7 ⟨le7, rfl⟩
  rw [tagged_flat, tag_same _ _ (akeyF_len _ _)]
  have le67 := Heap.le_trans (Heap.le_new (Heap.le_refl h6) hb10 _) le7
  have st8 : storeV h7 16 (.pointer (some ⟨b8, 0, none⟩)) (.agg ((atagF key nonce c beside).map u8V).toArray) = some (h7.set b8 (.own 0 ((atagF key nonce c beside).map u8V) 16)) := storeV_agg_at (le67 _ _ (le16 _ _ q8)) (by omega) (by simp [atagF_len]) (one_u8 _) (by simp) (by omega)
  have l8 : hcells (h7.set b8 (.own 0 ((atagF key nonce c beside).map u8V) 16)) ⟨b8, 0, none⟩ 16 = some ((atagF key nonce c beside).map u8V) := z6o (by simp [atagF_len])
  have eA : rowL (tagR (akeyF key nonce) (taggedF beside c)) 16 = atagF key nonce c beside := rfl
  rw [eA]
  simp -implicitDefEqProofs only [zB1,zB2,zB3,zB4,zB5,zB6,zB7,zB8,zB9,zB10,zB11,y00,y01,y02,y03,y04,y05,y06,y07,y08,y09,y0a,y0b,y0c,y0d,y0e,y0f,y0g,y0h,y0i,y0j,y0k,y0l,y0m,y0n,y0o,y0p,y0q,y0r,y0s,y0t,y0u,y0v,y0w,y0x,y0y,y0z,y10,y11,y12,y13,y14,y15,y16,y17,y18,y19,y1a,y1b,y1c,y1d,y1e,y1f,y1g,y1h,y1i,y1j,y1k,y1l,y1m,y1n,y1o,y1p,y1q,y1r,retO,retL,retV,z69,allV,allP,z6a,z6d,z6e,z6k,z6l,z6m,binV,eqV,unV,oOpt,reduceIte,reduceCtorEq,Nat.reduceEqDiff,Nat.reduceAdd,Nat.reduceMul,Nat.reduceLT,Nat.reduceSub,Int.reduceLT,Int.reduceLE,Int.reduceEq,Int.reduceNe,Int.reduceSub,Int.reduceAdd,Int.reduceMul,Int.reduceBEq,Int.reduceBNe,Int.reduceGT,Int.reduceGE,Nat.reduceGT,Int.reduceToNat,Int.reduceNeg,Nat.reduceLeDiff,Nat.reduceBEq,Nat.reduceBneDiff,Value.cells, st8, l8]
  exact Heap.le_set (Heap.le_trans le1 (Heap.le_trans le16 le67)) hb8' _
end Go.Bb
/- Contracts: sealed, opened. -/
namespace Go.Bb
set_option linter.unusedSimpArgs false
set_option linter.unusedVariables false
set_option maxRecDepth 20000
set_option maxHeartbeats 2000000

theorem aead_Seal_c (E : EnvT tab) (h : Heap) {v w : Value} (key nonce plain beside : List UInt8) (hk : key.length = 32) (hn : nonce.length = 12) (hp : plain.length ≤ 65536) (hbs : beside.length ≤ 1000000) (sp : SlB h v plain) (sb : SlB h w beside) :
    ACallN E.toEnv n_aead_Seal [.agg (key.map u8V).toArray, .agg (nonce.map u8V).toArray, v, w] h fun r h' => h.le h' ∧ ∃ r', r = .tuple #[r', .int .i64 0] ∧ OwB h h' r' (sealF key nonce plain beside) := by
  obtain ⟨base, cc, rfl⟩ := Sl.shape sp
  obtain ⟨base2, cc2, rfl⟩ := Sl.shape sb
  refine acall h_aead_Seal ir_aead_Seal rfl rfl (wpA_sound ?_)
  unfold ir_aead_Seal
  have hk' : (key.map u8V).length = 32 := by simp [hk]
  have hn' : (nonce.map u8V).length = 12 := by simp [hn]
  have g : ¬ (65536 : Int) < (plain.length : Int) := by omega
  have g' : (plain.length : Int) ≤ 65536 := by omega
  simp -implicitDefEqProofs only [zB1,zB2,zB3,zB4,zB5,zB6,zB7,zB8,zB9,zB10,zB11,y00,y01,y02,y03,y04,y05,y06,y07,y08,y09,y0a,y0b,y0c,y0d,y0e,y0f,y0g,y0h,y0i,y0j,y0k,y0l,y0m,y0n,y0o,y0p,y0q,y0r,y0s,y0t,y0u,y0v,y0w,y0x,y0y,y0z,y10,y11,y12,y13,y14,y15,y16,y17,y18,y19,y1a,y1b,y1c,y1d,y1e,y1f,y1g,y1h,y1i,y1j,y1k,y1l,y1m,y1n,y1o,y1p,y1q,y1r,retO,retL,retV,z69,allV,allP,z6a,z6d,z6e,z6k,z6l,z6m,binV,eqV,unV,oOpt,reduceIte,reduceCtorEq,Nat.reduceEqDiff,Nat.reduceAdd,Nat.reduceMul,Nat.reduceLT,Nat.reduceSub,Int.reduceLT,Int.reduceLE,Int.reduceEq,Int.reduceNe,Int.reduceSub,Int.reduceAdd,Int.reduceMul,Int.reduceBEq,Int.reduceBNe,Int.reduceGT,Int.reduceGE,Nat.reduceGT,Int.reduceToNat,Int.reduceNeg,Nat.reduceLeDiff,Nat.reduceBEq,Nat.reduceBneDiff,Value.cells, hk', hn', g, g']
  intro b4 hb4 b5 hb5
  obtain ⟨n54, hb5'⟩ := Heap.set_none.1 hb5
  have le1 : h.le ((h.set b4 (.own 0 (key.map u8V) 32)).set b5 (.own 0 (nonce.map u8V) 12)) := Heap.le_set (Heap.le_set (Heap.le_refl _) hb4 _) hb5' _
  have q4 : ((h.set b4 (.own 0 (key.map u8V) 32)).set b5 (.own 0 (nonce.map u8V) 12)) b4 = some (.own 0 (key.map u8V) 32) := set_keep (Heap.set_self _ _ _) (Ne.symm n54)
  have q5 : ((h.set b4 (.own 0 (key.map u8V) 32)).set b5 (.own 0 (nonce.map u8V) 12)) b5 = some (.own 0 (nonce.map u8V) 12) := Heap.set_self _ _ _
  generalize ((h.set b4 (.own 0 (key.map u8V) 32)).set b5 (.own 0 (nonce.map u8V) 12)) = h1 at le1 q4 q5 ⊢
  have l4 : hcells h1 ⟨b4, 0, none⟩ 32 = some (key.map u8V) := hcells_own0 q4 hk'
  have l5 : hcells h1 ⟨b5, 0, none⟩ 12 = some (nonce.map u8V) := hcells_own0 q5 hn'
  have hX := chacha_Xor_c E h1 key nonce plain 1 hk hn (by omega) (by rw [show (1 : U32).toNat = 1 from rfl]; omega) (sp.le le1)
  rw [u32_1] at hX
  try simp -implicitDefEqProofs only [zB1,zB2,zB3,zB4,zB5,zB6,zB7,zB8,zB9,zB10,zB11,y00,y01,y02,y03,y04,y05,y06,y07,y08,y09,y0a,y0b,y0c,y0d,y0e,y0f,y0g,y0h,y0i,y0j,y0k,y0l,y0m,y0n,y0o,y0p,y0q,y0r,y0s,y0t,y0u,y0v,y0w,y0x,y0y,y0z,y10,y11,y12,y13,y14,y15,y16,y17,y18,y19,y1a,y1b,y1c,y1d,y1e,y1f,y1g,y1h,y1i,y1j,y1k,y1l,y1m,y1n,y1o,y1p,y1q,y1r,retO,retL,retV,z69,allV,allP,z6a,z6d,z6e,z6k,z6l,z6m,binV,eqV,unV,oOpt,reduceIte,reduceCtorEq,Nat.reduceEqDiff,Nat.reduceAdd,Nat.reduceMul,Nat.reduceLT,Nat.reduceSub,Int.reduceLT,Int.reduceLE,Int.reduceEq,Int.reduceNe,Int.reduceSub,Int.reduceAdd,Int.reduceMul,Int.reduceBEq,Int.reduceBNe,Int.reduceGT,Int.reduceGE,Nat.reduceGT,Int.reduceToNat,Int.reduceNeg,Nat.reduceLeDiff,Nat.reduceBEq,Nat.reduceBneDiff,Value.cells, l4, l5]
  refine hX.mono ?_
  rintro r h2 ⟨le2, r', rfl, ow2⟩
  have hlen := sxF_len key 1 nonce plain
  have hlen2 := atagF_len key nonce (sxF key 1 nonce plain) beside
  have eS : sealF key nonce plain beside = sxF key 1 nonce plain ++ atagF key nonce (sxF key 1 nonce plain) beside := rfl
  rw [eS]
  generalize sxF key 1 nonce plain = c at ow2 hlen hlen2 ⊢
  have l4' := hcells_le le2 l4
  have l5' := hcells_le le2 l5
  have s2 := ow2.sl
  simp -implicitDefEqProofs only [zB1,zB2,zB3,zB4,zB5,zB6,zB7,zB8,zB9,zB10,zB11,y00,y01,y02,y03,y04,y05,y06,y07,y08,y09,y0a,y0b,y0c,y0d,y0e,y0f,y0g,y0h,y0i,y0j,y0k,y0l,y0m,y0n,y0o,y0p,y0q,y0r,y0s,y0t,y0u,y0v,y0w,y0x,y0y,y0z,y10,y11,y12,y13,y14,y15,y16,y17,y18,y19,y1a,y1b,y1c,y1d,y1e,y1f,y1g,y1h,y1i,y1j,y1k,y1l,y1m,y1n,y1o,y1p,y1q,y1r,retO,retL,retV,z69,allV,allP,z6a,z6d,z6e,z6k,z6l,z6m,binV,eqV,unV,oOpt,reduceIte,reduceCtorEq,Nat.reduceEqDiff,Nat.reduceAdd,Nat.reduceMul,Nat.reduceLT,Nat.reduceSub,Int.reduceLT,Int.reduceLE,Int.reduceEq,Int.reduceNe,Int.reduceSub,Int.reduceAdd,Int.reduceMul,Int.reduceBEq,Int.reduceBNe,Int.reduceGT,Int.reduceGE,Nat.reduceGT,Int.reduceToNat,Int.reduceNeg,Nat.reduceLeDiff,Nat.reduceBEq,Nat.reduceBneDiff,Value.cells]
  unfold ir_aead_Seal_23
  simp -implicitDefEqProofs only [zB1,zB2,zB3,zB4,zB5,zB6,zB7,zB8,zB9,zB10,zB11,y00,y01,y02,y03,y04,y05,y06,y07,y08,y09,y0a,y0b,y0c,y0d,y0e,y0f,y0g,y0h,y0i,y0j,y0k,y0l,y0m,y0n,y0o,y0p,y0q,y0r,y0s,y0t,y0u,y0v,y0w,y0x,y0y,y0z,y10,y11,y12,y13,y14,y15,y16,y17,y18,y19,y1a,y1b,y1c,y1d,y1e,y1f,y1g,y1h,y1i,y1j,y1k,y1l,y1m,y1n,y1o,y1p,y1q,y1r,retO,retL,retV,z69,allV,allP,z6a,z6d,z6e,z6k,z6l,z6m,binV,eqV,unV,oOpt,reduceIte,reduceCtorEq,Nat.reduceEqDiff,Nat.reduceAdd,Nat.reduceMul,Nat.reduceLT,Nat.reduceSub,Int.reduceLT,Int.reduceLE,Int.reduceEq,Int.reduceNe,Int.reduceSub,Int.reduceAdd,Int.reduceMul,Int.reduceBEq,Int.reduceBNe,Int.reduceGT,Int.reduceGE,Nat.reduceGT,Int.reduceToNat,Int.reduceNeg,Nat.reduceLeDiff,Nat.reduceBEq,Nat.reduceBneDiff,Value.cells, l4', l5']
  refine (aead_tag_c E _ key nonce c beside hk hn (by omega) hbs s2 (sb.le (Heap.le_trans le1 le2))).mono ?_
  rintro r h3 ⟨le3, rfl⟩
  generalize atagF key nonce c beside = tg at hlen2 ⊢
  simp -implicitDefEqProofs only [zB1,zB2,zB3,zB4,zB5,zB6,zB7,zB8,zB9,zB10,zB11,y00,y01,y02,y03,y04,y05,y06,y07,y08,y09,y0a,y0b,y0c,y0d,y0e,y0f,y0g,y0h,y0i,y0j,y0k,y0l,y0m,y0n,y0o,y0p,y0q,y0r,y0s,y0t,y0u,y0v,y0w,y0x,y0y,y0z,y10,y11,y12,y13,y14,y15,y16,y17,y18,y19,y1a,y1b,y1c,y1d,y1e,y1f,y1g,y1h,y1i,y1j,y1k,y1l,y1m,y1n,y1o,y1p,y1q,y1r,retO,retL,retV,z69,allV,allP,z6a,z6d,z6e,z6k,z6l,z6m,binV,eqV,unV,oOpt,reduceIte,reduceCtorEq,Nat.reduceEqDiff,Nat.reduceAdd,Nat.reduceMul,Nat.reduceLT,Nat.reduceSub,Int.reduceLT,Int.reduceLE,Int.reduceEq,Int.reduceNe,Int.reduceSub,Int.reduceAdd,Int.reduceMul,Int.reduceBEq,Int.reduceBNe,Int.reduceGT,Int.reduceGE,Nat.reduceGT,Int.reduceToNat,Int.reduceNeg,Nat.reduceLeDiff,Nat.reduceBEq,Nat.reduceBneDiff,Value.cells, List.length_replicate]
  intro b12 hb12
  have s12 : storeV (h3.set b12 (.own 0 (List.replicate 16 (.int .u8 0)) 16)) 16 (.pointer (some ⟨b12, 0, none⟩)) (.agg (tg.map u8V).toArray) = some (h3.set b12 (.own 0 (tg.map u8V) 16)) := z6q (by omega) (by simp [hlen2]) (one_u8 _) (by simp) (by omega)
  have le4 := Heap.le_new le3 hb12 (.own 0 (tg.map u8V) 16)
  have st : SlB (h3.set b12 (.own 0 (tg.map u8V) 16)) (.slice (some ⟨b12, 0, none⟩) 16 16) tg := by
    have := own_sl (H := h3.set b12 (.own 0 (tg.map u8V) 16)) (b := b12) (l := tg) (sz := 16) (Heap.set_self _ _ _)
    rw [hlen2] at this
    exact this
  simp -implicitDefEqProofs only [zB1,zB2,zB3,zB4,zB5,zB6,zB7,zB8,zB9,zB10,zB11,y00,y01,y02,y03,y04,y05,y06,y07,y08,y09,y0a,y0b,y0c,y0d,y0e,y0f,y0g,y0h,y0i,y0j,y0k,y0l,y0m,y0n,y0o,y0p,y0q,y0r,y0s,y0t,y0u,y0v,y0w,y0x,y0y,y0z,y10,y11,y12,y13,y14,y15,y16,y17,y18,y19,y1a,y1b,y1c,y1d,y1e,y1f,y1g,y1h,y1i,y1j,y1k,y1l,y1m,y1n,y1o,y1p,y1q,y1r,retO,retL,retV,z69,allV,allP,z6a,z6d,z6e,z6k,z6l,z6m,binV,eqV,unV,oOpt,reduceIte,reduceCtorEq,Nat.reduceEqDiff,Nat.reduceAdd,Nat.reduceMul,Nat.reduceLT,Nat.reduceSub,Int.reduceLT,Int.reduceLE,Int.reduceEq,Int.reduceNe,Int.reduceSub,Int.reduceAdd,Int.reduceMul,Int.reduceBEq,Int.reduceBNe,Int.reduceGT,Int.reduceGE,Nat.reduceGT,Int.reduceToNat,Int.reduceNeg,Nat.reduceLeDiff,Nat.reduceBEq,Nat.reduceBneDiff,Value.cells, s12, bnds_no, Nat.sub_zero, addz]
  refine appendP_ow (bytes := 1) (m := tg.length) (news := tg.map u8V) (Heap.le_trans (Heap.le_trans le1 le2) le4) (by omega) ((Ow.since le1 ow2).le le4) st (one_u8 _) (by omega) (by omega) ?_
  intro v5 H5 ow5 le5
  simp -implicitDefEqProofs only [zB1,zB2,zB3,zB4,zB5,zB6,zB7,zB8,zB9,zB10,zB11,y00,y01,y02,y03,y04,y05,y06,y07,y08,y09,y0a,y0b,y0c,y0d,y0e,y0f,y0g,y0h,y0i,y0j,y0k,y0l,y0m,y0n,y0o,y0p,y0q,y0r,y0s,y0t,y0u,y0v,y0w,y0x,y0y,y0z,y10,y11,y12,y13,y14,y15,y16,y17,y18,y19,y1a,y1b,y1c,y1d,y1e,y1f,y1g,y1h,y1i,y1j,y1k,y1l,y1m,y1n,y1o,y1p,y1q,y1r,retO,retL,retV,z69,allV,allP,z6a,z6d,z6e,z6k,z6l,z6m,binV,eqV,unV,oOpt,reduceIte,reduceCtorEq,Nat.reduceEqDiff,Nat.reduceAdd,Nat.reduceMul,Nat.reduceLT,Nat.reduceSub,Int.reduceLT,Int.reduceLE,Int.reduceEq,Int.reduceNe,Int.reduceSub,Int.reduceAdd,Int.reduceMul,Int.reduceBEq,Int.reduceBNe,Int.reduceGT,Int.reduceGE,Nat.reduceGT,Int.reduceToNat,Int.reduceNeg,Nat.reduceLeDiff,Nat.reduceBEq,Nat.reduceBneDiff,Value.cells]
  refine ⟨le5, _, rfl, ?_⟩
  unfold OwB
  rw [List.length_append, List.map_append]
  exact ow5
end Go.Bb
/- Contracts: opened. -/
namespace Go.Bb
set_option linter.unusedSimpArgs false
set_option linter.unusedVariables false
set_option maxRecDepth 20000
set_option maxHeartbeats 2000000

theorem aead_Open_c (E : EnvT tab) (h : Heap) {v w : Value} (key nonce sealed beside : List UInt8) (hk : key.length = 32) (hn : nonce.length = 12) (hs : sealed.length ≤ 100000000) (hbs : beside.length ≤ 1000000) (sp : SlB h v sealed) (sb : SlB h w beside) :
    ACallN E.toEnv n_aead_Open [.agg (key.map u8V).toArray, .agg (nonce.map u8V).toArray, v, w] h fun r h' => h.le h' ∧ ∃ r', r = .tuple #[r', .int .i64 (((openF key nonce sealed beside).1 : Nat) : Int)] ∧ OwB h h' r' (openF key nonce sealed beside).2 := by
  obtain ⟨base, cc, rfl⟩ := Sl.shape sp
  obtain ⟨base2, cc2, rfl⟩ := Sl.shape sb
  refine acall h_aead_Open ir_aead_Open rfl rfl (wpA_sound ?_)
  unfold ir_aead_Open
  have hk' : (key.map u8V).length = 32 := by simp [hk]
  have hn' : (nonce.map u8V).length = 12 := by simp [hn]
  have hcap : sealed.length ≤ cc := by
    rcases sp with ⟨e, hn, _⟩ | ⟨a, c', e, hc, _⟩
    · simp only [Value.slice.injEq] at e; omega
    · cases e; exact hc
  unfold openF
  by_cases g1 : 65552 < sealed.length
  · have g : (65552 : Int) < (sealed.length : Int) := by omega
    rw [if_pos g1]
    simp -implicitDefEqProofs only [zB1,zB2,zB3,zB4,zB5,zB6,zB7,zB8,zB9,zB10,zB11,y00,y01,y02,y03,y04,y05,y06,y07,y08,y09,y0a,y0b,y0c,y0d,y0e,y0f,y0g,y0h,y0i,y0j,y0k,y0l,y0m,y0n,y0o,y0p,y0q,y0r,y0s,y0t,y0u,y0v,y0w,y0x,y0y,y0z,y10,y11,y12,y13,y14,y15,y16,y17,y18,y19,y1a,y1b,y1c,y1d,y1e,y1f,y1g,y1h,y1i,y1j,y1k,y1l,y1m,y1n,y1o,y1p,y1q,y1r,retO,retL,retV,z69,allV,allP,z6a,z6d,z6e,z6k,z6l,z6m,binV,eqV,unV,oOpt,reduceIte,reduceCtorEq,Nat.reduceEqDiff,Nat.reduceAdd,Nat.reduceMul,Nat.reduceLT,Nat.reduceSub,Int.reduceLT,Int.reduceLE,Int.reduceEq,Int.reduceNe,Int.reduceSub,Int.reduceAdd,Int.reduceMul,Int.reduceBEq,Int.reduceBNe,Int.reduceGT,Int.reduceGE,Nat.reduceGT,Int.reduceToNat,Int.reduceNeg,Nat.reduceLeDiff,Nat.reduceBEq,Nat.reduceBneDiff,Value.cells, hk', hn', g]
    intro b4 hb4 b5 hb5
    obtain ⟨n54, hb5'⟩ := Heap.set_none.1 hb5
    exact ⟨Heap.le_set (Heap.le_set (Heap.le_refl _) hb4 _) hb5' _, _, rfl, Ow.nil _ _ _⟩
  rw [if_neg g1]
  have g : ¬ (65552 : Int) < (sealed.length : Int) := by omega
  have g' : (sealed.length : Int) ≤ 65552 := by omega
  have w1 : IntKind.i64.wrap ((sealed.length : Int) - 16) = (sealed.length : Int) - 16 := wrapI (by omega) (by omega)
  by_cases g2 : sealed.length < 16
  · have gg : (sealed.length : Int) - 16 < 0 := by omega
    rw [if_pos g2]
    simp -implicitDefEqProofs only [zB1,zB2,zB3,zB4,zB5,zB6,zB7,zB8,zB9,zB10,zB11,y00,y01,y02,y03,y04,y05,y06,y07,y08,y09,y0a,y0b,y0c,y0d,y0e,y0f,y0g,y0h,y0i,y0j,y0k,y0l,y0m,y0n,y0o,y0p,y0q,y0r,y0s,y0t,y0u,y0v,y0w,y0x,y0y,y0z,y10,y11,y12,y13,y14,y15,y16,y17,y18,y19,y1a,y1b,y1c,y1d,y1e,y1f,y1g,y1h,y1i,y1j,y1k,y1l,y1m,y1n,y1o,y1p,y1q,y1r,retO,retL,retV,z69,allV,allP,z6a,z6d,z6e,z6k,z6l,z6m,binV,eqV,unV,oOpt,reduceIte,reduceCtorEq,Nat.reduceEqDiff,Nat.reduceAdd,Nat.reduceMul,Nat.reduceLT,Nat.reduceSub,Int.reduceLT,Int.reduceLE,Int.reduceEq,Int.reduceNe,Int.reduceSub,Int.reduceAdd,Int.reduceMul,Int.reduceBEq,Int.reduceBNe,Int.reduceGT,Int.reduceGE,Nat.reduceGT,Int.reduceToNat,Int.reduceNeg,Nat.reduceLeDiff,Nat.reduceBEq,Nat.reduceBneDiff,Value.cells, hk', hn', g, g', w1, gg]
    intro b4 hb4 b5 hb5
    obtain ⟨n54, hb5'⟩ := Heap.set_none.1 hb5
    exact ⟨Heap.le_set (Heap.le_set (Heap.le_refl _) hb4 _) hb5' _, _, rfl, Ow.nil _ _ _⟩
  rw [if_neg g2]
  obtain ⟨n, hnl⟩ : ∃ n, sealed.length = n + 16 := ⟨sealed.length - 16, by omega⟩
  have en : (sealed.length : Int) - 16 = (n : Int) := by omega
  rw [show sealed.length - 16 = n by omega]
  rw [en] at w1
  have gg : ¬ ((n : Int) < 0) := by omega
  have bd : bnds sealed.length cc none (some (some (.int .i64 (n : Int)))) none = some (0, n, cc) := bnds_hi (by omega) (by omega)
  simp -implicitDefEqProofs only [zB1,zB2,zB3,zB4,zB5,zB6,zB7,zB8,zB9,zB10,zB11,y00,y01,y02,y03,y04,y05,y06,y07,y08,y09,y0a,y0b,y0c,y0d,y0e,y0f,y0g,y0h,y0i,y0j,y0k,y0l,y0m,y0n,y0o,y0p,y0q,y0r,y0s,y0t,y0u,y0v,y0w,y0x,y0y,y0z,y10,y11,y12,y13,y14,y15,y16,y17,y18,y19,y1a,y1b,y1c,y1d,y1e,y1f,y1g,y1h,y1i,y1j,y1k,y1l,y1m,y1n,y1o,y1p,y1q,y1r,retO,retL,retV,z69,allV,allP,z6a,z6d,z6e,z6k,z6l,z6m,binV,eqV,unV,oOpt,reduceIte,reduceCtorEq,Nat.reduceEqDiff,Nat.reduceAdd,Nat.reduceMul,Nat.reduceLT,Nat.reduceSub,Int.reduceLT,Int.reduceLE,Int.reduceEq,Int.reduceNe,Int.reduceSub,Int.reduceAdd,Int.reduceMul,Int.reduceBEq,Int.reduceBNe,Int.reduceGT,Int.reduceGE,Nat.reduceGT,Int.reduceToNat,Int.reduceNeg,Nat.reduceLeDiff,Nat.reduceBEq,Nat.reduceBneDiff,Value.cells, hk', hn', g, g', en, w1, gg, bd, Nat.sub_zero]
  intro b4 hb4 b5 hb5
  obtain ⟨n54, hb5'⟩ := Heap.set_none.1 hb5
  have le1 : h.le ((h.set b4 (.own 0 (key.map u8V) 32)).set b5 (.own 0 (nonce.map u8V) 12)) := Heap.le_set (Heap.le_set (Heap.le_refl _) hb4 _) hb5' _
  have q4 : ((h.set b4 (.own 0 (key.map u8V) 32)).set b5 (.own 0 (nonce.map u8V) 12)) b4 = some (.own 0 (key.map u8V) 32) := set_keep (Heap.set_self _ _ _) (Ne.symm n54)
  have q5 : ((h.set b4 (.own 0 (key.map u8V) 32)).set b5 (.own 0 (nonce.map u8V) 12)) b5 = some (.own 0 (nonce.map u8V) 12) := Heap.set_self _ _ _
  generalize ((h.set b4 (.own 0 (key.map u8V) 32)).set b5 (.own 0 (nonce.map u8V) 12)) = h1 at le1 q4 q5 ⊢
  have l4 : hcells h1 ⟨b4, 0, none⟩ 32 = some (key.map u8V) := hcells_own0 q4 hk'
  have l5 : hcells h1 ⟨b5, 0, none⟩ 12 = some (nonce.map u8V) := hcells_own0 q5 hn'
  rw [addO base cc fun a _ => addr_add0 a]
  have sh := Sl.headB (sp.le le1) (m := n) (by omega)
  have lh : (sealed.take n).length = n := by simp; omega
  refine (Clone_c E h1 (sealed.take n) (by omega) sh).mono ?_
  rintro r h2 ⟨le2, ow2⟩
  have s2 := ow2.sl
  have sT := Sl.midB (a := n) (b := sealed.length) (sp.le le1) (by omega) (by omega)
  have lT : ((sealed.drop n).take (sealed.length - n)) = sealed.drop n := List.take_of_length_le (by simp)
  rw [lT] at sT
  generalize sealed.take n = c at lh s2 ow2 ⊢
  obtain ⟨base3, cc3, rfl⟩ := Sl.shape s2
  have l4' := hcells_le le2 l4
  have l5' := hcells_le le2 l5
  simp -implicitDefEqProofs only [zB1,zB2,zB3,zB4,zB5,zB6,zB7,zB8,zB9,zB10,zB11,y00,y01,y02,y03,y04,y05,y06,y07,y08,y09,y0a,y0b,y0c,y0d,y0e,y0f,y0g,y0h,y0i,y0j,y0k,y0l,y0m,y0n,y0o,y0p,y0q,y0r,y0s,y0t,y0u,y0v,y0w,y0x,y0y,y0z,y10,y11,y12,y13,y14,y15,y16,y17,y18,y19,y1a,y1b,y1c,y1d,y1e,y1f,y1g,y1h,y1i,y1j,y1k,y1l,y1m,y1n,y1o,y1p,y1q,y1r,retO,retL,retV,z69,allV,allP,z6a,z6d,z6e,z6k,z6l,z6m,binV,eqV,unV,oOpt,reduceIte,reduceCtorEq,Nat.reduceEqDiff,Nat.reduceAdd,Nat.reduceMul,Nat.reduceLT,Nat.reduceSub,Int.reduceLT,Int.reduceLE,Int.reduceEq,Int.reduceNe,Int.reduceSub,Int.reduceAdd,Int.reduceMul,Int.reduceBEq,Int.reduceBNe,Int.reduceGT,Int.reduceGE,Nat.reduceGT,Int.reduceToNat,Int.reduceNeg,Nat.reduceLeDiff,Nat.reduceBEq,Nat.reduceBneDiff,Value.cells]
  unfold ir_aead_Open_25
  simp -implicitDefEqProofs only [zB1,zB2,zB3,zB4,zB5,zB6,zB7,zB8,zB9,zB10,zB11,y00,y01,y02,y03,y04,y05,y06,y07,y08,y09,y0a,y0b,y0c,y0d,y0e,y0f,y0g,y0h,y0i,y0j,y0k,y0l,y0m,y0n,y0o,y0p,y0q,y0r,y0s,y0t,y0u,y0v,y0w,y0x,y0y,y0z,y10,y11,y12,y13,y14,y15,y16,y17,y18,y19,y1a,y1b,y1c,y1d,y1e,y1f,y1g,y1h,y1i,y1j,y1k,y1l,y1m,y1n,y1o,y1p,y1q,y1r,retO,retL,retV,z69,allV,allP,z6a,z6d,z6e,z6k,z6l,z6m,binV,eqV,unV,oOpt,reduceIte,reduceCtorEq,Nat.reduceEqDiff,Nat.reduceAdd,Nat.reduceMul,Nat.reduceLT,Nat.reduceSub,Int.reduceLT,Int.reduceLE,Int.reduceEq,Int.reduceNe,Int.reduceSub,Int.reduceAdd,Int.reduceMul,Int.reduceBEq,Int.reduceBNe,Int.reduceGT,Int.reduceGE,Nat.reduceGT,Int.reduceToNat,Int.reduceNeg,Nat.reduceLeDiff,Nat.reduceBEq,Nat.reduceBneDiff,Value.cells, l4', l5']
  refine (aead_tag_c E _ key nonce c beside hk hn (by omega) hbs s2 (sb.le (Heap.le_trans le1 le2))).mono ?_
  rintro r h3 ⟨le3, rfl⟩
  have hlen2 := atagF_len key nonce c beside
  generalize atagF key nonce c beside = tg at hlen2 ⊢
  simp -implicitDefEqProofs only [zB1,zB2,zB3,zB4,zB5,zB6,zB7,zB8,zB9,zB10,zB11,y00,y01,y02,y03,y04,y05,y06,y07,y08,y09,y0a,y0b,y0c,y0d,y0e,y0f,y0g,y0h,y0i,y0j,y0k,y0l,y0m,y0n,y0o,y0p,y0q,y0r,y0s,y0t,y0u,y0v,y0w,y0x,y0y,y0z,y10,y11,y12,y13,y14,y15,y16,y17,y18,y19,y1a,y1b,y1c,y1d,y1e,y1f,y1g,y1h,y1i,y1j,y1k,y1l,y1m,y1n,y1o,y1p,y1q,y1r,retO,retL,retV,z69,allV,allP,z6a,z6d,z6e,z6k,z6l,z6m,binV,eqV,unV,oOpt,reduceIte,reduceCtorEq,Nat.reduceEqDiff,Nat.reduceAdd,Nat.reduceMul,Nat.reduceLT,Nat.reduceSub,Int.reduceLT,Int.reduceLE,Int.reduceEq,Int.reduceNe,Int.reduceSub,Int.reduceAdd,Int.reduceMul,Int.reduceBEq,Int.reduceBNe,Int.reduceGT,Int.reduceGE,Nat.reduceGT,Int.reduceToNat,Int.reduceNeg,Nat.reduceLeDiff,Nat.reduceBEq,Nat.reduceBneDiff,Value.cells, List.length_replicate]
  intro b12 hb12
  have s12 : storeV (h3.set b12 (.own 0 (List.replicate 16 (.int .u8 0)) 16)) 16 (.pointer (some ⟨b12, 0, none⟩)) (.agg (tg.map u8V).toArray) = some (h3.set b12 (.own 0 (tg.map u8V) 16)) := z6q (by omega) (by simp [hlen2]) (one_u8 _) (by simp) (by omega)
  have le4 := Heap.le_new le3 hb12 (.own 0 (tg.map u8V) 16)
  have st : SlB (h3.set b12 (.own 0 (tg.map u8V) 16)) (.slice (some ⟨b12, 0, none⟩) 16 16) tg := by
    have := own_sl (H := h3.set b12 (.own 0 (tg.map u8V) 16)) (b := b12) (l := tg) (sz := 16) (Heap.set_self _ _ _)
    rw [hlen2] at this
    exact this
  have bd2 : bnds sealed.length cc (some (some (.int .i64 (n : Int)))) none none = some (n, sealed.length, cc) := bnds_lo (by omega) (by omega)
  simp -implicitDefEqProofs only [zB1,zB2,zB3,zB4,zB5,zB6,zB7,zB8,zB9,zB10,zB11,y00,y01,y02,y03,y04,y05,y06,y07,y08,y09,y0a,y0b,y0c,y0d,y0e,y0f,y0g,y0h,y0i,y0j,y0k,y0l,y0m,y0n,y0o,y0p,y0q,y0r,y0s,y0t,y0u,y0v,y0w,y0x,y0y,y0z,y10,y11,y12,y13,y14,y15,y16,y17,y18,y19,y1a,y1b,y1c,y1d,y1e,y1f,y1g,y1h,y1i,y1j,y1k,y1l,y1m,y1n,y1o,y1p,y1q,y1r,retO,retL,retV,z69,allV,allP,z6a,z6d,z6e,z6k,z6l,z6m,binV,eqV,unV,oOpt,reduceIte,reduceCtorEq,Nat.reduceEqDiff,Nat.reduceAdd,Nat.reduceMul,Nat.reduceLT,Nat.reduceSub,Int.reduceLT,Int.reduceLE,Int.reduceEq,Int.reduceNe,Int.reduceSub,Int.reduceAdd,Int.reduceMul,Int.reduceBEq,Int.reduceBNe,Int.reduceGT,Int.reduceGE,Nat.reduceGT,Int.reduceToNat,Int.reduceNeg,Nat.reduceLeDiff,Nat.reduceBEq,Nat.reduceBneDiff,Value.cells, s12, bnds_no, Nat.sub_zero, addz, bd2]
  have sT' := sT.le (Heap.le_trans le2 le4)
  have lS : (sealed.drop n).length = sealed.length - n := by simp
  refine (octet_Equal_c E _ tg (sealed.drop n) (by omega) st (by exact sT')).mono ?_
  rintro r h5 ⟨rfl, rfl⟩
  have l4a := hcells_le le4 l4'
  have l5a := hcells_le le4 l5'
  by_cases ht : tg = sealed.drop n
  · rw [if_pos ht]
    have hX := chacha_Xor_c E (h3.set b12 (.own 0 (tg.map u8V) 16)) key nonce c 1 hk hn (by omega) (by rw [show (1 : U32).toNat = 1 from rfl]; omega) (s2.le le4)
    rw [u32_1] at hX
    simp -implicitDefEqProofs only [zB1,zB2,zB3,zB4,zB5,zB6,zB7,zB8,zB9,zB10,zB11,y00,y01,y02,y03,y04,y05,y06,y07,y08,y09,y0a,y0b,y0c,y0d,y0e,y0f,y0g,y0h,y0i,y0j,y0k,y0l,y0m,y0n,y0o,y0p,y0q,y0r,y0s,y0t,y0u,y0v,y0w,y0x,y0y,y0z,y10,y11,y12,y13,y14,y15,y16,y17,y18,y19,y1a,y1b,y1c,y1d,y1e,y1f,y1g,y1h,y1i,y1j,y1k,y1l,y1m,y1n,y1o,y1p,y1q,y1r,retO,retL,retV,z69,allV,allP,z6a,z6d,z6e,z6k,z6l,z6m,binV,eqV,unV,oOpt,reduceIte,reduceCtorEq,Nat.reduceEqDiff,Nat.reduceAdd,Nat.reduceMul,Nat.reduceLT,Nat.reduceSub,Int.reduceLT,Int.reduceLE,Int.reduceEq,Int.reduceNe,Int.reduceSub,Int.reduceAdd,Int.reduceMul,Int.reduceBEq,Int.reduceBNe,Int.reduceGT,Int.reduceGE,Nat.reduceGT,Int.reduceToNat,Int.reduceNeg,Nat.reduceLeDiff,Nat.reduceBEq,Nat.reduceBneDiff,Value.cells, ht]
    rw [← ht]
    simp -implicitDefEqProofs only [zB1,zB2,zB3,zB4,zB5,zB6,zB7,zB8,zB9,zB10,zB11,y00,y01,y02,y03,y04,y05,y06,y07,y08,y09,y0a,y0b,y0c,y0d,y0e,y0f,y0g,y0h,y0i,y0j,y0k,y0l,y0m,y0n,y0o,y0p,y0q,y0r,y0s,y0t,y0u,y0v,y0w,y0x,y0y,y0z,y10,y11,y12,y13,y14,y15,y16,y17,y18,y19,y1a,y1b,y1c,y1d,y1e,y1f,y1g,y1h,y1i,y1j,y1k,y1l,y1m,y1n,y1o,y1p,y1q,y1r,retO,retL,retV,z69,allV,allP,z6a,z6d,z6e,z6k,z6l,z6m,binV,eqV,unV,oOpt,reduceIte,reduceCtorEq,Nat.reduceEqDiff,Nat.reduceAdd,Nat.reduceMul,Nat.reduceLT,Nat.reduceSub,Int.reduceLT,Int.reduceLE,Int.reduceEq,Int.reduceNe,Int.reduceSub,Int.reduceAdd,Int.reduceMul,Int.reduceBEq,Int.reduceBNe,Int.reduceGT,Int.reduceGE,Nat.reduceGT,Int.reduceToNat,Int.reduceNeg,Nat.reduceLeDiff,Nat.reduceBEq,Nat.reduceBneDiff,Value.cells, l4a, l5a]
    refine hX.mono ?_
    rintro r h6 ⟨le6, r', rfl, ow6⟩
    simp -implicitDefEqProofs only [zB1,zB2,zB3,zB4,zB5,zB6,zB7,zB8,zB9,zB10,zB11,y00,y01,y02,y03,y04,y05,y06,y07,y08,y09,y0a,y0b,y0c,y0d,y0e,y0f,y0g,y0h,y0i,y0j,y0k,y0l,y0m,y0n,y0o,y0p,y0q,y0r,y0s,y0t,y0u,y0v,y0w,y0x,y0y,y0z,y10,y11,y12,y13,y14,y15,y16,y17,y18,y19,y1a,y1b,y1c,y1d,y1e,y1f,y1g,y1h,y1i,y1j,y1k,y1l,y1m,y1n,y1o,y1p,y1q,y1r,retO,retL,retV,z69,allV,allP,z6a,z6d,z6e,z6k,z6l,z6m,binV,eqV,unV,oOpt,reduceIte,reduceCtorEq,Nat.reduceEqDiff,Nat.reduceAdd,Nat.reduceMul,Nat.reduceLT,Nat.reduceSub,Int.reduceLT,Int.reduceLE,Int.reduceEq,Int.reduceNe,Int.reduceSub,Int.reduceAdd,Int.reduceMul,Int.reduceBEq,Int.reduceBNe,Int.reduceGT,Int.reduceGE,Nat.reduceGT,Int.reduceToNat,Int.reduceNeg,Nat.reduceLeDiff,Nat.reduceBEq,Nat.reduceBneDiff,Value.cells]
    have le06 := Heap.le_trans le1 (Heap.le_trans le2 le4)
    exact ⟨Heap.le_trans le06 le6, _, rfl, Ow.since le06 ow6⟩
  · rw [if_neg ht]
    simp -implicitDefEqProofs only [zB1,zB2,zB3,zB4,zB5,zB6,zB7,zB8,zB9,zB10,zB11,y00,y01,y02,y03,y04,y05,y06,y07,y08,y09,y0a,y0b,y0c,y0d,y0e,y0f,y0g,y0h,y0i,y0j,y0k,y0l,y0m,y0n,y0o,y0p,y0q,y0r,y0s,y0t,y0u,y0v,y0w,y0x,y0y,y0z,y10,y11,y12,y13,y14,y15,y16,y17,y18,y19,y1a,y1b,y1c,y1d,y1e,y1f,y1g,y1h,y1i,y1j,y1k,y1l,y1m,y1n,y1o,y1p,y1q,y1r,retO,retL,retV,z69,allV,allP,z6a,z6d,z6e,z6k,z6l,z6m,binV,eqV,unV,oOpt,reduceIte,reduceCtorEq,Nat.reduceEqDiff,Nat.reduceAdd,Nat.reduceMul,Nat.reduceLT,Nat.reduceSub,Int.reduceLT,Int.reduceLE,Int.reduceEq,Int.reduceNe,Int.reduceSub,Int.reduceAdd,Int.reduceMul,Int.reduceBEq,Int.reduceBNe,Int.reduceGT,Int.reduceGE,Nat.reduceGT,Int.reduceToNat,Int.reduceNeg,Nat.reduceLeDiff,Nat.reduceBEq,Nat.reduceBneDiff,Value.cells, ht]
    exact ⟨Heap.le_trans le1 (Heap.le_trans le2 le4), _, rfl, Ow.nil _ _ _⟩
end Go.Bb
/- The document's poly: plus. -/
namespace Go.Bb
set_option linter.unusedSimpArgs false
set_option linter.unusedVariables false
set_option maxRecDepth 20000
set_option maxHeartbeats 2000000

theorem ref4_plus_c (E : EnvT tab) (h : Heap) (f g : Nat → Nat) (hf : ∀ j, j < 17 → f j < 16777216) (hg : ∀ j, j < 17 → g j < 16777216) :
    ACallN E.toEnv n_bandboxref4_plus [.agg (rowK .u32 f 17).toArray, .agg (rowK .u32 g 17).toArray] h fun r h' => h.le h' ∧ r = .agg (rowK .u32 (addD f g) 17).toArray := by
  refine acall h_bandboxref4_plus ir_bandboxref4_plus rfl rfl (wpA_sound ?_)
  unfold ir_bandboxref4_plus
  simp -implicitDefEqProofs only [zB1,zB2,zB3,zB4,zB5,zB6,zB7,zB8,zB9,zB10,zB11,y00,y01,y02,y03,y04,y05,y06,y07,y08,y09,y0a,y0b,y0c,y0d,y0e,y0f,y0g,y0h,y0i,y0j,y0k,y0l,y0m,y0n,y0o,y0p,y0q,y0r,y0s,y0t,y0u,y0v,y0w,y0x,y0y,y0z,y10,y11,y12,y13,y14,y15,y16,y17,y18,y19,y1a,y1b,y1c,y1d,y1e,y1f,y1g,y1h,y1i,y1j,y1k,y1l,y1m,y1n,y1o,y1p,y1q,y1r,retO,retL,retV,z69,allV,allP,z6a,z6d,z6e,z6k,z6l,z6m,binV,eqV,unV,oOpt,reduceIte,reduceCtorEq,Nat.reduceEqDiff,Nat.reduceAdd,Nat.reduceMul,Nat.reduceLT,Nat.reduceSub,Int.reduceLT,Int.reduceLE,Int.reduceEq,Int.reduceNe,Int.reduceSub,Int.reduceAdd,Int.reduceMul,Int.reduceBEq,Int.reduceBNe,Int.reduceGT,Int.reduceGE,Nat.reduceGT,Int.reduceToNat,Int.reduceNeg,Nat.reduceLeDiff,Nat.reduceBEq,Nat.reduceBneDiff,Value.cells]
  rw [rowK_len, rowK_len]
  intro b2 hb2 b3 hb3 b4 hb4
  rw [List.length_replicate]
  obtain ⟨n32, hb3'⟩ := Heap.set_none.1 hb3
  obtain ⟨n43, hb4a⟩ := Heap.set_none.1 hb4
  obtain ⟨n42, hb4'⟩ := Heap.set_none.1 hb4a
  try simp -implicitDefEqProofs only [zB1,zB2,zB3,zB4,zB5,zB6,zB7,zB8,zB9,zB10,zB11,y00,y01,y02,y03,y04,y05,y06,y07,y08,y09,y0a,y0b,y0c,y0d,y0e,y0f,y0g,y0h,y0i,y0j,y0k,y0l,y0m,y0n,y0o,y0p,y0q,y0r,y0s,y0t,y0u,y0v,y0w,y0x,y0y,y0z,y10,y11,y12,y13,y14,y15,y16,y17,y18,y19,y1a,y1b,y1c,y1d,y1e,y1f,y1g,y1h,y1i,y1j,y1k,y1l,y1m,y1n,y1o,y1p,y1q,y1r,retO,retL,retV,z69,allV,allP,z6a,z6d,z6e,z6k,z6l,z6m,binV,eqV,unV,oOpt,reduceIte,reduceCtorEq,Nat.reduceEqDiff,Nat.reduceAdd,Nat.reduceMul,Nat.reduceLT,Nat.reduceSub,Int.reduceLT,Int.reduceLE,Int.reduceEq,Int.reduceNe,Int.reduceSub,Int.reduceAdd,Int.reduceMul,Int.reduceBEq,Int.reduceBNe,Int.reduceGT,Int.reduceGE,Nat.reduceGT,Int.reduceToNat,Int.reduceNeg,Nat.reduceLeDiff,Nat.reduceBEq,Nat.reduceBneDiff,Value.cells]
  have le0 : h.le (((h.set b2 (.own 0 (rowK .u32 f 17) 17)).set b3 (.own 0 (rowK .u32 g 17) 17)).set b4 (.own 0 (List.replicate 17 (.int .u32 0)) 17)) := Heap.le_set (Heap.le_set (Heap.le_set (Heap.le_refl _) hb2 _) hb3' _) hb4' _
  have q2 : (((h.set b2 (.own 0 (rowK .u32 f 17) 17)).set b3 (.own 0 (rowK .u32 g 17) 17)).set b4 (.own 0 (List.replicate 17 (.int .u32 0)) 17)) b2 = some (.own 0 (rowK .u32 f 17) 17) := by
    rw [Heap.set_ne (Ne.symm n42), Heap.set_ne (Ne.symm n32), Heap.set_self]
  have q3 : (((h.set b2 (.own 0 (rowK .u32 f 17) 17)).set b3 (.own 0 (rowK .u32 g 17) 17)).set b4 (.own 0 (List.replicate 17 (.int .u32 0)) 17)) b3 = some (.own 0 (rowK .u32 g 17) 17) := by
    rw [Heap.set_ne (Ne.symm n43), Heap.set_self]
  have q4 : (((h.set b2 (.own 0 (rowK .u32 f 17) 17)).set b3 (.own 0 (rowK .u32 g 17) 17)).set b4 (.own 0 (List.replicate 17 (.int .u32 0)) 17)) b4 = some (.own 0 (List.replicate 17 (.int .u32 0)) 17) := Heap.set_self _ _ _
  generalize (((h.set b2 (.own 0 (rowK .u32 f 17) 17)).set b3 (.own 0 (rowK .u32 g 17) 17)).set b4 (.own 0 (List.replicate 17 (.int .u32 0)) 17)) = h1 at le0 q2 q3 q4 ⊢
  have hc := carD_le (f := f) (g := g) (B := 16777215) (fun j hj => by have := hf j hj; omega) (fun j hj => by have := hg j hj; omega)
  refine wp_loop' (fun m t H => h.le H ∧ ∃ i : Nat, i ≤ 17 ∧ m = 17 - i ∧ (∃ c : Nat, t = tl [(2, .pointer (some ⟨b2, 0, none⟩)), (3, .pointer (some ⟨b3, 0, none⟩)), (4, .pointer (some ⟨b4, 0, none⟩)), (5, .int .u32 (c : Nat)), (6, .int .i64 i)] ∧ (i ≤ 16 → c = carD f g i)) ∧
      H b2 = some (.own 0 (rowK .u32 (blendF (addD f g) f i) 17) 17) ∧ H b3 = some (.own 0 (rowK .u32 g 17) 17) ∧ H b4 = some (.own 0 (List.replicate 17 (.int .u32 0)) 17)) 17 ?_ ?_
  · refine ⟨le0, 0, by omega, rfl, ⟨0, rfl, fun _ => rfl⟩, ?_, q3, q4⟩
    rw [q2, blendF_0]
  · rintro m t H ⟨leH, i, hi, rfl, ⟨c, rfl, hci⟩, q2, q3, q4⟩
    by_cases hlt : (i : Int) < 17
    · have hi' : i < 17 := by omega
      have e0 : (0 : Int) ≤ i := by omega
      obtain rfl := hci (by omega)
      have g2 := rowK_at q2 hi'
      rw [blendF_at] at g2
      have g3 := rowK_at q3 hi'
      have hfi := hf i hi'
      have hgi := hg i hi'
      have hcc := hc i (by omega)
      have w1 : IntKind.u32.wrap ((carD f g i : Int) + (f i : Int)) = ((carD f g i + f i : Nat) : Int) := by rw [← Int.natCast_add]; exact wrap_u32n (by omega)
      have w2 : IntKind.u32.wrap (((carD f g i + f i : Nat) : Int) + (g i : Int)) = ((carD f g i + f i + g i : Nat) : Int) := by rw [← Int.natCast_add]; exact wrap_u32n (by omega)
      have s1 := rowK_store (z := carD f g i + f i + g i) q2 hi' (Nat.le_refl _)
      have q2' : (H.set b2 (.own 0 (rowK .u32 (upd (blendF (addD f g) f i) i (carD f g i + f i + g i)) 17) 17)) b2 = some (.own 0 (rowK .u32 (upd (blendF (addD f g) f i) i (carD f g i + f i + g i)) 17) 17) := Heap.set_self _ _ _
      have s2 := rowK_store (z := (carD f g i + f i + g i) % 256) q2' hi' (Nat.le_refl _)
      rw [Heap.set_set] at s2
      have w3 := u32_and255 (a := carD f g i + f i + g i) (by omega)
      have w4 := u32_shr8 (carD f g i + f i + g i)
      have w4' := u32_shr8' (carD f g i + f i + g i)
      have w7 : IntKind.i64.wrap ((i : Int) + 1) = ((i + 1 : Nat) : Int) := wrapN (by omega)
      by_cases h16 : (i : Int) < 16
      · simp -implicitDefEqProofs only [zB1,zB2,zB3,zB4,zB5,zB6,zB7,zB8,zB9,zB10,zB11,y00,y01,y02,y03,y04,y05,y06,y07,y08,y09,y0a,y0b,y0c,y0d,y0e,y0f,y0g,y0h,y0i,y0j,y0k,y0l,y0m,y0n,y0o,y0p,y0q,y0r,y0s,y0t,y0u,y0v,y0w,y0x,y0y,y0z,y10,y11,y12,y13,y14,y15,y16,y17,y18,y19,y1a,y1b,y1c,y1d,y1e,y1f,y1g,y1h,y1i,y1j,y1k,y1l,y1m,y1n,y1o,y1p,y1q,y1r,retO,retL,retV,z69,allV,allP,z6a,z6d,z6e,z6k,z6l,z6m,binV,eqV,unV,oOpt,reduceIte,reduceCtorEq,Nat.reduceEqDiff,Nat.reduceAdd,Nat.reduceMul,Nat.reduceLT,Nat.reduceSub,Int.reduceLT,Int.reduceLE,Int.reduceEq,Int.reduceNe,Int.reduceSub,Int.reduceAdd,Int.reduceMul,Int.reduceBEq,Int.reduceBNe,Int.reduceGT,Int.reduceGE,Nat.reduceGT,Int.reduceToNat,Int.reduceNeg,Nat.reduceLeDiff,Nat.reduceBEq,Nat.reduceBneDiff,Value.cells, hlt, e0, Int.toNat_natCast, g2, g3, w1, w2, s1, s2, h16, w3, w4, w4', w7]
        refine ⟨_, by omega, Heap.le_set leH hb2 _, i + 1, by omega, rfl, ⟨_, rfl, fun _ => rfl⟩, ?_, by rw [Heap.set_ne n32]; exact q3, by rw [Heap.set_ne n42]; exact q4⟩
        rw [Heap.set_self]
        rw [upd_upd, ← blendF_step, show addD f g i = (carD f g i + f i + g i) % 256 by unfold addD; rw [if_pos (by omega)]]
      · simp -implicitDefEqProofs only [zB1,zB2,zB3,zB4,zB5,zB6,zB7,zB8,zB9,zB10,zB11,y00,y01,y02,y03,y04,y05,y06,y07,y08,y09,y0a,y0b,y0c,y0d,y0e,y0f,y0g,y0h,y0i,y0j,y0k,y0l,y0m,y0n,y0o,y0p,y0q,y0r,y0s,y0t,y0u,y0v,y0w,y0x,y0y,y0z,y10,y11,y12,y13,y14,y15,y16,y17,y18,y19,y1a,y1b,y1c,y1d,y1e,y1f,y1g,y1h,y1i,y1j,y1k,y1l,y1m,y1n,y1o,y1p,y1q,y1r,retO,retL,retV,z69,allV,allP,z6a,z6d,z6e,z6k,z6l,z6m,binV,eqV,unV,oOpt,reduceIte,reduceCtorEq,Nat.reduceEqDiff,Nat.reduceAdd,Nat.reduceMul,Nat.reduceLT,Nat.reduceSub,Int.reduceLT,Int.reduceLE,Int.reduceEq,Int.reduceNe,Int.reduceSub,Int.reduceAdd,Int.reduceMul,Int.reduceBEq,Int.reduceBNe,Int.reduceGT,Int.reduceGE,Nat.reduceGT,Int.reduceToNat,Int.reduceNeg,Nat.reduceLeDiff,Nat.reduceBEq,Nat.reduceBneDiff,Value.cells, hlt, e0, Int.toNat_natCast, g2, g3, w1, w2, s1, h16, w7]
        refine ⟨_, by omega, Heap.le_set leH hb2 _, i + 1, by omega, rfl, ⟨_, rfl, fun _ => by omega⟩, ?_, by rw [Heap.set_ne n32]; exact q3, by rw [Heap.set_ne n42]; exact q4⟩
        rw [Heap.set_self]
        rw [← blendF_step, show addD f g i = carD f g i + f i + g i by unfold addD; rw [if_neg (by omega)]]
    · obtain rfl : i = 17 := by omega
      have q2' : H b2 = some (.own 0 (rowK .u32 (addD f g) 17) 17) := by
        rw [q2, blendF_all]
      have l2 := rowK_cells q2'
      have s4 := rowK_agg (k := .u32) (f := addD f g) q4 (by simp) (by omega)
      have l4 : hcells (H.set b4 (.own 0 (rowK .u32 (addD f g) 17) 17)) ⟨b4, 0, none⟩ 17 = some (rowK .u32 (addD f g) 17) := z6o (rowK_len _ _ _)
      simp -implicitDefEqProofs only [zB1,zB2,zB3,zB4,zB5,zB6,zB7,zB8,zB9,zB10,zB11,y00,y01,y02,y03,y04,y05,y06,y07,y08,y09,y0a,y0b,y0c,y0d,y0e,y0f,y0g,y0h,y0i,y0j,y0k,y0l,y0m,y0n,y0o,y0p,y0q,y0r,y0s,y0t,y0u,y0v,y0w,y0x,y0y,y0z,y10,y11,y12,y13,y14,y15,y16,y17,y18,y19,y1a,y1b,y1c,y1d,y1e,y1f,y1g,y1h,y1i,y1j,y1k,y1l,y1m,y1n,y1o,y1p,y1q,y1r,retO,retL,retV,z69,allV,allP,z6a,z6d,z6e,z6k,z6l,z6m,binV,eqV,unV,oOpt,reduceIte,reduceCtorEq,Nat.reduceEqDiff,Nat.reduceAdd,Nat.reduceMul,Nat.reduceLT,Nat.reduceSub,Int.reduceLT,Int.reduceLE,Int.reduceEq,Int.reduceNe,Int.reduceSub,Int.reduceAdd,Int.reduceMul,Int.reduceBEq,Int.reduceBNe,Int.reduceGT,Int.reduceGE,Nat.reduceGT,Int.reduceToNat,Int.reduceNeg,Nat.reduceLeDiff,Nat.reduceBEq,Nat.reduceBneDiff,Value.cells, hlt, l2, s4, l4]
      exact Heap.le_set leH hb4' _
end Go.Bb
/- The document's poly: times. -/
namespace Go.Bb
set_option linter.unusedSimpArgs false
set_option linter.unusedVariables false
set_option maxRecDepth 20000
set_option maxHeartbeats 4000000

theorem ref4_times_c (E : EnvT tab) (h : Heap) (f g : Nat → Nat) (hf : ∀ j, j < 17 → f j < 256) (hg : ∀ j, j < 17 → g j < 256) :
    ACallN E.toEnv n_bandboxref4_times [.agg (rowK .u32 f 17).toArray, .agg (rowK .u32 g 17).toArray] h fun r h' => h.le h' ∧ ∃ p, r = .agg (rowK .u32 p 17).toArray ∧ NormD p ∧ valD p 17 % PQ = valD f 17 * valD g 17 % PQ := by
  refine acall h_bandboxref4_times ir_bandboxref4_times rfl rfl (wpA_sound ?_)
  unfold ir_bandboxref4_times
  simp -implicitDefEqProofs only [zB1,zB2,zB3,zB4,zB5,zB6,zB7,zB8,zB9,zB10,zB11,y00,y01,y02,y03,y04,y05,y06,y07,y08,y09,y0a,y0b,y0c,y0d,y0e,y0f,y0g,y0h,y0i,y0j,y0k,y0l,y0m,y0n,y0o,y0p,y0q,y0r,y0s,y0t,y0u,y0v,y0w,y0x,y0y,y0z,y10,y11,y12,y13,y14,y15,y16,y17,y18,y19,y1a,y1b,y1c,y1d,y1e,y1f,y1g,y1h,y1i,y1j,y1k,y1l,y1m,y1n,y1o,y1p,y1q,y1r,retO,retL,retV,z69,allV,allP,z6a,z6d,z6e,z6k,z6l,z6m,binV,eqV,unV,oOpt,reduceIte,reduceCtorEq,Nat.reduceEqDiff,Nat.reduceAdd,Nat.reduceMul,Nat.reduceLT,Nat.reduceSub,Int.reduceLT,Int.reduceLE,Int.reduceEq,Int.reduceNe,Int.reduceSub,Int.reduceAdd,Int.reduceMul,Int.reduceBEq,Int.reduceBNe,Int.reduceGT,Int.reduceGE,Nat.reduceGT,Int.reduceToNat,Int.reduceNeg,Nat.reduceLeDiff,Nat.reduceBEq,Nat.reduceBneDiff,Value.cells]
  rw [rowK_len, rowK_len]
  intro b2 hb2 b3 hb3 b4 hb4
  rw [List.length_replicate]
  obtain ⟨n32, hb3'⟩ := Heap.set_none.1 hb3
  obtain ⟨n43, hb4a⟩ := Heap.set_none.1 hb4
  obtain ⟨n42, hb4'⟩ := Heap.set_none.1 hb4a
  try simp -implicitDefEqProofs only [zB1,zB2,zB3,zB4,zB5,zB6,zB7,zB8,zB9,zB10,zB11,y00,y01,y02,y03,y04,y05,y06,y07,y08,y09,y0a,y0b,y0c,y0d,y0e,y0f,y0g,y0h,y0i,y0j,y0k,y0l,y0m,y0n,y0o,y0p,y0q,y0r,y0s,y0t,y0u,y0v,y0w,y0x,y0y,y0z,y10,y11,y12,y13,y14,y15,y16,y17,y18,y19,y1a,y1b,y1c,y1d,y1e,y1f,y1g,y1h,y1i,y1j,y1k,y1l,y1m,y1n,y1o,y1p,y1q,y1r,retO,retL,retV,z69,allV,allP,z6a,z6d,z6e,z6k,z6l,z6m,binV,eqV,unV,oOpt,reduceIte,reduceCtorEq,Nat.reduceEqDiff,Nat.reduceAdd,Nat.reduceMul,Nat.reduceLT,Nat.reduceSub,Int.reduceLT,Int.reduceLE,Int.reduceEq,Int.reduceNe,Int.reduceSub,Int.reduceAdd,Int.reduceMul,Int.reduceBEq,Int.reduceBNe,Int.reduceGT,Int.reduceGE,Nat.reduceGT,Int.reduceToNat,Int.reduceNeg,Nat.reduceLeDiff,Nat.reduceBEq,Nat.reduceBneDiff,Value.cells]
  have le0 : h.le (((h.set b2 (.own 0 (rowK .u32 f 17) 17)).set b3 (.own 0 (rowK .u32 g 17) 17)).set b4 (.own 0 (List.replicate 17 (.int .u32 0)) 17)) := Heap.le_set (Heap.le_set (Heap.le_set (Heap.le_refl _) hb2 _) hb3' _) hb4' _
  have q2 : (((h.set b2 (.own 0 (rowK .u32 f 17) 17)).set b3 (.own 0 (rowK .u32 g 17) 17)).set b4 (.own 0 (List.replicate 17 (.int .u32 0)) 17)) b2 = some (.own 0 (rowK .u32 f 17) 17) := by
    rw [Heap.set_ne (Ne.symm n42), Heap.set_ne (Ne.symm n32), Heap.set_self]
  have q3 : (((h.set b2 (.own 0 (rowK .u32 f 17) 17)).set b3 (.own 0 (rowK .u32 g 17) 17)).set b4 (.own 0 (List.replicate 17 (.int .u32 0)) 17)) b3 = some (.own 0 (rowK .u32 g 17) 17) := by
    rw [Heap.set_ne (Ne.symm n43), Heap.set_self]
  have q4 : (((h.set b2 (.own 0 (rowK .u32 f 17) 17)).set b3 (.own 0 (rowK .u32 g 17) 17)).set b4 (.own 0 (List.replicate 17 (.int .u32 0)) 17)) b4 = some (.own 0 (List.replicate 17 (.int .u32 0)) 17) := Heap.set_self _ _ _
  generalize (((h.set b2 (.own 0 (rowK .u32 f 17) 17)).set b3 (.own 0 (rowK .u32 g 17) 17)).set b4 (.own 0 (List.replicate 17 (.int .u32 0)) 17)) = h1 at le0 q2 q3 q4 ⊢
  intro b5 hb5
  rw [List.length_replicate, rowK_zero]
  have hb5' := Heap.none_of_le le0 hb5
  have n52 := Ne.symm (ne_of_none hb5 q2)
  have n53 := Ne.symm (ne_of_none hb5 q3)
  have n54 := Ne.symm (ne_of_none hb5 q4)
  try simp -implicitDefEqProofs only [zB1,zB2,zB3,zB4,zB5,zB6,zB7,zB8,zB9,zB10,zB11,y00,y01,y02,y03,y04,y05,y06,y07,y08,y09,y0a,y0b,y0c,y0d,y0e,y0f,y0g,y0h,y0i,y0j,y0k,y0l,y0m,y0n,y0o,y0p,y0q,y0r,y0s,y0t,y0u,y0v,y0w,y0x,y0y,y0z,y10,y11,y12,y13,y14,y15,y16,y17,y18,y19,y1a,y1b,y1c,y1d,y1e,y1f,y1g,y1h,y1i,y1j,y1k,y1l,y1m,y1n,y1o,y1p,y1q,y1r,retO,retL,retV,z69,allV,allP,z6a,z6d,z6e,z6k,z6l,z6m,binV,eqV,unV,oOpt,reduceIte,reduceCtorEq,Nat.reduceEqDiff,Nat.reduceAdd,Nat.reduceMul,Nat.reduceLT,Nat.reduceSub,Int.reduceLT,Int.reduceLE,Int.reduceEq,Int.reduceNe,Int.reduceSub,Int.reduceAdd,Int.reduceMul,Int.reduceBEq,Int.reduceBNe,Int.reduceGT,Int.reduceGE,Nat.reduceGT,Int.reduceToNat,Int.reduceNeg,Nat.reduceLeDiff,Nat.reduceBEq,Nat.reduceBneDiff,Value.cells]
  refine wp_loop' (fun m t H => h.le H ∧ ∃ i : Nat, i ≤ 17 ∧ m = 17 - i ∧ t = tl [(2, .pointer (some ⟨b2, 0, none⟩)), (3, .pointer (some ⟨b3, 0, none⟩)), (4, .pointer (some ⟨b4, 0, none⟩)), (5, .pointer (some ⟨b5, 0, none⟩)), (6, .int .i64 i)] ∧
      H b2 = some (.own 0 (rowK .u32 f 17) 17) ∧ H b3 = some (.own 0 (rowK .u32 g 17) 17) ∧ H b4 = some (.own 0 (List.replicate 17 (.int .u32 0)) 17) ∧
      ∃ p, H b5 = some (.own 0 (rowK .u64 p 17) 17) ∧ (∀ j, j < 17 → p j ≤ 20808000 * (17 * i)) ∧ valD p 17 % PQ = valD f i * valD g 17 % PQ) 17 ?_ ?_
  · refine ⟨Heap.le_new le0 hb5 _, 0, by omega, rfl, rfl, by rw [Heap.set_ne (Ne.symm n52)]; exact q2, by rw [Heap.set_ne (Ne.symm n53)]; exact q3, by rw [Heap.set_ne (Ne.symm n54)]; exact q4, fun _ => 0, Heap.set_self _ _ _, fun j hj => Nat.zero_le _, ?_⟩
    have : valD (fun _ => 0) 17 = 0 := by decide
    rw [this]; simp [valD]
  · clear q2 q3 q4
    rintro m t H ⟨leH, i, hi, rfl, rfl, q2, q3, q4, p, q5, hp, hv⟩
    by_cases hlt : (i : Int) < 17
    · have hi' : i < 17 := by omega
      have e0 : (0 : Int) ≤ i := by omega
      simp -implicitDefEqProofs only [zB1,zB2,zB3,zB4,zB5,zB6,zB7,zB8,zB9,zB10,zB11,y00,y01,y02,y03,y04,y05,y06,y07,y08,y09,y0a,y0b,y0c,y0d,y0e,y0f,y0g,y0h,y0i,y0j,y0k,y0l,y0m,y0n,y0o,y0p,y0q,y0r,y0s,y0t,y0u,y0v,y0w,y0x,y0y,y0z,y10,y11,y12,y13,y14,y15,y16,y17,y18,y19,y1a,y1b,y1c,y1d,y1e,y1f,y1g,y1h,y1i,y1j,y1k,y1l,y1m,y1n,y1o,y1p,y1q,y1r,retO,retL,retV,z69,allV,allP,z6a,z6d,z6e,z6k,z6l,z6m,binV,eqV,unV,oOpt,reduceIte,reduceCtorEq,Nat.reduceEqDiff,Nat.reduceAdd,Nat.reduceMul,Nat.reduceLT,Nat.reduceSub,Int.reduceLT,Int.reduceLE,Int.reduceEq,Int.reduceNe,Int.reduceSub,Int.reduceAdd,Int.reduceMul,Int.reduceBEq,Int.reduceBNe,Int.reduceGT,Int.reduceGE,Nat.reduceGT,Int.reduceToNat,Int.reduceNeg,Nat.reduceLeDiff,Nat.reduceBEq,Nat.reduceBneDiff,Value.cells, hlt]
      unfold ir_bandboxref4_times_18
      simp -implicitDefEqProofs only [zB1,zB2,zB3,zB4,zB5,zB6,zB7,zB8,zB9,zB10,zB11,y00,y01,y02,y03,y04,y05,y06,y07,y08,y09,y0a,y0b,y0c,y0d,y0e,y0f,y0g,y0h,y0i,y0j,y0k,y0l,y0m,y0n,y0o,y0p,y0q,y0r,y0s,y0t,y0u,y0v,y0w,y0x,y0y,y0z,y10,y11,y12,y13,y14,y15,y16,y17,y18,y19,y1a,y1b,y1c,y1d,y1e,y1f,y1g,y1h,y1i,y1j,y1k,y1l,y1m,y1n,y1o,y1p,y1q,y1r,retO,retL,retV,z69,allV,allP,z6a,z6d,z6e,z6k,z6l,z6m,binV,eqV,unV,oOpt,reduceIte,reduceCtorEq,Nat.reduceEqDiff,Nat.reduceAdd,Nat.reduceMul,Nat.reduceLT,Nat.reduceSub,Int.reduceLT,Int.reduceLE,Int.reduceEq,Int.reduceNe,Int.reduceSub,Int.reduceAdd,Int.reduceMul,Int.reduceBEq,Int.reduceBNe,Int.reduceGT,Int.reduceGE,Nat.reduceGT,Int.reduceToNat,Int.reduceNeg,Nat.reduceLeDiff,Nat.reduceBEq,Nat.reduceBneDiff,Value.cells]
      refine wp_loop' (fun m t H => h.le H ∧ ∃ k : Nat, k ≤ 17 ∧ m = 17 - k ∧ t = tl [(2, .pointer (some ⟨b2, 0, none⟩)), (3, .pointer (some ⟨b3, 0, none⟩)), (4, .pointer (some ⟨b4, 0, none⟩)), (5, .pointer (some ⟨b5, 0, none⟩)), (6, .int .i64 i), (7, .int .i64 k)] ∧
        H b2 = some (.own 0 (rowK .u32 f 17) 17) ∧ H b3 = some (.own 0 (rowK .u32 g 17) 17) ∧ H b4 = some (.own 0 (List.replicate 17 (.int .u32 0)) 17) ∧
        ∃ p, H b5 = some (.own 0 (rowK .u64 p 17) 17) ∧ (∀ j, j < 17 → p j ≤ 20808000 * (17 * i + k)) ∧ valD p 17 % PQ = (valD f i * valD g 17 + f i * 256 ^ i * valD g k) % PQ) 17 ?_ ?_
      · exact ⟨leH, 0, by omega, rfl, rfl, q2, q3, q4, p, q5, fun j hj => by have := hp j hj; omega, by rw [hv, valD, Nat.mul_zero, Nat.add_zero]⟩
      · clear q2 q3 q4 q5 hp hv p
        rintro m t H ⟨leH, k, hk, rfl, rfl, q2, q3, q4, p, q5, hp, hv⟩
        by_cases hlk : (k : Int) < 17
        · have hk' : k < 17 := by omega
          have k0 : (0 : Int) ≤ k := by omega
          have g2 := rowK_at q2 hi'
          have g3 := rowK_at q3 hk'
          have hfi := hf i hi'
          have hgk := hg k hk'
          have hprod : f i * g k ≤ 65025 := by
            have := Nat.mul_le_mul (show f i ≤ 255 by omega) (show g k ≤ 255 by omega)
            omega
          have w1 : IntKind.u64.wrap (f i : Int) = (f i : Int) := wrap_u64l (by omega)
          have w2 : IntKind.u64.wrap (g k : Int) = (g k : Int) := wrap_u64l (by omega)
          have w3 : IntKind.u64.wrap ((f i : Int) * (g k : Int)) = ((f i * g k : Nat) : Int) := by rw [← Int.natCast_mul]; exact wrap_u64l (by omega)
          have w4 : IntKind.i64.wrap ((i : Int) + (k : Int)) = ((i + k : Nat) : Int) := by rw [wrapI (by omega) (by omega)]; rfl
          have w7 : IntKind.i64.wrap ((k : Int) + 1) = ((k + 1 : Nat) : Int) := wrapN (by omega)
          by_cases hge : ((i + k : Nat) : Int) < 17
          · have hm : i + k < 17 := by omega
            have hge' : ¬ (17 : Int) ≤ ((i + k : Nat) : Int) := by omega
            have m0 : (0 : Int) ≤ ((i + k : Nat) : Int) := by omega
            have g5 := rowK_at q5 hm
            have hpm := hp _ hm
            have w5 : IntKind.u64.wrap ((p (i + k) : Int) + ((f i * g k : Nat) : Int)) = ((p (i + k) + f i * g k : Nat) : Int) := by rw [← Int.natCast_add]; exact wrap_u64l (by omega)
            have s5 := rowK_store (z := p (i + k) + f i * g k) q5 hm (Nat.le_refl _)
            simp -implicitDefEqProofs only [zB1,zB2,zB3,zB4,zB5,zB6,zB7,zB8,zB9,zB10,zB11,y00,y01,y02,y03,y04,y05,y06,y07,y08,y09,y0a,y0b,y0c,y0d,y0e,y0f,y0g,y0h,y0i,y0j,y0k,y0l,y0m,y0n,y0o,y0p,y0q,y0r,y0s,y0t,y0u,y0v,y0w,y0x,y0y,y0z,y10,y11,y12,y13,y14,y15,y16,y17,y18,y19,y1a,y1b,y1c,y1d,y1e,y1f,y1g,y1h,y1i,y1j,y1k,y1l,y1m,y1n,y1o,y1p,y1q,y1r,retO,retL,retV,z69,allV,allP,z6a,z6d,z6e,z6k,z6l,z6m,binV,eqV,unV,oOpt,reduceIte,reduceCtorEq,Nat.reduceEqDiff,Nat.reduceAdd,Nat.reduceMul,Nat.reduceLT,Nat.reduceSub,Int.reduceLT,Int.reduceLE,Int.reduceEq,Int.reduceNe,Int.reduceSub,Int.reduceAdd,Int.reduceMul,Int.reduceBEq,Int.reduceBNe,Int.reduceGT,Int.reduceGE,Nat.reduceGT,Int.reduceToNat,Int.reduceNeg,Nat.reduceLeDiff,Nat.reduceBEq,Nat.reduceBneDiff,Value.cells, hlk, e0, k0, hlt, ir_bandboxref4_times_q, Int.toNat_natCast, g2, g3, w1, w2, w3, w4, w7, hge, hge', m0, g5, w5, s5]
            refine ⟨_, by omega, Heap.le_set leH hb5' _, k + 1, by omega, rfl, rfl, by rw [Heap.set_ne (Ne.symm n52)]; exact q2, by rw [Heap.set_ne (Ne.symm n53)]; exact q3, by rw [Heap.set_ne (Ne.symm n54)]; exact q4, _, Heap.set_self _ _ _, ?_, mul_lo hm hv rfl⟩
            intro j hj
            have := hp j hj
            by_cases e : j = i + k
            · rw [e, upd_self]; omega
            · rw [upd_ne e]; omega
          · obtain ⟨m, hm⟩ : ∃ m, i + k = m + 17 := ⟨i + k - 17, by omega⟩
            have hm17 : m < 17 := by omega
            have hge' : (17 : Int) ≤ ((i + k : Nat) : Int) := by omega
            have m0 : (0 : Int) ≤ (m : Int) := by omega
            have m1 : (m : Int) < 17 := by omega
            have w6 : IntKind.i64.wrap (((i + k : Nat) : Int) - 17) = (m : Int) := by rw [wrapI (by omega) (by omega)]; omega
            have g5 := rowK_at q5 hm17
            have hpm := hp _ hm17
            have w8 : IntKind.u64.wrap (320 * ((f i * g k : Nat) : Int)) = ((320 * (f i * g k) : Nat) : Int) := by
              have := wrap_u64l (n := 320 * (f i * g k)) (by omega)
              rw [← this]; congr 1
            have w5 : IntKind.u64.wrap ((p m : Int) + ((320 * (f i * g k) : Nat) : Int)) = ((p m + 320 * (f i * g k) : Nat) : Int) := by rw [← Int.natCast_add]; exact wrap_u64l (by omega)
            have s5 := rowK_store (z := p m + 320 * (f i * g k)) q5 hm17 (Nat.le_refl _)
            simp -implicitDefEqProofs only [zB1,zB2,zB3,zB4,zB5,zB6,zB7,zB8,zB9,zB10,zB11,y00,y01,y02,y03,y04,y05,y06,y07,y08,y09,y0a,y0b,y0c,y0d,y0e,y0f,y0g,y0h,y0i,y0j,y0k,y0l,y0m,y0n,y0o,y0p,y0q,y0r,y0s,y0t,y0u,y0v,y0w,y0x,y0y,y0z,y10,y11,y12,y13,y14,y15,y16,y17,y18,y19,y1a,y1b,y1c,y1d,y1e,y1f,y1g,y1h,y1i,y1j,y1k,y1l,y1m,y1n,y1o,y1p,y1q,y1r,retO,retL,retV,z69,allV,allP,z6a,z6d,z6e,z6k,z6l,z6m,binV,eqV,unV,oOpt,reduceIte,reduceCtorEq,Nat.reduceEqDiff,Nat.reduceAdd,Nat.reduceMul,Nat.reduceLT,Nat.reduceSub,Int.reduceLT,Int.reduceLE,Int.reduceEq,Int.reduceNe,Int.reduceSub,Int.reduceAdd,Int.reduceMul,Int.reduceBEq,Int.reduceBNe,Int.reduceGT,Int.reduceGE,Nat.reduceGT,Int.reduceToNat,Int.reduceNeg,Nat.reduceLeDiff,Nat.reduceBEq,Nat.reduceBneDiff,Value.cells, hlk, e0, k0, hlt, ir_bandboxref4_times_q, Int.toNat_natCast, g2, g3, w1, w2, w3, w4, w7, hge, hge', m0, m1, w6, g5, w8, w5, s5]
            refine ⟨_, by omega, Heap.le_set leH hb5' _, k + 1, by omega, rfl, rfl, by rw [Heap.set_ne (Ne.symm n52)]; exact q2, by rw [Heap.set_ne (Ne.symm n53)]; exact q3, by rw [Heap.set_ne (Ne.symm n54)]; exact q4, _, Heap.set_self _ _ _, ?_, mul_hi hm hm17 hv rfl⟩
            intro j hj
            have := hp j hj
            by_cases e : j = m
            · rw [e, upd_self]; omega
            · rw [upd_ne e]; omega
        · obtain rfl : k = 17 := by omega
          have w7 : IntKind.i64.wrap ((i : Int) + 1) = ((i + 1 : Nat) : Int) := wrapN (by omega)
          simp -implicitDefEqProofs only [zB1,zB2,zB3,zB4,zB5,zB6,zB7,zB8,zB9,zB10,zB11,y00,y01,y02,y03,y04,y05,y06,y07,y08,y09,y0a,y0b,y0c,y0d,y0e,y0f,y0g,y0h,y0i,y0j,y0k,y0l,y0m,y0n,y0o,y0p,y0q,y0r,y0s,y0t,y0u,y0v,y0w,y0x,y0y,y0z,y10,y11,y12,y13,y14,y15,y16,y17,y18,y19,y1a,y1b,y1c,y1d,y1e,y1f,y1g,y1h,y1i,y1j,y1k,y1l,y1m,y1n,y1o,y1p,y1q,y1r,retO,retL,retV,z69,allV,allP,z6a,z6d,z6e,z6k,z6l,z6m,binV,eqV,unV,oOpt,reduceIte,reduceCtorEq,Nat.reduceEqDiff,Nat.reduceAdd,Nat.reduceMul,Nat.reduceLT,Nat.reduceSub,Int.reduceLT,Int.reduceLE,Int.reduceEq,Int.reduceNe,Int.reduceSub,Int.reduceAdd,Int.reduceMul,Int.reduceBEq,Int.reduceBNe,Int.reduceGT,Int.reduceGE,Nat.reduceGT,Int.reduceToNat,Int.reduceNeg,Nat.reduceLeDiff,Nat.reduceBEq,Nat.reduceBneDiff,Value.cells, hlk, w7]
          refine ⟨_, by omega, leH, i + 1, by omega, rfl, rfl, q2, q3, q4, p, q5, fun j hj => by have := hp j hj; omega, ?_⟩
          have v1 : valD f (i + 1) = valD f i + f i * 256 ^ i := rfl
          rw [hv, v1, Nat.add_mul]
    · obtain rfl : i = 17 := by omega
      simp -implicitDefEqProofs only [zB1,zB2,zB3,zB4,zB5,zB6,zB7,zB8,zB9,zB10,zB11,y00,y01,y02,y03,y04,y05,y06,y07,y08,y09,y0a,y0b,y0c,y0d,y0e,y0f,y0g,y0h,y0i,y0j,y0k,y0l,y0m,y0n,y0o,y0p,y0q,y0r,y0s,y0t,y0u,y0v,y0w,y0x,y0y,y0z,y10,y11,y12,y13,y14,y15,y16,y17,y18,y19,y1a,y1b,y1c,y1d,y1e,y1f,y1g,y1h,y1i,y1j,y1k,y1l,y1m,y1n,y1o,y1p,y1q,y1r,retO,retL,retV,z69,allV,allP,z6a,z6d,z6e,z6k,z6l,z6m,binV,eqV,unV,oOpt,reduceIte,reduceCtorEq,Nat.reduceEqDiff,Nat.reduceAdd,Nat.reduceMul,Nat.reduceLT,Nat.reduceSub,Int.reduceLT,Int.reduceLE,Int.reduceEq,Int.reduceNe,Int.reduceSub,Int.reduceAdd,Int.reduceMul,Int.reduceBEq,Int.reduceBNe,Int.reduceGT,Int.reduceGE,Nat.reduceGT,Int.reduceToNat,Int.reduceNeg,Nat.reduceLeDiff,Nat.reduceBEq,Nat.reduceBneDiff,Value.cells, hlt]
      intro b9 hb9
      rw [rowK_len]
      have hb9' := Heap.none_of_le leH hb9
      have n94 := Ne.symm (ne_of_none hb9 q4)
      have n95 := Ne.symm (ne_of_none hb9 q5)
      have n59 := Ne.symm n95
      have hT : turnOk 0 p := by
        intro j hj
        have := hp j hj
        omega
      have le9 : h.le (H.set b9 (.own 0 (rowK .u32 (fun x => 0) 17) 17)) := Heap.le_new leH hb9 _
      have q59 : (H.set b9 (.own 0 (rowK .u32 (fun x => 0) 17) 17)) b5 = some (.own 0 (rowK .u64 p 17) 17) := by rw [Heap.set_ne n59]; exact q5
      have q49 : (H.set b9 (.own 0 (rowK .u32 (fun x => 0) 17) 17)) b4 = some (.own 0 (List.replicate 17 (.int .u32 0)) 17) := by rw [Heap.set_ne (Ne.symm n94)]; exact q4
      have q99 : (H.set b9 (.own 0 (rowK .u32 (fun x => 0) 17) 17)) b9 = some (.own 0 (rowK .u32 (fun x => 0) 17) 17) := Heap.set_self _ _ _
      generalize (H.set b9 (.own 0 (rowK .u32 (fun x => 0) 17) 17)) = H9 at le9 q59 q49 q99 ⊢
      clear q2 q3 q4 q5 hp leH hlt hi
      generalize valD f 17 * valD g 17 % PQ = V at hv ⊢
      unfold ir_bandboxref4_times_60
      simp -implicitDefEqProofs only [zB1,zB2,zB3,zB4,zB5,zB6,zB7,zB8,zB9,zB10,zB11,y00,y01,y02,y03,y04,y05,y06,y07,y08,y09,y0a,y0b,y0c,y0d,y0e,y0f,y0g,y0h,y0i,y0j,y0k,y0l,y0m,y0n,y0o,y0p,y0q,y0r,y0s,y0t,y0u,y0v,y0w,y0x,y0y,y0z,y10,y11,y12,y13,y14,y15,y16,y17,y18,y19,y1a,y1b,y1c,y1d,y1e,y1f,y1g,y1h,y1i,y1j,y1k,y1l,y1m,y1n,y1o,y1p,y1q,y1r,retO,retL,retV,z69,allV,allP,z6a,z6d,z6e,z6k,z6l,z6m,binV,eqV,unV,oOpt,reduceIte,reduceCtorEq,Nat.reduceEqDiff,Nat.reduceAdd,Nat.reduceMul,Nat.reduceLT,Nat.reduceSub,Int.reduceLT,Int.reduceLE,Int.reduceEq,Int.reduceNe,Int.reduceSub,Int.reduceAdd,Int.reduceMul,Int.reduceBEq,Int.reduceBNe,Int.reduceGT,Int.reduceGE,Nat.reduceGT,Int.reduceToNat,Int.reduceNeg,Nat.reduceLeDiff,Nat.reduceBEq,Nat.reduceBneDiff,Value.cells]
      refine wp_loop' (fun m t H => h.le H ∧ ∃ n : Nat, n ≤ 3 ∧ m = 3 - n ∧ t = tl [(4, .pointer (some ⟨b4, 0, none⟩)), (5, .pointer (some ⟨b5, 0, none⟩)), (9, .pointer (some ⟨b9, 0, none⟩)), (10, .int .i64 n)] ∧
        H b4 = some (.own 0 (List.replicate 17 (.int .u32 0)) 17) ∧ H b9 = some (.own 0 (rowK .u32 (fun x => 0) 17) 17) ∧
        ∃ p, H b5 = some (.own 0 (rowK .u64 p 17) 17) ∧ turnOk n p ∧ valD p 17 % PQ = V) 3 ⟨le9, 0, by omega, rfl, rfl, q49, q99, p, q59, hT, hv⟩ ?_
      clear q59 q49 q99 hT hv p le9
      rintro m t H ⟨leH, n, hn, rfl, rfl, q4, q9, p, q5, hT, hv⟩
      by_cases hlt : (n : Int) < 3
      · have hn3 : n < 3 := by omega
        simp -implicitDefEqProofs only [zB1,zB2,zB3,zB4,zB5,zB6,zB7,zB8,zB9,zB10,zB11,y00,y01,y02,y03,y04,y05,y06,y07,y08,y09,y0a,y0b,y0c,y0d,y0e,y0f,y0g,y0h,y0i,y0j,y0k,y0l,y0m,y0n,y0o,y0p,y0q,y0r,y0s,y0t,y0u,y0v,y0w,y0x,y0y,y0z,y10,y11,y12,y13,y14,y15,y16,y17,y18,y19,y1a,y1b,y1c,y1d,y1e,y1f,y1g,y1h,y1i,y1j,y1k,y1l,y1m,y1n,y1o,y1p,y1q,y1r,retO,retL,retV,z69,allV,allP,z6a,z6d,z6e,z6k,z6l,z6m,binV,eqV,unV,oOpt,reduceIte,reduceCtorEq,Nat.reduceEqDiff,Nat.reduceAdd,Nat.reduceMul,Nat.reduceLT,Nat.reduceSub,Int.reduceLT,Int.reduceLE,Int.reduceEq,Int.reduceNe,Int.reduceSub,Int.reduceAdd,Int.reduceMul,Int.reduceBEq,Int.reduceBNe,Int.reduceGT,Int.reduceGE,Nat.reduceGT,Int.reduceToNat,Int.reduceNeg,Nat.reduceLeDiff,Nat.reduceBEq,Nat.reduceBneDiff,Value.cells, hlt]
        refine wp_loop' (fun m t H => h.le H ∧ ∃ i : Nat, i ≤ 17 ∧ m = 17 - i ∧ ∃ c : Nat, t = tl [(4, .pointer (some ⟨b4, 0, none⟩)), (5, .pointer (some ⟨b5, 0, none⟩)), (9, .pointer (some ⟨b9, 0, none⟩)), (10, .int .i64 n), (11, .int .u64 c), (12, .int .i64 i)] ∧
          H b4 = some (.own 0 (List.replicate 17 (.int .u32 0)) 17) ∧ H b9 = some (.own 0 (rowK .u32 (fun x => 0) 17) 17) ∧ c ≤ 2251799813685248 ∧
          ∃ q, H b5 = some (.own 0 (rowK .u64 q 17) 17) ∧ (∀ j, j < i → j < 16 → q j < 256) ∧ (i = 17 → q 16 < 4) ∧ (∀ j, i ≤ j → j < 17 → q j = p j) ∧ valD q 17 + c * wgt i = valD p 17) 17
          ⟨leH, 0, by omega, rfl, 0, rfl, q4, q9, by omega, p, q5, fun j hj => by omega, fun e => by omega, fun j _ _ => rfl, by rw [Nat.zero_mul, Nat.add_zero]⟩ ?_
        clear q4 q9 q5 leH
        rintro m t H ⟨leH, i, hi, rfl, c, rfl, q4, q9, hc, q, q5, hd, hd16, hr, hvq⟩
        have hpB := turnOk_le hT
        by_cases hli : (i : Int) < 17
        · have hi' : i < 17 := by omega
          have e0 : (0 : Int) ≤ i := by omega
          have g5 := rowK_at q5 hi'
          have hqp := hr i (Nat.le_refl _) hi'
          rw [hqp] at g5
          have hpi := hpB i hi'
          have w1 : IntKind.u64.wrap ((c : Int) + (p i : Int)) = ((c + p i : Nat) : Int) := by rw [← Int.natCast_add]; exact wrap_u64l (by omega)
          have w7 : IntKind.i64.wrap ((i : Int) + 1) = ((i + 1 : Nat) : Int) := wrapN (by omega)
          have w3 := u64_and255 (a := c + p i) (by omega)
          have w4 := u64_shr8 (c + p i)
          have w4' := u64_shr8' (c + p i)
          have w5 := u64_and3 (a := c + p i) (by omega)
          have w6 := u64_shr2 (c + p i)
          have w6' := u64_shr2' (c + p i)
          by_cases h16 : (i : Int) < 16
          · have s5 := rowK_store (z := (c + p i) % 256) q5 hi' (Nat.le_refl _)
            simp -implicitDefEqProofs only [zB1,zB2,zB3,zB4,zB5,zB6,zB7,zB8,zB9,zB10,zB11,y00,y01,y02,y03,y04,y05,y06,y07,y08,y09,y0a,y0b,y0c,y0d,y0e,y0f,y0g,y0h,y0i,y0j,y0k,y0l,y0m,y0n,y0o,y0p,y0q,y0r,y0s,y0t,y0u,y0v,y0w,y0x,y0y,y0z,y10,y11,y12,y13,y14,y15,y16,y17,y18,y19,y1a,y1b,y1c,y1d,y1e,y1f,y1g,y1h,y1i,y1j,y1k,y1l,y1m,y1n,y1o,y1p,y1q,y1r,retO,retL,retV,z69,allV,allP,z6a,z6d,z6e,z6k,z6l,z6m,binV,eqV,unV,oOpt,reduceIte,reduceCtorEq,Nat.reduceEqDiff,Nat.reduceAdd,Nat.reduceMul,Nat.reduceLT,Nat.reduceSub,Int.reduceLT,Int.reduceLE,Int.reduceEq,Int.reduceNe,Int.reduceSub,Int.reduceAdd,Int.reduceMul,Int.reduceBEq,Int.reduceBNe,Int.reduceGT,Int.reduceGE,Nat.reduceGT,Int.reduceToNat,Int.reduceNeg,Nat.reduceLeDiff,Nat.reduceBEq,Nat.reduceBneDiff,Value.cells, hli, e0, Int.toNat_natCast, g5, w1, h16, w3, s5, w4, w4', w7, ir_bandboxref4_times_73]
            refine ⟨_, by omega, Heap.le_set leH hb5' _, i + 1, by omega, rfl, _, rfl, by rw [Heap.set_ne (Ne.symm n54)]; exact q4, by rw [Heap.set_ne n95]; exact q9, by omega, _, Heap.set_self _ _ _, ?_, fun e => by omega, ?_, carry_step (by omega) hvq hqp⟩
            · intro j hj hj16
              by_cases e : j = i
              · rw [e, upd_self]; omega
              · rw [upd_ne e]; exact hd j (by omega) hj16
            · intro j hj hj17
              rw [upd_ne (by omega)]; exact hr j (by omega) hj17
          · obtain rfl : i = 16 := by omega
            have s5 := rowK_store (z := (c + p 16) % 4) q5 hi' (Nat.le_refl _)
            simp -implicitDefEqProofs only [zB1,zB2,zB3,zB4,zB5,zB6,zB7,zB8,zB9,zB10,zB11,y00,y01,y02,y03,y04,y05,y06,y07,y08,y09,y0a,y0b,y0c,y0d,y0e,y0f,y0g,y0h,y0i,y0j,y0k,y0l,y0m,y0n,y0o,y0p,y0q,y0r,y0s,y0t,y0u,y0v,y0w,y0x,y0y,y0z,y10,y11,y12,y13,y14,y15,y16,y17,y18,y19,y1a,y1b,y1c,y1d,y1e,y1f,y1g,y1h,y1i,y1j,y1k,y1l,y1m,y1n,y1o,y1p,y1q,y1r,retO,retL,retV,z69,allV,allP,z6a,z6d,z6e,z6k,z6l,z6m,binV,eqV,unV,oOpt,reduceIte,reduceCtorEq,Nat.reduceEqDiff,Nat.reduceAdd,Nat.reduceMul,Nat.reduceLT,Nat.reduceSub,Int.reduceLT,Int.reduceLE,Int.reduceEq,Int.reduceNe,Int.reduceSub,Int.reduceAdd,Int.reduceMul,Int.reduceBEq,Int.reduceBNe,Int.reduceGT,Int.reduceGE,Nat.reduceGT,Int.reduceToNat,Int.reduceNeg,Nat.reduceLeDiff,Nat.reduceBEq,Nat.reduceBneDiff,Value.cells, hli, e0, Int.toNat_natCast, g5, w1, h16, w5, s5, w6, w6', w7, ir_bandboxref4_times_73]
            refine ⟨_, by omega, Heap.le_set leH hb5' _, 17, by omega, rfl, _, rfl, by rw [Heap.set_ne (Ne.symm n54)]; exact q4, by rw [Heap.set_ne n95]; exact q9, by omega, _, Heap.set_self _ _ _, ?_, fun e => ?_, fun j h1 h2 => by omega, carry_last hvq hqp⟩
            · intro j hj hj16
              rw [upd_ne (by omega)]; exact hd j (by omega) hj16
            · rw [upd_self]; omega
        · obtain rfl : i = 17 := by omega
          have hq16 := hd16 rfl
          have g5 := rowK_at q5 (show 0 < 17 by omega)
          have hq0 := hd 0 (by omega) (by omega)
          have w1 : IntKind.u64.wrap (5 * (c : Int)) = ((5 * c : Nat) : Int) := by
            have := wrap_u64l (n := 5 * c) (by omega)
            rw [← this]; congr 1
          have w2 : IntKind.u64.wrap ((q 0 : Int) + ((5 * c : Nat) : Int)) = ((q 0 + 5 * c : Nat) : Int) := by rw [← Int.natCast_add]; exact wrap_u64l (by omega)
          have s5 := rowK_store (z := q 0 + 5 * c) q5 (show 0 < 17 by omega) (Nat.le_refl _)
          have w7 : IntKind.i64.wrap ((n : Int) + 1) = ((n + 1 : Nat) : Int) := wrapN (by omega)
          have hst := turn_step hn3 hT (fun j hj => hd j (by omega) hj) hq16 hvq
          simp -implicitDefEqProofs only [zB1,zB2,zB3,zB4,zB5,zB6,zB7,zB8,zB9,zB10,zB11,y00,y01,y02,y03,y04,y05,y06,y07,y08,y09,y0a,y0b,y0c,y0d,y0e,y0f,y0g,y0h,y0i,y0j,y0k,y0l,y0m,y0n,y0o,y0p,y0q,y0r,y0s,y0t,y0u,y0v,y0w,y0x,y0y,y0z,y10,y11,y12,y13,y14,y15,y16,y17,y18,y19,y1a,y1b,y1c,y1d,y1e,y1f,y1g,y1h,y1i,y1j,y1k,y1l,y1m,y1n,y1o,y1p,y1q,y1r,retO,retL,retV,z69,allV,allP,z6a,z6d,z6e,z6k,z6l,z6m,binV,eqV,unV,oOpt,reduceIte,reduceCtorEq,Nat.reduceEqDiff,Nat.reduceAdd,Nat.reduceMul,Nat.reduceLT,Nat.reduceSub,Int.reduceLT,Int.reduceLE,Int.reduceEq,Int.reduceNe,Int.reduceSub,Int.reduceAdd,Int.reduceMul,Int.reduceBEq,Int.reduceBNe,Int.reduceGT,Int.reduceGE,Nat.reduceGT,Int.reduceToNat,Int.reduceNeg,Nat.reduceLeDiff,Nat.reduceBEq,Nat.reduceBneDiff,Value.cells, hli, g5, w1, w2, s5, w7, ir_bandboxref4_times_87]
          exact ⟨_, by omega, Heap.le_set leH hb5' _, n + 1, by omega, rfl, rfl, by rw [Heap.set_ne (Ne.symm n54)]; exact q4, by rw [Heap.set_ne n95]; exact q9, _, Heap.set_self _ _ _, hst.1, hst.2.trans hv⟩
      · obtain rfl : n = 3 := by omega
        obtain ⟨hT1, hT2⟩ : NormD p := hT
        simp -implicitDefEqProofs only [zB1,zB2,zB3,zB4,zB5,zB6,zB7,zB8,zB9,zB10,zB11,y00,y01,y02,y03,y04,y05,y06,y07,y08,y09,y0a,y0b,y0c,y0d,y0e,y0f,y0g,y0h,y0i,y0j,y0k,y0l,y0m,y0n,y0o,y0p,y0q,y0r,y0s,y0t,y0u,y0v,y0w,y0x,y0y,y0z,y10,y11,y12,y13,y14,y15,y16,y17,y18,y19,y1a,y1b,y1c,y1d,y1e,y1f,y1g,y1h,y1i,y1j,y1k,y1l,y1m,y1n,y1o,y1p,y1q,y1r,retO,retL,retV,z69,allV,allP,z6a,z6d,z6e,z6k,z6l,z6m,binV,eqV,unV,oOpt,reduceIte,reduceCtorEq,Nat.reduceEqDiff,Nat.reduceAdd,Nat.reduceMul,Nat.reduceLT,Nat.reduceSub,Int.reduceLT,Int.reduceLE,Int.reduceEq,Int.reduceNe,Int.reduceSub,Int.reduceAdd,Int.reduceMul,Int.reduceBEq,Int.reduceBNe,Int.reduceGT,Int.reduceGE,Nat.reduceGT,Int.reduceToNat,Int.reduceNeg,Nat.reduceLeDiff,Nat.reduceBEq,Nat.reduceBneDiff,Value.cells, hlt]
        unfold ir_bandboxref4_times_13
        simp -implicitDefEqProofs only [zB1,zB2,zB3,zB4,zB5,zB6,zB7,zB8,zB9,zB10,zB11,y00,y01,y02,y03,y04,y05,y06,y07,y08,y09,y0a,y0b,y0c,y0d,y0e,y0f,y0g,y0h,y0i,y0j,y0k,y0l,y0m,y0n,y0o,y0p,y0q,y0r,y0s,y0t,y0u,y0v,y0w,y0x,y0y,y0z,y10,y11,y12,y13,y14,y15,y16,y17,y18,y19,y1a,y1b,y1c,y1d,y1e,y1f,y1g,y1h,y1i,y1j,y1k,y1l,y1m,y1n,y1o,y1p,y1q,y1r,retO,retL,retV,z69,allV,allP,z6a,z6d,z6e,z6k,z6l,z6m,binV,eqV,unV,oOpt,reduceIte,reduceCtorEq,Nat.reduceEqDiff,Nat.reduceAdd,Nat.reduceMul,Nat.reduceLT,Nat.reduceSub,Int.reduceLT,Int.reduceLE,Int.reduceEq,Int.reduceNe,Int.reduceSub,Int.reduceAdd,Int.reduceMul,Int.reduceBEq,Int.reduceBNe,Int.reduceGT,Int.reduceGE,Nat.reduceGT,Int.reduceToNat,Int.reduceNeg,Nat.reduceLeDiff,Nat.reduceBEq,Nat.reduceBneDiff,Value.cells]
        refine wp_loop' (fun m t H => h.le H ∧ ∃ i : Nat, i ≤ 17 ∧ m = 17 - i ∧ t = tl [(4, .pointer (some ⟨b4, 0, none⟩)), (5, .pointer (some ⟨b5, 0, none⟩)), (9, .pointer (some ⟨b9, 0, none⟩)), (13, .int .i64 i)] ∧
          H b4 = some (.own 0 (List.replicate 17 (.int .u32 0)) 17) ∧ H b9 = some (.own 0 (rowK .u32 (blendF p (fun x => 0) i) 17) 17) ∧ H b5 = some (.own 0 (rowK .u64 p 17) 17)) 17 ⟨leH, 0, by omega, rfl, rfl, q4, by rw [blendF_0]; exact q9, q5⟩ ?_
        clear q4 q9 q5 leH
        rintro m t H ⟨leH, i, hi, rfl, rfl, q4, q9, q5⟩
        by_cases hli : (i : Int) < 17
        · have hi' : i < 17 := by omega
          have e0 : (0 : Int) ≤ i := by omega
          have g5 := rowK_at q5 hi'
          have hpi : p i < 256 := by
            by_cases e : i = 16
            · subst e; omega
            · exact hT1 i (by omega)
          have w1 : IntKind.u32.wrap (p i : Int) = ((p i : Nat) : Int) := wrap_u32n (by omega)
          have w7 : IntKind.i64.wrap ((i : Int) + 1) = ((i + 1 : Nat) : Int) := wrapN (by omega)
          have s9 := rowK_store (z := p i) q9 hi' (Nat.le_refl _)
          rw [blendF_step] at s9
          simp -implicitDefEqProofs only [zB1,zB2,zB3,zB4,zB5,zB6,zB7,zB8,zB9,zB10,zB11,y00,y01,y02,y03,y04,y05,y06,y07,y08,y09,y0a,y0b,y0c,y0d,y0e,y0f,y0g,y0h,y0i,y0j,y0k,y0l,y0m,y0n,y0o,y0p,y0q,y0r,y0s,y0t,y0u,y0v,y0w,y0x,y0y,y0z,y10,y11,y12,y13,y14,y15,y16,y17,y18,y19,y1a,y1b,y1c,y1d,y1e,y1f,y1g,y1h,y1i,y1j,y1k,y1l,y1m,y1n,y1o,y1p,y1q,y1r,retO,retL,retV,z69,allV,allP,z6a,z6d,z6e,z6k,z6l,z6m,binV,eqV,unV,oOpt,reduceIte,reduceCtorEq,Nat.reduceEqDiff,Nat.reduceAdd,Nat.reduceMul,Nat.reduceLT,Nat.reduceSub,Int.reduceLT,Int.reduceLE,Int.reduceEq,Int.reduceNe,Int.reduceSub,Int.reduceAdd,Int.reduceMul,Int.reduceBEq,Int.reduceBNe,Int.reduceGT,Int.reduceGE,Nat.reduceGT,Int.reduceToNat,Int.reduceNeg,Nat.reduceLeDiff,Nat.reduceBEq,Nat.reduceBneDiff,Value.cells, hli, e0, Int.toNat_natCast, g5, w1, w7, s9]
          exact ⟨_, by omega, Heap.le_set leH hb9' _, i + 1, by omega, rfl, rfl, by rw [Heap.set_ne (Ne.symm n94)]; exact q4, Heap.set_self _ _ _, by rw [Heap.set_ne n59]; exact q5⟩
        · obtain rfl : i = 17 := by omega
          rw [blendF_all] at q9
          have l9 := rowK_cells q9
          have s4 := rowK_agg (k := .u32) (f := p) q4 (by simp) (by omega)
          have l4 : hcells (H.set b4 (.own 0 (rowK .u32 p 17) 17)) ⟨b4, 0, none⟩ 17 = some (rowK .u32 p 17) := z6o (rowK_len _ _ _)
          simp -implicitDefEqProofs only [zB1,zB2,zB3,zB4,zB5,zB6,zB7,zB8,zB9,zB10,zB11,y00,y01,y02,y03,y04,y05,y06,y07,y08,y09,y0a,y0b,y0c,y0d,y0e,y0f,y0g,y0h,y0i,y0j,y0k,y0l,y0m,y0n,y0o,y0p,y0q,y0r,y0s,y0t,y0u,y0v,y0w,y0x,y0y,y0z,y10,y11,y12,y13,y14,y15,y16,y17,y18,y19,y1a,y1b,y1c,y1d,y1e,y1f,y1g,y1h,y1i,y1j,y1k,y1l,y1m,y1n,y1o,y1p,y1q,y1r,retO,retL,retV,z69,allV,allP,z6a,z6d,z6e,z6k,z6l,z6m,binV,eqV,unV,oOpt,reduceIte,reduceCtorEq,Nat.reduceEqDiff,Nat.reduceAdd,Nat.reduceMul,Nat.reduceLT,Nat.reduceSub,Int.reduceLT,Int.reduceLE,Int.reduceEq,Int.reduceNe,Int.reduceSub,Int.reduceAdd,Int.reduceMul,Int.reduceBEq,Int.reduceBNe,Int.reduceGT,Int.reduceGE,Nat.reduceGT,Int.reduceToNat,Int.reduceNeg,Nat.reduceLeDiff,Nat.reduceBEq,Nat.reduceBneDiff,Value.cells, hli, l9, s4, l4]
          exact ⟨Heap.le_set leH hb4' _, p, rfl, ⟨hT1, hT2⟩, hv⟩
end Go.Bb
/- The document's poly: least. -/
namespace Go.Bb
set_option linter.unusedSimpArgs false
set_option linter.unusedVariables false
set_option maxRecDepth 20000
set_option maxHeartbeats 4000000

theorem unit1 : Value.int .u32 1 :: List.drop 1 (List.replicate 17 (Value.int .u32 0)) = rowK .u32 (unitF 1) 17 := rfl
theorem unit5 : Value.int .u32 5 :: List.drop 1 (List.replicate 17 (Value.int .u32 0)) = rowK .u32 (unitF 5) 17 := rfl
theorem ref4_least_c (E : EnvT tab) (h : Heap) (f : Nat → Nat) (hf : ∀ j, j < 17 → f j < 256) :
    ACallN E.toEnv n_bandboxref4_least [.agg (rowK .u32 f 17).toArray] h fun r h' => h.le h' ∧ ∃ p, r = .agg (rowK .u32 p 17).toArray ∧ NormD p ∧ valD p 17 = valD f 17 % PQ := by
  refine acall h_bandboxref4_least ir_bandboxref4_least rfl rfl (wpA_sound ?_)
  unfold ir_bandboxref4_least
  simp -implicitDefEqProofs only [zB1,zB2,zB3,zB4,zB5,zB6,zB7,zB8,zB9,zB10,zB11,y00,y01,y02,y03,y04,y05,y06,y07,y08,y09,y0a,y0b,y0c,y0d,y0e,y0f,y0g,y0h,y0i,y0j,y0k,y0l,y0m,y0n,y0o,y0p,y0q,y0r,y0s,y0t,y0u,y0v,y0w,y0x,y0y,y0z,y10,y11,y12,y13,y14,y15,y16,y17,y18,y19,y1a,y1b,y1c,y1d,y1e,y1f,y1g,y1h,y1i,y1j,y1k,y1l,y1m,y1n,y1o,y1p,y1q,y1r,retO,retL,retV,z69,allV,allP,z6a,z6d,z6e,z6k,z6l,z6m,binV,eqV,unV,oOpt,reduceIte,reduceCtorEq,Nat.reduceEqDiff,Nat.reduceAdd,Nat.reduceMul,Nat.reduceLT,Nat.reduceSub,Int.reduceLT,Int.reduceLE,Int.reduceEq,Int.reduceNe,Int.reduceSub,Int.reduceAdd,Int.reduceMul,Int.reduceBEq,Int.reduceBNe,Int.reduceGT,Int.reduceGE,Nat.reduceGT,Int.reduceToNat,Int.reduceNeg,Nat.reduceLeDiff,Nat.reduceBEq,Nat.reduceBneDiff,Value.cells, List.length_replicate, unit1, rowK_len]
  intro b1 hb1 b2 hb2 b3 hb3
  obtain ⟨n21, hb2'⟩ := Heap.set_none.1 hb2
  obtain ⟨n32, hb3a⟩ := Heap.set_none.1 hb3
  obtain ⟨n31, hb3'⟩ := Heap.set_none.1 hb3a
  have s3 : storeV (((h.set b1 (.own 0 (rowK .u32 f 17) 17)).set b2 (.own 0 (List.replicate 17 (.int .u32 0)) 17)).set b3 (.own 0 (List.replicate 17 (.int .u32 0)) 17)) 17 (.pointer (some ⟨b3, 0, none⟩)) (.agg (rowK .u32 (unitF 1) 17).toArray) = some ((((h.set b1 (.own 0 (rowK .u32 f 17) 17)).set b2 (.own 0 (List.replicate 17 (.int .u32 0)) 17)).set b3 (.own 0 (rowK .u32 (unitF 1) 17) 17))) := z6q (by omega) (rowK_len _ _ _) (rowK_one _ _ _) (by simp) (by omega)
  try simp -implicitDefEqProofs only [zB1,zB2,zB3,zB4,zB5,zB6,zB7,zB8,zB9,zB10,zB11,y00,y01,y02,y03,y04,y05,y06,y07,y08,y09,y0a,y0b,y0c,y0d,y0e,y0f,y0g,y0h,y0i,y0j,y0k,y0l,y0m,y0n,y0o,y0p,y0q,y0r,y0s,y0t,y0u,y0v,y0w,y0x,y0y,y0z,y10,y11,y12,y13,y14,y15,y16,y17,y18,y19,y1a,y1b,y1c,y1d,y1e,y1f,y1g,y1h,y1i,y1j,y1k,y1l,y1m,y1n,y1o,y1p,y1q,y1r,retO,retL,retV,z69,allV,allP,z6a,z6d,z6e,z6k,z6l,z6m,binV,eqV,unV,oOpt,reduceIte,reduceCtorEq,Nat.reduceEqDiff,Nat.reduceAdd,Nat.reduceMul,Nat.reduceLT,Nat.reduceSub,Int.reduceLT,Int.reduceLE,Int.reduceEq,Int.reduceNe,Int.reduceSub,Int.reduceAdd,Int.reduceMul,Int.reduceBEq,Int.reduceBNe,Int.reduceGT,Int.reduceGE,Nat.reduceGT,Int.reduceToNat,Int.reduceNeg,Nat.reduceLeDiff,Nat.reduceBEq,Nat.reduceBneDiff,Value.cells, s3]
  have le0 : h.le (((h.set b1 (.own 0 (rowK .u32 f 17) 17)).set b2 (.own 0 (List.replicate 17 (.int .u32 0)) 17)).set b3 (.own 0 (rowK .u32 (unitF 1) 17) 17)) := Heap.le_set (Heap.le_set (Heap.le_set (Heap.le_refl _) hb1 _) hb2' _) hb3' _
  have q1 : (((h.set b1 (.own 0 (rowK .u32 f 17) 17)).set b2 (.own 0 (List.replicate 17 (.int .u32 0)) 17)).set b3 (.own 0 (rowK .u32 (unitF 1) 17) 17)) b1 = some (.own 0 (rowK .u32 f 17) 17) := set_keep (set_keep (Heap.set_self _ _ _) (Ne.symm n21)) (Ne.symm n31)
  have q2 : (((h.set b1 (.own 0 (rowK .u32 f 17) 17)).set b2 (.own 0 (List.replicate 17 (.int .u32 0)) 17)).set b3 (.own 0 (rowK .u32 (unitF 1) 17) 17)) b2 = some (.own 0 (List.replicate 17 (.int .u32 0)) 17) := set_keep (Heap.set_self _ _ _) (Ne.symm n32)
  have q3 : (((h.set b1 (.own 0 (rowK .u32 f 17) 17)).set b2 (.own 0 (List.replicate 17 (.int .u32 0)) 17)).set b3 (.own 0 (rowK .u32 (unitF 1) 17) 17)) b3 = some (.own 0 (rowK .u32 (unitF 1) 17) 17) := Heap.set_self _ _ _
  generalize (((h.set b1 (.own 0 (rowK .u32 f 17) 17)).set b2 (.own 0 (List.replicate 17 (.int .u32 0)) 17)).set b3 (.own 0 (rowK .u32 (unitF 1) 17) 17)) = h1 at le0 q1 q2 q3 ⊢
  clear s3 hb3 hb3a n31 n32 hb2
  have l1 := rowK_cells q1
  have l3 := rowK_cells q3
  simp -implicitDefEqProofs only [zB1,zB2,zB3,zB4,zB5,zB6,zB7,zB8,zB9,zB10,zB11,y00,y01,y02,y03,y04,y05,y06,y07,y08,y09,y0a,y0b,y0c,y0d,y0e,y0f,y0g,y0h,y0i,y0j,y0k,y0l,y0m,y0n,y0o,y0p,y0q,y0r,y0s,y0t,y0u,y0v,y0w,y0x,y0y,y0z,y10,y11,y12,y13,y14,y15,y16,y17,y18,y19,y1a,y1b,y1c,y1d,y1e,y1f,y1g,y1h,y1i,y1j,y1k,y1l,y1m,y1n,y1o,y1p,y1q,y1r,retO,retL,retV,z69,allV,allP,z6a,z6d,z6e,z6k,z6l,z6m,binV,eqV,unV,oOpt,reduceIte,reduceCtorEq,Nat.reduceEqDiff,Nat.reduceAdd,Nat.reduceMul,Nat.reduceLT,Nat.reduceSub,Int.reduceLT,Int.reduceLE,Int.reduceEq,Int.reduceNe,Int.reduceSub,Int.reduceAdd,Int.reduceMul,Int.reduceBEq,Int.reduceBNe,Int.reduceGT,Int.reduceGE,Nat.reduceGT,Int.reduceToNat,Int.reduceNeg,Nat.reduceLeDiff,Nat.reduceBEq,Nat.reduceBneDiff,Value.cells, l1, l3]
  refine (ref4_times_c E _ f (unitF 1) hf (fun j hj => by unfold unitF; split <;> omega)).mono ?_
  rintro v h2 ⟨le2, q, rfl, nq, hv⟩
  rw [unitF_val, Nat.mul_one] at hv
  have s1 := rowK_agg (k := .u32) (f := q) (le2 _ _ q1) (rowK_len _ _ _) (by omega)
  have le02 := Heap.le_trans le0 le2
  simp -implicitDefEqProofs only [zB1,zB2,zB3,zB4,zB5,zB6,zB7,zB8,zB9,zB10,zB11,y00,y01,y02,y03,y04,y05,y06,y07,y08,y09,y0a,y0b,y0c,y0d,y0e,y0f,y0g,y0h,y0i,y0j,y0k,y0l,y0m,y0n,y0o,y0p,y0q,y0r,y0s,y0t,y0u,y0v,y0w,y0x,y0y,y0z,y10,y11,y12,y13,y14,y15,y16,y17,y18,y19,y1a,y1b,y1c,y1d,y1e,y1f,y1g,y1h,y1i,y1j,y1k,y1l,y1m,y1n,y1o,y1p,y1q,y1r,retO,retL,retV,z69,allV,allP,z6a,z6d,z6e,z6k,z6l,z6m,binV,eqV,unV,oOpt,reduceIte,reduceCtorEq,Nat.reduceEqDiff,Nat.reduceAdd,Nat.reduceMul,Nat.reduceLT,Nat.reduceSub,Int.reduceLT,Int.reduceLE,Int.reduceEq,Int.reduceNe,Int.reduceSub,Int.reduceAdd,Int.reduceMul,Int.reduceBEq,Int.reduceBNe,Int.reduceGT,Int.reduceGE,Nat.reduceGT,Int.reduceToNat,Int.reduceNeg,Nat.reduceLeDiff,Nat.reduceBEq,Nat.reduceBneDiff,Value.cells, s1]
  have q1' : (h2.set b1 (.own 0 (rowK .u32 q 17) 17)) b1 = some (.own 0 (rowK .u32 q 17) 17) := Heap.set_self _ _ _
  have q2' : (h2.set b1 (.own 0 (rowK .u32 q 17) 17)) b2 = some (.own 0 (List.replicate 17 (.int .u32 0)) 17) := set_keep (le2 _ _ q2) n21
  have le3 : h.le (h2.set b1 (.own 0 (rowK .u32 q 17) 17)) := Heap.le_set le02 hb1 _
  generalize (h2.set b1 (.own 0 (rowK .u32 q 17) 17)) = h3 at q1' q2' le3 ⊢
  unfold ir_bandboxref4_least_10
  simp -implicitDefEqProofs only [zB1,zB2,zB3,zB4,zB5,zB6,zB7,zB8,zB9,zB10,zB11,y00,y01,y02,y03,y04,y05,y06,y07,y08,y09,y0a,y0b,y0c,y0d,y0e,y0f,y0g,y0h,y0i,y0j,y0k,y0l,y0m,y0n,y0o,y0p,y0q,y0r,y0s,y0t,y0u,y0v,y0w,y0x,y0y,y0z,y10,y11,y12,y13,y14,y15,y16,y17,y18,y19,y1a,y1b,y1c,y1d,y1e,y1f,y1g,y1h,y1i,y1j,y1k,y1l,y1m,y1n,y1o,y1p,y1q,y1r,retO,retL,retV,z69,allV,allP,z6a,z6d,z6e,z6k,z6l,z6m,binV,eqV,unV,oOpt,reduceIte,reduceCtorEq,Nat.reduceEqDiff,Nat.reduceAdd,Nat.reduceMul,Nat.reduceLT,Nat.reduceSub,Int.reduceLT,Int.reduceLE,Int.reduceEq,Int.reduceNe,Int.reduceSub,Int.reduceAdd,Int.reduceMul,Int.reduceBEq,Int.reduceBNe,Int.reduceGT,Int.reduceGE,Nat.reduceGT,Int.reduceToNat,Int.reduceNeg,Nat.reduceLeDiff,Nat.reduceBEq,Nat.reduceBneDiff,Value.cells, List.length_replicate, unit5]
  intro b4 hb4
  have s4 : storeV (h3.set b4 (.own 0 (List.replicate 17 (.int .u32 0)) 17)) 17 (.pointer (some ⟨b4, 0, none⟩)) (.agg (rowK .u32 (unitF 5) 17).toArray) = some (h3.set b4 (.own 0 (rowK .u32 (unitF 5) 17) 17)) := z6q (by omega) (rowK_len _ _ _) (rowK_one _ _ _) (by simp) (by omega)
  have q14 := set_new (X := .own 0 (rowK .u32 (unitF 5) 17) 17) hb4 q1'
  have q24 := set_new (X := .own 0 (rowK .u32 (unitF 5) 17) 17) hb4 q2'
  have q44 := Heap.set_self h3 b4 (.own 0 (rowK .u32 (unitF 5) 17) 17)
  have le4 := Heap.le_new le3 hb4 (.own 0 (rowK .u32 (unitF 5) 17) 17)
  try simp -implicitDefEqProofs only [zB1,zB2,zB3,zB4,zB5,zB6,zB7,zB8,zB9,zB10,zB11,y00,y01,y02,y03,y04,y05,y06,y07,y08,y09,y0a,y0b,y0c,y0d,y0e,y0f,y0g,y0h,y0i,y0j,y0k,y0l,y0m,y0n,y0o,y0p,y0q,y0r,y0s,y0t,y0u,y0v,y0w,y0x,y0y,y0z,y10,y11,y12,y13,y14,y15,y16,y17,y18,y19,y1a,y1b,y1c,y1d,y1e,y1f,y1g,y1h,y1i,y1j,y1k,y1l,y1m,y1n,y1o,y1p,y1q,y1r,retO,retL,retV,z69,allV,allP,z6a,z6d,z6e,z6k,z6l,z6m,binV,eqV,unV,oOpt,reduceIte,reduceCtorEq,Nat.reduceEqDiff,Nat.reduceAdd,Nat.reduceMul,Nat.reduceLT,Nat.reduceSub,Int.reduceLT,Int.reduceLE,Int.reduceEq,Int.reduceNe,Int.reduceSub,Int.reduceAdd,Int.reduceMul,Int.reduceBEq,Int.reduceBNe,Int.reduceGT,Int.reduceGE,Nat.reduceGT,Int.reduceToNat,Int.reduceNeg,Nat.reduceLeDiff,Nat.reduceBEq,Nat.reduceBneDiff,Value.cells, s4]
  generalize (h3.set b4 (.own 0 (rowK .u32 (unitF 5) 17) 17)) = h4 at q14 q24 q44 le4 ⊢
  have l14 := rowK_cells q14
  have l44 := rowK_cells q44
  simp -implicitDefEqProofs only [zB1,zB2,zB3,zB4,zB5,zB6,zB7,zB8,zB9,zB10,zB11,y00,y01,y02,y03,y04,y05,y06,y07,y08,y09,y0a,y0b,y0c,y0d,y0e,y0f,y0g,y0h,y0i,y0j,y0k,y0l,y0m,y0n,y0o,y0p,y0q,y0r,y0s,y0t,y0u,y0v,y0w,y0x,y0y,y0z,y10,y11,y12,y13,y14,y15,y16,y17,y18,y19,y1a,y1b,y1c,y1d,y1e,y1f,y1g,y1h,y1i,y1j,y1k,y1l,y1m,y1n,y1o,y1p,y1q,y1r,retO,retL,retV,z69,allV,allP,z6a,z6d,z6e,z6k,z6l,z6m,binV,eqV,unV,oOpt,reduceIte,reduceCtorEq,Nat.reduceEqDiff,Nat.reduceAdd,Nat.reduceMul,Nat.reduceLT,Nat.reduceSub,Int.reduceLT,Int.reduceLE,Int.reduceEq,Int.reduceNe,Int.reduceSub,Int.reduceAdd,Int.reduceMul,Int.reduceBEq,Int.reduceBNe,Int.reduceGT,Int.reduceGE,Nat.reduceGT,Int.reduceToNat,Int.reduceNeg,Nat.reduceLeDiff,Nat.reduceBEq,Nat.reduceBneDiff,Value.cells, l14, l44]
  refine (ref4_plus_c E _ q (unitF 5) (fun j hj => by have := norm_255 nq j hj; omega) (fun j hj => by unfold unitF; split <;> omega)).mono ?_
  rintro v h5 ⟨le5, rfl⟩
  have hi := least_hi nq
  have lo := least_lo nq
  rw [hv] at hi
  have lo : ¬ 4 ≤ addD q (unitF 5) 16 → valD q 17 = valD f 17 % PQ := fun x => by rw [lo x, hv]
  have c16 : addD q (unitF 5) 16 < 4294967296 := by
    rw [addD_16]
    have h1 := carD_le (f := q) (g := unitF 5) (B := 255) (fun j hj => by have := norm_255 nq j hj; omega) (fun j hj => by unfold unitF; split <;> omega) 16 (by omega)
    have h2 := nq.2
    have h3 : unitF 5 16 = 0 := rfl
    omega
  generalize addD q (unitF 5) = g at hi lo c16 ⊢
  simp -implicitDefEqProofs only [zB1,zB2,zB3,zB4,zB5,zB6,zB7,zB8,zB9,zB10,zB11,y00,y01,y02,y03,y04,y05,y06,y07,y08,y09,y0a,y0b,y0c,y0d,y0e,y0f,y0g,y0h,y0i,y0j,y0k,y0l,y0m,y0n,y0o,y0p,y0q,y0r,y0s,y0t,y0u,y0v,y0w,y0x,y0y,y0z,y10,y11,y12,y13,y14,y15,y16,y17,y18,y19,y1a,y1b,y1c,y1d,y1e,y1f,y1g,y1h,y1i,y1j,y1k,y1l,y1m,y1n,y1o,y1p,y1q,y1r,retO,retL,retV,z69,allV,allP,z6a,z6d,z6e,z6k,z6l,z6m,binV,eqV,unV,oOpt,reduceIte,reduceCtorEq,Nat.reduceEqDiff,Nat.reduceAdd,Nat.reduceMul,Nat.reduceLT,Nat.reduceSub,Int.reduceLT,Int.reduceLE,Int.reduceEq,Int.reduceNe,Int.reduceSub,Int.reduceAdd,Int.reduceMul,Int.reduceBEq,Int.reduceBNe,Int.reduceGT,Int.reduceGE,Nat.reduceGT,Int.reduceToNat,Int.reduceNeg,Nat.reduceLeDiff,Nat.reduceBEq,Nat.reduceBneDiff,Value.cells, List.length_replicate]
  intro b5 hb5
  have q15 := set_new (X := .own 0 (List.replicate 17 (.int .u32 0)) 17) hb5 (le5 _ _ q14)
  have q25 := set_new (X := .own 0 (List.replicate 17 (.int .u32 0)) 17) hb5 (le5 _ _ q24)
  have n25 := ne_of_none hb5 (le5 _ _ q24)
  have n15 := ne_of_none hb5 (le5 _ _ q14)
  have hb5' := Heap.none_of_le (Heap.le_trans le4 le5) hb5
  have s5 : storeV (h5.set b5 (.own 0 (List.replicate 17 (.int .u32 0)) 17)) 17 (.pointer (some ⟨b5, 0, none⟩)) (.agg (rowK .u32 g 17).toArray) = some (h5.set b5 (.own 0 (rowK .u32 g 17) 17)) := z6q (by omega) (rowK_len _ _ _) (rowK_one _ _ _) (by simp) (by omega)
  have q55 := Heap.set_self h5 b5 (.own 0 (rowK .u32 g 17) 17)
  have q15 := set_new (X := .own 0 (rowK .u32 g 17) 17) hb5 (le5 _ _ q14)
  have q25 := set_new (X := .own 0 (rowK .u32 g 17) 17) hb5 (le5 _ _ q24)
  have le55 := Heap.le_new (Heap.le_trans le4 le5) hb5 (.own 0 (rowK .u32 g 17) 17)
  simp -implicitDefEqProofs only [zB1,zB2,zB3,zB4,zB5,zB6,zB7,zB8,zB9,zB10,zB11,y00,y01,y02,y03,y04,y05,y06,y07,y08,y09,y0a,y0b,y0c,y0d,y0e,y0f,y0g,y0h,y0i,y0j,y0k,y0l,y0m,y0n,y0o,y0p,y0q,y0r,y0s,y0t,y0u,y0v,y0w,y0x,y0y,y0z,y10,y11,y12,y13,y14,y15,y16,y17,y18,y19,y1a,y1b,y1c,y1d,y1e,y1f,y1g,y1h,y1i,y1j,y1k,y1l,y1m,y1n,y1o,y1p,y1q,y1r,retO,retL,retV,z69,allV,allP,z6a,z6d,z6e,z6k,z6l,z6m,binV,eqV,unV,oOpt,reduceIte,reduceCtorEq,Nat.reduceEqDiff,Nat.reduceAdd,Nat.reduceMul,Nat.reduceLT,Nat.reduceSub,Int.reduceLT,Int.reduceLE,Int.reduceEq,Int.reduceNe,Int.reduceSub,Int.reduceAdd,Int.reduceMul,Int.reduceBEq,Int.reduceBNe,Int.reduceGT,Int.reduceGE,Nat.reduceGT,Int.reduceToNat,Int.reduceNeg,Nat.reduceLeDiff,Nat.reduceBEq,Nat.reduceBneDiff,Value.cells, s5]
  generalize (h5.set b5 (.own 0 (rowK .u32 g 17) 17)) = h6 at q55 q15 q25 le55 ⊢
  have g5 := rowK_at q55 (show 16 < 17 by omega)
  by_cases c4 : (4 : Int) ≤ (g 16 : Int)
  · obtain ⟨nu, hu⟩ := hi (by omega)
    have w3 := u32_and3 c16
    have s6 := rowK_store (z := g 16 % 4) q55 (show 16 < 17 by omega) (Nat.le_refl _)
    have q56 := Heap.set_self h6 b5 (.own 0 (rowK .u32 (upd g 16 (g 16 % 4)) 17) 17)
    have q26 : (h6.set b5 (.own 0 (rowK .u32 (upd g 16 (g 16 % 4)) 17) 17)) b2 = some (.own 0 (List.replicate 17 (.int .u32 0)) 17) := set_keep q25 n25
    have l5 := rowK_cells q56
    have s2 := rowK_agg (k := .u32) (f := upd g 16 (g 16 % 4)) q26 (by simp) (by omega)
    have l2 := z6o (h := h6.set b5 (.own 0 (rowK .u32 (upd g 16 (g 16 % 4)) 17) 17)) (b := b2) (sz := 17) (rowK_len .u32 (upd g 16 (g 16 % 4)) 17)
    simp -implicitDefEqProofs only [zB1,zB2,zB3,zB4,zB5,zB6,zB7,zB8,zB9,zB10,zB11,y00,y01,y02,y03,y04,y05,y06,y07,y08,y09,y0a,y0b,y0c,y0d,y0e,y0f,y0g,y0h,y0i,y0j,y0k,y0l,y0m,y0n,y0o,y0p,y0q,y0r,y0s,y0t,y0u,y0v,y0w,y0x,y0y,y0z,y10,y11,y12,y13,y14,y15,y16,y17,y18,y19,y1a,y1b,y1c,y1d,y1e,y1f,y1g,y1h,y1i,y1j,y1k,y1l,y1m,y1n,y1o,y1p,y1q,y1r,retO,retL,retV,z69,allV,allP,z6a,z6d,z6e,z6k,z6l,z6m,binV,eqV,unV,oOpt,reduceIte,reduceCtorEq,Nat.reduceEqDiff,Nat.reduceAdd,Nat.reduceMul,Nat.reduceLT,Nat.reduceSub,Int.reduceLT,Int.reduceLE,Int.reduceEq,Int.reduceNe,Int.reduceSub,Int.reduceAdd,Int.reduceMul,Int.reduceBEq,Int.reduceBNe,Int.reduceGT,Int.reduceGE,Nat.reduceGT,Int.reduceToNat,Int.reduceNeg,Nat.reduceLeDiff,Nat.reduceBEq,Nat.reduceBneDiff,Value.cells, g5, c4, w3, s6, l5, s2, l2]
    exact ⟨Heap.le_set (Heap.le_set le55 hb5' _) hb2' _, _, rfl, nu, hu⟩
  · have l1 := rowK_cells q15
    have s2 := rowK_agg (k := .u32) (f := q) q25 (by simp) (by omega)
    have l2 := z6o (h := h6) (b := b2) (sz := 17) (rowK_len .u32 q 17)
    simp -implicitDefEqProofs only [zB1,zB2,zB3,zB4,zB5,zB6,zB7,zB8,zB9,zB10,zB11,y00,y01,y02,y03,y04,y05,y06,y07,y08,y09,y0a,y0b,y0c,y0d,y0e,y0f,y0g,y0h,y0i,y0j,y0k,y0l,y0m,y0n,y0o,y0p,y0q,y0r,y0s,y0t,y0u,y0v,y0w,y0x,y0y,y0z,y10,y11,y12,y13,y14,y15,y16,y17,y18,y19,y1a,y1b,y1c,y1d,y1e,y1f,y1g,y1h,y1i,y1j,y1k,y1l,y1m,y1n,y1o,y1p,y1q,y1r,retO,retL,retV,z69,allV,allP,z6a,z6d,z6e,z6k,z6l,z6m,binV,eqV,unV,oOpt,reduceIte,reduceCtorEq,Nat.reduceEqDiff,Nat.reduceAdd,Nat.reduceMul,Nat.reduceLT,Nat.reduceSub,Int.reduceLT,Int.reduceLE,Int.reduceEq,Int.reduceNe,Int.reduceSub,Int.reduceAdd,Int.reduceMul,Int.reduceBEq,Int.reduceBNe,Int.reduceGT,Int.reduceGE,Nat.reduceGT,Int.reduceToNat,Int.reduceNeg,Nat.reduceLeDiff,Nat.reduceBEq,Nat.reduceBneDiff,Value.cells, g5, c4, l1, s2, l2]
    exact ⟨Heap.le_set le55 hb2' _, _, rfl, nq, lo (by omega)⟩
end Go.Bb
/- The document's poly: Clamp. -/
namespace Go.Bb
set_option linter.unusedSimpArgs false
set_option linter.unusedVariables false
set_option maxRecDepth 20000
set_option maxHeartbeats 4000000

theorem ref4_Clamp_c (E : EnvT tab) (h : Heap) (f : Nat → UInt8) : ACallN E.toEnv n_bandboxref4_Clamp [.agg (row8 f 16).toArray] h fun r h' => h.le h' ∧ r = .agg (row8 (clampG f) 16).toArray := by
  refine acall h_bandboxref4_Clamp ir_bandboxref4_Clamp rfl rfl (wpA_sound ?_)
  unfold ir_bandboxref4_Clamp
  simp -implicitDefEqProofs only [zB1,zB2,zB3,zB4,zB5,zB6,zB7,zB8,zB9,zB10,zB11,y00,y01,y02,y03,y04,y05,y06,y07,y08,y09,y0a,y0b,y0c,y0d,y0e,y0f,y0g,y0h,y0i,y0j,y0k,y0l,y0m,y0n,y0o,y0p,y0q,y0r,y0s,y0t,y0u,y0v,y0w,y0x,y0y,y0z,y10,y11,y12,y13,y14,y15,y16,y17,y18,y19,y1a,y1b,y1c,y1d,y1e,y1f,y1g,y1h,y1i,y1j,y1k,y1l,y1m,y1n,y1o,y1p,y1q,y1r,retO,retL,retV,z69,allV,allP,z6a,z6d,z6e,z6k,z6l,z6m,binV,eqV,unV,oOpt,reduceIte,reduceCtorEq,Nat.reduceEqDiff,Nat.reduceAdd,Nat.reduceMul,Nat.reduceLT,Nat.reduceSub,Int.reduceLT,Int.reduceLE,Int.reduceEq,Int.reduceNe,Int.reduceSub,Int.reduceAdd,Int.reduceMul,Int.reduceBEq,Int.reduceBNe,Int.reduceGT,Int.reduceGE,Nat.reduceGT,Int.reduceToNat,Int.reduceNeg,Nat.reduceLeDiff,Nat.reduceBEq,Nat.reduceBneDiff,Value.cells, List.length_replicate, row8_len]
  intro b1 hb1 b2 hb2
  obtain ⟨n21, hb2'⟩ := Heap.set_none.1 hb2
  try simp -implicitDefEqProofs only [zB1,zB2,zB3,zB4,zB5,zB6,zB7,zB8,zB9,zB10,zB11,y00,y01,y02,y03,y04,y05,y06,y07,y08,y09,y0a,y0b,y0c,y0d,y0e,y0f,y0g,y0h,y0i,y0j,y0k,y0l,y0m,y0n,y0o,y0p,y0q,y0r,y0s,y0t,y0u,y0v,y0w,y0x,y0y,y0z,y10,y11,y12,y13,y14,y15,y16,y17,y18,y19,y1a,y1b,y1c,y1d,y1e,y1f,y1g,y1h,y1i,y1j,y1k,y1l,y1m,y1n,y1o,y1p,y1q,y1r,retO,retL,retV,z69,allV,allP,z6a,z6d,z6e,z6k,z6l,z6m,binV,eqV,unV,oOpt,reduceIte,reduceCtorEq,Nat.reduceEqDiff,Nat.reduceAdd,Nat.reduceMul,Nat.reduceLT,Nat.reduceSub,Int.reduceLT,Int.reduceLE,Int.reduceEq,Int.reduceNe,Int.reduceSub,Int.reduceAdd,Int.reduceMul,Int.reduceBEq,Int.reduceBNe,Int.reduceGT,Int.reduceGE,Nat.reduceGT,Int.reduceToNat,Int.reduceNeg,Nat.reduceLeDiff,Nat.reduceBEq,Nat.reduceBneDiff,Value.cells]
  have le0 : h.le ((h.set b1 (.own 0 (row8 f 16) 16)).set b2 (.own 0 (List.replicate 16 (.int .u8 0)) 16)) := Heap.le_set (Heap.le_set (Heap.le_refl _) hb1 _) hb2' _
  have q1 : ((h.set b1 (.own 0 (row8 f 16) 16)).set b2 (.own 0 (List.replicate 16 (.int .u8 0)) 16)) b1 = some (.own 0 (row8 (clA f 0) 16) 16) := by
    rw [Heap.set_ne (Ne.symm n21), Heap.set_self]
    rw [show row8 f 16 = row8 (clA f 0) 16 from row8_congr fun k _ => by unfold clA; rw [if_neg (by omega)]]
  have q2 : ((h.set b1 (.own 0 (row8 f 16) 16)).set b2 (.own 0 (List.replicate 16 (.int .u8 0)) 16)) b2 = some (.own 0 (List.replicate 16 (.int .u8 0)) 16) := Heap.set_self _ _ _
  generalize ((h.set b1 (.own 0 (row8 f 16) 16)).set b2 (.own 0 (List.replicate 16 (.int .u8 0)) 16)) = h1 at le0 q1 q2 ⊢
  refine wp_loop' (fun m t H => h.le H ∧ ∃ (i : Nat), t = tl [(1, .pointer (some ⟨b1, 0, none⟩)), (2, .pointer (some ⟨b2, 0, none⟩)), (3, .int .i64 (ixA i : Nat))] ∧ i ≤ 4 ∧ m = 4 - i ∧
      H b1 = some (.own 0 (row8 (clA f i) 16) 16) ∧ H b2 = some (.own 0 (List.replicate 16 (.int .u8 0)) 16)) 4
    ⟨le0, 0, rfl, by omega, by omega, q1, q2⟩ ?_
  clear q1 q2 le0
  rintro m t H ⟨leH, i, rfl, hi, rfl, q1, q2⟩
  by_cases hlt : i < 4
  · have x1 : ixA i < 16 := by unfold ixA; omega
    have x2 : ((ixA i : Nat) : Int) < 16 := by omega
    have x3 : (0 : Int) ≤ ((ixA i : Nat) : Int) := by omega
    have w1 : IntKind.i64.wrap (((ixA i : Nat) : Int) + 4) = ((ixA (i + 1) : Nat) : Int) := by rw [wrapI (by omega) (by omega)]; unfold ixA; omega
    have c1 := row8_at q1 x1
    have s1 := row8_store (z := clA f i (ixA i) &&& 15) q1 x1
    rw [clA_step] at s1
    simp -implicitDefEqProofs only [zB1,zB2,zB3,zB4,zB5,zB6,zB7,zB8,zB9,zB10,zB11,y00,y01,y02,y03,y04,y05,y06,y07,y08,y09,y0a,y0b,y0c,y0d,y0e,y0f,y0g,y0h,y0i,y0j,y0k,y0l,y0m,y0n,y0o,y0p,y0q,y0r,y0s,y0t,y0u,y0v,y0w,y0x,y0y,y0z,y10,y11,y12,y13,y14,y15,y16,y17,y18,y19,y1a,y1b,y1c,y1d,y1e,y1f,y1g,y1h,y1i,y1j,y1k,y1l,y1m,y1n,y1o,y1p,y1q,y1r,retO,retL,retV,z69,allV,allP,z6a,z6d,z6e,z6k,z6l,z6m,binV,eqV,unV,oOpt,reduceIte,reduceCtorEq,Nat.reduceEqDiff,Nat.reduceAdd,Nat.reduceMul,Nat.reduceLT,Nat.reduceSub,Int.reduceLT,Int.reduceLE,Int.reduceEq,Int.reduceNe,Int.reduceSub,Int.reduceAdd,Int.reduceMul,Int.reduceBEq,Int.reduceBNe,Int.reduceGT,Int.reduceGE,Nat.reduceGT,Int.reduceToNat,Int.reduceNeg,Nat.reduceLeDiff,Nat.reduceBEq,Nat.reduceBneDiff,Value.cells, x2, x3, Int.toNat_natCast, c1, u8_a15, s1, w1]
    exact ⟨_, by omega, Heap.le_set leH hb1 _, i + 1, rfl, by omega, rfl, Heap.set_self _ _ _, set_keep q2 n21⟩
  · have : i = 4 := by omega
    subst this
    have x2 : ¬ ((ixA 4 : Nat) : Int) < 16 := by decide
    rw [show row8 (clA f 4) 16 = row8 (clB (clA f 4) 0) 16 from row8_congr fun k _ => by (conv => rhs; unfold clB); rw [if_neg (by omega)]] at q1
    generalize hg : clA f 4 = g at q1
    have hcl : clampG f = clB g 3 := by unfold clampG; rw [hg]
    rw [hcl]
    simp -implicitDefEqProofs only [zB1,zB2,zB3,zB4,zB5,zB6,zB7,zB8,zB9,zB10,zB11,y00,y01,y02,y03,y04,y05,y06,y07,y08,y09,y0a,y0b,y0c,y0d,y0e,y0f,y0g,y0h,y0i,y0j,y0k,y0l,y0m,y0n,y0o,y0p,y0q,y0r,y0s,y0t,y0u,y0v,y0w,y0x,y0y,y0z,y10,y11,y12,y13,y14,y15,y16,y17,y18,y19,y1a,y1b,y1c,y1d,y1e,y1f,y1g,y1h,y1i,y1j,y1k,y1l,y1m,y1n,y1o,y1p,y1q,y1r,retO,retL,retV,z69,allV,allP,z6a,z6d,z6e,z6k,z6l,z6m,binV,eqV,unV,oOpt,reduceIte,reduceCtorEq,Nat.reduceEqDiff,Nat.reduceAdd,Nat.reduceMul,Nat.reduceLT,Nat.reduceSub,Int.reduceLT,Int.reduceLE,Int.reduceEq,Int.reduceNe,Int.reduceSub,Int.reduceAdd,Int.reduceMul,Int.reduceBEq,Int.reduceBNe,Int.reduceGT,Int.reduceGE,Nat.reduceGT,Int.reduceToNat,Int.reduceNeg,Nat.reduceLeDiff,Nat.reduceBEq,Nat.reduceBneDiff,Value.cells, x2]
    unfold ir_bandboxref4_Clamp_4
    simp -implicitDefEqProofs only [zB1,zB2,zB3,zB4,zB5,zB6,zB7,zB8,zB9,zB10,zB11,y00,y01,y02,y03,y04,y05,y06,y07,y08,y09,y0a,y0b,y0c,y0d,y0e,y0f,y0g,y0h,y0i,y0j,y0k,y0l,y0m,y0n,y0o,y0p,y0q,y0r,y0s,y0t,y0u,y0v,y0w,y0x,y0y,y0z,y10,y11,y12,y13,y14,y15,y16,y17,y18,y19,y1a,y1b,y1c,y1d,y1e,y1f,y1g,y1h,y1i,y1j,y1k,y1l,y1m,y1n,y1o,y1p,y1q,y1r,retO,retL,retV,z69,allV,allP,z6a,z6d,z6e,z6k,z6l,z6m,binV,eqV,unV,oOpt,reduceIte,reduceCtorEq,Nat.reduceEqDiff,Nat.reduceAdd,Nat.reduceMul,Nat.reduceLT,Nat.reduceSub,Int.reduceLT,Int.reduceLE,Int.reduceEq,Int.reduceNe,Int.reduceSub,Int.reduceAdd,Int.reduceMul,Int.reduceBEq,Int.reduceBNe,Int.reduceGT,Int.reduceGE,Nat.reduceGT,Int.reduceToNat,Int.reduceNeg,Nat.reduceLeDiff,Nat.reduceBEq,Nat.reduceBneDiff,Value.cells]
    refine wp_loop' (fun m t H => h.le H ∧ ∃ (i : Nat), t = tl [(1, .pointer (some ⟨b1, 0, none⟩)), (2, .pointer (some ⟨b2, 0, none⟩)), (4, .int .i64 (ixB i : Nat))] ∧ i ≤ 3 ∧ m = 3 - i ∧
        H b1 = some (.own 0 (row8 (clB g i) 16) 16) ∧ H b2 = some (.own 0 (List.replicate 16 (.int .u8 0)) 16)) 3
      ⟨leH, 0, rfl, by omega, by omega, q1, q2⟩ ?_
    clear q1 q2 leH
    rintro m t H ⟨leH, i, rfl, hi, rfl, q1, q2⟩
    by_cases hlt : i < 3
    · have x1 : ixB i < 16 := by unfold ixB; omega
      have x2 : ((ixB i : Nat) : Int) < 16 := by omega
      have x3 : (0 : Int) ≤ ((ixB i : Nat) : Int) := by omega
      have w1 : IntKind.i64.wrap (((ixB i : Nat) : Int) + 4) = ((ixB (i + 1) : Nat) : Int) := by rw [wrapI (by omega) (by omega)]; unfold ixB; omega
      have c1 := row8_at q1 x1
      have s1 := row8_store (z := clB g i (ixB i) &&& 252) q1 x1
      rw [clB_step] at s1
      simp -implicitDefEqProofs only [zB1,zB2,zB3,zB4,zB5,zB6,zB7,zB8,zB9,zB10,zB11,y00,y01,y02,y03,y04,y05,y06,y07,y08,y09,y0a,y0b,y0c,y0d,y0e,y0f,y0g,y0h,y0i,y0j,y0k,y0l,y0m,y0n,y0o,y0p,y0q,y0r,y0s,y0t,y0u,y0v,y0w,y0x,y0y,y0z,y10,y11,y12,y13,y14,y15,y16,y17,y18,y19,y1a,y1b,y1c,y1d,y1e,y1f,y1g,y1h,y1i,y1j,y1k,y1l,y1m,y1n,y1o,y1p,y1q,y1r,retO,retL,retV,z69,allV,allP,z6a,z6d,z6e,z6k,z6l,z6m,binV,eqV,unV,oOpt,reduceIte,reduceCtorEq,Nat.reduceEqDiff,Nat.reduceAdd,Nat.reduceMul,Nat.reduceLT,Nat.reduceSub,Int.reduceLT,Int.reduceLE,Int.reduceEq,Int.reduceNe,Int.reduceSub,Int.reduceAdd,Int.reduceMul,Int.reduceBEq,Int.reduceBNe,Int.reduceGT,Int.reduceGE,Nat.reduceGT,Int.reduceToNat,Int.reduceNeg,Nat.reduceLeDiff,Nat.reduceBEq,Nat.reduceBneDiff,Value.cells, x2, x3, Int.toNat_natCast, c1, u8_a252, s1, w1]
      exact ⟨_, by omega, Heap.le_set leH hb1 _, i + 1, rfl, by omega, rfl, Heap.set_self _ _ _, set_keep q2 n21⟩
    · have : i = 3 := by omega
      subst this
      have x2 : ¬ ((ixB 3 : Nat) : Int) < 16 := by decide
      have hl : hcells H ⟨b1, 0, none⟩ 16 = some (row8 (clB g 3) 16) := by rw [hcells_at q1 (by rw [row8_len]; omega)]; simp [List.take_of_length_le, row8_len]
      have st : storeV H 16 (.pointer (some ⟨b2, 0, none⟩)) (.agg (row8 (clB g 3) 16).toArray) = some (H.set b2 (.own 0 (row8 (clB g 3) 16) 16)) := storeV_agg_at q2 (by omega) (row8_len _ _) (by simp [row8, one]) (by simp) (by omega)
      have hl2 : hcells (H.set b2 (.own 0 (row8 (clB g 3) 16) 16)) ⟨b2, 0, none⟩ 16 = some (row8 (clB g 3) 16) := z6o (row8_len _ _)
      simp -implicitDefEqProofs only [zB1,zB2,zB3,zB4,zB5,zB6,zB7,zB8,zB9,zB10,zB11,y00,y01,y02,y03,y04,y05,y06,y07,y08,y09,y0a,y0b,y0c,y0d,y0e,y0f,y0g,y0h,y0i,y0j,y0k,y0l,y0m,y0n,y0o,y0p,y0q,y0r,y0s,y0t,y0u,y0v,y0w,y0x,y0y,y0z,y10,y11,y12,y13,y14,y15,y16,y17,y18,y19,y1a,y1b,y1c,y1d,y1e,y1f,y1g,y1h,y1i,y1j,y1k,y1l,y1m,y1n,y1o,y1p,y1q,y1r,retO,retL,retV,z69,allV,allP,z6a,z6d,z6e,z6k,z6l,z6m,binV,eqV,unV,oOpt,reduceIte,reduceCtorEq,Nat.reduceEqDiff,Nat.reduceAdd,Nat.reduceMul,Nat.reduceLT,Nat.reduceSub,Int.reduceLT,Int.reduceLE,Int.reduceEq,Int.reduceNe,Int.reduceSub,Int.reduceAdd,Int.reduceMul,Int.reduceBEq,Int.reduceBNe,Int.reduceGT,Int.reduceGE,Nat.reduceGT,Int.reduceToNat,Int.reduceNeg,Nat.reduceLeDiff,Nat.reduceBEq,Nat.reduceBneDiff,Value.cells, x2, hl, st, hl2]
      exact Heap.le_set leH hb2' _
end Go.Bb
/- The document's poly: Tag. -/
namespace Go.Bb
set_option linter.unusedSimpArgs false
set_option linter.unusedVariables false
set_option maxRecDepth 20000
set_option maxHeartbeats 4000000

theorem tag13 (E : EnvT tab) {h H : Heap} {Q : AExit → T → Heap → Prop} {base : Option Addr} {c b2 b4 b7 b9 b11 i n : Nat} {l : List UInt8} {q r : Nat → Nat} {nz : Int} (xs : List (Nat × Value)) (hnz : nz = (n : Int))
    (sl : SlB h (.slice base l.length c) l) (hi : i < l.length) (hl : l.length ≤ 100000000) (hn : n = min 16 (l.length - i)) (hh : h.le H) (h9 : h b9 = none) (h11 : h b11 = none)
    (q7 : H b7 = some (.own 0 (rowK .u32 r 17) 17)) (q9 : H b9 = some (.own 0 (rowK .u32 q 17) 17)) (q11 : H b11 = some (.own 0 (rowK .u32 (fun _ => 0) 17) 17))
    (hr : ∀ j, j < 17 → r j < 256) (nq : NormD q) (n97 : b7 ≠ b9) (nb : b7 ≠ b11) (n911 : b9 ≠ b11)
    (hQ : ∀ H' p, h.le H' → (∀ b y, b ≠ b9 → b ≠ b11 → H b = some y → H' b = some y) → H' b9 = some (.own 0 (rowK .u32 p 17) 17) → NormD p → valD p 17 % PQ = (valD q 17 + blkV ((l.drop i).take n)) * valD r 17 % PQ →
      Q .normal (tl [(1, .slice base l.length c), (2, .pointer (some ⟨b2, 0, none⟩)), (4, .pointer (some ⟨b4, 0, none⟩)), (7, .pointer (some ⟨b7, 0, none⟩)), (9, .pointer (some ⟨b9, 0, none⟩)), (10, .int .i64 i)]) H') :
    wpA E.toEnv 95 ir_bandboxref4_Tag_13 Q (tl ([(1, .slice base l.length c), (2, .pointer (some ⟨b2, 0, none⟩)), (4, .pointer (some ⟨b4, 0, none⟩)), (7, .pointer (some ⟨b7, 0, none⟩)), (9, .pointer (some ⟨b9, 0, none⟩)), (10, .int .i64 i), (11, .pointer (some ⟨b11, 0, none⟩)), (12, .int .i64 nz)] ++ xs)) H := by
  subst hnz
  unfold ir_bandboxref4_Tag_13
  simp -implicitDefEqProofs only [zB1,zB2,zB3,zB4,zB5,zB6,zB7,zB8,zB9,zB10,zB11,y00,y01,y02,y03,y04,y05,y06,y07,y08,y09,y0a,y0b,y0c,y0d,y0e,y0f,y0g,y0h,y0i,y0j,y0k,y0l,y0m,y0n,y0o,y0p,y0q,y0r,y0s,y0t,y0u,y0v,y0w,y0x,y0y,y0z,y10,y11,y12,y13,y14,y15,y16,y17,y18,y19,y1a,y1b,y1c,y1d,y1e,y1f,y1g,y1h,y1i,y1j,y1k,y1l,y1m,y1n,y1o,y1p,y1q,y1r,retO,retL,retV,z69,allV,allP,z6a,z6d,z6e,z6k,z6l,z6m,binV,eqV,unV,oOpt,reduceIte,reduceCtorEq,Nat.reduceEqDiff,Nat.reduceAdd,Nat.reduceMul,Nat.reduceLT,Nat.reduceSub,Int.reduceLT,Int.reduceLE,Int.reduceEq,Int.reduceNe,Int.reduceSub,Int.reduceAdd,Int.reduceMul,Int.reduceBEq,Int.reduceBNe,Int.reduceGT,Int.reduceGE,Nat.reduceGT,Int.reduceToNat,Int.reduceNeg,Nat.reduceLeDiff,Nat.reduceBEq,Nat.reduceBneDiff,Value.cells]
  refine wp_loop' (fun m t H' => ∃ k : Nat, k ≤ n ∧ m = n - k ∧ t = tl [(1, .slice base l.length c), (2, .pointer (some ⟨b2, 0, none⟩)), (4, .pointer (some ⟨b4, 0, none⟩)), (7, .pointer (some ⟨b7, 0, none⟩)), (9, .pointer (some ⟨b9, 0, none⟩)), (10, .int .i64 i), (11, .pointer (some ⟨b11, 0, none⟩)), (12, .int .i64 n), (13, .int .i64 k)] ∧
    H' = H.set b11 (.own 0 (rowK .u32 (blendF (fun j => (((l.drop i).take n).getD j 0).toNat) (fun _ => 0) k) 17) 17)) n ⟨0, by omega, by omega, rfl, by rw [blendF_0, Heap.set_same q11]⟩ ?_
  rintro m t H' ⟨k, hk, rfl, rfl, rfl⟩
  have q11' := Heap.set_self H b11 (.own 0 (rowK .u32 (blendF (fun j => (((l.drop i).take n).getD j 0).toNat) (fun _ => 0) k) 17) 17)
  by_cases hlt : (k : Int) < (n : Int)
  · have hk' : k < n := by omega
    have hx : l[i + k]'(by omega) = ((l.drop i).take n).getD k 0 := by
      simp [List.getD_eq_getElem?_getD, List.getElem?_take, List.getElem?_drop, hk']
      rw [List.getElem?_eq_getElem (by omega)]; rfl
    obtain ⟨b, o, c', hv, hc, hcl⟩ := Sl.byte_at sl (i + k) (by omega)
    simp only [Value.slice.injEq, true_and] at hv
    obtain ⟨rfl, rfl⟩ := hv
    have hz := hcl (H.set b11 (.own 0 (rowK .u32 (blendF (fun j => (((l.drop i).take n).getD j 0).toNat) (fun _ => 0) k) 17) 17)) (Heap.le_set hh h11 _)
    rw [hx] at hz
    unfold u8V at hz
    have e1 : (0 : Int) ≤ ((i + k : Nat) : Int) := by omega
    have e2 : ((i + k : Nat) : Int) < (l.length : Int) := by omega
    have e3 : (k : Int) < 17 := by omega
    have e0 : (0 : Int) ≤ (k : Int) := by omega
    have w1 : IntKind.i64.wrap ((i : Int) + (k : Int)) = ((i + k : Nat) : Int) := by rw [wrapI (by omega) (by omega)]; rfl
    have ht : (((l.drop i).take n).getD k 0).toNat < 256 := (((l.drop i).take n).getD k 0).toNat_lt
    have w2 : IntKind.u32.wrap ((((l.drop i).take n).getD k 0).toNat : Int) = ((((l.drop i).take n).getD k 0).toNat : Int) := wrap_u32n (by omega)
    have w7 : IntKind.i64.wrap ((k : Int) + 1) = ((k + 1 : Nat) : Int) := wrapN (by omega)
    have s11 := rowK_store (z := (((l.drop i).take n).getD k 0).toNat) q11' (show k < 17 by omega) (Nat.le_refl _)
    rw [Heap.set_set, blendF_step (fun j => (((l.drop i).take n).getD j 0).toNat)] at s11
    simp -implicitDefEqProofs only [zB1,zB2,zB3,zB4,zB5,zB6,zB7,zB8,zB9,zB10,zB11,y00,y01,y02,y03,y04,y05,y06,y07,y08,y09,y0a,y0b,y0c,y0d,y0e,y0f,y0g,y0h,y0i,y0j,y0k,y0l,y0m,y0n,y0o,y0p,y0q,y0r,y0s,y0t,y0u,y0v,y0w,y0x,y0y,y0z,y10,y11,y12,y13,y14,y15,y16,y17,y18,y19,y1a,y1b,y1c,y1d,y1e,y1f,y1g,y1h,y1i,y1j,y1k,y1l,y1m,y1n,y1o,y1p,y1q,y1r,retO,retL,retV,z69,allV,allP,z6a,z6d,z6e,z6k,z6l,z6m,binV,eqV,unV,oOpt,reduceIte,reduceCtorEq,Nat.reduceEqDiff,Nat.reduceAdd,Nat.reduceMul,Nat.reduceLT,Nat.reduceSub,Int.reduceLT,Int.reduceLE,Int.reduceEq,Int.reduceNe,Int.reduceSub,Int.reduceAdd,Int.reduceMul,Int.reduceBEq,Int.reduceBNe,Int.reduceGT,Int.reduceGE,Nat.reduceGT,Int.reduceToNat,Int.reduceNeg,Nat.reduceLeDiff,Nat.reduceBEq,Nat.reduceBneDiff,Value.cells, hlt, e0, e1, e2, e3, w1, hz, w2, s11, w7, Int.toNat_natCast]
    exact ⟨_, by omega, k + 1, by omega, rfl, rfl, rfl⟩
  · obtain rfl : k = n := by omega
    have lL : ((l.drop i).take k).length = k := by simp; omega
    have e1 : (0 : Int) ≤ (k : Int) := by omega
    have e2 : (k : Int) < 17 := by omega
    have s11 := rowK_store (z := 1) q11' (show k < 17 by omega) (Nat.le_refl _)
    have eD : upd (blendF (fun j => (((l.drop i).take k).getD j 0).toNat) (fun _ => 0) k) k 1 = endD ((l.drop i).take k) := by unfold endD; rw [lL]
    rw [Heap.set_set, eD, show ((1 : Nat) : Int) = 1 from rfl] at s11
    have hb1 : blkV ((l.drop i).take k) = valD (endD ((l.drop i).take k)) 17 := by rw [endD_val _ (by omega), blkV]
    have d1 := endD_lt ((l.drop i).take k)
    have d2 := endD_16 ((l.drop i).take k) (by omega)
    rw [hb1] at hQ
    generalize endD ((l.drop i).take k) = g at s11 d1 d2 hQ
    simp -implicitDefEqProofs only [zB1,zB2,zB3,zB4,zB5,zB6,zB7,zB8,zB9,zB10,zB11,y00,y01,y02,y03,y04,y05,y06,y07,y08,y09,y0a,y0b,y0c,y0d,y0e,y0f,y0g,y0h,y0i,y0j,y0k,y0l,y0m,y0n,y0o,y0p,y0q,y0r,y0s,y0t,y0u,y0v,y0w,y0x,y0y,y0z,y10,y11,y12,y13,y14,y15,y16,y17,y18,y19,y1a,y1b,y1c,y1d,y1e,y1f,y1g,y1h,y1i,y1j,y1k,y1l,y1m,y1n,y1o,y1p,y1q,y1r,retO,retL,retV,z69,allV,allP,z6a,z6d,z6e,z6k,z6l,z6m,binV,eqV,unV,oOpt,reduceIte,reduceCtorEq,Nat.reduceEqDiff,Nat.reduceAdd,Nat.reduceMul,Nat.reduceLT,Nat.reduceSub,Int.reduceLT,Int.reduceLE,Int.reduceEq,Int.reduceNe,Int.reduceSub,Int.reduceAdd,Int.reduceMul,Int.reduceBEq,Int.reduceBNe,Int.reduceGT,Int.reduceGE,Nat.reduceGT,Int.reduceToNat,Int.reduceNeg,Nat.reduceLeDiff,Nat.reduceBEq,Nat.reduceBneDiff,Value.cells, hlt]
    unfold ir_bandboxref4_Tag_60
    simp -implicitDefEqProofs only [zB1,zB2,zB3,zB4,zB5,zB6,zB7,zB8,zB9,zB10,zB11,y00,y01,y02,y03,y04,y05,y06,y07,y08,y09,y0a,y0b,y0c,y0d,y0e,y0f,y0g,y0h,y0i,y0j,y0k,y0l,y0m,y0n,y0o,y0p,y0q,y0r,y0s,y0t,y0u,y0v,y0w,y0x,y0y,y0z,y10,y11,y12,y13,y14,y15,y16,y17,y18,y19,y1a,y1b,y1c,y1d,y1e,y1f,y1g,y1h,y1i,y1j,y1k,y1l,y1m,y1n,y1o,y1p,y1q,y1r,retO,retL,retV,z69,allV,allP,z6a,z6d,z6e,z6k,z6l,z6m,binV,eqV,unV,oOpt,reduceIte,reduceCtorEq,Nat.reduceEqDiff,Nat.reduceAdd,Nat.reduceMul,Nat.reduceLT,Nat.reduceSub,Int.reduceLT,Int.reduceLE,Int.reduceEq,Int.reduceNe,Int.reduceSub,Int.reduceAdd,Int.reduceMul,Int.reduceBEq,Int.reduceBNe,Int.reduceGT,Int.reduceGE,Nat.reduceGT,Int.reduceToNat,Int.reduceNeg,Nat.reduceLeDiff,Nat.reduceBEq,Nat.reduceBneDiff,Value.cells, e1, e2, Int.toNat_natCast, s11]
    have l9 : hcells (H.set b11 (.own 0 (rowK .u32 g 17) 17)) ⟨b9, 0, none⟩ 17 = some (rowK .u32 q 17) := rowK_cells (set_keep q9 n911)
    have l7 : hcells (H.set b11 (.own 0 (rowK .u32 g 17) 17)) ⟨b7, 0, none⟩ 17 = some (rowK .u32 r 17) := rowK_cells (set_keep q7 nb)
    have l11 : hcells (H.set b11 (.own 0 (rowK .u32 g 17) 17)) ⟨b11, 0, none⟩ 17 = some (rowK .u32 g 17) := z6o (rowK_len _ _ _)
    have q71 : (H.set b11 (.own 0 (rowK .u32 g 17) 17)) b7 = some (.own 0 (rowK .u32 r 17) 17) := set_keep q7 nb
    have q91 : (H.set b11 (.own 0 (rowK .u32 g 17) 17)) b9 = some (.own 0 (rowK .u32 q 17) 17) := set_keep q9 n911
    have hh1 : h.le (H.set b11 (.own 0 (rowK .u32 g 17) 17)) := Heap.le_set hh h11 _
    have keep1 : ∀ b y, b ≠ b9 → b ≠ b11 → H b = some y → (H.set b11 (.own 0 (rowK .u32 g 17) 17)) b = some y := fun b y _ x hy => set_keep hy x
    generalize (H.set b11 (.own 0 (rowK .u32 g 17) 17)) = H1 at l9 l7 l11 q71 q91 hh1 keep1 ⊢
    simp -implicitDefEqProofs only [zB1,zB2,zB3,zB4,zB5,zB6,zB7,zB8,zB9,zB10,zB11,y00,y01,y02,y03,y04,y05,y06,y07,y08,y09,y0a,y0b,y0c,y0d,y0e,y0f,y0g,y0h,y0i,y0j,y0k,y0l,y0m,y0n,y0o,y0p,y0q,y0r,y0s,y0t,y0u,y0v,y0w,y0x,y0y,y0z,y10,y11,y12,y13,y14,y15,y16,y17,y18,y19,y1a,y1b,y1c,y1d,y1e,y1f,y1g,y1h,y1i,y1j,y1k,y1l,y1m,y1n,y1o,y1p,y1q,y1r,retO,retL,retV,z69,allV,allP,z6a,z6d,z6e,z6k,z6l,z6m,binV,eqV,unV,oOpt,reduceIte,reduceCtorEq,Nat.reduceEqDiff,Nat.reduceAdd,Nat.reduceMul,Nat.reduceLT,Nat.reduceSub,Int.reduceLT,Int.reduceLE,Int.reduceEq,Int.reduceNe,Int.reduceSub,Int.reduceAdd,Int.reduceMul,Int.reduceBEq,Int.reduceBNe,Int.reduceGT,Int.reduceGE,Nat.reduceGT,Int.reduceToNat,Int.reduceNeg,Nat.reduceLeDiff,Nat.reduceBEq,Nat.reduceBneDiff,Value.cells, l9, l11]
    refine (ref4_plus_c E _ q g (fun j hj => by have := norm_255 nq j hj; omega) (fun j hj => by have := d1 j; omega)).mono ?_
    rintro v H2 ⟨le2, rfl⟩
    have l7' := hcells_le le2 l7
    simp -implicitDefEqProofs only [zB1,zB2,zB3,zB4,zB5,zB6,zB7,zB8,zB9,zB10,zB11,y00,y01,y02,y03,y04,y05,y06,y07,y08,y09,y0a,y0b,y0c,y0d,y0e,y0f,y0g,y0h,y0i,y0j,y0k,y0l,y0m,y0n,y0o,y0p,y0q,y0r,y0s,y0t,y0u,y0v,y0w,y0x,y0y,y0z,y10,y11,y12,y13,y14,y15,y16,y17,y18,y19,y1a,y1b,y1c,y1d,y1e,y1f,y1g,y1h,y1i,y1j,y1k,y1l,y1m,y1n,y1o,y1p,y1q,y1r,retO,retL,retV,z69,allV,allP,z6a,z6d,z6e,z6k,z6l,z6m,binV,eqV,unV,oOpt,reduceIte,reduceCtorEq,Nat.reduceEqDiff,Nat.reduceAdd,Nat.reduceMul,Nat.reduceLT,Nat.reduceSub,Int.reduceLT,Int.reduceLE,Int.reduceEq,Int.reduceNe,Int.reduceSub,Int.reduceAdd,Int.reduceMul,Int.reduceBEq,Int.reduceBNe,Int.reduceGT,Int.reduceGE,Nat.reduceGT,Int.reduceToNat,Int.reduceNeg,Nat.reduceLeDiff,Nat.reduceBEq,Nat.reduceBneDiff,Value.cells, l7, l7', List.mem_cons, List.not_mem_nil, List.mem_singleton, or_false, forall_eq, forall_eq_or_imp, implies_true]
    refine (ref4_times_c E _ (addD q g) r (sum_lt nq (fun j _ => d1 j) d2) hr).mono ?_
    rintro v H3 ⟨le3, p, rfl, np, hv⟩
    rw [addD_val] at hv
    have le13 := Heap.le_trans le2 le3
    have s9 := rowK_agg (k := .u32) (f := p) (le13 _ _ q91) (rowK_len _ _ _) (by omega)
    simp -implicitDefEqProofs only [zB1,zB2,zB3,zB4,zB5,zB6,zB7,zB8,zB9,zB10,zB11,y00,y01,y02,y03,y04,y05,y06,y07,y08,y09,y0a,y0b,y0c,y0d,y0e,y0f,y0g,y0h,y0i,y0j,y0k,y0l,y0m,y0n,y0o,y0p,y0q,y0r,y0s,y0t,y0u,y0v,y0w,y0x,y0y,y0z,y10,y11,y12,y13,y14,y15,y16,y17,y18,y19,y1a,y1b,y1c,y1d,y1e,y1f,y1g,y1h,y1i,y1j,y1k,y1l,y1m,y1n,y1o,y1p,y1q,y1r,retO,retL,retV,z69,allV,allP,z6a,z6d,z6e,z6k,z6l,z6m,binV,eqV,unV,oOpt,reduceIte,reduceCtorEq,Nat.reduceEqDiff,Nat.reduceAdd,Nat.reduceMul,Nat.reduceLT,Nat.reduceSub,Int.reduceLT,Int.reduceLE,Int.reduceEq,Int.reduceNe,Int.reduceSub,Int.reduceAdd,Int.reduceMul,Int.reduceBEq,Int.reduceBNe,Int.reduceGT,Int.reduceGE,Nat.reduceGT,Int.reduceToNat,Int.reduceNeg,Nat.reduceLeDiff,Nat.reduceBEq,Nat.reduceBneDiff,Value.cells, s9]
    exact hQ _ p (Heap.le_set (Heap.le_trans hh1 le13) h9 _) (fun b y x1 x2 hy => set_keep (le13 _ _ (keep1 b y x1 x2 hy)) x1) (Heap.set_self _ _ _) np hv

theorem blkV_take (l : List UInt8) (i n : Nat) (hn : n = min 16 (l.length - i)) : blkV ((l.drop i).take n) = blkV ((l.drop i).take 16) := by
  have : (l.drop i).take n = (l.drop i).take 16 := by
    rw [hn]
    by_cases e : 16 ≤ l.length - i
    · rw [Nat.min_eq_left e]
    · rw [Nat.min_eq_right (by omega), List.take_of_length_le (by simp), List.take_of_length_le (by simp; omega)]
  rw [this]

theorem ref4_Tag_c (E : EnvT tab) (h : Heap) {v : Value} (w l : List UInt8) (hw : w.length = 32) (hl : l.length ≤ 100000000) (sl : SlB h v l) :
    ACallN E.toEnv n_bandboxref4_Tag [.agg (w.map u8V).toArray, v] h fun r h' => h.le h' ∧ r = .agg (row8 (tagR w l) 16).toArray := by
  obtain ⟨base, c, rfl⟩ := Sl.shape sl
  refine acall h_bandboxref4_Tag ir_bandboxref4_Tag rfl rfl (wpA_sound ?_)
  unfold ir_bandboxref4_Tag
  have hw' : (w.map u8V).length = 32 := by simp [hw]
  have r16 : (List.replicate 16 (Value.int .u8 0)).all one = true := by decide
  simp -implicitDefEqProofs only [zB1,zB2,zB3,zB4,zB5,zB6,zB7,zB8,zB9,zB10,zB11,y00,y01,y02,y03,y04,y05,y06,y07,y08,y09,y0a,y0b,y0c,y0d,y0e,y0f,y0g,y0h,y0i,y0j,y0k,y0l,y0m,y0n,y0o,y0p,y0q,y0r,y0s,y0t,y0u,y0v,y0w,y0x,y0y,y0z,y10,y11,y12,y13,y14,y15,y16,y17,y18,y19,y1a,y1b,y1c,y1d,y1e,y1f,y1g,y1h,y1i,y1j,y1k,y1l,y1m,y1n,y1o,y1p,y1q,y1r,retO,retL,retV,z69,allV,allP,z6a,z6d,z6e,z6k,z6l,z6m,binV,eqV,unV,oOpt,reduceIte,reduceCtorEq,Nat.reduceEqDiff,Nat.reduceAdd,Nat.reduceMul,Nat.reduceLT,Nat.reduceSub,Int.reduceLT,Int.reduceLE,Int.reduceEq,Int.reduceNe,Int.reduceSub,Int.reduceAdd,Int.reduceMul,Int.reduceBEq,Int.reduceBNe,Int.reduceGT,Int.reduceGE,Nat.reduceGT,Int.reduceToNat,Int.reduceNeg,Nat.reduceLeDiff,Nat.reduceBEq,Nat.reduceBneDiff,Value.cells, hw', List.length_replicate]
  intro b2 hb2 b4 hb4
  obtain ⟨n42, hb4'⟩ := Heap.set_none.1 hb4
  have le1 : h.le ((h.set b2 (.own 0 (w.map u8V) 32)).set b4 (.own 0 (List.replicate 16 (.int .u8 0)) 16)) := Heap.le_set (Heap.le_set (Heap.le_refl _) hb2 _) hb4' _
  have q2 : ((h.set b2 (.own 0 (w.map u8V) 32)).set b4 (.own 0 (List.replicate 16 (.int .u8 0)) 16)) b2 = some (.own 0 (w.map u8V) 32) := set_keep (Heap.set_self _ _ _) (Ne.symm n42)
  have q4 : ((h.set b2 (.own 0 (w.map u8V) 32)).set b4 (.own 0 (List.replicate 16 (.int .u8 0)) 16)) b4 = some (.own 0 (List.replicate 16 (.int .u8 0)) 16) := Heap.set_self _ _ _
  generalize ((h.set b2 (.own 0 (w.map u8V) 32)).set b4 (.own 0 (List.replicate 16 (.int .u8 0)) 16)) = h1 at le1 q2 q4 ⊢
  intro b5 hb5
  have st5 : storeV (h1.set b5 (.own 0 (List.replicate 16 (.int .u8 0)) 16)) 16 (.pointer (some ⟨b5, 0, none⟩)) (.agg (List.replicate 16 (Value.int .u8 0)).toArray) = some (h1.set b5 (.own 0 (List.replicate 16 (.int .u8 0)) 16)) := z6q (by omega) (by simp) r16 (by simp) (by omega)
  have bd1 : bnds 32 32 none (some (some (.int .i64 16))) none = some (0, 16, 32) := bnds_hi (by omega) (by omega)
  have n52 := ne_of_none hb5 q2
  simp -implicitDefEqProofs only [zB1,zB2,zB3,zB4,zB5,zB6,zB7,zB8,zB9,zB10,zB11,y00,y01,y02,y03,y04,y05,y06,y07,y08,y09,y0a,y0b,y0c,y0d,y0e,y0f,y0g,y0h,y0i,y0j,y0k,y0l,y0m,y0n,y0o,y0p,y0q,y0r,y0s,y0t,y0u,y0v,y0w,y0x,y0y,y0z,y10,y11,y12,y13,y14,y15,y16,y17,y18,y19,y1a,y1b,y1c,y1d,y1e,y1f,y1g,y1h,y1i,y1j,y1k,y1l,y1m,y1n,y1o,y1p,y1q,y1r,retO,retL,retV,z69,allV,allP,z6a,z6d,z6e,z6k,z6l,z6m,binV,eqV,unV,oOpt,reduceIte,reduceCtorEq,Nat.reduceEqDiff,Nat.reduceAdd,Nat.reduceMul,Nat.reduceLT,Nat.reduceSub,Int.reduceLT,Int.reduceLE,Int.reduceEq,Int.reduceNe,Int.reduceSub,Int.reduceAdd,Int.reduceMul,Int.reduceBEq,Int.reduceBNe,Int.reduceGT,Int.reduceGE,Nat.reduceGT,Int.reduceToNat,Int.reduceNeg,Nat.reduceLeDiff,Nat.reduceBEq,Nat.reduceBneDiff,Value.cells, st5, bnds_no, bd1, Nat.sub_zero, addz, implies_true]
  have sW := own_sl (l := w) (sz := 32) (H := h1.set b5 (.own 0 (List.replicate 16 (.int .u8 0)) 16)) (by rw [Heap.set_ne n52]; exact q2)
  have sW16 := Sl.headB sW (m := 16) (by omega)
  rw [hw] at sW16
  have l16 : (w.take 16).length = 16 := by simp [hw]
  refine copyP_own (size := 1) (m := 16) (Heap.set_self _ _ _) (by simp) (by simp) (by unfold SlB at sW16; rw [l16] at sW16; exact sW16) (one_u8 _) ?_
  have eC : splice (List.replicate 16 (Value.int .u8 0)) 0 (((w.take 16).map u8V).take (min 16 16 * 1)) = (w.take 16).map u8V := by
    rw [List.take_of_length_le (by simp; omega)]
    unfold splice
    simp only [List.take_zero, List.nil_append, List.length_map, l16, Nat.zero_add, List.drop_replicate, Nat.sub_self, List.replicate_zero, List.append_nil]
  rw [eC, Heap.set_set]
  have l5 : hcells (h1.set b5 (.own 0 ((w.take 16).map u8V) 16)) ⟨b5, 0, none⟩ 16 = some (row8 (fun j => w.getD j 0) 16) := by
    rw [z6o (by simp; omega), ← row8_list, l16]
    congr 1
    apply row8_congr
    intro k hk
    simp [List.getElem?_take, hk]
  have le5 := Heap.le_new le1 hb5 (.own 0 ((w.take 16).map u8V) 16)
  have q25 := set_new (X := .own 0 ((w.take 16).map u8V) 16) hb5 q2
  have q45 := set_new (X := .own 0 ((w.take 16).map u8V) 16) hb5 q4
  generalize (h1.set b5 (.own 0 ((w.take 16).map u8V) 16)) = h2 at l5 le5 q25 q45 ⊢
  simp -implicitDefEqProofs only [zB1,zB2,zB3,zB4,zB5,zB6,zB7,zB8,zB9,zB10,zB11,y00,y01,y02,y03,y04,y05,y06,y07,y08,y09,y0a,y0b,y0c,y0d,y0e,y0f,y0g,y0h,y0i,y0j,y0k,y0l,y0m,y0n,y0o,y0p,y0q,y0r,y0s,y0t,y0u,y0v,y0w,y0x,y0y,y0z,y10,y11,y12,y13,y14,y15,y16,y17,y18,y19,y1a,y1b,y1c,y1d,y1e,y1f,y1g,y1h,y1i,y1j,y1k,y1l,y1m,y1n,y1o,y1p,y1q,y1r,retO,retL,retV,z69,allV,allP,z6a,z6d,z6e,z6k,z6l,z6m,binV,eqV,unV,oOpt,reduceIte,reduceCtorEq,Nat.reduceEqDiff,Nat.reduceAdd,Nat.reduceMul,Nat.reduceLT,Nat.reduceSub,Int.reduceLT,Int.reduceLE,Int.reduceEq,Int.reduceNe,Int.reduceSub,Int.reduceAdd,Int.reduceMul,Int.reduceBEq,Int.reduceBNe,Int.reduceGT,Int.reduceGE,Nat.reduceGT,Int.reduceToNat,Int.reduceNeg,Nat.reduceLeDiff,Nat.reduceBEq,Nat.reduceBneDiff,Value.cells]
  unfold ir_bandboxref4_Tag_22
  simp -implicitDefEqProofs only [zB1,zB2,zB3,zB4,zB5,zB6,zB7,zB8,zB9,zB10,zB11,y00,y01,y02,y03,y04,y05,y06,y07,y08,y09,y0a,y0b,y0c,y0d,y0e,y0f,y0g,y0h,y0i,y0j,y0k,y0l,y0m,y0n,y0o,y0p,y0q,y0r,y0s,y0t,y0u,y0v,y0w,y0x,y0y,y0z,y10,y11,y12,y13,y14,y15,y16,y17,y18,y19,y1a,y1b,y1c,y1d,y1e,y1f,y1g,y1h,y1i,y1j,y1k,y1l,y1m,y1n,y1o,y1p,y1q,y1r,retO,retL,retV,z69,allV,allP,z6a,z6d,z6e,z6k,z6l,z6m,binV,eqV,unV,oOpt,reduceIte,reduceCtorEq,Nat.reduceEqDiff,Nat.reduceAdd,Nat.reduceMul,Nat.reduceLT,Nat.reduceSub,Int.reduceLT,Int.reduceLE,Int.reduceEq,Int.reduceNe,Int.reduceSub,Int.reduceAdd,Int.reduceMul,Int.reduceBEq,Int.reduceBNe,Int.reduceGT,Int.reduceGE,Nat.reduceGT,Int.reduceToNat,Int.reduceNeg,Nat.reduceLeDiff,Nat.reduceBEq,Nat.reduceBneDiff,Value.cells, l5]
  refine (ref4_Clamp_c E _ _).mono ?_
  rintro r h3 ⟨le3, rfl⟩
  have eR : row8 (clampG fun j => w.getD j 0) 16 = row8 (keyR w) 16 := rfl
  rw [eR]
  simp -implicitDefEqProofs only [zB1,zB2,zB3,zB4,zB5,zB6,zB7,zB8,zB9,zB10,zB11,y00,y01,y02,y03,y04,y05,y06,y07,y08,y09,y0a,y0b,y0c,y0d,y0e,y0f,y0g,y0h,y0i,y0j,y0k,y0l,y0m,y0n,y0o,y0p,y0q,y0r,y0s,y0t,y0u,y0v,y0w,y0x,y0y,y0z,y10,y11,y12,y13,y14,y15,y16,y17,y18,y19,y1a,y1b,y1c,y1d,y1e,y1f,y1g,y1h,y1i,y1j,y1k,y1l,y1m,y1n,y1o,y1p,y1q,y1r,retO,retL,retV,z69,allV,allP,z6a,z6d,z6e,z6k,z6l,z6m,binV,eqV,unV,oOpt,reduceIte,reduceCtorEq,Nat.reduceEqDiff,Nat.reduceAdd,Nat.reduceMul,Nat.reduceLT,Nat.reduceSub,Int.reduceLT,Int.reduceLE,Int.reduceEq,Int.reduceNe,Int.reduceSub,Int.reduceAdd,Int.reduceMul,Int.reduceBEq,Int.reduceBNe,Int.reduceGT,Int.reduceGE,Nat.reduceGT,Int.reduceToNat,Int.reduceNeg,Nat.reduceLeDiff,Nat.reduceBEq,Nat.reduceBneDiff,Value.cells, List.length_replicate]
  intro b6 hb6
  have st6 : storeV (h3.set b6 (.own 0 (List.replicate 16 (.int .u8 0)) 16)) 16 (.pointer (some ⟨b6, 0, none⟩)) (.agg (row8 (keyR w) 16).toArray) = some (h3.set b6 (.own 0 (row8 (keyR w) 16) 16)) := z6q (by omega) (row8_len _ _) (by simp [row8, one]) (by simp) (by omega)
  simp -implicitDefEqProofs only [zB1,zB2,zB3,zB4,zB5,zB6,zB7,zB8,zB9,zB10,zB11,y00,y01,y02,y03,y04,y05,y06,y07,y08,y09,y0a,y0b,y0c,y0d,y0e,y0f,y0g,y0h,y0i,y0j,y0k,y0l,y0m,y0n,y0o,y0p,y0q,y0r,y0s,y0t,y0u,y0v,y0w,y0x,y0y,y0z,y10,y11,y12,y13,y14,y15,y16,y17,y18,y19,y1a,y1b,y1c,y1d,y1e,y1f,y1g,y1h,y1i,y1j,y1k,y1l,y1m,y1n,y1o,y1p,y1q,y1r,retO,retL,retV,z69,allV,allP,z6a,z6d,z6e,z6k,z6l,z6m,binV,eqV,unV,oOpt,reduceIte,reduceCtorEq,Nat.reduceEqDiff,Nat.reduceAdd,Nat.reduceMul,Nat.reduceLT,Nat.reduceSub,Int.reduceLT,Int.reduceLE,Int.reduceEq,Int.reduceNe,Int.reduceSub,Int.reduceAdd,Int.reduceMul,Int.reduceBEq,Int.reduceBNe,Int.reduceGT,Int.reduceGE,Nat.reduceGT,Int.reduceToNat,Int.reduceNeg,Nat.reduceLeDiff,Nat.reduceBEq,Nat.reduceBneDiff,Value.cells, st6, List.length_replicate]
  have le6 := Heap.le_new (Heap.le_trans le5 le3) hb6 (.own 0 (row8 (keyR w) 16) 16)
  have q26 := set_new (X := .own 0 (row8 (keyR w) 16) 16) hb6 (le3 _ _ q25)
  have q46 := set_new (X := .own 0 (row8 (keyR w) 16) 16) hb6 (le3 _ _ q45)
  have q66 := Heap.set_self h3 b6 (.own 0 (row8 (keyR w) 16) 16)
  generalize (h3.set b6 (.own 0 (row8 (keyR w) 16) 16)) = h4 at le6 q26 q46 q66 ⊢
  intro b7 hb7
  rw [rowK_zero .u32 17]
  have hb7' := Heap.none_of_le le6 hb7
  have le7 := Heap.le_new le6 hb7 (.own 0 (rowK .u32 (fun _ => 0) 17) 17)
  have q27 := set_new (X := .own 0 (rowK .u32 (fun _ => 0) 17) 17) hb7 q26
  have q47 := set_new (X := .own 0 (rowK .u32 (fun _ => 0) 17) 17) hb7 q46
  have q67 := set_new (X := .own 0 (rowK .u32 (fun _ => 0) 17) 17) hb7 q66
  have q77 := Heap.set_self h4 b7 (.own 0 (rowK .u32 (fun _ => 0) 17) 17)
  have n27 := ne_of_none hb7 q26
  have n47 := ne_of_none hb7 q46
  have n67 := ne_of_none hb7 q66
  generalize (h4.set b7 (.own 0 (rowK .u32 (fun _ => 0) 17) 17)) = h5 at le7 q27 q47 q67 q77 ⊢
  refine wp_loop' (fun m t H => h.le H ∧ ∃ i : Nat, i ≤ 16 ∧ m = 16 - i ∧ t = tl [(1, .slice base l.length c), (2, .pointer (some ⟨b2, 0, none⟩)), (4, .pointer (some ⟨b4, 0, none⟩)), (6, .pointer (some ⟨b6, 0, none⟩)), (7, .pointer (some ⟨b7, 0, none⟩)), (8, .int .i64 i)] ∧
      H b2 = some (.own 0 (w.map u8V) 32) ∧ H b4 = some (.own 0 (List.replicate 16 (.int .u8 0)) 16) ∧ H b6 = some (.own 0 (row8 (keyR w) 16) 16) ∧
      H b7 = some (.own 0 (rowK .u32 (blendF (fun j => (keyR w j).toNat) (fun _ => 0) i) 17) 17)) 16 ⟨le7, 0, by omega, rfl, rfl, q27, q47, q67, by rw [blendF_0]; exact q77⟩ ?_
  clear q27 q47 q67 q77 le7
  rintro m t H ⟨leH, i, hi, rfl, rfl, q2, q4, q6, q7⟩
  by_cases hlt : (i : Int) < 16
  · have hi' : i < 16 := by omega
    have e0 : (0 : Int) ≤ (i : Int) := by omega
    have e17 : (i : Int) < 17 := by omega
    have c6 := row8_at q6 hi'
    have ht : (keyR w i).toNat < 256 := (keyR w i).toNat_lt
    have w2 : IntKind.u32.wrap ((keyR w i).toNat : Int) = ((keyR w i).toNat : Int) := wrap_u32n (by omega)
    have w7 : IntKind.i64.wrap ((i : Int) + 1) = ((i + 1 : Nat) : Int) := wrapN (by omega)
    have s7 := rowK_store (z := (keyR w i).toNat) q7 (show i < 17 by omega) (Nat.le_refl _)
    rw [blendF_step (fun j => (keyR w j).toNat)] at s7
    simp -implicitDefEqProofs only [zB1,zB2,zB3,zB4,zB5,zB6,zB7,zB8,zB9,zB10,zB11,y00,y01,y02,y03,y04,y05,y06,y07,y08,y09,y0a,y0b,y0c,y0d,y0e,y0f,y0g,y0h,y0i,y0j,y0k,y0l,y0m,y0n,y0o,y0p,y0q,y0r,y0s,y0t,y0u,y0v,y0w,y0x,y0y,y0z,y10,y11,y12,y13,y14,y15,y16,y17,y18,y19,y1a,y1b,y1c,y1d,y1e,y1f,y1g,y1h,y1i,y1j,y1k,y1l,y1m,y1n,y1o,y1p,y1q,y1r,retO,retL,retV,z69,allV,allP,z6a,z6d,z6e,z6k,z6l,z6m,binV,eqV,unV,oOpt,reduceIte,reduceCtorEq,Nat.reduceEqDiff,Nat.reduceAdd,Nat.reduceMul,Nat.reduceLT,Nat.reduceSub,Int.reduceLT,Int.reduceLE,Int.reduceEq,Int.reduceNe,Int.reduceSub,Int.reduceAdd,Int.reduceMul,Int.reduceBEq,Int.reduceBNe,Int.reduceGT,Int.reduceGE,Nat.reduceGT,Int.reduceToNat,Int.reduceNeg,Nat.reduceLeDiff,Nat.reduceBEq,Nat.reduceBneDiff,Value.cells, hlt, e0, e17, c6, w2, w7, s7, Int.toNat_natCast]
    exact ⟨_, by omega, Heap.le_set leH hb7' _, i + 1, by omega, rfl, rfl, set_keep q2 n27, set_keep q4 n47, set_keep q6 n67, Heap.set_self _ _ _⟩
  · obtain rfl : i = 16 := by omega
    have q7' : H b7 = some (.own 0 (rowK .u32 (rD w) 17) 17) := q7
    simp -implicitDefEqProofs only [zB1,zB2,zB3,zB4,zB5,zB6,zB7,zB8,zB9,zB10,zB11,y00,y01,y02,y03,y04,y05,y06,y07,y08,y09,y0a,y0b,y0c,y0d,y0e,y0f,y0g,y0h,y0i,y0j,y0k,y0l,y0m,y0n,y0o,y0p,y0q,y0r,y0s,y0t,y0u,y0v,y0w,y0x,y0y,y0z,y10,y11,y12,y13,y14,y15,y16,y17,y18,y19,y1a,y1b,y1c,y1d,y1e,y1f,y1g,y1h,y1i,y1j,y1k,y1l,y1m,y1n,y1o,y1p,y1q,y1r,retO,retL,retV,z69,allV,allP,z6a,z6d,z6e,z6k,z6l,z6m,binV,eqV,unV,oOpt,reduceIte,reduceCtorEq,Nat.reduceEqDiff,Nat.reduceAdd,Nat.reduceMul,Nat.reduceLT,Nat.reduceSub,Int.reduceLT,Int.reduceLE,Int.reduceEq,Int.reduceNe,Int.reduceSub,Int.reduceAdd,Int.reduceMul,Int.reduceBEq,Int.reduceBNe,Int.reduceGT,Int.reduceGE,Nat.reduceGT,Int.reduceToNat,Int.reduceNeg,Nat.reduceLeDiff,Nat.reduceBEq,Nat.reduceBneDiff,Value.cells, hlt, List.length_replicate]
    intro b9 hb9
    rw [rowK_len]
    have hb9' := Heap.none_of_le leH hb9
    have n29 := ne_of_none hb9 q2
    have n49 := ne_of_none hb9 q4
    have n79 := ne_of_none hb9 q7'
    have le9 := Heap.le_new leH hb9 (.own 0 (rowK .u32 (fun _ => 0) 17) 17)
    have q29 := set_new (X := .own 0 (rowK .u32 (fun _ => 0) 17) 17) hb9 q2
    have q49 := set_new (X := .own 0 (rowK .u32 (fun _ => 0) 17) 17) hb9 q4
    have q79 := set_new (X := .own 0 (rowK .u32 (fun _ => 0) 17) 17) hb9 q7'
    have q99 := Heap.set_self H b9 (.own 0 (rowK .u32 (fun _ => 0) 17) 17)
    generalize (H.set b9 (.own 0 (rowK .u32 (fun _ => 0) 17) 17)) = H1 at le9 q29 q49 q79 q99 ⊢
    clear q2 q4 q6 q7 q7' leH hlt hi
    unfold ir_bandboxref4_Tag_10
    simp -implicitDefEqProofs only [zB1,zB2,zB3,zB4,zB5,zB6,zB7,zB8,zB9,zB10,zB11,y00,y01,y02,y03,y04,y05,y06,y07,y08,y09,y0a,y0b,y0c,y0d,y0e,y0f,y0g,y0h,y0i,y0j,y0k,y0l,y0m,y0n,y0o,y0p,y0q,y0r,y0s,y0t,y0u,y0v,y0w,y0x,y0y,y0z,y10,y11,y12,y13,y14,y15,y16,y17,y18,y19,y1a,y1b,y1c,y1d,y1e,y1f,y1g,y1h,y1i,y1j,y1k,y1l,y1m,y1n,y1o,y1p,y1q,y1r,retO,retL,retV,z69,allV,allP,z6a,z6d,z6e,z6k,z6l,z6m,binV,eqV,unV,oOpt,reduceIte,reduceCtorEq,Nat.reduceEqDiff,Nat.reduceAdd,Nat.reduceMul,Nat.reduceLT,Nat.reduceSub,Int.reduceLT,Int.reduceLE,Int.reduceEq,Int.reduceNe,Int.reduceSub,Int.reduceAdd,Int.reduceMul,Int.reduceBEq,Int.reduceBNe,Int.reduceGT,Int.reduceGE,Nat.reduceGT,Int.reduceToNat,Int.reduceNeg,Nat.reduceLeDiff,Nat.reduceBEq,Nat.reduceBneDiff,Value.cells]
    have eRv := rD_val w
    have hrl := rD_lt w
    refine wp_loop' (fun m t H => h.le H ∧ ∃ i : Nat, m = l.length - i ∧ i ≤ 100000016 ∧ t = tl [(1, .slice base l.length c), (2, .pointer (some ⟨b2, 0, none⟩)), (4, .pointer (some ⟨b4, 0, none⟩)), (7, .pointer (some ⟨b7, 0, none⟩)), (9, .pointer (some ⟨b9, 0, none⟩)), (10, .int .i64 i)] ∧
      H b2 = some (.own 0 (w.map u8V) 32) ∧ H b4 = some (.own 0 (List.replicate 16 (.int .u8 0)) 16) ∧ H b7 = some (.own 0 (rowK .u32 (rD w) 17) 17) ∧
      ∃ q, H b9 = some (.own 0 (rowK .u32 q 17) 17) ∧ NormD q ∧ polyH (leN (rowL (keyR w) 16)) (valD q 17 % PQ) (l.drop i) = polyH (leN (rowL (keyR w) 16)) 0 l) l.length
      ⟨le9, 0, by omega, by omega, rfl, q29, q49, q79, fun _ => 0, q99, ⟨fun j _ => Nat.succ_pos 255, Nat.succ_pos 3⟩, by rw [valD_zero, Nat.zero_mod, List.drop_zero]⟩ ?_
    clear q29 q49 q79 q99 le9
    rintro m t H ⟨leH, i, rfl, hi, rfl, q2, q4, q7, q, q9, nq, hv⟩
    by_cases hlt : (i : Int) < (l.length : Int)
    · have hi' : i < l.length := by omega
      have w1 : IntKind.i64.wrap ((l.length : Int) - (i : Int)) = ((l.length - i : Nat) : Int) := by rw [wrapI (by omega) (by omega)]; omega
      have w7 : IntKind.i64.wrap ((i : Int) + 16) = ((i + 16 : Nat) : Int) := by rw [wrapI (by omega) (by omega)]; rfl
      rw [polyH_more (by simp; omega), List.drop_drop] at hv
      simp -implicitDefEqProofs only [zB1,zB2,zB3,zB4,zB5,zB6,zB7,zB8,zB9,zB10,zB11,y00,y01,y02,y03,y04,y05,y06,y07,y08,y09,y0a,y0b,y0c,y0d,y0e,y0f,y0g,y0h,y0i,y0j,y0k,y0l,y0m,y0n,y0o,y0p,y0q,y0r,y0s,y0t,y0u,y0v,y0w,y0x,y0y,y0z,y10,y11,y12,y13,y14,y15,y16,y17,y18,y19,y1a,y1b,y1c,y1d,y1e,y1f,y1g,y1h,y1i,y1j,y1k,y1l,y1m,y1n,y1o,y1p,y1q,y1r,retO,retL,retV,z69,allV,allP,z6a,z6d,z6e,z6k,z6l,z6m,binV,eqV,unV,oOpt,reduceIte,reduceCtorEq,Nat.reduceEqDiff,Nat.reduceAdd,Nat.reduceMul,Nat.reduceLT,Nat.reduceSub,Int.reduceLT,Int.reduceLE,Int.reduceEq,Int.reduceNe,Int.reduceSub,Int.reduceAdd,Int.reduceMul,Int.reduceBEq,Int.reduceBNe,Int.reduceGT,Int.reduceGE,Nat.reduceGT,Int.reduceToNat,Int.reduceNeg,Nat.reduceLeDiff,Nat.reduceBEq,Nat.reduceBneDiff,Value.cells, hlt, List.length_replicate]
      intro b11 hb11
      rw [rowK_zero .u32 17]
      have n211 := ne_of_none hb11 q2
      have n411 := ne_of_none hb11 q4
      have n711 := ne_of_none hb11 q7
      have n911 := ne_of_none hb11 q9
      have le11 := Heap.le_new leH hb11 (.own 0 (rowK .u32 (fun _ => 0) 17) 17)
      have p2 := set_new (X := .own 0 (rowK .u32 (fun _ => 0) 17) 17) hb11 q2
      have p4 := set_new (X := .own 0 (rowK .u32 (fun _ => 0) 17) 17) hb11 q4
      have p7 := set_new (X := .own 0 (rowK .u32 (fun _ => 0) 17) 17) hb11 q7
      have p9 := set_new (X := .own 0 (rowK .u32 (fun _ => 0) 17) 17) hb11 q9
      have p11 := Heap.set_self H b11 (.own 0 (rowK .u32 (fun _ => 0) 17) 17)
      generalize (H.set b11 (.own 0 (rowK .u32 (fun _ => 0) 17) 17)) = H2 at le11 p2 p4 p7 p9 p11 ⊢
      have hb11' := Heap.none_of_le leH hb11
      by_cases g16 : (16 : Int) < ((l.length - i : Nat) : Int)
      · have hn : 16 = min 16 (l.length - i) := by omega
        have g16' : ¬ ((l.length - i : Nat) : Int) ≤ 16 := by omega
        simp -implicitDefEqProofs only [zB1,zB2,zB3,zB4,zB5,zB6,zB7,zB8,zB9,zB10,zB11,y00,y01,y02,y03,y04,y05,y06,y07,y08,y09,y0a,y0b,y0c,y0d,y0e,y0f,y0g,y0h,y0i,y0j,y0k,y0l,y0m,y0n,y0o,y0p,y0q,y0r,y0s,y0t,y0u,y0v,y0w,y0x,y0y,y0z,y10,y11,y12,y13,y14,y15,y16,y17,y18,y19,y1a,y1b,y1c,y1d,y1e,y1f,y1g,y1h,y1i,y1j,y1k,y1l,y1m,y1n,y1o,y1p,y1q,y1r,retO,retL,retV,z69,allV,allP,z6a,z6d,z6e,z6k,z6l,z6m,binV,eqV,unV,oOpt,reduceIte,reduceCtorEq,Nat.reduceEqDiff,Nat.reduceAdd,Nat.reduceMul,Nat.reduceLT,Nat.reduceSub,Int.reduceLT,Int.reduceLE,Int.reduceEq,Int.reduceNe,Int.reduceSub,Int.reduceAdd,Int.reduceMul,Int.reduceBEq,Int.reduceBNe,Int.reduceGT,Int.reduceGE,Nat.reduceGT,Int.reduceToNat,Int.reduceNeg,Nat.reduceLeDiff,Nat.reduceBEq,Nat.reduceBneDiff,Value.cells, w1, g16, g16']
        refine tag13 E (n := 16) (nz := 16) [] rfl sl hi' hl hn le11 hb9' hb11' p7 p9 p11 (fun j _ => hrl j) nq n79 n711 n911 ?_
        intro H' p le' keep pp np hvp
        simp -implicitDefEqProofs only [zB1,zB2,zB3,zB4,zB5,zB6,zB7,zB8,zB9,zB10,zB11,y00,y01,y02,y03,y04,y05,y06,y07,y08,y09,y0a,y0b,y0c,y0d,y0e,y0f,y0g,y0h,y0i,y0j,y0k,y0l,y0m,y0n,y0o,y0p,y0q,y0r,y0s,y0t,y0u,y0v,y0w,y0x,y0y,y0z,y10,y11,y12,y13,y14,y15,y16,y17,y18,y19,y1a,y1b,y1c,y1d,y1e,y1f,y1g,y1h,y1i,y1j,y1k,y1l,y1m,y1n,y1o,y1p,y1q,y1r,retO,retL,retV,z69,allV,allP,z6a,z6d,z6e,z6k,z6l,z6m,binV,eqV,unV,oOpt,reduceIte,reduceCtorEq,Nat.reduceEqDiff,Nat.reduceAdd,Nat.reduceMul,Nat.reduceLT,Nat.reduceSub,Int.reduceLT,Int.reduceLE,Int.reduceEq,Int.reduceNe,Int.reduceSub,Int.reduceAdd,Int.reduceMul,Int.reduceBEq,Int.reduceBNe,Int.reduceGT,Int.reduceGE,Nat.reduceGT,Int.reduceToNat,Int.reduceNeg,Nat.reduceLeDiff,Nat.reduceBEq,Nat.reduceBneDiff,Value.cells, w7]
        refine ⟨l.length - (i + 16), by omega, le', i + 16, rfl, by omega, rfl, keep _ _ n29 n211 p2, keep _ _ n49 n411 p4, keep _ _ n79 n711 p7, p, pp, np, ?_⟩
        rw [hvp, ← mod_step, eRv]
        exact hv
      · have hn : l.length - i = min 16 (l.length - i) := by omega
        have g16' : ((l.length - i : Nat) : Int) ≤ 16 := by omega
        simp -implicitDefEqProofs only [zB1,zB2,zB3,zB4,zB5,zB6,zB7,zB8,zB9,zB10,zB11,y00,y01,y02,y03,y04,y05,y06,y07,y08,y09,y0a,y0b,y0c,y0d,y0e,y0f,y0g,y0h,y0i,y0j,y0k,y0l,y0m,y0n,y0o,y0p,y0q,y0r,y0s,y0t,y0u,y0v,y0w,y0x,y0y,y0z,y10,y11,y12,y13,y14,y15,y16,y17,y18,y19,y1a,y1b,y1c,y1d,y1e,y1f,y1g,y1h,y1i,y1j,y1k,y1l,y1m,y1n,y1o,y1p,y1q,y1r,retO,retL,retV,z69,allV,allP,z6a,z6d,z6e,z6k,z6l,z6m,binV,eqV,unV,oOpt,reduceIte,reduceCtorEq,Nat.reduceEqDiff,Nat.reduceAdd,Nat.reduceMul,Nat.reduceLT,Nat.reduceSub,Int.reduceLT,Int.reduceLE,Int.reduceEq,Int.reduceNe,Int.reduceSub,Int.reduceAdd,Int.reduceMul,Int.reduceBEq,Int.reduceBNe,Int.reduceGT,Int.reduceGE,Nat.reduceGT,Int.reduceToNat,Int.reduceNeg,Nat.reduceLeDiff,Nat.reduceBEq,Nat.reduceBneDiff,Value.cells, w1, g16, g16']
        refine tag13 E (n := l.length - i) [(45, .bool false)] rfl sl hi' hl hn le11 hb9' hb11' p7 p9 p11 (fun j _ => hrl j) nq n79 n711 n911 ?_
        intro H' p le' keep pp np hvp
        simp -implicitDefEqProofs only [zB1,zB2,zB3,zB4,zB5,zB6,zB7,zB8,zB9,zB10,zB11,y00,y01,y02,y03,y04,y05,y06,y07,y08,y09,y0a,y0b,y0c,y0d,y0e,y0f,y0g,y0h,y0i,y0j,y0k,y0l,y0m,y0n,y0o,y0p,y0q,y0r,y0s,y0t,y0u,y0v,y0w,y0x,y0y,y0z,y10,y11,y12,y13,y14,y15,y16,y17,y18,y19,y1a,y1b,y1c,y1d,y1e,y1f,y1g,y1h,y1i,y1j,y1k,y1l,y1m,y1n,y1o,y1p,y1q,y1r,retO,retL,retV,z69,allV,allP,z6a,z6d,z6e,z6k,z6l,z6m,binV,eqV,unV,oOpt,reduceIte,reduceCtorEq,Nat.reduceEqDiff,Nat.reduceAdd,Nat.reduceMul,Nat.reduceLT,Nat.reduceSub,Int.reduceLT,Int.reduceLE,Int.reduceEq,Int.reduceNe,Int.reduceSub,Int.reduceAdd,Int.reduceMul,Int.reduceBEq,Int.reduceBNe,Int.reduceGT,Int.reduceGE,Nat.reduceGT,Int.reduceToNat,Int.reduceNeg,Nat.reduceLeDiff,Nat.reduceBEq,Nat.reduceBneDiff,Value.cells, w7]
        refine ⟨l.length - (i + 16), by omega, le', i + 16, rfl, by omega, rfl, keep _ _ n29 n211 p2, keep _ _ n49 n411 p4, keep _ _ n79 n711 p7, p, pp, np, ?_⟩
        rw [hvp, blkV_take l i _ hn, ← mod_step, eRv]
        exact hv
    · rw [polyH_done (by simp; omega)] at hv
      have l9 := rowK_cells q9
      simp -implicitDefEqProofs only [zB1,zB2,zB3,zB4,zB5,zB6,zB7,zB8,zB9,zB10,zB11,y00,y01,y02,y03,y04,y05,y06,y07,y08,y09,y0a,y0b,y0c,y0d,y0e,y0f,y0g,y0h,y0i,y0j,y0k,y0l,y0m,y0n,y0o,y0p,y0q,y0r,y0s,y0t,y0u,y0v,y0w,y0x,y0y,y0z,y10,y11,y12,y13,y14,y15,y16,y17,y18,y19,y1a,y1b,y1c,y1d,y1e,y1f,y1g,y1h,y1i,y1j,y1k,y1l,y1m,y1n,y1o,y1p,y1q,y1r,retO,retL,retV,z69,allV,allP,z6a,z6d,z6e,z6k,z6l,z6m,binV,eqV,unV,oOpt,reduceIte,reduceCtorEq,Nat.reduceEqDiff,Nat.reduceAdd,Nat.reduceMul,Nat.reduceLT,Nat.reduceSub,Int.reduceLT,Int.reduceLE,Int.reduceEq,Int.reduceNe,Int.reduceSub,Int.reduceAdd,Int.reduceMul,Int.reduceBEq,Int.reduceBNe,Int.reduceGT,Int.reduceGE,Nat.reduceGT,Int.reduceToNat,Int.reduceNeg,Nat.reduceLeDiff,Nat.reduceBEq,Nat.reduceBneDiff,Value.cells, hlt, l9]
      refine (ref4_least_c E _ q (norm_255 nq)).mono ?_
      rintro v H2 ⟨le2, p, rfl, np, hvp⟩
      rw [hv] at hvp
      have s9 := rowK_agg (k := .u32) (f := p) (le2 _ _ q9) (rowK_len _ _ _) (by omega)
      simp -implicitDefEqProofs only [zB1,zB2,zB3,zB4,zB5,zB6,zB7,zB8,zB9,zB10,zB11,y00,y01,y02,y03,y04,y05,y06,y07,y08,y09,y0a,y0b,y0c,y0d,y0e,y0f,y0g,y0h,y0i,y0j,y0k,y0l,y0m,y0n,y0o,y0p,y0q,y0r,y0s,y0t,y0u,y0v,y0w,y0x,y0y,y0z,y10,y11,y12,y13,y14,y15,y16,y17,y18,y19,y1a,y1b,y1c,y1d,y1e,y1f,y1g,y1h,y1i,y1j,y1k,y1l,y1m,y1n,y1o,y1p,y1q,y1r,retO,retL,retV,z69,allV,allP,z6a,z6d,z6e,z6k,z6l,z6m,binV,eqV,unV,oOpt,reduceIte,reduceCtorEq,Nat.reduceEqDiff,Nat.reduceAdd,Nat.reduceMul,Nat.reduceLT,Nat.reduceSub,Int.reduceLT,Int.reduceLE,Int.reduceEq,Int.reduceNe,Int.reduceSub,Int.reduceAdd,Int.reduceMul,Int.reduceBEq,Int.reduceBNe,Int.reduceGT,Int.reduceGE,Nat.reduceGT,Int.reduceToNat,Int.reduceNeg,Nat.reduceLeDiff,Nat.reduceBEq,Nat.reduceBneDiff,Value.cells, s9]
      have leP := Heap.le_set (Heap.le_trans leH le2) hb9' (.own 0 (rowK .u32 p 17) 17)
      have p2 := set_keep (X := .own 0 (rowK .u32 p 17) 17) (le2 _ _ q2) n29
      have p4 := set_keep (X := .own 0 (rowK .u32 p 17) 17) (le2 _ _ q4) n49
      have p9 := Heap.set_self H2 b9 (.own 0 (rowK .u32 p 17) 17)
      generalize (H2.set b9 (.own 0 (rowK .u32 p 17) 17)) = H3 at leP p2 p4 p9 ⊢
      clear q2 q4 q7 q9 s9 l9 hlt leH le2
      unfold ir_bandboxref4_Tag_14
      simp -implicitDefEqProofs only [zB1,zB2,zB3,zB4,zB5,zB6,zB7,zB8,zB9,zB10,zB11,y00,y01,y02,y03,y04,y05,y06,y07,y08,y09,y0a,y0b,y0c,y0d,y0e,y0f,y0g,y0h,y0i,y0j,y0k,y0l,y0m,y0n,y0o,y0p,y0q,y0r,y0s,y0t,y0u,y0v,y0w,y0x,y0y,y0z,y10,y11,y12,y13,y14,y15,y16,y17,y18,y19,y1a,y1b,y1c,y1d,y1e,y1f,y1g,y1h,y1i,y1j,y1k,y1l,y1m,y1n,y1o,y1p,y1q,y1r,retO,retL,retV,z69,allV,allP,z6a,z6d,z6e,z6k,z6l,z6m,binV,eqV,unV,oOpt,reduceIte,reduceCtorEq,Nat.reduceEqDiff,Nat.reduceAdd,Nat.reduceMul,Nat.reduceLT,Nat.reduceSub,Int.reduceLT,Int.reduceLE,Int.reduceEq,Int.reduceNe,Int.reduceSub,Int.reduceAdd,Int.reduceMul,Int.reduceBEq,Int.reduceBNe,Int.reduceGT,Int.reduceGE,Nat.reduceGT,Int.reduceToNat,Int.reduceNeg,Nat.reduceLeDiff,Nat.reduceBEq,Nat.reduceBneDiff,Value.cells, List.length_replicate]
      intro b14 hb14
      rw [rowK_zero .u32 17]
      have hb14' := Heap.none_of_le leP hb14
      have n214 := ne_of_none hb14 p2
      have n414 := ne_of_none hb14 p4
      have n914 := ne_of_none hb14 p9
      refine wp_loop' (fun m t H => h.le H ∧ ∃ i : Nat, i ≤ 16 ∧ m = 16 - i ∧ t = tl [(2, .pointer (some ⟨b2, 0, none⟩)), (4, .pointer (some ⟨b4, 0, none⟩)), (9, .pointer (some ⟨b9, 0, none⟩)), (14, .pointer (some ⟨b14, 0, none⟩)), (15, .int .i64 i)] ∧
        H b2 = some (.own 0 (w.map u8V) 32) ∧ H b4 = some (.own 0 (List.replicate 16 (.int .u8 0)) 16) ∧ H b9 = some (.own 0 (rowK .u32 p 17) 17) ∧
        H b14 = some (.own 0 (rowK .u32 (blendF (fun j => (w.getD (16 + j) 0).toNat) (fun _ => 0) i) 17) 17)) 16
        ⟨Heap.le_new leP hb14 _, 0, by omega, rfl, rfl, set_new hb14 p2, set_new hb14 p4, set_new hb14 p9, by rw [blendF_0, Heap.set_self]⟩ ?_
      clear p2 p4 p9 leP
      rintro m t H ⟨leH, i, hi, rfl, rfl, q2, q4, q9, q14⟩
      by_cases hlt : (i : Int) < 16
      · have hi' : i < 16 := by omega
        have e0 : (0 : Int) ≤ (i : Int) := by omega
        have e17 : (i : Int) < 17 := by omega
        have e1 : (0 : Int) ≤ ((16 + i : Nat) : Int) := by omega
        have e2 : ((16 + i : Nat) : Int) < 32 := by omega
        have w1 : IntKind.i64.wrap (16 + (i : Int)) = ((16 + i : Nat) : Int) := by rw [wrapI (by omega) (by omega)]; omega
        have c2 : hcell H ⟨b2, 16 + i, none⟩ = some (.int .u8 ((w.getD (16 + i) 0).toNat : Int)) := by
          rw [hcell_at q2 (by simp; omega)]
          have : 16 + i < w.length := by omega
          simp [u8V, List.getD, this]
        have ht : (w.getD (16 + i) 0).toNat < 256 := (w.getD (16 + i) 0).toNat_lt
        have w2 : IntKind.u32.wrap ((w.getD (16 + i) 0).toNat : Int) = ((w.getD (16 + i) 0).toNat : Int) := wrap_u32n (by omega)
        have w7 : IntKind.i64.wrap ((i : Int) + 1) = ((i + 1 : Nat) : Int) := wrapN (by omega)
        have s7 := rowK_store (z := (w.getD (16 + i) 0).toNat) q14 (show i < 17 by omega) (Nat.le_refl _)
        rw [blendF_step (fun j => (w.getD (16 + j) 0).toNat)] at s7
        simp -implicitDefEqProofs only [zB1,zB2,zB3,zB4,zB5,zB6,zB7,zB8,zB9,zB10,zB11,y00,y01,y02,y03,y04,y05,y06,y07,y08,y09,y0a,y0b,y0c,y0d,y0e,y0f,y0g,y0h,y0i,y0j,y0k,y0l,y0m,y0n,y0o,y0p,y0q,y0r,y0s,y0t,y0u,y0v,y0w,y0x,y0y,y0z,y10,y11,y12,y13,y14,y15,y16,y17,y18,y19,y1a,y1b,y1c,y1d,y1e,y1f,y1g,y1h,y1i,y1j,y1k,y1l,y1m,y1n,y1o,y1p,y1q,y1r,retO,retL,retV,z69,allV,allP,z6a,z6d,z6e,z6k,z6l,z6m,binV,eqV,unV,oOpt,reduceIte,reduceCtorEq,Nat.reduceEqDiff,Nat.reduceAdd,Nat.reduceMul,Nat.reduceLT,Nat.reduceSub,Int.reduceLT,Int.reduceLE,Int.reduceEq,Int.reduceNe,Int.reduceSub,Int.reduceAdd,Int.reduceMul,Int.reduceBEq,Int.reduceBNe,Int.reduceGT,Int.reduceGE,Nat.reduceGT,Int.reduceToNat,Int.reduceNeg,Nat.reduceLeDiff,Nat.reduceBEq,Nat.reduceBneDiff,Value.cells, hlt, e0, e17, e1, e2, w1, c2, w2, w7, s7, Int.toNat_natCast]
        exact ⟨_, by omega, Heap.le_set leH hb14' _, i + 1, by omega, rfl, rfl, set_keep q2 n214, set_keep q4 n414, set_keep q9 n914, Heap.set_self _ _ _⟩
      · obtain rfl : i = 16 := by omega
        have q14' : H b14 = some (.own 0 (rowK .u32 (sD w) 17) 17) := q14
        have l9 := rowK_cells q9
        have l14 := rowK_cells q14'
        simp -implicitDefEqProofs only [zB1,zB2,zB3,zB4,zB5,zB6,zB7,zB8,zB9,zB10,zB11,y00,y01,y02,y03,y04,y05,y06,y07,y08,y09,y0a,y0b,y0c,y0d,y0e,y0f,y0g,y0h,y0i,y0j,y0k,y0l,y0m,y0n,y0o,y0p,y0q,y0r,y0s,y0t,y0u,y0v,y0w,y0x,y0y,y0z,y10,y11,y12,y13,y14,y15,y16,y17,y18,y19,y1a,y1b,y1c,y1d,y1e,y1f,y1g,y1h,y1i,y1j,y1k,y1l,y1m,y1n,y1o,y1p,y1q,y1r,retO,retL,retV,z69,allV,allP,z6a,z6d,z6e,z6k,z6l,z6m,binV,eqV,unV,oOpt,reduceIte,reduceCtorEq,Nat.reduceEqDiff,Nat.reduceAdd,Nat.reduceMul,Nat.reduceLT,Nat.reduceSub,Int.reduceLT,Int.reduceLE,Int.reduceEq,Int.reduceNe,Int.reduceSub,Int.reduceAdd,Int.reduceMul,Int.reduceBEq,Int.reduceBNe,Int.reduceGT,Int.reduceGE,Nat.reduceGT,Int.reduceToNat,Int.reduceNeg,Nat.reduceLeDiff,Nat.reduceBEq,Nat.reduceBneDiff,Value.cells, hlt, l9, l14]
        refine (ref4_plus_c E _ p (sD w) (fun j hj => by have := norm_255 np j hj; omega) (fun j hj => by have := sD_lt w j; omega)).mono ?_
        rintro v H4 ⟨le4, rfl⟩
        have hsum := addD_val p (sD w)
        rw [hvp, sD_val w hw] at hsum
        have hd : ∀ j, j < 16 → addD p (sD w) j < 256 := fun j hj => addD_lt _ _ hj
        generalize addD p (sD w) = g at hsum hd ⊢
        have s9 := rowK_agg (k := .u32) (f := g) (le4 _ _ q9) (rowK_len _ _ _) (by omega)
        simp -implicitDefEqProofs only [zB1,zB2,zB3,zB4,zB5,zB6,zB7,zB8,zB9,zB10,zB11,y00,y01,y02,y03,y04,y05,y06,y07,y08,y09,y0a,y0b,y0c,y0d,y0e,y0f,y0g,y0h,y0i,y0j,y0k,y0l,y0m,y0n,y0o,y0p,y0q,y0r,y0s,y0t,y0u,y0v,y0w,y0x,y0y,y0z,y10,y11,y12,y13,y14,y15,y16,y17,y18,y19,y1a,y1b,y1c,y1d,y1e,y1f,y1g,y1h,y1i,y1j,y1k,y1l,y1m,y1n,y1o,y1p,y1q,y1r,retO,retL,retV,z69,allV,allP,z6a,z6d,z6e,z6k,z6l,z6m,binV,eqV,unV,oOpt,reduceIte,reduceCtorEq,Nat.reduceEqDiff,Nat.reduceAdd,Nat.reduceMul,Nat.reduceLT,Nat.reduceSub,Int.reduceLT,Int.reduceLE,Int.reduceEq,Int.reduceNe,Int.reduceSub,Int.reduceAdd,Int.reduceMul,Int.reduceBEq,Int.reduceBNe,Int.reduceGT,Int.reduceGE,Nat.reduceGT,Int.reduceToNat,Int.reduceNeg,Nat.reduceLeDiff,Nat.reduceBEq,Nat.reduceBneDiff,Value.cells, s9]
        have leP := Heap.le_set (Heap.le_trans leH le4) hb9' (.own 0 (rowK .u32 g 17) 17)
        have p4 := set_keep (X := .own 0 (rowK .u32 g 17) 17) (le4 _ _ q4) n49
        have p9 := Heap.set_self H4 b9 (.own 0 (rowK .u32 g 17) 17)
        generalize (H4.set b9 (.own 0 (rowK .u32 g 17) 17)) = H5 at leP p4 p9 ⊢
        have eT : row8 (tagR w l) 16 = row8 (fun j => UInt8.ofNat (g j)) 16 := by
          apply row8_congr
          intro j hj
          unfold tagR
          rw [← hsum, u8_mod, valD_byte (by omega) (fun k hk => hd k (by omega))]
        rw [eT]
        clear q2 q4 q9 q14 q14' l9 l14 s9 leH le4 hlt hi
        unfold ir_bandboxref4_Tag_83
        simp -implicitDefEqProofs only [zB1,zB2,zB3,zB4,zB5,zB6,zB7,zB8,zB9,zB10,zB11,y00,y01,y02,y03,y04,y05,y06,y07,y08,y09,y0a,y0b,y0c,y0d,y0e,y0f,y0g,y0h,y0i,y0j,y0k,y0l,y0m,y0n,y0o,y0p,y0q,y0r,y0s,y0t,y0u,y0v,y0w,y0x,y0y,y0z,y10,y11,y12,y13,y14,y15,y16,y17,y18,y19,y1a,y1b,y1c,y1d,y1e,y1f,y1g,y1h,y1i,y1j,y1k,y1l,y1m,y1n,y1o,y1p,y1q,y1r,retO,retL,retV,z69,allV,allP,z6a,z6d,z6e,z6k,z6l,z6m,binV,eqV,unV,oOpt,reduceIte,reduceCtorEq,Nat.reduceEqDiff,Nat.reduceAdd,Nat.reduceMul,Nat.reduceLT,Nat.reduceSub,Int.reduceLT,Int.reduceLE,Int.reduceEq,Int.reduceNe,Int.reduceSub,Int.reduceAdd,Int.reduceMul,Int.reduceBEq,Int.reduceBNe,Int.reduceGT,Int.reduceGE,Nat.reduceGT,Int.reduceToNat,Int.reduceNeg,Nat.reduceLeDiff,Nat.reduceBEq,Nat.reduceBneDiff,Value.cells, List.length_replicate, List.drop_replicate, List.replicate_zero]
        intro b16 hb16
        have st16 : storeV (H5.set b16 (.own 0 (List.replicate 16 (.int .u8 0)) 16)) 16 (.pointer (some ⟨b16, 0, none⟩)) (.agg (List.replicate 16 (Value.int .u8 0)).toArray) = some (H5.set b16 (.own 0 (List.replicate 16 (.int .u8 0)) 16)) := z6q (by omega) (by simp) r16 (by simp) (by omega)
        have hb16' := Heap.none_of_le leP hb16
        have n416 := ne_of_none hb16 p4
        have n916 := ne_of_none hb16 p9
        simp -implicitDefEqProofs only [zB1,zB2,zB3,zB4,zB5,zB6,zB7,zB8,zB9,zB10,zB11,y00,y01,y02,y03,y04,y05,y06,y07,y08,y09,y0a,y0b,y0c,y0d,y0e,y0f,y0g,y0h,y0i,y0j,y0k,y0l,y0m,y0n,y0o,y0p,y0q,y0r,y0s,y0t,y0u,y0v,y0w,y0x,y0y,y0z,y10,y11,y12,y13,y14,y15,y16,y17,y18,y19,y1a,y1b,y1c,y1d,y1e,y1f,y1g,y1h,y1i,y1j,y1k,y1l,y1m,y1n,y1o,y1p,y1q,y1r,retO,retL,retV,z69,allV,allP,z6a,z6d,z6e,z6k,z6l,z6m,binV,eqV,unV,oOpt,reduceIte,reduceCtorEq,Nat.reduceEqDiff,Nat.reduceAdd,Nat.reduceMul,Nat.reduceLT,Nat.reduceSub,Int.reduceLT,Int.reduceLE,Int.reduceEq,Int.reduceNe,Int.reduceSub,Int.reduceAdd,Int.reduceMul,Int.reduceBEq,Int.reduceBNe,Int.reduceGT,Int.reduceGE,Nat.reduceGT,Int.reduceToNat,Int.reduceNeg,Nat.reduceLeDiff,Nat.reduceBEq,Nat.reduceBneDiff,Value.cells, st16]
        refine wp_loop' (fun m t H => h.le H ∧ ∃ i : Nat, i ≤ 16 ∧ m = 16 - i ∧ t = tl [(4, .pointer (some ⟨b4, 0, none⟩)), (9, .pointer (some ⟨b9, 0, none⟩)), (16, .pointer (some ⟨b16, 0, none⟩)), (17, .int .i64 i)] ∧
          H b4 = some (.own 0 (List.replicate 16 (.int .u8 0)) 16) ∧ H b9 = some (.own 0 (rowK .u32 g 17) 17) ∧
          H b16 = some (.own 0 (row8 (fun j => if j < i then UInt8.ofNat (g j) else 0) 16) 16)) 16
          ⟨Heap.le_new leP hb16 _, 0, by omega, rfl, rfl, set_new hb16 p4, set_new hb16 p9, by rw [Heap.set_self]; congr 2⟩ ?_
        clear p4 p9 leP
        rintro m t H ⟨leH, i, hi, rfl, rfl, q4, q9, q16⟩
        by_cases hlt : (i : Int) < 16
        · have hi' : i < 16 := by omega
          have e0 : (0 : Int) ≤ (i : Int) := by omega
          have e17 : (i : Int) < 17 := by omega
          have c9 := rowK_at q9 (show i < 17 by omega)
          have w2 : IntKind.u8.wrap (g i : Int) = ((UInt8.ofNat (g i)).toNat : Int) := by rw [wrap_u8, ofInt_nat]; simp
          have w7 : IntKind.i64.wrap ((i : Int) + 1) = ((i + 1 : Nat) : Int) := wrapN (by omega)
          have s16 := row8_store (z := UInt8.ofNat (g i)) q16 hi'
          simp -implicitDefEqProofs only [zB1,zB2,zB3,zB4,zB5,zB6,zB7,zB8,zB9,zB10,zB11,y00,y01,y02,y03,y04,y05,y06,y07,y08,y09,y0a,y0b,y0c,y0d,y0e,y0f,y0g,y0h,y0i,y0j,y0k,y0l,y0m,y0n,y0o,y0p,y0q,y0r,y0s,y0t,y0u,y0v,y0w,y0x,y0y,y0z,y10,y11,y12,y13,y14,y15,y16,y17,y18,y19,y1a,y1b,y1c,y1d,y1e,y1f,y1g,y1h,y1i,y1j,y1k,y1l,y1m,y1n,y1o,y1p,y1q,y1r,retO,retL,retV,z69,allV,allP,z6a,z6d,z6e,z6k,z6l,z6m,binV,eqV,unV,oOpt,reduceIte,reduceCtorEq,Nat.reduceEqDiff,Nat.reduceAdd,Nat.reduceMul,Nat.reduceLT,Nat.reduceSub,Int.reduceLT,Int.reduceLE,Int.reduceEq,Int.reduceNe,Int.reduceSub,Int.reduceAdd,Int.reduceMul,Int.reduceBEq,Int.reduceBNe,Int.reduceGT,Int.reduceGE,Nat.reduceGT,Int.reduceToNat,Int.reduceNeg,Nat.reduceLeDiff,Nat.reduceBEq,Nat.reduceBneDiff,Value.cells, hlt, e0, e17, c9, w2, w7, s16, Int.toNat_natCast]
          refine ⟨_, by omega, Heap.le_set leH hb16' _, i + 1, by omega, rfl, rfl, set_keep q4 n416, set_keep q9 n916, ?_⟩
          rw [Heap.set_self]
          have eS : row8 (fun k => if k = i then UInt8.ofNat (g i) else if k < i then UInt8.ofNat (g k) else 0) 16 = row8 (fun j => if j < i + 1 then UInt8.ofNat (g j) else 0) 16 := by
            apply row8_congr
            intro k _
            by_cases e : k = i
            · subst e; simp
            · rw [if_neg e]
              by_cases e2 : k < i
              · rw [if_pos e2, if_pos (by omega)]
              · rw [if_neg e2, if_neg (by omega)]
          rw [eS]
        · obtain rfl : i = 16 := by omega
          have eF : row8 (fun j => if j < 16 then UInt8.ofNat (g j) else 0) 16 = row8 (fun j => UInt8.ofNat (g j)) 16 := row8_congr fun k hk => by rw [if_pos hk]
          rw [eF] at q16
          have l16 : hcells H ⟨b16, 0, none⟩ 16 = some (row8 (fun j => UInt8.ofNat (g j)) 16) := by rw [hcells_at q16 (by rw [row8_len]; omega)]; simp [List.take_of_length_le, row8_len]
          have s4 : storeV H 16 (.pointer (some ⟨b4, 0, none⟩)) (.agg (row8 (fun j => UInt8.ofNat (g j)) 16).toArray) = some (H.set b4 (.own 0 (row8 (fun j => UInt8.ofNat (g j)) 16) 16)) := storeV_agg_at q4 (by omega) (row8_len _ _) (by simp [row8, one]) (by simp) (by omega)
          have l4 : hcells (H.set b4 (.own 0 (row8 (fun j => UInt8.ofNat (g j)) 16) 16)) ⟨b4, 0, none⟩ 16 = some (row8 (fun j => UInt8.ofNat (g j)) 16) := z6o (row8_len _ _)
          simp -implicitDefEqProofs only [zB1,zB2,zB3,zB4,zB5,zB6,zB7,zB8,zB9,zB10,zB11,y00,y01,y02,y03,y04,y05,y06,y07,y08,y09,y0a,y0b,y0c,y0d,y0e,y0f,y0g,y0h,y0i,y0j,y0k,y0l,y0m,y0n,y0o,y0p,y0q,y0r,y0s,y0t,y0u,y0v,y0w,y0x,y0y,y0z,y10,y11,y12,y13,y14,y15,y16,y17,y18,y19,y1a,y1b,y1c,y1d,y1e,y1f,y1g,y1h,y1i,y1j,y1k,y1l,y1m,y1n,y1o,y1p,y1q,y1r,retO,retL,retV,z69,allV,allP,z6a,z6d,z6e,z6k,z6l,z6m,binV,eqV,unV,oOpt,reduceIte,reduceCtorEq,Nat.reduceEqDiff,Nat.reduceAdd,Nat.reduceMul,Nat.reduceLT,Nat.reduceSub,Int.reduceLT,Int.reduceLE,Int.reduceEq,Int.reduceNe,Int.reduceSub,Int.reduceAdd,Int.reduceMul,Int.reduceBEq,Int.reduceBNe,Int.reduceGT,Int.reduceGE,Nat.reduceGT,Int.reduceToNat,Int.reduceNeg,Nat.reduceLeDiff,Nat.reduceBEq,Nat.reduceBneDiff,Value.cells, hlt, l16, s4, l4]
          exact Heap.le_set leH hb4' _
end Go.Bb
/- The document's sealed and opened. -/
namespace Go.Bb
set_option linter.unusedSimpArgs false
set_option linter.unusedVariables false
set_option maxRecDepth 20000
set_option maxHeartbeats 2000000

theorem app0 {h0 H : Heap} {b1 : Nat} {v : Value} {l : List UInt8} {K : Value → Heap → Prop} (leH : h0.le H) (hb1 : H b1 = none) (ow : OwB h0 H v l) (hl : l.length ≤ 140737488355000)
    (hk : ∀ v' H', OwB h0 H' v' (l ++ [0]) → h0.le H' → K v' H') : appendP 1 1 (H.set b1 (.own 0 [.int .u8 0] 1)) v (.slice (some ⟨b1, 0, none⟩) 1 1) K := app1 (x := 0) leH hb1 ow hl hk
theorem ref4_TagKey_c (E : EnvT tab) (h : Heap) (key nonce : List UInt8) (hk : key.length = 32) (hn : nonce.length = 12) :
    ACallN E.toEnv n_bandboxref4_TagKey [.agg (key.map u8V).toArray, .agg (nonce.map u8V).toArray] h fun r h' => h.le h' ∧ r = .agg ((akeyF key nonce).map u8V).toArray := by
  refine acall h_bandboxref4_TagKey ir_bandboxref4_TagKey rfl rfl (wpA_sound ?_)
  unfold ir_bandboxref4_TagKey
  have hk' : (key.map u8V).length = 32 := by simp [hk]
  have hn' : (nonce.map u8V).length = 12 := by simp [hn]
  simp -implicitDefEqProofs only [zB1,zB2,zB3,zB4,zB5,zB6,zB7,zB8,zB9,zB10,zB11,y00,y01,y02,y03,y04,y05,y06,y07,y08,y09,y0a,y0b,y0c,y0d,y0e,y0f,y0g,y0h,y0i,y0j,y0k,y0l,y0m,y0n,y0o,y0p,y0q,y0r,y0s,y0t,y0u,y0v,y0w,y0x,y0y,y0z,y10,y11,y12,y13,y14,y15,y16,y17,y18,y19,y1a,y1b,y1c,y1d,y1e,y1f,y1g,y1h,y1i,y1j,y1k,y1l,y1m,y1n,y1o,y1p,y1q,y1r,retO,retL,retV,z69,allV,allP,z6a,z6d,z6e,z6k,z6l,z6m,binV,eqV,unV,oOpt,reduceIte,reduceCtorEq,Nat.reduceEqDiff,Nat.reduceAdd,Nat.reduceMul,Nat.reduceLT,Nat.reduceSub,Int.reduceLT,Int.reduceLE,Int.reduceEq,Int.reduceNe,Int.reduceSub,Int.reduceAdd,Int.reduceMul,Int.reduceBEq,Int.reduceBNe,Int.reduceGT,Int.reduceGE,Nat.reduceGT,Int.reduceToNat,Int.reduceNeg,Nat.reduceLeDiff,Nat.reduceBEq,Nat.reduceBneDiff,Value.cells, hk', hn', List.length_replicate]
  intro b2 hb2 b3 hb3 b4 hb4
  obtain ⟨n32, hb3'⟩ := Heap.set_none.1 hb3
  obtain ⟨n43, hb4a⟩ := Heap.set_none.1 hb4
  obtain ⟨n42, hb4'⟩ := Heap.set_none.1 hb4a
  have le1 : h.le (((h.set b2 (.own 0 (key.map u8V) 32)).set b3 (.own 0 (nonce.map u8V) 12)).set b4 (.own 0 (List.replicate 32 (.int .u8 0)) 32)) := Heap.le_set (Heap.le_set (Heap.le_set (Heap.le_refl _) hb2 _) hb3' _) hb4' _
  have l2 : hcells (((h.set b2 (.own 0 (key.map u8V) 32)).set b3 (.own 0 (nonce.map u8V) 12)).set b4 (.own 0 (List.replicate 32 (.int .u8 0)) 32)) ⟨b2, 0, none⟩ 32 = some (key.map u8V) := hcells_own0 (set_keep (set_keep (Heap.set_self _ _ _) (Ne.symm n32)) (Ne.symm n42)) hk'
  have l3 : hcells (((h.set b2 (.own 0 (key.map u8V) 32)).set b3 (.own 0 (nonce.map u8V) 12)).set b4 (.own 0 (List.replicate 32 (.int .u8 0)) 32)) ⟨b3, 0, none⟩ 12 = some (nonce.map u8V) := hcells_own0 (set_keep (Heap.set_self _ _ _) (Ne.symm n43)) hn'
  have q4 : (((h.set b2 (.own 0 (key.map u8V) 32)).set b3 (.own 0 (nonce.map u8V) 12)).set b4 (.own 0 (List.replicate 32 (.int .u8 0)) 32)) b4 = some (.own 0 (List.replicate 32 (.int .u8 0)) 32) := Heap.set_self _ _ _
  generalize (((h.set b2 (.own 0 (key.map u8V) 32)).set b3 (.own 0 (nonce.map u8V) 12)).set b4 (.own 0 (List.replicate 32 (.int .u8 0)) 32)) = h1 at le1 l2 l3 q4 ⊢
  try simp -implicitDefEqProofs only [zB1,zB2,zB3,zB4,zB5,zB6,zB7,zB8,zB9,zB10,zB11,y00,y01,y02,y03,y04,y05,y06,y07,y08,y09,y0a,y0b,y0c,y0d,y0e,y0f,y0g,y0h,y0i,y0j,y0k,y0l,y0m,y0n,y0o,y0p,y0q,y0r,y0s,y0t,y0u,y0v,y0w,y0x,y0y,y0z,y10,y11,y12,y13,y14,y15,y16,y17,y18,y19,y1a,y1b,y1c,y1d,y1e,y1f,y1g,y1h,y1i,y1j,y1k,y1l,y1m,y1n,y1o,y1p,y1q,y1r,retO,retL,retV,z69,allV,allP,z6a,z6d,z6e,z6k,z6l,z6m,binV,eqV,unV,oOpt,reduceIte,reduceCtorEq,Nat.reduceEqDiff,Nat.reduceAdd,Nat.reduceMul,Nat.reduceLT,Nat.reduceSub,Int.reduceLT,Int.reduceLE,Int.reduceEq,Int.reduceNe,Int.reduceSub,Int.reduceAdd,Int.reduceMul,Int.reduceBEq,Int.reduceBNe,Int.reduceGT,Int.reduceGE,Nat.reduceGT,Int.reduceToNat,Int.reduceNeg,Nat.reduceLeDiff,Nat.reduceBEq,Nat.reduceBneDiff,Value.cells, l2, l3]
  have hB := ref4_Block_c E h1 key nonce 0 hk hn
  rw [u32_0] at hB
  refine hB.mono ?_
  rintro r h2 ⟨le2, rfl⟩
  rw [akey_row]
  generalize blockF key 0 nonce = bk
  simp -implicitDefEqProofs only [zB1,zB2,zB3,zB4,zB5,zB6,zB7,zB8,zB9,zB10,zB11,y00,y01,y02,y03,y04,y05,y06,y07,y08,y09,y0a,y0b,y0c,y0d,y0e,y0f,y0g,y0h,y0i,y0j,y0k,y0l,y0m,y0n,y0o,y0p,y0q,y0r,y0s,y0t,y0u,y0v,y0w,y0x,y0y,y0z,y10,y11,y12,y13,y14,y15,y16,y17,y18,y19,y1a,y1b,y1c,y1d,y1e,y1f,y1g,y1h,y1i,y1j,y1k,y1l,y1m,y1n,y1o,y1p,y1q,y1r,retO,retL,retV,z69,allV,allP,z6a,z6d,z6e,z6k,z6l,z6m,binV,eqV,unV,oOpt,reduceIte,reduceCtorEq,Nat.reduceEqDiff,Nat.reduceAdd,Nat.reduceMul,Nat.reduceLT,Nat.reduceSub,Int.reduceLT,Int.reduceLE,Int.reduceEq,Int.reduceNe,Int.reduceSub,Int.reduceAdd,Int.reduceMul,Int.reduceBEq,Int.reduceBNe,Int.reduceGT,Int.reduceGE,Nat.reduceGT,Int.reduceToNat,Int.reduceNeg,Nat.reduceLeDiff,Nat.reduceBEq,Nat.reduceBneDiff,Value.cells, List.length_replicate]
  intro b5 hb5
  have s5 : storeV (h2.set b5 (.own 0 (List.replicate 64 (.int .u8 0)) 64)) 64 (.pointer (some ⟨b5, 0, none⟩)) (.agg (row8 bk 64).toArray) = some (h2.set b5 (.own 0 (row8 bk 64) 64)) := z6q (by omega) (row8_len _ _) (by simp [row8, one]) (by simp) (by omega)
  have q45 := set_new (X := .own 0 (row8 bk 64) 64) hb5 (le2 _ _ q4)
  have q55 := Heap.set_self h2 b5 (.own 0 (row8 bk 64) 64)
  have le5 := Heap.le_new (Heap.le_trans le1 le2) hb5 (.own 0 (row8 bk 64) 64)
  simp -implicitDefEqProofs only [zB1,zB2,zB3,zB4,zB5,zB6,zB7,zB8,zB9,zB10,zB11,y00,y01,y02,y03,y04,y05,y06,y07,y08,y09,y0a,y0b,y0c,y0d,y0e,y0f,y0g,y0h,y0i,y0j,y0k,y0l,y0m,y0n,y0o,y0p,y0q,y0r,y0s,y0t,y0u,y0v,y0w,y0x,y0y,y0z,y10,y11,y12,y13,y14,y15,y16,y17,y18,y19,y1a,y1b,y1c,y1d,y1e,y1f,y1g,y1h,y1i,y1j,y1k,y1l,y1m,y1n,y1o,y1p,y1q,y1r,retO,retL,retV,z69,allV,allP,z6a,z6d,z6e,z6k,z6l,z6m,binV,eqV,unV,oOpt,reduceIte,reduceCtorEq,Nat.reduceEqDiff,Nat.reduceAdd,Nat.reduceMul,Nat.reduceLT,Nat.reduceSub,Int.reduceLT,Int.reduceLE,Int.reduceEq,Int.reduceNe,Int.reduceSub,Int.reduceAdd,Int.reduceMul,Int.reduceBEq,Int.reduceBNe,Int.reduceGT,Int.reduceGE,Nat.reduceGT,Int.reduceToNat,Int.reduceNeg,Nat.reduceLeDiff,Nat.reduceBEq,Nat.reduceBneDiff,Value.cells, s5, List.length_replicate, List.drop_replicate, List.replicate_zero]
  generalize (h2.set b5 (.own 0 (row8 bk 64) 64)) = h3 at q45 q55 le5 ⊢
  intro b6 hb6
  have r32 : (List.replicate 32 (Value.int .u8 0)).all one = true := by decide
  have s6 : storeV (h3.set b6 (.own 0 (List.replicate 32 (.int .u8 0)) 32)) 32 (.pointer (some ⟨b6, 0, none⟩)) (.agg (List.replicate 32 (Value.int .u8 0)).toArray) = some (h3.set b6 (.own 0 (List.replicate 32 (.int .u8 0)) 32)) := z6q (by omega) (by simp) r32 (by simp) (by omega)
  have bd : bnds 64 64 none (some (some (.int .i64 32))) none = some (0, 32, 64) := bnds_hi (by omega) (by omega)
  have q46 := set_new (X := .own 0 (row8 bk 32) 32) hb6 q45
  have s64 := own_sl (H := h3.set b6 (.own 0 (List.replicate 32 (.int .u8 0)) 32)) (b := b5) (l := rowL bk 64) (sz := 64) (by rw [rowL_map]; exact set_new hb6 q55)
  have s32 := Sl.headB s64 (m := 32) (by rw [rowL_len]; omega)
  have e32 : (rowL bk 64).take 32 = rowL bk 32 := by
    apply List.ext_getElem
    · simp [rowL]
    · intro j h1 h2
      simp [rowL]
  rw [e32, rowL_len] at s32
  unfold SlB at s32
  rw [rowL_len] at s32
  simp -implicitDefEqProofs only [zB1,zB2,zB3,zB4,zB5,zB6,zB7,zB8,zB9,zB10,zB11,y00,y01,y02,y03,y04,y05,y06,y07,y08,y09,y0a,y0b,y0c,y0d,y0e,y0f,y0g,y0h,y0i,y0j,y0k,y0l,y0m,y0n,y0o,y0p,y0q,y0r,y0s,y0t,y0u,y0v,y0w,y0x,y0y,y0z,y10,y11,y12,y13,y14,y15,y16,y17,y18,y19,y1a,y1b,y1c,y1d,y1e,y1f,y1g,y1h,y1i,y1j,y1k,y1l,y1m,y1n,y1o,y1p,y1q,y1r,retO,retL,retV,z69,allV,allP,z6a,z6d,z6e,z6k,z6l,z6m,binV,eqV,unV,oOpt,reduceIte,reduceCtorEq,Nat.reduceEqDiff,Nat.reduceAdd,Nat.reduceMul,Nat.reduceLT,Nat.reduceSub,Int.reduceLT,Int.reduceLE,Int.reduceEq,Int.reduceNe,Int.reduceSub,Int.reduceAdd,Int.reduceMul,Int.reduceBEq,Int.reduceBNe,Int.reduceGT,Int.reduceGE,Nat.reduceGT,Int.reduceToNat,Int.reduceNeg,Nat.reduceLeDiff,Nat.reduceBEq,Nat.reduceBneDiff,Value.cells, s6, bnds_no, bd, Nat.sub_zero, addz, implies_true]
  refine copyP_own (size := 1) (m := 32) (Heap.set_self _ _ _) (by simp) (by simp) s32 (one_u8 _) ?_
  have eC : splice (List.replicate 32 (Value.int .u8 0)) 0 (((rowL bk 32).map u8V).take (min 32 32 * 1)) = row8 bk 32 := by
    rw [List.take_of_length_le (by simp [rowL_len]), rowL_map]
    unfold splice
    simp only [List.take_zero, List.nil_append, row8_len, Nat.zero_add, List.drop_replicate, Nat.sub_self, List.replicate_zero, List.append_nil]
  rw [eC, Heap.set_set]
  have l6 : hcells (h3.set b6 (.own 0 (row8 bk 32) 32)) ⟨b6, 0, none⟩ 32 = some (row8 bk 32) := z6o (row8_len _ _)
  have s4 : storeV (h3.set b6 (.own 0 (row8 bk 32) 32)) 32 (.pointer (some ⟨b4, 0, none⟩)) (.agg (row8 bk 32).toArray) = some ((h3.set b6 (.own 0 (row8 bk 32) 32)).set b4 (.own 0 (row8 bk 32) 32)) := storeV_agg_at q46 (by omega) (row8_len _ _) (by simp [row8, one]) (by simp) (by omega)
  have l4 : hcells ((h3.set b6 (.own 0 (row8 bk 32) 32)).set b4 (.own 0 (row8 bk 32) 32)) ⟨b4, 0, none⟩ 32 = some (row8 bk 32) := z6o (row8_len _ _)
  simp -implicitDefEqProofs only [zB1,zB2,zB3,zB4,zB5,zB6,zB7,zB8,zB9,zB10,zB11,y00,y01,y02,y03,y04,y05,y06,y07,y08,y09,y0a,y0b,y0c,y0d,y0e,y0f,y0g,y0h,y0i,y0j,y0k,y0l,y0m,y0n,y0o,y0p,y0q,y0r,y0s,y0t,y0u,y0v,y0w,y0x,y0y,y0z,y10,y11,y12,y13,y14,y15,y16,y17,y18,y19,y1a,y1b,y1c,y1d,y1e,y1f,y1g,y1h,y1i,y1j,y1k,y1l,y1m,y1n,y1o,y1p,y1q,y1r,retO,retL,retV,z69,allV,allP,z6a,z6d,z6e,z6k,z6l,z6m,binV,eqV,unV,oOpt,reduceIte,reduceCtorEq,Nat.reduceEqDiff,Nat.reduceAdd,Nat.reduceMul,Nat.reduceLT,Nat.reduceSub,Int.reduceLT,Int.reduceLE,Int.reduceEq,Int.reduceNe,Int.reduceSub,Int.reduceAdd,Int.reduceMul,Int.reduceBEq,Int.reduceBNe,Int.reduceGT,Int.reduceGE,Nat.reduceGT,Int.reduceToNat,Int.reduceNeg,Nat.reduceLeDiff,Nat.reduceBEq,Nat.reduceBneDiff,Value.cells, l6, s4, l4]
  exact Heap.le_set (Heap.le_new le5 hb6 _) hb4' _
theorem tmod16 (a : Nat) : Int.tmod (a : Int) 16 = ((a % 16 : Nat) : Int) := by
  rw [Int.tmod_eq_emod_of_nonneg (by omega)]; rfl
theorem rep_more (l : List UInt8) (k : Nat) : l ++ List.replicate k 0 ++ [0] = l ++ List.replicate (k + 1) 0 := by
  rw [List.append_assoc, List.replicate_succ']
theorem fill_step (n k : Nat) (hk : k ≤ fillN n) (h : (n + k) % 16 ≠ 0) : k + 1 ≤ fillN n := by
  unfold fillN at *
  omega
theorem fill_done (n k : Nat) (hk : k ≤ fillN n) (h : (n + k) % 16 = 0) : k = fillN n := by
  unfold fillN at *
  omega
theorem ref4_tagged_c (E : EnvT tab) (h : Heap) {v w : Value} (beside c : List UInt8) (hc : c.length ≤ 1000000) (hbs : beside.length ≤ 1000000) (sb : SlB h v beside) (sc : SlB h w c) :
    ACallN E.toEnv n_bandboxref4_tagged [v, w] h fun r h' => h.le h' ∧ OwB h h' r (taggedF beside c) := by
  obtain ⟨base, cc, rfl⟩ := Sl.shape sb
  obtain ⟨base2, cc2, rfl⟩ := Sl.shape sc
  refine acall h_bandboxref4_tagged ir_bandboxref4_tagged rfl rfl (wpA_sound ?_)
  unfold ir_bandboxref4_tagged
  simp -implicitDefEqProofs only [zB1,zB2,zB3,zB4,zB5,zB6,zB7,zB8,zB9,zB10,zB11,y00,y01,y02,y03,y04,y05,y06,y07,y08,y09,y0a,y0b,y0c,y0d,y0e,y0f,y0g,y0h,y0i,y0j,y0k,y0l,y0m,y0n,y0o,y0p,y0q,y0r,y0s,y0t,y0u,y0v,y0w,y0x,y0y,y0z,y10,y11,y12,y13,y14,y15,y16,y17,y18,y19,y1a,y1b,y1c,y1d,y1e,y1f,y1g,y1h,y1i,y1j,y1k,y1l,y1m,y1n,y1o,y1p,y1q,y1r,retO,retL,retV,z69,allV,allP,z6a,z6d,z6e,z6k,z6l,z6m,binV,eqV,unV,oOpt,reduceIte,reduceCtorEq,Nat.reduceEqDiff,Nat.reduceAdd,Nat.reduceMul,Nat.reduceLT,Nat.reduceSub,Int.reduceLT,Int.reduceLE,Int.reduceEq,Int.reduceNe,Int.reduceSub,Int.reduceAdd,Int.reduceMul,Int.reduceBEq,Int.reduceBNe,Int.reduceGT,Int.reduceGE,Nat.reduceGT,Int.reduceToNat,Int.reduceNeg,Nat.reduceLeDiff,Nat.reduceBEq,Nat.reduceBneDiff,Value.cells]
  intro b4 hb4
  refine appendP_ow (bytes := 1) (n := 0) (cells := []) (m := beside.length) (news := beside.map u8V) (Heap.le_set (Heap.le_refl _) hb4 _) (by omega) (Ow.new (Heap.le_refl _) hb4 rfl (by omega) (by omega)) (sb.le (Heap.le_set (Heap.le_refl _) hb4 _)) (one_u8 beside) (by omega) (by omega) ?_
  intro v5 h1 ow1 le1
  rw [Nat.zero_add, List.nil_append] at ow1
  simp -implicitDefEqProofs only [zB1,zB2,zB3,zB4,zB5,zB6,zB7,zB8,zB9,zB10,zB11,y00,y01,y02,y03,y04,y05,y06,y07,y08,y09,y0a,y0b,y0c,y0d,y0e,y0f,y0g,y0h,y0i,y0j,y0k,y0l,y0m,y0n,y0o,y0p,y0q,y0r,y0s,y0t,y0u,y0v,y0w,y0x,y0y,y0z,y10,y11,y12,y13,y14,y15,y16,y17,y18,y19,y1a,y1b,y1c,y1d,y1e,y1f,y1g,y1h,y1i,y1j,y1k,y1l,y1m,y1n,y1o,y1p,y1q,y1r,retO,retL,retV,z69,allV,allP,z6a,z6d,z6e,z6k,z6l,z6m,binV,eqV,unV,oOpt,reduceIte,reduceCtorEq,Nat.reduceEqDiff,Nat.reduceAdd,Nat.reduceMul,Nat.reduceLT,Nat.reduceSub,Int.reduceLT,Int.reduceLE,Int.reduceEq,Int.reduceNe,Int.reduceSub,Int.reduceAdd,Int.reduceMul,Int.reduceBEq,Int.reduceBNe,Int.reduceGT,Int.reduceGE,Nat.reduceGT,Int.reduceToNat,Int.reduceNeg,Nat.reduceLeDiff,Nat.reduceBEq,Nat.reduceBneDiff,Value.cells]
  have hf1 := fillN_lt beside.length
  have hf2 := fillN_lt c.length
  refine wp_loop' (fun m t H => h.le H ∧ ∃ (k : Nat) (v5 : Value), t = tl [(0, .slice base beside.length cc), (1, .slice base2 c.length cc2), (5, v5)] ∧ k ≤ fillN beside.length ∧ m = 16 - k ∧ OwB h H v5 (beside ++ List.replicate k 0)) 16
    ⟨le1, 0, v5, rfl, by omega, by omega, by simpa using ow1⟩ ?_
  clear ow1 le1 hb4 v5
  rintro m t H ⟨leH, k, v5, rfl, hkf, rfl, ow⟩
  have hlk : (beside ++ List.replicate k (0 : UInt8)).length = beside.length + k := by simp
  obtain ⟨b5, c5, rfl⟩ := Sl.shape ow.sl
  have w1 : IntKind.i64.wrap (((beside ++ List.replicate k (0 : UInt8)).length % 16 : Nat) : Int) = (((beside ++ List.replicate k (0 : UInt8)).length % 16 : Nat) : Int) := wrapI (by omega) (by omega)
  by_cases hz : (beside.length + k) % 16 = 0
  · have hk0 := fill_done _ _ hkf hz
    have e1 : (((beside ++ List.replicate k (0 : UInt8)).length % 16 : Nat) : Int) = 0 := by rw [hlk]; omega
    have eB : beside ++ List.replicate k 0 = fillB beside := by unfold fillB; rw [← hk0]
    rw [eB] at ow w1 e1 ⊢
    have hB16 : (fillB beside).length % 16 = 0 := by rw [fillB_len, ← hk0]; exact hz
    have hBl := fillB_len beside
    simp -implicitDefEqProofs only [zB1,zB2,zB3,zB4,zB5,zB6,zB7,zB8,zB9,zB10,zB11,y00,y01,y02,y03,y04,y05,y06,y07,y08,y09,y0a,y0b,y0c,y0d,y0e,y0f,y0g,y0h,y0i,y0j,y0k,y0l,y0m,y0n,y0o,y0p,y0q,y0r,y0s,y0t,y0u,y0v,y0w,y0x,y0y,y0z,y10,y11,y12,y13,y14,y15,y16,y17,y18,y19,y1a,y1b,y1c,y1d,y1e,y1f,y1g,y1h,y1i,y1j,y1k,y1l,y1m,y1n,y1o,y1p,y1q,y1r,retO,retL,retV,z69,allV,allP,z6a,z6d,z6e,z6k,z6l,z6m,binV,eqV,unV,oOpt,reduceIte,reduceCtorEq,Nat.reduceEqDiff,Nat.reduceAdd,Nat.reduceMul,Nat.reduceLT,Nat.reduceSub,Int.reduceLT,Int.reduceLE,Int.reduceEq,Int.reduceNe,Int.reduceSub,Int.reduceAdd,Int.reduceMul,Int.reduceBEq,Int.reduceBNe,Int.reduceGT,Int.reduceGE,Nat.reduceGT,Int.reduceToNat,Int.reduceNeg,Nat.reduceLeDiff,Nat.reduceBEq,Nat.reduceBneDiff,Value.cells, tmod16, e1]
    unfold ir_bandboxref4_tagged_16
    simp -implicitDefEqProofs only [zB1,zB2,zB3,zB4,zB5,zB6,zB7,zB8,zB9,zB10,zB11,y00,y01,y02,y03,y04,y05,y06,y07,y08,y09,y0a,y0b,y0c,y0d,y0e,y0f,y0g,y0h,y0i,y0j,y0k,y0l,y0m,y0n,y0o,y0p,y0q,y0r,y0s,y0t,y0u,y0v,y0w,y0x,y0y,y0z,y10,y11,y12,y13,y14,y15,y16,y17,y18,y19,y1a,y1b,y1c,y1d,y1e,y1f,y1g,y1h,y1i,y1j,y1k,y1l,y1m,y1n,y1o,y1p,y1q,y1r,retO,retL,retV,z69,allV,allP,z6a,z6d,z6e,z6k,z6l,z6m,binV,eqV,unV,oOpt,reduceIte,reduceCtorEq,Nat.reduceEqDiff,Nat.reduceAdd,Nat.reduceMul,Nat.reduceLT,Nat.reduceSub,Int.reduceLT,Int.reduceLE,Int.reduceEq,Int.reduceNe,Int.reduceSub,Int.reduceAdd,Int.reduceMul,Int.reduceBEq,Int.reduceBNe,Int.reduceGT,Int.reduceGE,Nat.reduceGT,Int.reduceToNat,Int.reduceNeg,Nat.reduceLeDiff,Nat.reduceBEq,Nat.reduceBneDiff,Value.cells]
    refine appendP_ow (bytes := 1) leH (by omega) ow (sc.le leH) (one_u8 _) (by omega) (by omega) ?_
    intro v6 h2 ow2 le2
    simp -implicitDefEqProofs only [zB1,zB2,zB3,zB4,zB5,zB6,zB7,zB8,zB9,zB10,zB11,y00,y01,y02,y03,y04,y05,y06,y07,y08,y09,y0a,y0b,y0c,y0d,y0e,y0f,y0g,y0h,y0i,y0j,y0k,y0l,y0m,y0n,y0o,y0p,y0q,y0r,y0s,y0t,y0u,y0v,y0w,y0x,y0y,y0z,y10,y11,y12,y13,y14,y15,y16,y17,y18,y19,y1a,y1b,y1c,y1d,y1e,y1f,y1g,y1h,y1i,y1j,y1k,y1l,y1m,y1n,y1o,y1p,y1q,y1r,retO,retL,retV,z69,allV,allP,z6a,z6d,z6e,z6k,z6l,z6m,binV,eqV,unV,oOpt,reduceIte,reduceCtorEq,Nat.reduceEqDiff,Nat.reduceAdd,Nat.reduceMul,Nat.reduceLT,Nat.reduceSub,Int.reduceLT,Int.reduceLE,Int.reduceEq,Int.reduceNe,Int.reduceSub,Int.reduceAdd,Int.reduceMul,Int.reduceBEq,Int.reduceBNe,Int.reduceGT,Int.reduceGE,Nat.reduceGT,Int.reduceToNat,Int.reduceNeg,Nat.reduceLeDiff,Nat.reduceBEq,Nat.reduceBneDiff,Value.cells]
    refine wp_loop' (fun m t H => h.le H ∧ ∃ (k : Nat) (v5 : Value), t = tl [(0, .slice base beside.length cc), (1, .slice base2 c.length cc2), (5, v5)] ∧ k ≤ fillN c.length ∧ m = 16 - k ∧ OwB h H v5 (fillB beside ++ c ++ List.replicate k 0)) 16
      ⟨le2, 0, v6, rfl, by omega, by omega, by unfold OwB; rw [List.replicate_zero, List.append_nil, List.length_append, List.map_append]; exact ow2⟩ ?_
    clear ow2 le2 v6 ow w1 e1 leH hkf hz hk0 eB hlk
    rintro m t H ⟨leH, k, v5, rfl, hkf, rfl, ow⟩
    have hlk : (fillB beside ++ c ++ List.replicate k (0 : UInt8)).length = (fillB beside).length + c.length + k := by simp; omega
    obtain ⟨b5, c5, rfl⟩ := Sl.shape ow.sl
    have w1 : IntKind.i64.wrap (((fillB beside ++ c ++ List.replicate k (0 : UInt8)).length % 16 : Nat) : Int) = (((fillB beside ++ c ++ List.replicate k (0 : UInt8)).length % 16 : Nat) : Int) := wrapI (by omega) (by omega)
    by_cases hz : (c.length + k) % 16 = 0
    · have hk0 := fill_done _ _ hkf hz
      have e1 : (((fillB beside ++ c ++ List.replicate k (0 : UInt8)).length % 16 : Nat) : Int) = 0 := by rw [hlk]; omega
      have eB : fillB beside ++ c ++ List.replicate k 0 = fillB beside ++ fillB c := by rw [List.append_assoc, hk0]; rfl
      rw [eB] at ow w1 e1 ⊢
      have hl2 : (fillB beside ++ fillB c).length ≤ 2000040 := by rw [List.length_append, fillB_len, fillB_len]; omega
      simp -implicitDefEqProofs only [zB1,zB2,zB3,zB4,zB5,zB6,zB7,zB8,zB9,zB10,zB11,y00,y01,y02,y03,y04,y05,y06,y07,y08,y09,y0a,y0b,y0c,y0d,y0e,y0f,y0g,y0h,y0i,y0j,y0k,y0l,y0m,y0n,y0o,y0p,y0q,y0r,y0s,y0t,y0u,y0v,y0w,y0x,y0y,y0z,y10,y11,y12,y13,y14,y15,y16,y17,y18,y19,y1a,y1b,y1c,y1d,y1e,y1f,y1g,y1h,y1i,y1j,y1k,y1l,y1m,y1n,y1o,y1p,y1q,y1r,retO,retL,retV,z69,allV,allP,z6a,z6d,z6e,z6k,z6l,z6m,binV,eqV,unV,oOpt,reduceIte,reduceCtorEq,Nat.reduceEqDiff,Nat.reduceAdd,Nat.reduceMul,Nat.reduceLT,Nat.reduceSub,Int.reduceLT,Int.reduceLE,Int.reduceEq,Int.reduceNe,Int.reduceSub,Int.reduceAdd,Int.reduceMul,Int.reduceBEq,Int.reduceBNe,Int.reduceGT,Int.reduceGE,Nat.reduceGT,Int.reduceToNat,Int.reduceNeg,Nat.reduceLeDiff,Nat.reduceBEq,Nat.reduceBneDiff,Value.cells, tmod16, e1]
      unfold ir_bandboxref4_tagged_26
      have u1 := u64_lit beside.length
      have u2 := u64_lit c.length
      simp -implicitDefEqProofs only [zB1,zB2,zB3,zB4,zB5,zB6,zB7,zB8,zB9,zB10,zB11,y00,y01,y02,y03,y04,y05,y06,y07,y08,y09,y0a,y0b,y0c,y0d,y0e,y0f,y0g,y0h,y0i,y0j,y0k,y0l,y0m,y0n,y0o,y0p,y0q,y0r,y0s,y0t,y0u,y0v,y0w,y0x,y0y,y0z,y10,y11,y12,y13,y14,y15,y16,y17,y18,y19,y1a,y1b,y1c,y1d,y1e,y1f,y1g,y1h,y1i,y1j,y1k,y1l,y1m,y1n,y1o,y1p,y1q,y1r,retO,retL,retV,z69,allV,allP,z6a,z6d,z6e,z6k,z6l,z6m,binV,eqV,unV,oOpt,reduceIte,reduceCtorEq,Nat.reduceEqDiff,Nat.reduceAdd,Nat.reduceMul,Nat.reduceLT,Nat.reduceSub,Int.reduceLT,Int.reduceLE,Int.reduceEq,Int.reduceNe,Int.reduceSub,Int.reduceAdd,Int.reduceMul,Int.reduceBEq,Int.reduceBNe,Int.reduceGT,Int.reduceGE,Nat.reduceGT,Int.reduceToNat,Int.reduceNeg,Nat.reduceLeDiff,Nat.reduceBEq,Nat.reduceBneDiff,Value.cells, u1, u2]
      refine (ref1_Little_c E _ _ (by omega) ow.sl (BitVec.ofNat 64 beside.length) 8 (by omega)).mono ?_
      rintro r h3 ⟨le3, ow3⟩
      simp -implicitDefEqProofs only [zB1,zB2,zB3,zB4,zB5,zB6,zB7,zB8,zB9,zB10,zB11,y00,y01,y02,y03,y04,y05,y06,y07,y08,y09,y0a,y0b,y0c,y0d,y0e,y0f,y0g,y0h,y0i,y0j,y0k,y0l,y0m,y0n,y0o,y0p,y0q,y0r,y0s,y0t,y0u,y0v,y0w,y0x,y0y,y0z,y10,y11,y12,y13,y14,y15,y16,y17,y18,y19,y1a,y1b,y1c,y1d,y1e,y1f,y1g,y1h,y1i,y1j,y1k,y1l,y1m,y1n,y1o,y1p,y1q,y1r,retO,retL,retV,z69,allV,allP,z6a,z6d,z6e,z6k,z6l,z6m,binV,eqV,unV,oOpt,reduceIte,reduceCtorEq,Nat.reduceEqDiff,Nat.reduceAdd,Nat.reduceMul,Nat.reduceLT,Nat.reduceSub,Int.reduceLT,Int.reduceLE,Int.reduceEq,Int.reduceNe,Int.reduceSub,Int.reduceAdd,Int.reduceMul,Int.reduceBEq,Int.reduceBNe,Int.reduceGT,Int.reduceGE,Nat.reduceGT,Int.reduceToNat,Int.reduceNeg,Nat.reduceLeDiff,Nat.reduceBEq,Nat.reduceBneDiff,Value.cells, u2]
      refine (ref1_Little_c E _ _ (by rw [List.length_append, littleF_len]; omega) ow3.sl (BitVec.ofNat 64 c.length) 8 (by omega)).mono ?_
      rintro r h4 ⟨le4, ow4⟩
      simp -implicitDefEqProofs only [zB1,zB2,zB3,zB4,zB5,zB6,zB7,zB8,zB9,zB10,zB11,y00,y01,y02,y03,y04,y05,y06,y07,y08,y09,y0a,y0b,y0c,y0d,y0e,y0f,y0g,y0h,y0i,y0j,y0k,y0l,y0m,y0n,y0o,y0p,y0q,y0r,y0s,y0t,y0u,y0v,y0w,y0x,y0y,y0z,y10,y11,y12,y13,y14,y15,y16,y17,y18,y19,y1a,y1b,y1c,y1d,y1e,y1f,y1g,y1h,y1i,y1j,y1k,y1l,y1m,y1n,y1o,y1p,y1q,y1r,retO,retL,retV,z69,allV,allP,z6a,z6d,z6e,z6k,z6l,z6m,binV,eqV,unV,oOpt,reduceIte,reduceCtorEq,Nat.reduceEqDiff,Nat.reduceAdd,Nat.reduceMul,Nat.reduceLT,Nat.reduceSub,Int.reduceLT,Int.reduceLE,Int.reduceEq,Int.reduceNe,Int.reduceSub,Int.reduceAdd,Int.reduceMul,Int.reduceBEq,Int.reduceBNe,Int.reduceGT,Int.reduceGE,Nat.reduceGT,Int.reduceToNat,Int.reduceNeg,Nat.reduceLeDiff,Nat.reduceBEq,Nat.reduceBneDiff,Value.cells]
      refine ⟨Heap.le_trans leH (Heap.le_trans le3 le4), ?_⟩
      have eT : taggedF beside c = fillB beside ++ fillB c ++ littleF (BitVec.ofNat 64 beside.length) 8 ++ littleF (BitVec.ofNat 64 c.length) 8 := by
        unfold taggedF lenB
        rw [List.append_assoc, List.append_assoc, List.append_assoc]
      rw [eT]
      exact Ow.since (Heap.le_trans leH le3) ow4
    · have hk1 := fill_step _ _ hkf hz
      have e1 : ¬ (((fillB beside ++ c ++ List.replicate k (0 : UInt8)).length % 16 : Nat) : Int) = 0 := by rw [hlk]; omega
      simp -implicitDefEqProofs only [zB1,zB2,zB3,zB4,zB5,zB6,zB7,zB8,zB9,zB10,zB11,y00,y01,y02,y03,y04,y05,y06,y07,y08,y09,y0a,y0b,y0c,y0d,y0e,y0f,y0g,y0h,y0i,y0j,y0k,y0l,y0m,y0n,y0o,y0p,y0q,y0r,y0s,y0t,y0u,y0v,y0w,y0x,y0y,y0z,y10,y11,y12,y13,y14,y15,y16,y17,y18,y19,y1a,y1b,y1c,y1d,y1e,y1f,y1g,y1h,y1i,y1j,y1k,y1l,y1m,y1n,y1o,y1p,y1q,y1r,retO,retL,retV,z69,allV,allP,z6a,z6d,z6e,z6k,z6l,z6m,binV,eqV,unV,oOpt,reduceIte,reduceCtorEq,Nat.reduceEqDiff,Nat.reduceAdd,Nat.reduceMul,Nat.reduceLT,Nat.reduceSub,Int.reduceLT,Int.reduceLE,Int.reduceEq,Int.reduceNe,Int.reduceSub,Int.reduceAdd,Int.reduceMul,Int.reduceBEq,Int.reduceBNe,Int.reduceGT,Int.reduceGE,Nat.reduceGT,Int.reduceToNat,Int.reduceNeg,Nat.reduceLeDiff,Nat.reduceBEq,Nat.reduceBneDiff,Value.cells, tmod16, w1, e1]
      intro b6 hb6
      refine app0 leH hb6 ow (by omega) ?_
      intro v6 H6 ow6 le6
      rw [rep_more] at ow6
      simp -implicitDefEqProofs only [zB1,zB2,zB3,zB4,zB5,zB6,zB7,zB8,zB9,zB10,zB11,y00,y01,y02,y03,y04,y05,y06,y07,y08,y09,y0a,y0b,y0c,y0d,y0e,y0f,y0g,y0h,y0i,y0j,y0k,y0l,y0m,y0n,y0o,y0p,y0q,y0r,y0s,y0t,y0u,y0v,y0w,y0x,y0y,y0z,y10,y11,y12,y13,y14,y15,y16,y17,y18,y19,y1a,y1b,y1c,y1d,y1e,y1f,y1g,y1h,y1i,y1j,y1k,y1l,y1m,y1n,y1o,y1p,y1q,y1r,retO,retL,retV,z69,allV,allP,z6a,z6d,z6e,z6k,z6l,z6m,binV,eqV,unV,oOpt,reduceIte,reduceCtorEq,Nat.reduceEqDiff,Nat.reduceAdd,Nat.reduceMul,Nat.reduceLT,Nat.reduceSub,Int.reduceLT,Int.reduceLE,Int.reduceEq,Int.reduceNe,Int.reduceSub,Int.reduceAdd,Int.reduceMul,Int.reduceBEq,Int.reduceBNe,Int.reduceGT,Int.reduceGE,Nat.reduceGT,Int.reduceToNat,Int.reduceNeg,Nat.reduceLeDiff,Nat.reduceBEq,Nat.reduceBneDiff,Value.cells]
      exact ⟨16 - (k + 1), by omega, le6, k + 1, v6, rfl, hk1, rfl, ow6⟩
  · have hk1 := fill_step _ _ hkf hz
    have e1 : ¬ (((beside ++ List.replicate k (0 : UInt8)).length % 16 : Nat) : Int) = 0 := by rw [hlk]; omega
    simp -implicitDefEqProofs only [zB1,zB2,zB3,zB4,zB5,zB6,zB7,zB8,zB9,zB10,zB11,y00,y01,y02,y03,y04,y05,y06,y07,y08,y09,y0a,y0b,y0c,y0d,y0e,y0f,y0g,y0h,y0i,y0j,y0k,y0l,y0m,y0n,y0o,y0p,y0q,y0r,y0s,y0t,y0u,y0v,y0w,y0x,y0y,y0z,y10,y11,y12,y13,y14,y15,y16,y17,y18,y19,y1a,y1b,y1c,y1d,y1e,y1f,y1g,y1h,y1i,y1j,y1k,y1l,y1m,y1n,y1o,y1p,y1q,y1r,retO,retL,retV,z69,allV,allP,z6a,z6d,z6e,z6k,z6l,z6m,binV,eqV,unV,oOpt,reduceIte,reduceCtorEq,Nat.reduceEqDiff,Nat.reduceAdd,Nat.reduceMul,Nat.reduceLT,Nat.reduceSub,Int.reduceLT,Int.reduceLE,Int.reduceEq,Int.reduceNe,Int.reduceSub,Int.reduceAdd,Int.reduceMul,Int.reduceBEq,Int.reduceBNe,Int.reduceGT,Int.reduceGE,Nat.reduceGT,Int.reduceToNat,Int.reduceNeg,Nat.reduceLeDiff,Nat.reduceBEq,Nat.reduceBneDiff,Value.cells, tmod16, w1, e1]
    intro b6 hb6
    refine app0 leH hb6 ow (by omega) ?_
    intro v6 H6 ow6 le6
    rw [rep_more] at ow6
    simp -implicitDefEqProofs only [zB1,zB2,zB3,zB4,zB5,zB6,zB7,zB8,zB9,zB10,zB11,y00,y01,y02,y03,y04,y05,y06,y07,y08,y09,y0a,y0b,y0c,y0d,y0e,y0f,y0g,y0h,y0i,y0j,y0k,y0l,y0m,y0n,y0o,y0p,y0q,y0r,y0s,y0t,y0u,y0v,y0w,y0x,y0y,y0z,y10,y11,y12,y13,y14,y15,y16,y17,y18,y19,y1a,y1b,y1c,y1d,y1e,y1f,y1g,y1h,y1i,y1j,y1k,y1l,y1m,y1n,y1o,y1p,y1q,y1r,retO,retL,retV,z69,allV,allP,z6a,z6d,z6e,z6k,z6l,z6m,binV,eqV,unV,oOpt,reduceIte,reduceCtorEq,Nat.reduceEqDiff,Nat.reduceAdd,Nat.reduceMul,Nat.reduceLT,Nat.reduceSub,Int.reduceLT,Int.reduceLE,Int.reduceEq,Int.reduceNe,Int.reduceSub,Int.reduceAdd,Int.reduceMul,Int.reduceBEq,Int.reduceBNe,Int.reduceGT,Int.reduceGE,Nat.reduceGT,Int.reduceToNat,Int.reduceNeg,Nat.reduceLeDiff,Nat.reduceBEq,Nat.reduceBneDiff,Value.cells]
    exact ⟨16 - (k + 1), by omega, le6, k + 1, v6, rfl, hk1, rfl, ow6⟩
end Go.Bb
