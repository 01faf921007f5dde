/- My contracts: BbCpoly5 BbLpoly0 BbLpoly2 BbPref4 BbPref5 BbPtag BbPtag2 BbCref4a BbCref4b BbCref4c BbCref4d. -/
import Derived.Test.YtfbhhmmjfoemkaaBbG3
import Derived.Test.YtfbhhmmjfoemkaaBbM1
import Derived.Test.YtfbhhmmjfoemkaaBbG4
import Derived.Test.YtfbhhmmjfoemkaaBbTab
/- Contracts: tags. -/
namespace Go.Bb
set_option linter.unusedSimpArgs false
set_option linter.unusedVariables false
set_option maxRecDepth 20000

def blockB (l : List UInt8) : List UInt8 := l.take 16 ++ [1] ++ List.replicate (32 - (l.take 16).length) 0
def blockN (l : List UInt8) : N3 := ⟨(fromLittleF ((blockB l).take 8)).toNat, (fromLittleF (((blockB l).drop 8).take 8)).toNat, ((blockB l).getD 16 0).toNat⟩
def tagSum (k0 k1 : Nat) (s : N3) (l : List UInt8) : N3 :=
  if h : 0 < l.length then tagSum k0 k1 ((s.plus (blockN l)).times k0 k1) (l.drop 16) else s
termination_by l.length
decreasing_by simp; omega
theorem tagSum_more {k0 k1 : Nat} {s : N3} {l : List UInt8} (h : 0 < l.length) : tagSum k0 k1 s l = tagSum k0 k1 ((s.plus (blockN l)).times k0 k1) (l.drop 16) := by
  rw [tagSum, dif_pos h]
theorem tagSum_done {k0 k1 : Nat} {s : N3} {l : List UInt8} (h : ¬ 0 < l.length) : tagSum k0 k1 s l = s := by
  rw [tagSum, dif_neg h]
/-- The first words of a clamped row. -/
def rowL (f : Nat → UInt8) (n : Nat) : List UInt8 := (List.range n).map f
theorem rowL_len (f : Nat → UInt8) (n : Nat) : (rowL f n).length = n := by simp [rowL]
theorem rowL_map (f : Nat → UInt8) (n : Nat) : (rowL f n).map u8V = row8 f n := by simp [rowL, row8, u8V]
def keyR (w : List UInt8) : Nat → UInt8 := clampG fun j => w.getD j 0
def keyK (w : List UInt8) (i : Nat) : Nat := (fromLittleF (((rowL (keyR w) 16).drop (8 * i)).take 8)).toNat
def tagN (w all : List UInt8) : N3 := (tagSum (keyK w 0) (keyK w 1) z3 all).last.plus ⟨(fromLittleF ((w.drop 16).take 8)).toNat, (fromLittleF ((w.drop 24).take 8)).toNat, 0⟩
def tagF (w all : List UInt8) : List UInt8 := littleF (BitVec.ofNat 64 (tagN w all).a) 8 ++ littleF (BitVec.ofNat 64 (tagN w all).b) 8

theorem poly_Tag_c (E : EnvT tab) (h : Heap) {v : Value} (w : List UInt8) (L : List (List UInt8)) (hw : w.length = 32) (hl : L.length ≤ 100000) (ht : L.flatten.length ≤ 100000000) (s : SlL h v L) :
    ACallN E.toEnv n_poly_Tag [.agg (w.map u8V).toArray, v] h fun r h' => h.le h' ∧ r = .agg ((tagF w L.flatten).map u8V).toArray := by
  refine acall h_poly_Tag ir_poly_Tag rfl rfl (wpA_sound ?_)
  unfold ir_poly_Tag
  have hw' : (w.map u8V).length = 32 := by simp [hw]
  simp -implicitDefEqProofs only [zB1,zB2,zB3,zB4,zB5,zB6,zB7,zB8,zB9,zB10,zB11,y00,y01,y02,y03,y04,y05,y06,y07,y08,y09,y0a,y0b,y0c,y0d,y0e,y0f,y0g,y0h,y0i,y0j,y0k,y0l,y0m,y0n,y0o,y0p,y0q,y0r,y0s,y0t,y0u,y0v,y0w,y0x,y0y,y0z,y10,y11,y12,y13,y14,y15,y16,y17,y18,y19,y1a,y1b,y1c,y1d,y1e,y1f,y1g,y1h,y1i,y1j,y1k,y1l,y1m,y1n,y1o,y1p,y1q,y1r,retO,retL,retV,z69,allV,allP,z6a,z6d,z6e,z6k,z6l,z6m,binV,eqV,unV,oOpt,reduceIte,reduceCtorEq,Nat.reduceEqDiff,Nat.reduceAdd,Nat.reduceMul,Nat.reduceLT,Nat.reduceSub,Int.reduceLT,Int.reduceLE,Int.reduceEq,Int.reduceNe,Int.reduceSub,Int.reduceAdd,Int.reduceMul,Int.reduceBEq,Int.reduceBNe,Int.reduceGT,Int.reduceGE,Nat.reduceGT,Int.reduceToNat,Int.reduceNeg,Nat.reduceLeDiff,Nat.reduceBEq,Nat.reduceBneDiff,Value.cells]
  rw [hw']
  intro b2 hb2 b4 hb4
  try simp -implicitDefEqProofs only [zB1,zB2,zB3,zB4,zB5,zB6,zB7,zB8,zB9,zB10,zB11,y00,y01,y02,y03,y04,y05,y06,y07,y08,y09,y0a,y0b,y0c,y0d,y0e,y0f,y0g,y0h,y0i,y0j,y0k,y0l,y0m,y0n,y0o,y0p,y0q,y0r,y0s,y0t,y0u,y0v,y0w,y0x,y0y,y0z,y10,y11,y12,y13,y14,y15,y16,y17,y18,y19,y1a,y1b,y1c,y1d,y1e,y1f,y1g,y1h,y1i,y1j,y1k,y1l,y1m,y1n,y1o,y1p,y1q,y1r,retO,retL,retV,z69,allV,allP,z6a,z6d,z6e,z6k,z6l,z6m,binV,eqV,unV,oOpt,reduceIte,reduceCtorEq,Nat.reduceEqDiff,Nat.reduceAdd,Nat.reduceMul,Nat.reduceLT,Nat.reduceSub,Int.reduceLT,Int.reduceLE,Int.reduceEq,Int.reduceNe,Int.reduceSub,Int.reduceAdd,Int.reduceMul,Int.reduceBEq,Int.reduceBNe,Int.reduceGT,Int.reduceGE,Nat.reduceGT,Int.reduceToNat,Int.reduceNeg,Nat.reduceLeDiff,Nat.reduceBEq,Nat.reduceBneDiff,Value.cells]
  rw [List.length_replicate]
  have n42 := (Heap.set_none.1 hb4).1
  have hb4' := (Heap.set_none.1 hb4).2
  have bd1 : bnds 32 32 none (some (some (.int .i64 16))) none = some (0, 16, 32) := bnds_hi (by omega) (by omega)
  have le0 : h.le ((h.set b2 (.own 0 (w.map u8V) 32)).set b4 (.own 0 (List.replicate 16 (.int .u8 0)) 16)) := Heap.le_set (Heap.le_set (Heap.le_refl _) hb2 _) hb4' _
  have q2 : ((h.set b2 (.own 0 (w.map u8V) 32)).set b4 (.own 0 (List.replicate 16 (.int .u8 0)) 16)) b2 = some (.own 0 (w.map u8V) 32) := by rw [Heap.set_ne (Ne.symm n42), Heap.set_self]
  have q4 : ((h.set b2 (.own 0 (w.map u8V) 32)).set b4 (.own 0 (List.replicate 16 (.int .u8 0)) 16)) b4 = some (.own 0 (List.replicate 16 (.int .u8 0)) 16) := Heap.set_self _ _ _
  generalize ((h.set b2 (.own 0 (w.map u8V) 32)).set b4 (.own 0 (List.replicate 16 (.int .u8 0)) 16)) = h1 at le0 q2 q4 ⊢
  have c16 : hcells h1 ⟨b2, 0, none⟩ 16 = some (row8 (fun j => w.getD j 0) 16) := by
    rw [hcells_at q2 (by simp [hw]), List.drop_zero, ← List.map_take, ← row8_list]
    have : (w.take 16).length = 16 := by simp [hw]
    rw [this]
    congr 1
    apply row8_congr
    intro k hk
    simp [List.getElem?_take, hk]
  simp -implicitDefEqProofs only [zB1,zB2,zB3,zB4,zB5,zB6,zB7,zB8,zB9,zB10,zB11,y00,y01,y02,y03,y04,y05,y06,y07,y08,y09,y0a,y0b,y0c,y0d,y0e,y0f,y0g,y0h,y0i,y0j,y0k,y0l,y0m,y0n,y0o,y0p,y0q,y0r,y0s,y0t,y0u,y0v,y0w,y0x,y0y,y0z,y10,y11,y12,y13,y14,y15,y16,y17,y18,y19,y1a,y1b,y1c,y1d,y1e,y1f,y1g,y1h,y1i,y1j,y1k,y1l,y1m,y1n,y1o,y1p,y1q,y1r,retO,retL,retV,z69,allV,allP,z6a,z6d,z6e,z6k,z6l,z6m,binV,eqV,unV,oOpt,reduceIte,reduceCtorEq,Nat.reduceEqDiff,Nat.reduceAdd,Nat.reduceMul,Nat.reduceLT,Nat.reduceSub,Int.reduceLT,Int.reduceLE,Int.reduceEq,Int.reduceNe,Int.reduceSub,Int.reduceAdd,Int.reduceMul,Int.reduceBEq,Int.reduceBNe,Int.reduceGT,Int.reduceGE,Nat.reduceGT,Int.reduceToNat,Int.reduceNeg,Nat.reduceLeDiff,Nat.reduceBEq,Nat.reduceBneDiff,Value.cells, bd1, Nat.sub_zero, addz, c16]
  refine (poly_Clamp_c E h1 _).mono ?_
  rintro r h2 ⟨le2, rfl⟩
  have eR : row8 (clampG fun j => w.getD j 0) 16 = (rowL (keyR w) 16).map u8V := (rowL_map _ _).symm
  rw [eR]
  have hk0 : keyK w 0 = (fromLittleF ((rowL (keyR w) 16).take 8)).toNat := rfl
  have hk1 : keyK w 1 = (fromLittleF (((rowL (keyR w) 16).drop 8).take 8)).toNat := rfl
  have hR := rowL_len (keyR w) 16
  generalize rowL (keyR w) 16 = R at hk0 hk1 hR ⊢
  simp -implicitDefEqProofs only [zB1,zB2,zB3,zB4,zB5,zB6,zB7,zB8,zB9,zB10,zB11,y00,y01,y02,y03,y04,y05,y06,y07,y08,y09,y0a,y0b,y0c,y0d,y0e,y0f,y0g,y0h,y0i,y0j,y0k,y0l,y0m,y0n,y0o,y0p,y0q,y0r,y0s,y0t,y0u,y0v,y0w,y0x,y0y,y0z,y10,y11,y12,y13,y14,y15,y16,y17,y18,y19,y1a,y1b,y1c,y1d,y1e,y1f,y1g,y1h,y1i,y1j,y1k,y1l,y1m,y1n,y1o,y1p,y1q,y1r,retO,retL,retV,z69,allV,allP,z6a,z6d,z6e,z6k,z6l,z6m,binV,eqV,unV,oOpt,reduceIte,reduceCtorEq,Nat.reduceEqDiff,Nat.reduceAdd,Nat.reduceMul,Nat.reduceLT,Nat.reduceSub,Int.reduceLT,Int.reduceLE,Int.reduceEq,Int.reduceNe,Int.reduceSub,Int.reduceAdd,Int.reduceMul,Int.reduceBEq,Int.reduceBNe,Int.reduceGT,Int.reduceGE,Nat.reduceGT,Int.reduceToNat,Int.reduceNeg,Nat.reduceLeDiff,Nat.reduceBEq,Nat.reduceBneDiff,Value.cells]
  intro b5 hb5
  rw [List.length_replicate]
  have st5 : storeV (h2.set b5 (.own 0 (List.replicate 16 (.int .u8 0)) 16)) 16 (.pointer (some ⟨b5, 0, none⟩)) (.agg (R.map u8V).toArray) = some (h2.set b5 (.own 0 (R.map u8V) 16)) := z6q (by omega) (by simp [hR]) (one_u8 _) (by simp) (by omega)
  have bd2 : bnds 16 16 none (some (some (.int .i64 8))) none = some (0, 8, 16) := bnds_hi (by omega) (by omega)
  have bd3 : bnds 16 16 (some (some (.int .i64 8))) none none = some (8, 16, 16) := bnds_lo (by omega) (by omega)
  have q25 := le2 _ _ q2
  have q45 := le2 _ _ q4
  have n52 := ne_of_none hb5 q25
  have n54 := ne_of_none hb5 q45
  have le3 : h.le (h2.set b5 (.own 0 (R.map u8V) 16)) := Heap.le_new (Heap.le_trans le0 le2) hb5 _
  have r5 := own_sl (l := R) (sz := 16) (H := h2.set b5 (.own 0 (R.map u8V) 16)) (Heap.set_self _ _ _)
  have r2 : (h2.set b5 (.own 0 (R.map u8V) 16)) b2 = some (.own 0 (w.map u8V) 32) := by rw [Heap.set_ne n52]; exact q25
  have r4 : (h2.set b5 (.own 0 (R.map u8V) 16)) b4 = some (.own 0 (List.replicate 16 (.int .u8 0)) 16) := by rw [Heap.set_ne n54]; exact q45
  have ea : (Addr.add ⟨b5, 0, none⟩ 8 : Addr) = ⟨b5, 8, none⟩ := by rw [add_off', Nat.zero_add]
  simp -implicitDefEqProofs only [zB1,zB2,zB3,zB4,zB5,zB6,zB7,zB8,zB9,zB10,zB11,y00,y01,y02,y03,y04,y05,y06,y07,y08,y09,y0a,y0b,y0c,y0d,y0e,y0f,y0g,y0h,y0i,y0j,y0k,y0l,y0m,y0n,y0o,y0p,y0q,y0r,y0s,y0t,y0u,y0v,y0w,y0x,y0y,y0z,y10,y11,y12,y13,y14,y15,y16,y17,y18,y19,y1a,y1b,y1c,y1d,y1e,y1f,y1g,y1h,y1i,y1j,y1k,y1l,y1m,y1n,y1o,y1p,y1q,y1r,retO,retL,retV,z69,allV,allP,z6a,z6d,z6e,z6k,z6l,z6m,binV,eqV,unV,oOpt,reduceIte,reduceCtorEq,Nat.reduceEqDiff,Nat.reduceAdd,Nat.reduceMul,Nat.reduceLT,Nat.reduceSub,Int.reduceLT,Int.reduceLE,Int.reduceEq,Int.reduceNe,Int.reduceSub,Int.reduceAdd,Int.reduceMul,Int.reduceBEq,Int.reduceBNe,Int.reduceGT,Int.reduceGE,Nat.reduceGT,Int.reduceToNat,Int.reduceNeg,Nat.reduceLeDiff,Nat.reduceBEq,Nat.reduceBneDiff,Value.cells, st5, bd2, Nat.sub_zero, addz]
  generalize (h2.set b5 (.own 0 (R.map u8V) 16)) = h3 at le3 r5 r2 r4 ⊢
  have s51 := Sl.headB r5 (m := 8) (by omega)
  rw [hR] at s51
  refine (poly_word_c E h3 (R.take 8) (by simp; omega) s51).mono ?_
  rintro r h4 ⟨le4, rfl⟩
  simp -implicitDefEqProofs only [zB1,zB2,zB3,zB4,zB5,zB6,zB7,zB8,zB9,zB10,zB11,y00,y01,y02,y03,y04,y05,y06,y07,y08,y09,y0a,y0b,y0c,y0d,y0e,y0f,y0g,y0h,y0i,y0j,y0k,y0l,y0m,y0n,y0o,y0p,y0q,y0r,y0s,y0t,y0u,y0v,y0w,y0x,y0y,y0z,y10,y11,y12,y13,y14,y15,y16,y17,y18,y19,y1a,y1b,y1c,y1d,y1e,y1f,y1g,y1h,y1i,y1j,y1k,y1l,y1m,y1n,y1o,y1p,y1q,y1r,retO,retL,retV,z69,allV,allP,z6a,z6d,z6e,z6k,z6l,z6m,binV,eqV,unV,oOpt,reduceIte,reduceCtorEq,Nat.reduceEqDiff,Nat.reduceAdd,Nat.reduceMul,Nat.reduceLT,Nat.reduceSub,Int.reduceLT,Int.reduceLE,Int.reduceEq,Int.reduceNe,Int.reduceSub,Int.reduceAdd,Int.reduceMul,Int.reduceBEq,Int.reduceBNe,Int.reduceGT,Int.reduceGE,Nat.reduceGT,Int.reduceToNat,Int.reduceNeg,Nat.reduceLeDiff,Nat.reduceBEq,Nat.reduceBneDiff,Value.cells, bd3, addz, ea, implies_true, List.mem_singleton, forall_eq]
  have s52 : SlB h4 (.slice (some ⟨b5, 8, none⟩) 8 8) ((R.drop 8).take 8) := by
    have := Sl.midB (a := 8) (b := 16) (by rw [hR] at r5; rw [hR]; exact r5) (by omega) (by omega)
    rw [if_neg (by omega), Option.map_some, ea] at this
    exact Sl.le le4 this
  refine (poly_word_c E h4 ((R.drop 8).take 8) (by simp; omega) s52).mono ?_
  rintro r h5 ⟨le5, rfl⟩
  unfold u64V
  rw [← hk0, ← hk1]
  have lk0 : keyK w 0 < 18446744073709551616 := BitVec.isLt _
  have lk1 : keyK w 1 < 18446744073709551616 := BitVec.isLt _
  generalize hKK0 : keyK w 0 = k0 at *
  generalize hKK1 : keyK w 1 = k1 at *
  simp -implicitDefEqProofs only [zB1,zB2,zB3,zB4,zB5,zB6,zB7,zB8,zB9,zB10,zB11,y00,y01,y02,y03,y04,y05,y06,y07,y08,y09,y0a,y0b,y0c,y0d,y0e,y0f,y0g,y0h,y0i,y0j,y0k,y0l,y0m,y0n,y0o,y0p,y0q,y0r,y0s,y0t,y0u,y0v,y0w,y0x,y0y,y0z,y10,y11,y12,y13,y14,y15,y16,y17,y18,y19,y1a,y1b,y1c,y1d,y1e,y1f,y1g,y1h,y1i,y1j,y1k,y1l,y1m,y1n,y1o,y1p,y1q,y1r,retO,retL,retV,z69,allV,allP,z6a,z6d,z6e,z6k,z6l,z6m,binV,eqV,unV,oOpt,reduceIte,reduceCtorEq,Nat.reduceEqDiff,Nat.reduceAdd,Nat.reduceMul,Nat.reduceLT,Nat.reduceSub,Int.reduceLT,Int.reduceLE,Int.reduceEq,Int.reduceNe,Int.reduceSub,Int.reduceAdd,Int.reduceMul,Int.reduceBEq,Int.reduceBNe,Int.reduceGT,Int.reduceGE,Nat.reduceGT,Int.reduceToNat,Int.reduceNeg,Nat.reduceLeDiff,Nat.reduceBEq,Nat.reduceBneDiff,Value.cells, implies_true]
  intro b6 hb6 b7 hb7
  have le35 := Heap.le_trans le4 le5
  have r25 := le35 _ _ r2
  have r45 := le35 _ _ r4
  have n62 := ne_of_none hb6 r25
  have n64 := ne_of_none hb6 r45
  have n76 := (Heap.set_none.1 hb7).1
  have hb7' := (Heap.set_none.1 hb7).2
  have n72 := ne_of_none hb7' r25
  have n74 := ne_of_none hb7' r45
  have le6 : h.le ((h5.set b6 (.own 0 [.int .u64 (k0 : Int), .int .u64 (k1 : Int)] 2)).set b7 (.own 0 [.int .u64 0, .int .u64 0, .int .u64 0] 3)) := by
    have a := Heap.le_trans le3 le35
    exact Heap.le_set (Heap.le_set a (Heap.none_of_le a hb6) _) (Heap.none_of_le a hb7') _
  have t2 : ((h5.set b6 (.own 0 [.int .u64 (k0 : Int), .int .u64 (k1 : Int)] 2)).set b7 (.own 0 [.int .u64 0, .int .u64 0, .int .u64 0] 3)) b2 = some (.own 0 (w.map u8V) 32) := by rw [Heap.set_ne n72, Heap.set_ne n62]; exact r25
  have t4 : ((h5.set b6 (.own 0 [.int .u64 (k0 : Int), .int .u64 (k1 : Int)] 2)).set b7 (.own 0 [.int .u64 0, .int .u64 0, .int .u64 0] 3)) b4 = some (.own 0 (List.replicate 16 (.int .u8 0)) 16) := by rw [Heap.set_ne n74, Heap.set_ne n64]; exact r45
  have t6 : ((h5.set b6 (.own 0 [.int .u64 (k0 : Int), .int .u64 (k1 : Int)] 2)).set b7 (.own 0 [.int .u64 0, .int .u64 0, .int .u64 0] 3)) b6 = some (.own 0 [.int .u64 (k0 : Int), .int .u64 (k1 : Int)] 2) := by rw [Heap.set_ne (Ne.symm n76), Heap.set_self]
  have t7 : ((h5.set b6 (.own 0 [.int .u64 (k0 : Int), .int .u64 (k1 : Int)] 2)).set b7 (.own 0 [.int .u64 0, .int .u64 0, .int .u64 0] 3)) b7 = some (.own 0 z3.cells 3) := Heap.set_self _ _ _
  have hb7h : h b7 = none := Heap.none_of_le (Heap.le_trans le3 le35) hb7'
  generalize ((h5.set b6 (.own 0 [.int .u64 (k0 : Int), .int .u64 (k1 : Int)] 2)).set b7 (.own 0 [.int .u64 0, .int .u64 0, .int .u64 0] 3)) = h6 at le6 t2 t4 t6 t7 ⊢
  refine (Concat_c E h6 L hl ht (s.le le6)).mono ?_
  rintro v8 h7 ⟨le7, ow8⟩
  have s8 := ow8.sl
  obtain ⟨b8, c8, rfl⟩ := Sl.shape s8
  have hall := Nat.le_refl L.flatten.length
  have u2 := le7 _ _ t2
  have u4 := le7 _ _ t4
  have u6 := le7 _ _ t6
  have u7 := le7 _ _ t7
  have leh7 := Heap.le_trans le6 le7
  simp -implicitDefEqProofs only [zB1,zB2,zB3,zB4,zB5,zB6,zB7,zB8,zB9,zB10,zB11,y00,y01,y02,y03,y04,y05,y06,y07,y08,y09,y0a,y0b,y0c,y0d,y0e,y0f,y0g,y0h,y0i,y0j,y0k,y0l,y0m,y0n,y0o,y0p,y0q,y0r,y0s,y0t,y0u,y0v,y0w,y0x,y0y,y0z,y10,y11,y12,y13,y14,y15,y16,y17,y18,y19,y1a,y1b,y1c,y1d,y1e,y1f,y1g,y1h,y1i,y1j,y1k,y1l,y1m,y1n,y1o,y1p,y1q,y1r,retO,retL,retV,z69,allV,allP,z6a,z6d,z6e,z6k,z6l,z6m,binV,eqV,unV,oOpt,reduceIte,reduceCtorEq,Nat.reduceEqDiff,Nat.reduceAdd,Nat.reduceMul,Nat.reduceLT,Nat.reduceSub,Int.reduceLT,Int.reduceLE,Int.reduceEq,Int.reduceNe,Int.reduceSub,Int.reduceAdd,Int.reduceMul,Int.reduceBEq,Int.reduceBNe,Int.reduceGT,Int.reduceGE,Nat.reduceGT,Int.reduceToNat,Int.reduceNeg,Nat.reduceLeDiff,Nat.reduceBEq,Nat.reduceBneDiff,Value.cells]
  refine wp_loop' (fun m t H => h6.le (H.set b7 (.own 0 z3.cells 3)) ∧ h.le H ∧ ∃ (l : List UInt8) (v8 : Value) (S : N3), t = tl [(2, .pointer (some ⟨b2, 0, none⟩)), (4, .pointer (some ⟨b4, 0, none⟩)), (6, .pointer (some ⟨b6, 0, none⟩)), (7, .pointer (some ⟨b7, 0, none⟩)), (8, v8)] ∧ m = l.length ∧ l.length ≤ 100000000 ∧
      H b7 = some (.own 0 S.cells 3) ∧ S.ok ∧ (∀ X, SlB (H.set b7 X) v8 l) ∧ tagSum k0 k1 S l = tagSum k0 k1 z3 L.flatten) L.flatten.length
    ⟨by rw [Heap.set_same u7]; exact le7, leh7, L.flatten, _, z3, rfl, rfl, by omega, u7, z3_ok, fun X => ow8.apart t7, rfl⟩ ?_
  clear u2 u4 u6 u7 s8 ow8 leh7 le7
  rintro m t H ⟨le6H, leH, l, v8, S, rfl, rfl, hl8, q7, okS, sl, hsum⟩
  have s8 := sl (.own 0 S.cells 3)
  rw [Heap.set_same q7] at s8
  obtain ⟨b8, c8, rfl⟩ := Sl.shape s8
  have at6 : ∀ b X, b ≠ b7 → h6 b = some X → H b = some X := fun b X hne hx => by
    have := le6H b X hx
    rwa [Heap.set_ne hne] at this
  have p6 := at6 b6 _ (Ne.symm n76) t6
  have p2 := at6 b2 _ n72 t2
  have p4 := at6 b4 _ n74 t4
  by_cases hlt : 0 < l.length
  · have g0 : (0 : Int) < l.length := by omega
    obtain ⟨N, hN⟩ : ∃ N, N = (l.take 16).length := ⟨_, rfl⟩
    have hN2 : N ≤ 16 ∧ N ≤ l.length ∧ 0 < N := by rw [hN, List.length_take]; omega
    have hmn : (if (16 : Int) < (l.length : Int) then (16 : Int) else (l.length : Int)) = (N : Int) := by
      rw [hN, List.length_take]
      split <;> omega
    have hc8 : l.length ≤ c8 := by
      rcases s8 with ⟨e, hz, _⟩ | ⟨_, _, e, hc, _⟩
      · omega
      · simp only [Value.slice.injEq] at e; omega
    have bdN : bnds l.length c8 none (some (some (.int .i64 (N : Int)))) none = some (0, N, c8) := by rw [bnds_hi (by omega) (by omega), Int.toNat_natCast]
    simp -implicitDefEqProofs only [zB1,zB2,zB3,zB4,zB5,zB6,zB7,zB8,zB9,zB10,zB11,y00,y01,y02,y03,y04,y05,y06,y07,y08,y09,y0a,y0b,y0c,y0d,y0e,y0f,y0g,y0h,y0i,y0j,y0k,y0l,y0m,y0n,y0o,y0p,y0q,y0r,y0s,y0t,y0u,y0v,y0w,y0x,y0y,y0z,y10,y11,y12,y13,y14,y15,y16,y17,y18,y19,y1a,y1b,y1c,y1d,y1e,y1f,y1g,y1h,y1i,y1j,y1k,y1l,y1m,y1n,y1o,y1p,y1q,y1r,retO,retL,retV,z69,allV,allP,z6a,z6d,z6e,z6k,z6l,z6m,binV,eqV,unV,oOpt,reduceIte,reduceCtorEq,Nat.reduceEqDiff,Nat.reduceAdd,Nat.reduceMul,Nat.reduceLT,Nat.reduceSub,Int.reduceLT,Int.reduceLE,Int.reduceEq,Int.reduceNe,Int.reduceSub,Int.reduceAdd,Int.reduceMul,Int.reduceBEq,Int.reduceBNe,Int.reduceGT,Int.reduceGE,Nat.reduceGT,Int.reduceToNat,Int.reduceNeg,Nat.reduceLeDiff,Nat.reduceBEq,Nat.reduceBneDiff,Value.cells, g0, hmn, bdN]
    rw [addO b8 c8 (fun a _ => addr_add0 a), Nat.sub_zero]
    have st := Sl.headB s8 (m := N) (by omega)
    have eT : l.take N = l.take 16 := by
      rw [hN, List.length_take]
      by_cases c : 16 ≤ l.length
      · rw [Nat.min_eq_left c]
      · rw [Nat.min_eq_right (by omega), List.take_of_length_le (Nat.le_refl _), List.take_of_length_le (by omega)]
    rw [eT] at st
    refine (Clone_c E H (l.take 16) (by omega) (by unfold SlB; rw [← hN]; unfold SlB at st; rw [← hN] at st; exact st)).mono ?_
    rintro v9 h8 ⟨le8, ow9⟩
    simp -implicitDefEqProofs only [zB1,zB2,zB3,zB4,zB5,zB6,zB7,zB8,zB9,zB10,zB11,y00,y01,y02,y03,y04,y05,y06,y07,y08,y09,y0a,y0b,y0c,y0d,y0e,y0f,y0g,y0h,y0i,y0j,y0k,y0l,y0m,y0n,y0o,y0p,y0q,y0r,y0s,y0t,y0u,y0v,y0w,y0x,y0y,y0z,y10,y11,y12,y13,y14,y15,y16,y17,y18,y19,y1a,y1b,y1c,y1d,y1e,y1f,y1g,y1h,y1i,y1j,y1k,y1l,y1m,y1n,y1o,y1p,y1q,y1r,retO,retL,retV,z69,allV,allP,z6a,z6d,z6e,z6k,z6l,z6m,binV,eqV,unV,oOpt,reduceIte,reduceCtorEq,Nat.reduceEqDiff,Nat.reduceAdd,Nat.reduceMul,Nat.reduceLT,Nat.reduceSub,Int.reduceLT,Int.reduceLE,Int.reduceEq,Int.reduceNe,Int.reduceSub,Int.reduceAdd,Int.reduceMul,Int.reduceBEq,Int.reduceBNe,Int.reduceGT,Int.reduceGE,Nat.reduceGT,Int.reduceToNat,Int.reduceNeg,Nat.reduceLeDiff,Nat.reduceBEq,Nat.reduceBneDiff,Value.cells]
    intro bO hbO
    try simp -implicitDefEqProofs only [zB1,zB2,zB3,zB4,zB5,zB6,zB7,zB8,zB9,zB10,zB11,y00,y01,y02,y03,y04,y05,y06,y07,y08,y09,y0a,y0b,y0c,y0d,y0e,y0f,y0g,y0h,y0i,y0j,y0k,y0l,y0m,y0n,y0o,y0p,y0q,y0r,y0s,y0t,y0u,y0v,y0w,y0x,y0y,y0z,y10,y11,y12,y13,y14,y15,y16,y17,y18,y19,y1a,y1b,y1c,y1d,y1e,y1f,y1g,y1h,y1i,y1j,y1k,y1l,y1m,y1n,y1o,y1p,y1q,y1r,retO,retL,retV,z69,allV,allP,z6a,z6d,z6e,z6k,z6l,z6m,binV,eqV,unV,oOpt,reduceIte,reduceCtorEq,Nat.reduceEqDiff,Nat.reduceAdd,Nat.reduceMul,Nat.reduceLT,Nat.reduceSub,Int.reduceLT,Int.reduceLE,Int.reduceEq,Int.reduceNe,Int.reduceSub,Int.reduceAdd,Int.reduceMul,Int.reduceBEq,Int.reduceBNe,Int.reduceGT,Int.reduceGE,Nat.reduceGT,Int.reduceToNat,Int.reduceNeg,Nat.reduceLeDiff,Nat.reduceBEq,Nat.reduceBneDiff,Value.cells]
    refine appendP_ow (bytes := 1) (m := 1) (news := [.int .u8 1]) (Heap.le_new le8 hbO _) (by omega) (ow9.le (Heap.le_set (Heap.le_refl _) hbO _)) (Sl.lit (n := 1) rfl) rfl (by omega) (by omega) ?_
    intro v10 h9 ow10 le9
    have w32 : IntKind.i64.wrap (32 - (N : Int)) = ((32 - N : Nat) : Int) := by rw [wrapI (by omega) (by omega)]; omega
    simp -implicitDefEqProofs only [zB1,zB2,zB3,zB4,zB5,zB6,zB7,zB8,zB9,zB10,zB11,y00,y01,y02,y03,y04,y05,y06,y07,y08,y09,y0a,y0b,y0c,y0d,y0e,y0f,y0g,y0h,y0i,y0j,y0k,y0l,y0m,y0n,y0o,y0p,y0q,y0r,y0s,y0t,y0u,y0v,y0w,y0x,y0y,y0z,y10,y11,y12,y13,y14,y15,y16,y17,y18,y19,y1a,y1b,y1c,y1d,y1e,y1f,y1g,y1h,y1i,y1j,y1k,y1l,y1m,y1n,y1o,y1p,y1q,y1r,retO,retL,retV,z69,allV,allP,z6a,z6d,z6e,z6k,z6l,z6m,binV,eqV,unV,oOpt,reduceIte,reduceCtorEq,Nat.reduceEqDiff,Nat.reduceAdd,Nat.reduceMul,Nat.reduceLT,Nat.reduceSub,Int.reduceLT,Int.reduceLE,Int.reduceEq,Int.reduceNe,Int.reduceSub,Int.reduceAdd,Int.reduceMul,Int.reduceBEq,Int.reduceBNe,Int.reduceGT,Int.reduceGE,Nat.reduceGT,Int.reduceToNat,Int.reduceNeg,Nat.reduceLeDiff,Nat.reduceBEq,Nat.reduceBneDiff,Value.cells, w32]
    refine appendZP_ow (m := 32 - N) le9 (by omega) ow10 rfl rfl (by omega) (by omega) ?_
    intro v11 h10 ow11 le10
    have eB : (l.take 16).map u8V ++ [Value.int .u8 1] ++ (List.replicate (32 - N) [Value.int .u8 0]).flatten = (blockB l).map u8V := by
      unfold blockB
      rw [← hN, List.flatten_replicate_singleton]
      simp only [List.map_append, List.map_replicate]
      rfl
    have lB : (blockB l).length = 33 := by unfold blockB; rw [← hN]; simp only [List.length_append, List.length_replicate, ← hN, List.length_cons, List.length_nil]; omega
    rw [eB] at ow11
    have e33 : (l.take 16).length + 1 + (32 - N) = 33 := by omega
    rw [e33] at ow11
    have sB : SlB h10 v11 (blockB l) := by unfold SlB; rw [lB]; exact ow11.sl
    have hbl : blockN l = ⟨(fromLittleF ((blockB l).take 8)).toNat, (fromLittleF (((blockB l).drop 8).take 8)).toNat, ((blockB l).getD 16 0).toNat⟩ := rfl
    have hts := tagSum_more (k0 := k0) (k1 := k1) (s := S) hlt
    rw [hbl] at hts
    generalize blockB l = B at *
    obtain ⟨b11, c11, rfl⟩ := Sl.shape sB
    have hc11 : B.length ≤ c11 := by
      rcases sB with ⟨e, hz, _⟩ | ⟨_, _, e, hc, _⟩
      · omega
      · simp only [Value.slice.injEq] at e; omega
    obtain ⟨bb, oo, c', hv, _, hat⟩ := Sl.byte_at sB 16 (by omega)
    simp only [Value.slice.injEq, true_and] at hv
    obtain ⟨rfl, rfl⟩ := hv
    have bd8 : bnds B.length c11 none (some (some (.int .i64 8))) none = some (0, 8, c11) := bnds_hi (by omega) (by omega)
    have bd816 : bnds B.length c11 (some (some (.int .i64 8))) (some (some (.int .i64 16))) none = some (8, 16, c11) := bnds_both (by omega) (by omega) (by omega)
    have y7 : ∀ H', h10.le H' → hcells H' ⟨b7, 0, none⟩ 3 = some S.cells := fun H' x => by rw [hcells_at (x _ _ (le10 _ _ q7)) (by simp [N3.cells])]; rfl
    have y6 : ∀ H', h10.le H' → hcells H' ⟨b6, 0, none⟩ 2 = some [.int .u64 (k0 : Int), .int .u64 (k1 : Int)] := fun H' x => by rw [hcells_at (x _ _ (le10 _ _ p6)) (by simp)]; rfl
    have y16 : ∀ H', h10.le H' → hcell H' ⟨bb, oo + 16, none⟩ = some (.int .u8 ((B.getD 16 0).toNat : Int)) := fun H' x => by
      rw [hat H' x]
      have : B.getD 16 0 = B[16]'(by omega) := by simp [List.getD_eq_getElem?_getD, List.getElem?_eq_getElem (show 16 < B.length by omega)]
      rw [this]; rfl
    have sB8 := Sl.headB sB (m := 8) (by omega)
    have g16 : (16 : Int) < B.length := by omega
    simp -implicitDefEqProofs only [zB1,zB2,zB3,zB4,zB5,zB6,zB7,zB8,zB9,zB10,zB11,y00,y01,y02,y03,y04,y05,y06,y07,y08,y09,y0a,y0b,y0c,y0d,y0e,y0f,y0g,y0h,y0i,y0j,y0k,y0l,y0m,y0n,y0o,y0p,y0q,y0r,y0s,y0t,y0u,y0v,y0w,y0x,y0y,y0z,y10,y11,y12,y13,y14,y15,y16,y17,y18,y19,y1a,y1b,y1c,y1d,y1e,y1f,y1g,y1h,y1i,y1j,y1k,y1l,y1m,y1n,y1o,y1p,y1q,y1r,retO,retL,retV,z69,allV,allP,z6a,z6d,z6e,z6k,z6l,z6m,binV,eqV,unV,oOpt,reduceIte,reduceCtorEq,Nat.reduceEqDiff,Nat.reduceAdd,Nat.reduceMul,Nat.reduceLT,Nat.reduceSub,Int.reduceLT,Int.reduceLE,Int.reduceEq,Int.reduceNe,Int.reduceSub,Int.reduceAdd,Int.reduceMul,Int.reduceBEq,Int.reduceBNe,Int.reduceGT,Int.reduceGE,Nat.reduceGT,Int.reduceToNat,Int.reduceNeg,Nat.reduceLeDiff,Nat.reduceBEq,Nat.reduceBneDiff,Value.cells, bd8, Nat.sub_zero, addz, ite_self]
    refine (poly_word_c E h10 (B.take 8) (by simp; omega) (by unfold SlB; unfold SlB at sB8; have : (B.take 8).length = 8 := (by simp; omega); rw [this] at sB8 ⊢; exact sB8)).mono ?_
    rintro r h11 ⟨le11, rfl⟩
    have sM := Sl.le le11 (Sl.midB sB (a := 8) (b := 16) (by omega) (by omega))
    have a1 := y7 h10 (Heap.le_refl _)
    have a2 := y7 h11 le11
    simp -implicitDefEqProofs only [zB1,zB2,zB3,zB4,zB5,zB6,zB7,zB8,zB9,zB10,zB11,y00,y01,y02,y03,y04,y05,y06,y07,y08,y09,y0a,y0b,y0c,y0d,y0e,y0f,y0g,y0h,y0i,y0j,y0k,y0l,y0m,y0n,y0o,y0p,y0q,y0r,y0s,y0t,y0u,y0v,y0w,y0x,y0y,y0z,y10,y11,y12,y13,y14,y15,y16,y17,y18,y19,y1a,y1b,y1c,y1d,y1e,y1f,y1g,y1h,y1i,y1j,y1k,y1l,y1m,y1n,y1o,y1p,y1q,y1r,retO,retL,retV,z69,allV,allP,z6a,z6d,z6e,z6k,z6l,z6m,binV,eqV,unV,oOpt,reduceIte,reduceCtorEq,Nat.reduceEqDiff,Nat.reduceAdd,Nat.reduceMul,Nat.reduceLT,Nat.reduceSub,Int.reduceLT,Int.reduceLE,Int.reduceEq,Int.reduceNe,Int.reduceSub,Int.reduceAdd,Int.reduceMul,Int.reduceBEq,Int.reduceBNe,Int.reduceGT,Int.reduceGE,Nat.reduceGT,Int.reduceToNat,Int.reduceNeg,Nat.reduceLeDiff,Nat.reduceBEq,Nat.reduceBneDiff,Value.cells, bd816, a1, a2, implies_true, List.mem_singleton, forall_eq]
    refine (poly_word_c E h11 ((B.drop 8).take 8) (by simp; omega) sM).mono ?_
    rintro r h12 ⟨le12, rfl⟩
    have le1012 := Heap.le_trans le11 le12
    have a3 := y7 h12 le1012
    have b1' := y16 h10 (Heap.le_refl _)
    have b2' := y16 h11 le11
    have b3' := y16 h12 le1012
    have g16' : (16 : Int) < (B.length : Int) := g16
    have wz : IntKind.u64.wrap ((B.getD 16 0).toNat : Int) = ((B.getD 16 0).toNat : Int) := wrap_u64n (by have := (B.getD 16 0).toNat_lt; omega)
    have eS : Value.agg S.cells.toArray = S.V := rfl
    simp -implicitDefEqProofs only [zB1,zB2,zB3,zB4,zB5,zB6,zB7,zB8,zB9,zB10,zB11,y00,y01,y02,y03,y04,y05,y06,y07,y08,y09,y0a,y0b,y0c,y0d,y0e,y0f,y0g,y0h,y0i,y0j,y0k,y0l,y0m,y0n,y0o,y0p,y0q,y0r,y0s,y0t,y0u,y0v,y0w,y0x,y0y,y0z,y10,y11,y12,y13,y14,y15,y16,y17,y18,y19,y1a,y1b,y1c,y1d,y1e,y1f,y1g,y1h,y1i,y1j,y1k,y1l,y1m,y1n,y1o,y1p,y1q,y1r,retO,retL,retV,z69,allV,allP,z6a,z6d,z6e,z6k,z6l,z6m,binV,eqV,unV,oOpt,reduceIte,reduceCtorEq,Nat.reduceEqDiff,Nat.reduceAdd,Nat.reduceMul,Nat.reduceLT,Nat.reduceSub,Int.reduceLT,Int.reduceLE,Int.reduceEq,Int.reduceNe,Int.reduceSub,Int.reduceAdd,Int.reduceMul,Int.reduceBEq,Int.reduceBNe,Int.reduceGT,Int.reduceGE,Nat.reduceGT,Int.reduceToNat,Int.reduceNeg,Nat.reduceLeDiff,Nat.reduceBEq,Nat.reduceBneDiff,Value.cells, u64V, a1, a2, a3, b1', b2', b3', g16', wz, eS, implies_true, List.mem_singleton, forall_eq, List.mem_cons, forall_eq_or_imp, List.not_mem_nil]
    generalize hM : (⟨(fromLittleF (B.take 8)).toNat, (fromLittleF ((B.drop 8).take 8)).toNat, (B.getD 16 0).toNat⟩ : N3) = M at *
    have okM : M.ok := by rw [← hM]; exact ⟨BitVec.isLt _, BitVec.isLt _, by have := (B.getD 16 0).toNat_lt; simp only; omega⟩
    have eM : Value.agg #[.int .u64 ((fromLittleF (B.take 8)).toNat : Int), .int .u64 ((fromLittleF ((B.drop 8).take 8)).toNat : Int), .int .u64 ((B.getD 16 0).toNat : Int)] = M.V := by rw [← hM]; rfl
    rw [eM]
    refine (num_plus_c E h12 S M okS okM).mono ?_
    rintro r h13 ⟨le13, rfl⟩
    have le1013 := Heap.le_trans le1012 le13
    have d0 := y6 h10 (Heap.le_refl _)
    have d1 := y6 h11 le11
    have d2 := y6 h12 le1012
    have d3 := y6 h13 le1013
    simp -implicitDefEqProofs only [zB1,zB2,zB3,zB4,zB5,zB6,zB7,zB8,zB9,zB10,zB11,y00,y01,y02,y03,y04,y05,y06,y07,y08,y09,y0a,y0b,y0c,y0d,y0e,y0f,y0g,y0h,y0i,y0j,y0k,y0l,y0m,y0n,y0o,y0p,y0q,y0r,y0s,y0t,y0u,y0v,y0w,y0x,y0y,y0z,y10,y11,y12,y13,y14,y15,y16,y17,y18,y19,y1a,y1b,y1c,y1d,y1e,y1f,y1g,y1h,y1i,y1j,y1k,y1l,y1m,y1n,y1o,y1p,y1q,y1r,retO,retL,retV,z69,allV,allP,z6a,z6d,z6e,z6k,z6l,z6m,binV,eqV,unV,oOpt,reduceIte,reduceCtorEq,Nat.reduceEqDiff,Nat.reduceAdd,Nat.reduceMul,Nat.reduceLT,Nat.reduceSub,Int.reduceLT,Int.reduceLE,Int.reduceEq,Int.reduceNe,Int.reduceSub,Int.reduceAdd,Int.reduceMul,Int.reduceBEq,Int.reduceBNe,Int.reduceGT,Int.reduceGE,Nat.reduceGT,Int.reduceToNat,Int.reduceNeg,Nat.reduceLeDiff,Nat.reduceBEq,Nat.reduceBneDiff,Value.cells, d0, d1, d2, d3, implies_true, List.mem_singleton, forall_eq, List.mem_cons, forall_eq_or_imp, List.not_mem_nil]
    refine (num_times_c E h13 (S.plus M) k0 k1 (N3.plus_ok _ _) lk0 lk1).mono ?_
    rintro r h14 ⟨le14, rfl⟩
    have leH14 := Heap.le_trans le10 (Heap.le_trans le1013 le14)
    have okT : ((S.plus M).times k0 k1).ok := N3.cut_ok _
    generalize (S.plus M).times k0 k1 = T at *
    have st7 := store3 T (leH14 _ _ q7) rfl
    have bdD : bnds l.length c8 (some (some (.int .i64 (N : Int)))) none none = some (N, l.length, c8) := by rw [bnds_lo (by omega) (by omega), Int.toNat_natCast]
    simp -implicitDefEqProofs only [zB1,zB2,zB3,zB4,zB5,zB6,zB7,zB8,zB9,zB10,zB11,y00,y01,y02,y03,y04,y05,y06,y07,y08,y09,y0a,y0b,y0c,y0d,y0e,y0f,y0g,y0h,y0i,y0j,y0k,y0l,y0m,y0n,y0o,y0p,y0q,y0r,y0s,y0t,y0u,y0v,y0w,y0x,y0y,y0z,y10,y11,y12,y13,y14,y15,y16,y17,y18,y19,y1a,y1b,y1c,y1d,y1e,y1f,y1g,y1h,y1i,y1j,y1k,y1l,y1m,y1n,y1o,y1p,y1q,y1r,retO,retL,retV,z69,allV,allP,z6a,z6d,z6e,z6k,z6l,z6m,binV,eqV,unV,oOpt,reduceIte,reduceCtorEq,Nat.reduceEqDiff,Nat.reduceAdd,Nat.reduceMul,Nat.reduceLT,Nat.reduceSub,Int.reduceLT,Int.reduceLE,Int.reduceEq,Int.reduceNe,Int.reduceSub,Int.reduceAdd,Int.reduceMul,Int.reduceBEq,Int.reduceBNe,Int.reduceGT,Int.reduceGE,Nat.reduceGT,Int.reduceToNat,Int.reduceNeg,Nat.reduceLeDiff,Nat.reduceBEq,Nat.reduceBneDiff,Value.cells, st7, bdD, implies_true]
    have eD : l.drop N = l.drop 16 := by
      rw [hN, List.length_take]
      by_cases c : 16 ≤ l.length
      · rw [Nat.min_eq_left c]
      · rw [Nat.min_eq_right (by omega), List.drop_eq_nil_of_le (Nat.le_refl _), List.drop_eq_nil_of_le (by omega)]
    have lD : (l.drop 16).length = l.length - N := by rw [← eD, List.length_drop]
    refine ⟨(l.drop 16).length, by omega, fun b x hx => le_sets leH14 b7 _ b x (le6H b x hx), Heap.le_set (Heap.le_trans leH leH14) hb7h _, l.drop 16, _, T, rfl, rfl, by omega, Heap.set_self _ _ _, okT, fun X => ?_, by rw [← hts]; exact hsum⟩
    have sp := Sl.post (sl X) (k := N) (by omega)
    simp only [Nat.mul_one] at sp
    rw [← List.map_drop, eD] at sp
    unfold SlB
    rw [lD]
    exact Sl.le (le_sets leH14 b7 X) sp
  · have g0 : ¬ (0 : Int) < l.length := by omega
    rw [tagSum_done hlt] at hsum
    have l7 : hcells H ⟨b7, 0, none⟩ 3 = some S.cells := by rw [hcells_at q7 (by simp [N3.cells])]; rfl
    have eS : Value.agg S.cells.toArray = S.V := rfl
    have hT : tagN w L.flatten = S.last.plus ⟨(fromLittleF ((w.drop 16).take 8)).toNat, (fromLittleF ((w.drop 24).take 8)).toNat, 0⟩ := by
      unfold tagN; rw [hKK0, hKK1, ← hsum]
    simp -implicitDefEqProofs only [zB1,zB2,zB3,zB4,zB5,zB6,zB7,zB8,zB9,zB10,zB11,y00,y01,y02,y03,y04,y05,y06,y07,y08,y09,y0a,y0b,y0c,y0d,y0e,y0f,y0g,y0h,y0i,y0j,y0k,y0l,y0m,y0n,y0o,y0p,y0q,y0r,y0s,y0t,y0u,y0v,y0w,y0x,y0y,y0z,y10,y11,y12,y13,y14,y15,y16,y17,y18,y19,y1a,y1b,y1c,y1d,y1e,y1f,y1g,y1h,y1i,y1j,y1k,y1l,y1m,y1n,y1o,y1p,y1q,y1r,retO,retL,retV,z69,allV,allP,z6a,z6d,z6e,z6k,z6l,z6m,binV,eqV,unV,oOpt,reduceIte,reduceCtorEq,Nat.reduceEqDiff,Nat.reduceAdd,Nat.reduceMul,Nat.reduceLT,Nat.reduceSub,Int.reduceLT,Int.reduceLE,Int.reduceEq,Int.reduceNe,Int.reduceSub,Int.reduceAdd,Int.reduceMul,Int.reduceBEq,Int.reduceBNe,Int.reduceGT,Int.reduceGE,Nat.reduceGT,Int.reduceToNat,Int.reduceNeg,Nat.reduceLeDiff,Nat.reduceBEq,Nat.reduceBneDiff,Value.cells, g0, l7, eS]
    refine (num_last_c E H S okS).mono ?_
    rintro r h8 ⟨le8, rfl⟩
    have okL := N3.last_ok S
    generalize S.last = Z at *
    have bdA : bnds 32 32 (some (some (.int .i64 16))) (some (some (.int .i64 24))) none = some (16, 24, 32) := bnds_both (by omega) (by omega) (by omega)
    have bdB : bnds 32 32 (some (some (.int .i64 24))) none none = some (24, 32, 32) := bnds_lo (by omega) (by omega)
    have eA1 : (Addr.add ⟨b2, 0, none⟩ 16 : Addr) = ⟨b2, 16, none⟩ := by rw [add_off', Nat.zero_add]
    have eA2 : (Addr.add ⟨b2, 0, none⟩ 24 : Addr) = ⟨b2, 24, none⟩ := by rw [add_off', Nat.zero_add]
    have sW := own_sl (le8 _ _ p2)
    have sA : SlB h8 (.slice (some ⟨b2, 16, none⟩) 8 16) ((w.drop 16).take 8) := by
      have := Sl.midB (a := 16) (b := 24) sW (by omega) (by omega)
      rw [hw, if_neg (by omega), Option.map_some, eA1] at this
      exact this
    have sB : SlB h8 (.slice (some ⟨b2, 24, none⟩) 8 8) ((w.drop 24).take 8) := by
      have := Sl.midB (a := 24) (b := 32) sW (by omega) (by omega)
      rw [hw, if_neg (by omega), Option.map_some, eA2] at this
      exact this
    simp -implicitDefEqProofs only [zB1,zB2,zB3,zB4,zB5,zB6,zB7,zB8,zB9,zB10,zB11,y00,y01,y02,y03,y04,y05,y06,y07,y08,y09,y0a,y0b,y0c,y0d,y0e,y0f,y0g,y0h,y0i,y0j,y0k,y0l,y0m,y0n,y0o,y0p,y0q,y0r,y0s,y0t,y0u,y0v,y0w,y0x,y0y,y0z,y10,y11,y12,y13,y14,y15,y16,y17,y18,y19,y1a,y1b,y1c,y1d,y1e,y1f,y1g,y1h,y1i,y1j,y1k,y1l,y1m,y1n,y1o,y1p,y1q,y1r,retO,retL,retV,z69,allV,allP,z6a,z6d,z6e,z6k,z6l,z6m,binV,eqV,unV,oOpt,reduceIte,reduceCtorEq,Nat.reduceEqDiff,Nat.reduceAdd,Nat.reduceMul,Nat.reduceLT,Nat.reduceSub,Int.reduceLT,Int.reduceLE,Int.reduceEq,Int.reduceNe,Int.reduceSub,Int.reduceAdd,Int.reduceMul,Int.reduceBEq,Int.reduceBNe,Int.reduceGT,Int.reduceGE,Nat.reduceGT,Int.reduceToNat,Int.reduceNeg,Nat.reduceLeDiff,Nat.reduceBEq,Nat.reduceBneDiff,Value.cells, bdA, eA1, implies_true, List.mem_singleton, forall_eq]
    refine (poly_word_c E h8 ((w.drop 16).take 8) (by simp; omega) sA).mono ?_
    rintro r h9 ⟨le9, rfl⟩
    simp -implicitDefEqProofs only [zB1,zB2,zB3,zB4,zB5,zB6,zB7,zB8,zB9,zB10,zB11,y00,y01,y02,y03,y04,y05,y06,y07,y08,y09,y0a,y0b,y0c,y0d,y0e,y0f,y0g,y0h,y0i,y0j,y0k,y0l,y0m,y0n,y0o,y0p,y0q,y0r,y0s,y0t,y0u,y0v,y0w,y0x,y0y,y0z,y10,y11,y12,y13,y14,y15,y16,y17,y18,y19,y1a,y1b,y1c,y1d,y1e,y1f,y1g,y1h,y1i,y1j,y1k,y1l,y1m,y1n,y1o,y1p,y1q,y1r,retO,retL,retV,z69,allV,allP,z6a,z6d,z6e,z6k,z6l,z6m,binV,eqV,unV,oOpt,reduceIte,reduceCtorEq,Nat.reduceEqDiff,Nat.reduceAdd,Nat.reduceMul,Nat.reduceLT,Nat.reduceSub,Int.reduceLT,Int.reduceLE,Int.reduceEq,Int.reduceNe,Int.reduceSub,Int.reduceAdd,Int.reduceMul,Int.reduceBEq,Int.reduceBNe,Int.reduceGT,Int.reduceGE,Nat.reduceGT,Int.reduceToNat,Int.reduceNeg,Nat.reduceLeDiff,Nat.reduceBEq,Nat.reduceBneDiff,Value.cells, bdB, eA2, implies_true, List.mem_singleton, forall_eq]
    refine (poly_word_c E h9 ((w.drop 24).take 8) (by simp; omega) (Sl.le le9 sB)).mono ?_
    rintro r h10 ⟨le10, rfl⟩
    simp -implicitDefEqProofs only [zB1,zB2,zB3,zB4,zB5,zB6,zB7,zB8,zB9,zB10,zB11,y00,y01,y02,y03,y04,y05,y06,y07,y08,y09,y0a,y0b,y0c,y0d,y0e,y0f,y0g,y0h,y0i,y0j,y0k,y0l,y0m,y0n,y0o,y0p,y0q,y0r,y0s,y0t,y0u,y0v,y0w,y0x,y0y,y0z,y10,y11,y12,y13,y14,y15,y16,y17,y18,y19,y1a,y1b,y1c,y1d,y1e,y1f,y1g,y1h,y1i,y1j,y1k,y1l,y1m,y1n,y1o,y1p,y1q,y1r,retO,retL,retV,z69,allV,allP,z6a,z6d,z6e,z6k,z6l,z6m,binV,eqV,unV,oOpt,reduceIte,reduceCtorEq,Nat.reduceEqDiff,Nat.reduceAdd,Nat.reduceMul,Nat.reduceLT,Nat.reduceSub,Int.reduceLT,Int.reduceLE,Int.reduceEq,Int.reduceNe,Int.reduceSub,Int.reduceAdd,Int.reduceMul,Int.reduceBEq,Int.reduceBNe,Int.reduceGT,Int.reduceGE,Nat.reduceGT,Int.reduceToNat,Int.reduceNeg,Nat.reduceLeDiff,Nat.reduceBEq,Nat.reduceBneDiff,Value.cells, u64V, implies_true]
    generalize hM : (⟨(fromLittleF ((w.drop 16).take 8)).toNat, (fromLittleF ((w.drop 24).take 8)).toNat, 0⟩ : N3) = M at *
    have okM : M.ok := by rw [← hM]; exact ⟨BitVec.isLt _, BitVec.isLt _, by simp⟩
    have eM : Value.agg #[.int .u64 ((fromLittleF ((w.drop 16).take 8)).toNat : Int), .int .u64 ((fromLittleF ((w.drop 24).take 8)).toNat : Int), .int .u64 0] = M.V := by rw [← hM]; rfl
    rw [eM]
    refine (num_plus_c E h10 Z M okL okM).mono ?_
    rintro r h11 ⟨le11, rfl⟩
    have okT := N3.plus_ok Z M
    have hF : tagF w L.flatten = littleF (BitVec.ofNat 64 (Z.plus M).a) 8 ++ littleF (BitVec.ofNat 64 (Z.plus M).b) 8 := by unfold tagF; rw [hT]
    rw [hF]
    generalize Z.plus M = T at *
    simp -implicitDefEqProofs only [zB1,zB2,zB3,zB4,zB5,zB6,zB7,zB8,zB9,zB10,zB11,y00,y01,y02,y03,y04,y05,y06,y07,y08,y09,y0a,y0b,y0c,y0d,y0e,y0f,y0g,y0h,y0i,y0j,y0k,y0l,y0m,y0n,y0o,y0p,y0q,y0r,y0s,y0t,y0u,y0v,y0w,y0x,y0y,y0z,y10,y11,y12,y13,y14,y15,y16,y17,y18,y19,y1a,y1b,y1c,y1d,y1e,y1f,y1g,y1h,y1i,y1j,y1k,y1l,y1m,y1n,y1o,y1p,y1q,y1r,retO,retL,retV,z69,allV,allP,z6a,z6d,z6e,z6k,z6l,z6m,binV,eqV,unV,oOpt,reduceIte,reduceCtorEq,Nat.reduceEqDiff,Nat.reduceAdd,Nat.reduceMul,Nat.reduceLT,Nat.reduceSub,Int.reduceLT,Int.reduceLE,Int.reduceEq,Int.reduceNe,Int.reduceSub,Int.reduceAdd,Int.reduceMul,Int.reduceBEq,Int.reduceBNe,Int.reduceGT,Int.reduceGE,Nat.reduceGT,Int.reduceToNat,Int.reduceNeg,Nat.reduceLeDiff,Nat.reduceBEq,Nat.reduceBneDiff,Value.cells, implies_true]
    intro bT hbT
    have stT : storeV (h11.set bT (.own 0 [.int .u64 0, .int .u64 0, .int .u64 0] 3)) 3 (.pointer (some ⟨bT, 0, none⟩)) T.V = some (h11.set bT (.own 0 T.cells 3)) := z6q (by omega) rfl rfl rfl (by omega)
    have le12 : H.le (h11.set bT (.own 0 T.cells 3)) := Heap.le_new (Heap.le_trans le8 (Heap.le_trans le9 (Heap.le_trans le10 le11))) hbT _
    have qT : (h11.set bT (.own 0 T.cells 3)) bT = some (.own 0 T.cells 3) := Heap.set_self _ _ _
    simp -implicitDefEqProofs only [zB1,zB2,zB3,zB4,zB5,zB6,zB7,zB8,zB9,zB10,zB11,y00,y01,y02,y03,y04,y05,y06,y07,y08,y09,y0a,y0b,y0c,y0d,y0e,y0f,y0g,y0h,y0i,y0j,y0k,y0l,y0m,y0n,y0o,y0p,y0q,y0r,y0s,y0t,y0u,y0v,y0w,y0x,y0y,y0z,y10,y11,y12,y13,y14,y15,y16,y17,y18,y19,y1a,y1b,y1c,y1d,y1e,y1f,y1g,y1h,y1i,y1j,y1k,y1l,y1m,y1n,y1o,y1p,y1q,y1r,retO,retL,retV,z69,allV,allP,z6a,z6d,z6e,z6k,z6l,z6m,binV,eqV,unV,oOpt,reduceIte,reduceCtorEq,Nat.reduceEqDiff,Nat.reduceAdd,Nat.reduceMul,Nat.reduceLT,Nat.reduceSub,Int.reduceLT,Int.reduceLE,Int.reduceEq,Int.reduceNe,Int.reduceSub,Int.reduceAdd,Int.reduceMul,Int.reduceBEq,Int.reduceBNe,Int.reduceGT,Int.reduceGE,Nat.reduceGT,Int.reduceToNat,Int.reduceNeg,Nat.reduceLeDiff,Nat.reduceBEq,Nat.reduceBneDiff,Value.cells, stT, implies_true]
    generalize (h11.set bT (.own 0 T.cells 3)) = h12 at le12 qT ⊢
    have lA : ∀ H', h12.le H' → hcell H' ⟨bT, 0, none⟩ = some (.int .u64 (T.a : Int)) := fun H' x => hcell_at (x _ _ qT) (by simp [N3.cells])
    have lB : ∀ H', h12.le H' → hcell H' ⟨bT, 1, none⟩ = some (.int .u64 (T.b : Int)) := fun H' x => hcell_at (x _ _ qT) (by simp [N3.cells])
    have eA : (T.a : Int) = ((BitVec.ofNat 64 T.a).toNat : Int) := by have := okT.1; simp; omega
    have eB : (T.b : Int) = ((BitVec.ofNat 64 T.b).toNat : Int) := by have := okT.2.1; simp; omega
    rw [eA] at lA
    rw [eB] at lB
    generalize BitVec.ofNat 64 T.a = A at *
    generalize BitVec.ofNat 64 T.b = D at *
    have a1 := lA h12 (Heap.le_refl _)
    have a2 := lB h12 (Heap.le_refl _)
    simp -implicitDefEqProofs only [zB1,zB2,zB3,zB4,zB5,zB6,zB7,zB8,zB9,zB10,zB11,y00,y01,y02,y03,y04,y05,y06,y07,y08,y09,y0a,y0b,y0c,y0d,y0e,y0f,y0g,y0h,y0i,y0j,y0k,y0l,y0m,y0n,y0o,y0p,y0q,y0r,y0s,y0t,y0u,y0v,y0w,y0x,y0y,y0z,y10,y11,y12,y13,y14,y15,y16,y17,y18,y19,y1a,y1b,y1c,y1d,y1e,y1f,y1g,y1h,y1i,y1j,y1k,y1l,y1m,y1n,y1o,y1p,y1q,y1r,retO,retL,retV,z69,allV,allP,z6a,z6d,z6e,z6k,z6l,z6m,binV,eqV,unV,oOpt,reduceIte,reduceCtorEq,Nat.reduceEqDiff,Nat.reduceAdd,Nat.reduceMul,Nat.reduceLT,Nat.reduceSub,Int.reduceLT,Int.reduceLE,Int.reduceEq,Int.reduceNe,Int.reduceSub,Int.reduceAdd,Int.reduceMul,Int.reduceBEq,Int.reduceBNe,Int.reduceGT,Int.reduceGE,Nat.reduceGT,Int.reduceToNat,Int.reduceNeg,Nat.reduceLeDiff,Nat.reduceBEq,Nat.reduceBneDiff,Value.cells, a1, a2, implies_true]
    refine (octet_Little_c E h12 [] (by simp) (.inl ⟨rfl, rfl, rfl⟩) A 8 (by omega)).mono ?_
    rintro vA h13 ⟨le13, owA⟩
    rw [List.nil_append] at owA
    have a3 := lB h13 le13
    simp -implicitDefEqProofs only [zB1,zB2,zB3,zB4,zB5,zB6,zB7,zB8,zB9,zB10,zB11,y00,y01,y02,y03,y04,y05,y06,y07,y08,y09,y0a,y0b,y0c,y0d,y0e,y0f,y0g,y0h,y0i,y0j,y0k,y0l,y0m,y0n,y0o,y0p,y0q,y0r,y0s,y0t,y0u,y0v,y0w,y0x,y0y,y0z,y10,y11,y12,y13,y14,y15,y16,y17,y18,y19,y1a,y1b,y1c,y1d,y1e,y1f,y1g,y1h,y1i,y1j,y1k,y1l,y1m,y1n,y1o,y1p,y1q,y1r,retO,retL,retV,z69,allV,allP,z6a,z6d,z6e,z6k,z6l,z6m,binV,eqV,unV,oOpt,reduceIte,reduceCtorEq,Nat.reduceEqDiff,Nat.reduceAdd,Nat.reduceMul,Nat.reduceLT,Nat.reduceSub,Int.reduceLT,Int.reduceLE,Int.reduceEq,Int.reduceNe,Int.reduceSub,Int.reduceAdd,Int.reduceMul,Int.reduceBEq,Int.reduceBNe,Int.reduceGT,Int.reduceGE,Nat.reduceGT,Int.reduceToNat,Int.reduceNeg,Nat.reduceLeDiff,Nat.reduceBEq,Nat.reduceBneDiff,Value.cells, a2, a3, implies_true, List.mem_singleton, forall_eq]
    refine (octet_Little_c E h13 (littleF A 8) (by rw [littleF_len]; omega) owA.sl D 8 (by omega)).mono ?_
    rintro vD h14 ⟨le14, owD⟩
    have lO : (littleF A 8 ++ littleF D 8).length = 16 := by rw [List.length_append, littleF_len, littleF_len]
    have sO := owD.sl
    generalize littleF A 8 ++ littleF D 8 = O at *
    obtain ⟨bO, oO, cO, rfl, hcO, hclO⟩ := sO.ptr (by omega) (by omega)
    have g16 : (16 : Int) ≤ O.length := by omega
    rw [lO] at hclO
    have leH14 := Heap.le_trans le12 (Heap.le_trans le13 le14)
    have q4' := leH14 _ _ p4
    have st4 : storeV h14 16 (.pointer (some ⟨b4, 0, none⟩)) (.agg (O.map u8V).toArray) = some (h14.set b4 (.own 0 (O.map u8V) 16)) := storeV_agg_at q4' (by omega) (by simp [lO]) (one_u8 _) (by simp) (by omega)
    have l4 : hcells (h14.set b4 (.own 0 (O.map u8V) 16)) ⟨b4, 0, none⟩ 16 = some (O.map u8V) := z6o (by simp [lO])
    have hO16 : 16 ≤ O.length := by omega
    simp -implicitDefEqProofs only [zB1,zB2,zB3,zB4,zB5,zB6,zB7,zB8,zB9,zB10,zB11,y00,y01,y02,y03,y04,y05,y06,y07,y08,y09,y0a,y0b,y0c,y0d,y0e,y0f,y0g,y0h,y0i,y0j,y0k,y0l,y0m,y0n,y0o,y0p,y0q,y0r,y0s,y0t,y0u,y0v,y0w,y0x,y0y,y0z,y10,y11,y12,y13,y14,y15,y16,y17,y18,y19,y1a,y1b,y1c,y1d,y1e,y1f,y1g,y1h,y1i,y1j,y1k,y1l,y1m,y1n,y1o,y1p,y1q,y1r,retO,retL,retV,z69,allV,allP,z6a,z6d,z6e,z6k,z6l,z6m,binV,eqV,unV,oOpt,reduceIte,reduceCtorEq,Nat.reduceEqDiff,Nat.reduceAdd,Nat.reduceMul,Nat.reduceLT,Nat.reduceSub,Int.reduceLT,Int.reduceLE,Int.reduceEq,Int.reduceNe,Int.reduceSub,Int.reduceAdd,Int.reduceMul,Int.reduceBEq,Int.reduceBNe,Int.reduceGT,Int.reduceGE,Nat.reduceGT,Int.reduceToNat,Int.reduceNeg,Nat.reduceLeDiff,Nat.reduceBEq,Nat.reduceBneDiff,Value.cells, g16, hO16, hclO, st4, l4, implies_true, lO]
    exact Heap.le_set (Heap.le_trans leH leH14) hb4' _

/-! ### bits that do not count -/
theorem clampG_congr {f g : Nat → UInt8} {k : Nat} (h : f k = g k) : clampG f k = clampG g k := by
  unfold clampG clB clA
  simp only [h]
theorem tagF_clamp (w c all : List UInt8) (hw : w.length = 32) (hc : c = rowL (keyR w) 16) : tagF (c ++ w.drop 16) all = tagF w all := by
  have lc : c.length = 16 := by rw [hc, rowL_len]
  have hr : rowL (keyR (c ++ w.drop 16)) 16 = rowL (keyR w) 16 := by
    unfold rowL
    apply List.map_congr_left
    intro j hj
    have hj16 : j < 16 := List.mem_range.1 hj
    unfold keyR
    rw [← clamp_again (fun j => w.getD j 0) j]
    apply clampG_congr
    have : (c ++ w.drop 16).getD j 0 = c.getD j 0 := by
      rw [List.getD_eq_getElem?_getD, List.getElem?_append_left (by omega), ← List.getD_eq_getElem?_getD]
    have hcj : c.getD j 0 = clampG (fun j => w.getD j 0) j := by rw [hc]; simp [rowL, hj16, keyR]
    show (c ++ w.drop 16).getD j 0 = clampG (fun j => w.getD j 0) j
    rw [this, hcj]
  have hk : ∀ i, keyK (c ++ w.drop 16) i = keyK w i := fun i => by unfold keyK; rw [hr]
  have d16 : (c ++ w.drop 16).drop 16 = w.drop 16 := by rw [List.drop_left' lc]
  have d24 : (c ++ w.drop 16).drop 24 = w.drop 24 := by
    rw [show 24 = 16 + 8 from rfl, ← List.drop_drop, d16, List.drop_drop]
  have ht : tagN (c ++ w.drop 16) all = tagN w all := by unfold tagN; rw [hk, hk, d16, d24]
  unfold tagF
  rw [ht]
end Go.Bb
/- The laws of poly: what all use. -/
namespace Go.Bb
set_option linter.unusedSimpArgs false
set_option linter.unusedVariables false
set_option maxRecDepth 20000

theorem leaves_u8 : ∀ l : List UInt8, leavesOk (List.replicate l.length (some IntKind.u8)) (l.map u8V) = true
  | [] => rfl
  | b :: l => by
      have := leaves_u8 l
      rw [List.length_cons, List.replicate_succ, List.map_cons, leavesOk, this, Bool.and_true]
      rfl
theorem leavesEq_u8 : ∀ l : List UInt8, leavesEq (l.map u8V) (l.map u8V) = true
  | [] => rfl
  | b :: l => by
      have := leavesEq_u8 l
      rw [List.map_cons, leavesEq, this, Bool.and_true]
      simp [u8V, leafEq]

theorem aw5 : isTrue (evF tab noHooks 1000 50 n_bandboxlaw5_awake [] VM.start) = true := by decide +kernel
theorem law5_awake_c (E : EnvT tab) (h : Heap) : ACallN E.toEnv n_bandboxlaw5_awake [] h fun v h' => v = .bool true ∧ h.le h' := evF_true noHooks_ok h aw5

end Go.Bb
/- The law PolyAdds: plain part. -/
namespace Go.Bb
set_option linter.unusedSimpArgs false
set_option linter.unusedVariables false

/-- Adding byte by byte with a carry. -/
theorem chainB (A S q : Nat) (hq : 0 < q) : (A + S) / q % 256 = ((A % q + S % q) / q + A / q % 256 + S / q % 256) % 256 := by
  rw [Nat.add_div hq]
  have h1 : A % q < q := Nat.mod_lt _ hq
  have h2 : S % q < q := Nat.mod_lt _ hq
  by_cases h : q ≤ A % q + S % q
  · have : (A % q + S % q) / q = 1 := by
      rw [Nat.div_eq_iff hq]; omega
    rw [this, if_pos h]; omega
  · have : (A % q + S % q) / q = 0 := Nat.div_eq_of_lt (by omega)
    rw [this, if_neg h]; omega
theorem chainC (A S q : Nat) (hq : 0 < q) : (A % (q * 256) + S % (q * 256)) / (q * 256) = ((A % q + S % q) / q + A / q % 256 + S / q % 256) / 256 := by
  rw [← Nat.div_div_eq_div_mul, Nat.mod_mul, Nat.mod_mul]
  congr 1
  rw [show A % q + q * (A / q % 256) + (S % q + q * (S / q % 256)) = (A % q + S % q) + q * (A / q % 256 + S / q % 256) by rw [Nat.mul_add]; omega]
  rw [Nat.add_mul_div_left _ _ hq]; omega
/-- The number of a row of bytes, low byte first. -/
def leN : List UInt8 → Nat
  | [] => 0
  | b :: l => b.toNat + 256 * leN l
theorem leN_lt : ∀ l : List UInt8, leN l < 256 ^ l.length
  | [] => by simp [leN]
  | b :: l => by
    have := leN_lt l
    have hb : b.toNat < 256 := b.toNat_lt
    simp only [leN, List.length_cons, Nat.pow_succ]
    omega
theorem leN_byte : ∀ (l : List UInt8) (i : Nat), leN l / 256 ^ i % 256 = (l.getD i 0).toNat
  | [], i => by simp [leN]
  | b :: l, 0 => by
    have hb : b.toNat < 256 := b.toNat_lt
    simp only [leN, Nat.pow_zero, Nat.div_one, List.getD_cons_zero]
    omega
  | b :: l, i + 1 => by
    have hb : b.toNat < 256 := b.toNat_lt
    rw [List.getD_cons_succ, ← leN_byte l i, Nat.pow_succ, Nat.mul_comm, ← Nat.div_div_eq_div_mul]
    congr 2
    simp only [leN]; omega
theorem shl_or8 (v : U64) (b : UInt8) (hv : v.toNat < 72057594037927936) : (v <<< 8 ||| BitVec.ofNat 64 b.toNat).toNat = b.toNat + 256 * v.toNat := by
  have hb : b.toNat < 2 ^ 8 := b.toNat_lt
  rw [BitVec.toNat_or, BitVec.toNat_shiftLeft, BitVec.toNat_ofNat, Nat.shiftLeft_eq, Nat.mod_eq_of_lt (by omega), Nat.mod_eq_of_lt (by omega), Nat.mul_comm, ← Nat.two_pow_add_eq_or_of_lt hb]
  omega
theorem fromLittleF_nat : ∀ l : List UInt8, l.length ≤ 8 → (fromLittleF l).toNat = leN l
  | [], _ => rfl
  | b :: l, h => by
    have ih := fromLittleF_nat l (by simp at h; omega)
    have e : fromLittleF (b :: l) = fromLittleF l <<< 8 ||| BitVec.ofNat 64 b.toNat := by simp [fromLittleF, fromBigF]
    have lt := leN_lt l
    have hp : 256 ^ l.length ≤ 256 ^ 7 := Nat.pow_le_pow_right (by decide) (by simp at h; omega)
    rw [e, shl_or8 _ _ (by rw [ih]; omega), ih, leN]
theorem littleF_byte (v : U64) (n i : Nat) (h : i < n) : (littleF v n).getD i 0 = UInt8.ofNat (v.toNat / 256 ^ i) := by
  have e : (256 : Nat) ^ i = 2 ^ (8 * i) := by rw [Nat.pow_mul]
  simp [littleF, List.getD, h, e, Nat.shiftRight_eq_div_pow]
theorem leN_append : ∀ a b : List UInt8, leN (a ++ b) = leN a + 256 ^ a.length * leN b
  | [], b => by simp [leN]
  | x :: a, b => by
    simp only [List.cons_append, leN, leN_append a b, List.length_cons, Nat.pow_succ]
    rw [Nat.mul_add, Nat.mul_comm (256 ^ a.length) 256, Nat.mul_assoc]; omega
theorem u8_mod (a : Nat) : UInt8.ofNat a = UInt8.ofNat (a % 256) := by
  apply UInt8.toNat_inj.1; simp
theorem gD_app (a b : List UInt8) (i : Nat) (h : i < a.length) : (a ++ b).getD i 0 = a.getD i 0 := by
  simp only [List.getD_eq_getElem?_getD, List.getElem?_append_left h]
theorem gD_app2 (a b : List UInt8) (i : Nat) (h : a.length ≤ i) : (a ++ b).getD i 0 = b.getD (i - a.length) 0 := by
  simp only [List.getD_eq_getElem?_getD, List.getElem?_append_right h]
/-- A word of two: bytes of its number. -/
theorem little2_byte (x : N3) (hx : x.ok) (i : Nat) (h : i < 16) : (littleF (BitVec.ofNat 64 x.a) 8 ++ littleF (BitVec.ofNat 64 x.b) 8).getD i 0 = UInt8.ofNat (x.val / 256 ^ i) := by
  obtain ⟨ha, hb, hc⟩ := hx
  have ea : (BitVec.ofNat 64 x.a).toNat = x.a := by rw [BitVec.toNat_ofNat]; omega
  have eb : (BitVec.ofNat 64 x.b).toNat = x.b := by rw [BitVec.toNat_ofNat]; omega
  have key : ∀ j < 16, x.val / 256 ^ j % 256 = (if j < 8 then x.a / 256 ^ j else x.b / 256 ^ (j - 8)) % 256 := by
    intro j hj
    have : j = 0 ∨ j = 1 ∨ j = 2 ∨ j = 3 ∨ j = 4 ∨ j = 5 ∨ j = 6 ∨ j = 7 ∨ j = 8 ∨ j = 9 ∨ j = 10 ∨ j = 11 ∨ j = 12 ∨ j = 13 ∨ j = 14 ∨ j = 15 := by omega
    rcases this with rfl | rfl | rfl | rfl | rfl | rfl | rfl | rfl | rfl | rfl | rfl | rfl | rfl | rfl | rfl | rfl <;> simp only [N3.val] <;> simp <;> omega
  rw [u8_mod (x.val / 256 ^ i), key i h]
  by_cases g : i < 8
  · rw [if_pos g, gD_app _ _ _ (by rw [littleF_len]; exact g), littleF_byte _ _ _ g, ea, u8_mod (x.a / 256 ^ i)]
  · rw [if_neg g, gD_app2 _ _ _ (by rw [littleF_len]; omega), littleF_len, littleF_byte _ _ _ (by omega), eb, u8_mod (x.b / 256 ^ (i - 8))]
theorem mod_byte (x i : Nat) (h : i < 16) : x % 6277101735386680763835789423207666416102355444464034512896 / 256 ^ i % 256 = x / 256 ^ i % 256 := by
  have e : (6277101735386680763835789423207666416102355444464034512896 : Nat) = 256 ^ i * 256 ^ (24 - i) := by rw [← Nat.pow_add, show i + (24 - i) = 24 by omega]
  rw [e, Nat.mod_mul_right_div_self, Nat.mod_mod_of_dvd]
  exact Nat.dvd_trans (by decide) (Nat.pow_dvd_pow 256 (show 1 ≤ 24 - i by omega))
def tagA (r all : List UInt8) : Nat := (tagSum (keyK r 0) (keyK r 1) z3 all).last.val
theorem keyK_head (r s : List UInt8) (hr : r.length = 16) (i : Nat) : keyK (r ++ s) i = keyK r i := by
  have : rowL (keyR (r ++ s)) 16 = rowL (keyR r) 16 := by
    unfold rowL
    apply List.map_congr_left
    intro j hj
    have hj16 : j < 16 := List.mem_range.1 hj
    exact clampG_congr (gD_app r s j (by omega))
  unfold keyK; rw [this]
theorem tagF_byte (r s all : List UInt8) (hr : r.length = 16) (hs : s.length = 16) (i : Nat) (h : i < 16) : (tagF (r ++ s) all).getD i 0 = UInt8.ofNat ((tagA r all + leN s) / 256 ^ i) := by
  have d16 : (r ++ s).drop 16 = s := by rw [List.drop_left' hr]
  have d24 : (r ++ s).drop 24 = s.drop 8 := by rw [show 24 = 16 + 8 from rfl, ← List.drop_drop, d16]
  have hv : (⟨(fromLittleF (s.take 8)).toNat, (fromLittleF ((s.drop 8).take 8)).toNat, 0⟩ : N3).val = leN s := by
    rw [fromLittleF_nat _ (by simp; omega), fromLittleF_nat _ (by simp; omega)]
    rw [show (s.drop 8).take 8 = s.drop 8 by rw [List.take_of_length_le]; simp [hs]]
    conv => rhs; rw [← List.take_append_drop 8 s, leN_append, List.length_take, hs]
    simp [N3.val]
  unfold tagF
  rw [little2_byte (tagN (r ++ s) all) (N3.plus_ok _ _) i h, u8_mod, u8_mod ((tagA r all + leN s) / 256 ^ i)]
  unfold tagN
  rw [N3.plus_val, mod_byte _ _ h, d16, d24, hv, keyK_head r s hr, keyK_head r s hr]
  rfl
theorem leN_zero (n : Nat) : leN (List.replicate n 0) = 0 := by
  induction n with
  | zero => rfl
  | succ n ih => rw [List.replicate_succ, leN, ih]; rfl
/-- The carry before byte i. -/
def carA (A S i : Nat) : Nat := (A % 256 ^ i + S % 256 ^ i) / 256 ^ i
theorem carA_0 (A S : Nat) : carA A S 0 = 0 := by simp [carA, Nat.mod_one]
theorem adds_byte (r s all : List UInt8) (hr : r.length = 16) (hs : s.length = 16) (i : Nat) (h : i < 16) :
    (tagF (r ++ s) all).getD i 0 = UInt8.ofNat (carA (tagA r all) (leN s) i + ((tagF (r ++ List.replicate 16 0) all).getD i 0).toNat + (s.getD i 0).toNat) := by
  have hq : 0 < 256 ^ i := Nat.pow_pos (by decide)
  rw [tagF_byte r s all hr hs i h, tagF_byte r _ all hr (by simp) i h, leN_zero, Nat.add_zero, ← leN_byte s i, u8_mod, chainB _ _ _ hq, ← u8_mod]
  simp [carA]
theorem adds_car (r s all : List UInt8) (hr : r.length = 16) (hs : s.length = 16) (i : Nat) (h : i < 16) :
    carA (tagA r all) (leN s) (i + 1) = (carA (tagA r all) (leN s) i + ((tagF (r ++ List.replicate 16 0) all).getD i 0).toNat + (s.getD i 0).toNat) / 256 := by
  have hq : 0 < 256 ^ i := Nat.pow_pos (by decide)
  rw [tagF_byte r _ all hr (by simp) i h, leN_zero, Nat.add_zero, ← leN_byte s i]
  simp only [carA, Nat.pow_succ]
  rw [chainC _ _ _ hq]
  simp
theorem carA_le (r s all : List UInt8) (hr : r.length = 16) (hs : s.length = 16) : ∀ i ≤ 16, carA (tagA r all) (leN s) i ≤ 1
  | 0, _ => by rw [carA_0]; omega
  | i + 1, h => by
    have := carA_le r s all hr hs i (by omega)
    have h1 := ((tagF (r ++ List.replicate 16 0) all).getD i 0).toNat_lt
    have h2 := (s.getD i 0).toNat_lt
    rw [adds_car r s all hr hs i (by omega)]; omega
end Go.Bb
/- Numbers of seventeen digits: plain laws. -/
namespace Go.Bb
set_option linter.unusedSimpArgs false
set_option linter.unusedVariables false

set_option maxRecDepth 20000
abbrev PQ : Nat := 1361129467683753853853498429727072845819
def valD (f : Nat → Nat) : Nat → Nat
  | 0 => 0
  | n + 1 => valD f n + f n * 256 ^ n
theorem valD_congr {f g : Nat → Nat} : ∀ {n : Nat}, (∀ j, j < n → f j = g j) → valD f n = valD g n
  | 0, _ => rfl
  | n + 1, h => by rw [valD, valD, valD_congr (fun j hj => h j (by omega)), h n (by omega)]
theorem valD_upd (f : Nat → Nat) (i z : Nat) : ∀ n : Nat, i < n → valD (upd f i z) n + f i * 256 ^ i = valD f n + z * 256 ^ i
  | 0, h => by omega
  | n + 1, h => by
    rw [valD, valD]
    by_cases e : i = n
    · subst e
      rw [upd_self, valD_congr (g := f) (fun j hj => upd_ne (by omega))]
      omega
    · have := valD_upd f i z n (by omega)
      rw [upd_ne (Ne.symm e)]
      omega
theorem valD_le {f : Nat → Nat} {B : Nat} : ∀ {n : Nat}, (∀ j, j < n → f j ≤ B) → valD f n ≤ B * 256 ^ n
  | 0, _ => by simp [valD]
  | n + 1, h => by
    have h1 := valD_le (f := f) (B := B) (n := n) (fun j hj => h j (by omega))
    have h2 : f n * 256 ^ n ≤ B * 256 ^ n := Nat.mul_le_mul_right _ (h n (by omega))
    have h3 : B * 256 ^ (n + 1) = 256 * (B * 256 ^ n) := by rw [Nat.pow_succ, ← Nat.mul_assoc, Nat.mul_comm]
    rw [valD, h3]
    omega
theorem valD_lt {f : Nat → Nat} : ∀ {n : Nat}, (∀ j, j < n → f j < 256) → valD f n < 256 ^ n
  | 0, _ => by simp [valD]
  | n + 1, h => by
    have h1 := valD_lt (f := f) (n := n) (fun j hj => h j (by omega))
    have h2 : f n * 256 ^ n ≤ 255 * 256 ^ n := Nat.mul_le_mul_right _ (by have := h n (by omega); omega)
    have h3 : 256 ^ (n + 1) = 256 * 256 ^ n := by rw [Nat.pow_succ, Nat.mul_comm]
    rw [valD, h3]
    omega
theorem valD_split (f : Nat → Nat) (i : Nat) : ∀ n, i < n → ∃ r, valD f n = valD f i + 256 ^ i * (f i + 256 * r)
  | 0, h => by omega
  | n + 1, h => by
    by_cases e : i = n
    · subst e
      exact ⟨0, by rw [valD]; simp [Nat.mul_comm]⟩
    · obtain ⟨r, hr⟩ := valD_split f i n (by omega)
      refine ⟨r + f n * 256 ^ (n - i - 1), ?_⟩
      have : 256 ^ n = 256 ^ i * (256 * 256 ^ (n - i - 1)) := by
        rw [← Nat.pow_succ', ← Nat.pow_add]; congr 1; omega
      rw [valD, hr, this]
      rw [Nat.mul_add 256, ← Nat.add_assoc (f i), Nat.mul_add (256 ^ i) (f i + 256 * r), Nat.add_assoc]
      congr 2
      rw [Nat.mul_left_comm, Nat.mul_left_comm (f n)]
theorem valD_byte {f : Nat → Nat} {n i : Nat} (hi : i < n) (h : ∀ j, j ≤ i → f j < 256) : valD f n / 256 ^ i % 256 = f i := by
  obtain ⟨r, hr⟩ := valD_split f i n hi
  have h0 : valD f i < 256 ^ i := valD_lt (fun j hj => h j (by omega))
  have hp : 0 < 256 ^ i := Nat.pow_pos (by decide)
  rw [hr, Nat.add_mul_div_left _ _ hp, Nat.div_eq_of_lt h0]
  have := h i (Nat.le_refl _)
  omega
/-! ### the sum -/
def carD (f g : Nat → Nat) : Nat → Nat
  | 0 => 0
  | i + 1 => (carD f g i + f i + g i) / 256
def addD (f g : Nat → Nat) (j : Nat) : Nat := if j < 16 then (carD f g j + f j + g j) % 256 else carD f g j + f j + g j
theorem carD_le {f g : Nat → Nat} {B : Nat} (hf : ∀ j, j < 17 → f j ≤ B) (hg : ∀ j, j < 17 → g j ≤ B) : ∀ i, i ≤ 17 → carD f g i ≤ B
  | 0, _ => by simp [carD]
  | i + 1, h => by
    have := carD_le hf hg i (by omega)
    have := hf i (by omega)
    have := hg i (by omega)
    rw [carD]; omega
theorem addD_aux (f g : Nat → Nat) : ∀ i, i ≤ 16 → valD (addD f g) i + carD f g i * 256 ^ i = valD f i + valD g i
  | 0, _ => by simp [valD, carD]
  | i + 1, h => by
    have ih := addD_aux f g i (by omega)
    have e : addD f g i = (carD f g i + f i + g i) % 256 := by unfold addD; rw [if_pos (by omega)]
    rw [valD, valD, valD, carD, e]
    have key : (carD f g i + f i + g i) % 256 * 256 ^ i + (carD f g i + f i + g i) / 256 * 256 ^ (i + 1) = carD f g i * 256 ^ i + f i * 256 ^ i + g i * 256 ^ i := by
      rw [Nat.pow_succ, Nat.mul_comm (256 ^ i) 256, ← Nat.mul_assoc, ← Nat.add_mul, ← Nat.add_mul, ← Nat.add_mul]
      congr 1
      omega
    omega
theorem addD_val (f g : Nat → Nat) : valD (addD f g) 17 = valD f 17 + valD g 17 := by
  have h := addD_aux f g 16 (by omega)
  have e : addD f g 16 = carD f g 16 + f 16 + g 16 := by unfold addD; rw [if_neg (by omega)]
  have v : ∀ x : Nat → Nat, valD x 17 = valD x 16 + x 16 * 256 ^ 16 := fun _ => rfl
  rw [v, v, v, e, Nat.add_mul, Nat.add_mul]
  generalize 256 ^ 16 = Q at h ⊢
  generalize carD f g 16 * Q = c at h ⊢
  omega
theorem addD_lt (f g : Nat → Nat) {j : Nat} (h : j < 16) : addD f g j < 256 := by
  unfold addD; rw [if_pos h]; omega
theorem addD_16 (f g : Nat → Nat) : addD f g 16 = carD f g 16 + f 16 + g 16 := by unfold addD; rw [if_neg (by omega)]
/-! ### the carries of a product -/
theorem valD_17 (p : Nat → Nat) : valD p 17 = p 0 + 256 * p 1 + 65536 * p 2 + 16777216 * p 3 + 4294967296 * p 4 + 1099511627776 * p 5 + 281474976710656 * p 6 + 72057594037927936 * p 7 + 18446744073709551616 * p 8 + 4722366482869645213696 * p 9 + 1208925819614629174706176 * p 10 + 309485009821345068724781056 * p 11 + 79228162514264337593543950336 * p 12 + 20282409603651670423947251286016 * p 13 + 5192296858534827628530496329220096 * p 14 + 1329227995784915872903807060280344576 * p 15 + 340282366920938463463374607431768211456 * p 16 := by
  simp only [valD, Nat.reducePow, Nat.zero_add]
  omega
def turnOk (n : Nat) (p : Nat → Nat) : Prop :=
  match n with
  | 0 => ∀ j, j < 17 → p j ≤ 8589934592
  | 1 => (∀ j, 0 < j → j < 16 → p j < 256) ∧ p 16 < 4 ∧ p 0 ≤ 1125899906842624
  | 2 => (∀ j, 0 < j → j < 16 → p j < 256) ∧ p 16 < 4 ∧ p 0 ≤ 260
  | _ => (∀ j, j < 16 → p j < 256) ∧ p 16 < 4
theorem turnOk_le {n : Nat} {p : Nat → Nat} (h : turnOk n p) : ∀ j, j < 17 → p j ≤ 1125899906842624 := by
  intro j hj
  unfold turnOk at h
  split at h
  · have := h j hj; omega
  · obtain ⟨h1, h2, h3⟩ := h
    by_cases e : j = 0
    · subst e; exact h3
    · by_cases e2 : j = 16
      · subst e2; omega
      · have := h1 j (by omega) (by omega); omega
  · obtain ⟨h1, h2, h3⟩ := h
    by_cases e : j = 0
    · subst e; omega
    · by_cases e2 : j = 16
      · subst e2; omega
      · have := h1 j (by omega) (by omega); omega
  · obtain ⟨h1, h2⟩ := h
    by_cases e2 : j = 16
    · subst e2; omega
    · have := h1 j (by omega); omega
theorem turn_step {n : Nat} (hn : n < 3) {p q : Nat → Nat} {c : Nat} (hp : turnOk n p) (hq : ∀ j, j < 16 → q j < 256) (hq16 : q 16 < 4) (hv : valD q 17 + c * 1361129467683753853853498429727072845824 = valD p 17) :
    turnOk (n + 1) (upd q 0 (q 0 + 5 * c)) ∧ valD (upd q 0 (q 0 + 5 * c)) 17 % PQ = valD p 17 % PQ := by
  have hu := valD_upd q 0 (q 0 + 5 * c) 17 (by omega)
  simp only [Nat.pow_zero, Nat.mul_one] at hu
  refine ⟨?_, by unfold PQ; omega⟩
  have d : ∀ j, 0 < j → j < 16 → upd q 0 (q 0 + 5 * c) j < 256 := fun j h1 h2 => by rw [upd_ne (by omega)]; exact hq j h2
  have d16 : upd q 0 (q 0 + 5 * c) 16 < 4 := by rw [upd_ne (by omega)]; exact hq16
  have d0 : upd q 0 (q 0 + 5 * c) 0 = q 0 + 5 * c := upd_self _ _ _
  have q0 := hq 0 (by omega)
  have big : ∀ B, (∀ j, 0 < j → j < 16 → p j < 256) → p 16 < 4 → p 0 ≤ B → valD p 17 ≤ 1361129467683753853853498429727072845568 + B := by
    intro B h1 h2 h3
    rw [valD_17]
    have := h1 1 (by omega) (by omega); have := h1 2 (by omega) (by omega); have := h1 3 (by omega) (by omega); have := h1 4 (by omega) (by omega); have := h1 5 (by omega) (by omega)
    have := h1 6 (by omega) (by omega); have := h1 7 (by omega) (by omega); have := h1 8 (by omega) (by omega); have := h1 9 (by omega) (by omega); have := h1 10 (by omega) (by omega)
    have := h1 11 (by omega) (by omega); have := h1 12 (by omega) (by omega); have := h1 13 (by omega) (by omega); have := h1 14 (by omega) (by omega); have := h1 15 (by omega) (by omega)
    omega
  have q0v : q 0 ≤ valD q 17 := by rw [valD_17]; omega
  match n, hn, hp with
  | 0, _, hp =>
    have h := valD_le (n := 17) hp
    simp only [Nat.reducePow] at h
    exact ⟨d, d16, by rw [d0]; omega⟩
  | 1, _, ⟨h1, h2, h3⟩ =>
    have h := big _ h1 h2 h3
    exact ⟨d, d16, by rw [d0]; omega⟩
  | 2, _, ⟨h1, h2, h3⟩ =>
    have h := big _ h1 h2 h3
    refine ⟨fun j hj => ?_, d16⟩
    by_cases e : j = 0
    · subst e; rw [d0]; omega
    · exact d j (by omega) hj
/-! ### one product more -/
theorem mul_lo {p g : Nat → Nat} {X i k a b : Nat} (hm : i + k < 17) (h : valD p 17 % PQ = (X + a * 256 ^ i * valD g k) % PQ) (hb : b = g k) :
    valD (upd p (i + k) (p (i + k) + a * b)) 17 % PQ = (X + a * 256 ^ i * valD g (k + 1)) % PQ := by
  have hu := valD_upd p (i + k) (p (i + k) + a * b) 17 hm
  rw [Nat.add_mul] at hu
  have e : a * 256 ^ i * valD g (k + 1) = a * 256 ^ i * valD g k + a * b * 256 ^ (i + k) := by
    rw [valD, Nat.mul_add, hb, Nat.pow_add]
    congr 1
    rw [Nat.mul_mul_mul_comm]
  rw [e]
  generalize a * b * 256 ^ (i + k) = z at hu ⊢
  generalize a * 256 ^ i * valD g k = y at h ⊢
  unfold PQ at h ⊢
  omega
theorem mul_hi {p g : Nat → Nat} {X i k a b m : Nat} (hm : i + k = m + 17) (h17 : m < 17) (h : valD p 17 % PQ = (X + a * 256 ^ i * valD g k) % PQ) (hb : b = g k) :
    valD (upd p m (p m + 320 * (a * b))) 17 % PQ = (X + a * 256 ^ i * valD g (k + 1)) % PQ := by
  have hu := valD_upd p m (p m + 320 * (a * b)) 17 h17
  rw [Nat.add_mul, Nat.mul_assoc 320] at hu
  have e : a * 256 ^ i * valD g (k + 1) = a * 256 ^ i * valD g k + 87112285931760246646623899502532662132736 * (a * b * 256 ^ m) := by
    rw [valD, Nat.mul_add, hb]
    congr 1
    rw [Nat.mul_mul_mul_comm, ← Nat.pow_add, hm, Nat.pow_add, show (256 : Nat) ^ 17 = 87112285931760246646623899502532662132736 by decide]
    rw [← Nat.mul_assoc, Nat.mul_comm]
  rw [e]
  generalize a * b * 256 ^ m = z at hu ⊢
  generalize a * 256 ^ i * valD g k = y at h ⊢
  unfold PQ at h ⊢
  omega
def unitF (z : Nat) : Nat → Nat := fun j => if j = 0 then z else 0
theorem unitF_val (z : Nat) : valD (unitF z) 17 = z := by rw [valD_17]; simp [unitF]
def NormD (p : Nat → Nat) : Prop := (∀ j, j < 16 → p j < 256) ∧ p 16 < 4
/-- A carry's weight. -/
def wgt (i : Nat) : Nat := if i < 17 then 256 ^ i else 1361129467683753853853498429727072845824
theorem carry_step {p q : Nat → Nat} {c i : Nat} (hi : i < 16) (hv : valD q 17 + c * wgt i = valD p 17) (e : q i = p i) :
    valD (upd q i ((c + p i) % 256)) 17 + (c + p i) / 256 * wgt (i + 1) = valD p 17 := by
  have hu := valD_upd q i ((c + p i) % 256) 17 (by omega)
  have h1 : (c + p i) % 256 * 256 ^ i + (c + p i) / 256 * wgt (i + 1) = (c + p i) * 256 ^ i := by
    unfold wgt
    rw [if_pos (by omega), Nat.pow_succ, Nat.mul_comm (256 ^ i) 256, ← Nat.mul_assoc, ← Nat.add_mul]
    congr 1; omega
  have h2 : wgt i = 256 ^ i := by unfold wgt; rw [if_pos (by omega)]
  rw [h2] at hv
  rw [Nat.add_mul, ← e] at h1
  rw [← e]
  rw [← e] at hu
  generalize wgt (i + 1) = W at h1 ⊢
  generalize (c + q i) / 256 * W = A at h1 ⊢
  generalize (c + q i) % 256 * 256 ^ i = B at h1 hu
  generalize c * 256 ^ i = C at h1 hv
  omega
theorem carry_last {p q : Nat → Nat} {c : Nat} (hv : valD q 17 + c * wgt 16 = valD p 17) (e : q 16 = p 16) :
    valD (upd q 16 ((c + p 16) % 4)) 17 + (c + p 16) / 4 * wgt 17 = valD p 17 := by
  have hu := valD_upd q 16 ((c + p 16) % 4) 17 (by omega)
  have h2 : wgt 16 = 256 ^ 16 := rfl
  have h3 : wgt 17 = 4 * 256 ^ 16 := by decide
  rw [h2] at hv
  rw [h3]
  rw [e] at hu
  generalize 256 ^ 16 = W at hu hv ⊢
  have h1 : (c + p 16) % 4 * W + (c + p 16) / 4 * (4 * W) = c * W + p 16 * W := by
    rw [← Nat.mul_assoc, ← Nat.add_mul, ← Nat.add_mul]
    congr 1; omega
  generalize (c + p 16) / 4 * (4 * W) = A at h1 ⊢
  generalize (c + p 16) % 4 * W = B at h1 hu
  generalize c * W = C at h1 hv
  omega
theorem norm_lt {p : Nat → Nat} (h : NormD p) : valD p 17 < 1361129467683753853853498429727072845824 := by
  obtain ⟨h1, h2⟩ := h
  have h3 := valD_lt (f := p) (n := 16) h1
  have e : valD p 17 = valD p 16 + p 16 * 256 ^ 16 := rfl
  have h4 : p 16 * 256 ^ 16 ≤ 3 * 256 ^ 16 := Nat.mul_le_mul_right _ (by omega)
  rw [e]
  exact Nat.lt_of_lt_of_le (Nat.add_lt_add_of_lt_of_le h3 h4) (by decide)
theorem norm_255 {p : Nat → Nat} (h : NormD p) : ∀ j, j < 17 → p j < 256 := by
  intro j hj
  by_cases e : j = 16
  · subst e; have := h.2; omega
  · exact h.1 j (by omega)
/-- Five more, and what is above. -/
theorem least_hi {q : Nat → Nat} (hq : NormD q) (h : 4 ≤ addD q (unitF 5) 16) :
    NormD (upd (addD q (unitF 5)) 16 (addD q (unitF 5) 16 % 4)) ∧ valD (upd (addD q (unitF 5)) 16 (addD q (unitF 5) 16 % 4)) 17 = valD q 17 % PQ := by
  have hv := addD_val q (unitF 5)
  rw [unitF_val] at hv
  have hlt := norm_lt hq
  have hd : ∀ j, j < 16 → addD q (unitF 5) j < 256 := fun j hj => addD_lt _ _ hj
  generalize addD q (unitF 5) = g at h hv hd ⊢
  refine ⟨⟨fun j hj => by rw [upd_ne (by omega)]; exact hd j hj, by rw [upd_self]; omega⟩, ?_⟩
  have hu := valD_upd g 16 (g 16 % 4) 17 (by omega)
  have h3 := valD_lt (f := g) (n := 16) hd
  have e : valD g 17 = valD g 16 + g 16 * 256 ^ 16 := rfl
  have e2 : (256 : Nat) ^ 16 = 340282366920938463463374607431768211456 := by decide
  rw [e2] at hu h3 e
  have g8 : g 16 < 8 := by
    rcases Nat.lt_or_ge (g 16) 8 with x | x
    · exact x
    · have := Nat.mul_le_mul_right 340282366920938463463374607431768211456 x
      obtain ⟨y, hy⟩ : ∃ y, g 16 * 340282366920938463463374607431768211456 = y := ⟨_, rfl⟩
      rw [hy] at e this
      clear hu
      omega
  have g4 : g 16 % 4 + 4 = g 16 := by omega
  have e3 : g 16 * 340282366920938463463374607431768211456 = g 16 % 4 * 340282366920938463463374607431768211456 + 1361129467683753853853498429727072845824 := by
    rw [← g4, Nat.add_mul, g4]
  rw [e3] at hu e
  obtain ⟨y, hy⟩ : ∃ y, g 16 % 4 * 340282366920938463463374607431768211456 = y := ⟨_, rfl⟩
  rw [hy] at hu e
  generalize valD (upd g 16 (g 16 % 4)) 17 = v at hu ⊢
  have hge : PQ ≤ valD q 17 := by unfold PQ; omega
  rw [Nat.mod_eq_sub_mod hge, Nat.mod_eq_of_lt (by unfold PQ; omega)]
  unfold PQ; omega
theorem least_lo {q : Nat → Nat} (hq : NormD q) (h : ¬ 4 ≤ addD q (unitF 5) 16) : valD q 17 = valD q 17 % PQ := by
  have hv := addD_val q (unitF 5)
  rw [unitF_val] at hv
  have hd : ∀ j, j < 16 → addD q (unitF 5) j < 256 := fun j hj => addD_lt _ _ hj
  have hn := norm_lt (p := addD q (unitF 5)) ⟨hd, by omega⟩
  rw [Nat.mod_eq_of_lt (by unfold PQ; omega)]
end Go.Bb
/- The tag, as numbers: plain laws. -/
namespace Go.Bb
set_option linter.unusedSimpArgs false
set_option linter.unusedVariables false
set_option maxRecDepth 20000

theorem valD_shift (f : Nat → Nat) : ∀ n, valD f (n + 1) = f 0 + 256 * valD (fun j => f (j + 1)) n
  | 0 => by simp [valD]
  | n + 1 => by
    rw [valD, valD_shift f n, valD, Nat.pow_succ]
    rw [Nat.mul_add, ← Nat.add_assoc, Nat.mul_comm (256 ^ n) 256, Nat.mul_left_comm]
theorem valD_leN : ∀ l : List UInt8, valD (fun j => (l.getD j 0).toNat) l.length = leN l
  | [] => rfl
  | b :: l => by
    rw [List.length_cons, valD_shift, leN]
    have := valD_leN l
    simp only [List.getD_eq_getElem?_getD, List.getElem?_cons_zero, Option.getD_some, List.getElem?_cons_succ] at this ⊢
    rw [this]
theorem valD_zero (n : Nat) : valD (fun _ => 0) n = 0 := by
  induction n with
  | zero => rfl
  | succ n ih => rw [valD, ih]; simp
theorem valD_blend (B : Nat → Nat) (n : Nat) : ∀ N, n ≤ N → valD (blendF B (fun _ => 0) n) N = valD B n
  | 0, h => by
    have : n = 0 := by omega
    subst this; rfl
  | N + 1, h => by
    by_cases e : n = N + 1
    · subst e
      exact valD_congr fun j hj => blendF_lt hj
    · rw [valD, valD_blend B n N (by omega), blendF_ge (by omega)]; simp
/-- A block, with its end. -/
def endD (l : List UInt8) : Nat → Nat := upd (blendF (fun j => (l.getD j 0).toNat) (fun _ => 0) l.length) l.length 1
theorem endD_val (l : List UInt8) (h : l.length ≤ 16) : valD (endD l) 17 = leN l + 256 ^ l.length := by
  unfold endD
  have hu := valD_upd (blendF (fun j => (l.getD j 0).toNat) (fun _ => 0) l.length) l.length 1 17 (by omega)
  rw [blendF_at, valD_blend _ _ _ (by omega), valD_leN] at hu
  omega
theorem endD_lt (l : List UInt8) (j : Nat) : endD l j < 256 := by
  unfold endD
  by_cases e : j = l.length
  · rw [e, upd_self]; omega
  · rw [upd_ne e]
    by_cases e2 : j < l.length
    · rw [blendF_lt e2]; exact (l.getD j 0).toNat_lt
    · rw [blendF_ge (by omega)]; omega
theorem carD_1 {f g : Nat → Nat} (hf : ∀ j, j < 17 → f j < 256) (hg : ∀ j, j < 17 → g j < 256) : ∀ i, i ≤ 17 → carD f g i ≤ 1
  | 0, _ => by simp [carD]
  | i + 1, h => by
    have := carD_1 hf hg i (by omega)
    have := hf i (by omega)
    have := hg i (by omega)
    rw [carD]; omega
theorem sum_lt {q g : Nat → Nat} (hq : NormD q) (hg : ∀ j, j < 17 → g j < 256) (h16 : g 16 ≤ 1) : ∀ j, j < 17 → addD q g j < 256 := by
  intro j hj
  by_cases e : j = 16
  · subst e
    rw [addD_16]
    have := carD_1 (norm_255 hq) hg 16 (by omega)
    have := hq.2
    omega
  · exact addD_lt _ _ (by omega)
theorem endD_16 (l : List UInt8) (h : l.length ≤ 16) : endD l 16 ≤ 1 := by
  unfold endD
  by_cases e : 16 = l.length
  · rw [← e, upd_self]; omega
  · rw [upd_ne e, blendF_ge (by omega)]; omega
def blkV (l : List UInt8) : Nat := leN l + 256 ^ l.length
def polyH (R acc : Nat) (l : List UInt8) : Nat :=
  if h : 0 < l.length then polyH R ((acc + blkV (l.take 16)) * R % PQ) (l.drop 16) else acc
termination_by l.length
decreasing_by simp; omega
theorem polyH_more {R acc : Nat} {l : List UInt8} (h : 0 < l.length) : polyH R acc l = polyH R ((acc + blkV (l.take 16)) * R % PQ) (l.drop 16) := by
  rw [polyH, dif_pos h]
theorem polyH_done {R acc : Nat} {l : List UInt8} (h : ¬ 0 < l.length) : polyH R acc l = acc := by
  rw [polyH, dif_neg h]
theorem mod_step (a b R : Nat) : (a % PQ + b) * R % PQ = (a + b) * R % PQ := by
  rw [Nat.mul_mod, Nat.mod_add_mod, ← Nat.mul_mod]
def rD (w : List UInt8) : Nat → Nat := blendF (fun j => (keyR w j).toNat) (fun _ => 0) 16
theorem rD_lt (w : List UInt8) (j : Nat) : rD w j < 256 := by
  unfold rD
  by_cases e2 : j < 16
  · rw [blendF_lt e2]; exact (keyR w j).toNat_lt
  · rw [blendF_ge (by omega)]; omega
def sD (w : List UInt8) : Nat → Nat := blendF (fun j => (w.getD (16 + j) 0).toNat) (fun _ => 0) 16
theorem sD_lt (w : List UInt8) (j : Nat) : sD w j < 256 := by
  unfold sD
  by_cases e2 : j < 16
  · rw [blendF_lt e2]; exact (w.getD (16 + j) 0).toNat_lt
  · rw [blendF_ge (by omega)]; omega
theorem sD_val (w : List UInt8) (h : w.length = 32) : valD (sD w) 17 = leN (w.drop 16) := by
  unfold sD
  rw [valD_blend _ _ _ (by omega), ← valD_leN, List.length_drop, h]
  apply valD_congr
  intro j hj
  simp [List.getD_eq_getElem?_getD, List.getElem?_drop]
theorem rD_val (w : List UInt8) : valD (rD w) 17 = leN (rowL (keyR w) 16) := by
  unfold rD
  rw [valD_blend _ _ _ (by omega), ← valD_leN, rowL_len]
  apply valD_congr
  intro j hj
  simp [List.getD_eq_getElem?_getD, rowL, hj]
/-- The document's tag. -/
def tagR (w l : List UInt8) (i : Nat) : UInt8 := UInt8.ofNat ((polyH (leN (rowL (keyR w) 16)) 0 l + leN (w.drop 16)) / 256 ^ i)
end Go.Bb
/- The program's tag is the document's: plain laws of numbers. -/
namespace Go.Bb
set_option linter.unusedSimpArgs false
set_option linter.unusedVariables false
set_option maxRecDepth 20000

theorem N3.val_eq (x : N3) : x.val = x.a + 18446744073709551616 * x.b + 340282366920938463463374607431768211456 * x.c := rfl
theorem N3.plus_lt {x y : N3} (h : x.val + y.val < 6277101735386680763835789423207666416102355444464034512896) : (x.plus y).val = x.val + y.val := by
  rw [N3.plus_val, Nat.mod_eq_of_lt h]
theorem pair_val (p : Nat) : (⟨p % 18446744073709551616, p / 18446744073709551616, 0⟩ : N3).val = p := by
  rw [N3.val_eq]
  show p % 18446744073709551616 + 18446744073709551616 * (p / 18446744073709551616) + 340282366920938463463374607431768211456 * 0 = p
  omega
theorem N3.col_val {s : N3} {a b : Nat} (h : s.val + a * b < 6277101735386680763835789423207666416102355444464034512896) : (s.col a b).val = s.val + a * b := by
  unfold N3.col
  rw [N3.plus_lt (by rw [pair_val]; exact h), pair_val]
theorem N3.cut_val {x : N3} (hx : x.ok) : x.cut.val = x.val % 1361129467683753853853498429727072845824 + 5 * (x.val / 1361129467683753853853498429727072845824) := by
  obtain ⟨ha, hb, hc⟩ := hx
  have e1 : (⟨x.a, x.b, x.c % 4⟩ : N3).val = x.a + 18446744073709551616 * x.b + 340282366920938463463374607431768211456 * (x.c % 4) := rfl
  have e2 := pair_val (x.c / 4 * 5)
  unfold N3.cut
  rw [N3.plus_lt (by rw [e1, e2]; omega), e1, e2, N3.val_eq]
  omega
theorem N3.carry_val {x y : N3} (h : x.val + y.val < 6277101735386680763835789423207666416102355444464034512896) : (⟨(x.plus y).b, (x.plus y).c, 0⟩ : N3).val = (x.val + y.val) / 18446744073709551616 ∧ (x.plus y).a = (x.val + y.val) % 18446744073709551616 := by
  obtain ⟨ha, hb, hc⟩ := N3.plus_ok x y
  have hv := N3.plus_lt h
  rw [N3.val_eq] at hv
  have e1 : (⟨(x.plus y).b, (x.plus y).c, 0⟩ : N3).val = (x.plus y).b + 18446744073709551616 * (x.plus y).c + 340282366920938463463374607431768211456 * 0 := rfl
  rw [e1]
  omega
theorem z3_val : z3.val = 0 := rfl
/-- Four columns, carried. -/
theorem outs (C : Nat → N3) (h0 : (C 0).val < 170141183460469231731687303715884105728) (h1 : (C 1).val < 170141183460469231731687303715884105728) (h2 : (C 2).val < 170141183460469231731687303715884105728) (h3 : (C 3).val < 9000000000000000000) :
    outW C 0 + 18446744073709551616 * outW C 1 + 340282366920938463463374607431768211456 * outW C 2 + 6277101735386680763835789423207666416102355444464034512896 * outW C 3 =
      (C 0).val + 18446744073709551616 * (C 1).val + 340282366920938463463374607431768211456 * (C 2).val + 6277101735386680763835789423207666416102355444464034512896 * (C 3).val := by
  have k0 : (carryF C 0).val = 0 := rfl
  obtain ⟨v0, w0⟩ := N3.carry_val (x := carryF C 0) (y := C 0) (by omega)
  have k1 : (carryF C 1).val = ((carryF C 0).val + (C 0).val) / 18446744073709551616 := v0
  obtain ⟨v1, w1⟩ := N3.carry_val (x := carryF C 1) (y := C 1) (by omega)
  have k2 : (carryF C 2).val = ((carryF C 1).val + (C 1).val) / 18446744073709551616 := v1
  obtain ⟨v2, w2⟩ := N3.carry_val (x := carryF C 2) (y := C 2) (by omega)
  have k3 : (carryF C 3).val = ((carryF C 2).val + (C 2).val) / 18446744073709551616 := v2
  obtain ⟨v3, w3⟩ := N3.carry_val (x := carryF C 3) (y := C 3) (by omega)
  have o0 : outW C 0 = ((carryF C 0).val + (C 0).val) % 18446744073709551616 := w0
  have o1 : outW C 1 = ((carryF C 1).val + (C 1).val) % 18446744073709551616 := w1
  have o2 : outW C 2 = ((carryF C 2).val + (C 2).val) % 18446744073709551616 := w2
  have o3 : outW C 3 = ((carryF C 3).val + (C 3).val) % 18446744073709551616 := w3
  rw [o0, o1, o2, o3]
  clear v0 v1 v2 v3 w0 w1 w2 w3 o0 o1 o2 o3
  omega
theorem adds5 {x y : N3} (h : x.val + 5 * y.val < 6277101735386680763835789423207666416102355444464034512896) : (addsF x y 5).val = x.val + 5 * y.val := by
  have a1 : (addsF x y 1).val = x.val + y.val := by rw [show addsF x y 1 = x.plus y from rfl, N3.plus_lt (by omega)]
  have a2 : (addsF x y 2).val = x.val + 2 * y.val := by rw [show addsF x y 2 = (addsF x y 1).plus y from rfl, N3.plus_lt (by omega), a1]; omega
  have a3 : (addsF x y 3).val = x.val + 3 * y.val := by rw [show addsF x y 3 = (addsF x y 2).plus y from rfl, N3.plus_lt (by omega), a2]; omega
  have a4 : (addsF x y 4).val = x.val + 4 * y.val := by rw [show addsF x y 4 = (addsF x y 3).plus y from rfl, N3.plus_lt (by omega), a3]; omega
  rw [show addsF x y 5 = (addsF x y 4).plus y from rfl, N3.plus_lt (by omega), a4]; omega
theorem mul_bound {a b A B : Nat} (ha : a ≤ A) (hb : b ≤ B) : a * b ≤ A * B := Nat.mul_le_mul ha hb
theorem N3.times_val {x : N3} {r0 r1 : Nat} (hx : x.ok) (hv : x.val < 2722258935367507707706996859454145691648) (h0 : r0 < 1152921504606846976) (h1 : r1 < 1152921504606846976) :
    (x.times r0 r1).val % PQ = x.val * (r0 + 18446744073709551616 * r1) % PQ ∧ (x.times r0 r1).val < 1361129467683753853853498429727072846000 := by
  obtain ⟨ha, hb, hc⟩ := hx
  rw [N3.val_eq] at hv
  have hc8 : x.c < 8 := by omega
  have p00 := mul_bound (show x.a ≤ 18446744073709551615 by omega) (show r0 ≤ 1152921504606846975 by omega)
  have p01 := mul_bound (show x.a ≤ 18446744073709551615 by omega) (show r1 ≤ 1152921504606846975 by omega)
  have p10 := mul_bound (show x.b ≤ 18446744073709551615 by omega) (show r0 ≤ 1152921504606846975 by omega)
  have p11 := mul_bound (show x.b ≤ 18446744073709551615 by omega) (show r1 ≤ 1152921504606846975 by omega)
  have p20 := mul_bound (show x.c ≤ 7 by omega) (show r0 ≤ 1152921504606846975 by omega)
  have p21 := mul_bound (show x.c ≤ 7 by omega) (show r1 ≤ 1152921504606846975 by omega)
  simp only [Nat.reduceMul] at p00 p01 p10 p11 p20 p21
  have c0 : (colsF x r0 r1 0).val = x.a * r0 := by
    show (z3.col x.a r0).val = _
    rw [N3.col_val (by rw [z3_val]; omega), z3_val, Nat.zero_add]
  have c1 : (colsF x r0 r1 1).val = x.a * r1 + x.b * r0 := by
    show ((z3.col x.a r1).col x.b r0).val = _
    have e : (z3.col x.a r1).val = x.a * r1 := by rw [N3.col_val (by rw [z3_val]; omega), z3_val, Nat.zero_add]
    rw [N3.col_val (by rw [e]; omega), e]
  have c2 : (colsF x r0 r1 2).val = x.b * r1 + x.c * r0 := by
    show ((z3.col x.b r1).col x.c r0).val = _
    have e : (z3.col x.b r1).val = x.b * r1 := by rw [N3.col_val (by rw [z3_val]; omega), z3_val, Nat.zero_add]
    rw [N3.col_val (by rw [e]; omega), e]
  have c3 : (colsF x r0 r1 3).val = x.c * r1 := by
    show (z3.col x.c r1).val = _
    rw [N3.col_val (by rw [z3_val]; omega), z3_val, Nat.zero_add]
  have ho := outs (colsF x r0 r1) (by rw [c0]; omega) (by rw [c1]; omega) (by rw [c2]; omega) (by rw [c3]; omega)
  rw [c0, c1, c2, c3] at ho
  have l0 := outW_lt (colsF x r0 r1) 0
  have l1 := outW_lt (colsF x r0 r1) 1
  have l2 := outW_lt (colsF x r0 r1) 2
  have l3 := outW_lt (colsF x r0 r1) 3
  have eT : x.val * (r0 + 18446744073709551616 * r1) = x.a * r0 + 18446744073709551616 * (x.a * r1 + x.b * r0) + 340282366920938463463374607431768211456 * (x.b * r1 + x.c * r0) + 6277101735386680763835789423207666416102355444464034512896 * (x.c * r1) := by
    rw [N3.val_eq, Nat.mul_add, Nat.add_mul, Nat.add_mul, Nat.mul_left_comm _ 18446744073709551616 r1, Nat.add_mul, Nat.add_mul, Nat.mul_assoc, Nat.mul_assoc, Nat.mul_assoc, Nat.mul_assoc]
    omega
  have vl : (lowF (colsF x r0 r1)).val = outW (colsF x r0 r1) 0 + 18446744073709551616 * outW (colsF x r0 r1) 1 + 340282366920938463463374607431768211456 * (outW (colsF x r0 r1) 2 % 4) := rfl
  have vh : (highF (colsF x r0 r1)).val = outW (colsF x r0 r1) 2 / 4 + outW (colsF x r0 r1) 3 % 4 * 4611686018427387904 + 18446744073709551616 * (outW (colsF x r0 r1) 3 / 4) := by
    show outW (colsF x r0 r1) 2 / 4 + outW (colsF x r0 r1) 3 % 4 * 4611686018427387904 + 18446744073709551616 * (outW (colsF x r0 r1) 3 / 4) + 340282366920938463463374607431768211456 * 0 = _
    omega
  have h5 : (addsF (lowF (colsF x r0 r1)) (highF (colsF x r0 r1)) 5).val = (lowF (colsF x r0 r1)).val + 5 * (highF (colsF x r0 r1)).val := adds5 (by rw [vl, vh]; omega)
  have hcut := N3.cut_val (x := addsF (lowF (colsF x r0 r1)) (highF (colsF x r0 r1)) 5) (addsF_ok (lowF_ok _) 5)
  rw [eT, ← ho]
  show (addsF (lowF (colsF x r0 r1)) (highF (colsF x r0 r1)) 5).cut.val % PQ = _ ∧ (addsF (lowF (colsF x r0 r1)) (highF (colsF x r0 r1)) 5).cut.val < _
  rw [hcut, h5, vl, vh]
  clear hcut h5 vl vh eT ho c0 c1 c2 c3 p00 p01 p10 p11 p20 p21
  generalize outW (colsF x r0 r1) 0 = o0 at *
  generalize outW (colsF x r0 r1) 1 = o1 at *
  generalize outW (colsF x r0 r1) 2 = o2 at *
  generalize outW (colsF x r0 r1) 3 = o3 at *
  unfold PQ
  constructor
  · omega
  · omega
/-- The last step. -/
theorem N3.last_val {x : N3} (hx : x.ok) (hv : x.val < 2722258935367507707706996859454145691648) : x.last.val = x.val % PQ := by
  have v1 := N3.cut_val hx
  have v2 := N3.cut_val (N3.cut_ok x)
  have e5 : (⟨5, 0, 0⟩ : N3).val = 5 := rfl
  have v3 : (x.cut.cut.plus ⟨5, 0, 0⟩).val = x.cut.cut.val + 5 := by rw [N3.plus_lt (by rw [e5]; omega), e5]
  obtain ⟨ga, gb, gc⟩ := N3.plus_ok x.cut.cut ⟨5, 0, 0⟩
  unfold N3.last
  unfold PQ
  have b1 : x.cut.val < 1361129467683753853853498429727072845829 ∧ x.cut.val % 1361129467683753853853498429727072845819 = x.val % 1361129467683753853853498429727072845819 := by omega
  have b2 : x.cut.cut.val < 1361129467683753853853498429727072845824 ∧ x.cut.cut.val % 1361129467683753853853498429727072845819 = x.cut.val % 1361129467683753853853498429727072845819 := by
    clear v1
    omega
  rw [← b1.2, ← b2.2]
  replace b2 := b2.1
  clear v1 v2 b1
  by_cases h : 3 < (x.cut.cut.plus ⟨5, 0, 0⟩).c
  · rw [if_pos h]
    have e : (⟨(x.cut.cut.plus ⟨5, 0, 0⟩).a, (x.cut.cut.plus ⟨5, 0, 0⟩).b, (x.cut.cut.plus ⟨5, 0, 0⟩).c % 4⟩ : N3).val = (x.cut.cut.plus ⟨5, 0, 0⟩).a + 18446744073709551616 * (x.cut.cut.plus ⟨5, 0, 0⟩).b + 340282366920938463463374607431768211456 * ((x.cut.cut.plus ⟨5, 0, 0⟩).c % 4) := rfl
    rw [e]
    rw [N3.val_eq (x.cut.cut.plus _)] at v3
    generalize (x.cut.cut.plus ⟨5, 0, 0⟩).a = a at *
    generalize (x.cut.cut.plus ⟨5, 0, 0⟩).b = b at *
    generalize (x.cut.cut.plus ⟨5, 0, 0⟩).c = c at *
    have c4 : c = 4 := by omega
    subst c4
    rw [show (4 : Nat) % 4 = 0 from rfl, Nat.mod_eq_sub_mod (by omega), Nat.mod_eq_of_lt (by omega)]
    omega
  · rw [if_neg h]
    rw [N3.val_eq (x.cut.cut.plus _)] at v3
    generalize (x.cut.cut.plus ⟨5, 0, 0⟩).a = a at *
    generalize (x.cut.cut.plus ⟨5, 0, 0⟩).b = b at *
    generalize (x.cut.cut.plus ⟨5, 0, 0⟩).c = c at *
    omega
end Go.Bb
/- The program's tag is the document's. -/
namespace Go.Bb
set_option linter.unusedSimpArgs false
set_option linter.unusedVariables false
set_option maxRecDepth 20000

theorem keyR_15 (w : List UInt8) (k : Nat) (h : k = 7 ∨ k = 15) : (keyR w k).toNat ≤ 15 := by
  have e : keyR w k = (w.getD k 0) &&& 15 := by
    unfold keyR clampG clB clA
    rw [if_neg (by omega), if_pos (by omega)]
  rw [e, UInt8.toNat_and]
  exact Nat.and_le_right
theorem leN_top (a : List UInt8) (b : UInt8) (ha : a.length = 7) (hb : b.toNat ≤ 15) : leN (a ++ [b]) < 1152921504606846976 := by
  have h1 := leN_lt a
  rw [ha] at h1
  rw [leN_append, ha]
  have e : leN [b] = b.toNat := by simp [leN]
  rw [e]
  simp only [Nat.reducePow] at h1 ⊢
  omega
theorem keyK_nat (w : List UInt8) (i : Nat) (hi : i < 2) : keyK w i = leN (((rowL (keyR w) 16).drop (8 * i)).take 8) := by
  unfold keyK
  rw [fromLittleF_nat _ (by simp; omega)]
theorem row_cut (f : Nat → UInt8) (i : Nat) (hi : i < 2) : ((rowL f 16).drop (8 * i)).take 8 = ((rowL f 16).drop (8 * i)).take 7 ++ [f (8 * i + 7)] := by
  match i, hi with
  | 0, _ => rfl
  | 1, _ => rfl
theorem keyK_lt (w : List UInt8) (i : Nat) (hi : i < 2) : keyK w i < 1152921504606846976 := by
  rw [keyK_nat w i hi, row_cut _ i hi]
  exact leN_top _ _ (by simp [rowL_len]; omega) (keyR_15 w _ (by omega))
theorem key_val (w : List UInt8) : keyK w 0 + 18446744073709551616 * keyK w 1 = leN (rowL (keyR w) 16) := by
  rw [keyK_nat w 0 (by omega), keyK_nat w 1 (by omega)]
  have e : rowL (keyR w) 16 = ((rowL (keyR w) 16).drop (8 * 0)).take 8 ++ ((rowL (keyR w) 16).drop (8 * 1)).take 8 := by
    rw [Nat.mul_zero, List.drop_zero, Nat.mul_one, List.take_of_length_le (l := (rowL (keyR w) 16).drop 8) (by simp [rowL_len]), List.take_append_drop]
  have l8 : (((rowL (keyR w) 16).drop (8 * 0)).take 8).length = 8 := by simp [rowL_len]
  conv => rhs; rw [e]
  rw [leN_append, l8]
theorem leN_zeros (n : Nat) : leN (List.replicate n 0) = 0 := leN_zero n
theorem blockN_val (l : List UInt8) : (blockN l).val = blkV (l.take 16) := by
  have ht : (l.take 16).length ≤ 16 := by simp; omega
  have key : ∀ t : List UInt8, t.length ≤ 16 → leN ((t ++ [1] ++ List.replicate (32 - t.length) 0).take 8) + 18446744073709551616 * leN (((t ++ [1] ++ List.replicate (32 - t.length) 0).drop 8).take 8) + 340282366920938463463374607431768211456 * ((t ++ [1] ++ List.replicate (32 - t.length) 0).getD 16 0).toNat = blkV t := by
    intro t h
    have hB : (t ++ [1] ++ List.replicate (32 - t.length) 0).length = 33 := by simp; omega
    have h17 : (t ++ [1] ++ List.replicate (32 - t.length) (0 : UInt8)).take 17 = t ++ [1] ++ List.replicate (16 - t.length) 0 := by
      rw [List.take_append, List.take_of_length_le (by simp; omega)]
      congr 1
      simp
      omega
    have e : (t ++ [1] ++ List.replicate (32 - t.length) (0 : UInt8)).take 17 = (t ++ [1] ++ List.replicate (32 - t.length) 0).take 8 ++ (((t ++ [1] ++ List.replicate (32 - t.length) 0).drop 8).take 8 ++ [(t ++ [1] ++ List.replicate (32 - t.length) 0).getD 16 0]) := by
      generalize t ++ [1] ++ List.replicate (32 - t.length) (0 : UInt8) = B at hB
      apply List.ext_getElem
      · simp [hB]
      · intro i h1 h2
        have hi : i < 17 := by simp at h1; omega
        rw [List.getElem_take, List.getElem_append]
        split
        · rw [List.getElem_take]
        · rename_i g1
          rw [List.getElem_append]
          split
          · rw [List.getElem_take, List.getElem_drop]
            congr 1
            simp [hB] at g1 ⊢
            omega
          · rename_i g2
            simp [hB] at g1 g2
            have : i = 16 := by omega
            subst this
            simp [List.getD_eq_getElem?_getD, hB]
    have hv : leN ((t ++ [1] ++ List.replicate (32 - t.length) (0 : UInt8)).take 17) = blkV t := by
      rw [h17, leN_append, leN_append, leN_zeros]
      unfold blkV
      simp [leN]
    rw [← hv, e, leN_append, leN_append]
    have l1 : ((t ++ [1] ++ List.replicate (32 - t.length) (0 : UInt8)).take 8).length = 8 := by simp only [List.length_take, hB]; rfl
    have l2 : (((t ++ [1] ++ List.replicate (32 - t.length) (0 : UInt8)).drop 8).take 8).length = 8 := by simp only [List.length_take, List.length_drop, hB]; rfl
    rw [l1, l2]
    have e1 : ∀ b : UInt8, leN [b] = b.toNat := fun b => by simp [leN]
    rw [e1]
    simp only [Nat.reducePow]
    omega
  have := key (l.take 16) ht
  rw [N3.val_eq]
  show (fromLittleF ((blockB l).take 8)).toNat + 18446744073709551616 * (fromLittleF (((blockB l).drop 8).take 8)).toNat + 340282366920938463463374607431768211456 * ((blockB l).getD 16 0).toNat = _
  rw [fromLittleF_nat _ (by simp; omega), fromLittleF_nat _ (by simp; omega)]
  exact this
theorem blkV_lt (l : List UInt8) (h : l.length ≤ 16) : blkV l < 680564733841876926926749214863536422913 := by
  have h1 := leN_lt l
  have h2 : 256 ^ l.length ≤ 256 ^ 16 := Nat.pow_le_pow_right (by decide) h
  unfold blkV
  simp only [Nat.reducePow] at h2
  omega
theorem blockN_ok (l : List UInt8) : (blockN l).ok := by
  refine ⟨?_, ?_, ?_⟩
  · exact (fromLittleF ((blockB l).take 8)).isLt
  · exact (fromLittleF (((blockB l).drop 8).take 8)).isLt
  · have := ((blockB l).getD 16 0).toNat_lt
    show ((blockB l).getD 16 0).toNat < _
    omega
theorem times_ok (x : N3) (r0 r1 : Nat) : (x.times r0 r1).ok := N3.cut_ok _
theorem tagSum_val (k0 k1 : Nat) (h0 : k0 < 1152921504606846976) (h1 : k1 < 1152921504606846976) : ∀ (n : Nat) (l : List UInt8) (s : N3), l.length ≤ n → s.ok → s.val < 1361129467683753853853498429727072846000 →
    (tagSum k0 k1 s l).ok ∧ (tagSum k0 k1 s l).val < 1361129467683753853853498429727072846000 ∧ (tagSum k0 k1 s l).val % PQ = polyH (k0 + 18446744073709551616 * k1) (s.val % PQ) l
  | 0, l, s, hn, hs, hv => by
    have : l = [] := List.eq_nil_of_length_eq_zero (by omega)
    subst this
    rw [tagSum_done (by simp), polyH_done (by simp)]
    exact ⟨hs, hv, rfl⟩
  | n + 1, l, s, hn, hs, hv => by
    by_cases hl : 0 < l.length
    · rw [tagSum_more hl, polyH_more hl]
      have hb := blkV_lt (l.take 16) (by simp; omega)
      have hbv := blockN_val l
      have hp : (s.plus (blockN l)).val = s.val + blkV (l.take 16) := by rw [N3.plus_lt (by rw [hbv]; omega), hbv]
      obtain ⟨t1, t2⟩ := N3.times_val (x := s.plus (blockN l)) (N3.plus_ok _ _) (by rw [hp]; omega) h0 h1
      obtain ⟨i1, i2, i3⟩ := tagSum_val k0 k1 h0 h1 n (l.drop 16) ((s.plus (blockN l)).times k0 k1) (by simp; omega) (times_ok _ _ _) t2
      refine ⟨i1, i2, ?_⟩
      rw [i3, t1, hp, mod_step]
    · rw [tagSum_done hl, polyH_done hl]
      exact ⟨hs, hv, rfl⟩
theorem tagA_val (r l : List UInt8) : tagA r l = polyH (leN (rowL (keyR r) 16)) 0 l := by
  unfold tagA
  obtain ⟨i1, i2, i3⟩ := tagSum_val (keyK r 0) (keyK r 1) (keyK_lt r 0 (by omega)) (keyK_lt r 1 (by omega)) l.length l z3 (Nat.le_refl _) z3_ok (by rw [z3_val]; omega)
  rw [N3.last_val i1 (by omega), i3, z3_val, Nat.zero_mod, key_val]
theorem tag_same (w l : List UInt8) (hw : w.length = 32) : tagF w l = rowL (tagR w l) 16 := by
  have lT : (tagF w l).length = 16 := by unfold tagF; rw [List.length_append, littleF_len, littleF_len]
  apply List.ext_getElem
  · rw [lT, rowL_len]
  · intro i h1 h2
    have hi : i < 16 := by omega
    have hr : (w.take 16).length = 16 := by simp [hw]
    have hs : (w.drop 16).length = 16 := by simp [hw]
    have hb := tagF_byte (w.take 16) (w.drop 16) l hr hs i hi
    rw [List.take_append_drop, tagA_val] at hb
    have hk : leN (rowL (keyR (w.take 16)) 16) = leN (rowL (keyR w) 16) := by
      rw [← key_val, ← key_val]
      have k0 := keyK_head (w.take 16) (w.drop 16) hr 0
      have k1 := keyK_head (w.take 16) (w.drop 16) hr 1
      rw [List.take_append_drop] at k0 k1
      rw [k0, k1]
    rw [hk] at hb
    have e : (rowL (tagR w l) 16)[i]'h2 = tagR w l i := by simp [rowL]
    refine Eq.trans ?_ e.symm
    unfold tagR
    rw [← hb]
    simp [List.getD_eq_getElem?_getD, h1]
end Go.Bb
/- The document's poly: plus. -/
namespace Go.Bb
set_option linter.unusedSimpArgs false
set_option linter.unusedVariables false
set_option maxRecDepth 20000
set_option maxHeartbeats 2000000

theorem ref4_plus_c (E : EnvT tab) (h : Heap) (f g : Nat → Nat) (hf : ∀ j, j < 17 → f j < 16777216) (hg : ∀ j, j < 17 → g j < 16777216) :
    ACallN E.toEnv n_bandboxref4_plus [.agg (rowK .u32 f 17).toArray, .agg (rowK .u32 g 17).toArray] h fun r h' => h.le h' ∧ r = .agg (rowK .u32 (addD f g) 17).toArray := by
  refine acall h_bandboxref4_plus ir_bandboxref4_plus rfl rfl (wpA_sound ?_)
  unfold ir_bandboxref4_plus
  simp -implicitDefEqProofs only [zB1,zB2,zB3,zB4,zB5,zB6,zB7,zB8,zB9,zB10,zB11,y00,y01,y02,y03,y04,y05,y06,y07,y08,y09,y0a,y0b,y0c,y0d,y0e,y0f,y0g,y0h,y0i,y0j,y0k,y0l,y0m,y0n,y0o,y0p,y0q,y0r,y0s,y0t,y0u,y0v,y0w,y0x,y0y,y0z,y10,y11,y12,y13,y14,y15,y16,y17,y18,y19,y1a,y1b,y1c,y1d,y1e,y1f,y1g,y1h,y1i,y1j,y1k,y1l,y1m,y1n,y1o,y1p,y1q,y1r,retO,retL,retV,z69,allV,allP,z6a,z6d,z6e,z6k,z6l,z6m,binV,eqV,unV,oOpt,reduceIte,reduceCtorEq,Nat.reduceEqDiff,Nat.reduceAdd,Nat.reduceMul,Nat.reduceLT,Nat.reduceSub,Int.reduceLT,Int.reduceLE,Int.reduceEq,Int.reduceNe,Int.reduceSub,Int.reduceAdd,Int.reduceMul,Int.reduceBEq,Int.reduceBNe,Int.reduceGT,Int.reduceGE,Nat.reduceGT,Int.reduceToNat,Int.reduceNeg,Nat.reduceLeDiff,Nat.reduceBEq,Nat.reduceBneDiff,Value.cells]
  rw [rowK_len, rowK_len]
  intro b2 hb2 b3 hb3 b4 hb4
  rw [List.length_replicate]
  obtain ⟨n32, hb3'⟩ := Heap.set_none.1 hb3
  obtain ⟨n43, hb4a⟩ := Heap.set_none.1 hb4
  obtain ⟨n42, hb4'⟩ := Heap.set_none.1 hb4a
  try simp -implicitDefEqProofs only [zB1,zB2,zB3,zB4,zB5,zB6,zB7,zB8,zB9,zB10,zB11,y00,y01,y02,y03,y04,y05,y06,y07,y08,y09,y0a,y0b,y0c,y0d,y0e,y0f,y0g,y0h,y0i,y0j,y0k,y0l,y0m,y0n,y0o,y0p,y0q,y0r,y0s,y0t,y0u,y0v,y0w,y0x,y0y,y0z,y10,y11,y12,y13,y14,y15,y16,y17,y18,y19,y1a,y1b,y1c,y1d,y1e,y1f,y1g,y1h,y1i,y1j,y1k,y1l,y1m,y1n,y1o,y1p,y1q,y1r,retO,retL,retV,z69,allV,allP,z6a,z6d,z6e,z6k,z6l,z6m,binV,eqV,unV,oOpt,reduceIte,reduceCtorEq,Nat.reduceEqDiff,Nat.reduceAdd,Nat.reduceMul,Nat.reduceLT,Nat.reduceSub,Int.reduceLT,Int.reduceLE,Int.reduceEq,Int.reduceNe,Int.reduceSub,Int.reduceAdd,Int.reduceMul,Int.reduceBEq,Int.reduceBNe,Int.reduceGT,Int.reduceGE,Nat.reduceGT,Int.reduceToNat,Int.reduceNeg,Nat.reduceLeDiff,Nat.reduceBEq,Nat.reduceBneDiff,Value.cells]
  have le0 : h.le (((h.set b2 (.own 0 (rowK .u32 f 17) 17)).set b3 (.own 0 (rowK .u32 g 17) 17)).set b4 (.own 0 (List.replicate 17 (.int .u32 0)) 17)) := Heap.le_set (Heap.le_set (Heap.le_set (Heap.le_refl _) hb2 _) hb3' _) hb4' _
  have q2 : (((h.set b2 (.own 0 (rowK .u32 f 17) 17)).set b3 (.own 0 (rowK .u32 g 17) 17)).set b4 (.own 0 (List.replicate 17 (.int .u32 0)) 17)) b2 = some (.own 0 (rowK .u32 f 17) 17) := by
    rw [Heap.set_ne (Ne.symm n42), Heap.set_ne (Ne.symm n32), Heap.set_self]
  have q3 : (((h.set b2 (.own 0 (rowK .u32 f 17) 17)).set b3 (.own 0 (rowK .u32 g 17) 17)).set b4 (.own 0 (List.replicate 17 (.int .u32 0)) 17)) b3 = some (.own 0 (rowK .u32 g 17) 17) := by
    rw [Heap.set_ne (Ne.symm n43), Heap.set_self]
  have q4 : (((h.set b2 (.own 0 (rowK .u32 f 17) 17)).set b3 (.own 0 (rowK .u32 g 17) 17)).set b4 (.own 0 (List.replicate 17 (.int .u32 0)) 17)) b4 = some (.own 0 (List.replicate 17 (.int .u32 0)) 17) := Heap.set_self _ _ _
  generalize (((h.set b2 (.own 0 (rowK .u32 f 17) 17)).set b3 (.own 0 (rowK .u32 g 17) 17)).set b4 (.own 0 (List.replicate 17 (.int .u32 0)) 17)) = h1 at le0 q2 q3 q4 ⊢
  have hc := carD_le (f := f) (g := g) (B := 16777215) (fun j hj => by have := hf j hj; omega) (fun j hj => by have := hg j hj; omega)
  refine wp_loop' (fun m t H => h.le H ∧ ∃ i : Nat, i ≤ 17 ∧ m = 17 - i ∧ (∃ c : Nat, t = tl [(2, .pointer (some ⟨b2, 0, none⟩)), (3, .pointer (some ⟨b3, 0, none⟩)), (4, .pointer (some ⟨b4, 0, none⟩)), (5, .int .u32 (c : Nat)), (6, .int .i64 i)] ∧ (i ≤ 16 → c = carD f g i)) ∧
      H b2 = some (.own 0 (rowK .u32 (blendF (addD f g) f i) 17) 17) ∧ H b3 = some (.own 0 (rowK .u32 g 17) 17) ∧ H b4 = some (.own 0 (List.replicate 17 (.int .u32 0)) 17)) 17 ?_ ?_
  · refine ⟨le0, 0, by omega, rfl, ⟨0, rfl, fun _ => rfl⟩, ?_, q3, q4⟩
    rw [q2, blendF_0]
  · rintro m t H ⟨leH, i, hi, rfl, ⟨c, rfl, hci⟩, q2, q3, q4⟩
    by_cases hlt : (i : Int) < 17
    · have hi' : i < 17 := by omega
      have e0 : (0 : Int) ≤ i := by omega
      obtain rfl := hci (by omega)
      have g2 := rowK_at q2 hi'
      rw [blendF_at] at g2
      have g3 := rowK_at q3 hi'
      have hfi := hf i hi'
      have hgi := hg i hi'
      have hcc := hc i (by omega)
      have w1 : IntKind.u32.wrap ((carD f g i : Int) + (f i : Int)) = ((carD f g i + f i : Nat) : Int) := by rw [← Int.natCast_add]; exact wrap_u32n (by omega)
      have w2 : IntKind.u32.wrap (((carD f g i + f i : Nat) : Int) + (g i : Int)) = ((carD f g i + f i + g i : Nat) : Int) := by rw [← Int.natCast_add]; exact wrap_u32n (by omega)
      have s1 := rowK_store (z := carD f g i + f i + g i) q2 hi' (Nat.le_refl _)
      have q2' : (H.set b2 (.own 0 (rowK .u32 (upd (blendF (addD f g) f i) i (carD f g i + f i + g i)) 17) 17)) b2 = some (.own 0 (rowK .u32 (upd (blendF (addD f g) f i) i (carD f g i + f i + g i)) 17) 17) := Heap.set_self _ _ _
      have s2 := rowK_store (z := (carD f g i + f i + g i) % 256) q2' hi' (Nat.le_refl _)
      rw [Heap.set_set] at s2
      have w3 := u32_and255 (a := carD f g i + f i + g i) (by omega)
      have w4 := u32_shr8 (carD f g i + f i + g i)
      have w4' := u32_shr8' (carD f g i + f i + g i)
      have w7 : IntKind.i64.wrap ((i : Int) + 1) = ((i + 1 : Nat) : Int) := wrapN (by omega)
      by_cases h16 : (i : Int) < 16
      · simp -implicitDefEqProofs only [zB1,zB2,zB3,zB4,zB5,zB6,zB7,zB8,zB9,zB10,zB11,y00,y01,y02,y03,y04,y05,y06,y07,y08,y09,y0a,y0b,y0c,y0d,y0e,y0f,y0g,y0h,y0i,y0j,y0k,y0l,y0m,y0n,y0o,y0p,y0q,y0r,y0s,y0t,y0u,y0v,y0w,y0x,y0y,y0z,y10,y11,y12,y13,y14,y15,y16,y17,y18,y19,y1a,y1b,y1c,y1d,y1e,y1f,y1g,y1h,y1i,y1j,y1k,y1l,y1m,y1n,y1o,y1p,y1q,y1r,retO,retL,retV,z69,allV,allP,z6a,z6d,z6e,z6k,z6l,z6m,binV,eqV,unV,oOpt,reduceIte,reduceCtorEq,Nat.reduceEqDiff,Nat.reduceAdd,Nat.reduceMul,Nat.reduceLT,Nat.reduceSub,Int.reduceLT,Int.reduceLE,Int.reduceEq,Int.reduceNe,Int.reduceSub,Int.reduceAdd,Int.reduceMul,Int.reduceBEq,Int.reduceBNe,Int.reduceGT,Int.reduceGE,Nat.reduceGT,Int.reduceToNat,Int.reduceNeg,Nat.reduceLeDiff,Nat.reduceBEq,Nat.reduceBneDiff,Value.cells, hlt, e0, Int.toNat_natCast, g2, g3, w1, w2, s1, s2, h16, w3, w4, w4', w7]
        refine ⟨_, by omega, Heap.le_set leH hb2 _, i + 1, by omega, rfl, ⟨_, rfl, fun _ => rfl⟩, ?_, by rw [Heap.set_ne n32]; exact q3, by rw [Heap.set_ne n42]; exact q4⟩
        rw [Heap.set_self]
        rw [upd_upd, ← blendF_step, show addD f g i = (carD f g i + f i + g i) % 256 by unfold addD; rw [if_pos (by omega)]]
      · simp -implicitDefEqProofs only [zB1,zB2,zB3,zB4,zB5,zB6,zB7,zB8,zB9,zB10,zB11,y00,y01,y02,y03,y04,y05,y06,y07,y08,y09,y0a,y0b,y0c,y0d,y0e,y0f,y0g,y0h,y0i,y0j,y0k,y0l,y0m,y0n,y0o,y0p,y0q,y0r,y0s,y0t,y0u,y0v,y0w,y0x,y0y,y0z,y10,y11,y12,y13,y14,y15,y16,y17,y18,y19,y1a,y1b,y1c,y1d,y1e,y1f,y1g,y1h,y1i,y1j,y1k,y1l,y1m,y1n,y1o,y1p,y1q,y1r,retO,retL,retV,z69,allV,allP,z6a,z6d,z6e,z6k,z6l,z6m,binV,eqV,unV,oOpt,reduceIte,reduceCtorEq,Nat.reduceEqDiff,Nat.reduceAdd,Nat.reduceMul,Nat.reduceLT,Nat.reduceSub,Int.reduceLT,Int.reduceLE,Int.reduceEq,Int.reduceNe,Int.reduceSub,Int.reduceAdd,Int.reduceMul,Int.reduceBEq,Int.reduceBNe,Int.reduceGT,Int.reduceGE,Nat.reduceGT,Int.reduceToNat,Int.reduceNeg,Nat.reduceLeDiff,Nat.reduceBEq,Nat.reduceBneDiff,Value.cells, hlt, e0, Int.toNat_natCast, g2, g3, w1, w2, s1, h16, w7]
        refine ⟨_, by omega, Heap.le_set leH hb2 _, i + 1, by omega, rfl, ⟨_, rfl, fun _ => by omega⟩, ?_, by rw [Heap.set_ne n32]; exact q3, by rw [Heap.set_ne n42]; exact q4⟩
        rw [Heap.set_self]
        rw [← blendF_step, show addD f g i = carD f g i + f i + g i by unfold addD; rw [if_neg (by omega)]]
    · obtain rfl : i = 17 := by omega
      have q2' : H b2 = some (.own 0 (rowK .u32 (addD f g) 17) 17) := by
        rw [q2, blendF_all]
      have l2 := rowK_cells q2'
      have s4 := rowK_agg (k := .u32) (f := addD f g) q4 (by simp) (by omega)
      have l4 : hcells (H.set b4 (.own 0 (rowK .u32 (addD f g) 17) 17)) ⟨b4, 0, none⟩ 17 = some (rowK .u32 (addD f g) 17) := z6o (rowK_len _ _ _)
      simp -implicitDefEqProofs only [zB1,zB2,zB3,zB4,zB5,zB6,zB7,zB8,zB9,zB10,zB11,y00,y01,y02,y03,y04,y05,y06,y07,y08,y09,y0a,y0b,y0c,y0d,y0e,y0f,y0g,y0h,y0i,y0j,y0k,y0l,y0m,y0n,y0o,y0p,y0q,y0r,y0s,y0t,y0u,y0v,y0w,y0x,y0y,y0z,y10,y11,y12,y13,y14,y15,y16,y17,y18,y19,y1a,y1b,y1c,y1d,y1e,y1f,y1g,y1h,y1i,y1j,y1k,y1l,y1m,y1n,y1o,y1p,y1q,y1r,retO,retL,retV,z69,allV,allP,z6a,z6d,z6e,z6k,z6l,z6m,binV,eqV,unV,oOpt,reduceIte,reduceCtorEq,Nat.reduceEqDiff,Nat.reduceAdd,Nat.reduceMul,Nat.reduceLT,Nat.reduceSub,Int.reduceLT,Int.reduceLE,Int.reduceEq,Int.reduceNe,Int.reduceSub,Int.reduceAdd,Int.reduceMul,Int.reduceBEq,Int.reduceBNe,Int.reduceGT,Int.reduceGE,Nat.reduceGT,Int.reduceToNat,Int.reduceNeg,Nat.reduceLeDiff,Nat.reduceBEq,Nat.reduceBneDiff,Value.cells, hlt, l2, s4, l4]
      exact Heap.le_set leH hb4' _
end Go.Bb
/- The document's poly: times. -/
namespace Go.Bb
set_option linter.unusedSimpArgs false
set_option linter.unusedVariables false
set_option maxRecDepth 20000
set_option maxHeartbeats 4000000

theorem ref4_times_c (E : EnvT tab) (h : Heap) (f g : Nat → Nat) (hf : ∀ j, j < 17 → f j < 256) (hg : ∀ j, j < 17 → g j < 256) :
    ACallN E.toEnv n_bandboxref4_times [.agg (rowK .u32 f 17).toArray, .agg (rowK .u32 g 17).toArray] h fun r h' => h.le h' ∧ ∃ p, r = .agg (rowK .u32 p 17).toArray ∧ NormD p ∧ valD p 17 % PQ = valD f 17 * valD g 17 % PQ := by
  refine acall h_bandboxref4_times ir_bandboxref4_times rfl rfl (wpA_sound ?_)
  unfold ir_bandboxref4_times
  simp -implicitDefEqProofs only [zB1,zB2,zB3,zB4,zB5,zB6,zB7,zB8,zB9,zB10,zB11,y00,y01,y02,y03,y04,y05,y06,y07,y08,y09,y0a,y0b,y0c,y0d,y0e,y0f,y0g,y0h,y0i,y0j,y0k,y0l,y0m,y0n,y0o,y0p,y0q,y0r,y0s,y0t,y0u,y0v,y0w,y0x,y0y,y0z,y10,y11,y12,y13,y14,y15,y16,y17,y18,y19,y1a,y1b,y1c,y1d,y1e,y1f,y1g,y1h,y1i,y1j,y1k,y1l,y1m,y1n,y1o,y1p,y1q,y1r,retO,retL,retV,z69,allV,allP,z6a,z6d,z6e,z6k,z6l,z6m,binV,eqV,unV,oOpt,reduceIte,reduceCtorEq,Nat.reduceEqDiff,Nat.reduceAdd,Nat.reduceMul,Nat.reduceLT,Nat.reduceSub,Int.reduceLT,Int.reduceLE,Int.reduceEq,Int.reduceNe,Int.reduceSub,Int.reduceAdd,Int.reduceMul,Int.reduceBEq,Int.reduceBNe,Int.reduceGT,Int.reduceGE,Nat.reduceGT,Int.reduceToNat,Int.reduceNeg,Nat.reduceLeDiff,Nat.reduceBEq,Nat.reduceBneDiff,Value.cells]
  rw [rowK_len, rowK_len]
  intro b2 hb2 b3 hb3 b4 hb4
  rw [List.length_replicate]
  obtain ⟨n32, hb3'⟩ := Heap.set_none.1 hb3
  obtain ⟨n43, hb4a⟩ := Heap.set_none.1 hb4
  obtain ⟨n42, hb4'⟩ := Heap.set_none.1 hb4a
  try simp -implicitDefEqProofs only [zB1,zB2,zB3,zB4,zB5,zB6,zB7,zB8,zB9,zB10,zB11,y00,y01,y02,y03,y04,y05,y06,y07,y08,y09,y0a,y0b,y0c,y0d,y0e,y0f,y0g,y0h,y0i,y0j,y0k,y0l,y0m,y0n,y0o,y0p,y0q,y0r,y0s,y0t,y0u,y0v,y0w,y0x,y0y,y0z,y10,y11,y12,y13,y14,y15,y16,y17,y18,y19,y1a,y1b,y1c,y1d,y1e,y1f,y1g,y1h,y1i,y1j,y1k,y1l,y1m,y1n,y1o,y1p,y1q,y1r,retO,retL,retV,z69,allV,allP,z6a,z6d,z6e,z6k,z6l,z6m,binV,eqV,unV,oOpt,reduceIte,reduceCtorEq,Nat.reduceEqDiff,Nat.reduceAdd,Nat.reduceMul,Nat.reduceLT,Nat.reduceSub,Int.reduceLT,Int.reduceLE,Int.reduceEq,Int.reduceNe,Int.reduceSub,Int.reduceAdd,Int.reduceMul,Int.reduceBEq,Int.reduceBNe,Int.reduceGT,Int.reduceGE,Nat.reduceGT,Int.reduceToNat,Int.reduceNeg,Nat.reduceLeDiff,Nat.reduceBEq,Nat.reduceBneDiff,Value.cells]
  have le0 : h.le (((h.set b2 (.own 0 (rowK .u32 f 17) 17)).set b3 (.own 0 (rowK .u32 g 17) 17)).set b4 (.own 0 (List.replicate 17 (.int .u32 0)) 17)) := Heap.le_set (Heap.le_set (Heap.le_set (Heap.le_refl _) hb2 _) hb3' _) hb4' _
  have q2 : (((h.set b2 (.own 0 (rowK .u32 f 17) 17)).set b3 (.own 0 (rowK .u32 g 17) 17)).set b4 (.own 0 (List.replicate 17 (.int .u32 0)) 17)) b2 = some (.own 0 (rowK .u32 f 17) 17) := by
    rw [Heap.set_ne (Ne.symm n42), Heap.set_ne (Ne.symm n32), Heap.set_self]
  have q3 : (((h.set b2 (.own 0 (rowK .u32 f 17) 17)).set b3 (.own 0 (rowK .u32 g 17) 17)).set b4 (.own 0 (List.replicate 17 (.int .u32 0)) 17)) b3 = some (.own 0 (rowK .u32 g 17) 17) := by
    rw [Heap.set_ne (Ne.symm n43), Heap.set_self]
  have q4 : (((h.set b2 (.own 0 (rowK .u32 f 17) 17)).set b3 (.own 0 (rowK .u32 g 17) 17)).set b4 (.own 0 (List.replicate 17 (.int .u32 0)) 17)) b4 = some (.own 0 (List.replicate 17 (.int .u32 0)) 17) := Heap.set_self _ _ _
  generalize (((h.set b2 (.own 0 (rowK .u32 f 17) 17)).set b3 (.own 0 (rowK .u32 g 17) 17)).set b4 (.own 0 (List.replicate 17 (.int .u32 0)) 17)) = h1 at le0 q2 q3 q4 ⊢
  intro b5 hb5
  rw [List.length_replicate, rowK_zero]
  have hb5' := Heap.none_of_le le0 hb5
  have n52 := Ne.symm (ne_of_none hb5 q2)
  have n53 := Ne.symm (ne_of_none hb5 q3)
  have n54 := Ne.symm (ne_of_none hb5 q4)
  try simp -implicitDefEqProofs only [zB1,zB2,zB3,zB4,zB5,zB6,zB7,zB8,zB9,zB10,zB11,y00,y01,y02,y03,y04,y05,y06,y07,y08,y09,y0a,y0b,y0c,y0d,y0e,y0f,y0g,y0h,y0i,y0j,y0k,y0l,y0m,y0n,y0o,y0p,y0q,y0r,y0s,y0t,y0u,y0v,y0w,y0x,y0y,y0z,y10,y11,y12,y13,y14,y15,y16,y17,y18,y19,y1a,y1b,y1c,y1d,y1e,y1f,y1g,y1h,y1i,y1j,y1k,y1l,y1m,y1n,y1o,y1p,y1q,y1r,retO,retL,retV,z69,allV,allP,z6a,z6d,z6e,z6k,z6l,z6m,binV,eqV,unV,oOpt,reduceIte,reduceCtorEq,Nat.reduceEqDiff,Nat.reduceAdd,Nat.reduceMul,Nat.reduceLT,Nat.reduceSub,Int.reduceLT,Int.reduceLE,Int.reduceEq,Int.reduceNe,Int.reduceSub,Int.reduceAdd,Int.reduceMul,Int.reduceBEq,Int.reduceBNe,Int.reduceGT,Int.reduceGE,Nat.reduceGT,Int.reduceToNat,Int.reduceNeg,Nat.reduceLeDiff,Nat.reduceBEq,Nat.reduceBneDiff,Value.cells]
  refine wp_loop' (fun m t H => h.le H ∧ ∃ i : Nat, i ≤ 17 ∧ m = 17 - i ∧ t = tl [(2, .pointer (some ⟨b2, 0, none⟩)), (3, .pointer (some ⟨b3, 0, none⟩)), (4, .pointer (some ⟨b4, 0, none⟩)), (5, .pointer (some ⟨b5, 0, none⟩)), (6, .int .i64 i)] ∧
      H b2 = some (.own 0 (rowK .u32 f 17) 17) ∧ H b3 = some (.own 0 (rowK .u32 g 17) 17) ∧ H b4 = some (.own 0 (List.replicate 17 (.int .u32 0)) 17) ∧
      ∃ p, H b5 = some (.own 0 (rowK .u64 p 17) 17) ∧ (∀ j, j < 17 → p j ≤ 20808000 * (17 * i)) ∧ valD p 17 % PQ = valD f i * valD g 17 % PQ) 17 ?_ ?_
  · refine ⟨Heap.le_new le0 hb5 _, 0, by omega, rfl, rfl, by rw [Heap.set_ne (Ne.symm n52)]; exact q2, by rw [Heap.set_ne (Ne.symm n53)]; exact q3, by rw [Heap.set_ne (Ne.symm n54)]; exact q4, fun _ => 0, Heap.set_self _ _ _, fun j hj => Nat.zero_le _, ?_⟩
    have : valD (fun _ => 0) 17 = 0 := by decide
    rw [this]; simp [valD]
  · clear q2 q3 q4
    rintro m t H ⟨leH, i, hi, rfl, rfl, q2, q3, q4, p, q5, hp, hv⟩
    by_cases hlt : (i : Int) < 17
    · have hi' : i < 17 := by omega
      have e0 : (0 : Int) ≤ i := by omega
      simp -implicitDefEqProofs only [zB1,zB2,zB3,zB4,zB5,zB6,zB7,zB8,zB9,zB10,zB11,y00,y01,y02,y03,y04,y05,y06,y07,y08,y09,y0a,y0b,y0c,y0d,y0e,y0f,y0g,y0h,y0i,y0j,y0k,y0l,y0m,y0n,y0o,y0p,y0q,y0r,y0s,y0t,y0u,y0v,y0w,y0x,y0y,y0z,y10,y11,y12,y13,y14,y15,y16,y17,y18,y19,y1a,y1b,y1c,y1d,y1e,y1f,y1g,y1h,y1i,y1j,y1k,y1l,y1m,y1n,y1o,y1p,y1q,y1r,retO,retL,retV,z69,allV,allP,z6a,z6d,z6e,z6k,z6l,z6m,binV,eqV,unV,oOpt,reduceIte,reduceCtorEq,Nat.reduceEqDiff,Nat.reduceAdd,Nat.reduceMul,Nat.reduceLT,Nat.reduceSub,Int.reduceLT,Int.reduceLE,Int.reduceEq,Int.reduceNe,Int.reduceSub,Int.reduceAdd,Int.reduceMul,Int.reduceBEq,Int.reduceBNe,Int.reduceGT,Int.reduceGE,Nat.reduceGT,Int.reduceToNat,Int.reduceNeg,Nat.reduceLeDiff,Nat.reduceBEq,Nat.reduceBneDiff,Value.cells, hlt]
      unfold ir_bandboxref4_times_18
      simp -implicitDefEqProofs only [zB1,zB2,zB3,zB4,zB5,zB6,zB7,zB8,zB9,zB10,zB11,y00,y01,y02,y03,y04,y05,y06,y07,y08,y09,y0a,y0b,y0c,y0d,y0e,y0f,y0g,y0h,y0i,y0j,y0k,y0l,y0m,y0n,y0o,y0p,y0q,y0r,y0s,y0t,y0u,y0v,y0w,y0x,y0y,y0z,y10,y11,y12,y13,y14,y15,y16,y17,y18,y19,y1a,y1b,y1c,y1d,y1e,y1f,y1g,y1h,y1i,y1j,y1k,y1l,y1m,y1n,y1o,y1p,y1q,y1r,retO,retL,retV,z69,allV,allP,z6a,z6d,z6e,z6k,z6l,z6m,binV,eqV,unV,oOpt,reduceIte,reduceCtorEq,Nat.reduceEqDiff,Nat.reduceAdd,Nat.reduceMul,Nat.reduceLT,Nat.reduceSub,Int.reduceLT,Int.reduceLE,Int.reduceEq,Int.reduceNe,Int.reduceSub,Int.reduceAdd,Int.reduceMul,Int.reduceBEq,Int.reduceBNe,Int.reduceGT,Int.reduceGE,Nat.reduceGT,Int.reduceToNat,Int.reduceNeg,Nat.reduceLeDiff,Nat.reduceBEq,Nat.reduceBneDiff,Value.cells]
      refine wp_loop' (fun m t H => h.le H ∧ ∃ k : Nat, k ≤ 17 ∧ m = 17 - k ∧ t = tl [(2, .pointer (some ⟨b2, 0, none⟩)), (3, .pointer (some ⟨b3, 0, none⟩)), (4, .pointer (some ⟨b4, 0, none⟩)), (5, .pointer (some ⟨b5, 0, none⟩)), (6, .int .i64 i), (7, .int .i64 k)] ∧
        H b2 = some (.own 0 (rowK .u32 f 17) 17) ∧ H b3 = some (.own 0 (rowK .u32 g 17) 17) ∧ H b4 = some (.own 0 (List.replicate 17 (.int .u32 0)) 17) ∧
        ∃ p, H b5 = some (.own 0 (rowK .u64 p 17) 17) ∧ (∀ j, j < 17 → p j ≤ 20808000 * (17 * i + k)) ∧ valD p 17 % PQ = (valD f i * valD g 17 + f i * 256 ^ i * valD g k) % PQ) 17 ?_ ?_
      · exact ⟨leH, 0, by omega, rfl, rfl, q2, q3, q4, p, q5, fun j hj => by have := hp j hj; omega, by rw [hv, valD, Nat.mul_zero, Nat.add_zero]⟩
      · clear q2 q3 q4 q5 hp hv p
        rintro m t H ⟨leH, k, hk, rfl, rfl, q2, q3, q4, p, q5, hp, hv⟩
        by_cases hlk : (k : Int) < 17
        · have hk' : k < 17 := by omega
          have k0 : (0 : Int) ≤ k := by omega
          have g2 := rowK_at q2 hi'
          have g3 := rowK_at q3 hk'
          have hfi := hf i hi'
          have hgk := hg k hk'
          have hprod : f i * g k ≤ 65025 := by
            have := Nat.mul_le_mul (show f i ≤ 255 by omega) (show g k ≤ 255 by omega)
            omega
          have w1 : IntKind.u64.wrap (f i : Int) = (f i : Int) := wrap_u64l (by omega)
          have w2 : IntKind.u64.wrap (g k : Int) = (g k : Int) := wrap_u64l (by omega)
          have w3 : IntKind.u64.wrap ((f i : Int) * (g k : Int)) = ((f i * g k : Nat) : Int) := by rw [← Int.natCast_mul]; exact wrap_u64l (by omega)
          have w4 : IntKind.i64.wrap ((i : Int) + (k : Int)) = ((i + k : Nat) : Int) := by rw [wrapI (by omega) (by omega)]; rfl
          have w7 : IntKind.i64.wrap ((k : Int) + 1) = ((k + 1 : Nat) : Int) := wrapN (by omega)
          by_cases hge : ((i + k : Nat) : Int) < 17
          · have hm : i + k < 17 := by omega
            have hge' : ¬ (17 : Int) ≤ ((i + k : Nat) : Int) := by omega
            have m0 : (0 : Int) ≤ ((i + k : Nat) : Int) := by omega
            have g5 := rowK_at q5 hm
            have hpm := hp _ hm
            have w5 : IntKind.u64.wrap ((p (i + k) : Int) + ((f i * g k : Nat) : Int)) = ((p (i + k) + f i * g k : Nat) : Int) := by rw [← Int.natCast_add]; exact wrap_u64l (by omega)
            have s5 := rowK_store (z := p (i + k) + f i * g k) q5 hm (Nat.le_refl _)
            simp -implicitDefEqProofs only [zB1,zB2,zB3,zB4,zB5,zB6,zB7,zB8,zB9,zB10,zB11,y00,y01,y02,y03,y04,y05,y06,y07,y08,y09,y0a,y0b,y0c,y0d,y0e,y0f,y0g,y0h,y0i,y0j,y0k,y0l,y0m,y0n,y0o,y0p,y0q,y0r,y0s,y0t,y0u,y0v,y0w,y0x,y0y,y0z,y10,y11,y12,y13,y14,y15,y16,y17,y18,y19,y1a,y1b,y1c,y1d,y1e,y1f,y1g,y1h,y1i,y1j,y1k,y1l,y1m,y1n,y1o,y1p,y1q,y1r,retO,retL,retV,z69,allV,allP,z6a,z6d,z6e,z6k,z6l,z6m,binV,eqV,unV,oOpt,reduceIte,reduceCtorEq,Nat.reduceEqDiff,Nat.reduceAdd,Nat.reduceMul,Nat.reduceLT,Nat.reduceSub,Int.reduceLT,Int.reduceLE,Int.reduceEq,Int.reduceNe,Int.reduceSub,Int.reduceAdd,Int.reduceMul,Int.reduceBEq,Int.reduceBNe,Int.reduceGT,Int.reduceGE,Nat.reduceGT,Int.reduceToNat,Int.reduceNeg,Nat.reduceLeDiff,Nat.reduceBEq,Nat.reduceBneDiff,Value.cells, hlk, e0, k0, hlt, ir_bandboxref4_times_q, Int.toNat_natCast, g2, g3, w1, w2, w3, w4, w7, hge, hge', m0, g5, w5, s5]
            refine ⟨_, by omega, Heap.le_set leH hb5' _, k + 1, by omega, rfl, rfl, by rw [Heap.set_ne (Ne.symm n52)]; exact q2, by rw [Heap.set_ne (Ne.symm n53)]; exact q3, by rw [Heap.set_ne (Ne.symm n54)]; exact q4, _, Heap.set_self _ _ _, ?_, mul_lo hm hv rfl⟩
            intro j hj
            have := hp j hj
            by_cases e : j = i + k
            · rw [e, upd_self]; omega
            · rw [upd_ne e]; omega
          · obtain ⟨m, hm⟩ : ∃ m, i + k = m + 17 := ⟨i + k - 17, by omega⟩
            have hm17 : m < 17 := by omega
            have hge' : (17 : Int) ≤ ((i + k : Nat) : Int) := by omega
            have m0 : (0 : Int) ≤ (m : Int) := by omega
            have m1 : (m : Int) < 17 := by omega
            have w6 : IntKind.i64.wrap (((i + k : Nat) : Int) - 17) = (m : Int) := by rw [wrapI (by omega) (by omega)]; omega
            have g5 := rowK_at q5 hm17
            have hpm := hp _ hm17
            have w8 : IntKind.u64.wrap (320 * ((f i * g k : Nat) : Int)) = ((320 * (f i * g k) : Nat) : Int) := by
              have := wrap_u64l (n := 320 * (f i * g k)) (by omega)
              rw [← this]; congr 1
            have w5 : IntKind.u64.wrap ((p m : Int) + ((320 * (f i * g k) : Nat) : Int)) = ((p m + 320 * (f i * g k) : Nat) : Int) := by rw [← Int.natCast_add]; exact wrap_u64l (by omega)
            have s5 := rowK_store (z := p m + 320 * (f i * g k)) q5 hm17 (Nat.le_refl _)
            simp -implicitDefEqProofs only [zB1,zB2,zB3,zB4,zB5,zB6,zB7,zB8,zB9,zB10,zB11,y00,y01,y02,y03,y04,y05,y06,y07,y08,y09,y0a,y0b,y0c,y0d,y0e,y0f,y0g,y0h,y0i,y0j,y0k,y0l,y0m,y0n,y0o,y0p,y0q,y0r,y0s,y0t,y0u,y0v,y0w,y0x,y0y,y0z,y10,y11,y12,y13,y14,y15,y16,y17,y18,y19,y1a,y1b,y1c,y1d,y1e,y1f,y1g,y1h,y1i,y1j,y1k,y1l,y1m,y1n,y1o,y1p,y1q,y1r,retO,retL,retV,z69,allV,allP,z6a,z6d,z6e,z6k,z6l,z6m,binV,eqV,unV,oOpt,reduceIte,reduceCtorEq,Nat.reduceEqDiff,Nat.reduceAdd,Nat.reduceMul,Nat.reduceLT,Nat.reduceSub,Int.reduceLT,Int.reduceLE,Int.reduceEq,Int.reduceNe,Int.reduceSub,Int.reduceAdd,Int.reduceMul,Int.reduceBEq,Int.reduceBNe,Int.reduceGT,Int.reduceGE,Nat.reduceGT,Int.reduceToNat,Int.reduceNeg,Nat.reduceLeDiff,Nat.reduceBEq,Nat.reduceBneDiff,Value.cells, hlk, e0, k0, hlt, ir_bandboxref4_times_q, Int.toNat_natCast, g2, g3, w1, w2, w3, w4, w7, hge, hge', m0, m1, w6, g5, w8, w5, s5]
            refine ⟨_, by omega, Heap.le_set leH hb5' _, k + 1, by omega, rfl, rfl, by rw [Heap.set_ne (Ne.symm n52)]; exact q2, by rw [Heap.set_ne (Ne.symm n53)]; exact q3, by rw [Heap.set_ne (Ne.symm n54)]; exact q4, _, Heap.set_self _ _ _, ?_, mul_hi hm hm17 hv rfl⟩
            intro j hj
            have := hp j hj
            by_cases e : j = m
            · rw [e, upd_self]; omega
            · rw [upd_ne e]; omega
        · obtain rfl : k = 17 := by omega
          have w7 : IntKind.i64.wrap ((i : Int) + 1) = ((i + 1 : Nat) : Int) := wrapN (by omega)
          simp -implicitDefEqProofs only [zB1,zB2,zB3,zB4,zB5,zB6,zB7,zB8,zB9,zB10,zB11,y00,y01,y02,y03,y04,y05,y06,y07,y08,y09,y0a,y0b,y0c,y0d,y0e,y0f,y0g,y0h,y0i,y0j,y0k,y0l,y0m,y0n,y0o,y0p,y0q,y0r,y0s,y0t,y0u,y0v,y0w,y0x,y0y,y0z,y10,y11,y12,y13,y14,y15,y16,y17,y18,y19,y1a,y1b,y1c,y1d,y1e,y1f,y1g,y1h,y1i,y1j,y1k,y1l,y1m,y1n,y1o,y1p,y1q,y1r,retO,retL,retV,z69,allV,allP,z6a,z6d,z6e,z6k,z6l,z6m,binV,eqV,unV,oOpt,reduceIte,reduceCtorEq,Nat.reduceEqDiff,Nat.reduceAdd,Nat.reduceMul,Nat.reduceLT,Nat.reduceSub,Int.reduceLT,Int.reduceLE,Int.reduceEq,Int.reduceNe,Int.reduceSub,Int.reduceAdd,Int.reduceMul,Int.reduceBEq,Int.reduceBNe,Int.reduceGT,Int.reduceGE,Nat.reduceGT,Int.reduceToNat,Int.reduceNeg,Nat.reduceLeDiff,Nat.reduceBEq,Nat.reduceBneDiff,Value.cells, hlk, w7]
          refine ⟨_, by omega, leH, i + 1, by omega, rfl, rfl, q2, q3, q4, p, q5, fun j hj => by have := hp j hj; omega, ?_⟩
          have v1 : valD f (i + 1) = valD f i + f i * 256 ^ i := rfl
          rw [hv, v1, Nat.add_mul]
    · obtain rfl : i = 17 := by omega
      simp -implicitDefEqProofs only [zB1,zB2,zB3,zB4,zB5,zB6,zB7,zB8,zB9,zB10,zB11,y00,y01,y02,y03,y04,y05,y06,y07,y08,y09,y0a,y0b,y0c,y0d,y0e,y0f,y0g,y0h,y0i,y0j,y0k,y0l,y0m,y0n,y0o,y0p,y0q,y0r,y0s,y0t,y0u,y0v,y0w,y0x,y0y,y0z,y10,y11,y12,y13,y14,y15,y16,y17,y18,y19,y1a,y1b,y1c,y1d,y1e,y1f,y1g,y1h,y1i,y1j,y1k,y1l,y1m,y1n,y1o,y1p,y1q,y1r,retO,retL,retV,z69,allV,allP,z6a,z6d,z6e,z6k,z6l,z6m,binV,eqV,unV,oOpt,reduceIte,reduceCtorEq,Nat.reduceEqDiff,Nat.reduceAdd,Nat.reduceMul,Nat.reduceLT,Nat.reduceSub,Int.reduceLT,Int.reduceLE,Int.reduceEq,Int.reduceNe,Int.reduceSub,Int.reduceAdd,Int.reduceMul,Int.reduceBEq,Int.reduceBNe,Int.reduceGT,Int.reduceGE,Nat.reduceGT,Int.reduceToNat,Int.reduceNeg,Nat.reduceLeDiff,Nat.reduceBEq,Nat.reduceBneDiff,Value.cells, hlt]
      intro b9 hb9
      rw [rowK_len]
      have hb9' := Heap.none_of_le leH hb9
      have n94 := Ne.symm (ne_of_none hb9 q4)
      have n95 := Ne.symm (ne_of_none hb9 q5)
      have n59 := Ne.symm n95
      have hT : turnOk 0 p := by
        intro j hj
        have := hp j hj
        omega
      have le9 : h.le (H.set b9 (.own 0 (rowK .u32 (fun x => 0) 17) 17)) := Heap.le_new leH hb9 _
      have q59 : (H.set b9 (.own 0 (rowK .u32 (fun x => 0) 17) 17)) b5 = some (.own 0 (rowK .u64 p 17) 17) := by rw [Heap.set_ne n59]; exact q5
      have q49 : (H.set b9 (.own 0 (rowK .u32 (fun x => 0) 17) 17)) b4 = some (.own 0 (List.replicate 17 (.int .u32 0)) 17) := by rw [Heap.set_ne (Ne.symm n94)]; exact q4
      have q99 : (H.set b9 (.own 0 (rowK .u32 (fun x => 0) 17) 17)) b9 = some (.own 0 (rowK .u32 (fun x => 0) 17) 17) := Heap.set_self _ _ _
      generalize (H.set b9 (.own 0 (rowK .u32 (fun x => 0) 17) 17)) = H9 at le9 q59 q49 q99 ⊢
      clear q2 q3 q4 q5 hp leH hlt hi
      generalize valD f 17 * valD g 17 % PQ = V at hv ⊢
      unfold ir_bandboxref4_times_60
      simp -implicitDefEqProofs only [zB1,zB2,zB3,zB4,zB5,zB6,zB7,zB8,zB9,zB10,zB11,y00,y01,y02,y03,y04,y05,y06,y07,y08,y09,y0a,y0b,y0c,y0d,y0e,y0f,y0g,y0h,y0i,y0j,y0k,y0l,y0m,y0n,y0o,y0p,y0q,y0r,y0s,y0t,y0u,y0v,y0w,y0x,y0y,y0z,y10,y11,y12,y13,y14,y15,y16,y17,y18,y19,y1a,y1b,y1c,y1d,y1e,y1f,y1g,y1h,y1i,y1j,y1k,y1l,y1m,y1n,y1o,y1p,y1q,y1r,retO,retL,retV,z69,allV,allP,z6a,z6d,z6e,z6k,z6l,z6m,binV,eqV,unV,oOpt,reduceIte,reduceCtorEq,Nat.reduceEqDiff,Nat.reduceAdd,Nat.reduceMul,Nat.reduceLT,Nat.reduceSub,Int.reduceLT,Int.reduceLE,Int.reduceEq,Int.reduceNe,Int.reduceSub,Int.reduceAdd,Int.reduceMul,Int.reduceBEq,Int.reduceBNe,Int.reduceGT,Int.reduceGE,Nat.reduceGT,Int.reduceToNat,Int.reduceNeg,Nat.reduceLeDiff,Nat.reduceBEq,Nat.reduceBneDiff,Value.cells]
      refine wp_loop' (fun m t H => h.le H ∧ ∃ n : Nat, n ≤ 3 ∧ m = 3 - n ∧ t = tl [(4, .pointer (some ⟨b4, 0, none⟩)), (5, .pointer (some ⟨b5, 0, none⟩)), (9, .pointer (some ⟨b9, 0, none⟩)), (10, .int .i64 n)] ∧
        H b4 = some (.own 0 (List.replicate 17 (.int .u32 0)) 17) ∧ H b9 = some (.own 0 (rowK .u32 (fun x => 0) 17) 17) ∧
        ∃ p, H b5 = some (.own 0 (rowK .u64 p 17) 17) ∧ turnOk n p ∧ valD p 17 % PQ = V) 3 ⟨le9, 0, by omega, rfl, rfl, q49, q99, p, q59, hT, hv⟩ ?_
      clear q59 q49 q99 hT hv p le9
      rintro m t H ⟨leH, n, hn, rfl, rfl, q4, q9, p, q5, hT, hv⟩
      by_cases hlt : (n : Int) < 3
      · have hn3 : n < 3 := by omega
        simp -implicitDefEqProofs only [zB1,zB2,zB3,zB4,zB5,zB6,zB7,zB8,zB9,zB10,zB11,y00,y01,y02,y03,y04,y05,y06,y07,y08,y09,y0a,y0b,y0c,y0d,y0e,y0f,y0g,y0h,y0i,y0j,y0k,y0l,y0m,y0n,y0o,y0p,y0q,y0r,y0s,y0t,y0u,y0v,y0w,y0x,y0y,y0z,y10,y11,y12,y13,y14,y15,y16,y17,y18,y19,y1a,y1b,y1c,y1d,y1e,y1f,y1g,y1h,y1i,y1j,y1k,y1l,y1m,y1n,y1o,y1p,y1q,y1r,retO,retL,retV,z69,allV,allP,z6a,z6d,z6e,z6k,z6l,z6m,binV,eqV,unV,oOpt,reduceIte,reduceCtorEq,Nat.reduceEqDiff,Nat.reduceAdd,Nat.reduceMul,Nat.reduceLT,Nat.reduceSub,Int.reduceLT,Int.reduceLE,Int.reduceEq,Int.reduceNe,Int.reduceSub,Int.reduceAdd,Int.reduceMul,Int.reduceBEq,Int.reduceBNe,Int.reduceGT,Int.reduceGE,Nat.reduceGT,Int.reduceToNat,Int.reduceNeg,Nat.reduceLeDiff,Nat.reduceBEq,Nat.reduceBneDiff,Value.cells, hlt]
        refine wp_loop' (fun m t H => h.le H ∧ ∃ i : Nat, i ≤ 17 ∧ m = 17 - i ∧ ∃ c : Nat, t = tl [(4, .pointer (some ⟨b4, 0, none⟩)), (5, .pointer (some ⟨b5, 0, none⟩)), (9, .pointer (some ⟨b9, 0, none⟩)), (10, .int .i64 n), (11, .int .u64 c), (12, .int .i64 i)] ∧
          H b4 = some (.own 0 (List.replicate 17 (.int .u32 0)) 17) ∧ H b9 = some (.own 0 (rowK .u32 (fun x => 0) 17) 17) ∧ c ≤ 2251799813685248 ∧
          ∃ q, H b5 = some (.own 0 (rowK .u64 q 17) 17) ∧ (∀ j, j < i → j < 16 → q j < 256) ∧ (i = 17 → q 16 < 4) ∧ (∀ j, i ≤ j → j < 17 → q j = p j) ∧ valD q 17 + c * wgt i = valD p 17) 17
          ⟨leH, 0, by omega, rfl, 0, rfl, q4, q9, by omega, p, q5, fun j hj => by omega, fun e => by omega, fun j _ _ => rfl, by rw [Nat.zero_mul, Nat.add_zero]⟩ ?_
        clear q4 q9 q5 leH
        rintro m t H ⟨leH, i, hi, rfl, c, rfl, q4, q9, hc, q, q5, hd, hd16, hr, hvq⟩
        have hpB := turnOk_le hT
        by_cases hli : (i : Int) < 17
        · have hi' : i < 17 := by omega
          have e0 : (0 : Int) ≤ i := by omega
          have g5 := rowK_at q5 hi'
          have hqp := hr i (Nat.le_refl _) hi'
          rw [hqp] at g5
          have hpi := hpB i hi'
          have w1 : IntKind.u64.wrap ((c : Int) + (p i : Int)) = ((c + p i : Nat) : Int) := by rw [← Int.natCast_add]; exact wrap_u64l (by omega)
          have w7 : IntKind.i64.wrap ((i : Int) + 1) = ((i + 1 : Nat) : Int) := wrapN (by omega)
          have w3 := u64_and255 (a := c + p i) (by omega)
          have w4 := u64_shr8 (c + p i)
          have w4' := u64_shr8' (c + p i)
          have w5 := u64_and3 (a := c + p i) (by omega)
          have w6 := u64_shr2 (c + p i)
          have w6' := u64_shr2' (c + p i)
          by_cases h16 : (i : Int) < 16
          · have s5 := rowK_store (z := (c + p i) % 256) q5 hi' (Nat.le_refl _)
            simp -implicitDefEqProofs only [zB1,zB2,zB3,zB4,zB5,zB6,zB7,zB8,zB9,zB10,zB11,y00,y01,y02,y03,y04,y05,y06,y07,y08,y09,y0a,y0b,y0c,y0d,y0e,y0f,y0g,y0h,y0i,y0j,y0k,y0l,y0m,y0n,y0o,y0p,y0q,y0r,y0s,y0t,y0u,y0v,y0w,y0x,y0y,y0z,y10,y11,y12,y13,y14,y15,y16,y17,y18,y19,y1a,y1b,y1c,y1d,y1e,y1f,y1g,y1h,y1i,y1j,y1k,y1l,y1m,y1n,y1o,y1p,y1q,y1r,retO,retL,retV,z69,allV,allP,z6a,z6d,z6e,z6k,z6l,z6m,binV,eqV,unV,oOpt,reduceIte,reduceCtorEq,Nat.reduceEqDiff,Nat.reduceAdd,Nat.reduceMul,Nat.reduceLT,Nat.reduceSub,Int.reduceLT,Int.reduceLE,Int.reduceEq,Int.reduceNe,Int.reduceSub,Int.reduceAdd,Int.reduceMul,Int.reduceBEq,Int.reduceBNe,Int.reduceGT,Int.reduceGE,Nat.reduceGT,Int.reduceToNat,Int.reduceNeg,Nat.reduceLeDiff,Nat.reduceBEq,Nat.reduceBneDiff,Value.cells, hli, e0, Int.toNat_natCast, g5, w1, h16, w3, s5, w4, w4', w7, ir_bandboxref4_times_73]
            refine ⟨_, by omega, Heap.le_set leH hb5' _, i + 1, by omega, rfl, _, rfl, by rw [Heap.set_ne (Ne.symm n54)]; exact q4, by rw [Heap.set_ne n95]; exact q9, by omega, _, Heap.set_self _ _ _, ?_, fun e => by omega, ?_, carry_step (by omega) hvq hqp⟩
            · intro j hj hj16
              by_cases e : j = i
              · rw [e, upd_self]; omega
              · rw [upd_ne e]; exact hd j (by omega) hj16
            · intro j hj hj17
              rw [upd_ne (by omega)]; exact hr j (by omega) hj17
          · obtain rfl : i = 16 := by omega
            have s5 := rowK_store (z := (c + p 16) % 4) q5 hi' (Nat.le_refl _)
            simp -implicitDefEqProofs only [zB1,zB2,zB3,zB4,zB5,zB6,zB7,zB8,zB9,zB10,zB11,y00,y01,y02,y03,y04,y05,y06,y07,y08,y09,y0a,y0b,y0c,y0d,y0e,y0f,y0g,y0h,y0i,y0j,y0k,y0l,y0m,y0n,y0o,y0p,y0q,y0r,y0s,y0t,y0u,y0v,y0w,y0x,y0y,y0z,y10,y11,y12,y13,y14,y15,y16,y17,y18,y19,y1a,y1b,y1c,y1d,y1e,y1f,y1g,y1h,y1i,y1j,y1k,y1l,y1m,y1n,y1o,y1p,y1q,y1r,retO,retL,retV,z69,allV,allP,z6a,z6d,z6e,z6k,z6l,z6m,binV,eqV,unV,oOpt,reduceIte,reduceCtorEq,Nat.reduceEqDiff,Nat.reduceAdd,Nat.reduceMul,Nat.reduceLT,Nat.reduceSub,Int.reduceLT,Int.reduceLE,Int.reduceEq,Int.reduceNe,Int.reduceSub,Int.reduceAdd,Int.reduceMul,Int.reduceBEq,Int.reduceBNe,Int.reduceGT,Int.reduceGE,Nat.reduceGT,Int.reduceToNat,Int.reduceNeg,Nat.reduceLeDiff,Nat.reduceBEq,Nat.reduceBneDiff,Value.cells, hli, e0, Int.toNat_natCast, g5, w1, h16, w5, s5, w6, w6', w7, ir_bandboxref4_times_73]
            refine ⟨_, by omega, Heap.le_set leH hb5' _, 17, by omega, rfl, _, rfl, by rw [Heap.set_ne (Ne.symm n54)]; exact q4, by rw [Heap.set_ne n95]; exact q9, by omega, _, Heap.set_self _ _ _, ?_, fun e => ?_, fun j h1 h2 => by omega, carry_last hvq hqp⟩
            · intro j hj hj16
              rw [upd_ne (by omega)]; exact hd j (by omega) hj16
            · rw [upd_self]; omega
        · obtain rfl : i = 17 := by omega
          have hq16 := hd16 rfl
          have g5 := rowK_at q5 (show 0 < 17 by omega)
          have hq0 := hd 0 (by omega) (by omega)
          have w1 : IntKind.u64.wrap (5 * (c : Int)) = ((5 * c : Nat) : Int) := by
            have := wrap_u64l (n := 5 * c) (by omega)
            rw [← this]; congr 1
          have w2 : IntKind.u64.wrap ((q 0 : Int) + ((5 * c : Nat) : Int)) = ((q 0 + 5 * c : Nat) : Int) := by rw [← Int.natCast_add]; exact wrap_u64l (by omega)
          have s5 := rowK_store (z := q 0 + 5 * c) q5 (show 0 < 17 by omega) (Nat.le_refl _)
          have w7 : IntKind.i64.wrap ((n : Int) + 1) = ((n + 1 : Nat) : Int) := wrapN (by omega)
          have hst := turn_step hn3 hT (fun j hj => hd j (by omega) hj) hq16 hvq
          simp -implicitDefEqProofs only [zB1,zB2,zB3,zB4,zB5,zB6,zB7,zB8,zB9,zB10,zB11,y00,y01,y02,y03,y04,y05,y06,y07,y08,y09,y0a,y0b,y0c,y0d,y0e,y0f,y0g,y0h,y0i,y0j,y0k,y0l,y0m,y0n,y0o,y0p,y0q,y0r,y0s,y0t,y0u,y0v,y0w,y0x,y0y,y0z,y10,y11,y12,y13,y14,y15,y16,y17,y18,y19,y1a,y1b,y1c,y1d,y1e,y1f,y1g,y1h,y1i,y1j,y1k,y1l,y1m,y1n,y1o,y1p,y1q,y1r,retO,retL,retV,z69,allV,allP,z6a,z6d,z6e,z6k,z6l,z6m,binV,eqV,unV,oOpt,reduceIte,reduceCtorEq,Nat.reduceEqDiff,Nat.reduceAdd,Nat.reduceMul,Nat.reduceLT,Nat.reduceSub,Int.reduceLT,Int.reduceLE,Int.reduceEq,Int.reduceNe,Int.reduceSub,Int.reduceAdd,Int.reduceMul,Int.reduceBEq,Int.reduceBNe,Int.reduceGT,Int.reduceGE,Nat.reduceGT,Int.reduceToNat,Int.reduceNeg,Nat.reduceLeDiff,Nat.reduceBEq,Nat.reduceBneDiff,Value.cells, hli, g5, w1, w2, s5, w7, ir_bandboxref4_times_87]
          exact ⟨_, by omega, Heap.le_set leH hb5' _, n + 1, by omega, rfl, rfl, by rw [Heap.set_ne (Ne.symm n54)]; exact q4, by rw [Heap.set_ne n95]; exact q9, _, Heap.set_self _ _ _, hst.1, hst.2.trans hv⟩
      · obtain rfl : n = 3 := by omega
        obtain ⟨hT1, hT2⟩ : NormD p := hT
        simp -implicitDefEqProofs only [zB1,zB2,zB3,zB4,zB5,zB6,zB7,zB8,zB9,zB10,zB11,y00,y01,y02,y03,y04,y05,y06,y07,y08,y09,y0a,y0b,y0c,y0d,y0e,y0f,y0g,y0h,y0i,y0j,y0k,y0l,y0m,y0n,y0o,y0p,y0q,y0r,y0s,y0t,y0u,y0v,y0w,y0x,y0y,y0z,y10,y11,y12,y13,y14,y15,y16,y17,y18,y19,y1a,y1b,y1c,y1d,y1e,y1f,y1g,y1h,y1i,y1j,y1k,y1l,y1m,y1n,y1o,y1p,y1q,y1r,retO,retL,retV,z69,allV,allP,z6a,z6d,z6e,z6k,z6l,z6m,binV,eqV,unV,oOpt,reduceIte,reduceCtorEq,Nat.reduceEqDiff,Nat.reduceAdd,Nat.reduceMul,Nat.reduceLT,Nat.reduceSub,Int.reduceLT,Int.reduceLE,Int.reduceEq,Int.reduceNe,Int.reduceSub,Int.reduceAdd,Int.reduceMul,Int.reduceBEq,Int.reduceBNe,Int.reduceGT,Int.reduceGE,Nat.reduceGT,Int.reduceToNat,Int.reduceNeg,Nat.reduceLeDiff,Nat.reduceBEq,Nat.reduceBneDiff,Value.cells, hlt]
        unfold ir_bandboxref4_times_13
        simp -implicitDefEqProofs only [zB1,zB2,zB3,zB4,zB5,zB6,zB7,zB8,zB9,zB10,zB11,y00,y01,y02,y03,y04,y05,y06,y07,y08,y09,y0a,y0b,y0c,y0d,y0e,y0f,y0g,y0h,y0i,y0j,y0k,y0l,y0m,y0n,y0o,y0p,y0q,y0r,y0s,y0t,y0u,y0v,y0w,y0x,y0y,y0z,y10,y11,y12,y13,y14,y15,y16,y17,y18,y19,y1a,y1b,y1c,y1d,y1e,y1f,y1g,y1h,y1i,y1j,y1k,y1l,y1m,y1n,y1o,y1p,y1q,y1r,retO,retL,retV,z69,allV,allP,z6a,z6d,z6e,z6k,z6l,z6m,binV,eqV,unV,oOpt,reduceIte,reduceCtorEq,Nat.reduceEqDiff,Nat.reduceAdd,Nat.reduceMul,Nat.reduceLT,Nat.reduceSub,Int.reduceLT,Int.reduceLE,Int.reduceEq,Int.reduceNe,Int.reduceSub,Int.reduceAdd,Int.reduceMul,Int.reduceBEq,Int.reduceBNe,Int.reduceGT,Int.reduceGE,Nat.reduceGT,Int.reduceToNat,Int.reduceNeg,Nat.reduceLeDiff,Nat.reduceBEq,Nat.reduceBneDiff,Value.cells]
        refine wp_loop' (fun m t H => h.le H ∧ ∃ i : Nat, i ≤ 17 ∧ m = 17 - i ∧ t = tl [(4, .pointer (some ⟨b4, 0, none⟩)), (5, .pointer (some ⟨b5, 0, none⟩)), (9, .pointer (some ⟨b9, 0, none⟩)), (13, .int .i64 i)] ∧
          H b4 = some (.own 0 (List.replicate 17 (.int .u32 0)) 17) ∧ H b9 = some (.own 0 (rowK .u32 (blendF p (fun x => 0) i) 17) 17) ∧ H b5 = some (.own 0 (rowK .u64 p 17) 17)) 17 ⟨leH, 0, by omega, rfl, rfl, q4, by rw [blendF_0]; exact q9, q5⟩ ?_
        clear q4 q9 q5 leH
        rintro m t H ⟨leH, i, hi, rfl, rfl, q4, q9, q5⟩
        by_cases hli : (i : Int) < 17
        · have hi' : i < 17 := by omega
          have e0 : (0 : Int) ≤ i := by omega
          have g5 := rowK_at q5 hi'
          have hpi : p i < 256 := by
            by_cases e : i = 16
            · subst e; omega
            · exact hT1 i (by omega)
          have w1 : IntKind.u32.wrap (p i : Int) = ((p i : Nat) : Int) := wrap_u32n (by omega)
          have w7 : IntKind.i64.wrap ((i : Int) + 1) = ((i + 1 : Nat) : Int) := wrapN (by omega)
          have s9 := rowK_store (z := p i) q9 hi' (Nat.le_refl _)
          rw [blendF_step] at s9
          simp -implicitDefEqProofs only [zB1,zB2,zB3,zB4,zB5,zB6,zB7,zB8,zB9,zB10,zB11,y00,y01,y02,y03,y04,y05,y06,y07,y08,y09,y0a,y0b,y0c,y0d,y0e,y0f,y0g,y0h,y0i,y0j,y0k,y0l,y0m,y0n,y0o,y0p,y0q,y0r,y0s,y0t,y0u,y0v,y0w,y0x,y0y,y0z,y10,y11,y12,y13,y14,y15,y16,y17,y18,y19,y1a,y1b,y1c,y1d,y1e,y1f,y1g,y1h,y1i,y1j,y1k,y1l,y1m,y1n,y1o,y1p,y1q,y1r,retO,retL,retV,z69,allV,allP,z6a,z6d,z6e,z6k,z6l,z6m,binV,eqV,unV,oOpt,reduceIte,reduceCtorEq,Nat.reduceEqDiff,Nat.reduceAdd,Nat.reduceMul,Nat.reduceLT,Nat.reduceSub,Int.reduceLT,Int.reduceLE,Int.reduceEq,Int.reduceNe,Int.reduceSub,Int.reduceAdd,Int.reduceMul,Int.reduceBEq,Int.reduceBNe,Int.reduceGT,Int.reduceGE,Nat.reduceGT,Int.reduceToNat,Int.reduceNeg,Nat.reduceLeDiff,Nat.reduceBEq,Nat.reduceBneDiff,Value.cells, hli, e0, Int.toNat_natCast, g5, w1, w7, s9]
          exact ⟨_, by omega, Heap.le_set leH hb9' _, i + 1, by omega, rfl, rfl, by rw [Heap.set_ne (Ne.symm n94)]; exact q4, Heap.set_self _ _ _, by rw [Heap.set_ne n59]; exact q5⟩
        · obtain rfl : i = 17 := by omega
          rw [blendF_all] at q9
          have l9 := rowK_cells q9
          have s4 := rowK_agg (k := .u32) (f := p) q4 (by simp) (by omega)
          have l4 : hcells (H.set b4 (.own 0 (rowK .u32 p 17) 17)) ⟨b4, 0, none⟩ 17 = some (rowK .u32 p 17) := z6o (rowK_len _ _ _)
          simp -implicitDefEqProofs only [zB1,zB2,zB3,zB4,zB5,zB6,zB7,zB8,zB9,zB10,zB11,y00,y01,y02,y03,y04,y05,y06,y07,y08,y09,y0a,y0b,y0c,y0d,y0e,y0f,y0g,y0h,y0i,y0j,y0k,y0l,y0m,y0n,y0o,y0p,y0q,y0r,y0s,y0t,y0u,y0v,y0w,y0x,y0y,y0z,y10,y11,y12,y13,y14,y15,y16,y17,y18,y19,y1a,y1b,y1c,y1d,y1e,y1f,y1g,y1h,y1i,y1j,y1k,y1l,y1m,y1n,y1o,y1p,y1q,y1r,retO,retL,retV,z69,allV,allP,z6a,z6d,z6e,z6k,z6l,z6m,binV,eqV,unV,oOpt,reduceIte,reduceCtorEq,Nat.reduceEqDiff,Nat.reduceAdd,Nat.reduceMul,Nat.reduceLT,Nat.reduceSub,Int.reduceLT,Int.reduceLE,Int.reduceEq,Int.reduceNe,Int.reduceSub,Int.reduceAdd,Int.reduceMul,Int.reduceBEq,Int.reduceBNe,Int.reduceGT,Int.reduceGE,Nat.reduceGT,Int.reduceToNat,Int.reduceNeg,Nat.reduceLeDiff,Nat.reduceBEq,Nat.reduceBneDiff,Value.cells, hli, l9, s4, l4]
          exact ⟨Heap.le_set leH hb4' _, p, rfl, ⟨hT1, hT2⟩, hv⟩
end Go.Bb
/- The document's poly: least. -/
namespace Go.Bb
set_option linter.unusedSimpArgs false
set_option linter.unusedVariables false
set_option maxRecDepth 20000
set_option maxHeartbeats 4000000

theorem unit1 : Value.int .u32 1 :: List.drop 1 (List.replicate 17 (Value.int .u32 0)) = rowK .u32 (unitF 1) 17 := rfl
theorem unit5 : Value.int .u32 5 :: List.drop 1 (List.replicate 17 (Value.int .u32 0)) = rowK .u32 (unitF 5) 17 := rfl
theorem ref4_least_c (E : EnvT tab) (h : Heap) (f : Nat → Nat) (hf : ∀ j, j < 17 → f j < 256) :
    ACallN E.toEnv n_bandboxref4_least [.agg (rowK .u32 f 17).toArray] h fun r h' => h.le h' ∧ ∃ p, r = .agg (rowK .u32 p 17).toArray ∧ NormD p ∧ valD p 17 = valD f 17 % PQ := by
  refine acall h_bandboxref4_least ir_bandboxref4_least rfl rfl (wpA_sound ?_)
  unfold ir_bandboxref4_least
  simp -implicitDefEqProofs only [zB1,zB2,zB3,zB4,zB5,zB6,zB7,zB8,zB9,zB10,zB11,y00,y01,y02,y03,y04,y05,y06,y07,y08,y09,y0a,y0b,y0c,y0d,y0e,y0f,y0g,y0h,y0i,y0j,y0k,y0l,y0m,y0n,y0o,y0p,y0q,y0r,y0s,y0t,y0u,y0v,y0w,y0x,y0y,y0z,y10,y11,y12,y13,y14,y15,y16,y17,y18,y19,y1a,y1b,y1c,y1d,y1e,y1f,y1g,y1h,y1i,y1j,y1k,y1l,y1m,y1n,y1o,y1p,y1q,y1r,retO,retL,retV,z69,allV,allP,z6a,z6d,z6e,z6k,z6l,z6m,binV,eqV,unV,oOpt,reduceIte,reduceCtorEq,Nat.reduceEqDiff,Nat.reduceAdd,Nat.reduceMul,Nat.reduceLT,Nat.reduceSub,Int.reduceLT,Int.reduceLE,Int.reduceEq,Int.reduceNe,Int.reduceSub,Int.reduceAdd,Int.reduceMul,Int.reduceBEq,Int.reduceBNe,Int.reduceGT,Int.reduceGE,Nat.reduceGT,Int.reduceToNat,Int.reduceNeg,Nat.reduceLeDiff,Nat.reduceBEq,Nat.reduceBneDiff,Value.cells, List.length_replicate, unit1, rowK_len]
  intro b1 hb1 b2 hb2 b3 hb3
  obtain ⟨n21, hb2'⟩ := Heap.set_none.1 hb2
  obtain ⟨n32, hb3a⟩ := Heap.set_none.1 hb3
  obtain ⟨n31, hb3'⟩ := Heap.set_none.1 hb3a
  have s3 : storeV (((h.set b1 (.own 0 (rowK .u32 f 17) 17)).set b2 (.own 0 (List.replicate 17 (.int .u32 0)) 17)).set b3 (.own 0 (List.replicate 17 (.int .u32 0)) 17)) 17 (.pointer (some ⟨b3, 0, none⟩)) (.agg (rowK .u32 (unitF 1) 17).toArray) = some ((((h.set b1 (.own 0 (rowK .u32 f 17) 17)).set b2 (.own 0 (List.replicate 17 (.int .u32 0)) 17)).set b3 (.own 0 (rowK .u32 (unitF 1) 17) 17))) := z6q (by omega) (rowK_len _ _ _) (rowK_one _ _ _) (by simp) (by omega)
  try simp -implicitDefEqProofs only [zB1,zB2,zB3,zB4,zB5,zB6,zB7,zB8,zB9,zB10,zB11,y00,y01,y02,y03,y04,y05,y06,y07,y08,y09,y0a,y0b,y0c,y0d,y0e,y0f,y0g,y0h,y0i,y0j,y0k,y0l,y0m,y0n,y0o,y0p,y0q,y0r,y0s,y0t,y0u,y0v,y0w,y0x,y0y,y0z,y10,y11,y12,y13,y14,y15,y16,y17,y18,y19,y1a,y1b,y1c,y1d,y1e,y1f,y1g,y1h,y1i,y1j,y1k,y1l,y1m,y1n,y1o,y1p,y1q,y1r,retO,retL,retV,z69,allV,allP,z6a,z6d,z6e,z6k,z6l,z6m,binV,eqV,unV,oOpt,reduceIte,reduceCtorEq,Nat.reduceEqDiff,Nat.reduceAdd,Nat.reduceMul,Nat.reduceLT,Nat.reduceSub,Int.reduceLT,Int.reduceLE,Int.reduceEq,Int.reduceNe,Int.reduceSub,Int.reduceAdd,Int.reduceMul,Int.reduceBEq,Int.reduceBNe,Int.reduceGT,Int.reduceGE,Nat.reduceGT,Int.reduceToNat,Int.reduceNeg,Nat.reduceLeDiff,Nat.reduceBEq,Nat.reduceBneDiff,Value.cells, s3]
  have le0 : h.le (((h.set b1 (.own 0 (rowK .u32 f 17) 17)).set b2 (.own 0 (List.replicate 17 (.int .u32 0)) 17)).set b3 (.own 0 (rowK .u32 (unitF 1) 17) 17)) := Heap.le_set (Heap.le_set (Heap.le_set (Heap.le_refl _) hb1 _) hb2' _) hb3' _
  have q1 : (((h.set b1 (.own 0 (rowK .u32 f 17) 17)).set b2 (.own 0 (List.replicate 17 (.int .u32 0)) 17)).set b3 (.own 0 (rowK .u32 (unitF 1) 17) 17)) b1 = some (.own 0 (rowK .u32 f 17) 17) := set_keep (set_keep (Heap.set_self _ _ _) (Ne.symm n21)) (Ne.symm n31)
  have q2 : (((h.set b1 (.own 0 (rowK .u32 f 17) 17)).set b2 (.own 0 (List.replicate 17 (.int .u32 0)) 17)).set b3 (.own 0 (rowK .u32 (unitF 1) 17) 17)) b2 = some (.own 0 (List.replicate 17 (.int .u32 0)) 17) := set_keep (Heap.set_self _ _ _) (Ne.symm n32)
  have q3 : (((h.set b1 (.own 0 (rowK .u32 f 17) 17)).set b2 (.own 0 (List.replicate 17 (.int .u32 0)) 17)).set b3 (.own 0 (rowK .u32 (unitF 1) 17) 17)) b3 = some (.own 0 (rowK .u32 (unitF 1) 17) 17) := Heap.set_self _ _ _
  generalize (((h.set b1 (.own 0 (rowK .u32 f 17) 17)).set b2 (.own 0 (List.replicate 17 (.int .u32 0)) 17)).set b3 (.own 0 (rowK .u32 (unitF 1) 17) 17)) = h1 at le0 q1 q2 q3 ⊢
  clear s3 hb3 hb3a n31 n32 hb2
  have l1 := rowK_cells q1
  have l3 := rowK_cells q3
  simp -implicitDefEqProofs only [zB1,zB2,zB3,zB4,zB5,zB6,zB7,zB8,zB9,zB10,zB11,y00,y01,y02,y03,y04,y05,y06,y07,y08,y09,y0a,y0b,y0c,y0d,y0e,y0f,y0g,y0h,y0i,y0j,y0k,y0l,y0m,y0n,y0o,y0p,y0q,y0r,y0s,y0t,y0u,y0v,y0w,y0x,y0y,y0z,y10,y11,y12,y13,y14,y15,y16,y17,y18,y19,y1a,y1b,y1c,y1d,y1e,y1f,y1g,y1h,y1i,y1j,y1k,y1l,y1m,y1n,y1o,y1p,y1q,y1r,retO,retL,retV,z69,allV,allP,z6a,z6d,z6e,z6k,z6l,z6m,binV,eqV,unV,oOpt,reduceIte,reduceCtorEq,Nat.reduceEqDiff,Nat.reduceAdd,Nat.reduceMul,Nat.reduceLT,Nat.reduceSub,Int.reduceLT,Int.reduceLE,Int.reduceEq,Int.reduceNe,Int.reduceSub,Int.reduceAdd,Int.reduceMul,Int.reduceBEq,Int.reduceBNe,Int.reduceGT,Int.reduceGE,Nat.reduceGT,Int.reduceToNat,Int.reduceNeg,Nat.reduceLeDiff,Nat.reduceBEq,Nat.reduceBneDiff,Value.cells, l1, l3]
  refine (ref4_times_c E _ f (unitF 1) hf (fun j hj => by unfold unitF; split <;> omega)).mono ?_
  rintro v h2 ⟨le2, q, rfl, nq, hv⟩
  rw [unitF_val, Nat.mul_one] at hv
  have s1 := rowK_agg (k := .u32) (f := q) (le2 _ _ q1) (rowK_len _ _ _) (by omega)
  have le02 := Heap.le_trans le0 le2
  simp -implicitDefEqProofs only [zB1,zB2,zB3,zB4,zB5,zB6,zB7,zB8,zB9,zB10,zB11,y00,y01,y02,y03,y04,y05,y06,y07,y08,y09,y0a,y0b,y0c,y0d,y0e,y0f,y0g,y0h,y0i,y0j,y0k,y0l,y0m,y0n,y0o,y0p,y0q,y0r,y0s,y0t,y0u,y0v,y0w,y0x,y0y,y0z,y10,y11,y12,y13,y14,y15,y16,y17,y18,y19,y1a,y1b,y1c,y1d,y1e,y1f,y1g,y1h,y1i,y1j,y1k,y1l,y1m,y1n,y1o,y1p,y1q,y1r,retO,retL,retV,z69,allV,allP,z6a,z6d,z6e,z6k,z6l,z6m,binV,eqV,unV,oOpt,reduceIte,reduceCtorEq,Nat.reduceEqDiff,Nat.reduceAdd,Nat.reduceMul,Nat.reduceLT,Nat.reduceSub,Int.reduceLT,Int.reduceLE,Int.reduceEq,Int.reduceNe,Int.reduceSub,Int.reduceAdd,Int.reduceMul,Int.reduceBEq,Int.reduceBNe,Int.reduceGT,Int.reduceGE,Nat.reduceGT,Int.reduceToNat,Int.reduceNeg,Nat.reduceLeDiff,Nat.reduceBEq,Nat.reduceBneDiff,Value.cells, s1]
  have q1' : (h2.set b1 (.own 0 (rowK .u32 q 17) 17)) b1 = some (.own 0 (rowK .u32 q 17) 17) := Heap.set_self _ _ _
  have q2' : (h2.set b1 (.own 0 (rowK .u32 q 17) 17)) b2 = some (.own 0 (List.replicate 17 (.int .u32 0)) 17) := set_keep (le2 _ _ q2) n21
  have le3 : h.le (h2.set b1 (.own 0 (rowK .u32 q 17) 17)) := Heap.le_set le02 hb1 _
  generalize (h2.set b1 (.own 0 (rowK .u32 q 17) 17)) = h3 at q1' q2' le3 ⊢
  unfold ir_bandboxref4_least_10
  simp -implicitDefEqProofs only [zB1,zB2,zB3,zB4,zB5,zB6,zB7,zB8,zB9,zB10,zB11,y00,y01,y02,y03,y04,y05,y06,y07,y08,y09,y0a,y0b,y0c,y0d,y0e,y0f,y0g,y0h,y0i,y0j,y0k,y0l,y0m,y0n,y0o,y0p,y0q,y0r,y0s,y0t,y0u,y0v,y0w,y0x,y0y,y0z,y10,y11,y12,y13,y14,y15,y16,y17,y18,y19,y1a,y1b,y1c,y1d,y1e,y1f,y1g,y1h,y1i,y1j,y1k,y1l,y1m,y1n,y1o,y1p,y1q,y1r,retO,retL,retV,z69,allV,allP,z6a,z6d,z6e,z6k,z6l,z6m,binV,eqV,unV,oOpt,reduceIte,reduceCtorEq,Nat.reduceEqDiff,Nat.reduceAdd,Nat.reduceMul,Nat.reduceLT,Nat.reduceSub,Int.reduceLT,Int.reduceLE,Int.reduceEq,Int.reduceNe,Int.reduceSub,Int.reduceAdd,Int.reduceMul,Int.reduceBEq,Int.reduceBNe,Int.reduceGT,Int.reduceGE,Nat.reduceGT,Int.reduceToNat,Int.reduceNeg,Nat.reduceLeDiff,Nat.reduceBEq,Nat.reduceBneDiff,Value.cells, List.length_replicate, unit5]
  intro b4 hb4
  have s4 : storeV (h3.set b4 (.own 0 (List.replicate 17 (.int .u32 0)) 17)) 17 (.pointer (some ⟨b4, 0, none⟩)) (.agg (rowK .u32 (unitF 5) 17).toArray) = some (h3.set b4 (.own 0 (rowK .u32 (unitF 5) 17) 17)) := z6q (by omega) (rowK_len _ _ _) (rowK_one _ _ _) (by simp) (by omega)
  have q14 := set_new (X := .own 0 (rowK .u32 (unitF 5) 17) 17) hb4 q1'
  have q24 := set_new (X := .own 0 (rowK .u32 (unitF 5) 17) 17) hb4 q2'
  have q44 := Heap.set_self h3 b4 (.own 0 (rowK .u32 (unitF 5) 17) 17)
  have le4 := Heap.le_new le3 hb4 (.own 0 (rowK .u32 (unitF 5) 17) 17)
  try simp -implicitDefEqProofs only [zB1,zB2,zB3,zB4,zB5,zB6,zB7,zB8,zB9,zB10,zB11,y00,y01,y02,y03,y04,y05,y06,y07,y08,y09,y0a,y0b,y0c,y0d,y0e,y0f,y0g,y0h,y0i,y0j,y0k,y0l,y0m,y0n,y0o,y0p,y0q,y0r,y0s,y0t,y0u,y0v,y0w,y0x,y0y,y0z,y10,y11,y12,y13,y14,y15,y16,y17,y18,y19,y1a,y1b,y1c,y1d,y1e,y1f,y1g,y1h,y1i,y1j,y1k,y1l,y1m,y1n,y1o,y1p,y1q,y1r,retO,retL,retV,z69,allV,allP,z6a,z6d,z6e,z6k,z6l,z6m,binV,eqV,unV,oOpt,reduceIte,reduceCtorEq,Nat.reduceEqDiff,Nat.reduceAdd,Nat.reduceMul,Nat.reduceLT,Nat.reduceSub,Int.reduceLT,Int.reduceLE,Int.reduceEq,Int.reduceNe,Int.reduceSub,Int.reduceAdd,Int.reduceMul,Int.reduceBEq,Int.reduceBNe,Int.reduceGT,Int.reduceGE,Nat.reduceGT,Int.reduceToNat,Int.reduceNeg,Nat.reduceLeDiff,Nat.reduceBEq,Nat.reduceBneDiff,Value.cells, s4]
  generalize (h3.set b4 (.own 0 (rowK .u32 (unitF 5) 17) 17)) = h4 at q14 q24 q44 le4 ⊢
  have l14 := rowK_cells q14
  have l44 := rowK_cells q44
  simp -implicitDefEqProofs only [zB1,zB2,zB3,zB4,zB5,zB6,zB7,zB8,zB9,zB10,zB11,y00,y01,y02,y03,y04,y05,y06,y07,y08,y09,y0a,y0b,y0c,y0d,y0e,y0f,y0g,y0h,y0i,y0j,y0k,y0l,y0m,y0n,y0o,y0p,y0q,y0r,y0s,y0t,y0u,y0v,y0w,y0x,y0y,y0z,y10,y11,y12,y13,y14,y15,y16,y17,y18,y19,y1a,y1b,y1c,y1d,y1e,y1f,y1g,y1h,y1i,y1j,y1k,y1l,y1m,y1n,y1o,y1p,y1q,y1r,retO,retL,retV,z69,allV,allP,z6a,z6d,z6e,z6k,z6l,z6m,binV,eqV,unV,oOpt,reduceIte,reduceCtorEq,Nat.reduceEqDiff,Nat.reduceAdd,Nat.reduceMul,Nat.reduceLT,Nat.reduceSub,Int.reduceLT,Int.reduceLE,Int.reduceEq,Int.reduceNe,Int.reduceSub,Int.reduceAdd,Int.reduceMul,Int.reduceBEq,Int.reduceBNe,Int.reduceGT,Int.reduceGE,Nat.reduceGT,Int.reduceToNat,Int.reduceNeg,Nat.reduceLeDiff,Nat.reduceBEq,Nat.reduceBneDiff,Value.cells, l14, l44]
  refine (ref4_plus_c E _ q (unitF 5) (fun j hj => by have := norm_255 nq j hj; omega) (fun j hj => by unfold unitF; split <;> omega)).mono ?_
  rintro v h5 ⟨le5, rfl⟩
  have hi := least_hi nq
  have lo := least_lo nq
  rw [hv] at hi
  have lo : ¬ 4 ≤ addD q (unitF 5) 16 → valD q 17 = valD f 17 % PQ := fun x => by rw [lo x, hv]
  have c16 : addD q (unitF 5) 16 < 4294967296 := by
    rw [addD_16]
    have h1 := carD_le (f := q) (g := unitF 5) (B := 255) (fun j hj => by have := norm_255 nq j hj; omega) (fun j hj => by unfold unitF; split <;> omega) 16 (by omega)
    have h2 := nq.2
    have h3 : unitF 5 16 = 0 := rfl
    omega
  generalize addD q (unitF 5) = g at hi lo c16 ⊢
  simp -implicitDefEqProofs only [zB1,zB2,zB3,zB4,zB5,zB6,zB7,zB8,zB9,zB10,zB11,y00,y01,y02,y03,y04,y05,y06,y07,y08,y09,y0a,y0b,y0c,y0d,y0e,y0f,y0g,y0h,y0i,y0j,y0k,y0l,y0m,y0n,y0o,y0p,y0q,y0r,y0s,y0t,y0u,y0v,y0w,y0x,y0y,y0z,y10,y11,y12,y13,y14,y15,y16,y17,y18,y19,y1a,y1b,y1c,y1d,y1e,y1f,y1g,y1h,y1i,y1j,y1k,y1l,y1m,y1n,y1o,y1p,y1q,y1r,retO,retL,retV,z69,allV,allP,z6a,z6d,z6e,z6k,z6l,z6m,binV,eqV,unV,oOpt,reduceIte,reduceCtorEq,Nat.reduceEqDiff,Nat.reduceAdd,Nat.reduceMul,Nat.reduceLT,Nat.reduceSub,Int.reduceLT,Int.reduceLE,Int.reduceEq,Int.reduceNe,Int.reduceSub,Int.reduceAdd,Int.reduceMul,Int.reduceBEq,Int.reduceBNe,Int.reduceGT,Int.reduceGE,Nat.reduceGT,Int.reduceToNat,Int.reduceNeg,Nat.reduceLeDiff,Nat.reduceBEq,Nat.reduceBneDiff,Value.cells, List.length_replicate]
  intro b5 hb5
  have q15 := set_new (X := .own 0 (List.replicate 17 (.int .u32 0)) 17) hb5 (le5 _ _ q14)
  have q25 := set_new (X := .own 0 (List.replicate 17 (.int .u32 0)) 17) hb5 (le5 _ _ q24)
  have n25 := ne_of_none hb5 (le5 _ _ q24)
  have n15 := ne_of_none hb5 (le5 _ _ q14)
  have hb5' := Heap.none_of_le (Heap.le_trans le4 le5) hb5
  have s5 : storeV (h5.set b5 (.own 0 (List.replicate 17 (.int .u32 0)) 17)) 17 (.pointer (some ⟨b5, 0, none⟩)) (.agg (rowK .u32 g 17).toArray) = some (h5.set b5 (.own 0 (rowK .u32 g 17) 17)) := z6q (by omega) (rowK_len _ _ _) (rowK_one _ _ _) (by simp) (by omega)
  have q55 := Heap.set_self h5 b5 (.own 0 (rowK .u32 g 17) 17)
  have q15 := set_new (X := .own 0 (rowK .u32 g 17) 17) hb5 (le5 _ _ q14)
  have q25 := set_new (X := .own 0 (rowK .u32 g 17) 17) hb5 (le5 _ _ q24)
  have le55 := Heap.le_new (Heap.le_trans le4 le5) hb5 (.own 0 (rowK .u32 g 17) 17)
  simp -implicitDefEqProofs only [zB1,zB2,zB3,zB4,zB5,zB6,zB7,zB8,zB9,zB10,zB11,y00,y01,y02,y03,y04,y05,y06,y07,y08,y09,y0a,y0b,y0c,y0d,y0e,y0f,y0g,y0h,y0i,y0j,y0k,y0l,y0m,y0n,y0o,y0p,y0q,y0r,y0s,y0t,y0u,y0v,y0w,y0x,y0y,y0z,y10,y11,y12,y13,y14,y15,y16,y17,y18,y19,y1a,y1b,y1c,y1d,y1e,y1f,y1g,y1h,y1i,y1j,y1k,y1l,y1m,y1n,y1o,y1p,y1q,y1r,retO,retL,retV,z69,allV,allP,z6a,z6d,z6e,z6k,z6l,z6m,binV,eqV,unV,oOpt,reduceIte,reduceCtorEq,Nat.reduceEqDiff,Nat.reduceAdd,Nat.reduceMul,Nat.reduceLT,Nat.reduceSub,Int.reduceLT,Int.reduceLE,Int.reduceEq,Int.reduceNe,Int.reduceSub,Int.reduceAdd,Int.reduceMul,Int.reduceBEq,Int.reduceBNe,Int.reduceGT,Int.reduceGE,Nat.reduceGT,Int.reduceToNat,Int.reduceNeg,Nat.reduceLeDiff,Nat.reduceBEq,Nat.reduceBneDiff,Value.cells, s5]
  generalize (h5.set b5 (.own 0 (rowK .u32 g 17) 17)) = h6 at q55 q15 q25 le55 ⊢
  have g5 := rowK_at q55 (show 16 < 17 by omega)
  by_cases c4 : (4 : Int) ≤ (g 16 : Int)
  · obtain ⟨nu, hu⟩ := hi (by omega)
    have w3 := u32_and3 c16
    have s6 := rowK_store (z := g 16 % 4) q55 (show 16 < 17 by omega) (Nat.le_refl _)
    have q56 := Heap.set_self h6 b5 (.own 0 (rowK .u32 (upd g 16 (g 16 % 4)) 17) 17)
    have q26 : (h6.set b5 (.own 0 (rowK .u32 (upd g 16 (g 16 % 4)) 17) 17)) b2 = some (.own 0 (List.replicate 17 (.int .u32 0)) 17) := set_keep q25 n25
    have l5 := rowK_cells q56
    have s2 := rowK_agg (k := .u32) (f := upd g 16 (g 16 % 4)) q26 (by simp) (by omega)
    have l2 := z6o (h := h6.set b5 (.own 0 (rowK .u32 (upd g 16 (g 16 % 4)) 17) 17)) (b := b2) (sz := 17) (rowK_len .u32 (upd g 16 (g 16 % 4)) 17)
    simp -implicitDefEqProofs only [zB1,zB2,zB3,zB4,zB5,zB6,zB7,zB8,zB9,zB10,zB11,y00,y01,y02,y03,y04,y05,y06,y07,y08,y09,y0a,y0b,y0c,y0d,y0e,y0f,y0g,y0h,y0i,y0j,y0k,y0l,y0m,y0n,y0o,y0p,y0q,y0r,y0s,y0t,y0u,y0v,y0w,y0x,y0y,y0z,y10,y11,y12,y13,y14,y15,y16,y17,y18,y19,y1a,y1b,y1c,y1d,y1e,y1f,y1g,y1h,y1i,y1j,y1k,y1l,y1m,y1n,y1o,y1p,y1q,y1r,retO,retL,retV,z69,allV,allP,z6a,z6d,z6e,z6k,z6l,z6m,binV,eqV,unV,oOpt,reduceIte,reduceCtorEq,Nat.reduceEqDiff,Nat.reduceAdd,Nat.reduceMul,Nat.reduceLT,Nat.reduceSub,Int.reduceLT,Int.reduceLE,Int.reduceEq,Int.reduceNe,Int.reduceSub,Int.reduceAdd,Int.reduceMul,Int.reduceBEq,Int.reduceBNe,Int.reduceGT,Int.reduceGE,Nat.reduceGT,Int.reduceToNat,Int.reduceNeg,Nat.reduceLeDiff,Nat.reduceBEq,Nat.reduceBneDiff,Value.cells, g5, c4, w3, s6, l5, s2, l2]
    exact ⟨Heap.le_set (Heap.le_set le55 hb5' _) hb2' _, _, rfl, nu, hu⟩
  · have l1 := rowK_cells q15
    have s2 := rowK_agg (k := .u32) (f := q) q25 (by simp) (by omega)
    have l2 := z6o (h := h6) (b := b2) (sz := 17) (rowK_len .u32 q 17)
    simp -implicitDefEqProofs only [zB1,zB2,zB3,zB4,zB5,zB6,zB7,zB8,zB9,zB10,zB11,y00,y01,y02,y03,y04,y05,y06,y07,y08,y09,y0a,y0b,y0c,y0d,y0e,y0f,y0g,y0h,y0i,y0j,y0k,y0l,y0m,y0n,y0o,y0p,y0q,y0r,y0s,y0t,y0u,y0v,y0w,y0x,y0y,y0z,y10,y11,y12,y13,y14,y15,y16,y17,y18,y19,y1a,y1b,y1c,y1d,y1e,y1f,y1g,y1h,y1i,y1j,y1k,y1l,y1m,y1n,y1o,y1p,y1q,y1r,retO,retL,retV,z69,allV,allP,z6a,z6d,z6e,z6k,z6l,z6m,binV,eqV,unV,oOpt,reduceIte,reduceCtorEq,Nat.reduceEqDiff,Nat.reduceAdd,Nat.reduceMul,Nat.reduceLT,Nat.reduceSub,Int.reduceLT,Int.reduceLE,Int.reduceEq,Int.reduceNe,Int.reduceSub,Int.reduceAdd,Int.reduceMul,Int.reduceBEq,Int.reduceBNe,Int.reduceGT,Int.reduceGE,Nat.reduceGT,Int.reduceToNat,Int.reduceNeg,Nat.reduceLeDiff,Nat.reduceBEq,Nat.reduceBneDiff,Value.cells, g5, c4, l1, s2, l2]
    exact ⟨Heap.le_set le55 hb2' _, _, rfl, nq, lo (by omega)⟩
end Go.Bb
/- The document's poly: Clamp. -/
namespace Go.Bb
set_option linter.unusedSimpArgs false
set_option linter.unusedVariables false
set_option maxRecDepth 20000
set_option maxHeartbeats 4000000

theorem ref4_Clamp_c (E : EnvT tab) (h : Heap) (f : Nat → UInt8) : ACallN E.toEnv n_bandboxref4_Clamp [.agg (row8 f 16).toArray] h fun r h' => h.le h' ∧ r = .agg (row8 (clampG f) 16).toArray := by
  refine acall h_bandboxref4_Clamp ir_bandboxref4_Clamp rfl rfl (wpA_sound ?_)
  unfold ir_bandboxref4_Clamp
  simp -implicitDefEqProofs only [zB1,zB2,zB3,zB4,zB5,zB6,zB7,zB8,zB9,zB10,zB11,y00,y01,y02,y03,y04,y05,y06,y07,y08,y09,y0a,y0b,y0c,y0d,y0e,y0f,y0g,y0h,y0i,y0j,y0k,y0l,y0m,y0n,y0o,y0p,y0q,y0r,y0s,y0t,y0u,y0v,y0w,y0x,y0y,y0z,y10,y11,y12,y13,y14,y15,y16,y17,y18,y19,y1a,y1b,y1c,y1d,y1e,y1f,y1g,y1h,y1i,y1j,y1k,y1l,y1m,y1n,y1o,y1p,y1q,y1r,retO,retL,retV,z69,allV,allP,z6a,z6d,z6e,z6k,z6l,z6m,binV,eqV,unV,oOpt,reduceIte,reduceCtorEq,Nat.reduceEqDiff,Nat.reduceAdd,Nat.reduceMul,Nat.reduceLT,Nat.reduceSub,Int.reduceLT,Int.reduceLE,Int.reduceEq,Int.reduceNe,Int.reduceSub,Int.reduceAdd,Int.reduceMul,Int.reduceBEq,Int.reduceBNe,Int.reduceGT,Int.reduceGE,Nat.reduceGT,Int.reduceToNat,Int.reduceNeg,Nat.reduceLeDiff,Nat.reduceBEq,Nat.reduceBneDiff,Value.cells, List.length_replicate, row8_len]
  intro b1 hb1 b2 hb2
  obtain ⟨n21, hb2'⟩ := Heap.set_none.1 hb2
  try simp -implicitDefEqProofs only [zB1,zB2,zB3,zB4,zB5,zB6,zB7,zB8,zB9,zB10,zB11,y00,y01,y02,y03,y04,y05,y06,y07,y08,y09,y0a,y0b,y0c,y0d,y0e,y0f,y0g,y0h,y0i,y0j,y0k,y0l,y0m,y0n,y0o,y0p,y0q,y0r,y0s,y0t,y0u,y0v,y0w,y0x,y0y,y0z,y10,y11,y12,y13,y14,y15,y16,y17,y18,y19,y1a,y1b,y1c,y1d,y1e,y1f,y1g,y1h,y1i,y1j,y1k,y1l,y1m,y1n,y1o,y1p,y1q,y1r,retO,retL,retV,z69,allV,allP,z6a,z6d,z6e,z6k,z6l,z6m,binV,eqV,unV,oOpt,reduceIte,reduceCtorEq,Nat.reduceEqDiff,Nat.reduceAdd,Nat.reduceMul,Nat.reduceLT,Nat.reduceSub,Int.reduceLT,Int.reduceLE,Int.reduceEq,Int.reduceNe,Int.reduceSub,Int.reduceAdd,Int.reduceMul,Int.reduceBEq,Int.reduceBNe,Int.reduceGT,Int.reduceGE,Nat.reduceGT,Int.reduceToNat,Int.reduceNeg,Nat.reduceLeDiff,Nat.reduceBEq,Nat.reduceBneDiff,Value.cells]
  have le0 : h.le ((h.set b1 (.own 0 (row8 f 16) 16)).set b2 (.own 0 (List.replicate 16 (.int .u8 0)) 16)) := Heap.le_set (Heap.le_set (Heap.le_refl _) hb1 _) hb2' _
  have q1 : ((h.set b1 (.own 0 (row8 f 16) 16)).set b2 (.own 0 (List.replicate 16 (.int .u8 0)) 16)) b1 = some (.own 0 (row8 (clA f 0) 16) 16) := by
    rw [Heap.set_ne (Ne.symm n21), Heap.set_self]
    rw [show row8 f 16 = row8 (clA f 0) 16 from row8_congr fun k _ => by unfold clA; rw [if_neg (by omega)]]
  have q2 : ((h.set b1 (.own 0 (row8 f 16) 16)).set b2 (.own 0 (List.replicate 16 (.int .u8 0)) 16)) b2 = some (.own 0 (List.replicate 16 (.int .u8 0)) 16) := Heap.set_self _ _ _
  generalize ((h.set b1 (.own 0 (row8 f 16) 16)).set b2 (.own 0 (List.replicate 16 (.int .u8 0)) 16)) = h1 at le0 q1 q2 ⊢
  refine wp_loop' (fun m t H => h.le H ∧ ∃ (i : Nat), t = tl [(1, .pointer (some ⟨b1, 0, none⟩)), (2, .pointer (some ⟨b2, 0, none⟩)), (3, .int .i64 (ixA i : Nat))] ∧ i ≤ 4 ∧ m = 4 - i ∧
      H b1 = some (.own 0 (row8 (clA f i) 16) 16) ∧ H b2 = some (.own 0 (List.replicate 16 (.int .u8 0)) 16)) 4
    ⟨le0, 0, rfl, by omega, by omega, q1, q2⟩ ?_
  clear q1 q2 le0
  rintro m t H ⟨leH, i, rfl, hi, rfl, q1, q2⟩
  by_cases hlt : i < 4
  · have x1 : ixA i < 16 := by unfold ixA; omega
    have x2 : ((ixA i : Nat) : Int) < 16 := by omega
    have x3 : (0 : Int) ≤ ((ixA i : Nat) : Int) := by omega
    have w1 : IntKind.i64.wrap (((ixA i : Nat) : Int) + 4) = ((ixA (i + 1) : Nat) : Int) := by rw [wrapI (by omega) (by omega)]; unfold ixA; omega
    have c1 := row8_at q1 x1
    have s1 := row8_store (z := clA f i (ixA i) &&& 15) q1 x1
    rw [clA_step] at s1
    simp -implicitDefEqProofs only [zB1,zB2,zB3,zB4,zB5,zB6,zB7,zB8,zB9,zB10,zB11,y00,y01,y02,y03,y04,y05,y06,y07,y08,y09,y0a,y0b,y0c,y0d,y0e,y0f,y0g,y0h,y0i,y0j,y0k,y0l,y0m,y0n,y0o,y0p,y0q,y0r,y0s,y0t,y0u,y0v,y0w,y0x,y0y,y0z,y10,y11,y12,y13,y14,y15,y16,y17,y18,y19,y1a,y1b,y1c,y1d,y1e,y1f,y1g,y1h,y1i,y1j,y1k,y1l,y1m,y1n,y1o,y1p,y1q,y1r,retO,retL,retV,z69,allV,allP,z6a,z6d,z6e,z6k,z6l,z6m,binV,eqV,unV,oOpt,reduceIte,reduceCtorEq,Nat.reduceEqDiff,Nat.reduceAdd,Nat.reduceMul,Nat.reduceLT,Nat.reduceSub,Int.reduceLT,Int.reduceLE,Int.reduceEq,Int.reduceNe,Int.reduceSub,Int.reduceAdd,Int.reduceMul,Int.reduceBEq,Int.reduceBNe,Int.reduceGT,Int.reduceGE,Nat.reduceGT,Int.reduceToNat,Int.reduceNeg,Nat.reduceLeDiff,Nat.reduceBEq,Nat.reduceBneDiff,Value.cells, x2, x3, Int.toNat_natCast, c1, u8_a15, s1, w1]
    exact ⟨_, by omega, Heap.le_set leH hb1 _, i + 1, rfl, by omega, rfl, Heap.set_self _ _ _, set_keep q2 n21⟩
  · have : i = 4 := by omega
    subst this
    have x2 : ¬ ((ixA 4 : Nat) : Int) < 16 := by decide
    rw [show row8 (clA f 4) 16 = row8 (clB (clA f 4) 0) 16 from row8_congr fun k _ => by (conv => rhs; unfold clB); rw [if_neg (by omega)]] at q1
    generalize hg : clA f 4 = g at q1
    have hcl : clampG f = clB g 3 := by unfold clampG; rw [hg]
    rw [hcl]
    simp -implicitDefEqProofs only [zB1,zB2,zB3,zB4,zB5,zB6,zB7,zB8,zB9,zB10,zB11,y00,y01,y02,y03,y04,y05,y06,y07,y08,y09,y0a,y0b,y0c,y0d,y0e,y0f,y0g,y0h,y0i,y0j,y0k,y0l,y0m,y0n,y0o,y0p,y0q,y0r,y0s,y0t,y0u,y0v,y0w,y0x,y0y,y0z,y10,y11,y12,y13,y14,y15,y16,y17,y18,y19,y1a,y1b,y1c,y1d,y1e,y1f,y1g,y1h,y1i,y1j,y1k,y1l,y1m,y1n,y1o,y1p,y1q,y1r,retO,retL,retV,z69,allV,allP,z6a,z6d,z6e,z6k,z6l,z6m,binV,eqV,unV,oOpt,reduceIte,reduceCtorEq,Nat.reduceEqDiff,Nat.reduceAdd,Nat.reduceMul,Nat.reduceLT,Nat.reduceSub,Int.reduceLT,Int.reduceLE,Int.reduceEq,Int.reduceNe,Int.reduceSub,Int.reduceAdd,Int.reduceMul,Int.reduceBEq,Int.reduceBNe,Int.reduceGT,Int.reduceGE,Nat.reduceGT,Int.reduceToNat,Int.reduceNeg,Nat.reduceLeDiff,Nat.reduceBEq,Nat.reduceBneDiff,Value.cells, x2]
    unfold ir_bandboxref4_Clamp_4
    simp -implicitDefEqProofs only [zB1,zB2,zB3,zB4,zB5,zB6,zB7,zB8,zB9,zB10,zB11,y00,y01,y02,y03,y04,y05,y06,y07,y08,y09,y0a,y0b,y0c,y0d,y0e,y0f,y0g,y0h,y0i,y0j,y0k,y0l,y0m,y0n,y0o,y0p,y0q,y0r,y0s,y0t,y0u,y0v,y0w,y0x,y0y,y0z,y10,y11,y12,y13,y14,y15,y16,y17,y18,y19,y1a,y1b,y1c,y1d,y1e,y1f,y1g,y1h,y1i,y1j,y1k,y1l,y1m,y1n,y1o,y1p,y1q,y1r,retO,retL,retV,z69,allV,allP,z6a,z6d,z6e,z6k,z6l,z6m,binV,eqV,unV,oOpt,reduceIte,reduceCtorEq,Nat.reduceEqDiff,Nat.reduceAdd,Nat.reduceMul,Nat.reduceLT,Nat.reduceSub,Int.reduceLT,Int.reduceLE,Int.reduceEq,Int.reduceNe,Int.reduceSub,Int.reduceAdd,Int.reduceMul,Int.reduceBEq,Int.reduceBNe,Int.reduceGT,Int.reduceGE,Nat.reduceGT,Int.reduceToNat,Int.reduceNeg,Nat.reduceLeDiff,Nat.reduceBEq,Nat.reduceBneDiff,Value.cells]
    refine wp_loop' (fun m t H => h.le H ∧ ∃ (i : Nat), t = tl [(1, .pointer (some ⟨b1, 0, none⟩)), (2, .pointer (some ⟨b2, 0, none⟩)), (4, .int .i64 (ixB i : Nat))] ∧ i ≤ 3 ∧ m = 3 - i ∧
        H b1 = some (.own 0 (row8 (clB g i) 16) 16) ∧ H b2 = some (.own 0 (List.replicate 16 (.int .u8 0)) 16)) 3
      ⟨leH, 0, rfl, by omega, by omega, q1, q2⟩ ?_
    clear q1 q2 leH
    rintro m t H ⟨leH, i, rfl, hi, rfl, q1, q2⟩
    by_cases hlt : i < 3
    · have x1 : ixB i < 16 := by unfold ixB; omega
      have x2 : ((ixB i : Nat) : Int) < 16 := by omega
      have x3 : (0 : Int) ≤ ((ixB i : Nat) : Int) := by omega
      have w1 : IntKind.i64.wrap (((ixB i : Nat) : Int) + 4) = ((ixB (i + 1) : Nat) : Int) := by rw [wrapI (by omega) (by omega)]; unfold ixB; omega
      have c1 := row8_at q1 x1
      have s1 := row8_store (z := clB g i (ixB i) &&& 252) q1 x1
      rw [clB_step] at s1
      simp -implicitDefEqProofs only [zB1,zB2,zB3,zB4,zB5,zB6,zB7,zB8,zB9,zB10,zB11,y00,y01,y02,y03,y04,y05,y06,y07,y08,y09,y0a,y0b,y0c,y0d,y0e,y0f,y0g,y0h,y0i,y0j,y0k,y0l,y0m,y0n,y0o,y0p,y0q,y0r,y0s,y0t,y0u,y0v,y0w,y0x,y0y,y0z,y10,y11,y12,y13,y14,y15,y16,y17,y18,y19,y1a,y1b,y1c,y1d,y1e,y1f,y1g,y1h,y1i,y1j,y1k,y1l,y1m,y1n,y1o,y1p,y1q,y1r,retO,retL,retV,z69,allV,allP,z6a,z6d,z6e,z6k,z6l,z6m,binV,eqV,unV,oOpt,reduceIte,reduceCtorEq,Nat.reduceEqDiff,Nat.reduceAdd,Nat.reduceMul,Nat.reduceLT,Nat.reduceSub,Int.reduceLT,Int.reduceLE,Int.reduceEq,Int.reduceNe,Int.reduceSub,Int.reduceAdd,Int.reduceMul,Int.reduceBEq,Int.reduceBNe,Int.reduceGT,Int.reduceGE,Nat.reduceGT,Int.reduceToNat,Int.reduceNeg,Nat.reduceLeDiff,Nat.reduceBEq,Nat.reduceBneDiff,Value.cells, x2, x3, Int.toNat_natCast, c1, u8_a252, s1, w1]
      exact ⟨_, by omega, Heap.le_set leH hb1 _, i + 1, rfl, by omega, rfl, Heap.set_self _ _ _, set_keep q2 n21⟩
    · have : i = 3 := by omega
      subst this
      have x2 : ¬ ((ixB 3 : Nat) : Int) < 16 := by decide
      have hl : hcells H ⟨b1, 0, none⟩ 16 = some (row8 (clB g 3) 16) := by rw [hcells_at q1 (by rw [row8_len]; omega)]; simp [List.take_of_length_le, row8_len]
      have st : storeV H 16 (.pointer (some ⟨b2, 0, none⟩)) (.agg (row8 (clB g 3) 16).toArray) = some (H.set b2 (.own 0 (row8 (clB g 3) 16) 16)) := storeV_agg_at q2 (by omega) (row8_len _ _) (by simp [row8, one]) (by simp) (by omega)
      have hl2 : hcells (H.set b2 (.own 0 (row8 (clB g 3) 16) 16)) ⟨b2, 0, none⟩ 16 = some (row8 (clB g 3) 16) := z6o (row8_len _ _)
      simp -implicitDefEqProofs only [zB1,zB2,zB3,zB4,zB5,zB6,zB7,zB8,zB9,zB10,zB11,y00,y01,y02,y03,y04,y05,y06,y07,y08,y09,y0a,y0b,y0c,y0d,y0e,y0f,y0g,y0h,y0i,y0j,y0k,y0l,y0m,y0n,y0o,y0p,y0q,y0r,y0s,y0t,y0u,y0v,y0w,y0x,y0y,y0z,y10,y11,y12,y13,y14,y15,y16,y17,y18,y19,y1a,y1b,y1c,y1d,y1e,y1f,y1g,y1h,y1i,y1j,y1k,y1l,y1m,y1n,y1o,y1p,y1q,y1r,retO,retL,retV,z69,allV,allP,z6a,z6d,z6e,z6k,z6l,z6m,binV,eqV,unV,oOpt,reduceIte,reduceCtorEq,Nat.reduceEqDiff,Nat.reduceAdd,Nat.reduceMul,Nat.reduceLT,Nat.reduceSub,Int.reduceLT,Int.reduceLE,Int.reduceEq,Int.reduceNe,Int.reduceSub,Int.reduceAdd,Int.reduceMul,Int.reduceBEq,Int.reduceBNe,Int.reduceGT,Int.reduceGE,Nat.reduceGT,Int.reduceToNat,Int.reduceNeg,Nat.reduceLeDiff,Nat.reduceBEq,Nat.reduceBneDiff,Value.cells, x2, hl, st, hl2]
      exact Heap.le_set leH hb2' _
end Go.Bb
