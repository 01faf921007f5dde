/- My contracts: BbUk BbRow BbUm BbCkdf3 BbCsha6 BbCsha7 BbCkdf2 BbPref4 BbCoct2 BbCoct3 BbCmul BbCpoly0 BbCpoly1 BbCpoly2 BbCpoly3 BbCoct4 BbCpoly4 BbCslc BbCpoly5 BbLpoly2 BbPref5 BbPtag BbPtag2 BbUt BbLkdf2. -/
import Derived.Test.YtfbhhmmjfoemkaaBbM1
import Derived.Test.YtfbhhmmjfoemkaaBbG3
/- Arguments: bytes and words. -/
namespace Go.Bb
set_option linter.unusedSimpArgs false
set_option linter.unusedVariables false

theorem u8V_of {n : Int} (h0 : 0 ≤ n) (h1 : n ≤ 255) : u8V (UInt8.ofNat n.toNat) = .int .u8 n := by
  unfold u8V
  have : (UInt8.ofNat n.toNat).toNat = n.toNat := by rw [UInt8.toNat_ofNat']; omega
  rw [this]; congr 1; omega
end Go.Bb
namespace Go.Bb
def byteOf : Value → UInt8
  | .int _ z => UInt8.ofNat z.toNat
  | _ => 0
theorem ok_array {W : World} {n : Nat} {v : Value} (h : Shp.ok W (.array n 1 (.int .u8)) v) : ∃ l : List UInt8, l.length = n ∧ v = .agg (l.map u8V).toArray := by
  obtain ⟨⟨h1, h2⟩, h3⟩ := h
  simp only [Shp.wide, if_true] at h3
  obtain ⟨cs, rfl⟩ := h3
  have hc : (Value.agg cs).cells = cs := rfl
  rw [hc] at h1 h2
  rw [Nat.mul_one] at h1
  refine ⟨cs.toList.map byteOf, by simpa using h1, ?_⟩
  congr 1
  apply Array.toList_inj.1
  simp only
  apply List.ext_getElem
  · simp
  · intro i a b
    have hi : i < n := by rw [← h1]; exact a
    obtain ⟨z, hz, z0, z1⟩ := h2 i hi
    rw [Nat.mul_one] at hz
    have e : cs.toList[i] = .int .u8 z := by
      have h4 : ((cs.toList.drop i).take 1)[0]? = some (.int .u8 z) := by rw [hz]; rfl
      rw [List.getElem?_take, if_pos (by omega), List.getElem?_drop, Nat.add_zero, List.getElem?_eq_getElem a] at h4
      exact Option.some.inj h4
    rw [e]
    simp only [List.getElem_map]
    rw [e]
    exact (u8V_of (by simpa [IntKind.min, IntKind.signed] using z0) (by simpa [IntKind.max, IntKind.signed, IntKind.bits] using z1)).symm
end Go.Bb
/- Rows of numbers of any kind, and what masks and shifts tell of them. -/
namespace Go.Bb
set_option linter.unusedSimpArgs false
set_option linter.unusedVariables false

section
variable {k : IntKind} {f g : Nat → Nat} {n : Nat}
end
end Go.Bb
/- Arguments: slices of slices of bytes, texts. -/
namespace Go.Bb
set_option linter.unusedSimpArgs false
set_option linter.unusedVariables false

theorem ok_text {W : World} {v : Value} (h : Shp.ok W .str v) : ∃ l : List UInt8, v = strV l ∧ l.length ≤ 9223372036854775807 := by
  obtain ⟨s, rfl, hs⟩ := Shp.ok_str h
  exact ⟨s.data.toList, by simp [strV], by simpa using hs⟩
/-- A part of what is read, at its place. -/
theorem SlL.part {h : Heap} {base : Option Addr} {c : Nat} {L : List (List UInt8)} (s : SlL h (.slice base L.length c) L) (i : Nat) (hi : i < L.length) :
    ∃ b o u bi ci, base = some ⟨b, o, none⟩ ∧ u = .slice bi L[i].length ci ∧ SlB h u L[i] ∧ ∀ H, h.le H → hcell H ⟨b, o + i, none⟩ = some u := by
  obtain ⟨vs, hvs, sl, el⟩ := s
  obtain ⟨b, o, c', hv, hc, hcl⟩ := sl.ptr (by omega) (by omega)
  simp only [Value.slice.injEq, true_and] at hv
  obtain ⟨rfl, rfl⟩ := hv
  rw [Nat.mul_one] at hcl
  obtain ⟨bi, ci, e⟩ := Sl.shape (el i (by omega) hi)
  refine ⟨b, o, vs[i]'(by omega), bi, ci, rfl, e, el i (by omega) hi, fun H hH => ?_⟩
  rw [hcell_of (hcells_le hH hcl) i hi]; simp [hvs, hi]
theorem SlL.shape {h : Heap} {v : Value} {L : List (List UInt8)} (s : SlL h v L) : ∃ base c, v = .slice base L.length c := by
  obtain ⟨vs, hvs, sl, el⟩ := s
  exact Sl.shape sl
theorem flat_take (L : List (List UInt8)) (i : Nat) : (L.take i).flatten.length ≤ L.flatten.length := by
  have : L.flatten = (L.take i).flatten ++ (L.drop i).flatten := by rw [← List.flatten_append, List.take_append_drop]
  rw [this, List.length_append]; omega
theorem flat_succ (L : List (List UInt8)) (i : Nat) (hi : i < L.length) : (L.take (i + 1)).flatten = (L.take i).flatten ++ L[i] := by rw [List.take_succ_eq_append_getElem hi, List.flatten_append]; simp
theorem SlL.lit1 {H : Heap} {b : Nat} (hb : H b = none) {u : Value} {l : List UInt8} (s : SlB H u l) : SlL (H.set b (.own 0 [u] 1)) (.slice (some ⟨b, 0, none⟩) 1 1) [l] := by
  refine ⟨[u], rfl, Sl.lit (n := 1) rfl, ?_⟩
  intro i x y
  match i, x, y with
  | 0, _, _ => exact Sl.le (Heap.le_new (Heap.le_refl _) hb _) s
theorem SlL.lit2 {H : Heap} {b : Nat} (hb : H b = none) {u v : Value} {l m : List UInt8} (s : SlB H u l) (t : SlB H v m) : SlL (H.set b (.own 0 [u, v] 2)) (.slice (some ⟨b, 0, none⟩) 2 2) [l, m] := by
  refine ⟨[u, v], rfl, Sl.lit (n := 2) rfl, ?_⟩
  intro i x y
  match i, x, y with
  | 0, _, _ => exact Sl.le (Heap.le_new (Heap.le_refl _) hb _) s
  | 1, _, _ => exact Sl.le (Heap.le_new (Heap.le_refl _) hb _) t
end Go.Bb
/- Contracts: a key of a key, for what some texts name. -/
namespace Go.Bb
set_option linter.unusedSimpArgs false
set_option linter.unusedVariables false
set_option maxRecDepth 20000

/-- A text more behind some bytes. -/
theorem appS {h0 H : Heap} {v : Value} {l t : List UInt8} {K : Value → Heap → Prop} (leH : h0.le H) (ow : OwB h0 H v l) (hl : l.length + t.length ≤ 140737488355000)
    (hk : ∀ v' H', OwB h0 H' v' (l ++ t) → h0.le H' → K v' H') : appendP 1 1 H v (strV t) K := by
  have hx : readX H 1 (strV t) = some (t.length, t.map u8V) := by
    simp only [readX, strV, if_true, ByteArray.size, List.size_toArray]
    rfl
  obtain ⟨base, c, rfl⟩ := Sl.shape ow.sl
  simp only [appendP, hx]
  refine append_ow leH (by omega) ow (by simp) (fun u hu => List.all_eq_true.1 (one_u8 t) u hu) (by omega) (by omega) ?_
  intro v' H' ow' le'
  refine hk v' H' ?_ le'
  unfold OwB
  rw [List.length_append, List.map_append]
  exact ow'
/-- What some texts name. -/
def infoF (ts : List (List UInt8)) : List UInt8 := (ts.map fun t => bigF (BitVec.ofNat 64 t.length) 2 ++ t).flatten
theorem infoF_succ (ts : List (List UInt8)) (i : Nat) (hi : i < ts.length) : infoF (ts.take (i + 1)) = infoF (ts.take i) ++ bigF (BitVec.ofNat 64 ts[i].length) 2 ++ ts[i] := by
  unfold infoF
  rw [List.take_succ_eq_append_getElem hi, List.map_append, List.flatten_append]
  simp
theorem infoF_len (ts : List (List UInt8)) : (infoF ts).length = 2 * ts.length + ts.flatten.length := by
  induction ts with
  | nil => rfl
  | cons t ts ih =>
    have e : infoF (t :: ts) = bigF (BitVec.ofNat 64 t.length) 2 ++ t ++ infoF ts := by simp [infoF]
    rw [e]
    simp only [List.length_append, bigF_len, ih, List.length_cons, List.flatten_cons]
    omega
theorem kdf_Key_c (E : EnvT tab) (h : Heap) {v : Value} (w : List UInt8) (ts : List (List UInt8)) (hw : w.length = 32) (hl : ts.length ≤ 1000) (ht : ts.flatten.length ≤ 90000) (s : Sl h 1 v ts.length (ts.map strV)) :
    ACallN E.toEnv n_kdf_Key [.agg (w.map u8V).toArray, v] h fun r h' => h.le h' ∧ r = .agg ((expandF w (infoF ts) 32).map u8V).toArray := by
  obtain ⟨base, c, rfl⟩ := Sl.shape s
  refine acall h_kdf_Key ir_kdf_Key rfl rfl (wpA_sound ?_)
  unfold ir_kdf_Key
  have hw' : (w.map u8V).length = 32 := by simp [hw]
  simp -implicitDefEqProofs only [zB1,zB2,zB3,zB4,zB5,zB6,zB7,zB8,zB9,zB10,zB11,y00,y01,y02,y03,y04,y05,y06,y07,y08,y09,y0a,y0b,y0c,y0d,y0e,y0f,y0g,y0h,y0i,y0j,y0k,y0l,y0m,y0n,y0o,y0p,y0q,y0r,y0s,y0t,y0u,y0v,y0w,y0x,y0y,y0z,y10,y11,y12,y13,y14,y15,y16,y17,y18,y19,y1a,y1b,y1c,y1d,y1e,y1f,y1g,y1h,y1i,y1j,y1k,y1l,y1m,y1n,y1o,y1p,y1q,y1r,retO,retL,retV,z69,allV,allP,z6a,z6d,z6e,z6k,z6l,z6m,binV,eqV,unV,oOpt,reduceIte,reduceCtorEq,Nat.reduceEqDiff,Nat.reduceAdd,Nat.reduceMul,Nat.reduceLT,Nat.reduceSub,Int.reduceLT,Int.reduceLE,Int.reduceEq,Int.reduceNe,Int.reduceSub,Int.reduceAdd,Int.reduceMul,Int.reduceBEq,Int.reduceBNe,Int.reduceGT,Int.reduceGE,Nat.reduceGT,Int.reduceToNat,Int.reduceNeg,Nat.reduceLeDiff,Nat.reduceBEq,Nat.reduceBneDiff,Value.cells]
  intro b2 hb2
  try simp -implicitDefEqProofs only [zB1,zB2,zB3,zB4,zB5,zB6,zB7,zB8,zB9,zB10,zB11,y00,y01,y02,y03,y04,y05,y06,y07,y08,y09,y0a,y0b,y0c,y0d,y0e,y0f,y0g,y0h,y0i,y0j,y0k,y0l,y0m,y0n,y0o,y0p,y0q,y0r,y0s,y0t,y0u,y0v,y0w,y0x,y0y,y0z,y10,y11,y12,y13,y14,y15,y16,y17,y18,y19,y1a,y1b,y1c,y1d,y1e,y1f,y1g,y1h,y1i,y1j,y1k,y1l,y1m,y1n,y1o,y1p,y1q,y1r,retO,retL,retV,z69,allV,allP,z6a,z6d,z6e,z6k,z6l,z6m,binV,eqV,unV,oOpt,reduceIte,reduceCtorEq,Nat.reduceEqDiff,Nat.reduceAdd,Nat.reduceMul,Nat.reduceLT,Nat.reduceSub,Int.reduceLT,Int.reduceLE,Int.reduceEq,Int.reduceNe,Int.reduceSub,Int.reduceAdd,Int.reduceMul,Int.reduceBEq,Int.reduceBNe,Int.reduceGT,Int.reduceGE,Nat.reduceGT,Int.reduceToNat,Int.reduceNeg,Nat.reduceLeDiff,Nat.reduceBEq,Nat.reduceBneDiff,Value.cells]
  intro b4 hb4
  try simp -implicitDefEqProofs only [zB1,zB2,zB3,zB4,zB5,zB6,zB7,zB8,zB9,zB10,zB11,y00,y01,y02,y03,y04,y05,y06,y07,y08,y09,y0a,y0b,y0c,y0d,y0e,y0f,y0g,y0h,y0i,y0j,y0k,y0l,y0m,y0n,y0o,y0p,y0q,y0r,y0s,y0t,y0u,y0v,y0w,y0x,y0y,y0z,y10,y11,y12,y13,y14,y15,y16,y17,y18,y19,y1a,y1b,y1c,y1d,y1e,y1f,y1g,y1h,y1i,y1j,y1k,y1l,y1m,y1n,y1o,y1p,y1q,y1r,retO,retL,retV,z69,allV,allP,z6a,z6d,z6e,z6k,z6l,z6m,binV,eqV,unV,oOpt,reduceIte,reduceCtorEq,Nat.reduceEqDiff,Nat.reduceAdd,Nat.reduceMul,Nat.reduceLT,Nat.reduceSub,Int.reduceLT,Int.reduceLE,Int.reduceEq,Int.reduceNe,Int.reduceSub,Int.reduceAdd,Int.reduceMul,Int.reduceBEq,Int.reduceBNe,Int.reduceGT,Int.reduceGE,Nat.reduceGT,Int.reduceToNat,Int.reduceNeg,Nat.reduceLeDiff,Nat.reduceBEq,Nat.reduceBneDiff,Value.cells]
  rw [List.length_replicate, hw']
  have le2 : h.le (h.set b2 (.own 0 (w.map u8V) 32)) := Heap.le_set (Heap.le_refl _) hb2 _
  have q2 : (h.set b2 (.own 0 (w.map u8V) 32)) b2 = some (.own 0 (w.map u8V) 32) := Heap.set_self _ _ _
  rw [hw'] at hb4
  generalize (h.set b2 (.own 0 (w.map u8V) 32)) = h1 at le2 q2 hb4
  have hb4h := Heap.none_of_le le2 hb4
  have le4 : h1.le (h1.set b4 (.own 0 (List.replicate 32 (.int .u8 0)) 32)) := Heap.le_set (Heap.le_refl _) hb4 _
  have q4 : (h1.set b4 (.own 0 (List.replicate 32 (.int .u8 0)) 32)) b4 = some (.own 0 (List.replicate 32 (.int .u8 0)) 32) := Heap.set_self _ _ _
  have q2 := le4 _ _ q2
  have le2 := Heap.le_trans le2 le4
  generalize (h1.set b4 (.own 0 (List.replicate 32 (.int .u8 0)) 32)) = h2 at le2 q2 q4
  refine wp_loop' (fun m t H => h2.le H ∧ ∃ (i : Nat) (v5 : Value), t = tl [(2, .pointer (some ⟨b2, 0, none⟩)), (4, .pointer (some ⟨b4, 0, none⟩)), (5, v5), (10, .slice base ts.length c), (11, .int .i64 ts.length), (12, .int .i64 i)] ∧ i ≤ ts.length ∧ m = ts.length - i ∧
      OwB h2 H v5 (infoF (ts.take i))) ts.length
    ⟨Heap.le_refl _, 0, _, rfl, by omega, by omega, Ow.nil _ _ _⟩ ?_
  rintro m t H ⟨leH, i, v5, rfl, hi, rfl, ow⟩
  have hln := infoF_len (ts.take i)
  have hft := flat_take ts i
  have htl : (ts.take i).length ≤ 1000 := by rw [List.length_take]; omega
  by_cases hlt : i < ts.length
  · have hi1 : (i : Int) < ts.length := by omega
    have hi2 : (0 : Int) ≤ i := by omega
    have w1 : IntKind.i64.wrap ((i : Int) + 1) = ((i + 1 : Nat) : Int) := wrapN (by omega)
    obtain ⟨b, o, c', hv, hc, hcl⟩ := s.ptr (by omega) (by omega)
    simp only [Value.slice.injEq, true_and] at hv
    obtain ⟨rfl, rfl⟩ := hv
    rw [Nat.mul_one] at hcl
    have ci : hcell H ⟨b, o + i, none⟩ = some (strV ts[i]) := by
      rw [hcell_of (hcells_le (Heap.le_trans le2 leH) hcl) i hlt]; simp [hlt]
    have hmem : ts[i].length ≤ ts.flatten.length := by
      have := flat_succ ts i hlt
      have h2 := flat_take ts (i + 1)
      rw [this, List.length_append] at h2
      omega
    have wl : IntKind.u64.wrap (ts[i].length : Int) = ((BitVec.ofNat 64 ts[i].length).toNat : Int) := by
      rw [BitVec.toNat_ofNat, Nat.mod_eq_of_lt (by omega)]
      simp [IntKind.wrap, IntKind.bits, IntKind.signed]; omega
    have sz : ((ByteArray.mk ts[i].toArray).size : Int) = (ts[i].length : Int) := by simp [ByteArray.size]
    simp -implicitDefEqProofs only [zB1,zB2,zB3,zB4,zB5,zB6,zB7,zB8,zB9,zB10,zB11,y00,y01,y02,y03,y04,y05,y06,y07,y08,y09,y0a,y0b,y0c,y0d,y0e,y0f,y0g,y0h,y0i,y0j,y0k,y0l,y0m,y0n,y0o,y0p,y0q,y0r,y0s,y0t,y0u,y0v,y0w,y0x,y0y,y0z,y10,y11,y12,y13,y14,y15,y16,y17,y18,y19,y1a,y1b,y1c,y1d,y1e,y1f,y1g,y1h,y1i,y1j,y1k,y1l,y1m,y1n,y1o,y1p,y1q,y1r,retO,retL,retV,z69,allV,allP,z6a,z6d,z6e,z6k,z6l,z6m,binV,eqV,unV,oOpt,reduceIte,reduceCtorEq,Nat.reduceEqDiff,Nat.reduceAdd,Nat.reduceMul,Nat.reduceLT,Nat.reduceSub,Int.reduceLT,Int.reduceLE,Int.reduceEq,Int.reduceNe,Int.reduceSub,Int.reduceAdd,Int.reduceMul,Int.reduceBEq,Int.reduceBNe,Int.reduceGT,Int.reduceGE,Nat.reduceGT,Int.reduceToNat,Int.reduceNeg,Nat.reduceLeDiff,Nat.reduceBEq,Nat.reduceBneDiff,Value.cells, hi1, hi2, Int.toNat_natCast, ci, strV, sz, wl]
    refine (octet_Big_c E H (infoF (ts.take i)) (by omega) ow.sl (BitVec.ofNat 64 ts[i].length) 2 (by omega)).mono ?_
    rintro r H1 ⟨le5, ow5⟩
    simp -implicitDefEqProofs only [zB1,zB2,zB3,zB4,zB5,zB6,zB7,zB8,zB9,zB10,zB11,y00,y01,y02,y03,y04,y05,y06,y07,y08,y09,y0a,y0b,y0c,y0d,y0e,y0f,y0g,y0h,y0i,y0j,y0k,y0l,y0m,y0n,y0o,y0p,y0q,y0r,y0s,y0t,y0u,y0v,y0w,y0x,y0y,y0z,y10,y11,y12,y13,y14,y15,y16,y17,y18,y19,y1a,y1b,y1c,y1d,y1e,y1f,y1g,y1h,y1i,y1j,y1k,y1l,y1m,y1n,y1o,y1p,y1q,y1r,retO,retL,retV,z69,allV,allP,z6a,z6d,z6e,z6k,z6l,z6m,binV,eqV,unV,oOpt,reduceIte,reduceCtorEq,Nat.reduceEqDiff,Nat.reduceAdd,Nat.reduceMul,Nat.reduceLT,Nat.reduceSub,Int.reduceLT,Int.reduceLE,Int.reduceEq,Int.reduceNe,Int.reduceSub,Int.reduceAdd,Int.reduceMul,Int.reduceBEq,Int.reduceBNe,Int.reduceGT,Int.reduceGE,Nat.reduceGT,Int.reduceToNat,Int.reduceNeg,Nat.reduceLeDiff,Nat.reduceBEq,Nat.reduceBneDiff,Value.cells]
    refine appS (h0 := h2) (Heap.le_trans leH le5) (ow5.since leH) (by rw [List.length_append, bigF_len]; omega) ?_
    intro v' H2 ow6 le6
    simp -implicitDefEqProofs only [zB1,zB2,zB3,zB4,zB5,zB6,zB7,zB8,zB9,zB10,zB11,y00,y01,y02,y03,y04,y05,y06,y07,y08,y09,y0a,y0b,y0c,y0d,y0e,y0f,y0g,y0h,y0i,y0j,y0k,y0l,y0m,y0n,y0o,y0p,y0q,y0r,y0s,y0t,y0u,y0v,y0w,y0x,y0y,y0z,y10,y11,y12,y13,y14,y15,y16,y17,y18,y19,y1a,y1b,y1c,y1d,y1e,y1f,y1g,y1h,y1i,y1j,y1k,y1l,y1m,y1n,y1o,y1p,y1q,y1r,retO,retL,retV,z69,allV,allP,z6a,z6d,z6e,z6k,z6l,z6m,binV,eqV,unV,oOpt,reduceIte,reduceCtorEq,Nat.reduceEqDiff,Nat.reduceAdd,Nat.reduceMul,Nat.reduceLT,Nat.reduceSub,Int.reduceLT,Int.reduceLE,Int.reduceEq,Int.reduceNe,Int.reduceSub,Int.reduceAdd,Int.reduceMul,Int.reduceBEq,Int.reduceBNe,Int.reduceGT,Int.reduceGE,Nat.reduceGT,Int.reduceToNat,Int.reduceNeg,Nat.reduceLeDiff,Nat.reduceBEq,Nat.reduceBneDiff,Value.cells, w1]
    refine ⟨_, by omega, le6, i + 1, v', rfl, hlt, rfl, ?_⟩
    rw [infoF_succ ts i hlt]
    exact ow6
  · have hi1 : ¬ (i : Int) < ts.length := by omega
    have : i = ts.length := by omega
    subst this
    rw [List.take_length] at ow hln
    have cw : hcells H ⟨b2, 0, none⟩ 32 = some (w.map u8V) := by rw [hcells_at (leH _ _ q2) (by simp [hw])]; simp [List.take_of_length_le, hw]
    simp -implicitDefEqProofs only [zB1,zB2,zB3,zB4,zB5,zB6,zB7,zB8,zB9,zB10,zB11,y00,y01,y02,y03,y04,y05,y06,y07,y08,y09,y0a,y0b,y0c,y0d,y0e,y0f,y0g,y0h,y0i,y0j,y0k,y0l,y0m,y0n,y0o,y0p,y0q,y0r,y0s,y0t,y0u,y0v,y0w,y0x,y0y,y0z,y10,y11,y12,y13,y14,y15,y16,y17,y18,y19,y1a,y1b,y1c,y1d,y1e,y1f,y1g,y1h,y1i,y1j,y1k,y1l,y1m,y1n,y1o,y1p,y1q,y1r,retO,retL,retV,z69,allV,allP,z6a,z6d,z6e,z6k,z6l,z6m,binV,eqV,unV,oOpt,reduceIte,reduceCtorEq,Nat.reduceEqDiff,Nat.reduceAdd,Nat.reduceMul,Nat.reduceLT,Nat.reduceSub,Int.reduceLT,Int.reduceLE,Int.reduceEq,Int.reduceNe,Int.reduceSub,Int.reduceAdd,Int.reduceMul,Int.reduceBEq,Int.reduceBNe,Int.reduceGT,Int.reduceGE,Nat.reduceGT,Int.reduceToNat,Int.reduceNeg,Nat.reduceLeDiff,Nat.reduceBEq,Nat.reduceBneDiff,Value.cells, hi1]
    unfold ir_kdf_Key_25
    simp -implicitDefEqProofs only [zB1,zB2,zB3,zB4,zB5,zB6,zB7,zB8,zB9,zB10,zB11,y00,y01,y02,y03,y04,y05,y06,y07,y08,y09,y0a,y0b,y0c,y0d,y0e,y0f,y0g,y0h,y0i,y0j,y0k,y0l,y0m,y0n,y0o,y0p,y0q,y0r,y0s,y0t,y0u,y0v,y0w,y0x,y0y,y0z,y10,y11,y12,y13,y14,y15,y16,y17,y18,y19,y1a,y1b,y1c,y1d,y1e,y1f,y1g,y1h,y1i,y1j,y1k,y1l,y1m,y1n,y1o,y1p,y1q,y1r,retO,retL,retV,z69,allV,allP,z6a,z6d,z6e,z6k,z6l,z6m,binV,eqV,unV,oOpt,reduceIte,reduceCtorEq,Nat.reduceEqDiff,Nat.reduceAdd,Nat.reduceMul,Nat.reduceLT,Nat.reduceSub,Int.reduceLT,Int.reduceLE,Int.reduceEq,Int.reduceNe,Int.reduceSub,Int.reduceAdd,Int.reduceMul,Int.reduceBEq,Int.reduceBNe,Int.reduceGT,Int.reduceGE,Nat.reduceGT,Int.reduceToNat,Int.reduceNeg,Nat.reduceLeDiff,Nat.reduceBEq,Nat.reduceBneDiff,Value.cells, cw]
    refine (kdf_Expand_c E H w (infoF ts) 32 hw (by omega) (by omega) ow.sl).mono ?_
    rintro r H1 ⟨le5, r', rfl, ow5⟩
    have ex := expandF_len w (infoF ts) 32
    generalize expandF w (infoF ts) 32 = X at *
    obtain ⟨b, o, c', rfl, hc, hcl⟩ := ow5.sl.ptr (by omega) (by omega)
    rw [ex, Nat.mul_one] at hcl
    have q5 := le5 _ _ (leH _ _ q4)
    have e1 : ¬ (X.length < 32) := by omega
    have st : storeV H1 32 (.pointer (some ⟨b4, 0, none⟩)) (.agg (X.map u8V).toArray) = some (H1.set b4 (.own 0 (X.map u8V) 32)) := storeV_agg_at q5 (by omega) (by simp [ex]) (one_u8 _) (by simp) (by omega)
    have hl2 : hcells (H1.set b4 (.own 0 (X.map u8V) 32)) ⟨b4, 0, none⟩ 32 = some (X.map u8V) := z6o (by simp [ex])
    simp -implicitDefEqProofs only [zB1,zB2,zB3,zB4,zB5,zB6,zB7,zB8,zB9,zB10,zB11,y00,y01,y02,y03,y04,y05,y06,y07,y08,y09,y0a,y0b,y0c,y0d,y0e,y0f,y0g,y0h,y0i,y0j,y0k,y0l,y0m,y0n,y0o,y0p,y0q,y0r,y0s,y0t,y0u,y0v,y0w,y0x,y0y,y0z,y10,y11,y12,y13,y14,y15,y16,y17,y18,y19,y1a,y1b,y1c,y1d,y1e,y1f,y1g,y1h,y1i,y1j,y1k,y1l,y1m,y1n,y1o,y1p,y1q,y1r,retO,retL,retV,z69,allV,allP,z6a,z6d,z6e,z6k,z6l,z6m,binV,eqV,unV,oOpt,reduceIte,reduceCtorEq,Nat.reduceEqDiff,Nat.reduceAdd,Nat.reduceMul,Nat.reduceLT,Nat.reduceSub,Int.reduceLT,Int.reduceLE,Int.reduceEq,Int.reduceNe,Int.reduceSub,Int.reduceAdd,Int.reduceMul,Int.reduceBEq,Int.reduceBNe,Int.reduceGT,Int.reduceGE,Nat.reduceGT,Int.reduceToNat,Int.reduceNeg,Nat.reduceLeDiff,Nat.reduceBEq,Nat.reduceBneDiff,Value.cells, e1, hcl, st, hl2]
    exact Heap.le_set (Heap.le_trans le2 (Heap.le_trans leH le5)) hb4h _
end Go.Bb
/- The reckoner with blocks mixed at once. -/
namespace Go.Bb
set_option linter.unusedSimpArgs false
set_option linter.unusedVariables false
set_option maxRecDepth 20000

def nextX (b : List UInt8) (ws : List U32) (i : Nat) : U32 :=
  if i < 16 then (fromBigF ((b.drop (4 * i)).take 4)).setWidth 32
  else ws.getD 15 0 + (turnF (ws.getD 14 0) 7 ^^^ turnF (ws.getD 14 0) 18 ^^^ ws.getD 14 0 >>> 3) + ws.getD 6 0 + (turnF (ws.getD 1 0) 17 ^^^ turnF (ws.getD 1 0) 19 ^^^ ws.getD 1 0 >>> 10)
def schedR (b : List UInt8) : Nat → List U32
  | 0 => []
  | i + 1 => nextX b (schedR b i) i :: schedR b i
theorem schedR_get (b : List UInt8) : ∀ i j, j < i → (schedR b i).getD (i - 1 - j) 0 = schedW b i j
  | 0, j, h => by omega
  | i + 1, j, h => by
      have ih := schedR_get b i
      unfold schedR schedW updU
      by_cases e : j = i
      · subst e
        rw [if_pos rfl, Nat.add_sub_cancel, Nat.sub_self, List.getD_cons_zero]
        unfold nextX schedX
        by_cases h16 : j < 16
        · rw [if_pos h16, if_pos h16]
        · rw [if_neg h16, if_neg h16]
          have g : ∀ k, k < j → (schedR b j).getD k 0 = schedW b j (j - (k + 1)) := fun k hk => by
            have := ih (j - (k + 1)) (by omega)
            rwa [show j - 1 - (j - (k + 1)) = k from by omega] at this
          rw [g 15 (by omega), g 14 (by omega), g 6 (by omega), g 1 (by omega)]
      · rw [if_neg e, Nat.add_sub_cancel, show i - j = (i - 1 - j) + 1 from by omega, List.getD_cons_succ]
        exact ih j (by omega)
theorem schedR_64 (b : List UInt8) (i : Nat) (h : i < 64) : (schedR b 64).getD (63 - i) 0 = schedW b 64 i := schedR_get b 64 i h

structure S8 where
  a : U32
  b : U32
  c : U32
  d : U32
  e : U32
  f : U32
  g : U32
  h : U32
def S8.get (s : S8) : Nat → U32
  | 0 => s.a
  | 1 => s.b
  | 2 => s.c
  | 3 => s.d
  | 4 => s.e
  | 5 => s.f
  | 6 => s.g
  | 7 => s.h
  | _ => 0
def S8.tt (K wr : List U32) (s : S8) (i : Nat) : U32 := s.h + (turnF s.e 6 ^^^ turnF s.e 11 ^^^ turnF s.e 25) + ((s.e &&& s.f) ^^^ (~~~s.e &&& s.g)) + K.getD i 0 + wr.getD (63 - i) 0
def S8.step (K wr : List U32) (s : S8) (i : Nat) : S8 :=
  ⟨S8.tt K wr s i + (turnF s.a 2 ^^^ turnF s.a 13 ^^^ turnF s.a 22) + ((s.a &&& s.b) ^^^ (s.a &&& s.c) ^^^ (s.b &&& s.c)), s.a, s.b, s.c, s.d + S8.tt K wr s i, s.e, s.f, s.g⟩
def S8.run (K wr : List U32) (s : S8) : Nat → S8
  | 0 => s
  | i + 1 => S8.step K wr (S8.run K wr s i) i
def S8.ofL (H : List U32) : S8 := ⟨H.getD 0 0, H.getD 1 0, H.getD 2 0, H.getD 3 0, H.getD 4 0, H.getD 5 0, H.getD 6 0, H.getD 7 0⟩
theorem S8.run_get (K H : List U32) (b : List UInt8) : ∀ i, i ≤ 64 → ∀ j, j < 8 → (S8.run K (schedR b 64) (S8.ofL H) i).get j = mixV (fun j => K.getD j 0) (schedW b 64) (fun j => H.getD j 0) i j
  | 0, _, j, hj => by
      match j, hj with
      | 0, _ => rfl
      | 1, _ => rfl
      | 2, _ => rfl
      | 3, _ => rfl
      | 4, _ => rfl
      | 5, _ => rfl
      | 6, _ => rfl
      | 7, _ => rfl
  | i + 1, hi, j, hj => by
      have ih := S8.run_get K H b i (by omega)
      have a0 := ih 0 (by omega)
      have a1 := ih 1 (by omega)
      have a2 := ih 2 (by omega)
      have a3 := ih 3 (by omega)
      have a4 := ih 4 (by omega)
      have a5 := ih 5 (by omega)
      have a6 := ih 6 (by omega)
      have a7 := ih 7 (by omega)
      have hw := schedR_64 b i (by omega)
      unfold S8.run mixV
      generalize S8.run K (schedR b 64) (S8.ofL H) i = s at a0 a1 a2 a3 a4 a5 a6 a7
      generalize mixV (fun j => K.getD j 0) (schedW b 64) (fun j => H.getD j 0) i = v at a0 a1 a2 a3 a4 a5 a6 a7
      simp only [S8.get] at a0 a1 a2 a3 a4 a5 a6 a7
      match j, hj with
      | 0, _ => simp only [S8.get, S8.step, S8.tt, mixX, mixT, mixR, mixM, a0, a1, a2, a3, a4, a5, a6, a7, hw]
      | 1, _ => exact a0
      | 2, _ => exact a1
      | 3, _ => exact a2
      | 4, _ => simp only [S8.get, S8.step, S8.tt, mixX, mixT, mixR, mixM, a0, a1, a2, a3, a4, a5, a6, a7, hw]
      | 5, _ => exact a4
      | 6, _ => exact a5
      | 7, _ => exact a6
/-- A block mixed in, as a row. -/
def mixL (K H : List U32) (b : List UInt8) : List U32 :=
  let s := S8.run K (schedR b 64) (S8.ofL H) 64
  [H.getD 0 0 + s.a, H.getD 1 0 + s.b, H.getD 2 0 + s.c, H.getD 3 0 + s.d, H.getD 4 0 + s.e, H.getD 5 0 + s.f, H.getD 6 0 + s.g, H.getD 7 0 + s.h]
def wordsU (l : List U32) : List Value := l.map fun w => .int .u32 (.ofNat w.toNat)
theorem mixL_row (K H : List U32) (b : List UInt8) : wordsU (mixL K H b) = rowU (mixF (fun j => K.getD j 0) (fun j => H.getD j 0) b) 8 := by
  have h := S8.run_get K H b 64 (Nat.le_refl _)
  unfold mixL mixF
  generalize S8.run K (schedR b 64) (S8.ofL H) 64 = s at h
  have e : rowU (fun j => H.getD j 0 + mixV (fun j => K.getD j 0) (schedW b 64) (fun j => H.getD j 0) 64 j) 8 = rowU (fun j => H.getD j 0 + s.get j) 8 := rowU_congr fun j hj => by rw [h j hj]
  rw [e]; rfl

/-! ### rows of words and bytes, read -/
theorem u8V_of' {n : Nat} (h : n < 256) : u8V (UInt8.ofNat n) = .int .u8 (.ofNat n) := by
  unfold u8V
  have : (UInt8.ofNat n).toNat = n := by rw [UInt8.toNat_ofNat']; omega
  rw [this]; rfl
def toW : List Value → Option (List U32)
  | [] => some []
  | .int .u32 (.ofNat x) :: t => bif Nat.blt x 4294967296 then (toW t).map (BitVec.ofNat 32 x :: ·) else none
  | _ => none
def toB : List Value → Option (List UInt8)
  | [] => some []
  | .int .u8 (.ofNat x) :: t => bif Nat.blt x 256 then (toB t).map (UInt8.ofNat x :: ·) else none
  | _ => none
theorem toW_eq : ∀ {l : List Value} {w : List U32}, toW l = some w → l = wordsU w ∧ l.all isInt = true
  | [], w, h => by simp only [toW, Option.some.injEq] at h; subst h; exact ⟨rfl, rfl⟩
  | x :: t, w, h => by
      unfold toW at h
      split at h
      · rename_i e; cases e
      · rename_i n t' e
        cases e
        cases hb : Nat.blt n 4294967296 with
        | false => rw [hb] at h; cases h
        | true =>
          rw [hb] at h
          simp only [cond_true, Option.map_eq_some_iff] at h
          obtain ⟨w', h1, rfl⟩ := h
          obtain ⟨g1, g2⟩ := toW_eq h1
          have hn : n < 4294967296 := Nat.le_of_ble_eq_true hb
          refine ⟨?_, by simp only [List.all_cons, isInt, Bool.true_and]; exact g2⟩
          unfold wordsU
          rw [List.map_cons]
          have : (BitVec.ofNat 32 n).toNat = n := by simp; omega
          rw [this]
          unfold wordsU at g1
          rw [← g1]
      · cases h
theorem toB_eq : ∀ {l : List Value} {w : List UInt8}, toB l = some w → l = w.map u8V ∧ l.all isInt = true
  | [], w, h => by simp only [toB, Option.some.injEq] at h; subst h; exact ⟨rfl, rfl⟩
  | x :: t, w, h => by
      unfold toB at h
      split at h
      · rename_i e; cases e
      · rename_i n t' e
        cases e
        cases hb : Nat.blt n 256 with
        | false => rw [hb] at h; cases h
        | true =>
          rw [hb] at h
          simp only [cond_true, Option.map_eq_some_iff] at h
          obtain ⟨w', h1, rfl⟩ := h
          obtain ⟨g1, g2⟩ := toB_eq h1
          have hn : n < 256 := Nat.le_of_ble_eq_true hb
          refine ⟨?_, by simp only [List.all_cons, isInt, Bool.true_and]; exact g2⟩
          rw [List.map_cons]
          have : u8V (UInt8.ofNat n) = .int .u8 (.ofNat n) := u8V_of' hn
          rw [this, ← g1]
      · cases h
end Go.Bb
/- The reckoner with blocks mixed at once: it is sound. -/
namespace Go.Bb
set_option linter.unusedSimpArgs false
set_option linter.unusedVariables false
set_option maxRecDepth 20000

noncomputable def mixG (hs : Array Value) (a : Addr) (p : Addr) (m : VM) : RV :=
  match toW hs.toList, cellsE m a (64 * 1), cellsE m p 64 with
  | some H, some bs, some ks =>
    match toB bs, toW ks with
    | some B, some K => bif Nat.beq H.length 8 then some (.agg (wordsU (mixL K H B)).toArray, m) else none
    | _, _ => none
  | _, _, _ => none
noncomputable def mixH (args : List Value) (m : VM) : RV :=
  match args with
  | [.agg hs, .slice (some a) 64 c, .pointer (some p)] => mixG hs a p m
  | _ => none
noncomputable def mixHk : Hooks := fun n => bif Nat.beq n n_sha_mix then some mixH else none

theorem wordsU_row (l : List U32) : wordsU l = rowU (fun j => l.getD j 0) l.length := by
  apply List.ext_getElem
  · simp [wordsU, rowU]
  · intro j a b
    rw [rowU_get]
    have : j < l.length := by simpa [wordsU] using a
    simp [wordsU, this]

theorem VR.agg_ints {fid : Nat → Option FuncId} {r : Rr} {a : Array Value} {v' : Value} (h : VR fid r (.agg a) v') (hi : a.toList.all isInt = true) : v' = .agg a := by
  cases h with
  | one h =>
    cases h with
    | one h => cases h with | base h => cases h with | plain hp => cases hp
    | agg h =>
      have := all2_ints h hi
      rw [Array.toList_inj] at this
      rw [this]

theorem all2_refl_ints {fid : Nat → Option FuncId} {r : Rr} : ∀ {l : List Value}, l.all isInt = true → All2 (VR0 fid r) l l
  | [], _ => .nil
  | x :: l, h => by
      simp only [List.all_cons, Bool.and_eq_true] at h
      refine .cons ?_ (all2_refl_ints h.2)
      have h2 := h.1
      cases x <;> try (cases h2; done)
      exact .base (.plain rfl)
theorem wordsU_ints (l : List U32) : (wordsU l).all isInt = true := by simp [wordsU, isInt]
theorem HS.le {fid : Nat → Option FuncId} {h0 : Heap} {r : Rr} {m : VM} {h h' : Heap} (p : HS fid h0 r m h) (x : h.le h') : HS fid h0 r m h' where
  blk := fun b y hy => by obtain ⟨k, z, a, b', c⟩ := p.blk b y hy; exact ⟨k, z, a, x _ _ b', c⟩
  inj := p.inj
  old := fun b y hy => x _ _ (p.old b y hy)
  own := p.own
  fresh := p.fresh
  room := p.room

theorem mixHk_ok (E : EnvT tab) : HooksOk E.toEnv mixHk := by
  intro h0 n f hf
  unfold mixHk at hf
  cases hn : Nat.beq n n_sha_mix with
  | false => rw [hn] at hf; cases hf
  | true =>
    rw [hn] at hf
    simp only [cond_true, Option.some.injEq] at hf
    subst hf
    have hn' := Nat.eq_of_beq_eq_true hn
    subst hn'
    intro args m v m' r h args' p ha e
    unfold mixH at e
    split at e
    · rename_i hs a c q
      unfold mixG at e
      split at e
      · rename_i H bs ks e1 e2 e3
        split at e
        · rename_i B K e4 e5
          cases hl : Nat.beq H.length 8 with
          | false => rw [hl] at e; cases e
          | true =>
            rw [hl] at e
            simp only [cond_true, Option.some.injEq, Prod.mk.injEq] at e
            obtain ⟨rfl, rfl⟩ := e
            have hl8 := Nat.eq_of_beq_eq_true hl
            obtain ⟨g1, g1'⟩ := toW_eq e1
            obtain ⟨g2, g2'⟩ := toB_eq e4
            obtain ⟨g3, g3'⟩ := toW_eq e5
            cases ha with
            | cons a1 ha =>
              cases ha with
              | cons a2 ha =>
                cases ha with
                | cons a3 ha =>
                  cases ha
                  rw [a1.agg_ints g1']
                  obtain ⟨k, c', o, hsp, hk, rfl, hnc, q0, q1⟩ := a2.of_sl
                  obtain ⟨k2, c2, o2, _, hk2, hv2, l', hc1, hc2⟩ := sl_cells p.toHR a2 (Nat.le_refl 64) e2
                  simp only [Value.slice.injEq, Option.some.injEq, Addr.mk.injEq, true_and, and_true] at hv2
                  obtain ⟨⟨hb2, rfl⟩, rfl⟩ := hv2
                  rw [all2_ints hc2 g2', g2] at hc1
                  obtain ⟨kp, hps, hkp, rfl⟩ := a3.of_ptr
                  obtain ⟨lk, hk1, hk3⟩ := cells_sim p.toHR hkp e3
                  rw [all2_ints hk3 g3', g3] at hk1
                  have lB : B.length = 64 := by
                    have := hcells_length hc1
                    simpa using this
                  have lK : K.length = 64 := by
                    have := hcells_length hk1
                    simpa [wordsU] using this
                  have sb : SlB h (.slice (some ⟨k.b, o, none⟩) 64 c') B := by
                    unfold SlB
                    rw [lB]
                    refine .inr ⟨⟨k.b, o, none⟩, c', rfl, hnc, ?_⟩
                    rw [hb2]; exact hc1
                  rw [wordsU_row, lK] at hk1
                  have hsE : hs = (rowU (fun j => H.getD j 0) 8).toArray := by
                    apply Array.toList_inj.1
                    rw [g1, wordsU_row, hl8]
                  rw [hsE]
                  refine (sha_mix_c E h (fun j => H.getD j 0) (fun j => K.getD j 0) B (bk := kp.b) (ok := q.off + kp.sh) hk1 lB sb).mono ?_
                  rintro v' h' ⟨le', rfl⟩
                  refine ⟨r, Rr.le_refl _, p.le le', ?_⟩
                  rw [← mixL_row]
                  exact .one (.agg (all2_refl_ints (wordsU_ints _)))
        · cases e
      · cases e
    · cases e
end Go.Bb
/- The known keyed sum. -/
namespace Go.Bb
set_option linter.unusedSimpArgs false
set_option linter.unusedVariables false
set_option maxRecDepth 20000

theorem aw3 : isTrue (evF tab mixHk 1000 50 n_bandboxlaw3_awake [] VM.start) = true := by decide +kernel
theorem law3_awake_c (E : EnvT tab) (h : Heap) : ACallN E.toEnv n_bandboxlaw3_awake [] h fun v h' => v = .bool true ∧ h.le h' := evF_true (mixHk_ok E) h aw3
end Go.Bb
/- Numbers of seventeen digits: plain laws. -/
namespace Go.Bb
set_option linter.unusedSimpArgs false
set_option linter.unusedVariables false

set_option maxRecDepth 20000
/-! ### the sum -/
/-! ### the carries of a product -/
/-! ### one product more -/
end Go.Bb
/- Contracts: numbers, the lowest byte first. -/
namespace Go.Bb
set_option linter.unusedSimpArgs false
set_option linter.unusedVariables false
set_option maxRecDepth 20000

end Go.Bb
/- Contracts: bytes turned round. -/
namespace Go.Bb
set_option linter.unusedSimpArgs false
set_option linter.unusedVariables false
set_option maxRecDepth 20000

end Go.Bb
/- Contracts: products of words. -/
namespace Go.Bb
set_option linter.unusedSimpArgs false
set_option linter.unusedVariables false
set_option maxRecDepth 20000

end Go.Bb
/- Contracts: numbers of three words. -/
namespace Go.Bb
set_option linter.unusedSimpArgs false
set_option linter.unusedVariables false
set_option maxRecDepth 20000

/-- A number of three words. -/
structure N3 where
  a : Nat
  b : Nat
  c : Nat
def N3.ok (x : N3) : Prop := x.a < 18446744073709551616 ∧ x.b < 18446744073709551616 ∧ x.c < 18446744073709551616
def N3.cells (x : N3) : List Value := [.int .u64 (x.a : Int), .int .u64 (x.b : Int), .int .u64 (x.c : Int)]
def N3.V (x : N3) : Value := .agg x.cells.toArray
end Go.Bb
/- Contracts: numbers of three words, cut. -/
namespace Go.Bb
set_option linter.unusedSimpArgs false
set_option linter.unusedVariables false
set_option maxRecDepth 20000

end Go.Bb
/- Contracts: numbers of three words, the last form. -/
namespace Go.Bb
set_option linter.unusedSimpArgs false
set_option linter.unusedVariables false
set_option maxRecDepth 20000

end Go.Bb
/- Contracts: numbers of three words, multiplied. -/
namespace Go.Bb
set_option linter.unusedSimpArgs false
set_option linter.unusedVariables false
set_option maxRecDepth 20000

end Go.Bb
/- Contracts: numbers read, the lowest byte first. -/
namespace Go.Bb
set_option linter.unusedSimpArgs false
set_option linter.unusedVariables false
set_option maxRecDepth 20000

end Go.Bb
/- Contracts: bytes clamped. -/
namespace Go.Bb
set_option linter.unusedSimpArgs false
set_option linter.unusedVariables false
set_option maxRecDepth 20000

end Go.Bb
/- Contracts: slices of bytes joined. -/
namespace Go.Bb
set_option linter.unusedSimpArgs false
set_option linter.unusedVariables false
set_option maxRecDepth 20000

end Go.Bb
/- Contracts: tags. -/
namespace Go.Bb
set_option linter.unusedSimpArgs false
set_option linter.unusedVariables false
set_option maxRecDepth 20000

/-! ### bits that do not count -/
end Go.Bb
/- The law PolyAdds: plain part. -/
namespace Go.Bb
set_option linter.unusedSimpArgs false
set_option linter.unusedVariables false

/-- The number of a row of bytes, low byte first. -/
def leN : List UInt8 → Nat
  | [] => 0
  | b :: l => b.toNat + 256 * leN l
end Go.Bb
/- The tag, as numbers: plain laws. -/
namespace Go.Bb
set_option linter.unusedSimpArgs false
set_option linter.unusedVariables false
set_option maxRecDepth 20000

end Go.Bb
/- The program's tag is the document's: plain laws of numbers. -/
namespace Go.Bb
set_option linter.unusedSimpArgs false
set_option linter.unusedVariables false
set_option maxRecDepth 20000

end Go.Bb
/- The program's tag is the document's. -/
namespace Go.Bb
set_option linter.unusedSimpArgs false
set_option linter.unusedVariables false
set_option maxRecDepth 20000

end Go.Bb
/- Rows of bytes, compared. -/
namespace Go.Bb
set_option linter.unusedSimpArgs false
set_option linter.unusedVariables false
set_option maxRecDepth 20000

theorem leaves_u8 : ∀ l : List UInt8, leavesOk (List.replicate l.length (some IntKind.u8)) (l.map u8V) = true
  | [] => rfl
  | b :: l => by
      have := leaves_u8 l
      rw [List.length_cons, List.replicate_succ, List.map_cons, leavesOk, this, Bool.and_true]
      rfl
theorem leavesEq_u8 : ∀ l : List UInt8, leavesEq (l.map u8V) (l.map u8V) = true
  | [] => rfl
  | b :: l => by
      have := leavesEq_u8 l
      rw [List.map_cons, leavesEq, this, Bool.and_true]
      simp [u8V, leafEq]

end Go.Bb
/- The law KdfNames. -/
namespace Go.Bb
set_option linter.unusedSimpArgs false
set_option linter.unusedVariables false
set_option maxRecDepth 20000

theorem bytesP_str {h : Heap} {l : List UInt8} {K : Value → Heap → Prop} (hk : ∀ b c, h b = none → l.length ≤ c → SlB (h.set b (.own 0 (l.map u8V) c)) (.slice (some ⟨b, 0, none⟩) l.length c) l → h.le (h.set b (.own 0 (l.map u8V) c)) → K (.slice (some ⟨b, 0, none⟩) l.length c) (h.set b (.own 0 (l.map u8V) c))) : bytesOfP h (strV l) K := by
  simp only [bytesOfP, strV, ByteArray.size, List.size_toArray]
  intro b c hb hc
  refine hk b c hb hc ?_ (Heap.le_set (Heap.le_refl _) hb _)
  exact .inr ⟨⟨b, 0, none⟩, c, rfl, hc, by rw [z6o (by simp)]⟩
theorem bigF_two (n : Nat) (h : n < 256) : bigF (BitVec.ofNat 64 n) 2 = [0, UInt8.ofNat n] := by
  rw [bigF_succ, bigF_succ]
  have e0 : bigF (BitVec.ofNat 64 n) 0 = [] := rfl
  rw [e0]
  have e1 : (BitVec.ofNat 64 n >>> (8 * 1)).toNat = 0 := by
    rw [BitVec.toNat_ushiftRight, BitVec.toNat_ofNat, Nat.mod_eq_of_lt (by omega), Nat.shiftRight_eq_div_pow]
    omega
  have e2 : (BitVec.ofNat 64 n >>> (8 * 0)).toNat = n := by
    rw [BitVec.toNat_ushiftRight, BitVec.toNat_ofNat, Nat.mod_eq_of_lt (by omega), Nat.shiftRight_eq_div_pow]
    simp
  rw [e1, e2]; rfl
theorem names_two (a b : List UInt8) (ha : a.length < 256) (hb : b.length < 256) : infoF [a, b] = [0, UInt8.ofNat a.length] ++ a ++ [0, UInt8.ofNat b.length] ++ b := by
  simp [infoF, bigF_two, ha, hb]
theorem size_strV (l : List UInt8) : ((ByteArray.mk l.toArray).size : Int) = (l.length : Int) := by simp [ByteArray.size]
theorem wrap_u8N (n : Nat) (h : n < 256) : IntKind.u8.wrap (n : Int) = ((UInt8.ofNat n).toNat : Int) := by
  rw [wrap_u8, ofInt_nat]; simp

theorem bandboxlaw3_KdfNames_c (E : EnvT tab) (W : World) {v0 v1 v2 : Value} (s0 : Shp.ok W (.array 32 1 (.int .u8)) v0) (s1 : Shp.ok W .str v1) (s2 : Shp.ok W .str v2) :
    ACallN E.toEnv n_bandboxlaw3_KdfNames [v0, v1, v2] (roHeap W) fun v _ => v = .bool true := by
  obtain ⟨w, hw, rfl⟩ := ok_array s0
  obtain ⟨a, rfl, -⟩ := ok_text s1
  obtain ⟨b, rfl, -⟩ := ok_text s2
  generalize roHeap W = h
  refine acall h_bandboxlaw3_KdfNames ir_bandboxlaw3_KdfNames rfl rfl (wpA_sound ?_)
  unfold ir_bandboxlaw3_KdfNames
  have hw' : (w.map u8V).length = 32 := by simp [hw]
  simp -implicitDefEqProofs only [zB1,zB2,zB3,zB4,zB5,zB6,zB7,zB8,zB9,zB10,zB11,y00,y01,y02,y03,y04,y05,y06,y07,y08,y09,y0a,y0b,y0c,y0d,y0e,y0f,y0g,y0h,y0i,y0j,y0k,y0l,y0m,y0n,y0o,y0p,y0q,y0r,y0s,y0t,y0u,y0v,y0w,y0x,y0y,y0z,y10,y11,y12,y13,y14,y15,y16,y17,y18,y19,y1a,y1b,y1c,y1d,y1e,y1f,y1g,y1h,y1i,y1j,y1k,y1l,y1m,y1n,y1o,y1p,y1q,y1r,retO,retL,retV,z69,allV,allP,z6a,z6d,z6e,z6k,z6l,z6m,binV,eqV,unV,oOpt,reduceIte,reduceCtorEq,Nat.reduceEqDiff,Nat.reduceAdd,Nat.reduceMul,Nat.reduceLT,Nat.reduceSub,Int.reduceLT,Int.reduceLE,Int.reduceEq,Int.reduceNe,Int.reduceSub,Int.reduceAdd,Int.reduceMul,Int.reduceBEq,Int.reduceBNe,Int.reduceGT,Int.reduceGE,Nat.reduceGT,Int.reduceToNat,Int.reduceNeg,Nat.reduceLeDiff,Nat.reduceBEq,Nat.reduceBneDiff,Value.cells]
  intro b3 hb3
  try simp -implicitDefEqProofs only [zB1,zB2,zB3,zB4,zB5,zB6,zB7,zB8,zB9,zB10,zB11,y00,y01,y02,y03,y04,y05,y06,y07,y08,y09,y0a,y0b,y0c,y0d,y0e,y0f,y0g,y0h,y0i,y0j,y0k,y0l,y0m,y0n,y0o,y0p,y0q,y0r,y0s,y0t,y0u,y0v,y0w,y0x,y0y,y0z,y10,y11,y12,y13,y14,y15,y16,y17,y18,y19,y1a,y1b,y1c,y1d,y1e,y1f,y1g,y1h,y1i,y1j,y1k,y1l,y1m,y1n,y1o,y1p,y1q,y1r,retO,retL,retV,z69,allV,allP,z6a,z6d,z6e,z6k,z6l,z6m,binV,eqV,unV,oOpt,reduceIte,reduceCtorEq,Nat.reduceEqDiff,Nat.reduceAdd,Nat.reduceMul,Nat.reduceLT,Nat.reduceSub,Int.reduceLT,Int.reduceLE,Int.reduceEq,Int.reduceNe,Int.reduceSub,Int.reduceAdd,Int.reduceMul,Int.reduceBEq,Int.reduceBNe,Int.reduceGT,Int.reduceGE,Nat.reduceGT,Int.reduceToNat,Int.reduceNeg,Nat.reduceLeDiff,Nat.reduceBEq,Nat.reduceBneDiff,Value.cells]
  rw [hw']
  have q3 : (h.set b3 (.own 0 (w.map u8V) 32)) b3 = some (.own 0 (w.map u8V) 32) := Heap.set_self _ _ _
  generalize (h.set b3 (.own 0 (w.map u8V) 32)) = h1 at q3
  refine (law3_awake_c E _).mono ?_
  rintro v h2 ⟨rfl, le2⟩
  have za := size_strV a
  have zb := size_strV b
  by_cases g0 : (80 : Int) < a.length
  · simp -implicitDefEqProofs only [zB1,zB2,zB3,zB4,zB5,zB6,zB7,zB8,zB9,zB10,zB11,y00,y01,y02,y03,y04,y05,y06,y07,y08,y09,y0a,y0b,y0c,y0d,y0e,y0f,y0g,y0h,y0i,y0j,y0k,y0l,y0m,y0n,y0o,y0p,y0q,y0r,y0s,y0t,y0u,y0v,y0w,y0x,y0y,y0z,y10,y11,y12,y13,y14,y15,y16,y17,y18,y19,y1a,y1b,y1c,y1d,y1e,y1f,y1g,y1h,y1i,y1j,y1k,y1l,y1m,y1n,y1o,y1p,y1q,y1r,retO,retL,retV,z69,allV,allP,z6a,z6d,z6e,z6k,z6l,z6m,binV,eqV,unV,oOpt,reduceIte,reduceCtorEq,Nat.reduceEqDiff,Nat.reduceAdd,Nat.reduceMul,Nat.reduceLT,Nat.reduceSub,Int.reduceLT,Int.reduceLE,Int.reduceEq,Int.reduceNe,Int.reduceSub,Int.reduceAdd,Int.reduceMul,Int.reduceBEq,Int.reduceBNe,Int.reduceGT,Int.reduceGE,Nat.reduceGT,Int.reduceToNat,Int.reduceNeg,Nat.reduceLeDiff,Nat.reduceBEq,Nat.reduceBneDiff,Value.cells]
    unfold ir_bandboxlaw3_KdfNames_13
    simp -implicitDefEqProofs only [zB1,zB2,zB3,zB4,zB5,zB6,zB7,zB8,zB9,zB10,zB11,y00,y01,y02,y03,y04,y05,y06,y07,y08,y09,y0a,y0b,y0c,y0d,y0e,y0f,y0g,y0h,y0i,y0j,y0k,y0l,y0m,y0n,y0o,y0p,y0q,y0r,y0s,y0t,y0u,y0v,y0w,y0x,y0y,y0z,y10,y11,y12,y13,y14,y15,y16,y17,y18,y19,y1a,y1b,y1c,y1d,y1e,y1f,y1g,y1h,y1i,y1j,y1k,y1l,y1m,y1n,y1o,y1p,y1q,y1r,retO,retL,retV,z69,allV,allP,z6a,z6d,z6e,z6k,z6l,z6m,binV,eqV,unV,oOpt,reduceIte,reduceCtorEq,Nat.reduceEqDiff,Nat.reduceAdd,Nat.reduceMul,Nat.reduceLT,Nat.reduceSub,Int.reduceLT,Int.reduceLE,Int.reduceEq,Int.reduceNe,Int.reduceSub,Int.reduceAdd,Int.reduceMul,Int.reduceBEq,Int.reduceBNe,Int.reduceGT,Int.reduceGE,Nat.reduceGT,Int.reduceToNat,Int.reduceNeg,Nat.reduceLeDiff,Nat.reduceBEq,Nat.reduceBneDiff,Value.cells, strV, za, g0]
  by_cases g1 : (80 : Int) < b.length
  · simp -implicitDefEqProofs only [zB1,zB2,zB3,zB4,zB5,zB6,zB7,zB8,zB9,zB10,zB11,y00,y01,y02,y03,y04,y05,y06,y07,y08,y09,y0a,y0b,y0c,y0d,y0e,y0f,y0g,y0h,y0i,y0j,y0k,y0l,y0m,y0n,y0o,y0p,y0q,y0r,y0s,y0t,y0u,y0v,y0w,y0x,y0y,y0z,y10,y11,y12,y13,y14,y15,y16,y17,y18,y19,y1a,y1b,y1c,y1d,y1e,y1f,y1g,y1h,y1i,y1j,y1k,y1l,y1m,y1n,y1o,y1p,y1q,y1r,retO,retL,retV,z69,allV,allP,z6a,z6d,z6e,z6k,z6l,z6m,binV,eqV,unV,oOpt,reduceIte,reduceCtorEq,Nat.reduceEqDiff,Nat.reduceAdd,Nat.reduceMul,Nat.reduceLT,Nat.reduceSub,Int.reduceLT,Int.reduceLE,Int.reduceEq,Int.reduceNe,Int.reduceSub,Int.reduceAdd,Int.reduceMul,Int.reduceBEq,Int.reduceBNe,Int.reduceGT,Int.reduceGE,Nat.reduceGT,Int.reduceToNat,Int.reduceNeg,Nat.reduceLeDiff,Nat.reduceBEq,Nat.reduceBneDiff,Value.cells]
    unfold ir_bandboxlaw3_KdfNames_13
    simp -implicitDefEqProofs only [zB1,zB2,zB3,zB4,zB5,zB6,zB7,zB8,zB9,zB10,zB11,y00,y01,y02,y03,y04,y05,y06,y07,y08,y09,y0a,y0b,y0c,y0d,y0e,y0f,y0g,y0h,y0i,y0j,y0k,y0l,y0m,y0n,y0o,y0p,y0q,y0r,y0s,y0t,y0u,y0v,y0w,y0x,y0y,y0z,y10,y11,y12,y13,y14,y15,y16,y17,y18,y19,y1a,y1b,y1c,y1d,y1e,y1f,y1g,y1h,y1i,y1j,y1k,y1l,y1m,y1n,y1o,y1p,y1q,y1r,retO,retL,retV,z69,allV,allP,z6a,z6d,z6e,z6k,z6l,z6m,binV,eqV,unV,oOpt,reduceIte,reduceCtorEq,Nat.reduceEqDiff,Nat.reduceAdd,Nat.reduceMul,Nat.reduceLT,Nat.reduceSub,Int.reduceLT,Int.reduceLE,Int.reduceEq,Int.reduceNe,Int.reduceSub,Int.reduceAdd,Int.reduceMul,Int.reduceBEq,Int.reduceBNe,Int.reduceGT,Int.reduceGE,Nat.reduceGT,Int.reduceToNat,Int.reduceNeg,Nat.reduceLeDiff,Nat.reduceBEq,Nat.reduceBneDiff,Value.cells, strV, za, zb, g0, g1]
  have wa := wrap_u8N a.length (by omega)
  have wb := wrap_u8N b.length (by omega)
  simp -implicitDefEqProofs only [zB1,zB2,zB3,zB4,zB5,zB6,zB7,zB8,zB9,zB10,zB11,y00,y01,y02,y03,y04,y05,y06,y07,y08,y09,y0a,y0b,y0c,y0d,y0e,y0f,y0g,y0h,y0i,y0j,y0k,y0l,y0m,y0n,y0o,y0p,y0q,y0r,y0s,y0t,y0u,y0v,y0w,y0x,y0y,y0z,y10,y11,y12,y13,y14,y15,y16,y17,y18,y19,y1a,y1b,y1c,y1d,y1e,y1f,y1g,y1h,y1i,y1j,y1k,y1l,y1m,y1n,y1o,y1p,y1q,y1r,retO,retL,retV,z69,allV,allP,z6a,z6d,z6e,z6k,z6l,z6m,binV,eqV,unV,oOpt,reduceIte,reduceCtorEq,Nat.reduceEqDiff,Nat.reduceAdd,Nat.reduceMul,Nat.reduceLT,Nat.reduceSub,Int.reduceLT,Int.reduceLE,Int.reduceEq,Int.reduceNe,Int.reduceSub,Int.reduceAdd,Int.reduceMul,Int.reduceBEq,Int.reduceBNe,Int.reduceGT,Int.reduceGE,Nat.reduceGT,Int.reduceToNat,Int.reduceNeg,Nat.reduceLeDiff,Nat.reduceBEq,Nat.reduceBneDiff,Value.cells]
  unfold ir_bandboxlaw3_KdfNames_13
  simp -implicitDefEqProofs only [zB1,zB2,zB3,zB4,zB5,zB6,zB7,zB8,zB9,zB10,zB11,y00,y01,y02,y03,y04,y05,y06,y07,y08,y09,y0a,y0b,y0c,y0d,y0e,y0f,y0g,y0h,y0i,y0j,y0k,y0l,y0m,y0n,y0o,y0p,y0q,y0r,y0s,y0t,y0u,y0v,y0w,y0x,y0y,y0z,y10,y11,y12,y13,y14,y15,y16,y17,y18,y19,y1a,y1b,y1c,y1d,y1e,y1f,y1g,y1h,y1i,y1j,y1k,y1l,y1m,y1n,y1o,y1p,y1q,y1r,retO,retL,retV,z69,allV,allP,z6a,z6d,z6e,z6k,z6l,z6m,binV,eqV,unV,oOpt,reduceIte,reduceCtorEq,Nat.reduceEqDiff,Nat.reduceAdd,Nat.reduceMul,Nat.reduceLT,Nat.reduceSub,Int.reduceLT,Int.reduceLE,Int.reduceEq,Int.reduceNe,Int.reduceSub,Int.reduceAdd,Int.reduceMul,Int.reduceBEq,Int.reduceBNe,Int.reduceGT,Int.reduceGE,Nat.reduceGT,Int.reduceToNat,Int.reduceNeg,Nat.reduceLeDiff,Nat.reduceBEq,Nat.reduceBneDiff,Value.cells, strV, za, zb, g0, g1, wa, List.length_replicate, List.drop_replicate, List.replicate_zero]
  intro b4 hb4
  have o1 : OwB h2 (h2.set b4 (.own 0 [.int .u8 0, .int .u8 ((UInt8.ofNat a.length).toNat : Int)] 2)) (.slice (some ⟨b4, 0, none⟩) 2 2) [0, UInt8.ofNat a.length] := Ow.new (Heap.le_refl _) hb4 (n := 2) rfl (by omega) (by omega)
  have le3 : h2.le (h2.set b4 (.own 0 [.int .u8 0, .int .u8 ((UInt8.ofNat a.length).toNat : Int)] 2)) := Heap.le_set (Heap.le_refl _) hb4 _
  generalize (h2.set b4 (.own 0 [.int .u8 0, .int .u8 ((UInt8.ofNat a.length).toNat : Int)] 2)) = h3 at o1 le3
  try simp -implicitDefEqProofs only [zB1,zB2,zB3,zB4,zB5,zB6,zB7,zB8,zB9,zB10,zB11,y00,y01,y02,y03,y04,y05,y06,y07,y08,y09,y0a,y0b,y0c,y0d,y0e,y0f,y0g,y0h,y0i,y0j,y0k,y0l,y0m,y0n,y0o,y0p,y0q,y0r,y0s,y0t,y0u,y0v,y0w,y0x,y0y,y0z,y10,y11,y12,y13,y14,y15,y16,y17,y18,y19,y1a,y1b,y1c,y1d,y1e,y1f,y1g,y1h,y1i,y1j,y1k,y1l,y1m,y1n,y1o,y1p,y1q,y1r,retO,retL,retV,z69,allV,allP,z6a,z6d,z6e,z6k,z6l,z6m,binV,eqV,unV,oOpt,reduceIte,reduceCtorEq,Nat.reduceEqDiff,Nat.reduceAdd,Nat.reduceMul,Nat.reduceLT,Nat.reduceSub,Int.reduceLT,Int.reduceLE,Int.reduceEq,Int.reduceNe,Int.reduceSub,Int.reduceAdd,Int.reduceMul,Int.reduceBEq,Int.reduceBNe,Int.reduceGT,Int.reduceGE,Nat.reduceGT,Int.reduceToNat,Int.reduceNeg,Nat.reduceLeDiff,Nat.reduceBEq,Nat.reduceBneDiff,Value.cells]
  refine appS (h0 := h2) (t := a) le3 o1 (by simp; omega) ?_
  intro v5 h5 o5 le5
  simp -implicitDefEqProofs only [zB1,zB2,zB3,zB4,zB5,zB6,zB7,zB8,zB9,zB10,zB11,y00,y01,y02,y03,y04,y05,y06,y07,y08,y09,y0a,y0b,y0c,y0d,y0e,y0f,y0g,y0h,y0i,y0j,y0k,y0l,y0m,y0n,y0o,y0p,y0q,y0r,y0s,y0t,y0u,y0v,y0w,y0x,y0y,y0z,y10,y11,y12,y13,y14,y15,y16,y17,y18,y19,y1a,y1b,y1c,y1d,y1e,y1f,y1g,y1h,y1i,y1j,y1k,y1l,y1m,y1n,y1o,y1p,y1q,y1r,retO,retL,retV,z69,allV,allP,z6a,z6d,z6e,z6k,z6l,z6m,binV,eqV,unV,oOpt,reduceIte,reduceCtorEq,Nat.reduceEqDiff,Nat.reduceAdd,Nat.reduceMul,Nat.reduceLT,Nat.reduceSub,Int.reduceLT,Int.reduceLE,Int.reduceEq,Int.reduceNe,Int.reduceSub,Int.reduceAdd,Int.reduceMul,Int.reduceBEq,Int.reduceBNe,Int.reduceGT,Int.reduceGE,Nat.reduceGT,Int.reduceToNat,Int.reduceNeg,Nat.reduceLeDiff,Nat.reduceBEq,Nat.reduceBneDiff,Value.cells, zb, wb, List.length_replicate, List.drop_replicate, List.replicate_zero]
  intro b6 hb6
  refine appendP_ow (h0 := h2) (bytes := 1) (m := 2) (news := [u8V 0, u8V (UInt8.ofNat b.length)]) (Heap.le_new le5 hb6 _) (by omega) (o5.le (Heap.le_set (Heap.le_refl _) hb6 _)) (Sl.lit (n := 2) rfl) rfl (by simp; omega) (by simp; omega) ?_
  intro v7 h7 o7' le7
  have o7 : OwB h2 h7 v7 ([0, UInt8.ofNat a.length] ++ a ++ [0, UInt8.ofNat b.length]) := by
    unfold OwB
    rw [List.length_append, List.map_append]
    exact o7'
  clear o7'
  obtain ⟨b7, c7, rfl⟩ := Sl.shape o7.sl
  simp -implicitDefEqProofs only [zB1,zB2,zB3,zB4,zB5,zB6,zB7,zB8,zB9,zB10,zB11,y00,y01,y02,y03,y04,y05,y06,y07,y08,y09,y0a,y0b,y0c,y0d,y0e,y0f,y0g,y0h,y0i,y0j,y0k,y0l,y0m,y0n,y0o,y0p,y0q,y0r,y0s,y0t,y0u,y0v,y0w,y0x,y0y,y0z,y10,y11,y12,y13,y14,y15,y16,y17,y18,y19,y1a,y1b,y1c,y1d,y1e,y1f,y1g,y1h,y1i,y1j,y1k,y1l,y1m,y1n,y1o,y1p,y1q,y1r,retO,retL,retV,z69,allV,allP,z6a,z6d,z6e,z6k,z6l,z6m,binV,eqV,unV,oOpt,reduceIte,reduceCtorEq,Nat.reduceEqDiff,Nat.reduceAdd,Nat.reduceMul,Nat.reduceLT,Nat.reduceSub,Int.reduceLT,Int.reduceLE,Int.reduceEq,Int.reduceNe,Int.reduceSub,Int.reduceAdd,Int.reduceMul,Int.reduceBEq,Int.reduceBNe,Int.reduceGT,Int.reduceGE,Nat.reduceGT,Int.reduceToNat,Int.reduceNeg,Nat.reduceLeDiff,Nat.reduceBEq,Nat.reduceBneDiff,Value.cells]
  unfold ir_bandboxlaw3_KdfNames_34
  have cw : ∀ h', h2.le h' → hcells h' ⟨b3, 0, none⟩ 32 = some (w.map u8V) := fun h' x => by
    rw [hcells_at (x _ _ (le2 _ _ q3)) (by simp [hw])]; simp [List.take_of_length_le, hw]
  have cw7 := cw h7 le7
  simp -implicitDefEqProofs only [zB1,zB2,zB3,zB4,zB5,zB6,zB7,zB8,zB9,zB10,zB11,y00,y01,y02,y03,y04,y05,y06,y07,y08,y09,y0a,y0b,y0c,y0d,y0e,y0f,y0g,y0h,y0i,y0j,y0k,y0l,y0m,y0n,y0o,y0p,y0q,y0r,y0s,y0t,y0u,y0v,y0w,y0x,y0y,y0z,y10,y11,y12,y13,y14,y15,y16,y17,y18,y19,y1a,y1b,y1c,y1d,y1e,y1f,y1g,y1h,y1i,y1j,y1k,y1l,y1m,y1n,y1o,y1p,y1q,y1r,retO,retL,retV,z69,allV,allP,z6a,z6d,z6e,z6k,z6l,z6m,binV,eqV,unV,oOpt,reduceIte,reduceCtorEq,Nat.reduceEqDiff,Nat.reduceAdd,Nat.reduceMul,Nat.reduceLT,Nat.reduceSub,Int.reduceLT,Int.reduceLE,Int.reduceEq,Int.reduceNe,Int.reduceSub,Int.reduceAdd,Int.reduceMul,Int.reduceBEq,Int.reduceBNe,Int.reduceGT,Int.reduceGE,Nat.reduceGT,Int.reduceToNat,Int.reduceNeg,Nat.reduceLeDiff,Nat.reduceBEq,Nat.reduceBneDiff,Value.cells]
  refine appS (h0 := h2) (t := b) le7 o7 (by simp; omega) ?_
  intro v8 h8 o8 le8
  have cw8 := cw h8 le8
  simp -implicitDefEqProofs only [zB1,zB2,zB3,zB4,zB5,zB6,zB7,zB8,zB9,zB10,zB11,y00,y01,y02,y03,y04,y05,y06,y07,y08,y09,y0a,y0b,y0c,y0d,y0e,y0f,y0g,y0h,y0i,y0j,y0k,y0l,y0m,y0n,y0o,y0p,y0q,y0r,y0s,y0t,y0u,y0v,y0w,y0x,y0y,y0z,y10,y11,y12,y13,y14,y15,y16,y17,y18,y19,y1a,y1b,y1c,y1d,y1e,y1f,y1g,y1h,y1i,y1j,y1k,y1l,y1m,y1n,y1o,y1p,y1q,y1r,retO,retL,retV,z69,allV,allP,z6a,z6d,z6e,z6k,z6l,z6m,binV,eqV,unV,oOpt,reduceIte,reduceCtorEq,Nat.reduceEqDiff,Nat.reduceAdd,Nat.reduceMul,Nat.reduceLT,Nat.reduceSub,Int.reduceLT,Int.reduceLE,Int.reduceEq,Int.reduceNe,Int.reduceSub,Int.reduceAdd,Int.reduceMul,Int.reduceBEq,Int.reduceBNe,Int.reduceGT,Int.reduceGE,Nat.reduceGT,Int.reduceToNat,Int.reduceNeg,Nat.reduceLeDiff,Nat.reduceBEq,Nat.reduceBneDiff,Value.cells, cw7, cw8, List.mem_cons, List.not_mem_nil, List.mem_singleton, or_false, forall_eq, forall_eq_or_imp, implies_true, and_self]
  rw [← names_two a b (by omega) (by omega)] at o8
  have nl : (infoF [a, b]).length ≤ 100000 := by rw [infoF_len]; simp; omega
  refine (kdf_Expand_c E h8 w (infoF [a, b]) 32 hw nl (by omega) o8.sl).mono ?_
  rintro r h9 ⟨le9, r', rfl, o9⟩
  have le29 := le8
  have cw9 := cw h9 (Heap.le_trans le29 le9)
  simp -implicitDefEqProofs only [zB1,zB2,zB3,zB4,zB5,zB6,zB7,zB8,zB9,zB10,zB11,y00,y01,y02,y03,y04,y05,y06,y07,y08,y09,y0a,y0b,y0c,y0d,y0e,y0f,y0g,y0h,y0i,y0j,y0k,y0l,y0m,y0n,y0o,y0p,y0q,y0r,y0s,y0t,y0u,y0v,y0w,y0x,y0y,y0z,y10,y11,y12,y13,y14,y15,y16,y17,y18,y19,y1a,y1b,y1c,y1d,y1e,y1f,y1g,y1h,y1i,y1j,y1k,y1l,y1m,y1n,y1o,y1p,y1q,y1r,retO,retL,retV,z69,allV,allP,z6a,z6d,z6e,z6k,z6l,z6m,binV,eqV,unV,oOpt,reduceIte,reduceCtorEq,Nat.reduceEqDiff,Nat.reduceAdd,Nat.reduceMul,Nat.reduceLT,Nat.reduceSub,Int.reduceLT,Int.reduceLE,Int.reduceEq,Int.reduceNe,Int.reduceSub,Int.reduceAdd,Int.reduceMul,Int.reduceBEq,Int.reduceBNe,Int.reduceGT,Int.reduceGE,Nat.reduceGT,Int.reduceToNat,Int.reduceNeg,Nat.reduceLeDiff,Nat.reduceBEq,Nat.reduceBneDiff,Value.cells, cw9, List.length_replicate, List.drop_replicate, List.replicate_zero]
  intro b10 hb10
  try simp -implicitDefEqProofs only [zB1,zB2,zB3,zB4,zB5,zB6,zB7,zB8,zB9,zB10,zB11,y00,y01,y02,y03,y04,y05,y06,y07,y08,y09,y0a,y0b,y0c,y0d,y0e,y0f,y0g,y0h,y0i,y0j,y0k,y0l,y0m,y0n,y0o,y0p,y0q,y0r,y0s,y0t,y0u,y0v,y0w,y0x,y0y,y0z,y10,y11,y12,y13,y14,y15,y16,y17,y18,y19,y1a,y1b,y1c,y1d,y1e,y1f,y1g,y1h,y1i,y1j,y1k,y1l,y1m,y1n,y1o,y1p,y1q,y1r,retO,retL,retV,z69,allV,allP,z6a,z6d,z6e,z6k,z6l,z6m,binV,eqV,unV,oOpt,reduceIte,reduceCtorEq,Nat.reduceEqDiff,Nat.reduceAdd,Nat.reduceMul,Nat.reduceLT,Nat.reduceSub,Int.reduceLT,Int.reduceLE,Int.reduceEq,Int.reduceNe,Int.reduceSub,Int.reduceAdd,Int.reduceMul,Int.reduceBEq,Int.reduceBNe,Int.reduceGT,Int.reduceGE,Nat.reduceGT,Int.reduceToNat,Int.reduceNeg,Nat.reduceLeDiff,Nat.reduceBEq,Nat.reduceBneDiff,Value.cells]
  have s10 : Sl (h9.set b10 (.own 0 [strV a, strV b] 2)) 1 (.slice (some ⟨b10, 0, none⟩) 2 2) 2 [strV a, strV b] := Sl.lit (n := 2) rfl
  refine (kdf_Key_c E _ w [a, b] hw (by simp) (by simp; omega) s10).mono ?_
  rintro r h11 ⟨le11, rfl⟩
  have le911 := Heap.le_trans (Heap.le_set (Heap.le_refl h9) hb10 (.own 0 [strV a, strV b] 2)) le11
  have o11 := o9.sl.le le911
  have le211 := Heap.le_trans (Heap.le_trans le29 le9) le911
  have xl := expandF_len w (infoF [a, b]) 32
  generalize expandF w (infoF [a, b]) 32 = X at *
  obtain ⟨bX, cX, rfl⟩ := Sl.shape o11
  have hX' : (X.map u8V).length = 32 := by simp [xl]
  simp -implicitDefEqProofs only [zB1,zB2,zB3,zB4,zB5,zB6,zB7,zB8,zB9,zB10,zB11,y00,y01,y02,y03,y04,y05,y06,y07,y08,y09,y0a,y0b,y0c,y0d,y0e,y0f,y0g,y0h,y0i,y0j,y0k,y0l,y0m,y0n,y0o,y0p,y0q,y0r,y0s,y0t,y0u,y0v,y0w,y0x,y0y,y0z,y10,y11,y12,y13,y14,y15,y16,y17,y18,y19,y1a,y1b,y1c,y1d,y1e,y1f,y1g,y1h,y1i,y1j,y1k,y1l,y1m,y1n,y1o,y1p,y1q,y1r,retO,retL,retV,z69,allV,allP,z6a,z6d,z6e,z6k,z6l,z6m,binV,eqV,unV,oOpt,reduceIte,reduceCtorEq,Nat.reduceEqDiff,Nat.reduceAdd,Nat.reduceMul,Nat.reduceLT,Nat.reduceSub,Int.reduceLT,Int.reduceLE,Int.reduceEq,Int.reduceNe,Int.reduceSub,Int.reduceAdd,Int.reduceMul,Int.reduceBEq,Int.reduceBNe,Int.reduceGT,Int.reduceGE,Nat.reduceGT,Int.reduceToNat,Int.reduceNeg,Nat.reduceLeDiff,Nat.reduceBEq,Nat.reduceBneDiff,Value.cells]
  intro b12 hb12
  rw [List.length_replicate]
  have st12 : storeV (h11.set b12 (.own 0 (List.replicate 32 (.int .u8 0)) 32)) 32 (.pointer (some ⟨b12, 0, none⟩)) (.agg (X.map u8V).toArray) = some (h11.set b12 (.own 0 (X.map u8V) 32)) := z6q (by omega) (by simp [xl]) (one_u8 _) (by simp) (by omega)
  have s12 := own_sl (l := X) (sz := 32) (H := h11.set b12 (.own 0 (X.map u8V) 32)) (Heap.set_self _ _ _)
  have le12 : h11.le (h11.set b12 (.own 0 (X.map u8V) 32)) := Heap.le_set (Heap.le_refl _) hb12 _
  simp -implicitDefEqProofs only [zB1,zB2,zB3,zB4,zB5,zB6,zB7,zB8,zB9,zB10,zB11,y00,y01,y02,y03,y04,y05,y06,y07,y08,y09,y0a,y0b,y0c,y0d,y0e,y0f,y0g,y0h,y0i,y0j,y0k,y0l,y0m,y0n,y0o,y0p,y0q,y0r,y0s,y0t,y0u,y0v,y0w,y0x,y0y,y0z,y10,y11,y12,y13,y14,y15,y16,y17,y18,y19,y1a,y1b,y1c,y1d,y1e,y1f,y1g,y1h,y1i,y1j,y1k,y1l,y1m,y1n,y1o,y1p,y1q,y1r,retO,retL,retV,z69,allV,allP,z6a,z6d,z6e,z6k,z6l,z6m,binV,eqV,unV,oOpt,reduceIte,reduceCtorEq,Nat.reduceEqDiff,Nat.reduceAdd,Nat.reduceMul,Nat.reduceLT,Nat.reduceSub,Int.reduceLT,Int.reduceLE,Int.reduceEq,Int.reduceNe,Int.reduceSub,Int.reduceAdd,Int.reduceMul,Int.reduceBEq,Int.reduceBNe,Int.reduceGT,Int.reduceGE,Nat.reduceGT,Int.reduceToNat,Int.reduceNeg,Nat.reduceLeDiff,Nat.reduceBEq,Nat.reduceBneDiff,Value.cells, st12]
  generalize (h11.set b12 (.own 0 (X.map u8V) 32)) = h12 at s12 le12
  have le212 := Heap.le_trans le211 le12
  have f1 := strOfV_sl (o11.le le12)
  have s12' : Sl h12 1 (.slice (some ⟨b12, 0, none⟩) 32 32) X.length (X.map u8V) := by unfold SlB at s12; rw [xl] at s12 ⊢; exact s12
  have f2 := strOfV_sl s12'
  unfold ir_bandboxlaw3_KdfNames_45
  simp -implicitDefEqProofs only [zB1,zB2,zB3,zB4,zB5,zB6,zB7,zB8,zB9,zB10,zB11,y00,y01,y02,y03,y04,y05,y06,y07,y08,y09,y0a,y0b,y0c,y0d,y0e,y0f,y0g,y0h,y0i,y0j,y0k,y0l,y0m,y0n,y0o,y0p,y0q,y0r,y0s,y0t,y0u,y0v,y0w,y0x,y0y,y0z,y10,y11,y12,y13,y14,y15,y16,y17,y18,y19,y1a,y1b,y1c,y1d,y1e,y1f,y1g,y1h,y1i,y1j,y1k,y1l,y1m,y1n,y1o,y1p,y1q,y1r,retO,retL,retV,z69,allV,allP,z6a,z6d,z6e,z6k,z6l,z6m,binV,eqV,unV,oOpt,reduceIte,reduceCtorEq,Nat.reduceEqDiff,Nat.reduceAdd,Nat.reduceMul,Nat.reduceLT,Nat.reduceSub,Int.reduceLT,Int.reduceLE,Int.reduceEq,Int.reduceNe,Int.reduceSub,Int.reduceAdd,Int.reduceMul,Int.reduceBEq,Int.reduceBNe,Int.reduceGT,Int.reduceGE,Nat.reduceGT,Int.reduceToNat,Int.reduceNeg,Nat.reduceLeDiff,Nat.reduceBEq,Nat.reduceBneDiff,Value.cells, f1, bnds_no, Nat.sub_zero, addz, f2, strV, str_toList, beq_self_eq_true]
  refine bytesP_str fun b13 c13 hb13 hc13 s13 le13 => ?_
  generalize (h12.set b13 (.own 0 (a.map u8V) c13)) = h13 at s13 le13
  try simp -implicitDefEqProofs only [zB1,zB2,zB3,zB4,zB5,zB6,zB7,zB8,zB9,zB10,zB11,y00,y01,y02,y03,y04,y05,y06,y07,y08,y09,y0a,y0b,y0c,y0d,y0e,y0f,y0g,y0h,y0i,y0j,y0k,y0l,y0m,y0n,y0o,y0p,y0q,y0r,y0s,y0t,y0u,y0v,y0w,y0x,y0y,y0z,y10,y11,y12,y13,y14,y15,y16,y17,y18,y19,y1a,y1b,y1c,y1d,y1e,y1f,y1g,y1h,y1i,y1j,y1k,y1l,y1m,y1n,y1o,y1p,y1q,y1r,retO,retL,retV,z69,allV,allP,z6a,z6d,z6e,z6k,z6l,z6m,binV,eqV,unV,oOpt,reduceIte,reduceCtorEq,Nat.reduceEqDiff,Nat.reduceAdd,Nat.reduceMul,Nat.reduceLT,Nat.reduceSub,Int.reduceLT,Int.reduceLE,Int.reduceEq,Int.reduceNe,Int.reduceSub,Int.reduceAdd,Int.reduceMul,Int.reduceBEq,Int.reduceBNe,Int.reduceGT,Int.reduceGE,Nat.reduceGT,Int.reduceToNat,Int.reduceNeg,Nat.reduceLeDiff,Nat.reduceBEq,Nat.reduceBneDiff,Value.cells]
  refine bytesP_str fun b14 c14 hb14 hc14 s14 le14 => ?_
  generalize (h13.set b14 (.own 0 (b.map u8V) c14)) = h14 at s14 le14
  try simp -implicitDefEqProofs only [zB1,zB2,zB3,zB4,zB5,zB6,zB7,zB8,zB9,zB10,zB11,y00,y01,y02,y03,y04,y05,y06,y07,y08,y09,y0a,y0b,y0c,y0d,y0e,y0f,y0g,y0h,y0i,y0j,y0k,y0l,y0m,y0n,y0o,y0p,y0q,y0r,y0s,y0t,y0u,y0v,y0w,y0x,y0y,y0z,y10,y11,y12,y13,y14,y15,y16,y17,y18,y19,y1a,y1b,y1c,y1d,y1e,y1f,y1g,y1h,y1i,y1j,y1k,y1l,y1m,y1n,y1o,y1p,y1q,y1r,retO,retL,retV,z69,allV,allP,z6a,z6d,z6e,z6k,z6l,z6m,binV,eqV,unV,oOpt,reduceIte,reduceCtorEq,Nat.reduceEqDiff,Nat.reduceAdd,Nat.reduceMul,Nat.reduceLT,Nat.reduceSub,Int.reduceLT,Int.reduceLE,Int.reduceEq,Int.reduceNe,Int.reduceSub,Int.reduceAdd,Int.reduceMul,Int.reduceBEq,Int.reduceBNe,Int.reduceGT,Int.reduceGE,Nat.reduceGT,Int.reduceToNat,Int.reduceNeg,Nat.reduceLeDiff,Nat.reduceBEq,Nat.reduceBneDiff,Value.cells, List.length_replicate, List.drop_replicate, List.replicate_zero]
  intro b15 hb15
  try simp -implicitDefEqProofs only [zB1,zB2,zB3,zB4,zB5,zB6,zB7,zB8,zB9,zB10,zB11,y00,y01,y02,y03,y04,y05,y06,y07,y08,y09,y0a,y0b,y0c,y0d,y0e,y0f,y0g,y0h,y0i,y0j,y0k,y0l,y0m,y0n,y0o,y0p,y0q,y0r,y0s,y0t,y0u,y0v,y0w,y0x,y0y,y0z,y10,y11,y12,y13,y14,y15,y16,y17,y18,y19,y1a,y1b,y1c,y1d,y1e,y1f,y1g,y1h,y1i,y1j,y1k,y1l,y1m,y1n,y1o,y1p,y1q,y1r,retO,retL,retV,z69,allV,allP,z6a,z6d,z6e,z6k,z6l,z6m,binV,eqV,unV,oOpt,reduceIte,reduceCtorEq,Nat.reduceEqDiff,Nat.reduceAdd,Nat.reduceMul,Nat.reduceLT,Nat.reduceSub,Int.reduceLT,Int.reduceLE,Int.reduceEq,Int.reduceNe,Int.reduceSub,Int.reduceAdd,Int.reduceMul,Int.reduceBEq,Int.reduceBNe,Int.reduceGT,Int.reduceGE,Nat.reduceGT,Int.reduceToNat,Int.reduceNeg,Nat.reduceLeDiff,Nat.reduceBEq,Nat.reduceBneDiff,Value.cells]
  have fl : [a, b].flatten = a ++ b := by simp
  have sk : ∀ H, h2.le H → SlB H (.slice (some ⟨b3, 0, none⟩) 32 32) w := by
    intro H x
    have := own_sl (x _ _ (le2 _ _ q3))
    rw [hw] at this
    exact this
  have le15 := Heap.le_set (Heap.le_refl h14) hb15 (.own 0 [.slice (some ⟨b13, 0, none⟩) a.length c13, .slice (some ⟨b14, 0, none⟩) b.length c14] 2)
  have le214 := Heap.le_trans le212 (Heap.le_trans le13 le14)
  refine (kdf_Mac_c E _ w [a, b] (by omega) (by simp) (by rw [fl]; simp; omega) (sk _ (Heap.le_trans le214 le15)) (SlL.lit2 hb15 (s13.le le14) s14)).mono ?_
  rintro r h16 ⟨le16, rfl⟩
  rw [fl]
  have le216 := Heap.le_trans (Heap.le_trans le214 le15) le16
  have lab : (a ++ b).length = a.length + b.length := by simp
  have sa : (ByteArray.mk a.toArray).size + (ByteArray.mk b.toArray).size ≤ 9223372036854775807 := by simp [ByteArray.size]; omega
  have sb : ByteArray.mk a.toArray ++ ByteArray.mk b.toArray = ByteArray.mk (a ++ b).toArray := by apply ByteArray.ext; simp
  simp -implicitDefEqProofs only [zB1,zB2,zB3,zB4,zB5,zB6,zB7,zB8,zB9,zB10,zB11,y00,y01,y02,y03,y04,y05,y06,y07,y08,y09,y0a,y0b,y0c,y0d,y0e,y0f,y0g,y0h,y0i,y0j,y0k,y0l,y0m,y0n,y0o,y0p,y0q,y0r,y0s,y0t,y0u,y0v,y0w,y0x,y0y,y0z,y10,y11,y12,y13,y14,y15,y16,y17,y18,y19,y1a,y1b,y1c,y1d,y1e,y1f,y1g,y1h,y1i,y1j,y1k,y1l,y1m,y1n,y1o,y1p,y1q,y1r,retO,retL,retV,z69,allV,allP,z6a,z6d,z6e,z6k,z6l,z6m,binV,eqV,unV,oOpt,reduceIte,reduceCtorEq,Nat.reduceEqDiff,Nat.reduceAdd,Nat.reduceMul,Nat.reduceLT,Nat.reduceSub,Int.reduceLT,Int.reduceLE,Int.reduceEq,Int.reduceNe,Int.reduceSub,Int.reduceAdd,Int.reduceMul,Int.reduceBEq,Int.reduceBNe,Int.reduceGT,Int.reduceGE,Nat.reduceGT,Int.reduceToNat,Int.reduceNeg,Nat.reduceLeDiff,Nat.reduceBEq,Nat.reduceBneDiff,Value.cells, bnds_no, Nat.sub_zero, addz, sa, sb, List.mem_cons, List.not_mem_nil, List.mem_singleton, or_false, forall_eq, forall_eq_or_imp, implies_true, and_self]
  refine bytesP_str fun b17 c17 hb17 hc17 s17 le17 => ?_
  generalize (h16.set b17 (.own 0 ((a ++ b).map u8V) c17)) = h17 at s17 le17
  try simp -implicitDefEqProofs only [zB1,zB2,zB3,zB4,zB5,zB6,zB7,zB8,zB9,zB10,zB11,y00,y01,y02,y03,y04,y05,y06,y07,y08,y09,y0a,y0b,y0c,y0d,y0e,y0f,y0g,y0h,y0i,y0j,y0k,y0l,y0m,y0n,y0o,y0p,y0q,y0r,y0s,y0t,y0u,y0v,y0w,y0x,y0y,y0z,y10,y11,y12,y13,y14,y15,y16,y17,y18,y19,y1a,y1b,y1c,y1d,y1e,y1f,y1g,y1h,y1i,y1j,y1k,y1l,y1m,y1n,y1o,y1p,y1q,y1r,retO,retL,retV,z69,allV,allP,z6a,z6d,z6e,z6k,z6l,z6m,binV,eqV,unV,oOpt,reduceIte,reduceCtorEq,Nat.reduceEqDiff,Nat.reduceAdd,Nat.reduceMul,Nat.reduceLT,Nat.reduceSub,Int.reduceLT,Int.reduceLE,Int.reduceEq,Int.reduceNe,Int.reduceSub,Int.reduceAdd,Int.reduceMul,Int.reduceBEq,Int.reduceBNe,Int.reduceGT,Int.reduceGE,Nat.reduceGT,Int.reduceToNat,Int.reduceNeg,Nat.reduceLeDiff,Nat.reduceBEq,Nat.reduceBneDiff,Value.cells, List.length_replicate, List.drop_replicate, List.replicate_zero]
  intro b18 hb18
  try simp -implicitDefEqProofs only [zB1,zB2,zB3,zB4,zB5,zB6,zB7,zB8,zB9,zB10,zB11,y00,y01,y02,y03,y04,y05,y06,y07,y08,y09,y0a,y0b,y0c,y0d,y0e,y0f,y0g,y0h,y0i,y0j,y0k,y0l,y0m,y0n,y0o,y0p,y0q,y0r,y0s,y0t,y0u,y0v,y0w,y0x,y0y,y0z,y10,y11,y12,y13,y14,y15,y16,y17,y18,y19,y1a,y1b,y1c,y1d,y1e,y1f,y1g,y1h,y1i,y1j,y1k,y1l,y1m,y1n,y1o,y1p,y1q,y1r,retO,retL,retV,z69,allV,allP,z6a,z6d,z6e,z6k,z6l,z6m,binV,eqV,unV,oOpt,reduceIte,reduceCtorEq,Nat.reduceEqDiff,Nat.reduceAdd,Nat.reduceMul,Nat.reduceLT,Nat.reduceSub,Int.reduceLT,Int.reduceLE,Int.reduceEq,Int.reduceNe,Int.reduceSub,Int.reduceAdd,Int.reduceMul,Int.reduceBEq,Int.reduceBNe,Int.reduceGT,Int.reduceGE,Nat.reduceGT,Int.reduceToNat,Int.reduceNeg,Nat.reduceLeDiff,Nat.reduceBEq,Nat.reduceBneDiff,Value.cells]
  have le18 := Heap.le_set (Heap.le_refl h17) hb18 (.own 0 [.slice (some ⟨b17, 0, none⟩) (a ++ b).length c17] 1)
  have f2 : [a ++ b].flatten = a ++ b := by simp
  refine (kdf_Mac_c E _ w [a ++ b] (by omega) (by simp) (by rw [f2]; omega) (sk _ (Heap.le_trans (Heap.le_trans le216 le17) le18)) (SlL.lit1 hb18 s17)).mono ?_
  rintro r h19 ⟨le19, rfl⟩
  rw [f2]
  have ml := macF_len w (a ++ b)
  generalize macF w (a ++ b) = M at *
  have k1 := leaves_u8 M
  rw [ml] at k1
  have k2 := leavesEq_u8 M
  simp -implicitDefEqProofs only [zB1,zB2,zB3,zB4,zB5,zB6,zB7,zB8,zB9,zB10,zB11,y00,y01,y02,y03,y04,y05,y06,y07,y08,y09,y0a,y0b,y0c,y0d,y0e,y0f,y0g,y0h,y0i,y0j,y0k,y0l,y0m,y0n,y0o,y0p,y0q,y0r,y0s,y0t,y0u,y0v,y0w,y0x,y0y,y0z,y10,y11,y12,y13,y14,y15,y16,y17,y18,y19,y1a,y1b,y1c,y1d,y1e,y1f,y1g,y1h,y1i,y1j,y1k,y1l,y1m,y1n,y1o,y1p,y1q,y1r,retO,retL,retV,z69,allV,allP,z6a,z6d,z6e,z6k,z6l,z6m,binV,eqV,unV,oOpt,reduceIte,reduceCtorEq,Nat.reduceEqDiff,Nat.reduceAdd,Nat.reduceMul,Nat.reduceLT,Nat.reduceSub,Int.reduceLT,Int.reduceLE,Int.reduceEq,Int.reduceNe,Int.reduceSub,Int.reduceAdd,Int.reduceMul,Int.reduceBEq,Int.reduceBNe,Int.reduceGT,Int.reduceGE,Nat.reduceGT,Int.reduceToNat,Int.reduceNeg,Nat.reduceLeDiff,Nat.reduceBEq,Nat.reduceBneDiff,Value.cells, k1, k2]
end Go.Bb
