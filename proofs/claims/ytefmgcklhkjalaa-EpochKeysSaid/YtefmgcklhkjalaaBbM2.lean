/- My contracts: BbUk BbRow BbUm BbCkdf3 BbCoct2 BbPref4 BbCoct3 BbCmul BbCpoly0 BbCpoly1 BbCpoly2 BbCpoly3 BbCoct4 BbCpoly4 BbCslc. -/
import Derived.Test.YtefmgcklhkjalaaBbM1
import Derived.Test.YtefmgcklhkjalaaBbG3
/- Arguments: bytes and words. -/
namespace Go.Bb
set_option linter.unusedSimpArgs false
set_option linter.unusedVariables false

theorem flatMap_single {α β : Type} (f : α → β) : ∀ L : List α, (L.flatMap fun x => [f x]) = L.map f
  | [] => rfl
  | x :: L => by simp [flatMap_single f L]
theorem u8V_of {n : Int} (h0 : 0 ≤ n) (h1 : n ≤ 255) : u8V (UInt8.ofNat n.toNat) = .int .u8 n := by
  unfold u8V
  have : (UInt8.ofNat n.toNat).toNat = n.toNat := by rw [UInt8.toNat_ofNat']; omega
  rw [this]; congr 1; omega
end Go.Bb
namespace Go.Bb
def byteOf : Value → UInt8
  | .int _ z => UInt8.ofNat z.toNat
  | _ => 0
theorem ok_array {W : World} {n : Nat} {v : Value} (h : Shp.ok W (.array n 1 (.int .u8)) v) : ∃ l : List UInt8, l.length = n ∧ v = .agg (l.map u8V).toArray := by
  obtain ⟨⟨h1, h2⟩, h3⟩ := h
  simp only [Shp.wide, if_true] at h3
  obtain ⟨cs, rfl⟩ := h3
  have hc : (Value.agg cs).cells = cs := rfl
  rw [hc] at h1 h2
  rw [Nat.mul_one] at h1
  refine ⟨cs.toList.map byteOf, by simpa using h1, ?_⟩
  congr 1
  apply Array.toList_inj.1
  simp only
  apply List.ext_getElem
  · simp
  · intro i a b
    have hi : i < n := by rw [← h1]; exact a
    obtain ⟨z, hz, z0, z1⟩ := h2 i hi
    rw [Nat.mul_one] at hz
    have e : cs.toList[i] = .int .u8 z := by
      have h4 : ((cs.toList.drop i).take 1)[0]? = some (.int .u8 z) := by rw [hz]; rfl
      rw [List.getElem?_take, if_pos (by omega), List.getElem?_drop, Nat.add_zero, List.getElem?_eq_getElem a] at h4
      exact Option.some.inj h4
    rw [e]
    simp only [List.getElem_map]
    rw [e]
    exact (u8V_of (by simpa [IntKind.min, IntKind.signed] using z0) (by simpa [IntKind.max, IntKind.signed, IntKind.bits] using z1)).symm
end Go.Bb
/- Rows of numbers of any kind, and what masks and shifts tell of them. -/
namespace Go.Bb
set_option linter.unusedSimpArgs false
set_option linter.unusedVariables false

theorem set_keep {H : Heap} {b c : Nat} {X Y : Blk} (hc : H c = some Y) (e : c ≠ b) : (H.set b X) c = some Y := by rw [Heap.set_ne e]; exact hc
theorem set_new {H : Heap} {b c : Nat} {X Y : Blk} (hb : H b = none) (hc : H c = some Y) : (H.set b X) c = some Y := by rw [Heap.set_ne (ne_of_none hb hc)]; exact hc
section
variable {k : IntKind} {f g : Nat → Nat} {n : Nat}
end
theorem wrap_u64l {n : Nat} (h : n < 18446744073709551616) : IntKind.u64.wrap (n : Int) = (n : Int) := by
  rw [wrap_u64, ofInt_nat, BitVec.toNat_ofNat, Nat.mod_eq_of_lt (by omega)]
end Go.Bb
/- Arguments: slices of slices of bytes, texts. -/
namespace Go.Bb
set_option linter.unusedSimpArgs false
set_option linter.unusedVariables false

/-- A part of what is read, at its place. -/
theorem SlL.part {h : Heap} {base : Option Addr} {c : Nat} {L : List (List UInt8)} (s : SlL h (.slice base L.length c) L) (i : Nat) (hi : i < L.length) :
    ∃ b o u bi ci, base = some ⟨b, o, none⟩ ∧ u = .slice bi L[i].length ci ∧ SlB h u L[i] ∧ ∀ H, h.le H → hcell H ⟨b, o + i, none⟩ = some u := by
  obtain ⟨vs, hvs, sl, el⟩ := s
  obtain ⟨b, o, c', hv, hc, hcl⟩ := sl.ptr (by omega) (by omega)
  simp only [Value.slice.injEq, true_and] at hv
  obtain ⟨rfl, rfl⟩ := hv
  rw [Nat.mul_one] at hcl
  obtain ⟨bi, ci, e⟩ := Sl.shape (el i (by omega) hi)
  refine ⟨b, o, vs[i]'(by omega), bi, ci, rfl, e, el i (by omega) hi, fun H hH => ?_⟩
  rw [hcell_of (hcells_le hH hcl) i hi]; simp [hvs, hi]
theorem SlL.shape {h : Heap} {v : Value} {L : List (List UInt8)} (s : SlL h v L) : ∃ base c, v = .slice base L.length c := by
  obtain ⟨vs, hvs, sl, el⟩ := s
  exact Sl.shape sl
theorem flat_take (L : List (List UInt8)) (i : Nat) : (L.take i).flatten.length ≤ L.flatten.length := by
  have : L.flatten = (L.take i).flatten ++ (L.drop i).flatten := by rw [← List.flatten_append, List.take_append_drop]
  rw [this, List.length_append]; omega
theorem flat_succ (L : List (List UInt8)) (i : Nat) (hi : i < L.length) : (L.take (i + 1)).flatten = (L.take i).flatten ++ L[i] := by rw [List.take_succ_eq_append_getElem hi, List.flatten_append]; simp
theorem u8_xorB (b c : UInt8) : IntKind.u8.wrap ((BitVec.ofInt IntKind.u8.bits (b.toNat : Int) ^^^ BitVec.ofInt IntKind.u8.bits (c.toNat : Int)).toNat : Int) = ((b ^^^ c).toNat : Int) := by
  rw [show IntKind.u8.bits = 8 from rfl, wrap_u8]
  simp only [ofInt_nat]
  congr 1
  simp [UInt8.toNat_xor]
theorem u8_or (b c : UInt8) : IntKind.u8.wrap ((BitVec.ofInt IntKind.u8.bits (b.toNat : Int) ||| BitVec.ofInt IntKind.u8.bits (c.toNat : Int)).toNat : Int) = ((b ||| c).toNat : Int) := by
  rw [show IntKind.u8.bits = 8 from rfl, wrap_u8]
  simp only [ofInt_nat]
  congr 1
  simp [UInt8.toNat_or]
def xorB (a b : List UInt8) : List UInt8 := List.zipWith (fun x y => x ^^^ y) a b
theorem xorB_len (a b : List UInt8) : (xorB a b).length = min a.length b.length := by simp [xorB]
theorem xorB_take (a b : List UInt8) (i : Nat) (ha : i < a.length) (hb : i < b.length) : (xorB a b).take (i + 1) = (xorB a b).take i ++ [a[i] ^^^ b[i]] := by
  have h : i < (xorB a b).length := by rw [xorB_len]; omega
  rw [List.take_succ_eq_append_getElem h]
  simp [xorB]
end Go.Bb
/- Contracts: a key of a key, for what some texts name. -/
namespace Go.Bb
set_option linter.unusedSimpArgs false
set_option linter.unusedVariables false
set_option maxRecDepth 20000

/-- A text more behind some bytes. -/
theorem appS {h0 H : Heap} {v : Value} {l t : List UInt8} {K : Value → Heap → Prop} (leH : h0.le H) (ow : OwB h0 H v l) (hl : l.length + t.length ≤ 140737488355000)
    (hk : ∀ v' H', OwB h0 H' v' (l ++ t) → h0.le H' → K v' H') : appendP 1 1 H v (strV t) K := by
  have hx : readX H 1 (strV t) = some (t.length, t.map u8V) := by
    simp only [readX, strV, if_true, ByteArray.size, List.size_toArray]
    rfl
  obtain ⟨base, c, rfl⟩ := Sl.shape ow.sl
  simp only [appendP, hx]
  refine append_ow leH (by omega) ow (by simp) (fun u hu => List.all_eq_true.1 (one_u8 t) u hu) (by omega) (by omega) ?_
  intro v' H' ow' le'
  refine hk v' H' ?_ le'
  unfold OwB
  rw [List.length_append, List.map_append]
  exact ow'
/-- What some texts name. -/
def infoF (ts : List (List UInt8)) : List UInt8 := (ts.map fun t => bigF (BitVec.ofNat 64 t.length) 2 ++ t).flatten
theorem infoF_succ (ts : List (List UInt8)) (i : Nat) (hi : i < ts.length) : infoF (ts.take (i + 1)) = infoF (ts.take i) ++ bigF (BitVec.ofNat 64 ts[i].length) 2 ++ ts[i] := by
  unfold infoF
  rw [List.take_succ_eq_append_getElem hi, List.map_append, List.flatten_append]
  simp
theorem infoF_len (ts : List (List UInt8)) : (infoF ts).length = 2 * ts.length + ts.flatten.length := by
  induction ts with
  | nil => rfl
  | cons t ts ih =>
    have e : infoF (t :: ts) = bigF (BitVec.ofNat 64 t.length) 2 ++ t ++ infoF ts := by simp [infoF]
    rw [e]
    simp only [List.length_append, bigF_len, ih, List.length_cons, List.flatten_cons]
    omega
theorem kdf_Key_c (E : EnvT tab) (h : Heap) {v : Value} (w : List UInt8) (ts : List (List UInt8)) (hw : w.length = 32) (hl : ts.length ≤ 1000) (ht : ts.flatten.length ≤ 90000) (s : Sl h 1 v ts.length (ts.map strV)) :
    ACallN E.toEnv n_kdf_Key [.agg (w.map u8V).toArray, v] h fun r h' => h.le h' ∧ r = .agg ((expandF w (infoF ts) 32).map u8V).toArray := by
  obtain ⟨base, c, rfl⟩ := Sl.shape s
  refine acall h_kdf_Key ir_kdf_Key rfl rfl (wpA_sound ?_)
  unfold ir_kdf_Key
  have hw' : (w.map u8V).length = 32 := by simp [hw]
  simp -implicitDefEqProofs only [zB1,zB2,zB3,zB4,zB5,zB6,zB7,zB8,zB9,zB10,zB11,y00,y01,y02,y03,y04,y05,y06,y07,y08,y09,y0a,y0b,y0c,y0d,y0e,y0f,y0g,y0h,y0i,y0j,y0k,y0l,y0m,y0n,y0o,y0p,y0q,y0r,y0s,y0t,y0u,y0v,y0w,y0x,y0y,y0z,y10,y11,y12,y13,y14,y15,y16,y17,y18,y19,y1a,y1b,y1c,y1d,y1e,y1f,y1g,y1h,y1i,y1j,y1k,y1l,y1m,y1n,y1o,y1p,y1q,y1r,retO,retL,retV,z69,allV,allP,z6a,z6d,z6e,z6k,z6l,z6m,binV,eqV,unV,oOpt,reduceIte,reduceCtorEq,Nat.reduceEqDiff,Nat.reduceAdd,Nat.reduceMul,Nat.reduceLT,Nat.reduceSub,Int.reduceLT,Int.reduceLE,Int.reduceEq,Int.reduceNe,Int.reduceSub,Int.reduceAdd,Int.reduceMul,Int.reduceBEq,Int.reduceBNe,Int.reduceGT,Int.reduceGE,Nat.reduceGT,Int.reduceToNat,Int.reduceNeg,Nat.reduceLeDiff,Nat.reduceBEq,Nat.reduceBneDiff,Value.cells]
  intro b2 hb2
  try simp -implicitDefEqProofs only [zB1,zB2,zB3,zB4,zB5,zB6,zB7,zB8,zB9,zB10,zB11,y00,y01,y02,y03,y04,y05,y06,y07,y08,y09,y0a,y0b,y0c,y0d,y0e,y0f,y0g,y0h,y0i,y0j,y0k,y0l,y0m,y0n,y0o,y0p,y0q,y0r,y0s,y0t,y0u,y0v,y0w,y0x,y0y,y0z,y10,y11,y12,y13,y14,y15,y16,y17,y18,y19,y1a,y1b,y1c,y1d,y1e,y1f,y1g,y1h,y1i,y1j,y1k,y1l,y1m,y1n,y1o,y1p,y1q,y1r,retO,retL,retV,z69,allV,allP,z6a,z6d,z6e,z6k,z6l,z6m,binV,eqV,unV,oOpt,reduceIte,reduceCtorEq,Nat.reduceEqDiff,Nat.reduceAdd,Nat.reduceMul,Nat.reduceLT,Nat.reduceSub,Int.reduceLT,Int.reduceLE,Int.reduceEq,Int.reduceNe,Int.reduceSub,Int.reduceAdd,Int.reduceMul,Int.reduceBEq,Int.reduceBNe,Int.reduceGT,Int.reduceGE,Nat.reduceGT,Int.reduceToNat,Int.reduceNeg,Nat.reduceLeDiff,Nat.reduceBEq,Nat.reduceBneDiff,Value.cells]
  intro b4 hb4
  try simp -implicitDefEqProofs only [zB1,zB2,zB3,zB4,zB5,zB6,zB7,zB8,zB9,zB10,zB11,y00,y01,y02,y03,y04,y05,y06,y07,y08,y09,y0a,y0b,y0c,y0d,y0e,y0f,y0g,y0h,y0i,y0j,y0k,y0l,y0m,y0n,y0o,y0p,y0q,y0r,y0s,y0t,y0u,y0v,y0w,y0x,y0y,y0z,y10,y11,y12,y13,y14,y15,y16,y17,y18,y19,y1a,y1b,y1c,y1d,y1e,y1f,y1g,y1h,y1i,y1j,y1k,y1l,y1m,y1n,y1o,y1p,y1q,y1r,retO,retL,retV,z69,allV,allP,z6a,z6d,z6e,z6k,z6l,z6m,binV,eqV,unV,oOpt,reduceIte,reduceCtorEq,Nat.reduceEqDiff,Nat.reduceAdd,Nat.reduceMul,Nat.reduceLT,Nat.reduceSub,Int.reduceLT,Int.reduceLE,Int.reduceEq,Int.reduceNe,Int.reduceSub,Int.reduceAdd,Int.reduceMul,Int.reduceBEq,Int.reduceBNe,Int.reduceGT,Int.reduceGE,Nat.reduceGT,Int.reduceToNat,Int.reduceNeg,Nat.reduceLeDiff,Nat.reduceBEq,Nat.reduceBneDiff,Value.cells]
  rw [List.length_replicate, hw']
  have le2 : h.le (h.set b2 (.own 0 (w.map u8V) 32)) := Heap.le_set (Heap.le_refl _) hb2 _
  have q2 : (h.set b2 (.own 0 (w.map u8V) 32)) b2 = some (.own 0 (w.map u8V) 32) := Heap.set_self _ _ _
  rw [hw'] at hb4
  generalize (h.set b2 (.own 0 (w.map u8V) 32)) = h1 at le2 q2 hb4
  have hb4h := Heap.none_of_le le2 hb4
  have le4 : h1.le (h1.set b4 (.own 0 (List.replicate 32 (.int .u8 0)) 32)) := Heap.le_set (Heap.le_refl _) hb4 _
  have q4 : (h1.set b4 (.own 0 (List.replicate 32 (.int .u8 0)) 32)) b4 = some (.own 0 (List.replicate 32 (.int .u8 0)) 32) := Heap.set_self _ _ _
  have q2 := le4 _ _ q2
  have le2 := Heap.le_trans le2 le4
  generalize (h1.set b4 (.own 0 (List.replicate 32 (.int .u8 0)) 32)) = h2 at le2 q2 q4
  refine wp_loop' (fun m t H => h2.le H ∧ ∃ (i : Nat) (v5 : Value), t = tl [(2, .pointer (some ⟨b2, 0, none⟩)), (4, .pointer (some ⟨b4, 0, none⟩)), (5, v5), (10, .slice base ts.length c), (11, .int .i64 ts.length), (12, .int .i64 i)] ∧ i ≤ ts.length ∧ m = ts.length - i ∧
      OwB h2 H v5 (infoF (ts.take i))) ts.length
    ⟨Heap.le_refl _, 0, _, rfl, by omega, by omega, Ow.nil _ _ _⟩ ?_
  rintro m t H ⟨leH, i, v5, rfl, hi, rfl, ow⟩
  have hln := infoF_len (ts.take i)
  have hft := flat_take ts i
  have htl : (ts.take i).length ≤ 1000 := by rw [List.length_take]; omega
  by_cases hlt : i < ts.length
  · have hi1 : (i : Int) < ts.length := by omega
    have hi2 : (0 : Int) ≤ i := by omega
    have w1 : IntKind.i64.wrap ((i : Int) + 1) = ((i + 1 : Nat) : Int) := wrapN (by omega)
    obtain ⟨b, o, c', hv, hc, hcl⟩ := s.ptr (by omega) (by omega)
    simp only [Value.slice.injEq, true_and] at hv
    obtain ⟨rfl, rfl⟩ := hv
    rw [Nat.mul_one] at hcl
    have ci : hcell H ⟨b, o + i, none⟩ = some (strV ts[i]) := by
      rw [hcell_of (hcells_le (Heap.le_trans le2 leH) hcl) i hlt]; simp [hlt]
    have hmem : ts[i].length ≤ ts.flatten.length := by
      have := flat_succ ts i hlt
      have h2 := flat_take ts (i + 1)
      rw [this, List.length_append] at h2
      omega
    have wl : IntKind.u64.wrap (ts[i].length : Int) = ((BitVec.ofNat 64 ts[i].length).toNat : Int) := by
      rw [BitVec.toNat_ofNat, Nat.mod_eq_of_lt (by omega)]
      simp [IntKind.wrap, IntKind.bits, IntKind.signed]; omega
    have sz : ((ByteArray.mk ts[i].toArray).size : Int) = (ts[i].length : Int) := by simp [ByteArray.size]
    simp -implicitDefEqProofs only [zB1,zB2,zB3,zB4,zB5,zB6,zB7,zB8,zB9,zB10,zB11,y00,y01,y02,y03,y04,y05,y06,y07,y08,y09,y0a,y0b,y0c,y0d,y0e,y0f,y0g,y0h,y0i,y0j,y0k,y0l,y0m,y0n,y0o,y0p,y0q,y0r,y0s,y0t,y0u,y0v,y0w,y0x,y0y,y0z,y10,y11,y12,y13,y14,y15,y16,y17,y18,y19,y1a,y1b,y1c,y1d,y1e,y1f,y1g,y1h,y1i,y1j,y1k,y1l,y1m,y1n,y1o,y1p,y1q,y1r,retO,retL,retV,z69,allV,allP,z6a,z6d,z6e,z6k,z6l,z6m,binV,eqV,unV,oOpt,reduceIte,reduceCtorEq,Nat.reduceEqDiff,Nat.reduceAdd,Nat.reduceMul,Nat.reduceLT,Nat.reduceSub,Int.reduceLT,Int.reduceLE,Int.reduceEq,Int.reduceNe,Int.reduceSub,Int.reduceAdd,Int.reduceMul,Int.reduceBEq,Int.reduceBNe,Int.reduceGT,Int.reduceGE,Nat.reduceGT,Int.reduceToNat,Int.reduceNeg,Nat.reduceLeDiff,Nat.reduceBEq,Nat.reduceBneDiff,Value.cells, hi1, hi2, Int.toNat_natCast, ci, strV, sz, wl]
    refine (octet_Big_c E H (infoF (ts.take i)) (by omega) ow.sl (BitVec.ofNat 64 ts[i].length) 2 (by omega)).mono ?_
    rintro r H1 ⟨le5, ow5⟩
    simp -implicitDefEqProofs only [zB1,zB2,zB3,zB4,zB5,zB6,zB7,zB8,zB9,zB10,zB11,y00,y01,y02,y03,y04,y05,y06,y07,y08,y09,y0a,y0b,y0c,y0d,y0e,y0f,y0g,y0h,y0i,y0j,y0k,y0l,y0m,y0n,y0o,y0p,y0q,y0r,y0s,y0t,y0u,y0v,y0w,y0x,y0y,y0z,y10,y11,y12,y13,y14,y15,y16,y17,y18,y19,y1a,y1b,y1c,y1d,y1e,y1f,y1g,y1h,y1i,y1j,y1k,y1l,y1m,y1n,y1o,y1p,y1q,y1r,retO,retL,retV,z69,allV,allP,z6a,z6d,z6e,z6k,z6l,z6m,binV,eqV,unV,oOpt,reduceIte,reduceCtorEq,Nat.reduceEqDiff,Nat.reduceAdd,Nat.reduceMul,Nat.reduceLT,Nat.reduceSub,Int.reduceLT,Int.reduceLE,Int.reduceEq,Int.reduceNe,Int.reduceSub,Int.reduceAdd,Int.reduceMul,Int.reduceBEq,Int.reduceBNe,Int.reduceGT,Int.reduceGE,Nat.reduceGT,Int.reduceToNat,Int.reduceNeg,Nat.reduceLeDiff,Nat.reduceBEq,Nat.reduceBneDiff,Value.cells]
    refine appS (h0 := h2) (Heap.le_trans leH le5) (ow5.since leH) (by rw [List.length_append, bigF_len]; omega) ?_
    intro v' H2 ow6 le6
    simp -implicitDefEqProofs only [zB1,zB2,zB3,zB4,zB5,zB6,zB7,zB8,zB9,zB10,zB11,y00,y01,y02,y03,y04,y05,y06,y07,y08,y09,y0a,y0b,y0c,y0d,y0e,y0f,y0g,y0h,y0i,y0j,y0k,y0l,y0m,y0n,y0o,y0p,y0q,y0r,y0s,y0t,y0u,y0v,y0w,y0x,y0y,y0z,y10,y11,y12,y13,y14,y15,y16,y17,y18,y19,y1a,y1b,y1c,y1d,y1e,y1f,y1g,y1h,y1i,y1j,y1k,y1l,y1m,y1n,y1o,y1p,y1q,y1r,retO,retL,retV,z69,allV,allP,z6a,z6d,z6e,z6k,z6l,z6m,binV,eqV,unV,oOpt,reduceIte,reduceCtorEq,Nat.reduceEqDiff,Nat.reduceAdd,Nat.reduceMul,Nat.reduceLT,Nat.reduceSub,Int.reduceLT,Int.reduceLE,Int.reduceEq,Int.reduceNe,Int.reduceSub,Int.reduceAdd,Int.reduceMul,Int.reduceBEq,Int.reduceBNe,Int.reduceGT,Int.reduceGE,Nat.reduceGT,Int.reduceToNat,Int.reduceNeg,Nat.reduceLeDiff,Nat.reduceBEq,Nat.reduceBneDiff,Value.cells, w1]
    refine ⟨_, by omega, le6, i + 1, v', rfl, hlt, rfl, ?_⟩
    rw [infoF_succ ts i hlt]
    exact ow6
  · have hi1 : ¬ (i : Int) < ts.length := by omega
    have : i = ts.length := by omega
    subst this
    rw [List.take_length] at ow hln
    have cw : hcells H ⟨b2, 0, none⟩ 32 = some (w.map u8V) := by rw [hcells_at (leH _ _ q2) (by simp [hw])]; simp [List.take_of_length_le, hw]
    simp -implicitDefEqProofs only [zB1,zB2,zB3,zB4,zB5,zB6,zB7,zB8,zB9,zB10,zB11,y00,y01,y02,y03,y04,y05,y06,y07,y08,y09,y0a,y0b,y0c,y0d,y0e,y0f,y0g,y0h,y0i,y0j,y0k,y0l,y0m,y0n,y0o,y0p,y0q,y0r,y0s,y0t,y0u,y0v,y0w,y0x,y0y,y0z,y10,y11,y12,y13,y14,y15,y16,y17,y18,y19,y1a,y1b,y1c,y1d,y1e,y1f,y1g,y1h,y1i,y1j,y1k,y1l,y1m,y1n,y1o,y1p,y1q,y1r,retO,retL,retV,z69,allV,allP,z6a,z6d,z6e,z6k,z6l,z6m,binV,eqV,unV,oOpt,reduceIte,reduceCtorEq,Nat.reduceEqDiff,Nat.reduceAdd,Nat.reduceMul,Nat.reduceLT,Nat.reduceSub,Int.reduceLT,Int.reduceLE,Int.reduceEq,Int.reduceNe,Int.reduceSub,Int.reduceAdd,Int.reduceMul,Int.reduceBEq,Int.reduceBNe,Int.reduceGT,Int.reduceGE,Nat.reduceGT,Int.reduceToNat,Int.reduceNeg,Nat.reduceLeDiff,Nat.reduceBEq,Nat.reduceBneDiff,Value.cells, hi1]
    unfold ir_kdf_Key_25
    simp -implicitDefEqProofs only [zB1,zB2,zB3,zB4,zB5,zB6,zB7,zB8,zB9,zB10,zB11,y00,y01,y02,y03,y04,y05,y06,y07,y08,y09,y0a,y0b,y0c,y0d,y0e,y0f,y0g,y0h,y0i,y0j,y0k,y0l,y0m,y0n,y0o,y0p,y0q,y0r,y0s,y0t,y0u,y0v,y0w,y0x,y0y,y0z,y10,y11,y12,y13,y14,y15,y16,y17,y18,y19,y1a,y1b,y1c,y1d,y1e,y1f,y1g,y1h,y1i,y1j,y1k,y1l,y1m,y1n,y1o,y1p,y1q,y1r,retO,retL,retV,z69,allV,allP,z6a,z6d,z6e,z6k,z6l,z6m,binV,eqV,unV,oOpt,reduceIte,reduceCtorEq,Nat.reduceEqDiff,Nat.reduceAdd,Nat.reduceMul,Nat.reduceLT,Nat.reduceSub,Int.reduceLT,Int.reduceLE,Int.reduceEq,Int.reduceNe,Int.reduceSub,Int.reduceAdd,Int.reduceMul,Int.reduceBEq,Int.reduceBNe,Int.reduceGT,Int.reduceGE,Nat.reduceGT,Int.reduceToNat,Int.reduceNeg,Nat.reduceLeDiff,Nat.reduceBEq,Nat.reduceBneDiff,Value.cells, cw]
    refine (kdf_Expand_c E H w (infoF ts) 32 hw (by omega) (by omega) ow.sl).mono ?_
    rintro r H1 ⟨le5, r', rfl, ow5⟩
    have ex := expandF_len w (infoF ts) 32
    generalize expandF w (infoF ts) 32 = X at *
    obtain ⟨b, o, c', rfl, hc, hcl⟩ := ow5.sl.ptr (by omega) (by omega)
    rw [ex, Nat.mul_one] at hcl
    have q5 := le5 _ _ (leH _ _ q4)
    have e1 : ¬ (X.length < 32) := by omega
    have st : storeV H1 32 (.pointer (some ⟨b4, 0, none⟩)) (.agg (X.map u8V).toArray) = some (H1.set b4 (.own 0 (X.map u8V) 32)) := storeV_agg_at q5 (by omega) (by simp [ex]) (one_u8 _) (by simp) (by omega)
    have hl2 : hcells (H1.set b4 (.own 0 (X.map u8V) 32)) ⟨b4, 0, none⟩ 32 = some (X.map u8V) := z6o (by simp [ex])
    simp -implicitDefEqProofs only [zB1,zB2,zB3,zB4,zB5,zB6,zB7,zB8,zB9,zB10,zB11,y00,y01,y02,y03,y04,y05,y06,y07,y08,y09,y0a,y0b,y0c,y0d,y0e,y0f,y0g,y0h,y0i,y0j,y0k,y0l,y0m,y0n,y0o,y0p,y0q,y0r,y0s,y0t,y0u,y0v,y0w,y0x,y0y,y0z,y10,y11,y12,y13,y14,y15,y16,y17,y18,y19,y1a,y1b,y1c,y1d,y1e,y1f,y1g,y1h,y1i,y1j,y1k,y1l,y1m,y1n,y1o,y1p,y1q,y1r,retO,retL,retV,z69,allV,allP,z6a,z6d,z6e,z6k,z6l,z6m,binV,eqV,unV,oOpt,reduceIte,reduceCtorEq,Nat.reduceEqDiff,Nat.reduceAdd,Nat.reduceMul,Nat.reduceLT,Nat.reduceSub,Int.reduceLT,Int.reduceLE,Int.reduceEq,Int.reduceNe,Int.reduceSub,Int.reduceAdd,Int.reduceMul,Int.reduceBEq,Int.reduceBNe,Int.reduceGT,Int.reduceGE,Nat.reduceGT,Int.reduceToNat,Int.reduceNeg,Nat.reduceLeDiff,Nat.reduceBEq,Nat.reduceBneDiff,Value.cells, e1, hcl, st, hl2]
    exact Heap.le_set (Heap.le_trans le2 (Heap.le_trans leH le5)) hb4h _
end Go.Bb
/- Contracts: numbers, the lowest byte first. -/
namespace Go.Bb
set_option linter.unusedSimpArgs false
set_option linter.unusedVariables false
set_option maxRecDepth 20000

def littleF (v : U64) (n : Nat) : List UInt8 := (List.range n).map fun i => UInt8.ofNat (v >>> (8 * i)).toNat
theorem littleF_len (v : U64) (n : Nat) : (littleF v n).length = n := by simp [littleF]
theorem littleF_succ (v : U64) (n : Nat) : littleF v (n + 1) = littleF v n ++ [UInt8.ofNat (v >>> (8 * n)).toNat] := by simp [littleF, List.range_succ]
theorem octet_Little_c (E : EnvT tab) (h : Heap) {b : Value} (l : List UInt8) (hl : l.length ≤ 140737488355000) (s : SlB h b l) (v : U64) (n : Nat) (hn : n ≤ 8) : ACallN E.toEnv n_octet_Little [b, .int .u64 v.toNat, .int .i64 n] h fun r h' => h.le h' ∧ OwB h h' r (l ++ littleF v n) := by
  refine acall h_octet_Little ir_octet_Little rfl rfl (wpA_sound ?_)
  unfold ir_octet_Little
  simp -implicitDefEqProofs only [zB1,zB2,zB3,zB4,zB5,zB6,zB7,zB8,zB9,zB10,zB11,y00,y01,y02,y03,y04,y05,y06,y07,y08,y09,y0a,y0b,y0c,y0d,y0e,y0f,y0g,y0h,y0i,y0j,y0k,y0l,y0m,y0n,y0o,y0p,y0q,y0r,y0s,y0t,y0u,y0v,y0w,y0x,y0y,y0z,y10,y11,y12,y13,y14,y15,y16,y17,y18,y19,y1a,y1b,y1c,y1d,y1e,y1f,y1g,y1h,y1i,y1j,y1k,y1l,y1m,y1n,y1o,y1p,y1q,y1r,retO,retL,retV,z69,allV,allP,z6a,z6d,z6e,z6k,z6l,z6m,binV,eqV,unV,oOpt,reduceIte,reduceCtorEq,Nat.reduceEqDiff,Nat.reduceAdd,Nat.reduceMul,Nat.reduceLT,Nat.reduceSub,Int.reduceLT,Int.reduceLE,Int.reduceEq,Int.reduceNe,Int.reduceSub,Int.reduceAdd,Int.reduceMul,Int.reduceBEq,Int.reduceBNe,Int.reduceGT,Int.reduceGE,Nat.reduceGT,Int.reduceToNat,Int.reduceNeg,Nat.reduceLeDiff,Nat.reduceBEq,Nat.reduceBneDiff,Value.cells]
  refine (Clone_c E h l (by omega) s).mono ?_
  rintro r h1 ⟨le1, ow⟩
  have g1 : ¬ (8 : Int) < n := by omega
  have g2 : ¬ (n : Int) < 0 := by omega
  simp -implicitDefEqProofs only [zB1,zB2,zB3,zB4,zB5,zB6,zB7,zB8,zB9,zB10,zB11,y00,y01,y02,y03,y04,y05,y06,y07,y08,y09,y0a,y0b,y0c,y0d,y0e,y0f,y0g,y0h,y0i,y0j,y0k,y0l,y0m,y0n,y0o,y0p,y0q,y0r,y0s,y0t,y0u,y0v,y0w,y0x,y0y,y0z,y10,y11,y12,y13,y14,y15,y16,y17,y18,y19,y1a,y1b,y1c,y1d,y1e,y1f,y1g,y1h,y1i,y1j,y1k,y1l,y1m,y1n,y1o,y1p,y1q,y1r,retO,retL,retV,z69,allV,allP,z6a,z6d,z6e,z6k,z6l,z6m,binV,eqV,unV,oOpt,reduceIte,reduceCtorEq,Nat.reduceEqDiff,Nat.reduceAdd,Nat.reduceMul,Nat.reduceLT,Nat.reduceSub,Int.reduceLT,Int.reduceLE,Int.reduceEq,Int.reduceNe,Int.reduceSub,Int.reduceAdd,Int.reduceMul,Int.reduceBEq,Int.reduceBNe,Int.reduceGT,Int.reduceGE,Nat.reduceGT,Int.reduceToNat,Int.reduceNeg,Nat.reduceLeDiff,Nat.reduceBEq,Nat.reduceBneDiff,Value.cells, g1, g2]
  refine wp_loop' (fun m t H => h.le H ∧ ∃ (j : Nat) (v7 : Value), t = tl [(1, .int .u64 v.toNat), (7, v7), (13, .int .i64 n), (14, .int .i64 j)] ∧ j ≤ n ∧ m = n - j ∧ OwB h H v7 (l ++ littleF v j)) n
    ⟨le1, 0, _, rfl, by omega, by omega, by simpa [littleF] using ow⟩ ?_
  rintro m t H ⟨leH, j, v7, rfl, hj, rfl, ow'⟩
  by_cases hlt : j < n
  · have e1 : (j : Int) < n := by omega
    have w1 : IntKind.i64.wrap (8 * (j : Int)) = ((8 * j : Nat) : Int) := by rw [wrapI (by omega) (by omega)]; omega
    have w2 : IntKind.i64.wrap ((j : Int) + 1) = ((j + 1 : Nat) : Int) := wrapN (by omega)
    have n1 : ¬ (((8 * j : Nat) : Int) < 0) := by omega
    have sh : ((v.toNat : Int).fdiv (2 ^ (min (8 * j) IntKind.u64.bits))) = ((v >>> (8 * j)).toNat : Int) := u64_shr v (8 * j) (by omega)
    simp -implicitDefEqProofs only [zB1,zB2,zB3,zB4,zB5,zB6,zB7,zB8,zB9,zB10,zB11,y00,y01,y02,y03,y04,y05,y06,y07,y08,y09,y0a,y0b,y0c,y0d,y0e,y0f,y0g,y0h,y0i,y0j,y0k,y0l,y0m,y0n,y0o,y0p,y0q,y0r,y0s,y0t,y0u,y0v,y0w,y0x,y0y,y0z,y10,y11,y12,y13,y14,y15,y16,y17,y18,y19,y1a,y1b,y1c,y1d,y1e,y1f,y1g,y1h,y1i,y1j,y1k,y1l,y1m,y1n,y1o,y1p,y1q,y1r,retO,retL,retV,z69,allV,allP,z6a,z6d,z6e,z6k,z6l,z6m,binV,eqV,unV,oOpt,reduceIte,reduceCtorEq,Nat.reduceEqDiff,Nat.reduceAdd,Nat.reduceMul,Nat.reduceLT,Nat.reduceSub,Int.reduceLT,Int.reduceLE,Int.reduceEq,Int.reduceNe,Int.reduceSub,Int.reduceAdd,Int.reduceMul,Int.reduceBEq,Int.reduceBNe,Int.reduceGT,Int.reduceGE,Nat.reduceGT,Int.reduceToNat,Int.reduceNeg,Nat.reduceLeDiff,Nat.reduceBEq,Nat.reduceBneDiff,Value.cells, e1, w1, n1, Int.toNat_natCast, sh, u64_u8]
    intro b1 hb1
    try simp -implicitDefEqProofs only [zB1,zB2,zB3,zB4,zB5,zB6,zB7,zB8,zB9,zB10,zB11,y00,y01,y02,y03,y04,y05,y06,y07,y08,y09,y0a,y0b,y0c,y0d,y0e,y0f,y0g,y0h,y0i,y0j,y0k,y0l,y0m,y0n,y0o,y0p,y0q,y0r,y0s,y0t,y0u,y0v,y0w,y0x,y0y,y0z,y10,y11,y12,y13,y14,y15,y16,y17,y18,y19,y1a,y1b,y1c,y1d,y1e,y1f,y1g,y1h,y1i,y1j,y1k,y1l,y1m,y1n,y1o,y1p,y1q,y1r,retO,retL,retV,z69,allV,allP,z6a,z6d,z6e,z6k,z6l,z6m,binV,eqV,unV,oOpt,reduceIte,reduceCtorEq,Nat.reduceEqDiff,Nat.reduceAdd,Nat.reduceMul,Nat.reduceLT,Nat.reduceSub,Int.reduceLT,Int.reduceLE,Int.reduceEq,Int.reduceNe,Int.reduceSub,Int.reduceAdd,Int.reduceMul,Int.reduceBEq,Int.reduceBNe,Int.reduceGT,Int.reduceGE,Nat.reduceGT,Int.reduceToNat,Int.reduceNeg,Nat.reduceLeDiff,Nat.reduceBEq,Nat.reduceBneDiff,Value.cells]
    have hlen : (l ++ littleF v j).length = l.length + j := by rw [List.length_append, littleF_len]
    refine appendP_ow (bytes := 1) (m := 1) (news := [u8V (UInt8.ofNat (v >>> (8 * j)).toNat)]) (Heap.le_new leH hb1 _) (by omega) (ow'.le (Heap.le_set (Heap.le_refl _) hb1 _)) (Sl.lit (n := 1) rfl) rfl (by omega) (by omega) ?_
    intro v3 H3 ow3 le3
    simp -implicitDefEqProofs only [zB1,zB2,zB3,zB4,zB5,zB6,zB7,zB8,zB9,zB10,zB11,y00,y01,y02,y03,y04,y05,y06,y07,y08,y09,y0a,y0b,y0c,y0d,y0e,y0f,y0g,y0h,y0i,y0j,y0k,y0l,y0m,y0n,y0o,y0p,y0q,y0r,y0s,y0t,y0u,y0v,y0w,y0x,y0y,y0z,y10,y11,y12,y13,y14,y15,y16,y17,y18,y19,y1a,y1b,y1c,y1d,y1e,y1f,y1g,y1h,y1i,y1j,y1k,y1l,y1m,y1n,y1o,y1p,y1q,y1r,retO,retL,retV,z69,allV,allP,z6a,z6d,z6e,z6k,z6l,z6m,binV,eqV,unV,oOpt,reduceIte,reduceCtorEq,Nat.reduceEqDiff,Nat.reduceAdd,Nat.reduceMul,Nat.reduceLT,Nat.reduceSub,Int.reduceLT,Int.reduceLE,Int.reduceEq,Int.reduceNe,Int.reduceSub,Int.reduceAdd,Int.reduceMul,Int.reduceBEq,Int.reduceBNe,Int.reduceGT,Int.reduceGE,Nat.reduceGT,Int.reduceToNat,Int.reduceNeg,Nat.reduceLeDiff,Nat.reduceBEq,Nat.reduceBneDiff,Value.cells, w2]
    refine ⟨n - (j + 1), by omega, le3, j + 1, v3, rfl, by omega, rfl, ?_⟩
    rw [littleF_succ, ← List.append_assoc]
    unfold OwB
    rw [List.length_append, List.map_append]
    exact ow3
  · have e1 : ¬ (j : Int) < n := by omega
    have : j = n := by omega
    subst this
    simp -implicitDefEqProofs only [zB1,zB2,zB3,zB4,zB5,zB6,zB7,zB8,zB9,zB10,zB11,y00,y01,y02,y03,y04,y05,y06,y07,y08,y09,y0a,y0b,y0c,y0d,y0e,y0f,y0g,y0h,y0i,y0j,y0k,y0l,y0m,y0n,y0o,y0p,y0q,y0r,y0s,y0t,y0u,y0v,y0w,y0x,y0y,y0z,y10,y11,y12,y13,y14,y15,y16,y17,y18,y19,y1a,y1b,y1c,y1d,y1e,y1f,y1g,y1h,y1i,y1j,y1k,y1l,y1m,y1n,y1o,y1p,y1q,y1r,retO,retL,retV,z69,allV,allP,z6a,z6d,z6e,z6k,z6l,z6m,binV,eqV,unV,oOpt,reduceIte,reduceCtorEq,Nat.reduceEqDiff,Nat.reduceAdd,Nat.reduceMul,Nat.reduceLT,Nat.reduceSub,Int.reduceLT,Int.reduceLE,Int.reduceEq,Int.reduceNe,Int.reduceSub,Int.reduceAdd,Int.reduceMul,Int.reduceBEq,Int.reduceBNe,Int.reduceGT,Int.reduceGE,Nat.reduceGT,Int.reduceToNat,Int.reduceNeg,Nat.reduceLeDiff,Nat.reduceBEq,Nat.reduceBneDiff,Value.cells, e1]
    exact ⟨leH, ow'⟩
end Go.Bb
/- Numbers of seventeen digits: plain laws. -/
namespace Go.Bb
set_option linter.unusedSimpArgs false
set_option linter.unusedVariables false

set_option maxRecDepth 20000
abbrev PQ : Nat := 1361129467683753853853498429727072845819
/-! ### the sum -/
/-! ### the carries of a product -/
/-! ### one product more -/
end Go.Bb
/- Contracts: bytes turned round. -/
namespace Go.Bb
set_option linter.unusedSimpArgs false
set_option linter.unusedVariables false
set_option maxRecDepth 20000

/-- A cell of an owned slice is written. -/
theorem Ow.store1 {h0 h : Heap} {b o n c : Nat} {cells : List Value} (s : Ow h0 h 1 (.slice (some ⟨b, o, none⟩) n c) n cells) {i : Nat} (hi : i < n) {v : Value} (hv : one v = true) :
    ∃ h', storeV h 1 (.pointer (some ⟨b, o + i, none⟩)) v = some h' ∧ Ow h0 h' 1 (.slice (some ⟨b, o, none⟩) n c) n (cells.set i v) ∧ (h0.le h → h0.le h') := by
  rcases s with ⟨e, _⟩ | ⟨b', o', c', sz, st, pre, rest, e, hc, hn, hb, ho, hl, hz⟩
  · cases e
  simp only [Value.slice.injEq, Option.some.injEq, Addr.mk.injEq, and_true, true_and] at e
  obtain ⟨⟨rfl, rfl⟩, rfl⟩ := e
  have hv1 : v.cells.toList = [v] := by
    cases v <;> first | rfl | (cases hv; done)
  have hv2 : v.cells.size = 1 := by rw [← Array.length_toList, hv1]; rfl
  have hs : splice (pre ++ cells ++ rest) (o + i - st) [v] = pre ++ cells.set i v ++ rest := by
    have e1 : o + i - st = pre.length + i := by omega
    rw [e1]
    have e2 : splice (pre ++ cells ++ rest) (pre.length + i) [v] = (pre ++ cells ++ rest).set (pre.length + i) v := by
      unfold splice
      rw [List.set_eq_take_append_cons_drop, if_pos (by simp; omega)]
      simp
    rw [e2, List.set_append_left _ _ (by simp; omega), List.set_append_right _ _ (by omega), Nat.add_sub_cancel_left]
  refine ⟨h.set b (.own st (pre ++ cells.set i v ++ rest) sz), ?_, ?_, fun hle => Heap.le_set hle hn _⟩
  · simp only [storeV, hv1, hv2, true_and]
    rw [if_pos (by simp [hv])]
    simp only [hstore, hb]
    rw [if_pos ⟨by omega, by simp; omega, by simp; omega⟩, hs]
  · exact .inr ⟨b, o, c, sz, st, pre, rest, rfl, hc, hn, Heap.set_self _ _ _, ho, by simpa using hl, hz⟩

/-- Bytes, the first i pairs changed. -/
def revI (l : List UInt8) (i k : Nat) : UInt8 := if k < i ∨ l.length ≤ k + i then l.getD (l.length - 1 - k) 0 else l.getD k 0
theorem revI_row (l : List UInt8) (i : Nat) (h : l.length ≤ 2 * i + 1) : row8 (revI l i) l.length = l.reverse.map u8V := by
  have e : row8 (revI l i) l.length = row8 (fun j => l.reverse.getD j 0) l.length := by
    apply row8_congr
    intro k hk
    have hr : l.reverse.getD k 0 = l.getD (l.length - 1 - k) 0 := by
      rw [List.getD_eq_getElem?_getD, List.getD_eq_getElem?_getD, List.getElem?_reverse hk]
    rw [hr]
    unfold revI
    by_cases c : k < i ∨ l.length ≤ k + i
    · rw [if_pos c]
    · rw [if_neg c]
      have : l.length - 1 - k = k := by omega
      rw [this]
  rw [e]
  have := row8_list l.reverse
  rw [List.length_reverse] at this
  exact this
theorem revI_step (l : List UInt8) (i : Nat) (h : 2 * i + 1 < l.length) : ((row8 (revI l i) l.length).set i (.int .u8 (revI l i (l.length - 1 - i)).toNat)).set (l.length - 1 - i) (.int .u8 (revI l i i).toNat) = row8 (revI l (i + 1)) l.length := by
  rw [row8_set, row8_set]
  apply row8_congr
  intro k hk
  have a1 : revI l i i = l.getD i 0 := by unfold revI; rw [if_neg (by omega)]
  have a2 : revI l i (l.length - 1 - i) = l.getD (l.length - 1 - i) 0 := by unfold revI; rw [if_neg (by omega)]
  rw [a1, a2]
  by_cases c1 : k = l.length - 1 - i
  · rw [if_pos c1]
    unfold revI
    rw [if_pos (by omega)]
    congr 1; omega
  · rw [if_neg c1]
    by_cases c2 : k = i
    · rw [if_pos c2]
      unfold revI
      rw [if_pos (by omega), c2]
    · rw [if_neg c2]
      unfold revI
      by_cases c3 : k < i ∨ l.length ≤ k + i
      · rw [if_pos c3, if_pos (by omega)]
      · rw [if_neg c3, if_neg (by omega)]

theorem Sl.cell_at {h : Heap} {b o n c : Nat} {cells : List Value} (s : Sl h 1 (.slice (some ⟨b, o, none⟩) n c) n cells) (j : Nat) (hj : j < n) (hl : j < cells.length) : hcell h ⟨b, o + j, none⟩ = some cells[j] := by
  rcases s with ⟨e, _⟩ | ⟨a, c', e, _, hc⟩
  · cases e
  · simp only [Value.slice.injEq, Option.some.injEq, true_and] at e
    obtain ⟨rfl, _⟩ := e
    rw [hcell_of hc j (by omega)]
    simp [hl]

theorem Reverse_c (E : EnvT tab) {h0 h : Heap} (hle : h0.le h) {v : Value} (l : List UInt8) (hl : l.length ≤ 140737488355328) (s : OwB h0 h v l) : ACallN E.toEnv n_slices_Reverse_byte_byte [v] h fun r h' => h0.le h' ∧ OwB h0 h' v l.reverse := by
  obtain ⟨base, c, rfl⟩ := Sl.shape s.sl
  refine acall h_slices_Reverse_byte_byte ir_slices_Reverse_byte_byte rfl rfl (wpA_sound ?_)
  unfold ir_slices_Reverse_byte_byte
  have w0 : IntKind.i64.wrap ((l.length : Int) - 1) = (l.length : Int) - 1 := wrapI (by omega) (by omega)
  simp -implicitDefEqProofs only [zB1,zB2,zB3,zB4,zB5,zB6,zB7,zB8,zB9,zB10,zB11,y00,y01,y02,y03,y04,y05,y06,y07,y08,y09,y0a,y0b,y0c,y0d,y0e,y0f,y0g,y0h,y0i,y0j,y0k,y0l,y0m,y0n,y0o,y0p,y0q,y0r,y0s,y0t,y0u,y0v,y0w,y0x,y0y,y0z,y10,y11,y12,y13,y14,y15,y16,y17,y18,y19,y1a,y1b,y1c,y1d,y1e,y1f,y1g,y1h,y1i,y1j,y1k,y1l,y1m,y1n,y1o,y1p,y1q,y1r,retO,retL,retV,z69,allV,allP,z6a,z6d,z6e,z6k,z6l,z6m,binV,eqV,unV,oOpt,reduceIte,reduceCtorEq,Nat.reduceEqDiff,Nat.reduceAdd,Nat.reduceMul,Nat.reduceLT,Nat.reduceSub,Int.reduceLT,Int.reduceLE,Int.reduceEq,Int.reduceNe,Int.reduceSub,Int.reduceAdd,Int.reduceMul,Int.reduceBEq,Int.reduceBNe,Int.reduceGT,Int.reduceGE,Nat.reduceGT,Int.reduceToNat,Int.reduceNeg,Nat.reduceLeDiff,Nat.reduceBEq,Nat.reduceBneDiff,Value.cells, w0]
  have hl0 : l.map u8V = row8 (revI l 0) l.length := by
    rw [← row8_list]
    apply row8_congr
    intro k hk
    unfold revI
    rw [if_neg (by omega)]
  unfold OwB at s
  rw [hl0] at s
  refine wp_loop' (fun m t H => h0.le H ∧ ∃ (i : Nat), t = tl [(0, .slice base l.length c), (2, .int .i64 i), (3, .int .i64 ((l.length : Int) - 1 - i))] ∧ m = l.length - i ∧ i ≤ l.length ∧ Ow h0 H 1 (.slice base l.length c) l.length (row8 (revI l i) l.length)) l.length
    ⟨hle, 0, by simp, by omega, by omega, s⟩ ?_
  rintro m t H ⟨leH, i, rfl, rfl, hi, ow⟩
  by_cases hlt : 2 * i + 1 < l.length
  · have g1 : (i : Int) < (l.length : Int) - 1 - i := by omega
    rcases Ow.shape ow with ⟨_, hz, _⟩ | ⟨b, o, c2, hv⟩
    · omega
    simp only [Value.slice.injEq, true_and] at hv
    obtain ⟨rfl, rfl⟩ := hv
    obtain ⟨J, hJ⟩ : ∃ J : Nat, l.length - 1 - i = J := ⟨_, rfl⟩
    have eJ : (l.length : Int) - 1 - i = (J : Int) := by omega
    have cI := Sl.cell_at ow.sl i (by omega) (by rw [row8_len]; omega)
    have cJ := Sl.cell_at ow.sl J (by omega) (by rw [row8_len]; omega)
    rw [row8_get] at cI cJ
    obtain ⟨h1, s1, ow1, le1⟩ := ow.store1 (i := i) (by omega) (v := .int .u8 (revI l i J).toNat) rfl
    obtain ⟨h2, s2, ow2, le2⟩ := ow1.store1 (i := J) (by omega) (v := .int .u8 (revI l i i).toNat) rfl
    have hst := revI_step l i hlt
    rw [hJ] at hst
    rw [hst] at ow2
    have b1 : (i : Int) < l.length := by omega
    have b2 : (0 : Int) ≤ i := by omega
    have b3 : (J : Int) < l.length := by omega
    have b4 : (0 : Int) ≤ J := by omega
    have w1 : IntKind.i64.wrap ((i : Int) + 1) = ((i + 1 : Nat) : Int) := wrapN (by omega)
    have w2 : IntKind.i64.wrap ((J : Int) - 1) = (l.length : Int) - 1 - ((i + 1 : Nat) : Int) := by rw [wrapI (by omega) (by omega)]; omega
    rw [eJ] at g1 ⊢
    simp -implicitDefEqProofs only [zB1,zB2,zB3,zB4,zB5,zB6,zB7,zB8,zB9,zB10,zB11,y00,y01,y02,y03,y04,y05,y06,y07,y08,y09,y0a,y0b,y0c,y0d,y0e,y0f,y0g,y0h,y0i,y0j,y0k,y0l,y0m,y0n,y0o,y0p,y0q,y0r,y0s,y0t,y0u,y0v,y0w,y0x,y0y,y0z,y10,y11,y12,y13,y14,y15,y16,y17,y18,y19,y1a,y1b,y1c,y1d,y1e,y1f,y1g,y1h,y1i,y1j,y1k,y1l,y1m,y1n,y1o,y1p,y1q,y1r,retO,retL,retV,z69,allV,allP,z6a,z6d,z6e,z6k,z6l,z6m,binV,eqV,unV,oOpt,reduceIte,reduceCtorEq,Nat.reduceEqDiff,Nat.reduceAdd,Nat.reduceMul,Nat.reduceLT,Nat.reduceSub,Int.reduceLT,Int.reduceLE,Int.reduceEq,Int.reduceNe,Int.reduceSub,Int.reduceAdd,Int.reduceMul,Int.reduceBEq,Int.reduceBNe,Int.reduceGT,Int.reduceGE,Nat.reduceGT,Int.reduceToNat,Int.reduceNeg,Nat.reduceLeDiff,Nat.reduceBEq,Nat.reduceBneDiff,Value.cells, g1, b1, b2, b3, b4, Int.toNat_natCast, cI, cJ, s1, s2, w1, w2, implies_true]
    refine ⟨l.length - (i + 1), by omega, le2 (le1 leH), i + 1, rfl, rfl, by omega, ow2⟩
  · have g1 : ¬ (i : Int) < (l.length : Int) - 1 - i := by omega
    rw [revI_row l i (by omega)] at ow
    simp -implicitDefEqProofs only [zB1,zB2,zB3,zB4,zB5,zB6,zB7,zB8,zB9,zB10,zB11,y00,y01,y02,y03,y04,y05,y06,y07,y08,y09,y0a,y0b,y0c,y0d,y0e,y0f,y0g,y0h,y0i,y0j,y0k,y0l,y0m,y0n,y0o,y0p,y0q,y0r,y0s,y0t,y0u,y0v,y0w,y0x,y0y,y0z,y10,y11,y12,y13,y14,y15,y16,y17,y18,y19,y1a,y1b,y1c,y1d,y1e,y1f,y1g,y1h,y1i,y1j,y1k,y1l,y1m,y1n,y1o,y1p,y1q,y1r,retO,retL,retV,z69,allV,allP,z6a,z6d,z6e,z6k,z6l,z6m,binV,eqV,unV,oOpt,reduceIte,reduceCtorEq,Nat.reduceEqDiff,Nat.reduceAdd,Nat.reduceMul,Nat.reduceLT,Nat.reduceSub,Int.reduceLT,Int.reduceLE,Int.reduceEq,Int.reduceNe,Int.reduceSub,Int.reduceAdd,Int.reduceMul,Int.reduceBEq,Int.reduceBNe,Int.reduceGT,Int.reduceGE,Nat.reduceGT,Int.reduceToNat,Int.reduceNeg,Nat.reduceLeDiff,Nat.reduceBEq,Nat.reduceBneDiff,Value.cells, g1]
    refine ⟨leH, ?_⟩
    unfold OwB
    rw [List.length_reverse]
    exact ow
end Go.Bb
/- Contracts: products of words. -/
namespace Go.Bb
set_option linter.unusedSimpArgs false
set_option linter.unusedVariables false
set_option maxRecDepth 20000

theorem wrap_u64n {n : Nat} (h : n < 18446744073709551616) : IntKind.u64.wrap (n : Int) = (n : Int) := by
  rw [wrap_u64, ofInt_nat]; simp; omega
theorem wrap_u64m (n : Nat) : IntKind.u64.wrap (n : Int) = ((n % 18446744073709551616 : Nat) : Int) := by
  rw [wrap_u64, ofInt_nat]; simp
theorem and_low (a : Nat) : IntKind.u64.wrap ((BitVec.ofInt IntKind.u64.bits (a : Int) &&& BitVec.ofInt IntKind.u64.bits 4294967295).toNat : Int) = ((a % 4294967296 : Nat) : Int) := by
  have e : (BitVec.ofInt IntKind.u64.bits (a : Int) &&& BitVec.ofInt IntKind.u64.bits 4294967295).toNat = a % 4294967296 := by
    rw [show IntKind.u64.bits = 64 from rfl, show BitVec.ofInt 64 4294967295 = BitVec.ofNat 64 (2 ^ 32 - 1) from rfl, ofInt_nat, BitVec.toNat_and, BitVec.toNat_ofNat, BitVec.toNat_ofNat]
    rw [Nat.mod_eq_of_lt (show 2 ^ 32 - 1 < 2 ^ 64 by decide), Nat.and_two_pow_sub_one_eq_mod]
    omega
  rw [e]
  exact wrap_u64n (by omega)
theorem shr_32 (a : Nat) : (a : Int).fdiv (2 ^ (min (Int.toNat 32) IntKind.u64.bits)) = ((a / 4294967296 : Nat) : Int) := by
  rw [show min (Int.toNat 32) IntKind.u64.bits = 32 from rfl, Int.fdiv_eq_ediv_of_nonneg _ (by decide)]
  simp
theorem shr_32' (a : Nat) : (a : Int).fdiv (2 ^ (min 32 IntKind.u64.bits)) = ((a / 4294967296 : Nat) : Int) := shr_32 a

theorem mul_parts (x1 x0 y1 y0 : Nat) (hx : x0 < 4294967296) (hy : y0 < 4294967296) :
    x1 * y1 + (x1 * y0 + x0 * y0 / 4294967296) / 4294967296 + ((x1 * y0 + x0 * y0 / 4294967296) % 4294967296 + x0 * y1) / 4294967296 = (x1 * 4294967296 + x0) * (y1 * 4294967296 + y0) / 18446744073709551616 := by
  have e : (x1 * 4294967296 + x0) * (y1 * 4294967296 + y0) = x1 * y1 * 18446744073709551616 + (x1 * y0 + x0 * y1) * 4294967296 + x0 * y0 := by
    rw [Nat.add_mul, Nat.mul_add, Nat.mul_add]
    have h1 : x1 * 4294967296 * (y1 * 4294967296) = x1 * y1 * 18446744073709551616 := by
      rw [Nat.mul_mul_mul_comm]
    have h2 : x1 * 4294967296 * y0 = x1 * y0 * 4294967296 := by rw [Nat.mul_right_comm]
    have h3 : x0 * (y1 * 4294967296) = x0 * y1 * 4294967296 := by rw [Nat.mul_assoc]
    rw [h1, h2, h3, Nat.add_mul]
    omega
  rw [e]
  generalize x1 * y1 = A
  generalize x1 * y0 = B
  generalize x0 * y1 = C
  generalize x0 * y0 = D
  omega

theorem Mul64_c (E : EnvT tab) (h : Heap) (a b : Nat) (ha : a < 18446744073709551616) (hb : b < 18446744073709551616) :
    ACallN E.toEnv n_math_bits_Mul64 [.int .u64 a, .int .u64 b] h fun r h' => h' = h ∧ r = .tuple #[.int .u64 ((a * b / 18446744073709551616 : Nat) : Int), .int .u64 ((a * b % 18446744073709551616 : Nat) : Int)] := by
  refine acall h_math_bits_Mul64 ir_math_bits_Mul64 rfl rfl (wpA_sound ?_)
  unfold ir_math_bits_Mul64
  have hx0 : a % 4294967296 < 4294967296 := Nat.mod_lt _ (by decide)
  have hy0 : b % 4294967296 < 4294967296 := Nat.mod_lt _ (by decide)
  have hx1 : a / 4294967296 < 4294967296 := by omega
  have hy1 : b / 4294967296 < 4294967296 := by omega
  have key := mul_parts (a / 4294967296) (a % 4294967296) (b / 4294967296) (b % 4294967296) hx0 hy0
  rw [show a / 4294967296 * 4294967296 + a % 4294967296 = a from by omega, show b / 4294967296 * 4294967296 + b % 4294967296 = b from by omega] at key
  have lo : IntKind.u64.wrap ((a : Int) * b) = ((a * b % 18446744073709551616 : Nat) : Int) := by rw [← Int.natCast_mul, wrap_u64m]
  simp -implicitDefEqProofs only [zB1,zB2,zB3,zB4,zB5,zB6,zB7,zB8,zB9,zB10,zB11,y00,y01,y02,y03,y04,y05,y06,y07,y08,y09,y0a,y0b,y0c,y0d,y0e,y0f,y0g,y0h,y0i,y0j,y0k,y0l,y0m,y0n,y0o,y0p,y0q,y0r,y0s,y0t,y0u,y0v,y0w,y0x,y0y,y0z,y10,y11,y12,y13,y14,y15,y16,y17,y18,y19,y1a,y1b,y1c,y1d,y1e,y1f,y1g,y1h,y1i,y1j,y1k,y1l,y1m,y1n,y1o,y1p,y1q,y1r,retO,retL,retV,z69,allV,allP,z6a,z6d,z6e,z6k,z6l,z6m,binV,eqV,unV,oOpt,reduceIte,reduceCtorEq,Nat.reduceEqDiff,Nat.reduceAdd,Nat.reduceMul,Nat.reduceLT,Nat.reduceSub,Int.reduceLT,Int.reduceLE,Int.reduceEq,Int.reduceNe,Int.reduceSub,Int.reduceAdd,Int.reduceMul,Int.reduceBEq,Int.reduceBNe,Int.reduceGT,Int.reduceGE,Nat.reduceGT,Int.reduceToNat,Int.reduceNeg,Nat.reduceLeDiff,Nat.reduceBEq,Nat.reduceBneDiff,Value.cells, and_low, shr_32, shr_32']
  generalize a / 4294967296 = x1 at *
  generalize a % 4294967296 = x0 at *
  generalize b / 4294967296 = y1 at *
  generalize b % 4294967296 = y0 at *
  have bd : ∀ x y : Nat, x < 4294967296 → y < 4294967296 → x * y ≤ 18446744065119617025 := fun x y h1 h2 => by
    have := Nat.mul_le_mul (show x ≤ 4294967295 by omega) (show y ≤ 4294967295 by omega)
    simpa using this
  have b00 := bd x0 y0 hx0 hy0
  have b10 := bd x1 y0 hx1 hy0
  have b01 := bd x0 y1 hx0 hy1
  have b11 := bd x1 y1 hx1 hy1
  have pr : ∀ x y : Nat, x * y ≤ 18446744065119617025 → IntKind.u64.wrap ((x : Int) * (y : Int)) = ((x * y : Nat) : Int) := fun x y h => by rw [← Int.natCast_mul]; exact wrap_u64n (by omega)
  have ad : ∀ x y : Nat, x + y < 18446744073709551616 → IntKind.u64.wrap ((x : Int) + (y : Int)) = ((x + y : Nat) : Int) := fun x y h => by rw [← Int.natCast_add]; exact wrap_u64n h
  rw [pr _ _ b00, pr _ _ b10, pr _ _ b01, pr _ _ b11, lo]
  generalize x0 * y0 = p00 at *
  generalize x1 * y0 = p10 at *
  generalize x0 * y1 = p01 at *
  generalize x1 * y1 = p11 at *
  have s1 := shr_32' p00
  rw [s1, ad p10 (p00 / 4294967296) (by omega)]
  rw [shr_32', and_low, ad _ p01 (by omega), shr_32', ad p11 _ (by omega), ad _ _ (by omega), key]
end Go.Bb
/- Contracts: numbers of three words. -/
namespace Go.Bb
set_option linter.unusedSimpArgs false
set_option linter.unusedVariables false
set_option maxRecDepth 20000

/-- A number of three words. -/
structure N3 where
  a : Nat
  b : Nat
  c : Nat
def N3.ok (x : N3) : Prop := x.a < 18446744073709551616 ∧ x.b < 18446744073709551616 ∧ x.c < 18446744073709551616
def N3.val (x : N3) : Nat := x.a + 18446744073709551616 * x.b + 340282366920938463463374607431768211456 * x.c
def N3.cells (x : N3) : List Value := [.int .u64 (x.a : Int), .int .u64 (x.b : Int), .int .u64 (x.c : Int)]
def N3.V (x : N3) : Value := .agg x.cells.toArray
def N3.plus (x y : N3) : N3 :=
  ⟨(x.a + y.a) % 18446744073709551616, (x.b + y.b + (x.a + y.a) / 18446744073709551616) % 18446744073709551616, (x.c + (y.c + (x.b + y.b + (x.a + y.a) / 18446744073709551616) / 18446744073709551616) % 18446744073709551616) % 18446744073709551616⟩
theorem N3.plus_ok (x y : N3) : (x.plus y).ok := ⟨Nat.mod_lt _ (by decide), Nat.mod_lt _ (by decide), Nat.mod_lt _ (by decide)⟩
theorem N3.plus_val (x y : N3) : (x.plus y).val = (x.val + y.val) % 6277101735386680763835789423207666416102355444464034512896 := by
  unfold N3.plus N3.val
  simp only
  omega

theorem add64_0 (x y : Nat) : primV .add64 [.int .u64 (x : Int), .int .u64 (y : Int), .int .u64 0] = some (.tuple #[.int .u64 (((x + y) % 18446744073709551616 : Nat) : Int), .int .u64 (((x + y) / 18446744073709551616 : Nat) : Int)]) := by
  simp [primV]
theorem add64_c (x y c : Nat) (hc : c ≤ 1) : primV .add64 [.int .u64 (x : Int), .int .u64 (y : Int), .int .u64 (c : Int)] = some (.tuple #[.int .u64 (((x + y + c) % 18446744073709551616 : Nat) : Int), .int .u64 (((x + y + c) / 18446744073709551616 : Nat) : Int)]) := by
  have : (c : Int) = 0 ∨ (c : Int) = 1 := by omega
  simp only [primV, if_pos this, Int.toNat_natCast]

theorem num_plus_c (E : EnvT tab) (h : Heap) (x y : N3) (hx : x.ok) (hy : y.ok) : ACallN E.toEnv n_poly_num_plus [x.V, y.V] h fun r h' => h.le h' ∧ r = (x.plus y).V := by
  obtain ⟨x0, x1, x2⟩ := x
  obtain ⟨y0, y1, y2⟩ := y
  obtain ⟨hx0, hx1, hx2⟩ := hx
  obtain ⟨hy0, hy1, hy2⟩ := hy
  simp only at hx0 hx1 hx2 hy0 hy1 hy2
  refine acall h_poly_num_plus ir_poly_num_plus rfl rfl (wpA_sound ?_)
  unfold ir_poly_num_plus N3.V N3.cells
  have c1 : (((x0 + y0) / 18446744073709551616 : Nat) : Int) = 0 ∨ (((x0 + y0) / 18446744073709551616 : Nat) : Int) = 1 := by omega
  have w1 : IntKind.u64.wrap ((y2 : Int) + (((x1 + y1 + (x0 + y0) / 18446744073709551616) / 18446744073709551616 : Nat) : Int)) = (((y2 + (x1 + y1 + (x0 + y0) / 18446744073709551616) / 18446744073709551616) % 18446744073709551616 : Nat) : Int) := by rw [← Int.natCast_add, wrap_u64m]
  have w2 : IntKind.u64.wrap ((x2 : Int) + (((y2 + (x1 + y1 + (x0 + y0) / 18446744073709551616) / 18446744073709551616) % 18446744073709551616 : Nat) : Int)) = (((x2 + (y2 + (x1 + y1 + (x0 + y0) / 18446744073709551616) / 18446744073709551616) % 18446744073709551616) % 18446744073709551616 : Nat) : Int) := by rw [← Int.natCast_add, wrap_u64m]
  simp -implicitDefEqProofs only [zB1,zB2,zB3,zB4,zB5,zB6,zB7,zB8,zB9,zB10,zB11,y00,y01,y02,y03,y04,y05,y06,y07,y08,y09,y0a,y0b,y0c,y0d,y0e,y0f,y0g,y0h,y0i,y0j,y0k,y0l,y0m,y0n,y0o,y0p,y0q,y0r,y0s,y0t,y0u,y0v,y0w,y0x,y0y,y0z,y10,y11,y12,y13,y14,y15,y16,y17,y18,y19,y1a,y1b,y1c,y1d,y1e,y1f,y1g,y1h,y1i,y1j,y1k,y1l,y1m,y1n,y1o,y1p,y1q,y1r,retO,retL,retV,z69,allV,allP,z6a,z6d,z6e,z6k,z6l,z6m,binV,eqV,unV,oOpt,reduceIte,reduceCtorEq,Nat.reduceEqDiff,Nat.reduceAdd,Nat.reduceMul,Nat.reduceLT,Nat.reduceSub,Int.reduceLT,Int.reduceLE,Int.reduceEq,Int.reduceNe,Int.reduceSub,Int.reduceAdd,Int.reduceMul,Int.reduceBEq,Int.reduceBNe,Int.reduceGT,Int.reduceGE,Nat.reduceGT,Int.reduceToNat,Int.reduceNeg,Nat.reduceLeDiff,Nat.reduceBEq,Nat.reduceBneDiff,Value.cells]
  intro b2 hb2 b3 hb3 b4 hb4
  try simp -implicitDefEqProofs only [zB1,zB2,zB3,zB4,zB5,zB6,zB7,zB8,zB9,zB10,zB11,y00,y01,y02,y03,y04,y05,y06,y07,y08,y09,y0a,y0b,y0c,y0d,y0e,y0f,y0g,y0h,y0i,y0j,y0k,y0l,y0m,y0n,y0o,y0p,y0q,y0r,y0s,y0t,y0u,y0v,y0w,y0x,y0y,y0z,y10,y11,y12,y13,y14,y15,y16,y17,y18,y19,y1a,y1b,y1c,y1d,y1e,y1f,y1g,y1h,y1i,y1j,y1k,y1l,y1m,y1n,y1o,y1p,y1q,y1r,retO,retL,retV,z69,allV,allP,z6a,z6d,z6e,z6k,z6l,z6m,binV,eqV,unV,oOpt,reduceIte,reduceCtorEq,Nat.reduceEqDiff,Nat.reduceAdd,Nat.reduceMul,Nat.reduceLT,Nat.reduceSub,Int.reduceLT,Int.reduceLE,Int.reduceEq,Int.reduceNe,Int.reduceSub,Int.reduceAdd,Int.reduceMul,Int.reduceBEq,Int.reduceBNe,Int.reduceGT,Int.reduceGE,Nat.reduceGT,Int.reduceToNat,Int.reduceNeg,Nat.reduceLeDiff,Nat.reduceBEq,Nat.reduceBneDiff,Value.cells]
  have q32 : b3 ≠ b2 := (Heap.set_none.1 hb3).1
  have q43 : b4 ≠ b3 := (Heap.set_none.1 hb4).1
  have hb4' := (Heap.set_none.1 hb4).2
  have q42 : b4 ≠ b2 := (Heap.set_none.1 hb4').1
  have f2 := fun {x : Blk} {H : Heap} {off : Nat} {s : Option Nat} => hcell_ne (h := H) (x := x) (off := off) (s := s) (Ne.symm q42)
  have f3 := fun {x : Blk} {H : Heap} {off : Nat} {s : Option Nat} => hcell_ne (h := H) (x := x) (off := off) (s := s) (Ne.symm q32)
  have f4 := fun {x : Blk} {H : Heap} {off : Nat} {s : Option Nat} => hcell_ne (h := H) (x := x) (off := off) (s := s) (Ne.symm q43)
  have g2 := fun {x : Blk} {H : Heap} {off n : Nat} {s : Option Nat} => hcells_ne (h := H) (x := x) (off := off) (n := n) (s := s) (Ne.symm q42)
  have g3 := fun {x : Blk} {H : Heap} {off n : Nat} {s : Option Nat} => hcells_ne (h := H) (x := x) (off := off) (n := n) (s := s) (Ne.symm q32)
  have t2 := fun {x : Blk} {H : Heap} {off size : Nat} {v : Value} {s : Option Nat} => storeV_ne (h := H) (x := x) (off := off) (size := size) (v := v) (s := s) (Ne.symm q42)
  have t3 := fun {x : Blk} {H : Heap} {off size : Nat} {v : Value} {s : Option Nat} => storeV_ne (h := H) (x := x) (off := off) (size := size) (v := v) (s := s) (Ne.symm q32)
  have st4 : ∀ (H : Heap) (us : List Value), us.length = 3 → us.all one = true → storeV (H.set b4 (.own 0 [.int .u64 0, .int .u64 0, .int .u64 0] 3)) 3 (.pointer (some ⟨b4, 0, none⟩)) (.agg us.toArray) = some (H.set b4 (.own 0 us 3)) := fun H us h1 h2 => z6q (by omega) h1 h2 rfl (by omega)
  have st4 := fun H (a b c : Int) => st4 H [.int .u64 a, .int .u64 b, .int .u64 c] rfl rfl
  have p1 := add64_0 x0 y0
  have p2 := add64_c x1 y1 ((x0 + y0) / 18446744073709551616) (by omega)
  simp -implicitDefEqProofs only [zB1,zB2,zB3,zB4,zB5,zB6,zB7,zB8,zB9,zB10,zB11,y00,y01,y02,y03,y04,y05,y06,y07,y08,y09,y0a,y0b,y0c,y0d,y0e,y0f,y0g,y0h,y0i,y0j,y0k,y0l,y0m,y0n,y0o,y0p,y0q,y0r,y0s,y0t,y0u,y0v,y0w,y0x,y0y,y0z,y10,y11,y12,y13,y14,y15,y16,y17,y18,y19,y1a,y1b,y1c,y1d,y1e,y1f,y1g,y1h,y1i,y1j,y1k,y1l,y1m,y1n,y1o,y1p,y1q,y1r,retO,retL,retV,z69,allV,allP,z6a,z6d,z6e,z6k,z6l,z6m,binV,eqV,unV,oOpt,reduceIte,reduceCtorEq,Nat.reduceEqDiff,Nat.reduceAdd,Nat.reduceMul,Nat.reduceLT,Nat.reduceSub,Int.reduceLT,Int.reduceLE,Int.reduceEq,Int.reduceNe,Int.reduceSub,Int.reduceAdd,Int.reduceMul,Int.reduceBEq,Int.reduceBNe,Int.reduceGT,Int.reduceGE,Nat.reduceGT,Int.reduceToNat,Int.reduceNeg,Nat.reduceLeDiff,Nat.reduceBEq,Nat.reduceBneDiff,Value.cells, f2, f3, f4, g2, g3, t2, t3, st4, Int.toNat_natCast, p1, p2, w1, w2]
  exact ⟨Heap.le_set (Heap.le_set (Heap.le_set (Heap.le_refl _) hb2 _) (Heap.set_none.1 hb3).2 _) (Heap.set_none.1 hb4').2 _, rfl⟩

theorem N3.ok2 (a b : Nat) (h : a * b < 340282366920938463463374607431768211456) : (⟨a * b % 18446744073709551616, a * b / 18446744073709551616, 0⟩ : N3).ok := ⟨Nat.mod_lt _ (by decide), by
  simp only
  generalize a * b = x at *
  omega, by simp⟩
theorem mul_lt {a b : Nat} (ha : a < 18446744073709551616) (hb : b < 18446744073709551616) : a * b < 340282366920938463463374607431768211456 := by
  have := Nat.mul_le_mul (show a ≤ 18446744073709551615 by omega) (show b ≤ 18446744073709551615 by omega)
  omega
def N3.col (s : N3) (a b : Nat) : N3 := s.plus ⟨a * b % 18446744073709551616, a * b / 18446744073709551616, 0⟩
theorem N3.col_ok (s : N3) (a b : Nat) : (s.col a b).ok := N3.plus_ok _ _
theorem store3 {H : Heap} {b : Nat} {old : List Value} (x : N3) (h : H b = some (.own 0 old 3)) (hl : old.length = 3) : storeV H 3 (.pointer (some ⟨b, 0, none⟩)) x.V = some (H.set b (.own 0 x.cells 3)) := by
  unfold N3.V; exact storeV_agg_at h (by omega) rfl rfl hl (by omega)

theorem column_c (E : EnvT tab) (h : Heap) (s : N3) (a b : Nat) (hs : s.ok) (ha : a < 18446744073709551616) (hb : b < 18446744073709551616) :
    ACallN E.toEnv n_poly_column [s.V, .int .u64 (a : Int), .int .u64 (b : Int)] h fun r h' => h.le h' ∧ r = (s.col a b).V := by
  obtain ⟨s0, s1, s2⟩ := s
  refine acall h_poly_column ir_poly_column rfl rfl (wpA_sound ?_)
  unfold ir_poly_column N3.V N3.cells
  simp -implicitDefEqProofs only [zB1,zB2,zB3,zB4,zB5,zB6,zB7,zB8,zB9,zB10,zB11,y00,y01,y02,y03,y04,y05,y06,y07,y08,y09,y0a,y0b,y0c,y0d,y0e,y0f,y0g,y0h,y0i,y0j,y0k,y0l,y0m,y0n,y0o,y0p,y0q,y0r,y0s,y0t,y0u,y0v,y0w,y0x,y0y,y0z,y10,y11,y12,y13,y14,y15,y16,y17,y18,y19,y1a,y1b,y1c,y1d,y1e,y1f,y1g,y1h,y1i,y1j,y1k,y1l,y1m,y1n,y1o,y1p,y1q,y1r,retO,retL,retV,z69,allV,allP,z6a,z6d,z6e,z6k,z6l,z6m,binV,eqV,unV,oOpt,reduceIte,reduceCtorEq,Nat.reduceEqDiff,Nat.reduceAdd,Nat.reduceMul,Nat.reduceLT,Nat.reduceSub,Int.reduceLT,Int.reduceLE,Int.reduceEq,Int.reduceNe,Int.reduceSub,Int.reduceAdd,Int.reduceMul,Int.reduceBEq,Int.reduceBNe,Int.reduceGT,Int.reduceGE,Nat.reduceGT,Int.reduceToNat,Int.reduceNeg,Nat.reduceLeDiff,Nat.reduceBEq,Nat.reduceBneDiff,Value.cells]
  intro b3 hb3 b6 hb6
  try simp -implicitDefEqProofs only [zB1,zB2,zB3,zB4,zB5,zB6,zB7,zB8,zB9,zB10,zB11,y00,y01,y02,y03,y04,y05,y06,y07,y08,y09,y0a,y0b,y0c,y0d,y0e,y0f,y0g,y0h,y0i,y0j,y0k,y0l,y0m,y0n,y0o,y0p,y0q,y0r,y0s,y0t,y0u,y0v,y0w,y0x,y0y,y0z,y10,y11,y12,y13,y14,y15,y16,y17,y18,y19,y1a,y1b,y1c,y1d,y1e,y1f,y1g,y1h,y1i,y1j,y1k,y1l,y1m,y1n,y1o,y1p,y1q,y1r,retO,retL,retV,z69,allV,allP,z6a,z6d,z6e,z6k,z6l,z6m,binV,eqV,unV,oOpt,reduceIte,reduceCtorEq,Nat.reduceEqDiff,Nat.reduceAdd,Nat.reduceMul,Nat.reduceLT,Nat.reduceSub,Int.reduceLT,Int.reduceLE,Int.reduceEq,Int.reduceNe,Int.reduceSub,Int.reduceAdd,Int.reduceMul,Int.reduceBEq,Int.reduceBNe,Int.reduceGT,Int.reduceGE,Nat.reduceGT,Int.reduceToNat,Int.reduceNeg,Nat.reduceLeDiff,Nat.reduceBEq,Nat.reduceBneDiff,Value.cells]
  have n63 := (Heap.set_none.1 hb6).1
  have hb6' := (Heap.set_none.1 hb6).2
  have le1 : h.le ((h.set b3 (.own 0 [.int .u64 (s0 : Int), .int .u64 (s1 : Int), .int .u64 (s2 : Int)] 3)).set b6 (.own 0 [.int .u64 0, .int .u64 0, .int .u64 0] 3)) := Heap.le_set (Heap.le_set (Heap.le_refl _) hb3 _) hb6' _
  have q6 : ((h.set b3 (.own 0 [.int .u64 (s0 : Int), .int .u64 (s1 : Int), .int .u64 (s2 : Int)] 3)).set b6 (.own 0 [.int .u64 0, .int .u64 0, .int .u64 0] 3)) b6 = some (.own 0 [.int .u64 0, .int .u64 0, .int .u64 0] 3) := Heap.set_self _ _ _
  have q3 : hcells ((h.set b3 (.own 0 [.int .u64 (s0 : Int), .int .u64 (s1 : Int), .int .u64 (s2 : Int)] 3)).set b6 (.own 0 [.int .u64 0, .int .u64 0, .int .u64 0] 3)) ⟨b3, 0, none⟩ 3 = some [.int .u64 (s0 : Int), .int .u64 (s1 : Int), .int .u64 (s2 : Int)] := by rw [hcells_ne (Ne.symm n63)]; exact z6o rfl
  generalize ((h.set b3 (.own 0 [.int .u64 (s0 : Int), .int .u64 (s1 : Int), .int .u64 (s2 : Int)] 3)).set b6 (.own 0 [.int .u64 0, .int .u64 0, .int .u64 0] 3)) = h1 at le1 q6 q3
  refine (Mul64_c E _ a b ha hb).mono ?_
  rintro r h' ⟨rfl, rfl⟩
  simp -implicitDefEqProofs only [zB1,zB2,zB3,zB4,zB5,zB6,zB7,zB8,zB9,zB10,zB11,y00,y01,y02,y03,y04,y05,y06,y07,y08,y09,y0a,y0b,y0c,y0d,y0e,y0f,y0g,y0h,y0i,y0j,y0k,y0l,y0m,y0n,y0o,y0p,y0q,y0r,y0s,y0t,y0u,y0v,y0w,y0x,y0y,y0z,y10,y11,y12,y13,y14,y15,y16,y17,y18,y19,y1a,y1b,y1c,y1d,y1e,y1f,y1g,y1h,y1i,y1j,y1k,y1l,y1m,y1n,y1o,y1p,y1q,y1r,retO,retL,retV,z69,allV,allP,z6a,z6d,z6e,z6k,z6l,z6m,binV,eqV,unV,oOpt,reduceIte,reduceCtorEq,Nat.reduceEqDiff,Nat.reduceAdd,Nat.reduceMul,Nat.reduceLT,Nat.reduceSub,Int.reduceLT,Int.reduceLE,Int.reduceEq,Int.reduceNe,Int.reduceSub,Int.reduceAdd,Int.reduceMul,Int.reduceBEq,Int.reduceBNe,Int.reduceGT,Int.reduceGE,Nat.reduceGT,Int.reduceToNat,Int.reduceNeg,Nat.reduceLeDiff,Nat.reduceBEq,Nat.reduceBneDiff,Value.cells, q3]
  refine (num_plus_c E h' ⟨s0, s1, s2⟩ ⟨a * b % 18446744073709551616, a * b / 18446744073709551616, 0⟩ hs (N3.ok2 a b (mul_lt ha hb))).mono ?_
  rintro r h2 ⟨le2, rfl⟩
  have st := store3 (((⟨s0, s1, s2⟩ : N3)).plus ⟨a * b % 18446744073709551616, a * b / 18446744073709551616, 0⟩) (le2 _ _ q6) rfl
  have hl := z6o (h := h2) (b := b6) (vs := (((⟨s0, s1, s2⟩ : N3)).plus ⟨a * b % 18446744073709551616, a * b / 18446744073709551616, 0⟩).cells) (sz := 3) (n := 3) rfl
  simp -implicitDefEqProofs only [zB1,zB2,zB3,zB4,zB5,zB6,zB7,zB8,zB9,zB10,zB11,y00,y01,y02,y03,y04,y05,y06,y07,y08,y09,y0a,y0b,y0c,y0d,y0e,y0f,y0g,y0h,y0i,y0j,y0k,y0l,y0m,y0n,y0o,y0p,y0q,y0r,y0s,y0t,y0u,y0v,y0w,y0x,y0y,y0z,y10,y11,y12,y13,y14,y15,y16,y17,y18,y19,y1a,y1b,y1c,y1d,y1e,y1f,y1g,y1h,y1i,y1j,y1k,y1l,y1m,y1n,y1o,y1p,y1q,y1r,retO,retL,retV,z69,allV,allP,z6a,z6d,z6e,z6k,z6l,z6m,binV,eqV,unV,oOpt,reduceIte,reduceCtorEq,Nat.reduceEqDiff,Nat.reduceAdd,Nat.reduceMul,Nat.reduceLT,Nat.reduceSub,Int.reduceLT,Int.reduceLE,Int.reduceEq,Int.reduceNe,Int.reduceSub,Int.reduceAdd,Int.reduceMul,Int.reduceBEq,Int.reduceBNe,Int.reduceGT,Int.reduceGE,Nat.reduceGT,Int.reduceToNat,Int.reduceNeg,Nat.reduceLeDiff,Nat.reduceBEq,Nat.reduceBneDiff,Value.cells, st, hl]
  exact ⟨Heap.le_set (Heap.le_trans le1 le2) hb6' _, rfl⟩
end Go.Bb
/- Contracts: numbers of three words, cut. -/
namespace Go.Bb
set_option linter.unusedSimpArgs false
set_option linter.unusedVariables false
set_option maxRecDepth 20000

theorem and_3 (a : Nat) : IntKind.u64.wrap ((BitVec.ofInt IntKind.u64.bits (a : Int) &&& BitVec.ofInt IntKind.u64.bits 3).toNat : Int) = ((a % 4 : Nat) : Int) := by
  have e : (BitVec.ofInt IntKind.u64.bits (a : Int) &&& BitVec.ofInt IntKind.u64.bits 3).toNat = a % 4 := by
    rw [show IntKind.u64.bits = 64 from rfl, show BitVec.ofInt 64 3 = BitVec.ofNat 64 (2 ^ 2 - 1) from rfl, ofInt_nat, BitVec.toNat_and, BitVec.toNat_ofNat, BitVec.toNat_ofNat]
    rw [Nat.mod_eq_of_lt (show 2 ^ 2 - 1 < 2 ^ 64 by decide), Nat.and_two_pow_sub_one_eq_mod]
    omega
  rw [e]
  exact wrap_u64n (by omega)
theorem shr_2 (a : Nat) : (a : Int).fdiv (2 ^ (min (Int.toNat 2) IntKind.u64.bits)) = ((a / 4 : Nat) : Int) := by
  rw [show min (Int.toNat 2) IntKind.u64.bits = 2 from rfl, Int.fdiv_eq_ediv_of_nonneg _ (by decide)]
  simp
theorem shr_2' (a : Nat) : (a : Int).fdiv (2 ^ (min 2 IntKind.u64.bits)) = ((a / 4 : Nat) : Int) := shr_2 a

def N3.cut (x : N3) : N3 := (⟨x.a, x.b, x.c % 4⟩ : N3).plus ⟨x.c / 4 * 5 % 18446744073709551616, x.c / 4 * 5 / 18446744073709551616, 0⟩
theorem N3.cut_ok (x : N3) : x.cut.ok := N3.plus_ok _ _
theorem num_cut_c (E : EnvT tab) (h : Heap) (x : N3) (hx : x.ok) : ACallN E.toEnv n_poly_num_cut [x.V] h fun r h' => h.le h' ∧ r = x.cut.V := by
  obtain ⟨s0, s1, s2⟩ := x
  obtain ⟨k0, k1, k2⟩ := hx
  simp only at k0 k1 k2
  refine acall h_poly_num_cut ir_poly_num_cut rfl rfl (wpA_sound ?_)
  unfold ir_poly_num_cut N3.V N3.cells
  simp -implicitDefEqProofs only [zB1,zB2,zB3,zB4,zB5,zB6,zB7,zB8,zB9,zB10,zB11,y00,y01,y02,y03,y04,y05,y06,y07,y08,y09,y0a,y0b,y0c,y0d,y0e,y0f,y0g,y0h,y0i,y0j,y0k,y0l,y0m,y0n,y0o,y0p,y0q,y0r,y0s,y0t,y0u,y0v,y0w,y0x,y0y,y0z,y10,y11,y12,y13,y14,y15,y16,y17,y18,y19,y1a,y1b,y1c,y1d,y1e,y1f,y1g,y1h,y1i,y1j,y1k,y1l,y1m,y1n,y1o,y1p,y1q,y1r,retO,retL,retV,z69,allV,allP,z6a,z6d,z6e,z6k,z6l,z6m,binV,eqV,unV,oOpt,reduceIte,reduceCtorEq,Nat.reduceEqDiff,Nat.reduceAdd,Nat.reduceMul,Nat.reduceLT,Nat.reduceSub,Int.reduceLT,Int.reduceLE,Int.reduceEq,Int.reduceNe,Int.reduceSub,Int.reduceAdd,Int.reduceMul,Int.reduceBEq,Int.reduceBNe,Int.reduceGT,Int.reduceGE,Nat.reduceGT,Int.reduceToNat,Int.reduceNeg,Nat.reduceLeDiff,Nat.reduceBEq,Nat.reduceBneDiff,Value.cells]
  intro b3 hb3 b6 hb6
  try simp -implicitDefEqProofs only [zB1,zB2,zB3,zB4,zB5,zB6,zB7,zB8,zB9,zB10,zB11,y00,y01,y02,y03,y04,y05,y06,y07,y08,y09,y0a,y0b,y0c,y0d,y0e,y0f,y0g,y0h,y0i,y0j,y0k,y0l,y0m,y0n,y0o,y0p,y0q,y0r,y0s,y0t,y0u,y0v,y0w,y0x,y0y,y0z,y10,y11,y12,y13,y14,y15,y16,y17,y18,y19,y1a,y1b,y1c,y1d,y1e,y1f,y1g,y1h,y1i,y1j,y1k,y1l,y1m,y1n,y1o,y1p,y1q,y1r,retO,retL,retV,z69,allV,allP,z6a,z6d,z6e,z6k,z6l,z6m,binV,eqV,unV,oOpt,reduceIte,reduceCtorEq,Nat.reduceEqDiff,Nat.reduceAdd,Nat.reduceMul,Nat.reduceLT,Nat.reduceSub,Int.reduceLT,Int.reduceLE,Int.reduceEq,Int.reduceNe,Int.reduceSub,Int.reduceAdd,Int.reduceMul,Int.reduceBEq,Int.reduceBNe,Int.reduceGT,Int.reduceGE,Nat.reduceGT,Int.reduceToNat,Int.reduceNeg,Nat.reduceLeDiff,Nat.reduceBEq,Nat.reduceBneDiff,Value.cells]
  have n63 := (Heap.set_none.1 hb6).1
  have hb6' := (Heap.set_none.1 hb6).2
  have le1 : h.le ((h.set b3 (.own 0 [.int .u64 (s0 : Int), .int .u64 (s1 : Int), .int .u64 ((s2 % 4 : Nat) : Int)] 3)).set b6 (.own 0 [.int .u64 0, .int .u64 0, .int .u64 0] 3)) := Heap.le_set (Heap.le_set (Heap.le_refl _) hb3 _) hb6' _
  have q6 : ((h.set b3 (.own 0 [.int .u64 (s0 : Int), .int .u64 (s1 : Int), .int .u64 ((s2 % 4 : Nat) : Int)] 3)).set b6 (.own 0 [.int .u64 0, .int .u64 0, .int .u64 0] 3)) b6 = some (.own 0 [.int .u64 0, .int .u64 0, .int .u64 0] 3) := Heap.set_self _ _ _
  have q3 : hcells ((h.set b3 (.own 0 [.int .u64 (s0 : Int), .int .u64 (s1 : Int), .int .u64 ((s2 % 4 : Nat) : Int)] 3)).set b6 (.own 0 [.int .u64 0, .int .u64 0, .int .u64 0] 3)) ⟨b3, 0, none⟩ 3 = some [.int .u64 (s0 : Int), .int .u64 (s1 : Int), .int .u64 ((s2 % 4 : Nat) : Int)] := by rw [hcells_ne (Ne.symm n63)]; exact z6o rfl
  have f3 := fun {x : Blk} {H : Heap} {off : Nat} {s : Option Nat} => hcell_ne (h := H) (x := x) (off := off) (s := s) (Ne.symm n63)
  have t3 := fun {x : Blk} {H : Heap} {off size : Nat} {v : Value} {s : Option Nat} => storeV_ne (h := H) (x := x) (off := off) (size := size) (v := v) (s := s) (Ne.symm n63)
  simp -implicitDefEqProofs only [zB1,zB2,zB3,zB4,zB5,zB6,zB7,zB8,zB9,zB10,zB11,y00,y01,y02,y03,y04,y05,y06,y07,y08,y09,y0a,y0b,y0c,y0d,y0e,y0f,y0g,y0h,y0i,y0j,y0k,y0l,y0m,y0n,y0o,y0p,y0q,y0r,y0s,y0t,y0u,y0v,y0w,y0x,y0y,y0z,y10,y11,y12,y13,y14,y15,y16,y17,y18,y19,y1a,y1b,y1c,y1d,y1e,y1f,y1g,y1h,y1i,y1j,y1k,y1l,y1m,y1n,y1o,y1p,y1q,y1r,retO,retL,retV,z69,allV,allP,z6a,z6d,z6e,z6k,z6l,z6m,binV,eqV,unV,oOpt,reduceIte,reduceCtorEq,Nat.reduceEqDiff,Nat.reduceAdd,Nat.reduceMul,Nat.reduceLT,Nat.reduceSub,Int.reduceLT,Int.reduceLE,Int.reduceEq,Int.reduceNe,Int.reduceSub,Int.reduceAdd,Int.reduceMul,Int.reduceBEq,Int.reduceBNe,Int.reduceGT,Int.reduceGE,Nat.reduceGT,Int.reduceToNat,Int.reduceNeg,Nat.reduceLeDiff,Nat.reduceBEq,Nat.reduceBneDiff,Value.cells, f3, t3, and_3, shr_2, shr_2']
  generalize ((h.set b3 (.own 0 [.int .u64 (s0 : Int), .int .u64 (s1 : Int), .int .u64 ((s2 % 4 : Nat) : Int)] 3)).set b6 (.own 0 [.int .u64 0, .int .u64 0, .int .u64 0] 3)) = h1 at le1 q6 q3 ⊢
  refine (Mul64_c E _ (s2 / 4) 5 (by omega) (by decide)).mono ?_
  rintro r h' ⟨rfl, rfl⟩
  simp -implicitDefEqProofs only [zB1,zB2,zB3,zB4,zB5,zB6,zB7,zB8,zB9,zB10,zB11,y00,y01,y02,y03,y04,y05,y06,y07,y08,y09,y0a,y0b,y0c,y0d,y0e,y0f,y0g,y0h,y0i,y0j,y0k,y0l,y0m,y0n,y0o,y0p,y0q,y0r,y0s,y0t,y0u,y0v,y0w,y0x,y0y,y0z,y10,y11,y12,y13,y14,y15,y16,y17,y18,y19,y1a,y1b,y1c,y1d,y1e,y1f,y1g,y1h,y1i,y1j,y1k,y1l,y1m,y1n,y1o,y1p,y1q,y1r,retO,retL,retV,z69,allV,allP,z6a,z6d,z6e,z6k,z6l,z6m,binV,eqV,unV,oOpt,reduceIte,reduceCtorEq,Nat.reduceEqDiff,Nat.reduceAdd,Nat.reduceMul,Nat.reduceLT,Nat.reduceSub,Int.reduceLT,Int.reduceLE,Int.reduceEq,Int.reduceNe,Int.reduceSub,Int.reduceAdd,Int.reduceMul,Int.reduceBEq,Int.reduceBNe,Int.reduceGT,Int.reduceGE,Nat.reduceGT,Int.reduceToNat,Int.reduceNeg,Nat.reduceLeDiff,Nat.reduceBEq,Nat.reduceBneDiff,Value.cells, q3]
  refine (num_plus_c E h' ⟨s0, s1, s2 % 4⟩ ⟨s2 / 4 * 5 % 18446744073709551616, s2 / 4 * 5 / 18446744073709551616, 0⟩ ⟨k0, k1, by simp only; omega⟩ (N3.ok2 (s2 / 4) 5 (mul_lt (by omega) (by decide)))).mono ?_
  rintro r h2 ⟨le2, rfl⟩
  have st := store3 ((⟨s0, s1, s2 % 4⟩ : N3).plus ⟨s2 / 4 * 5 % 18446744073709551616, s2 / 4 * 5 / 18446744073709551616, 0⟩) (le2 _ _ q6) rfl
  have hl := z6o (h := h2) (b := b6) (vs := ((⟨s0, s1, s2 % 4⟩ : N3).plus ⟨s2 / 4 * 5 % 18446744073709551616, s2 / 4 * 5 / 18446744073709551616, 0⟩).cells) (sz := 3) (n := 3) rfl
  simp -implicitDefEqProofs only [zB1,zB2,zB3,zB4,zB5,zB6,zB7,zB8,zB9,zB10,zB11,y00,y01,y02,y03,y04,y05,y06,y07,y08,y09,y0a,y0b,y0c,y0d,y0e,y0f,y0g,y0h,y0i,y0j,y0k,y0l,y0m,y0n,y0o,y0p,y0q,y0r,y0s,y0t,y0u,y0v,y0w,y0x,y0y,y0z,y10,y11,y12,y13,y14,y15,y16,y17,y18,y19,y1a,y1b,y1c,y1d,y1e,y1f,y1g,y1h,y1i,y1j,y1k,y1l,y1m,y1n,y1o,y1p,y1q,y1r,retO,retL,retV,z69,allV,allP,z6a,z6d,z6e,z6k,z6l,z6m,binV,eqV,unV,oOpt,reduceIte,reduceCtorEq,Nat.reduceEqDiff,Nat.reduceAdd,Nat.reduceMul,Nat.reduceLT,Nat.reduceSub,Int.reduceLT,Int.reduceLE,Int.reduceEq,Int.reduceNe,Int.reduceSub,Int.reduceAdd,Int.reduceMul,Int.reduceBEq,Int.reduceBNe,Int.reduceGT,Int.reduceGE,Nat.reduceGT,Int.reduceToNat,Int.reduceNeg,Nat.reduceLeDiff,Nat.reduceBEq,Nat.reduceBneDiff,Value.cells, st, hl]
  exact ⟨Heap.le_set (Heap.le_trans le1 le2) hb6' _, rfl⟩
end Go.Bb
/- Contracts: numbers of three words, the last form. -/
namespace Go.Bb
set_option linter.unusedSimpArgs false
set_option linter.unusedVariables false
set_option maxRecDepth 20000

def N3.last (x : N3) : N3 :=
  if 3 < (x.cut.cut.plus ⟨5, 0, 0⟩).c then ⟨(x.cut.cut.plus ⟨5, 0, 0⟩).a, (x.cut.cut.plus ⟨5, 0, 0⟩).b, (x.cut.cut.plus ⟨5, 0, 0⟩).c % 4⟩ else x.cut.cut
theorem N3.last_ok (x : N3) : x.last.ok := by
  unfold N3.last
  split
  · have := N3.plus_ok x.cut.cut ⟨5, 0, 0⟩
    exact ⟨this.1, this.2.1, by simp only; omega⟩
  · exact N3.cut_ok _
theorem ok5 : (⟨5, 0, 0⟩ : N3).ok := ⟨by simp, by simp, by simp⟩

theorem num_last_c (E : EnvT tab) (h : Heap) (x : N3) (hx : x.ok) : ACallN E.toEnv n_poly_num_last [x.V] h fun r h' => h.le h' ∧ r = x.last.V := by
  refine acall h_poly_num_last ir_poly_num_last rfl rfl (wpA_sound ?_)
  unfold ir_poly_num_last
  have eV : x.V = .agg #[.int .u64 (x.a : Int), .int .u64 (x.b : Int), .int .u64 (x.c : Int)] := rfl
  rw [eV]
  simp -implicitDefEqProofs only [zB1,zB2,zB3,zB4,zB5,zB6,zB7,zB8,zB9,zB10,zB11,y00,y01,y02,y03,y04,y05,y06,y07,y08,y09,y0a,y0b,y0c,y0d,y0e,y0f,y0g,y0h,y0i,y0j,y0k,y0l,y0m,y0n,y0o,y0p,y0q,y0r,y0s,y0t,y0u,y0v,y0w,y0x,y0y,y0z,y10,y11,y12,y13,y14,y15,y16,y17,y18,y19,y1a,y1b,y1c,y1d,y1e,y1f,y1g,y1h,y1i,y1j,y1k,y1l,y1m,y1n,y1o,y1p,y1q,y1r,retO,retL,retV,z69,allV,allP,z6a,z6d,z6e,z6k,z6l,z6m,binV,eqV,unV,oOpt,reduceIte,reduceCtorEq,Nat.reduceEqDiff,Nat.reduceAdd,Nat.reduceMul,Nat.reduceLT,Nat.reduceSub,Int.reduceLT,Int.reduceLE,Int.reduceEq,Int.reduceNe,Int.reduceSub,Int.reduceAdd,Int.reduceMul,Int.reduceBEq,Int.reduceBNe,Int.reduceGT,Int.reduceGE,Nat.reduceGT,Int.reduceToNat,Int.reduceNeg,Nat.reduceLeDiff,Nat.reduceBEq,Nat.reduceBneDiff,Value.cells]
  intro b1 hb1 b2 hb2
  try simp -implicitDefEqProofs only [zB1,zB2,zB3,zB4,zB5,zB6,zB7,zB8,zB9,zB10,zB11,y00,y01,y02,y03,y04,y05,y06,y07,y08,y09,y0a,y0b,y0c,y0d,y0e,y0f,y0g,y0h,y0i,y0j,y0k,y0l,y0m,y0n,y0o,y0p,y0q,y0r,y0s,y0t,y0u,y0v,y0w,y0x,y0y,y0z,y10,y11,y12,y13,y14,y15,y16,y17,y18,y19,y1a,y1b,y1c,y1d,y1e,y1f,y1g,y1h,y1i,y1j,y1k,y1l,y1m,y1n,y1o,y1p,y1q,y1r,retO,retL,retV,z69,allV,allP,z6a,z6d,z6e,z6k,z6l,z6m,binV,eqV,unV,oOpt,reduceIte,reduceCtorEq,Nat.reduceEqDiff,Nat.reduceAdd,Nat.reduceMul,Nat.reduceLT,Nat.reduceSub,Int.reduceLT,Int.reduceLE,Int.reduceEq,Int.reduceNe,Int.reduceSub,Int.reduceAdd,Int.reduceMul,Int.reduceBEq,Int.reduceBNe,Int.reduceGT,Int.reduceGE,Nat.reduceGT,Int.reduceToNat,Int.reduceNeg,Nat.reduceLeDiff,Nat.reduceBEq,Nat.reduceBneDiff,Value.cells]
  have n21 := (Heap.set_none.1 hb2).1
  have hb2' := (Heap.set_none.1 hb2).2
  have le1 : h.le ((h.set b1 (.own 0 [.int .u64 (x.a : Int), .int .u64 (x.b : Int), .int .u64 (x.c : Int)] 3)).set b2 (.own 0 [.int .u64 0, .int .u64 0, .int .u64 0] 3)) := Heap.le_set (Heap.le_set (Heap.le_refl _) hb1 _) hb2' _
  have q2 : ((h.set b1 (.own 0 [.int .u64 (x.a : Int), .int .u64 (x.b : Int), .int .u64 (x.c : Int)] 3)).set b2 (.own 0 [.int .u64 0, .int .u64 0, .int .u64 0] 3)) b2 = some (.own 0 [.int .u64 0, .int .u64 0, .int .u64 0] 3) := Heap.set_self _ _ _
  have q1 : ((h.set b1 (.own 0 [.int .u64 (x.a : Int), .int .u64 (x.b : Int), .int .u64 (x.c : Int)] 3)).set b2 (.own 0 [.int .u64 0, .int .u64 0, .int .u64 0] 3)) b1 = some (.own 0 x.cells 3) := by rw [Heap.set_ne (Ne.symm n21), Heap.set_self]; rfl
  generalize ((h.set b1 (.own 0 [.int .u64 (x.a : Int), .int .u64 (x.b : Int), .int .u64 (x.c : Int)] 3)).set b2 (.own 0 [.int .u64 0, .int .u64 0, .int .u64 0] 3)) = h1 at le1 q1 q2 ⊢
  have l1 : hcells h1 ⟨b1, 0, none⟩ 3 = some x.cells := by rw [hcells_at q1 (by simp [N3.cells])]; rfl
  have eX : Value.agg x.cells.toArray = x.V := rfl
  simp -implicitDefEqProofs only [zB1,zB2,zB3,zB4,zB5,zB6,zB7,zB8,zB9,zB10,zB11,y00,y01,y02,y03,y04,y05,y06,y07,y08,y09,y0a,y0b,y0c,y0d,y0e,y0f,y0g,y0h,y0i,y0j,y0k,y0l,y0m,y0n,y0o,y0p,y0q,y0r,y0s,y0t,y0u,y0v,y0w,y0x,y0y,y0z,y10,y11,y12,y13,y14,y15,y16,y17,y18,y19,y1a,y1b,y1c,y1d,y1e,y1f,y1g,y1h,y1i,y1j,y1k,y1l,y1m,y1n,y1o,y1p,y1q,y1r,retO,retL,retV,z69,allV,allP,z6a,z6d,z6e,z6k,z6l,z6m,binV,eqV,unV,oOpt,reduceIte,reduceCtorEq,Nat.reduceEqDiff,Nat.reduceAdd,Nat.reduceMul,Nat.reduceLT,Nat.reduceSub,Int.reduceLT,Int.reduceLE,Int.reduceEq,Int.reduceNe,Int.reduceSub,Int.reduceAdd,Int.reduceMul,Int.reduceBEq,Int.reduceBNe,Int.reduceGT,Int.reduceGE,Nat.reduceGT,Int.reduceToNat,Int.reduceNeg,Nat.reduceLeDiff,Nat.reduceBEq,Nat.reduceBneDiff,Value.cells, l1, eX]
  refine (num_cut_c E h1 x hx).mono ?_
  rintro r h2 ⟨le2, rfl⟩
  simp -implicitDefEqProofs only [zB1,zB2,zB3,zB4,zB5,zB6,zB7,zB8,zB9,zB10,zB11,y00,y01,y02,y03,y04,y05,y06,y07,y08,y09,y0a,y0b,y0c,y0d,y0e,y0f,y0g,y0h,y0i,y0j,y0k,y0l,y0m,y0n,y0o,y0p,y0q,y0r,y0s,y0t,y0u,y0v,y0w,y0x,y0y,y0z,y10,y11,y12,y13,y14,y15,y16,y17,y18,y19,y1a,y1b,y1c,y1d,y1e,y1f,y1g,y1h,y1i,y1j,y1k,y1l,y1m,y1n,y1o,y1p,y1q,y1r,retO,retL,retV,z69,allV,allP,z6a,z6d,z6e,z6k,z6l,z6m,binV,eqV,unV,oOpt,reduceIte,reduceCtorEq,Nat.reduceEqDiff,Nat.reduceAdd,Nat.reduceMul,Nat.reduceLT,Nat.reduceSub,Int.reduceLT,Int.reduceLE,Int.reduceEq,Int.reduceNe,Int.reduceSub,Int.reduceAdd,Int.reduceMul,Int.reduceBEq,Int.reduceBNe,Int.reduceGT,Int.reduceGE,Nat.reduceGT,Int.reduceToNat,Int.reduceNeg,Nat.reduceLeDiff,Nat.reduceBEq,Nat.reduceBneDiff,Value.cells]
  refine (num_cut_c E h2 x.cut (N3.cut_ok _)).mono ?_
  rintro r h3 ⟨le3, rfl⟩
  have st1 := store3 x.cut.cut (le3 _ _ (le2 _ _ q1)) rfl
  have l1 : hcells (h3.set b1 (.own 0 x.cut.cut.cells 3)) ⟨b1, 0, none⟩ 3 = some x.cut.cut.cells := z6o rfl
  have eC : Value.agg x.cut.cut.cells.toArray = x.cut.cut.V := rfl
  simp -implicitDefEqProofs only [zB1,zB2,zB3,zB4,zB5,zB6,zB7,zB8,zB9,zB10,zB11,y00,y01,y02,y03,y04,y05,y06,y07,y08,y09,y0a,y0b,y0c,y0d,y0e,y0f,y0g,y0h,y0i,y0j,y0k,y0l,y0m,y0n,y0o,y0p,y0q,y0r,y0s,y0t,y0u,y0v,y0w,y0x,y0y,y0z,y10,y11,y12,y13,y14,y15,y16,y17,y18,y19,y1a,y1b,y1c,y1d,y1e,y1f,y1g,y1h,y1i,y1j,y1k,y1l,y1m,y1n,y1o,y1p,y1q,y1r,retO,retL,retV,z69,allV,allP,z6a,z6d,z6e,z6k,z6l,z6m,binV,eqV,unV,oOpt,reduceIte,reduceCtorEq,Nat.reduceEqDiff,Nat.reduceAdd,Nat.reduceMul,Nat.reduceLT,Nat.reduceSub,Int.reduceLT,Int.reduceLE,Int.reduceEq,Int.reduceNe,Int.reduceSub,Int.reduceAdd,Int.reduceMul,Int.reduceBEq,Int.reduceBNe,Int.reduceGT,Int.reduceGE,Nat.reduceGT,Int.reduceToNat,Int.reduceNeg,Nat.reduceLeDiff,Nat.reduceBEq,Nat.reduceBneDiff,Value.cells, st1, l1, eC]
  have hyA : x.cut.cut.ok := N3.cut_ok _
  have hl : x.last = if 3 < (x.cut.cut.plus ⟨5, 0, 0⟩).c then ⟨(x.cut.cut.plus ⟨5, 0, 0⟩).a, (x.cut.cut.plus ⟨5, 0, 0⟩).b, (x.cut.cut.plus ⟨5, 0, 0⟩).c % 4⟩ else x.cut.cut := rfl
  rw [hl]
  have q2' := le3 _ _ (le2 _ _ q2)
  have le13 := Heap.le_trans le1 (Heap.le_trans le2 le3)
  generalize x.cut.cut = y at *
  have le4 : h.le (h3.set b1 (.own 0 y.cells 3)) := Heap.le_set le13 hb1 _
  have q24 : (h3.set b1 (.own 0 y.cells 3)) b2 = some (.own 0 [.int .u64 0, .int .u64 0, .int .u64 0] 3) := by rw [Heap.set_ne n21]; exact q2'
  have q14 : (h3.set b1 (.own 0 y.cells 3)) b1 = some (.own 0 y.cells 3) := Heap.set_self _ _ _
  generalize (h3.set b1 (.own 0 y.cells 3)) = h4 at le4 q24 q14 ⊢
  refine (num_plus_c E h4 y ⟨5, 0, 0⟩ hyA ok5).mono ?_
  rintro r h5 ⟨le5, rfl⟩
  have hz := N3.plus_ok y ⟨5, 0, 0⟩
  generalize y.plus ⟨5, 0, 0⟩ = z at *
  simp -implicitDefEqProofs only [zB1,zB2,zB3,zB4,zB5,zB6,zB7,zB8,zB9,zB10,zB11,y00,y01,y02,y03,y04,y05,y06,y07,y08,y09,y0a,y0b,y0c,y0d,y0e,y0f,y0g,y0h,y0i,y0j,y0k,y0l,y0m,y0n,y0o,y0p,y0q,y0r,y0s,y0t,y0u,y0v,y0w,y0x,y0y,y0z,y10,y11,y12,y13,y14,y15,y16,y17,y18,y19,y1a,y1b,y1c,y1d,y1e,y1f,y1g,y1h,y1i,y1j,y1k,y1l,y1m,y1n,y1o,y1p,y1q,y1r,retO,retL,retV,z69,allV,allP,z6a,z6d,z6e,z6k,z6l,z6m,binV,eqV,unV,oOpt,reduceIte,reduceCtorEq,Nat.reduceEqDiff,Nat.reduceAdd,Nat.reduceMul,Nat.reduceLT,Nat.reduceSub,Int.reduceLT,Int.reduceLE,Int.reduceEq,Int.reduceNe,Int.reduceSub,Int.reduceAdd,Int.reduceMul,Int.reduceBEq,Int.reduceBNe,Int.reduceGT,Int.reduceGE,Nat.reduceGT,Int.reduceToNat,Int.reduceNeg,Nat.reduceLeDiff,Nat.reduceBEq,Nat.reduceBneDiff,Value.cells]
  intro b3 hb3
  have q25 := le5 _ _ q24
  have q15 := le5 _ _ q14
  have st3 : storeV (h5.set b3 (.own 0 [.int .u64 0, .int .u64 0, .int .u64 0] 3)) 3 (.pointer (some ⟨b3, 0, none⟩)) z.V = some (h5.set b3 (.own 0 z.cells 3)) := z6q (by omega) rfl rfl rfl (by omega)
  have n32 := ne_of_none hb3 q25
  have n31 := ne_of_none hb3 q15
  have l3 : hcell (h5.set b3 (.own 0 z.cells 3)) ⟨b3, 2, none⟩ = some (.int .u64 (z.c : Int)) := z6n (by simp [N3.cells])
  have le6 : h.le (h5.set b3 (.own 0 z.cells 3)) := Heap.le_new (Heap.le_trans le4 le5) hb3 _
  have hb3' : h b3 = none := Heap.none_of_le (Heap.le_trans le4 le5) hb3
  by_cases g : 3 < z.c
  · have g' : (3 : Int) < z.c := by omega
    rw [if_pos g]
    have l4 : storeV (h5.set b3 (.own 0 z.cells 3)) 1 (.pointer (some ⟨b3, 2, none⟩)) (.int .u64 ((z.c % 4 : Nat) : Int)) = some (h5.set b3 (.own 0 (⟨z.a, z.b, z.c % 4⟩ : N3).cells 3)) := z6p rfl (by simp [N3.cells]) (by simp [N3.cells])
    have l5 : hcells (h5.set b3 (.own 0 (⟨z.a, z.b, z.c % 4⟩ : N3).cells 3)) ⟨b3, 0, none⟩ 3 = some (⟨z.a, z.b, z.c % 4⟩ : N3).cells := z6o rfl
    have st6 : storeV (h5.set b3 (.own 0 (⟨z.a, z.b, z.c % 4⟩ : N3).cells 3)) 3 (.pointer (some ⟨b2, 0, none⟩)) (.agg (⟨z.a, z.b, z.c % 4⟩ : N3).cells.toArray) = _ := store3 (⟨z.a, z.b, z.c % 4⟩ : N3) (by rw [Heap.set_ne n32]; exact q25) rfl
    have l6 := z6o (h := h5.set b3 (.own 0 (⟨z.a, z.b, z.c % 4⟩ : N3).cells 3)) (b := b2) (vs := (⟨z.a, z.b, z.c % 4⟩ : N3).cells) (sz := 3) (n := 3) rfl
    simp -implicitDefEqProofs only [zB1,zB2,zB3,zB4,zB5,zB6,zB7,zB8,zB9,zB10,zB11,y00,y01,y02,y03,y04,y05,y06,y07,y08,y09,y0a,y0b,y0c,y0d,y0e,y0f,y0g,y0h,y0i,y0j,y0k,y0l,y0m,y0n,y0o,y0p,y0q,y0r,y0s,y0t,y0u,y0v,y0w,y0x,y0y,y0z,y10,y11,y12,y13,y14,y15,y16,y17,y18,y19,y1a,y1b,y1c,y1d,y1e,y1f,y1g,y1h,y1i,y1j,y1k,y1l,y1m,y1n,y1o,y1p,y1q,y1r,retO,retL,retV,z69,allV,allP,z6a,z6d,z6e,z6k,z6l,z6m,binV,eqV,unV,oOpt,reduceIte,reduceCtorEq,Nat.reduceEqDiff,Nat.reduceAdd,Nat.reduceMul,Nat.reduceLT,Nat.reduceSub,Int.reduceLT,Int.reduceLE,Int.reduceEq,Int.reduceNe,Int.reduceSub,Int.reduceAdd,Int.reduceMul,Int.reduceBEq,Int.reduceBNe,Int.reduceGT,Int.reduceGE,Nat.reduceGT,Int.reduceToNat,Int.reduceNeg,Nat.reduceLeDiff,Nat.reduceBEq,Nat.reduceBneDiff,Value.cells, st3, l3, g', and_3, l4, l5, st6, l6]
    exact ⟨Heap.le_set (Heap.le_new (Heap.le_trans le4 le5) hb3 _) hb2' _, rfl⟩
  · have g' : ¬ (3 : Int) < z.c := by omega
    have g2 : (z.c : Int) ≤ 3 := by omega
    rw [if_neg g]
    have l5 : hcells (h5.set b3 (.own 0 z.cells 3)) ⟨b1, 0, none⟩ 3 = some y.cells := by rw [hcells_ne n31, hcells_at q15 (by simp [N3.cells])]; rfl
    have st6 : storeV (h5.set b3 (.own 0 z.cells 3)) 3 (.pointer (some ⟨b2, 0, none⟩)) (.agg y.cells.toArray) = _ := store3 y (by rw [Heap.set_ne n32]; exact q25) rfl
    have l6 := z6o (h := h5.set b3 (.own 0 z.cells 3)) (b := b2) (vs := y.cells) (sz := 3) (n := 3) rfl
    simp -implicitDefEqProofs only [zB1,zB2,zB3,zB4,zB5,zB6,zB7,zB8,zB9,zB10,zB11,y00,y01,y02,y03,y04,y05,y06,y07,y08,y09,y0a,y0b,y0c,y0d,y0e,y0f,y0g,y0h,y0i,y0j,y0k,y0l,y0m,y0n,y0o,y0p,y0q,y0r,y0s,y0t,y0u,y0v,y0w,y0x,y0y,y0z,y10,y11,y12,y13,y14,y15,y16,y17,y18,y19,y1a,y1b,y1c,y1d,y1e,y1f,y1g,y1h,y1i,y1j,y1k,y1l,y1m,y1n,y1o,y1p,y1q,y1r,retO,retL,retV,z69,allV,allP,z6a,z6d,z6e,z6k,z6l,z6m,binV,eqV,unV,oOpt,reduceIte,reduceCtorEq,Nat.reduceEqDiff,Nat.reduceAdd,Nat.reduceMul,Nat.reduceLT,Nat.reduceSub,Int.reduceLT,Int.reduceLE,Int.reduceEq,Int.reduceNe,Int.reduceSub,Int.reduceAdd,Int.reduceMul,Int.reduceBEq,Int.reduceBNe,Int.reduceGT,Int.reduceGE,Nat.reduceGT,Int.reduceToNat,Int.reduceNeg,Nat.reduceLeDiff,Nat.reduceBEq,Nat.reduceBneDiff,Value.cells, st3, l3, g', g2, l5, st6, l6]
    exact ⟨Heap.le_set le6 hb2' _, rfl⟩
end Go.Bb
/- Contracts: numbers of three words, multiplied. -/
namespace Go.Bb
set_option linter.unusedSimpArgs false
set_option linter.unusedVariables false
set_option maxRecDepth 20000

def z3 : N3 := ⟨0, 0, 0⟩
theorem z3_ok : z3.ok := ⟨by simp [z3], by simp [z3], by simp [z3]⟩
def colsF (x : N3) (r0 r1 : Nat) : Nat → N3
  | 0 => z3.col x.a r0
  | 1 => (z3.col x.a r1).col x.b r0
  | 2 => (z3.col x.b r1).col x.c r0
  | _ => z3.col x.c r1
theorem colsF_ok (x : N3) (r0 r1 i : Nat) : (colsF x r0 r1 i).ok := by
  unfold colsF
  split <;> exact N3.col_ok _ _ _
def carryF (C : Nat → N3) : Nat → N3
  | 0 => z3
  | i + 1 => ⟨((carryF C i).plus (C i)).b, ((carryF C i).plus (C i)).c, 0⟩
def outW (C : Nat → N3) (i : Nat) : Nat := ((carryF C i).plus (C i)).a
theorem carryF_ok (C : Nat → N3) : ∀ i, (carryF C i).ok
  | 0 => z3_ok
  | i + 1 => by
      have := N3.plus_ok (carryF C i) (C i)
      exact ⟨this.2.1, this.2.2, by simp [carryF]⟩
def addsF (x y : N3) : Nat → N3
  | 0 => x
  | n + 1 => (addsF x y n).plus y
def lowF (C : Nat → N3) : N3 := ⟨outW C 0, outW C 1, outW C 2 % 4⟩
def highF (C : Nat → N3) : N3 := ⟨outW C 2 / 4 + outW C 3 % 4 * 4611686018427387904, outW C 3 / 4, 0⟩
theorem outW_lt (C : Nat → N3) (i : Nat) : outW C i < 18446744073709551616 := (N3.plus_ok (carryF C i) (C i)).1
theorem lowF_ok (C : Nat → N3) : (lowF C).ok := ⟨outW_lt C 0, outW_lt C 1, by simp only [lowF]; omega⟩
theorem highF_ok (C : Nat → N3) : (highF C).ok := ⟨by have := outW_lt C 2; simp only [highF]; omega, by have := outW_lt C 3; simp only [highF]; omega, by simp [highF]⟩
theorem addsF_ok {x y : N3} (hx : x.ok) : ∀ n, (addsF x y n).ok
  | 0 => hx
  | n + 1 => N3.plus_ok _ _
def N3.times (x : N3) (r0 r1 : Nat) : N3 := (addsF (lowF (colsF x r0 r1)) (highF (colsF x r0 r1)) 5).cut

def rowQ (f : Nat → Nat) (n : Nat) : List Value := (List.range n).map fun j => .int .u64 ((f j : Nat) : Int)
theorem rowQ_len (f : Nat → Nat) (n : Nat) : (rowQ f n).length = n := by simp [rowQ]
theorem rowQ_get (f : Nat → Nat) {n j : Nat} (h : j < (rowQ f n).length) : (rowQ f n)[j] = .int .u64 ((f j : Nat) : Int) := by simp [rowQ]
theorem rowQ_set (f : Nat → Nat) (n i z : Nat) : (rowQ f n).set i (.int .u64 (z : Int)) = rowQ (fun j => if j = i then z else f j) n := by
  apply List.ext_getElem
  · simp [rowQ]
  · intro j h1 h2
    rw [List.getElem_set, rowQ_get, rowQ_get]
    by_cases e : i = j
    · subst e; simp
    · rw [if_neg e]; simp [Ne.symm e]
theorem rowQ_at {H : Heap} {b n j sz : Nat} {f : Nat → Nat} (h : H b = some (.own 0 (rowQ f n) sz)) (hj : j < n) : hcell H ⟨b, j, none⟩ = some (.int .u64 ((f j : Nat) : Int)) := by
  rw [hcell_at h (by rw [rowQ_len]; exact hj), rowQ_get]
theorem rowQ_store {H : Heap} {b n j z : Nat} {f : Nat → Nat} (h : H b = some (.own 0 (rowQ f n) n)) (hj : j < n) : storeV H 1 (.pointer (some ⟨b, j, none⟩)) (.int .u64 (z : Int)) = some (H.set b (.own 0 (rowQ (fun k => if k = j then z else f k) n) n)) := by
  rw [storeV_one_at h rfl (by rw [rowQ_len]; exact hj) (by rw [rowQ_len]; omega), rowQ_set]
theorem rowQ_step (g : Nat → Nat) (i n : Nat) : rowQ (fun k => if k = i then g i else (if k < i then g k else 0)) n = rowQ (fun k => if k < i + 1 then g k else 0) n := by
  unfold rowQ
  apply List.map_congr_left
  intro j _
  by_cases e : j = i
  · subst e; simp
  · simp only [e, if_false]
    by_cases e2 : j < i
    · rw [if_pos e2, if_pos (by omega)]
    · rw [if_neg e2, if_neg (by omega)]
def LST (C : Nat → N3) : List Value := (C 0).cells ++ ((C 1).cells ++ ((C 2).cells ++ (C 3).cells))
theorem LST_at (C : Nat → N3) (i : Nat) (h : i < 4) : ((LST C).drop (i * 3)).take 3 = (C i).cells := by
  match i, h with
  | 0, _ => rfl
  | 1, _ => rfl
  | 2, _ => rfl
  | 3, _ => rfl

theorem shl_62 (a : Nat) : IntKind.u64.wrap ((a : Int) * 2 ^ (min (Int.toNat 62) IntKind.u64.bits)) = ((a % 4 * 4611686018427387904 : Nat) : Int) := by
  rw [show min (Int.toNat 62) IntKind.u64.bits = 62 from rfl]
  have : (a : Int) * 2 ^ 62 = ((a * 4611686018427387904 : Nat) : Int) := by simp
  rw [this, wrap_u64m]
  congr 1
  omega
theorem shl_62' (a : Nat) : IntKind.u64.wrap ((a : Int) * 2 ^ (min 62 IntKind.u64.bits)) = ((a % 4 * 4611686018427387904 : Nat) : Int) := shl_62 a
theorem or_hi (a c : Nat) (ha : a < 4611686018427387904) (hc : c < 4) : IntKind.u64.wrap ((BitVec.ofInt IntKind.u64.bits (a : Int) ||| BitVec.ofInt IntKind.u64.bits ((c * 4611686018427387904 : Nat) : Int)).toNat : Int) = ((a + c * 4611686018427387904 : Nat) : Int) := by
  have e : (BitVec.ofInt IntKind.u64.bits (a : Int) ||| BitVec.ofInt IntKind.u64.bits ((c * 4611686018427387904 : Nat) : Int)).toNat = a + c * 4611686018427387904 := by
    rw [show IntKind.u64.bits = 64 from rfl, ofInt_nat, ofInt_nat, BitVec.toNat_or, BitVec.toNat_ofNat, BitVec.toNat_ofNat]
    rw [Nat.mod_eq_of_lt (show a < 2 ^ 64 by omega), Nat.mod_eq_of_lt (show c * 4611686018427387904 < 2 ^ 64 by omega)]
    have h := Nat.shiftLeft_add_eq_or_of_lt (i := 62) (b := a) (by omega) c
    rw [Nat.shiftLeft_eq] at h
    rw [Nat.or_comm, show c * 4611686018427387904 = c * 2 ^ 62 from rfl, ← h]
    omega
  rw [e]
  exact wrap_u64n (by omega)

theorem num_times_c (E : EnvT tab) (h : Heap) (x : N3) (r0 r1 : Nat) (hx : x.ok) (h0 : r0 < 18446744073709551616) (h1 : r1 < 18446744073709551616) :
    ACallN E.toEnv n_poly_num_times [x.V, .agg #[.int .u64 (r0 : Int), .int .u64 (r1 : Int)]] h fun r h' => h.le h' ∧ r = (x.times r0 r1).V := by
  refine acall h_poly_num_times ir_poly_num_times rfl rfl (wpA_sound ?_)
  unfold ir_poly_num_times
  have eV : x.V = .agg #[.int .u64 (x.a : Int), .int .u64 (x.b : Int), .int .u64 (x.c : Int)] := rfl
  rw [eV]
  simp -implicitDefEqProofs only [zB1,zB2,zB3,zB4,zB5,zB6,zB7,zB8,zB9,zB10,zB11,y00,y01,y02,y03,y04,y05,y06,y07,y08,y09,y0a,y0b,y0c,y0d,y0e,y0f,y0g,y0h,y0i,y0j,y0k,y0l,y0m,y0n,y0o,y0p,y0q,y0r,y0s,y0t,y0u,y0v,y0w,y0x,y0y,y0z,y10,y11,y12,y13,y14,y15,y16,y17,y18,y19,y1a,y1b,y1c,y1d,y1e,y1f,y1g,y1h,y1i,y1j,y1k,y1l,y1m,y1n,y1o,y1p,y1q,y1r,retO,retL,retV,z69,allV,allP,z6a,z6d,z6e,z6k,z6l,z6m,binV,eqV,unV,oOpt,reduceIte,reduceCtorEq,Nat.reduceEqDiff,Nat.reduceAdd,Nat.reduceMul,Nat.reduceLT,Nat.reduceSub,Int.reduceLT,Int.reduceLE,Int.reduceEq,Int.reduceNe,Int.reduceSub,Int.reduceAdd,Int.reduceMul,Int.reduceBEq,Int.reduceBNe,Int.reduceGT,Int.reduceGE,Nat.reduceGT,Int.reduceToNat,Int.reduceNeg,Nat.reduceLeDiff,Nat.reduceBEq,Nat.reduceBneDiff,Value.cells]
  intro b2 hb2 b3 hb3 b4 hb4
  try simp -implicitDefEqProofs only [zB1,zB2,zB3,zB4,zB5,zB6,zB7,zB8,zB9,zB10,zB11,y00,y01,y02,y03,y04,y05,y06,y07,y08,y09,y0a,y0b,y0c,y0d,y0e,y0f,y0g,y0h,y0i,y0j,y0k,y0l,y0m,y0n,y0o,y0p,y0q,y0r,y0s,y0t,y0u,y0v,y0w,y0x,y0y,y0z,y10,y11,y12,y13,y14,y15,y16,y17,y18,y19,y1a,y1b,y1c,y1d,y1e,y1f,y1g,y1h,y1i,y1j,y1k,y1l,y1m,y1n,y1o,y1p,y1q,y1r,retO,retL,retV,z69,allV,allP,z6a,z6d,z6e,z6k,z6l,z6m,binV,eqV,unV,oOpt,reduceIte,reduceCtorEq,Nat.reduceEqDiff,Nat.reduceAdd,Nat.reduceMul,Nat.reduceLT,Nat.reduceSub,Int.reduceLT,Int.reduceLE,Int.reduceEq,Int.reduceNe,Int.reduceSub,Int.reduceAdd,Int.reduceMul,Int.reduceBEq,Int.reduceBNe,Int.reduceGT,Int.reduceGE,Nat.reduceGT,Int.reduceToNat,Int.reduceNeg,Nat.reduceLeDiff,Nat.reduceBEq,Nat.reduceBneDiff,Value.cells]
  have n32 := (Heap.set_none.1 hb3).1
  have n43 := (Heap.set_none.1 hb4).1
  have hb4' := (Heap.set_none.1 hb4).2
  have n42 := (Heap.set_none.1 hb4').1
  have hb4'' := (Heap.set_none.1 hb4').2
  have hb3' := (Heap.set_none.1 hb3).2
  have leA : h.le (((h.set b2 (.own 0 [.int .u64 (x.a : Int), .int .u64 (x.b : Int), .int .u64 (x.c : Int)] 3)).set b3 (.own 0 [.int .u64 (r0 : Int), .int .u64 (r1 : Int)] 2)).set b4 (.own 0 [.int .u64 0, .int .u64 0, .int .u64 0] 3)) := Heap.le_set (Heap.le_set (Heap.le_set (Heap.le_refl _) hb2 _) hb3' _) hb4'' _
  have q4 : (((h.set b2 (.own 0 [.int .u64 (x.a : Int), .int .u64 (x.b : Int), .int .u64 (x.c : Int)] 3)).set b3 (.own 0 [.int .u64 (r0 : Int), .int .u64 (r1 : Int)] 2)).set b4 (.own 0 [.int .u64 0, .int .u64 0, .int .u64 0] 3)) b4 = some (.own 0 [.int .u64 0, .int .u64 0, .int .u64 0] 3) := Heap.set_self _ _ _
  have q3 : (((h.set b2 (.own 0 [.int .u64 (x.a : Int), .int .u64 (x.b : Int), .int .u64 (x.c : Int)] 3)).set b3 (.own 0 [.int .u64 (r0 : Int), .int .u64 (r1 : Int)] 2)).set b4 (.own 0 [.int .u64 0, .int .u64 0, .int .u64 0] 3)) b3 = some (.own 0 [.int .u64 (r0 : Int), .int .u64 (r1 : Int)] 2) := by rw [Heap.set_ne (Ne.symm n43), Heap.set_self]
  have q2 : (((h.set b2 (.own 0 [.int .u64 (x.a : Int), .int .u64 (x.b : Int), .int .u64 (x.c : Int)] 3)).set b3 (.own 0 [.int .u64 (r0 : Int), .int .u64 (r1 : Int)] 2)).set b4 (.own 0 [.int .u64 0, .int .u64 0, .int .u64 0] 3)) b2 = some (.own 0 [.int .u64 (x.a : Int), .int .u64 (x.b : Int), .int .u64 (x.c : Int)] 3) := by rw [Heap.set_ne (Ne.symm n42), Heap.set_ne (Ne.symm n32), Heap.set_self]
  generalize (((h.set b2 (.own 0 [.int .u64 (x.a : Int), .int .u64 (x.b : Int), .int .u64 (x.c : Int)] 3)).set b3 (.own 0 [.int .u64 (r0 : Int), .int .u64 (r1 : Int)] 2)).set b4 (.own 0 [.int .u64 0, .int .u64 0, .int .u64 0] 3)) = h1' at leA q4 q3 q2 ⊢
  have ld : ∀ H, h1'.le H → hcell H ⟨b2, 0, none⟩ = some (.int .u64 (x.a : Int)) ∧ hcell H ⟨b2, 1, none⟩ = some (.int .u64 (x.b : Int)) ∧ hcell H ⟨b2, 2, none⟩ = some (.int .u64 (x.c : Int)) ∧ hcell H ⟨b3, 0, none⟩ = some (.int .u64 (r0 : Int)) ∧ hcell H ⟨b3, 1, none⟩ = some (.int .u64 (r1 : Int)) := fun H hle =>
    ⟨hcell_at (hle _ _ q2) (by simp), hcell_at (hle _ _ q2) (by simp), hcell_at (hle _ _ q2) (by simp), hcell_at (hle _ _ q3) (by simp), hcell_at (hle _ _ q3) (by simp)⟩
  obtain ⟨a1, a2, a3, a4, a5⟩ := ld h1' (Heap.le_refl _)
  obtain ⟨hx0, hx1, hx2⟩ := hx
  simp -implicitDefEqProofs only [zB1,zB2,zB3,zB4,zB5,zB6,zB7,zB8,zB9,zB10,zB11,y00,y01,y02,y03,y04,y05,y06,y07,y08,y09,y0a,y0b,y0c,y0d,y0e,y0f,y0g,y0h,y0i,y0j,y0k,y0l,y0m,y0n,y0o,y0p,y0q,y0r,y0s,y0t,y0u,y0v,y0w,y0x,y0y,y0z,y10,y11,y12,y13,y14,y15,y16,y17,y18,y19,y1a,y1b,y1c,y1d,y1e,y1f,y1g,y1h,y1i,y1j,y1k,y1l,y1m,y1n,y1o,y1p,y1q,y1r,retO,retL,retV,z69,allV,allP,z6a,z6d,z6e,z6k,z6l,z6m,binV,eqV,unV,oOpt,reduceIte,reduceCtorEq,Nat.reduceEqDiff,Nat.reduceAdd,Nat.reduceMul,Nat.reduceLT,Nat.reduceSub,Int.reduceLT,Int.reduceLE,Int.reduceEq,Int.reduceNe,Int.reduceSub,Int.reduceAdd,Int.reduceMul,Int.reduceBEq,Int.reduceBNe,Int.reduceGT,Int.reduceGE,Nat.reduceGT,Int.reduceToNat,Int.reduceNeg,Nat.reduceLeDiff,Nat.reduceBEq,Nat.reduceBneDiff,Value.cells, a1, a2, a3, a4, a5]
  refine (column_c E h1' z3 x.a r0 z3_ok hx0 h0).mono ?_
  rintro r h2 ⟨le2, rfl⟩
  obtain ⟨c1, c2, c3, c4, c5⟩ := ld h2 le2
  simp -implicitDefEqProofs only [zB1,zB2,zB3,zB4,zB5,zB6,zB7,zB8,zB9,zB10,zB11,y00,y01,y02,y03,y04,y05,y06,y07,y08,y09,y0a,y0b,y0c,y0d,y0e,y0f,y0g,y0h,y0i,y0j,y0k,y0l,y0m,y0n,y0o,y0p,y0q,y0r,y0s,y0t,y0u,y0v,y0w,y0x,y0y,y0z,y10,y11,y12,y13,y14,y15,y16,y17,y18,y19,y1a,y1b,y1c,y1d,y1e,y1f,y1g,y1h,y1i,y1j,y1k,y1l,y1m,y1n,y1o,y1p,y1q,y1r,retO,retL,retV,z69,allV,allP,z6a,z6d,z6e,z6k,z6l,z6m,binV,eqV,unV,oOpt,reduceIte,reduceCtorEq,Nat.reduceEqDiff,Nat.reduceAdd,Nat.reduceMul,Nat.reduceLT,Nat.reduceSub,Int.reduceLT,Int.reduceLE,Int.reduceEq,Int.reduceNe,Int.reduceSub,Int.reduceAdd,Int.reduceMul,Int.reduceBEq,Int.reduceBNe,Int.reduceGT,Int.reduceGE,Nat.reduceGT,Int.reduceToNat,Int.reduceNeg,Nat.reduceLeDiff,Nat.reduceBEq,Nat.reduceBneDiff,Value.cells, a1, a2, a3, a4, a5, c1, c2, c3, c4, c5, List.mem_cons, List.mem_singleton, forall_eq_or_imp, forall_eq, implies_true, List.not_mem_nil]
  refine (column_c E h2 z3 x.a r1 z3_ok hx0 h1).mono ?_
  rintro r h3 ⟨le3, rfl⟩
  have le3' := Heap.le_trans le2 le3
  obtain ⟨d1, d2, d3, d4, d5⟩ := ld h3 le3'
  simp -implicitDefEqProofs only [zB1,zB2,zB3,zB4,zB5,zB6,zB7,zB8,zB9,zB10,zB11,y00,y01,y02,y03,y04,y05,y06,y07,y08,y09,y0a,y0b,y0c,y0d,y0e,y0f,y0g,y0h,y0i,y0j,y0k,y0l,y0m,y0n,y0o,y0p,y0q,y0r,y0s,y0t,y0u,y0v,y0w,y0x,y0y,y0z,y10,y11,y12,y13,y14,y15,y16,y17,y18,y19,y1a,y1b,y1c,y1d,y1e,y1f,y1g,y1h,y1i,y1j,y1k,y1l,y1m,y1n,y1o,y1p,y1q,y1r,retO,retL,retV,z69,allV,allP,z6a,z6d,z6e,z6k,z6l,z6m,binV,eqV,unV,oOpt,reduceIte,reduceCtorEq,Nat.reduceEqDiff,Nat.reduceAdd,Nat.reduceMul,Nat.reduceLT,Nat.reduceSub,Int.reduceLT,Int.reduceLE,Int.reduceEq,Int.reduceNe,Int.reduceSub,Int.reduceAdd,Int.reduceMul,Int.reduceBEq,Int.reduceBNe,Int.reduceGT,Int.reduceGE,Nat.reduceGT,Int.reduceToNat,Int.reduceNeg,Nat.reduceLeDiff,Nat.reduceBEq,Nat.reduceBneDiff,Value.cells, a1, a2, a3, a4, a5, c1, c2, c3, c4, c5, d1, d2, d3, d4, d5, List.mem_cons, List.mem_singleton, forall_eq_or_imp, forall_eq, implies_true, List.not_mem_nil]
  refine (column_c E h3 (z3.col x.a r1) x.b r0 (N3.col_ok _ _ _) hx1 h0).mono ?_
  rintro r h4 ⟨le4, rfl⟩
  have le4' := Heap.le_trans le3' le4
  obtain ⟨e1, e2, e3, e4, e5⟩ := ld h4 le4'
  simp -implicitDefEqProofs only [zB1,zB2,zB3,zB4,zB5,zB6,zB7,zB8,zB9,zB10,zB11,y00,y01,y02,y03,y04,y05,y06,y07,y08,y09,y0a,y0b,y0c,y0d,y0e,y0f,y0g,y0h,y0i,y0j,y0k,y0l,y0m,y0n,y0o,y0p,y0q,y0r,y0s,y0t,y0u,y0v,y0w,y0x,y0y,y0z,y10,y11,y12,y13,y14,y15,y16,y17,y18,y19,y1a,y1b,y1c,y1d,y1e,y1f,y1g,y1h,y1i,y1j,y1k,y1l,y1m,y1n,y1o,y1p,y1q,y1r,retO,retL,retV,z69,allV,allP,z6a,z6d,z6e,z6k,z6l,z6m,binV,eqV,unV,oOpt,reduceIte,reduceCtorEq,Nat.reduceEqDiff,Nat.reduceAdd,Nat.reduceMul,Nat.reduceLT,Nat.reduceSub,Int.reduceLT,Int.reduceLE,Int.reduceEq,Int.reduceNe,Int.reduceSub,Int.reduceAdd,Int.reduceMul,Int.reduceBEq,Int.reduceBNe,Int.reduceGT,Int.reduceGE,Nat.reduceGT,Int.reduceToNat,Int.reduceNeg,Nat.reduceLeDiff,Nat.reduceBEq,Nat.reduceBneDiff,Value.cells, a1, a2, a3, a4, a5, c1, c2, c3, c4, c5, d1, d2, d3, d4, d5, e1, e2, e3, e4, e5, List.mem_cons, List.mem_singleton, forall_eq_or_imp, forall_eq, implies_true, List.not_mem_nil]
  refine (column_c E h4 z3 x.b r1 z3_ok hx1 h1).mono ?_
  rintro r h5 ⟨le5, rfl⟩
  have le5' := Heap.le_trans le4' le5
  obtain ⟨f1, f2, f3, f4, f5⟩ := ld h5 le5'
  simp -implicitDefEqProofs only [zB1,zB2,zB3,zB4,zB5,zB6,zB7,zB8,zB9,zB10,zB11,y00,y01,y02,y03,y04,y05,y06,y07,y08,y09,y0a,y0b,y0c,y0d,y0e,y0f,y0g,y0h,y0i,y0j,y0k,y0l,y0m,y0n,y0o,y0p,y0q,y0r,y0s,y0t,y0u,y0v,y0w,y0x,y0y,y0z,y10,y11,y12,y13,y14,y15,y16,y17,y18,y19,y1a,y1b,y1c,y1d,y1e,y1f,y1g,y1h,y1i,y1j,y1k,y1l,y1m,y1n,y1o,y1p,y1q,y1r,retO,retL,retV,z69,allV,allP,z6a,z6d,z6e,z6k,z6l,z6m,binV,eqV,unV,oOpt,reduceIte,reduceCtorEq,Nat.reduceEqDiff,Nat.reduceAdd,Nat.reduceMul,Nat.reduceLT,Nat.reduceSub,Int.reduceLT,Int.reduceLE,Int.reduceEq,Int.reduceNe,Int.reduceSub,Int.reduceAdd,Int.reduceMul,Int.reduceBEq,Int.reduceBNe,Int.reduceGT,Int.reduceGE,Nat.reduceGT,Int.reduceToNat,Int.reduceNeg,Nat.reduceLeDiff,Nat.reduceBEq,Nat.reduceBneDiff,Value.cells, a1, a2, a3, a4, a5, c1, c2, c3, c4, c5, d1, d2, d3, d4, d5, e1, e2, e3, e4, e5, f1, f2, f3, f4, f5, List.mem_cons, List.mem_singleton, forall_eq_or_imp, forall_eq, implies_true, List.not_mem_nil]
  refine (column_c E h5 (z3.col x.b r1) x.c r0 (N3.col_ok _ _ _) hx2 h0).mono ?_
  rintro r h6 ⟨le6, rfl⟩
  have le6' := Heap.le_trans le5' le6
  obtain ⟨g1, g2, g3, g4, g5⟩ := ld h6 le6'
  simp -implicitDefEqProofs only [zB1,zB2,zB3,zB4,zB5,zB6,zB7,zB8,zB9,zB10,zB11,y00,y01,y02,y03,y04,y05,y06,y07,y08,y09,y0a,y0b,y0c,y0d,y0e,y0f,y0g,y0h,y0i,y0j,y0k,y0l,y0m,y0n,y0o,y0p,y0q,y0r,y0s,y0t,y0u,y0v,y0w,y0x,y0y,y0z,y10,y11,y12,y13,y14,y15,y16,y17,y18,y19,y1a,y1b,y1c,y1d,y1e,y1f,y1g,y1h,y1i,y1j,y1k,y1l,y1m,y1n,y1o,y1p,y1q,y1r,retO,retL,retV,z69,allV,allP,z6a,z6d,z6e,z6k,z6l,z6m,binV,eqV,unV,oOpt,reduceIte,reduceCtorEq,Nat.reduceEqDiff,Nat.reduceAdd,Nat.reduceMul,Nat.reduceLT,Nat.reduceSub,Int.reduceLT,Int.reduceLE,Int.reduceEq,Int.reduceNe,Int.reduceSub,Int.reduceAdd,Int.reduceMul,Int.reduceBEq,Int.reduceBNe,Int.reduceGT,Int.reduceGE,Nat.reduceGT,Int.reduceToNat,Int.reduceNeg,Nat.reduceLeDiff,Nat.reduceBEq,Nat.reduceBneDiff,Value.cells, a1, a2, a3, a4, a5, c1, c2, c3, c4, c5, d1, d2, d3, d4, d5, e1, e2, e3, e4, e5, f1, f2, f3, f4, f5, g1, g2, g3, g4, g5, List.mem_cons, List.mem_singleton, forall_eq_or_imp, forall_eq, implies_true, List.not_mem_nil]
  refine (column_c E h6 z3 x.c r1 z3_ok hx2 h1).mono ?_
  rintro r h7 ⟨le7, rfl⟩
  have le7' := Heap.le_trans le6' le7
  obtain ⟨k1, k2, k3, k4, k5⟩ := ld h7 le7'
  have eZ0 : (z3.col x.a r0).V = .agg #[.int .u64 ((z3.col x.a r0).a : Int), .int .u64 ((z3.col x.a r0).b : Int), .int .u64 ((z3.col x.a r0).c : Int)] := rfl
  have eZ1 : ((z3.col x.a r1).col x.b r0).V = .agg #[.int .u64 (((z3.col x.a r1).col x.b r0).a : Int), .int .u64 (((z3.col x.a r1).col x.b r0).b : Int), .int .u64 (((z3.col x.a r1).col x.b r0).c : Int)] := rfl
  have eZ2 : ((z3.col x.b r1).col x.c r0).V = .agg #[.int .u64 (((z3.col x.b r1).col x.c r0).a : Int), .int .u64 (((z3.col x.b r1).col x.c r0).b : Int), .int .u64 (((z3.col x.b r1).col x.c r0).c : Int)] := rfl
  have eZ3 : (z3.col x.c r1).V = .agg #[.int .u64 ((z3.col x.c r1).a : Int), .int .u64 ((z3.col x.c r1).b : Int), .int .u64 ((z3.col x.c r1).c : Int)] := rfl
  simp -implicitDefEqProofs only [zB1,zB2,zB3,zB4,zB5,zB6,zB7,zB8,zB9,zB10,zB11,y00,y01,y02,y03,y04,y05,y06,y07,y08,y09,y0a,y0b,y0c,y0d,y0e,y0f,y0g,y0h,y0i,y0j,y0k,y0l,y0m,y0n,y0o,y0p,y0q,y0r,y0s,y0t,y0u,y0v,y0w,y0x,y0y,y0z,y10,y11,y12,y13,y14,y15,y16,y17,y18,y19,y1a,y1b,y1c,y1d,y1e,y1f,y1g,y1h,y1i,y1j,y1k,y1l,y1m,y1n,y1o,y1p,y1q,y1r,retO,retL,retV,z69,allV,allP,z6a,z6d,z6e,z6k,z6l,z6m,binV,eqV,unV,oOpt,reduceIte,reduceCtorEq,Nat.reduceEqDiff,Nat.reduceAdd,Nat.reduceMul,Nat.reduceLT,Nat.reduceSub,Int.reduceLT,Int.reduceLE,Int.reduceEq,Int.reduceNe,Int.reduceSub,Int.reduceAdd,Int.reduceMul,Int.reduceBEq,Int.reduceBNe,Int.reduceGT,Int.reduceGE,Nat.reduceGT,Int.reduceToNat,Int.reduceNeg,Nat.reduceLeDiff,Nat.reduceBEq,Nat.reduceBneDiff,Value.cells, a1, a2, a3, a4, a5, c1, c2, c3, c4, c5, d1, d2, d3, d4, d5, e1, e2, e3, e4, e5, f1, f2, f3, f4, f5, g1, g2, g3, g4, g5, k1, k2, k3, k4, k5, List.mem_cons, List.mem_singleton, forall_eq_or_imp, forall_eq, implies_true, List.not_mem_nil, List.drop_replicate, List.replicate_zero, List.length_replicate, eZ0, eZ1, eZ2, eZ3]
  intro b5 hb5 b6 hb6 b7 hb7
  have eL : ∀ l : List Value, l = LST (colsF x r0 r1) → h7.set b5 (.own 0 l 12) = h7.set b5 (.own 0 (LST (colsF x r0 r1)) 12) := fun l e => by rw [e]
  have eL := eL [.int .u64 ((z3.col x.a r0).a : Int), .int .u64 ((z3.col x.a r0).b : Int), .int .u64 ((z3.col x.a r0).c : Int), .int .u64 (((z3.col x.a r1).col x.b r0).a : Int), .int .u64 (((z3.col x.a r1).col x.b r0).b : Int), .int .u64 (((z3.col x.a r1).col x.b r0).c : Int), .int .u64 (((z3.col x.b r1).col x.c r0).a : Int), .int .u64 (((z3.col x.b r1).col x.c r0).b : Int), .int .u64 (((z3.col x.b r1).col x.c r0).c : Int), .int .u64 ((z3.col x.c r1).a : Int), .int .u64 ((z3.col x.c r1).b : Int), .int .u64 ((z3.col x.c r1).c : Int)] rfl
  rw [eL] at hb6 hb7 ⊢
  have ht : x.times r0 r1 = (addsF (lowF (colsF x r0 r1)) (highF (colsF x r0 r1)) 5).cut := rfl
  have hC := colsF_ok x r0 r1
  rw [ht]
  generalize colsF x r0 r1 = C at *
  have n65 := (Heap.set_none.1 hb6).1
  have hb6' := (Heap.set_none.1 hb6).2
  have n76 := (Heap.set_none.1 hb7).1
  have hb7' := (Heap.set_none.1 hb7).2
  have n75 := (Heap.set_none.1 hb7').1
  have hb7'' := (Heap.set_none.1 hb7').2
  have q47 := le7' _ _ q4
  have n45 := ne_of_none hb5 q47
  have n46 := ne_of_none hb6' q47
  have n47 := ne_of_none hb7'' q47
  have hle7 := Heap.le_trans leA le7'
  have hb5h := Heap.none_of_le hle7 hb5
  have hb6h := Heap.none_of_le hle7 hb6'
  have hb7h := Heap.none_of_le hle7 hb7''
  have le8 : h.le (((h7.set b5 (.own 0 (LST C) 12)).set b6 (.own 0 [.int .u64 0, .int .u64 0, .int .u64 0, .int .u64 0] 4)).set b7 (.own 0 [.int .u64 0, .int .u64 0, .int .u64 0] 3)) := Heap.le_set (Heap.le_set (Heap.le_set hle7 hb5h _) hb6h _) hb7h _
  have w5 : hcells (((h7.set b5 (.own 0 (LST C) 12)).set b6 (.own 0 [.int .u64 0, .int .u64 0, .int .u64 0, .int .u64 0] 4)).set b7 (.own 0 [.int .u64 0, .int .u64 0, .int .u64 0] 3)) ⟨b5, 0, none⟩ 12 = some (LST C) := by rw [hcells_ne (Ne.symm n75), hcells_ne (Ne.symm n65)]; exact z6o rfl
  have w6 : (((h7.set b5 (.own 0 (LST C) 12)).set b6 (.own 0 [.int .u64 0, .int .u64 0, .int .u64 0, .int .u64 0] 4)).set b7 (.own 0 [.int .u64 0, .int .u64 0, .int .u64 0] 3)) b6 = some (.own 0 (rowQ (fun j => if j < 0 then outW C j else 0) 4) 4) := by rw [Heap.set_ne (Ne.symm n76), Heap.set_self]; rfl
  have w7 : (((h7.set b5 (.own 0 (LST C) 12)).set b6 (.own 0 [.int .u64 0, .int .u64 0, .int .u64 0, .int .u64 0] 4)).set b7 (.own 0 [.int .u64 0, .int .u64 0, .int .u64 0] 3)) b7 = some (.own 0 (carryF C 0).cells 3) := by rw [Heap.set_self]; rfl
  have w4 : (((h7.set b5 (.own 0 (LST C) 12)).set b6 (.own 0 [.int .u64 0, .int .u64 0, .int .u64 0, .int .u64 0] 4)).set b7 (.own 0 [.int .u64 0, .int .u64 0, .int .u64 0] 3)) b4 = some (.own 0 [.int .u64 0, .int .u64 0, .int .u64 0] 3) := by rw [Heap.set_ne n47, Heap.set_ne n46, Heap.set_ne n45]; exact q47
  generalize (((h7.set b5 (.own 0 (LST C) 12)).set b6 (.own 0 [.int .u64 0, .int .u64 0, .int .u64 0, .int .u64 0] 4)).set b7 (.own 0 [.int .u64 0, .int .u64 0, .int .u64 0] 3)) = h8 at le8 w5 w6 w7 w4
  simp -implicitDefEqProofs only [zB1,zB2,zB3,zB4,zB5,zB6,zB7,zB8,zB9,zB10,zB11,y00,y01,y02,y03,y04,y05,y06,y07,y08,y09,y0a,y0b,y0c,y0d,y0e,y0f,y0g,y0h,y0i,y0j,y0k,y0l,y0m,y0n,y0o,y0p,y0q,y0r,y0s,y0t,y0u,y0v,y0w,y0x,y0y,y0z,y10,y11,y12,y13,y14,y15,y16,y17,y18,y19,y1a,y1b,y1c,y1d,y1e,y1f,y1g,y1h,y1i,y1j,y1k,y1l,y1m,y1n,y1o,y1p,y1q,y1r,retO,retL,retV,z69,allV,allP,z6a,z6d,z6e,z6k,z6l,z6m,binV,eqV,unV,oOpt,reduceIte,reduceCtorEq,Nat.reduceEqDiff,Nat.reduceAdd,Nat.reduceMul,Nat.reduceLT,Nat.reduceSub,Int.reduceLT,Int.reduceLE,Int.reduceEq,Int.reduceNe,Int.reduceSub,Int.reduceAdd,Int.reduceMul,Int.reduceBEq,Int.reduceBNe,Int.reduceGT,Int.reduceGE,Nat.reduceGT,Int.reduceToNat,Int.reduceNeg,Nat.reduceLeDiff,Nat.reduceBEq,Nat.reduceBneDiff,Value.cells, w5]
  refine wp_loop' (fun m t H => h.le H ∧ ∃ (i : Nat), t = tl [(4, .pointer (some ⟨b4, 0, none⟩)), (6, .pointer (some ⟨b6, 0, none⟩)), (7, .pointer (some ⟨b7, 0, none⟩)), (47, .agg (LST C).toArray), (48, .int .i64 i)] ∧ i ≤ 4 ∧ m = 4 - i ∧
      H b4 = some (.own 0 [.int .u64 0, .int .u64 0, .int .u64 0] 3) ∧ H b6 = some (.own 0 (rowQ (fun j => if j < i then outW C j else 0) 4) 4) ∧ H b7 = some (.own 0 (carryF C i).cells 3)) 4
    ⟨le8, 0, rfl, by omega, by omega, w4, w6, w7⟩ ?_
  clear le8 w5 w6 w7 w4 eL hb6 hb7 hb7'
  rintro m t H ⟨leH, i, rfl, hi, rfl, w4, w6, w7⟩
  by_cases hlt : i < 4
  · have hi1 : (i : Int) < 4 := by omega
    have hi2 : (0 : Int) ≤ i := by omega
    simp -implicitDefEqProofs only [zB1,zB2,zB3,zB4,zB5,zB6,zB7,zB8,zB9,zB10,zB11,y00,y01,y02,y03,y04,y05,y06,y07,y08,y09,y0a,y0b,y0c,y0d,y0e,y0f,y0g,y0h,y0i,y0j,y0k,y0l,y0m,y0n,y0o,y0p,y0q,y0r,y0s,y0t,y0u,y0v,y0w,y0x,y0y,y0z,y10,y11,y12,y13,y14,y15,y16,y17,y18,y19,y1a,y1b,y1c,y1d,y1e,y1f,y1g,y1h,y1i,y1j,y1k,y1l,y1m,y1n,y1o,y1p,y1q,y1r,retO,retL,retV,z69,allV,allP,z6a,z6d,z6e,z6k,z6l,z6m,binV,eqV,unV,oOpt,reduceIte,reduceCtorEq,Nat.reduceEqDiff,Nat.reduceAdd,Nat.reduceMul,Nat.reduceLT,Nat.reduceSub,Int.reduceLT,Int.reduceLE,Int.reduceEq,Int.reduceNe,Int.reduceSub,Int.reduceAdd,Int.reduceMul,Int.reduceBEq,Int.reduceBNe,Int.reduceGT,Int.reduceGE,Nat.reduceGT,Int.reduceToNat,Int.reduceNeg,Nat.reduceLeDiff,Nat.reduceBEq,Nat.reduceBneDiff,Value.cells, hi1, hi2, Int.toNat_natCast]
    intro b9 hb9
    rw [LST_at C i hlt]
    have eX : Value.agg (C i).cells.toArray = (C i).V := rfl
    rw [eX]
    have st9 : storeV (H.set b9 (.own 0 [.int .u64 0, .int .u64 0, .int .u64 0] 3)) 3 (.pointer (some ⟨b9, 0, none⟩)) (C i).V = some (H.set b9 (.own 0 (C i).cells 3)) := z6q (by omega) rfl rfl rfl (by omega)
    have n97 := ne_of_none hb9 w7
    have n96 := ne_of_none hb9 w6
    have n94 := ne_of_none hb9 w4
    have v7 : hcells (H.set b9 (.own 0 (C i).cells 3)) ⟨b7, 0, none⟩ 3 = some (carryF C i).cells := by rw [hcells_ne n97, hcells_at w7 (by simp [N3.cells])]; rfl
    have v9 : hcells (H.set b9 (.own 0 (C i).cells 3)) ⟨b9, 0, none⟩ 3 = some (C i).cells := z6o rfl
    have eK : Value.agg (carryF C i).cells.toArray = (carryF C i).V := rfl
    simp -implicitDefEqProofs only [zB1,zB2,zB3,zB4,zB5,zB6,zB7,zB8,zB9,zB10,zB11,y00,y01,y02,y03,y04,y05,y06,y07,y08,y09,y0a,y0b,y0c,y0d,y0e,y0f,y0g,y0h,y0i,y0j,y0k,y0l,y0m,y0n,y0o,y0p,y0q,y0r,y0s,y0t,y0u,y0v,y0w,y0x,y0y,y0z,y10,y11,y12,y13,y14,y15,y16,y17,y18,y19,y1a,y1b,y1c,y1d,y1e,y1f,y1g,y1h,y1i,y1j,y1k,y1l,y1m,y1n,y1o,y1p,y1q,y1r,retO,retL,retV,z69,allV,allP,z6a,z6d,z6e,z6k,z6l,z6m,binV,eqV,unV,oOpt,reduceIte,reduceCtorEq,Nat.reduceEqDiff,Nat.reduceAdd,Nat.reduceMul,Nat.reduceLT,Nat.reduceSub,Int.reduceLT,Int.reduceLE,Int.reduceEq,Int.reduceNe,Int.reduceSub,Int.reduceAdd,Int.reduceMul,Int.reduceBEq,Int.reduceBNe,Int.reduceGT,Int.reduceGE,Nat.reduceGT,Int.reduceToNat,Int.reduceNeg,Nat.reduceLeDiff,Nat.reduceBEq,Nat.reduceBneDiff,Value.cells, st9, v7, v9, eK, eX]
    refine (num_plus_c E _ (carryF C i) (C i) (carryF_ok C i) (hC i)).mono ?_
    rintro r h10 ⟨le10, rfl⟩
    have le9 : H.le (H.set b9 (.own 0 (C i).cells 3)) := Heap.le_set (Heap.le_refl _) hb9 _
    have leHH := Heap.le_trans leH (Heap.le_trans le9 le10)
    have u7 := le10 _ _ (le9 _ _ w7)
    have u6 := le10 _ _ (le9 _ _ w6)
    have u4 := le10 _ _ (le9 _ _ w4)
    have hout : outW C i = ((carryF C i).plus (C i)).a := rfl
    have hcar : carryF C (i + 1) = ⟨((carryF C i).plus (C i)).b, ((carryF C i).plus (C i)).c, 0⟩ := rfl
    have hstep := rowQ_step (outW C) i 4
    rw [hout] at hstep
    generalize (carryF C i).plus (C i) = P at *
    have sA := store3 P u7 rfl
    have lA : hcell (h10.set b7 (.own 0 P.cells 3)) ⟨b7, 0, none⟩ = some (.int .u64 (P.a : Int)) := z6n (by simp [N3.cells])
    have sB := rowQ_store (H := h10.set b7 (.own 0 P.cells 3)) (z := P.a) (by rw [Heap.set_ne (Ne.symm n76)]; exact u6) hlt
    rw [hstep] at sB
    have lB1 : hcell ((h10.set b7 (.own 0 P.cells 3)).set b6 (.own 0 (rowQ (fun k => if k < i + 1 then outW C k else 0) 4) 4)) ⟨b7, 1, none⟩ = some (.int .u64 (P.b : Int)) := by rw [hcell_ne n76]; exact z6n (by simp [N3.cells])
    have lB2 : hcell ((h10.set b7 (.own 0 P.cells 3)).set b6 (.own 0 (rowQ (fun k => if k < i + 1 then outW C k else 0) 4) 4)) ⟨b7, 2, none⟩ = some (.int .u64 (P.c : Int)) := by rw [hcell_ne n76]; exact z6n (by simp [N3.cells])
    have sC := store3 (H := (h10.set b7 (.own 0 P.cells 3)).set b6 (.own 0 (rowQ (fun k => if k < i + 1 then outW C k else 0) 4) 4)) (b := b7) (old := P.cells) (⟨P.b, P.c, 0⟩ : N3) (by rw [Heap.set_ne n76, Heap.set_self]) rfl
    have eP : (⟨P.b, P.c, 0⟩ : N3).V = .agg #[.int .u64 (P.b : Int), .int .u64 (P.c : Int), .int .u64 0] := rfl
    rw [eP] at sC
    have w1 : IntKind.i64.wrap ((i : Int) + 1) = ((i + 1 : Nat) : Int) := wrapN (by omega)
    simp -implicitDefEqProofs only [zB1,zB2,zB3,zB4,zB5,zB6,zB7,zB8,zB9,zB10,zB11,y00,y01,y02,y03,y04,y05,y06,y07,y08,y09,y0a,y0b,y0c,y0d,y0e,y0f,y0g,y0h,y0i,y0j,y0k,y0l,y0m,y0n,y0o,y0p,y0q,y0r,y0s,y0t,y0u,y0v,y0w,y0x,y0y,y0z,y10,y11,y12,y13,y14,y15,y16,y17,y18,y19,y1a,y1b,y1c,y1d,y1e,y1f,y1g,y1h,y1i,y1j,y1k,y1l,y1m,y1n,y1o,y1p,y1q,y1r,retO,retL,retV,z69,allV,allP,z6a,z6d,z6e,z6k,z6l,z6m,binV,eqV,unV,oOpt,reduceIte,reduceCtorEq,Nat.reduceEqDiff,Nat.reduceAdd,Nat.reduceMul,Nat.reduceLT,Nat.reduceSub,Int.reduceLT,Int.reduceLE,Int.reduceEq,Int.reduceNe,Int.reduceSub,Int.reduceAdd,Int.reduceMul,Int.reduceBEq,Int.reduceBNe,Int.reduceGT,Int.reduceGE,Nat.reduceGT,Int.reduceToNat,Int.reduceNeg,Nat.reduceLeDiff,Nat.reduceBEq,Nat.reduceBneDiff,Value.cells, sA, lA, hi1, hi2, Int.toNat_natCast, sB, lB1, lB2, sC, w1]
    refine ⟨4 - (i + 1), by omega, Heap.le_set (Heap.le_set (Heap.le_set leHH hb7h _) hb6h _) hb7h _, i + 1, rfl, by omega, rfl, ?_, ?_, ?_⟩
    · rw [Heap.set_ne n47, Heap.set_ne n46, Heap.set_ne n47]; exact u4
    · rw [Heap.set_ne (Ne.symm n76), Heap.set_self]
    · rw [Heap.set_self, hcar]
  · have hi1 : ¬ (i : Int) < 4 := by omega
    have : i = 4 := by omega
    subst this
    have o0 := rowQ_at w6 (show 0 < 4 by omega)
    have o1 := rowQ_at w6 (show 1 < 4 by omega)
    have o2 := rowQ_at w6 (show 2 < 4 by omega)
    have o3 := rowQ_at w6 (show 3 < 4 by omega)
    simp only [Nat.reduceLT, if_true] at o0 o1 o2 o3
    simp -implicitDefEqProofs only [zB1,zB2,zB3,zB4,zB5,zB6,zB7,zB8,zB9,zB10,zB11,y00,y01,y02,y03,y04,y05,y06,y07,y08,y09,y0a,y0b,y0c,y0d,y0e,y0f,y0g,y0h,y0i,y0j,y0k,y0l,y0m,y0n,y0o,y0p,y0q,y0r,y0s,y0t,y0u,y0v,y0w,y0x,y0y,y0z,y10,y11,y12,y13,y14,y15,y16,y17,y18,y19,y1a,y1b,y1c,y1d,y1e,y1f,y1g,y1h,y1i,y1j,y1k,y1l,y1m,y1n,y1o,y1p,y1q,y1r,retO,retL,retV,z69,allV,allP,z6a,z6d,z6e,z6k,z6l,z6m,binV,eqV,unV,oOpt,reduceIte,reduceCtorEq,Nat.reduceEqDiff,Nat.reduceAdd,Nat.reduceMul,Nat.reduceLT,Nat.reduceSub,Int.reduceLT,Int.reduceLE,Int.reduceEq,Int.reduceNe,Int.reduceSub,Int.reduceAdd,Int.reduceMul,Int.reduceBEq,Int.reduceBNe,Int.reduceGT,Int.reduceGE,Nat.reduceGT,Int.reduceToNat,Int.reduceNeg,Nat.reduceLeDiff,Nat.reduceBEq,Nat.reduceBneDiff,Value.cells, hi1, o0, o1, o2, o3, and_3, shr_2, shr_2']
    intro bA hbA
    have nA6 := ne_of_none hbA w6
    have nA4 := ne_of_none hbA w4
    have p2 : hcell (H.set bA (.own 0 (lowF C).cells 3)) ⟨b6, 2, none⟩ = some (.int .u64 ((outW C 2 : Nat) : Int)) := by rw [hcell_ne nA6]; exact o2
    have p3 : hcell (H.set bA (.own 0 (lowF C).cells 3)) ⟨b6, 3, none⟩ = some (.int .u64 ((outW C 3 : Nat) : Int)) := by rw [hcell_ne nA6]; exact o3
    have eLow : [Value.int .u64 ((outW C 0 : Nat) : Int), .int .u64 ((outW C 1 : Nat) : Int), .int .u64 ((outW C 2 % 4 : Nat) : Int)] = (lowF C).cells := rfl
    rw [eLow]
    have ok2 : outW C 2 < 18446744073709551616 := (N3.plus_ok (carryF C 2) (C 2)).1
    have orh := or_hi (outW C 2 / 4) (outW C 3 % 4) (by omega) (by omega)
    simp -implicitDefEqProofs only [zB1,zB2,zB3,zB4,zB5,zB6,zB7,zB8,zB9,zB10,zB11,y00,y01,y02,y03,y04,y05,y06,y07,y08,y09,y0a,y0b,y0c,y0d,y0e,y0f,y0g,y0h,y0i,y0j,y0k,y0l,y0m,y0n,y0o,y0p,y0q,y0r,y0s,y0t,y0u,y0v,y0w,y0x,y0y,y0z,y10,y11,y12,y13,y14,y15,y16,y17,y18,y19,y1a,y1b,y1c,y1d,y1e,y1f,y1g,y1h,y1i,y1j,y1k,y1l,y1m,y1n,y1o,y1p,y1q,y1r,retO,retL,retV,z69,allV,allP,z6a,z6d,z6e,z6k,z6l,z6m,binV,eqV,unV,oOpt,reduceIte,reduceCtorEq,Nat.reduceEqDiff,Nat.reduceAdd,Nat.reduceMul,Nat.reduceLT,Nat.reduceSub,Int.reduceLT,Int.reduceLE,Int.reduceEq,Int.reduceNe,Int.reduceSub,Int.reduceAdd,Int.reduceMul,Int.reduceBEq,Int.reduceBNe,Int.reduceGT,Int.reduceGE,Nat.reduceGT,Int.reduceToNat,Int.reduceNeg,Nat.reduceLeDiff,Nat.reduceBEq,Nat.reduceBneDiff,Value.cells, p2, p3, shr_2, shr_2', shl_62, shl_62', orh]
    intro bB hbB
    have eHigh : [Value.int .u64 ((outW C 2 / 4 + outW C 3 % 4 * 4611686018427387904 : Nat) : Int), .int .u64 ((outW C 3 / 4 : Nat) : Int), .int .u64 0] = (highF C).cells := rfl
    have nBA := (Heap.set_none.1 hbB).1
    have hbB' := (Heap.set_none.1 hbB).2
    rw [eHigh]
    have hlo := lowF_ok C
    have hhi := highF_ok C
    generalize lowF C = X at *
    generalize highF C = Y at *
    have hbAh := Heap.none_of_le leH hbA
    have hbBh := Heap.none_of_le leH hbB'
    have nB4 := ne_of_none hbB' w4
    have le9 : h.le ((H.set bA (.own 0 X.cells 3)).set bB (.own 0 Y.cells 3)) := Heap.le_set (Heap.le_set leH hbAh _) hbBh _
    have uA : ((H.set bA (.own 0 X.cells 3)).set bB (.own 0 Y.cells 3)) bA = some (.own 0 (addsF X Y 0).cells 3) := by rw [Heap.set_ne (Ne.symm nBA), Heap.set_self]; rfl
    have uB : ((H.set bA (.own 0 X.cells 3)).set bB (.own 0 Y.cells 3)) bB = some (.own 0 Y.cells 3) := Heap.set_self _ _ _
    have u4 : ((H.set bA (.own 0 X.cells 3)).set bB (.own 0 Y.cells 3)) b4 = some (.own 0 [.int .u64 0, .int .u64 0, .int .u64 0] 3) := by rw [Heap.set_ne nB4, Heap.set_ne nA4]; exact w4
    generalize ((H.set bA (.own 0 X.cells 3)).set bB (.own 0 Y.cells 3)) = H9 at le9 uA uB u4
    refine wp_loop' (fun m t H => h.le H ∧ ∃ (i : Nat), t = tl [(4, .pointer (some ⟨b4, 0, none⟩)), (10, .pointer (some ⟨bA, 0, none⟩)), (11, .pointer (some ⟨bB, 0, none⟩)), (84, .int .i64 i)] ∧ i ≤ 5 ∧ m = 5 - i ∧
        H b4 = some (.own 0 [.int .u64 0, .int .u64 0, .int .u64 0] 3) ∧ H bA = some (.own 0 (addsF X Y i).cells 3) ∧ H bB = some (.own 0 Y.cells 3)) 5
      ⟨le9, 0, rfl, by omega, by omega, u4, uA, uB⟩ ?_
    clear le9 uA uB u4
    rintro m t H' ⟨leH', i, rfl, hi, rfl, u4, uA, uB⟩
    have lA : hcells H' ⟨bA, 0, none⟩ 3 = some (addsF X Y i).cells := by rw [hcells_at uA (by simp [N3.cells])]; rfl
    have lB : hcells H' ⟨bB, 0, none⟩ 3 = some Y.cells := by rw [hcells_at uB (by simp [N3.cells])]; rfl
    have eA : Value.agg (addsF X Y i).cells.toArray = (addsF X Y i).V := rfl
    have eB : Value.agg Y.cells.toArray = Y.V := rfl
    have oki := addsF_ok (x := X) (y := Y) hlo i
    by_cases hlt : i < 5
    · have hi1 : (i : Int) < 5 := by omega
      have w1 : IntKind.i64.wrap ((i : Int) + 1) = ((i + 1 : Nat) : Int) := wrapN (by omega)
      simp -implicitDefEqProofs only [zB1,zB2,zB3,zB4,zB5,zB6,zB7,zB8,zB9,zB10,zB11,y00,y01,y02,y03,y04,y05,y06,y07,y08,y09,y0a,y0b,y0c,y0d,y0e,y0f,y0g,y0h,y0i,y0j,y0k,y0l,y0m,y0n,y0o,y0p,y0q,y0r,y0s,y0t,y0u,y0v,y0w,y0x,y0y,y0z,y10,y11,y12,y13,y14,y15,y16,y17,y18,y19,y1a,y1b,y1c,y1d,y1e,y1f,y1g,y1h,y1i,y1j,y1k,y1l,y1m,y1n,y1o,y1p,y1q,y1r,retO,retL,retV,z69,allV,allP,z6a,z6d,z6e,z6k,z6l,z6m,binV,eqV,unV,oOpt,reduceIte,reduceCtorEq,Nat.reduceEqDiff,Nat.reduceAdd,Nat.reduceMul,Nat.reduceLT,Nat.reduceSub,Int.reduceLT,Int.reduceLE,Int.reduceEq,Int.reduceNe,Int.reduceSub,Int.reduceAdd,Int.reduceMul,Int.reduceBEq,Int.reduceBNe,Int.reduceGT,Int.reduceGE,Nat.reduceGT,Int.reduceToNat,Int.reduceNeg,Nat.reduceLeDiff,Nat.reduceBEq,Nat.reduceBneDiff,Value.cells, hi1, lA, lB, eA, eB]
      refine (num_plus_c E H' (addsF X Y i) Y oki hhi).mono ?_
      rintro r h11 ⟨le11, rfl⟩
      have st := store3 ((addsF X Y i).plus Y) (le11 _ _ uA) rfl
      simp -implicitDefEqProofs only [zB1,zB2,zB3,zB4,zB5,zB6,zB7,zB8,zB9,zB10,zB11,y00,y01,y02,y03,y04,y05,y06,y07,y08,y09,y0a,y0b,y0c,y0d,y0e,y0f,y0g,y0h,y0i,y0j,y0k,y0l,y0m,y0n,y0o,y0p,y0q,y0r,y0s,y0t,y0u,y0v,y0w,y0x,y0y,y0z,y10,y11,y12,y13,y14,y15,y16,y17,y18,y19,y1a,y1b,y1c,y1d,y1e,y1f,y1g,y1h,y1i,y1j,y1k,y1l,y1m,y1n,y1o,y1p,y1q,y1r,retO,retL,retV,z69,allV,allP,z6a,z6d,z6e,z6k,z6l,z6m,binV,eqV,unV,oOpt,reduceIte,reduceCtorEq,Nat.reduceEqDiff,Nat.reduceAdd,Nat.reduceMul,Nat.reduceLT,Nat.reduceSub,Int.reduceLT,Int.reduceLE,Int.reduceEq,Int.reduceNe,Int.reduceSub,Int.reduceAdd,Int.reduceMul,Int.reduceBEq,Int.reduceBNe,Int.reduceGT,Int.reduceGE,Nat.reduceGT,Int.reduceToNat,Int.reduceNeg,Nat.reduceLeDiff,Nat.reduceBEq,Nat.reduceBneDiff,Value.cells, st, w1]
      refine ⟨5 - (i + 1), by omega, Heap.le_set (Heap.le_trans leH' le11) hbAh _, i + 1, rfl, by omega, rfl, ?_, Heap.set_self _ _ _, ?_⟩
      · rw [Heap.set_ne nA4]; exact le11 _ _ u4
      · rw [Heap.set_ne nBA]; exact le11 _ _ uB
    · have hi1 : ¬ (i : Int) < 5 := by omega
      have : i = 5 := by omega
      subst this
      simp -implicitDefEqProofs only [zB1,zB2,zB3,zB4,zB5,zB6,zB7,zB8,zB9,zB10,zB11,y00,y01,y02,y03,y04,y05,y06,y07,y08,y09,y0a,y0b,y0c,y0d,y0e,y0f,y0g,y0h,y0i,y0j,y0k,y0l,y0m,y0n,y0o,y0p,y0q,y0r,y0s,y0t,y0u,y0v,y0w,y0x,y0y,y0z,y10,y11,y12,y13,y14,y15,y16,y17,y18,y19,y1a,y1b,y1c,y1d,y1e,y1f,y1g,y1h,y1i,y1j,y1k,y1l,y1m,y1n,y1o,y1p,y1q,y1r,retO,retL,retV,z69,allV,allP,z6a,z6d,z6e,z6k,z6l,z6m,binV,eqV,unV,oOpt,reduceIte,reduceCtorEq,Nat.reduceEqDiff,Nat.reduceAdd,Nat.reduceMul,Nat.reduceLT,Nat.reduceSub,Int.reduceLT,Int.reduceLE,Int.reduceEq,Int.reduceNe,Int.reduceSub,Int.reduceAdd,Int.reduceMul,Int.reduceBEq,Int.reduceBNe,Int.reduceGT,Int.reduceGE,Nat.reduceGT,Int.reduceToNat,Int.reduceNeg,Nat.reduceLeDiff,Nat.reduceBEq,Nat.reduceBneDiff,Value.cells, hi1, lA, eA]
      refine (num_cut_c E H' (addsF X Y 5) oki).mono ?_
      rintro r h11 ⟨le11, rfl⟩
      have st := store3 (addsF X Y 5).cut (le11 _ _ u4) rfl
      have hl := z6o (h := h11) (b := b4) (vs := (addsF X Y 5).cut.cells) (sz := 3) (n := 3) rfl
      simp -implicitDefEqProofs only [zB1,zB2,zB3,zB4,zB5,zB6,zB7,zB8,zB9,zB10,zB11,y00,y01,y02,y03,y04,y05,y06,y07,y08,y09,y0a,y0b,y0c,y0d,y0e,y0f,y0g,y0h,y0i,y0j,y0k,y0l,y0m,y0n,y0o,y0p,y0q,y0r,y0s,y0t,y0u,y0v,y0w,y0x,y0y,y0z,y10,y11,y12,y13,y14,y15,y16,y17,y18,y19,y1a,y1b,y1c,y1d,y1e,y1f,y1g,y1h,y1i,y1j,y1k,y1l,y1m,y1n,y1o,y1p,y1q,y1r,retO,retL,retV,z69,allV,allP,z6a,z6d,z6e,z6k,z6l,z6m,binV,eqV,unV,oOpt,reduceIte,reduceCtorEq,Nat.reduceEqDiff,Nat.reduceAdd,Nat.reduceMul,Nat.reduceLT,Nat.reduceSub,Int.reduceLT,Int.reduceLE,Int.reduceEq,Int.reduceNe,Int.reduceSub,Int.reduceAdd,Int.reduceMul,Int.reduceBEq,Int.reduceBNe,Int.reduceGT,Int.reduceGE,Nat.reduceGT,Int.reduceToNat,Int.reduceNeg,Nat.reduceLeDiff,Nat.reduceBEq,Nat.reduceBneDiff,Value.cells, st, hl]
      exact ⟨Heap.le_set (Heap.le_trans leH' le11) hb4'' _, rfl⟩
end Go.Bb
/- Contracts: numbers read, the lowest byte first. -/
namespace Go.Bb
set_option linter.unusedSimpArgs false
set_option linter.unusedVariables false
set_option maxRecDepth 20000

theorem octet_Turn_c (E : EnvT tab) (h : Heap) {v : Value} (l : List UInt8) (hl : l.length ≤ 140737488355328) (s : SlB h v l) : ACallN E.toEnv n_octet_Turn [v] h fun r h' => h.le h' ∧ OwB h h' r l.reverse := by
  refine acall h_octet_Turn ir_octet_Turn rfl rfl (wpA_sound ?_)
  unfold ir_octet_Turn
  simp -implicitDefEqProofs only [zB1,zB2,zB3,zB4,zB5,zB6,zB7,zB8,zB9,zB10,zB11,y00,y01,y02,y03,y04,y05,y06,y07,y08,y09,y0a,y0b,y0c,y0d,y0e,y0f,y0g,y0h,y0i,y0j,y0k,y0l,y0m,y0n,y0o,y0p,y0q,y0r,y0s,y0t,y0u,y0v,y0w,y0x,y0y,y0z,y10,y11,y12,y13,y14,y15,y16,y17,y18,y19,y1a,y1b,y1c,y1d,y1e,y1f,y1g,y1h,y1i,y1j,y1k,y1l,y1m,y1n,y1o,y1p,y1q,y1r,retO,retL,retV,z69,allV,allP,z6a,z6d,z6e,z6k,z6l,z6m,binV,eqV,unV,oOpt,reduceIte,reduceCtorEq,Nat.reduceEqDiff,Nat.reduceAdd,Nat.reduceMul,Nat.reduceLT,Nat.reduceSub,Int.reduceLT,Int.reduceLE,Int.reduceEq,Int.reduceNe,Int.reduceSub,Int.reduceAdd,Int.reduceMul,Int.reduceBEq,Int.reduceBNe,Int.reduceGT,Int.reduceGE,Nat.reduceGT,Int.reduceToNat,Int.reduceNeg,Nat.reduceLeDiff,Nat.reduceBEq,Nat.reduceBneDiff,Value.cells]
  refine (Clone_c E h l hl s).mono ?_
  rintro r h1 ⟨le1, ow⟩
  simp -implicitDefEqProofs only [zB1,zB2,zB3,zB4,zB5,zB6,zB7,zB8,zB9,zB10,zB11,y00,y01,y02,y03,y04,y05,y06,y07,y08,y09,y0a,y0b,y0c,y0d,y0e,y0f,y0g,y0h,y0i,y0j,y0k,y0l,y0m,y0n,y0o,y0p,y0q,y0r,y0s,y0t,y0u,y0v,y0w,y0x,y0y,y0z,y10,y11,y12,y13,y14,y15,y16,y17,y18,y19,y1a,y1b,y1c,y1d,y1e,y1f,y1g,y1h,y1i,y1j,y1k,y1l,y1m,y1n,y1o,y1p,y1q,y1r,retO,retL,retV,z69,allV,allP,z6a,z6d,z6e,z6k,z6l,z6m,binV,eqV,unV,oOpt,reduceIte,reduceCtorEq,Nat.reduceEqDiff,Nat.reduceAdd,Nat.reduceMul,Nat.reduceLT,Nat.reduceSub,Int.reduceLT,Int.reduceLE,Int.reduceEq,Int.reduceNe,Int.reduceSub,Int.reduceAdd,Int.reduceMul,Int.reduceBEq,Int.reduceBNe,Int.reduceGT,Int.reduceGE,Nat.reduceGT,Int.reduceToNat,Int.reduceNeg,Nat.reduceLeDiff,Nat.reduceBEq,Nat.reduceBneDiff,Value.cells]
  refine (Reverse_c E le1 l hl ow).mono ?_
  rintro r2 h2 ⟨le2, ow2⟩
  simp -implicitDefEqProofs only [zB1,zB2,zB3,zB4,zB5,zB6,zB7,zB8,zB9,zB10,zB11,y00,y01,y02,y03,y04,y05,y06,y07,y08,y09,y0a,y0b,y0c,y0d,y0e,y0f,y0g,y0h,y0i,y0j,y0k,y0l,y0m,y0n,y0o,y0p,y0q,y0r,y0s,y0t,y0u,y0v,y0w,y0x,y0y,y0z,y10,y11,y12,y13,y14,y15,y16,y17,y18,y19,y1a,y1b,y1c,y1d,y1e,y1f,y1g,y1h,y1i,y1j,y1k,y1l,y1m,y1n,y1o,y1p,y1q,y1r,retO,retL,retV,z69,allV,allP,z6a,z6d,z6e,z6k,z6l,z6m,binV,eqV,unV,oOpt,reduceIte,reduceCtorEq,Nat.reduceEqDiff,Nat.reduceAdd,Nat.reduceMul,Nat.reduceLT,Nat.reduceSub,Int.reduceLT,Int.reduceLE,Int.reduceEq,Int.reduceNe,Int.reduceSub,Int.reduceAdd,Int.reduceMul,Int.reduceBEq,Int.reduceBNe,Int.reduceGT,Int.reduceGE,Nat.reduceGT,Int.reduceToNat,Int.reduceNeg,Nat.reduceLeDiff,Nat.reduceBEq,Nat.reduceBneDiff,Value.cells]
  exact ⟨le2, ow2⟩

def fromLittleF (l : List UInt8) : U64 := fromBigF l.reverse
theorem octet_FromLittle_c (E : EnvT tab) (h : Heap) {v : Value} (l : List UInt8) (hl : l.length ≤ 8) (s : SlB h v l) : ACallN E.toEnv n_octet_FromLittle [v] h fun r h' => h.le h' ∧ r = .tuple #[u64V (fromLittleF l), .int .i64 0] := by
  refine acall h_octet_FromLittle ir_octet_FromLittle rfl rfl (wpA_sound ?_)
  unfold ir_octet_FromLittle
  simp -implicitDefEqProofs only [zB1,zB2,zB3,zB4,zB5,zB6,zB7,zB8,zB9,zB10,zB11,y00,y01,y02,y03,y04,y05,y06,y07,y08,y09,y0a,y0b,y0c,y0d,y0e,y0f,y0g,y0h,y0i,y0j,y0k,y0l,y0m,y0n,y0o,y0p,y0q,y0r,y0s,y0t,y0u,y0v,y0w,y0x,y0y,y0z,y10,y11,y12,y13,y14,y15,y16,y17,y18,y19,y1a,y1b,y1c,y1d,y1e,y1f,y1g,y1h,y1i,y1j,y1k,y1l,y1m,y1n,y1o,y1p,y1q,y1r,retO,retL,retV,z69,allV,allP,z6a,z6d,z6e,z6k,z6l,z6m,binV,eqV,unV,oOpt,reduceIte,reduceCtorEq,Nat.reduceEqDiff,Nat.reduceAdd,Nat.reduceMul,Nat.reduceLT,Nat.reduceSub,Int.reduceLT,Int.reduceLE,Int.reduceEq,Int.reduceNe,Int.reduceSub,Int.reduceAdd,Int.reduceMul,Int.reduceBEq,Int.reduceBNe,Int.reduceGT,Int.reduceGE,Nat.reduceGT,Int.reduceToNat,Int.reduceNeg,Nat.reduceLeDiff,Nat.reduceBEq,Nat.reduceBneDiff,Value.cells]
  refine (octet_Turn_c E h l (by omega) s).mono ?_
  rintro r h1 ⟨le1, ow⟩
  simp -implicitDefEqProofs only [zB1,zB2,zB3,zB4,zB5,zB6,zB7,zB8,zB9,zB10,zB11,y00,y01,y02,y03,y04,y05,y06,y07,y08,y09,y0a,y0b,y0c,y0d,y0e,y0f,y0g,y0h,y0i,y0j,y0k,y0l,y0m,y0n,y0o,y0p,y0q,y0r,y0s,y0t,y0u,y0v,y0w,y0x,y0y,y0z,y10,y11,y12,y13,y14,y15,y16,y17,y18,y19,y1a,y1b,y1c,y1d,y1e,y1f,y1g,y1h,y1i,y1j,y1k,y1l,y1m,y1n,y1o,y1p,y1q,y1r,retO,retL,retV,z69,allV,allP,z6a,z6d,z6e,z6k,z6l,z6m,binV,eqV,unV,oOpt,reduceIte,reduceCtorEq,Nat.reduceEqDiff,Nat.reduceAdd,Nat.reduceMul,Nat.reduceLT,Nat.reduceSub,Int.reduceLT,Int.reduceLE,Int.reduceEq,Int.reduceNe,Int.reduceSub,Int.reduceAdd,Int.reduceMul,Int.reduceBEq,Int.reduceBNe,Int.reduceGT,Int.reduceGE,Nat.reduceGT,Int.reduceToNat,Int.reduceNeg,Nat.reduceLeDiff,Nat.reduceBEq,Nat.reduceBneDiff,Value.cells]
  refine (octet_FromBig_c E h1 l.reverse (by simpa using hl) ow.sl).mono ?_
  rintro r2 h2 ⟨rfl, rfl⟩
  simp -implicitDefEqProofs only [zB1,zB2,zB3,zB4,zB5,zB6,zB7,zB8,zB9,zB10,zB11,y00,y01,y02,y03,y04,y05,y06,y07,y08,y09,y0a,y0b,y0c,y0d,y0e,y0f,y0g,y0h,y0i,y0j,y0k,y0l,y0m,y0n,y0o,y0p,y0q,y0r,y0s,y0t,y0u,y0v,y0w,y0x,y0y,y0z,y10,y11,y12,y13,y14,y15,y16,y17,y18,y19,y1a,y1b,y1c,y1d,y1e,y1f,y1g,y1h,y1i,y1j,y1k,y1l,y1m,y1n,y1o,y1p,y1q,y1r,retO,retL,retV,z69,allV,allP,z6a,z6d,z6e,z6k,z6l,z6m,binV,eqV,unV,oOpt,reduceIte,reduceCtorEq,Nat.reduceEqDiff,Nat.reduceAdd,Nat.reduceMul,Nat.reduceLT,Nat.reduceSub,Int.reduceLT,Int.reduceLE,Int.reduceEq,Int.reduceNe,Int.reduceSub,Int.reduceAdd,Int.reduceMul,Int.reduceBEq,Int.reduceBNe,Int.reduceGT,Int.reduceGE,Nat.reduceGT,Int.reduceToNat,Int.reduceNeg,Nat.reduceLeDiff,Nat.reduceBEq,Nat.reduceBneDiff,Value.cells]
  exact ⟨le1, rfl⟩
theorem poly_word_c (E : EnvT tab) (h : Heap) {v : Value} (l : List UInt8) (hl : l.length ≤ 8) (s : SlB h v l) : ACallN E.toEnv n_poly_word [v] h fun r h' => h.le h' ∧ r = u64V (fromLittleF l) := by
  refine acall h_poly_word ir_poly_word rfl rfl (wpA_sound ?_)
  unfold ir_poly_word
  simp -implicitDefEqProofs only [zB1,zB2,zB3,zB4,zB5,zB6,zB7,zB8,zB9,zB10,zB11,y00,y01,y02,y03,y04,y05,y06,y07,y08,y09,y0a,y0b,y0c,y0d,y0e,y0f,y0g,y0h,y0i,y0j,y0k,y0l,y0m,y0n,y0o,y0p,y0q,y0r,y0s,y0t,y0u,y0v,y0w,y0x,y0y,y0z,y10,y11,y12,y13,y14,y15,y16,y17,y18,y19,y1a,y1b,y1c,y1d,y1e,y1f,y1g,y1h,y1i,y1j,y1k,y1l,y1m,y1n,y1o,y1p,y1q,y1r,retO,retL,retV,z69,allV,allP,z6a,z6d,z6e,z6k,z6l,z6m,binV,eqV,unV,oOpt,reduceIte,reduceCtorEq,Nat.reduceEqDiff,Nat.reduceAdd,Nat.reduceMul,Nat.reduceLT,Nat.reduceSub,Int.reduceLT,Int.reduceLE,Int.reduceEq,Int.reduceNe,Int.reduceSub,Int.reduceAdd,Int.reduceMul,Int.reduceBEq,Int.reduceBNe,Int.reduceGT,Int.reduceGE,Nat.reduceGT,Int.reduceToNat,Int.reduceNeg,Nat.reduceLeDiff,Nat.reduceBEq,Nat.reduceBneDiff,Value.cells]
  refine (octet_FromLittle_c E h l hl s).mono ?_
  rintro r h1 ⟨le1, rfl⟩
  simp -implicitDefEqProofs only [zB1,zB2,zB3,zB4,zB5,zB6,zB7,zB8,zB9,zB10,zB11,y00,y01,y02,y03,y04,y05,y06,y07,y08,y09,y0a,y0b,y0c,y0d,y0e,y0f,y0g,y0h,y0i,y0j,y0k,y0l,y0m,y0n,y0o,y0p,y0q,y0r,y0s,y0t,y0u,y0v,y0w,y0x,y0y,y0z,y10,y11,y12,y13,y14,y15,y16,y17,y18,y19,y1a,y1b,y1c,y1d,y1e,y1f,y1g,y1h,y1i,y1j,y1k,y1l,y1m,y1n,y1o,y1p,y1q,y1r,retO,retL,retV,z69,allV,allP,z6a,z6d,z6e,z6k,z6l,z6m,binV,eqV,unV,oOpt,reduceIte,reduceCtorEq,Nat.reduceEqDiff,Nat.reduceAdd,Nat.reduceMul,Nat.reduceLT,Nat.reduceSub,Int.reduceLT,Int.reduceLE,Int.reduceEq,Int.reduceNe,Int.reduceSub,Int.reduceAdd,Int.reduceMul,Int.reduceBEq,Int.reduceBNe,Int.reduceGT,Int.reduceGE,Nat.reduceGT,Int.reduceToNat,Int.reduceNeg,Nat.reduceLeDiff,Nat.reduceBEq,Nat.reduceBneDiff,Value.cells]
  exact le1
end Go.Bb
/- Contracts: bytes clamped. -/
namespace Go.Bb
set_option linter.unusedSimpArgs false
set_option linter.unusedVariables false
set_option maxRecDepth 20000

theorem u8_and (b c : UInt8) : IntKind.u8.wrap ((BitVec.ofInt IntKind.u8.bits (b.toNat : Int) &&& BitVec.ofInt IntKind.u8.bits (c.toNat : Int)).toNat : Int) = ((b &&& c).toNat : Int) := by
  rw [show IntKind.u8.bits = 8 from rfl, wrap_u8]
  simp only [ofInt_nat]
  congr 1
  simp [UInt8.toNat_and, Nat.mod_eq_of_lt b.toNat_lt, Nat.mod_eq_of_lt c.toNat_lt]
theorem u8_a15 (b : UInt8) : IntKind.u8.wrap ((BitVec.ofInt IntKind.u8.bits (b.toNat : Int) &&& BitVec.ofInt IntKind.u8.bits 15).toNat : Int) = ((b &&& 15).toNat : Int) := u8_and b 15
theorem u8_a252 (b : UInt8) : IntKind.u8.wrap ((BitVec.ofInt IntKind.u8.bits (b.toNat : Int) &&& BitVec.ofInt IntKind.u8.bits 252).toNat : Int) = ((b &&& 252).toNat : Int) := u8_and b 252

def ixA (i : Nat) : Nat := 4 * i + 3
def ixB (i : Nat) : Nat := 4 * i + 4
def clA (f : Nat → UInt8) (i k : Nat) : UInt8 := if k % 4 = 3 ∧ k < 4 * i + 3 then f k &&& 15 else f k
def clB (f : Nat → UInt8) (i k : Nat) : UInt8 := if k % 4 = 0 ∧ 0 < k ∧ k < 4 * i + 4 then f k &&& 252 else f k
theorem clA_step (f : Nat → UInt8) (i : Nat) : row8 (fun k => if k = ixA i then clA f i (ixA i) &&& 15 else clA f i k) 16 = row8 (clA f (i + 1)) 16 := by
  apply row8_congr
  intro k _
  unfold clA ixA
  by_cases e : k = 4 * i + 3
  · subst e; rw [if_pos rfl, if_neg (by omega), if_pos (by omega)]
  · rw [if_neg e]
    by_cases c : k % 4 = 3 ∧ k < 4 * i + 3
    · rw [if_pos c, if_pos (by omega)]
    · rw [if_neg c, if_neg (by omega)]
theorem clB_step (f : Nat → UInt8) (i : Nat) : row8 (fun k => if k = ixB i then clB f i (ixB i) &&& 252 else clB f i k) 16 = row8 (clB f (i + 1)) 16 := by
  apply row8_congr
  intro k _
  unfold clB ixB
  by_cases e : k = 4 * i + 4
  · subst e; rw [if_pos rfl, if_neg (by omega), if_pos (by omega)]
  · rw [if_neg e]
    by_cases c : k % 4 = 0 ∧ 0 < k ∧ k < 4 * i + 4
    · rw [if_pos c, if_pos (by omega)]
    · rw [if_neg c, if_neg (by omega)]
/-- Bytes, clamped. -/
def clampG (f : Nat → UInt8) : Nat → UInt8 := clB (clA f 4) 3
theorem poly_Clamp_c (E : EnvT tab) (h : Heap) (f : Nat → UInt8) : ACallN E.toEnv n_poly_Clamp [.agg (row8 f 16).toArray] h fun r h' => h.le h' ∧ r = .agg (row8 (clampG f) 16).toArray := by
  refine acall h_poly_Clamp ir_poly_Clamp rfl rfl (wpA_sound ?_)
  unfold ir_poly_Clamp
  simp -implicitDefEqProofs only [zB1,zB2,zB3,zB4,zB5,zB6,zB7,zB8,zB9,zB10,zB11,y00,y01,y02,y03,y04,y05,y06,y07,y08,y09,y0a,y0b,y0c,y0d,y0e,y0f,y0g,y0h,y0i,y0j,y0k,y0l,y0m,y0n,y0o,y0p,y0q,y0r,y0s,y0t,y0u,y0v,y0w,y0x,y0y,y0z,y10,y11,y12,y13,y14,y15,y16,y17,y18,y19,y1a,y1b,y1c,y1d,y1e,y1f,y1g,y1h,y1i,y1j,y1k,y1l,y1m,y1n,y1o,y1p,y1q,y1r,retO,retL,retV,z69,allV,allP,z6a,z6d,z6e,z6k,z6l,z6m,binV,eqV,unV,oOpt,reduceIte,reduceCtorEq,Nat.reduceEqDiff,Nat.reduceAdd,Nat.reduceMul,Nat.reduceLT,Nat.reduceSub,Int.reduceLT,Int.reduceLE,Int.reduceEq,Int.reduceNe,Int.reduceSub,Int.reduceAdd,Int.reduceMul,Int.reduceBEq,Int.reduceBNe,Int.reduceGT,Int.reduceGE,Nat.reduceGT,Int.reduceToNat,Int.reduceNeg,Nat.reduceLeDiff,Nat.reduceBEq,Nat.reduceBneDiff,Value.cells]
  rw [row8_len]
  intro b1 hb1 b2 hb2
  try simp -implicitDefEqProofs only [zB1,zB2,zB3,zB4,zB5,zB6,zB7,zB8,zB9,zB10,zB11,y00,y01,y02,y03,y04,y05,y06,y07,y08,y09,y0a,y0b,y0c,y0d,y0e,y0f,y0g,y0h,y0i,y0j,y0k,y0l,y0m,y0n,y0o,y0p,y0q,y0r,y0s,y0t,y0u,y0v,y0w,y0x,y0y,y0z,y10,y11,y12,y13,y14,y15,y16,y17,y18,y19,y1a,y1b,y1c,y1d,y1e,y1f,y1g,y1h,y1i,y1j,y1k,y1l,y1m,y1n,y1o,y1p,y1q,y1r,retO,retL,retV,z69,allV,allP,z6a,z6d,z6e,z6k,z6l,z6m,binV,eqV,unV,oOpt,reduceIte,reduceCtorEq,Nat.reduceEqDiff,Nat.reduceAdd,Nat.reduceMul,Nat.reduceLT,Nat.reduceSub,Int.reduceLT,Int.reduceLE,Int.reduceEq,Int.reduceNe,Int.reduceSub,Int.reduceAdd,Int.reduceMul,Int.reduceBEq,Int.reduceBNe,Int.reduceGT,Int.reduceGE,Nat.reduceGT,Int.reduceToNat,Int.reduceNeg,Nat.reduceLeDiff,Nat.reduceBEq,Nat.reduceBneDiff,Value.cells]
  rw [List.length_replicate]
  have n21 := (Heap.set_none.1 hb2).1
  have hb2' := (Heap.set_none.1 hb2).2
  have le0 : h.le ((h.set b1 (.own 0 (row8 f 16) 16)).set b2 (.own 0 (List.replicate 16 (.int .u8 0)) 16)) := Heap.le_set (Heap.le_set (Heap.le_refl _) hb1 _) hb2' _
  have q1 : ((h.set b1 (.own 0 (row8 f 16) 16)).set b2 (.own 0 (List.replicate 16 (.int .u8 0)) 16)) b1 = some (.own 0 (row8 (clA f 0) 16) 16) := by
    rw [Heap.set_ne (Ne.symm n21), Heap.set_self]
    rw [show row8 f 16 = row8 (clA f 0) 16 from row8_congr fun k _ => by unfold clA; rw [if_neg (by omega)]]
  have q2 : ((h.set b1 (.own 0 (row8 f 16) 16)).set b2 (.own 0 (List.replicate 16 (.int .u8 0)) 16)) b2 = some (.own 0 (List.replicate 16 (.int .u8 0)) 16) := Heap.set_self _ _ _
  simp -implicitDefEqProofs only [zB1,zB2,zB3,zB4,zB5,zB6,zB7,zB8,zB9,zB10,zB11,y00,y01,y02,y03,y04,y05,y06,y07,y08,y09,y0a,y0b,y0c,y0d,y0e,y0f,y0g,y0h,y0i,y0j,y0k,y0l,y0m,y0n,y0o,y0p,y0q,y0r,y0s,y0t,y0u,y0v,y0w,y0x,y0y,y0z,y10,y11,y12,y13,y14,y15,y16,y17,y18,y19,y1a,y1b,y1c,y1d,y1e,y1f,y1g,y1h,y1i,y1j,y1k,y1l,y1m,y1n,y1o,y1p,y1q,y1r,retO,retL,retV,z69,allV,allP,z6a,z6d,z6e,z6k,z6l,z6m,binV,eqV,unV,oOpt,reduceIte,reduceCtorEq,Nat.reduceEqDiff,Nat.reduceAdd,Nat.reduceMul,Nat.reduceLT,Nat.reduceSub,Int.reduceLT,Int.reduceLE,Int.reduceEq,Int.reduceNe,Int.reduceSub,Int.reduceAdd,Int.reduceMul,Int.reduceBEq,Int.reduceBNe,Int.reduceGT,Int.reduceGE,Nat.reduceGT,Int.reduceToNat,Int.reduceNeg,Nat.reduceLeDiff,Nat.reduceBEq,Nat.reduceBneDiff,Value.cells, List.length_replicate, List.drop_replicate, List.replicate_zero]
  intro b7 hb7
  try simp -implicitDefEqProofs only [zB1,zB2,zB3,zB4,zB5,zB6,zB7,zB8,zB9,zB10,zB11,y00,y01,y02,y03,y04,y05,y06,y07,y08,y09,y0a,y0b,y0c,y0d,y0e,y0f,y0g,y0h,y0i,y0j,y0k,y0l,y0m,y0n,y0o,y0p,y0q,y0r,y0s,y0t,y0u,y0v,y0w,y0x,y0y,y0z,y10,y11,y12,y13,y14,y15,y16,y17,y18,y19,y1a,y1b,y1c,y1d,y1e,y1f,y1g,y1h,y1i,y1j,y1k,y1l,y1m,y1n,y1o,y1p,y1q,y1r,retO,retL,retV,z69,allV,allP,z6a,z6d,z6e,z6k,z6l,z6m,binV,eqV,unV,oOpt,reduceIte,reduceCtorEq,Nat.reduceEqDiff,Nat.reduceAdd,Nat.reduceMul,Nat.reduceLT,Nat.reduceSub,Int.reduceLT,Int.reduceLE,Int.reduceEq,Int.reduceNe,Int.reduceSub,Int.reduceAdd,Int.reduceMul,Int.reduceBEq,Int.reduceBNe,Int.reduceGT,Int.reduceGE,Nat.reduceGT,Int.reduceToNat,Int.reduceNeg,Nat.reduceLeDiff,Nat.reduceBEq,Nat.reduceBneDiff,Value.cells]
  generalize ((h.set b1 (.own 0 (row8 f 16) 16)).set b2 (.own 0 (List.replicate 16 (.int .u8 0)) 16)) = h1 at le0 q1 q2 hb7 ⊢
  have hb1h := hb1
  have n71 := ne_of_none hb7 q1
  have n72 := ne_of_none hb7 q2
  refine wp_loop' (fun m t H => h.le H ∧ ∃ (i : Nat), t = tl [(1, .pointer (some ⟨b1, 0, none⟩)), (2, .pointer (some ⟨b2, 0, none⟩)), (7, .slice (some ⟨b7, 0, none⟩) 4 4), (8, .int .i64 4), (9, .int .i64 i)] ∧ i ≤ 4 ∧ m = 4 - i ∧
      H b1 = some (.own 0 (row8 (clA f i) 16) 16) ∧ H b2 = some (.own 0 (List.replicate 16 (.int .u8 0)) 16) ∧ H b7 = some (.own 0 [.int .i64 3, .int .i64 7, .int .i64 11, .int .i64 15] 4)) 4
    ⟨Heap.le_new le0 hb7 _, 0, rfl, by omega, by omega, by rw [Heap.set_ne n71]; exact q1, by rw [Heap.set_ne n72]; exact q2, Heap.set_self _ _ _⟩ ?_
  rintro m t H ⟨leH, i, rfl, hi, rfl, q1, q2, q7⟩
  by_cases hlt : i < 4
  · have hi1 : (i : Int) < 4 := by omega
    have hi2 : (0 : Int) ≤ i := by omega
    have w1 : IntKind.i64.wrap ((i : Int) + 1) = ((i + 1 : Nat) : Int) := wrapN (by omega)
    have c7 : hcell H ⟨b7, i, none⟩ = some (.int .i64 ((ixA i : Nat) : Int)) := by
      rw [hcell_at q7 (by simpa using hlt)]
      match i, hlt with
      | 0, _ => rfl
      | 1, _ => rfl
      | 2, _ => rfl
      | 3, _ => rfl
    have x1 : ixA i < 16 := by unfold ixA; omega
    have x2 : ((ixA i : Nat) : Int) < 16 := by omega
    have x3 : (0 : Int) ≤ ((ixA i : Nat) : Int) := by omega
    have c1 := row8_at q1 x1
    have s1 := row8_store (z := clA f i (ixA i) &&& 15) q1 x1
    rw [clA_step] at s1
    simp -implicitDefEqProofs only [zB1,zB2,zB3,zB4,zB5,zB6,zB7,zB8,zB9,zB10,zB11,y00,y01,y02,y03,y04,y05,y06,y07,y08,y09,y0a,y0b,y0c,y0d,y0e,y0f,y0g,y0h,y0i,y0j,y0k,y0l,y0m,y0n,y0o,y0p,y0q,y0r,y0s,y0t,y0u,y0v,y0w,y0x,y0y,y0z,y10,y11,y12,y13,y14,y15,y16,y17,y18,y19,y1a,y1b,y1c,y1d,y1e,y1f,y1g,y1h,y1i,y1j,y1k,y1l,y1m,y1n,y1o,y1p,y1q,y1r,retO,retL,retV,z69,allV,allP,z6a,z6d,z6e,z6k,z6l,z6m,binV,eqV,unV,oOpt,reduceIte,reduceCtorEq,Nat.reduceEqDiff,Nat.reduceAdd,Nat.reduceMul,Nat.reduceLT,Nat.reduceSub,Int.reduceLT,Int.reduceLE,Int.reduceEq,Int.reduceNe,Int.reduceSub,Int.reduceAdd,Int.reduceMul,Int.reduceBEq,Int.reduceBNe,Int.reduceGT,Int.reduceGE,Nat.reduceGT,Int.reduceToNat,Int.reduceNeg,Nat.reduceLeDiff,Nat.reduceBEq,Nat.reduceBneDiff,Value.cells, hi1, hi2, Int.toNat_natCast, c7, x2, x3, c1, u8_a15, s1, w1]
    exact ⟨_, by omega, Heap.le_set leH hb1h _, i + 1, rfl, by omega, rfl, Heap.set_self _ _ _, by rw [Heap.set_ne n21]; exact q2, by rw [Heap.set_ne (Ne.symm n71)]; exact q7⟩
  · have hi1 : ¬ (i : Int) < 4 := by omega
    have : i = 4 := by omega
    subst this
    rw [show row8 (clA f 4) 16 = row8 (clB (clA f 4) 0) 16 from row8_congr fun k _ => by (conv => rhs; unfold clB); rw [if_neg (by omega)]] at q1
    generalize hg : clA f 4 = g at q1
    have hcl : clampG f = clB g 3 := by unfold clampG; rw [hg]
    rw [hcl]
    simp -implicitDefEqProofs only [zB1,zB2,zB3,zB4,zB5,zB6,zB7,zB8,zB9,zB10,zB11,y00,y01,y02,y03,y04,y05,y06,y07,y08,y09,y0a,y0b,y0c,y0d,y0e,y0f,y0g,y0h,y0i,y0j,y0k,y0l,y0m,y0n,y0o,y0p,y0q,y0r,y0s,y0t,y0u,y0v,y0w,y0x,y0y,y0z,y10,y11,y12,y13,y14,y15,y16,y17,y18,y19,y1a,y1b,y1c,y1d,y1e,y1f,y1g,y1h,y1i,y1j,y1k,y1l,y1m,y1n,y1o,y1p,y1q,y1r,retO,retL,retV,z69,allV,allP,z6a,z6d,z6e,z6k,z6l,z6m,binV,eqV,unV,oOpt,reduceIte,reduceCtorEq,Nat.reduceEqDiff,Nat.reduceAdd,Nat.reduceMul,Nat.reduceLT,Nat.reduceSub,Int.reduceLT,Int.reduceLE,Int.reduceEq,Int.reduceNe,Int.reduceSub,Int.reduceAdd,Int.reduceMul,Int.reduceBEq,Int.reduceBNe,Int.reduceGT,Int.reduceGE,Nat.reduceGT,Int.reduceToNat,Int.reduceNeg,Nat.reduceLeDiff,Nat.reduceBEq,Nat.reduceBneDiff,Value.cells, hi1, List.length_replicate, List.drop_replicate, List.replicate_zero]
    intro b9 hb9
    try simp -implicitDefEqProofs only [zB1,zB2,zB3,zB4,zB5,zB6,zB7,zB8,zB9,zB10,zB11,y00,y01,y02,y03,y04,y05,y06,y07,y08,y09,y0a,y0b,y0c,y0d,y0e,y0f,y0g,y0h,y0i,y0j,y0k,y0l,y0m,y0n,y0o,y0p,y0q,y0r,y0s,y0t,y0u,y0v,y0w,y0x,y0y,y0z,y10,y11,y12,y13,y14,y15,y16,y17,y18,y19,y1a,y1b,y1c,y1d,y1e,y1f,y1g,y1h,y1i,y1j,y1k,y1l,y1m,y1n,y1o,y1p,y1q,y1r,retO,retL,retV,z69,allV,allP,z6a,z6d,z6e,z6k,z6l,z6m,binV,eqV,unV,oOpt,reduceIte,reduceCtorEq,Nat.reduceEqDiff,Nat.reduceAdd,Nat.reduceMul,Nat.reduceLT,Nat.reduceSub,Int.reduceLT,Int.reduceLE,Int.reduceEq,Int.reduceNe,Int.reduceSub,Int.reduceAdd,Int.reduceMul,Int.reduceBEq,Int.reduceBNe,Int.reduceGT,Int.reduceGE,Nat.reduceGT,Int.reduceToNat,Int.reduceNeg,Nat.reduceLeDiff,Nat.reduceBEq,Nat.reduceBneDiff,Value.cells]
    have n91 := ne_of_none hb9 q1
    have n92 := ne_of_none hb9 q2
    refine wp_loop' (fun m t H => h.le H ∧ ∃ (i : Nat), t = tl [(1, .pointer (some ⟨b1, 0, none⟩)), (2, .pointer (some ⟨b2, 0, none⟩)), (19, .slice (some ⟨b9, 0, none⟩) 3 3), (20, .int .i64 3), (21, .int .i64 i)] ∧ i ≤ 3 ∧ m = 3 - i ∧
        H b1 = some (.own 0 (row8 (clB g i) 16) 16) ∧ H b2 = some (.own 0 (List.replicate 16 (.int .u8 0)) 16) ∧ H b9 = some (.own 0 [.int .i64 4, .int .i64 8, .int .i64 12] 3)) 3
      ⟨Heap.le_new leH hb9 _, 0, rfl, by omega, by omega, by rw [Heap.set_ne n91]; exact q1, by rw [Heap.set_ne n92]; exact q2, Heap.set_self _ _ _⟩ ?_
    clear q1 q2 q7
    rintro m t H ⟨leH, i, rfl, hi, rfl, q1, q2, q7⟩
    by_cases hlt : i < 3
    · have hi1 : (i : Int) < 3 := by omega
      have hi2 : (0 : Int) ≤ i := by omega
      have w1 : IntKind.i64.wrap ((i : Int) + 1) = ((i + 1 : Nat) : Int) := wrapN (by omega)
      have c7 : hcell H ⟨b9, i, none⟩ = some (.int .i64 ((ixB i : Nat) : Int)) := by
        rw [hcell_at q7 (by simpa using hlt)]
        match i, hlt with
        | 0, _ => rfl
        | 1, _ => rfl
        | 2, _ => rfl
      have x1 : ixB i < 16 := by unfold ixB; omega
      have x2 : ((ixB i : Nat) : Int) < 16 := by omega
      have x3 : (0 : Int) ≤ ((ixB i : Nat) : Int) := by omega
      have c1 := row8_at q1 x1
      have s1 := row8_store (z := clB g i (ixB i) &&& 252) q1 x1
      rw [clB_step] at s1
      simp -implicitDefEqProofs only [zB1,zB2,zB3,zB4,zB5,zB6,zB7,zB8,zB9,zB10,zB11,y00,y01,y02,y03,y04,y05,y06,y07,y08,y09,y0a,y0b,y0c,y0d,y0e,y0f,y0g,y0h,y0i,y0j,y0k,y0l,y0m,y0n,y0o,y0p,y0q,y0r,y0s,y0t,y0u,y0v,y0w,y0x,y0y,y0z,y10,y11,y12,y13,y14,y15,y16,y17,y18,y19,y1a,y1b,y1c,y1d,y1e,y1f,y1g,y1h,y1i,y1j,y1k,y1l,y1m,y1n,y1o,y1p,y1q,y1r,retO,retL,retV,z69,allV,allP,z6a,z6d,z6e,z6k,z6l,z6m,binV,eqV,unV,oOpt,reduceIte,reduceCtorEq,Nat.reduceEqDiff,Nat.reduceAdd,Nat.reduceMul,Nat.reduceLT,Nat.reduceSub,Int.reduceLT,Int.reduceLE,Int.reduceEq,Int.reduceNe,Int.reduceSub,Int.reduceAdd,Int.reduceMul,Int.reduceBEq,Int.reduceBNe,Int.reduceGT,Int.reduceGE,Nat.reduceGT,Int.reduceToNat,Int.reduceNeg,Nat.reduceLeDiff,Nat.reduceBEq,Nat.reduceBneDiff,Value.cells, hi1, hi2, Int.toNat_natCast, c7, x2, x3, c1, u8_a252, s1, w1]
      exact ⟨_, by omega, Heap.le_set leH hb1h _, i + 1, rfl, by omega, rfl, Heap.set_self _ _ _, by rw [Heap.set_ne n21]; exact q2, by rw [Heap.set_ne (Ne.symm n91)]; exact q7⟩
    · have hi1 : ¬ (i : Int) < 3 := by omega
      have : i = 3 := by omega
      subst this
      have hl : hcells H ⟨b1, 0, none⟩ 16 = some (row8 (clB g 3) 16) := by rw [hcells_at q1 (by rw [row8_len]; omega)]; simp [List.take_of_length_le, row8_len]
      have st : storeV H 16 (.pointer (some ⟨b2, 0, none⟩)) (.agg (row8 (clB g 3) 16).toArray) = some (H.set b2 (.own 0 (row8 (clB g 3) 16) 16)) := storeV_agg_at q2 (by omega) (row8_len _ _) (by simp [row8, one]) (by simp) (by omega)
      have hl2 : hcells (H.set b2 (.own 0 (row8 (clB g 3) 16) 16)) ⟨b2, 0, none⟩ 16 = some (row8 (clB g 3) 16) := z6o (row8_len _ _)
      simp -implicitDefEqProofs only [zB1,zB2,zB3,zB4,zB5,zB6,zB7,zB8,zB9,zB10,zB11,y00,y01,y02,y03,y04,y05,y06,y07,y08,y09,y0a,y0b,y0c,y0d,y0e,y0f,y0g,y0h,y0i,y0j,y0k,y0l,y0m,y0n,y0o,y0p,y0q,y0r,y0s,y0t,y0u,y0v,y0w,y0x,y0y,y0z,y10,y11,y12,y13,y14,y15,y16,y17,y18,y19,y1a,y1b,y1c,y1d,y1e,y1f,y1g,y1h,y1i,y1j,y1k,y1l,y1m,y1n,y1o,y1p,y1q,y1r,retO,retL,retV,z69,allV,allP,z6a,z6d,z6e,z6k,z6l,z6m,binV,eqV,unV,oOpt,reduceIte,reduceCtorEq,Nat.reduceEqDiff,Nat.reduceAdd,Nat.reduceMul,Nat.reduceLT,Nat.reduceSub,Int.reduceLT,Int.reduceLE,Int.reduceEq,Int.reduceNe,Int.reduceSub,Int.reduceAdd,Int.reduceMul,Int.reduceBEq,Int.reduceBNe,Int.reduceGT,Int.reduceGE,Nat.reduceGT,Int.reduceToNat,Int.reduceNeg,Nat.reduceLeDiff,Nat.reduceBEq,Nat.reduceBneDiff,Value.cells, hi1, hl, st, hl2]
      exact Heap.le_set leH hb2' _
end Go.Bb
/- Contracts: slices of bytes joined. -/
namespace Go.Bb
set_option linter.unusedSimpArgs false
set_option linter.unusedVariables false
set_option maxRecDepth 20000

theorem Ow.head {h0 h : Heap} {size n c : Nat} {base : Option Addr} {cells : List Value} (s : Ow h0 h size (.slice base n c) n cells) {k : Nat} (hk : k ≤ n) : Ow h0 h size (.slice base k c) k (cells.take (k * size)) := by
  have hm : k * size ≤ n * size := Nat.mul_le_mul_right _ hk
  rcases s with ⟨e, rfl, rfl⟩ | ⟨b, o, c', sz, st, pre, rest, e, hc, hn, hb, ho, hl, hz⟩
  · simp only [Value.slice.injEq] at e
    obtain ⟨rfl, _, rfl⟩ := e
    have : k = 0 := by omega
    subst this
    exact .inl ⟨rfl, rfl, by simp⟩
  · simp only [Value.slice.injEq] at e
    obtain ⟨rfl, _, rfl⟩ := e
    refine .inr ⟨b, o, c, sz, st, pre, cells.drop (k * size) ++ rest, rfl, by omega, hn, ?_, ho, by rw [List.length_take]; omega, hz⟩
    rw [hb, List.append_assoc pre, List.append_assoc pre, ← List.append_assoc (cells.take _), List.take_append_drop]
theorem appendZP_ow {size bytes n m : Nat} {z : List Value} {h0 h : Heap} {v : Value} {cells : List Value} {k : IntKind} {K : Value → Heap → Prop} (hle : h0.le h) (hsz : 0 < size) (s : Ow h0 h size v n cells) (hz : z.length = size) (h1 : z.all one = true)
    (hb : (n + m) * bytes ≤ 140737488355328) (hm : n + m ≤ 9223372036854775807)
    (hk : ∀ v h', Ow h0 h' size v (n + m) (cells ++ (List.replicate m z).flatten) → h0.le h' → K v h') : appendZP size bytes z h v (.int k (m : Int)) K := by
  obtain ⟨base, c, rfl⟩ : ∃ base c, v = .slice base n c := by
    rcases s with ⟨rfl, rfl, _⟩ | ⟨b, o, c, sz, _, _, _, rfl, _⟩
    · exact ⟨_, _, rfl⟩
    · exact ⟨_, _, rfl⟩
  simp only [appendZP, Int.toNat_natCast]
  have hmb : m * bytes ≤ (n + m) * bytes := Nat.mul_le_mul_right _ (by omega)
  refine ⟨by omega, by omega, ?_, append_ow hle hsz s (by simp [hz]) (fun u hu => ?_) hb hm hk⟩
  · rw [← Int.natCast_mul]; omega
  · obtain ⟨l, hl, hu⟩ := List.mem_flatten.1 hu
    rw [List.eq_of_mem_replicate hl] at hu
    exact List.all_eq_true.1 h1 u hu

theorem Grow_c (E : EnvT tab) (h : Heap) (n : Nat) (hn : n ≤ 100000000) : ACallN E.toEnv n_slices_Grow_byte_byte [.slice none 0 0, .int .i64 n] h fun r h' => h.le h' ∧ OwB h h' r [] := by
  refine acall h_slices_Grow_byte_byte ir_slices_Grow_byte_byte rfl rfl (wpA_sound ?_)
  unfold ir_slices_Grow_byte_byte
  have n0 : ¬ (n : Int) < 0 := by omega
  have w0 : IntKind.i64.wrap 0 = 0 := by decide
  have w1 : IntKind.i64.wrap ((n : Int) - 0) = (n : Int) := by rw [wrapI (by omega) (by omega)]; omega
  by_cases hz : n = 0
  · subst hz
    simp -implicitDefEqProofs only [zB1,zB2,zB3,zB4,zB5,zB6,zB7,zB8,zB9,zB10,zB11,y00,y01,y02,y03,y04,y05,y06,y07,y08,y09,y0a,y0b,y0c,y0d,y0e,y0f,y0g,y0h,y0i,y0j,y0k,y0l,y0m,y0n,y0o,y0p,y0q,y0r,y0s,y0t,y0u,y0v,y0w,y0x,y0y,y0z,y10,y11,y12,y13,y14,y15,y16,y17,y18,y19,y1a,y1b,y1c,y1d,y1e,y1f,y1g,y1h,y1i,y1j,y1k,y1l,y1m,y1n,y1o,y1p,y1q,y1r,retO,retL,retV,z69,allV,allP,z6a,z6d,z6e,z6k,z6l,z6m,binV,eqV,unV,oOpt,reduceIte,reduceCtorEq,Nat.reduceEqDiff,Nat.reduceAdd,Nat.reduceMul,Nat.reduceLT,Nat.reduceSub,Int.reduceLT,Int.reduceLE,Int.reduceEq,Int.reduceNe,Int.reduceSub,Int.reduceAdd,Int.reduceMul,Int.reduceBEq,Int.reduceBNe,Int.reduceGT,Int.reduceGE,Nat.reduceGT,Int.reduceToNat,Int.reduceNeg,Nat.reduceLeDiff,Nat.reduceBEq,Nat.reduceBneDiff,Value.cells, w0]
    exact ⟨Heap.le_refl _, Ow.nil _ _ _⟩
  · have g0 : (0 : Int) < n := by omega
    have bd : bnds 0 0 none (some (some (.int .i64 0))) none = some (0, 0, 0) := by decide
    simp -implicitDefEqProofs only [zB1,zB2,zB3,zB4,zB5,zB6,zB7,zB8,zB9,zB10,zB11,y00,y01,y02,y03,y04,y05,y06,y07,y08,y09,y0a,y0b,y0c,y0d,y0e,y0f,y0g,y0h,y0i,y0j,y0k,y0l,y0m,y0n,y0o,y0p,y0q,y0r,y0s,y0t,y0u,y0v,y0w,y0x,y0y,y0z,y10,y11,y12,y13,y14,y15,y16,y17,y18,y19,y1a,y1b,y1c,y1d,y1e,y1f,y1g,y1h,y1i,y1j,y1k,y1l,y1m,y1n,y1o,y1p,y1q,y1r,retO,retL,retV,z69,allV,allP,z6a,z6d,z6e,z6k,z6l,z6m,binV,eqV,unV,oOpt,reduceIte,reduceCtorEq,Nat.reduceEqDiff,Nat.reduceAdd,Nat.reduceMul,Nat.reduceLT,Nat.reduceSub,Int.reduceLT,Int.reduceLE,Int.reduceEq,Int.reduceNe,Int.reduceSub,Int.reduceAdd,Int.reduceMul,Int.reduceBEq,Int.reduceBNe,Int.reduceGT,Int.reduceGE,Nat.reduceGT,Int.reduceToNat,Int.reduceNeg,Nat.reduceLeDiff,Nat.reduceBEq,Nat.reduceBneDiff,Value.cells, n0, w0, w1, g0, bd]
    refine appendZP_ow (n := 0) (m := n) (cells := []) (Heap.le_refl _) (by omega) (Ow.nil _ _ _) rfl rfl (by omega) (by omega) ?_
    intro v1 h1 ow1 le1
    rw [Nat.zero_add, List.nil_append] at ow1
    obtain ⟨b1, c1, rfl⟩ := Sl.shape ow1.sl
    have bd2 : bnds n c1 none (some (some (.int .i64 0))) none = some (0, 0, c1) := bnds_hi (by omega) (by omega)
    simp -implicitDefEqProofs only [zB1,zB2,zB3,zB4,zB5,zB6,zB7,zB8,zB9,zB10,zB11,y00,y01,y02,y03,y04,y05,y06,y07,y08,y09,y0a,y0b,y0c,y0d,y0e,y0f,y0g,y0h,y0i,y0j,y0k,y0l,y0m,y0n,y0o,y0p,y0q,y0r,y0s,y0t,y0u,y0v,y0w,y0x,y0y,y0z,y10,y11,y12,y13,y14,y15,y16,y17,y18,y19,y1a,y1b,y1c,y1d,y1e,y1f,y1g,y1h,y1i,y1j,y1k,y1l,y1m,y1n,y1o,y1p,y1q,y1r,retO,retL,retV,z69,allV,allP,z6a,z6d,z6e,z6k,z6l,z6m,binV,eqV,unV,oOpt,reduceIte,reduceCtorEq,Nat.reduceEqDiff,Nat.reduceAdd,Nat.reduceMul,Nat.reduceLT,Nat.reduceSub,Int.reduceLT,Int.reduceLE,Int.reduceEq,Int.reduceNe,Int.reduceSub,Int.reduceAdd,Int.reduceMul,Int.reduceBEq,Int.reduceBNe,Int.reduceGT,Int.reduceGE,Nat.reduceGT,Int.reduceToNat,Int.reduceNeg,Nat.reduceLeDiff,Nat.reduceBEq,Nat.reduceBneDiff,Value.cells, bd2]
    rw [addO b1 c1 (fun a _ => addr_add0 a), Nat.sub_zero]
    have := ow1.head (k := 0) (by omega)
    rw [Nat.zero_mul, List.take_zero] at this
    exact ⟨le1, this⟩

theorem flat_len_take {L : List (List UInt8)} (i : Nat) : (L.take i).flatten.length ≤ L.flatten.length := by
  have : L.flatten = (L.take i).flatten ++ (L.drop i).flatten := by rw [← List.flatten_append, List.take_append_drop]
  rw [this, List.length_append]; omega
theorem Concat_c (E : EnvT tab) (h : Heap) {v : Value} (L : List (List UInt8)) (hl : L.length ≤ 100000) (ht : L.flatten.length ≤ 100000000) (s : SlL h v L) :
    ACallN E.toEnv n_slices_Concat_byte_byte [v] h fun r h' => h.le h' ∧ OwB h h' r L.flatten := by
  obtain ⟨vs, hvs, sl, el⟩ := s
  obtain ⟨base, c, rfl⟩ := Sl.shape sl
  refine acall h_slices_Concat_byte_byte ir_slices_Concat_byte_byte rfl rfl (wpA_sound ?_)
  unfold ir_slices_Concat_byte_byte
  simp -implicitDefEqProofs only [zB1,zB2,zB3,zB4,zB5,zB6,zB7,zB8,zB9,zB10,zB11,y00,y01,y02,y03,y04,y05,y06,y07,y08,y09,y0a,y0b,y0c,y0d,y0e,y0f,y0g,y0h,y0i,y0j,y0k,y0l,y0m,y0n,y0o,y0p,y0q,y0r,y0s,y0t,y0u,y0v,y0w,y0x,y0y,y0z,y10,y11,y12,y13,y14,y15,y16,y17,y18,y19,y1a,y1b,y1c,y1d,y1e,y1f,y1g,y1h,y1i,y1j,y1k,y1l,y1m,y1n,y1o,y1p,y1q,y1r,retO,retL,retV,z69,allV,allP,z6a,z6d,z6e,z6k,z6l,z6m,binV,eqV,unV,oOpt,reduceIte,reduceCtorEq,Nat.reduceEqDiff,Nat.reduceAdd,Nat.reduceMul,Nat.reduceLT,Nat.reduceSub,Int.reduceLT,Int.reduceLE,Int.reduceEq,Int.reduceNe,Int.reduceSub,Int.reduceAdd,Int.reduceMul,Int.reduceBEq,Int.reduceBNe,Int.reduceGT,Int.reduceGE,Nat.reduceGT,Int.reduceToNat,Int.reduceNeg,Nat.reduceLeDiff,Nat.reduceBEq,Nat.reduceBneDiff,Value.cells]
  -- a part
  have part : ∀ i (hi : i < L.length) H, h.le H → ∃ b o, base = some ⟨b, o, none⟩ ∧ hcell H ⟨b, o + i, none⟩ = some (vs[i]'(by omega)) ∧ ∃ bi ci, vs[i]'(by omega) = .slice bi L[i].length ci := by
    intro i hi H hH
    obtain ⟨b, o, c', hv, hc, hcl⟩ := sl.ptr (by omega) (by omega)
    simp only [Value.slice.injEq, true_and] at hv
    obtain ⟨rfl, rfl⟩ := hv
    rw [Nat.mul_one] at hcl
    refine ⟨b, o, rfl, ?_, Sl.shape (el i (by omega) hi)⟩
    rw [hcell_of (hcells_le hH hcl) i hi]; simp [hvs, hi]
  have step : ∀ i (hi : i < L.length), (L.take (i + 1)).flatten = (L.take i).flatten ++ L[i] := fun i hi => by rw [List.take_succ_eq_append_getElem hi, List.flatten_append]; simp
  refine wp_loop' (fun m t H => H = h ∧ ∃ (i : Nat), t = tl [(0, .slice base L.length c), (3, .int .i64 ((L.take i).flatten.length : Nat)), (9, .slice base L.length c), (10, .int .i64 L.length), (11, .int .i64 i)] ∧ i ≤ L.length ∧ m = L.length - i) L.length
    ⟨rfl, 0, rfl, by omega, by omega⟩ ?_
  rintro m t H ⟨rfl, i, rfl, hi, rfl⟩
  by_cases hlt : i < L.length
  · have hi1 : (i : Int) < L.length := by omega
    have hi2 : (0 : Int) ≤ i := by omega
    have w1 : IntKind.i64.wrap ((i : Int) + 1) = ((i + 1 : Nat) : Int) := wrapN (by omega)
    obtain ⟨b, o, rfl, ci, bi, cci, ei⟩ := part i hlt H (Heap.le_refl _)
    have hf := flat_len_take (L := L) (i + 1)
    have hs := step i hlt
    rw [hs, List.length_append] at hf
    have w2 : IntKind.i64.wrap ((((L.take i).flatten.length : Nat) : Int) + ((L[i].length : Nat) : Int)) = (((L.take (i + 1)).flatten.length : Nat) : Int) := by rw [hs, List.length_append, wrapI (by omega) (by omega)]; omega
    have n2 : ¬ (((L.take (i + 1)).flatten.length : Nat) : Int) < 0 := by omega
    generalize hF : (L.take i).flatten.length = F at *
    generalize hF2 : (L.take (i + 1)).flatten.length = F2 at *
    rw [ei] at ci
    simp -implicitDefEqProofs only [zB1,zB2,zB3,zB4,zB5,zB6,zB7,zB8,zB9,zB10,zB11,y00,y01,y02,y03,y04,y05,y06,y07,y08,y09,y0a,y0b,y0c,y0d,y0e,y0f,y0g,y0h,y0i,y0j,y0k,y0l,y0m,y0n,y0o,y0p,y0q,y0r,y0s,y0t,y0u,y0v,y0w,y0x,y0y,y0z,y10,y11,y12,y13,y14,y15,y16,y17,y18,y19,y1a,y1b,y1c,y1d,y1e,y1f,y1g,y1h,y1i,y1j,y1k,y1l,y1m,y1n,y1o,y1p,y1q,y1r,retO,retL,retV,z69,allV,allP,z6a,z6d,z6e,z6k,z6l,z6m,binV,eqV,unV,oOpt,reduceIte,reduceCtorEq,Nat.reduceEqDiff,Nat.reduceAdd,Nat.reduceMul,Nat.reduceLT,Nat.reduceSub,Int.reduceLT,Int.reduceLE,Int.reduceEq,Int.reduceNe,Int.reduceSub,Int.reduceAdd,Int.reduceMul,Int.reduceBEq,Int.reduceBNe,Int.reduceGT,Int.reduceGE,Nat.reduceGT,Int.reduceToNat,Int.reduceNeg,Nat.reduceLeDiff,Nat.reduceBEq,Nat.reduceBneDiff,Value.cells, hi1, hi2, Int.toNat_natCast, ci, w2, n2, w1]
    exact ⟨_, by omega, i + 1, by rw [hF2], by omega, rfl⟩
  · have hi1 : ¬ (i : Int) < L.length := by omega
    have : i = L.length := by omega
    subst this
    rw [List.take_length]
    generalize hFF : L.flatten.length = FF at *
    simp -implicitDefEqProofs only [zB1,zB2,zB3,zB4,zB5,zB6,zB7,zB8,zB9,zB10,zB11,y00,y01,y02,y03,y04,y05,y06,y07,y08,y09,y0a,y0b,y0c,y0d,y0e,y0f,y0g,y0h,y0i,y0j,y0k,y0l,y0m,y0n,y0o,y0p,y0q,y0r,y0s,y0t,y0u,y0v,y0w,y0x,y0y,y0z,y10,y11,y12,y13,y14,y15,y16,y17,y18,y19,y1a,y1b,y1c,y1d,y1e,y1f,y1g,y1h,y1i,y1j,y1k,y1l,y1m,y1n,y1o,y1p,y1q,y1r,retO,retL,retV,z69,allV,allP,z6a,z6d,z6e,z6k,z6l,z6m,binV,eqV,unV,oOpt,reduceIte,reduceCtorEq,Nat.reduceEqDiff,Nat.reduceAdd,Nat.reduceMul,Nat.reduceLT,Nat.reduceSub,Int.reduceLT,Int.reduceLE,Int.reduceEq,Int.reduceNe,Int.reduceSub,Int.reduceAdd,Int.reduceMul,Int.reduceBEq,Int.reduceBNe,Int.reduceGT,Int.reduceGE,Nat.reduceGT,Int.reduceToNat,Int.reduceNeg,Nat.reduceLeDiff,Nat.reduceBEq,Nat.reduceBneDiff,Value.cells, hi1]
    refine (Grow_c E H FF (by omega)).mono ?_
    rintro r h1 ⟨le1, ow1⟩
    simp -implicitDefEqProofs only [zB1,zB2,zB3,zB4,zB5,zB6,zB7,zB8,zB9,zB10,zB11,y00,y01,y02,y03,y04,y05,y06,y07,y08,y09,y0a,y0b,y0c,y0d,y0e,y0f,y0g,y0h,y0i,y0j,y0k,y0l,y0m,y0n,y0o,y0p,y0q,y0r,y0s,y0t,y0u,y0v,y0w,y0x,y0y,y0z,y10,y11,y12,y13,y14,y15,y16,y17,y18,y19,y1a,y1b,y1c,y1d,y1e,y1f,y1g,y1h,y1i,y1j,y1k,y1l,y1m,y1n,y1o,y1p,y1q,y1r,retO,retL,retV,z69,allV,allP,z6a,z6d,z6e,z6k,z6l,z6m,binV,eqV,unV,oOpt,reduceIte,reduceCtorEq,Nat.reduceEqDiff,Nat.reduceAdd,Nat.reduceMul,Nat.reduceLT,Nat.reduceSub,Int.reduceLT,Int.reduceLE,Int.reduceEq,Int.reduceNe,Int.reduceSub,Int.reduceAdd,Int.reduceMul,Int.reduceBEq,Int.reduceBNe,Int.reduceGT,Int.reduceGE,Nat.reduceGT,Int.reduceToNat,Int.reduceNeg,Nat.reduceLeDiff,Nat.reduceBEq,Nat.reduceBneDiff,Value.cells]
    refine wp_loop' (fun m t H' => H.le H' ∧ ∃ (i : Nat) (v6 : Value), t = tl [(6, v6), (25, .slice base L.length c), (26, .int .i64 L.length), (27, .int .i64 i)] ∧ i ≤ L.length ∧ m = L.length - i ∧ OwB H H' v6 (L.take i).flatten) L.length
      ⟨le1, 0, r, rfl, by omega, by omega, by rw [List.take_zero]; exact ow1⟩ ?_
    rintro m t H' ⟨leH, i, v6, rfl, hi, rfl, ow⟩
    by_cases hlt : i < L.length
    · have hi1 : (i : Int) < L.length := by omega
      have hi2 : (0 : Int) ≤ i := by omega
      have w1 : IntKind.i64.wrap ((i : Int) + 1) = ((i + 1 : Nat) : Int) := wrapN (by omega)
      obtain ⟨b, o, rfl, ci, bi, cci, ei⟩ := part i hlt H' leH
      have si := (el i (by omega) hlt).le leH
      have hf := flat_len_take (L := L) (i + 1)
      have hs := step i hlt
      rw [hs, List.length_append] at hf
      simp -implicitDefEqProofs only [zB1,zB2,zB3,zB4,zB5,zB6,zB7,zB8,zB9,zB10,zB11,y00,y01,y02,y03,y04,y05,y06,y07,y08,y09,y0a,y0b,y0c,y0d,y0e,y0f,y0g,y0h,y0i,y0j,y0k,y0l,y0m,y0n,y0o,y0p,y0q,y0r,y0s,y0t,y0u,y0v,y0w,y0x,y0y,y0z,y10,y11,y12,y13,y14,y15,y16,y17,y18,y19,y1a,y1b,y1c,y1d,y1e,y1f,y1g,y1h,y1i,y1j,y1k,y1l,y1m,y1n,y1o,y1p,y1q,y1r,retO,retL,retV,z69,allV,allP,z6a,z6d,z6e,z6k,z6l,z6m,binV,eqV,unV,oOpt,reduceIte,reduceCtorEq,Nat.reduceEqDiff,Nat.reduceAdd,Nat.reduceMul,Nat.reduceLT,Nat.reduceSub,Int.reduceLT,Int.reduceLE,Int.reduceEq,Int.reduceNe,Int.reduceSub,Int.reduceAdd,Int.reduceMul,Int.reduceBEq,Int.reduceBNe,Int.reduceGT,Int.reduceGE,Nat.reduceGT,Int.reduceToNat,Int.reduceNeg,Nat.reduceLeDiff,Nat.reduceBEq,Nat.reduceBneDiff,Value.cells, hi1, hi2, Int.toNat_natCast, ci]
      refine appendP_ow (bytes := 1) (m := L[i].length) (news := L[i].map u8V) leH (by omega) ow si (one_u8 _) (by omega) (by omega) ?_
      intro v7 h7 ow7 le7
      simp -implicitDefEqProofs only [zB1,zB2,zB3,zB4,zB5,zB6,zB7,zB8,zB9,zB10,zB11,y00,y01,y02,y03,y04,y05,y06,y07,y08,y09,y0a,y0b,y0c,y0d,y0e,y0f,y0g,y0h,y0i,y0j,y0k,y0l,y0m,y0n,y0o,y0p,y0q,y0r,y0s,y0t,y0u,y0v,y0w,y0x,y0y,y0z,y10,y11,y12,y13,y14,y15,y16,y17,y18,y19,y1a,y1b,y1c,y1d,y1e,y1f,y1g,y1h,y1i,y1j,y1k,y1l,y1m,y1n,y1o,y1p,y1q,y1r,retO,retL,retV,z69,allV,allP,z6a,z6d,z6e,z6k,z6l,z6m,binV,eqV,unV,oOpt,reduceIte,reduceCtorEq,Nat.reduceEqDiff,Nat.reduceAdd,Nat.reduceMul,Nat.reduceLT,Nat.reduceSub,Int.reduceLT,Int.reduceLE,Int.reduceEq,Int.reduceNe,Int.reduceSub,Int.reduceAdd,Int.reduceMul,Int.reduceBEq,Int.reduceBNe,Int.reduceGT,Int.reduceGE,Nat.reduceGT,Int.reduceToNat,Int.reduceNeg,Nat.reduceLeDiff,Nat.reduceBEq,Nat.reduceBneDiff,Value.cells, w1]
      refine ⟨L.length - (i + 1), by omega, le7, i + 1, v7, rfl, by omega, rfl, ?_⟩
      rw [hs]
      unfold OwB
      rw [List.length_append, List.map_append]
      exact ow7
    · have hi1 : ¬ (i : Int) < L.length := by omega
      have : i = L.length := by omega
      subst this
      rw [List.take_length] at ow
      simp -implicitDefEqProofs only [zB1,zB2,zB3,zB4,zB5,zB6,zB7,zB8,zB9,zB10,zB11,y00,y01,y02,y03,y04,y05,y06,y07,y08,y09,y0a,y0b,y0c,y0d,y0e,y0f,y0g,y0h,y0i,y0j,y0k,y0l,y0m,y0n,y0o,y0p,y0q,y0r,y0s,y0t,y0u,y0v,y0w,y0x,y0y,y0z,y10,y11,y12,y13,y14,y15,y16,y17,y18,y19,y1a,y1b,y1c,y1d,y1e,y1f,y1g,y1h,y1i,y1j,y1k,y1l,y1m,y1n,y1o,y1p,y1q,y1r,retO,retL,retV,z69,allV,allP,z6a,z6d,z6e,z6k,z6l,z6m,binV,eqV,unV,oOpt,reduceIte,reduceCtorEq,Nat.reduceEqDiff,Nat.reduceAdd,Nat.reduceMul,Nat.reduceLT,Nat.reduceSub,Int.reduceLT,Int.reduceLE,Int.reduceEq,Int.reduceNe,Int.reduceSub,Int.reduceAdd,Int.reduceMul,Int.reduceBEq,Int.reduceBNe,Int.reduceGT,Int.reduceGE,Nat.reduceGT,Int.reduceToNat,Int.reduceNeg,Nat.reduceLeDiff,Nat.reduceBEq,Nat.reduceBneDiff,Value.cells, hi1]
      exact ⟨leH, ow⟩
end Go.Bb
