/- My contracts: BbUm BbLdsk0 BbLdsk1. -/
import Derived.Test.YtfekancobbplaaaBbM1
import Derived.Test.YtfekancobbplaaaBbG3
import Derived.Test.YtfekancobbplaaaBbG4
/- Arguments: slices of slices of bytes, texts. -/
namespace Go.Bb
set_option linter.unusedSimpArgs false
set_option linter.unusedVariables false

theorem ok_bytesL {W : World} {v : Value} (h : Shp.ok W (.slice 1 (.slice 1 (.int .u8))) v) : ∃ L : List (List UInt8), SlL (roHeap W) v L ∧ L.length ≤ 9223372036854775807 ∧ ∀ l ∈ L, l.length ≤ 9223372036854775807 := by
  obtain ⟨X, h1, h2, h3⟩ := Shp.ok_rows (α := Value × List UInt8) (f := fun x => [x.1]) (Pr := fun x => SlB (roHeap W) x.1 x.2 ∧ x.2.length ≤ 9223372036854775807) (fun _ => rfl) (fun l hl => by
    have key : ∀ u : Value, l = [u] → u.cells.toList = [u] → one u = true → ∃ x : Value × List UInt8, l = [x.1] ∧ SlB (roHeap W) x.1 x.2 ∧ x.2.length ≤ 9223372036854775807 := by
      intro u e ec eo
      obtain ⟨b, g1, g2⟩ := ok_bytes (W := W) (v := u) ⟨by rw [ec, ← e]; exact hl, eo⟩
      exact ⟨(u, b), e, g1, g2⟩
    rcases hl with e | ⟨a, len, cap, e, _⟩
    · exact key _ e rfl rfl
    · exact key _ e rfl rfl) h
  rw [flatMap_single] at h1
  refine ⟨X.map (·.2), ⟨X.map (·.1), by simp, by rw [List.length_map]; exact h1, ?_⟩, by simpa using h2, ?_⟩
  · intro i a b
    have hi : i < X.length := by simpa using a
    have := (h3 X[i] (List.getElem_mem hi)).1
    simpa using this
  · intro l hl
    obtain ⟨x, hx, rfl⟩ := List.mem_map.1 hl
    exact (h3 x hx).2
/-- A part of what is read, at its place. -/
theorem SlL.part {h : Heap} {base : Option Addr} {c : Nat} {L : List (List UInt8)} (s : SlL h (.slice base L.length c) L) (i : Nat) (hi : i < L.length) :
    ∃ b o u bi ci, base = some ⟨b, o, none⟩ ∧ u = .slice bi L[i].length ci ∧ SlB h u L[i] ∧ ∀ H, h.le H → hcell H ⟨b, o + i, none⟩ = some u := by
  obtain ⟨vs, hvs, sl, el⟩ := s
  obtain ⟨b, o, c', hv, hc, hcl⟩ := sl.ptr (by omega) (by omega)
  simp only [Value.slice.injEq, true_and] at hv
  obtain ⟨rfl, rfl⟩ := hv
  rw [Nat.mul_one] at hcl
  obtain ⟨bi, ci, e⟩ := Sl.shape (el i (by omega) hi)
  refine ⟨b, o, vs[i]'(by omega), bi, ci, rfl, e, el i (by omega) hi, fun H hH => ?_⟩
  rw [hcell_of (hcells_le hH hcl) i hi]; simp [hvs, hi]
theorem SlL.shape {h : Heap} {v : Value} {L : List (List UInt8)} (s : SlL h v L) : ∃ base c, v = .slice base L.length c := by
  obtain ⟨vs, hvs, sl, el⟩ := s
  exact Sl.shape sl
end Go.Bb
/- Laws on disks: what all share. -/
namespace Go.Bb
set_option linter.unusedSimpArgs false
set_option linter.unusedVariables false
set_option maxRecDepth 100000
set_option maxHeartbeats 2000000

/-- What was there at first is there still, and has no colour. -/
def Base (h : Heap) (κ : Pal) (H : Heap) : Prop := ∀ b x, h b = some x → H b = some x ∧ κ b = none
theorem Base.start (h : Heap) : Base h (fun _ => none) h := fun b x q => ⟨q, rfl⟩
theorem Base.ext {h : Heap} {κ κ' : Pal} {H H' : Heap} {cs : Col → Prop} (B : Base h κ H) (e : Ext cs κ H κ' H') : Base h κ' H' := fun b x q => by
  obtain ⟨h1, h2⟩ := B b x q
  exact e.plain h2 h1
theorem Base.le {h : Heap} {κ : Pal} {H : Heap} (B : Base h κ H) : h.le H := fun b x q => (B b x q).1
theorem Base.up {h : Heap} {κ : Pal} {H H' : Heap} (B : Base h κ H) (le : H.le H') : Base h κ H' := B.ext (Ext.le (cs := fun _ => False) le)
theorem SlL.at {h : Heap} {base : Option Addr} {c : Nat} {L : List (List UInt8)} (s : SlL h (.slice base L.length c) L) (i : Nat) (hi : i < L.length) :
    ∃ b o bi ci, base = some ⟨b, o, none⟩ ∧ SlB h (.slice bi L[i].length ci) L[i] ∧ ∀ H, h.le H → hcell H ⟨b, o + i, none⟩ = some (.slice bi L[i].length ci) := by
  obtain ⟨vs, hv, sl, el⟩ := s
  obtain ⟨b, o, c', e, hc, hcl⟩ := sl.ptr (by omega) (by omega)
  simp only [Value.slice.injEq, true_and] at e
  have si := el i (by omega) hi
  obtain ⟨bi, ci, ei⟩ := Sl.shape si
  rw [ei] at si
  refine ⟨b, o, bi, ci, e.1, si, fun H le => ?_⟩
  rw [Nat.mul_one] at hcl
  rw [hcell_of (hcells_le le hcl) i hi, List.getElem?_eq_getElem (by omega), ei]
theorem pk13a : isTrue (evF tab noHooks 1000 50 n_bandboxlaw13_awake [] VM.start) = true := by decide +kernel
theorem law13_awake_c (E : EnvT tab) (h : Heap) : ACallN E.toEnv n_bandboxlaw13_awake [] h fun v h' => v = .bool true ∧ h.le h' := evF_true noHooks_ok _ pk13a

theorem mk_app (a b : List UInt8) : ByteArray.mk a.toArray ++ ByteArray.mk b.toArray = ByteArray.mk (a ++ b).toArray := by apply ByteArray.ext; simp
/-- A disk with one file. -/
def D1 (s a : List UInt8) (W : List (List UInt8)) : DiskF := { room := 10000, files := [(s, ⟨a, W⟩)] }
theorem D1_ok {s a : List UInt8} {W : List (List UInt8)} (hs : s.length ≤ 20) (h1 : a.length + W.flatten.length ≤ 10000) (h2 : W.length ≤ 100000) : (D1 s a W).ok := by
  refine ⟨?_, ?_, by simp [D1], by simp [D1]⟩
  · intro x hx
    simp only [D1, List.mem_singleton] at hx
    subst hx
    exact ⟨⟨h2, by simp only [FileF.all, List.length_append]; omega⟩, hs⟩
  · simp only [D1, sizeF, List.map_cons, List.map_nil, List.sum_cons, List.sum_nil, FileF.size, FileF.all, List.length_append]; omega
theorem ask1 {D : DiskF} {s : List UInt8} (on : D.on = true) (g : goodName s = true) : askF D [s] = 0 := by
  unfold askF; rw [if_pos on, if_pos (by simp [g])]
theorem append1 {s a b : List UInt8} {W : List (List UInt8)} (g : goodName s = true) (h : a.length + W.flatten.length + b.length ≤ 10000) : appendF (D1 s a W) s b = (D1 s a (W ++ [b]), 0) := by
  have hz : sizeF (D1 s a W).files = a.length + W.flatten.length := by
    simp only [D1, sizeF, List.map_cons, List.map_nil, List.sum_cons, List.sum_nil, FileF.size, FileF.all, List.length_append]; omega
  have hl : lookF (D1 s a W).files s = some ⟨a, W⟩ := by simp [lookF, D1]
  unfold appendF
  rw [ask1 rfl g, if_pos rfl, hl, hz, if_neg (by simp only [D1]; omega)]
  simp [D1, turnF', writeF]
theorem append0 {s b : List UInt8} (g : goodName s = true) (h : b.length ≤ 10000) : appendF { room := 10000 } s b = (D1 s [] [b], 0) := by
  unfold appendF
  rw [ask1 rfl g, if_pos rfl]
  simp only [lookF, sizeF, List.map_nil, List.sum_nil, List.find?_nil, Option.map_none]
  rw [if_neg (by omega)]
  rfl
theorem sync1 {s a : List UInt8} {W : List (List UInt8)} (g : goodName s = true) : syncF (D1 s a W) s = (D1 s (a ++ W.flatten) [], 0) := by
  have hl : lookF (D1 s a W).files s = some ⟨a, W⟩ := by simp [lookF, D1]
  unfold syncF
  rw [ask1 rfl g, if_pos rfl, hl]
  simp [D1, turnF', FileF.sync, FileF.all]
end Go.Bb
/- The law DiskSafe. -/
namespace Go.Bb
set_option linter.unusedSimpArgs false
set_option linter.unusedVariables false
set_option maxRecDepth 20000
set_option maxHeartbeats 2000000

theorem take_app (a b : List UInt8) : (a ++ b).take a.length = a := by simp
theorem last_zero : ∀ n, lastF 0#64 n = 0
  | 0 => rfl
  | n + 1 => by
    unfold lastF
    rw [if_neg (by simp [staysF]), last_zero n]
theorem kept_zero {keep : U64} {torn : Int} (L : List (List UInt8)) (h : keep = 0#64) : keptF keep torn (lastF keep L.length) L (lastF keep L.length) = [] := by
  subst h; rw [last_zero]; rfl
theorem stays_all (i : Nat) : staysF 18446744073709551615#64 i = true := by
  unfold staysF
  have : min i 63 < 64 := by omega
  generalize min i 63 = j at this
  have h : ∀ j : Fin 64, (18446744073709551615#64).getLsbD j.val = true := by decide
  exact h ⟨j, this⟩
theorem last_all : ∀ n, lastF 18446744073709551615#64 n = n
  | 0 => rfl
  | n + 1 => by
    unfold lastF
    rw [if_pos (stays_all n)]
theorem kept_all {keep : U64} {torn : Int} (L : List (List UInt8)) (ht : torn ≤ 0) (h : keep = 18446744073709551615#64) : keptF keep torn (lastF keep L.length) L (lastF keep L.length) = L.flatten := by
  subst h
  rw [last_all]
  have : ∀ n, n ≤ L.length → keptF 18446744073709551615#64 torn L.length L n = (L.take n).flatten := by
    intro n
    induction n with
    | zero => intro _; rfl
    | succ n ih =>
      intro hn
      have e : L.getD n [] = L[n] := by simp [List.getD, List.getElem?_eq_getElem (show n < L.length by omega)]
      rw [keptF_succ, ih (by omega), List.take_succ_eq_append_getElem (by omega), List.flatten_append, List.flatten_singleton, e]
      unfold leftF
      rw [if_pos (stays_all n), if_neg (by omega)]
  have := this L.length (Nat.le_refl _)
  rwa [List.take_length] at this
theorem bandboxlaw13_DiskSafe_c (E : EnvT tab) (W : World) {v0 v1 v2 v3 : Value} (s0 : Shp.ok W (.slice 1 (.int .u8)) v0) (s1 : Shp.ok W (.slice 1 (.slice 1 (.int .u8))) v1) (s2 : Shp.ok W (.int .u64) v2) (s3 : Shp.ok W (.int .i64) v3) :
    ACallN E.toEnv n_bandboxlaw13_DiskSafe [v0, v1, v2, v3] (roHeap W) fun v _ => v = .bool true := by
  obtain ⟨a, sa, -⟩ := ok_bytes s0
  obtain ⟨L, sL, -, -⟩ := ok_bytesL s1
  obtain ⟨keep, rfl⟩ : ∃ keep : U64, v2 = .int .u64 keep.toNat := by
    obtain ⟨n, rfl, h1, h2⟩ := Shp.ok_int s2
    simp [IntKind.min, IntKind.max, IntKind.signed, IntKind.bits] at h1 h2
    refine ⟨BitVec.ofNat 64 n.toNat, ?_⟩
    congr 1
    rw [BitVec.toNat_ofNat]; omega
  obtain ⟨torn, rfl, -, -⟩ := Shp.ok_int s3
  obtain ⟨ab, ac, rfl⟩ := Sl.shape sa
  obtain ⟨Lb, Lc, rfl⟩ : ∃ b c, v1 = .slice b L.length c := by
    obtain ⟨vs, h1, h2, h3⟩ := sL
    exact Sl.shape h2
  generalize roHeap W = h at sa sL
  refine acall h_bandboxlaw13_DiskSafe ir_bandboxlaw13_DiskSafe rfl rfl (wpA_sound ?_)
  unfold ir_bandboxlaw13_DiskSafe
  simp -implicitDefEqProofs only [zB1,zB2,zB3,zB4,zB5,zB6,zB7,zB8,zB9,zB10,zB11,y00,y01,y02,y03,y04,y05,y06,y07,y08,y09,y0a,y0b,y0c,y0d,y0e,y0f,y0g,y0h,y0i,y0j,y0k,y0l,y0m,y0n,y0o,y0p,y0q,y0r,y0s,y0t,y0u,y0v,y0w,y0x,y0y,y0z,y10,y11,y12,y13,y14,y15,y16,y17,y18,y19,y1a,y1b,y1c,y1d,y1e,y1f,y1g,y1h,y1i,y1j,y1k,y1l,y1m,y1n,y1o,y1p,y1q,y1r,retO,retL,retV,z6i,allV,allP,z6j,z6m,z6n,z6t,z6u,z6v,binV,eqV,unV,oOpt,reduceIte,reduceCtorEq,Nat.reduceEqDiff,Nat.reduceAdd,Nat.reduceMul,Nat.reduceLT,Nat.reduceSub,Int.reduceLT,Int.reduceLE,Int.reduceEq,Int.reduceNe,Int.reduceSub,Int.reduceAdd,Int.reduceMul,Int.reduceBEq,Int.reduceBNe,Int.reduceGT,Int.reduceGE,Nat.reduceGT,Int.reduceToNat,Int.reduceNeg,Nat.reduceLeDiff,Nat.reduceBEq,Nat.reduceBneDiff,Value.cells]
  refine (law13_awake_c E h).mono ?_
  rintro v h1 ⟨rfl, le1⟩
  replace sa := sa.le le1
  replace sL := sL.le le1
  clear le1
  by_cases g0 : (200 : Int) < a.length
  · simp -implicitDefEqProofs only [zB1,zB2,zB3,zB4,zB5,zB6,zB7,zB8,zB9,zB10,zB11,y00,y01,y02,y03,y04,y05,y06,y07,y08,y09,y0a,y0b,y0c,y0d,y0e,y0f,y0g,y0h,y0i,y0j,y0k,y0l,y0m,y0n,y0o,y0p,y0q,y0r,y0s,y0t,y0u,y0v,y0w,y0x,y0y,y0z,y10,y11,y12,y13,y14,y15,y16,y17,y18,y19,y1a,y1b,y1c,y1d,y1e,y1f,y1g,y1h,y1i,y1j,y1k,y1l,y1m,y1n,y1o,y1p,y1q,y1r,retO,retL,retV,z6i,allV,allP,z6j,z6m,z6n,z6t,z6u,z6v,binV,eqV,unV,oOpt,reduceIte,reduceCtorEq,Nat.reduceEqDiff,Nat.reduceAdd,Nat.reduceMul,Nat.reduceLT,Nat.reduceSub,Int.reduceLT,Int.reduceLE,Int.reduceEq,Int.reduceNe,Int.reduceSub,Int.reduceAdd,Int.reduceMul,Int.reduceBEq,Int.reduceBNe,Int.reduceGT,Int.reduceGE,Nat.reduceGT,Int.reduceToNat,Int.reduceNeg,Nat.reduceLeDiff,Nat.reduceBEq,Nat.reduceBneDiff,Value.cells, g0]
  by_cases g1 : (20 : Int) < L.length
  · simp -implicitDefEqProofs only [zB1,zB2,zB3,zB4,zB5,zB6,zB7,zB8,zB9,zB10,zB11,y00,y01,y02,y03,y04,y05,y06,y07,y08,y09,y0a,y0b,y0c,y0d,y0e,y0f,y0g,y0h,y0i,y0j,y0k,y0l,y0m,y0n,y0o,y0p,y0q,y0r,y0s,y0t,y0u,y0v,y0w,y0x,y0y,y0z,y10,y11,y12,y13,y14,y15,y16,y17,y18,y19,y1a,y1b,y1c,y1d,y1e,y1f,y1g,y1h,y1i,y1j,y1k,y1l,y1m,y1n,y1o,y1p,y1q,y1r,retO,retL,retV,z6i,allV,allP,z6j,z6m,z6n,z6t,z6u,z6v,binV,eqV,unV,oOpt,reduceIte,reduceCtorEq,Nat.reduceEqDiff,Nat.reduceAdd,Nat.reduceMul,Nat.reduceLT,Nat.reduceSub,Int.reduceLT,Int.reduceLE,Int.reduceEq,Int.reduceNe,Int.reduceSub,Int.reduceAdd,Int.reduceMul,Int.reduceBEq,Int.reduceBNe,Int.reduceGT,Int.reduceGE,Nat.reduceGT,Int.reduceToNat,Int.reduceNeg,Nat.reduceLeDiff,Nat.reduceBEq,Nat.reduceBneDiff,Value.cells, g0, g1]
  simp -implicitDefEqProofs only [zB1,zB2,zB3,zB4,zB5,zB6,zB7,zB8,zB9,zB10,zB11,y00,y01,y02,y03,y04,y05,y06,y07,y08,y09,y0a,y0b,y0c,y0d,y0e,y0f,y0g,y0h,y0i,y0j,y0k,y0l,y0m,y0n,y0o,y0p,y0q,y0r,y0s,y0t,y0u,y0v,y0w,y0x,y0y,y0z,y10,y11,y12,y13,y14,y15,y16,y17,y18,y19,y1a,y1b,y1c,y1d,y1e,y1f,y1g,y1h,y1i,y1j,y1k,y1l,y1m,y1n,y1o,y1p,y1q,y1r,retO,retL,retV,z6i,allV,allP,z6j,z6m,z6n,z6t,z6u,z6v,binV,eqV,unV,oOpt,reduceIte,reduceCtorEq,Nat.reduceEqDiff,Nat.reduceAdd,Nat.reduceMul,Nat.reduceLT,Nat.reduceSub,Int.reduceLT,Int.reduceLE,Int.reduceEq,Int.reduceNe,Int.reduceSub,Int.reduceAdd,Int.reduceMul,Int.reduceBEq,Int.reduceBNe,Int.reduceGT,Int.reduceGE,Nat.reduceGT,Int.reduceToNat,Int.reduceNeg,Nat.reduceLeDiff,Nat.reduceBEq,Nat.reduceBneDiff,Value.cells, g0, g1]
  unfold ir_bandboxlaw13_DiskSafe_26
  simp -implicitDefEqProofs only [zB1,zB2,zB3,zB4,zB5,zB6,zB7,zB8,zB9,zB10,zB11,y00,y01,y02,y03,y04,y05,y06,y07,y08,y09,y0a,y0b,y0c,y0d,y0e,y0f,y0g,y0h,y0i,y0j,y0k,y0l,y0m,y0n,y0o,y0p,y0q,y0r,y0s,y0t,y0u,y0v,y0w,y0x,y0y,y0z,y10,y11,y12,y13,y14,y15,y16,y17,y18,y19,y1a,y1b,y1c,y1d,y1e,y1f,y1g,y1h,y1i,y1j,y1k,y1l,y1m,y1n,y1o,y1p,y1q,y1r,retO,retL,retV,z6i,allV,allP,z6j,z6m,z6n,z6t,z6u,z6v,binV,eqV,unV,oOpt,reduceIte,reduceCtorEq,Nat.reduceEqDiff,Nat.reduceAdd,Nat.reduceMul,Nat.reduceLT,Nat.reduceSub,Int.reduceLT,Int.reduceLE,Int.reduceEq,Int.reduceNe,Int.reduceSub,Int.reduceAdd,Int.reduceMul,Int.reduceBEq,Int.reduceBNe,Int.reduceGT,Int.reduceGE,Nat.reduceGT,Int.reduceToNat,Int.reduceNeg,Nat.reduceLeDiff,Nat.reduceBEq,Nat.reduceBneDiff,Value.cells]
  refine (disk_New_c E (fun _ => none) h1 10000).mono ?_
  rintro v h2 ⟨-, -, hN⟩
  obtain ⟨d, κ2, rfl, -, e2, R2⟩ := hN (by omega)
  have B2 := (Base.start h1).ext e2
  clear hN
  have gn : goodName [102] = true := by decide
  simp -implicitDefEqProofs only [zB1,zB2,zB3,zB4,zB5,zB6,zB7,zB8,zB9,zB10,zB11,y00,y01,y02,y03,y04,y05,y06,y07,y08,y09,y0a,y0b,y0c,y0d,y0e,y0f,y0g,y0h,y0i,y0j,y0k,y0l,y0m,y0n,y0o,y0p,y0q,y0r,y0s,y0t,y0u,y0v,y0w,y0x,y0y,y0z,y10,y11,y12,y13,y14,y15,y16,y17,y18,y19,y1a,y1b,y1c,y1d,y1e,y1f,y1g,y1h,y1i,y1j,y1k,y1l,y1m,y1n,y1o,y1p,y1q,y1r,retO,retL,retV,z6i,allV,allP,z6j,z6m,z6n,z6t,z6u,z6v,binV,eqV,unV,oOpt,reduceIte,reduceCtorEq,Nat.reduceEqDiff,Nat.reduceAdd,Nat.reduceMul,Nat.reduceLT,Nat.reduceSub,Int.reduceLT,Int.reduceLE,Int.reduceEq,Int.reduceNe,Int.reduceSub,Int.reduceAdd,Int.reduceMul,Int.reduceBEq,Int.reduceBNe,Int.reduceGT,Int.reduceGE,Nat.reduceGT,Int.reduceToNat,Int.reduceNeg,Nat.reduceLeDiff,Nat.reduceBEq,Nat.reduceBneDiff,Value.cells]
  refine (disk_Append_c E R2 ⟨by simp, by simp [sizeF], by simp, by simp⟩ [102] (by simp) a (by omega) (sa.le B2.le)).mono ?_
  rintro v h3 ⟨rfl, κ3, e3, R3⟩
  rw [append0 gn (by omega)] at R3 ⊢
  have B3 := B2.ext e3
  simp -implicitDefEqProofs only [zB1,zB2,zB3,zB4,zB5,zB6,zB7,zB8,zB9,zB10,zB11,y00,y01,y02,y03,y04,y05,y06,y07,y08,y09,y0a,y0b,y0c,y0d,y0e,y0f,y0g,y0h,y0i,y0j,y0k,y0l,y0m,y0n,y0o,y0p,y0q,y0r,y0s,y0t,y0u,y0v,y0w,y0x,y0y,y0z,y10,y11,y12,y13,y14,y15,y16,y17,y18,y19,y1a,y1b,y1c,y1d,y1e,y1f,y1g,y1h,y1i,y1j,y1k,y1l,y1m,y1n,y1o,y1p,y1q,y1r,retO,retL,retV,z6i,allV,allP,z6j,z6m,z6n,z6t,z6u,z6v,binV,eqV,unV,oOpt,reduceIte,reduceCtorEq,Nat.reduceEqDiff,Nat.reduceAdd,Nat.reduceMul,Nat.reduceLT,Nat.reduceSub,Int.reduceLT,Int.reduceLE,Int.reduceEq,Int.reduceNe,Int.reduceSub,Int.reduceAdd,Int.reduceMul,Int.reduceBEq,Int.reduceBNe,Int.reduceGT,Int.reduceGE,Nat.reduceGT,Int.reduceToNat,Int.reduceNeg,Nat.reduceLeDiff,Nat.reduceBEq,Nat.reduceBneDiff,Value.cells]
  refine (disk_Sync_c E R3 (D1_ok (by simp) (by simp; omega) (by simp)) [102] (by simp)).mono ?_
  rintro v h4 ⟨rfl, κ4, e4, R4⟩
  rw [sync1 gn] at R4 ⊢
  have B4 := B3.ext e4
  simp only [List.nil_append, List.flatten_singleton] at R4
  have f1 := strOfV_sl (sa.le B4.le)
  simp only [strV] at f1
  simp -implicitDefEqProofs only [zB1,zB2,zB3,zB4,zB5,zB6,zB7,zB8,zB9,zB10,zB11,y00,y01,y02,y03,y04,y05,y06,y07,y08,y09,y0a,y0b,y0c,y0d,y0e,y0f,y0g,y0h,y0i,y0j,y0k,y0l,y0m,y0n,y0o,y0p,y0q,y0r,y0s,y0t,y0u,y0v,y0w,y0x,y0y,y0z,y10,y11,y12,y13,y14,y15,y16,y17,y18,y19,y1a,y1b,y1c,y1d,y1e,y1f,y1g,y1h,y1i,y1j,y1k,y1l,y1m,y1n,y1o,y1p,y1q,y1r,retO,retL,retV,z6i,allV,allP,z6j,z6m,z6n,z6t,z6u,z6v,binV,eqV,unV,oOpt,reduceIte,reduceCtorEq,Nat.reduceEqDiff,Nat.reduceAdd,Nat.reduceMul,Nat.reduceLT,Nat.reduceSub,Int.reduceLT,Int.reduceLE,Int.reduceEq,Int.reduceNe,Int.reduceSub,Int.reduceAdd,Int.reduceMul,Int.reduceBEq,Int.reduceBNe,Int.reduceGT,Int.reduceGE,Nat.reduceGT,Int.reduceToNat,Int.reduceNeg,Nat.reduceLeDiff,Nat.reduceBEq,Nat.reduceBneDiff,Value.cells, f1]
  refine wp_loop' (fun m t H => ∃ (i : Nat) (κ : Pal), t = tl [(0, .slice ab a.length ac), (1, .slice Lb L.length Lc), (2, .int .u64 keep.toNat), (3, .int .i64 torn), (9, ptrV d), (11, .string ⟨(a ++ (L.take i).flatten).toArray⟩), (12, .int .i64 i)] ∧ i ≤ L.length ∧ m = L.length - i ∧
      Base h1 κ H ∧ DiskR κ H d (D1 [102] a (L.take i)) ∧ (L.take i).flatten.length ≤ 200 * i) L.length
    ⟨0, κ4, by simp, by omega, by omega, B4, by simpa using R4, by simp⟩ ?_
  rintro m t H ⟨i, κ, rfl, hi, rfl, BH, RH, hf⟩
  by_cases hlt : i < L.length
  · have hi1 : (i : Int) < L.length := by omega
    have hi2 : (0 : Int) ≤ i := by omega
    have w1 : IntKind.i64.wrap ((i : Int) + 1) = ((i + 1 : Nat) : Int) := wrapN (by omega)
    obtain ⟨b, o, bi, ci, rfl, si, ciH⟩ := sL.at i hlt
    have c1 := ciH H BH.le
    simp -implicitDefEqProofs only [zB1,zB2,zB3,zB4,zB5,zB6,zB7,zB8,zB9,zB10,zB11,y00,y01,y02,y03,y04,y05,y06,y07,y08,y09,y0a,y0b,y0c,y0d,y0e,y0f,y0g,y0h,y0i,y0j,y0k,y0l,y0m,y0n,y0o,y0p,y0q,y0r,y0s,y0t,y0u,y0v,y0w,y0x,y0y,y0z,y10,y11,y12,y13,y14,y15,y16,y17,y18,y19,y1a,y1b,y1c,y1d,y1e,y1f,y1g,y1h,y1i,y1j,y1k,y1l,y1m,y1n,y1o,y1p,y1q,y1r,retO,retL,retV,z6i,allV,allP,z6j,z6m,z6n,z6t,z6u,z6v,binV,eqV,unV,oOpt,reduceIte,reduceCtorEq,Nat.reduceEqDiff,Nat.reduceAdd,Nat.reduceMul,Nat.reduceLT,Nat.reduceSub,Int.reduceLT,Int.reduceLE,Int.reduceEq,Int.reduceNe,Int.reduceSub,Int.reduceAdd,Int.reduceMul,Int.reduceBEq,Int.reduceBNe,Int.reduceGT,Int.reduceGE,Nat.reduceGT,Int.reduceToNat,Int.reduceNeg,Nat.reduceLeDiff,Nat.reduceBEq,Nat.reduceBneDiff,Value.cells, hi1, hi2, Int.toNat_natCast, c1]
    unfold ir_bandboxlaw13_DiskSafe_42
    by_cases g2 : (200 : Int) < L[i].length
    · simp -implicitDefEqProofs only [zB1,zB2,zB3,zB4,zB5,zB6,zB7,zB8,zB9,zB10,zB11,y00,y01,y02,y03,y04,y05,y06,y07,y08,y09,y0a,y0b,y0c,y0d,y0e,y0f,y0g,y0h,y0i,y0j,y0k,y0l,y0m,y0n,y0o,y0p,y0q,y0r,y0s,y0t,y0u,y0v,y0w,y0x,y0y,y0z,y10,y11,y12,y13,y14,y15,y16,y17,y18,y19,y1a,y1b,y1c,y1d,y1e,y1f,y1g,y1h,y1i,y1j,y1k,y1l,y1m,y1n,y1o,y1p,y1q,y1r,retO,retL,retV,z6i,allV,allP,z6j,z6m,z6n,z6t,z6u,z6v,binV,eqV,unV,oOpt,reduceIte,reduceCtorEq,Nat.reduceEqDiff,Nat.reduceAdd,Nat.reduceMul,Nat.reduceLT,Nat.reduceSub,Int.reduceLT,Int.reduceLE,Int.reduceEq,Int.reduceNe,Int.reduceSub,Int.reduceAdd,Int.reduceMul,Int.reduceBEq,Int.reduceBNe,Int.reduceGT,Int.reduceGE,Nat.reduceGT,Int.reduceToNat,Int.reduceNeg,Nat.reduceLeDiff,Nat.reduceBEq,Nat.reduceBneDiff,Value.cells, hi1, hi2, Int.toNat_natCast, c1, g2]
    · simp -implicitDefEqProofs only [zB1,zB2,zB3,zB4,zB5,zB6,zB7,zB8,zB9,zB10,zB11,y00,y01,y02,y03,y04,y05,y06,y07,y08,y09,y0a,y0b,y0c,y0d,y0e,y0f,y0g,y0h,y0i,y0j,y0k,y0l,y0m,y0n,y0o,y0p,y0q,y0r,y0s,y0t,y0u,y0v,y0w,y0x,y0y,y0z,y10,y11,y12,y13,y14,y15,y16,y17,y18,y19,y1a,y1b,y1c,y1d,y1e,y1f,y1g,y1h,y1i,y1j,y1k,y1l,y1m,y1n,y1o,y1p,y1q,y1r,retO,retL,retV,z6i,allV,allP,z6j,z6m,z6n,z6t,z6u,z6v,binV,eqV,unV,oOpt,reduceIte,reduceCtorEq,Nat.reduceEqDiff,Nat.reduceAdd,Nat.reduceMul,Nat.reduceLT,Nat.reduceSub,Int.reduceLT,Int.reduceLE,Int.reduceEq,Int.reduceNe,Int.reduceSub,Int.reduceAdd,Int.reduceMul,Int.reduceBEq,Int.reduceBNe,Int.reduceGT,Int.reduceGE,Nat.reduceGT,Int.reduceToNat,Int.reduceNeg,Nat.reduceLeDiff,Nat.reduceBEq,Nat.reduceBneDiff,Value.cells, hi1, hi2, Int.toNat_natCast, c1, g2]
      have et : L.take (i + 1) = L.take i ++ [L[i]] := List.take_succ_eq_append_getElem hlt
      have ok : (D1 [102] a (L.take i)).ok := D1_ok (by simp) (by omega) (by rw [List.length_take]; omega)
      refine (disk_Append_c E RH ok [102] (by simp) L[i] (by omega) (si.le BH.le)).mono ?_
      rintro v H1 ⟨rfl, κ', e5, R5⟩
      rw [append1 gn (by omega), ← et] at R5
      have B5 := BH.ext e5
      have c2 := ciH H1 B5.le
      have f2 := strOfV_sl (si.le B5.le)
      simp only [strV] at f2
      have sz : (ByteArray.mk (a ++ (L.take i).flatten).toArray).size + (ByteArray.mk L[i].toArray).size ≤ 9223372036854775807 := by rw [strV_size, strV_size, List.length_append]; omega
      have sb : ByteArray.mk (a ++ (L.take i).flatten).toArray ++ ByteArray.mk L[i].toArray = ByteArray.mk (a ++ (L.take (i + 1)).flatten).toArray := by
        rw [mk_app, et, List.append_assoc, List.flatten_append, List.flatten_singleton]
      simp -implicitDefEqProofs only [zB1,zB2,zB3,zB4,zB5,zB6,zB7,zB8,zB9,zB10,zB11,y00,y01,y02,y03,y04,y05,y06,y07,y08,y09,y0a,y0b,y0c,y0d,y0e,y0f,y0g,y0h,y0i,y0j,y0k,y0l,y0m,y0n,y0o,y0p,y0q,y0r,y0s,y0t,y0u,y0v,y0w,y0x,y0y,y0z,y10,y11,y12,y13,y14,y15,y16,y17,y18,y19,y1a,y1b,y1c,y1d,y1e,y1f,y1g,y1h,y1i,y1j,y1k,y1l,y1m,y1n,y1o,y1p,y1q,y1r,retO,retL,retV,z6i,allV,allP,z6j,z6m,z6n,z6t,z6u,z6v,binV,eqV,unV,oOpt,reduceIte,reduceCtorEq,Nat.reduceEqDiff,Nat.reduceAdd,Nat.reduceMul,Nat.reduceLT,Nat.reduceSub,Int.reduceLT,Int.reduceLE,Int.reduceEq,Int.reduceNe,Int.reduceSub,Int.reduceAdd,Int.reduceMul,Int.reduceBEq,Int.reduceBNe,Int.reduceGT,Int.reduceGE,Nat.reduceGT,Int.reduceToNat,Int.reduceNeg,Nat.reduceLeDiff,Nat.reduceBEq,Nat.reduceBneDiff,Value.cells, hi1, hi2, Int.toNat_natCast, c2, f2, sz, sb, w1]
      refine ⟨_, ?_, i + 1, κ', rfl, by omega, rfl, B5, R5, ?_⟩
      · omega
      · rw [et, List.flatten_append, List.length_append, List.flatten_singleton]; omega
  · have hi1 : ¬ (i : Int) < L.length := by omega
    have e : i = L.length := by omega
    subst e
    rw [List.take_length] at RH hf ⊢
    simp -implicitDefEqProofs only [zB1,zB2,zB3,zB4,zB5,zB6,zB7,zB8,zB9,zB10,zB11,y00,y01,y02,y03,y04,y05,y06,y07,y08,y09,y0a,y0b,y0c,y0d,y0e,y0f,y0g,y0h,y0i,y0j,y0k,y0l,y0m,y0n,y0o,y0p,y0q,y0r,y0s,y0t,y0u,y0v,y0w,y0x,y0y,y0z,y10,y11,y12,y13,y14,y15,y16,y17,y18,y19,y1a,y1b,y1c,y1d,y1e,y1f,y1g,y1h,y1i,y1j,y1k,y1l,y1m,y1n,y1o,y1p,y1q,y1r,retO,retL,retV,z6i,allV,allP,z6j,z6m,z6n,z6t,z6u,z6v,binV,eqV,unV,oOpt,reduceIte,reduceCtorEq,Nat.reduceEqDiff,Nat.reduceAdd,Nat.reduceMul,Nat.reduceLT,Nat.reduceSub,Int.reduceLT,Int.reduceLE,Int.reduceEq,Int.reduceNe,Int.reduceSub,Int.reduceAdd,Int.reduceMul,Int.reduceBEq,Int.reduceBNe,Int.reduceGT,Int.reduceGE,Nat.reduceGT,Int.reduceToNat,Int.reduceNeg,Nat.reduceLeDiff,Nat.reduceBEq,Nat.reduceBneDiff,Value.cells, hi1]
    unfold ir_bandboxlaw13_DiskSafe_61
    simp -implicitDefEqProofs only [zB1,zB2,zB3,zB4,zB5,zB6,zB7,zB8,zB9,zB10,zB11,y00,y01,y02,y03,y04,y05,y06,y07,y08,y09,y0a,y0b,y0c,y0d,y0e,y0f,y0g,y0h,y0i,y0j,y0k,y0l,y0m,y0n,y0o,y0p,y0q,y0r,y0s,y0t,y0u,y0v,y0w,y0x,y0y,y0z,y10,y11,y12,y13,y14,y15,y16,y17,y18,y19,y1a,y1b,y1c,y1d,y1e,y1f,y1g,y1h,y1i,y1j,y1k,y1l,y1m,y1n,y1o,y1p,y1q,y1r,retO,retL,retV,z6i,allV,allP,z6j,z6m,z6n,z6t,z6u,z6v,binV,eqV,unV,oOpt,reduceIte,reduceCtorEq,Nat.reduceEqDiff,Nat.reduceAdd,Nat.reduceMul,Nat.reduceLT,Nat.reduceSub,Int.reduceLT,Int.reduceLE,Int.reduceEq,Int.reduceNe,Int.reduceSub,Int.reduceAdd,Int.reduceMul,Int.reduceBEq,Int.reduceBNe,Int.reduceGT,Int.reduceGE,Nat.reduceGT,Int.reduceToNat,Int.reduceNeg,Nat.reduceLeDiff,Nat.reduceBEq,Nat.reduceBneDiff,Value.cells]
    refine (disk_Crash_c E RH (D1_ok (by simp) (by omega) (by omega)) keep torn).mono ?_
    rintro v H1 ⟨κ5, e5, R5⟩
    have B5 := BH.ext e5
    simp -implicitDefEqProofs only [zB1,zB2,zB3,zB4,zB5,zB6,zB7,zB8,zB9,zB10,zB11,y00,y01,y02,y03,y04,y05,y06,y07,y08,y09,y0a,y0b,y0c,y0d,y0e,y0f,y0g,y0h,y0i,y0j,y0k,y0l,y0m,y0n,y0o,y0p,y0q,y0r,y0s,y0t,y0u,y0v,y0w,y0x,y0y,y0z,y10,y11,y12,y13,y14,y15,y16,y17,y18,y19,y1a,y1b,y1c,y1d,y1e,y1f,y1g,y1h,y1i,y1j,y1k,y1l,y1m,y1n,y1o,y1p,y1q,y1r,retO,retL,retV,z6i,allV,allP,z6j,z6m,z6n,z6t,z6u,z6v,binV,eqV,unV,oOpt,reduceIte,reduceCtorEq,Nat.reduceEqDiff,Nat.reduceAdd,Nat.reduceMul,Nat.reduceLT,Nat.reduceSub,Int.reduceLT,Int.reduceLE,Int.reduceEq,Int.reduceNe,Int.reduceSub,Int.reduceAdd,Int.reduceMul,Int.reduceBEq,Int.reduceBNe,Int.reduceGT,Int.reduceGE,Nat.reduceGT,Int.reduceToNat,Int.reduceNeg,Nat.reduceLeDiff,Nat.reduceBEq,Nat.reduceBneDiff,Value.cells]
    refine (disk_On_c E R5 (by simp [crashF, D1]) (by simp [crashF, D1])).mono ?_
    rintro v H2 ⟨e6, R6⟩
    have B6 := B5.ext e6
    have eD : onF (crashF (D1 [102] a L) keep torn) = { room := 10000, files := [([102], ⟨a ++ keptF keep torn (lastF keep L.length) L (lastF keep L.length), []⟩)], on := true, lives := 2 } := rfl
    rw [eD] at R6
    have kl := keptF_len keep torn (lastF keep L.length) L (lastF keep L.length) (lastF_le _ _)
    have tl1 := take_flat_len L (lastF keep L.length)
    have k0 : keep = 0#64 → keptF keep torn (lastF keep L.length) L (lastF keep L.length) = [] := kept_zero L
    have k1 : torn ≤ 0 → keep = 18446744073709551615#64 → keptF keep torn (lastF keep L.length) L (lastF keep L.length) = L.flatten := kept_all L
    generalize keptF keep torn (lastF keep L.length) L (lastF keep L.length) = X at R6 kl k0 k1
    simp -implicitDefEqProofs only [zB1,zB2,zB3,zB4,zB5,zB6,zB7,zB8,zB9,zB10,zB11,y00,y01,y02,y03,y04,y05,y06,y07,y08,y09,y0a,y0b,y0c,y0d,y0e,y0f,y0g,y0h,y0i,y0j,y0k,y0l,y0m,y0n,y0o,y0p,y0q,y0r,y0s,y0t,y0u,y0v,y0w,y0x,y0y,y0z,y10,y11,y12,y13,y14,y15,y16,y17,y18,y19,y1a,y1b,y1c,y1d,y1e,y1f,y1g,y1h,y1i,y1j,y1k,y1l,y1m,y1n,y1o,y1p,y1q,y1r,retO,retL,retV,z6i,allV,allP,z6j,z6m,z6n,z6t,z6u,z6v,binV,eqV,unV,oOpt,reduceIte,reduceCtorEq,Nat.reduceEqDiff,Nat.reduceAdd,Nat.reduceMul,Nat.reduceLT,Nat.reduceSub,Int.reduceLT,Int.reduceLE,Int.reduceEq,Int.reduceNe,Int.reduceSub,Int.reduceAdd,Int.reduceMul,Int.reduceBEq,Int.reduceBNe,Int.reduceGT,Int.reduceGE,Nat.reduceGT,Int.reduceToNat,Int.reduceNeg,Nat.reduceLeDiff,Nat.reduceBEq,Nat.reduceBneDiff,Value.cells]
    have ok6 : DiskF.ok { room := 10000, files := [([102], ⟨a ++ X, []⟩)], on := true, lives := 2 } := D1_ok (s := [102]) (a := a ++ X) (W := []) (by simp) (by simp; omega) (by simp)
    refine (disk_Read_c E R6 ok6 [102] (by simp)).mono ?_
    rintro v H3 ⟨le7, b, c, rfl, ow⟩
    have eR : readF { room := 10000, files := [([102], ⟨a ++ X, []⟩)], on := true, lives := 2 } [102] = (a ++ X, 0) := by
      unfold readF
      rw [ask1 rfl gn, if_pos rfl]
      simp [lookF, FileF.all]
    rw [eR] at ow ⊢
    have B7 := B6.up le7
    simp -implicitDefEqProofs only [zB1,zB2,zB3,zB4,zB5,zB6,zB7,zB8,zB9,zB10,zB11,y00,y01,y02,y03,y04,y05,y06,y07,y08,y09,y0a,y0b,y0c,y0d,y0e,y0f,y0g,y0h,y0i,y0j,y0k,y0l,y0m,y0n,y0o,y0p,y0q,y0r,y0s,y0t,y0u,y0v,y0w,y0x,y0y,y0z,y10,y11,y12,y13,y14,y15,y16,y17,y18,y19,y1a,y1b,y1c,y1d,y1e,y1f,y1g,y1h,y1i,y1j,y1k,y1l,y1m,y1n,y1o,y1p,y1q,y1r,retO,retL,retV,z6i,allV,allP,z6j,z6m,z6n,z6t,z6u,z6v,binV,eqV,unV,oOpt,reduceIte,reduceCtorEq,Nat.reduceEqDiff,Nat.reduceAdd,Nat.reduceMul,Nat.reduceLT,Nat.reduceSub,Int.reduceLT,Int.reduceLE,Int.reduceEq,Int.reduceNe,Int.reduceSub,Int.reduceAdd,Int.reduceMul,Int.reduceBEq,Int.reduceBNe,Int.reduceGT,Int.reduceGE,Nat.reduceGT,Int.reduceToNat,Int.reduceNeg,Nat.reduceLeDiff,Nat.reduceBEq,Nat.reduceBneDiff,Value.cells]
    unfold ir_bandboxlaw13_DiskSafe_72
    have sx := ow.sl
    have hcap := Sl.cap sx
    have g2 : (a.length : Int) ≤ ((a ++ X).length : Nat) := by rw [List.length_append]; omega
    have g3 : ((a ++ X).length : Int) ≤ ((ByteArray.mk (a ++ L.flatten).toArray).size : Nat) := by rw [strV_size, List.length_append, List.length_append]; omega
    have bd : bnds (a ++ X).length c none (some (some (.int .i64 (a.length : Int)))) none = some (0, a.length, c) := bnds_hi (by simp) (by simp only [List.length_append] at hcap; omega)
    have s7 := Sl.headB sx (m := a.length) (by simp)
    have f3 := strOfV_sl s7
    have f4 := strOfV_sl (sa.le B7.le)
    have f5 := strOfV_sl sx
    rw [take_app] at f3
    simp only [strV] at f3 f4 f5
    have q1 : ((keep.toNat : Int) != 18446744073709551615) = !decide (keep = 18446744073709551615#64) := by
      rw [Bool.eq_iff_iff]
      simp only [bne_iff_ne, ne_eq, Bool.not_eq_true', decide_eq_false_iff_not]
      refine not_congr ⟨fun e => BitVec.eq_of_toNat_eq ?_, fun e => by subst e; rfl⟩
      rw [BitVec.toNat_ofNat]; omega
    have q0 : ((keep.toNat : Int) != 0) = !decide (keep = 0#64) := by
      rw [Bool.eq_iff_iff]
      simp only [bne_iff_ne, ne_eq, Bool.not_eq_true', decide_eq_false_iff_not]
      refine not_congr ⟨fun e => BitVec.eq_of_toNat_eq ?_, fun e => by subst e; rfl⟩
      rw [BitVec.toNat_ofNat]; omega
    have z1 : X = [] → a ++ X = a := fun e => by rw [e, List.append_nil]
    have z2 : X = L.flatten → a ++ X = a ++ L.flatten := fun e => by rw [e]
    have zz : ∀ x y : List UInt8, x = y → (x == y) = true := fun x y e => by subst e; exact beq_self_eq_true x
    have e1 : ∀ x y : List UInt8, (decide (x = y)) = (x == y) := fun x y => by rw [Bool.eq_iff_iff]; simp
    by_cases hz : keep = 0#64
    · have qa : ((keep.toNat : Int) != 0) = false := by rw [q0, decide_eq_true hz]; rfl
      have z0 : ((a ++ X) == a) = true := zz _ _ (z1 (k0 hz))
      have qb : ((keep.toNat : Int) != 18446744073709551615) = true := by rw [q1, decide_eq_false (by rw [hz]; decide)]; rfl
      by_cases ht : 0 < torn
      · simp -implicitDefEqProofs only [zB1,zB2,zB3,zB4,zB5,zB6,zB7,zB8,zB9,zB10,zB11,y00,y01,y02,y03,y04,y05,y06,y07,y08,y09,y0a,y0b,y0c,y0d,y0e,y0f,y0g,y0h,y0i,y0j,y0k,y0l,y0m,y0n,y0o,y0p,y0q,y0r,y0s,y0t,y0u,y0v,y0w,y0x,y0y,y0z,y10,y11,y12,y13,y14,y15,y16,y17,y18,y19,y1a,y1b,y1c,y1d,y1e,y1f,y1g,y1h,y1i,y1j,y1k,y1l,y1m,y1n,y1o,y1p,y1q,y1r,retO,retL,retV,z6i,allV,allP,z6j,z6m,z6n,z6t,z6u,z6v,binV,eqV,unV,oOpt,reduceIte,reduceCtorEq,Nat.reduceEqDiff,Nat.reduceAdd,Nat.reduceMul,Nat.reduceLT,Nat.reduceSub,Int.reduceLT,Int.reduceLE,Int.reduceEq,Int.reduceNe,Int.reduceSub,Int.reduceAdd,Int.reduceMul,Int.reduceBEq,Int.reduceBNe,Int.reduceGT,Int.reduceGE,Nat.reduceGT,Int.reduceToNat,Int.reduceNeg,Nat.reduceLeDiff,Nat.reduceBEq,Nat.reduceBneDiff,Value.cells, beq_self_eq_true, g2, g3, bd, f3, f4, f5, Nat.sub_zero, addO b c (fun a _ => addr_add0 a), str_toList, qa, qb, ht, z0]
      · simp -implicitDefEqProofs only [zB1,zB2,zB3,zB4,zB5,zB6,zB7,zB8,zB9,zB10,zB11,y00,y01,y02,y03,y04,y05,y06,y07,y08,y09,y0a,y0b,y0c,y0d,y0e,y0f,y0g,y0h,y0i,y0j,y0k,y0l,y0m,y0n,y0o,y0p,y0q,y0r,y0s,y0t,y0u,y0v,y0w,y0x,y0y,y0z,y10,y11,y12,y13,y14,y15,y16,y17,y18,y19,y1a,y1b,y1c,y1d,y1e,y1f,y1g,y1h,y1i,y1j,y1k,y1l,y1m,y1n,y1o,y1p,y1q,y1r,retO,retL,retV,z6i,allV,allP,z6j,z6m,z6n,z6t,z6u,z6v,binV,eqV,unV,oOpt,reduceIte,reduceCtorEq,Nat.reduceEqDiff,Nat.reduceAdd,Nat.reduceMul,Nat.reduceLT,Nat.reduceSub,Int.reduceLT,Int.reduceLE,Int.reduceEq,Int.reduceNe,Int.reduceSub,Int.reduceAdd,Int.reduceMul,Int.reduceBEq,Int.reduceBNe,Int.reduceGT,Int.reduceGE,Nat.reduceGT,Int.reduceToNat,Int.reduceNeg,Nat.reduceLeDiff,Nat.reduceBEq,Nat.reduceBneDiff,Value.cells, beq_self_eq_true, g2, g3, bd, f3, f4, f5, Nat.sub_zero, addO b c (fun a _ => addr_add0 a), str_toList, qa, qb, ht, z0]
    · have qa : ((keep.toNat : Int) != 0) = true := by rw [q0, decide_eq_false hz]; rfl
      by_cases hm : keep = 18446744073709551615#64
      · have qb : ((keep.toNat : Int) != 18446744073709551615) = false := by rw [q1, decide_eq_true hm]; rfl
        by_cases ht : 0 < torn
        · simp -implicitDefEqProofs only [zB1,zB2,zB3,zB4,zB5,zB6,zB7,zB8,zB9,zB10,zB11,y00,y01,y02,y03,y04,y05,y06,y07,y08,y09,y0a,y0b,y0c,y0d,y0e,y0f,y0g,y0h,y0i,y0j,y0k,y0l,y0m,y0n,y0o,y0p,y0q,y0r,y0s,y0t,y0u,y0v,y0w,y0x,y0y,y0z,y10,y11,y12,y13,y14,y15,y16,y17,y18,y19,y1a,y1b,y1c,y1d,y1e,y1f,y1g,y1h,y1i,y1j,y1k,y1l,y1m,y1n,y1o,y1p,y1q,y1r,retO,retL,retV,z6i,allV,allP,z6j,z6m,z6n,z6t,z6u,z6v,binV,eqV,unV,oOpt,reduceIte,reduceCtorEq,Nat.reduceEqDiff,Nat.reduceAdd,Nat.reduceMul,Nat.reduceLT,Nat.reduceSub,Int.reduceLT,Int.reduceLE,Int.reduceEq,Int.reduceNe,Int.reduceSub,Int.reduceAdd,Int.reduceMul,Int.reduceBEq,Int.reduceBNe,Int.reduceGT,Int.reduceGE,Nat.reduceGT,Int.reduceToNat,Int.reduceNeg,Nat.reduceLeDiff,Nat.reduceBEq,Nat.reduceBneDiff,Value.cells, beq_self_eq_true, g2, g3, bd, f3, f4, f5, Nat.sub_zero, addO b c (fun a _ => addr_add0 a), str_toList, qa, qb, ht]
        · have z0 : ((a ++ X) == (a ++ L.flatten)) = true := zz _ _ (z2 (k1 (by omega) hm))
          simp -implicitDefEqProofs only [zB1,zB2,zB3,zB4,zB5,zB6,zB7,zB8,zB9,zB10,zB11,y00,y01,y02,y03,y04,y05,y06,y07,y08,y09,y0a,y0b,y0c,y0d,y0e,y0f,y0g,y0h,y0i,y0j,y0k,y0l,y0m,y0n,y0o,y0p,y0q,y0r,y0s,y0t,y0u,y0v,y0w,y0x,y0y,y0z,y10,y11,y12,y13,y14,y15,y16,y17,y18,y19,y1a,y1b,y1c,y1d,y1e,y1f,y1g,y1h,y1i,y1j,y1k,y1l,y1m,y1n,y1o,y1p,y1q,y1r,retO,retL,retV,z6i,allV,allP,z6j,z6m,z6n,z6t,z6u,z6v,binV,eqV,unV,oOpt,reduceIte,reduceCtorEq,Nat.reduceEqDiff,Nat.reduceAdd,Nat.reduceMul,Nat.reduceLT,Nat.reduceSub,Int.reduceLT,Int.reduceLE,Int.reduceEq,Int.reduceNe,Int.reduceSub,Int.reduceAdd,Int.reduceMul,Int.reduceBEq,Int.reduceBNe,Int.reduceGT,Int.reduceGE,Nat.reduceGT,Int.reduceToNat,Int.reduceNeg,Nat.reduceLeDiff,Nat.reduceBEq,Nat.reduceBneDiff,Value.cells, beq_self_eq_true, g2, g3, bd, f3, f4, f5, Nat.sub_zero, addO b c (fun a _ => addr_add0 a), str_toList, qa, qb, ht, z0]
      · have qb : ((keep.toNat : Int) != 18446744073709551615) = true := by rw [q1, decide_eq_false hm]; rfl
        by_cases ht : 0 < torn
        · simp -implicitDefEqProofs only [zB1,zB2,zB3,zB4,zB5,zB6,zB7,zB8,zB9,zB10,zB11,y00,y01,y02,y03,y04,y05,y06,y07,y08,y09,y0a,y0b,y0c,y0d,y0e,y0f,y0g,y0h,y0i,y0j,y0k,y0l,y0m,y0n,y0o,y0p,y0q,y0r,y0s,y0t,y0u,y0v,y0w,y0x,y0y,y0z,y10,y11,y12,y13,y14,y15,y16,y17,y18,y19,y1a,y1b,y1c,y1d,y1e,y1f,y1g,y1h,y1i,y1j,y1k,y1l,y1m,y1n,y1o,y1p,y1q,y1r,retO,retL,retV,z6i,allV,allP,z6j,z6m,z6n,z6t,z6u,z6v,binV,eqV,unV,oOpt,reduceIte,reduceCtorEq,Nat.reduceEqDiff,Nat.reduceAdd,Nat.reduceMul,Nat.reduceLT,Nat.reduceSub,Int.reduceLT,Int.reduceLE,Int.reduceEq,Int.reduceNe,Int.reduceSub,Int.reduceAdd,Int.reduceMul,Int.reduceBEq,Int.reduceBNe,Int.reduceGT,Int.reduceGE,Nat.reduceGT,Int.reduceToNat,Int.reduceNeg,Nat.reduceLeDiff,Nat.reduceBEq,Nat.reduceBneDiff,Value.cells, beq_self_eq_true, g2, g3, bd, f3, f4, f5, Nat.sub_zero, addO b c (fun a _ => addr_add0 a), str_toList, qa, qb, ht]
        · simp -implicitDefEqProofs only [zB1,zB2,zB3,zB4,zB5,zB6,zB7,zB8,zB9,zB10,zB11,y00,y01,y02,y03,y04,y05,y06,y07,y08,y09,y0a,y0b,y0c,y0d,y0e,y0f,y0g,y0h,y0i,y0j,y0k,y0l,y0m,y0n,y0o,y0p,y0q,y0r,y0s,y0t,y0u,y0v,y0w,y0x,y0y,y0z,y10,y11,y12,y13,y14,y15,y16,y17,y18,y19,y1a,y1b,y1c,y1d,y1e,y1f,y1g,y1h,y1i,y1j,y1k,y1l,y1m,y1n,y1o,y1p,y1q,y1r,retO,retL,retV,z6i,allV,allP,z6j,z6m,z6n,z6t,z6u,z6v,binV,eqV,unV,oOpt,reduceIte,reduceCtorEq,Nat.reduceEqDiff,Nat.reduceAdd,Nat.reduceMul,Nat.reduceLT,Nat.reduceSub,Int.reduceLT,Int.reduceLE,Int.reduceEq,Int.reduceNe,Int.reduceSub,Int.reduceAdd,Int.reduceMul,Int.reduceBEq,Int.reduceBNe,Int.reduceGT,Int.reduceGE,Nat.reduceGT,Int.reduceToNat,Int.reduceNeg,Nat.reduceLeDiff,Nat.reduceBEq,Nat.reduceBneDiff,Value.cells, beq_self_eq_true, g2, g3, bd, f3, f4, f5, Nat.sub_zero, addO b c (fun a _ => addr_add0 a), str_toList, qa, qb, ht]
end Go.Bb
