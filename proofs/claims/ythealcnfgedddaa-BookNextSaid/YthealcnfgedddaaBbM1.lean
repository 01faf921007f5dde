/- My contracts: BbW32 BbUl BbCoct BbCbig BbPsha BbCoct2 BbUj BbUq BbRow BbPref4 BbCoct3 BbCmul BbCpoly0 BbCpoly1 BbCpoly2 BbCpoly3 BbCoct4 BbCpoly4 BbCslc BbCpoly5 BbLpoly2 BbPref5 BbPcha BbCsha0 BbCsha1 BbCcha0 BbUk BbUm BbCcha1 BbCwrd BbCcha2 BbCcha3 BbCref1 BbCref1b BbCref4f BbCoct5 BbCcha4 BbPtag BbPtag2 BbUtl BbUt BbPaead BbPwir BbCpad BbLpad0 BbCpad2 BbCwir0 BbCegd BbCnon BbCwir1 BbCop BbBo1 BbBo2 BbBo3 BbPbk BbBk0 BbBk1 BbBk2 BbBk3 BbBk4 BbBo4. -/
import Derived.Test.YthealcnfgedddaaBbG3
import Derived.Test.YthealcnfgedddaaBbTab
import Derived.Sort.MapsRangeIn
import Derived.RangeFuncGives
import Derived.Maps.Range
import Derived.Maps.AppendAt
import Derived.Test.YthealcnfgedddaaBbG1
import Derived.Shelf.SlIterI.Collect
import Derived.Test.YthealcnfgedddaaProg
import Derived.Shelf.SlSortCmp.WholeK
import Derived.Shelf.Sort.Plain
import Derived.Shelf.Slices.CompactS
import Derived.Shelf.SlMaps.Clone
import Derived.Shelf.Lay
import Derived.Ground.SlsfProg
import Derived.Ground.SlmcProg
import Derived.Ground.NamesProg
import Derived.Lib.RowBridge
namespace Go.Bb
set_option linter.unusedSimpArgs false
set_option linter.unusedVariables false
abbrev U32 := BitVec 32
abbrev U64 := BitVec 64
def u8V (b : UInt8) : Value := .int .u8 b.toNat
theorem wrap_u8 (n : Int) : IntKind.u8.wrap n = ((BitVec.ofInt 8 n).toNat : Int) := by
  simp only [IntKind.wrap, IntKind.bits, IntKind.signed, BitVec.toNat_ofInt]
  simp
  omega
theorem ql0 (w n : Nat) : BitVec.ofInt w (n : Int) = BitVec.ofNat w n := by simp
section
variable (x y : U32) (n : Nat)
end
section
variable (x y : U64) (n : Nat)
end
end Go.Bb
namespace Go.Bb
set_option linter.unusedSimpArgs false
set_option linter.unusedVariables false
abbrev SlB (h : Heap) (v : Value) (l : List UInt8) : Prop := Sl h 1 v l.length (l.map u8V)
theorem wrapI {n : Int} (h0 : -9223372036854775808 ≤ n) (h1 : n ≤ 9223372036854775807) : IntKind.i64.wrap n = n := by
  simp [IntKind.wrap, IntKind.bits, IntKind.signed]; omega
theorem qcs {n : Nat} (h1 : n ≤ 9223372036854775806) : IntKind.i64.wrap ((n : Int) + 1) = ((n + 1 : Nat) : Int) := by rw [wrapI (by omega) (by omega)]; rfl
end Go.Bb
namespace Go.Bb
set_option linter.unusedSimpArgs false
set_option linter.unusedVariables false
set_option maxRecDepth 20000
end Go.Bb
namespace Go.Bb
set_option linter.unusedSimpArgs false
set_option linter.unusedVariables false
set_option maxRecDepth 20000
end Go.Bb
namespace Go.Bb
set_option linter.unusedSimpArgs false
set_option linter.unusedVariables false
end Go.Bb
namespace Go.Bb
set_option linter.unusedSimpArgs false
set_option linter.unusedVariables false
set_option maxRecDepth 20000
end Go.Bb
namespace Go.Bb
set_option linter.unusedSimpArgs false
set_option linter.unusedVariables false
theorem qjk (b o n : Nat) : (⟨b, o, none⟩ : Addr).add n = ⟨b, o + n, none⟩ := by
  unfold Addr.add; split
  · rename_i h; subst h; rfl
  · rfl
theorem Sl.pre {h : Heap} {size n c : Nat} {base : Option Addr} {cells : List Value} (s : Sl h size (.slice base n c) n cells) {k : Nat} (hk : k ≤ n) : Sl h size (.slice base k c) k (cells.take (k * size)) := by
  have hm : k * size ≤ n * size := Nat.mul_le_mul_right _ hk
  rcases s with ⟨e, rfl, rfl⟩ | ⟨a, c', e, h2, h3⟩
  · simp only [Value.slice.injEq] at e
    obtain ⟨rfl, _, rfl⟩ := e
    have : k = 0 := by omega
    subst this
    exact .inl ⟨rfl, rfl, by simp⟩
  · simp only [Value.slice.injEq] at e
    obtain ⟨rfl, _, rfl⟩ := e
    refine .inr ⟨a, c, rfl, by omega, ?_⟩
    by_cases hz : k * size = 0
    · rw [hz]; simp [q09]
    · have := qbw h3 (by omega)
      rw [this] at h3 ⊢
      have := qd9 h3 0 (k * size) (by omega)
      simpa using this
theorem Sl.post {h : Heap} {size n c : Nat} {base : Option Addr} {cells : List Value} (s : Sl h size (.slice base n c) n cells) {k : Nat} (hk : k ≤ n) :
    Sl h size (.slice (if c = k then base else base.map fun x => x.add (k * size)) (n - k) (c - k)) (n - k) (cells.drop (k * size)) := by
  have hm : k * size ≤ n * size := Nat.mul_le_mul_right _ hk
  rcases s with ⟨e, rfl, rfl⟩ | ⟨a, c', e, h2, h3⟩
  · simp only [Value.slice.injEq] at e
    obtain ⟨rfl, _, rfl⟩ := e
    have : k = 0 := by omega
    subst this
    exact .inl ⟨by simp, rfl, by simp⟩
  · simp only [Value.slice.injEq] at e
    obtain ⟨rfl, _, rfl⟩ := e
    have hl := q5i h3
    by_cases hck : c = k
    · have hnk : n - k = 0 := by omega
      refine .inr ⟨a, c - k, by simp [hck], by omega, ?_⟩
      rw [hnk, Nat.zero_mul]
      simp only [q09, Option.some.injEq]
      rw [List.drop_eq_nil_of_le]
      have : n = k := by omega
      subst this; omega
    · refine .inr ⟨a.add (k * size), c - k, by simp [hck], by omega, ?_⟩
      by_cases hz : (n - k) * size = 0
      · rw [hz]
        simp only [q09, Option.some.injEq]
        rw [List.drop_eq_nil_of_le]
        rw [Nat.sub_mul] at hz; omega
      · rw [Nat.sub_mul] at hz ⊢
        have := qbw h3 (by omega)
        rw [this] at h3
        rw [this, qjk]
        have := qd9 h3 (k * size) (n * size - k * size) (by omega)
        rw [this]
        congr 1
        rw [List.take_of_length_le]
        simp [hl]
def strV (l : List UInt8) : Value := .string ⟨l.toArray⟩
theorem qgh : ∀ l : List UInt8, qbk (l.map fun b => Value.int .u8 b.toNat) = some l
  | [] => rfl
  | b :: l => by simp [qbk, qgh l]
theorem qhh {h : Heap} {v : Value} {l : List UInt8} (s : Sl h 1 v l.length (l.map u8V)) : qdq h v = some (strV l) := by
  rcases s with ⟨rfl, hn, _⟩ | ⟨a, c, rfl, h2, h3⟩
  · have : l = [] := List.eq_nil_of_length_eq_zero hn
    subst this; rfl
  · rw [Nat.mul_one] at h3
    simp only [qdq, h3]
    have := qgh l
    unfold u8V
    rw [this]; rfl
theorem qat (l : List UInt8) : (⟨l.toArray⟩ : ByteArray).toList = l := by
  exact Go.ByteArray.toList_mk l
theorem qgn (a b : List UInt8) : binV .eql (strV a) (strV b) = some (.bool (decide (a = b))) := by
  simp only [strV, binV, qat]
  congr 2
  rw [Bool.eq_iff_iff]; simp
theorem qif (a b : List UInt8) : binV .neq (strV a) (strV b) = some (.bool (!decide (a = b))) := by
  simp only [strV, binV, qat]
  congr 2
  rw [Bool.eq_iff_iff]; simp
end Go.Bb
namespace Go.Bb
set_option linter.unusedSimpArgs false
set_option linter.unusedVariables false
theorem Ow.off {h0 h : Heap} {bs : Nat} {X : Blk} {size n : Nat} {v : Value} {cells : List Value} (s : Ow (h0.set bs X) h size v n cells) (X' : Blk) : Ow (h0.set bs X') h size v n cells := by
  rcases s with s | ⟨b, o, c, sz, st, pre, rest, h1, h2, h3, h4⟩
  · exact .inl s
  · obtain ⟨g1, g2⟩ := Heap.qhb.1 h3
    exact .inr ⟨b, o, c, sz, st, pre, rest, h1, h2, Heap.qhb.2 ⟨g1, g2⟩, h4⟩
theorem Ow.put {h0 h : Heap} {bs : Nat} {X : Blk} {size n : Nat} {v : Value} {cells : List Value} (s : Ow (h0.set bs X) h size v n cells) (Y : Blk) : Ow (h0.set bs X) (h.set bs Y) size v n cells := by
  rcases s with s | ⟨b, o, c, sz, st, pre, rest, h1, h2, h3, h4, h5⟩
  · exact .inl s
  · obtain ⟨g1, g2⟩ := Heap.qhb.1 h3
    exact .inr ⟨b, o, c, sz, st, pre, rest, h1, h2, h3, by rw [Heap.q1e g1]; exact h4, h5⟩
theorem Ow.post {h0 h : Heap} {size b o n c : Nat} {cells : List Value} (s : Ow h0 h size (.slice (some ⟨b, o, none⟩) n c) n cells) {k : Nat} (hk : k ≤ n) :
    Ow h0 h size (.slice (if c = k then some ⟨b, o, none⟩ else some (Addr.add ⟨b, o, none⟩ (k * size))) (n - k) (c - k)) (n - k) (cells.drop (k * size)) := by
  by_cases hck : c = k
  · rw [if_pos hck]
    rcases s with ⟨e, _, _⟩ | ⟨b', o', c', sz, st, pre, rest, h1, h2, h3, h4, h5, h6, h7⟩
    · cases e
    · simp only [Value.slice.injEq, Option.some.injEq, Addr.mk.injEq, and_true, true_and] at h1
      obtain ⟨⟨rfl, rfl⟩, rfl⟩ := h1
      have hnk : n = k := by omega
      subst hnk
      refine .inr ⟨b, o, c - n, sz, st, pre, cells ++ rest, rfl, by omega, h3, ?_, h5, ?_, ?_⟩
      · rw [List.drop_eq_nil_of_le (by omega), List.append_nil, ← List.append_assoc]; exact h4
      · rw [List.drop_eq_nil_of_le (by omega)]; simp
      · have : (c - n) * size ≤ c * size := Nat.mul_le_mul_right _ (by omega)
        omega
  · rw [if_neg hck, qjk]
    exact Ow.drop s hk
theorem Ow.apart {h0 h : Heap} {bs : Nat} {y X : Blk} {size n : Nat} {v : Value} {cells : List Value} (s : Ow h0 h size v n cells) (hb : h0 bs = some y) : Sl (h.set bs X) size v n cells := by
  have s2 : Ow h0 (h.set bs X) size v n cells := by
    rcases s with s | ⟨b, o, c, sz, st, pre, rest, h1, h2, h3, h4, h5⟩
    · exact .inl s
    · exact .inr ⟨b, o, c, sz, st, pre, rest, h1, h2, h3, by rw [Heap.q1e (by intro e; subst e; rw [hb] at h3; cases h3)]; exact h4, h5⟩
  exact s2.sl
def SlL (h : Heap) (v : Value) (L : List (List UInt8)) : Prop := ∃ vs : List Value, vs.length = L.length ∧ Sl h 1 v L.length vs ∧ ∀ i (h1 : i < vs.length) (h2 : i < L.length), SlB h vs[i] L[i]
theorem SlL.le {h h' : Heap} {v : Value} {L : List (List UInt8)} (x : h.le h') (s : SlL h v L) : SlL h' v L := by
  obtain ⟨vs, h1, h2, h3⟩ := s
  exact ⟨vs, h1, h2.le x, fun i a b => (h3 i a b).le x⟩
theorem SlL.one {h : Heap} {v : Value} {L : List (List UInt8)} (s : SlL h v L) : ∃ vs : List Value, vs.length = L.length ∧ Sl h 1 v L.length vs ∧ vs.all one = true ∧ ∀ i (h1 : i < vs.length) (h2 : i < L.length), SlB h vs[i] L[i] := by
  obtain ⟨vs, h1, h2, h3⟩ := s
  refine ⟨vs, h1, h2, ?_, h3⟩
  rw [List.all_eq_true]
  intro u hu
  obtain ⟨i, hi, rfl⟩ := List.getElem_of_mem hu
  obtain ⟨base, c, e⟩ := Sl.shape (h3 i hi (by omega))
  rw [e]; rfl
theorem SlL.cons {h : Heap} {v w : Value} {l : List UInt8} {L : List (List UInt8)} {vs : List Value} (h1 : vs.length = L.length) (h3 : ∀ i (h1 : i < vs.length) (h2 : i < L.length), SlB h vs[i] L[i]) (sw : SlB h w l) (s : Sl h 1 v (L.length + 1) (w :: vs)) : SlL h v (l :: L) := by
  refine ⟨w :: vs, by simp [h1], s, ?_⟩
  intro i a b
  cases i with
  | zero => exact sw
  | succ i => exact h3 i (by simpa using a) (by simpa using b)
end Go.Bb
namespace Go.Bb
set_option linter.unusedSimpArgs false
set_option linter.unusedVariables false
section
variable {k : IntKind} {f g : Nat → Nat} {n : Nat}
end
end Go.Bb
namespace Go.Bb
set_option linter.unusedSimpArgs false
set_option linter.unusedVariables false
set_option maxRecDepth 20000
end Go.Bb
namespace Go.Bb
set_option linter.unusedSimpArgs false
set_option linter.unusedVariables false
set_option maxRecDepth 20000
end Go.Bb
namespace Go.Bb
set_option linter.unusedSimpArgs false
set_option linter.unusedVariables false
set_option maxRecDepth 20000
end Go.Bb
namespace Go.Bb
set_option linter.unusedSimpArgs false
set_option linter.unusedVariables false
set_option maxRecDepth 20000
structure N3 where
  a : Nat
  b : Nat
  c : Nat
def N3.ok (x : N3) : Prop := x.a < 18446744073709551616 ∧ x.b < 18446744073709551616 ∧ x.c < 18446744073709551616
def N3.val (x : N3) : Nat := x.a + 18446744073709551616 * x.b + 340282366920938463463374607431768211456 * x.c
def N3.cells (x : N3) : List Value := [.int .u64 (x.a : Int), .int .u64 (x.b : Int), .int .u64 (x.c : Int)]
def N3.V (x : N3) : Value := .agg x.cells.toArray
def N3.plus (x y : N3) : N3 :=
  ⟨(x.a + y.a) % 18446744073709551616, (x.b + y.b + (x.a + y.a) / 18446744073709551616) % 18446744073709551616, (x.c + (y.c + (x.b + y.b + (x.a + y.a) / 18446744073709551616) / 18446744073709551616) % 18446744073709551616) % 18446744073709551616⟩
theorem N3.ok2 (a b : Nat) (h : a * b < 340282366920938463463374607431768211456) : (⟨a * b % 18446744073709551616, a * b / 18446744073709551616, 0⟩ : N3).ok := ⟨Nat.mod_lt _ (by decide), by
  simp only
  generalize a * b = x at *
  omega, by simp⟩
end Go.Bb
namespace Go.Bb
set_option linter.unusedSimpArgs false
set_option linter.unusedVariables false
set_option maxRecDepth 20000
def N3.cut (x : N3) : N3 := (⟨x.a, x.b, x.c % 4⟩ : N3).plus ⟨x.c / 4 * 5 % 18446744073709551616, x.c / 4 * 5 / 18446744073709551616, 0⟩
end Go.Bb
namespace Go.Bb
set_option linter.unusedSimpArgs false
set_option linter.unusedVariables false
set_option maxRecDepth 20000
def N3.last (x : N3) : N3 :=
  if 3 < (x.cut.cut.plus ⟨5, 0, 0⟩).c then ⟨(x.cut.cut.plus ⟨5, 0, 0⟩).a, (x.cut.cut.plus ⟨5, 0, 0⟩).b, (x.cut.cut.plus ⟨5, 0, 0⟩).c % 4⟩ else x.cut.cut
end Go.Bb
namespace Go.Bb
set_option linter.unusedSimpArgs false
set_option linter.unusedVariables false
set_option maxRecDepth 20000
end Go.Bb
namespace Go.Bb
set_option linter.unusedSimpArgs false
set_option linter.unusedVariables false
set_option maxRecDepth 20000
end Go.Bb
namespace Go.Bb
set_option linter.unusedSimpArgs false
set_option linter.unusedVariables false
set_option maxRecDepth 20000
theorem u8_and (b c : UInt8) : IntKind.u8.wrap ((BitVec.ofInt IntKind.u8.bits (b.toNat : Int) &&& BitVec.ofInt IntKind.u8.bits (c.toNat : Int)).toNat : Int) = ((b &&& c).toNat : Int) := by
  rw [show IntKind.u8.bits = 8 from rfl, wrap_u8]
  simp only [ql0]
  congr 1
  simp [UInt8.toNat_and, Nat.mod_eq_of_lt b.toNat_lt, Nat.mod_eq_of_lt c.toNat_lt]
end Go.Bb
namespace Go.Bb
set_option linter.unusedSimpArgs false
set_option linter.unusedVariables false
set_option maxRecDepth 20000
end Go.Bb
namespace Go.Bb
set_option linter.unusedSimpArgs false
set_option linter.unusedVariables false
set_option maxRecDepth 20000
end Go.Bb
namespace Go.Bb
set_option linter.unusedSimpArgs false
set_option linter.unusedVariables false
def leN : List UInt8 → Nat
  | [] => 0
  | b :: l => b.toNat + 256 * leN l
end Go.Bb
namespace Go.Bb
set_option linter.unusedSimpArgs false
set_option linter.unusedVariables false
set_option maxRecDepth 20000
end Go.Bb
namespace Go.Bb
set_option linter.unusedSimpArgs false
set_option linter.unusedVariables false
structure Q4 where
  a : U32
  b : U32
  c : U32
  d : U32
def Q4.V (q : Q4) : Value := .tuple #[.int .u32 q.a.toNat, .int .u32 q.b.toNat, .int .u32 q.c.toNat, .int .u32 q.d.toNat]
end Go.Bb
namespace Go.Bb
set_option linter.unusedSimpArgs false
set_option linter.unusedVariables false
set_option maxRecDepth 20000
end Go.Bb
namespace Go.Bb
set_option linter.unusedSimpArgs false
set_option linter.unusedVariables false
set_option maxRecDepth 20000
end Go.Bb
namespace Go.Bb
set_option linter.unusedSimpArgs false
set_option linter.unusedVariables false
set_option maxRecDepth 20000
set_option maxHeartbeats 2000000
end Go.Bb
namespace Go.Bb
set_option linter.unusedSimpArgs false
set_option linter.unusedVariables false
theorem q48 {α β : Type} (f : α → β) : ∀ L : List α, (L.flatMap fun x => [f x]) = L.map f
  | [] => rfl
  | x :: L => by simp [q48 f L]
theorem u8V_of {n : Int} (h0 : 0 ≤ n) (h1 : n ≤ 255) : u8V (UInt8.ofNat n.toNat) = .int .u8 n := by
  unfold u8V
  have : (UInt8.ofNat n.toNat).toNat = n.toNat := by rw [UInt8.toNat_ofNat']; omega
  rw [this]; congr 1; omega
theorem ok_bytes {W : World} {v : Value} (h : Shp.ok W (.slice 1 (.int .u8)) v) : ∃ l : List UInt8, SlB (qa9 W) v l ∧ l.length ≤ 9223372036854775807 := by
  obtain ⟨L, h1, h2, h3⟩ := Shp.qm4 (f := fun b : UInt8 => [u8V b]) (Pr := fun _ => True) (fun _ => rfl) (fun l hl => by
    obtain ⟨n, rfl, a, b⟩ := hl
    exact ⟨UInt8.ofNat n.toNat, by rw [u8V_of (by simpa [IntKind.min, IntKind.signed] using a) (by simpa [IntKind.max, IntKind.signed, IntKind.bits] using b)], trivial⟩) h
  refine ⟨L, ?_, h2⟩
  rw [q48] at h1
  exact h1
end Go.Bb
namespace Go.Bb
end Go.Bb
namespace Go.Bb
set_option linter.unusedSimpArgs false
set_option linter.unusedVariables false
theorem SlL.part {h : Heap} {base : Option Addr} {c : Nat} {L : List (List UInt8)} (s : SlL h (.slice base L.length c) L) (i : Nat) (hi : i < L.length) :
    ∃ b o u bi ci, base = some ⟨b, o, none⟩ ∧ u = .slice bi L[i].length ci ∧ SlB h u L[i] ∧ ∀ H, h.le H → q1r H ⟨b, o + i, none⟩ = some u := by
  obtain ⟨vs, hvs, sl, el⟩ := s
  obtain ⟨b, o, c', hv, hc, hcl⟩ := sl.ptr (by omega) (by omega)
  simp only [Value.slice.injEq, true_and] at hv
  obtain ⟨rfl, rfl⟩ := hv
  rw [Nat.mul_one] at hcl
  obtain ⟨bi, ci, e⟩ := Sl.shape (el i (by omega) hi)
  refine ⟨b, o, vs[i]'(by omega), bi, ci, rfl, e, el i (by omega) hi, fun H hH => ?_⟩
  rw [qeh (qfa hH hcl) i hi]; simp [hvs, hi]
theorem SlL.shape {h : Heap} {v : Value} {L : List (List UInt8)} (s : SlL h v L) : ∃ base c, v = .slice base L.length c := by
  obtain ⟨vs, hvs, sl, el⟩ := s
  exact Sl.shape sl
end Go.Bb
namespace Go.Bb
set_option linter.unusedSimpArgs false
set_option linter.unusedVariables false
set_option maxRecDepth 20000
set_option maxHeartbeats 2000000
end Go.Bb
namespace Go.Bb
set_option linter.unusedSimpArgs false
set_option linter.unusedVariables false
set_option maxRecDepth 20000
end Go.Bb
namespace Go.Bb
set_option linter.unusedSimpArgs false
set_option linter.unusedVariables false
set_option maxRecDepth 20000
set_option maxHeartbeats 2000000
end Go.Bb
namespace Go.Bb
set_option linter.unusedSimpArgs false
set_option linter.unusedVariables false
set_option maxRecDepth 20000
set_option maxHeartbeats 2000000
end Go.Bb
namespace Go.Bb
set_option linter.unusedSimpArgs false
set_option linter.unusedVariables false
set_option maxRecDepth 20000
end Go.Bb
namespace Go.Bb
set_option linter.unusedSimpArgs false
set_option linter.unusedVariables false
set_option maxRecDepth 20000
set_option maxHeartbeats 2000000
end Go.Bb
namespace Go.Bb
set_option linter.unusedSimpArgs false
set_option linter.unusedVariables false
set_option maxRecDepth 20000
set_option maxHeartbeats 4000000
end Go.Bb
namespace Go.Bb
set_option linter.unusedSimpArgs false
set_option linter.unusedVariables false
set_option maxRecDepth 20000
set_option maxHeartbeats 2000000
end Go.Bb
namespace Go.Bb
set_option linter.unusedSimpArgs false
set_option linter.unusedVariables false
set_option maxRecDepth 20000
set_option maxHeartbeats 2000000
end Go.Bb
namespace Go.Bb
set_option linter.unusedSimpArgs false
set_option linter.unusedVariables false
set_option maxRecDepth 20000
end Go.Bb
namespace Go.Bb
set_option linter.unusedSimpArgs false
set_option linter.unusedVariables false
set_option maxRecDepth 20000
end Go.Bb
namespace Go.Bb
set_option linter.unusedSimpArgs false
set_option linter.unusedVariables false
set_option maxRecDepth 20000
end Go.Bb
namespace Go.Bb
set_option linter.unusedSimpArgs false
set_option linter.unusedVariables false
set_option maxRecDepth 20000
end Go.Bb
namespace Go.Bb
set_option linter.unusedSimpArgs false
set_option linter.unusedVariables false
end Go.Bb
namespace Go.Bb
set_option linter.unusedSimpArgs false
set_option linter.unusedVariables false
abbrev RS := Option (List UInt8)
def RS.len : RS → Nat
  | none => 0
  | some l => l.length
structure Ed where
  dev : Int
  n : Int
  seen : List Int
  kind : Int
  con : List UInt8
  fld : List UInt8
  val : List UInt8
  time : Int
def ZE : Ed := ⟨0, 0, List.replicate 8 0, 0, [], [], [], 0⟩
def vecG (v : List Int) : Bool := v.all fun n => decide (0 ≤ n ∧ n ≤ 1099511627776)
def qd0 (s : List UInt8) : Bool := (s.all fun c => decide (33 ≤ c.toNat ∧ c.toNat ≤ 126)) && decide (1 ≤ s.length ∧ s.length ≤ 40)
def q8g (e : Ed) : Bool :=
  decide (0 ≤ e.dev ∧ e.dev < 8) && decide (1 ≤ e.n ∧ e.n ≤ 1099511627776) && vecG e.seen && decide (e.seen[e.dev.toNat]? = some (e.n - 1)) &&
  decide (0 ≤ e.time ∧ e.time ≤ 1099511627776) && qd0 e.con &&
  (decide (e.kind = 1) && (qd0 e.fld && decide (e.val.length ≤ 200)) || decide (e.kind = 2) && (decide (e.fld = []) && decide (e.val = [])))
end Go.Bb
namespace Go.Bb
set_option linter.unusedSimpArgs false
set_option linter.unusedVariables false
end Go.Bb
namespace Go.Bb
set_option linter.unusedSimpArgs false
set_option linter.unusedVariables false
end Go.Bb
namespace Go.Bb
set_option linter.unusedSimpArgs false
set_option linter.unusedVariables false
set_option maxRecDepth 20000
end Go.Bb
namespace Go.Bb
set_option linter.unusedSimpArgs false
set_option linter.unusedVariables false
set_option maxRecDepth 20000
set_option maxHeartbeats 2000000
end Go.Bb
namespace Go.Bb
set_option linter.unusedSimpArgs false
set_option linter.unusedVariables false
set_option maxRecDepth 20000
end Go.Bb
namespace Go.Bb
set_option linter.unusedSimpArgs false
set_option linter.unusedVariables false
set_option maxRecDepth 20000
set_option maxHeartbeats 2000000
theorem qes (E : EnvT tab) (h : Heap) (n : Int) : ACallN E.toEnv ql3 [.int .i64 n] h fun r h' => h' = h ∧ r = .bool (decide (0 ≤ n ∧ n < 8)) := by
  refine q3s qfc qaz rfl rfl (q01 ?_)
  unfold qaz
  by_cases g0 : 0 ≤ n
  · by_cases g1 : n < 8
    · simp -implicitDefEqProofs only [zA,reduceIte,reduceCtorEq,Nat.reduceEqDiff,Nat.reduceAdd,Nat.reduceMul,Nat.reduceLT,Nat.reduceSub,Int.reduceLT,Int.reduceLE,Int.reduceEq,Int.reduceNe,Int.reduceSub,Int.reduceAdd,Int.reduceMul,Int.reduceBEq,Int.reduceBNe,Int.reduceGT,Int.reduceGE,Nat.reduceGT,Int.reduceToNat,Int.reduceNeg,Nat.reduceLeDiff,Nat.reduceBEq,Nat.reduceBneDiff,g0,g1]
    · simp -implicitDefEqProofs only [zA,reduceIte,reduceCtorEq,Nat.reduceEqDiff,Nat.reduceAdd,Nat.reduceMul,Nat.reduceLT,Nat.reduceSub,Int.reduceLT,Int.reduceLE,Int.reduceEq,Int.reduceNe,Int.reduceSub,Int.reduceAdd,Int.reduceMul,Int.reduceBEq,Int.reduceBNe,Int.reduceGT,Int.reduceGE,Nat.reduceGT,Int.reduceToNat,Int.reduceNeg,Nat.reduceLeDiff,Nat.reduceBEq,Nat.reduceBneDiff,g0,g1]
  · simp -implicitDefEqProofs only [zA,reduceIte,reduceCtorEq,Nat.reduceEqDiff,Nat.reduceAdd,Nat.reduceMul,Nat.reduceLT,Nat.reduceSub,Int.reduceLT,Int.reduceLE,Int.reduceEq,Int.reduceNe,Int.reduceSub,Int.reduceAdd,Int.reduceMul,Int.reduceBEq,Int.reduceBNe,Int.reduceGT,Int.reduceGE,Nat.reduceGT,Int.reduceToNat,Int.reduceNeg,Nat.reduceLeDiff,Nat.reduceBEq,Nat.reduceBneDiff,g0,false_and]
end Go.Bb
namespace Go.Bb
set_option linter.unusedSimpArgs false
set_option linter.unusedVariables false
set_option maxRecDepth 20000
set_option maxHeartbeats 2000000
theorem qet (s : List UInt8) : (⟨s.toArray⟩ : ByteArray).size = s.length := by simp [ByteArray.size]
theorem qg9 (E : EnvT tab) (H : Heap) (s : List UInt8) (hs : s.length ≤ 9223372036854775807) : ACallN E.toEnv ql4 [strV s] H fun r H' => H' = H ∧ r = .bool (qd0 s) := by
  refine q3s qfd qb0 rfl rfl (q01 ?_)
  unfold qb0 strV
  have ez := qet s
  unfold qd0
  simp -implicitDefEqProofs only [zA,reduceIte,reduceCtorEq,Nat.reduceEqDiff,Nat.reduceAdd,Nat.reduceMul,Nat.reduceLT,Nat.reduceSub,Int.reduceLT,Int.reduceLE,Int.reduceEq,Int.reduceNe,Int.reduceSub,Int.reduceAdd,Int.reduceMul,Int.reduceBEq,Int.reduceBNe,Int.reduceGT,Int.reduceGE,Nat.reduceGT,Int.reduceToNat,Int.reduceNeg,Nat.reduceLeDiff,Nat.reduceBEq,Nat.reduceBneDiff,ez]
  refine q3j (fun m t G => G = H ∧ ∃ i : Nat, t = tl [(0, .string ⟨s.toArray⟩), (5, .int .i64 s.length), (6, .int .i64 i)] ∧ i ≤ s.length ∧ m = s.length - i ∧ (s.take i).all (fun b => decide (33 ≤ b.toNat ∧ b.toNat ≤ 126)) = true) s.length
    ⟨rfl, 0, rfl, by omega, by omega, by simp⟩ ?_
  rintro m t G ⟨rfl, i, rfl, hi, rfl, ha⟩
  by_cases hlt : i < s.length
  · have hi1 : (i : Int) < s.length := by omega
    have hi2 : (0 : Int) ≤ i := by omega
    have w1 : IntKind.i64.wrap ((i : Int) + 1) = ((i + 1 : Nat) : Int) := qcs (by omega)
    have ix : s[i]? = some s[i] := List.getElem?_eq_getElem hlt
    have ad : s.toArray.toList = s := rfl
    by_cases g : 33 ≤ s[i].toNat ∧ s[i].toNat ≤ 126
    · have g1 : ¬ ((s[i].toNat : Int) < 33) := by omega
      have g2 : ¬ ((126 : Int) < s[i].toNat) := by omega
      simp -implicitDefEqProofs only [zA,reduceIte,reduceCtorEq,Nat.reduceEqDiff,Nat.reduceAdd,Nat.reduceMul,Nat.reduceLT,Nat.reduceSub,Int.reduceLT,Int.reduceLE,Int.reduceEq,Int.reduceNe,Int.reduceSub,Int.reduceAdd,Int.reduceMul,Int.reduceBEq,Int.reduceBNe,Int.reduceGT,Int.reduceGE,Nat.reduceGT,Int.reduceToNat,Int.reduceNeg,Nat.reduceLeDiff,Nat.reduceBEq,Nat.reduceBneDiff,ez,hi1,hi2,Int.toNat_natCast,ad,ix,g1,g2,w1]
      refine ⟨_, ?_, i + 1, rfl, by omega, rfl, ?_⟩
      · omega
      · rw [List.take_succ_eq_append_getElem hlt, List.all_append, ha]; simp [g]
    · have hf : s.all (fun b => decide (33 ≤ b.toNat ∧ b.toNat ≤ 126)) = false := by
        rw [List.all_eq_false]
        exact ⟨s[i], List.getElem_mem hlt, by simpa using g⟩
      rw [hf]
      by_cases g1 : (s[i].toNat : Int) < 33
      · simp -implicitDefEqProofs only [zA,reduceIte,reduceCtorEq,Nat.reduceEqDiff,Nat.reduceAdd,Nat.reduceMul,Nat.reduceLT,Nat.reduceSub,Int.reduceLT,Int.reduceLE,Int.reduceEq,Int.reduceNe,Int.reduceSub,Int.reduceAdd,Int.reduceMul,Int.reduceBEq,Int.reduceBNe,Int.reduceGT,Int.reduceGE,Nat.reduceGT,Int.reduceToNat,Int.reduceNeg,Nat.reduceLeDiff,Nat.reduceBEq,Nat.reduceBneDiff,ez,hi1,hi2,Int.toNat_natCast,ad,ix,g1,Bool.false_and]
      · have g2 : (126 : Int) < s[i].toNat := by omega
        simp -implicitDefEqProofs only [zA,reduceIte,reduceCtorEq,Nat.reduceEqDiff,Nat.reduceAdd,Nat.reduceMul,Nat.reduceLT,Nat.reduceSub,Int.reduceLT,Int.reduceLE,Int.reduceEq,Int.reduceNe,Int.reduceSub,Int.reduceAdd,Int.reduceMul,Int.reduceBEq,Int.reduceBNe,Int.reduceGT,Int.reduceGE,Nat.reduceGT,Int.reduceToNat,Int.reduceNeg,Nat.reduceLeDiff,Nat.reduceBEq,Nat.reduceBneDiff,ez,hi1,hi2,Int.toNat_natCast,ad,ix,g1,g2,Bool.false_and]
  · have hi1 : ¬ (i : Int) < s.length := by omega
    have e : i = s.length := by omega
    subst e
    rw [List.take_length] at ha
    rw [ha, Bool.true_and]
    simp -implicitDefEqProofs only [zA,reduceIte,reduceCtorEq,Nat.reduceEqDiff,Nat.reduceAdd,Nat.reduceMul,Nat.reduceLT,Nat.reduceSub,Int.reduceLT,Int.reduceLE,Int.reduceEq,Int.reduceNe,Int.reduceSub,Int.reduceAdd,Int.reduceMul,Int.reduceBEq,Int.reduceBNe,Int.reduceGT,Int.reduceGE,Nat.reduceGT,Int.reduceToNat,Int.reduceNeg,Nat.reduceLeDiff,Nat.reduceBEq,Nat.reduceBneDiff,ez,hi1]
    unfold qcd
    by_cases g1 : 1 ≤ s.length
    · have g1' : (1 : Int) ≤ s.length := by omega
      by_cases g2 : s.length ≤ 40
      · have g2' : (s.length : Int) ≤ 40 := by omega
        simp -implicitDefEqProofs only [zA,reduceIte,reduceCtorEq,Nat.reduceEqDiff,Nat.reduceAdd,Nat.reduceMul,Nat.reduceLT,Nat.reduceSub,Int.reduceLT,Int.reduceLE,Int.reduceEq,Int.reduceNe,Int.reduceSub,Int.reduceAdd,Int.reduceMul,Int.reduceBEq,Int.reduceBNe,Int.reduceGT,Int.reduceGE,Nat.reduceGT,Int.reduceToNat,Int.reduceNeg,Nat.reduceLeDiff,Nat.reduceBEq,Nat.reduceBneDiff,ez,g1',g2',g1,g2]
      · have g2' : ¬ (s.length : Int) ≤ 40 := by omega
        simp -implicitDefEqProofs only [zA,reduceIte,reduceCtorEq,Nat.reduceEqDiff,Nat.reduceAdd,Nat.reduceMul,Nat.reduceLT,Nat.reduceSub,Int.reduceLT,Int.reduceLE,Int.reduceEq,Int.reduceNe,Int.reduceSub,Int.reduceAdd,Int.reduceMul,Int.reduceBEq,Int.reduceBNe,Int.reduceGT,Int.reduceGE,Nat.reduceGT,Int.reduceToNat,Int.reduceNeg,Nat.reduceLeDiff,Nat.reduceBEq,Nat.reduceBneDiff,ez,g1',g2',g1,g2]
    · have g1' : ¬ (1 : Int) ≤ s.length := by omega
      simp -implicitDefEqProofs only [zA,reduceIte,reduceCtorEq,Nat.reduceEqDiff,Nat.reduceAdd,Nat.reduceMul,Nat.reduceLT,Nat.reduceSub,Int.reduceLT,Int.reduceLE,Int.reduceEq,Int.reduceNe,Int.reduceSub,Int.reduceAdd,Int.reduceMul,Int.reduceBEq,Int.reduceBNe,Int.reduceGT,Int.reduceGE,Nat.reduceGT,Int.reduceToNat,Int.reduceNeg,Nat.reduceLeDiff,Nat.reduceBEq,Nat.reduceBneDiff,ez,g1',g1,false_and]
theorem seen_at {v : List Int} (h8 : v.length = 8) (i : Nat) (hi : i < 8) : v[i]? = some (v[i]'(by omega)) := List.getElem?_eq_getElem (by omega)
theorem qjm (E : EnvT tab) (H : Heap) (v : List Int) (h8 : v.length = 8) : ACallN E.toEnv qjs [.agg (v.map (.int .i64)).toArray] H fun r H' => H.le H' ∧ r = .bool (vecG v) := by
  refine q3s qdb q9z rfl rfl (q01 ?_)
  unfold q9z
  have vl : (v.map (Value.int .i64)).length = 8 := by simp [h8]
  simp -implicitDefEqProofs only [zA,reduceIte,reduceCtorEq,Nat.reduceEqDiff,Nat.reduceAdd,Nat.reduceMul,Nat.reduceLT,Nat.reduceSub,Int.reduceLT,Int.reduceLE,Int.reduceEq,Int.reduceNe,Int.reduceSub,Int.reduceAdd,Int.reduceMul,Int.reduceBEq,Int.reduceBNe,Int.reduceGT,Int.reduceGE,Nat.reduceGT,Int.reduceToNat,Int.reduceNeg,Nat.reduceLeDiff,Nat.reduceBEq,Nat.reduceBneDiff]
  intro b hb
  try simp -implicitDefEqProofs only [zA,reduceIte,reduceCtorEq,Nat.reduceEqDiff,Nat.reduceAdd,Nat.reduceMul,Nat.reduceLT,Nat.reduceSub,Int.reduceLT,Int.reduceLE,Int.reduceEq,Int.reduceNe,Int.reduceSub,Int.reduceAdd,Int.reduceMul,Int.reduceBEq,Int.reduceBNe,Int.reduceGT,Int.reduceGE,Nat.reduceGT,Int.reduceToNat,Int.reduceNeg,Nat.reduceLeDiff,Nat.reduceBEq,Nat.reduceBneDiff]
  rw [vl]
  have le1 := Heap.q0v (Heap.q0e H) hb (.own 0 (v.map (.int .i64)) 8)
  have ld : q09 (H.set b (.own 0 (v.map (.int .i64)) 8)) ⟨b, 0, none⟩ 8 = some (v.map (.int .i64)) := z71 (by simp [h8])
  simp -implicitDefEqProofs only [zA,reduceIte,reduceCtorEq,Nat.reduceEqDiff,Nat.reduceAdd,Nat.reduceMul,Nat.reduceLT,Nat.reduceSub,Int.reduceLT,Int.reduceLE,Int.reduceEq,Int.reduceNe,Int.reduceSub,Int.reduceAdd,Int.reduceMul,Int.reduceBEq,Int.reduceBNe,Int.reduceGT,Int.reduceGE,Nat.reduceGT,Int.reduceToNat,Int.reduceNeg,Nat.reduceLeDiff,Nat.reduceBEq,Nat.reduceBneDiff,ld]
  generalize (H.set b (.own 0 (v.map (.int .i64)) 8)) = H1 at le1
  refine q3j (fun m t G => G = H1 ∧ ∃ i : Nat, t = tl [(5, .agg (v.map (.int .i64)).toArray), (6, .int .i64 i)] ∧ i ≤ 8 ∧ m = 8 - i ∧ (v.take i).all (fun n => decide (0 ≤ n ∧ n ≤ 1099511627776)) = true) 8
    ⟨rfl, 0, rfl, by omega, by omega, by simp⟩ ?_
  rintro m t G ⟨rfl, i, rfl, hi, rfl, ha⟩
  by_cases hlt : i < 8
  · have hi1 : (i : Int) < 8 := by omega
    have hi2 : (0 : Int) ≤ i := by omega
    have w1 : IntKind.i64.wrap ((i : Int) + 1) = ((i + 1 : Nat) : Int) := qcs (by omega)
    have ix : (v.map (Value.int .i64))[i]? = some (.int .i64 (v[i]'(by omega))) := by rw [List.getElem?_map, seen_at h8 i hlt]; rfl
    have et : v.take (i + 1) = v.take i ++ [v[i]'(by omega)] := List.take_succ_eq_append_getElem (by omega)
    by_cases g : 0 ≤ v[i]'(by omega) ∧ v[i]'(by omega) ≤ 1099511627776
    · have g1 : ¬ (v[i]'(by omega) < 0) := by omega
      have g2 : ¬ (1099511627776 < v[i]'(by omega)) := by omega
      simp -implicitDefEqProofs only [zA,reduceIte,reduceCtorEq,Nat.reduceEqDiff,Nat.reduceAdd,Nat.reduceMul,Nat.reduceLT,Nat.reduceSub,Int.reduceLT,Int.reduceLE,Int.reduceEq,Int.reduceNe,Int.reduceSub,Int.reduceAdd,Int.reduceMul,Int.reduceBEq,Int.reduceBNe,Int.reduceGT,Int.reduceGE,Nat.reduceGT,Int.reduceToNat,Int.reduceNeg,Nat.reduceLeDiff,Nat.reduceBEq,Nat.reduceBneDiff,hi1,hi2,Int.toNat_natCast,ix,g1,g2,w1,vl]
      refine ⟨_, ?_, i + 1, rfl, by omega, rfl, ?_⟩
      · omega
      · rw [et, List.all_append, ha]; simp [g]
    · have hf : vecG v = false := by
        unfold vecG
        rw [List.all_eq_false]
        exact ⟨v[i]'(by omega), List.getElem_mem _, by simpa using g⟩
      rw [hf]
      by_cases g1 : v[i]'(by omega) < 0
      · simp -implicitDefEqProofs only [zA,reduceIte,reduceCtorEq,Nat.reduceEqDiff,Nat.reduceAdd,Nat.reduceMul,Nat.reduceLT,Nat.reduceSub,Int.reduceLT,Int.reduceLE,Int.reduceEq,Int.reduceNe,Int.reduceSub,Int.reduceAdd,Int.reduceMul,Int.reduceBEq,Int.reduceBNe,Int.reduceGT,Int.reduceGE,Nat.reduceGT,Int.reduceToNat,Int.reduceNeg,Nat.reduceLeDiff,Nat.reduceBEq,Nat.reduceBneDiff,hi1,hi2,Int.toNat_natCast,ix,g1,vl]
        exact le1
      · have g2 : 1099511627776 < v[i]'(by omega) := by omega
        simp -implicitDefEqProofs only [zA,reduceIte,reduceCtorEq,Nat.reduceEqDiff,Nat.reduceAdd,Nat.reduceMul,Nat.reduceLT,Nat.reduceSub,Int.reduceLT,Int.reduceLE,Int.reduceEq,Int.reduceNe,Int.reduceSub,Int.reduceAdd,Int.reduceMul,Int.reduceBEq,Int.reduceBNe,Int.reduceGT,Int.reduceGE,Nat.reduceGT,Int.reduceToNat,Int.reduceNeg,Nat.reduceLeDiff,Nat.reduceBEq,Nat.reduceBneDiff,hi1,hi2,Int.toNat_natCast,ix,g1,g2,vl]
        exact le1
  · have e : i = 8 := by omega
    subst e
    rw [List.take_of_length_le (by omega)] at ha
    have hf : vecG v = true := ha
    simp -implicitDefEqProofs only [zA,reduceIte,reduceCtorEq,Nat.reduceEqDiff,Nat.reduceAdd,Nat.reduceMul,Nat.reduceLT,Nat.reduceSub,Int.reduceLT,Int.reduceLE,Int.reduceEq,Int.reduceNe,Int.reduceSub,Int.reduceAdd,Int.reduceMul,Int.reduceBEq,Int.reduceBNe,Int.reduceGT,Int.reduceGE,Nat.reduceGT,Int.reduceToNat,Int.reduceNeg,Nat.reduceLeDiff,Nat.reduceBEq,Nat.reduceBneDiff,hf]
    exact le1
end Go.Bb
namespace Go.Bb
set_option linter.unusedSimpArgs false
set_option linter.unusedVariables false
set_option maxRecDepth 20000
set_option maxHeartbeats 2000000
def edC (e : Ed) : List Value := .int .i64 e.dev :: .int .i64 e.n :: (e.seen.map (.int .i64) ++ [.int .i64 e.kind, strV e.con, strV e.fld, strV e.val, .int .i64 e.time])
theorem q5w {e : Ed} (h8 : e.seen.length = 8) : (edC e).length = 15 := by simp [edC, h8]
theorem qh1 (e : Ed) : (edC e).all one = true := by
  have : (e.seen.map (Value.int .i64)).all one = true := by simp [one]
  simp only [edC, List.all_cons, List.all_append, this]
  rfl
structure EdAt (G : Heap) (b : Nat) (e : Ed) : Prop where
  own : G b = some (.own 0 (edC e) 15)
  dev : q1r G ⟨b, 0, none⟩ = some (.int .i64 e.dev)
  n : q1r G ⟨b, 1, none⟩ = some (.int .i64 e.n)
  seen : q09 G ⟨b, 2, none⟩ 8 = some (e.seen.map (.int .i64))
  at' : ∀ i (h : i < e.seen.length), q1r G ⟨b, 2 + i, none⟩ = some (.int .i64 e.seen[i])
  kind : q1r G ⟨b, 10, none⟩ = some (.int .i64 e.kind)
  con : q1r G ⟨b, 11, none⟩ = some (strV e.con)
  fld : q1r G ⟨b, 12, none⟩ = some (strV e.fld)
  val : q1r G ⟨b, 13, none⟩ = some (strV e.val)
  time : q1r G ⟨b, 14, none⟩ = some (.int .i64 e.time)
  all : q09 G ⟨b, 0, none⟩ 15 = some (edC e)
theorem EdAt.of {G : Heap} {b : Nat} {e : Ed} (q : G b = some (.own 0 (edC e) 15)) (h8 : e.seen.length = 8) : EdAt G b e := by
  have hl := q5w h8
  have key : ∀ i x, (edC e)[i]? = some x → q1r G ⟨b, i, none⟩ = some x := fun i x hx => by
    have hi : i < (edC e).length := (List.getElem?_eq_some_iff.1 hx).1
    rw [List.getElem?_eq_getElem hi] at hx
    rw [q4n q hi, hx]
  obtain ⟨dev, n, seen, kind, con, fld, val, time⟩ := e
  simp only at h8
  have h8' : (seen.map (Value.int .i64)).length = 8 := by simpa using h8
  have far : ∀ i x, [Value.int .i64 kind, strV con, strV fld, strV val, Value.int .i64 time][i]? = some x → (edC ⟨dev, n, seen, kind, con, fld, val, time⟩)[i + 10]? = some x := fun i x hx => by
    simp only [edC]
    rw [List.getElem?_cons_succ, List.getElem?_cons_succ, List.getElem?_append_right (by omega), h8', Nat.add_sub_cancel]
    exact hx
  refine ⟨q, key 0 _ rfl, key 1 _ rfl, ?_, ?_, key 10 _ (far 0 _ rfl), key 11 _ (far 1 _ rfl), key 12 _ (far 2 _ rfl), key 13 _ (far 3 _ rfl), key 14 _ (far 4 _ rfl), ?_⟩
  · rw [q7k q (by omega)]
    simp only [edC, List.drop_succ_cons, List.drop_zero]
    rw [List.take_left' h8']
  · intro i hi
    simp only at hi
    refine key _ _ ?_
    simp only [edC]
    rw [Nat.add_comm 2 i, List.getElem?_cons_succ, List.getElem?_cons_succ, List.getElem?_append_left (by omega), List.getElem?_map, List.getElem?_eq_getElem hi]
    rfl
  · rw [q7k q (by omega), List.drop_zero, List.take_of_length_le (by omega)]
theorem EdAt.le {G G' : Heap} {b : Nat} {e : Ed} (x : EdAt G b e) (h8 : e.seen.length = 8) (le : G.le G') : EdAt G' b e := EdAt.of (le _ _ x.own) h8
theorem qjj (l : List UInt8) : binV .eql (strV l) (.string .empty) = some (.bool (decide (l = []))) := by
  unfold strV
  simp -implicitDefEqProofs only [zA,reduceIte,reduceCtorEq,Nat.reduceEqDiff,Nat.reduceAdd,Nat.reduceMul,Nat.reduceLT,Nat.reduceSub,Int.reduceLT,Int.reduceLE,Int.reduceEq,Int.reduceNe,Int.reduceSub,Int.reduceAdd,Int.reduceMul,Int.reduceBEq,Int.reduceBNe,Int.reduceGT,Int.reduceGE,Nat.reduceGT,Int.reduceToNat,Int.reduceNeg,Nat.reduceLeDiff,Nat.reduceBEq,Nat.reduceBneDiff,qat]
  have e : ByteArray.empty.toList = [] := Go.ByteArray.toList_mk []
  rw [e]
  cases l <;> rfl
theorem qjr (E : EnvT tab) (H : Heap) (e : Ed) (h8 : e.seen.length = 8) (hc : e.con.length ≤ 9223372036854775807) (hf : e.fld.length ≤ 9223372036854775807) (hn : -9223372036854775808 ≤ e.n) (hn2 : e.n ≤ 9223372036854775807) :
    ACallN E.toEnv ql7 [.agg (edC e).toArray] H fun r H' => H.le H' ∧ r = .bool (q8g e) := by
  refine q3s qfg qb3 rfl rfl (q01 ?_)
  unfold qb3
  have el := q5w h8
  simp -implicitDefEqProofs only [zA,reduceIte,reduceCtorEq,Nat.reduceEqDiff,Nat.reduceAdd,Nat.reduceMul,Nat.reduceLT,Nat.reduceSub,Int.reduceLT,Int.reduceLE,Int.reduceEq,Int.reduceNe,Int.reduceSub,Int.reduceAdd,Int.reduceMul,Int.reduceBEq,Int.reduceBNe,Int.reduceGT,Int.reduceGE,Nat.reduceGT,Int.reduceToNat,Int.reduceNeg,Nat.reduceLeDiff,Nat.reduceBEq,Nat.reduceBneDiff]
  intro b hb
  try simp -implicitDefEqProofs only [zA,reduceIte,reduceCtorEq,Nat.reduceEqDiff,Nat.reduceAdd,Nat.reduceMul,Nat.reduceLT,Nat.reduceSub,Int.reduceLT,Int.reduceLE,Int.reduceEq,Int.reduceNe,Int.reduceSub,Int.reduceAdd,Int.reduceMul,Int.reduceBEq,Int.reduceBNe,Int.reduceGT,Int.reduceGE,Nat.reduceGT,Int.reduceToNat,Int.reduceNeg,Nat.reduceLeDiff,Nat.reduceBEq,Nat.reduceBneDiff]
  rw [el]
  have le1 := Heap.q0v (Heap.q0e H) hb (.own 0 (edC e) 15)
  have A : EdAt (H.set b (.own 0 (edC e) 15)) b e := EdAt.of (Heap.q02 _ _ _) h8
  generalize (H.set b (.own 0 (edC e) 15)) = H1 at le1 A
  unfold qdz
  simp -implicitDefEqProofs only [zA,reduceIte,reduceCtorEq,Nat.reduceEqDiff,Nat.reduceAdd,Nat.reduceMul,Nat.reduceLT,Nat.reduceSub,Int.reduceLT,Int.reduceLE,Int.reduceEq,Int.reduceNe,Int.reduceSub,Int.reduceAdd,Int.reduceMul,Int.reduceBEq,Int.reduceBNe,Int.reduceGT,Int.reduceGE,Nat.reduceGT,Int.reduceToNat,Int.reduceNeg,Nat.reduceLeDiff,Nat.reduceBEq,Nat.reduceBneDiff,A.dev]
  refine (qes E H1 e.dev).mono ?_
  rintro r H2 ⟨rfl, rfl⟩
  by_cases c1 : 0 ≤ e.dev ∧ e.dev < 8
  · by_cases c2 : e.n < 1
    · have hf : q8g e = false := by (have : ¬ (1 ≤ e.n) := by omega); (simp [q8g, this])
      rw [hf]
      simp -implicitDefEqProofs only [zA,reduceIte,reduceCtorEq,Nat.reduceEqDiff,Nat.reduceAdd,Nat.reduceMul,Nat.reduceLT,Nat.reduceSub,Int.reduceLT,Int.reduceLE,Int.reduceEq,Int.reduceNe,Int.reduceSub,Int.reduceAdd,Int.reduceMul,Int.reduceBEq,Int.reduceBNe,Int.reduceGT,Int.reduceGE,Nat.reduceGT,Int.reduceToNat,Int.reduceNeg,Nat.reduceLeDiff,Nat.reduceBEq,Nat.reduceBneDiff,c1,A.n,c2]
      exact le1
    have w1 : IntKind.i64.wrap (e.n - 1) = e.n - 1 := wrapI (by omega) (by omega)
    by_cases c3 : 1099511627776 < e.n
    · have hf : q8g e = false := by (have : ¬ (e.n ≤ 1099511627776) := by omega); (simp [q8g, this])
      rw [hf]
      simp -implicitDefEqProofs only [zA,reduceIte,reduceCtorEq,Nat.reduceEqDiff,Nat.reduceAdd,Nat.reduceMul,Nat.reduceLT,Nat.reduceSub,Int.reduceLT,Int.reduceLE,Int.reduceEq,Int.reduceNe,Int.reduceSub,Int.reduceAdd,Int.reduceMul,Int.reduceBEq,Int.reduceBNe,Int.reduceGT,Int.reduceGE,Nat.reduceGT,Int.reduceToNat,Int.reduceNeg,Nat.reduceLeDiff,Nat.reduceBEq,Nat.reduceBneDiff,c1,A.n,c2,c3]
      exact le1
    simp -implicitDefEqProofs only [zA,reduceIte,reduceCtorEq,Nat.reduceEqDiff,Nat.reduceAdd,Nat.reduceMul,Nat.reduceLT,Nat.reduceSub,Int.reduceLT,Int.reduceLE,Int.reduceEq,Int.reduceNe,Int.reduceSub,Int.reduceAdd,Int.reduceMul,Int.reduceBEq,Int.reduceBNe,Int.reduceGT,Int.reduceGE,Nat.reduceGT,Int.reduceToNat,Int.reduceNeg,Nat.reduceLeDiff,Nat.reduceBEq,Nat.reduceBneDiff,c1,A.n,c2,c3,A.seen]
    refine (qjm E H2 e.seen h8).mono ?_
    rintro r H3 ⟨le3, rfl⟩
    have A3 := A.le h8 le3
    have hD : e.dev.toNat < e.seen.length := by omega
    have xD := A3.at' e.dev.toNat hD
    have q1 : (0 : Int) ≤ e.dev := c1.1
    have q2 : e.dev < 8 := c1.2
    by_cases c4 : vecG e.seen = true
    · by_cases c5 : e.seen[e.dev.toNat] = e.n - 1
      · simp -implicitDefEqProofs only [zA,reduceIte,reduceCtorEq,Nat.reduceEqDiff,Nat.reduceAdd,Nat.reduceMul,Nat.reduceLT,Nat.reduceSub,Int.reduceLT,Int.reduceLE,Int.reduceEq,Int.reduceNe,Int.reduceSub,Int.reduceAdd,Int.reduceMul,Int.reduceBEq,Int.reduceBNe,Int.reduceGT,Int.reduceGE,Nat.reduceGT,Int.reduceToNat,Int.reduceNeg,Nat.reduceLeDiff,Nat.reduceBEq,Nat.reduceBneDiff,c4,A3.dev,A3.n,xD,q1,q2,w1,c5,bne_self_eq_false]
        have hn1 : 1 ≤ e.n := by omega
        have hn3 : e.n ≤ 1099511627776 := by omega
        have e5 : e.seen[e.dev.toNat]? = some (e.n - 1) := by rw [List.getElem?_eq_getElem hD, c5]
        have e0 : q8g e = (decide (0 ≤ e.time ∧ e.time ≤ 1099511627776) && qd0 e.con && (decide (e.kind = 1) && (qd0 e.fld && decide (e.val.length ≤ 200)) || decide (e.kind = 2) && (decide (e.fld = []) && decide (e.val = [])))) := by
          simp [q8g, q1, q2, hn1, hn3, c4, e5]
        have leH := Heap.q07 le1 le3
        rw [e0]
        clear e0 e5 c5 c4 xD hD A
        unfold qce
        by_cases d1 : e.time < 0
        · have d1' : ¬ 0 ≤ e.time := by omega
          simp -implicitDefEqProofs only [zA,reduceIte,reduceCtorEq,Nat.reduceEqDiff,Nat.reduceAdd,Nat.reduceMul,Nat.reduceLT,Nat.reduceSub,Int.reduceLT,Int.reduceLE,Int.reduceEq,Int.reduceNe,Int.reduceSub,Int.reduceAdd,Int.reduceMul,Int.reduceBEq,Int.reduceBNe,Int.reduceGT,Int.reduceGE,Nat.reduceGT,Int.reduceToNat,Int.reduceNeg,Nat.reduceLeDiff,Nat.reduceBEq,Nat.reduceBneDiff,A3.time,d1,d1',false_and,decide_false,Bool.false_and]
          exact leH
        by_cases d2 : 1099511627776 < e.time
        · have d1' : ¬ (0 ≤ e.time ∧ e.time ≤ 1099511627776) := by omega
          simp -implicitDefEqProofs only [zA,reduceIte,reduceCtorEq,Nat.reduceEqDiff,Nat.reduceAdd,Nat.reduceMul,Nat.reduceLT,Nat.reduceSub,Int.reduceLT,Int.reduceLE,Int.reduceEq,Int.reduceNe,Int.reduceSub,Int.reduceAdd,Int.reduceMul,Int.reduceBEq,Int.reduceBNe,Int.reduceGT,Int.reduceGE,Nat.reduceGT,Int.reduceToNat,Int.reduceNeg,Nat.reduceLeDiff,Nat.reduceBEq,Nat.reduceBneDiff,A3.time,d1,d2,d1',decide_false,Bool.false_and]
          exact leH
        have d1' : 0 ≤ e.time ∧ e.time ≤ 1099511627776 := by omega
        simp -implicitDefEqProofs only [zA,reduceIte,reduceCtorEq,Nat.reduceEqDiff,Nat.reduceAdd,Nat.reduceMul,Nat.reduceLT,Nat.reduceSub,Int.reduceLT,Int.reduceLE,Int.reduceEq,Int.reduceNe,Int.reduceSub,Int.reduceAdd,Int.reduceMul,Int.reduceBEq,Int.reduceBNe,Int.reduceGT,Int.reduceGE,Nat.reduceGT,Int.reduceToNat,Int.reduceNeg,Nat.reduceLeDiff,Nat.reduceBEq,Nat.reduceBneDiff,A3.time,d1,d2,A3.con]
        refine (qg9 E H3 e.con hc).mono ?_
        rintro r H4 ⟨rfl, rfl⟩
        cases d3 : qd0 e.con with
        | false =>
          simp -implicitDefEqProofs only [zA,reduceIte,reduceCtorEq,Nat.reduceEqDiff,Nat.reduceAdd,Nat.reduceMul,Nat.reduceLT,Nat.reduceSub,Int.reduceLT,Int.reduceLE,Int.reduceEq,Int.reduceNe,Int.reduceSub,Int.reduceAdd,Int.reduceMul,Int.reduceBEq,Int.reduceBNe,Int.reduceGT,Int.reduceGE,Nat.reduceGT,Int.reduceToNat,Int.reduceNeg,Nat.reduceLeDiff,Nat.reduceBEq,Nat.reduceBneDiff,d1',decide_true,Bool.true_and,Bool.false_and]
          exact leH
        | true =>
          simp -implicitDefEqProofs only [zA,reduceIte,reduceCtorEq,Nat.reduceEqDiff,Nat.reduceAdd,Nat.reduceMul,Nat.reduceLT,Nat.reduceSub,Int.reduceLT,Int.reduceLE,Int.reduceEq,Int.reduceNe,Int.reduceSub,Int.reduceAdd,Int.reduceMul,Int.reduceBEq,Int.reduceBNe,Int.reduceGT,Int.reduceGE,Nat.reduceGT,Int.reduceToNat,Int.reduceNeg,Nat.reduceLeDiff,Nat.reduceBEq,Nat.reduceBneDiff,d1',decide_true,Bool.true_and,A3.kind]
          unfold qdy
          by_cases d4 : e.kind = 1
          · have d4' : ¬ e.kind = 2 := by omega
            simp -implicitDefEqProofs only [zA,reduceIte,reduceCtorEq,Nat.reduceEqDiff,Nat.reduceAdd,Nat.reduceMul,Nat.reduceLT,Nat.reduceSub,Int.reduceLT,Int.reduceLE,Int.reduceEq,Int.reduceNe,Int.reduceSub,Int.reduceAdd,Int.reduceMul,Int.reduceBEq,Int.reduceBNe,Int.reduceGT,Int.reduceGE,Nat.reduceGT,Int.reduceToNat,Int.reduceNeg,Nat.reduceLeDiff,Nat.reduceBEq,Nat.reduceBneDiff,d4,A3.fld]
            refine (qg9 E _ e.fld hf).mono ?_
            rintro r H5 ⟨rfl, rfl⟩
            have ev := qet e.val
            cases d5 : qd0 e.fld with
            | false =>
              simp -implicitDefEqProofs only [zA,reduceIte,reduceCtorEq,Nat.reduceEqDiff,Nat.reduceAdd,Nat.reduceMul,Nat.reduceLT,Nat.reduceSub,Int.reduceLT,Int.reduceLE,Int.reduceEq,Int.reduceNe,Int.reduceSub,Int.reduceAdd,Int.reduceMul,Int.reduceBEq,Int.reduceBNe,Int.reduceGT,Int.reduceGE,Nat.reduceGT,Int.reduceToNat,Int.reduceNeg,Nat.reduceLeDiff,Nat.reduceBEq,Nat.reduceBneDiff,d4,decide_true,Bool.true_and,Bool.false_and]
              exact ⟨leH, rfl⟩
            | true =>
              have vv : strV e.val = .string ⟨e.val.toArray⟩ := rfl
              simp -implicitDefEqProofs only [zA,reduceIte,reduceCtorEq,Nat.reduceEqDiff,Nat.reduceAdd,Nat.reduceMul,Nat.reduceLT,Nat.reduceSub,Int.reduceLT,Int.reduceLE,Int.reduceEq,Int.reduceNe,Int.reduceSub,Int.reduceAdd,Int.reduceMul,Int.reduceBEq,Int.reduceBNe,Int.reduceGT,Int.reduceGE,Nat.reduceGT,Int.reduceToNat,Int.reduceNeg,Nat.reduceLeDiff,Nat.reduceBEq,Nat.reduceBneDiff,d4,A3.val,decide_true,Bool.true_and,Bool.false_and,vv,ev]
              refine ⟨leH, ?_⟩
              rw [Bool.or_false]
              congr 1
              by_cases g : e.val.length ≤ 200
              · rw [decide_eq_true g, decide_eq_true (by omega)]
              · rw [decide_eq_false g, decide_eq_false (by omega)]
          · by_cases d5 : e.kind = 2
            · have b1 := qjj e.fld
              have b2 := qjj e.val
              generalize decide (e.fld = []) = p1 at b1 ⊢
              generalize decide (e.val = []) = p2 at b2 ⊢
              cases p1 with
              | true =>
                simp -implicitDefEqProofs only [zA,reduceIte,reduceCtorEq,Nat.reduceEqDiff,Nat.reduceAdd,Nat.reduceMul,Nat.reduceLT,Nat.reduceSub,Int.reduceLT,Int.reduceLE,Int.reduceEq,Int.reduceNe,Int.reduceSub,Int.reduceAdd,Int.reduceMul,Int.reduceBEq,Int.reduceBNe,Int.reduceGT,Int.reduceGE,Nat.reduceGT,Int.reduceToNat,Int.reduceNeg,Nat.reduceLeDiff,Nat.reduceBEq,Nat.reduceBneDiff,d4,d5,A3.fld,A3.val,b1,b2,Bool.true_and,Bool.false_and,decide_true]
                exact ⟨leH, rfl⟩
              | false =>
                simp -implicitDefEqProofs only [zA,reduceIte,reduceCtorEq,Nat.reduceEqDiff,Nat.reduceAdd,Nat.reduceMul,Nat.reduceLT,Nat.reduceSub,Int.reduceLT,Int.reduceLE,Int.reduceEq,Int.reduceNe,Int.reduceSub,Int.reduceAdd,Int.reduceMul,Int.reduceBEq,Int.reduceBNe,Int.reduceGT,Int.reduceGE,Nat.reduceGT,Int.reduceToNat,Int.reduceNeg,Nat.reduceLeDiff,Nat.reduceBEq,Nat.reduceBneDiff,d4,d5,A3.fld,b1,Bool.false_and,decide_false]
                exact ⟨leH, rfl⟩
            · simp -implicitDefEqProofs only [zA,reduceIte,reduceCtorEq,Nat.reduceEqDiff,Nat.reduceAdd,Nat.reduceMul,Nat.reduceLT,Nat.reduceSub,Int.reduceLT,Int.reduceLE,Int.reduceEq,Int.reduceNe,Int.reduceSub,Int.reduceAdd,Int.reduceMul,Int.reduceBEq,Int.reduceBNe,Int.reduceGT,Int.reduceGE,Nat.reduceGT,Int.reduceToNat,Int.reduceNeg,Nat.reduceLeDiff,Nat.reduceBEq,Nat.reduceBneDiff,d4,d5,decide_true,decide_false,Bool.true_and,Bool.false_and,Bool.or_false]
              exact leH
      · have c5' : (e.seen[e.dev.toNat] != e.n - 1) = true := by simpa using c5
        have hf : q8g e = false := by
          have : ¬ e.seen[e.dev.toNat]? = some (e.n - 1) := by rw [List.getElem?_eq_getElem hD]; simpa using c5
          simp [q8g, this]
        rw [hf]
        simp -implicitDefEqProofs only [zA,reduceIte,reduceCtorEq,Nat.reduceEqDiff,Nat.reduceAdd,Nat.reduceMul,Nat.reduceLT,Nat.reduceSub,Int.reduceLT,Int.reduceLE,Int.reduceEq,Int.reduceNe,Int.reduceSub,Int.reduceAdd,Int.reduceMul,Int.reduceBEq,Int.reduceBNe,Int.reduceGT,Int.reduceGE,Nat.reduceGT,Int.reduceToNat,Int.reduceNeg,Nat.reduceLeDiff,Nat.reduceBEq,Nat.reduceBneDiff,c4,A3.dev,A3.n,xD,q1,q2,w1,c5']
        exact Heap.q07 le1 le3
    · have c4' : vecG e.seen = false := by simpa using c4
      have hf : q8g e = false := by simp [q8g, c4']
      rw [hf]
      simp -implicitDefEqProofs only [zA,reduceIte,reduceCtorEq,Nat.reduceEqDiff,Nat.reduceAdd,Nat.reduceMul,Nat.reduceLT,Nat.reduceSub,Int.reduceLT,Int.reduceLE,Int.reduceEq,Int.reduceNe,Int.reduceSub,Int.reduceAdd,Int.reduceMul,Int.reduceBEq,Int.reduceBNe,Int.reduceGT,Int.reduceGE,Nat.reduceGT,Int.reduceToNat,Int.reduceNeg,Nat.reduceLeDiff,Nat.reduceBEq,Nat.reduceBneDiff,c4']
      exact Heap.q07 le1 le3
  · have hf : q8g e = false := by simp only [q8g, c1, decide_false, Bool.false_and]
    rw [hf]
    simp -implicitDefEqProofs only [zA,reduceIte,reduceCtorEq,Nat.reduceEqDiff,Nat.reduceAdd,Nat.reduceMul,Nat.reduceLT,Nat.reduceSub,Int.reduceLT,Int.reduceLE,Int.reduceEq,Int.reduceNe,Int.reduceSub,Int.reduceAdd,Int.reduceMul,Int.reduceBEq,Int.reduceBNe,Int.reduceGT,Int.reduceGE,Nat.reduceGT,Int.reduceToNat,Int.reduceNeg,Nat.reduceLeDiff,Nat.reduceBEq,Nat.reduceBneDiff,c1]
    exact le1
end Go.Bb
namespace Go.Bb
set_option linter.unusedSimpArgs false
set_option linter.unusedVariables false
set_option maxRecDepth 20000
set_option maxHeartbeats 2000000
def cmpZ (x y : Int) : Int := if x < y then -1 else if y < x then 1 else 0
theorem qf9 (E : EnvT tab) (H : Heap) (x : Int) : ACallN E.toEnv qf2 [.int .i64 x] H fun r H' => H' = H ∧ r = .bool false := by
  refine q3s q8x q6f rfl rfl (q01 ?_)
  unfold q6f
  simp -implicitDefEqProofs only [zA,reduceIte,reduceCtorEq,Nat.reduceEqDiff,Nat.reduceAdd,Nat.reduceMul,Nat.reduceLT,Nat.reduceSub,Int.reduceLT,Int.reduceLE,Int.reduceEq,Int.reduceNe,Int.reduceSub,Int.reduceAdd,Int.reduceMul,Int.reduceBEq,Int.reduceBNe,Int.reduceGT,Int.reduceGE,Nat.reduceGT,Int.reduceToNat,Int.reduceNeg,Nat.reduceLeDiff,Nat.reduceBEq,Nat.reduceBneDiff,bne_self_eq_false]
theorem qcc (E : EnvT tab) (H : Heap) (x : Int) : ACallN E.toEnv qd3 [.int .i64 x] H fun r H' => H' = H ∧ r = .bool false := by
  refine q3s q7v q4i rfl rfl (q01 ?_)
  unfold q4i
  simp -implicitDefEqProofs only [zA,reduceIte,reduceCtorEq,Nat.reduceEqDiff,Nat.reduceAdd,Nat.reduceMul,Nat.reduceLT,Nat.reduceSub,Int.reduceLT,Int.reduceLE,Int.reduceEq,Int.reduceNe,Int.reduceSub,Int.reduceAdd,Int.reduceMul,Int.reduceBEq,Int.reduceBNe,Int.reduceGT,Int.reduceGE,Nat.reduceGT,Int.reduceToNat,Int.reduceNeg,Nat.reduceLeDiff,Nat.reduceBEq,Nat.reduceBneDiff,bne_self_eq_false]
theorem q9p (E : EnvT tab) (H : Heap) (x y : Int) : ACallN E.toEnv qd4 [.int .i64 x, .int .i64 y] H fun r H' => H' = H ∧ r = .int .i64 (cmpZ x y) := by
  refine q3s q7w q4j rfl rfl (q01 ?_)
  unfold q4j
  simp -implicitDefEqProofs only [zA,reduceIte,reduceCtorEq,Nat.reduceEqDiff,Nat.reduceAdd,Nat.reduceMul,Nat.reduceLT,Nat.reduceSub,Int.reduceLT,Int.reduceLE,Int.reduceEq,Int.reduceNe,Int.reduceSub,Int.reduceAdd,Int.reduceMul,Int.reduceBEq,Int.reduceBNe,Int.reduceGT,Int.reduceGE,Nat.reduceGT,Int.reduceToNat,Int.reduceNeg,Nat.reduceLeDiff,Nat.reduceBEq,Nat.reduceBneDiff]
  refine (qf9 E H x).mono ?_
  rintro r H1 ⟨rfl, rfl⟩
  simp -implicitDefEqProofs only [zA,reduceIte,reduceCtorEq,Nat.reduceEqDiff,Nat.reduceAdd,Nat.reduceMul,Nat.reduceLT,Nat.reduceSub,Int.reduceLT,Int.reduceLE,Int.reduceEq,Int.reduceNe,Int.reduceSub,Int.reduceAdd,Int.reduceMul,Int.reduceBEq,Int.reduceBNe,Int.reduceGT,Int.reduceGE,Nat.reduceGT,Int.reduceToNat,Int.reduceNeg,Nat.reduceLeDiff,Nat.reduceBEq,Nat.reduceBneDiff]
  refine (qf9 E _ y).mono ?_
  rintro r H1 ⟨rfl, rfl⟩
  unfold cmpZ
  by_cases h1 : x < y
  · simp -implicitDefEqProofs only [zA,reduceIte,reduceCtorEq,Nat.reduceEqDiff,Nat.reduceAdd,Nat.reduceMul,Nat.reduceLT,Nat.reduceSub,Int.reduceLT,Int.reduceLE,Int.reduceEq,Int.reduceNe,Int.reduceSub,Int.reduceAdd,Int.reduceMul,Int.reduceBEq,Int.reduceBNe,Int.reduceGT,Int.reduceGE,Nat.reduceGT,Int.reduceToNat,Int.reduceNeg,Nat.reduceLeDiff,Nat.reduceBEq,Nat.reduceBneDiff,h1]
  · by_cases h2 : y < x
    · simp -implicitDefEqProofs only [zA,reduceIte,reduceCtorEq,Nat.reduceEqDiff,Nat.reduceAdd,Nat.reduceMul,Nat.reduceLT,Nat.reduceSub,Int.reduceLT,Int.reduceLE,Int.reduceEq,Int.reduceNe,Int.reduceSub,Int.reduceAdd,Int.reduceMul,Int.reduceBEq,Int.reduceBNe,Int.reduceGT,Int.reduceGE,Nat.reduceGT,Int.reduceToNat,Int.reduceNeg,Nat.reduceLeDiff,Nat.reduceBEq,Nat.reduceBneDiff,h1,h2]
    · simp -implicitDefEqProofs only [zA,reduceIte,reduceCtorEq,Nat.reduceEqDiff,Nat.reduceAdd,Nat.reduceMul,Nat.reduceLT,Nat.reduceSub,Int.reduceLT,Int.reduceLE,Int.reduceEq,Int.reduceNe,Int.reduceSub,Int.reduceAdd,Int.reduceMul,Int.reduceBEq,Int.reduceBNe,Int.reduceGT,Int.reduceGE,Nat.reduceGT,Int.reduceToNat,Int.reduceNeg,Nat.reduceLeDiff,Nat.reduceBEq,Nat.reduceBneDiff,h1,h2]
theorem q6y (E : EnvT tab) (H : Heap) (x y : Int) : ACallN E.toEnv qbs [.int .i64 x, .int .i64 y] H fun r H' => H' = H ∧ r = .int .i64 (cmpZ x y) := by
  refine q3s q6w q3k rfl rfl (q01 ?_)
  unfold q3k
  simp -implicitDefEqProofs only [zA,reduceIte,reduceCtorEq,Nat.reduceEqDiff,Nat.reduceAdd,Nat.reduceMul,Nat.reduceLT,Nat.reduceSub,Int.reduceLT,Int.reduceLE,Int.reduceEq,Int.reduceNe,Int.reduceSub,Int.reduceAdd,Int.reduceMul,Int.reduceBEq,Int.reduceBNe,Int.reduceGT,Int.reduceGE,Nat.reduceGT,Int.reduceToNat,Int.reduceNeg,Nat.reduceLeDiff,Nat.reduceBEq,Nat.reduceBneDiff]
  refine (qcc E H x).mono ?_
  rintro r H1 ⟨rfl, rfl⟩
  simp -implicitDefEqProofs only [zA,reduceIte,reduceCtorEq,Nat.reduceEqDiff,Nat.reduceAdd,Nat.reduceMul,Nat.reduceLT,Nat.reduceSub,Int.reduceLT,Int.reduceLE,Int.reduceEq,Int.reduceNe,Int.reduceSub,Int.reduceAdd,Int.reduceMul,Int.reduceBEq,Int.reduceBNe,Int.reduceGT,Int.reduceGE,Nat.reduceGT,Int.reduceToNat,Int.reduceNeg,Nat.reduceLeDiff,Nat.reduceBEq,Nat.reduceBneDiff]
  refine (qcc E _ y).mono ?_
  rintro r H1 ⟨rfl, rfl⟩
  unfold cmpZ
  by_cases h1 : x < y
  · simp -implicitDefEqProofs only [zA,reduceIte,reduceCtorEq,Nat.reduceEqDiff,Nat.reduceAdd,Nat.reduceMul,Nat.reduceLT,Nat.reduceSub,Int.reduceLT,Int.reduceLE,Int.reduceEq,Int.reduceNe,Int.reduceSub,Int.reduceAdd,Int.reduceMul,Int.reduceBEq,Int.reduceBNe,Int.reduceGT,Int.reduceGE,Nat.reduceGT,Int.reduceToNat,Int.reduceNeg,Nat.reduceLeDiff,Nat.reduceBEq,Nat.reduceBneDiff,h1]
  · by_cases h2 : y < x
    · simp -implicitDefEqProofs only [zA,reduceIte,reduceCtorEq,Nat.reduceEqDiff,Nat.reduceAdd,Nat.reduceMul,Nat.reduceLT,Nat.reduceSub,Int.reduceLT,Int.reduceLE,Int.reduceEq,Int.reduceNe,Int.reduceSub,Int.reduceAdd,Int.reduceMul,Int.reduceBEq,Int.reduceBNe,Int.reduceGT,Int.reduceGE,Nat.reduceGT,Int.reduceToNat,Int.reduceNeg,Nat.reduceLeDiff,Nat.reduceBEq,Nat.reduceBneDiff,h1,h2]
    · simp -implicitDefEqProofs only [zA,reduceIte,reduceCtorEq,Nat.reduceEqDiff,Nat.reduceAdd,Nat.reduceMul,Nat.reduceLT,Nat.reduceSub,Int.reduceLT,Int.reduceLE,Int.reduceEq,Int.reduceNe,Int.reduceSub,Int.reduceAdd,Int.reduceMul,Int.reduceBEq,Int.reduceBNe,Int.reduceGT,Int.reduceGE,Nat.reduceGT,Int.reduceToNat,Int.reduceNeg,Nat.reduceLeDiff,Nat.reduceBEq,Nat.reduceBneDiff,h1,h2]
def orF (l : List Int) : Int := (l.find? (fun x => !decide (x = 0))).getD 0
theorem qe3 (E : EnvT tab) (H : Heap) (l : List Int) (hl : l.length ≤ 1000) {b c : Nat} (q : H b = some (.own 0 (l.map (.int .i64)) c)) : ACallN E.toEnv qhu [.slice (some ⟨b, 0, none⟩) l.length l.length] H fun r H' => H' = H ∧ r = .int .i64 (orF l) := by
  refine q3s qak q8f rfl rfl (q01 ?_)
  unfold q8f
  simp -implicitDefEqProofs only [zA,reduceIte,reduceCtorEq,Nat.reduceEqDiff,Nat.reduceAdd,Nat.reduceMul,Nat.reduceLT,Nat.reduceSub,Int.reduceLT,Int.reduceLE,Int.reduceEq,Int.reduceNe,Int.reduceSub,Int.reduceAdd,Int.reduceMul,Int.reduceBEq,Int.reduceBNe,Int.reduceGT,Int.reduceGE,Nat.reduceGT,Int.reduceToNat,Int.reduceNeg,Nat.reduceLeDiff,Nat.reduceBEq,Nat.reduceBneDiff]
  refine q3j (fun m t G => G = H ∧ ∃ i : Nat, t = tl [(3, .int .i64 0), (6, .slice (some ⟨b, 0, none⟩) l.length l.length), (7, .int .i64 l.length), (8, .int .i64 i)] ∧ i ≤ l.length ∧ m = l.length - i ∧ (l.take i).all (fun x => decide (x = 0)) = true) l.length
    ⟨rfl, 0, rfl, by omega, by omega, by simp⟩ ?_
  rintro m t G ⟨rfl, i, rfl, hi, rfl, ha⟩
  by_cases hlt : i < l.length
  · have hi1 : (i : Int) < l.length := by omega
    have hi2 : (0 : Int) ≤ i := by omega
    have w1 : IntKind.i64.wrap ((i : Int) + 1) = ((i + 1 : Nat) : Int) := qcs (by omega)
    have cx : q1r G ⟨b, i, none⟩ = some (.int .i64 l[i]) := by
      rw [q4n q (by simp; omega)]
      simp
    have et : l.take (i + 1) = l.take i ++ [l[i]] := List.take_succ_eq_append_getElem hlt
    by_cases g : l[i] = 0
    · simp -implicitDefEqProofs only [zA,reduceIte,reduceCtorEq,Nat.reduceEqDiff,Nat.reduceAdd,Nat.reduceMul,Nat.reduceLT,Nat.reduceSub,Int.reduceLT,Int.reduceLE,Int.reduceEq,Int.reduceNe,Int.reduceSub,Int.reduceAdd,Int.reduceMul,Int.reduceBEq,Int.reduceBNe,Int.reduceGT,Int.reduceGE,Nat.reduceGT,Int.reduceToNat,Int.reduceNeg,Nat.reduceLeDiff,Nat.reduceBEq,Nat.reduceBneDiff,hi1,hi2,Int.toNat_natCast,cx,g,w1,bne_self_eq_false]
      refine ⟨_, ?_, i + 1, rfl, by omega, rfl, ?_⟩
      · omega
      · rw [et, List.all_append, ha]; simp [g]
    · have g' : (l[i] != 0) = true := by simpa using g
      have hr : orF l = l[i] := by
        have hn : (l.take i).find? (fun x => !decide (x = 0)) = none := by
          rw [List.find?_eq_none]
          intro x hx
          have := List.all_eq_true.1 ha x hx
          simpa using this
        have hs : ∀ x, x = l[i] → l.find? (fun x => !decide (x = 0)) = some x := by
          rintro x hx
          have : l = l.take i ++ x :: l.drop (i + 1) := by rw [hx]; simp
          rw [this, List.find?_append, hn, List.find?_cons]
          simp [hx, g]
        unfold orF
        rw [hs _ rfl]
        rfl
      rw [hr]
      simp -implicitDefEqProofs only [zA,reduceIte,reduceCtorEq,Nat.reduceEqDiff,Nat.reduceAdd,Nat.reduceMul,Nat.reduceLT,Nat.reduceSub,Int.reduceLT,Int.reduceLE,Int.reduceEq,Int.reduceNe,Int.reduceSub,Int.reduceAdd,Int.reduceMul,Int.reduceBEq,Int.reduceBNe,Int.reduceGT,Int.reduceGE,Nat.reduceGT,Int.reduceToNat,Int.reduceNeg,Nat.reduceLeDiff,Nat.reduceBEq,Nat.reduceBneDiff,hi1,hi2,Int.toNat_natCast,cx,g',g,w1]
  · have hi1 : ¬ (i : Int) < l.length := by omega
    have e : i = l.length := by omega
    subst e
    rw [List.take_length] at ha
    have hr : orF l = 0 := by
      unfold orF
      have : l.find? (fun x => !decide (x = 0)) = none := by
        rw [List.find?_eq_none]
        intro x hx
        have := List.all_eq_true.1 ha x hx
        simpa using this
      rw [this]; rfl
    rw [hr]
    simp -implicitDefEqProofs only [zA,reduceIte,reduceCtorEq,Nat.reduceEqDiff,Nat.reduceAdd,Nat.reduceMul,Nat.reduceLT,Nat.reduceSub,Int.reduceLT,Int.reduceLE,Int.reduceEq,Int.reduceNe,Int.reduceSub,Int.reduceAdd,Int.reduceMul,Int.reduceBEq,Int.reduceBNe,Int.reduceGT,Int.reduceGE,Nat.reduceGT,Int.reduceToNat,Int.reduceNeg,Nat.reduceLeDiff,Nat.reduceBEq,Nat.reduceBneDiff,hi1]
end Go.Bb
namespace Go.Bb
set_option linter.unusedSimpArgs false
set_option linter.unusedVariables false
set_option maxRecDepth 20000
set_option maxHeartbeats 2000000
def hasV (v : List Int) (dev n : Int) : Bool := decide (0 ≤ dev ∧ dev < 8) && (decide (1 ≤ n) && decide (n ≤ v.getD dev.toNat 0))
theorem qk9 (E : EnvT tab) (H : Heap) (v : List Int) (h8 : v.length = 8) (dev n : Int) : ACallN E.toEnv ql2 [.agg (v.map (.int .i64)).toArray, .agg #[.int .i64 dev, .int .i64 n]] H fun r H' => H.le H' ∧ r = .bool (hasV v dev n) := by
  refine q3s qfb qay rfl rfl (q01 ?_)
  unfold qay
  have vl : (v.map (Value.int .i64)).length = 8 := by simp [h8]
  simp -implicitDefEqProofs only [zA,reduceIte,reduceCtorEq,Nat.reduceEqDiff,Nat.reduceAdd,Nat.reduceMul,Nat.reduceLT,Nat.reduceSub,Int.reduceLT,Int.reduceLE,Int.reduceEq,Int.reduceNe,Int.reduceSub,Int.reduceAdd,Int.reduceMul,Int.reduceBEq,Int.reduceBNe,Int.reduceGT,Int.reduceGE,Nat.reduceGT,Int.reduceToNat,Int.reduceNeg,Nat.reduceLeDiff,Nat.reduceBEq,Nat.reduceBneDiff]
  intro b hb
  try simp -implicitDefEqProofs only [zA,reduceIte,reduceCtorEq,Nat.reduceEqDiff,Nat.reduceAdd,Nat.reduceMul,Nat.reduceLT,Nat.reduceSub,Int.reduceLT,Int.reduceLE,Int.reduceEq,Int.reduceNe,Int.reduceSub,Int.reduceAdd,Int.reduceMul,Int.reduceBEq,Int.reduceBNe,Int.reduceGT,Int.reduceGE,Nat.reduceGT,Int.reduceToNat,Int.reduceNeg,Nat.reduceLeDiff,Nat.reduceBEq,Nat.reduceBneDiff]
  rw [vl]
  intro b2 hb2
  try simp -implicitDefEqProofs only [zA,reduceIte,reduceCtorEq,Nat.reduceEqDiff,Nat.reduceAdd,Nat.reduceMul,Nat.reduceLT,Nat.reduceSub,Int.reduceLT,Int.reduceLE,Int.reduceEq,Int.reduceNe,Int.reduceSub,Int.reduceAdd,Int.reduceMul,Int.reduceBEq,Int.reduceBNe,Int.reduceGT,Int.reduceGE,Nat.reduceGT,Int.reduceToNat,Int.reduceNeg,Nat.reduceLeDiff,Nat.reduceBEq,Nat.reduceBneDiff]
  have ne : b2 ≠ b := by intro e; subst e; rw [Heap.q02] at hb2; cases hb2
  have le2 : H.le ((H.set b (.own 0 (v.map (.int .i64)) 8)).set b2 (.own 0 [.int .i64 dev, .int .i64 n] 2)) := Heap.qie (Heap.q0v (Heap.q0e _) hb _) hb2 _
  have q1 : ((H.set b (.own 0 (v.map (.int .i64)) 8)).set b2 (.own 0 [.int .i64 dev, .int .i64 n] 2)) b = some (.own 0 (v.map (.int .i64)) 8) := by rw [Heap.q1e ne.symm, Heap.q02]
  have q2 : ((H.set b (.own 0 (v.map (.int .i64)) 8)).set b2 (.own 0 [.int .i64 dev, .int .i64 n] 2)) b2 = some (.own 0 [.int .i64 dev, .int .i64 n] 2) := Heap.q02 _ _ _
  generalize ((H.set b (.own 0 (v.map (.int .i64)) 8)).set b2 (.own 0 [.int .i64 dev, .int .i64 n] 2)) = G at le2 q1 q2
  have c1 : q1r G ⟨b2, 0, none⟩ = some (.int .i64 dev) := by rw [q4n q2 (by simp)]; rfl
  have c2 : q1r G ⟨b2, 1, none⟩ = some (.int .i64 n) := by rw [q4n q2 (by simp)]; rfl
  refine (qes E G dev).mono ?_
  rintro r H1 ⟨rfl, rfl⟩
  unfold hasV
  by_cases g1 : 0 ≤ dev ∧ dev < 8
  · have g2 := g1.1
    have g3 := g1.2
    have hD : dev.toNat < v.length := by omega
    have c3 : q1r H1 ⟨b, dev.toNat, none⟩ = some (.int .i64 v[dev.toNat]) := by rw [q4n q1 (by simp; omega)]; simp
    have e3 : v.getD dev.toNat 0 = v[dev.toNat] := by simp [List.getD, hD]
    rw [e3]
    by_cases g4 : 1 ≤ n
    · simp -implicitDefEqProofs only [zA,reduceIte,reduceCtorEq,Nat.reduceEqDiff,Nat.reduceAdd,Nat.reduceMul,Nat.reduceLT,Nat.reduceSub,Int.reduceLT,Int.reduceLE,Int.reduceEq,Int.reduceNe,Int.reduceSub,Int.reduceAdd,Int.reduceMul,Int.reduceBEq,Int.reduceBNe,Int.reduceGT,Int.reduceGE,Nat.reduceGT,Int.reduceToNat,Int.reduceNeg,Nat.reduceLeDiff,Nat.reduceBEq,Nat.reduceBneDiff,c1,c2,g1,g2,g3,g4,c3]
      exact le2
    · simp -implicitDefEqProofs only [zA,reduceIte,reduceCtorEq,Nat.reduceEqDiff,Nat.reduceAdd,Nat.reduceMul,Nat.reduceLT,Nat.reduceSub,Int.reduceLT,Int.reduceLE,Int.reduceEq,Int.reduceNe,Int.reduceSub,Int.reduceAdd,Int.reduceMul,Int.reduceBEq,Int.reduceBNe,Int.reduceGT,Int.reduceGE,Nat.reduceGT,Int.reduceToNat,Int.reduceNeg,Nat.reduceLeDiff,Nat.reduceBEq,Nat.reduceBneDiff,c1,c2,g1,g2,g3,g4,c3,Bool.false_and,decide_true,decide_false,Bool.and_false]
      exact le2
  · simp -implicitDefEqProofs only [zA,reduceIte,reduceCtorEq,Nat.reduceEqDiff,Nat.reduceAdd,Nat.reduceMul,Nat.reduceLT,Nat.reduceSub,Int.reduceLT,Int.reduceLE,Int.reduceEq,Int.reduceNe,Int.reduceSub,Int.reduceAdd,Int.reduceMul,Int.reduceBEq,Int.reduceBNe,Int.reduceGT,Int.reduceGE,Nat.reduceGT,Int.reduceToNat,Int.reduceNeg,Nat.reduceLeDiff,Nat.reduceBEq,Nat.reduceBneDiff,c1,c2,g1,Bool.false_and,decide_false]
    exact le2
def q85 (a b : Ed) : Bool := decide (b.kind = 1) && (hasV a.seen b.dev b.n && (decide (a.con = b.con) && (decide (a.kind = 2) || (decide (a.kind = 1) && decide (a.fld = b.fld)))))
theorem box2 {H : Heap} {b b2 : Nat} {x y : Ed} (hb : H b = none) (hb2 : (H.set b (.own 0 (edC x) 15)) b2 = none) (hx : x.seen.length = 8) (hy : y.seen.length = 8) :
    H.le ((H.set b (.own 0 (edC x) 15)).set b2 (.own 0 (edC y) 15)) ∧ EdAt ((H.set b (.own 0 (edC x) 15)).set b2 (.own 0 (edC y) 15)) b x ∧ EdAt ((H.set b (.own 0 (edC x) 15)).set b2 (.own 0 (edC y) 15)) b2 y := by
  have ne : b2 ≠ b := by intro e; subst e; rw [Heap.q02] at hb2; cases hb2
  exact ⟨Heap.qie (Heap.q0v (Heap.q0e _) hb _) hb2 _, EdAt.of (by rw [Heap.q1e ne.symm, Heap.q02]) hx, EdAt.of (Heap.q02 _ _ _) hy⟩
theorem EdAt.dot {G : Heap} {b : Nat} {e : Ed} (A : EdAt G b e) : q09 G ⟨b, 0, none⟩ 2 = some [.int .i64 e.dev, .int .i64 e.n] := by
  rw [q7k A.own (by simp [edC])]
  rfl
theorem qky (E : EnvT tab) (H : Heap) (x y : Ed) (hx : x.seen.length = 8) (hy : y.seen.length = 8) : ACallN E.toEnv ql5 [.agg (edC x).toArray, .agg (edC y).toArray] H fun r H' => H.le H' ∧ r = .bool (q85 x y) := by
  refine q3s qfe qb1 rfl rfl (q01 ?_)
  unfold qb1
  have lx := q5w hx
  have ly := q5w hy
  simp -implicitDefEqProofs only [zA,reduceIte,reduceCtorEq,Nat.reduceEqDiff,Nat.reduceAdd,Nat.reduceMul,Nat.reduceLT,Nat.reduceSub,Int.reduceLT,Int.reduceLE,Int.reduceEq,Int.reduceNe,Int.reduceSub,Int.reduceAdd,Int.reduceMul,Int.reduceBEq,Int.reduceBNe,Int.reduceGT,Int.reduceGE,Nat.reduceGT,Int.reduceToNat,Int.reduceNeg,Nat.reduceLeDiff,Nat.reduceBEq,Nat.reduceBneDiff]
  intro b hb
  try simp -implicitDefEqProofs only [zA,reduceIte,reduceCtorEq,Nat.reduceEqDiff,Nat.reduceAdd,Nat.reduceMul,Nat.reduceLT,Nat.reduceSub,Int.reduceLT,Int.reduceLE,Int.reduceEq,Int.reduceNe,Int.reduceSub,Int.reduceAdd,Int.reduceMul,Int.reduceBEq,Int.reduceBNe,Int.reduceGT,Int.reduceGE,Nat.reduceGT,Int.reduceToNat,Int.reduceNeg,Nat.reduceLeDiff,Nat.reduceBEq,Nat.reduceBneDiff]
  rw [lx]
  intro b2 hb2
  try simp -implicitDefEqProofs only [zA,reduceIte,reduceCtorEq,Nat.reduceEqDiff,Nat.reduceAdd,Nat.reduceMul,Nat.reduceLT,Nat.reduceSub,Int.reduceLT,Int.reduceLE,Int.reduceEq,Int.reduceNe,Int.reduceSub,Int.reduceAdd,Int.reduceMul,Int.reduceBEq,Int.reduceBNe,Int.reduceGT,Int.reduceGE,Nat.reduceGT,Int.reduceToNat,Int.reduceNeg,Nat.reduceLeDiff,Nat.reduceBEq,Nat.reduceBneDiff]
  rw [ly]
  obtain ⟨le, A, B⟩ := box2 hb hb2 hx hy
  generalize ((H.set b (.own 0 (edC x) 15)).set b2 (.own 0 (edC y) 15)) = G at le A B
  unfold q85
  by_cases g1 : y.kind = 1
  · have g1' : (y.kind != 1) = false := by simp [g1]
    simp -implicitDefEqProofs only [zA,reduceIte,reduceCtorEq,Nat.reduceEqDiff,Nat.reduceAdd,Nat.reduceMul,Nat.reduceLT,Nat.reduceSub,Int.reduceLT,Int.reduceLE,Int.reduceEq,Int.reduceNe,Int.reduceSub,Int.reduceAdd,Int.reduceMul,Int.reduceBEq,Int.reduceBNe,Int.reduceGT,Int.reduceGE,Nat.reduceGT,Int.reduceToNat,Int.reduceNeg,Nat.reduceLeDiff,Nat.reduceBEq,Nat.reduceBneDiff,B.kind,g1,g1',A.seen,B.dot,bne_self_eq_false]
    refine (qk9 E G x.seen hx y.dev y.n).mono ?_
    rintro r G1 ⟨le1, rfl⟩
    have A1 := A.le hx le1
    have B1 := B.le hy le1
    have leX := Heap.q07 le le1
    cases g2 : hasV x.seen y.dev y.n with
    | false =>
      simp -implicitDefEqProofs only [zA,reduceIte,reduceCtorEq,Nat.reduceEqDiff,Nat.reduceAdd,Nat.reduceMul,Nat.reduceLT,Nat.reduceSub,Int.reduceLT,Int.reduceLE,Int.reduceEq,Int.reduceNe,Int.reduceSub,Int.reduceAdd,Int.reduceMul,Int.reduceBEq,Int.reduceBNe,Int.reduceGT,Int.reduceGE,Nat.reduceGT,Int.reduceToNat,Int.reduceNeg,Nat.reduceLeDiff,Nat.reduceBEq,Nat.reduceBneDiff,g2,Bool.false_and,decide_true,Bool.and_false]
      exact leX
    | true =>
      have sn := qif x.con y.con
      by_cases g3 : x.con = y.con
      · rw [decide_eq_true g3] at sn ⊢
        by_cases g4 : x.kind = 2
        · simp -implicitDefEqProofs only [zA,reduceIte,reduceCtorEq,Nat.reduceEqDiff,Nat.reduceAdd,Nat.reduceMul,Nat.reduceLT,Nat.reduceSub,Int.reduceLT,Int.reduceLE,Int.reduceEq,Int.reduceNe,Int.reduceSub,Int.reduceAdd,Int.reduceMul,Int.reduceBEq,Int.reduceBNe,Int.reduceGT,Int.reduceGE,Nat.reduceGT,Int.reduceToNat,Int.reduceNeg,Nat.reduceLeDiff,Nat.reduceBEq,Nat.reduceBneDiff,g2,A1.con,B1.con,sn,Bool.not_true]
          unfold q8e
          simp -implicitDefEqProofs only [zA,reduceIte,reduceCtorEq,Nat.reduceEqDiff,Nat.reduceAdd,Nat.reduceMul,Nat.reduceLT,Nat.reduceSub,Int.reduceLT,Int.reduceLE,Int.reduceEq,Int.reduceNe,Int.reduceSub,Int.reduceAdd,Int.reduceMul,Int.reduceBEq,Int.reduceBNe,Int.reduceGT,Int.reduceGE,Nat.reduceGT,Int.reduceToNat,Int.reduceNeg,Nat.reduceLeDiff,Nat.reduceBEq,Nat.reduceBneDiff,A1.kind,g4,Bool.true_or,Bool.or_true,Bool.true_and,decide_true]
          exact leX
        · by_cases g5 : x.kind = 1
          · have se := qgn x.fld y.fld
            simp -implicitDefEqProofs only [zA,reduceIte,reduceCtorEq,Nat.reduceEqDiff,Nat.reduceAdd,Nat.reduceMul,Nat.reduceLT,Nat.reduceSub,Int.reduceLT,Int.reduceLE,Int.reduceEq,Int.reduceNe,Int.reduceSub,Int.reduceAdd,Int.reduceMul,Int.reduceBEq,Int.reduceBNe,Int.reduceGT,Int.reduceGE,Nat.reduceGT,Int.reduceToNat,Int.reduceNeg,Nat.reduceLeDiff,Nat.reduceBEq,Nat.reduceBneDiff,g2,A1.con,B1.con,sn,Bool.not_true]
            unfold q8e
            simp -implicitDefEqProofs only [zA,reduceIte,reduceCtorEq,Nat.reduceEqDiff,Nat.reduceAdd,Nat.reduceMul,Nat.reduceLT,Nat.reduceSub,Int.reduceLT,Int.reduceLE,Int.reduceEq,Int.reduceNe,Int.reduceSub,Int.reduceAdd,Int.reduceMul,Int.reduceBEq,Int.reduceBNe,Int.reduceGT,Int.reduceGE,Nat.reduceGT,Int.reduceToNat,Int.reduceNeg,Nat.reduceLeDiff,Nat.reduceBEq,Nat.reduceBneDiff,A1.kind,g4,g5,A1.fld,B1.fld,se,Bool.true_and,Bool.false_or,decide_true,decide_false]
            exact leX
          · simp -implicitDefEqProofs only [zA,reduceIte,reduceCtorEq,Nat.reduceEqDiff,Nat.reduceAdd,Nat.reduceMul,Nat.reduceLT,Nat.reduceSub,Int.reduceLT,Int.reduceLE,Int.reduceEq,Int.reduceNe,Int.reduceSub,Int.reduceAdd,Int.reduceMul,Int.reduceBEq,Int.reduceBNe,Int.reduceGT,Int.reduceGE,Nat.reduceGT,Int.reduceToNat,Int.reduceNeg,Nat.reduceLeDiff,Nat.reduceBEq,Nat.reduceBneDiff,g2,A1.con,B1.con,sn,Bool.not_true]
            unfold q8e
            simp -implicitDefEqProofs only [zA,reduceIte,reduceCtorEq,Nat.reduceEqDiff,Nat.reduceAdd,Nat.reduceMul,Nat.reduceLT,Nat.reduceSub,Int.reduceLT,Int.reduceLE,Int.reduceEq,Int.reduceNe,Int.reduceSub,Int.reduceAdd,Int.reduceMul,Int.reduceBEq,Int.reduceBNe,Int.reduceGT,Int.reduceGE,Nat.reduceGT,Int.reduceToNat,Int.reduceNeg,Nat.reduceLeDiff,Nat.reduceBEq,Nat.reduceBneDiff,A1.kind,g4,g5,Bool.true_and,Bool.false_or,Bool.false_and,decide_false]
            exact leX
      · rw [decide_eq_false g3] at sn ⊢
        simp -implicitDefEqProofs only [zA,reduceIte,reduceCtorEq,Nat.reduceEqDiff,Nat.reduceAdd,Nat.reduceMul,Nat.reduceLT,Nat.reduceSub,Int.reduceLT,Int.reduceLE,Int.reduceEq,Int.reduceNe,Int.reduceSub,Int.reduceAdd,Int.reduceMul,Int.reduceBEq,Int.reduceBNe,Int.reduceGT,Int.reduceGE,Nat.reduceGT,Int.reduceToNat,Int.reduceNeg,Nat.reduceLeDiff,Nat.reduceBEq,Nat.reduceBneDiff,g2,A1.con,B1.con,sn,Bool.not_false,Bool.false_and,Bool.and_false]
        exact leX
  · have g1' : (y.kind != 1) = true := by simpa using g1
    simp -implicitDefEqProofs only [zA,reduceIte,reduceCtorEq,Nat.reduceEqDiff,Nat.reduceAdd,Nat.reduceMul,Nat.reduceLT,Nat.reduceSub,Int.reduceLT,Int.reduceLE,Int.reduceEq,Int.reduceNe,Int.reduceSub,Int.reduceAdd,Int.reduceMul,Int.reduceBEq,Int.reduceBNe,Int.reduceGT,Int.reduceGE,Nat.reduceGT,Int.reduceToNat,Int.reduceNeg,Nat.reduceLeDiff,Nat.reduceBEq,Nat.reduceBneDiff,B.kind,g1',g1,decide_false,Bool.false_and]
    exact le
def cmpL (x y : Ed) : Int := orF [cmpZ x.time y.time, cmpZ x.dev y.dev, cmpZ x.n y.n]
def qk0 (x y : Ed) : Bool := decide (cmpL x y < 0)
def cmpD (x y : Ed) : Int := orF [cmpZ x.dev y.dev, cmpZ x.n y.n]
theorem qkz (E : EnvT tab) (H : Heap) (x y : Ed) (hx : x.seen.length = 8) (hy : y.seen.length = 8) : ACallN E.toEnv ql6 [.agg (edC x).toArray, .agg (edC y).toArray] H fun r H' => H.le H' ∧ r = .bool (qk0 x y) := by
  refine q3s qff qb2 rfl rfl (q01 ?_)
  unfold qb2
  have lx := q5w hx
  have ly := q5w hy
  simp -implicitDefEqProofs only [zA,reduceIte,reduceCtorEq,Nat.reduceEqDiff,Nat.reduceAdd,Nat.reduceMul,Nat.reduceLT,Nat.reduceSub,Int.reduceLT,Int.reduceLE,Int.reduceEq,Int.reduceNe,Int.reduceSub,Int.reduceAdd,Int.reduceMul,Int.reduceBEq,Int.reduceBNe,Int.reduceGT,Int.reduceGE,Nat.reduceGT,Int.reduceToNat,Int.reduceNeg,Nat.reduceLeDiff,Nat.reduceBEq,Nat.reduceBneDiff]
  intro b hb
  try simp -implicitDefEqProofs only [zA,reduceIte,reduceCtorEq,Nat.reduceEqDiff,Nat.reduceAdd,Nat.reduceMul,Nat.reduceLT,Nat.reduceSub,Int.reduceLT,Int.reduceLE,Int.reduceEq,Int.reduceNe,Int.reduceSub,Int.reduceAdd,Int.reduceMul,Int.reduceBEq,Int.reduceBNe,Int.reduceGT,Int.reduceGE,Nat.reduceGT,Int.reduceToNat,Int.reduceNeg,Nat.reduceLeDiff,Nat.reduceBEq,Nat.reduceBneDiff]
  rw [lx]
  intro b2 hb2
  try simp -implicitDefEqProofs only [zA,reduceIte,reduceCtorEq,Nat.reduceEqDiff,Nat.reduceAdd,Nat.reduceMul,Nat.reduceLT,Nat.reduceSub,Int.reduceLT,Int.reduceLE,Int.reduceEq,Int.reduceNe,Int.reduceSub,Int.reduceAdd,Int.reduceMul,Int.reduceBEq,Int.reduceBNe,Int.reduceGT,Int.reduceGE,Nat.reduceGT,Int.reduceToNat,Int.reduceNeg,Nat.reduceLeDiff,Nat.reduceBEq,Nat.reduceBneDiff]
  rw [ly]
  obtain ⟨le, A, B⟩ := box2 hb hb2 hx hy
  generalize ((H.set b (.own 0 (edC x) 15)).set b2 (.own 0 (edC y) 15)) = G at le A B
  unfold qdx
  simp -implicitDefEqProofs only [zA,reduceIte,reduceCtorEq,Nat.reduceEqDiff,Nat.reduceAdd,Nat.reduceMul,Nat.reduceLT,Nat.reduceSub,Int.reduceLT,Int.reduceLE,Int.reduceEq,Int.reduceNe,Int.reduceSub,Int.reduceAdd,Int.reduceMul,Int.reduceBEq,Int.reduceBNe,Int.reduceGT,Int.reduceGE,Nat.reduceGT,Int.reduceToNat,Int.reduceNeg,Nat.reduceLeDiff,Nat.reduceBEq,Nat.reduceBneDiff,A.time,B.time]
  refine (q6y E G _ _).mono ?_
  rintro r H1 ⟨rfl, rfl⟩
  simp -implicitDefEqProofs only [zA,reduceIte,reduceCtorEq,Nat.reduceEqDiff,Nat.reduceAdd,Nat.reduceMul,Nat.reduceLT,Nat.reduceSub,Int.reduceLT,Int.reduceLE,Int.reduceEq,Int.reduceNe,Int.reduceSub,Int.reduceAdd,Int.reduceMul,Int.reduceBEq,Int.reduceBNe,Int.reduceGT,Int.reduceGE,Nat.reduceGT,Int.reduceToNat,Int.reduceNeg,Nat.reduceLeDiff,Nat.reduceBEq,Nat.reduceBneDiff,A.dev,B.dev,List.mem_singleton,forall_eq,implies_true,true_and]
  refine (q9p E _ _ _).mono ?_
  rintro r H1 ⟨rfl, rfl⟩
  simp -implicitDefEqProofs only [zA,reduceIte,reduceCtorEq,Nat.reduceEqDiff,Nat.reduceAdd,Nat.reduceMul,Nat.reduceLT,Nat.reduceSub,Int.reduceLT,Int.reduceLE,Int.reduceEq,Int.reduceNe,Int.reduceSub,Int.reduceAdd,Int.reduceMul,Int.reduceBEq,Int.reduceBNe,Int.reduceGT,Int.reduceGE,Nat.reduceGT,Int.reduceToNat,Int.reduceNeg,Nat.reduceLeDiff,Nat.reduceBEq,Nat.reduceBneDiff,A.n,B.n,List.mem_singleton,forall_eq,implies_true,true_and]
  have m2 : ∀ g : Heap, g ∈ [H1, H1] → g = H1 := by intro g hg; simpa using hg
  refine ⟨fun g hg => by rw [m2 g hg]; exact A.n, fun g hg => by rw [m2 g hg]; exact B.n, ?_⟩
  refine (q6y E _ _ _).mono ?_
  rintro r H1 ⟨rfl, rfl⟩
  simp -implicitDefEqProofs only [zA,reduceIte,reduceCtorEq,Nat.reduceEqDiff,Nat.reduceAdd,Nat.reduceMul,Nat.reduceLT,Nat.reduceSub,Int.reduceLT,Int.reduceLE,Int.reduceEq,Int.reduceNe,Int.reduceSub,Int.reduceAdd,Int.reduceMul,Int.reduceBEq,Int.reduceBNe,Int.reduceGT,Int.reduceGE,Nat.reduceGT,Int.reduceToNat,Int.reduceNeg,Nat.reduceLeDiff,Nat.reduceBEq,Nat.reduceBneDiff]
  intro b3 hb3
  try simp -implicitDefEqProofs only [zA,reduceIte,reduceCtorEq,Nat.reduceEqDiff,Nat.reduceAdd,Nat.reduceMul,Nat.reduceLT,Nat.reduceSub,Int.reduceLT,Int.reduceLE,Int.reduceEq,Int.reduceNe,Int.reduceSub,Int.reduceAdd,Int.reduceMul,Int.reduceBEq,Int.reduceBNe,Int.reduceGT,Int.reduceGE,Nat.reduceGT,Int.reduceToNat,Int.reduceNeg,Nat.reduceLeDiff,Nat.reduceBEq,Nat.reduceBneDiff]
  refine (qe3 E _ [cmpZ x.time y.time, cmpZ x.dev y.dev, cmpZ x.n y.n] (by simp) (Heap.q02 _ _ _)).mono ?_
  rintro r H2 ⟨rfl, rfl⟩
  simp -implicitDefEqProofs only [zA,reduceIte,reduceCtorEq,Nat.reduceEqDiff,Nat.reduceAdd,Nat.reduceMul,Nat.reduceLT,Nat.reduceSub,Int.reduceLT,Int.reduceLE,Int.reduceEq,Int.reduceNe,Int.reduceSub,Int.reduceAdd,Int.reduceMul,Int.reduceBEq,Int.reduceBNe,Int.reduceGT,Int.reduceGE,Nat.reduceGT,Int.reduceToNat,Int.reduceNeg,Nat.reduceLeDiff,Nat.reduceBEq,Nat.reduceBneDiff]
  exact ⟨Heap.q07 le (Heap.q0v (Heap.q0e _) hb3 _), rfl⟩
theorem qg3 (E : EnvT tab) (H : Heap) (x y : Ed) (hx : x.seen.length = 8) (hy : y.seen.length = 8) : ACallN E.toEnv q8l [.agg (edC x).toArray, .agg (edC y).toArray] H fun r H' => H.le H' ∧ r = .int .i64 (cmpD x y) := by
  refine q3s q6x q3l rfl rfl (q01 ?_)
  unfold q3l
  have lx := q5w hx
  have ly := q5w hy
  simp -implicitDefEqProofs only [zA,reduceIte,reduceCtorEq,Nat.reduceEqDiff,Nat.reduceAdd,Nat.reduceMul,Nat.reduceLT,Nat.reduceSub,Int.reduceLT,Int.reduceLE,Int.reduceEq,Int.reduceNe,Int.reduceSub,Int.reduceAdd,Int.reduceMul,Int.reduceBEq,Int.reduceBNe,Int.reduceGT,Int.reduceGE,Nat.reduceGT,Int.reduceToNat,Int.reduceNeg,Nat.reduceLeDiff,Nat.reduceBEq,Nat.reduceBneDiff]
  intro b hb
  try simp -implicitDefEqProofs only [zA,reduceIte,reduceCtorEq,Nat.reduceEqDiff,Nat.reduceAdd,Nat.reduceMul,Nat.reduceLT,Nat.reduceSub,Int.reduceLT,Int.reduceLE,Int.reduceEq,Int.reduceNe,Int.reduceSub,Int.reduceAdd,Int.reduceMul,Int.reduceBEq,Int.reduceBNe,Int.reduceGT,Int.reduceGE,Nat.reduceGT,Int.reduceToNat,Int.reduceNeg,Nat.reduceLeDiff,Nat.reduceBEq,Nat.reduceBneDiff]
  rw [lx]
  intro b2 hb2
  try simp -implicitDefEqProofs only [zA,reduceIte,reduceCtorEq,Nat.reduceEqDiff,Nat.reduceAdd,Nat.reduceMul,Nat.reduceLT,Nat.reduceSub,Int.reduceLT,Int.reduceLE,Int.reduceEq,Int.reduceNe,Int.reduceSub,Int.reduceAdd,Int.reduceMul,Int.reduceBEq,Int.reduceBNe,Int.reduceGT,Int.reduceGE,Nat.reduceGT,Int.reduceToNat,Int.reduceNeg,Nat.reduceLeDiff,Nat.reduceBEq,Nat.reduceBneDiff]
  rw [ly]
  obtain ⟨le, A, B⟩ := box2 hb hb2 hx hy
  generalize ((H.set b (.own 0 (edC x) 15)).set b2 (.own 0 (edC y) 15)) = G at le A B
  simp -implicitDefEqProofs only [zA,reduceIte,reduceCtorEq,Nat.reduceEqDiff,Nat.reduceAdd,Nat.reduceMul,Nat.reduceLT,Nat.reduceSub,Int.reduceLT,Int.reduceLE,Int.reduceEq,Int.reduceNe,Int.reduceSub,Int.reduceAdd,Int.reduceMul,Int.reduceBEq,Int.reduceBNe,Int.reduceGT,Int.reduceGE,Nat.reduceGT,Int.reduceToNat,Int.reduceNeg,Nat.reduceLeDiff,Nat.reduceBEq,Nat.reduceBneDiff,A.dev,B.dev]
  refine (q9p E _ _ _).mono ?_
  rintro r H1 ⟨rfl, rfl⟩
  simp -implicitDefEqProofs only [zA,reduceIte,reduceCtorEq,Nat.reduceEqDiff,Nat.reduceAdd,Nat.reduceMul,Nat.reduceLT,Nat.reduceSub,Int.reduceLT,Int.reduceLE,Int.reduceEq,Int.reduceNe,Int.reduceSub,Int.reduceAdd,Int.reduceMul,Int.reduceBEq,Int.reduceBNe,Int.reduceGT,Int.reduceGE,Nat.reduceGT,Int.reduceToNat,Int.reduceNeg,Nat.reduceLeDiff,Nat.reduceBEq,Nat.reduceBneDiff,A.n,B.n,List.mem_singleton,forall_eq,implies_true,true_and]
  refine (q6y E _ _ _).mono ?_
  rintro r H1 ⟨rfl, rfl⟩
  simp -implicitDefEqProofs only [zA,reduceIte,reduceCtorEq,Nat.reduceEqDiff,Nat.reduceAdd,Nat.reduceMul,Nat.reduceLT,Nat.reduceSub,Int.reduceLT,Int.reduceLE,Int.reduceEq,Int.reduceNe,Int.reduceSub,Int.reduceAdd,Int.reduceMul,Int.reduceBEq,Int.reduceBNe,Int.reduceGT,Int.reduceGE,Nat.reduceGT,Int.reduceToNat,Int.reduceNeg,Nat.reduceLeDiff,Nat.reduceBEq,Nat.reduceBneDiff]
  intro b3 hb3
  try simp -implicitDefEqProofs only [zA,reduceIte,reduceCtorEq,Nat.reduceEqDiff,Nat.reduceAdd,Nat.reduceMul,Nat.reduceLT,Nat.reduceSub,Int.reduceLT,Int.reduceLE,Int.reduceEq,Int.reduceNe,Int.reduceSub,Int.reduceAdd,Int.reduceMul,Int.reduceBEq,Int.reduceBNe,Int.reduceGT,Int.reduceGE,Nat.reduceGT,Int.reduceToNat,Int.reduceNeg,Nat.reduceLeDiff,Nat.reduceBEq,Nat.reduceBneDiff]
  refine (qe3 E _ [cmpZ x.dev y.dev, cmpZ x.n y.n] (by simp) (Heap.q02 _ _ _)).mono ?_
  rintro r H2 ⟨rfl, rfl⟩
  simp -implicitDefEqProofs only [zA,reduceIte,reduceCtorEq,Nat.reduceEqDiff,Nat.reduceAdd,Nat.reduceMul,Nat.reduceLT,Nat.reduceSub,Int.reduceLT,Int.reduceLE,Int.reduceEq,Int.reduceNe,Int.reduceSub,Int.reduceAdd,Int.reduceMul,Int.reduceBEq,Int.reduceBNe,Int.reduceGT,Int.reduceGE,Nat.reduceGT,Int.reduceToNat,Int.reduceNeg,Nat.reduceLeDiff,Nat.reduceBEq,Nat.reduceBneDiff]
  exact ⟨Heap.q07 le (Heap.q0v (Heap.q0e _) hb3 _), rfl⟩
def qlt (x y : Ed) : Int := if qk0 x y then -1 else 1
theorem qh6 (E : EnvT tab) (H : Heap) (x y : Ed) (hx : x.seen.length = 8) (hy : y.seen.length = 8) : ACallN E.toEnv q93 [.agg (edC x).toArray, .agg (edC y).toArray] H fun r H' => H.le H' ∧ r = .int .i64 (qlt x y) := by
  refine q3s q7m q3z rfl rfl (q01 ?_)
  unfold q3z
  have lx := q5w hx
  have ly := q5w hy
  simp -implicitDefEqProofs only [zA,reduceIte,reduceCtorEq,Nat.reduceEqDiff,Nat.reduceAdd,Nat.reduceMul,Nat.reduceLT,Nat.reduceSub,Int.reduceLT,Int.reduceLE,Int.reduceEq,Int.reduceNe,Int.reduceSub,Int.reduceAdd,Int.reduceMul,Int.reduceBEq,Int.reduceBNe,Int.reduceGT,Int.reduceGE,Nat.reduceGT,Int.reduceToNat,Int.reduceNeg,Nat.reduceLeDiff,Nat.reduceBEq,Nat.reduceBneDiff]
  intro b hb
  try simp -implicitDefEqProofs only [zA,reduceIte,reduceCtorEq,Nat.reduceEqDiff,Nat.reduceAdd,Nat.reduceMul,Nat.reduceLT,Nat.reduceSub,Int.reduceLT,Int.reduceLE,Int.reduceEq,Int.reduceNe,Int.reduceSub,Int.reduceAdd,Int.reduceMul,Int.reduceBEq,Int.reduceBNe,Int.reduceGT,Int.reduceGE,Nat.reduceGT,Int.reduceToNat,Int.reduceNeg,Nat.reduceLeDiff,Nat.reduceBEq,Nat.reduceBneDiff]
  rw [lx]
  intro b2 hb2
  try simp -implicitDefEqProofs only [zA,reduceIte,reduceCtorEq,Nat.reduceEqDiff,Nat.reduceAdd,Nat.reduceMul,Nat.reduceLT,Nat.reduceSub,Int.reduceLT,Int.reduceLE,Int.reduceEq,Int.reduceNe,Int.reduceSub,Int.reduceAdd,Int.reduceMul,Int.reduceBEq,Int.reduceBNe,Int.reduceGT,Int.reduceGE,Nat.reduceGT,Int.reduceToNat,Int.reduceNeg,Nat.reduceLeDiff,Nat.reduceBEq,Nat.reduceBneDiff]
  rw [ly]
  obtain ⟨le, A, B⟩ := box2 hb hb2 hx hy
  generalize ((H.set b (.own 0 (edC x) 15)).set b2 (.own 0 (edC y) 15)) = G at le A B
  simp -implicitDefEqProofs only [zA,reduceIte,reduceCtorEq,Nat.reduceEqDiff,Nat.reduceAdd,Nat.reduceMul,Nat.reduceLT,Nat.reduceSub,Int.reduceLT,Int.reduceLE,Int.reduceEq,Int.reduceNe,Int.reduceSub,Int.reduceAdd,Int.reduceMul,Int.reduceBEq,Int.reduceBNe,Int.reduceGT,Int.reduceGE,Nat.reduceGT,Int.reduceToNat,Int.reduceNeg,Nat.reduceLeDiff,Nat.reduceBEq,Nat.reduceBneDiff,A.all,B.all]
  refine (qkz E _ x y hx hy).mono ?_
  rintro r H1 ⟨le1, rfl⟩
  unfold qlt
  cases qk0 x y with
  | true =>
    simp -implicitDefEqProofs only [zA,reduceIte,reduceCtorEq,Nat.reduceEqDiff,Nat.reduceAdd,Nat.reduceMul,Nat.reduceLT,Nat.reduceSub,Int.reduceLT,Int.reduceLE,Int.reduceEq,Int.reduceNe,Int.reduceSub,Int.reduceAdd,Int.reduceMul,Int.reduceBEq,Int.reduceBNe,Int.reduceGT,Int.reduceGE,Nat.reduceGT,Int.reduceToNat,Int.reduceNeg,Nat.reduceLeDiff,Nat.reduceBEq,Nat.reduceBneDiff]
    exact Heap.q07 le le1
  | false =>
    simp -implicitDefEqProofs only [zA,reduceIte,reduceCtorEq,Nat.reduceEqDiff,Nat.reduceAdd,Nat.reduceMul,Nat.reduceLT,Nat.reduceSub,Int.reduceLT,Int.reduceLE,Int.reduceEq,Int.reduceNe,Int.reduceSub,Int.reduceAdd,Int.reduceMul,Int.reduceBEq,Int.reduceBNe,Int.reduceGT,Int.reduceGE,Nat.reduceGT,Int.reduceToNat,Int.reduceNeg,Nat.reduceLeDiff,Nat.reduceBEq,Nat.reduceBneDiff]
    exact Heap.q07 le le1
theorem qh7 (E : EnvT tab) (H : Heap) (x y : Ed) (hx : x.seen.length = 8) (hy : y.seen.length = 8) {b0 : Nat} (q0 : H b0 = some (.own 0 (edC y) 15)) : ACallN E.toEnv q94 [.agg (edC x).toArray, .pointer (some ⟨b0, 0, none⟩)] H fun r H' => H.le H' ∧ r = .bool (q85 x y) := by
  refine q3s q7n q40 rfl rfl (q01 ?_)
  unfold q40
  have lx := q5w hx
  simp -implicitDefEqProofs only [zA,reduceIte,reduceCtorEq,Nat.reduceEqDiff,Nat.reduceAdd,Nat.reduceMul,Nat.reduceLT,Nat.reduceSub,Int.reduceLT,Int.reduceLE,Int.reduceEq,Int.reduceNe,Int.reduceSub,Int.reduceAdd,Int.reduceMul,Int.reduceBEq,Int.reduceBNe,Int.reduceGT,Int.reduceGE,Nat.reduceGT,Int.reduceToNat,Int.reduceNeg,Nat.reduceLeDiff,Nat.reduceBEq,Nat.reduceBneDiff]
  intro b hb
  try simp -implicitDefEqProofs only [zA,reduceIte,reduceCtorEq,Nat.reduceEqDiff,Nat.reduceAdd,Nat.reduceMul,Nat.reduceLT,Nat.reduceSub,Int.reduceLT,Int.reduceLE,Int.reduceEq,Int.reduceNe,Int.reduceSub,Int.reduceAdd,Int.reduceMul,Int.reduceBEq,Int.reduceBNe,Int.reduceGT,Int.reduceGE,Nat.reduceGT,Int.reduceToNat,Int.reduceNeg,Nat.reduceLeDiff,Nat.reduceBEq,Nat.reduceBneDiff]
  rw [lx]
  have le := Heap.q0v (Heap.q0e H) hb (.own 0 (edC x) 15)
  have A : EdAt (H.set b (.own 0 (edC x) 15)) b x := EdAt.of (Heap.q02 _ _ _) hx
  have B : EdAt (H.set b (.own 0 (edC x) 15)) b0 y := EdAt.of (le _ _ q0) hy
  generalize (H.set b (.own 0 (edC x) 15)) = G at le A B
  simp -implicitDefEqProofs only [zA,reduceIte,reduceCtorEq,Nat.reduceEqDiff,Nat.reduceAdd,Nat.reduceMul,Nat.reduceLT,Nat.reduceSub,Int.reduceLT,Int.reduceLE,Int.reduceEq,Int.reduceNe,Int.reduceSub,Int.reduceAdd,Int.reduceMul,Int.reduceBEq,Int.reduceBNe,Int.reduceGT,Int.reduceGE,Nat.reduceGT,Int.reduceToNat,Int.reduceNeg,Nat.reduceLeDiff,Nat.reduceBEq,Nat.reduceBneDiff,A.all,B.all]
  refine (qky E _ x y hx hy).mono ?_
  rintro r H1 ⟨le1, rfl⟩
  simp -implicitDefEqProofs only [zA,reduceIte,reduceCtorEq,Nat.reduceEqDiff,Nat.reduceAdd,Nat.reduceMul,Nat.reduceLT,Nat.reduceSub,Int.reduceLT,Int.reduceLE,Int.reduceEq,Int.reduceNe,Int.reduceSub,Int.reduceAdd,Int.reduceMul,Int.reduceBEq,Int.reduceBNe,Int.reduceGT,Int.reduceGE,Nat.reduceGT,Int.reduceToNat,Int.reduceNeg,Nat.reduceLeDiff,Nat.reduceBEq,Nat.reduceBneDiff]
  exact Heap.q07 le le1
end Go.Bb
namespace Go.Bb
set_option linter.unusedSimpArgs false
set_option linter.unusedVariables false
set_option maxRecDepth 20000
set_option maxHeartbeats 2000000
theorem qfq (E : EnvT tab) (H : Heap) : ACallN E.toEnv qf1 [.int .u64 0] H fun r H' => H' = H ∧ r = .int .i64 0 := by
  refine q3s q8w q6e rfl rfl (q01 ?_)
  unfold q6e
  simp -implicitDefEqProofs only [zA,reduceIte,reduceCtorEq,Nat.reduceEqDiff,Nat.reduceAdd,Nat.reduceMul,Nat.reduceLT,Nat.reduceSub,Int.reduceLT,Int.reduceLE,Int.reduceEq,Int.reduceNe,Int.reduceSub,Int.reduceAdd,Int.reduceMul,Int.reduceBEq,Int.reduceBNe,Int.reduceGT,Int.reduceGE,Nat.reduceGT,Int.reduceToNat,Int.reduceNeg,Nat.reduceLeDiff,Nat.reduceBEq,Nat.reduceBneDiff]
  refine ACallN.mono (Q := fun r H' => H' = H ∧ r = .int .i64 0) ?_ ?_
  · refine q3s q7u q4h rfl rfl (q01 ?_)
    unfold q4h
    simp -implicitDefEqProofs only [zA,reduceIte,reduceCtorEq,Nat.reduceEqDiff,Nat.reduceAdd,Nat.reduceMul,Nat.reduceLT,Nat.reduceSub,Int.reduceLT,Int.reduceLE,Int.reduceEq,Int.reduceNe,Int.reduceSub,Int.reduceAdd,Int.reduceMul,Int.reduceBEq,Int.reduceBNe,Int.reduceGT,Int.reduceGE,Nat.reduceGT,Int.reduceToNat,Int.reduceNeg,Nat.reduceLeDiff,Nat.reduceBEq,Nat.reduceBneDiff]
    unfold q89
    have w0 : IntKind.u8.wrap 0 = 0 := by decide
    have w1 : IntKind.i64.wrap 0 = 0 := by decide
    simp -implicitDefEqProofs only [zA,reduceIte,reduceCtorEq,Nat.reduceEqDiff,Nat.reduceAdd,Nat.reduceMul,Nat.reduceLT,Nat.reduceSub,Int.reduceLT,Int.reduceLE,Int.reduceEq,Int.reduceNe,Int.reduceSub,Int.reduceAdd,Int.reduceMul,Int.reduceBEq,Int.reduceBNe,Int.reduceGT,Int.reduceGE,Nat.reduceGT,Int.reduceToNat,Int.reduceNeg,Nat.reduceLeDiff,Nat.reduceBEq,Nat.reduceBneDiff,w0,w1]
    unfold q84
    simp -implicitDefEqProofs only [zA,reduceIte,reduceCtorEq,Nat.reduceEqDiff,Nat.reduceAdd,Nat.reduceMul,Nat.reduceLT,Nat.reduceSub,Int.reduceLT,Int.reduceLE,Int.reduceEq,Int.reduceNe,Int.reduceSub,Int.reduceAdd,Int.reduceMul,Int.reduceBEq,Int.reduceBNe,Int.reduceGT,Int.reduceGE,Nat.reduceGT,Int.reduceToNat,Int.reduceNeg,Nat.reduceLeDiff,Nat.reduceBEq,Nat.reduceBneDiff,w0,w1]
    rfl
  · rintro r H1 ⟨rfl, rfl⟩
    simp -implicitDefEqProofs only [zA,reduceIte,reduceCtorEq,Nat.reduceEqDiff,Nat.reduceAdd,Nat.reduceMul,Nat.reduceLT,Nat.reduceSub,Int.reduceLT,Int.reduceLE,Int.reduceEq,Int.reduceNe,Int.reduceSub,Int.reduceAdd,Int.reduceMul,Int.reduceBEq,Int.reduceBNe,Int.reduceGT,Int.reduceGE,Nat.reduceGT,Int.reduceToNat,Int.reduceNeg,Nat.reduceLeDiff,Nat.reduceBEq,Nat.reduceBneDiff]
theorem qle (E : EnvT tab) (H : Heap) (f : Value) : ACallN E.toEnv q5k [.slice none 0 0, .int .i64 0, .int .i64 0, f] H fun r H' => H' = H := by
  refine q3s q0y q0f rfl rfl (q01 ?_)
  unfold q0f
  simp -implicitDefEqProofs only [zA,reduceIte,reduceCtorEq,Nat.reduceEqDiff,Nat.reduceAdd,Nat.reduceMul,Nat.reduceLT,Nat.reduceSub,Int.reduceLT,Int.reduceLE,Int.reduceEq,Int.reduceNe,Int.reduceSub,Int.reduceAdd,Int.reduceMul,Int.reduceBEq,Int.reduceBNe,Int.reduceGT,Int.reduceGE,Nat.reduceGT,Int.reduceToNat,Int.reduceNeg,Nat.reduceLeDiff,Nat.reduceBEq,Nat.reduceBneDiff]
  refine q3j (fun m t G => G = H ∧ t = tl [(0, .slice none 0 0), (1, .int .i64 0), (2, .int .i64 0), (3, f), (8, .int .i64 1)] ∧ m = 0) 0 ⟨rfl, rfl, rfl⟩ ?_
  rintro m t G ⟨rfl, rfl, rfl⟩
  simp -implicitDefEqProofs only [zA,reduceIte,reduceCtorEq,Nat.reduceEqDiff,Nat.reduceAdd,Nat.reduceMul,Nat.reduceLT,Nat.reduceSub,Int.reduceLT,Int.reduceLE,Int.reduceEq,Int.reduceNe,Int.reduceSub,Int.reduceAdd,Int.reduceMul,Int.reduceBEq,Int.reduceBNe,Int.reduceGT,Int.reduceGE,Nat.reduceGT,Int.reduceToNat,Int.reduceNeg,Nat.reduceLeDiff,Nat.reduceBEq,Nat.reduceBneDiff]
theorem qkw (E : EnvT tab) (H : Heap) (f : Value) : ACallN E.toEnv q7t [.slice none 0 0, .int .i64 0, .int .i64 0, .int .i64 0, f] H fun r H' => H' = H := by
  refine q3s q1f q0s rfl rfl (q01 ?_)
  unfold q0s
  simp -implicitDefEqProofs only [zA,reduceIte,reduceCtorEq,Nat.reduceEqDiff,Nat.reduceAdd,Nat.reduceMul,Nat.reduceLT,Nat.reduceSub,Int.reduceLT,Int.reduceLE,Int.reduceEq,Int.reduceNe,Int.reduceSub,Int.reduceAdd,Int.reduceMul,Int.reduceBEq,Int.reduceBNe,Int.reduceGT,Int.reduceGE,Nat.reduceGT,Int.reduceToNat,Int.reduceNeg,Nat.reduceLeDiff,Nat.reduceBEq,Nat.reduceBneDiff]
  refine q3j (fun m t G => G = H ∧ t = tl [(0, .slice none 0 0), (1, .int .i64 0), (2, .int .i64 0), (3, .int .i64 0), (4, f), (10, .bool true), (11, .bool true)] ∧ m = 0) 0 ⟨rfl, rfl, rfl⟩ ?_
  rintro m t G ⟨rfl, rfl, rfl⟩
  have w0 : IntKind.i64.wrap 0 = 0 := by decide
  have w1 : (0 : Int) ≤ 12 := by decide
  simp -implicitDefEqProofs only [zA,reduceIte,reduceCtorEq,Nat.reduceEqDiff,Nat.reduceAdd,Nat.reduceMul,Nat.reduceLT,Nat.reduceSub,Int.reduceLT,Int.reduceLE,Int.reduceEq,Int.reduceNe,Int.reduceSub,Int.reduceAdd,Int.reduceMul,Int.reduceBEq,Int.reduceBNe,Int.reduceGT,Int.reduceGE,Nat.reduceGT,Int.reduceToNat,Int.reduceNeg,Nat.reduceLeDiff,Nat.reduceBEq,Nat.reduceBneDiff,w0,w1]
  refine (qle E G f).mono ?_
  rintro r H1 rfl
  simp -implicitDefEqProofs only [zA,reduceIte,reduceCtorEq,Nat.reduceEqDiff,Nat.reduceAdd,Nat.reduceMul,Nat.reduceLT,Nat.reduceSub,Int.reduceLT,Int.reduceLE,Int.reduceEq,Int.reduceNe,Int.reduceSub,Int.reduceAdd,Int.reduceMul,Int.reduceBEq,Int.reduceBNe,Int.reduceGT,Int.reduceGE,Nat.reduceGT,Int.reduceToNat,Int.reduceNeg,Nat.reduceLeDiff,Nat.reduceBEq,Nat.reduceBneDiff]
theorem qii (E : EnvT tab) (H : Heap) (f : Value) : ACallN E.toEnv q1b [.slice none 0 0, f] H fun r H' => H' = H := by
  refine q3s q1d q0n rfl rfl (q01 ?_)
  unfold q0n
  have w0 : IntKind.u64.wrap 0 = 0 := by decide
  simp -implicitDefEqProofs only [zA,reduceIte,reduceCtorEq,Nat.reduceEqDiff,Nat.reduceAdd,Nat.reduceMul,Nat.reduceLT,Nat.reduceSub,Int.reduceLT,Int.reduceLE,Int.reduceEq,Int.reduceNe,Int.reduceSub,Int.reduceAdd,Int.reduceMul,Int.reduceBEq,Int.reduceBNe,Int.reduceGT,Int.reduceGE,Nat.reduceGT,Int.reduceToNat,Int.reduceNeg,Nat.reduceLeDiff,Nat.reduceBEq,Nat.reduceBneDiff,w0]
  refine (qfq E H).mono ?_
  rintro r H1 ⟨rfl, rfl⟩
  simp -implicitDefEqProofs only [zA,reduceIte,reduceCtorEq,Nat.reduceEqDiff,Nat.reduceAdd,Nat.reduceMul,Nat.reduceLT,Nat.reduceSub,Int.reduceLT,Int.reduceLE,Int.reduceEq,Int.reduceNe,Int.reduceSub,Int.reduceAdd,Int.reduceMul,Int.reduceBEq,Int.reduceBNe,Int.reduceGT,Int.reduceGE,Nat.reduceGT,Int.reduceToNat,Int.reduceNeg,Nat.reduceLeDiff,Nat.reduceBEq,Nat.reduceBneDiff]
  refine (qkw E _ f).mono ?_
  rintro r H1 rfl
  simp -implicitDefEqProofs only [zA,reduceIte,reduceCtorEq,Nat.reduceEqDiff,Nat.reduceAdd,Nat.reduceMul,Nat.reduceLT,Nat.reduceSub,Int.reduceLT,Int.reduceLE,Int.reduceEq,Int.reduceNe,Int.reduceSub,Int.reduceAdd,Int.reduceMul,Int.reduceBEq,Int.reduceBNe,Int.reduceGT,Int.reduceGE,Nat.reduceGT,Int.reduceToNat,Int.reduceNeg,Nat.reduceLeDiff,Nat.reduceBEq,Nat.reduceBneDiff]
theorem qld (E : EnvT tab) (H : Heap) : ACallN E.toEnv q5y [.slice none 0 0, .int .i64 0, .int .i64 0] H fun r H' => H' = H := by
  refine q3s q12 q0i rfl rfl (q01 ?_)
  unfold q0i
  simp -implicitDefEqProofs only [zA,reduceIte,reduceCtorEq,Nat.reduceEqDiff,Nat.reduceAdd,Nat.reduceMul,Nat.reduceLT,Nat.reduceSub,Int.reduceLT,Int.reduceLE,Int.reduceEq,Int.reduceNe,Int.reduceSub,Int.reduceAdd,Int.reduceMul,Int.reduceBEq,Int.reduceBNe,Int.reduceGT,Int.reduceGE,Nat.reduceGT,Int.reduceToNat,Int.reduceNeg,Nat.reduceLeDiff,Nat.reduceBEq,Nat.reduceBneDiff]
  refine q3j (fun m t G => G = H ∧ t = tl [(0, .slice none 0 0), (1, .int .i64 0), (2, .int .i64 0), (6, .int .i64 1)] ∧ m = 0) 0 ⟨rfl, rfl, rfl⟩ ?_
  rintro m t G ⟨rfl, rfl, rfl⟩
  simp -implicitDefEqProofs only [zA,reduceIte,reduceCtorEq,Nat.reduceEqDiff,Nat.reduceAdd,Nat.reduceMul,Nat.reduceLT,Nat.reduceSub,Int.reduceLT,Int.reduceLE,Int.reduceEq,Int.reduceNe,Int.reduceSub,Int.reduceAdd,Int.reduceMul,Int.reduceBEq,Int.reduceBNe,Int.reduceGT,Int.reduceGE,Nat.reduceGT,Int.reduceToNat,Int.reduceNeg,Nat.reduceLeDiff,Nat.reduceBEq,Nat.reduceBneDiff]
theorem qkv (E : EnvT tab) (H : Heap) : ACallN E.toEnv q82 [.slice none 0 0, .int .i64 0, .int .i64 0, .int .i64 0] H fun r H' => H' = H := by
  refine q3s q1k q0w rfl rfl (q01 ?_)
  unfold q0w
  simp -implicitDefEqProofs only [zA,reduceIte,reduceCtorEq,Nat.reduceEqDiff,Nat.reduceAdd,Nat.reduceMul,Nat.reduceLT,Nat.reduceSub,Int.reduceLT,Int.reduceLE,Int.reduceEq,Int.reduceNe,Int.reduceSub,Int.reduceAdd,Int.reduceMul,Int.reduceBEq,Int.reduceBNe,Int.reduceGT,Int.reduceGE,Nat.reduceGT,Int.reduceToNat,Int.reduceNeg,Nat.reduceLeDiff,Nat.reduceBEq,Nat.reduceBneDiff]
  refine q3j (fun m t G => G = H ∧ t = tl [(0, .slice none 0 0), (1, .int .i64 0), (2, .int .i64 0), (3, .int .i64 0), (8, .bool true), (9, .bool true)] ∧ m = 0) 0 ⟨rfl, rfl, rfl⟩ ?_
  rintro m t G ⟨rfl, rfl, rfl⟩
  have w0 : IntKind.i64.wrap 0 = 0 := by decide
  have w1 : (0 : Int) ≤ 12 := by decide
  simp -implicitDefEqProofs only [zA,reduceIte,reduceCtorEq,Nat.reduceEqDiff,Nat.reduceAdd,Nat.reduceMul,Nat.reduceLT,Nat.reduceSub,Int.reduceLT,Int.reduceLE,Int.reduceEq,Int.reduceNe,Int.reduceSub,Int.reduceAdd,Int.reduceMul,Int.reduceBEq,Int.reduceBNe,Int.reduceGT,Int.reduceGE,Nat.reduceGT,Int.reduceToNat,Int.reduceNeg,Nat.reduceLeDiff,Nat.reduceBEq,Nat.reduceBneDiff,w0,w1]
  refine (qld E G).mono ?_
  rintro r H1 rfl
  simp -implicitDefEqProofs only [zA,reduceIte,reduceCtorEq,Nat.reduceEqDiff,Nat.reduceAdd,Nat.reduceMul,Nat.reduceLT,Nat.reduceSub,Int.reduceLT,Int.reduceLE,Int.reduceEq,Int.reduceNe,Int.reduceSub,Int.reduceAdd,Int.reduceMul,Int.reduceBEq,Int.reduceBNe,Int.reduceGT,Int.reduceGE,Nat.reduceGT,Int.reduceToNat,Int.reduceNeg,Nat.reduceLeDiff,Nat.reduceBEq,Nat.reduceBneDiff]
theorem qjo (E : EnvT tab) (H : Heap) : ACallN E.toEnv q25 [.slice none 0 0] H fun r H' => H' = H := by
  refine q3s q2c q17 rfl rfl (q01 ?_)
  unfold q17
  have w0 : IntKind.u64.wrap 0 = 0 := by decide
  simp -implicitDefEqProofs only [zA,reduceIte,reduceCtorEq,Nat.reduceEqDiff,Nat.reduceAdd,Nat.reduceMul,Nat.reduceLT,Nat.reduceSub,Int.reduceLT,Int.reduceLE,Int.reduceEq,Int.reduceNe,Int.reduceSub,Int.reduceAdd,Int.reduceMul,Int.reduceBEq,Int.reduceBNe,Int.reduceGT,Int.reduceGE,Nat.reduceGT,Int.reduceToNat,Int.reduceNeg,Nat.reduceLeDiff,Nat.reduceBEq,Nat.reduceBneDiff,w0]
  refine (qfq E H).mono ?_
  rintro r H1 ⟨rfl, rfl⟩
  simp -implicitDefEqProofs only [zA,reduceIte,reduceCtorEq,Nat.reduceEqDiff,Nat.reduceAdd,Nat.reduceMul,Nat.reduceLT,Nat.reduceSub,Int.reduceLT,Int.reduceLE,Int.reduceEq,Int.reduceNe,Int.reduceSub,Int.reduceAdd,Int.reduceMul,Int.reduceBEq,Int.reduceBNe,Int.reduceGT,Int.reduceGE,Nat.reduceGT,Int.reduceToNat,Int.reduceNeg,Nat.reduceLeDiff,Nat.reduceBEq,Nat.reduceBneDiff]
  refine (qkv E _).mono ?_
  rintro r H1 rfl
  simp -implicitDefEqProofs only [zA,reduceIte,reduceCtorEq,Nat.reduceEqDiff,Nat.reduceAdd,Nat.reduceMul,Nat.reduceLT,Nat.reduceSub,Int.reduceLT,Int.reduceLE,Int.reduceEq,Int.reduceNe,Int.reduceSub,Int.reduceAdd,Int.reduceMul,Int.reduceBEq,Int.reduceBNe,Int.reduceGT,Int.reduceGE,Nat.reduceGT,Int.reduceToNat,Int.reduceNeg,Nat.reduceLeDiff,Nat.reduceBEq,Nat.reduceBneDiff]
end Go.Bb
namespace Go.Bb
set_option linter.unusedSimpArgs false
set_option linter.unusedVariables false
theorem qh5 (x y : Int) : cmpZ x y < 0 ↔ x < y := by
  unfold cmpZ; split
  · simp [*]
  · split <;> simp [*]
theorem qap (x y : Int) : cmpZ x y = 0 ↔ x = y := by
  unfold cmpZ; split
  · simp; omega
  · split
    · simp; omega
    · simp; omega
theorem qgs (a : Int) (l : List Int) : orF (a :: l) = if a = 0 then orF l else a := by
  unfold orF
  rw [List.find?_cons]
  by_cases h : a = 0
  · simp [h]
  · simp [h]
theorem orF_nil : orF [] = 0 := rfl
def q4g (x y : Ed) : Prop := x.dev < y.dev ∨ (x.dev = y.dev ∧ x.n < y.n)
instance (x y : Ed) : Decidable (q4g x y) := by unfold q4g; infer_instance
theorem qcm (x y : Ed) : cmpD x y < 0 ↔ q4g x y := by
  unfold cmpD q4g
  rw [qgs]
  split
  · rename_i h
    rw [qap] at h
    rw [qgs]
    split
    · rename_i h2
      rw [qap] at h2
      rw [orF_nil]
      constructor
      · omega
      · omega
    · rw [qh5]; omega
  · rename_i h
    rw [qap] at h
    rw [qh5]; omega
def q9k (x y : Ed) : Prop := x.time < y.time ∨ (x.time = y.time ∧ q4g x y)
instance (x y : Ed) : Decidable (q9k x y) := by unfold q9k; infer_instance
theorem cmpL_neg (x y : Ed) : cmpL x y < 0 ↔ q9k x y := by
  unfold cmpL q9k
  rw [qgs]
  split
  · rename_i h
    rw [qap] at h
    have := qcm x y
    unfold cmpD at this
    rw [this]
    constructor
    · intro h2; exact .inr ⟨h, h2⟩
    · rintro (h2 | h2)
      · omega
      · exact h2.2
  · rename_i h
    rw [qap] at h
    rw [qh5]
    constructor
    · intro h2; exact .inl h2
    · rintro (h2 | h2)
      · exact h2
      · exact absurd h2.1 h
theorem qlc (x y : Ed) : qk0 x y = true ↔ q9k x y := by
  unfold qk0; rw [decide_eq_true_iff]; exact cmpL_neg x y
theorem qbx {x y z : Ed} (h : q4g x y) (k : q4g y z) : q4g x z := by unfold q4g at *; omega
theorem qe2 (x : Ed) : ¬ q4g x x := by unfold q4g; omega
theorem q9x {x y z : Ed} (h : q9k x y) (k : q9k y z) : q9k x z := by unfold q9k q4g at *; omega
theorem q95 (x : Ed) : ¬ q9k x x := by unfold q9k q4g; omega
theorem q8d {α : Type} {R : α → α → Prop} (irr : ∀ x, ¬ R x x) (tr : ∀ x y z, R x y → R y z → R x z) : ∀ {l m : List α}, l.Perm m → l.Pairwise R → m.Pairwise R → l = m
  | [], m, p, _, _ => (List.nil_perm.1 p).symm
  | x :: l, [], p, _, _ => absurd p.length_eq (by simp)
  | x :: l, y :: m, p, hl, hm => by
    rw [List.pairwise_cons] at hl hm
    have hxy : x = y := by
      rcases List.mem_cons.1 (p.mem_iff.1 (List.mem_cons_self ..)) with h | h
      · exact h
      · rcases List.mem_cons.1 (p.mem_iff.2 (List.mem_cons_self ..)) with k | k
        · exact k.symm
        · exact absurd (tr _ _ _ (hl.1 y k) (hm.1 x h)) (irr _)
    subst hxy
    rw [q8d irr tr (List.Perm.cons_inv p) hl.2 hm.2]
def insR {α : Type} (R : α → α → Prop) [DecidableRel R] (e : α) : List α → List α
  | [] => [e]
  | x :: l => if R x e then x :: insR R e l else e :: x :: l
theorem q8v {α : Type} (R : α → α → Prop) [DecidableRel R] (e : α) : ∀ l : List α, (insR R e l).Perm (e :: l)
  | [] => List.Perm.refl _
  | x :: l => by
    unfold insR
    split
    · exact ((q8v R e l).cons x).trans (List.Perm.swap _ _ _)
    · exact List.Perm.refl _
theorem qbv {α : Type} {R : α → α → Prop} [DecidableRel R] (tr : ∀ x y z, R x y → R y z → R x z) {e : α} : ∀ {l : List α}, l.Pairwise R → (∀ x ∈ l, R x e ∨ R e x) → (insR R e l).Pairwise R
  | [], _, _ => by simp [insR]
  | x :: l, h, t => by
    rw [List.pairwise_cons] at h
    unfold insR
    split
    · rename_i hr
      rw [List.pairwise_cons]
      refine ⟨fun y hy => ?_, qbv tr h.2 (fun y hy => t y (List.mem_cons_of_mem _ hy))⟩
      rcases List.mem_cons.1 ((q8v R e l).mem_iff.1 hy) with k | k
      · rw [k]; exact hr
      · exact h.1 y k
    · rename_i hr
      have he : R e x := (t x (List.mem_cons_self ..)).resolve_left hr
      rw [List.pairwise_cons]
      refine ⟨fun y hy => ?_, List.pairwise_cons.2 h⟩
      rcases List.mem_cons.1 hy with k | k
      · rw [k]; exact he
      · exact tr _ _ _ he (h.1 y k)
def qkm {α : Type} (R : α → α → Prop) [DecidableRel R] : List α → List α
  | [] => []
  | x :: l => insR R x (qkm R l)
theorem q9h {α : Type} (R : α → α → Prop) [DecidableRel R] : ∀ l : List α, (qkm R l).Perm l
  | [] => List.Perm.refl _
  | x :: l => (q8v R x _).trans ((q9h R l).cons x)
theorem qdr {α : Type} {R : α → α → Prop} [DecidableRel R] (tr : ∀ x y z, R x y → R y z → R x z) : ∀ {l : List α}, l.Pairwise (fun x y => R x y ∨ R y x) → (qkm R l).Pairwise R
  | [], _ => by simp [qkm]
  | x :: l, h => by
    rw [List.pairwise_cons] at h
    refine qbv tr (qdr tr h.2) fun y hy => ?_
    exact (h.1 y ((q9h R l).mem_iff.1 hy)).symm
structure BkS (S : List Ed) : Prop where
  rise : S.Pairwise q4g
  good : ∀ e ∈ S, q8g e = true
  h8 : ∀ e ∈ S, e.seen.length = 8
  len : S.length ≤ 500
theorem BkS.nil : BkS [] := ⟨List.Pairwise.nil, by simp, by simp, by simp⟩
theorem BkS.tot {S : List Ed} (h : BkS S) {x y : Ed} (hx : x ∈ S) (hy : y ∈ S) (hd : x.dev = y.dev) (hn : x.n = y.n) : x = y := by
  have h2 : S.Pairwise fun a b => ¬ (a.dev = b.dev ∧ a.n = b.n) := h.rise.imp fun {a b} k => by unfold q4g at k; omega
  by_cases e : x = y
  · exact e
  · exfalso
    obtain ⟨i, hi, rfl⟩ := List.getElem_of_mem hx
    obtain ⟨j, hj, rfl⟩ := List.getElem_of_mem hy
    rw [List.pairwise_iff_getElem] at h2
    rcases Nat.lt_trichotomy i j with k | k | k
    · exact h2 i j hi hj k ⟨hd, hn⟩
    · subst k; exact e rfl
    · exact h2 j i hj hi k ⟨hd.symm, hn.symm⟩
def qab (S : List Ed) : List Ed := qkm q9k (S.filter fun e => decide (e.kind = 1) && !S.any fun a => q85 a e)
theorem BkS.apart {S : List Ed} (h : BkS S) : S.Pairwise fun x y => q9k x y ∨ q9k y x :=
  h.rise.imp fun {a b} k => by unfold q9k; unfold q4g at *; omega
theorem qah {S : List Ed} (h : BkS S) : (qab S).Pairwise q9k :=
  qdr (fun x y z => @q9x x y z) (h.apart.sublist List.filter_sublist)
theorem qf6 {S : List Ed} {e : Ed} : e ∈ qab S ↔ e ∈ S ∧ e.kind = 1 ∧ ∀ a ∈ S, q85 a e = false := by
  unfold qab
  rw [(q9h _ _).mem_iff, List.mem_filter]
  simp
end Go.Bb
namespace Go.Bb
set_option linter.unusedSimpArgs false
set_option linter.unusedVariables false
open Go.Maps Go.MapKept Go.RowKit Go.ChangeMaps
section
variable {F : Fence} {n : Nat} {P : Program} (w : World) {ops : Array Oper} {rest : List Oper} {o : Oper} {a : Act} {Q : Exit → Act → World → Prop}
theorem range_at (hg : o.guard = none) (m : Operand) (t : TypeId) (hop : o.op = Op.range t m) (k e : TypeId) (ht : P.underlying t = some (.map k e)) (b : Nat) (es : Array MapEntry) (clk : Nat)
    (hm : a.eval m = .map (some b)) (hb : w.heap[b]? = some (.map es clk))
    (hK : wpListIn F n P ops Q rest (a.put o.dst (.pointer (some ⟨w.heap.size, 0, none⟩))) (w.alloc (.mapIter (some b) clk #[] clk))) :
    wpListIn F n P ops Q (o :: rest) a w := by
  refine wpListIn_plain hg fun K' hK' => ?_
  have hrun := run_range_map (P := P) w t k e b es clk ht hb
  unfold Oper.wpIn
  refine ⟨?_, ?_⟩
  · simp [Oper.about, hop]
  · rw [Oper.semAt_plain F _ _ (by rw [hop]; intro c hc'; cases hc')]
    simp [execOp, hop, hm, hrun, Result.andThen]
    exact hK' _ _ hK
structure RgAt (b r : Nat) (es : Array MapEntry) (clk : Nat) (seen : Array Nat) (w : World) : Prop where
  hb : w.heap[b]? = some (.map es clk)
  hr : w.heap[r]? = some (.mapIter (some b) clk seen clk)
theorem RgAt.of_walks {b r : Nat} {es : Array MapEntry} {clk : Nat} {seen : Array Nat} {w w' : World} (h : RgAt b r es clk seen w) (k : KeepsWalks w w') : RgAt b r es clk seen w' :=
  ⟨k.same b _ h.hb rfl, k.same r _ h.hr rfl⟩
theorem next_at (hg : o.guard = none) (it : Operand) (hop : o.op = Op.next it false) (b r : Nat) (es : Array MapEntry) (clk : Nat) (seen : Array Nat) (hit : a.eval it = .pointer (some ⟨r, 0, none⟩)) (h : RgAt b r es clk seen w) (st : Stamped es clk)
    (hDone : (leftOf es seen).size = 0 → wpListIn F n P ops Q rest (a.put o.dst (.tuple #[.bool false])) w)
    (hMore : ∀ (en : MapEntry) (w' : World), en ∈ (leftOf es seen).toList → RgAt b r es clk (seen.push en.born) w' → w.grownBy w' (some r) → w.drawn ≤ w'.drawn → w'.heap.size = w.heap.size →
      (Instr.entry (.pointer (some ⟨r, 0, none⟩))).run P w' = .ok (.tuple #[en.key, en.val]) w' → wpListIn F n P ops Q rest (a.put o.dst (.tuple #[.bool true, en.key, en.val])) w') :
    wpListIn F n P ops Q (o :: rest) a w := by
  refine wpListIn_plain hg fun K' hK' => ?_
  unfold Oper.wpIn
  refine ⟨by simp [Oper.about, hop], ?_⟩
  rw [Oper.semAt_plain F _ _ (by rw [hop]; intro c hc'; cases hc')]
  rcases run_next_at (P := P) w o.type r b clk clk seen es clk h.hr h.hb st.1 (Nat.le_refl _) with ⟨h0, hrun⟩ | ⟨en, he, w1, hal, hrun⟩
  · simp [execOp, hop, hit, hrun, Result.andThen]
    exact hK' _ _ (hDone h0)
  · have hr1 : w1.heap[r]? = some (.mapIter (some b) clk seen clk) := by rcases hal with rfl | rfl <;> exact h.hr
    have hb1 : w1.heap[b]? = some (.map es clk) := by rcases hal with rfl | rfl <;> exact h.hb
    have hne : b ≠ r := fun e => by subst e; have := h.hr; rw [h.hb] at this; cases this
    have hset := heap_set (o' := .mapIter (some b) clk (seen.push en.born) clk) hr1
    have hb' : (setBlock w1 r (.mapIter (some b) clk (seen.push en.born) clk)).heap[b]? = some (.map es clk) := (hset.2 b hne).trans hb1
    have hrg : RgAt b r es clk (seen.push en.born) (setBlock w1 r (.mapIter (some b) clk (seen.push en.born) clk)) := ⟨hb', hset.1⟩
    have hg1 : w.grownBy (setBlock w1 r (.mapIter (some b) clk (seen.push en.born) clk)) (some r) := by
      refine ⟨?_, ?_, ?_, ?_, fun k hk hkr => ?_⟩
      · rcases hal with rfl | rfl <;> rfl
      · rcases hal with rfl | rfl <;> rfl
      · rcases hal with rfl | rfl <;> rfl
      · rcases hal with rfl | rfl <;> simp [setBlock]
      · refine (hset.2 k (fun e => hkr (by rw [e]))).trans ?_
        rcases hal with rfl | rfl <;> rfl
    have hd1 : w.drawn ≤ (setBlock w1 r (.mapIter (some b) clk (seen.push en.born) clk)).drawn := by
      rcases hal with rfl | rfl
      · exact Nat.le_refl _
      · exact Nat.le_succ _
    have hs1 : (setBlock w1 r (.mapIter (some b) clk (seen.push en.born) clk)).heap.size = w.heap.size := by
      rcases hal with rfl | rfl <;> simp [setBlock]
    have hen := run_entry_at (P := P) _ r b clk seen es clk en hset.1 hb' (mem_left he).1 ((stamped_iff es clk).1 ⟨st.1, st.2.1, st.2.2⟩).2.1
    simp [execOp, hop, hit, hrun, Result.andThen]
    exact hK' _ _ (hMore en _ he hrg hg1 hd1 hs1 hen)
end
theorem qfl {P : Program} {w : World} {a0 a : Addr} {u : TypeId} {v : Value} {b : Bool} {r} (h : w.viewStore P a0 u a v b = .ok r) : r.1.drawn = w.drawn := by
  unfold World.viewStore at h
  simp only at h
  repeat' split at h
  all_goals first
    | (cases h; done)
    | skip
  all_goals
    simp only [throw, throwThe, MonadExceptOf.throw, bind, Except.bind, pure, Except.pure] at h
  all_goals
    repeat' split at h
  all_goals first
    | (cases h; done)
    | (cases h; rfl)
theorem qg1 {P : Program} {w w' : World} {a : Addr} {v : Value} {b : Bool} {x} (h : w.farStore P a v b = .ok (w', x)) : w'.drawn = w.drawn := by
  unfold World.farStore at h
  split at h
  · split at h
    · rename_i r hr
      cases h
      exact qfl hr
    · cases h
  · cases h
theorem qlr {α : Type} : ∀ (q : Ask α) (w : World), w.drawn ≤ (w.ask q).2.drawn := by
  intro q
  induction q with
  | done a => intro w; simp only [World.ask]; exact Nat.le_refl _
  | ask what range k ih =>
    intro w
    simp only [World.ask]
    split
    · exact ih _ _
    · exact Nat.le_trans (Nat.le_succ _) (ih _ { w with drawn := w.drawn + 1 })
theorem qlp (w : World) (c : Sys) : w.drawn ≤ (w.sys c).2.drawn := by
  have h := qlr (Kernel.perform c w.os) w
  unfold World.sys
  split
  · exact Nat.le_refl _
  · rename_i heq
    rw [heq] at h
    exact h
theorem qlq {P : Program} {α : Type} : ∀ (s : Sem α) (w : World) (v : α) (w' : World), s.run P w = .ok v w' → w.drawn ≤ w'.drawn := by
  intro s
  induction s with
  | pure a => intro w v w' h; simp only [Sem.run] at h; cases h; exact Nat.le_refl _
  | load m a k ih =>
    intro w v w' h; simp only [Sem.run] at h
    split at h
    · exact ih _ _ _ _ h
    · split at h
      · exact ih _ _ _ _ h
      · cases h
  | store m a x k ih =>
    intro w v w' h
    have key : (∀ y, x ≠ .agg y) → (∀ y, x ≠ .tuple y) → w.drawn ≤ w'.drawn := by
      intro h1 h2
      rw [Sem.run] at h
      · split at h
        · split at h
          · cases h
          · exact ih (w.setCell a x) _ _ h
        · split at h
          · rename_i heq
            have := ih _ _ _ h
            rwa [qg1 heq] at this
          · cases h
      · exact h1
      · exact h2
    cases x with
    | agg y => simp only [Sem.run] at h; cases h
    | tuple y => simp only [Sem.run] at h; cases h
    | _ => exact key (fun y e => by cases e) (fun y e => by cases e)
  | new o k ih => intro w v w' h; simp only [Sem.run] at h; exact ih _ { w with heap := w.heap.push o } _ _ h
  | shape r k ih => intro w v w' h; simp only [Sem.run] at h; exact ih _ _ _ _ h
  | freeze a n k ih => intro w v w' h; simp only [Sem.run] at h; have := ih (w.freeze a n) _ _ h; unfold World.freeze at this; split at this <;> exact this
  | frozen a k ih => intro w v w' h; simp only [Sem.run] at h; exact ih _ _ _ _ h
  | getObj r k ih =>
    intro w v w' h; simp only [Sem.run] at h
    split at h
    · cases h
    · exact ih _ _ _ _ h
    · cases h
  | setObj r o k ih =>
    intro w v w' h; simp only [Sem.run] at h
    split at h
    · cases h
    · exact ih { w with heap := w.heap.setIfInBounds r o } _ _ h
    · cases h
  | choose q k ih =>
    intro w v w' h; simp only [Sem.run] at h
    split at h
    · exact ih _ _ _ _ h
    · exact Nat.le_trans (Nat.le_succ _) (ih _ { w with drawn := w.drawn + 1 } _ _ h)
  | sys c k ih => intro w v w' h; simp only [Sem.run] at h; exact Nat.le_trans (qlp w c) (ih _ _ _ _ h)
  | program k ih => intro w v w' h; simp only [Sem.run] at h; exact ih _ _ _ _ h
  | mark x k ih => intro w v w' h; simp only [Sem.run] at h; exact ih _ _ _ h
  | halt x => intro w v w' h; simp only [Sem.run] at h; cases h
theorem qku {l : List MapEntry} (hn : (l.map (·.born)).Nodup) {en : MapEntry} (he : en ∈ l) : l.Perm (en :: l.filter (fun x => !(x.born == en.born))) := by
  induction l with
  | nil => cases he
  | cons x l ih =>
    simp only [List.map_cons, List.nodup_cons] at hn
    rcases List.mem_cons.1 he with rfl | he
    · have : l.filter (fun x => !(x.born == en.born)) = l := List.filter_eq_self.2 fun y hy => by
        have : y.born ≠ en.born := fun e => hn.1 (e ▸ List.mem_map.2 ⟨y, hy, rfl⟩)
        simp [this]
      simp [this]
    · have hx : x.born ≠ en.born := fun e => hn.1 (e ▸ List.mem_map.2 ⟨en, he, rfl⟩)
      simp only [List.filter_cons, beq_eq_false_iff_ne.2 hx, Bool.not_false, if_true]
      exact ((ih hn.2 he).cons x).trans (List.Perm.swap _ _ _)
theorem q9y (es : Array MapEntry) (seen : Array Nat) : (leftOf es seen).toList = es.toList.filter (fun e => !seen.contains e.born) := by
  simp [leftOf]
theorem qhv (es : Array MapEntry) (seen : Array Nat) (s : Nat) : (leftOf es (seen.push s)).toList = (leftOf es seen).toList.filter (fun e => !(e.born == s)) := by
  rw [q9y, q9y, List.filter_filter]
  congr 1
  funext e
  simp only [Array.contains_push, Bool.not_or, Bool.and_comm]
def Came (es : Array MapEntry) (seen : Array Nat) (ents : List MapEntry) : Prop := (ents ++ (leftOf es seen).toList).Perm es.toList
theorem Came.start (es : Array MapEntry) : Came es #[] [] := by
  unfold Came
  rw [q9y, List.filter_eq_self.2 (by simp)]
  simp
theorem Came.step {es : Array MapEntry} {clk : Nat} (st : Stamped es clk) {seen : Array Nat} {ents : List MapEntry} (h : Came es seen ents) {en : MapEntry} (he : en ∈ (leftOf es seen).toList) : Came es (seen.push en.born) (ents ++ [en]) := by
  unfold Came at *
  refine List.Perm.trans ?_ h
  rw [qhv, List.append_assoc]
  refine List.Perm.append_left _ ?_
  have hn : ((leftOf es seen).toList.map (·.born)).Nodup := by
    rw [q9y]
    exact st.2.1.sublist (List.filter_sublist.map _)
  exact (qku hn he).symm
theorem Came.lt {es : Array MapEntry} {seen : Array Nat} {ents : List MapEntry} (h : Came es seen ents) {en : MapEntry} (he : en ∈ (leftOf es seen).toList) : ents.length < es.size := by
  have := h.length_eq
  simp only [List.length_append, Array.length_toList] at this
  have := List.length_pos_of_mem he
  simp only [Array.length_toList] at this
  omega
theorem Came.done {es : Array MapEntry} {seen : Array Nat} {ents : List MapEntry} (h : Came es seen ents) (h0 : (leftOf es seen).size = 0) : ents.Perm es.toList := by
  unfold Came at h
  have : (leftOf es seen).toList = [] := List.eq_nil_of_length_eq_zero (by simpa using h0)
  rwa [this, List.append_nil] at h
theorem qg0 {es : Array MapEntry} {seen : Array Nat} {en : MapEntry} (he : en ∈ (leftOf es seen).toList) : (leftOf es (seen.push en.born)).size < (leftOf es seen).size := by
  rw [← Array.length_toList, ← Array.length_toList, qhv]
  exact List.length_filter_lt_length_iff_exists.2 ⟨en, he, by simp⟩
end Go.Bb
namespace Go.Bb
set_option linter.unusedSimpArgs false
set_option linter.unusedVariables false
open Go.Proofs Go.RowKit Go.Maps Go.MapKept Go.Sort Go.Shelf
abbrev V15 := {l : List Value // l.length = 15 ∧ ∀ v ∈ l, v.oneCell' = true}
def qbe (x : V15) : Value := .agg x.1.toArray
theorem lst15 {l : List Value} (h : l.length = 15) : ∃ v0 v1 v2 v3 v4 v5 v6 v7 v8 v9 v10 v11 v12 v13 v14, l = [v0, v1, v2, v3, v4, v5, v6, v7, v8, v9, v10, v11, v12, v13, v14] := by
  iterate 15 (rcases l with _ | ⟨_, l⟩; · simp at h; done)
  rcases l with _ | ⟨_, l⟩
  · exact ⟨_, _, _, _, _, _, _, _, _, _, _, _, _, _, _, rfl⟩
  · simp at h
def qj7 (B : Nat) (J : List V15 → World → Prop) : Prop :=
  ∀ s W W' row, J s W → W.grownBy W' row → W.drawn ≤ W'.drawn → (∀ r, row = some r → B ≤ r ∧ ∃ o : Obj, W.heap[r]? = some o ∧ o.isWalk = true) → J s W'
def SeqD (F : Fence) (n : Nat) (P : Program) (g : Nat) (lb : Array Value) (S : List V15 → Prop) (N : Nat) (w : World) : Prop :=
  ∀ (l : Nat) (J : List V15 → World → Prop) (W : World), Below w.heap.size w W → qj7 W.heap.size J →
    (∀ pre x W1, J pre W1 → pre.length < N → YieldAt F (n - 1) P l #[qbe x] W1 fun e W' => e = .returned (.bool true) ∧ J (pre ++ [x]) W' ∧ KeepsWalks W1 W') →
    J [] W →
    CallsIn F n P g (#[.func (.yield l) #[] #[]] ++ lb) W fun e W' => (∃ v, e = .returned v) ∧ ∃ xs, S xs ∧ J xs W'
theorem RgAt.left {b r : Nat} {es : Array MapEntry} {clk : Nat} {seen : Array Nat} {w : World} (h : RgAt b r es clk seen w) : w.rangeLeft b r = (leftOf es seen).size := by
  simp only [World.rangeLeft, h.hb, h.hr]
theorem qhi {P : Program} (W : World) (z vs : List Value) (e : TypeId) (hl : vs.length = z.length) (h1 : ∀ v ∈ vs, v.oneCell' = true) :
    (storeCells ⟨W.heap.size, 0, none⟩ vs).run P (W.alloc (.cells z.toArray e)) = .ok () (W.alloc (.cells vs.toArray e)) := by
  obtain ⟨carr', hr, hsz, hc⟩ := q9f (P := P) ⟨W.heap.size, 0, none⟩ rfl vs 0 (W.alloc (.cells z.toArray e)) z.toArray e (0, 0) (World.alloc_heap_new W _) (by simp; omega) h1 (fun j _ _ _ => by omega)
  rw [hr]
  have hc2 : carr' = vs.toArray := by
    apply Array.ext_getElem?
    intro i
    rw [hc i]
    by_cases h : i < vs.length
    · rw [if_pos ⟨by simp, by simp; exact h⟩]; simp
    · rw [if_neg (by simp; omega)]
      rw [Array.getElem?_eq_none (by simp; omega), Array.getElem?_eq_none (by simp; omega)]
  subst hc2
  have e1 : (W.heap.push (Obj.cells z.toArray e)).setIfInBounds W.heap.size (.cells vs.toArray e) = W.heap.push (.cells vs.toArray e) := by
    apply Array.ext_getElem?
    intro k
    rw [Array.getElem?_setIfInBounds]
    by_cases h : W.heap.size = k
    · subst h; simp
    · rw [if_neg h, Array.getElem?_push, Array.getElem?_push, if_neg (Ne.symm h), if_neg (Ne.symm h)]
  exact congrArg (fun h => Result.ok () { W with heap := h }) e1
theorem load_new {P : Program} (W : World) (vs : List Value) (e : TypeId) : (loadCellsFrom ⟨W.heap.size, 0, none⟩ 0 vs.length #[]).run P (W.alloc (.cells vs.toArray e)) = .ok vs.toArray (W.alloc (.cells vs.toArray e)) := by
  have := q7r (P := P) (w := W.alloc (.cells vs.toArray e)) ⟨W.heap.size, 0, none⟩ vs 0 #[] (fun j v hv => by
    have hb := World.alloc_heap_new W (.cells vs.toArray e)
    have key : ∀ a : Addr, a.block = W.heap.size → a.spot = none → (W.alloc (.cells vs.toArray e)).cell? a = vs[a.off]? := by
      intro a h1 h2
      unfold World.cell?
      rw [h1, hb]
      simp [h2]
    rw [key _ (by simp [Addr.add]; split <;> rfl) (by simp [Addr.add]; split <;> rfl), ← hv]
    congr 1
    simp [Addr.add]
    split <;> simp_all)
  simpa using this
set_option maxRecDepth 100000 in
set_option maxHeartbeats 1000000 in
theorem qka (F : Fence) (n : Nat) (h57 : F.fn 57) (hro : F.round = none) (hn : 1 ≤ n) (l Bm b : Nat) (es : Array MapEntry) (clk : Nat) (st : Stamped es clk) (hes : ∀ x ∈ es.toList, ∃ c : V15, x.val = qbe c)
    (J : List V15 → World → Prop)
    (hY : ∀ pre x W, J pre W → pre.length < es.size → YieldAt F (n - 1) Try.prog l #[qbe x] W fun e W' => e = .returned (.bool true) ∧ J (pre ++ [x]) W' ∧ KeepsWalks W W')
    (W : World) (hJ : qj7 W.heap.size J) (hm : W.cell? ⟨Bm, 0, none⟩ = some (.map (some b))) (hb : W.heap[b]? = some (.map es clk)) (h0 : J [] W) :
    CallsIn F n Try.prog 57 #[.func (.yield l) #[] #[], .pointer (some ⟨Bm, 0, none⟩)] W fun e W' => (∃ v, e = .returned v) ∧ ∃ xs : List V15, (xs.map qbe).Perm (es.toList.map (·.val)) ∧ J xs W' := by
  have hlt : b < W.heap.size := (Array.getElem?_eq_some_iff.1 hb).1
  refine callsIn_of_wp Try.func57 rfl h57 ?_ hro
  simp only [Try.ntmps57, List.size_toArray, List.length_cons, List.length_nil, Nat.reduceAdd, Nat.reduceSub, Array.replicate_succ, Array.replicate_zero, List.push_toArray, List.append_toArray, List.nil_append, List.cons_append]
  gi_wp2_with (first
    | (gi_at_range; refine range_at _ rfl _ 73 rfl _ _ Try.underlying73 b es clk rfl hb ?_)
    | gi_in)
  go_frame
  gi_loopw [4] (fun _ wr => ∃ (seen : Array Nat) (ents : List MapEntry) (xs : List V15), RgAt b W.heap.size es clk seen wr ∧ Came es seen ents ∧ xs.map qbe = ents.map (·.val) ∧ J xs wr)
    (fun _ wr => wr.rangeLeft b W.heap.size)
  case atStart =>
    refine ⟨#[], [], [], ⟨(heap_alloc W _).2 b hlt ▸ hb, (heap_alloc W _).1⟩, Came.start es, rfl, hJ [] W _ none h0 (World.grownBy_alloc W _ none) (Nat.le_refl _) (fun r e => by cases e)⟩
  case round =>
    obtain ⟨seen, ents, xs, hrg, hC, hx, hJs⟩ := hrel
    gi_wp2_with (first
      | (gi_at_next; refine next_at _ rfl _ rfl b W.heap.size es clk seen rfl hrg st ?_ ?_)
      | gi_in)
    · intro hl0
      gi_wp2
      go_end0
      exact ⟨⟨_, rfl⟩, xs, by rw [hx]; exact (hC.done (by rw [hl0]; rfl)).map _, hJs⟩
    · intro en w2 hen hrg2 hg2 hd2 hs2 hent
      replace hen : en ∈ (leftOf es seen).toList := by simpa using hen
      obtain ⟨c, hc⟩ := hes en (mem_left hen).1
      rw [hc] at hent
      rw [hc]
      have hsz : c.1.toArray.size = 15 := by rw [List.size_toArray]; exact c.2.1
      unfold qbe at hent ⊢
      have hJ2 : J xs w2 := hJ xs wr w2 (some W.heap.size) hJs hg2 hd2 (fun r e => by cases e; exact ⟨Nat.le_refl _, _, hrg.hr, rfl⟩)
      have hst := qhi (P := Try.prog) w2 [.int .i64 0, .int .i64 0, .int .i64 0, .int .i64 0, .int .i64 0, .int .i64 0, .int .i64 0, .int .i64 0, .int .i64 0, .int .i64 0, .int .i64 0, .string { data := #[] }, .string { data := #[] }, .string { data := #[] }, .int .i64 0] c.1 32 c.2.1 c.2.2
      have hld := load_new (P := Try.prog) w2 c.1 32
      rw [c.2.1] at hld
      have hw3 : w2.grownBy (w2.alloc (.cells c.1.toArray 32)) none := World.grownBy_alloc w2 _ none
      have hJ3 : J xs (w2.alloc (.cells c.1.toArray 32)) := hJ xs w2 _ none hJ2 hw3 (Nat.le_refl _) (fun r e => by cases e)
      have hrg3 := hrg2.of_walks (KeepsWalks.alloc w2 (.cells c.1.toArray 32))
      obtain ⟨fn, tmps, assign, body, hy, hR⟩ := hY xs c _ hJ3 (by have := congrArg List.length hx; simp at this; rw [this]; exact hC.lt hen)
      unfold qbe at hy
      clear hs2
      have e15 : ∀ {h0 h1 h2 h3 h4 h5 h6 h7 h8 h9 h10 h11 h12 h13 h14}, (#[c.1[0]'h0, c.1[1]'h1, c.1[2]'h2, c.1[3]'h3, c.1[4]'h4, c.1[5]'h5, c.1[6]'h6, c.1[7]'h7, c.1[8]'h8, c.1[9]'h9, c.1[10]'h10, c.1[11]'h11, c.1[12]'h12, c.1[13]'h13, c.1[14]'h14] : Array Value) = c.1.toArray := by
        intros
        obtain ⟨v0, v1, v2, v3, v4, v5, v6, v7, v8, v9, v10, v11, v12, v13, v14, hvl⟩ := lst15 c.2.1
        apply Array.ext'
        simp only [hvl]
        rfl
      gi_wp2
      refine hR.mono ?_
      rintro e W3 ⟨rfl, hJ4, hk3⟩
      gi_wp2
      have hrg4 := hrg3.of_walks hk3
      go_roundw
      case rel => exact ⟨_, ents ++ [en], xs ++ [c], hrg4, hC.step st hen, by simp [hx, hc], hJ4⟩
      case measure => rw [hrg4.left, hrg.left]; exact qg0 hen
end Go.Bb
namespace Go.Bb
set_option linter.unusedSimpArgs false
set_option linter.unusedVariables false
open Go.Proofs Go.RowKit Go.Maps Go.MapKept Go.Sort Go.Shelf
theorem qhe (F : Fence) (n : Nat) (h57 : F.fn 57) (hro : F.round = none) (hn : 1 ≤ n) (Bm b : Nat) (es : Array MapEntry) (clk : Nat) (st : Stamped es clk) (hes : ∀ x ∈ es.toList, ∃ c : V15, x.val = qbe c) (w : World) (hBm : Bm < w.heap.size)
    (hm : w.cell? ⟨Bm, 0, none⟩ = some (.map (some b))) (hb : w.heap[b]? = some (.map es clk)) :
    SeqD F n Try.prog 57 #[.pointer (some ⟨Bm, 0, none⟩)] (fun xs => (xs.map qbe).Perm (es.toList.map (·.val))) es.size w := fun l J W hW hJ hY h0 =>
  qka F n h57 hro hn l Bm b es clk st hes J hY W hJ ((hW.cell (p := ⟨Bm, 0, none⟩) hBm).trans hm) ((hW.block b (Array.getElem?_eq_some_iff.1 hb).1).trans hb) h0
theorem info32 : ∃ i z, Try.prog.info? 32 = some i ∧ i.zero = some z ∧ i.size = 15 ∧ i.bytes = 144 ∧ z.cells.size = 15 := by
  have h : (Try.prog.info? 32).map (fun i => (i.zero.map (fun z => z.cells.size), i.size, i.bytes)) = some (some 15, 15, 144) := by kernel_rfl
  obtain ⟨i, hi, hz⟩ := Option.map_eq_some_iff.1 h
  simp only [Prod.mk.injEq] at hz
  obtain ⟨h1, h2, h3⟩ := hz
  obtain ⟨z, hz, h4⟩ := Option.map_eq_some_iff.1 h1
  exact ⟨i, z, hi, hz, h2, h3, h4⟩
noncomputable def qbz : Code × Code :=
  match Try.f72.body with
  | some (.seq _ (.seq (.seq _ (.block _ (.rangeFunc _ _ a b))) _)) => (a, b)
  | _ => (.skip, .skip)
noncomputable def qfs (fn : FuncId) (sv : Value) (Bs D : Nat) (st : LoopState) (pend : Option Code) : Loop :=
  { state := st, pending := pend, fn, tmps := #[.slice none 0 0, sv, .pointer (some ⟨Bs, 0, none⟩), undef, .slice none 0 0, undef, sv, undef, undef, undef, undef, undef, undef], params := #[7], assign := qbz.1, body := qbz.2, defers := D }
def q9a (ss : List V15) : List Value := (ss.map (·.1)).flatten
theorem qh0 (ss : List V15) (x : V15) : q9a (ss ++ [x]) = q9a ss ++ x.1 := by simp [q9a]
theorem qcf : ∀ ss : List V15, (q9a ss).length = ss.length * 15
  | [] => rfl
  | x :: ss => by
    have := qcf ss
    simp only [q9a, List.map_cons, List.flatten_cons, List.length_append, List.length_cons] at *
    rw [this, x.2.1]; omega
structure ApAt (w0 : World) (fn : FuncId) (sv : Value) (Bs l D : Nat) (ss : List V15) (W : World) : Prop where
  box : ∃ v, W.heap[Bs]? = some (.cells #[v] 22 (0, 0)) ∧ W.ownsRow w0.heap.size 32 15 v ss.length (q9a ss) ∧ (v = .slice none 0 0 ↔ ss = [])
  L : W.heap[l]? = some (.loop (qfs fn sv Bs D .ready none))
  K : W.heap[D]? = some (.deferred (some []))
  below : Below w0.heap.size w0 W
  dr : w0.drawn ≤ W.drawn
theorem qm1 (w0 : World) (fn : FuncId) (sv : Value) (Bs l D B : Nat) (hB : w0.heap.size ≤ B) : qj7 B (ApAt w0 fn sv Bs l D) := fun s W W' row h hg hd hrow => by
  have hrow' : ∀ r, row = some r → ∃ o : Obj, W.heap[r]? = some o ∧ o.isWalk = true := fun r e => (hrow r e).2
  obtain ⟨v, hv, hr, hn⟩ := h.box
  exact ⟨⟨v, (grownBy_keeps hg hrow' hv rfl).trans hv, ownsRow_abides_a hr hg hrow', hn⟩, (grownBy_keeps hg hrow' h.L rfl).trans h.L, (grownBy_keeps hg hrow' h.K rfl).trans h.K,
    h.below.grown hg h.below.size (fun k e => Nat.le_trans hB (hrow k e).1), Nat.le_trans h.dr hd⟩
theorem qlw (w : World) (xs : List Value) (t : TypeId) : ∀ j u, xs[j]? = some u → (w.alloc (.cells xs.toArray t)).cell? ((⟨w.heap.size, 0, none⟩ : Addr).add j) = some u := by
  intro j u hj
  have hb := World.alloc_heap_new w (.cells xs.toArray t)
  have key : ∀ a : Addr, a.block = w.heap.size → a.spot = none → (w.alloc (.cells xs.toArray t)).cell? a = xs[a.off]? := by
    intro a h1 h2
    unfold World.cell?
    rw [h1, hb]
    simp [h2]
  rw [key _ (by simp [Addr.add]; split <;> rfl) (by simp [Addr.add]; split <;> rfl), ← hj]
  congr 1
  simp [Addr.add]
  split <;> simp_all
theorem qhy : ∀ (l : List Value) (k : Nat) (arr : Array Value), k + l.length ≤ arr.size → ∀ i : Nat, (List.foldl (fun (cs : Array Value) (x : Value × Nat) => cs.setIfInBounds x.2 x.1) arr (l.zipIdx k))[i]? = if k ≤ i ∧ i < k + l.length then l[i - k]? else arr[i]?
  | [], k, arr, h, i => by simp; omega
  | y :: l, k, arr, h, i => by
    simp only [List.length_cons] at h
    rw [List.zipIdx_cons, List.foldl_cons, qhy l (k + 1) _ (by simp; omega) i]
    simp only [List.length_cons]
    by_cases h1 : i = k
    · subst h1
      rw [if_neg (by omega), if_pos (by omega)]
      simp [Array.getElem?_setIfInBounds]
      omega
    · by_cases h2 : k + 1 ≤ i ∧ i < k + 1 + l.length
      · rw [if_pos h2, if_pos (by omega), show i - k = (i - (k + 1)) + 1 by omega, List.getElem?_cons_succ]
      · rw [if_neg h2, if_neg (by omega), Array.getElem?_setIfInBounds, if_neg (Ne.symm h1)]
theorem efold' (x : V15) (arr : Array Value) (h : arr.size = 15) : List.foldl (fun (cs : Array Value) (x : Value × Nat) => cs.setIfInBounds x.2 x.1) arr x.1.zipIdx = x.1.toArray := by
  apply Array.ext_getElem?
  intro i
  rw [qhy x.1 0 arr (by rw [x.2.1, h]; omega) i]
  by_cases hi : i < 15
  · rw [if_pos (by rw [x.2.1]; omega)]; simp
  · rw [if_neg (by rw [x.2.1]; omega), Array.getElem?_eq_none (by omega), Array.getElem?_eq_none (by simp [x.2.1]; omega)]
theorem qm0 {F : Fence} {n : Nat} {P : Program} (w : World) {ops : Array Oper} {rest : List Oper} {o : Oper} {a : Act} {Q : Exit → Act → World → Prop}
    (hg : o.guard = none) (s x : Operand) (t : TypeId) (hop : o.op = Op.call { callee := Callee.builtin Builtin.append, args := #[s, x], argTypes := #[t, t] })
    (base : Nat) (e : TypeId) (i : TypeInfo) (z : Value) (size bytes : Nat) (h1 : P.underlying t = some (.slice e)) (h2 : P.info? e = some i) (h3 : i.zero = some z) (h4 : i.size = size) (h5 : i.bytes = bytes) (h6 : z.cells.size = size) (h7 : 0 < size)
    (v : Value) (k : Nat) (xs : List Value) (hs : a.eval s = v) (hown : w.ownsRow base e size v k xs) (ad : Addr) (m c : Nat) (news : List Value) (hx : a.eval x = .slice (some ad) m c) (hn : news.length = m * size)
    (hc : ∀ j u, news[j]? = some u → w.cell? (ad.add j) = some u) (h1c : ∀ u ∈ news, u.oneCell' = true) (b1 : k + m ≤ maxLen) (b2 : (k + m) * bytes ≤ 140737488355328) (b3 : base ≤ w.heap.size)
    (hK : ∀ v' w', w'.ownsRow base e size v' (k + m) (xs ++ news) → w.grownBy w' v.ownBlock → w.drawn ≤ w'.drawn → (v' = .slice none 0 0 ↔ v = .slice none 0 0 ∧ m = 0) → wpListIn F n P ops Q rest (a.put o.dst v') w') :
    wpListIn F n P ops Q (o :: rest) a w := by
  refine wpListIn_plain hg fun K hK' => ?_
  obtain ⟨v', w', hrun, r1, r2, r3⟩ := run_append_own (P := P) w base t o.type e i z size bytes h1 h2 h3 h4 h5 h6 h7 v k xs hown ad m c news hn hc h1c b1 b2 b3
  have hd := qlq _ _ _ _ hrun
  unfold Oper.wpIn
  refine ⟨?_, ?_⟩
  · simp [Oper.about, hop, resolve, Target.leads, Sem.run_pure]
  · rw [Oper.semAt_plain F _ _ (by rw [hop]; intro c hc'; cases hc')]
    simp [execOp, hop, resolve, invoke, builtin, hs, hx, hrun, Result.andThen]
    exact hK' _ _ (hK v' w' r1 r2 hd r3)
set_option maxRecDepth 100000 in
set_option maxHeartbeats 2000000 in
theorem apYield (F : Fence) (m : Nat) (w0 : World) (fn : FuncId) (hfn : F.fn fn) (sv : Value) (Bs l D : Nat) (hBl : Bs ≠ l) (hDl : D ≠ l) (hDB : D ≠ Bs) (h0B : w0.heap.size ≤ Bs) (h0l : w0.heap.size ≤ l)
    (N : Nat) (hN : N ≤ maxLen) (hNb : N * 144 ≤ 140737488355328) (ss : List V15) (x : V15) (W : World) (h : ApAt w0 fn sv Bs l D ss W) (hlen : ss.length < N) :
    YieldAt F m Try.prog l #[qbe x] W fun e W' => e = .returned (.bool true) ∧ ApAt w0 fn sv Bs l D (ss ++ [x]) W' ∧ KeepsWalks W W' := by
  obtain ⟨i0, z0, hi, hz0, hz1, hz2, hz3⟩ := info32
  obtain ⟨v, hv, hrow, _⟩ := h.box
  refine ⟨fn, #[.slice none 0 0, sv, .pointer (some ⟨Bs, 0, none⟩), undef, .slice none 0 0, undef, sv, qbe x, undef, undef, undef, undef, undef], qbz.1, qbz.2, by simpa [qfs] using run_yield (P := Try.prog) (args := #[qbe x]) h.L rfl, roundIn_of_wpIn hfn ?_⟩
  have hl : l < W.heap.size := (Array.getElem?_eq_some_iff.1 h.L).1
  have hBlt0 : Bs < W.heap.size := (Array.getElem?_eq_some_iff.1 hv).1
  have hDlt0 : D < W.heap.size := (Array.getElem?_eq_some_iff.1 h.K).1
  have hst := qhi (P := Try.prog) W [.int .i64 0, .int .i64 0, .int .i64 0, .int .i64 0, .int .i64 0, .int .i64 0, .int .i64 0, .int .i64 0, .int .i64 0, .int .i64 0, .int .i64 0, .string { data := #[] }, .string { data := #[] }, .string { data := #[] }, .int .i64 0] x.1 32 x.2.1 x.2.2
  obtain ⟨W1, hW1⟩ : ∃ W1, W.alloc (.cells x.1.toArray 32) = W1 := ⟨_, rfl⟩
  rw [hW1] at hst
  have hs1 : W1.heap.size = W.heap.size + 1 := by rw [← hW1]; simp
  have hx1 : W1.heap[W.heap.size]? = some (.cells x.1.toArray 32 (0, 0)) := by rw [← hW1]; exact World.alloc_heap_new W _
  have hg1 : W.grownBy W1 none := by rw [← hW1]; exact World.grownBy_alloc W _ none
  have hk1 : KeepsWalks W W1 := by rw [← hW1]; exact KeepsWalks.alloc _ _
  have hold : ∀ k, k < W.heap.size → W1.heap[k]? = W.heap[k]? := fun k hk => by rw [← hW1]; exact Below.heap_alloc _ _ k hk
  have hL1 := (hold l hl).trans h.L
  have hbr := run_beginRound (P := Try.prog) hL1 rfl
  obtain ⟨W2, hW2⟩ : ∃ W2, W1.putObj l (.loop { qfs fn sv Bs D .ready none with state := .busy }) = W2 := ⟨_, rfl⟩
  rw [hW2] at hbr
  have hlx : l ≠ W.heap.size := by omega
  have hg2 : W1.grownBy W2 (some l) := by rw [← hW2]; exact grownBy_putObj_a _ _ _
  have hk2 : KeepsWalks W1 W2 := by rw [← hW2]; exact KeepsWalks.putObj _ hL1 rfl
  have hx2 : W2.heap[W.heap.size]? = some (.cells x.1.toArray 32 (0, 0)) := by rw [← hW2]; exact (World.putObj_heap_other (Ne.symm hlx)).trans hx1
  have hv2 : W2.heap[Bs]? = some (.cells #[v] 22 (0, 0)) := by rw [← hW2]; exact (World.putObj_heap_other hBl).trans ((hold Bs hBlt0).trans hv)
  have hK2 : W2.heap[D]? = some (.deferred (some [])) := by rw [← hW2]; exact (World.putObj_heap_other hDl).trans ((hold D hDlt0).trans h.K)
  have hL2 : W2.heap[l]? = some (.loop { qfs fn sv Bs D .ready none with state := .busy }) := by rw [← hW2]; exact World.putObj_heap_same (by omega)
  have hrow1 : W1.ownsRow w0.heap.size 32 15 v ss.length (q9a ss) := hrow.kept hg1 (Classical.em _)
  have hrow2 : W2.ownsRow w0.heap.size 32 15 v ss.length (q9a ss) := hrow1.kept hg2 (ownsRow_ne_a hrow1 hL1 (fun cur e => by cases e))
  have hb1 : Below w0.heap.size w0 W1 := h.below.grown hg1 h.below.size (fun k e => by cases e)
  have hdr2 : w0.drawn ≤ W2.drawn := by rw [← hW2, ← hW1]; exact h.dr
  have hb2 : Below w0.heap.size w0 W2 := hb1.grown hg2 hb1.size (fun k e => by cases e; exact h0l)
  obtain ⟨hc2, hf2⟩ := cell_of_box_a hv2
  have hBlt : Bs < W2.heap.size := (Array.getElem?_eq_some_iff.1 hv2).1
  have hl2 : l < W2.heap.size := (Array.getElem?_eq_some_iff.1 hL2).1
  have hDlt : D < W2.heap.size := (Array.getElem?_eq_some_iff.1 hK2).1
  have hld : ∀ (i : Nat) (hi : i < 15), W2.cell? ⟨W.heap.size, i, none⟩ = some (x.1[i]'(by rw [x.2.1]; exact hi)) := by
    intro i hi
    have hlt : i < x.1.length := by rw [x.2.1]; exact hi
    unfold World.cell?
    rw [show W2.heap[(⟨W.heap.size, i, none⟩ : Addr).block]? = _ from hx2]
    simp [hlt]
  have ne_of : ∀ {j : Nat} {o : Obj}, W2.heap[j]? = some o → (∀ cur, o ≠ .cells cur 32 (0, 0)) → some j ≠ v.ownBlock := fun hj hno => by
    rcases ownsRow_ne_a hrow2 hj hno with e | e
    · rw [e]; simp
    · exact fun e' => e e'.symm
  have hsz : x.1.toArray.size = 15 := by rw [List.size_toArray]; exact x.2.1
  have e15 : ∀ {h0 h1 h2 h3 h4 h5 h6 h7 h8 h9 h10 h11 h12 h13 h14}, (#[x.1[0]'h0, x.1[1]'h1, x.1[2]'h2, x.1[3]'h3, x.1[4]'h4, x.1[5]'h5, x.1[6]'h6, x.1[7]'h7, x.1[8]'h8, x.1[9]'h9, x.1[10]'h10, x.1[11]'h11, x.1[12]'h12, x.1[13]'h13, x.1[14]'h14] : Array Value) = x.1.toArray := by
    intros
    obtain ⟨v0, v1, v2, v3, v4, v5, v6, v7, v8, v9, v10, v11, v12, v13, v14, hvl⟩ := lst15 x.2.1
    apply Array.ext'
    simp only [hvl]
    rfl
  clear hW1 hW2
  unfold qbe
  generalize hB : qbz.2 = B
  simp only [qbz, Try.f72]
  gi_wp2_with gi_round_op_a
  rw [← hB]
  simp only [qbz, Try.f72]
  gi_wp2_with (first
    | (gi_at_builtin; rw [efold' x _ rfl]; refine qm0 _ rfl _ _ 22 rfl w0.heap.size 32 i0 z0 15 144 Try.underlying22 hi hz0 hz1 hz2 hz3 (by decide) _ _ _ rfl (hrow2.alloc _) ⟨W2.heap.size, 0, none⟩ 1 1 x.1 rfl (by rw [x.2.1]) (qlw _ _ _) x.2.2 (by omega) (by omega) (by have := hb2.size; simp; omega) ?_; intro v' w3 hown' hg3 hd3 hnil3
       have hv3 : w3.heap[Bs]? = some (.cells #[v] 22 (0, 0)) := (hg3.block Bs (by simp; omega) (ne_of hv2 (fun cur e => by cases e))).trans ((Below.heap_alloc _ _ Bs hBlt).trans hv2)
       obtain ⟨hc3, hf3⟩ := cell_of_box_a hv3
       obtain ⟨g', cap', cur', rfl, hbase', hgb', hr1, hr2, hr3, hr4⟩ : ∃ g' cap' cur', v' = .slice (some ⟨g', 0, none⟩) (ss.length + 1) cap' ∧ w0.heap.size ≤ g' ∧ w3.heap[g']? = some (.cells cur' 32 (0, 0)) ∧ ss.length + 1 ≤ cap' ∧ cap' ≤ maxLen ∧ cur'.size = cap' * 15 ∧ cur'.toList.take ((ss.length + 1) * 15) = q9a ss ++ x.1 := by
         rcases hown'.2 with ⟨_, h0⟩ | h'
         · exact absurd h0 (by omega)
         · exact h'
       go_frame)
    | gi_round_op_a)
  have hg3' : (W2.alloc (.cells x.1.toArray 32)).grownBy w3 v.ownBlock := hg3
  have hL3 : w3.heap[l]? = some (.loop { qfs fn sv Bs D .ready none with state := .busy }) := (hg3'.block l (by simp; omega) (ne_of hL2 (fun cur e => by cases e))).trans ((Below.heap_alloc _ _ l hl2).trans hL2)
  have hK3 : w3.heap[D]? = some (.deferred (some [])) := (hg3'.block D (by simp; omega) (ne_of hK2 (fun cur e => by cases e))).trans ((Below.heap_alloc _ _ D hDlt).trans hK2)
  obtain ⟨w4, hw4⟩ : ∃ w4, w3.setCell ⟨Bs, 0, none⟩ (.slice (some ⟨g', 0, none⟩) (ss.length + 1) cap') = w4 := ⟨_, rfl⟩
  rw [hw4]
  have hg4 : w3.grownBy w4 (some Bs) := by rw [← hw4]; exact grownBy_setCell0_a _ _ _
  have hv4 : w4.heap[Bs]? = some (.cells #[.slice (some ⟨g', 0, none⟩) (ss.length + 1) cap'] 22 (0, 0)) := by rw [← hw4]; exact heap_setCell_box_a _ hv3
  have hL4 : w4.heap[l]? = some (.loop { qfs fn sv Bs D .ready none with state := .busy }) := (hg4.block l (Array.getElem?_eq_some_iff.1 hL3).1 (fun e => hBl (by cases e; rfl))).trans hL3
  have hK4 : w4.heap[D]? = some (.deferred (some [])) := (hg4.block D (Array.getElem?_eq_some_iff.1 hK3).1 (fun e => hDB (by cases e; rfl))).trans hK3
  have hrow4 := hown'.kept hg4 (ownsRow_ne_a hown' hv3 (fun cur e => by cases e))
  have hl4 : l < w4.heap.size := (Array.getElem?_eq_some_iff.1 hL4).1
  have hb3 : Below w0.heap.size w0 w3 := (hb2.alloc hb2.size _).grown hg3' (by have := hb2.size; simp; omega) (fun k e => (hrow2.lt k e).1)
  have hb4 : Below w0.heap.size w0 w4 := hb3.grown hg4 hb3.size (fun k e => by cases e; exact h0B)
  have hd4 : w0.drawn ≤ w4.drawn := by rw [← hw4]; exact Nat.le_trans hdr2 hd3
  have hk4 : KeepsWalks W w4 := (((hk1.trans hk2).trans (KeepsWalks.alloc _ _)).trans (KeepsWalks.of_grownBy hg3' (ownsRow_not_walk_a (hrow2.alloc _)))).trans (by rw [← hw4]; exact KeepsWalks.setCell _ _ _)
  clear hw4
  refine ⟨_, _, run_endRound none hL4, rfl, ⟨⟨_, (World.putObj_heap_other hBl).trans hv4, ?_, by simp⟩, World.putObj_heap_same hl4, (World.putObj_heap_other hDl).trans hK4, hb4.grown (grownBy_putObj_a _ _ _) hb4.size (fun k e => by cases e; exact h0l), hd4⟩, hk4.trans (KeepsWalks.putObj _ hL4 rfl)⟩
  have := hrow4.kept (grownBy_putObj_a w4 l (.loop { { qfs fn sv Bs D .ready none with state := .busy } with state := if (none : Option Code).isNone then .ready else .done, pending := none })) (ownsRow_ne_a hrow4 hL4 (fun cur e => by cases e))
  rw [qh0]
  simpa using this
set_option maxRecDepth 100000 in
set_option maxHeartbeats 2000000 in
theorem qic (F : Fence) (n : Nat) (h72 : F.fn 72) (hro : F.round = none) (hn : 2 ≤ n) (g : Nat) (lb : Array Value) (hFg : F.fn g) (eg : ∀ args w, (callFunc g args).run Try.prog w = .ok (.enter g args) w)
    (S : List V15 → Prop) (N : Nat) (hN : N ≤ maxLen) (hNb : N * 144 ≤ 140737488355328) (w : World) (hseq : SeqD F (n - 1) Try.prog g lb S N w) :
    CallsIn F n Try.prog 72 #[.slice none 0 0, .func (.func g) #[] lb] w fun e w' => ∃ (v : Value) (ss : List V15), e = .returned v ∧ S ss ∧ w'.ownsRow w.heap.size 32 15 v ss.length (q9a ss) ∧ (v = .slice none 0 0 ↔ ss = []) ∧ Below w.heap.size w w' ∧ w.drawn ≤ w'.drawn := by
  have h1 : 1 ≤ n := by omega
  refine callsIn_of_wp_marks Try.func72 rfl h72 ?_ hro
  simp only [Try.ntmps72, List.size_toArray, List.length_cons, List.length_nil, Nat.reduceAdd, Nat.reduceSub, Array.replicate_succ, Array.replicate_zero, List.push_toArray, List.append_toArray, List.nil_append, List.cons_append]
  gi_wp2
  refine wpIn_rangeFunc ?_
  intro fn hfn
  rw [hro]
  obtain ⟨W0, hW0⟩ : ∃ W0, w.alloc (.cells #[.slice none 0 0] 22) = W0 := ⟨_, rfl⟩
  have hs0 : W0.heap.size = w.heap.size + 1 := by rw [← hW0]; simp
  have hv0 : W0.heap[w.heap.size]? = some (.cells #[.slice none 0 0] 22 (0, 0)) := by rw [← hW0]; exact World.alloc_heap_new w _
  have hb0 : Below w.heap.size w W0 := by rw [← hW0]; exact (Below.refl _ w).alloc (Nat.le_refl _) _
  rw [hW0]
  obtain ⟨W1, hW1⟩ : ∃ W1, (W0.alloc (.deferred (some []))).alloc (.loop (qfs fn (.func (.func g) #[] lb) w.heap.size W0.heap.size .ready none)) = W1 := ⟨_, rfl⟩
  have hold : ∀ k, k < W0.heap.size → W1.heap[k]? = W0.heap[k]? := fun k hk => by
    rw [← hW1]; exact (Below.heap_alloc _ _ k (by simp; omega)).trans (Below.heap_alloc _ _ k hk)
  have hb1 : Below w.heap.size w W1 := by rw [← hW1]; exact (hb0.alloc hb0.size _).alloc (by have := hb0.size; simp; omega) _
  have hs1 : W1.heap.size = W0.heap.size + 2 := by rw [← hW1]; simp
  have hM : ApAt w fn (.func (.func g) #[] lb) w.heap.size (W0.heap.size + 1) W0.heap.size [] W1 :=
    ⟨⟨_, (hold w.heap.size (by omega)).trans hv0, ⟨rfl, .inl ⟨rfl, rfl⟩⟩, by simp⟩,
     by rw [← hW1]; have := World.alloc_heap_new (W0.alloc (.deferred (some []))) (.loop (qfs fn (.func (.func g) #[] lb) w.heap.size W0.heap.size .ready none)); rwa [World.size_alloc] at this,
     by rw [← hW1]; exact (Below.heap_alloc _ _ _ (by simp)).trans (World.alloc_heap_new W0 _), hb1, by rw [← hW1, ← hW0]; exact Nat.le_refl _⟩
  refine ⟨W0.heap.size + 1, [{ target := .collected W0.heap.size, args := #[] }], W1, { target := .fn (.func g) lb, args := #[.func (.yield (W0.heap.size + 1)) #[] #[]] }, W1, g,
    #[.func (.yield (W0.heap.size + 1)) #[] #[]] ++ lb, W1, ?_, ?_, ?_, ?_, fun _ => h1, ?_⟩
  · rw [← hW1]; exact run_enterLoop_outer _ _ _ _ _
  · simp [resolve, go_sem]
  · intro f' hf'; simp [Target.leads] at hf'; subst hf'; exact hFg
  · simp [invoke, go_sem, eg]
  · refine (hseq (W0.heap.size + 1) (ApAt w fn (.func (.func g) #[] lb) w.heap.size (W0.heap.size + 1) W0.heap.size) W1 hb1 (qm1 _ _ _ _ _ _ _ hb1.size)
      (fun pre x W hJ hl => apYield F (n - 1 - 1) w fn hfn _ w.heap.size (W0.heap.size + 1) W0.heap.size (by omega) (by omega) (by omega) (Nat.le_refl _) (by omega) N hN hNb pre x W hJ hl) hM).mono ?_
    rintro e W2 ⟨⟨v0, rfl⟩, ss, hS, h2⟩
    obtain ⟨v, hv, hrow, hnil⟩ := h2.box
    have hend := run_endLoop (P := Try.prog) h2.L (by simp [qfs])
    obtain ⟨W3, hW3⟩ : ∃ W3, W2.putObj (W0.heap.size + 1) (.loop { qfs fn (.func (.func g) #[] lb) w.heap.size W0.heap.size .ready none with state := .exhausted }) = W3 := ⟨_, rfl⟩
    rw [hW3] at hend
    have hg3 : W2.grownBy W3 (some (W0.heap.size + 1)) := by rw [← hW3]; exact grownBy_putObj_a _ _ _
    have hv3 : W3.heap[w.heap.size]? = some (.cells #[v] 22 (0, 0)) := by rw [← hW3]; exact (World.putObj_heap_other (by omega)).trans hv
    have hK3 : W3.heap[W0.heap.size]? = some (.deferred (some [])) := by rw [← hW3]; exact (World.putObj_heap_other (by omega)).trans h2.K
    have hrow3 := hrow.kept hg3 (ownsRow_ne_a hrow h2.L (fun cur e => by cases e))
    have hd3 : w.drawn ≤ W3.drawn := by rw [← hW3]; exact h2.dr
    have hb3 : Below w.heap.size w W3 := h2.below.grown hg3 h2.below.size (fun k e => by cases e; omega)
    obtain ⟨hc3, hf3⟩ := cell_of_box_a hv3
    clear hW3
    refine ⟨none, W3, hend, ?_⟩
    gi_wp2
    rw [← hs0]
    refine ⟨by simp, .inl ⟨_, _, rfl, run_takeDeferred hK3, ?_⟩⟩
    exact ⟨_, results_tmp rfl _ _ _, v, ss, rfl, hS, hrow3.kept (grownBy_putObj_a _ _ _) (ownsRow_ne_a hrow3 hK3 (fun cur e => by cases e)), hnil, hb3.grown (grownBy_putObj_a _ _ _) hb3.size (fun k e => by cases e; omega), hd3⟩
end Go.Bb
namespace Go.Bb
open Go.Proofs Go.Shelf
shelf_lay_g SlLaysF0.n6 Slsf 6 at Try 56 as Try.sortEd
shelf_lay Lays.n190 Nm 190 at Try as Try.sortStr
shelf_lay Lays.n194 Nm 194 at Try as Try.compactStr
shelf_lay_g SlLaysW.n5 Slmc 5 at Try 54 as Try.cloneBook
end Go.Bb
namespace Go.Bb
set_option linter.unusedSimpArgs false
set_option linter.unusedVariables false
open Go.Proofs Go.Maps Go.MapKept Go.Shelf
theorem exact_of (E : Env) {f : FuncId} {args : List Value} {r : Value} (a : ACalls E f args (fun _ => none) (fun v _ => v = r)) (w : World) :
    Calls E.P f args.toArray w fun e w' => e = .returned r ∧ ∃ q os', w' = Go.Sort.grow (w.drewN q) os' := by
  refine (a w (fun b x h => by cases h)).mono ?_
  rintro e w' ⟨v, h', rfl, -, f, rfl⟩
  refine ⟨rfl, w'.drawn - w.drawn, w'.heap.extract w.heap.size w'.heap.size, ?_⟩
  have hd : w'.drawn = w.drawn + (w'.drawn - w.drawn) := by have := f.output.2; omega
  have hh : w'.heap = w.heap ++ w'.heap.extract w.heap.size w'.heap.size := by
    apply Array.ext_getElem?
    intro k
    by_cases hk : k < w.heap.size
    · rw [Array.getElem?_append_left hk, f.keep k hk (.inl rfl)]
    · rw [Array.getElem?_append_right (by omega), Array.getElem?_extract]
      have := f.size
      by_cases h2 : k < w'.heap.size
      · rw [if_pos (by omega)]; congr 1; omega
      · rw [if_neg (by omega), Array.getElem?_eq_none (by omega)]
  obtain ⟨h1, h2, h3, h4, h5⟩ := w'
  obtain ⟨g1, g2, g3, g4, g5⟩ := w
  simp only at hd hh
  have e1 := f.os; have e2 := f.tape; have e3 := f.output.1
  simp only at e1 e2 e3
  subst e1 e2 e3
  unfold Go.Sort.grow World.drewN
  simp only
  rw [← hd, ← hh]
section
variable {α : Type} [Inhabited α] (enc : α → Value)
theorem qgx {H : Heap} {w : World} (s : Sat H w) {g st sz o : Nat} {pre cells rest : List Value} (q : H g = some (.own st (pre ++ cells ++ rest) sz)) (ho : st + pre.length = o) (d : Array α) (hd : d.toList.map enc = cells) :
    Go.Sort.Holds enc w g o d := by
  intro j hj
  obtain ⟨carr, e, fr, hb, hsz, hle, hc, hf⟩ := s _ _ q
  have hl : cells.length = d.size := by rw [← hd]; simp
  have hv : (pre ++ cells ++ rest)[pre.length + j]? = some (enc d[j]!) := by
    rw [List.append_assoc, List.getElem?_append_right (by omega), List.getElem?_append_left (by omega), ← hd]
    simp [hj]
  have hcj := hc _ _ hv
  rw [show st + (pre.length + j) = o + j from by omega] at hcj
  refine ⟨by simp [World.cell?, hb, hcj], ?_⟩
  have hlt : o + j < sz := by simp at hle; omega
  simp only [World.frozen?, hb]
  rcases hf with h | h <;> simp <;> omega
theorem qij {H : Heap} {w : World} (s : Sat H w) {g st sz o : Nat} {pre cells rest : List Value} (q : H g = some (.own st (pre ++ cells ++ rest) sz)) (ho : st + pre.length = o) (d : Array α) {new : List Value} (hd : d.toList.map enc = new) (hl : new.length = cells.length) (m : Nat) (os : Array Obj) :
    Sat (H.set g (.own st (pre ++ new ++ rest) sz)) (Go.Sort.grow (Go.Sort.putRow enc (Go.Sort.ahead w m) g o d) os) ∧ Fr H (H.set g (.own st (pre ++ new ++ rest) sz)) w (Go.Sort.grow (Go.Sort.putRow enc (Go.Sort.ahead w m) g o d) os) := by
  have hlt := s.lt q
  obtain ⟨carr, e, fr, hb, hsz, hle, hc, hf⟩ := s _ _ q
  have hn : new.length = d.size := by rw [← hd]; simp
  have hsize : (Go.Sort.putRow enc (Go.Sort.ahead w m) g o d).heap.size = w.heap.size := by rw [Go.Sort.size_putRow]; rfl
  have hoth : ∀ k, k < w.heap.size → k ≠ g → (Go.Sort.grow (Go.Sort.putRow enc (Go.Sort.ahead w m) g o d) os).heap[k]? = w.heap[k]? := by
    intro k hk hne
    show ((Go.Sort.putRow enc (Go.Sort.ahead w m) g o d).heap ++ os)[k]? = _
    rw [Array.getElem?_append_left (by rw [hsize]; exact hk)]
    show ((w.heap).modify g _)[k]? = _
    rw [Array.getElem?_modify, if_neg (Ne.symm hne)]
  have hg : (Go.Sort.grow (Go.Sort.putRow enc (Go.Sort.ahead w m) g o d) os).heap[g]? = some (.cells (Go.Sort.putCells enc o d carr) e fr) := by
    show ((Go.Sort.putRow enc (Go.Sort.ahead w m) g o d).heap ++ os)[g]? = _
    rw [Array.getElem?_append_left (by rw [hsize]; exact hlt)]
    show ((w.heap).modify g _)[g]? = _
    rw [Array.getElem?_modify, if_pos rfl, hb]
    rfl
  constructor
  · refine qev s ⟨_, e, fr, hg, by simp [Go.Sort.putCells, hsz], by simp at hle ⊢; omega, ?_, hf⟩ (fun c hne hcn => ?_)
    · intro i v hv
      have hcarr : (Go.Sort.putCells enc o d carr)[st + i]? = (carr[st + i]?).map fun x => if o ≤ st + i ∧ st + i < o + d.size then enc d[st + i - o]! else x := by
        simp only [Go.Sort.putCells, Array.getElem?_mapIdx]
      rw [hcarr]
      have hilt : i < (pre ++ new ++ rest).length := (List.getElem?_eq_some_iff.1 hv).1
      simp only [List.length_append] at hilt
      by_cases h1 : i < pre.length
      · have : (pre ++ cells ++ rest)[i]? = some v := by
          rw [List.append_assoc, List.getElem?_append_left h1] at hv ⊢; exact hv
        rw [hc _ _ this, Option.map_some, if_neg (by omega)]
      · by_cases h2 : i < pre.length + new.length
        · have h3 : (pre ++ cells ++ rest)[i]? = some cells[i - pre.length] := by
            rw [List.append_assoc, List.getElem?_append_right (by omega), List.getElem?_append_left (by omega), List.getElem?_eq_getElem]
          rw [hc _ _ h3, Option.map_some, if_pos (by omega)]
          rw [List.append_assoc, List.getElem?_append_right (by omega), List.getElem?_append_left (by omega), ← hd] at hv
          rw [show st + i - o = i - pre.length from by omega]
          have h4 : i - pre.length < d.size := by omega
          simp [h4] at hv
          simp [h4, hv]
        · have : (pre ++ cells ++ rest)[i]? = some v := by
            rw [List.append_assoc, List.getElem?_append_right (by omega), List.getElem?_append_right (by omega)] at hv ⊢
            rw [← hv]; congr 1; omega
          rw [hc _ _ this, Option.map_some, if_neg (by omega)]
    · have : c < w.heap.size := by
        cases hx : H c with
        | none => exact absurd hx hcn
        | some y => exact s.lt hx
      exact hoth c this hne
  · refine ⟨rfl, rfl, ⟨rfl, Nat.le_add_right _ _⟩, ?_, ?_, ?_, ?_⟩
    · show w.heap.size ≤ ((Go.Sort.putRow enc (Go.Sort.ahead w m) g o d).heap ++ os).size
      rw [Array.size_append, hsize]; omega
    · intro b hb' hfree
      refine hoth b hb' ?_
      rintro rfl
      rcases hfree with h | ⟨o2, h⟩ <;> rw [q] at h <;> cases h
    · intro b hn' hs'
      unfold Heap.set at hs'
      split at hs'
      · rename_i he; subst he; rw [q] at hn'; cases hn'
      · exact absurd hn' hs'
    · intro b o2 hro
      unfold Heap.set
      split
      · rename_i he; subst he; rw [q] at hro; cases hro
      · exact hro
end
theorem qkn (E : Env) (hP : E.P = Try.prog) {H : Heap} {bx m : Nat} {es : Array MapEntry} {clk : Nat} (qb : H bx = some (.own 0 [.map (some m)] 1)) (qm : H m = some (.obj (.map es clk)))
    (st : Stamped es clk) (hes : ∀ x ∈ es.toList, ∃ c : V15, x.val = qbe c) (hsz : es.size ≤ 100000) {Q : Value → Heap → Prop}
    (hQ : ∀ v h' (ss : List V15), H.le h' → Ow H h' 15 v ss.length (q9a ss) → (ss.map qbe).Perm (es.toList.map (·.val)) → Q v h') :
    ACalls E 72 [.slice none 0 0, .func (.func 57) #[] #[.pointer (some ⟨bx, 0, none⟩)]] H Q := by
  intro w s
  rw [hP]
  have hcell0 : q1r H ⟨bx, 0, none⟩ = some (.map (some m)) := by rw [q4n qb (by simp)]; rfl
  have hm := qa7 s hcell0
  have hb : bx < w.heap.size := s.lt qb
  have hmap : w.heap[m]? = some (.map es clk) := (s m _ qm).1
  have hseq := qhe Fence.wide 1 trivial rfl (Nat.le_refl _) bx m es clk st hes w hb hm hmap
  have e57 : ∀ args w, (callFunc 57 args).run Try.prog w = .ok (.enter 57 args) w := enters_of Try.func57 (by kernel_rfl) rfl
  have hcol := qic Fence.wide 2 trivial rfl (Nat.le_refl _) 57 #[.pointer (some ⟨bx, 0, none⟩)] trivial e57 _ es.size (by unfold maxLen; omega) (by omega) w hseq
  refine (callsIn_wide.1 hcol).mono ?_
  rintro e w' ⟨v, ss, rfl, hp, hrow, -, hbel, hdr⟩
  have sat0 : Sat H w' := fun b x q => by
    rw [hbel.block b (s.lt q)]; exact s b x q
  obtain ⟨hlen, hrow⟩ := hrow
  rcases hrow with ⟨rfl, h0⟩ | ⟨g, cap, cur, rfl, hg, hgb, hr1, hr2, hr3, hr4⟩
  · have hs : ss = [] := List.eq_nil_of_length_eq_zero h0
    subst hs
    exact ⟨_, H, rfl, sat0, ⟨hbel.os, hbel.tape, ⟨hbel.output, hdr⟩, hbel.size, fun b hb _ => hbel.block b hb, fun _ a b => absurd a b, fun _ _ h => h⟩, hQ _ _ [] (Heap.q0e _) (Ow.nil _ _ _) hp⟩
  · have hgn : H g = none := s.none_of_ge hg
    refine ⟨_, H.set g (.own 0 cur.toList (cap * 15)), rfl, ?_, ?_, hQ _ _ ss (Heap.q0v (Heap.q0e _) hgn _) ?_ hp⟩
    · intro b x q
      by_cases e : b = g
      · subst e
        rw [Heap.q02] at q
        cases q
        exact ⟨cur, 32, (0, 0), hgb, by omega, by simp; omega, fun i v hv => by simpa using hv, .inl rfl⟩
      · rw [Heap.q1e e] at q
        exact sat0 b x q
    · refine ⟨hbel.os, hbel.tape, ⟨hbel.output, hdr⟩, hbel.size, fun b hb _ => hbel.block b hb, fun b a c => ?_, fun b o h => ?_⟩
      · by_cases e : b = g
        · subst e; exact hg
        · rw [Heap.q1e e] at c; exact absurd a c
      · have e : b ≠ g := by intro e; subst e; rw [hgn] at h; cases h
        rw [Heap.q1e e]; exact h
    · refine .inr ⟨g, 0, cap, cap * 15, 0, [], cur.toList.drop (ss.length * 15), rfl, hr1, hgn, ?_, rfl, qcf ss, by omega⟩
      rw [Heap.q02]
      have : [] ++ q9a ss ++ cur.toList.drop (ss.length * 15) = cur.toList := by
        rw [List.nil_append, ← hr4, List.take_append_drop]
      rw [this]
abbrev EdG := {e : Ed // e.seen.length = 8}
instance : Inhabited EdG := ⟨⟨ZE, rfl⟩⟩
def encE (e : EdG) : List Value := edC e.1
theorem qch (e : EdG) : (encE e).length = 15 := q5w e.2
theorem encE_one (e : EdG) : ∀ v ∈ encE e, v.oneCell' = true := fun v hv => List.all_eq_true.1 (qh1 e.1) v hv
theorem qci : ∀ l : List EdG, (l.flatMap encE).length = l.length * 15
  | [] => rfl
  | x :: l => by rw [List.flatMap_cons, List.length_append, qci l, qch, List.length_cons]; omega
theorem qfh {α : Type} (enc : α → List Value) {k : Nat} (hk : ∀ x, (enc x).length = k) (h0 : 0 < k) : ∀ (l : List α) (i : Nat), (l.flatMap enc)[i]? = (l[i / k]?).bind fun x => (enc x)[i % k]?
  | [], i => by simp
  | x :: l, i => by
    rw [List.flatMap_cons]
    by_cases h : i < k
    · rw [List.getElem?_append_left (by rw [hk]; exact h), Nat.div_eq_of_lt h, Nat.mod_eq_of_lt h]
      rfl
    · rw [List.getElem?_append_right (by rw [hk]; omega), hk, qfh enc hk h0 l (i - k)]
      have e1 : i / k = (i - k) / k + 1 := by
        rw [← Nat.add_div_right _ h0]; congr 1; omega
      have e2 : i % k = (i - k) % k := by
        rw [← Nat.add_mod_right (i - k) k]; congr 1; omega
      rw [e1, e2, List.getElem?_cons_succ]
theorem qe0 {α : Type} [Inhabited α] (enc : α → List Value) {k : Nat} (hk : ∀ x, (enc x).length = k) (h0 : 0 < k) (d : Array α) : (Go.Sort.flatK enc k d).toList = d.toList.flatMap enc := by
  apply List.ext_getElem?
  intro i
  rw [qfh enc hk h0, Array.getElem?_toList]
  by_cases h : i < d.size * k
  · have h1 : i / k < d.size := Nat.div_lt_of_lt_mul (by rw [Nat.mul_comm]; exact h)
    have h2 : i % k < (enc d[i / k]).length := by rw [hk]; exact Nat.mod_lt _ h0
    simp only [Go.Sort.flatK, Array.getElem?_map, Array.getElem?_range, h, if_true, Option.map_some, Array.getElem?_toList, Array.getElem?_eq_getElem h1, Option.bind_some, List.getElem?_eq_getElem h2]
    simp [h1, h2]
  · have h1 : ¬ i / k < d.size := fun h1 => h (by
      have := Nat.div_add_mod i k
      have hm := Nat.mod_lt i h0
      calc i = k * (i / k) + i % k := this.symm
        _ < k * (i / k) + k := by omega
        _ = (i / k + 1) * k := by rw [Nat.add_mul, Nat.one_mul, Nat.mul_comm]
        _ ≤ d.size * k := Nat.mul_le_mul_right _ h1)
    rw [Array.getElem?_eq_none (by simp; omega), Array.getElem?_toList, Array.getElem?_eq_none (by omega)]
    rfl
theorem qfy (E : Env) (hP : E.P = Try.prog) {m : Nat} {g : FuncId} (hg : E.fid m = some g) (cf : EdG → EdG → Int) (hO : Go.Sort.SWO (ltOf cf))
    (hcmp : ∀ x y : EdG, ACalls E g [.agg (encE x).toArray, .agg (encE y).toArray] (fun _ => none) (fun v _ => v = .int .i64 (cf x y)))
    {H : Heap} {b st sz o c : Nat} {pre rest : List Value} (l : List EdG) (q : H b = some (.own st (pre ++ l.flatMap encE ++ rest) sz)) (ho : st + pre.length = o) (hlen : l.length ≤ 100000) {Q : Value → Heap → Prop}
    (hQ : ∀ l' : List EdG, l'.Perm l → l'.Pairwise (fun x y => ltOf cf y x = false) → Q (.tuple #[]) (H.set b (.own st (pre ++ l'.flatMap encE ++ rest) sz))) :
    ACalls E 56 [.slice (some ⟨b, o, none⟩) l.length c, .func (.func g) #[] #[]] H Q := by
  intro w s
  have eg : ∀ args w, (callFunc g args).run Try.prog w = .ok (.enter g args) w := fun args w => by rw [← hP]; exact q7f E hg args w
  have hfl := qe0 (k := 15) encE qch (by decide) l.toArray
  have hH : Go.Sort.HoldsK encE 15 w b o l.toArray := qgx id s q ho _ (by rw [List.map_id]; exact hfl)
  have hC : CmpLays Try.prog g #[] encE 15 cf b o l.toArray.size w := fun m os dk _ x y => by
    have := exact_of E (hcmp x y) (sortWorldK encE 15 w b o m dk os)
    rw [hP] at this
    exact this
  have h := AnyQ.slices_SortFunc Try.sortEd 15 Try.isAgg32 Try.sizeOf32 encE qch encE_one cf hO g #[] b o c l.toArray w eg hC hH (s.lt q) (by simp; omega)
  rw [hP]
  refine Calls.mono (show Calls Try.prog 56 _ _ _ from h) ?_
  rintro e w' ⟨rfl, d', n, os, hp, hs, rfl⟩
  obtain ⟨hp1, -, hp3⟩ := hp
  simp only [List.size_toArray] at hp1 hp3 hs
  have hperm : d'.toList.Perm l := by
    have e1 : (d'.extract 0 l.length).toList = d'.toList := by rw [← hp1]; simp
    have e2 : (l.toArray.extract 0 l.length).toList = l := by simp
    rw [e1, e2] at hp3
    exact hp3
  have hlen2 : (d'.toList.flatMap encE).length = (l.flatMap encE).length := by
    rw [qci, qci, hperm.length_eq]
  obtain ⟨sa, fr⟩ := qij id s q ho (Go.Sort.flatK encE 15 d') (new := d'.toList.flatMap encE) (by rw [List.map_id]; exact qe0 (k := 15) encE qch (by decide) d') hlen2 n os
  refine ⟨_, _, rfl, sa, fr, hQ _ hperm ?_⟩
  rw [List.pairwise_iff_getElem]
  intro i j hi hj hij
  simp only [Array.length_toList] at hi hj
  have := hs i j (Nat.zero_le _) hij (by omega)
  simpa [hi, hj] using this
theorem qgp (E : Env) (hP : E.P = Try.prog) {H : Heap} {b st sz o c : Nat} {pre rest : List Value} (l : List (List UInt8)) (q : H b = some (.own st (pre ++ l.map strV ++ rest) sz)) (ho : st + pre.length = o) (hlen : l.length ≤ 100000) {Q : Value → Heap → Prop}
    (hQ : Q (.tuple #[]) (H.set b (.own st (pre ++ (l.mergeSort fun x y => decide (x ≤ y)).map strV ++ rest) sz))) :
    ACalls E 49 [.slice (some ⟨b, o, none⟩) l.length c] H Q := by
  intro w s
  have hH : Go.Sort.Holds encStr w b o l.toArray := qgx _ s q ho _ rfl
  have h := Any.slices_Sort_string Try.sortStr b o c l w hH (s.lt q) (by omega)
  rw [hP]
  refine Calls.mono (show Calls Try.prog 49 _ _ _ from h) ?_
  rintro e w' ⟨rfl, n, os, rfl⟩
  obtain ⟨sa, fr⟩ := qij encStr s q ho (l.mergeSort fun x y => decide (x ≤ y)).toArray (new := (l.mergeSort fun x y => decide (x ≤ y)).map strV) rfl (by simp) n os
  exact ⟨_, _, rfl, sa, fr, hQ⟩
theorem qef (E : Env) (hP : E.P = Try.prog) {H : Heap} {b st sz o c : Nat} {pre rest : List Value} (l : List (List UInt8)) (q : H b = some (.own st (pre ++ l.map strV ++ rest) sz)) (ho : st + pre.length = o) (hlen : l.length ≤ 100000) (hc : l.length ≤ c) {Q : Value → Heap → Prop}
    (hQ : Q (.slice (some ⟨b, o, none⟩) (Lib.compact l).length c) (H.set b (.own st (pre ++ ((Lib.compact l).map strV ++ List.replicate (l.length - (Lib.compact l).length) (strV [])) ++ rest) sz))) :
    ACalls E 50 [.slice (some ⟨b, o, none⟩) l.length c] H Q := by
  intro w s
  have hH : Go.Sort.Holds encStr w b o l.toArray := qgx _ s q ho _ rfl
  have h := Any.slices_Compact_string Try.compactStr b o c l w hH (by omega) hc
  have hle := Lib.compact_length_le l
  rw [hP]
  refine Calls.mono (show Calls Try.prog 50 _ _ _ from h) ?_
  rintro e w' ⟨rfl, n, rfl⟩
  obtain ⟨sa, fr⟩ := qij encStr s q ho (Lib.compact l ++ List.replicate (l.length - (Lib.compact l).length) []).toArray (new := (Lib.compact l).map strV ++ List.replicate (l.length - (Lib.compact l).length) (strV [])) (by simp; rfl) (by simp; omega) n #[]
  rw [Go.Sort.grow_empty] at sa fr
  exact ⟨_, _, rfl, sa, fr, hQ⟩
theorem qg2 (E : Env) (hP : E.P = Try.prog) {H : Heap} {a : Option Addr} {c : Nat} {Q : Value → Heap → Prop} (hQ : Q (.slice a 0 c) H) : ACalls E 50 [.slice a 0 c] H Q := by
  intro w s
  have h := Any.slices_Compact_string_empty Try.compactStr a c w
  rw [hP]
  refine Calls.mono (show Calls Try.prog 50 _ _ _ from h) ?_
  rintro e w' ⟨rfl, rfl⟩
  exact ⟨_, _, rfl, s, Fr.qfx _ _, hQ⟩
end Go.Bb
namespace Go.Bb
set_option linter.unusedSimpArgs false
set_option linter.unusedVariables false
set_option maxRecDepth 20000
set_option maxHeartbeats 2000000
open Go.MapKept
structure BkOk (E : EnvT tab) : Prop where
  P : E.P = Go.Proofs.Try.prog
  f72 : E.fid q2e = some 72
  f57 : E.fid q26 = some 57
  f56 : E.fid q1b = some 56
  f49 : E.fid q25 = some 49
  f50 : E.fid q3t = some 50
  f54 : E.fid q2o = some 54
  f40 : E.fid q8l = some 40
  f60 : E.fid q94 = some 60
  f63 : E.fid q93 = some 63
theorem toG : ∀ {S : List Ed}, (∀ e ∈ S, e.seen.length = 8) → ∃ l : List EdG, l.map (·.1) = S
  | [], _ => ⟨[], rfl⟩
  | e :: S, h => by
    obtain ⟨l, hl⟩ := toG (S := S) fun x hx => h x (List.mem_cons_of_mem _ hx)
    exact ⟨⟨e, h e (List.mem_cons_self ..)⟩ :: l, by simp [hl]⟩
theorem qek (l : List EdG) : l.flatMap encE = (l.map (·.1)).flatMap edC := by
  rw [List.flatMap_map]; rfl
theorem qj9 (E : EnvT tab) (K : BkOk E) {h0 H : Heap} {v : Value} {S : List Ed} (h8 : ∀ e ∈ S, e.seen.length = 8) (s : Ow h0 H 15 v S.length (S.flatMap edC)) (hlen : S.length ≤ 100000) {n : Nat} {g : FuncId} (hg : E.fid n = some g) (cf : Ed → Ed → Int)
    (irr : ∀ x, ¬ cf x x < 0) (tr : ∀ x y z, cf x y < 0 → cf y z < 0 → cf x z < 0) (nt : ∀ x y z, ¬ cf x y < 0 → ¬ cf y z < 0 → ¬ cf x z < 0)
    (hcmp : ∀ (x y : Ed), x.seen.length = 8 → y.seen.length = 8 → ACallN E.toEnv n [.agg (edC x).toArray, .agg (edC y).toArray] (fun _ => none) (fun r _ => r = .int .i64 (cf x y))) :
    ACallN E.toEnv q1b [v, .func (.func g) #[] #[]] H fun r H' => ∃ S' : List Ed, S'.Perm S ∧ S'.Pairwise (fun x y => ¬ cf y x < 0) ∧ Ow h0 H' 15 v S'.length (S'.flatMap edC) ∧ (∀ b, h0 b ≠ none → H' b = H b) := by
  rcases s with ⟨rfl, hn, hc⟩ | ⟨b, o, c, sz, st, pre, rest, rfl, h2, h3, h4, h5, h6, h7⟩
  · have : S = [] := List.eq_nil_of_length_eq_zero hn
    subst this
    refine (qii E H _).mono ?_
    rintro r H' rfl
    exact ⟨[], List.Perm.refl _, List.Pairwise.nil, Ow.nil _ _ _, fun _ _ => rfl⟩
  · obtain ⟨l, rfl⟩ := toG h8
    rw [← qek] at h4
    rw [List.length_map] at hlen h2 ⊢
    intro f hf
    rw [K.f56] at hf
    cases hf
    refine qfy E.toEnv K.P hg (fun x y => cf x.1 y.1) ⟨?_, ?_, ?_⟩ (fun x y => hcmp x.1 y.1 x.2 y.2 g hg) l h4 h5 hlen ?_
    · intro x; simpa [Go.Proofs.ltOf] using irr x.1
    · intro x y z a b; simp only [Go.Proofs.ltOf, decide_eq_true_eq] at *; exact tr _ _ _ a b
    · intro x y z a b; simp only [Go.Proofs.ltOf, decide_eq_false_iff_not] at *; exact nt _ _ _ a b
    · intro l' hp hs
      have hlen' := hp.length_eq
      refine ⟨l'.map (·.1), hp.map _, ?_, .inr ⟨b, o, c, sz, st, pre, rest, by rw [List.length_map, hlen'], by rw [List.length_map, hlen']; exact h2, h3, by rw [Heap.q02, qek], h5, ?_, h7⟩, fun k hk => ?_⟩
      · rw [List.pairwise_map]
        exact hs.imp fun {x y} a => by simpa [Go.Proofs.ltOf] using a
      · rw [← qek, qci, List.length_map]
      · have : k ≠ b := fun e => hk (e ▸ h3)
        rw [Heap.q1e this]
def dotV (e : Ed) : Value := .agg #[.int .i64 e.dev, .int .i64 e.n]
def edV (e : Ed) : Value := .agg (edC e).toArray
def EntB (es : List MapEntry) (L : List Ed) : Prop := es.map (fun e => (e.key, e.val)) = L.map fun x => (dotV x, edV x)
structure BookAt (H : Heap) (b r : Nat) (S : List Ed) : Prop where
  ne : b ≠ r
  qb : H b = some (.own 0 [.map (some r)] 1)
  qr : ∃ es c L, H r = some (.obj (.map es c)) ∧ EntB es.toList L ∧ L.Perm S ∧ Stamped es c
  ok : BkS S
theorem BookAt.le {H H' : Heap} {b r : Nat} {S : List Ed} (x : BookAt H b r S) (le : H.le H') : BookAt H' b r S := by
  obtain ⟨es, c, L, h1, h2⟩ := x.qr
  exact ⟨x.ne, le _ _ x.qb, ⟨es, c, L, le _ _ h1, h2⟩, x.ok⟩
theorem qhr {α β : Type} (g : α → β) {A : List β} : ∀ {L : List α}, A.Perm (L.map g) → ∃ L' : List α, L'.Perm L ∧ A = L'.map g := by
  intro L h
  generalize hB : L.map g = B at h
  induction h generalizing L with
  | nil => exact ⟨[], by have := List.map_eq_nil_iff.1 hB; subst this; exact List.Perm.refl _, rfl⟩
  | cons x _ ih =>
    cases L with
    | nil => cases hB
    | cons y L =>
      simp only [List.map_cons, List.cons.injEq] at hB
      obtain ⟨L', p, rfl⟩ := ih hB.2
      exact ⟨y :: L', p.cons y, by rw [List.map_cons, hB.1]⟩
  | swap x y l =>
    match L, hB with
    | a :: b :: L, hB =>
      simp only [List.map_cons, List.cons.injEq] at hB
      exact ⟨b :: a :: L, List.Perm.swap _ _ _, by simp [hB.1, hB.2.1, hB.2.2]⟩
  | trans _ _ ih1 ih2 =>
    obtain ⟨L2, p2, rfl⟩ := ih2 hB
    obtain ⟨L1, p1, rfl⟩ := ih1 rfl
    exact ⟨L1, p1.trans p2, rfl⟩
theorem qag {R : Ed → Ed → Prop} {S S' : List Ed} (p : S'.Perm S) (ap : S.Pairwise fun x y => R x y ∨ R y x) (ns : S'.Pairwise fun x y => ¬ R y x) : S'.Pairwise R := by
  have ap' : S'.Pairwise fun x y => R x y ∨ R y x := (p.pairwise_iff (fun h => h.symm)).2 ap
  exact (ap'.and ns).imp fun {x y} h => h.1.resolve_right h.2
theorem qe7 (E : EnvT tab) (K : BkOk E) {H : Heap} {bx r : Nat} {es : Array MapEntry} {c : Nat} {S L : List Ed} (qx : H bx = some (.own 0 [.map (some r)] 1)) (qr : H r = some (.obj (.map es c))) (en : EntB es.toList L) (hp : L.Perm S) (st : Stamped es c) (ok : BkS S) :
    ACallN E.toEnv q9j [.func (.func 57) #[] #[.pointer (some ⟨bx, 0, none⟩)]] H fun v H' => H.le H' ∧ ∃ S' : List Ed, S'.Perm S ∧ Ow H H' 15 v S'.length (S'.flatMap edC) := by
  refine q3s q3r q1h rfl rfl (q01 ?_)
  unfold q1h
  simp -implicitDefEqProofs only [zA,reduceIte,reduceCtorEq,Nat.reduceEqDiff,Nat.reduceAdd,Nat.reduceMul,Nat.reduceLT,Nat.reduceSub,Int.reduceLT,Int.reduceLE,Int.reduceEq,Int.reduceNe,Int.reduceSub,Int.reduceAdd,Int.reduceMul,Int.reduceBEq,Int.reduceBNe,Int.reduceGT,Int.reduceGE,Nat.reduceGT,Int.reduceToNat,Int.reduceNeg,Nat.reduceLeDiff,Nat.reduceBEq,Nat.reduceBneDiff]
  intro f hf
  have e72 := K.f72
  rw [show q2e = 301 from rfl] at e72
  rw [e72] at hf
  cases hf
  have hval : es.toList.map (·.val) = L.map edV := by
    have := congrArg (List.map Prod.snd) en
    simpa [List.map_map, Function.comp_def] using this
  have h8 : ∀ e ∈ L, e.seen.length = 8 := fun e he => ok.h8 e (hp.mem_iff.1 he)
  refine qkn E.toEnv K.P qx qr st (fun x hx => ?_) ?_ ?_
  · have : x.val ∈ L.map edV := by rw [← hval]; exact List.mem_map_of_mem hx
    obtain ⟨e, he, hxe⟩ := List.mem_map.1 this
    exact ⟨⟨edC e, q5w (h8 e he), fun v hv => List.all_eq_true.1 (qh1 e) v hv⟩, hxe.symm⟩
  · have := congrArg List.length en
    simp only [List.length_map, Array.length_toList] at this
    have := hp.length_eq
    have := ok.len
    omega
  · intro v h' ss le1 ow hperm
    simp -implicitDefEqProofs only [zA,reduceIte,reduceCtorEq,Nat.reduceEqDiff,Nat.reduceAdd,Nat.reduceMul,Nat.reduceLT,Nat.reduceSub,Int.reduceLT,Int.reduceLE,Int.reduceEq,Int.reduceNe,Int.reduceSub,Int.reduceAdd,Int.reduceMul,Int.reduceBEq,Int.reduceBNe,Int.reduceGT,Int.reduceGE,Nat.reduceGT,Int.reduceToNat,Int.reduceNeg,Nat.reduceLeDiff,Nat.reduceBEq,Nat.reduceBneDiff]
    refine ⟨le1, ?_⟩
    rw [hval] at hperm
    obtain ⟨L', p', e'⟩ := qhr edV hperm
    have hc : ss.map (·.1) = L'.map edC := by
      have h2 : (ss.map qbe).map (fun v => match v with | .agg a => a.toList | _ => []) = (L'.map edV).map (fun v => match v with | .agg a => a.toList | _ => []) := by rw [e']
      rw [List.map_map, List.map_map] at h2
      exact h2
    refine ⟨L', p'.trans hp, ?_⟩
    have hl : ss.length = L'.length := by simpa using congrArg List.length hc
    have hf : q9a ss = L'.flatMap edC := by
      unfold q9a
      rw [hc]; rfl
    rw [← hl, ← hf]
    exact ow
theorem qgv (E : EnvT tab) (K : BkOk E) (H : Heap) (r : Nat) :
    ACallN E.toEnv q2j [.map (some r)] H fun v H' => ∃ bx, H bx = none ∧ H' = H.set bx (.own 0 [.map (some r)] 1) ∧ v = .func (.func 57) #[] #[.pointer (some ⟨bx, 0, none⟩)] := by
  refine q3s q0c q06 rfl rfl (q01 ?_)
  unfold q06
  have e57 := K.f57
  simp -implicitDefEqProofs only [zA,reduceIte,reduceCtorEq,Nat.reduceEqDiff,Nat.reduceAdd,Nat.reduceMul,Nat.reduceLT,Nat.reduceSub,Int.reduceLT,Int.reduceLE,Int.reduceEq,Int.reduceNe,Int.reduceSub,Int.reduceAdd,Int.reduceMul,Int.reduceBEq,Int.reduceBNe,Int.reduceGT,Int.reduceGE,Nat.reduceGT,Int.reduceToNat,Int.reduceNeg,Nat.reduceLeDiff,Nat.reduceBEq,Nat.reduceBneDiff]
  intro bx hbx
  try simp -implicitDefEqProofs only [zA,reduceIte,reduceCtorEq,Nat.reduceEqDiff,Nat.reduceAdd,Nat.reduceMul,Nat.reduceLT,Nat.reduceSub,Int.reduceLT,Int.reduceLE,Int.reduceEq,Int.reduceNe,Int.reduceSub,Int.reduceAdd,Int.reduceMul,Int.reduceBEq,Int.reduceBNe,Int.reduceGT,Int.reduceGE,Nat.reduceGT,Int.reduceToNat,Int.reduceNeg,Nat.reduceLeDiff,Nat.reduceBEq,Nat.reduceBneDiff,e57]
  exact ⟨bx, hbx, rfl, rfl⟩
theorem qlu (x : Ed) : ¬ cmpD x x < 0 := by rw [qcm]; exact qe2 x
theorem qbm (E : EnvT tab) (K : BkOk E) {H : Heap} {bx r : Nat} {es : Array MapEntry} {c : Nat} {S L : List Ed} (qx : H bx = some (.own 0 [.map (some r)] 1)) (qr : H r = some (.obj (.map es c))) (en : EntB es.toList L) (hp : L.Perm S) (st : Stamped es c) (ok : BkS S) :
    ACallN E.toEnv q8k [.func (.func 57) #[] #[.pointer (some ⟨bx, 0, none⟩)], .func (.func 40) #[] #[]] H fun v H' => H.le H' ∧ Ow H H' 15 v S.length (S.flatMap edC) := by
  refine q3s q2b q16 rfl rfl (q01 ?_)
  unfold q16
  simp -implicitDefEqProofs only [zA,reduceIte,reduceCtorEq,Nat.reduceEqDiff,Nat.reduceAdd,Nat.reduceMul,Nat.reduceLT,Nat.reduceSub,Int.reduceLT,Int.reduceLE,Int.reduceEq,Int.reduceNe,Int.reduceSub,Int.reduceAdd,Int.reduceMul,Int.reduceBEq,Int.reduceBNe,Int.reduceGT,Int.reduceGE,Nat.reduceGT,Int.reduceToNat,Int.reduceNeg,Nat.reduceLeDiff,Nat.reduceBEq,Nat.reduceBneDiff]
  refine (qe7 E K qx qr en hp st ok).mono ?_
  rintro v H1 ⟨le1, S1, p1, ow1⟩
  simp -implicitDefEqProofs only [zA,reduceIte,reduceCtorEq,Nat.reduceEqDiff,Nat.reduceAdd,Nat.reduceMul,Nat.reduceLT,Nat.reduceSub,Int.reduceLT,Int.reduceLE,Int.reduceEq,Int.reduceNe,Int.reduceSub,Int.reduceAdd,Int.reduceMul,Int.reduceBEq,Int.reduceBNe,Int.reduceGT,Int.reduceGE,Nat.reduceGT,Int.reduceToNat,Int.reduceNeg,Nat.reduceLeDiff,Nat.reduceBEq,Nat.reduceBneDiff]
  have h8 : ∀ e ∈ S1, e.seen.length = 8 := fun e he => ok.h8 e (p1.mem_iff.1 he)
  have hl := p1.length_eq
  have hk := ok.len
  refine (qj9 E K h8 ow1 (by omega) K.f40 cmpD qlu (fun x y z a b => by rw [qcm] at *; exact qbx a b) (fun x y z a b => by rw [qcm] at *; unfold q4g at *; omega)
    (fun x y hx hy => (qg3 E _ x y hx hy).mono fun r H' h => h.2)).mono ?_
  rintro u H2 ⟨S2, p2, s2, ow2, k2⟩
  simp -implicitDefEqProofs only [zA,reduceIte,reduceCtorEq,Nat.reduceEqDiff,Nat.reduceAdd,Nat.reduceMul,Nat.reduceLT,Nat.reduceSub,Int.reduceLT,Int.reduceLE,Int.reduceEq,Int.reduceNe,Int.reduceSub,Int.reduceAdd,Int.reduceMul,Int.reduceBEq,Int.reduceBNe,Int.reduceGT,Int.reduceGE,Nat.reduceGT,Int.reduceToNat,Int.reduceNeg,Nat.reduceLeDiff,Nat.reduceBEq,Nat.reduceBneDiff]
  have e2 : S2 = S := by
    refine q8d qe2 (fun x y z => qbx) (p2.trans p1) ?_ ok.rise
    refine qag (p2.trans p1) (ok.rise.imp fun h => .inl h) ?_
    exact s2.imp fun {x y} h => by rw [qcm] at h; exact h
  subst e2
  refine ⟨fun k x hx => ?_, ow2⟩
  rw [k2 k (by rw [hx]; simp)]
  exact le1 k x hx
theorem oev_fv {fid : Nat → Option FuncId} {n : Nat} {g : FuncId} (h : fid n = some g) (t : T) : oev fid t (.f n) = some (.func (.func g) #[] #[]) := by
  show (fid n).map _ = _
  rw [h]; rfl
theorem qe5 (E : EnvT tab) (K : BkOk E) {H : Heap} {b r : Nat} {S : List Ed} (B : BookAt H b r S) :
    ACallN E.toEnv qd6 [.pointer (some ⟨b, 0, none⟩)] H fun v H' => H.le H' ∧ Ow H H' 15 v S.length (S.flatMap edC) := by
  obtain ⟨es, c, L, qr, en, hp, st⟩ := B.qr
  refine q3s q7y q4l rfl rfl (q01 ?_)
  unfold q4l
  have cb : q1r H ⟨b, 0, none⟩ = some (.map (some r)) := by rw [q4n B.qb (by simp)]; rfl
  have e40 := oev_fv K.f40
  simp -implicitDefEqProofs only [zA,reduceIte,reduceCtorEq,Nat.reduceEqDiff,Nat.reduceAdd,Nat.reduceMul,Nat.reduceLT,Nat.reduceSub,Int.reduceLT,Int.reduceLE,Int.reduceEq,Int.reduceNe,Int.reduceSub,Int.reduceAdd,Int.reduceMul,Int.reduceBEq,Int.reduceBNe,Int.reduceGT,Int.reduceGE,Nat.reduceGT,Int.reduceToNat,Int.reduceNeg,Nat.reduceLeDiff,Nat.reduceBEq,Nat.reduceBneDiff,cb]
  refine (qgv E K H r).mono ?_
  rintro v H1 ⟨bx, hbx, rfl, rfl⟩
  have le1 := Heap.q0v (Heap.q0e H) hbx (.own 0 [.map (some r)] 1)
  simp -implicitDefEqProofs only [zA,reduceIte,reduceCtorEq,Nat.reduceEqDiff,Nat.reduceAdd,Nat.reduceMul,Nat.reduceLT,Nat.reduceSub,Int.reduceLT,Int.reduceLE,Int.reduceEq,Int.reduceNe,Int.reduceSub,Int.reduceAdd,Int.reduceMul,Int.reduceBEq,Int.reduceBNe,Int.reduceGT,Int.reduceGE,Nat.reduceGT,Int.reduceToNat,Int.reduceNeg,Nat.reduceLeDiff,Nat.reduceBEq,Nat.reduceBneDiff,e40]
  refine (qbm E K (Heap.q02 _ _ _) (le1 _ _ qr) en hp st B.ok).mono ?_
  rintro v H2 ⟨le2, ow⟩
  simp -implicitDefEqProofs only [zA,reduceIte,reduceCtorEq,Nat.reduceEqDiff,Nat.reduceAdd,Nat.reduceMul,Nat.reduceLT,Nat.reduceSub,Int.reduceLT,Int.reduceLE,Int.reduceEq,Int.reduceNe,Int.reduceSub,Int.reduceAdd,Int.reduceMul,Int.reduceBEq,Int.reduceBNe,Int.reduceGT,Int.reduceGE,Nat.reduceGT,Int.reduceToNat,Int.reduceNeg,Nat.reduceLeDiff,Nat.reduceBEq,Nat.reduceBneDiff]
  exact ⟨Heap.q07 le1 le2, ow.since le1⟩
end Go.Bb
